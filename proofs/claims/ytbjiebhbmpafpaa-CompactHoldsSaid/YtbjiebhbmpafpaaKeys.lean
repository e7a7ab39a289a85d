/- law11.keys answers the keys in order. Condition: the log is made (LogRow). -/
import Derived.Test.YtbjiebhbmpafpaaThen
namespace Go.Proofs.Ytbjiebhbmpafpaa
open Go.RowKit Go.Shelf
set_option maxRecDepth 100000
attribute [local go_sem] Oper.semAt_some

/-! ### keys -/
theorem run_equalIn_func {P : Program} (w : World) (d : Nat) (t : TypeId) {ps rs : Array TypeId} {v : Bool} (fn : Fn) (fi ca : Array Value) (h : P.underlying t = some (.func ps rs v)) : (Op.equalIn (d + 1) t (.func fn fi ca) .nilFunc).run P w = .ok false w := by
  simp [Op.equalIn, run_underlying h]
@[go_sem] theorem neq_seq (w : World) (fn : Fn) (fi ca : Array Value) : (binOp .neq 61 (.func fn fi ca) .nilFunc).run Try.prog w = .ok (.bool true) w := by
  simp only [binOp]
  simp [Op.equal, Op.maxDepth, run_equalIn_func w 9999 _ fn fi ca Try.underlying61]
@[go_sem] theorem eql_seq (w : World) (fn : Fn) (fi ca : Array Value) : (binOp .eql 61 (.func fn fi ca) .nilFunc).run Try.prog w = .ok (.bool false) w := by
  simp only [binOp]
  simp [Op.equal, Op.maxDepth, run_equalIn_func w 9999 _ fn fi ca Try.underlying61]
def keysOf (L : List (Nat × Ent)) : ByteArray := L.foldl (fun s g => s ++ g.2.key) ⟨#[]⟩
structure KInv (w : World) (b : Nat) (pre : List Given) (W : World) : Prop where
  r : W.heap[b]? = some (.cells #[.string (keysOf (pre.map keyG))] 9 (0, 0))
  pu : Pure w W
  sz : (keysOf (pre.map keyG)).size ≤ 250 * pre.length
theorem KInv.quiet {w : World} {b : Nat} {pre : List Given} {A B : World} (h : KInv w b pre A) {N : Nat} (hN : w.heap.size ≤ N) (hq : Quiet N A B) : KInv w b pre B := ⟨hq.cells h.r, hq.mod h.pu hN, h.sz⟩

def KAx (w : World) (p B : Nat) (It : Nat → Prop) (N : Nat) (pre : List Given) (x : Given) (a' : Act) (W : World) : Prop :=
  ∃ b8 va vn vc, x.2.2 = .slice va vn vc ∧ KInv w w.heap.size pre W ∧ W.heap[b8]? = some (.cells #[.string x.2.1.key, x.2.2, .int .u64 x.2.1.dl, .int .u64 x.2.1.birth] 48 (0, 0)) ∧ N ≤ b8 ∧ N ≤ W.heap.size ∧ x.2.1.key.size ≤ 250 ∧ pre.length ≤ 4194304 ∧
    a' = { tmps := #[.pointer (some ⟨p, 0, none⟩), undef, .string ⟨#[]⟩, .pointer (some ⟨w.heap.size, 0, none⟩), .func (.func 70) #[] #[.pointer (some ⟨B, 0, none⟩)], undef, .pointer (some ⟨b8, 0, none⟩), .pointer (some ⟨p, 0, none⟩),
      .func (.func 70) #[] #[.pointer (some ⟨B, 0, none⟩)], .func (.func 70) #[] #[.pointer (some ⟨B, 0, none⟩)], .bool true, .func (.func 70) #[] #[.pointer (some ⟨B, 0, none⟩)],
      .int .u32 x.1, .agg #[.string x.2.1.key, x.2.2, .int .u64 x.2.1.dl, .int .u64 x.2.1.birth], undef, undef, undef, undef, undef], defers := [] }
theorem KAx.quiet {w : World} {p B : Nat} {It : Nat → Prop} {N : Nat} {pre : List Given} {x : Given} {a' : Act} {A W : World} (h : KAx w p B It N pre x a' A) (hN : w.heap.size ≤ N) (hq : Quiet N A W) : KAx w p B It N pre x a' W := by
  obtain ⟨b8, va, vn, vc, h1, h2, h3, h4, h5, h6⟩ := h
  exact ⟨b8, va, vn, vc, h1, h2.quiet hN hq, hq.cells h3, h4, Nat.le_trans h5 (Mod.size hq), h6⟩

set_option maxHeartbeats 1000000 in
theorem keys_any {w : World} {D : Nat → Prop} {p : Nat} {sv : Value} {M : List (Option Ent × Value)} (h : LogRow w D p sv M) :
    Calls Try.prog 59 #[.pointer (some ⟨p, 0, none⟩)] w fun e w' => e = .returned (.string (keysOf (live (M.map Prod.fst)))) ∧ Pure w w' := by
  have HL := Lib.hid h
  clear h
  refine (callsIn_wide (n := 0)).1 (callsIn_of_wp_marks Try.func59 rfl trivial ?_ rfl)
  simp only [Try.ntmps59, List.size_toArray, List.length_cons, List.length_nil, Nat.reduceAdd, Nat.reduceSub, Array.replicate_succ, Array.replicate_zero, List.push_toArray, List.append_toArray, List.nil_append, List.cons_append]
  gi_wp2_with (first
    | (gi_at_call 27; refine (callsIn_wide.2 (All_any (HL.out.pure (by (repeat' (first | (with_reducible exact Mod.refl _ _) | (with_reducible refine Mod.alloc ?_ _) | (with_reducible refine Mod.drew ?_) | (with_reducible refine Mod.drewN ?_ _) | (with_reducible refine Mod.setCell ?_ ?_ _) | (refine Mod.then ?_ (by with_reducible assumption) ?_))) <;> (all_goals (intros; first | (exfalso; assumption) | omega | (simp at *; done) | (simp at *; omega))))))).mono ?_; rintro e w3 ⟨B, a, c, rfl, hit, hp3, hB, hfr⟩))
  have HI := Lib.hid hit
  have hItlt : ∀ k, iterBlocks B (.slice a M.length c) M k → k < w3.heap.size := by
    rintro k (rfl | h | ⟨e, v, hm, h⟩)
    · exact lt_of_block hit.box
    · exact owns_lt hit.row h
    · exact owns_lt (hit.vals e v hm) h
  have hw3 : w.heap.size < w3.heap.size := by have := hp3.size; simp at this; omega
  have hIq : ¬ iterBlocks B (.slice a M.length c) M w.heap.size := by
    simp at hB
    rintro (h | h | ⟨e, v, hm, h⟩)
    · omega
    · have := hfr _ h; simp at this; omega
    · have := owns_lt (HL.out.vals e v hm) h; omega
  have hI0 : KInv w w.heap.size [] w3 := ⟨hp3.heap (fun h => h) (heap_new rfl), (by have := (Mod.refl (fun _ => False) w).alloc (.cells #[.string ⟨#[]⟩] 9); exact this.trans hp3), Nat.le_refl _⟩
  have HIQ := Lib.hid hIq
  clear hit hp3 hB hfr hIq
  generalize hIt : iterBlocks B (.slice a M.length c) M = It at *
  refine wp_range (gf := 70) (lb := #[.pointer (some ⟨B, 0, none⟩)]) rfl (enters_of Try.func70 (by kernel_rfl) rfl) (It := It) (hIt ▸ All_iter HI.out w3.heap.size (Nat.le_refl _)) hItlt (fun _ => rfl)
    (fun pre W => KInv w w.heap.size pre W ∧ w3.heap.size ≤ W.heap.size) (fun _ _ _ => False) ?hI ?hIx ⟨hI0, Nat.le_refl _⟩ (KAx w p B It w3.heap.size) ?hAx ?assign ?body ?done ?stop
  case hI => exact fun pre A B ⟨h, hz⟩ hq => ⟨h.quiet (by omega) hq, Nat.le_trans hz (Mod.size hq)⟩
  case hIx => exact fun _ _ _ _ h _ => h
  case hAx => exact fun _ _ _ _ _ h hq => h.quiet (by omega) hq
  case assign =>
    rintro l pre ⟨i, x, v⟩ W K ⟨hI, hWs⟩ hG hK
    obtain ⟨va, vc, hv, _⟩ := owns_form hG.2.1
    obtain ⟨post, hpost⟩ := hG.1
    have hmem := live_mem (g := (i, x)) (by rw [hpost]; simp [keyG])
    have hkey : x.key.size ≤ 250 := (HL.out.ok.ent x (List.mem_of_getElem? hmem)).k1
    have hpl : pre.length ≤ 4194304 := by have := Nat.le_trans (live_length _) HL.out.ok.len; rw [hpost] at this; simp at this; omega
    dsimp only at hv
    subst hv
    dsimp only [encG]
    clear hpost hmem
    have HCI := Lib.hid hI
    have HK := Lib.hid hK
    clear hI hG hK hI0 HI hItlt
    gi_wp2
    have hP : Pure W (W.alloc (.cells #[.string x.key, .slice va (bytesOf x.val).length vc, .int .u64 x.dl, .int .u64 x.birth] 48)) := (Mod.refl _ W).alloc _
    exact HK.out _ _ hP ⟨W.heap.size, va, _, vc, rfl, HCI.out.quiet (N := w3.heap.size) (by omega) (Quiet.of_pure hP), heap_new rfl, hWs, Nat.le_trans hWs hP.size, hkey, hpl, rfl⟩
  case body =>
    rintro l pre ⟨i, x, v⟩ a' W hl hlr ⟨b8, va, vn, vc, rfl, hI, hb8, hN8, hWs, hkey, hpl, rfl⟩
    have hsz := hI.sz
    dsimp only at hkey
    have e8 := cell_of_row W _ 0 _ _ _ hb8
    have h3 := hI.r
    have e3 := cell_of_row W _ 0 _ _ _ h3
    have f3 := fun j => frozen_of_row W _ j _ _ h3
    simp at e8 e3
    have HCI := Lib.hid hI
    clear hI hI0 HI hItlt
    generalize hks : keysOf (pre.map keyG) = ks at e3 hsz
    have hsum : ¬ (9223372036854775807 < ks.size + x.key.size) := by omega
    have hsum2 : ks.size + x.key.size ≤ 9223372036854775807 := by omega
    have hksn : keysOf ((pre ++ [(i, x, Value.slice va vn vc)]).map keyG) = ks ++ x.key := by
      rw [← hks]
      simp [keysOf, keyG]
    have HKS := Lib.hid hksn
    have HR := Lib.hid h3
    clear h3 hks hksn
    gi_wp2
    have hM : Mod (fun k => k = w.heap.size) W (W.setCell ⟨w.heap.size, 0, none⟩ (.string (ks ++ x.key))) := (Mod.refl (fun k => k = w.heap.size) W).setCell (p := ⟨w.heap.size, 0, none⟩) (fun _ => rfl) _
    refine ⟨KeepsRec.of_mod hM (fun k hk h => by omega), KeepsIt.of_mod hM (fun k hk h => by subst h; exact HIQ.out hk), ⟨?_, HCI.out.pu.then hM (fun k hk h => by omega), ?_⟩, Nat.le_trans hWs hM.size⟩
    · rw [HKS.out]
      simpa using heap_setCell_same W w.heap.size 0 _ _ (.string (ks ++ x.key)) HR.out
    · rw [HKS.out, List.length_append, ByteArray.size_append]
      simp
      omega
  case done =>
    rintro l xs W hl hS ⟨hI, hWs⟩ hK
    have h3 := hI.r
    rw [hS] at h3
    have e3 := cell_of_row W _ 0 _ _ _ h3
    have f3 := fun j => frozen_of_row W _ j _ _ h3
    simp at e3
    have HCI := Lib.hid hI
    have HK := Lib.hid hK
    clear hI hI0 HI hItlt hS hK h3
    gi_wp2
    refine bodyPostM_drained (v := .string (keysOf (live (M.map Prod.fst)))) HK.out (by simp [results, Try.results59, go_sem]) ⟨rfl, (Quiet.putObj (N := w3.heap.size) _ hl HK.out rfl).mod HCI.out.pu (by omega)⟩
  case stop => exact fun _ _ _ _ _ h _ => h.elim
end Go.Proofs.Ytbjiebhbmpafpaa
