/- Lemmas and contracts of functions, strung together out of 5 texts. No condition. -/
import Derived.Test.YtapplindfijngaaGreatJPfDictGrows11
import Derived.Test.YtapplindfijngaaGreatJPfDictGrows7
/- law11.keys answers the keys in order. Condition: the log is made (LogRow). -/
namespace Go.Proofs.YtapplindfijngaaGreat
open Go.RowKit Go.Shelf
set_option maxRecDepth 100000
attribute [local go_sem] Oper.semAt_some

/-! ### keys -/
theorem run_equalIn_func {P : Program} (w : World) (d : Nat) (t : TypeId) {ps rs : Array TypeId} {v : Bool} (fn : Fn) (fi ca : Array Value) (h : P.underlying t = some (.func ps rs v)) : (Op.equalIn (d + 1) t (.func fn fi ca) .nilFunc).run P w = .ok false w := by
  simp [Op.equalIn, run_underlying h]
@[go_sem] theorem neq_seq (w : World) (fn : Fn) (fi ca : Array Value) : (binOp .neq 99 (.func fn fi ca) .nilFunc).run Tryz.prog w = .ok (.bool true) w := by
  simp only [binOp]
  simp [Op.equal, Op.maxDepth, run_equalIn_func w 9999 _ fn fi ca Tryz.underlying99]
@[go_sem] theorem eql_seq (w : World) (fn : Fn) (fi ca : Array Value) : (binOp .eql 99 (.func fn fi ca) .nilFunc).run Tryz.prog w = .ok (.bool false) w := by
  simp only [binOp]
  simp [Op.equal, Op.maxDepth, run_equalIn_func w 9999 _ fn fi ca Tryz.underlying99]
def keysOf (L : List (Nat × Ent)) : ByteArray := L.foldl (fun s g => s ++ g.2.key) ⟨#[]⟩
structure KInv (w : World) (b : Nat) (pre : List Given) (W : World) : Prop where
  r : W.heap[b]? = some (.cells #[.string (keysOf (pre.map keyG))] 9 (0, 0))
  pu : Pure w W
  sz : (keysOf (pre.map keyG)).size ≤ 250 * pre.length
theorem KInv.quiet {w : World} {b : Nat} {pre : List Given} {A B : World} (h : KInv w b pre A) {N : Nat} (hN : w.heap.size ≤ N) (hq : Quiet N A B) : KInv w b pre B := ⟨hq.cells h.r, hq.mod h.pu hN, h.sz⟩

def KAx (w : World) (p B : Nat) (It : Nat → Prop) (N : Nat) (pre : List Given) (x : Given) (a' : Act) (W : World) : Prop :=
  ∃ b8 va vn vc, x.2.2 = .slice va vn vc ∧ KInv w w.heap.size pre W ∧ W.heap[b8]? = some (.cells #[.string x.2.1.key, x.2.2, .int .u64 x.2.1.dl, .int .u64 x.2.1.birth] 42 (0, 0)) ∧ N ≤ b8 ∧ N ≤ W.heap.size ∧ x.2.1.key.size ≤ 250 ∧ pre.length ≤ 4194304 ∧
    a' = { tmps := #[.pointer (some ⟨p, 0, none⟩), undef, .string ⟨#[]⟩, .pointer (some ⟨w.heap.size, 0, none⟩), .func (.func 127) #[] #[.pointer (some ⟨B, 0, none⟩)], undef, .pointer (some ⟨b8, 0, none⟩), .pointer (some ⟨p, 0, none⟩),
      .func (.func 127) #[] #[.pointer (some ⟨B, 0, none⟩)], .func (.func 127) #[] #[.pointer (some ⟨B, 0, none⟩)], .bool true, .func (.func 127) #[] #[.pointer (some ⟨B, 0, none⟩)],
      .int .u32 x.1, .agg #[.string x.2.1.key, x.2.2, .int .u64 x.2.1.dl, .int .u64 x.2.1.birth], undef, undef, undef, undef, undef], defers := [] }
theorem KAx.quiet {w : World} {p B : Nat} {It : Nat → Prop} {N : Nat} {pre : List Given} {x : Given} {a' : Act} {A W : World} (h : KAx w p B It N pre x a' A) (hN : w.heap.size ≤ N) (hq : Quiet N A W) : KAx w p B It N pre x a' W := by
  obtain ⟨b8, va, vn, vc, h1, h2, h3, h4, h5, h6⟩ := h
  exact ⟨b8, va, vn, vc, h1, h2.quiet hN hq, hq.cells h3, h4, Nat.le_trans h5 (Mod.size hq), h6⟩

set_option maxHeartbeats 1000000 in
theorem keys_any {w : World} {D : Nat → Prop} {p : Nat} {sv : Value} {M : List (Option Ent × Value)} (h : LogRow w D p sv M) :
    Calls Tryz.prog 88 #[.pointer (some ⟨p, 0, none⟩)] w fun e w' => e = .returned (.string (keysOf (live (M.map Prod.fst)))) ∧ Pure w w' := by
  have HL := Lib.hid h
  clear h
  refine (callsIn_wide (n := 0)).1 (callsIn_of_wp_marks Tryz.func88 rfl trivial ?_ rfl)
  simp only [Tryz.ntmps88, List.size_toArray, List.length_cons, List.length_nil, Nat.reduceAdd, Nat.reduceSub, Array.replicate_succ, Array.replicate_zero, List.push_toArray, List.append_toArray, List.nil_append, List.cons_append]
  gi_wp2_with (first
    | (gi_at_call 76; refine (callsIn_wide.2 (All_any (HL.out.pure (by (repeat' (first | (with_reducible exact Mod.refl _ _) | (with_reducible refine Mod.alloc ?_ _) | (with_reducible refine Mod.drew ?_) | (with_reducible refine Mod.drewN ?_ _) | (with_reducible refine Mod.setCell ?_ ?_ _) | (refine Mod.then ?_ (by with_reducible assumption) ?_))) <;> (all_goals (intros; first | (exfalso; assumption) | omega | (simp at *; done) | (simp at *; omega))))))).mono ?_; rintro e w3 ⟨B, a, c, rfl, hit, hp3, hB, hfr⟩))
  have HI := Lib.hid hit
  have hItlt : ∀ k, iterBlocks B (.slice a M.length c) M k → k < w3.heap.size := by
    rintro k (rfl | h | ⟨e, v, hm, h⟩)
    · exact lt_of_block hit.box
    · exact owns_lt hit.row h
    · exact owns_lt (hit.vals e v hm) h
  have hw3 : w.heap.size < w3.heap.size := by have := hp3.size; simp at this; omega
  have hIq : ¬ iterBlocks B (.slice a M.length c) M w.heap.size := by
    simp at hB
    rintro (h | h | ⟨e, v, hm, h⟩)
    · omega
    · have := hfr _ h; simp at this; omega
    · have := owns_lt (HL.out.vals e v hm) h; omega
  have hI0 : KInv w w.heap.size [] w3 := ⟨hp3.heap (fun h => h) (heap_new rfl), (by have := (Mod.refl (fun _ => False) w).alloc (.cells #[.string ⟨#[]⟩] 9); exact this.trans hp3), Nat.le_refl _⟩
  have HIQ := Lib.hid hIq
  clear hit hp3 hB hfr hIq
  generalize hIt : iterBlocks B (.slice a M.length c) M = It at *
  refine wp_range (gf := 127) (lb := #[.pointer (some ⟨B, 0, none⟩)]) rfl (enters_of Tryz.func127 (by kernel_rfl) rfl) (It := It) (hIt ▸ All_iter HI.out w3.heap.size (Nat.le_refl _)) hItlt (fun _ => rfl)
    (fun pre W => KInv w w.heap.size pre W ∧ w3.heap.size ≤ W.heap.size) (fun _ _ _ => False) ?hI ?hIx ⟨hI0, Nat.le_refl _⟩ (KAx w p B It w3.heap.size) ?hAx ?assign ?body ?done ?stop
  case hI => exact fun pre A B ⟨h, hz⟩ hq => ⟨h.quiet (by omega) hq, Nat.le_trans hz (Mod.size hq)⟩
  case hIx => exact fun _ _ _ _ h _ => h
  case hAx => exact fun _ _ _ _ _ h hq => h.quiet (by omega) hq
  case assign =>
    rintro l pre ⟨i, x, v⟩ W K ⟨hI, hWs⟩ hG hK
    obtain ⟨va, vc, hv, _⟩ := owns_form hG.2.1
    obtain ⟨post, hpost⟩ := hG.1
    have hmem := live_mem (g := (i, x)) (by rw [hpost]; simp [keyG])
    have hkey : x.key.size ≤ 250 := (HL.out.ok.ent x (List.mem_of_getElem? hmem)).k1
    have hpl : pre.length ≤ 4194304 := by have := Nat.le_trans (live_length _) HL.out.ok.len; rw [hpost] at this; simp at this; omega
    dsimp only at hv
    subst hv
    dsimp only [encG]
    clear hpost hmem
    have HCI := Lib.hid hI
    have HK := Lib.hid hK
    clear hI hG hK hI0 HI hItlt
    gi_wp2
    have hP : Pure W (W.alloc (.cells #[.string x.key, .slice va (bytesOf x.val).length vc, .int .u64 x.dl, .int .u64 x.birth] 42)) := (Mod.refl _ W).alloc _
    exact HK.out _ _ hP ⟨W.heap.size, va, _, vc, rfl, HCI.out.quiet (N := w3.heap.size) (by omega) (Quiet.of_pure hP), heap_new rfl, hWs, Nat.le_trans hWs hP.size, hkey, hpl, rfl⟩
  case body =>
    rintro l pre ⟨i, x, v⟩ a' W hl hlr ⟨b8, va, vn, vc, rfl, hI, hb8, hN8, hWs, hkey, hpl, rfl⟩
    have hsz := hI.sz
    dsimp only at hkey
    have e8 := cell_of_row W _ 0 _ _ _ hb8
    have h3 := hI.r
    have e3 := cell_of_row W _ 0 _ _ _ h3
    have f3 := fun j => frozen_of_row W _ j _ _ h3
    simp at e8 e3
    have HCI := Lib.hid hI
    clear hI hI0 HI hItlt
    generalize hks : keysOf (pre.map keyG) = ks at e3 hsz
    have hsum : ¬ (9223372036854775807 < ks.size + x.key.size) := by omega
    have hsum2 : ks.size + x.key.size ≤ 9223372036854775807 := by omega
    have hksn : keysOf ((pre ++ [(i, x, Value.slice va vn vc)]).map keyG) = ks ++ x.key := by
      rw [← hks]
      simp [keysOf, keyG]
    have HKS := Lib.hid hksn
    have HR := Lib.hid h3
    clear h3 hks hksn
    gi_wp2
    have hM : Mod (fun k => k = w.heap.size) W (W.setCell ⟨w.heap.size, 0, none⟩ (.string (ks ++ x.key))) := (Mod.refl (fun k => k = w.heap.size) W).setCell (p := ⟨w.heap.size, 0, none⟩) (fun _ => rfl) _
    refine ⟨KeepsRec.of_mod hM (fun k hk h => by omega), KeepsIt.of_mod hM (fun k hk h => by subst h; exact HIQ.out hk), ⟨?_, HCI.out.pu.then hM (fun k hk h => by omega), ?_⟩, Nat.le_trans hWs hM.size⟩
    · rw [HKS.out]
      simpa using heap_setCell_same W w.heap.size 0 _ _ (.string (ks ++ x.key)) HR.out
    · rw [HKS.out, List.length_append, ByteArray.size_append]
      simp
      omega
  case done =>
    rintro l xs W hl hS ⟨hI, hWs⟩ hK
    have h3 := hI.r
    rw [hS] at h3
    have e3 := cell_of_row W _ 0 _ _ _ h3
    have f3 := fun j => frozen_of_row W _ j _ _ h3
    simp at e3
    have HCI := Lib.hid hI
    have HK := Lib.hid hK
    clear hI hI0 HI hItlt hS hK h3
    gi_wp2
    refine bodyPostM_drained (v := .string (keysOf (live (M.map Prod.fst)))) HK.out (by simp [results, Tryz.results88, go_sem]) ⟨rfl, (Quiet.putObj (N := w3.heap.size) _ hl HK.out rfl).mod HCI.out.pu (by omega)⟩
  case stop => exact fun _ _ _ _ _ h _ => h.elim
end Go.Proofs.YtapplindfijngaaGreat

/- compact.Due and its reference answer dueM. Condition: the numbers are ints. -/
namespace Go.Proofs.YtapplindfijngaaGreat
open Go.RowKit Go.Shelf
set_option maxRecDepth 100000

/-! ### Due -/
def dueM (a b : Int) : Bool := decide (0 ≤ b) && decide (16 < a) && decide (2 * b ≤ a - 17)
theorem Due_any (w : World) (a b : Int) (a0 : -9223372036854775808 ≤ a) (a1 : a ≤ 9223372036854775807) :
    Calls Tryz.prog 93 #[.int .i64 a, .int .i64 b] w fun e w' => e = .returned (.bool (dueM a b)) ∧ w = w' := by
  unfold dueM
  by_cases h1 : 0 ≤ b
  · by_cases h2 : 16 < a
    · have h3 : (a - 16 - 1).tdiv 2 = (a - 17) / 2 := by rw [Int.tdiv_eq_ediv_of_nonneg (by omega)]; omega
      by_cases h4 : 2 * b ≤ a - 17
      · have h5 : b ≤ (a - 17) / 2 := by omega
        go_enter Tryz.func93, Tryz.ntmps93
        go_wp2
        go_ret
        exact ⟨by simp <;> omega, rfl⟩
      · have h5 : (a - 17) / 2 < b := by omega
        go_enter Tryz.func93, Tryz.ntmps93
        go_wp2
        go_ret
        exact ⟨by simp <;> omega, rfl⟩
    · have h2' : a ≤ 16 := by omega
      go_enter Tryz.func93, Tryz.ntmps93
      go_wp2
      go_ret
      exact ⟨by simp <;> omega, rfl⟩
  · have h1' : b < 0 := by omega
    go_enter Tryz.func93, Tryz.ntmps93
    go_wp2
    go_ret
    exact ⟨by simp <;> omega, rfl⟩

end Go.Proofs.YtapplindfijngaaGreat

/- The contracts of the log of layer 9 and of compact.Log on lists of entries. Conditions: the log is made (LogAt), the bounds that each theorem names. -/
namespace Go.Proofs.YtapplindfijngaaGreat
open Go.RowKit Go.Shelf
set_option maxRecDepth 100000

/-- What compact.Log returns: the log of the entries, and their old slot numbers. -/
def packed (L : List (Option Ent)) : List (Option Ent) := (live L).map (fun g => some g.2)
def olds (L : List (Option Ent)) : List Nat := (live L).map Prod.fst
def compactA (w : World) (L : List (Option Ent)) (e : Ending) (w' : World) : Prop :=
  ∃ q a c D, e = .returned (.tuple #[logPtr q, .agg #[.slice a (olds L).length c, .int .i64 L.length], .int .i64 0]) ∧ LogAt w' D q (packed L) ∧ U32Row w' a c (olds L) ∧ Pure w w' ∧ (∀ k, D k → w.heap.size ≤ k) ∧ Fresh w (.slice a (olds L).length c)
theorem olds_length (L : List (Option Ent)) : (olds L).length = (live L).length := by simp [olds]
theorem compactA_ok {w : World} {D : Nat → Prop} {p : Nat} {L : List (Option Ent)} (h : LogAt w D p L) : Calls Tryz.prog 87 #[logPtr p] w (compactA w L) := by
  obtain ⟨sv, M, rfl, h⟩ := h
  refine Calls.mono (compact_Log h) ?_
  rintro e w' ⟨q, a, c, D', sv', M', rfl, h1, h2, h3, h4, h5, h6⟩
  refine ⟨q, a, c, D', by rw [olds_length], ?_, ?_, h4, h5, by rw [olds_length]; exact h6⟩
  · have := h1.toAt
    rw [h2] at this
    exact this
  · unfold U32Row
    rw [olds_length, olds, u32s, List.map_map]
    exact h3
theorem liveFrom_up (L : List (Option Ent)) : ∀ i, ((liveFrom i L).map Prod.fst).Pairwise (· < ·) := by
  induction L with
  | nil => intro i; simp [liveFrom]
  | cons o L ih =>
    intro i
    cases o with
    | none => exact ih (i + 1)
    | some e =>
      simp only [liveFrom, List.map_cons, List.pairwise_cons]
      refine ⟨fun y hy => ?_, ih (i + 1)⟩
      obtain ⟨g, hg, rfl⟩ := List.mem_map.1 hy
      have := (liveFrom_mem hg).1
      omega
theorem olds_rising {L : List (Option Ent)} (h : L.length ≤ 4194304) : Rising (olds L) := by
  refine ⟨liveFrom_up L 0, ?_, by rw [olds_length]; exact Nat.le_trans (live_length L) h⟩
  intro x hx
  obtain ⟨g, hg, rfl⟩ := List.mem_map.1 hx
  have := (List.getElem?_eq_some_iff.1 (live_mem hg)).1
  omega
theorem olds_lt {L : List (Option Ent)} : ∀ x ∈ olds L, x < L.length := by
  intro x hx
  obtain ⟨g, hg, rfl⟩ := List.mem_map.1 hx
  exact (List.getElem?_eq_some_iff.1 (live_mem hg)).1
theorem keysA {w : World} {D : Nat → Prop} {p : Nat} {L : List (Option Ent)} (h : LogAt w D p L) : Calls Tryz.prog 88 #[logPtr p] w fun e w' => e = .returned (.string (keysOf (live L))) ∧ Pure w w' := by
  obtain ⟨sv, M, rfl, h⟩ := h
  exact keys_any h

/-! ### to, from, with numerals -/
theorem toZ {w : World} {a : Option Addr} {c : Nat} {xs : List Nat} (h : U32Row w a c xs) (hr : Rising xs) (k : Nat) (hk : xs.length = k) (n o want no : Int) (r : Bool) (ho : 0 ≤ o ∧ o ≤ 4294967295 ∧ 0 ≤ want ∧ 0 ≤ no) (hd : decide (toM xs o.toNat = (want.toNat, no.toNat)) = r) :
    Calls Tryz.prog 90 #[.agg #[.slice a k c, .int .i64 n], .int .u32 o, .int .u32 want, .int .i64 no] w fun e w' => e = .returned (.bool r) ∧ Pure w w' := by
  subst hk hd
  obtain ⟨o, rfl⟩ := Int.eq_ofNat_of_zero_le ho.1
  obtain ⟨want, rfl⟩ := Int.eq_ofNat_of_zero_le ho.2.2.1
  obtain ⟨no, rfl⟩ := Int.eq_ofNat_of_zero_le ho.2.2.2
  exact law_to h hr n o want no (by omega)
theorem fromZ {w : World} {a : Option Addr} {c : Nat} {xs : List Nat} (h : U32Row w a c xs) (hr : xs.length ≤ 4194304) (k : Nat) (hk : xs.length = k) (n o want no : Int) (r : Bool) (ho : 0 ≤ o ∧ o ≤ 4294967295 ∧ 0 ≤ want ∧ 0 ≤ no) (hd : decide (fromM xs o.toNat = (want.toNat, no.toNat)) = r) :
    Calls Tryz.prog 91 #[.agg #[.slice a k c, .int .i64 n], .int .u32 o, .int .u32 want, .int .i64 no] w fun e w' => e = .returned (.bool r) ∧ Pure w w' := by
  subst hk hd
  obtain ⟨o, rfl⟩ := Int.eq_ofNat_of_zero_le ho.1
  obtain ⟨want, rfl⟩ := Int.eq_ofNat_of_zero_le ho.2.2.1
  obtain ⟨no, rfl⟩ := Int.eq_ofNat_of_zero_le ho.2.2.2
  exact law_from h hr n o want no (by omega)
theorem lensZ {w : World} (a : Option Addr) (c : Nat) (k : Nat) (n x y : Int) (r : Bool) (hr : (decide ((k : Int) = x) && decide (n = y)) = r) :
    Calls Tryz.prog 89 #[.agg #[.slice a k c, .int .i64 n], .int .i64 x, .int .i64 y] w fun e w' => e = .returned (.bool r) ∧ Pure w w' := by
  subst hr
  exact law_lens a c k n x y
theorem dueZ (w : World) (a b : Int) (r : Bool) (h : -9223372036854775808 ≤ a ∧ a ≤ 9223372036854775807) (hr : dueM a b = r) : Calls Tryz.prog 93 #[.int .i64 a, .int .i64 b] w fun e w' => e = .returned (.bool r) ∧ w = w' := by
  subst hr
  exact Due_any w a b h.1 h.2
end Go.Proofs.YtapplindfijngaaGreat

/- The reference of layer 9: Copy, Has, Live, Get, Append, Remove of its log. Condition: the log's rows are its own (RefAt). -/
namespace Go.Proofs.YtapplindfijngaaGreat
open Go.RowKit Go.Shelf
set_option maxRecDepth 100000

theorem info_bool : (Tryz.prog.info? 4).map (fun i => (i.zero, i.size, i.bytes)) = some (some (.bool false), 1, 1) := by kernel_rfl

/-! ## The reference's log -/
abbrev RQ := Ent × Value × Bool
def cellsQ (q : RQ) : List Value := entCells q.1 q.2.1
theorem cellsQ_length (q : RQ) : (cellsQ q).length = 4 := rfl
def goneQ (q : RQ) : Value := .bool q.2.2
def absQ (q : RQ) : Ent × Bool := (q.1, q.2.2)
structure RefRow (w : World) (aL : Option Addr) (cL : Nat) (aG : Option Addr) (cG : Nat) (Q : List RQ) : Prop where
  L : w.ownsRow 0 42 4 (.slice aL Q.length cL) Q.length (Q.flatMap cellsQ)
  G : w.ownsRow 0 4 1 (.slice aG Q.length cG) Q.length (Q.map goneQ)
  vals : ∀ q ∈ Q, BytesAt w q.2.1 (bytesOf q.1.val)
  ok : ∀ q ∈ Q, q.1.Ok
  len : Q.length ≤ 4194304
theorem RefRow.pure {w w' : World} {aL : Option Addr} {cL : Nat} {aG : Option Addr} {cG : Nat} {Q : List RQ} (h : RefRow w aL cL aG cG Q) (hm : Pure w w') : RefRow w' aL cL aG cG Q :=
  ⟨owns_mod h.L hm (fun _ _ h => h), owns_mod h.G hm (fun _ _ h => h), fun q hq => owns_mod (h.vals q hq) hm (fun _ _ h => h), h.ok, h.len⟩
theorem RefRow.nil (w : World) : RefRow w none 0 none 0 [] := ⟨World.ownsRow_nil _ _ _ _, World.ownsRow_nil _ _ _ _, (fun _ h => (by cases h)), (fun _ h => (by cases h)), by decide⟩

def refCopyPost (w : World) (Q : List RQ) (e : Ending) (w' : World) : Prop :=
  ∃ aL cL aG cG Q', e = .returned (.agg #[.slice aL Q'.length cL, .slice aG Q'.length cG]) ∧ Q'.map absQ = Q.map absQ ∧ RefRow w' aL cL aG cG Q' ∧ Fresh w (.slice aL Q'.length cL) ∧ Fresh w (.slice aG Q'.length cG) ∧ Pure w w'

structure CpInv (w : World) (b : Nat) (aL : Option Addr) (cL : Nat) (aG : Option Addr) (cG : Nat) (Q : List RQ) (k : Nat) (wr : World) : Prop where
  le : k ≤ Q.length
  pu : Pure w wr
  r1 : wr.heap[b]? = some (.cells #[.slice aL Q.length cL, .slice aG Q.length cG] 32 (0, 0))
  r2 : wr.heap[b + 1]? = some (.cells #[.slice none 0 0, .slice none 0 0] 32 (0, 0))
  r3 : ∃ aL' cL' aG' cG' Q', Q'.map absQ = (Q.take k).map absQ ∧ wr.heap[b + 1 + 1]? = some (.cells #[.slice aL' k cL', .slice aG' k cG'] 32 (0, 0)) ∧ RefRow wr aL' cL' aG' cG' Q' ∧
    (∀ g, (Value.slice aL' k cL').ownBlock = some g → b + 1 + 1 < g) ∧ (∀ g, (Value.slice aG' k cG').ownBlock = some g → b + 1 + 1 < g)

/-- Between the two appends of a round. -/
structure CpMid (w : World) (b : Nat) (aL : Option Addr) (cL : Nat) (aG : Option Addr) (cG : Nat) (Q : List RQ) (k : Nat) (Q' : List RQ) (x : Ent) (wr : World) : Prop where
  pu : Pure w wr
  r1 : wr.heap[b]? = some (.cells #[.slice aL Q.length cL, .slice aG Q.length cG] 32 (0, 0))
  r2 : wr.heap[b + 1]? = some (.cells #[.slice none 0 0, .slice none 0 0] 32 (0, 0))
  r3 : ∃ aL' cL' aG' cG' v', wr.heap[b + 1 + 1]? = some (.cells #[.slice aL' (k + 1) cL', .slice aG' k cG'] 32 (0, 0)) ∧
    wr.ownsRow 0 42 4 (.slice aL' (k + 1) cL') (k + 1) (Q'.flatMap cellsQ ++ entCells x v') ∧ wr.ownsRow 0 4 1 (.slice aG' k cG') k (Q'.map goneQ) ∧
    (∀ q ∈ Q', BytesAt wr q.2.1 (bytesOf q.1.val)) ∧ BytesAt wr v' (bytesOf x.val) ∧
    (∀ g, (Value.slice aL' (k + 1) cL').ownBlock = some g → b + 1 + 1 < g) ∧ (∀ g, (Value.slice aG' k cG').ownBlock = some g → b + 1 + 1 < g)

theorem cp_mid {w wr w1 w5 : World} {b : Nat} {aL aG aL' aG' a1 a7 : Option Addr} {cL cG cL' cG' c1 c7 n1 : Nat} {Q Q' : List RQ} {k : Nat} {x : Ent} {cs : Array Value}
    (hb : b = w.heap.size) (pu : Pure w wr) (r1 : wr.heap[b]? = some (.cells #[.slice aL Q.length cL, .slice aG Q.length cG] 32 (0, 0))) (r2 : wr.heap[b + 1]? = some (.cells #[.slice none 0 0, .slice none 0 0] 32 (0, 0)))
    (r3 : wr.heap[b + 1 + 1]? = some (.cells #[.slice aL' k cL', .slice aG' k cG'] 32 (0, 0))) (hR : RefRow wr aL' cL' aG' cG' Q') (hQl : Q'.length = k)
    (fL : ∀ g, (Value.slice aL' k cL').ownBlock = some g → b + 1 + 1 < g) (fG : ∀ g, (Value.slice aG' k cG').ownBlock = some g → b + 1 + 1 < g)
    (hp1 : Pure wr w1) (hr1 : w1.ownsRow 0 5 1 (.slice a1 n1 c1) n1 (bytesOf x.val))
    (hr7 : w5.ownsRow 0 42 4 (.slice a7 (k + 1) c7) (k + 1) (Q'.flatMap cellsQ ++ [.string x.key, .slice a1 n1 c1, .int .u64 x.dl, .int .u64 x.birth]))
    (hg7 : (w1.alloc (.cells cs 42)).grownBy w5 (Value.slice aL' k cL').ownBlock)
    (hb7 : (Value.slice a7 (k + 1) c7).ownBlock = (Value.slice aL' k cL').ownBlock ∨ (Value.slice a7 (k + 1) c7).ownBlock = some (w1.heap.size + 1)) :
    CpMid w b aL cL aG cG Q k Q' x (w5.setCell ⟨b + 1 + 1, 0, none⟩ (.slice a7 (k + 1) c7)) := by
  subst hQl
  have hlr : b + 1 + 1 < wr.heap.size := lt_of_block r3
  have hL1 := owns_mod hR.L hp1 (fun _ _ h => h)
  have hM : Mod (fun k' => (Value.slice aL' Q'.length cL').ownBlock = some k' ∨ k' = b + 1 + 1) w1 (w5.setCell ⟨b + 1 + 1, 0, none⟩ (.slice a7 (Q'.length + 1) c7)) :=
    (((Mod.refl _ w1).alloc _).then (Mod.of_grown (S := fun k' => (Value.slice aL' Q'.length cL').ownBlock = some k' ∨ k' = b + 1 + 1) hg7 (fun k e _ => .inl e)) (fun _ _ h => h)).setCell (fun _ => .inr rfl) _
  have hn : ∀ k', k' ≤ b + 1 → ¬ ((Value.slice aL' Q'.length cL').ownBlock = some k' ∨ k' = b + 1 + 1) := by
    rintro k' hk (h | rfl)
    · have := fL _ h; omega
    · omega
  have m5 : w5.heap[b + 1 + 1]? = some (.cells #[.slice aL' Q'.length cL', .slice aG' Q'.length cG'] 32 (0, 0)) :=
    Mod.heap (Mod.of_grown (S := fun k' => (Value.slice aL' Q'.length cL').ownBlock = some k') hg7 (fun k e _ => e)) (fun e => by have := fL _ e; omega) (heap_keep (hp1.heap (fun h => h) r3))
  have h8 : ∀ g, (Value.slice a7 (Q'.length + 1) c7).ownBlock = some g → b + 1 + 1 < g := by
    intro g hg
    rcases hb7 with e | e <;> rw [e] at hg
    · exact fL g hg
    · have := hp1.size; cases hg; omega
  have nby : ∀ {T k n : Nat} {v : Value} {xs : List Value}, w1.ownsRow 0 T k v n xs → T ≠ 42 → T ≠ 32 → (w5.setCell ⟨b + 1 + 1, 0, none⟩ (.slice a7 (Q'.length + 1) c7)).ownsRow 0 T k v n xs := by
    intro T k n v xs ho h1 h2
    refine owns_mod ho hM (fun g hg h => ?_)
    rcases h with h | h
    · exact owns_apart ho hL1 h1 hg h
    · obtain ⟨c, e⟩ := owns_type ho hg
      rw [h, hp1.heap (fun h => h) r3] at e
      cases e
      exact h2 rfl
  have e1 : n1 = (bytesOf x.val).length := by have := hr1.1; omega
  refine ⟨(pu.trans hp1).then hM (fun k' hk h => hn k' (by omega) h), hM.heap (hn _ (by omega)) (hp1.heap (fun h => h) r1), hM.heap (hn _ (by omega)) (hp1.heap (fun h => h) r2), a7, c7, aG', cG', .slice a1 n1 c1, ?_, ?_,
    nby (owns_mod hR.G hp1 (fun _ _ h => h)) (by decide) (by decide), fun q hq => nby (owns_mod (hR.vals q hq) hp1 (fun _ _ h => h)) (by decide) (by decide), ?_, h8, fG⟩
  · simpa using heap_setCell_same w5 (b + 1 + 1) 0 _ _ (.slice a7 (Q'.length + 1) c7) m5
  · exact owns_mod hr7 ((Mod.refl (fun k' => k' = b + 1 + 1) w5).setCell (p := ⟨b + 1 + 1, 0, none⟩) (fun _ => rfl) _) (fun g hg h => by have := h8 g hg; omega)
  · unfold BytesAt
    subst e1
    exact nby hr1 (by decide) (by decide)

theorem cp_end {w wc w5 : World} {b : Nat} {aL aG aL' aG' a7 : Option Addr} {cL cG cL' cG' c7 : Nat} {Q Q' : List RQ} {k : Nat} {x : Ent} {v v' : Value} {gone : Bool} {cs : Array Value}
    (hb : b = w.heap.size) (hk : k < Q.length) (he : Q[k]? = some (x, v, gone)) (hlen : Q.length ≤ 4194304) (hxok : x.Ok) (hQ' : Q'.map absQ = (Q.take k).map absQ) (hQok : ∀ q ∈ Q', q.1.Ok) (hQl : Q'.length = k)
    (pu : Pure w wc) (r1 : wc.heap[b]? = some (.cells #[.slice aL Q.length cL, .slice aG Q.length cG] 32 (0, 0))) (r2 : wc.heap[b + 1]? = some (.cells #[.slice none 0 0, .slice none 0 0] 32 (0, 0)))
    (r3 : wc.heap[b + 1 + 1]? = some (.cells #[.slice aL' (k + 1) cL', .slice aG' k cG'] 32 (0, 0))) (hL : wc.ownsRow 0 42 4 (.slice aL' (k + 1) cL') (k + 1) (Q'.flatMap cellsQ ++ entCells x v'))
    (hG : wc.ownsRow 0 4 1 (.slice aG' k cG') k (Q'.map goneQ)) (hvs : ∀ q ∈ Q', BytesAt wc q.2.1 (bytesOf q.1.val)) (hv' : BytesAt wc v' (bytesOf x.val))
    (fL : ∀ g, (Value.slice aL' (k + 1) cL').ownBlock = some g → b + 1 + 1 < g) (fG : ∀ g, (Value.slice aG' k cG').ownBlock = some g → b + 1 + 1 < g)
    (hr7 : w5.ownsRow 0 4 1 (.slice a7 (k + 1) c7) (k + 1) (Q'.map goneQ ++ [.bool gone]))
    (hg7 : (wc.alloc (.cells cs 4)).grownBy w5 (Value.slice aG' k cG').ownBlock)
    (hb7 : (Value.slice a7 (k + 1) c7).ownBlock = (Value.slice aG' k cG').ownBlock ∨ (Value.slice a7 (k + 1) c7).ownBlock = some (wc.heap.size + 1)) :
    CpInv w b aL cL aG cG Q (k + 1) (w5.setCell ⟨b + 1 + 1, 1, none⟩ (.slice a7 (k + 1) c7)) := by
  have hlr : b + 1 + 1 < wc.heap.size := lt_of_block r3
  have hM : Mod (fun k' => (Value.slice aG' k cG').ownBlock = some k' ∨ k' = b + 1 + 1) wc (w5.setCell ⟨b + 1 + 1, 1, none⟩ (.slice a7 (k + 1) c7)) :=
    (((Mod.refl _ wc).alloc _).then (Mod.of_grown (S := fun k' => (Value.slice aG' k cG').ownBlock = some k' ∨ k' = b + 1 + 1) hg7 (fun k e _ => .inl e)) (fun _ _ h => h)).setCell (fun _ => .inr rfl) _
  have hn : ∀ k', k' ≤ b + 1 → ¬ ((Value.slice aG' k cG').ownBlock = some k' ∨ k' = b + 1 + 1) := by
    rintro k' hk (h | rfl)
    · have := fG _ h; omega
    · omega
  have m5 : w5.heap[b + 1 + 1]? = some (.cells #[.slice aL' (k + 1) cL', .slice aG' k cG'] 32 (0, 0)) :=
    Mod.heap (Mod.of_grown (S := fun k' => (Value.slice aG' k cG').ownBlock = some k') hg7 (fun k e _ => e)) (fun e => by have := fG _ e; omega) (heap_keep r3)
  have h8 : ∀ g, (Value.slice a7 (k + 1) c7).ownBlock = some g → b + 1 + 1 < g := by
    intro g hg
    rcases hb7 with e | e <;> rw [e] at hg
    · exact fG g hg
    · cases hg; omega
  have nby : ∀ {T j n : Nat} {v : Value} {xs : List Value}, wc.ownsRow 0 T j v n xs → T ≠ 4 → T ≠ 32 → (w5.setCell ⟨b + 1 + 1, 1, none⟩ (.slice a7 (k + 1) c7)).ownsRow 0 T j v n xs := by
    intro T j n v xs ho h1 h2
    refine owns_mod ho hM (fun g hg h => ?_)
    rcases h with h | h
    · exact owns_apart ho hG h1 hg h
    · obtain ⟨c, e⟩ := owns_type ho hg
      rw [h, r3] at e
      cases e
      exact h2 rfl
  refine ⟨by omega, pu.then hM (fun k' hk h => hn k' (by omega) h), hM.heap (hn _ (by omega)) r1, hM.heap (hn _ (by omega)) r2, aL', cL', a7, c7, Q' ++ [(x, v', gone)], ?_, ?_, ⟨?_, ?_, ?_, ?_, ?_⟩, fL, h8⟩
  · rw [List.map_append, hQ', List.take_add_one, he]
    simp [absQ]
  · simpa using heap_setCell_same w5 (b + 1 + 1) 1 _ _ (.slice a7 (k + 1) c7) m5
  · rw [List.length_append, hQl, List.flatMap_append]
    simpa [cellsQ] using nby hL (by decide) (by decide)
  · rw [List.length_append, hQl, List.map_append]
    exact owns_mod hr7 ((Mod.refl (fun k' => k' = b + 1 + 1) w5).setCell (p := ⟨b + 1 + 1, 1, none⟩) (fun _ => rfl) _) (fun g hg h => by have := h8 g hg; omega)
  · intro q hq
    rcases List.mem_append.1 hq with h | h
    · exact nby (hvs q h) (by decide) (by decide)
    · rw [List.mem_singleton] at h
      subst h
      exact nby hv' (by decide) (by decide)
  · intro q hq
    rcases List.mem_append.1 hq with h | h
    · exact hQok q h
    · rw [List.mem_singleton] at h
      subst h
      exact hxok
  · rw [List.length_append, hQl]
    simp
    omega

set_option maxHeartbeats 1000000 in
theorem ref_LogCopy {w : World} {aL : Option Addr} {cL : Nat} {aG : Option Addr} {cG : Nat} {Q : List RQ} (h : RefRow w aL cL aG cG Q) :
    Calls Tryz.prog 71 #[.agg #[.slice aL Q.length cL, .slice aG Q.length cG]] w (refCopyPost w Q) := by
  have H := Lib.hid h
  have hlen := h.len
  clear h
  go_enter Tryz.func71, Tryz.ntmps71
  go_wp2
  go_loopw [4] (fun i wr => ∃ k : Nat, i = .int .i64 k ∧ CpInv w w.heap.size aL cL aG cG Q k wr) (fun i _ => Q.length - (intOf i).toNat)
  case atStart =>
    refine ⟨0, rfl, Nat.zero_le _, by (repeat' (first | (with_reducible exact Mod.refl _ _) | (with_reducible refine Mod.alloc ?_ _) | (with_reducible refine Mod.drew ?_) | (with_reducible refine Mod.drewN ?_ _) | (with_reducible refine Mod.setCell ?_ ?_ _) | (refine Mod.then ?_ (by with_reducible assumption) ?_))) <;> (all_goals (intros; first | (exfalso; assumption) | omega | (simp at *; done) | (simp at *; omega))), ?_, ?_, none, 0, none, 0, [], rfl, ?_, RefRow.nil _, (fun g e => by cases e), (fun g e => by cases e)⟩
    · exact heap_keep (heap_keep (heap_new rfl))
    · exact heap_keep (heap_new (by simp))
    · exact heap_new (by simp)
  case round =>
    obtain ⟨k, rfl, hI⟩ := hrel
    obtain ⟨hk, hpu, hr1, hr2, aL', cL', aG', cG', Q', hQ', hr3, hR', hfL, hfG⟩ := hI
    have e1 := cell_of_row wr _ 0 _ _ _ hr1; have e11 := cell_of_row wr _ 1 _ _ _ hr1
    have e3 := cell_of_row wr _ 0 _ _ _ hr3; have e31 := cell_of_row wr _ 1 _ _ _ hr3
    have f3 := fun j => frozen_of_row wr _ j _ _ hr3
    simp at e1 e11 e3 e31
    have HPU := Lib.hid hpu
    have HR1 := Lib.hid hr1
    have HR2 := Lib.hid hr2
    have HR3 := Lib.hid hr3
    have HQ' := Lib.hid hQ'
    have HR' := Lib.hid hR'
    have HFL := Lib.hid hfL
    have HFG := Lib.hid hfG
    have HW := Lib.hid (H.out.pure hpu)
    clear hpu hr1 hr2 hr3 hQ' hR' hfL hfG
    by_cases hlt : k < Q.length
    · have hk1 : (k : Int) < (Q.length : Int) := by omega
      have he := List.getElem?_eq_getElem hlt
      generalize Q[k] = q at he
      obtain ⟨x, v, gone⟩ := q
      obtain ⟨g, _, hsv, _, hg, hc, hf, _⟩ := owns_at HW.out.L (by omega)
      cases hsv
      obtain ⟨g2, _, hsv, _, hg2, hc2, hf2, _⟩ := owns_at HW.out.G (by omega)
      cases hsv
      have hcc : ∀ j u, (cellsQ (x, v, gone))[j]? = some u → wr.cell? ⟨g, k * 4 + j, none⟩ = some u := by
        intro j u hu
        have hj : j < 4 := by rw [← cellsQ_length (x, v, gone)]; exact (List.getElem?_eq_some_iff.1 hu).1
        refine hc _ _ ?_
        rw [flat_get cellsQ 4 cellsQ_length j hj, he]
        exact hu
      have s0 : wr.cell? ⟨g, k * 4, none⟩ = _ := hcc 0 _ rfl; have s1 := hcc 1 _ rfl; have s2 := hcc 2 _ rfl; have s3 := hcc 3 _ rfl
      have sg : wr.cell? ⟨g2, k, none⟩ = some (.bool gone) := hc2 k _ (by rw [List.getElem?_map, he]; rfl)
      have hv := (HW.out.vals _ (List.mem_of_getElem? he)).read (bytesOf_one _)
      have hxok := HW.out.ok _ (List.mem_of_getElem? he)
      obtain ⟨va, vn, vc, rfl, hvl, _⟩ := id hv
      have hvn : vn ≤ 65536 := by have := hxok.v1; rw [bytesOf_length] at hvl; omega
      have HV := Lib.hid hv
      have HE := Lib.hid he
      clear hc hf hc2 hf2 hcc hv hvl he
      dsimp only at s0 s1 s2 s3
      have e3d : wr.drew.cell? ⟨w.heap.size + 1 + 1, 0, none⟩ = some (.slice aL' k cL') := e3
      have hQl : Q'.length = k := by have := congrArg List.length HQ'.out; simp at this; omega
      obtain ⟨i0, hi, iz0, iz1, iz2⟩ := info_parts info_Entry
      go_upto_region 5 with (fail)
      go_cut [] (fun wc => CpMid w w.heap.size (some ⟨g, 0, none⟩) cL (some ⟨g2, 0, none⟩) cG Q k Q' x wc)
      case first =>
        have hlr : w.heap.size + 1 + 1 < wr.heap.size := lt_of_block HR3.out
        go_region_law ((first
          | (go_simp; go_at_call 72; refine Calls.mono (ref_Copy x.key va vn vc x.dl x.birth _ _ HV.out hvn) ?_; rintro e w1 ⟨a1, n1, c1, rfl, hr1, hf1, hp1⟩; have q6 := hp1.cell (fun h => h) e3d; have hl1 : w.heap.size + 1 + 1 < w1.heap.size := Nat.lt_of_lt_of_le hlr hp1.size)
          | (refine step_append_read _ (by rfl) _ _ 29 (by rfl) 42 i0 _ 4 56 Tryz.underlying29 hi iz0 iz1 iz2 rfl (by decide) (.slice aL' k cL') k (Q'.flatMap cellsQ) (by rfl) (hQl ▸ (owns_mod (owns_mod HR'.out.L (Mod.of_drew hp1) (fun _ _ h => h)) ((Mod.refl (fun _ => False) w1).alloc _) (fun _ _ h => h))) _ [.string x.key, .slice a1 n1 c1, .int .u64 x.dl, .int .u64 x.birth] 1 (by rfl) (ReadAt.of_block 1 1 4 (heap_new (by simp)) (by rfl) (by simp [Value.oneCell'])) (by rfl) (by unfold maxLen; omega) (by omega) ?_; intro a7 c7 w5 hr7 hg7 hb7; have m7 := Mod.heap (Mod.of_grown (S := fun k' => (Value.slice aL' k cL').ownBlock = some k') hg7 (fun k e _ => e)) (fun e => (by have := HFL.out _ e; omega)) (heap_keep ((Mod.of_drew hp1).heap (fun h => h) HR3.out)); have M7 := Lib.hid m7; have fr7 := (fun j => frozen_of_row w5 _ j _ _ m7); have z7 := cell_of_row w5 _ 0 _ _ _ m7; clear m7)))
        all_goals
          clear e1 e11 e3 e31 f3 s0 s1 s2 s3 sg e3d q6 z7 fr7
          go_wp2_with fail
          go_meet
          exact cp_mid rfl HPU.out HR1.out HR2.out HR3.out HR'.out hQl HFL.out HFG.out (Mod.of_drew hp1) hr1 hr7 hg7 (by simpa using hb7)
      case rest =>
        clear e1 e11 e3 e31 f3 s0 s1 s2 s3 sg e3d
        obtain ⟨hpu, hr1, hr2, aL2, cL2, aG2, cG2, v', hr3, hoL, hoG, hvs, hv', hfL, hfG⟩ := hcut
        obtain ⟨g2', _, hsv, _, hg2', hc2, hf2, _⟩ := owns_at (H.out.pure hpu).G (by omega)
        cases hsv
        have sg : wc.cell? ⟨g2, k, none⟩ = some (.bool gone) := hc2 k _ (by rw [List.getElem?_map, HE.out]; rfl)
        have e1 := cell_of_row wc _ 1 _ _ _ hr1
        have e3 := cell_of_row wc _ 1 _ _ _ hr3
        simp at e1 e3
        have f3 := fun j => frozen_of_row wc _ j _ _ hr3
        have hlr : w.heap.size + 1 + 1 < wc.heap.size := lt_of_block hr3
        obtain ⟨i1, hi1, iy0, iy1, iy2⟩ := info_parts info_bool
        have HPU2 := Lib.hid hpu; have KR1 := Lib.hid hr1; have KR2 := Lib.hid hr2; have KR3 := Lib.hid hr3; have KL := Lib.hid hoL; have KG := Lib.hid hoG; have KV := Lib.hid hvs; have KV' := Lib.hid hv'; have KFL := Lib.hid hfL; have KFG := Lib.hid hfG
        clear hpu hr1 hr2 hr3 hoL hoG hvs hv' hfL hfG hc2 hf2
        go_upto_region 6 with (fail)
        go_region_law ((refine step_append_read _ (by rfl) _ _ 30 (by rfl) 4 i1 _ 1 1 Tryz.underlying30 hi1 iy0 iy1 iy2 rfl (by decide) (.slice aG2 k cG2) k (Q'.map goneQ) (by rfl) ((KG.out.alloc _).drew) _ [.bool gone] 1 (by rfl) (ReadAt.of_block 1 1 1 (heap_new (by simp)) (by rfl) (by simp [Value.oneCell'])) (by rfl) (by unfold maxLen; omega) (by omega) ?_; intro a7 c7 w5 hr7 hg7 hb7; have m7 := Mod.heap (Mod.of_grown (S := fun k' => (Value.slice aG2 k cG2).ownBlock = some k') hg7 (fun k e _ => e)) (fun e => (by have := KFG.out _ e; omega)) (heap_keep KR3.out); have M7 := Lib.hid m7; have fr7 := (fun j => frozen_of_row w5 _ j _ _ m7); have z7 := cell_of_row w5 _ 1 _ _ _ m7; clear m7))
        all_goals
          have hend : CpInv w w.heap.size (some ⟨g, 0, none⟩) cL (some ⟨g2, 0, none⟩) cG Q (k + 1) (w5.setCell ⟨w.heap.size + 1 + 1, 1, none⟩ (.slice a7 (k + 1) c7)) :=
            cp_end rfl hlt HE.out hlen hxok HQ'.out HR'.out.ok hQl HPU2.out KR1.out KR2.out KR3.out KL.out KG.out KV.out KV'.out KFL.out KFG.out hr7 (cs := #[.bool gone]) ⟨hg7.os, hg7.tape, hg7.output, hg7.size, hg7.block⟩ (by simpa using hb7)
          have HEND := Lib.hid hend
          clear hend hr7 hg7 hb7 z7 fr7 e1 e3 f3 sg
          go_wp2
          go_roundw
          case rel => exact ⟨k + 1, by go_num, HEND.out⟩
          case measure => simp [intOf]; omega
    · have hend : Q.length = k := by omega
      have hk1 : (Q.length : Int) ≤ (k : Int) := by omega
      have HEND := Lib.hid hend
      clear hend
      have e2 := cell_of_row wr _ 0 _ _ _ HR2.out; have e21 := cell_of_row wr _ 1 _ _ _ HR2.out
      have f2 := fun j => frozen_of_row wr _ j _ _ HR2.out
      simp at e2 e21
      go_wp2
      have z := heap_setCell_same _ _ 1 _ _ (.slice aG' k cG') (heap_setCell_same wr _ 0 _ _ (.slice aL' k cL') HR2.out)
      have z0 := cell_of_row _ _ 0 _ _ _ z; have z1 := cell_of_row _ _ 1 _ _ _ z
      simp at z0 z1
      clear z
      have hm : Mod (fun k' => k' = w.heap.size + 1) wr ((wr.setCell ⟨w.heap.size + 1, 0, none⟩ (.slice aL' k cL')).setCell ⟨w.heap.size + 1, 1, none⟩ (.slice aG' k cG')) :=
        ((Mod.refl (fun k' => k' = w.heap.size + 1) wr).setCell (p := ⟨w.heap.size + 1, 0, none⟩) (fun _ => rfl) _).setCell (p := ⟨w.heap.size + 1, 1, none⟩) (fun _ => rfl) _
      have hQl : Q'.length = k := by have := congrArg List.length HQ'.out; simp at this; omega
      have hq' : Q'.map absQ = Q.map absQ := by rw [HQ'.out, ← HEND.out, List.take_length]
      have hR := HR'.out
      have hnb : ∀ {T j n : Nat} {v : Value} {xs : List Value}, wr.ownsRow 0 T j v n xs → T ≠ 32 → ((wr.setCell ⟨w.heap.size + 1, 0, none⟩ (.slice aL' k cL')).setCell ⟨w.heap.size + 1, 1, none⟩ (.slice aG' k cG')).ownsRow 0 T j v n xs := by
        intro T j n v xs ho h1
        refine owns_mod ho hm (fun g hg h => ?_)
        obtain ⟨c, e⟩ := owns_type ho hg
        rw [h, HR2.out] at e
        cases e
        exact h1 rfl
      refine bodyPost_ret (v := .agg #[.slice aL' k cL', .slice aG' k cG']) (by simp [results, Tryz.results71, go_sem, z0, z1]) rfl ⟨aL', cL', aG', cG', Q', by rw [hQl], hq', ⟨hnb hR.L (by decide), hnb hR.G (by decide), fun q hq => hnb (hR.vals q hq) (by decide), hR.ok, hR.len⟩, ?_, ?_, HPU.out.then hm (fun i hi h => by omega)⟩
      · rw [hQl]; exact fun g hg => by have := HFL.out g hg; omega
      · rw [hQl]; exact fun g hg => by have := HFG.out g hg; omega
end Go.Proofs.YtapplindfijngaaGreat

/- The reference of layer 9: Has, Live, Get, Append, Remove of its log. Condition: the log's rows are its own (RefRow). -/
namespace Go.Proofs.YtapplindfijngaaGreat
open Go.RowKit Go.Shelf
set_option maxRecDepth 100000

theorem box4 {w1 : World} {b : Nat} {a0 a1 a2 a3 : Value} {T : TypeId} (hB : w1.heap[b]? = some (.cells #[a0, a1, a2, a3] T (0, 0))) (c0 c1 c2 c3 : Value) :
    (((((w1.setCell ⟨b, 0, none⟩ c0).setCell ⟨b, 1, none⟩ c1).setCell ⟨b, 2, none⟩ c2).setCell ⟨b, 3, none⟩ c3).heap[b]? = some (.cells #[c0, c1, c2, c3] T (0, 0))) ∧
    Mod (fun k => k = b) w1 ((((w1.setCell ⟨b, 0, none⟩ c0).setCell ⟨b, 1, none⟩ c1).setCell ⟨b, 2, none⟩ c2).setCell ⟨b, 3, none⟩ c3) := by
  refine ⟨?_, ((((Mod.refl (fun k => k = b) w1).setCell (p := ⟨b, 0, none⟩) (fun _ => rfl) _).setCell (p := ⟨b, 1, none⟩) (fun _ => rfl) _).setCell (p := ⟨b, 2, none⟩) (fun _ => rfl) _).setCell (p := ⟨b, 3, none⟩) (fun _ => rfl) _⟩
  simpa using heap_setCell_same _ _ 3 _ _ c3 (heap_setCell_same _ _ 2 _ _ c2 (heap_setCell_same _ _ 1 _ _ c1 (heap_setCell_same w1 _ 0 _ _ c0 hB)))

abbrev refV (aL : Option Addr) (cL : Nat) (aG : Option Addr) (cG : Nat) (n : Nat) : Value := .agg #[.slice aL n cL, .slice aG n cG]
def hasQ (Q : List RQ) (s : Nat) : Bool := match Q[s]? with | some q => !q.2.2 | none => false

theorem ref_Has {w : World} {aL : Option Addr} {cL : Nat} {aG : Option Addr} {cG : Nat} {Q : List RQ} (h : RefRow w aL cL aG cG Q) (s : Nat) (hs : s ≤ 4294967295) :
    Calls Tryz.prog 64 #[refV aL cL aG cG Q.length, .int .u32 s] w fun e w' => e = .returned (.bool (hasQ Q s)) ∧ Pure w w' := by
  have hp : Pure w (w.alloc (.cells #[.slice aL Q.length cL, .slice aG Q.length cG] 32)) := (Mod.refl _ w).alloc _
  have HP := Lib.hid hp
  have hlen := h.len
  have hs1 : (s : Int) ≤ 4294967295 := by omega
  by_cases hlt : s < Q.length
  · have he := List.getElem?_eq_getElem hlt
    generalize Q[s] = q at he
    obtain ⟨x, v, gone⟩ := q
    obtain ⟨g2, _, hsv, _, hg2, hc2, hf2, _⟩ := owns_at h.G (by omega)
    cases hsv
    have sg : w.cell? ⟨g2, s, none⟩ = some (.bool gone) := hc2 s _ (by rw [List.getElem?_map, he]; rfl)
    have hlt1 : (s : Int) < (Q.length : Int) := by omega
    have HE := Lib.hid he
    clear hc2 hf2 he hp h
    go_enter Tryz.func64, Tryz.ntmps64
    go_wp2
    go_ret
    exact ⟨by simp [hasQ, HE.out], HP.out⟩
  · have hlt1 : (Q.length : Int) ≤ (s : Int) := by omega
    have HE := Lib.hid (List.getElem?_eq_none (l := Q) (i := s) (by omega))
    clear hp h
    go_enter Tryz.func64, Tryz.ntmps64
    go_wp2
    go_ret
    exact ⟨by simp [hasQ, HE.out], HP.out⟩

def refGetPost (w : World) (Q : List RQ) (s : Nat) (e : Ending) (w' : World) : Prop :=
  Pure w w' ∧ match Q[s]? with
    | some (x, v, false) => e = .returned (.tuple #[entV x v, .int .i64 0])
    | _ => e = .returned (.tuple #[.agg #[.string ⟨#[]⟩, .slice none 0 0, .int .u64 0, .int .u64 0], .int .i64 9])

set_option maxHeartbeats 1000000 in
theorem ref_Get {w : World} {aL : Option Addr} {cL : Nat} {aG : Option Addr} {cG : Nat} {Q : List RQ} (h : RefRow w aL cL aG cG Q) (s : Nat) (hs : s ≤ 4294967295) :
    Calls Tryz.prog 85 #[refV aL cL aG cG Q.length, .int .u32 s] w (refGetPost w Q s) := by
  have H := Lib.hid h
  by_cases hh : hasQ Q s = true
  · obtain ⟨x, v, he⟩ : ∃ x v, Q[s]? = some (x, v, false) := by
      unfold hasQ at hh
      split at hh
      · rename_i q hq
        obtain ⟨x, v, g⟩ := q
        simp at hh
        subst hh
        exact ⟨x, v, hq⟩
      · cases hh
    have hlt : s < Q.length := (List.getElem?_eq_some_iff.1 he).1
    have hlt1 : (s : Int) < (Q.length : Int) := by omega
    have hs1 : (s : Int) ≤ 4294967295 := by omega
    obtain ⟨g, _, hsv, _, hg, hc, hf, _⟩ := owns_at h.L (by omega)
    cases hsv
    have hcc : ∀ j u, (cellsQ (x, v, false))[j]? = some u → w.cell? ⟨g, s * 4 + j, none⟩ = some u := by
      intro j u hu
      have hj : j < 4 := by rw [← cellsQ_length (x, v, false)]; exact (List.getElem?_eq_some_iff.1 hu).1
      refine hc _ _ ?_
      rw [flat_get cellsQ 4 cellsQ_length j hj, he]
      exact hu
    have hv := H.out.vals _ (List.mem_of_getElem? he)
    obtain ⟨va, vc, hve, _⟩ := owns_form hv
    dsimp only at hve
    subst hve
    have s0 : w.cell? ⟨g, s * 4, none⟩ = _ := hcc 0 _ rfl; have s1 := hcc 1 _ rfl; have s2 := hcc 2 _ rfl; have s3 := hcc 3 _ rfl
    dsimp only at s0 s1 s2 s3
    have HE := Lib.hid he
    clear hc hf hcc hv h he
    go_enter Tryz.func85, Tryz.ntmps85
    go_wp2_with (go_at_call 64; refine Calls.mono (ref_Has (H.out.pure (by (repeat' (first | (with_reducible exact Mod.refl _ _) | (with_reducible refine Mod.alloc ?_ _) | (with_reducible refine Mod.drew ?_) | (with_reducible refine Mod.drewN ?_ _) | (with_reducible refine Mod.setCell ?_ ?_ _) | (refine Mod.then ?_ (by with_reducible assumption) ?_))) <;> (all_goals (intros; first | (exfalso; assumption) | omega | (simp at *; done) | (simp at *; omega))))) s hs) ?_; rintro e w1 ⟨rfl, hp⟩; rw [hh]; have hp' : Pure w w1 := (by (repeat' (first | (with_reducible exact Mod.refl _ _) | (with_reducible refine Mod.alloc ?_ _) | (with_reducible refine Mod.drew ?_) | (with_reducible refine Mod.drewN ?_ _) | (with_reducible refine Mod.setCell ?_ ?_ _) | (refine Mod.then ?_ (by with_reducible assumption) ?_))) <;> (all_goals (intros; first | (exfalso; assumption) | omega | (simp at *; done) | (simp at *; omega)))); have q0 := hp'.cell (fun h => h) s0; have q1 := hp'.cell (fun h => h) s1; have q2 := hp'.cell (fun h => h) s2; have q3 := hp'.cell (fun h => h) s3; have z1 := Lib.hid (hp.heap (fun h => h) (heap_new (o := .cells #[.string ⟨#[]⟩, .slice none 0 0, .int .u64 0, .int .u64 0] 42 (0, 0)) (n := w.heap.size + 1) (by simp))); have b0 := (hp.cell (fun h => h) (by simp [go_sem]) : w1.cell? ⟨w.heap.size, 0, none⟩ = some (.slice (some ⟨g, 0, none⟩) Q.length cL)); have b1 := cell_of_row w1 _ 0 _ _ _ z1.out; have b2 := cell_of_row w1 _ 1 _ _ _ z1.out; have b3 := cell_of_row w1 _ 2 _ _ _ z1.out; have b4 := cell_of_row w1 _ 3 _ _ _ z1.out; have fb := (fun j => frozen_of_row w1 _ j _ _ z1.out); simp at b1 b2 b3 b4)
    obtain ⟨zr, zm⟩ := box4 z1.out (.string x.key) (.slice va (bytesOf x.val).length vc) (.int .u64 x.dl) (.int .u64 x.birth)
    have y0 := cell_of_row _ _ 0 _ _ _ zr; have y1 := cell_of_row _ _ 1 _ _ _ zr; have y2 := cell_of_row _ _ 2 _ _ _ zr; have y3 := cell_of_row _ _ 3 _ _ _ zr
    simp at y0 y1 y2 y3
    refine bodyPost_ret (v := .tuple #[entV x (.slice va (bytesOf x.val).length vc), .int .i64 0]) (by simp [results, Tryz.results85, go_sem, y0, y1, y2, y3]) rfl ⟨hp'.then zm (fun i hi h => by omega), ?_⟩
    rw [HE.out]
  · have hf : hasQ Q s = false := by simpa using hh
    clear h hh
    go_enter Tryz.func85, Tryz.ntmps85
    go_wp2_with (go_at_call 64; refine Calls.mono (ref_Has (H.out.pure (by (repeat' (first | (with_reducible exact Mod.refl _ _) | (with_reducible refine Mod.alloc ?_ _) | (with_reducible refine Mod.drew ?_) | (with_reducible refine Mod.drewN ?_ _) | (with_reducible refine Mod.setCell ?_ ?_ _) | (refine Mod.then ?_ (by with_reducible assumption) ?_))) <;> (all_goals (intros; first | (exfalso; assumption) | omega | (simp at *; done) | (simp at *; omega))))) s hs) ?_; rintro e w1 ⟨rfl, hp⟩; rw [hf]; have hp' : Pure w w1 := (by (repeat' (first | (with_reducible exact Mod.refl _ _) | (with_reducible refine Mod.alloc ?_ _) | (with_reducible refine Mod.drew ?_) | (with_reducible refine Mod.drewN ?_ _) | (with_reducible refine Mod.setCell ?_ ?_ _) | (refine Mod.then ?_ (by with_reducible assumption) ?_))) <;> (all_goals (intros; first | (exfalso; assumption) | omega | (simp at *; done) | (simp at *; omega)))); have z1 := Lib.hid (hp.heap (fun h => h) (heap_new (o := .cells #[.string ⟨#[]⟩, .slice none 0 0, .int .u64 0, .int .u64 0] 42 (0, 0)) (n := w.heap.size + 1) (by simp))); have b1 := cell_of_row w1 _ 0 _ _ _ z1.out; have b2 := cell_of_row w1 _ 1 _ _ _ z1.out; have b3 := cell_of_row w1 _ 2 _ _ _ z1.out; have b4 := cell_of_row w1 _ 3 _ _ _ z1.out; have fb := (fun j => frozen_of_row w1 _ j _ _ z1.out); simp at b1 b2 b3 b4)
    obtain ⟨zr, zm⟩ := box4 z1.out (.string ⟨#[]⟩) (.slice none 0 0) (.int .u64 0) (.int .u64 0)
    have y0 := cell_of_row _ _ 0 _ _ _ zr; have y1 := cell_of_row _ _ 1 _ _ _ zr; have y2 := cell_of_row _ _ 2 _ _ _ zr; have y3 := cell_of_row _ _ 3 _ _ _ zr
    simp at y0 y1 y2 y3
    refine bodyPost_ret (v := .tuple #[.agg #[.string ⟨#[]⟩, .slice none 0 0, .int .u64 0, .int .u64 0], .int .i64 9]) (by simp [results, Tryz.results85, go_sem, y0, y1, y2, y3]) rfl ⟨hp'.then zm (fun i hi h => by omega), ?_⟩
    unfold hasQ at hf
    split
    · rename_i hq
      rw [hq] at hf
      simp at hf
    · rfl

/-! ### Live -/
def liveQ (Q : List RQ) : Nat := Q.countP (fun q => !q.2.2)
def LvInv (w : World) (aL : Option Addr) (cL : Nat) (aG : Option Addr) (cG : Nat) (Q : List RQ) (n i : Value) (wr : World) : Prop :=
  ∃ k : Nat, k ≤ Q.length ∧ i = .int .i64 k ∧ n = .int .i64 (liveQ (Q.take k)) ∧ Pure w wr ∧ wr.heap[w.heap.size]? = some (.cells #[.slice aL Q.length cL, .slice aG Q.length cG] 32 (0, 0))
set_option maxHeartbeats 1000000 in
theorem ref_Live {w : World} {aL : Option Addr} {cL : Nat} {aG : Option Addr} {cG : Nat} {Q : List RQ} (h : RefRow w aL cL aG cG Q) :
    Calls Tryz.prog 20 #[refV aL cL aG cG Q.length] w fun e w' => e = .returned (.int .i64 (liveQ Q)) ∧ Pure w w' := by
  have H := Lib.hid h
  have hlen := h.len
  clear h
  go_enter Tryz.func20, Tryz.ntmps20
  go_wp2
  go_loopw [3, 4] (fun n i wr => LvInv w aL cL aG cG Q n i wr) (fun _ i _ => Q.length - (intOf i).toNat)
  case atStart => exact ⟨0, Nat.zero_le _, rfl, rfl, (Mod.refl _ w).alloc _, heap_new rfl⟩
  case round =>
    obtain ⟨k, hk, rfl, rfl, hpu, hr1⟩ := hrel
    have e1 := cell_of_row wr _ 0 _ _ _ hr1; have e11 := cell_of_row wr _ 1 _ _ _ hr1
    simp at e1 e11
    have HW := Lib.hid (H.out.pure hpu)
    have HPU := Lib.hid hpu
    have HR1 := Lib.hid hr1
    clear hpu hr1
    have hlv : liveQ (Q.take k) ≤ 4194304 := by have := List.countP_le_length (p := fun q : RQ => !q.2.2) (l := Q.take k); unfold liveQ; simp at this; omega
    by_cases hlt : k < Q.length
    · have hk1 : (k : Int) < (Q.length : Int) := by omega
      have he := List.getElem?_eq_getElem hlt
      generalize Q[k] = q at he
      obtain ⟨x, v, gone⟩ := q
      obtain ⟨g2, _, hsv, _, hg2, hc2, hf2, _⟩ := owns_at HW.out.G (by omega)
      cases hsv
      have sg : wr.cell? ⟨g2, k, none⟩ = some (.bool gone) := hc2 k _ (by rw [List.getElem?_map, he]; rfl)
      have hnx : liveQ (Q.take (k + 1)) = liveQ (Q.take k) + (if gone then 0 else 1) := by
        unfold liveQ
        rw [List.take_add_one, he, List.countP_append]
        cases gone <;> simp
      have HN := Lib.hid hnx
      clear hc2 hf2 he hnx
      generalize liveQ (Q.take k) = lv at hlv HN ⊢
      cases gone
      · go_wp2
        go_roundw
        case rel =>
          unfold LvInv
          exact ⟨k + 1, by omega, by go_num, by rw [HN.out]; go_num, HPU.out, HR1.out⟩
        case measure => simp [intOf]; omega
      · go_wp2
        go_roundw
        case rel =>
          unfold LvInv
          exact ⟨k + 1, by omega, by go_num, by rw [HN.out]; go_num, HPU.out, HR1.out⟩
        case measure => simp [intOf]; omega
    · have hk1 : (Q.length : Int) ≤ (k : Int) := by omega
      have hend : Q.length = k := by omega
      have HE := Lib.hid (show Q.take k = Q by rw [← hend, List.take_length])
      clear hend
      go_wp2
      go_ret
      exact ⟨by rw [HE.out]; rfl, HPU.out⟩
end Go.Proofs.YtapplindfijngaaGreat
