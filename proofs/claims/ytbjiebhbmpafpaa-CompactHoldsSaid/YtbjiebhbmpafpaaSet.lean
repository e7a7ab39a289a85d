/- entrylog.Log: Remove and Set of a slot without an entry, Set of one with an entry. Conditions: the log is made, the value is read, at most 65536 bytes. -/
import Derived.Test.YtbjiebhbmpafpaaRef9d
namespace Go.Proofs.Ytbjiebhbmpafpaa
open Go.RowKit Go.Shelf
set_option maxRecDepth 100000

set_option maxHeartbeats 400000 in
theorem Remove_miss {w : World} {D : Nat → Prop} {p : Nat} {sv : Value} {M : List (Option Ent × Value)} (h : LogRow w D p sv M) {i : Nat} (hu : i ≤ 4294967295) (hi : slotOf M i = none) :
    Calls Try.prog 20 #[.pointer (some ⟨p, 0, none⟩), .int .u32 i] w (getPost none w) := by
  have HA := Lib.hid (h.miss hu hi)
  clear h
  go_enter Try.func20, Try.ntmps20
  go_wp2_with (go_at_call 62; refine Calls.mono (HA.out _ (by (repeat' (first | (with_reducible exact Mod.refl _ _) | (with_reducible refine Mod.alloc ?_ _) | (with_reducible refine Mod.drew ?_) | (with_reducible refine Mod.drewN ?_ _) | (with_reducible refine Mod.setCell ?_ ?_ _) | (refine Mod.then ?_ (by with_reducible assumption) ?_))) <;> (all_goals (intros; first | (exfalso; assumption) | omega | (simp at *; done) | (simp at *; omega))))) ?_; rintro e w' ⟨rfl, rfl⟩)
  refine bodyPost_ret (v := .tuple #[.agg #[.string ⟨#[]⟩, .slice none 0 0, .int .u64 0, .int .u64 0], .int .i64 9]) (by simp [results, Try.results20, go_sem]) rfl ⟨rfl, ?_⟩
  (repeat' (first | (with_reducible exact Mod.refl _ _) | (with_reducible refine Mod.alloc ?_ _) | (with_reducible refine Mod.drew ?_) | (with_reducible refine Mod.drewN ?_ _) | (with_reducible refine Mod.setCell ?_ ?_ _) | (refine Mod.then ?_ (by with_reducible assumption) ?_)))
  (all_goals (intros; first | (exfalso; assumption) | omega | (simp at *; done) | (simp at *; omega)))

def setPost (w : World) (no : Int) (e : Ending) (w' : World) : Prop := e = .returned (.int .i64 no) ∧ Pure w w'
theorem Set_miss {w : World} {D : Nat → Prop} {p : Nat} {sv : Value} {M : List (Option Ent × Value)} (h : LogRow w D p sv M) {i : Nat} (hu : i ≤ 4294967295) (hi : slotOf M i = none) (v : Value) (d : Int) :
    Calls Try.prog 34 #[.pointer (some ⟨p, 0, none⟩), .int .u32 i, v, .int .u64 d] w (setPost w 9) := by
  have HA := Lib.hid (h.miss hu hi)
  clear h
  go_enter Try.func34, Try.ntmps34
  go_wp2_with (go_at_call 62; refine Calls.mono (HA.out _ (Mod.refl _ _)) ?_; rintro e w' ⟨rfl, rfl⟩)
  go_ret
  exact ⟨rfl, Mod.refl _ _⟩

def Ent.with (x : Ent) (vs : List UInt8) (d : Int) : Ent := ⟨x.key, vs, d, x.birth⟩
theorem Ent.Ok.with {x : Ent} (h : x.Ok) {vs : List UInt8} (hv : vs.length ≤ 65536) (d : Int) : (x.with vs d).Ok := ⟨h.k0, h.k1, hv, h.b0⟩
theorem live_set_some (M : List (Option Ent × Value)) (i : Nat) (e e' : Ent) (v v' : Value) (hi : M[i]? = some (some e, v)) : liveOf ((M.set i (some e', v')).map Prod.fst) = liveOf (M.map Prod.fst) := by
  induction M generalizing i with
  | nil => simp at hi
  | cons a M ih =>
    cases i with
    | zero =>
      simp at hi
      subst hi
      simp [liveOf]
    | succ i =>
      have := ih i (by simpa using hi)
      simp only [List.set_cons_succ, List.map_cons, liveOf, List.countP_cons] at this ⊢
      omega
def setHit (w : World) (D : Nat → Prop) (p i : Nat) (x : Ent) (sv : Value) (M : List (Option Ent × Value)) (e : Ending) (w' : World) : Prop :=
  e = .returned (.int .i64 0) ∧ ∃ v', LogRow w' D p sv (M.set i (some x, v')) ∧ Mod D w w'
theorem set_end {w W : World} {D : Nat → Prop} {p g c i : Nat} {x : Ent} {v v' : Value} {vs : List UInt8} {d : Int} {M : List (Option Ent × Value)}
    (HL : LogRow w D p (.slice (some ⟨g, 0, none⟩) M.length c) M) (hi : M[i]? = some (some x, v)) (HP : Pure w W) (hv : BytesAt W v' (bytesOf vs)) (hl : vs.length ≤ 65536) :
    LogRow ((W.setCell ⟨g, i * 4 + 1, none⟩ v').setCell ⟨g, i * 4 + 2, none⟩ (.int .u64 d)) D p (.slice (some ⟨g, 0, none⟩) M.length c) (M.set i (some (x.with vs d), v')) ∧ Mod D w ((W.setCell ⟨g, i * 4 + 1, none⟩ v').setCell ⟨g, i * 4 + 2, none⟩ (.int .u64 d)) := by
  have HW := HL.pure HP
  have hlt : i < M.length := (List.getElem?_eq_some_iff.1 hi).1
  have hgp := HL.np (g := g) rfl
  have hDg : D g := (HL.dd g).2 (.inr rfl)
  have hmod : Mod D W ((W.setCell ⟨g, i * 4 + 1, none⟩ v').setCell ⟨g, i * 4 + 2, none⟩ (.int .u64 d)) := (((Mod.refl D W).setCell (p := ⟨g, i * 4 + 1, none⟩) (fun _ => hDg) _).setCell (p := ⟨g, i * 4 + 2, none⟩) (fun _ => hDg) _)
  have hnb := fun k (_ : k < W.heap.size) (hk : D k) cs fz => HW.nobytes hk cs fz
  refine ⟨⟨?_, ?_, fun e u hm => ?_, HL.dd, ?_⟩, (Mod.of_pure HP).trans hmod⟩
  · rw [live_set_some M i x _ v v' hi]
    exact heap_set_other (heap_set_other HW.box hgp.symm) hgp.symm
  · have r1 := owns_setCell HW.row (i * 4 + 1) v' (by omega)
    have r2 := owns_setCell r1 (i * 4 + 2) (.int .u64 d) (by omega)
    have e : (((M.flatMap slotCells).set (i * 4 + 1) v').set (i * 4 + 2) (.int .u64 d)) = (M.set i (some (x.with vs d), v')).flatMap slotCells := by
      rw [← flat4_set M i _ (some (x.with vs d), v') hi (.string x.key) v' (.int .u64 d) (.int .u64 x.birth) rfl]
      have k0 : (M.flatMap slotCells)[i * 4]? = some (.string x.key) := by
        have := flat_get slotCells 4 slotCells_length 0 (by omega) M i
        rw [hi] at this
        simpa [slotCells] using this
      have k3 : (M.flatMap slotCells)[i * 4 + 3]? = some (.int .u64 x.birth) := by
        have := flat_get slotCells 4 slotCells_length 3 (by omega) M i
        rw [hi] at this
        simpa [slotCells] using this
      rw [list_set_self k0]
      refine (list_set_self ?_).symm
      rw [List.getElem?_set_ne (by omega), List.getElem?_set_ne (by omega)]
      exact k3
    rw [e] at r2
    rw [List.length_set]
    exact r2
  · rcases List.mem_or_eq_of_mem_set hm with h | h
    · exact bytes_frame (HW.vals e u h) hmod hnb
    · cases h
      exact bytes_frame hv hmod hnb
  · refine ⟨by have := HL.ok.len; simpa using this, fun e he => ?_⟩
    rw [List.map_set] at he
    rcases List.mem_or_eq_of_mem_set he with h | h
    · exact HL.ok.ent e h
    · cases h
      exact (HL.ok.ent x (List.mem_map.2 ⟨_, List.mem_of_getElem? hi, rfl⟩)).with hl d

set_option maxHeartbeats 800000 in
theorem Set_hit {w : World} {D : Nat → Prop} {p : Nat} {sv : Value} {M : List (Option Ent × Value)} (h : LogRow w D p sv M) {i : Nat} {x : Ent} {v : Value} (hi : M[i]? = some (some x, v)) (a : Option Addr) (n c : Nat) (vs : List UInt8) (hv : ReadAt w (.slice a n c) 1 (bytesOf vs)) (hl : vs.length ≤ 65536) (d : Int) :
    Calls Try.prog 34 #[.pointer (some ⟨p, 0, none⟩), .int .u32 i, .slice a n c, .int .u64 d] w (setHit w D p i (x.with vs d) sv M) := by
  obtain ⟨g, cg, rfl, hg, ng, hlt, hn, hc, hf⟩ := h.slot hi
  obtain ⟨c0, c1, c2, cf⟩ := h.cells
  have hok := h.ok.ent x (List.mem_map.2 ⟨_, List.mem_of_getElem? hi, rfl⟩)
  have hb : (x.birth == 0) = false := by have := hok.b0; simp; omega
  have s0 : w.cell? ⟨g, i * 4, none⟩ = _ := hc 0 _ rfl; have s1 := hc 1 _ rfl; have s2 := hc 2 _ rfl; have s3 := hc 3 _ rfl
  have hn2 : n ≤ 65536 := by have := read_length hv; rw [bytesOf_length] at this; omega
  have hn3 : (n : Int) ≤ 65536 := by omega
  obtain ⟨va, vl, vc, rfl⟩ : ∃ a n c, v = .slice a n c := by obtain ⟨va, vc, e, _⟩ := owns_form (h.vals x v (List.mem_of_getElem? hi)); exact ⟨_, _, _, e⟩
  have HL := Lib.hid h
  have HI := Lib.hid hi
  have HV := Lib.hid hv
  clear h hi hv hc
  go_enter Try.func34, Try.ntmps34
  go_wp2_with (first
    | (go_at_call 62; refine Calls.mono (at_hit p g _ cg i x.birth _ c0 c1 hlt hn s3 hb) ?_; rintro e w' ⟨rfl, rfl⟩)
    | (go_at_call 76; refine Calls.mono (bytes_Clone a n c _ _ HV.out (by omega)) ?_; rintro e w1 ⟨a1, n1, c1', rfl, hr1, hf1, hp1⟩; have t1 := hp1.cell (fun h => h) s1; have t2 := hp1.cell (fun h => h) s2; have tf : ∀ j, w1.frozen? ⟨g, j, none⟩ = false := (fun j => (World.frozen?_of_block (w := w) (a := ⟨g, j, none⟩) (hp1.block g hg (fun h => h))).trans (hf j)); have HR1 := Lib.hid hr1; have HP1 := Lib.hid hp1; clear hr1 hf1 hp1))
  go_ret
  obtain ⟨k1, k2⟩ := set_end (d := d) HL.out HI.out HP1.out (bytesAt_of HR1.out) hl
  exact ⟨rfl, _, k1, k2⟩
end Go.Proofs.Ytbjiebhbmpafpaa
