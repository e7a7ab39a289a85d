/- The reference of layer 9: Has, Live, Get, Append, Remove of its log. Condition: the log's rows are its own (RefRow). -/
import Derived.Test.YtbjiebhbmpafpaaRef9
namespace Go.Proofs.Ytbjiebhbmpafpaa
open Go.RowKit Go.Shelf
set_option maxRecDepth 100000

theorem box4 {w1 : World} {b : Nat} {a0 a1 a2 a3 : Value} {T : TypeId} (hB : w1.heap[b]? = some (.cells #[a0, a1, a2, a3] T (0, 0))) (c0 c1 c2 c3 : Value) :
    (((((w1.setCell ⟨b, 0, none⟩ c0).setCell ⟨b, 1, none⟩ c1).setCell ⟨b, 2, none⟩ c2).setCell ⟨b, 3, none⟩ c3).heap[b]? = some (.cells #[c0, c1, c2, c3] T (0, 0))) ∧
    Mod (fun k => k = b) w1 ((((w1.setCell ⟨b, 0, none⟩ c0).setCell ⟨b, 1, none⟩ c1).setCell ⟨b, 2, none⟩ c2).setCell ⟨b, 3, none⟩ c3) := by
  refine ⟨?_, ((((Mod.refl (fun k => k = b) w1).setCell (p := ⟨b, 0, none⟩) (fun _ => rfl) _).setCell (p := ⟨b, 1, none⟩) (fun _ => rfl) _).setCell (p := ⟨b, 2, none⟩) (fun _ => rfl) _).setCell (p := ⟨b, 3, none⟩) (fun _ => rfl) _⟩
  simpa using heap_setCell_same _ _ 3 _ _ c3 (heap_setCell_same _ _ 2 _ _ c2 (heap_setCell_same _ _ 1 _ _ c1 (heap_setCell_same w1 _ 0 _ _ c0 hB)))

abbrev refV (aL : Option Addr) (cL : Nat) (aG : Option Addr) (cG : Nat) (n : Nat) : Value := .agg #[.slice aL n cL, .slice aG n cG]
def hasQ (Q : List RQ) (s : Nat) : Bool := match Q[s]? with | some q => !q.2.2 | none => false

theorem ref_Has {w : World} {aL : Option Addr} {cL : Nat} {aG : Option Addr} {cG : Nat} {Q : List RQ} (h : RefRow w aL cL aG cG Q) (s : Nat) (hs : s ≤ 4294967295) :
    Calls Try.prog 64 #[refV aL cL aG cG Q.length, .int .u32 s] w fun e w' => e = .returned (.bool (hasQ Q s)) ∧ Pure w w' := by
  have hp : Pure w (w.alloc (.cells #[.slice aL Q.length cL, .slice aG Q.length cG] 30)) := (Mod.refl _ w).alloc _
  have HP := Lib.hid hp
  have hlen := h.len
  have hs1 : (s : Int) ≤ 4294967295 := by omega
  by_cases hlt : s < Q.length
  · have he := List.getElem?_eq_getElem hlt
    generalize Q[s] = q at he
    obtain ⟨x, v, gone⟩ := q
    obtain ⟨g2, _, hsv, _, hg2, hc2, hf2, _⟩ := owns_at h.G (by omega)
    cases hsv
    have sg : w.cell? ⟨g2, s, none⟩ = some (.bool gone) := hc2 s _ (by rw [List.getElem?_map, he]; rfl)
    have hlt1 : (s : Int) < (Q.length : Int) := by omega
    have HE := Lib.hid he
    clear hc2 hf2 he hp h
    go_enter Try.func64, Try.ntmps64
    go_wp2
    go_ret
    exact ⟨by simp [hasQ, HE.out], HP.out⟩
  · have hlt1 : (Q.length : Int) ≤ (s : Int) := by omega
    have HE := Lib.hid (List.getElem?_eq_none (l := Q) (i := s) (by omega))
    clear hp h
    go_enter Try.func64, Try.ntmps64
    go_wp2
    go_ret
    exact ⟨by simp [hasQ, HE.out], HP.out⟩

def refGetPost (w : World) (Q : List RQ) (s : Nat) (e : Ending) (w' : World) : Prop :=
  Pure w w' ∧ match Q[s]? with
    | some (x, v, false) => e = .returned (.tuple #[entV x v, .int .i64 0])
    | _ => e = .returned (.tuple #[.agg #[.string ⟨#[]⟩, .slice none 0 0, .int .u64 0, .int .u64 0], .int .i64 9])

set_option maxHeartbeats 1000000 in
theorem ref_Get {w : World} {aL : Option Addr} {cL : Nat} {aG : Option Addr} {cG : Nat} {Q : List RQ} (h : RefRow w aL cL aG cG Q) (s : Nat) (hs : s ≤ 4294967295) :
    Calls Try.prog 75 #[refV aL cL aG cG Q.length, .int .u32 s] w (refGetPost w Q s) := by
  have H := Lib.hid h
  by_cases hh : hasQ Q s = true
  · obtain ⟨x, v, he⟩ : ∃ x v, Q[s]? = some (x, v, false) := by
      unfold hasQ at hh
      split at hh
      · rename_i q hq
        obtain ⟨x, v, g⟩ := q
        simp at hh
        subst hh
        exact ⟨x, v, hq⟩
      · cases hh
    have hlt : s < Q.length := (List.getElem?_eq_some_iff.1 he).1
    have hlt1 : (s : Int) < (Q.length : Int) := by omega
    have hs1 : (s : Int) ≤ 4294967295 := by omega
    obtain ⟨g, _, hsv, _, hg, hc, hf, _⟩ := owns_at h.L (by omega)
    cases hsv
    have hcc : ∀ j u, (cellsQ (x, v, false))[j]? = some u → w.cell? ⟨g, s * 4 + j, none⟩ = some u := by
      intro j u hu
      have hj : j < 4 := by rw [← cellsQ_length (x, v, false)]; exact (List.getElem?_eq_some_iff.1 hu).1
      refine hc _ _ ?_
      rw [flat_get cellsQ 4 cellsQ_length j hj, he]
      exact hu
    have hv := H.out.vals _ (List.mem_of_getElem? he)
    obtain ⟨va, vc, hve, _⟩ := owns_form hv
    dsimp only at hve
    subst hve
    have s0 : w.cell? ⟨g, s * 4, none⟩ = _ := hcc 0 _ rfl; have s1 := hcc 1 _ rfl; have s2 := hcc 2 _ rfl; have s3 := hcc 3 _ rfl
    dsimp only at s0 s1 s2 s3
    have HE := Lib.hid he
    clear hc hf hcc hv h he
    go_enter Try.func75, Try.ntmps75
    go_wp2_with (go_at_call 64; refine Calls.mono (ref_Has (H.out.pure (by (repeat' (first | (with_reducible exact Mod.refl _ _) | (with_reducible refine Mod.alloc ?_ _) | (with_reducible refine Mod.drew ?_) | (with_reducible refine Mod.drewN ?_ _) | (with_reducible refine Mod.setCell ?_ ?_ _) | (refine Mod.then ?_ (by with_reducible assumption) ?_))) <;> (all_goals (intros; first | (exfalso; assumption) | omega | (simp at *; done) | (simp at *; omega))))) s hs) ?_; rintro e w1 ⟨rfl, hp⟩; rw [hh]; have hp' : Pure w w1 := (by (repeat' (first | (with_reducible exact Mod.refl _ _) | (with_reducible refine Mod.alloc ?_ _) | (with_reducible refine Mod.drew ?_) | (with_reducible refine Mod.drewN ?_ _) | (with_reducible refine Mod.setCell ?_ ?_ _) | (refine Mod.then ?_ (by with_reducible assumption) ?_))) <;> (all_goals (intros; first | (exfalso; assumption) | omega | (simp at *; done) | (simp at *; omega)))); have q0 := hp'.cell (fun h => h) s0; have q1 := hp'.cell (fun h => h) s1; have q2 := hp'.cell (fun h => h) s2; have q3 := hp'.cell (fun h => h) s3; have z1 := Lib.hid (hp.heap (fun h => h) (heap_new (o := .cells #[.string ⟨#[]⟩, .slice none 0 0, .int .u64 0, .int .u64 0] 48 (0, 0)) (n := w.heap.size + 1) (by simp))); have b0 := (hp.cell (fun h => h) (by simp [go_sem]) : w1.cell? ⟨w.heap.size, 0, none⟩ = some (.slice (some ⟨g, 0, none⟩) Q.length cL)); have b1 := cell_of_row w1 _ 0 _ _ _ z1.out; have b2 := cell_of_row w1 _ 1 _ _ _ z1.out; have b3 := cell_of_row w1 _ 2 _ _ _ z1.out; have b4 := cell_of_row w1 _ 3 _ _ _ z1.out; have fb := (fun j => frozen_of_row w1 _ j _ _ z1.out); simp at b1 b2 b3 b4)
    obtain ⟨zr, zm⟩ := box4 z1.out (.string x.key) (.slice va (bytesOf x.val).length vc) (.int .u64 x.dl) (.int .u64 x.birth)
    have y0 := cell_of_row _ _ 0 _ _ _ zr; have y1 := cell_of_row _ _ 1 _ _ _ zr; have y2 := cell_of_row _ _ 2 _ _ _ zr; have y3 := cell_of_row _ _ 3 _ _ _ zr
    simp at y0 y1 y2 y3
    refine bodyPost_ret (v := .tuple #[entV x (.slice va (bytesOf x.val).length vc), .int .i64 0]) (by simp [results, Try.results75, go_sem, y0, y1, y2, y3]) rfl ⟨hp'.then zm (fun i hi h => by omega), ?_⟩
    rw [HE.out]
  · have hf : hasQ Q s = false := by simpa using hh
    clear h hh
    go_enter Try.func75, Try.ntmps75
    go_wp2_with (go_at_call 64; refine Calls.mono (ref_Has (H.out.pure (by (repeat' (first | (with_reducible exact Mod.refl _ _) | (with_reducible refine Mod.alloc ?_ _) | (with_reducible refine Mod.drew ?_) | (with_reducible refine Mod.drewN ?_ _) | (with_reducible refine Mod.setCell ?_ ?_ _) | (refine Mod.then ?_ (by with_reducible assumption) ?_))) <;> (all_goals (intros; first | (exfalso; assumption) | omega | (simp at *; done) | (simp at *; omega))))) s hs) ?_; rintro e w1 ⟨rfl, hp⟩; rw [hf]; have hp' : Pure w w1 := (by (repeat' (first | (with_reducible exact Mod.refl _ _) | (with_reducible refine Mod.alloc ?_ _) | (with_reducible refine Mod.drew ?_) | (with_reducible refine Mod.drewN ?_ _) | (with_reducible refine Mod.setCell ?_ ?_ _) | (refine Mod.then ?_ (by with_reducible assumption) ?_))) <;> (all_goals (intros; first | (exfalso; assumption) | omega | (simp at *; done) | (simp at *; omega)))); have z1 := Lib.hid (hp.heap (fun h => h) (heap_new (o := .cells #[.string ⟨#[]⟩, .slice none 0 0, .int .u64 0, .int .u64 0] 48 (0, 0)) (n := w.heap.size + 1) (by simp))); have b1 := cell_of_row w1 _ 0 _ _ _ z1.out; have b2 := cell_of_row w1 _ 1 _ _ _ z1.out; have b3 := cell_of_row w1 _ 2 _ _ _ z1.out; have b4 := cell_of_row w1 _ 3 _ _ _ z1.out; have fb := (fun j => frozen_of_row w1 _ j _ _ z1.out); simp at b1 b2 b3 b4)
    obtain ⟨zr, zm⟩ := box4 z1.out (.string ⟨#[]⟩) (.slice none 0 0) (.int .u64 0) (.int .u64 0)
    have y0 := cell_of_row _ _ 0 _ _ _ zr; have y1 := cell_of_row _ _ 1 _ _ _ zr; have y2 := cell_of_row _ _ 2 _ _ _ zr; have y3 := cell_of_row _ _ 3 _ _ _ zr
    simp at y0 y1 y2 y3
    refine bodyPost_ret (v := .tuple #[.agg #[.string ⟨#[]⟩, .slice none 0 0, .int .u64 0, .int .u64 0], .int .i64 9]) (by simp [results, Try.results75, go_sem, y0, y1, y2, y3]) rfl ⟨hp'.then zm (fun i hi h => by omega), ?_⟩
    unfold hasQ at hf
    split
    · rename_i hq
      rw [hq] at hf
      simp at hf
    · rfl

/-! ### Live -/
def liveQ (Q : List RQ) : Nat := Q.countP (fun q => !q.2.2)
def LvInv (w : World) (aL : Option Addr) (cL : Nat) (aG : Option Addr) (cG : Nat) (Q : List RQ) (n i : Value) (wr : World) : Prop :=
  ∃ k : Nat, k ≤ Q.length ∧ i = .int .i64 k ∧ n = .int .i64 (liveQ (Q.take k)) ∧ Pure w wr ∧ wr.heap[w.heap.size]? = some (.cells #[.slice aL Q.length cL, .slice aG Q.length cG] 30 (0, 0))
set_option maxHeartbeats 1000000 in
theorem ref_Live {w : World} {aL : Option Addr} {cL : Nat} {aG : Option Addr} {cG : Nat} {Q : List RQ} (h : RefRow w aL cL aG cG Q) :
    Calls Try.prog 74 #[refV aL cL aG cG Q.length] w fun e w' => e = .returned (.int .i64 (liveQ Q)) ∧ Pure w w' := by
  have H := Lib.hid h
  have hlen := h.len
  clear h
  go_enter Try.func74, Try.ntmps74
  go_wp2
  go_loopw [3, 4] (fun n i wr => LvInv w aL cL aG cG Q n i wr) (fun _ i _ => Q.length - (intOf i).toNat)
  case atStart => exact ⟨0, Nat.zero_le _, rfl, rfl, (Mod.refl _ w).alloc _, heap_new rfl⟩
  case round =>
    obtain ⟨k, hk, rfl, rfl, hpu, hr1⟩ := hrel
    have e1 := cell_of_row wr _ 0 _ _ _ hr1; have e11 := cell_of_row wr _ 1 _ _ _ hr1
    simp at e1 e11
    have HW := Lib.hid (H.out.pure hpu)
    have HPU := Lib.hid hpu
    have HR1 := Lib.hid hr1
    clear hpu hr1
    have hlv : liveQ (Q.take k) ≤ 4194304 := by have := List.countP_le_length (p := fun q : RQ => !q.2.2) (l := Q.take k); unfold liveQ; simp at this; omega
    by_cases hlt : k < Q.length
    · have hk1 : (k : Int) < (Q.length : Int) := by omega
      have he := List.getElem?_eq_getElem hlt
      generalize Q[k] = q at he
      obtain ⟨x, v, gone⟩ := q
      obtain ⟨g2, _, hsv, _, hg2, hc2, hf2, _⟩ := owns_at HW.out.G (by omega)
      cases hsv
      have sg : wr.cell? ⟨g2, k, none⟩ = some (.bool gone) := hc2 k _ (by rw [List.getElem?_map, he]; rfl)
      have hnx : liveQ (Q.take (k + 1)) = liveQ (Q.take k) + (if gone then 0 else 1) := by
        unfold liveQ
        rw [List.take_add_one, he, List.countP_append]
        cases gone <;> simp
      have HN := Lib.hid hnx
      clear hc2 hf2 he hnx
      generalize liveQ (Q.take k) = lv at hlv HN ⊢
      cases gone
      · go_wp2
        go_roundw
        case rel =>
          unfold LvInv
          exact ⟨k + 1, by omega, by go_num, by rw [HN.out]; go_num, HPU.out, HR1.out⟩
        case measure => simp [intOf]; omega
      · go_wp2
        go_roundw
        case rel =>
          unfold LvInv
          exact ⟨k + 1, by omega, by go_num, by rw [HN.out]; go_num, HPU.out, HR1.out⟩
        case measure => simp [intOf]; omega
    · have hk1 : (Q.length : Int) ≤ (k : Int) := by omega
      have hend : Q.length = k := by omega
      have HE := Lib.hid (show Q.take k = Q by rw [← hend, List.take_length])
      clear hend
      go_wp2
      go_ret
      exact ⟨by rw [HE.out]; rfl, HPU.out⟩
end Go.Proofs.Ytbjiebhbmpafpaa
