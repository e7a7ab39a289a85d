/- Lemmas and contracts of functions, strung together out of 7 texts. No condition. -/
import Derived.Test.YtapplindfijngaaGreatJPfDictOf5
import Derived.Test.YtapplindfijngaaGreatJPfDictOf1
import Derived.Test.YtapplindfijngaaGreatJPfDictOf3
/- The reference of layer 9: Has, Live, Get, Append, Remove of its log. Condition: the log's rows are its own (RefRow). -/
namespace Go.Proofs.YtapplindfijngaaGreat
open Go.RowKit Go.Shelf
set_option maxRecDepth 100000

theorem box4 {w1 : World} {b : Nat} {a0 a1 a2 a3 : Value} {T : TypeId} (hB : w1.heap[b]? = some (.cells #[a0, a1, a2, a3] T (0, 0))) (c0 c1 c2 c3 : Value) :
    (((((w1.setCell ⟨b, 0, none⟩ c0).setCell ⟨b, 1, none⟩ c1).setCell ⟨b, 2, none⟩ c2).setCell ⟨b, 3, none⟩ c3).heap[b]? = some (.cells #[c0, c1, c2, c3] T (0, 0))) ∧
    Mod (fun k => k = b) w1 ((((w1.setCell ⟨b, 0, none⟩ c0).setCell ⟨b, 1, none⟩ c1).setCell ⟨b, 2, none⟩ c2).setCell ⟨b, 3, none⟩ c3) := by
  refine ⟨?_, ((((Mod.refl (fun k => k = b) w1).setCell (p := ⟨b, 0, none⟩) (fun _ => rfl) _).setCell (p := ⟨b, 1, none⟩) (fun _ => rfl) _).setCell (p := ⟨b, 2, none⟩) (fun _ => rfl) _).setCell (p := ⟨b, 3, none⟩) (fun _ => rfl) _⟩
  simpa using heap_setCell_same _ _ 3 _ _ c3 (heap_setCell_same _ _ 2 _ _ c2 (heap_setCell_same _ _ 1 _ _ c1 (heap_setCell_same w1 _ 0 _ _ c0 hB)))

abbrev refV (aL : Option Addr) (cL : Nat) (aG : Option Addr) (cG : Nat) (n : Nat) : Value := .agg #[.slice aL n cL, .slice aG n cG]
def hasQ (Q : List RQ) (s : Nat) : Bool := match Q[s]? with | some q => !q.2.2 | none => false

theorem ref_Has {w : World} {aL : Option Addr} {cL : Nat} {aG : Option Addr} {cG : Nat} {Q : List RQ} (h : RefRow w aL cL aG cG Q) (s : Nat) (hs : s ≤ 4294967295) :
    Calls Tryz.prog 64 #[refV aL cL aG cG Q.length, .int .u32 s] w fun e w' => e = .returned (.bool (hasQ Q s)) ∧ Pure w w' := by
  have hp : Pure w (w.alloc (.cells #[.slice aL Q.length cL, .slice aG Q.length cG] 32)) := (Mod.refl _ w).alloc _
  have HP := Lib.hid hp
  have hlen := h.len
  have hs1 : (s : Int) ≤ 4294967295 := by omega
  by_cases hlt : s < Q.length
  · have he := List.getElem?_eq_getElem hlt
    generalize Q[s] = q at he
    obtain ⟨x, v, gone⟩ := q
    obtain ⟨g2, _, hsv, _, hg2, hc2, hf2, _⟩ := owns_at h.G (by omega)
    cases hsv
    have sg : w.cell? ⟨g2, s, none⟩ = some (.bool gone) := hc2 s _ (by rw [List.getElem?_map, he]; rfl)
    have hlt1 : (s : Int) < (Q.length : Int) := by omega
    have HE := Lib.hid he
    clear hc2 hf2 he hp h
    go_enter Tryz.func64, Tryz.ntmps64
    go_wp2
    go_ret
    exact ⟨by simp [hasQ, HE.out], HP.out⟩
  · have hlt1 : (Q.length : Int) ≤ (s : Int) := by omega
    have HE := Lib.hid (List.getElem?_eq_none (l := Q) (i := s) (by omega))
    clear hp h
    go_enter Tryz.func64, Tryz.ntmps64
    go_wp2
    go_ret
    exact ⟨by simp [hasQ, HE.out], HP.out⟩

def refGetPost (w : World) (Q : List RQ) (s : Nat) (e : Ending) (w' : World) : Prop :=
  Pure w w' ∧ match Q[s]? with
    | some (x, v, false) => e = .returned (.tuple #[entV x v, .int .i64 0])
    | _ => e = .returned (.tuple #[.agg #[.string ⟨#[]⟩, .slice none 0 0, .int .u64 0, .int .u64 0], .int .i64 9])

set_option maxHeartbeats 1000000 in
theorem ref_Get {w : World} {aL : Option Addr} {cL : Nat} {aG : Option Addr} {cG : Nat} {Q : List RQ} (h : RefRow w aL cL aG cG Q) (s : Nat) (hs : s ≤ 4294967295) :
    Calls Tryz.prog 85 #[refV aL cL aG cG Q.length, .int .u32 s] w (refGetPost w Q s) := by
  have H := Lib.hid h
  by_cases hh : hasQ Q s = true
  · obtain ⟨x, v, he⟩ : ∃ x v, Q[s]? = some (x, v, false) := by
      unfold hasQ at hh
      split at hh
      · rename_i q hq
        obtain ⟨x, v, g⟩ := q
        simp at hh
        subst hh
        exact ⟨x, v, hq⟩
      · cases hh
    have hlt : s < Q.length := (List.getElem?_eq_some_iff.1 he).1
    have hlt1 : (s : Int) < (Q.length : Int) := by omega
    have hs1 : (s : Int) ≤ 4294967295 := by omega
    obtain ⟨g, _, hsv, _, hg, hc, hf, _⟩ := owns_at h.L (by omega)
    cases hsv
    have hcc : ∀ j u, (cellsQ (x, v, false))[j]? = some u → w.cell? ⟨g, s * 4 + j, none⟩ = some u := by
      intro j u hu
      have hj : j < 4 := by rw [← cellsQ_length (x, v, false)]; exact (List.getElem?_eq_some_iff.1 hu).1
      refine hc _ _ ?_
      rw [flat_get cellsQ 4 cellsQ_length j hj, he]
      exact hu
    have hv := H.out.vals _ (List.mem_of_getElem? he)
    obtain ⟨va, vc, hve, _⟩ := owns_form hv
    dsimp only at hve
    subst hve
    have s0 : w.cell? ⟨g, s * 4, none⟩ = _ := hcc 0 _ rfl; have s1 := hcc 1 _ rfl; have s2 := hcc 2 _ rfl; have s3 := hcc 3 _ rfl
    dsimp only at s0 s1 s2 s3
    have HE := Lib.hid he
    clear hc hf hcc hv h he
    go_enter Tryz.func85, Tryz.ntmps85
    go_wp2_with (go_at_call 64; refine Calls.mono (ref_Has (H.out.pure (by (repeat' (first | (with_reducible exact Mod.refl _ _) | (with_reducible refine Mod.alloc ?_ _) | (with_reducible refine Mod.drew ?_) | (with_reducible refine Mod.drewN ?_ _) | (with_reducible refine Mod.setCell ?_ ?_ _) | (refine Mod.then ?_ (by with_reducible assumption) ?_))) <;> (all_goals (intros; first | (exfalso; assumption) | omega | (simp at *; done) | (simp at *; omega))))) s hs) ?_; rintro e w1 ⟨rfl, hp⟩; rw [hh]; have hp' : Pure w w1 := (by (repeat' (first | (with_reducible exact Mod.refl _ _) | (with_reducible refine Mod.alloc ?_ _) | (with_reducible refine Mod.drew ?_) | (with_reducible refine Mod.drewN ?_ _) | (with_reducible refine Mod.setCell ?_ ?_ _) | (refine Mod.then ?_ (by with_reducible assumption) ?_))) <;> (all_goals (intros; first | (exfalso; assumption) | omega | (simp at *; done) | (simp at *; omega)))); have q0 := hp'.cell (fun h => h) s0; have q1 := hp'.cell (fun h => h) s1; have q2 := hp'.cell (fun h => h) s2; have q3 := hp'.cell (fun h => h) s3; have z1 := Lib.hid (hp.heap (fun h => h) (heap_new (o := .cells #[.string ⟨#[]⟩, .slice none 0 0, .int .u64 0, .int .u64 0] 42 (0, 0)) (n := w.heap.size + 1) (by simp))); have b0 := (hp.cell (fun h => h) (by simp [go_sem]) : w1.cell? ⟨w.heap.size, 0, none⟩ = some (.slice (some ⟨g, 0, none⟩) Q.length cL)); have b1 := cell_of_row w1 _ 0 _ _ _ z1.out; have b2 := cell_of_row w1 _ 1 _ _ _ z1.out; have b3 := cell_of_row w1 _ 2 _ _ _ z1.out; have b4 := cell_of_row w1 _ 3 _ _ _ z1.out; have fb := (fun j => frozen_of_row w1 _ j _ _ z1.out); simp at b1 b2 b3 b4)
    obtain ⟨zr, zm⟩ := box4 z1.out (.string x.key) (.slice va (bytesOf x.val).length vc) (.int .u64 x.dl) (.int .u64 x.birth)
    have y0 := cell_of_row _ _ 0 _ _ _ zr; have y1 := cell_of_row _ _ 1 _ _ _ zr; have y2 := cell_of_row _ _ 2 _ _ _ zr; have y3 := cell_of_row _ _ 3 _ _ _ zr
    simp at y0 y1 y2 y3
    refine bodyPost_ret (v := .tuple #[entV x (.slice va (bytesOf x.val).length vc), .int .i64 0]) (by simp [results, Tryz.results85, go_sem, y0, y1, y2, y3]) rfl ⟨hp'.then zm (fun i hi h => by omega), ?_⟩
    rw [HE.out]
  · have hf : hasQ Q s = false := by simpa using hh
    clear h hh
    go_enter Tryz.func85, Tryz.ntmps85
    go_wp2_with (go_at_call 64; refine Calls.mono (ref_Has (H.out.pure (by (repeat' (first | (with_reducible exact Mod.refl _ _) | (with_reducible refine Mod.alloc ?_ _) | (with_reducible refine Mod.drew ?_) | (with_reducible refine Mod.drewN ?_ _) | (with_reducible refine Mod.setCell ?_ ?_ _) | (refine Mod.then ?_ (by with_reducible assumption) ?_))) <;> (all_goals (intros; first | (exfalso; assumption) | omega | (simp at *; done) | (simp at *; omega))))) s hs) ?_; rintro e w1 ⟨rfl, hp⟩; rw [hf]; have hp' : Pure w w1 := (by (repeat' (first | (with_reducible exact Mod.refl _ _) | (with_reducible refine Mod.alloc ?_ _) | (with_reducible refine Mod.drew ?_) | (with_reducible refine Mod.drewN ?_ _) | (with_reducible refine Mod.setCell ?_ ?_ _) | (refine Mod.then ?_ (by with_reducible assumption) ?_))) <;> (all_goals (intros; first | (exfalso; assumption) | omega | (simp at *; done) | (simp at *; omega)))); have z1 := Lib.hid (hp.heap (fun h => h) (heap_new (o := .cells #[.string ⟨#[]⟩, .slice none 0 0, .int .u64 0, .int .u64 0] 42 (0, 0)) (n := w.heap.size + 1) (by simp))); have b1 := cell_of_row w1 _ 0 _ _ _ z1.out; have b2 := cell_of_row w1 _ 1 _ _ _ z1.out; have b3 := cell_of_row w1 _ 2 _ _ _ z1.out; have b4 := cell_of_row w1 _ 3 _ _ _ z1.out; have fb := (fun j => frozen_of_row w1 _ j _ _ z1.out); simp at b1 b2 b3 b4)
    obtain ⟨zr, zm⟩ := box4 z1.out (.string ⟨#[]⟩) (.slice none 0 0) (.int .u64 0) (.int .u64 0)
    have y0 := cell_of_row _ _ 0 _ _ _ zr; have y1 := cell_of_row _ _ 1 _ _ _ zr; have y2 := cell_of_row _ _ 2 _ _ _ zr; have y3 := cell_of_row _ _ 3 _ _ _ zr
    simp at y0 y1 y2 y3
    refine bodyPost_ret (v := .tuple #[.agg #[.string ⟨#[]⟩, .slice none 0 0, .int .u64 0, .int .u64 0], .int .i64 9]) (by simp [results, Tryz.results85, go_sem, y0, y1, y2, y3]) rfl ⟨hp'.then zm (fun i hi h => by omega), ?_⟩
    unfold hasQ at hf
    split
    · rename_i hq
      rw [hq] at hf
      simp at hf
    · rfl

/-! ### Live -/
def liveQ (Q : List RQ) : Nat := Q.countP (fun q => !q.2.2)
def LvInv (w : World) (aL : Option Addr) (cL : Nat) (aG : Option Addr) (cG : Nat) (Q : List RQ) (n i : Value) (wr : World) : Prop :=
  ∃ k : Nat, k ≤ Q.length ∧ i = .int .i64 k ∧ n = .int .i64 (liveQ (Q.take k)) ∧ Pure w wr ∧ wr.heap[w.heap.size]? = some (.cells #[.slice aL Q.length cL, .slice aG Q.length cG] 32 (0, 0))
set_option maxHeartbeats 1000000 in
theorem ref_Live {w : World} {aL : Option Addr} {cL : Nat} {aG : Option Addr} {cG : Nat} {Q : List RQ} (h : RefRow w aL cL aG cG Q) :
    Calls Tryz.prog 20 #[refV aL cL aG cG Q.length] w fun e w' => e = .returned (.int .i64 (liveQ Q)) ∧ Pure w w' := by
  have H := Lib.hid h
  have hlen := h.len
  clear h
  go_enter Tryz.func20, Tryz.ntmps20
  go_wp2
  go_loopw [3, 4] (fun n i wr => LvInv w aL cL aG cG Q n i wr) (fun _ i _ => Q.length - (intOf i).toNat)
  case atStart => exact ⟨0, Nat.zero_le _, rfl, rfl, (Mod.refl _ w).alloc _, heap_new rfl⟩
  case round =>
    obtain ⟨k, hk, rfl, rfl, hpu, hr1⟩ := hrel
    have e1 := cell_of_row wr _ 0 _ _ _ hr1; have e11 := cell_of_row wr _ 1 _ _ _ hr1
    simp at e1 e11
    have HW := Lib.hid (H.out.pure hpu)
    have HPU := Lib.hid hpu
    have HR1 := Lib.hid hr1
    clear hpu hr1
    have hlv : liveQ (Q.take k) ≤ 4194304 := by have := List.countP_le_length (p := fun q : RQ => !q.2.2) (l := Q.take k); unfold liveQ; simp at this; omega
    by_cases hlt : k < Q.length
    · have hk1 : (k : Int) < (Q.length : Int) := by omega
      have he := List.getElem?_eq_getElem hlt
      generalize Q[k] = q at he
      obtain ⟨x, v, gone⟩ := q
      obtain ⟨g2, _, hsv, _, hg2, hc2, hf2, _⟩ := owns_at HW.out.G (by omega)
      cases hsv
      have sg : wr.cell? ⟨g2, k, none⟩ = some (.bool gone) := hc2 k _ (by rw [List.getElem?_map, he]; rfl)
      have hnx : liveQ (Q.take (k + 1)) = liveQ (Q.take k) + (if gone then 0 else 1) := by
        unfold liveQ
        rw [List.take_add_one, he, List.countP_append]
        cases gone <;> simp
      have HN := Lib.hid hnx
      clear hc2 hf2 he hnx
      generalize liveQ (Q.take k) = lv at hlv HN ⊢
      cases gone
      · go_wp2
        go_roundw
        case rel =>
          unfold LvInv
          exact ⟨k + 1, by omega, by go_num, by rw [HN.out]; go_num, HPU.out, HR1.out⟩
        case measure => simp [intOf]; omega
      · go_wp2
        go_roundw
        case rel =>
          unfold LvInv
          exact ⟨k + 1, by omega, by go_num, by rw [HN.out]; go_num, HPU.out, HR1.out⟩
        case measure => simp [intOf]; omega
    · have hk1 : (Q.length : Int) ≤ (k : Int) := by omega
      have hend : Q.length = k := by omega
      have HE := Lib.hid (show Q.take k = Q by rw [← hend, List.take_length])
      clear hend
      go_wp2
      go_ret
      exact ⟨by rw [HE.out]; rfl, HPU.out⟩
end Go.Proofs.YtapplindfijngaaGreat

/- A slice in a field of a struct that lies in a block: what an append to it leaves; rows of other types behind a change. -/
namespace Go.Proofs.YtapplindfijngaaGreat
open Go.RowKit

/-- A row keeps, if what has turned are blocks of other types. -/
theorem owns_modT {w w' : World} {S : Nat → Prop} {T k n : Nat} {v : Value} {xs : List Value} (ho : w.ownsRow 0 T k v n xs) (hm : Mod S w w')
    (hS : ∀ i, S i → i < w.heap.size → ∃ cs T' fz, w.heap[i]? = some (.cells cs T' fz) ∧ T' ≠ T) : w'.ownsRow 0 T k v n xs :=
  owns_mod ho hm (fun g hg hs => by
    obtain ⟨c, e⟩ := owns_type ho hg
    obtain ⟨cs, T', fz, e', hne⟩ := hS g hs (owns_lt ho hg)
    rw [e] at e'; cases e'; exact hne rfl)
theorem heap_modT {w w' : World} {S : Nat → Prop} {T k : Nat} {cs : Array Value} {fz : Nat × Nat} (hb : w.heap[k]? = some (.cells cs T fz)) (hm : Mod S w w')
    (hS : ∀ i, S i → i < w.heap.size → ∃ cs T' fz, w.heap[i]? = some (.cells cs T' fz) ∧ T' ≠ T) : w'.heap[k]? = some (.cells cs T fz) :=
  hm.heap (fun hs => by
    obtain ⟨cs', T', fz', e', hne⟩ := hS k hs (lt_of_block hb)
    rw [hb] at e'; cases e'; exact hne rfl) hb

/-- x.f = append(x.f, ..), x in block b, f its cell j. -/
theorem field_append {w wg w5 : World} {b j : Nat} {cs : Array Value} {T E k n n' : Nat} {v v' : Value} {xs xs' : List Value}
    (hb : w.heap[b]? = some (.cells cs T (0, 0))) (ho : w.ownsRow 0 E k v n xs) (hTE : T ≠ E) (hp : Pure w wg)
    (ho5 : w5.ownsRow 0 E k v' n' xs') (hg : wg.grownBy w5 v.ownBlock) (hat : v'.ownBlock = v.ownBlock ∨ v'.ownBlock = some wg.heap.size) :
    (w5.setCell ⟨b, j, none⟩ v').heap[b]? = some (.cells (cs.setIfInBounds j v') T (0, 0)) ∧ (w5.setCell ⟨b, j, none⟩ v').ownsRow 0 E k v' n' xs' ∧
      Mod (fun i => i = b ∨ v.ownBlock = some i) w (w5.setCell ⟨b, j, none⟩ v') ∧ (∀ g, v'.ownBlock = some g → v.ownBlock = some g ∨ w.heap.size ≤ g) := by
  have hlb : b < w.heap.size := lt_of_block hb
  have hnb : v.ownBlock ≠ some b := fun e => by
    obtain ⟨c, e'⟩ := owns_type ho e
    rw [hb] at e'; cases e'; exact hTE rfl
  have hnb' : v'.ownBlock ≠ some b := fun e => by
    rcases hat with h | h
    · exact hnb (h ▸ e)
    · rw [h] at e; cases e; have := hp.size; omega
  have m5 : w5.heap[b]? = some (.cells cs T (0, 0)) :=
    Mod.heap (Mod.of_grown (S := fun i => v.ownBlock = some i) hg (fun k e _ => e)) hnb (hp.heap (fun h => h) hb)
  refine ⟨heap_setCell_same w5 b j cs T v' m5, owns_mod ho5 ((Mod.refl (fun i => i = b) w5).setCell (p := ⟨b, j, none⟩) (fun _ => rfl) _) (fun g hg h => hnb' (h ▸ hg)), ?_, ?_⟩
  · exact ((Mod.of_pure hp).then (Mod.of_grown (S := fun i => i = b ∨ v.ownBlock = some i) hg (fun k e _ => .inr e)) (fun _ _ h => h)).setCell (fun _ => .inl rfl) _
  · intro g e
    rcases hat with h | h
    · exact .inl (h ▸ e)
    · rw [h] at e; cases e; exact .inr hp.size

/-- A local slice (in a slot): append. -/
theorem slot_append {w wg w5 : World} {E k n n' : Nat} {v v' : Value} {xs' : List Value}
    (hp : Pure w wg) (_ho5 : w5.ownsRow 0 E k v' n' xs') (hg : wg.grownBy w5 v.ownBlock) (hat : v'.ownBlock = v.ownBlock ∨ v'.ownBlock = some wg.heap.size) :
    Mod (fun i => v.ownBlock = some i) w w5 ∧ (∀ g, v'.ownBlock = some g → v.ownBlock = some g ∨ w.heap.size ≤ g) := by
  refine ⟨(Mod.of_pure hp).then (Mod.of_grown (S := fun i => v.ownBlock = some i) hg (fun k e _ => e)) (fun _ _ h => h), ?_⟩
  intro g e
  rcases hat with h | h
  · exact .inl (h ▸ e)
  · rw [h] at e; cases e; exact .inr hp.size

/-- The block of a struct behind stores into its cells. -/
theorem heap_set1 {w : World} {b j : Nat} {cs : Array Value} {T : TypeId} {v : Value} (h : w.heap[b]? = some (.cells cs T (0, 0))) : (w.setCell ⟨b, j, none⟩ v).heap[b]? = some (.cells (cs.setIfInBounds j v) T (0, 0)) := heap_setCell_same w b j cs T v h
theorem heap_set12 {w : World} {b : Nat} {u0 u1 v0 v1 : Value} {T : TypeId} (h : w.heap[b]? = some (.cells #[u0, u1] T (0, 0))) : ((w.setCell ⟨b, 0, none⟩ v0).setCell ⟨b, 1, none⟩ v1).heap[b]? = some (.cells #[v0, v1] T (0, 0)) :=
  heap_set1 (j := 1) (heap_set1 (j := 0) h)
theorem Mod.set1 {w : World} (b j : Nat) (v : Value) : Mod (fun i => i = b) w (w.setCell ⟨b, j, none⟩ v) := (Mod.refl (fun i => i = b) w).setCell (p := ⟨b, j, none⟩) (fun _ => rfl) v
theorem Mod.set2 {w : World} (b j k : Nat) (u v : Value) : Mod (fun i => i = b) w ((w.setCell ⟨b, j, none⟩ u).setCell ⟨b, k, none⟩ v) := (Mod.set1 b j u).trans (Mod.set1 b k v)
/-- What is only of new blocks is Pure. -/
theorem Mod.fresh {S : Nat → Prop} {a b c : World} (h : Pure a b) (hm : Mod S b c) (hS : ∀ i, S i → a.heap.size ≤ i) : Pure a c := h.then hm (fun i hi hs => by have := hS i hs; omega)
end Go.Proofs.YtapplindfijngaaGreat

/- The reference of layer 9: Append of its log. Conditions: the log's rows are its own (RefRow), the entry is valid, its value is read. -/
namespace Go.Proofs.YtapplindfijngaaGreat
open Go.RowKit Go.Shelf
set_option maxRecDepth 100000

/-- Between the appends of Append: n0: the blocks below are elder; b8: the box of the copy. -/
structure ApMid (w : World) (b8 : Nat) (aL : Option Addr) (cL : Nat) (aG : Option Addr) (cG : Nat) (n : Nat) (k : Nat) (Q' : List RQ) (x : Ent) (wr : World) : Prop where
  pu : Pure w wr
  r2 : wr.heap[w.heap.size]? = some (.cells #[.slice aL n cL, .slice aG n cG] 32 (0, 0))
  r4 : wr.heap[w.heap.size + 1 + 1]? = some (.cells #[.slice none 0 0, .slice none 0 0] 32 (0, 0))
  r8 : ∃ aL' cL' aG' cG' v', wr.heap[b8]? = some (.cells #[.slice aL' (k + 1) cL', .slice aG' k cG'] 32 (0, 0)) ∧
    wr.ownsRow 0 42 4 (.slice aL' (k + 1) cL') (k + 1) (Q'.flatMap cellsQ ++ entCells x v') ∧ wr.ownsRow 0 4 1 (.slice aG' k cG') k (Q'.map goneQ) ∧
    (∀ q ∈ Q', BytesAt wr q.2.1 (bytesOf q.1.val)) ∧ BytesAt wr v' (bytesOf x.val) ∧
    (∀ g, (Value.slice aL' (k + 1) cL').ownBlock = some g → w.heap.size + 1 + 1 < g) ∧ (∀ g, (Value.slice aG' k cG').ownBlock = some g → w.heap.size + 1 + 1 < g)

theorem ap_mid {w wr w1 w5 : World} {b8 : Nat} {aL aG aL' aG' a1 a7 : Option Addr} {cL cG cL' cG' c1 c7 n n1 : Nat} {Q' : List RQ} {x : Ent} {cs : Array Value}
    (pu : Pure w wr) (r2 : wr.heap[w.heap.size]? = some (.cells #[.slice aL n cL, .slice aG n cG] 32 (0, 0))) (r4 : wr.heap[w.heap.size + 1 + 1]? = some (.cells #[.slice none 0 0, .slice none 0 0] 32 (0, 0)))
    (hlb : w.heap.size + 1 + 1 < b8) (r8 : wr.heap[b8]? = some (.cells #[.slice aL' Q'.length cL', .slice aG' Q'.length cG'] 32 (0, 0))) (hR : RefRow wr aL' cL' aG' cG' Q')
    (fL : ∀ g, (Value.slice aL' Q'.length cL').ownBlock = some g → w.heap.size + 1 + 1 < g) (fG : ∀ g, (Value.slice aG' Q'.length cG').ownBlock = some g → w.heap.size + 1 + 1 < g)
    (hp1 : Pure wr w1) (hr1 : w1.ownsRow 0 5 1 (.slice a1 n1 c1) n1 (bytesOf x.val))
    (hr7 : w5.ownsRow 0 42 4 (.slice a7 (Q'.length + 1) c7) (Q'.length + 1) (Q'.flatMap cellsQ ++ [.string x.key, .slice a1 n1 c1, .int .u64 x.dl, .int .u64 x.birth]))
    (hg7 : (w1.alloc (.cells cs 42)).grownBy w5 (Value.slice aL' Q'.length cL').ownBlock)
    (hb7 : (Value.slice a7 (Q'.length + 1) c7).ownBlock = (Value.slice aL' Q'.length cL').ownBlock ∨ (Value.slice a7 (Q'.length + 1) c7).ownBlock = some (w1.heap.size + 1)) :
    ApMid w b8 aL cL aG cG n Q'.length Q' x (w5.setCell ⟨b8, 0, none⟩ (.slice a7 (Q'.length + 1) c7)) := by
  have hlr : b8 < wr.heap.size := lt_of_block r8
  have hL1 := owns_mod hR.L hp1 (fun _ _ h => h)
  have hM : Mod (fun k' => (Value.slice aL' Q'.length cL').ownBlock = some k' ∨ k' = b8) w1 (w5.setCell ⟨b8, 0, none⟩ (.slice a7 (Q'.length + 1) c7)) :=
    (((Mod.refl _ w1).alloc _).then (Mod.of_grown (S := fun k' => (Value.slice aL' Q'.length cL').ownBlock = some k' ∨ k' = b8) hg7 (fun k e _ => .inl e)) (fun _ _ h => h)).setCell (fun _ => .inr rfl) _
  have hn : ∀ k', k' ≤ w.heap.size + 1 + 1 → ¬ ((Value.slice aL' Q'.length cL').ownBlock = some k' ∨ k' = b8) := by
    rintro k' hk (h | rfl)
    · have := fL _ h; omega
    · omega
  have hnb8 : (Value.slice aL' Q'.length cL').ownBlock ≠ some b8 := fun e => by
    obtain ⟨c, e'⟩ := owns_type hR.L e
    rw [r8] at e'; cases e'
  have m5 : w5.heap[b8]? = some (.cells #[.slice aL' Q'.length cL', .slice aG' Q'.length cG'] 32 (0, 0)) :=
    Mod.heap (Mod.of_grown (S := fun k' => (Value.slice aL' Q'.length cL').ownBlock = some k') hg7 (fun k e _ => e)) hnb8 (heap_keep (hp1.heap (fun h => h) r8))
  have h8 : ∀ g, (Value.slice a7 (Q'.length + 1) c7).ownBlock = some g → w.heap.size + 1 + 1 < g ∧ g ≠ b8 := by
    intro g hg
    rcases hb7 with e | e <;> rw [e] at hg
    · exact ⟨fL g hg, fun e => hnb8 (e ▸ hg)⟩
    · have := hp1.size; cases hg; exact ⟨by omega, by omega⟩
  have nby : ∀ {T k n : Nat} {v : Value} {xs : List Value}, w1.ownsRow 0 T k v n xs → T ≠ 42 → T ≠ 32 → (w5.setCell ⟨b8, 0, none⟩ (.slice a7 (Q'.length + 1) c7)).ownsRow 0 T k v n xs := by
    intro T k n v xs ho h1 h2
    refine owns_mod ho hM (fun g hg h => ?_)
    rcases h with h | h
    · exact owns_apart ho hL1 h1 hg h
    · obtain ⟨c, e⟩ := owns_type ho hg
      rw [h, hp1.heap (fun h => h) r8] at e
      cases e
      exact h2 rfl
  have e1 : n1 = (bytesOf x.val).length := by have := hr1.1; omega
  refine ⟨(pu.trans hp1).then hM (fun k' hk h => hn k' (by omega) h), hM.heap (hn _ (by omega)) (hp1.heap (fun h => h) r2), hM.heap (hn _ (by omega)) (hp1.heap (fun h => h) r4), a7, c7, aG', cG', .slice a1 n1 c1, ?_, ?_,
    nby (owns_mod hR.G hp1 (fun _ _ h => h)) (by decide) (by decide), fun q hq => nby (owns_mod (hR.vals q hq) hp1 (fun _ _ h => h)) (by decide) (by decide), ?_, fun g hg => (h8 g hg).1, fG⟩
  · simpa using heap_setCell_same w5 b8 0 _ _ (.slice a7 (Q'.length + 1) c7) m5
  · exact owns_mod hr7 ((Mod.refl (fun k' => k' = b8) w5).setCell (p := ⟨b8, 0, none⟩) (fun _ => rfl) _) (fun g hg h => (h8 g hg).2 h)
  · unfold BytesAt
    subst e1
    exact nby hr1 (by decide) (by decide)

structure ApFin (w : World) (b8 : Nat) (aL : Option Addr) (cL : Nat) (aG : Option Addr) (cG : Nat) (n : Nat) (aL' : Option Addr) (cL' : Nat) (aG' : Option Addr) (cG' : Nat) (Q2 : List RQ) (wr : World) : Prop where
  pu : Pure w wr
  r2 : wr.heap[w.heap.size]? = some (.cells #[.slice aL n cL, .slice aG n cG] 32 (0, 0))
  r4 : wr.heap[w.heap.size + 1 + 1]? = some (.cells #[.slice none 0 0, .slice none 0 0] 32 (0, 0))
  r8 : wr.heap[b8]? = some (.cells #[.slice aL' Q2.length cL', .slice aG' Q2.length cG'] 32 (0, 0))
  R : RefRow wr aL' cL' aG' cG' Q2
  fL : ∀ g, (Value.slice aL' Q2.length cL').ownBlock = some g → w.heap.size + 1 + 1 < g
  fG : ∀ g, (Value.slice aG' Q2.length cG').ownBlock = some g → w.heap.size + 1 + 1 < g
theorem ap_fin {w wc w5 : World} {b8 : Nat} {aL aG aL' aG' a7 : Option Addr} {cL cG cL' cG' c7 n : Nat} {Q' : List RQ} {x : Ent} {v' : Value} {cs : Array Value}
    (hxok : x.Ok) (hlen : Q'.length < 4194304) (hQok : ∀ q ∈ Q', q.1.Ok) (pu : Pure w wc)
    (r2 : wc.heap[w.heap.size]? = some (.cells #[.slice aL n cL, .slice aG n cG] 32 (0, 0))) (r4 : wc.heap[w.heap.size + 1 + 1]? = some (.cells #[.slice none 0 0, .slice none 0 0] 32 (0, 0)))
    (hlb : w.heap.size + 1 + 1 < b8) (r8 : wc.heap[b8]? = some (.cells #[.slice aL' (Q'.length + 1) cL', .slice aG' Q'.length cG'] 32 (0, 0)))
    (hL : wc.ownsRow 0 42 4 (.slice aL' (Q'.length + 1) cL') (Q'.length + 1) (Q'.flatMap cellsQ ++ entCells x v'))
    (hG : wc.ownsRow 0 4 1 (.slice aG' Q'.length cG') Q'.length (Q'.map goneQ)) (hvs : ∀ q ∈ Q', BytesAt wc q.2.1 (bytesOf q.1.val)) (hv' : BytesAt wc v' (bytesOf x.val))
    (fL : ∀ g, (Value.slice aL' (Q'.length + 1) cL').ownBlock = some g → w.heap.size + 1 + 1 < g) (fG : ∀ g, (Value.slice aG' Q'.length cG').ownBlock = some g → w.heap.size + 1 + 1 < g)
    (hr7 : w5.ownsRow 0 4 1 (.slice a7 (Q'.length + 1) c7) (Q'.length + 1) (Q'.map goneQ ++ [.bool false]))
    (hg7 : (wc.alloc (.cells cs 4)).grownBy w5 (Value.slice aG' Q'.length cG').ownBlock)
    (hb7 : (Value.slice a7 (Q'.length + 1) c7).ownBlock = (Value.slice aG' Q'.length cG').ownBlock ∨ (Value.slice a7 (Q'.length + 1) c7).ownBlock = some (wc.heap.size + 1)) :
    ApFin w b8 aL cL aG cG n aL' cL' a7 c7 (Q' ++ [(x, v', false)]) (w5.setCell ⟨b8, 1, none⟩ (.slice a7 (Q'.length + 1) c7)) := by
  have hlr : b8 < wc.heap.size := lt_of_block r8
  have hM : Mod (fun k' => (Value.slice aG' Q'.length cG').ownBlock = some k' ∨ k' = b8) wc (w5.setCell ⟨b8, 1, none⟩ (.slice a7 (Q'.length + 1) c7)) :=
    (((Mod.refl _ wc).alloc _).then (Mod.of_grown (S := fun k' => (Value.slice aG' Q'.length cG').ownBlock = some k' ∨ k' = b8) hg7 (fun k e _ => .inl e)) (fun _ _ h => h)).setCell (fun _ => .inr rfl) _
  have hn : ∀ k', k' ≤ w.heap.size + 1 + 1 → ¬ ((Value.slice aG' Q'.length cG').ownBlock = some k' ∨ k' = b8) := by
    rintro k' hk (h | rfl)
    · have := fG _ h; omega
    · omega
  have hnb8 : (Value.slice aG' Q'.length cG').ownBlock ≠ some b8 := fun e => by
    obtain ⟨c, e'⟩ := owns_type hG e
    rw [r8] at e'; cases e'
  have m5 : w5.heap[b8]? = some (.cells #[.slice aL' (Q'.length + 1) cL', .slice aG' Q'.length cG'] 32 (0, 0)) :=
    Mod.heap (Mod.of_grown (S := fun k' => (Value.slice aG' Q'.length cG').ownBlock = some k') hg7 (fun k e _ => e)) hnb8 (heap_keep r8)
  have h8 : ∀ g, (Value.slice a7 (Q'.length + 1) c7).ownBlock = some g → w.heap.size + 1 + 1 < g ∧ g ≠ b8 := by
    intro g hg
    rcases hb7 with e | e <;> rw [e] at hg
    · exact ⟨fG g hg, fun e => hnb8 (e ▸ hg)⟩
    · cases hg; exact ⟨by omega, by omega⟩
  have nby : ∀ {T j n : Nat} {v : Value} {xs : List Value}, wc.ownsRow 0 T j v n xs → T ≠ 4 → T ≠ 32 → (w5.setCell ⟨b8, 1, none⟩ (.slice a7 (Q'.length + 1) c7)).ownsRow 0 T j v n xs := by
    intro T j n v xs ho h1 h2
    refine owns_mod ho hM (fun g hg h => ?_)
    rcases h with h | h
    · exact owns_apart ho hG h1 hg h
    · obtain ⟨c, e⟩ := owns_type ho hg
      rw [h, r8] at e
      cases e
      exact h2 rfl
  have hl2 : (Q' ++ [(x, v', false)]).length = Q'.length + 1 := by simp
  refine ⟨pu.then hM (fun k' hk h => hn k' (by omega) h), hM.heap (hn _ (by omega)) r2, hM.heap (hn _ (by omega)) r4, ?_, ⟨?_, ?_, ?_, ?_, by omega⟩, by rw [hl2]; exact fL, by rw [hl2]; exact fun g hg => (h8 g hg).1⟩
  · rw [hl2]
    simpa using heap_setCell_same w5 b8 1 _ _ (.slice a7 (Q'.length + 1) c7) m5
  · rw [hl2, List.flatMap_append]
    simpa [cellsQ] using nby hL (by decide) (by decide)
  · rw [hl2, List.map_append]
    exact owns_mod hr7 ((Mod.refl (fun k' => k' = b8) w5).setCell (p := ⟨b8, 1, none⟩) (fun _ => rfl) _) (fun g hg h => (h8 g hg).2 h)
  · intro q hq
    rcases List.mem_append.1 hq with h | h
    · exact nby (hvs q h) (by decide) (by decide)
    · rw [List.mem_singleton] at h
      subst h
      exact nby hv' (by decide) (by decide)
  · intro q hq
    rcases List.mem_append.1 hq with h | h
    · exact hQok q h
    · rw [List.mem_singleton] at h
      subst h
      exact hxok

theorem RefRow.modT {w w' : World} {S : Nat → Prop} {aL : Option Addr} {cL : Nat} {aG : Option Addr} {cG : Nat} {Q : List RQ} (h : RefRow w aL cL aG cG Q) (hm : Mod S w w')
    (hS : ∀ i, S i → i < w.heap.size → ∃ cs fz, w.heap[i]? = some (.cells cs 32 fz)) : RefRow w' aL cL aG cG Q :=
  have hS' : ∀ (T : Nat), 32 ≠ T → ∀ i, S i → i < w.heap.size → ∃ cs T' fz, w.heap[i]? = some (.cells cs T' fz) ∧ T' ≠ T := fun T hT i hi hl => by
    obtain ⟨cs, fz, e⟩ := hS i hi hl
    exact ⟨cs, _, fz, e, hT⟩
  ⟨owns_modT h.L hm (hS' _ (by decide)), owns_modT h.G hm (hS' _ (by decide)), fun q hq => owns_modT (h.vals q hq) hm (hS' _ (by decide)), h.ok, h.len⟩
def refAppPost (w : World) (Q : List RQ) (x : Ent) (e : Ending) (w' : World) : Prop :=
  ∃ aL cL aG cG Q', e = .returned (.tuple #[refV aL cL aG cG Q'.length, .int .u32 Q.length, .int .i64 0]) ∧ Q'.map absQ = Q.map absQ ++ [(x, false)] ∧ RefRow w' aL cL aG cG Q' ∧ Fresh w (.slice aL Q'.length cL) ∧ Fresh w (.slice aG Q'.length cG) ∧ Pure w w'

theorem ap_ret {w W6 w' : World} {b8 : Nat} {aL : Option Addr} {cL : Nat} {aG : Option Addr} {cG n : Nat} {aL2 : Option Addr} {cL2 : Nat} {a7 : Option Addr} {c7 : Nat} {Q Q2 : List RQ} {x : Ent} {k1 : Nat}
    (HF : ApFin w b8 aL cL aG cG n aL2 cL2 a7 c7 Q2 W6) (hQ2 : Q2.map absQ = Q.map absQ ++ [(x, false)]) (hl : Q2.length = k1) (hm : Mod (fun i => i = w.heap.size + 1 + 1) W6 w') :
    refAppPost w Q x (.returned (.tuple #[refV aL2 cL2 a7 c7 k1, .int .u32 Q.length, .int .i64 0])) w' := by
  subst hl
  exact ⟨aL2, cL2, a7, c7, Q2, rfl, hQ2, HF.R.modT hm (fun i hi _ => by subst hi; exact ⟨_, _, HF.r4⟩), fun g hg => by have := HF.fL g hg; omega, fun g hg => by have := HF.fG g hg; omega, HF.pu.then hm (fun i hi h => by omega)⟩
set_option maxHeartbeats 1000000 in
theorem ref_Append {w : World} {aL : Option Addr} {cL : Nat} {aG : Option Addr} {cG : Nat} {Q : List RQ} (h : RefRow w aL cL aG cG Q) (hQ : Q.length < 4194304) (x : Ent) (hxok : x.Ok) (a : Option Addr) (n c : Nat) (hx : ReadAt w (.slice a n c) 1 (bytesOf x.val)) :
    Calls Tryz.prog 23 #[refV aL cL aG cG Q.length, entV x (.slice a n c)] w (refAppPost w Q x) := by
  have H := Lib.hid h
  have hn : n ≤ 65536 := by have := read_length hx; rw [bytesOf_length] at this; have := hxok.v1; omega
  have hb : (x.birth == 0) = false := by have := hxok.b0; simp; omega
  have HX := Lib.hid hx
  clear h hx
  go_enter Tryz.func23, Tryz.ntmps23
  go_upto_region 5 with (first
    | (go_at_call 53; refine Calls.mono (ref_Check_ok x.key a n c x.birth _ hxok.k0 hxok.k1 hn hb) ?_; rintro e w1 ⟨rfl, rfl⟩)
    | (go_at_call 71; refine Calls.mono (ref_LogCopy (H.out.pure (by (repeat' (first | (with_reducible exact Mod.refl _ _) | (with_reducible refine Mod.alloc ?_ _) | (with_reducible refine Mod.drew ?_) | (with_reducible refine Mod.drewN ?_ _) | (with_reducible refine Mod.setCell ?_ ?_ _) | (refine Mod.then ?_ (by with_reducible assumption) ?_))) <;> (all_goals (intros; first | (exfalso; assumption) | omega | (simp at *; done) | (simp at *; omega)))))) ?_; rintro e w1 ⟨aL', cL', aG', cG', Q', rfl, hq', hR', hfL, hfG, hp⟩))
  have r2 := heap_keep (o := .cells #[.slice aL' Q'.length cL', .slice aG' Q'.length cG'] 32 (0, 0)) (hp.heap (fun h => h) (heap_keep (o := .cells #[.slice none 0 0, .slice none 0 0] 32 (0, 0)) (heap_keep (o := .cells #[.string x.key, .slice a n c, .int .u64 x.dl, .int .u64 x.birth] 42 (0, 0)) (heap_new (w := w) (o := .cells #[.slice aL Q.length cL, .slice aG Q.length cG] 32 (0, 0)) rfl))))
  have r3 := heap_keep (o := .cells #[.slice aL' Q'.length cL', .slice aG' Q'.length cG'] 32 (0, 0)) (hp.heap (fun h => h) (heap_keep (o := .cells #[.slice none 0 0, .slice none 0 0] 32 (0, 0)) (heap_new (w := w.alloc (.cells #[.slice aL Q.length cL, .slice aG Q.length cG] 32)) (o := .cells #[.string x.key, .slice a n c, .int .u64 x.dl, .int .u64 x.birth] 42 (0, 0)) (n := w.heap.size + 1) (by simp))))
  have r4 := heap_keep (o := .cells #[.slice aL' Q'.length cL', .slice aG' Q'.length cG'] 32 (0, 0)) (hp.heap (fun h => h) (heap_new (w := (w.alloc (.cells #[.slice aL Q.length cL, .slice aG Q.length cG] 32)).alloc (.cells #[.string x.key, .slice a n c, .int .u64 x.dl, .int .u64 x.birth] 42)) (o := .cells #[.slice none 0 0, .slice none 0 0] 32 (0, 0)) (n := w.heap.size + 1 + 1) (by simp)))
  have r8 := heap_new (w := w1) (o := .cells #[.slice aL' Q'.length cL', .slice aG' Q'.length cG'] 32 (0, 0)) rfl
  have hpw : Pure w w1 := by (repeat' (first | (with_reducible exact Mod.refl _ _) | (with_reducible refine Mod.alloc ?_ _) | (with_reducible refine Mod.drew ?_) | (with_reducible refine Mod.drewN ?_ _) | (with_reducible refine Mod.setCell ?_ ?_ _) | (refine Mod.then ?_ (by with_reducible assumption) ?_))) <;> (all_goals (intros; first | (exfalso; assumption) | omega | (simp at *; done) | (simp at *; omega)))
  have hp1 : Pure w1 (w1.alloc (.cells #[.slice aL' Q'.length cL', .slice aG' Q'.length cG'] 32)) := (Mod.refl _ w1).alloc _
  have hRW := Lib.hid (hR'.pure hp1)
  have hPW := Lib.hid (hpw.trans hp1)
  have hl8 : w.heap.size + 1 + 1 < w1.heap.size := by have := hp.size; simp at this; omega
  have hXW := Lib.hid (HX.out.frame (hpw.trans hp1) (fun _ _ h => h))
  have hFL : Hid (∀ g, (Value.slice aL' Q'.length cL').ownBlock = some g → w.heap.size + 1 + 1 < g) := fun g hg => by have := hfL g hg; simp at this; omega
  have hFG : Hid (∀ g, (Value.slice aG' Q'.length cG').ownBlock = some g → w.heap.size + 1 + 1 < g) := fun g hg => by have := hfG g hg; simp at this; omega
  have hql : Q'.length = Q.length := by have := congrArg List.length hq'; simpa using this
  have hql2 : Q'.length < 4194304 := by omega
  have HQL := Lib.hid hql
  have HQ := Lib.hid hq'
  clear hql
  clear hp hpw hp1 hR' hfL hfG hq'
  generalize w1.alloc (.cells #[.slice aL' Q'.length cL', .slice aG' Q'.length cG'] 32) = W at *
  generalize w1.heap.size = b8 at *
  have e80 := cell_of_row W _ 0 _ _ _ r8
  have f8 := fun j => frozen_of_row W _ j _ _ r8
  have e30 := cell_of_row W _ 0 _ _ _ r3; have e31 := cell_of_row W _ 1 _ _ _ r3; have e32 := cell_of_row W _ 2 _ _ _ r3; have e33 := cell_of_row W _ 3 _ _ _ r3
  simp at e80 e30 e31 e32 e33
  have e8d : W.drew.cell? ⟨b8, 0, none⟩ = some (.slice aL' Q'.length cL') := e80
  have hlr := lt_of_block r8
  have R2 := Lib.hid r2; have R4 := Lib.hid r4; have R8 := Lib.hid r8
  clear r2 r3 r4 r8
  obtain ⟨i0, hi, iz0, iz1, iz2⟩ := info_parts info_Entry
  go_cut [] (fun wc => ApMid w b8 aL cL aG cG Q.length Q'.length Q' x wc)
  case first =>
    go_region_law ((first
      | (go_simp; go_at_call 72; refine Calls.mono (ref_Copy x.key a n c x.dl x.birth _ _ hXW.out hn) ?_; rintro e w4 ⟨a1, n1, c1, rfl, hr1, hf1, hp4⟩; have q6 := hp4.cell (fun h => h) e8d; have hl4 : b8 < w4.heap.size := Nat.lt_of_lt_of_le hlr hp4.size)
      | (refine step_append_read _ (by rfl) _ _ 29 (by rfl) 42 i0 _ 4 56 Tryz.underlying29 hi iz0 iz1 iz2 rfl (by decide) (.slice aL' Q'.length cL') Q'.length (Q'.flatMap cellsQ) (by rfl) (owns_mod (owns_mod hRW.out.L (Mod.of_drew hp4) (fun _ _ h => h)) ((Mod.refl (fun _ => False) w4).alloc _) (fun _ _ h => h)) _ [.string x.key, .slice a1 n1 c1, .int .u64 x.dl, .int .u64 x.birth] 1 (by rfl) (ReadAt.of_block 1 1 4 (heap_new (by simp)) (by rfl) (by simp [Value.oneCell'])) (by rfl) (by unfold maxLen; omega) (by omega) ?_; intro a7 c7 w5 hr7 hg7 hb7; have m7 := Mod.heap (Mod.of_grown (S := fun k' => (Value.slice aL' Q'.length cL').ownBlock = some k') hg7 (fun k e _ => e)) (fun e => (by obtain ⟨c, e'⟩ := owns_type hRW.out.L e; rw [R8.out] at e'; cases e')) (heap_keep ((Mod.of_drew hp4).heap (fun h => h) R8.out)); have M7 := Lib.hid m7; have fr7 := (fun j => frozen_of_row w5 _ j _ _ m7); have z7 := cell_of_row w5 _ 0 _ _ _ m7; clear m7)))
    all_goals
      clear e80 e30 e31 e32 e33 e8d f8 q6 z7 fr7
      go_wp2_with fail
      go_meet
      exact ap_mid hPW.out R2.out R4.out hl8 R8.out hRW.out hFL.out hFG.out (Mod.of_drew hp4) hr1 hr7 hg7 (by simpa using hb7)
  case rest =>
    clear e80 e30 e31 e32 e33 e8d f8
    obtain ⟨hpu, hr2, hr4, aL2, cL2, aG2, cG2, v', hr8, hoL, hoG, hvs, hv', hfL, hfG⟩ := hcut
    have e8 := cell_of_row wc _ 0 _ _ _ hr8; have e81 := cell_of_row wc _ 1 _ _ _ hr8
    simp at e8 e81
    have f8 := fun j => frozen_of_row wc _ j _ _ hr8
    have hlr8 := lt_of_block hr8
    obtain ⟨i1, hi1, iy0, iy1, iy2⟩ := info_parts info_bool
    have KPU := Lib.hid hpu; have KR2 := Lib.hid hr2; have KR4 := Lib.hid hr4; have KR8 := Lib.hid hr8; have KL := Lib.hid hoL; have KG := Lib.hid hoG; have KV := Lib.hid hvs; have KV' := Lib.hid hv'; have KFL := Lib.hid hfL; have KFG := Lib.hid hfG
    clear hpu hr2 hr4 hr8 hoL hoG hvs hv' hfL hfG
    go_upto_region 7 with (at_builtin; refine wpList_append_read _ rfl _ _ 30 rfl 4 i1 _ 1 1 Tryz.underlying30 hi1 iy0 iy1 iy2 rfl (by decide) (.slice aG2 Q'.length cG2) Q'.length (Q'.map goneQ) rfl (owns_mod KG.out ((Mod.refl (fun _ => False) wc).alloc _) (fun _ _ h => h)) _ [.bool false] 1 rfl (ReadAt.of_block 1 1 1 (heap_new rfl) (by rfl) (by simp [Value.oneCell'])) rfl (by unfold maxLen; omega) (by omega) ?_; intro a7 c7 w5 hr7 hg7 hb7; have m7 := Mod.heap (Mod.of_grown (S := fun k' => (Value.slice aG2 Q'.length cG2).ownBlock = some k') hg7 (fun k e _ => e)) (fun e => (by obtain ⟨c, e'⟩ := owns_type KG.out e; rw [KR8.out] at e'; cases e')) (heap_keep KR8.out); have M7 := Lib.hid m7; have fr7 := (fun j => frozen_of_row w5 _ j _ _ m7); have z7 := cell_of_row w5 _ 1 _ _ _ m7; clear m7)
    have hfin := ap_fin (cs := #[.bool false]) hxok hql2 hRW.out.ok KPU.out KR2.out KR4.out hl8 KR8.out KL.out KG.out KV.out KV'.out KFL.out KFG.out hr7 hg7 (by simpa using hb7)
    generalize w5.setCell ⟨b8, 1, none⟩ (.slice a7 (Q'.length + 1) c7) = W6 at hfin ⊢
    have hQ2 : (Q' ++ [(x, v', false)]).map absQ = Q.map absQ ++ [(x, false)] := by rw [List.map_append, HQ.out]; rfl
    have hl2 : (Q' ++ [(x, v', false)]).length = Q'.length + 1 := by simp
    generalize Q' ++ [(x, v', false)] = Q2 at hfin hQ2 hl2
    have HF := Lib.hid hfin
    have HQ2 := Lib.hid hQ2
    have HL2 := Lib.hid hl2
    have r8 := hfin.r8
    rw [hl2] at r8
    have g2 := cell_of_row W6 _ 0 _ _ _ hfin.r2; have g4 := cell_of_row W6 _ 0 _ _ _ hfin.r4; have g41 := cell_of_row W6 _ 1 _ _ _ hfin.r4; have g8 := cell_of_row W6 _ 0 _ _ _ r8; have g81 := cell_of_row W6 _ 1 _ _ _ r8
    have f4 := fun j => frozen_of_row W6 _ j _ _ hfin.r4
    clear hfin hQ2 hl2 r8 e8 e81 f8 fr7 z7 M7 hr7 hg7 hb7
    simp at g2 g4 g41 g8 g81
    have hu0 : (Q.length : Int) ≤ 4294967295 := by omega
    generalize Q'.length + 1 = k1 at *
    go_region
    go_wp2
    refine bodyPost_ret (v := .tuple #[refV aL2 cL2 a7 c7 k1, .int .u32 Q.length, .int .i64 0]) (by simp [results, Tryz.results23, go_sem, g4, g41, f4]) rfl ?_
    exact ap_ret HF.out HQ2.out HL2.out (by first | exact Mod.set2 _ _ _ _ _ | exact (Mod.set2 _ _ _ _ _).drew)
end Go.Proofs.YtapplindfijngaaGreat

/- The reference's Remove of layer 9; Equal of layer 4. Condition: the log's rows are its own (RefRow); the bytes are read. -/
namespace Go.Proofs.YtapplindfijngaaGreat
open Go.RowKit Go.Shelf
set_option maxRecDepth 100000

abbrev zEnt : Value := .agg #[.string ⟨#[]⟩, .slice none 0 0, .int .u64 0, .int .u64 0]
def refRemMiss (w : World) (v : Value) (e : Ending) (w' : World) : Prop := e = .returned (.tuple #[v, .agg #[.string ⟨#[]⟩, .slice none 0 0, .int .u64 0, .int .u64 0], .int .i64 9]) ∧ Pure w w'

set_option maxHeartbeats 1000000 in
theorem ref_Remove_miss {w : World} {aL : Option Addr} {cL : Nat} {aG : Option Addr} {cG : Nat} {Q : List RQ} (h : RefRow w aL cL aG cG Q) (s : Nat) (hs : s ≤ 4294967295) (hh : hasQ Q s = false) :
    Calls Tryz.prog 25 #[refV aL cL aG cG Q.length, .int .u32 s] w (refRemMiss w (refV aL cL aG cG Q.length)) := by
  have H := Lib.hid h
  have HH := Lib.hid hh
  clear h hh
  go_enter Tryz.func25, Tryz.ntmps25
  go_wp2_with (go_at_call 64; refine Calls.mono (ref_Has (H.out.pure (by (repeat' (first | (with_reducible exact Mod.refl _ _) | (with_reducible refine Mod.alloc ?_ _) | (with_reducible refine Mod.drew ?_) | (with_reducible refine Mod.drewN ?_ _) | (with_reducible refine Mod.setCell ?_ ?_ _) | (refine Mod.then ?_ (by with_reducible assumption) ?_))) <;> (all_goals (intros; first | (exfalso; assumption) | omega | (simp at *; done) | (simp at *; omega))))) s hs) ?_; rintro e w1 ⟨rfl, hp⟩; rw [HH.out]; have hp' : Pure w w1 := (by (repeat' (first | (with_reducible exact Mod.refl _ _) | (with_reducible refine Mod.alloc ?_ _) | (with_reducible refine Mod.drew ?_) | (with_reducible refine Mod.drewN ?_ _) | (with_reducible refine Mod.setCell ?_ ?_ _) | (refine Mod.then ?_ (by with_reducible assumption) ?_))) <;> (all_goals (intros; first | (exfalso; assumption) | omega | (simp at *; done) | (simp at *; omega)))); have HP := Lib.hid hp'; have z4 := hp.heap (fun h => h) (heap_keep (o := .cells #[.string ⟨#[]⟩, .slice none 0 0, .int .u64 0, .int .u64 0] 42 (0, 0)) (heap_new (w := w.alloc (.cells #[.slice aL Q.length cL, .slice aG Q.length cG] 32)) (o := .cells #[.slice none 0 0, .slice none 0 0] 32 (0, 0)) (n := w.heap.size + 1) (by simp))); have z5 := hp.heap (fun h => h) (heap_new (o := .cells #[.string ⟨#[]⟩, .slice none 0 0, .int .u64 0, .int .u64 0] 42 (0, 0)) (n := w.heap.size + 1 + 1) (by simp)); have z2 := hp.heap (fun h => h) (heap_keep (o := .cells #[.string ⟨#[]⟩, .slice none 0 0, .int .u64 0, .int .u64 0] 42 (0, 0)) (heap_keep (o := .cells #[.slice none 0 0, .slice none 0 0] 32 (0, 0)) (heap_new (w := w) (o := .cells #[.slice aL Q.length cL, .slice aG Q.length cG] 32 (0, 0)) rfl))); have z4_0 := cell_of_row _ _ 0 _ _ _ z4; have z4_1 := cell_of_row _ _ 1 _ _ _ z4; have z4_f := (fun j => frozen_of_row _ _ j _ _ z4); have z4_l := lt_of_block z4; simp at z4_0 z4_1; have H_z4 := Lib.hid z4; clear z4; have z5_0 := cell_of_row _ _ 0 _ _ _ z5; have z5_1 := cell_of_row _ _ 1 _ _ _ z5; have z5_2 := cell_of_row _ _ 2 _ _ _ z5; have z5_3 := cell_of_row _ _ 3 _ _ _ z5; have z5_f := (fun j => frozen_of_row _ _ j _ _ z5); have z5_l := lt_of_block z5; simp at z5_0 z5_1 z5_2 z5_3; have H_z5 := Lib.hid z5; clear z5; have z2_0 := cell_of_row _ _ 0 _ _ _ z2; have z2_1 := cell_of_row _ _ 1 _ _ _ z2; have z2_f := (fun j => frozen_of_row _ _ j _ _ z2); have z2_l := lt_of_block z2; simp at z2_0 z2_1; have H_z2 := Lib.hid z2; clear z2; clear hp hp')
  refine bodyPost_ret (v := .tuple #[refV aL cL aG cG Q.length, .agg #[.string ⟨#[]⟩, .slice none 0 0, .int .u64 0, .int .u64 0], .int .i64 9]) (by simp [results, Tryz.results25, go_sem, z4_0, z4_1, z5_0, z5_1, z5_2, z5_3]) rfl ⟨rfl, ?_⟩
  have hpp := HP.out
  (repeat' (first | (with_reducible exact Mod.refl _ _) | (with_reducible refine Mod.alloc ?_ _) | (with_reducible refine Mod.drew ?_) | (with_reducible refine Mod.drewN ?_ _) | (with_reducible refine Mod.setCell ?_ ?_ _) | (refine Mod.then ?_ (by with_reducible assumption) ?_)))
  (all_goals (intros; first | (exfalso; assumption) | omega | (simp at *; done) | (simp at *; omega)))

def refRemHit (w : World) (Q : List RQ) (s : Nat) (x : Ent) (v : Value) (e : Ending) (w' : World) : Prop :=
  ∃ aL cL aG cG Q', e = .returned (.tuple #[refV aL cL aG cG Q'.length, entV x v, .int .i64 0]) ∧ Q'.map absQ = (Q.map absQ).set s (x, true) ∧ RefRow w' aL cL aG cG Q' ∧ Fresh w (.slice aL Q'.length cL) ∧ Fresh w (.slice aG Q'.length cG) ∧ Pure w w'

/-- Behind the store of the mark. -/
structure RmFin (w : World) (b7 : Nat) (aL : Option Addr) (cL : Nat) (aG : Option Addr) (cG : Nat) (n : Nat) (aL' : Option Addr) (cL' : Nat) (aG' : Option Addr) (cG' : Nat) (Q2 : List RQ) (wr : World) : Prop where
  pu : Pure w wr
  r2 : wr.heap[w.heap.size]? = some (.cells #[.slice aL n cL, .slice aG n cG] 32 (0, 0))
  r4 : wr.heap[w.heap.size + 1]? = some (.cells #[.slice none 0 0, .slice none 0 0] 32 (0, 0))
  r5 : wr.heap[w.heap.size + 1 + 1]? = some (.cells #[.string ⟨#[]⟩, .slice none 0 0, .int .u64 0, .int .u64 0] 42 (0, 0))
  r7 : wr.heap[b7]? = some (.cells #[.slice aL' Q2.length cL', .slice aG' Q2.length cG'] 32 (0, 0))
  R : RefRow wr aL' cL' aG' cG' Q2
  fL : ∀ g, (Value.slice aL' Q2.length cL').ownBlock = some g → w.heap.size + 1 + 1 < g
  fG : ∀ g, (Value.slice aG' Q2.length cG').ownBlock = some g → w.heap.size + 1 + 1 < g
theorem list_set_self {α : Type} {l : List α} {i : Nat} {a : α} (h : l[i]? = some a) : l.set i a = l := by
  apply List.ext_getElem?
  intro j
  rw [List.getElem?_set]
  split
  · rename_i e
    subst e
    rw [if_pos (List.getElem?_eq_some_iff.1 h).1, h]
  · rfl
theorem set_abs (Q Q' : List RQ) (s : Nat) (q : RQ) (x : Ent) (v : Value) (g : Bool) (hQ : Q'.map absQ = Q.map absQ) (hq : Q'[s]? = some q) (hx : Q[s]? = some (x, v, g)) : (Q'.set s (q.1, q.2.1, true)).map absQ = (Q.map absQ).set s (x, true) := by
  have : absQ q = (x, g) := by
    have h1 : (Q'.map absQ)[s]? = some (absQ q) := by rw [List.getElem?_map, hq]; rfl
    have h2 : (Q.map absQ)[s]? = some (x, g) := by rw [List.getElem?_map, hx]; rfl
    rw [hQ, h2] at h1
    exact (Option.some.inj h1).symm
  rw [List.map_set, hQ]
  simp only [absQ] at this ⊢
  rw [(Prod.mk.inj this).1]
theorem rm_fin {w w2 : World} {b7 g : Nat} {aL : Option Addr} {cL : Nat} {aG : Option Addr} {cG n s : Nat} {aL' : Option Addr} {cL' cG' : Nat} {Q' : List RQ} {q : RQ}
    (pu : Pure w w2) (r2 : w2.heap[w.heap.size]? = some (.cells #[.slice aL n cL, .slice aG n cG] 32 (0, 0)))
    (r4 : w2.heap[w.heap.size + 1]? = some (.cells #[.slice none 0 0, .slice none 0 0] 32 (0, 0)))
    (r5 : w2.heap[w.heap.size + 1 + 1]? = some (.cells #[.string ⟨#[]⟩, .slice none 0 0, .int .u64 0, .int .u64 0] 42 (0, 0)))
    (r7 : w2.heap[b7]? = some (.cells #[.slice aL' Q'.length cL', .slice (some ⟨g, 0, none⟩) Q'.length cG'] 32 (0, 0)))
    (R : RefRow w2 aL' cL' (some ⟨g, 0, none⟩) cG' Q') (hq : Q'[s]? = some q)
    (fL : ∀ k, (Value.slice aL' Q'.length cL').ownBlock = some k → w.heap.size + 1 + 1 < k) (fG : w.heap.size + 1 + 1 < g) :
    RmFin w b7 aL cL aG cG n aL' cL' (some ⟨g, 0, none⟩) cG' (Q'.set s (q.1, q.2.1, true)) (w2.setCell ⟨g, s, none⟩ (.bool true)) := by
  have hlt : s < Q'.length := (List.getElem?_eq_some_iff.1 hq).1
  have hM : Mod (fun i => i = g) w2 (w2.setCell ⟨g, s, none⟩ (.bool true)) := Mod.set1 g s _
  obtain ⟨c, hg⟩ := owns_type R.G (g := g) rfl
  have hT : ∀ (T : Nat), 4 ≠ T → ∀ i, i = g → i < w2.heap.size → ∃ cs T' fz, w2.heap[i]? = some (.cells cs T' fz) ∧ T' ≠ T := fun T hT i hi _ => by subst hi; exact ⟨_, _, _, hg, hT⟩
  have hl : (Q'.set s (q.1, q.2.1, true)).length = Q'.length := by simp
  have h1 : ∀ q', q' ∈ Q'.set s (q.1, q.2.1, true) → ∃ q0 ∈ Q', q0.1 = q'.1 ∧ q0.2.1 = q'.2.1 := by
    intro q' h
    rcases List.mem_or_eq_of_mem_set h with h | h
    · exact ⟨q', h, rfl, rfl⟩
    · subst h; exact ⟨q, List.mem_of_getElem? hq, rfl, rfl⟩
  refine ⟨pu.then hM (fun i hi h => by omega), heap_modT r2 hM (hT _ (by decide)), heap_modT r4 hM (hT _ (by decide)), heap_modT r5 hM (hT _ (by decide)), by rw [hl]; exact heap_modT r7 hM (hT _ (by decide)), ⟨?_, ?_, ?_, ?_, by rw [hl]; exact R.len⟩, by rw [hl]; exact fL, fun k e => by cases e; exact fG⟩
  · rw [hl]
    have e : (Q'.set s (q.1, q.2.1, true)).flatMap cellsQ = Q'.flatMap cellsQ := by
      have : Q'.flatMap cellsQ = (Q'.map (fun q : RQ => (q.1, q.2.1))).flatMap (fun p => entCells p.1 p.2) := by rw [List.flatMap_map]; rfl
      rw [this]
      have : (Q'.set s (q.1, q.2.1, true)).flatMap cellsQ = ((Q'.set s (q.1, q.2.1, true)).map (fun q : RQ => (q.1, q.2.1))).flatMap (fun p => entCells p.1 p.2) := by rw [List.flatMap_map]; rfl
      rw [this, List.map_set]
      congr 1
      exact list_set_self (by rw [List.getElem?_map, hq]; rfl)
    rw [e]
    exact owns_modT R.L hM (hT _ (by decide))
  · rw [hl]
    have := owns_setCell R.G s (.bool true) (by omega)
    rw [List.map_set]
    exact this
  · intro q' h
    obtain ⟨q0, hm, e1, e2⟩ := h1 q' h
    rw [← e1, ← e2]
    exact owns_modT (R.vals q0 hm) hM (hT _ (by decide))
  · intro q' h
    obtain ⟨q0, hm, e1, e2⟩ := h1 q' h
    rw [← e1]
    exact R.ok q0 hm
end Go.Proofs.YtapplindfijngaaGreat

/- entrylog.Log: Remove and Set of a slot without an entry, Set of one with an entry. Conditions: the log is made, the value is read, at most 65536 bytes. -/
namespace Go.Proofs.YtapplindfijngaaGreat
open Go.RowKit Go.Shelf
set_option maxRecDepth 100000

set_option maxHeartbeats 400000 in
theorem Remove_miss {w : World} {D : Nat → Prop} {p : Nat} {sv : Value} {M : List (Option Ent × Value)} (h : LogRow w D p sv M) {i : Nat} (hu : i ≤ 4294967295) (hi : slotOf M i = none) :
    Calls Tryz.prog 24 #[.pointer (some ⟨p, 0, none⟩), .int .u32 i] w (getPost none w) := by
  have HA := Lib.hid (h.miss hu hi)
  clear h
  go_enter Tryz.func24, Tryz.ntmps24
  go_wp2_with (go_at_call 73; refine Calls.mono (HA.out _ (by (repeat' (first | (with_reducible exact Mod.refl _ _) | (with_reducible refine Mod.alloc ?_ _) | (with_reducible refine Mod.drew ?_) | (with_reducible refine Mod.drewN ?_ _) | (with_reducible refine Mod.setCell ?_ ?_ _) | (refine Mod.then ?_ (by with_reducible assumption) ?_))) <;> (all_goals (intros; first | (exfalso; assumption) | omega | (simp at *; done) | (simp at *; omega))))) ?_; rintro e w' ⟨rfl, rfl⟩)
  refine bodyPost_ret (v := .tuple #[.agg #[.string ⟨#[]⟩, .slice none 0 0, .int .u64 0, .int .u64 0], .int .i64 9]) (by simp [results, Tryz.results24, go_sem]) rfl ⟨rfl, ?_⟩
  (repeat' (first | (with_reducible exact Mod.refl _ _) | (with_reducible refine Mod.alloc ?_ _) | (with_reducible refine Mod.drew ?_) | (with_reducible refine Mod.drewN ?_ _) | (with_reducible refine Mod.setCell ?_ ?_ _) | (refine Mod.then ?_ (by with_reducible assumption) ?_)))
  (all_goals (intros; first | (exfalso; assumption) | omega | (simp at *; done) | (simp at *; omega)))

def setPost (w : World) (no : Int) (e : Ending) (w' : World) : Prop := e = .returned (.int .i64 no) ∧ Pure w w'
theorem Set_miss {w : World} {D : Nat → Prop} {p : Nat} {sv : Value} {M : List (Option Ent × Value)} (h : LogRow w D p sv M) {i : Nat} (hu : i ≤ 4294967295) (hi : slotOf M i = none) (v : Value) (d : Int) :
    Calls Tryz.prog 128 #[.pointer (some ⟨p, 0, none⟩), .int .u32 i, v, .int .u64 d] w (setPost w 9) := by
  have HA := Lib.hid (h.miss hu hi)
  clear h
  go_enter Tryz.func128, Tryz.ntmps128
  go_wp2_with (go_at_call 73; refine Calls.mono (HA.out _ (Mod.refl _ _)) ?_; rintro e w' ⟨rfl, rfl⟩)
  go_ret
  exact ⟨rfl, Mod.refl _ _⟩

def Ent.with (x : Ent) (vs : List UInt8) (d : Int) : Ent := ⟨x.key, vs, d, x.birth⟩
theorem Ent.Ok.with {x : Ent} (h : x.Ok) {vs : List UInt8} (hv : vs.length ≤ 65536) (d : Int) : (x.with vs d).Ok := ⟨h.k0, h.k1, hv, h.b0⟩
theorem live_set_some (M : List (Option Ent × Value)) (i : Nat) (e e' : Ent) (v v' : Value) (hi : M[i]? = some (some e, v)) : liveOf ((M.set i (some e', v')).map Prod.fst) = liveOf (M.map Prod.fst) := by
  induction M generalizing i with
  | nil => simp at hi
  | cons a M ih =>
    cases i with
    | zero =>
      simp at hi
      subst hi
      simp [liveOf]
    | succ i =>
      have := ih i (by simpa using hi)
      simp only [List.set_cons_succ, List.map_cons, liveOf, List.countP_cons] at this ⊢
      omega
def setHit (w : World) (D : Nat → Prop) (p i : Nat) (x : Ent) (sv : Value) (M : List (Option Ent × Value)) (e : Ending) (w' : World) : Prop :=
  e = .returned (.int .i64 0) ∧ ∃ v', LogRow w' D p sv (M.set i (some x, v')) ∧ Mod D w w'
theorem set_end {w W : World} {D : Nat → Prop} {p g c i : Nat} {x : Ent} {v v' : Value} {vs : List UInt8} {d : Int} {M : List (Option Ent × Value)}
    (HL : LogRow w D p (.slice (some ⟨g, 0, none⟩) M.length c) M) (hi : M[i]? = some (some x, v)) (HP : Pure w W) (hv : BytesAt W v' (bytesOf vs)) (hl : vs.length ≤ 65536) :
    LogRow ((W.setCell ⟨g, i * 4 + 1, none⟩ v').setCell ⟨g, i * 4 + 2, none⟩ (.int .u64 d)) D p (.slice (some ⟨g, 0, none⟩) M.length c) (M.set i (some (x.with vs d), v')) ∧ Mod D w ((W.setCell ⟨g, i * 4 + 1, none⟩ v').setCell ⟨g, i * 4 + 2, none⟩ (.int .u64 d)) := by
  have HW := HL.pure HP
  have hlt : i < M.length := (List.getElem?_eq_some_iff.1 hi).1
  have hgp := HL.np (g := g) rfl
  have hDg : D g := (HL.dd g).2 (.inr rfl)
  have hmod : Mod D W ((W.setCell ⟨g, i * 4 + 1, none⟩ v').setCell ⟨g, i * 4 + 2, none⟩ (.int .u64 d)) := (((Mod.refl D W).setCell (p := ⟨g, i * 4 + 1, none⟩) (fun _ => hDg) _).setCell (p := ⟨g, i * 4 + 2, none⟩) (fun _ => hDg) _)
  have hnb := fun k (_ : k < W.heap.size) (hk : D k) cs fz => HW.nobytes hk cs fz
  refine ⟨⟨?_, ?_, fun e u hm => ?_, HL.dd, ?_⟩, (Mod.of_pure HP).trans hmod⟩
  · rw [live_set_some M i x _ v v' hi]
    exact heap_set_other (heap_set_other HW.box hgp.symm) hgp.symm
  · have r1 := owns_setCell HW.row (i * 4 + 1) v' (by omega)
    have r2 := owns_setCell r1 (i * 4 + 2) (.int .u64 d) (by omega)
    have e : (((M.flatMap slotCells).set (i * 4 + 1) v').set (i * 4 + 2) (.int .u64 d)) = (M.set i (some (x.with vs d), v')).flatMap slotCells := by
      rw [← flat4_set M i _ (some (x.with vs d), v') hi (.string x.key) v' (.int .u64 d) (.int .u64 x.birth) rfl]
      have k0 : (M.flatMap slotCells)[i * 4]? = some (.string x.key) := by
        have := flat_get slotCells 4 slotCells_length 0 (by omega) M i
        rw [hi] at this
        simpa [slotCells] using this
      have k3 : (M.flatMap slotCells)[i * 4 + 3]? = some (.int .u64 x.birth) := by
        have := flat_get slotCells 4 slotCells_length 3 (by omega) M i
        rw [hi] at this
        simpa [slotCells] using this
      rw [list_set_self k0]
      refine (list_set_self ?_).symm
      rw [List.getElem?_set_ne (by omega), List.getElem?_set_ne (by omega)]
      exact k3
    rw [e] at r2
    rw [List.length_set]
    exact r2
  · rcases List.mem_or_eq_of_mem_set hm with h | h
    · exact bytes_frame (HW.vals e u h) hmod hnb
    · cases h
      exact bytes_frame hv hmod hnb
  · refine ⟨by have := HL.ok.len; simpa using this, fun e he => ?_⟩
    rw [List.map_set] at he
    rcases List.mem_or_eq_of_mem_set he with h | h
    · exact HL.ok.ent e h
    · cases h
      exact (HL.ok.ent x (List.mem_map.2 ⟨_, List.mem_of_getElem? hi, rfl⟩)).with hl d

set_option maxHeartbeats 800000 in
theorem Set_hit {w : World} {D : Nat → Prop} {p : Nat} {sv : Value} {M : List (Option Ent × Value)} (h : LogRow w D p sv M) {i : Nat} {x : Ent} {v : Value} (hi : M[i]? = some (some x, v)) (a : Option Addr) (n c : Nat) (vs : List UInt8) (hv : ReadAt w (.slice a n c) 1 (bytesOf vs)) (hl : vs.length ≤ 65536) (d : Int) :
    Calls Tryz.prog 128 #[.pointer (some ⟨p, 0, none⟩), .int .u32 i, .slice a n c, .int .u64 d] w (setHit w D p i (x.with vs d) sv M) := by
  obtain ⟨g, cg, rfl, hg, ng, hlt, hn, hc, hf⟩ := h.slot hi
  obtain ⟨c0, c1, c2, cf⟩ := h.cells
  have hok := h.ok.ent x (List.mem_map.2 ⟨_, List.mem_of_getElem? hi, rfl⟩)
  have hb : (x.birth == 0) = false := by have := hok.b0; simp; omega
  have s0 : w.cell? ⟨g, i * 4, none⟩ = _ := hc 0 _ rfl; have s1 := hc 1 _ rfl; have s2 := hc 2 _ rfl; have s3 := hc 3 _ rfl
  have hn2 : n ≤ 65536 := by have := read_length hv; rw [bytesOf_length] at this; omega
  have hn3 : (n : Int) ≤ 65536 := by omega
  obtain ⟨va, vl, vc, rfl⟩ : ∃ a n c, v = .slice a n c := by obtain ⟨va, vc, e, _⟩ := owns_form (h.vals x v (List.mem_of_getElem? hi)); exact ⟨_, _, _, e⟩
  have HL := Lib.hid h
  have HI := Lib.hid hi
  have HV := Lib.hid hv
  clear h hi hv hc
  go_enter Tryz.func128, Tryz.ntmps128
  go_wp2_with (first
    | (go_at_call 73; refine Calls.mono (at_hit p g _ cg i x.birth _ c0 c1 hlt hn s3 hb) ?_; rintro e w' ⟨rfl, rfl⟩)
    | (go_at_call 125; refine Calls.mono (bytes_Clone a n c _ _ HV.out (by omega)) ?_; rintro e w1 ⟨a1, n1, c1', rfl, hr1, hf1, hp1⟩; have t1 := hp1.cell (fun h => h) s1; have t2 := hp1.cell (fun h => h) s2; have tf : ∀ j, w1.frozen? ⟨g, j, none⟩ = false := (fun j => (World.frozen?_of_block (w := w) (a := ⟨g, j, none⟩) (hp1.block g hg (fun h => h))).trans (hf j)); have HR1 := Lib.hid hr1; have HP1 := Lib.hid hp1; clear hr1 hf1 hp1))
  go_ret
  obtain ⟨k1, k2⟩ := set_end (d := d) HL.out HI.out HP1.out (bytesAt_of HR1.out) hl
  exact ⟨rfl, _, k1, k2⟩
end Go.Proofs.YtapplindfijngaaGreat

/- Bytes as a string. -/
namespace Go.Proofs.YtapplindfijngaaGreat
open Go.RowKit
set_option maxRecDepth 100000

theorem conv_bytes {w : World} {a : Option Addr} {n c : Nat} (l : List UInt8) (h : ReadAt w (.slice a n c) 1 (bytesOf l)) :
    (convert 33 9 (.slice a n c)).run Tryz.prog w = .ok (.string ⟨l.toArray⟩) w := by
  obtain ⟨a', n', c', he, hl, _, h0, hc⟩ := h
  cases he
  rw [bytesOf_length, Nat.mul_one] at hl
  subst hl
  cases a with
  | none =>
    have := h0 rfl
    have hn : l = [] := List.eq_nil_of_length_eq_zero this
    subst hn
    rw [run_convert_bytes_string w _ _ _ none (List.length (α := UInt8) []) c Tryz.underlying33 Tryz.underlying5 Tryz.underlying9]
    rfl
  | some ad =>
    exact run_convert_bytes_back w _ _ _ ad c l Tryz.underlying33 Tryz.underlying5 Tryz.underlying9 (fun j hj => hc ad rfl j _ (by simp [bytesOf, hj]))

end Go.Proofs.YtapplindfijngaaGreat

/- The reference's Equal of layer 4, on equal entries. Condition: the bytes are read. -/
namespace Go.Proofs.YtapplindfijngaaGreat
open Go.RowKit
set_option maxRecDepth 100000

set_option maxHeartbeats 1000000 in
theorem ref_Equal_same {w : World} (x : Ent) (a1 a2 : Option Addr) (n1 n2 c1 c2 : Nat) (h1 : ReadAt w (.slice a1 n1 c1) 1 (bytesOf x.val)) (h2 : ReadAt w (.slice a2 n2 c2) 1 (bytesOf x.val)) :
    Calls Tryz.prog 18 #[.agg #[.string x.key, .slice a1 n1 c1, .int .u64 x.dl, .int .u64 x.birth], .agg #[.string x.key, .slice a2 n2 c2, .int .u64 x.dl, .int .u64 x.birth]] w fun e w' => e = .returned (.bool true) ∧ Pure w w' := by
  have hp : Pure w ((w.alloc (.cells #[.string x.key, .slice a1 n1 c1, .int .u64 x.dl, .int .u64 x.birth] 42)).alloc (.cells #[.string x.key, .slice a2 n2 c2, .int .u64 x.dl, .int .u64 x.birth] 42)) := ((Mod.refl _ w).alloc _).alloc _
  have k1 := conv_bytes x.val (h1.frame hp (fun _ _ h => h))
  have k2 := conv_bytes x.val (h2.frame hp (fun _ _ h => h))
  have HP := Lib.hid hp
  clear h1 h2 hp
  go_enter Tryz.func18, Tryz.ntmps18
  go_wp2
  go_ret
  exact ⟨rfl, HP.out⟩
end Go.Proofs.YtapplindfijngaaGreat
