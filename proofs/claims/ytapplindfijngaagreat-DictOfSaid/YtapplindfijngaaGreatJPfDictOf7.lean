/- Lemmas and contracts of functions, strung together out of 6 texts. No condition. -/
import Derived.Test.YtapplindfijngaaGreatJPfDictOf6
import Derived.Test.YtapplindfijngaaGreatJPfDictOf3
import Derived.Test.YtapplindfijngaaGreatJPfDictOf1
import Derived.Deep.Fields
import Derived.ChangeSame
/- The reference's Remove of a slot that has an entry. Condition: the log's rows are its own (RefRow). -/
namespace Go.Proofs.YtapplindfijngaaGreat
open Go.RowKit Go.Shelf
set_option maxRecDepth 100000

theorem rm_ret {w W6 w' : World} {b7 : Nat} {aL : Option Addr} {cL : Nat} {aG : Option Addr} {cG n : Nat} {aL2 : Option Addr} {cL2 : Nat} {a7 : Option Addr} {c7 : Nat} {Q Q2 : List RQ} {x : Ent} {v : Value} {k1 s : Nat}
    (HF : RmFin w b7 aL cL aG cG n aL2 cL2 a7 c7 Q2 W6) (hQ2 : Q2.map absQ = (Q.map absQ).set s (x, true)) (hl : Q2.length = k1)
    (u0 u1 u2 u3 u4 u5 : Value) (hw' : w' = ((((((W6.setCell ⟨w.heap.size + 1, 0, none⟩ u0).setCell ⟨w.heap.size + 1, 1, none⟩ u1).setCell ⟨w.heap.size + 1 + 1, 0, none⟩ u2).setCell ⟨w.heap.size + 1 + 1, 1, none⟩ u3).setCell ⟨w.heap.size + 1 + 1, 2, none⟩ u4).setCell ⟨w.heap.size + 1 + 1, 3, none⟩ u5).drew) :
    refRemHit w Q s x v (.returned (.tuple #[refV aL2 cL2 a7 c7 k1, entV x v, .int .i64 0])) w' := by
  subst hl hw'
  have z5 := HF.r5
  have hm1 : Mod (fun i => i = w.heap.size + 1) W6 ((W6.setCell ⟨w.heap.size + 1, 0, none⟩ u0).setCell ⟨w.heap.size + 1, 1, none⟩ u1) := Mod.set2 _ _ _ _ _
  have R1 := HF.R.modT hm1 (fun i hi _ => by subst hi; exact ⟨_, _, HF.r4⟩)
  have r5 := hm1.heap (by omega) HF.r5
  generalize (W6.setCell ⟨w.heap.size + 1, 0, none⟩ u0).setCell ⟨w.heap.size + 1, 1, none⟩ u1 = W7 at hm1 R1 r5 ⊢
  obtain ⟨zr, zm⟩ := box4 r5 u2 u3 u4 u5
  generalize ((((W7.setCell ⟨w.heap.size + 1 + 1, 0, none⟩ u2).setCell ⟨w.heap.size + 1 + 1, 1, none⟩ u3).setCell ⟨w.heap.size + 1 + 1, 2, none⟩ u4).setCell ⟨w.heap.size + 1 + 1, 3, none⟩ u5) = W8 at zr zm ⊢
  replace zm := zm.drew
  clear zr
  generalize W8.drew = W8 at zm ⊢
  have hne : ∀ {T k n : Nat} {v : Value} {xs : List Value}, W7.ownsRow 0 T k v n xs → (∀ g, v.ownBlock = some g → g ≠ w.heap.size + 1 + 1) → W8.ownsRow 0 T k v n xs := fun ho h => owns_mod ho zm (fun g hg e => h g hg e)
  refine ⟨aL2, cL2, a7, c7, Q2, rfl, hQ2, ⟨hne R1.L (fun g hg => by have := HF.fL g hg; omega), hne R1.G (fun g hg => by have := HF.fG g hg; omega), fun q hq => ?_, R1.ok, R1.len⟩, fun g hg => by have := HF.fL g hg; omega, fun g hg => by have := HF.fG g hg; omega, (HF.pu.then hm1 (fun i hi h => by omega)).then zm (fun i hi h => by omega)⟩
  exact owns_modT (R1.vals q hq) zm (fun i hi _ => by subst hi; exact ⟨_, _, _, r5, by decide⟩)

set_option maxHeartbeats 1000000 in
theorem ref_Remove_hit {w : World} {aL : Option Addr} {cL : Nat} {aG : Option Addr} {cG : Nat} {Q : List RQ} (h : RefRow w aL cL aG cG Q) (s : Nat) (hs : s ≤ 4294967295) (x : Ent) (v : Value) (hx : Q[s]? = some (x, v, false)) :
    Calls Tryz.prog 25 #[refV aL cL aG cG Q.length, .int .u32 s] w (refRemHit w Q s x v) := by
  have hh : hasQ Q s = true := by simp [hasQ, hx]
  have hlt : s < Q.length := (List.getElem?_eq_some_iff.1 hx).1
  have hlt1 : (s : Int) < (Q.length : Int) := by omega
  have hs1 : (s : Int) ≤ 4294967295 := by omega
  obtain ⟨g, _, hsv, _, hg, hc, hf, _⟩ := owns_at h.L (by omega)
  cases hsv
  have hcc : ∀ j u, (cellsQ (x, v, false))[j]? = some u → w.cell? ⟨g, s * 4 + j, none⟩ = some u := by
    intro j u hu
    have hj : j < 4 := by rw [← cellsQ_length (x, v, false)]; exact (List.getElem?_eq_some_iff.1 hu).1
    refine hc _ _ ?_
    rw [flat_get cellsQ 4 cellsQ_length j hj, hx]
    exact hu
  have hv := h.vals _ (List.mem_of_getElem? hx)
  obtain ⟨va, vc, hve, _⟩ := owns_form hv
  dsimp only at hve
  subst hve
  have s0 : w.cell? ⟨g, s * 4, none⟩ = _ := hcc 0 _ rfl; have s1 := hcc 1 _ rfl; have s2 := hcc 2 _ rfl; have s3 := hcc 3 _ rfl
  dsimp only at s0 s1 s2 s3
  have H := Lib.hid h
  have HH := Lib.hid hh
  have HX := Lib.hid hx
  clear h hh hx hc hf hcc hv
  have S0 := Lib.hid s0; have S1 := Lib.hid s1; have S2 := Lib.hid s2; have S3 := Lib.hid s3
  clear s0 s1 s2 s3
  go_enter Tryz.func25, Tryz.ntmps25
  go_upto_region 4 with (first
    | (go_at_call 64; refine Calls.mono (ref_Has (H.out.pure (by (repeat' (first | (with_reducible exact Mod.refl _ _) | (with_reducible refine Mod.alloc ?_ _) | (with_reducible refine Mod.drew ?_) | (with_reducible refine Mod.drewN ?_ _) | (with_reducible refine Mod.setCell ?_ ?_ _) | (refine Mod.then ?_ (by with_reducible assumption) ?_))) <;> (all_goals (intros; first | (exfalso; assumption) | omega | (simp at *; done) | (simp at *; omega))))) s hs) ?_; rintro e w1 ⟨rfl, hp⟩; rw [HH.out]; have hp' : Pure w w1 := (by (repeat' (first | (with_reducible exact Mod.refl _ _) | (with_reducible refine Mod.alloc ?_ _) | (with_reducible refine Mod.drew ?_) | (with_reducible refine Mod.drewN ?_ _) | (with_reducible refine Mod.setCell ?_ ?_ _) | (refine Mod.then ?_ (by with_reducible assumption) ?_))) <;> (all_goals (intros; first | (exfalso; assumption) | omega | (simp at *; done) | (simp at *; omega)))); have HP := Lib.hid hp'; have z4 := hp.heap (fun h => h) (heap_keep (o := .cells #[.string ⟨#[]⟩, .slice none 0 0, .int .u64 0, .int .u64 0] 42 (0, 0)) (heap_new (w := w.alloc (.cells #[.slice (some ⟨g, 0, none⟩) Q.length cL, .slice aG Q.length cG] 32)) (o := .cells #[.slice none 0 0, .slice none 0 0] 32 (0, 0)) (n := w.heap.size + 1) (by simp))); have z5 := hp.heap (fun h => h) (heap_new (o := .cells #[.string ⟨#[]⟩, .slice none 0 0, .int .u64 0, .int .u64 0] 42 (0, 0)) (n := w.heap.size + 1 + 1) (by simp)); have z2 := hp.heap (fun h => h) (heap_keep (o := .cells #[.string ⟨#[]⟩, .slice none 0 0, .int .u64 0, .int .u64 0] 42 (0, 0)) (heap_keep (o := .cells #[.slice none 0 0, .slice none 0 0] 32 (0, 0)) (heap_new (w := w) (o := .cells #[.slice (some ⟨g, 0, none⟩) Q.length cL, .slice aG Q.length cG] 32 (0, 0)) rfl))); have Z4 := Lib.hid z4; have Z5 := Lib.hid z5; clear z4 z5; have z2_0 := cell_of_row _ _ 0 _ _ _ z2; have z2_1 := cell_of_row _ _ 1 _ _ _ z2; have z2_f := (fun j => frozen_of_row _ _ j _ _ z2); have z2_l := lt_of_block z2; simp at z2_0 z2_1; have H_z2 := Lib.hid z2; clear z2; clear hp hp')
    | (go_at_call 71; refine Calls.mono (ref_LogCopy (H.out.pure HP.out)) ?_; rintro e w2 ⟨aL', cL', aG', cG', Q', rfl, hq', hR', hfL, hfG, hp⟩; clear z2_0 z2_1 z2_f z2_l))
  have hlQ : Q'.length = Q.length := by have := congrArg List.length hq'; simpa using this
  have hP2 := HP.out.trans hp
  have hal : Pure w2 (w2.alloc (.cells #[.slice aL' Q'.length cL', .slice aG' Q'.length cG'] 32)) := (Mod.refl _ w2).alloc _
  have hsz : w.heap.size + 1 + 1 < w1.heap.size := lt_of_block Z5.out
  obtain ⟨g7, cg7, hsv, _, hg7, hc7, hf7, _⟩ := owns_at hR'.G (by omega)
  cases hsv
  have hltq : s < Q'.length := by omega
  have hq := List.getElem?_eq_getElem hltq
  generalize Q'[s] = q at hq
  have hfin := rm_fin (b7 := w2.heap.size) (hP2.trans hal) ((hp.trans hal).heap (fun h => h) H_z2.out) ((hp.trans hal).heap (fun h => h) Z4.out) ((hp.trans hal).heap (fun h => h) Z5.out) (heap_new rfl) (hR'.pure hal) hq (fun k hk => by have := hfL k hk; omega) (by have := hfG g7 rfl; omega)
  have e0 := (hR'.pure hal).G
  have hQ2 := Lib.hid (set_abs Q Q' s q x _ false hq' hq HX.out)
  have l7 : w2.heap.size < (w2.alloc (.cells #[.slice aL' Q'.length cL', .slice (some ⟨g7, 0, none⟩) Q'.length cG'] 32)).heap.size := by simp
  have z7 : (w2.alloc (.cells #[.slice aL' Q'.length cL', .slice (some ⟨g7, 0, none⟩) Q'.length cG'] 32)).heap[w2.heap.size]? = _ := heap_new rfl
  obtain ⟨g8, cg8, hsv, _, hg8, hc8, hf8, _⟩ := owns_at e0 (by omega)
  cases hsv
  have hpw := hP2.trans hal
  have t0 := hpw.cell (fun h => h) S0.out; have t1 := hpw.cell (fun h => h) S1.out; have t2 := hpw.cell (fun h => h) S2.out; have t3 := hpw.cell (fun h => h) S3.out
  have hltq1 : (s : Int) < (Q'.length : Int) := by omega
  have sg := hc8 s (goneQ q) (by rw [List.getElem?_map, hq]; rfl)
  have hne7 : g7 ≠ w2.heap.size := by omega
  have hneg : g ≠ g7 := fun e => by have := hfG g7 rfl; have := HP.out.size; omega
  have hl2 : (Q'.set s (q.1, q.2.1, true)).length = Q'.length := by simp
  have HL2 := Lib.hid hl2
  have HLQ := Lib.hid hlQ
  clear hc7 hf7 hc8 hpw hP2 hp hR' hfL hfG hq' hlQ e0 hl2 hal hq
  generalize w2.alloc (.cells #[.slice aL' Q'.length cL', .slice (some ⟨g7, 0, none⟩) Q'.length cG'] 32) = W at *
  generalize w2.heap.size = b7 at *
  have z7_0 := cell_of_row _ _ 0 _ _ _ z7; have z7_1 := cell_of_row _ _ 1 _ _ _ z7; have z7_f := (fun j => frozen_of_row _ _ j _ _ z7); have z7_l := lt_of_block z7; simp at z7_0 z7_1; have H_z7 := Lib.hid z7; clear z7
  go_upto_region 5 with fail
  clear z7_0 z7_1 z7_f z7_l
  clear t0 t1 t2 t3 sg
  generalize W.setCell ⟨g7, s, none⟩ (.bool true) = W6 at hfin ⊢
  generalize hQe : Q'.set s (q.1, q.2.1, true) = Q2 at *
  have HF := Lib.hid hfin
  have z4 := hfin.r4; have z5 := hfin.r5; have z2 := hfin.r2; have z7 := hfin.r7
  rw [HL2.out] at z7
  have t0 := hfin.pu.cell (fun h => h) S0.out; have t1 := hfin.pu.cell (fun h => h) S1.out; have t2 := hfin.pu.cell (fun h => h) S2.out; have t3 := hfin.pu.cell (fun h => h) S3.out
  have hlg : g < W6.heap.size := hfin.pu.lt hg
  clear hfin hQe
  have z4_0 := cell_of_row _ _ 0 _ _ _ z4; have z4_1 := cell_of_row _ _ 1 _ _ _ z4; have z4_f := (fun j => frozen_of_row _ _ j _ _ z4); have z4_l := lt_of_block z4; simp at z4_0 z4_1; have H_z4 := Lib.hid z4; clear z4
  have z5_0 := cell_of_row _ _ 0 _ _ _ z5; have z5_1 := cell_of_row _ _ 1 _ _ _ z5; have z5_2 := cell_of_row _ _ 2 _ _ _ z5; have z5_3 := cell_of_row _ _ 3 _ _ _ z5; have z5_f := (fun j => frozen_of_row _ _ j _ _ z5); have z5_l := lt_of_block z5; simp at z5_0 z5_1 z5_2 z5_3; have H_z5 := Lib.hid z5; clear z5
  have z2_0 := cell_of_row _ _ 0 _ _ _ z2; have z2_1 := cell_of_row _ _ 1 _ _ _ z2; have z2_f := (fun j => frozen_of_row _ _ j _ _ z2); have z2_l := lt_of_block z2; simp at z2_0 z2_1; have H_z2 := Lib.hid z2; clear z2
  have z7_0 := cell_of_row _ _ 0 _ _ _ z7; have z7_1 := cell_of_row _ _ 1 _ _ _ z7; have z7_f := (fun j => frozen_of_row _ _ j _ _ z7); have z7_l := lt_of_block z7; simp at z7_0 z7_1; have H_z7 := Lib.hid z7; clear z7
  go_region
  go_wp2
  refine bodyPost_ret (v := .tuple #[refV aL' cL' (some ⟨g7, 0, none⟩) cG' Q'.length, entV x (.slice va (bytesOf x.val).length vc), .int .i64 0]) (by simp [results, Tryz.results25, go_sem, z4_0, z4_1, z5_0, z5_1, z5_2, z5_3, z4_f, z5_f]) rfl ?_
  exact rm_ret HF.out hQ2.out HL2.out _ _ _ _ _ _ rfl
end Go.Proofs.YtapplindfijngaaGreat

/- The reference's moves of layer 11: the list of new slot numbers (newX), To and From. Conditions: the row is owned, the slot numbers rise and are below the length. -/
namespace Go.Proofs.YtapplindfijngaaGreat
open Go.RowKit Go.Shelf
set_option maxRecDepth 100000

/-! ### plain -/
/-- The reference's list: for each old slot number the new one, or -1. -/
def newX (xs : List Nat) (n : Nat) : List Int := (List.range n).map (fun i => if i ∈ xs then (below xs i : Int) else -1)
theorem newX_length (xs : List Nat) (n : Nat) : (newX xs n).length = n := by simp [newX]
theorem newX_get {xs : List Nat} {n i : Nat} (h : i < n) : (newX xs n)[i]? = some (if i ∈ xs then (below xs i : Int) else -1) := by
  simp [newX, h]
theorem newX_gone {xs : List Nat} {k : Nat} (h : ∀ x ∈ xs, x < k) : newX xs (k + 1) = newX xs k ++ [-1] := by
  have hk : k ∉ xs := fun hm => by have := h k hm; omega
  simp [newX, List.range_succ, hk]
theorem newX_live {xs : List Nat} {k : Nat} (h : ∀ x ∈ xs, x < k) : newX (xs ++ [k]) (k + 1) = newX xs k ++ [(xs.length : Int)] := by
  unfold newX
  rw [List.range_succ, List.map_append]
  congr 1
  · refine List.map_congr_left (fun i hi => ?_)
    have hik : i < k := List.mem_range.1 hi
    have e1 : (i ∈ xs ++ [k]) ↔ i ∈ xs := by simp; omega
    have e2 : below (xs ++ [k]) i = below xs i := by
      have : ¬ k < i := by omega
      simp [below, List.countP_append, this]
    simp only [e1, e2]
  · have e2 : below (xs ++ [k]) k = xs.length := by
      unfold below
      rw [List.countP_append]
      have : List.countP (fun x => decide (x < k)) xs = xs.length := List.countP_eq_length.2 (fun x hx => by simp [h x hx])
      simp [this]
    simp [e2]
def slotsR (R : List (Ent × Bool)) : List (Option Ent) := R.map (fun p => if p.2 then none else some p.1)
theorem slotsR_length (R : List (Ent × Bool)) : (slotsR R).length = R.length := by simp [slotsR]
theorem olds_append_none (L : List (Option Ent)) : olds (L ++ [none]) = olds L := by
  simp [olds, live, liveFrom_append, liveFrom]
theorem olds_append_some (L : List (Option Ent)) (x : Ent) : olds (L ++ [some x]) = olds L ++ [L.length] := by
  simp [olds, live, liveFrom_append, liveFrom]
theorem packed_append_none (L : List (Option Ent)) : packed (L ++ [none]) = packed L := by
  simp [packed, live, liveFrom_append, liveFrom]
theorem packed_append_some (L : List (Option Ent)) (x : Ent) : packed (L ++ [some x]) = packed L ++ [some x] := by
  simp [packed, live, liveFrom_append, liveFrom]
theorem snoc_ind {α : Type} {P : List α → Prop} (h0 : P []) (h1 : ∀ l a, P l → P (l ++ [a])) (l : List α) : P l := by
  rw [← l.reverse_reverse]
  induction l.reverse with
  | nil => exact h0
  | cons a t ih => rw [List.reverse_cons]; exact h1 _ _ ih
/-- The reference's compacted log. -/
def packR (R : List (Ent × Bool)) : List (Ent × Bool) := R.filter (fun p => !p.2)
theorem packR_slots (R : List (Ent × Bool)) : slotsR (packR R) = packed (slotsR R) := by
  refine snoc_ind (P := fun R => slotsR (packR R) = packed (slotsR R)) rfl (fun R p ih => ?_) R
  · obtain ⟨x, g⟩ := p
    cases g
    · have e : slotsR (R ++ [(x, false)]) = slotsR R ++ [some x] := by simp [slotsR]
      have e2 : packR (R ++ [(x, false)]) = packR R ++ [(x, false)] := by simp [packR, List.filter_append]
      rw [e, packed_append_some, e2, ← ih]
      simp [slotsR]
    · have e : slotsR (R ++ [(x, true)]) = slotsR R ++ [none] := by simp [slotsR]
      have e2 : packR (R ++ [(x, true)]) = packR R := by simp [packR, List.filter_append]
      rw [e, packed_append_none, e2, ← ih]
theorem packR_length (R : List (Ent × Bool)) : (packR R).length = (olds (slotsR R)).length := by
  have := congrArg List.length (packR_slots R)
  rw [slotsR_length] at this
  rw [this]
  simp [packed, olds]

/-! ### To, From -/
def ints (N : List Int) : List Value := N.map (fun n : Int => (.int .i64 n : Value))
abbrev MvRow (w : World) (a : Option Addr) (c : Nat) (N : List Int) : Prop := w.ownsRow 0 3 1 (.slice a N.length c) N.length (ints N)
def MvX (w : World) (a : Option Addr) (c n : Nat) (xs : List Nat) : Prop := w.ownsRow 0 3 1 (.slice a n c) n (ints (newX xs n))
theorem MvX.pure {w w' : World} {a : Option Addr} {c n : Nat} {xs : List Nat} (h : MvX w a c n xs) (hm : Pure w w') : MvX w' a c n xs := owns_mod h hm (fun _ _ h => h)
theorem MvX.cell {w : World} {a : Option Addr} {c n : Nat} {xs : List Nat} (h : MvX w a c n xs) {o : Nat} (ho : o < n) :
    ∃ g, a = some ⟨g, 0, none⟩ ∧ g < w.heap.size ∧ w.cell? ⟨g, o, none⟩ = some (.int .i64 (if o ∈ xs then (below xs o : Int) else -1)) := by
  obtain ⟨g, _, hsv, _, hg, hc, _⟩ := owns_at h (by omega)
  cases hsv
  exact ⟨g, rfl, hg, hc o _ (by simp [ints, List.getElem?_map, newX_get ho])⟩

theorem ref_To {w : World} {a : Option Addr} {c n : Nat} {xs : List Nat} (h : MvX w a c n xs) (hn : n ≤ 4194304) (hx : ∀ x ∈ xs, x < n) (hl : xs.length ≤ 4194304) (m : Int) (o : Nat) (ho : o ≤ 4294967295) :
    Calls Tryz.prog 95 #[.agg #[.slice a n c, .int .i64 m], .int .u32 o] w fun e w' => e = .returned (.tuple #[.int .u32 (toM xs o).1, .int .i64 (toM xs o).2]) ∧ Pure w w' := by
  have hp : Pure w (w.alloc (.cells #[.slice a n c, .int .i64 m] 86)) := (Mod.refl _ w).alloc _
  have HP := Lib.hid hp
  have ho2 : (o : Int) ≤ 4294967295 := by omega
  by_cases hlt : o < n
  · obtain ⟨g, rfl, hg, hc⟩ := h.cell hlt
    have hlt1 : (o : Int) < (n : Int) := by omega
    by_cases hm : o ∈ xs
    · rw [if_pos hm] at hc
      have e : toM xs o = (below xs o, 0) := by simp [toM, hm]
      have E := Lib.hid e
      have hb1 : (below xs o : Int) ≤ 4294967295 := by have := below_le xs o; omega
      have hb0 : decide ((below xs o : Int) < 0) = false := by simp <;> omega
      clear hm e h hp hx
      generalize below xs o = bl at hc E hb1 hb0
      go_enter Tryz.func95, Tryz.ntmps95
      go_wp2
      go_ret2
      exact ⟨by rw [E.out]; simp, HP.out⟩
    · rw [if_neg hm] at hc
      have e : toM xs o = (0, 9) := by simp [toM, hm]
      have E := Lib.hid e
      clear hm e h hp hx
      go_enter Tryz.func95, Tryz.ntmps95
      go_wp2
      go_ret2
      exact ⟨by rw [E.out]; simp, HP.out⟩
  · have hlt1 : (n : Int) ≤ (o : Int) := by omega
    have e : toM xs o = (0, 9) := by
      have : o ∉ xs := fun hm => by have := hx o hm; omega
      simp [toM, this]
    have E := Lib.hid e
    clear e h hp hx
    go_enter Tryz.func95, Tryz.ntmps95
    go_wp2
    go_ret2
    exact ⟨by rw [E.out]; simp, HP.out⟩
end Go.Proofs.YtapplindfijngaaGreat

/- law11.made: the log and the reference's log of n entries without those of some slots. Conditions: 0 ≤ n ≤ 100, at most 100 slots, which are read. -/
namespace Go.Proofs.YtapplindfijngaaGreat
open Go.RowKit Go.Shelf
set_option maxRecDepth 100000

/-! ### plain -/
def mkE (i : Nat) : Ent := ⟨⟨#[UInt8.ofNat i]⟩, [UInt8.ofNat i, 7], i, i + 1⟩
theorem mkE_ok (i : Nat) : (mkE i).Ok := ⟨by show 0 < 1; omega, by show 1 ≤ 250; omega, by show 2 ≤ 65536; omega, by show (0 : Int) < (i : Int) + 1; omega⟩
def baseR (n : Nat) : List (Ent × Bool) := (List.range n).map (fun i => (mkE i, false))
theorem baseR_succ (n : Nat) : baseR (n + 1) = baseR n ++ [(mkE n, false)] := by simp [baseR, List.range_succ]
theorem baseR_length (n : Nat) : (baseR n).length = n := by simp [baseR]
def rmR (R : List (Ent × Bool)) (s : Nat) : List (Ent × Bool) := match R[s]? with
  | some (x, false) => R.set s (x, true)
  | _ => R
theorem rmR_length (R : List (Ent × Bool)) (s : Nat) : (rmR R s).length = R.length := by
  unfold rmR; split <;> simp
def madeR (n : Nat) (gs : List Nat) : List (Ent × Bool) := gs.foldl rmR (baseR n)
theorem foldl_rmR_length (gs : List Nat) : ∀ R, (gs.foldl rmR R).length = R.length := by
  induction gs with
  | nil => intro R; rfl
  | cons g gs ih => intro R; rw [List.foldl_cons, ih, rmR_length]
theorem madeR_length (n : Nat) (gs : List Nat) : (madeR n gs).length = n := by rw [madeR, foldl_rmR_length, baseR_length]
theorem slotsR_snoc (R : List (Ent × Bool)) (x : Ent) : slotsR (R ++ [(x, false)]) = slotsR R ++ [some x] := by simp [slotsR]
theorem slotsR_set (R : List (Ent × Bool)) (s : Nat) (x : Ent) : slotsR (R.set s (x, true)) = (slotsR R).set s none := by
  unfold slotsR; rw [List.map_set]; rfl
theorem slotsR_get {R : List (Ent × Bool)} {s : Nat} {x : Ent} (h : R[s]? = some (x, false)) : (slotsR R)[s]? = some (some x) := by
  unfold slotsR; rw [List.getElem?_map, h]; rfl
theorem absQ_get {Q : List RQ} {s : Nat} {x : Ent} {g : Bool} (h : (Q.map absQ)[s]? = some (x, g)) : ∃ v, Q[s]? = some (x, v, g) := by
  rw [List.getElem?_map] at h
  cases e : Q[s]? with
  | none => rw [e] at h; cases h
  | some q =>
    rw [e] at h
    obtain ⟨y, v, g'⟩ := q
    cases h
    exact ⟨v, rfl⟩
theorem take_foldl {gs : List Nat} {j s : Nat} (h : gs[j]? = some s) (R : List (Ent × Bool)) : (gs.take (j + 1)).foldl rmR R = rmR ((gs.take j).foldl rmR R) s := by
  rw [List.take_add_one, h, List.foldl_append]; rfl

/-! ### in memory -/
/-- A slice that came in and is read, by its block and its place in it. -/
theorem ReadAt.place {w : World} {a : Option Addr} {n c : Nat} {xs : List Value} (h : ReadAt w (.slice a n c) 1 xs) (hn : 0 < n) :
    ∃ b off, a = some ⟨b, off, none⟩ ∧ b < w.heap.size ∧ ∀ j u, xs[j]? = some u → w.cell? ⟨b, off + j, none⟩ = some u := by
  obtain ⟨a', n', c', he, hl, _, h0, hc⟩ := h
  cases he
  cases a with
  | none => have := h0 rfl; omega
  | some ad =>
    obtain ⟨b, off, spot⟩ := ad
    have hx : 0 < xs.length := by omega
    have h1 := hc _ rfl 0 _ (List.getElem?_eq_getElem hx)
    have hs : spot = none := by
      cases spot with
      | none => rfl
      | some s =>
        simp only [Addr.add, World.cell?] at h1
        split at h1 <;> simp at h1
    subst hs
    refine ⟨b, off, rfl, World.block_lt_of_cell? w ⟨b, off, none⟩ (by simpa [Addr.add] using h1), fun j u hu => ?_⟩
    have := hc _ rfl j u hu
    unfold Addr.add at this
    split at this
    · rename_i hj; subst hj; exact this
    · exact this
theorem RefRow.beside {w w' : World} {S : Nat → Prop} {q : Nat} {K : List (Option Ent)} {aL : Option Addr} {cL : Nat} {aG : Option Addr} {cG : Nat} {Q : List RQ} (h : RefRow w aL cL aG cG Q) (k : LogAt w S q K) (hm : Mod S w w')
    (hA : ∀ g, (Value.slice aL Q.length cL).ownBlock = some g → ¬ S g) : RefRow w' aL cL aG cG Q :=
  ⟨owns_mod h.L hm hA, k.owns hm h.G (by decide) (by decide), fun q hq => k.owns hm (h.vals q hq) (by decide) (by decide), h.ok, h.len⟩
theorem LogAt.notin {w : World} {D : Nat → Prop} {p : Nat} {L : List (Option Ent)} (h : LogAt w D p L) {b : Nat} {cs : Array Value} {T : TypeId} {fz : Nat × Nat} (hb : w.heap[b]? = some (.cells cs T fz)) (h1 : T ≠ 131) (h2 : T ≠ 42) : ¬ D b := fun hd => by
  rcases h.types hd hb with e | e
  · exact h1 e
  · exact h2 e

/-- A log and a reference's log (its value in block b8) of the same slots; the result's block. -/
structure MdInv (w : World) (p b8 : Nat) (R : List (Ent × Bool)) (wr : World) : Prop where
  pu : Pure w wr
  r5 : wr.heap[w.heap.size]? = some (.cells #[.slice none 0 0, .slice none 0 0] 32 (0, 0))
  hb : w.heap.size < b8
  ex : ∃ D aL cL aG cG Q, LogAt wr D p (slotsR R) ∧ (∀ k, D k → w.heap.size < k) ∧ Q.map absQ = R ∧ wr.heap[b8]? = some (.cells #[.slice aL Q.length cL, .slice aG Q.length cG] 32 (0, 0)) ∧ RefRow wr aL cL aG cG Q ∧
    (∀ g, (Value.slice aL Q.length cL).ownBlock = some g → ¬ D g)
theorem MdInv.pure {w : World} {p b8 : Nat} {R : List (Ent × Bool)} {wr wr' : World} (h : MdInv w p b8 R wr) (hq : Pure wr wr') : MdInv w p b8 R wr' := by
  obtain ⟨pu, r5, hb, D, aL, cL, aG, cG, Q, h1, h2, h3, h4, h5, h6⟩ := h
  exact ⟨pu.trans hq, hq.heap (fun h => h) r5, hb, D, aL, cL, aG, cG, Q, h1.pure hq, h2, h3, hq.heap (fun h => h) h4, h5.pure hq, h6⟩
/-- Behind the two calls: the reference's result (rows of Q2, made since W) is stored into b8, the log has turned by a call of its own. -/
theorem md_step {w W w2 w3 : World} {p b8 : Nat} {R2 : List (Ent × Bool)} {D : Nat → Prop} {aL2 aG2 : Option Addr} {cL2 cG2 : Nat} {Q2 : List RQ} {L : List (Option Ent)} {u0 u1 : Value}
    (pu : Pure w W) (r5 : W.heap[w.heap.size]? = some (.cells #[.slice none 0 0, .slice none 0 0] 32 (0, 0))) (hb : w.heap.size < b8) (hl : LogAt W D p L) (hD : ∀ k, D k → w.heap.size < k)
    (r8 : W.heap[b8]? = some (.cells #[u0, u1] 32 (0, 0)))
    (hp : Pure W w2) (hR : RefRow w2 aL2 cL2 aG2 cG2 Q2) (hf : ∀ g, (Value.slice aL2 Q2.length cL2).ownBlock = some g → ¬ D g) (hQ : Q2.map absQ = R2)
    (hw3 : w3 = (w2.setCell ⟨b8, 0, none⟩ (.slice aL2 Q2.length cL2)).setCell ⟨b8, 1, none⟩ (.slice aG2 Q2.length cG2)) :
    LogAt w3 D p L ∧ Mod (fun i => i = b8) W w3 ∧ ∀ D' L' w4, LogAt w4 D' p L' → Mod D w3 w4 → Grew D D' w3 → L' = slotsR R2 → MdInv w p b8 R2 w4 := by
  subst hw3
  have hm : Mod (fun i => i = b8) w2 ((w2.setCell ⟨b8, 0, none⟩ (.slice aL2 Q2.length cL2)).setCell ⟨b8, 1, none⟩ (.slice aG2 Q2.length cG2)) := Mod.set2 _ _ _ _ _
  have hl2 := hl.pure hp
  have r82 := hp.heap (fun h => h) r8
  have hn8 := hl2.notin r82 (by decide) (by decide)
  have hl3 := hl2.frame hm (fun k hk h => hn8 (h ▸ hk)) (fun k _ h cs fz e => by subst h; rw [r82] at e; cases e)
  have hR3 := hR.modT hm (fun i hi _ => by subst hi; exact ⟨_, _, r82⟩)
  have r83 := heap_set12 (v0 := .slice aL2 Q2.length cL2) (v1 := .slice aG2 Q2.length cG2) r82
  have r53 := hm.heap (by omega) (hp.heap (fun h => h) r5)
  refine ⟨hl3, (Mod.of_pure hp).trans hm, fun D' L' w4 h4 hm4 hg e => ?_⟩
  subst e
  refine ⟨((pu.trans hp).then hm (fun i hi h => by omega)).then hm4 (fun i hi h => by have := hD i h; omega), hl3.box hm4 r53 (by decide) (by decide), hb, D', aL2, cL2, aG2, cG2, Q2, h4, fun k hk => ?_, hQ, hl3.box hm4 r83 (by decide) (by decide), hR3.beside hl3 hm4 hf, fun g hg' hd => ?_⟩
  · rcases hg k hk with h | h
    · exact hD k h
    · have := hm.size; have := hp.size; have := pu.size; have := lt_of_block r5; omega
  · rcases hg g hd with h | h
    · exact hf g hg' h
    · have := owns_lt hR3.L hg'; omega
/-- The reference's call first, then the log's, then the reference's result is stored into b8. -/
theorem md_step2 {w W2 w3 W4 W5 : World} {p b8 : Nat} {R2 : List (Ent × Bool)} {D D' : Nat → Prop} {aL2 aG2 : Option Addr} {cL2 cG2 : Nat} {Q2 : List RQ} {L L' : List (Option Ent)} {u0 u1 : Value}
    (pu : Pure w W2) (r5 : W2.heap[w.heap.size]? = some (.cells #[.slice none 0 0, .slice none 0 0] 32 (0, 0))) (hb : w.heap.size < b8) (hl : LogAt W2 D p L) (hD : ∀ k, D k → w.heap.size < k)
    (r8 : W2.heap[b8]? = some (.cells #[u0, u1] 32 (0, 0)))
    (hR : RefRow W2 aL2 cL2 aG2 cG2 Q2) (hf : ∀ g, (Value.slice aL2 Q2.length cL2).ownBlock = some g → ¬ D g) (hQ : Q2.map absQ = R2)
    (hm3 : Mod D W2 w3) (h3 : LogAt w3 D' p L') (hg : Grew D D' W2) (e : L' = slotsR R2) (hp4 : Pure w3 W4)
    (hw5 : W5 = (W4.setCell ⟨b8, 0, none⟩ (.slice aL2 Q2.length cL2)).setCell ⟨b8, 1, none⟩ (.slice aG2 Q2.length cG2)) :
    MdInv w p b8 R2 W5 := by
  subst hw5 e
  have hm5 : Mod (fun i => i = b8) W4 ((W4.setCell ⟨b8, 0, none⟩ (.slice aL2 Q2.length cL2)).setCell ⟨b8, 1, none⟩ (.slice aG2 Q2.length cG2)) := Mod.set2 _ _ _ _ _
  have r84 := hp4.heap (fun h => h) (hl.box hm3 r8 (by decide) (by decide))
  have r54 := hp4.heap (fun h => h) (hl.box hm3 r5 (by decide) (by decide))
  have hR4 := (hR.beside hl hm3 hf).pure hp4
  have h4 := h3.pure hp4
  have hn8 := h4.notin r84 (by decide) (by decide)
  refine ⟨((pu.then hm3 (fun i hi h => by have := hD i h; omega)).trans hp4).then hm5 (fun i hi h => by omega), hm5.heap (by omega) r54, hb, D', aL2, cL2, aG2, cG2, Q2,
    h4.frame hm5 (fun k hk h => hn8 (h ▸ hk)) (fun k _ h cs fz e => by subst h; rw [r84] at e; cases e), fun k hk => ?_, hQ, heap_set12 r84, hR4.modT hm5 (fun i hi _ => by subst hi; exact ⟨_, _, r84⟩), fun g hg' hd => ?_⟩
  · rcases hg k hk with h | h
    · exact hD k h
    · have := lt_of_block r5; omega
  · rcases hg g hd with h | h
    · exact hf g hg' h
    · have := owns_lt hR.L hg'; omega
theorem rmR_hit {R : List (Ent × Bool)} {s : Nat} {x : Ent} (h : R[s]? = some (x, false)) : rmR R s = R.set s (x, true) := by unfold rmR; rw [h]
theorem rmR_miss {R : List (Ent × Bool)} {s : Nat} (h : ∀ x, R[s]? ≠ some (x, false)) : rmR R s = R := by
  unfold rmR; split
  · rename_i x e; exact absurd e (h x)
  · rfl
theorem hasQ_miss {Q : List RQ} {R : List (Ent × Bool)} (hQ : Q.map absQ = R) {s : Nat} (h : ∀ x, R[s]? ≠ some (x, false)) : hasQ Q s = false := by
  unfold hasQ
  cases e : Q[s]? with
  | none => rfl
  | some q =>
    obtain ⟨x, v, g⟩ := q
    cases g
    · exact absurd (by rw [← hQ, List.getElem?_map, e]; rfl) (h x)
    · rfl
theorem slotsR_miss {R : List (Ent × Bool)} {s : Nat} (h : ∀ x, R[s]? ≠ some (x, false)) : ∀ x, (slotsR R)[s]? ≠ some (some x) := by
  intro x hx
  unfold slotsR at hx
  rw [List.getElem?_map] at hx
  cases e : R[s]? with
  | none => rw [e] at hx; cases hx
  | some q =>
    obtain ⟨y, g⟩ := q
    rw [e] at hx
    cases g
    · exact h y e
    · cases hx
end Go.Proofs.YtapplindfijngaaGreat

/- Append of a log and of the reference's, of any entry. Conditions: the value is read as bytes, the lengths are small. -/
namespace Go.Proofs.YtapplindfijngaaGreat
open Go.RowKit Go.Shelf
set_option maxRecDepth 100000

def noE (x : Ent) : Int := errOf x.key.size x.val.length x.birth
theorem noE_ok {x : Ent} (h : noE x = 0) (hb : 0 ≤ x.birth) : x.Ok := by
  unfold noE errOf keyB at h
  split at h
  · cases h
  · rename_i h1
    split at h
    · cases h
    · rename_i h2
      have h3 : 0 < x.key.size ∧ x.key.size ≤ 250 ∧ (x.birth == 0) = false := by
        simp only [Bool.or_eq_true, Bool.not_eq_true', Bool.and_eq_false_iff, decide_eq_false_iff_not, not_or] at h1
        obtain ⟨h1, h5⟩ := h1
        refine ⟨by omega, by omega, by simpa using h5⟩
      simp at h2
      have h5 := h3.2.2
      simp at h5
      exact ⟨h3.1, h3.2.1, by omega, by omega⟩
theorem ok_noE {x : Ent} (h : x.Ok) : noE x = 0 := by
  have h1 := h.k0; have h2 := h.k1; have h3 := h.v1; have h4 := h.b0
  unfold noE errOf keyB
  have e1 : (x.birth == 0) = false := by simp; omega
  have e2 : ¬ ((65536 : Int) < (x.val.length : Int)) := by omega
  simp [h1, h2, e1, e2]
theorem noE_cases (x : Ent) : noE x = 0 ∨ noE x = 2 ∨ noE x = 5 := by
  unfold noE errOf
  split
  · exact .inr (.inl rfl)
  · split
    · exact .inr (.inr rfl)
    · exact .inl rfl
set_option maxHeartbeats 400000 in
theorem Append_err {w : World} {D : Nat → Prop} {p : Nat} {L : List (Option Ent)} (h : LogAt w D p L) (k : ByteArray) (a : Option Addr) (n c : Nat) (d b : Int) (hk : k.size ≤ 140737488355328) (hn : n ≤ 140737488355328) (er : Int) (E : errOf k.size n b = er) (he0 : (er == 0) = false) :
    Calls Tryz.prog 22 #[logPtr p, .agg #[.string k, .slice a n c, .int .u64 d, .int .u64 b]] w fun e w' => e = .returned (.tuple #[.int .u32 0, .int .i64 er]) ∧ Pure w w' := by
  obtain ⟨sv, M, rfl, h⟩ := h
  obtain ⟨c0, c1, c2, cf⟩ := h.cells
  have hlp : p < w.heap.size := World.block_lt_of_cell? w _ c0
  clear h c1 c2 cf
  go_enter Tryz.func22, Tryz.ntmps22
  go_upto_region 4 with (first
    | (go_at_call 70; refine Calls.mono (zero_made p true _ (by simpa [go_sem, hlp] using c0)) ?_; rintro e w' ⟨rfl, rfl⟩)
    | (go_at_call 49; refine Calls.mono (entry_New_err k a n c d b _ hk hn er E he0) ?_; rintro e w1 ⟨rfl, hp⟩))
  have hp2 : Pure w (w1.alloc (.cells #[.string ⟨#[]⟩, .slice none 0 0, .int .u64 0, .int .u64 0] 42)) := (((Mod.refl _ w).alloc _).trans hp).alloc _
  generalize w1.alloc (.cells #[.string ⟨#[]⟩, .slice none 0 0, .int .u64 0, .int .u64 0] 42) = W at *
  go_wp2
  exact bodyPost_ret (v := .tuple #[.int .u32 0, .int .i64 er]) (by simp [results, Tryz.results22, go_sem]) rfl ⟨rfl, hp2⟩
theorem ref_ValidKey_any (s : ByteArray) (w : World) (hs : s.size ≤ 140737488355328) : Calls Tryz.prog 108 #[.string s] w fun e w' => e = .returned (.bool (keyB s.size)) ∧ w = w' := by
  by_cases h0 : 0 < s.size
  · by_cases h1 : s.size ≤ 250
    · have : keyB s.size = true := by simp [keyB, h0, h1]
      rw [this]
      exact ref_ValidKey s w h0 h1
    · have : keyB s.size = false := by simp [keyB, h1]
      rw [this]
      have h2 : (1 : Int) ≤ s.size := by omega
      have h3 : ¬ ((s.size : Int) ≤ 250) := by omega
      go_enter Tryz.func108, Tryz.ntmps108
      go_wp2
      go_ret
      exact ⟨by simp <;> omega, rfl⟩
  · have : keyB s.size = false := by simp [keyB, h0]
    rw [this]
    have h2 : ¬ ((1 : Int) ≤ s.size) := by omega
    go_enter Tryz.func108, Tryz.ntmps108
    go_wp2
    go_ret
    exact ⟨by simp <;> omega, rfl⟩
theorem ref_Check_any (s : ByteArray) (a : Option Addr) (n c : Nat) (b : Int) (w : World) (hs : s.size ≤ 140737488355328) (hn : n ≤ 140737488355328) :
    Calls Tryz.prog 53 #[.string s, .slice a n c, .int .u64 b] w fun e w' => e = .returned (.int .i64 (errOf s.size n b)) ∧ w = w' := by
  have hwn : IntKind.i64.wrap (n : Int) = n := IntWalk.i64_in _ (by omega)
  cases hk : keyB s.size with
  | false =>
    have HE : Hid (errOf s.size n b = 2) := Lib.hid (by simp [errOf, hk])
    go_enter Tryz.func53, Tryz.ntmps53
    go_wp2_with (go_at_call 108; refine Calls.mono (ref_ValidKey_any s _ hs) ?_; rintro e w1 ⟨rfl, rfl⟩)
    go_ret
    exact ⟨by rw [HE.out]; rfl, rfl⟩
  | true =>
    by_cases hb : b = 0
    · subst hb
      have HE : Hid (errOf s.size n 0 = 2) := Lib.hid (by simp [errOf])
      go_enter Tryz.func53, Tryz.ntmps53
      go_wp2_with (go_at_call 108; refine Calls.mono (ref_ValidKey_any s _ hs) ?_; rintro e w1 ⟨rfl, rfl⟩)
      go_ret
      exact ⟨by rw [HE.out]; rfl, rfl⟩
    · have hb' : (b == 0) = false := by simpa using hb
      by_cases hv : 65536 < n
      · have HE : Hid (errOf s.size n b = 5) := Lib.hid (by simp [errOf, hk, hb]; omega)
        have hv' : (65536 : Int) < n := by omega
        go_enter Tryz.func53, Tryz.ntmps53
        go_wp2_with (go_at_call 108; refine Calls.mono (ref_ValidKey_any s _ hs) ?_; rintro e w1 ⟨rfl, rfl⟩)
        go_ret
        exact ⟨by rw [HE.out]; rfl, rfl⟩
      · have HE : Hid (errOf s.size n b = 0) := Lib.hid (by simp [errOf, hk, hb]; omega)
        have hv' : ¬ ((65536 : Int) < n) := by omega
        go_enter Tryz.func53, Tryz.ntmps53
        go_wp2_with (go_at_call 108; refine Calls.mono (ref_ValidKey_any s _ hs) ?_; rintro e w1 ⟨rfl, rfl⟩)
        go_ret
        exact ⟨by rw [HE.out]; rfl, rfl⟩
set_option maxHeartbeats 400000 in
theorem ref_Append_err {w : World} (aL : Option Addr) (cL : Nat) (aG : Option Addr) (cG m : Nat) (k : ByteArray) (a : Option Addr) (n c : Nat) (d b : Int) (hk : k.size ≤ 140737488355328) (hn : n ≤ 140737488355328) (er : Int) (E : errOf k.size n b = er) (he0 : (er == 0) = false) :
    Calls Tryz.prog 23 #[.agg #[.slice aL m cL, .slice aG m cG], .agg #[.string k, .slice a n c, .int .u64 d, .int .u64 b]] w fun e w' => e = .returned (.tuple #[.agg #[.slice aL m cL, .slice aG m cG], .int .u32 0, .int .i64 er]) ∧ Pure w w' := by
  have hp0 : Pure w (((w.alloc (.cells #[.slice aL m cL, .slice aG m cG] 32)).alloc (.cells #[.string k, .slice a n c, .int .u64 d, .int .u64 b] 42)).alloc (.cells #[.slice none 0 0, .slice none 0 0] 32)) := (((Mod.refl _ w).alloc _).alloc _).alloc _
  have h2 := heap_keep (o := .cells #[.slice none 0 0, .slice none 0 0] 32) (heap_keep (o := .cells #[.string k, .slice a n c, .int .u64 d, .int .u64 b] 42) (heap_new (w := w) (o := .cells #[.slice aL m cL, .slice aG m cG] 32 (0, 0)) rfl))
  have h3 := heap_keep (o := .cells #[.slice none 0 0, .slice none 0 0] 32) (heap_new (w := w.alloc (.cells #[.slice aL m cL, .slice aG m cG] 32)) (o := .cells #[.string k, .slice a n c, .int .u64 d, .int .u64 b] 42 (0, 0)) (n := w.heap.size + 1) (by simp))
  have h4 := heap_new (w := (w.alloc (.cells #[.slice aL m cL, .slice aG m cG] 32)).alloc (.cells #[.string k, .slice a n c, .int .u64 d, .int .u64 b] 42)) (o := .cells #[.slice none 0 0, .slice none 0 0] 32 (0, 0)) (n := w.heap.size + 1 + 1) (by simp)
  have HC := Lib.hid (fun W => ref_Check_any k a n c b W hk hn)
  rw [E] at HC
  have HP := Lib.hid hp0
  clear hp0 E
  go_enter Tryz.func23, Tryz.ntmps23
  go_upto_region 1 with fail
  generalize ((w.alloc (.cells #[.slice aL m cL, .slice aG m cG] 32)).alloc (.cells #[.string k, .slice a n c, .int .u64 d, .int .u64 b] 42)).alloc (.cells #[.slice none 0 0, .slice none 0 0] 32) = W1 at *
  obtain ⟨b2, hb2⟩ : ∃ b2, w.heap.size = b2 := ⟨_, rfl⟩
  rw [hb2] at h2 h3 h4 ⊢
  have HB := Lib.hid hb2
  clear hb2
  have h2_0 := cell_of_row _ _ 0 _ _ _ h2; have h2_1 := cell_of_row _ _ 1 _ _ _ h2; have h2_f := (fun j => frozen_of_row _ _ j _ _ h2); have h2_l := lt_of_block h2; simp at h2_0 h2_1; have H_h2 := Lib.hid h2; clear h2
  have h3_0 := cell_of_row _ _ 0 _ _ _ h3; have h3_1 := cell_of_row _ _ 1 _ _ _ h3; have h3_2 := cell_of_row _ _ 2 _ _ _ h3; have h3_3 := cell_of_row _ _ 3 _ _ _ h3; have h3_f := (fun j => frozen_of_row _ _ j _ _ h3); have h3_l := lt_of_block h3; simp at h3_0 h3_1 h3_2 h3_3; have H_h3 := Lib.hid h3; clear h3
  have h4_0 := cell_of_row _ _ 0 _ _ _ h4; have h4_1 := cell_of_row _ _ 1 _ _ _ h4; have h4_f := (fun j => frozen_of_row _ _ j _ _ h4); have h4_l := lt_of_block h4; simp at h4_0 h4_1; have H_h4 := Lib.hid h4; clear h4
  go_wp2_with (go_at_call 53; refine Calls.mono (HC.out _) ?_; rintro e w2 ⟨rfl, rfl⟩)
  have hm : Mod (fun i => i = b2 + 1 + 1) W1 ((W1.setCell ⟨b2 + 1 + 1, 0, none⟩ (.slice aL m cL)).setCell ⟨b2 + 1 + 1, 1, none⟩ (.slice aG m cG)) := Mod.set2 (b2 + 1 + 1) 0 1 _ _
  have f3 := heap_set12 (v0 := .slice aL m cL) (v1 := .slice aG m cG) H_h4.out
  have y0 := cell_of_row _ _ 0 _ _ _ f3; have y1 := cell_of_row _ _ 1 _ _ _ f3
  simp at y0 y1
  exact bodyPost_ret (v := .tuple #[.agg #[.slice aL m cL, .slice aG m cG], .int .u32 0, .int .i64 er]) (by simp [results, Tryz.results23, go_sem, y0, y1]) rfl ⟨rfl, HP.out.then hm (fun i hi e => by have := HB.out; omega)⟩
end Go.Proofs.YtapplindfijngaaGreat

/- A slice of entries that came in. -/
namespace Go.Proofs.YtapplindfijngaaGreat
open Go.ChangeShapes Go.WideShapes Go.ChangeAt Go.RowKit Go.Deep

set_option maxRecDepth 100000
section
variable {H : Type} {enc : TypeId × Value → H} {P : Program} {w : World} {base : Nat} {spare : Nat → Bool} {held : Bool}
theorem open_rowsE {t e : TypeId} {fs : Array Field} {fuel : Nat} {cs : List Value} {x : DataW H × List MemPlace} (ht : P.underlying t = some (.slice e)) (he : P.underlying e = some (.struct fs))
    (hone : oneCellFields P fs = true) (hC : P.cellsOf e = fs.size) (h : DataW.trod enc P w base spare held fuel t cs = some x) :
    cs = [.slice none 0 0] ∨
    ∃ (a : Addr) (len cap : Nat), cs = [.slice (some a) len cap] ∧ len ≤ cap ∧ cap ≤ maxLen ∧
      ∀ i, i < len → ∀ (j : Nat) (f : Field), fs[j]? = some f → ∃ (v : Value) (y : DataW H × List MemPlace) (n : Nat), w.cell? (a.add (i * fs.size + j)) = some v ∧ DataW.trod enc P w base spare held n f.type [v] = some y := by
  rcases open_slice ht h with h0 | ⟨a, len, cap, m, n, D, Pl, hcs, hb, hl, hm, hmm, hx, hi⟩
  · exact .inl h0.1
  · refine .inr ⟨a, len, cap, hcs, hl, hm, fun i him j f hj => ?_⟩
    have him' : i < m := by rw [hmm]; split <;> omega
    obtain ⟨cs', hc, ht'⟩ := hi i him'
    rw [hC] at hc
    obtain ⟨ys, n', hn', hy, hlen, hyl, hf⟩ := DataW.trod_struct he ht'
    obtain ⟨_, hcl, hat⟩ := World.cells?_some hc
    obtain ⟨ho, hk⟩ := hone_of hone j f hj
    have hjl : j < fs.size := (Array.getElem?_eq_some_iff.1 hj).1
    have hcell := hat j hjl
    have hv : cs'[j]? = some (cs'[j]'(by omega)) := List.getElem?_eq_getElem (by omega)
    have h1 := hf j f hj
    rw [ho, hk] at h1
    have hone' : (cs'.drop j).take 1 = [cs'[j]'(by omega)] := by
      rw [List.drop_eq_getElem_cons (by omega)]
      rfl
    rw [hone'] at h1
    have hys : ys[j]? = some (ys[j]'(by omega)) := List.getElem?_eq_getElem (by omega)
    refine ⟨_, _, _, ?_, h1.trans hys⟩
    rw [← Go.Deep.add_add, hcell, hv]
end
/-- Bytes that came in. -/
theorem bytes_in {H : Type} {enc : TypeId × Value → H} {W : World} {base : Nat} {sp : Nat → Bool} {held : Bool} {fuel : Nat} {v : Value} {x : DataW H × List MemPlace} (h : DataW.trod enc Tryz.prog W base sp held fuel 33 [v] = some x) :
    ∃ (a : Option Addr) (n c : Nat) (bs : List UInt8), v = .slice a n c ∧ bs.length = n ∧ n ≤ 9223372036854775807 ∧ ReadAt W (.slice a n c) 1 (bytesOf bs) := by
  rcases open_ints Tryz.underlying33 Tryz.underlying5 (by kernel_rfl) h with ⟨hcs, _⟩ | ⟨a, n, c, zs, hcs, _, hl, hm, hz, _, hcell, hw⟩
  · cases hcs
    exact ⟨none, 0, 0, [], rfl, rfl, by omega, ReadAt.nil _ _⟩
  · cases hcs
    have hlz : n ≤ zs.length := by rw [hz]; split <;> omega
    have hm' : n ≤ 9223372036854775807 := by unfold maxLen at hm; omega
    have hb : ∀ z ∈ zs, 0 ≤ z ∧ z < (256 : Nat) := fun z hz => wf_u8 z (hw z hz)
    refine ⟨some a, n, c, (zs.take n).map (fun z => UInt8.ofNat z.toNat), rfl, by simp; omega, hm', ⟨some a, n, c, rfl, by simp [bytesOf]; omega, bytesOf_one _, (fun h => by cases h), ?_⟩⟩
    intro ad ha j u hu
    cases ha
    unfold bytesOf at hu
    rw [List.getElem?_map, List.getElem?_map] at hu
    cases e : (zs.take n)[j]? with
    | none => rw [e] at hu; cases hu
    | some z =>
      rw [e] at hu
      simp only [Option.map_some] at hu
      cases hu
      have hzb := hb z (List.mem_of_mem_take (List.mem_of_getElem? e))
      rw [List.getElem?_take] at e
      split at e
      · rename_i hj
        rw [hcell j (by omega)]
        have e2 : ((UInt8.ofNat z.toNat).toNat : Int) = z := by
          have : z.toNat < 256 := by omega
          simp
          omega
        rw [e2]
        simp [List.getD, e]
      · cases e
/-- An entry as it came in: what it says, and where its value is read. -/
structure EIn where
  x : Ent
  a : Option Addr
  n : Nat
  c : Nat
def eCells (y : EIn) : List Value := [.string y.x.key, .slice y.a y.n y.c, .int .u64 y.x.dl, .int .u64 y.x.birth]
structure EOk (W : World) (y : EIn) : Prop where
  rd : ReadAt W (.slice y.a y.n y.c) 1 (bytesOf y.x.val)
  len : y.x.val.length = y.n
  key : y.x.key.size ≤ 9223372036854775807
  n0 : y.n ≤ 9223372036854775807
  b0 : 0 ≤ y.x.birth
theorem EOk.pure {W W' : World} {y : EIn} (h : EOk W y) (hp : Pure W W') : EOk W' y := ⟨h.rd.frame hp (fun _ _ h => h), h.len, h.key, h.n0, h.b0⟩
theorem ents_of {H : Type} {enc : TypeId × Value → H} {W : World} {base : Nat} {sp : Nat → Bool} {held : Bool} {r : Reach} {b0 : Nat} {v : Value} {d : DataW H} {p : List MemPlace} (hv : Value.okWide Tryz.prog W r b0 29 v) (h : DataW.Trod enc Tryz.prog W base sp held 29 v d p) :
    ∃ (a : Option Addr) (c : Nat) (es : List EIn), v = .slice a es.length c ∧ es.length ≤ 9223372036854775807 ∧ ReadAt W (.slice a es.length c) 4 (es.flatMap eCells) ∧ (∀ y ∈ es, EOk W y) := by
  obtain ⟨a0, n0, c0, rfl⟩ := okWide_slice Tryz.underlying29 hv
  obtain ⟨fuel, hf⟩ := h
  rcases open_rowsE Tryz.underlying29 Tryz.underlying42 (by kernel_rfl) (by kernel_rfl) hf with hcs | ⟨a, n, c, hcs, hl, hm, hz⟩
  · simp [Value.cells] at hcs
    obtain ⟨rfl, rfl, rfl⟩ := hcs
    exact ⟨none, 0, [], rfl, by simp, ReadAt.nil _ _, by simp⟩
  · simp [Value.cells] at hcs
    obtain ⟨rfl, rfl, rfl⟩ := hcs
    have hmx : maxLen ≤ 9223372036854775807 := by decide
    have hone : ∀ i, i < n0 → ∃ y : EIn, EOk W y ∧ ∀ j u, (eCells y)[j]? = some u → W.cell? (a.add (i * 4 + j)) = some u := fun i hi => by
      obtain ⟨v0, y0, m0, e0, t0⟩ := hz i hi 0 _ rfl
      obtain ⟨v1, y1, m1, e1, t1⟩ := hz i hi 1 _ rfl
      obtain ⟨v2, y2, m2, e2, t2⟩ := hz i hi 2 _ rfl
      obtain ⟨v3, y3, m3, e3, t3⟩ := hz i hi 3 _ rfl
      obtain ⟨s, es, _, hs⟩ := DataW.trod_string Tryz.underlying9 t0
      cases es
      obtain ⟨a1, n1, c1, bs, rfl, hbl, hn1, hrd⟩ := bytes_in t1
      obtain ⟨z2, f2, _, _⟩ := DataW.trod_int Tryz.underlying40 t2
      obtain ⟨z3, f3, _, w3⟩ := DataW.trod_int Tryz.underlying22 t3
      cases f2; cases f3
      simp [Lit.wf, IntKind.min, IntKind.max, IntKind.signed, IntKind.bits] at w3
      refine ⟨⟨⟨s, bs, z2, z3⟩, a1, n1, c1⟩, ⟨hrd, hbl, Nat.le_trans hs hmx, hn1, w3.1⟩, fun j u hu => ?_⟩
      have hj : j < 4 := (List.getElem?_eq_some_iff.1 hu).1
      unfold eCells at hu
      have : j = 0 ∨ j = 1 ∨ j = 2 ∨ j = 3 := by omega
      rcases this with rfl | rfl | rfl | rfl
      · cases hu; exact e0
      · cases hu; exact e1
      · cases hu; exact e2
      · cases hu; exact e3
    obtain ⟨ac, hlen, hac⟩ : ∃ ac : List EIn, ac.length = n0 ∧ ∀ i, i < n0 → ∃ y, ac[i]? = some y ∧ EOk W y ∧ ∀ j u, (eCells y)[j]? = some u → W.cell? (a.add (i * 4 + j)) = some u := by
      classical
      refine ⟨List.ofFn (fun i : Fin n0 => Classical.choose (hone i.1 i.2)), by simp, fun i hi => ⟨Classical.choose (hone i hi), by simp [List.getElem?_ofFn, hi], Classical.choose_spec (hone i hi)⟩⟩
    clear hone hz
    have hm' : n0 ≤ 9223372036854775807 := by unfold maxLen at hm; omega
    refine ⟨some a, c0, ac, by rw [hlen], by rw [hlen]; exact hm', ⟨some a, n0, c0, by rw [hlen], ?_, ?_, (fun h => by cases h), ?_⟩, fun y hy => ?_⟩
    · rw [flat_length eCells 4 (fun _ => rfl) ac, hlen]
    · intro u hu
      obtain ⟨y, _, hy⟩ := List.mem_flatMap.1 hu
      unfold eCells at hy
      simp only [List.mem_cons, List.not_mem_nil, or_false] at hy
      rcases hy with rfl | rfl | rfl | rfl <;> rfl
    · intro ad had k u hu
      cases had
      have hk : k < n0 * 4 := by
        have := (List.getElem?_eq_some_iff.1 hu).1
        rw [flat_length eCells 4 (fun _ => rfl) ac, hlen] at this
        exact this
      have hd : k / 4 * 4 + k % 4 = k := by omega
      obtain ⟨y, hy, _, hc⟩ := hac (k / 4) (by omega)
      have h1 := flat_get eCells 4 (fun _ => rfl) (k % 4) (by omega) ac (k / 4)
      rw [hy, hd, hu] at h1
      have := hc (k % 4) u h1.symm
      rw [hd] at this
      exact this
    · obtain ⟨i, hi⟩ := List.getElem?_of_mem hy
      have hil := (List.getElem?_eq_some_iff.1 hi).1
      obtain ⟨y', hy', hok, _⟩ := hac i (by omega)
      rw [hi] at hy'
      cases hy'
      exact hok
end Go.Proofs.YtapplindfijngaaGreat

/- law11.made, walked. Conditions: 0 ≤ n ≤ 100, at most 100 slots, which are read. -/
namespace Go.Proofs.YtapplindfijngaaGreat
open Go.RowKit Go.Shelf
set_option maxRecDepth 100000

theorem u8_nat (k : Nat) (h : k ≤ 255) : (UInt8.ofNat k).toNat = k := by simp; omega
def removeMissA (w : World) (e : Ending) (w' : World) : Prop := e = .returned (.tuple #[.agg #[.string ⟨#[]⟩, .slice none 0 0, .int .u64 0, .int .u64 0], .int .i64 9]) ∧ Pure w w'
theorem removeMissA_ok {w : World} {D : Nat → Prop} {p : Nat} {L : List (Option Ent)} (h : LogAt w D p L) (i : Nat) (hu : i ≤ 4294967295) (hi : ∀ x, L[i]? ≠ some (some x)) :
    Calls Tryz.prog 24 #[logPtr p, .int .u32 i] w (removeMissA w) := by
  obtain ⟨sv, M, rfl, h⟩ := h
  refine Remove_miss h hu ?_
  unfold slotOf
  cases e : M[i]? with
  | none => rfl
  | some m =>
    obtain ⟨o, v⟩ := m
    cases o with
    | none => rfl
    | some x => exact absurd (by rw [List.getElem?_map, e]; rfl) (hi x)

theorem ref_AppendK {w : World} {aL : Option Addr} {cL : Nat} {aG : Option Addr} {cG : Nat} {Q : List RQ} (h : RefRow w aL cL aG cG Q) (hQ : Q.length < 4194304) (k : Nat) (a : Option Addr) (n c : Nat) (hx : ReadAt w (.slice a n c) 1 (bytesOf (mkE k).val)) :
    Calls Tryz.prog 23 #[refV aL cL aG cG Q.length, .agg #[.string ⟨#[UInt8.ofNat k]⟩, .slice a n c, .int .u64 k, .int .u64 ((k : Int) + 1)]] w (refAppPost w Q (mkE k)) := ref_Append h hQ (mkE k) (mkE_ok k) a n c hx
theorem appendAK {w : World} {D : Nat → Prop} {p : Nat} {L : List (Option Ent)} (h : LogAt w D p L) (hL : L.length < 4194304) (k : Nat) (a : Option Addr) (n c : Nat) (hx : ReadAt w (.slice a n c) 1 (bytesOf (mkE k).val)) :
    Calls Tryz.prog 22 #[logPtr p, .agg #[.string ⟨#[UInt8.ofNat k]⟩, .slice a n c, .int .u64 k, .int .u64 ((k : Int) + 1)]] w (appendA w D p L (mkE k)) := appendA_ok h hL (mkE k) (mkE_ok k) a n c hx
def madePost (w : World) (n : Nat) (gs : List Nat) (e : Ending) (w' : World) : Prop :=
  ∃ p D aL cL aG cG Q, e = .returned (.tuple #[logPtr p, refV aL cL aG cG Q.length, .bool true]) ∧ LogAt w' D p (slotsR (madeR n gs)) ∧ (∀ k, D k → w.heap.size ≤ k) ∧ Q.map absQ = madeR n gs ∧ RefRow w' aL cL aG cG Q ∧
    (∀ g, (Value.slice aL Q.length cL).ownBlock = some g → ¬ D g) ∧ Pure w w'
def MdLoop (w : World) (p b8 n : Nat) (i : Value) (wr : World) : Prop := ∃ k : Nat, k ≤ n ∧ i = .int .i64 k ∧ MdInv w p b8 (baseR k) wr
def MdLoop2 (w : World) (p b8 n : Nat) (gs : List Nat) (i : Value) (wr : World) : Prop := ∃ j : Nat, j ≤ gs.length ∧ i = .int .i64 j ∧ MdInv w p b8 ((gs.take j).foldl rmR (baseR n)) wr

set_option maxHeartbeats 2000000 in
theorem made_any {w : World} (n : Nat) (hn : n ≤ 100) (a : Option Addr) (c : Nat) (gs : List Nat) (hg : ReadAt w (.slice a gs.length c) 1 (u32s gs)) (hgl : gs.length ≤ 100) (hgu : ∀ s ∈ gs, s ≤ 4294967295) :
    Calls Tryz.prog 34 #[.int .i64 n, .slice a gs.length c] w (madePost w n gs) := by
  have HG := Lib.hid hg
  have HGU := Lib.hid hgu
  have hn1 : (n : Int) ≤ 100 := by omega
  have hgl1 : (gs.length : Int) ≤ 100 := by omega
  clear hg hgu
  go_enter Tryz.func34, Tryz.ntmps34
  go_upto_region 2 with (go_at_call 21; refine Calls.mono (newA_ok _) ?_; rintro e w1 ⟨rfl, hl, hp, hz⟩)
  simp only [World.size_alloc] at hl
  have I : MdInv w (w.heap.size + 1) w1.heap.size (baseR 0) (w1.alloc (.cells #[.slice none 0 0, .slice none 0 0] 32)) := by
    have hal : Pure w1 (w1.alloc (.cells #[.slice none 0 0, .slice none 0 0] 32)) := (Mod.refl _ w1).alloc _
    have hsz := hp.size
    simp at hsz
    exact ⟨(((Mod.refl _ w).alloc _).trans hp).trans hal, hal.heap (fun h => h) (hp.heap (fun h => h) (heap_new rfl)), by omega, _, none, 0, none, 0, [], hl.pure hal, fun k hk => by omega, rfl, heap_new rfl, RefRow.nil _, fun g e => by cases e⟩
  generalize w1.alloc (.cells #[.slice none 0 0, .slice none 0 0] 32) = W at I ⊢
  generalize w1.heap.size = b8 at I ⊢
  have HI := Lib.hid I
  clear I hl hp hz
  go_wp2
  generalize hpp : w.heap.size + 1 = p at *
  go_loopw [9] (fun i wr => MdLoop w p b8 n i wr) (fun i _ => n - (intOf i).toNat)
  case atStart => exact ⟨0, by omega, rfl, HI.out⟩
  case round =>
    obtain ⟨k, hk, rfl, I⟩ := hrel
    have HI := Lib.hid I
    obtain ⟨pu, r5, hb, D, aL, cL, aG, cG, Q, hl, hD, hQ, r8, hR, hA⟩ := I
    have HPU := Lib.hid pu; have HL := Lib.hid hl; have HD := Lib.hid hD; have HQ := Lib.hid hQ; have HR := Lib.hid hR; have HA := Lib.hid hA; have HR5 := Lib.hid r5
    have hql : Q.length = k := by have := congrArg List.length hQ; rw [List.length_map, baseR_length] at this; exact this
    have HQL := Lib.hid hql
    have hql2 : Q.length ≤ 100 := by omega
    clear pu hl hD hQ hR hA r5 hql
    by_cases hlt : k < n
    · have hk1 : (k : Int) < (n : Int) := by omega
      have hk2 : (k : Int) ≤ 100 := by omega
      have kc := conv_bytes (w := wr.alloc (.cells #[.int .u8 k] 5)) (a := some ⟨wr.heap.size, 0, none⟩) (n := 1) (c := 1) [UInt8.ofNat k] (by
        have := ReadAt.of_block (w := wr.alloc (.cells #[.int .u8 k] 5)) (k := 1) 1 1 (heap_new rfl) rfl (by simp [Value.oneCell'])
        simpa [bytesOf, u8_nat k (by omega)] using this)
      go_upto_region 8 with fail
      clear kc
      have hp1 : Pure wr (((wr.alloc (.cells #[.int .u8 k] 5)).alloc (.cells #[.int .u8 k, .int .u8 7] 5)).alloc (.cells #[.string ⟨#[UInt8.ofNat k]⟩, .slice (some ⟨wr.heap.size + 1, 0, none⟩) 2 2, .int .u64 k, .int .u64 ((k : Int) + 1)] 42)) := (((Mod.refl _ wr).alloc _).alloc _).alloc _
      have rB := heap_keep (o := .cells #[.string ⟨#[UInt8.ofNat k]⟩, .slice (some ⟨wr.heap.size + 1, 0, none⟩) 2 2, .int .u64 k, .int .u64 ((k : Int) + 1)] 42 (0, 0)) (heap_new (w := wr.alloc (.cells #[.int .u8 k] 5)) (o := .cells #[.int .u8 k, .int .u8 7] 5 (0, 0)) (n := wr.heap.size + 1) (by simp))
      have rE := heap_new (w := (wr.alloc (.cells #[.int .u8 k] 5)).alloc (.cells #[.int .u8 k, .int .u8 7] 5)) (o := .cells #[.string ⟨#[UInt8.ofNat k]⟩, .slice (some ⟨wr.heap.size + 1, 0, none⟩) 2 2, .int .u64 k, .int .u64 ((k : Int) + 1)] 42 (0, 0)) (n := wr.heap.size + 1 + 1) (by simp)
      have hrd := ReadAt.of_block (k := 1) 2 2 rB rfl (by simp [Value.oneCell'])
      generalize ((wr.alloc (.cells #[.int .u8 k] 5)).alloc (.cells #[.int .u8 k, .int .u8 7] 5)).alloc (.cells #[.string ⟨#[UInt8.ofNat k]⟩, .slice (some ⟨wr.heap.size + 1, 0, none⟩) 2 2, .int .u64 k, .int .u64 ((k : Int) + 1)] 42) = W1 at hp1 rE hrd ⊢
      have HRD : Hid (ReadAt W1 (.slice (some ⟨wr.heap.size + 1, 0, none⟩) 2 2) 1 (bytesOf (mkE k).val)) := by
        have : bytesOf (mkE k).val = [.int .u8 k, .int .u8 7] := by simp [bytesOf, mkE, u8_nat k (by omega)]
        rw [this]; exact hrd
      have HP1 := Lib.hid hp1
      replace r8 := hp1.heap (fun h => h) r8
      clear rB hrd hp1
      have r8_0 := cell_of_row _ _ 0 _ _ _ r8; have r8_1 := cell_of_row _ _ 1 _ _ _ r8; have r8_f := (fun j => frozen_of_row _ _ j _ _ r8); have r8_l := lt_of_block r8; simp at r8_0 r8_1; have H_r8 := Lib.hid r8; clear r8
      have rE_0 := cell_of_row _ _ 0 _ _ _ rE; have rE_1 := cell_of_row _ _ 1 _ _ _ rE; have rE_2 := cell_of_row _ _ 2 _ _ _ rE; have rE_3 := cell_of_row _ _ 3 _ _ _ rE; have rE_f := (fun j => frozen_of_row _ _ j _ _ rE); have rE_l := lt_of_block rE; simp at rE_0 rE_1 rE_2 rE_3; have H_rE := Lib.hid rE; clear rE
      go_upto_region 9 with (go_at_call 23; refine Calls.mono (ref_AppendK (HR.out.pure HP1.out) (by omega) k _ _ _ HRD.out) ?_; rintro e w2 ⟨aL2, cL2, aG2, cG2, Q2, rfl, hq2, hR2, hf2, hf3, hp2⟩; have z8 := hp2.heap (fun h => h) H_r8.out; have z8_0 := cell_of_row _ _ 0 _ _ _ z8; have z8_1 := cell_of_row _ _ 1 _ _ _ z8; have z8_f := (fun j => frozen_of_row _ _ j _ _ z8); have z8_l := lt_of_block z8; simp at z8_0 z8_1; have H_z8 := Lib.hid z8; clear z8)
      have HL1 := HL.out.pure HP1.out
      obtain ⟨hl3, hm3, S⟩ := md_step (HPU.out.trans HP1.out) (HP1.out.heap (fun h => h) HR5.out) hb HL1 HD.out H_r8.out hp2 hR2 (fun g hg hd => by have := hf2 g hg; have := HL1.lt hd; omega) hq2 rfl
      have hb8 : b8 < wr.heap.size := by
        obtain ⟨_, _, _, D0, _, _, _, _, Q0, _, _, _, h8, _⟩ := HI.out
        exact lt_of_block h8
      have hE3 := hm3.heap (show ¬ (wr.heap.size + 1 + 1 = b8) by omega) H_rE.out
      have HRD3 := Lib.hid (HRD.out.frame hm3 (fun g hg => by simp [rdBlock] at hg; omega))
      clear z8_0 z8_1 z8_f z8_l
      clear hp2 hR2 hf2 hf3 rE_0 rE_1 rE_2 rE_3 rE_f r8_0 r8_1 r8_f
      generalize (w2.setCell ⟨b8, 0, none⟩ (.slice aL2 Q2.length cL2)).setCell ⟨b8, 1, none⟩ (.slice aG2 Q2.length cG2) = W3 at hl3 hm3 S hE3 HRD3 ⊢
      have HL3 := Lib.hid hl3; have HS := Lib.hid S; have HQ2 := Lib.hid hq2
      clear hl3 S hm3 hq2
      have hE3_0 := cell_of_row _ _ 0 _ _ _ hE3; have hE3_1 := cell_of_row _ _ 1 _ _ _ hE3; have hE3_2 := cell_of_row _ _ 2 _ _ _ hE3; have hE3_3 := cell_of_row _ _ 3 _ _ _ hE3; have hE3_f := (fun j => frozen_of_row _ _ j _ _ hE3); have hE3_l := lt_of_block hE3; simp at hE3_0 hE3_1 hE3_2 hE3_3; have H_hE3 := Lib.hid hE3; clear hE3
      go_upto_region 10 with (go_at_call 22; refine Calls.mono (appendAK HL3.out (by rw [slotsR_length, baseR_length]; omega) k _ _ _ HRD3.out) ?_; rintro e w4 ⟨rfl, D', h4, hm4, hg4⟩)
      have HF := Lib.hid (HS.out D' _ w4 h4 hm4 hg4 (by rw [HQ.out, slotsR_snoc]))
      clear h4 hm4 hg4
      go_wp2
      go_roundw
      case rel => exact ⟨k + 1, by omega, by go_num, by rw [baseR_succ, ← HQ.out]; exact HF.out⟩
      case measure => simp [intOf]; omega
    · have hkn : k = n := by omega
      subst hkn
      clear HPU HL HD HQ HR HA HR5 HQL hql2 r8 hk hlt
      have hk1 : ¬ ((k : Int) < (k : Int)) := by omega
      go_wp2
      go_loopw [74] (fun i wr => MdLoop2 w p b8 k gs i wr) (fun i _ => gs.length - (intOf i).toNat)
      case atStart => exact ⟨0, by omega, rfl, HI.out⟩
      case round =>
        obtain ⟨j, hj, rfl, I⟩ := hrel
        have HI := Lib.hid I
        generalize hRR : (gs.take j).foldl rmR (baseR k) = R at *
        obtain ⟨pu, r5, hb, D, aL, cL, aG, cG, Q, hl, hD, hQ, r8, hR, hA⟩ := I
        have HPU := Lib.hid pu; have HL := Lib.hid hl; have HD := Lib.hid hD; have HQ := Lib.hid hQ; have HR := Lib.hid hR; have HA := Lib.hid hA
        have HRR := Lib.hid hRR
        clear pu hl hD hQ hR hA hRR
        by_cases hlt : j < gs.length
        · have hj1 : (j : Int) < (gs.length : Int) := by omega
          obtain ⟨gb, go, hga, hgb, hgc⟩ := (HG.out.frame HPU.out (fun _ _ h => h)).place (by omega)
          subst hga
          have he := List.getElem?_eq_getElem hlt
          generalize gs[j] = s at he
          have hs := HGU.out s (List.mem_of_getElem? he)
          have sg := hgc j (.int .u32 s) (by simp only [u32s, List.getElem?_map, he, Option.map_some])
          have HE := Lib.hid he
          clear he hgc
          have HR5 := Lib.hid r5
          clear r5
          have r8_0 := cell_of_row _ _ 0 _ _ _ r8; have r8_1 := cell_of_row _ _ 1 _ _ _ r8; have r8_f := (fun j => frozen_of_row _ _ j _ _ r8); have r8_l := lt_of_block r8; simp at r8_0 r8_1; have H_r8 := Lib.hid r8; clear r8
          have hs1 : (s : Int) ≤ 4294967295 := by omega
          by_cases hh : ∃ x, R[s]? = some (x, false)
          · obtain ⟨x, hx⟩ := hh
            obtain ⟨v, hq⟩ := absQ_get (HQ.out ▸ hx)
            obtain ⟨va, vc, hve, _⟩ := owns_form (HR.out.vals _ (List.mem_of_getElem? hq))
            dsimp only at hve
            subst hve
            have HQs := Lib.hid hq; have HX := Lib.hid hx
            clear hq hx
            go_upto_region 16 with (go_at_call 25; refine Calls.mono (ref_Remove_hit HR.out s hs x _ HQs.out) ?_; rintro e w2 ⟨aL2, cL2, aG2, cG2, Q2, rfl, hq2, hR2, hf2, hf3, hp2⟩)
            have hal : Pure w2 ((w2.alloc (.cells #[.slice aL2 Q2.length cL2, .slice aG2 Q2.length cG2] 32)).alloc (.cells #[.string x.key, .slice va (bytesOf x.val).length vc, .int .u64 x.dl, .int .u64 x.birth] 42)) := ((Mod.refl _ w2).alloc _).alloc _
            have z15 := heap_keep (o := .cells #[.string x.key, .slice va (bytesOf x.val).length vc, .int .u64 x.dl, .int .u64 x.birth] 42 (0, 0)) (heap_new (w := w2) (o := .cells #[.slice aL2 Q2.length cL2, .slice aG2 Q2.length cG2] 32 (0, 0)) rfl)
            generalize (w2.alloc (.cells #[.slice aL2 Q2.length cL2, .slice aG2 Q2.length cG2] 32)).alloc (.cells #[.string x.key, .slice va (bytesOf x.val).length vc, .int .u64 x.dl, .int .u64 x.birth] 42) = W2 at hal z15 ⊢
            have hnD : ∀ g, (Value.slice aL2 Q2.length cL2).ownBlock = some g → ¬ D g := fun g hg hd => by have := hf2 g hg; have := HL.out.lt hd; omega
            have HNW := Lib.hid (show w2.heap.size ≠ b8 by have := hp2.size; omega)
            generalize w2.heap.size = b15 at z15 HNW ⊢
            have HND := Lib.hid hnD; have HR2 := Lib.hid (hR2.pure hal); have HP2 := Lib.hid (hp2.trans hal); have HQ2 := Lib.hid hq2; have HZ := Lib.hid z15
            clear hnD hR2 hf2 hf3 hp2 hal hq2 z15 r8_0 r8_1 r8_f sg
            go_upto_region 17 with (go_at_call 24; refine Calls.mono (removeA_ok (HL.out.pure HP2.out) s x (slotsR_get HX.out)) ?_; rintro e w3 ⟨a3, n3, c3, rfl, hb3, hf3, hl3, hm3⟩)
            have hp4 : Pure w3 (w3.alloc (.cells #[.string x.key, .slice a3 n3 c3, .int .u64 x.dl, .int .u64 x.birth] 42)) := (Mod.refl _ w3).alloc _
            have z4 := hp4.heap (fun h => h) ((HL.out.pure HP2.out).box hm3 HZ.out (by decide) (by decide))
            have z8 := hp4.heap (fun h => h) ((HL.out.pure HP2.out).box hm3 (HP2.out.heap (fun h => h) H_r8.out) (by decide) (by decide))
            have S : ∀ W5, _ → MdInv w p b8 (rmR R s) W5 := fun W5 => md_step2 (HPU.out.trans HP2.out) (HP2.out.heap (fun h => h) HR5.out) hb (HL.out.pure HP2.out) HD.out (HP2.out.heap (fun h => h) H_r8.out) HR2.out HND.out (by rw [HQ2.out, HQ.out, rmR_hit HX.out]) hm3 hl3 (fun k hk => .inl hk) (by rw [rmR_hit HX.out, slotsR_set]) hp4
            have HS := Lib.hid S
            generalize w3.alloc (.cells #[.string x.key, .slice a3 n3 c3, .int .u64 x.dl, .int .u64 x.birth] 42) = W4 at HS z4 z8 ⊢
            clear S hb3 hf3 hl3 hm3 hp4
            have z4_0 := cell_of_row _ _ 0 _ _ _ z4; have z4_1 := cell_of_row _ _ 1 _ _ _ z4; have z4_f := (fun j => frozen_of_row _ _ j _ _ z4); have z4_l := lt_of_block z4; simp at z4_0 z4_1; have H_z4 := Lib.hid z4; clear z4
            have z8_0 := cell_of_row _ _ 0 _ _ _ z8; have z8_1 := cell_of_row _ _ 1 _ _ _ z8; have z8_f := (fun j => frozen_of_row _ _ j _ _ z8); have z8_l := lt_of_block z8; simp at z8_0 z8_1; have H_z8 := Lib.hid z8; clear z8
            go_upto_region 20 with fail
            clear z4_0 z4_1 z4_f z4_l
            clear z8_0 z8_1 z8_f z8_l
            have HF := Lib.hid (HS.out _ rfl)
            go_wp2
            go_roundw
            case rel => exact ⟨j + 1, by omega, by go_num, by rw [take_foldl HE.out, HRR.out]; exact HF.out⟩
            case measure => simp [intOf]; omega
          · have hmiss : ∀ x, R[s]? ≠ some (x, false) := fun x hx => hh ⟨x, hx⟩
            have HM := Lib.hid hmiss
            clear hh hmiss
            go_upto_region 16 with (go_at_call 25; refine Calls.mono (ref_Remove_miss HR.out s hs (hasQ_miss HQ.out HM.out)) ?_; rintro e w2 ⟨rfl, hp2⟩)
            have hal : Pure w2 ((w2.alloc (.cells #[.slice aL Q.length cL, .slice aG Q.length cG] 32)).alloc (.cells #[.string ⟨#[]⟩, .slice none 0 0, .int .u64 0, .int .u64 0] 42)) := ((Mod.refl _ w2).alloc _).alloc _
            have z15 := heap_keep (o := .cells #[.string ⟨#[]⟩, .slice none 0 0, .int .u64 0, .int .u64 0] 42 (0, 0)) (heap_new (w := w2) (o := .cells #[.slice aL Q.length cL, .slice aG Q.length cG] 32 (0, 0)) rfl)
            generalize (w2.alloc (.cells #[.slice aL Q.length cL, .slice aG Q.length cG] 32)).alloc (.cells #[.string ⟨#[]⟩, .slice none 0 0, .int .u64 0, .int .u64 0] 42) = W2 at hal z15 ⊢
            have HNW := Lib.hid (show w2.heap.size ≠ b8 by have := hp2.size; omega)
            generalize w2.heap.size = b15 at z15 HNW ⊢
            have HP2 := Lib.hid (hp2.trans hal); have HZ := Lib.hid z15
            clear hp2 hal z15 r8_0 r8_1 r8_f sg
            go_upto_region 17 with (go_at_call 24; refine Calls.mono (removeMissA_ok (HL.out.pure HP2.out) s hs (slotsR_miss HM.out)) ?_; rintro e w3 ⟨rfl, hp3⟩)
            have hp4 : Pure w3 (w3.alloc (.cells #[.string ⟨#[]⟩, .slice none 0 0, .int .u64 0, .int .u64 0] 42)) := (Mod.refl _ w3).alloc _
            have z4 := hp4.heap (fun h => h) (hp3.heap (fun h => h) HZ.out)
            have z8 := hp4.heap (fun h => h) (hp3.heap (fun h => h) (HP2.out.heap (fun h => h) H_r8.out))
            have S : ∀ W5, _ → MdInv w p b8 (rmR R s) W5 := fun W5 => md_step2 (HPU.out.trans HP2.out) (HP2.out.heap (fun h => h) HR5.out) hb (HL.out.pure HP2.out) HD.out (HP2.out.heap (fun h => h) H_r8.out) (HR.out.pure HP2.out) HA.out (by rw [HQ.out, rmR_miss HM.out]) (Mod.of_pure hp3) ((HL.out.pure HP2.out).pure hp3) (fun k hk => .inl hk) (by rw [rmR_miss HM.out]) hp4
            have HS := Lib.hid S
            generalize w3.alloc (.cells #[.string ⟨#[]⟩, .slice none 0 0, .int .u64 0, .int .u64 0] 42) = W4 at HS z4 z8 ⊢
            clear S hp3 hp4
            have z4_0 := cell_of_row _ _ 0 _ _ _ z4; have z4_1 := cell_of_row _ _ 1 _ _ _ z4; have z4_f := (fun j => frozen_of_row _ _ j _ _ z4); have z4_l := lt_of_block z4; simp at z4_0 z4_1; have H_z4 := Lib.hid z4; clear z4
            have z8_0 := cell_of_row _ _ 0 _ _ _ z8; have z8_1 := cell_of_row _ _ 1 _ _ _ z8; have z8_f := (fun j => frozen_of_row _ _ j _ _ z8); have z8_l := lt_of_block z8; simp at z8_0 z8_1; have H_z8 := Lib.hid z8; clear z8
            go_upto_region 20 with fail
            clear z4_0 z4_1 z4_f z4_l
            clear z8_0 z8_1 z8_f z8_l
            have HF := Lib.hid (HS.out _ rfl)
            go_wp2
            go_roundw
            case rel => exact ⟨j + 1, by omega, by go_num, by rw [take_foldl HE.out, HRR.out]; exact HF.out⟩
            case measure => simp [intOf]; omega
        · have hjl : gs.length = j := by omega
          have HJ := Lib.hid hjl
          have hj1 : ¬ ((j : Int) < (gs.length : Int)) := by omega
          clear hjl
          have r8_0 := cell_of_row _ _ 0 _ _ _ r8; have r8_1 := cell_of_row _ _ 1 _ _ _ r8; have r8_f := (fun j => frozen_of_row _ _ j _ _ r8); have r8_l := lt_of_block r8; simp at r8_0 r8_1; have H_r8 := Lib.hid r8; clear r8
          have r5_0 := cell_of_row _ _ 0 _ _ _ r5; have r5_1 := cell_of_row _ _ 1 _ _ _ r5; have r5_f := (fun j => frozen_of_row _ _ j _ _ r5); have r5_l := lt_of_block r5; simp at r5_0 r5_1; have H_r5 := Lib.hid r5; clear r5
          go_upto_region 21 with fail
          go_region
          go_wp2
          refine bodyPost_ret (v := .tuple #[logPtr p, refV aL cL aG cG Q.length, .bool true]) (by simp [results, Tryz.results34, go_sem, r5_0, r5_1, r5_f]) rfl ?_
          have hm5 : Mod (fun i => i = w.heap.size) wr (((wr.setCell ⟨w.heap.size, 0, none⟩ (.slice aL Q.length cL)).setCell ⟨w.heap.size, 1, none⟩ (.slice aG Q.length cG)).drew) := (Mod.set2 _ _ _ _ _).drew
          have hR' : R = madeR k gs := by rw [← HRR.out, ← HJ.out, List.take_length]; rfl
          refine ⟨p, D, aL, cL, aG, cG, Q, rfl, ?_, fun i hi => Nat.le_of_lt (HD.out i hi), by rw [HQ.out, hR'], HR.out.modT hm5 (fun i hi _ => by subst hi; exact ⟨_, _, H_r5.out⟩), HA.out, HPU.out.then hm5 (fun i hi h => by omega)⟩
          rw [← hR']
          exact HL.out.frame hm5 (fun i hi h => by have := HD.out i hi; omega) (fun i _ h cs fz e => by subst h; rw [H_r5.out] at e; cases e)
end Go.Proofs.YtapplindfijngaaGreat
