/- Lemmas and contracts of functions, strung together out of 5 texts. No condition. -/
import Derived.Test.YtapplindfijngaaGreatJPfCompactDicts16
import Derived.Test.YtapplindfijngaaGreatJPfCompactDicts2
import Derived.Test.YtapplindfijngaaGreatJPfCompactDicts10
import Derived.Test.YtapplindfijngaaGreatJPfCompactDicts13
import Derived.Test.YtapplindfijngaaGreatJPfCompactDicts8
/- The reference's Remove of a slot that has an entry. Condition: the log's rows are its own (RefRow). -/
namespace Go.Proofs.YtapplindfijngaaGreat
open Go.RowKit Go.Shelf
set_option maxRecDepth 100000

theorem rm_ret {w W6 w' : World} {b7 : Nat} {aL : Option Addr} {cL : Nat} {aG : Option Addr} {cG n : Nat} {aL2 : Option Addr} {cL2 : Nat} {a7 : Option Addr} {c7 : Nat} {Q Q2 : List RQ} {x : Ent} {v : Value} {k1 s : Nat}
    (HF : RmFin w b7 aL cL aG cG n aL2 cL2 a7 c7 Q2 W6) (hQ2 : Q2.map absQ = (Q.map absQ).set s (x, true)) (hl : Q2.length = k1)
    (u0 u1 u2 u3 u4 u5 : Value) (hw' : w' = ((((((W6.setCell ⟨w.heap.size + 1, 0, none⟩ u0).setCell ⟨w.heap.size + 1, 1, none⟩ u1).setCell ⟨w.heap.size + 1 + 1, 0, none⟩ u2).setCell ⟨w.heap.size + 1 + 1, 1, none⟩ u3).setCell ⟨w.heap.size + 1 + 1, 2, none⟩ u4).setCell ⟨w.heap.size + 1 + 1, 3, none⟩ u5).drew) :
    refRemHit w Q s x v (.returned (.tuple #[refV aL2 cL2 a7 c7 k1, entV x v, .int .i64 0])) w' := by
  subst hl hw'
  have z5 := HF.r5
  have hm1 : Mod (fun i => i = w.heap.size + 1) W6 ((W6.setCell ⟨w.heap.size + 1, 0, none⟩ u0).setCell ⟨w.heap.size + 1, 1, none⟩ u1) := Mod.set2 _ _ _ _ _
  have R1 := HF.R.modT hm1 (fun i hi _ => by subst hi; exact ⟨_, _, HF.r4⟩)
  have r5 := hm1.heap (by omega) HF.r5
  generalize (W6.setCell ⟨w.heap.size + 1, 0, none⟩ u0).setCell ⟨w.heap.size + 1, 1, none⟩ u1 = W7 at hm1 R1 r5 ⊢
  obtain ⟨zr, zm⟩ := box4 r5 u2 u3 u4 u5
  generalize ((((W7.setCell ⟨w.heap.size + 1 + 1, 0, none⟩ u2).setCell ⟨w.heap.size + 1 + 1, 1, none⟩ u3).setCell ⟨w.heap.size + 1 + 1, 2, none⟩ u4).setCell ⟨w.heap.size + 1 + 1, 3, none⟩ u5) = W8 at zr zm ⊢
  replace zm := zm.drew
  clear zr
  generalize W8.drew = W8 at zm ⊢
  have hne : ∀ {T k n : Nat} {v : Value} {xs : List Value}, W7.ownsRow 0 T k v n xs → (∀ g, v.ownBlock = some g → g ≠ w.heap.size + 1 + 1) → W8.ownsRow 0 T k v n xs := fun ho h => owns_mod ho zm (fun g hg e => h g hg e)
  refine ⟨aL2, cL2, a7, c7, Q2, rfl, hQ2, ⟨hne R1.L (fun g hg => by have := HF.fL g hg; omega), hne R1.G (fun g hg => by have := HF.fG g hg; omega), fun q hq => ?_, R1.ok, R1.len⟩, fun g hg => by have := HF.fL g hg; omega, fun g hg => by have := HF.fG g hg; omega, (HF.pu.then hm1 (fun i hi h => by omega)).then zm (fun i hi h => by omega)⟩
  exact owns_modT (R1.vals q hq) zm (fun i hi _ => by subst hi; exact ⟨_, _, _, r5, by decide⟩)

set_option maxHeartbeats 1000000 in
theorem ref_Remove_hit {w : World} {aL : Option Addr} {cL : Nat} {aG : Option Addr} {cG : Nat} {Q : List RQ} (h : RefRow w aL cL aG cG Q) (s : Nat) (hs : s ≤ 4294967295) (x : Ent) (v : Value) (hx : Q[s]? = some (x, v, false)) :
    Calls Tryz.prog 25 #[refV aL cL aG cG Q.length, .int .u32 s] w (refRemHit w Q s x v) := by
  have hh : hasQ Q s = true := by simp [hasQ, hx]
  have hlt : s < Q.length := (List.getElem?_eq_some_iff.1 hx).1
  have hlt1 : (s : Int) < (Q.length : Int) := by omega
  have hs1 : (s : Int) ≤ 4294967295 := by omega
  obtain ⟨g, _, hsv, _, hg, hc, hf, _⟩ := owns_at h.L (by omega)
  cases hsv
  have hcc : ∀ j u, (cellsQ (x, v, false))[j]? = some u → w.cell? ⟨g, s * 4 + j, none⟩ = some u := by
    intro j u hu
    have hj : j < 4 := by rw [← cellsQ_length (x, v, false)]; exact (List.getElem?_eq_some_iff.1 hu).1
    refine hc _ _ ?_
    rw [flat_get cellsQ 4 cellsQ_length j hj, hx]
    exact hu
  have hv := h.vals _ (List.mem_of_getElem? hx)
  obtain ⟨va, vc, hve, _⟩ := owns_form hv
  dsimp only at hve
  subst hve
  have s0 : w.cell? ⟨g, s * 4, none⟩ = _ := hcc 0 _ rfl; have s1 := hcc 1 _ rfl; have s2 := hcc 2 _ rfl; have s3 := hcc 3 _ rfl
  dsimp only at s0 s1 s2 s3
  have H := Lib.hid h
  have HH := Lib.hid hh
  have HX := Lib.hid hx
  clear h hh hx hc hf hcc hv
  have S0 := Lib.hid s0; have S1 := Lib.hid s1; have S2 := Lib.hid s2; have S3 := Lib.hid s3
  clear s0 s1 s2 s3
  go_enter Tryz.func25, Tryz.ntmps25
  go_upto_region 4 with (first
    | (go_at_call 64; refine Calls.mono (ref_Has (H.out.pure (by (repeat' (first | (with_reducible exact Mod.refl _ _) | (with_reducible refine Mod.alloc ?_ _) | (with_reducible refine Mod.drew ?_) | (with_reducible refine Mod.drewN ?_ _) | (with_reducible refine Mod.setCell ?_ ?_ _) | (refine Mod.then ?_ (by with_reducible assumption) ?_))) <;> (all_goals (intros; first | (exfalso; assumption) | omega | (simp at *; done) | (simp at *; omega))))) s hs) ?_; rintro e w1 ⟨rfl, hp⟩; rw [HH.out]; have hp' : Pure w w1 := (by (repeat' (first | (with_reducible exact Mod.refl _ _) | (with_reducible refine Mod.alloc ?_ _) | (with_reducible refine Mod.drew ?_) | (with_reducible refine Mod.drewN ?_ _) | (with_reducible refine Mod.setCell ?_ ?_ _) | (refine Mod.then ?_ (by with_reducible assumption) ?_))) <;> (all_goals (intros; first | (exfalso; assumption) | omega | (simp at *; done) | (simp at *; omega)))); have HP := Lib.hid hp'; have z4 := hp.heap (fun h => h) (heap_keep (o := .cells #[.string ⟨#[]⟩, .slice none 0 0, .int .u64 0, .int .u64 0] 42 (0, 0)) (heap_new (w := w.alloc (.cells #[.slice (some ⟨g, 0, none⟩) Q.length cL, .slice aG Q.length cG] 32)) (o := .cells #[.slice none 0 0, .slice none 0 0] 32 (0, 0)) (n := w.heap.size + 1) (by simp))); have z5 := hp.heap (fun h => h) (heap_new (o := .cells #[.string ⟨#[]⟩, .slice none 0 0, .int .u64 0, .int .u64 0] 42 (0, 0)) (n := w.heap.size + 1 + 1) (by simp)); have z2 := hp.heap (fun h => h) (heap_keep (o := .cells #[.string ⟨#[]⟩, .slice none 0 0, .int .u64 0, .int .u64 0] 42 (0, 0)) (heap_keep (o := .cells #[.slice none 0 0, .slice none 0 0] 32 (0, 0)) (heap_new (w := w) (o := .cells #[.slice (some ⟨g, 0, none⟩) Q.length cL, .slice aG Q.length cG] 32 (0, 0)) rfl))); have Z4 := Lib.hid z4; have Z5 := Lib.hid z5; clear z4 z5; have z2_0 := cell_of_row _ _ 0 _ _ _ z2; have z2_1 := cell_of_row _ _ 1 _ _ _ z2; have z2_f := (fun j => frozen_of_row _ _ j _ _ z2); have z2_l := lt_of_block z2; simp at z2_0 z2_1; have H_z2 := Lib.hid z2; clear z2; clear hp hp')
    | (go_at_call 71; refine Calls.mono (ref_LogCopy (H.out.pure HP.out)) ?_; rintro e w2 ⟨aL', cL', aG', cG', Q', rfl, hq', hR', hfL, hfG, hp⟩; clear z2_0 z2_1 z2_f z2_l))
  have hlQ : Q'.length = Q.length := by have := congrArg List.length hq'; simpa using this
  have hP2 := HP.out.trans hp
  have hal : Pure w2 (w2.alloc (.cells #[.slice aL' Q'.length cL', .slice aG' Q'.length cG'] 32)) := (Mod.refl _ w2).alloc _
  have hsz : w.heap.size + 1 + 1 < w1.heap.size := lt_of_block Z5.out
  obtain ⟨g7, cg7, hsv, _, hg7, hc7, hf7, _⟩ := owns_at hR'.G (by omega)
  cases hsv
  have hltq : s < Q'.length := by omega
  have hq := List.getElem?_eq_getElem hltq
  generalize Q'[s] = q at hq
  have hfin := rm_fin (b7 := w2.heap.size) (hP2.trans hal) ((hp.trans hal).heap (fun h => h) H_z2.out) ((hp.trans hal).heap (fun h => h) Z4.out) ((hp.trans hal).heap (fun h => h) Z5.out) (heap_new rfl) (hR'.pure hal) hq (fun k hk => by have := hfL k hk; omega) (by have := hfG g7 rfl; omega)
  have e0 := (hR'.pure hal).G
  have hQ2 := Lib.hid (set_abs Q Q' s q x _ false hq' hq HX.out)
  have l7 : w2.heap.size < (w2.alloc (.cells #[.slice aL' Q'.length cL', .slice (some ⟨g7, 0, none⟩) Q'.length cG'] 32)).heap.size := by simp
  have z7 : (w2.alloc (.cells #[.slice aL' Q'.length cL', .slice (some ⟨g7, 0, none⟩) Q'.length cG'] 32)).heap[w2.heap.size]? = _ := heap_new rfl
  obtain ⟨g8, cg8, hsv, _, hg8, hc8, hf8, _⟩ := owns_at e0 (by omega)
  cases hsv
  have hpw := hP2.trans hal
  have t0 := hpw.cell (fun h => h) S0.out; have t1 := hpw.cell (fun h => h) S1.out; have t2 := hpw.cell (fun h => h) S2.out; have t3 := hpw.cell (fun h => h) S3.out
  have hltq1 : (s : Int) < (Q'.length : Int) := by omega
  have sg := hc8 s (goneQ q) (by rw [List.getElem?_map, hq]; rfl)
  have hne7 : g7 ≠ w2.heap.size := by omega
  have hneg : g ≠ g7 := fun e => by have := hfG g7 rfl; have := HP.out.size; omega
  have hl2 : (Q'.set s (q.1, q.2.1, true)).length = Q'.length := by simp
  have HL2 := Lib.hid hl2
  have HLQ := Lib.hid hlQ
  clear hc7 hf7 hc8 hpw hP2 hp hR' hfL hfG hq' hlQ e0 hl2 hal hq
  generalize w2.alloc (.cells #[.slice aL' Q'.length cL', .slice (some ⟨g7, 0, none⟩) Q'.length cG'] 32) = W at *
  generalize w2.heap.size = b7 at *
  have z7_0 := cell_of_row _ _ 0 _ _ _ z7; have z7_1 := cell_of_row _ _ 1 _ _ _ z7; have z7_f := (fun j => frozen_of_row _ _ j _ _ z7); have z7_l := lt_of_block z7; simp at z7_0 z7_1; have H_z7 := Lib.hid z7; clear z7
  go_upto_region 5 with fail
  clear z7_0 z7_1 z7_f z7_l
  clear t0 t1 t2 t3 sg
  generalize W.setCell ⟨g7, s, none⟩ (.bool true) = W6 at hfin ⊢
  generalize hQe : Q'.set s (q.1, q.2.1, true) = Q2 at *
  have HF := Lib.hid hfin
  have z4 := hfin.r4; have z5 := hfin.r5; have z2 := hfin.r2; have z7 := hfin.r7
  rw [HL2.out] at z7
  have t0 := hfin.pu.cell (fun h => h) S0.out; have t1 := hfin.pu.cell (fun h => h) S1.out; have t2 := hfin.pu.cell (fun h => h) S2.out; have t3 := hfin.pu.cell (fun h => h) S3.out
  have hlg : g < W6.heap.size := hfin.pu.lt hg
  clear hfin hQe
  have z4_0 := cell_of_row _ _ 0 _ _ _ z4; have z4_1 := cell_of_row _ _ 1 _ _ _ z4; have z4_f := (fun j => frozen_of_row _ _ j _ _ z4); have z4_l := lt_of_block z4; simp at z4_0 z4_1; have H_z4 := Lib.hid z4; clear z4
  have z5_0 := cell_of_row _ _ 0 _ _ _ z5; have z5_1 := cell_of_row _ _ 1 _ _ _ z5; have z5_2 := cell_of_row _ _ 2 _ _ _ z5; have z5_3 := cell_of_row _ _ 3 _ _ _ z5; have z5_f := (fun j => frozen_of_row _ _ j _ _ z5); have z5_l := lt_of_block z5; simp at z5_0 z5_1 z5_2 z5_3; have H_z5 := Lib.hid z5; clear z5
  have z2_0 := cell_of_row _ _ 0 _ _ _ z2; have z2_1 := cell_of_row _ _ 1 _ _ _ z2; have z2_f := (fun j => frozen_of_row _ _ j _ _ z2); have z2_l := lt_of_block z2; simp at z2_0 z2_1; have H_z2 := Lib.hid z2; clear z2
  have z7_0 := cell_of_row _ _ 0 _ _ _ z7; have z7_1 := cell_of_row _ _ 1 _ _ _ z7; have z7_f := (fun j => frozen_of_row _ _ j _ _ z7); have z7_l := lt_of_block z7; simp at z7_0 z7_1; have H_z7 := Lib.hid z7; clear z7
  go_region
  go_wp2
  refine bodyPost_ret (v := .tuple #[refV aL' cL' (some ⟨g7, 0, none⟩) cG' Q'.length, entV x (.slice va (bytesOf x.val).length vc), .int .i64 0]) (by simp [results, Tryz.results25, go_sem, z4_0, z4_1, z5_0, z5_1, z5_2, z5_3, z4_f, z5_f]) rfl ?_
  exact rm_ret HF.out hQ2.out HL2.out _ _ _ _ _ _ rfl
end Go.Proofs.YtapplindfijngaaGreat

/- The reference's moves of layer 11: the list of new slot numbers (newX), To and From. Conditions: the row is owned, the slot numbers rise and are below the length. -/
namespace Go.Proofs.YtapplindfijngaaGreat
open Go.RowKit Go.Shelf
set_option maxRecDepth 100000

/-! ### plain -/
/-- The reference's list: for each old slot number the new one, or -1. -/
def newX (xs : List Nat) (n : Nat) : List Int := (List.range n).map (fun i => if i ∈ xs then (below xs i : Int) else -1)
theorem newX_length (xs : List Nat) (n : Nat) : (newX xs n).length = n := by simp [newX]
theorem newX_get {xs : List Nat} {n i : Nat} (h : i < n) : (newX xs n)[i]? = some (if i ∈ xs then (below xs i : Int) else -1) := by
  simp [newX, h]
theorem newX_gone {xs : List Nat} {k : Nat} (h : ∀ x ∈ xs, x < k) : newX xs (k + 1) = newX xs k ++ [-1] := by
  have hk : k ∉ xs := fun hm => by have := h k hm; omega
  simp [newX, List.range_succ, hk]
theorem newX_live {xs : List Nat} {k : Nat} (h : ∀ x ∈ xs, x < k) : newX (xs ++ [k]) (k + 1) = newX xs k ++ [(xs.length : Int)] := by
  unfold newX
  rw [List.range_succ, List.map_append]
  congr 1
  · refine List.map_congr_left (fun i hi => ?_)
    have hik : i < k := List.mem_range.1 hi
    have e1 : (i ∈ xs ++ [k]) ↔ i ∈ xs := by simp; omega
    have e2 : below (xs ++ [k]) i = below xs i := by
      have : ¬ k < i := by omega
      simp [below, List.countP_append, this]
    simp only [e1, e2]
  · have e2 : below (xs ++ [k]) k = xs.length := by
      unfold below
      rw [List.countP_append]
      have : List.countP (fun x => decide (x < k)) xs = xs.length := List.countP_eq_length.2 (fun x hx => by simp [h x hx])
      simp [this]
    simp [e2]
def slotsR (R : List (Ent × Bool)) : List (Option Ent) := R.map (fun p => if p.2 then none else some p.1)
theorem slotsR_length (R : List (Ent × Bool)) : (slotsR R).length = R.length := by simp [slotsR]
theorem olds_append_none (L : List (Option Ent)) : olds (L ++ [none]) = olds L := by
  simp [olds, live, liveFrom_append, liveFrom]
theorem olds_append_some (L : List (Option Ent)) (x : Ent) : olds (L ++ [some x]) = olds L ++ [L.length] := by
  simp [olds, live, liveFrom_append, liveFrom]
theorem packed_append_none (L : List (Option Ent)) : packed (L ++ [none]) = packed L := by
  simp [packed, live, liveFrom_append, liveFrom]
theorem packed_append_some (L : List (Option Ent)) (x : Ent) : packed (L ++ [some x]) = packed L ++ [some x] := by
  simp [packed, live, liveFrom_append, liveFrom]
theorem snoc_ind {α : Type} {P : List α → Prop} (h0 : P []) (h1 : ∀ l a, P l → P (l ++ [a])) (l : List α) : P l := by
  rw [← l.reverse_reverse]
  induction l.reverse with
  | nil => exact h0
  | cons a t ih => rw [List.reverse_cons]; exact h1 _ _ ih
/-- The reference's compacted log. -/
def packR (R : List (Ent × Bool)) : List (Ent × Bool) := R.filter (fun p => !p.2)
theorem packR_slots (R : List (Ent × Bool)) : slotsR (packR R) = packed (slotsR R) := by
  refine snoc_ind (P := fun R => slotsR (packR R) = packed (slotsR R)) rfl (fun R p ih => ?_) R
  · obtain ⟨x, g⟩ := p
    cases g
    · have e : slotsR (R ++ [(x, false)]) = slotsR R ++ [some x] := by simp [slotsR]
      have e2 : packR (R ++ [(x, false)]) = packR R ++ [(x, false)] := by simp [packR, List.filter_append]
      rw [e, packed_append_some, e2, ← ih]
      simp [slotsR]
    · have e : slotsR (R ++ [(x, true)]) = slotsR R ++ [none] := by simp [slotsR]
      have e2 : packR (R ++ [(x, true)]) = packR R := by simp [packR, List.filter_append]
      rw [e, packed_append_none, e2, ← ih]
theorem packR_length (R : List (Ent × Bool)) : (packR R).length = (olds (slotsR R)).length := by
  have := congrArg List.length (packR_slots R)
  rw [slotsR_length] at this
  rw [this]
  simp [packed, olds]

/-! ### To, From -/
def ints (N : List Int) : List Value := N.map (fun n : Int => (.int .i64 n : Value))
abbrev MvRow (w : World) (a : Option Addr) (c : Nat) (N : List Int) : Prop := w.ownsRow 0 3 1 (.slice a N.length c) N.length (ints N)
def MvX (w : World) (a : Option Addr) (c n : Nat) (xs : List Nat) : Prop := w.ownsRow 0 3 1 (.slice a n c) n (ints (newX xs n))
theorem MvX.pure {w w' : World} {a : Option Addr} {c n : Nat} {xs : List Nat} (h : MvX w a c n xs) (hm : Pure w w') : MvX w' a c n xs := owns_mod h hm (fun _ _ h => h)
theorem MvX.cell {w : World} {a : Option Addr} {c n : Nat} {xs : List Nat} (h : MvX w a c n xs) {o : Nat} (ho : o < n) :
    ∃ g, a = some ⟨g, 0, none⟩ ∧ g < w.heap.size ∧ w.cell? ⟨g, o, none⟩ = some (.int .i64 (if o ∈ xs then (below xs o : Int) else -1)) := by
  obtain ⟨g, _, hsv, _, hg, hc, _⟩ := owns_at h (by omega)
  cases hsv
  exact ⟨g, rfl, hg, hc o _ (by simp [ints, List.getElem?_map, newX_get ho])⟩

theorem ref_To {w : World} {a : Option Addr} {c n : Nat} {xs : List Nat} (h : MvX w a c n xs) (hn : n ≤ 4194304) (hx : ∀ x ∈ xs, x < n) (hl : xs.length ≤ 4194304) (m : Int) (o : Nat) (ho : o ≤ 4294967295) :
    Calls Tryz.prog 95 #[.agg #[.slice a n c, .int .i64 m], .int .u32 o] w fun e w' => e = .returned (.tuple #[.int .u32 (toM xs o).1, .int .i64 (toM xs o).2]) ∧ Pure w w' := by
  have hp : Pure w (w.alloc (.cells #[.slice a n c, .int .i64 m] 86)) := (Mod.refl _ w).alloc _
  have HP := Lib.hid hp
  have ho2 : (o : Int) ≤ 4294967295 := by omega
  by_cases hlt : o < n
  · obtain ⟨g, rfl, hg, hc⟩ := h.cell hlt
    have hlt1 : (o : Int) < (n : Int) := by omega
    by_cases hm : o ∈ xs
    · rw [if_pos hm] at hc
      have e : toM xs o = (below xs o, 0) := by simp [toM, hm]
      have E := Lib.hid e
      have hb1 : (below xs o : Int) ≤ 4294967295 := by have := below_le xs o; omega
      have hb0 : decide ((below xs o : Int) < 0) = false := by simp <;> omega
      clear hm e h hp hx
      generalize below xs o = bl at hc E hb1 hb0
      go_enter Tryz.func95, Tryz.ntmps95
      go_wp2
      go_ret2
      exact ⟨by rw [E.out]; simp, HP.out⟩
    · rw [if_neg hm] at hc
      have e : toM xs o = (0, 9) := by simp [toM, hm]
      have E := Lib.hid e
      clear hm e h hp hx
      go_enter Tryz.func95, Tryz.ntmps95
      go_wp2
      go_ret2
      exact ⟨by rw [E.out]; simp, HP.out⟩
  · have hlt1 : (n : Int) ≤ (o : Int) := by omega
    have e : toM xs o = (0, 9) := by
      have : o ∉ xs := fun hm => by have := hx o hm; omega
      simp [toM, this]
    have E := Lib.hid e
    clear e h hp hx
    go_enter Tryz.func95, Tryz.ntmps95
    go_wp2
    go_ret2
    exact ⟨by rw [E.out]; simp, HP.out⟩
end Go.Proofs.YtapplindfijngaaGreat

/- law11.made: the log and the reference's log of n entries without those of some slots. Conditions: 0 ≤ n ≤ 100, at most 100 slots, which are read. -/
namespace Go.Proofs.YtapplindfijngaaGreat
open Go.RowKit Go.Shelf
set_option maxRecDepth 100000

/-! ### plain -/
def mkE (i : Nat) : Ent := ⟨⟨#[UInt8.ofNat i]⟩, [UInt8.ofNat i, 7], i, i + 1⟩
theorem mkE_ok (i : Nat) : (mkE i).Ok := ⟨by show 0 < 1; omega, by show 1 ≤ 250; omega, by show 2 ≤ 65536; omega, by show (0 : Int) < (i : Int) + 1; omega⟩
def baseR (n : Nat) : List (Ent × Bool) := (List.range n).map (fun i => (mkE i, false))
theorem baseR_succ (n : Nat) : baseR (n + 1) = baseR n ++ [(mkE n, false)] := by simp [baseR, List.range_succ]
theorem baseR_length (n : Nat) : (baseR n).length = n := by simp [baseR]
def rmR (R : List (Ent × Bool)) (s : Nat) : List (Ent × Bool) := match R[s]? with
  | some (x, false) => R.set s (x, true)
  | _ => R
theorem rmR_length (R : List (Ent × Bool)) (s : Nat) : (rmR R s).length = R.length := by
  unfold rmR; split <;> simp
def madeR (n : Nat) (gs : List Nat) : List (Ent × Bool) := gs.foldl rmR (baseR n)
theorem foldl_rmR_length (gs : List Nat) : ∀ R, (gs.foldl rmR R).length = R.length := by
  induction gs with
  | nil => intro R; rfl
  | cons g gs ih => intro R; rw [List.foldl_cons, ih, rmR_length]
theorem madeR_length (n : Nat) (gs : List Nat) : (madeR n gs).length = n := by rw [madeR, foldl_rmR_length, baseR_length]
theorem slotsR_snoc (R : List (Ent × Bool)) (x : Ent) : slotsR (R ++ [(x, false)]) = slotsR R ++ [some x] := by simp [slotsR]
theorem slotsR_set (R : List (Ent × Bool)) (s : Nat) (x : Ent) : slotsR (R.set s (x, true)) = (slotsR R).set s none := by
  unfold slotsR; rw [List.map_set]; rfl
theorem slotsR_get {R : List (Ent × Bool)} {s : Nat} {x : Ent} (h : R[s]? = some (x, false)) : (slotsR R)[s]? = some (some x) := by
  unfold slotsR; rw [List.getElem?_map, h]; rfl
theorem absQ_get {Q : List RQ} {s : Nat} {x : Ent} {g : Bool} (h : (Q.map absQ)[s]? = some (x, g)) : ∃ v, Q[s]? = some (x, v, g) := by
  rw [List.getElem?_map] at h
  cases e : Q[s]? with
  | none => rw [e] at h; cases h
  | some q =>
    rw [e] at h
    obtain ⟨y, v, g'⟩ := q
    cases h
    exact ⟨v, rfl⟩
theorem take_foldl {gs : List Nat} {j s : Nat} (h : gs[j]? = some s) (R : List (Ent × Bool)) : (gs.take (j + 1)).foldl rmR R = rmR ((gs.take j).foldl rmR R) s := by
  rw [List.take_add_one, h, List.foldl_append]; rfl

/-! ### in memory -/
/-- A slice that came in and is read, by its block and its place in it. -/
theorem ReadAt.place {w : World} {a : Option Addr} {n c : Nat} {xs : List Value} (h : ReadAt w (.slice a n c) 1 xs) (hn : 0 < n) :
    ∃ b off, a = some ⟨b, off, none⟩ ∧ b < w.heap.size ∧ ∀ j u, xs[j]? = some u → w.cell? ⟨b, off + j, none⟩ = some u := by
  obtain ⟨a', n', c', he, hl, _, h0, hc⟩ := h
  cases he
  cases a with
  | none => have := h0 rfl; omega
  | some ad =>
    obtain ⟨b, off, spot⟩ := ad
    have hx : 0 < xs.length := by omega
    have h1 := hc _ rfl 0 _ (List.getElem?_eq_getElem hx)
    have hs : spot = none := by
      cases spot with
      | none => rfl
      | some s =>
        simp only [Addr.add, World.cell?] at h1
        split at h1 <;> simp at h1
    subst hs
    refine ⟨b, off, rfl, World.block_lt_of_cell? w ⟨b, off, none⟩ (by simpa [Addr.add] using h1), fun j u hu => ?_⟩
    have := hc _ rfl j u hu
    unfold Addr.add at this
    split at this
    · rename_i hj; subst hj; exact this
    · exact this
theorem RefRow.beside {w w' : World} {S : Nat → Prop} {q : Nat} {K : List (Option Ent)} {aL : Option Addr} {cL : Nat} {aG : Option Addr} {cG : Nat} {Q : List RQ} (h : RefRow w aL cL aG cG Q) (k : LogAt w S q K) (hm : Mod S w w')
    (hA : ∀ g, (Value.slice aL Q.length cL).ownBlock = some g → ¬ S g) : RefRow w' aL cL aG cG Q :=
  ⟨owns_mod h.L hm hA, k.owns hm h.G (by decide) (by decide), fun q hq => k.owns hm (h.vals q hq) (by decide) (by decide), h.ok, h.len⟩
theorem LogAt.notin {w : World} {D : Nat → Prop} {p : Nat} {L : List (Option Ent)} (h : LogAt w D p L) {b : Nat} {cs : Array Value} {T : TypeId} {fz : Nat × Nat} (hb : w.heap[b]? = some (.cells cs T fz)) (h1 : T ≠ 131) (h2 : T ≠ 42) : ¬ D b := fun hd => by
  rcases h.types hd hb with e | e
  · exact h1 e
  · exact h2 e

/-- A log and a reference's log (its value in block b8) of the same slots; the result's block. -/
structure MdInv (w : World) (p b8 : Nat) (R : List (Ent × Bool)) (wr : World) : Prop where
  pu : Pure w wr
  r5 : wr.heap[w.heap.size]? = some (.cells #[.slice none 0 0, .slice none 0 0] 32 (0, 0))
  hb : w.heap.size < b8
  ex : ∃ D aL cL aG cG Q, LogAt wr D p (slotsR R) ∧ (∀ k, D k → w.heap.size < k) ∧ Q.map absQ = R ∧ wr.heap[b8]? = some (.cells #[.slice aL Q.length cL, .slice aG Q.length cG] 32 (0, 0)) ∧ RefRow wr aL cL aG cG Q ∧
    (∀ g, (Value.slice aL Q.length cL).ownBlock = some g → ¬ D g)
theorem MdInv.pure {w : World} {p b8 : Nat} {R : List (Ent × Bool)} {wr wr' : World} (h : MdInv w p b8 R wr) (hq : Pure wr wr') : MdInv w p b8 R wr' := by
  obtain ⟨pu, r5, hb, D, aL, cL, aG, cG, Q, h1, h2, h3, h4, h5, h6⟩ := h
  exact ⟨pu.trans hq, hq.heap (fun h => h) r5, hb, D, aL, cL, aG, cG, Q, h1.pure hq, h2, h3, hq.heap (fun h => h) h4, h5.pure hq, h6⟩
/-- Behind the two calls: the reference's result (rows of Q2, made since W) is stored into b8, the log has turned by a call of its own. -/
theorem md_step {w W w2 w3 : World} {p b8 : Nat} {R2 : List (Ent × Bool)} {D : Nat → Prop} {aL2 aG2 : Option Addr} {cL2 cG2 : Nat} {Q2 : List RQ} {L : List (Option Ent)} {u0 u1 : Value}
    (pu : Pure w W) (r5 : W.heap[w.heap.size]? = some (.cells #[.slice none 0 0, .slice none 0 0] 32 (0, 0))) (hb : w.heap.size < b8) (hl : LogAt W D p L) (hD : ∀ k, D k → w.heap.size < k)
    (r8 : W.heap[b8]? = some (.cells #[u0, u1] 32 (0, 0)))
    (hp : Pure W w2) (hR : RefRow w2 aL2 cL2 aG2 cG2 Q2) (hf : ∀ g, (Value.slice aL2 Q2.length cL2).ownBlock = some g → ¬ D g) (hQ : Q2.map absQ = R2)
    (hw3 : w3 = (w2.setCell ⟨b8, 0, none⟩ (.slice aL2 Q2.length cL2)).setCell ⟨b8, 1, none⟩ (.slice aG2 Q2.length cG2)) :
    LogAt w3 D p L ∧ Mod (fun i => i = b8) W w3 ∧ ∀ D' L' w4, LogAt w4 D' p L' → Mod D w3 w4 → Grew D D' w3 → L' = slotsR R2 → MdInv w p b8 R2 w4 := by
  subst hw3
  have hm : Mod (fun i => i = b8) w2 ((w2.setCell ⟨b8, 0, none⟩ (.slice aL2 Q2.length cL2)).setCell ⟨b8, 1, none⟩ (.slice aG2 Q2.length cG2)) := Mod.set2 _ _ _ _ _
  have hl2 := hl.pure hp
  have r82 := hp.heap (fun h => h) r8
  have hn8 := hl2.notin r82 (by decide) (by decide)
  have hl3 := hl2.frame hm (fun k hk h => hn8 (h ▸ hk)) (fun k _ h cs fz e => by subst h; rw [r82] at e; cases e)
  have hR3 := hR.modT hm (fun i hi _ => by subst hi; exact ⟨_, _, r82⟩)
  have r83 := heap_set12 (v0 := .slice aL2 Q2.length cL2) (v1 := .slice aG2 Q2.length cG2) r82
  have r53 := hm.heap (by omega) (hp.heap (fun h => h) r5)
  refine ⟨hl3, (Mod.of_pure hp).trans hm, fun D' L' w4 h4 hm4 hg e => ?_⟩
  subst e
  refine ⟨((pu.trans hp).then hm (fun i hi h => by omega)).then hm4 (fun i hi h => by have := hD i h; omega), hl3.box hm4 r53 (by decide) (by decide), hb, D', aL2, cL2, aG2, cG2, Q2, h4, fun k hk => ?_, hQ, hl3.box hm4 r83 (by decide) (by decide), hR3.beside hl3 hm4 hf, fun g hg' hd => ?_⟩
  · rcases hg k hk with h | h
    · exact hD k h
    · have := hm.size; have := hp.size; have := pu.size; have := lt_of_block r5; omega
  · rcases hg g hd with h | h
    · exact hf g hg' h
    · have := owns_lt hR3.L hg'; omega
/-- The reference's call first, then the log's, then the reference's result is stored into b8. -/
theorem md_step2 {w W2 w3 W4 W5 : World} {p b8 : Nat} {R2 : List (Ent × Bool)} {D D' : Nat → Prop} {aL2 aG2 : Option Addr} {cL2 cG2 : Nat} {Q2 : List RQ} {L L' : List (Option Ent)} {u0 u1 : Value}
    (pu : Pure w W2) (r5 : W2.heap[w.heap.size]? = some (.cells #[.slice none 0 0, .slice none 0 0] 32 (0, 0))) (hb : w.heap.size < b8) (hl : LogAt W2 D p L) (hD : ∀ k, D k → w.heap.size < k)
    (r8 : W2.heap[b8]? = some (.cells #[u0, u1] 32 (0, 0)))
    (hR : RefRow W2 aL2 cL2 aG2 cG2 Q2) (hf : ∀ g, (Value.slice aL2 Q2.length cL2).ownBlock = some g → ¬ D g) (hQ : Q2.map absQ = R2)
    (hm3 : Mod D W2 w3) (h3 : LogAt w3 D' p L') (hg : Grew D D' W2) (e : L' = slotsR R2) (hp4 : Pure w3 W4)
    (hw5 : W5 = (W4.setCell ⟨b8, 0, none⟩ (.slice aL2 Q2.length cL2)).setCell ⟨b8, 1, none⟩ (.slice aG2 Q2.length cG2)) :
    MdInv w p b8 R2 W5 := by
  subst hw5 e
  have hm5 : Mod (fun i => i = b8) W4 ((W4.setCell ⟨b8, 0, none⟩ (.slice aL2 Q2.length cL2)).setCell ⟨b8, 1, none⟩ (.slice aG2 Q2.length cG2)) := Mod.set2 _ _ _ _ _
  have r84 := hp4.heap (fun h => h) (hl.box hm3 r8 (by decide) (by decide))
  have r54 := hp4.heap (fun h => h) (hl.box hm3 r5 (by decide) (by decide))
  have hR4 := (hR.beside hl hm3 hf).pure hp4
  have h4 := h3.pure hp4
  have hn8 := h4.notin r84 (by decide) (by decide)
  refine ⟨((pu.then hm3 (fun i hi h => by have := hD i h; omega)).trans hp4).then hm5 (fun i hi h => by omega), hm5.heap (by omega) r54, hb, D', aL2, cL2, aG2, cG2, Q2,
    h4.frame hm5 (fun k hk h => hn8 (h ▸ hk)) (fun k _ h cs fz e => by subst h; rw [r84] at e; cases e), fun k hk => ?_, hQ, heap_set12 r84, hR4.modT hm5 (fun i hi _ => by subst hi; exact ⟨_, _, r84⟩), fun g hg' hd => ?_⟩
  · rcases hg k hk with h | h
    · exact hD k h
    · have := lt_of_block r5; omega
  · rcases hg g hd with h | h
    · exact hf g hg' h
    · have := owns_lt hR.L hg'; omega
theorem rmR_hit {R : List (Ent × Bool)} {s : Nat} {x : Ent} (h : R[s]? = some (x, false)) : rmR R s = R.set s (x, true) := by unfold rmR; rw [h]
theorem rmR_miss {R : List (Ent × Bool)} {s : Nat} (h : ∀ x, R[s]? ≠ some (x, false)) : rmR R s = R := by
  unfold rmR; split
  · rename_i x e; exact absurd e (h x)
  · rfl
theorem hasQ_miss {Q : List RQ} {R : List (Ent × Bool)} (hQ : Q.map absQ = R) {s : Nat} (h : ∀ x, R[s]? ≠ some (x, false)) : hasQ Q s = false := by
  unfold hasQ
  cases e : Q[s]? with
  | none => rfl
  | some q =>
    obtain ⟨x, v, g⟩ := q
    cases g
    · exact absurd (by rw [← hQ, List.getElem?_map, e]; rfl) (h x)
    · rfl
theorem slotsR_miss {R : List (Ent × Bool)} {s : Nat} (h : ∀ x, R[s]? ≠ some (x, false)) : ∀ x, (slotsR R)[s]? ≠ some (some x) := by
  intro x hx
  unfold slotsR at hx
  rw [List.getElem?_map] at hx
  cases e : R[s]? with
  | none => rw [e] at hx; cases hx
  | some q =>
    obtain ⟨y, g⟩ := q
    rw [e] at hx
    cases g
    · exact h y e
    · cases hx
end Go.Proofs.YtapplindfijngaaGreat

/- The reference of layer 10: its dictionary (a log and the lanes of an index); New, At, sum. -/
namespace Go.Proofs.YtapplindfijngaaGreat
open Go.RowKit Go.Shelf
set_option maxRecDepth 100000

/-- Where the rows of a reference's dictionary lie. -/
structure RA where
  aL : Option Addr
  cL : Nat
  aG : Option Addr
  cG : Nat
  aC : Option Addr
  cC : Nat
  aS : Option Addr
  cS : Nat
abbrev rdV (seed : Nat) (same : Bool) (r : RA) (n m : Nat) : Value := .agg #[.int .u64 seed, .bool same, .slice r.aL n r.cL, .slice r.aG n r.cG, .slice r.aC m r.cC, .slice r.aS m r.cS]
abbrev rdO (seed : Nat) (same : Bool) (r : RA) (n m : Nat) : Obj := .cells #[.int .u64 seed, .bool same, .slice r.aL n r.cL, .slice r.aG n r.cG, .slice r.aC m r.cC, .slice r.aS m r.cS] 38 (0, 0)
structure RefD (W : World) (r : RA) (Q : List RQ) (Gs : List Grp) : Prop where
  l : RefRow W r.aL r.cL r.aG r.cG Q
  x : RefI W r.aC r.cC r.aS r.cS Gs
theorem RefD.pure {W W' : World} {r : RA} {Q : List RQ} {Gs : List Grp} (h : RefD W r Q Gs) (hp : Pure W W') : RefD W' r Q Gs := ⟨h.l.pure hp, h.x.pure hp⟩
/-- Behind stores into the six cells of a block. -/
theorem fin6 {X Y : World} {b : Nat} {u0 u1 u2 u3 u4 u5 v0 v1 v2 v3 v4 v5 : Value} {T : TypeId} (h : X.heap[b]? = some (.cells #[u0, u1, u2, u3, u4, u5] T (0, 0)))
    (hY : (((((X.setCell ⟨b, 0, none⟩ v0).setCell ⟨b, 1, none⟩ v1).setCell ⟨b, 2, none⟩ v2).setCell ⟨b, 3, none⟩ v3).setCell ⟨b, 4, none⟩ v4).setCell ⟨b, 5, none⟩ v5 = Y) : Mod (fun k => k = b) X Y ∧ Y.heap[b]? = some (.cells #[v0, v1, v2, v3, v4, v5] T (0, 0)) := by
  subst hY
  refine ⟨((((((Mod.set1 b 0 v0).trans (Mod.set1 b 1 v1)).trans (Mod.set1 b 2 v2)).trans (Mod.set1 b 3 v3)).trans (Mod.set1 b 4 v4)).trans (Mod.set1 b 5 v5)), ?_⟩
  have h1 := heap_set1 (j := 0) (v := v0) h
  have h2 := heap_set1 (j := 1) (v := v1) h1
  have h3 := heap_set1 (j := 2) (v := v2) h2
  have h4 := heap_set1 (j := 3) (v := v3) h3
  have h5 := heap_set1 (j := 4) (v := v4) h4
  have h6 := heap_set1 (j := 5) (v := v5) h5
  simpa using h6
def rNewDPost (w : World) (seed : Nat) (same : Bool) (e : Ending) (w' : World) : Prop :=
  ∃ r : RA, e = .returned (rdV seed same r 0 (8 * (newG 1).length)) ∧ RefD w' r [] (newG 1) ∧ r.aL = none ∧ Pure w w'
set_option maxHeartbeats 1000000 in
theorem rdNew_ok (seed : Nat) (same : Bool) (w : World) : Calls Tryz.prog 10 #[.int .u64 seed, .bool same] w (rNewDPost w seed same) := by
  have hp0 : Pure w (w.alloc (.cells #[.int .u64 0, .bool false, .slice none 0 0, .slice none 0 0, .slice none 0 0, .slice none 0 0] 38)) := (Mod.refl _ w).alloc _
  have h4 := heap_new (w := w) (o := .cells #[.int .u64 0, .bool false, .slice none 0 0, .slice none 0 0, .slice none 0 0, .slice none 0 0] 38 (0, 0)) rfl
  have HP := Lib.hid hp0
  have HNw := Lib.hid (fun W => rNew_ok 1 ⟨0, by decide, rfl⟩ W)
  unfold refI at HNw
  obtain ⟨m, hm⟩ : ∃ m, 8 * (newG 1).length = m := ⟨_, rfl⟩
  unfold rNewDPost
  rw [hm] at HNw ⊢
  have HM := Lib.hid hm
  clear hp0 hm
  go_enter Tryz.func10, Tryz.ntmps10
  go_upto_region 1 with fail
  generalize w.alloc (.cells #[.int .u64 0, .bool false, .slice none 0 0, .slice none 0 0, .slice none 0 0, .slice none 0 0] 38) = W1 at *
  obtain ⟨b4, hb4⟩ : ∃ b, w.heap.size = b := ⟨_, rfl⟩
  rw [hb4] at h4 ⊢
  have HB := Lib.hid hb4
  clear hb4
  go_upto_region 2 with (go_at_call 47; refine Calls.mono (HNw.out _) ?_; rintro e w2 ⟨aC, cC, aS, cS, rfl, hri, hp2, _⟩)
  have hal : Pure w2 (w2.alloc (.cells #[.slice aC m cC, .slice aS m cS] 36)) := (Mod.refl _ w2).alloc _
  have h5 := heap_new (w := w2) (o := .cells #[.slice aC m cC, .slice aS m cS] 36 (0, 0)) rfl
  have h4b := (hp2.trans hal).heap (fun h => h) h4
  have HP3 := Lib.hid (HP.out.trans (hp2.trans hal))
  have HRI := Lib.hid (hri.pure hal)
  clear hp2 hri hal h4
  generalize w2.alloc (.cells #[.slice aC m cC, .slice aS m cS] 36) = W3 at *
  generalize w2.heap.size = b5 at *
  have h5_0 := cell_of_row _ _ 0 _ _ _ h5; have h5_1 := cell_of_row _ _ 1 _ _ _ h5; have h5_f := (fun j => frozen_of_row _ _ j _ _ h5); have h5_l := lt_of_block h5; simp at h5_0 h5_1; have H_h5 := Lib.hid h5; clear h5
  have h4b_0 := cell_of_row _ _ 0 _ _ _ h4b; have h4b_1 := cell_of_row _ _ 1 _ _ _ h4b; have h4b_2 := cell_of_row _ _ 2 _ _ _ h4b; have h4b_3 := cell_of_row _ _ 3 _ _ _ h4b; have h4b_4 := cell_of_row _ _ 4 _ _ _ h4b; have h4b_5 := cell_of_row _ _ 5 _ _ _ h4b; have h4b_f := (fun j => frozen_of_row _ _ j _ _ h4b); have h4b_l := lt_of_block h4b; simp at h4b_0 h4b_1 h4b_2 h4b_3 h4b_4 h4b_5; have H_h4b := Lib.hid h4b; clear h4b
  go_wp2
  obtain ⟨Y, hY⟩ : ∃ Y, (((((W3.setCell ⟨b4, 0, none⟩ (.int .u64 seed)).setCell ⟨b4, 1, none⟩ (.bool same)).setCell ⟨b4, 2, none⟩ (.slice none 0 0)).setCell ⟨b4, 3, none⟩ (.slice none 0 0)).setCell ⟨b4, 4, none⟩ (.slice aC m cC)).setCell ⟨b4, 5, none⟩ (.slice aS m cS) = Y := ⟨_, rfl⟩
  obtain ⟨g1, g2⟩ := fin6 H_h4b.out hY
  rw [hY]
  have x0 := cell_of_row _ _ 0 _ _ _ g2; have x1 := cell_of_row _ _ 1 _ _ _ g2; have x2 := cell_of_row _ _ 2 _ _ _ g2; have x3 := cell_of_row _ _ 3 _ _ _ g2; have x4 := cell_of_row _ _ 4 _ _ _ g2; have x5 := cell_of_row _ _ 5 _ _ _ g2
  simp at x0 x1 x2 x3 x4 x5
  refine bodyPost_ret (v := rdV seed same ⟨none, 0, none, 0, aC, cC, aS, cS⟩ 0 m) (by simp [results, Tryz.results10, go_sem, x0, x1, x2, x3, x4, x5]) rfl ⟨⟨none, 0, none, 0, aC, cC, aS, cS⟩, rfl, ⟨RefRow.nil _, HRI.out.modT g1 (fun i hi _ => by subst hi; exact ⟨_, _, _, H_h4b.out, by decide, by decide⟩)⟩, rfl, HP3.out.then g1 (fun i hi e => by have := HB.out; omega)⟩
/-- The slot number of a key, or -1. -/
def atV (L : List (Option Ent)) (key : ByteArray) : Int := match findK L key with
  | some s => (s : Int)
  | none => -1
theorem RefRow.ent {w : World} {aL : Option Addr} {cL : Nat} {aG : Option Addr} {cG : Nat} {Q : List RQ} (h : RefRow w aL cL aG cG Q) {s : Nat} {q : RQ} (he : Q[s]? = some q) :
    ∃ gL gG, aL = some ⟨gL, 0, none⟩ ∧ aG = some ⟨gG, 0, none⟩ ∧ w.cell? ⟨gL, s * 4, none⟩ = some (.string q.1.key) ∧ w.cell? ⟨gG, s, none⟩ = some (.bool q.2.2) := by
  have hlt : s < Q.length := (List.getElem?_eq_some_iff.1 he).1
  obtain ⟨g, _, hsv, _, hg, hc, hf, _⟩ := owns_at h.L (by omega)
  obtain ⟨g2, _, hsv2, _, hg2, hc2, hf2, _⟩ := owns_at h.G (by omega)
  cases hsv; cases hsv2
  refine ⟨g, g2, rfl, rfl, ?_, hc2 s _ (by rw [List.getElem?_map, he]; rfl)⟩
  have := hc (s * 4 + 0) (.string q.1.key) (by rw [flat_get cellsQ 4 cellsQ_length 0 (by decide), he]; rfl)
  exact this
set_option maxHeartbeats 1000000 in
theorem rdsum_ok {w : World} {r : RA} {Q : List RQ} {Gs : List Grp} (h : RefD w r Q Gs) (seed : Nat) (same : Bool) (hs : seed < 18446744073709551616) {s m : Nat} {q : RQ} (he : Q[s]? = some q) :
    Calls Tryz.prog 66 #[rdV seed same r Q.length m, .int .u32 s] w fun e w' => e = .returned (.int .u64 (sumS seed same q.1.key : Nat)) ∧ Pure w w' := by
  obtain ⟨aL, cL, aG, cG, aC, cC, aS, cS⟩ := r
  have hlt : s < Q.length := (List.getElem?_eq_some_iff.1 he).1
  have hlen := h.l.len
  have hk1 := (h.l.ok q (List.mem_of_getElem? he)).k1
  obtain ⟨gL, gG, e1, e2, zk, _⟩ := h.l.ent he
  dsimp only at e1 e2 ⊢
  subst e1 e2
  have HS := Lib.hid (fun W => rSum_ok seed same hs q.1.key (by omega) W)
  generalize sumS seed same q.1.key = res at *
  generalize q.1.key = key at *
  have hp0 : Pure w (w.alloc (.cells #[.int .u64 seed, .bool same, .slice (some ⟨gL, 0, none⟩) Q.length cL, .slice (some ⟨gG, 0, none⟩) Q.length cG, .slice aC m cC, .slice aS m cS] 38)) := (Mod.refl _ w).alloc _
  have h2 := heap_new (w := w) (o := .cells #[.int .u64 seed, .bool same, .slice (some ⟨gL, 0, none⟩) Q.length cL, .slice (some ⟨gG, 0, none⟩) Q.length cG, .slice aC m cC, .slice aS m cS] 38 (0, 0)) rfl
  have zk1 := hp0.cell (fun h => h) zk
  have HP := Lib.hid hp0
  have hlt' : (s : Int) < (Q.length : Int) := by omega
  clear h he hp0 zk hk1
  go_enter Tryz.func66, Tryz.ntmps66
  go_upto_region 1 with fail
  generalize w.alloc (.cells #[.int .u64 seed, .bool same, .slice (some ⟨gL, 0, none⟩) Q.length cL, .slice (some ⟨gG, 0, none⟩) Q.length cG, .slice aC m cC, .slice aS m cS] 38) = W1 at *
  obtain ⟨b2, hb2⟩ : ∃ b, w.heap.size = b := ⟨_, rfl⟩
  rw [hb2] at h2 ⊢
  clear hb2
  have h2_0 := cell_of_row _ _ 0 _ _ _ h2; have h2_1 := cell_of_row _ _ 1 _ _ _ h2; have h2_2 := cell_of_row _ _ 2 _ _ _ h2; have h2_3 := cell_of_row _ _ 3 _ _ _ h2; have h2_4 := cell_of_row _ _ 4 _ _ _ h2; have h2_5 := cell_of_row _ _ 5 _ _ _ h2; have h2_f := (fun j => frozen_of_row _ _ j _ _ h2); have h2_l := lt_of_block h2; simp at h2_0 h2_1 h2_2 h2_3 h2_4 h2_5; have H_h2 := Lib.hid h2; clear h2
  have s0 : (0 : Int) ≤ (s : Int) := by omega
  go_region_held3 (fun w' => w'.cell? ⟨b2, 0, none⟩ = some (.int .u64 seed) ∧ w'.cell? ⟨b2, 1, none⟩ = some (.bool same) ∧ w'.cell? ⟨b2, 2, none⟩ = some (.slice (some ⟨gL, 0, none⟩) Q.length cL) ∧ w'.cell? ⟨gL, s * 4, none⟩ = some (.string key))
    (exact ⟨h2_0, h2_1, h2_2, zk1⟩)
    (first
      | (go_at_call 122; refine Calls.mono (HS.out _) ?_; rintro e w' ⟨rfl, rfl⟩))
  all_goals
    try go_wp2
    go_ret
    exact ⟨rfl, HP.out.drew⟩
set_option maxHeartbeats 1000000 in
theorem rdAt_ok {w : World} {r : RA} {Q : List RQ} {Gs : List Grp} (h : RefD w r Q Gs) (seed : Nat) (same : Bool) (m : Nat) (key : ByteArray) :
    Calls Tryz.prog 54 #[rdV seed same r Q.length m, .string key] w fun e w' => e = .returned (.int .i64 (atV (slotsR (Q.map absQ)) key)) ∧ Pure w w' := by
  obtain ⟨aL, cL, aG, cG, aC, cC, aS, cS⟩ := r
  have hlen := h.l.len
  have hp0 : Pure w (w.alloc (.cells #[.int .u64 seed, .bool same, .slice aL Q.length cL, .slice aG Q.length cG, .slice aC m cC, .slice aS m cS] 38)) := (Mod.refl _ w).alloc _
  have h2 := heap_new (w := w) (o := .cells #[.int .u64 seed, .bool same, .slice aL Q.length cL, .slice aG Q.length cG, .slice aC m cC, .slice aS m cS] 38 (0, 0)) rfl
  have HR := Lib.hid (h.l.pure hp0)
  dsimp only at HR
  have HP := Lib.hid hp0
  obtain ⟨n, hn⟩ : ∃ n, Q.length = n := ⟨_, rfl⟩
  rw [hn] at h2 hp0 hlen ⊢
  have HN := Lib.hid hn
  obtain ⟨res, hres⟩ : ∃ res, atV (slotsR (Q.map absQ)) key = res := ⟨_, rfl⟩
  rw [hres]
  have HRes := Lib.hid hres
  have wn : IntKind.i64.wrap (n : Int) = n := IntWalk.i64_in _ (by omega)
  rw [hn] at HR HP
  clear h hp0 hn hres
  go_enter Tryz.func54, Tryz.ntmps54
  go_upto_region 1 with fail
  generalize w.alloc (.cells #[.int .u64 seed, .bool same, .slice aL n cL, .slice aG n cG, .slice aC m cC, .slice aS m cS] 38) = W1 at *
  obtain ⟨b2, hb2⟩ : ∃ b, w.heap.size = b := ⟨_, rfl⟩
  rw [hb2] at h2 ⊢
  clear hb2
  have h2_0 := cell_of_row _ _ 0 _ _ _ h2; have h2_1 := cell_of_row _ _ 1 _ _ _ h2; have h2_2 := cell_of_row _ _ 2 _ _ _ h2; have h2_3 := cell_of_row _ _ 3 _ _ _ h2; have h2_4 := cell_of_row _ _ 4 _ _ _ h2; have h2_5 := cell_of_row _ _ 5 _ _ _ h2; have h2_f := (fun j => frozen_of_row _ _ j _ _ h2); have h2_l := lt_of_block h2; simp at h2_0 h2_1 h2_2 h2_3 h2_4 h2_5; have H_h2 := Lib.hid h2; clear h2
  go_upto_region 2 with fail
  go_loopw [5] (fun v5 wr => ∃ i, v5 = .int .i64 (i : Nat) ∧ i ≤ n ∧ (∀ (j : Nat) (o : Option Ent), j < i → (slotsR (Q.map absQ))[j]? = some o → isK key o = false) ∧ wr = W1) (fun v5 _ => n - (intOf v5).toNat)
  case atStart => exact ⟨0, rfl, Nat.zero_le _, fun j o hj => by omega, rfl⟩
  case round =>
    obtain ⟨i, rfl, hi, hno, rfl⟩ := hrel
    have HNO := Lib.hid hno
    clear hno
    by_cases hlt : i < n
    · have hlt' : (i : Int) < (n : Int) := by omega
      have i0 : (0 : Int) ≤ (i : Int) := by omega
      have wi : IntKind.i64.wrap ((i : Int) + 1) = (i : Int) + 1 := IntWalk.i64_in _ (by omega)
      obtain ⟨q, hq⟩ : ∃ q, Q[i]? = some q := ⟨_, List.getElem?_eq_getElem (by rw [HN.out]; exact hlt)⟩
      have hL : (slotsR (Q.map absQ))[i]? = some (if q.2.2 then none else some q.1) := by unfold slotsR; rw [List.getElem?_map, List.getElem?_map, hq]; rfl
      obtain ⟨x, v, g⟩ := q
      obtain ⟨gL, gG, e1, e2, zk, zg⟩ := HR.out.ent hq
      subst e1 e2
      dsimp only at zk zg hL
      obtain ⟨kx, hkx⟩ : ∃ kx, x.key = kx := ⟨_, rfl⟩
      rw [hkx] at zk
      have HKX := Lib.hid hkx; have HL := Lib.hid hL
      clear hkx hL hq
      have hstep : ∀ o, (slotsR (Q.map absQ))[i]? = some o → isK key o = false → ∀ (j : Nat) (o : Option Ent), j < i + 1 → (slotsR (Q.map absQ))[j]? = some o → isK key o = false := fun o ho hf j o' hj ho' => by
        rcases Nat.lt_or_ge j i with h1 | h1
        · exact HNO.out j o' h1 ho'
        · have : j = i := by omega
          subst this
          rw [ho] at ho'; cases ho'; exact hf
      have HST := Lib.hid hstep
      clear hstep
      cases g with
      | true =>
        go_wp2
        go_roundw
        case rel => exact ⟨i + 1, by go_num, hlt, HST.out none HL.out rfl, trivial⟩
        case measure => simp [intOf]; omega
      | false =>
        by_cases hk : kx = key
        · subst hk
          have hkk : (kx.toList == kx.toList) = true := by simp
          go_wp2
          go_ret
          refine ⟨?_, HP.out⟩
          rw [← HRes.out]
          have : findK (slotsR (Q.map absQ)) kx = some i := by
            unfold findK
            obtain ⟨hil, hie⟩ := List.getElem?_eq_some_iff.1 HL.out
            refine List.findIdx?_eq_some_iff_getElem.2 ⟨hil, by rw [hie]; exact isK_iff.2 ⟨x, rfl, HKX.out⟩, fun j hj => ?_⟩
            have := HNO.out j _ hj (List.getElem?_eq_getElem (by omega))
            rw [this]; simp
          unfold atV
          rw [this]
          rfl
        · have hkb : (kx == key) = false := by
            cases e : (kx == key) with
            | false => rfl
            | true => exact absurd ((ba_beq _ _).1 e) hk
          have hkk : (kx.toList == key.toList) = false := by rw [ba_list]; exact hkb
          go_wp2
          go_roundw
          case rel => exact ⟨i + 1, by go_num, hlt, HST.out (some x) HL.out (by
            cases e : isK key (some x) with
            | false => rfl
            | true =>
              obtain ⟨y, h1, h2⟩ := isK_iff.1 e
              cases h1
              rw [HKX.out] at h2
              exact absurd h2 hk), trivial⟩
          case measure => simp [intOf]; omega
    · have hlt' : ¬ ((i : Int) < (n : Int)) := by omega
      go_wp2
      go_ret
      refine ⟨?_, HP.out⟩
      rw [← HRes.out]
      have : findK (slotsR (Q.map absQ)) key = none := by
        unfold findK
        refine List.findIdx?_eq_none_iff.2 (fun o ho => ?_)
        obtain ⟨j, hj⟩ := List.getElem?_of_mem ho
        have hjl := (List.getElem?_eq_some_iff.1 hj).1
        rw [slotsR_length, List.length_map, HN.out] at hjl
        exact HNO.out j o (by omega) hj
      unfold atV
      rw [this]
      rfl
end Go.Proofs.YtapplindfijngaaGreat

/- Plain: a rehash lane by lane; what an insertion into the lanes gives, full or not. -/
namespace Go.Proofs.YtapplindfijngaaGreat
open Go.RowKit Go.Shelf
set_option maxRecDepth 100000

def fpF (p : Nat × Nat) : Option Nat := if p.1 < 128 then some p.2 else none
theorem fp_idx : ∀ l : List (Nat × Nat), l.filterMap fpF = ((List.range l.length).filter (fun j => (l.map (fun p => decide (p.1 < 128))).getD j false)).map (fun j => (l.map (·.2)).getD j 0)
  | [] => rfl
  | p :: l => by
    rw [List.filterMap_cons, List.length_cons, List.range_succ_eq_map, List.filter_cons, List.filter_map]
    have ih := fp_idx l
    have e1 : (fun j => ((p :: l).map (fun p => decide (p.1 < 128))).getD j false) ∘ Nat.succ = fun j => (l.map (fun p => decide (p.1 < 128))).getD j false := by funext j; simp
    have e2 : (fun j => ((p :: l).map (·.2)).getD j 0) ∘ Nat.succ = fun j => (l.map (·.2)).getD j 0 := by funext j; simp
    rw [e1]
    by_cases h : p.1 < 128
    · simp only [fpF, h, if_true, List.map_cons, List.getD_cons_zero, decide_true]
      rw [List.map_map, ih]
      rfl
    · simp only [fpF, h, if_false, List.map_cons, List.getD_cons_zero, decide_false]
      rw [if_neg (by decide), List.map_map, ih]
      rfl
theorem fp_group {c : Grp} (h : GrpOk c) : (c.1.zip c.2).filterMap fpF = fullS c := by
  rw [fp_idx]
  have hl : (c.1.zip c.2).length = 8 := by rw [List.length_zip, h.ctl.1, h.len]; rfl
  have e1 : (c.1.zip c.2).map (fun p => decide (p.1 < 128)) = c.1.map (fun x => decide (x < 128)) := by
    have : (c.1.zip c.2).map Prod.fst = c.1 := List.map_fst_zip (by rw [h.ctl.1, h.len]; exact Nat.le_refl _)
    rw [← this, List.map_map]
    rw [this]
    rfl
  have e2 : (c.1.zip c.2).map (fun x => x.2) = c.2 := List.map_snd_zip (by rw [h.ctl.1, h.len]; exact Nat.le_refl _)
  rw [hl, e1, e2]
  unfold fullS fullIn
  rw [lanes_mask (by simp [h.ctl.1])]
theorem fp_all {Gs : List Grp} : (∀ c ∈ Gs, GrpOk c) → ((laneC Gs).zip (laneS Gs)).filterMap fpF = Gs.flatMap fullS := by
  induction Gs with
  | nil => intro _; rfl
  | cons c Gs ih =>
    intro h
    have hc := h c (by simp)
    have e : (laneC (c :: Gs)).zip (laneS (c :: Gs)) = c.1.zip c.2 ++ (laneC Gs).zip (laneS Gs) := by
      unfold laneC laneS
      rw [List.flatMap_cons, List.flatMap_cons, List.zip_append (by rw [hc.ctl.1, hc.len])]
    rw [e, List.filterMap_append, ih (fun c hc => h c (by simp [hc])), fp_group hc, List.flatMap_cons]
/-- What is put in, up to a lane. -/
def rehTo (H : Nat → Nat) (g : Nat) (Gs : List Grp) (k : Nat) : List Grp := ((((laneC Gs).zip (laneS Gs)).take k).filterMap fpF).foldl (insD H) (newG g)
theorem rehTo_zero (H : Nat → Nat) (g : Nat) (Gs : List Grp) : rehTo H g Gs 0 = newG g := rfl
theorem rehTo_all {H : Nat → Nat} {g : Nat} {Gs : List Grp} (h : IxOk Gs) : rehTo H g Gs (8 * Gs.length) = rehM H g Gs := by
  unfold rehTo rehM
  rw [List.take_of_length_le (by rw [List.length_zip, laneC_length h, laneS_length h]; omega), fp_all h.grp]
theorem rehTo_succ {H : Nat → Nat} {g : Nat} {Gs : List Grp} {k c s : Nat} (hc : (laneC Gs)[k]? = some c) (hs : (laneS Gs)[k]? = some s) : rehTo H g Gs (k + 1) = if c < 128 then insD H (rehTo H g Gs k) s else rehTo H g Gs k := by
  have hz : ((laneC Gs).zip (laneS Gs))[k]? = some (c, s) := by rw [List.getElem?_zip_eq_some]; exact ⟨hc, hs⟩
  unfold rehTo
  rw [List.take_add_one, hz, List.filterMap_append, List.foldl_append]
  by_cases h : c < 128
  · rw [if_pos h]
    simp [fpF, h]
  · rw [if_neg h]
    simp [fpF, h]
theorem rehTo_ok {H : Nat → Nat} {g : Nat} {Gs : List Grp} (hg : Pow g) (h : IxOk Gs) (k : Nat) : IxOk (rehTo H g Gs k) ∧ (rehTo H g Gs k).length = g := by
  unfold rehTo
  have hl : ∀ s ∈ ((((laneC Gs).zip (laneS Gs)).take k).filterMap fpF), s ≤ 4294967295 := by
    intro s hs
    obtain ⟨p, hp, e⟩ := List.mem_filterMap.1 hs
    have hp2 := (List.of_mem_zip (List.mem_of_mem_take hp)).2
    unfold fpF at e
    split at e
    · cases e; exact laneS_lt h _ hp2
    · cases e
  generalize ((((laneC Gs).zip (laneS Gs)).take k).filterMap fpF) = L at hl
  have : ∀ (L : List Nat) (o : List Grp), IxOk o → (∀ s ∈ L, s ≤ 4294967295) → IxOk (L.foldl (insD H) o) ∧ (L.foldl (insD H) o).length = o.length := by
    intro L
    induction L with
    | nil => intro o ho _; exact ⟨ho, rfl⟩
    | cons s L ih =>
      intro o ho hL
      obtain ⟨h1, h2⟩ := insD_ok (H := H) ho (hL s (by simp))
      obtain ⟨k1, k2⟩ := ih _ h1 (fun x hx => hL x (by simp [hx]))
      exact ⟨k1, k2.trans h2⟩
  obtain ⟨k1, k2⟩ := this L (newG g) (newG_ok hg) hl
  exact ⟨k1, k2.trans (newG_length g)⟩
theorem ins_anyR {H : Nat → Nat} {w w' : World} {aC : Option Addr} {cC : Nat} {aS : Option Addr} {cS : Nat} {o : List Grp} {s hh : Nat} {e : Ending} (hh0 : H s = hh) (h : rInsPost w aC cC aS cS o hh s e w') : ∃ aC' cC' aS' cS' z, e = .returned (.tuple #[refI aC' cC' aS' cS' (insD H o s).length, .int .i64 z]) ∧ RefI w' aC' cC' aS' cS' (insD H o s) ∧ Pure w w' := by
  subst hh0
  obtain ⟨hp, h⟩ := h
  unfold insD
  cases hm : insM o (H s) s with
  | none => rw [hm] at h; exact ⟨_, _, _, _, _, h.1, h.2, hp⟩
  | some o' =>
    rw [hm] at h
    obtain ⟨a, b, c, d, e1, e2⟩ := h
    exact ⟨a, b, c, d, _, e1, e2, hp⟩
theorem lane_full {Gs : List Grp} (h : IxOk Gs) {k c s : Nat} (hc : (laneC Gs)[k]? = some c) (hs : (laneS Gs)[k]? = some s) (h128 : c < 128) : s ∈ Gs.flatMap fullS := by
  rw [← fp_all h.grp]
  refine List.mem_filterMap.2 ⟨(c, s), List.mem_of_getElem? (i := k) (by rw [List.getElem?_zip_eq_some]; exact ⟨hc, hs⟩), ?_⟩
  unfold fpF
  rw [if_pos h128]
end Go.Proofs.YtapplindfijngaaGreat
