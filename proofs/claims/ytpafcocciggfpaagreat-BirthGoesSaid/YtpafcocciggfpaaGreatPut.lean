/- Putting something into a lane of the index: the counts, the memory. -/
import Derived.Test.YtpafcocciggfpaaGreatIx
namespace Go.Proofs.YtpafcocciggfpaaGreat
open Go.RowKit Go.Shelf
set_option maxRecDepth 100000

def putG (j t s : Nat) (c : Grp) : Grp := (c.1.set j t, c.2.set j s)
def setG (Gs : List Grp) (i j t s : Nat) : List Grp := Gs.modify i (putG j t s)
theorem setG_length (Gs : List Grp) (i j t s : Nat) : (setG Gs i j t s).length = Gs.length := by simp [setG]
theorem grpAt_setG {Gs : List Grp} {i j t s : Nat} (hi : i < Gs.length) (k : Nat) : grpAt (setG Gs i j t s) k = if k = i then putG j t s (grpAt Gs i) else grpAt Gs k := by
  unfold grpAt setG
  rw [List.getD_eq_getElem?_getD, List.getElem?_modify]
  by_cases h : k = i
  · subst h
    rw [if_pos rfl, List.getD_eq_getElem?_getD, List.getElem?_eq_getElem hi]
    simp
  · rw [if_neg h, List.getD_eq_getElem?_getD]
    have : ¬ i = k := fun e => h e.symm
    simp [this]
theorem GrpOk.put {c : Grp} (h : GrpOk c) {j t s : Nat} (ht : t < 128 ∨ t = 128 ∨ t = 254) (hs : s ≤ 4294967295) : GrpOk (putG j t s c) := by
  refine ⟨⟨by simp [putG, h.ctl.1], fun x hx => ?_⟩, by simp [putG, h.len], fun x hx => ?_⟩
  · rcases List.mem_or_eq_of_mem_set hx with h' | rfl
    · exact h.ctl.2 x h'
    · exact ht
  · rcases List.mem_or_eq_of_mem_set hx with h' | rfl
    · exact h.lt x h'
    · exact hs
theorem IxOk.put {Gs : List Grp} (h : IxOk Gs) {i j t s : Nat} (ht : t < 128 ∨ t = 128 ∨ t = 254) (hs : s ≤ 4294967295) : IxOk (setG Gs i j t s) := by
  refine ⟨by rw [setG_length]; exact h.pow, fun c hc => ?_⟩
  obtain ⟨k, hk⟩ := List.getElem?_of_mem hc
  unfold setG at hk
  rw [List.getElem?_modify] at hk
  cases hg : Gs[k]? with
  | none => rw [hg] at hk; simp at hk
  | some c0 =>
    have h0 := h.grp c0 (List.mem_of_getElem? hg)
    rw [hg] at hk
    by_cases e : i = k
    · simp [e] at hk; rw [← hk]; exact h0.put ht hs
    · simp [e] at hk; rw [← hk]; exact h0
theorem sum_modify {α : Type} (F : α → Nat) (g : α → α) : ∀ (L : List α) (i : Nat) (a : α), L[i]? = some a → ((L.modify i g).map F).sum + F a = (L.map F).sum + F (g a)
  | [], _, _, h => by simp at h
  | b :: L, 0, a, h => by simp at h; subst h; simp; omega
  | b :: L, i + 1, a, h => by
    have := sum_modify F g L i a (by simpa using h)
    simp only [List.modify_succ_cons, List.map_cons, List.sum_cons]
    omega
theorem countP_set' (p : Nat → Bool) (t : Nat) : ∀ (l : List Nat) (j a : Nat), l[j]? = some a → (l.set j t).countP p + (p a).toNat = l.countP p + (p t).toNat
  | [], _, _, h => by simp at h
  | b :: l, 0, a, h => by
    simp at h; subst h
    simp only [List.set_cons_zero, List.countP_cons]
    cases p b <;> cases p t <;> simp
  | b :: l, j + 1, a, h => by
    have := countP_set' p t l j a (by simpa using h)
    simp only [List.set_cons_succ, List.countP_cons]
    omega
theorem usedN_put {Gs : List Grp} {i j t s a : Nat} (hi : i < Gs.length) (ha : (grpAt Gs i).1[j]? = some a) : usedN (setG Gs i j t s) + (decide (a < 128)).toNat = usedN Gs + (decide (t < 128)).toNat := by
  have h1 := sum_modify (fun c : Grp => c.1.countP (· < 128)) (putG j t s) Gs i (grpAt Gs i) (grpAt_some hi)
  have h2 := countP_set' (fun x => decide (x < 128)) t (grpAt Gs i).1 j a ha
  unfold usedN setG
  simp only [putG] at h1 h2 ⊢
  omega
theorem tombN_put {Gs : List Grp} {i j t s a : Nat} (hi : i < Gs.length) (ha : (grpAt Gs i).1[j]? = some a) : tombN (setG Gs i j t s) + (a == 254).toNat = tombN Gs + (t == 254).toNat := by
  have h1 := sum_modify (fun c : Grp => c.1.countP (· == 254)) (putG j t s) Gs i (grpAt Gs i) (grpAt_some hi)
  have h2 := countP_set' (fun x => x == 254) t (grpAt Gs i).1 j a ha
  unfold tombN setG
  simp only [putG] at h1 h2 ⊢
  omega
theorem count_le (p : Nat → Bool) : ∀ {Gs : List Grp}, (∀ c ∈ Gs, GrpOk c) → (Gs.map (fun c => c.1.countP p)).sum ≤ 8 * Gs.length
  | [], _ => by simp
  | c :: Gs, h => by
    have h1 := count_le p (Gs := Gs) (fun c hc => h c (by simp [hc]))
    have h2 : c.1.countP p ≤ c.1.length := List.countP_le_length
    rw [(h c (by simp)).ctl.1] at h2
    simp only [List.map_cons, List.sum_cons, List.length_cons]
    omega
theorem IxOk.used_le {Gs : List Grp} (h : IxOk Gs) : usedN Gs ≤ 8388608 := by have := count_le (· < 128) h.grp; have := h.pow.le; unfold usedN; omega
theorem IxOk.tomb_le {Gs : List Grp} (h : IxOk Gs) : tombN Gs ≤ 8388608 := by have := count_le (· == 254) h.grp; have := h.pow.le; unfold tombN; omega

/-! ### the memory -/
theorem groupCells_put {c : Grp} (h : GrpOk c) {j t s : Nat} (hj : j < 8) : groupCells (putG j t s c) = ((groupCells c).set 0 (.int .u64 (word8 (c.1.set j t)))).set (j + 1) (.int .u32 (s : Int)) := by
  unfold groupCells putG
  simp only [List.set_cons_zero, List.set_cons_succ]
  congr 1
  apply List.ext_getElem?
  intro k
  rw [List.getElem?_set]
  simp only [List.getElem?_map, List.length_map, List.length_range]
  by_cases hk : k < 8
  · rw [List.getElem?_range hk]
    simp only [Option.map_some]
    by_cases e : j = k
    · subst e
      simp [h.len, hj]
    · simp [e, List.getD_eq_getElem?_getD, List.getElem?_set]
  · have : (List.range 8)[k]? = none := by simp; omega
    rw [this]
    by_cases e : j = k
    · omega
    · simp [e]
theorem flat_put {Gs : List Grp} {i j t s : Nat} (h : GrpOk (grpAt Gs i)) (hi : i < Gs.length) (hj : j < 8) :
    ((Gs.flatMap groupCells).set (i * 9 + 0) (.int .u64 (word8 ((grpAt Gs i).1.set j t)))).set (i * 9 + (j + 1)) (.int .u32 (s : Int)) = (setG Gs i j t s).flatMap groupCells := by
  have hR : ∀ r ∈ Gs.map groupCells, r.length = 9 := fun r hr => by obtain ⟨c, _, rfl⟩ := List.mem_map.1 hr; exact groupCells_length c
  rw [List.flatMap_def, flatten_set 9 0 (by omega) _ _ hR, flatten_set 9 (j + 1) (by omega) _ _ (modify_length hR i 0 _), List.flatMap_def]
  congr 1
  apply List.ext_getElem?
  intro k
  unfold setG
  simp only [List.getElem?_modify, List.getElem?_map]
  by_cases e : i = k
  · subst e
    rw [grpAt_some hi]
    simp only [if_pos]
    exact congrArg some (groupCells_put h hj).symm
  · simp [e]
theorem flat_put2 {Gs : List Grp} {i j t s : Nat} (h : GrpOk (grpAt Gs i)) (hi : i < Gs.length) (hj : j < 8) (u : Value) (hu : u = .int .u64 (word8 ((grpAt Gs i).1.set j t))) :
    ((Gs.flatMap groupCells).set (i * 9) u).set (i * 9 + 1 + j) (.int .u32 (s : Int)) = (setG Gs i j t s).flatMap groupCells := by
  subst hu
  have := flat_put (t := t) (s := s) h hi hj
  rwa [Nat.add_zero, show i * 9 + (j + 1) = i * 9 + 1 + j by omega] at this
end Go.Proofs.YtpafcocciggfpaaGreat
