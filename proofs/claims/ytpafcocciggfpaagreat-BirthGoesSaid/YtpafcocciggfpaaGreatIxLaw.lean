/- Plain laws of the index: what was put in and not taken out is found, and nothing else. -/
import Derived.Test.YtpafcocciggfpaaGreatRem
import Derived.Test.YtpafcocciggfpaaGreatNew
namespace Go.Proofs.YtpafcocciggfpaaGreat
open Go.RowKit Go.Shelf

/-! ### a probe sequence reaches every group -/
theorem tri_two (i : Nat) : 2 * (i * (i + 1) / 2) = i * (i + 1) := by
  rcases Nat.mod_two_eq_zero_or_one i with h | h
  · have : i * (i + 1) % 2 = 0 := by simp [Nat.mul_mod, h]
    omega
  · have : i * (i + 1) % 2 = 0 := by simp [Nat.mul_mod, Nat.add_mod, h]
    omega
theorem tri_flip {a i i' : Nat} (h : i' + i + 1 = 2 * a) : i' * (i' + 1) / 2 + a * (2 * i + 1) = 2 * (a * a) + i * (i + 1) / 2 := by
  have h1 := tri_two i
  have h2 := tri_two i'
  have e1 : 2 * (a * (2 * i + 1)) = (i' + i + 1) * (2 * i + 1) := by rw [h, Nat.mul_assoc]
  have e2 : 2 * (2 * (a * a)) = (i' + i + 1) * (i' + i + 1) := by rw [h]; simp only [Nat.mul_assoc, Nat.mul_left_comm]
  have c : i' * i = i * i' := Nat.mul_comm _ _
  simp only [Nat.mul_add, Nat.add_mul, Nat.mul_one, Nat.one_mul] at *
  have c1 : i' * (2 * i) = 2 * (i * i') := by rw [Nat.mul_left_comm, c]
  have c2 : i * (2 * i) = 2 * (i * i) := by rw [Nat.mul_left_comm]
  omega
theorem at_all (part : Nat) : ∀ (k t : Nat), t < 2 ^ k → ∃ i, i < 2 ^ k ∧ (part + i * (i + 1) / 2) % 2 ^ k = t
  | 0, t, h => ⟨0, by decide, by simp at h; subst h; simp [Nat.mod_one]⟩
  | k + 1, t, h => by
    obtain ⟨i, hi, e⟩ := at_all part k (t % 2 ^ k) (Nat.mod_lt _ (Nat.pow_pos (by decide)))
    have hp : 2 ^ (k + 1) = 2 ^ k * 2 := Nat.pow_succ 2 k
    have hf := @tri_flip (2 ^ k) i (2 * 2 ^ k - 1 - i) (by omega)
    generalize 2 ^ k = a at *
    rw [hp] at h ⊢
    have hm : (part + i * (i + 1) / 2) % (a * 2) = t ∨ (part + i * (i + 1) / 2) % (a * 2) + a = t ∨ (part + i * (i + 1) / 2) % (a * 2) = t + a := by
      have h1 := Nat.mod_mul_right_mod (part + i * (i + 1) / 2) a 2
      rw [e] at h1
      have h2 : (part + i * (i + 1) / 2) % (a * 2) < a * 2 := Nat.mod_lt _ (by omega)
      generalize (part + i * (i + 1) / 2) % (a * 2) = y at *
      have hy : y = y % a ∨ y = y % a + a := by
        by_cases c : y < a
        · left; rw [Nat.mod_eq_of_lt c]
        · right; rw [Nat.mod_eq_sub_mod (by omega), Nat.mod_eq_of_lt (by omega)]; omega
      have ht : t = t % a ∨ t = t % a + a := by
        by_cases c : t < a
        · left; rw [Nat.mod_eq_of_lt c]
        · right; rw [Nat.mod_eq_sub_mod (by omega), Nat.mod_eq_of_lt (by omega)]; omega
      omega
    by_cases hd : (part + i * (i + 1) / 2) % (a * 2) = t
    · exact ⟨i, by omega, hd⟩
    · refine ⟨2 * a - 1 - i, by omega, ?_⟩
      generalize (2 * a - 1 - i) * (2 * a - 1 - i + 1) / 2 = u at *
      have hz : (part + i * (i + 1) / 2) % (a * 2) + a = t ∨ (part + i * (i + 1) / 2) % (a * 2) = t + a := by
        rcases hm with h | h | h
        · exact absurd h hd
        · exact .inl h
        · exact .inr h
      generalize hT : i * (i + 1) / 2 = T at *
      -- part + u + a*(2i+1) = part + T + 2a*a
      have h3 : part + u + a + (a * 2) * i = part + T + (a * 2) * a := by
        have e1 : a * (2 * i + 1) = a * 2 * i + a := by rw [Nat.mul_add, Nat.mul_one, Nat.mul_assoc]
        have e2 : a * 2 * a = 2 * (a * a) := by rw [Nat.mul_comm a 2, Nat.mul_assoc]
        omega
      have h4 : (part + u + a) % (a * 2) = (part + T) % (a * 2) := by
        have := congrArg (· % (a * 2)) h3
        simpa [Nat.add_mul_mod_self_left] using this
      have h5 := Nat.div_add_mod (part + u) (a * 2)
      have h6 : (part + u) % (a * 2) < a * 2 := Nat.mod_lt _ (by omega)
      generalize (part + u) % (a * 2) = v at *
      rw [← h5, Nat.add_assoc, Nat.mul_add_mod_self_left] at h4
      generalize (part + T) % (a * 2) = y at *
      by_cases c : v + a < a * 2
      · rw [Nat.mod_eq_of_lt c] at h4; omega
      · rw [Nat.mod_eq_sub_mod (by omega), Nat.mod_eq_of_lt (by omega)] at h4; omega
theorem probes_all {g : Nat} (hg : Pow g) (part : Nat) {i : Nat} (hi : i < g) : i ∈ probes part g := by
  obtain ⟨k, _, rfl⟩ := hg
  obtain ⟨n, hn, e⟩ := at_all part k i hi
  exact List.mem_map.2 ⟨n, List.mem_range.2 hn, e⟩
theorem probes_lt {g : Nat} (hg : 0 < g) (part : Nat) {i : Nat} (hi : i ∈ probes part g) : i < g := by
  obtain ⟨n, _, rfl⟩ := List.mem_map.1 hi
  exact Nat.mod_lt _ hg

/-! ### what is seen -/
structure FullAt (Gs : List Grp) (i j t s : Nat) : Prop where
  hi : i < Gs.length
  hj : j < 8
  tag : (grpAt Gs i).1[j]? = some t
  full : t < 128
  slot : slotAt Gs (i, j) = s
theorem seenIn_mem {c : Grp} (h : GrpOk c) (tag j : Nat) : j ∈ seenIn c tag ↔ j < 8 ∧ c.1[j]? = some tag := by
  unfold seenIn
  rw [lanes_mask (by simp [h.ctl.1])]
  simp only [List.mem_filter, List.mem_range, List.getD_eq_getElem?_getD, List.getElem?_map]
  cases c.1[j]? <;> simp
theorem seenFrom_mem {Gs : List Grp} {tag : Nat} : ∀ {L : List Nat} {x : Nat × Nat}, x ∈ seenFrom Gs tag L → x.1 ∈ L ∧ x.2 ∈ seenIn (grpAt Gs x.1) tag
  | [], _, h => by simp [seenFrom] at h
  | i :: r, x, h => by
    simp only [seenFrom, List.mem_append, List.mem_map] at h
    rcases h with ⟨j, hj, rfl⟩ | h
    · exact ⟨by simp, hj⟩
    · split at h
      · simp at h
      · have := seenFrom_mem h
        exact ⟨by simp [this.1], this.2⟩
theorem seen_full {Gs : List Grp} (h : IxOk Gs) {sum : Nat} {x : Nat × Nat} (hx : x ∈ seenM Gs sum) : FullAt Gs x.1 x.2 (sum % 128) (slotAt Gs x) := by
  obtain ⟨h1, h2⟩ := seenFrom_mem hx
  have hi := probes_lt h.pow.pos _ h1
  obtain ⟨h3, h4⟩ := (seenIn_mem (h.at hi) _ _).1 h2
  exact ⟨hi, h3, h4, Nat.mod_lt _ (by decide), rfl⟩
theorem full_seen {Gs : List Grp} (h : IxOk Gs) {sum i j s : Nat} (hf : FullAt Gs i j (sum % 128) s) {pre post : List Nat} (hp : probes (sum / 128) Gs.length = pre ++ i :: post) (hb : ∀ k ∈ pre, blanks (grpAt Gs k) = false) : (i, j) ∈ seenM Gs sum := by
  unfold seenM
  rw [hp, seen_pre pre i post hb]
  simp only [List.mem_append, List.mem_map]
  exact .inr (.inl ⟨j, (seenIn_mem (h.at hf.hi) _ _).2 ⟨hf.hj, hf.tag⟩, rfl⟩)

/-- The index holds just the slot numbers in S, each one with its own hash. -/
structure Holds (H : Nat → Nat) (S : Nat → Prop) (Gs : List Grp) : Prop where
  ok : IxOk Gs
  tag : ∀ i j t s, FullAt Gs i j t s → t = H s % 128
  reach : ∀ i j t s, FullAt Gs i j t s → ∃ pre post, probes (H s / 128) Gs.length = pre ++ i :: post ∧ ∀ k ∈ pre, blanks (grpAt Gs k) = false
  uniq : ∀ i j t i' j' t' s, FullAt Gs i j t s → FullAt Gs i' j' t' s → i = i' ∧ j = j'
  mem : ∀ s, S s ↔ ∃ i j t, FullAt Gs i j t s
theorem Holds.of_iff {H : Nat → Nat} {S S' : Nat → Prop} {Gs : List Grp} (h : Holds H S Gs) (hs : ∀ s, S s ↔ S' s) : Holds H S' Gs :=
  ⟨h.ok, h.tag, h.reach, h.uniq, fun s => (hs s).symm.trans (h.mem s)⟩
section
variable {H : Nat → Nat} {S : Nat → Prop} {Gs : List Grp}
theorem Holds.find_none (h : Holds H S Gs) {s : Nat} (hs : ¬ S s) : findM Gs (H s) (fun x => x == s) = none := by
  unfold findM
  refine List.find?_eq_none.2 (fun x hx => ?_)
  intro e
  have e' : slotAt Gs x = s := by simpa using e
  exact hs ((h.mem s).2 ⟨_, _, _, e' ▸ seen_full h.ok hx⟩)
theorem Holds.find_some (h : Holds H S Gs) {s : Nat} (hs : S s) : ∃ i j, findM Gs (H s) (fun x => x == s) = some (i, j) ∧ FullAt Gs i j (H s % 128) s := by
  obtain ⟨i, j, t, hf⟩ := (h.mem s).1 hs
  have ht := h.tag _ _ _ _ hf
  subst ht
  obtain ⟨pre, post, hp, hb⟩ := h.reach _ _ _ _ hf
  have hm := full_seen h.ok hf hp hb
  unfold findM
  cases hc : (seenM Gs (H s)).find? (fun x => slotAt Gs x == s) with
  | none =>
    have := List.find?_eq_none.1 hc _ hm
    rw [hf.slot] at this
    simp at this
  | some x =>
    have h1 := List.find?_some hc
    have h2 := seen_full h.ok (List.mem_of_find?_eq_some hc)
    have h3 : slotAt Gs x = s := by simpa using h1
    exact ⟨x.1, x.2, rfl, h3 ▸ h2⟩
theorem full_set {i j t s : Nat} (hi : i < Gs.length) (hg : GrpOk (grpAt Gs i)) (hj : j < 8) (i' j' t' s' : Nat) :
    FullAt (setG Gs i j t s) i' j' t' s' ↔ (i' = i ∧ j' = j ∧ t' = t ∧ t < 128 ∧ s' = s) ∨ (¬ (i' = i ∧ j' = j) ∧ FullAt Gs i' j' t' s') := by
  have hl1 : j < (grpAt Gs i).1.length := by rw [hg.ctl.1]; exact hj
  have hl2 : j < (grpAt Gs i).2.length := by rw [hg.len]; exact hj
  constructor
  · rintro ⟨h1, h2, h3, h4, h5⟩
    rw [setG_length] at h1
    unfold slotAt at h5
    rw [grpAt_setG hi] at h3 h5
    dsimp only at h5
    by_cases e : i' = i
    · rw [if_pos e] at h3 h5
      unfold putG at h3 h5
      dsimp only at h3 h5
      by_cases ej : j' = j
      · subst ej
        rw [List.getElem?_set_self hl1] at h3
        rw [List.getD_eq_getElem?_getD, List.getElem?_set_self hl2] at h5
        cases h3
        exact .inl ⟨e, rfl, rfl, h4, by simpa using h5.symm⟩
      · rw [List.getElem?_set_ne (fun c => ej c.symm)] at h3
        rw [List.getD_eq_getElem?_getD, List.getElem?_set_ne (fun c => ej c.symm)] at h5
        refine .inr ⟨fun c => ej c.2, ⟨h1, h2, by rw [e]; exact h3, h4, ?_⟩⟩
        unfold slotAt
        dsimp only
        rw [e, List.getD_eq_getElem?_getD]; exact h5
    · rw [if_neg e] at h3 h5
      exact .inr ⟨fun c => e c.1, ⟨h1, h2, h3, h4, h5⟩⟩
  · rintro (⟨rfl, rfl, rfl, h4, rfl⟩ | ⟨hn, h1, h2, h3, h4, h5⟩)
    · refine ⟨by rw [setG_length]; exact hi, hj, ?_, h4, ?_⟩
      · rw [grpAt_setG hi, if_pos rfl]; exact List.getElem?_set_self hl1
      · unfold slotAt
        dsimp only
        rw [grpAt_setG hi, if_pos rfl, List.getD_eq_getElem?_getD]
        unfold putG
        dsimp only
        rw [List.getElem?_set_self hl2]
        rfl
    · refine ⟨by rw [setG_length]; exact h1, h2, ?_, h4, ?_⟩
      · rw [grpAt_setG hi]
        by_cases e : i' = i
        · rw [if_pos e]
          unfold putG
          dsimp only
          rw [List.getElem?_set_ne (fun c => hn ⟨e, c.symm⟩), ← e]; exact h3
        · rw [if_neg e]; exact h3
      · unfold slotAt at h5 ⊢
        dsimp only at h5 ⊢
        rw [grpAt_setG hi]
        by_cases e : i' = i
        · rw [if_pos e]
          unfold putG
          dsimp only
          rw [List.getD_eq_getElem?_getD, List.getElem?_set_ne (fun c => hn ⟨e, c.symm⟩), ← e, ← List.getD_eq_getElem?_getD]; exact h5
        · rw [if_neg e]; exact h5
theorem blanks_set {i j t s k : Nat} (hi : i < Gs.length) (ht : t = 128 → blanks (grpAt Gs i) = true) (hb : blanks (grpAt Gs k) = false) : blanks (grpAt (setG Gs i j t s) k) = false := by
  rw [grpAt_setG hi]
  by_cases e : k = i
  · subst e
    rw [if_pos rfl]
    unfold blanks putG at *
    dsimp only
    rw [List.any_eq_false] at hb ⊢
    intro x hx
    rcases List.mem_or_eq_of_mem_set hx with h | rfl
    · exact hb x h
    · intro c
      have := ht (by simpa using c)
      rw [List.any_eq_true] at this
      obtain ⟨y, hy, hy2⟩ := this
      exact hb y hy hy2
  · rw [if_neg e]; exact hb

theorem insFrom_some {tag slot : Nat} : ∀ {L : List Nat} {Gs' : List Grp}, insFrom Gs tag slot L = some Gs' →
    ∃ pre i post, L = pre ++ i :: post ∧ (∀ k ∈ pre, freeOf (grpAt Gs k) = 8) ∧ freeOf (grpAt Gs i) ≠ 8 ∧ Gs' = setG Gs i (freeOf (grpAt Gs i)) tag slot
  | [], _, h => by simp [insFrom] at h
  | i :: r, Gs', h => by
    unfold insFrom at h
    by_cases e : freeOf (grpAt Gs i) = 8
    · rw [if_pos e] at h
      obtain ⟨pre, i', post, rfl, h2, h3, h4⟩ := insFrom_some h
      exact ⟨i :: pre, i', post, rfl, fun k hk => by
        rcases List.mem_cons.1 hk with rfl | hk
        · exact e
        · exact h2 k hk, h3, h4⟩
    · rw [if_neg e] at h
      cases h
      exact ⟨[], i, r, rfl, by simp, e, rfl⟩
theorem insFrom_none {tag slot : Nat} : ∀ {L : List Nat}, insFrom Gs tag slot L = none ↔ ∀ k ∈ L, freeOf (grpAt Gs k) = 8
  | [] => by simp [insFrom]
  | i :: r => by
    unfold insFrom
    by_cases e : freeOf (grpAt Gs i) = 8
    · rw [if_pos e, insFrom_none]; simp [e]
    · rw [if_neg e]; simp [e]
theorem free_lt {c : Grp} (h : GrpOk c) (hf : freeOf c ≠ 8) : freeOf c < 8 := by
  have : freeOf c ≤ c.1.length := List.findIdx_le_length
  rw [h.ctl.1] at this
  omega
theorem free_eight {c : Grp} (h : GrpOk c) : freeOf c = 8 ↔ ∀ x ∈ c.1, x < 128 := by
  unfold freeOf
  rw [← h.ctl.1, List.findIdx_eq_length]
  simp
theorem no_blanks {c : Grp} (h : GrpOk c) (hf : freeOf c = 8) : blanks c = false := by
  unfold blanks
  rw [List.any_eq_false]
  intro x hx
  have := (free_eight h).1 hf x hx
  simp; omega
theorem ins_counts {sum slot : Nat} {Gs' : List Grp} (h : IxOk Gs) (hs : slot ≤ 4294967295) (he : insM Gs sum slot = some Gs') : usedN Gs' = usedN Gs + 1 ∧ Gs'.length = Gs.length ∧ IxOk Gs' ∧ tombN Gs' ≤ tombN Gs := by
  obtain ⟨pre, i, post, hp, hpre, hf, rfl⟩ := insFrom_some he
  have hi : i < Gs.length := probes_lt h.pow.pos (sum / 128) (by rw [hp]; simp)
  have hg := h.at hi
  have hj := free_lt hg hf
  have h128 := free_at hg.ctl rfl hj
  have ht : sum % 128 < 128 := Nat.mod_lt _ (by decide)
  refine ⟨?_, setG_length .., h.put (.inl ht) hs, ?_⟩
  · unfold freeOf
    rcases h128 with e | e
    · simpa [ht] using usedN_put (t := sum % 128) (s := slot) hi e
    · simpa [ht] using usedN_put (t := sum % 128) (s := slot) hi e
  · have n254 : (sum % 128 == 254) = false := by simp; omega
    rcases h128 with e | e
    · have := tombN_put (t := sum % 128) (s := slot) hi e
      rw [n254] at this; simp at this; unfold freeOf at *; omega
    · have := tombN_put (t := sum % 128) (s := slot) hi e
      rw [n254] at this; simp at this; unfold freeOf at *; omega
theorem Holds.ins (h : Holds H S Gs) {s : Nat} (hs : s ≤ 4294967295) (hn : ¬ S s) {Gs' : List Grp} (he : insM Gs (H s) s = some Gs') : Holds H (fun x => x = s ∨ S x) Gs' := by
  have hok := (ins_counts h.ok hs he).2.2.1
  obtain ⟨pre, i, post, hp, hpre, hf, rfl⟩ := insFrom_some he
  have hi : i < Gs.length := probes_lt h.ok.pow.pos (H s / 128) (by rw [hp]; simp)
  have hg := h.ok.at hi
  have hj := free_lt hg hf
  have ht : H s % 128 < 128 := Nat.mod_lt _ (by decide)
  have hfull := fun i' j' t' s' => full_set (t := H s % 128) (s := s) hi hg hj i' j' t' s'
  have hbl := fun k => blanks_set (j := freeOf (grpAt Gs i)) (t := H s % 128) (s := s) (k := k) hi (fun c => by omega)
  have hpr : ∀ k ∈ pre, blanks (grpAt Gs k) = false := fun k hk => no_blanks (h.ok.at (probes_lt h.ok.pow.pos (H s / 128) (by rw [hp]; simp [hk]))) (hpre k hk)
  refine ⟨hok, ?_, ?_, ?_, ?_⟩
  · intro i' j' t' s' hF
    rcases (hfull _ _ _ _).1 hF with ⟨_, _, rfl, _, rfl⟩ | ⟨_, hF⟩
    · rfl
    · exact h.tag _ _ _ _ hF
  · intro i' j' t' s' hF
    rw [setG_length]
    rcases (hfull _ _ _ _).1 hF with ⟨rfl, _, rfl, _, rfl⟩ | ⟨_, hF⟩
    · exact ⟨pre, post, hp, fun k hk => hbl k (hpr k hk)⟩
    · obtain ⟨pre', post', h1, h2⟩ := h.reach _ _ _ _ hF
      exact ⟨pre', post', h1, fun k hk => hbl k (h2 k hk)⟩
  · intro i1 j1 t1 i2 j2 t2 s' hF1 hF2
    rcases (hfull _ _ _ _).1 hF1 with ⟨a1, a2, a3, _, a4⟩ | ⟨_, hG1⟩ <;> rcases (hfull _ _ _ _).1 hF2 with ⟨b1, b2, b3, _, b4⟩ | ⟨_, hG2⟩
    · exact ⟨a1.trans b1.symm, a2.trans b2.symm⟩
    · exact absurd ((h.mem _).2 ⟨_, _, _, a4 ▸ hG2⟩) hn
    · exact absurd ((h.mem _).2 ⟨_, _, _, b4 ▸ hG1⟩) hn
    · exact h.uniq _ _ _ _ _ _ _ hG1 hG2
  · intro x
    constructor
    · rintro (rfl | hx)
      · exact ⟨_, _, _, (hfull _ _ _ _).2 (.inl ⟨rfl, rfl, rfl, ht, rfl⟩)⟩
      · obtain ⟨i', j', t', hF⟩ := (h.mem x).1 hx
        refine ⟨i', j', t', (hfull _ _ _ _).2 (.inr ⟨?_, hF⟩)⟩
        rintro ⟨rfl, rfl⟩
        have h128 := free_at hg.ctl rfl hj
        have := hF.full
        rcases h128 with e | e
        · have := hF.tag; unfold freeOf at this; rw [e] at this; cases this; omega
        · have := hF.tag; unfold freeOf at this; rw [e] at this; cases this; omega
    · rintro ⟨i', j', t', hF⟩
      rcases (hfull _ _ _ _).1 hF with ⟨_, _, _, _, rfl⟩ | ⟨_, hF⟩
      · exact .inl rfl
      · exact .inr ((h.mem _).2 ⟨_, _, _, hF⟩)
/-- The index without what one lane holds. -/
def delG (Gs : List Grp) (i j : Nat) : List Grp := setG Gs i j (erased (grpAt Gs i).1) 0
theorem erased_128 {l : List Nat} (h : erased l = 128) : l.any (· == 128) = true := by
  unfold erased at h
  split at h
  · assumption
  · cases h
theorem erased_or (l : List Nat) : erased l = 128 ∨ erased l = 254 := by unfold erased; split <;> simp
theorem del_counts (h : IxOk Gs) {i j t s : Nat} (hf : FullAt Gs i j t s) : usedN (delG Gs i j) + 1 = usedN Gs ∧ (delG Gs i j).length = Gs.length ∧ IxOk (delG Gs i j) := by
  have h1 := usedN_put (t := erased (grpAt Gs i).1) (s := 0) hf.hi hf.tag
  have h2 := erased_or (grpAt Gs i).1
  have h3 : decide (erased (grpAt Gs i).1 < 128) = false := by simp; omega
  rw [h3] at h1
  refine ⟨?_, setG_length .., h.put (.inr h2) (by omega)⟩
  unfold delG
  simpa [hf.full] using h1
theorem Holds.del (h : Holds H S Gs) {i j t s : Nat} (hf : FullAt Gs i j t s) : Holds H (fun x => x ≠ s ∧ S x) (delG Gs i j) := by
  have hok := (del_counts h.ok hf).2.2
  have hfull := fun i' j' t' s' => full_set (t := erased (grpAt Gs i).1) (s := 0) hf.hi (h.ok.at hf.hi) hf.hj i' j' t' s'
  have hbl := fun k => blanks_set (j := j) (t := erased (grpAt Gs i).1) (s := 0) (k := k) hf.hi (fun c => erased_128 c)
  have h2 := erased_or (grpAt Gs i).1
  have back : ∀ i' j' t' s', FullAt (delG Gs i j) i' j' t' s' → ¬ (i' = i ∧ j' = j) ∧ FullAt Gs i' j' t' s' := fun i' j' t' s' hF => by
    rcases (hfull _ _ _ _).1 hF with ⟨_, _, _, h128, _⟩ | hF
    · omega
    · exact hF
  refine ⟨hok, fun i' j' t' s' hF => h.tag _ _ _ _ (back _ _ _ _ hF).2, fun i' j' t' s' hF => ?_, fun i1 j1 t1 i2 j2 t2 s' hF1 hF2 => h.uniq _ _ _ _ _ _ _ (back _ _ _ _ hF1).2 (back _ _ _ _ hF2).2, fun x => ?_⟩
  · obtain ⟨pre', post', h3, h4⟩ := h.reach _ _ _ _ (back _ _ _ _ hF).2
    unfold delG
    rw [setG_length]
    exact ⟨pre', post', h3, fun k hk => hbl k (h4 k hk)⟩
  · constructor
    · rintro ⟨hx, hS⟩
      obtain ⟨i', j', t', hF⟩ := (h.mem x).1 hS
      refine ⟨i', j', t', (hfull _ _ _ _).2 (.inr ⟨?_, hF⟩)⟩
      rintro ⟨rfl, rfl⟩
      have e1 := hF.slot; have e2 := hf.slot
      exact hx (e1.symm.trans e2)
    · rintro ⟨i', j', t', hF⟩
      obtain ⟨hne, hF⟩ := back _ _ _ _ hF
      refine ⟨?_, (h.mem x).2 ⟨_, _, _, hF⟩⟩
      rintro rfl
      exact hne (h.uniq _ _ _ _ _ _ _ hF hf)

/-! ### room -/
theorem count_full {p : Nat → Bool} : ∀ {Gs : List Grp}, (∀ c ∈ Gs, GrpOk c) → ((Gs.map (fun c => c.1.countP p)).sum = 8 * Gs.length ↔ ∀ c ∈ Gs, ∀ x ∈ c.1, p x = true)
  | [], _ => by simp
  | c :: Gs, h => by
    have h1 := count_full (p := p) (Gs := Gs) (fun c hc => h c (by simp [hc]))
    have h2 : c.1.countP p ≤ c.1.length := List.countP_le_length
    have h3 := count_le p (Gs := Gs) (fun c hc => h c (by simp [hc]))
    have h4 : c.1.countP p = c.1.length ↔ ∀ x ∈ c.1, p x = true := List.countP_eq_length
    rw [(h c (by simp)).ctl.1] at h2 h4
    simp only [List.map_cons, List.sum_cons, List.length_cons, List.forall_mem_cons]
    rw [← h1, ← h4]
    omega
theorem ins_none (h : IxOk Gs) (sum slot : Nat) : insM Gs sum slot = none ↔ usedN Gs = 8 * Gs.length := by
  unfold insM
  rw [insFrom_none]
  unfold usedN
  rw [count_full h.grp]
  constructor
  · intro hk c hc x hx
    obtain ⟨i, hi⟩ := List.getElem?_of_mem hc
    have hl : i < Gs.length := (List.getElem?_eq_some_iff.1 hi).1
    have e : grpAt Gs i = c := by have := grpAt_some hl; rw [hi] at this; cases this; rfl
    have := (free_eight (h.at hl)).1 (hk i (probes_all h.pow _ hl))
    rw [e] at this
    simpa using this x hx
  · intro hk i hi
    have hl := probes_lt h.pow.pos _ hi
    refine (free_eight (h.at hl)).2 (fun x hx => ?_)
    simpa using hk _ (List.mem_of_getElem? (grpAt_some hl)) x hx
theorem used_le8 (h : IxOk Gs) : usedN Gs ≤ 8 * Gs.length := count_le _ h.grp
end

/-! ### the new index -/
theorem newG_at {g i : Nat} (hi : i < g) : grpAt (newG g) i = blankG := by
  unfold grpAt newG
  rw [List.getD_eq_getElem?_getD]
  simp [hi]
theorem newG_empty {g i j t s : Nat} : ¬ FullAt (newG g) i j t s := fun h => by
  have hi : i < g := by have := h.hi; simpa [newG] using this
  have h1 := h.tag
  rw [newG_at hi] at h1
  have := List.mem_of_getElem? h1
  have h2 : ∀ x ∈ blankG.1, x = 128 := by decide
  have := h2 _ this
  have := h.full
  omega
theorem newG_holds (H : Nat → Nat) {g : Nat} (hg : Pow g) : Holds H (fun _ => False) (newG g) :=
  ⟨newG_ok hg, fun _ _ _ _ h => absurd h newG_empty, fun _ _ _ _ h => absurd h newG_empty, fun _ _ _ _ _ _ _ h => absurd h newG_empty, fun _ => ⟨fun h => h.elim, fun ⟨_, _, _, h⟩ => newG_empty h⟩⟩
end Go.Proofs.YtpafcocciggfpaaGreat
