/- Plain: a rehash keeps what is held. -/
import Derived.Test.YtpafcocciggfpaaGreatRehash
namespace Go.Proofs.YtpafcocciggfpaaGreat
open Go.RowKit Go.Shelf

theorem lanes_count8 : ∀ a b c d e f g i : Bool, (lanesOf (mask [a, b, c, d, e, f, g, i])).length = [a, b, c, d, e, f, g, i].countP id := by decide +kernel
theorem fullIn_length {c : Grp} (h : GrpOk c) : (fullIn c).length = c.1.countP (· < 128) := by
  obtain ⟨x0, x1, x2, x3, x4, x5, x6, x7, e⟩ := eight_of h.ctl.1
  unfold fullIn
  rw [e]
  simp only [List.map_cons, List.map_nil]
  rw [lanes_count8]
  simp only [List.countP_cons, List.countP_nil, id]
theorem fulls_length {Gs : List Grp} (h : IxOk Gs) : (Gs.flatMap fullS).length = usedN Gs := by
  unfold usedN
  rw [List.length_flatMap]
  congr 1
  refine List.map_congr_left (fun c hc => ?_)
  unfold fullS
  rw [List.length_map, fullIn_length (h.grp c hc)]
theorem fullIn_mem {c : Grp} (hc : GrpOk c) (j : Nat) : j ∈ fullIn c ↔ j < 8 ∧ ∃ t, c.1[j]? = some t ∧ t < 128 := by
  unfold fullIn
  rw [lanes_mask (by simp [hc.ctl.1])]
  simp only [List.mem_filter, List.mem_range, List.getD_eq_getElem?_getD, List.getElem?_map]
  cases c.1[j]? <;> simp
theorem fullIn_lt (c : Grp) : (fullIn c).Pairwise (· < ·) := by
  unfold fullIn lanesOf
  exact List.Pairwise.filter _ List.pairwise_lt_range
theorem full_mem {Gs : List Grp} (h : IxOk Gs) (s : Nat) : s ∈ Gs.flatMap fullS ↔ ∃ i j t, FullAt Gs i j t s := by
  have hin : ∀ c, GrpOk c → ∀ j, j ∈ fullIn c ↔ j < 8 ∧ ∃ t, c.1[j]? = some t ∧ t < 128 := fun c hc j => by
    unfold fullIn
    rw [lanes_mask (by simp [hc.ctl.1])]
    simp only [List.mem_filter, List.mem_range, List.getD_eq_getElem?_getD, List.getElem?_map]
    cases c.1[j]? <;> simp
  constructor
  · intro hs
    obtain ⟨c, hc, hs⟩ := List.mem_flatMap.1 hs
    obtain ⟨j, hj, rfl⟩ := List.mem_map.1 hs
    obtain ⟨i, hi⟩ := List.getElem?_of_mem hc
    have hl : i < Gs.length := (List.getElem?_eq_some_iff.1 hi).1
    have e : grpAt Gs i = c := by have := grpAt_some hl; rw [hi] at this; cases this; rfl
    obtain ⟨hj8, t, ht, ht2⟩ := (hin c (h.grp c hc) j).1 hj
    exact ⟨i, j, t, hl, hj8, by rw [e]; exact ht, ht2, by unfold slotAt; rw [e]⟩
  · rintro ⟨i, j, t, hf⟩
    refine List.mem_flatMap.2 ⟨grpAt Gs i, List.mem_of_getElem? (grpAt_some hf.hi), List.mem_map.2 ⟨j, (hin _ (h.at hf.hi) j).2 ⟨hf.hj, t, hf.tag, hf.full⟩, hf.slot⟩⟩
theorem full_at {Gs : List Grp} {i : Nat} (h : IxOk Gs) (hi : i < Gs.length) {j : Nat} (hj : j ∈ fullIn (grpAt Gs i)) : ∃ t, FullAt Gs i j t ((grpAt Gs i).2.getD j 0) := by
  obtain ⟨h8, t, ht, ht2⟩ := (fullIn_mem (h.at hi) j).1 hj
  exact ⟨t, hi, h8, ht, ht2, rfl⟩
theorem Holds.nodup {H : Nat → Nat} {S : Nat → Prop} {Gs : List Grp} (h : Holds H S Gs) : (Gs.flatMap fullS).Nodup := by
  unfold List.Nodup
  rw [List.pairwise_flatMap]
  constructor
  · intro c hc
    obtain ⟨i, hi⟩ := List.getElem?_of_mem hc
    have hl : i < Gs.length := (List.getElem?_eq_some_iff.1 hi).1
    have e : grpAt Gs i = c := by have := grpAt_some hl; rw [hi] at this; cases this; rfl
    unfold fullS
    rw [List.pairwise_map]
    refine (fullIn_lt c).imp_of_mem (fun {a b} ha hb hab => ?_)
    intro e2
    rw [← e] at ha hb e2
    obtain ⟨t1, h1⟩ := full_at h.ok hl ha
    obtain ⟨t2, h2⟩ := full_at h.ok hl hb
    have := (h.uniq _ _ _ _ _ _ _ h1 (e2 ▸ h2)).2
    omega
  · rw [List.pairwise_iff_getElem]
    intro i j hi hj hij x hx y hy e
    have ei : grpAt Gs i = Gs[i] := by have := grpAt_some hi; rw [List.getElem?_eq_getElem hi] at this; exact (Option.some.inj this).symm
    have ej : grpAt Gs j = Gs[j] := by have := grpAt_some hj; rw [List.getElem?_eq_getElem hj] at this; exact (Option.some.inj this).symm
    obtain ⟨a, ha, rfl⟩ := List.mem_map.1 hx
    obtain ⟨b, hb, rfl⟩ := List.mem_map.1 hy
    rw [← ei] at ha e
    rw [← ej] at hb e
    obtain ⟨t1, h1⟩ := full_at h.ok hi ha
    obtain ⟨t2, h2⟩ := full_at h.ok hj hb
    have := (h.uniq _ _ _ _ _ _ _ h1 (e ▸ h2)).1
    omega
theorem ins_list {H : Nat → Nat} : ∀ (L : List Nat) (o : List Grp) (S : Nat → Prop), Holds H S o → (∀ s ∈ L, s ≤ 4294967295 ∧ ¬ S s) → L.Nodup → usedN o + L.length ≤ 8 * o.length →
    Holds H (fun s => S s ∨ s ∈ L) (L.foldl (insD H) o) ∧ usedN (L.foldl (insD H) o) = usedN o + L.length ∧ (L.foldl (insD H) o).length = o.length ∧ tombN (L.foldl (insD H) o) ≤ tombN o
  | [], o, S, h, _, _, _ => ⟨h.of_iff (by simp), rfl, rfl, Nat.le_refl _⟩
  | s :: L, o, S, h, hs, hn, hr => by
    obtain ⟨hs1, hs2⟩ := hs s (by simp)
    obtain ⟨o', ho⟩ : ∃ o', insM o (H s) s = some o' := by
      cases hc : insM o (H s) s with
      | some o' => exact ⟨o', rfl⟩
      | none =>
        have := (ins_none h.ok _ _).1 hc
        simp only [List.length_cons] at hr
        omega
    have e : insD H o s = o' := by unfold insD; rw [ho]; rfl
    obtain ⟨c1, c2, c3, c4⟩ := ins_counts h.ok hs1 ho
    have hi := h.ins hs1 hs2 ho
    simp only [List.foldl_cons, e]
    simp only [List.length_cons] at hr ⊢
    obtain ⟨k1, k2, k3, k4⟩ := ins_list L o' _ hi (fun x hx => ⟨(hs x (by simp [hx])).1, fun hx2 => by
      rcases hx2 with rfl | hx2
      · exact (List.nodup_cons.1 hn).1 hx
      · exact (hs x (by simp [hx])).2 hx2⟩) (List.nodup_cons.1 hn).2 (by omega)
    refine ⟨k1.of_iff (fun x => ?_), by omega, by omega, by omega⟩
    simp only [List.mem_cons]
    constructor
    · rintro ((h | h) | h)
      · exact .inr (.inl h)
      · exact .inl h
      · exact .inr (.inr h)
    · rintro (h | h | h)
      · exact .inl (.inr h)
      · exact .inl (.inl h)
      · exact .inr h
theorem Holds.rehash {H : Nat → Nat} {S : Nat → Prop} {Gs : List Grp} (h : Holds H S Gs) {g : Nat} (hg : Pow g) (hu : usedN Gs ≤ 8 * g) :
    Holds H S (rehM H g Gs) ∧ usedN (rehM H g Gs) = usedN Gs ∧ (rehM H g Gs).length = g ∧ tombN (rehM H g Gs) = 0 := by
  have hm : ∀ s, s ∈ Gs.flatMap fullS ↔ S s := fun s => (full_mem h.ok s).trans (h.mem s).symm
  have hlt : ∀ s ∈ Gs.flatMap fullS, s ≤ 4294967295 := by
    intro s hs
    obtain ⟨c, hc, hs⟩ := List.mem_flatMap.1 hs
    exact fullS_lt (h.ok.grp c hc) s hs
  obtain ⟨k1, k2, k3, k4⟩ := ins_list (Gs.flatMap fullS) (newG g) (fun _ => False) (newG_holds H hg) (fun s hs => ⟨hlt s hs, fun h => h⟩) h.nodup (by rw [fulls_length h.ok, newG_used, newG_length]; omega)
  unfold rehM
  rw [newG_used, fulls_length h.ok] at k2
  rw [newG_length] at k3
  rw [newG_tomb] at k4
  exact ⟨k1.of_iff (fun s => by simp [hm]), by omega, k3, by omega⟩
theorem countB_set (t : Bool) : ∀ (l : List Bool) (j : Nat) (a : Bool), l[j]? = some a → (l.set j t).countP id + a.toNat = l.countP id + t.toNat
  | [], _, _, h => by simp at h
  | b :: l, 0, a, h => by
    simp at h; subst h
    simp only [List.set_cons_zero, List.countP_cons]
    cases b <;> cases t <;> simp
  | b :: l, j + 1, a, h => by
    have := countB_set t l j a (by simpa using h)
    simp only [List.set_cons_succ, List.countP_cons]
    omega
end Go.Proofs.YtpafcocciggfpaaGreat
