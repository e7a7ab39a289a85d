/- Plain: entries whose births increase: what After, Find, Rank, Sorted say of them, and of them without tombstones. -/
import Derived.Test.YtpafcocciggfpaaGreatCompD
import Derived.Test.YtpafcocciggfpaaGreatLaw12
namespace Go.Proofs.YtpafcocciggfpaaGreat
open Go.RowKit Go.Shelf

structure Inc (G : List (Nat × Ent)) : Prop where
  up : G.Pairwise (fun a b => a.2.birth < b.2.birth)
  lo : ∀ g ∈ G, 0 < g.2.birth
  hi : ∀ g ∈ G, g.2.birth < 18446744073709551615
theorem fold_skip (fr up : Int) (o : Option (Nat × Int)) : ∀ (l : List (Nat × Ent)), (∀ g ∈ l, firstS fr up o g = o) → l.foldl (firstS fr up) o = o
  | [], _ => rfl
  | g :: l, h => by
    rw [List.foldl_cons, h g (by simp)]
    exact fold_skip fr up o l (fun g hg => h g (by simp [hg]))
theorem firstM_none {fr up : Int} {G : List (Nat × Ent)} (h : ∀ a ∈ G, a.2.birth < fr) : firstM fr up G = none :=
  fold_skip fr up none G (fun g hg => by unfold firstS; rw [if_neg (by have := h g hg; omega)])
theorem firstM_hit {fr up : Int} {pre post : List (Nat × Ent)} {g : Nat × Ent} (h1 : ∀ a ∈ pre, a.2.birth < fr) (h2 : fr ≤ g.2.birth) (h3 : g.2.birth ≤ up) (h4 : ∀ a ∈ post, g.2.birth < a.2.birth) :
    firstM fr up (pre ++ g :: post) = some (g.1, g.2.birth) := by
  have e1 := firstM_none (up := up) h1
  unfold firstM at e1 ⊢
  rw [List.foldl_append, e1, List.foldl_cons]
  have e2 : firstS fr up none g = some (g.1, g.2.birth) := by unfold firstS; rw [if_pos h2, if_pos h3]
  rw [e2]
  refine fold_skip fr up _ post (fun a ha => ?_)
  have := h4 a ha
  unfold firstS
  split
  · split
    · dsimp only; rw [if_neg (by omega)]
    · rfl
  · rfl
theorem rank_at {pre post : List (Nat × Ent)} {g : Nat × Ent} (h1 : ∀ a ∈ pre, a.2.birth < g.2.birth) (h4 : ∀ a ∈ post, g.2.birth < a.2.birth) : rankL (pre ++ g :: post) g.2.birth = pre.length := by
  unfold rankL
  rw [List.countP_append, List.countP_cons]
  have e1 : pre.countP (fun a => decide (a.2.birth < g.2.birth)) = pre.length := List.countP_eq_length.2 (fun a ha => by simpa using h1 a ha)
  have e2 : post.countP (fun a => decide (a.2.birth < g.2.birth)) = 0 := List.countP_eq_zero.2 (fun a ha => by have := h4 a ha; simp; omega)
  rw [e1, e2]
  simp
theorem Inc.parts {pre post : List (Nat × Ent)} {g : Nat × Ent} (h : Inc (pre ++ g :: post)) : (∀ a ∈ pre, a.2.birth < g.2.birth) ∧ (∀ a ∈ post, g.2.birth < a.2.birth) ∧ Inc pre := by
  have hu := List.pairwise_append.1 h.up
  exact ⟨fun a ha => hu.2.2 a ha g (by simp), (List.pairwise_cons.1 hu.2.1).1, hu.1, fun a ha => h.lo a (by simp [ha]), fun a ha => h.hi a (by simp [ha])⟩
theorem Inc.last {pre : List (Nat × Ent)} (h : Inc pre) : (∀ a ∈ pre, a.2.birth ≤ lastB pre) ∧ 0 ≤ lastB pre ∧ lastB pre < 18446744073709551615 ∧ (pre = [] ∧ lastB pre = 0 ∨ ∃ a ∈ pre, lastB pre = a.2.birth) := by
  rcases List.eq_nil_or_concat pre with rfl | ⟨p, g, rfl⟩
  · exact ⟨by simp, by simp [lastB], by simp [lastB], .inl ⟨rfl, rfl⟩⟩
  · rw [List.concat_eq_append] at h ⊢
    rw [lastB_snoc]
    obtain ⟨h1, _, _⟩ := Inc.parts (post := []) h
    refine ⟨fun a ha => ?_, Int.le_of_lt (h.lo g (by simp)), h.hi g (by simp), .inr ⟨g, by simp, rfl⟩⟩
    rcases List.mem_append.1 ha with ha | ha
    · exact Int.le_of_lt (h1 a ha)
    · simp at ha; subst ha; exact Int.le_refl _
theorem Inc.lastlt {pre post : List (Nat × Ent)} {g : Nat × Ent} (h : Inc (pre ++ g :: post)) : lastB pre < g.2.birth := by
  obtain ⟨h1, _, h3⟩ := h.parts
  rcases h3.last.2.2.2 with ⟨_, e⟩ | ⟨a, ha, e⟩
  · rw [e]; exact h.lo g (by simp)
  · rw [e]; exact h1 a ha
/-- The laws of the entry behind pre. -/
theorem after_at {L : List (Option Ent)} {pre post : List (Nat × Ent)} {g : Nat × Ent} (hl : live L = pre ++ g :: post) (h : Inc (live L)) {b : Int} (h0 : 0 ≤ b) (h1 : ∀ a ∈ pre, a.2.birth ≤ b) (h2 : b < g.2.birth) : isP (afterV L b.toNat) g.1 0 = true := by
  rw [hl] at h
  obtain ⟨p1, p2, p3⟩ := h.parts
  have hg := h.hi g (by simp)
  have hb : (b.toNat : Int) = b := Int.toNat_of_nonneg h0
  unfold afterV
  rw [if_pos (by omega), hl, hb, firstM_hit (fun a ha => by have := h1 a ha; omega) (by omega) (by omega) p2]
  simp [isP]
theorem after_end {L : List (Option Ent)} {b : Int} (h0 : 0 ≤ b) (h1 : ∀ a ∈ live L, a.2.birth ≤ b) : isP (afterV L b.toNat) 0 14 = true := by
  have hb : (b.toNat : Int) = b := Int.toNat_of_nonneg h0
  unfold afterV
  split
  · rw [hb, firstM_none (fun a ha => by have := h1 a ha; omega)]; simp [isP]
  · simp [isP]
theorem find_at {L : List (Option Ent)} {pre post : List (Nat × Ent)} {g : Nat × Ent} (hl : live L = pre ++ g :: post) (h : Inc (live L)) : isP (findBV L g.2.birth.toNat) g.1 0 = true := by
  rw [hl] at h
  obtain ⟨p1, p2, p3⟩ := h.parts
  have hb : (g.2.birth.toNat : Int) = g.2.birth := Int.toNat_of_nonneg (Int.le_of_lt (h.lo g (by simp)))
  unfold findBV
  rw [hl, hb, firstM_hit p1 (Int.le_refl _) (Int.le_refl _) p2]
  simp [isP]
theorem sorted_inc : ∀ {G : List (Nat × Ent)} {b : Int}, Inc G → (∀ a ∈ G, b < a.2.birth) → sortedF b G = true
  | [], _, _, _ => rfl
  | g :: G, b, h, hb => by
    have hu := List.pairwise_cons.1 h.up
    have h1 := hb g (by simp)
    unfold sortedF
    rw [if_neg (by omega)]
    exact sorted_inc ⟨hu.2, fun a ha => h.lo a (by simp [ha]), fun a ha => h.hi a (by simp [ha])⟩ hu.1

/-! ### without tombstones -/
theorem liveFrom_somes : ∀ (G : List (Nat × Ent)) (i : Nat), ∀ a ∈ liveFrom i (G.map (fun g : Nat × Ent => some g.2)), ∃ b ∈ G, a.2 = b.2
  | [], i, a, h => by simp [liveFrom] at h
  | g :: G, i, a, h => by
    simp only [List.map_cons, liveFrom, List.mem_cons] at h
    rcases h with rfl | h
    · exact ⟨g, by simp, rfl⟩
    · obtain ⟨b, hb, e⟩ := liveFrom_somes G (i + 1) a h
      exact ⟨b, by simp [hb], e⟩
theorem live_pack {L : List (Option Ent)} {pre post : List (Nat × Ent)} {g : Nat × Ent} (hl : live L = pre ++ g :: post) :
    ∃ pre' post', live (packL L) = pre' ++ (pre.length, g.2) :: post' ∧ pre'.length = pre.length ∧ (∀ a ∈ pre', ∃ b ∈ pre, a.2 = b.2) ∧ ∀ a ∈ post', ∃ b ∈ post, a.2 = b.2 := by
  refine ⟨liveFrom 0 (pre.map (fun g : Nat × Ent => some g.2)), liveFrom (pre.length + 1) (post.map (fun g : Nat × Ent => some g.2)), ?_, ?_, liveFrom_somes pre 0, liveFrom_somes post _⟩
  · unfold packL live
    rw [show liveFrom 0 L = pre ++ g :: post from hl, List.map_append, liveFrom_append, List.map_cons]
    simp [liveFrom]
  · have := liveOf_live' (pre.map (fun g : Nat × Ent => some g.2)) 0
    rw [this]
    unfold liveOf
    rw [List.countP_eq_length.2 (fun a ha => by obtain ⟨b, _, rfl⟩ := List.mem_map.1 ha; rfl), List.length_map]
theorem Inc.pack {L : List (Option Ent)} (h : Inc (live L)) : Inc (live (packL L)) := by
  have hsub := liveFrom_somes (live L) 0
  refine ⟨?_, fun a ha => by obtain ⟨b, hb, e⟩ := hsub a ha; rw [e]; exact h.lo b hb, fun a ha => by obtain ⟨b, hb, e⟩ := hsub a ha; rw [e]; exact h.hi b hb⟩
  unfold packL
  have : ∀ (G : List (Nat × Ent)) (i : Nat), G.Pairwise (fun a b => a.2.birth < b.2.birth) → (liveFrom i (G.map (fun g : Nat × Ent => some g.2))).Pairwise (fun a b => a.2.birth < b.2.birth) := by
    intro G
    induction G with
    | nil => intro i _; exact List.Pairwise.nil
    | cons g G ih =>
      intro i hG
      have hu := List.pairwise_cons.1 hG
      simp only [List.map_cons, liveFrom, List.pairwise_cons]
      refine ⟨fun a ha => ?_, ih (i + 1) hu.2⟩
      obtain ⟨b, hb, e⟩ := liveFrom_somes G (i + 1) a ha
      rw [e]; exact hu.1 b hb
  exact this _ 0 h.up
/-- What is asked of d and of x at the entry behind pre. -/
theorem birth_laws {L : List (Option Ent)} {pre post : List (Nat × Ent)} {g : Nat × Ent} (hl : live L = pre ++ g :: post) (h : Inc (live L)) :
    isP (afterV L (lastB pre).toNat) g.1 0 = true ∧ isP (afterV (packL L) (lastB pre).toNat) pre.length 0 = true ∧ isP (findBV L g.2.birth.toNat) g.1 0 = true ∧ rankL (live L) g.2.birth = pre.length ∧ rankL (live (packL L)) g.2.birth = pre.length := by
  have h' := h
  rw [hl] at h'
  obtain ⟨p1, p2, p3⟩ := h'.parts
  obtain ⟨l1, l2, l3, _⟩ := p3.last
  have l4 := h'.lastlt
  obtain ⟨pre', post', e, el, s1, s2⟩ := live_pack hl
  refine ⟨after_at hl h l2 l1 l4, ?_, find_at hl h, by rw [hl]; exact rank_at p1 p2, ?_⟩
  · exact after_at (g := (pre.length, g.2)) e h.pack l2 (fun a ha => by obtain ⟨b, hb, eb⟩ := s1 a ha; rw [eb]; exact l1 b hb) l4
  · rw [e, ← el]
    have := rank_at (pre := pre') (post := post') (g := (pre.length, g.2)) (fun a ha => by obtain ⟨b, hb, eb⟩ := s1 a ha; rw [eb]; exact p1 b hb) (fun a ha => by obtain ⟨b, hb, eb⟩ := s2 a ha; rw [eb]; exact p2 b hb)
    rw [el]
    rw [el] at this
    exact this
end Go.Proofs.YtpafcocciggfpaaGreat
