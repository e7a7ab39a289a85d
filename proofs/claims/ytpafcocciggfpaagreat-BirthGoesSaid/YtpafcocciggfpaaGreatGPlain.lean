/- Plain: births that increase by steps, which of them are there, and the log that has just these. -/
import Derived.Test.YtpafcocciggfpaaGreatBHold
namespace Go.Proofs.YtpafcocciggfpaaGreat
open Go.RowKit Go.Shelf

def lastG (ss : List Nat) (j : Nat) : Nat := ((ss.take j).map (· + 1)).sum
theorem lastG_succ {ss : List Nat} {j s : Nat} (h : ss[j]? = some s) : lastG ss (j + 1) = lastG ss j + s + 1 := by
  unfold lastG
  rw [List.take_add_one, h]
  simp
  omega
theorem lastG_le {ss : List Nat} (h : ∀ s ∈ ss, s < 256) : ∀ j, lastG ss j ≤ 256 * j := by
  intro j
  induction j with
  | zero => simp [lastG]
  | succ j ih =>
    cases hs : ss[j]? with
    | none => unfold lastG at *; rw [List.take_add_one, hs]; simp at *; omega
    | some s =>
      rw [lastG_succ hs]
      have := h s (List.mem_of_getElem? hs)
      omega
def BG (ss : List Nat) (j : Nat) : List Nat := (List.range j).map (fun i => lastG ss (i + 1))
theorem BG_succ (ss : List Nat) (j : Nat) : BG ss (j + 1) = BG ss j ++ [lastG ss (j + 1)] := by simp [BG, List.range_succ]
theorem BG_length (ss : List Nat) (j : Nat) : (BG ss j).length = j := by simp [BG]
def eG (ss : List Nat) (i : Nat) : Ent := ⟨⟨#[UInt8.ofNat i]⟩, [], 0, (lastG ss (i + 1) : Nat)⟩
def LG (ss : List Nat) (j : Nat) : List (Option Ent) := (List.range j).map (fun i => some (eG ss i))
theorem LG_succ (ss : List Nat) (j : Nat) : LG ss (j + 1) = LG ss j ++ [some (eG ss j)] := by simp [LG, List.range_succ]
theorem LG_length (ss : List Nat) (j : Nat) : (LG ss j).length = j := by simp [LG]
theorem LG_get {ss : List Nat} {n s : Nat} {e : Ent} (h : (LG ss n)[s]? = some (some e)) : s < n ∧ e = eG ss s := by
  unfold LG at h
  rw [List.getElem?_map] at h
  by_cases hs : s < n
  · rw [List.getElem?_range hs] at h
    simp at h
    exact ⟨hs, h.symm⟩
  · rw [List.getElem?_eq_none (by simpa using hs)] at h; cases h
theorem LG_find {ss : List Nat} {n : Nat} (hn : n ≤ 255) : findK (LG ss n) (eG ss n).key = none := by
  refine findK_not (fun s e hs hk => ?_)
  obtain ⟨h1, rfl⟩ := LG_get hs
  have := congrArg (fun b : ByteArray => b.data.toList) hk
  simp [eG] at this
  have h2 := congrArg UInt8.toNat this
  rw [u8_of s (by omega), u8_of n hn] at h2
  omega
theorem lastG_lt {ss : List Nat} : ∀ {k i : Nat}, i < k → k ≤ ss.length → lastG ss i < lastG ss k := by
  intro k
  induction k with
  | zero => intro i h; omega
  | succ k ih =>
    intro i h hk
    obtain ⟨s, hs⟩ : ∃ s, ss[k]? = some s := ⟨_, List.getElem?_eq_getElem (by omega)⟩
    rw [lastG_succ hs]
    rcases Nat.lt_or_ge i k with h1 | h1
    · have := ih h1 (by omega); omega
    · have : i = k := by omega
      subst this; omega
theorem LG_inc {ss : List Nat} {n : Nat} (hs : ∀ s ∈ ss, s < 256) (hn : n ≤ ss.length) (h60 : n ≤ 60) : IncL (LG ss n) := by
  refine ⟨fun s t e f h1 h2 hlt => ?_, fun s e h1 => ?_⟩
  · obtain ⟨_, rfl⟩ := LG_get h1
    obtain ⟨h3, rfl⟩ := LG_get h2
    show ((lastG ss (s + 1) : Nat) : Int) < ((lastG ss (t + 1) : Nat) : Int)
    have := lastG_lt (ss := ss) (i := s + 1) (k := t + 1) (by omega) (by omega)
    omega
  · obtain ⟨h2, rfl⟩ := LG_get h1
    show 0 < ((lastG ss (s + 1) : Nat) : Int) ∧ ((lastG ss (s + 1) : Nat) : Int) < 18446744073709551615
    have := lastG_lt (ss := ss) (i := 0) (k := s + 1) (by omega) (by omega)
    have := lastG_le hs (s + 1)
    omega

/-! ### which are there -/
def liveB (L : List (Option Ent)) : List Int := (live L).map (fun g => g.2.birth)
def selB (Z : List (Nat × Bool)) : List Int := (Z.filter (fun p => p.2)).map (fun p => (p.1 : Int))
theorem liveFrom_all : ∀ (l : List Ent) (i : Nat), (liveFrom i (l.map some)).map (fun g => g.2.birth) = l.map (fun e => e.birth)
  | [], _ => rfl
  | e :: l, i => by simp [liveFrom, liveFrom_all l (i + 1)]
theorem sel_start (ss : List Nat) (n : Nat) : liveB (LG ss n) = selB ((BG ss n).zip (List.replicate n true)) := by
  have h1 : liveB (LG ss n) = (List.range n).map (fun i => ((lastG ss (i + 1) : Nat) : Int)) := by
    unfold liveB live LG
    have := liveFrom_all ((List.range n).map (fun i => eG ss i)) 0
    rw [List.map_map, List.map_map] at this
    exact this
  rw [h1]
  unfold selB BG
  have h2 : ∀ (l : List Nat), ((l.map (fun i => lastG ss (i + 1))).zip (List.replicate l.length true)).filter (fun p => p.2) = (l.map (fun i => (lastG ss (i + 1), true))) := by
    intro l
    induction l with
    | nil => rfl
    | cons a l ih => simp [List.replicate_succ, ih]
  have := h2 (List.range n)
  rw [List.length_range] at this
  rw [this, List.map_map]
  rfl
theorem liveB_pack (L : List (Option Ent)) : liveB (packL L) = liveB L := by
  unfold liveB packL live
  have := liveFrom_all ((liveFrom 0 L).map Prod.snd) 0
  rw [List.map_map, List.map_map] at this
  exact this
theorem IncL.pack {L : List (Option Ent)} (h : IncL L) : IncL (packL L) := by
  refine ⟨fun s t e f hs ht hlt => ?_, fun s e hs => ?_⟩
  · obtain ⟨a, h1, h2⟩ := packL_get hs
    obtain ⟨b, h3, h4⟩ := packL_get ht
    have hup := liveFrom_up' L 0
    rw [show liveFrom 0 L = live L from rfl, List.pairwise_iff_getElem] at hup
    obtain ⟨hi, ei⟩ := List.getElem?_eq_some_iff.1 h1
    obtain ⟨hj, ej⟩ := List.getElem?_eq_some_iff.1 h3
    have := hup s t (by simpa using hi) (by simpa using hj) hlt
    simp [ei, ej] at this
    exact h.up a b e f h2 h4 this
  · obtain ⟨a, h1, h2⟩ := packL_get hs
    exact h.lo a e h2
theorem liveFrom_set : ∀ (L : List (Option Ent)) (s i : Nat), liveFrom i (L.set s none) = (liveFrom i L).filter (fun g => g.1 != i + s)
  | [], s, i => rfl
  | o :: L, 0, i => by
    simp only [List.set_cons_zero, liveFrom, Nat.add_zero]
    have h : (liveFrom (i + 1) L).filter (fun g => g.1 != i) = liveFrom (i + 1) L := List.filter_eq_self.2 (fun g hg => by have := (liveFrom_mem hg).1; simp; omega)
    cases o with
    | none => simp [liveFrom, h]
    | some e => simp [liveFrom, h]
  | o :: L, s + 1, i => by
    have ih := liveFrom_set L s (i + 1)
    rw [show i + 1 + s = i + (s + 1) by omega] at ih
    cases o with
    | none => simp [liveFrom, ih]
    | some e =>
      simp only [List.set_cons_succ, liveFrom, ih]
      rw [List.filter_cons_of_pos (by simp)]
theorem liveB_set {L : List (Option Ent)} (h : IncL L) {s : Nat} {x : Ent} (hx : L[s]? = some (some x)) : liveB (L.set s none) = (liveB L).filter (fun b => b != x.birth) := by
  unfold liveB
  rw [show live (L.set s none) = _ from liveFrom_set L s 0, Nat.zero_add, List.filter_map]
  congr 1
  refine List.filter_congr (fun g hg => ?_)
  have hg' := live_mem hg
  show (g.1 != s) = (g.2.birth != x.birth)
  by_cases e : g.1 = s
  · rw [e, hx] at hg'
    have : g.2 = x := (Option.some.inj (Option.some.inj hg')).symm
    simp [e, this]
  · have : g.2.birth ≠ x.birth := by
      rcases Nat.lt_or_gt_of_ne e with h1 | h1
      · have := h.up g.1 s g.2 x hg' hx h1; omega
      · have := h.up s g.1 x g.2 hx hg' h1; omega
    rw [show (g.1 != s) = true from by simpa using e, show (g.2.birth != x.birth) = true from by simpa using this]
/-- What is there behind the removal of a birth. -/
def offT (b : Int) (Z : List (Nat × Bool)) : List (Nat × Bool) := Z.map (fun p => (p.1, p.2 && ((p.1 : Int) != b)))
theorem sel_off (b : Int) : ∀ Z : List (Nat × Bool), selB (offT b Z) = (selB Z).filter (fun x => x != b)
  | [] => rfl
  | (n, t) :: Z => by
    have ih := sel_off b Z
    unfold selB offT at *
    cases t with
    | false => simpa using ih
    | true =>
      by_cases h : (n : Int) = b
      · simp only [List.map_cons, h, bne_self_eq_false, Bool.and_false, List.filter_cons]
        simpa [h] using ih
      · have h2 : ((n : Int) != b) = true := by simpa using h
        simp only [List.map_cons, h2, Bool.and_self, List.filter_cons]
        simpa [h2] using ih
/-- The first one that is there above a number. -/
def wantG (Z : List (Nat × Bool)) (a : Nat) : Option Nat := Z.findIdx? (fun p => p.2 && decide (a < p.1))
theorem want_none {L : List (Option Ent)} {Z : List (Nat × Bool)} {a : Nat} (h : liveB L = selB Z) (hw : wantG Z a = none) : ∀ g ∈ live L, g.2.birth ≤ a := by
  intro g hg
  have hb : g.2.birth ∈ liveB L := List.mem_map.2 ⟨g, hg, rfl⟩
  rw [h] at hb
  obtain ⟨p, hp, e⟩ := List.mem_map.1 hb
  obtain ⟨hp1, hp2⟩ := List.mem_filter.1 hp
  unfold wantG at hw
  have := List.findIdx?_eq_none_iff.1 hw p hp1
  rw [hp2] at this
  simp at this
  omega
theorem want_some {L : List (Option Ent)} {Z : List (Nat × Bool)} {a i : Nat} (h : liveB L = selB Z) (hw : wantG Z a = some i) :
    ∃ pre g post b, live L = pre ++ g :: post ∧ (∀ x ∈ pre, x.2.birth ≤ (a : Int)) ∧ (a : Int) < g.2.birth ∧ Z[i]? = some (b, true) ∧ g.2.birth = (b : Int) := by
  unfold wantG at hw
  obtain ⟨hi, hp, hb⟩ := List.findIdx?_eq_some_iff_getElem.1 hw
  obtain ⟨⟨b, t⟩, hz⟩ : ∃ p, Z[i] = p := ⟨_, rfl⟩
  rw [hz] at hp
  simp at hp
  obtain ⟨rfl, hab⟩ := hp
  have hsplit : Z = Z.take i ++ (b, true) :: Z.drop (i + 1) := by
    rw [← hz, ← List.drop_eq_getElem_cons hi, List.take_append_drop]
  have hsel : selB Z = selB (Z.take i) ++ (b : Int) :: selB (Z.drop (i + 1)) := by
    have e1 : ∀ A B : List (Nat × Bool), selB (A ++ B) = selB A ++ selB B := fun A B => by simp [selB]
    have e2 : selB ((b, true) :: Z.drop (i + 1)) = (b : Int) :: selB (Z.drop (i + 1)) := by simp [selB]
    rw [← e2, ← e1, ← hsplit]
  rw [hsel] at h
  unfold liveB at h
  obtain ⟨pre, rest, hl, h1, h2⟩ := List.map_eq_append_iff.1 h
  obtain ⟨g, post, h3, h4, h5⟩ := List.map_eq_cons_iff.1 h2
  subst h3
  refine ⟨pre, g, post, b, hl, fun x hx => ?_, by omega, by rw [List.getElem?_eq_getElem hi, hz], h4⟩
  have : x.2.birth ∈ selB (Z.take i) := by rw [← h1]; exact List.mem_map.2 ⟨x, hx, rfl⟩
  obtain ⟨p, hp, e⟩ := List.mem_map.1 this
  obtain ⟨hp1, hp2⟩ := List.mem_filter.1 hp
  obtain ⟨j, hj⟩ := List.getElem?_of_mem hp1
  have hj1 : j < i := by have := (List.getElem?_eq_some_iff.1 hj).1; simp at this; omega
  have hjz : Z[j]'(by omega) = p := by
    rw [List.getElem?_take, if_pos hj1] at hj
    exact (List.getElem?_eq_some_iff.1 hj).2
  have := hb j hj1
  rw [hjz, hp2] at this
  simp at this
  omega
end Go.Proofs.YtpafcocciggfpaaGreat
