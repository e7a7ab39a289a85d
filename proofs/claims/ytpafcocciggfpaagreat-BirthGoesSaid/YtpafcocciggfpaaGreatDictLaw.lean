/- Plain laws of a dictionary: what its index holds, that there is room behind a plan, what is found. -/
import Derived.Test.YtpafcocciggfpaaGreatGrowth
import Derived.Test.YtpafcocciggfpaaGreatHash
import Derived.Test.YtpafcocciggfpaaGreatRehLaw
import Derived.Test.YtpafcocciggfpaaGreatRem2
import Derived.Test.YtpafcocciggfpaaGreatLogA
namespace Go.Proofs.YtpafcocciggfpaaGreat
open Go.RowKit Go.Shelf

/-! ### the keys of a log -/
theorem ba_beq (a b : ByteArray) : (a == b) = true ↔ a = b := by
  cases a; cases b
  rename_i x y
  show (x == y) = true ↔ _
  simp
def liveS (L : List (Option Ent)) (s : Nat) : Prop := ∃ e, L[s]? = some (some e)
def sumL (seed : Nat) (same : Bool) (L : List (Option Ent)) (s : Nat) : Nat := sumS seed same (keyL L s)
theorem hasL_iff {L : List (Option Ent)} {s : Nat} : hasL L s = true ↔ liveS L s := by
  unfold hasL liveS
  split
  · rename_i e h; exact ⟨fun _ => ⟨e, h⟩, fun _ => rfl⟩
  · rename_i h; exact ⟨fun h => by simp at h, fun ⟨e, h2⟩ => absurd h2 (h e)⟩
theorem keyL_some {L : List (Option Ent)} {s : Nat} {e : Ent} (h : L[s]? = some (some e)) : keyL L s = e.key := by unfold keyL; rw [h]
theorem ba_list (a b : ByteArray) : (a.toList == b.toList) = (a == b) := by
  rw [Bool.eq_iff_iff, ba_beq, beq_iff_eq, ByteArray.toList_eq, ByteArray.toList_eq]
  exact ⟨fun h => ByteArray.ext (Array.toList_inj.1 h), fun h => by rw [h]⟩
/-- No two entries have one key. -/
def KeysOk (L : List (Option Ent)) : Prop := ∀ (s t : Nat) (e f : Ent), L[s]? = some (some e) → L[t]? = some (some f) → e.key = f.key → s = t
def isK (key : ByteArray) (o : Option Ent) : Bool := match o with
  | some e => e.key == key
  | none => false
/-- The slot number of the entry with a key. -/
def findK (L : List (Option Ent)) (key : ByteArray) : Option Nat := L.findIdx? (isK key)
theorem isK_iff {key : ByteArray} {o : Option Ent} : isK key o = true ↔ ∃ e, o = some e ∧ e.key = key := by
  cases o with
  | none => simp [isK]
  | some e => simp [isK, ba_beq]
theorem findK_some {L : List (Option Ent)} {key : ByteArray} {s : Nat} (h : findK L key = some s) : ∃ e : Ent, L[s]? = some (some e) ∧ e.key = key := by
  unfold findK at h
  obtain ⟨hl, hp, _⟩ := List.findIdx?_eq_some_iff_getElem.1 h
  obtain ⟨e, he, hk⟩ := isK_iff.1 hp
  exact ⟨e, by rw [List.getElem?_eq_getElem hl, he], hk⟩
theorem findK_none {L : List (Option Ent)} {key : ByteArray} (h : findK L key = none) : ∀ (s : Nat) (e : Ent), L[s]? = some (some e) → e.key ≠ key := by
  unfold findK at h
  rw [List.findIdx?_eq_none_iff] at h
  intro s e hs hk
  have := h _ (List.mem_of_getElem? hs)
  rw [isK_iff.2 ⟨e, rfl, hk⟩] at this
  cases this
theorem findK_eq {L : List (Option Ent)} (hk : KeysOk L) {s : Nat} {e : Ent} (h : L[s]? = some (some e)) : findK L e.key = some s := by
  cases hf : findK L e.key with
  | none => exact absurd rfl (findK_none hf s e h)
  | some t =>
    obtain ⟨f, h1, h2⟩ := findK_some hf
    rw [hk t s f e h1 h h2]
theorem findK_not {L : List (Option Ent)} {key : ByteArray} (h : ∀ (s : Nat) (e : Ent), L[s]? = some (some e) → e.key ≠ key) : findK L key = none := by
  cases hf : findK L key with
  | none => rfl
  | some t =>
    obtain ⟨f, h1, h2⟩ := findK_some hf
    exact absurd h2 (h t f h1)

/-! ### what is held -/
theorem Holds.congr {H H' : Nat → Nat} {S : Nat → Prop} {Gs : List Grp} (h : Holds H S Gs) (he : ∀ s, S s → H s = H' s) : Holds H' S Gs :=
  ⟨h.ok, fun i j t s hf => by rw [← he s ((h.mem s).2 ⟨i, j, t, hf⟩)]; exact h.tag i j t s hf, fun i j t s hf => by rw [← he s ((h.mem s).2 ⟨i, j, t, hf⟩)]; exact h.reach i j t s hf, h.uniq, h.mem⟩
/-- The index of a log's entries. -/
structure Keeps (seed : Nat) (same : Bool) (L : List (Option Ent)) (Gs : List Grp) : Prop where
  holds : Holds (sumL seed same L) (liveS L) Gs
  keys : KeysOk L
  used : usedN Gs = liveOf L
theorem foldM_lt' {h : Nat} (hh : h < 18446744073709551616) (l : List UInt8) : foldM h l < 18446744073709551616 := foldM_lt hh l
theorem mixM_lt {n : Nat} : mixM n < 18446744073709551616 := by
  have h1 : mix5 n < 2 ^ 64 := mix5_lt n
  exact Nat.xor_lt_two_pow h1 (Nat.lt_of_le_of_lt (Nat.div_le_self _ _) h1)
theorem sumL_lt (seed : Nat) (same : Bool) (L : List (Option Ent)) (s : Nat) : sumL seed same L s < 18446744073709551616 := mixM_lt
theorem full_slot {H : Nat → Nat} {S : Nat → Prop} {Gs : List Grp} (h : Holds H S Gs) {sum : Nat} {x : Nat × Nat} (hx : x ∈ seenM Gs sum) : S (slotAt Gs x) := (h.mem _).2 ⟨_, _, _, seen_full h.ok hx⟩
/-- What is found by a key. -/
theorem Keeps.find {seed : Nat} {same : Bool} {L : List (Option Ent)} {Gs : List Grp} (h : Keeps seed same L Gs) {w w' : World} {D : Nat → Prop} {p : Nat} {sv : Value} {key : ByteArray} {C : TypeId → Prop} {J : List Nat → World → Prop} {e : Ending}
    (hp : IFindPost w D p sv Gs (sumS seed same key) (fun _ s => keyL L s == key) C J e w') :
    e = .returned (.tuple (match findK L key with | some s => #[.int .u32 s, .int .i64 0] | none => #[.int .u32 0, .int .i64 9])) := by
  obtain ⟨_, _, ⟨a, x, post, h1, h2, h3, h4, h5⟩ | ⟨h1, h2, h3⟩⟩ := hp
  · have hx : x ∈ seenM Gs (sumS seed same key) := by rw [h1]; simp
    obtain ⟨f, hf⟩ := full_slot h.holds hx
    have hk : f.key = key := by
      have : (keyL L (slotAt Gs x) == key) = true := h3
      rw [keyL_some hf] at this
      exact (ba_beq _ _).1 this
    have := findK_eq h.keys hf
    rw [hk] at this
    rw [this]
    exact h4
  · have : findK L key = none := by
      refine findK_not (fun s f hs hk => ?_)
      obtain ⟨i, j, hm, hF⟩ := h.holds.find_some (s := s) ⟨f, hs⟩
      have e1 : sumL seed same L s = sumS seed same key := by unfold sumL; rw [keyL_some hs, hk]
      rw [e1] at hm
      unfold findM at hm
      have hx := List.mem_of_find?_eq_some hm
      have := falses_mem h1 _ (List.mem_map.2 ⟨_, hx, rfl⟩)
      rw [hF.slot, keyL_some hs, hk, (ba_beq key key).2 rfl] at this
      cases this
    rw [this]
    exact h2

/-! ### plans -/
theorem used_tomb_le : ∀ {Gs : List Grp}, (∀ c ∈ Gs, GrpOk c) → usedN Gs + tombN Gs ≤ 8 * Gs.length
  | [], _ => by simp [usedN, tombN]
  | c :: Gs, h => by
    have h1 := used_tomb_le (Gs := Gs) (fun c hc => h c (by simp [hc]))
    have h2 : ∀ l : List Nat, l.countP (· < 128) + l.countP (· == 254) ≤ l.length := by
      intro l
      induction l with
      | nil => simp
      | cons a l ih =>
        simp only [List.countP_cons, List.length_cons]
        by_cases c1 : a < 128
        · have : (a == 254) = false := by simp; omega
          simp [c1, this] at *; omega
        · by_cases c2 : (a == 254) = true
          · simp [c1, c2] at *; omega
          · simp [c1, c2] at *; omega
    have h3 := h2 c.1
    rw [(h c (by simp)).ctl.1] at h3
    unfold usedN tombN at *
    simp only [List.map_cons, List.sum_cons, List.length_cons]
    omega
theorem Pow.dbl {g : Nat} (h : Pow g) (hlt : g < 1048576) : Pow (2 * g) := by
  obtain ⟨k, hk, rfl⟩ := h
  refine ⟨k + 1, ?_, by rw [Nat.pow_succ]; omega⟩
  have : k ≠ 20 := by rintro rfl; omega
  omega
/-- What a plan does to an index. -/
def doG (H : Nat → Nat) (x : Nat × Bool) (Gs : List Grp) : List Grp := if x.2 then rehM H x.1 Gs else Gs
theorem plan_ok {Gs : List Grp} (h : IxOk Gs) (hl : usedN Gs ≤ 4194304) : ∃ x, planI Gs.length (usedN Gs) (tombN Gs) = some x ∧ Pow x.1 ∧ usedN Gs < 8 * x.1 ∧ (x.2 = false → x.1 = Gs.length) := by
  have hp := h.pow
  have h0 := hp.pos; have h1 := hp.le
  unfold planI
  split
  · exact ⟨_, rfl, hp, by show _ < 8 * Gs.length; omega, fun _ => rfl⟩
  · split
    · exact ⟨_, rfl, hp, by show _ < 8 * Gs.length; omega, by simp⟩
    · have h2 := used_le8 h
      split
      · rename_i h3
        exact ⟨_, rfl, hp.dbl h3, by show _ < 8 * (2 * Gs.length); omega, by simp⟩
      · have h4 : Gs.length = 1048576 := by omega
        rw [if_pos (by omega)]
        exact ⟨_, rfl, hp, by show _ < 8 * Gs.length; omega, by simp⟩
theorem Holds.do {H : Nat → Nat} {S : Nat → Prop} {Gs : List Grp} (h : Holds H S Gs) {x : Nat × Bool} (hx : Pow x.1) (hu : usedN Gs ≤ 8 * x.1) (hn : x.2 = false → x.1 = Gs.length) :
    Holds H S (doG H x Gs) ∧ usedN (doG H x Gs) = usedN Gs ∧ (doG H x Gs).length = x.1 := by
  unfold doG
  cases hb : x.2 with
  | false => exact ⟨h, rfl, (hn hb).symm⟩
  | true =>
    obtain ⟨h1, h2, h3, _⟩ := h.rehash hx hu
    exact ⟨h1, h2, h3⟩
/-- What an index is behind a slot number that is put in by a plan. -/
def putM (H : Nat → Nat) (Gs : List Grp) (s : Nat) : List Grp := insD H (doG H ((planI Gs.length (usedN Gs) (tombN Gs)).getD (0, false)) Gs) s
theorem Holds.put {H : Nat → Nat} {S : Nat → Prop} {Gs : List Grp} (h : Holds H S Gs) (hl : usedN Gs ≤ 4194304) {s : Nat} (hs : s ≤ 4294967295) (hn : ¬ S s) :
    ∃ x, planI Gs.length (usedN Gs) (tombN Gs) = some x ∧ Pow x.1 ∧ usedN Gs ≤ 8 * x.1 ∧ (x.2 = false → x.1 = Gs.length) ∧ Holds H S (doG H x Gs) ∧ insM (doG H x Gs) (H s) s = some (putM H Gs s) ∧
      Holds H (fun y => y = s ∨ S y) (putM H Gs s) ∧ usedN (putM H Gs s) = usedN Gs + 1 := by
  obtain ⟨x, h1, h2, h3, h4⟩ := plan_ok h.ok hl
  obtain ⟨k1, k2, k3⟩ := h.do h2 (Nat.le_of_lt h3) h4
  have hm : ∃ o, insM (doG H x Gs) (H s) s = some o := by
    cases e : insM (doG H x Gs) (H s) s with
    | some o => exact ⟨o, rfl⟩
    | none =>
      have := (ins_none k1.ok _ _).1 e
      rw [k2, k3] at this
      omega
  obtain ⟨o, ho⟩ := hm
  have e : putM H Gs s = o := by
    unfold putM insD
    rw [h1]
    simp [ho]
  rw [e]
  refine ⟨x, h1, h2, Nat.le_of_lt h3, h4, k1, ho, k1.ins hs hn ho, ?_⟩
  rw [(ins_counts k1.ok hs ho).1, k2]
/-- An entry more. -/
theorem keyL_append (L : List (Option Ent)) (o : Option Ent) {s : Nat} (h : s < L.length) : keyL (L ++ [o]) s = keyL L s := by
  unfold keyL
  rw [List.getElem?_append_left h]
theorem liveS_lt {L : List (Option Ent)} {s : Nat} (h : liveS L s) : s < L.length := by
  obtain ⟨e, h⟩ := h
  exact (List.getElem?_eq_some_iff.1 h).1
theorem liveS_append (L : List (Option Ent)) (x : Ent) (s : Nat) : liveS (L ++ [some x]) s ↔ s = L.length ∨ liveS L s := by
  constructor
  · rintro ⟨e, h⟩
    rcases Nat.lt_trichotomy s L.length with hl | hl | hl
    · rw [List.getElem?_append_left hl] at h; exact .inr ⟨e, h⟩
    · exact .inl hl
    · rw [List.getElem?_eq_none (by simp; omega)] at h; cases h
  · rintro (rfl | h)
    · exact ⟨x, by simp⟩
    · obtain ⟨e, he⟩ := id h
      exact ⟨e, by rw [List.getElem?_append_left (liveS_lt h)]; exact he⟩
theorem keys_append {L : List (Option Ent)} (h : KeysOk L) {x : Ent} (hx : findK L x.key = none) : KeysOk (L ++ [some x]) := by
  have hn := findK_none hx
  have hc : ∀ s e, (L ++ [some x])[s]? = some (some e) → (s < L.length ∧ L[s]? = some (some e)) ∨ (s = L.length ∧ e = x) := by
    intro s e hs
    rcases Nat.lt_trichotomy s L.length with hl | hl | hl
    · rw [List.getElem?_append_left hl] at hs; exact .inl ⟨hl, hs⟩
    · subst hl
      simp at hs
      exact .inr ⟨rfl, hs.symm⟩
    · rw [List.getElem?_eq_none (by simp; omega)] at hs; cases hs
  intro s t e f hs ht hk
  rcases hc s e hs with ⟨h1, h2⟩ | ⟨h1, h2⟩ <;> rcases hc t f ht with ⟨h3, h4⟩ | ⟨h3, h4⟩
  · exact h s t e f h2 h4 hk
  · subst h4; exact absurd hk (hn s e h2)
  · subst h2; exact absurd hk.symm (hn t f h4)
  · omega
theorem liveOf_append (L : List (Option Ent)) (x : Ent) : liveOf (L ++ [some x]) = liveOf L + 1 := by unfold liveOf; simp
theorem liveOf_le' (L : List (Option Ent)) : liveOf L ≤ L.length := List.countP_le_length
theorem Keeps.insert {seed : Nat} {same : Bool} {L : List (Option Ent)} {Gs : List Grp} (h : Keeps seed same L Gs) {x : Ent} (hx : findK L x.key = none) (hl : L.length ≤ 4194304) :
    Holds (sumL seed same (L ++ [some x])) (liveS L) Gs ∧ Keeps seed same (L ++ [some x]) (putM (sumL seed same (L ++ [some x])) Gs L.length) := by
  have h1 : Holds (sumL seed same (L ++ [some x])) (liveS L) Gs := h.holds.congr (fun s hs => by unfold sumL; rw [keyL_append _ _ (liveS_lt hs)])
  have h0 := liveOf_le' L
  obtain ⟨y, k1, k2, k3, k4, k5, k6, k7, k8⟩ := h1.put (by rw [h.used]; omega) (s := L.length) (by omega) (fun c => by have := liveS_lt c; omega)
  exact ⟨h1, k7.of_iff (fun s => (liveS_append L x s).symm), keys_append h.keys hx, by rw [k8, h.used, liveOf_append]⟩
theorem Keeps.new (seed : Nat) (same : Bool) : Keeps seed same [] (newG 1) :=
  ⟨(newG_holds _ ⟨0, by decide, rfl⟩).of_iff (fun s => ⟨fun h => h.elim, fun ⟨e, h⟩ => by simp at h⟩), fun s t e f h => by simp at h, by rw [newG_used]; rfl⟩
end Go.Proofs.YtpafcocciggfpaaGreat
