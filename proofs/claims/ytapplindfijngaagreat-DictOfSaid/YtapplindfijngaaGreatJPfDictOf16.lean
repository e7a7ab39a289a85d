/- Lemmas and contracts of functions, strung together out of 8 texts. No condition. -/
import Derived.Test.YtapplindfijngaaGreatJPfDictOf15
import Derived.Test.YtapplindfijngaaGreatJPfDictOf10
import Derived.Test.YtapplindfijngaaGreatJPfDictOf9
import Derived.Test.YtapplindfijngaaGreatJPfDictOf3
import Derived.Test.YtapplindfijngaaGreatJPfDictOf1
/- Plain: a rehash keeps what is held. -/
namespace Go.Proofs.YtapplindfijngaaGreat
open Go.RowKit Go.Shelf

theorem lanes_count8 : ∀ a b c d e f g i : Bool, (lanesOf (mask [a, b, c, d, e, f, g, i])).length = [a, b, c, d, e, f, g, i].countP id := by decide +kernel
theorem fullIn_length {c : Grp} (h : GrpOk c) : (fullIn c).length = c.1.countP (· < 128) := by
  obtain ⟨x0, x1, x2, x3, x4, x5, x6, x7, e⟩ := eight_of h.ctl.1
  unfold fullIn
  rw [e]
  simp only [List.map_cons, List.map_nil]
  rw [lanes_count8]
  simp only [List.countP_cons, List.countP_nil, id]
theorem fulls_length {Gs : List Grp} (h : IxOk Gs) : (Gs.flatMap fullS).length = usedN Gs := by
  unfold usedN
  rw [List.length_flatMap]
  congr 1
  refine List.map_congr_left (fun c hc => ?_)
  unfold fullS
  rw [List.length_map, fullIn_length (h.grp c hc)]
theorem fullIn_mem {c : Grp} (hc : GrpOk c) (j : Nat) : j ∈ fullIn c ↔ j < 8 ∧ ∃ t, c.1[j]? = some t ∧ t < 128 := by
  unfold fullIn
  rw [lanes_mask (by simp [hc.ctl.1])]
  simp only [List.mem_filter, List.mem_range, List.getD_eq_getElem?_getD, List.getElem?_map]
  cases c.1[j]? <;> simp
theorem fullIn_lt (c : Grp) : (fullIn c).Pairwise (· < ·) := by
  unfold fullIn lanesOf
  exact List.Pairwise.filter _ List.pairwise_lt_range
theorem full_mem {Gs : List Grp} (h : IxOk Gs) (s : Nat) : s ∈ Gs.flatMap fullS ↔ ∃ i j t, FullAt Gs i j t s := by
  have hin : ∀ c, GrpOk c → ∀ j, j ∈ fullIn c ↔ j < 8 ∧ ∃ t, c.1[j]? = some t ∧ t < 128 := fun c hc j => by
    unfold fullIn
    rw [lanes_mask (by simp [hc.ctl.1])]
    simp only [List.mem_filter, List.mem_range, List.getD_eq_getElem?_getD, List.getElem?_map]
    cases c.1[j]? <;> simp
  constructor
  · intro hs
    obtain ⟨c, hc, hs⟩ := List.mem_flatMap.1 hs
    obtain ⟨j, hj, rfl⟩ := List.mem_map.1 hs
    obtain ⟨i, hi⟩ := List.getElem?_of_mem hc
    have hl : i < Gs.length := (List.getElem?_eq_some_iff.1 hi).1
    have e : grpAt Gs i = c := by have := grpAt_some hl; rw [hi] at this; cases this; rfl
    obtain ⟨hj8, t, ht, ht2⟩ := (hin c (h.grp c hc) j).1 hj
    exact ⟨i, j, t, hl, hj8, by rw [e]; exact ht, ht2, by unfold slotAt; rw [e]⟩
  · rintro ⟨i, j, t, hf⟩
    refine List.mem_flatMap.2 ⟨grpAt Gs i, List.mem_of_getElem? (grpAt_some hf.hi), List.mem_map.2 ⟨j, (hin _ (h.at hf.hi) j).2 ⟨hf.hj, t, hf.tag, hf.full⟩, hf.slot⟩⟩
theorem full_at {Gs : List Grp} {i : Nat} (h : IxOk Gs) (hi : i < Gs.length) {j : Nat} (hj : j ∈ fullIn (grpAt Gs i)) : ∃ t, FullAt Gs i j t ((grpAt Gs i).2.getD j 0) := by
  obtain ⟨h8, t, ht, ht2⟩ := (fullIn_mem (h.at hi) j).1 hj
  exact ⟨t, hi, h8, ht, ht2, rfl⟩
theorem Holds.nodup {H : Nat → Nat} {S : Nat → Prop} {Gs : List Grp} (h : Holds H S Gs) : (Gs.flatMap fullS).Nodup := by
  unfold List.Nodup
  rw [List.pairwise_flatMap]
  constructor
  · intro c hc
    obtain ⟨i, hi⟩ := List.getElem?_of_mem hc
    have hl : i < Gs.length := (List.getElem?_eq_some_iff.1 hi).1
    have e : grpAt Gs i = c := by have := grpAt_some hl; rw [hi] at this; cases this; rfl
    unfold fullS
    rw [List.pairwise_map]
    refine (fullIn_lt c).imp_of_mem (fun {a b} ha hb hab => ?_)
    intro e2
    rw [← e] at ha hb e2
    obtain ⟨t1, h1⟩ := full_at h.ok hl ha
    obtain ⟨t2, h2⟩ := full_at h.ok hl hb
    have := (h.uniq _ _ _ _ _ _ _ h1 (e2 ▸ h2)).2
    omega
  · rw [List.pairwise_iff_getElem]
    intro i j hi hj hij x hx y hy e
    have ei : grpAt Gs i = Gs[i] := by have := grpAt_some hi; rw [List.getElem?_eq_getElem hi] at this; exact (Option.some.inj this).symm
    have ej : grpAt Gs j = Gs[j] := by have := grpAt_some hj; rw [List.getElem?_eq_getElem hj] at this; exact (Option.some.inj this).symm
    obtain ⟨a, ha, rfl⟩ := List.mem_map.1 hx
    obtain ⟨b, hb, rfl⟩ := List.mem_map.1 hy
    rw [← ei] at ha e
    rw [← ej] at hb e
    obtain ⟨t1, h1⟩ := full_at h.ok hi ha
    obtain ⟨t2, h2⟩ := full_at h.ok hj hb
    have := (h.uniq _ _ _ _ _ _ _ h1 (e ▸ h2)).1
    omega
theorem ins_list {H : Nat → Nat} : ∀ (L : List Nat) (o : List Grp) (S : Nat → Prop), Holds H S o → (∀ s ∈ L, s ≤ 4294967295 ∧ ¬ S s) → L.Nodup → usedN o + L.length ≤ 8 * o.length →
    Holds H (fun s => S s ∨ s ∈ L) (L.foldl (insD H) o) ∧ usedN (L.foldl (insD H) o) = usedN o + L.length ∧ (L.foldl (insD H) o).length = o.length ∧ tombN (L.foldl (insD H) o) ≤ tombN o
  | [], o, S, h, _, _, _ => ⟨h.of_iff (by simp), rfl, rfl, Nat.le_refl _⟩
  | s :: L, o, S, h, hs, hn, hr => by
    obtain ⟨hs1, hs2⟩ := hs s (by simp)
    obtain ⟨o', ho⟩ : ∃ o', insM o (H s) s = some o' := by
      cases hc : insM o (H s) s with
      | some o' => exact ⟨o', rfl⟩
      | none =>
        have := (ins_none h.ok _ _).1 hc
        simp only [List.length_cons] at hr
        omega
    have e : insD H o s = o' := by unfold insD; rw [ho]; rfl
    obtain ⟨c1, c2, c3, c4⟩ := ins_counts h.ok hs1 ho
    have hi := h.ins hs1 hs2 ho
    simp only [List.foldl_cons, e]
    simp only [List.length_cons] at hr ⊢
    obtain ⟨k1, k2, k3, k4⟩ := ins_list L o' _ hi (fun x hx => ⟨(hs x (by simp [hx])).1, fun hx2 => by
      rcases hx2 with rfl | hx2
      · exact (List.nodup_cons.1 hn).1 hx
      · exact (hs x (by simp [hx])).2 hx2⟩) (List.nodup_cons.1 hn).2 (by omega)
    refine ⟨k1.of_iff (fun x => ?_), by omega, by omega, by omega⟩
    simp only [List.mem_cons]
    constructor
    · rintro ((h | h) | h)
      · exact .inr (.inl h)
      · exact .inl h
      · exact .inr (.inr h)
    · rintro (h | h | h)
      · exact .inl (.inr h)
      · exact .inl (.inl h)
      · exact .inr h
theorem Holds.rehash {H : Nat → Nat} {S : Nat → Prop} {Gs : List Grp} (h : Holds H S Gs) {g : Nat} (hg : Pow g) (hu : usedN Gs ≤ 8 * g) :
    Holds H S (rehM H g Gs) ∧ usedN (rehM H g Gs) = usedN Gs ∧ (rehM H g Gs).length = g ∧ tombN (rehM H g Gs) = 0 := by
  have hm : ∀ s, s ∈ Gs.flatMap fullS ↔ S s := fun s => (full_mem h.ok s).trans (h.mem s).symm
  have hlt : ∀ s ∈ Gs.flatMap fullS, s ≤ 4294967295 := by
    intro s hs
    obtain ⟨c, hc, hs⟩ := List.mem_flatMap.1 hs
    exact fullS_lt (h.ok.grp c hc) s hs
  obtain ⟨k1, k2, k3, k4⟩ := ins_list (Gs.flatMap fullS) (newG g) (fun _ => False) (newG_holds H hg) (fun s hs => ⟨hlt s hs, fun h => h⟩) h.nodup (by rw [fulls_length h.ok, newG_used, newG_length]; omega)
  unfold rehM
  rw [newG_used, fulls_length h.ok] at k2
  rw [newG_length] at k3
  rw [newG_tomb] at k4
  exact ⟨k1.of_iff (fun s => by simp [hm]), by omega, k3, by omega⟩
theorem countB_set (t : Bool) : ∀ (l : List Bool) (j : Nat) (a : Bool), l[j]? = some a → (l.set j t).countP id + a.toNat = l.countP id + t.toNat
  | [], _, _, h => by simp at h
  | b :: l, 0, a, h => by
    simp at h; subst h
    simp only [List.set_cons_zero, List.countP_cons]
    cases b <;> cases t <;> simp
  | b :: l, j + 1, a, h => by
    have := countB_set t l j a (by simpa using h)
    simp only [List.set_cons_succ, List.countP_cons]
    omega
end Go.Proofs.YtapplindfijngaaGreat

/- Plain laws of a dictionary: what its index holds, that there is room behind a plan, what is found. -/
namespace Go.Proofs.YtapplindfijngaaGreat
open Go.RowKit Go.Shelf

/-! ### the keys of a log -/
theorem ba_beq (a b : ByteArray) : (a == b) = true ↔ a = b := by
  cases a; cases b
  rename_i x y
  show (x == y) = true ↔ _
  simp
def liveS (L : List (Option Ent)) (s : Nat) : Prop := ∃ e, L[s]? = some (some e)
def sumL (seed : Nat) (same : Bool) (L : List (Option Ent)) (s : Nat) : Nat := sumS seed same (keyL L s)
theorem hasL_iff {L : List (Option Ent)} {s : Nat} : hasL L s = true ↔ liveS L s := by
  unfold hasL liveS
  split
  · rename_i e h; exact ⟨fun _ => ⟨e, h⟩, fun _ => rfl⟩
  · rename_i h; exact ⟨fun h => by simp at h, fun ⟨e, h2⟩ => absurd h2 (h e)⟩
theorem keyL_some {L : List (Option Ent)} {s : Nat} {e : Ent} (h : L[s]? = some (some e)) : keyL L s = e.key := by unfold keyL; rw [h]
theorem ba_list (a b : ByteArray) : (a.toList == b.toList) = (a == b) := by
  rw [Bool.eq_iff_iff, ba_beq, beq_iff_eq, ByteArray.toList_eq, ByteArray.toList_eq]
  exact ⟨fun h => ByteArray.ext (Array.toList_inj.1 h), fun h => by rw [h]⟩
/-- No two entries have one key. -/
def KeysOk (L : List (Option Ent)) : Prop := ∀ (s t : Nat) (e f : Ent), L[s]? = some (some e) → L[t]? = some (some f) → e.key = f.key → s = t
def isK (key : ByteArray) (o : Option Ent) : Bool := match o with
  | some e => e.key == key
  | none => false
/-- The slot number of the entry with a key. -/
def findK (L : List (Option Ent)) (key : ByteArray) : Option Nat := L.findIdx? (isK key)
theorem isK_iff {key : ByteArray} {o : Option Ent} : isK key o = true ↔ ∃ e, o = some e ∧ e.key = key := by
  cases o with
  | none => simp [isK]
  | some e => simp [isK, ba_beq]
theorem findK_some {L : List (Option Ent)} {key : ByteArray} {s : Nat} (h : findK L key = some s) : ∃ e : Ent, L[s]? = some (some e) ∧ e.key = key := by
  unfold findK at h
  obtain ⟨hl, hp, _⟩ := List.findIdx?_eq_some_iff_getElem.1 h
  obtain ⟨e, he, hk⟩ := isK_iff.1 hp
  exact ⟨e, by rw [List.getElem?_eq_getElem hl, he], hk⟩
theorem findK_none {L : List (Option Ent)} {key : ByteArray} (h : findK L key = none) : ∀ (s : Nat) (e : Ent), L[s]? = some (some e) → e.key ≠ key := by
  unfold findK at h
  rw [List.findIdx?_eq_none_iff] at h
  intro s e hs hk
  have := h _ (List.mem_of_getElem? hs)
  rw [isK_iff.2 ⟨e, rfl, hk⟩] at this
  cases this
theorem findK_eq {L : List (Option Ent)} (hk : KeysOk L) {s : Nat} {e : Ent} (h : L[s]? = some (some e)) : findK L e.key = some s := by
  cases hf : findK L e.key with
  | none => exact absurd rfl (findK_none hf s e h)
  | some t =>
    obtain ⟨f, h1, h2⟩ := findK_some hf
    rw [hk t s f e h1 h h2]
theorem findK_not {L : List (Option Ent)} {key : ByteArray} (h : ∀ (s : Nat) (e : Ent), L[s]? = some (some e) → e.key ≠ key) : findK L key = none := by
  cases hf : findK L key with
  | none => rfl
  | some t =>
    obtain ⟨f, h1, h2⟩ := findK_some hf
    exact absurd h2 (h t f h1)

/-! ### what is held -/
theorem Holds.congr {H H' : Nat → Nat} {S : Nat → Prop} {Gs : List Grp} (h : Holds H S Gs) (he : ∀ s, S s → H s = H' s) : Holds H' S Gs :=
  ⟨h.ok, fun i j t s hf => by rw [← he s ((h.mem s).2 ⟨i, j, t, hf⟩)]; exact h.tag i j t s hf, fun i j t s hf => by rw [← he s ((h.mem s).2 ⟨i, j, t, hf⟩)]; exact h.reach i j t s hf, h.uniq, h.mem⟩
/-- The index of a log's entries. -/
structure Keeps (seed : Nat) (same : Bool) (L : List (Option Ent)) (Gs : List Grp) : Prop where
  holds : Holds (sumL seed same L) (liveS L) Gs
  keys : KeysOk L
  used : usedN Gs = liveOf L
theorem foldM_lt' {h : Nat} (hh : h < 18446744073709551616) (l : List UInt8) : foldM h l < 18446744073709551616 := foldM_lt hh l
theorem mixM_lt {n : Nat} : mixM n < 18446744073709551616 := by
  have h1 : mix5 n < 2 ^ 64 := mix5_lt n
  exact Nat.xor_lt_two_pow h1 (Nat.lt_of_le_of_lt (Nat.div_le_self _ _) h1)
theorem sumL_lt (seed : Nat) (same : Bool) (L : List (Option Ent)) (s : Nat) : sumL seed same L s < 18446744073709551616 := mixM_lt
theorem full_slot {H : Nat → Nat} {S : Nat → Prop} {Gs : List Grp} (h : Holds H S Gs) {sum : Nat} {x : Nat × Nat} (hx : x ∈ seenM Gs sum) : S (slotAt Gs x) := (h.mem _).2 ⟨_, _, _, seen_full h.ok hx⟩
/-- What is found by a key. -/
theorem Keeps.find {seed : Nat} {same : Bool} {L : List (Option Ent)} {Gs : List Grp} (h : Keeps seed same L Gs) {w w' : World} {D : Nat → Prop} {p : Nat} {sv : Value} {key : ByteArray} {C : TypeId → Prop} {J : List Nat → World → Prop} {e : Ending}
    (hp : IFindPost w D p sv Gs (sumS seed same key) (fun _ s => keyL L s == key) C J e w') :
    e = .returned (.tuple (match findK L key with | some s => #[.int .u32 s, .int .i64 0] | none => #[.int .u32 0, .int .i64 9])) := by
  obtain ⟨_, _, ⟨a, x, post, h1, h2, h3, h4, h5⟩ | ⟨h1, h2, h3⟩⟩ := hp
  · have hx : x ∈ seenM Gs (sumS seed same key) := by rw [h1]; simp
    obtain ⟨f, hf⟩ := full_slot h.holds hx
    have hk : f.key = key := by
      have : (keyL L (slotAt Gs x) == key) = true := h3
      rw [keyL_some hf] at this
      exact (ba_beq _ _).1 this
    have := findK_eq h.keys hf
    rw [hk] at this
    rw [this]
    exact h4
  · have : findK L key = none := by
      refine findK_not (fun s f hs hk => ?_)
      obtain ⟨i, j, hm, hF⟩ := h.holds.find_some (s := s) ⟨f, hs⟩
      have e1 : sumL seed same L s = sumS seed same key := by unfold sumL; rw [keyL_some hs, hk]
      rw [e1] at hm
      unfold findM at hm
      have hx := List.mem_of_find?_eq_some hm
      have := falses_mem h1 _ (List.mem_map.2 ⟨_, hx, rfl⟩)
      rw [hF.slot, keyL_some hs, hk, (ba_beq key key).2 rfl] at this
      cases this
    rw [this]
    exact h2

/-! ### plans -/
theorem used_tomb_le : ∀ {Gs : List Grp}, (∀ c ∈ Gs, GrpOk c) → usedN Gs + tombN Gs ≤ 8 * Gs.length
  | [], _ => by simp [usedN, tombN]
  | c :: Gs, h => by
    have h1 := used_tomb_le (Gs := Gs) (fun c hc => h c (by simp [hc]))
    have h2 : ∀ l : List Nat, l.countP (· < 128) + l.countP (· == 254) ≤ l.length := by
      intro l
      induction l with
      | nil => simp
      | cons a l ih =>
        simp only [List.countP_cons, List.length_cons]
        by_cases c1 : a < 128
        · have : (a == 254) = false := by simp; omega
          simp [c1, this] at *; omega
        · by_cases c2 : (a == 254) = true
          · simp [c1, c2] at *; omega
          · simp [c1, c2] at *; omega
    have h3 := h2 c.1
    rw [(h c (by simp)).ctl.1] at h3
    unfold usedN tombN at *
    simp only [List.map_cons, List.sum_cons, List.length_cons]
    omega
theorem Pow.dbl {g : Nat} (h : Pow g) (hlt : g < 1048576) : Pow (2 * g) := by
  obtain ⟨k, hk, rfl⟩ := h
  refine ⟨k + 1, ?_, by rw [Nat.pow_succ]; omega⟩
  have : k ≠ 20 := by rintro rfl; omega
  omega
/-- What a plan does to an index. -/
def doG (H : Nat → Nat) (x : Nat × Bool) (Gs : List Grp) : List Grp := if x.2 then rehM H x.1 Gs else Gs
theorem plan_ok {Gs : List Grp} (h : IxOk Gs) (hl : usedN Gs ≤ 4194304) : ∃ x, planI Gs.length (usedN Gs) (tombN Gs) = some x ∧ Pow x.1 ∧ usedN Gs < 8 * x.1 ∧ (x.2 = false → x.1 = Gs.length) := by
  have hp := h.pow
  have h0 := hp.pos; have h1 := hp.le
  unfold planI
  split
  · exact ⟨_, rfl, hp, by show _ < 8 * Gs.length; omega, fun _ => rfl⟩
  · split
    · exact ⟨_, rfl, hp, by show _ < 8 * Gs.length; omega, by simp⟩
    · have h2 := used_le8 h
      split
      · rename_i h3
        exact ⟨_, rfl, hp.dbl h3, by show _ < 8 * (2 * Gs.length); omega, by simp⟩
      · have h4 : Gs.length = 1048576 := by omega
        rw [if_pos (by omega)]
        exact ⟨_, rfl, hp, by show _ < 8 * Gs.length; omega, by simp⟩
theorem Holds.do {H : Nat → Nat} {S : Nat → Prop} {Gs : List Grp} (h : Holds H S Gs) {x : Nat × Bool} (hx : Pow x.1) (hu : usedN Gs ≤ 8 * x.1) (hn : x.2 = false → x.1 = Gs.length) :
    Holds H S (doG H x Gs) ∧ usedN (doG H x Gs) = usedN Gs ∧ (doG H x Gs).length = x.1 := by
  unfold doG
  cases hb : x.2 with
  | false => exact ⟨h, rfl, (hn hb).symm⟩
  | true =>
    obtain ⟨h1, h2, h3, _⟩ := h.rehash hx hu
    exact ⟨h1, h2, h3⟩
/-- What an index is behind a slot number that is put in by a plan. -/
def putM (H : Nat → Nat) (Gs : List Grp) (s : Nat) : List Grp := insD H (doG H ((planI Gs.length (usedN Gs) (tombN Gs)).getD (0, false)) Gs) s
theorem Holds.put {H : Nat → Nat} {S : Nat → Prop} {Gs : List Grp} (h : Holds H S Gs) (hl : usedN Gs ≤ 4194304) {s : Nat} (hs : s ≤ 4294967295) (hn : ¬ S s) :
    ∃ x, planI Gs.length (usedN Gs) (tombN Gs) = some x ∧ Pow x.1 ∧ usedN Gs ≤ 8 * x.1 ∧ (x.2 = false → x.1 = Gs.length) ∧ Holds H S (doG H x Gs) ∧ insM (doG H x Gs) (H s) s = some (putM H Gs s) ∧
      Holds H (fun y => y = s ∨ S y) (putM H Gs s) ∧ usedN (putM H Gs s) = usedN Gs + 1 := by
  obtain ⟨x, h1, h2, h3, h4⟩ := plan_ok h.ok hl
  obtain ⟨k1, k2, k3⟩ := h.do h2 (Nat.le_of_lt h3) h4
  have hm : ∃ o, insM (doG H x Gs) (H s) s = some o := by
    cases e : insM (doG H x Gs) (H s) s with
    | some o => exact ⟨o, rfl⟩
    | none =>
      have := (ins_none k1.ok _ _).1 e
      rw [k2, k3] at this
      omega
  obtain ⟨o, ho⟩ := hm
  have e : putM H Gs s = o := by
    unfold putM insD
    rw [h1]
    simp [ho]
  rw [e]
  refine ⟨x, h1, h2, Nat.le_of_lt h3, h4, k1, ho, k1.ins hs hn ho, ?_⟩
  rw [(ins_counts k1.ok hs ho).1, k2]
/-- An entry more. -/
theorem keyL_append (L : List (Option Ent)) (o : Option Ent) {s : Nat} (h : s < L.length) : keyL (L ++ [o]) s = keyL L s := by
  unfold keyL
  rw [List.getElem?_append_left h]
theorem liveS_lt {L : List (Option Ent)} {s : Nat} (h : liveS L s) : s < L.length := by
  obtain ⟨e, h⟩ := h
  exact (List.getElem?_eq_some_iff.1 h).1
theorem liveS_append (L : List (Option Ent)) (x : Ent) (s : Nat) : liveS (L ++ [some x]) s ↔ s = L.length ∨ liveS L s := by
  constructor
  · rintro ⟨e, h⟩
    rcases Nat.lt_trichotomy s L.length with hl | hl | hl
    · rw [List.getElem?_append_left hl] at h; exact .inr ⟨e, h⟩
    · exact .inl hl
    · rw [List.getElem?_eq_none (by simp; omega)] at h; cases h
  · rintro (rfl | h)
    · exact ⟨x, by simp⟩
    · obtain ⟨e, he⟩ := id h
      exact ⟨e, by rw [List.getElem?_append_left (liveS_lt h)]; exact he⟩
theorem keys_append {L : List (Option Ent)} (h : KeysOk L) {x : Ent} (hx : findK L x.key = none) : KeysOk (L ++ [some x]) := by
  have hn := findK_none hx
  have hc : ∀ s e, (L ++ [some x])[s]? = some (some e) → (s < L.length ∧ L[s]? = some (some e)) ∨ (s = L.length ∧ e = x) := by
    intro s e hs
    rcases Nat.lt_trichotomy s L.length with hl | hl | hl
    · rw [List.getElem?_append_left hl] at hs; exact .inl ⟨hl, hs⟩
    · subst hl
      simp at hs
      exact .inr ⟨rfl, hs.symm⟩
    · rw [List.getElem?_eq_none (by simp; omega)] at hs; cases hs
  intro s t e f hs ht hk
  rcases hc s e hs with ⟨h1, h2⟩ | ⟨h1, h2⟩ <;> rcases hc t f ht with ⟨h3, h4⟩ | ⟨h3, h4⟩
  · exact h s t e f h2 h4 hk
  · subst h4; exact absurd hk (hn s e h2)
  · subst h2; exact absurd hk.symm (hn t f h4)
  · omega
theorem liveOf_append (L : List (Option Ent)) (x : Ent) : liveOf (L ++ [some x]) = liveOf L + 1 := by unfold liveOf; simp
theorem liveOf_le' (L : List (Option Ent)) : liveOf L ≤ L.length := List.countP_le_length
theorem Keeps.insert {seed : Nat} {same : Bool} {L : List (Option Ent)} {Gs : List Grp} (h : Keeps seed same L Gs) {x : Ent} (hx : findK L x.key = none) (hl : L.length ≤ 4194304) :
    Holds (sumL seed same (L ++ [some x])) (liveS L) Gs ∧ Keeps seed same (L ++ [some x]) (putM (sumL seed same (L ++ [some x])) Gs L.length) := by
  have h1 : Holds (sumL seed same (L ++ [some x])) (liveS L) Gs := h.holds.congr (fun s hs => by unfold sumL; rw [keyL_append _ _ (liveS_lt hs)])
  have h0 := liveOf_le' L
  obtain ⟨y, k1, k2, k3, k4, k5, k6, k7, k8⟩ := h1.put (by rw [h.used]; omega) (s := L.length) (by omega) (fun c => by have := liveS_lt c; omega)
  exact ⟨h1, k7.of_iff (fun s => (liveS_append L x s).symm), keys_append h.keys hx, by rw [k8, h.used, liveOf_append]⟩
theorem Keeps.new (seed : Nat) (same : Bool) : Keeps seed same [] (newG 1) :=
  ⟨(newG_holds _ ⟨0, by decide, rfl⟩).of_iff (fun s => ⟨fun h => h.elim, fun ⟨e, h⟩ => by simp at h⟩), fun s t e f h => by simp at h, by rw [newG_used]; rfl⟩
end Go.Proofs.YtapplindfijngaaGreat

/- growth.power, bound, Remove; bits.Len of small numbers. -/
namespace Go.Proofs.YtapplindfijngaaGreat
open Go.RowKit Go.Shelf
set_option maxRecDepth 100000

/-- How many bits a number has. -/
def blen (n : Nat) : Nat := if n = 0 then 0 else Nat.log2 n + 1
theorem blen_lt (n : Nat) : n < 2 ^ blen n := by
  unfold blen
  split
  · rename_i h; subst h; decide
  · exact Nat.lt_log2_self
theorem blen_le {n k : Nat} (h : n < 2 ^ k) : blen n ≤ k := by
  unfold blen
  split
  · exact Nat.zero_le _
  · rename_i h0
    exact (Nat.log2_lt h0).2 h
theorem blen_min {n k : Nat} (h1 : 2 ^ k ≤ n) (h2 : n < 2 ^ (k + 1)) : blen n = k + 1 := by
  have h0 : n ≠ 0 := by have := Nat.pow_pos (n := k) (show 0 < 2 by decide); omega
  unfold blen
  rw [if_neg h0]
  have h3 : n.log2 < k + 1 := (Nat.log2_lt h0).2 h2
  have h4 : ¬ n.log2 < k := fun h => by have := (Nat.log2_lt h0).1 h; omega
  omega
theorem blen_div {n j : Nat} (h : 2 ^ j ≤ n) : blen n = blen (n / 2 ^ j) + j := by
  have hp := Nat.pow_pos (n := j) (show 0 < 2 by decide)
  have h0 : n ≠ 0 := by omega
  have h1 : n / 2 ^ j ≠ 0 := by have := Nat.div_pos h hp; omega
  have e : n.log2 = (n / 2 ^ j).log2 + j := by
    have h2 : (n / 2 ^ j) < 2 ^ ((n / 2 ^ j).log2 + 1) := Nat.lt_log2_self
    have h3 : 2 ^ (n / 2 ^ j).log2 ≤ n / 2 ^ j := Nat.log2_self_le h1
    have h4 : 2 ^ ((n / 2 ^ j).log2 + j) ≤ n := by
      rw [Nat.pow_add]
      have := Nat.mul_le_mul_right (2 ^ j) h3
      exact Nat.le_trans this (Nat.div_mul_le_self n _)
    have h5 : n < 2 ^ ((n / 2 ^ j).log2 + j + 1) := by
      have h6 := Nat.lt_mul_of_div_lt h2 hp
      rw [show (n / 2 ^ j).log2 + j + 1 = j + ((n / 2 ^ j).log2 + 1) by omega, Nat.pow_add]
      rw [Nat.mul_comm]; exact h6
    have h7 : n.log2 < (n / 2 ^ j).log2 + j + 1 := (Nat.log2_lt h0).2 h5
    have h8 : ¬ n.log2 < (n / 2 ^ j).log2 + j := fun h => by have := (Nat.log2_lt h0).1 h; omega
    omega
  unfold blen
  rw [if_neg h0, if_neg h1, e]
  omega
theorem blen_table (s : ByteArray) (hs : s.size = 256) (h : ∀ k (hk : k < 256), wrap64 ((s[k]'(by omega)).toNat : Int) = blen k) (m : Nat) (hm : m < 256) (hms : m < s.size) : wrap64 ((s[m]'hms).toNat : Int) = blen m := h m hm
theorem len_end (y : Int) (s : ByteArray) (hs : s.size = 256) (h : ∀ k (hk : k < 256), wrap64 ((s[k]'(by omega)).toNat : Int) = blen k) (m : Nat) (hm : m < 256) (hms : m < s.size) (n : Nat) (hb : (blen n : Int) = y + blen m) (h0 : 0 ≤ y ∧ y ≤ 100) :
    wrap64 (y + wrap64 ((s[m]'hms).toNat : Int)) = (blen n : Int) := by
  rw [blen_table s hs h m hm hms, ← hb]
  have : blen m ≤ 8 := blen_le (by omega)
  exact IntWalk.wrap64_in _ (by omega)
theorem len_end0 (s : ByteArray) (hs : s.size = 256) (h : ∀ k (hk : k < 256), wrap64 ((s[k]'(by omega)).toNat : Int) = blen k) (m : Nat) (hm : m < 256) (hms : m < s.size) : wrap64 (wrap64 ((s[m]'hms).toNat : Int)) = (blen m : Int) := by
  have := len_end 0 s hs h m hm hms m (by omega) (by omega)
  rwa [Int.zero_add] at this
theorem Len64_ok (n : Nat) (hn : n < 4294967296) (w : World) : Calls Tryz.prog 175 #[.int .u64 n] w fun e w' => e = .returned (.int .i64 (blen n)) ∧ w = w' := by
  have d0 : decide (4294967296 ≤ (n : Int)) = false := decide_eq_false (by omega)
  have n0 : (0 : Int) ≤ n := by omega
  by_cases c1 : 65536 ≤ n
  · have d1 : decide (65536 ≤ (n : Int)) = true := decide_eq_true (by omega)
    have hb := blen_div (n := n) (j := 16) c1
    obtain ⟨k, hk⟩ : ∃ k, n / 2 ^ 16 = k := ⟨_, rfl⟩
    have e1 : (n : Int) / 65536 = (k : Int) := by omega
    have hk2 : k < 65536 := by omega
    rw [hk] at hb
    have k0 : (0 : Int) ≤ k := by omega
    by_cases c2 : 256 ≤ k
    · have d2 : decide (256 ≤ (k : Int)) = true := decide_eq_true (by omega)
      have hb2 := blen_div (n := k) (j := 8) c2
      obtain ⟨m, hm⟩ : ∃ m, k / 2 ^ 8 = m := ⟨_, rfl⟩
      have e2 : (k : Int) / 256 = (m : Int) := by omega
      have hm2 : m < 256 := by omega
      rw [hm] at hb2
      have m0 : (0 : Int) ≤ m := by omega
      have m1 : (m : Int) < 256 := by omega
      have w8 : IntKind.u8.wrap (m : Int) = m := by simp [IntKind.wrap, IntKind.signed, IntKind.bits]; omega
      go_enter Tryz.func175, Tryz.ntmps175
      go_wp2
      go_ret
      exact ⟨congrArg (fun x => Ending.returned (.int .i64 x)) (len_end 24 _ (by decide) (by decide +kernel) m hm2 _ n (by omega) (by omega)), rfl⟩
    · have d2 : decide (256 ≤ (k : Int)) = false := decide_eq_false (by omega)
      have m1 : (k : Int) < 256 := by omega
      have w8 : IntKind.u8.wrap (k : Int) = k := by simp [IntKind.wrap, IntKind.signed, IntKind.bits]; omega
      go_enter Tryz.func175, Tryz.ntmps175
      go_wp2
      go_ret
      exact ⟨congrArg (fun x => Ending.returned (.int .i64 x)) (len_end 16 _ (by decide) (by decide +kernel) k (by omega) _ n (by omega) (by omega)), rfl⟩
  · have d1 : decide (65536 ≤ (n : Int)) = false := decide_eq_false (by omega)
    by_cases c2 : 256 ≤ n
    · have d2 : decide (256 ≤ (n : Int)) = true := decide_eq_true (by omega)
      have hb2 := blen_div (n := n) (j := 8) c2
      obtain ⟨m, hm⟩ : ∃ m, n / 2 ^ 8 = m := ⟨_, rfl⟩
      have e2 : (n : Int) / 256 = (m : Int) := by omega
      have hm2 : m < 256 := by omega
      rw [hm] at hb2
      have m0 : (0 : Int) ≤ m := by omega
      have m1 : (m : Int) < 256 := by omega
      have w8 : IntKind.u8.wrap (m : Int) = m := by simp [IntKind.wrap, IntKind.signed, IntKind.bits]; omega
      go_enter Tryz.func175, Tryz.ntmps175
      go_wp2
      go_ret
      exact ⟨congrArg (fun x => Ending.returned (.int .i64 x)) (len_end 8 _ (by decide) (by decide +kernel) m hm2 _ n (by omega) (by omega)), rfl⟩
    · have d2 : decide (256 ≤ (n : Int)) = false := decide_eq_false (by omega)
      have m1 : (n : Int) < 256 := by omega
      have w8 : IntKind.u8.wrap (n : Int) = n := by simp [IntKind.wrap, IntKind.signed, IntKind.bits]; omega
      go_enter Tryz.func175, Tryz.ntmps175
      go_wp2
      go_ret
      exact ⟨congrArg (fun x => Ending.returned (.int .i64 x)) (len_end0 _ (by decide) (by decide +kernel) n (by omega) _), rfl⟩
theorem Len_ok (n : Nat) (hn : n < 4294967296) (w : World) : Calls Tryz.prog 171 #[.int .u64 n] w fun e w' => e = .returned (.int .i64 (blen n)) ∧ w = w' := by
  have HL := Lib.hid (fun W => Len64_ok n hn W)
  go_enter Tryz.func171, Tryz.ntmps171
  go_wp2_with (go_at_call 175; refine Calls.mono (HL.out _) ?_; rintro e w' ⟨rfl, rfl⟩)
  go_ret
  exact ⟨rfl, rfl⟩
theorem power_ok (n : Nat) (h1 : 1 ≤ n) (hn : n ≤ 1073741824) (w : World) : Calls Tryz.prog 157 #[.int .i64 n] w fun e w' => e = .returned (.int .i64 (2 ^ blen (n - 1) : Nat)) ∧ w = w' := by
  have HL := Lib.hid (fun W => Len_ok (n - 1) (by omega) W)
  have e1 : IntKind.i64.wrap ((n : Int) - 1) = ((n - 1 : Nat) : Int) := by rw [IntWalk.i64_in _ (by omega)]; omega
  have e2 : IntKind.u64.wrap ((n - 1 : Nat) : Int) = ((n - 1 : Nat) : Int) := u64_wrap _ (by omega)
  have hb : blen (n - 1) ≤ 30 := blen_le (by omega)
  have b0 : (0 : Int) ≤ (blen (n - 1) : Int) := by omega
  generalize n - 1 = m at *
  generalize blen m = k at *
  go_enter Tryz.func157, Tryz.ntmps157
  go_wp2_with (go_at_call 171; refine Calls.mono (HL.out _) ?_; rintro e w' ⟨rfl, rfl⟩)
  go_ret
  refine ⟨?_, rfl⟩
  have hk : 2 ^ k ≤ 2 ^ 30 := Nat.pow_le_pow_right (by decide) hb
  have e3 : (2 : Int) ^ k = ((2 ^ k : Nat) : Int) := by simp
  have e4 : wrap64 ((2 : Int) ^ k) = ((2 ^ k : Nat) : Int) := by rw [e3]; exact w64_nat _ (by omega)
  exact congrArg (fun x => Ending.returned (.int .i64 x)) e4
/-- The maximum number of lanes for some slot numbers. -/
def boundM (live : Nat) : Nat := 2 ^ blen (4 * live + 15)
theorem boundM_le (live : Nat) : 4 * live + 16 ≤ boundM live := by have := blen_lt (4 * live + 15); unfold boundM; omega
theorem boundM_min {live j : Nat} (h : 4 * live + 16 ≤ 2 ^ j) : boundM live ≤ 2 ^ j := Nat.pow_le_pow_right (by decide) (blen_le (by omega))
theorem boundM_pow {live : Nat} (hlt : boundM live < 8388608) : ∃ k, k ≤ 19 ∧ boundM live = 8 * 2 ^ k := by
  have h1 := boundM_le live
  unfold boundM at h1 hlt ⊢
  obtain ⟨b, hb⟩ : ∃ b, blen (4 * live + 15) = b := ⟨_, rfl⟩
  rw [hb] at h1 hlt ⊢
  have h3 : 3 ≤ b := by
    by_cases c : 3 ≤ b
    · exact c
    · have : 2 ^ b ≤ 2 ^ 2 := Nat.pow_le_pow_right (by decide) (by omega)
      omega
  have h23 : b < 23 := by
    by_cases c : b < 23
    · exact c
    · have : 2 ^ 23 ≤ 2 ^ b := Nat.pow_le_pow_right (by decide) (by omega)
      omega
  refine ⟨b - 3, by omega, ?_⟩
  rw [show b = 3 + (b - 3) by omega, Nat.pow_add]
  simp
theorem bound_ok (live : Nat) (hn : live ≤ 7340032) (w : World) : Calls Tryz.prog 117 #[.int .i64 live] w fun e w' => e = .returned (.int .i64 (boundM live)) ∧ w = w' := by
  have HL := Lib.hid (fun W => power_ok (4 * live + 16) (by omega) (by omega) W)
  have e0 : 4 * live + 16 - 1 = 4 * live + 15 := by omega
  rw [e0] at HL
  have e1 : IntKind.i64.wrap (4 * (live : Int)) = 4 * (live : Int) := IntWalk.i64_in _ (by omega)
  have e2 : IntKind.i64.wrap (4 * (live : Int) + 16) = ((4 * live + 16 : Nat) : Int) := by rw [IntWalk.i64_in _ (by omega)]; omega
  unfold boundM
  generalize 4 * live + 16 = z at *
  generalize 2 ^ blen (4 * live + 15) = r at *
  go_enter Tryz.func117, Tryz.ntmps117
  go_wp2_with (go_at_call 157; refine Calls.mono (HL.out _) ?_; rintro e w' ⟨rfl, rfl⟩)
  go_ret
  exact ⟨rfl, rfl⟩
/-- What is to be done after a slot number was taken out: how many groups, and whether it is made again. -/
def planR (g live : Nat) : Nat × Bool := if live ≤ 7340032 ∧ boundM live < 8 * g then (boundM live / 8, true) else (g, false)
def gremPost (w : World) (x : Nat × Bool) (e : Ending) (w' : World) : Prop := e = .returned (.tuple #[.agg #[.int .i64 (x.1 : Nat), .bool x.2], .int .i64 0]) ∧ Pure w w'
theorem planR_ok {g live : Nat} (hg : Pow g) : Pow (planR g live).1 ∧ ((planR g live).2 = true → live < 8 * (planR g live).1) ∧ ((planR g live).2 = false → (planR g live).1 = g) := by
  have hle := hg.le
  unfold planR
  split
  · rename_i h
    obtain ⟨k, hk, e⟩ := boundM_pow (live := live) (by omega)
    have h1 := boundM_le live
    rw [e, show 8 * 2 ^ k / 8 = 2 ^ k by omega]
    refine ⟨⟨k, by omega, rfl⟩, fun _ => ?_, by simp⟩
    dsimp only
    omega
  · exact ⟨hg, by simp, fun _ => rfl⟩
set_option maxHeartbeats 1000000 in
theorem gRemove_ok {g live tombs : Nat} (hg : Pow g) (h : live + tombs ≤ 8 * g) (w : World) : Calls Tryz.prog 59 #[.int .i64 g, .int .i64 live, .int .i64 tombs] w (gremPost w (planR g live)) := by
  have hg1 := hg.le
  have HC := Lib.hid (fun W => gcheck_ok hg h W)
  have wg : IntKind.i64.wrap ((g : Int) * 8) = (g : Int) * 8 := IntWalk.i64_in _ (by omega)
  obtain ⟨r, hr⟩ : ∃ r, planR g live = r := ⟨_, rfl⟩
  rw [hr]
  unfold planR at hr
  have hp0 : Pure w (w.alloc (.cells #[.int .i64 0, .bool false] 112)) := (Mod.refl _ w).alloc _
  have h6 := heap_new (w := w) (o := .cells #[.int .i64 0, .bool false] 112 (0, 0)) rfl
  have HP := Lib.hid hp0
  by_cases c1 : live ≤ 7340032
  · have d1 : decide ((live : Int) ≤ 7340032) = true := decide_eq_true (by omega)
    have HB := Lib.hid (fun W => bound_ok live c1 W)
    obtain ⟨bm, hbm⟩ : ∃ bm, boundM live = bm := ⟨_, rfl⟩
    rw [hbm] at HB hr
    by_cases c2 : bm < 8 * g
    · have d2 : decide ((bm : Int) < (g : Int) * 8) = true := decide_eq_true (by omega)
      rw [if_pos ⟨c1, c2⟩] at hr
      obtain ⟨q, hq⟩ : ∃ q, bm / 8 = q := ⟨_, rfl⟩
      have e8 : wrap64 ((bm : Int) / 8) = (q : Int) := by
        rw [show (bm : Int) / 8 = (q : Int) by omega]
        exact w64_nat _ (by omega)
      rw [hq] at hr
      have HR := Lib.hid hr
      clear hr hp0 hg h c1 c2 hbm
      go_enter Tryz.func59, Tryz.ntmps59
      go_upto_region 1 with fail
      generalize w.alloc (.cells #[.int .i64 0, .bool false] 112) = W1 at *
      obtain ⟨b6, hb6⟩ : ∃ b, w.heap.size = b := ⟨_, rfl⟩
      rw [hb6] at h6 ⊢
      have HB6 := Lib.hid hb6
      clear hb6
      go_upto_region 2 with (go_at_call 116; refine Calls.mono (HC.out _) ?_; rintro e w1 ⟨rfl, hp1⟩)
      have hh6 := hp1.heap (fun h => h) h6
      replace HP := Lib.hid (HP.out.trans hp1)
      clear hp1 h6
      have hh6_0 := cell_of_row _ _ 0 _ _ _ hh6; have hh6_1 := cell_of_row _ _ 1 _ _ _ hh6; have hh6_f := (fun j => frozen_of_row _ _ j _ _ hh6); have hh6_l := lt_of_block hh6; simp at hh6_0 hh6_1; have H_hh6 := Lib.hid hh6; clear hh6
      go_wp2_with (go_at_call 117; refine Calls.mono (HB.out _) ?_; rintro e w' ⟨rfl, rfl⟩)
      obtain ⟨f1, x0, x1⟩ := gfin (v0 := .int .i64 q) (v1 := .bool true) H_hh6.out HP.out (by have := HB6.out; omega) rfl
      obtain ⟨Y, hY⟩ : ∃ Y, (w1.setCell ⟨b6, 0, none⟩ (.int .i64 q)).setCell ⟨b6, 1, none⟩ (.bool true) = Y := ⟨_, rfl⟩
      rw [hY] at f1 x0 x1 ⊢
      rw [← HR.out]
      exact bodyPost_ret (v := .tuple #[.agg #[.int .i64 q, .bool true], .int .i64 0]) (by simp [results, Tryz.results59, go_sem, x0, x1]) rfl ⟨rfl, f1⟩
    · have d2 : decide ((bm : Int) < (g : Int) * 8) = false := decide_eq_false (by omega)
      rw [if_neg (fun h => c2 h.2)] at hr
      have HR := Lib.hid hr
      clear hr hp0 hg h c1 c2 hbm
      go_enter Tryz.func59, Tryz.ntmps59
      go_upto_region 1 with fail
      generalize w.alloc (.cells #[.int .i64 0, .bool false] 112) = W1 at *
      obtain ⟨b6, hb6⟩ : ∃ b, w.heap.size = b := ⟨_, rfl⟩
      rw [hb6] at h6 ⊢
      have HB6 := Lib.hid hb6
      clear hb6
      go_upto_region 2 with (go_at_call 116; refine Calls.mono (HC.out _) ?_; rintro e w1 ⟨rfl, hp1⟩)
      have hh6 := hp1.heap (fun h => h) h6
      replace HP := Lib.hid (HP.out.trans hp1)
      clear hp1 h6
      have hh6_0 := cell_of_row _ _ 0 _ _ _ hh6; have hh6_1 := cell_of_row _ _ 1 _ _ _ hh6; have hh6_f := (fun j => frozen_of_row _ _ j _ _ hh6); have hh6_l := lt_of_block hh6; simp at hh6_0 hh6_1; have H_hh6 := Lib.hid hh6; clear hh6
      go_wp2_with (go_at_call 117; refine Calls.mono (HB.out _) ?_; rintro e w' ⟨rfl, rfl⟩)
      obtain ⟨f1, x0, x1⟩ := gfin (v0 := .int .i64 g) (v1 := .bool false) H_hh6.out HP.out (by have := HB6.out; omega) rfl
      obtain ⟨Y, hY⟩ : ∃ Y, (w1.setCell ⟨b6, 0, none⟩ (.int .i64 g)).setCell ⟨b6, 1, none⟩ (.bool false) = Y := ⟨_, rfl⟩
      rw [hY] at f1 x0 x1 ⊢
      rw [← HR.out]
      exact bodyPost_ret (v := .tuple #[.agg #[.int .i64 g, .bool false], .int .i64 0]) (by simp [results, Tryz.results59, go_sem, x0, x1]) rfl ⟨rfl, f1⟩
  · have d1 : decide ((live : Int) ≤ 7340032) = false := decide_eq_false (by omega)
    rw [if_neg (fun h => c1 h.1)] at hr
    have HR := Lib.hid hr
    clear hr hp0 hg h c1
    go_enter Tryz.func59, Tryz.ntmps59
    go_upto_region 1 with fail
    generalize w.alloc (.cells #[.int .i64 0, .bool false] 112) = W1 at *
    obtain ⟨b6, hb6⟩ : ∃ b, w.heap.size = b := ⟨_, rfl⟩
    rw [hb6] at h6 ⊢
    have HB6 := Lib.hid hb6
    clear hb6
    go_upto_region 2 with (go_at_call 116; refine Calls.mono (HC.out _) ?_; rintro e w1 ⟨rfl, hp1⟩)
    have hh6 := hp1.heap (fun h => h) h6
    replace HP := Lib.hid (HP.out.trans hp1)
    clear hp1 h6
    have hh6_0 := cell_of_row _ _ 0 _ _ _ hh6; have hh6_1 := cell_of_row _ _ 1 _ _ _ hh6; have hh6_f := (fun j => frozen_of_row _ _ j _ _ hh6); have hh6_l := lt_of_block hh6; simp at hh6_0 hh6_1; have H_hh6 := Lib.hid hh6; clear hh6
    go_wp2
    obtain ⟨f1, x0, x1⟩ := gfin (v0 := .int .i64 g) (v1 := .bool false) H_hh6.out HP.out (by have := HB6.out; omega) rfl
    obtain ⟨Y, hY⟩ : ∃ Y, (w1.setCell ⟨b6, 0, none⟩ (.int .i64 g)).setCell ⟨b6, 1, none⟩ (.bool false) = Y := ⟨_, rfl⟩
    rw [hY] at f1 x0 x1 ⊢
    rw [← HR.out]
    exact bodyPost_ret (v := .tuple #[.agg #[.int .i64 g, .bool false], .int .i64 0]) (by simp [results, Tryz.results59, go_sem, x0, x1]) rfl ⟨rfl, f1⟩
end Go.Proofs.YtapplindfijngaaGreat

/- The references of layers 2 and 6: Part, Tag, Valid, All; probe.Valid for any number. -/
namespace Go.Proofs.YtapplindfijngaaGreat
open Go.RowKit Go.Shelf
set_option maxRecDepth 100000

/-! ### Part, Tag -/
theorem right_ok (s : Nat) (W : World) (hs : s < 18446744073709551616) : Calls Tryz.prog 166 #[.int .u64 s, .int .i64 7] W fun e w' => e = .returned (.int .u64 (s / 128 : Nat)) ∧ W = w' := by
  go_enter Tryz.func166, Tryz.ntmps166
  go_wp2
  go_loopw [0, 5] (fun v k wr => ∃ i, k = .int .i64 (i : Nat) ∧ i ≤ 7 ∧ v = .int .u64 (s / 2 ^ i : Nat) ∧ wr = W) (fun _ k _ => 7 - (intOf k).toNat)
  case atStart => exact ⟨0, rfl, by omega, by simp, rfl⟩
  case round =>
    obtain ⟨i, rfl, hi, rfl, rfl⟩ := hrel
    by_cases hlt : i < 7
    · have hlt' : (i : Int) < 7 := by omega
      obtain ⟨q, hq⟩ : ∃ q, s / 2 ^ i = q := ⟨_, rfl⟩
      have hql : q ≤ s := by rw [← hq]; exact Nat.div_le_self _ _
      have hq2 : s / 2 ^ (i + 1) = q / 2 := by rw [Nat.pow_succ, ← Nat.div_div_eq_div_mul, hq]
      have e1 : ((q : Int)).tdiv 2 = ((q / 2 : Nat) : Int) := by rw [Int.tdiv_eq_ediv_of_nonneg (by omega)]; rfl
      have e2 : ((q : Int)) / 2 = ((q / 2 : Nat) : Int) := rfl
      have e3 : IntKind.u64.wrap ((q / 2 : Nat) : Int) = ((q / 2 : Nat) : Int) := u64_wrap _ (by omega)
      have HQ := Lib.hid hq2
      rw [hq]
      clear hq hq2
      generalize q / 2 = r at *
      go_wp2
      go_roundw
      case rel => exact ⟨i + 1, by go_num, hlt, by rw [HQ.out], trivial⟩
      case measure => simp [intOf]; omega
    · have e : i = 7 := by omega
      subst e
      generalize hr : s / 2 ^ 7 = r
      go_wp2
      go_ret
      refine ⟨?_, rfl⟩
      rw [← hr]
      rfl
theorem rPart_ok (s : Nat) (W : World) (hs : s < 18446744073709551616) : Calls Tryz.prog 148 #[.int .u64 s] W fun e w' => e = .returned (.int .u64 (s / 128 : Nat)) ∧ W = w' := by
  have HR := Lib.hid (fun W => right_ok s W hs)
  obtain ⟨r, hr⟩ : ∃ r, s / 128 = r := ⟨_, rfl⟩
  rw [hr] at HR ⊢
  clear hr
  go_enter Tryz.func148, Tryz.ntmps148
  go_wp2_with (go_at_call 166; refine Calls.mono (HR.out _) ?_; rintro e w' ⟨rfl, rfl⟩)
  go_ret
  exact ⟨rfl, rfl⟩
theorem rTag_ok (s : Nat) (W : World) (hs : s < 18446744073709551616) : Calls Tryz.prog 149 #[.int .u64 s] W fun e w' => e = .returned (.int .u8 (s % 128 : Nat)) ∧ W = w' := by
  have e1 : (s : Int).tmod 128 = ((s % 128 : Nat) : Int) := by rw [Int.tmod_eq_emod_of_nonneg (by omega)]; rfl
  have e2 : (s : Int) % 128 = ((s % 128 : Nat) : Int) := rfl
  have e3 : IntKind.u8.wrap ((s % 128 : Nat) : Int) = ((s % 128 : Nat) : Int) := u8_wrap _ (by omega)
  have e4 : ((s % 128 : Nat) : Int) % 256 = ((s % 128 : Nat) : Int) := by omega
  have hl : s % 128 < 128 := Nat.mod_lt _ (by decide)
  generalize s % 128 = r at *
  go_enter Tryz.func149, Tryz.ntmps149
  go_wp2
  go_ret
  exact ⟨by simp [e1, e2, e3, e4], rfl⟩

/-! ### Valid -/
def validM (z : Int) : Bool := (List.range 21).any (fun k => z == ((2 ^ k : Nat) : Int))
theorem validM_pow {g : Nat} (h : Pow g) : validM g = true := by
  obtain ⟨k, hk, rfl⟩ := h
  exact List.any_eq_true.2 ⟨k, List.mem_range.2 (by omega), by simp⟩
theorem validM_iff (z : Int) : validM z = true ↔ ∃ g, Pow g ∧ z = (g : Int) := by
  constructor
  · intro h
    obtain ⟨k, hk, e⟩ := List.any_eq_true.1 h
    exact ⟨2 ^ k, ⟨k, by have := List.mem_range.1 hk; omega, rfl⟩, by simpa using e⟩
  · rintro ⟨g, hg, rfl⟩
    exact validM_pow hg
theorem rValid_ok (z : Int) (W : World) : Calls Tryz.prog 104 #[.int .i64 z] W fun e w' => e = .returned (.bool (validM z)) ∧ W = w' := by
  obtain ⟨res, hres⟩ : ∃ res, validM z = res := ⟨_, rfl⟩
  rw [hres]
  go_enter Tryz.func104, Tryz.ntmps104
  go_wp2
  go_loopw [3] (fun v wr => ∃ j, v = .int .i64 (2 ^ j : Nat) ∧ j ≤ 21 ∧ (∀ k, k < j → z ≠ ((2 ^ k : Nat) : Int)) ∧ wr = W) (fun v _ => 2097152 - (intOf v).toNat)
  case atStart => exact ⟨0, rfl, by omega, fun k hk => by omega, rfl⟩
  case round =>
    obtain ⟨j, rfl, hj, hn, rfl⟩ := hrel
    obtain ⟨n, hnn⟩ : ∃ n, 2 ^ j = n := ⟨_, rfl⟩
    have hnx : 2 ^ (j + 1) = 2 * n := by rw [Nat.pow_succ, hnn]; omega
    have HN := Lib.hid hn
    have HNX := Lib.hid hnx; have HNN := Lib.hid hnn
    rw [hnn]
    by_cases hlt : j ≤ 20
    · have hn1 : n ≤ 1048576 := by rw [← hnn]; exact Nat.pow_le_pow_right (n := 2) (by decide) hlt
      have hn0 : 0 < n := by rw [← hnn]; exact Nat.pow_pos (by decide)
      clear hn hnx hnn
      have hlt' : (n : Int) ≤ 1048576 := by omega
      have hn0' : (1 : Int) ≤ n := by omega
      have w2 : IntKind.i64.wrap (2 * (n : Int)) = 2 * (n : Int) := IntWalk.i64_in _ (by omega)
      by_cases hz : z = (n : Int)
      · subst hz
        go_wp2
        go_ret
        refine ⟨?_, rfl⟩
        rw [← hres, ← HNN.out, validM_pow ⟨j, hlt, rfl⟩]
        rfl
      · have hz' : ((n : Int) == z) = false := by simp; omega
        have hz2 : (n : Int) ≠ z := by omega
        go_wp2
        go_roundw
        case rel => exact ⟨j + 1, by rw [HNX.out]; rfl, by omega, fun k hk => by
          by_cases e : k = j
          · subst e; rw [HNN.out]; exact hz
          · exact HN.out k (by omega), trivial⟩
        case measure => simp [intOf]; omega
    · have e : j = 21 := by omega
      have hn1 : n = 2097152 := by rw [← hnn, e]
      subst hn1
      clear hnx
      go_wp2
      go_ret
      refine ⟨?_, rfl⟩
      rw [← hres]
      have : validM z = false := by
        cases h : validM z with
        | false => rfl
        | true =>
          obtain ⟨k, hk, e2⟩ := List.any_eq_true.1 h
          exact absurd (by simpa using e2) (HN.out k (by have := List.mem_range.1 hk; omega))
      rw [this]
      rfl

/-! ### All -/
theorem tri_succ (i : Nat) : (i + 1) * (i + 1 + 1) / 2 = i * (i + 1) / 2 + (i + 1) := by
  have e : (i + 1) * (i + 1 + 1) = i * (i + 1) + 2 * (i + 1) := by
    rw [Nat.mul_comm (i + 1) (i + 1 + 1), Nat.add_mul (i + 1) 1 (i + 1), Nat.add_mul i 1 (i + 1)]
    omega
  rw [e, Nat.add_mul_div_left _ _ (by decide)]
theorem atM_step (part g i : Nat) : (atM part g (i - 1) + i) % g = atM part g i := by
  unfold atM
  rw [Nat.mod_add_mod]
  cases i with
  | zero => rfl
  | succ i =>
    rw [Nat.add_sub_cancel, tri_succ]
    congr 1
    omega
def i64v (l : List Nat) : List Value := l.map (fun (x : Nat) => Value.int .i64 ((x : Nat) : Int))
theorem info_i64 : (Tryz.prog.info? 3).map (fun i => (i.zero, i.size, i.bytes)) = some (some (.int .i64 0), 1, 8) := by kernel_rfl
theorem rAll_ok (part g : Nat) (hg : Pow g) (hpart : part < 18446744073709551616) (W : World) : Calls Tryz.prog 147 #[.int .u64 part, .int .i64 g] W fun e w' => ∃ a c, e = .returned (.slice a g c) ∧ w'.ownsRow 0 3 1 (.slice a g c) g (i64v (probes part g)) ∧ Pure W w' ∧ ∀ k, (Value.slice a g c).ownBlock = some k → W.heap.size ≤ k := by
  have hg0 := hg.pos
  have hg1 := hg.le
  have HV := Lib.hid (fun W => (validM_pow hg ▸ rValid_ok (g : Int) W))
  have wg : IntKind.u64.wrap (g : Int) = g := u64_wrap g (by omega)
  have e1 : (part : Int).tmod (g : Int) = ((part % g : Nat) : Int) := by rw [Int.tmod_eq_emod_of_nonneg (by omega)]; rfl
  have e2 : (part : Int) % (g : Int) = ((part % g : Nat) : Int) := rfl
  have hpg : part % g < g := Nat.mod_lt _ hg0
  have w0 : IntKind.i64.wrap ((part % g : Nat) : Int) = ((part % g : Nat) : Int) := IntWalk.i64_in _ (by omega)
  have hat0 : part % g = atM part g (0 - 1) := by unfold atM; simp
  have w0' : wrap64 ((part % g : Nat) : Int) = ((part % g : Nat) : Int) := IntWalk.wrap64_in _ (by omega)
  have hgz : ((g : Int) == 0) = false := by simp; omega
  obtain ⟨q, hq⟩ : ∃ q, part % g = q := ⟨_, rfl⟩
  have HQ0 := Lib.hid hq
  rw [hq] at hat0
  go_enter Tryz.func147, Tryz.ntmps147
  go_upto_region 6 with (go_at_call 104; refine Calls.mono (HV.out _) ?_; rintro e w' ⟨rfl, rfl⟩)
  clear e1 e2 w0 w0' hq
  obtain ⟨i0, hi, iz0, iz1, iz2⟩ := info_parts info_i64
  go_loopw [5, 6, 7] (fun v5 v6 v7 wr => ∃ i a c, v7 = .int .i64 (i : Nat) ∧ i ≤ g ∧ v5 = .int .i64 (atM part g (i - 1) : Nat) ∧ v6 = .slice a i c ∧ wr.ownsRow 0 3 1 (.slice a i c) i (i64v ((probes part g).take i)) ∧ Pure W wr ∧ ∀ k, (Value.slice a i c).ownBlock = some k → W.heap.size ≤ k) (fun _ _ v7 _ => g - (intOf v7).toNat)
  case atStart => exact ⟨0, none, 0, rfl, Nat.zero_le _, by first | rfl | (rw [← hat0, ← HQ0.out, IntWalk.wrap64_in _ (by omega)]) | (rw [← hat0, ← HQ0.out]), rfl, World.ownsRow_nil _ _ _ _, Mod.refl _ _, fun k hk => by cases hk⟩
  case round =>
    obtain ⟨i, a, c, rfl, hil, rfl, rfl, hrow, hpu, hfr⟩ := hrel
    have HR := Lib.hid hrow; have HP := Lib.hid hpu; have HF := Lib.hid hfr
    clear hrow hpu hfr
    by_cases hlt : i < g
    · have hlt' : (i : Int) < (g : Int) := by omega
      have hst := atM_step part g i
      have hx : atM part g (i - 1) < g := Nat.mod_lt _ hg0
      have hz : atM part g i < g := Nat.mod_lt _ hg0
      have htk : i64v ((probes part g).take (i + 1)) = i64v ((probes part g).take i) ++ [.int .i64 (atM part g i : Nat)] := by
        unfold i64v
        rw [List.take_add_one]
        have : (probes part g)[i]? = some (atM part g i) := by
          unfold probes
          rw [List.getElem?_map, List.getElem?_range hlt]
          rfl
        rw [this]
        simp
      generalize atM part g (i - 1) = x at *
      have hai : atM part g (i + 1 - 1) = atM part g i := by rw [Nat.add_sub_cancel]
      have HTK := Lib.hid htk; have HAI := Lib.hid hai
      clear htk hai hat0
      have e1 : ((x : Int) + (i : Int)).tmod (g : Int) = ((atM part g i : Nat) : Int) := by rw [Int.tmod_eq_emod_of_nonneg (by omega), ← hst]; rfl
      have e2 : ((x : Int) + (i : Int)) % (g : Int) = ((atM part g i : Nat) : Int) := by rw [← hst]; rfl
      have w1 : IntKind.i64.wrap ((x : Int) + (i : Int)) = (x : Int) + (i : Int) := IntWalk.i64_in _ (by omega)
      clear hst
      generalize atM part g i = z at *
      go_wp2_with (at_builtin; refine wpList_append_read _ rfl _ _ 84 rfl 3 i0 _ 1 8 Tryz.underlying84 hi iz0 iz1 iz2 rfl (by decide) (.slice a i c) i _ rfl (owns_mod HR.out ((Mod.refl (fun _ => False) wr).alloc _) (fun _ _ h => h)) _ [.int .i64 (z : Nat)] 1 rfl (ReadAt.of_block 1 1 1 (heap_new rfl) (by rfl) (by simp [Value.oneCell'])) rfl (by unfold maxLen; omega) (by omega) ?_; intro a7 c7 w5 hr7 hg7 hb7)
      have hpw : Pure W w5 := (HP.out.alloc _).then (Mod.of_grown (S := fun k' => (Value.slice a i c).ownBlock = some k') hg7 (fun k e _ => e)) (fun k hk e => by have := HF.out k e; omega)
      have hfw : ∀ k, (Value.slice a7 (i + 1) c7).ownBlock = some k → W.heap.size ≤ k := fun k hk => by
        rcases hb7 with e | e
        · exact HF.out k (e ▸ hk)
        · rw [e] at hk; cases hk; exact (HP.out.alloc _).size
      have HPW := Lib.hid hpw; have HFW := Lib.hid hfw; have HR7 := Lib.hid hr7
      clear hpw hfw hr7 hg7 hb7
      go_roundw
      case rel => exact ⟨i + 1, a7, c7, by go_num, hlt, by rw [HAI.out], rfl, by rw [HTK.out]; exact HR7.out, HPW.out, HFW.out⟩
      case measure => simp [intOf]; omega
    · have hlt' : (g : Int) ≤ (i : Int) := by omega
      have e : g = i := by omega
      have htk : (probes part g).take i = probes part g := by rw [List.take_of_length_le]; unfold probes; simp; omega
      rw [htk] at HR
      subst e
      clear hlt' hlt hil
      go_wp2
      go_ret
      exact ⟨a, c, rfl, HR.out, HP.out, HF.out⟩
end Go.Proofs.YtapplindfijngaaGreat

/- The reference of layer 8: check, Insert, Bound and Remove say what the package's growth says. -/
namespace Go.Proofs.YtapplindfijngaaGreat
open Go.RowKit Go.Shelf
set_option maxRecDepth 100000

theorem r8check_ok {g live tombs : Nat} (hg : Pow g) (h : live + tombs ≤ 8 * g) (w : World) : Calls Tryz.prog 123 #[.int .i64 g, .int .i64 live, .int .i64 tombs] w fun e w' => e = .returned (.int .i64 0) ∧ w = w' := by
  have hg1 := hg.le
  have HV := Lib.hid (fun W => (validM_pow hg ▸ rValid_ok (g : Int) W))
  have w8 : IntKind.i64.wrap (8 * (g : Int)) = 8 * (g : Int) := IntWalk.i64_in _ (by omega)
  have wl : IntKind.i64.wrap ((live : Int) + (tombs : Int)) = (live : Int) + (tombs : Int) := IntWalk.i64_in _ (by omega)
  have d1 : decide ((live : Int) < 0) = false := decide_eq_false (by omega)
  have d2 : decide ((tombs : Int) < 0) = false := decide_eq_false (by omega)
  have d3 : decide (8 * (g : Int) < (live : Int)) = false := decide_eq_false (by omega)
  have d4 : decide (8 * (g : Int) < (tombs : Int)) = false := decide_eq_false (by omega)
  have d5 : decide (8 * (g : Int) < (live : Int) + (tombs : Int)) = false := decide_eq_false (by omega)
  clear hg
  go_enter Tryz.func123, Tryz.ntmps123
  go_wp2_with (go_at_call 104; refine Calls.mono (HV.out _) ?_; rintro e w' ⟨rfl, rfl⟩)
  go_ret
  exact ⟨rfl, rfl⟩
theorem validM_dbl {g : Nat} (h : Pow g) : validM ((2 * g : Nat) : Int) = decide (g < 1048576) := by
  by_cases c : g < 1048576
  · rw [validM_pow (h.dbl c)]; simp [c]
  · have hle := h.le
    have : validM ((2 * g : Nat) : Int) = false := by
      cases hv : validM ((2 * g : Nat) : Int) with
      | false => rfl
      | true =>
        obtain ⟨k, hk, e⟩ := (validM_iff _).1 hv
        have := hk.le
        omega
    rw [this]; simp [c]
theorem rBound_ok (live : Nat) (hn : live ≤ 7340032) (w : World) : Calls Tryz.prog 124 #[.int .i64 live] w fun e w' => e = .returned (.tuple #[.int .i64 (boundM live), .int .i64 0]) ∧ w = w' := by
  have hmx : boundM live ≤ 2 ^ 25 := boundM_min (by omega)
  have hle := boundM_le live
  have HMN := Lib.hid (fun j (h : 4 * live + 16 ≤ 2 ^ j) => boundM_min (live := live) h)
  have HPW : Hid (∃ b, boundM live = 2 ^ b) := Lib.hid ⟨_, rfl⟩
  generalize boundM live = bm at *
  have w4 : IntKind.i64.wrap (4 * (live : Int)) = 4 * (live : Int) := IntWalk.i64_in _ (by omega)
  have w5 : IntKind.i64.wrap (4 * (live : Int) + 16) = 4 * (live : Int) + 16 := IntWalk.i64_in _ (by omega)
  have d1 : decide ((live : Int) < 0) = false := decide_eq_false (by omega)
  have d2 : decide (7340032 < (live : Int)) = false := decide_eq_false (by omega)
  go_enter Tryz.func124, Tryz.ntmps124
  go_upto_region 4 with fail
  go_loopw [4] (fun v wr => ∃ j, v = .int .i64 (2 ^ j : Nat) ∧ 2 ^ j ≤ bm ∧ wr = w) (fun v _ => 33554432 - (intOf v).toNat)
  case atStart => exact ⟨0, rfl, by omega, rfl⟩
  case round =>
    obtain ⟨j, rfl, hj, rfl⟩ := hrel
    obtain ⟨n, hnn⟩ : ∃ n, 2 ^ j = n := ⟨_, rfl⟩
    have hnx : 2 ^ (j + 1) = 2 * n := by rw [Nat.pow_succ, hnn]; omega
    have hn0 : 0 < n := by rw [← hnn]; exact Nat.pow_pos (by decide)
    by_cases hlt : n < 4 * live + 16
    · have hlt' : (n : Int) < 4 * (live : Int) + 16 := by omega
      have w2 : IntKind.i64.wrap (2 * (n : Int)) = 2 * (n : Int) := IntWalk.i64_in _ (by omega)
      have hj2 : 2 ^ (j + 1) ≤ bm := by
        obtain ⟨b, hb⟩ := HPW.out
        rw [hb] at hle ⊢
        refine Nat.pow_le_pow_right (by decide) ?_
        by_cases c : j + 1 ≤ b
        · exact c
        · have : 2 ^ b ≤ 2 ^ j := Nat.pow_le_pow_right (by decide) (by omega)
          omega
      have HNX := Lib.hid hnx; have HJ2 := Lib.hid hj2
      rw [hnn] at hj ⊢
      clear hnx hj2 hnn
      go_wp2
      go_roundw
      case rel => exact ⟨j + 1, by rw [HNX.out]; rfl, HJ2.out, trivial⟩
      case measure => simp [intOf]; omega
    · have hlt' : ¬ ((n : Int) < 4 * (live : Int) + 16) := by omega
      have h1 := HMN.out j (by omega)
      have e : bm = n := by omega
      rw [hnn]
      subst e
      clear hnx h1 hj
      go_wp2
      exact bodyPost_ret (v := .tuple #[.int .i64 bm, .int .i64 0]) (by simp [results, Tryz.results124, go_sem]) rfl ⟨rfl, rfl⟩
set_option maxHeartbeats 1000000 in
theorem rInsertP_ok {g live tombs : Nat} (hg : Pow g) (h : live + tombs ≤ 8 * g) (w : World) : Calls Tryz.prog 109 #[.int .i64 g, .int .i64 live, .int .i64 tombs] w fun e w' => e = .returned (planV (planI g live tombs)) ∧ Pure w w' := by
  have hg1 := hg.le
  have HC := Lib.hid (fun W => r8check_ok hg h W)
  have hp0 : Pure w (w.alloc (.cells #[.int .i64 0, .bool false] 112)) := (Mod.refl _ w).alloc _
  have h6 := heap_new (w := w) (o := .cells #[.int .i64 0, .bool false] 112 (0, 0)) rfl
  have HP := Lib.hid hp0
  clear hp0
  have HV := Lib.hid (fun W => (validM_dbl hg ▸ rValid_ok ((2 * g : Nat) : Int) W))
  have wl : IntKind.i64.wrap ((live : Int) + (tombs : Int)) = (live : Int) + (tombs : Int) := IntWalk.i64_in _ (by omega)
  have w7 : IntKind.i64.wrap (7 * (g : Int)) = 7 * (g : Int) := IntWalk.i64_in _ (by omega)
  have w2 : IntKind.i64.wrap (2 * (live : Int)) = 2 * (live : Int) := IntWalk.i64_in _ (by omega)
  have wg : IntKind.i64.wrap (2 * (g : Int)) = ((2 * g : Nat) : Int) := by rw [IntWalk.i64_in _ (by omega)]; omega
  unfold planI
  by_cases c1 : live + tombs < 7 * g
  · rw [if_pos c1]
    have d1 : decide ((live : Int) + (tombs : Int) < 7 * (g : Int)) = true := decide_eq_true (by omega)
    clear hg h c1
    go_enter Tryz.func109, Tryz.ntmps109
    go_upto_region 1 with fail
    generalize w.alloc (.cells #[.int .i64 0, .bool false] 112) = W1 at *
    obtain ⟨b6, hb6⟩ : ∃ b, w.heap.size = b := ⟨_, rfl⟩
    rw [hb6] at h6 ⊢
    have HB6 := Lib.hid hb6
    clear hb6
    have h6_0 := cell_of_row _ _ 0 _ _ _ h6; have h6_1 := cell_of_row _ _ 1 _ _ _ h6; have h6_f := (fun j => frozen_of_row _ _ j _ _ h6); have h6_l := lt_of_block h6; simp at h6_0 h6_1; have H_h6 := Lib.hid h6; clear h6
    go_wp2_with (first
      | (go_at_call 123; refine Calls.mono (HC.out _) ?_; rintro e w' ⟨rfl, rfl⟩)
      | (go_at_call 104; refine Calls.mono (HV.out _) ?_; rintro e w' ⟨rfl, rfl⟩))
    obtain ⟨f1, x0, x1⟩ := gfin (v0 := .int .i64 g) (v1 := .bool false) H_h6.out HP.out (by have := HB6.out; omega) rfl
    obtain ⟨Y, hY⟩ : ∃ Y, (W1.setCell ⟨b6, 0, none⟩ (.int .i64 g)).setCell ⟨b6, 1, none⟩ (.bool false) = Y := ⟨_, rfl⟩
    rw [hY] at f1 x0 x1 ⊢
    exact bodyPost_ret (v := .tuple #[.agg #[.int .i64 g, .bool false], .int .i64 0]) (by simp [results, Tryz.results109, go_sem, x0, x1]) rfl ⟨rfl, f1⟩
  · rw [if_neg c1]
    have d1 : decide ((live : Int) + (tombs : Int) < 7 * (g : Int)) = false := decide_eq_false (by omega)
    by_cases c2 : 2 * live ≤ 7 * g
    · rw [if_pos c2]
      have d2 : decide (2 * (live : Int) ≤ 7 * (g : Int)) = true := decide_eq_true (by omega)
      clear hg h c1 c2
      go_enter Tryz.func109, Tryz.ntmps109
      go_upto_region 1 with fail
      generalize w.alloc (.cells #[.int .i64 0, .bool false] 112) = W1 at *
      obtain ⟨b6, hb6⟩ : ∃ b, w.heap.size = b := ⟨_, rfl⟩
      rw [hb6] at h6 ⊢
      have HB6 := Lib.hid hb6
      clear hb6
      have h6_0 := cell_of_row _ _ 0 _ _ _ h6; have h6_1 := cell_of_row _ _ 1 _ _ _ h6; have h6_f := (fun j => frozen_of_row _ _ j _ _ h6); have h6_l := lt_of_block h6; simp at h6_0 h6_1; have H_h6 := Lib.hid h6; clear h6
      go_wp2_with (first
        | (go_at_call 123; refine Calls.mono (HC.out _) ?_; rintro e w' ⟨rfl, rfl⟩)
        | (go_at_call 104; refine Calls.mono (HV.out _) ?_; rintro e w' ⟨rfl, rfl⟩))
      obtain ⟨f1, x0, x1⟩ := gfin (v0 := .int .i64 g) (v1 := .bool true) H_h6.out HP.out (by have := HB6.out; omega) rfl
      obtain ⟨Y, hY⟩ : ∃ Y, (W1.setCell ⟨b6, 0, none⟩ (.int .i64 g)).setCell ⟨b6, 1, none⟩ (.bool true) = Y := ⟨_, rfl⟩
      rw [hY] at f1 x0 x1 ⊢
      exact bodyPost_ret (v := .tuple #[.agg #[.int .i64 g, .bool true], .int .i64 0]) (by simp [results, Tryz.results109, go_sem, x0, x1]) rfl ⟨rfl, f1⟩
    · rw [if_neg c2]
      have d2 : decide (2 * (live : Int) ≤ 7 * (g : Int)) = false := decide_eq_false (by omega)
      by_cases c3 : g < 1048576
      · rw [if_pos c3]
        rw [decide_eq_true c3] at HV
        obtain ⟨g2, hg2⟩ : ∃ g2, 2 * g = g2 := ⟨_, rfl⟩
        rw [hg2] at HV wg ⊢
        clear hg h c1 c2 c3 hg2
        go_enter Tryz.func109, Tryz.ntmps109
        go_upto_region 1 with fail
        generalize w.alloc (.cells #[.int .i64 0, .bool false] 112) = W1 at *
        obtain ⟨b6, hb6⟩ : ∃ b, w.heap.size = b := ⟨_, rfl⟩
        rw [hb6] at h6 ⊢
        have HB6 := Lib.hid hb6
        clear hb6
        have h6_0 := cell_of_row _ _ 0 _ _ _ h6; have h6_1 := cell_of_row _ _ 1 _ _ _ h6; have h6_f := (fun j => frozen_of_row _ _ j _ _ h6); have h6_l := lt_of_block h6; simp at h6_0 h6_1; have H_h6 := Lib.hid h6; clear h6
        go_wp2_with (first
          | (go_at_call 123; refine Calls.mono (HC.out _) ?_; rintro e w' ⟨rfl, rfl⟩)
          | (go_at_call 104; refine Calls.mono (HV.out _) ?_; rintro e w' ⟨rfl, rfl⟩))
        obtain ⟨f1, x0, x1⟩ := gfin (v0 := .int .i64 g2) (v1 := .bool true) H_h6.out HP.out (by have := HB6.out; omega) rfl
        obtain ⟨Y, hY⟩ : ∃ Y, (W1.setCell ⟨b6, 0, none⟩ (.int .i64 g2)).setCell ⟨b6, 1, none⟩ (.bool true) = Y := ⟨_, rfl⟩
        rw [hY] at f1 x0 x1 ⊢
        exact bodyPost_ret (v := .tuple #[.agg #[.int .i64 g2, .bool true], .int .i64 0]) (by simp [results, Tryz.results109, go_sem, x0, x1]) rfl ⟨rfl, f1⟩
      · rw [if_neg c3]
        rw [decide_eq_false c3] at HV
        by_cases c4 : live < 7 * g
        · rw [if_pos c4]
          have d4 : decide ((live : Int) < 7 * (g : Int)) = true := decide_eq_true (by omega)
          obtain ⟨g2, hg2⟩ : ∃ g2, 2 * g = g2 := ⟨_, rfl⟩
          rw [hg2] at HV wg
          clear hg h c1 c2 c3 hg2 c4
          go_enter Tryz.func109, Tryz.ntmps109
          go_upto_region 1 with fail
          generalize w.alloc (.cells #[.int .i64 0, .bool false] 112) = W1 at *
          obtain ⟨b6, hb6⟩ : ∃ b, w.heap.size = b := ⟨_, rfl⟩
          rw [hb6] at h6 ⊢
          have HB6 := Lib.hid hb6
          clear hb6
          have h6_0 := cell_of_row _ _ 0 _ _ _ h6; have h6_1 := cell_of_row _ _ 1 _ _ _ h6; have h6_f := (fun j => frozen_of_row _ _ j _ _ h6); have h6_l := lt_of_block h6; simp at h6_0 h6_1; have H_h6 := Lib.hid h6; clear h6
          go_wp2_with (first
            | (go_at_call 123; refine Calls.mono (HC.out _) ?_; rintro e w' ⟨rfl, rfl⟩)
            | (go_at_call 104; refine Calls.mono (HV.out _) ?_; rintro e w' ⟨rfl, rfl⟩))
          obtain ⟨f1, x0, x1⟩ := gfin (v0 := .int .i64 g) (v1 := .bool true) H_h6.out HP.out (by have := HB6.out; omega) rfl
          obtain ⟨Y, hY⟩ : ∃ Y, (W1.setCell ⟨b6, 0, none⟩ (.int .i64 g)).setCell ⟨b6, 1, none⟩ (.bool true) = Y := ⟨_, rfl⟩
          rw [hY] at f1 x0 x1 ⊢
          exact bodyPost_ret (v := .tuple #[.agg #[.int .i64 g, .bool true], .int .i64 0]) (by simp [results, Tryz.results109, go_sem, x0, x1]) rfl ⟨rfl, f1⟩
        · rw [if_neg c4]
          have d4 : decide ((live : Int) < 7 * (g : Int)) = false := decide_eq_false (by omega)
          obtain ⟨g2, hg2⟩ : ∃ g2, 2 * g = g2 := ⟨_, rfl⟩
          rw [hg2] at HV wg
          clear hg h c1 c2 c3 hg2 c4
          go_enter Tryz.func109, Tryz.ntmps109
          go_upto_region 1 with fail
          generalize w.alloc (.cells #[.int .i64 0, .bool false] 112) = W1 at *
          obtain ⟨b6, hb6⟩ : ∃ b, w.heap.size = b := ⟨_, rfl⟩
          rw [hb6] at h6 ⊢
          have HB6 := Lib.hid hb6
          clear hb6
          have h6_0 := cell_of_row _ _ 0 _ _ _ h6; have h6_1 := cell_of_row _ _ 1 _ _ _ h6; have h6_f := (fun j => frozen_of_row _ _ j _ _ h6); have h6_l := lt_of_block h6; simp at h6_0 h6_1; have H_h6 := Lib.hid h6; clear h6
          go_wp2_with (first
            | (go_at_call 123; refine Calls.mono (HC.out _) ?_; rintro e w' ⟨rfl, rfl⟩)
            | (go_at_call 104; refine Calls.mono (HV.out _) ?_; rintro e w' ⟨rfl, rfl⟩))
          obtain ⟨f1, x0, x1⟩ := gfin (v0 := .int .i64 0) (v1 := .bool false) H_h6.out HP.out (by have := HB6.out; omega) rfl
          obtain ⟨Y, hY⟩ : ∃ Y, (W1.setCell ⟨b6, 0, none⟩ (.int .i64 0)).setCell ⟨b6, 1, none⟩ (.bool false) = Y := ⟨_, rfl⟩
          rw [hY] at f1 x0 x1 ⊢
          exact bodyPost_ret (v := .tuple #[.agg #[.int .i64 0, .bool false], .int .i64 7]) (by simp [results, Tryz.results109, go_sem, x0, x1]) rfl ⟨rfl, f1⟩
set_option maxHeartbeats 1000000 in
theorem rRemoveP_ok {g live tombs : Nat} (hg : Pow g) (h : live + tombs ≤ 8 * g) (hl : live ≤ 7340032) (w : World) : Calls Tryz.prog 67 #[.int .i64 g, .int .i64 live, .int .i64 tombs] w (gremPost w (planR g live)) := by
  have hg1 := hg.le
  have HC := Lib.hid (fun W => r8check_ok hg h W)
  have hp0 : Pure w (w.alloc (.cells #[.int .i64 0, .bool false] 112)) := (Mod.refl _ w).alloc _
  have h6 := heap_new (w := w) (o := .cells #[.int .i64 0, .bool false] 112 (0, 0)) rfl
  have HP := Lib.hid hp0
  clear hp0
  have HB := Lib.hid (fun W => rBound_ok live hl W)
  have wg : IntKind.i64.wrap (8 * (g : Int)) = 8 * (g : Int) := IntWalk.i64_in _ (by omega)
  obtain ⟨r, hr⟩ : ∃ r, planR g live = r := ⟨_, rfl⟩
  rw [hr]
  unfold planR at hr
  obtain ⟨bm, hbm⟩ : ∃ bm, boundM live = bm := ⟨_, rfl⟩
  rw [hbm] at HB hr
  by_cases c2 : bm < 8 * g
  · have d2 : decide ((bm : Int) < 8 * (g : Int)) = true := decide_eq_true (by omega)
    rw [if_pos ⟨hl, c2⟩] at hr
    obtain ⟨q, hq⟩ : ∃ q, bm / 8 = q := ⟨_, rfl⟩
    have e8 : wrap64 ((bm : Int) / 8) = (q : Int) := by
      rw [show (bm : Int) / 8 = (q : Int) by omega]
      exact w64_nat _ (by omega)
    rw [hq] at hr
    subst hr
    clear hg h c2 hbm hq
    go_enter Tryz.func67, Tryz.ntmps67
    go_upto_region 1 with fail
    generalize w.alloc (.cells #[.int .i64 0, .bool false] 112) = W1 at *
    obtain ⟨b6, hb6⟩ : ∃ b, w.heap.size = b := ⟨_, rfl⟩
    rw [hb6] at h6 ⊢
    have HB6 := Lib.hid hb6
    clear hb6
    have h6_0 := cell_of_row _ _ 0 _ _ _ h6; have h6_1 := cell_of_row _ _ 1 _ _ _ h6; have h6_f := (fun j => frozen_of_row _ _ j _ _ h6); have h6_l := lt_of_block h6; simp at h6_0 h6_1; have H_h6 := Lib.hid h6; clear h6
    go_wp2_with (first
      | (go_at_call 123; refine Calls.mono (HC.out _) ?_; rintro e w' ⟨rfl, rfl⟩)
      | (go_at_call 124; refine Calls.mono (HB.out _) ?_; rintro e w' ⟨rfl, rfl⟩))
    obtain ⟨f1, x0, x1⟩ := gfin (v0 := .int .i64 q) (v1 := .bool true) H_h6.out HP.out (by have := HB6.out; omega) rfl
    obtain ⟨Y, hY⟩ : ∃ Y, (W1.setCell ⟨b6, 0, none⟩ (.int .i64 q)).setCell ⟨b6, 1, none⟩ (.bool true) = Y := ⟨_, rfl⟩
    rw [hY] at f1 x0 x1 ⊢
    exact bodyPost_ret (v := .tuple #[.agg #[.int .i64 q, .bool true], .int .i64 0]) (by simp [results, Tryz.results67, go_sem, x0, x1]) rfl ⟨rfl, f1⟩
  · have d2 : decide ((bm : Int) < 8 * (g : Int)) = false := decide_eq_false (by omega)
    rw [if_neg (fun h => c2 h.2)] at hr
    subst hr
    clear hg h c2 hbm
    go_enter Tryz.func67, Tryz.ntmps67
    go_upto_region 1 with fail
    generalize w.alloc (.cells #[.int .i64 0, .bool false] 112) = W1 at *
    obtain ⟨b6, hb6⟩ : ∃ b, w.heap.size = b := ⟨_, rfl⟩
    rw [hb6] at h6 ⊢
    have HB6 := Lib.hid hb6
    clear hb6
    have h6_0 := cell_of_row _ _ 0 _ _ _ h6; have h6_1 := cell_of_row _ _ 1 _ _ _ h6; have h6_f := (fun j => frozen_of_row _ _ j _ _ h6); have h6_l := lt_of_block h6; simp at h6_0 h6_1; have H_h6 := Lib.hid h6; clear h6
    go_wp2_with (first
      | (go_at_call 123; refine Calls.mono (HC.out _) ?_; rintro e w' ⟨rfl, rfl⟩)
      | (go_at_call 124; refine Calls.mono (HB.out _) ?_; rintro e w' ⟨rfl, rfl⟩))
    obtain ⟨f1, x0, x1⟩ := gfin (v0 := .int .i64 g) (v1 := .bool false) H_h6.out HP.out (by have := HB6.out; omega) rfl
    obtain ⟨Y, hY⟩ : ∃ Y, (W1.setCell ⟨b6, 0, none⟩ (.int .i64 g)).setCell ⟨b6, 1, none⟩ (.bool false) = Y := ⟨_, rfl⟩
    rw [hY] at f1 x0 x1 ⊢
    exact bodyPost_ret (v := .tuple #[.agg #[.int .i64 g, .bool false], .int .i64 0]) (by simp [results, Tryz.results67, go_sem, x0, x1]) rfl ⟨rfl, f1⟩
end Go.Proofs.YtapplindfijngaaGreat

/- law07.finds and its closure. -/
namespace Go.Proofs.YtapplindfijngaaGreat
open Go.RowKit Go.Shelf
set_option maxRecDepth 100000

/-- What finds' closure asks. -/
def wanted (slot mod s : Nat) : Bool := if mod = 0 then s == slot else s % mod == 0
/-- A contract of a closure that reads two numbers is one that find asks for. -/
theorem same_of2 {gf B1 B2 : Nat} {g : Nat → Bool} {w : World} {cs1 cs2 : Array Value} {T1 T2 : TypeId} (he : ∀ args w, (callFunc gf args).run Tryz.prog w = .ok (.enter gf args) w) (hB1 : B1 < w.heap.size) (hB2 : B2 < w.heap.size)
    (hb1 : w.heap[B1]? = some (.cells cs1 T1 (0, 0))) (hb2 : w.heap[B2]? = some (.cells cs2 T2 (0, 0)))
    (hc : ∀ (W : World) (s : Nat), s ≤ 4294967295 → W.heap[B1]? = some (.cells cs1 T1 (0, 0)) → W.heap[B2]? = some (.cells cs2 T2 (0, 0)) → Calls Tryz.prog gf #[.int .u32 s, .pointer (some ⟨B1, 0, none⟩), .pointer (some ⟨B2, 0, none⟩)] W fun e w' => e = .returned (.bool (g s)) ∧ W = w') :
    SameOk Tryz.prog gf #[.pointer (some ⟨B1, 0, none⟩), .pointer (some ⟨B2, 0, none⟩)] (fun _ s => g s) (fun _ => False) (fun _ W => W.heap[B1]? = some (.cells cs1 T1 (0, 0)) ∧ W.heap[B2]? = some (.cells cs2 T2 (0, 0))) w :=
  ⟨he, fun pre s W hs hJ => (callsIn_wide.2 (hc W s hs hJ.1 hJ.2)).mono (fun e w' ⟨h1, h2⟩ => by subst h2; exact ⟨h1, hJ, ModC.refl _ _⟩), fun pre A B hJ hm => ⟨hm.heap (fun hk => by have := hk.1; omega) hJ.1, hm.heap (fun hk => by have := hk.1; omega) hJ.2⟩, fun _ h => h.elim, ⟨hb1, hb2⟩⟩
/-- What Find finds, by a function of the slot number alone. -/
def fnd (Gs : List Grp) (sum : Nat) (g : Nat → Bool) : Nat × Nat := match findM Gs sum g with | some x => (slotAt Gs x, 0) | none => (0, 9)
theorem ifind_of {w w' : World} {D : Nat → Prop} {p : Nat} {sv : Value} {Gs : List Grp} {sum : Nat} {g : Nat → Bool} {J : List Nat → World → Prop} {e : Ending} (h : IFindPost w D p sv Gs sum (fun _ s => g s) (fun _ => False) J e w') :
    e = .returned (.tuple #[.int .u32 (fnd Gs sum g).1, .int .i64 (fnd Gs sum g).2]) ∧ Pure w w' ∧ IxRow w' D p sv Gs := by
  obtain ⟨h1, h2, h3⟩ := h
  refine ⟨?_, Mod.mono h1 (fun k _ ⟨_, _, _, _, hf⟩ => hf), h2⟩
  rcases h3 with ⟨a, x, post, hs, hf, hg, he, _⟩ | ⟨hf, he, _⟩
  · have : findM Gs sum g = some x := by
      unfold findM
      rw [hs, List.find?_append, List.find?_eq_none.2 (fun y hy => by
        have := falses_mem hf (slotAt Gs y) (List.mem_map.2 ⟨y, hy, rfl⟩)
        simp [this])]
      simp [hg]
    unfold fnd
    rw [this]
    exact he
  · have : findM Gs sum g = none := by
      unfold findM
      exact List.find?_eq_none.2 (fun y hy => by
        have := falses_mem hf (slotAt Gs y) (List.mem_map.2 ⟨y, hy, rfl⟩)
        simp [this])
    unfold fnd
    rw [this]
    exact he
theorem slotAt_lt {Gs : List Grp} (h : IxOk Gs) (x : Nat × Nat) : slotAt Gs x ≤ 4294967295 := by
  unfold slotAt
  by_cases hx : x.1 < Gs.length
  · exact (h.at hx).slot _
  · have : grpAt Gs x.1 = ([], []) := by unfold grpAt; rw [List.getD_eq_getElem?_getD, List.getElem?_eq_none (by omega)]; rfl
    rw [this]
    simp
theorem fnd_lt {Gs : List Grp} (h : IxOk Gs) (sum : Nat) (g : Nat → Bool) : (fnd Gs sum g).1 ≤ 4294967295 ∧ (fnd Gs sum g).2 ≤ 9 := by
  unfold fnd
  cases findM Gs sum g with
  | none => simp
  | some x => exact ⟨slotAt_lt h x, by simp⟩
def findsM (Gs : List Grp) (sum slot mod want no : Nat) : Bool := (fnd Gs sum (wanted slot mod)).1 == want && (fnd Gs sum (wanted slot mod)).2 == no
end Go.Proofs.YtapplindfijngaaGreat

/- word.Bytes, swiss.Index.Layout. -/
namespace Go.Proofs.YtapplindfijngaaGreat
open Go.RowKit Go.Shelf
set_option maxRecDepth 100000

/-- The lanes of a word while they are read. -/
def arrU (l : List Nat) (i : Nat) : Array Value := #[.int .u8 (if 0 < i then l.getD 0 0 else 0 : Nat), .int .u8 (if 1 < i then l.getD 1 0 else 0 : Nat), .int .u8 (if 2 < i then l.getD 2 0 else 0 : Nat), .int .u8 (if 3 < i then l.getD 3 0 else 0 : Nat), .int .u8 (if 4 < i then l.getD 4 0 else 0 : Nat), .int .u8 (if 5 < i then l.getD 5 0 else 0 : Nat), .int .u8 (if 6 < i then l.getD 6 0 else 0 : Nat), .int .u8 (if 7 < i then l.getD 7 0 else 0 : Nat)]
theorem lane_int {l : List Nat} (h : Bytes8 l) (j : Nat) : ((word8 l : Nat) : Int) / ((2 ^ (8 * j) : Nat) : Int) % 256 = ((l.getD j 0 : Nat) : Int) := by
  have := word8_lane l h.2 j
  omega
theorem lane_int0 {l : List Nat} (h : Bytes8 l) : ((word8 l : Nat) : Int) % 256 = ((l.getD 0 0 : Nat) : Int) := by
  have := word8_lane l h.2 0
  rw [Nat.mul_zero, Nat.pow_zero, Nat.div_one] at this
  omega
theorem lane_int7 {l : List Nat} (h : Bytes8 l) : ((word8 l : Nat) : Int) / 72057594037927936 = ((l.getD 7 0 : Nat) : Int) := by
  have := word8_lane l h.2 7
  have := h.lt
  omega
theorem arrU_step {l : List Nat} {W : World} {B i : Nat} {T : TypeId} (hi : i < 8) (h : W.heap[B]? = some (.cells (arrU l i) T (0, 0))) {v : Value} (hv : v = .int .u8 ((l.getD i 0 : Nat) : Int)) :
    (W.setCell ⟨B, i, none⟩ v).heap[B]? = some (.cells (arrU l (i + 1)) T (0, 0)) := by
  subst hv
  have := heap_set1 (j := i) (v := .int .u8 ((l.getD i 0 : Nat) : Int)) h
  rw [this]
  have : i = 0 ∨ i = 1 ∨ i = 2 ∨ i = 3 ∨ i = 4 ∨ i = 5 ∨ i = 6 ∨ i = 7 := by omega
  rcases this with rfl | rfl | rfl | rfl | rfl | rfl | rfl | rfl <;> rfl
/-- A slice of a block from an offset on. -/
theorem ReadAt.of_block_at {w : World} {B : Nat} {cs : Array Value} {T : TypeId} {fr : Nat × Nat} (o n c : Nat) {xs : List Value} (hb : w.heap[B]? = some (.cells cs T fr)) (hl : xs.length = n) (hx : ∀ j, j < n → cs[o + j]? = xs[j]?) (h1 : ∀ u ∈ xs, u.oneCell' = true) :
    ReadAt w (.slice (some ⟨B, o, none⟩) n c) 1 xs :=
  ⟨some ⟨B, o, none⟩, n, c, rfl, by omega, h1, (fun h => by cases h), fun ad ha j u hu => by
    cases ha
    have hj : j < n := by rw [← hl]; exact (List.getElem?_eq_some_iff.1 hu).1
    have e : (⟨B, 0, none⟩ : Addr).add (o + j) = (⟨B, o, none⟩ : Addr).add j := by
      unfold Addr.add
      by_cases h0 : j = 0
      · subst h0
        by_cases h1 : o = 0
        · subst h1; rfl
        · simp [h1]
      · have : o + j ≠ 0 := by omega
        simp [h0, this]
    rw [← e]
    refine World.news_of_block hb (o + j) u ?_
    rw [Array.getElem?_toList, hx j hj, hu]⟩
/-- Two slices that are appended to, of different types. -/
theorem two_app {w X Y Z : World} {T1 T2 n1 n2 m1 m2 : Nat} {v1 v2 v1' v2' : Value} {xs1 xs2 ys1 ys2 : List Value} (hT : T1 ≠ T2) (hA : X.ownsRow 0 T1 1 v1 n1 xs1) (hB : X.ownsRow 0 T2 1 v2 n2 xs2)
    (hgA : X.grownBy Y v1.ownBlock) (hrA : Y.ownsRow 0 T1 1 v1' m1 ys1) (hbA : v1'.ownBlock = v1.ownBlock ∨ v1'.ownBlock = some X.heap.size)
    (hgB : Y.grownBy Z v2.ownBlock) (hrB : Z.ownsRow 0 T2 1 v2' m2 ys2) (hbB : v2'.ownBlock = v2.ownBlock ∨ v2'.ownBlock = some Y.heap.size)
    (hp : Pure w X) (f1 : ∀ g, v1.ownBlock = some g → w.heap.size ≤ g) (f2 : ∀ g, v2.ownBlock = some g → w.heap.size ≤ g) :
    Pure w Z ∧ Z.ownsRow 0 T1 1 v1' m1 ys1 ∧ (∀ g, v1'.ownBlock = some g → w.heap.size ≤ g) ∧ ∀ g, v2'.ownBlock = some g → w.heap.size ≤ g := by
  have mA : Mod (fun k => v1.ownBlock = some k) X Y := Mod.of_grown hgA (fun k e _ => e)
  have mB : Mod (fun k => v2.ownBlock = some k) Y Z := Mod.of_grown hgB (fun k e _ => e)
  have hBY : Y.ownsRow 0 T2 1 v2 n2 xs2 := owns_mod hB mA (fun g hg hs => by
    obtain ⟨c1, e1⟩ := owns_type hA hs
    obtain ⟨c2, e2⟩ := owns_type hB hg
    rw [e1] at e2; cases e2; exact hT rfl)
  refine ⟨(hp.then mA (fun k hk hs => by have := f1 k hs; omega)).then mB (fun k hk hs => by have := f2 k hs; omega), owns_mod hrA mB (fun g hg hs => ?_), fun g hg => ?_, fun g hg => ?_⟩
  · obtain ⟨c1, e1⟩ := owns_type hrA hg
    obtain ⟨c2, e2⟩ := owns_type hBY hs
    rw [e1] at e2; cases e2; exact hT rfl
  · rcases hbA with e | e
    · exact f1 g (e ▸ hg)
    · rw [e] at hg; cases hg; exact hp.size
  · rcases hbB with e | e
    · exact f2 g (e ▸ hg)
    · rw [e] at hg; cases hg; exact Nat.le_trans hp.size mA.size
/-! ### Layout -/
def laneC (Gs : List Grp) : List Nat := Gs.flatMap (·.1)
def laneS (Gs : List Grp) : List Nat := Gs.flatMap (fun c => c.2)
def u8s (l : List Nat) : List Value := l.map (fun (x : Nat) => Value.int .u8 ((x : Nat) : Int))
def u32v (l : List Nat) : List Value := l.map (fun (x : Nat) => Value.int .u32 ((x : Nat) : Int))
structure LayInv (w : World) (Gs : List Grp) (k : Nat) (v4 v5 : Value) (W : World) : Prop where
  pu : Pure w W
  c : W.ownsRow 0 5 1 v4 (8 * k) (u8s (laneC (Gs.take k)))
  s : W.ownsRow 0 43 1 v5 (8 * k) (u32v (laneS (Gs.take k)))
  fc : ∀ g, v4.ownBlock = some g → w.heap.size ≤ g
  fs : ∀ g, v5.ownBlock = some g → w.heap.size ≤ g
  sc : ∃ a c, v4 = .slice a (8 * k) c
  ss : ∃ a c, v5 = .slice a (8 * k) c
def layPost (w : World) (Gs : List Grp) (e : Ending) (w' : World) : Prop :=
  ∃ v4 v5, e = .returned (.tuple #[v4, v5]) ∧ LayInv w Gs Gs.length v4 v5 w'
theorem lane_step {Gs : List Grp} {i : Nat} {g : Grp} (hi : i < Gs.length) (hg : grpAt Gs i = g) : u8s (laneC (Gs.take (i + 1))) = u8s (laneC (Gs.take i)) ++ u8s g.1 := by
  unfold laneC u8s
  rw [List.take_add_one, grpAt_some hi, hg]
  simp
theorem laneS_step {Gs : List Grp} {i : Nat} {g : Grp} (hi : i < Gs.length) (hg : grpAt Gs i = g) : u32v (laneS (Gs.take (i + 1))) = u32v (laneS (Gs.take i)) ++ u32v g.2 := by
  unfold laneS u32v
  rw [List.take_add_one, grpAt_some hi, hg]
  simp
end Go.Proofs.YtapplindfijngaaGreat

/- The contracts of the index, at an index that the law itself has made. -/
namespace Go.Proofs.YtapplindfijngaaGreat
open Go.RowKit Go.Shelf
set_option maxRecDepth 100000

/-- An index that was made since w. -/
structure Has (w : World) (p : Nat) (sv : Value) (Gs : List Grp) (W : World) : Prop where
  ix : IxRow W (fun k => k = p ∨ sv.ownBlock = some k) p sv Gs
  pu : Pure w W
  fp : w.heap.size ≤ p
  fs : ∀ k, sv.ownBlock = some k → w.heap.size ≤ k
theorem Has.d {w W : World} {p : Nat} {sv : Value} {Gs : List Grp} (h : Has w p sv Gs W) (k : Nat) (hk : k = p ∨ sv.ownBlock = some k) : w.heap.size ≤ k := by
  rcases hk with rfl | hk
  · exact h.fp
  · exact h.fs k hk
theorem Has.pure {w W W' : World} {p : Nat} {sv : Value} {Gs : List Grp} (h : Has w p sv Gs W) (hp : Pure W W') : Has w p sv Gs W' := ⟨h.ix.pure hp, h.pu.trans hp, h.fp, h.fs⟩
theorem Has.put {w W W' : World} {p : Nat} {sv : Value} {Gs Gs' : List Grp} (h : Has w p sv Gs W) (hx : IxRow W' (fun k => k = p ∨ sv.ownBlock = some k) p sv Gs') (hm : Mod (fun k => k = p ∨ sv.ownBlock = some k) W W') : Has w p sv Gs' W' :=
  ⟨hx, h.pu.then hm (fun k hk hd => by have := h.d k hd; omega), h.fp, h.fs⟩
theorem Has.mk_new {w W W' : World} {g : Nat} {e : Ending} (hp : Pure w W) (h : newPost W g e W') : ∃ p sv, e = .returned (.tuple #[.pointer (some ⟨p, 0, none⟩), .int .i64 0]) ∧ Has w p sv (newG g) W' ∧ W.heap.size ≤ p ∧ (∀ k, sv.ownBlock = some k → W.heap.size ≤ k) ∧ Pure W W' := by
  obtain ⟨p, sv, he, hix, hpu, hlp, hls⟩ := h
  exact ⟨p, sv, he, ⟨hix, hp.trans hpu, Nat.le_trans hp.size hlp, fun k hk => Nat.le_trans hp.size (hls k hk)⟩, hlp, hls, hpu⟩
section
variable {w W : World} {p : Nat} {sv : Value} {Gs : List Grp}
theorem Has.ins (h : Has w p sv Gs W) {sum slot : Nat} {Gs' : List Grp} (hm : insM Gs sum slot = some Gs') (h1 : sum < 18446744073709551616) (h2 : slot ≤ 4294967295) :
    Calls Tryz.prog 107 #[.pointer (some ⟨p, 0, none⟩), .int .u64 sum, .int .u32 slot] W fun e w' => e = .returned (.int .i64 0) ∧ Has w p sv Gs' w' ∧ Mod (fun k => k = p ∨ sv.ownBlock = some k) W w' :=
  (Insert_ok h.ix sum slot h1 h2).mono (fun e w' hq => by
    unfold insPost at hq
    rw [hm] at hq
    exact ⟨hq.1, h.put hq.2.1 hq.2.2, hq.2.2⟩)
theorem Has.ins_full (h : Has w p sv Gs W) {sum slot : Nat} (hm : insM Gs sum slot = none) (h1 : sum < 18446744073709551616) (h2 : slot ≤ 4294967295) :
    Calls Tryz.prog 107 #[.pointer (some ⟨p, 0, none⟩), .int .u64 sum, .int .u32 slot] W fun e w' => e = .returned (.int .i64 7) ∧ Has w p sv Gs w' ∧ Mod (fun k => k = p ∨ sv.ownBlock = some k) W w' :=
  (Insert_ok h.ix sum slot h1 h2).mono (fun e w' hq => by
    unfold insPost at hq
    rw [hm] at hq
    exact ⟨hq.1, h.put hq.2.1 hq.2.2, hq.2.2⟩)
theorem Has.rem (h : Has w p sv Gs W) {sum slot i j : Nat} (hm : findM Gs sum (fun x => x == slot) = some (i, j)) (h1 : sum < 18446744073709551616) (h2 : slot ≤ 4294967295) :
    Calls Tryz.prog 57 #[.pointer (some ⟨p, 0, none⟩), .int .u64 sum, .int .u32 slot] W fun e w' => e = .returned (.int .i64 0) ∧ Has w p sv (delG Gs i j) w' ∧ Mod (fun k => k = p ∨ sv.ownBlock = some k) W w' :=
  (Remove_ok h.ix sum slot h1 h2).mono (fun e w' hq => by
    unfold remPost at hq
    rw [hm] at hq
    exact ⟨hq.1, h.put hq.2.1 hq.2.2, hq.2.2⟩)
theorem Has.rem_none (h : Has w p sv Gs W) {sum slot : Nat} (hm : findM Gs sum (fun x => x == slot) = none) (h1 : sum < 18446744073709551616) (h2 : slot ≤ 4294967295) :
    Calls Tryz.prog 57 #[.pointer (some ⟨p, 0, none⟩), .int .u64 sum, .int .u32 slot] W fun e w' => e = .returned (.int .i64 9) ∧ Has w p sv Gs w' ∧ Mod (fun k => k = p ∨ sv.ownBlock = some k) W w' :=
  (Remove_ok h.ix sum slot h1 h2).mono (fun e w' hq => by
    unfold remPost at hq
    rw [hm] at hq
    exact ⟨hq.1, h.put hq.2.1 hq.2.2, hq.2.2⟩)
theorem Has.len (h : Has w p sv Gs W) {n : Nat} (hn : usedN Gs = n) : Calls Tryz.prog 61 #[.pointer (some ⟨p, 0, none⟩)] W fun e w' => e = .returned (.int .i64 n) ∧ W = w' := by subst hn; exact ILen_ok h.ix
theorem Has.tombs (h : Has w p sv Gs W) {n : Nat} (hn : tombN Gs = n) : Calls Tryz.prog 62 #[.pointer (some ⟨p, 0, none⟩)] W fun e w' => e = .returned (.int .i64 n) ∧ W = w' := by subst hn; exact ITombs_ok h.ix
end
/-- Three is no power of two. -/
theorem PValid_three (W : World) : Calls Tryz.prog 102 #[.int .i64 3] W fun e w' => e = .returned (.bool false) ∧ W = w' := by
  go_enter Tryz.func102, Tryz.ntmps102
  go_wp2
  all_goals go_ret
  all_goals exact ⟨rfl, rfl⟩
theorem New_three (W : World) : Calls Tryz.prog 46 #[.int .i64 3] W fun e w' => e = .returned (.tuple #[.pointer none, .int .i64 2]) ∧ W = w' := by
  have HV := Lib.hid (fun W => PValid_three W)
  go_enter Tryz.func46, Tryz.ntmps46
  go_wp2_with (go_at_call 102; refine Calls.mono (HV.out _) ?_; rintro e w' ⟨rfl, rfl⟩)
  exact bodyPost_ret (v := .tuple #[.pointer none, .int .i64 2]) (by simp [results, Tryz.results46, go_sem]) rfl ⟨rfl, rfl⟩
/-- The bytes as a string. -/
def strOf (l : List Nat) : ByteArray := ⟨(l.map (fun x => UInt8.ofNat x)).toArray⟩
theorem conv_u8s {w : World} {a : Addr} {c : Nat} (l : List Nat) (hl : ∀ x ∈ l, x < 256) (h : ReadAt w (.slice (some a) l.length c) 1 (u8s l)) :
    (convert 33 9 (.slice (some a) l.length c)).run Tryz.prog w = .ok (.string (strOf l)) w := by
  obtain ⟨a', n', c', he, hlen, _, h0, hc⟩ := h
  cases he
  have := run_convert_bytes_back w _ _ _ a c (l.map (fun x => UInt8.ofNat x)) Tryz.underlying33 Tryz.underlying5 Tryz.underlying9 (fun j hj => by
    have hj' : j < l.length := by simpa using hj
    refine hc a rfl j _ ?_
    unfold u8s
    rw [List.getElem?_map, List.getElem?_eq_getElem hj']
    simp
    have := hl _ (List.getElem_mem hj')
    omega)
  rw [List.length_map] at this
  exact this
end Go.Proofs.YtapplindfijngaaGreat
