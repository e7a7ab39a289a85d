/- Lemmas and contracts of functions, strung together out of 5 texts. No condition. -/
import Derived.Test.YtapplindfijngaaJPfDictHolds9
import Derived.Test.YtapplindfijngaaJPfDictHolds4
import Derived.Test.YtapplindfijngaaJPfDictHolds2
/- Plain laws of a dictionary: what its index holds, that there is room behind a plan, what is found. -/
namespace Go.Proofs.Ytapplindfijngaa
open Go.RowKit Go.Shelf

/-! ### the keys of a log -/
theorem ba_beq (a b : ByteArray) : (a == b) = true ↔ a = b := by
  cases a; cases b
  rename_i x y
  show (x == y) = true ↔ _
  simp
def liveS (L : List (Option Ent)) (s : Nat) : Prop := ∃ e, L[s]? = some (some e)
def sumL (seed : Nat) (same : Bool) (L : List (Option Ent)) (s : Nat) : Nat := sumS seed same (keyL L s)
theorem hasL_iff {L : List (Option Ent)} {s : Nat} : hasL L s = true ↔ liveS L s := by
  unfold hasL liveS
  split
  · rename_i e h; exact ⟨fun _ => ⟨e, h⟩, fun _ => rfl⟩
  · rename_i h; exact ⟨fun h => by simp at h, fun ⟨e, h2⟩ => absurd h2 (h e)⟩
theorem keyL_some {L : List (Option Ent)} {s : Nat} {e : Ent} (h : L[s]? = some (some e)) : keyL L s = e.key := by unfold keyL; rw [h]
theorem ba_list (a b : ByteArray) : (a.toList == b.toList) = (a == b) := by
  rw [Bool.eq_iff_iff, ba_beq, beq_iff_eq, ByteArray.toList_eq, ByteArray.toList_eq]
  exact ⟨fun h => ByteArray.ext (Array.toList_inj.1 h), fun h => by rw [h]⟩
/-- No two entries have one key. -/
def KeysOk (L : List (Option Ent)) : Prop := ∀ (s t : Nat) (e f : Ent), L[s]? = some (some e) → L[t]? = some (some f) → e.key = f.key → s = t
def isK (key : ByteArray) (o : Option Ent) : Bool := match o with
  | some e => e.key == key
  | none => false
/-- The slot number of the entry with a key. -/
def findK (L : List (Option Ent)) (key : ByteArray) : Option Nat := L.findIdx? (isK key)
theorem isK_iff {key : ByteArray} {o : Option Ent} : isK key o = true ↔ ∃ e, o = some e ∧ e.key = key := by
  cases o with
  | none => simp [isK]
  | some e => simp [isK, ba_beq]
theorem findK_some {L : List (Option Ent)} {key : ByteArray} {s : Nat} (h : findK L key = some s) : ∃ e : Ent, L[s]? = some (some e) ∧ e.key = key := by
  unfold findK at h
  obtain ⟨hl, hp, _⟩ := List.findIdx?_eq_some_iff_getElem.1 h
  obtain ⟨e, he, hk⟩ := isK_iff.1 hp
  exact ⟨e, by rw [List.getElem?_eq_getElem hl, he], hk⟩
theorem findK_none {L : List (Option Ent)} {key : ByteArray} (h : findK L key = none) : ∀ (s : Nat) (e : Ent), L[s]? = some (some e) → e.key ≠ key := by
  unfold findK at h
  rw [List.findIdx?_eq_none_iff] at h
  intro s e hs hk
  have := h _ (List.mem_of_getElem? hs)
  rw [isK_iff.2 ⟨e, rfl, hk⟩] at this
  cases this
theorem findK_eq {L : List (Option Ent)} (hk : KeysOk L) {s : Nat} {e : Ent} (h : L[s]? = some (some e)) : findK L e.key = some s := by
  cases hf : findK L e.key with
  | none => exact absurd rfl (findK_none hf s e h)
  | some t =>
    obtain ⟨f, h1, h2⟩ := findK_some hf
    rw [hk t s f e h1 h h2]
theorem findK_not {L : List (Option Ent)} {key : ByteArray} (h : ∀ (s : Nat) (e : Ent), L[s]? = some (some e) → e.key ≠ key) : findK L key = none := by
  cases hf : findK L key with
  | none => rfl
  | some t =>
    obtain ⟨f, h1, h2⟩ := findK_some hf
    exact absurd h2 (h t f h1)

/-! ### what is held -/
theorem Holds.congr {H H' : Nat → Nat} {S : Nat → Prop} {Gs : List Grp} (h : Holds H S Gs) (he : ∀ s, S s → H s = H' s) : Holds H' S Gs :=
  ⟨h.ok, fun i j t s hf => by rw [← he s ((h.mem s).2 ⟨i, j, t, hf⟩)]; exact h.tag i j t s hf, fun i j t s hf => by rw [← he s ((h.mem s).2 ⟨i, j, t, hf⟩)]; exact h.reach i j t s hf, h.uniq, h.mem⟩
/-- The index of a log's entries. -/
structure Keeps (seed : Nat) (same : Bool) (L : List (Option Ent)) (Gs : List Grp) : Prop where
  holds : Holds (sumL seed same L) (liveS L) Gs
  keys : KeysOk L
  used : usedN Gs = liveOf L
theorem foldM_lt' {h : Nat} (hh : h < 18446744073709551616) (l : List UInt8) : foldM h l < 18446744073709551616 := foldM_lt hh l
theorem mixM_lt {n : Nat} : mixM n < 18446744073709551616 := by
  have h1 : mix5 n < 2 ^ 64 := mix5_lt n
  exact Nat.xor_lt_two_pow h1 (Nat.lt_of_le_of_lt (Nat.div_le_self _ _) h1)
theorem sumL_lt (seed : Nat) (same : Bool) (L : List (Option Ent)) (s : Nat) : sumL seed same L s < 18446744073709551616 := mixM_lt
theorem full_slot {H : Nat → Nat} {S : Nat → Prop} {Gs : List Grp} (h : Holds H S Gs) {sum : Nat} {x : Nat × Nat} (hx : x ∈ seenM Gs sum) : S (slotAt Gs x) := (h.mem _).2 ⟨_, _, _, seen_full h.ok hx⟩
/-- What is found by a key. -/
theorem Keeps.find {seed : Nat} {same : Bool} {L : List (Option Ent)} {Gs : List Grp} (h : Keeps seed same L Gs) {w w' : World} {D : Nat → Prop} {p : Nat} {sv : Value} {key : ByteArray} {C : TypeId → Prop} {J : List Nat → World → Prop} {e : Ending}
    (hp : IFindPost w D p sv Gs (sumS seed same key) (fun _ s => keyL L s == key) C J e w') :
    e = .returned (.tuple (match findK L key with | some s => #[.int .u32 s, .int .i64 0] | none => #[.int .u32 0, .int .i64 9])) := by
  obtain ⟨_, _, ⟨a, x, post, h1, h2, h3, h4, h5⟩ | ⟨h1, h2, h3⟩⟩ := hp
  · have hx : x ∈ seenM Gs (sumS seed same key) := by rw [h1]; simp
    obtain ⟨f, hf⟩ := full_slot h.holds hx
    have hk : f.key = key := by
      have : (keyL L (slotAt Gs x) == key) = true := h3
      rw [keyL_some hf] at this
      exact (ba_beq _ _).1 this
    have := findK_eq h.keys hf
    rw [hk] at this
    rw [this]
    exact h4
  · have : findK L key = none := by
      refine findK_not (fun s f hs hk => ?_)
      obtain ⟨i, j, hm, hF⟩ := h.holds.find_some (s := s) ⟨f, hs⟩
      have e1 : sumL seed same L s = sumS seed same key := by unfold sumL; rw [keyL_some hs, hk]
      rw [e1] at hm
      unfold findM at hm
      have hx := List.mem_of_find?_eq_some hm
      have := falses_mem h1 _ (List.mem_map.2 ⟨_, hx, rfl⟩)
      rw [hF.slot, keyL_some hs, hk, (ba_beq key key).2 rfl] at this
      cases this
    rw [this]
    exact h2

/-! ### plans -/
theorem used_tomb_le : ∀ {Gs : List Grp}, (∀ c ∈ Gs, GrpOk c) → usedN Gs + tombN Gs ≤ 8 * Gs.length
  | [], _ => by simp [usedN, tombN]
  | c :: Gs, h => by
    have h1 := used_tomb_le (Gs := Gs) (fun c hc => h c (by simp [hc]))
    have h2 : ∀ l : List Nat, l.countP (· < 128) + l.countP (· == 254) ≤ l.length := by
      intro l
      induction l with
      | nil => simp
      | cons a l ih =>
        simp only [List.countP_cons, List.length_cons]
        by_cases c1 : a < 128
        · have : (a == 254) = false := by simp; omega
          simp [c1, this] at *; omega
        · by_cases c2 : (a == 254) = true
          · simp [c1, c2] at *; omega
          · simp [c1, c2] at *; omega
    have h3 := h2 c.1
    rw [(h c (by simp)).ctl.1] at h3
    unfold usedN tombN at *
    simp only [List.map_cons, List.sum_cons, List.length_cons]
    omega
theorem Pow.dbl {g : Nat} (h : Pow g) (hlt : g < 1048576) : Pow (2 * g) := by
  obtain ⟨k, hk, rfl⟩ := h
  refine ⟨k + 1, ?_, by rw [Nat.pow_succ]; omega⟩
  have : k ≠ 20 := by rintro rfl; omega
  omega
/-- What a plan does to an index. -/
def doG (H : Nat → Nat) (x : Nat × Bool) (Gs : List Grp) : List Grp := if x.2 then rehM H x.1 Gs else Gs
theorem plan_ok {Gs : List Grp} (h : IxOk Gs) (hl : usedN Gs ≤ 4194304) : ∃ x, planI Gs.length (usedN Gs) (tombN Gs) = some x ∧ Pow x.1 ∧ usedN Gs < 8 * x.1 ∧ (x.2 = false → x.1 = Gs.length) := by
  have hp := h.pow
  have h0 := hp.pos; have h1 := hp.le
  unfold planI
  split
  · exact ⟨_, rfl, hp, by show _ < 8 * Gs.length; omega, fun _ => rfl⟩
  · split
    · exact ⟨_, rfl, hp, by show _ < 8 * Gs.length; omega, by simp⟩
    · have h2 := used_le8 h
      split
      · rename_i h3
        exact ⟨_, rfl, hp.dbl h3, by show _ < 8 * (2 * Gs.length); omega, by simp⟩
      · have h4 : Gs.length = 1048576 := by omega
        rw [if_pos (by omega)]
        exact ⟨_, rfl, hp, by show _ < 8 * Gs.length; omega, by simp⟩
theorem Holds.do {H : Nat → Nat} {S : Nat → Prop} {Gs : List Grp} (h : Holds H S Gs) {x : Nat × Bool} (hx : Pow x.1) (hu : usedN Gs ≤ 8 * x.1) (hn : x.2 = false → x.1 = Gs.length) :
    Holds H S (doG H x Gs) ∧ usedN (doG H x Gs) = usedN Gs ∧ (doG H x Gs).length = x.1 := by
  unfold doG
  cases hb : x.2 with
  | false => exact ⟨h, rfl, (hn hb).symm⟩
  | true =>
    obtain ⟨h1, h2, h3, _⟩ := h.rehash hx hu
    exact ⟨h1, h2, h3⟩
/-- What an index is behind a slot number that is put in by a plan. -/
def putM (H : Nat → Nat) (Gs : List Grp) (s : Nat) : List Grp := insD H (doG H ((planI Gs.length (usedN Gs) (tombN Gs)).getD (0, false)) Gs) s
theorem Holds.put {H : Nat → Nat} {S : Nat → Prop} {Gs : List Grp} (h : Holds H S Gs) (hl : usedN Gs ≤ 4194304) {s : Nat} (hs : s ≤ 4294967295) (hn : ¬ S s) :
    ∃ x, planI Gs.length (usedN Gs) (tombN Gs) = some x ∧ Pow x.1 ∧ usedN Gs ≤ 8 * x.1 ∧ (x.2 = false → x.1 = Gs.length) ∧ Holds H S (doG H x Gs) ∧ insM (doG H x Gs) (H s) s = some (putM H Gs s) ∧
      Holds H (fun y => y = s ∨ S y) (putM H Gs s) ∧ usedN (putM H Gs s) = usedN Gs + 1 := by
  obtain ⟨x, h1, h2, h3, h4⟩ := plan_ok h.ok hl
  obtain ⟨k1, k2, k3⟩ := h.do h2 (Nat.le_of_lt h3) h4
  have hm : ∃ o, insM (doG H x Gs) (H s) s = some o := by
    cases e : insM (doG H x Gs) (H s) s with
    | some o => exact ⟨o, rfl⟩
    | none =>
      have := (ins_none k1.ok _ _).1 e
      rw [k2, k3] at this
      omega
  obtain ⟨o, ho⟩ := hm
  have e : putM H Gs s = o := by
    unfold putM insD
    rw [h1]
    simp [ho]
  rw [e]
  refine ⟨x, h1, h2, Nat.le_of_lt h3, h4, k1, ho, k1.ins hs hn ho, ?_⟩
  rw [(ins_counts k1.ok hs ho).1, k2]
/-- An entry more. -/
theorem keyL_append (L : List (Option Ent)) (o : Option Ent) {s : Nat} (h : s < L.length) : keyL (L ++ [o]) s = keyL L s := by
  unfold keyL
  rw [List.getElem?_append_left h]
theorem liveS_lt {L : List (Option Ent)} {s : Nat} (h : liveS L s) : s < L.length := by
  obtain ⟨e, h⟩ := h
  exact (List.getElem?_eq_some_iff.1 h).1
theorem liveS_append (L : List (Option Ent)) (x : Ent) (s : Nat) : liveS (L ++ [some x]) s ↔ s = L.length ∨ liveS L s := by
  constructor
  · rintro ⟨e, h⟩
    rcases Nat.lt_trichotomy s L.length with hl | hl | hl
    · rw [List.getElem?_append_left hl] at h; exact .inr ⟨e, h⟩
    · exact .inl hl
    · rw [List.getElem?_eq_none (by simp; omega)] at h; cases h
  · rintro (rfl | h)
    · exact ⟨x, by simp⟩
    · obtain ⟨e, he⟩ := id h
      exact ⟨e, by rw [List.getElem?_append_left (liveS_lt h)]; exact he⟩
theorem keys_append {L : List (Option Ent)} (h : KeysOk L) {x : Ent} (hx : findK L x.key = none) : KeysOk (L ++ [some x]) := by
  have hn := findK_none hx
  have hc : ∀ s e, (L ++ [some x])[s]? = some (some e) → (s < L.length ∧ L[s]? = some (some e)) ∨ (s = L.length ∧ e = x) := by
    intro s e hs
    rcases Nat.lt_trichotomy s L.length with hl | hl | hl
    · rw [List.getElem?_append_left hl] at hs; exact .inl ⟨hl, hs⟩
    · subst hl
      simp at hs
      exact .inr ⟨rfl, hs.symm⟩
    · rw [List.getElem?_eq_none (by simp; omega)] at hs; cases hs
  intro s t e f hs ht hk
  rcases hc s e hs with ⟨h1, h2⟩ | ⟨h1, h2⟩ <;> rcases hc t f ht with ⟨h3, h4⟩ | ⟨h3, h4⟩
  · exact h s t e f h2 h4 hk
  · subst h4; exact absurd hk (hn s e h2)
  · subst h2; exact absurd hk.symm (hn t f h4)
  · omega
theorem liveOf_append (L : List (Option Ent)) (x : Ent) : liveOf (L ++ [some x]) = liveOf L + 1 := by unfold liveOf; simp
theorem liveOf_le' (L : List (Option Ent)) : liveOf L ≤ L.length := List.countP_le_length
theorem Keeps.insert {seed : Nat} {same : Bool} {L : List (Option Ent)} {Gs : List Grp} (h : Keeps seed same L Gs) {x : Ent} (hx : findK L x.key = none) (hl : L.length ≤ 4194304) :
    Holds (sumL seed same (L ++ [some x])) (liveS L) Gs ∧ Keeps seed same (L ++ [some x]) (putM (sumL seed same (L ++ [some x])) Gs L.length) := by
  have h1 : Holds (sumL seed same (L ++ [some x])) (liveS L) Gs := h.holds.congr (fun s hs => by unfold sumL; rw [keyL_append _ _ (liveS_lt hs)])
  have h0 := liveOf_le' L
  obtain ⟨y, k1, k2, k3, k4, k5, k6, k7, k8⟩ := h1.put (by rw [h.used]; omega) (s := L.length) (by omega) (fun c => by have := liveS_lt c; omega)
  exact ⟨h1, k7.of_iff (fun s => (liveS_append L x s).symm), keys_append h.keys hx, by rw [k8, h.used, liveOf_append]⟩
theorem Keeps.new (seed : Nat) (same : Bool) : Keeps seed same [] (newG 1) :=
  ⟨(newG_holds _ ⟨0, by decide, rfl⟩).of_iff (fun s => ⟨fun h => h.elim, fun ⟨e, h⟩ => by simp at h⟩), fun s t e f h => by simp at h, by rw [newG_used]; rfl⟩
end Go.Proofs.Ytapplindfijngaa

/- What a dictionary is in memory; its inner functions: key, sum, zero, full, plan, do, put. -/
namespace Go.Proofs.Ytapplindfijngaa
open Go.RowKit Go.Shelf
set_option maxRecDepth 100000

/-! ### hash.Sum -/
theorem HSum_ok (seed : Nat) (same : Bool) (hs : seed < 18446744073709551616) (key : ByteArray) (hk : key.size ≤ 140737488355328) (w : World) :
    Calls Try.prog 29 #[.agg #[.int .u64 seed, .bool same], .string key] w fun e w' => e = .returned (.int .u64 (sumS seed same key : Nat)) ∧ Pure w w' := by
  have hp : Pure w (w.alloc (.cells #[.int .u64 seed, .bool same] 29)) := (Mod.refl _ w).alloc _
  have hb := heap_new (w := w) (o := (.cells #[.int .u64 seed, .bool same] 29 (0, 0))) rfl
  have HP := Lib.hid hp
  obtain ⟨res, hres⟩ : ∃ res, sumS seed same key = res := ⟨_, rfl⟩
  rw [hres]
  unfold sumS at hres
  have HR := Lib.hid hres
  clear hp hres
  cases same with
  | true =>
    have hr := HR.out
    simp only [if_true] at hr
    have HF := Lib.hid (fun W => fold_ok seed hs ⟨#[]⟩ (by decide) W)
    have HM := Lib.hid (fun W => Mix_ok seed hs W)
    have e0 : foldM seed (⟨#[]⟩ : ByteArray).data.toList = seed := rfl
    have e1 : foldM seed [] = seed := rfl
    rw [e1] at hr
    rw [e0] at HF
    subst hr
    clear HR e0 e1
    go_enter Try.func29, Try.ntmps29
    go_upto_region 1 with fail
    generalize w.alloc (.cells #[.int .u64 seed, .bool true] 29) = W1 at *
    generalize w.heap.size = b at *
    have hb_0 := cell_of_row _ _ 0 _ _ _ hb; have hb_1 := cell_of_row _ _ 1 _ _ _ hb; have hb_f := (fun j => frozen_of_row _ _ j _ _ hb); have hb_l := lt_of_block hb; simp at hb_0 hb_1; have H_hb := Lib.hid hb; clear hb
    go_wp2_with (first
      | (go_at_call 56; refine Calls.mono (HF.out _) ?_; rintro e w' ⟨rfl, rfl⟩)
      | (go_at_call 55; refine Calls.mono (HM.out _) ?_; rintro e w' ⟨rfl, rfl⟩))
    go_ret
    exact ⟨rfl, HP.out⟩
  | false =>
    have hr := HR.out
    simp only [Bool.false_eq_true, if_false] at hr
    have hq := foldM_lt hs key.data.toList
    have HF := Lib.hid (fun W => fold_ok seed hs key hk W)
    have HM := Lib.hid (fun W => Mix_ok _ hq W)
    subst hr
    clear HR
    generalize foldM seed key.data.toList = q at *
    go_enter Try.func29, Try.ntmps29
    go_upto_region 1 with fail
    generalize w.alloc (.cells #[.int .u64 seed, .bool false] 29) = W1 at *
    generalize w.heap.size = b at *
    have hb_0 := cell_of_row _ _ 0 _ _ _ hb; have hb_1 := cell_of_row _ _ 1 _ _ _ hb; have hb_f := (fun j => frozen_of_row _ _ j _ _ hb); have hb_l := lt_of_block hb; simp at hb_0 hb_1; have H_hb := Lib.hid hb; clear hb
    go_wp2_with (first
      | (go_at_call 56; refine Calls.mono (HF.out _) ?_; rintro e w' ⟨rfl, rfl⟩)
      | (go_at_call 55; refine Calls.mono (HM.out _) ?_; rintro e w' ⟨rfl, rfl⟩))
    go_ret
    exact ⟨rfl, HP.out⟩

/-! ### a dictionary in memory -/
abbrev dPtr (d : Nat) : Value := .pointer (some ⟨d, 0, none⟩)
/-- Block d is a Dict of the log in block q and of the index in block p. -/
structure DictMem (w : World) (d q p : Nat) (sv : Value) (Dl : Nat → Prop) (seed : Nat) (same : Bool) (L : List (Option Ent)) (Gs : List Grp) : Prop where
  box : w.heap[d]? = some (.cells #[.pointer (some ⟨q, 0, none⟩), .int .u64 seed, .bool same, .pointer (some ⟨p, 0, none⟩)] 65 (0, 0))
  log : LogAt w Dl q L
  ix : IxRow w (fun k => k = p ∨ sv.ownBlock = some k) p sv Gs
  sd : seed < 18446744073709551616
section
variable {w w' : World} {d q p : Nat} {sv : Value} {Dl : Nat → Prop} {seed : Nat} {same : Bool} {L : List (Option Ent)} {Gs : List Grp}
theorem DictMem.pure (h : DictMem w d q p sv Dl seed same L Gs) (hp : Pure w w') : DictMem w' d q p sv Dl seed same L Gs :=
  ⟨hp.heap (fun h => h) h.box, h.log.pure hp, h.ix.pure hp, h.sd⟩
/-- The blocks of a dictionary. -/
def dictD (d : Nat) (Dl : Nat → Prop) (p : Nat) (sv : Value) (k : Nat) : Prop := k = d ∨ Dl k ∨ k = p ∨ sv.ownBlock = some k
theorem DictMem.types (h : DictMem w d q p sv Dl seed same L Gs) {k : Nat} (hk : dictD d Dl p sv k) {cs : Array Value} {T : TypeId} {fz : Nat × Nat} (e : w.heap[k]? = some (.cells cs T fz)) :
    T = 65 ∨ T = 92 ∨ T = 36 ∨ T = 85 ∨ T = 89 := by
  rcases hk with rfl | hk | rfl | hk
  · rw [h.box] at e; cases e; exact .inl rfl
  · rcases h.log.types hk e with e | e
    · exact .inr (.inl e)
    · exact .inr (.inr (.inl e))
  · rw [h.ix.box] at e; cases e; exact .inr (.inr (.inr (.inl rfl)))
  · obtain ⟨cc, e2⟩ := owns_type h.ix.row hk
    rw [e2] at e; cases e; exact .inr (.inr (.inr (.inr rfl)))
theorem DictMem.lt (h : DictMem w d q p sv Dl seed same L Gs) {k : Nat} (hk : dictD d Dl p sv k) : k < w.heap.size := by
  rcases hk with rfl | hk | rfl | hk
  · exact lt_of_block h.box
  · exact h.log.lt hk
  · exact lt_of_block h.ix.box
  · exact owns_lt h.ix.row hk
/-- A dictionary behind a change of other blocks. -/
theorem DictMem.frame {S : Nat → Prop} (h : DictMem w d q p sv Dl seed same L Gs) (hm : Mod S w w') (hD : ∀ k, dictD d Dl p sv k → ¬ S k) (hS : ∀ k, k < w.heap.size → S k → ∀ cs fz, w.heap[k]? ≠ some (.cells cs 5 fz)) : DictMem w' d q p sv Dl seed same L Gs :=
  ⟨hm.heap (hD d (.inl rfl)) h.box, h.log.frame hm (fun k hk => hD k (.inr (.inl hk))) hS, h.ix.mod hm (fun k hk => hD k (.inr (.inr hk))), h.sd⟩
theorem DictMem.nd (h : DictMem w d q p sv Dl seed same L Gs) : ¬ Dl d := fun hk => by
  rcases h.log.types hk h.box with e | e <;> cases e
theorem DictMem.npd (h : DictMem w d q p sv Dl seed same L Gs) : p ≠ d := fun e => by
  have h1 := h.ix.box; rw [e, h.box] at h1; cases h1
theorem DictMem.nsd (h : DictMem w d q p sv Dl seed same L Gs) : sv.ownBlock ≠ some d := fun e => by
  obtain ⟨cc, e2⟩ := owns_type h.ix.row e
  rw [h.box] at e2; cases e2
theorem DictMem.nlp (h : DictMem w d q p sv Dl seed same L Gs) : ∀ k, Dl k → ¬ (k = p ∨ sv.ownBlock = some k) := by
  rintro k hk (rfl | e)
  · rcases h.log.types hk h.ix.box with e | e <;> cases e
  · obtain ⟨cc, e2⟩ := owns_type h.ix.row e
    rcases h.log.types hk e2 with e | e <;> cases e
end

/-! ### key, sum, zero, full -/
theorem key_size {w : World} {D : Nat → Prop} {q : Nat} {L : List (Option Ent)} (h : LogAt w D q L) (s : Nat) : (keyL L s).size ≤ 250 := by
  unfold keyL
  split
  · rename_i e he; exact (h.ok.ent e (List.mem_of_getElem? he)).k1
  · decide
theorem skey_ok {w : World} {D : Nat → Prop} {q : Nat} {L : List (Option Ent)} (h : LogAt w D q L) (s : Nat) (hs : s ≤ 4294967295) :
    Calls Try.prog 31 #[.agg #[.pointer (some ⟨q, 0, none⟩)], .int .u32 s] w fun e w' => e = .returned (.string (keyL L s)) ∧ Pure w w' := by
  have hp : Pure w (w.alloc (.cells #[.pointer (some ⟨q, 0, none⟩)] 63)) := (Mod.refl _ w).alloc _
  have hb := heap_new (w := w) (o := (.cells #[.pointer (some ⟨q, 0, none⟩)] 63 (0, 0))) rfl
  have HK := Lib.hid (Key_any (h.pure hp) s hs)
  have HP := Lib.hid hp
  clear h hp
  go_enter Try.func31, Try.ntmps31
  go_upto_region 1 with fail
  generalize w.alloc (.cells #[.pointer (some ⟨q, 0, none⟩)] 63) = W1 at *
  generalize w.heap.size = b at *
  have hb_0 := cell_of_row _ _ 0 _ _ _ hb; have hb_f := (fun j => frozen_of_row _ _ j _ _ hb); have hb_l := lt_of_block hb; simp at hb_0; have H_hb := Lib.hid hb; clear hb
  go_wp2_with (go_at_call 32; refine Calls.mono HK.out ?_; rintro e w' ⟨rfl, rfl⟩)
  go_ret
  exact ⟨rfl, HP.out⟩
theorem dzero_ok {w : World} {d q p : Nat} {sv : Value} {Dl : Nat → Prop} {seed : Nat} {same : Bool} {L : List (Option Ent)} {Gs : List Grp} (h : DictMem w d q p sv Dl seed same L Gs) :
    Calls Try.prog 21 #[dPtr d] w fun e w' => e = .returned (.bool false) ∧ w = w' := by
  have hb := h.box
  clear h
  have hb_0 := cell_of_row _ _ 0 _ _ _ hb; have hb_1 := cell_of_row _ _ 1 _ _ _ hb; have hb_2 := cell_of_row _ _ 2 _ _ _ hb; have hb_3 := cell_of_row _ _ 3 _ _ _ hb; have hb_f := (fun j => frozen_of_row _ _ j _ _ hb); have hb_l := lt_of_block hb; simp at hb_0 hb_1 hb_2 hb_3; have H_hb := Lib.hid hb; clear hb
  go_enter Try.func21, Try.ntmps21
  go_wp2
  go_ret
  exact ⟨rfl, rfl⟩
set_option maxHeartbeats 800000 in
theorem dsum_ok {w : World} {d q p : Nat} {sv : Value} {Dl : Nat → Prop} {seed : Nat} {same : Bool} {L : List (Option Ent)} {Gs : List Grp} (h : DictMem w d q p sv Dl seed same L Gs) (s : Nat) (hs : s ≤ 4294967295) :
    Calls Try.prog 34 #[dPtr d, .int .u32 s] w fun e w' => e = .returned (.int .u64 (sumL seed same L s : Nat)) ∧ Pure w w' := by
  have HK := Lib.hid (fun W (hW : Pure w W) => skey_ok (h.log.pure hW) s hs)
  have HH := Lib.hid (fun W => HSum_ok seed same h.sd (keyL L s) (by have := key_size h.log s; omega) W)
  have e1 : sumS seed same (keyL L s) = sumL seed same L s := rfl
  rw [e1] at HH
  have hb := h.box
  clear h e1
  generalize sumL seed same L s = r at *
  have hb_0 := cell_of_row _ _ 0 _ _ _ hb; have hb_1 := cell_of_row _ _ 1 _ _ _ hb; have hb_2 := cell_of_row _ _ 2 _ _ _ hb; have hb_3 := cell_of_row _ _ 3 _ _ _ hb; have hb_f := (fun j => frozen_of_row _ _ j _ _ hb); have hb_l := lt_of_block hb; simp at hb_0 hb_1 hb_2 hb_3; have H_hb := Lib.hid hb; clear hb
  have hf := hb_f
  go_enter Try.func34, Try.ntmps34
  go_upto_region 1 with fail
  go_region_held3 (fun w' => w'.cell? ⟨d, 0, none⟩ = some (.pointer (some ⟨q, 0, none⟩)) ∧ w'.cell? ⟨d, 1, none⟩ = some (.int .u64 seed) ∧ w'.cell? ⟨d, 2, none⟩ = some (.bool same))
    (first | exact ⟨hb_0, hb_1, hb_2⟩ | exact ⟨hp1.cell (fun h => h) hb_0, hp1.cell (fun h => h) hb_1, hp1.cell (fun h => h) hb_2⟩ | exact ⟨(hp1.trans hp2).cell (fun h => h) hb_0, (hp1.trans hp2).cell (fun h => h) hb_1, (hp1.trans hp2).cell (fun h => h) hb_2⟩)
    (first
      | (go_at_call 31; refine Calls.mono (HK.out _ (by (repeat' (first | (with_reducible exact Mod.refl _ _) | (with_reducible refine Mod.alloc ?_ _) | (with_reducible refine Mod.drew ?_) | (with_reducible refine Mod.drewN ?_ _) | (with_reducible refine Mod.setCell ?_ ?_ _) | (refine Mod.then ?_ (by with_reducible assumption) ?_))) <;> (all_goals (intros; first | (exfalso; assumption) | omega | (simp at *; done) | (simp at *; omega))))) ?_; rintro e w1 ⟨rfl, hp1⟩)
      | (go_at_call 29; refine Calls.mono (HH.out _) ?_; rintro e w2 ⟨rfl, hp2⟩))
  go_wp2
  go_ret
  exact ⟨rfl, (Mod.of_drew hp1).trans hp2⟩
end Go.Proofs.Ytapplindfijngaa

/- dict: plan, do, put. -/
namespace Go.Proofs.Ytapplindfijngaa
open Go.RowKit Go.Shelf
set_option maxRecDepth 100000
section
variable {w : World} {d q p : Nat} {sv : Value} {Dl : Nat → Prop} {seed : Nat} {same : Bool} {L : List (Option Ent)} {Gs : List Grp}

def planPost (w : World) (x : Nat × Bool) (e : Ending) (w' : World) : Prop :=
  e = .returned (.tuple #[.agg #[.int .i64 (x.1 : Nat), .bool x.2], .int .i64 0]) ∧ Pure w w'
set_option maxHeartbeats 1000000 in
theorem dplan_ok (h : DictMem w d q p sv Dl seed same L Gs) {x : Nat × Bool} (hx : planI Gs.length (usedN Gs) (tombN Gs) = some x) : Calls Try.prog 23 #[dPtr d] w (planPost w x) := by
  have hpow := h.ix.ok.pow
  have hle := used_tomb_le h.ix.ok.grp
  have HX := Lib.hid h.ix
  have HG := Lib.hid (fun W => gInsert_ok hpow hle W)
  rw [hx] at HG
  dsimp only [planV] at HG
  have hb := h.box
  have hp0 : Pure w (w.alloc (.cells #[.int .i64 0, .bool false] 68)) := (Mod.refl _ w).alloc _
  have h2 := heap_new (w := w) (o := .cells #[.int .i64 0, .bool false] 68 (0, 0)) rfl
  have hbb := hp0.heap (fun h => h) hb
  have HP := Lib.hid hp0
  replace HX := Lib.hid (HX.out.pure hp0)
  have HBX := Lib.hid hb
  clear h hx hpow hle hp0 hb
  obtain ⟨x1, x2⟩ := x
  dsimp only at HG
  go_enter Try.func23, Try.ntmps23
  go_upto_region 1 with fail
  generalize w.alloc (.cells #[.int .i64 0, .bool false] 68) = W1 at *
  obtain ⟨b, hbe⟩ : ∃ b, w.heap.size = b := ⟨_, rfl⟩
  rw [hbe] at h2 ⊢
  have HB := Lib.hid hbe
  clear hbe
  have hdb : d ≠ b := by have := lt_of_block HBX.out; have := HB.out; omega
  have hbb_0 := cell_of_row _ _ 0 _ _ _ hbb; have hbb_1 := cell_of_row _ _ 1 _ _ _ hbb; have hbb_2 := cell_of_row _ _ 2 _ _ _ hbb; have hbb_3 := cell_of_row _ _ 3 _ _ _ hbb; have hbb_f := (fun j => frozen_of_row _ _ j _ _ hbb); have hbb_l := lt_of_block hbb; simp at hbb_0 hbb_1 hbb_2 hbb_3; have H_hbb := Lib.hid hbb; clear hbb
  have h2_0 := cell_of_row _ _ 0 _ _ _ h2; have h2_1 := cell_of_row _ _ 1 _ _ _ h2; have h2_f := (fun j => frozen_of_row _ _ j _ _ h2); have h2_l := lt_of_block h2; simp at h2_0 h2_1; have H_h2 := Lib.hid h2; clear h2
  go_region_held3 (fun w' => w'.cell? ⟨d, 3, none⟩ = some (.pointer (some ⟨p, 0, none⟩)))
    (first | exact hbb_3 | exact hp1.cell (fun h => h) hbb_3 | exact (Mod.set2 b 0 1 _ _).cell (fun e => hdb e) (hp1.cell (fun h => h) hbb_3))
    (first
      | (go_at_call 37; refine Calls.mono (IGroups_ok (HX.out.pure (by (repeat' (first | (with_reducible exact Mod.refl _ _) | (with_reducible refine Mod.alloc ?_ _) | (with_reducible refine Mod.drew ?_) | (with_reducible refine Mod.drewN ?_ _) | (with_reducible refine Mod.setCell ?_ ?_ _) | (refine Mod.then ?_ (by with_reducible assumption) ?_))) <;> (all_goals (intros; first | (exfalso; assumption) | omega | (simp at *; done) | (simp at *; omega)))))) ?_; rintro e w1 ⟨rfl, rfl⟩)
      | (go_at_call 38; refine Calls.mono (ILen_ok (HX.out.pure (by (repeat' (first | (with_reducible exact Mod.refl _ _) | (with_reducible refine Mod.alloc ?_ _) | (with_reducible refine Mod.drew ?_) | (with_reducible refine Mod.drewN ?_ _) | (with_reducible refine Mod.setCell ?_ ?_ _) | (refine Mod.then ?_ (by with_reducible assumption) ?_))) <;> (all_goals (intros; first | (exfalso; assumption) | omega | (simp at *; done) | (simp at *; omega)))))) ?_; rintro e w1 ⟨rfl, rfl⟩)
      | (go_at_call 39; refine Calls.mono (ITombs_ok (HX.out.pure (by (repeat' (first | (with_reducible exact Mod.refl _ _) | (with_reducible refine Mod.alloc ?_ _) | (with_reducible refine Mod.drew ?_) | (with_reducible refine Mod.drewN ?_ _) | (with_reducible refine Mod.setCell ?_ ?_ _) | (refine Mod.then ?_ (by with_reducible assumption) ?_))) <;> (all_goals (intros; first | (exfalso; assumption) | omega | (simp at *; done) | (simp at *; omega)))))) ?_; rintro e w1 ⟨rfl, rfl⟩)
      | (go_at_call 48; refine Calls.mono (HG.out _) ?_; rintro e w1 ⟨rfl, hp1⟩; have k0 := hp1.cell (fun h => h) h2_0; have k1 := hp1.cell (fun h => h) h2_1; have kf : ∀ j, w1.frozen? ⟨b, j, none⟩ = false := (fun j => (hp1.cells.2 b j h2_l).trans (h2_f j)); have kl : b < w1.heap.size := hp1.lt h2_l))
  go_wp2
  obtain ⟨f1, y0, y1⟩ := gfin (v0 := .int .i64 x1) (v1 := .bool x2) ((Mod.of_drew hp1).heap (fun h => h) H_h2.out) (HP.out.trans (Mod.of_drew hp1)) (by have := HB.out; omega) rfl
  obtain ⟨Y, hY⟩ : ∃ Y, (w1.setCell ⟨b, 0, none⟩ (.int .i64 x1)).setCell ⟨b, 1, none⟩ (.bool x2) = Y := ⟨_, rfl⟩
  rw [hY] at f1 y0 y1 ⊢
  exact bodyPost_ret (v := .tuple #[.agg #[.int .i64 x1, .bool x2], .int .i64 0]) (by simp [results, Try.results23, go_sem, y0, y1]) rfl ⟨rfl, f1⟩

/-! ### do -/
theorem dsumOk (h : DictMem w d q p sv Dl seed same L Gs) : SumOk Try.prog 34 #[dPtr d] #[] (sumL seed same L) (fun _ => True) (fun W => Pure w W) w :=
  ⟨enters_of Try.func34 (by kernel_rfl) rfl, fun s W hs _ hJ => by
    have := (callsIn_wide (n := 0)).2 (dsum_ok (h.pure hJ) s hs)
    simpa using this, fun s => sumL_lt seed same L s, fun A B hJ hm => hJ.then hm (fun i hi e => by omega), Mod.refl _ _⟩
/-- The index is the same one, or a new one. -/
def SameIx (w : World) (p : Nat) (sv : Value) (p2 : Nat) (sv2 : Value) : Prop := (p2 = p ∧ sv2 = sv) ∨ (w.heap.size ≤ p2 ∧ ∀ k, sv2.ownBlock = some k → w.heap.size ≤ k)
def ddoPost (w : World) (d q p : Nat) (sv : Value) (Dl : Nat → Prop) (seed : Nat) (same : Bool) (L : List (Option Ent)) (Gs : List Grp) (x : Nat × Bool) (e : Ending) (w' : World) : Prop :=
  ∃ v p2 sv2, e = .returned v ∧ DictMem w' d q p2 sv2 Dl seed same L (doG (sumL seed same L) x Gs) ∧ Mod (fun k => k = d) w w' ∧ SameIx w p sv p2 sv2
theorem DictMem.reindex {w w1 : World} {p2 : Nat} {sv2 : Value} {Gs2 : List Grp} (h : DictMem w d q p sv Dl seed same L Gs) (hp : Pure w w1) (hx : IxRow w1 (fun k => k = p2 ∨ sv2.ownBlock = some k) p2 sv2 Gs2) {Y : World} (hY : w1.setCell ⟨d, 3, none⟩ (.pointer (some ⟨p2, 0, none⟩)) = Y) :
    DictMem Y d q p2 sv2 Dl seed same L Gs2 ∧ Mod (fun k => k = d) w Y := by
  subst hY
  have h1 := h.pure hp
  have hm : Mod (fun k => k = d) w1 (w1.setCell ⟨d, 3, none⟩ (.pointer (some ⟨p2, 0, none⟩))) := Mod.set1 _ _ _
  refine ⟨⟨?_, h1.log.frame hm (fun k hk e => by subst e; exact h1.nd hk) (fun k _ e cs fz e2 => by subst e; rw [h1.box] at e2; cases e2), hx.mod hm (fun k hk e => ?_), h.sd⟩, (Mod.of_pure hp).trans hm⟩
  · have := heap_set1 (j := 3) (v := .pointer (some ⟨p2, 0, none⟩)) h1.box
    simpa using this
  · subst e
    rcases hk with e | e
    · have h2 := hx.box; rw [← e, h1.box] at h2; cases h2
    · obtain ⟨cc, e2⟩ := owns_type hx.row e
      rw [h1.box] at e2; cases e2
set_option maxHeartbeats 1000000 in
theorem ddo_ok (h : DictMem w d q p sv Dl seed same L Gs) (x : Nat × Bool) (hx : x.2 = true → Pow x.1 ∧ usedN Gs ≤ 8 * x.1) : Calls Try.prog 40 #[dPtr d, .agg #[.int .i64 (x.1 : Nat), .bool x.2]] w (ddoPost w d q p sv Dl seed same L Gs x) := by
  obtain ⟨x1, x2⟩ := x
  have hp0 : Pure w (w.alloc (.cells #[.int .i64 x1, .bool x2] 68)) := (Mod.refl _ w).alloc _
  have h2 := heap_new (w := w) (o := .cells #[.int .i64 x1, .bool x2] 68 (0, 0)) rfl
  have HM := Lib.hid h
  cases x2 with
  | false =>
    have HP := Lib.hid hp0
    clear h hx hp0
    go_enter Try.func40, Try.ntmps40
    go_upto_region 1 with fail
    generalize w.alloc (.cells #[.int .i64 x1, .bool false] 68) = W1 at *
    generalize w.heap.size = b at *
    have h2_0 := cell_of_row _ _ 0 _ _ _ h2; have h2_1 := cell_of_row _ _ 1 _ _ _ h2; have h2_f := (fun j => frozen_of_row _ _ j _ _ h2); have h2_l := lt_of_block h2; simp at h2_0 h2_1; have H_h2 := Lib.hid h2; clear h2
    go_wp2
    refine bodyPost_ret (v := .tuple #[]) (by simp [results, Try.results40, go_sem]) rfl ?_
    exact ⟨_, p, sv, rfl, HM.out.pure HP.out, Mod.of_pure HP.out, .inl ⟨rfl, rfl⟩⟩
  | true =>
    obtain ⟨k1, k2⟩ := hx rfl
    have HR := Lib.hid (fun (W : World) (hW : Pure w W) => Rehash_ok (h.pure hW).ix x1 k1 k2 (dsumOk (h.pure hW)) (fun _ _ => trivial))
    have HP := Lib.hid hp0
    have hb := hp0.heap (fun h => h) h.box
    clear h hx hp0 k1 k2
    go_enter Try.func40, Try.ntmps40
    go_upto_region 1 with fail
    generalize hW1 : w.alloc (.cells #[.int .i64 x1, .bool true] 68) = W1 at *
    clear hW1
    obtain ⟨b, hbe⟩ : ∃ b, w.heap.size = b := ⟨_, rfl⟩
    rw [hbe] at h2 ⊢
    have HB := Lib.hid hbe
    clear hbe
    have hb_0 := cell_of_row _ _ 0 _ _ _ hb; have hb_1 := cell_of_row _ _ 1 _ _ _ hb; have hb_2 := cell_of_row _ _ 2 _ _ _ hb; have hb_3 := cell_of_row _ _ 3 _ _ _ hb; have hb_f := (fun j => frozen_of_row _ _ j _ _ hb); have hb_l := lt_of_block hb; simp at hb_0 hb_1 hb_2 hb_3; have H_hb := Lib.hid hb; clear hb
    have h2_0 := cell_of_row _ _ 0 _ _ _ h2; have h2_1 := cell_of_row _ _ 1 _ _ _ h2; have h2_f := (fun j => frozen_of_row _ _ j _ _ h2); have h2_l := lt_of_block h2; simp at h2_0 h2_1; have H_h2 := Lib.hid h2; clear h2
    go_upto_region 3 with fail
    go_region_held3 (fun w' => w'.cell? ⟨d, 3, none⟩ = some (.pointer (some ⟨p, 0, none⟩)) ∧ w'.cell? ⟨b, 0, none⟩ = some (.int .i64 x1))
      (first | exact ⟨hb_3, h2_0⟩ | exact ⟨hp1.cell (fun h => h) hb_3, hp1.cell (fun h => h) h2_0⟩)
      (first
        | (go_at_call 62; refine Calls.mono (HR.out _ (by have := HP.out; (repeat' (first | (with_reducible exact Mod.refl _ _) | (with_reducible refine Mod.alloc ?_ _) | (with_reducible refine Mod.drew ?_) | (with_reducible refine Mod.drewN ?_ _) | (with_reducible refine Mod.setCell ?_ ?_ _) | (refine Mod.then ?_ (by with_reducible assumption) ?_))) <;> (all_goals (intros; first | (exfalso; assumption) | omega | (simp at *; done) | (simp at *; omega))))) ?_; rintro e w1 ⟨p2, sv2, rfl, hix, hp1, hl2, hs2, _, _⟩; have k3 := hp1.cell (fun h => h) hb_3; have kf : ∀ j, w1.frozen? ⟨d, j, none⟩ = false := (fun j => (hp1.cells.2 d j hb_l).trans (hb_f j)); have kl : d < w1.heap.size := hp1.lt hb_l))
    go_wp2
    have hpw := HP.out.trans (Mod.of_drew hp1)
    obtain ⟨g1, g2⟩ := HM.out.reindex hpw hix rfl
    refine bodyPost_ret (v := .tuple #[]) (by simp [results, Try.results40, go_sem]) rfl ?_
    have hl : w.heap.size ≤ W1.heap.size := HP.out.size
    exact ⟨_, p2, sv2, rfl, g1, g2, .inr ⟨Nat.le_trans hl hl2, fun k hk => Nat.le_trans hl (hs2 k hk)⟩⟩

/-! ### put -/
def dputPost (w : World) (d q p : Nat) (sv : Value) (Dl : Nat → Prop) (seed : Nat) (same : Bool) (L : List (Option Ent)) (Gs2 : List Grp) (e : Ending) (w' : World) : Prop :=
  ∃ p2 sv2, e = .returned (.int .i64 0) ∧ DictMem w' d q p2 sv2 Dl seed same L Gs2 ∧ Mod (fun k => k = d ∨ k = p ∨ sv.ownBlock = some k) w w' ∧ SameIx w p sv p2 sv2
theorem dput_end {w w3 w4 w5 : World} {Gs1 Gs2 : List Grp} {p2 : Nat} {sv2 : Value} (h : DictMem w3 d q p2 sv2 Dl seed same L Gs1) (h4 : Pure w3 w4) (hx : IxRow w5 (fun k => k = p2 ∨ sv2.ownBlock = some k) p2 sv2 Gs2) (h5 : Mod (fun k => k = p2 ∨ sv2.ownBlock = some k) w4 w5)
    (hm : Mod (fun k => k = d) w w3) (hs : SameIx w p sv p2 sv2) : DictMem w5 d q p2 sv2 Dl seed same L Gs2 ∧ Mod (fun k => k = d ∨ k = p ∨ sv.ownBlock = some k) w w5 := by
  have h1 := h.pure h4
  refine ⟨⟨h5.heap (fun hk => ?_) h1.box, h1.log.frame h5 (fun k hk e => h1.nlp k hk e) (fun k _ e cs fz e2 => ?_), hx, h.sd⟩, ?_⟩
  · rcases hk with e | e
    · exact h1.npd e.symm
    · exact h1.nsd e
  · rcases e with rfl | e
    · rw [h1.ix.box] at e2; cases e2
    · obtain ⟨cc, e3⟩ := owns_type h1.ix.row e
      rw [e3] at e2; cases e2
  · have hm4 := hm.then h4 (fun _ _ h => h.elim)
    refine Mod.trans' hm4 h5 (fun i _ e => .inl e) (fun i hi e => ?_)
    rcases hs with ⟨rfl, rfl⟩ | ⟨g1, g2⟩
    · exact .inr e
    · rcases e with rfl | e
      · omega
      · have := g2 _ e; omega
set_option maxHeartbeats 1000000 in
theorem dput_ok (h : DictMem w d q p sv Dl seed same L Gs) {x : Nat × Bool} (hx : planI Gs.length (usedN Gs) (tombN Gs) = some x) (hp : Pow x.1) (hu : usedN Gs ≤ 8 * x.1) {s : Nat} (hs : s ≤ 4294967295) {Gs2 : List Grp}
    (hi : insM (doG (sumL seed same L) x Gs) (sumL seed same L s) s = some Gs2) : Calls Try.prog 26 #[dPtr d, .int .u32 s] w (dputPost w d q p sv Dl seed same L Gs2) := by
  have HPl := Lib.hid (dplan_ok h hx)
  have HDo := Lib.hid (fun (W : World) (hW : Pure w W) => ddo_ok (h.pure hW) x (fun _ => ⟨hp, hu⟩))
  have HH := Lib.hid h
  have HI := Lib.hid hi
  have hsl := sumL_lt seed same L s
  obtain ⟨hh, hhe⟩ : ∃ hh, sumL seed same L s = hh := ⟨_, rfl⟩
  have HS := Lib.hid (fun (W : World) (p2 : Nat) (sv2 : Value) (Gs1 : List Grp) (hW : DictMem W d q p2 sv2 Dl seed same L Gs1) => dsum_ok hW s hs)
  rw [hhe] at HI hsl HS
  have HHE := Lib.hid hhe
  obtain ⟨x1, x2⟩ := x
  clear h hx hp hu hi hhe
  unfold planPost at HPl
  dsimp only at HPl HDo HI
  go_enter Try.func26, Try.ntmps26
  go_upto_region 2 with (go_at_call 23; refine Calls.mono HPl.out ?_; rintro e w1 ⟨rfl, hp1⟩)
  have hpa : Pure w1 (w1.alloc (.cells #[.int .i64 x1, .bool x2] 68)) := (Mod.refl _ w1).alloc _
  have h5 := heap_new (w := w1) (o := .cells #[.int .i64 x1, .bool x2] 68 (0, 0)) rfl
  have HP := Lib.hid (hp1.trans hpa)
  clear hp1 hpa HPl
  generalize w1.alloc (.cells #[.int .i64 x1, .bool x2] 68) = W2 at *
  generalize w1.heap.size = b5 at *
  have h5_0 := cell_of_row _ _ 0 _ _ _ h5; have h5_1 := cell_of_row _ _ 1 _ _ _ h5; have h5_f := (fun j => frozen_of_row _ _ j _ _ h5); have h5_l := lt_of_block h5; simp at h5_0 h5_1; have H_h5 := Lib.hid h5; clear h5
  go_upto_region 5 with (go_at_call 40; refine Calls.mono (HDo.out _ HP.out) ?_; rintro e w3 ⟨v, p2, sv2, rfl, hm3, hm, hsx⟩)
  have hsx' : SameIx w p sv p2 sv2 := by
    have := HP.out.size
    rcases hsx with h | ⟨g1, g2⟩
    · exact .inl h
    · exact .inr ⟨by omega, fun k hk => by have := g2 k hk; omega⟩
  have hmw : Mod (fun k => k = d) w w3 := (Mod.of_pure HP.out).trans hm
  have HM3 := Lib.hid hm3
  have HMW := Lib.hid hmw; have HSX := Lib.hid hsx'
  have hb := hm3.box
  clear h5_0 h5_1 h5_f h5_l
  clear hm3 hm hsx hsx' hmw H_h5
  generalize hGd : doG (sumL seed same L) (x1, x2) Gs = Gs1 at *
  clear hGd
  have hb_0 := cell_of_row _ _ 0 _ _ _ hb; have hb_1 := cell_of_row _ _ 1 _ _ _ hb; have hb_2 := cell_of_row _ _ 2 _ _ _ hb; have hb_3 := cell_of_row _ _ 3 _ _ _ hb; have hb_f := (fun j => frozen_of_row _ _ j _ _ hb); have hb_l := lt_of_block hb; simp at hb_0 hb_1 hb_2 hb_3; have H_hb := Lib.hid hb; clear hb
  have HIN := Lib.hid (fun (W : World) (hW : Pure w3 W) => Insert_ok (HM3.out.ix.pure hW) hh s hsl hs)
  go_region_held3 (fun w' => w'.cell? ⟨d, 3, none⟩ = some (.pointer (some ⟨p2, 0, none⟩)))
    (first | exact hb_3 | exact hp1.cell (fun h => h) hb_3 | exact hm5.cell (fun e => e.elim (fun e => HM3.out.npd e.symm) (fun e => HM3.out.nsd e)) (hp1.cell (fun h => h) hb_3))
    (first
      | (go_at_call 34; refine Calls.mono (HS.out _ p2 sv2 Gs1 (HM3.out.pure (by (repeat' (first | (with_reducible exact Mod.refl _ _) | (with_reducible refine Mod.alloc ?_ _) | (with_reducible refine Mod.drew ?_) | (with_reducible refine Mod.drewN ?_ _) | (with_reducible refine Mod.setCell ?_ ?_ _) | (refine Mod.then ?_ (by with_reducible assumption) ?_))) <;> (all_goals (intros; first | (exfalso; assumption) | omega | (simp at *; done) | (simp at *; omega)))))) ?_; rintro e w4 ⟨rfl, hp1⟩)
      | (go_at_call 50; refine Calls.mono (HIN.out _ (by (repeat' (first | (with_reducible exact Mod.refl _ _) | (with_reducible refine Mod.alloc ?_ _) | (with_reducible refine Mod.drew ?_) | (with_reducible refine Mod.drewN ?_ _) | (with_reducible refine Mod.setCell ?_ ?_ _) | (refine Mod.then ?_ (by with_reducible assumption) ?_))) <;> (all_goals (intros; first | (exfalso; assumption) | omega | (simp at *; done) | (simp at *; omega))))) ?_; rintro e w5 hq; unfold insPost at hq; rw [HI.out] at hq; obtain ⟨rfl, hx5, hm5⟩ := hq))
  go_wp2
  go_ret
  obtain ⟨g1, g2⟩ := dput_end HM3.out (Mod.of_drew hp1) hx5 hm5 HMW.out HSX.out
  exact ⟨p2, sv2, rfl, g1, g2, HSX.out⟩
end
end Go.Proofs.Ytapplindfijngaa

/- dict: Find, New, Log, All, Insert. -/
namespace Go.Proofs.Ytapplindfijngaa
open Go.RowKit Go.Shelf
set_option maxRecDepth 100000
section
variable {w : World} {d q p : Nat} {sv : Value} {Dl : Nat → Prop} {seed : Nat} {same : Bool} {L : List (Option Ent)} {Gs : List Grp}

/-! ### Find -/
set_option maxHeartbeats 800000 in
theorem dfind1_ok (h : DictMem w d q p sv Dl seed same L Gs) {b b1 : Nat} {key : ByteArray} (hb0 : w.heap[b]? = some (.cells #[dPtr d] 26 (0, 0))) (hb1 : w.heap[b1]? = some (.cells #[.string key] 9 (0, 0))) (s : Nat) (hs : s ≤ 4294967295) :
    Calls Try.prog 30 #[.int .u32 s, .pointer (some ⟨b, 0, none⟩), .pointer (some ⟨b1, 0, none⟩)] w fun e w' => e = .returned (.bool (keyL L s == key)) ∧ Pure w w' := by
  have HK := Lib.hid (fun W (hW : Pure w W) => skey_ok (h.log.pure hW) s hs)
  have hb := h.box
  clear h
  generalize keyL L s = ks at *
  have hb_0 := cell_of_row _ _ 0 _ _ _ hb; have hb_1 := cell_of_row _ _ 1 _ _ _ hb; have hb_2 := cell_of_row _ _ 2 _ _ _ hb; have hb_3 := cell_of_row _ _ 3 _ _ _ hb; have hb_f := (fun j => frozen_of_row _ _ j _ _ hb); have hb_l := lt_of_block hb; simp at hb_0 hb_1 hb_2 hb_3; have H_hb := Lib.hid hb; clear hb
  have hb0_0 := cell_of_row _ _ 0 _ _ _ hb0; have hb0_f := (fun j => frozen_of_row _ _ j _ _ hb0); have hb0_l := lt_of_block hb0; simp at hb0_0; have H_hb0 := Lib.hid hb0; clear hb0
  have hb1_0 := cell_of_row _ _ 0 _ _ _ hb1; have hb1_f := (fun j => frozen_of_row _ _ j _ _ hb1); have hb1_l := lt_of_block hb1; simp at hb1_0; have H_hb1 := Lib.hid hb1; clear hb1
  go_enter Try.func30, Try.ntmps30
  go_upto_region 1 with fail
  go_region_held3 (fun w' => w'.cell? ⟨d, 0, none⟩ = some (.pointer (some ⟨q, 0, none⟩)) ∧ w'.cell? ⟨b, 0, none⟩ = some (.pointer (some ⟨d, 0, none⟩)) ∧ w'.cell? ⟨b1, 0, none⟩ = some (.string key))
    (first | exact ⟨hb_0, hb0_0, hb1_0⟩ | exact ⟨hp1.cell (fun h => h) hb_0, hp1.cell (fun h => h) hb0_0, hp1.cell (fun h => h) hb1_0⟩)
    (first
      | (go_at_call 31; refine Calls.mono (HK.out _ (by (repeat' (first | (with_reducible exact Mod.refl _ _) | (with_reducible refine Mod.alloc ?_ _) | (with_reducible refine Mod.drew ?_) | (with_reducible refine Mod.drewN ?_ _) | (with_reducible refine Mod.setCell ?_ ?_ _) | (refine Mod.then ?_ (by with_reducible assumption) ?_))) <;> (all_goals (intros; first | (exfalso; assumption) | omega | (simp at *; done) | (simp at *; omega))))) ?_; rintro e w1 ⟨rfl, hp1⟩))
  go_wp2
  go_ret
  exact ⟨by rw [← ba_list]; rfl, Mod.of_drew hp1⟩
/-- What Find says of a key. -/
def findV (L : List (Option Ent)) (key : ByteArray) : Nat × Nat := match findK L key with
  | some s => (s, 0)
  | none => (0, 9)
def dfindPost (w : World) (L : List (Option Ent)) (key : ByteArray) (e : Ending) (w' : World) : Prop :=
  e = .returned (.tuple #[.int .u32 ((findV L key).1 : Nat), .int .i64 ((findV L key).2 : Nat)]) ∧ Pure w w'
set_option maxHeartbeats 1000000 in
theorem dfind_ok (h : DictMem w d q p sv Dl seed same L Gs) (hk : Keeps seed same L Gs) (key : ByteArray) (hkey : key.size ≤ 140737488355328) : Calls Try.prog 10 #[dPtr d, .string key] w (dfindPost w L key) := by
  have hp0 : Pure w ((w.alloc (.cells #[.pointer (some ⟨d, 0, none⟩)] 26)).alloc (.cells #[.string key] 9)) := ((Mod.refl _ w).alloc _).alloc _
  have z2 := heap_keep (o := .cells #[.string key] 9) (heap_new (w := w) (o := .cells #[.pointer (some ⟨d, 0, none⟩)] 26 (0, 0)) rfl)
  have z3 := heap_new (w := w.alloc (.cells #[.pointer (some ⟨d, 0, none⟩)] 26)) (o := .cells #[.string key] 9 (0, 0)) (n := w.heap.size + 1) (by simp)
  have HP := Lib.hid hp0
  have HM := Lib.hid (h.pure hp0)
  have HZ := Lib.hid (dzero_ok (h.pure hp0))
  have HSum := Lib.hid (fun W => HSum_ok seed same h.sd key hkey W)
  have hb := (h.pure hp0).box
  have HKE := Lib.hid hk
  have hsl : sumS seed same key < 18446744073709551616 := mixM_lt
  clear h hk hp0
  go_enter Try.func10, Try.ntmps10
  go_upto_region 1 with fail
  generalize ((w.alloc (.cells #[.pointer (some ⟨d, 0, none⟩)] 26)).alloc (.cells #[.string key] 9)) = W1 at *
  obtain ⟨b, hbe⟩ : ∃ b, w.heap.size = b := ⟨_, rfl⟩
  rw [hbe] at z2 z3 ⊢
  have HB := Lib.hid hbe
  clear hbe
  have HSame := Lib.hid (fun (W : World) (hW : Pure W1 W) => (⟨enters_of Try.func30 (by kernel_rfl) rfl, fun pre s W' hs hJ => by
      have := (callsIn_wide (n := 0)).2 (dfind1_ok (HM.out.pure hJ) (hJ.heap (fun h => h) z2) (hJ.heap (fun h => h) z3) s hs)
      exact this.mono (fun e w' ⟨h1, h2⟩ => ⟨h1, hJ.trans h2, ModC.of_pure h2⟩), fun pre A B hJ hm => hJ.then hm (fun i hi hs => by have := hs.1; have := hW.size; omega), fun _ h => h.elim, hW⟩ :
    SameOk Try.prog 30 #[.pointer (some ⟨b, 0, none⟩), .pointer (some ⟨b + 1, 0, none⟩)] (fun _ s => keyL L s == key) (fun _ => False) (fun _ W' => Pure W1 W') W))
  have HF := Lib.hid (fun (W : World) (hW : Pure W1 W) => IFind_ok (HM.out.ix.pure hW) _ hsl (HSame.out W hW))
  obtain ⟨hh, hhe⟩ : ∃ hh, sumS seed same key = hh := ⟨_, rfl⟩
  rw [hhe] at HF HSum hsl
  have HHE := Lib.hid hhe
  clear hhe HSame
  have hb_0 := cell_of_row _ _ 0 _ _ _ hb; have hb_1 := cell_of_row _ _ 1 _ _ _ hb; have hb_2 := cell_of_row _ _ 2 _ _ _ hb; have hb_3 := cell_of_row _ _ 3 _ _ _ hb; have hb_f := (fun j => frozen_of_row _ _ j _ _ hb); have hb_l := lt_of_block hb; simp at hb_0 hb_1 hb_2 hb_3; have H_hb := Lib.hid hb; clear hb
  have z2_0 := cell_of_row _ _ 0 _ _ _ z2; have z2_f := (fun j => frozen_of_row _ _ j _ _ z2); have z2_l := lt_of_block z2; simp at z2_0; have H_z2 := Lib.hid z2; clear z2
  have z3_0 := cell_of_row _ _ 0 _ _ _ z3; have z3_f := (fun j => frozen_of_row _ _ j _ _ z3); have z3_l := lt_of_block z3; simp at z3_0; have H_z3 := Lib.hid z3; clear z3
  go_upto_region 3 with (go_at_call 21; refine Calls.mono HZ.out ?_; rintro e w' ⟨rfl, rfl⟩)
  go_region_held3 (fun w' => w'.cell? ⟨d, 3, none⟩ = some (.pointer (some ⟨p, 0, none⟩)) ∧ w'.cell? ⟨d, 1, none⟩ = some (.int .u64 seed) ∧ w'.cell? ⟨d, 2, none⟩ = some (.bool same) ∧ w'.cell? ⟨b, 0, none⟩ = some (.pointer (some ⟨d, 0, none⟩)) ∧ w'.cell? ⟨b + 1, 0, none⟩ = some (.string key))
    (first | exact ⟨hb_3, hb_1, hb_2, z2_0, z3_0⟩ | exact ⟨hp1.cell (fun h => h) hb_3, hp1.cell (fun h => h) hb_1, hp1.cell (fun h => h) hb_2, hp1.cell (fun h => h) z2_0, hp1.cell (fun h => h) z3_0⟩ | exact ⟨(hp1.trans hp2).cell (fun h => h) hb_3, (hp1.trans hp2).cell (fun h => h) hb_1, (hp1.trans hp2).cell (fun h => h) hb_2, (hp1.trans hp2).cell (fun h => h) z2_0, (hp1.trans hp2).cell (fun h => h) z3_0⟩)
    (first
      | (go_at_call 29; refine Calls.mono (HSum.out _) ?_; rintro e w1 ⟨rfl, hp1⟩)
      | (go_at_call 28; refine Calls.mono (HF.out _ (by (repeat' (first | (with_reducible exact Mod.refl _ _) | (with_reducible refine Mod.alloc ?_ _) | (with_reducible refine Mod.drew ?_) | (with_reducible refine Mod.drewN ?_ _) | (with_reducible refine Mod.setCell ?_ ?_ _) | (refine Mod.then ?_ (by with_reducible assumption) ?_))) <;> (all_goals (intros; first | (exfalso; assumption) | omega | (simp at *; done) | (simp at *; omega))))) ?_; rintro e w2 hq; have he := HKE.out.find (by rw [HHE.out]; exact hq); have hp2 : Pure w1 w2 := Mod.mono hq.1 (fun k _ ⟨_, _, _, _, hf⟩ => hf); have he2 : e = .returned (.tuple #[.int .u32 ((findV L key).1 : Nat), .int .i64 ((findV L key).2 : Nat)]) := (by rw [he]; unfold findV; cases findK L key <;> rfl); clear hq he; subst he2))
  go_wp2
  all_goals
    go_ret2
    exact ⟨rfl, HP.out.trans ((Mod.of_drew hp1).trans hp2)⟩

/-! ### a dictionary -/
def DictAt (w : World) (D : Nat → Prop) (d seed : Nat) (same : Bool) (L : List (Option Ent)) (Gs : List Grp) : Prop :=
  ∃ q p sv Dl, DictMem w d q p sv Dl seed same L Gs ∧ Keeps seed same L Gs ∧ ∀ k, D k ↔ dictD d Dl p sv k
section
variable {w w' : World} {D S : Nat → Prop} {d seed : Nat} {same : Bool} {L : List (Option Ent)} {Gs : List Grp}
theorem DictAt.pure (h : DictAt w D d seed same L Gs) (hp : Pure w w') : DictAt w' D d seed same L Gs := by
  obtain ⟨q, p, sv, Dl, h1, h2, h3⟩ := h
  exact ⟨q, p, sv, Dl, h1.pure hp, h2, h3⟩
theorem DictAt.lt (h : DictAt w D d seed same L Gs) {k : Nat} (hk : D k) : k < w.heap.size := by
  obtain ⟨q, p, sv, Dl, h1, h2, h3⟩ := h
  exact h1.lt ((h3 k).1 hk)
theorem DictAt.types (h : DictAt w D d seed same L Gs) {k : Nat} (hk : D k) {cs : Array Value} {T : TypeId} {fz : Nat × Nat} (e : w.heap[k]? = some (.cells cs T fz)) :
    T = 65 ∨ T = 92 ∨ T = 36 ∨ T = 85 ∨ T = 89 := by
  obtain ⟨q, p, sv, Dl, h1, h2, h3⟩ := h
  exact h1.types ((h3 k).1 hk) e
theorem DictAt.frame (h : DictAt w D d seed same L Gs) (hm : Mod S w w') (hD : ∀ k, D k → ¬ S k) (hS : ∀ k, k < w.heap.size → S k → ∀ cs fz, w.heap[k]? ≠ some (.cells cs 5 fz)) : DictAt w' D d seed same L Gs := by
  obtain ⟨q, p, sv, Dl, h1, h2, h3⟩ := h
  exact ⟨q, p, sv, Dl, h1.frame hm (fun k hk => hD k ((h3 k).2 hk)) hS, h2, h3⟩
theorem DictAt.sd (h : DictAt w D d seed same L Gs) : seed < 18446744073709551616 := by
  obtain ⟨q, p, sv, Dl, h1, h2, h3⟩ := h
  exact h1.sd
theorem DictAt.ok (h : DictAt w D d seed same L Gs) : LogOk L := by
  obtain ⟨q, p, sv, Dl, h1, h2, h3⟩ := h
  exact h1.log.ok
theorem DictAt.keeps (h : DictAt w D d seed same L Gs) : Keeps seed same L Gs := by
  obtain ⟨q, p, sv, Dl, h1, h2, h3⟩ := h
  exact h2
theorem Find_any (h : DictAt w D d seed same L Gs) (key : ByteArray) (hkey : key.size ≤ 140737488355328) : Calls Try.prog 10 #[dPtr d, .string key] w (dfindPost w L key) := by
  obtain ⟨q, p, sv, Dl, h1, h2, h3⟩ := h
  exact dfind_ok h1 h2 key hkey

/-! ### New -/
def dnewPost (w : World) (seed : Nat) (same : Bool) (e : Ending) (w' : World) : Prop :=
  ∃ d D, e = .returned (dPtr d) ∧ DictAt w' D d seed same [] (newG 1) ∧ Pure w w' ∧ ∀ k, D k → w.heap.size ≤ k
set_option maxHeartbeats 1000000 in
theorem dnew_ok (seed : Nat) (same : Bool) (hs : seed < 18446744073709551616) (w : World) : Calls Try.prog 6 #[.agg #[.int .u64 seed, .bool same]] w (dnewPost w seed same) := by
  have hp0 : Pure w (w.alloc (.cells #[.int .u64 seed, .bool same] 29)) := (Mod.refl _ w).alloc _
  have z1 := heap_new (w := w) (o := .cells #[.int .u64 seed, .bool same] 29 (0, 0)) rfl
  have HN := Lib.hid (fun W => New_ok 1 W ⟨0, by decide, rfl⟩)
  have HL := Lib.hid (fun W => newA_ok W)
  have HP := Lib.hid hp0
  clear hp0
  go_enter Try.func6, Try.ntmps6
  go_upto_region 1 with fail
  generalize w.alloc (.cells #[.int .u64 seed, .bool same] 29) = W1 at *
  obtain ⟨b, hbe⟩ : ∃ b, w.heap.size = b := ⟨_, rfl⟩
  rw [hbe] at z1 ⊢
  have HB := Lib.hid hbe
  clear hbe
  go_upto_region 2 with (go_at_call 19; refine Calls.mono (HN.out _) ?_; rintro e w2 ⟨p, sv, rfl, hix, hp2, hl2, hs2⟩)
  have zz1 := hp2.heap (fun h => h) z1
  have HIX := Lib.hid hix
  clear hix
  have zz1_0 := cell_of_row _ _ 0 _ _ _ zz1; have zz1_1 := cell_of_row _ _ 1 _ _ _ zz1; have zz1_f := (fun j => frozen_of_row _ _ j _ _ zz1); have zz1_l := lt_of_block zz1; simp at zz1_0 zz1_1; have H_zz1 := Lib.hid zz1; clear zz1
  go_region_held3 (fun w' => w'.cell? ⟨b, 0, none⟩ = some (.int .u64 seed) ∧ w'.cell? ⟨b, 1, none⟩ = some (.bool same))
    (first | exact ⟨zz1_0, zz1_1⟩ | exact ⟨hp3.cell (fun h => h) zz1_0, hp3.cell (fun h => h) zz1_1⟩ | exact ⟨(hp3.alloc _).cell (fun h => h) zz1_0, (hp3.alloc _).cell (fun h => h) zz1_1⟩)
    (first
      | (go_at_call 20; refine Calls.mono (HL.out _) ?_; rintro e w3 ⟨rfl, hlog, hp3, hlt3⟩; dsimp only [logPtr] at *))
  go_wp2
  go_ret
  have hp3' : Pure w2 w3 := Mod.of_drew hp3
  have hq := heap_new (w := w3) (o := .cells #[.pointer (some ⟨w2.heap.size, 0, none⟩), .int .u64 seed, .bool same, .pointer (some ⟨p, 0, none⟩)] 65 (0, 0)) rfl
  have hpq : Pure w3 (w3.alloc (.cells #[.pointer (some ⟨w2.heap.size, 0, none⟩), .int .u64 seed, .bool same, .pointer (some ⟨p, 0, none⟩)] 65)) := (Mod.refl _ w3).alloc _
  have hw : w.heap.size ≤ W1.heap.size := HP.out.size
  have hw2 : W1.heap.size ≤ w2.heap.size := hp2.size
  have hw3 : w2.heap.size ≤ w3.heap.size := hp3'.size
  refine ⟨w3.heap.size, dictD w3.heap.size (fun k => k = w2.heap.size) p sv, rfl, ⟨w2.heap.size, p, sv, fun k => k = w2.heap.size, ⟨hq, hlog.pure hpq, HIX.out.pure (hp3'.trans hpq), hs⟩, Keeps.new seed same, fun _ => Iff.rfl⟩, (HP.out.trans hp2).trans (hp3'.trans hpq), ?_⟩
  rintro k (rfl | rfl | rfl | e)
  · omega
  · omega
  · omega
  · have := hs2 k e; omega
end
end
end Go.Proofs.Ytapplindfijngaa

/- dict: Log, All, Insert; birth.zero, After, Find of a dictionary. -/
namespace Go.Proofs.Ytapplindfijngaa
open Go.RowKit Go.Shelf
set_option maxRecDepth 100000
section
variable {w w' : World} {D S : Nat → Prop} {d seed : Nat} {same : Bool} {L : List (Option Ent)} {Gs : List Grp}

theorem dall_ok (h : DictAt w D d seed same L Gs) : Calls Try.prog 18 #[dPtr d] w (allA w L) := by
  obtain ⟨q, p, sv, Dl, h1, h2, h3⟩ := h
  have HZ := Lib.hid (dzero_ok h1)
  have HC := Lib.hid (allA_ok h1.log)
  have hb := h1.box
  clear h1 h2 h3
  have hb_0 := cell_of_row _ _ 0 _ _ _ hb; have hb_1 := cell_of_row _ _ 1 _ _ _ hb; have hb_2 := cell_of_row _ _ 2 _ _ _ hb; have hb_3 := cell_of_row _ _ 3 _ _ _ hb; have hb_f := (fun j => frozen_of_row _ _ j _ _ hb); have hb_l := lt_of_block hb; simp at hb_0 hb_1 hb_2 hb_3; have H_hb := Lib.hid hb; clear hb
  go_enter Try.func18, Try.ntmps18
  go_wp2_with (first
    | (go_at_call 21; refine Calls.mono HZ.out ?_; rintro e w' ⟨rfl, rfl⟩)
    | (go_at_call 43; refine Calls.mono HC.out ?_; rintro e w' ⟨M, B, a, c, rfl, rfl, g1, g2, g3, g4⟩))
  go_ret
  exact ⟨M, B, a, c, rfl, rfl, g1, g2, g3, g4⟩
theorem sfull_ok {q : Nat} {Dl : Nat → Prop} (h : LogAt w Dl q L) : Calls Try.prog 24 #[.agg #[.pointer (some ⟨q, 0, none⟩)]] w fun e w' => e = .returned (.bool (decide (4194304 ≤ (L.length : Int)))) ∧ Pure w w' := by
  have hp : Pure w (w.alloc (.cells #[.pointer (some ⟨q, 0, none⟩)] 63)) := (Mod.refl _ w).alloc _
  have hb := heap_new (w := w) (o := (.cells #[.pointer (some ⟨q, 0, none⟩)] 63 (0, 0))) rfl
  have HK := Lib.hid (lenA (h.pure hp))
  have HP := Lib.hid hp
  clear h hp
  go_enter Try.func24, Try.ntmps24
  go_upto_region 1 with fail
  generalize w.alloc (.cells #[.pointer (some ⟨q, 0, none⟩)] 63) = W1 at *
  generalize w.heap.size = b at *
  have hb_0 := cell_of_row _ _ 0 _ _ _ hb; have hb_f := (fun j => frozen_of_row _ _ j _ _ hb); have hb_l := lt_of_block hb; simp at hb_0; have H_hb := Lib.hid hb; clear hb
  go_wp2_with (go_at_call 41; refine Calls.mono HK.out ?_; rintro e w' ⟨rfl, rfl⟩)
  go_ret
  exact ⟨rfl, HP.out⟩

/-! ### Insert -/
def insV (x : Ent) (v : Value) : Value := .agg #[.string x.key, v, .int .u64 x.dl, .int .u64 x.birth]
def dinsPost (w : World) (D : Nat → Prop) (d seed : Nat) (same : Bool) (L : List (Option Ent)) (Gs : List Grp) (x : Ent) (e : Ending) (w' : World) : Prop :=
  e = .returned (.tuple #[.int .u32 L.length, .int .i64 0]) ∧ ∃ D', DictAt w' D' d seed same (L ++ [some x]) (putM (sumL seed same (L ++ [some x])) Gs L.length) ∧ Mod D w w' ∧ Grew D D' w
theorem dins_mem {q p : Nat} {sv : Value} {Dl Dl2 : Nat → Prop} {w2 w3 : World} {L2 : List (Option Ent)} (h : DictMem w2 d q p sv Dl seed same L Gs) (hl : LogAt w3 Dl2 q L2) (hm : Mod Dl w2 w3) : DictMem w3 d q p sv Dl2 seed same L2 Gs :=
  ⟨hm.heap h.nd h.box, hl, h.ix.mod hm (fun k hk e => h.nlp k e hk), h.sd⟩
set_option maxHeartbeats 2000000 in
theorem dins_ok (h : DictAt w D d seed same L Gs) (x : Ent) (hok : x.Ok) (hL : L.length < 4194304) (hf : findK L x.key = none) (a : Option Addr) (n c : Nat) (hx : ReadAt w (.slice a n c) 1 (bytesOf x.val)) :
    Calls Try.prog 8 #[dPtr d, .agg #[.string x.key, .slice a n c, .int .u64 x.dl, .int .u64 x.birth]] w (dinsPost w D d seed same L Gs x) := by
  obtain ⟨q, p, sv, Dl, h1, h2, h3⟩ := h
  have HH := Lib.hid h1; have HK := Lib.hid h2; have HD := Lib.hid h3; have HX := Lib.hid hx; have HO := Lib.hid hok
  have hp0 : Pure w (w.alloc (.cells #[.string x.key, .slice a n c, .int .u64 x.dl, .int .u64 x.birth] 36)) := (Mod.refl _ w).alloc _
  have z3 := heap_new (w := w) (o := .cells #[.string x.key, .slice a n c, .int .u64 x.dl, .int .u64 x.birth] 36 (0, 0)) rfl
  have HP := Lib.hid hp0
  have HZ := Lib.hid (dzero_ok (h1.pure hp0))
  have hn : n ≤ 65536 := by have := read_length hx; rw [bytesOf_length] at this; have := hok.v1; omega
  have hb : (x.birth == 0) = false := by have := hok.b0; simp; omega
  have HN := Lib.hid (entry_New_ok x.key a n c x.dl x.birth (bytesOf x.val) _ (hx.frame hp0 (fun _ _ h => h)) hn hok.k0 hok.k1 hb)
  have HFd := Lib.hid (fun (W : World) (hW : Pure w W) => dfind_ok (h1.pure hW) h2 x.key (by have := hok.k1; omega))
  obtain ⟨i1, i2⟩ := h2.insert hf (by omega)
  obtain ⟨y, k1, k2, k3, k4, k5, k6, k7, k8⟩ := i1.put (by rw [h2.used]; have := liveOf_le' L; omega) (s := L.length) (by omega) (fun c => by have := liveS_lt c; omega)
  have HPl := Lib.hid (fun (W : World) (hW : Pure w W) => dplan_ok (h1.pure hW) k1)
  have HFu := Lib.hid (fun (W : World) (hW : Pure w W) => sfull_ok (h1.log.pure hW))
  have HApp := Lib.hid (fun (W : World) (hW : Pure w W) (a2 : Option Addr) (n2 c2 : Nat) (hr : ReadAt W (.slice a2 n2 c2) 1 (bytesOf x.val)) => appendA_ok (h1.log.pure hW) hL x hok a2 n2 c2 hr)
  have HPut := Lib.hid (fun (W : World) (Dl2 : Nat → Prop) (hW : DictMem W d q p sv Dl2 seed same (L ++ [some x]) Gs) => dput_ok hW k1 k2 k3 (s := L.length) (by omega) k6)
  have HI2 := Lib.hid i2
  have e1 : findV L x.key = (0, 9) := by unfold findV; rw [hf]
  unfold dfindPost planPost at *
  rw [e1] at HFd
  dsimp only at HFd
  have hfull : decide ((4194304 : Int) ≤ (L.length : Int)) = false := decide_eq_false (by omega)
  rw [hfull] at HFu
  obtain ⟨y1, y2⟩ := y
  dsimp only at HPl
  unfold appendA at HApp
  clear h1 h2 h3 hx hok hp0 hn hb i1 i2 k1 k2 k3 k4 k5 k6 k7 k8 e1 hf hfull
  go_enter Try.func8, Try.ntmps8
  go_upto_region 1 with fail
  generalize w.alloc (.cells #[.string x.key, .slice a n c, .int .u64 x.dl, .int .u64 x.birth] 36) = W1 at *
  obtain ⟨b3, hb3⟩ : ∃ b, w.heap.size = b := ⟨_, rfl⟩
  rw [hb3] at z3 ⊢
  have HB3 := Lib.hid hb3
  clear hb3
  have z3_0 := cell_of_row _ _ 0 _ _ _ z3; have z3_1 := cell_of_row _ _ 1 _ _ _ z3; have z3_2 := cell_of_row _ _ 2 _ _ _ z3; have z3_3 := cell_of_row _ _ 3 _ _ _ z3; have z3_f := (fun j => frozen_of_row _ _ j _ _ z3); have z3_l := lt_of_block z3; simp at z3_0 z3_1 z3_2 z3_3; have H_z3 := Lib.hid z3; clear z3
  go_upto_region 4 with (first
    | (go_at_call 21; refine Calls.mono HZ.out ?_; rintro e w' ⟨rfl, rfl⟩)
    | (go_at_call 22; refine Calls.mono HN.out ?_; rintro e w2 ⟨a2, n2, c2, rfl, hr2, hf2, hp2⟩))
  have hpo : Pure w2 (w2.alloc (.cells #[.string x.key, .slice a2 n2 c2, .int .u64 x.dl, .int .u64 x.birth] 36)) := (Mod.refl _ w2).alloc _
  have z6 := heap_new (w := w2) (o := .cells #[.string x.key, .slice a2 n2 c2, .int .u64 x.dl, .int .u64 x.birth] 36 (0, 0)) rfl
  have HR := Lib.hid (owns_mod (bytesAt_of hr2) hpo (fun _ _ h => h))
  have zz3 := (hp2.trans hpo).heap (fun h => h) H_z3.out
  replace HP := Lib.hid ((HP.out.trans hp2).trans hpo)
  have hb6 : b3 < w2.heap.size := Nat.lt_of_lt_of_le z3_l hp2.size
  clear z3_0 z3_1 z3_2 z3_3 z3_f z3_l
  clear H_z3 hr2 hf2 hp2 hpo HN HZ
  generalize w2.alloc (.cells #[.string x.key, .slice a2 n2 c2, .int .u64 x.dl, .int .u64 x.birth] 36) = W3 at *
  generalize w2.heap.size = b6 at *
  have zz3_0 := cell_of_row _ _ 0 _ _ _ zz3; have zz3_1 := cell_of_row _ _ 1 _ _ _ zz3; have zz3_2 := cell_of_row _ _ 2 _ _ _ zz3; have zz3_3 := cell_of_row _ _ 3 _ _ _ zz3; have zz3_f := (fun j => frozen_of_row _ _ j _ _ zz3); have zz3_l := lt_of_block zz3; simp at zz3_0 zz3_1 zz3_2 zz3_3; have H_zz3 := Lib.hid zz3; clear zz3
  have z6_0 := cell_of_row _ _ 0 _ _ _ z6; have z6_1 := cell_of_row _ _ 1 _ _ _ z6; have z6_2 := cell_of_row _ _ 2 _ _ _ z6; have z6_3 := cell_of_row _ _ 3 _ _ _ z6; have z6_f := (fun j => frozen_of_row _ _ j _ _ z6); have z6_l := lt_of_block z6; simp at z6_0 z6_1 z6_2 z6_3; have H_z6 := Lib.hid z6; clear z6
  go_upto_region 9 with (go_at_call 10; refine Calls.mono (HFd.out _ HP.out) ?_; rintro e w4 ⟨rfl, hp4⟩)
  go_upto_region 10 with (go_at_call 23; refine Calls.mono (HPl.out _ (HP.out.trans hp4)) ?_; rintro e w5 ⟨rfl, hp5⟩)
  have hp6 : Pure w5 (w5.alloc (.cells #[.int .i64 y1, .bool y2] 68)) := (Mod.refl _ w5).alloc _
  have hp36 := (hp4.trans hp5).trans hp6
  have zz6 := hp36.heap (fun h => h) H_z6.out
  replace HR := Lib.hid (owns_mod HR.out hp36 (fun _ _ h => h))
  replace HP := Lib.hid (HP.out.trans hp36)
  clear zz3_0 zz3_1 zz3_2 zz3_3 zz3_f zz3_l
  clear z6_0 z6_1 z6_2 z6_3 z6_f z6_l
  clear H_zz3 H_z6 hp4 hp5 hp6 hp36 HFd HPl
  generalize w5.alloc (.cells #[.int .i64 y1, .bool y2] 68) = W6 at *
  obtain ⟨b10, hb10⟩ : ∃ b, w5.heap.size = b := ⟨_, rfl⟩
  rw [hb10]
  clear hb10
  have hb := (HH.out.pure HP.out).box
  have hb_0 := cell_of_row _ _ 0 _ _ _ hb; have hb_1 := cell_of_row _ _ 1 _ _ _ hb; have hb_2 := cell_of_row _ _ 2 _ _ _ hb; have hb_3 := cell_of_row _ _ 3 _ _ _ hb; have hb_f := (fun j => frozen_of_row _ _ j _ _ hb); have hb_l := lt_of_block hb; simp at hb_0 hb_1 hb_2 hb_3; have H_hb := Lib.hid hb; clear hb
  have zz6_0 := cell_of_row _ _ 0 _ _ _ zz6; have zz6_1 := cell_of_row _ _ 1 _ _ _ zz6; have zz6_2 := cell_of_row _ _ 2 _ _ _ zz6; have zz6_3 := cell_of_row _ _ 3 _ _ _ zz6; have zz6_f := (fun j => frozen_of_row _ _ j _ _ zz6); have zz6_l := lt_of_block zz6; simp at zz6_0 zz6_1 zz6_2 zz6_3; have H_zz6 := Lib.hid zz6; clear zz6
  go_upto_region 12 with (go_at_call 24; refine Calls.mono (HFu.out _ HP.out) ?_; rintro e w7 ⟨rfl, hp7⟩)
  have k0 := hp7.cell (fun h => h) hb_0; have k1 := hp7.cell (fun h => h) zz6_0; have k2 := hp7.cell (fun h => h) zz6_1; have k3 := hp7.cell (fun h => h) zz6_2; have k4 := hp7.cell (fun h => h) zz6_3
  replace HR := Lib.hid (BytesAt.read (owns_mod HR.out hp7 (fun _ _ h => h)) (bytesOf_one _))
  replace HP := Lib.hid (HP.out.trans hp7)
  have HA := Lib.hid (fun (W : World) (hW : Pure w7 W) => HApp.out W (HP.out.trans hW) a2 n2 c2 (HR.out.frame hW (fun _ _ h => h)))
  have nD : ∀ k, Dl k → k < w.heap.size := fun k hk => HH.out.log.lt hk
  have hwb : w.heap.size = b3 := HB3.out
  have ND := Lib.hid nD
  clear nD
  clear hb_0 hb_1 hb_2 hb_3 hb_f hb_l
  clear zz6_0 zz6_1 zz6_2 zz6_3 zz6_f zz6_l
  clear H_hb H_zz6 hp7 HApp HFu
  go_region_held3 (fun w' => w'.cell? ⟨d, 0, none⟩ = some (.pointer (some ⟨q, 0, none⟩)) ∧ w'.cell? ⟨b6, 0, none⟩ = some (.string x.key) ∧ w'.cell? ⟨b6, 1, none⟩ = some (.slice a2 n2 c2) ∧ w'.cell? ⟨b6, 2, none⟩ = some (.int .u64 x.dl) ∧ w'.cell? ⟨b6, 3, none⟩ = some (.int .u64 x.birth))
    (first | exact ⟨k0, k1, k2, k3, k4⟩ | exact ⟨hm8.cell HH.out.nd k0, hm8.cell (fun e => by have := ND.out _ e; dsimp only at this; omega) k1, hm8.cell (fun e => by have := ND.out _ e; dsimp only at this; omega) k2, hm8.cell (fun e => by have := ND.out _ e; dsimp only at this; omega) k3, hm8.cell (fun e => by have := ND.out _ e; dsimp only at this; omega) k4⟩)
    (first
      | (go_at_call 25; refine Calls.mono (HA.out _ (by (repeat' (first | (with_reducible exact Mod.refl _ _) | (with_reducible refine Mod.alloc ?_ _) | (with_reducible refine Mod.drew ?_) | (with_reducible refine Mod.drewN ?_ _) | (with_reducible refine Mod.setCell ?_ ?_ _) | (refine Mod.then ?_ (by with_reducible assumption) ?_))) <;> (all_goals (intros; first | (exfalso; assumption) | omega | (simp at *; done) | (simp at *; omega))))) ?_; rintro e w8 ⟨rfl, Dl2, hl8, hm8, hg8⟩))
  have hm8' : Mod Dl w7 w8 := Mod.of_drew hm8
  have HM8 := Lib.hid (dins_mem (HH.out.pure HP.out) hl8 hm8')
  have hP8 : Mod Dl w w8 := (Mod.of_pure HP.out).trans hm8'
  have HM := Lib.hid hP8; have HG8 := Lib.hid hg8; have HL8 := Lib.hid hl8
  clear hm8 hm8' hP8 hg8 hl8 k0 k1 k2 k3 k4
  go_wp2_with (go_at_call 26; refine Calls.mono (HPut.out _ _ HM8.out) ?_; rintro e w9 ⟨p2, sv2, rfl, hm9, hmod9, hsx9⟩)
  go_ret2
  have h78 : w.heap.size ≤ w8.heap.size := HM.out.size
  refine ⟨rfl, dictD d Dl2 p2 sv2, ⟨q, p2, sv2, Dl2, hm9, HI2.out, fun _ => Iff.rfl⟩, ?_, ?_⟩
  · refine HM.out.trans' hmod9 (fun i _ hi => (HD.out i).2 (.inr (.inl hi))) (fun i _ hi => (HD.out i).2 ?_)
    rcases hi with e | e | e
    · exact .inl e
    · exact .inr (.inr (.inl e))
    · exact .inr (.inr (.inr e))
  · have hg9 : ∀ k, Dl2 k → Dl k ∨ w.heap.size ≤ k := fun k hk => by
      rcases HG8.out k hk with e | e
      · exact .inl e
      · exact .inr (by have := HP.out.size; simp at e; omega)
    rintro k (e | e | e | e)
    · exact .inl ((HD.out k).2 (.inl e))
    · rcases hg9 k e with e | e
      · exact .inl ((HD.out k).2 (.inr (.inl e)))
      · exact .inr e
    · rcases hsx9 with ⟨g1, g2⟩ | ⟨g1, g2⟩
      · exact .inl ((HD.out k).2 (.inr (.inr (.inl (e.trans g1)))))
      · exact .inr (by omega)
    · rcases hsx9 with ⟨g1, g2⟩ | ⟨g1, g2⟩
      · exact .inl ((HD.out k).2 (.inr (.inr (.inr (g2 ▸ e)))))
      · exact .inr (by have := g2 _ e; omega)
end
end Go.Proofs.Ytapplindfijngaa
