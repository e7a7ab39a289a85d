/- Lemmas and contracts of functions, strung together out of 3 texts. No condition. -/
import Derived.Test.YtapplindfijngaaGreatJPfCompactDicts7
import Derived.Test.YtapplindfijngaaGreatProg
import Derived.Test.YtapplindfijngaaGreatJPfCompactDicts1
import Derived.Handy
/- Plain: a rehash keeps what is held. -/
namespace Go.Proofs.YtapplindfijngaaGreat
open Go.RowKit Go.Shelf

theorem lanes_count8 : ∀ a b c d e f g i : Bool, (lanesOf (mask [a, b, c, d, e, f, g, i])).length = [a, b, c, d, e, f, g, i].countP id := by decide +kernel
theorem fullIn_length {c : Grp} (h : GrpOk c) : (fullIn c).length = c.1.countP (· < 128) := by
  obtain ⟨x0, x1, x2, x3, x4, x5, x6, x7, e⟩ := eight_of h.ctl.1
  unfold fullIn
  rw [e]
  simp only [List.map_cons, List.map_nil]
  rw [lanes_count8]
  simp only [List.countP_cons, List.countP_nil, id]
theorem fulls_length {Gs : List Grp} (h : IxOk Gs) : (Gs.flatMap fullS).length = usedN Gs := by
  unfold usedN
  rw [List.length_flatMap]
  congr 1
  refine List.map_congr_left (fun c hc => ?_)
  unfold fullS
  rw [List.length_map, fullIn_length (h.grp c hc)]
theorem fullIn_mem {c : Grp} (hc : GrpOk c) (j : Nat) : j ∈ fullIn c ↔ j < 8 ∧ ∃ t, c.1[j]? = some t ∧ t < 128 := by
  unfold fullIn
  rw [lanes_mask (by simp [hc.ctl.1])]
  simp only [List.mem_filter, List.mem_range, List.getD_eq_getElem?_getD, List.getElem?_map]
  cases c.1[j]? <;> simp
theorem fullIn_lt (c : Grp) : (fullIn c).Pairwise (· < ·) := by
  unfold fullIn lanesOf
  exact List.Pairwise.filter _ List.pairwise_lt_range
theorem full_mem {Gs : List Grp} (h : IxOk Gs) (s : Nat) : s ∈ Gs.flatMap fullS ↔ ∃ i j t, FullAt Gs i j t s := by
  have hin : ∀ c, GrpOk c → ∀ j, j ∈ fullIn c ↔ j < 8 ∧ ∃ t, c.1[j]? = some t ∧ t < 128 := fun c hc j => by
    unfold fullIn
    rw [lanes_mask (by simp [hc.ctl.1])]
    simp only [List.mem_filter, List.mem_range, List.getD_eq_getElem?_getD, List.getElem?_map]
    cases c.1[j]? <;> simp
  constructor
  · intro hs
    obtain ⟨c, hc, hs⟩ := List.mem_flatMap.1 hs
    obtain ⟨j, hj, rfl⟩ := List.mem_map.1 hs
    obtain ⟨i, hi⟩ := List.getElem?_of_mem hc
    have hl : i < Gs.length := (List.getElem?_eq_some_iff.1 hi).1
    have e : grpAt Gs i = c := by have := grpAt_some hl; rw [hi] at this; cases this; rfl
    obtain ⟨hj8, t, ht, ht2⟩ := (hin c (h.grp c hc) j).1 hj
    exact ⟨i, j, t, hl, hj8, by rw [e]; exact ht, ht2, by unfold slotAt; rw [e]⟩
  · rintro ⟨i, j, t, hf⟩
    refine List.mem_flatMap.2 ⟨grpAt Gs i, List.mem_of_getElem? (grpAt_some hf.hi), List.mem_map.2 ⟨j, (hin _ (h.at hf.hi) j).2 ⟨hf.hj, t, hf.tag, hf.full⟩, hf.slot⟩⟩
theorem full_at {Gs : List Grp} {i : Nat} (h : IxOk Gs) (hi : i < Gs.length) {j : Nat} (hj : j ∈ fullIn (grpAt Gs i)) : ∃ t, FullAt Gs i j t ((grpAt Gs i).2.getD j 0) := by
  obtain ⟨h8, t, ht, ht2⟩ := (fullIn_mem (h.at hi) j).1 hj
  exact ⟨t, hi, h8, ht, ht2, rfl⟩
theorem Holds.nodup {H : Nat → Nat} {S : Nat → Prop} {Gs : List Grp} (h : Holds H S Gs) : (Gs.flatMap fullS).Nodup := by
  unfold List.Nodup
  rw [List.pairwise_flatMap]
  constructor
  · intro c hc
    obtain ⟨i, hi⟩ := List.getElem?_of_mem hc
    have hl : i < Gs.length := (List.getElem?_eq_some_iff.1 hi).1
    have e : grpAt Gs i = c := by have := grpAt_some hl; rw [hi] at this; cases this; rfl
    unfold fullS
    rw [List.pairwise_map]
    refine (fullIn_lt c).imp_of_mem (fun {a b} ha hb hab => ?_)
    intro e2
    rw [← e] at ha hb e2
    obtain ⟨t1, h1⟩ := full_at h.ok hl ha
    obtain ⟨t2, h2⟩ := full_at h.ok hl hb
    have := (h.uniq _ _ _ _ _ _ _ h1 (e2 ▸ h2)).2
    omega
  · rw [List.pairwise_iff_getElem]
    intro i j hi hj hij x hx y hy e
    have ei : grpAt Gs i = Gs[i] := by have := grpAt_some hi; rw [List.getElem?_eq_getElem hi] at this; exact (Option.some.inj this).symm
    have ej : grpAt Gs j = Gs[j] := by have := grpAt_some hj; rw [List.getElem?_eq_getElem hj] at this; exact (Option.some.inj this).symm
    obtain ⟨a, ha, rfl⟩ := List.mem_map.1 hx
    obtain ⟨b, hb, rfl⟩ := List.mem_map.1 hy
    rw [← ei] at ha e
    rw [← ej] at hb e
    obtain ⟨t1, h1⟩ := full_at h.ok hi ha
    obtain ⟨t2, h2⟩ := full_at h.ok hj hb
    have := (h.uniq _ _ _ _ _ _ _ h1 (e ▸ h2)).1
    omega
theorem ins_list {H : Nat → Nat} : ∀ (L : List Nat) (o : List Grp) (S : Nat → Prop), Holds H S o → (∀ s ∈ L, s ≤ 4294967295 ∧ ¬ S s) → L.Nodup → usedN o + L.length ≤ 8 * o.length →
    Holds H (fun s => S s ∨ s ∈ L) (L.foldl (insD H) o) ∧ usedN (L.foldl (insD H) o) = usedN o + L.length ∧ (L.foldl (insD H) o).length = o.length ∧ tombN (L.foldl (insD H) o) ≤ tombN o
  | [], o, S, h, _, _, _ => ⟨h.of_iff (by simp), rfl, rfl, Nat.le_refl _⟩
  | s :: L, o, S, h, hs, hn, hr => by
    obtain ⟨hs1, hs2⟩ := hs s (by simp)
    obtain ⟨o', ho⟩ : ∃ o', insM o (H s) s = some o' := by
      cases hc : insM o (H s) s with
      | some o' => exact ⟨o', rfl⟩
      | none =>
        have := (ins_none h.ok _ _).1 hc
        simp only [List.length_cons] at hr
        omega
    have e : insD H o s = o' := by unfold insD; rw [ho]; rfl
    obtain ⟨c1, c2, c3, c4⟩ := ins_counts h.ok hs1 ho
    have hi := h.ins hs1 hs2 ho
    simp only [List.foldl_cons, e]
    simp only [List.length_cons] at hr ⊢
    obtain ⟨k1, k2, k3, k4⟩ := ins_list L o' _ hi (fun x hx => ⟨(hs x (by simp [hx])).1, fun hx2 => by
      rcases hx2 with rfl | hx2
      · exact (List.nodup_cons.1 hn).1 hx
      · exact (hs x (by simp [hx])).2 hx2⟩) (List.nodup_cons.1 hn).2 (by omega)
    refine ⟨k1.of_iff (fun x => ?_), by omega, by omega, by omega⟩
    simp only [List.mem_cons]
    constructor
    · rintro ((h | h) | h)
      · exact .inr (.inl h)
      · exact .inl h
      · exact .inr (.inr h)
    · rintro (h | h | h)
      · exact .inl (.inr h)
      · exact .inl (.inl h)
      · exact .inr h
theorem Holds.rehash {H : Nat → Nat} {S : Nat → Prop} {Gs : List Grp} (h : Holds H S Gs) {g : Nat} (hg : Pow g) (hu : usedN Gs ≤ 8 * g) :
    Holds H S (rehM H g Gs) ∧ usedN (rehM H g Gs) = usedN Gs ∧ (rehM H g Gs).length = g ∧ tombN (rehM H g Gs) = 0 := by
  have hm : ∀ s, s ∈ Gs.flatMap fullS ↔ S s := fun s => (full_mem h.ok s).trans (h.mem s).symm
  have hlt : ∀ s ∈ Gs.flatMap fullS, s ≤ 4294967295 := by
    intro s hs
    obtain ⟨c, hc, hs⟩ := List.mem_flatMap.1 hs
    exact fullS_lt (h.ok.grp c hc) s hs
  obtain ⟨k1, k2, k3, k4⟩ := ins_list (Gs.flatMap fullS) (newG g) (fun _ => False) (newG_holds H hg) (fun s hs => ⟨hlt s hs, fun h => h⟩) h.nodup (by rw [fulls_length h.ok, newG_used, newG_length]; omega)
  unfold rehM
  rw [newG_used, fulls_length h.ok] at k2
  rw [newG_length] at k3
  rw [newG_tomb] at k4
  exact ⟨k1.of_iff (fun s => by simp [hm]), by omega, k3, by omega⟩
theorem countB_set (t : Bool) : ∀ (l : List Bool) (j : Nat) (a : Bool), l[j]? = some a → (l.set j t).countP id + a.toNat = l.countP id + t.toNat
  | [], _, _, h => by simp at h
  | b :: l, 0, a, h => by
    simp at h; subst h
    simp only [List.set_cons_zero, List.countP_cons]
    cases b <;> cases t <;> simp
  | b :: l, j + 1, a, h => by
    have := countB_set t l j a (by simpa using h)
    simp only [List.set_cons_succ, List.countP_cons]
    omega
end Go.Proofs.YtapplindfijngaaGreat

/- entry.ValidKey, check, Copy, New and bytes.Clone. Conditions: the bytes are read as cells (ReadAt). -/
namespace Go.Proofs.YtapplindfijngaaGreat
open Go.RowKit
set_option maxRecDepth 100000

theorem info_u8 : (Tryz.prog.info? 5).map (fun i => (i.zero, i.size, i.bytes)) = some (some (.int .u8 0), 1, 1) := by kernel_rfl
@[go_sem] theorem eql_nil_bytes (w : World) (a : Option Addr) (n c : Nat) : (binOp .eql 33 (.slice a n c) (.slice none 0 0)).run Tryz.prog w = .ok (.bool a.isNone) w :=
  Lib.run_eql_slice_nil w _ _ a n c 0 0 Tryz.underlying33

/-- A post that the walk does not open. -/
def Fresh (w : World) (v : Value) : Prop := ∀ g, v.ownBlock = some g → w.heap.size ≤ g
/-- v is a slice of bytes of its own. -/
def BytesAt (w : World) (v : Value) (xs : List Value) : Prop := w.ownsRow 0 5 1 v xs.length xs

/-! ### bytes.Clone -/
theorem bytesAt_of {w : World} {v : Value} {n : Nat} {xs : List Value} (h : w.ownsRow 0 5 1 v n xs) : BytesAt w v xs := by
  have := h.1
  rw [Nat.mul_one] at this
  unfold BytesAt
  rw [this]
  exact h
theorem BytesAt.read {w : World} {v : Value} {xs : List Value} (h : BytesAt w v xs) (h1 : ∀ u ∈ xs, u.oneCell' = true) : ReadAt w v 1 xs := ReadAt.of_owns h h1
def clonePost (T k : Nat) (xs : List Value) (w : World) (e : Ending) (w' : World) : Prop :=
  ∃ a n c, e = .returned (.slice a n c) ∧ w'.ownsRow 0 T k (.slice a n c) n xs ∧ Fresh w (.slice a n c) ∧ Pure w w'

theorem clone_none (k : Nat) (xs : List Value) (w : World) (n c : Nat) (h : ReadAt w (.slice none n c) k xs) : xs = [] := by
  obtain ⟨a', n', c', he, hl, _, h0, _⟩ := h
  cases he
  exact List.eq_nil_of_length_eq_zero (by rw [hl, h0 rfl, Nat.zero_mul])

theorem owns_empty (w : World) (T k : Nat) : (w.alloc (.cells #[] T)).ownsRow 0 T k (.slice (some ⟨w.heap.size, 0, none⟩) 0 0) 0 [] :=
  ⟨by simp, .inr ⟨_, _, #[], rfl, Nat.zero_le _, heap_alloc_new w _, Nat.le_refl _, by simp [maxLen], by simp, by simp⟩⟩

theorem clone_end (T k : Nat) (xs : List Value) (w w' : World) (a : Option Addr) (m c : Nat)
    (ho : w'.ownsRow 0 T k (.slice a m c) m xs) (hg : (w.alloc (.cells #[] T)).grownBy w' (some w.heap.size)) (hb : (Value.slice a m c).ownBlock = some w.heap.size ∨ (Value.slice a m c).ownBlock = some (w.heap.size + 1)) :
    clonePost T k xs w (.returned (.slice a m c)) w' := by
  exact ⟨a, m, c, rfl, ho, fun g e => by rcases hb with hb | hb <;> (rw [hb] at e; cases e; omega),
    ((Mod.refl _ w).alloc _).trans' (Mod.of_grown (S := fun k => w.heap.size ≤ k) hg (fun k e _ => by cases e; exact Nat.le_refl _)) (fun _ _ h => h) (fun i hi h => by omega)⟩

set_option maxHeartbeats 400000 in
theorem bytes_Clone (a : Option Addr) (n c : Nat) (xs : List Value) (w : World) (hx : ReadAt w (.slice a n c) 1 xs) (hn : n ≤ 140737488355328) :
    Calls Tryz.prog 125 #[.slice a n c] w (clonePost 5 1 xs w) := by
  obtain ⟨i0, hi, hz0, hz1, hz2⟩ := info_parts info_u8
  have hlen : xs.length = n * 1 := by obtain ⟨a', n', c', he, hl, _⟩ := hx; cases he; exact hl
  cases a with
  | none =>
    have h0 := clone_none _ _ _ _ _ hx
    have H := Lib.hid hx; clear hx
    go_enter Tryz.func125, Tryz.ntmps125
    go_wp2
    go_ret
    exact ⟨none, 0, 0, rfl, by rw [h0]; exact World.ownsRow_nil _ _ _ _, (fun g e => by cases e), Mod.refl _ _⟩
  | some ad =>
    have H := Lib.hid (hx.frame ((Mod.refl (fun _ => False) w).alloc (.cells #[] 5)) (fun _ _ h => h)); clear hx
    have HO := Lib.hid (owns_empty w 5 1)
    go_enter Tryz.func125, Tryz.ntmps125
    go_wp2_with (at_builtin; refine wpList_append_read _ rfl _ _ 33 rfl 5 i0 _ 1 1 Tryz.underlying33 hi hz0 hz1 hz2 rfl (by decide) _ 0 [] rfl HO.out _ xs n rfl H.out hlen (by unfold maxLen; omega) (by omega) ?_; intro a' c' w1 ho hg hb)
    go_ret
    simp only [List.nil_append, Nat.zero_add, World.size_alloc] at ho hb
    exact clone_end _ _ _ _ _ _ _ _ ho hg hb

/-! ### entries -/
structure Ent where
  key : ByteArray
  val : List UInt8
  dl : Int
  birth : Int

def bytesOf (l : List UInt8) : List Value := l.map fun b => .int .u8 b.toNat
theorem bytesOf_one (l : List UInt8) : ∀ u ∈ bytesOf l, u.oneCell' = true := by
  intro u hu
  obtain ⟨_, _, rfl⟩ := List.mem_map.1 hu
  rfl
theorem bytesOf_length (l : List UInt8) : (bytesOf l).length = l.length := by simp [bytesOf]

/-- The cells of an entry whose value is the slice v. -/
def entCells (e : Ent) (v : Value) : List Value := [.string e.key, v, .int .u64 e.dl, .int .u64 e.birth]

def keyB (n : Nat) : Bool := decide (0 < n) && decide (n ≤ 250)
/-- What check says. -/
def errOf (ks : Nat) (n : Nat) (birth : Int) : Int := if !(keyB ks) || birth == 0 then 2 else if decide (65536 < (n : Int)) then 5 else 0

theorem entry_ValidKey (s : ByteArray) (w : World) (hs : s.size ≤ 140737488355328) : Calls Tryz.prog 139 #[.string s] w fun e w' => e = .returned (.bool (keyB s.size)) ∧ w = w' := by
  have H : Hid (∀ x : Bool, x = (decide ((0 : Int) < s.size) && decide ((s.size : Int) ≤ 250)) → x = keyB s.size) := by
    rintro x rfl
    simp only [keyB, Int.natCast_pos]
    congr 2
    exact propext ⟨fun h => by omega, fun h => by omega⟩
  by_cases h : 0 < s.size
  all_goals
    go_enter Tryz.func139, Tryz.ntmps139
    go_wp2
    go_ret
    exact ⟨congrArg (fun b => Ending.returned (.bool b)) (H.out _ (by simp [h])), rfl⟩

def firstOf (b1 b2 : Bool) (e1 e2 : Int) : Int := if b1 then e1 else if b2 then e2 else 0
def firstPost (b1 b2 : Bool) (e1 e2 : Int) (w : World) (e : Ending) (w' : World) : Prop :=
  e = .returned (.int .i64 (firstOf b1 b2 e1 e2)) ∧ Pure w w'

set_option maxHeartbeats 400000 in
theorem entry_first (b1 b2 : Bool) (e1 e2 : Int) (g : Nat) (w : World) (h0 : w.cell? ⟨g, 0, none⟩ = some (.bool b1)) (h1 : w.cell? ⟨g, 1, none⟩ = some (.int .i64 e1))
    (h2 : w.cell? ⟨g, 2, none⟩ = some (.bool b2)) (h3 : w.cell? ⟨g, 3, none⟩ = some (.int .i64 e2)) (hg : g < w.heap.size) :
    Calls Tryz.prog 138 #[.slice (some ⟨g, 0, none⟩) 2 2] w (firstPost b1 b2 e1 e2 w) := by
  have hg1 : g < w.heap.size + 1 := by omega
  cases b1
  · cases b2
    all_goals
      go_enter Tryz.func138, Tryz.ntmps138
      go_wp2
      go_rounds 3
      go_ret
      exact ⟨rfl, ((Mod.refl _ w).alloc _).alloc _⟩
  · go_enter Tryz.func138, Tryz.ntmps138
    go_wp2
    go_rounds 3
    go_ret
    exact ⟨rfl, (Mod.refl _ w).alloc _⟩

def checkPost (ks n : Nat) (birth : Int) (w : World) (e : Ending) (w' : World) : Prop := e = .returned (.int .i64 (errOf ks n birth)) ∧ Pure w w'

set_option maxHeartbeats 400000 in
theorem entry_check (s : ByteArray) (a : Option Addr) (n c : Nat) (b : Int) (w : World) (hs : s.size ≤ 140737488355328) (hn : n ≤ 140737488355328) :
    Calls Tryz.prog 105 #[.string s, .slice a n c, .int .u64 b] w (checkPost s.size n b w) := by
  cases hk : keyB s.size
  all_goals
    have E := Lib.hid (show errOf s.size n b = firstOf (!(keyB s.size) || b == 0) (decide (65536 < (n : Int))) 2 5 from rfl)
    go_enter Tryz.func105, Tryz.ntmps105
    go_wp2_with (first | (go_at_call 139; refine Calls.mono (entry_ValidKey s w hs) ?_; rintro e w' ⟨rfl, rfl⟩) | (go_at_call 138; refine Calls.mono (entry_first _ _ _ _ w.heap.size _ (World.cell?_alloc_new w _ _ 0) (World.cell?_alloc_new w _ _ 1) (World.cell?_alloc_new w _ _ 2) (World.cell?_alloc_new w _ _ 3) (by simp)) ?_; intro e w1 hp; obtain ⟨rfl, hp⟩ := hp))
    go_ret
    exact ⟨by rw [E.out, hk]; rfl, ((Mod.refl _ _).alloc _).trans hp⟩

/-! ### entry.Copy, entry.New -/
def copyPost (k : ByteArray) (xs : List Value) (d b : Int) (w : World) (e : Ending) (w' : World) : Prop :=
  ∃ a n c, e = .returned (.agg #[.string k, .slice a n c, .int .u64 d, .int .u64 b]) ∧ w'.ownsRow 0 5 1 (.slice a n c) n xs ∧ Fresh w (.slice a n c) ∧ Pure w w'

set_option maxHeartbeats 400000 in
theorem entry_Copy (k : ByteArray) (a : Option Addr) (n c : Nat) (d b : Int) (xs : List Value) (w : World) (hx : ReadAt w (.slice a n c) 1 xs) (hn : n ≤ 140737488355328) :
    Calls Tryz.prog 74 #[.agg #[.string k, .slice a n c, .int .u64 d, .int .u64 b]] w (copyPost k xs d b w) := by
  have H := Lib.hid (hx.frame (((Mod.refl (fun _ => False) w).alloc (.cells #[.string k, .slice a n c, .int .u64 d, .int .u64 b] 42)).alloc (.cells #[.string ByteArray.empty, .slice none 0 0, .int .u64 0, .int .u64 0] 42)) (fun _ _ h => h)); clear hx
  go_enter Tryz.func74, Tryz.ntmps74
  go_wp2_with (go_at_call 125; refine Calls.mono (bytes_Clone a n c xs _ H.out hn) ?_; rintro e w1 ⟨a', n', c', rfl, hr, hf, hp⟩; have h1 := hp.box (b := w.heap.size) (heap_keep (heap_new rfl)) (fun h => h); have h2 := hp.box (b := w.heap.size + 1) (heap_new (by simp)) (fun h => h); obtain ⟨h1c, h1f⟩ := h1; obtain ⟨h2c, h2f⟩ := h2)
  have hm := ((((((Mod.refl (fun k => k = w.heap.size ∨ k = w.heap.size + 1) w1).setCell (p := ⟨w.heap.size, 1, none⟩) (fun _ => .inl rfl) (.slice a' n' c')).setCell (p := ⟨w.heap.size + 1, 0, none⟩) (fun _ => .inr rfl) (.string k)).setCell (p := ⟨w.heap.size + 1, 1, none⟩) (fun _ => .inr rfl) (.slice a' n' c')).setCell (p := ⟨w.heap.size + 1, 2, none⟩) (fun _ => .inr rfl) (.int .u64 d)).setCell (p := ⟨w.heap.size + 1, 3, none⟩) (fun _ => .inr rfl) (.int .u64 b))
  refine bodyPost_ret (v := .agg #[.string k, .slice a' n' c', .int .u64 d, .int .u64 b]) (by simp [results, Tryz.results74, go_sem, h1c, h2c]) rfl ⟨a', n', c', rfl, owns_mod hr hm ?_, ?_, ?_⟩
  · intro g e h
    have := hf g e
    simp at this
    omega
  · intro g e
    have := hf g e
    simp at this
    omega
  · exact (((Mod.refl (fun k => w.heap.size ≤ k) w).alloc _).alloc _).trans' (hp.trans' hm (fun _ _ h => h.elim) (fun i _ h => show w.heap.size ≤ i by omega)) (fun i h h' => by omega) (fun i h h' => by omega)

def entNewPost (k : ByteArray) (xs : List Value) (d b : Int) (w : World) (e : Ending) (w' : World) : Prop :=
  ∃ a n c, e = .returned (.tuple #[.agg #[.string k, .slice a n c, .int .u64 d, .int .u64 b], .int .i64 0]) ∧ w'.ownsRow 0 5 1 (.slice a n c) n xs ∧ Fresh w (.slice a n c) ∧ Pure w w'

theorem read_length {w : World} {a : Option Addr} {n c k : Nat} {xs : List Value} (h : ReadAt w (.slice a n c) k xs) : xs.length = n * k := by
  obtain ⟨a', n', c', he, hl, _⟩ := h
  cases he
  exact hl

set_option maxHeartbeats 400000 in
theorem entry_New_ok (k : ByteArray) (a : Option Addr) (n c : Nat) (d b : Int) (xs : List Value) (w : World) (hx : ReadAt w (.slice a n c) 1 xs) (hn : n ≤ 65536) (hk0 : 0 < k.size) (hk : k.size ≤ 250) (hb : (b == 0) = false) :
    Calls Tryz.prog 49 #[.string k, .slice a n c, .int .u64 d, .int .u64 b] w (entNewPost k xs d b w) := by
  have E : errOf k.size n b = 0 := by
    have : keyB k.size = true := by simp [keyB, hk0, hk]
    have h2 : ¬ ((65536 : Int) < n) := by omega
    simp [errOf, this, hb, h2]
  go_enter Tryz.func49, Tryz.ntmps49
  go_wp2_with (first
    | (go_at_call 105; refine Calls.mono (entry_check k a n c b _ (by omega) (by omega)) ?_; rintro e w1 ⟨he, hp⟩; rw [E] at he; subst he; obtain ⟨hpc, hpf⟩ := hp.cells; have hz : w.heap.size < w1.heap.size := by have := hp.size; simp at this; omega)
    | (go_at_call 74; refine Calls.mono (entry_Copy k a n c d b xs _ (hx.frame (S := fun _ => False) (by (repeat' (first | (with_reducible exact Mod.refl _ _) | (with_reducible refine Mod.alloc ?_ _) | (with_reducible refine Mod.drew ?_) | (with_reducible refine Mod.drewN ?_ _) | (with_reducible refine Mod.setCell ?_ ?_ _) | (refine Mod.then ?_ (by with_reducible assumption) ?_))) <;> (all_goals (intros; first | (exfalso; assumption) | omega | (simp at *; done) | (simp at *; omega)))) (fun _ _ h => h)) (by omega)) ?_; rintro e w2 ⟨a', n', c', rfl, hr, hf, hp2⟩; obtain ⟨hqc, hqf⟩ := hp2.cells))
  refine bodyPost_ret (v := .tuple #[.agg #[.string k, .slice a' n' c', .int .u64 d, .int .u64 b], .int .i64 0]) (by simp [results, Tryz.results49, go_sem, hqc, hqf, hpc, hpf, hz]) rfl ⟨a', n', c', rfl, ?_, ?_, ?_⟩
  · refine owns_mod hr (S := fun k => k = w.heap.size) ?_ (fun g e h => by have := hf g e; omega)
    (repeat' (first | (with_reducible exact Mod.refl _ _) | (with_reducible refine Mod.alloc ?_ _) | (with_reducible refine Mod.drew ?_) | (with_reducible refine Mod.drewN ?_ _) | (with_reducible refine Mod.setCell ?_ ?_ _) | (refine Mod.then ?_ (by with_reducible assumption) ?_)))
    (all_goals (intros; first | (exfalso; assumption) | omega | (simp at *; done) | (simp at *; omega)))
  · intro g e
    have := hf g e
    omega
  · (repeat' (first | (with_reducible exact Mod.refl _ _) | (with_reducible refine Mod.alloc ?_ _) | (with_reducible refine Mod.drew ?_) | (with_reducible refine Mod.drewN ?_ _) | (with_reducible refine Mod.setCell ?_ ?_ _) | (refine Mod.then ?_ (by with_reducible assumption) ?_)))
    (all_goals (intros; first | (exfalso; assumption) | omega | (simp at *; done) | (simp at *; omega)))

def newErr (er : Int) (w : World) (e : Ending) (w' : World) : Prop :=
  e = .returned (.tuple #[.agg #[.string ⟨#[]⟩, .slice none 0 0, .int .u64 0, .int .u64 0], .int .i64 er]) ∧ Pure w w'

set_option maxHeartbeats 400000 in
theorem entry_New_err (k : ByteArray) (a : Option Addr) (n c : Nat) (d b : Int) (w : World) (hk : k.size ≤ 140737488355328) (hn : n ≤ 140737488355328) (er : Int) (E : errOf k.size n b = er) (he0 : (er == 0) = false) :
    Calls Tryz.prog 49 #[.string k, .slice a n c, .int .u64 d, .int .u64 b] w (newErr er w) := by
  go_enter Tryz.func49, Tryz.ntmps49
  go_wp2_with (go_at_call 105; refine Calls.mono (entry_check k a n c b _ hk hn) ?_; rintro e w1 ⟨he, hp⟩; rw [E] at he; subst he; obtain ⟨hpc, hpf⟩ := hp.cells; have hz : w.heap.size < w1.heap.size := by have := hp.size; simp at this; omega)
  refine bodyPost_ret (v := .tuple #[.agg #[.string ⟨#[]⟩, .slice none 0 0, .int .u64 0, .int .u64 0], .int .i64 er]) (by simp [results, Tryz.results49, go_sem, hpc, hpf, hz]) rfl ⟨rfl, ?_⟩
  (repeat' (first | (with_reducible exact Mod.refl _ _) | (with_reducible refine Mod.alloc ?_ _) | (with_reducible refine Mod.drew ?_) | (with_reducible refine Mod.drewN ?_ _) | (with_reducible refine Mod.setCell ?_ ?_ _) | (refine Mod.then ?_ (by with_reducible assumption) ?_)))
  (all_goals (intros; first | (exfalso; assumption) | omega | (simp at *; done) | (simp at *; omega)))
end Go.Proofs.YtapplindfijngaaGreat

/- Log.New, Append, Get, Len, Live, Copy. Condition: the log is made (LogRow), and the bounds that each theorem names. -/
namespace Go.Proofs.YtapplindfijngaaGreat
open Go.RowKit
set_option maxRecDepth 100000

theorem info_Entry : (Tryz.prog.info? 42).map (fun i => (i.zero, i.size, i.bytes)) = some (some (.agg #[.string ⟨#[]⟩, .slice none 0 0, .int .u64 0, .int .u64 0]), 4, 56) := by kernel_rfl

/-! ### entrylog: what a log is in memory -/
/-- The cells of a slot (none: a tombstone), its value being the slice v. -/
def slotCells : Option Ent × Value → List Value
  | (some e, v) => [.string e.key, v, .int .u64 e.dl, .int .u64 e.birth]
  | (none, _) => [.string ⟨#[]⟩, .slice none 0 0, .int .u64 0, .int .u64 0]
def liveOf (L : List (Option Ent)) : Nat := L.countP Option.isSome
/-- A valid entry. -/
structure Ent.Ok (e : Ent) : Prop where
  k0 : 0 < e.key.size
  k1 : e.key.size ≤ 250
  v1 : e.val.length ≤ 65536
  b0 : 0 < e.birth
structure LogOk (L : List (Option Ent)) : Prop where
  len : L.length ≤ 4194304
  ent : ∀ e, some e ∈ L → e.Ok

/-- Block p is a log whose slots are M (each with its value's slice); D are the blocks that it writes. -/
structure LogRow (w : World) (D : Nat → Prop) (p : Nat) (sv : Value) (M : List (Option Ent × Value)) : Prop where
  box : w.heap[p]? = some (.cells #[.bool true, sv, .int .i64 (liveOf (M.map Prod.fst))] 131 (0, 0))
  row : w.ownsRow 0 42 4 sv M.length (M.flatMap slotCells)
  vals : ∀ e v, (some e, v) ∈ M → BytesAt w v (bytesOf e.val)
  dd : ∀ k, D k ↔ (k = p ∨ sv.ownBlock = some k)
  ok : LogOk (M.map Prod.fst)
def LogAt (w : World) (D : Nat → Prop) (p : Nat) (L : List (Option Ent)) : Prop := ∃ sv M, M.map Prod.fst = L ∧ LogRow w D p sv M

section
variable {w w' : World} {D S : Nat → Prop} {p : Nat} {sv : Value} {M : List (Option Ent × Value)}
theorem LogRow.np (h : LogRow w D p sv M) {g : Nat} (hg : sv.ownBlock = some g) : g ≠ p := by
  rintro rfl
  obtain ⟨c, e⟩ := owns_type h.row hg
  rw [h.box] at e
  cases e
theorem LogRow.lt (h : LogRow w D p sv M) {k : Nat} (hk : D k) : k < w.heap.size := by
  rcases (h.dd k).1 hk with rfl | e
  · exact lt_of_block h.box
  · exact owns_lt h.row e
/-- The blocks that a log writes are no bytes. -/
theorem LogRow.nobytes (h : LogRow w D p sv M) {k : Nat} (hk : D k) (cs : Array Value) (fz : Nat × Nat) : w.heap[k]? ≠ some (.cells cs 5 fz) := by
  intro e
  rcases (h.dd k).1 hk with rfl | e'
  · rw [h.box] at e; cases e
  · obtain ⟨c, e2⟩ := owns_type h.row e'
    rw [e2] at e; cases e
theorem bytes_frame {v : Value} {xs : List Value} (h : BytesAt w v xs) (hm : Mod S w w') (hS : ∀ k, k < w.heap.size → S k → ∀ cs fz, w.heap[k]? ≠ some (.cells cs 5 fz)) : BytesAt w' v xs :=
  owns_mod h hm (fun g hg hs => by obtain ⟨c, e⟩ := owns_type h hg; exact hS g (lt_of_block e) hs _ _ e)
theorem LogRow.frame (h : LogRow w D p sv M) (hm : Mod S w w') (hD : ∀ k, D k → ¬ S k) (hS : ∀ k, k < w.heap.size → S k → ∀ cs fz, w.heap[k]? ≠ some (.cells cs 5 fz)) : LogRow w' D p sv M :=
  ⟨hm.heap (hD p ((h.dd p).2 (.inl rfl))) h.box, owns_mod h.row hm (fun g hg => hD g ((h.dd g).2 (.inr hg))), fun e v hv => bytes_frame (h.vals e v hv) hm hS, h.dd, h.ok⟩
theorem LogRow.pure (h : LogRow w D p sv M) (hm : Pure w w') : LogRow w' D p sv M := h.frame hm (fun _ _ h => h) (fun _ _ h => h.elim)
end

theorem entrylog_New (w : World) : Calls Tryz.prog 21 #[] w fun e w' => e = .returned (.pointer (some ⟨w.heap.size, 0, none⟩)) ∧ w.alloc (.cells #[.bool true, .slice none 0 0, .int .i64 0] 131) = w' := by
  go_enter Tryz.func21, Tryz.ntmps21
  go_wp2
  go_ret
  exact ⟨rfl, rfl⟩

theorem zero_nil (w : World) : Calls Tryz.prog 70 #[.pointer none] w fun e w' => e = .returned (.bool true) ∧ w = w' := by
  go_enter Tryz.func70, Tryz.ntmps70
  go_wp2
  go_ret
  exact ⟨rfl, rfl⟩
theorem zero_made (p : Nat) (b : Bool) (w : World) (h : w.cell? ⟨p, 0, none⟩ = some (.bool b)) : Calls Tryz.prog 70 #[.pointer (some ⟨p, 0, none⟩)] w fun e w' => e = .returned (.bool (!b)) ∧ w = w' := by
  go_enter Tryz.func70, Tryz.ntmps70
  go_wp2
  go_ret
  exact ⟨rfl, rfl⟩

/-! ### at -/
theorem at_hit (p g n c i : Nat) (b : Int) (w : World) (h0 : w.cell? ⟨p, 0, none⟩ = some (.bool true)) (h1 : w.cell? ⟨p, 1, none⟩ = some (.slice (some ⟨g, 0, none⟩) n c)) (hi : i < n) (hn : n ≤ 4194304)
    (h3 : w.cell? ⟨g, i * 4 + 3, none⟩ = some (.int .u64 b)) (hb : (b == 0) = false) :
    Calls Tryz.prog 73 #[.pointer (some ⟨p, 0, none⟩), .int .u32 i] w fun e w' => e = .returned (.tuple #[.pointer (some ⟨g, i * 4, none⟩), .int .i64 0]) ∧ w = w' := by
  have hi0 : (0 : Int) ≤ i := by omega
  have hi1 : (i : Int) < n := by omega
  go_enter Tryz.func73, Tryz.ntmps73
  go_wp2_with (go_at_call 70; refine Calls.mono (zero_made p true _ h0) ?_; rintro e w' ⟨rfl, rfl⟩)
  go_ret2
  exact ⟨rfl, rfl⟩

theorem at_tomb (p g n c i : Nat) (w : World) (h0 : w.cell? ⟨p, 0, none⟩ = some (.bool true)) (h1 : w.cell? ⟨p, 1, none⟩ = some (.slice (some ⟨g, 0, none⟩) n c)) (hi : i < n) (hn : n ≤ 4194304)
    (h3 : w.cell? ⟨g, i * 4 + 3, none⟩ = some (.int .u64 0)) :
    Calls Tryz.prog 73 #[.pointer (some ⟨p, 0, none⟩), .int .u32 i] w fun e w' => e = .returned (.tuple #[.pointer none, .int .i64 9]) ∧ w = w' := by
  have hi0 : (0 : Int) ≤ i := by omega
  have hi1 : (i : Int) < n := by omega
  go_enter Tryz.func73, Tryz.ntmps73
  go_wp2_with (go_at_call 70; refine Calls.mono (zero_made p true _ h0) ?_; rintro e w' ⟨rfl, rfl⟩)
  go_ret2
  exact ⟨rfl, rfl⟩

theorem at_out (p n c i : Nat) (a : Option Addr) (w : World) (h0 : w.cell? ⟨p, 0, none⟩ = some (.bool true)) (h1 : w.cell? ⟨p, 1, none⟩ = some (.slice a n c)) (hi : n ≤ i) (hu : i ≤ 4294967295) :
    Calls Tryz.prog 73 #[.pointer (some ⟨p, 0, none⟩), .int .u32 i] w fun e w' => e = .returned (.tuple #[.pointer none, .int .i64 9]) ∧ w = w' := by
  have hi1 : (n : Int) ≤ i := by omega
  go_enter Tryz.func73, Tryz.ntmps73
  go_wp2_with (go_at_call 70; refine Calls.mono (zero_made p true _ h0) ?_; rintro e w' ⟨rfl, rfl⟩)
  go_ret2
  exact ⟨rfl, rfl⟩

/-! ### what is known of a log's cells -/
theorem slotCells_length (m : Option Ent × Value) : (slotCells m).length = 4 := by
  obtain ⟨o, v⟩ := m
  cases o <;> rfl

theorem LogRow.cells {w : World} {D : Nat → Prop} {p : Nat} {sv : Value} {M : List (Option Ent × Value)} (h : LogRow w D p sv M) :
    w.cell? ⟨p, 0, none⟩ = some (.bool true) ∧ w.cell? ⟨p, 1, none⟩ = some sv ∧ w.cell? ⟨p, 2, none⟩ = some (.int .i64 (liveOf (M.map Prod.fst))) ∧ (∀ j, w.frozen? ⟨p, j, none⟩ = false) := by
  have := h.box
  exact ⟨by simp [cell_of_row w p _ _ _ _ this], by simp [cell_of_row w p _ _ _ _ this], by simp [cell_of_row w p _ _ _ _ this], fun j => frozen_of_row w p j _ _ this⟩

theorem LogRow.slot {w : World} {D : Nat → Prop} {p : Nat} {sv : Value} {M : List (Option Ent × Value)} (h : LogRow w D p sv M) {i : Nat} {m : Option Ent × Value} (hi : M[i]? = some m) :
    ∃ g c, sv = .slice (some ⟨g, 0, none⟩) M.length c ∧ g < w.heap.size ∧ g ≠ p ∧ i < M.length ∧ M.length ≤ 4194304 ∧ (∀ j u, (slotCells m)[j]? = some u → w.cell? ⟨g, i * 4 + j, none⟩ = some u) ∧ ∀ j, w.frozen? ⟨g, j, none⟩ = false := by
  have hlt : i < M.length := (List.getElem?_eq_some_iff.1 hi).1
  obtain ⟨g, c, rfl, _, hg, hc, hf, _⟩ := owns_at h.row (by omega)
  have ng := h.np (g := g) rfl
  have hlen := h.ok.len
  rw [List.length_map] at hlen
  refine ⟨g, c, rfl, hg, ng, hlt, hlen, fun j u hu => hc _ _ ?_, hf⟩
  have hj : j < 4 := by rw [← slotCells_length m]; exact (List.getElem?_eq_some_iff.1 hu).1
  rw [flat_get slotCells 4 slotCells_length j hj, hi]
  exact hu

/-! ### Get -/
def getPost (o : Option Ent) (w : World) (e : Ending) (w' : World) : Prop :=
  match o with
  | some x => ∃ a n c, e = .returned (.tuple #[.agg #[.string x.key, .slice a n c, .int .u64 x.dl, .int .u64 x.birth], .int .i64 0]) ∧ BytesAt w' (.slice a n c) (bytesOf x.val) ∧ Fresh w (.slice a n c) ∧ Pure w w'
  | none => e = .returned (.tuple #[.agg #[.string ⟨#[]⟩, .slice none 0 0, .int .u64 0, .int .u64 0], .int .i64 9]) ∧ Pure w w'

/-- What slot i holds. -/
def slotOf (M : List (Option Ent × Value)) (i : Nat) : Option Ent := (M[i]?).bind Prod.fst

set_option maxHeartbeats 400000 in
theorem Get_hit {w : World} {D : Nat → Prop} {p : Nat} {sv : Value} {M : List (Option Ent × Value)} (h : LogRow w D p sv M) {i : Nat} {x : Ent} {v : Value} (hi : M[i]? = some (some x, v)) :
    Calls Tryz.prog 97 #[.pointer (some ⟨p, 0, none⟩), .int .u32 i] w (getPost (some x) w) := by
  obtain ⟨g, c, rfl, hg, ng, hlt, hn, hc, hf⟩ := h.slot hi
  obtain ⟨c0, c1, c2, cf⟩ := h.cells
  have hx := (h.vals x v (List.mem_of_getElem? hi)).read (bytesOf_one _)
  have hok := h.ok.ent x (List.mem_map.2 ⟨_, List.mem_of_getElem? hi, rfl⟩)
  have s0 : w.cell? ⟨g, i * 4, none⟩ = _ := hc 0 _ rfl; have s1 := hc 1 _ rfl; have s2 := hc 2 _ rfl; have s3 := hc 3 _ rfl
  have hlp : p < w.heap.size := World.block_lt_of_cell? w _ c0
  have hb : (x.birth == 0) = false := by have := hok.b0; simp; omega
  obtain ⟨a, n, cc, rfl, hl, _⟩ := id hx
  have hn' : n ≤ 140737488355328 := by have := hok.v1; rw [bytesOf_length] at hl; omega
  have H := Lib.hid (hx.frame ((Mod.refl (fun _ => False) w).alloc (.cells #[.string ByteArray.empty, .slice none 0 0, .int .u64 0, .int .u64 0] 42)) (fun _ _ h => h))
  have HL := Lib.hid h
  clear h hx hc hl
  have hlp1 : p < w.heap.size + 1 := by omega
  have hg1 : g < w.heap.size + 1 := by omega
  go_enter Tryz.func97, Tryz.ntmps97
  go_wp2_with (first | (go_at_call 73; refine Calls.mono (at_hit p g _ c i x.birth _ (by simpa [go_sem, hlp] using c0) (by simpa [go_sem, hlp] using c1) hlt hn (by simpa [go_sem, hg] using s3) hb) ?_; rintro e w' ⟨rfl, rfl⟩) | (go_at_call 74; refine Calls.mono (entry_Copy x.key a n cc _ _ _ _ H.out hn') ?_; rintro e w1 ⟨a', n', c', rfl, hr, hf, hp⟩; obtain ⟨hpc, hpf⟩ := hp.cells))
  refine bodyPost_ret (v := .tuple #[.agg #[.string x.key, .slice a' n' c', .int .u64 x.dl, .int .u64 x.birth], .int .i64 0]) (by simp [results, Tryz.results97, go_sem, hpc, hpf]) rfl ⟨a', n', c', rfl, ?_, ?_, ?_⟩
  · refine owns_mod (bytesAt_of hr) (S := fun k => k = w.heap.size) ?_ (fun g e h => by have := hf g e; simp at this; omega)
    (repeat' (first | (with_reducible exact Mod.refl _ _) | (with_reducible refine Mod.alloc ?_ _) | (with_reducible refine Mod.drew ?_) | (with_reducible refine Mod.drewN ?_ _) | (with_reducible refine Mod.setCell ?_ ?_ _) | (refine Mod.then ?_ (by with_reducible assumption) ?_)))
    (all_goals (intros; first | (exfalso; assumption) | omega | (simp at *; done) | (simp at *; omega)))
  · intro g e
    have := hf g e
    simp at this
    omega
  · (repeat' (first | (with_reducible exact Mod.refl _ _) | (with_reducible refine Mod.alloc ?_ _) | (with_reducible refine Mod.drew ?_) | (with_reducible refine Mod.drewN ?_ _) | (with_reducible refine Mod.setCell ?_ ?_ _) | (refine Mod.then ?_ (by with_reducible assumption) ?_)))
    (all_goals (intros; first | (exfalso; assumption) | omega | (simp at *; done) | (simp at *; omega)))

/-! ### Append -/
def Grew (D D' : Nat → Prop) (w : World) : Prop := ∀ k, D' k → D k ∨ w.heap.size ≤ k
def appendPost (w : World) (D : Nat → Prop) (p : Nat) (M : List (Option Ent × Value)) (x : Ent) (e : Ending) (w' : World) : Prop :=
  e = .returned (.tuple #[.int .u32 M.length, .int .i64 0]) ∧ ∃ D' sv' v', LogRow w' D' p sv' (M ++ [(some x, v')]) ∧ Mod D w w' ∧ Grew D D' w

theorem liveOf_le (L : List (Option Ent)) : liveOf L ≤ L.length := List.countP_le_length

theorem append_end {w W Wg w2 : World} {D : Nat → Prop} {p : Nat} {sv sv2 v : Value} {M : List (Option Ent × Value)} {x : Ent} (HL : LogRow w D p sv M) (hL : M.length < 4194304) (HO : x.Ok) (HP : Pure w W) (HG : Pure W Wg)
    (hgrow : Wg.grownBy w2 sv.ownBlock) (hown : w2.ownsRow 0 42 4 sv2 (M.length + 1) (M.flatMap slotCells ++ [.string x.key, v, .int .u64 x.dl, .int .u64 x.birth]))
    (hat : sv2.ownBlock = sv.ownBlock ∨ sv2.ownBlock = some Wg.heap.size) (hrd : BytesAt W v (bytesOf x.val)) :
    ∃ D' sv' v', LogRow ((w2.setCell ⟨p, 1, none⟩ sv2).setCell ⟨p, 2, none⟩ (.int .i64 ((liveOf (M.map Prod.fst) : Int) + 1))) D' p sv' (M ++ [(some x, v')]) ∧
      Mod D w ((w2.setCell ⟨p, 1, none⟩ sv2).setCell ⟨p, 2, none⟩ (.int .i64 ((liveOf (M.map Prod.fst) : Int) + 1))) ∧ Grew D D' w := by
  have hlp : p < w.heap.size := lt_of_block HL.box
  have hWp := HP.then HG (fun _ _ h => h)
  have sz1 := hWp.size
  have HLg := HL.pure hWp
  have hb2 : w2.heap[p]? = some (.cells #[.bool true, sv, .int .i64 (liveOf (M.map Prod.fst))] 131 (0, 0)) := by
    rw [hgrow.block p (by omega) (fun e => HL.np e.symm rfl)]
    exact HLg.box
  have hbox : ((w2.setCell ⟨p, 1, none⟩ sv2).setCell ⟨p, 2, none⟩ (.int .i64 ((liveOf (M.map Prod.fst) : Int) + 1))).heap[p]? = some (.cells #[.bool true, sv2, .int .i64 ((liveOf (M.map Prod.fst) : Int) + 1)] 131 (0, 0)) := by
    have h1 := heap_setCell_same w2 p 1 _ _ sv2 hb2
    exact heap_setCell_same _ p 2 _ _ (.int .i64 ((liveOf (M.map Prod.fst) : Int) + 1)) h1
  have hset : Mod (fun k => k = p) w2 ((w2.setCell ⟨p, 1, none⟩ sv2).setCell ⟨p, 2, none⟩ (.int .i64 ((liveOf (M.map Prod.fst) : Int) + 1))) :=
    ((Mod.refl (fun k => k = p) w2).setCell (p := ⟨p, 1, none⟩) (fun _ => rfl) _).setCell (p := ⟨p, 2, none⟩) (fun _ => rfl) _
  have hall : Mod D Wg ((w2.setCell ⟨p, 1, none⟩ sv2).setCell ⟨p, 2, none⟩ (.int .i64 ((liveOf (M.map Prod.fst) : Int) + 1))) :=
    (Mod.of_grown hgrow (S := D) (fun k e _ => (HL.dd k).2 (.inr e))).trans' hset (fun _ _ h => h) (fun i _ h => (HL.dd i).2 (.inl h))
  have hnb := fun k (_ : k < Wg.heap.size) (hk : D k) cs fz => HLg.nobytes hk cs fz
  have hnp2 : ∀ g, sv2.ownBlock = some g → g ≠ p := fun g e => by
    rcases hat with h | h
    · exact HL.np (h ▸ e)
    · rw [h] at e; cases e; omega
  refine ⟨fun k => k = p ∨ sv2.ownBlock = some k, sv2, v, ⟨?_, ?_, ?_, fun _ => Iff.rfl, ?_⟩, ?_, ?_⟩
  · rw [hbox]
    simp [liveOf]
  · have := owns_mod hown hset (fun g e h => hnp2 g e h)
    simpa [slotCells] using this
  · intro e u hm
    rw [List.mem_append] at hm
    rcases hm with hm | hm
    · exact bytes_frame (HLg.vals e u hm) hall hnb
    · simp at hm
      obtain ⟨rfl, rfl⟩ := hm
      exact bytes_frame (owns_mod hrd HG (fun _ _ h => h)) hall hnb
  · refine ⟨by simp; omega, fun e he => ?_⟩
    simp at he
    rcases he with he | he
    · exact HL.ok.ent e (by simpa using he)
    · subst he; exact HO
  · exact hWp.trans' hall (fun _ _ h => h.elim) (fun _ _ h => h)
  · rintro k (h | h)
    · exact .inl ((HL.dd k).2 (.inl h))
    · rcases hat with h' | h'
      · exact .inl ((HL.dd k).2 (.inr (h' ▸ h)))
      · rw [h'] at h; cases h; exact .inr sz1

set_option maxHeartbeats 800000 in
theorem Append_ok {w : World} {D : Nat → Prop} {p : Nat} {sv : Value} {M : List (Option Ent × Value)} (h : LogRow w D p sv M) (hL : M.length < 4194304) (x : Ent) (hok : x.Ok) (a : Option Addr) (n c : Nat)
    (hx : ReadAt w (.slice a n c) 1 (bytesOf x.val)) :
    Calls Tryz.prog 22 #[.pointer (some ⟨p, 0, none⟩), .agg #[.string x.key, .slice a n c, .int .u64 x.dl, .int .u64 x.birth]] w (appendPost w D p M x) := by
  obtain ⟨sa, sc, rfl, _⟩ := owns_form h.row
  obtain ⟨c0, c1, c2, cf⟩ := h.cells
  have hlp : p < w.heap.size := World.block_lt_of_cell? w _ c0
  have hb : (x.birth == 0) = false := by have := hok.b0; simp; omega
  have hn : n ≤ 65536 := by have := read_length hx; rw [bytesOf_length] at this; have := hok.v1; omega
  obtain ⟨i0, hi, iz0, iz1, iz2⟩ := info_parts info_Entry
  have ng : ∀ g, (Value.slice sa M.length sc).ownBlock = some g → g ≠ p ∧ g < w.heap.size := fun g e => ⟨h.np e, owns_lt h.row e⟩
  have NG := Lib.hid ng
  clear ng
  have H := Lib.hid hx
  have HL := Lib.hid h
  have HO := Lib.hid hok
  have hd : decide ((4194304 : Int) ≤ (M.length : Int)) = false := by simp; omega
  have HLL := Lib.hid hL
  clear h hx hok hL
  have hlp1 : p < w.heap.size + 1 := by omega
  go_enter Tryz.func22, Tryz.ntmps22
  go_upto_region 8 with (first
    | (go_at_call 70; refine Calls.mono (zero_made p true _ (by simpa [go_sem, hlp] using c0)) ?_; rintro e w' ⟨rfl, rfl⟩)
    | (go_at_call 49; go_must (refine Calls.mono (entry_New_ok x.key a n c _ _ (bytesOf x.val) _ (H.out.frame (S := fun _ => False) (by (repeat' (first | (with_reducible exact Mod.refl _ _) | (with_reducible refine Mod.alloc ?_ _) | (with_reducible refine Mod.drew ?_) | (with_reducible refine Mod.drewN ?_ _) | (with_reducible refine Mod.setCell ?_ ?_ _) | (refine Mod.then ?_ (by with_reducible assumption) ?_))) <;> (all_goals (intros; first | (exfalso; assumption) | omega | (simp at *; done) | (simp at *; omega)))) (fun _ _ h => h)) hn HO.out.k0 HO.out.k1 hb) ?_); rintro e w1 ⟨a', n', c', rfl, hr, hf, hp⟩; obtain ⟨hpc, hpf⟩ := hp.cells; have hz : w.heap.size < w1.heap.size := (by have := hp.size; simp at this; omega); have hz2 : p < w1.heap.size := (by omega)))
  have HP : Pure w (w1.alloc (.cells #[.string x.key, .slice a' n' c', .int .u64 x.dl, .int .u64 x.birth] 42)) := by
    (repeat' (first | (with_reducible exact Mod.refl _ _) | (with_reducible refine Mod.alloc ?_ _) | (with_reducible refine Mod.drew ?_) | (with_reducible refine Mod.drewN ?_ _) | (with_reducible refine Mod.setCell ?_ ?_ _) | (refine Mod.then ?_ (by with_reducible assumption) ?_)))
    (all_goals (intros; first | (exfalso; assumption) | omega | (simp at *; done) | (simp at *; omega)))
  have hB : w.heap.size ≤ w1.heap.size ∧ (w1.alloc (.cells #[.string x.key, .slice a' n' c', .int .u64 x.dl, .int .u64 x.birth] 42)).heap[w1.heap.size]? = some (.cells #[.string x.key, .slice a' n' c', .int .u64 x.dl, .int .u64 x.birth] 42 (0, 0)) := ⟨by omega, heap_new rfl⟩
  have HRD : BytesAt (w1.alloc (.cells #[.string x.key, .slice a' n' c', .int .u64 x.dl, .int .u64 x.birth] 42)) (.slice a' n' c') (bytesOf x.val) := owns_mod (bytesAt_of hr) ((Mod.refl (fun _ => False) w1).alloc _) (fun _ _ h => h)
  have hfr : ∀ g, (Value.slice a' n' c').ownBlock = some g → w.heap.size < g := fun g e => by have := hf g e; simp at this; omega
  generalize hW : w1.alloc (.cells #[.string x.key, .slice a' n' c', .int .u64 x.dl, .int .u64 x.birth] 42) = W at HP hB HRD ⊢
  generalize w1.heap.size = B at hB ⊢
  clear hW hpc hpf hz hz2 hp hr hf hlp1
  have HROW := Lib.hid (owns_mod HL.out.row HP (fun _ _ h => h))
  have e1 := HP.cell (fun h => h) c1
  have e2 := HP.cell (fun h => h) c2
  have ef : ∀ j, W.frozen? ⟨p, j, none⟩ = false := fun j => (World.frozen?_of_block (w := w) (a := ⟨p, j, none⟩) (HP.block p hlp (fun h => h))).trans (cf j)
  have lp : p < W.heap.size := HP.lt hlp
  have b0 := cell_of_row W B 0 _ _ _ hB.2
  have b1 := cell_of_row W B 1 _ _ _ hB.2
  have b2 := cell_of_row W B 2 _ _ _ hB.2
  have b3 := cell_of_row W B 3 _ _ _ hB.2
  simp at b0 b1 b2 b3
  have lB : B < W.heap.size := lt_of_block hB.2
  have np : Hid (some p ≠ (Value.slice sa M.length sc).ownBlock) := fun e => (NG.out p e.symm).1 rfl
  have nb : Hid (some B ≠ (Value.slice sa M.length sc).ownBlock) := fun e => by have := (NG.out _ e.symm).2; omega
  have HHB := Lib.hid hB
  have HHP := Lib.hid HP
  have HH1 := Lib.hid HRD
  have HH2 := Lib.hid hfr
  clear hB HP HRD hfr
  generalize hlv : (liveOf (M.map Prod.fst)) = lv at e2 ⊢
  have hlv2 : lv ≤ 4194304 := by have := liveOf_le (M.map Prod.fst); rw [List.length_map] at this; have := HLL.out; omega
  have HLV := Lib.hid hlv
  clear hlv c0 c1 c2 cf
  go_region_law ((refine step_append_read _ (by rfl) _ _ 29 (by rfl) 42 i0 _ 4 56 Tryz.underlying29 hi iz0 iz1 iz2 rfl (by decide) (.slice sa M.length sc) M.length _ (by rfl) ((HROW.out.alloc _).drew) _ [.string x.key, .slice a' n' c', .int .u64 x.dl, .int .u64 x.birth] 1 (by rfl) (ReadAt.of_block 1 1 4 (heap_new (by simp)) (by rfl) (by simp [Value.oneCell'])) (by rfl) (by unfold maxLen; have := HLL.out; omega) (by have := HLL.out; omega) ?_; intro a2 cc2 w2 hown2 hgrow2 hat2; have f2 : ∀ j, w2.frozen? ⟨p, j, none⟩ = false := (fun j => (hgrow2.frozen_far ⟨p, j, none⟩ (by simp; omega) np.out).trans ((World.frozen?_alloc_past _ _ _ lp).trans (ef j))); have f3 := (hgrow2.cell (a := ⟨p, 1, none⟩) (v := .slice sa M.length sc) (by simp [*, World.cell?_alloc_some, World.cell?_setCell_far, go_sem]) np.out); have f4 := (hgrow2.cell (a := ⟨p, 2, none⟩) (v := .int .i64 lv) (by simp [*, World.cell?_alloc_some, World.cell?_setCell_far, go_sem]) np.out)))
  all_goals
    go_wp2
    go_ret2
    refine ⟨by simp; exact u32_nat _ (by have := HLL.out; omega), ?_⟩
    rw [← HLV.out]
    exact append_end HL.out HLL.out HO.out HHP.out (by (repeat' (first | (with_reducible exact Mod.refl _ _) | (with_reducible refine Mod.alloc ?_ _) | (with_reducible refine Mod.drew ?_) | (with_reducible refine Mod.drewN ?_ _) | (with_reducible refine Mod.setCell ?_ ?_ _) | (refine Mod.then ?_ (by with_reducible assumption) ?_))) <;> (all_goals (intros; first | (exfalso; assumption) | omega | (simp at *; done) | (simp at *; omega)))) hgrow2 hown2 (by simpa using hat2) HH1.out

/-! ### Get of a slot that has no entry; Len, Live -/
/-- The slot has no entry, in the walk's words. -/
theorem LogRow.miss {w : World} {D : Nat → Prop} {p : Nat} {sv : Value} {M : List (Option Ent × Value)} (h : LogRow w D p sv M) {i : Nat} (hu : i ≤ 4294967295) (hi : slotOf M i = none) :
    ∀ W, Pure w W → Calls Tryz.prog 73 #[.pointer (some ⟨p, 0, none⟩), .int .u32 i] W fun e w' => e = .returned (.tuple #[.pointer none, .int .i64 9]) ∧ W = w' := by
  intro W hW
  have h := h.pure hW
  obtain ⟨c0, c1, c2, cf⟩ := h.cells
  by_cases hlt : i < M.length
  · have he := List.getElem?_eq_getElem hlt
    generalize M[i] = m at he
    obtain ⟨o, v⟩ := m
    have ho : o = none := by simpa [slotOf, he] using hi
    subst ho
    obtain ⟨g, c, rfl, hg, ng, _, hn, hc, hf⟩ := h.slot he
    exact at_tomb p g _ c i W c0 c1 hlt hn (hc 3 _ rfl)
  · obtain ⟨a, c, rfl, _⟩ := owns_form h.row
    exact at_out p _ c i a W c0 c1 (by omega) hu

set_option maxHeartbeats 400000 in
theorem Get_miss {w : World} {D : Nat → Prop} {p : Nat} {sv : Value} {M : List (Option Ent × Value)} (h : LogRow w D p sv M) {i : Nat} (hu : i ≤ 4294967295) (hi : slotOf M i = none) :
    Calls Tryz.prog 97 #[.pointer (some ⟨p, 0, none⟩), .int .u32 i] w (getPost none w) := by
  have HA := Lib.hid (h.miss hu hi)
  clear h
  go_enter Tryz.func97, Tryz.ntmps97
  go_wp2_with (go_at_call 73; refine Calls.mono (HA.out _ (by (repeat' (first | (with_reducible exact Mod.refl _ _) | (with_reducible refine Mod.alloc ?_ _) | (with_reducible refine Mod.drew ?_) | (with_reducible refine Mod.drewN ?_ _) | (with_reducible refine Mod.setCell ?_ ?_ _) | (refine Mod.then ?_ (by with_reducible assumption) ?_))) <;> (all_goals (intros; first | (exfalso; assumption) | omega | (simp at *; done) | (simp at *; omega))))) ?_; rintro e w' ⟨rfl, rfl⟩)
  refine bodyPost_ret (v := .tuple #[.agg #[.string ⟨#[]⟩, .slice none 0 0, .int .u64 0, .int .u64 0], .int .i64 9]) (by simp [results, Tryz.results97, go_sem]) rfl ⟨rfl, ?_⟩
  (repeat' (first | (with_reducible exact Mod.refl _ _) | (with_reducible refine Mod.alloc ?_ _) | (with_reducible refine Mod.drew ?_) | (with_reducible refine Mod.drewN ?_ _) | (with_reducible refine Mod.setCell ?_ ?_ _) | (refine Mod.then ?_ (by with_reducible assumption) ?_)))
  (all_goals (intros; first | (exfalso; assumption) | omega | (simp at *; done) | (simp at *; omega)))

theorem Len_any {w : World} {D : Nat → Prop} {p : Nat} {sv : Value} {M : List (Option Ent × Value)} (h : LogRow w D p sv M) :
    Calls Tryz.prog 28 #[.pointer (some ⟨p, 0, none⟩)] w fun e w' => e = .returned (.int .i64 M.length) ∧ w = w' := by
  obtain ⟨c0, c1, c2, cf⟩ := h.cells
  obtain ⟨a, c, rfl, _⟩ := owns_form h.row
  clear h
  go_enter Tryz.func28, Tryz.ntmps28
  go_wp2_with (go_at_call 70; refine Calls.mono (zero_made p true _ c0) ?_; rintro e w' ⟨rfl, rfl⟩)
  go_ret
  exact ⟨rfl, rfl⟩
theorem Live_any {w : World} {D : Nat → Prop} {p : Nat} {sv : Value} {M : List (Option Ent × Value)} (h : LogRow w D p sv M) :
    Calls Tryz.prog 69 #[.pointer (some ⟨p, 0, none⟩)] w fun e w' => e = .returned (.int .i64 (liveOf (M.map Prod.fst))) ∧ w = w' := by
  obtain ⟨c0, c1, c2, cf⟩ := h.cells
  clear h
  go_enter Tryz.func69, Tryz.ntmps69
  go_wp2_with (go_at_call 70; refine Calls.mono (zero_made p true _ c0) ?_; rintro e w' ⟨rfl, rfl⟩)
  go_ret
  exact ⟨rfl, rfl⟩

/-! ### slices.Clone, Copy -/
@[go_sem] theorem eql_nil_entries (w : World) (a : Option Addr) (n c : Nat) : (binOp .eql 29 (.slice a n c) (.slice none 0 0)).run Tryz.prog w = .ok (.bool a.isNone) w :=
  Lib.run_eql_slice_nil w _ _ a n c 0 0 Tryz.underlying29
set_option maxHeartbeats 400000 in
theorem clone_entries (a : Option Addr) (n c : Nat) (xs : List Value) (w : World) (hx : ReadAt w (.slice a n c) 4 xs) (hn : n ≤ 4294967295) :
    Calls Tryz.prog 126 #[.slice a n c] w (clonePost 42 4 xs w) := by
  obtain ⟨i0, hi, hz0, hz1, hz2⟩ := info_parts info_Entry
  have hlen : xs.length = n * 4 := read_length hx
  cases a with
  | none =>
    have h0 := clone_none _ _ _ _ _ hx
    have H := Lib.hid hx; clear hx
    go_enter Tryz.func126, Tryz.ntmps126
    go_wp2
    go_ret
    exact ⟨none, 0, 0, rfl, by rw [h0]; exact World.ownsRow_nil _ _ _ _, (fun g e => by cases e), Mod.refl _ _⟩
  | some ad =>
    have H := Lib.hid (hx.frame ((Mod.refl (fun _ => False) w).alloc (.cells #[] 42)) (fun _ _ h => h)); clear hx
    have HO := Lib.hid (owns_empty w 42 4)
    go_enter Tryz.func126, Tryz.ntmps126
    go_wp2_with (at_builtin; refine wpList_append_read _ rfl _ _ 29 rfl 42 i0 _ 4 56 Tryz.underlying29 hi hz0 hz1 hz2 rfl (by decide) _ 0 [] rfl HO.out _ xs n rfl H.out hlen (by unfold maxLen; omega) (by omega) ?_; intro a' c' w1 ho hg hb)
    go_ret
    simp only [List.nil_append, Nat.zero_add, World.size_alloc] at ho hb
    exact clone_end _ _ _ _ _ _ _ _ ho hg hb

theorem slotCells_one {M : List (Option Ent × Value)} {w : World} (h : ∀ e v, (some e, v) ∈ M → BytesAt w v (bytesOf e.val)) : ∀ u ∈ M.flatMap slotCells, u.oneCell' = true := by
  intro u hu
  obtain ⟨⟨o, v⟩, hm, hu⟩ := List.mem_flatMap.1 hu
  cases o with
  | none => simp [slotCells] at hu; rcases hu with rfl | rfl | rfl <;> rfl
  | some e =>
    obtain ⟨a, c, hv, _⟩ := owns_form (h e v hm)
    simp [slotCells, hv] at hu
    rcases hu with rfl | rfl | rfl | rfl <;> rfl
theorem LogRow.read {w : World} {D : Nat → Prop} {p : Nat} {sv : Value} {M : List (Option Ent × Value)} (h : LogRow w D p sv M) : ReadAt w sv 4 (M.flatMap slotCells) :=
  ReadAt.of_owns h.row (slotCells_one h.vals)

def copyLog (w : World) (M : List (Option Ent × Value)) (e : Ending) (w' : World) : Prop :=
  ∃ q sv' D', e = .returned (.pointer (some ⟨q, 0, none⟩)) ∧ LogRow w' D' q sv' M ∧ Pure w w' ∧ ∀ k, D' k → w.heap.size ≤ k
set_option maxHeartbeats 400000 in
theorem Copy_any {w : World} {D : Nat → Prop} {p : Nat} {sv : Value} {M : List (Option Ent × Value)} (h : LogRow w D p sv M) :
    Calls Tryz.prog 75 #[.pointer (some ⟨p, 0, none⟩)] w (copyLog w M) := by
  obtain ⟨c0, c1, c2, cf⟩ := h.cells
  obtain ⟨a, c, rfl, _⟩ := owns_form h.row
  have HR := Lib.hid h.read
  have HL := Lib.hid h
  have hn : M.length ≤ 4294967295 := by have := h.ok.len; rw [List.length_map] at this; omega
  clear h
  go_enter Tryz.func75, Tryz.ntmps75
  go_upto_region 3 with (go_at_call 70; refine Calls.mono (zero_made p true _ c0) ?_; rintro e w' ⟨rfl, rfl⟩)
  go_region_held3 (fun w' => w'.cell? ⟨p, 1, none⟩ = some (.slice a M.length c) ∧ w'.cell? ⟨p, 2, none⟩ = some (.int .i64 (liveOf (M.map Prod.fst))))
    (first | exact ⟨c1, c2⟩ | exact ⟨hp.cell (fun h => h) c1, hp.cell (fun h => h) c2⟩ | exact ⟨(hp.alloc _).cell (fun h => h) c1, (hp.alloc _).cell (fun h => h) c2⟩)
    (first | (go_at_call 126; refine Calls.mono (clone_entries a M.length c _ _ HR.out hn) ?_; rintro e w1 ⟨a', n', c', rfl, hr, hf, hp⟩))
  go_wp2
  go_ret
  obtain rfl := owns_len hr (by decide) (flat_length slotCells 4 slotCells_length M)
  have hq : (w1.alloc (.cells #[.bool true, .slice a' M.length c', .int .i64 (liveOf (M.map Prod.fst))] 131)).heap[w1.heap.size]? = _ := heap_new rfl
  have hp' : Pure w w1 := hp.of_drew
  refine ⟨w1.heap.size, .slice a' M.length c', fun k => k = w1.heap.size ∨ (Value.slice a' M.length c').ownBlock = some k, rfl, ⟨hq, ?_, fun e v hm => ?_, fun _ => Iff.rfl, HL.out.ok⟩, hp'.alloc _, ?_⟩
  · exact owns_mod hr ((Mod.refl (fun _ => False) w1).alloc _) (fun _ _ h => h)
  · exact owns_mod (HL.out.vals e v hm) (hp'.alloc _) (fun _ _ h => h)
  · rintro k (rfl | h)
    · exact hp'.size
    · exact hf k h
theorem logNew_row {w : World} {q : Nat} (h : w.heap[q]? = some (.cells #[.bool true, .slice none 0 0, .int .i64 0] 131 (0, 0))) : LogRow w (fun k => k = q) q (.slice none 0 0) [] :=
  ⟨h, World.ownsRow_nil _ _ _ _, (fun _ _ h => by cases h), fun k => ⟨.inl, fun h => by rcases h with h | h; exact h; cases h⟩, ⟨by simp, fun _ h => by simp at h⟩⟩

end Go.Proofs.YtapplindfijngaaGreat
