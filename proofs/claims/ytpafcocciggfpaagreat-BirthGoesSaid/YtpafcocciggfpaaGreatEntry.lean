/- entry.ValidKey, check, Copy, New and bytes.Clone. Conditions: the bytes are read as cells (ReadAt). -/
import Derived.Test.YtpafcocciggfpaaGreatProg
import Derived.Test.YtpafcocciggfpaaGreatBase
import Derived.Handy
namespace Go.Proofs.YtpafcocciggfpaaGreat
open Go.RowKit
set_option maxRecDepth 100000

theorem info_u8 : (Tryz.prog.info? 5).map (fun i => (i.zero, i.size, i.bytes)) = some (some (.int .u8 0), 1, 1) := by kernel_rfl
@[go_sem] theorem eql_nil_bytes (w : World) (a : Option Addr) (n c : Nat) : (binOp .eql 33 (.slice a n c) (.slice none 0 0)).run Tryz.prog w = .ok (.bool a.isNone) w :=
  Lib.run_eql_slice_nil w _ _ a n c 0 0 Tryz.underlying33

/-- A post that the walk does not open. -/
def Fresh (w : World) (v : Value) : Prop := ∀ g, v.ownBlock = some g → w.heap.size ≤ g
/-- v is a slice of bytes of its own. -/
def BytesAt (w : World) (v : Value) (xs : List Value) : Prop := w.ownsRow 0 5 1 v xs.length xs

/-! ### bytes.Clone -/
theorem bytesAt_of {w : World} {v : Value} {n : Nat} {xs : List Value} (h : w.ownsRow 0 5 1 v n xs) : BytesAt w v xs := by
  have := h.1
  rw [Nat.mul_one] at this
  unfold BytesAt
  rw [this]
  exact h
theorem BytesAt.read {w : World} {v : Value} {xs : List Value} (h : BytesAt w v xs) (h1 : ∀ u ∈ xs, u.oneCell' = true) : ReadAt w v 1 xs := ReadAt.of_owns h h1
def clonePost (T k : Nat) (xs : List Value) (w : World) (e : Ending) (w' : World) : Prop :=
  ∃ a n c, e = .returned (.slice a n c) ∧ w'.ownsRow 0 T k (.slice a n c) n xs ∧ Fresh w (.slice a n c) ∧ Pure w w'

theorem clone_none (k : Nat) (xs : List Value) (w : World) (n c : Nat) (h : ReadAt w (.slice none n c) k xs) : xs = [] := by
  obtain ⟨a', n', c', he, hl, _, h0, _⟩ := h
  cases he
  exact List.eq_nil_of_length_eq_zero (by rw [hl, h0 rfl, Nat.zero_mul])

theorem owns_empty (w : World) (T k : Nat) : (w.alloc (.cells #[] T)).ownsRow 0 T k (.slice (some ⟨w.heap.size, 0, none⟩) 0 0) 0 [] :=
  ⟨by simp, .inr ⟨_, _, #[], rfl, Nat.zero_le _, heap_alloc_new w _, Nat.le_refl _, by simp [maxLen], by simp, by simp⟩⟩

theorem clone_end (T k : Nat) (xs : List Value) (w w' : World) (a : Option Addr) (m c : Nat)
    (ho : w'.ownsRow 0 T k (.slice a m c) m xs) (hg : (w.alloc (.cells #[] T)).grownBy w' (some w.heap.size)) (hb : (Value.slice a m c).ownBlock = some w.heap.size ∨ (Value.slice a m c).ownBlock = some (w.heap.size + 1)) :
    clonePost T k xs w (.returned (.slice a m c)) w' := by
  exact ⟨a, m, c, rfl, ho, fun g e => by rcases hb with hb | hb <;> (rw [hb] at e; cases e; omega),
    ((Mod.refl _ w).alloc _).trans' (Mod.of_grown (S := fun k => w.heap.size ≤ k) hg (fun k e _ => by cases e; exact Nat.le_refl _)) (fun _ _ h => h) (fun i hi h => by omega)⟩

set_option maxHeartbeats 400000 in
theorem bytes_Clone (a : Option Addr) (n c : Nat) (xs : List Value) (w : World) (hx : ReadAt w (.slice a n c) 1 xs) (hn : n ≤ 140737488355328) :
    Calls Tryz.prog 147 #[.slice a n c] w (clonePost 5 1 xs w) := by
  obtain ⟨i0, hi, hz0, hz1, hz2⟩ := info_parts info_u8
  have hlen : xs.length = n * 1 := by obtain ⟨a', n', c', he, hl, _⟩ := hx; cases he; exact hl
  cases a with
  | none =>
    have h0 := clone_none _ _ _ _ _ hx
    have H := Lib.hid hx; clear hx
    go_enter Tryz.func147, Tryz.ntmps147
    go_wp2
    go_ret
    exact ⟨none, 0, 0, rfl, by rw [h0]; exact World.ownsRow_nil _ _ _ _, (fun g e => by cases e), Mod.refl _ _⟩
  | some ad =>
    have H := Lib.hid (hx.frame ((Mod.refl (fun _ => False) w).alloc (.cells #[] 5)) (fun _ _ h => h)); clear hx
    have HO := Lib.hid (owns_empty w 5 1)
    go_enter Tryz.func147, Tryz.ntmps147
    go_wp2_with (at_builtin; refine wpList_append_read _ rfl _ _ 33 rfl 5 i0 _ 1 1 Tryz.underlying33 hi hz0 hz1 hz2 rfl (by decide) _ 0 [] rfl HO.out _ xs n rfl H.out hlen (by unfold maxLen; omega) (by omega) ?_; intro a' c' w1 ho hg hb)
    go_ret
    simp only [List.nil_append, Nat.zero_add, World.size_alloc] at ho hb
    exact clone_end _ _ _ _ _ _ _ _ ho hg hb

/-! ### entries -/
structure Ent where
  key : ByteArray
  val : List UInt8
  dl : Int
  birth : Int

def bytesOf (l : List UInt8) : List Value := l.map fun b => .int .u8 b.toNat
theorem bytesOf_one (l : List UInt8) : ∀ u ∈ bytesOf l, u.oneCell' = true := by
  intro u hu
  obtain ⟨_, _, rfl⟩ := List.mem_map.1 hu
  rfl
theorem bytesOf_length (l : List UInt8) : (bytesOf l).length = l.length := by simp [bytesOf]

/-- The cells of an entry whose value is the slice v. -/
def entCells (e : Ent) (v : Value) : List Value := [.string e.key, v, .int .u64 e.dl, .int .u64 e.birth]

def keyB (n : Nat) : Bool := decide (0 < n) && decide (n ≤ 250)
/-- What check says. -/
def errOf (ks : Nat) (n : Nat) (birth : Int) : Int := if !(keyB ks) || birth == 0 then 2 else if decide (65536 < (n : Int)) then 5 else 0

theorem entry_ValidKey (s : ByteArray) (w : World) (hs : s.size ≤ 140737488355328) : Calls Tryz.prog 159 #[.string s] w fun e w' => e = .returned (.bool (keyB s.size)) ∧ w = w' := by
  have H : Hid (∀ x : Bool, x = (decide ((0 : Int) < s.size) && decide ((s.size : Int) ≤ 250)) → x = keyB s.size) := by
    rintro x rfl
    simp only [keyB, Int.natCast_pos]
    congr 2
    exact propext ⟨fun h => by omega, fun h => by omega⟩
  by_cases h : 0 < s.size
  all_goals
    go_enter Tryz.func159, Tryz.ntmps159
    go_wp2
    go_ret
    exact ⟨congrArg (fun b => Ending.returned (.bool b)) (H.out _ (by simp [h])), rfl⟩

def firstOf (b1 b2 : Bool) (e1 e2 : Int) : Int := if b1 then e1 else if b2 then e2 else 0
def firstPost (b1 b2 : Bool) (e1 e2 : Int) (w : World) (e : Ending) (w' : World) : Prop :=
  e = .returned (.int .i64 (firstOf b1 b2 e1 e2)) ∧ Pure w w'

set_option maxHeartbeats 400000 in
theorem entry_first (b1 b2 : Bool) (e1 e2 : Int) (g : Nat) (w : World) (h0 : w.cell? ⟨g, 0, none⟩ = some (.bool b1)) (h1 : w.cell? ⟨g, 1, none⟩ = some (.int .i64 e1))
    (h2 : w.cell? ⟨g, 2, none⟩ = some (.bool b2)) (h3 : w.cell? ⟨g, 3, none⟩ = some (.int .i64 e2)) (hg : g < w.heap.size) :
    Calls Tryz.prog 158 #[.slice (some ⟨g, 0, none⟩) 2 2] w (firstPost b1 b2 e1 e2 w) := by
  have hg1 : g < w.heap.size + 1 := by omega
  cases b1
  · cases b2
    all_goals
      go_enter Tryz.func158, Tryz.ntmps158
      go_wp2
      go_rounds 3
      go_ret
      exact ⟨rfl, ((Mod.refl _ w).alloc _).alloc _⟩
  · go_enter Tryz.func158, Tryz.ntmps158
    go_wp2
    go_rounds 3
    go_ret
    exact ⟨rfl, (Mod.refl _ w).alloc _⟩

def checkPost (ks n : Nat) (birth : Int) (w : World) (e : Ending) (w' : World) : Prop := e = .returned (.int .i64 (errOf ks n birth)) ∧ Pure w w'

set_option maxHeartbeats 400000 in
theorem entry_check (s : ByteArray) (a : Option Addr) (n c : Nat) (b : Int) (w : World) (hs : s.size ≤ 140737488355328) (hn : n ≤ 140737488355328) :
    Calls Tryz.prog 127 #[.string s, .slice a n c, .int .u64 b] w (checkPost s.size n b w) := by
  cases hk : keyB s.size
  all_goals
    have E := Lib.hid (show errOf s.size n b = firstOf (!(keyB s.size) || b == 0) (decide (65536 < (n : Int))) 2 5 from rfl)
    go_enter Tryz.func127, Tryz.ntmps127
    go_wp2_with (first | (go_at_call 159; refine Calls.mono (entry_ValidKey s w hs) ?_; rintro e w' ⟨rfl, rfl⟩) | (go_at_call 158; refine Calls.mono (entry_first _ _ _ _ w.heap.size _ (World.cell?_alloc_new w _ _ 0) (World.cell?_alloc_new w _ _ 1) (World.cell?_alloc_new w _ _ 2) (World.cell?_alloc_new w _ _ 3) (by simp)) ?_; intro e w1 hp; obtain ⟨rfl, hp⟩ := hp))
    go_ret
    exact ⟨by rw [E.out, hk]; rfl, ((Mod.refl _ _).alloc _).trans hp⟩

/-! ### entry.Copy, entry.New -/
def copyPost (k : ByteArray) (xs : List Value) (d b : Int) (w : World) (e : Ending) (w' : World) : Prop :=
  ∃ a n c, e = .returned (.agg #[.string k, .slice a n c, .int .u64 d, .int .u64 b]) ∧ w'.ownsRow 0 5 1 (.slice a n c) n xs ∧ Fresh w (.slice a n c) ∧ Pure w w'

set_option maxHeartbeats 400000 in
theorem entry_Copy (k : ByteArray) (a : Option Addr) (n c : Nat) (d b : Int) (xs : List Value) (w : World) (hx : ReadAt w (.slice a n c) 1 xs) (hn : n ≤ 140737488355328) :
    Calls Tryz.prog 90 #[.agg #[.string k, .slice a n c, .int .u64 d, .int .u64 b]] w (copyPost k xs d b w) := by
  have H := Lib.hid (hx.frame (((Mod.refl (fun _ => False) w).alloc (.cells #[.string k, .slice a n c, .int .u64 d, .int .u64 b] 42)).alloc (.cells #[.string ByteArray.empty, .slice none 0 0, .int .u64 0, .int .u64 0] 42)) (fun _ _ h => h)); clear hx
  go_enter Tryz.func90, Tryz.ntmps90
  go_wp2_with (go_at_call 147; refine Calls.mono (bytes_Clone a n c xs _ H.out hn) ?_; rintro e w1 ⟨a', n', c', rfl, hr, hf, hp⟩; have h1 := hp.box (b := w.heap.size) (heap_keep (heap_new rfl)) (fun h => h); have h2 := hp.box (b := w.heap.size + 1) (heap_new (by simp)) (fun h => h); obtain ⟨h1c, h1f⟩ := h1; obtain ⟨h2c, h2f⟩ := h2)
  have hm := ((((((Mod.refl (fun k => k = w.heap.size ∨ k = w.heap.size + 1) w1).setCell (p := ⟨w.heap.size, 1, none⟩) (fun _ => .inl rfl) (.slice a' n' c')).setCell (p := ⟨w.heap.size + 1, 0, none⟩) (fun _ => .inr rfl) (.string k)).setCell (p := ⟨w.heap.size + 1, 1, none⟩) (fun _ => .inr rfl) (.slice a' n' c')).setCell (p := ⟨w.heap.size + 1, 2, none⟩) (fun _ => .inr rfl) (.int .u64 d)).setCell (p := ⟨w.heap.size + 1, 3, none⟩) (fun _ => .inr rfl) (.int .u64 b))
  refine bodyPost_ret (v := .agg #[.string k, .slice a' n' c', .int .u64 d, .int .u64 b]) (by simp [results, Tryz.results90, go_sem, h1c, h2c]) rfl ⟨a', n', c', rfl, owns_mod hr hm ?_, ?_, ?_⟩
  · intro g e h
    have := hf g e
    simp at this
    omega
  · intro g e
    have := hf g e
    simp at this
    omega
  · exact (((Mod.refl (fun k => w.heap.size ≤ k) w).alloc _).alloc _).trans' (hp.trans' hm (fun _ _ h => h.elim) (fun i _ h => show w.heap.size ≤ i by omega)) (fun i h h' => by omega) (fun i h h' => by omega)

def entNewPost (k : ByteArray) (xs : List Value) (d b : Int) (w : World) (e : Ending) (w' : World) : Prop :=
  ∃ a n c, e = .returned (.tuple #[.agg #[.string k, .slice a n c, .int .u64 d, .int .u64 b], .int .i64 0]) ∧ w'.ownsRow 0 5 1 (.slice a n c) n xs ∧ Fresh w (.slice a n c) ∧ Pure w w'

theorem read_length {w : World} {a : Option Addr} {n c k : Nat} {xs : List Value} (h : ReadAt w (.slice a n c) k xs) : xs.length = n * k := by
  obtain ⟨a', n', c', he, hl, _⟩ := h
  cases he
  exact hl

set_option maxHeartbeats 400000 in
theorem entry_New_ok (k : ByteArray) (a : Option Addr) (n c : Nat) (d b : Int) (xs : List Value) (w : World) (hx : ReadAt w (.slice a n c) 1 xs) (hn : n ≤ 65536) (hk0 : 0 < k.size) (hk : k.size ≤ 250) (hb : (b == 0) = false) :
    Calls Tryz.prog 65 #[.string k, .slice a n c, .int .u64 d, .int .u64 b] w (entNewPost k xs d b w) := by
  have E : errOf k.size n b = 0 := by
    have : keyB k.size = true := by simp [keyB, hk0, hk]
    have h2 : ¬ ((65536 : Int) < n) := by omega
    simp [errOf, this, hb, h2]
  go_enter Tryz.func65, Tryz.ntmps65
  go_wp2_with (first
    | (go_at_call 127; refine Calls.mono (entry_check k a n c b _ (by omega) (by omega)) ?_; rintro e w1 ⟨he, hp⟩; rw [E] at he; subst he; obtain ⟨hpc, hpf⟩ := hp.cells; have hz : w.heap.size < w1.heap.size := by have := hp.size; simp at this; omega)
    | (go_at_call 90; refine Calls.mono (entry_Copy k a n c d b xs _ (hx.frame (S := fun _ => False) (by (repeat' (first | (with_reducible exact Mod.refl _ _) | (with_reducible refine Mod.alloc ?_ _) | (with_reducible refine Mod.drew ?_) | (with_reducible refine Mod.drewN ?_ _) | (with_reducible refine Mod.setCell ?_ ?_ _) | (refine Mod.then ?_ (by with_reducible assumption) ?_))) <;> (all_goals (intros; first | (exfalso; assumption) | omega | (simp at *; done) | (simp at *; omega)))) (fun _ _ h => h)) (by omega)) ?_; rintro e w2 ⟨a', n', c', rfl, hr, hf, hp2⟩; obtain ⟨hqc, hqf⟩ := hp2.cells))
  refine bodyPost_ret (v := .tuple #[.agg #[.string k, .slice a' n' c', .int .u64 d, .int .u64 b], .int .i64 0]) (by simp [results, Tryz.results65, go_sem, hqc, hqf, hpc, hpf, hz]) rfl ⟨a', n', c', rfl, ?_, ?_, ?_⟩
  · refine owns_mod hr (S := fun k => k = w.heap.size) ?_ (fun g e h => by have := hf g e; omega)
    (repeat' (first | (with_reducible exact Mod.refl _ _) | (with_reducible refine Mod.alloc ?_ _) | (with_reducible refine Mod.drew ?_) | (with_reducible refine Mod.drewN ?_ _) | (with_reducible refine Mod.setCell ?_ ?_ _) | (refine Mod.then ?_ (by with_reducible assumption) ?_)))
    (all_goals (intros; first | (exfalso; assumption) | omega | (simp at *; done) | (simp at *; omega)))
  · intro g e
    have := hf g e
    omega
  · (repeat' (first | (with_reducible exact Mod.refl _ _) | (with_reducible refine Mod.alloc ?_ _) | (with_reducible refine Mod.drew ?_) | (with_reducible refine Mod.drewN ?_ _) | (with_reducible refine Mod.setCell ?_ ?_ _) | (refine Mod.then ?_ (by with_reducible assumption) ?_)))
    (all_goals (intros; first | (exfalso; assumption) | omega | (simp at *; done) | (simp at *; omega)))

def newErr (er : Int) (w : World) (e : Ending) (w' : World) : Prop :=
  e = .returned (.tuple #[.agg #[.string ⟨#[]⟩, .slice none 0 0, .int .u64 0, .int .u64 0], .int .i64 er]) ∧ Pure w w'

set_option maxHeartbeats 400000 in
theorem entry_New_err (k : ByteArray) (a : Option Addr) (n c : Nat) (d b : Int) (w : World) (hk : k.size ≤ 140737488355328) (hn : n ≤ 140737488355328) (er : Int) (E : errOf k.size n b = er) (he0 : (er == 0) = false) :
    Calls Tryz.prog 65 #[.string k, .slice a n c, .int .u64 d, .int .u64 b] w (newErr er w) := by
  go_enter Tryz.func65, Tryz.ntmps65
  go_wp2_with (go_at_call 127; refine Calls.mono (entry_check k a n c b _ hk hn) ?_; rintro e w1 ⟨he, hp⟩; rw [E] at he; subst he; obtain ⟨hpc, hpf⟩ := hp.cells; have hz : w.heap.size < w1.heap.size := by have := hp.size; simp at this; omega)
  refine bodyPost_ret (v := .tuple #[.agg #[.string ⟨#[]⟩, .slice none 0 0, .int .u64 0, .int .u64 0], .int .i64 er]) (by simp [results, Tryz.results65, go_sem, hpc, hpf, hz]) rfl ⟨rfl, ?_⟩
  (repeat' (first | (with_reducible exact Mod.refl _ _) | (with_reducible refine Mod.alloc ?_ _) | (with_reducible refine Mod.drew ?_) | (with_reducible refine Mod.drewN ?_ _) | (with_reducible refine Mod.setCell ?_ ?_ _) | (refine Mod.then ?_ (by with_reducible assumption) ?_)))
  (all_goals (intros; first | (exfalso; assumption) | omega | (simp at *; done) | (simp at *; omega)))
end Go.Proofs.YtpafcocciggfpaaGreat
