/- Lemmas and contracts of functions, strung together out of 10 texts. No condition. -/
import Derived.Test.YtlalpenfgkfkpaaGreatDoorJPfDuePlays2
import Derived.Test.YtlalpenfgkfkpaaGreatDoorJPfDuePlays1
import Derived.Deep.CutBlock
import Derived.RegionTactic
/- wp_range (XRange) with the round in one piece: no relation between the assignments and the body is asked. -/
namespace Go.Proofs.YtlalpenfgkfkpaaGreatDoor
open Go.RowKit Go.Shelf
variable {P : Program}

theorem Quiet.trans {N : Nat} {A B C : World} (h : Quiet N A B) (k : Quiet N B C) : Quiet N A C := by
  refine Mod.trans' h k (fun _ _ h => h) (fun i hi hs => ?_)
  obtain ⟨hN, o, ho, hc⟩ := hs
  refine ⟨hN, ?_⟩
  have hA : A.heap[i]? = some (A.heap[i]'hi) := Array.getElem?_eq_getElem hi
  cases hx : (A.heap[i]'hi).isCells with
  | false => exact ⟨_, hA, hx⟩
  | true =>
    have := Mod.heap h (k := i) (o := A.heap[i]'hi) (fun hs => by
      obtain ⟨_, o', ho', hc'⟩ := hs
      rw [hA] at ho'; cases ho'; rw [hx] at hc'; cases hc') hA
    rw [this] at ho; cases ho; rw [hx] at hc; cases hc
theorem Quiet.refl (N : Nat) (A : World) : Quiet N A A := Quiet.of_pure (Mod.refl _ A)

theorem wp_range2 {α : Type} {g : Operand} {ps : Array Tmp} {assign body : Code} {Q : Exit → Act → World → Prop} {a : Act} {w : World}
    {gf : Nat} {lb : Array Value} (hg : a.eval g = .func (.func gf) #[] lb) (eg : ∀ args w, (callFunc gf args).run P w = .ok (.enter gf args) w)
    {encs : α → Array Value} {It : Nat → Prop} {G : List α → α → World → Prop} {S : List α → Prop} (hit : IterOk P gf lb encs It G S w) (hItlt : ∀ k, It k → k < w.heap.size)
    (hps : ∀ x, (encs x).size = ps.size)
    (I : List α → World → Prop) (Ix : Code → List α → World → Prop) (hI : ∀ pre A B, I pre A → Quiet w.heap.size A B → I pre B) (hIx : ∀ c pre A B, Ix c pre A → Quiet w.heap.size A B → Ix c pre B) (h0 : I [] w)
    (hround : ∀ (l : Nat) (pre : List α) (x : α) (W : World) (K : Act → World → Prop), I pre W → G pre x W →
      (∀ a' W', Pure W W' → (∀ (l' : Nat) (W2 : World), w.heap.size ≤ l' → (∃ r, W2.heap[l']? = some (.loop r)) → Quiet w.heap.size W' W2 → body.wpIn (Fence.wide.inRound l') 0 P (roundEnd w.heap.size It I Ix (pre ++ [x]) W2) a' W2) → K a' W') →
      assign.wpIn (Fence.wide.inRound l) 0 P (Exit.then K (fun _ _ _ => False)) { tmps := (ps.zip (encs x)).foldl (fun t (p, v) => t.setIfInBounds p v) a.tmps, defers := [] } W)
    (hdone : ∀ (D : Nat) (xs : List α) (W : World), w.heap.size ≤ D → S xs → I xs W → W.heap[D]? = some (.deferred (some [])) → Q .normal { a with defers := { target := .collected D, args := #[] } :: a.defers } W)
    (hstop : ∀ (D : Nat) (c : Code) (pre : List α) (W : World), w.heap.size ≤ D → Ix c pre W → W.heap[D]? = some (.deferred (some [])) → c.wpIn Fence.wide 0 P Q { a with defers := { target := .collected D, args := #[] } :: a.defers } W) :
    (Code.rangeFunc g ps assign body).wpIn Fence.wide 0 P Q a w :=
  wp_range hg eg hit hItlt hps I Ix hI hIx h0
    (fun pre x a' W' => ∀ (l' : Nat) (W2 : World), w.heap.size ≤ l' → (∃ r, W2.heap[l']? = some (.loop r)) → Quiet w.heap.size W' W2 → body.wpIn (Fence.wide.inRound l') 0 P (roundEnd w.heap.size It I Ix (pre ++ [x]) W2) a' W2)
    (fun _ _ _ _ _ h hq l' W2 hl hr hq2 => h l' W2 hl hr (hq.trans hq2)) hround (fun l _ _ _ W hl hr h => h l W hl hr (Quiet.refl _ _)) hdone hstop
end Go.Proofs.YtlalpenfgkfkpaaGreatDoor

/- probe: valid numbers of groups, the sequence, its iterator; hash.Part and Tag. -/
namespace Go.Proofs.YtlalpenfgkfkpaaGreatDoor
open Go.RowKit Go.Shelf
set_option maxRecDepth 100000
attribute [local go_sem] Oper.semAt_some

/-- An allowed number of groups. -/
def Pow (g : Nat) : Prop := ∃ k ≤ 20, g = 2 ^ k
theorem Pow.pos {g : Nat} (h : Pow g) : 0 < g := by obtain ⟨k, _, rfl⟩ := h; exact Nat.pow_pos (by decide)
theorem Pow.le {g : Nat} (h : Pow g) : g ≤ 1048576 := by obtain ⟨k, hk, rfl⟩ := h; exact Nat.pow_le_pow_right (n := 2) (by decide) hk
/-- The group that comes at an index of a probe sequence. -/
def atM (part g i : Nat) : Nat := (part + i * (i + 1) / 2) % g
def probes (part g : Nat) : List Nat := (List.range g).map (atM part g)

theorem and_127 (s : Nat) : s &&& 127 = s % 128 := Nat.and_two_pow_sub_one_eq_mod s 7
theorem bits_and63 (a b : Nat) (ha : a < 9223372036854775808) (hb : b < 9223372036854775808) : bits .and .i64 (a : Int) (b : Int) = ((a &&& b : Nat) : Int) := by
  have h : a &&& b < 2 ^ 63 := Nat.and_lt_two_pow _ hb
  show IntKind.i64.wrap (((BitVec.ofInt 64 (a : Int) &&& BitVec.ofInt 64 (b : Int)).toNat : Nat) : Int) = _
  rw [ofInt_nat, ofInt_nat]
  rw [BitVec.toNat_and, BitVec.toNat_ofNat, BitVec.toNat_ofNat, Nat.mod_eq_of_lt (by omega), Nat.mod_eq_of_lt (by omega)]
  generalize a &&& b = c at *
  simp [IntKind.wrap, IntKind.signed, IntKind.bits]
  omega
theorem pow_and : ∀ k ≤ 20, 2 ^ k &&& (2 ^ k - 1) = 0 := by decide +kernel
theorem at_prod (i : Nat) (hi : i < 1048576) : i * (i + 1) < 1099512676352 := by
  have : i * (i + 1) ≤ 1048575 * 1048576 := Nat.mul_le_mul (by omega) (by omega)
  omega
theorem atM_and (part g i : Nat) (hg : Pow g) : (part + i * (i + 1) / 2) &&& (g - 1) = atM part g i := by
  unfold atM
  obtain ⟨k, hk, rfl⟩ := hg
  rw [Nat.and_two_pow_sub_one_eq_mod]
/-! ### iterators over numbers -/
abbrev encN (i : Nat) : Array Value := #[.int .i64 i]
/-- What is promised of an element: it is the next one. -/
def nextOf (xs : List Nat) (pre : List Nat) (x : Nat) (_ : World) : Prop := ∃ post, xs = pre ++ x :: post

structure ProbeAt (w : World) (B1 B2 B3 part g : Nat) : Prop where
  many : w.heap[B1]? = some (.cells #[.int .i64 g] 3 (0, 0))
  part : w.heap[B2]? = some (.cells #[.int .u64 part] 22 (0, 0))
  grps : w.heap[B3]? = some (.cells #[.int .i64 g] 3 (0, 0))
def probeBlocks (B1 B2 B3 k : Nat) : Prop := k = B1 ∨ k = B2 ∨ k = B3
theorem ProbeAt.keeps {w w' : World} {B1 B2 B3 part g : Nat} (h : ProbeAt w B1 B2 B3 part g) (hk : KeepsIt (probeBlocks B1 B2 B3) w w') : ProbeAt w' B1 B2 B3 part g :=
  ⟨(hk.2 B1 (.inl rfl) (lt_of_block h.many)).trans h.many, (hk.2 B2 (.inr (.inl rfl)) (lt_of_block h.part)).trans h.part, (hk.2 B3 (.inr (.inr rfl)) (lt_of_block h.grps)).trans h.grps⟩

theorem drop_cons2 {α : Type} {L : List α} {n : Nat} {a : α} (h : L[n]? = some a) : L.drop n = a :: L.drop (n + 1) := by
  obtain ⟨hlt, rfl⟩ := List.getElem?_eq_some_iff.1 h
  exact List.drop_eq_getElem_cons hlt
theorem take_next {α : Type} {L : List α} {n : Nat} {a : α} (h : L[n]? = some a) : L.take (n + 1) = L.take n ++ [a] := by
  obtain ⟨hlt, rfl⟩ := List.getElem?_eq_some_iff.1 h
  rw [List.take_succ_eq_append_getElem hlt]
def probeInv (J : List Nat → World → Prop) (B1 B2 B3 part g : Nat) (k : Value) (wr : World) : Prop :=
  ∃ n, n ≤ g ∧ k = .int .i64 n ∧ J ((probes part g).take n) wr ∧ ProbeAt wr B1 B2 B3 part g
theorem probes_length (part g : Nat) : (probes part g).length = g := by simp [probes]
theorem probes_at (part g i : Nat) (h : i < g) : (probes part g)[i]? = some (atM part g i) := by simp [probes, h]
end Go.Proofs.YtlalpenfgkfkpaaGreatDoor

/- A slice in a field of a struct that lies in a block: what an append to it leaves; rows of other types behind a change. -/
namespace Go.Proofs.YtlalpenfgkfkpaaGreatDoor
open Go.RowKit

/-- A row keeps, if what has turned are blocks of other types. -/
theorem owns_modT {w w' : World} {S : Nat → Prop} {T k n : Nat} {v : Value} {xs : List Value} (ho : w.ownsRow 0 T k v n xs) (hm : Mod S w w')
    (hS : ∀ i, S i → i < w.heap.size → ∃ cs T' fz, w.heap[i]? = some (.cells cs T' fz) ∧ T' ≠ T) : w'.ownsRow 0 T k v n xs :=
  owns_mod ho hm (fun g hg hs => by
    obtain ⟨c, e⟩ := owns_type ho hg
    obtain ⟨cs, T', fz, e', hne⟩ := hS g hs (owns_lt ho hg)
    rw [e] at e'; cases e'; exact hne rfl)
theorem heap_modT {w w' : World} {S : Nat → Prop} {T k : Nat} {cs : Array Value} {fz : Nat × Nat} (hb : w.heap[k]? = some (.cells cs T fz)) (hm : Mod S w w')
    (hS : ∀ i, S i → i < w.heap.size → ∃ cs T' fz, w.heap[i]? = some (.cells cs T' fz) ∧ T' ≠ T) : w'.heap[k]? = some (.cells cs T fz) :=
  hm.heap (fun hs => by
    obtain ⟨cs', T', fz', e', hne⟩ := hS k hs (lt_of_block hb)
    rw [hb] at e'; cases e'; exact hne rfl) hb

/-- x.f = append(x.f, ..), x in block b, f its cell j. -/
theorem field_append {w wg w5 : World} {b j : Nat} {cs : Array Value} {T E k n n' : Nat} {v v' : Value} {xs xs' : List Value}
    (hb : w.heap[b]? = some (.cells cs T (0, 0))) (ho : w.ownsRow 0 E k v n xs) (hTE : T ≠ E) (hp : Pure w wg)
    (ho5 : w5.ownsRow 0 E k v' n' xs') (hg : wg.grownBy w5 v.ownBlock) (hat : v'.ownBlock = v.ownBlock ∨ v'.ownBlock = some wg.heap.size) :
    (w5.setCell ⟨b, j, none⟩ v').heap[b]? = some (.cells (cs.setIfInBounds j v') T (0, 0)) ∧ (w5.setCell ⟨b, j, none⟩ v').ownsRow 0 E k v' n' xs' ∧
      Mod (fun i => i = b ∨ v.ownBlock = some i) w (w5.setCell ⟨b, j, none⟩ v') ∧ (∀ g, v'.ownBlock = some g → v.ownBlock = some g ∨ w.heap.size ≤ g) := by
  have hlb : b < w.heap.size := lt_of_block hb
  have hnb : v.ownBlock ≠ some b := fun e => by
    obtain ⟨c, e'⟩ := owns_type ho e
    rw [hb] at e'; cases e'; exact hTE rfl
  have hnb' : v'.ownBlock ≠ some b := fun e => by
    rcases hat with h | h
    · exact hnb (h ▸ e)
    · rw [h] at e; cases e; have := hp.size; omega
  have m5 : w5.heap[b]? = some (.cells cs T (0, 0)) :=
    Mod.heap (Mod.of_grown (S := fun i => v.ownBlock = some i) hg (fun k e _ => e)) hnb (hp.heap (fun h => h) hb)
  refine ⟨heap_setCell_same w5 b j cs T v' m5, owns_mod ho5 ((Mod.refl (fun i => i = b) w5).setCell (p := ⟨b, j, none⟩) (fun _ => rfl) _) (fun g hg h => hnb' (h ▸ hg)), ?_, ?_⟩
  · exact ((Mod.of_pure hp).then (Mod.of_grown (S := fun i => i = b ∨ v.ownBlock = some i) hg (fun k e _ => .inr e)) (fun _ _ h => h)).setCell (fun _ => .inl rfl) _
  · intro g e
    rcases hat with h | h
    · exact .inl (h ▸ e)
    · rw [h] at e; cases e; exact .inr hp.size

/-- A local slice (in a slot): append. -/
theorem slot_append {w wg w5 : World} {E k n n' : Nat} {v v' : Value} {xs' : List Value}
    (hp : Pure w wg) (_ho5 : w5.ownsRow 0 E k v' n' xs') (hg : wg.grownBy w5 v.ownBlock) (hat : v'.ownBlock = v.ownBlock ∨ v'.ownBlock = some wg.heap.size) :
    Mod (fun i => v.ownBlock = some i) w w5 ∧ (∀ g, v'.ownBlock = some g → v.ownBlock = some g ∨ w.heap.size ≤ g) := by
  refine ⟨(Mod.of_pure hp).then (Mod.of_grown (S := fun i => v.ownBlock = some i) hg (fun k e _ => e)) (fun _ _ h => h), ?_⟩
  intro g e
  rcases hat with h | h
  · exact .inl (h ▸ e)
  · rw [h] at e; cases e; exact .inr hp.size

/-- The block of a struct behind stores into its cells. -/
theorem heap_set1 {w : World} {b j : Nat} {cs : Array Value} {T : TypeId} {v : Value} (h : w.heap[b]? = some (.cells cs T (0, 0))) : (w.setCell ⟨b, j, none⟩ v).heap[b]? = some (.cells (cs.setIfInBounds j v) T (0, 0)) := heap_setCell_same w b j cs T v h
theorem heap_set12 {w : World} {b : Nat} {u0 u1 v0 v1 : Value} {T : TypeId} (h : w.heap[b]? = some (.cells #[u0, u1] T (0, 0))) : ((w.setCell ⟨b, 0, none⟩ v0).setCell ⟨b, 1, none⟩ v1).heap[b]? = some (.cells #[v0, v1] T (0, 0)) :=
  heap_set1 (j := 1) (heap_set1 (j := 0) h)
theorem Mod.set1 {w : World} (b j : Nat) (v : Value) : Mod (fun i => i = b) w (w.setCell ⟨b, j, none⟩ v) := (Mod.refl (fun i => i = b) w).setCell (p := ⟨b, j, none⟩) (fun _ => rfl) v
theorem Mod.set2 {w : World} (b j k : Nat) (u v : Value) : Mod (fun i => i = b) w ((w.setCell ⟨b, j, none⟩ u).setCell ⟨b, k, none⟩ v) := (Mod.set1 b j u).trans (Mod.set1 b k v)
/-- What is only of new blocks is Pure. -/
theorem Mod.fresh {S : Nat → Prop} {a b c : World} (h : Pure a b) (hm : Mod S b c) (hS : ∀ i, S i → a.heap.size ≤ i) : Pure a c := h.then hm (fun i hi hs => by have := hS i hs; omega)
end Go.Proofs.YtlalpenfgkfkpaaGreatDoor

/- growth.within, check, limit, Insert. -/
namespace Go.Proofs.YtlalpenfgkfkpaaGreatDoor
open Go.RowKit Go.Shelf
set_option maxRecDepth 100000

def intsV (l : List Int) : List Value := l.map (Value.int .i64)
theorem gfin {w X Y : World} {b6 : Nat} {u0 u1 v0 v1 : Value} {T : TypeId} (h6 : X.heap[b6]? = some (.cells #[u0, u1] T (0, 0))) (hp : Pure w X) (hb : w.heap.size ≤ b6) (hY : (X.setCell ⟨b6, 0, none⟩ v0).setCell ⟨b6, 1, none⟩ v1 = Y) : Pure w Y ∧ Y.cell? ⟨b6, 0, none⟩ = some v0 ∧ Y.cell? ⟨b6, 1, none⟩ = some v1 := by
  have m2 := heap_set12 (v0 := v0) (v1 := v1) h6
  have hmm : Mod (fun i => i = b6) X ((X.setCell ⟨b6, 0, none⟩ v0).setCell ⟨b6, 1, none⟩ v1) := Mod.set2 b6 0 1 _ _
  rw [hY] at m2 hmm
  exact ⟨hp.then hmm (fun i hi e => by omega), cell_of_row _ b6 0 _ _ _ m2, cell_of_row _ b6 1 _ _ _ m2⟩
/-- What is to be done before a slot number is put in: how many groups, and whether it is made again. -/
def planI (g live tombs : Nat) : Option (Nat × Bool) :=
  if live + tombs < 7 * g then some (g, false) else if 2 * live ≤ 7 * g then some (g, true) else if g < 1048576 then some (2 * g, true) else if live < 7 * g then some (g, true) else none
def planV (o : Option (Nat × Bool)) : Value := match o with
  | some x => .tuple #[.agg #[.int .i64 (x.1 : Nat), .bool x.2], .int .i64 0]
  | none => .tuple #[.agg #[.int .i64 0, .bool false], .int .i64 7]
end Go.Proofs.YtlalpenfgkfkpaaGreatDoor

/- growth.power, bound, Remove; bits.Len of small numbers. -/
namespace Go.Proofs.YtlalpenfgkfkpaaGreatDoor
open Go.RowKit Go.Shelf
set_option maxRecDepth 100000

/-- How many bits a number has. -/
def blen (n : Nat) : Nat := if n = 0 then 0 else Nat.log2 n + 1
theorem blen_lt (n : Nat) : n < 2 ^ blen n := by
  unfold blen
  split
  · rename_i h; subst h; decide
  · exact Nat.lt_log2_self
theorem blen_le {n k : Nat} (h : n < 2 ^ k) : blen n ≤ k := by
  unfold blen
  split
  · exact Nat.zero_le _
  · rename_i h0
    exact (Nat.log2_lt h0).2 h
theorem blen_min {n k : Nat} (h1 : 2 ^ k ≤ n) (h2 : n < 2 ^ (k + 1)) : blen n = k + 1 := by
  have h0 : n ≠ 0 := by have := Nat.pow_pos (n := k) (show 0 < 2 by decide); omega
  unfold blen
  rw [if_neg h0]
  have h3 : n.log2 < k + 1 := (Nat.log2_lt h0).2 h2
  have h4 : ¬ n.log2 < k := fun h => by have := (Nat.log2_lt h0).1 h; omega
  omega
theorem blen_div {n j : Nat} (h : 2 ^ j ≤ n) : blen n = blen (n / 2 ^ j) + j := by
  have hp := Nat.pow_pos (n := j) (show 0 < 2 by decide)
  have h0 : n ≠ 0 := by omega
  have h1 : n / 2 ^ j ≠ 0 := by have := Nat.div_pos h hp; omega
  have e : n.log2 = (n / 2 ^ j).log2 + j := by
    have h2 : (n / 2 ^ j) < 2 ^ ((n / 2 ^ j).log2 + 1) := Nat.lt_log2_self
    have h3 : 2 ^ (n / 2 ^ j).log2 ≤ n / 2 ^ j := Nat.log2_self_le h1
    have h4 : 2 ^ ((n / 2 ^ j).log2 + j) ≤ n := by
      rw [Nat.pow_add]
      have := Nat.mul_le_mul_right (2 ^ j) h3
      exact Nat.le_trans this (Nat.div_mul_le_self n _)
    have h5 : n < 2 ^ ((n / 2 ^ j).log2 + j + 1) := by
      have h6 := Nat.lt_mul_of_div_lt h2 hp
      rw [show (n / 2 ^ j).log2 + j + 1 = j + ((n / 2 ^ j).log2 + 1) by omega, Nat.pow_add]
      rw [Nat.mul_comm]; exact h6
    have h7 : n.log2 < (n / 2 ^ j).log2 + j + 1 := (Nat.log2_lt h0).2 h5
    have h8 : ¬ n.log2 < (n / 2 ^ j).log2 + j := fun h => by have := (Nat.log2_lt h0).1 h; omega
    omega
  unfold blen
  rw [if_neg h0, if_neg h1, e]
  omega
theorem blen_table (s : ByteArray) (hs : s.size = 256) (h : ∀ k (hk : k < 256), wrap64 ((s[k]'(by omega)).toNat : Int) = blen k) (m : Nat) (hm : m < 256) (hms : m < s.size) : wrap64 ((s[m]'hms).toNat : Int) = blen m := h m hm
theorem len_end (y : Int) (s : ByteArray) (hs : s.size = 256) (h : ∀ k (hk : k < 256), wrap64 ((s[k]'(by omega)).toNat : Int) = blen k) (m : Nat) (hm : m < 256) (hms : m < s.size) (n : Nat) (hb : (blen n : Int) = y + blen m) (h0 : 0 ≤ y ∧ y ≤ 100) :
    wrap64 (y + wrap64 ((s[m]'hms).toNat : Int)) = (blen n : Int) := by
  rw [blen_table s hs h m hm hms, ← hb]
  have : blen m ≤ 8 := blen_le (by omega)
  exact IntWalk.wrap64_in _ (by omega)
theorem len_end0 (s : ByteArray) (hs : s.size = 256) (h : ∀ k (hk : k < 256), wrap64 ((s[k]'(by omega)).toNat : Int) = blen k) (m : Nat) (hm : m < 256) (hms : m < s.size) : wrap64 (wrap64 ((s[m]'hms).toNat : Int)) = (blen m : Int) := by
  have := len_end 0 s hs h m hm hms m (by omega) (by omega)
  rwa [Int.zero_add] at this
theorem Len64_ok (n : Nat) (hn : n < 4294967296) (w : World) : Calls Tryz.prog 78 #[.int .u64 n] w fun e w' => e = .returned (.int .i64 (blen n)) ∧ w = w' := by
  have d0 : decide (4294967296 ≤ (n : Int)) = false := decide_eq_false (by omega)
  have n0 : (0 : Int) ≤ n := by omega
  by_cases c1 : 65536 ≤ n
  · have d1 : decide (65536 ≤ (n : Int)) = true := decide_eq_true (by omega)
    have hb := blen_div (n := n) (j := 16) c1
    obtain ⟨k, hk⟩ : ∃ k, n / 2 ^ 16 = k := ⟨_, rfl⟩
    have e1 : (n : Int) / 65536 = (k : Int) := by omega
    have hk2 : k < 65536 := by omega
    rw [hk] at hb
    have k0 : (0 : Int) ≤ k := by omega
    by_cases c2 : 256 ≤ k
    · have d2 : decide (256 ≤ (k : Int)) = true := decide_eq_true (by omega)
      have hb2 := blen_div (n := k) (j := 8) c2
      obtain ⟨m, hm⟩ : ∃ m, k / 2 ^ 8 = m := ⟨_, rfl⟩
      have e2 : (k : Int) / 256 = (m : Int) := by omega
      have hm2 : m < 256 := by omega
      rw [hm] at hb2
      have m0 : (0 : Int) ≤ m := by omega
      have m1 : (m : Int) < 256 := by omega
      have w8 : IntKind.u8.wrap (m : Int) = m := by simp [IntKind.wrap, IntKind.signed, IntKind.bits]; omega
      go_enter Tryz.func78, Tryz.ntmps78
      go_wp2
      go_ret
      exact ⟨congrArg (fun x => Ending.returned (.int .i64 x)) (len_end 24 _ (by decide) (by decide +kernel) m hm2 _ n (by omega) (by omega)), rfl⟩
    · have d2 : decide (256 ≤ (k : Int)) = false := decide_eq_false (by omega)
      have m1 : (k : Int) < 256 := by omega
      have w8 : IntKind.u8.wrap (k : Int) = k := by simp [IntKind.wrap, IntKind.signed, IntKind.bits]; omega
      go_enter Tryz.func78, Tryz.ntmps78
      go_wp2
      go_ret
      exact ⟨congrArg (fun x => Ending.returned (.int .i64 x)) (len_end 16 _ (by decide) (by decide +kernel) k (by omega) _ n (by omega) (by omega)), rfl⟩
  · have d1 : decide (65536 ≤ (n : Int)) = false := decide_eq_false (by omega)
    by_cases c2 : 256 ≤ n
    · have d2 : decide (256 ≤ (n : Int)) = true := decide_eq_true (by omega)
      have hb2 := blen_div (n := n) (j := 8) c2
      obtain ⟨m, hm⟩ : ∃ m, n / 2 ^ 8 = m := ⟨_, rfl⟩
      have e2 : (n : Int) / 256 = (m : Int) := by omega
      have hm2 : m < 256 := by omega
      rw [hm] at hb2
      have m0 : (0 : Int) ≤ m := by omega
      have m1 : (m : Int) < 256 := by omega
      have w8 : IntKind.u8.wrap (m : Int) = m := by simp [IntKind.wrap, IntKind.signed, IntKind.bits]; omega
      go_enter Tryz.func78, Tryz.ntmps78
      go_wp2
      go_ret
      exact ⟨congrArg (fun x => Ending.returned (.int .i64 x)) (len_end 8 _ (by decide) (by decide +kernel) m hm2 _ n (by omega) (by omega)), rfl⟩
    · have d2 : decide (256 ≤ (n : Int)) = false := decide_eq_false (by omega)
      have m1 : (n : Int) < 256 := by omega
      have w8 : IntKind.u8.wrap (n : Int) = n := by simp [IntKind.wrap, IntKind.signed, IntKind.bits]; omega
      go_enter Tryz.func78, Tryz.ntmps78
      go_wp2
      go_ret
      exact ⟨congrArg (fun x => Ending.returned (.int .i64 x)) (len_end0 _ (by decide) (by decide +kernel) n (by omega) _), rfl⟩
theorem Len_ok (n : Nat) (hn : n < 4294967296) (w : World) : Calls Tryz.prog 50 #[.int .u64 n] w fun e w' => e = .returned (.int .i64 (blen n)) ∧ w = w' := by
  have HL := Lib.hid (fun W => Len64_ok n hn W)
  go_enter Tryz.func50, Tryz.ntmps50
  go_wp2_with (go_at_call 78; refine Calls.mono (HL.out _) ?_; rintro e w' ⟨rfl, rfl⟩)
  go_ret
  exact ⟨rfl, rfl⟩
/-- The maximum number of lanes for some slot numbers. -/
def boundM (live : Nat) : Nat := 2 ^ blen (4 * live + 15)
theorem boundM_le (live : Nat) : 4 * live + 16 ≤ boundM live := by have := blen_lt (4 * live + 15); unfold boundM; omega
theorem boundM_min {live j : Nat} (h : 4 * live + 16 ≤ 2 ^ j) : boundM live ≤ 2 ^ j := Nat.pow_le_pow_right (by decide) (blen_le (by omega))
theorem boundM_pow {live : Nat} (hlt : boundM live < 8388608) : ∃ k, k ≤ 19 ∧ boundM live = 8 * 2 ^ k := by
  have h1 := boundM_le live
  unfold boundM at h1 hlt ⊢
  obtain ⟨b, hb⟩ : ∃ b, blen (4 * live + 15) = b := ⟨_, rfl⟩
  rw [hb] at h1 hlt ⊢
  have h3 : 3 ≤ b := by
    by_cases c : 3 ≤ b
    · exact c
    · have : 2 ^ b ≤ 2 ^ 2 := Nat.pow_le_pow_right (by decide) (by omega)
      omega
  have h23 : b < 23 := by
    by_cases c : b < 23
    · exact c
    · have : 2 ^ 23 ≤ 2 ^ b := Nat.pow_le_pow_right (by decide) (by omega)
      omega
  refine ⟨b - 3, by omega, ?_⟩
  rw [show b = 3 + (b - 3) by omega, Nat.pow_add]
  simp
/-- What is to be done after a slot number was taken out: how many groups, and whether it is made again. -/
def planR (g live : Nat) : Nat × Bool := if live ≤ 7340032 ∧ boundM live < 8 * g then (boundM live / 8, true) else (g, false)
def gremPost (w : World) (x : Nat × Bool) (e : Ending) (w' : World) : Prop := e = .returned (.tuple #[.agg #[.int .i64 (x.1 : Nat), .bool x.2], .int .i64 0]) ∧ Pure w w'
theorem planR_ok {g live : Nat} (hg : Pow g) : Pow (planR g live).1 ∧ ((planR g live).2 = true → live < 8 * (planR g live).1) ∧ ((planR g live).2 = false → (planR g live).1 = g) := by
  have hle := hg.le
  unfold planR
  split
  · rename_i h
    obtain ⟨k, hk, e⟩ := boundM_pow (live := live) (by omega)
    have h1 := boundM_le live
    rw [e, show 8 * 2 ^ k / 8 = 2 ^ k by omega]
    refine ⟨⟨k, by omega, rfl⟩, fun _ => ?_, by simp⟩
    dsimp only
    omega
  · exact ⟨hg, by simp, fun _ => rfl⟩
end Go.Proofs.YtlalpenfgkfkpaaGreatDoor

/- Levels and buckets of deadlines, by plain numbers. No program in sight. No condition. -/
namespace Go.Proofs.YtlalpenfgkfkpaaGreatDoor
def lvlF : Nat → Nat → Nat → Nat
  | 0, _, _ => 0
  | k + 1, now, dl => if dl / 256 = now / 256 then 0 else lvlF k (now / 256) (dl / 256) + 1
/-- The level of a deadline at a time, and its bucket there. -/
def lvl (now dl : Nat) : Nat := lvlF 8 now dl
def bkt (now dl : Nat) : Nat := dl / 256 ^ lvl now dl % 256
theorem div_pow_succ (a k : Nat) : a / 256 / 256 ^ k = a / 256 ^ (k + 1) := by rw [Nat.div_div_eq_div_mul, Nat.pow_succ, Nat.mul_comm]
theorem lvlF_spec : ∀ (f now dl : Nat), now < 256 ^ f → dl < 256 ^ f → 0 < f → lvlF f now dl < f ∧ dl / 256 ^ (lvlF f now dl + 1) = now / 256 ^ (lvlF f now dl + 1) ∧ ∀ k, k < lvlF f now dl → dl / 256 ^ (k + 1) ≠ now / 256 ^ (k + 1)
  | 0, _, _, _, _, h => by omega
  | f + 1, now, dl, hn, hd, _ => by
    unfold lvlF
    split
    · rename_i h
      exact ⟨by omega, by simpa using h, fun k hk => by omega⟩
    · rename_i h
      have hn' : now / 256 < 256 ^ f := by rw [Nat.div_lt_iff_lt_mul (by decide), ← Nat.pow_succ]; exact hn
      have hd' : dl / 256 < 256 ^ f := by rw [Nat.div_lt_iff_lt_mul (by decide), ← Nat.pow_succ]; exact hd
      have hf : 0 < f := by
        rcases Nat.eq_zero_or_pos f with rfl | h0
        · rw [Nat.pow_zero] at hn' hd'; omega
        · exact h0
      obtain ⟨i1, i2, i3⟩ := lvlF_spec f (now / 256) (dl / 256) hn' hd' hf
      refine ⟨by omega, ?_, fun k hk => ?_⟩
      · rw [div_pow_succ, div_pow_succ] at i2; exact i2
      · cases k with
        | zero => simpa using h
        | succ k =>
          have := i3 k (by omega)
          rw [div_pow_succ, div_pow_succ] at this
          exact this
section
variable {now dl tt : Nat}
theorem lvl_spec (hn : now < 18446744073709551616) (hd : dl < 18446744073709551616) : lvl now dl < 8 ∧ dl / 256 ^ (lvl now dl + 1) = now / 256 ^ (lvl now dl + 1) ∧ ∀ k, k < lvl now dl → dl / 256 ^ (k + 1) ≠ now / 256 ^ (k + 1) :=
  lvlF_spec 8 now dl hn hd (by decide)
theorem div_pow_mono {a b i j : Nat} (h : a / 256 ^ i = b / 256 ^ i) (hij : i ≤ j) : a / 256 ^ j = b / 256 ^ j := by
  obtain ⟨d, rfl⟩ := Nat.exists_eq_add_of_le hij
  rw [Nat.pow_add, ← Nat.div_div_eq_div_mul, ← Nat.div_div_eq_div_mul, h]
theorem lvl_uniq (hn : now < 18446744073709551616) (hd : dl < 18446744073709551616) {k : Nat} (h1 : dl / 256 ^ (k + 1) = now / 256 ^ (k + 1)) (h2 : ∀ j, j < k → dl / 256 ^ (j + 1) ≠ now / 256 ^ (j + 1)) : lvl now dl = k := by
  obtain ⟨a1, a2, a3⟩ := lvl_spec hn hd
  rcases Nat.lt_trichotomy (lvl now dl) k with h | h | h
  · exact absurd a2 (h2 _ h)
  · exact h
  · exact absurd h1 (a3 k h)
theorem lvl_diff (hn : now < 18446744073709551616) (hd : dl < 18446744073709551616) (h : now < dl) : now / 256 ^ lvl now dl < dl / 256 ^ lvl now dl := by
  obtain ⟨a1, a2, a3⟩ := lvl_spec hn hd
  have hle : now / 256 ^ lvl now dl ≤ dl / 256 ^ lvl now dl := Nat.div_le_div_right (Nat.le_of_lt h)
  have hne : now / 256 ^ lvl now dl ≠ dl / 256 ^ lvl now dl := by
    cases hl : lvl now dl with
    | zero => simp; omega
    | succ k => exact fun e => a3 k (by omega) e.symm
  omega
theorem bkt_lt : bkt now dl < 256 := Nat.mod_lt _ (by decide)
/-- What is moved as the time goes on: the levels below the highest digit that changes, and there the buckets up tt that digit. -/
def movedD (now tt dl : Nat) : Prop := lvl now dl < lvl now tt ∨ lvl now dl = lvl now tt ∧ bkt now dl ≤ bkt now tt
theorem lt_of_div {a b m : Nat} (h : a / m < b / m) : a < b := by
  apply Nat.lt_of_not_le
  intro hba
  have := Nat.div_le_div_right (c := m) hba
  omega
theorem not_moved (hn : now < 18446744073709551616) (ht : tt < 18446744073709551616) (hd : dl < 18446744073709551616) (h1 : now < dl) (h2 : now < tt) (h : ¬ movedD now tt dl) : tt < dl ∧ lvl tt dl = lvl now dl ∧ bkt tt dl = bkt now dl := by
  obtain ⟨a1, a2, a3⟩ := lvl_spec hn hd
  obtain ⟨b1, b2, b3⟩ := lvl_spec hn ht
  have hdf := lvl_diff hn hd h1
  unfold movedD at h
  rw [not_or] at h
  obtain ⟨h3, h4⟩ := h
  have key : tt / 256 ^ lvl now dl < dl / 256 ^ lvl now dl := by
    rcases Nat.lt_or_ge (lvl now tt) (lvl now dl) with c | c
    · rw [div_pow_mono b2 (show lvl now tt + 1 ≤ lvl now dl by omega)]
      exact hdf
    · have e : lvl now dl = lvl now tt := by omega
      have h5 : bkt now tt < bkt now dl := by
        apply Nat.lt_of_not_le
        exact fun hh => h4 ⟨e, hh⟩
      unfold bkt at h5
      rw [← e] at h5 b2
      have e2 : dl / 256 ^ (lvl now dl + 1) = tt / 256 ^ (lvl now dl + 1) := a2.trans b2.symm
      rw [Nat.pow_succ, ← Nat.div_div_eq_div_mul, ← Nat.div_div_eq_div_mul] at e2
      omega
  have e3 : lvl tt dl = lvl now dl := by
    refine lvl_uniq ht hd ?_ (fun j hj e => ?_)
    · rw [a2]
      rcases Nat.lt_or_ge (lvl now tt) (lvl now dl) with c | c
      · exact (div_pow_mono b2 (show lvl now tt + 1 ≤ lvl now dl + 1 by omega)).symm
      · have e : lvl now dl = lvl now tt := by omega
        rw [e]; exact b2.symm
    · have := div_pow_mono e (show j + 1 ≤ lvl now dl by omega)
      omega
  exact ⟨lt_of_div key, e3, by unfold bkt; rw [e3]⟩
/-- The level by the highest bit in which the two differ. -/
theorem xor_div (a b k : Nat) : (a ^^^ b) / 2 ^ k = (a / 2 ^ k) ^^^ (b / 2 ^ k) := by
  rw [← Nat.shiftRight_eq_div_pow, ← Nat.shiftRight_eq_div_pow, ← Nat.shiftRight_eq_div_pow, Nat.shiftRight_xor_distrib]
theorem xor_eq_zero' {a b : Nat} : a ^^^ b = 0 ↔ a = b := by
  constructor
  · intro h
    apply Nat.eq_of_testBit_eq
    intro i
    have := congrArg (fun n => n.testBit i) h
    simp [Nat.testBit_xor] at this
    exact this
  · rintro rfl; exact Nat.xor_self a
theorem lvl_bits (hn : now < 18446744073709551616) (hd : dl < 18446744073709551616) (h : dl ≠ now) {n : Nat} (h1 : dl ^^^ now < 2 ^ n) (h2 : 2 ^ (n - 1) ≤ dl ^^^ now) (h0 : 0 < n) : (n - 1) / 8 = lvl now dl := by
  symm
  have p : ∀ k, (256 : Nat) ^ k = 2 ^ (8 * k) := fun k => by rw [Nat.pow_mul]
  refine lvl_uniq hn hd ?_ (fun j hj e => ?_)
  · rw [p, ← xor_eq_zero', ← xor_div]
    apply Nat.div_eq_of_lt
    exact Nat.lt_of_lt_of_le h1 (Nat.pow_le_pow_right (by decide) (by omega))
  · rw [p, ← xor_eq_zero', ← xor_div] at e
    have h3 : dl ^^^ now < 2 ^ (8 * (j + 1)) := by
      rcases Nat.div_eq_zero_iff.1 e with e | e
      · have := Nat.pow_pos (n := 8 * (j + 1)) (show 0 < 2 by decide); omega
      · exact e
    have : 2 ^ (8 * (j + 1)) ≤ 2 ^ (n - 1) := Nat.pow_le_pow_right (by decide) (by omega)
    omega
end
end Go.Proofs.YtlalpenfgkfkpaaGreatDoor

/- bits.Len64 of every number; the level and the bucket by it. No condition. -/
namespace Go.Proofs.YtlalpenfgkfkpaaGreatDoor
open Go.RowKit
set_option maxRecDepth 100000
theorem Len64_big (n : Nat) (hn : n < 18446744073709551616) (hb0 : 4294967296 ≤ n) (w : World) : Calls Tryz.prog 78 #[.int .u64 n] w fun e w' => e = .returned (.int .i64 (blen n)) ∧ w = w' := by
  have d0 : decide (4294967296 ≤ (n : Int)) = true := decide_eq_true (by omega)
  have hbb := blen_div (n := n) (j := 32) hb0
  obtain ⟨q, hq⟩ : ∃ q, n / 2 ^ 32 = q := ⟨_, rfl⟩
  have e0 : (n : Int) / 4294967296 = (q : Int) := by omega
  have hq2 : q < 4294967296 := by omega
  rw [hq] at hbb
  have n0 : (0 : Int) ≤ n := by omega
  have q0 : (0 : Int) ≤ q := by omega
  by_cases c1 : 65536 ≤ q
  · have d1 : decide (65536 ≤ (q : Int)) = true := decide_eq_true (by omega)
    have hb := blen_div (n := q) (j := 16) c1
    obtain ⟨k, hk⟩ : ∃ k, q / 2 ^ 16 = k := ⟨_, rfl⟩
    have e1 : (q : Int) / 65536 = (k : Int) := by omega
    have hk2 : k < 65536 := by omega
    rw [hk] at hb
    have k0 : (0 : Int) ≤ k := by omega
    by_cases c2 : 256 ≤ k
    · have d2 : decide (256 ≤ (k : Int)) = true := decide_eq_true (by omega)
      have hb2 := blen_div (n := k) (j := 8) c2
      obtain ⟨m, hm⟩ : ∃ m, k / 2 ^ 8 = m := ⟨_, rfl⟩
      have e2 : (k : Int) / 256 = (m : Int) := by omega
      have hm2 : m < 256 := by omega
      rw [hm] at hb2
      have m0 : (0 : Int) ≤ m := by omega
      have m1 : (m : Int) < 256 := by omega
      have w8 : IntKind.u8.wrap (m : Int) = m := by simp [IntKind.wrap, IntKind.signed, IntKind.bits]; omega
      go_enter Tryz.func78, Tryz.ntmps78
      go_wp2
      go_ret
      exact ⟨congrArg (fun x => Ending.returned (.int .i64 x)) (len_end 56 _ (by decide) (by decide +kernel) m hm2 _ n (by omega) (by omega)), rfl⟩
    · have d2 : decide (256 ≤ (k : Int)) = false := decide_eq_false (by omega)
      have m1 : (k : Int) < 256 := by omega
      have w8 : IntKind.u8.wrap (k : Int) = k := by simp [IntKind.wrap, IntKind.signed, IntKind.bits]; omega
      go_enter Tryz.func78, Tryz.ntmps78
      go_wp2
      go_ret
      exact ⟨congrArg (fun x => Ending.returned (.int .i64 x)) (len_end 48 _ (by decide) (by decide +kernel) k (by omega) _ n (by omega) (by omega)), rfl⟩
  · have d1 : decide (65536 ≤ (q : Int)) = false := decide_eq_false (by omega)
    by_cases c2 : 256 ≤ q
    · have d2 : decide (256 ≤ (q : Int)) = true := decide_eq_true (by omega)
      have hb2 := blen_div (n := q) (j := 8) c2
      obtain ⟨m, hm⟩ : ∃ m, q / 2 ^ 8 = m := ⟨_, rfl⟩
      have e2 : (q : Int) / 256 = (m : Int) := by omega
      have hm2 : m < 256 := by omega
      rw [hm] at hb2
      have m0 : (0 : Int) ≤ m := by omega
      have m1 : (m : Int) < 256 := by omega
      have w8 : IntKind.u8.wrap (m : Int) = m := by simp [IntKind.wrap, IntKind.signed, IntKind.bits]; omega
      go_enter Tryz.func78, Tryz.ntmps78
      go_wp2
      go_ret
      exact ⟨congrArg (fun x => Ending.returned (.int .i64 x)) (len_end 40 _ (by decide) (by decide +kernel) m hm2 _ n (by omega) (by omega)), rfl⟩
    · have d2 : decide (256 ≤ (q : Int)) = false := decide_eq_false (by omega)
      have m1 : (q : Int) < 256 := by omega
      have w8 : IntKind.u8.wrap (q : Int) = q := by simp [IntKind.wrap, IntKind.signed, IntKind.bits]; omega
      go_enter Tryz.func78, Tryz.ntmps78
      go_wp2
      go_ret
      exact ⟨congrArg (fun x => Ending.returned (.int .i64 x)) (len_end 32 _ (by decide) (by decide +kernel) q (by omega) _ n (by omega) (by omega)), rfl⟩
theorem Len64_any (n : Nat) (hn : n < 18446744073709551616) (w : World) : Calls Tryz.prog 78 #[.int .u64 n] w fun e w' => e = .returned (.int .i64 (blen n)) ∧ w = w' := by
  by_cases h : n < 4294967296
  · exact Len64_ok n h w
  · exact Len64_big n hn (by omega) w
theorem blen_lvl {now dl : Nat} (hn : now < 18446744073709551616) (hd : dl < 18446744073709551616) (h : dl ≠ now) : 1 ≤ blen (dl ^^^ now) ∧ blen (dl ^^^ now) ≤ 64 ∧ (blen (dl ^^^ now) - 1) / 8 = lvl now dl := by
  have h0 : dl ^^^ now ≠ 0 := fun e => h (xor_eq_zero'.1 e)
  have hx : dl ^^^ now < 2 ^ 64 := Nat.xor_lt_two_pow hd hn
  have hb : blen (dl ^^^ now) = Nat.log2 (dl ^^^ now) + 1 := by unfold blen; rw [if_neg h0]
  have h1 := blen_lt (dl ^^^ now)
  have h2 : 2 ^ (blen (dl ^^^ now) - 1) ≤ dl ^^^ now := by rw [hb]; exact Nat.log2_self_le h0
  exact ⟨by omega, blen_le hx, lvl_bits hn hd h h1 h2 (by omega)⟩
end Go.Proofs.YtlalpenfgkfkpaaGreatDoor

/- links: Back, Of, Len, Nodes. Conditions: the field lies in memory. -/
namespace Go.Proofs.YtlalpenfgkfkpaaGreatDoor
open Go.RowKit
set_option maxRecDepth 100000
/-- The list of a node. -/
def inL (Ls : List (List Nat)) (n : Nat) : Prop := ∃ (k : Nat) (l : List Nat), Ls[k]? = some l ∧ n ∈ l
section
variable {w w' : World} {p gF gL cF cL N : Nat} {Ls : List (List Nat)} {F : List Nd} {D : Nat → Prop}
theorem LkOk.free0 (h : LkOk N Ls F) {n : Nat} (hn : n < N) (hf : ¬ inL Ls n) : (nd F n).ow = 0 := by
  by_cases h0 : (nd F n).ow = 0
  · exact h0
  · obtain ⟨k, l, h1, h2, _⟩ := h.free n hn h0
    exact absurd ⟨k, l, h1, h2⟩ hf
theorem LkOk.not_free (h : LkOk N Ls F) {n k : Nat} {l : List Nat} (hl : Ls[k]? = some l) (hm : n ∈ l) : n < N ∧ (nd F n).ow = k + 1 := h.own k l hl n hm
set_option maxHeartbeats 1000000 in
theorem ladd_ok (h : LkMem w p gF gL cF cL N Ls F) {n k : Nat} {l : List Nat} (hn : n < N) (hl : Ls[k]? = some l) (hf : ¬ inL Ls n) :
    Calls Tryz.prog 111 #[lkP p, .int .i64 k, .int .u32 n, .bool false] w fun e w' => e = .returned (.int .i64 0) ∧ LkMem w' p gF gL cF cL N (Ls.set k (l ++ [n])) (putF F n (N + k)) ∧ Mod (fun b => b = gF ∨ b = gL) w w' := by
  have h0 := h.ok.free0 hn hf
  obtain ⟨a1, a2, a3, a4, a5, a6⟩ := h.ok.back hn h0 hl
  have hk : k < Ls.length := (List.getElem?_eq_some_iff.1 hl).1
  have hk4 : k ≤ 4096 := by have := h.hm; omega
  have HP := Lib.hid (lput_ok h hn a3 a2 a4 a5 a6 hl)
  have HLi := Lib.hid (llist_ok h hk)
  have HNo := Lib.hid (lnode_ok h hn)
  have HRi := Lib.hid (ring_ok h hk4)
  have hb := h.box
  obtain ⟨FL, hFL⟩ : ∃ FL, F.length = FL := ⟨_, rfl⟩
  have hnF : n < FL := by rw [← hFL, h.ok.len]; omega
  obtain ⟨c0, c1, c2⟩ := h.at_ (i := n) (by rw [hFL]; exact hnF)
  rw [h0] at c2
  rw [hFL] at hb
  have dn : decide (n < FL) = true := decide_eq_true hnF
  have hend : ∀ (w' : World), w'.heap[gF]? = some (.cells (fldC (putF F n (N + k))).toArray 144 (0, 0)) → w'.heap[gL]? = some (.cells ((lensC Ls).set k (.int .i64 ((l.length + 1 : Nat) : Int))).toArray 3 (0, 0)) → Mod (fun b => b = gF ∨ b = gL) w w' → LkMem w' p gF gL cF cL N (Ls.set k (l ++ [n])) (putF F n (N + k)) := fun w' g1 g2 g3 => by
    obtain ⟨n1, n2, n3⟩ := h.ne
    refine ⟨?_, g1, ?_, a1, h.n1, h.nm, by rw [List.length_set]; exact h.hm⟩
    · rw [putF_length, List.length_set]; exact g3.heap (fun e => by rcases e with e | e; exact n1 e; exact n2 e) h.box
    · rw [← lensC_set, List.length_append]; exact g2
  have HE := Lib.hid hend
  have hFb : FL ≤ 4198400 := by rw [← hFL, h.ok.len]; have := h.nm; have := h.hm; omega
  clear h hend hFL a1 a2 a3 a4 a5 a6 c0 c1 hl hf h0
  have hb_0 := cell_of_row _ _ 0 _ _ _ hb; have hb_1 := cell_of_row _ _ 1 _ _ _ hb; have hb_2 := cell_of_row _ _ 2 _ _ _ hb; have hb_f := (fun j => frozen_of_row _ _ j _ _ hb); have hb_l := lt_of_block hb; simp at hb_0 hb_1 hb_2; have H_hb := Lib.hid hb; clear hb
  go_enter Tryz.func111, Tryz.ntmps111
  go_wp2_with (first
    | (go_at_call 107; refine Calls.mono HLi.out ?_; rintro e w' ⟨rfl, rfl⟩)
    | (go_at_call 112; refine Calls.mono HNo.out ?_; rintro e w' ⟨rfl, rfl⟩)
    | (go_at_call 87; refine Calls.mono HRi.out ?_; rintro e w' ⟨rfl, rfl⟩)
    | (go_at_call 114; refine Calls.mono HP.out ?_; rintro e w2 ⟨rfl, q1, q2, q3⟩))
  go_ret
  exact ⟨rfl, HE.out _ q1 q2 q3, q3⟩
/-- A node of no list is added at the back of list k. -/
theorem lback_ok (h : LkAt w D p N Ls) {n k : Nat} {l : List Nat} (hn : n < N) (hl : Ls[k]? = some l) (hf : ¬ inL Ls n) :
    Calls Tryz.prog 103 #[lkP p, .int .i64 k, .int .u32 n] w fun e w' => e = .returned (.int .i64 0) ∧ LkAt w' D p N (Ls.set k (l ++ [n])) ∧ Mod D w w' := by
  obtain ⟨gF, gL, cF, cL, F, h1, h2⟩ := h
  have HA := Lib.hid (ladd_ok h1 hn hl hf)
  have H2 := Lib.hid h2
  clear h1 h2 hl hf hn
  go_enter Tryz.func103, Tryz.ntmps103
  go_wp2_with (go_at_call 111; refine Calls.mono HA.out ?_; rintro e w2 ⟨rfl, q1, q2⟩)
  go_ret
  exact ⟨rfl, ⟨gF, gL, cF, cL, _, q1, H2.out⟩, q2.mono (fun k _ hk => (H2.out k).2 (.inr hk))⟩
def ofPostL (Ls : List (List Nat)) (n : Nat) (e : Ending) : Prop := (∃ (k : Nat) (l : List Nat), Ls[k]? = some l ∧ n ∈ l ∧ e = .returned (.tuple #[.int .i64 k, .int .i64 0])) ∨ (¬ inL Ls n ∧ ∃ er : Int, er ≠ 0 ∧ e = .returned (.tuple #[.int .i64 0, .int .i64 er]))
theorem lof_ok (h : LkAt w D p N Ls) {n : Nat} (h32 : n ≤ 4294967295) : Calls Tryz.prog 105 #[lkP p, .int .u32 n] w fun e w' => ofPostL Ls n e ∧ w = w' := by
  obtain ⟨gF, gL, cF, cL, F, h, h2⟩ := h
  have HI := Lib.hid (lin_ok h h32)
  have hb := h.box
  by_cases hn : n < N ∧ (nd F n).ow ≠ 0
  · obtain ⟨k, l, hl, hm, how⟩ := h.ok.free n hn.1 hn.2
    have e0 : inE N F n = 0 := by unfold inE; rw [if_pos hn.1, if_neg hn.2]
    rw [e0] at HI
    obtain ⟨FL, hFL⟩ : ∃ FL, F.length = FL := ⟨_, rfl⟩
    have hnF : n < FL := by rw [← hFL, h.ok.len]; omega
    obtain ⟨c0, c1, c2⟩ := h.at_ (i := n) (by rw [hFL]; exact hnF)
    rw [how] at c2
    rw [hFL] at hb
    have dn : decide (n < FL) = true := decide_eq_true hnF
    have hk : k < Ls.length := (List.getElem?_eq_some_iff.1 hl).1
    have hk4 : k < 4096 := by have := h.hm; omega
    have HE : Hid (ofPostL Ls n (.returned (.tuple #[.int .i64 k, .int .i64 0]))) := Lib.hid (Or.inl ⟨k, l, hl, hm, rfl⟩)
    obtain ⟨kk, hkk⟩ : ∃ kk, k + 1 = kk := ⟨_, rfl⟩
    rw [hkk] at c2
    have wk : IntKind.i64.wrap ((kk : Int) - 1) = (k : Int) := by rw [show (kk : Int) - 1 = (k : Int) by omega]; exact IntWalk.i64_in _ (by omega)
    have wkk : IntKind.i64.wrap (kk : Int) = (kk : Int) := IntWalk.i64_in _ (by omega)
    clear h c0 c1 hl hm hn how e0 hFL hkk h2
    have hb_0 := cell_of_row _ _ 0 _ _ _ hb; have hb_1 := cell_of_row _ _ 1 _ _ _ hb; have hb_2 := cell_of_row _ _ 2 _ _ _ hb; have hb_f := (fun j => frozen_of_row _ _ j _ _ hb); have hb_l := lt_of_block hb; simp at hb_0 hb_1 hb_2; have H_hb := Lib.hid hb; clear hb
    go_enter Tryz.func105, Tryz.ntmps105
    go_wp2_with (go_at_call 106; refine Calls.mono HI.out ?_; rintro e w' ⟨rfl, rfl⟩)
    go_ret2
    exact ⟨HE.out, rfl⟩
  · have hni : ¬ inL Ls n := fun ⟨k, l, hl, hm⟩ => by
      have := h.ok.own k l hl n hm
      exact hn ⟨this.1, by omega⟩
    have e0 : inE N F n ≠ 0 := by
      unfold inE
      split
      · rename_i h1
        have : (nd F n).ow = 0 := by
          by_cases h0 : (nd F n).ow = 0
          · exact h0
          · exact absurd ⟨h1, h0⟩ hn
        rw [if_pos this]; decide
      · decide
    have HE : ∀ er, er ≠ 0 → ofPostL Ls n (.returned (.tuple #[.int .i64 0, .int .i64 er]))   := fun er he => Or.inr ⟨hni, er, he, rfl⟩
    have HE2 := Lib.hid (HE _ e0)
    obtain ⟨er, her⟩ : ∃ er, inE N F n = er := ⟨_, rfl⟩
    rw [her] at HI HE2 e0
    have b0 : (er == 0) = false := by simpa using e0
    have b1 : (er != 0) = true := by simpa using e0
    clear h h2 hn HE her hni hb e0
    go_enter Tryz.func105, Tryz.ntmps105
    go_wp2_with (go_at_call 106; refine Calls.mono HI.out ?_; rintro e w' ⟨rfl, rfl⟩)
    go_ret2
    exact ⟨HE2.out, rfl⟩
theorem llen_ok (h : LkAt w D p N Ls) {k : Nat} {l : List Nat} (hl : Ls[k]? = some l) : Calls Tryz.prog 91 #[lkP p, .int .i64 k] w fun e w' => e = .returned (.int .i64 l.length) ∧ w = w' := by
  obtain ⟨gF, gL, cF, cL, F, h, h2⟩ := h
  have hk : k < Ls.length := (List.getElem?_eq_some_iff.1 hl).1
  have HLi := Lib.hid (llist_ok h hk)
  have hb := h.box
  have hc := h.lenAt hl
  obtain ⟨H, hH⟩ : ∃ H, Ls.length = H := ⟨_, rfl⟩
  rw [hH] at hb hk
  have hm := h.hm
  rw [hH] at hm
  have dn : decide (k < H) = true := decide_eq_true hk
  clear h h2 hl hH
  generalize l.length = n at *
  have hb_0 := cell_of_row _ _ 0 _ _ _ hb; have hb_1 := cell_of_row _ _ 1 _ _ _ hb; have hb_2 := cell_of_row _ _ 2 _ _ _ hb; have hb_f := (fun j => frozen_of_row _ _ j _ _ hb); have hb_l := lt_of_block hb; simp at hb_0 hb_1 hb_2; have H_hb := Lib.hid hb; clear hb
  go_enter Tryz.func91, Tryz.ntmps91
  go_wp2_with (go_at_call 107; refine Calls.mono HLi.out ?_; rintro e w' ⟨rfl, rfl⟩)
  go_ret
  exact ⟨rfl, rfl⟩
theorem lnodes_ok (h : LkAt w D p N Ls) : Calls Tryz.prog 109 #[lkP p] w fun e w' => e = .returned (.int .i64 N) ∧ w = w' := by
  obtain ⟨gF, gL, cF, cL, F, h, h2⟩ := h
  have HN := Lib.hid (lnone_ok h)
  have hb := h.box
  clear h h2
  have hb_0 := cell_of_row _ _ 0 _ _ _ hb; have hb_1 := cell_of_row _ _ 1 _ _ _ hb; have hb_2 := cell_of_row _ _ 2 _ _ _ hb; have hb_f := (fun j => frozen_of_row _ _ j _ _ hb); have hb_l := lt_of_block hb; simp at hb_0 hb_1 hb_2; have H_hb := Lib.hid hb; clear hb
  go_enter Tryz.func109, Tryz.ntmps109
  go_wp2_with (go_at_call 113; refine Calls.mono HN.out ?_; rintro e w' ⟨rfl, rfl⟩)
  go_ret
  exact ⟨rfl, rfl⟩
end
end Go.Proofs.YtlalpenfgkfkpaaGreatDoor

/- links: all. Conditions: the field lies in memory. -/
namespace Go.Proofs.YtlalpenfgkfkpaaGreatDoor
open Go.RowKit
set_option maxRecDepth 100000
theorem info_n32 : (Tryz.prog.info? 33).map (fun i => (i.zero, i.size, i.bytes)) = some (some (.int .u32 0), 1, 4) := by kernel_rfl
def nums (xs : List Nat) : List Value := xs.map (fun x : Nat => (.int .u32 x : Value))
theorem nums_append (a b : List Nat) : nums (a ++ b) = nums a ++ nums b := by simp [nums]
theorem nums_length (a : List Nat) : (nums a).length = a.length := by simp [nums]
abbrev NumRow (w : World) (a : Option Addr) (c : Nat) (xs : List Nat) : Prop := w.ownsRow 0 33 1 (.slice a xs.length c) xs.length (nums xs)
def FreshV (w : World) (v : Value) : Prop := ∀ g, v.ownBlock = some g → w.heap.size ≤ g
theorem nums_one (xs : List Nat) : ∀ u ∈ nums xs, u.oneCell' = true := by
  intro u hu
  unfold nums at hu
  obtain ⟨x, _, rfl⟩ := List.mem_map.1 hu
  rfl
theorem Ch_at {F : List Nd} : ∀ {l : List Nat} {a : Nat}, Ch F a l → ∀ (i x y : Nat), (a :: l)[i]? = some x → l[i]? = some y → (nd F x).nx = y
  | [], _, _, i, x, y, _, h => by simp at h
  | z :: l, a, ⟨h1, h2, h3⟩, 0, x, y, hx, hy => by
    simp at hx hy
    rw [← hx, h1, hy]
  | z :: l, a, ⟨h1, h2, h3⟩, i + 1, x, y, hx, hy => Ch_at h3 i x y (by simpa using hx) (by simpa using hy)
theorem Ring.at_ {F : List Nd} {r : Nat} {l : List Nat} (h : Ring F r l) {i x y : Nat} (hx : (r :: l)[i]? = some x) (hy : (l ++ [r])[i]? = some y) : (nd F x).nx = y := by
  refine Ch_at h i x y ?_ hy
  rw [← List.cons_append, List.getElem?_append_left (by exact (List.getElem?_eq_some_iff.1 hx).1)]
  exact hx
section
variable {w w' : World} {p N : Nat} {Ls : List (List Nat)} {D : Nat → Prop}
set_option maxHeartbeats 1000000 in
theorem lall_ok (h : LkAt w D p N Ls) {k : Nat} {l : List Nat} (hl : Ls[k]? = some l) :
    Calls Tryz.prog 100 #[lkP p, .int .i64 k] w fun e w' => ∃ a c, e = .returned (.slice a l.length c) ∧ NumRow w' a c l ∧ FreshV w (.slice a l.length c) ∧ Pure w w' := by
  obtain ⟨gF, gL, cF, cL, F, h, _⟩ := h
  have hk : k < Ls.length := (List.getElem?_eq_some_iff.1 hl).1
  have hk4 : k ≤ 4096 := by have := h.hm; omega
  have HLi := Lib.hid (llist_ok h hk)
  have HRi := Lib.hid (ring_ok h hk4)
  have HNX : Hid (∀ {i x y : Nat}, ((N + k) :: l)[i]? = some x → (l ++ [N + k])[i]? = some y → (nd F x).nx = y) := Lib.hid (fun hx hy => (h.ok.ring k l hl).at_ hx hy)
  have HLT : Hid (∀ (i x : Nat), (l ++ [N + k])[i]? = some x → x < F.length ∧ (i < l.length → x < N ∧ l[i]? = some x) ∧ (l.length ≤ i → x = N + k)) := Lib.hid (fun i x hx => by
    have hm := List.mem_of_getElem? hx
    refine ⟨(h.ok.mem_lt hl x hm).1, fun hi => ?_, fun hi => ?_⟩
    · rw [List.getElem?_append_left hi] at hx
      exact ⟨(h.ok.own k l hl x (List.mem_of_getElem? hx)).1, hx⟩
    · rw [List.getElem?_append_right hi] at hx
      rw [List.getElem?_singleton] at hx
      split at hx
      · injection hx with hx; exact hx.symm
      · cases hx)
  have hll : l.length ≤ N := h.ok.short hl
  have hnm := h.nm
  have hFb : F.length ≤ 4198400 := by rw [h.ok.len]; have := h.hm; omega
  have hNF : N + k < F.length := h.ok.hd_lt hk
  obtain ⟨FL, hFL⟩ : ∃ FL, F.length = FL := ⟨_, rfl⟩
  rw [hFL] at hFb hNF HLT
  obtain ⟨c0, c1, c2⟩ := h.at_ (i := N + k) (by rw [hFL]; exact hNF)
  obtain ⟨y0, hy0⟩ : ∃ y, (l ++ [N + k])[0]? = some y := ⟨_, List.getElem?_eq_getElem (by simp)⟩
  rw [HNX.out (i := 0) rfl hy0] at c1
  have hb := h.box
  rw [hFL] at hb
  have HB := Lib.hid hb
  have HM := Lib.hid h; have HFLe := Lib.hid hFL
  obtain ⟨r, hr⟩ : ∃ r, N + k = r := ⟨_, rfl⟩
  rw [hr] at HRi HNX HLT hNF c1 hy0
  have HY0 := Lib.hid hy0
  have hNr : N ≤ r := by omega
  have dr : decide (r < FL) = true := decide_eq_true hNF
  have HY0L := HLT.out _ _ hy0
  have hy0b : y0 < FL := HY0L.1
  clear h hl hFL hr c0 c2 hy0 HY0L
  have hb_0 := cell_of_row _ _ 0 _ _ _ hb; have hb_1 := cell_of_row _ _ 1 _ _ _ hb; have hb_2 := cell_of_row _ _ 2 _ _ _ hb; have hb_f := (fun j => frozen_of_row _ _ j _ _ hb); have hb_l := lt_of_block hb; simp at hb_0 hb_1 hb_2; have H_hb := Lib.hid hb; clear hb
  obtain ⟨i0, hi, iz0, iz1, iz2⟩ := info_parts info_n32
  go_enter Tryz.func100, Tryz.ntmps100
  go_upto_block 0 with (first
    | (go_at_call 107; refine Calls.mono HLi.out ?_; rintro e w' ⟨rfl, rfl⟩)
    | (go_at_call 87; refine Calls.mono HRi.out ?_; rintro e w' ⟨rfl, rfl⟩))
  go_wp2_with fail
  have t1 := HM.out
  clear t1
  clear hb_0 hb_1 hb_2 hb_f hb_l
  clear H_hb
  go_loopw [6, 7] (fun v6 v7 wr => ∃ (i : Nat) (a : Option Addr) (c : Nat) (y : Nat), v7 = .int .u32 y ∧ i ≤ l.length ∧ (l ++ [r])[i]? = some y ∧ v6 = .slice a i c ∧ NumRow wr a c (l.take i) ∧ FreshV w (.slice a i c) ∧ Pure w wr) (fun v6 _ _ => l.length - (match v6 with | .slice _ n _ => n | _ => 0))
  case atStart => exact ⟨0, none, 0, y0, rfl, Nat.zero_le _, HY0.out, rfl, World.ownsRow_nil _ _ _ _, (fun g hg => by cases hg), Mod.refl _ _⟩
  case round =>
    obtain ⟨i, a, c, y, rfl, hi9, hy, rfl, hrow, hfr, hpu⟩ := hrel
    obtain ⟨hy1, hy2, hy3⟩ := HLT.out _ _ hy
    have HY := Lib.hid hy
    have HMr := Lib.hid (HM.out.pure hpu)
    have hb := hpu.heap (fun h => h) HB.out
    have hcl := (HMr.out.at_ (i := y) (by rw [HFLe.out]; exact hy1))
    obtain ⟨q0, q1, q2⟩ := hcl
    have HRow := Lib.hid hrow; have HFR := Lib.hid hfr; have HPU := Lib.hid hpu
    clear hy hrow hfr hpu q0 q2
    by_cases hlt : i < l.length
    · obtain ⟨hy4, hy5⟩ := hy2 hlt
      have hne : ((y : Int) == (r : Int)) = false := by simp; omega
      have hne2 : ((y : Int) != (r : Int)) = true := by simp; omega
      obtain ⟨y', hy'⟩ : ∃ y', (l ++ [r])[i + 1]? = some y' := ⟨_, List.getElem?_eq_getElem (by simp; omega)⟩
      have hnx : (nd F y).nx = y' := HNX.out (i := i + 1) (by simpa using hy5) hy'
      rw [hnx] at q1
      have hy'b := (HLT.out _ _ hy').1
      have dy : decide (y < FL) = true := decide_eq_true hy1
      have htk : l.take (i + 1) = l.take i ++ [y] := by rw [List.take_add_one, hy5]; rfl
      have htl : (l.take i).length = i := by rw [List.length_take]; omega
      have HTK := Lib.hid htk; have HTL := Lib.hid htl; have HY' := Lib.hid hy'
      have hrr : wr.ownsRow 0 33 1 (.slice a i c) i (nums (l.take i)) := by have := HRow.out; unfold NumRow at this; rw [htl] at this; exact this
      have HRR := Lib.hid hrr
      have q1b := q1
      clear htk htl hy' hnx hrr hy2 hy3 hy5 q1
      have hb_0 := cell_of_row _ _ 0 _ _ _ hb; have hb_1 := cell_of_row _ _ 1 _ _ _ hb; have hb_2 := cell_of_row _ _ 2 _ _ _ hb; have hb_f := (fun j => frozen_of_row _ _ j _ _ hb); have hb_l := lt_of_block hb; simp at hb_0 hb_1 hb_2; have H_hb := Lib.hid hb; clear hb
      go_upto_region 7 with (at_builtin; refine wpList_append_read _ rfl _ _ 36 rfl 33 i0 _ 1 4 Tryz.underlying36 hi iz0 iz1 iz2 rfl (by decide) (.slice a i c) i _ rfl (owns_mod HRR.out ((Mod.refl (fun _ => False) wr).alloc _) (fun _ _ h => h)) _ [.int .u32 (y : Nat)] 1 rfl (ReadAt.of_block 1 1 1 (heap_new rfl) (by rfl) (by simp [Value.oneCell'])) rfl (by unfold maxLen; omega) (by omega) ?_; intro a7 c7 w5 hr7 hg7 hb7)
      have hpw : Pure w w5 := (HPU.out.alloc _).then (Mod.of_grown (S := fun k' => (Value.slice a i c).ownBlock = some k') hg7 (fun k e _ => e)) (fun k hk e => by have := HFR.out k e; omega)
      have hfw : FreshV w (.slice a7 (i + 1) c7) := fun k hk => by
        rcases hb7 with e | e
        · exact HFR.out k (e ▸ hk)
        · rw [e] at hk; cases hk; exact (HPU.out.alloc _).size
      have HPW := Lib.hid hpw; have HFW := Lib.hid hfw; have HR7 := Lib.hid hr7
      have hb5 := hpw.heap (fun h => h) HB.out
      obtain ⟨z0, z1, z2⟩ := ((HM.out.pure hpw).at_ (i := y) (by rw [HFLe.out]; exact hy1))
      rw [HNX.out (i := i + 1) (by have := (HLT.out _ _ HY.out).2.1 hlt; simpa using this.2) HY'.out] at z1
      clear hb_0 hb_1 hb_2 hb_f hb_l
      clear H_hb hpw hfw hr7 hg7 hb7 q1b z0 z2 hne hne2
      have hb5_0 := cell_of_row _ _ 0 _ _ _ hb5; have hb5_1 := cell_of_row _ _ 1 _ _ _ hb5; have hb5_2 := cell_of_row _ _ 2 _ _ _ hb5; have hb5_f := (fun j => frozen_of_row _ _ j _ _ hb5); have hb5_l := lt_of_block hb5; simp at hb5_0 hb5_1 hb5_2; have H_hb5 := Lib.hid hb5; clear hb5
      go_wp2
      go_roundw
      case rel => exact ⟨i + 1, a7, c7, y', rfl, hlt, HY'.out, rfl, by unfold NumRow; rw [HTK.out, List.length_append, HTL.out, nums_append]; exact HR7.out, HFW.out, HPW.out⟩
      case measure => simp; omega
    · have hri : y = r := hy3 (by omega)
      have hil : i = l.length := by omega
      subst hri hil
      have HTA : Hid (l.take l.length = l) := Lib.hid (by rw [List.take_length])
      clear hy2 hy3 hlt hi9
      go_wp2
      go_ret
      refine ⟨a, c, rfl, ?_, HFR.out, HPU.out⟩
      have := HRow.out
      rw [HTA.out] at this
      exact this
end
end Go.Proofs.YtlalpenfgkfkpaaGreatDoor

/- links: New. Conditions: the numbers are allowed. -/
namespace Go.Proofs.YtlalpenfgkfkpaaGreatDoor
open Go.RowKit
set_option maxRecDepth 100000
theorem info_node : (Tryz.prog.info? 144).map (fun i => (i.zero, i.size, i.bytes)) = some (some (.agg #[.int .u32 0, .int .u32 0, .int .u32 0]), 3, 12) := by kernel_rfl
theorem info_intL : (Tryz.prog.info? 3).map (fun i => (i.zero, i.size, i.bytes)) = some (some (.int .i64 0), 1, 8) := by kernel_rfl
def newF (N H i : Nat) : List Nd := (List.range (N + H)).map (fun j => if N ≤ j ∧ j < N + i then ⟨j, j, j - N + 1⟩ else ndZ)
theorem newF_length (N H i : Nat) : (newF N H i).length = N + H := by simp [newF]
theorem newF_nd {N H i j : Nat} (hj : j < N + H) : nd (newF N H i) j = if N ≤ j ∧ j < N + i then ⟨j, j, j - N + 1⟩ else ndZ := by
  unfold nd newF
  rw [List.getElem?_map, List.getElem?_range hj]
  rfl
theorem newF_step {N H i : Nat} (hi : i < H) : (newF N H i).set (N + i) ⟨N + i, N + i, i + 1⟩ = newF N H (i + 1) := by
  refine List.ext_getElem? (fun j => ?_)
  by_cases hj : j < N + H
  · have h1 : (newF N H (i + 1))[j]? = some (nd (newF N H (i + 1)) j) := nd_some (by rw [newF_length]; exact hj)
    rw [h1, newF_nd hj]
    by_cases e : N + i = j
    · subst e
      rw [List.getElem?_set_self (by rw [newF_length]; omega), if_pos (by omega)]
      congr 2
      omega
    · rw [List.getElem?_set_ne e, nd_some (by rw [newF_length]; exact hj), newF_nd hj]
      congr 1
      by_cases c : N ≤ j ∧ j < N + i
      · rw [if_pos c, if_pos (by omega)]
      · rw [if_neg c, if_neg (by omega)]
  · rw [List.getElem?_eq_none (by rw [List.length_set, newF_length]; omega), List.getElem?_eq_none (by rw [newF_length]; omega)]
theorem newF_zero (N H : Nat) : newF N H 0 = List.replicate (N + H) ndZ := by
  unfold newF
  refine List.ext_getElem? (fun j => ?_)
  rw [List.getElem?_map, List.getElem?_replicate]
  by_cases hj : j < N + H
  · rw [List.getElem?_range hj, if_pos hj]
    show some (if _ then _ else _) = _
    rw [if_neg (by omega)]
  · rw [List.getElem?_eq_none (by simpa using hj), if_neg hj]; rfl
theorem fldC_zero (m : Nat) : fldC (List.replicate m ndZ) = List.replicate (m * 3) (.int .u32 0) := by
  induction m with
  | zero => rfl
  | succ m ih =>
    rw [List.replicate_succ]
    show ndC ndZ ++ fldC _ = _
    rw [ih, show (m + 1) * 3 = m * 3 + 1 + 1 + 1 by omega, List.replicate_succ, List.replicate_succ, List.replicate_succ]
    rfl
theorem made_node (m : Nat) : madeCells (Value.agg #[.int .u32 0, .int .u32 0, .int .u32 0]).cells (m * 3) = (fldC (List.replicate m ndZ)).toArray := by
  rw [fldC_zero, show (Value.agg #[.int .u32 0, .int .u32 0, .int .u32 0]).cells = #[.int .u32 0, .int .u32 0, .int .u32 0] from rfl]
  apply Array.ext_getElem?
  intro k
  unfold madeCells
  rw [Array.getElem?_map, show (List.replicate (m * 3) (Value.int .u32 0)).toArray[k]? = (List.replicate (m * 3) (Value.int .u32 0))[k]? from List.getElem?_toArray, List.getElem?_replicate]
  by_cases hk : k < m * 3
  · rw [if_pos hk]
    rw [Array.getElem?_range, if_pos hk]
    show some (#[Value.int .u32 0, .int .u32 0, .int .u32 0][k % 3]!) = _
    have : k % 3 = 0 ∨ k % 3 = 1 ∨ k % 3 = 2 := by omega
    rcases this with e | e | e <;> rw [e] <;> rfl
  · rw [if_neg hk, Array.getElem?_range, if_neg hk]; rfl
theorem made_lens (m : Nat) : madeCells (Value.int .i64 0).cells (m * 1) = (lensC (List.replicate m [])).toArray := by
  rw [show (Value.int .i64 0).cells = #[.int .i64 0] from rfl]
  apply Array.ext_getElem?
  intro k
  unfold madeCells lensC
  rw [Array.getElem?_map, List.map_replicate, show (List.replicate m (Value.int .i64 (([] : List Nat).length : Nat))).toArray[k]? = (List.replicate m (Value.int .i64 (([] : List Nat).length : Nat)))[k]? from List.getElem?_toArray, List.getElem?_replicate, Nat.mul_one]
  by_cases hk : k < m
  · rw [if_pos hk, Array.getElem?_range, if_pos hk]
    show some (#[Value.int .i64 0][k % 1]!) = _
    rw [Nat.mod_one]; rfl
  · rw [if_neg hk, Array.getElem?_range, if_neg hk]; rfl
theorem newOk (N H : Nat) : LkOk N (List.replicate H []) (newF N H H) := by
  have hl : ∀ (h : Nat) (l : List Nat), (List.replicate H [])[h]? = some l → l = [] ∧ h < H := fun h l hh => by
    rw [List.getElem?_replicate] at hh
    split at hh
    · cases hh; exact ⟨rfl, ‹_›⟩
    · cases hh
  refine ⟨by rw [newF_length, List.length_replicate], fun h l hh => ?_, fun h l hh => ?_, fun h l hh a ha => ?_, fun h hh => ?_, fun a ha hw => ?_⟩
  · obtain ⟨rfl, h1⟩ := hl h l hh
    have := newF_nd (N := N) (H := H) (i := H) (j := N + h) (by omega)
    rw [if_pos (by omega)] at this
    exact ⟨by rw [this], by rw [this], trivial⟩
  · obtain ⟨rfl, h1⟩ := hl h l hh; exact List.nodup_nil
  · obtain ⟨rfl, h1⟩ := hl h l hh; cases ha
  · rw [List.length_replicate] at hh
    rw [newF_nd (by omega), if_pos (by omega)]
    show N + h - N + 1 = h + 1
    omega
  · rw [newF_nd (by omega), if_neg (by omega)] at hw
    exact absurd rfl hw
/-- What New's loop keeps. -/
structure NwInv (w : World) (p gF gL N H i : Nat) (W : World) : Prop where
  pu : Pure w W
  box : W.heap[p]? = some (.cells #[.slice (some ⟨gF, 0, none⟩) (N + H) (N + H), .int .i64 N, .slice (some ⟨gL, 0, none⟩) H H] 140 (0, 0))
  fld : W.heap[gF]? = some (.cells (fldC (newF N H i)).toArray 144 (0, 0))
  len : W.heap[gL]? = some (.cells (lensC (List.replicate H [])).toArray 3 (0, 0))
  fp : w.heap.size ≤ p
  fF : w.heap.size ≤ gF
  fL : w.heap.size ≤ gL
theorem nw_start1 (w : World) (N H : Nat) : NwInv w (w.heap.size + 1 + 1) w.heap.size (w.heap.size + 1) N H 0 (((w.alloc (.cells (fldC (newF N H 0)).toArray 144)).alloc (.cells (lensC (List.replicate H [])).toArray 3)).alloc
    (.cells #[.slice (some ⟨w.heap.size, 0, none⟩) (N + H) (N + H), .int .i64 N, .slice (some ⟨w.heap.size + 1, 0, none⟩) H H] 140)) :=
  ⟨(((Mod.refl _ w).alloc _).alloc _).alloc _, heap_new (by simp), heap_keep (heap_keep (heap_new rfl)), heap_keep (heap_new (by simp)), by omega, Nat.le_refl _, by omega⟩
theorem nw_start2 (w : World) (N H : Nat) : NwInv w (w.heap.size + 1 + 1) (w.heap.size + 1) w.heap.size N H 0 (((w.alloc (.cells (lensC (List.replicate H [])).toArray 3)).alloc (.cells (fldC (newF N H 0)).toArray 144)).alloc
    (.cells #[.slice (some ⟨w.heap.size + 1, 0, none⟩) (N + H) (N + H), .int .i64 N, .slice (some ⟨w.heap.size, 0, none⟩) H H] 140)) :=
  ⟨(((Mod.refl _ w).alloc _).alloc _).alloc _, heap_new (by simp), heap_keep (heap_new (by simp)), heap_keep (heap_keep (heap_new rfl)), by omega, by omega, Nat.le_refl _⟩
theorem NwInv.drew {w W : World} {p gF gL N H i : Nat} (h : NwInv w p gF gL N H i W) : NwInv w p gF gL N H i W.drew :=
  ⟨h.pu.drew, h.box, h.fld, h.len, h.fp, h.fF, h.fL⟩
theorem NwInv.ring {w W : World} {p gF gL N H i : Nat} (h : NwInv w p gF gL N H i W) (k : Nat) : Calls Tryz.prog 87 #[.int .i64 k, lkP p] W fun e w' => k ≤ 4096 → N ≤ 4194304 → e = .returned (.int .u32 (N + k : Nat)) ∧ W = w' := by
  have hb := h.box
  clear h
  by_cases hk : k ≤ 4096 ∧ N ≤ 4194304
  · have hb_0 := cell_of_row _ _ 0 _ _ _ hb; have hb_1 := cell_of_row _ _ 1 _ _ _ hb; have hb_2 := cell_of_row _ _ 2 _ _ _ hb; have hb_f := (fun j => frozen_of_row _ _ j _ _ hb); have hb_l := lt_of_block hb; simp at hb_0 hb_1 hb_2; have H_hb := Lib.hid hb; clear hb
    obtain ⟨hk, hm⟩ := hk
    have ws : IntKind.i64.wrap ((N : Int) + (k : Int)) = (N : Int) + (k : Int) := IntWalk.i64_in _ (by omega)
    have wu : IntKind.u32.wrap ((N : Int) + (k : Int)) = (N : Int) + (k : Int) := by simp [IntKind.wrap, IntKind.signed, IntKind.bits]; omega
    have wk : IntKind.i64.wrap (k : Int) = k := IntWalk.i64_in _ (by omega)
    go_enter Tryz.func87, Tryz.ntmps87
    go_wp2
    go_ret
    exact fun _ _ => ⟨by go_num, rfl⟩
  · have hb_0 := cell_of_row _ _ 0 _ _ _ hb; have hb_1 := cell_of_row _ _ 1 _ _ _ hb; have hb_2 := cell_of_row _ _ 2 _ _ _ hb; have hb_f := (fun j => frozen_of_row _ _ j _ _ hb); have hb_l := lt_of_block hb; simp at hb_0 hb_1 hb_2; have H_hb := Lib.hid hb; clear hb
    go_enter Tryz.func87, Tryz.ntmps87
    go_wp2
    go_ret
    exact fun h1 h2 => absurd ⟨h1, h2⟩ hk
theorem NwInv.next {w W : World} {p gF gL N H i : Nat} (h : NwInv w p gF gL N H i W) (hi : i < H) :
    NwInv w p gF gL N H (i + 1) (((W.setCell ⟨gF, (N + i) * 3, none⟩ (.int .u32 (N + i : Nat))).setCell ⟨gF, (N + i) * 3 + 1, none⟩ (.int .u32 (N + i : Nat))).setCell ⟨gF, (N + i) * 3 + 2, none⟩ (.int .u32 (i + 1 : Nat))) := by
  have hf := fld_put h.fld (i := N + i) (by rw [newF_length]; omega) (N + i) (N + i) (i + 1)
  rw [newF_step hi] at hf
  have hm : Mod (fun k => k = gF) W (((W.setCell ⟨gF, (N + i) * 3, none⟩ (.int .u32 (N + i : Nat))).setCell ⟨gF, (N + i) * 3 + 1, none⟩ (.int .u32 (N + i : Nat))).setCell ⟨gF, (N + i) * 3 + 2, none⟩ (.int .u32 (i + 1 : Nat))) :=
    (((Mod.refl (fun b => b = gF) W).setCell (p := ⟨gF, (N + i) * 3, none⟩) (fun _ => rfl) _).setCell (p := ⟨gF, (N + i) * 3 + 1, none⟩) (fun _ => rfl) _).setCell (p := ⟨gF, (N + i) * 3 + 2, none⟩) (fun _ => rfl) _
  have n1 : p ≠ gF := by rintro rfl; have := h.box.symm.trans h.fld; injection this with this; injection this with _ this; exact absurd this (by decide)
  have n2 : gL ≠ gF := by rintro rfl; have := h.len.symm.trans h.fld; injection this with this; injection this with _ this; exact absurd this (by decide)
  exact ⟨h.pu.then hm (fun k hk e => by have := h.fF; omega), hm.heap n1 h.box, hf, hm.heap n2 h.len, h.fp, h.fF, h.fL⟩
set_option maxHeartbeats 1000000 in
theorem lnew_ok (w : World) {N H : Nat} (hN : 1 ≤ N) (hN2 : N ≤ 4194304) (hH : 1 ≤ H) (hH2 : H ≤ 4096) :
    Calls Tryz.prog 63 #[.int .i64 N, .int .i64 H] w fun e w' => ∃ p D, e = .returned (.tuple #[lkP p, .int .i64 0]) ∧ LkAt w' D p N (List.replicate H []) ∧ Pure w w' ∧ ∀ k, D k → w.heap.size ≤ k := by
  obtain ⟨iN, hi, iz0, iz1, iz2⟩ := info_parts info_node
  obtain ⟨iL, hj, jz0, jz1, jz2⟩ := info_parts info_intL
  have ws : IntKind.i64.wrap ((N : Int) + (H : Int)) = (N : Int) + (H : Int) := IntWalk.i64_in _ (by omega)
  have hmF : ∀ W : World, (Instr.makeSlice 138 (.int .i64 ((N : Int) + (H : Int))) (.int .i64 ((N : Int) + (H : Int)))).run Tryz.prog W = .ok (.slice (some ⟨W.heap.size, 0, none⟩) (N + H) (N + H)) (W.alloc (.cells (fldC (newF N H 0)).toArray 144)) := fun W => by
    have := run_make W 138 144 iN _ Tryz.underlying138 hi iz0 .i64 .i64 ((N : Int) + (H : Int)) ((N : Int) + (H : Int)) (by omega) (Int.le_refl _) (by rw [iz2]; omega) (by omega)
    rw [iz1, show ((N : Int) + (H : Int)).toNat = N + H by omega, made_node, ← newF_zero] at this
    exact this
  have hmL : ∀ W : World, (Instr.makeSlice 129 (.int .i64 (H : Int)) (.int .i64 (H : Int))).run Tryz.prog W = .ok (.slice (some ⟨W.heap.size, 0, none⟩) H H) (W.alloc (.cells (lensC (List.replicate H [])).toArray 3)) := fun W => by
    have := run_make W 129 3 iL _ Tryz.underlying129 hj jz0 .i64 .i64 (H : Int) (H : Int) (by omega) (Int.le_refl _) (by rw [jz2]; omega) (by omega)
    rw [jz1, show ((H : Int)).toNat = H by omega, made_lens] at this
    exact this
  have d1 : decide ((N : Int) < 1) = false := decide_eq_false (by omega)
  have d2 : decide ((4194304 : Int) < (N : Int)) = false := decide_eq_false (by omega)
  have d3 : decide ((H : Int) < 1) = false := decide_eq_false (by omega)
  have d4 : decide ((4096 : Int) < (H : Int)) = false := decide_eq_false (by omega)
  clear hi iz0 iz1 iz2 hj jz0 jz1 jz2
  go_enter Tryz.func63, Tryz.ntmps63
  go_upto_region 3 with fail
  go_cut [6] (fun v wx => ∃ p gF gL, v = lkP p ∧ NwInv w p gF gL N H 0 wx)
  case first =>
    clear d1 d2 d3 d4
    go_region
    all_goals
      (try go_wp2)
      go_meet
      first
        | exact ⟨_, _, _, rfl, nw_start1 w N H⟩
        | exact ⟨_, _, _, rfl, nw_start2 w N H⟩
        | exact ⟨_, _, _, rfl, (nw_start1 w N H).drew⟩
        | exact ⟨_, _, _, rfl, (nw_start2 w N H).drew⟩
  case rest =>
    obtain ⟨p, gF, gL, rfl, hinv⟩ := hcut
    have HI := Lib.hid hinv
    clear hinv hmF hmL ws d1 d2 d3 d4
    go_upto_region 5 with fail
    go_loopw [33] (fun v wr => ∃ i, v = .int .i64 (i : Nat) ∧ i ≤ H ∧ NwInv w p gF gL N H i wr) (fun v _ => H - (intOf v).toNat)
    case atStart => exact ⟨0, rfl, Nat.zero_le _, HI.out⟩
    case round =>
      clear HI
      obtain ⟨i, rfl, hi, hinv⟩ := hrel
      have HI := Lib.hid hinv
      have hb := hinv.box
      by_cases hlt : i < H
      · have hlt' : (i : Int) < (H : Int) := by omega
        have i0 : (0 : Int) ≤ (i : Int) := by omega
        have wi : IntKind.i64.wrap ((i : Int) + 1) = (i : Int) + 1 := IntWalk.i64_in _ (by omega)
        have wi0 : IntKind.i64.wrap (i : Int) = (i : Int) := IntWalk.i64_in _ (by omega)
        have wu : IntKind.u32.wrap ((i : Int) + 1) = (i : Int) + 1 := by have := u32_of (i + 1) (by omega); simpa using this
        have HR := Lib.hid (hinv.ring i)
        have HNx := Lib.hid (hinv.next hlt)
        obtain ⟨r, hr⟩ : ∃ r, N + i = r := ⟨_, rfl⟩
        rw [hr] at HR HNx
        have hrl : r < N + H := by omega
        obtain ⟨q0, q1, q2⟩ := fldC_at hinv.fld (i := r) (by rw [newF_length]; exact hrl)
        have g0 := frozen_of_row wr gF (r * 3) _ _ hinv.fld
        have g1 := frozen_of_row wr gF (r * 3 + 1) _ _ hinv.fld
        have g2 := frozen_of_row wr gF (r * 3 + 2) _ _ hinv.fld
        have hX : gF < wr.heap.size := lt_of_block hinv.fld
        obtain ⟨M, hM⟩ : ∃ M, N + H = M := ⟨_, rfl⟩
        rw [hM] at hb hrl
        have hMb : M ≤ 4198400 := by omega
        have dr : decide (r < M) = true := decide_eq_true hrl
        clear hinv hr hM
        have hb_0 := cell_of_row _ _ 0 _ _ _ hb; have hb_1 := cell_of_row _ _ 1 _ _ _ hb; have hb_2 := cell_of_row _ _ 2 _ _ _ hb; have hb_f := (fun j => frozen_of_row _ _ j _ _ hb); have hb_l := lt_of_block hb; simp at hb_0 hb_1 hb_2; have H_hb := Lib.hid hb; clear hb
        go_wp2_with (go_at_call 87; refine Calls.mono HR.out ?_; rintro e w' he; obtain ⟨rfl, rfl⟩ := he (by omega) (by omega))
        go_roundw
        case rel => exact ⟨i + 1, by go_num, hlt, by have := HNx.out; simpa using this⟩
        case measure => simp [intOf]; omega
      · have e : H = i := by omega
        subst e
        have hend : LkAt wr (fun k => k = p ∨ k = gF ∨ k = gL) p N (List.replicate H []) := ⟨gF, gL, N + H, H, newF N H H, ⟨by rw [newF_length, List.length_replicate]; exact hinv.box, hinv.fld, hinv.len, newOk N H, hN, hN2, by rw [List.length_replicate]; exact hH2⟩, fun k => Iff.rfl⟩
        have HE := Lib.hid hend
        clear hend hinv hlt hi hb
        go_wp2
        go_ret2
        exact ⟨p, _, rfl, HE.out, HI.out.pu, fun k hk => by rcases hk with rfl | rfl | rfl; exact HI.out.fp; exact HI.out.fF; exact HI.out.fL⟩
end Go.Proofs.YtlalpenfgkfkpaaGreatDoor
