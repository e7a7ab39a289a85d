/- Lemmas and contracts of functions, strung together out of 13 texts. No condition. -/
import Derived.Test.YtlalpenfgkfkpaaDoorJPfCascadePlays2
import Derived.Carry
import Derived.ChangeSlices
import Derived.Deep.Strs
import Derived.Lib.SmallJoins
import Derived.ChangeArms
import Derived.Test.YtlalpenfgkfkpaaDoorJPfCascadePlays1
import Derived.Test.YtlalpenfgkfkpaaDoorProg
import Derived.Handy
import Derived.RangeFuncNested
import Derived.RangeFuncBound
import Derived.RangeFuncCalls
import Derived.RangeFuncLeaves
import Derived.Shelf.Abstract
import Derived.Shelf.RegionOpen
import Derived.OwnWalkIn
import Derived.TacticsInMore
import Derived.LoopNIn
import Derived.LoopIn
/- A row's last step for a law: it answers true and has turned nothing that was there; slices of integers that came in, as cells that are read. -/
namespace Go.Proofs.YtlalpenfgkfkpaaDoor
open Go.ChangeShapes Go.WideShapes Go.ChangeAt Go.RowKit

theorem laidA : laidOutB Tryd.prog = true := by kernel_rfl
theorem trodAll_stays {H : Type} {enc : TypeId × Value → H} {P : Program} {W W' : World} {sp : Nat → Bool} (hl : laidOutB P = true) : ∀ (ts : List TypeId) (vs : List Value) (ds : List (DataW H)) (ps : List MemPlace),
    (ts.all fun t => P.readableRec t && decide (t < P.types.size)) = true → DataW.TrodAll enc P W 0 (fun _ => true) true ts vs ds ps → (∀ x ∈ ps, W.sameAt W' x) → (∀ x ∈ ps, sp x.block = true) → DataW.TrodAll enc P W' 0 sp true ts vs ds ps
  | [], [], [], ps, _, h, _, _ => h
  | t :: ts, v :: vs, d :: ds, ps, ht, h, hs, hp => by
    obtain ⟨p, q, h1, h2, rfl⟩ := h
    simp only [List.all_cons, Bool.and_eq_true, decide_eq_true_eq] at ht
    exact ⟨p, q, WideElems.Trod_stays hl ht.1.1 ht.1.2 h1 (fun x hx => hs x (List.mem_append_left _ hx)) (fun x hx => hp x (List.mem_append_left _ hx)),
      trodAll_stays hl ts vs ds q ht.2 h2 (fun x hx => hs x (List.mem_append_right _ hx)) (fun x hx => hp x (List.mem_append_right _ hx)), rfl⟩
  | [], _ :: _, _, _, _, h, _, _ => h.elim
  | [], [], _ :: _, _, _, h, _, _ => h.elim
  | _ :: _, [], _, _, _, h, _, _ => h.elim
  | _ :: _, _ :: _, [], _, _, h, _, _ => h.elim

/-- THE LAST STEP: the law has answered true, nothing that was there has turned. -/
theorem post_of_law {H : Type} {enc : TypeId × Value → H} {P : Program} {f : Func} {s : ChangeSpec} {fresh handsOn again : Bool} {W W' : World} {args : Array Value} {ds gs : List (DataW H)} {before : List MemPlace} {tb : TypeId}
    (hl : laidOutB P = true) (hts : (f.params.toList.all fun t => P.readableRec t && decide (t < P.types.size)) = true) (hv : s.vars = []) (hrt : f.resultTypes = #[tb]) (htb : P.underlying tb = some .bool)
    (hW : DataW.Whole enc P f.params.toList s.vars false W args.toList ds gs before) (hspec : s.fn H (ds ++ []) = { results := [.lit (.bool true)], args := ds }) (hm : Pure W W') :
    s.post enc P f false fresh handsOn again W args (.bool true) W' := by
  have hW' := hW
  obtain ⟨p, q, hA, hV, rfl, hfz, hnd⟩ := hW
  have hb : Below W.heap.size W W' := hm.below (fun _ _ h => h)
  rw [hv] at hV
  obtain ⟨rfl, rfl⟩ := trodVars_none hV
  have hlt : ∀ x ∈ p, x.block < W.heap.size := fun x hx => hW'.lt x (List.mem_append_left _ hx)
  refine post_of_pure (pa := p) (pv := []) hW' ?_ ?_ ?_ rfl hm ?_
  · intro b sp hd
    rw [hspec, hrt]
    exact trodAll_cons_mk (shut_bool htb _) trodAll_mk0
  · intro sp hsp
    rw [hspec]
    exact trodAll_stays hl _ _ _ _ hts hA (fun x hx => hb.same (hlt x hx)) (fun x hx => hsp x (List.mem_append_left _ hx))
  · intro sp _
    rw [hv, hspec]
    rfl
  · exact ok_one hrt rfl (okWide_bool_mk htb _)

/-- A slice of integers that came in. -/
theorem open_ints_read {H : Type} {enc : TypeId × Value → H} {P : Program} {W : World} {base : Nat} {sp : Nat → Bool} {held : Bool} {r : Reach} {b0 : Nat} {t e : TypeId} {k : IntKind} {v : Value} {d : DataW H} {p : List MemPlace}
    (ht : P.underlying t = some (.slice e)) (he : P.underlying e = some (.int k)) (hc : P.cellsOf e = 1) (hv : Value.okWide P W r b0 t v) (h : DataW.Trod enc P W base sp held t v d p) :
    ∃ (a : Option Addr) (n c : Nat) (zs : List Int), v = .slice a n c ∧ n ≤ c ∧ c ≤ maxLen ∧ zs.length = n ∧ ReadAt W (.slice a n c) 1 (zs.map (Value.int k)) ∧ (∀ z ∈ zs, (Lit.int k z).wf = true) := by
  obtain ⟨a0, n0, c0, rfl⟩ := okWide_slice ht hv
  obtain ⟨fuel, hf⟩ := h
  rcases open_ints ht he hc hf with ⟨hcs, _⟩ | ⟨a, n, c, zs, hcs, _, hl, hm, hz, _, hcell, hw⟩
  · simp [Value.cells] at hcs
    obtain ⟨rfl, rfl, rfl⟩ := hcs
    exact ⟨none, 0, 0, [], rfl, Nat.le_refl _, Nat.zero_le _, rfl, ReadAt.nil _ _, by simp⟩
  · simp [Value.cells] at hcs
    obtain ⟨rfl, rfl, rfl⟩ := hcs
    have hlz : n0 ≤ zs.length := by rw [hz]; split <;> omega
    refine ⟨some a, n0, c0, zs.take n0, rfl, hl, hm, by rw [List.length_take]; omega, ⟨some a, n0, c0, rfl, by simp; omega, ?_, (fun h => by cases h), ?_⟩, fun z hz => hw z (List.mem_of_mem_take hz)⟩
    · intro u hu
      obtain ⟨_, _, rfl⟩ := List.mem_map.1 hu
      rfl
    · intro ad ha j u hu
      cases ha
      rw [List.getElem?_map] at hu
      cases e : (zs.take n0)[j]? with
      | none => rw [e] at hu; cases hu
      | some z =>
        rw [e] at hu
        cases hu
        rw [List.getElem?_take] at e
        split at e
        · rename_i hj
          rw [hcell j (by omega)]
          simp [List.getD, e]
        · cases e
/-- .. of a kind without a sign, as natural numbers. -/
theorem open_u32s {H : Type} {enc : TypeId × Value → H} {P : Program} {W : World} {base : Nat} {sp : Nat → Bool} {held : Bool} {r : Reach} {b0 : Nat} {t e : TypeId} {v : Value} {d : DataW H} {p : List MemPlace}
    (ht : P.underlying t = some (.slice e)) (he : P.underlying e = some (.int .u32)) (hc : P.cellsOf e = 1) (hv : Value.okWide P W r b0 t v) (h : DataW.Trod enc P W base sp held t v d p) :
    ∃ (a : Option Addr) (c : Nat) (gs : List Nat), v = .slice a gs.length c ∧ gs.length ≤ 9223372036854775807 ∧ ReadAt W (.slice a gs.length c) 1 (gs.map (fun x : Nat => (.int .u32 x : Value))) ∧ (∀ z ∈ gs, z ≤ 4294967295) := by
  obtain ⟨a, n, c, zs, rfl, h1, h2, rfl, h3, h4⟩ := open_ints_read ht he hc hv h
  have hw : ∀ z ∈ zs, 0 ≤ z ∧ z ≤ 4294967295 := fun z hz => by
    have := h4 z hz
    simp [Lit.wf, IntKind.min, IntKind.max, IntKind.signed, IntKind.bits] at this
    omega
  have e : (zs.map Int.toNat).map (fun x : Nat => (.int .u32 x : Value)) = zs.map (Value.int .u32) := by
    rw [List.map_map]
    refine List.map_congr_left (fun z hz => ?_)
    have := hw z hz
    simp only [Function.comp]
    rw [Int.toNat_of_nonneg this.1]
  have hlen : (zs.map Int.toNat).length = zs.length := by simp
  refine ⟨a, c, zs.map Int.toNat, by rw [hlen], by rw [hlen]; unfold maxLen at h2; omega, by rw [e, hlen]; exact h3, fun z hz => ?_⟩
  obtain ⟨y, hy, rfl⟩ := List.mem_map.1 hz
  have := hw y hy
  omega
end Go.Proofs.YtlalpenfgkfkpaaDoor

/- Slices of unsigned integers that came in, as natural numbers that are read. -/
namespace Go.Proofs.YtlalpenfgkfkpaaDoor
open Go.ChangeShapes Go.WideShapes Go.ChangeAt Go.RowKit

theorem open_nats {H : Type} {enc : TypeId × Value → H} {P : Program} {W : World} {base : Nat} {sp : Nat → Bool} {held : Bool} {r : Reach} {b0 : Nat} {t e : TypeId} {k : IntKind} {v : Value} {d : DataW H} {p : List MemPlace} (M : Nat)
    (hk : ∀ z : Int, (Lit.int k z).wf = true → 0 ≤ z ∧ z < M)
    (ht : P.underlying t = some (.slice e)) (he : P.underlying e = some (.int k)) (hc : P.cellsOf e = 1) (hv : Value.okWide P W r b0 t v) (h : DataW.Trod enc P W base sp held t v d p) :
    ∃ (a : Option Addr) (c : Nat) (gs : List Nat), v = .slice a gs.length c ∧ gs.length ≤ 9223372036854775807 ∧ ReadAt W (.slice a gs.length c) 1 (gs.map (fun x : Nat => (.int k x : Value))) ∧ (∀ z ∈ gs, z < M) := by
  obtain ⟨a, n, c, zs, rfl, h1, h2, rfl, h3, h4⟩ := open_ints_read ht he hc hv h
  have hw : ∀ z ∈ zs, 0 ≤ z ∧ z < M := fun z hz => hk z (h4 z hz)
  have e : (zs.map Int.toNat).map (fun x : Nat => (.int k x : Value)) = zs.map (Value.int k) := by
    rw [List.map_map]
    refine List.map_congr_left (fun z hz => ?_)
    have := hw z hz
    simp only [Function.comp]
    rw [Int.toNat_of_nonneg this.1]
  have hlen : (zs.map Int.toNat).length = zs.length := by simp
  refine ⟨a, c, zs.map Int.toNat, by rw [hlen], by rw [hlen]; unfold maxLen at h2; omega, by rw [e, hlen]; exact h3, fun z hz => ?_⟩
  obtain ⟨y, hy, rfl⟩ := List.mem_map.1 hz
  have := hw y hy
  omega
theorem wf_u64 (z : Int) (h : (Lit.int .u64 z).wf = true) : 0 ≤ z ∧ z < (18446744073709551616 : Nat) := by
  simp [Lit.wf, IntKind.min, IntKind.max, IntKind.signed, IntKind.bits] at h
  omega
theorem wf_u8 (z : Int) (h : (Lit.int .u8 z).wf = true) : 0 ≤ z ∧ z < (256 : Nat) := by
  simp [Lit.wf, IntKind.min, IntKind.max, IntKind.signed, IntKind.bits] at h
  omega
end Go.Proofs.YtlalpenfgkfkpaaDoor

/- What is timed, that came in. -/
namespace Go.Proofs.YtlalpenfgkfkpaaDoor
open Go.ChangeShapes Go.WideShapes Go.ChangeAt Go.RowKit Go.Deep Go.Joins
set_option maxRecDepth 100000
theorem wf_u32 (z : Int) (h : (Lit.int .u32 z).wf = true) : 0 ≤ z ∧ z < (4294967296 : Nat) := by
  simp [Lit.wf, IntKind.min, IntKind.max, IntKind.signed, IntKind.bits] at h
  omega
theorem td_of {H : Type} {enc : TypeId × Value → H} {W : World} {base : Nat} {sp : Nat → Bool} {held : Bool} {r : Reach} {b0 : Nat} {v : Value} {d : DataW H} {p : List MemPlace} (hv : Value.okWide Tryd.prog W r b0 31 v) (h : DataW.Trod enc Tryd.prog W base sp held 31 v d p) :
    ∃ s dl b : Nat, v = .agg #[.int .u32 s, .int .u64 dl, .int .u64 b] ∧ s < 4294967296 ∧ dl < 18446744073709551616 ∧ b < 18446744073709551616 := by
  obtain ⟨cs, rfl, hsz⟩ := okWide_struct Tryd.underlying31 hv
  obtain ⟨fuel, hf⟩ := h
  have e3 : (Tryd.prog).cellsOf 31 = 3 := by kernel_rfl
  rw [e3] at hsz
  obtain ⟨c0, c1, c2, rfl⟩ := array3 hsz
  obtain ⟨y0, y1, y2, n, _, _, t0, t1, t2⟩ := trod_struct3 Tryd.underlying31 hf
  have k0 : (Tryd.prog).cellsOf 29 = 1 := by kernel_rfl
  have k1 : (Tryd.prog).cellsOf 23 = 1 := by kernel_rfl
  have k2 : (Tryd.prog).cellsOf 22 = 1 := by kernel_rfl
  simp only [k0, k1, k2, Value.cells, List.drop, List.take] at t0 t1 t2
  obtain ⟨z0, f0, _, w0⟩ := DataW.trod_int Tryd.underlying29 t0
  obtain ⟨z1, f1, _, w1⟩ := DataW.trod_int Tryd.underlying23 t1
  obtain ⟨z2, f2, _, w2⟩ := DataW.trod_int Tryd.underlying22 t2
  cases f0; cases f1; cases f2
  have g0 := wf_u32 _ w0
  have g1 := wf_u64 _ w1
  have g2 := wf_u64 _ w2
  refine ⟨z0.toNat, z1.toNat, z2.toNat, ?_, by omega, by omega, by omega⟩
  rw [Int.toNat_of_nonneg g0.1, Int.toNat_of_nonneg g1.1, Int.toNat_of_nonneg g2.1]
end Go.Proofs.YtlalpenfgkfkpaaDoor

/- word and control: each function on the lanes of its word. -/
namespace Go.Proofs.YtlalpenfgkfkpaaDoor
open Go.RowKit
set_option maxRecDepth 100000

theorem u64_mod (n : Nat) : IntKind.u64.wrap (n : Int) = ((n % 18446744073709551616 : Nat) : Int) := by
  simp [IntKind.wrap, IntKind.signed, IntKind.bits]
theorem tz_table (s : ByteArray) (hs : s.size = 256) (h : ∀ k (hk : k < 256), wrap64 ((s[k]'(by omega)).toNat : Int) = lane1 k) (m : Nat) (hm : m < 256) (hms : m < s.size) : wrap64 ((s[m]'hms).toNat : Int) = lane1 m := h m hm
theorem pow_lane (j : Nat) (hj : j < 8) (b : Nat) (hb : b < 256) : b * 2 ^ (8 * j) < 18446744073709551616 := by
  have : 2 ^ (8 * j) ≤ 2 ^ 56 := Nat.pow_le_pow_right (by decide) (by omega)
  have : b * 2 ^ (8 * j) ≤ 255 * 2 ^ 56 := Nat.mul_le_mul (by omega) this
  omega
/-! ### control -/
/-- The lanes of a group: tags, empty ones and deleted ones. -/
def Group (l : List Nat) : Prop := l.length = 8 ∧ ∀ c ∈ l, c < 128 ∨ c = 128 ∨ c = 254
theorem Group.bytes {l : List Nat} (h : Group l) : Bytes8 l := ⟨h.1, fun c hc => by have := h.2 c hc; omega⟩
/-- What Erase puts into a lane. -/
def erased (l : List Nat) : Nat := if l.any (· == 128) then 128 else 254
end Go.Proofs.YtlalpenfgkfkpaaDoor

/- A law for a range over a function, at an outermost loop of a fence without a list, for an iterator of one's own contract (IterOk). -/
namespace Go.Proofs.YtlalpenfgkfkpaaDoor
open Go.RowKit Go.Shelf

/-! ## A range over a function -/
@[go_sem] theorem wide_fn (f : Nat) : Fence.wide.fn f = True := rfl
@[go_sem] theorem wide_depth : Fence.wide.depth = none := rfl
@[go_sem] theorem wide_round : Fence.wide.round = none := rfl

/-- From A to B only new blocks that hold no cells (numbers from N on) may have turned. -/
def Quiet (N : Nat) (A B : World) : Prop := Mod (fun k => N ≤ k ∧ ∃ o, A.heap[k]? = some o ∧ o.isCells = false) A B
theorem Quiet.of_pure {N : Nat} {A B : World} (h : Pure A B) : Quiet N A B := Mod.of_pure h
theorem Quiet.putObj {N : Nat} {A : World} {l : Nat} {o : Obj} (o' : Obj) (hN : N ≤ l) (hl : A.heap[l]? = some o) (ho : o.isCells = false) : Quiet N A (A.putObj l o') :=
  ⟨rfl, rfl, rfl, by simp, fun k _ hn => World.putObj_heap_other (fun e => hn (by subst e; exact ⟨hN, o, hl, ho⟩))⟩
theorem Quiet.cells {N : Nat} {A B : World} (h : Quiet N A B) {k : Nat} {cs : Array Value} {T : TypeId} {fz : Nat × Nat} (hc : A.heap[k]? = some (.cells cs T fz)) : B.heap[k]? = some (.cells cs T fz) :=
  Mod.heap h (fun ⟨_, o, ho, hn⟩ => by rw [hc] at ho; cases ho; cases hn) hc
theorem Quiet.cell {N : Nat} {A B : World} (h : Quiet N A B) {a : Addr} {v : Value} (hc : A.cell? a = some v) : B.cell? a = some v := by
  refine Mod.cell h ?_ hc
  rintro ⟨_, o, ho, hn⟩
  unfold World.cell? at hc
  rw [ho] at hc
  cases o <;> simp_all [Obj.isCells]
theorem Quiet.owns {N : Nat} {A B : World} (h : Quiet N A B) {T k : Nat} {v : Value} {n : Nat} {xs : List Value} (ho : A.ownsRow 0 T k v n xs) : B.ownsRow 0 T k v n xs :=
  owns_mod ho h (fun g hg hs => by
    obtain ⟨c, e⟩ := owns_type ho hg
    obtain ⟨_, o, ho, hn⟩ := hs
    rw [e] at ho; cases ho; cases hn)
theorem Quiet.mod {N : Nat} {S : Nat → Prop} {w A B : World} (h : Quiet N A B) (hm : Mod S w A) (hN : w.heap.size ≤ N) : Mod S w B :=
  hm.then h (fun i hi hk => by have := hk.1; omega)

/-- A round keeps the records: blocks from N on that hold no cells. -/
def KeepsRec (N : Nat) (A B : World) : Prop := ∀ k o, N ≤ k → A.heap[k]? = some o → o.isCells = false → B.heap[k]? = some o
theorem KeepsRec.of_mod {N : Nat} {S : Nat → Prop} {A B : World} (h : Mod S A B) (hS : ∀ k, N ≤ k → S k → ∀ o, A.heap[k]? = some o → o.isCells = true) : KeepsRec N A B :=
  fun k o hk ho hn => h.heap (fun hs => by have := hS k hk hs o ho; rw [this] at hn; cases hn) ho

/-- What a round has to leave of the iterator's own blocks. -/
def KeepsIt (It : Nat → Prop) (A B : World) : Prop := A.heap.size ≤ B.heap.size ∧ ∀ k, It k → k < A.heap.size → B.heap[k]? = A.heap[k]?
theorem KeepsIt.of_mod {It S : Nat → Prop} {A B : World} (h : Mod S A B) (hS : ∀ k, It k → ¬ S k) : KeepsIt It A B := ⟨h.size, fun k hk hlt => h.block k hlt (hS k hk)⟩
theorem KeepsIt.trans {It : Nat → Prop} {A B C : World} (h : KeepsIt It A B) (k : KeepsIt It B C) : KeepsIt It A C := ⟨Nat.le_trans h.1 k.1, fun i hi hlt => (k.2 i hi (Nat.lt_of_lt_of_le hlt h.1)).trans (h.2 i hi hlt)⟩
theorem KeepsIt.of_pure {It : Nat → Prop} {A B : World} (h : Pure A B) : KeepsIt It A B := KeepsIt.of_mod h (fun _ _ h => h)

/-- THE CONTRACT OF AN ITERATOR (function gf, captured lb) in the world w: its blocks are It; of the x that it hands over behind pre it promises G; all that it hands over meets S; it makes new blocks alone. -/
def IterOk (P : Program) {α : Type} (gf : Nat) (lb : Array Value) (encs : α → Array Value) (It : Nat → Prop) (G : List α → α → World → Prop) (S : List α → Prop) (w : World) : Prop :=
  ∀ (l : Nat) (J Jx : List α → World → Prop) (W : World), Pure w W → (∀ pre A B, J pre A → Pure A B → J pre B) → (∀ pre A B, Jx pre A → Pure A B → Jx pre B) →
    (∀ pre x W1, J pre W1 → G pre x W1 → YieldAt Fence.wide 0 P l (encs x) W1 fun e W' =>
      (e = .returned (.bool true) ∧ J (pre ++ [x]) W' ∧ KeepsIt It W1 W') ∨ (e = .returned (.bool false) ∧ Jx (pre ++ [x]) W')) →
    J [] W →
    CallsIn Fence.wide 0 P gf (#[.func (.yield l) #[] #[]] ++ lb) W fun e W' => (∃ v, e = .returned v) ∧ ((∃ xs, S xs ∧ J xs W') ∨ (∃ pre, Jx pre W'))

/-- HOW THE BODY OF A ROUND MAY BE LEFT. -/
def roundEnd {α : Type} (N : Nat) (It : Nat → Prop) (I : List α → World → Prop) (Ix : Code → List α → World → Prop) (xs : List α) (W : World) : Exit → Act → World → Prop
  | .normal, _, W' => KeepsRec N W W' ∧ KeepsIt It W W' ∧ I xs W'
  | .ret, _, W' => KeepsRec N W W' ∧ Ix .ret xs W'
  | .exit id, _, W' => KeepsRec N W W' ∧ Ix (.exit id) xs W'
  | .goto t, _, W' => KeepsRec N W W' ∧ Ix (.goto t) xs W'
  | .panic _, _, _ => False
  | .outgrown, _, _ => False

variable {P : Program}

/-- THE LAW, at an outermost loop. -/
theorem wp_range {α : Type} {g : Operand} {ps : Array Tmp} {assign body : Code} {Q : Exit → Act → World → Prop} {a : Act} {w : World}
    {gf : Nat} {lb : Array Value} (hg : a.eval g = .func (.func gf) #[] lb) (eg : ∀ args w, (callFunc gf args).run P w = .ok (.enter gf args) w)
    {encs : α → Array Value} {It : Nat → Prop} {G : List α → α → World → Prop} {S : List α → Prop} (hit : IterOk P gf lb encs It G S w) (hItlt : ∀ k, It k → k < w.heap.size)
    (hps : ∀ x, (encs x).size = ps.size)
    (I : List α → World → Prop) (Ix : Code → List α → World → Prop) (hI : ∀ pre A B, I pre A → Quiet w.heap.size A B → I pre B) (hIx : ∀ c pre A B, Ix c pre A → Quiet w.heap.size A B → Ix c pre B) (h0 : I [] w)
    (Ax : List α → α → Act → World → Prop) (hAx : ∀ pre x a' A B, Ax pre x a' A → Quiet w.heap.size A B → Ax pre x a' B)
    (hassign : ∀ (l : Nat) (pre : List α) (x : α) (W : World) (K : Act → World → Prop), I pre W → G pre x W → (∀ a' W', Pure W W' → Ax pre x a' W' → K a' W') →
      assign.wpIn (Fence.wide.inRound l) 0 P (Exit.then K (fun _ _ _ => False)) { tmps := (ps.zip (encs x)).foldl (fun t (p, v) => t.setIfInBounds p v) a.tmps, defers := [] } W)
    (hbody : ∀ (l : Nat) (pre : List α) (x : α) (a' : Act) (W : World), w.heap.size ≤ l → (∃ r, W.heap[l]? = some (.loop r)) → Ax pre x a' W →
      body.wpIn (Fence.wide.inRound l) 0 P (roundEnd w.heap.size It I Ix (pre ++ [x]) W) a' W)
    (hdone : ∀ (D : Nat) (xs : List α) (W : World), w.heap.size ≤ D → S xs → I xs W → W.heap[D]? = some (.deferred (some [])) → Q .normal { a with defers := { target := .collected D, args := #[] } :: a.defers } W)
    (hstop : ∀ (D : Nat) (c : Code) (pre : List α) (W : World), w.heap.size ≤ D → Ix c pre W → W.heap[D]? = some (.deferred (some [])) → c.wpIn Fence.wide 0 P Q { a with defers := { target := .collected D, args := #[] } :: a.defers } W) :
    (Code.rangeFunc g ps assign body).wpIn Fence.wide 0 P Q a w := by
  refine wpIn_rangeFunc ?_
  intro fn hfn
  obtain ⟨rec, hrec⟩ : ∃ rec : LoopState → Option Code → Loop, rec = fun st pe => { state := st, pending := pe, fn, tmps := a.tmps, params := ps, assign, body, defers := w.heap.size } := ⟨_, rfl⟩
  obtain ⟨W1, hW1⟩ : ∃ W1, (w.alloc (.deferred (some []))).alloc (.loop (rec .ready none)) = W1 := ⟨_, rfl⟩
  have hL1 : W1.heap[w.heap.size + 1]? = some (.loop (rec .ready none)) := by rw [← hW1]; exact heap_new (by simp)
  have hK1 : W1.heap[w.heap.size]? = some (.deferred (some [])) := by rw [← hW1]; exact heap_keep (heap_new rfl)
  have hP1 : Pure w W1 := by rw [← hW1]; exact ((Mod.refl _ w).alloc _).alloc _
  have hI1 : I [] W1 := hI _ _ _ h0 (Quiet.of_pure hP1)
  refine ⟨w.heap.size + 1, [{ target := .collected w.heap.size, args := #[] }], W1, { target := .fn (.func gf) lb, args := #[.func (.yield (w.heap.size + 1)) #[] #[]] }, W1, gf,
    #[.func (.yield (w.heap.size + 1)) #[] #[]] ++ lb, W1, ?_, ?_, fun _ _ => trivial, ?_, (fun h => by cases h), ?_⟩
  · rw [← hW1, hrec]; exact run_enterLoop_outer _ _ _ _ _
  · simp only [resolve, hg]
    simp [go_sem]
  · simp [invoke, go_sem, eg]
  · refine (hit (w.heap.size + 1)
      (fun pre W => I pre W ∧ W.heap[w.heap.size + 1]? = some (.loop (rec .ready none)) ∧ W.heap[w.heap.size]? = some (.deferred (some [])) ∧ w.heap.size ≤ W.heap.size)
      (fun pre W => ∃ c, Ix c pre W ∧ W.heap[w.heap.size + 1]? = some (.loop (rec .done (some c))) ∧ W.heap[w.heap.size]? = some (.deferred (some [])))
      W1 hP1
      (fun pre A B hs hp => ⟨hI _ _ _ hs.1 (Quiet.of_pure hp), hp.heap (fun h => h) hs.2.1, hp.heap (fun h => h) hs.2.2.1, Nat.le_trans hs.2.2.2 hp.size⟩)
      (fun pre A B hs hp => by
        obtain ⟨c, hc, hl, hk⟩ := hs
        exact ⟨c, hIx _ _ _ _ hc (Quiet.of_pure hp), hp.heap (fun h => h) hl, hp.heap (fun h => h) hk⟩)
      ?_ ⟨hI1, hL1, hK1, hP1.size⟩).mono ?_
    · rintro pre x W ⟨hi, hl, hk, hsz⟩ hGx
      have hlt : w.heap.size + 1 < W.heap.size := (Array.getElem?_eq_some_iff.1 hl).1
      have hy := run_yield (P := P) (args := encs x) hl (by rw [hrec]; exact hps x)
      rw [hrec] at hy
      refine ⟨fn, _, assign, body, hy, roundIn_of_wpIn hfn (hassign _ pre x W _ hi hGx ?_)⟩
      clear hy
      intro a' Wa hpa hax
      have hla : Wa.heap[w.heap.size + 1]? = _ := hpa.heap (fun h => h) hl
      have hka : Wa.heap[w.heap.size]? = _ := hpa.heap (fun h => h) hk
      have hlta : w.heap.size + 1 < Wa.heap.size := (Array.getElem?_eq_some_iff.1 hla).1
      refine ⟨_, run_beginRound hla (by rw [hrec]), ?_⟩
      have hq2 : Quiet w.heap.size Wa (Wa.putObj (w.heap.size + 1) (.loop { rec .ready none with state := .busy })) := Quiet.putObj _ (by omega) hla rfl
      have hl2 : (Wa.putObj (w.heap.size + 1) (.loop { rec .ready none with state := .busy })).heap[w.heap.size + 1]? = some (.loop { rec .ready none with state := .busy }) := World.putObj_heap_same hlta
      have hk2 : (Wa.putObj (w.heap.size + 1) (.loop { rec .ready none with state := .busy })).heap[w.heap.size]? = some (.deferred (some [])) := (World.putObj_heap_other (by omega)).trans hka
      have ha2 := hAx _ _ _ _ _ hax hq2
      have hit2 : KeepsIt It W (Wa.putObj (w.heap.size + 1) (.loop { rec .ready none with state := .busy })) :=
        (KeepsIt.of_pure hpa).trans ⟨by simp, fun k hk _ => World.putObj_heap_other (by have := hItlt k hk; omega)⟩
      refine wpIn_mono (hbody _ pre x a' _ (by omega) ⟨_, hl2⟩ ha2) ?_
      have fin : ∀ (jump : Option Code) (W3 : World), KeepsRec w.heap.size (Wa.putObj (w.heap.size + 1) (.loop { rec .ready none with state := .busy })) W3 →
          (Instr.endRound (w.heap.size + 1) jump).run P W3 = .ok (.bool jump.isNone) (W3.putObj (w.heap.size + 1) (.loop (rec (if jump.isNone then .ready else .done) jump))) ∧
          W3.heap[w.heap.size + 1]? = some (.loop { rec .ready none with state := .busy }) ∧
          (W3.putObj (w.heap.size + 1) (.loop (rec (if jump.isNone then .ready else .done) jump))).heap[w.heap.size + 1]? = some (.loop (rec (if jump.isNone then .ready else .done) jump)) ∧
          (W3.putObj (w.heap.size + 1) (.loop (rec (if jump.isNone then .ready else .done) jump))).heap[w.heap.size]? = some (.deferred (some [])) := fun jump W3 hk3 => by
        have hl3 := hk3 _ _ (by omega) hl2 rfl
        have := run_endRound (P := P) jump hl3
        rw [hrec] at this ⊢
        exact ⟨this, by rw [hrec] at hl3; exact hl3, World.putObj_heap_same (Array.getElem?_eq_some_iff.1 hl3).1, (World.putObj_heap_other (by omega)).trans (hk3 _ _ (Nat.le_refl _) hk2 rfl)⟩
      rintro e a3 W3 hp
      cases e with
      | normal =>
        obtain ⟨hk3, hkp3, hi3⟩ := hp
        obtain ⟨hr, hl3, hl4, hk4⟩ := fin none W3 hk3
        have hlt3 : w.heap.size + 1 < W3.heap.size := (Array.getElem?_eq_some_iff.1 hl3).1
        exact ⟨_, _, hr, .inl ⟨rfl, ⟨hI _ _ _ hi3 (Quiet.putObj _ (by omega) hl3 rfl), hl4, hk4, by simp; omega⟩,
          (hit2.trans hkp3).trans ⟨by simp, fun k hk _ => World.putObj_heap_other (by have := hItlt k hk; omega)⟩⟩⟩
      | ret =>
        obtain ⟨hk3, hi3⟩ := hp
        obtain ⟨hr, hl3, hl4, hk4⟩ := fin (some .ret) W3 hk3
        exact ⟨_, _, hr, .inr ⟨rfl, .ret, hIx _ _ _ _ hi3 (Quiet.putObj _ (by omega) hl3 rfl), hl4, hk4⟩⟩
      | exit id =>
        obtain ⟨hk3, hi3⟩ := hp
        obtain ⟨hr, hl3, hl4, hk4⟩ := fin (some (.exit id)) W3 hk3
        exact ⟨_, _, hr, .inr ⟨rfl, .exit id, hIx _ _ _ _ hi3 (Quiet.putObj _ (by omega) hl3 rfl), hl4, hk4⟩⟩
      | goto t =>
        obtain ⟨hk3, hi3⟩ := hp
        obtain ⟨hr, hl3, hl4, hk4⟩ := fin (some (.goto t)) W3 hk3
        exact ⟨_, _, hr, .inr ⟨rfl, .goto t, hIx _ _ _ _ hi3 (Quiet.putObj _ (by omega) hl3 rfl), hl4, hk4⟩⟩
      | panic ch => exact hp.elim
      | outgrown => exact hp.elim
    · rintro e W2 ⟨⟨v, rfl⟩, (⟨xs, hS, hi, hl, hk, _⟩ | ⟨pre, c, hi, hl, hk⟩)⟩
      · exact ⟨none, _, by have := run_endLoop (P := P) hl (by rw [hrec]; simp); rw [hrec] at this; exact this, hdone _ xs _ (Nat.le_refl _) hS (hI _ _ _ hi (Quiet.putObj _ (by omega) hl rfl)) ((World.putObj_heap_other (by omega)).trans hk)⟩
      · exact ⟨some c, _, by have := run_endLoop (P := P) hl (by rw [hrec]; simp); rw [hrec] at this; exact this, hstop _ c pre _ (Nat.le_refl _) (hIx _ _ _ _ hi (Quiet.putObj _ (by omega) hl rfl)) ((World.putObj_heap_other (by omega)).trans hk)⟩

/-- append at a fenced list; what is appended is read. -/
theorem wpListIn_append_read {F : Fence} {m0 : Nat} {P : Program} (w : World) {ops : Array Oper} {rest : List Oper} {o : Oper} {a : Act} {Q : Exit → Act → World → Prop} (hgd : o.guard = none) (s x : Operand) (t : TypeId)
    (ho : o.op = .call { callee := .builtin .append, args := #[s, x], argTypes := #[t, t] })
    (e : TypeId) (i : TypeInfo) (z : Value) (k bytes : Nat) (ht : P.underlying t = some (.slice e)) (hi : P.info? e = some i) (hz : i.zero = some z)
    (hsize : i.size = k) (hby : i.bytes = bytes) (hzs : z.cells.size = k) (hsz : 0 < k)
    (v : Value) (n : Nat) (xs : List Value) (hs : a.eval s = v) (hown : w.ownsRow 0 e k v n xs) (xv : Value) (ys : List Value) (m : Nat) (hxv : a.eval x = xv) (hx : ReadAt w xv k ys) (hm : ys.length = m * k)
    (h63 : n + m ≤ maxLen) (hbytes : (n + m) * bytes ≤ 140737488355328)
    (h : ∀ a' c' w', w'.ownsRow 0 e k (.slice a' (n + m) c') (n + m) (xs ++ ys) → w.grownBy w' v.ownBlock → ((Value.slice a' (n + m) c').ownBlock = v.ownBlock ∨ (Value.slice a' (n + m) c').ownBlock = some w.heap.size) → wpListIn F m0 P ops Q rest (a.put o.dst (.slice a' (n + m) c')) w') : wpListIn F m0 P ops Q (o :: rest) a w := by
  refine wpListIn_plain hgd fun K hK' => ?_
  obtain ⟨a', c', w', hr, h2, h3, h4⟩ := run_append_read (P := P) w t o.type e i z k bytes ht hi hz hsize hby hzs hsz v n xs hown xv ys m hx hm h63 hbytes
  unfold Oper.wpIn
  refine ⟨?_, ?_⟩
  · simp [Oper.about, ho, resolve, Target.leads, Sem.run_pure]
  · rw [Oper.semAt_plain F _ _ (by rw [ho]; intro c hc'; cases hc')]
    simp [execOp, ho, resolve, invoke, builtin, hs, hxv, hr, Result.andThen]
    exact hK' _ _ (h a' c' w' h2 h3 h4)
/-- A function's end behind one range over a function that nothing was deferred in. -/
theorem bodyPostM_drained {P : Program} {fn : Func} {R : Ending → World → Prop} {l : Nat} {tmps : Array Value} {w : World} (v : Value) (hK : w.heap[l]? = some (.deferred (some []))) (hr : (results fn tmps).run P (w.putObj l (.deferred none)) = .ok v (w.putObj l (.deferred none)))
    (hR : R (.returned v) (w.putObj l (.deferred none))) : bodyPostM Fence.wide 0 P fn R .ret { tmps := tmps, defers := [{ target := .collected l, args := #[] }] } w :=
  ⟨by simp, .inl ⟨_, _, rfl, run_takeDeferred hK, v, hr, hR⟩⟩
end Go.Proofs.YtlalpenfgkfkpaaDoor

/- wp_range (XRange) with the round in one piece: no relation between the assignments and the body is asked. -/
namespace Go.Proofs.YtlalpenfgkfkpaaDoor
open Go.RowKit Go.Shelf
variable {P : Program}

theorem Quiet.trans {N : Nat} {A B C : World} (h : Quiet N A B) (k : Quiet N B C) : Quiet N A C := by
  refine Mod.trans' h k (fun _ _ h => h) (fun i hi hs => ?_)
  obtain ⟨hN, o, ho, hc⟩ := hs
  refine ⟨hN, ?_⟩
  have hA : A.heap[i]? = some (A.heap[i]'hi) := Array.getElem?_eq_getElem hi
  cases hx : (A.heap[i]'hi).isCells with
  | false => exact ⟨_, hA, hx⟩
  | true =>
    have := Mod.heap h (k := i) (o := A.heap[i]'hi) (fun hs => by
      obtain ⟨_, o', ho', hc'⟩ := hs
      rw [hA] at ho'; cases ho'; rw [hx] at hc'; cases hc') hA
    rw [this] at ho; cases ho; rw [hx] at hc; cases hc
theorem Quiet.refl (N : Nat) (A : World) : Quiet N A A := Quiet.of_pure (Mod.refl _ A)

theorem wp_range2 {α : Type} {g : Operand} {ps : Array Tmp} {assign body : Code} {Q : Exit → Act → World → Prop} {a : Act} {w : World}
    {gf : Nat} {lb : Array Value} (hg : a.eval g = .func (.func gf) #[] lb) (eg : ∀ args w, (callFunc gf args).run P w = .ok (.enter gf args) w)
    {encs : α → Array Value} {It : Nat → Prop} {G : List α → α → World → Prop} {S : List α → Prop} (hit : IterOk P gf lb encs It G S w) (hItlt : ∀ k, It k → k < w.heap.size)
    (hps : ∀ x, (encs x).size = ps.size)
    (I : List α → World → Prop) (Ix : Code → List α → World → Prop) (hI : ∀ pre A B, I pre A → Quiet w.heap.size A B → I pre B) (hIx : ∀ c pre A B, Ix c pre A → Quiet w.heap.size A B → Ix c pre B) (h0 : I [] w)
    (hround : ∀ (l : Nat) (pre : List α) (x : α) (W : World) (K : Act → World → Prop), I pre W → G pre x W →
      (∀ a' W', Pure W W' → (∀ (l' : Nat) (W2 : World), w.heap.size ≤ l' → (∃ r, W2.heap[l']? = some (.loop r)) → Quiet w.heap.size W' W2 → body.wpIn (Fence.wide.inRound l') 0 P (roundEnd w.heap.size It I Ix (pre ++ [x]) W2) a' W2) → K a' W') →
      assign.wpIn (Fence.wide.inRound l) 0 P (Exit.then K (fun _ _ _ => False)) { tmps := (ps.zip (encs x)).foldl (fun t (p, v) => t.setIfInBounds p v) a.tmps, defers := [] } W)
    (hdone : ∀ (D : Nat) (xs : List α) (W : World), w.heap.size ≤ D → S xs → I xs W → W.heap[D]? = some (.deferred (some [])) → Q .normal { a with defers := { target := .collected D, args := #[] } :: a.defers } W)
    (hstop : ∀ (D : Nat) (c : Code) (pre : List α) (W : World), w.heap.size ≤ D → Ix c pre W → W.heap[D]? = some (.deferred (some [])) → c.wpIn Fence.wide 0 P Q { a with defers := { target := .collected D, args := #[] } :: a.defers } W) :
    (Code.rangeFunc g ps assign body).wpIn Fence.wide 0 P Q a w :=
  wp_range hg eg hit hItlt hps I Ix hI hIx h0
    (fun pre x a' W' => ∀ (l' : Nat) (W2 : World), w.heap.size ≤ l' → (∃ r, W2.heap[l']? = some (.loop r)) → Quiet w.heap.size W' W2 → body.wpIn (Fence.wide.inRound l') 0 P (roundEnd w.heap.size It I Ix (pre ++ [x]) W2) a' W2)
    (fun _ _ _ _ _ h hq l' W2 hl hr hq2 => h l' W2 hl hr (hq.trans hq2)) hround (fun l _ _ _ W hl hr h => h l W hl hr (Quiet.refl _ _)) hdone hstop
end Go.Proofs.YtlalpenfgkfkpaaDoor

/- probe: valid numbers of groups, the sequence, its iterator; hash.Part and Tag. -/
namespace Go.Proofs.YtlalpenfgkfkpaaDoor
open Go.RowKit Go.Shelf
set_option maxRecDepth 100000
attribute [local go_sem] Oper.semAt_some

/-- An allowed number of groups. -/
def Pow (g : Nat) : Prop := ∃ k ≤ 20, g = 2 ^ k
theorem Pow.pos {g : Nat} (h : Pow g) : 0 < g := by obtain ⟨k, _, rfl⟩ := h; exact Nat.pow_pos (by decide)
theorem Pow.le {g : Nat} (h : Pow g) : g ≤ 1048576 := by obtain ⟨k, hk, rfl⟩ := h; exact Nat.pow_le_pow_right (n := 2) (by decide) hk
/-- The group that comes at an index of a probe sequence. -/
def atM (part g i : Nat) : Nat := (part + i * (i + 1) / 2) % g
def probes (part g : Nat) : List Nat := (List.range g).map (atM part g)

theorem and_127 (s : Nat) : s &&& 127 = s % 128 := Nat.and_two_pow_sub_one_eq_mod s 7
theorem bits_and63 (a b : Nat) (ha : a < 9223372036854775808) (hb : b < 9223372036854775808) : bits .and .i64 (a : Int) (b : Int) = ((a &&& b : Nat) : Int) := by
  have h : a &&& b < 2 ^ 63 := Nat.and_lt_two_pow _ hb
  show IntKind.i64.wrap (((BitVec.ofInt 64 (a : Int) &&& BitVec.ofInt 64 (b : Int)).toNat : Nat) : Int) = _
  rw [ofInt_nat, ofInt_nat]
  rw [BitVec.toNat_and, BitVec.toNat_ofNat, BitVec.toNat_ofNat, Nat.mod_eq_of_lt (by omega), Nat.mod_eq_of_lt (by omega)]
  generalize a &&& b = c at *
  simp [IntKind.wrap, IntKind.signed, IntKind.bits]
  omega
theorem pow_and : ∀ k ≤ 20, 2 ^ k &&& (2 ^ k - 1) = 0 := by decide +kernel
theorem at_prod (i : Nat) (hi : i < 1048576) : i * (i + 1) < 1099512676352 := by
  have : i * (i + 1) ≤ 1048575 * 1048576 := Nat.mul_le_mul (by omega) (by omega)
  omega
theorem atM_and (part g i : Nat) (hg : Pow g) : (part + i * (i + 1) / 2) &&& (g - 1) = atM part g i := by
  unfold atM
  obtain ⟨k, hk, rfl⟩ := hg
  rw [Nat.and_two_pow_sub_one_eq_mod]
/-! ### iterators over numbers -/
abbrev encN (i : Nat) : Array Value := #[.int .i64 i]
/-- What is promised of an element: it is the next one. -/
def nextOf (xs : List Nat) (pre : List Nat) (x : Nat) (_ : World) : Prop := ∃ post, xs = pre ++ x :: post

structure ProbeAt (w : World) (B1 B2 B3 part g : Nat) : Prop where
  many : w.heap[B1]? = some (.cells #[.int .i64 g] 3 (0, 0))
  part : w.heap[B2]? = some (.cells #[.int .u64 part] 22 (0, 0))
  grps : w.heap[B3]? = some (.cells #[.int .i64 g] 3 (0, 0))
def probeBlocks (B1 B2 B3 k : Nat) : Prop := k = B1 ∨ k = B2 ∨ k = B3
theorem ProbeAt.keeps {w w' : World} {B1 B2 B3 part g : Nat} (h : ProbeAt w B1 B2 B3 part g) (hk : KeepsIt (probeBlocks B1 B2 B3) w w') : ProbeAt w' B1 B2 B3 part g :=
  ⟨(hk.2 B1 (.inl rfl) (lt_of_block h.many)).trans h.many, (hk.2 B2 (.inr (.inl rfl)) (lt_of_block h.part)).trans h.part, (hk.2 B3 (.inr (.inr rfl)) (lt_of_block h.grps)).trans h.grps⟩

theorem drop_cons2 {α : Type} {L : List α} {n : Nat} {a : α} (h : L[n]? = some a) : L.drop n = a :: L.drop (n + 1) := by
  obtain ⟨hlt, rfl⟩ := List.getElem?_eq_some_iff.1 h
  exact List.drop_eq_getElem_cons hlt
theorem take_next {α : Type} {L : List α} {n : Nat} {a : α} (h : L[n]? = some a) : L.take (n + 1) = L.take n ++ [a] := by
  obtain ⟨hlt, rfl⟩ := List.getElem?_eq_some_iff.1 h
  rw [List.take_succ_eq_append_getElem hlt]
def probeInv (J : List Nat → World → Prop) (B1 B2 B3 part g : Nat) (k : Value) (wr : World) : Prop :=
  ∃ n, n ≤ g ∧ k = .int .i64 n ∧ J ((probes part g).take n) wr ∧ ProbeAt wr B1 B2 B3 part g
theorem probes_length (part g : Nat) : (probes part g).length = g := by simp [probes]
theorem probes_at (part g i : Nat) (h : i < g) : (probes part g)[i]? = some (atM part g i) := by simp [probes, h]
end Go.Proofs.YtlalpenfgkfkpaaDoor

/- A slice in a field of a struct that lies in a block: what an append to it leaves; rows of other types behind a change. -/
namespace Go.Proofs.YtlalpenfgkfkpaaDoor
open Go.RowKit

/-- A row keeps, if what has turned are blocks of other types. -/
theorem owns_modT {w w' : World} {S : Nat → Prop} {T k n : Nat} {v : Value} {xs : List Value} (ho : w.ownsRow 0 T k v n xs) (hm : Mod S w w')
    (hS : ∀ i, S i → i < w.heap.size → ∃ cs T' fz, w.heap[i]? = some (.cells cs T' fz) ∧ T' ≠ T) : w'.ownsRow 0 T k v n xs :=
  owns_mod ho hm (fun g hg hs => by
    obtain ⟨c, e⟩ := owns_type ho hg
    obtain ⟨cs, T', fz, e', hne⟩ := hS g hs (owns_lt ho hg)
    rw [e] at e'; cases e'; exact hne rfl)
theorem heap_modT {w w' : World} {S : Nat → Prop} {T k : Nat} {cs : Array Value} {fz : Nat × Nat} (hb : w.heap[k]? = some (.cells cs T fz)) (hm : Mod S w w')
    (hS : ∀ i, S i → i < w.heap.size → ∃ cs T' fz, w.heap[i]? = some (.cells cs T' fz) ∧ T' ≠ T) : w'.heap[k]? = some (.cells cs T fz) :=
  hm.heap (fun hs => by
    obtain ⟨cs', T', fz', e', hne⟩ := hS k hs (lt_of_block hb)
    rw [hb] at e'; cases e'; exact hne rfl) hb

/-- x.f = append(x.f, ..), x in block b, f its cell j. -/
theorem field_append {w wg w5 : World} {b j : Nat} {cs : Array Value} {T E k n n' : Nat} {v v' : Value} {xs xs' : List Value}
    (hb : w.heap[b]? = some (.cells cs T (0, 0))) (ho : w.ownsRow 0 E k v n xs) (hTE : T ≠ E) (hp : Pure w wg)
    (ho5 : w5.ownsRow 0 E k v' n' xs') (hg : wg.grownBy w5 v.ownBlock) (hat : v'.ownBlock = v.ownBlock ∨ v'.ownBlock = some wg.heap.size) :
    (w5.setCell ⟨b, j, none⟩ v').heap[b]? = some (.cells (cs.setIfInBounds j v') T (0, 0)) ∧ (w5.setCell ⟨b, j, none⟩ v').ownsRow 0 E k v' n' xs' ∧
      Mod (fun i => i = b ∨ v.ownBlock = some i) w (w5.setCell ⟨b, j, none⟩ v') ∧ (∀ g, v'.ownBlock = some g → v.ownBlock = some g ∨ w.heap.size ≤ g) := by
  have hlb : b < w.heap.size := lt_of_block hb
  have hnb : v.ownBlock ≠ some b := fun e => by
    obtain ⟨c, e'⟩ := owns_type ho e
    rw [hb] at e'; cases e'; exact hTE rfl
  have hnb' : v'.ownBlock ≠ some b := fun e => by
    rcases hat with h | h
    · exact hnb (h ▸ e)
    · rw [h] at e; cases e; have := hp.size; omega
  have m5 : w5.heap[b]? = some (.cells cs T (0, 0)) :=
    Mod.heap (Mod.of_grown (S := fun i => v.ownBlock = some i) hg (fun k e _ => e)) hnb (hp.heap (fun h => h) hb)
  refine ⟨heap_setCell_same w5 b j cs T v' m5, owns_mod ho5 ((Mod.refl (fun i => i = b) w5).setCell (p := ⟨b, j, none⟩) (fun _ => rfl) _) (fun g hg h => hnb' (h ▸ hg)), ?_, ?_⟩
  · exact ((Mod.of_pure hp).then (Mod.of_grown (S := fun i => i = b ∨ v.ownBlock = some i) hg (fun k e _ => .inr e)) (fun _ _ h => h)).setCell (fun _ => .inl rfl) _
  · intro g e
    rcases hat with h | h
    · exact .inl (h ▸ e)
    · rw [h] at e; cases e; exact .inr hp.size

/-- A local slice (in a slot): append. -/
theorem slot_append {w wg w5 : World} {E k n n' : Nat} {v v' : Value} {xs' : List Value}
    (hp : Pure w wg) (_ho5 : w5.ownsRow 0 E k v' n' xs') (hg : wg.grownBy w5 v.ownBlock) (hat : v'.ownBlock = v.ownBlock ∨ v'.ownBlock = some wg.heap.size) :
    Mod (fun i => v.ownBlock = some i) w w5 ∧ (∀ g, v'.ownBlock = some g → v.ownBlock = some g ∨ w.heap.size ≤ g) := by
  refine ⟨(Mod.of_pure hp).then (Mod.of_grown (S := fun i => v.ownBlock = some i) hg (fun k e _ => e)) (fun _ _ h => h), ?_⟩
  intro g e
  rcases hat with h | h
  · exact .inl (h ▸ e)
  · rw [h] at e; cases e; exact .inr hp.size

/-- The block of a struct behind stores into its cells. -/
theorem heap_set1 {w : World} {b j : Nat} {cs : Array Value} {T : TypeId} {v : Value} (h : w.heap[b]? = some (.cells cs T (0, 0))) : (w.setCell ⟨b, j, none⟩ v).heap[b]? = some (.cells (cs.setIfInBounds j v) T (0, 0)) := heap_setCell_same w b j cs T v h
theorem heap_set12 {w : World} {b : Nat} {u0 u1 v0 v1 : Value} {T : TypeId} (h : w.heap[b]? = some (.cells #[u0, u1] T (0, 0))) : ((w.setCell ⟨b, 0, none⟩ v0).setCell ⟨b, 1, none⟩ v1).heap[b]? = some (.cells #[v0, v1] T (0, 0)) :=
  heap_set1 (j := 1) (heap_set1 (j := 0) h)
theorem Mod.set1 {w : World} (b j : Nat) (v : Value) : Mod (fun i => i = b) w (w.setCell ⟨b, j, none⟩ v) := (Mod.refl (fun i => i = b) w).setCell (p := ⟨b, j, none⟩) (fun _ => rfl) v
theorem Mod.set2 {w : World} (b j k : Nat) (u v : Value) : Mod (fun i => i = b) w ((w.setCell ⟨b, j, none⟩ u).setCell ⟨b, k, none⟩ v) := (Mod.set1 b j u).trans (Mod.set1 b k v)
/-- What is only of new blocks is Pure. -/
theorem Mod.fresh {S : Nat → Prop} {a b c : World} (h : Pure a b) (hm : Mod S b c) (hS : ∀ i, S i → a.heap.size ≤ i) : Pure a c := h.then hm (fun i hi hs => by have := hS i hs; omega)
end Go.Proofs.YtlalpenfgkfkpaaDoor

/- growth.within, check, limit, Insert. -/
namespace Go.Proofs.YtlalpenfgkfkpaaDoor
open Go.RowKit Go.Shelf
set_option maxRecDepth 100000

def intsV (l : List Int) : List Value := l.map (Value.int .i64)
theorem gfin {w X Y : World} {b6 : Nat} {u0 u1 v0 v1 : Value} {T : TypeId} (h6 : X.heap[b6]? = some (.cells #[u0, u1] T (0, 0))) (hp : Pure w X) (hb : w.heap.size ≤ b6) (hY : (X.setCell ⟨b6, 0, none⟩ v0).setCell ⟨b6, 1, none⟩ v1 = Y) : Pure w Y ∧ Y.cell? ⟨b6, 0, none⟩ = some v0 ∧ Y.cell? ⟨b6, 1, none⟩ = some v1 := by
  have m2 := heap_set12 (v0 := v0) (v1 := v1) h6
  have hmm : Mod (fun i => i = b6) X ((X.setCell ⟨b6, 0, none⟩ v0).setCell ⟨b6, 1, none⟩ v1) := Mod.set2 b6 0 1 _ _
  rw [hY] at m2 hmm
  exact ⟨hp.then hmm (fun i hi e => by omega), cell_of_row _ b6 0 _ _ _ m2, cell_of_row _ b6 1 _ _ _ m2⟩
/-- What is to be done before a slot number is put in: how many groups, and whether it is made again. -/
def planI (g live tombs : Nat) : Option (Nat × Bool) :=
  if live + tombs < 7 * g then some (g, false) else if 2 * live ≤ 7 * g then some (g, true) else if g < 1048576 then some (2 * g, true) else if live < 7 * g then some (g, true) else none
def planV (o : Option (Nat × Bool)) : Value := match o with
  | some x => .tuple #[.agg #[.int .i64 (x.1 : Nat), .bool x.2], .int .i64 0]
  | none => .tuple #[.agg #[.int .i64 0, .bool false], .int .i64 7]
end Go.Proofs.YtlalpenfgkfkpaaDoor

/- growth.power, bound, Remove; bits.Len of small numbers. -/
namespace Go.Proofs.YtlalpenfgkfkpaaDoor
open Go.RowKit Go.Shelf
set_option maxRecDepth 100000

/-- How many bits a number has. -/
def blen (n : Nat) : Nat := if n = 0 then 0 else Nat.log2 n + 1
theorem blen_lt (n : Nat) : n < 2 ^ blen n := by
  unfold blen
  split
  · rename_i h; subst h; decide
  · exact Nat.lt_log2_self
theorem blen_le {n k : Nat} (h : n < 2 ^ k) : blen n ≤ k := by
  unfold blen
  split
  · exact Nat.zero_le _
  · rename_i h0
    exact (Nat.log2_lt h0).2 h
theorem blen_min {n k : Nat} (h1 : 2 ^ k ≤ n) (h2 : n < 2 ^ (k + 1)) : blen n = k + 1 := by
  have h0 : n ≠ 0 := by have := Nat.pow_pos (n := k) (show 0 < 2 by decide); omega
  unfold blen
  rw [if_neg h0]
  have h3 : n.log2 < k + 1 := (Nat.log2_lt h0).2 h2
  have h4 : ¬ n.log2 < k := fun h => by have := (Nat.log2_lt h0).1 h; omega
  omega
theorem blen_div {n j : Nat} (h : 2 ^ j ≤ n) : blen n = blen (n / 2 ^ j) + j := by
  have hp := Nat.pow_pos (n := j) (show 0 < 2 by decide)
  have h0 : n ≠ 0 := by omega
  have h1 : n / 2 ^ j ≠ 0 := by have := Nat.div_pos h hp; omega
  have e : n.log2 = (n / 2 ^ j).log2 + j := by
    have h2 : (n / 2 ^ j) < 2 ^ ((n / 2 ^ j).log2 + 1) := Nat.lt_log2_self
    have h3 : 2 ^ (n / 2 ^ j).log2 ≤ n / 2 ^ j := Nat.log2_self_le h1
    have h4 : 2 ^ ((n / 2 ^ j).log2 + j) ≤ n := by
      rw [Nat.pow_add]
      have := Nat.mul_le_mul_right (2 ^ j) h3
      exact Nat.le_trans this (Nat.div_mul_le_self n _)
    have h5 : n < 2 ^ ((n / 2 ^ j).log2 + j + 1) := by
      have h6 := Nat.lt_mul_of_div_lt h2 hp
      rw [show (n / 2 ^ j).log2 + j + 1 = j + ((n / 2 ^ j).log2 + 1) by omega, Nat.pow_add]
      rw [Nat.mul_comm]; exact h6
    have h7 : n.log2 < (n / 2 ^ j).log2 + j + 1 := (Nat.log2_lt h0).2 h5
    have h8 : ¬ n.log2 < (n / 2 ^ j).log2 + j := fun h => by have := (Nat.log2_lt h0).1 h; omega
    omega
  unfold blen
  rw [if_neg h0, if_neg h1, e]
  omega
theorem blen_table (s : ByteArray) (hs : s.size = 256) (h : ∀ k (hk : k < 256), wrap64 ((s[k]'(by omega)).toNat : Int) = blen k) (m : Nat) (hm : m < 256) (hms : m < s.size) : wrap64 ((s[m]'hms).toNat : Int) = blen m := h m hm
theorem len_end (y : Int) (s : ByteArray) (hs : s.size = 256) (h : ∀ k (hk : k < 256), wrap64 ((s[k]'(by omega)).toNat : Int) = blen k) (m : Nat) (hm : m < 256) (hms : m < s.size) (n : Nat) (hb : (blen n : Int) = y + blen m) (h0 : 0 ≤ y ∧ y ≤ 100) :
    wrap64 (y + wrap64 ((s[m]'hms).toNat : Int)) = (blen n : Int) := by
  rw [blen_table s hs h m hm hms, ← hb]
  have : blen m ≤ 8 := blen_le (by omega)
  exact IntWalk.wrap64_in _ (by omega)
theorem len_end0 (s : ByteArray) (hs : s.size = 256) (h : ∀ k (hk : k < 256), wrap64 ((s[k]'(by omega)).toNat : Int) = blen k) (m : Nat) (hm : m < 256) (hms : m < s.size) : wrap64 (wrap64 ((s[m]'hms).toNat : Int)) = (blen m : Int) := by
  have := len_end 0 s hs h m hm hms m (by omega) (by omega)
  rwa [Int.zero_add] at this
theorem Len64_ok (n : Nat) (hn : n < 4294967296) (w : World) : Calls Tryd.prog 78 #[.int .u64 n] w fun e w' => e = .returned (.int .i64 (blen n)) ∧ w = w' := by
  have d0 : decide (4294967296 ≤ (n : Int)) = false := decide_eq_false (by omega)
  have n0 : (0 : Int) ≤ n := by omega
  by_cases c1 : 65536 ≤ n
  · have d1 : decide (65536 ≤ (n : Int)) = true := decide_eq_true (by omega)
    have hb := blen_div (n := n) (j := 16) c1
    obtain ⟨k, hk⟩ : ∃ k, n / 2 ^ 16 = k := ⟨_, rfl⟩
    have e1 : (n : Int) / 65536 = (k : Int) := by omega
    have hk2 : k < 65536 := by omega
    rw [hk] at hb
    have k0 : (0 : Int) ≤ k := by omega
    by_cases c2 : 256 ≤ k
    · have d2 : decide (256 ≤ (k : Int)) = true := decide_eq_true (by omega)
      have hb2 := blen_div (n := k) (j := 8) c2
      obtain ⟨m, hm⟩ : ∃ m, k / 2 ^ 8 = m := ⟨_, rfl⟩
      have e2 : (k : Int) / 256 = (m : Int) := by omega
      have hm2 : m < 256 := by omega
      rw [hm] at hb2
      have m0 : (0 : Int) ≤ m := by omega
      have m1 : (m : Int) < 256 := by omega
      have w8 : IntKind.u8.wrap (m : Int) = m := by simp [IntKind.wrap, IntKind.signed, IntKind.bits]; omega
      go_enter Tryd.func78, Tryd.ntmps78
      go_wp2
      go_ret
      exact ⟨congrArg (fun x => Ending.returned (.int .i64 x)) (len_end 24 _ (by decide) (by decide +kernel) m hm2 _ n (by omega) (by omega)), rfl⟩
    · have d2 : decide (256 ≤ (k : Int)) = false := decide_eq_false (by omega)
      have m1 : (k : Int) < 256 := by omega
      have w8 : IntKind.u8.wrap (k : Int) = k := by simp [IntKind.wrap, IntKind.signed, IntKind.bits]; omega
      go_enter Tryd.func78, Tryd.ntmps78
      go_wp2
      go_ret
      exact ⟨congrArg (fun x => Ending.returned (.int .i64 x)) (len_end 16 _ (by decide) (by decide +kernel) k (by omega) _ n (by omega) (by omega)), rfl⟩
  · have d1 : decide (65536 ≤ (n : Int)) = false := decide_eq_false (by omega)
    by_cases c2 : 256 ≤ n
    · have d2 : decide (256 ≤ (n : Int)) = true := decide_eq_true (by omega)
      have hb2 := blen_div (n := n) (j := 8) c2
      obtain ⟨m, hm⟩ : ∃ m, n / 2 ^ 8 = m := ⟨_, rfl⟩
      have e2 : (n : Int) / 256 = (m : Int) := by omega
      have hm2 : m < 256 := by omega
      rw [hm] at hb2
      have m0 : (0 : Int) ≤ m := by omega
      have m1 : (m : Int) < 256 := by omega
      have w8 : IntKind.u8.wrap (m : Int) = m := by simp [IntKind.wrap, IntKind.signed, IntKind.bits]; omega
      go_enter Tryd.func78, Tryd.ntmps78
      go_wp2
      go_ret
      exact ⟨congrArg (fun x => Ending.returned (.int .i64 x)) (len_end 8 _ (by decide) (by decide +kernel) m hm2 _ n (by omega) (by omega)), rfl⟩
    · have d2 : decide (256 ≤ (n : Int)) = false := decide_eq_false (by omega)
      have m1 : (n : Int) < 256 := by omega
      have w8 : IntKind.u8.wrap (n : Int) = n := by simp [IntKind.wrap, IntKind.signed, IntKind.bits]; omega
      go_enter Tryd.func78, Tryd.ntmps78
      go_wp2
      go_ret
      exact ⟨congrArg (fun x => Ending.returned (.int .i64 x)) (len_end0 _ (by decide) (by decide +kernel) n (by omega) _), rfl⟩
theorem Len_ok (n : Nat) (hn : n < 4294967296) (w : World) : Calls Tryd.prog 81 #[.int .u64 n] w fun e w' => e = .returned (.int .i64 (blen n)) ∧ w = w' := by
  have HL := Lib.hid (fun W => Len64_ok n hn W)
  go_enter Tryd.func81, Tryd.ntmps81
  go_wp2_with (go_at_call 78; refine Calls.mono (HL.out _) ?_; rintro e w' ⟨rfl, rfl⟩)
  go_ret
  exact ⟨rfl, rfl⟩
/-- The maximum number of lanes for some slot numbers. -/
def boundM (live : Nat) : Nat := 2 ^ blen (4 * live + 15)
theorem boundM_le (live : Nat) : 4 * live + 16 ≤ boundM live := by have := blen_lt (4 * live + 15); unfold boundM; omega
theorem boundM_min {live j : Nat} (h : 4 * live + 16 ≤ 2 ^ j) : boundM live ≤ 2 ^ j := Nat.pow_le_pow_right (by decide) (blen_le (by omega))
theorem boundM_pow {live : Nat} (hlt : boundM live < 8388608) : ∃ k, k ≤ 19 ∧ boundM live = 8 * 2 ^ k := by
  have h1 := boundM_le live
  unfold boundM at h1 hlt ⊢
  obtain ⟨b, hb⟩ : ∃ b, blen (4 * live + 15) = b := ⟨_, rfl⟩
  rw [hb] at h1 hlt ⊢
  have h3 : 3 ≤ b := by
    by_cases c : 3 ≤ b
    · exact c
    · have : 2 ^ b ≤ 2 ^ 2 := Nat.pow_le_pow_right (by decide) (by omega)
      omega
  have h23 : b < 23 := by
    by_cases c : b < 23
    · exact c
    · have : 2 ^ 23 ≤ 2 ^ b := Nat.pow_le_pow_right (by decide) (by omega)
      omega
  refine ⟨b - 3, by omega, ?_⟩
  rw [show b = 3 + (b - 3) by omega, Nat.pow_add]
  simp
/-- What is to be done after a slot number was taken out: how many groups, and whether it is made again. -/
def planR (g live : Nat) : Nat × Bool := if live ≤ 7340032 ∧ boundM live < 8 * g then (boundM live / 8, true) else (g, false)
def gremPost (w : World) (x : Nat × Bool) (e : Ending) (w' : World) : Prop := e = .returned (.tuple #[.agg #[.int .i64 (x.1 : Nat), .bool x.2], .int .i64 0]) ∧ Pure w w'
theorem planR_ok {g live : Nat} (hg : Pow g) : Pow (planR g live).1 ∧ ((planR g live).2 = true → live < 8 * (planR g live).1) ∧ ((planR g live).2 = false → (planR g live).1 = g) := by
  have hle := hg.le
  unfold planR
  split
  · rename_i h
    obtain ⟨k, hk, e⟩ := boundM_pow (live := live) (by omega)
    have h1 := boundM_le live
    rw [e, show 8 * 2 ^ k / 8 = 2 ^ k by omega]
    refine ⟨⟨k, by omega, rfl⟩, fun _ => ?_, by simp⟩
    dsimp only
    omega
  · exact ⟨hg, by simp, fun _ => rfl⟩
end Go.Proofs.YtlalpenfgkfkpaaDoor

/- Levels and buckets of deadlines, by plain numbers. No program in sight. No condition. -/
namespace Go.Proofs.YtlalpenfgkfkpaaDoor
def lvlF : Nat → Nat → Nat → Nat
  | 0, _, _ => 0
  | k + 1, now, dl => if dl / 256 = now / 256 then 0 else lvlF k (now / 256) (dl / 256) + 1
/-- The level of a deadline at a time, and its bucket there. -/
def lvl (now dl : Nat) : Nat := lvlF 8 now dl
def bkt (now dl : Nat) : Nat := dl / 256 ^ lvl now dl % 256
theorem div_pow_succ (a k : Nat) : a / 256 / 256 ^ k = a / 256 ^ (k + 1) := by rw [Nat.div_div_eq_div_mul, Nat.pow_succ, Nat.mul_comm]
theorem lvlF_spec : ∀ (f now dl : Nat), now < 256 ^ f → dl < 256 ^ f → 0 < f → lvlF f now dl < f ∧ dl / 256 ^ (lvlF f now dl + 1) = now / 256 ^ (lvlF f now dl + 1) ∧ ∀ k, k < lvlF f now dl → dl / 256 ^ (k + 1) ≠ now / 256 ^ (k + 1)
  | 0, _, _, _, _, h => by omega
  | f + 1, now, dl, hn, hd, _ => by
    unfold lvlF
    split
    · rename_i h
      exact ⟨by omega, by simpa using h, fun k hk => by omega⟩
    · rename_i h
      have hn' : now / 256 < 256 ^ f := by rw [Nat.div_lt_iff_lt_mul (by decide), ← Nat.pow_succ]; exact hn
      have hd' : dl / 256 < 256 ^ f := by rw [Nat.div_lt_iff_lt_mul (by decide), ← Nat.pow_succ]; exact hd
      have hf : 0 < f := by
        rcases Nat.eq_zero_or_pos f with rfl | h0
        · rw [Nat.pow_zero] at hn' hd'; omega
        · exact h0
      obtain ⟨i1, i2, i3⟩ := lvlF_spec f (now / 256) (dl / 256) hn' hd' hf
      refine ⟨by omega, ?_, fun k hk => ?_⟩
      · rw [div_pow_succ, div_pow_succ] at i2; exact i2
      · cases k with
        | zero => simpa using h
        | succ k =>
          have := i3 k (by omega)
          rw [div_pow_succ, div_pow_succ] at this
          exact this
section
variable {now dl tt : Nat}
theorem lvl_spec (hn : now < 18446744073709551616) (hd : dl < 18446744073709551616) : lvl now dl < 8 ∧ dl / 256 ^ (lvl now dl + 1) = now / 256 ^ (lvl now dl + 1) ∧ ∀ k, k < lvl now dl → dl / 256 ^ (k + 1) ≠ now / 256 ^ (k + 1) :=
  lvlF_spec 8 now dl hn hd (by decide)
theorem div_pow_mono {a b i j : Nat} (h : a / 256 ^ i = b / 256 ^ i) (hij : i ≤ j) : a / 256 ^ j = b / 256 ^ j := by
  obtain ⟨d, rfl⟩ := Nat.exists_eq_add_of_le hij
  rw [Nat.pow_add, ← Nat.div_div_eq_div_mul, ← Nat.div_div_eq_div_mul, h]
theorem lvl_uniq (hn : now < 18446744073709551616) (hd : dl < 18446744073709551616) {k : Nat} (h1 : dl / 256 ^ (k + 1) = now / 256 ^ (k + 1)) (h2 : ∀ j, j < k → dl / 256 ^ (j + 1) ≠ now / 256 ^ (j + 1)) : lvl now dl = k := by
  obtain ⟨a1, a2, a3⟩ := lvl_spec hn hd
  rcases Nat.lt_trichotomy (lvl now dl) k with h | h | h
  · exact absurd a2 (h2 _ h)
  · exact h
  · exact absurd h1 (a3 k h)
theorem lvl_diff (hn : now < 18446744073709551616) (hd : dl < 18446744073709551616) (h : now < dl) : now / 256 ^ lvl now dl < dl / 256 ^ lvl now dl := by
  obtain ⟨a1, a2, a3⟩ := lvl_spec hn hd
  have hle : now / 256 ^ lvl now dl ≤ dl / 256 ^ lvl now dl := Nat.div_le_div_right (Nat.le_of_lt h)
  have hne : now / 256 ^ lvl now dl ≠ dl / 256 ^ lvl now dl := by
    cases hl : lvl now dl with
    | zero => simp; omega
    | succ k => exact fun e => a3 k (by omega) e.symm
  omega
theorem bkt_lt : bkt now dl < 256 := Nat.mod_lt _ (by decide)
/-- What is moved as the time goes on: the levels below the highest digit that changes, and there the buckets up tt that digit. -/
def movedD (now tt dl : Nat) : Prop := lvl now dl < lvl now tt ∨ lvl now dl = lvl now tt ∧ bkt now dl ≤ bkt now tt
theorem lt_of_div {a b m : Nat} (h : a / m < b / m) : a < b := by
  apply Nat.lt_of_not_le
  intro hba
  have := Nat.div_le_div_right (c := m) hba
  omega
theorem not_moved (hn : now < 18446744073709551616) (ht : tt < 18446744073709551616) (hd : dl < 18446744073709551616) (h1 : now < dl) (h2 : now < tt) (h : ¬ movedD now tt dl) : tt < dl ∧ lvl tt dl = lvl now dl ∧ bkt tt dl = bkt now dl := by
  obtain ⟨a1, a2, a3⟩ := lvl_spec hn hd
  obtain ⟨b1, b2, b3⟩ := lvl_spec hn ht
  have hdf := lvl_diff hn hd h1
  unfold movedD at h
  rw [not_or] at h
  obtain ⟨h3, h4⟩ := h
  have key : tt / 256 ^ lvl now dl < dl / 256 ^ lvl now dl := by
    rcases Nat.lt_or_ge (lvl now tt) (lvl now dl) with c | c
    · rw [div_pow_mono b2 (show lvl now tt + 1 ≤ lvl now dl by omega)]
      exact hdf
    · have e : lvl now dl = lvl now tt := by omega
      have h5 : bkt now tt < bkt now dl := by
        apply Nat.lt_of_not_le
        exact fun hh => h4 ⟨e, hh⟩
      unfold bkt at h5
      rw [← e] at h5 b2
      have e2 : dl / 256 ^ (lvl now dl + 1) = tt / 256 ^ (lvl now dl + 1) := a2.trans b2.symm
      rw [Nat.pow_succ, ← Nat.div_div_eq_div_mul, ← Nat.div_div_eq_div_mul] at e2
      omega
  have e3 : lvl tt dl = lvl now dl := by
    refine lvl_uniq ht hd ?_ (fun j hj e => ?_)
    · rw [a2]
      rcases Nat.lt_or_ge (lvl now tt) (lvl now dl) with c | c
      · exact (div_pow_mono b2 (show lvl now tt + 1 ≤ lvl now dl + 1 by omega)).symm
      · have e : lvl now dl = lvl now tt := by omega
        rw [e]; exact b2.symm
    · have := div_pow_mono e (show j + 1 ≤ lvl now dl by omega)
      omega
  exact ⟨lt_of_div key, e3, by unfold bkt; rw [e3]⟩
/-- The level by the highest bit in which the two differ. -/
theorem xor_div (a b k : Nat) : (a ^^^ b) / 2 ^ k = (a / 2 ^ k) ^^^ (b / 2 ^ k) := by
  rw [← Nat.shiftRight_eq_div_pow, ← Nat.shiftRight_eq_div_pow, ← Nat.shiftRight_eq_div_pow, Nat.shiftRight_xor_distrib]
theorem xor_eq_zero' {a b : Nat} : a ^^^ b = 0 ↔ a = b := by
  constructor
  · intro h
    apply Nat.eq_of_testBit_eq
    intro i
    have := congrArg (fun n => n.testBit i) h
    simp [Nat.testBit_xor] at this
    exact this
  · rintro rfl; exact Nat.xor_self a
theorem lvl_bits (hn : now < 18446744073709551616) (hd : dl < 18446744073709551616) (h : dl ≠ now) {n : Nat} (h1 : dl ^^^ now < 2 ^ n) (h2 : 2 ^ (n - 1) ≤ dl ^^^ now) (h0 : 0 < n) : (n - 1) / 8 = lvl now dl := by
  symm
  have p : ∀ k, (256 : Nat) ^ k = 2 ^ (8 * k) := fun k => by rw [Nat.pow_mul]
  refine lvl_uniq hn hd ?_ (fun j hj e => ?_)
  · rw [p, ← xor_eq_zero', ← xor_div]
    apply Nat.div_eq_of_lt
    exact Nat.lt_of_lt_of_le h1 (Nat.pow_le_pow_right (by decide) (by omega))
  · rw [p, ← xor_eq_zero', ← xor_div] at e
    have h3 : dl ^^^ now < 2 ^ (8 * (j + 1)) := by
      rcases Nat.div_eq_zero_iff.1 e with e | e
      · have := Nat.pow_pos (n := 8 * (j + 1)) (show 0 < 2 by decide); omega
      · exact e
    have : 2 ^ (8 * (j + 1)) ≤ 2 ^ (n - 1) := Nat.pow_le_pow_right (by decide) (by omega)
    omega
end
end Go.Proofs.YtlalpenfgkfkpaaDoor

/- bits.Len64 of every number; the level and the bucket by it. No condition. -/
namespace Go.Proofs.YtlalpenfgkfkpaaDoor
open Go.RowKit
set_option maxRecDepth 100000
theorem Len64_big (n : Nat) (hn : n < 18446744073709551616) (hb0 : 4294967296 ≤ n) (w : World) : Calls Tryd.prog 78 #[.int .u64 n] w fun e w' => e = .returned (.int .i64 (blen n)) ∧ w = w' := by
  have d0 : decide (4294967296 ≤ (n : Int)) = true := decide_eq_true (by omega)
  have hbb := blen_div (n := n) (j := 32) hb0
  obtain ⟨q, hq⟩ : ∃ q, n / 2 ^ 32 = q := ⟨_, rfl⟩
  have e0 : (n : Int) / 4294967296 = (q : Int) := by omega
  have hq2 : q < 4294967296 := by omega
  rw [hq] at hbb
  have n0 : (0 : Int) ≤ n := by omega
  have q0 : (0 : Int) ≤ q := by omega
  by_cases c1 : 65536 ≤ q
  · have d1 : decide (65536 ≤ (q : Int)) = true := decide_eq_true (by omega)
    have hb := blen_div (n := q) (j := 16) c1
    obtain ⟨k, hk⟩ : ∃ k, q / 2 ^ 16 = k := ⟨_, rfl⟩
    have e1 : (q : Int) / 65536 = (k : Int) := by omega
    have hk2 : k < 65536 := by omega
    rw [hk] at hb
    have k0 : (0 : Int) ≤ k := by omega
    by_cases c2 : 256 ≤ k
    · have d2 : decide (256 ≤ (k : Int)) = true := decide_eq_true (by omega)
      have hb2 := blen_div (n := k) (j := 8) c2
      obtain ⟨m, hm⟩ : ∃ m, k / 2 ^ 8 = m := ⟨_, rfl⟩
      have e2 : (k : Int) / 256 = (m : Int) := by omega
      have hm2 : m < 256 := by omega
      rw [hm] at hb2
      have m0 : (0 : Int) ≤ m := by omega
      have m1 : (m : Int) < 256 := by omega
      have w8 : IntKind.u8.wrap (m : Int) = m := by simp [IntKind.wrap, IntKind.signed, IntKind.bits]; omega
      go_enter Tryd.func78, Tryd.ntmps78
      go_wp2
      go_ret
      exact ⟨congrArg (fun x => Ending.returned (.int .i64 x)) (len_end 56 _ (by decide) (by decide +kernel) m hm2 _ n (by omega) (by omega)), rfl⟩
    · have d2 : decide (256 ≤ (k : Int)) = false := decide_eq_false (by omega)
      have m1 : (k : Int) < 256 := by omega
      have w8 : IntKind.u8.wrap (k : Int) = k := by simp [IntKind.wrap, IntKind.signed, IntKind.bits]; omega
      go_enter Tryd.func78, Tryd.ntmps78
      go_wp2
      go_ret
      exact ⟨congrArg (fun x => Ending.returned (.int .i64 x)) (len_end 48 _ (by decide) (by decide +kernel) k (by omega) _ n (by omega) (by omega)), rfl⟩
  · have d1 : decide (65536 ≤ (q : Int)) = false := decide_eq_false (by omega)
    by_cases c2 : 256 ≤ q
    · have d2 : decide (256 ≤ (q : Int)) = true := decide_eq_true (by omega)
      have hb2 := blen_div (n := q) (j := 8) c2
      obtain ⟨m, hm⟩ : ∃ m, q / 2 ^ 8 = m := ⟨_, rfl⟩
      have e2 : (q : Int) / 256 = (m : Int) := by omega
      have hm2 : m < 256 := by omega
      rw [hm] at hb2
      have m0 : (0 : Int) ≤ m := by omega
      have m1 : (m : Int) < 256 := by omega
      have w8 : IntKind.u8.wrap (m : Int) = m := by simp [IntKind.wrap, IntKind.signed, IntKind.bits]; omega
      go_enter Tryd.func78, Tryd.ntmps78
      go_wp2
      go_ret
      exact ⟨congrArg (fun x => Ending.returned (.int .i64 x)) (len_end 40 _ (by decide) (by decide +kernel) m hm2 _ n (by omega) (by omega)), rfl⟩
    · have d2 : decide (256 ≤ (q : Int)) = false := decide_eq_false (by omega)
      have m1 : (q : Int) < 256 := by omega
      have w8 : IntKind.u8.wrap (q : Int) = q := by simp [IntKind.wrap, IntKind.signed, IntKind.bits]; omega
      go_enter Tryd.func78, Tryd.ntmps78
      go_wp2
      go_ret
      exact ⟨congrArg (fun x => Ending.returned (.int .i64 x)) (len_end 32 _ (by decide) (by decide +kernel) q (by omega) _ n (by omega) (by omega)), rfl⟩
theorem Len64_any (n : Nat) (hn : n < 18446744073709551616) (w : World) : Calls Tryd.prog 78 #[.int .u64 n] w fun e w' => e = .returned (.int .i64 (blen n)) ∧ w = w' := by
  by_cases h : n < 4294967296
  · exact Len64_ok n h w
  · exact Len64_big n hn (by omega) w
theorem blen_lvl {now dl : Nat} (hn : now < 18446744073709551616) (hd : dl < 18446744073709551616) (h : dl ≠ now) : 1 ≤ blen (dl ^^^ now) ∧ blen (dl ^^^ now) ≤ 64 ∧ (blen (dl ^^^ now) - 1) / 8 = lvl now dl := by
  have h0 : dl ^^^ now ≠ 0 := fun e => h (xor_eq_zero'.1 e)
  have hx : dl ^^^ now < 2 ^ 64 := Nat.xor_lt_two_pow hd hn
  have hb : blen (dl ^^^ now) = Nat.log2 (dl ^^^ now) + 1 := by unfold blen; rw [if_neg h0]
  have h1 := blen_lt (dl ^^^ now)
  have h2 : 2 ^ (blen (dl ^^^ now) - 1) ≤ dl ^^^ now := by rw [hb]; exact Nat.log2_self_le h0
  exact ⟨by omega, blen_le hx, lvl_bits hn hd h h1 h2 (by omega)⟩
end Go.Proofs.YtlalpenfgkfkpaaDoor

/- links: Back, Of, Len, Nodes. Conditions: the field lies in memory. -/
namespace Go.Proofs.YtlalpenfgkfkpaaDoor
open Go.RowKit
set_option maxRecDepth 100000
/-- The list of a node. -/
def inL (Ls : List (List Nat)) (n : Nat) : Prop := ∃ (k : Nat) (l : List Nat), Ls[k]? = some l ∧ n ∈ l
section
variable {w w' : World} {p gF gL cF cL N : Nat} {Ls : List (List Nat)} {F : List Nd} {D : Nat → Prop}
theorem LkOk.free0 (h : LkOk N Ls F) {n : Nat} (hn : n < N) (hf : ¬ inL Ls n) : (nd F n).ow = 0 := by
  by_cases h0 : (nd F n).ow = 0
  · exact h0
  · obtain ⟨k, l, h1, h2, _⟩ := h.free n hn h0
    exact absurd ⟨k, l, h1, h2⟩ hf
theorem LkOk.not_free (h : LkOk N Ls F) {n k : Nat} {l : List Nat} (hl : Ls[k]? = some l) (hm : n ∈ l) : n < N ∧ (nd F n).ow = k + 1 := h.own k l hl n hm
set_option maxHeartbeats 1000000 in
theorem ladd_ok (h : LkMem w p gF gL cF cL N Ls F) {n k : Nat} {l : List Nat} (hn : n < N) (hl : Ls[k]? = some l) (hf : ¬ inL Ls n) :
    Calls Tryd.prog 115 #[lkP p, .int .i64 k, .int .u32 n, .bool false] w fun e w' => e = .returned (.int .i64 0) ∧ LkMem w' p gF gL cF cL N (Ls.set k (l ++ [n])) (putF F n (N + k)) ∧ Mod (fun b => b = gF ∨ b = gL) w w' := by
  have h0 := h.ok.free0 hn hf
  obtain ⟨a1, a2, a3, a4, a5, a6⟩ := h.ok.back hn h0 hl
  have hk : k < Ls.length := (List.getElem?_eq_some_iff.1 hl).1
  have hk4 : k ≤ 4096 := by have := h.hm; omega
  have HP := Lib.hid (lput_ok h hn a3 a2 a4 a5 a6 hl)
  have HLi := Lib.hid (llist_ok h hk)
  have HNo := Lib.hid (lnode_ok h hn)
  have HRi := Lib.hid (ring_ok h hk4)
  have hb := h.box
  obtain ⟨FL, hFL⟩ : ∃ FL, F.length = FL := ⟨_, rfl⟩
  have hnF : n < FL := by rw [← hFL, h.ok.len]; omega
  obtain ⟨c0, c1, c2⟩ := h.at_ (i := n) (by rw [hFL]; exact hnF)
  rw [h0] at c2
  rw [hFL] at hb
  have dn : decide (n < FL) = true := decide_eq_true hnF
  have hend : ∀ (w' : World), w'.heap[gF]? = some (.cells (fldC (putF F n (N + k))).toArray 156 (0, 0)) → w'.heap[gL]? = some (.cells ((lensC Ls).set k (.int .i64 ((l.length + 1 : Nat) : Int))).toArray 3 (0, 0)) → Mod (fun b => b = gF ∨ b = gL) w w' → LkMem w' p gF gL cF cL N (Ls.set k (l ++ [n])) (putF F n (N + k)) := fun w' g1 g2 g3 => by
    obtain ⟨n1, n2, n3⟩ := h.ne
    refine ⟨?_, g1, ?_, a1, h.n1, h.nm, by rw [List.length_set]; exact h.hm⟩
    · rw [putF_length, List.length_set]; exact g3.heap (fun e => by rcases e with e | e; exact n1 e; exact n2 e) h.box
    · rw [← lensC_set, List.length_append]; exact g2
  have HE := Lib.hid hend
  have hFb : FL ≤ 4198400 := by rw [← hFL, h.ok.len]; have := h.nm; have := h.hm; omega
  clear h hend hFL a1 a2 a3 a4 a5 a6 c0 c1 hl hf h0
  have hb_0 := cell_of_row _ _ 0 _ _ _ hb; have hb_1 := cell_of_row _ _ 1 _ _ _ hb; have hb_2 := cell_of_row _ _ 2 _ _ _ hb; have hb_f := (fun j => frozen_of_row _ _ j _ _ hb); have hb_l := lt_of_block hb; simp at hb_0 hb_1 hb_2; have H_hb := Lib.hid hb; clear hb
  go_enter Tryd.func115, Tryd.ntmps115
  go_wp2_with (first
    | (go_at_call 108; refine Calls.mono HLi.out ?_; rintro e w' ⟨rfl, rfl⟩)
    | (go_at_call 121; refine Calls.mono HNo.out ?_; rintro e w' ⟨rfl, rfl⟩)
    | (go_at_call 93; refine Calls.mono HRi.out ?_; rintro e w' ⟨rfl, rfl⟩)
    | (go_at_call 123; refine Calls.mono HP.out ?_; rintro e w2 ⟨rfl, q1, q2, q3⟩))
  go_ret
  exact ⟨rfl, HE.out _ q1 q2 q3, q3⟩
/-- A node of no list is added at the back of list k. -/
theorem lback_ok (h : LkAt w D p N Ls) {n k : Nat} {l : List Nat} (hn : n < N) (hl : Ls[k]? = some l) (hf : ¬ inL Ls n) :
    Calls Tryd.prog 95 #[lkP p, .int .i64 k, .int .u32 n] w fun e w' => e = .returned (.int .i64 0) ∧ LkAt w' D p N (Ls.set k (l ++ [n])) ∧ Mod D w w' := by
  obtain ⟨gF, gL, cF, cL, F, h1, h2⟩ := h
  have HA := Lib.hid (ladd_ok h1 hn hl hf)
  have H2 := Lib.hid h2
  clear h1 h2 hl hf hn
  go_enter Tryd.func95, Tryd.ntmps95
  go_wp2_with (go_at_call 115; refine Calls.mono HA.out ?_; rintro e w2 ⟨rfl, q1, q2⟩)
  go_ret
  exact ⟨rfl, ⟨gF, gL, cF, cL, _, q1, H2.out⟩, q2.mono (fun k _ hk => (H2.out k).2 (.inr hk))⟩
def ofPostL (Ls : List (List Nat)) (n : Nat) (e : Ending) : Prop := (∃ (k : Nat) (l : List Nat), Ls[k]? = some l ∧ n ∈ l ∧ e = .returned (.tuple #[.int .i64 k, .int .i64 0])) ∨ (¬ inL Ls n ∧ ∃ er : Int, er ≠ 0 ∧ e = .returned (.tuple #[.int .i64 0, .int .i64 er]))
theorem lof_ok (h : LkAt w D p N Ls) {n : Nat} (h32 : n ≤ 4294967295) : Calls Tryd.prog 106 #[lkP p, .int .u32 n] w fun e w' => ofPostL Ls n e ∧ w = w' := by
  obtain ⟨gF, gL, cF, cL, F, h, h2⟩ := h
  have HI := Lib.hid (lin_ok h h32)
  have hb := h.box
  by_cases hn : n < N ∧ (nd F n).ow ≠ 0
  · obtain ⟨k, l, hl, hm, how⟩ := h.ok.free n hn.1 hn.2
    have e0 : inE N F n = 0 := by unfold inE; rw [if_pos hn.1, if_neg hn.2]
    rw [e0] at HI
    obtain ⟨FL, hFL⟩ : ∃ FL, F.length = FL := ⟨_, rfl⟩
    have hnF : n < FL := by rw [← hFL, h.ok.len]; omega
    obtain ⟨c0, c1, c2⟩ := h.at_ (i := n) (by rw [hFL]; exact hnF)
    rw [how] at c2
    rw [hFL] at hb
    have dn : decide (n < FL) = true := decide_eq_true hnF
    have hk : k < Ls.length := (List.getElem?_eq_some_iff.1 hl).1
    have hk4 : k < 4096 := by have := h.hm; omega
    have HE : Hid (ofPostL Ls n (.returned (.tuple #[.int .i64 k, .int .i64 0]))) := Lib.hid (Or.inl ⟨k, l, hl, hm, rfl⟩)
    obtain ⟨kk, hkk⟩ : ∃ kk, k + 1 = kk := ⟨_, rfl⟩
    rw [hkk] at c2
    have wk : IntKind.i64.wrap ((kk : Int) - 1) = (k : Int) := by rw [show (kk : Int) - 1 = (k : Int) by omega]; exact IntWalk.i64_in _ (by omega)
    have wkk : IntKind.i64.wrap (kk : Int) = (kk : Int) := IntWalk.i64_in _ (by omega)
    clear h c0 c1 hl hm hn how e0 hFL hkk h2
    have hb_0 := cell_of_row _ _ 0 _ _ _ hb; have hb_1 := cell_of_row _ _ 1 _ _ _ hb; have hb_2 := cell_of_row _ _ 2 _ _ _ hb; have hb_f := (fun j => frozen_of_row _ _ j _ _ hb); have hb_l := lt_of_block hb; simp at hb_0 hb_1 hb_2; have H_hb := Lib.hid hb; clear hb
    go_enter Tryd.func106, Tryd.ntmps106
    go_wp2_with (go_at_call 107; refine Calls.mono HI.out ?_; rintro e w' ⟨rfl, rfl⟩)
    go_ret2
    exact ⟨HE.out, rfl⟩
  · have hni : ¬ inL Ls n := fun ⟨k, l, hl, hm⟩ => by
      have := h.ok.own k l hl n hm
      exact hn ⟨this.1, by omega⟩
    have e0 : inE N F n ≠ 0 := by
      unfold inE
      split
      · rename_i h1
        have : (nd F n).ow = 0 := by
          by_cases h0 : (nd F n).ow = 0
          · exact h0
          · exact absurd ⟨h1, h0⟩ hn
        rw [if_pos this]; decide
      · decide
    have HE : ∀ er, er ≠ 0 → ofPostL Ls n (.returned (.tuple #[.int .i64 0, .int .i64 er]))   := fun er he => Or.inr ⟨hni, er, he, rfl⟩
    have HE2 := Lib.hid (HE _ e0)
    obtain ⟨er, her⟩ : ∃ er, inE N F n = er := ⟨_, rfl⟩
    rw [her] at HI HE2 e0
    have b0 : (er == 0) = false := by simpa using e0
    have b1 : (er != 0) = true := by simpa using e0
    clear h h2 hn HE her hni hb e0
    go_enter Tryd.func106, Tryd.ntmps106
    go_wp2_with (go_at_call 107; refine Calls.mono HI.out ?_; rintro e w' ⟨rfl, rfl⟩)
    go_ret2
    exact ⟨HE2.out, rfl⟩
theorem llen_ok (h : LkAt w D p N Ls) {k : Nat} {l : List Nat} (hl : Ls[k]? = some l) : Calls Tryd.prog 86 #[lkP p, .int .i64 k] w fun e w' => e = .returned (.int .i64 l.length) ∧ w = w' := by
  obtain ⟨gF, gL, cF, cL, F, h, h2⟩ := h
  have hk : k < Ls.length := (List.getElem?_eq_some_iff.1 hl).1
  have HLi := Lib.hid (llist_ok h hk)
  have hb := h.box
  have hc := h.lenAt hl
  obtain ⟨H, hH⟩ : ∃ H, Ls.length = H := ⟨_, rfl⟩
  rw [hH] at hb hk
  have hm := h.hm
  rw [hH] at hm
  have dn : decide (k < H) = true := decide_eq_true hk
  clear h h2 hl hH
  generalize l.length = n at *
  have hb_0 := cell_of_row _ _ 0 _ _ _ hb; have hb_1 := cell_of_row _ _ 1 _ _ _ hb; have hb_2 := cell_of_row _ _ 2 _ _ _ hb; have hb_f := (fun j => frozen_of_row _ _ j _ _ hb); have hb_l := lt_of_block hb; simp at hb_0 hb_1 hb_2; have H_hb := Lib.hid hb; clear hb
  go_enter Tryd.func86, Tryd.ntmps86
  go_wp2_with (go_at_call 108; refine Calls.mono HLi.out ?_; rintro e w' ⟨rfl, rfl⟩)
  go_ret
  exact ⟨rfl, rfl⟩
theorem lnodes_ok (h : LkAt w D p N Ls) : Calls Tryd.prog 113 #[lkP p] w fun e w' => e = .returned (.int .i64 N) ∧ w = w' := by
  obtain ⟨gF, gL, cF, cL, F, h, h2⟩ := h
  have HN := Lib.hid (lnone_ok h)
  have hb := h.box
  clear h h2
  have hb_0 := cell_of_row _ _ 0 _ _ _ hb; have hb_1 := cell_of_row _ _ 1 _ _ _ hb; have hb_2 := cell_of_row _ _ 2 _ _ _ hb; have hb_f := (fun j => frozen_of_row _ _ j _ _ hb); have hb_l := lt_of_block hb; simp at hb_0 hb_1 hb_2; have H_hb := Lib.hid hb; clear hb
  go_enter Tryd.func113, Tryd.ntmps113
  go_wp2_with (go_at_call 122; refine Calls.mono HN.out ?_; rintro e w' ⟨rfl, rfl⟩)
  go_ret
  exact ⟨rfl, rfl⟩
end
end Go.Proofs.YtlalpenfgkfkpaaDoor
