/- Lemmas and contracts of functions, strung together out of 1 texts. No condition. -/
import Derived.Test.YtapplindfijngaaJPfDictHolds6
import Derived.Sort.CutIn
import Derived.Sort.BigQuietIn
import Derived.Stop.RegionWithIn
/- swiss.Index.find. -/
namespace Go.Proofs.Ytapplindfijngaa
open Go.RowKit Go.Shelf
set_option maxRecDepth 100000
attribute [local go_sem] Oper.semAt_some

/-- What a function that is called back may turn: blocks of the types in C. -/
def ModC (C : TypeId → Prop) (A B : World) : Prop := Mod (fun k => ∃ cs T fz, A.heap[k]? = some (.cells cs T fz) ∧ C T) A B
theorem ModC.refl (C : TypeId → Prop) (A : World) : ModC C A A := Mod.refl _ A
theorem ModC.of_pure {C : TypeId → Prop} {A B : World} (h : Pure A B) : ModC C A B := Mod.of_pure h
theorem ModC.trans {C : TypeId → Prop} {w A B : World} (h : ModC C w A) (k : ModC C A B) : ModC C w B := by
  refine ⟨k.os.trans h.os, k.tape.trans h.tape, k.output.trans h.output, Nat.le_trans h.size k.size, fun i hi hn => ?_⟩
  have e := h.block i hi hn
  refine (k.block i (Nat.lt_of_lt_of_le hi h.size) (fun ⟨cs, T, fz, e', hC⟩ => hn ⟨cs, T, fz, by rw [← e]; exact e', hC⟩)).trans e
theorem ModC.then {C : TypeId → Prop} {S : Nat → Prop} {w A B : World} (h : ModC C w A) (k : Mod S A B) (hS : ∀ i, S i → w.heap.size ≤ i) : ModC C w B :=
  Mod.then h k (fun i hi hs => by have := hS i hs; omega)
theorem ModC.heap {C : TypeId → Prop} {A B : World} (h : ModC C A B) {k : Nat} {cs : Array Value} {T : TypeId} {fz : Nat × Nat} (hb : A.heap[k]? = some (.cells cs T fz)) (hT : ¬ C T) : B.heap[k]? = some (.cells cs T fz) :=
  Mod.heap h (fun ⟨cs', T', fz', e, hC⟩ => by rw [hb] at e; cases e; exact hT hC) hb
theorem ModC.owns {C : TypeId → Prop} {A B : World} (h : ModC C A B) {T k n : Nat} {v : Value} {xs : List Value} (ho : A.ownsRow 0 T k v n xs) (hT : ¬ C T) : B.ownsRow 0 T k v n xs :=
  owns_mod ho h (fun g hg ⟨cs', T', fz', e, hC⟩ => by
    obtain ⟨c, e'⟩ := owns_type ho hg
    rw [e'] at e; cases e; exact hT hC)
theorem ModC.rec {C : TypeId → Prop} {A B : World} (h : ModC C A B) (N : Nat) : KeepsRec N A B :=
  KeepsRec.of_mod h (fun k _ ⟨cs, T, fz, e, _⟩ o ho => by rw [e] at ho; cases ho; rfl)
theorem KeepsRec.trans {N : Nat} {A B D : World} (h : KeepsRec N A B) (k : KeepsRec N B D) : KeepsRec N A D := fun i o hi ho hc => k i o hi (h i o hi ho hc) hc
/-- What find itself may turn: new blocks, of its results' types, and records. -/
def FindMay (N : Nat) (A : World) (k : Nat) : Prop := N ≤ k ∧ ∀ cs T fz, A.heap[k]? = some (.cells cs T fz) → T = 99 ∨ T = 3 ∨ T = 39
/-- THE CONTRACT OF A FUNCTION THAT IS CALLED BACK: of the slot numbers pre that it was called with before, and then s, it says f pre s; J is what it keeps. -/
structure SameOk (P : Program) (gf : Nat) (lb : Array Value) (f : List Nat → Nat → Bool) (C : TypeId → Prop) (J : List Nat → World → Prop) (w : World) : Prop where
  enters : ∀ args w, (callFunc gf args).run P w = .ok (.enter gf args) w
  call : ∀ pre (s : Nat) W, s ≤ 4294967295 → J pre W → CallsIn Fence.wide 0 P gf (#[.int .u32 s] ++ lb) W fun e w' => e = .returned (.bool (f pre s)) ∧ J (pre ++ [s]) w' ∧ ModC C W w'
  keep : ∀ pre A B, J pre A → Mod (FindMay w.heap.size A) A B → J pre B
  types : ∀ T, C T → T = 32 ∨ T = 999999
  start : J [] w

/-- What is known while find runs: its boxes, the index, what the function that is called back keeps. -/
structure FS (w : World) (D : Nat → Prop) (p : Nat) (sv : Value) (Gs : List Grp) (sum : Nat) (gf : Nat) (lb : Array Value) (C : TypeId → Prop) (J : List Nat → World → Prop) (b : Nat) (jl : List Nat) (W : World) : Prop where
  pu : ModC C w W
  wb : w.heap.size ≤ b
  h3 : W.heap[b]? = some (.cells #[.pointer (some ⟨p, 0, none⟩)] 57 (0, 0))
  h4 : W.heap[b + 1]? = some (.cells #[.int .u64 sum] 22 (0, 0))
  h5 : W.heap[b + 1 + 1]? = some (.cells #[.func (.func gf) #[] lb] 75 (0, 0))
  h6 : W.heap[b + 1 + 1 + 1]? = some (.cells #[.pointer none] 99 (0, 0))
  h7 : W.heap[b + 1 + 1 + 1 + 1]? = some (.cells #[.int .i64 0] 3 (0, 0))
  h8 : W.heap[b + 1 + 1 + 1 + 1 + 1]? = some (.cells #[.int .i64 0] 39 (0, 0))
  ix : IxRow W D p sv Gs
  j : J jl W
section
variable {w : World} {D : Nat → Prop} {p : Nat} {sv : Value} {Gs : List Grp} {sum : Nat} {gf : Nat} {lb : Array Value} {f : List Nat → Nat → Bool} {C : TypeId → Prop} {J : List Nat → World → Prop} {b : Nat} {jl : List Nat}
theorem FS.pure (hs : SameOk Try.prog gf lb f C J w) {A B : World} (h : FS w D p sv Gs sum gf lb C J b jl A) (hq : Pure A B) : FS w D p sv Gs sum gf lb C J b jl B :=
  ⟨h.pu.trans (.of_pure hq), h.wb, hq.heap (fun h => h) h.h3, hq.heap (fun h => h) h.h4, hq.heap (fun h => h) h.h5, hq.heap (fun h => h) h.h6, hq.heap (fun h => h) h.h7, hq.heap (fun h => h) h.h8, h.ix.pure hq, hs.keep _ _ _ h.j (Mod.of_pure hq)⟩
theorem FS.quiet (hs : SameOk Try.prog gf lb f C J w) {N : Nat} (hN : w.heap.size ≤ N) {A B : World} (h : FS w D p sv Gs sum gf lb C J b jl A) (hq : Quiet N A B) : FS w D p sv Gs sum gf lb C J b jl B :=
  ⟨h.pu.then hq (fun i hi => by have := hi.1; omega), h.wb, hq.cells h.h3, hq.cells h.h4, hq.cells h.h5, hq.cells h.h6, hq.cells h.h7, hq.cells h.h8, h.ix.quiet hq,
    hs.keep _ _ _ h.j (Mod.mono hq (fun k _ ⟨hk, o, ho, hc⟩ => ⟨by omega, fun cs T fz e => by rw [e] at ho; cases ho; cases hc⟩))⟩
theorem FS.back (hs : SameOk Try.prog gf lb f C J w) {A B : World} {s : Nat} (h : FS w D p sv Gs sum gf lb C J b jl A) (hq : ModC C A B) (hj : J (jl ++ [s]) B) : FS w D p sv Gs sum gf lb C J b (jl ++ [s]) B := by
  have n : ∀ T, T ≠ 32 → T ≠ 999999 → ¬ C T := fun T h1 h2 hC => by rcases hs.types T hC with e | e <;> contradiction
  refine ⟨h.pu.trans hq, h.wb, hq.heap h.h3 (n _ (by decide) (by decide)), hq.heap h.h4 (n _ (by decide) (by decide)), hq.heap h.h5 (n _ (by decide) (by decide)), hq.heap h.h6 (n _ (by decide) (by decide)), hq.heap h.h7 (n _ (by decide) (by decide)), hq.heap h.h8 (n _ (by decide) (by decide)), ⟨hq.heap h.ix.box (n _ (by decide) (by decide)), hq.owns h.ix.row (n _ (by decide) (by decide)), h.ix.dd, h.ix.ok⟩, hj⟩
theorem FS.new (hs : SameOk Try.prog gf lb f C J w) (h : IxRow w D p sv Gs) :
    FS w D p sv Gs sum gf lb C J w.heap.size [] ((((((w.alloc (.cells #[.pointer (some ⟨p, 0, none⟩)] 57)).alloc (.cells #[.int .u64 sum] 22)).alloc (.cells #[.func (.func gf) #[] lb] 75)).alloc (.cells #[.pointer none] 99)).alloc (.cells #[.int .i64 0] 3)).alloc (.cells #[.int .i64 0] 39)) := by
  have hp : Pure w ((((((w.alloc (.cells #[.pointer (some ⟨p, 0, none⟩)] 57)).alloc (.cells #[.int .u64 sum] 22)).alloc (.cells #[.func (.func gf) #[] lb] 75)).alloc (.cells #[.pointer none] 99)).alloc (.cells #[.int .i64 0] 3)).alloc (.cells #[.int .i64 0] 39)) := by (repeat' (first | (with_reducible exact Mod.refl _ _) | (with_reducible refine Mod.alloc ?_ _) | (with_reducible refine Mod.drew ?_) | (with_reducible refine Mod.drewN ?_ _) | (with_reducible refine Mod.setCell ?_ ?_ _) | (refine Mod.then ?_ (by with_reducible assumption) ?_)))
  refine ⟨.of_pure hp, Nat.le_refl _, ?_, ?_, ?_, ?_, ?_, ?_, h.pure hp, hs.keep _ _ _ hs.start (Mod.of_pure hp)⟩
  · exact heap_keep (heap_keep (heap_keep (heap_keep (heap_keep (heap_new rfl)))))
  · exact heap_keep (heap_keep (heap_keep (heap_keep (heap_new (by simp)))))
  · exact heap_keep (heap_keep (heap_keep (heap_new (by simp))))
  · exact heap_keep (heap_keep (heap_new (by simp)))
  · exact heap_keep (heap_new (by simp))
  · exact heap_new (by simp)

/-- What is known once find has its results. -/
structure FR (w : World) (D : Nat → Prop) (p : Nat) (sv : Value) (Gs : List Grp) (C : TypeId → Prop) (J : List Nat → World → Prop) (b : Nat) (jl : List Nat) (u6 u7 u8 : Value) (W : World) : Prop where
  pu : ModC C w W
  wb : w.heap.size ≤ b
  h6 : W.heap[b + 1 + 1 + 1]? = some (.cells #[u6] 99 (0, 0))
  h7 : W.heap[b + 1 + 1 + 1 + 1]? = some (.cells #[u7] 3 (0, 0))
  h8 : W.heap[b + 1 + 1 + 1 + 1 + 1]? = some (.cells #[u8] 39 (0, 0))
  ix : IxRow W D p sv Gs
  j : J jl W
theorem FR.quiet (hs : SameOk Try.prog gf lb f C J w) {u6 u7 u8 : Value} {N : Nat} (hN : w.heap.size ≤ N) {A B : World} (h : FR w D p sv Gs C J b jl u6 u7 u8 A) (hq : Quiet N A B) : FR w D p sv Gs C J b jl u6 u7 u8 B :=
  ⟨h.pu.then hq (fun i hi => by have := hi.1; omega), h.wb, hq.cells h.h6, hq.cells h.h7, hq.cells h.h8, h.ix.quiet hq,
    hs.keep _ _ _ h.j (Mod.mono hq (fun k _ ⟨hk, o, ho, hc⟩ => ⟨by omega, fun cs T fz e => by rw [e] at ho; cases ho; cases hc⟩))⟩
/-- The results are stored. -/
theorem FS.store (hs : SameOk Try.prog gf lb f C J w) {A : World} (h : FS w D p sv Gs sum gf lb C J b jl A) (u6 u7 u8 : Value) :
    FR w D p sv Gs C J b jl u6 u7 u8 (((A.setCell ⟨b + 1 + 1 + 1, 0, none⟩ u6).setCell ⟨b + 1 + 1 + 1 + 1, 0, none⟩ u7).setCell ⟨b + 1 + 1 + 1 + 1 + 1, 0, none⟩ u8) ∧
      Mod (fun k => k = b + 1 + 1 + 1 ∨ k = b + 1 + 1 + 1 + 1 ∨ k = b + 1 + 1 + 1 + 1 + 1) A (((A.setCell ⟨b + 1 + 1 + 1, 0, none⟩ u6).setCell ⟨b + 1 + 1 + 1 + 1, 0, none⟩ u7).setCell ⟨b + 1 + 1 + 1 + 1 + 1, 0, none⟩ u8) := by
  have hm : Mod (fun k => k = b + 1 + 1 + 1 ∨ k = b + 1 + 1 + 1 + 1 ∨ k = b + 1 + 1 + 1 + 1 + 1) A (((A.setCell ⟨b + 1 + 1 + 1, 0, none⟩ u6).setCell ⟨b + 1 + 1 + 1 + 1, 0, none⟩ u7).setCell ⟨b + 1 + 1 + 1 + 1 + 1, 0, none⟩ u8) :=
    (((Mod.refl _ A).setCell (p := ⟨b + 1 + 1 + 1, 0, none⟩) (fun _ => .inl rfl) _).setCell (p := ⟨b + 1 + 1 + 1 + 1, 0, none⟩) (fun _ => .inr (.inl rfl)) _).setCell (p := ⟨b + 1 + 1 + 1 + 1 + 1, 0, none⟩) (fun _ => .inr (.inr rfl)) _
  have wb := h.wb
  refine ⟨⟨h.pu.then hm (fun i hi => by omega), h.wb, ?_, ?_, ?_, h.ix.mod hm (fun k hk hs => ?_), hs.keep _ _ _ h.j (Mod.mono hm (fun k hk hs => ⟨by omega, fun cs T fz e => ?_⟩))⟩, hm⟩
  · exact heap_set_other (heap_set_other (heap_set1 (j := 0) h.h6) (by dsimp only; omega)) (by dsimp only; omega)
  · exact heap_set_other (heap_set1 (j := 0) (heap_set_other h.h7 (by dsimp only; omega))) (by dsimp only; omega)
  · exact heap_set1 (j := 0) (heap_set_other (heap_set_other h.h8 (by dsimp only; omega)) (by dsimp only; omega))
  · have no : ∀ {k : Nat} {cs : Array Value} {T : TypeId}, A.heap[k]? = some (.cells cs T (0, 0)) → T ≠ 85 → T ≠ 89 → ¬ D k := fun hk h1 h2 hD => by
      rcases (h.ix.dd _).1 hD with e | e
      · rw [e, h.ix.box] at hk; cases hk; exact h1 rfl
      · obtain ⟨cc, e2⟩ := owns_type h.ix.row e
        rw [e2] at hk; cases hk; exact h2 rfl
    rcases hs with rfl | rfl | rfl
    · exact no h.h6 (by decide) (by decide) hk
    · exact no h.h7 (by decide) (by decide) hk
    · exact no h.h8 (by decide) (by decide) hk
  · rcases hs with rfl | rfl | rfl
    · rw [h.h6] at e; cases e; exact .inl rfl
    · rw [h.h7] at e; cases e; exact .inr (.inl rfl)
    · rw [h.h8] at e; cases e; exact .inr (.inr rfl)
/-- One is found. -/
def Found (w : World) (D : Nat → Prop) (p : Nat) (sv : Value) (Gs : List Grp) (sum : Nat) (f : List Nat → Nat → Bool) (C : TypeId → Prop) (J : List Nat → World → Prop) (b B : Nat) (W : World) : Prop :=
  ∃ a x post, seenM Gs sum = a ++ x :: post ∧ falses f (a.map (slotAt Gs)) ∧ f (a.map (slotAt Gs)) (slotAt Gs x) = true ∧ x.1 < Gs.length ∧ x.2 < 8 ∧
    FR w D p sv Gs C J b ((a ++ [x]).map (slotAt Gs)) (.pointer (some ⟨B, x.1 * 9, none⟩)) (.int .i64 x.2) (.int .i64 0) W
theorem Found.quiet (hs : SameOk Try.prog gf lb f C J w) {B N : Nat} (hN : w.heap.size ≤ N) {X Y : World} (h : Found w D p sv Gs sum f C J b B X) (hq : Quiet N X Y) : Found w D p sv Gs sum f C J b B Y := by
  obtain ⟨a, x, post, h1, h2, h3, h4, h5, h6⟩ := h
  exact ⟨a, x, post, h1, h2, h3, h4, h5, h6.quiet hs hN hq⟩
def seenPre (Gs : List Grp) (tag : Nat) (pre : List Nat) : List (Nat × Nat) := pre.flatMap (fun i => (seenIn (grpAt Gs i) tag).map (fun j => (i, j)))
/-- Between two groups. -/
structure FOut (w : World) (D : Nat → Prop) (p : Nat) (sv : Value) (Gs : List Grp) (sum : Nat) (gf : Nat) (lb : Array Value) (f : List Nat → Nat → Bool) (C : TypeId → Prop) (J : List Nat → World → Prop) (b : Nat) (B1 B2 B3 N : Nat) (pre : List Nat) (W : World) : Prop where
  fs : FS w D p sv Gs sum gf lb C J b ((seenPre Gs (sum % 128) pre).map (slotAt Gs)) W
  it : ProbeAt W B1 B2 B3 (sum / 128) Gs.length
  bl : ∀ k ∈ pre, blanks (grpAt Gs k) = false
  fl : falses f ((seenPre Gs (sum % 128) pre).map (slotAt Gs))
  sz : N ≤ W.heap.size
theorem ProbeAt.quiet {N B1 B2 B3 part g : Nat} {X Y : World} (h : ProbeAt X B1 B2 B3 part g) (hq : Quiet N X Y) : ProbeAt Y B1 B2 B3 part g := ⟨hq.cells h.many, hq.cells h.part, hq.cells h.grps⟩
theorem FOut.quiet (hs : SameOk Try.prog gf lb f C J w) {B1 B2 B3 M N : Nat} (hN : w.heap.size ≤ N) {pre : List Nat} {X Y : World} (h : FOut w D p sv Gs sum gf lb f C J b B1 B2 B3 M pre X) (hq : Quiet N X Y) : FOut w D p sv Gs sum gf lb f C J b B1 B2 B3 M pre Y :=
  ⟨h.fs.quiet hs hN hq, h.it.quiet hq, h.bl, h.fl, Nat.le_trans h.sz (Mod.size hq)⟩
def FStop (w : World) (D : Nat → Prop) (p : Nat) (sv : Value) (Gs : List Grp) (sum : Nat) (gf : Nat) (lb : Array Value) (f : List Nat → Nat → Bool) (C : TypeId → Prop) (J : List Nat → World → Prop) (b B : Nat) (c : Code) (W : World) : Prop :=
  (c = .exit 0 ∧ FS w D p sv Gs sum gf lb C J b ((seenM Gs sum).map (slotAt Gs)) W ∧ falses f ((seenM Gs sum).map (slotAt Gs))) ∨ (c = .ret ∧ Found w D p sv Gs sum f C J b B W)
/-- Between two lanes of the group i. -/
structure FIn (w : World) (D : Nat → Prop) (p : Nat) (sv : Value) (Gs : List Grp) (sum : Nat) (gf : Nat) (lb : Array Value) (f : List Nat → Nat → Bool) (C : TypeId → Prop) (J : List Nat → World → Prop) (b : Nat) (B1 B2 B3 BL B m N b12 i : Nat) (W2 : World) (pre pre' : List Nat) (W : World) : Prop where
  fs : FS w D p sv Gs sum gf lb C J b ((seenPre Gs (sum % 128) pre ++ pre'.map (fun j => (i, j))).map (slotAt Gs)) W
  it : ProbeAt W B1 B2 B3 (sum / 128) Gs.length
  la : LanesAt W BL m
  bx : W.heap[b12]? = some (.cells #[.pointer (some ⟨B, i * 9, none⟩)] 99 (0, 0))
  fl : falses f ((seenPre Gs (sum % 128) pre ++ pre'.map (fun j => (i, j))).map (slotAt Gs))
  rc : KeepsRec N W2 W
  sz : W2.heap.size ≤ W.heap.size
theorem KeepsRec.quiet {N M : Nat} {A X Y : World} (h : KeepsRec N A X) (hq : Quiet M X Y) (hM : A.heap.size ≤ M) : KeepsRec N A Y := fun k o hk ho hc =>
  Mod.heap hq (fun hs => by have := hs.1; have := lt_of_block ho; omega) (h k o hk ho hc)
theorem FIn.quiet (hs : SameOk Try.prog gf lb f C J w) {B1 B2 B3 BL B m N b12 i M : Nat} {W2 : World} (hN : w.heap.size ≤ M) (hM : W2.heap.size ≤ M) {pre pre' : List Nat} {X Y : World} (h : FIn w D p sv Gs sum gf lb f C J b B1 B2 B3 BL B m N b12 i W2 pre pre' X) (hq : Quiet M X Y) :
    FIn w D p sv Gs sum gf lb f C J b B1 B2 B3 BL B m N b12 i W2 pre pre' Y :=
  ⟨h.fs.quiet hs hN hq, h.it.quiet hq, ⟨hq.cells h.la.set⟩, hq.cells h.bx, h.fl, h.rc.quiet hq hM, Nat.le_trans h.sz (Mod.size hq)⟩
/-- Behind a call of the function. -/
theorem FIn.back (hs : SameOk Try.prog gf lb f C J w) {B1 B2 B3 BL B m N b12 i j s : Nat} {W2 : World} {pre pre' : List Nat} {X Y : World} (h : FIn w D p sv Gs sum gf lb f C J b B1 B2 B3 BL B m N b12 i W2 pre pre' X) (hsl : slotAt Gs (i, j) = s) (hm : ModC C X Y)
    (hj : J ((seenPre Gs (sum % 128) pre ++ pre'.map (fun j => (i, j))).map (slotAt Gs) ++ [s]) Y) :
    FS w D p sv Gs sum gf lb C J b ((seenPre Gs (sum % 128) pre ++ (pre' ++ [j]).map (fun j => (i, j))).map (slotAt Gs)) Y ∧ ProbeAt Y B1 B2 B3 (sum / 128) Gs.length ∧ LanesAt Y BL m ∧ Y.heap[b12]? = some (.cells #[.pointer (some ⟨B, i * 9, none⟩)] 99 (0, 0)) ∧
      (f ((seenPre Gs (sum % 128) pre ++ pre'.map (fun j => (i, j))).map (slotAt Gs)) s = false → falses f ((seenPre Gs (sum % 128) pre ++ (pre' ++ [j]).map (fun j => (i, j))).map (slotAt Gs))) ∧ KeepsRec N W2 Y ∧ W2.heap.size ≤ Y.heap.size := by
  have e : (seenPre Gs (sum % 128) pre ++ (pre' ++ [j]).map (fun j => (i, j))).map (slotAt Gs) = (seenPre Gs (sum % 128) pre ++ pre'.map (fun j => (i, j))).map (slotAt Gs) ++ [s] := by
    simp [hsl]
  have n : ∀ T, T ≠ 32 → T ≠ 999999 → ¬ C T := fun T h1 h2 hC => by rcases hs.types T hC with e | e <;> contradiction
  refine ⟨?_, ⟨hm.heap h.it.many (n _ (by decide) (by decide)), hm.heap h.it.part (n _ (by decide) (by decide)), hm.heap h.it.grps (n _ (by decide) (by decide))⟩, ⟨hm.heap h.la.set (n _ (by decide) (by decide))⟩, hm.heap h.bx (n _ (by decide) (by decide)), fun hf => ?_, h.rc.trans (hm.rec _), Nat.le_trans h.sz hm.size⟩
  · rw [e]; exact h.fs.back hs hm hj
  · rw [e]; exact falses_snoc h.fl hf
theorem ProbeAt.keepsIt {B1 B2 B3 part g : Nat} {X Y : World} (h : ProbeAt X B1 B2 B3 part g) (k : ProbeAt Y B1 B2 B3 part g) (hs : X.heap.size ≤ Y.heap.size) : KeepsIt (probeBlocks B1 B2 B3) X Y := by
  refine ⟨hs, ?_⟩
  rintro i (rfl | rfl | rfl) _
  · rw [h.many, k.many]
  · rw [h.part, k.part]
  · rw [h.grps, k.grps]
def findPost (w : World) (D : Nat → Prop) (p : Nat) (sv : Value) (Gs : List Grp) (sum : Nat) (f : List Nat → Nat → Bool) (C : TypeId → Prop) (J : List Nat → World → Prop) (B : Nat) (e : Ending) (w' : World) : Prop :=
  ModC C w w' ∧ IxRow w' D p sv Gs ∧
  ((∃ a x post, seenM Gs sum = a ++ x :: post ∧ falses f (a.map (slotAt Gs)) ∧ f (a.map (slotAt Gs)) (slotAt Gs x) = true ∧ x.1 < Gs.length ∧ x.2 < 8 ∧
    e = .returned (.tuple #[.pointer (some ⟨B, x.1 * 9, none⟩), .int .i64 x.2, .int .i64 0]) ∧ J ((a ++ [x]).map (slotAt Gs)) w') ∨
   (falses f ((seenM Gs sum).map (slotAt Gs)) ∧ e = .returned (.tuple #[.pointer none, .int .i64 0, .int .i64 9]) ∧ J ((seenM Gs sum).map (slotAt Gs)) w'))
end

/-- The end, none found. -/
theorem find_none {w : World} {D : Nat → Prop} {p : Nat} {sv : Value} {Gs : List Grp} {sum : Nat} {gf : Nat} {lb : Array Value} {f : List Nat → Nat → Bool} {C : TypeId → Prop} {J : List Nat → World → Prop} {b : Nat} (hs : SameOk Try.prog gf lb f C J w) {N l B : Nat} (hN : w.heap.size ≤ N) {W : World} (h : FS w D p sv Gs sum gf lb C J b ((seenM Gs sum).map (slotAt Gs)) W) (hf : falses f ((seenM Gs sum).map (slotAt Gs))) (hl : N ≤ l) (hK : W.heap[l]? = some (.deferred (some []))) {W' : World}
    (hW' : (((W.setCell ⟨b + 1 + 1 + 1, 0, none⟩ (.pointer none)).setCell ⟨b + 1 + 1 + 1 + 1, 0, none⟩ (.int .i64 0)).setCell ⟨b + 1 + 1 + 1 + 1 + 1, 0, none⟩ (.int .i64 9)) = W') :
    W'.heap[l]? = some (.deferred (some [])) ∧ FR w D p sv Gs C J b ((seenM Gs sum).map (slotAt Gs)) (.pointer none) (.int .i64 0) (.int .i64 9) (W'.putObj l (.deferred none)) ∧
      findPost w D p sv Gs sum f C J B (.returned (.tuple #[.pointer none, .int .i64 0, .int .i64 9])) (W'.putObj l (.deferred none)) := by
  subst hW'
  obtain ⟨hr, hm⟩ := h.store hs (.pointer none) (.int .i64 0) (.int .i64 9)
  have hk := hm.heap (by rintro (e | e | e) <;> subst e <;> first | (rw [h.h6] at hK; cases hK) | (rw [h.h7] at hK; cases hK) | (rw [h.h8] at hK; cases hK)) hK
  have hr2 := hr.quiet hs hN (Quiet.putObj (.deferred none) hl hk rfl)
  exact ⟨hk, hr2, hr2.pu, hr2.ix, .inr ⟨hf, rfl, hr2.j⟩⟩
set_option maxHeartbeats 2000000 in
theorem find_ok {w : World} {D : Nat → Prop} {p : Nat} {sv : Value} {Gs : List Grp} (h : IxRow w D p sv Gs) (sum : Nat) (hsum : sum < 18446744073709551616) {gf : Nat} {lb : Array Value} {f : List Nat → Nat → Bool} {C : TypeId → Prop} {J : List Nat → World → Prop}
    (hsame : SameOk Try.prog gf lb f C J w) :
    Calls Try.prog 54 #[.pointer (some ⟨p, 0, none⟩), .int .u64 sum, .func (.func gf) #[] lb] w (fun e w' => ∃ B c, sv = .slice (some ⟨B, 0, none⟩) Gs.length c ∧ findPost w D p sv Gs sum f C J B e w') := by
  have hlp : p < w.heap.size := lt_of_block h.box
  obtain ⟨B, c, rfl, hc, hB, hDB, hBf, hcells⟩ := h.at
  have hfs := FS.new (sum := sum) hsame h
  have HF := Lib.hid hfs; have HS := Lib.hid hsame; have HC := Lib.hid hcells
  clear hfs hcells hsame hBf hc
  (refine (callsIn_wide (n := 0)).1 (callsIn_of_wp_marks Try.func54 rfl trivial (wpIn_wide.2 ?_) rfl); simp only [Try.ntmps54, List.size_toArray, List.length_cons, List.length_nil, Nat.reduceAdd, Nat.reduceSub, Array.replicate_succ, Array.replicate_zero, List.push_toArray, List.append_toArray, List.nil_append, List.cons_append])
  go_upto_region 1 with fail
  generalize (((((w.alloc (.cells #[.pointer (some ⟨p, 0, none⟩)] 57)).alloc (.cells #[.int .u64 sum] 22)).alloc (.cells #[.func (.func gf) #[] lb] 75)).alloc (.cells #[.pointer none] 99)).alloc (.cells #[.int .i64 0] 3)).alloc (.cells #[.int .i64 0] 39) = W1 at HF ⊢
  have hws := HF.out.wb
  generalize w.heap.size = b at HF ⊢
  have z3 := HF.out.h3; have z4 := HF.out.h4; have zp := HF.out.ix.box
  have z3_0 := cell_of_row _ _ 0 _ _ _ z3; have z3_f := (fun j => frozen_of_row _ _ j _ _ z3); have z3_l := lt_of_block z3; simp at z3_0; have H_z3 := Lib.hid z3; clear z3
  have z4_0 := cell_of_row _ _ 0 _ _ _ z4; have z4_f := (fun j => frozen_of_row _ _ j _ _ z4); have z4_l := lt_of_block z4; simp at z4_0; have H_z4 := Lib.hid z4; clear z4
  have zp_0 := cell_of_row _ _ 0 _ _ _ zp; have zp_1 := cell_of_row _ _ 1 _ _ _ zp; have zp_2 := cell_of_row _ _ 2 _ _ _ zp; have zp_f := (fun j => frozen_of_row _ _ j _ _ zp); have zp_l := lt_of_block zp; simp at zp_0 zp_1 zp_2; have H_zp := Lib.hid zp; clear zp
  have HG := Lib.hid HF.out.ix.ok.pow
  have wg : IntKind.i64.wrap (Gs.length : Int) = Gs.length := IntWalk.i64_in _ (by have := HG.out.le; omega)
  have HPart := Lib.hid (fun W => Part_ok sum W hsum)
  have HAll := Lib.hid (fun W => ProbeAll_ok (sum / 128) Gs.length W HG.out)
  obtain ⟨part, hpart⟩ : ∃ part, sum / 128 = part := ⟨_, rfl⟩
  rw [hpart] at HPart HAll
  go_region_held3 (fun w' => w'.cell? ⟨b, 0, none⟩ = some (.pointer (some ⟨p, 0, none⟩)) ∧ w'.cell? ⟨b + 1, 0, none⟩ = some (.int .u64 sum) ∧ w'.cell? ⟨p, 0, none⟩ = some (.slice (some ⟨B, 0, none⟩) Gs.length c))
    (first | go_keep | exact ⟨hp2.cell (fun h => h) z3_0, hp2.cell (fun h => h) z4_0, hp2.cell (fun h => h) zp_0⟩)
    (first
      | (go_at_call 70; (with_reducible refine Calls.mono (HPart.out _) ?_); rintro e w' ⟨rfl, rfl⟩)
      | (go_at_call 69; (with_reducible refine Calls.mono (HAll.out _) ?_); rintro e w2 ⟨B1, B2, B3, rfl, hit, hp2, hB1, hB2, hB3⟩))
  have hpw : Pure W1 w2 := hp2.of_drew
  have hfo : FOut w D p (.slice (some ⟨B, 0, none⟩) Gs.length c) Gs sum gf lb f C J b B1 B2 B3 w2.heap.size [] w2 := by
    refine ⟨HF.out.pure HS.out hpw, by rw [hpart]; exact hit, by simp, falses_nil f, Nat.le_refl _⟩
  have hItlt : ∀ k, probeBlocks B1 B2 B3 k → k < w2.heap.size := by
    rintro k (rfl | rfl | rfl)
    · exact lt_of_block hit.many
    · exact lt_of_block hit.part
    · exact lt_of_block hit.grps
  have hw2 : w.heap.size ≤ w2.heap.size := Nat.le_trans HF.out.pu.size hpw.size
  have hpl : part < 144115188075855872 := by omega
  have HO := Lib.hid hfo
  clear z3_0 z3_f z3_l
  clear z4_0 z4_f z4_l
  clear zp_0 zp_1 zp_2 zp_f zp_l
  clear H_z3 H_z4 H_zp HF hfo HPart HAll hp2 hpw hB1 hB2 hB3
  go_wp2
  refine wpIn_wide.1 (wp_range2 (gf := 84) (lb := #[.pointer (some ⟨B1, 0, none⟩), .pointer (some ⟨B2, 0, none⟩), .pointer (some ⟨B3, 0, none⟩)]) rfl (enters_of Try.func84 (by kernel_rfl) rfl) (It := probeBlocks B1 B2 B3) (Probe_iter hit HG.out hpl) hItlt (fun _ => rfl)
    (fun pre W => FOut w D p (.slice (some ⟨B, 0, none⟩) Gs.length c) Gs sum gf lb f C J b B1 B2 B3 w2.heap.size pre W) (fun cd _ W => FStop w D p (.slice (some ⟨B, 0, none⟩) Gs.length c) Gs sum gf lb f C J b B cd W) ?hI ?hIx HO.out ?round ?done ?stop)
  case hI => exact fun pre X Y h hq => h.quiet HS.out hw2 hq
  case hIx =>
    rintro cd pre X Y (⟨e, h, hf⟩ | ⟨e, h⟩) hq
    · exact .inl ⟨e, h.quiet HS.out hw2 hq, hf⟩
    · exact .inr ⟨e, h.quiet HS.out hw2 hq⟩
  case done =>
    rintro l xs W hl hS hI hK
    have hseen : seenM Gs sum = seenPre Gs (sum % 128) xs := by
      have hS' : xs = probes part Gs.length := hS
      unfold seenM; rw [hpart, ← hS']; exact seen_all xs hI.bl
    have h1 := hI.fs; have h2 := hI.fl
    rw [← hseen] at h1 h2
    have z6 := h1.h6; have z7 := h1.h7; have z8 := h1.h8
    have HE := Lib.hid (find_none (B := B) HS.out hw2 h1 h2 hl hK rfl)
    clear hI hK h1 h2 hseen HO hit hItlt
    have z6_0 := cell_of_row _ _ 0 _ _ _ z6; have z6_f := (fun j => frozen_of_row _ _ j _ _ z6); have z6_l := lt_of_block z6; simp at z6_0; have H_z6 := Lib.hid z6; clear z6
    have z7_0 := cell_of_row _ _ 0 _ _ _ z7; have z7_f := (fun j => frozen_of_row _ _ j _ _ z7); have z7_l := lt_of_block z7; simp at z7_0; have H_z7 := Lib.hid z7; clear z7
    have z8_0 := cell_of_row _ _ 0 _ _ _ z8; have z8_f := (fun j => frozen_of_row _ _ j _ _ z8); have z8_l := lt_of_block z8; simp at z8_0; have H_z8 := Lib.hid z8; clear z8
    go_wp2
    obtain ⟨hk, hr, hp⟩ := HE.out
    have y6 := cell_of_row _ _ 0 _ _ _ hr.h6
    have y7 := cell_of_row _ _ 0 _ _ _ hr.h7
    have y8 := cell_of_row _ _ 0 _ _ _ hr.h8
    simp at y6 y7 y8
    exact bodyPostM_drained (v := .tuple #[.pointer none, .int .i64 0, .int .i64 9]) hk (by simp [results, Try.results54, go_sem, y6, y7, y8]) ⟨B, c, rfl, hp⟩
  case stop =>
    rintro l cd pre W hl hI hK
    rcases hI with ⟨rfl, h1, h2⟩ | ⟨rfl, h1⟩
    · have z6 := h1.h6; have z7 := h1.h7; have z8 := h1.h8
      have HE := Lib.hid (find_none (B := B) HS.out hw2 h1 h2 hl hK rfl)
      clear hK h1 h2 HO hit hItlt
      have z6_0 := cell_of_row _ _ 0 _ _ _ z6; have z6_f := (fun j => frozen_of_row _ _ j _ _ z6); have z6_l := lt_of_block z6; simp at z6_0; have H_z6 := Lib.hid z6; clear z6
      have z7_0 := cell_of_row _ _ 0 _ _ _ z7; have z7_f := (fun j => frozen_of_row _ _ j _ _ z7); have z7_l := lt_of_block z7; simp at z7_0; have H_z7 := Lib.hid z7; clear z7
      have z8_0 := cell_of_row _ _ 0 _ _ _ z8; have z8_f := (fun j => frozen_of_row _ _ j _ _ z8); have z8_l := lt_of_block z8; simp at z8_0; have H_z8 := Lib.hid z8; clear z8
      refine wpIn_wide.2 ?_
      go_wp2
      obtain ⟨hk, hr, hp⟩ := HE.out
      have y6 := cell_of_row _ _ 0 _ _ _ hr.h6
      have y7 := cell_of_row _ _ 0 _ _ _ hr.h7
      have y8 := cell_of_row _ _ 0 _ _ _ hr.h8
      simp at y6 y7 y8
      exact bodyPostM_drained (v := .tuple #[.pointer none, .int .i64 0, .int .i64 9]) hk (by simp [results, Try.results54, go_sem, y6, y7, y8]) ⟨B, c, rfl, hp⟩
    · have h1' := h1.quiet HS.out hw2 (Quiet.putObj (.deferred none) hl hK rfl)
      obtain ⟨a, x, post, q1, q2, q3, q4, q5, q6⟩ := h1'
      have y6 := cell_of_row _ _ 0 _ _ _ q6.h6
      have y7 := cell_of_row _ _ 0 _ _ _ q6.h7
      have y8 := cell_of_row _ _ 0 _ _ _ q6.h8
      simp at y6 y7 y8
      refine wpIn_wide.2 ?_
      go_wp2
      exact bodyPostM_drained (v := .tuple #[.pointer (some ⟨B, x.1 * 9, none⟩), .int .i64 x.2, .int .i64 0]) hK (by simp [results, Try.results54, go_sem, y6, y7, y8]) ⟨B, c, rfl, q6.pu, q6.ix, .inl ⟨a, x, post, q1, q2, q3, q4, q5, rfl, q6.j⟩⟩
  case round =>
    rintro l pre i W K hI hG hK
    obtain ⟨post, hpost⟩ := hG
    have hil : i < Gs.length := by
      have : i ∈ probes part Gs.length := by rw [hpost]; simp
      unfold probes at this
      obtain ⟨k, hk, rfl⟩ := List.mem_map.1 this
      exact Nat.mod_lt _ HG.out.pos
    dsimp only [encN]
    have HI := Lib.hid hI; have HK := Lib.hid hK; have HPO := Lib.hid hpost
    clear hI hK HO hit hpost
    gi_wp2
    refine HK.out _ _ (Mod.refl _ _) (fun l' W2 hl hr hq => ?_)
    obtain ⟨r0, hr⟩ := hr
    replace HI := Lib.hid (HI.out.quiet HS.out hw2 hq)
    clear HK hq W
    have z3 := HI.out.fs.h3; have zp := HI.out.fs.ix.box
    have z3_0 := cell_of_row _ _ 0 _ _ _ z3; have z3_f := (fun j => frozen_of_row _ _ j _ _ z3); have z3_l := lt_of_block z3; simp at z3_0; have H_z3 := Lib.hid z3; clear z3
    have zp_0 := cell_of_row _ _ 0 _ _ _ zp; have zp_1 := cell_of_row _ _ 1 _ _ _ zp; have zp_2 := cell_of_row _ _ 2 _ _ _ zp; have zp_f := (fun j => frozen_of_row _ _ j _ _ zp); have zp_l := lt_of_block zp; simp at zp_0 zp_1 zp_2; have H_zp := Lib.hid zp; clear zp
    have hi0 : (0 : Int) ≤ i := by omega
    have hi1 : (i : Int) < Gs.length := by omega
    have hgl := HG.out.le
    gi_upto_region 5 with fail
    have hp3 : Pure W2 (W2.alloc (.cells #[.pointer (some ⟨B, i * 9, none⟩)] 99)) := (Mod.refl _ W2).alloc _
    have z12 := heap_new (w := W2) (o := .cells #[.pointer (some ⟨B, i * 9, none⟩)] 99 (0, 0)) rfl
    have hb12 : w2.heap.size ≤ W2.heap.size := HI.out.sz
    have HI3 := Lib.hid (HI.out.fs.pure HS.out hp3)
    have HK3 := Lib.hid hp3
    clear z3_0 z3_f z3_l
    clear zp_0 zp_1 zp_2 zp_f zp_l
    clear H_z3 H_zp hp3
    generalize W2.alloc (.cells #[.pointer (some ⟨B, i * 9, none⟩)] 99) = W3 at *
    generalize W2.heap.size = b12 at *
    have z4 := HI3.out.h4
    obtain ⟨B', c', hsv, _, hB', _, hBf', hcells'⟩ := HI3.out.ix.at
    cases hsv
    have zg := (hcells' i hil).1
    have ztag := Lib.hid (fun W => Tag_ok sum W hsum)
    have HGP := Lib.hid (HG.out)
    have hgo := Lib.hid (HI3.out.ix.ok.at hil)
    have zmt := Lib.hid (fun W => CMatch_ok hgo.out.ctl.bytes (sum % 128) W (Nat.mod_lt _ (by omega)))
    have zml : mask ((grpAt Gs i).1.map (· == sum % 128)) < 256 := mask_lt (by rw [List.length_map]; exact hgo.out.ctl.1)
    have zla := Lib.hid (fun W => Lanes_ok (mask ((grpAt Gs i).1.map (· == sum % 128))) W)
    have HC3 := Lib.hid hcells'
    clear hcells'
    have hseen : seenIn (grpAt Gs i) (sum % 128) = lanesOf (mask ((grpAt Gs i).1.map (· == sum % 128))) := rfl
    generalize mask ((grpAt Gs i).1.map (· == sum % 128)) = m at *
    obtain ⟨tag, htg⟩ : ∃ tag, sum % 128 = tag := ⟨_, rfl⟩
    rw [htg] at ztag zmt hseen
    have z12_0 := cell_of_row _ _ 0 _ _ _ z12; have z12_f := (fun j => frozen_of_row _ _ j _ _ z12); have z12_l := lt_of_block z12; simp at z12_0; have H_z12 := Lib.hid z12; clear z12
    have z4_0 := cell_of_row _ _ 0 _ _ _ z4; have z4_f := (fun j => frozen_of_row _ _ j _ _ z4); have z4_l := lt_of_block z4; simp at z4_0; have H_z4 := Lib.hid z4; clear z4
    gi_cut [40] from 33 (fun v40 wc => ∃ BL, v40 = .func (.func 87) #[] #[.pointer (some ⟨BL, 0, none⟩)] ∧ LanesAt wc BL m ∧ Pure W3 wc ∧ W3.heap.size ≤ BL)
    case first =>
      rename_i Jc Kc hJc hKc
      gi_region_with (first
        | (gi_at_call 74; refine CallsIn.mono (CallsIn.inRound l' (callsIn_wide.2 (ztag.out _))) ?_; rintro e w' ⟨rfl, rfl⟩)
        | (gi_at_call 76; refine CallsIn.mono (CallsIn.inRound l' (callsIn_wide.2 (zmt.out _))) ?_; rintro e w' ⟨rfl, rfl⟩)
        | (gi_at_call 75; refine CallsIn.mono (CallsIn.inRound l' (callsIn_wide.2 (zla.out _))) ?_; rintro e w4 ⟨BL, rfl, hla, hp4, hBL⟩))
      all_goals
        gi_wp2_with fail
        refine Met.intro (hJc _ _ ?_)
        repeat apply Exists.intro
        refine ⟨?_, rfl⟩
        exact ⟨BL, rfl, hla, (by first | exact hp4 | exact Mod.of_drew hp4), hBL⟩
    case rest =>
      obtain ⟨BL, rfl, hla, hp4, hBL⟩ := hcut
      have hp24 : Pure W2 wc := HK3.out.trans hp4
      have hwc : W2.heap.size ≤ wc.heap.size := hp24.size
      have hin : FIn w D p (.slice (some ⟨B, 0, none⟩) Gs.length c) Gs sum gf lb f C J b B1 B2 B3 BL B m w2.heap.size b12 i W2 pre [] wc := by
        refine ⟨?_, ?_, hla, hp4.heap (fun h => h) H_z12.out, ?_, ?_, hwc⟩
        · rw [List.map_nil, List.append_nil]; exact HI3.out.pure HS.out hp4
        · exact HI.out.it.keeps (KeepsIt.of_pure hp24)
        · rw [List.map_nil, List.append_nil]; exact HI.out.fl
        · exact (ModC.of_pure (C := fun _ => False) hp24).rec _
      have hl0 := hp24.heap (fun h => h) hr
      have HIN := Lib.hid hin; have HSE := Lib.hid hseen
      have HLA := Lib.hid hla
      have hBlt : BL < wc.heap.size := lt_of_block hla.set
      have hww : w.heap.size ≤ wc.heap.size := by omega
      clear hin hseen hla
      gi_wp2
      refine wp_range_in2 hl0 (gf := 87) (lb := #[.pointer (some ⟨BL, 0, none⟩)]) rfl (enters_of Try.func87 (by kernel_rfl) rfl) (It := fun k => k = BL) (Lanes_iter HLA.out zml) (fun k hk => by rw [hk]; exact hBlt) (fun _ => rfl)
        (fun pre' W => FIn w D p (.slice (some ⟨B, 0, none⟩) Gs.length c) Gs sum gf lb f C J b B1 B2 B3 BL B m w2.heap.size b12 i W2 pre pre' W) (fun cd _ W => cd = .ret ∧ Found w D p (.slice (some ⟨B, 0, none⟩) Gs.length c) Gs sum f C J b B W ∧ KeepsRec w2.heap.size W2 W) ?hI2 ?hIx2 HIN.out ?round2 ?done2 ?stop2
      case hI2 => exact fun pre' X Y h hq => h.quiet HS.out hww hwc hq
      case hIx2 =>
        rintro cd pre' X Y ⟨e, h, hk⟩ hq
        exact ⟨e, h.quiet HS.out hww hq, hk.quiet hq hwc⟩
      case stop2 =>
        rintro cd pre' W ⟨rfl, h, hk⟩
        gi_wp2
        exact ⟨hk, .inr ⟨rfl, h⟩⟩
      case done2 =>
        rintro xs W hS hI2
        have hxs : xs = seenIn (grpAt Gs i) (sum % 128) := by rw [htg, HSE.out]; exact hS
        have z12 := hI2.bx
        obtain ⟨B', c', hsv, _, hB', _, hBf', hcells'⟩ := hI2.fs.ix.at
        cases hsv
        have zg := (hcells' i hil).1
        have ze := Lib.hid (fun W => Empties_ok hgo.out.ctl.bytes W)
        have hmz := mask_zero (p := (grpAt Gs i).1.map (· == 128)) (by rw [List.length_map]; exact hgo.out.ctl.1)
        rw [show ((grpAt Gs i).1.map (· == 128)).any id = blanks (grpAt Gs i) by unfold blanks; simp [List.any_map]] at hmz
        have HI2 := Lib.hid hI2
        clear hcells' hI2
        generalize mask ((grpAt Gs i).1.map (· == 128)) = mz at *
        have z12_0 := cell_of_row _ _ 0 _ _ _ z12; have z12_f := (fun j => frozen_of_row _ _ j _ _ z12); have z12_l := lt_of_block z12; simp at z12_0; have H_z12 := Lib.hid z12; clear z12
        have hkI : KeepsIt (probeBlocks B1 B2 B3) W2 W := HI.out.it.keepsIt HI2.out.it HI2.out.sz
        cases hbl : blanks (grpAt Gs i) with
        | true =>
          rw [hbl] at hmz
          have hm0 : mz ≠ 0 := by simpa using hmz
          have hm1 : ((mz : Int) != 0) = true := by simp [hm0]
          have hm2 : ((mz : Int) == 0) = false := by simp [hm0]
          gi_wp2_with (gi_at_call 59; refine CallsIn.mono (CallsIn.inRound l' (callsIn_wide.2 (ze.out _))) ?_; rintro e w' ⟨rfl, rfl⟩)
          have hsn : seenM Gs sum = seenPre Gs (sum % 128) pre ++ xs.map (fun j => (i, j)) := by
            unfold seenM
            rw [hpart, HPO.out, seen_pre pre i post HI.out.bl, hbl, if_pos rfl, List.append_nil, hxs]
            rfl
          refine ⟨HI2.out.rc, .inl ⟨rfl, ?_, ?_⟩⟩
          · rw [hsn]; exact HI2.out.fs
          · rw [hsn]; exact HI2.out.fl
        | false =>
          rw [hbl] at hmz
          have hm0 : mz = 0 := by simpa using hmz
          subst hm0
          gi_wp2_with (gi_at_call 59; refine CallsIn.mono (CallsIn.inRound l' (callsIn_wide.2 (ze.out _))) ?_; rintro e w' ⟨rfl, rfl⟩)
          have hsp : seenPre Gs (sum % 128) (pre ++ [i]) = seenPre Gs (sum % 128) pre ++ xs.map (fun j => (i, j)) := by
            unfold seenPre
            rw [List.flatMap_append, hxs]
            simp
          refine ⟨HI2.out.rc, hkI, ⟨?_, HI2.out.it, ?_, ?_, Nat.le_trans HI.out.sz HI2.out.sz⟩⟩
          · rw [hsp]; exact HI2.out.fs
          · intro k hk
            rcases List.mem_append.1 hk with hk | hk
            · exact HI.out.bl k hk
            · have : k = i := by simpa using hk
              rw [this]; exact hbl
          · rw [hsp]; exact HI2.out.fl
      case round2 =>
        rintro l2 pre' j W K2 hI2 hG2 hK2
        obtain ⟨post', hpost'⟩ := hG2
        have hj8 : j < 8 := by
          have : j ∈ lanesOf m := by rw [hpost']; simp
          exact List.mem_range.1 (List.mem_filter.1 this).1
        dsimp only [encN]
        have HI2 := Lib.hid hI2; have HK2 := Lib.hid hK2; have HPO2 := Lib.hid hpost'
        clear hI2 hK2 hpost'
        gi_wp2
        refine HK2.out _ _ (Mod.refl _ _) (fun l3 W5 hl5 hr5 hq5 => ?_)
        replace HI2 := Lib.hid (HI2.out.quiet HS.out hww hwc hq5)
        clear HK2 hq5 W hr5
        have z5 := HI2.out.fs.h5; have z12 := HI2.out.bx
        obtain ⟨B', c', hsv, _, hB', _, hBf', hcells'⟩ := HI2.out.fs.ix.at
        cases hsv
        have zs := (hcells' i hil).2 j hj8
        rw [show i * 9 + (j + 1) = i * 9 + 1 + j by omega] at zs
        have hsl : (grpAt Gs i).2.getD j 0 = slotAt Gs (i, j) := rfl
        rw [hsl] at zs
        obtain ⟨s, hss⟩ : ∃ s, slotAt Gs (i, j) = s := ⟨_, rfl⟩
        have hs32 : slotAt Gs (i, j) ≤ 4294967295 := hgo.out.slot j
        have heg := HS.out.enters
        obtain ⟨jl, hjl⟩ : ∃ jl, (seenPre Gs (sum % 128) pre ++ pre'.map (fun j => (i, j))).map (slotAt Gs) = jl := ⟨_, rfl⟩
        have hcall := Lib.hid (fun W hJ => HS.out.call jl (slotAt Gs (i, j)) W hs32 hJ)
        have hkeep := Lib.hid (fun W hm => HS.out.keep jl W5 W (hjl ▸ HI2.out.fs.j) hm)
        clear hcells' hsl
        rw [hss] at zs hs32 hcall
        have hsl := hss
        have hs0 : (0 : Int) ≤ s := by omega
        have hs1 : (s : Int) ≤ 4294967295 := by omega
        have hj0 : (0 : Int) ≤ j := by omega
        have hj1 : (j : Int) < 8 := by omega
        have z5_0 := cell_of_row _ _ 0 _ _ _ z5; have z5_f := (fun j => frozen_of_row _ _ j _ _ z5); have z5_l := lt_of_block z5; simp at z5_0; have H_z5 := Lib.hid z5; clear z5
        have z12_0 := cell_of_row _ _ 0 _ _ _ z12; have z12_f := (fun j => frozen_of_row _ _ j _ _ z12); have z12_l := lt_of_block z12; simp at z12_0; have H_z12 := Lib.hid z12; clear z12
        gi_upto_region 7 with fail
        gi_cut [49] from 42 (fun v49 wc5 => v49 = .bool (f jl s) ∧ J (jl ++ [s]) wc5 ∧ ModC C W5 wc5)
        case first =>
          rename_i qa ka ha qb kb hb u1 u2 u3 u4 v1 v2 v3 v4 u5 u6 qc kc hc Jc Kc hJc hKc
          generalize Exit.inBlock 3 qc = QQ
          clear ha hb hc
          gi_region_with (refine CallsIn.mono (CallsIn.inRound l3 (hcall.out _ ?_)) ?_; exact hkeep.out _ (by (repeat' (first | (with_reducible exact Mod.refl _ _) | (with_reducible refine Mod.alloc ?_ _) | (with_reducible refine Mod.drew ?_) | (with_reducible refine Mod.drewN ?_ _) | (with_reducible refine Mod.setCell ?_ ?_ _) | (refine Mod.then ?_ (by with_reducible assumption) ?_)))); rintro e w6 ⟨rfl, hj6, hm6⟩)
          all_goals
            gi_wp2_with fail
            refine Met.intro (hJc _ _ ?_)
            repeat apply Exists.intro
            refine ⟨?_, rfl⟩
            exact ⟨rfl, hj6, (by first | exact hm6 | exact Mod.of_drew hm6)⟩
        case rest =>
          obtain ⟨rfl, hj6, hm6⟩ := hcut
          obtain ⟨k1, k2, k3, k4, k5, k6, k7⟩ := HI2.out.back (j := j) HS.out hsl hm6 (hjl ▸ hj6)
          have hsn : seenIn (grpAt Gs i) (sum % 128) = pre' ++ j :: post' := by rw [htg, HSE.out, HPO2.out]
          have HSN := Lib.hid hsn; have HM6 := Lib.hid hm6; have HK3' := Lib.hid k3; have HK2' := Lib.hid k2; have HK6 := Lib.hid k6; have HK1 := Lib.hid k1; have HK5 := Lib.hid k5
          have z6 := k1.h6; have z7 := k1.h7; have z8 := k1.h8
          have HFL := Lib.hid HI2.out.fl
          clear z5_0 z5_f z5_l
          clear z12_0 z12_f z12_l
          clear H_z5 H_z12 hsn hm6 k3 k2 k6 k1 k5 hj6
          rw [hjl] at HK5 HFL
          cases hb : f jl s with
          | true =>
            have k4_0 := cell_of_row _ _ 0 _ _ _ k4; have k4_f := (fun j => frozen_of_row _ _ j _ _ k4); have k4_l := lt_of_block k4; simp at k4_0; have H_k4 := Lib.hid k4; clear k4
            have z6_0 := cell_of_row _ _ 0 _ _ _ z6; have z6_f := (fun j => frozen_of_row _ _ j _ _ z6); have z6_l := lt_of_block z6; simp at z6_0; have H_z6 := Lib.hid z6; clear z6
            have z7_0 := cell_of_row _ _ 0 _ _ _ z7; have z7_f := (fun j => frozen_of_row _ _ j _ _ z7); have z7_l := lt_of_block z7; simp at z7_0; have H_z7 := Lib.hid z7; clear z7
            have z8_0 := cell_of_row _ _ 0 _ _ _ z8; have z8_f := (fun j => frozen_of_row _ _ j _ _ z8); have z8_l := lt_of_block z8; simp at z8_0; have H_z8 := Lib.hid z8; clear z8
            gi_wp2
            obtain ⟨hst, hmst⟩ := HK1.out.store HS.out (.pointer (some ⟨B, i * 9, none⟩)) (.int .i64 j) (.int .i64 0)
            have krec : ∀ M, KeepsRec M wc (((wc.setCell ⟨b + 1 + 1 + 1, 0, none⟩ (.pointer (some ⟨B, i * 9, none⟩))).setCell ⟨b + 1 + 1 + 1 + 1, 0, none⟩ (.int .i64 j)).setCell ⟨b + 1 + 1 + 1 + 1 + 1, 0, none⟩ (.int .i64 0)) := fun M =>
              KeepsRec.of_mod hmst (fun k _ hk o ho => by
                rcases hk with rfl | rfl | rfl
                · rw [H_z6.out] at ho; cases ho; rfl
                · rw [H_z7.out] at ho; cases ho; rfl
                · rw [H_z8.out] at ho; cases ho; rfl)
            refine ⟨(HM6.out.rec _).trans (krec _), rfl, ⟨seenPre Gs (sum % 128) pre ++ pre'.map (fun j => (i, j)), (i, j), post'.map (fun j => (i, j)) ++ (if blanks (grpAt Gs i) then [] else seenFrom Gs (sum % 128) post), ?_, ?_, ?_, hil, hj8, ?_⟩, HK6.out.trans (krec _)⟩
            · unfold seenM
              rw [hpart, HPO.out, seen_pre pre i post HI.out.bl, HSN.out]
              unfold seenPre
              simp
            · rw [hjl]; exact HFL.out
            · rw [hjl, hsl]; exact hb
            · have e : seenPre Gs (sum % 128) pre ++ (pre' ++ [j]).map (fun j => (i, j)) = (seenPre Gs (sum % 128) pre ++ pre'.map (fun j => (i, j))) ++ [(i, j)] := by simp
              rw [e] at hst
              exact hst
          | false =>
            gi_wp2
            refine ⟨HM6.out.rec _, ?_, ⟨HK1.out, HK2'.out, HK3'.out, k4, HK5.out hb, HK6.out, k7⟩⟩
            refine ⟨HM6.out.size, ?_⟩
            rintro k rfl _
            rw [HK3'.out.set, HI2.out.la.set]
end Go.Proofs.Ytapplindfijngaa
