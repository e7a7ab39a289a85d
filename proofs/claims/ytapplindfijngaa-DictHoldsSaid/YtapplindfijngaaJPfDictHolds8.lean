/- Lemmas and contracts of functions, strung together out of 4 texts. No condition. -/
import Derived.Test.YtapplindfijngaaJPfDictHolds7
import Derived.Test.YtapplindfijngaaJPfDictHolds6
import Derived.Test.YtapplindfijngaaJPfDictHolds5
import Derived.Stop.RegionWithIn
import Derived.Sort.CutIn
import Derived.Sort.BigQuietIn
/- Putting something into a lane of the index: the counts, the memory. -/
namespace Go.Proofs.Ytapplindfijngaa
open Go.RowKit Go.Shelf
set_option maxRecDepth 100000

def putG (j t s : Nat) (c : Grp) : Grp := (c.1.set j t, c.2.set j s)
def setG (Gs : List Grp) (i j t s : Nat) : List Grp := Gs.modify i (putG j t s)
theorem setG_length (Gs : List Grp) (i j t s : Nat) : (setG Gs i j t s).length = Gs.length := by simp [setG]
theorem grpAt_setG {Gs : List Grp} {i j t s : Nat} (hi : i < Gs.length) (k : Nat) : grpAt (setG Gs i j t s) k = if k = i then putG j t s (grpAt Gs i) else grpAt Gs k := by
  unfold grpAt setG
  rw [List.getD_eq_getElem?_getD, List.getElem?_modify]
  by_cases h : k = i
  · subst h
    rw [if_pos rfl, List.getD_eq_getElem?_getD, List.getElem?_eq_getElem hi]
    simp
  · rw [if_neg h, List.getD_eq_getElem?_getD]
    have : ¬ i = k := fun e => h e.symm
    simp [this]
theorem GrpOk.put {c : Grp} (h : GrpOk c) {j t s : Nat} (ht : t < 128 ∨ t = 128 ∨ t = 254) (hs : s ≤ 4294967295) : GrpOk (putG j t s c) := by
  refine ⟨⟨by simp [putG, h.ctl.1], fun x hx => ?_⟩, by simp [putG, h.len], fun x hx => ?_⟩
  · rcases List.mem_or_eq_of_mem_set hx with h' | rfl
    · exact h.ctl.2 x h'
    · exact ht
  · rcases List.mem_or_eq_of_mem_set hx with h' | rfl
    · exact h.lt x h'
    · exact hs
theorem IxOk.put {Gs : List Grp} (h : IxOk Gs) {i j t s : Nat} (ht : t < 128 ∨ t = 128 ∨ t = 254) (hs : s ≤ 4294967295) : IxOk (setG Gs i j t s) := by
  refine ⟨by rw [setG_length]; exact h.pow, fun c hc => ?_⟩
  obtain ⟨k, hk⟩ := List.getElem?_of_mem hc
  unfold setG at hk
  rw [List.getElem?_modify] at hk
  cases hg : Gs[k]? with
  | none => rw [hg] at hk; simp at hk
  | some c0 =>
    have h0 := h.grp c0 (List.mem_of_getElem? hg)
    rw [hg] at hk
    by_cases e : i = k
    · simp [e] at hk; rw [← hk]; exact h0.put ht hs
    · simp [e] at hk; rw [← hk]; exact h0
theorem sum_modify {α : Type} (F : α → Nat) (g : α → α) : ∀ (L : List α) (i : Nat) (a : α), L[i]? = some a → ((L.modify i g).map F).sum + F a = (L.map F).sum + F (g a)
  | [], _, _, h => by simp at h
  | b :: L, 0, a, h => by simp at h; subst h; simp; omega
  | b :: L, i + 1, a, h => by
    have := sum_modify F g L i a (by simpa using h)
    simp only [List.modify_succ_cons, List.map_cons, List.sum_cons]
    omega
theorem countP_set' (p : Nat → Bool) (t : Nat) : ∀ (l : List Nat) (j a : Nat), l[j]? = some a → (l.set j t).countP p + (p a).toNat = l.countP p + (p t).toNat
  | [], _, _, h => by simp at h
  | b :: l, 0, a, h => by
    simp at h; subst h
    simp only [List.set_cons_zero, List.countP_cons]
    cases p b <;> cases p t <;> simp
  | b :: l, j + 1, a, h => by
    have := countP_set' p t l j a (by simpa using h)
    simp only [List.set_cons_succ, List.countP_cons]
    omega
theorem usedN_put {Gs : List Grp} {i j t s a : Nat} (hi : i < Gs.length) (ha : (grpAt Gs i).1[j]? = some a) : usedN (setG Gs i j t s) + (decide (a < 128)).toNat = usedN Gs + (decide (t < 128)).toNat := by
  have h1 := sum_modify (fun c : Grp => c.1.countP (· < 128)) (putG j t s) Gs i (grpAt Gs i) (grpAt_some hi)
  have h2 := countP_set' (fun x => decide (x < 128)) t (grpAt Gs i).1 j a ha
  unfold usedN setG
  simp only [putG] at h1 h2 ⊢
  omega
theorem tombN_put {Gs : List Grp} {i j t s a : Nat} (hi : i < Gs.length) (ha : (grpAt Gs i).1[j]? = some a) : tombN (setG Gs i j t s) + (a == 254).toNat = tombN Gs + (t == 254).toNat := by
  have h1 := sum_modify (fun c : Grp => c.1.countP (· == 254)) (putG j t s) Gs i (grpAt Gs i) (grpAt_some hi)
  have h2 := countP_set' (fun x => x == 254) t (grpAt Gs i).1 j a ha
  unfold tombN setG
  simp only [putG] at h1 h2 ⊢
  omega
theorem count_le (p : Nat → Bool) : ∀ {Gs : List Grp}, (∀ c ∈ Gs, GrpOk c) → (Gs.map (fun c => c.1.countP p)).sum ≤ 8 * Gs.length
  | [], _ => by simp
  | c :: Gs, h => by
    have h1 := count_le p (Gs := Gs) (fun c hc => h c (by simp [hc]))
    have h2 : c.1.countP p ≤ c.1.length := List.countP_le_length
    rw [(h c (by simp)).ctl.1] at h2
    simp only [List.map_cons, List.sum_cons, List.length_cons]
    omega
theorem IxOk.used_le {Gs : List Grp} (h : IxOk Gs) : usedN Gs ≤ 8388608 := by have := count_le (· < 128) h.grp; have := h.pow.le; unfold usedN; omega
theorem IxOk.tomb_le {Gs : List Grp} (h : IxOk Gs) : tombN Gs ≤ 8388608 := by have := count_le (· == 254) h.grp; have := h.pow.le; unfold tombN; omega

/-! ### the memory -/
theorem groupCells_put {c : Grp} (h : GrpOk c) {j t s : Nat} (hj : j < 8) : groupCells (putG j t s c) = ((groupCells c).set 0 (.int .u64 (word8 (c.1.set j t)))).set (j + 1) (.int .u32 (s : Int)) := by
  unfold groupCells putG
  simp only [List.set_cons_zero, List.set_cons_succ]
  congr 1
  apply List.ext_getElem?
  intro k
  rw [List.getElem?_set]
  simp only [List.getElem?_map, List.length_map, List.length_range]
  by_cases hk : k < 8
  · rw [List.getElem?_range hk]
    simp only [Option.map_some]
    by_cases e : j = k
    · subst e
      simp [h.len, hj]
    · simp [e, List.getD_eq_getElem?_getD, List.getElem?_set]
  · have : (List.range 8)[k]? = none := by simp; omega
    rw [this]
    by_cases e : j = k
    · omega
    · simp [e]
theorem flat_put {Gs : List Grp} {i j t s : Nat} (h : GrpOk (grpAt Gs i)) (hi : i < Gs.length) (hj : j < 8) :
    ((Gs.flatMap groupCells).set (i * 9 + 0) (.int .u64 (word8 ((grpAt Gs i).1.set j t)))).set (i * 9 + (j + 1)) (.int .u32 (s : Int)) = (setG Gs i j t s).flatMap groupCells := by
  have hR : ∀ r ∈ Gs.map groupCells, r.length = 9 := fun r hr => by obtain ⟨c, _, rfl⟩ := List.mem_map.1 hr; exact groupCells_length c
  rw [List.flatMap_def, flatten_set 9 0 (by omega) _ _ hR, flatten_set 9 (j + 1) (by omega) _ _ (modify_length hR i 0 _), List.flatMap_def]
  congr 1
  apply List.ext_getElem?
  intro k
  unfold setG
  simp only [List.getElem?_modify, List.getElem?_map]
  by_cases e : i = k
  · subst e
    rw [grpAt_some hi]
    simp only [if_pos]
    exact congrArg some (groupCells_put h hj).symm
  · simp [e]
theorem flat_put2 {Gs : List Grp} {i j t s : Nat} (h : GrpOk (grpAt Gs i)) (hi : i < Gs.length) (hj : j < 8) (u : Value) (hu : u = .int .u64 (word8 ((grpAt Gs i).1.set j t))) :
    ((Gs.flatMap groupCells).set (i * 9) u).set (i * 9 + 1 + j) (.int .u32 (s : Int)) = (setG Gs i j t s).flatMap groupCells := by
  subst hu
  have := flat_put (t := t) (s := s) h hi hj
  rwa [Nat.add_zero, show i * 9 + (j + 1) = i * 9 + 1 + j by omega] at this
end Go.Proofs.Ytapplindfijngaa

/- A region that draws, within a round: its orders as outside one (but for 'defer'), so that what yields in whatever world can be taken first. -/
namespace Go.Proofs.Ytapplindfijngaa
open Go.RowKit Go.Shelf
variable {P : Program}

theorem wpOpIn_inRound {l n : Nat} {ops : Array Oper} {Q : Exit → Act → World → Prop} (hd : ∀ (j : Nat) (o : Oper) c, ops[j]? = some o → o.op ≠ .defer c) {i : Nat} {K : Act → World → Prop} {a : Act} {w : World} (h : wpOpIn Fence.wide n P ops Q i K a w) : wpOpIn (Fence.wide.inRound l) n P ops Q i K a w := by
  unfold wpOpIn at *
  cases ho : ops[i]? with
  | none => rw [ho] at h; exact h
  | some o =>
    rw [ho] at h
    dsimp only at h ⊢
    split
    · rename_i hw
      rw [if_pos hw] at h
      unfold Oper.wpIn at *
      refine ⟨h.1, ?_⟩
      have h2 := h.2
      have e : Oper.semAt (Fence.wide.inRound l).round a.eval o = Oper.semAt Fence.wide.round a.eval o := by
        show Oper.semAt (some l) a.eval o = Oper.semAt none a.eval o
        rw [Oper.semAt_some l _ _ (fun c => hd i o c ho), Oper.semAt_none]
      rw [e]
      exact h2
    · rename_i hw
      rw [if_neg hw] at h
      exact h
theorem wpAnyIn_inRound {l n : Nat} {md : Region.Mode} {ops : Array Oper} {Q : Exit → Act → World → Prop} (hd : ∀ (j : Nat) (o : Oper) c, ops[j]? = some o → o.op ≠ .defer c) : ∀ (fuel : Nat) (listed : Array Bool) (a : Act) (w : World),
    wpAnyIn Fence.wide n P md ops Q fuel listed a w → wpAnyIn (Fence.wide.inRound l) n P md ops Q fuel listed a w
  | 0, _, _, _, h => h
  | fuel + 1, listed, _, _, h => ⟨h.1, fun i hi => wpOpIn_inRound hd (wpOpIn_mono (fun _ _ hk => wpAnyIn_inRound hd fuel _ _ _ hk) (h.2 i hi))⟩
def noDefer (ops : Array Oper) : Bool := ops.all (fun o => match o.op with | .defer _ => false | _ => true)
theorem noDefer_spec {ops : Array Oper} (h : noDefer ops = true) (j : Nat) (o : Oper) (ho : ops[j]? = some o) : ∀ c, o.op ≠ .defer c := by
  intro c e
  obtain ⟨hj, rfl⟩ := Array.getElem?_eq_some_iff.1 ho
  have := (Array.all_eq_true.1 h) j hj
  rw [e] at this
  cases this
/-- A region that draws, within a round: all its orders, at the fence that is wide. -/
theorem region_in {l id : Nat} {ops : Array Oper} {Q : Exit → Act → World → Prop} {a : Act} {w : World} (hm : P.follows .mixedOrders = true) (hd : noDefer ops = true)
    (h : wpAnyIn Fence.wide 0 P .any ops Q ops.size (Array.replicate ops.size false) a w.drew) : (Code.region id ops true).wpIn (Fence.wide.inRound l) 0 P Q a w :=
  wpIn_region_any hm (wpAnyIn_inRound (fun j o c ho => noDefer_spec hd j o ho c) _ _ _ _ h)
end Go.Proofs.Ytapplindfijngaa

/- swiss.Index.Insert. -/
namespace Go.Proofs.Ytapplindfijngaa
open Go.RowKit Go.Shelf
set_option maxRecDepth 100000
attribute [local go_sem] Oper.semAt_some

theorem izero_ok {w : World} {p : Nat} {a : Option Addr} {n c : Nat} (hc : w.cell? ⟨p, 0, none⟩ = some (.slice a n c)) (hn : 0 < n) (hn2 : n ≤ 1048576) :
    Calls Try.prog 53 #[.pointer (some ⟨p, 0, none⟩)] w fun e w' => e = .returned (.bool false) ∧ w = w' := by
  have h0 : ((n : Int) == 0) = false := by simp; omega
  have wn : IntKind.i64.wrap (n : Int) = n := IntWalk.i64_in _ (by omega)
  go_enter Try.func53, Try.ntmps53
  go_wp2
  go_ret
  exact ⟨rfl, rfl⟩

/-- The first free lane of a group, or 8. -/
def freeOf (c : Grp) : Nat := c.1.findIdx (fun x => decide (128 ≤ x))
def insFrom (Gs : List Grp) (tag slot : Nat) : List Nat → Option (List Grp)
  | [] => none
  | i :: r => if freeOf (grpAt Gs i) = 8 then insFrom Gs tag slot r else some (setG Gs i (freeOf (grpAt Gs i)) tag slot)
def insM (Gs : List Grp) (sum slot : Nat) : Option (List Grp) := insFrom Gs (sum % 128) slot (probes (sum / 128) Gs.length)
theorem insFrom_skip {Gs : List Grp} {tag slot : Nat} : ∀ (pre post : List Nat), (∀ k ∈ pre, freeOf (grpAt Gs k) = 8) → insFrom Gs tag slot (pre ++ post) = insFrom Gs tag slot post
  | [], _, _ => rfl
  | k :: pre, post, h => by
    simp only [List.cons_append, insFrom]
    rw [if_pos (h k (by simp)), insFrom_skip pre post (fun k' h' => h k' (by simp [h']))]

/-- What a free lane holds. -/
theorem free_at {l : List Nat} (h : Group l) {j : Nat} (hj : l.findIdx (fun x => decide (128 ≤ x)) = j) (hj8 : j < 8) : l[j]? = some 128 ∨ l[j]? = some 254 := by
  have hlt : l.findIdx (fun x => decide (128 ≤ x)) < l.length := by rw [hj, h.1]; exact hj8
  have h1 := List.findIdx_getElem (w := hlt)
  subst hj
  have h2 := h.2 _ (List.getElem_mem hlt)
  rw [List.getElem?_eq_getElem hlt]
  have h3 := of_decide_eq_true h1
  rcases h2 with h2 | h2 | h2
  · omega
  · exact .inl (by rw [h2])
  · exact .inr (by rw [h2])

structure InS (w : World) (D : Nat → Prop) (p : Nat) (sv : Value) (Gs : List Grp) (sum slot : Nat) (b : Nat) (W : World) : Prop where
  pu : Pure w W
  wb : w.heap.size ≤ b
  h3 : W.heap[b]? = some (.cells #[.pointer (some ⟨p, 0, none⟩)] 57 (0, 0))
  h4 : W.heap[b + 1]? = some (.cells #[.int .u64 sum] 22 (0, 0))
  h5 : W.heap[b + 1 + 1]? = some (.cells #[.int .u32 slot] 32 (0, 0))
  h6 : W.heap[b + 1 + 1 + 1]? = some (.cells #[.int .i64 0] 39 (0, 0))
  ix : IxRow W D p sv Gs
section
variable {w : World} {D : Nat → Prop} {p : Nat} {sv : Value} {Gs : List Grp} {sum slot : Nat} {b : Nat}
theorem InS.pure {A B : World} (h : InS w D p sv Gs sum slot b A) (hq : Pure A B) : InS w D p sv Gs sum slot b B :=
  ⟨h.pu.trans hq, h.wb, hq.heap (fun h => h) h.h3, hq.heap (fun h => h) h.h4, hq.heap (fun h => h) h.h5, hq.heap (fun h => h) h.h6, h.ix.pure hq⟩
theorem InS.quiet {N : Nat} (hN : w.heap.size ≤ N) {A B : World} (h : InS w D p sv Gs sum slot b A) (hq : Quiet N A B) : InS w D p sv Gs sum slot b B :=
  ⟨hq.mod h.pu hN, h.wb, hq.cells h.h3, hq.cells h.h4, hq.cells h.h5, hq.cells h.h6, h.ix.quiet hq⟩
theorem InS.new (h : IxRow w D p sv Gs) :
    InS w D p sv Gs sum slot w.heap.size ((((w.alloc (.cells #[.pointer (some ⟨p, 0, none⟩)] 57)).alloc (.cells #[.int .u64 sum] 22)).alloc (.cells #[.int .u32 slot] 32)).alloc (.cells #[.int .i64 0] 39)) := by
  have hp : Pure w ((((w.alloc (.cells #[.pointer (some ⟨p, 0, none⟩)] 57)).alloc (.cells #[.int .u64 sum] 22)).alloc (.cells #[.int .u32 slot] 32)).alloc (.cells #[.int .i64 0] 39)) := by (repeat' (first | (with_reducible exact Mod.refl _ _) | (with_reducible refine Mod.alloc ?_ _) | (with_reducible refine Mod.drew ?_) | (with_reducible refine Mod.drewN ?_ _) | (with_reducible refine Mod.setCell ?_ ?_ _) | (refine Mod.then ?_ (by with_reducible assumption) ?_)))
  refine ⟨hp, Nat.le_refl _, ?_, ?_, ?_, ?_, h.pure hp⟩
  · exact heap_keep (heap_keep (heap_keep (heap_new rfl)))
  · exact heap_keep (heap_keep (heap_new (by simp)))
  · exact heap_keep (heap_new (by simp))
  · exact heap_new (by simp)
structure InO (w : World) (D : Nat → Prop) (p : Nat) (sv : Value) (Gs : List Grp) (sum slot : Nat) (b : Nat) (B1 B2 B3 N : Nat) (pre : List Nat) (W : World) : Prop where
  fs : InS w D p sv Gs sum slot b W
  it : ProbeAt W B1 B2 B3 (sum / 128) Gs.length
  fl : ∀ k ∈ pre, freeOf (grpAt Gs k) = 8
  sz : N ≤ W.heap.size
theorem InO.quiet {B1 B2 B3 M N : Nat} (hN : w.heap.size ≤ N) {pre : List Nat} {X Y : World} (h : InO w D p sv Gs sum slot b B1 B2 B3 M pre X) (hq : Quiet N X Y) : InO w D p sv Gs sum slot b B1 B2 B3 M pre Y :=
  ⟨h.fs.quiet hN hq, ⟨hq.cells h.it.many, hq.cells h.it.part, hq.cells h.it.grps⟩, h.fl, Nat.le_trans h.sz (Mod.size hq)⟩
def InR (w : World) (D : Nat → Prop) (p : Nat) (sv : Value) (Gs : List Grp) (sum slot : Nat) (b : Nat) (W : World) : Prop :=
  ∃ Gs', insM Gs sum slot = some Gs' ∧ Mod D w W ∧ w.heap.size ≤ b ∧ W.heap[b + 1 + 1 + 1]? = some (.cells #[.int .i64 0] 39 (0, 0)) ∧ IxRow W D p sv Gs'
theorem InR.quiet {N : Nat} (hN : w.heap.size ≤ N) {X Y : World} (h : InR w D p sv Gs sum slot b X) (hq : Quiet N X Y) : InR w D p sv Gs sum slot b Y := by
  obtain ⟨Gs', h1, h2, h3, h4, h5⟩ := h
  exact ⟨Gs', h1, hq.mod h2 hN, h3, hq.cells h4, h5.quiet hq⟩
/-- The end of Insert: lane j of group i is set. t1: the deleted lanes that are left. -/
theorem ins_fin {W2 Wx W3 W4 : World} {B c i j tag z : Nat} {t1 : Int} (h : InS w D p (.slice (some ⟨B, 0, none⟩) Gs.length c) Gs sum slot b W2) (hx : Mod (fun k => k = p) W2 Wx)
    (hbx : Wx.heap[p]? = some (.cells #[.slice (some ⟨B, 0, none⟩) Gs.length c, .int .i64 (usedN Gs), .int .i64 t1] 85 (0, 0)))
    (hi : i < Gs.length) (hj : j < 8) (ht1 : t1 = tombN (setG Gs i j tag slot)) (htag : tag < 128) (hsl : slot ≤ 4294967295) (hz : word8 ((grpAt Gs i).1.set j tag) = z) (hu : usedN (setG Gs i j tag slot) = usedN Gs + 1)
    (h3 : Mod (fun k => k = B) Wx W3) (h3r : W3.ownsRow 0 89 9 (.slice (some ⟨B, 0, none⟩) Gs.length c) Gs.length (((Gs.flatMap groupCells).set (i * 9) (.int .u64 z)).set (i * 9 + 1 + j) (.int .u32 slot)))
    (hW4 : (W3.setCell ⟨p, 1, none⟩ (.int .i64 ((usedN Gs : Int) + 1))).setCell ⟨b + 1 + 1 + 1, 0, none⟩ (.int .i64 0) = W4) :
    IxRow W4 D p (.slice (some ⟨B, 0, none⟩) Gs.length c) (setG Gs i j tag slot) ∧ Mod D w W4 ∧ W4.heap[b + 1 + 1 + 1]? = some (.cells #[.int .i64 0] 39 (0, 0)) ∧ Mod (fun k => k = p ∨ k = B ∨ k = b + 1 + 1 + 1) W2 W4 := by
  subst hW4
  have nB : ∀ (k : Nat) (cs : Array Value) (T : TypeId), W2.heap[k]? = some (.cells cs T (0, 0)) → T ≠ 89 → k ≠ B := fun k cs T hk hT e => by
    obtain ⟨cc, e2⟩ := owns_type h.ix.row (g := B) rfl
    rw [e, e2] at hk; cases hk; exact hT rfl
  have hpB := nB _ _ _ h.ix.box (by decide)
  have h6B := nB _ _ _ h.h6 (by decide)
  have h6p : b + 1 + 1 + 1 ≠ p := fun e => by have := h.h6; rw [e, h.ix.box] at this; cases this
  have hDp : D p := (h.ix.dd p).2 (.inl rfl)
  have hDB : D B := (h.ix.dd B).2 (.inr rfl)
  have hm4 : Mod (fun k => k = p ∨ k = b + 1 + 1 + 1) W3 ((W3.setCell ⟨p, 1, none⟩ (.int .i64 ((usedN Gs : Int) + 1))).setCell ⟨b + 1 + 1 + 1, 0, none⟩ (.int .i64 0)) :=
    ((Mod.refl _ W3).setCell (p := ⟨p, 1, none⟩) (fun _ => .inl rfl) _).setCell (p := ⟨b + 1 + 1 + 1, 0, none⟩) (fun _ => .inr rfl) _
  have hall : Mod (fun k => k = p ∨ k = B ∨ k = b + 1 + 1 + 1) W2 ((W3.setCell ⟨p, 1, none⟩ (.int .i64 ((usedN Gs : Int) + 1))).setCell ⟨b + 1 + 1 + 1, 0, none⟩ (.int .i64 0)) :=
    ((hx.mono (fun k _ e => .inl e) : Mod (fun k => k = p ∨ k = B ∨ k = b + 1 + 1 + 1) W2 Wx).then h3 (fun k _ e => .inr (.inl e))).then hm4 (fun k _ e => e.elim .inl (fun e => .inr (.inr e)))
  have hb3 := h3.heap hpB hbx
  refine ⟨⟨?_, ?_, h.ix.dd, h.ix.ok.put (.inl htag) hsl⟩, ?_, ?_, hall⟩
  · rw [hu, ← ht1]
    refine heap_set_other ?_ (fun e => h6p e.symm)
    have := heap_set1 (j := 1) (v := .int .i64 ((usedN Gs : Int) + 1)) hb3
    simpa using this
  · rw [setG_length, ← flat_put2 (t := tag) (s := slot) (h.ix.ok.at hi) hi hj (.int .u64 z) (by rw [hz])]
    exact owns_mod h3r hm4 (fun g hg e => by
      have : B = g := by simpa [Value.ownBlock] using hg
      subst this
      rcases e with e | e
      · exact hpB e.symm
      · exact h6B e.symm)
  · have hwb := h.wb
    refine (Mod.of_pure h.pu : Mod D w W2).then hall (fun k hk e => ?_)
    rcases e with rfl | rfl | rfl
    · exact hDp
    · exact hDB
    · omega
  · exact heap_set1 (j := 0) (heap_set_other (h3.heap h6B (hx.heap h6p h.h6)) h6p)
end
def insPost (w : World) (D : Nat → Prop) (p : Nat) (sv : Value) (Gs : List Grp) (sum slot : Nat) (e : Ending) (w' : World) : Prop :=
  match insM Gs sum slot with
  | some Gs' => e = .returned (.int .i64 0) ∧ IxRow w' D p sv Gs' ∧ Mod D w w'
  | none => e = .returned (.int .i64 7) ∧ IxRow w' D p sv Gs ∧ Mod D w w'

set_option maxHeartbeats 2000000 in
theorem Insert_ok {w : World} {D : Nat → Prop} {p : Nat} {sv : Value} {Gs : List Grp} (h : IxRow w D p sv Gs) (sum slot : Nat) (hsum : sum < 18446744073709551616) (hslot : slot ≤ 4294967295) :
    Calls Try.prog 50 #[.pointer (some ⟨p, 0, none⟩), .int .u64 sum, .int .u32 slot] w (insPost w D p sv Gs sum slot) := by
  have hlp : p < w.heap.size := lt_of_block h.box
  obtain ⟨B, c, rfl, hc, hB, hDB, hBf, hcells⟩ := h.at
  have hfs := InS.new (sum := sum) (slot := slot) h
  have HF := Lib.hid hfs; have HC := Lib.hid hcells
  clear hfs hcells hBf hc
  (refine (callsIn_wide (n := 0)).1 (callsIn_of_wp_marks Try.func50 rfl trivial (wpIn_wide.2 ?_) rfl); simp only [Try.ntmps50, List.size_toArray, List.length_cons, List.length_nil, Nat.reduceAdd, Nat.reduceSub, Array.replicate_succ, Array.replicate_zero, List.push_toArray, List.append_toArray, List.nil_append, List.cons_append])
  go_upto_region 1 with fail
  generalize (((w.alloc (.cells #[.pointer (some ⟨p, 0, none⟩)] 57)).alloc (.cells #[.int .u64 sum] 22)).alloc (.cells #[.int .u32 slot] 32)).alloc (.cells #[.int .i64 0] 39) = W1 at HF ⊢
  have hws := HF.out.wb
  generalize w.heap.size = b at HF ⊢
  have z3 := HF.out.h3; have z4 := HF.out.h4; have zp := HF.out.ix.box
  have z3_0 := cell_of_row _ _ 0 _ _ _ z3; have z3_f := (fun j => frozen_of_row _ _ j _ _ z3); have z3_l := lt_of_block z3; simp at z3_0; have H_z3 := Lib.hid z3; clear z3
  have z4_0 := cell_of_row _ _ 0 _ _ _ z4; have z4_f := (fun j => frozen_of_row _ _ j _ _ z4); have z4_l := lt_of_block z4; simp at z4_0; have H_z4 := Lib.hid z4; clear z4
  have zp_0 := cell_of_row _ _ 0 _ _ _ zp; have zp_1 := cell_of_row _ _ 1 _ _ _ zp; have zp_2 := cell_of_row _ _ 2 _ _ _ zp; have zp_f := (fun j => frozen_of_row _ _ j _ _ zp); have zp_l := lt_of_block zp; simp at zp_0 zp_1 zp_2; have H_zp := Lib.hid zp; clear zp
  have HG := Lib.hid HF.out.ix.ok.pow
  have wg : IntKind.i64.wrap (Gs.length : Int) = Gs.length := IntWalk.i64_in _ (by have := HG.out.le; omega)
  have HZ := Lib.hid (fun W (hW : W.cell? ⟨p, 0, none⟩ = _) => izero_ok (w := W) (c := c) (a := some ⟨B, 0, none⟩) hW HG.out.pos HG.out.le)
  have HPart := Lib.hid (fun W => Part_ok sum W hsum)
  have HAll := Lib.hid (fun W => ProbeAll_ok (sum / 128) Gs.length W HG.out)
  obtain ⟨part, hpart⟩ : ∃ part, sum / 128 = part := ⟨_, rfl⟩
  rw [hpart] at HPart HAll
  go_upto_region 3 with (go_at_call 53; refine Calls.mono (HZ.out _ zp_0) ?_; rintro e w' ⟨rfl, rfl⟩)
  go_region_held3 (fun w' => w'.cell? ⟨b, 0, none⟩ = some (.pointer (some ⟨p, 0, none⟩)) ∧ w'.cell? ⟨b + 1, 0, none⟩ = some (.int .u64 sum) ∧ w'.cell? ⟨p, 0, none⟩ = some (.slice (some ⟨B, 0, none⟩) Gs.length c))
    (first | go_keep | exact ⟨hp2.cell (fun h => h) z3_0, hp2.cell (fun h => h) z4_0, hp2.cell (fun h => h) zp_0⟩)
    (first
      | (go_at_call 70; (with_reducible refine Calls.mono (HPart.out _) ?_); rintro e w' ⟨rfl, rfl⟩)
      | (go_at_call 69; (with_reducible refine Calls.mono (HAll.out _) ?_); rintro e w2 ⟨B1, B2, B3, rfl, hit, hp2, hB1, hB2, hB3⟩))
  have hpw : Pure W1 w2 := hp2.of_drew
  have hfo : InO w D p (.slice (some ⟨B, 0, none⟩) Gs.length c) Gs sum slot b B1 B2 B3 w2.heap.size [] w2 := by
    refine ⟨HF.out.pure hpw, by rw [hpart]; exact hit, by simp, Nat.le_refl _⟩
  have hItlt : ∀ k, probeBlocks B1 B2 B3 k → k < w2.heap.size := by
    rintro k (rfl | rfl | rfl)
    · exact lt_of_block hit.many
    · exact lt_of_block hit.part
    · exact lt_of_block hit.grps
  have hw2 : w.heap.size ≤ w2.heap.size := Nat.le_trans HF.out.pu.size hpw.size
  have hpl : part < 144115188075855872 := by omega
  have HO := Lib.hid hfo
  clear z3_0 z3_f z3_l
  clear z4_0 z4_f z4_l
  clear zp_0 zp_1 zp_2 zp_f zp_l
  clear H_z3 H_z4 H_zp HF hfo HPart HAll HZ hp2 hpw hB1 hB2 hB3
  go_wp2
  refine wpIn_wide.1 (wp_range2 (gf := 84) (lb := #[.pointer (some ⟨B1, 0, none⟩), .pointer (some ⟨B2, 0, none⟩), .pointer (some ⟨B3, 0, none⟩)]) rfl (enters_of Try.func84 (by kernel_rfl) rfl) (It := probeBlocks B1 B2 B3) (Probe_iter hit HG.out hpl) hItlt (fun _ => rfl)
    (fun pre W => InO w D p (.slice (some ⟨B, 0, none⟩) Gs.length c) Gs sum slot b B1 B2 B3 w2.heap.size pre W) (fun cd _ W => cd = .ret ∧ InR w D p (.slice (some ⟨B, 0, none⟩) Gs.length c) Gs sum slot b W) ?hI ?hIx HO.out ?round ?done ?stop)
  case hI => exact fun pre X Y h hq => h.quiet hw2 hq
  case hIx => exact fun cd pre X Y h hq => ⟨h.1, h.2.quiet hw2 hq⟩
  case stop =>
    rintro l cd pre W hl ⟨rfl, h1⟩ hK
    obtain ⟨Gs', g1, g2, g3, g4, g5⟩ := h1.quiet hw2 (Quiet.putObj (.deferred none) hl hK rfl)
    have y6 := cell_of_row _ _ 0 _ _ _ g4
    simp at y6
    refine wpIn_wide.2 ?_
    go_wp2
    exact bodyPostM_drained (v := .int .i64 0) hK (by simp [results, Try.results50, go_sem, y6]) (by unfold insPost; rw [g1]; exact ⟨rfl, g5, g2⟩)
  case done =>
    rintro l xs W hl hS hI hK
    have hS' : xs = probes part Gs.length := hS
    have hn : insM Gs sum slot = none := by
      unfold insM
      rw [hpart, ← hS']
      have := insFrom_skip (Gs := Gs) (tag := sum % 128) (slot := slot) xs [] hI.fl
      rw [List.append_nil] at this
      exact this
    have z6 := hI.fs.h6
    have HI := Lib.hid hI
    have hwb := hI.fs.wb
    clear hI HO hit hItlt
    have z6_0 := cell_of_row _ _ 0 _ _ _ z6; have z6_f := (fun j => frozen_of_row _ _ j _ _ z6); have z6_l := lt_of_block z6; simp at z6_0; have H_z6 := Lib.hid z6; clear z6
    go_wp2
    have hm : Mod (fun k => k = b + 1 + 1 + 1) W (W.setCell ⟨b + 1 + 1 + 1, 0, none⟩ (.int .i64 7)) := Mod.set1 _ _ _
    have hk := hm.heap (by intro e; subst e; rw [H_z6.out] at hK; cases hK) hK
    have hq : Quiet w2.heap.size _ _ := Quiet.putObj (.deferred none) hl hk rfl
    have y6 := cell_of_row _ _ 0 _ _ _ (hq.cells (heap_set1 (j := 0) (v := .int .i64 7) H_z6.out))
    simp at y6
    refine bodyPostM_drained (v := .int .i64 7) hk (by simp [results, Try.results50, go_sem, y6]) ?_
    unfold insPost
    rw [hn]
    refine ⟨rfl, (HI.out.fs.ix.mod hm (fun k hk e => ?_)).quiet hq, hq.mod (Mod.mono ((Mod.of_pure HI.out.fs.pu).then hm (fun i hi e => by omega) : Mod (fun _ => False) w _) (fun _ _ h => h.elim)) hw2⟩
    subst e
    rcases (HI.out.fs.ix.dd _).1 hk with e | e
    · rw [e, HI.out.fs.ix.box] at H_z6; cases H_z6.out
    · obtain ⟨cc, e2⟩ := owns_type HI.out.fs.ix.row e
      rw [e2] at H_z6; cases H_z6.out
  case round =>
    rintro l pre i W K hI hG hK
    obtain ⟨post, hpost⟩ := hG
    have hil : i < Gs.length := by
      have : i ∈ probes part Gs.length := by rw [hpost]; simp
      unfold probes at this
      obtain ⟨k, hk, rfl⟩ := List.mem_map.1 this
      exact Nat.mod_lt _ HG.out.pos
    dsimp only [encN]
    have HI := Lib.hid hI; have HK := Lib.hid hK; have HPO := Lib.hid hpost
    clear hI hK HO hit hpost
    gi_wp2
    refine HK.out _ _ (Mod.refl _ _) (fun l' W2 hl hr hq => ?_)
    replace HI := Lib.hid (HI.out.quiet hw2 hq)
    clear HK hq W hr
    have z3 := HI.out.fs.h3; have zp := HI.out.fs.ix.box
    have z3_0 := cell_of_row _ _ 0 _ _ _ z3; have z3_f := (fun j => frozen_of_row _ _ j _ _ z3); have z3_l := lt_of_block z3; simp at z3_0; have H_z3 := Lib.hid z3; clear z3
    have zp_0 := cell_of_row _ _ 0 _ _ _ zp; have zp_1 := cell_of_row _ _ 1 _ _ _ zp; have zp_2 := cell_of_row _ _ 2 _ _ _ zp; have zp_f := (fun j => frozen_of_row _ _ j _ _ zp); have zp_l := lt_of_block zp; simp at zp_0 zp_1 zp_2; have H_zp := Lib.hid zp; clear zp
    have hi0 : (0 : Int) ≤ i := by omega
    have hi1 : (i : Int) < Gs.length := by omega
    have hgl := HG.out.le
    obtain ⟨B', c', hsv, _, hB', hDB', hBf', hcells'⟩ := HI.out.fs.ix.at
    cases hsv
    have zg := (hcells' i hil).1
    have hgo := Lib.hid (HI.out.fs.ix.ok.at hil)
    have hff : freeOf (grpAt Gs i) = lane1 (mask ((grpAt Gs i).1.map (fun x => decide (128 ≤ x)))) := by
      rw [first_mask (by rw [List.length_map]; exact hgo.out.ctl.1)]
      unfold freeOf
      rw [List.findIdx_map]
      rfl
    have hml : mask ((grpAt Gs i).1.map (fun x => decide (128 ≤ x))) < 256 := mask_lt (by rw [List.length_map]; exact hgo.out.ctl.1)
    have zfr := Lib.hid (fun W => Free_ok hgo.out.ctl W)
    have zfi := Lib.hid (fun W => First_ok _ W hml)
    have hfl := first_le _ hml
    rw [← hff] at zfi hfl
    have HFF := Lib.hid hff
    clear hcells' hff hml
    generalize mask ((grpAt Gs i).1.map (fun x => decide (128 ≤ x))) = m at *
    obtain ⟨j, hj⟩ : ∃ j, freeOf (grpAt Gs i) = j := ⟨_, rfl⟩
    rw [hj] at zfi hfl
    by_cases h8 : j = 8
    · subst h8
      gi_wp2_with (first
        | (gi_at_call 72; refine CallsIn.mono (CallsIn.inRound l' (callsIn_wide.2 (zfr.out _))) ?_; rintro e w' ⟨rfl, rfl⟩)
        | (gi_at_call 71; refine CallsIn.mono (CallsIn.inRound l' (callsIn_wide.2 (zfi.out _))) ?_; rintro e w' ⟨rfl, rfl⟩))
      refine ⟨fun _ _ _ h _ => h, ⟨Nat.le_refl _, fun _ _ _ => rfl⟩, ⟨HI.out.fs, HI.out.it, ?_, HI.out.sz⟩⟩
      intro k hk
      rcases List.mem_append.1 hk with hk | hk
      · exact HI.out.fl k hk
      · have : k = i := by simpa using hk
        rw [this]; exact hj
    · have hj8 : j < 8 := by omega
      have hj0 : (0 : Int) ≤ j := by omega
      have hj1 : (j : Int) < 8 := by omega
      have hj2 : (j : Int) ≤ 8 := by omega
      have hjn : ((j : Int) == 8) = false := by simp; omega
      have hbit := mask_bit (p := (grpAt Gs i).1.map (· == 128)) (by rw [List.length_map]; exact hgo.out.ctl.1) j hj8
      have hmz : mask ((grpAt Gs i).1.map (· == 128)) < 256 := mask_lt (by rw [List.length_map]; exact hgo.out.ctl.1)
      have hcj := free_at hgo.out.ctl hj hj8
      have zem := Lib.hid (fun W => Empties_ok hgo.out.ctl.bytes W)
      have hgd : ((grpAt Gs i).1.map (· == 128)).getD j false = decide ((grpAt Gs i).1[j]? = some 128) := by
        rw [List.getD_eq_getElem?_getD, List.getElem?_map]
        rcases hcj with e | e <;> simp [e]
      rw [hgd] at hbit
      generalize mask ((grpAt Gs i).1.map (· == 128)) = me at *
      have hme : me / 2 ^ j < 256 := Nat.lt_of_le_of_lt (Nat.div_le_self _ _) hmz
      have hb1 := bits_and8 _ 1 hme (by omega)
      rw [hbit] at hb1
      rw [Int.natCast_ediv, Int.natCast_pow] at hb1
      have hus := HI.out.fs.ix.ok.used_le
      have htm := HI.out.fs.ix.ok.tomb_le
      obtain ⟨tag, htg⟩ : ∃ tag, sum % 128 = tag := ⟨_, rfl⟩
      have htl : tag < 128 := by omega
      have ztag := Lib.hid (fun W => Tag_ok sum W hsum)
      rw [htg] at ztag
      have zset := Lib.hid (fun W => Set_ok hgo.out.ctl j tag W hj8 htl)
      obtain ⟨z, hz⟩ : ∃ z, word8 ((grpAt Gs i).1.set j tag) = z := ⟨_, rfl⟩
      rw [hz] at zset
      have hu0 := fun a ha => usedN_put (Gs := Gs) (i := i) (j := j) (t := tag) (s := slot) (a := a) hil ha
      have ht0 := fun a ha => tombN_put (Gs := Gs) (i := i) (j := j) (t := tag) (s := slot) (a := a) hil ha
      have htd : (decide (tag < 128)).toNat = 1 := by simp [htl]
      have hte0 : (tag == 254) = false := by simp; omega
      have hte : (tag == 254).toNat = 0 := by rw [hte0]; rfl
      rw [htd] at hu0; rw [hte] at ht0
      rcases hcj with hcj | hcj
      · have hb2 : bits .and .u8 ((me : Int) / 2 ^ j) 1 = 1 := by simpa [hcj] using hb1
        gi_upto_region 11 with (first
          | (gi_at_call 72; refine CallsIn.mono (CallsIn.inRound l' (callsIn_wide.2 (zfr.out _))) ?_; rintro e w' ⟨rfl, rfl⟩)
          | (gi_at_call 71; refine CallsIn.mono (CallsIn.inRound l' (callsIn_wide.2 (zfi.out _))) ?_; rintro e w' ⟨rfl, rfl⟩)
          | (gi_at_call 59; refine CallsIn.mono (CallsIn.inRound l' (callsIn_wide.2 (zem.out _))) ?_; rintro e w' ⟨rfl, rfl⟩))
        have hu1 : usedN (setG Gs i j tag slot) = usedN Gs + 1 := by simpa using hu0 128 hcj
        have ht2 : tombN (setG Gs i j tag slot) = tombN Gs := by simpa using ht0 128 hcj
        clear z3_0 z3_f z3_l
        clear zp_0 zp_1 zp_2 zp_f zp_l
        clear H_z3 H_zp zg
        obtain ⟨Wx, hWx⟩ : ∃ Wx, Wx = W2 := ⟨_, rfl⟩
        have HX : Hid (Mod (fun k => k = p) W2 Wx) := hWx ▸ Mod.refl _ W2
        have HBX : Hid (Wx.heap[p]? = _) := hWx ▸ HI.out.fs.ix.box
        have ht1 : Hid ((tombN Gs : Int) = tombN (setG Gs i j tag slot)) := by show ((tombN Gs : Int) = tombN (setG Gs i j tag slot)); rw [ht2]
        clear ht2
        rw [← hWx]
        clear hWx
        have np : ∀ {k : Nat} {cs : Array Value} {T : TypeId}, W2.heap[k]? = some (.cells cs T (0, 0)) → T ≠ 85 → k ≠ p := fun hk hT e => by
          have := HI.out.fs.ix.box; rw [e, this] at hk; cases hk; exact hT rfl
        have z4 := HX.out.heap (np HI.out.fs.h4 (by decide)) HI.out.fs.h4
        have hrx := owns_mod HI.out.fs.ix.row HX.out (fun g hg e => by
          obtain ⟨cc, e2⟩ := owns_type HI.out.fs.ix.row hg
          rw [e, HI.out.fs.ix.box] at e2; cases e2)
        obtain ⟨B2, c2, hsv2, _, hBx, hcx, hfx, _⟩ := owns_at hrx HG.out.pos
        cases hsv2
        have zgx : Wx.cell? ⟨B, i * 9, none⟩ = some (.int .u64 (word8 (grpAt Gs i).1)) := by
          have := flat_get groupCells 9 groupCells_length 0 (by omega) Gs i
          rw [grpAt_some hil] at this
          exact hcx _ _ this
        have HRX := Lib.hid hrx
        clear hcx hrx
        have z4_0 := cell_of_row _ _ 0 _ _ _ z4; have z4_f := (fun j => frozen_of_row _ _ j _ _ z4); have z4_l := lt_of_block z4; simp at z4_0; have H_z4 := Lib.hid z4; clear z4
        gi_cut [] from 57 (fun wc => wc = Wx.drew.drew.setCell ⟨B, i * 9, none⟩ (.int .u64 z))
        case first =>
          rename_i Jc Kc hJc hKc
          refine region_in (by kernel_rfl) (by kernel_rfl) ?_
          (refine wpAnyIn_take (i := 0) (v := ?_) rfl rfl (by kernel_rfl) (by kernel_rfl) (by kernel_rfl) (fun _ _ _ h => h) ⟨Or.inl ⟨by rfl, ?_⟩, fun _ => rfl⟩ ?_; rotate_left 1; focus (intro w; go_simp; try with_reducible rfl))
          (refine wpAnyIn_take (i := 1) (v := ?_) rfl rfl (by kernel_rfl) (by kernel_rfl) (by kernel_rfl) (fun _ _ _ h => h) ⟨Or.inl ⟨by rfl, ?_⟩, fun _ => rfl⟩ ?_; rotate_left 1; focus (intro w; go_simp; try with_reducible rfl))
          (refine wpAnyIn_take (i := 2) (v := ?_) rfl rfl (by kernel_rfl) (by kernel_rfl) (by kernel_rfl) (fun _ _ _ h => h) ⟨Or.inl ⟨by rfl, ?_⟩, fun _ => rfl⟩ ?_; rotate_left 1; focus (intro w; go_simp; try with_reducible rfl))
          (refine wpAnyIn_take (i := 3) (v := ?_) rfl rfl (by kernel_rfl) (by kernel_rfl) (by kernel_rfl) (fun _ _ _ h => h) ⟨Or.inl ⟨by rfl, ?_⟩, fun _ => rfl⟩ ?_; rotate_left 1; focus (intro w; go_simp; try with_reducible rfl))
          (refine wpAnyIn_take (i := 5) (v := ?_) rfl rfl (by kernel_rfl) (by kernel_rfl) (by kernel_rfl) (fun _ _ _ h => h) ⟨Or.inl ⟨by rfl, ?_⟩, fun _ => rfl⟩ ?_; rotate_left 1; focus (intro w; go_simp; try with_reducible rfl))
          refine wpAnyIn_ready (rs := [4, 6]) (by kernel_rfl) (by simp) ?_
          refine AllReadyIn.cons rfl (fun K hK => ?_) (AllReadyIn.cons rfl (fun K hK => ?_) AllReadyIn.nil)
          · go_simp
            refine hK _ _ ?_
            clear hK K
            (refine wpAnyIn_ready (rs := [6]) (by kernel_rfl) (by simp) ?_; refine AllReadyIn.cons rfl (fun K hK => ?_) AllReadyIn.nil; go_simp; skip; refine hK _ _ ?_; clear hK K)
            (refine wpAnyIn_ready (rs := [7]) (by kernel_rfl) (by simp) ?_; refine AllReadyIn.cons rfl (fun K hK => ?_) AllReadyIn.nil; go_simp; (refine (callsIn_wide.2 (ztag.out _)).mono ?_; rintro e w' ⟨rfl, rfl⟩); refine hK _ _ ?_; clear hK K)
            (refine wpAnyIn_ready (rs := [8]) (by kernel_rfl) (by simp) ?_; refine AllReadyIn.cons rfl (fun K hK => ?_) AllReadyIn.nil; go_simp; (refine (callsIn_wide.2 (zset.out _)).mono ?_; rintro e w' ⟨rfl, rfl⟩); refine hK _ _ ?_; clear hK K)
            (refine wpAnyIn_take (i := 9) (v := ?_) rfl rfl (by kernel_rfl) (by kernel_rfl) (by kernel_rfl) (fun _ _ _ h => h) ⟨Or.inl ⟨by rfl, ?_⟩, fun _ => rfl⟩ ?_; rotate_left 1; focus (intro w; go_simp; try with_reducible rfl))
            (refine wpAnyIn_take (i := 10) (v := ?_) rfl rfl (by kernel_rfl) (by kernel_rfl) (by kernel_rfl) (fun _ _ _ h => h) ⟨Or.inl ⟨by rfl, ?_⟩, fun _ => rfl⟩ ?_; rotate_left 1; focus (intro w; go_simp; try with_reducible rfl))
            (refine wpAnyIn_take (i := 11) (v := ?_) rfl rfl (by kernel_rfl) (by kernel_rfl) (by kernel_rfl) (fun _ _ _ h => h) ⟨Or.inl ⟨by rfl, ?_⟩, fun _ => rfl⟩ ?_; rotate_left 1; focus (intro w; go_simp; try with_reducible rfl))
            (refine wpAnyIn_take (i := 12) (v := ?_) rfl rfl (by kernel_rfl) (by kernel_rfl) (by kernel_rfl) (fun _ _ _ h => h) ⟨Or.inl ⟨by rfl, ?_⟩, fun _ => rfl⟩ ?_; rotate_left 1; focus (intro w; go_simp; try with_reducible rfl))
            (refine wpAnyIn_take (i := 13) (v := ?_) rfl rfl (by kernel_rfl) (by kernel_rfl) (by kernel_rfl) (fun _ _ _ h => h) ⟨Or.inl ⟨by rfl, ?_⟩, fun _ => rfl⟩ ?_; rotate_left 1; focus (intro w; go_simp; try with_reducible rfl))
            (refine wpAnyIn_ready (rs := [14]) (by kernel_rfl) (by simp) ?_; refine AllReadyIn.cons rfl (fun K hK => ?_) AllReadyIn.nil; go_simp; skip; refine hK _ _ ?_; clear hK K)
            refine wpAnyIn_done (by kernel_rfl) ?_ _
            gi_wp2_with fail
            refine Met.intro (hJc _ _ ?_)
            repeat apply Exists.intro
            exact ⟨rfl, rfl⟩
          · go_simp
            refine hK _ _ ?_
            clear hK K
            refine wpAnyIn_ready (rs := [4, 7]) (by kernel_rfl) (by simp) ?_
            refine AllReadyIn.cons rfl (fun K hK => ?_) (AllReadyIn.cons rfl (fun K hK => ?_) AllReadyIn.nil)
            · go_simp
              refine hK _ _ ?_
              clear hK K
              (refine wpAnyIn_ready (rs := [7]) (by kernel_rfl) (by simp) ?_; refine AllReadyIn.cons rfl (fun K hK => ?_) AllReadyIn.nil; go_simp; (refine (callsIn_wide.2 (ztag.out _)).mono ?_; rintro e w' ⟨rfl, rfl⟩); refine hK _ _ ?_; clear hK K)
              (refine wpAnyIn_ready (rs := [8]) (by kernel_rfl) (by simp) ?_; refine AllReadyIn.cons rfl (fun K hK => ?_) AllReadyIn.nil; go_simp; (refine (callsIn_wide.2 (zset.out _)).mono ?_; rintro e w' ⟨rfl, rfl⟩); refine hK _ _ ?_; clear hK K)
              (refine wpAnyIn_take (i := 9) (v := ?_) rfl rfl (by kernel_rfl) (by kernel_rfl) (by kernel_rfl) (fun _ _ _ h => h) ⟨Or.inl ⟨by rfl, ?_⟩, fun _ => rfl⟩ ?_; rotate_left 1; focus (intro w; go_simp; try with_reducible rfl))
              (refine wpAnyIn_take (i := 10) (v := ?_) rfl rfl (by kernel_rfl) (by kernel_rfl) (by kernel_rfl) (fun _ _ _ h => h) ⟨Or.inl ⟨by rfl, ?_⟩, fun _ => rfl⟩ ?_; rotate_left 1; focus (intro w; go_simp; try with_reducible rfl))
              (refine wpAnyIn_take (i := 11) (v := ?_) rfl rfl (by kernel_rfl) (by kernel_rfl) (by kernel_rfl) (fun _ _ _ h => h) ⟨Or.inl ⟨by rfl, ?_⟩, fun _ => rfl⟩ ?_; rotate_left 1; focus (intro w; go_simp; try with_reducible rfl))
              (refine wpAnyIn_take (i := 12) (v := ?_) rfl rfl (by kernel_rfl) (by kernel_rfl) (by kernel_rfl) (fun _ _ _ h => h) ⟨Or.inl ⟨by rfl, ?_⟩, fun _ => rfl⟩ ?_; rotate_left 1; focus (intro w; go_simp; try with_reducible rfl))
              (refine wpAnyIn_take (i := 13) (v := ?_) rfl rfl (by kernel_rfl) (by kernel_rfl) (by kernel_rfl) (fun _ _ _ h => h) ⟨Or.inl ⟨by rfl, ?_⟩, fun _ => rfl⟩ ?_; rotate_left 1; focus (intro w; go_simp; try with_reducible rfl))
              (refine wpAnyIn_ready (rs := [14]) (by kernel_rfl) (by simp) ?_; refine AllReadyIn.cons rfl (fun K hK => ?_) AllReadyIn.nil; go_simp; skip; refine hK _ _ ?_; clear hK K)
              refine wpAnyIn_done (by kernel_rfl) ?_ _
              gi_wp2_with fail
              refine Met.intro (hJc _ _ ?_)
              repeat apply Exists.intro
              exact ⟨rfl, rfl⟩
            · go_simp
              refine (callsIn_wide.2 (ztag.out _)).mono ?_
              rintro e w' ⟨rfl, rfl⟩
              refine hK _ _ ?_
              clear hK K
              (refine wpAnyIn_ready (rs := [4]) (by kernel_rfl) (by simp) ?_; refine AllReadyIn.cons rfl (fun K hK => ?_) AllReadyIn.nil; go_simp; skip; refine hK _ _ ?_; clear hK K)
              (refine wpAnyIn_ready (rs := [8]) (by kernel_rfl) (by simp) ?_; refine AllReadyIn.cons rfl (fun K hK => ?_) AllReadyIn.nil; go_simp; (refine (callsIn_wide.2 (zset.out _)).mono ?_; rintro e w' ⟨rfl, rfl⟩); refine hK _ _ ?_; clear hK K)
              (refine wpAnyIn_take (i := 9) (v := ?_) rfl rfl (by kernel_rfl) (by kernel_rfl) (by kernel_rfl) (fun _ _ _ h => h) ⟨Or.inl ⟨by rfl, ?_⟩, fun _ => rfl⟩ ?_; rotate_left 1; focus (intro w; go_simp; try with_reducible rfl))
              (refine wpAnyIn_take (i := 10) (v := ?_) rfl rfl (by kernel_rfl) (by kernel_rfl) (by kernel_rfl) (fun _ _ _ h => h) ⟨Or.inl ⟨by rfl, ?_⟩, fun _ => rfl⟩ ?_; rotate_left 1; focus (intro w; go_simp; try with_reducible rfl))
              (refine wpAnyIn_take (i := 11) (v := ?_) rfl rfl (by kernel_rfl) (by kernel_rfl) (by kernel_rfl) (fun _ _ _ h => h) ⟨Or.inl ⟨by rfl, ?_⟩, fun _ => rfl⟩ ?_; rotate_left 1; focus (intro w; go_simp; try with_reducible rfl))
              (refine wpAnyIn_take (i := 12) (v := ?_) rfl rfl (by kernel_rfl) (by kernel_rfl) (by kernel_rfl) (fun _ _ _ h => h) ⟨Or.inl ⟨by rfl, ?_⟩, fun _ => rfl⟩ ?_; rotate_left 1; focus (intro w; go_simp; try with_reducible rfl))
              (refine wpAnyIn_take (i := 13) (v := ?_) rfl rfl (by kernel_rfl) (by kernel_rfl) (by kernel_rfl) (fun _ _ _ h => h) ⟨Or.inl ⟨by rfl, ?_⟩, fun _ => rfl⟩ ?_; rotate_left 1; focus (intro w; go_simp; try with_reducible rfl))
              (refine wpAnyIn_ready (rs := [14]) (by kernel_rfl) (by simp) ?_; refine AllReadyIn.cons rfl (fun K hK => ?_) AllReadyIn.nil; go_simp; skip; refine hK _ _ ?_; clear hK K)
              refine wpAnyIn_done (by kernel_rfl) ?_ _
              gi_wp2_with fail
              refine Met.intro (hJc _ _ ?_)
              repeat apply Exists.intro
              exact ⟨rfl, rfl⟩
        case rest =>
          subst hcut
          have hm1 : Mod (fun k => k = B) Wx (Wx.drew.drew.setCell ⟨B, i * 9, none⟩ (.int .u64 z)) := Mod.of_drew (Mod.of_drew (Mod.set1 B (i * 9) _))
          have nB : ∀ {k : Nat} {cs : Array Value} {T : TypeId}, W2.heap[k]? = some (.cells cs T (0, 0)) → T ≠ 89 → k ≠ B := fun hk hT e => by
            obtain ⟨cc, e2⟩ := owns_type HI.out.fs.ix.row (g := B) rfl
            rw [e, e2] at hk; cases hk; exact hT rfl
          have z5 := hm1.heap (nB HI.out.fs.h5 (by decide)) (HX.out.heap (np HI.out.fs.h5 (by decide)) HI.out.fs.h5)
          have hr1 : (Wx.drew.drew.setCell ⟨B, i * 9, none⟩ (.int .u64 z)).ownsRow 0 89 9 (.slice (some ⟨B, 0, none⟩) Gs.length c) Gs.length ((Gs.flatMap groupCells).set (i * 9) (.int .u64 z)) :=
            owns_setCell (owns_mod HRX.out (Mod.drew (Mod.drew (Mod.refl (fun _ => False) Wx))) (fun _ _ h => h)) (i * 9) (.int .u64 z) (by omega)
          obtain ⟨B3', c3, hsv3, _, hB3', hc3, hf3, _⟩ := owns_at hr1 HG.out.pos
          cases hsv3
          have hl9 : i * 9 + 1 + j < ((Gs.flatMap groupCells).set (i * 9) (.int .u64 z)).length := by rw [hr1.1]; omega
          have zs0 : ∃ u, (Wx.drew.drew.setCell ⟨B, i * 9, none⟩ (.int .u64 z)).cell? ⟨B, i * 9 + 1 + j, none⟩ = some u := ⟨_, hc3 _ _ (List.getElem?_eq_getElem hl9)⟩
          obtain ⟨u0, zs⟩ := zs0
          clear hc3 hl9
          have HR1 := Lib.hid hr1; have HM1 := Lib.hid hm1
          clear z4_0 z4_f z4_l
          clear H_z4 hm1 hr1 zgx hfx
          generalize Wx.drew.drew.setCell ⟨B, i * 9, none⟩ (.int .u64 z) = W5 at *
          have z5_0 := cell_of_row _ _ 0 _ _ _ z5; have z5_f := (fun j => frozen_of_row _ _ j _ _ z5); have z5_l := lt_of_block z5; simp at z5_0; have H_z5 := Lib.hid z5; clear z5
          gi_upto_region 12 with fail
          gi_cut [] from 71 (fun wc => wc = W5.drew.setCell ⟨B, i * 9 + 1 + j, none⟩ (.int .u32 slot))
          case first =>
            rename_i Jc Kc hJc hKc
            refine region_in (by kernel_rfl) (by kernel_rfl) ?_
            (refine wpAnyIn_take (i := 0) (v := ?_) rfl rfl (by kernel_rfl) (by kernel_rfl) (by kernel_rfl) (fun _ _ _ h => h) ⟨Or.inl ⟨by rfl, ?_⟩, fun _ => rfl⟩ ?_; rotate_left 1; focus (intro w; go_simp; try with_reducible rfl))
            (refine wpAnyIn_take (i := 1) (v := ?_) rfl rfl (by kernel_rfl) (by kernel_rfl) (by kernel_rfl) (fun _ _ _ h => h) ⟨Or.inl ⟨by rfl, ?_⟩, fun _ => rfl⟩ ?_; rotate_left 1; focus (intro w; go_simp; try with_reducible rfl))
            (refine wpAnyIn_take (i := 3) (v := ?_) rfl rfl (by kernel_rfl) (by kernel_rfl) (by kernel_rfl) (fun _ _ _ h => h) ⟨Or.inl ⟨by rfl, ?_⟩, fun _ => rfl⟩ ?_; rotate_left 1; focus (intro w; go_simp; try with_reducible rfl))
            (refine wpAnyIn_take (i := 4) (v := ?_) rfl rfl (by kernel_rfl) (by kernel_rfl) (by kernel_rfl) (fun _ _ _ h => h) ⟨Or.inl ⟨by rfl, ?_⟩, fun _ => rfl⟩ ?_; rotate_left 1; focus (intro w; go_simp; try with_reducible rfl))
            (refine wpAnyIn_ready (rs := [2]) (by kernel_rfl) (by simp) ?_; refine AllReadyIn.cons rfl (fun K hK => ?_) AllReadyIn.nil; go_simp; skip; refine hK _ _ ?_; clear hK K)
            (refine wpAnyIn_take (i := 5) (v := ?_) rfl rfl (by kernel_rfl) (by kernel_rfl) (by kernel_rfl) (fun _ _ _ h => h) ⟨Or.inl ⟨by rfl, ?_⟩, fun _ => rfl⟩ ?_; rotate_left 1; focus (intro w; go_simp; try with_reducible rfl))
            (refine wpAnyIn_ready (rs := [6]) (by kernel_rfl) (by simp) ?_; refine AllReadyIn.cons rfl (fun K hK => ?_) AllReadyIn.nil; go_simp; skip; refine hK _ _ ?_; clear hK K)
            refine wpAnyIn_done (by kernel_rfl) ?_ _
            gi_wp2_with fail
            refine Met.intro (hJc _ _ ?_)
            repeat apply Exists.intro
            exact ⟨rfl, rfl⟩
          case rest =>
            subst hcut
            have hm2 : Mod (fun k => k = B) Wx (W5.drew.setCell ⟨B, i * 9 + 1 + j, none⟩ (.int .u32 slot)) := HM1.out.trans (Mod.of_drew (Mod.set1 B (i * 9 + 1 + j) _))
            have hr2 := owns_setCell (owns_mod HR1.out (Mod.drew (Mod.refl (fun _ => False) W5)) (fun _ _ h => h)) (i * 9 + 1 + j) (.int .u32 slot) (by omega)
            have z3 := hm2.heap (nB HI.out.fs.h3 (by decide)) (HX.out.heap (np HI.out.fs.h3 (by decide)) HI.out.fs.h3)
            have zp := hm2.heap (nB HI.out.fs.ix.box (by decide)) HBX.out
            have z6 := hm2.heap (nB HI.out.fs.h6 (by decide)) (HX.out.heap (np HI.out.fs.h6 (by decide)) HI.out.fs.h6)
            have HE := Lib.hid (ins_fin HI.out.fs HX.out HBX.out hil hj8 ht1.out htl hslot hz hu1 hm2 hr2 rfl)
            clear z5_0 z5_f z5_l
            clear H_z5 hm2 hr2 zs hf3
            generalize W5.drew.setCell ⟨B, i * 9 + 1 + j, none⟩ (.int .u32 slot) = W6 at *
            have z3_0 := cell_of_row _ _ 0 _ _ _ z3; have z3_f := (fun j => frozen_of_row _ _ j _ _ z3); have z3_l := lt_of_block z3; simp at z3_0; have H_z3 := Lib.hid z3; clear z3
            have zp_0 := cell_of_row _ _ 0 _ _ _ zp; have zp_1 := cell_of_row _ _ 1 _ _ _ zp; have zp_2 := cell_of_row _ _ 2 _ _ _ zp; have zp_f := (fun j => frozen_of_row _ _ j _ _ zp); have zp_l := lt_of_block zp; simp at zp_0 zp_1 zp_2; have H_zp := Lib.hid zp; clear zp
            have z6_0 := cell_of_row _ _ 0 _ _ _ z6; have z6_f := (fun j => frozen_of_row _ _ j _ _ z6); have z6_l := lt_of_block z6; simp at z6_0; have H_z6 := Lib.hid z6; clear z6
            have wu : IntKind.i64.wrap ((usedN Gs : Int) + 1) = (usedN Gs : Int) + 1 := IntWalk.i64_in _ (by omega)
            gi_wp2
            obtain ⟨E1, E2, E3, E4⟩ := HE.out
            refine ⟨KeepsRec.of_mod E4 (fun k _ hk o ho => ?_), rfl, _, ?_, E2, HI.out.fs.wb, E3, E1⟩
            · rcases hk with e | e | e
              · rw [e, HI.out.fs.ix.box] at ho; cases ho; rfl
              · obtain ⟨cc, e2⟩ := owns_type HI.out.fs.ix.row (g := B) rfl
                rw [e, e2] at ho; cases ho; rfl
              · rw [e, HI.out.fs.h6] at ho; cases ho; rfl
            · unfold insM
              rw [hpart, HPO.out, insFrom_skip pre (i :: post) HI.out.fl, htg]
              simp only [insFrom]
              rw [if_neg (by rw [hj]; omega), hj]
      · have hb2 : bits .and .u8 ((me : Int) / 2 ^ j) 1 = 0 := by simpa [hcj] using hb1
        gi_upto_region 11 with (first
          | (gi_at_call 72; refine CallsIn.mono (CallsIn.inRound l' (callsIn_wide.2 (zfr.out _))) ?_; rintro e w' ⟨rfl, rfl⟩)
          | (gi_at_call 71; refine CallsIn.mono (CallsIn.inRound l' (callsIn_wide.2 (zfi.out _))) ?_; rintro e w' ⟨rfl, rfl⟩)
          | (gi_at_call 59; refine CallsIn.mono (CallsIn.inRound l' (callsIn_wide.2 (zem.out _))) ?_; rintro e w' ⟨rfl, rfl⟩))
        have hu1 : usedN (setG Gs i j tag slot) = usedN Gs + 1 := by simpa using hu0 254 hcj
        have ht2 : tombN (setG Gs i j tag slot) + 1 = tombN Gs := by simpa using ht0 254 hcj
        have HX : Hid (Mod (fun k => k = p) W2 (W2.setCell ⟨p, 2, none⟩ (.int .i64 ((tombN Gs : Int) - 1)))) := Mod.set1 _ _ _
        have hbx0 := heap_set1 (j := 2) (v := .int .i64 ((tombN Gs : Int) - 1)) HI.out.fs.ix.box
        simp at hbx0
        have HBX := Lib.hid hbx0
        clear hbx0
        have ht1 : Hid ((tombN Gs : Int) - 1 = tombN (setG Gs i j tag slot)) := by show ((tombN Gs : Int) - 1 = tombN (setG Gs i j tag slot)); omega
        clear ht2
        clear z3_0 z3_f z3_l
        clear zp_0 zp_1 zp_2 zp_f zp_l
        clear H_z3 H_zp zg
        generalize W2.setCell ⟨p, 2, none⟩ (.int .i64 ((tombN Gs : Int) - 1)) = Wx at *
        have np : ∀ {k : Nat} {cs : Array Value} {T : TypeId}, W2.heap[k]? = some (.cells cs T (0, 0)) → T ≠ 85 → k ≠ p := fun hk hT e => by
          have := HI.out.fs.ix.box; rw [e, this] at hk; cases hk; exact hT rfl
        have z4 := HX.out.heap (np HI.out.fs.h4 (by decide)) HI.out.fs.h4
        have hrx := owns_mod HI.out.fs.ix.row HX.out (fun g hg e => by
          obtain ⟨cc, e2⟩ := owns_type HI.out.fs.ix.row hg
          rw [e, HI.out.fs.ix.box] at e2; cases e2)
        obtain ⟨B2, c2, hsv2, _, hBx, hcx, hfx, _⟩ := owns_at hrx HG.out.pos
        cases hsv2
        have zgx : Wx.cell? ⟨B, i * 9, none⟩ = some (.int .u64 (word8 (grpAt Gs i).1)) := by
          have := flat_get groupCells 9 groupCells_length 0 (by omega) Gs i
          rw [grpAt_some hil] at this
          exact hcx _ _ this
        have HRX := Lib.hid hrx
        clear hcx hrx
        have z4_0 := cell_of_row _ _ 0 _ _ _ z4; have z4_f := (fun j => frozen_of_row _ _ j _ _ z4); have z4_l := lt_of_block z4; simp at z4_0; have H_z4 := Lib.hid z4; clear z4
        gi_cut [] from 57 (fun wc => wc = Wx.drew.drew.setCell ⟨B, i * 9, none⟩ (.int .u64 z))
        case first =>
          rename_i Jc Kc hJc hKc
          refine region_in (by kernel_rfl) (by kernel_rfl) ?_
          (refine wpAnyIn_take (i := 0) (v := ?_) rfl rfl (by kernel_rfl) (by kernel_rfl) (by kernel_rfl) (fun _ _ _ h => h) ⟨Or.inl ⟨by rfl, ?_⟩, fun _ => rfl⟩ ?_; rotate_left 1; focus (intro w; go_simp; try with_reducible rfl))
          (refine wpAnyIn_take (i := 1) (v := ?_) rfl rfl (by kernel_rfl) (by kernel_rfl) (by kernel_rfl) (fun _ _ _ h => h) ⟨Or.inl ⟨by rfl, ?_⟩, fun _ => rfl⟩ ?_; rotate_left 1; focus (intro w; go_simp; try with_reducible rfl))
          (refine wpAnyIn_take (i := 2) (v := ?_) rfl rfl (by kernel_rfl) (by kernel_rfl) (by kernel_rfl) (fun _ _ _ h => h) ⟨Or.inl ⟨by rfl, ?_⟩, fun _ => rfl⟩ ?_; rotate_left 1; focus (intro w; go_simp; try with_reducible rfl))
          (refine wpAnyIn_take (i := 3) (v := ?_) rfl rfl (by kernel_rfl) (by kernel_rfl) (by kernel_rfl) (fun _ _ _ h => h) ⟨Or.inl ⟨by rfl, ?_⟩, fun _ => rfl⟩ ?_; rotate_left 1; focus (intro w; go_simp; try with_reducible rfl))
          (refine wpAnyIn_take (i := 5) (v := ?_) rfl rfl (by kernel_rfl) (by kernel_rfl) (by kernel_rfl) (fun _ _ _ h => h) ⟨Or.inl ⟨by rfl, ?_⟩, fun _ => rfl⟩ ?_; rotate_left 1; focus (intro w; go_simp; try with_reducible rfl))
          refine wpAnyIn_ready (rs := [4, 6]) (by kernel_rfl) (by simp) ?_
          refine AllReadyIn.cons rfl (fun K hK => ?_) (AllReadyIn.cons rfl (fun K hK => ?_) AllReadyIn.nil)
          · go_simp
            refine hK _ _ ?_
            clear hK K
            (refine wpAnyIn_ready (rs := [6]) (by kernel_rfl) (by simp) ?_; refine AllReadyIn.cons rfl (fun K hK => ?_) AllReadyIn.nil; go_simp; skip; refine hK _ _ ?_; clear hK K)
            (refine wpAnyIn_ready (rs := [7]) (by kernel_rfl) (by simp) ?_; refine AllReadyIn.cons rfl (fun K hK => ?_) AllReadyIn.nil; go_simp; (refine (callsIn_wide.2 (ztag.out _)).mono ?_; rintro e w' ⟨rfl, rfl⟩); refine hK _ _ ?_; clear hK K)
            (refine wpAnyIn_ready (rs := [8]) (by kernel_rfl) (by simp) ?_; refine AllReadyIn.cons rfl (fun K hK => ?_) AllReadyIn.nil; go_simp; (refine (callsIn_wide.2 (zset.out _)).mono ?_; rintro e w' ⟨rfl, rfl⟩); refine hK _ _ ?_; clear hK K)
            (refine wpAnyIn_take (i := 9) (v := ?_) rfl rfl (by kernel_rfl) (by kernel_rfl) (by kernel_rfl) (fun _ _ _ h => h) ⟨Or.inl ⟨by rfl, ?_⟩, fun _ => rfl⟩ ?_; rotate_left 1; focus (intro w; go_simp; try with_reducible rfl))
            (refine wpAnyIn_take (i := 10) (v := ?_) rfl rfl (by kernel_rfl) (by kernel_rfl) (by kernel_rfl) (fun _ _ _ h => h) ⟨Or.inl ⟨by rfl, ?_⟩, fun _ => rfl⟩ ?_; rotate_left 1; focus (intro w; go_simp; try with_reducible rfl))
            (refine wpAnyIn_take (i := 11) (v := ?_) rfl rfl (by kernel_rfl) (by kernel_rfl) (by kernel_rfl) (fun _ _ _ h => h) ⟨Or.inl ⟨by rfl, ?_⟩, fun _ => rfl⟩ ?_; rotate_left 1; focus (intro w; go_simp; try with_reducible rfl))
            (refine wpAnyIn_take (i := 12) (v := ?_) rfl rfl (by kernel_rfl) (by kernel_rfl) (by kernel_rfl) (fun _ _ _ h => h) ⟨Or.inl ⟨by rfl, ?_⟩, fun _ => rfl⟩ ?_; rotate_left 1; focus (intro w; go_simp; try with_reducible rfl))
            (refine wpAnyIn_take (i := 13) (v := ?_) rfl rfl (by kernel_rfl) (by kernel_rfl) (by kernel_rfl) (fun _ _ _ h => h) ⟨Or.inl ⟨by rfl, ?_⟩, fun _ => rfl⟩ ?_; rotate_left 1; focus (intro w; go_simp; try with_reducible rfl))
            (refine wpAnyIn_ready (rs := [14]) (by kernel_rfl) (by simp) ?_; refine AllReadyIn.cons rfl (fun K hK => ?_) AllReadyIn.nil; go_simp; skip; refine hK _ _ ?_; clear hK K)
            refine wpAnyIn_done (by kernel_rfl) ?_ _
            gi_wp2_with fail
            refine Met.intro (hJc _ _ ?_)
            repeat apply Exists.intro
            exact ⟨rfl, rfl⟩
          · go_simp
            refine hK _ _ ?_
            clear hK K
            refine wpAnyIn_ready (rs := [4, 7]) (by kernel_rfl) (by simp) ?_
            refine AllReadyIn.cons rfl (fun K hK => ?_) (AllReadyIn.cons rfl (fun K hK => ?_) AllReadyIn.nil)
            · go_simp
              refine hK _ _ ?_
              clear hK K
              (refine wpAnyIn_ready (rs := [7]) (by kernel_rfl) (by simp) ?_; refine AllReadyIn.cons rfl (fun K hK => ?_) AllReadyIn.nil; go_simp; (refine (callsIn_wide.2 (ztag.out _)).mono ?_; rintro e w' ⟨rfl, rfl⟩); refine hK _ _ ?_; clear hK K)
              (refine wpAnyIn_ready (rs := [8]) (by kernel_rfl) (by simp) ?_; refine AllReadyIn.cons rfl (fun K hK => ?_) AllReadyIn.nil; go_simp; (refine (callsIn_wide.2 (zset.out _)).mono ?_; rintro e w' ⟨rfl, rfl⟩); refine hK _ _ ?_; clear hK K)
              (refine wpAnyIn_take (i := 9) (v := ?_) rfl rfl (by kernel_rfl) (by kernel_rfl) (by kernel_rfl) (fun _ _ _ h => h) ⟨Or.inl ⟨by rfl, ?_⟩, fun _ => rfl⟩ ?_; rotate_left 1; focus (intro w; go_simp; try with_reducible rfl))
              (refine wpAnyIn_take (i := 10) (v := ?_) rfl rfl (by kernel_rfl) (by kernel_rfl) (by kernel_rfl) (fun _ _ _ h => h) ⟨Or.inl ⟨by rfl, ?_⟩, fun _ => rfl⟩ ?_; rotate_left 1; focus (intro w; go_simp; try with_reducible rfl))
              (refine wpAnyIn_take (i := 11) (v := ?_) rfl rfl (by kernel_rfl) (by kernel_rfl) (by kernel_rfl) (fun _ _ _ h => h) ⟨Or.inl ⟨by rfl, ?_⟩, fun _ => rfl⟩ ?_; rotate_left 1; focus (intro w; go_simp; try with_reducible rfl))
              (refine wpAnyIn_take (i := 12) (v := ?_) rfl rfl (by kernel_rfl) (by kernel_rfl) (by kernel_rfl) (fun _ _ _ h => h) ⟨Or.inl ⟨by rfl, ?_⟩, fun _ => rfl⟩ ?_; rotate_left 1; focus (intro w; go_simp; try with_reducible rfl))
              (refine wpAnyIn_take (i := 13) (v := ?_) rfl rfl (by kernel_rfl) (by kernel_rfl) (by kernel_rfl) (fun _ _ _ h => h) ⟨Or.inl ⟨by rfl, ?_⟩, fun _ => rfl⟩ ?_; rotate_left 1; focus (intro w; go_simp; try with_reducible rfl))
              (refine wpAnyIn_ready (rs := [14]) (by kernel_rfl) (by simp) ?_; refine AllReadyIn.cons rfl (fun K hK => ?_) AllReadyIn.nil; go_simp; skip; refine hK _ _ ?_; clear hK K)
              refine wpAnyIn_done (by kernel_rfl) ?_ _
              gi_wp2_with fail
              refine Met.intro (hJc _ _ ?_)
              repeat apply Exists.intro
              exact ⟨rfl, rfl⟩
            · go_simp
              refine (callsIn_wide.2 (ztag.out _)).mono ?_
              rintro e w' ⟨rfl, rfl⟩
              refine hK _ _ ?_
              clear hK K
              (refine wpAnyIn_ready (rs := [4]) (by kernel_rfl) (by simp) ?_; refine AllReadyIn.cons rfl (fun K hK => ?_) AllReadyIn.nil; go_simp; skip; refine hK _ _ ?_; clear hK K)
              (refine wpAnyIn_ready (rs := [8]) (by kernel_rfl) (by simp) ?_; refine AllReadyIn.cons rfl (fun K hK => ?_) AllReadyIn.nil; go_simp; (refine (callsIn_wide.2 (zset.out _)).mono ?_; rintro e w' ⟨rfl, rfl⟩); refine hK _ _ ?_; clear hK K)
              (refine wpAnyIn_take (i := 9) (v := ?_) rfl rfl (by kernel_rfl) (by kernel_rfl) (by kernel_rfl) (fun _ _ _ h => h) ⟨Or.inl ⟨by rfl, ?_⟩, fun _ => rfl⟩ ?_; rotate_left 1; focus (intro w; go_simp; try with_reducible rfl))
              (refine wpAnyIn_take (i := 10) (v := ?_) rfl rfl (by kernel_rfl) (by kernel_rfl) (by kernel_rfl) (fun _ _ _ h => h) ⟨Or.inl ⟨by rfl, ?_⟩, fun _ => rfl⟩ ?_; rotate_left 1; focus (intro w; go_simp; try with_reducible rfl))
              (refine wpAnyIn_take (i := 11) (v := ?_) rfl rfl (by kernel_rfl) (by kernel_rfl) (by kernel_rfl) (fun _ _ _ h => h) ⟨Or.inl ⟨by rfl, ?_⟩, fun _ => rfl⟩ ?_; rotate_left 1; focus (intro w; go_simp; try with_reducible rfl))
              (refine wpAnyIn_take (i := 12) (v := ?_) rfl rfl (by kernel_rfl) (by kernel_rfl) (by kernel_rfl) (fun _ _ _ h => h) ⟨Or.inl ⟨by rfl, ?_⟩, fun _ => rfl⟩ ?_; rotate_left 1; focus (intro w; go_simp; try with_reducible rfl))
              (refine wpAnyIn_take (i := 13) (v := ?_) rfl rfl (by kernel_rfl) (by kernel_rfl) (by kernel_rfl) (fun _ _ _ h => h) ⟨Or.inl ⟨by rfl, ?_⟩, fun _ => rfl⟩ ?_; rotate_left 1; focus (intro w; go_simp; try with_reducible rfl))
              (refine wpAnyIn_ready (rs := [14]) (by kernel_rfl) (by simp) ?_; refine AllReadyIn.cons rfl (fun K hK => ?_) AllReadyIn.nil; go_simp; skip; refine hK _ _ ?_; clear hK K)
              refine wpAnyIn_done (by kernel_rfl) ?_ _
              gi_wp2_with fail
              refine Met.intro (hJc _ _ ?_)
              repeat apply Exists.intro
              exact ⟨rfl, rfl⟩
        case rest =>
          subst hcut
          have hm1 : Mod (fun k => k = B) Wx (Wx.drew.drew.setCell ⟨B, i * 9, none⟩ (.int .u64 z)) := Mod.of_drew (Mod.of_drew (Mod.set1 B (i * 9) _))
          have nB : ∀ {k : Nat} {cs : Array Value} {T : TypeId}, W2.heap[k]? = some (.cells cs T (0, 0)) → T ≠ 89 → k ≠ B := fun hk hT e => by
            obtain ⟨cc, e2⟩ := owns_type HI.out.fs.ix.row (g := B) rfl
            rw [e, e2] at hk; cases hk; exact hT rfl
          have z5 := hm1.heap (nB HI.out.fs.h5 (by decide)) (HX.out.heap (np HI.out.fs.h5 (by decide)) HI.out.fs.h5)
          have hr1 : (Wx.drew.drew.setCell ⟨B, i * 9, none⟩ (.int .u64 z)).ownsRow 0 89 9 (.slice (some ⟨B, 0, none⟩) Gs.length c) Gs.length ((Gs.flatMap groupCells).set (i * 9) (.int .u64 z)) :=
            owns_setCell (owns_mod HRX.out (Mod.drew (Mod.drew (Mod.refl (fun _ => False) Wx))) (fun _ _ h => h)) (i * 9) (.int .u64 z) (by omega)
          obtain ⟨B3', c3, hsv3, _, hB3', hc3, hf3, _⟩ := owns_at hr1 HG.out.pos
          cases hsv3
          have hl9 : i * 9 + 1 + j < ((Gs.flatMap groupCells).set (i * 9) (.int .u64 z)).length := by rw [hr1.1]; omega
          have zs0 : ∃ u, (Wx.drew.drew.setCell ⟨B, i * 9, none⟩ (.int .u64 z)).cell? ⟨B, i * 9 + 1 + j, none⟩ = some u := ⟨_, hc3 _ _ (List.getElem?_eq_getElem hl9)⟩
          obtain ⟨u0, zs⟩ := zs0
          clear hc3 hl9
          have HR1 := Lib.hid hr1; have HM1 := Lib.hid hm1
          clear z4_0 z4_f z4_l
          clear H_z4 hm1 hr1 zgx hfx
          generalize Wx.drew.drew.setCell ⟨B, i * 9, none⟩ (.int .u64 z) = W5 at *
          have z5_0 := cell_of_row _ _ 0 _ _ _ z5; have z5_f := (fun j => frozen_of_row _ _ j _ _ z5); have z5_l := lt_of_block z5; simp at z5_0; have H_z5 := Lib.hid z5; clear z5
          gi_upto_region 12 with fail
          gi_cut [] from 71 (fun wc => wc = W5.drew.setCell ⟨B, i * 9 + 1 + j, none⟩ (.int .u32 slot))
          case first =>
            rename_i Jc Kc hJc hKc
            refine region_in (by kernel_rfl) (by kernel_rfl) ?_
            (refine wpAnyIn_take (i := 0) (v := ?_) rfl rfl (by kernel_rfl) (by kernel_rfl) (by kernel_rfl) (fun _ _ _ h => h) ⟨Or.inl ⟨by rfl, ?_⟩, fun _ => rfl⟩ ?_; rotate_left 1; focus (intro w; go_simp; try with_reducible rfl))
            (refine wpAnyIn_take (i := 1) (v := ?_) rfl rfl (by kernel_rfl) (by kernel_rfl) (by kernel_rfl) (fun _ _ _ h => h) ⟨Or.inl ⟨by rfl, ?_⟩, fun _ => rfl⟩ ?_; rotate_left 1; focus (intro w; go_simp; try with_reducible rfl))
            (refine wpAnyIn_take (i := 3) (v := ?_) rfl rfl (by kernel_rfl) (by kernel_rfl) (by kernel_rfl) (fun _ _ _ h => h) ⟨Or.inl ⟨by rfl, ?_⟩, fun _ => rfl⟩ ?_; rotate_left 1; focus (intro w; go_simp; try with_reducible rfl))
            (refine wpAnyIn_take (i := 4) (v := ?_) rfl rfl (by kernel_rfl) (by kernel_rfl) (by kernel_rfl) (fun _ _ _ h => h) ⟨Or.inl ⟨by rfl, ?_⟩, fun _ => rfl⟩ ?_; rotate_left 1; focus (intro w; go_simp; try with_reducible rfl))
            (refine wpAnyIn_ready (rs := [2]) (by kernel_rfl) (by simp) ?_; refine AllReadyIn.cons rfl (fun K hK => ?_) AllReadyIn.nil; go_simp; skip; refine hK _ _ ?_; clear hK K)
            (refine wpAnyIn_take (i := 5) (v := ?_) rfl rfl (by kernel_rfl) (by kernel_rfl) (by kernel_rfl) (fun _ _ _ h => h) ⟨Or.inl ⟨by rfl, ?_⟩, fun _ => rfl⟩ ?_; rotate_left 1; focus (intro w; go_simp; try with_reducible rfl))
            (refine wpAnyIn_ready (rs := [6]) (by kernel_rfl) (by simp) ?_; refine AllReadyIn.cons rfl (fun K hK => ?_) AllReadyIn.nil; go_simp; skip; refine hK _ _ ?_; clear hK K)
            refine wpAnyIn_done (by kernel_rfl) ?_ _
            gi_wp2_with fail
            refine Met.intro (hJc _ _ ?_)
            repeat apply Exists.intro
            exact ⟨rfl, rfl⟩
          case rest =>
            subst hcut
            have hm2 : Mod (fun k => k = B) Wx (W5.drew.setCell ⟨B, i * 9 + 1 + j, none⟩ (.int .u32 slot)) := HM1.out.trans (Mod.of_drew (Mod.set1 B (i * 9 + 1 + j) _))
            have hr2 := owns_setCell (owns_mod HR1.out (Mod.drew (Mod.refl (fun _ => False) W5)) (fun _ _ h => h)) (i * 9 + 1 + j) (.int .u32 slot) (by omega)
            have z3 := hm2.heap (nB HI.out.fs.h3 (by decide)) (HX.out.heap (np HI.out.fs.h3 (by decide)) HI.out.fs.h3)
            have zp := hm2.heap (nB HI.out.fs.ix.box (by decide)) HBX.out
            have z6 := hm2.heap (nB HI.out.fs.h6 (by decide)) (HX.out.heap (np HI.out.fs.h6 (by decide)) HI.out.fs.h6)
            have HE := Lib.hid (ins_fin HI.out.fs HX.out HBX.out hil hj8 ht1.out htl hslot hz hu1 hm2 hr2 rfl)
            clear z5_0 z5_f z5_l
            clear H_z5 hm2 hr2 zs hf3
            generalize W5.drew.setCell ⟨B, i * 9 + 1 + j, none⟩ (.int .u32 slot) = W6 at *
            have z3_0 := cell_of_row _ _ 0 _ _ _ z3; have z3_f := (fun j => frozen_of_row _ _ j _ _ z3); have z3_l := lt_of_block z3; simp at z3_0; have H_z3 := Lib.hid z3; clear z3
            have zp_0 := cell_of_row _ _ 0 _ _ _ zp; have zp_1 := cell_of_row _ _ 1 _ _ _ zp; have zp_2 := cell_of_row _ _ 2 _ _ _ zp; have zp_f := (fun j => frozen_of_row _ _ j _ _ zp); have zp_l := lt_of_block zp; simp at zp_0 zp_1 zp_2; have H_zp := Lib.hid zp; clear zp
            have z6_0 := cell_of_row _ _ 0 _ _ _ z6; have z6_f := (fun j => frozen_of_row _ _ j _ _ z6); have z6_l := lt_of_block z6; simp at z6_0; have H_z6 := Lib.hid z6; clear z6
            have wu : IntKind.i64.wrap ((usedN Gs : Int) + 1) = (usedN Gs : Int) + 1 := IntWalk.i64_in _ (by omega)
            gi_wp2
            obtain ⟨E1, E2, E3, E4⟩ := HE.out
            refine ⟨KeepsRec.of_mod E4 (fun k _ hk o ho => ?_), rfl, _, ?_, E2, HI.out.fs.wb, E3, E1⟩
            · rcases hk with e | e | e
              · rw [e, HI.out.fs.ix.box] at ho; cases ho; rfl
              · obtain ⟨cc, e2⟩ := owns_type HI.out.fs.ix.row (g := B) rfl
                rw [e, e2] at ho; cases ho; rfl
              · rw [e, HI.out.fs.h6] at ho; cases ho; rfl
            · unfold insM
              rw [hpart, HPO.out, insFrom_skip pre (i :: post) HI.out.fl, htg]
              simp only [insFrom]
              rw [if_neg (by rw [hj]; omega), hj]
end Go.Proofs.Ytapplindfijngaa

/- swiss.Index: Len, Tombs, Groups, Replace$1, Remove$1, Remove, Replace. -/
namespace Go.Proofs.Ytapplindfijngaa
open Go.RowKit Go.Shelf
set_option maxRecDepth 100000

theorem ILen_ok {w : World} {D : Nat → Prop} {p : Nat} {sv : Value} {Gs : List Grp} (h : IxRow w D p sv Gs) : Calls Try.prog 38 #[.pointer (some ⟨p, 0, none⟩)] w fun e w' => e = .returned (.int .i64 (usedN Gs)) ∧ w = w' := by
  obtain ⟨B, c, rfl, hc, hB, hDB, hBf, hcells⟩ := h.at
  have zp := h.box
  have HZ := Lib.hid (fun (hW : w.cell? ⟨p, 0, none⟩ = _) => izero_ok (w := w) (c := c) (a := some ⟨B, 0, none⟩) hW h.ok.pow.pos h.ok.pow.le)
  clear hcells h
  have zp_0 := cell_of_row _ _ 0 _ _ _ zp; have zp_1 := cell_of_row _ _ 1 _ _ _ zp; have zp_2 := cell_of_row _ _ 2 _ _ _ zp; have zp_f := (fun j => frozen_of_row _ _ j _ _ zp); have zp_l := lt_of_block zp; simp at zp_0 zp_1 zp_2; have H_zp := Lib.hid zp; clear zp
  go_enter Try.func38, Try.ntmps38
  go_wp2_with (go_at_call 53; refine Calls.mono (HZ.out zp_0) ?_; rintro e w' ⟨rfl, rfl⟩)
  go_ret
  exact ⟨rfl, rfl⟩
theorem ITombs_ok {w : World} {D : Nat → Prop} {p : Nat} {sv : Value} {Gs : List Grp} (h : IxRow w D p sv Gs) : Calls Try.prog 39 #[.pointer (some ⟨p, 0, none⟩)] w fun e w' => e = .returned (.int .i64 (tombN Gs)) ∧ w = w' := by
  obtain ⟨B, c, rfl, hc, hB, hDB, hBf, hcells⟩ := h.at
  have zp := h.box
  have HZ := Lib.hid (fun (hW : w.cell? ⟨p, 0, none⟩ = _) => izero_ok (w := w) (c := c) (a := some ⟨B, 0, none⟩) hW h.ok.pow.pos h.ok.pow.le)
  clear hcells h
  have zp_0 := cell_of_row _ _ 0 _ _ _ zp; have zp_1 := cell_of_row _ _ 1 _ _ _ zp; have zp_2 := cell_of_row _ _ 2 _ _ _ zp; have zp_f := (fun j => frozen_of_row _ _ j _ _ zp); have zp_l := lt_of_block zp; simp at zp_0 zp_1 zp_2; have H_zp := Lib.hid zp; clear zp
  go_enter Try.func39, Try.ntmps39
  go_wp2_with (go_at_call 53; refine Calls.mono (HZ.out zp_0) ?_; rintro e w' ⟨rfl, rfl⟩)
  go_ret
  exact ⟨rfl, rfl⟩
theorem IGroups_ok {w : World} {D : Nat → Prop} {p : Nat} {sv : Value} {Gs : List Grp} (h : IxRow w D p sv Gs) : Calls Try.prog 37 #[.pointer (some ⟨p, 0, none⟩)] w fun e w' => e = .returned (.int .i64 Gs.length) ∧ w = w' := by
  obtain ⟨B, c, rfl, hc, hB, hDB, hBf, hcells⟩ := h.at
  have zp := h.box
  have HZ := Lib.hid (fun (hW : w.cell? ⟨p, 0, none⟩ = _) => izero_ok (w := w) (c := c) (a := some ⟨B, 0, none⟩) hW h.ok.pow.pos h.ok.pow.le)
  have wg : IntKind.i64.wrap (Gs.length : Int) = Gs.length := IntWalk.i64_in _ (by have := h.ok.pow.le; omega)
  clear hcells h
  have zp_0 := cell_of_row _ _ 0 _ _ _ zp; have zp_1 := cell_of_row _ _ 1 _ _ _ zp; have zp_2 := cell_of_row _ _ 2 _ _ _ zp; have zp_f := (fun j => frozen_of_row _ _ j _ _ zp); have zp_l := lt_of_block zp; simp at zp_0 zp_1 zp_2; have H_zp := Lib.hid zp; clear zp
  go_enter Try.func37, Try.ntmps37
  go_wp2_with (go_at_call 53; refine Calls.mono (HZ.out zp_0) ?_; rintro e w' ⟨rfl, rfl⟩)
  go_ret
  exact ⟨rfl, rfl⟩

/-! ### the functions that are called back -/
/-- A closure that compares with the slot number in block B0. -/
theorem rem1_ok {w : World} {B0 x : Nat} (hb : w.heap[B0]? = some (.cells #[.int .u32 x] 32 (0, 0))) (s : Nat) (hs : s ≤ 4294967295) (hx : x ≤ 4294967295) :
    Calls Try.prog 57 #[.int .u32 s, .pointer (some ⟨B0, 0, none⟩)] w fun e w' => e = .returned (.bool (s == x)) ∧ w = w' := by
  have hb_0 := cell_of_row _ _ 0 _ _ _ hb; have hb_f := (fun j => frozen_of_row _ _ j _ _ hb); have hb_l := lt_of_block hb; simp at hb_0; have H_hb := Lib.hid hb; clear hb
  have hs0 : (s : Int) ≤ 4294967295 := by omega
  have hx0 : (x : Int) ≤ 4294967295 := by omega
  have e : ((s : Int) == (x : Int)) = (s == x) := by rw [Bool.eq_iff_iff]; simp; omega
  go_enter Try.func57, Try.ntmps57
  go_wp2
  go_ret
  exact ⟨rfl, rfl⟩
/-- A contract of a closure that reads one slot number is one that find asks for. -/
theorem same_of {gf B0 : Nat} {g : Nat → Bool} {w : World} {cs : Array Value} {T : TypeId} (he : ∀ args w, (callFunc gf args).run Try.prog w = .ok (.enter gf args) w) (hB : B0 < w.heap.size)
    (hb : w.heap[B0]? = some (.cells cs T (0, 0)))
    (hc : ∀ (W : World) (s : Nat), s ≤ 4294967295 → W.heap[B0]? = some (.cells cs T (0, 0)) → Calls Try.prog gf #[.int .u32 s, .pointer (some ⟨B0, 0, none⟩)] W fun e w' => e = .returned (.bool (g s)) ∧ W = w') :
    SameOk Try.prog gf #[.pointer (some ⟨B0, 0, none⟩)] (fun _ s => g s) (fun _ => False) (fun _ W => W.heap[B0]? = some (.cells cs T (0, 0))) w :=
  ⟨he, fun pre s W hs hJ => (callsIn_wide.2 (hc W s hs hJ)).mono (fun e w' ⟨h1, h2⟩ => by subst h2; exact ⟨h1, hJ, ModC.refl _ _⟩), fun pre A B hJ hm => hm.heap (fun hk => by have := hk.1; omega) hJ, fun _ h => h.elim, hb⟩
/-- What find finds, by a function of the slot number alone. -/
def findM (Gs : List Grp) (sum : Nat) (g : Nat → Bool) : Option (Nat × Nat) := (seenM Gs sum).find? (fun x => g (slotAt Gs x))
def foundPost (w : World) (D : Nat → Prop) (p : Nat) (sv : Value) (Gs : List Grp) (sum : Nat) (g : Nat → Bool) (B : Nat) (e : Ending) (w' : World) : Prop :=
  Pure w w' ∧ IxRow w' D p sv Gs ∧
  match findM Gs sum g with
  | some x => x.1 < Gs.length ∧ x.2 < 8 ∧ x ∈ seenM Gs sum ∧ g (slotAt Gs x) = true ∧ e = .returned (.tuple #[.pointer (some ⟨B, x.1 * 9, none⟩), .int .i64 x.2, .int .i64 0])
  | none => e = .returned (.tuple #[.pointer none, .int .i64 0, .int .i64 9])
theorem falses_mem {g : Nat → Bool} {xs : List Nat} (h : falses (fun _ s => g s) xs) : ∀ x ∈ xs, g x = false := fun x hx => by
  obtain ⟨a, c, rfl⟩ := List.append_of_mem hx
  exact h a x c rfl
theorem found_of {w w' : World} {D : Nat → Prop} {p : Nat} {sv : Value} {Gs : List Grp} {sum : Nat} {g : Nat → Bool} {J : List Nat → World → Prop} {B : Nat} {e : Ending} (h : findPost w D p sv Gs sum (fun _ s => g s) (fun _ => False) J B e w') : foundPost w D p sv Gs sum g B e w' := by
  obtain ⟨h1, h2, h3⟩ := h
  refine ⟨Mod.mono h1 (fun k _ ⟨_, _, _, _, hf⟩ => hf), h2, ?_⟩
  rcases h3 with ⟨a, x, post, hs, hf, hg, hi, hj, he, _⟩ | ⟨hf, he, _⟩
  · have : findM Gs sum g = some x := by
      unfold findM
      rw [hs, List.find?_append, List.find?_eq_none.2 (fun y hy => by
        have := falses_mem hf (slotAt Gs y) (List.mem_map.2 ⟨y, hy, rfl⟩)
        simp [this])]
      simp [hg]
    rw [this]
    exact ⟨hi, hj, by rw [hs]; simp, hg, he⟩
  · have : findM Gs sum g = none := by
      unfold findM
      exact List.find?_eq_none.2 (fun y hy => by
        have := falses_mem hf (slotAt Gs y) (List.mem_map.2 ⟨y, hy, rfl⟩)
        simp [this])
    rw [this]
    exact he
end Go.Proofs.Ytapplindfijngaa
