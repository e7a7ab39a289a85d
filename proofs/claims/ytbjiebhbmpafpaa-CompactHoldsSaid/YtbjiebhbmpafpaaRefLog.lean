/- The reference's compaction of a log (layer 11). Condition: the log's rows are its own (RefRow). -/
import Derived.Test.YtbjiebhbmpafpaaMv
namespace Go.Proofs.Ytbjiebhbmpafpaa
open Go.RowKit Go.Shelf
set_option maxRecDepth 100000

theorem info_int : (Try.prog.info? 3).map (fun i => (i.zero, i.size, i.bytes)) = some (some (.int .i64 0), 1, 8) := by kernel_rfl

/-- The old slot numbers of the first k. -/
def oldsQ (Q : List RQ) (k : Nat) : List Nat := olds (slotsR ((Q.take k).map absQ))
theorem oldsQ_lt (Q : List RQ) (k : Nat) : ∀ x ∈ oldsQ Q k, x < k := fun x hx => by
  have := olds_lt x hx
  rw [slotsR_length, List.length_map, List.length_take] at this
  omega
theorem oldsQ_len (Q : List RQ) (k : Nat) (hk : k ≤ Q.length) : (oldsQ Q k).length ≤ k := by
  have h1 := live_length (slotsR ((Q.take k).map absQ))
  rw [slotsR_length, List.length_map, List.length_take] at h1
  unfold oldsQ
  rw [olds_length]
  omega
theorem take_abs {Q : List RQ} {k : Nat} {q : RQ} (h : Q[k]? = some q) : (Q.take (k + 1)).map absQ = (Q.take k).map absQ ++ [absQ q] := by
  rw [List.take_add_one, h, List.map_append]; rfl
theorem oldsQ_gone {Q : List RQ} {k : Nat} {x : Ent} {v : Value} (h : Q[k]? = some (x, v, true)) : oldsQ Q (k + 1) = oldsQ Q k := by
  unfold oldsQ
  rw [take_abs h]
  show olds (slotsR (_ ++ [(x, true)])) = _
  have : slotsR ((Q.take k).map absQ ++ [(x, true)]) = slotsR ((Q.take k).map absQ) ++ [none] := by simp [slotsR]
  rw [this, olds_append_none]
theorem oldsQ_live {Q : List RQ} {k : Nat} {x : Ent} {v : Value} (h : Q[k]? = some (x, v, false)) : oldsQ Q (k + 1) = oldsQ Q k ++ [k] := by
  unfold oldsQ
  rw [take_abs h]
  show olds (slotsR (_ ++ [(x, false)])) = _
  have : slotsR ((Q.take k).map absQ ++ [(x, false)]) = slotsR ((Q.take k).map absQ) ++ [some x] := by simp [slotsR]
  have hl : ((Q.take k).map absQ).length = k := by
    have := (List.getElem?_eq_some_iff.1 h).1
    rw [List.length_map, List.length_take]; omega
  rw [this, olds_append_some, slotsR_length, hl]
theorem pack_gone {Q : List RQ} {k : Nat} {x : Ent} {v : Value} (h : Q[k]? = some (x, v, true)) : packR ((Q.take (k + 1)).map absQ) = packR ((Q.take k).map absQ) := by
  rw [take_abs h]
  show (_ ++ [(x, true)]).filter _ = _
  simp [packR, List.filter_append]
theorem pack_live {Q : List RQ} {k : Nat} {x : Ent} {v : Value} (h : Q[k]? = some (x, v, false)) : packR ((Q.take (k + 1)).map absQ) = packR ((Q.take k).map absQ) ++ [(x, false)] := by
  rw [take_abs h]
  show (_ ++ [(x, false)]).filter _ = _
  simp [packR, List.filter_append]

/-- The five blocks of the call (b: the parameter's), the log and the moves under way. -/
structure LgInv (w : World) (b : Nat) (aL : Option Addr) (cL : Nat) (aG : Option Addr) (cG : Nat) (Q : List RQ) (k : Nat) (wr : World) : Prop where
  le : k ≤ Q.length
  pu : Pure w wr
  r1 : wr.heap[b]? = some (.cells #[.slice aL Q.length cL, .slice aG Q.length cG] 30 (0, 0))
  r2 : wr.heap[b + 1]? = some (.cells #[.slice none 0 0, .slice none 0 0] 30 (0, 0))
  r3 : wr.heap[b + 1 + 1]? = some (.cells #[.slice none 0 0, .int .i64 0] 40 (0, 0))
  r4 : ∃ aL' cL' aG' cG' Q', Q'.map absQ = packR ((Q.take k).map absQ) ∧ wr.heap[b + 1 + 1 + 1]? = some (.cells #[.slice aL' Q'.length cL', .slice aG' Q'.length cG'] 30 (0, 0)) ∧ RefRow wr aL' cL' aG' cG' Q' ∧
    (∀ g, (Value.slice aL' Q'.length cL').ownBlock = some g → b + 1 + 1 + 1 + 1 < g) ∧ (∀ g, (Value.slice aG' Q'.length cG').ownBlock = some g → b + 1 + 1 + 1 + 1 < g)
  r5 : ∃ aN cN, wr.heap[b + 1 + 1 + 1 + 1]? = some (.cells #[.slice aN k cN, .int .i64 (oldsQ Q k).length] 40 (0, 0)) ∧ MvX wr aN cN k (oldsQ Q k) ∧ (∀ g, (Value.slice aN k cN).ownBlock = some g → b + 1 + 1 + 1 + 1 < g)

/-- Between the append and the moves. -/
structure LgMid (w : World) (b : Nat) (aL : Option Addr) (cL : Nat) (aG : Option Addr) (cG : Nat) (Q : List RQ) (k : Nat) (R' : List (Ent × Bool)) (u : Nat) (v7 v8 : Value) (wr : World) : Prop where
  pu : Pure w wr
  r1 : wr.heap[b]? = some (.cells #[.slice aL Q.length cL, .slice aG Q.length cG] 30 (0, 0))
  r2 : wr.heap[b + 1]? = some (.cells #[.slice none 0 0, .slice none 0 0] 30 (0, 0))
  r3 : wr.heap[b + 1 + 1]? = some (.cells #[.slice none 0 0, .int .i64 0] 40 (0, 0))
  r4 : ∃ u0 u1, wr.heap[b + 1 + 1 + 1]? = some (.cells #[u0, u1] 30 (0, 0))
  r7 : ∃ b7 aL' cL' aG' cG' Q', v7 = .pointer (some ⟨b7, 0, none⟩) ∧ v8 = .int .u32 u ∧ b + 1 + 1 + 1 + 1 < b7 ∧ Q'.map absQ = R' ∧ wr.heap[b7]? = some (.cells #[.slice aL' Q'.length cL', .slice aG' Q'.length cG'] 30 (0, 0)) ∧ RefRow wr aL' cL' aG' cG' Q' ∧
    (∀ g, (Value.slice aL' Q'.length cL').ownBlock = some g → b + 1 + 1 + 1 + 1 < g) ∧ (∀ g, (Value.slice aG' Q'.length cG').ownBlock = some g → b + 1 + 1 + 1 + 1 < g)
  r5 : ∃ aN cN, wr.heap[b + 1 + 1 + 1 + 1]? = some (.cells #[.slice aN k cN, .int .i64 (oldsQ Q k).length] 40 (0, 0)) ∧ MvX wr aN cN k (oldsQ Q k) ∧ (∀ g, (Value.slice aN k cN).ownBlock = some g → b + 1 + 1 + 1 + 1 < g)

/-- A change of the moves' blocks alone leaves the log's rows. -/
theorem RefRow.modM {w w' : World} {S : Nat → Prop} {aL : Option Addr} {cL : Nat} {aG : Option Addr} {cG : Nat} {Q : List RQ} (h : RefRow w aL cL aG cG Q) (hm : Mod S w w')
    (hS : ∀ i, S i → i < w.heap.size → ∃ cs T fz, w.heap[i]? = some (.cells cs T fz) ∧ (T = 30 ∨ T = 40 ∨ T = 3)) : RefRow w' aL cL aG cG Q :=
  have hS' : ∀ (T : Nat), 30 ≠ T → 40 ≠ T → 3 ≠ T → ∀ i, S i → i < w.heap.size → ∃ cs T' fz, w.heap[i]? = some (.cells cs T' fz) ∧ T' ≠ T := fun T h1 h2 h3 i hi hl => by
    obtain ⟨cs, T', fz, e, hT⟩ := hS i hi hl
    refine ⟨cs, _, fz, e, ?_⟩
    rcases hT with rfl | rfl | rfl
    · exact h1
    · exact h2
    · exact h3
  ⟨owns_modT h.L hm (hS' _ (by decide) (by decide) (by decide)), owns_modT h.G hm (hS' _ (by decide) (by decide) (by decide)), fun q hq => owns_modT (h.vals q hq) hm (hS' _ (by decide) (by decide) (by decide)), h.ok, h.len⟩

/-- m.New = append(m.New, ..). -/
theorem lg_append {w wg w5 : World} {b k c c7 : Nat} {a a7 : Option Addr} {m : Value} {xs ys : List Nat} {n : Int}
    (r5 : w.heap[b]? = some (.cells #[.slice a k c, m] 40 (0, 0))) (ho : MvX w a c k xs) (hp : Pure w wg)
    (ho5 : w5.ownsRow 0 3 1 (.slice a7 (k + 1) c7) (k + 1) (ints (newX xs k) ++ [.int .i64 n])) (hn : newX ys (k + 1) = newX xs k ++ [n])
    (hg : wg.grownBy w5 (Value.slice a k c).ownBlock) (hat : (Value.slice a7 (k + 1) c7).ownBlock = (Value.slice a k c).ownBlock ∨ (Value.slice a7 (k + 1) c7).ownBlock = some wg.heap.size) :
    (w5.setCell ⟨b, 0, none⟩ (.slice a7 (k + 1) c7)).heap[b]? = some (.cells #[.slice a7 (k + 1) c7, m] 40 (0, 0)) ∧ MvX (w5.setCell ⟨b, 0, none⟩ (.slice a7 (k + 1) c7)) a7 c7 (k + 1) ys ∧
      Mod (fun i => i = b ∨ (Value.slice a k c).ownBlock = some i) w (w5.setCell ⟨b, 0, none⟩ (.slice a7 (k + 1) c7)) ∧ (∀ g, (Value.slice a7 (k + 1) c7).ownBlock = some g → (Value.slice a k c).ownBlock = some g ∨ w.heap.size ≤ g) := by
  obtain ⟨h1, h2, h3, h4⟩ := field_append (j := 0) r5 ho (by decide) hp ho5 hg hat
  refine ⟨by simpa using h1, ?_, h3, h4⟩
  unfold MvX
  rw [hn]
  simpa [ints] using h2

theorem oldsQ_all (Q : List RQ) : oldsQ Q Q.length = olds (slotsR (Q.map absQ)) := by unfold oldsQ; rw [List.take_length]
theorem lg_mid {w wr w' : World} {b : Nat} {aL aG aN a7 a8 : Option Addr} {cL cG cN c7 c8 : Nat} {Q Q2 : List RQ} {k u b7 : Nat} {R' : List (Ent × Bool)} {u0 u1 : Value}
    (pu : Pure w wr) (r1 : wr.heap[b]? = some (.cells #[.slice aL Q.length cL, .slice aG Q.length cG] 30 (0, 0)))
    (r2 : wr.heap[b + 1]? = some (.cells #[.slice none 0 0, .slice none 0 0] 30 (0, 0))) (r3 : wr.heap[b + 1 + 1]? = some (.cells #[.slice none 0 0, .int .i64 0] 40 (0, 0)))
    (r4 : wr.heap[b + 1 + 1 + 1]? = some (.cells #[u0, u1] 30 (0, 0)))
    (r5 : wr.heap[b + 1 + 1 + 1 + 1]? = some (.cells #[.slice aN k cN, .int .i64 (oldsQ Q k).length] 40 (0, 0))) (hN : MvX wr aN cN k (oldsQ Q k)) (fN : ∀ g, (Value.slice aN k cN).ownBlock = some g → b + 1 + 1 + 1 + 1 < g)
    (hp : Pure wr w') (hb7 : b + 1 + 1 + 1 + 1 < b7) (r7 : w'.heap[b7]? = some (.cells #[.slice a7 Q2.length c7, .slice a8 Q2.length c8] 30 (0, 0))) (R : RefRow w' a7 c7 a8 c8 Q2) (hQ2 : Q2.map absQ = R')
    (f7 : ∀ g, (Value.slice a7 Q2.length c7).ownBlock = some g → b + 1 + 1 + 1 + 1 < g) (f8 : ∀ g, (Value.slice a8 Q2.length c8).ownBlock = some g → b + 1 + 1 + 1 + 1 < g) :
    LgMid w b aL cL aG cG Q k R' u (.pointer (some ⟨b7, 0, none⟩)) (.int .u32 u) w' :=
  ⟨pu.trans hp, hp.heap (fun h => h) r1, hp.heap (fun h => h) r2, hp.heap (fun h => h) r3, ⟨u0, u1, hp.heap (fun h => h) r4⟩, ⟨b7, a7, c7, a8, c8, Q2, rfl, rfl, hb7, hQ2, r7, R, f7, f8⟩, aN, cN, hp.heap (fun h => h) r5, hN.pure hp, fN⟩
theorem lg_mid2 {w wc : World} {b : Nat} {aL aG aN a7 a8 : Option Addr} {cL cG cN c7 c8 : Nat} {Q Q2 : List RQ} {k : Nat} {u0 u1 m : Value} {xs : List Nat}
    (pu : Pure w wc) (r1 : wc.heap[b]? = some (.cells #[.slice aL Q.length cL, .slice aG Q.length cG] 30 (0, 0)))
    (r2 : wc.heap[b + 1]? = some (.cells #[.slice none 0 0, .slice none 0 0] 30 (0, 0))) (r3 : wc.heap[b + 1 + 1]? = some (.cells #[.slice none 0 0, .int .i64 0] 40 (0, 0)))
    (r4 : wc.heap[b + 1 + 1 + 1]? = some (.cells #[u0, u1] 30 (0, 0)))
    (r5 : wc.heap[b + 1 + 1 + 1 + 1]? = some (.cells #[.slice aN k cN, m] 40 (0, 0))) (hN : MvX wc aN cN k xs) (fN : ∀ g, (Value.slice aN k cN).ownBlock = some g → b + 1 + 1 + 1 + 1 < g)
    (R : RefRow wc a7 c7 a8 c8 Q2) (v0 v1 : Value) (hb : w.heap.size ≤ b) :
    let W6 := (wc.setCell ⟨b + 1 + 1 + 1, 0, none⟩ v0).setCell ⟨b + 1 + 1 + 1, 1, none⟩ v1
    Pure w W6 ∧ W6.heap[b]? = some (.cells #[.slice aL Q.length cL, .slice aG Q.length cG] 30 (0, 0)) ∧ W6.heap[b + 1]? = some (.cells #[.slice none 0 0, .slice none 0 0] 30 (0, 0)) ∧
      W6.heap[b + 1 + 1]? = some (.cells #[.slice none 0 0, .int .i64 0] 40 (0, 0)) ∧ W6.heap[b + 1 + 1 + 1]? = some (.cells #[v0, v1] 30 (0, 0)) ∧
      W6.heap[b + 1 + 1 + 1 + 1]? = some (.cells #[.slice aN k cN, m] 40 (0, 0)) ∧ MvX W6 aN cN k xs ∧ RefRow W6 a7 c7 a8 c8 Q2 := by
  have hm : Mod (fun i => i = b + 1 + 1 + 1) wc ((wc.setCell ⟨b + 1 + 1 + 1, 0, none⟩ v0).setCell ⟨b + 1 + 1 + 1, 1, none⟩ v1) := Mod.set2 _ _ _ _ _
  refine ⟨pu.then hm (fun i hi h => by omega), hm.heap (by omega) r1, hm.heap (by omega) r2, hm.heap (by omega) r3, heap_set12 r4, hm.heap (by omega) r5, ?_, R.modT hm (fun i hi _ => by subst hi; exact ⟨_, _, r4⟩)⟩
  exact owns_mod hN hm (fun g hg h => by have := fN g hg; omega)
theorem lg_next {w W8 : World} {b : Nat} {aL aG a7 aL2 aG2 : Option Addr} {cL cG c7 cL2 cG2 : Nat} {Q Q2 : List RQ} {k : Nat} {x : Ent} {v : Value}
    (hb : w.heap.size = b) (he : Q[k]? = some (x, v, false)) (pu : Pure w W8) (r1 : W8.heap[b]? = some (.cells #[.slice aL Q.length cL, .slice aG Q.length cG] 30 (0, 0)))
    (r2 : W8.heap[b + 1]? = some (.cells #[.slice none 0 0, .slice none 0 0] 30 (0, 0))) (r3 : W8.heap[b + 1 + 1]? = some (.cells #[.slice none 0 0, .int .i64 0] 40 (0, 0)))
    (r4 : W8.heap[b + 1 + 1 + 1]? = some (.cells #[.slice aL2 Q2.length cL2, .slice aG2 Q2.length cG2] 30 (0, 0))) (R : RefRow W8 aL2 cL2 aG2 cG2 Q2) (hq2 : Q2.map absQ = packR ((Q.take k).map absQ) ++ [(x, false)])
    (f2 : ∀ g, (Value.slice aL2 Q2.length cL2).ownBlock = some g → b + 1 + 1 + 1 + 1 < g) (f3 : ∀ g, (Value.slice aG2 Q2.length cG2).ownBlock = some g → b + 1 + 1 + 1 + 1 < g)
    (r5 : W8.heap[b + 1 + 1 + 1 + 1]? = some (.cells #[.slice a7 (k + 1) c7, .int .i64 (oldsQ Q k).length] 40 (0, 0))) (hN : MvX W8 a7 c7 (k + 1) (oldsQ Q (k + 1))) (fN : ∀ g, (Value.slice a7 (k + 1) c7).ownBlock = some g → b + 1 + 1 + 1 + 1 < g) :
    LgInv w b aL cL aG cG Q (k + 1) (W8.setCell ⟨b + 1 + 1 + 1 + 1, 1, none⟩ (.int .i64 ((oldsQ Q k).length + 1))) := by
  have hm : Mod (fun i => i = b + 1 + 1 + 1 + 1) W8 (W8.setCell ⟨b + 1 + 1 + 1 + 1, 1, none⟩ (.int .i64 ((oldsQ Q k).length + 1))) := Mod.set1 _ _ _
  have hlt := (List.getElem?_eq_some_iff.1 he).1
  refine ⟨hlt, pu.then hm (fun i hi h => by omega), hm.heap (by omega) r1, hm.heap (by omega) r2, hm.heap (by omega) r3, ⟨aL2, cL2, aG2, cG2, Q2, by rw [pack_live he]; exact hq2, hm.heap (by omega) r4, R.modM hm (fun i hi _ => by subst hi; exact ⟨_, _, _, r5, .inr (.inl rfl)⟩), f2, f3⟩, a7, c7, ?_, owns_mod hN hm (fun g hg h => by have := fN g hg; omega), fN⟩
  have := heap_set1 (j := 1) (v := .int .i64 ((oldsQ Q k).length + 1)) r5
  rw [oldsQ_live he, List.length_append]
  simpa using this
def refLogPost (w : World) (Q : List RQ) (e : Ending) (w' : World) : Prop :=
  ∃ aL' cL' aG' cG' Q' aN cN, e = .returned (.tuple #[refV aL' cL' aG' cG' Q'.length, .agg #[.slice aN Q.length cN, .int .i64 (olds (slotsR (Q.map absQ))).length]]) ∧ Q'.map absQ = packR (Q.map absQ) ∧ RefRow w' aL' cL' aG' cG' Q' ∧
    MvX w' aN cN Q.length (olds (slotsR (Q.map absQ))) ∧ Fresh w (.slice aL' Q'.length cL') ∧ Pure w w'

set_option maxHeartbeats 1000000 in
theorem ref_Log_any {w : World} {aL : Option Addr} {cL : Nat} {aG : Option Addr} {cG : Nat} {Q : List RQ} (h : RefRow w aL cL aG cG Q) :
    Calls Try.prog 19 #[refV aL cL aG cG Q.length] w (refLogPost w Q) := by
  have H := Lib.hid h
  have hlen := h.len
  clear h
  go_enter Try.func19, Try.ntmps19
  go_wp2
  generalize hb : w.heap.size = b at *
  go_loopw [6] (fun i wr => ∃ k : Nat, i = .int .i64 k ∧ LgInv w b aL cL aG cG Q k wr) (fun i _ => Q.length - (intOf i).toNat)
  case atStart =>
    refine ⟨0, rfl, Nat.zero_le _, by (repeat' (first | (with_reducible exact Mod.refl _ _) | (with_reducible refine Mod.alloc ?_ _) | (with_reducible refine Mod.drew ?_) | (with_reducible refine Mod.drewN ?_ _) | (with_reducible refine Mod.setCell ?_ ?_ _) | (refine Mod.then ?_ (by with_reducible assumption) ?_))) <;> (all_goals (intros; first | (exfalso; assumption) | omega | (simp at *; done) | (simp at *; omega))), heap_keep (heap_keep (heap_keep (heap_keep (heap_new hb.symm)))), heap_keep (heap_keep (heap_keep (heap_new (by simp [hb])))), heap_keep (heap_keep (heap_new (by simp [hb]))), ⟨none, 0, none, 0, [], rfl, heap_keep (heap_new (by simp [hb])), RefRow.nil _, (fun g e => by cases e), (fun g e => by cases e)⟩, none, 0, heap_new (by simp [hb]), World.ownsRow_nil _ _ _ _, (fun g e => by cases e)⟩
  case round =>
    obtain ⟨k, rfl, hI⟩ := hrel
    obtain ⟨hk, hpu, hr1, hr2, hr3, ⟨aL', cL', aG', cG', Q', hq', hr4, hR', hfL, hfG⟩, aN, cN, hr5, hN, hfN⟩ := hI
    have HW := Lib.hid (H.out.pure hpu)
    have HPU := Lib.hid hpu
    have HQ' := Lib.hid hq'; have HR' := Lib.hid hR'; have HFL := Lib.hid hfL; have HFG := Lib.hid hfG; have HN := Lib.hid hN; have HFN := Lib.hid hfN
    clear hpu hq' hR' hfL hfG hN hfN
    have hol := oldsQ_len Q k hk
    have hr1_0 := cell_of_row _ _ 0 _ _ _ hr1; have hr1_1 := cell_of_row _ _ 1 _ _ _ hr1; have hr1_f := (fun j => frozen_of_row _ _ j _ _ hr1); have hr1_l := lt_of_block hr1; simp at hr1_0 hr1_1; have H_hr1 := Lib.hid hr1; clear hr1
    have HR2 := Lib.hid hr2; have HR3 := Lib.hid hr3
    clear hr2 hr3
    have hr4_0 := cell_of_row _ _ 0 _ _ _ hr4; have hr4_1 := cell_of_row _ _ 1 _ _ _ hr4; have hr4_f := (fun j => frozen_of_row _ _ j _ _ hr4); have hr4_l := lt_of_block hr4; simp at hr4_0 hr4_1; have H_hr4 := Lib.hid hr4; clear hr4
    have hr5_0 := cell_of_row _ _ 0 _ _ _ hr5; have hr5_1 := cell_of_row _ _ 1 _ _ _ hr5; have hr5_f := (fun j => frozen_of_row _ _ j _ _ hr5); have hr5_l := lt_of_block hr5; simp at hr5_0 hr5_1; have H_hr5 := Lib.hid hr5; clear hr5
    have hsz : b + 1 + 1 + 1 + 1 < wr.heap.size := hr5_l
    obtain ⟨i0, hi, iz0, iz1, iz2⟩ := info_parts info_int
    by_cases hlt : k < Q.length
    · have hk1 : (k : Int) < (Q.length : Int) := by omega
      have he := List.getElem?_eq_getElem hlt
      generalize Q[k] = q at he
      obtain ⟨x, v, gone⟩ := q
      obtain ⟨g2, _, hsv, _, hg2, hc2, hf2, _⟩ := owns_at HW.out.G (by omega)
      cases hsv
      have sg : wr.cell? ⟨g2, k, none⟩ = some (.bool gone) := hc2 k _ (by rw [List.getElem?_map, he]; rfl)
      have HE := Lib.hid he
      clear hc2 hf2 he
      have hn5 : ∀ g, g ≤ b + 1 + 1 + 1 → ¬ (g = b + 1 + 1 + 1 + 1 ∨ (Value.slice aN k cN).ownBlock = some g) := by
        rintro g hg (h | h)
        · omega
        · have := HFN.out g h; omega
      have hql : Q'.length = (oldsQ Q k).length := by have := congrArg List.length HQ'.out; rw [List.length_map, packR_length] at this; exact this
      have HQL := Lib.hid hql
      have HN5 := Lib.hid hn5
      have hol2 : Q'.length ≤ k := by omega
      clear hql hn5
      cases gone
      · obtain ⟨g3, _, hsv, _, hg3, hc3, hf3, _⟩ := owns_at HW.out.L (by omega)
        cases hsv
        have hcc : ∀ j u, (cellsQ (x, v, false))[j]? = some u → wr.cell? ⟨g3, k * 4 + j, none⟩ = some u := by
          intro j u hu
          have hj : j < 4 := by rw [← cellsQ_length (x, v, false)]; exact (List.getElem?_eq_some_iff.1 hu).1
          refine hc3 _ _ ?_
          rw [flat_get cellsQ 4 cellsQ_length j hj, HE.out]
          exact hu
        have hv := HW.out.vals _ (List.mem_of_getElem? HE.out)
        obtain ⟨va, vc, hve, _⟩ := owns_form hv
        dsimp only at hve
        subst hve
        have s0 : wr.cell? ⟨g3, k * 4, none⟩ = _ := hcc 0 _ rfl; have s1 := hcc 1 _ rfl; have s2 := hcc 2 _ rfl; have s3 := hcc 3 _ rfl
        dsimp only at s0 s1 s2 s3
        have HV := Lib.hid (BytesAt.read hv (bytesOf_one _))
        have hxo := H.out.ok _ (List.mem_of_getElem? HE.out)
        have HXO := Lib.hid hxo
        clear hc3 hf3 hcc hv hxo
        go_upto_region 8 with fail
        clear sg
        go_cut [7, 8] (fun v7 v8 wc => LgMid w b (some ⟨g3, 0, none⟩) cL (some ⟨g2, 0, none⟩) cG Q k (packR ((Q.take k).map absQ) ++ [(x, false)]) Q'.length v7 v8 wc)
        case first =>
          go_region_held3 (fun w' => w'.cell? ⟨b, 0, none⟩ = some (.slice (some ⟨g3, 0, none⟩) Q.length cL) ∧ w'.cell? ⟨b + 1 + 1 + 1, 0, none⟩ = some (.slice aL' Q'.length cL') ∧ w'.cell? ⟨b + 1 + 1 + 1, 1, none⟩ = some (.slice aG' Q'.length cG') ∧ w'.cell? ⟨g3, k * 4, none⟩ = some (.string x.key) ∧ w'.cell? ⟨g3, k * 4 + 1, none⟩ = some (.slice va (bytesOf x.val).length vc) ∧ w'.cell? ⟨g3, k * 4 + 2, none⟩ = some (.int .u64 x.dl) ∧ w'.cell? ⟨g3, k * 4 + 3, none⟩ = some (.int .u64 x.birth))
            (first | go_keep | exact ⟨(Mod.set2 _ _ _ _ _).cell (by simp; omega) y0, (Mod.set2 _ _ _ _ _).cell (by simp; omega) y1, (Mod.set2 _ _ _ _ _).cell (by simp; omega) y2, (Mod.set2 _ _ _ _ _).cell (by simp; omega) y3, (Mod.set2 _ _ _ _ _).cell (by simp; omega) y4, (Mod.set2 _ _ _ _ _).cell (by simp; omega) y5, (Mod.set2 _ _ _ _ _).cell (by simp; omega) y6⟩)
            (first | (go_at_call 60; refine Calls.mono (ref_Append (HR'.out.pure (by (repeat' (first | (with_reducible exact Mod.refl _ _) | (with_reducible refine Mod.alloc ?_ _) | (with_reducible refine Mod.drew ?_) | (with_reducible refine Mod.drewN ?_ _) | (with_reducible refine Mod.setCell ?_ ?_ _) | (refine Mod.then ?_ (by with_reducible assumption) ?_))) <;> (all_goals (intros; first | (exfalso; assumption) | omega | (simp at *; done) | (simp at *; omega))))) (by omega) x HXO.out va _ vc (HV.out.frame (S := fun _ => False) (by (repeat' (first | (with_reducible exact Mod.refl _ _) | (with_reducible refine Mod.alloc ?_ _) | (with_reducible refine Mod.drew ?_) | (with_reducible refine Mod.drewN ?_ _) | (with_reducible refine Mod.setCell ?_ ?_ _) | (refine Mod.then ?_ (by with_reducible assumption) ?_))) <;> (all_goals (intros; first | (exfalso; assumption) | omega | (simp at *; done) | (simp at *; omega)))) (fun _ _ h => h))) ?_; rintro e w1 ⟨aL2, cL2, aG2, cG2, Q2, rfl, hq2, hR2, hf2, hf3, hp1⟩; have hq1 : Pure wr w1 := Mod.trans (by (repeat' (first | (with_reducible exact Mod.refl _ _) | (with_reducible refine Mod.alloc ?_ _) | (with_reducible refine Mod.drew ?_) | (with_reducible refine Mod.drewN ?_ _) | (with_reducible refine Mod.setCell ?_ ?_ _) | (refine Mod.then ?_ (by with_reducible assumption) ?_)))) hp1; have y0 := hq1.cell (fun h => h) hr1_0; have y1 := hq1.cell (fun h => h) hr4_0; have y2 := hq1.cell (fun h => h) hr4_1; have y3 := hq1.cell (fun h => h) s0; have y4 := hq1.cell (fun h => h) s1; have y5 := hq1.cell (fun h => h) s2; have y6 := hq1.cell (fun h => h) s3; (try (have zb := hp1.heap (fun h => h) (heap_new (w := wr.drew) (o := .cells #[.slice none 0 0, .slice none 0 0] 30 (0, 0)) (n := wr.heap.size) rfl); have zb_0 := cell_of_row _ _ 0 _ _ _ zb; have zb_1 := cell_of_row _ _ 1 _ _ _ zb; have zb_f := (fun j => frozen_of_row _ _ j _ _ zb); have zb_l := lt_of_block zb; simp at zb_0 zb_1; have H_zb := Lib.hid zb; clear zb)); have HQ1 := Lib.hid hq1; have HQ2 := Lib.hid hq2; have HR2' := Lib.hid hR2; have HF2 := Lib.hid hf2; have HF3 := Lib.hid hf3; have HP1 := Lib.hid hp1; clear hq1 hq2 hR2 hf2 hf3 hp1))
          all_goals
            clear s0 s1 s2 s3 y0 y1 y2 y3 y4 y5 y6
            go_wp2_with fail
            go_meet
            first
              | exact lg_mid HPU.out H_hr1.out HR2.out HR3.out H_hr4.out H_hr5.out HN.out HFN.out (HQ1.out.alloc _) (by have := HQ1.out.size; omega) (heap_new rfl) (HR2'.out.pure ((Mod.refl _ _).alloc _)) (by rw [HQ2.out, HQ'.out]) (fun g hg => by have := HF2.out g hg; (try simp at this); omega) (fun g hg => by have := HF3.out g hg; (try simp at this); omega)
              | exact lg_mid HPU.out H_hr1.out HR2.out HR3.out H_hr4.out H_hr5.out HN.out HFN.out (HQ1.out.then (Mod.set2 _ _ _ _ _) (fun i hi h => by omega)) hsz (heap_set12 H_zb.out) (HR2'.out.modT (Mod.set2 _ _ _ _ _) (fun i hi _ => by subst hi; exact ⟨_, _, H_zb.out⟩)) (by rw [HQ2.out, HQ'.out]) (fun g hg => by have := HF2.out g hg; (try simp at this); omega) (fun g hg => by have := HF3.out g hg; (try simp at this); omega)
        case rest =>
          obtain ⟨hpu, k1, k2, k3, ⟨u0, u1, k4⟩, ⟨b7, aL2, cL2, aG2, cG2, Q2, rfl, rfl, hb7, hq2, k7, hR2, hf2, hf3⟩, aN2, cN2, k5, hN2, hfN2⟩ := hcut
          clear s0 s1 s2 s3
          clear hr1_0 hr1_1 hr1_f hr1_l
          clear hr4_0 hr4_1 hr4_f hr4_l
          clear hr5_0 hr5_1 hr5_f hr5_l
          have J := lg_mid2 (b := b) hpu k1 k2 k3 k4 k5 hN2 hfN2 hR2 (.slice aL2 Q2.length cL2) (.slice aG2 Q2.length cG2) (by omega)
          have HQ2 := Lib.hid hq2; have HF2 := Lib.hid hf2; have HF3 := Lib.hid hf3
          clear hq2 hf2 hf3 hpu k1 k2 k3 k5 hN2 hR2
          have k4_0 := cell_of_row _ _ 0 _ _ _ k4; have k4_1 := cell_of_row _ _ 1 _ _ _ k4; have k4_f := (fun j => frozen_of_row _ _ j _ _ k4); have k4_l := lt_of_block k4; simp at k4_0 k4_1; have H_k4 := Lib.hid k4; clear k4
          have k7_0 := cell_of_row _ _ 0 _ _ _ k7; have k7_1 := cell_of_row _ _ 1 _ _ _ k7; have k7_f := (fun j => frozen_of_row _ _ j _ _ k7); have k7_l := lt_of_block k7; simp at k7_0 k7_1; have H_k7 := Lib.hid k7; clear k7
          go_upto_region 10 with fail
          clear k4_0 k4_1 k4_f k4_l
          clear k7_0 k7_1 k7_f k7_l
          generalize (wc.setCell ⟨b + 1 + 1 + 1, 0, none⟩ (.slice aL2 Q2.length cL2)).setCell ⟨b + 1 + 1 + 1, 1, none⟩ (.slice aG2 Q2.length cG2) = W6 at J ⊢
          obtain ⟨j0, j1, j2, j3, j4, j5, jN, jR⟩ := J
          have J0 := Lib.hid j0; have J1 := Lib.hid j1; have J2 := Lib.hid j2; have J3 := Lib.hid j3; have J4 := Lib.hid j4; have JN := Lib.hid jN; have JR := Lib.hid jR; have HFN2 := Lib.hid hfN2
          clear j0 j1 j2 j3 j4 jN jR hfN2
          have j5_0 := cell_of_row _ _ 0 _ _ _ j5; have j5_1 := cell_of_row _ _ 1 _ _ _ j5; have j5_f := (fun j => frozen_of_row _ _ j _ _ j5); have j5_l := lt_of_block j5; simp at j5_0 j5_1; have H_j5 := Lib.hid j5; clear j5
          go_upto_region 11 with (at_builtin; refine wpList_append_read _ rfl _ _ 38 rfl 3 i0 _ 1 8 Try.underlying38 hi iz0 iz1 iz2 rfl (by decide) (.slice aN2 k cN2) k (ints (newX (oldsQ Q k) k)) rfl (owns_mod JN.out ((Mod.refl (fun _ => False) W6).alloc _) (fun _ _ h => h)) _ [.int .i64 (Q'.length : Int)] 1 rfl (ReadAt.of_block 1 1 1 (heap_new rfl) (by rfl) (by simp [Value.oneCell'])) rfl (by unfold maxLen; omega) (by omega) ?_; intro a7 c7 w5 hr7 hg7 hb7; have m7 := Mod.heap (Mod.of_grown (S := fun k' => (Value.slice aN2 k cN2).ownBlock = some k') hg7 (fun k e _ => e)) (fun e => (by have := HFN2.out _ e; omega)) (heap_keep H_j5.out); have m7_0 := cell_of_row _ _ 0 _ _ _ m7; have m7_1 := cell_of_row _ _ 1 _ _ _ m7; have m7_f := (fun j => frozen_of_row _ _ j _ _ m7); have m7_l := lt_of_block m7; simp at m7_0 m7_1; have H_m7 := Lib.hid m7; clear m7)
          have L := lg_append (ys := oldsQ Q (k + 1)) H_j5.out JN.out ((Mod.refl _ W6).alloc _) hr7 (by rw [oldsQ_live HE.out, HQL.out]; exact newX_live (oldsQ_lt Q k)) hg7 hb7
          obtain ⟨L1, L2, L3, L4⟩ := L
          clear m7_0 m7_1 m7_f m7_l H_m7 hr7 hg7 hb7
          generalize w5.setCell ⟨b + 1 + 1 + 1 + 1, 0, none⟩ (.slice a7 (k + 1) c7) = W8 at L1 L2 L3 ⊢
          have hn5 : ∀ g, g ≤ b + 1 + 1 + 1 → ¬ (g = b + 1 + 1 + 1 + 1 ∨ (Value.slice aN2 k cN2).ownBlock = some g) := by
            rintro g hg (h | h)
            · omega
            · have := HFN2.out g h; omega
          have hfin := lg_next (b := b) hb HE.out (J0.out.then L3 (fun i hi h => hn5 i (by omega) h)) (L3.heap (hn5 _ (by omega)) J1.out) (L3.heap (hn5 _ (by omega)) J2.out) (L3.heap (hn5 _ (by omega)) J3.out) (L3.heap (hn5 _ (by omega)) J4.out) (JR.out.modM L3 (fun i hi _ => by
            rcases hi with rfl | hi
            · exact ⟨_, _, _, H_j5.out, .inr (.inl rfl)⟩
            · obtain ⟨c, e⟩ := owns_type JN.out hi
              exact ⟨_, _, _, e, .inr (.inr rfl)⟩)) HQ2.out HF2.out HF3.out L1 L2 (fun g hg => by
            rcases L4 g hg with h | h
            · exact HFN2.out g h
            · omega)
          clear j5_0 j5_1 j5_f j5_l
          have HFIN := Lib.hid hfin
          clear hfin L2 L3 L4 hn5
          have L1_0 := cell_of_row _ _ 0 _ _ _ L1; have L1_1 := cell_of_row _ _ 1 _ _ _ L1; have L1_f := (fun j => frozen_of_row _ _ j _ _ L1); have L1_l := lt_of_block L1; simp at L1_0 L1_1; have H_L1 := Lib.hid L1; clear L1
          go_upto_region 5 with fail
          clear L1_0 L1_1 L1_f L1_l
          go_wp2
          go_roundw
          case rel => exact ⟨k + 1, by go_num, HFIN.out⟩
          case measure => simp [intOf]; omega
      · go_upto_region 5 with (at_builtin; refine wpList_append_read _ rfl _ _ 38 rfl 3 i0 _ 1 8 Try.underlying38 hi iz0 iz1 iz2 rfl (by decide) (.slice aN k cN) k (ints (newX (oldsQ Q k) k)) rfl (owns_mod HN.out ((Mod.refl (fun _ => False) wr).alloc _) (fun _ _ h => h)) _ [.int .i64 (-1)] 1 rfl (ReadAt.of_block 1 1 1 (heap_new rfl) (by rfl) (by simp [Value.oneCell'])) rfl (by unfold maxLen; omega) (by omega) ?_; intro a7 c7 w5 hr7 hg7 hb7; have m7 := Mod.heap (Mod.of_grown (S := fun k' => (Value.slice aN k cN).ownBlock = some k') hg7 (fun k e _ => e)) (fun e => (by have := HFN.out _ e; omega)) (heap_keep H_hr5.out); have m7_0 := cell_of_row _ _ 0 _ _ _ m7; have m7_1 := cell_of_row _ _ 1 _ _ _ m7; have m7_f := (fun j => frozen_of_row _ _ j _ _ m7); have m7_l := lt_of_block m7; simp at m7_0 m7_1; have H_m7 := Lib.hid m7; clear m7)
        have L := lg_append (ys := oldsQ Q (k + 1)) H_hr5.out HN.out ((Mod.refl _ wr).alloc _) hr7 (by rw [oldsQ_gone HE.out]; exact newX_gone (oldsQ_lt Q k)) hg7 hb7
        obtain ⟨L1, L2, L3, L4⟩ := L
        clear m7_0 m7_1 m7_f m7_l H_m7 hr7 hg7 hb7 sg
        clear hr4_0 hr4_1 hr4_f hr4_l
        clear hr5_0 hr5_1 hr5_f hr5_l
        generalize w5.setCell ⟨b + 1 + 1 + 1 + 1, 0, none⟩ (.slice a7 (k + 1) c7) = W6 at L1 L2 L3 ⊢
        have K1 := Lib.hid L1; have K2 := Lib.hid L2; have K3 := Lib.hid L3; have K4 := Lib.hid L4
        clear L1 L2 L3 L4
        go_wp2
        go_roundw
        case rel =>
          refine ⟨k + 1, by go_num, by omega, HPU.out.then K3.out (fun i hi h => by rcases h with h | h; omega; have := HFN.out i h; omega), K3.out.heap (HN5.out _ (by omega)) H_hr1.out, K3.out.heap (HN5.out _ (by omega)) HR2.out, K3.out.heap (HN5.out _ (by omega)) HR3.out, ⟨aL', cL', aG', cG', Q', by rw [pack_gone HE.out]; exact HQ'.out, K3.out.heap (HN5.out _ (by omega)) H_hr4.out, ?_, HFL.out, HFG.out⟩, a7, c7, by rw [oldsQ_gone HE.out]; exact K1.out, K2.out, fun g hg => ?_⟩
          · refine HR'.out.modM K3.out (fun i hi _ => ?_)
            rcases hi with rfl | hi
            · exact ⟨_, _, _, H_hr5.out, .inr (.inl rfl)⟩
            · obtain ⟨c, e⟩ := owns_type HN.out hi
              exact ⟨_, _, _, e, .inr (.inr rfl)⟩
          · rcases K4.out g hg with h | h
            · exact HFN.out g h
            · omega
        case measure => simp [intOf]; omega
    · go_upto_region 12 with fail
      have hkk : Q.length = k := by omega
      have HKK := Lib.hid hkk
      clear hkk
      have hr2 := HR2.out; have hr3 := HR3.out
      have hr2_0 := cell_of_row _ _ 0 _ _ _ hr2; have hr2_1 := cell_of_row _ _ 1 _ _ _ hr2; have hr2_f := (fun j => frozen_of_row _ _ j _ _ hr2); have hr2_l := lt_of_block hr2; simp at hr2_0 hr2_1; have H_hr2 := Lib.hid hr2; clear hr2
      have hr3_0 := cell_of_row _ _ 0 _ _ _ hr3; have hr3_1 := cell_of_row _ _ 1 _ _ _ hr3; have hr3_f := (fun j => frozen_of_row _ _ j _ _ hr3); have hr3_l := lt_of_block hr3; simp at hr3_0 hr3_1; have H_hr3 := Lib.hid hr3; clear hr3
      go_region
      go_wp2
      refine bodyPost_ret (v := .tuple #[refV aL' cL' aG' cG' Q'.length, .agg #[.slice aN k cN, .int .i64 (oldsQ Q k).length]]) (by simp [results, Try.results19, go_sem, hr2_0, hr2_1, hr3_0, hr3_1, hr2_f, hr3_f]) rfl ?_
      have hm1 : Mod (fun i => i = b + 1) wr ((wr.setCell ⟨b + 1, 0, none⟩ (.slice aL' Q'.length cL')).setCell ⟨b + 1, 1, none⟩ (.slice aG' Q'.length cG')) := Mod.set2 _ _ _ _ _
      have R1 := HR'.out.modT hm1 (fun i hi _ => by subst hi; exact ⟨_, _, H_hr2.out⟩)
      have r3 := hm1.heap (by omega) H_hr3.out
      have N1 := owns_mod HN.out hm1 (fun g hg h => by have := HFN.out g hg; omega)
      generalize (wr.setCell ⟨b + 1, 0, none⟩ (.slice aL' Q'.length cL')).setCell ⟨b + 1, 1, none⟩ (.slice aG' Q'.length cG') = W7 at hm1 R1 r3 N1 ⊢
      have hm2 : Mod (fun i => i = b + 1 + 1) W7 (((W7.setCell ⟨b + 1 + 1, 0, none⟩ (.slice aN k cN)).setCell ⟨b + 1 + 1, 1, none⟩ (.int .i64 (oldsQ Q k).length)).drew) := (Mod.set2 _ _ _ _ _).drew
      have R2 := R1.modM hm2 (fun i hi _ => by subst hi; exact ⟨_, _, _, r3, .inr (.inl rfl)⟩)
      have N2 := owns_mod N1 hm2 (fun g hg h => by have := HFN.out g hg; omega)
      refine ⟨aL', cL', aG', cG', Q', aN, cN, by rw [← oldsQ_all, HKK.out], by rw [HQ'.out, ← HKK.out, List.take_length], R2, ?_, fun g hg => by have := HFL.out g hg; omega, (HPU.out.then hm1 (fun i hi h => by omega)).then hm2 (fun i hi h => by omega)⟩
      rw [← oldsQ_all, HKK.out]
      exact N2
end Go.Proofs.Ytbjiebhbmpafpaa
