/- Lemmas and contracts of functions, strung together out of 4 texts. No condition. -/
import Derived.Test.YtapplindfijngaaGreatJPfCompactDicts22
import Derived.Test.YtapplindfijngaaGreatJPfCompactDicts17
import Derived.Test.YtapplindfijngaaGreatJPfCompactDicts14
import Derived.Test.YtapplindfijngaaGreatJPfCompactDicts21
/- The reference's compaction of a log (layer 11). Condition: the log's rows are its own (RefRow). -/
namespace Go.Proofs.YtapplindfijngaaGreat
open Go.RowKit Go.Shelf
set_option maxRecDepth 100000

theorem info_int : (Tryz.prog.info? 3).map (fun i => (i.zero, i.size, i.bytes)) = some (some (.int .i64 0), 1, 8) := by kernel_rfl

/-- The old slot numbers of the first k. -/
def oldsQ (Q : List RQ) (k : Nat) : List Nat := olds (slotsR ((Q.take k).map absQ))
theorem oldsQ_lt (Q : List RQ) (k : Nat) : ∀ x ∈ oldsQ Q k, x < k := fun x hx => by
  have := olds_lt x hx
  rw [slotsR_length, List.length_map, List.length_take] at this
  omega
theorem oldsQ_len (Q : List RQ) (k : Nat) (hk : k ≤ Q.length) : (oldsQ Q k).length ≤ k := by
  have h1 := live_length (slotsR ((Q.take k).map absQ))
  rw [slotsR_length, List.length_map, List.length_take] at h1
  unfold oldsQ
  rw [olds_length]
  omega
theorem take_abs {Q : List RQ} {k : Nat} {q : RQ} (h : Q[k]? = some q) : (Q.take (k + 1)).map absQ = (Q.take k).map absQ ++ [absQ q] := by
  rw [List.take_add_one, h, List.map_append]; rfl
theorem oldsQ_gone {Q : List RQ} {k : Nat} {x : Ent} {v : Value} (h : Q[k]? = some (x, v, true)) : oldsQ Q (k + 1) = oldsQ Q k := by
  unfold oldsQ
  rw [take_abs h]
  show olds (slotsR (_ ++ [(x, true)])) = _
  have : slotsR ((Q.take k).map absQ ++ [(x, true)]) = slotsR ((Q.take k).map absQ) ++ [none] := by simp [slotsR]
  rw [this, olds_append_none]
theorem oldsQ_live {Q : List RQ} {k : Nat} {x : Ent} {v : Value} (h : Q[k]? = some (x, v, false)) : oldsQ Q (k + 1) = oldsQ Q k ++ [k] := by
  unfold oldsQ
  rw [take_abs h]
  show olds (slotsR (_ ++ [(x, false)])) = _
  have : slotsR ((Q.take k).map absQ ++ [(x, false)]) = slotsR ((Q.take k).map absQ) ++ [some x] := by simp [slotsR]
  have hl : ((Q.take k).map absQ).length = k := by
    have := (List.getElem?_eq_some_iff.1 h).1
    rw [List.length_map, List.length_take]; omega
  rw [this, olds_append_some, slotsR_length, hl]
theorem pack_gone {Q : List RQ} {k : Nat} {x : Ent} {v : Value} (h : Q[k]? = some (x, v, true)) : packR ((Q.take (k + 1)).map absQ) = packR ((Q.take k).map absQ) := by
  rw [take_abs h]
  show (_ ++ [(x, true)]).filter _ = _
  simp [packR, List.filter_append]
theorem pack_live {Q : List RQ} {k : Nat} {x : Ent} {v : Value} (h : Q[k]? = some (x, v, false)) : packR ((Q.take (k + 1)).map absQ) = packR ((Q.take k).map absQ) ++ [(x, false)] := by
  rw [take_abs h]
  show (_ ++ [(x, false)]).filter _ = _
  simp [packR, List.filter_append]

/-- The five blocks of the call (b: the parameter's), the log and the moves under way. -/
structure LgInv (w : World) (b : Nat) (aL : Option Addr) (cL : Nat) (aG : Option Addr) (cG : Nat) (Q : List RQ) (k : Nat) (wr : World) : Prop where
  le : k ≤ Q.length
  pu : Pure w wr
  r1 : wr.heap[b]? = some (.cells #[.slice aL Q.length cL, .slice aG Q.length cG] 32 (0, 0))
  r2 : wr.heap[b + 1]? = some (.cells #[.slice none 0 0, .slice none 0 0] 32 (0, 0))
  r3 : wr.heap[b + 1 + 1]? = some (.cells #[.slice none 0 0, .int .i64 0] 86 (0, 0))
  r4 : ∃ aL' cL' aG' cG' Q', Q'.map absQ = packR ((Q.take k).map absQ) ∧ wr.heap[b + 1 + 1 + 1]? = some (.cells #[.slice aL' Q'.length cL', .slice aG' Q'.length cG'] 32 (0, 0)) ∧ RefRow wr aL' cL' aG' cG' Q' ∧
    (∀ g, (Value.slice aL' Q'.length cL').ownBlock = some g → b + 1 + 1 + 1 + 1 < g) ∧ (∀ g, (Value.slice aG' Q'.length cG').ownBlock = some g → b + 1 + 1 + 1 + 1 < g)
  r5 : ∃ aN cN, wr.heap[b + 1 + 1 + 1 + 1]? = some (.cells #[.slice aN k cN, .int .i64 (oldsQ Q k).length] 86 (0, 0)) ∧ MvX wr aN cN k (oldsQ Q k) ∧ (∀ g, (Value.slice aN k cN).ownBlock = some g → b + 1 + 1 + 1 + 1 < g)

/-- Between the append and the moves. -/
structure LgMid (w : World) (b : Nat) (aL : Option Addr) (cL : Nat) (aG : Option Addr) (cG : Nat) (Q : List RQ) (k : Nat) (R' : List (Ent × Bool)) (u : Nat) (v7 v8 : Value) (wr : World) : Prop where
  pu : Pure w wr
  r1 : wr.heap[b]? = some (.cells #[.slice aL Q.length cL, .slice aG Q.length cG] 32 (0, 0))
  r2 : wr.heap[b + 1]? = some (.cells #[.slice none 0 0, .slice none 0 0] 32 (0, 0))
  r3 : wr.heap[b + 1 + 1]? = some (.cells #[.slice none 0 0, .int .i64 0] 86 (0, 0))
  r4 : ∃ u0 u1, wr.heap[b + 1 + 1 + 1]? = some (.cells #[u0, u1] 32 (0, 0))
  r7 : ∃ b7 aL' cL' aG' cG' Q', v7 = .pointer (some ⟨b7, 0, none⟩) ∧ v8 = .int .u32 u ∧ b + 1 + 1 + 1 + 1 < b7 ∧ Q'.map absQ = R' ∧ wr.heap[b7]? = some (.cells #[.slice aL' Q'.length cL', .slice aG' Q'.length cG'] 32 (0, 0)) ∧ RefRow wr aL' cL' aG' cG' Q' ∧
    (∀ g, (Value.slice aL' Q'.length cL').ownBlock = some g → b + 1 + 1 + 1 + 1 < g) ∧ (∀ g, (Value.slice aG' Q'.length cG').ownBlock = some g → b + 1 + 1 + 1 + 1 < g)
  r5 : ∃ aN cN, wr.heap[b + 1 + 1 + 1 + 1]? = some (.cells #[.slice aN k cN, .int .i64 (oldsQ Q k).length] 86 (0, 0)) ∧ MvX wr aN cN k (oldsQ Q k) ∧ (∀ g, (Value.slice aN k cN).ownBlock = some g → b + 1 + 1 + 1 + 1 < g)

/-- A change of the moves' blocks alone leaves the log's rows. -/
theorem RefRow.modM {w w' : World} {S : Nat → Prop} {aL : Option Addr} {cL : Nat} {aG : Option Addr} {cG : Nat} {Q : List RQ} (h : RefRow w aL cL aG cG Q) (hm : Mod S w w')
    (hS : ∀ i, S i → i < w.heap.size → ∃ cs T fz, w.heap[i]? = some (.cells cs T fz) ∧ (T = 32 ∨ T = 86 ∨ T = 3)) : RefRow w' aL cL aG cG Q :=
  have hS' : ∀ (T : Nat), 32 ≠ T → 86 ≠ T → 3 ≠ T → ∀ i, S i → i < w.heap.size → ∃ cs T' fz, w.heap[i]? = some (.cells cs T' fz) ∧ T' ≠ T := fun T h1 h2 h3 i hi hl => by
    obtain ⟨cs, T', fz, e, hT⟩ := hS i hi hl
    refine ⟨cs, _, fz, e, ?_⟩
    rcases hT with rfl | rfl | rfl
    · exact h1
    · exact h2
    · exact h3
  ⟨owns_modT h.L hm (hS' _ (by decide) (by decide) (by decide)), owns_modT h.G hm (hS' _ (by decide) (by decide) (by decide)), fun q hq => owns_modT (h.vals q hq) hm (hS' _ (by decide) (by decide) (by decide)), h.ok, h.len⟩

/-- m.New = append(m.New, ..). -/
theorem lg_append {w wg w5 : World} {b k c c7 : Nat} {a a7 : Option Addr} {m : Value} {xs ys : List Nat} {n : Int}
    (r5 : w.heap[b]? = some (.cells #[.slice a k c, m] 86 (0, 0))) (ho : MvX w a c k xs) (hp : Pure w wg)
    (ho5 : w5.ownsRow 0 3 1 (.slice a7 (k + 1) c7) (k + 1) (ints (newX xs k) ++ [.int .i64 n])) (hn : newX ys (k + 1) = newX xs k ++ [n])
    (hg : wg.grownBy w5 (Value.slice a k c).ownBlock) (hat : (Value.slice a7 (k + 1) c7).ownBlock = (Value.slice a k c).ownBlock ∨ (Value.slice a7 (k + 1) c7).ownBlock = some wg.heap.size) :
    (w5.setCell ⟨b, 0, none⟩ (.slice a7 (k + 1) c7)).heap[b]? = some (.cells #[.slice a7 (k + 1) c7, m] 86 (0, 0)) ∧ MvX (w5.setCell ⟨b, 0, none⟩ (.slice a7 (k + 1) c7)) a7 c7 (k + 1) ys ∧
      Mod (fun i => i = b ∨ (Value.slice a k c).ownBlock = some i) w (w5.setCell ⟨b, 0, none⟩ (.slice a7 (k + 1) c7)) ∧ (∀ g, (Value.slice a7 (k + 1) c7).ownBlock = some g → (Value.slice a k c).ownBlock = some g ∨ w.heap.size ≤ g) := by
  obtain ⟨h1, h2, h3, h4⟩ := field_append (j := 0) r5 ho (by decide) hp ho5 hg hat
  refine ⟨by simpa using h1, ?_, h3, h4⟩
  unfold MvX
  rw [hn]
  simpa [ints] using h2

theorem oldsQ_all (Q : List RQ) : oldsQ Q Q.length = olds (slotsR (Q.map absQ)) := by unfold oldsQ; rw [List.take_length]
theorem lg_mid {w wr w' : World} {b : Nat} {aL aG aN a7 a8 : Option Addr} {cL cG cN c7 c8 : Nat} {Q Q2 : List RQ} {k u b7 : Nat} {R' : List (Ent × Bool)} {u0 u1 : Value}
    (pu : Pure w wr) (r1 : wr.heap[b]? = some (.cells #[.slice aL Q.length cL, .slice aG Q.length cG] 32 (0, 0)))
    (r2 : wr.heap[b + 1]? = some (.cells #[.slice none 0 0, .slice none 0 0] 32 (0, 0))) (r3 : wr.heap[b + 1 + 1]? = some (.cells #[.slice none 0 0, .int .i64 0] 86 (0, 0)))
    (r4 : wr.heap[b + 1 + 1 + 1]? = some (.cells #[u0, u1] 32 (0, 0)))
    (r5 : wr.heap[b + 1 + 1 + 1 + 1]? = some (.cells #[.slice aN k cN, .int .i64 (oldsQ Q k).length] 86 (0, 0))) (hN : MvX wr aN cN k (oldsQ Q k)) (fN : ∀ g, (Value.slice aN k cN).ownBlock = some g → b + 1 + 1 + 1 + 1 < g)
    (hp : Pure wr w') (hb7 : b + 1 + 1 + 1 + 1 < b7) (r7 : w'.heap[b7]? = some (.cells #[.slice a7 Q2.length c7, .slice a8 Q2.length c8] 32 (0, 0))) (R : RefRow w' a7 c7 a8 c8 Q2) (hQ2 : Q2.map absQ = R')
    (f7 : ∀ g, (Value.slice a7 Q2.length c7).ownBlock = some g → b + 1 + 1 + 1 + 1 < g) (f8 : ∀ g, (Value.slice a8 Q2.length c8).ownBlock = some g → b + 1 + 1 + 1 + 1 < g) :
    LgMid w b aL cL aG cG Q k R' u (.pointer (some ⟨b7, 0, none⟩)) (.int .u32 u) w' :=
  ⟨pu.trans hp, hp.heap (fun h => h) r1, hp.heap (fun h => h) r2, hp.heap (fun h => h) r3, ⟨u0, u1, hp.heap (fun h => h) r4⟩, ⟨b7, a7, c7, a8, c8, Q2, rfl, rfl, hb7, hQ2, r7, R, f7, f8⟩, aN, cN, hp.heap (fun h => h) r5, hN.pure hp, fN⟩
theorem lg_mid2 {w wc : World} {b : Nat} {aL aG aN a7 a8 : Option Addr} {cL cG cN c7 c8 : Nat} {Q Q2 : List RQ} {k : Nat} {u0 u1 m : Value} {xs : List Nat}
    (pu : Pure w wc) (r1 : wc.heap[b]? = some (.cells #[.slice aL Q.length cL, .slice aG Q.length cG] 32 (0, 0)))
    (r2 : wc.heap[b + 1]? = some (.cells #[.slice none 0 0, .slice none 0 0] 32 (0, 0))) (r3 : wc.heap[b + 1 + 1]? = some (.cells #[.slice none 0 0, .int .i64 0] 86 (0, 0)))
    (r4 : wc.heap[b + 1 + 1 + 1]? = some (.cells #[u0, u1] 32 (0, 0)))
    (r5 : wc.heap[b + 1 + 1 + 1 + 1]? = some (.cells #[.slice aN k cN, m] 86 (0, 0))) (hN : MvX wc aN cN k xs) (fN : ∀ g, (Value.slice aN k cN).ownBlock = some g → b + 1 + 1 + 1 + 1 < g)
    (R : RefRow wc a7 c7 a8 c8 Q2) (v0 v1 : Value) (hb : w.heap.size ≤ b) :
    let W6 := (wc.setCell ⟨b + 1 + 1 + 1, 0, none⟩ v0).setCell ⟨b + 1 + 1 + 1, 1, none⟩ v1
    Pure w W6 ∧ W6.heap[b]? = some (.cells #[.slice aL Q.length cL, .slice aG Q.length cG] 32 (0, 0)) ∧ W6.heap[b + 1]? = some (.cells #[.slice none 0 0, .slice none 0 0] 32 (0, 0)) ∧
      W6.heap[b + 1 + 1]? = some (.cells #[.slice none 0 0, .int .i64 0] 86 (0, 0)) ∧ W6.heap[b + 1 + 1 + 1]? = some (.cells #[v0, v1] 32 (0, 0)) ∧
      W6.heap[b + 1 + 1 + 1 + 1]? = some (.cells #[.slice aN k cN, m] 86 (0, 0)) ∧ MvX W6 aN cN k xs ∧ RefRow W6 a7 c7 a8 c8 Q2 := by
  have hm : Mod (fun i => i = b + 1 + 1 + 1) wc ((wc.setCell ⟨b + 1 + 1 + 1, 0, none⟩ v0).setCell ⟨b + 1 + 1 + 1, 1, none⟩ v1) := Mod.set2 _ _ _ _ _
  refine ⟨pu.then hm (fun i hi h => by omega), hm.heap (by omega) r1, hm.heap (by omega) r2, hm.heap (by omega) r3, heap_set12 r4, hm.heap (by omega) r5, ?_, R.modT hm (fun i hi _ => by subst hi; exact ⟨_, _, r4⟩)⟩
  exact owns_mod hN hm (fun g hg h => by have := fN g hg; omega)
theorem lg_next {w W8 : World} {b : Nat} {aL aG a7 aL2 aG2 : Option Addr} {cL cG c7 cL2 cG2 : Nat} {Q Q2 : List RQ} {k : Nat} {x : Ent} {v : Value}
    (hb : w.heap.size = b) (he : Q[k]? = some (x, v, false)) (pu : Pure w W8) (r1 : W8.heap[b]? = some (.cells #[.slice aL Q.length cL, .slice aG Q.length cG] 32 (0, 0)))
    (r2 : W8.heap[b + 1]? = some (.cells #[.slice none 0 0, .slice none 0 0] 32 (0, 0))) (r3 : W8.heap[b + 1 + 1]? = some (.cells #[.slice none 0 0, .int .i64 0] 86 (0, 0)))
    (r4 : W8.heap[b + 1 + 1 + 1]? = some (.cells #[.slice aL2 Q2.length cL2, .slice aG2 Q2.length cG2] 32 (0, 0))) (R : RefRow W8 aL2 cL2 aG2 cG2 Q2) (hq2 : Q2.map absQ = packR ((Q.take k).map absQ) ++ [(x, false)])
    (f2 : ∀ g, (Value.slice aL2 Q2.length cL2).ownBlock = some g → b + 1 + 1 + 1 + 1 < g) (f3 : ∀ g, (Value.slice aG2 Q2.length cG2).ownBlock = some g → b + 1 + 1 + 1 + 1 < g)
    (r5 : W8.heap[b + 1 + 1 + 1 + 1]? = some (.cells #[.slice a7 (k + 1) c7, .int .i64 (oldsQ Q k).length] 86 (0, 0))) (hN : MvX W8 a7 c7 (k + 1) (oldsQ Q (k + 1))) (fN : ∀ g, (Value.slice a7 (k + 1) c7).ownBlock = some g → b + 1 + 1 + 1 + 1 < g) :
    LgInv w b aL cL aG cG Q (k + 1) (W8.setCell ⟨b + 1 + 1 + 1 + 1, 1, none⟩ (.int .i64 ((oldsQ Q k).length + 1))) := by
  have hm : Mod (fun i => i = b + 1 + 1 + 1 + 1) W8 (W8.setCell ⟨b + 1 + 1 + 1 + 1, 1, none⟩ (.int .i64 ((oldsQ Q k).length + 1))) := Mod.set1 _ _ _
  have hlt := (List.getElem?_eq_some_iff.1 he).1
  refine ⟨hlt, pu.then hm (fun i hi h => by omega), hm.heap (by omega) r1, hm.heap (by omega) r2, hm.heap (by omega) r3, ⟨aL2, cL2, aG2, cG2, Q2, by rw [pack_live he]; exact hq2, hm.heap (by omega) r4, R.modM hm (fun i hi _ => by subst hi; exact ⟨_, _, _, r5, .inr (.inl rfl)⟩), f2, f3⟩, a7, c7, ?_, owns_mod hN hm (fun g hg h => by have := fN g hg; omega), fN⟩
  have := heap_set1 (j := 1) (v := .int .i64 ((oldsQ Q k).length + 1)) r5
  rw [oldsQ_live he, List.length_append]
  simpa using this
def refLogPost (w : World) (Q : List RQ) (e : Ending) (w' : World) : Prop :=
  ∃ aL' cL' aG' cG' Q' aN cN, e = .returned (.tuple #[refV aL' cL' aG' cG' Q'.length, .agg #[.slice aN Q.length cN, .int .i64 (olds (slotsR (Q.map absQ))).length]]) ∧ Q'.map absQ = packR (Q.map absQ) ∧ RefRow w' aL' cL' aG' cG' Q' ∧
    MvX w' aN cN Q.length (olds (slotsR (Q.map absQ))) ∧ Fresh w (.slice aL' Q'.length cL') ∧ Pure w w'

set_option maxHeartbeats 1000000 in
theorem ref_Log_any {w : World} {aL : Option Addr} {cL : Nat} {aG : Option Addr} {cG : Nat} {Q : List RQ} (h : RefRow w aL cL aG cG Q) :
    Calls Tryz.prog 94 #[refV aL cL aG cG Q.length] w (refLogPost w Q) := by
  have H := Lib.hid h
  have hlen := h.len
  clear h
  go_enter Tryz.func94, Tryz.ntmps94
  go_wp2
  generalize hb : w.heap.size = b at *
  go_loopw [6] (fun i wr => ∃ k : Nat, i = .int .i64 k ∧ LgInv w b aL cL aG cG Q k wr) (fun i _ => Q.length - (intOf i).toNat)
  case atStart =>
    refine ⟨0, rfl, Nat.zero_le _, by (repeat' (first | (with_reducible exact Mod.refl _ _) | (with_reducible refine Mod.alloc ?_ _) | (with_reducible refine Mod.drew ?_) | (with_reducible refine Mod.drewN ?_ _) | (with_reducible refine Mod.setCell ?_ ?_ _) | (refine Mod.then ?_ (by with_reducible assumption) ?_))) <;> (all_goals (intros; first | (exfalso; assumption) | omega | (simp at *; done) | (simp at *; omega))), heap_keep (heap_keep (heap_keep (heap_keep (heap_new hb.symm)))), heap_keep (heap_keep (heap_keep (heap_new (by simp [hb])))), heap_keep (heap_keep (heap_new (by simp [hb]))), ⟨none, 0, none, 0, [], rfl, heap_keep (heap_new (by simp [hb])), RefRow.nil _, (fun g e => by cases e), (fun g e => by cases e)⟩, none, 0, heap_new (by simp [hb]), World.ownsRow_nil _ _ _ _, (fun g e => by cases e)⟩
  case round =>
    obtain ⟨k, rfl, hI⟩ := hrel
    obtain ⟨hk, hpu, hr1, hr2, hr3, ⟨aL', cL', aG', cG', Q', hq', hr4, hR', hfL, hfG⟩, aN, cN, hr5, hN, hfN⟩ := hI
    have HW := Lib.hid (H.out.pure hpu)
    have HPU := Lib.hid hpu
    have HQ' := Lib.hid hq'; have HR' := Lib.hid hR'; have HFL := Lib.hid hfL; have HFG := Lib.hid hfG; have HN := Lib.hid hN; have HFN := Lib.hid hfN
    clear hpu hq' hR' hfL hfG hN hfN
    have hol := oldsQ_len Q k hk
    have hr1_0 := cell_of_row _ _ 0 _ _ _ hr1; have hr1_1 := cell_of_row _ _ 1 _ _ _ hr1; have hr1_f := (fun j => frozen_of_row _ _ j _ _ hr1); have hr1_l := lt_of_block hr1; simp at hr1_0 hr1_1; have H_hr1 := Lib.hid hr1; clear hr1
    have HR2 := Lib.hid hr2; have HR3 := Lib.hid hr3
    clear hr2 hr3
    have hr4_0 := cell_of_row _ _ 0 _ _ _ hr4; have hr4_1 := cell_of_row _ _ 1 _ _ _ hr4; have hr4_f := (fun j => frozen_of_row _ _ j _ _ hr4); have hr4_l := lt_of_block hr4; simp at hr4_0 hr4_1; have H_hr4 := Lib.hid hr4; clear hr4
    have hr5_0 := cell_of_row _ _ 0 _ _ _ hr5; have hr5_1 := cell_of_row _ _ 1 _ _ _ hr5; have hr5_f := (fun j => frozen_of_row _ _ j _ _ hr5); have hr5_l := lt_of_block hr5; simp at hr5_0 hr5_1; have H_hr5 := Lib.hid hr5; clear hr5
    have hsz : b + 1 + 1 + 1 + 1 < wr.heap.size := hr5_l
    obtain ⟨i0, hi, iz0, iz1, iz2⟩ := info_parts info_int
    by_cases hlt : k < Q.length
    · have hk1 : (k : Int) < (Q.length : Int) := by omega
      have he := List.getElem?_eq_getElem hlt
      generalize Q[k] = q at he
      obtain ⟨x, v, gone⟩ := q
      obtain ⟨g2, _, hsv, _, hg2, hc2, hf2, _⟩ := owns_at HW.out.G (by omega)
      cases hsv
      have sg : wr.cell? ⟨g2, k, none⟩ = some (.bool gone) := hc2 k _ (by rw [List.getElem?_map, he]; rfl)
      have HE := Lib.hid he
      clear hc2 hf2 he
      have hn5 : ∀ g, g ≤ b + 1 + 1 + 1 → ¬ (g = b + 1 + 1 + 1 + 1 ∨ (Value.slice aN k cN).ownBlock = some g) := by
        rintro g hg (h | h)
        · omega
        · have := HFN.out g h; omega
      have hql : Q'.length = (oldsQ Q k).length := by have := congrArg List.length HQ'.out; rw [List.length_map, packR_length] at this; exact this
      have HQL := Lib.hid hql
      have HN5 := Lib.hid hn5
      have hol2 : Q'.length ≤ k := by omega
      clear hql hn5
      cases gone
      · obtain ⟨g3, _, hsv, _, hg3, hc3, hf3, _⟩ := owns_at HW.out.L (by omega)
        cases hsv
        have hcc : ∀ j u, (cellsQ (x, v, false))[j]? = some u → wr.cell? ⟨g3, k * 4 + j, none⟩ = some u := by
          intro j u hu
          have hj : j < 4 := by rw [← cellsQ_length (x, v, false)]; exact (List.getElem?_eq_some_iff.1 hu).1
          refine hc3 _ _ ?_
          rw [flat_get cellsQ 4 cellsQ_length j hj, HE.out]
          exact hu
        have hv := HW.out.vals _ (List.mem_of_getElem? HE.out)
        obtain ⟨va, vc, hve, _⟩ := owns_form hv
        dsimp only at hve
        subst hve
        have s0 : wr.cell? ⟨g3, k * 4, none⟩ = _ := hcc 0 _ rfl; have s1 := hcc 1 _ rfl; have s2 := hcc 2 _ rfl; have s3 := hcc 3 _ rfl
        dsimp only at s0 s1 s2 s3
        have HV := Lib.hid (BytesAt.read hv (bytesOf_one _))
        have hxo := H.out.ok _ (List.mem_of_getElem? HE.out)
        have HXO := Lib.hid hxo
        clear hc3 hf3 hcc hv hxo
        go_upto_region 8 with fail
        clear sg
        go_cut [7, 8] (fun v7 v8 wc => LgMid w b (some ⟨g3, 0, none⟩) cL (some ⟨g2, 0, none⟩) cG Q k (packR ((Q.take k).map absQ) ++ [(x, false)]) Q'.length v7 v8 wc)
        case first =>
          go_region_held3 (fun w' => w'.cell? ⟨b, 0, none⟩ = some (.slice (some ⟨g3, 0, none⟩) Q.length cL) ∧ w'.cell? ⟨b + 1 + 1 + 1, 0, none⟩ = some (.slice aL' Q'.length cL') ∧ w'.cell? ⟨b + 1 + 1 + 1, 1, none⟩ = some (.slice aG' Q'.length cG') ∧ w'.cell? ⟨g3, k * 4, none⟩ = some (.string x.key) ∧ w'.cell? ⟨g3, k * 4 + 1, none⟩ = some (.slice va (bytesOf x.val).length vc) ∧ w'.cell? ⟨g3, k * 4 + 2, none⟩ = some (.int .u64 x.dl) ∧ w'.cell? ⟨g3, k * 4 + 3, none⟩ = some (.int .u64 x.birth))
            (first | go_keep | exact ⟨(Mod.set2 _ _ _ _ _).cell (by simp; omega) y0, (Mod.set2 _ _ _ _ _).cell (by simp; omega) y1, (Mod.set2 _ _ _ _ _).cell (by simp; omega) y2, (Mod.set2 _ _ _ _ _).cell (by simp; omega) y3, (Mod.set2 _ _ _ _ _).cell (by simp; omega) y4, (Mod.set2 _ _ _ _ _).cell (by simp; omega) y5, (Mod.set2 _ _ _ _ _).cell (by simp; omega) y6⟩)
            (first | (go_at_call 23; refine Calls.mono (ref_Append (HR'.out.pure (by (repeat' (first | (with_reducible exact Mod.refl _ _) | (with_reducible refine Mod.alloc ?_ _) | (with_reducible refine Mod.drew ?_) | (with_reducible refine Mod.drewN ?_ _) | (with_reducible refine Mod.setCell ?_ ?_ _) | (refine Mod.then ?_ (by with_reducible assumption) ?_))) <;> (all_goals (intros; first | (exfalso; assumption) | omega | (simp at *; done) | (simp at *; omega))))) (by omega) x HXO.out va _ vc (HV.out.frame (S := fun _ => False) (by (repeat' (first | (with_reducible exact Mod.refl _ _) | (with_reducible refine Mod.alloc ?_ _) | (with_reducible refine Mod.drew ?_) | (with_reducible refine Mod.drewN ?_ _) | (with_reducible refine Mod.setCell ?_ ?_ _) | (refine Mod.then ?_ (by with_reducible assumption) ?_))) <;> (all_goals (intros; first | (exfalso; assumption) | omega | (simp at *; done) | (simp at *; omega)))) (fun _ _ h => h))) ?_; rintro e w1 ⟨aL2, cL2, aG2, cG2, Q2, rfl, hq2, hR2, hf2, hf3, hp1⟩; have hq1 : Pure wr w1 := Mod.trans (by (repeat' (first | (with_reducible exact Mod.refl _ _) | (with_reducible refine Mod.alloc ?_ _) | (with_reducible refine Mod.drew ?_) | (with_reducible refine Mod.drewN ?_ _) | (with_reducible refine Mod.setCell ?_ ?_ _) | (refine Mod.then ?_ (by with_reducible assumption) ?_)))) hp1; have y0 := hq1.cell (fun h => h) hr1_0; have y1 := hq1.cell (fun h => h) hr4_0; have y2 := hq1.cell (fun h => h) hr4_1; have y3 := hq1.cell (fun h => h) s0; have y4 := hq1.cell (fun h => h) s1; have y5 := hq1.cell (fun h => h) s2; have y6 := hq1.cell (fun h => h) s3; (try (have zb := hp1.heap (fun h => h) (heap_new (w := wr.drew) (o := .cells #[.slice none 0 0, .slice none 0 0] 32 (0, 0)) (n := wr.heap.size) rfl); have zb_0 := cell_of_row _ _ 0 _ _ _ zb; have zb_1 := cell_of_row _ _ 1 _ _ _ zb; have zb_f := (fun j => frozen_of_row _ _ j _ _ zb); have zb_l := lt_of_block zb; simp at zb_0 zb_1; have H_zb := Lib.hid zb; clear zb)); have HQ1 := Lib.hid hq1; have HQ2 := Lib.hid hq2; have HR2' := Lib.hid hR2; have HF2 := Lib.hid hf2; have HF3 := Lib.hid hf3; have HP1 := Lib.hid hp1; clear hq1 hq2 hR2 hf2 hf3 hp1))
          all_goals
            clear s0 s1 s2 s3 y0 y1 y2 y3 y4 y5 y6
            go_wp2_with fail
            go_meet
            first
              | exact lg_mid HPU.out H_hr1.out HR2.out HR3.out H_hr4.out H_hr5.out HN.out HFN.out (HQ1.out.alloc _) (by have := HQ1.out.size; omega) (heap_new rfl) (HR2'.out.pure ((Mod.refl _ _).alloc _)) (by rw [HQ2.out, HQ'.out]) (fun g hg => by have := HF2.out g hg; (try simp at this); omega) (fun g hg => by have := HF3.out g hg; (try simp at this); omega)
              | exact lg_mid HPU.out H_hr1.out HR2.out HR3.out H_hr4.out H_hr5.out HN.out HFN.out (HQ1.out.then (Mod.set2 _ _ _ _ _) (fun i hi h => by omega)) hsz (heap_set12 H_zb.out) (HR2'.out.modT (Mod.set2 _ _ _ _ _) (fun i hi _ => by subst hi; exact ⟨_, _, H_zb.out⟩)) (by rw [HQ2.out, HQ'.out]) (fun g hg => by have := HF2.out g hg; (try simp at this); omega) (fun g hg => by have := HF3.out g hg; (try simp at this); omega)
        case rest =>
          obtain ⟨hpu, k1, k2, k3, ⟨u0, u1, k4⟩, ⟨b7, aL2, cL2, aG2, cG2, Q2, rfl, rfl, hb7, hq2, k7, hR2, hf2, hf3⟩, aN2, cN2, k5, hN2, hfN2⟩ := hcut
          clear s0 s1 s2 s3
          clear hr1_0 hr1_1 hr1_f hr1_l
          clear hr4_0 hr4_1 hr4_f hr4_l
          clear hr5_0 hr5_1 hr5_f hr5_l
          have J := lg_mid2 (b := b) hpu k1 k2 k3 k4 k5 hN2 hfN2 hR2 (.slice aL2 Q2.length cL2) (.slice aG2 Q2.length cG2) (by omega)
          have HQ2 := Lib.hid hq2; have HF2 := Lib.hid hf2; have HF3 := Lib.hid hf3
          clear hq2 hf2 hf3 hpu k1 k2 k3 k5 hN2 hR2
          have k4_0 := cell_of_row _ _ 0 _ _ _ k4; have k4_1 := cell_of_row _ _ 1 _ _ _ k4; have k4_f := (fun j => frozen_of_row _ _ j _ _ k4); have k4_l := lt_of_block k4; simp at k4_0 k4_1; have H_k4 := Lib.hid k4; clear k4
          have k7_0 := cell_of_row _ _ 0 _ _ _ k7; have k7_1 := cell_of_row _ _ 1 _ _ _ k7; have k7_f := (fun j => frozen_of_row _ _ j _ _ k7); have k7_l := lt_of_block k7; simp at k7_0 k7_1; have H_k7 := Lib.hid k7; clear k7
          go_upto_region 10 with fail
          clear k4_0 k4_1 k4_f k4_l
          clear k7_0 k7_1 k7_f k7_l
          generalize (wc.setCell ⟨b + 1 + 1 + 1, 0, none⟩ (.slice aL2 Q2.length cL2)).setCell ⟨b + 1 + 1 + 1, 1, none⟩ (.slice aG2 Q2.length cG2) = W6 at J ⊢
          obtain ⟨j0, j1, j2, j3, j4, j5, jN, jR⟩ := J
          have J0 := Lib.hid j0; have J1 := Lib.hid j1; have J2 := Lib.hid j2; have J3 := Lib.hid j3; have J4 := Lib.hid j4; have JN := Lib.hid jN; have JR := Lib.hid jR; have HFN2 := Lib.hid hfN2
          clear j0 j1 j2 j3 j4 jN jR hfN2
          have j5_0 := cell_of_row _ _ 0 _ _ _ j5; have j5_1 := cell_of_row _ _ 1 _ _ _ j5; have j5_f := (fun j => frozen_of_row _ _ j _ _ j5); have j5_l := lt_of_block j5; simp at j5_0 j5_1; have H_j5 := Lib.hid j5; clear j5
          go_upto_region 11 with (at_builtin; refine wpList_append_read _ rfl _ _ 84 rfl 3 i0 _ 1 8 Tryz.underlying84 hi iz0 iz1 iz2 rfl (by decide) (.slice aN2 k cN2) k (ints (newX (oldsQ Q k) k)) rfl (owns_mod JN.out ((Mod.refl (fun _ => False) W6).alloc _) (fun _ _ h => h)) _ [.int .i64 (Q'.length : Int)] 1 rfl (ReadAt.of_block 1 1 1 (heap_new rfl) (by rfl) (by simp [Value.oneCell'])) rfl (by unfold maxLen; omega) (by omega) ?_; intro a7 c7 w5 hr7 hg7 hb7; have m7 := Mod.heap (Mod.of_grown (S := fun k' => (Value.slice aN2 k cN2).ownBlock = some k') hg7 (fun k e _ => e)) (fun e => (by have := HFN2.out _ e; omega)) (heap_keep H_j5.out); have m7_0 := cell_of_row _ _ 0 _ _ _ m7; have m7_1 := cell_of_row _ _ 1 _ _ _ m7; have m7_f := (fun j => frozen_of_row _ _ j _ _ m7); have m7_l := lt_of_block m7; simp at m7_0 m7_1; have H_m7 := Lib.hid m7; clear m7)
          have L := lg_append (ys := oldsQ Q (k + 1)) H_j5.out JN.out ((Mod.refl _ W6).alloc _) hr7 (by rw [oldsQ_live HE.out, HQL.out]; exact newX_live (oldsQ_lt Q k)) hg7 hb7
          obtain ⟨L1, L2, L3, L4⟩ := L
          clear m7_0 m7_1 m7_f m7_l H_m7 hr7 hg7 hb7
          generalize w5.setCell ⟨b + 1 + 1 + 1 + 1, 0, none⟩ (.slice a7 (k + 1) c7) = W8 at L1 L2 L3 ⊢
          have hn5 : ∀ g, g ≤ b + 1 + 1 + 1 → ¬ (g = b + 1 + 1 + 1 + 1 ∨ (Value.slice aN2 k cN2).ownBlock = some g) := by
            rintro g hg (h | h)
            · omega
            · have := HFN2.out g h; omega
          have hfin := lg_next (b := b) hb HE.out (J0.out.then L3 (fun i hi h => hn5 i (by omega) h)) (L3.heap (hn5 _ (by omega)) J1.out) (L3.heap (hn5 _ (by omega)) J2.out) (L3.heap (hn5 _ (by omega)) J3.out) (L3.heap (hn5 _ (by omega)) J4.out) (JR.out.modM L3 (fun i hi _ => by
            rcases hi with rfl | hi
            · exact ⟨_, _, _, H_j5.out, .inr (.inl rfl)⟩
            · obtain ⟨c, e⟩ := owns_type JN.out hi
              exact ⟨_, _, _, e, .inr (.inr rfl)⟩)) HQ2.out HF2.out HF3.out L1 L2 (fun g hg => by
            rcases L4 g hg with h | h
            · exact HFN2.out g h
            · omega)
          clear j5_0 j5_1 j5_f j5_l
          have HFIN := Lib.hid hfin
          clear hfin L2 L3 L4 hn5
          have L1_0 := cell_of_row _ _ 0 _ _ _ L1; have L1_1 := cell_of_row _ _ 1 _ _ _ L1; have L1_f := (fun j => frozen_of_row _ _ j _ _ L1); have L1_l := lt_of_block L1; simp at L1_0 L1_1; have H_L1 := Lib.hid L1; clear L1
          go_upto_region 5 with fail
          clear L1_0 L1_1 L1_f L1_l
          go_wp2
          go_roundw
          case rel => exact ⟨k + 1, by go_num, HFIN.out⟩
          case measure => simp [intOf]; omega
      · go_upto_region 5 with (at_builtin; refine wpList_append_read _ rfl _ _ 84 rfl 3 i0 _ 1 8 Tryz.underlying84 hi iz0 iz1 iz2 rfl (by decide) (.slice aN k cN) k (ints (newX (oldsQ Q k) k)) rfl (owns_mod HN.out ((Mod.refl (fun _ => False) wr).alloc _) (fun _ _ h => h)) _ [.int .i64 (-1)] 1 rfl (ReadAt.of_block 1 1 1 (heap_new rfl) (by rfl) (by simp [Value.oneCell'])) rfl (by unfold maxLen; omega) (by omega) ?_; intro a7 c7 w5 hr7 hg7 hb7; have m7 := Mod.heap (Mod.of_grown (S := fun k' => (Value.slice aN k cN).ownBlock = some k') hg7 (fun k e _ => e)) (fun e => (by have := HFN.out _ e; omega)) (heap_keep H_hr5.out); have m7_0 := cell_of_row _ _ 0 _ _ _ m7; have m7_1 := cell_of_row _ _ 1 _ _ _ m7; have m7_f := (fun j => frozen_of_row _ _ j _ _ m7); have m7_l := lt_of_block m7; simp at m7_0 m7_1; have H_m7 := Lib.hid m7; clear m7)
        have L := lg_append (ys := oldsQ Q (k + 1)) H_hr5.out HN.out ((Mod.refl _ wr).alloc _) hr7 (by rw [oldsQ_gone HE.out]; exact newX_gone (oldsQ_lt Q k)) hg7 hb7
        obtain ⟨L1, L2, L3, L4⟩ := L
        clear m7_0 m7_1 m7_f m7_l H_m7 hr7 hg7 hb7 sg
        clear hr4_0 hr4_1 hr4_f hr4_l
        clear hr5_0 hr5_1 hr5_f hr5_l
        generalize w5.setCell ⟨b + 1 + 1 + 1 + 1, 0, none⟩ (.slice a7 (k + 1) c7) = W6 at L1 L2 L3 ⊢
        have K1 := Lib.hid L1; have K2 := Lib.hid L2; have K3 := Lib.hid L3; have K4 := Lib.hid L4
        clear L1 L2 L3 L4
        go_wp2
        go_roundw
        case rel =>
          refine ⟨k + 1, by go_num, by omega, HPU.out.then K3.out (fun i hi h => by rcases h with h | h; omega; have := HFN.out i h; omega), K3.out.heap (HN5.out _ (by omega)) H_hr1.out, K3.out.heap (HN5.out _ (by omega)) HR2.out, K3.out.heap (HN5.out _ (by omega)) HR3.out, ⟨aL', cL', aG', cG', Q', by rw [pack_gone HE.out]; exact HQ'.out, K3.out.heap (HN5.out _ (by omega)) H_hr4.out, ?_, HFL.out, HFG.out⟩, a7, c7, by rw [oldsQ_gone HE.out]; exact K1.out, K2.out, fun g hg => ?_⟩
          · refine HR'.out.modM K3.out (fun i hi _ => ?_)
            rcases hi with rfl | hi
            · exact ⟨_, _, _, H_hr5.out, .inr (.inl rfl)⟩
            · obtain ⟨c, e⟩ := owns_type HN.out hi
              exact ⟨_, _, _, e, .inr (.inr rfl)⟩
          · rcases K4.out g hg with h | h
            · exact HFN.out g h
            · omega
        case measure => simp [intOf]; omega
    · go_upto_region 12 with fail
      have hkk : Q.length = k := by omega
      have HKK := Lib.hid hkk
      clear hkk
      have hr2 := HR2.out; have hr3 := HR3.out
      have hr2_0 := cell_of_row _ _ 0 _ _ _ hr2; have hr2_1 := cell_of_row _ _ 1 _ _ _ hr2; have hr2_f := (fun j => frozen_of_row _ _ j _ _ hr2); have hr2_l := lt_of_block hr2; simp at hr2_0 hr2_1; have H_hr2 := Lib.hid hr2; clear hr2
      have hr3_0 := cell_of_row _ _ 0 _ _ _ hr3; have hr3_1 := cell_of_row _ _ 1 _ _ _ hr3; have hr3_f := (fun j => frozen_of_row _ _ j _ _ hr3); have hr3_l := lt_of_block hr3; simp at hr3_0 hr3_1; have H_hr3 := Lib.hid hr3; clear hr3
      go_region
      go_wp2
      refine bodyPost_ret (v := .tuple #[refV aL' cL' aG' cG' Q'.length, .agg #[.slice aN k cN, .int .i64 (oldsQ Q k).length]]) (by simp [results, Tryz.results94, go_sem, hr2_0, hr2_1, hr3_0, hr3_1, hr2_f, hr3_f]) rfl ?_
      have hm1 : Mod (fun i => i = b + 1) wr ((wr.setCell ⟨b + 1, 0, none⟩ (.slice aL' Q'.length cL')).setCell ⟨b + 1, 1, none⟩ (.slice aG' Q'.length cG')) := Mod.set2 _ _ _ _ _
      have R1 := HR'.out.modT hm1 (fun i hi _ => by subst hi; exact ⟨_, _, H_hr2.out⟩)
      have r3 := hm1.heap (by omega) H_hr3.out
      have N1 := owns_mod HN.out hm1 (fun g hg h => by have := HFN.out g hg; omega)
      generalize (wr.setCell ⟨b + 1, 0, none⟩ (.slice aL' Q'.length cL')).setCell ⟨b + 1, 1, none⟩ (.slice aG' Q'.length cG') = W7 at hm1 R1 r3 N1 ⊢
      have hm2 : Mod (fun i => i = b + 1 + 1) W7 (((W7.setCell ⟨b + 1 + 1, 0, none⟩ (.slice aN k cN)).setCell ⟨b + 1 + 1, 1, none⟩ (.int .i64 (oldsQ Q k).length)).drew) := (Mod.set2 _ _ _ _ _).drew
      have R2 := R1.modM hm2 (fun i hi _ => by subst hi; exact ⟨_, _, _, r3, .inr (.inl rfl)⟩)
      have N2 := owns_mod N1 hm2 (fun g hg h => by have := HFN.out g hg; omega)
      refine ⟨aL', cL', aG', cG', Q', aN, cN, by rw [← oldsQ_all, HKK.out], by rw [HQ'.out, ← HKK.out, List.take_length], R2, ?_, fun g hg => by have := HFL.out g hg; omega, (HPU.out.then hm1 (fun i hi h => by omega)).then hm2 (fun i hi h => by omega)⟩
      rw [← oldsQ_all, HKK.out]
      exact N2
end Go.Proofs.YtapplindfijngaaGreat

/- law11.known answers true, whatever the world, and makes new blocks alone; and with it CompactDue. -/
namespace Go.Proofs.YtapplindfijngaaGreat
open Go.RowKit Go.Shelf
set_option maxRecDepth 100000

/-! ### known -/
def kE : Nat → Ent
  | 0 => ⟨⟨#[97]⟩, [], 0, 1⟩
  | 1 => ⟨⟨#[98]⟩, [], 0, 2⟩
  | 2 => ⟨⟨#[99]⟩, [], 0, 3⟩
  | _ => ⟨⟨#[100]⟩, [], 0, 4⟩
theorem kE_ok (i : Nat) : (kE i).Ok := by
  unfold kE
  split <;> exact ⟨by decide, by decide, by decide, by decide⟩
def kL (n : Nat) : List (Option Ent) := (List.range n).map (fun i => some (kE i))
theorem kL_succ (n : Nat) : kL (n + 1) = kL n ++ [some (kE n)] := by simp [kL, List.range_succ]
theorem kL_length (n : Nat) : (kL n).length = n := by simp [kL]
theorem nil_read (w : World) : ReadAt w (.slice none 0 0) 1 (bytesOf []) := ReadAt.nil w 1

def compactB (w : World) (L' : List (Option Ent)) (xs : List Nat) (n : Int) (k : Nat) (e : Ending) (w' : World) : Prop :=
  ∃ q a c D, e = .returned (.tuple #[logPtr q, .agg #[.slice a k c, .int .i64 n], .int .i64 0]) ∧ LogAt w' D q L' ∧ U32Row w' a c xs ∧ Pure w w' ∧ (∀ k, D k → w.heap.size ≤ k) ∧ Fresh w (.slice a k c)
theorem compactB_ok {w : World} {D : Nat → Prop} {p : Nat} {L : List (Option Ent)} (h : LogAt w D p L) (L' : List (Option Ent)) (xs : List Nat) (n : Int) (k : Nat) (h1 : packed L = L') (h2 : olds L = xs) (h3 : (L.length : Int) = n) (h4 : xs.length = k) :
    Calls Tryz.prog 87 #[logPtr p] w (compactB w L' xs n k) := by
  subst h1 h2 h3 h4
  exact compactA_ok h
def removeB (w : World) (D : Nat → Prop) (p : Nat) (L' : List (Option Ent)) (e : Ending) (w' : World) : Prop := ∃ v, e = .returned v ∧ LogAt w' D p L' ∧ Mod D w w'
theorem removeB_ok {w : World} {D : Nat → Prop} {p : Nat} {L : List (Option Ent)} (h : LogAt w D p L) (i : Int) (k : Nat) (hk : i = (k : Int)) (x : Ent) (hi : L[k]? = some (some x)) (L' : List (Option Ent)) (hL : L.set k none = L') :
    Calls Tryz.prog 24 #[logPtr p, .int .u32 i] w (removeB w D p L') := by
  subst hk hL
  refine Calls.mono (removeA_ok h k x hi) ?_
  rintro e w' ⟨a, n, c, rfl, _, _, h1, h2⟩
  exact ⟨_, rfl, h1, h2⟩
theorem kL4 : kL 4 = [some (kE 0), some (kE 1), some (kE 2), some (kE 3)] := rfl
theorem packed4 : packed [none, none, some (kE 2), some (kE 3)] = [some (kE 2), some (kE 3)] := rfl
theorem olds4 : olds [none, none, some (kE 2), some (kE 3)] = [2, 3] := rfl
theorem packed2 : packed [none, some (kE 3)] = [some (kE 3)] := rfl
theorem olds2 : olds [none, some (kE 3)] = [1] := rfl
theorem keys4 : keysOf (live [some (kE 2), some (kE 3)]) = ⟨#[99, 100]⟩ := by decide +kernel
theorem ThenZ {w : World} {a a2 : Option Addr} {c c2 : Nat} {xs ys : List Nat} (h : U32Row w a c xs) (h2 : U32Row w a2 c2 ys) (n : Int) (zs : List Nat) (k k2 : Nat) (n2 : Int) (k3 : Nat) (hy : ∀ y ∈ ys, y < xs.length) (hl : ys.length ≤ 4194304) (hx : ∀ x ∈ xs, x ≤ 4294967295) (hx2 : xs.length ≤ 4194304)
    (hz : thenXs xs ys = zs) (hk : xs.length = k) (hk2 : ys.length = k2) (hn2 : (xs.length : Int) = n2) (hk3 : ys.length = k3) :
    Calls Tryz.prog 92 #[.agg #[.slice a k c, .int .i64 n], .agg #[.slice a2 k2 c2, .int .i64 n2]] w fun e w' =>
      ∃ a' c', e = .returned (.tuple #[.agg #[.slice a' k3 c', .int .i64 n], .int .i64 0]) ∧ U32Row w' a' c' zs ∧ Fresh w (.slice a' k3 c') ∧ Pure w w' := by
  subst hz hk hn2 hk3
  subst hk2
  exact Then_ok h h2 n hy hl hx hx2
/-- Between the calls: a log, its moves in a box, nothing elder turned. -/
structure KS (w : World) (b : Nat) (D : Nat → Prop) (q : Nat) (L : List (Option Ent)) (a : Option Addr) (c : Nat) (xs : List Nat) (k : Nat) (n : Int) (W : World) : Prop where
  log : LogAt W D q L
  row : U32Row W a c xs
  box : W.heap[b]? = some (.cells #[.slice a k c, .int .i64 n] 81 (0, 0))
  pu : Pure w W
  dd : ∀ i, D i → w.heap.size ≤ i
  bb : w.heap.size ≤ b
theorem KS.pure {w : World} {b : Nat} {D : Nat → Prop} {q : Nat} {L : List (Option Ent)} {a : Option Addr} {c : Nat} {xs : List Nat} {k : Nat} {n : Int} {W W' : World} (h : KS w b D q L a c xs k n W) (hq : Pure W W') : KS w b D q L a c xs k n W' :=
  ⟨h.log.pure hq, owns_mod h.row hq (fun _ _ h => h), hq.heap (fun h => h) h.box, h.pu.trans hq, h.dd, h.bb⟩
theorem KS.c0 {w : World} {b : Nat} {D : Nat → Prop} {q : Nat} {L : List (Option Ent)} {a : Option Addr} {c : Nat} {xs : List Nat} {k : Nat} {n : Int} {W : World} (h : KS w b D q L a c xs k n W) : W.cell? ⟨b, 0, none⟩ = some (.slice a k c) := by
  have := cell_of_row W b 0 _ _ _ h.box
  simpa using this
theorem KS.c1 {w : World} {b : Nat} {D : Nat → Prop} {q : Nat} {L : List (Option Ent)} {a : Option Addr} {c : Nat} {xs : List Nat} {k : Nat} {n : Int} {W : World} (h : KS w b D q L a c xs k n W) : W.cell? ⟨b, 1, none⟩ = some (.int .i64 n) := by
  have := cell_of_row W b 1 _ _ _ h.box
  simpa using this
/-- Moves in a box. -/
structure KM (w : World) (b : Nat) (a : Option Addr) (c : Nat) (xs : List Nat) (k : Nat) (n : Int) (W : World) : Prop where
  row : U32Row W a c xs
  box : W.heap[b]? = some (.cells #[.slice a k c, .int .i64 n] 81 (0, 0))
  pu : Pure w W
  bb : w.heap.size ≤ b
theorem KM.pure {w : World} {b : Nat} {a : Option Addr} {c : Nat} {xs : List Nat} {k : Nat} {n : Int} {W W' : World} (h : KM w b a c xs k n W) (hq : Pure W W') : KM w b a c xs k n W' :=
  ⟨owns_mod h.row hq (fun _ _ h => h), hq.heap (fun h => h) h.box, h.pu.trans hq, h.bb⟩
theorem KM.c0 {w : World} {b : Nat} {a : Option Addr} {c : Nat} {xs : List Nat} {k : Nat} {n : Int} {W : World} (h : KM w b a c xs k n W) : W.cell? ⟨b, 0, none⟩ = some (.slice a k c) := by
  have := cell_of_row W b 0 _ _ _ h.box
  simpa using this
theorem KM.c1 {w : World} {b : Nat} {a : Option Addr} {c : Nat} {xs : List Nat} {k : Nat} {n : Int} {W : World} (h : KM w b a c xs k n W) : W.cell? ⟨b, 1, none⟩ = some (.int .i64 n) := by
  have := cell_of_row W b 1 _ _ _ h.box
  simpa using this
theorem KS.toKM {w : World} {b : Nat} {D : Nat → Prop} {q : Nat} {L : List (Option Ent)} {a : Option Addr} {c : Nat} {xs : List Nat} {k : Nat} {n : Int} {W : World} (h : KS w b D q L a c xs k n W) : KM w b a c xs k n W := ⟨h.row, h.box, h.pu, h.bb⟩
theorem KS.removed {w : World} {b : Nat} {D : Nat → Prop} {q : Nat} {L : List (Option Ent)} {a : Option Addr} {c : Nat} {xs : List Nat} {k : Nat} {n : Int} {W W' : World} (h : KS w b D q L a c xs k n W) (hm : Mod D W W') : KM w b a c xs k n W' :=
  ⟨h.log.owns hm h.row (by decide) (by decide), h.log.box hm h.box (by decide) (by decide), h.pu.then hm (fun i hi hk => by have := h.dd i hk; omega), h.bb⟩
theorem rising3 : Rising [3] := ⟨by decide, by decide, by decide⟩
theorem rising23 : Rising [2, 3] := ⟨by decide, by decide, by decide⟩

def KnInv (w : World) (p : Nat) (i : Value) (wr : World) : Prop := ∃ (n : Nat) (D : Nat → Prop), n ≤ 4 ∧ i = .int .i64 n ∧ LogAt wr D p (kL n) ∧ Pure w wr ∧ ∀ k, D k → w.heap.size ≤ k

set_option maxHeartbeats 1000000 in
theorem known_true (w : World) : Calls Tryz.prog 33 #[] w fun e w' => e = .returned (.bool true) ∧ Pure w w' := by
  go_enter Tryz.func33, Tryz.ntmps33
  go_wp2_with (go_at_call 21; refine Calls.mono (newA_ok _) ?_; rintro e w1 ⟨rfl, hl, hp, hz⟩; have HL := Lib.hid hl; have HP := Lib.hid hp; clear hl hp)
  generalize hpp : w.heap.size = p at *
  go_loopw [2] (fun i wr => KnInv w p i wr) (fun i _ => 4 - (intOf i).toNat)
  case atStart => exact ⟨0, _, by omega, rfl, HL.out, HP.out, fun k hk => by omega⟩
  case round =>
    obtain ⟨n, D, hn, rfl, hL, hP, hD⟩ := hrel
    have HLn := Lib.hid hL
    have HPn := Lib.hid hP
    have HDn := Lib.hid hD
    clear hL hP hD HL HP
    by_cases hlt : n < 4
    · have h4 : n = 0 ∨ n = 1 ∨ n = 2 ∨ n = 3 := by omega
      rcases h4 with rfl | rfl | rfl | rfl
      · go_wp2_with (go_at_call 22; refine Calls.mono (appendA_ok HLn.out (by rw [kL_length]; decide) (kE 0) (kE_ok 0) none 0 0 (nil_read _)) ?_; rintro e w2 ⟨rfl, D', hL2, hM2, hG2⟩)
        refine ⟨⟨1, D', by omega, rfl, by rw [kL_succ]; exact hL2, HPn.out.then hM2 (fun k hk h => by have := HDn.out k h; omega), fun k hk => ?_⟩, by simp [intOf]⟩
        rcases hG2 k hk with h | h
        · exact HDn.out k h
        · have := HPn.out.size; omega
      · go_wp2_with (go_at_call 22; refine Calls.mono (appendA_ok HLn.out (by rw [kL_length]; decide) (kE 1) (kE_ok 1) none 0 0 (nil_read _)) ?_; rintro e w2 ⟨rfl, D', hL2, hM2, hG2⟩)
        refine ⟨⟨2, D', by omega, rfl, by rw [kL_succ]; exact hL2, HPn.out.then hM2 (fun k hk h => by have := HDn.out k h; omega), fun k hk => ?_⟩, by simp [intOf]⟩
        rcases hG2 k hk with h | h
        · exact HDn.out k h
        · have := HPn.out.size; omega
      · go_wp2_with (go_at_call 22; refine Calls.mono (appendA_ok HLn.out (by rw [kL_length]; decide) (kE 2) (kE_ok 2) none 0 0 (nil_read _)) ?_; rintro e w2 ⟨rfl, D', hL2, hM2, hG2⟩)
        refine ⟨⟨3, D', by omega, rfl, by rw [kL_succ]; exact hL2, HPn.out.then hM2 (fun k hk h => by have := HDn.out k h; omega), fun k hk => ?_⟩, by simp [intOf]⟩
        rcases hG2 k hk with h | h
        · exact HDn.out k h
        · have := HPn.out.size; omega
      · go_wp2_with (go_at_call 22; refine Calls.mono (appendA_ok HLn.out (by rw [kL_length]; decide) (kE 3) (kE_ok 3) none 0 0 (nil_read _)) ?_; rintro e w2 ⟨rfl, D', hL2, hM2, hG2⟩)
        refine ⟨⟨4, D', by omega, rfl, by rw [kL_succ]; exact hL2, HPn.out.then hM2 (fun k hk h => by have := HDn.out k h; omega), fun k hk => ?_⟩, by simp [intOf]⟩
        rcases hG2 k hk with h | h
        · exact HDn.out k h
        · have := HPn.out.size; omega
    · obtain rfl : n = 4 := by omega
      have HL4n : Hid (LogAt wr D p [some (kE 0), some (kE 1), some (kE 2), some (kE 3)]) := by rw [← kL4]; exact HLn.out
      clear hlt hn HLn
      go_upto_region 13 with (first
        | (go_at_call 24; refine Calls.mono (removeB_ok HL4n.out 1 1 rfl (kE 1) rfl [some (kE 0), none, some (kE 2), some (kE 3)] rfl) ?_; rintro e w2 ⟨v, rfl, hl2, hm2⟩; have HL2 := Lib.hid hl2; have HP2 := Lib.hid (HPn.out.then hm2 (fun k hk h => (by have := HDn.out k h; omega))); clear hl2 hm2 HL4n)
        | (go_at_call 24; refine Calls.mono (removeB_ok HL2.out 0 0 rfl (kE 0) rfl [none, none, some (kE 2), some (kE 3)] rfl) ?_; rintro e w3 ⟨v, rfl, hl3, hm3⟩; have HL3 := Lib.hid hl3; have HP3 := Lib.hid (HP2.out.then hm3 (fun k hk h => (by have := HDn.out k h; omega))); clear hl3 hm3 HL2 HP2)
        | (go_at_call 87; refine Calls.mono (compactB_ok HL3.out [some (kE 2), some (kE 3)] [2, 3] 4 2 packed4 olds4 rfl rfl) ?_; rintro e w4 ⟨q, a, c, D2, rfl, hl4, hr4, hp4, hd4, hf4⟩; have HL4 := Lib.hid hl4; have HR4 := Lib.hid hr4; have HP4 := Lib.hid hp4; have HD4 := Lib.hid hd4; clear hl4 hr4 hp4 hd4 hf4))
      have HW : Hid (KS w w4.heap.size D2 q [some (kE 2), some (kE 3)] a c [2, 3] 2 4 (w4.alloc (.cells #[.slice a 2 c, .int .i64 4] 81))) := by
        have hP : Pure w4 (w4.alloc (.cells #[.slice a 2 c, .int .i64 4] 81)) := (Mod.refl _ w4).alloc _
        exact ⟨HL4.out.pure hP, owns_mod HR4.out hP (fun _ _ h => h), heap_new rfl, (HP3.out.trans HP4.out).trans hP, fun k hk => Nat.le_trans HP3.out.size (HD4.out k hk), Nat.le_trans HP3.out.size HP4.out.size⟩
      generalize w4.alloc (.cells #[.slice a 2 c, .int .i64 4] 81) = W at HW ⊢
      generalize w4.heap.size = b at HW ⊢
      have HS := HW
      clear HW HL4 HR4 HP4 HD4 HP3 HL3 HPn HDn
      have m0 := HS.out.c0
      have m1 := HS.out.c1
      have t1 : Hid True := Lib.hid trivial; have t2 := t1; have t3 := t1; have t4 := t1; have t5 := t1; have t6 := t1; have t7 := t1
      go_upto_region 15 with (first
        | (go_at_call 88; refine Calls.mono (keysA HS.out.log) ?_; rintro e W2 ⟨rfl, hq⟩; replace HS := Lib.hid (HS.out.pure hq); have m0 := HS.out.c0; have m1 := HS.out.c1; clear hq; rw [keys4])
        | (go_at_call 89; have := t1.out; clear this t1; refine Calls.mono (lensZ _ _ 2 4 2 4 true (by decide)) ?_; rintro e W2 ⟨rfl, hq⟩; replace HS := Lib.hid (HS.out.pure hq); have m0 := HS.out.c0; have m1 := HS.out.c1; clear hq)
        | (go_at_call 90; have := t2.out; clear this t2; refine Calls.mono (toZ HS.out.row rising23 2 rfl 4 2 0 0 true (by decide) (by decide)) ?_; rintro e W2 ⟨rfl, hq⟩; replace HS := Lib.hid (HS.out.pure hq); have m0 := HS.out.c0; have m1 := HS.out.c1; clear hq)
        | (go_at_call 90; have := t3.out; clear this t3; refine Calls.mono (toZ HS.out.row rising23 2 rfl 4 3 1 0 true (by decide) (by decide)) ?_; rintro e W2 ⟨rfl, hq⟩; replace HS := Lib.hid (HS.out.pure hq); have m0 := HS.out.c0; have m1 := HS.out.c1; clear hq)
        | (go_at_call 90; have := t4.out; clear this t4; refine Calls.mono (toZ HS.out.row rising23 2 rfl 4 1 0 9 true (by decide) (by decide)) ?_; rintro e W2 ⟨rfl, hq⟩; replace HS := Lib.hid (HS.out.pure hq); have m0 := HS.out.c0; have m1 := HS.out.c1; clear hq)
        | (go_at_call 90; have := t5.out; clear this t5; refine Calls.mono (toZ HS.out.row rising23 2 rfl 4 4 0 9 true (by decide) (by decide)) ?_; rintro e W2 ⟨rfl, hq⟩; replace HS := Lib.hid (HS.out.pure hq); have m0 := HS.out.c0; have m1 := HS.out.c1; clear hq)
        | (go_at_call 91; have := t6.out; clear this t6; refine Calls.mono (fromZ HS.out.row (by decide) 2 rfl 4 0 2 0 true (by decide) (by decide)) ?_; rintro e W2 ⟨rfl, hq⟩; replace HS := Lib.hid (HS.out.pure hq); have m0 := HS.out.c0; have m1 := HS.out.c1; clear hq)
        | (go_at_call 91; have := t7.out; clear this t7; refine Calls.mono (fromZ HS.out.row (by decide) 2 rfl 4 2 0 9 true (by decide) (by decide)) ?_; rintro e W2 ⟨rfl, hq⟩; replace HS := Lib.hid (HS.out.pure hq); have m0 := HS.out.c0; have m1 := HS.out.c1; clear hq))
      have HM := Lib.hid HS.out.toKM
      clear m0 m1
      go_upto_region 17 with (first
        | (go_at_call 24; refine Calls.mono (removeB_ok HS.out.log 0 0 rfl (kE 2) rfl [none, some (kE 3)] rfl) ?_; rintro e w5 ⟨v5, rfl, hl5, hm5⟩; have HL5 := Lib.hid hl5; replace HM := Lib.hid (HS.out.removed hm5); clear hl5 hm5 HS)
        | (go_at_call 87; refine Calls.mono (compactB_ok HL5.out [some (kE 3)] [1] 2 1 packed2 olds2 rfl rfl) ?_; rintro e w6 ⟨q2, a2, c2, D3, rfl, hl6, hr6, hp6, hd6, hf6⟩; have HR6 := Lib.hid hr6; have HP6 := Lib.hid hp6; replace HM := Lib.hid (HM.out.pure hp6); clear hl6 hr6 hp6 hd6 hf6))
      have hP : Pure w6 (w6.alloc (.cells #[.slice a2 1 c2, .int .i64 2] 81)) := (Mod.refl _ w6).alloc _
      have HN : Hid (KM w w6.heap.size a2 c2 [1] 1 2 (w6.alloc (.cells #[.slice a2 1 c2, .int .i64 2] 81))) :=
        ⟨owns_mod HR6.out hP (fun _ _ h => h), heap_new rfl, HM.out.pu.trans hP, HM.out.pu.size⟩
      replace HM := Lib.hid (HM.out.pure hP)
      clear hP HR6
      generalize w6.alloc (.cells #[.slice a2 1 c2, .int .i64 2] 81) = W at HM HN ⊢
      generalize w6.heap.size = b9 at HN ⊢
      have m0 := HM.out.c0; have m1 := HM.out.c1; have n0 := HN.out.c0; have n1 := HN.out.c1
      go_upto_region 18 with
        (go_at_call 92; refine Calls.mono (ThenZ HM.out.row HN.out.row 4 [3] 2 1 2 1 (by decide) (by decide) (by decide) (by decide) rfl rfl rfl rfl rfl) ?_; rintro e w7 ⟨a7, c7, rfl, hr7, hf7, hp7⟩; have HR7 := Lib.hid hr7; replace HM := Lib.hid (HM.out.pure hp7); replace HN := Lib.hid (HN.out.pure hp7); clear hr7 hf7 hp7)
      have hP : Pure w7 (w7.alloc (.cells #[.slice a7 1 c7, .int .i64 4] 81)) := (Mod.refl _ w7).alloc _
      have HB : Hid (KM w w7.heap.size a7 c7 [3] 1 4 (w7.alloc (.cells #[.slice a7 1 c7, .int .i64 4] 81))) :=
        ⟨owns_mod HR7.out hP (fun _ _ h => h), heap_new rfl, HM.out.pu.trans hP, HM.out.pu.size⟩
      replace HM := Lib.hid (HM.out.pure hP)
      replace HN := Lib.hid (HN.out.pure hP)
      clear hP HR7 m0 m1 n0 n1
      generalize w7.alloc (.cells #[.slice a7 1 c7, .int .i64 4] 81) = W at HM HN HB ⊢
      generalize w7.heap.size = b10 at HB ⊢
      have m0 := HM.out.c0; have m1 := HM.out.c1; have n0 := HN.out.c0; have n1 := HN.out.c1
      go_upto_region 19 with
        (go_at_call 92; refine Calls.mono (Then_arg _ _ 1 _ _ 4 (by decide)) ?_; rintro e w8 ⟨rfl, hp8⟩; replace HB := Lib.hid (HB.out.pure hp8); clear hp8)
      have hP : Pure w8 (w8.alloc (.cells #[.slice none 0 0, .int .i64 0] 81)) := (Mod.refl _ w8).alloc _
      replace HB := Lib.hid (HB.out.pure hP)
      clear hP m0 m1 n0 n1 HM HN
      generalize w8.alloc (.cells #[.slice none 0 0, .int .i64 0] 81) = W at HB ⊢
      have m0 := HB.out.c0; have m1 := HB.out.c1
      have t1 : Hid True := Lib.hid trivial; have t2 := t1; have t3 := t1; have t4 := t1; have t5 := t1; have t6 := t1; have t7 := t1; have t8 := t1; have t9 := t1
      go_wp2_with (first
        | (go_at_call 89; have := t1.out; clear this t1; refine Calls.mono (lensZ _ _ 1 4 1 4 true (by decide)) ?_; rintro e W2 ⟨rfl, hq⟩; replace HB := Lib.hid (HB.out.pure hq); have m0 := HB.out.c0; have m1 := HB.out.c1; clear hq)
        | (go_at_call 90; have := t2.out; clear this t2; refine Calls.mono (toZ HB.out.row rising3 1 rfl 4 3 0 0 true (by decide) (by decide)) ?_; rintro e W2 ⟨rfl, hq⟩; replace HB := Lib.hid (HB.out.pure hq); have m0 := HB.out.c0; have m1 := HB.out.c1; clear hq)
        | (go_at_call 90; have := t3.out; clear this t3; refine Calls.mono (toZ HB.out.row rising3 1 rfl 4 2 0 9 true (by decide) (by decide)) ?_; rintro e W2 ⟨rfl, hq⟩; replace HB := Lib.hid (HB.out.pure hq); have m0 := HB.out.c0; have m1 := HB.out.c1; clear hq)
        | (go_at_call 91; have := t4.out; clear this t4; refine Calls.mono (fromZ HB.out.row (by decide) 1 rfl 4 0 3 0 true (by decide) (by decide)) ?_; rintro e W2 ⟨rfl, hq⟩; replace HB := Lib.hid (HB.out.pure hq); have m0 := HB.out.c0; have m1 := HB.out.c1; clear hq)
        | (go_at_call 93; have := t5.out; clear this t5; refine Calls.mono (dueZ _ (16) 0 false (by decide) (by decide)) ?_; rintro e W2 ⟨rfl, rfl⟩)
        | (go_at_call 93; have := t6.out; clear this t6; refine Calls.mono (dueZ _ (17) 0 true (by decide) (by decide)) ?_; rintro e W2 ⟨rfl, rfl⟩)
        | (go_at_call 93; have := t7.out; clear this t7; refine Calls.mono (dueZ _ (18) 1 false (by decide) (by decide)) ?_; rintro e W2 ⟨rfl, rfl⟩)
        | (go_at_call 93; have := t8.out; clear this t8; refine Calls.mono (dueZ _ (19) 1 true (by decide) (by decide)) ?_; rintro e W2 ⟨rfl, rfl⟩)
        | (go_at_call 93; have := t9.out; clear this t9; refine Calls.mono (dueZ _ (-1) 0 false (by decide) (by decide)) ?_; rintro e W2 ⟨rfl, rfl⟩))
      go_ret
      exact ⟨rfl, HB.out.pu⟩

/-! ### CompactDue -/
end Go.Proofs.YtapplindfijngaaGreat

/- law11.CompactLogs, walked: it answers true. Condition: the slot numbers are read. -/
namespace Go.Proofs.YtapplindfijngaaGreat
open Go.RowKit Go.Shelf
set_option maxRecDepth 100000

theorem setA_any {w : World} {D : Nat → Prop} {p : Nat} {L : List (Option Ent)} (h : LogAt w D p L) (i : Nat) (hu : i ≤ 4294967295) : Calls Tryz.prog 128 #[logPtr p, .int .u32 i, .slice none 0 0, .int .u64 0] w fun e w' => (∃ v, e = .returned v) ∧ (∃ L', LogAt w' D p L') ∧ Mod D w w' := by
  obtain ⟨sv, M, rfl, h⟩ := h
  cases e : M[i]? with
  | none =>
    refine Calls.mono (Set_miss h hu (by unfold slotOf; rw [e]; rfl) _ _) ?_
    rintro e w' ⟨rfl, hp⟩
    exact ⟨⟨_, rfl⟩, ⟨_, (h.pure hp).toAt⟩, Mod.of_pure hp⟩
  | some m =>
    obtain ⟨o, v⟩ := m
    cases o with
    | none =>
      refine Calls.mono (Set_miss h hu (by unfold slotOf; rw [e]; rfl) _ _) ?_
      rintro e w' ⟨rfl, hp⟩
      exact ⟨⟨_, rfl⟩, ⟨_, (h.pure hp).toAt⟩, Mod.of_pure hp⟩
    | some x =>
      refine Calls.mono (Set_hit h e none 0 0 [] (ReadAt.nil _ _) (by simp) 0) ?_
      rintro e w' ⟨rfl, v', h1, h2⟩
      exact ⟨⟨_, rfl⟩, ⟨_, h1.toAt⟩, h2⟩
theorem removeA_any {w : World} {D : Nat → Prop} {p : Nat} {L : List (Option Ent)} (h : LogAt w D p L) (i : Nat) (hu : i ≤ 4294967295) : Calls Tryz.prog 24 #[logPtr p, .int .u32 i] w fun e w' => (∃ v, e = .returned v) ∧ (∃ L', LogAt w' D p L') ∧ Mod D w w' := by
  by_cases hx : ∃ x, L[i]? = some (some x)
  · obtain ⟨x, hx⟩ := hx
    refine Calls.mono (removeA_ok h i x hx) ?_
    rintro e w' ⟨a, n, c, rfl, _, _, h1, h2⟩
    exact ⟨⟨_, rfl⟩, ⟨_, h1⟩, h2⟩
  · refine Calls.mono (removeMissA_ok h i hu (fun x hh => hx ⟨x, hh⟩)) ?_
    rintro e w' ⟨rfl, hp⟩
    exact ⟨⟨_, rfl⟩, ⟨_, h.pure hp⟩, Mod.of_pure hp⟩
theorem compactC {w : World} {D : Nat → Prop} {p : Nat} {L : List (Option Ent)} (h : LogAt w D p L) (xs : List Nat) (n k : Nat) (hx : olds L = xs) (hn : L.length = n) (hk : xs.length = k) :
    Calls Tryz.prog 87 #[logPtr p] w fun e w' => ∃ q a c D, e = .returned (.tuple #[logPtr q, .agg #[.slice a k c, .int .i64 n], .int .i64 0]) ∧ LogAt w' D q (packed L) ∧ U32Row w' a c xs ∧ Pure w w' ∧ (∀ k, D k → w.heap.size ≤ k) := by
  subst hx hn hk
  refine Calls.mono (compactA_ok h) ?_
  rintro e w' ⟨q, a, c, D, rfl, h1, h2, h3, h4, _⟩
  exact ⟨q, a, c, D, rfl, h1, h2, h3, h4⟩

structure CLs (w : World) (p b6 : Nat) (D : Nat → Prop) (aL : Option Addr) (cL : Nat) (aG : Option Addr) (cG n : Nat) (Q : List RQ) (W : World) : Prop where
  pu : Pure w W
  log : LogAt W D p (slotsR (Q.map absQ))
  r6 : W.heap[b6]? = some (.cells #[.slice aL n cL, .slice aG n cG] 32 (0, 0))
  ref : RefRow W aL cL aG cG Q
  len : Q.length = n
  ap : ∀ g, (Value.slice aL n cL).ownBlock = some g → ¬ D g
  dd : ∀ k, D k → w.heap.size ≤ k
theorem CLs.pure {w : World} {p b6 : Nat} {D : Nat → Prop} {aL : Option Addr} {cL : Nat} {aG : Option Addr} {cG n : Nat} {Q : List RQ} {W W' : World} (h : CLs w p b6 D aL cL aG cG n Q W) (hq : Pure W W') : CLs w p b6 D aL cL aG cG n Q W' :=
  ⟨h.pu.trans hq, h.log.pure hq, hq.heap (fun h => h) h.r6, h.ref.pure hq, h.len, h.ap, h.dd⟩
structure CLx (q b9 : Nat) (D2 : Nat → Prop) (L : List (Option Ent)) (a : Option Addr) (c k n : Nat) (xs : List Nat) (W : World) : Prop where
  log : LogAt W D2 q L
  r9 : W.heap[b9]? = some (.cells #[.slice a k c, .int .i64 n] 81 (0, 0))
  row : U32Row W a c xs
  len : xs.length = k
theorem CLx.pure {q b9 : Nat} {D2 : Nat → Prop} {L : List (Option Ent)} {a : Option Addr} {c k n : Nat} {xs : List Nat} {W W' : World} (h : CLx q b9 D2 L a c k n xs W) (hq : Pure W W') : CLx q b9 D2 L a c k n xs W' :=
  ⟨h.log.pure hq, hq.heap (fun h => h) h.r9, owns_mod h.row hq (fun _ _ h => h), h.len⟩
structure CLy (b11 b12 : Nat) (aL : Option Addr) (cL : Nat) (aG : Option Addr) (cG m : Nat) (Q : List RQ) (aN : Option Addr) (cN n : Nat) (xs : List Nat) (k : Nat) (W : World) : Prop where
  r11 : W.heap[b11]? = some (.cells #[.slice aL m cL, .slice aG m cG] 32 (0, 0))
  ref : RefRow W aL cL aG cG Q
  len : Q.length = m
  r12 : W.heap[b12]? = some (.cells #[.slice aN n cN, .int .i64 k] 86 (0, 0))
  mv : MvX W aN cN n xs
theorem CLy.pure {b11 b12 : Nat} {aL : Option Addr} {cL : Nat} {aG : Option Addr} {cG m : Nat} {Q : List RQ} {aN : Option Addr} {cN n : Nat} {xs : List Nat} {k : Nat} {W W' : World} (h : CLy b11 b12 aL cL aG cG m Q aN cN n xs k W) (hq : Pure W W') : CLy b11 b12 aL cL aG cG m Q aN cN n xs k W' :=
  ⟨hq.heap (fun h => h) h.r11, h.ref.pure hq, h.len, hq.heap (fun h => h) h.r12, h.mv.pure hq⟩
theorem cls_beside {w : World} {p b6 q : Nat} {D D2 : Nat → Prop} {aL : Option Addr} {cL : Nat} {aG : Option Addr} {cG n : Nat} {Q : List RQ} {W W' : World} {L : List (Option Ent)} (h : CLs w p b6 D aL cL aG cG n Q W) (k : LogAt W D2 q L) (hm : Mod D2 W W')
    (hdd : ∀ i, D i → ¬ D2 i) (hda : ∀ g, (Value.slice aL n cL).ownBlock = some g → ¬ D2 g) (hdw : ∀ i, D2 i → w.heap.size ≤ i) : CLs w p b6 D aL cL aG cG n Q W' :=
  ⟨h.pu.then hm (fun i hi h => by have := hdw i h; omega), h.log.beside k hm hdd, k.box hm h.r6 (by decide) (by decide), h.ref.beside k hm (by rw [h.len]; exact hda), h.len, h.ap, h.dd⟩
theorem ref_LogC {w : World} {aL : Option Addr} {cL : Nat} {aG : Option Addr} {cG : Nat} {Q : List RQ} (h : RefRow w aL cL aG cG Q) (n : Nat) (hn : Q.length = n) (xs : List Nat) (k : Nat) (hx : olds (slotsR (Q.map absQ)) = xs) (hk : xs.length = k) :
    Calls Tryz.prog 94 #[.agg #[.slice aL n cL, .slice aG n cG]] w fun e w' => ∃ aL' cL' aG' cG' m Q' aN cN, e = .returned (.tuple #[.agg #[.slice aL' m cL', .slice aG' m cG'], .agg #[.slice aN n cN, .int .i64 k]]) ∧ Q'.length = m ∧ Q'.map absQ = packR (Q.map absQ) ∧ RefRow w' aL' cL' aG' cG' Q' ∧ MvX w' aN cN n xs ∧ Fresh w (.slice aL' m cL') ∧ Pure w w' := by
  subst hn hx hk
  refine Calls.mono (ref_Log_any h) ?_
  rintro e w' ⟨aL', cL', aG', cG', Q', aN, cN, rfl, h1, h2, h3, h4, h5⟩
  exact ⟨aL', cL', aG', cG', Q'.length, Q', aN, cN, rfl, rfl, h1, h2, h3, h4, h5⟩
theorem same_trueC {w : World} {D : Nat → Prop} {p : Nat} {aL : Option Addr} {cL : Nat} {aG : Option Addr} {cG : Nat} {Q : List RQ} {L : List (Option Ent)} (h : LogAt w D p L) (hR : RefRow w aL cL aG cG Q) (n : Nat) (hn : Q.length = n) (hL : L = slotsR (Q.map absQ)) :
    Calls Tryz.prog 38 #[logPtr p, .agg #[.slice aL n cL, .slice aG n cG]] w fun e w' => e = .returned (.bool true) ∧ Pure w w' := by
  subst hn hL
  exact same_true h hR
theorem moves_trueC {w : World} {a a2 : Option Addr} {c c2 n : Nat} {xs : List Nat} (h : U32Row w a c xs) (hr : Rising xs) (h2 : MvX w a2 c2 n xs) (hn : n ≤ 4194300) (hx : ∀ x ∈ xs, x < n) (k : Nat) (hk : xs.length = k) :
    Calls Tryz.prog 37 #[.agg #[.slice a k c, .int .i64 n], .agg #[.slice a2 n c2, .int .i64 k]] w fun e w' => e = .returned (.bool true) ∧ Pure w w' := by
  subst hk
  exact moves_true h hr h2 hn hx
end Go.Proofs.YtapplindfijngaaGreat

/- The reference of layer 11: Dict. Condition: no two of the dictionary's entries have the same key. -/
namespace Go.Proofs.YtapplindfijngaaGreat
open Go.RowKit Go.Shelf
set_option maxRecDepth 100000

def rcompPost (w : World) (seed : Nat) (same : Bool) (Q : List RQ) (L : List (Option Ent)) (e : Ending) (w' : World) : Prop :=
  ∃ r' Q' aN cN, e = .returned (.tuple #[rdV seed same r' Q'.length (8 * (ofM seed same (packL L) (live (packL L))).length), .agg #[.slice aN Q.length cN, .int .i64 (olds L).length]]) ∧ slotsR (Q'.map absQ) = packL L ∧ RefD w' r' Q' (ofM seed same (packL L) (live (packL L))) ∧
    MvX w' aN cN Q.length (olds L) ∧ Fresh w (.slice r'.aL Q'.length r'.cL) ∧ Pure w w'
set_option maxHeartbeats 4000000 in
theorem rcompD_ok {w : World} {r : RA} {Q : List RQ} {Gs : List Grp} (h : RefD w r Q Gs) (seed : Nat) (same : Bool) (hsd : seed < 18446744073709551616) (m : Nat) (hko : KeysOk (slotsR (Q.map absQ))) :
    Calls Tryz.prog 36 #[rdV seed same r Q.length m] w (rcompPost w seed same Q (slotsR (Q.map absQ))) := by
  obtain ⟨n, hn⟩ : ∃ n, Q.length = n := ⟨_, rfl⟩
  obtain ⟨L, hL⟩ : ∃ L, slotsR (Q.map absQ) = L := ⟨_, rfl⟩
  obtain ⟨j, hj⟩ : ∃ j, (olds L).length = j := ⟨_, rfl⟩
  have hp0 : Pure w (((w.alloc (rdO seed same r n m)).alloc (.cells #[.int .u64 0, .bool false, .slice none 0 0, .slice none 0 0, .slice none 0 0, .slice none 0 0] 38)).alloc (.cells #[.slice none 0 0, .int .i64 0] 86)) := (((Mod.refl _ w).alloc _).alloc _).alloc _
  have h1 := heap_keep (o := .cells #[.slice none 0 0, .int .i64 0] 86) (heap_keep (o := .cells #[.int .u64 0, .bool false, .slice none 0 0, .slice none 0 0, .slice none 0 0, .slice none 0 0] 38) (heap_new (w := w) (o := rdO seed same r n m) rfl))
  have h2 := heap_keep (o := .cells #[.slice none 0 0, .int .i64 0] 86) (heap_new (w := w.alloc (rdO seed same r n m)) (o := .cells #[.int .u64 0, .bool false, .slice none 0 0, .slice none 0 0, .slice none 0 0, .slice none 0 0] 38 (0, 0)) (n := w.heap.size + 1) (by simp))
  have h3 := heap_new (w := (w.alloc (rdO seed same r n m)).alloc (.cells #[.int .u64 0, .bool false, .slice none 0 0, .slice none 0 0, .slice none 0 0, .slice none 0 0] 38)) (o := .cells #[.slice none 0 0, .int .i64 0] 86 (0, 0)) (n := w.heap.size + 1 + 1) (by simp)
  have HLg := Lib.hid (ref_LogC (h.l.pure hp0) n hn (olds L) j (by rw [hL]) hj)
  have HKP : Hid (KeysOk (packL L)) := Lib.hid (packL_keys (hL ▸ hko))
  have HP := Lib.hid hp0
  have HL := Lib.hid hL
  rw [hL]
  unfold rcompPost
  rw [hj, hn]
  have HJ := Lib.hid hj
  clear h hp0 hn hL hko hj
  obtain ⟨aL, cL, aG, cG, aC, cC, aS, cS⟩ := r
  dsimp only [rdO] at h1 HLg ⊢
  go_enter Tryz.func36, Tryz.ntmps36
  go_upto_region 1 with fail
  generalize ((w.alloc (.cells #[.int .u64 seed, .bool same, .slice aL n cL, .slice aG n cG, .slice aC m cC, .slice aS m cS] 38)).alloc (.cells #[.int .u64 0, .bool false, .slice none 0 0, .slice none 0 0, .slice none 0 0, .slice none 0 0] 38)).alloc (.cells #[.slice none 0 0, .int .i64 0] 86) = W1 at *
  obtain ⟨b, hb⟩ : ∃ b, w.heap.size = b := ⟨_, rfl⟩
  rw [hb] at h1 h2 h3 ⊢
  have HB := Lib.hid hb
  clear hb
  have H1 := Lib.hid h1; have H2 := Lib.hid h2; have H3 := Lib.hid h3
  have h1_0 := cell_of_row _ _ 0 _ _ _ h1; have h1_1 := cell_of_row _ _ 1 _ _ _ h1; have h1_2 := cell_of_row _ _ 2 _ _ _ h1; have h1_3 := cell_of_row _ _ 3 _ _ _ h1; have h1_4 := cell_of_row _ _ 4 _ _ _ h1; have h1_5 := cell_of_row _ _ 5 _ _ _ h1; have h1_f := (fun j => frozen_of_row _ _ j _ _ h1); have h1_l := lt_of_block h1; simp at h1_0 h1_1 h1_2 h1_3 h1_4 h1_5; have H_h1 := Lib.hid h1; clear h1
  go_upto_region 2 with (go_at_call 94; refine Calls.mono HLg.out ?_; rintro e w2 ⟨aL2, cL2, aG2, cG2, m2, Q2, aN, cN, rfl, hm2, hq2, hr2, hmv, _, hp2⟩)
  have hal : Pure w2 ((w2.alloc (.cells #[.slice aL2 m2 cL2, .slice aG2 m2 cG2] 32)).alloc (.cells #[.slice aN n cN, .int .i64 j] 86)) := ((Mod.refl _ w2).alloc _).alloc _
  have h4 := heap_keep (o := .cells #[.slice aN n cN, .int .i64 j] 86) (heap_new (w := w2) (o := .cells #[.slice aL2 m2 cL2, .slice aG2 m2 cG2] 32 (0, 0)) rfl)
  have h5 := heap_new (w := w2.alloc (.cells #[.slice aL2 m2 cL2, .slice aG2 m2 cG2] 32)) (o := .cells #[.slice aN n cN, .int .i64 j] 86 (0, 0)) (n := w2.heap.size + 1) (by simp)
  have hL2 : slotsR (Q2.map absQ) = packL L := by rw [hq2, packR_slots, HL.out]; rfl
  have hof := rdOf_ok (hr2.pure hal) seed same hsd (by rw [hL2]; exact HKP.out)
  unfold rdofPost at hof
  rw [hL2, hm2] at hof
  have hb4 : b + 1 + 1 < w2.heap.size := by have := lt_of_block H3.out; have := hp2.size; omega
  replace H1 := Lib.hid ((hp2.trans hal).heap (fun h => h) H1.out); replace H2 := Lib.hid ((hp2.trans hal).heap (fun h => h) H2.out); replace H3 := Lib.hid ((hp2.trans hal).heap (fun h => h) H3.out)
  replace HP := Lib.hid (HP.out.trans (hp2.trans hal))
  have HMv := Lib.hid (hmv.pure hal)
  have HOf := Lib.hid hof; have HL2 := Lib.hid hL2
  clear h1_0 h1_1 h1_2 h1_3 h1_4 h1_5 h1_f h1_l
  clear H_h1 h2 h3 hal hp2 hq2 hr2 hmv hm2 hL2 hof HLg
  generalize (w2.alloc (.cells #[.slice aL2 m2 cL2, .slice aG2 m2 cG2] 32)).alloc (.cells #[.slice aN n cN, .int .i64 j] 86) = W2 at *
  generalize w2.heap.size = b4 at *
  have H5 := Lib.hid h5
  have h1 := H1.out
  clear h5
  have h1_0 := cell_of_row _ _ 0 _ _ _ h1; have h1_1 := cell_of_row _ _ 1 _ _ _ h1; have h1_2 := cell_of_row _ _ 2 _ _ _ h1; have h1_3 := cell_of_row _ _ 3 _ _ _ h1; have h1_4 := cell_of_row _ _ 4 _ _ _ h1; have h1_5 := cell_of_row _ _ 5 _ _ _ h1; have h1_f := (fun j => frozen_of_row _ _ j _ _ h1); have h1_l := lt_of_block h1; simp at h1_0 h1_1 h1_2 h1_3 h1_4 h1_5; have H_h1 := Lib.hid h1; clear h1
  have h4_0 := cell_of_row _ _ 0 _ _ _ h4; have h4_1 := cell_of_row _ _ 1 _ _ _ h4; have h4_f := (fun j => frozen_of_row _ _ j _ _ h4); have h4_l := lt_of_block h4; simp at h4_0 h4_1; have H_h4 := Lib.hid h4; clear h4
  go_upto_region 3 with (go_at_call 27; refine Calls.mono HOf.out ?_; rintro e w3 ⟨⟨aL3, cL3, aG3, cG3, aC3, cC3, aS3, cS3⟩, Q3, rfl, hq3, hr3, hf3, hp3⟩)
  obtain ⟨G3, hG3⟩ : ∃ G3, ofM seed same (packL L) (live (packL L)) = G3 := ⟨_, rfl⟩
  rw [hG3] at hr3 ⊢
  obtain ⟨n3, hn3⟩ : ∃ n3, Q3.length = n3 := ⟨_, rfl⟩
  obtain ⟨m3, hm3⟩ : ∃ m3, 8 * G3.length = m3 := ⟨_, rfl⟩
  rw [hn3] at hf3 ⊢
  rw [hm3] at ⊢
  have hal : Pure w3 (w3.alloc (rdO seed same ⟨aL3, cL3, aG3, cG3, aC3, cC3, aS3, cS3⟩ n3 m3)) := (Mod.refl _ w3).alloc _
  have h6 := heap_new (w := w3) (o := rdO seed same ⟨aL3, cL3, aG3, cG3, aC3, cC3, aS3, cS3⟩ n3 m3) rfl
  have h2 := (hp3.trans hal).heap (fun h => h) H2.out; have h3 := (hp3.trans hal).heap (fun h => h) H3.out; have h5 := (hp3.trans hal).heap (fun h => h) H5.out
  have hb6 : b4 + 1 < w3.heap.size := by have := lt_of_block H5.out; have := hp3.size; omega
  have hQ3 : slotsR (Q3.map absQ) = packL L := by rw [hq3]; exact HL2.out
  have HF3 : Hid (Fresh w (.slice aL3 n3 cL3)) := Lib.hid (fun g hg => by have := hf3 g hg; have := HP.out.size; omega)
  replace HP := Lib.hid (HP.out.trans (hp3.trans hal))
  replace HMv := Lib.hid (HMv.out.pure (hp3.trans hal))
  have HR3 := Lib.hid (hr3.pure hal)
  have HQ3 := Lib.hid hQ3; have HN3 := Lib.hid hn3; have HM3 := Lib.hid hm3; have HG3 := Lib.hid hG3
  clear h1_0 h1_1 h1_2 h1_3 h1_4 h1_5 h1_f h1_l
  clear h4_0 h4_1 h4_f h4_l
  clear H_h1 H_h4 hal hp3 hq3 hr3 hf3 hQ3 hn3 hm3 hG3 H1 H2 H3 H5 HOf
  dsimp only [rdO] at h6 ⊢
  generalize w3.alloc (.cells #[.int .u64 seed, .bool same, .slice aL3 n3 cL3, .slice aG3 n3 cG3, .slice aC3 m3 cC3, .slice aS3 m3 cS3] 38) = W3 at *
  generalize w3.heap.size = b6 at *
  have h2_0 := cell_of_row _ _ 0 _ _ _ h2; have h2_1 := cell_of_row _ _ 1 _ _ _ h2; have h2_2 := cell_of_row _ _ 2 _ _ _ h2; have h2_3 := cell_of_row _ _ 3 _ _ _ h2; have h2_4 := cell_of_row _ _ 4 _ _ _ h2; have h2_5 := cell_of_row _ _ 5 _ _ _ h2; have h2_f := (fun j => frozen_of_row _ _ j _ _ h2); have h2_l := lt_of_block h2; simp at h2_0 h2_1 h2_2 h2_3 h2_4 h2_5; have H_h2 := Lib.hid h2; clear h2
  have h3_0 := cell_of_row _ _ 0 _ _ _ h3; have h3_1 := cell_of_row _ _ 1 _ _ _ h3; have h3_f := (fun j => frozen_of_row _ _ j _ _ h3); have h3_l := lt_of_block h3; simp at h3_0 h3_1; have H_h3 := Lib.hid h3; clear h3
  have h5_0 := cell_of_row _ _ 0 _ _ _ h5; have h5_1 := cell_of_row _ _ 1 _ _ _ h5; have h5_f := (fun j => frozen_of_row _ _ j _ _ h5); have h5_l := lt_of_block h5; simp at h5_0 h5_1; have H_h5 := Lib.hid h5; clear h5
  have h6_0 := cell_of_row _ _ 0 _ _ _ h6; have h6_1 := cell_of_row _ _ 1 _ _ _ h6; have h6_2 := cell_of_row _ _ 2 _ _ _ h6; have h6_3 := cell_of_row _ _ 3 _ _ _ h6; have h6_4 := cell_of_row _ _ 4 _ _ _ h6; have h6_5 := cell_of_row _ _ 5 _ _ _ h6; have h6_f := (fun j => frozen_of_row _ _ j _ _ h6); have h6_l := lt_of_block h6; simp at h6_0 h6_1 h6_2 h6_3 h6_4 h6_5; have H_h6 := Lib.hid h6; clear h6
  go_region
  go_wp2
  obtain ⟨Y, hY⟩ : ∃ Y, (((((W3.setCell ⟨b + 1, 0, none⟩ (.int .u64 seed)).setCell ⟨b + 1, 1, none⟩ (.bool same)).setCell ⟨b + 1, 2, none⟩ (.slice aL3 n3 cL3)).setCell ⟨b + 1, 3, none⟩ (.slice aG3 n3 cG3)).setCell ⟨b + 1, 4, none⟩ (.slice aC3 m3 cC3)).setCell ⟨b + 1, 5, none⟩ (.slice aS3 m3 cS3) = Y := ⟨_, rfl⟩
  obtain ⟨g1, g2⟩ := fin6 H_h2.out hY
  have g3 := g1.heap (by omega) H_h3.out
  rw [hY]
  obtain ⟨Z, hZ⟩ : ∃ Z, (Y.setCell ⟨b + 1 + 1, 0, none⟩ (.slice aN n cN)).setCell ⟨b + 1 + 1, 1, none⟩ (.int .i64 j) = Z := ⟨_, rfl⟩
  have f1 : Mod (fun k => k = b + 1 + 1) Y Z := by rw [← hZ]; exact Mod.set2 (b + 1 + 1) 0 1 _ _
  have f3 : Z.drew.heap[b + 1 + 1]? = some (.cells #[.slice aN n cN, .int .i64 j] 86 (0, 0)) := by rw [← hZ]; exact heap_set12 (v0 := .slice aN n cN) (v1 := .int .i64 j) g3
  have f0 : Z.drew.heap[b + 1]? = _ := f1.heap (by omega) g2
  rw [hZ]
  have x0 := cell_of_row _ _ 0 _ _ _ f0; have x1 := cell_of_row _ _ 1 _ _ _ f0; have x2 := cell_of_row _ _ 2 _ _ _ f0; have x3 := cell_of_row _ _ 3 _ _ _ f0; have x4 := cell_of_row _ _ 4 _ _ _ f0; have x5 := cell_of_row _ _ 5 _ _ _ f0
  have y0 := cell_of_row _ _ 0 _ _ _ f3; have y1 := cell_of_row _ _ 1 _ _ _ f3
  simp at x0 x1 x2 x3 x4 x5 y0 y1
  have n1 : ∀ i, i = b + 1 → i < W3.heap.size → ∃ cs T fz, W3.heap[i]? = some (.cells cs T fz) ∧ T ≠ 42 ∧ T ≠ 4 ∧ T ≠ 5 ∧ T ≠ 43 := fun i e _ => ⟨_, _, _, e ▸ H_h2.out, by decide, by decide, by decide, by decide⟩
  have n2 : ∀ i, i = b + 1 + 1 → i < Y.heap.size → ∃ cs T fz, Y.heap[i]? = some (.cells cs T fz) ∧ T ≠ 42 ∧ T ≠ 4 ∧ T ≠ 5 ∧ T ≠ 43 := fun i e _ => ⟨_, _, _, e ▸ g3, by decide, by decide, by decide, by decide⟩
  have hpd : Pure Z Z.drew := (Mod.refl _ Z).drew
  have hmv := owns_modT (owns_modT HMv.out g1 (fun i e hi => by subst e; exact ⟨_, _, _, H_h2.out, by decide⟩)) f1 (fun i e hi => by subst e; exact ⟨_, _, _, g3, by decide⟩)
  refine bodyPost_ret (v := .tuple #[rdV seed same ⟨aL3, cL3, aG3, cG3, aC3, cC3, aS3, cS3⟩ n3 m3, .agg #[.slice aN n cN, .int .i64 j]]) (by simp [results, Tryz.results36, go_sem, x0, x1, x2, x3, x4, x5, y0, y1]) rfl ⟨⟨aL3, cL3, aG3, cG3, aC3, cC3, aS3, cS3⟩, Q3, aN, cN, by rw [HG3.out, HN3.out, HM3.out], HQ3.out, ?_, MvX.pure hmv hpd, by rw [HN3.out]; exact HF3.out, ((HP.out.then g1 (fun i hi e => by have := HB.out; omega)).then f1 (fun i hi e => by have := HB.out; omega)).trans hpd⟩
  rw [HG3.out]
  exact ((HR3.out.modX g1 n1).modX f1 n2).pure hpd
end Go.Proofs.YtapplindfijngaaGreat
