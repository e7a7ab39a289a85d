/- Lemmas and contracts of functions, strung together out of 2 texts. No condition. -/
import Derived.Test.YtapplindfijngaaGreatJPfDictOf22
import Derived.Test.YtapplindfijngaaGreatJPfDictOf16
/- dict: Log, All, Insert; birth.zero, After, Find of a dictionary. -/
namespace Go.Proofs.YtapplindfijngaaGreat
open Go.RowKit Go.Shelf
set_option maxRecDepth 100000
section
variable {w w' : World} {D S : Nat → Prop} {d seed : Nat} {same : Bool} {L : List (Option Ent)} {Gs : List Grp}

theorem dlog_ok (h : DictAt w D d seed same L Gs) : Calls Tryz.prog 39 #[dPtr d] w (copyA w L) := by
  obtain ⟨q, p, sv, Dl, h1, h2, h3⟩ := h
  have HZ := Lib.hid (dzero_ok h1)
  have HC := Lib.hid (copyA_ok h1.log)
  have hb := h1.box
  clear h1 h2 h3
  have hb_0 := cell_of_row _ _ 0 _ _ _ hb; have hb_1 := cell_of_row _ _ 1 _ _ _ hb; have hb_2 := cell_of_row _ _ 2 _ _ _ hb; have hb_3 := cell_of_row _ _ 3 _ _ _ hb; have hb_f := (fun j => frozen_of_row _ _ j _ _ hb); have hb_l := lt_of_block hb; simp at hb_0 hb_1 hb_2 hb_3; have H_hb := Lib.hid hb; clear hb
  go_enter Tryz.func39, Tryz.ntmps39
  go_wp2_with (first
    | (go_at_call 48; refine Calls.mono HZ.out ?_; rintro e w' ⟨rfl, rfl⟩)
    | (go_at_call 75; refine Calls.mono HC.out ?_; rintro e w' ⟨q2, D2, rfl, g1, g2, g3⟩))
  go_ret
  exact ⟨q2, D2, rfl, g1, g2, g3⟩
theorem dall_ok (h : DictAt w D d seed same L Gs) : Calls Tryz.prog 45 #[dPtr d] w (allA w L) := by
  obtain ⟨q, p, sv, Dl, h1, h2, h3⟩ := h
  have HZ := Lib.hid (dzero_ok h1)
  have HC := Lib.hid (allA_ok h1.log)
  have hb := h1.box
  clear h1 h2 h3
  have hb_0 := cell_of_row _ _ 0 _ _ _ hb; have hb_1 := cell_of_row _ _ 1 _ _ _ hb; have hb_2 := cell_of_row _ _ 2 _ _ _ hb; have hb_3 := cell_of_row _ _ 3 _ _ _ hb; have hb_f := (fun j => frozen_of_row _ _ j _ _ hb); have hb_l := lt_of_block hb; simp at hb_0 hb_1 hb_2 hb_3; have H_hb := Lib.hid hb; clear hb
  go_enter Tryz.func45, Tryz.ntmps45
  go_wp2_with (first
    | (go_at_call 48; refine Calls.mono HZ.out ?_; rintro e w' ⟨rfl, rfl⟩)
    | (go_at_call 76; refine Calls.mono HC.out ?_; rintro e w' ⟨M, B, a, c, rfl, rfl, g1, g2, g3, g4⟩))
  go_ret
  exact ⟨M, B, a, c, rfl, rfl, g1, g2, g3, g4⟩
theorem sfull_ok {q : Nat} {Dl : Nat → Prop} (h : LogAt w Dl q L) : Calls Tryz.prog 51 #[.agg #[.pointer (some ⟨q, 0, none⟩)]] w fun e w' => e = .returned (.bool (decide (4194304 ≤ (L.length : Int)))) ∧ Pure w w' := by
  have hp : Pure w (w.alloc (.cells #[.pointer (some ⟨q, 0, none⟩)] 105)) := (Mod.refl _ w).alloc _
  have hb := heap_new (w := w) (o := (.cells #[.pointer (some ⟨q, 0, none⟩)] 105 (0, 0))) rfl
  have HK := Lib.hid (lenA (h.pure hp))
  have HP := Lib.hid hp
  clear h hp
  go_enter Tryz.func51, Tryz.ntmps51
  go_upto_region 1 with fail
  generalize w.alloc (.cells #[.pointer (some ⟨q, 0, none⟩)] 105) = W1 at *
  generalize w.heap.size = b at *
  have hb_0 := cell_of_row _ _ 0 _ _ _ hb; have hb_f := (fun j => frozen_of_row _ _ j _ _ hb); have hb_l := lt_of_block hb; simp at hb_0; have H_hb := Lib.hid hb; clear hb
  go_wp2_with (go_at_call 28; refine Calls.mono HK.out ?_; rintro e w' ⟨rfl, rfl⟩)
  go_ret
  exact ⟨rfl, HP.out⟩

/-! ### Insert -/
def insV (x : Ent) (v : Value) : Value := .agg #[.string x.key, v, .int .u64 x.dl, .int .u64 x.birth]
def dinsPost (w : World) (D : Nat → Prop) (d seed : Nat) (same : Bool) (L : List (Option Ent)) (Gs : List Grp) (x : Ent) (e : Ending) (w' : World) : Prop :=
  e = .returned (.tuple #[.int .u32 L.length, .int .i64 0]) ∧ ∃ D', DictAt w' D' d seed same (L ++ [some x]) (putM (sumL seed same (L ++ [some x])) Gs L.length) ∧ Mod D w w' ∧ Grew D D' w
theorem dins_mem {q p : Nat} {sv : Value} {Dl Dl2 : Nat → Prop} {w2 w3 : World} {L2 : List (Option Ent)} (h : DictMem w2 d q p sv Dl seed same L Gs) (hl : LogAt w3 Dl2 q L2) (hm : Mod Dl w2 w3) : DictMem w3 d q p sv Dl2 seed same L2 Gs :=
  ⟨hm.heap h.nd h.box, hl, h.ix.mod hm (fun k hk e => h.nlp k e hk), h.sd⟩
set_option maxHeartbeats 2000000 in
theorem dins_ok (h : DictAt w D d seed same L Gs) (x : Ent) (hok : x.Ok) (hL : L.length < 4194304) (hf : findK L x.key = none) (a : Option Addr) (n c : Nat) (hx : ReadAt w (.slice a n c) 1 (bytesOf x.val)) :
    Calls Tryz.prog 11 #[dPtr d, .agg #[.string x.key, .slice a n c, .int .u64 x.dl, .int .u64 x.birth]] w (dinsPost w D d seed same L Gs x) := by
  obtain ⟨q, p, sv, Dl, h1, h2, h3⟩ := h
  have HH := Lib.hid h1; have HK := Lib.hid h2; have HD := Lib.hid h3; have HX := Lib.hid hx; have HO := Lib.hid hok
  have hp0 : Pure w (w.alloc (.cells #[.string x.key, .slice a n c, .int .u64 x.dl, .int .u64 x.birth] 42)) := (Mod.refl _ w).alloc _
  have z3 := heap_new (w := w) (o := .cells #[.string x.key, .slice a n c, .int .u64 x.dl, .int .u64 x.birth] 42 (0, 0)) rfl
  have HP := Lib.hid hp0
  have HZ := Lib.hid (dzero_ok (h1.pure hp0))
  have hn : n ≤ 65536 := by have := read_length hx; rw [bytesOf_length] at this; have := hok.v1; omega
  have hb : (x.birth == 0) = false := by have := hok.b0; simp; omega
  have HN := Lib.hid (entry_New_ok x.key a n c x.dl x.birth (bytesOf x.val) _ (hx.frame hp0 (fun _ _ h => h)) hn hok.k0 hok.k1 hb)
  have HFd := Lib.hid (fun (W : World) (hW : Pure w W) => dfind_ok (h1.pure hW) h2 x.key (by have := hok.k1; omega))
  obtain ⟨i1, i2⟩ := h2.insert hf (by omega)
  obtain ⟨y, k1, k2, k3, k4, k5, k6, k7, k8⟩ := i1.put (by rw [h2.used]; have := liveOf_le' L; omega) (s := L.length) (by omega) (fun c => by have := liveS_lt c; omega)
  have HPl := Lib.hid (fun (W : World) (hW : Pure w W) => dplan_ok (h1.pure hW) k1)
  have HFu := Lib.hid (fun (W : World) (hW : Pure w W) => sfull_ok (h1.log.pure hW))
  have HApp := Lib.hid (fun (W : World) (hW : Pure w W) (a2 : Option Addr) (n2 c2 : Nat) (hr : ReadAt W (.slice a2 n2 c2) 1 (bytesOf x.val)) => appendA_ok (h1.log.pure hW) hL x hok a2 n2 c2 hr)
  have HPut := Lib.hid (fun (W : World) (Dl2 : Nat → Prop) (hW : DictMem W d q p sv Dl2 seed same (L ++ [some x]) Gs) => dput_ok hW k1 k2 k3 (s := L.length) (by omega) k6)
  have HI2 := Lib.hid i2
  have e1 : findV L x.key = (0, 9) := by unfold findV; rw [hf]
  unfold dfindPost planPost at *
  rw [e1] at HFd
  dsimp only at HFd
  have hfull : decide ((4194304 : Int) ≤ (L.length : Int)) = false := decide_eq_false (by omega)
  rw [hfull] at HFu
  obtain ⟨y1, y2⟩ := y
  dsimp only at HPl
  unfold appendA at HApp
  clear h1 h2 h3 hx hok hp0 hn hb i1 i2 k1 k2 k3 k4 k5 k6 k7 k8 e1 hf hfull
  go_enter Tryz.func11, Tryz.ntmps11
  go_upto_region 1 with fail
  generalize w.alloc (.cells #[.string x.key, .slice a n c, .int .u64 x.dl, .int .u64 x.birth] 42) = W1 at *
  obtain ⟨b3, hb3⟩ : ∃ b, w.heap.size = b := ⟨_, rfl⟩
  rw [hb3] at z3 ⊢
  have HB3 := Lib.hid hb3
  clear hb3
  have z3_0 := cell_of_row _ _ 0 _ _ _ z3; have z3_1 := cell_of_row _ _ 1 _ _ _ z3; have z3_2 := cell_of_row _ _ 2 _ _ _ z3; have z3_3 := cell_of_row _ _ 3 _ _ _ z3; have z3_f := (fun j => frozen_of_row _ _ j _ _ z3); have z3_l := lt_of_block z3; simp at z3_0 z3_1 z3_2 z3_3; have H_z3 := Lib.hid z3; clear z3
  go_upto_region 4 with (first
    | (go_at_call 48; refine Calls.mono HZ.out ?_; rintro e w' ⟨rfl, rfl⟩)
    | (go_at_call 49; refine Calls.mono HN.out ?_; rintro e w2 ⟨a2, n2, c2, rfl, hr2, hf2, hp2⟩))
  have hpo : Pure w2 (w2.alloc (.cells #[.string x.key, .slice a2 n2 c2, .int .u64 x.dl, .int .u64 x.birth] 42)) := (Mod.refl _ w2).alloc _
  have z6 := heap_new (w := w2) (o := .cells #[.string x.key, .slice a2 n2 c2, .int .u64 x.dl, .int .u64 x.birth] 42 (0, 0)) rfl
  have HR := Lib.hid (owns_mod (bytesAt_of hr2) hpo (fun _ _ h => h))
  have zz3 := (hp2.trans hpo).heap (fun h => h) H_z3.out
  replace HP := Lib.hid ((HP.out.trans hp2).trans hpo)
  have hb6 : b3 < w2.heap.size := Nat.lt_of_lt_of_le z3_l hp2.size
  clear z3_0 z3_1 z3_2 z3_3 z3_f z3_l
  clear H_z3 hr2 hf2 hp2 hpo HN HZ
  generalize w2.alloc (.cells #[.string x.key, .slice a2 n2 c2, .int .u64 x.dl, .int .u64 x.birth] 42) = W3 at *
  generalize w2.heap.size = b6 at *
  have zz3_0 := cell_of_row _ _ 0 _ _ _ zz3; have zz3_1 := cell_of_row _ _ 1 _ _ _ zz3; have zz3_2 := cell_of_row _ _ 2 _ _ _ zz3; have zz3_3 := cell_of_row _ _ 3 _ _ _ zz3; have zz3_f := (fun j => frozen_of_row _ _ j _ _ zz3); have zz3_l := lt_of_block zz3; simp at zz3_0 zz3_1 zz3_2 zz3_3; have H_zz3 := Lib.hid zz3; clear zz3
  have z6_0 := cell_of_row _ _ 0 _ _ _ z6; have z6_1 := cell_of_row _ _ 1 _ _ _ z6; have z6_2 := cell_of_row _ _ 2 _ _ _ z6; have z6_3 := cell_of_row _ _ 3 _ _ _ z6; have z6_f := (fun j => frozen_of_row _ _ j _ _ z6); have z6_l := lt_of_block z6; simp at z6_0 z6_1 z6_2 z6_3; have H_z6 := Lib.hid z6; clear z6
  go_upto_region 9 with (go_at_call 42; refine Calls.mono (HFd.out _ HP.out) ?_; rintro e w4 ⟨rfl, hp4⟩)
  go_upto_region 10 with (go_at_call 50; refine Calls.mono (HPl.out _ (HP.out.trans hp4)) ?_; rintro e w5 ⟨rfl, hp5⟩)
  have hp6 : Pure w5 (w5.alloc (.cells #[.int .i64 y1, .bool y2] 112)) := (Mod.refl _ w5).alloc _
  have hp36 := (hp4.trans hp5).trans hp6
  have zz6 := hp36.heap (fun h => h) H_z6.out
  replace HR := Lib.hid (owns_mod HR.out hp36 (fun _ _ h => h))
  replace HP := Lib.hid (HP.out.trans hp36)
  clear zz3_0 zz3_1 zz3_2 zz3_3 zz3_f zz3_l
  clear z6_0 z6_1 z6_2 z6_3 z6_f z6_l
  clear H_zz3 H_z6 hp4 hp5 hp6 hp36 HFd HPl
  generalize w5.alloc (.cells #[.int .i64 y1, .bool y2] 112) = W6 at *
  obtain ⟨b10, hb10⟩ : ∃ b, w5.heap.size = b := ⟨_, rfl⟩
  rw [hb10]
  clear hb10
  have hb := (HH.out.pure HP.out).box
  have hb_0 := cell_of_row _ _ 0 _ _ _ hb; have hb_1 := cell_of_row _ _ 1 _ _ _ hb; have hb_2 := cell_of_row _ _ 2 _ _ _ hb; have hb_3 := cell_of_row _ _ 3 _ _ _ hb; have hb_f := (fun j => frozen_of_row _ _ j _ _ hb); have hb_l := lt_of_block hb; simp at hb_0 hb_1 hb_2 hb_3; have H_hb := Lib.hid hb; clear hb
  have zz6_0 := cell_of_row _ _ 0 _ _ _ zz6; have zz6_1 := cell_of_row _ _ 1 _ _ _ zz6; have zz6_2 := cell_of_row _ _ 2 _ _ _ zz6; have zz6_3 := cell_of_row _ _ 3 _ _ _ zz6; have zz6_f := (fun j => frozen_of_row _ _ j _ _ zz6); have zz6_l := lt_of_block zz6; simp at zz6_0 zz6_1 zz6_2 zz6_3; have H_zz6 := Lib.hid zz6; clear zz6
  go_upto_region 12 with (go_at_call 51; refine Calls.mono (HFu.out _ HP.out) ?_; rintro e w7 ⟨rfl, hp7⟩)
  have k0 := hp7.cell (fun h => h) hb_0; have k1 := hp7.cell (fun h => h) zz6_0; have k2 := hp7.cell (fun h => h) zz6_1; have k3 := hp7.cell (fun h => h) zz6_2; have k4 := hp7.cell (fun h => h) zz6_3
  replace HR := Lib.hid (BytesAt.read (owns_mod HR.out hp7 (fun _ _ h => h)) (bytesOf_one _))
  replace HP := Lib.hid (HP.out.trans hp7)
  have HA := Lib.hid (fun (W : World) (hW : Pure w7 W) => HApp.out W (HP.out.trans hW) a2 n2 c2 (HR.out.frame hW (fun _ _ h => h)))
  have nD : ∀ k, Dl k → k < w.heap.size := fun k hk => HH.out.log.lt hk
  have hwb : w.heap.size = b3 := HB3.out
  have ND := Lib.hid nD
  clear nD
  clear hb_0 hb_1 hb_2 hb_3 hb_f hb_l
  clear zz6_0 zz6_1 zz6_2 zz6_3 zz6_f zz6_l
  clear H_hb H_zz6 hp7 HApp HFu
  go_region_held3 (fun w' => w'.cell? ⟨d, 0, none⟩ = some (.pointer (some ⟨q, 0, none⟩)) ∧ w'.cell? ⟨b6, 0, none⟩ = some (.string x.key) ∧ w'.cell? ⟨b6, 1, none⟩ = some (.slice a2 n2 c2) ∧ w'.cell? ⟨b6, 2, none⟩ = some (.int .u64 x.dl) ∧ w'.cell? ⟨b6, 3, none⟩ = some (.int .u64 x.birth))
    (first | exact ⟨k0, k1, k2, k3, k4⟩ | exact ⟨hm8.cell HH.out.nd k0, hm8.cell (fun e => by have := ND.out _ e; dsimp only at this; omega) k1, hm8.cell (fun e => by have := ND.out _ e; dsimp only at this; omega) k2, hm8.cell (fun e => by have := ND.out _ e; dsimp only at this; omega) k3, hm8.cell (fun e => by have := ND.out _ e; dsimp only at this; omega) k4⟩)
    (first
      | (go_at_call 22; refine Calls.mono (HA.out _ (by (repeat' (first | (with_reducible exact Mod.refl _ _) | (with_reducible refine Mod.alloc ?_ _) | (with_reducible refine Mod.drew ?_) | (with_reducible refine Mod.drewN ?_ _) | (with_reducible refine Mod.setCell ?_ ?_ _) | (refine Mod.then ?_ (by with_reducible assumption) ?_))) <;> (all_goals (intros; first | (exfalso; assumption) | omega | (simp at *; done) | (simp at *; omega))))) ?_; rintro e w8 ⟨rfl, Dl2, hl8, hm8, hg8⟩))
  have hm8' : Mod Dl w7 w8 := Mod.of_drew hm8
  have HM8 := Lib.hid (dins_mem (HH.out.pure HP.out) hl8 hm8')
  have hP8 : Mod Dl w w8 := (Mod.of_pure HP.out).trans hm8'
  have HM := Lib.hid hP8; have HG8 := Lib.hid hg8; have HL8 := Lib.hid hl8
  clear hm8 hm8' hP8 hg8 hl8 k0 k1 k2 k3 k4
  go_wp2_with (go_at_call 52; refine Calls.mono (HPut.out _ _ HM8.out) ?_; rintro e w9 ⟨p2, sv2, rfl, hm9, hmod9, hsx9⟩)
  go_ret2
  have h78 : w.heap.size ≤ w8.heap.size := HM.out.size
  refine ⟨rfl, dictD d Dl2 p2 sv2, ⟨q, p2, sv2, Dl2, hm9, HI2.out, fun _ => Iff.rfl⟩, ?_, ?_⟩
  · refine HM.out.trans' hmod9 (fun i _ hi => (HD.out i).2 (.inr (.inl hi))) (fun i _ hi => (HD.out i).2 ?_)
    rcases hi with e | e | e
    · exact .inl e
    · exact .inr (.inr (.inl e))
    · exact .inr (.inr (.inr e))
  · have hg9 : ∀ k, Dl2 k → Dl k ∨ w.heap.size ≤ k := fun k hk => by
      rcases HG8.out k hk with e | e
      · exact .inl e
      · exact .inr (by have := HP.out.size; simp at e; omega)
    rintro k (e | e | e | e)
    · exact .inl ((HD.out k).2 (.inl e))
    · rcases hg9 k e with e | e
      · exact .inl ((HD.out k).2 (.inr (.inl e)))
      · exact .inr e
    · rcases hsx9 with ⟨g1, g2⟩ | ⟨g1, g2⟩
      · exact .inl ((HD.out k).2 (.inr (.inr (.inl (e.trans g1)))))
      · exact .inr (by omega)
    · rcases hsx9 with ⟨g1, g2⟩ | ⟨g1, g2⟩
      · exact .inl ((HD.out k).2 (.inr (.inr (.inr (g2 ▸ e)))))
      · exact .inr (by have := g2 _ e; omega)
end
end Go.Proofs.YtapplindfijngaaGreat

/- dict: Remove (plain law and contract). -/
namespace Go.Proofs.YtapplindfijngaaGreat
open Go.RowKit Go.Shelf
set_option maxRecDepth 100000

/-! ### the plain law -/
theorem keyL_set {L : List (Option Ent)} {s t : Nat} (h : t ≠ s) : keyL (L.set s none) t = keyL L t := by
  unfold keyL
  rw [List.getElem?_set_ne (fun e => h e.symm)]
theorem liveS_set (L : List (Option Ent)) (s t : Nat) : liveS (L.set s none) t ↔ t ≠ s ∧ liveS L t := by
  unfold liveS
  by_cases h : t = s
  · subst h
    simp only [ne_eq, not_true_eq_false, false_and, iff_false]
    rintro ⟨e, he⟩
    rw [List.getElem?_set] at he
    simp at he
  · rw [List.getElem?_set_ne (fun e => h e.symm)]
    simp [h]
theorem keys_set {L : List (Option Ent)} (h : KeysOk L) (s : Nat) : KeysOk (L.set s none) := by
  intro a b e f ha hb hk
  have h1 := (liveS_set L s a).1 ⟨e, ha⟩
  have h2 := (liveS_set L s b).1 ⟨f, hb⟩
  rw [List.getElem?_set_ne (fun e => h1.1 e.symm)] at ha
  rw [List.getElem?_set_ne (fun e => h2.1 e.symm)] at hb
  exact h a b e f ha hb hk
theorem liveOf_set : ∀ {L : List (Option Ent)} {s : Nat} {x : Ent}, L[s]? = some (some x) → liveOf (L.set s none) + 1 = liveOf L
  | [], s, x, h => by simp at h
  | o :: L, 0, x, h => by
    simp at h; subst h
    simp [liveOf]
  | o :: L, s + 1, x, h => by
    have := liveOf_set (L := L) (s := s) (x := x) (by simpa using h)
    simp only [List.set_cons_succ, liveOf, List.countP_cons] at this ⊢
    omega
/-- What an index is behind a slot number that was taken out; behind the plan. -/
def takeM (H : Nat → Nat) (Gs : List Grp) (s : Nat) : List Grp := match findM Gs (H s) (fun x => x == s) with
  | some x => delG Gs x.1 x.2
  | none => Gs
def remM (H H' : Nat → Nat) (Gs : List Grp) (s : Nat) : List Grp := doG H' (planR (takeM H Gs s).length (usedN (takeM H Gs s))) (takeM H Gs s)
theorem Keeps.remove {seed : Nat} {same : Bool} {L : List (Option Ent)} {Gs : List Grp} (h : Keeps seed same L Gs) {s : Nat} {x : Ent} (hx : L[s]? = some (some x)) :
    (∃ i j, findM Gs (sumL seed same L s) (fun y => y == s) = some (i, j) ∧ takeM (sumL seed same L) Gs s = delG Gs i j) ∧ IxOk (takeM (sumL seed same L) Gs s) ∧
      ((planR (takeM (sumL seed same L) Gs s).length (usedN (takeM (sumL seed same L) Gs s))).2 = true → Pow (planR (takeM (sumL seed same L) Gs s).length (usedN (takeM (sumL seed same L) Gs s))).1 ∧ usedN (takeM (sumL seed same L) Gs s) ≤ 8 * (planR (takeM (sumL seed same L) Gs s).length (usedN (takeM (sumL seed same L) Gs s))).1) ∧
      Keeps seed same (L.set s none) (remM (sumL seed same L) (sumL seed same (L.set s none)) Gs s) := by
  obtain ⟨i, j, h1, h2⟩ := h.holds.find_some (s := s) ⟨x, hx⟩
  have ht : takeM (sumL seed same L) Gs s = delG Gs i j := by unfold takeM; rw [h1]
  obtain ⟨c1, c2, c3⟩ := del_counts h.holds.ok h2
  have h3 := h.holds.del h2
  have h4 : Holds (sumL seed same (L.set s none)) (liveS (L.set s none)) (delG Gs i j) :=
    (h3.congr (fun t ht => by unfold sumL; rw [keyL_set ht.1])).of_iff (fun t => (liveS_set L s t).symm)
  unfold remM
  rw [ht]
  obtain ⟨p1, p2, p3⟩ := planR_ok (g := (delG Gs i j).length) (live := usedN (delG Gs i j)) c3.pow
  have hle := used_le8 c3
  have hu : usedN (delG Gs i j) ≤ 8 * (planR (delG Gs i j).length (usedN (delG Gs i j))).1 := by
    cases hb : (planR (delG Gs i j).length (usedN (delG Gs i j))).2 with
    | true => exact Nat.le_of_lt (p2 hb)
    | false => rw [p3 hb]; exact hle
  obtain ⟨k1, k2, k3⟩ := h4.do p1 hu p3
  refine ⟨⟨i, j, h1, rfl⟩, c3, fun _ => ⟨p1, hu⟩, k1, keys_set h.keys s, ?_⟩
  rw [k2]
  have := liveOf_set hx
  have := h.used
  omega

/-! ### the contract -/
/-- A block of four cells is written whole. -/
theorem fin4 {X Y : World} {b : Nat} {u0 u1 u2 u3 v0 v1 v2 v3 : Value} {T : TypeId} (h : X.heap[b]? = some (.cells #[u0, u1, u2, u3] T (0, 0)))
    (hY : (((X.setCell ⟨b, 0, none⟩ v0).setCell ⟨b, 1, none⟩ v1).setCell ⟨b, 2, none⟩ v2).setCell ⟨b, 3, none⟩ v3 = Y) : Mod (fun k => k = b) X Y ∧ Y.heap[b]? = some (.cells #[v0, v1, v2, v3] T (0, 0)) := by
  subst hY
  refine ⟨((((Mod.set1 b 0 v0).trans (Mod.set1 b 1 v1)).trans (Mod.set1 b 2 v2)).trans (Mod.set1 b 3 v3)), ?_⟩
  have h1 := heap_set1 (j := 0) (v := v0) h
  have h2 := heap_set1 (j := 1) (v := v1) h1
  have h3 := heap_set1 (j := 2) (v := v2) h2
  have h4 := heap_set1 (j := 3) (v := v3) h3
  simpa using h4
section
variable {w w' : World} {D S : Nat → Prop} {d seed : Nat} {same : Bool} {L : List (Option Ent)} {Gs : List Grp}
def dremPost (w : World) (D : Nat → Prop) (d seed : Nat) (same : Bool) (L : List (Option Ent)) (Gs : List Grp) (s : Nat) (x : Ent) (e : Ending) (w' : World) : Prop :=
  ∃ a n c, e = .returned (.tuple #[.agg #[.string x.key, .slice a n c, .int .u64 x.dl, .int .u64 x.birth], .int .i64 0]) ∧ BytesAt w' (.slice a n c) (bytesOf x.val) ∧ Fresh w (.slice a n c) ∧
    ∃ D', DictAt w' D' d seed same (L.set s none) (remM (sumL seed same L) (sumL seed same (L.set s none)) Gs s) ∧ Mod D w w' ∧ Grew D D' w
def drem0 (w : World) (e : Ending) (w' : World) : Prop := e = .returned (.tuple #[.agg #[.string ⟨#[]⟩, .slice none 0 0, .int .u64 0, .int .u64 0], .int .i64 9]) ∧ Pure w w'
set_option maxHeartbeats 1000000 in
theorem drem_miss (h : DictAt w D d seed same L Gs) {s : Nat} (hs : s ≤ 4294967295) (hx : hasL L s = false) : Calls Tryz.prog 16 #[dPtr d, .int .u32 s] w (drem0 w) := by
  obtain ⟨q, p, sv, Dl, h1, h2, h3⟩ := h
  have hp0 : Pure w (w.alloc (.cells #[.string ⟨#[]⟩, .slice none 0 0, .int .u64 0, .int .u64 0] 42)) := (Mod.refl _ w).alloc _
  have z4 := heap_new (w := w) (o := .cells #[.string ⟨#[]⟩, .slice none 0 0, .int .u64 0, .int .u64 0] 42 (0, 0)) rfl
  have HZ := Lib.hid (dzero_ok (h1.pure hp0))
  have HK := Lib.hid (Key_any (h1.log.pure hp0) s hs)
  have e1 : noL L s = 9 := by unfold noL; rw [hx]; rfl
  rw [e1] at HK
  have hb := (h1.pure hp0).box
  have HP := Lib.hid hp0
  have hdb : d < w.heap.size := lt_of_block h1.box
  clear h1 h2 h3 hp0 e1 hx
  generalize keyL L s = ks at *
  go_enter Tryz.func16, Tryz.ntmps16
  go_upto_region 1 with fail
  generalize w.alloc (.cells #[.string ⟨#[]⟩, .slice none 0 0, .int .u64 0, .int .u64 0] 42) = W1 at *
  obtain ⟨b4, hb4⟩ : ∃ b, w.heap.size = b := ⟨_, rfl⟩
  rw [hb4] at z4 hdb ⊢
  have HB := Lib.hid hb4
  clear hb4
  have hb_0 := cell_of_row _ _ 0 _ _ _ hb; have hb_1 := cell_of_row _ _ 1 _ _ _ hb; have hb_2 := cell_of_row _ _ 2 _ _ _ hb; have hb_3 := cell_of_row _ _ 3 _ _ _ hb; have hb_f := (fun j => frozen_of_row _ _ j _ _ hb); have hb_l := lt_of_block hb; simp at hb_0 hb_1 hb_2 hb_3; have H_hb := Lib.hid hb; clear hb
  have z4_0 := cell_of_row _ _ 0 _ _ _ z4; have z4_1 := cell_of_row _ _ 1 _ _ _ z4; have z4_2 := cell_of_row _ _ 2 _ _ _ z4; have z4_3 := cell_of_row _ _ 3 _ _ _ z4; have z4_f := (fun j => frozen_of_row _ _ j _ _ z4); have z4_l := lt_of_block z4; simp at z4_0 z4_1 z4_2 z4_3; have H_z4 := Lib.hid z4; clear z4
  go_wp2_with (first
    | (go_at_call 48; refine Calls.mono HZ.out ?_; rintro e w' ⟨rfl, rfl⟩)
    | (go_at_call 56; refine Calls.mono HK.out ?_; rintro e w' ⟨rfl, rfl⟩))
  obtain ⟨Y, hY⟩ : ∃ Y, (((W1.setCell ⟨b4, 0, none⟩ (.string ⟨#[]⟩)).setCell ⟨b4, 1, none⟩ (.slice none 0 0)).setCell ⟨b4, 2, none⟩ (.int .u64 0)).setCell ⟨b4, 3, none⟩ (.int .u64 0) = Y := ⟨_, rfl⟩
  obtain ⟨g1, g2⟩ := fin4 H_z4.out hY
  rw [hY]
  have x0 := cell_of_row _ _ 0 _ _ _ g2; have x1 := cell_of_row _ _ 1 _ _ _ g2; have x2 := cell_of_row _ _ 2 _ _ _ g2; have x3 := cell_of_row _ _ 3 _ _ _ g2
  simp at x0 x1 x2 x3
  exact bodyPost_ret (v := .tuple #[.agg #[.string ⟨#[]⟩, .slice none 0 0, .int .u64 0, .int .u64 0], .int .i64 9]) (by simp [results, Tryz.results16, go_sem, x0, x1, x2, x3]) rfl ⟨rfl, HP.out.then g1 (fun i hi e => by have := HB.out; omega)⟩
end
end Go.Proofs.YtapplindfijngaaGreat
