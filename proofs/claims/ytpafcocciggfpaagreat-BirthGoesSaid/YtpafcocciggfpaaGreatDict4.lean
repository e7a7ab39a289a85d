/- dict: Log, All, Insert; birth.zero, After, Find of a dictionary. -/
import Derived.Test.YtpafcocciggfpaaGreatDict3
namespace Go.Proofs.YtpafcocciggfpaaGreat
open Go.RowKit Go.Shelf
set_option maxRecDepth 100000
section
variable {w w' : World} {D S : Nat → Prop} {d seed : Nat} {same : Bool} {L : List (Option Ent)} {Gs : List Grp}

theorem dlog_ok (h : DictAt w D d seed same L Gs) : Calls Tryz.prog 40 #[dPtr d] w (copyA w L) := by
  obtain ⟨q, p, sv, Dl, h1, h2, h3⟩ := h
  have HZ := Lib.hid (dzero_ok h1)
  have HC := Lib.hid (copyA_ok h1.log)
  have hb := h1.box
  clear h1 h2 h3
  have hb_0 := cell_of_row _ _ 0 _ _ _ hb; have hb_1 := cell_of_row _ _ 1 _ _ _ hb; have hb_2 := cell_of_row _ _ 2 _ _ _ hb; have hb_3 := cell_of_row _ _ 3 _ _ _ hb; have hb_f := (fun j => frozen_of_row _ _ j _ _ hb); have hb_l := lt_of_block hb; simp at hb_0 hb_1 hb_2 hb_3; have H_hb := Lib.hid hb; clear hb
  go_enter Tryz.func40, Tryz.ntmps40
  go_wp2_with (first
    | (go_at_call 64; refine Calls.mono HZ.out ?_; rintro e w' ⟨rfl, rfl⟩)
    | (go_at_call 91; refine Calls.mono HC.out ?_; rintro e w' ⟨q2, D2, rfl, g1, g2, g3⟩))
  go_ret
  exact ⟨q2, D2, rfl, g1, g2, g3⟩
theorem dall_ok (h : DictAt w D d seed same L Gs) : Calls Tryz.prog 39 #[dPtr d] w (allA w L) := by
  obtain ⟨q, p, sv, Dl, h1, h2, h3⟩ := h
  have HZ := Lib.hid (dzero_ok h1)
  have HC := Lib.hid (allA_ok h1.log)
  have hb := h1.box
  clear h1 h2 h3
  have hb_0 := cell_of_row _ _ 0 _ _ _ hb; have hb_1 := cell_of_row _ _ 1 _ _ _ hb; have hb_2 := cell_of_row _ _ 2 _ _ _ hb; have hb_3 := cell_of_row _ _ 3 _ _ _ hb; have hb_f := (fun j => frozen_of_row _ _ j _ _ hb); have hb_l := lt_of_block hb; simp at hb_0 hb_1 hb_2 hb_3; have H_hb := Lib.hid hb; clear hb
  go_enter Tryz.func39, Tryz.ntmps39
  go_wp2_with (first
    | (go_at_call 64; refine Calls.mono HZ.out ?_; rintro e w' ⟨rfl, rfl⟩)
    | (go_at_call 92; refine Calls.mono HC.out ?_; rintro e w' ⟨M, B, a, c, rfl, rfl, g1, g2, g3, g4⟩))
  go_ret
  exact ⟨M, B, a, c, rfl, rfl, g1, g2, g3, g4⟩
theorem sfull_ok {q : Nat} {Dl : Nat → Prop} (h : LogAt w Dl q L) : Calls Tryz.prog 67 #[.agg #[.pointer (some ⟨q, 0, none⟩)]] w fun e w' => e = .returned (.bool (decide (4194304 ≤ (L.length : Int)))) ∧ Pure w w' := by
  have hp : Pure w (w.alloc (.cells #[.pointer (some ⟨q, 0, none⟩)] 78)) := (Mod.refl _ w).alloc _
  have hb := heap_new (w := w) (o := (.cells #[.pointer (some ⟨q, 0, none⟩)] 78 (0, 0))) rfl
  have HK := Lib.hid (lenA (h.pure hp))
  have HP := Lib.hid hp
  clear h hp
  go_enter Tryz.func67, Tryz.ntmps67
  go_upto_region 1 with fail
  generalize w.alloc (.cells #[.pointer (some ⟨q, 0, none⟩)] 78) = W1 at *
  generalize w.heap.size = b at *
  have hb_0 := cell_of_row _ _ 0 _ _ _ hb; have hb_f := (fun j => frozen_of_row _ _ j _ _ hb); have hb_l := lt_of_block hb; simp at hb_0; have H_hb := Lib.hid hb; clear hb
  go_wp2_with (go_at_call 31; refine Calls.mono HK.out ?_; rintro e w' ⟨rfl, rfl⟩)
  go_ret
  exact ⟨rfl, HP.out⟩

/-! ### Insert -/
def insV (x : Ent) (v : Value) : Value := .agg #[.string x.key, v, .int .u64 x.dl, .int .u64 x.birth]
def dinsPost (w : World) (D : Nat → Prop) (d seed : Nat) (same : Bool) (L : List (Option Ent)) (Gs : List Grp) (x : Ent) (e : Ending) (w' : World) : Prop :=
  e = .returned (.tuple #[.int .u32 L.length, .int .i64 0]) ∧ ∃ D', DictAt w' D' d seed same (L ++ [some x]) (putM (sumL seed same (L ++ [some x])) Gs L.length) ∧ Mod D w w' ∧ Grew D D' w
theorem dins_mem {q p : Nat} {sv : Value} {Dl Dl2 : Nat → Prop} {w2 w3 : World} {L2 : List (Option Ent)} (h : DictMem w2 d q p sv Dl seed same L Gs) (hl : LogAt w3 Dl2 q L2) (hm : Mod Dl w2 w3) : DictMem w3 d q p sv Dl2 seed same L2 Gs :=
  ⟨hm.heap h.nd h.box, hl, h.ix.mod hm (fun k hk e => h.nlp k e hk), h.sd⟩
set_option maxHeartbeats 2000000 in
theorem dins_ok (h : DictAt w D d seed same L Gs) (x : Ent) (hok : x.Ok) (hL : L.length < 4194304) (hf : findK L x.key = none) (a : Option Addr) (n c : Nat) (hx : ReadAt w (.slice a n c) 1 (bytesOf x.val)) :
    Calls Tryz.prog 14 #[dPtr d, .agg #[.string x.key, .slice a n c, .int .u64 x.dl, .int .u64 x.birth]] w (dinsPost w D d seed same L Gs x) := by
  obtain ⟨q, p, sv, Dl, h1, h2, h3⟩ := h
  have HH := Lib.hid h1; have HK := Lib.hid h2; have HD := Lib.hid h3; have HX := Lib.hid hx; have HO := Lib.hid hok
  have hp0 : Pure w (w.alloc (.cells #[.string x.key, .slice a n c, .int .u64 x.dl, .int .u64 x.birth] 42)) := (Mod.refl _ w).alloc _
  have z3 := heap_new (w := w) (o := .cells #[.string x.key, .slice a n c, .int .u64 x.dl, .int .u64 x.birth] 42 (0, 0)) rfl
  have HP := Lib.hid hp0
  have HZ := Lib.hid (dzero_ok (h1.pure hp0))
  have hn : n ≤ 65536 := by have := read_length hx; rw [bytesOf_length] at this; have := hok.v1; omega
  have hb : (x.birth == 0) = false := by have := hok.b0; simp; omega
  have HN := Lib.hid (entry_New_ok x.key a n c x.dl x.birth (bytesOf x.val) _ (hx.frame hp0 (fun _ _ h => h)) hn hok.k0 hok.k1 hb)
  have HFd := Lib.hid (fun (W : World) (hW : Pure w W) => dfind_ok (h1.pure hW) h2 x.key (by have := hok.k1; omega))
  obtain ⟨i1, i2⟩ := h2.insert hf (by omega)
  obtain ⟨y, k1, k2, k3, k4, k5, k6, k7, k8⟩ := i1.put (by rw [h2.used]; have := liveOf_le' L; omega) (s := L.length) (by omega) (fun c => by have := liveS_lt c; omega)
  have HPl := Lib.hid (fun (W : World) (hW : Pure w W) => dplan_ok (h1.pure hW) k1)
  have HFu := Lib.hid (fun (W : World) (hW : Pure w W) => sfull_ok (h1.log.pure hW))
  have HApp := Lib.hid (fun (W : World) (hW : Pure w W) (a2 : Option Addr) (n2 c2 : Nat) (hr : ReadAt W (.slice a2 n2 c2) 1 (bytesOf x.val)) => appendA_ok (h1.log.pure hW) hL x hok a2 n2 c2 hr)
  have HPut := Lib.hid (fun (W : World) (Dl2 : Nat → Prop) (hW : DictMem W d q p sv Dl2 seed same (L ++ [some x]) Gs) => dput_ok hW k1 k2 k3 (s := L.length) (by omega) k6)
  have HI2 := Lib.hid i2
  have e1 : findV L x.key = (0, 9) := by unfold findV; rw [hf]
  unfold dfindPost planPost at *
  rw [e1] at HFd
  dsimp only at HFd
  have hfull : decide ((4194304 : Int) ≤ (L.length : Int)) = false := decide_eq_false (by omega)
  rw [hfull] at HFu
  obtain ⟨y1, y2⟩ := y
  dsimp only at HPl
  unfold appendA at HApp
  clear h1 h2 h3 hx hok hp0 hn hb i1 i2 k1 k2 k3 k4 k5 k6 k7 k8 e1 hf hfull
  go_enter Tryz.func14, Tryz.ntmps14
  go_upto_region 1 with fail
  generalize w.alloc (.cells #[.string x.key, .slice a n c, .int .u64 x.dl, .int .u64 x.birth] 42) = W1 at *
  obtain ⟨b3, hb3⟩ : ∃ b, w.heap.size = b := ⟨_, rfl⟩
  rw [hb3] at z3 ⊢
  have HB3 := Lib.hid hb3
  clear hb3
  have z3_0 := cell_of_row _ _ 0 _ _ _ z3; have z3_1 := cell_of_row _ _ 1 _ _ _ z3; have z3_2 := cell_of_row _ _ 2 _ _ _ z3; have z3_3 := cell_of_row _ _ 3 _ _ _ z3; have z3_f := (fun j => frozen_of_row _ _ j _ _ z3); have z3_l := lt_of_block z3; simp at z3_0 z3_1 z3_2 z3_3; have H_z3 := Lib.hid z3; clear z3
  go_upto_region 4 with (first
    | (go_at_call 64; refine Calls.mono HZ.out ?_; rintro e w' ⟨rfl, rfl⟩)
    | (go_at_call 65; refine Calls.mono HN.out ?_; rintro e w2 ⟨a2, n2, c2, rfl, hr2, hf2, hp2⟩))
  have hpo : Pure w2 (w2.alloc (.cells #[.string x.key, .slice a2 n2 c2, .int .u64 x.dl, .int .u64 x.birth] 42)) := (Mod.refl _ w2).alloc _
  have z6 := heap_new (w := w2) (o := .cells #[.string x.key, .slice a2 n2 c2, .int .u64 x.dl, .int .u64 x.birth] 42 (0, 0)) rfl
  have HR := Lib.hid (owns_mod (bytesAt_of hr2) hpo (fun _ _ h => h))
  have zz3 := (hp2.trans hpo).heap (fun h => h) H_z3.out
  replace HP := Lib.hid ((HP.out.trans hp2).trans hpo)
  have hb6 : b3 < w2.heap.size := Nat.lt_of_lt_of_le z3_l hp2.size
  clear z3_0 z3_1 z3_2 z3_3 z3_f z3_l
  clear H_z3 hr2 hf2 hp2 hpo HN HZ
  generalize w2.alloc (.cells #[.string x.key, .slice a2 n2 c2, .int .u64 x.dl, .int .u64 x.birth] 42) = W3 at *
  generalize w2.heap.size = b6 at *
  have zz3_0 := cell_of_row _ _ 0 _ _ _ zz3; have zz3_1 := cell_of_row _ _ 1 _ _ _ zz3; have zz3_2 := cell_of_row _ _ 2 _ _ _ zz3; have zz3_3 := cell_of_row _ _ 3 _ _ _ zz3; have zz3_f := (fun j => frozen_of_row _ _ j _ _ zz3); have zz3_l := lt_of_block zz3; simp at zz3_0 zz3_1 zz3_2 zz3_3; have H_zz3 := Lib.hid zz3; clear zz3
  have z6_0 := cell_of_row _ _ 0 _ _ _ z6; have z6_1 := cell_of_row _ _ 1 _ _ _ z6; have z6_2 := cell_of_row _ _ 2 _ _ _ z6; have z6_3 := cell_of_row _ _ 3 _ _ _ z6; have z6_f := (fun j => frozen_of_row _ _ j _ _ z6); have z6_l := lt_of_block z6; simp at z6_0 z6_1 z6_2 z6_3; have H_z6 := Lib.hid z6; clear z6
  go_upto_region 9 with (go_at_call 51; refine Calls.mono (HFd.out _ HP.out) ?_; rintro e w4 ⟨rfl, hp4⟩)
  go_upto_region 10 with (go_at_call 66; refine Calls.mono (HPl.out _ (HP.out.trans hp4)) ?_; rintro e w5 ⟨rfl, hp5⟩)
  have hp6 : Pure w5 (w5.alloc (.cells #[.int .i64 y1, .bool y2] 131)) := (Mod.refl _ w5).alloc _
  have hp36 := (hp4.trans hp5).trans hp6
  have zz6 := hp36.heap (fun h => h) H_z6.out
  replace HR := Lib.hid (owns_mod HR.out hp36 (fun _ _ h => h))
  replace HP := Lib.hid (HP.out.trans hp36)
  clear zz3_0 zz3_1 zz3_2 zz3_3 zz3_f zz3_l
  clear z6_0 z6_1 z6_2 z6_3 z6_f z6_l
  clear H_zz3 H_z6 hp4 hp5 hp6 hp36 HFd HPl
  generalize w5.alloc (.cells #[.int .i64 y1, .bool y2] 131) = W6 at *
  obtain ⟨b10, hb10⟩ : ∃ b, w5.heap.size = b := ⟨_, rfl⟩
  rw [hb10]
  clear hb10
  have hb := (HH.out.pure HP.out).box
  have hb_0 := cell_of_row _ _ 0 _ _ _ hb; have hb_1 := cell_of_row _ _ 1 _ _ _ hb; have hb_2 := cell_of_row _ _ 2 _ _ _ hb; have hb_3 := cell_of_row _ _ 3 _ _ _ hb; have hb_f := (fun j => frozen_of_row _ _ j _ _ hb); have hb_l := lt_of_block hb; simp at hb_0 hb_1 hb_2 hb_3; have H_hb := Lib.hid hb; clear hb
  have zz6_0 := cell_of_row _ _ 0 _ _ _ zz6; have zz6_1 := cell_of_row _ _ 1 _ _ _ zz6; have zz6_2 := cell_of_row _ _ 2 _ _ _ zz6; have zz6_3 := cell_of_row _ _ 3 _ _ _ zz6; have zz6_f := (fun j => frozen_of_row _ _ j _ _ zz6); have zz6_l := lt_of_block zz6; simp at zz6_0 zz6_1 zz6_2 zz6_3; have H_zz6 := Lib.hid zz6; clear zz6
  go_upto_region 12 with (go_at_call 67; refine Calls.mono (HFu.out _ HP.out) ?_; rintro e w7 ⟨rfl, hp7⟩)
  have k0 := hp7.cell (fun h => h) hb_0; have k1 := hp7.cell (fun h => h) zz6_0; have k2 := hp7.cell (fun h => h) zz6_1; have k3 := hp7.cell (fun h => h) zz6_2; have k4 := hp7.cell (fun h => h) zz6_3
  replace HR := Lib.hid (BytesAt.read (owns_mod HR.out hp7 (fun _ _ h => h)) (bytesOf_one _))
  replace HP := Lib.hid (HP.out.trans hp7)
  have HA := Lib.hid (fun (W : World) (hW : Pure w7 W) => HApp.out W (HP.out.trans hW) a2 n2 c2 (HR.out.frame hW (fun _ _ h => h)))
  have nD : ∀ k, Dl k → k < w.heap.size := fun k hk => HH.out.log.lt hk
  have hwb : w.heap.size = b3 := HB3.out
  have ND := Lib.hid nD
  clear nD
  clear hb_0 hb_1 hb_2 hb_3 hb_f hb_l
  clear zz6_0 zz6_1 zz6_2 zz6_3 zz6_f zz6_l
  clear H_hb H_zz6 hp7 HApp HFu
  go_region_held3 (fun w' => w'.cell? ⟨d, 0, none⟩ = some (.pointer (some ⟨q, 0, none⟩)) ∧ w'.cell? ⟨b6, 0, none⟩ = some (.string x.key) ∧ w'.cell? ⟨b6, 1, none⟩ = some (.slice a2 n2 c2) ∧ w'.cell? ⟨b6, 2, none⟩ = some (.int .u64 x.dl) ∧ w'.cell? ⟨b6, 3, none⟩ = some (.int .u64 x.birth))
    (first | exact ⟨k0, k1, k2, k3, k4⟩ | exact ⟨hm8.cell HH.out.nd k0, hm8.cell (fun e => by have := ND.out _ e; dsimp only at this; omega) k1, hm8.cell (fun e => by have := ND.out _ e; dsimp only at this; omega) k2, hm8.cell (fun e => by have := ND.out _ e; dsimp only at this; omega) k3, hm8.cell (fun e => by have := ND.out _ e; dsimp only at this; omega) k4⟩)
    (first
      | (go_at_call 25; refine Calls.mono (HA.out _ (by (repeat' (first | (with_reducible exact Mod.refl _ _) | (with_reducible refine Mod.alloc ?_ _) | (with_reducible refine Mod.drew ?_) | (with_reducible refine Mod.drewN ?_ _) | (with_reducible refine Mod.setCell ?_ ?_ _) | (refine Mod.then ?_ (by with_reducible assumption) ?_))) <;> (all_goals (intros; first | (exfalso; assumption) | omega | (simp at *; done) | (simp at *; omega))))) ?_; rintro e w8 ⟨rfl, Dl2, hl8, hm8, hg8⟩))
  have hm8' : Mod Dl w7 w8 := Mod.of_drew hm8
  have HM8 := Lib.hid (dins_mem (HH.out.pure HP.out) hl8 hm8')
  have hP8 : Mod Dl w w8 := (Mod.of_pure HP.out).trans hm8'
  have HM := Lib.hid hP8; have HG8 := Lib.hid hg8; have HL8 := Lib.hid hl8
  clear hm8 hm8' hP8 hg8 hl8 k0 k1 k2 k3 k4
  go_wp2_with (go_at_call 68; refine Calls.mono (HPut.out _ _ HM8.out) ?_; rintro e w9 ⟨p2, sv2, rfl, hm9, hmod9, hsx9⟩)
  go_ret2
  have h78 : w.heap.size ≤ w8.heap.size := HM.out.size
  refine ⟨rfl, dictD d Dl2 p2 sv2, ⟨q, p2, sv2, Dl2, hm9, HI2.out, fun _ => Iff.rfl⟩, ?_, ?_⟩
  · refine HM.out.trans' hmod9 (fun i _ hi => (HD.out i).2 (.inr (.inl hi))) (fun i _ hi => (HD.out i).2 ?_)
    rcases hi with e | e | e
    · exact .inl e
    · exact .inr (.inr (.inl e))
    · exact .inr (.inr (.inr e))
  · have hg9 : ∀ k, Dl2 k → Dl k ∨ w.heap.size ≤ k := fun k hk => by
      rcases HG8.out k hk with e | e
      · exact .inl e
      · exact .inr (by have := HP.out.size; simp at e; omega)
    rintro k (e | e | e | e)
    · exact .inl ((HD.out k).2 (.inl e))
    · rcases hg9 k e with e | e
      · exact .inl ((HD.out k).2 (.inr (.inl e)))
      · exact .inr e
    · rcases hsx9 with ⟨g1, g2⟩ | ⟨g1, g2⟩
      · exact .inl ((HD.out k).2 (.inr (.inr (.inl (e.trans g1)))))
      · exact .inr (by omega)
    · rcases hsx9 with ⟨g1, g2⟩ | ⟨g1, g2⟩
      · exact .inl ((HD.out k).2 (.inr (.inr (.inr (g2 ▸ e)))))
      · exact .inr (by have := g2 _ e; omega)
end
end Go.Proofs.YtpafcocciggfpaaGreat
