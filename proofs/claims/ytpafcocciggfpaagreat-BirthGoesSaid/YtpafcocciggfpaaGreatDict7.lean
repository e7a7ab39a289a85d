/- dict: Sizes, Len, Insert's errors; all of it for a dictionary that was made since (DG). -/
import Derived.Test.YtpafcocciggfpaaGreatDict5
namespace Go.Proofs.YtpafcocciggfpaaGreat
open Go.RowKit Go.Shelf
set_option maxRecDepth 100000
section
variable {w w' : World} {D S : Nat → Prop} {d seed : Nat} {same : Bool} {L : List (Option Ent)} {Gs : List Grp}
theorem dlen_ok (h : DictAt w D d seed same L Gs) : Calls Tryz.prog 22 #[dPtr d] w fun e w' => e = .returned (.int .i64 (liveOf L)) ∧ w = w' := by
  obtain ⟨q, p, sv, Dl, h1, h2, h3⟩ := h
  have HZ := Lib.hid (dzero_ok h1)
  have HC := Lib.hid (liveA h1.log)
  have hb := h1.box
  clear h1 h2 h3
  have hb_0 := cell_of_row _ _ 0 _ _ _ hb; have hb_1 := cell_of_row _ _ 1 _ _ _ hb; have hb_2 := cell_of_row _ _ 2 _ _ _ hb; have hb_3 := cell_of_row _ _ 3 _ _ _ hb; have hb_f := (fun j => frozen_of_row _ _ j _ _ hb); have hb_l := lt_of_block hb; simp at hb_0 hb_1 hb_2 hb_3; have H_hb := Lib.hid hb; clear hb
  go_enter Tryz.func22, Tryz.ntmps22
  go_wp2_with (first
    | (go_at_call 64; refine Calls.mono HZ.out ?_; rintro e w' ⟨rfl, rfl⟩)
    | (go_at_call 85; refine Calls.mono HC.out ?_; rintro e w' ⟨rfl, rfl⟩))
  go_ret
  exact ⟨rfl, rfl⟩
def dsizesPost (w : World) (L : List (Option Ent)) (Gs : List Grp) (e : Ending) (w' : World) : Prop :=
  e = .returned (.tuple #[.int .i64 L.length, .int .i64 Gs.length, .int .i64 (tombN Gs)]) ∧ Pure w w'
set_option maxHeartbeats 1000000 in
theorem dsizes_ok (h : DictAt w D d seed same L Gs) : Calls Tryz.prog 50 #[dPtr d] w (dsizesPost w L Gs) := by
  obtain ⟨q, p, sv, Dl, h1, h2, h3⟩ := h
  have HZ := Lib.hid (dzero_ok h1)
  have HL := Lib.hid (fun (W : World) (hW : Pure w W) => lenA (h1.log.pure hW))
  have HX := Lib.hid (fun (W : World) (hW : Pure w W) => IGroups_ok (h1.ix.pure hW))
  have HT := Lib.hid (fun (W : World) (hW : Pure w W) => ITombs_ok (h1.ix.pure hW))
  have hb := h1.box
  clear h1 h2 h3
  have hb_0 := cell_of_row _ _ 0 _ _ _ hb; have hb_1 := cell_of_row _ _ 1 _ _ _ hb; have hb_2 := cell_of_row _ _ 2 _ _ _ hb; have hb_3 := cell_of_row _ _ 3 _ _ _ hb; have hb_f := (fun j => frozen_of_row _ _ j _ _ hb); have hb_l := lt_of_block hb; simp at hb_0 hb_1 hb_2 hb_3; have H_hb := Lib.hid hb; clear hb
  go_enter Tryz.func50, Tryz.ntmps50
  go_upto_region 3 with (go_at_call 64; refine Calls.mono HZ.out ?_; rintro e w' ⟨rfl, rfl⟩)
  go_region_held3 (fun w' => w'.cell? ⟨d, 0, none⟩ = some (.pointer (some ⟨q, 0, none⟩)) ∧ w'.cell? ⟨d, 3, none⟩ = some (.pointer (some ⟨p, 0, none⟩)))
    (first | exact ⟨hb_0, hb_3⟩)
    (first
      | (go_at_call 31; (with_reducible refine Calls.mono (HL.out _ (by first | exact Mod.refl _ _ | exact Mod.drew (Mod.refl _ _))) ?_); rintro e w1 ⟨rfl, rfl⟩)
      | (go_at_call 76; (with_reducible refine Calls.mono (HX.out _ (by first | exact Mod.refl _ _ | exact Mod.drew (Mod.refl _ _))) ?_); rintro e w1 ⟨rfl, rfl⟩)
      | (go_at_call 78; (with_reducible refine Calls.mono (HT.out _ (by first | exact Mod.refl _ _ | exact Mod.drew (Mod.refl _ _))) ?_); rintro e w1 ⟨rfl, rfl⟩))
  all_goals
    try go_wp2
    refine bodyPost_ret (v := .tuple #[.int .i64 L.length, .int .i64 Gs.length, .int .i64 (tombN Gs)]) (by simp [results, Tryz.results50, go_sem]) rfl ⟨rfl, ?_⟩
    first | exact Mod.refl _ _ | exact Mod.drew (Mod.refl _ _)

/-! ### Insert's errors -/
def dins0 (w : World) (er : Int) (e : Ending) (w' : World) : Prop := e = .returned (.tuple #[.int .u32 0, .int .i64 er]) ∧ Pure w w'
set_option maxHeartbeats 1000000 in
theorem dins_busy (h : DictAt w D d seed same L Gs) (x : Ent) (hok : x.Ok) {t : Nat} (hf : findK L x.key = some t) (a : Option Addr) (n c : Nat) (hx : ReadAt w (.slice a n c) 1 (bytesOf x.val)) :
    Calls Tryz.prog 14 #[dPtr d, .agg #[.string x.key, .slice a n c, .int .u64 x.dl, .int .u64 x.birth]] w (dins0 w 11) := by
  obtain ⟨q, p, sv, Dl, h1, h2, h3⟩ := h
  have hp0 : Pure w (w.alloc (.cells #[.string x.key, .slice a n c, .int .u64 x.dl, .int .u64 x.birth] 42)) := (Mod.refl _ w).alloc _
  have z3 := heap_new (w := w) (o := .cells #[.string x.key, .slice a n c, .int .u64 x.dl, .int .u64 x.birth] 42 (0, 0)) rfl
  have HP := Lib.hid hp0
  have HZ := Lib.hid (dzero_ok (h1.pure hp0))
  have hn : n ≤ 65536 := by have := read_length hx; rw [bytesOf_length] at this; have := hok.v1; omega
  have hb : (x.birth == 0) = false := by have := hok.b0; simp; omega
  have HN := Lib.hid (entry_New_ok x.key a n c x.dl x.birth (bytesOf x.val) _ (hx.frame hp0 (fun _ _ h => h)) hn hok.k0 hok.k1 hb)
  have HFd := Lib.hid (fun (W : World) (hW : Pure w W) => dfind_ok (h1.pure hW) h2 x.key (by have := hok.k1; omega))
  have e1 : findV L x.key = (t, 0) := by unfold findV; rw [hf]
  unfold dfindPost at HFd
  rw [e1] at HFd
  dsimp only at HFd
  clear h1 h2 h3 hx hok hp0 hn hb e1 hf
  go_enter Tryz.func14, Tryz.ntmps14
  go_upto_region 1 with fail
  generalize w.alloc (.cells #[.string x.key, .slice a n c, .int .u64 x.dl, .int .u64 x.birth] 42) = W1 at *
  generalize w.heap.size = b3 at *
  have z3_0 := cell_of_row _ _ 0 _ _ _ z3; have z3_1 := cell_of_row _ _ 1 _ _ _ z3; have z3_2 := cell_of_row _ _ 2 _ _ _ z3; have z3_3 := cell_of_row _ _ 3 _ _ _ z3; have z3_f := (fun j => frozen_of_row _ _ j _ _ z3); have z3_l := lt_of_block z3; simp at z3_0 z3_1 z3_2 z3_3; have H_z3 := Lib.hid z3; clear z3
  go_upto_region 4 with (first
    | (go_at_call 64; refine Calls.mono HZ.out ?_; rintro e w' ⟨rfl, rfl⟩)
    | (go_at_call 65; refine Calls.mono HN.out ?_; rintro e w2 ⟨a2, n2, c2, rfl, hr2, hf2, hp2⟩))
  have hpo : Pure w2 (w2.alloc (.cells #[.string x.key, .slice a2 n2 c2, .int .u64 x.dl, .int .u64 x.birth] 42)) := (Mod.refl _ w2).alloc _
  have zz3 := (hp2.trans hpo).heap (fun h => h) H_z3.out
  replace HP := Lib.hid ((HP.out.trans hp2).trans hpo)
  clear z3_0 z3_1 z3_2 z3_3 z3_f z3_l
  clear H_z3 hr2 hf2 hp2 hpo HN HZ
  generalize w2.alloc (.cells #[.string x.key, .slice a2 n2 c2, .int .u64 x.dl, .int .u64 x.birth] 42) = W3 at *
  generalize w2.heap.size = b6 at *
  have zz3_0 := cell_of_row _ _ 0 _ _ _ zz3; have zz3_1 := cell_of_row _ _ 1 _ _ _ zz3; have zz3_2 := cell_of_row _ _ 2 _ _ _ zz3; have zz3_3 := cell_of_row _ _ 3 _ _ _ zz3; have zz3_f := (fun j => frozen_of_row _ _ j _ _ zz3); have zz3_l := lt_of_block zz3; simp at zz3_0 zz3_1 zz3_2 zz3_3; have H_zz3 := Lib.hid zz3; clear zz3
  go_wp2_with (go_at_call 51; refine Calls.mono (HFd.out _ HP.out) ?_; rintro e w4 ⟨rfl, hp4⟩)
  go_ret2
  exact ⟨rfl, HP.out.trans hp4⟩
set_option maxHeartbeats 1000000 in
theorem dins_err (h : DictAt w D d seed same L Gs) (k : ByteArray) (a : Option Addr) (n c : Nat) (dl b : Int) (hk : k.size ≤ 140737488355328) (hn : n ≤ 140737488355328) (er : Int) (E : errOf k.size n b = er) (he0 : (er == 0) = false) :
    Calls Tryz.prog 14 #[dPtr d, .agg #[.string k, .slice a n c, .int .u64 dl, .int .u64 b]] w (dins0 w er) := by
  obtain ⟨q, p, sv, Dl, h1, h2, h3⟩ := h
  have hp0 : Pure w (w.alloc (.cells #[.string k, .slice a n c, .int .u64 dl, .int .u64 b] 42)) := (Mod.refl _ w).alloc _
  have z3 := heap_new (w := w) (o := .cells #[.string k, .slice a n c, .int .u64 dl, .int .u64 b] 42 (0, 0)) rfl
  have HP := Lib.hid hp0
  have HZ := Lib.hid (dzero_ok (h1.pure hp0))
  have HN := Lib.hid (fun W => entry_New_err k a n c dl b W hk hn er E he0)
  clear h1 h2 h3 hp0 E hk hn
  have hne : er ≠ 0 := by simpa using he0
  go_enter Tryz.func14, Tryz.ntmps14
  go_upto_region 1 with fail
  generalize w.alloc (.cells #[.string k, .slice a n c, .int .u64 dl, .int .u64 b] 42) = W1 at *
  generalize w.heap.size = b3 at *
  have z3_0 := cell_of_row _ _ 0 _ _ _ z3; have z3_1 := cell_of_row _ _ 1 _ _ _ z3; have z3_2 := cell_of_row _ _ 2 _ _ _ z3; have z3_3 := cell_of_row _ _ 3 _ _ _ z3; have z3_f := (fun j => frozen_of_row _ _ j _ _ z3); have z3_l := lt_of_block z3; simp at z3_0 z3_1 z3_2 z3_3; have H_z3 := Lib.hid z3; clear z3
  go_upto_region 4 with (first
    | (go_at_call 64; refine Calls.mono HZ.out ?_; rintro e w' ⟨rfl, rfl⟩)
    | (go_at_call 65; refine Calls.mono (HN.out _) ?_; rintro e w2 ⟨rfl, hp2⟩))
  have hpo : Pure w2 (w2.alloc (.cells #[.string ⟨#[]⟩, .slice none 0 0, .int .u64 0, .int .u64 0] 42)) := (Mod.refl _ w2).alloc _
  replace HP := Lib.hid ((HP.out.trans hp2).trans hpo)
  clear hp2 hpo HN HZ
  go_wp2
  go_ret2
  exact ⟨rfl, HP.out⟩

/-! ### a dictionary that was made since w -/
def DG (w W : World) (d seed : Nat) (same : Bool) (L : List (Option Ent)) (Gs : List Grp) : Prop := ∃ D, DictAt W D d seed same L Gs ∧ Pure w W ∧ ∀ k, D k → w.heap.size ≤ k
end
section
variable {w W W' : World} {d seed : Nat} {same : Bool} {L : List (Option Ent)} {Gs : List Grp}
theorem DG.pu (h : DG w W d seed same L Gs) : Pure w W := by obtain ⟨D, h1, h2, h3⟩ := h; exact h2
theorem DG.pure (h : DG w W d seed same L Gs) (hp : Pure W W') : DG w W' d seed same L Gs := by
  obtain ⟨D, h1, h2, h3⟩ := h
  exact ⟨D, h1.pure hp, h2.trans hp, h3⟩
theorem newG' (seed : Nat) (same : Bool) (hs : seed < 18446744073709551616) (h : Pure w W) : Calls Tryz.prog 11 #[.agg #[.int .u64 seed, .bool same]] W fun e w' => ∃ d, e = .returned (dPtr d) ∧ DG w w' d seed same [] (newG 1) ∧ Pure W w' := by
  refine Calls.mono (dnew_ok seed same hs W) ?_
  rintro e w' ⟨d, D, rfl, h1, h2, h3⟩
  exact ⟨d, rfl, ⟨D, h1, h.trans h2, fun k hk => Nat.le_trans h.size (h3 k hk)⟩, h2⟩
theorem DG.step {D D' : Nat → Prop} {L2 : List (Option Ent)} {G2 : List Grp} (h2 : Pure w W) (h3 : ∀ k, D k → w.heap.size ≤ k) (g1 : DictAt W' D' d seed same L2 G2) (g2 : Mod D W W') (g3 : Grew D D' W) : DG w W' d seed same L2 G2 :=
  ⟨D', g1, h2.then g2 (fun i hi e => by have := h3 i e; omega), fun k hk => by
    rcases g3 k hk with e | e
    · exact h3 k e
    · exact Nat.le_trans h2.size e⟩
end
end Go.Proofs.YtpafcocciggfpaaGreat
