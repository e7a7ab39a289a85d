/- Lemmas and contracts of functions, strung together out of 4 texts. No condition. -/
import Derived.Test.YtapplindfijngaaGreatJPfCompactDicts25
import Derived.Test.YtapplindfijngaaGreatJPfCompactDicts24
import Derived.Test.YtapplindfijngaaGreatJPfCompactDicts1
import Derived.Test.YtapplindfijngaaGreatJPfCompactDicts21
import Derived.Test.YtapplindfijngaaGreatJPfCompactDicts19
/- dict: Sizes, Len, Insert's errors; all of it for a dictionary that was made since (DG). -/
namespace Go.Proofs.YtapplindfijngaaGreat
open Go.RowKit Go.Shelf
set_option maxRecDepth 100000
section
variable {w w' : World} {D S : Nat → Prop} {d seed : Nat} {same : Bool} {L : List (Option Ent)} {Gs : List Grp}
theorem dlen_ok (h : DictAt w D d seed same L Gs) : Calls Tryz.prog 19 #[dPtr d] w fun e w' => e = .returned (.int .i64 (liveOf L)) ∧ w = w' := by
  obtain ⟨q, p, sv, Dl, h1, h2, h3⟩ := h
  have HZ := Lib.hid (dzero_ok h1)
  have HC := Lib.hid (liveA h1.log)
  have hb := h1.box
  clear h1 h2 h3
  have hb_0 := cell_of_row _ _ 0 _ _ _ hb; have hb_1 := cell_of_row _ _ 1 _ _ _ hb; have hb_2 := cell_of_row _ _ 2 _ _ _ hb; have hb_3 := cell_of_row _ _ 3 _ _ _ hb; have hb_f := (fun j => frozen_of_row _ _ j _ _ hb); have hb_l := lt_of_block hb; simp at hb_0 hb_1 hb_2 hb_3; have H_hb := Lib.hid hb; clear hb
  go_enter Tryz.func19, Tryz.ntmps19
  go_wp2_with (first
    | (go_at_call 48; refine Calls.mono HZ.out ?_; rintro e w' ⟨rfl, rfl⟩)
    | (go_at_call 69; refine Calls.mono HC.out ?_; rintro e w' ⟨rfl, rfl⟩))
  go_ret
  exact ⟨rfl, rfl⟩
def dsizesPost (w : World) (L : List (Option Ent)) (Gs : List Grp) (e : Ending) (w' : World) : Prop :=
  e = .returned (.tuple #[.int .i64 L.length, .int .i64 Gs.length, .int .i64 (tombN Gs)]) ∧ Pure w w'
set_option maxHeartbeats 1000000 in
theorem dsizes_ok (h : DictAt w D d seed same L Gs) : Calls Tryz.prog 41 #[dPtr d] w (dsizesPost w L Gs) := by
  obtain ⟨q, p, sv, Dl, h1, h2, h3⟩ := h
  have HZ := Lib.hid (dzero_ok h1)
  have HL := Lib.hid (fun (W : World) (hW : Pure w W) => lenA (h1.log.pure hW))
  have HX := Lib.hid (fun (W : World) (hW : Pure w W) => IGroups_ok (h1.ix.pure hW))
  have HT := Lib.hid (fun (W : World) (hW : Pure w W) => ITombs_ok (h1.ix.pure hW))
  have hb := h1.box
  clear h1 h2 h3
  have hb_0 := cell_of_row _ _ 0 _ _ _ hb; have hb_1 := cell_of_row _ _ 1 _ _ _ hb; have hb_2 := cell_of_row _ _ 2 _ _ _ hb; have hb_3 := cell_of_row _ _ 3 _ _ _ hb; have hb_f := (fun j => frozen_of_row _ _ j _ _ hb); have hb_l := lt_of_block hb; simp at hb_0 hb_1 hb_2 hb_3; have H_hb := Lib.hid hb; clear hb
  go_enter Tryz.func41, Tryz.ntmps41
  go_upto_region 3 with (go_at_call 48; refine Calls.mono HZ.out ?_; rintro e w' ⟨rfl, rfl⟩)
  go_region_held3 (fun w' => w'.cell? ⟨d, 0, none⟩ = some (.pointer (some ⟨q, 0, none⟩)) ∧ w'.cell? ⟨d, 3, none⟩ = some (.pointer (some ⟨p, 0, none⟩)))
    (first | exact ⟨hb_0, hb_3⟩)
    (first
      | (go_at_call 28; (with_reducible refine Calls.mono (HL.out _ (by first | exact Mod.refl _ _ | exact Mod.drew (Mod.refl _ _))) ?_); rintro e w1 ⟨rfl, rfl⟩)
      | (go_at_call 60; (with_reducible refine Calls.mono (HX.out _ (by first | exact Mod.refl _ _ | exact Mod.drew (Mod.refl _ _))) ?_); rintro e w1 ⟨rfl, rfl⟩)
      | (go_at_call 62; (with_reducible refine Calls.mono (HT.out _ (by first | exact Mod.refl _ _ | exact Mod.drew (Mod.refl _ _))) ?_); rintro e w1 ⟨rfl, rfl⟩))
  all_goals
    try go_wp2
    refine bodyPost_ret (v := .tuple #[.int .i64 L.length, .int .i64 Gs.length, .int .i64 (tombN Gs)]) (by simp [results, Tryz.results41, go_sem]) rfl ⟨rfl, ?_⟩
    first | exact Mod.refl _ _ | exact Mod.drew (Mod.refl _ _)

/-! ### Insert's errors -/
def dins0 (w : World) (er : Int) (e : Ending) (w' : World) : Prop := e = .returned (.tuple #[.int .u32 0, .int .i64 er]) ∧ Pure w w'
set_option maxHeartbeats 1000000 in
theorem dins_busy (h : DictAt w D d seed same L Gs) (x : Ent) (hok : x.Ok) {t : Nat} (hf : findK L x.key = some t) (a : Option Addr) (n c : Nat) (hx : ReadAt w (.slice a n c) 1 (bytesOf x.val)) :
    Calls Tryz.prog 11 #[dPtr d, .agg #[.string x.key, .slice a n c, .int .u64 x.dl, .int .u64 x.birth]] w (dins0 w 11) := by
  obtain ⟨q, p, sv, Dl, h1, h2, h3⟩ := h
  have hp0 : Pure w (w.alloc (.cells #[.string x.key, .slice a n c, .int .u64 x.dl, .int .u64 x.birth] 42)) := (Mod.refl _ w).alloc _
  have z3 := heap_new (w := w) (o := .cells #[.string x.key, .slice a n c, .int .u64 x.dl, .int .u64 x.birth] 42 (0, 0)) rfl
  have HP := Lib.hid hp0
  have HZ := Lib.hid (dzero_ok (h1.pure hp0))
  have hn : n ≤ 65536 := by have := read_length hx; rw [bytesOf_length] at this; have := hok.v1; omega
  have hb : (x.birth == 0) = false := by have := hok.b0; simp; omega
  have HN := Lib.hid (entry_New_ok x.key a n c x.dl x.birth (bytesOf x.val) _ (hx.frame hp0 (fun _ _ h => h)) hn hok.k0 hok.k1 hb)
  have HFd := Lib.hid (fun (W : World) (hW : Pure w W) => dfind_ok (h1.pure hW) h2 x.key (by have := hok.k1; omega))
  have e1 : findV L x.key = (t, 0) := by unfold findV; rw [hf]
  unfold dfindPost at HFd
  rw [e1] at HFd
  dsimp only at HFd
  clear h1 h2 h3 hx hok hp0 hn hb e1 hf
  go_enter Tryz.func11, Tryz.ntmps11
  go_upto_region 1 with fail
  generalize w.alloc (.cells #[.string x.key, .slice a n c, .int .u64 x.dl, .int .u64 x.birth] 42) = W1 at *
  generalize w.heap.size = b3 at *
  have z3_0 := cell_of_row _ _ 0 _ _ _ z3; have z3_1 := cell_of_row _ _ 1 _ _ _ z3; have z3_2 := cell_of_row _ _ 2 _ _ _ z3; have z3_3 := cell_of_row _ _ 3 _ _ _ z3; have z3_f := (fun j => frozen_of_row _ _ j _ _ z3); have z3_l := lt_of_block z3; simp at z3_0 z3_1 z3_2 z3_3; have H_z3 := Lib.hid z3; clear z3
  go_upto_region 4 with (first
    | (go_at_call 48; refine Calls.mono HZ.out ?_; rintro e w' ⟨rfl, rfl⟩)
    | (go_at_call 49; refine Calls.mono HN.out ?_; rintro e w2 ⟨a2, n2, c2, rfl, hr2, hf2, hp2⟩))
  have hpo : Pure w2 (w2.alloc (.cells #[.string x.key, .slice a2 n2 c2, .int .u64 x.dl, .int .u64 x.birth] 42)) := (Mod.refl _ w2).alloc _
  have zz3 := (hp2.trans hpo).heap (fun h => h) H_z3.out
  replace HP := Lib.hid ((HP.out.trans hp2).trans hpo)
  clear z3_0 z3_1 z3_2 z3_3 z3_f z3_l
  clear H_z3 hr2 hf2 hp2 hpo HN HZ
  generalize w2.alloc (.cells #[.string x.key, .slice a2 n2 c2, .int .u64 x.dl, .int .u64 x.birth] 42) = W3 at *
  generalize w2.heap.size = b6 at *
  have zz3_0 := cell_of_row _ _ 0 _ _ _ zz3; have zz3_1 := cell_of_row _ _ 1 _ _ _ zz3; have zz3_2 := cell_of_row _ _ 2 _ _ _ zz3; have zz3_3 := cell_of_row _ _ 3 _ _ _ zz3; have zz3_f := (fun j => frozen_of_row _ _ j _ _ zz3); have zz3_l := lt_of_block zz3; simp at zz3_0 zz3_1 zz3_2 zz3_3; have H_zz3 := Lib.hid zz3; clear zz3
  go_wp2_with (go_at_call 42; refine Calls.mono (HFd.out _ HP.out) ?_; rintro e w4 ⟨rfl, hp4⟩)
  go_ret2
  exact ⟨rfl, HP.out.trans hp4⟩
set_option maxHeartbeats 1000000 in
theorem dins_err (h : DictAt w D d seed same L Gs) (k : ByteArray) (a : Option Addr) (n c : Nat) (dl b : Int) (hk : k.size ≤ 140737488355328) (hn : n ≤ 140737488355328) (er : Int) (E : errOf k.size n b = er) (he0 : (er == 0) = false) :
    Calls Tryz.prog 11 #[dPtr d, .agg #[.string k, .slice a n c, .int .u64 dl, .int .u64 b]] w (dins0 w er) := by
  obtain ⟨q, p, sv, Dl, h1, h2, h3⟩ := h
  have hp0 : Pure w (w.alloc (.cells #[.string k, .slice a n c, .int .u64 dl, .int .u64 b] 42)) := (Mod.refl _ w).alloc _
  have z3 := heap_new (w := w) (o := .cells #[.string k, .slice a n c, .int .u64 dl, .int .u64 b] 42 (0, 0)) rfl
  have HP := Lib.hid hp0
  have HZ := Lib.hid (dzero_ok (h1.pure hp0))
  have HN := Lib.hid (fun W => entry_New_err k a n c dl b W hk hn er E he0)
  clear h1 h2 h3 hp0 E hk hn
  have hne : er ≠ 0 := by simpa using he0
  go_enter Tryz.func11, Tryz.ntmps11
  go_upto_region 1 with fail
  generalize w.alloc (.cells #[.string k, .slice a n c, .int .u64 dl, .int .u64 b] 42) = W1 at *
  generalize w.heap.size = b3 at *
  have z3_0 := cell_of_row _ _ 0 _ _ _ z3; have z3_1 := cell_of_row _ _ 1 _ _ _ z3; have z3_2 := cell_of_row _ _ 2 _ _ _ z3; have z3_3 := cell_of_row _ _ 3 _ _ _ z3; have z3_f := (fun j => frozen_of_row _ _ j _ _ z3); have z3_l := lt_of_block z3; simp at z3_0 z3_1 z3_2 z3_3; have H_z3 := Lib.hid z3; clear z3
  go_upto_region 4 with (first
    | (go_at_call 48; refine Calls.mono HZ.out ?_; rintro e w' ⟨rfl, rfl⟩)
    | (go_at_call 49; refine Calls.mono (HN.out _) ?_; rintro e w2 ⟨rfl, hp2⟩))
  have hpo : Pure w2 (w2.alloc (.cells #[.string ⟨#[]⟩, .slice none 0 0, .int .u64 0, .int .u64 0] 42)) := (Mod.refl _ w2).alloc _
  replace HP := Lib.hid ((HP.out.trans hp2).trans hpo)
  clear hp2 hpo HN HZ
  go_wp2
  go_ret2
  exact ⟨rfl, HP.out⟩

/-! ### a dictionary that was made since w -/
def DG (w W : World) (d seed : Nat) (same : Bool) (L : List (Option Ent)) (Gs : List Grp) : Prop := ∃ D, DictAt W D d seed same L Gs ∧ Pure w W ∧ ∀ k, D k → w.heap.size ≤ k
end
section
variable {w W W' : World} {d seed : Nat} {same : Bool} {L : List (Option Ent)} {Gs : List Grp}
theorem DG.pu (h : DG w W d seed same L Gs) : Pure w W := by obtain ⟨D, h1, h2, h3⟩ := h; exact h2
theorem DG.pure (h : DG w W d seed same L Gs) (hp : Pure W W') : DG w W' d seed same L Gs := by
  obtain ⟨D, h1, h2, h3⟩ := h
  exact ⟨D, h1.pure hp, h2.trans hp, h3⟩
theorem newG' (seed : Nat) (same : Bool) (hs : seed < 18446744073709551616) (h : Pure w W) : Calls Tryz.prog 8 #[.agg #[.int .u64 seed, .bool same]] W fun e w' => ∃ d, e = .returned (dPtr d) ∧ DG w w' d seed same [] (newG 1) ∧ Pure W w' := by
  refine Calls.mono (dnew_ok seed same hs W) ?_
  rintro e w' ⟨d, D, rfl, h1, h2, h3⟩
  exact ⟨d, rfl, ⟨D, h1, h.trans h2, fun k hk => Nat.le_trans h.size (h3 k hk)⟩, h2⟩
theorem DG.step {D D' : Nat → Prop} {L2 : List (Option Ent)} {G2 : List Grp} (h2 : Pure w W) (h3 : ∀ k, D k → w.heap.size ≤ k) (g1 : DictAt W' D' d seed same L2 G2) (g2 : Mod D W W') (g3 : Grew D D' W) : DG w W' d seed same L2 G2 :=
  ⟨D', g1, h2.then g2 (fun i hi e => by have := h3 i e; omega), fun k hk => by
    rcases g3 k hk with e | e
    · exact h3 k e
    · exact Nat.le_trans h2.size e⟩
end
end Go.Proofs.YtapplindfijngaaGreat

/- law10: inserts, finds, sizes; known. -/
namespace Go.Proofs.YtapplindfijngaaGreat
open Go.RowKit Go.Shelf
set_option maxRecDepth 100000
attribute [local go_sem] Oper.semAt_some
theorem LogAt.celled {w : World} {D : Nat → Prop} {p : Nat} {L : List (Option Ent)} (h : LogAt w D p L) {k : Nat} (hk : D k) : ∃ cs T fz, w.heap[k]? = some (.cells cs T fz) := by
  obtain ⟨sv, M, rfl, h⟩ := h
  rcases (h.dd k).1 hk with rfl | e
  · exact ⟨_, _, _, h.box⟩
  · obtain ⟨c, e2⟩ := owns_type h.row e; exact ⟨_, _, _, e2⟩
theorem DictAt.celled {w : World} {D : Nat → Prop} {d seed : Nat} {same : Bool} {L : List (Option Ent)} {Gs : List Grp} (h : DictAt w D d seed same L Gs) {k : Nat} (hk : D k) : ∃ cs T fz, w.heap[k]? = some (.cells cs T fz) := by
  obtain ⟨q, p, sv, Dl, h1, h2, h3⟩ := h
  rcases (h3 k).1 hk with rfl | e | rfl | e
  · exact ⟨_, _, _, h1.box⟩
  · exact h1.log.celled e
  · exact ⟨_, _, _, h1.ix.box⟩
  · obtain ⟨c, e2⟩ := owns_type h1.ix.row e; exact ⟨_, _, _, e2⟩
/-- Blocks that are no dictionary's keep. -/
def OKeep (W W' : World) : Prop := ∀ (k : Nat) (o : Obj), W.heap[k]? = some o → (∀ (cs : Array Value) (T : TypeId) (fz : Nat × Nat), o = .cells cs T fz → T ≠ 107 ∧ T ≠ 131 ∧ T ≠ 42 ∧ T ≠ 164 ∧ T ≠ 168) → W'.heap[k]? = some o
theorem OKeep.of {W W' : World} {D : Nat → Prop} {d seed : Nat} {same : Bool} {L : List (Option Ent)} {Gs : List Grp} (h : DictAt W D d seed same L Gs) (hm : Mod D W W') : OKeep W W' := fun k o hk ht => by
  refine hm.heap (fun e => ?_) hk
  obtain ⟨cs, T, fz, hc⟩ := h.celled e
  rw [hk] at hc
  have := ht cs T fz (Option.some.inj hc)
  rcases h.types e (hk.trans hc) with e | e | e | e | e
  · exact this.1 e
  · exact this.2.1 e
  · exact this.2.2.1 e
  · exact this.2.2.2.1 e
  · exact this.2.2.2.2 e
section
variable {w W W' : World} {d seed : Nat} {same : Bool} {L : List (Option Ent)} {Gs : List Grp}
theorem inserts_ok (h : DG w W d seed same L Gs) (key : ByteArray) (hok : (Ent.mk key [] 0 1).Ok) (hL : L.length < 4194304) (hf : findK L key = none) (want : Int) (hw : (L.length : Int) = want) :
    Calls Tryz.prog 43 #[dPtr d, .string key, .int .u32 want] W fun e w' => e = .returned (.bool true) ∧ DG w w' d seed same (L ++ [some ⟨key, [], 0, 1⟩]) (putM (sumL seed same (L ++ [some ⟨key, [], 0, 1⟩])) Gs L.length) ∧ OKeep W w' := by
  subst hw
  obtain ⟨D, h1, h2, h3⟩ := h
  have HI := Lib.hid (dins_ok h1 ⟨key, [], 0, 1⟩ hok hL hf none 0 0 (ReadAt.nil _ _))
  have HP := Lib.hid h2; have HD := Lib.hid h3; have H1 := Lib.hid h1
  dsimp only at HI
  clear h1 h2 h3 hok hL hf
  go_enter Tryz.func43, Tryz.ntmps43
  go_wp2_with (go_at_call 11; refine Calls.mono HI.out ?_; rintro e w1 ⟨rfl, D', hd, hm, hg⟩)
  go_ret
  exact ⟨rfl, DG.step HP.out HD.out hd hm hg, OKeep.of H1.out hm⟩
theorem finds10_ok (h : DG w W d seed same L Gs) (key : ByteArray) (hkey : key.size ≤ 140737488355328) (want no : Int) (h0 : 0 ≤ want ∧ 0 ≤ no) (hv : findV L key = (want.toNat, no.toNat)) :
    Calls Tryz.prog 44 #[dPtr d, .string key, .int .u32 want, .int .i64 no] W fun e w' => e = .returned (.bool true) ∧ Pure W w' := by
  obtain ⟨D, h1, h2, h3⟩ := h
  obtain ⟨want, rfl⟩ := Int.eq_ofNat_of_zero_le h0.1
  obtain ⟨no, rfl⟩ := Int.eq_ofNat_of_zero_le h0.2
  have HI := Lib.hid (Find_any h1 key hkey)
  unfold dfindPost at HI
  rw [hv] at HI
  simp only [Int.toNat_natCast] at HI
  clear h1 h2 h3 hv h0
  go_enter Tryz.func44, Tryz.ntmps44
  go_wp2_with (go_at_call 42; refine Calls.mono HI.out ?_; rintro e w1 ⟨rfl, hp⟩)
  go_ret
  exact ⟨by simp, hp⟩
theorem sizes10_ok (h : DG w W d seed same L Gs) (a b c : Int) (ha : (L.length : Int) = a) (hb : (Gs.length : Int) = b) (hc : (tombN Gs : Int) = c) :
    Calls Tryz.prog 13 #[dPtr d, .int .i64 a, .int .i64 b, .int .i64 c] W fun e w' => e = .returned (.bool true) ∧ Pure W w' := by
  subst ha hb hc
  obtain ⟨D, h1, h2, h3⟩ := h
  have HI := Lib.hid (dsizes_ok h1)
  clear h1 h2 h3
  go_enter Tryz.func13, Tryz.ntmps13
  go_wp2_with (go_at_call 41; refine Calls.mono HI.out ?_; rintro e w1 ⟨rfl, hp⟩)
  go_ret
  exact ⟨by simp, hp⟩
theorem len10_ok (h : DG w W d seed same L Gs) (n : Int) (hn : (liveOf L : Int) = n) : Calls Tryz.prog 19 #[dPtr d] W fun e w' => e = .returned (.int .i64 n) ∧ W = w' := by
  subst hn
  obtain ⟨D, h1, h2, h3⟩ := h
  exact dlen_ok h1
end
end Go.Proofs.YtapplindfijngaaGreat

/- law10.known answers true. -/
namespace Go.Proofs.YtapplindfijngaaGreat
open Go.RowKit Go.Shelf
set_option maxRecDepth 100000
attribute [local go_sem] Oper.semAt_some

@[go_sem] theorem eql_seq3 (w : World) (fn : Fn) (fi ca : Array Value) : (binOp .eql 99 (.func fn fi ca) .nilFunc).run Tryz.prog w = .ok (.bool false) w := by
  simp only [binOp]
  simp [Op.equal, Op.maxDepth, run_equal_func w 9999 _ fn fi ca Tryz.underlying99]
theorem hnew10 (seed : Int) (same : Bool) (w : World) : Calls Tryz.prog 9 #[.int .u64 seed, .bool same] w fun e w' => e = .returned (.agg #[.int .u64 seed, .bool same]) ∧ Pure w w' := by
  go_enter Tryz.func9, Tryz.ntmps9
  go_wp2
  refine bodyPost_ret (v := .agg #[.int .u64 seed, .bool same]) (by simp [results, Tryz.results9, go_sem]) rfl ⟨rfl, ?_⟩
  (repeat' (first | (with_reducible exact Mod.refl _ _) | (with_reducible refine Mod.alloc ?_ _) | (with_reducible refine Mod.drew ?_) | (with_reducible refine Mod.drewN ?_ _) | (with_reducible refine Mod.setCell ?_ ?_ _) | (refine Mod.then ?_ (by with_reducible assumption) ?_)))
  (all_goals (intros; first | (exfalso; assumption) | omega | (simp at *; done) | (simp at *; omega)))
def eK (k : UInt8) : Option Ent := some ⟨⟨#[k]⟩, [], 0, 1⟩
theorem okK (k : UInt8) : (Ent.mk ⟨#[k]⟩ [] 0 1).Ok := ⟨by show 0 < 1; omega, by show 1 ≤ 250; omega, by show 0 ≤ 65536; omega, by show (0 : Int) < 1; omega⟩
/-- The index behind the examples, and behind the entries c .. -/
def H10 (L : List (Option Ent)) : Nat → Nat := sumL 0 true L
def gk1 : List Grp := putM (H10 [eK 97]) (newG 1) 0
def gk2 : List Grp := putM (H10 [eK 97, eK 98]) gk1 1
def gk3 : List Grp := remM (H10 [eK 97, eK 98]) (H10 [none, eK 98]) gk2 0
def gk4 : List Grp := putM (H10 [none, eK 98, eK 97]) gk3 2
def kb : Nat → UInt8
  | 0 => 99
  | 1 => 100
  | 2 => 101
  | 3 => 102
  | 4 => 103
  | _ => 104
def LK : Nat → List (Option Ent)
  | 0 => [none, eK 98, eK 97]
  | i + 1 => LK i ++ [eK (kb i)]
def GK : Nat → List Grp
  | 0 => gk4
  | i + 1 => putM (H10 (LK (i + 1))) (GK i) (LK i).length
theorem gk2_sizes : gk2.length = 1 ∧ tombN gk2 = 0 := by decide +kernel
theorem gk4_sizes : gk4.length = 1 ∧ tombN gk4 = 0 := by decide +kernel
theorem GK6_sizes : (GK 6).length = 2 ∧ tombN (GK 6) = 0 := by decide +kernel

theorem dremG {w W : World} {d : Nat} {L : List (Option Ent)} {Gs : List Grp} (h : DG w W d 0 true L Gs) {s : Nat} {x : Ent} (hx : L[s]? = some (some x)) :
    Calls Tryz.prog 16 #[dPtr d, .int .u32 s] W fun e w' => ∃ a n c, e = .returned (.tuple #[.agg #[.string x.key, .slice a n c, .int .u64 x.dl, .int .u64 x.birth], .int .i64 0]) ∧ DG w w' d 0 true (L.set s none) (remM (H10 L) (H10 (L.set s none)) Gs s) := by
  obtain ⟨D, h1, h2, h3⟩ := h
  refine Calls.mono (drem_ok h1 hx) ?_
  rintro e w' ⟨a, n, c, rfl, _, _, D', g1, g2, g3⟩
  exact ⟨a, n, c, rfl, DG.step h2 h3 g1 g2 g3⟩
theorem DG.quiet {N : Nat} {w A B : World} {d seed : Nat} {same : Bool} {L : List (Option Ent)} {Gs : List Grp} (h : DG w A d seed same L Gs) (hN : w.heap.size ≤ N) (hq : Quiet N A B) : DG w B d seed same L Gs := by
  obtain ⟨D, ⟨q, p, sv, Dl, h1, h2, h3⟩, h4, h5⟩ := h
  exact ⟨D, ⟨q, p, sv, Dl, h1.quiet hq, h2, h3⟩, hq.mod h4 hN, h5⟩
def catK (G : List (Nat × Ent)) : ByteArray := G.foldl (fun s g => s ++ g.2.key) ⟨#[]⟩
structure KI (w : World) (d b5 : Nat) (pre : List Given) (W : World) : Prop where
  dg : DG w W d 0 true (LK 0) (GK 0)
  r5 : W.heap[b5]? = some (.cells #[.string (catK (pre.map keyG))] 9 (0, 0))
  sz : (catK (pre.map keyG)).size ≤ 250 * pre.length
set_option maxHeartbeats 4000000 in
theorem known10_true (w : World) : Calls Tryz.prog 7 #[] w fun e w' => e = .returned (.bool true) ∧ Pure w w' := by
  have HN : Hid (∀ W, Calls Tryz.prog 9 #[.int .u64 0, .bool true] W fun e w' => e = .returned (.agg #[.int .u64 0, .bool true]) ∧ Pure W w') := fun W => hnew10 0 true W
  (refine (callsIn_wide (n := 0)).1 (callsIn_of_wp_marks Tryz.func7 rfl trivial (wpIn_wide.2 ?_) rfl); simp only [Tryz.ntmps7, List.size_toArray, List.length_cons, List.length_nil, Nat.reduceAdd, Nat.reduceSub, Array.replicate_succ, Array.replicate_zero, List.push_toArray, List.append_toArray, List.nil_append, List.cons_append])
  go_upto_region 2 with (first
    | (go_at_call 9; refine Calls.mono (HN.out _) ?_; rintro e w1 ⟨rfl, hp1⟩)
    | (go_at_call 8; refine Calls.mono (newG' (w := w) 0 true (by decide) hp1) ?_; rintro e w2 ⟨d, rfl, hd, _⟩))
  have HD := Lib.hid hd
  clear hd hp1 HN
  have T1 : True := trivial; have T2 : True := trivial
  go_upto_region 4 with (first
    | (go_at_call 43; clear T1; refine Calls.mono (inserts_ok HD.out ⟨#[97]⟩ (okK 97) (by decide) (by decide) 0 rfl) ?_; rintro e w3 ⟨rfl, hd3, _⟩; replace HD : Hid (DG w w3 d 0 true [eK 97] gk1) := hd3; clear hd3)
    | (go_at_call 43; clear T2; refine Calls.mono (inserts_ok HD.out ⟨#[98]⟩ (okK 98) (by decide) (by decide) 1 rfl) ?_; rintro e w4 ⟨rfl, hd4, _⟩; replace HD : Hid (DG w w4 d 0 true [eK 97, eK 98] gk2) := hd4; clear hd4))
  have HB := Lib.hid (show Calls Tryz.prog 11 #[dPtr d, .agg #[.string ⟨#[97]⟩, .slice none 0 0, .int .u64 0, .int .u64 1]] w4 (dins0 w4 11) from by
    obtain ⟨D9, q1, q2, q3⟩ := HD.out
    exact dins_busy q1 ⟨⟨#[97]⟩, [], 0, 1⟩ (okK 97) (t := 0) (by decide) none 0 0 (ReadAt.nil _ _))
  have T1 : True := trivial; have T2 : True := trivial
  go_upto_region 7 with (first
    | (go_at_call 11; refine Calls.mono HB.out ?_; rintro e w5 ⟨rfl, hp5⟩; replace HD := Lib.hid (HD.out.pure hp5); clear hp5)
    | (go_at_call 44; clear T1; refine Calls.mono (finds10_ok HD.out ⟨#[98]⟩ (by decide) 1 0 (by decide) (by decide)) ?_; rintro e w6 ⟨rfl, hp6⟩; replace HD := Lib.hid (HD.out.pure hp6); clear hp6)
    | (go_at_call 44; clear T2; refine Calls.mono (finds10_ok HD.out ⟨#[99]⟩ (by decide) 0 9 (by decide) (by decide)) ?_; rintro e w7 ⟨rfl, hp7⟩; replace HD := Lib.hid (HD.out.pure hp7); clear hp7)
    | (go_at_call 13; refine Calls.mono (sizes10_ok HD.out 2 1 0 rfl (by rw [gk2_sizes.1]; rfl) (by rw [gk2_sizes.2]; rfl)) ?_; rintro e w8 ⟨rfl, hp8⟩; replace HD := Lib.hid (HD.out.pure hp8); clear hp8))
  have HR := Lib.hid (dremG HD.out (s := 0) (x := ⟨⟨#[97]⟩, [], 0, 1⟩) rfl)
  go_upto_region 8 with (go_at_call 16; refine Calls.mono HR.out ?_; rintro e w9 ⟨a9, n9, c9, rfl, hd9⟩)
  have hpa : Pure w9 (w9.alloc (.cells #[.string ⟨#[97]⟩, .slice a9 n9 c9, .int .u64 0, .int .u64 1] 42)) := (Mod.refl _ w9).alloc _
  have z4 := heap_new (w := w9) (o := .cells #[.string ⟨#[97]⟩, .slice a9 n9 c9, .int .u64 0, .int .u64 1] 42 (0, 0)) rfl
  replace HD : Hid (DG w (w9.alloc (.cells #[.string ⟨#[97]⟩, .slice a9 n9 c9, .int .u64 0, .int .u64 1] 42)) d 0 true [none, eK 98] gk3) := DG.pure hd9 hpa
  clear hd9 hpa HB HR
  generalize w9.alloc (.cells #[.string ⟨#[97]⟩, .slice a9 n9 c9, .int .u64 0, .int .u64 1] 42) = W9 at *
  generalize w9.heap.size = b4 at *
  have z4_0 := cell_of_row _ _ 0 _ _ _ z4; have z4_1 := cell_of_row _ _ 1 _ _ _ z4; have z4_2 := cell_of_row _ _ 2 _ _ _ z4; have z4_3 := cell_of_row _ _ 3 _ _ _ z4; have z4_f := (fun j => frozen_of_row _ _ j _ _ z4); have z4_l := lt_of_block z4; simp at z4_0 z4_1 z4_2 z4_3; have H_z4 := Lib.hid z4; clear z4
  have T1 : True := trivial; have T2 : True := trivial
  go_upto_region 10 with (first
    | (go_at_call 44; clear T1; refine Calls.mono (finds10_ok HD.out ⟨#[97]⟩ (by decide) 0 9 (by decide) (by decide)) ?_; rintro e w10 ⟨rfl, hp10⟩; replace HD := Lib.hid (HD.out.pure hp10); clear hp10)
    | (go_at_call 43; refine Calls.mono (inserts_ok HD.out ⟨#[97]⟩ (okK 97) (by decide) (by decide) 2 rfl) ?_; rintro e w11 ⟨rfl, hd11, _⟩; replace HD : Hid (DG w w11 d 0 true (LK 0) (GK 0)) := hd11; clear hd11)
    | (go_at_call 44; clear T2; refine Calls.mono (finds10_ok HD.out ⟨#[97]⟩ (by decide) 2 0 (by decide) (by decide)) ?_; rintro e w12 ⟨rfl, hp12⟩; replace HD := Lib.hid (HD.out.pure hp12); clear hp12)
    | (go_at_call 13; refine Calls.mono (sizes10_ok HD.out 3 1 0 rfl (by show ((gk4.length : Nat) : Int) = 1; rw [gk4_sizes.1]; rfl) (by show ((tombN gk4 : Nat) : Int) = 0; rw [gk4_sizes.2]; rfl)) ?_; rintro e w13 ⟨rfl, hp13⟩; replace HD := Lib.hid (HD.out.pure hp13); clear hp13))
  clear z4_0 z4_1 z4_2 z4_3 z4_f z4_l
  clear H_z4
  have HAl := Lib.hid (show Calls Tryz.prog 45 #[.pointer (some ⟨d, 0, none⟩)] w13 (allA w13 (LK 0)) from by obtain ⟨D9, q1, q2, q3⟩ := HD.out; exact dall_ok q1)
  go_upto_region 11 with (go_at_call 45; refine Calls.mono HAl.out ?_; rintro e w14 ⟨M, B, a3, c3, hM, rfl, hit, hp14, hB, hfr⟩)
  have hpb : Pure w14 (w14.alloc (.cells #[.string ⟨#[]⟩] 9)) := (Mod.refl _ w14).alloc _
  have z5 := heap_new (w := w14) (o := .cells #[.string ⟨#[]⟩] 9 (0, 0)) rfl
  have hit' := hit.keeps (KeepsIt.of_pure hpb)
  have hb5ww : w.heap.size ≤ w14.heap.size := (HD.out.pure hp14).pu.size
  replace HD := Lib.hid ((HD.out.pure hp14).pure hpb)
  clear hit hp14 hpb hB hfr HAl
  generalize w14.alloc (.cells #[.string ⟨#[]⟩] 9) = W14 at *
  generalize w14.heap.size = b5 at *
  have HIT := Lib.hid hit'
  have hItlt : ∀ k, iterBlocks B (.slice a3 M.length c3) M k → k < W14.heap.size := by
    rintro k (rfl | h | ⟨e, v, hm, h⟩)
    · exact lt_of_block hit'.box
    · exact owns_lt hit'.row h
    · exact owns_lt (hit'.vals e v hm) h
  have hI0 : KI w d b5 [] W14 := ⟨HD.out, z5, by decide⟩
  have n5 := Lib.hid (iter_types hit' z5 (by decide) (by decide) (by decide))
  have hw14 : w.heap.size ≤ W14.heap.size := HD.out.pu.size
  have hb5 : b5 < W14.heap.size := lt_of_block z5
  have hb5w : w.heap.size ≤ b5 := hb5ww
  clear hit' z5
  generalize hItd : iterBlocks B (.slice a3 M.length c3) M = It at *
  go_wp2
  refine wpIn_wide.1 (wp_range2 (gf := 127) (lb := #[.pointer (some ⟨B, 0, none⟩)]) rfl (enters_of Tryz.func127 (by kernel_rfl) rfl) (It := It) (hItd ▸ All_iter HIT.out W14.heap.size (Nat.le_refl _)) hItlt (fun _ => rfl)
    (fun pre W => KI w d b5 pre W ∧ W14.heap.size ≤ W.heap.size) (fun _ _ _ => False) ?hI ?hIx ⟨hI0, Nat.le_refl _⟩ ?round ?done ?stop)
  case hI => exact fun pre A B ⟨h, hz⟩ hq => ⟨⟨h.dg.quiet hw14 hq, hq.cells h.r5, h.sz⟩, Nat.le_trans hz (Mod.size hq)⟩
  case hIx => exact fun _ _ _ _ h _ => h
  case stop => exact fun _ _ _ _ _ h _ => h.elim
  case done =>
    rintro l xs W hl hS ⟨hI, hWs⟩ hK
    have hS' : xs.map keyG = live (LK 0) := by rw [← hM]; exact hS
    have r5 := hI.r5
    rw [hS', show catK (live (LK 0)) = ⟨#[98, 97]⟩ from by decide] at r5
    have HG := Lib.hid hI.dg
    clear hI hI0 hItlt hS hS' hWs
    have HK := Lib.hid hK
    clear hK
    go_wp2
    go_loopw [9] (fun v9 wr => ∃ i, v9 = .int .i64 (i : Nat) ∧ i ≤ 6 ∧ DG w wr d 0 true (LK i) (GK i) ∧ wr.heap[b5]? = some (.cells #[.string ⟨#[98, 97]⟩] 9 (0, 0)) ∧ wr.heap[l]? = some (.deferred (some []))) (fun v9 _ => 6 - (intOf v9).toNat)
    case atStart => exact ⟨0, rfl, by omega, HG.out, r5, HK.out⟩
    case round =>
      obtain ⟨i, rfl, hi, hg, hr5, hrl⟩ := hrel
      have HGi := Lib.hid hg
      clear hg
      have hcase : i = 0 ∨ i = 1 ∨ i = 2 ∨ i = 3 ∨ i = 4 ∨ i = 5 ∨ i = 6 := by omega
      have HR5 := Lib.hid hr5; have HRL := Lib.hid hrl
      clear hr5 hrl
      rcases hcase with rfl | rfl | rfl | rfl | rfl | rfl | rfl
      · have hkx : (⟨#[99, 100, 101, 102, 103, 104]⟩ : ByteArray).extract 0 1 = ⟨#[99]⟩ := by decide
        go_upto_region 18 with (go_at_call 43; refine Calls.mono (inserts_ok HGi.out ⟨#[99]⟩ (okK 99) (by decide) (by decide) 3 (by decide)) ?_; rintro e w16 ⟨rfl, hd16, hk16⟩)
        have q5 := hk16 b5 _ HR5.out (by intro cs T fz e; cases e; decide)
        have ql := hk16 l _ HRL.out (by intro cs T fz e; cases e)
        clear hk16
        go_wp2
        go_roundw
        case rel => exact ⟨1, by go_num, by omega, hd16, q5, ql⟩
        case measure => simp [intOf]
      · have hkx : (⟨#[99, 100, 101, 102, 103, 104]⟩ : ByteArray).extract 1 2 = ⟨#[100]⟩ := by decide
        go_upto_region 18 with (go_at_call 43; refine Calls.mono (inserts_ok HGi.out ⟨#[100]⟩ (okK 100) (by decide) (by decide) 4 (by decide)) ?_; rintro e w16 ⟨rfl, hd16, hk16⟩)
        have q5 := hk16 b5 _ HR5.out (by intro cs T fz e; cases e; decide)
        have ql := hk16 l _ HRL.out (by intro cs T fz e; cases e)
        clear hk16
        go_wp2
        go_roundw
        case rel => exact ⟨2, by go_num, by omega, hd16, q5, ql⟩
        case measure => simp [intOf]
      · have hkx : (⟨#[99, 100, 101, 102, 103, 104]⟩ : ByteArray).extract 2 3 = ⟨#[101]⟩ := by decide
        go_upto_region 18 with (go_at_call 43; refine Calls.mono (inserts_ok HGi.out ⟨#[101]⟩ (okK 101) (by decide) (by decide) 5 (by decide)) ?_; rintro e w16 ⟨rfl, hd16, hk16⟩)
        have q5 := hk16 b5 _ HR5.out (by intro cs T fz e; cases e; decide)
        have ql := hk16 l _ HRL.out (by intro cs T fz e; cases e)
        clear hk16
        go_wp2
        go_roundw
        case rel => exact ⟨3, by go_num, by omega, hd16, q5, ql⟩
        case measure => simp [intOf]
      · have hkx : (⟨#[99, 100, 101, 102, 103, 104]⟩ : ByteArray).extract 3 4 = ⟨#[102]⟩ := by decide
        go_upto_region 18 with (go_at_call 43; refine Calls.mono (inserts_ok HGi.out ⟨#[102]⟩ (okK 102) (by decide) (by decide) 6 (by decide)) ?_; rintro e w16 ⟨rfl, hd16, hk16⟩)
        have q5 := hk16 b5 _ HR5.out (by intro cs T fz e; cases e; decide)
        have ql := hk16 l _ HRL.out (by intro cs T fz e; cases e)
        clear hk16
        go_wp2
        go_roundw
        case rel => exact ⟨4, by go_num, by omega, hd16, q5, ql⟩
        case measure => simp [intOf]
      · have hkx : (⟨#[99, 100, 101, 102, 103, 104]⟩ : ByteArray).extract 4 5 = ⟨#[103]⟩ := by decide
        go_upto_region 18 with (go_at_call 43; refine Calls.mono (inserts_ok HGi.out ⟨#[103]⟩ (okK 103) (by decide) (by decide) 7 (by decide)) ?_; rintro e w16 ⟨rfl, hd16, hk16⟩)
        have q5 := hk16 b5 _ HR5.out (by intro cs T fz e; cases e; decide)
        have ql := hk16 l _ HRL.out (by intro cs T fz e; cases e)
        clear hk16
        go_wp2
        go_roundw
        case rel => exact ⟨5, by go_num, by omega, hd16, q5, ql⟩
        case measure => simp [intOf]
      · have hkx : (⟨#[99, 100, 101, 102, 103, 104]⟩ : ByteArray).extract 5 6 = ⟨#[104]⟩ := by decide
        go_upto_region 18 with (go_at_call 43; refine Calls.mono (inserts_ok HGi.out ⟨#[104]⟩ (okK 104) (by decide) (by decide) 8 (by decide)) ?_; rintro e w16 ⟨rfl, hd16, hk16⟩)
        have q5 := hk16 b5 _ HR5.out (by intro cs T fz e; cases e; decide)
        have ql := hk16 l _ HRL.out (by intro cs T fz e; cases e)
        clear hk16
        go_wp2
        go_roundw
        case rel => exact ⟨6, by go_num, by omega, hd16, q5, ql⟩
        case measure => simp [intOf]
      · have hq : DG w wr d 0 true (LK 6) (GK 6) := HGi.out
        have r5 := HR5.out
        have HS := Lib.hid (sizes10_ok hq 9 2 0 (by decide) (by rw [GK6_sizes.1]; rfl) (by rw [GK6_sizes.2]; rfl))
        have HLn := Lib.hid (fun (W' : World) (hW : Pure wr W') => len10_ok (hq.pure hW) 8 (by decide))
        have HPU := Lib.hid hq.pu
        clear hq
        have r5_0 := cell_of_row _ _ 0 _ _ _ r5; have r5_f := (fun j => frozen_of_row _ _ j _ _ r5); have r5_l := lt_of_block r5; simp at r5_0; have H_r5 := Lib.hid r5; clear r5
        go_wp2_with (first
          | (go_at_call 13; refine Calls.mono HS.out ?_; rintro e w17 ⟨rfl, hp17⟩)
          | (go_at_call 19; refine Calls.mono (HLn.out _ hp17) ?_; rintro e w18 ⟨rfl, rfl⟩))
        have hk := hp17.heap (fun h => h) HRL.out
        have hlw : w.heap.size ≤ l := Nat.le_trans hw14 hl
        exact bodyPostM_drained (v := .bool true) hk (by simp [results, Tryz.results7, go_sem]) ⟨rfl, (Quiet.putObj (N := W14.heap.size) (.deferred none) hl hk rfl).mod (HPU.out.trans hp17) hw14⟩
  case round =>
    rintro l pre ⟨i, x, v⟩ W K ⟨hI, hWs⟩ hG hK
    obtain ⟨va, vc, hv, _⟩ := owns_form hG.2.1
    dsimp only at hv
    subst hv
    dsimp only [encG]
    obtain ⟨⟨post, hpost⟩, _, _⟩ := hG
    rw [hM] at hpost
    have hmem := live_mem (g := (i, x)) (by rw [hpost]; simp [keyG])
    have hkx : x.key.size ≤ 250 := by
      obtain ⟨D9, q1, q2, q3⟩ := hI.dg
      exact (q1.ok.ent x (List.mem_of_getElem? hmem)).k1
    have hpl : pre.length ≤ 4194304 := by
      obtain ⟨D9, q1, q2, q3⟩ := hI.dg
      have := Nat.le_trans (live_length _) q1.ok.len; rw [hpost] at this; simp at this; omega
    have HCI := Lib.hid hI; have HK := Lib.hid hK
    clear hI hK hI0 HIT hItlt hpost hmem
    gi_wp2
    have hP : Pure W (W.alloc (.cells #[.string x.key, .slice va (bytesOf x.val).length vc, .int .u64 x.dl, .int .u64 x.birth] 42)) := (Mod.refl _ W).alloc _
    have z9 := heap_new (w := W) (o := .cells #[.string x.key, .slice va (bytesOf x.val).length vc, .int .u64 x.dl, .int .u64 x.birth] 42 (0, 0)) rfl
    refine HK.out _ _ hP (fun l' W2 hl hr hq => ?_)
    have hdg := (HCI.out.dg.pure hP).quiet hw14 hq
    have r5 := hq.cells (hP.heap (fun h => h) HCI.out.r5)
    have hsz := HCI.out.sz
    have zz9 := hq.cells z9
    have hsz2 : W14.heap.size ≤ W2.heap.size := by have := Mod.size hq; have := hP.size; omega
    clear HK hP hq z9 HCI
    generalize W.heap.size = b8 at zz9 ⊢
    have hcat : catK ((pre ++ [(i, x, Value.slice va (bytesOf x.val).length vc)]).map keyG) = catK (pre.map keyG) ++ x.key := by simp [catK, keyG]
    have HCAT := Lib.hid hcat
    clear hcat
    generalize catK (pre.map keyG) = ks at *
    have hsum : ¬ (9223372036854775807 < ks.size + x.key.size) := by omega
    have hsum2 : ks.size + x.key.size ≤ 9223372036854775807 := by omega
    have HDG := Lib.hid hdg
    have R5 := Lib.hid r5
    clear hdg
    have zz9_0 := cell_of_row _ _ 0 _ _ _ zz9; have zz9_1 := cell_of_row _ _ 1 _ _ _ zz9; have zz9_2 := cell_of_row _ _ 2 _ _ _ zz9; have zz9_3 := cell_of_row _ _ 3 _ _ _ zz9; have zz9_f := (fun j => frozen_of_row _ _ j _ _ zz9); have zz9_l := lt_of_block zz9; simp at zz9_0 zz9_1 zz9_2 zz9_3; have H_zz9 := Lib.hid zz9; clear zz9
    have r5_0 := cell_of_row _ _ 0 _ _ _ r5; have r5_f := (fun j => frozen_of_row _ _ j _ _ r5); have r5_l := lt_of_block r5; simp at r5_0; have H_r5 := Lib.hid r5; clear r5
    gi_wp2
    have hm : Mod (fun k => k = b5) W2 (W2.setCell ⟨b5, 0, none⟩ (.string (ks ++ x.key))) := Mod.set1 _ _ _
    refine ⟨KeepsRec.of_mod hm (fun k hk h => by omega), KeepsIt.of_mod hm (fun k hk h => by subst h; exact n5.out hk), ⟨?_, ?_, ?_⟩, Nat.le_trans hsz2 hm.size⟩
    · obtain ⟨D9, q1, q2, q3⟩ := HDG.out
      refine ⟨D9, q1.frame hm (fun k hk e => ?_) (fun k _ e cs fz e2 => by subst e; rw [R5.out] at e2; cases e2), q2.then hm (fun k hk e => by omega), q3⟩
      subst e; rcases q1.types hk R5.out with e | e | e | e | e <;> cases e
    · rw [HCAT.out]; exact heap_set1 (j := 0) R5.out
    · rw [HCAT.out, ByteArray.size_append, List.length_append]; simp; omega
end Go.Proofs.YtapplindfijngaaGreat

/- The reference of layer 10: Insert of an entry that is not there. -/
namespace Go.Proofs.YtapplindfijngaaGreat
open Go.RowKit Go.Shelf
set_option maxRecDepth 100000

def rdinsPost (w : World) (seed : Nat) (same : Bool) (Q : List RQ) (Gs : List Grp) (x : Ent) (e : Ending) (w' : World) : Prop :=
  ∃ r' Q', e = .returned (.tuple #[rdV seed same r' Q'.length (8 * Gs.length), .int .u32 Q.length, .int .i64 0]) ∧ Q'.map absQ = Q.map absQ ++ [(x, false)] ∧ RefD w' r' Q' Gs ∧ Fresh w (.slice r'.aL Q'.length r'.cL) ∧ Pure w w'
set_option maxHeartbeats 2000000 in
theorem rdins_ok {w : World} {r : RA} {Q : List RQ} {Gs : List Grp} (h : RefD w r Q Gs) (seed : Nat) (same : Bool) (hsd : seed < 18446744073709551616) (hk : Keeps seed same (slotsR (Q.map absQ)) Gs) (x : Ent) (hok : x.Ok) (hQ : Q.length < 4194304)
    (hf : findK (slotsR (Q.map absQ)) x.key = none) (a : Option Addr) (na c : Nat) (hx : ReadAt w (.slice a na c) 1 (bytesOf x.val)) :
    Calls Tryz.prog 12 #[rdV seed same r Q.length (8 * Gs.length), .agg #[.string x.key, .slice a na c, .int .u64 x.dl, .int .u64 x.birth]] w
      (rdinsPost w seed same Q (putM (sumL seed same (slotsR (Q.map absQ) ++ [some x])) Gs Q.length) x) := by
  have hna : na ≤ 65536 := by have := read_length hx; rw [bytesOf_length] at this; have := hok.v1; omega
  obtain ⟨n, hn⟩ : ∃ n, Q.length = n := ⟨_, rfl⟩
  obtain ⟨m, hm⟩ : ∃ m, 8 * Gs.length = m := ⟨_, rfl⟩
  have hlen : (slotsR (Q.map absQ)).length = n := by rw [slotsR_length, List.length_map, hn]
  obtain ⟨H, hH⟩ : ∃ H, sumL seed same (slotsR (Q.map absQ) ++ [some x]) = H := ⟨_, rfl⟩
  have hki := hk.insert hf (by omega)
  rw [hH, hlen] at hki
  have hns : ¬ liveS (slotsR (Q.map absQ)) n := fun hl => by have := liveS_lt hl; omega
  obtain ⟨pl, hp1, hp2, _, _, _, _, _, _⟩ := hki.1.put (s := n) (by have := hk.used; have := liveOf_le' (slotsR (Q.map absQ)); omega) (by omega) hns
  have hfl : ∀ s ∈ Gs.flatMap fullS, liveS (slotsR (Q.map absQ) ++ [some x]) s := fun s hs => (liveS_append _ x s).2 (.inr ((hki.1.mem s).2 ((full_mem hki.1.ok s).1 hs)))
  have HPut : Hid (∀ (W : World) (r2 : RA) (Q2 : List RQ), RefD W r2 Q2 Gs → Q2.map absQ = Q.map absQ ++ [(x, false)] → Calls Tryz.prog 55 #[rdV seed same r2 Q2.length m, .int .u32 n] W (rddoPost W seed same r2 Q2 (putM H Gs n))) := Lib.hid (fun W r2 Q2 hW hq => by
    have hL2 : slotsR (Q2.map absQ) = slotsR (Q.map absQ) ++ [some x] := by rw [hq, slotsR_snoc]
    have := rdput_ok hW seed same hsd hp1 hp2 (by rw [hL2]; exact hfl) (s := n) (by rw [hL2]; exact (liveS_append _ x n).2 (.inl hlen.symm)) (by omega)
    rw [hL2, hH, hm] at this
    exact this)
  have HCk := Lib.hid (fun W => ref_Check_ok x.key a na c x.birth W hok.k0 hok.k1 hna (by have := hok.b0; simp; omega))
  have HAt := Lib.hid (fun (W : World) (hW : RefD W r Q Gs) => rdAt_ok hW seed same m x.key)
  have hat : atV (slotsR (Q.map absQ)) x.key = -1 := by unfold atV; rw [hf]
  rw [hat, hn] at HAt
  have HAp := Lib.hid (fun (W : World) (hW : RefRow W r.aL r.cL r.aG r.cG Q) (hxx : ReadAt W (.slice a na c) 1 (bytesOf x.val)) => ref_Append hW hQ x hok a na c hxx)
  have h2a := heap_new (w := w) (o := rdO seed same r n m) rfl
  have h3a := heap_new (w := w.alloc (rdO seed same r n m)) (o := .cells #[.string x.key, .slice a na c, .int .u64 x.dl, .int .u64 x.birth] 42 (0, 0)) (n := w.heap.size + 1) (by simp)
  have h4a := heap_new (w := (w.alloc (rdO seed same r n m)).alloc (.cells #[.string x.key, .slice a na c, .int .u64 x.dl, .int .u64 x.birth] 42)) (o := .cells #[.int .u64 0, .bool false, .slice none 0 0, .slice none 0 0, .slice none 0 0, .slice none 0 0] 38 (0, 0)) (n := w.heap.size + 1 + 1) (by simp)
  have hp0 : Pure w (((w.alloc (rdO seed same r n m)).alloc (.cells #[.string x.key, .slice a na c, .int .u64 x.dl, .int .u64 x.birth] 42)).alloc (.cells #[.int .u64 0, .bool false, .slice none 0 0, .slice none 0 0, .slice none 0 0, .slice none 0 0] 38)) := (((Mod.refl _ w).alloc _).alloc _).alloc _
  have HD := Lib.hid (RDo.mk (b := w.heap.size) (b4 := w.heap.size + 1 + 1) hp0 (heap_keep (heap_keep h2a)) h4a (h.pure hp0))
  have h3 := heap_keep (o := .cells #[.int .u64 0, .bool false, .slice none 0 0, .slice none 0 0, .slice none 0 0, .slice none 0 0] 38) h3a
  have HX := Lib.hid (hx.frame hp0 (fun _ _ h => h))
  rw [hm]
  unfold rdinsPost refAppPost at *
  rw [hn] at HAp ⊢
  rw [hH]
  have HN := Lib.hid hn; have HM := Lib.hid hm
  clear h hn hm hk hf hx hlen hH hki hns hp1 hp2 hfl hat h2a h3a h4a hp0
  obtain ⟨aL, cL, aG, cG, aC, cC, aS, cS⟩ := r
  dsimp only [rdO] at HD h3 HAt HAp ⊢
  go_enter Tryz.func12, Tryz.ntmps12
  go_upto_region 1 with fail
  generalize (((w.alloc (.cells #[.int .u64 seed, .bool same, .slice aL n cL, .slice aG n cG, .slice aC m cC, .slice aS m cS] 38)).alloc (.cells #[.string x.key, .slice a na c, .int .u64 x.dl, .int .u64 x.birth] 42)).alloc (.cells #[.int .u64 0, .bool false, .slice none 0 0, .slice none 0 0, .slice none 0 0, .slice none 0 0] 38)) = W1 at *
  obtain ⟨b, hb⟩ : ∃ b, w.heap.size = b := ⟨_, rfl⟩
  rw [hb] at HD h3 ⊢
  have HB := Lib.hid hb
  clear hb
  have hd2 := HD.out.h2
  dsimp only [rdO] at hd2
  have hd2_0 := cell_of_row _ _ 0 _ _ _ hd2; have hd2_1 := cell_of_row _ _ 1 _ _ _ hd2; have hd2_2 := cell_of_row _ _ 2 _ _ _ hd2; have hd2_3 := cell_of_row _ _ 3 _ _ _ hd2; have hd2_4 := cell_of_row _ _ 4 _ _ _ hd2; have hd2_5 := cell_of_row _ _ 5 _ _ _ hd2; have hd2_f := (fun j => frozen_of_row _ _ j _ _ hd2); have hd2_l := lt_of_block hd2; simp at hd2_0 hd2_1 hd2_2 hd2_3 hd2_4 hd2_5; have H_hd2 := Lib.hid hd2; clear hd2
  have h3_0 := cell_of_row _ _ 0 _ _ _ h3; have h3_1 := cell_of_row _ _ 1 _ _ _ h3; have h3_2 := cell_of_row _ _ 2 _ _ _ h3; have h3_3 := cell_of_row _ _ 3 _ _ _ h3; have h3_f := (fun j => frozen_of_row _ _ j _ _ h3); have h3_l := lt_of_block h3; simp at h3_0 h3_1 h3_2 h3_3; have H_h3 := Lib.hid h3; clear h3
  go_upto_region 6 with (first
    | (go_at_call 53; refine Calls.mono (HCk.out _) ?_; rintro e w2 ⟨rfl, rfl⟩)
    | (go_at_call 54; refine Calls.mono (HAt.out _ HD.out.rf) ?_; rintro e w2 ⟨rfl, hp2⟩; clear hd2_0 hd2_1 hd2_2 hd2_3 hd2_4 hd2_5 hd2_f hd2_l; clear h3_0 h3_1 h3_2 h3_3 h3_f h3_l))
  have hd2 := hp2.heap (fun h => h) H_hd2.out
  have h3 := hp2.heap (fun h => h) H_h3.out
  replace HD := Lib.hid (HD.out.pure hp2)
  replace HX := Lib.hid (HX.out.frame hp2 (fun _ _ h => h))
  clear hp2 H_hd2 H_h3 HAt HCk
  have hd2_0 := cell_of_row _ _ 0 _ _ _ hd2; have hd2_1 := cell_of_row _ _ 1 _ _ _ hd2; have hd2_2 := cell_of_row _ _ 2 _ _ _ hd2; have hd2_3 := cell_of_row _ _ 3 _ _ _ hd2; have hd2_4 := cell_of_row _ _ 4 _ _ _ hd2; have hd2_5 := cell_of_row _ _ 5 _ _ _ hd2; have hd2_f := (fun j => frozen_of_row _ _ j _ _ hd2); have hd2_l := lt_of_block hd2; simp at hd2_0 hd2_1 hd2_2 hd2_3 hd2_4 hd2_5; have H_hd2 := Lib.hid hd2; clear hd2
  have h3_0 := cell_of_row _ _ 0 _ _ _ h3; have h3_1 := cell_of_row _ _ 1 _ _ _ h3; have h3_2 := cell_of_row _ _ 2 _ _ _ h3; have h3_3 := cell_of_row _ _ 3 _ _ _ h3; have h3_f := (fun j => frozen_of_row _ _ j _ _ h3); have h3_l := lt_of_block h3; simp at h3_0 h3_1 h3_2 h3_3; have H_h3 := Lib.hid h3; clear h3
  go_upto_region 7 with (go_at_call 23; refine Calls.mono (HAp.out _ HD.out.rf.l HX.out) ?_; rintro e w5 ⟨aL2, cL2, aG2, cG2, Q2, rfl, hq2, hr2, hf2, _, hp5⟩)
  obtain ⟨n2, hn2⟩ : ∃ n2, Q2.length = n2 := ⟨_, rfl⟩
  rw [hn2] at hf2 ⊢
  have HN2 := Lib.hid hn2
  have hal : Pure w5 (w5.alloc (.cells #[.slice aL2 n2 cL2, .slice aG2 n2 cG2] 32)) := (Mod.refl _ w5).alloc _
  have h8 := heap_new (w := w5) (o := .cells #[.slice aL2 n2 cL2, .slice aG2 n2 cG2] 32 (0, 0)) rfl
  have hp6 := hp5.trans hal
  have hy2 := hp6.heap (fun h => h) H_hd2.out
  have HR2 := Lib.hid (hr2.pure hal)
  have HQ2 := Lib.hid hq2
  have hsw : w.heap.size ≤ w2.heap.size := HD.out.pu.size
  have HF2 : Hid (Fresh w (.slice aL2 n2 cL2)) := Lib.hid (fun g hg => by have := hf2 g hg; omega)
  have hb5 : b < w5.heap.size := by have := lt_of_block H_hd2.out; have := hp5.size; omega
  replace HD := Lib.hid (HD.out.pure hp6)
  clear hd2_0 hd2_1 hd2_2 hd2_3 hd2_4 hd2_5 hd2_f hd2_l
  clear h3_0 h3_1 h3_2 h3_3 h3_f h3_l
  clear H_hd2 H_h3 hal hp5 hp6 hq2 hr2 hf2 hn2 HX HAp hsw
  generalize w5.alloc (.cells #[.slice aL2 n2 cL2, .slice aG2 n2 cG2] 32) = W6 at *
  generalize w5.heap.size = b8 at *
  have hne : b8 ≠ b := by omega
  have h8_0 := cell_of_row _ _ 0 _ _ _ h8; have h8_1 := cell_of_row _ _ 1 _ _ _ h8; have h8_f := (fun j => frozen_of_row _ _ j _ _ h8); have h8_l := lt_of_block h8; simp at h8_0 h8_1; have H_h8 := Lib.hid h8; clear h8
  have hy2_0 := cell_of_row _ _ 0 _ _ _ hy2; have hy2_1 := cell_of_row _ _ 1 _ _ _ hy2; have hy2_2 := cell_of_row _ _ 2 _ _ _ hy2; have hy2_3 := cell_of_row _ _ 3 _ _ _ hy2; have hy2_4 := cell_of_row _ _ 4 _ _ _ hy2; have hy2_5 := cell_of_row _ _ 5 _ _ _ hy2; have hy2_f := (fun j => frozen_of_row _ _ j _ _ hy2); have hy2_l := lt_of_block hy2; simp at hy2_0 hy2_1 hy2_2 hy2_3 hy2_4 hy2_5; have H_hy2 := Lib.hid hy2; clear hy2
  go_upto_region 8 with fail
  obtain ⟨X, hX⟩ : ∃ X, (W6.setCell ⟨b, 2, none⟩ (.slice aL2 n2 cL2)).setCell ⟨b, 3, none⟩ (.slice aG2 n2 cG2) = X := ⟨_, rfl⟩
  have hmx : Mod (fun k => k = b) W6 X := by rw [← hX]; exact Mod.set2 b 2 3 _ _
  have hx2 : X.heap[b]? = some (.cells #[.int .u64 seed, .bool same, .slice aL2 n2 cL2, .slice aG2 n2 cG2, .slice aC m cC, .slice aS m cS] 38 (0, 0)) := by rw [← hX]; exact set23 H_hy2.out
  rw [hX]
  have hnb : ∀ i, i = b → i < W6.heap.size → ∃ cs T fz, W6.heap[i]? = some (.cells cs T fz) ∧ T ≠ 42 ∧ T ≠ 4 ∧ T ≠ 5 ∧ T ≠ 43 := fun i e _ => ⟨_, _, _, e ▸ H_hy2.out, by decide, by decide, by decide, by decide⟩
  have hbw : w.heap.size ≤ b := by have := HB.out; omega
  have HRX : Hid (RefD X ⟨aL2, cL2, aG2, cG2, aC, cC, aS, cS⟩ Q2 Gs) := Lib.hid ⟨HR2.out.modX hmx hnb, HD.out.rf.x.modT hmx (fun i e hi => by obtain ⟨cs, T, fz, e2, _, _, h1, h2⟩ := hnb i e hi; exact ⟨cs, T, fz, e2, h1, h2⟩)⟩
  have hx4 := hmx.heap (by omega) HD.out.h4
  have HPX := Lib.hid (HD.out.pu.then hmx (fun i hi e => by omega))
  have HPt := Lib.hid (HPut.out X ⟨aL2, cL2, aG2, cG2, aC, cC, aS, cS⟩ Q2 HRX.out HQ2.out)
  unfold rddoPost at HPt
  rw [HN2.out] at HPt
  obtain ⟨m3, hm3⟩ : ∃ m3, 8 * (putM H Gs n).length = m3 := ⟨_, rfl⟩
  rw [hm3] at HPt
  have HM3 := Lib.hid hm3
  clear hy2_0 hy2_1 hy2_2 hy2_3 hy2_4 hy2_5 hy2_f hy2_l
  clear h8_0 h8_1 h8_f h8_l
  clear H_hy2 H_h8 hX hmx hnb HR2 HD HPut hm3
  dsimp only at HPt
  have hx2_0 := cell_of_row _ _ 0 _ _ _ hx2; have hx2_1 := cell_of_row _ _ 1 _ _ _ hx2; have hx2_2 := cell_of_row _ _ 2 _ _ _ hx2; have hx2_3 := cell_of_row _ _ 3 _ _ _ hx2; have hx2_4 := cell_of_row _ _ 4 _ _ _ hx2; have hx2_5 := cell_of_row _ _ 5 _ _ _ hx2; have hx2_f := (fun j => frozen_of_row _ _ j _ _ hx2); have hx2_l := lt_of_block hx2; simp at hx2_0 hx2_1 hx2_2 hx2_3 hx2_4 hx2_5; have H_hx2 := Lib.hid hx2; clear hx2
  have HX4 := Lib.hid hx4
  clear hx4
  go_wp2_with (go_at_call 55; refine Calls.mono HPt.out ?_; rintro e w9 ⟨a9, c9, a9', c9', rfl, hr9, hp9⟩; have hy4 := hp9.heap (fun h => h) HX4.out; have HR9 := Lib.hid hr9; have HP9 := Lib.hid hp9; clear hr9 hp9; have hy4_0 := cell_of_row _ _ 0 _ _ _ hy4; have hy4_1 := cell_of_row _ _ 1 _ _ _ hy4; have hy4_2 := cell_of_row _ _ 2 _ _ _ hy4; have hy4_3 := cell_of_row _ _ 3 _ _ _ hy4; have hy4_4 := cell_of_row _ _ 4 _ _ _ hy4; have hy4_5 := cell_of_row _ _ 5 _ _ _ hy4; have hy4_f := (fun j => frozen_of_row _ _ j _ _ hy4); have hy4_l := lt_of_block hy4; simp at hy4_0 hy4_1 hy4_2 hy4_3 hy4_4 hy4_5; have H_hy4 := Lib.hid hy4; clear hy4)
  obtain ⟨Y, hY⟩ : ∃ Y, (((((w9.setCell ⟨b + 1 + 1, 0, none⟩ (.int .u64 seed)).setCell ⟨b + 1 + 1, 1, none⟩ (.bool same)).setCell ⟨b + 1 + 1, 2, none⟩ (.slice aL2 n2 cL2)).setCell ⟨b + 1 + 1, 3, none⟩ (.slice aG2 n2 cG2)).setCell ⟨b + 1 + 1, 4, none⟩ (.slice a9 m3 c9)).setCell ⟨b + 1 + 1, 5, none⟩ (.slice a9' m3 c9') = Y := ⟨_, rfl⟩
  obtain ⟨g1, g2⟩ := fin6 H_hy4.out hY
  rw [hY]
  have x0 := cell_of_row _ _ 0 _ _ _ g2; have x1 := cell_of_row _ _ 1 _ _ _ g2; have x2 := cell_of_row _ _ 2 _ _ _ g2; have x3 := cell_of_row _ _ 3 _ _ _ g2; have x4 := cell_of_row _ _ 4 _ _ _ g2; have x5 := cell_of_row _ _ 5 _ _ _ g2
  simp at x0 x1 x2 x3 x4 x5
  have hn4 : ∀ i, i = b + 1 + 1 → i < w9.heap.size → ∃ cs T fz, w9.heap[i]? = some (.cells cs T fz) ∧ T ≠ 42 ∧ T ≠ 4 ∧ T ≠ 5 ∧ T ≠ 43 := fun i e _ => ⟨_, _, _, e ▸ H_hy4.out, by decide, by decide, by decide, by decide⟩
  refine bodyPost_ret (v := .tuple #[rdV seed same ⟨aL2, cL2, aG2, cG2, a9, c9, a9', c9'⟩ n2 m3, .int .u32 n, .int .i64 0]) (by simp [results, Tryz.results12, go_sem, x0, x1, x2, x3, x4, x5]) rfl ⟨⟨aL2, cL2, aG2, cG2, a9, c9, a9', c9'⟩, Q2, ?_, HQ2.out, ⟨((HRX.out.l).pure HP9.out).modX g1 hn4, HR9.out.modT g1 (fun i e hi => by obtain ⟨cs, T, fz, e2, _, _, h1, h2⟩ := hn4 i e hi; exact ⟨cs, T, fz, e2, h1, h2⟩)⟩, ?_, (HPX.out.trans HP9.out).then g1 (fun i hi e => by omega)⟩
  · rw [HM3.out, HN2.out]
  · rw [HN2.out]; exact HF2.out
end Go.Proofs.YtapplindfijngaaGreat
