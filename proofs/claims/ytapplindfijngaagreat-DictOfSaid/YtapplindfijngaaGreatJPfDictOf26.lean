/- Lemmas and contracts of functions, strung together out of 6 texts. No condition. -/
import Derived.Test.YtapplindfijngaaGreatJPfDictOf25
import Derived.Test.YtapplindfijngaaGreatJPfDictOf23
import Derived.Test.YtapplindfijngaaGreatJPfDictOf9
import Derived.Test.YtapplindfijngaaGreatJPfDictOf22
import Derived.Test.YtapplindfijngaaGreatJPfDictOf24
import Derived.Test.YtapplindfijngaaGreatJPfDictOf7
/- dict: Sizes, Len, Insert's errors; all of it for a dictionary that was made since (DG). -/
namespace Go.Proofs.YtapplindfijngaaGreat
open Go.RowKit Go.Shelf
set_option maxRecDepth 100000
section
variable {w w' : World} {D S : Nat → Prop} {d seed : Nat} {same : Bool} {L : List (Option Ent)} {Gs : List Grp}
theorem dlen_ok (h : DictAt w D d seed same L Gs) : Calls Tryz.prog 19 #[dPtr d] w fun e w' => e = .returned (.int .i64 (liveOf L)) ∧ w = w' := by
  obtain ⟨q, p, sv, Dl, h1, h2, h3⟩ := h
  have HZ := Lib.hid (dzero_ok h1)
  have HC := Lib.hid (liveA h1.log)
  have hb := h1.box
  clear h1 h2 h3
  have hb_0 := cell_of_row _ _ 0 _ _ _ hb; have hb_1 := cell_of_row _ _ 1 _ _ _ hb; have hb_2 := cell_of_row _ _ 2 _ _ _ hb; have hb_3 := cell_of_row _ _ 3 _ _ _ hb; have hb_f := (fun j => frozen_of_row _ _ j _ _ hb); have hb_l := lt_of_block hb; simp at hb_0 hb_1 hb_2 hb_3; have H_hb := Lib.hid hb; clear hb
  go_enter Tryz.func19, Tryz.ntmps19
  go_wp2_with (first
    | (go_at_call 48; refine Calls.mono HZ.out ?_; rintro e w' ⟨rfl, rfl⟩)
    | (go_at_call 69; refine Calls.mono HC.out ?_; rintro e w' ⟨rfl, rfl⟩))
  go_ret
  exact ⟨rfl, rfl⟩
def dsizesPost (w : World) (L : List (Option Ent)) (Gs : List Grp) (e : Ending) (w' : World) : Prop :=
  e = .returned (.tuple #[.int .i64 L.length, .int .i64 Gs.length, .int .i64 (tombN Gs)]) ∧ Pure w w'
set_option maxHeartbeats 1000000 in
theorem dsizes_ok (h : DictAt w D d seed same L Gs) : Calls Tryz.prog 41 #[dPtr d] w (dsizesPost w L Gs) := by
  obtain ⟨q, p, sv, Dl, h1, h2, h3⟩ := h
  have HZ := Lib.hid (dzero_ok h1)
  have HL := Lib.hid (fun (W : World) (hW : Pure w W) => lenA (h1.log.pure hW))
  have HX := Lib.hid (fun (W : World) (hW : Pure w W) => IGroups_ok (h1.ix.pure hW))
  have HT := Lib.hid (fun (W : World) (hW : Pure w W) => ITombs_ok (h1.ix.pure hW))
  have hb := h1.box
  clear h1 h2 h3
  have hb_0 := cell_of_row _ _ 0 _ _ _ hb; have hb_1 := cell_of_row _ _ 1 _ _ _ hb; have hb_2 := cell_of_row _ _ 2 _ _ _ hb; have hb_3 := cell_of_row _ _ 3 _ _ _ hb; have hb_f := (fun j => frozen_of_row _ _ j _ _ hb); have hb_l := lt_of_block hb; simp at hb_0 hb_1 hb_2 hb_3; have H_hb := Lib.hid hb; clear hb
  go_enter Tryz.func41, Tryz.ntmps41
  go_upto_region 3 with (go_at_call 48; refine Calls.mono HZ.out ?_; rintro e w' ⟨rfl, rfl⟩)
  go_region_held3 (fun w' => w'.cell? ⟨d, 0, none⟩ = some (.pointer (some ⟨q, 0, none⟩)) ∧ w'.cell? ⟨d, 3, none⟩ = some (.pointer (some ⟨p, 0, none⟩)))
    (first | exact ⟨hb_0, hb_3⟩)
    (first
      | (go_at_call 28; (with_reducible refine Calls.mono (HL.out _ (by first | exact Mod.refl _ _ | exact Mod.drew (Mod.refl _ _))) ?_); rintro e w1 ⟨rfl, rfl⟩)
      | (go_at_call 60; (with_reducible refine Calls.mono (HX.out _ (by first | exact Mod.refl _ _ | exact Mod.drew (Mod.refl _ _))) ?_); rintro e w1 ⟨rfl, rfl⟩)
      | (go_at_call 62; (with_reducible refine Calls.mono (HT.out _ (by first | exact Mod.refl _ _ | exact Mod.drew (Mod.refl _ _))) ?_); rintro e w1 ⟨rfl, rfl⟩))
  all_goals
    try go_wp2
    refine bodyPost_ret (v := .tuple #[.int .i64 L.length, .int .i64 Gs.length, .int .i64 (tombN Gs)]) (by simp [results, Tryz.results41, go_sem]) rfl ⟨rfl, ?_⟩
    first | exact Mod.refl _ _ | exact Mod.drew (Mod.refl _ _)

/-! ### Insert's errors -/
def dins0 (w : World) (er : Int) (e : Ending) (w' : World) : Prop := e = .returned (.tuple #[.int .u32 0, .int .i64 er]) ∧ Pure w w'
set_option maxHeartbeats 1000000 in
theorem dins_busy (h : DictAt w D d seed same L Gs) (x : Ent) (hok : x.Ok) {t : Nat} (hf : findK L x.key = some t) (a : Option Addr) (n c : Nat) (hx : ReadAt w (.slice a n c) 1 (bytesOf x.val)) :
    Calls Tryz.prog 11 #[dPtr d, .agg #[.string x.key, .slice a n c, .int .u64 x.dl, .int .u64 x.birth]] w (dins0 w 11) := by
  obtain ⟨q, p, sv, Dl, h1, h2, h3⟩ := h
  have hp0 : Pure w (w.alloc (.cells #[.string x.key, .slice a n c, .int .u64 x.dl, .int .u64 x.birth] 42)) := (Mod.refl _ w).alloc _
  have z3 := heap_new (w := w) (o := .cells #[.string x.key, .slice a n c, .int .u64 x.dl, .int .u64 x.birth] 42 (0, 0)) rfl
  have HP := Lib.hid hp0
  have HZ := Lib.hid (dzero_ok (h1.pure hp0))
  have hn : n ≤ 65536 := by have := read_length hx; rw [bytesOf_length] at this; have := hok.v1; omega
  have hb : (x.birth == 0) = false := by have := hok.b0; simp; omega
  have HN := Lib.hid (entry_New_ok x.key a n c x.dl x.birth (bytesOf x.val) _ (hx.frame hp0 (fun _ _ h => h)) hn hok.k0 hok.k1 hb)
  have HFd := Lib.hid (fun (W : World) (hW : Pure w W) => dfind_ok (h1.pure hW) h2 x.key (by have := hok.k1; omega))
  have e1 : findV L x.key = (t, 0) := by unfold findV; rw [hf]
  unfold dfindPost at HFd
  rw [e1] at HFd
  dsimp only at HFd
  clear h1 h2 h3 hx hok hp0 hn hb e1 hf
  go_enter Tryz.func11, Tryz.ntmps11
  go_upto_region 1 with fail
  generalize w.alloc (.cells #[.string x.key, .slice a n c, .int .u64 x.dl, .int .u64 x.birth] 42) = W1 at *
  generalize w.heap.size = b3 at *
  have z3_0 := cell_of_row _ _ 0 _ _ _ z3; have z3_1 := cell_of_row _ _ 1 _ _ _ z3; have z3_2 := cell_of_row _ _ 2 _ _ _ z3; have z3_3 := cell_of_row _ _ 3 _ _ _ z3; have z3_f := (fun j => frozen_of_row _ _ j _ _ z3); have z3_l := lt_of_block z3; simp at z3_0 z3_1 z3_2 z3_3; have H_z3 := Lib.hid z3; clear z3
  go_upto_region 4 with (first
    | (go_at_call 48; refine Calls.mono HZ.out ?_; rintro e w' ⟨rfl, rfl⟩)
    | (go_at_call 49; refine Calls.mono HN.out ?_; rintro e w2 ⟨a2, n2, c2, rfl, hr2, hf2, hp2⟩))
  have hpo : Pure w2 (w2.alloc (.cells #[.string x.key, .slice a2 n2 c2, .int .u64 x.dl, .int .u64 x.birth] 42)) := (Mod.refl _ w2).alloc _
  have zz3 := (hp2.trans hpo).heap (fun h => h) H_z3.out
  replace HP := Lib.hid ((HP.out.trans hp2).trans hpo)
  clear z3_0 z3_1 z3_2 z3_3 z3_f z3_l
  clear H_z3 hr2 hf2 hp2 hpo HN HZ
  generalize w2.alloc (.cells #[.string x.key, .slice a2 n2 c2, .int .u64 x.dl, .int .u64 x.birth] 42) = W3 at *
  generalize w2.heap.size = b6 at *
  have zz3_0 := cell_of_row _ _ 0 _ _ _ zz3; have zz3_1 := cell_of_row _ _ 1 _ _ _ zz3; have zz3_2 := cell_of_row _ _ 2 _ _ _ zz3; have zz3_3 := cell_of_row _ _ 3 _ _ _ zz3; have zz3_f := (fun j => frozen_of_row _ _ j _ _ zz3); have zz3_l := lt_of_block zz3; simp at zz3_0 zz3_1 zz3_2 zz3_3; have H_zz3 := Lib.hid zz3; clear zz3
  go_wp2_with (go_at_call 42; refine Calls.mono (HFd.out _ HP.out) ?_; rintro e w4 ⟨rfl, hp4⟩)
  go_ret2
  exact ⟨rfl, HP.out.trans hp4⟩
set_option maxHeartbeats 1000000 in
theorem dins_err (h : DictAt w D d seed same L Gs) (k : ByteArray) (a : Option Addr) (n c : Nat) (dl b : Int) (hk : k.size ≤ 140737488355328) (hn : n ≤ 140737488355328) (er : Int) (E : errOf k.size n b = er) (he0 : (er == 0) = false) :
    Calls Tryz.prog 11 #[dPtr d, .agg #[.string k, .slice a n c, .int .u64 dl, .int .u64 b]] w (dins0 w er) := by
  obtain ⟨q, p, sv, Dl, h1, h2, h3⟩ := h
  have hp0 : Pure w (w.alloc (.cells #[.string k, .slice a n c, .int .u64 dl, .int .u64 b] 42)) := (Mod.refl _ w).alloc _
  have z3 := heap_new (w := w) (o := .cells #[.string k, .slice a n c, .int .u64 dl, .int .u64 b] 42 (0, 0)) rfl
  have HP := Lib.hid hp0
  have HZ := Lib.hid (dzero_ok (h1.pure hp0))
  have HN := Lib.hid (fun W => entry_New_err k a n c dl b W hk hn er E he0)
  clear h1 h2 h3 hp0 E hk hn
  have hne : er ≠ 0 := by simpa using he0
  go_enter Tryz.func11, Tryz.ntmps11
  go_upto_region 1 with fail
  generalize w.alloc (.cells #[.string k, .slice a n c, .int .u64 dl, .int .u64 b] 42) = W1 at *
  generalize w.heap.size = b3 at *
  have z3_0 := cell_of_row _ _ 0 _ _ _ z3; have z3_1 := cell_of_row _ _ 1 _ _ _ z3; have z3_2 := cell_of_row _ _ 2 _ _ _ z3; have z3_3 := cell_of_row _ _ 3 _ _ _ z3; have z3_f := (fun j => frozen_of_row _ _ j _ _ z3); have z3_l := lt_of_block z3; simp at z3_0 z3_1 z3_2 z3_3; have H_z3 := Lib.hid z3; clear z3
  go_upto_region 4 with (first
    | (go_at_call 48; refine Calls.mono HZ.out ?_; rintro e w' ⟨rfl, rfl⟩)
    | (go_at_call 49; refine Calls.mono (HN.out _) ?_; rintro e w2 ⟨rfl, hp2⟩))
  have hpo : Pure w2 (w2.alloc (.cells #[.string ⟨#[]⟩, .slice none 0 0, .int .u64 0, .int .u64 0] 42)) := (Mod.refl _ w2).alloc _
  replace HP := Lib.hid ((HP.out.trans hp2).trans hpo)
  clear hp2 hpo HN HZ
  go_wp2
  go_ret2
  exact ⟨rfl, HP.out⟩

/-! ### a dictionary that was made since w -/
def DG (w W : World) (d seed : Nat) (same : Bool) (L : List (Option Ent)) (Gs : List Grp) : Prop := ∃ D, DictAt W D d seed same L Gs ∧ Pure w W ∧ ∀ k, D k → w.heap.size ≤ k
end
section
variable {w W W' : World} {d seed : Nat} {same : Bool} {L : List (Option Ent)} {Gs : List Grp}
theorem DG.pu (h : DG w W d seed same L Gs) : Pure w W := by obtain ⟨D, h1, h2, h3⟩ := h; exact h2
theorem DG.pure (h : DG w W d seed same L Gs) (hp : Pure W W') : DG w W' d seed same L Gs := by
  obtain ⟨D, h1, h2, h3⟩ := h
  exact ⟨D, h1.pure hp, h2.trans hp, h3⟩
theorem newG' (seed : Nat) (same : Bool) (hs : seed < 18446744073709551616) (h : Pure w W) : Calls Tryz.prog 8 #[.agg #[.int .u64 seed, .bool same]] W fun e w' => ∃ d, e = .returned (dPtr d) ∧ DG w w' d seed same [] (newG 1) ∧ Pure W w' := by
  refine Calls.mono (dnew_ok seed same hs W) ?_
  rintro e w' ⟨d, D, rfl, h1, h2, h3⟩
  exact ⟨d, rfl, ⟨D, h1, h.trans h2, fun k hk => Nat.le_trans h.size (h3 k hk)⟩, h2⟩
theorem DG.step {D D' : Nat → Prop} {L2 : List (Option Ent)} {G2 : List Grp} (h2 : Pure w W) (h3 : ∀ k, D k → w.heap.size ≤ k) (g1 : DictAt W' D' d seed same L2 G2) (g2 : Mod D W W') (g3 : Grew D D' W) : DG w W' d seed same L2 G2 :=
  ⟨D', g1, h2.then g2 (fun i hi e => by have := h3 i e; omega), fun k hk => by
    rcases g3 k hk with e | e
    · exact h3 k e
    · exact Nat.le_trans h2.size e⟩
end
end Go.Proofs.YtapplindfijngaaGreat

/- law10: inserts, finds, sizes; known. -/
namespace Go.Proofs.YtapplindfijngaaGreat
open Go.RowKit Go.Shelf
set_option maxRecDepth 100000
attribute [local go_sem] Oper.semAt_some
theorem LogAt.celled {w : World} {D : Nat → Prop} {p : Nat} {L : List (Option Ent)} (h : LogAt w D p L) {k : Nat} (hk : D k) : ∃ cs T fz, w.heap[k]? = some (.cells cs T fz) := by
  obtain ⟨sv, M, rfl, h⟩ := h
  rcases (h.dd k).1 hk with rfl | e
  · exact ⟨_, _, _, h.box⟩
  · obtain ⟨c, e2⟩ := owns_type h.row e; exact ⟨_, _, _, e2⟩
theorem DictAt.celled {w : World} {D : Nat → Prop} {d seed : Nat} {same : Bool} {L : List (Option Ent)} {Gs : List Grp} (h : DictAt w D d seed same L Gs) {k : Nat} (hk : D k) : ∃ cs T fz, w.heap[k]? = some (.cells cs T fz) := by
  obtain ⟨q, p, sv, Dl, h1, h2, h3⟩ := h
  rcases (h3 k).1 hk with rfl | e | rfl | e
  · exact ⟨_, _, _, h1.box⟩
  · exact h1.log.celled e
  · exact ⟨_, _, _, h1.ix.box⟩
  · obtain ⟨c, e2⟩ := owns_type h1.ix.row e; exact ⟨_, _, _, e2⟩
/-- Blocks that are no dictionary's keep. -/
def OKeep (W W' : World) : Prop := ∀ (k : Nat) (o : Obj), W.heap[k]? = some o → (∀ (cs : Array Value) (T : TypeId) (fz : Nat × Nat), o = .cells cs T fz → T ≠ 107 ∧ T ≠ 131 ∧ T ≠ 42 ∧ T ≠ 164 ∧ T ≠ 168) → W'.heap[k]? = some o
theorem OKeep.of {W W' : World} {D : Nat → Prop} {d seed : Nat} {same : Bool} {L : List (Option Ent)} {Gs : List Grp} (h : DictAt W D d seed same L Gs) (hm : Mod D W W') : OKeep W W' := fun k o hk ht => by
  refine hm.heap (fun e => ?_) hk
  obtain ⟨cs, T, fz, hc⟩ := h.celled e
  rw [hk] at hc
  have := ht cs T fz (Option.some.inj hc)
  rcases h.types e (hk.trans hc) with e | e | e | e | e
  · exact this.1 e
  · exact this.2.1 e
  · exact this.2.2.1 e
  · exact this.2.2.2.1 e
  · exact this.2.2.2.2 e
section
variable {w W W' : World} {d seed : Nat} {same : Bool} {L : List (Option Ent)} {Gs : List Grp}
theorem inserts_ok (h : DG w W d seed same L Gs) (key : ByteArray) (hok : (Ent.mk key [] 0 1).Ok) (hL : L.length < 4194304) (hf : findK L key = none) (want : Int) (hw : (L.length : Int) = want) :
    Calls Tryz.prog 43 #[dPtr d, .string key, .int .u32 want] W fun e w' => e = .returned (.bool true) ∧ DG w w' d seed same (L ++ [some ⟨key, [], 0, 1⟩]) (putM (sumL seed same (L ++ [some ⟨key, [], 0, 1⟩])) Gs L.length) ∧ OKeep W w' := by
  subst hw
  obtain ⟨D, h1, h2, h3⟩ := h
  have HI := Lib.hid (dins_ok h1 ⟨key, [], 0, 1⟩ hok hL hf none 0 0 (ReadAt.nil _ _))
  have HP := Lib.hid h2; have HD := Lib.hid h3; have H1 := Lib.hid h1
  dsimp only at HI
  clear h1 h2 h3 hok hL hf
  go_enter Tryz.func43, Tryz.ntmps43
  go_wp2_with (go_at_call 11; refine Calls.mono HI.out ?_; rintro e w1 ⟨rfl, D', hd, hm, hg⟩)
  go_ret
  exact ⟨rfl, DG.step HP.out HD.out hd hm hg, OKeep.of H1.out hm⟩
theorem finds10_ok (h : DG w W d seed same L Gs) (key : ByteArray) (hkey : key.size ≤ 140737488355328) (want no : Int) (h0 : 0 ≤ want ∧ 0 ≤ no) (hv : findV L key = (want.toNat, no.toNat)) :
    Calls Tryz.prog 44 #[dPtr d, .string key, .int .u32 want, .int .i64 no] W fun e w' => e = .returned (.bool true) ∧ Pure W w' := by
  obtain ⟨D, h1, h2, h3⟩ := h
  obtain ⟨want, rfl⟩ := Int.eq_ofNat_of_zero_le h0.1
  obtain ⟨no, rfl⟩ := Int.eq_ofNat_of_zero_le h0.2
  have HI := Lib.hid (Find_any h1 key hkey)
  unfold dfindPost at HI
  rw [hv] at HI
  simp only [Int.toNat_natCast] at HI
  clear h1 h2 h3 hv h0
  go_enter Tryz.func44, Tryz.ntmps44
  go_wp2_with (go_at_call 42; refine Calls.mono HI.out ?_; rintro e w1 ⟨rfl, hp⟩)
  go_ret
  exact ⟨by simp, hp⟩
theorem sizes10_ok (h : DG w W d seed same L Gs) (a b c : Int) (ha : (L.length : Int) = a) (hb : (Gs.length : Int) = b) (hc : (tombN Gs : Int) = c) :
    Calls Tryz.prog 13 #[dPtr d, .int .i64 a, .int .i64 b, .int .i64 c] W fun e w' => e = .returned (.bool true) ∧ Pure W w' := by
  subst ha hb hc
  obtain ⟨D, h1, h2, h3⟩ := h
  have HI := Lib.hid (dsizes_ok h1)
  clear h1 h2 h3
  go_enter Tryz.func13, Tryz.ntmps13
  go_wp2_with (go_at_call 41; refine Calls.mono HI.out ?_; rintro e w1 ⟨rfl, hp⟩)
  go_ret
  exact ⟨by simp, hp⟩
theorem len10_ok (h : DG w W d seed same L Gs) (n : Int) (hn : (liveOf L : Int) = n) : Calls Tryz.prog 19 #[dPtr d] W fun e w' => e = .returned (.int .i64 n) ∧ W = w' := by
  subst hn
  obtain ⟨D, h1, h2, h3⟩ := h
  exact dlen_ok h1
end
end Go.Proofs.YtapplindfijngaaGreat

/- A dictionary and the reference's, side by side: what one's calls leave of the other. -/
namespace Go.Proofs.YtapplindfijngaaGreat
open Go.RowKit Go.Shelf
set_option maxRecDepth 100000

theorem RefD.dmod {W W' : World} {D : Nat → Prop} {d seed : Nat} {same : Bool} {L : List (Option Ent)} {Gs Gr : List Grp} {r : RA} {Q : List RQ} (h : RefD W r Q Gr) (hd : DictAt W D d seed same L Gs) (hm : Mod D W W') (hn : ∀ k, (Value.slice r.aL Q.length r.cL).ownBlock = some k → ¬ D k) : RefD W' r Q Gr := by
  have ht : ∀ i, D i → i < W.heap.size → ∃ cs T fz, W.heap[i]? = some (.cells cs T fz) ∧ T ≠ 4 ∧ T ≠ 5 ∧ T ≠ 43 := fun i hi _ => by
    obtain ⟨cs, T, fz, e⟩ := hd.celled hi
    refine ⟨cs, T, fz, e, ?_⟩
    rcases hd.types hi e with rfl | rfl | rfl | rfl | rfl <;> decide
  exact ⟨⟨owns_mod h.l.L hm (fun k hk e => hn k hk e), owns_modT h.l.G hm (fun i hi hl => by obtain ⟨cs, T, fz, e, h1, _⟩ := ht i hi hl; exact ⟨cs, T, fz, e, h1⟩),
    fun q hq => owns_modT (h.l.vals q hq) hm (fun i hi hl => by obtain ⟨cs, T, fz, e, _, h1, _⟩ := ht i hi hl; exact ⟨cs, T, fz, e, h1⟩), h.l.ok, h.l.len⟩,
    h.x.modT hm (fun i hi hl => by obtain ⟨cs, T, fz, e, _, h1⟩ := ht i hi hl; exact ⟨cs, T, fz, e, h1⟩)⟩
/-- The dictionary of the entries L in block d (made since w), the reference's of Q, and blocks E that neither holds. -/
def DR (w W : World) (d seed : Nat) (same : Bool) (L : List (Option Ent)) (Gs : List Grp) (r : RA) (Q : List RQ) (Gr : List Grp) (E : Nat → Prop) : Prop :=
  ∃ D, DictAt W D d seed same L Gs ∧ Pure w W ∧ (∀ k, D k → w.heap.size ≤ k) ∧ RefD W r Q Gr ∧ (∀ k, (Value.slice r.aL Q.length r.cL).ownBlock = some k → ¬ D k) ∧ ∀ k, E k → ¬ D k ∧ k < W.heap.size
section
variable {w W W' : World} {d seed : Nat} {same : Bool} {L : List (Option Ent)} {Gs Gr : List Grp} {r : RA} {Q : List RQ} {E : Nat → Prop}
theorem DR.pure (h : DR w W d seed same L Gs r Q Gr E) (hp : Pure W W') : DR w W' d seed same L Gs r Q Gr E := by
  obtain ⟨D, h1, h2, h3, h4, h5, h6⟩ := h
  exact ⟨D, h1.pure hp, h2.trans hp, h3, h4.pure hp, h5, fun k hk => ⟨(h6 k hk).1, hp.lt (h6 k hk).2⟩⟩
theorem DR.pu (h : DR w W d seed same L Gs r Q Gr E) : Pure w W := by obtain ⟨D, h1, h2, _⟩ := h; exact h2
theorem DR.rf (h : DR w W d seed same L Gs r Q Gr E) : RefD W r Q Gr := by obtain ⟨D, _, _, _, h4, _⟩ := h; exact h4
theorem DR.keeps (h : DR w W d seed same L Gs r Q Gr E) : Keeps seed same L Gs := by obtain ⟨D, h1, _⟩ := h; exact h1.keeps
theorem DR.ok (h : DR w W d seed same L Gs r Q Gr E) : LogOk L := by obtain ⟨D, h1, _⟩ := h; exact h1.ok
theorem DR.dg (h : DR w W d seed same L Gs r Q Gr E) : DG w W d seed same L Gs := by obtain ⟨D, h1, h2, h3, _⟩ := h; exact ⟨D, h1, h2, h3⟩
theorem DR.drop (h : DR w W d seed same L Gs r Q Gr E) {E' : Nat → Prop} (he : ∀ k, E' k → E k) : DR w W d seed same L Gs r Q Gr E' := by
  obtain ⟨D, h1, h2, h3, h4, h5, h6⟩ := h
  exact ⟨D, h1, h2, h3, h4, h5, fun k hk => h6 k (he k hk)⟩
theorem DR.one (h : DR w W d seed same L Gs r Q Gr E) (hp : Pure W W') {b : Nat} (h1 : W.heap.size ≤ b) (h2 : b < W'.heap.size) : DR w W' d seed same L Gs r Q Gr (fun k => k = b) := by
  obtain ⟨D, g1, g2, g3, g4, g5, g6⟩ := h
  exact ⟨D, g1.pure hp, g2.trans hp, g3, g4.pure hp, g5, fun k hk => by subst hk; exact ⟨fun e => by have := g1.lt e; omega, h2⟩⟩
theorem DR.step {D D' : Nat → Prop} {L2 : List (Option Ent)} {G2 : List Grp} (h1 : DictAt W D d seed same L Gs) (h2 : Pure w W) (h3 : ∀ k, D k → w.heap.size ≤ k) (h4 : RefD W r Q Gr) (h5 : ∀ k, (Value.slice r.aL Q.length r.cL).ownBlock = some k → ¬ D k) (h6 : ∀ k, E k → ¬ D k ∧ k < W.heap.size)
    (g1 : DictAt W' D' d seed same L2 G2) (g2 : Mod D W W') (g3 : Grew D D' W) : DR w W' d seed same L2 G2 r Q Gr E ∧ OKeep W W' ∧ ∀ k o, E k → W.heap[k]? = some o → W'.heap[k]? = some o := by
  refine ⟨⟨D', g1, h2.then g2 (fun i hi e => by have := h3 i e; omega), fun k hk => ?_, h4.dmod h1 g2 h5, fun k hk e => ?_, fun k hk => ⟨fun e => ?_, Nat.lt_of_lt_of_le (h6 k hk).2 g2.size⟩⟩, OKeep.of h1 g2, fun k o hk ho => g2.heap (h6 k hk).1 ho⟩
  · rcases g3 k hk with e | e
    · exact h3 k e
    · exact Nat.le_trans h2.size e
  · rcases g3 k e with e | e
    · exact h5 k hk e
    · have := owns_lt h4.l.L hk; omega
  · rcases g3 k e with e | e
    · exact (h6 k hk).1 e
    · have := (h6 k hk).2; omega
theorem insR (h : DR w W d seed same L Gs r Q Gr E) (x : Ent) (hok : x.Ok) (hL : L.length < 4194304) (hf : findK L x.key = none) (a : Option Addr) (n c : Nat) (hx : ReadAt W (.slice a n c) 1 (bytesOf x.val)) :
    Calls Tryz.prog 11 #[dPtr d, .agg #[.string x.key, .slice a n c, .int .u64 x.dl, .int .u64 x.birth]] W fun e w' => e = .returned (.tuple #[.int .u32 L.length, .int .i64 0]) ∧
      DR w w' d seed same (L ++ [some x]) (putM (sumL seed same (L ++ [some x])) Gs L.length) r Q Gr E ∧ OKeep W w' ∧ ∀ k o, E k → W.heap[k]? = some o → w'.heap[k]? = some o := by
  obtain ⟨D, h1, h2, h3, h4, h5, h6⟩ := h
  refine Calls.mono (dins_ok h1 x hok hL hf a n c hx) ?_
  rintro e w' ⟨rfl, D', g1, g2, g3⟩
  exact ⟨rfl, DR.step h1 h2 h3 h4 h5 h6 g1 g2 g3⟩
theorem remR (h : DR w W d seed same L Gs r Q Gr E) {s : Nat} {x : Ent} (hx : L[s]? = some (some x)) :
    Calls Tryz.prog 16 #[dPtr d, .int .u32 s] W fun e w' => ∃ a n c, e = .returned (.tuple #[.agg #[.string x.key, .slice a n c, .int .u64 x.dl, .int .u64 x.birth], .int .i64 0]) ∧ BytesAt w' (.slice a n c) (bytesOf x.val) ∧ Fresh W (.slice a n c) ∧
      DR w w' d seed same (L.set s none) (remM (sumL seed same L) (sumL seed same (L.set s none)) Gs s) r Q Gr E ∧ OKeep W w' ∧ ∀ k o, E k → W.heap[k]? = some o → w'.heap[k]? = some o := by
  obtain ⟨D, h1, h2, h3, h4, h5, h6⟩ := h
  refine Calls.mono (drem_ok h1 hx) ?_
  rintro e w' ⟨a, n, c, rfl, hb, hf, D', g1, g2, g3⟩
  exact ⟨a, n, c, rfl, hb, hf, DR.step h1 h2 h3 h4 h5 h6 g1 g2 g3⟩
theorem remR0 (h : DR w W d seed same L Gs r Q Gr E) {s : Nat} (hs : s ≤ 4294967295) (hx : hasL L s = false) : Calls Tryz.prog 16 #[dPtr d, .int .u32 s] W (drem0 W) := by
  obtain ⟨D, h1, _⟩ := h
  exact drem_miss h1 hs hx
theorem DR.refStep {r' : RA} {Q' : List RQ} {G' : List Grp} (h : DR w W d seed same L Gs r Q Gr E) (hp : Pure W W') (hr : RefD W' r' Q' G') (hf : Fresh W (.slice r'.aL Q'.length r'.cL)) : DR w W' d seed same L Gs r' Q' G' E := by
  obtain ⟨D, h1, h2, h3, h4, h5, h6⟩ := h
  exact ⟨D, h1.pure hp, h2.trans hp, h3, hr, fun k hk e => by have := hf k hk; have := h1.lt e; omega, fun k hk => ⟨(h6 k hk).1, hp.lt (h6 k hk).2⟩⟩
theorem rinsR (h : DR w W d seed same L Gs r Q Gr E) (hk : Keeps seed same (slotsR (Q.map absQ)) Gr) (x : Ent) (hok : x.Ok) (hQ : Q.length < 4194304) (hf : findK (slotsR (Q.map absQ)) x.key = none) (a : Option Addr) (n c : Nat) (hx : ReadAt W (.slice a n c) 1 (bytesOf x.val)) :
    Calls Tryz.prog 12 #[rdV seed same r Q.length (8 * Gr.length), .agg #[.string x.key, .slice a n c, .int .u64 x.dl, .int .u64 x.birth]] W fun e w' => ∃ r' Q',
      e = .returned (.tuple #[rdV seed same r' Q'.length (8 * (putM (sumL seed same (slotsR (Q.map absQ) ++ [some x])) Gr Q.length).length), .int .u32 Q.length, .int .i64 0]) ∧ Q'.map absQ = Q.map absQ ++ [(x, false)] ∧
      DR w w' d seed same L Gs r' Q' (putM (sumL seed same (slotsR (Q.map absQ) ++ [some x])) Gr Q.length) E ∧ Pure W w' := by
  have hsd : seed < 18446744073709551616 := by obtain ⟨D, h1, _⟩ := h; exact h1.sd
  refine Calls.mono (rdins_ok h.rf seed same hsd hk x hok hQ hf a n c hx) ?_
  rintro e w' ⟨r', Q', rfl, e1, e2, e3, e4⟩
  exact ⟨r', Q', rfl, e1, h.refStep e4 e2 e3, e4⟩
theorem rremR (h : DR w W d seed same L Gs r Q Gr E) (hk : Keeps seed same (slotsR (Q.map absQ)) Gr) {s : Nat} {x : Ent} {v : Value} (hx : Q[s]? = some (x, v, false)) :
    Calls Tryz.prog 17 #[rdV seed same r Q.length (8 * Gr.length), .int .u32 s] W fun e w' => ∃ r' Q',
      e = .returned (.tuple #[rdV seed same r' Q'.length (8 * (remM (sumL seed same (slotsR (Q.map absQ))) (sumL seed same ((slotsR (Q.map absQ)).set s none)) Gr s).length), .agg #[.string x.key, v, .int .u64 x.dl, .int .u64 x.birth], .int .i64 0]) ∧ Q'.map absQ = (Q.map absQ).set s (x, true) ∧
      DR w w' d seed same L Gs r' Q' (remM (sumL seed same (slotsR (Q.map absQ))) (sumL seed same ((slotsR (Q.map absQ)).set s none)) Gr s) E ∧ Pure W w' := by
  have hsd : seed < 18446744073709551616 := by obtain ⟨D, h1, _⟩ := h; exact h1.sd
  refine Calls.mono (rdrem_ok h.rf seed same hsd hk hx) ?_
  rintro e w' ⟨r', Q', rfl, e1, e2, e3, e4⟩
  exact ⟨r', Q', rfl, e1, h.refStep e4 e2 e3, e4⟩
theorem hasQ_L (Q : List RQ) (s : Nat) : hasQ Q s = hasL (slotsR (Q.map absQ)) s := by
  rw [Bool.eq_iff_iff, hasL_iff]
  constructor
  · intro hh
    unfold hasQ at hh
    split at hh
    · rename_i q hq
      obtain ⟨x, v, g⟩ := q
      simp at hh; subst hh
      exact ⟨x, by unfold slotsR; rw [List.getElem?_map, List.getElem?_map, hq]; rfl⟩
    · cases hh
  · intro hh
    obtain ⟨x, v, hq⟩ := slots_get hh
    unfold hasQ; rw [hq]; rfl
theorem liveQ_L (Q : List RQ) : liveQ Q = liveOf (slotsR (Q.map absQ)) := by
  unfold liveQ liveOf slotsR
  rw [List.countP_map, List.countP_map]
  refine List.countP_congr (fun q _ => ?_)
  obtain ⟨x, v, g⟩ := q
  cases g <;> simp [absQ]
/-- The first call of both. -/
theorem newR (seed : Nat) (same : Bool) (hsd : seed < 18446744073709551616) (hp : Pure w W) {D : Nat → Prop} (h1 : DictAt W D d seed same [] (newG 1)) (h3 : ∀ k, D k → w.heap.size ≤ k) :
    Calls Tryz.prog 10 #[.int .u64 seed, .bool same] W fun e w' => ∃ r, e = .returned (rdV seed same r 0 (8 * (newG 1).length)) ∧ DR w w' d seed same [] (newG 1) r [] (newG 1) (fun _ => False) ∧ Pure W w' := by
  refine Calls.mono (rdNew_ok seed same W) ?_
  rintro e w' ⟨r, rfl, h5, h6, h7⟩
  refine ⟨r, rfl, ⟨D, h1.pure h7, hp.trans h7, h3, h5, fun k hk => ?_, fun _ h => h.elim⟩, h7⟩
  rw [h6] at hk; cases hk
end
end Go.Proofs.YtapplindfijngaaGreat

/- Remove of a dictionary and of the reference's, whether or not there is an entry. -/
namespace Go.Proofs.YtapplindfijngaaGreat
open Go.RowKit Go.Shelf
set_option maxRecDepth 100000

theorem slots_at {Q : List RQ} {s : Nat} {x : Ent} (h : (slotsR (Q.map absQ))[s]? = some (some x)) : ∃ v, Q[s]? = some (x, v, false) := by
  obtain ⟨x', v, hq⟩ := slots_get ⟨x, h⟩
  unfold slotsR at h
  rw [List.getElem?_map, List.getElem?_map, hq] at h
  simp [absQ] at h
  subst h
  exact ⟨v, hq⟩
theorem set_none {L : List (Option Ent)} {s : Nat} (h : hasL L s = false) : L.set s none = L := by
  by_cases hs : s < L.length
  · refine List.ext_getElem? (fun i => ?_)
    by_cases hi : s = i
    · subst hi
      rw [List.getElem?_set_self hs, List.getElem?_eq_getElem hs]
      cases he : L[s] with
      | none => rfl
      | some x => unfold hasL at h; rw [List.getElem?_eq_getElem hs, he] at h; cases h
    · rw [List.getElem?_set_ne hi]
  · exact List.set_eq_of_length_le (by omega)
abbrev zE : Ent := ⟨⟨#[]⟩, [], 0, 0⟩
/-- What Remove returns, and what is left of the index. -/
def remX (L : List (Option Ent)) (s : Nat) : Ent × Nat := match L[s]? with
  | some (some x) => (x, 0)
  | _ => (zE, 9)
def remG (seed : Nat) (same : Bool) (L : List (Option Ent)) (Gs : List Grp) (s : Nat) : List Grp := if hasL L s = true then remM (sumL seed same L) (sumL seed same (L.set s none)) Gs s else Gs
theorem remX_hit {L : List (Option Ent)} {s : Nat} {x : Ent} (h : L[s]? = some (some x)) : remX L s = (x, 0) := by unfold remX; rw [h]
theorem remX_miss {L : List (Option Ent)} {s : Nat} (h : hasL L s = false) : remX L s = (zE, 9) := by
  unfold remX
  unfold hasL at h
  split at h
  · cases h
  · split
    · rename_i h1 _ _ h2; exact absurd h2 (h1 _)
    · rfl
section
variable {w W W' : World} {d seed : Nat} {same : Bool} {L : List (Option Ent)} {Gs Gr : List Grp} {r : RA} {Q : List RQ} {E : Nat → Prop}
theorem remX_ok (h : DR w W d seed same L Gs r Q Gr E) {s : Nat} (hs : s ≤ 4294967295) :
    Calls Tryz.prog 16 #[dPtr d, .int .u32 s] W fun e w' => ∃ a n c, e = .returned (.tuple #[.agg #[.string (remX L s).1.key, .slice a n c, .int .u64 (remX L s).1.dl, .int .u64 (remX L s).1.birth], .int .i64 ((remX L s).2 : Nat)]) ∧ BytesAt w' (.slice a n c) (bytesOf (remX L s).1.val) ∧ Fresh W (.slice a n c) ∧
      DR w w' d seed same (L.set s none) (remG seed same L Gs s) r Q Gr E ∧ OKeep W w' ∧ ∀ k o, E k → W.heap[k]? = some o → w'.heap[k]? = some o := by
  by_cases hh : hasL L s = true
  · obtain ⟨x, hx⟩ := hasL_iff.1 hh
    rw [remX_hit hx, remG, if_pos hh]
    exact remR h hx
  · rw [Bool.not_eq_true] at hh
    rw [remX_miss hh, remG, if_neg (by rw [hh]; decide), set_none hh]
    refine Calls.mono (remR0 h hs hh) ?_
    rintro e w' ⟨rfl, hp⟩
    exact ⟨none, 0, 0, rfl, World.ownsRow_nil _ _ _ _, (fun g hg => by cases hg), h.pure hp, fun k o hk _ => hp.heap (fun h => h) hk, fun k o _ hk => hp.heap (fun h => h) hk⟩
theorem rremX_ok (h : DR w W d seed same L Gs r Q Gr E) (hk : Keeps seed same (slotsR (Q.map absQ)) Gr) {s : Nat} (hs : s ≤ 4294967295) :
    Calls Tryz.prog 17 #[rdV seed same r Q.length (8 * Gr.length), .int .u32 s] W fun e w' => ∃ r' Q' a n c,
      e = .returned (.tuple #[rdV seed same r' Q'.length (8 * (remG seed same (slotsR (Q.map absQ)) Gr s).length), .agg #[.string (remX (slotsR (Q.map absQ)) s).1.key, .slice a n c, .int .u64 (remX (slotsR (Q.map absQ)) s).1.dl, .int .u64 (remX (slotsR (Q.map absQ)) s).1.birth], .int .i64 ((remX (slotsR (Q.map absQ)) s).2 : Nat)]) ∧
      BytesAt w' (.slice a n c) (bytesOf (remX (slotsR (Q.map absQ)) s).1.val) ∧ slotsR (Q'.map absQ) = (slotsR (Q.map absQ)).set s none ∧
      DR w w' d seed same L Gs r' Q' (remG seed same (slotsR (Q.map absQ)) Gr s) E ∧ Pure W w' := by
  by_cases hh : hasL (slotsR (Q.map absQ)) s = true
  · obtain ⟨x, hx⟩ := hasL_iff.1 hh
    obtain ⟨v, hq⟩ := slots_at hx
    have hv := h.rf.l.vals _ (List.mem_of_getElem? hq)
    dsimp only at hv
    obtain ⟨a, c, rfl, _⟩ := owns_form hv
    rw [remX_hit hx, remG, if_pos hh]
    refine Calls.mono (rremR h hk hq) ?_
    rintro e w' ⟨r', Q', rfl, e1, e2, e3⟩
    exact ⟨r', Q', _, _, _, rfl, owns_mod hv e3 (fun _ _ h => h), by rw [e1, slotsR_set], e2, e3⟩
  · rw [Bool.not_eq_true] at hh
    rw [remX_miss hh, remG, if_neg (by rw [hh]; decide), set_none hh]
    refine Calls.mono (rdrem_miss h.rf seed same hs ((hasQ_L Q s).trans hh) (8 * Gr.length)) ?_
    rintro e w' ⟨rfl, hp⟩
    exact ⟨r, Q, none, 0, 0, rfl, World.ownsRow_nil _ _ _ _, rfl, h.pure hp, hp⟩
theorem remX_ok' (hL : LogOk L) (s : Nat) : (remX L s).1.val.length ≤ 65536 := by
  unfold remX
  split
  · rename_i x hx
    have := (hL.ent x (List.mem_of_getElem? hx)).v1
    exact this
  · show 0 ≤ 65536; omega
theorem DR.put6 (h : DR w W d seed same L Gs r Q Gr E) {b : Nat} (hb : w.heap.size ≤ b) {cs : Array Value} {fz : Nat × Nat} (he : W.heap[b]? = some (.cells cs 38 fz)) (hm : Mod (fun k => k = b) W W') : DR w W' d seed same L Gs r Q Gr E := by
  obtain ⟨D, h1, h2, h3, h4, h5, h6⟩ := h
  refine ⟨D, h1.frame hm (fun k hk e => ?_) (fun k _ e cs fz e2 => ?_), h2.then hm (fun i hi e => by omega), h3, h4.modX hm (fun i hi _ => by subst hi; exact ⟨_, _, _, he, by decide, by decide, by decide, by decide⟩), h5, fun k hk => ⟨(h6 k hk).1, Nat.lt_of_lt_of_le (h6 k hk).2 hm.size⟩⟩
  · subst e
    rcases h1.types hk he with e | e | e | e | e <;> cases e
  · subst e; rw [he] at e2; cases e2
end
end Go.Proofs.YtapplindfijngaaGreat

/- Append and Remove of a log and of the reference's, of any entry and slot number. Conditions: values are read as bytes, the lengths are small. -/
namespace Go.Proofs.YtapplindfijngaaGreat
open Go.RowKit Go.Shelf
set_option maxRecDepth 100000

def appR (R : List (Ent × Bool)) (x : Ent) : List (Ent × Bool) := if noE x = 0 then R ++ [(x, false)] else R
theorem appR_length (R : List (Ent × Bool)) (x : Ent) : (appR R x).length ≤ R.length + 1 := by
  unfold appR; split <;> simp
theorem appX_ok {w : World} {D : Nat → Prop} {p : Nat} {R : List (Ent × Bool)} (h : LogAt w D p (slotsR R)) (hR : R.length < 4194304) (x : Ent) (hb : 0 ≤ x.birth) (hk : x.key.size ≤ 140737488355328) (a : Option Addr) (n c : Nat) (hx : ReadAt w (.slice a n c) 1 (bytesOf x.val)) (hn : n ≤ 140737488355328) :
    Calls Tryz.prog 22 #[logPtr p, .agg #[.string x.key, .slice a n c, .int .u64 x.dl, .int .u64 x.birth]] w fun e w' => ∃ (s : Nat) (D' : Nat → Prop), e = .returned (.tuple #[.int .u32 s, .int .i64 (noE x)]) ∧ LogAt w' D' p (slotsR (appR R x)) ∧ Mod D w w' ∧ Grew D D' w := by
  by_cases hz : noE x = 0
  · have hok := noE_ok hz hb
    refine Calls.mono (appendA_ok h (by rw [slotsR_length]; exact hR) x hok a n c hx) ?_
    rintro e w' ⟨rfl, D', h1, h2, h3⟩
    exact ⟨_, D', by rw [hz], by unfold appR; rw [if_pos hz, slotsR_snoc]; exact h1, h2, h3⟩
  · have hn' : x.val.length = n := by have := read_length hx; rw [bytesOf_length] at this; omega
    refine Calls.mono (Append_err h x.key a n c x.dl x.birth hk hn (noE x) (by unfold noE; rw [hn']) (by simpa using hz)) ?_
    rintro e w' ⟨rfl, hp⟩
    exact ⟨0, D, rfl, by unfold appR; rw [if_neg hz]; exact h.pure hp, Mod.of_pure hp, fun k hk => .inl hk⟩
theorem rappX_ok {w : World} {aL : Option Addr} {cL : Nat} {aG : Option Addr} {cG m : Nat} {Q : List RQ} (h : RefRow w aL cL aG cG Q) (hm : Q.length = m) (hQ : m < 4194304) (x : Ent) (hb : 0 ≤ x.birth) (hk : x.key.size ≤ 140737488355328) (a : Option Addr) (n c : Nat) (hx : ReadAt w (.slice a n c) 1 (bytesOf x.val)) (hn : n ≤ 140737488355328) :
    Calls Tryz.prog 23 #[.agg #[.slice aL m cL, .slice aG m cG], .agg #[.string x.key, .slice a n c, .int .u64 x.dl, .int .u64 x.birth]] w fun e w' => ∃ aL' cL' aG' cG' Q' m' s,
      e = .returned (.tuple #[.agg #[.slice aL' m' cL', .slice aG' m' cG'], .int .u32 s, .int .i64 (noE x)]) ∧ Q'.length = m' ∧ Q'.map absQ = appR (Q.map absQ) x ∧ RefRow w' aL' cL' aG' cG' Q' ∧
      (∀ g, (Value.slice aL' m' cL').ownBlock = some g → (Value.slice aL m cL).ownBlock = some g ∨ w.heap.size ≤ g) ∧ Pure w w' := by
  by_cases hz : noE x = 0
  · have hok := noE_ok hz hb
    subst hm
    refine Calls.mono (ref_Append h hQ x hok a n c hx) ?_
    rintro e w' ⟨aL', cL', aG', cG', Q', rfl, h1, h2, h3, _, h5⟩
    exact ⟨aL', cL', aG', cG', Q', Q'.length, _, by rw [hz], rfl, by unfold appR; rw [if_pos hz]; exact h1, h2, fun g hg => .inr (h3 g hg), h5⟩
  · have hn' : x.val.length = n := by have := read_length hx; rw [bytesOf_length] at this; omega
    refine Calls.mono (ref_Append_err aL cL aG cG m x.key a n c x.dl x.birth hk hn (noE x) (by unfold noE; rw [hn']) (by simpa using hz)) ?_
    rintro e w' ⟨rfl, hp⟩
    exact ⟨aL, cL, aG, cG, Q, m, 0, rfl, hm, by unfold appR; rw [if_neg hz], h.pure hp, fun g hg => .inl hg, hp⟩
theorem removeX_ok {w : World} {D : Nat → Prop} {p : Nat} {L : List (Option Ent)} (h : LogAt w D p L) (s : Nat) (hs : s ≤ 4294967295) :
    Calls Tryz.prog 24 #[logPtr p, .int .u32 s] w fun e w' => ∃ k a n c d b, e = .returned (.tuple #[.agg #[.string k, .slice a n c, .int .u64 d, .int .u64 b], .int .i64 (noL L s)]) ∧ LogAt w' D p (L.set s none) ∧ Mod D w w' := by
  by_cases hh : hasL L s = true
  · obtain ⟨x, hx⟩ := hasL_iff.1 hh
    refine Calls.mono (removeA_ok h s x hx) ?_
    rintro e w' ⟨a, n, c, rfl, _, _, h1, h2⟩
    exact ⟨_, a, n, c, _, _, by unfold noL; rw [if_pos hh], h1, h2⟩
  · rw [Bool.not_eq_true] at hh
    refine Calls.mono (removeMissA_ok h s hs (fun x hx => by rw [hasL_iff.2 ⟨x, hx⟩] at hh; cases hh)) ?_
    rintro e w' ⟨rfl, hp⟩
    exact ⟨_, none, 0, 0, _, _, by unfold noL; rw [if_neg (by rw [hh]; decide)], by rw [set_none hh]; exact h.pure hp, Mod.of_pure hp⟩
theorem rremoveX_ok {w : World} {aL : Option Addr} {cL : Nat} {aG : Option Addr} {cG m : Nat} {Q : List RQ} (h : RefRow w aL cL aG cG Q) (hm : Q.length = m) (s : Nat) (hs : s ≤ 4294967295) :
    Calls Tryz.prog 25 #[.agg #[.slice aL m cL, .slice aG m cG], .int .u32 s] w fun e w' => ∃ aL' cL' aG' cG' Q' k a n c d b,
      e = .returned (.tuple #[.agg #[.slice aL' m cL', .slice aG' m cG'], .agg #[.string k, .slice a n c, .int .u64 d, .int .u64 b], .int .i64 (noL (slotsR (Q.map absQ)) s)]) ∧ Q'.length = m ∧ slotsR (Q'.map absQ) = (slotsR (Q.map absQ)).set s none ∧ RefRow w' aL' cL' aG' cG' Q' ∧
      (∀ g, (Value.slice aL' m cL').ownBlock = some g → (Value.slice aL m cL).ownBlock = some g ∨ w.heap.size ≤ g) ∧ Pure w w' := by
  subst hm
  by_cases hh : hasL (slotsR (Q.map absQ)) s = true
  · obtain ⟨x, hx⟩ := hasL_iff.1 hh
    obtain ⟨v, hq⟩ := slots_at hx
    have hv := h.vals _ (List.mem_of_getElem? hq)
    dsimp only at hv
    obtain ⟨a, c, rfl, _⟩ := owns_form hv
    refine Calls.mono (ref_Remove_hit h s hs x _ hq) ?_
    rintro e w' ⟨aL', cL', aG', cG', Q', rfl, h1, h2, h3, _, h5⟩
    have hl : Q'.length = Q.length := by have := congrArg List.length h1; simpa using this
    exact ⟨aL', cL', aG', cG', Q', _, a, _, c, _, _, by unfold noL; rw [if_pos hh, hl], hl, by rw [h1, slotsR_set], h2, fun g hg => .inr (h3 g (by rw [hl]; exact hg)), h5⟩
  · rw [Bool.not_eq_true] at hh
    refine Calls.mono (ref_Remove_miss h s hs ((hasQ_L Q s).trans hh)) ?_
    rintro e w' ⟨rfl, hp⟩
    exact ⟨aL, cL, aG, cG, Q, _, none, 0, 0, _, _, by unfold noL; rw [if_neg (by rw [hh]; decide)], rfl, by rw [set_none hh], h.pure hp, fun g hg => .inl hg, hp⟩
/-- The log and the reference's while they are filled. -/
theorem CLs.app {w W W2 X Y : World} {p b : Nat} {D D' : Nat → Prop} {aL : Option Addr} {cL : Nat} {aG : Option Addr} {cG n : Nat} {Q : List RQ} {R' : List (Ent × Bool)} {aL' : Option Addr} {cL' : Nat} {aG' : Option Addr} {cG' n' : Nat} {Q' : List RQ}
    (h : CLs w p b D aL cL aG cG n Q W) (hb : w.heap.size ≤ b) (hl : LogAt W2 D' p (slotsR R')) (hm : Mod D W W2) (hg : Grew D D' W) (hp : Pure W2 X) (hn : Q'.length = n') (hq : Q'.map absQ = R') (hr : RefRow X aL' cL' aG' cG' Q') (hB : W2.heap.size ≤ X.heap.size)
    (ho : ∀ g, (Value.slice aL' n' cL').ownBlock = some g → (Value.slice aL n cL).ownBlock = some g ∨ W2.heap.size ≤ g)
    (hY : (X.setCell ⟨b, 0, none⟩ (.slice aL' n' cL')).setCell ⟨b, 1, none⟩ (.slice aG' n' cG') = Y) : CLs w p b D' aL' cL' aG' cG' n' Q' Y := by
  have r2 := h.log.box hm h.r6 (by decide) (by decide)
  have rX := hp.heap (fun h => h) r2
  have hmY : Mod (fun k => k = b) X Y := by rw [← hY]; exact Mod.set2 b 0 1 _ _
  have hlX := hl.pure hp
  have nD : ¬ D' b := hlX.notin rX (by decide) (by decide)
  refine ⟨((h.pu.then hm (fun i hi e => by have := h.dd i e; omega)).trans hp).then hmY (fun i hi e => by omega), ?_, ?_, ?_, hn, ?_, fun k hk => ?_⟩
  · rw [hq]
    exact hlX.frame hmY (fun k hk e => nD (e ▸ hk)) (fun k _ e cs fz e2 => by subst e; rw [rX] at e2; cases e2)
  · have := heap_set12 (v0 := .slice aL' n' cL') (v1 := .slice aG' n' cG') rX
    rw [hY] at this
    exact this
  · exact ⟨owns_modT hr.L hmY (fun i hi _ => by subst hi; exact ⟨_, _, _, rX, by decide⟩), owns_modT hr.G hmY (fun i hi _ => by subst hi; exact ⟨_, _, _, rX, by decide⟩), fun q hq => owns_modT (hr.vals q hq) hmY (fun i hi _ => by subst hi; exact ⟨_, _, _, rX, by decide⟩), hr.ok, hr.len⟩
  · intro g hgg hd
    have hlt := hl.lt hd
    rcases ho g hgg with e | e
    · rcases hg g hd with e2 | e2
      · exact h.ap g e e2
      · have := owns_lt (h.len ▸ h.ref.L) e
        omega
    · omega
  · rcases hg k hk with e | e
    · exact h.dd k e
    · have := h.pu.size; omega
end Go.Proofs.YtapplindfijngaaGreat

/- dict.Of: the dictionary of a log, or the error. Condition: the log is made. -/
namespace Go.Proofs.YtapplindfijngaaGreat
open Go.RowKit Go.Shelf
set_option maxRecDepth 100000
attribute [local go_sem] Oper.semAt_some

/-! ### the index of some of a log's entries -/
structure Part (seed : Nat) (same : Bool) (L : List (Option Ent)) (S : Nat → Prop) (Gs : List Grp) : Prop where
  holds : Holds (sumL seed same L) S Gs
  sub : ∀ s, S s → liveS L s
  uniq : ∀ s t, S s → S t → keyL L s = keyL L t → s = t
/-- What is found among them. -/
def foundIn (L : List (Option Ent)) (S : Nat → Prop) (key : ByteArray) (r : Nat × Nat) : Prop :=
  (∃ s, S s ∧ keyL L s = key ∧ r = (s, 0)) ∨ ((∀ s, S s → keyL L s ≠ key) ∧ r = (0, 9))
theorem Part.find {seed : Nat} {same : Bool} {L : List (Option Ent)} {S : Nat → Prop} {Gs : List Grp} (h : Part seed same L S Gs) {w w' : World} {D : Nat → Prop} {p : Nat} {sv : Value} {key : ByteArray} {C : TypeId → Prop} {J : List Nat → World → Prop} {e : Ending}
    (hp : IFindPost w D p sv Gs (sumS seed same key) (fun _ s => keyL L s == key) C J e w') : ∃ r, foundIn L S key r ∧ e = .returned (.tuple #[.int .u32 (r.1 : Nat), .int .i64 (r.2 : Nat)]) := by
  obtain ⟨_, _, ⟨a, x, post, h1, h2, h3, h4, h5⟩ | ⟨h1, h2, h3⟩⟩ := hp
  · have hx : x ∈ seenM Gs (sumS seed same key) := by rw [h1]; simp
    have hS := full_slot h.holds hx
    have hk : (keyL L (slotAt Gs x) == key) = true := h3
    exact ⟨(slotAt Gs x, 0), .inl ⟨_, hS, (ba_beq _ _).1 hk, rfl⟩, h4⟩
  · refine ⟨(0, 9), .inr ⟨fun s hs hk => ?_, rfl⟩, h2⟩
    obtain ⟨i, j, hm, hF⟩ := h.holds.find_some (s := s) hs
    have e1 : sumL seed same L s = sumS seed same key := by unfold sumL; rw [hk]
    rw [e1] at hm
    unfold findM at hm
    have hx := List.mem_of_find?_eq_some hm
    have := falses_mem h1 _ (List.mem_map.2 ⟨_, hx, rfl⟩)
    rw [hF.slot, hk, (ba_beq key key).2 rfl] at this
    cases this
theorem part_new (seed : Nat) (same : Bool) (L : List (Option Ent)) : Part seed same L (fun _ => False) (newG 1) :=
  ⟨newG_holds _ ⟨0, by decide, rfl⟩, fun _ h => h.elim, fun _ _ h => h.elim⟩
theorem Part.keeps' {seed : Nat} {same : Bool} {L : List (Option Ent)} {S S' : Nat → Prop} {Gs : List Grp} (h : Part seed same L S Gs) (hS : ∀ s, S s ↔ S' s) : Part seed same L S' Gs :=
  ⟨h.holds.of_iff hS, fun s hs => h.sub s ((hS s).2 hs), fun s t hs ht hk => h.uniq s t ((hS s).2 hs) ((hS t).2 ht) hk⟩
theorem Part.keeps {seed : Nat} {same : Bool} {L : List (Option Ent)} {S : Nat → Prop} {Gs : List Grp} (h : Part seed same L S Gs) (hS : ∀ s, S s ↔ liveS L s) (hu : usedN Gs = liveOf L) : Keeps seed same L Gs :=
  ⟨h.holds.of_iff hS, fun s t e f h1 h2 hk => h.uniq s t ((hS s).2 ⟨e, h1⟩) ((hS t).2 ⟨f, h2⟩) (by rw [keyL_some h1, keyL_some h2, hk]), hu⟩
section
variable {w : World} {d q p : Nat} {sv : Value} {Dl : Nat → Prop} {seed : Nat} {same : Bool} {L : List (Option Ent)} {Gs : List Grp}
def dfindGPost (w : World) (L : List (Option Ent)) (S : Nat → Prop) (key : ByteArray) (e : Ending) (w' : World) : Prop :=
  ∃ r, foundIn L S key r ∧ e = .returned (.tuple #[.int .u32 (r.1 : Nat), .int .i64 (r.2 : Nat)]) ∧ Pure w w'
set_option maxHeartbeats 1000000 in
theorem dfindG_ok {Sx : Nat → Prop} (h : DictMem w d q p sv Dl seed same L Gs) (hk : Part seed same L Sx Gs) (key : ByteArray) (hkey : key.size ≤ 140737488355328) : Calls Tryz.prog 42 #[dPtr d, .string key] w (dfindGPost w L Sx key) := by
  have hp0 : Pure w ((w.alloc (.cells #[.pointer (some ⟨d, 0, none⟩)] 24)).alloc (.cells #[.string key] 9)) := ((Mod.refl _ w).alloc _).alloc _
  have z2 := heap_keep (o := .cells #[.string key] 9) (heap_new (w := w) (o := .cells #[.pointer (some ⟨d, 0, none⟩)] 24 (0, 0)) rfl)
  have z3 := heap_new (w := w.alloc (.cells #[.pointer (some ⟨d, 0, none⟩)] 24)) (o := .cells #[.string key] 9 (0, 0)) (n := w.heap.size + 1) (by simp)
  have HP := Lib.hid hp0
  have HM := Lib.hid (h.pure hp0)
  have HZ := Lib.hid (dzero_ok (h.pure hp0))
  have HSum := Lib.hid (fun W => HSum_ok seed same h.sd key hkey W)
  have hb := (h.pure hp0).box
  have HKE := Lib.hid hk
  have hsl : sumS seed same key < 18446744073709551616 := mixM_lt
  clear h hk hp0
  go_enter Tryz.func42, Tryz.ntmps42
  go_upto_region 1 with fail
  generalize ((w.alloc (.cells #[.pointer (some ⟨d, 0, none⟩)] 24)).alloc (.cells #[.string key] 9)) = W1 at *
  obtain ⟨b, hbe⟩ : ∃ b, w.heap.size = b := ⟨_, rfl⟩
  rw [hbe] at z2 z3 ⊢
  have HB := Lib.hid hbe
  clear hbe
  have HSame := Lib.hid (fun (W : World) (hW : Pure W1 W) => (⟨enters_of Tryz.func100 (by kernel_rfl) rfl, fun pre s W' hs hJ => by
      have := (callsIn_wide (n := 0)).2 (dfind1_ok (HM.out.pure hJ) (hJ.heap (fun h => h) z2) (hJ.heap (fun h => h) z3) s hs)
      exact this.mono (fun e w' ⟨h1, h2⟩ => ⟨h1, hJ.trans h2, ModC.of_pure h2⟩), fun pre A B hJ hm => hJ.then hm (fun i hi hs => by have := hs.1; have := hW.size; omega), fun _ h => h.elim, hW⟩ :
    SameOk Tryz.prog 100 #[.pointer (some ⟨b, 0, none⟩), .pointer (some ⟨b + 1, 0, none⟩)] (fun _ s => keyL L s == key) (fun _ => False) (fun _ W' => Pure W1 W') W))
  have HF := Lib.hid (fun (W : World) (hW : Pure W1 W) => IFind_ok (HM.out.ix.pure hW) _ hsl (HSame.out W hW))
  obtain ⟨hh, hhe⟩ : ∃ hh, sumS seed same key = hh := ⟨_, rfl⟩
  rw [hhe] at HF HSum hsl
  have HHE := Lib.hid hhe
  clear hhe HSame
  have hb_0 := cell_of_row _ _ 0 _ _ _ hb; have hb_1 := cell_of_row _ _ 1 _ _ _ hb; have hb_2 := cell_of_row _ _ 2 _ _ _ hb; have hb_3 := cell_of_row _ _ 3 _ _ _ hb; have hb_f := (fun j => frozen_of_row _ _ j _ _ hb); have hb_l := lt_of_block hb; simp at hb_0 hb_1 hb_2 hb_3; have H_hb := Lib.hid hb; clear hb
  have z2_0 := cell_of_row _ _ 0 _ _ _ z2; have z2_f := (fun j => frozen_of_row _ _ j _ _ z2); have z2_l := lt_of_block z2; simp at z2_0; have H_z2 := Lib.hid z2; clear z2
  have z3_0 := cell_of_row _ _ 0 _ _ _ z3; have z3_f := (fun j => frozen_of_row _ _ j _ _ z3); have z3_l := lt_of_block z3; simp at z3_0; have H_z3 := Lib.hid z3; clear z3
  go_upto_region 3 with (go_at_call 48; refine Calls.mono HZ.out ?_; rintro e w' ⟨rfl, rfl⟩)
  go_region_held3 (fun w' => w'.cell? ⟨d, 3, none⟩ = some (.pointer (some ⟨p, 0, none⟩)) ∧ w'.cell? ⟨d, 1, none⟩ = some (.int .u64 seed) ∧ w'.cell? ⟨d, 2, none⟩ = some (.bool same) ∧ w'.cell? ⟨b, 0, none⟩ = some (.pointer (some ⟨d, 0, none⟩)) ∧ w'.cell? ⟨b + 1, 0, none⟩ = some (.string key))
    (first | exact ⟨hb_3, hb_1, hb_2, z2_0, z3_0⟩ | exact ⟨hp1.cell (fun h => h) hb_3, hp1.cell (fun h => h) hb_1, hp1.cell (fun h => h) hb_2, hp1.cell (fun h => h) z2_0, hp1.cell (fun h => h) z3_0⟩ | exact ⟨(hp1.trans hp2).cell (fun h => h) hb_3, (hp1.trans hp2).cell (fun h => h) hb_1, (hp1.trans hp2).cell (fun h => h) hb_2, (hp1.trans hp2).cell (fun h => h) z2_0, (hp1.trans hp2).cell (fun h => h) z3_0⟩)
    (first
      | (go_at_call 99; refine Calls.mono (HSum.out _) ?_; rintro e w1 ⟨rfl, hp1⟩)
      | (go_at_call 98; refine Calls.mono (HF.out _ (by (repeat' (first | (with_reducible exact Mod.refl _ _) | (with_reducible refine Mod.alloc ?_ _) | (with_reducible refine Mod.drew ?_) | (with_reducible refine Mod.drewN ?_ _) | (with_reducible refine Mod.setCell ?_ ?_ _) | (refine Mod.then ?_ (by with_reducible assumption) ?_))) <;> (all_goals (intros; first | (exfalso; assumption) | omega | (simp at *; done) | (simp at *; omega))))) ?_; rintro e w2 hq; obtain ⟨r, hr, he⟩ := HKE.out.find (by rw [HHE.out]; exact hq); have hp2 : Pure w1 w2 := Mod.mono hq.1 (fun k _ ⟨_, _, _, _, hf⟩ => hf); have HRR := Lib.hid hr; clear hq hr; subst he))
  go_wp2
  all_goals
    go_ret2
    exact ⟨r, HRR.out, rfl, HP.out.trans ((Mod.of_drew hp1).trans hp2)⟩

/-! ### Of -/
theorem liveFrom_up' (L : List (Option Ent)) : ∀ i, ((liveFrom i L).map Prod.fst).Pairwise (· < ·) := by
  induction L with
  | nil => intro i; simp [liveFrom]
  | cons o L ih =>
    intro i
    cases o with
    | none => exact ih (i + 1)
    | some e =>
      simp only [liveFrom, List.map_cons, List.pairwise_cons]
      refine ⟨fun y hy => ?_, ih (i + 1)⟩
      obtain ⟨g, hg, rfl⟩ := List.mem_map.1 hy
      have := (liveFrom_mem hg).1
      omega
theorem live_of {L : List (Option Ent)} : ∀ {i s : Nat} {e : Ent}, L[s]? = some (some e) → (i + s, e) ∈ liveFrom i L := by
  induction L with
  | nil => intro i s e h; simp at h
  | cons o L ih =>
    intro i s e h
    cases s with
    | zero =>
      simp at h; subst h
      simp [liveFrom]
    | succ s =>
      have := ih (i := i + 1) (s := s) (e := e) (by simpa using h)
      rw [show i + 1 + s = i + (s + 1) by omega] at this
      cases o <;> simp [liveFrom, this]
theorem liveOf_live' (L : List (Option Ent)) : ∀ i, (liveFrom i L).length = liveOf L := by
  induction L with
  | nil => intro i; rfl
  | cons o L ih =>
    intro i
    cases o with
    | none => simp only [liveFrom, liveOf, List.countP_cons] at *; simpa using ih (i + 1)
    | some e => simp only [liveFrom, liveOf, List.countP_cons, List.length_cons] at *; simpa using ih (i + 1)
/-- The slot numbers that were gone over; the index of them. -/
def slotsOf (pre : List (Nat × Ent)) (s : Nat) : Prop := s ∈ pre.map Prod.fst
def ofM (seed : Nat) (same : Bool) (L : List (Option Ent)) (pre : List (Nat × Ent)) : List Grp := (pre.map Prod.fst).foldl (putM (sumL seed same L)) (newG 1)
theorem ofM_snoc (seed : Nat) (same : Bool) (L : List (Option Ent)) (pre : List (Nat × Ent)) (g : Nat × Ent) : ofM seed same L (pre ++ [g]) = putM (sumL seed same L) (ofM seed same L pre) g.1 := by
  unfold ofM; rw [List.map_append, List.foldl_append]; rfl
theorem Part.put {L : List (Option Ent)} {pre : List (Nat × Ent)} {g : Nat × Ent} {post : List (Nat × Ent)} (h : Part seed same L (slotsOf pre) (ofM seed same L pre)) (hu : usedN (ofM seed same L pre) = pre.length) (hl : live L = pre ++ g :: post) (hlen : L.length ≤ 4194304)
    (hn : ∀ s, slotsOf pre s → keyL L s ≠ g.2.key) :
    Part seed same L (slotsOf (pre ++ [g])) (ofM seed same L (pre ++ [g])) ∧ usedN (ofM seed same L (pre ++ [g])) = (pre ++ [g]).length ∧ g.1 ≤ 4294967295 ∧
      ∃ x, planI (ofM seed same L pre).length (usedN (ofM seed same L pre)) (tombN (ofM seed same L pre)) = some x ∧ Pow x.1 ∧ usedN (ofM seed same L pre) ≤ 8 * x.1 ∧ insM (doG (sumL seed same L) x (ofM seed same L pre)) (sumL seed same L g.1) g.1 = some (ofM seed same L (pre ++ [g])) := by
  have hup := liveFrom_up' L 0
  rw [show liveFrom 0 L = live L from rfl, hl, List.map_append, List.map_cons, List.pairwise_append] at hup
  have hnot : ¬ slotsOf pre g.1 := fun hs => by have := hup.2.2 _ hs g.1 (by simp); omega
  have hg : L[g.1]? = some (some g.2) := live_mem (by rw [hl]; simp)
  have hlt := (List.getElem?_eq_some_iff.1 hg).1
  have hpl : pre.length ≤ 4194304 := by have := live_length L; rw [hl] at this; simp at this; omega
  obtain ⟨x, k1, k2, k3, k4, k5, k6, k7, k8⟩ := h.holds.put (by rw [hu]; exact hpl) (s := g.1) (by omega) hnot
  rw [ofM_snoc]
  have hiff : ∀ s, slotsOf (pre ++ [g]) s ↔ s = g.1 ∨ slotsOf pre s := fun s => by unfold slotsOf; simp [or_comm]
  refine ⟨⟨k7.of_iff (fun s => (hiff s).symm), fun s hs => ?_, fun s t hs ht hk => ?_⟩, by rw [k8, hu]; simp, by omega, x, k1, k2, k3, k6⟩
  · rcases (hiff s).1 hs with rfl | hs
    · exact ⟨g.2, hg⟩
    · exact h.sub s hs
  · rcases (hiff s).1 hs with rfl | hs <;> rcases (hiff t).1 ht with rfl | ht
    · rfl
    · rw [keyL_some hg] at hk; exact absurd hk.symm (hn t ht)
    · rw [keyL_some hg] at hk; exact absurd hk (hn s hs)
    · exact h.uniq s t hs ht hk
end
end Go.Proofs.YtapplindfijngaaGreat
