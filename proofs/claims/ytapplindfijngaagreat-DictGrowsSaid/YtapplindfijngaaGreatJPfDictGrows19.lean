/- Lemmas and contracts of functions, strung together out of 7 texts. No condition. -/
import Derived.Test.YtapplindfijngaaGreatJPfDictGrows18
import Derived.Test.YtapplindfijngaaGreatJPfDictGrows16
import Derived.Test.YtapplindfijngaaGreatJPfDictGrows1
import Derived.Test.YtapplindfijngaaGreatJPfDictGrows17
/- dict: Sizes, Len, Insert's errors; all of it for a dictionary that was made since (DG). -/
namespace Go.Proofs.YtapplindfijngaaGreat
open Go.RowKit Go.Shelf
set_option maxRecDepth 100000
section
variable {w w' : World} {D S : Nat → Prop} {d seed : Nat} {same : Bool} {L : List (Option Ent)} {Gs : List Grp}
theorem dlen_ok (h : DictAt w D d seed same L Gs) : Calls Tryz.prog 19 #[dPtr d] w fun e w' => e = .returned (.int .i64 (liveOf L)) ∧ w = w' := by
  obtain ⟨q, p, sv, Dl, h1, h2, h3⟩ := h
  have HZ := Lib.hid (dzero_ok h1)
  have HC := Lib.hid (liveA h1.log)
  have hb := h1.box
  clear h1 h2 h3
  have hb_0 := cell_of_row _ _ 0 _ _ _ hb; have hb_1 := cell_of_row _ _ 1 _ _ _ hb; have hb_2 := cell_of_row _ _ 2 _ _ _ hb; have hb_3 := cell_of_row _ _ 3 _ _ _ hb; have hb_f := (fun j => frozen_of_row _ _ j _ _ hb); have hb_l := lt_of_block hb; simp at hb_0 hb_1 hb_2 hb_3; have H_hb := Lib.hid hb; clear hb
  go_enter Tryz.func19, Tryz.ntmps19
  go_wp2_with (first
    | (go_at_call 48; refine Calls.mono HZ.out ?_; rintro e w' ⟨rfl, rfl⟩)
    | (go_at_call 69; refine Calls.mono HC.out ?_; rintro e w' ⟨rfl, rfl⟩))
  go_ret
  exact ⟨rfl, rfl⟩
def dsizesPost (w : World) (L : List (Option Ent)) (Gs : List Grp) (e : Ending) (w' : World) : Prop :=
  e = .returned (.tuple #[.int .i64 L.length, .int .i64 Gs.length, .int .i64 (tombN Gs)]) ∧ Pure w w'
set_option maxHeartbeats 1000000 in
theorem dsizes_ok (h : DictAt w D d seed same L Gs) : Calls Tryz.prog 41 #[dPtr d] w (dsizesPost w L Gs) := by
  obtain ⟨q, p, sv, Dl, h1, h2, h3⟩ := h
  have HZ := Lib.hid (dzero_ok h1)
  have HL := Lib.hid (fun (W : World) (hW : Pure w W) => lenA (h1.log.pure hW))
  have HX := Lib.hid (fun (W : World) (hW : Pure w W) => IGroups_ok (h1.ix.pure hW))
  have HT := Lib.hid (fun (W : World) (hW : Pure w W) => ITombs_ok (h1.ix.pure hW))
  have hb := h1.box
  clear h1 h2 h3
  have hb_0 := cell_of_row _ _ 0 _ _ _ hb; have hb_1 := cell_of_row _ _ 1 _ _ _ hb; have hb_2 := cell_of_row _ _ 2 _ _ _ hb; have hb_3 := cell_of_row _ _ 3 _ _ _ hb; have hb_f := (fun j => frozen_of_row _ _ j _ _ hb); have hb_l := lt_of_block hb; simp at hb_0 hb_1 hb_2 hb_3; have H_hb := Lib.hid hb; clear hb
  go_enter Tryz.func41, Tryz.ntmps41
  go_upto_region 3 with (go_at_call 48; refine Calls.mono HZ.out ?_; rintro e w' ⟨rfl, rfl⟩)
  go_region_held3 (fun w' => w'.cell? ⟨d, 0, none⟩ = some (.pointer (some ⟨q, 0, none⟩)) ∧ w'.cell? ⟨d, 3, none⟩ = some (.pointer (some ⟨p, 0, none⟩)))
    (first | exact ⟨hb_0, hb_3⟩)
    (first
      | (go_at_call 28; (with_reducible refine Calls.mono (HL.out _ (by first | exact Mod.refl _ _ | exact Mod.drew (Mod.refl _ _))) ?_); rintro e w1 ⟨rfl, rfl⟩)
      | (go_at_call 60; (with_reducible refine Calls.mono (HX.out _ (by first | exact Mod.refl _ _ | exact Mod.drew (Mod.refl _ _))) ?_); rintro e w1 ⟨rfl, rfl⟩)
      | (go_at_call 62; (with_reducible refine Calls.mono (HT.out _ (by first | exact Mod.refl _ _ | exact Mod.drew (Mod.refl _ _))) ?_); rintro e w1 ⟨rfl, rfl⟩))
  all_goals
    try go_wp2
    refine bodyPost_ret (v := .tuple #[.int .i64 L.length, .int .i64 Gs.length, .int .i64 (tombN Gs)]) (by simp [results, Tryz.results41, go_sem]) rfl ⟨rfl, ?_⟩
    first | exact Mod.refl _ _ | exact Mod.drew (Mod.refl _ _)

/-! ### Insert's errors -/
def dins0 (w : World) (er : Int) (e : Ending) (w' : World) : Prop := e = .returned (.tuple #[.int .u32 0, .int .i64 er]) ∧ Pure w w'
set_option maxHeartbeats 1000000 in
theorem dins_busy (h : DictAt w D d seed same L Gs) (x : Ent) (hok : x.Ok) {t : Nat} (hf : findK L x.key = some t) (a : Option Addr) (n c : Nat) (hx : ReadAt w (.slice a n c) 1 (bytesOf x.val)) :
    Calls Tryz.prog 11 #[dPtr d, .agg #[.string x.key, .slice a n c, .int .u64 x.dl, .int .u64 x.birth]] w (dins0 w 11) := by
  obtain ⟨q, p, sv, Dl, h1, h2, h3⟩ := h
  have hp0 : Pure w (w.alloc (.cells #[.string x.key, .slice a n c, .int .u64 x.dl, .int .u64 x.birth] 42)) := (Mod.refl _ w).alloc _
  have z3 := heap_new (w := w) (o := .cells #[.string x.key, .slice a n c, .int .u64 x.dl, .int .u64 x.birth] 42 (0, 0)) rfl
  have HP := Lib.hid hp0
  have HZ := Lib.hid (dzero_ok (h1.pure hp0))
  have hn : n ≤ 65536 := by have := read_length hx; rw [bytesOf_length] at this; have := hok.v1; omega
  have hb : (x.birth == 0) = false := by have := hok.b0; simp; omega
  have HN := Lib.hid (entry_New_ok x.key a n c x.dl x.birth (bytesOf x.val) _ (hx.frame hp0 (fun _ _ h => h)) hn hok.k0 hok.k1 hb)
  have HFd := Lib.hid (fun (W : World) (hW : Pure w W) => dfind_ok (h1.pure hW) h2 x.key (by have := hok.k1; omega))
  have e1 : findV L x.key = (t, 0) := by unfold findV; rw [hf]
  unfold dfindPost at HFd
  rw [e1] at HFd
  dsimp only at HFd
  clear h1 h2 h3 hx hok hp0 hn hb e1 hf
  go_enter Tryz.func11, Tryz.ntmps11
  go_upto_region 1 with fail
  generalize w.alloc (.cells #[.string x.key, .slice a n c, .int .u64 x.dl, .int .u64 x.birth] 42) = W1 at *
  generalize w.heap.size = b3 at *
  have z3_0 := cell_of_row _ _ 0 _ _ _ z3; have z3_1 := cell_of_row _ _ 1 _ _ _ z3; have z3_2 := cell_of_row _ _ 2 _ _ _ z3; have z3_3 := cell_of_row _ _ 3 _ _ _ z3; have z3_f := (fun j => frozen_of_row _ _ j _ _ z3); have z3_l := lt_of_block z3; simp at z3_0 z3_1 z3_2 z3_3; have H_z3 := Lib.hid z3; clear z3
  go_upto_region 4 with (first
    | (go_at_call 48; refine Calls.mono HZ.out ?_; rintro e w' ⟨rfl, rfl⟩)
    | (go_at_call 49; refine Calls.mono HN.out ?_; rintro e w2 ⟨a2, n2, c2, rfl, hr2, hf2, hp2⟩))
  have hpo : Pure w2 (w2.alloc (.cells #[.string x.key, .slice a2 n2 c2, .int .u64 x.dl, .int .u64 x.birth] 42)) := (Mod.refl _ w2).alloc _
  have zz3 := (hp2.trans hpo).heap (fun h => h) H_z3.out
  replace HP := Lib.hid ((HP.out.trans hp2).trans hpo)
  clear z3_0 z3_1 z3_2 z3_3 z3_f z3_l
  clear H_z3 hr2 hf2 hp2 hpo HN HZ
  generalize w2.alloc (.cells #[.string x.key, .slice a2 n2 c2, .int .u64 x.dl, .int .u64 x.birth] 42) = W3 at *
  generalize w2.heap.size = b6 at *
  have zz3_0 := cell_of_row _ _ 0 _ _ _ zz3; have zz3_1 := cell_of_row _ _ 1 _ _ _ zz3; have zz3_2 := cell_of_row _ _ 2 _ _ _ zz3; have zz3_3 := cell_of_row _ _ 3 _ _ _ zz3; have zz3_f := (fun j => frozen_of_row _ _ j _ _ zz3); have zz3_l := lt_of_block zz3; simp at zz3_0 zz3_1 zz3_2 zz3_3; have H_zz3 := Lib.hid zz3; clear zz3
  go_wp2_with (go_at_call 42; refine Calls.mono (HFd.out _ HP.out) ?_; rintro e w4 ⟨rfl, hp4⟩)
  go_ret2
  exact ⟨rfl, HP.out.trans hp4⟩
set_option maxHeartbeats 1000000 in
theorem dins_err (h : DictAt w D d seed same L Gs) (k : ByteArray) (a : Option Addr) (n c : Nat) (dl b : Int) (hk : k.size ≤ 140737488355328) (hn : n ≤ 140737488355328) (er : Int) (E : errOf k.size n b = er) (he0 : (er == 0) = false) :
    Calls Tryz.prog 11 #[dPtr d, .agg #[.string k, .slice a n c, .int .u64 dl, .int .u64 b]] w (dins0 w er) := by
  obtain ⟨q, p, sv, Dl, h1, h2, h3⟩ := h
  have hp0 : Pure w (w.alloc (.cells #[.string k, .slice a n c, .int .u64 dl, .int .u64 b] 42)) := (Mod.refl _ w).alloc _
  have z3 := heap_new (w := w) (o := .cells #[.string k, .slice a n c, .int .u64 dl, .int .u64 b] 42 (0, 0)) rfl
  have HP := Lib.hid hp0
  have HZ := Lib.hid (dzero_ok (h1.pure hp0))
  have HN := Lib.hid (fun W => entry_New_err k a n c dl b W hk hn er E he0)
  clear h1 h2 h3 hp0 E hk hn
  have hne : er ≠ 0 := by simpa using he0
  go_enter Tryz.func11, Tryz.ntmps11
  go_upto_region 1 with fail
  generalize w.alloc (.cells #[.string k, .slice a n c, .int .u64 dl, .int .u64 b] 42) = W1 at *
  generalize w.heap.size = b3 at *
  have z3_0 := cell_of_row _ _ 0 _ _ _ z3; have z3_1 := cell_of_row _ _ 1 _ _ _ z3; have z3_2 := cell_of_row _ _ 2 _ _ _ z3; have z3_3 := cell_of_row _ _ 3 _ _ _ z3; have z3_f := (fun j => frozen_of_row _ _ j _ _ z3); have z3_l := lt_of_block z3; simp at z3_0 z3_1 z3_2 z3_3; have H_z3 := Lib.hid z3; clear z3
  go_upto_region 4 with (first
    | (go_at_call 48; refine Calls.mono HZ.out ?_; rintro e w' ⟨rfl, rfl⟩)
    | (go_at_call 49; refine Calls.mono (HN.out _) ?_; rintro e w2 ⟨rfl, hp2⟩))
  have hpo : Pure w2 (w2.alloc (.cells #[.string ⟨#[]⟩, .slice none 0 0, .int .u64 0, .int .u64 0] 42)) := (Mod.refl _ w2).alloc _
  replace HP := Lib.hid ((HP.out.trans hp2).trans hpo)
  clear hp2 hpo HN HZ
  go_wp2
  go_ret2
  exact ⟨rfl, HP.out⟩

/-! ### a dictionary that was made since w -/
def DG (w W : World) (d seed : Nat) (same : Bool) (L : List (Option Ent)) (Gs : List Grp) : Prop := ∃ D, DictAt W D d seed same L Gs ∧ Pure w W ∧ ∀ k, D k → w.heap.size ≤ k
end
section
variable {w W W' : World} {d seed : Nat} {same : Bool} {L : List (Option Ent)} {Gs : List Grp}
theorem DG.pu (h : DG w W d seed same L Gs) : Pure w W := by obtain ⟨D, h1, h2, h3⟩ := h; exact h2
theorem DG.pure (h : DG w W d seed same L Gs) (hp : Pure W W') : DG w W' d seed same L Gs := by
  obtain ⟨D, h1, h2, h3⟩ := h
  exact ⟨D, h1.pure hp, h2.trans hp, h3⟩
theorem newG' (seed : Nat) (same : Bool) (hs : seed < 18446744073709551616) (h : Pure w W) : Calls Tryz.prog 8 #[.agg #[.int .u64 seed, .bool same]] W fun e w' => ∃ d, e = .returned (dPtr d) ∧ DG w w' d seed same [] (newG 1) ∧ Pure W w' := by
  refine Calls.mono (dnew_ok seed same hs W) ?_
  rintro e w' ⟨d, D, rfl, h1, h2, h3⟩
  exact ⟨d, rfl, ⟨D, h1, h.trans h2, fun k hk => Nat.le_trans h.size (h3 k hk)⟩, h2⟩
theorem DG.step {D D' : Nat → Prop} {L2 : List (Option Ent)} {G2 : List Grp} (h2 : Pure w W) (h3 : ∀ k, D k → w.heap.size ≤ k) (g1 : DictAt W' D' d seed same L2 G2) (g2 : Mod D W W') (g3 : Grew D D' W) : DG w W' d seed same L2 G2 :=
  ⟨D', g1, h2.then g2 (fun i hi e => by have := h3 i e; omega), fun k hk => by
    rcases g3 k hk with e | e
    · exact h3 k e
    · exact Nat.le_trans h2.size e⟩
end
end Go.Proofs.YtapplindfijngaaGreat

/- law10: inserts, finds, sizes; known. -/
namespace Go.Proofs.YtapplindfijngaaGreat
open Go.RowKit Go.Shelf
set_option maxRecDepth 100000
attribute [local go_sem] Oper.semAt_some
theorem LogAt.celled {w : World} {D : Nat → Prop} {p : Nat} {L : List (Option Ent)} (h : LogAt w D p L) {k : Nat} (hk : D k) : ∃ cs T fz, w.heap[k]? = some (.cells cs T fz) := by
  obtain ⟨sv, M, rfl, h⟩ := h
  rcases (h.dd k).1 hk with rfl | e
  · exact ⟨_, _, _, h.box⟩
  · obtain ⟨c, e2⟩ := owns_type h.row e; exact ⟨_, _, _, e2⟩
theorem DictAt.celled {w : World} {D : Nat → Prop} {d seed : Nat} {same : Bool} {L : List (Option Ent)} {Gs : List Grp} (h : DictAt w D d seed same L Gs) {k : Nat} (hk : D k) : ∃ cs T fz, w.heap[k]? = some (.cells cs T fz) := by
  obtain ⟨q, p, sv, Dl, h1, h2, h3⟩ := h
  rcases (h3 k).1 hk with rfl | e | rfl | e
  · exact ⟨_, _, _, h1.box⟩
  · exact h1.log.celled e
  · exact ⟨_, _, _, h1.ix.box⟩
  · obtain ⟨c, e2⟩ := owns_type h1.ix.row e; exact ⟨_, _, _, e2⟩
/-- Blocks that are no dictionary's keep. -/
def OKeep (W W' : World) : Prop := ∀ (k : Nat) (o : Obj), W.heap[k]? = some o → (∀ (cs : Array Value) (T : TypeId) (fz : Nat × Nat), o = .cells cs T fz → T ≠ 107 ∧ T ≠ 131 ∧ T ≠ 42 ∧ T ≠ 164 ∧ T ≠ 168) → W'.heap[k]? = some o
theorem OKeep.of {W W' : World} {D : Nat → Prop} {d seed : Nat} {same : Bool} {L : List (Option Ent)} {Gs : List Grp} (h : DictAt W D d seed same L Gs) (hm : Mod D W W') : OKeep W W' := fun k o hk ht => by
  refine hm.heap (fun e => ?_) hk
  obtain ⟨cs, T, fz, hc⟩ := h.celled e
  rw [hk] at hc
  have := ht cs T fz (Option.some.inj hc)
  rcases h.types e (hk.trans hc) with e | e | e | e | e
  · exact this.1 e
  · exact this.2.1 e
  · exact this.2.2.1 e
  · exact this.2.2.2.1 e
  · exact this.2.2.2.2 e
section
variable {w W W' : World} {d seed : Nat} {same : Bool} {L : List (Option Ent)} {Gs : List Grp}
theorem inserts_ok (h : DG w W d seed same L Gs) (key : ByteArray) (hok : (Ent.mk key [] 0 1).Ok) (hL : L.length < 4194304) (hf : findK L key = none) (want : Int) (hw : (L.length : Int) = want) :
    Calls Tryz.prog 43 #[dPtr d, .string key, .int .u32 want] W fun e w' => e = .returned (.bool true) ∧ DG w w' d seed same (L ++ [some ⟨key, [], 0, 1⟩]) (putM (sumL seed same (L ++ [some ⟨key, [], 0, 1⟩])) Gs L.length) ∧ OKeep W w' := by
  subst hw
  obtain ⟨D, h1, h2, h3⟩ := h
  have HI := Lib.hid (dins_ok h1 ⟨key, [], 0, 1⟩ hok hL hf none 0 0 (ReadAt.nil _ _))
  have HP := Lib.hid h2; have HD := Lib.hid h3; have H1 := Lib.hid h1
  dsimp only at HI
  clear h1 h2 h3 hok hL hf
  go_enter Tryz.func43, Tryz.ntmps43
  go_wp2_with (go_at_call 11; refine Calls.mono HI.out ?_; rintro e w1 ⟨rfl, D', hd, hm, hg⟩)
  go_ret
  exact ⟨rfl, DG.step HP.out HD.out hd hm hg, OKeep.of H1.out hm⟩
theorem finds10_ok (h : DG w W d seed same L Gs) (key : ByteArray) (hkey : key.size ≤ 140737488355328) (want no : Int) (h0 : 0 ≤ want ∧ 0 ≤ no) (hv : findV L key = (want.toNat, no.toNat)) :
    Calls Tryz.prog 44 #[dPtr d, .string key, .int .u32 want, .int .i64 no] W fun e w' => e = .returned (.bool true) ∧ Pure W w' := by
  obtain ⟨D, h1, h2, h3⟩ := h
  obtain ⟨want, rfl⟩ := Int.eq_ofNat_of_zero_le h0.1
  obtain ⟨no, rfl⟩ := Int.eq_ofNat_of_zero_le h0.2
  have HI := Lib.hid (Find_any h1 key hkey)
  unfold dfindPost at HI
  rw [hv] at HI
  simp only [Int.toNat_natCast] at HI
  clear h1 h2 h3 hv h0
  go_enter Tryz.func44, Tryz.ntmps44
  go_wp2_with (go_at_call 42; refine Calls.mono HI.out ?_; rintro e w1 ⟨rfl, hp⟩)
  go_ret
  exact ⟨by simp, hp⟩
theorem sizes10_ok (h : DG w W d seed same L Gs) (a b c : Int) (ha : (L.length : Int) = a) (hb : (Gs.length : Int) = b) (hc : (tombN Gs : Int) = c) :
    Calls Tryz.prog 13 #[dPtr d, .int .i64 a, .int .i64 b, .int .i64 c] W fun e w' => e = .returned (.bool true) ∧ Pure W w' := by
  subst ha hb hc
  obtain ⟨D, h1, h2, h3⟩ := h
  have HI := Lib.hid (dsizes_ok h1)
  clear h1 h2 h3
  go_enter Tryz.func13, Tryz.ntmps13
  go_wp2_with (go_at_call 41; refine Calls.mono HI.out ?_; rintro e w1 ⟨rfl, hp⟩)
  go_ret
  exact ⟨by simp, hp⟩
theorem len10_ok (h : DG w W d seed same L Gs) (n : Int) (hn : (liveOf L : Int) = n) : Calls Tryz.prog 19 #[dPtr d] W fun e w' => e = .returned (.int .i64 n) ∧ W = w' := by
  subst hn
  obtain ⟨D, h1, h2, h3⟩ := h
  exact dlen_ok h1
end
end Go.Proofs.YtapplindfijngaaGreat

/- A dictionary and the reference's, side by side: what one's calls leave of the other. -/
namespace Go.Proofs.YtapplindfijngaaGreat
open Go.RowKit Go.Shelf
set_option maxRecDepth 100000

theorem RefD.dmod {W W' : World} {D : Nat → Prop} {d seed : Nat} {same : Bool} {L : List (Option Ent)} {Gs Gr : List Grp} {r : RA} {Q : List RQ} (h : RefD W r Q Gr) (hd : DictAt W D d seed same L Gs) (hm : Mod D W W') (hn : ∀ k, (Value.slice r.aL Q.length r.cL).ownBlock = some k → ¬ D k) : RefD W' r Q Gr := by
  have ht : ∀ i, D i → i < W.heap.size → ∃ cs T fz, W.heap[i]? = some (.cells cs T fz) ∧ T ≠ 4 ∧ T ≠ 5 ∧ T ≠ 43 := fun i hi _ => by
    obtain ⟨cs, T, fz, e⟩ := hd.celled hi
    refine ⟨cs, T, fz, e, ?_⟩
    rcases hd.types hi e with rfl | rfl | rfl | rfl | rfl <;> decide
  exact ⟨⟨owns_mod h.l.L hm (fun k hk e => hn k hk e), owns_modT h.l.G hm (fun i hi hl => by obtain ⟨cs, T, fz, e, h1, _⟩ := ht i hi hl; exact ⟨cs, T, fz, e, h1⟩),
    fun q hq => owns_modT (h.l.vals q hq) hm (fun i hi hl => by obtain ⟨cs, T, fz, e, _, h1, _⟩ := ht i hi hl; exact ⟨cs, T, fz, e, h1⟩), h.l.ok, h.l.len⟩,
    h.x.modT hm (fun i hi hl => by obtain ⟨cs, T, fz, e, _, h1⟩ := ht i hi hl; exact ⟨cs, T, fz, e, h1⟩)⟩
/-- The dictionary of the entries L in block d (made since w), the reference's of Q, and blocks E that neither holds. -/
def DR (w W : World) (d seed : Nat) (same : Bool) (L : List (Option Ent)) (Gs : List Grp) (r : RA) (Q : List RQ) (Gr : List Grp) (E : Nat → Prop) : Prop :=
  ∃ D, DictAt W D d seed same L Gs ∧ Pure w W ∧ (∀ k, D k → w.heap.size ≤ k) ∧ RefD W r Q Gr ∧ (∀ k, (Value.slice r.aL Q.length r.cL).ownBlock = some k → ¬ D k) ∧ ∀ k, E k → ¬ D k ∧ k < W.heap.size
section
variable {w W W' : World} {d seed : Nat} {same : Bool} {L : List (Option Ent)} {Gs Gr : List Grp} {r : RA} {Q : List RQ} {E : Nat → Prop}
theorem DR.pure (h : DR w W d seed same L Gs r Q Gr E) (hp : Pure W W') : DR w W' d seed same L Gs r Q Gr E := by
  obtain ⟨D, h1, h2, h3, h4, h5, h6⟩ := h
  exact ⟨D, h1.pure hp, h2.trans hp, h3, h4.pure hp, h5, fun k hk => ⟨(h6 k hk).1, hp.lt (h6 k hk).2⟩⟩
theorem DR.pu (h : DR w W d seed same L Gs r Q Gr E) : Pure w W := by obtain ⟨D, h1, h2, _⟩ := h; exact h2
theorem DR.rf (h : DR w W d seed same L Gs r Q Gr E) : RefD W r Q Gr := by obtain ⟨D, _, _, _, h4, _⟩ := h; exact h4
theorem DR.keeps (h : DR w W d seed same L Gs r Q Gr E) : Keeps seed same L Gs := by obtain ⟨D, h1, _⟩ := h; exact h1.keeps
theorem DR.ok (h : DR w W d seed same L Gs r Q Gr E) : LogOk L := by obtain ⟨D, h1, _⟩ := h; exact h1.ok
theorem DR.dg (h : DR w W d seed same L Gs r Q Gr E) : DG w W d seed same L Gs := by obtain ⟨D, h1, h2, h3, _⟩ := h; exact ⟨D, h1, h2, h3⟩
theorem DR.drop (h : DR w W d seed same L Gs r Q Gr E) {E' : Nat → Prop} (he : ∀ k, E' k → E k) : DR w W d seed same L Gs r Q Gr E' := by
  obtain ⟨D, h1, h2, h3, h4, h5, h6⟩ := h
  exact ⟨D, h1, h2, h3, h4, h5, fun k hk => h6 k (he k hk)⟩
theorem DR.one (h : DR w W d seed same L Gs r Q Gr E) (hp : Pure W W') {b : Nat} (h1 : W.heap.size ≤ b) (h2 : b < W'.heap.size) : DR w W' d seed same L Gs r Q Gr (fun k => k = b) := by
  obtain ⟨D, g1, g2, g3, g4, g5, g6⟩ := h
  exact ⟨D, g1.pure hp, g2.trans hp, g3, g4.pure hp, g5, fun k hk => by subst hk; exact ⟨fun e => by have := g1.lt e; omega, h2⟩⟩
theorem DR.step {D D' : Nat → Prop} {L2 : List (Option Ent)} {G2 : List Grp} (h1 : DictAt W D d seed same L Gs) (h2 : Pure w W) (h3 : ∀ k, D k → w.heap.size ≤ k) (h4 : RefD W r Q Gr) (h5 : ∀ k, (Value.slice r.aL Q.length r.cL).ownBlock = some k → ¬ D k) (h6 : ∀ k, E k → ¬ D k ∧ k < W.heap.size)
    (g1 : DictAt W' D' d seed same L2 G2) (g2 : Mod D W W') (g3 : Grew D D' W) : DR w W' d seed same L2 G2 r Q Gr E ∧ OKeep W W' ∧ ∀ k o, E k → W.heap[k]? = some o → W'.heap[k]? = some o := by
  refine ⟨⟨D', g1, h2.then g2 (fun i hi e => by have := h3 i e; omega), fun k hk => ?_, h4.dmod h1 g2 h5, fun k hk e => ?_, fun k hk => ⟨fun e => ?_, Nat.lt_of_lt_of_le (h6 k hk).2 g2.size⟩⟩, OKeep.of h1 g2, fun k o hk ho => g2.heap (h6 k hk).1 ho⟩
  · rcases g3 k hk with e | e
    · exact h3 k e
    · exact Nat.le_trans h2.size e
  · rcases g3 k e with e | e
    · exact h5 k hk e
    · have := owns_lt h4.l.L hk; omega
  · rcases g3 k e with e | e
    · exact (h6 k hk).1 e
    · have := (h6 k hk).2; omega
theorem insR (h : DR w W d seed same L Gs r Q Gr E) (x : Ent) (hok : x.Ok) (hL : L.length < 4194304) (hf : findK L x.key = none) (a : Option Addr) (n c : Nat) (hx : ReadAt W (.slice a n c) 1 (bytesOf x.val)) :
    Calls Tryz.prog 11 #[dPtr d, .agg #[.string x.key, .slice a n c, .int .u64 x.dl, .int .u64 x.birth]] W fun e w' => e = .returned (.tuple #[.int .u32 L.length, .int .i64 0]) ∧
      DR w w' d seed same (L ++ [some x]) (putM (sumL seed same (L ++ [some x])) Gs L.length) r Q Gr E ∧ OKeep W w' ∧ ∀ k o, E k → W.heap[k]? = some o → w'.heap[k]? = some o := by
  obtain ⟨D, h1, h2, h3, h4, h5, h6⟩ := h
  refine Calls.mono (dins_ok h1 x hok hL hf a n c hx) ?_
  rintro e w' ⟨rfl, D', g1, g2, g3⟩
  exact ⟨rfl, DR.step h1 h2 h3 h4 h5 h6 g1 g2 g3⟩
theorem remR (h : DR w W d seed same L Gs r Q Gr E) {s : Nat} {x : Ent} (hx : L[s]? = some (some x)) :
    Calls Tryz.prog 16 #[dPtr d, .int .u32 s] W fun e w' => ∃ a n c, e = .returned (.tuple #[.agg #[.string x.key, .slice a n c, .int .u64 x.dl, .int .u64 x.birth], .int .i64 0]) ∧ BytesAt w' (.slice a n c) (bytesOf x.val) ∧ Fresh W (.slice a n c) ∧
      DR w w' d seed same (L.set s none) (remM (sumL seed same L) (sumL seed same (L.set s none)) Gs s) r Q Gr E ∧ OKeep W w' ∧ ∀ k o, E k → W.heap[k]? = some o → w'.heap[k]? = some o := by
  obtain ⟨D, h1, h2, h3, h4, h5, h6⟩ := h
  refine Calls.mono (drem_ok h1 hx) ?_
  rintro e w' ⟨a, n, c, rfl, hb, hf, D', g1, g2, g3⟩
  exact ⟨a, n, c, rfl, hb, hf, DR.step h1 h2 h3 h4 h5 h6 g1 g2 g3⟩
theorem remR0 (h : DR w W d seed same L Gs r Q Gr E) {s : Nat} (hs : s ≤ 4294967295) (hx : hasL L s = false) : Calls Tryz.prog 16 #[dPtr d, .int .u32 s] W (drem0 W) := by
  obtain ⟨D, h1, _⟩ := h
  exact drem_miss h1 hs hx
theorem DR.refStep {r' : RA} {Q' : List RQ} {G' : List Grp} (h : DR w W d seed same L Gs r Q Gr E) (hp : Pure W W') (hr : RefD W' r' Q' G') (hf : Fresh W (.slice r'.aL Q'.length r'.cL)) : DR w W' d seed same L Gs r' Q' G' E := by
  obtain ⟨D, h1, h2, h3, h4, h5, h6⟩ := h
  exact ⟨D, h1.pure hp, h2.trans hp, h3, hr, fun k hk e => by have := hf k hk; have := h1.lt e; omega, fun k hk => ⟨(h6 k hk).1, hp.lt (h6 k hk).2⟩⟩
theorem rinsR (h : DR w W d seed same L Gs r Q Gr E) (hk : Keeps seed same (slotsR (Q.map absQ)) Gr) (x : Ent) (hok : x.Ok) (hQ : Q.length < 4194304) (hf : findK (slotsR (Q.map absQ)) x.key = none) (a : Option Addr) (n c : Nat) (hx : ReadAt W (.slice a n c) 1 (bytesOf x.val)) :
    Calls Tryz.prog 12 #[rdV seed same r Q.length (8 * Gr.length), .agg #[.string x.key, .slice a n c, .int .u64 x.dl, .int .u64 x.birth]] W fun e w' => ∃ r' Q',
      e = .returned (.tuple #[rdV seed same r' Q'.length (8 * (putM (sumL seed same (slotsR (Q.map absQ) ++ [some x])) Gr Q.length).length), .int .u32 Q.length, .int .i64 0]) ∧ Q'.map absQ = Q.map absQ ++ [(x, false)] ∧
      DR w w' d seed same L Gs r' Q' (putM (sumL seed same (slotsR (Q.map absQ) ++ [some x])) Gr Q.length) E ∧ Pure W w' := by
  have hsd : seed < 18446744073709551616 := by obtain ⟨D, h1, _⟩ := h; exact h1.sd
  refine Calls.mono (rdins_ok h.rf seed same hsd hk x hok hQ hf a n c hx) ?_
  rintro e w' ⟨r', Q', rfl, e1, e2, e3, e4⟩
  exact ⟨r', Q', rfl, e1, h.refStep e4 e2 e3, e4⟩
theorem rremR (h : DR w W d seed same L Gs r Q Gr E) (hk : Keeps seed same (slotsR (Q.map absQ)) Gr) {s : Nat} {x : Ent} {v : Value} (hx : Q[s]? = some (x, v, false)) :
    Calls Tryz.prog 17 #[rdV seed same r Q.length (8 * Gr.length), .int .u32 s] W fun e w' => ∃ r' Q',
      e = .returned (.tuple #[rdV seed same r' Q'.length (8 * (remM (sumL seed same (slotsR (Q.map absQ))) (sumL seed same ((slotsR (Q.map absQ)).set s none)) Gr s).length), .agg #[.string x.key, v, .int .u64 x.dl, .int .u64 x.birth], .int .i64 0]) ∧ Q'.map absQ = (Q.map absQ).set s (x, true) ∧
      DR w w' d seed same L Gs r' Q' (remM (sumL seed same (slotsR (Q.map absQ))) (sumL seed same ((slotsR (Q.map absQ)).set s none)) Gr s) E ∧ Pure W w' := by
  have hsd : seed < 18446744073709551616 := by obtain ⟨D, h1, _⟩ := h; exact h1.sd
  refine Calls.mono (rdrem_ok h.rf seed same hsd hk hx) ?_
  rintro e w' ⟨r', Q', rfl, e1, e2, e3, e4⟩
  exact ⟨r', Q', rfl, e1, h.refStep e4 e2 e3, e4⟩
theorem hasQ_L (Q : List RQ) (s : Nat) : hasQ Q s = hasL (slotsR (Q.map absQ)) s := by
  rw [Bool.eq_iff_iff, hasL_iff]
  constructor
  · intro hh
    unfold hasQ at hh
    split at hh
    · rename_i q hq
      obtain ⟨x, v, g⟩ := q
      simp at hh; subst hh
      exact ⟨x, by unfold slotsR; rw [List.getElem?_map, List.getElem?_map, hq]; rfl⟩
    · cases hh
  · intro hh
    obtain ⟨x, v, hq⟩ := slots_get hh
    unfold hasQ; rw [hq]; rfl
theorem liveQ_L (Q : List RQ) : liveQ Q = liveOf (slotsR (Q.map absQ)) := by
  unfold liveQ liveOf slotsR
  rw [List.countP_map, List.countP_map]
  refine List.countP_congr (fun q _ => ?_)
  obtain ⟨x, v, g⟩ := q
  cases g <;> simp [absQ]
/-- The first call of both. -/
theorem newR (seed : Nat) (same : Bool) (hsd : seed < 18446744073709551616) (hp : Pure w W) {D : Nat → Prop} (h1 : DictAt W D d seed same [] (newG 1)) (h3 : ∀ k, D k → w.heap.size ≤ k) :
    Calls Tryz.prog 10 #[.int .u64 seed, .bool same] W fun e w' => ∃ r, e = .returned (rdV seed same r 0 (8 * (newG 1).length)) ∧ DR w w' d seed same [] (newG 1) r [] (newG 1) (fun _ => False) ∧ Pure W w' := by
  refine Calls.mono (rdNew_ok seed same W) ?_
  rintro e w' ⟨r, rfl, h5, h6, h7⟩
  refine ⟨r, rfl, ⟨D, h1.pure h7, hp.trans h7, h3, h5, fun k hk => ?_, fun _ h => h.elim⟩, h7⟩
  rw [h6] at hk; cases hk
end
end Go.Proofs.YtapplindfijngaaGreat

/- Remove of a dictionary and of the reference's, whether or not there is an entry. -/
namespace Go.Proofs.YtapplindfijngaaGreat
open Go.RowKit Go.Shelf
set_option maxRecDepth 100000

theorem slots_at {Q : List RQ} {s : Nat} {x : Ent} (h : (slotsR (Q.map absQ))[s]? = some (some x)) : ∃ v, Q[s]? = some (x, v, false) := by
  obtain ⟨x', v, hq⟩ := slots_get ⟨x, h⟩
  unfold slotsR at h
  rw [List.getElem?_map, List.getElem?_map, hq] at h
  simp [absQ] at h
  subst h
  exact ⟨v, hq⟩
theorem set_none {L : List (Option Ent)} {s : Nat} (h : hasL L s = false) : L.set s none = L := by
  by_cases hs : s < L.length
  · refine List.ext_getElem? (fun i => ?_)
    by_cases hi : s = i
    · subst hi
      rw [List.getElem?_set_self hs, List.getElem?_eq_getElem hs]
      cases he : L[s] with
      | none => rfl
      | some x => unfold hasL at h; rw [List.getElem?_eq_getElem hs, he] at h; cases h
    · rw [List.getElem?_set_ne hi]
  · exact List.set_eq_of_length_le (by omega)
abbrev zE : Ent := ⟨⟨#[]⟩, [], 0, 0⟩
/-- What Remove returns, and what is left of the index. -/
def remX (L : List (Option Ent)) (s : Nat) : Ent × Nat := match L[s]? with
  | some (some x) => (x, 0)
  | _ => (zE, 9)
def remG (seed : Nat) (same : Bool) (L : List (Option Ent)) (Gs : List Grp) (s : Nat) : List Grp := if hasL L s = true then remM (sumL seed same L) (sumL seed same (L.set s none)) Gs s else Gs
theorem remX_hit {L : List (Option Ent)} {s : Nat} {x : Ent} (h : L[s]? = some (some x)) : remX L s = (x, 0) := by unfold remX; rw [h]
theorem remX_miss {L : List (Option Ent)} {s : Nat} (h : hasL L s = false) : remX L s = (zE, 9) := by
  unfold remX
  unfold hasL at h
  split at h
  · cases h
  · split
    · rename_i h1 _ _ h2; exact absurd h2 (h1 _)
    · rfl
section
variable {w W W' : World} {d seed : Nat} {same : Bool} {L : List (Option Ent)} {Gs Gr : List Grp} {r : RA} {Q : List RQ} {E : Nat → Prop}
theorem remX_ok (h : DR w W d seed same L Gs r Q Gr E) {s : Nat} (hs : s ≤ 4294967295) :
    Calls Tryz.prog 16 #[dPtr d, .int .u32 s] W fun e w' => ∃ a n c, e = .returned (.tuple #[.agg #[.string (remX L s).1.key, .slice a n c, .int .u64 (remX L s).1.dl, .int .u64 (remX L s).1.birth], .int .i64 ((remX L s).2 : Nat)]) ∧ BytesAt w' (.slice a n c) (bytesOf (remX L s).1.val) ∧ Fresh W (.slice a n c) ∧
      DR w w' d seed same (L.set s none) (remG seed same L Gs s) r Q Gr E ∧ OKeep W w' ∧ ∀ k o, E k → W.heap[k]? = some o → w'.heap[k]? = some o := by
  by_cases hh : hasL L s = true
  · obtain ⟨x, hx⟩ := hasL_iff.1 hh
    rw [remX_hit hx, remG, if_pos hh]
    exact remR h hx
  · rw [Bool.not_eq_true] at hh
    rw [remX_miss hh, remG, if_neg (by rw [hh]; decide), set_none hh]
    refine Calls.mono (remR0 h hs hh) ?_
    rintro e w' ⟨rfl, hp⟩
    exact ⟨none, 0, 0, rfl, World.ownsRow_nil _ _ _ _, (fun g hg => by cases hg), h.pure hp, fun k o hk _ => hp.heap (fun h => h) hk, fun k o _ hk => hp.heap (fun h => h) hk⟩
theorem rremX_ok (h : DR w W d seed same L Gs r Q Gr E) (hk : Keeps seed same (slotsR (Q.map absQ)) Gr) {s : Nat} (hs : s ≤ 4294967295) :
    Calls Tryz.prog 17 #[rdV seed same r Q.length (8 * Gr.length), .int .u32 s] W fun e w' => ∃ r' Q' a n c,
      e = .returned (.tuple #[rdV seed same r' Q'.length (8 * (remG seed same (slotsR (Q.map absQ)) Gr s).length), .agg #[.string (remX (slotsR (Q.map absQ)) s).1.key, .slice a n c, .int .u64 (remX (slotsR (Q.map absQ)) s).1.dl, .int .u64 (remX (slotsR (Q.map absQ)) s).1.birth], .int .i64 ((remX (slotsR (Q.map absQ)) s).2 : Nat)]) ∧
      BytesAt w' (.slice a n c) (bytesOf (remX (slotsR (Q.map absQ)) s).1.val) ∧ slotsR (Q'.map absQ) = (slotsR (Q.map absQ)).set s none ∧
      DR w w' d seed same L Gs r' Q' (remG seed same (slotsR (Q.map absQ)) Gr s) E ∧ Pure W w' := by
  by_cases hh : hasL (slotsR (Q.map absQ)) s = true
  · obtain ⟨x, hx⟩ := hasL_iff.1 hh
    obtain ⟨v, hq⟩ := slots_at hx
    have hv := h.rf.l.vals _ (List.mem_of_getElem? hq)
    dsimp only at hv
    obtain ⟨a, c, rfl, _⟩ := owns_form hv
    rw [remX_hit hx, remG, if_pos hh]
    refine Calls.mono (rremR h hk hq) ?_
    rintro e w' ⟨r', Q', rfl, e1, e2, e3⟩
    exact ⟨r', Q', _, _, _, rfl, owns_mod hv e3 (fun _ _ h => h), by rw [e1, slotsR_set], e2, e3⟩
  · rw [Bool.not_eq_true] at hh
    rw [remX_miss hh, remG, if_neg (by rw [hh]; decide), set_none hh]
    refine Calls.mono (rdrem_miss h.rf seed same hs ((hasQ_L Q s).trans hh) (8 * Gr.length)) ?_
    rintro e w' ⟨rfl, hp⟩
    exact ⟨r, Q, none, 0, 0, rfl, World.ownsRow_nil _ _ _ _, rfl, h.pure hp, hp⟩
theorem remX_ok' (hL : LogOk L) (s : Nat) : (remX L s).1.val.length ≤ 65536 := by
  unfold remX
  split
  · rename_i x hx
    have := (hL.ent x (List.mem_of_getElem? hx)).v1
    exact this
  · show 0 ≤ 65536; omega
theorem DR.put6 (h : DR w W d seed same L Gs r Q Gr E) {b : Nat} (hb : w.heap.size ≤ b) {cs : Array Value} {fz : Nat × Nat} (he : W.heap[b]? = some (.cells cs 38 fz)) (hm : Mod (fun k => k = b) W W') : DR w W' d seed same L Gs r Q Gr E := by
  obtain ⟨D, h1, h2, h3, h4, h5, h6⟩ := h
  refine ⟨D, h1.frame hm (fun k hk e => ?_) (fun k _ e cs fz e2 => ?_), h2.then hm (fun i hi e => by omega), h3, h4.modX hm (fun i hi _ => by subst hi; exact ⟨_, _, _, he, by decide, by decide, by decide, by decide⟩), h5, fun k hk => ⟨(h6 k hk).1, Nat.lt_of_lt_of_le (h6 k hk).2 hm.size⟩⟩
  · subst e
    rcases h1.types hk he with e | e | e | e | e <;> cases e
  · subst e; rw [he] at e2; cases e2
end
end Go.Proofs.YtapplindfijngaaGreat

/- dict.Of: the dictionary of a log, or the error. Condition: the log is made. -/
namespace Go.Proofs.YtapplindfijngaaGreat
open Go.RowKit Go.Shelf
set_option maxRecDepth 100000
attribute [local go_sem] Oper.semAt_some

/-! ### the index of some of a log's entries -/
structure Part (seed : Nat) (same : Bool) (L : List (Option Ent)) (S : Nat → Prop) (Gs : List Grp) : Prop where
  holds : Holds (sumL seed same L) S Gs
  sub : ∀ s, S s → liveS L s
  uniq : ∀ s t, S s → S t → keyL L s = keyL L t → s = t
/-- What is found among them. -/
def foundIn (L : List (Option Ent)) (S : Nat → Prop) (key : ByteArray) (r : Nat × Nat) : Prop :=
  (∃ s, S s ∧ keyL L s = key ∧ r = (s, 0)) ∨ ((∀ s, S s → keyL L s ≠ key) ∧ r = (0, 9))
theorem Part.find {seed : Nat} {same : Bool} {L : List (Option Ent)} {S : Nat → Prop} {Gs : List Grp} (h : Part seed same L S Gs) {w w' : World} {D : Nat → Prop} {p : Nat} {sv : Value} {key : ByteArray} {C : TypeId → Prop} {J : List Nat → World → Prop} {e : Ending}
    (hp : IFindPost w D p sv Gs (sumS seed same key) (fun _ s => keyL L s == key) C J e w') : ∃ r, foundIn L S key r ∧ e = .returned (.tuple #[.int .u32 (r.1 : Nat), .int .i64 (r.2 : Nat)]) := by
  obtain ⟨_, _, ⟨a, x, post, h1, h2, h3, h4, h5⟩ | ⟨h1, h2, h3⟩⟩ := hp
  · have hx : x ∈ seenM Gs (sumS seed same key) := by rw [h1]; simp
    have hS := full_slot h.holds hx
    have hk : (keyL L (slotAt Gs x) == key) = true := h3
    exact ⟨(slotAt Gs x, 0), .inl ⟨_, hS, (ba_beq _ _).1 hk, rfl⟩, h4⟩
  · refine ⟨(0, 9), .inr ⟨fun s hs hk => ?_, rfl⟩, h2⟩
    obtain ⟨i, j, hm, hF⟩ := h.holds.find_some (s := s) hs
    have e1 : sumL seed same L s = sumS seed same key := by unfold sumL; rw [hk]
    rw [e1] at hm
    unfold findM at hm
    have hx := List.mem_of_find?_eq_some hm
    have := falses_mem h1 _ (List.mem_map.2 ⟨_, hx, rfl⟩)
    rw [hF.slot, hk, (ba_beq key key).2 rfl] at this
    cases this
theorem part_new (seed : Nat) (same : Bool) (L : List (Option Ent)) : Part seed same L (fun _ => False) (newG 1) :=
  ⟨newG_holds _ ⟨0, by decide, rfl⟩, fun _ h => h.elim, fun _ _ h => h.elim⟩
theorem Part.keeps' {seed : Nat} {same : Bool} {L : List (Option Ent)} {S S' : Nat → Prop} {Gs : List Grp} (h : Part seed same L S Gs) (hS : ∀ s, S s ↔ S' s) : Part seed same L S' Gs :=
  ⟨h.holds.of_iff hS, fun s hs => h.sub s ((hS s).2 hs), fun s t hs ht hk => h.uniq s t ((hS s).2 hs) ((hS t).2 ht) hk⟩
theorem Part.keeps {seed : Nat} {same : Bool} {L : List (Option Ent)} {S : Nat → Prop} {Gs : List Grp} (h : Part seed same L S Gs) (hS : ∀ s, S s ↔ liveS L s) (hu : usedN Gs = liveOf L) : Keeps seed same L Gs :=
  ⟨h.holds.of_iff hS, fun s t e f h1 h2 hk => h.uniq s t ((hS s).2 ⟨e, h1⟩) ((hS t).2 ⟨f, h2⟩) (by rw [keyL_some h1, keyL_some h2, hk]), hu⟩
section
variable {w : World} {d q p : Nat} {sv : Value} {Dl : Nat → Prop} {seed : Nat} {same : Bool} {L : List (Option Ent)} {Gs : List Grp}
def dfindGPost (w : World) (L : List (Option Ent)) (S : Nat → Prop) (key : ByteArray) (e : Ending) (w' : World) : Prop :=
  ∃ r, foundIn L S key r ∧ e = .returned (.tuple #[.int .u32 (r.1 : Nat), .int .i64 (r.2 : Nat)]) ∧ Pure w w'
set_option maxHeartbeats 1000000 in
theorem dfindG_ok {Sx : Nat → Prop} (h : DictMem w d q p sv Dl seed same L Gs) (hk : Part seed same L Sx Gs) (key : ByteArray) (hkey : key.size ≤ 140737488355328) : Calls Tryz.prog 42 #[dPtr d, .string key] w (dfindGPost w L Sx key) := by
  have hp0 : Pure w ((w.alloc (.cells #[.pointer (some ⟨d, 0, none⟩)] 24)).alloc (.cells #[.string key] 9)) := ((Mod.refl _ w).alloc _).alloc _
  have z2 := heap_keep (o := .cells #[.string key] 9) (heap_new (w := w) (o := .cells #[.pointer (some ⟨d, 0, none⟩)] 24 (0, 0)) rfl)
  have z3 := heap_new (w := w.alloc (.cells #[.pointer (some ⟨d, 0, none⟩)] 24)) (o := .cells #[.string key] 9 (0, 0)) (n := w.heap.size + 1) (by simp)
  have HP := Lib.hid hp0
  have HM := Lib.hid (h.pure hp0)
  have HZ := Lib.hid (dzero_ok (h.pure hp0))
  have HSum := Lib.hid (fun W => HSum_ok seed same h.sd key hkey W)
  have hb := (h.pure hp0).box
  have HKE := Lib.hid hk
  have hsl : sumS seed same key < 18446744073709551616 := mixM_lt
  clear h hk hp0
  go_enter Tryz.func42, Tryz.ntmps42
  go_upto_region 1 with fail
  generalize ((w.alloc (.cells #[.pointer (some ⟨d, 0, none⟩)] 24)).alloc (.cells #[.string key] 9)) = W1 at *
  obtain ⟨b, hbe⟩ : ∃ b, w.heap.size = b := ⟨_, rfl⟩
  rw [hbe] at z2 z3 ⊢
  have HB := Lib.hid hbe
  clear hbe
  have HSame := Lib.hid (fun (W : World) (hW : Pure W1 W) => (⟨enters_of Tryz.func100 (by kernel_rfl) rfl, fun pre s W' hs hJ => by
      have := (callsIn_wide (n := 0)).2 (dfind1_ok (HM.out.pure hJ) (hJ.heap (fun h => h) z2) (hJ.heap (fun h => h) z3) s hs)
      exact this.mono (fun e w' ⟨h1, h2⟩ => ⟨h1, hJ.trans h2, ModC.of_pure h2⟩), fun pre A B hJ hm => hJ.then hm (fun i hi hs => by have := hs.1; have := hW.size; omega), fun _ h => h.elim, hW⟩ :
    SameOk Tryz.prog 100 #[.pointer (some ⟨b, 0, none⟩), .pointer (some ⟨b + 1, 0, none⟩)] (fun _ s => keyL L s == key) (fun _ => False) (fun _ W' => Pure W1 W') W))
  have HF := Lib.hid (fun (W : World) (hW : Pure W1 W) => IFind_ok (HM.out.ix.pure hW) _ hsl (HSame.out W hW))
  obtain ⟨hh, hhe⟩ : ∃ hh, sumS seed same key = hh := ⟨_, rfl⟩
  rw [hhe] at HF HSum hsl
  have HHE := Lib.hid hhe
  clear hhe HSame
  have hb_0 := cell_of_row _ _ 0 _ _ _ hb; have hb_1 := cell_of_row _ _ 1 _ _ _ hb; have hb_2 := cell_of_row _ _ 2 _ _ _ hb; have hb_3 := cell_of_row _ _ 3 _ _ _ hb; have hb_f := (fun j => frozen_of_row _ _ j _ _ hb); have hb_l := lt_of_block hb; simp at hb_0 hb_1 hb_2 hb_3; have H_hb := Lib.hid hb; clear hb
  have z2_0 := cell_of_row _ _ 0 _ _ _ z2; have z2_f := (fun j => frozen_of_row _ _ j _ _ z2); have z2_l := lt_of_block z2; simp at z2_0; have H_z2 := Lib.hid z2; clear z2
  have z3_0 := cell_of_row _ _ 0 _ _ _ z3; have z3_f := (fun j => frozen_of_row _ _ j _ _ z3); have z3_l := lt_of_block z3; simp at z3_0; have H_z3 := Lib.hid z3; clear z3
  go_upto_region 3 with (go_at_call 48; refine Calls.mono HZ.out ?_; rintro e w' ⟨rfl, rfl⟩)
  go_region_held3 (fun w' => w'.cell? ⟨d, 3, none⟩ = some (.pointer (some ⟨p, 0, none⟩)) ∧ w'.cell? ⟨d, 1, none⟩ = some (.int .u64 seed) ∧ w'.cell? ⟨d, 2, none⟩ = some (.bool same) ∧ w'.cell? ⟨b, 0, none⟩ = some (.pointer (some ⟨d, 0, none⟩)) ∧ w'.cell? ⟨b + 1, 0, none⟩ = some (.string key))
    (first | exact ⟨hb_3, hb_1, hb_2, z2_0, z3_0⟩ | exact ⟨hp1.cell (fun h => h) hb_3, hp1.cell (fun h => h) hb_1, hp1.cell (fun h => h) hb_2, hp1.cell (fun h => h) z2_0, hp1.cell (fun h => h) z3_0⟩ | exact ⟨(hp1.trans hp2).cell (fun h => h) hb_3, (hp1.trans hp2).cell (fun h => h) hb_1, (hp1.trans hp2).cell (fun h => h) hb_2, (hp1.trans hp2).cell (fun h => h) z2_0, (hp1.trans hp2).cell (fun h => h) z3_0⟩)
    (first
      | (go_at_call 99; refine Calls.mono (HSum.out _) ?_; rintro e w1 ⟨rfl, hp1⟩)
      | (go_at_call 98; refine Calls.mono (HF.out _ (by (repeat' (first | (with_reducible exact Mod.refl _ _) | (with_reducible refine Mod.alloc ?_ _) | (with_reducible refine Mod.drew ?_) | (with_reducible refine Mod.drewN ?_ _) | (with_reducible refine Mod.setCell ?_ ?_ _) | (refine Mod.then ?_ (by with_reducible assumption) ?_))) <;> (all_goals (intros; first | (exfalso; assumption) | omega | (simp at *; done) | (simp at *; omega))))) ?_; rintro e w2 hq; obtain ⟨r, hr, he⟩ := HKE.out.find (by rw [HHE.out]; exact hq); have hp2 : Pure w1 w2 := Mod.mono hq.1 (fun k _ ⟨_, _, _, _, hf⟩ => hf); have HRR := Lib.hid hr; clear hq hr; subst he))
  go_wp2
  all_goals
    go_ret2
    exact ⟨r, HRR.out, rfl, HP.out.trans ((Mod.of_drew hp1).trans hp2)⟩

/-! ### Of -/
theorem liveFrom_up' (L : List (Option Ent)) : ∀ i, ((liveFrom i L).map Prod.fst).Pairwise (· < ·) := by
  induction L with
  | nil => intro i; simp [liveFrom]
  | cons o L ih =>
    intro i
    cases o with
    | none => exact ih (i + 1)
    | some e =>
      simp only [liveFrom, List.map_cons, List.pairwise_cons]
      refine ⟨fun y hy => ?_, ih (i + 1)⟩
      obtain ⟨g, hg, rfl⟩ := List.mem_map.1 hy
      have := (liveFrom_mem hg).1
      omega
theorem live_of {L : List (Option Ent)} : ∀ {i s : Nat} {e : Ent}, L[s]? = some (some e) → (i + s, e) ∈ liveFrom i L := by
  induction L with
  | nil => intro i s e h; simp at h
  | cons o L ih =>
    intro i s e h
    cases s with
    | zero =>
      simp at h; subst h
      simp [liveFrom]
    | succ s =>
      have := ih (i := i + 1) (s := s) (e := e) (by simpa using h)
      rw [show i + 1 + s = i + (s + 1) by omega] at this
      cases o <;> simp [liveFrom, this]
theorem liveOf_live' (L : List (Option Ent)) : ∀ i, (liveFrom i L).length = liveOf L := by
  induction L with
  | nil => intro i; rfl
  | cons o L ih =>
    intro i
    cases o with
    | none => simp only [liveFrom, liveOf, List.countP_cons] at *; simpa using ih (i + 1)
    | some e => simp only [liveFrom, liveOf, List.countP_cons, List.length_cons] at *; simpa using ih (i + 1)
/-- The slot numbers that were gone over; the index of them. -/
def slotsOf (pre : List (Nat × Ent)) (s : Nat) : Prop := s ∈ pre.map Prod.fst
def ofM (seed : Nat) (same : Bool) (L : List (Option Ent)) (pre : List (Nat × Ent)) : List Grp := (pre.map Prod.fst).foldl (putM (sumL seed same L)) (newG 1)
theorem ofM_snoc (seed : Nat) (same : Bool) (L : List (Option Ent)) (pre : List (Nat × Ent)) (g : Nat × Ent) : ofM seed same L (pre ++ [g]) = putM (sumL seed same L) (ofM seed same L pre) g.1 := by
  unfold ofM; rw [List.map_append, List.foldl_append]; rfl
theorem Part.put {L : List (Option Ent)} {pre : List (Nat × Ent)} {g : Nat × Ent} {post : List (Nat × Ent)} (h : Part seed same L (slotsOf pre) (ofM seed same L pre)) (hu : usedN (ofM seed same L pre) = pre.length) (hl : live L = pre ++ g :: post) (hlen : L.length ≤ 4194304)
    (hn : ∀ s, slotsOf pre s → keyL L s ≠ g.2.key) :
    Part seed same L (slotsOf (pre ++ [g])) (ofM seed same L (pre ++ [g])) ∧ usedN (ofM seed same L (pre ++ [g])) = (pre ++ [g]).length ∧ g.1 ≤ 4294967295 ∧
      ∃ x, planI (ofM seed same L pre).length (usedN (ofM seed same L pre)) (tombN (ofM seed same L pre)) = some x ∧ Pow x.1 ∧ usedN (ofM seed same L pre) ≤ 8 * x.1 ∧ insM (doG (sumL seed same L) x (ofM seed same L pre)) (sumL seed same L g.1) g.1 = some (ofM seed same L (pre ++ [g])) := by
  have hup := liveFrom_up' L 0
  rw [show liveFrom 0 L = live L from rfl, hl, List.map_append, List.map_cons, List.pairwise_append] at hup
  have hnot : ¬ slotsOf pre g.1 := fun hs => by have := hup.2.2 _ hs g.1 (by simp); omega
  have hg : L[g.1]? = some (some g.2) := live_mem (by rw [hl]; simp)
  have hlt := (List.getElem?_eq_some_iff.1 hg).1
  have hpl : pre.length ≤ 4194304 := by have := live_length L; rw [hl] at this; simp at this; omega
  obtain ⟨x, k1, k2, k3, k4, k5, k6, k7, k8⟩ := h.holds.put (by rw [hu]; exact hpl) (s := g.1) (by omega) hnot
  rw [ofM_snoc]
  have hiff : ∀ s, slotsOf (pre ++ [g]) s ↔ s = g.1 ∨ slotsOf pre s := fun s => by unfold slotsOf; simp [or_comm]
  refine ⟨⟨k7.of_iff (fun s => (hiff s).symm), fun s hs => ?_, fun s t hs ht hk => ?_⟩, by rw [k8, hu]; simp, by omega, x, k1, k2, k3, k6⟩
  · rcases (hiff s).1 hs with rfl | hs
    · exact ⟨g.2, hg⟩
    · exact h.sub s hs
  · rcases (hiff s).1 hs with rfl | hs <;> rcases (hiff t).1 ht with rfl | ht
    · rfl
    · rw [keyL_some hg] at hk; exact absurd hk.symm (hn t ht)
    · rw [keyL_some hg] at hk; exact absurd hk (hn s hs)
    · exact h.uniq s t hs ht hk
end
end Go.Proofs.YtapplindfijngaaGreat

/- dict.Of: the walk. -/
namespace Go.Proofs.YtapplindfijngaaGreat
open Go.RowKit Go.Shelf
set_option maxRecDepth 100000
attribute [local go_sem] Oper.semAt_some

theorem LogAt.quiet' {N : Nat} {A B : World} {D : Nat → Prop} {p : Nat} {L : List (Option Ent)} (h : LogAt A D p L) (hq : Quiet N A B) : LogAt B D p L := by
  obtain ⟨sv, M, rfl, h⟩ := h
  exact (h.quiet hq).toAt
section
variable {w w' : World} {d q p : Nat} {sv : Value} {Dl : Nat → Prop} {seed : Nat} {same : Bool} {L : List (Option Ent)} {Gs : List Grp}
theorem DictMem.quiet {N : Nat} {A B : World} (h : DictMem A d q p sv Dl seed same L Gs) (hq : Quiet N A B) : DictMem B d q p sv Dl seed same L Gs :=
  ⟨hq.cells h.box, h.log.quiet' hq, h.ix.quiet hq, h.sd⟩
/-- The log of a dictionary is set. -/
theorem DictMem.relog {q0 : Nat} {Dl0 : Nat → Prop} {L0 : List (Option Ent)} (h : DictMem w d q0 p sv Dl0 seed same L0 Gs) (hl : LogAt w Dl q L) {Y : World} (hY : w.setCell ⟨d, 0, none⟩ (.pointer (some ⟨q, 0, none⟩)) = Y) :
    DictMem Y d q p sv Dl seed same L Gs ∧ Mod (fun k => k = d) w Y := by
  subst hY
  have hm : Mod (fun k => k = d) w (w.setCell ⟨d, 0, none⟩ (.pointer (some ⟨q, 0, none⟩))) := Mod.set1 _ _ _
  refine ⟨⟨?_, hl.frame hm (fun k hk e => ?_) (fun k _ e cs fz e2 => by subst e; rw [h.box] at e2; cases e2), h.ix.mod hm (fun k hk e => ?_), h.sd⟩, hm⟩
  · have := heap_set1 (j := 0) (v := .pointer (some ⟨q, 0, none⟩)) h.box
    simpa using this
  · subst e
    rcases hl.types hk h.box with e | e <;> cases e
  · subst e
    rcases hk with e | e
    · exact h.npd e.symm
    · exact h.nsd e
end
/-- Between two rounds of Of. -/
structure OInv (w : World) (d q : Nat) (Dl : Nat → Prop) (seed : Nat) (same : Bool) (L : List (Option Ent)) (It : Nat → Prop) (b4 b5 b7 : Nat) (pre : List Given) (W : World) : Prop where
  r4 : W.heap[b4]? = some (.cells #[.pointer none] 24 (0, 0))
  r5 : W.heap[b5]? = some (.cells #[.int .i64 0] 44 (0, 0))
  r7 : W.heap[b7]? = some (.cells #[.pointer (some ⟨d, 0, none⟩)] 24 (0, 0))
  mem : ∃ p sv, DictMem W d q p sv Dl seed same L (ofM seed same L (pre.map keyG)) ∧ w.heap.size ≤ p ∧ (∀ k, sv.ownBlock = some k → w.heap.size ≤ k) ∧ ¬ It p ∧ ∀ k, sv.ownBlock = some k → ¬ It k
  part : Part seed same L (slotsOf (pre.map keyG)) (ofM seed same L (pre.map keyG))
  used : usedN (ofM seed same L (pre.map keyG)) = pre.length
  pu : Pure w W
theorem OInv.quiet {w : World} {d q : Nat} {Dl : Nat → Prop} {seed : Nat} {same : Bool} {L : List (Option Ent)} {It : Nat → Prop} {b4 b5 b7 : Nat} {pre : List Given} {A B : World} (h : OInv w d q Dl seed same L It b4 b5 b7 pre A) {N : Nat} (hN : w.heap.size ≤ N) (hq : Quiet N A B) : OInv w d q Dl seed same L It b4 b5 b7 pre B := by
  obtain ⟨p, sv, h1, h2⟩ := h.mem
  exact ⟨hq.cells h.r4, hq.cells h.r5, hq.cells h.r7, ⟨p, sv, h1.quiet hq, h2⟩, h.part, h.used, hq.mod h.pu hN⟩
def ofPost (w : World) (seed : Nat) (same : Bool) (L : List (Option Ent)) (e : Ending) (w' : World) : Prop :=
  (KeysOk L ∧ (∃ d D, e = .returned (.tuple #[.pointer (some ⟨d, 0, none⟩), .int .i64 0]) ∧ DictAt w' D d seed same L (ofM seed same L (live L)) ∧ ∀ k, D k → w.heap.size ≤ k) ∧ Pure w w') ∨
  (¬ KeysOk L ∧ e = .returned (.tuple #[.pointer none, .int .i64 11]) ∧ Pure w w')
/-- No block of the iterator is one of these types. -/
theorem iter_types {w3 : World} {B : Nat} {sv : Value} {M : List (Option Ent × Value)} (hit : IterAt w3 B sv M) {k : Nat} {cs : Array Value} {T : TypeId} {fz : Nat × Nat} (hb : w3.heap[k]? = some (.cells cs T fz)) (h1 : T ≠ 5) (h2 : T ≠ 29) (h3 : T ≠ 42) : ¬ iterBlocks B sv M k := by
  rintro (h | h | ⟨e, v, hm, h⟩)
  · subst h; rw [hit.box] at hb; cases hb; exact h2 rfl
  · obtain ⟨cc, e2⟩ := owns_type hit.row h
    rw [hb] at e2; cases e2; exact h3 rfl
  · obtain ⟨cc, e2⟩ := owns_type (hit.vals e v hm) h
    rw [hb] at e2; cases e2; exact h1 rfl
set_option maxHeartbeats 4000000 in
theorem of_ok {w : World} {D : Nat → Prop} {ql : Nat} {L : List (Option Ent)} (h : LogAt w D ql L) (seed : Nat) (same : Bool) (hsd : seed < 18446744073709551616) : Calls Tryz.prog 26 #[.agg #[.int .u64 seed, .bool same], .pointer (some ⟨ql, 0, none⟩)] w (ofPost w seed same L) := by
  have hp0 : Pure w (((w.alloc (.cells #[.int .u64 seed, .bool same] 27)).alloc (.cells #[.pointer none] 24)).alloc (.cells #[.int .i64 0] 44)) := (((Mod.refl _ w).alloc _).alloc _).alloc _
  have z2 := heap_keep (o := .cells #[.int .i64 0] 44) (heap_keep (o := .cells #[.pointer none] 24) (heap_new (w := w) (o := .cells #[.int .u64 seed, .bool same] 27 (0, 0)) rfl))
  have z4 := heap_keep (o := .cells #[.int .i64 0] 44) (heap_new (w := w.alloc (.cells #[.int .u64 seed, .bool same] 27)) (o := .cells #[.pointer none] 24 (0, 0)) (n := w.heap.size + 1) (by simp))
  have z5 := heap_new (w := (w.alloc (.cells #[.int .u64 seed, .bool same] 27)).alloc (.cells #[.pointer none] 24)) (o := .cells #[.int .i64 0] 44 (0, 0)) (n := w.heap.size + 1 + 1) (by simp)
  have HC := Lib.hid (copyA_ok (h.pure hp0))
  have HP := Lib.hid hp0
  have hok := h.ok
  have HOK := Lib.hid hok
  clear h hp0 hok
  (refine (callsIn_wide (n := 0)).1 (callsIn_of_wp_marks Tryz.func26 rfl trivial (wpIn_wide.2 ?_) rfl); simp only [Tryz.ntmps26, List.size_toArray, List.length_cons, List.length_nil, Nat.reduceAdd, Nat.reduceSub, Array.replicate_succ, Array.replicate_zero, List.push_toArray, List.append_toArray, List.nil_append, List.cons_append])
  go_upto_region 1 with fail
  generalize (((w.alloc (.cells #[.int .u64 seed, .bool same] 27)).alloc (.cells #[.pointer none] 24)).alloc (.cells #[.int .i64 0] 44)) = W1 at *
  obtain ⟨b4, hb4⟩ : ∃ b, w.heap.size + 1 = b := ⟨_, rfl⟩
  rw [hb4] at z4 z5 ⊢
  have hb4w : w.heap.size < b4 := by omega
  clear hb4
  go_upto_region 4 with (go_at_call 75; refine Calls.mono HC.out ?_; rintro e w2 ⟨q, Dl, rfl, hl2, hp2, hD2⟩; dsimp only [logPtr] at *)
  have zz2 := hp2.heap (fun h => h) z2; have zz4 := hp2.heap (fun h => h) z4; have zz5 := hp2.heap (fun h => h) z5
  have HL2 := Lib.hid hl2
  replace HP := Lib.hid (HP.out.trans hp2)
  have hw1 : b4 + 1 < W1.heap.size := lt_of_block z5
  have h12 : W1.heap.size ≤ w2.heap.size := hp2.size
  have HD2 := Lib.hid hD2
  clear z2 z4 z5 hl2 hp2 HC hD2
  have HN := Lib.hid (dnew_ok seed same hsd w2)
  have zz2_0 := cell_of_row _ _ 0 _ _ _ zz2; have zz2_1 := cell_of_row _ _ 1 _ _ _ zz2; have zz2_f := (fun j => frozen_of_row _ _ j _ _ zz2); have zz2_l := lt_of_block zz2; simp at zz2_0 zz2_1; have H_zz2 := Lib.hid zz2; clear zz2
  go_upto_region 5 with (go_at_call 8; refine Calls.mono HN.out ?_; rintro e w3 ⟨d, D3, rfl, hd3, hp3, hD3⟩; dsimp only [dPtr] at *)
  have hpa : Pure w3 (w3.alloc (.cells #[.pointer (some ⟨d, 0, none⟩)] 24)) := (Mod.refl _ w3).alloc _
  have z7 := heap_new (w := w3) (o := .cells #[.pointer (some ⟨d, 0, none⟩)] 24 (0, 0)) rfl
  obtain ⟨q0, p, sv, Dl0, hm3, hk3, hdd3⟩ := hd3
  have hm4 := hm3.pure hpa
  have y4 := (hp3.trans hpa).heap (fun h => h) zz4; have y5 := (hp3.trans hpa).heap (fun h => h) zz5
  replace HL2 := Lib.hid (HL2.out.pure (hp3.trans hpa))
  have h23 : w2.heap.size ≤ w3.heap.size := hp3.size
  have hpw2 : w.heap.size ≤ w2.heap.size := HP.out.size
  have hfp : w2.heap.size ≤ p := hD3 p ((hdd3 p).2 (.inr (.inr (.inl rfl))))
  have hfs : ∀ k, sv.ownBlock = some k → w2.heap.size ≤ k := fun k hk => hD3 k ((hdd3 k).2 (.inr (.inr (.inr hk))))
  have hfd : w2.heap.size ≤ d := hD3 d ((hdd3 d).2 (.inl rfl))
  replace HP := Lib.hid ((HP.out.trans hp3).trans hpa)
  clear zz2_0 zz2_1 zz2_f zz2_l
  clear H_zz2 hp3 hpa hm3 hk3 hdd3 hD3 zz4 zz5 HN
  generalize hW4 : w3.alloc (.cells #[.pointer (some ⟨d, 0, none⟩)] 24) = W4 at *
  clear hW4
  obtain ⟨b7, hb7⟩ : ∃ b, w3.heap.size = b := ⟨_, rfl⟩
  rw [hb7] at z7 h23 ⊢
  clear hb7
  have HM4 := Lib.hid hm4
  have hb := hm4.box
  clear hm4
  have hb_0 := cell_of_row _ _ 0 _ _ _ hb; have hb_1 := cell_of_row _ _ 1 _ _ _ hb; have hb_2 := cell_of_row _ _ 2 _ _ _ hb; have hb_3 := cell_of_row _ _ 3 _ _ _ hb; have hb_f := (fun j => frozen_of_row _ _ j _ _ hb); have hb_l := lt_of_block hb; simp at hb_0 hb_1 hb_2 hb_3; have H_hb := Lib.hid hb; clear hb
  have hz7 := z7
  have hz7_0 := cell_of_row _ _ 0 _ _ _ hz7; have hz7_f := (fun j => frozen_of_row _ _ j _ _ hz7); have hz7_l := lt_of_block hz7; simp at hz7_0; have H_hz7 := Lib.hid hz7; clear hz7
  go_upto_region 6 with fail
  obtain ⟨Y, hY⟩ : ∃ Y, W4.setCell ⟨d, 0, none⟩ (.pointer (some ⟨q, 0, none⟩)) = Y := ⟨_, rfl⟩
  obtain ⟨g1, g2⟩ := HM4.out.relog HL2.out hY
  rw [hY]
  have ndb : ∀ {k : Nat} {cs : Array Value} {T : TypeId}, W4.heap[k]? = some (.cells cs T (0, 0)) → T ≠ 107 → k ≠ d := fun {k cs T} hk hT e => by subst e; rw [HM4.out.box] at hk; cases hk; exact hT rfl
  have x4 := g2.heap (ndb y4 (by decide)) y4; have x5 := g2.heap (ndb y5 (by decide)) y5; have x7 := g2.heap (ndb z7 (by decide)) z7
  have hpY : Pure w Y := HP.out.then g2 (fun i hi e => by omega)
  have HG := Lib.hid g1; have HPY := Lib.hid hpY
  have h4Y : W4.heap.size ≤ Y.heap.size := g2.size
  have hb7l : b7 < W4.heap.size := hz7_l
  clear hb_0 hb_1 hb_2 hb_3 hb_f hb_l
  clear hz7_0 hz7_f hz7_l
  clear H_hb H_hz7 hY g2 HM4 HL2 HP ndb hpY y4 y5 z7 g1
  have HAl := Lib.hid (allA_ok HG.out.log)
  go_wp2_with (go_at_call 76; refine Calls.mono HAl.out ?_; rintro e w6 ⟨M, B, a, c, hM, rfl, hit, hp6, hB, hfr⟩)
  have HIT := Lib.hid hit
  have hItlt : ∀ k, iterBlocks B (.slice a M.length c) M k → k < w6.heap.size := by
    rintro k (rfl | h | ⟨e, v, hm, h⟩)
    · exact lt_of_block hit.box
    · exact owns_lt hit.row h
    · exact owns_lt (hit.vals e v hm) h
  have hG6 := HG.out.pure hp6
  have hnt := fun {k cs T} (hk : w6.heap[k]? = some (.cells cs T (0, 0))) h1 h2 h3 => iter_types hit (k := k) (cs := cs) (T := T) hk h1 h2 h3
  have hI0 : OInv w d q Dl seed same L (iterBlocks B (.slice a M.length c) M) b4 (b4 + 1) b7 [] w6 := by
    refine ⟨hp6.heap (fun h => h) x4, hp6.heap (fun h => h) x5, hp6.heap (fun h => h) x7, ⟨p, sv, hG6, by omega, fun k hk => by have := hfs k hk; omega, hnt hG6.ix.box (by decide) (by decide) (by decide), fun k hk => ?_⟩, ?_, ?_, HPY.out.trans hp6⟩
    · obtain ⟨cc, e2⟩ := owns_type hG6.ix.row hk
      exact hnt e2 (by decide) (by decide) (by decide)
    · exact (part_new seed same L).keeps' (fun s => by simp [slotsOf])
    · exact newG_used 1
  have nd := Lib.hid (hnt hG6.box (by decide) (by decide) (by decide))
  have n4 := Lib.hid (hnt hI0.r4 (by decide) (by decide) (by decide)); have n5 := Lib.hid (hnt hI0.r5 (by decide) (by decide) (by decide))
  have hw6 : b7 < w6.heap.size := lt_of_block hI0.r7
  have hY6 : Y.heap.size ≤ w6.heap.size := hp6.size
  have hw46 : b4 + 1 < w6.heap.size := lt_of_block hI0.r5
  clear hit hp6 hB hfr hG6 hnt x4 x5 x7 HAl HG
  generalize hItd : iterBlocks B (.slice a M.length c) M = It at *
  refine wpIn_wide.1 (wp_range2 (gf := 127) (lb := #[.pointer (some ⟨B, 0, none⟩)]) rfl (enters_of Tryz.func127 (by kernel_rfl) rfl) (It := It) (hItd ▸ All_iter HIT.out w6.heap.size (Nat.le_refl _)) hItlt (fun _ => rfl)
    (fun pre W => OInv w d q Dl seed same L It b4 (b4 + 1) b7 pre W ∧ w6.heap.size ≤ W.heap.size) (fun cd pre W => cd = .ret ∧ W.heap[b4]? = some (.cells #[.pointer none] 24 (0, 0)) ∧ W.heap[b4 + 1]? = some (.cells #[.int .i64 11] 44 (0, 0)) ∧ ¬ KeysOk L ∧ Pure w W) ?hI ?hIx ⟨hI0, Nat.le_refl _⟩ ?round ?done ?stop)
  case hI => exact fun pre A B ⟨h, hz⟩ hq => ⟨h.quiet (by omega) hq, Nat.le_trans hz (Mod.size hq)⟩
  case hIx => exact fun cd pre A B ⟨h1, h2, h3, h4, h5⟩ hq => ⟨h1, hq.cells h2, hq.cells h3, h4, hq.mod h5 (by omega)⟩
  case stop =>
    rintro l cd pre W hl ⟨rfl, h1, h2, h3, h4⟩ hK
    have hq : Quiet w6.heap.size _ _ := Quiet.putObj (.deferred none) hl hK rfl
    have y4 := cell_of_row _ _ 0 _ _ _ (hq.cells h1); have y5 := cell_of_row _ _ 0 _ _ _ (hq.cells h2)
    simp at y4 y5
    refine wpIn_wide.2 ?_
    go_wp2
    exact bodyPostM_drained (v := .tuple #[.pointer none, .int .i64 11]) hK (by simp [results, Tryz.results26, go_sem, y4, y5]) (.inr ⟨h3, rfl, hq.mod h4 (by omega)⟩)
  case done =>
    rintro l xs W hl hS ⟨hI, hWs⟩ hK
    have hS' : xs.map keyG = live L := by rw [← hM]; exact hS
    obtain ⟨p2, sv2, hm, hf1, hf2, _, _⟩ := hI.mem
    have hpt := hI.part; have hus := hI.used
    rw [hS'] at hm hpt hus
    have hkeeps : Keeps seed same L (ofM seed same L (live L)) := hpt.keeps (fun s => ⟨fun hs => hpt.sub s hs, fun ⟨e, he⟩ => by
      have := live_of (i := 0) he
      rw [Nat.zero_add] at this
      exact List.mem_map.2 ⟨_, this, rfl⟩⟩) (by rw [hus]; have := congrArg List.length hS'; rw [List.length_map] at this; rw [this]; exact liveOf_live' L 0)
    have r4 := hI.r4; have r5 := hI.r5; have r7 := hI.r7
    have HPU := Lib.hid hI.pu; have HM := Lib.hid hm; have HKE := Lib.hid hkeeps
    clear hI hI0 hItlt hS hS' hpt hus hm hkeeps
    have R4 := Lib.hid r4; have R5 := Lib.hid r5
    have n7 : b7 ≠ b4 := by omega
    have r4_0 := cell_of_row _ _ 0 _ _ _ r4; have r4_f := (fun j => frozen_of_row _ _ j _ _ r4); have r4_l := lt_of_block r4; simp at r4_0; have H_r4 := Lib.hid r4; clear r4
    have r5_0 := cell_of_row _ _ 0 _ _ _ r5; have r5_f := (fun j => frozen_of_row _ _ j _ _ r5); have r5_l := lt_of_block r5; simp at r5_0; have H_r5 := Lib.hid r5; clear r5
    have r7_0 := cell_of_row _ _ 0 _ _ _ r7; have r7_f := (fun j => frozen_of_row _ _ j _ _ r7); have r7_l := lt_of_block r7; simp at r7_0; have H_r7 := Lib.hid r7; clear r7
    go_wp2
    have hm2 : Mod (fun k => k = b4 ∨ k = b4 + 1) W ((W.setCell ⟨b4, 0, none⟩ (.pointer (some ⟨d, 0, none⟩))).setCell ⟨b4 + 1, 0, none⟩ (.int .i64 0)) := ((Mod.set1 b4 0 _).mono (fun _ _ h => .inl h)).trans ((Mod.set1 (b4 + 1) 0 _).mono (fun _ _ h => .inr h))
    have e4 := heap_set_other (a := ⟨b4 + 1, 0, none⟩) (v := .int .i64 0) (heap_set1 (j := 0) (v := .pointer (some ⟨d, 0, none⟩)) R4.out) (by show b4 ≠ b4 + 1; omega)
    have e5 := heap_set1 (j := 0) (v := .int .i64 0) (heap_set_other (a := ⟨b4, 0, none⟩) (v := .pointer (some ⟨d, 0, none⟩)) R5.out (by show b4 + 1 ≠ b4; omega))
    have hk := hm2.heap (by rintro (e | e) <;> omega) hK
    have hq : Quiet w6.heap.size _ _ := Quiet.putObj (.deferred none) hl hk rfl
    have y4 := cell_of_row _ _ 0 _ _ _ (hq.cells e4); have y5 := cell_of_row _ _ 0 _ _ _ (hq.cells e5)
    simp at y4 y5
    have hty : ∀ k, dictD d Dl p2 sv2 k → ¬ (k = b4 ∨ k = b4 + 1) := fun k hkd e => by
      rcases e with e | e
      · subst e; rcases HM.out.types hkd R4.out with e | e | e | e | e <;> cases e
      · subst e; rcases HM.out.types hkd R5.out with e | e | e | e | e <;> cases e
    have hm3 := (HM.out.frame hm2 hty (fun k _ e cs fz e2 => by rcases e with e | e <;> (subst e; first | (rw [R4.out] at e2; cases e2) | (rw [R5.out] at e2; cases e2)))).quiet hq
    refine bodyPostM_drained (v := .tuple #[.pointer (some ⟨d, 0, none⟩), .int .i64 0]) hk (by simp [results, Tryz.results26, go_sem, y4, y5]) (.inl ⟨HKE.out.keys, ⟨d, dictD d Dl p2 sv2, rfl, ⟨q, p2, sv2, Dl, hm3, HKE.out, fun _ => Iff.rfl⟩, ?_⟩, hq.mod (HPU.out.then hm2 (fun i hi e => by omega)) (by omega)⟩)
    rintro k (e | e | e | e)
    · omega
    · have := HD2.out k e; have : w.heap.size ≤ W1.heap.size := by omega
      omega
    · omega
    · exact hf2 k e
  case round =>
    rintro l pre ⟨i, x, v⟩ W K ⟨hI, hWs⟩ hG hK
    obtain ⟨va, vc, hv, _⟩ := owns_form hG.2.1
    dsimp only at hv
    subst hv
    dsimp only [encG]
    obtain ⟨⟨post, hpost⟩, _, _⟩ := hG
    rw [hM] at hpost
    have HPO := Lib.hid hpost
    have HCI := Lib.hid hI; have HK := Lib.hid hK; have HLT := Lib.hid hItlt
    clear hI hK hI0 HIT hItlt hpost
    gi_wp2
    have hP : Pure W (W.alloc (.cells #[.string x.key, .slice va (bytesOf x.val).length vc, .int .u64 x.dl, .int .u64 x.birth] 42)) := (Mod.refl _ W).alloc _
    have z9 := heap_new (w := W) (o := .cells #[.string x.key, .slice va (bytesOf x.val).length vc, .int .u64 x.dl, .int .u64 x.birth] 42 (0, 0)) rfl
    refine HK.out _ _ hP (fun l' W2 hl hr hq => ?_)
    replace HCI := Lib.hid ((HCI.out.quiet (N := w6.heap.size) (by omega) (Quiet.of_pure hP)).quiet (by omega) hq)
    have zz9 := hq.cells z9
    have hsz2 : w6.heap.size ≤ W2.heap.size := by have := Mod.size hq; have := hP.size; omega
    clear HK hP hq z9
    generalize W.heap.size = b9 at zz9 ⊢
    obtain ⟨p2, sv2, hm, hf1, hf2, hf3, hf4⟩ := HCI.out.mem
    have hxi : L[i]? = some (some x) := live_mem (g := (i, x)) (by rw [HPO.out]; simp [keyG])
    have hkx : x.key.size ≤ 250 := (HOK.out.ent x (List.mem_of_getElem? hxi)).k1
    have HXI := Lib.hid hxi
    have HF := Lib.hid (dfindG_ok hm HCI.out.part x.key (by omega))
    have HM := Lib.hid hm; have HF2 := Lib.hid hf2; have HF4 := Lib.hid hf4
    have r4 := HCI.out.r4; have r5 := HCI.out.r5; have r7 := HCI.out.r7
    clear hm hf2 hf4 hxi hkx
    have R7 := Lib.hid r7
    have zz9_0 := cell_of_row _ _ 0 _ _ _ zz9; have zz9_1 := cell_of_row _ _ 1 _ _ _ zz9; have zz9_2 := cell_of_row _ _ 2 _ _ _ zz9; have zz9_3 := cell_of_row _ _ 3 _ _ _ zz9; have zz9_f := (fun j => frozen_of_row _ _ j _ _ zz9); have zz9_l := lt_of_block zz9; simp at zz9_0 zz9_1 zz9_2 zz9_3; have H_zz9 := Lib.hid zz9; clear zz9
    have r7_0 := cell_of_row _ _ 0 _ _ _ r7; have r7_f := (fun j => frozen_of_row _ _ j _ _ r7); have r7_l := lt_of_block r7; simp at r7_0; have H_r7 := Lib.hid r7; clear r7
    gi_upto_region 10 with (gi_at_call 42; refine CallsIn.mono (CallsIn.inRound l' (callsIn_wide.2 HF.out)) ?_; rintro e w7 ⟨r, hr7, rfl, hp7⟩)
    have HR7 := Lib.hid hr7
    have q4 := hp7.heap (fun h => h) r4; have q5 := hp7.heap (fun h => h) r5; have q7 := hp7.heap (fun h => h) R7.out
    have HP7 := Lib.hid hp7
    clear r7_0 r7_f r7_l
    clear hr7 hp7 r4 r5 H_r7 HF zz9_0 zz9_1 zz9_2 zz9_3 zz9_f zz9_l H_zz9
    have Q4 := Lib.hid q4; have Q5 := Lib.hid q5
    rcases HR7.out with ⟨s, hs, hks, rfl⟩ | ⟨hn, rfl⟩
    · have hnk : ¬ KeysOk L := fun hkk => by
        obtain ⟨f, hf⟩ := HCI.out.part.sub s hs
        rw [keyL_some hf] at hks
        have := hkk s i f x hf HXI.out hks
        subst this
        have hup := liveFrom_up' L 0
        rw [show liveFrom 0 L = live L from rfl, HPO.out, List.map_append, List.map_cons, List.pairwise_append] at hup
        have := hup.2.2 _ hs s (by simp [keyG])
        omega
      have HNK := Lib.hid hnk
      clear hnk hks hs
      have q4_0 := cell_of_row _ _ 0 _ _ _ q4; have q4_f := (fun j => frozen_of_row _ _ j _ _ q4); have q4_l := lt_of_block q4; simp at q4_0; have H_q4 := Lib.hid q4; clear q4
      have q5_0 := cell_of_row _ _ 0 _ _ _ q5; have q5_f := (fun j => frozen_of_row _ _ j _ _ q5); have q5_l := lt_of_block q5; simp at q5_0; have H_q5 := Lib.hid q5; clear q5
      gi_wp2
      have hm2 : Mod (fun k => k = b4 ∨ k = b4 + 1) w7 ((w7.setCell ⟨b4, 0, none⟩ (.pointer none)).setCell ⟨b4 + 1, 0, none⟩ (.int .i64 11)) := ((Mod.set1 b4 0 _).mono (fun _ _ h => .inl h)).trans ((Mod.set1 (b4 + 1) 0 _).mono (fun _ _ h => .inr h))
      have hm3 := (Mod.of_pure (S := fun k => k = b4 ∨ k = b4 + 1) HP7.out).trans hm2
      refine ⟨KeepsRec.of_mod hm3 (fun k hk h => by omega), rfl, heap_set_other (heap_set1 (j := 0) Q4.out) (by show b4 ≠ b4 + 1; omega), heap_set1 (j := 0) (heap_set_other Q5.out (by show b4 + 1 ≠ b4; omega)), HNK.out, (HCI.out.pu.trans HP7.out).then hm2 (fun k hk h => by omega)⟩
    · obtain ⟨pt1, pt2, pt3, y, k1, k2, k3, k4⟩ := HCI.out.part.put (g := (i, x)) (post := post) (by rw [HCI.out.used]; simp) (by rw [HPO.out]; rfl) HOK.out.len hn
      have HPT := Lib.hid pt1; have HPU2 := Lib.hid pt2
      have HPut := Lib.hid (dput_ok (HM.out.pure HP7.out) k1 k2 k3 (s := i) pt3 k4)
      clear pt1 pt2 k1 k2 k3 k4 hn
      have q7_0 := cell_of_row _ _ 0 _ _ _ q7; have q7_f := (fun j => frozen_of_row _ _ j _ _ q7); have q7_l := lt_of_block q7; simp at q7_0; have H_q7 := Lib.hid q7; clear q7
      gi_wp2_with (gi_at_call 52; refine CallsIn.mono (CallsIn.inRound l' (callsIn_wide.2 HPut.out)) ?_; rintro e w8 ⟨p3, sv3, rfl, hm8, hmod8, hsx8⟩)
      have hsz7 : W2.heap.size ≤ w7.heap.size := HP7.out.size
      have hmA := (Mod.of_pure (S := fun k => k = d ∨ k = p2 ∨ sv2.ownBlock = some k) HP7.out).trans hmod8
      have hn4 : ∀ {k : Nat} {cs : Array Value} {T : TypeId}, w7.heap[k]? = some (.cells cs T (0, 0)) → T ≠ 107 → T ≠ 164 → T ≠ 168 → ¬ (k = d ∨ k = p2 ∨ sv2.ownBlock = some k) := fun {k cs T} hk t1 t2 t3 e => by
        have hM7 := HM.out.pure HP7.out
        rcases e with e | e | e
        · subst e; rw [hM7.box] at hk; cases hk; exact t1 rfl
        · subst e; rw [hM7.ix.box] at hk; cases hk; exact t2 rfl
        · obtain ⟨cc, e2⟩ := owns_type hM7.ix.row e
          rw [hk] at e2; cases e2; exact t3 rfl
      have hcell : ∀ k, (k = d ∨ k = p2 ∨ sv2.ownBlock = some k) → ∀ o, W2.heap[k]? = some o → o.isCells = true := fun k hk o ho => by
        rcases hk with e | e | e
        · subst e; rw [HM.out.box] at ho; cases ho; rfl
        · subst e; rw [HM.out.ix.box] at ho; cases ho; rfl
        · obtain ⟨cc, e2⟩ := owns_type HM.out.ix.row e
          rw [ho] at e2; cases e2; rfl
      have hfr : w.heap.size ≤ p3 ∧ (∀ k, sv3.ownBlock = some k → w.heap.size ≤ k) ∧ ¬ It p3 ∧ ∀ k, sv3.ownBlock = some k → ¬ It k := by
        rcases hsx8 with ⟨rfl, rfl⟩ | ⟨g1, g2⟩
        · exact ⟨hf1, HF2.out, hf3, HF4.out⟩
        · exact ⟨by omega, fun k hk => by have := g2 k hk; omega, fun hi => by have := HLT.out _ hi; omega, fun k hk hi => by have := g2 k hk; have := HLT.out _ hi; omega⟩
      refine ⟨KeepsRec.of_mod hmA (fun k _ h o ho => hcell k h o ho), KeepsIt.of_mod hmA (fun k hi h => ?_), ⟨hmod8.heap (hn4 Q4.out (by decide) (by decide) (by decide)) Q4.out, hmod8.heap (hn4 Q5.out (by decide) (by decide) (by decide)) Q5.out, hmod8.heap (hn4 H_q7.out (by decide) (by decide) (by decide)) H_q7.out, ⟨p3, sv3, ?_, hfr⟩, ?_, ?_, ?_⟩, Nat.le_trans hsz2 hmA.size⟩
      · rcases h with h | h | h
        · subst h; exact nd.out hi
        · subst h; exact hf3 hi
        · exact HF4.out k h hi
      · rw [List.map_append]; exact hm8
      · rw [List.map_append]; exact HPT.out
      · rw [List.map_append]; have := HPU2.out; simpa [keyG] using this
      · refine (HCI.out.pu.trans HP7.out).then hmod8 (fun k hk h => ?_)
        rcases h with h | h | h
        · omega
        · omega
        · have := HF2.out k h; omega
end Go.Proofs.YtapplindfijngaaGreat

/- law10.known answers true. -/
namespace Go.Proofs.YtapplindfijngaaGreat
open Go.RowKit Go.Shelf
set_option maxRecDepth 100000
attribute [local go_sem] Oper.semAt_some

@[go_sem] theorem eql_seq3 (w : World) (fn : Fn) (fi ca : Array Value) : (binOp .eql 99 (.func fn fi ca) .nilFunc).run Tryz.prog w = .ok (.bool false) w := by
  simp only [binOp]
  simp [Op.equal, Op.maxDepth, run_equal_func w 9999 _ fn fi ca Tryz.underlying99]
theorem hnew10 (seed : Int) (same : Bool) (w : World) : Calls Tryz.prog 9 #[.int .u64 seed, .bool same] w fun e w' => e = .returned (.agg #[.int .u64 seed, .bool same]) ∧ Pure w w' := by
  go_enter Tryz.func9, Tryz.ntmps9
  go_wp2
  refine bodyPost_ret (v := .agg #[.int .u64 seed, .bool same]) (by simp [results, Tryz.results9, go_sem]) rfl ⟨rfl, ?_⟩
  (repeat' (first | (with_reducible exact Mod.refl _ _) | (with_reducible refine Mod.alloc ?_ _) | (with_reducible refine Mod.drew ?_) | (with_reducible refine Mod.drewN ?_ _) | (with_reducible refine Mod.setCell ?_ ?_ _) | (refine Mod.then ?_ (by with_reducible assumption) ?_)))
  (all_goals (intros; first | (exfalso; assumption) | omega | (simp at *; done) | (simp at *; omega)))
def eK (k : UInt8) : Option Ent := some ⟨⟨#[k]⟩, [], 0, 1⟩
theorem okK (k : UInt8) : (Ent.mk ⟨#[k]⟩ [] 0 1).Ok := ⟨by show 0 < 1; omega, by show 1 ≤ 250; omega, by show 0 ≤ 65536; omega, by show (0 : Int) < 1; omega⟩
/-- The index behind the examples, and behind the entries c .. -/
def H10 (L : List (Option Ent)) : Nat → Nat := sumL 0 true L
def gk1 : List Grp := putM (H10 [eK 97]) (newG 1) 0
def gk2 : List Grp := putM (H10 [eK 97, eK 98]) gk1 1
def gk3 : List Grp := remM (H10 [eK 97, eK 98]) (H10 [none, eK 98]) gk2 0
def gk4 : List Grp := putM (H10 [none, eK 98, eK 97]) gk3 2
def kb : Nat → UInt8
  | 0 => 99
  | 1 => 100
  | 2 => 101
  | 3 => 102
  | 4 => 103
  | _ => 104
def LK : Nat → List (Option Ent)
  | 0 => [none, eK 98, eK 97]
  | i + 1 => LK i ++ [eK (kb i)]
def GK : Nat → List Grp
  | 0 => gk4
  | i + 1 => putM (H10 (LK (i + 1))) (GK i) (LK i).length
theorem gk2_sizes : gk2.length = 1 ∧ tombN gk2 = 0 := by decide +kernel
theorem gk4_sizes : gk4.length = 1 ∧ tombN gk4 = 0 := by decide +kernel
theorem GK6_sizes : (GK 6).length = 2 ∧ tombN (GK 6) = 0 := by decide +kernel

theorem dremG {w W : World} {d : Nat} {L : List (Option Ent)} {Gs : List Grp} (h : DG w W d 0 true L Gs) {s : Nat} {x : Ent} (hx : L[s]? = some (some x)) :
    Calls Tryz.prog 16 #[dPtr d, .int .u32 s] W fun e w' => ∃ a n c, e = .returned (.tuple #[.agg #[.string x.key, .slice a n c, .int .u64 x.dl, .int .u64 x.birth], .int .i64 0]) ∧ DG w w' d 0 true (L.set s none) (remM (H10 L) (H10 (L.set s none)) Gs s) := by
  obtain ⟨D, h1, h2, h3⟩ := h
  refine Calls.mono (drem_ok h1 hx) ?_
  rintro e w' ⟨a, n, c, rfl, _, _, D', g1, g2, g3⟩
  exact ⟨a, n, c, rfl, DG.step h2 h3 g1 g2 g3⟩
theorem DG.quiet {N : Nat} {w A B : World} {d seed : Nat} {same : Bool} {L : List (Option Ent)} {Gs : List Grp} (h : DG w A d seed same L Gs) (hN : w.heap.size ≤ N) (hq : Quiet N A B) : DG w B d seed same L Gs := by
  obtain ⟨D, ⟨q, p, sv, Dl, h1, h2, h3⟩, h4, h5⟩ := h
  exact ⟨D, ⟨q, p, sv, Dl, h1.quiet hq, h2, h3⟩, hq.mod h4 hN, h5⟩
def catK (G : List (Nat × Ent)) : ByteArray := G.foldl (fun s g => s ++ g.2.key) ⟨#[]⟩
structure KI (w : World) (d b5 : Nat) (pre : List Given) (W : World) : Prop where
  dg : DG w W d 0 true (LK 0) (GK 0)
  r5 : W.heap[b5]? = some (.cells #[.string (catK (pre.map keyG))] 9 (0, 0))
  sz : (catK (pre.map keyG)).size ≤ 250 * pre.length
set_option maxHeartbeats 4000000 in
theorem known10_true (w : World) : Calls Tryz.prog 7 #[] w fun e w' => e = .returned (.bool true) ∧ Pure w w' := by
  have HN : Hid (∀ W, Calls Tryz.prog 9 #[.int .u64 0, .bool true] W fun e w' => e = .returned (.agg #[.int .u64 0, .bool true]) ∧ Pure W w') := fun W => hnew10 0 true W
  (refine (callsIn_wide (n := 0)).1 (callsIn_of_wp_marks Tryz.func7 rfl trivial (wpIn_wide.2 ?_) rfl); simp only [Tryz.ntmps7, List.size_toArray, List.length_cons, List.length_nil, Nat.reduceAdd, Nat.reduceSub, Array.replicate_succ, Array.replicate_zero, List.push_toArray, List.append_toArray, List.nil_append, List.cons_append])
  go_upto_region 2 with (first
    | (go_at_call 9; refine Calls.mono (HN.out _) ?_; rintro e w1 ⟨rfl, hp1⟩)
    | (go_at_call 8; refine Calls.mono (newG' (w := w) 0 true (by decide) hp1) ?_; rintro e w2 ⟨d, rfl, hd, _⟩))
  have HD := Lib.hid hd
  clear hd hp1 HN
  have T1 : True := trivial; have T2 : True := trivial
  go_upto_region 4 with (first
    | (go_at_call 43; clear T1; refine Calls.mono (inserts_ok HD.out ⟨#[97]⟩ (okK 97) (by decide) (by decide) 0 rfl) ?_; rintro e w3 ⟨rfl, hd3, _⟩; replace HD : Hid (DG w w3 d 0 true [eK 97] gk1) := hd3; clear hd3)
    | (go_at_call 43; clear T2; refine Calls.mono (inserts_ok HD.out ⟨#[98]⟩ (okK 98) (by decide) (by decide) 1 rfl) ?_; rintro e w4 ⟨rfl, hd4, _⟩; replace HD : Hid (DG w w4 d 0 true [eK 97, eK 98] gk2) := hd4; clear hd4))
  have HB := Lib.hid (show Calls Tryz.prog 11 #[dPtr d, .agg #[.string ⟨#[97]⟩, .slice none 0 0, .int .u64 0, .int .u64 1]] w4 (dins0 w4 11) from by
    obtain ⟨D9, q1, q2, q3⟩ := HD.out
    exact dins_busy q1 ⟨⟨#[97]⟩, [], 0, 1⟩ (okK 97) (t := 0) (by decide) none 0 0 (ReadAt.nil _ _))
  have T1 : True := trivial; have T2 : True := trivial
  go_upto_region 7 with (first
    | (go_at_call 11; refine Calls.mono HB.out ?_; rintro e w5 ⟨rfl, hp5⟩; replace HD := Lib.hid (HD.out.pure hp5); clear hp5)
    | (go_at_call 44; clear T1; refine Calls.mono (finds10_ok HD.out ⟨#[98]⟩ (by decide) 1 0 (by decide) (by decide)) ?_; rintro e w6 ⟨rfl, hp6⟩; replace HD := Lib.hid (HD.out.pure hp6); clear hp6)
    | (go_at_call 44; clear T2; refine Calls.mono (finds10_ok HD.out ⟨#[99]⟩ (by decide) 0 9 (by decide) (by decide)) ?_; rintro e w7 ⟨rfl, hp7⟩; replace HD := Lib.hid (HD.out.pure hp7); clear hp7)
    | (go_at_call 13; refine Calls.mono (sizes10_ok HD.out 2 1 0 rfl (by rw [gk2_sizes.1]; rfl) (by rw [gk2_sizes.2]; rfl)) ?_; rintro e w8 ⟨rfl, hp8⟩; replace HD := Lib.hid (HD.out.pure hp8); clear hp8))
  have HR := Lib.hid (dremG HD.out (s := 0) (x := ⟨⟨#[97]⟩, [], 0, 1⟩) rfl)
  go_upto_region 8 with (go_at_call 16; refine Calls.mono HR.out ?_; rintro e w9 ⟨a9, n9, c9, rfl, hd9⟩)
  have hpa : Pure w9 (w9.alloc (.cells #[.string ⟨#[97]⟩, .slice a9 n9 c9, .int .u64 0, .int .u64 1] 42)) := (Mod.refl _ w9).alloc _
  have z4 := heap_new (w := w9) (o := .cells #[.string ⟨#[97]⟩, .slice a9 n9 c9, .int .u64 0, .int .u64 1] 42 (0, 0)) rfl
  replace HD : Hid (DG w (w9.alloc (.cells #[.string ⟨#[97]⟩, .slice a9 n9 c9, .int .u64 0, .int .u64 1] 42)) d 0 true [none, eK 98] gk3) := DG.pure hd9 hpa
  clear hd9 hpa HB HR
  generalize w9.alloc (.cells #[.string ⟨#[97]⟩, .slice a9 n9 c9, .int .u64 0, .int .u64 1] 42) = W9 at *
  generalize w9.heap.size = b4 at *
  have z4_0 := cell_of_row _ _ 0 _ _ _ z4; have z4_1 := cell_of_row _ _ 1 _ _ _ z4; have z4_2 := cell_of_row _ _ 2 _ _ _ z4; have z4_3 := cell_of_row _ _ 3 _ _ _ z4; have z4_f := (fun j => frozen_of_row _ _ j _ _ z4); have z4_l := lt_of_block z4; simp at z4_0 z4_1 z4_2 z4_3; have H_z4 := Lib.hid z4; clear z4
  have T1 : True := trivial; have T2 : True := trivial
  go_upto_region 10 with (first
    | (go_at_call 44; clear T1; refine Calls.mono (finds10_ok HD.out ⟨#[97]⟩ (by decide) 0 9 (by decide) (by decide)) ?_; rintro e w10 ⟨rfl, hp10⟩; replace HD := Lib.hid (HD.out.pure hp10); clear hp10)
    | (go_at_call 43; refine Calls.mono (inserts_ok HD.out ⟨#[97]⟩ (okK 97) (by decide) (by decide) 2 rfl) ?_; rintro e w11 ⟨rfl, hd11, _⟩; replace HD : Hid (DG w w11 d 0 true (LK 0) (GK 0)) := hd11; clear hd11)
    | (go_at_call 44; clear T2; refine Calls.mono (finds10_ok HD.out ⟨#[97]⟩ (by decide) 2 0 (by decide) (by decide)) ?_; rintro e w12 ⟨rfl, hp12⟩; replace HD := Lib.hid (HD.out.pure hp12); clear hp12)
    | (go_at_call 13; refine Calls.mono (sizes10_ok HD.out 3 1 0 rfl (by show ((gk4.length : Nat) : Int) = 1; rw [gk4_sizes.1]; rfl) (by show ((tombN gk4 : Nat) : Int) = 0; rw [gk4_sizes.2]; rfl)) ?_; rintro e w13 ⟨rfl, hp13⟩; replace HD := Lib.hid (HD.out.pure hp13); clear hp13))
  clear z4_0 z4_1 z4_2 z4_3 z4_f z4_l
  clear H_z4
  have HAl := Lib.hid (show Calls Tryz.prog 45 #[.pointer (some ⟨d, 0, none⟩)] w13 (allA w13 (LK 0)) from by obtain ⟨D9, q1, q2, q3⟩ := HD.out; exact dall_ok q1)
  go_upto_region 11 with (go_at_call 45; refine Calls.mono HAl.out ?_; rintro e w14 ⟨M, B, a3, c3, hM, rfl, hit, hp14, hB, hfr⟩)
  have hpb : Pure w14 (w14.alloc (.cells #[.string ⟨#[]⟩] 9)) := (Mod.refl _ w14).alloc _
  have z5 := heap_new (w := w14) (o := .cells #[.string ⟨#[]⟩] 9 (0, 0)) rfl
  have hit' := hit.keeps (KeepsIt.of_pure hpb)
  have hb5ww : w.heap.size ≤ w14.heap.size := (HD.out.pure hp14).pu.size
  replace HD := Lib.hid ((HD.out.pure hp14).pure hpb)
  clear hit hp14 hpb hB hfr HAl
  generalize w14.alloc (.cells #[.string ⟨#[]⟩] 9) = W14 at *
  generalize w14.heap.size = b5 at *
  have HIT := Lib.hid hit'
  have hItlt : ∀ k, iterBlocks B (.slice a3 M.length c3) M k → k < W14.heap.size := by
    rintro k (rfl | h | ⟨e, v, hm, h⟩)
    · exact lt_of_block hit'.box
    · exact owns_lt hit'.row h
    · exact owns_lt (hit'.vals e v hm) h
  have hI0 : KI w d b5 [] W14 := ⟨HD.out, z5, by decide⟩
  have n5 := Lib.hid (iter_types hit' z5 (by decide) (by decide) (by decide))
  have hw14 : w.heap.size ≤ W14.heap.size := HD.out.pu.size
  have hb5 : b5 < W14.heap.size := lt_of_block z5
  have hb5w : w.heap.size ≤ b5 := hb5ww
  clear hit' z5
  generalize hItd : iterBlocks B (.slice a3 M.length c3) M = It at *
  go_wp2
  refine wpIn_wide.1 (wp_range2 (gf := 127) (lb := #[.pointer (some ⟨B, 0, none⟩)]) rfl (enters_of Tryz.func127 (by kernel_rfl) rfl) (It := It) (hItd ▸ All_iter HIT.out W14.heap.size (Nat.le_refl _)) hItlt (fun _ => rfl)
    (fun pre W => KI w d b5 pre W ∧ W14.heap.size ≤ W.heap.size) (fun _ _ _ => False) ?hI ?hIx ⟨hI0, Nat.le_refl _⟩ ?round ?done ?stop)
  case hI => exact fun pre A B ⟨h, hz⟩ hq => ⟨⟨h.dg.quiet hw14 hq, hq.cells h.r5, h.sz⟩, Nat.le_trans hz (Mod.size hq)⟩
  case hIx => exact fun _ _ _ _ h _ => h
  case stop => exact fun _ _ _ _ _ h _ => h.elim
  case done =>
    rintro l xs W hl hS ⟨hI, hWs⟩ hK
    have hS' : xs.map keyG = live (LK 0) := by rw [← hM]; exact hS
    have r5 := hI.r5
    rw [hS', show catK (live (LK 0)) = ⟨#[98, 97]⟩ from by decide] at r5
    have HG := Lib.hid hI.dg
    clear hI hI0 hItlt hS hS' hWs
    have HK := Lib.hid hK
    clear hK
    go_wp2
    go_loopw [9] (fun v9 wr => ∃ i, v9 = .int .i64 (i : Nat) ∧ i ≤ 6 ∧ DG w wr d 0 true (LK i) (GK i) ∧ wr.heap[b5]? = some (.cells #[.string ⟨#[98, 97]⟩] 9 (0, 0)) ∧ wr.heap[l]? = some (.deferred (some []))) (fun v9 _ => 6 - (intOf v9).toNat)
    case atStart => exact ⟨0, rfl, by omega, HG.out, r5, HK.out⟩
    case round =>
      obtain ⟨i, rfl, hi, hg, hr5, hrl⟩ := hrel
      have HGi := Lib.hid hg
      clear hg
      have hcase : i = 0 ∨ i = 1 ∨ i = 2 ∨ i = 3 ∨ i = 4 ∨ i = 5 ∨ i = 6 := by omega
      have HR5 := Lib.hid hr5; have HRL := Lib.hid hrl
      clear hr5 hrl
      rcases hcase with rfl | rfl | rfl | rfl | rfl | rfl | rfl
      · have hkx : (⟨#[99, 100, 101, 102, 103, 104]⟩ : ByteArray).extract 0 1 = ⟨#[99]⟩ := by decide
        go_upto_region 18 with (go_at_call 43; refine Calls.mono (inserts_ok HGi.out ⟨#[99]⟩ (okK 99) (by decide) (by decide) 3 (by decide)) ?_; rintro e w16 ⟨rfl, hd16, hk16⟩)
        have q5 := hk16 b5 _ HR5.out (by intro cs T fz e; cases e; decide)
        have ql := hk16 l _ HRL.out (by intro cs T fz e; cases e)
        clear hk16
        go_wp2
        go_roundw
        case rel => exact ⟨1, by go_num, by omega, hd16, q5, ql⟩
        case measure => simp [intOf]
      · have hkx : (⟨#[99, 100, 101, 102, 103, 104]⟩ : ByteArray).extract 1 2 = ⟨#[100]⟩ := by decide
        go_upto_region 18 with (go_at_call 43; refine Calls.mono (inserts_ok HGi.out ⟨#[100]⟩ (okK 100) (by decide) (by decide) 4 (by decide)) ?_; rintro e w16 ⟨rfl, hd16, hk16⟩)
        have q5 := hk16 b5 _ HR5.out (by intro cs T fz e; cases e; decide)
        have ql := hk16 l _ HRL.out (by intro cs T fz e; cases e)
        clear hk16
        go_wp2
        go_roundw
        case rel => exact ⟨2, by go_num, by omega, hd16, q5, ql⟩
        case measure => simp [intOf]
      · have hkx : (⟨#[99, 100, 101, 102, 103, 104]⟩ : ByteArray).extract 2 3 = ⟨#[101]⟩ := by decide
        go_upto_region 18 with (go_at_call 43; refine Calls.mono (inserts_ok HGi.out ⟨#[101]⟩ (okK 101) (by decide) (by decide) 5 (by decide)) ?_; rintro e w16 ⟨rfl, hd16, hk16⟩)
        have q5 := hk16 b5 _ HR5.out (by intro cs T fz e; cases e; decide)
        have ql := hk16 l _ HRL.out (by intro cs T fz e; cases e)
        clear hk16
        go_wp2
        go_roundw
        case rel => exact ⟨3, by go_num, by omega, hd16, q5, ql⟩
        case measure => simp [intOf]
      · have hkx : (⟨#[99, 100, 101, 102, 103, 104]⟩ : ByteArray).extract 3 4 = ⟨#[102]⟩ := by decide
        go_upto_region 18 with (go_at_call 43; refine Calls.mono (inserts_ok HGi.out ⟨#[102]⟩ (okK 102) (by decide) (by decide) 6 (by decide)) ?_; rintro e w16 ⟨rfl, hd16, hk16⟩)
        have q5 := hk16 b5 _ HR5.out (by intro cs T fz e; cases e; decide)
        have ql := hk16 l _ HRL.out (by intro cs T fz e; cases e)
        clear hk16
        go_wp2
        go_roundw
        case rel => exact ⟨4, by go_num, by omega, hd16, q5, ql⟩
        case measure => simp [intOf]
      · have hkx : (⟨#[99, 100, 101, 102, 103, 104]⟩ : ByteArray).extract 4 5 = ⟨#[103]⟩ := by decide
        go_upto_region 18 with (go_at_call 43; refine Calls.mono (inserts_ok HGi.out ⟨#[103]⟩ (okK 103) (by decide) (by decide) 7 (by decide)) ?_; rintro e w16 ⟨rfl, hd16, hk16⟩)
        have q5 := hk16 b5 _ HR5.out (by intro cs T fz e; cases e; decide)
        have ql := hk16 l _ HRL.out (by intro cs T fz e; cases e)
        clear hk16
        go_wp2
        go_roundw
        case rel => exact ⟨5, by go_num, by omega, hd16, q5, ql⟩
        case measure => simp [intOf]
      · have hkx : (⟨#[99, 100, 101, 102, 103, 104]⟩ : ByteArray).extract 5 6 = ⟨#[104]⟩ := by decide
        go_upto_region 18 with (go_at_call 43; refine Calls.mono (inserts_ok HGi.out ⟨#[104]⟩ (okK 104) (by decide) (by decide) 8 (by decide)) ?_; rintro e w16 ⟨rfl, hd16, hk16⟩)
        have q5 := hk16 b5 _ HR5.out (by intro cs T fz e; cases e; decide)
        have ql := hk16 l _ HRL.out (by intro cs T fz e; cases e)
        clear hk16
        go_wp2
        go_roundw
        case rel => exact ⟨6, by go_num, by omega, hd16, q5, ql⟩
        case measure => simp [intOf]
      · have hq : DG w wr d 0 true (LK 6) (GK 6) := HGi.out
        have r5 := HR5.out
        have HS := Lib.hid (sizes10_ok hq 9 2 0 (by decide) (by rw [GK6_sizes.1]; rfl) (by rw [GK6_sizes.2]; rfl))
        have HLn := Lib.hid (fun (W' : World) (hW : Pure wr W') => len10_ok (hq.pure hW) 8 (by decide))
        have HPU := Lib.hid hq.pu
        clear hq
        have r5_0 := cell_of_row _ _ 0 _ _ _ r5; have r5_f := (fun j => frozen_of_row _ _ j _ _ r5); have r5_l := lt_of_block r5; simp at r5_0; have H_r5 := Lib.hid r5; clear r5
        go_wp2_with (first
          | (go_at_call 13; refine Calls.mono HS.out ?_; rintro e w17 ⟨rfl, hp17⟩)
          | (go_at_call 19; refine Calls.mono (HLn.out _ hp17) ?_; rintro e w18 ⟨rfl, rfl⟩))
        have hk := hp17.heap (fun h => h) HRL.out
        have hlw : w.heap.size ≤ l := Nat.le_trans hw14 hl
        exact bodyPostM_drained (v := .bool true) hk (by simp [results, Tryz.results7, go_sem]) ⟨rfl, (Quiet.putObj (N := W14.heap.size) (.deferred none) hl hk rfl).mod (HPU.out.trans hp17) hw14⟩
  case round =>
    rintro l pre ⟨i, x, v⟩ W K ⟨hI, hWs⟩ hG hK
    obtain ⟨va, vc, hv, _⟩ := owns_form hG.2.1
    dsimp only at hv
    subst hv
    dsimp only [encG]
    obtain ⟨⟨post, hpost⟩, _, _⟩ := hG
    rw [hM] at hpost
    have hmem := live_mem (g := (i, x)) (by rw [hpost]; simp [keyG])
    have hkx : x.key.size ≤ 250 := by
      obtain ⟨D9, q1, q2, q3⟩ := hI.dg
      exact (q1.ok.ent x (List.mem_of_getElem? hmem)).k1
    have hpl : pre.length ≤ 4194304 := by
      obtain ⟨D9, q1, q2, q3⟩ := hI.dg
      have := Nat.le_trans (live_length _) q1.ok.len; rw [hpost] at this; simp at this; omega
    have HCI := Lib.hid hI; have HK := Lib.hid hK
    clear hI hK hI0 HIT hItlt hpost hmem
    gi_wp2
    have hP : Pure W (W.alloc (.cells #[.string x.key, .slice va (bytesOf x.val).length vc, .int .u64 x.dl, .int .u64 x.birth] 42)) := (Mod.refl _ W).alloc _
    have z9 := heap_new (w := W) (o := .cells #[.string x.key, .slice va (bytesOf x.val).length vc, .int .u64 x.dl, .int .u64 x.birth] 42 (0, 0)) rfl
    refine HK.out _ _ hP (fun l' W2 hl hr hq => ?_)
    have hdg := (HCI.out.dg.pure hP).quiet hw14 hq
    have r5 := hq.cells (hP.heap (fun h => h) HCI.out.r5)
    have hsz := HCI.out.sz
    have zz9 := hq.cells z9
    have hsz2 : W14.heap.size ≤ W2.heap.size := by have := Mod.size hq; have := hP.size; omega
    clear HK hP hq z9 HCI
    generalize W.heap.size = b8 at zz9 ⊢
    have hcat : catK ((pre ++ [(i, x, Value.slice va (bytesOf x.val).length vc)]).map keyG) = catK (pre.map keyG) ++ x.key := by simp [catK, keyG]
    have HCAT := Lib.hid hcat
    clear hcat
    generalize catK (pre.map keyG) = ks at *
    have hsum : ¬ (9223372036854775807 < ks.size + x.key.size) := by omega
    have hsum2 : ks.size + x.key.size ≤ 9223372036854775807 := by omega
    have HDG := Lib.hid hdg
    have R5 := Lib.hid r5
    clear hdg
    have zz9_0 := cell_of_row _ _ 0 _ _ _ zz9; have zz9_1 := cell_of_row _ _ 1 _ _ _ zz9; have zz9_2 := cell_of_row _ _ 2 _ _ _ zz9; have zz9_3 := cell_of_row _ _ 3 _ _ _ zz9; have zz9_f := (fun j => frozen_of_row _ _ j _ _ zz9); have zz9_l := lt_of_block zz9; simp at zz9_0 zz9_1 zz9_2 zz9_3; have H_zz9 := Lib.hid zz9; clear zz9
    have r5_0 := cell_of_row _ _ 0 _ _ _ r5; have r5_f := (fun j => frozen_of_row _ _ j _ _ r5); have r5_l := lt_of_block r5; simp at r5_0; have H_r5 := Lib.hid r5; clear r5
    gi_wp2
    have hm : Mod (fun k => k = b5) W2 (W2.setCell ⟨b5, 0, none⟩ (.string (ks ++ x.key))) := Mod.set1 _ _ _
    refine ⟨KeepsRec.of_mod hm (fun k hk h => by omega), KeepsIt.of_mod hm (fun k hk h => by subst h; exact n5.out hk), ⟨?_, ?_, ?_⟩, Nat.le_trans hsz2 hm.size⟩
    · obtain ⟨D9, q1, q2, q3⟩ := HDG.out
      refine ⟨D9, q1.frame hm (fun k hk e => ?_) (fun k _ e cs fz e2 => by subst e; rw [R5.out] at e2; cases e2), q2.then hm (fun k hk e => by omega), q3⟩
      subst e; rcases q1.types hk R5.out with e | e | e | e | e <;> cases e
    · rw [HCAT.out]; exact heap_set1 (j := 0) R5.out
    · rw [HCAT.out, ByteArray.size_append, List.length_append]; simp; omega
end Go.Proofs.YtapplindfijngaaGreat
