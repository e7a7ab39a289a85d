/- Lemmas and contracts of functions, strung together out of 1 texts. No condition. -/
import Derived.Test.YtapplindfijngaaGreatJPfDictOf29
import Derived.Test.YtapplindfijngaaGreatJPfDictOf28
import Derived.Test.YtapplindfijngaaGreatJPfDictOf26
import Derived.Test.YtapplindfijngaaGreatJPfDictOf15
import Derived.Test.YtapplindfijngaaGreatJPfDictOf6
/- law10.looks: a dictionary and the reference's of the same entries look the same. -/
namespace Go.Proofs.YtapplindfijngaaGreat
open Go.RowKit Go.Shelf
set_option maxRecDepth 100000
attribute [local go_sem] Oper.semAt_some

section
variable {w W : World} {D : Nat → Prop} {d seed : Nat} {same : Bool} {L : List (Option Ent)} {Gs : List Grp}
theorem finds10D (h : DictAt W D d seed same L Gs) (key : ByteArray) (hkey : key.size ≤ 140737488355328) (want no : Nat) (hv : findV L key = (want, no)) :
    Calls Tryz.prog 44 #[dPtr d, .string key, .int .u32 want, .int .i64 no] W fun e w' => e = .returned (.bool true) ∧ Pure W w' := by
  have HI := Lib.hid (Find_any h key hkey)
  unfold dfindPost at HI
  rw [hv] at HI
  clear h hv
  go_enter Tryz.func44, Tryz.ntmps44
  go_wp2_with (go_at_call 42; refine Calls.mono HI.out ?_; rintro e w1 ⟨rfl, hp⟩)
  go_ret
  exact ⟨by simp, hp⟩
theorem dlenP (h : DictAt W D d seed same L Gs) (n : Nat) (hn : liveOf L = n) : Calls Tryz.prog 19 #[dPtr d] W fun e w' => e = .returned (.int .i64 n) ∧ Pure W w' := by
  subst hn
  exact Calls.mono (dlen_ok h) (by rintro e w' ⟨rfl, rfl⟩; exact ⟨rfl, Mod.refl _ _⟩)
theorem sizes10D (h : DictAt W D d seed same L Gs) (a b c : Int) (ha : (L.length : Int) = a) (hb : (Gs.length : Int) = b) (hc : (tombN Gs : Int) = c) :
    Calls Tryz.prog 13 #[dPtr d, .int .i64 a, .int .i64 b, .int .i64 c] W fun e w' => e = .returned (.bool true) ∧ Pure W w' := by
  subst ha hb hc
  have HI := Lib.hid (dsizes_ok h)
  clear h
  go_enter Tryz.func13, Tryz.ntmps13
  go_wp2_with (go_at_call 41; refine Calls.mono HI.out ?_; rintro e w1 ⟨rfl, hp⟩)
  go_ret
  exact ⟨by simp, hp⟩
end
/-- The cells that a round reads. -/
def SLk (b7 b5 gw pl b9 b3 gL i4 b2 : Nat) (k0 w0 w1 e0 e1 e2 e3 l0 f0 f1 f2 f3 d0 : Value) (w' : World) : Prop :=
  w'.cell? ⟨b7, 0, none⟩ = some k0 ∧ w'.cell? ⟨b5, 0, none⟩ = some w0 ∧ w'.cell? ⟨gw, pl, none⟩ = some w1 ∧ w'.cell? ⟨b9, 0, none⟩ = some e0 ∧ w'.cell? ⟨b9, 1, none⟩ = some e1 ∧ w'.cell? ⟨b9, 2, none⟩ = some e2 ∧ w'.cell? ⟨b9, 3, none⟩ = some e3 ∧ w'.cell? ⟨b3, 2, none⟩ = some l0 ∧ w'.cell? ⟨gL, i4, none⟩ = some f0 ∧ w'.cell? ⟨gL, i4 + 1, none⟩ = some f1 ∧ w'.cell? ⟨gL, i4 + 2, none⟩ = some f2 ∧ w'.cell? ⟨gL, i4 + 3, none⟩ = some f3 ∧ w'.cell? ⟨b2, 0, none⟩ = some d0
theorem SLk.pure {b7 b5 gw pl b9 b3 gL i4 b2 : Nat} {k0 w0 w1 e0 e1 e2 e3 l0 f0 f1 f2 f3 d0 : Value} {X W : World} (h : SLk b7 b5 gw pl b9 b3 gL i4 b2 k0 w0 w1 e0 e1 e2 e3 l0 f0 f1 f2 f3 d0 X) (hp : Pure X W) : SLk b7 b5 gw pl b9 b3 gL i4 b2 k0 w0 w1 e0 e1 e2 e3 l0 f0 f1 f2 f3 d0 W := by
  obtain ⟨h1, h2, h3, h4, h5, h6, h7, h8, h9, h10, h11, h12, h13⟩ := h
  exact ⟨hp.cell (fun h => h) h1, hp.cell (fun h => h) h2, hp.cell (fun h => h) h3, hp.cell (fun h => h) h4, hp.cell (fun h => h) h5, hp.cell (fun h => h) h6, hp.cell (fun h => h) h7, hp.cell (fun h => h) h8, hp.cell (fun h => h) h9, hp.cell (fun h => h) h10, hp.cell (fun h => h) h11, hp.cell (fun h => h) h12, hp.cell (fun h => h) h13⟩
def SLa (b2 b3 : Nat) (d0 r0 r1 r2 r3 r4 r5 : Value) (w' : World) : Prop := w'.cell? ⟨b2, 0, none⟩ = some d0 ∧ w'.cell? ⟨b3, 0, none⟩ = some r0 ∧ w'.cell? ⟨b3, 1, none⟩ = some r1 ∧ w'.cell? ⟨b3, 2, none⟩ = some r2 ∧ w'.cell? ⟨b3, 3, none⟩ = some r3 ∧ w'.cell? ⟨b3, 4, none⟩ = some r4 ∧ w'.cell? ⟨b3, 5, none⟩ = some r5
theorem SLa.pure {b2 b3 : Nat} {d0 r0 r1 r2 r3 r4 r5 : Value} {X W : World} (h : SLa b2 b3 d0 r0 r1 r2 r3 r4 r5 X) (hp : Pure X W) : SLa b2 b3 d0 r0 r1 r2 r3 r4 r5 W := by
  obtain ⟨h1, h2, h3, h4, h5, h6, h7⟩ := h
  exact ⟨hp.cell (fun h => h) h1, hp.cell (fun h => h) h2, hp.cell (fun h => h) h3, hp.cell (fun h => h) h4, hp.cell (fun h => h) h5, hp.cell (fun h => h) h6, hp.cell (fun h => h) h7⟩
def SL3 (b2 : Nat) (d0 r2 r3 : Value) (w' : World) : Prop := w'.cell? ⟨b2, 0, none⟩ = some d0 ∧ w'.cell? ⟨b2 + 1, 2, none⟩ = some r2 ∧ w'.cell? ⟨b2 + 1, 3, none⟩ = some r3
theorem SL3.pure {b2 : Nat} {d0 r2 r3 : Value} {X W : World} (h : SL3 b2 d0 r2 r3 X) (hp : Pure X W) : SL3 b2 d0 r2 r3 W := by
  obtain ⟨h1, h2, h3⟩ := h
  exact ⟨hp.cell (fun h => h) h1, hp.cell (fun h => h) h2, hp.cell (fun h => h) h3⟩
theorem SL3.set {b2 b i : Nat} {d0 r2 r3 v : Value} {X : World} (h : SL3 b2 d0 r2 r3 X) (hb : b2 + 1 < b) : SL3 b2 d0 r2 r3 (X.setCell ⟨b, i, none⟩ v) := by
  obtain ⟨h1, h2, h3⟩ := h
  have hm : Mod (fun k => k = b) X (X.setCell ⟨b, i, none⟩ v) := Mod.set1 _ _ _
  exact ⟨hm.cell (fun e => by have e' : b2 = b := e; omega) h1, hm.cell (fun e => by have e' : b2 + 1 = b := e; omega) h2, hm.cell (fun e => by have e' : b2 + 1 = b := e; omega) h3⟩
def LkMid (u5 : World) (j : Nat) (L : List (Option Ent)) (b5 : Nat) (aw : Option Addr) (cw : Nat) (M : List (Option Ent × Value)) (B : Nat) (a : Option Addr) (c : Nat) (W : World) : Prop :=
  W.heap[b5]? = some (.cells #[.slice aw j cw] 34 (0, 0)) ∧ U32Row W aw cw (olds L) ∧ M.map Prod.fst = L ∧ IterAt W B (.slice a M.length c) M ∧ Pure u5 W
theorem lk_end1 {u5 u7 : World} {j : Nat} {L : List (Option Ent)} {aw : Option Addr} {cw : Nat} {M : List (Option Ent × Value)} {B : Nat} {a : Option Addr} {c : Nat} (hrw : U32Row u7 aw cw (olds L)) (hM : M.map Prod.fst = L) (hit : IterAt u7 B (.slice a M.length c) M) (hq : Pure u5 u7) :
    LkMid u5 j L u7.heap.size aw cw M B a c (u7.alloc (.cells #[.slice aw j cw] 34)) := by
  have hal : Pure u7 (u7.alloc (.cells #[.slice aw j cw] 34)) := (Mod.refl _ u7).alloc _
  exact ⟨heap_new rfl, owns_mod hrw hal (fun _ _ h => h), hM, hit.keeps (KeepsIt.of_pure hal), hq.trans hal⟩
theorem lk_end2 {u5 u7 : World} {j b5 : Nat} {L : List (Option Ent)} {aw : Option Addr} {cw : Nat} {M : List (Option Ent × Value)} {B : Nat} {a : Option Addr} {c : Nat} (hrw : U32Row u7 aw cw (olds L)) (hM : M.map Prod.fst = L) (hit : IterAt u7 B (.slice a M.length c) M) (hq : Pure u5 u7)
    (hb : u5.heap.size ≤ b5) (h5 : u7.heap[b5]? = some (.cells #[.slice none 0 0] 34 (0, 0))) : LkMid u5 j L b5 aw cw M B a c (u7.setCell ⟨b5, 0, none⟩ (.slice aw j cw)) := by
  have hm : Mod (fun k => k = b5) u7 (u7.setCell ⟨b5, 0, none⟩ (.slice aw j cw)) := Mod.set1 _ _ _
  refine ⟨?_, owns_modT hrw hm (fun i hi _ => by subst hi; exact ⟨_, _, _, h5, by decide⟩), hM, hit.keeps (KeepsIt.of_mod hm (fun k hk e => ?_)), hq.then hm (fun i hi e => by omega)⟩
  · have := heap_set1 (j := 0) (v := .slice aw j cw) h5
    simpa using this
  · subst e
    exact iter_types hit h5 (by decide) (by decide) (by decide) hk
/-- Between two rounds. -/
def LkI (X0 : World) (b7 : Nat) (pre : List Given) (W : World) : Prop := Mod (fun k => k = b7) X0 W ∧ W.heap[b7]? = some (.cells #[.int .i64 pre.length] 3 (0, 0))
theorem LkI.quiet {X0 A B : World} {b7 : Nat} {pre : List Given} (h : LkI X0 b7 pre A) (hq : Quiet X0.heap.size A B) : LkI X0 b7 pre B := ⟨hq.mod h.1 (Nat.le_refl _), hq.cells h.2⟩
theorem LkI.pure {X0 A B : World} {b7 : Nat} {pre : List Given} (h : LkI X0 b7 pre A) (hq : Pure A B) : LkI X0 b7 pre B := ⟨h.1.then hq (fun _ _ e => e.elim), hq.heap (fun h => h) h.2⟩
theorem olds_at {L : List (Option Ent)} {pre : List (Nat × Ent)} {g : Nat × Ent} {post : List (Nat × Ent)} (h : live L = pre ++ g :: post) : (olds L)[pre.length]? = some g.1 ∧ pre.length < (olds L).length := by
  unfold olds
  rw [h, List.map_append, List.map_cons]
  refine ⟨?_, by simp⟩
  rw [List.getElem?_append_right (by simp), List.length_map, Nat.sub_self]
  rfl
set_option maxHeartbeats 8000000 in
theorem looks_ok {w : World} {D : Nat → Prop} {d seed : Nat} {same : Bool} {L : List (Option Ent)} {Gs : List Grp} {r : RA} {Q : List RQ} (h : DictAt w D d seed same L Gs) (hr : RefD w r Q Gs) (hL : slotsR (Q.map absQ) = L) :
    Calls Tryz.prog 29 #[dPtr d, rdV seed same r Q.length (8 * Gs.length)] w fun e w' => e = .returned (.bool true) ∧ Pure w w' := by
  obtain ⟨n, hn⟩ : ∃ n, Q.length = n := ⟨_, rfl⟩
  obtain ⟨m, hm⟩ : ∃ m, 8 * Gs.length = m := ⟨_, rfl⟩
  have hLn : L.length = n := by rw [← hL, slotsR_length, List.length_map, hn]
  have hn4 : n ≤ 4194304 := by have := hr.l.len; omega
  obtain ⟨lv, hlv⟩ : ∃ lv, liveOf L = lv := ⟨_, rfl⟩
  obtain ⟨j, hj⟩ : ∃ j, (olds L).length = j := ⟨_, rfl⟩
  have hjn : j ≤ n := by have := live_length L; rw [hLn, ← olds_length, hj] at this; exact this
  rw [hn, hm]
  have hp0 : Pure w (((w.alloc (.cells #[.pointer (some ⟨d, 0, none⟩)] 24)).alloc (rdO seed same r n m)).alloc (.cells #[.bool false] 4)) := (((Mod.refl _ w).alloc _).alloc _).alloc _
  have h2 := heap_keep (o := .cells #[.bool false] 4) (heap_keep (o := rdO seed same r n m) (heap_new (w := w) (o := .cells #[.pointer (some ⟨d, 0, none⟩)] 24 (0, 0)) rfl))
  have h3 := heap_keep (o := .cells #[.bool false] 4) (heap_new (w := w.alloc (.cells #[.pointer (some ⟨d, 0, none⟩)] 24)) (o := rdO seed same r n m) (n := w.heap.size + 1) (by simp))
  have h4 := heap_new (w := (w.alloc (.cells #[.pointer (some ⟨d, 0, none⟩)] 24)).alloc (rdO seed same r n m)) (o := .cells #[.bool false] 4 (0, 0)) (n := w.heap.size + 1 + 1) (by simp)
  have HD := Lib.hid (h.pure hp0); have HR := Lib.hid (hr.pure hp0); have HP := Lib.hid hp0
  have HN := Lib.hid hn; have HM := Lib.hid hm; have HL := Lib.hid hL; have HLN := Lib.hid hLn; have HLV := Lib.hid hlv; have HJ := Lib.hid hj
  clear h hr hp0 hn hm hL hLn hlv hj
  obtain ⟨aL, cL, aG, cG, aC, cC, aS, cS⟩ := r
  dsimp only [rdO] at h2 h3 h4 HD HR HP ⊢
  (refine (callsIn_wide (n := 0)).1 (callsIn_of_wp_marks Tryz.func29 rfl trivial (wpIn_wide.2 ?_) rfl); simp only [Tryz.ntmps29, List.size_toArray, List.length_cons, List.length_nil, Nat.reduceAdd, Nat.reduceSub, Array.replicate_succ, Array.replicate_zero, List.push_toArray, List.append_toArray, List.nil_append, List.cons_append])
  go_upto_region 1 with fail
  generalize ((w.alloc (.cells #[.pointer (some ⟨d, 0, none⟩)] 24)).alloc (.cells #[.int .u64 seed, .bool same, .slice aL n cL, .slice aG n cG, .slice aC m cC, .slice aS m cS] 38)).alloc (.cells #[.bool false] 4) = X at *
  obtain ⟨b2, hb2⟩ : ∃ b, w.heap.size = b := ⟨_, rfl⟩
  rw [hb2] at h2 h3 h4 ⊢
  have HB := Lib.hid hb2
  clear hb2
  have H2 := Lib.hid h2; have H3 := Lib.hid h3; have H4 := Lib.hid h4
  clear h4
  have hbX : b2 + 1 + 1 < X.heap.size := lt_of_block H4.out
  have KLen := Lib.hid (fun W (hW : Pure X W) => (show Calls Tryz.prog 19 #[.pointer (some ⟨d, 0, none⟩)] W fun e w' => e = .returned (.int .i64 lv) ∧ Pure W w' from dlenP (HD.out.pure hW) lv HLV.out))
  have KLv := Lib.hid (fun W (hW : Pure X W) => ref_Live (HR.out.l.pure hW))
  rw [liveQ_L, HL.out, HLV.out, HN.out] at KLv
  have KCg := Lib.hid (fun W (hW : Pure X W) => rdgroups HR.out HM.out hW)
  have KCt := Lib.hid (fun W (hW : Pure X W) => rdtombs HR.out HM.out hW)
  have KSz := Lib.hid (fun W (hW : Pure X W) => sizes10D (HD.out.pure hW) (n : Int) (Gs.length : Int) (tombN Gs : Int) (by rw [HLN.out]) rfl rfl)
  have KHa := Lib.hid (fun W (hW : Pure X W) => dhash_ok (HD.out.pure hW))
  have KHn := Lib.hid (fun W => hnew10 (seed : Int) same W)
  dsimp only at KLv KCg KCt KSz
  generalize (Gs.length : Int) = gz at KCg KSz
  generalize (tombN Gs : Int) = tz at KCt KSz
  have h2_0 := cell_of_row _ _ 0 _ _ _ h2; have h2_f := (fun j => frozen_of_row _ _ j _ _ h2); have h2_l := lt_of_block h2; simp at h2_0; have H_h2 := Lib.hid h2; clear h2
  have h3_0 := cell_of_row _ _ 0 _ _ _ h3; have h3_1 := cell_of_row _ _ 1 _ _ _ h3; have h3_2 := cell_of_row _ _ 2 _ _ _ h3; have h3_3 := cell_of_row _ _ 3 _ _ _ h3; have h3_4 := cell_of_row _ _ 4 _ _ _ h3; have h3_5 := cell_of_row _ _ 5 _ _ _ h3; have h3_f := (fun j => frozen_of_row _ _ j _ _ h3); have h3_l := lt_of_block h3; simp at h3_0 h3_1 h3_2 h3_3 h3_4 h3_5; have H_h3 := Lib.hid h3; clear h3
  have HS := Lib.hid (show SLa b2 (b2 + 1) (.pointer (some ⟨d, 0, none⟩)) (.int .u64 seed) (.bool same) (.slice aL n cL) (.slice aG n cG) (.slice aC m cC) (.slice aS m cS) X from ⟨h2_0, h3_0, h3_1, h3_2, h3_3, h3_4, h3_5⟩)
  have wn : IntKind.i64.wrap (n : Int) = n := IntWalk.i64_in _ (by omega)
  go_region_held3 (fun w' => w'.cell? ⟨b2, 0, none⟩ = some (.pointer (some ⟨d, 0, none⟩)) ∧ w'.cell? ⟨b2 + 1, 0, none⟩ = some (.int .u64 seed) ∧ w'.cell? ⟨b2 + 1, 1, none⟩ = some (.bool same) ∧ w'.cell? ⟨b2 + 1, 2, none⟩ = some (.slice aL n cL) ∧ w'.cell? ⟨b2 + 1, 3, none⟩ = some (.slice aG n cG) ∧ w'.cell? ⟨b2 + 1, 4, none⟩ = some (.slice aC m cC) ∧ w'.cell? ⟨b2 + 1, 5, none⟩ = some (.slice aS m cS))
    (first | exact HS.out | exact HS.out.pure hq9 | exact HS.out.pure hq0 | exact HS.out.pure hq1 | exact HS.out.pure hq2 | exact HS.out.pure hq3 | exact HS.out.pure hq4 | exact HS.out.pure hq5)
    (first
      | (go_at_call 19; refine Calls.mono (KLen.out _ (by first | exact Mod.refl _ _ | exact (Mod.refl _ _).drew)) ?_; rintro e u9 ⟨rfl, hp9⟩; have hq9 : Pure X u9 := (by first | exact hp9 | exact Mod.of_drew hp9))
      | (go_at_call 20; refine Calls.mono (KLv.out _ hq9) ?_; rintro e u0 ⟨rfl, hp0⟩; have hq0 : Pure X u0 := Mod.trans hq9 hp0)
      | (go_at_call 14; refine Calls.mono (KCg.out _ hq0) ?_; rintro e u1 ⟨rfl, hp1⟩; have hq1 : Pure X u1 := Mod.trans hq0 hp1)
      | (go_at_call 15; refine Calls.mono (KCt.out _ hq1) ?_; rintro e u2 ⟨rfl, hp2⟩; have hq2 : Pure X u2 := Mod.trans hq1 hp2)
      | (go_at_call 13; refine Calls.mono (KSz.out _ hq2) ?_; rintro e u3 ⟨rfl, hp3⟩; have hq3 : Pure X u3 := Mod.trans hq2 hp3)
      | (go_at_call 40; refine Calls.mono (KHa.out _ hq3) ?_; rintro e u4 ⟨rfl, hp4⟩; have hq4 : Pure X u4 := Mod.trans hq3 hp4)
      | (go_at_call 9; refine Calls.mono (KHn.out _) ?_; rintro e u5 ⟨rfl, hp5⟩; have hq5 : Pure X u5 := Mod.trans hq4 hp5))
  replace HD := Lib.hid (HD.out.pure hq5); replace HR := Lib.hid (HR.out.pure hq5); replace HP := Lib.hid (HP.out.trans hq5); replace HS := Lib.hid (HS.out.pure hq5)
  replace H2 := Lib.hid (hq5.heap (fun h => h) H2.out); replace H3 := Lib.hid (hq5.heap (fun h => h) H3.out); replace H4 := Lib.hid (hq5.heap (fun h => h) H4.out)
  have hb5 : b2 + 1 + 1 < u5.heap.size := lt_of_block H4.out
  clear h2_0 h2_f h2_l
  clear h3_0 h3_1 h3_2 h3_3 h3_4 h3_5 h3_f h3_l
  clear H_h2 H_h3 KLen KLv KCg KCt KSz KHa KHn hp9 hq9 hp0 hq0 hp1 hq1 hp2 hq2 hp3 hq3 hp4 hq4 hp5 hq5 hbX
  have KSl := Lib.hid (fun W (hW : Pure u5 W) => ref_Slots (HR.out.l.pure hW) n HN.out L HL.out j HJ.out)
  have KAl := Lib.hid (fun W (hW : Pure u5 W) => (show Calls Tryz.prog 45 #[.pointer (some ⟨d, 0, none⟩)] W (allA W L) from dall_ok (HD.out.pure hW)))
  dsimp only at KSl
  have h2 := H2.out; have h3 := H3.out
  have h2_0 := cell_of_row _ _ 0 _ _ _ h2; have h2_f := (fun j => frozen_of_row _ _ j _ _ h2); have h2_l := lt_of_block h2; simp at h2_0; have H_h2 := Lib.hid h2; clear h2
  have h3_0 := cell_of_row _ _ 0 _ _ _ h3; have h3_1 := cell_of_row _ _ 1 _ _ _ h3; have h3_2 := cell_of_row _ _ 2 _ _ _ h3; have h3_3 := cell_of_row _ _ 3 _ _ _ h3; have h3_4 := cell_of_row _ _ 4 _ _ _ h3; have h3_5 := cell_of_row _ _ 5 _ _ _ h3; have h3_f := (fun j => frozen_of_row _ _ j _ _ h3); have h3_l := lt_of_block h3; simp at h3_0 h3_1 h3_2 h3_3 h3_4 h3_5; have H_h3 := Lib.hid h3; clear h3
  go_upto_region 3 with fail
  go_cut [5, 6] from 41 to 45 (fun v5 v6 wx => ∃ b5 aw cw M B a c, v5 = .pointer (some ⟨b5, 0, none⟩) ∧ v6 = .func (.func 127) #[] #[.pointer (some ⟨B, 0, none⟩)] ∧ LkMid u5 j L b5 aw cw M B a c wx)
  case first =>
    have HS3 := Lib.hid (show SL3 b2 (.pointer (some ⟨d, 0, none⟩)) (.slice aL n cL) (.slice aG n cG) u5 from ⟨h2_0, h3_2, h3_3⟩)
    go_region_held3 (fun w' => w'.cell? ⟨b2, 0, none⟩ = some (.pointer (some ⟨d, 0, none⟩)) ∧ w'.cell? ⟨b2 + 1, 2, none⟩ = some (.slice aL n cL) ∧ w'.cell? ⟨b2 + 1, 3, none⟩ = some (.slice aG n cG))
      (first | exact HS3.out | exact HS3.out.pure (((Mod.refl _ _).drew).alloc _) | exact HS3.out.pure hq6 | exact HS3.out.pure (hq6.alloc _) | exact HS3.out.pure hq7 | exact HS3.out.pure (hq7.alloc _) | exact (HS3.out.pure hq7).set (by first | omega | (simp; omega)) | exact (HS3.out.pure (hq7.alloc _)).set (by first | omega | (simp; omega)))
      (first
        | (go_at_call 77; refine Calls.mono (KSl.out _ (by first | exact (Mod.refl _ _).drew | exact ((Mod.refl _ _).drew).alloc _)) ?_; rintro e u6 ⟨aw, cw, rfl, hrw, hfw, hp6⟩; have hq6 : Pure u5 u6 := (by first | exact Mod.of_drew hp6 | exact (((Mod.refl _ u5).drew).alloc _).trans hp6); have hl6 := hq6.size; (try (have h5n : u6.heap[u5.heap.size]? = some (.cells #[.slice none 0 0] 34 (0, 0)) := hp6.heap (fun h => h) (heap_new (w := u5.drew) (o := .cells #[.slice none 0 0] 34 (0, 0)) rfl); have h5n_0 := cell_of_row _ _ 0 _ _ _ h5n; have h5n_f := (fun j => frozen_of_row _ _ j _ _ h5n); have h5n_l := lt_of_block h5n; simp at h5n_0; have H_h5n := Lib.hid h5n; clear h5n)))
        | (go_at_call 45; refine Calls.mono (KAl.out _ (by first | exact hq6 | exact hq6.alloc _)) ?_; rintro e u7 ⟨M, B, a, c, hM, rfl, hit, hp7, _, _⟩; have hq7 : Pure u5 u7 := (by first | exact hq6.trans hp7 | exact (hq6.alloc _).trans hp7); have hl7' := Nat.lt_of_lt_of_le (show b2 + 1 + 1 < u5.heap.size from hb5) hq7.size; (try (have h5m : u7.heap[u5.heap.size]? = some (.cells #[.slice none 0 0] 34 (0, 0)) := hp7.heap (fun h => h) H_h5n.out; clear h5n_0 h5n_f h5n_l; have h5m_0 := cell_of_row _ _ 0 _ _ _ h5m; have h5m_f := (fun j => frozen_of_row _ _ j _ _ h5m); have h5m_l := lt_of_block h5m; simp at h5m_0; have H_h5m := Lib.hid h5m; clear h5m)); (try (have h5m : u7.heap[u6.heap.size]? = some (.cells #[.slice none 0 0] 34 (0, 0)) := hp7.heap (fun h => h) (heap_new (w := u6) (o := .cells #[.slice none 0 0] 34 (0, 0)) rfl); have h5m_0 := cell_of_row _ _ 0 _ _ _ h5m; have h5m_f := (fun j => frozen_of_row _ _ j _ _ h5m); have h5m_l := lt_of_block h5m; simp at h5m_0; have H_h5m := Lib.hid h5m; clear h5m))))
    · go_wp2
      go_meet
      case rel => exact ⟨u7.heap.size, aw, cw, M, B, a, c, rfl, rfl, lk_end1 (owns_mod hrw hp7 (fun _ _ h => h)) hM hit hq7⟩
    · go_wp2
      go_meet
      case rel => exact ⟨u6.heap.size, aw, cw, M, B, a, c, rfl, rfl, lk_end2 (owns_mod hrw (((Mod.refl (fun _ => False) u6).alloc _).trans hp7) (fun _ _ h => h)) hM hit hq7 hl6 H_h5m.out⟩
    · go_wp2
      go_meet
      case rel => exact ⟨u5.heap.size, aw, cw, M, B, a, c, rfl, rfl, lk_end2 (owns_mod hrw hp7 (fun _ _ h => h)) hM hit hq7 (Nat.le_refl _) H_h5m.out⟩
  case rest =>
    obtain ⟨b5, aw, cw, M, B, a, c, rfl, rfl, h5, hrw, hM, hit, hp⟩ := hcut
    have HRW := Lib.hid hrw; have HIT := Lib.hid hit
    replace HD := Lib.hid (HD.out.pure hp); replace HR := Lib.hid (HR.out.pure hp); replace HP := Lib.hid (HP.out.trans hp)
    replace H2 := Lib.hid (hp.heap (fun h => h) H2.out); replace H3 := Lib.hid (hp.heap (fun h => h) H3.out); replace H4 := Lib.hid (hp.heap (fun h => h) H4.out)
    have H5 := Lib.hid h5
    clear h2_0 h2_f h2_l
    clear h3_0 h3_1 h3_2 h3_3 h3_4 h3_5 h3_f h3_l
    clear H_h2 H_h3 hrw hit hp h5 KSl KAl HS hb5
    go_upto_region 7 with fail
    have hb7l : b2 + 1 + 1 < wc.heap.size ∧ b5 < wc.heap.size := ⟨lt_of_block H4.out, lt_of_block H5.out⟩
    have hal : Pure wc (wc.alloc (.cells #[.int .i64 0] 3)) := (Mod.refl _ wc).alloc _
    have h7 := heap_new (w := wc) (o := .cells #[.int .i64 0] 3 (0, 0)) rfl
    replace HD := Lib.hid (HD.out.pure hal); replace HR := Lib.hid (HR.out.pure hal); replace HP := Lib.hid (HP.out.trans hal)
    replace H2 := Lib.hid (hal.heap (fun h => h) H2.out); replace H3 := Lib.hid (hal.heap (fun h => h) H3.out); replace H4 := Lib.hid (hal.heap (fun h => h) H4.out); replace H5 := Lib.hid (hal.heap (fun h => h) H5.out)
    replace HRW := Lib.hid (owns_mod HRW.out hal (fun _ _ h => h) : U32Row _ aw cw (olds L))
    replace HIT := Lib.hid (HIT.out.keeps (KeepsIt.of_pure hal))
    clear hal
    generalize wc.alloc (.cells #[.int .i64 0] 3) = X0 at *
    generalize wc.heap.size = b7 at *
    have H7 := Lib.hid h7
    clear h7
    have hItlt : ∀ k, iterBlocks B (.slice a M.length c) M k → k < X0.heap.size := by
      rintro k (rfl | h | ⟨e, v, hm, h⟩)
      · exact lt_of_block HIT.out.box
      · exact owns_lt HIT.out.row h
      · exact owns_lt (HIT.out.vals e v hm) h
    have n7 := Lib.hid (iter_types HIT.out H7.out (by decide) (by decide) (by decide))
    have hb7 : b7 < X0.heap.size := lt_of_block H7.out
    have HB7 : Hid (b2 < b7 ∧ b2 + 1 < b7 ∧ b2 + 1 + 1 < b7 ∧ b5 ≠ b7) := Lib.hid ⟨by omega, by omega, by omega, by omega⟩
    have hXw : w.heap.size ≤ X0.heap.size := HP.out.size
    go_wp2
    generalize hItd : iterBlocks B (.slice a M.length c) M = It at *
    refine wpIn_wide.1 (wp_range2 (gf := 127) (lb := #[.pointer (some ⟨B, 0, none⟩)]) rfl (enters_of Tryz.func127 (by kernel_rfl) rfl) (It := It) (hItd ▸ All_iter HIT.out X0.heap.size (Nat.le_refl _)) hItlt (fun _ => rfl)
      (fun pre W => LkI X0 b7 pre W ∧ X0.heap.size ≤ W.heap.size) (fun _ _ _ => False) ?hI ?hIx ⟨⟨Mod.refl _ _, H7.out⟩, Nat.le_refl _⟩ ?round ?done ?stop)
    case hI => exact fun pre A B ⟨h, hz⟩ hq => ⟨h.quiet hq, Nat.le_trans hz (Mod.size hq)⟩
    case hIx => exact fun _ _ _ _ h _ => h
    case stop => exact fun _ _ _ _ _ h _ => h.elim
    case done =>
      rintro l xs W hl hS ⟨hI, hWs⟩ hK
      have hS' : xs.map keyG = live L := by rw [← hM]; exact hS
      have hxl : xs.length = j := by have := congrArg List.length hS'; rw [List.length_map] at this; rw [this, ← olds_length, HJ.out]
      have hm := hI.1
      have h7 := hI.2
      rw [hxl] at h7
      have h4 := hm.heap (by have := HB7.out; omega) H4.out
      have h5 := hm.heap (by have := HB7.out; omega) H5.out
      have H4' := Lib.hid h4
      have HMm := Lib.hid hm
      clear hI hS hS' hxl hm hItlt hWs
      have h7_0 := cell_of_row _ _ 0 _ _ _ h7; have h7_f := (fun j => frozen_of_row _ _ j _ _ h7); have h7_l := lt_of_block h7; simp at h7_0; have H_h7 := Lib.hid h7; clear h7
      have h5_0 := cell_of_row _ _ 0 _ _ _ h5; have h5_f := (fun j => frozen_of_row _ _ j _ _ h5); have h5_l := lt_of_block h5; simp at h5_0; have H_h5 := Lib.hid h5; clear h5
      have h4_0 := cell_of_row _ _ 0 _ _ _ h4; have h4_f := (fun j => frozen_of_row _ _ j _ _ h4); have h4_l := lt_of_block h4; simp at h4_0; have H_h4 := Lib.hid h4; clear h4
      go_wp2
      have e4 := heap_set1 (j := 0) (v := .bool true) H4'.out
      have hl4 : l ≠ b2 + 1 + 1 := fun e => by subst e; rw [H4'.out] at hK; cases hK
      have hk := heap_set_other (a := ⟨b2 + 1 + 1, 0, none⟩) (v := .bool true) hK hl4
      have hq : Quiet X0.heap.size _ _ := Quiet.putObj (.deferred none) hl hk rfl
      have y4 := cell_of_row _ _ 0 _ _ _ (hq.cells e4)
      simp at y4
      exact bodyPostM_drained (v := .bool true) hk (by simp [results, Tryz.results29, go_sem, y4]) ⟨rfl, hq.mod ((HP.out.then HMm.out (fun i hi e => by have := HB.out; have := HB7.out; omega)).then (Mod.set1 (b2 + 1 + 1) 0 (.bool true)) (fun i hi e => by have := HB.out; omega)) hXw⟩
    case round =>
      rintro l pre ⟨i, x, v⟩ W K ⟨hI, hWs⟩ hG hK
      obtain ⟨va, vc, hv, _⟩ := owns_form hG.2.1
      dsimp only at hv
      subst hv
      dsimp only [encG]
      obtain ⟨⟨post, hpost⟩, hby, hfr⟩ := hG
      dsimp only at hby hfr
      rw [hM] at hpost
      have HPO := Lib.hid hpost; have HCI := Lib.hid hI; have HK := Lib.hid hK; have HLT := Lib.hid hItlt; have HBY := Lib.hid hby; have HFR := Lib.hid hfr
      clear hI hK hItlt hpost hby hfr
      gi_wp2
      have hP : Pure W (W.alloc (.cells #[.string x.key, .slice va (bytesOf x.val).length vc, .int .u64 x.dl, .int .u64 x.birth] 42)) := (Mod.refl _ W).alloc _
      have z9 := heap_new (w := W) (o := .cells #[.string x.key, .slice va (bytesOf x.val).length vc, .int .u64 x.dl, .int .u64 x.birth] 42 (0, 0)) rfl
      refine HK.out _ _ hP (fun l' W2 hl hr hq => ?_)
      have hci := (HCI.out.pure hP).quiet hq
      have zz9 := hq.cells z9
      have hbv : BytesAt W2 (.slice va (bytesOf x.val).length vc) (bytesOf x.val) := hq.owns (owns_mod HBY.out hP (fun _ _ h => h))
      have hsz2 : X0.heap.size ≤ W2.heap.size := by have := Mod.size hq; have := hP.size; omega
      have hb9 : b7 < W.heap.size := by omega
      clear HK hP hq z9
      generalize W.heap.size = b9 at zz9 hb9 ⊢
      have hmw := hci.1
      have h7 := hci.2
      have h2 := hmw.heap (by have := HB7.out; omega) H2.out
      have h3 := hmw.heap (by have := HB7.out; omega) H3.out
      have h5 := hmw.heap (by have := HB7.out; omega) H5.out
      obtain ⟨hoa, hol⟩ := olds_at (L := L) (pre := pre.map keyG) (post := post) (g := (i, x)) HPO.out
      rw [List.length_map, HJ.out] at hol
      rw [List.length_map] at hoa
      dsimp only at hoa
      have hLi : L[i]? = some (some x) := live_mem (g := (i, x)) (by rw [HPO.out]; simp [keyG])
      have hin : i < n := by have := (List.getElem?_eq_some_iff.1 hLi).1; rw [HLN.out] at this; exact this
      obtain ⟨v', hqi⟩ := slots_at (Q := Q) (s := i) (x := x) (by rw [HL.out]; exact hLi)
      have nb : ∀ i, i = b7 → i < X0.heap.size → ∃ cs T fz, X0.heap[i]? = some (.cells cs T fz) ∧ T ≠ 42 ∧ T ≠ 4 ∧ T ≠ 5 ∧ T ≠ 43 := fun i e _ => ⟨_, _, _, e ▸ H7.out, by decide, by decide, by decide, by decide⟩
      have hwr : U32Row W2 aw cw (olds L) := owns_modT HRW.out hmw (fun i e hi => by obtain ⟨cs, T, fz, e2, _, _, _, h1⟩ := nb i e hi; exact ⟨cs, T, fz, e2, h1⟩)
      have hrd := HR.out.modX hmw nb
      have hdi := HD.out.frame hmw (fun k hk e => by subst e; rcases HD.out.types hk H7.out with e | e | e | e | e <;> cases e) (fun k _ e cs fz e2 => by subst e; rw [H7.out] at e2; cases e2)
      have hwr2 := hwr
      unfold U32Row at hwr2
      rw [HJ.out] at hwr2
      obtain ⟨gw, _, hsv, _, hgw, hcw, _, _⟩ := owns_at hwr2 (by omega)
      cases hsv
      have zw : W2.cell? ⟨gw, pre.length, none⟩ = some (.int .u32 i) := hcw pre.length _ (by unfold u32s; rw [List.getElem?_map, hoa]; rfl)
      have hv := hrd.l.vals _ (List.mem_of_getElem? hqi)
      obtain ⟨va', vc', hve, _⟩ := owns_form hv
      dsimp only at hve
      subst hve
      have hrL := hrd.l.L
      rw [HN.out] at hrL
      obtain ⟨gL, _, hsv, _, hgL, hcL, _, _⟩ := owns_at hrL (by omega)
      cases hsv
      have hcc : ∀ (jj : Nat) u, (cellsQ (x, .slice va' (bytesOf x.val).length vc', false))[jj]? = some u → W2.cell? ⟨gL, i * 4 + jj, none⟩ = some u := by
        intro jj u hu
        have hj : jj < 4 := by rw [← cellsQ_length (x, .slice va' (bytesOf x.val).length vc', false)]; exact (List.getElem?_eq_some_iff.1 hu).1
        refine hcL _ _ ?_
        rw [flat_get cellsQ 4 cellsQ_length jj hj, hqi]
        exact hu
      have f0 : W2.cell? ⟨gL, i * 4, none⟩ = _ := hcc 0 _ rfl; have f1 := hcc 1 _ rfl; have f2 := hcc 2 _ rfl; have f3 := hcc 3 _ rfl
      dsimp only at f0 f1 f2 f3
      have hkx : x.key.size ≤ 140737488355328 := by have := (hdi.ok.ent x (List.mem_of_getElem? hLi)).k1; omega
      have hvl : (bytesOf x.val).length ≤ 140737488355328 := by have := (hdi.ok.ent x (List.mem_of_getElem? hLi)).v1; rw [bytesOf_length]; omega
      have hfk : findV L x.key = (i, 0) := by unfold findV; rw [findK_eq hdi.keeps.keys hLi]
      have HEq := Lib.hid (fun W (hW : Pure W2 W) => ref_Equal_same x va va' _ _ vc vc' (BytesAt.read (owns_mod hbv hW (fun _ _ h => h)) (bytesOf_one _)) (BytesAt.read (owns_mod hv hW (fun _ _ h => h)) (bytesOf_one _)))
      have HFi := Lib.hid (fun W (hW : Pure W2 W) => (show Calls Tryz.prog 44 #[.pointer (some ⟨d, 0, none⟩), .string x.key, .int .u32 i, .int .i64 0] W fun e w' => e = .returned (.bool true) ∧ Pure W w' from finds10D (hdi.pure hW) x.key hkx i 0 hfk))
      have HSp := Lib.hid (fun W (hW : Pure W2 W) => spoil_ok (owns_mod hbv hW (fun _ _ h => h) : BytesAt W (.slice va (bytesOf x.val).length vc) (bytesOf x.val)) hvl x.key x.dl x.birth)
      have HBV := Lib.hid hbv; have HMW := Lib.hid hmw; have H7' := Lib.hid h7
      have hpl4 : pre.length ≤ 4194304 := by omega
      clear nb hwr hrd hdi hwr2 hgw hcw hv hrL hgL hcL hcc hkx hfk hbv hmw hoa hLi hqi hci HCI
      have hl9 : b9 < W2.heap.size := lt_of_block zz9
      obtain ⟨pl, hpl⟩ : ∃ pl, pre.length = pl := ⟨_, rfl⟩
      rw [hpl] at zw h7 hol hpl4 H7'
      have HPL := Lib.hid hpl
      clear hpl
      obtain ⟨vn, hvn⟩ : ∃ vn, (bytesOf x.val).length = vn := ⟨_, rfl⟩
      rw [hvn] at zz9 f1 HEq hvl HBV HSp HFR ⊢
      have HVN := Lib.hid hvn
      clear hvn
      have ZZ9 := Lib.hid zz9
      have h7_0 := cell_of_row _ _ 0 _ _ _ h7; have h7_f := (fun j => frozen_of_row _ _ j _ _ h7); have h7_l := lt_of_block h7; simp at h7_0; have H_h7 := Lib.hid h7; clear h7
      have h5_0 := cell_of_row _ _ 0 _ _ _ h5; have h5_f := (fun j => frozen_of_row _ _ j _ _ h5); have h5_l := lt_of_block h5; simp at h5_0; have H_h5 := Lib.hid h5; clear h5
      have h2_0 := cell_of_row _ _ 0 _ _ _ h2; have h2_f := (fun j => frozen_of_row _ _ j _ _ h2); have h2_l := lt_of_block h2; simp at h2_0; have H_h2 := Lib.hid h2; clear h2
      have h3_0 := cell_of_row _ _ 0 _ _ _ h3; have h3_1 := cell_of_row _ _ 1 _ _ _ h3; have h3_2 := cell_of_row _ _ 2 _ _ _ h3; have h3_3 := cell_of_row _ _ 3 _ _ _ h3; have h3_4 := cell_of_row _ _ 4 _ _ _ h3; have h3_5 := cell_of_row _ _ 5 _ _ _ h3; have h3_f := (fun j => frozen_of_row _ _ j _ _ h3); have h3_l := lt_of_block h3; simp at h3_0 h3_1 h3_2 h3_3 h3_4 h3_5; have H_h3 := Lib.hid h3; clear h3
      have zz9_0 := cell_of_row _ _ 0 _ _ _ zz9; have zz9_1 := cell_of_row _ _ 1 _ _ _ zz9; have zz9_2 := cell_of_row _ _ 2 _ _ _ zz9; have zz9_3 := cell_of_row _ _ 3 _ _ _ zz9; have zz9_f := (fun j => frozen_of_row _ _ j _ _ zz9); have zz9_l := lt_of_block zz9; simp at zz9_0 zz9_1 zz9_2 zz9_3; have H_zz9 := Lib.hid zz9; clear zz9
      have hq0 : SLk b7 b5 gw pl b9 (b2 + 1) gL (i * 4) b2 (.int .i64 pl) (.slice (some ⟨gw, 0, none⟩) j cw) (.int .u32 i) (.string x.key) (.slice va vn vc) (.int .u64 x.dl) (.int .u64 x.birth) (.slice (some ⟨gL, 0, none⟩) n cL) (.string x.key) (.slice va' vn vc') (.int .u64 x.dl) (.int .u64 x.birth) (.pointer (some ⟨d, 0, none⟩)) W2.drew :=
        ⟨h7_0, h5_0, zw, zz9_0, zz9_1, zz9_2, zz9_3, h3_2, f0, f1, f2, f3, h2_0⟩
      have hpd : Pure W2 W2.drew := (Mod.refl _ W2).drew
      have hol' : (pl : Int) < (j : Int) := by omega
      have d1 : decide ((j : Int) ≤ (pl : Int)) = false := decide_eq_false (by omega)
      have d1n : decide (j ≤ pl) = false := decide_eq_false (by omega)
      have pl0 : (0 : Int) ≤ (pl : Int) := by omega
      have hin' : (i : Int) < (n : Int) := by omega
      have i0 : (0 : Int) ≤ (i : Int) := by omega
      have wj : IntKind.i64.wrap (j : Int) = (j : Int) := IntWalk.i64_in _ (by omega)
      have wp1 : IntKind.i64.wrap ((pl : Int) + 1) = (pl : Int) + 1 := IntWalk.i64_in _ (by omega)
      gi_wp2
      refine region_held (S := SLk b7 b5 gw pl b9 (b2 + 1) gL (i * 4) b2 (.int .i64 pl) (.slice (some ⟨gw, 0, none⟩) j cw) (.int .u32 i) (.string x.key) (.slice va vn vc) (.int .u64 x.dl) (.int .u64 x.birth) (.slice (some ⟨gL, 0, none⟩) n cL) (.string x.key) (.slice va' vn vc') (.int .u64 x.dl) (.int .u64 x.birth) (.pointer (some ⟨d, 0, none⟩))) (by kernel_rfl) (by kernel_rfl) ?hL hq0 (fun hHeld => ?_)
      case hL => rintro ⟨a, w, h⟩; exact h
      ((refine wpAnyH_take (i := 0) (v := ?_) rfl (by kernel_rfl) (by kernel_rfl) (by kernel_rfl) (fun _ _ _ h => h) (Or.inl ⟨by rfl, ?_⟩) hHeld ?_; rotate_left 1; focus (intro w hS; obtain ⟨s0, s1, s2, s3, s4, s5, s6, s7, s8, s9, s10, s11, s12⟩ := hS; go_simp; try with_reducible rfl)); try simp only [Act.put, List.getElem_toArray, List.getElem_cons_zero, List.getElem_cons_succ, List.setIfInBounds_toArray, List.set_cons_zero, List.set_cons_succ])
      ((refine wpAnyH_take (i := 1) (v := ?_) rfl (by kernel_rfl) (by kernel_rfl) (by kernel_rfl) (fun _ _ _ h => h) (Or.inl ⟨by rfl, ?_⟩) hHeld ?_; rotate_left 1; focus (intro w hS; obtain ⟨s0, s1, s2, s3, s4, s5, s6, s7, s8, s9, s10, s11, s12⟩ := hS; go_simp; try with_reducible rfl)); try simp only [Act.put, List.getElem_toArray, List.getElem_cons_zero, List.getElem_cons_succ, List.setIfInBounds_toArray, List.set_cons_zero, List.set_cons_succ])
      ((refine wpAnyH_take (i := 2) (v := ?_) rfl (by kernel_rfl) (by kernel_rfl) (by kernel_rfl) (fun _ _ _ h => h) (Yields.yieldsIf (Or.inl ⟨by rfl, ?_⟩)) hHeld ?_; rotate_left 1; focus (intro w; go_simp; try with_reducible rfl)); try simp only [Act.put, List.getElem_toArray, List.getElem_cons_zero, List.getElem_cons_succ, List.setIfInBounds_toArray, List.set_cons_zero, List.set_cons_succ])
      ((refine wpAnyH_take (i := 3) (v := ?_) rfl (by kernel_rfl) (by kernel_rfl) (by kernel_rfl) (fun _ _ _ h => h) (Yields.yieldsIf (Or.inl ⟨by rfl, ?_⟩)) hHeld ?_; rotate_left 1; focus (intro w; go_simp; try with_reducible rfl)); try simp only [Act.put, List.getElem_toArray, List.getElem_cons_zero, List.getElem_cons_succ, List.setIfInBounds_toArray, List.set_cons_zero, List.set_cons_succ])
      ((refine wpAnyH_take (i := 4) (v := ?_) rfl (by kernel_rfl) (by kernel_rfl) (by kernel_rfl) (fun _ _ _ h => h) (Yields.yieldsIf (Or.inl ⟨by rfl, ?_⟩)) hHeld ?_; rotate_left 1; focus (intro w; go_simp; try with_reducible rfl)); try simp only [Act.put, List.getElem_toArray, List.getElem_cons_zero, List.getElem_cons_succ, List.setIfInBounds_toArray, List.set_cons_zero, List.set_cons_succ])
      ((refine wpAnyH_take (i := 5) (v := ?_) rfl (by kernel_rfl) (by kernel_rfl) (by kernel_rfl) (fun _ _ _ h => h) (Yields.yieldsIf (Or.inl ⟨by rfl, ?_⟩)) hHeld ?_; rotate_left 1; focus (intro w; go_simp; try with_reducible rfl)); try simp only [Act.put, List.getElem_toArray, List.getElem_cons_zero, List.getElem_cons_succ, List.setIfInBounds_toArray, List.set_cons_zero, List.set_cons_succ])
      ((refine wpAnyH_take (i := 6) (v := ?_) rfl (by kernel_rfl) (by kernel_rfl) (by kernel_rfl) (fun _ _ _ h => h) (Or.inl ⟨by rfl, ?_⟩) hHeld ?_; rotate_left 1; focus (intro w hS; obtain ⟨s0, s1, s2, s3, s4, s5, s6, s7, s8, s9, s10, s11, s12⟩ := hS; go_simp; try with_reducible rfl)); try simp only [Act.put, List.getElem_toArray, List.getElem_cons_zero, List.getElem_cons_succ, List.setIfInBounds_toArray, List.set_cons_zero, List.set_cons_succ])
      ((refine wpAnyH_take (i := 7) (v := ?_) rfl (by kernel_rfl) (by kernel_rfl) (by kernel_rfl) (fun _ _ _ h => h) (Or.inl ⟨by rfl, ?_⟩) hHeld ?_; rotate_left 1; focus (intro w hS; obtain ⟨s0, s1, s2, s3, s4, s5, s6, s7, s8, s9, s10, s11, s12⟩ := hS; go_simp; try with_reducible rfl)); try simp only [Act.put, List.getElem_toArray, List.getElem_cons_zero, List.getElem_cons_succ, List.setIfInBounds_toArray, List.set_cons_zero, List.set_cons_succ])
      ((refine wpAnyH_take (i := 8) (v := ?_) rfl (by kernel_rfl) (by kernel_rfl) (by kernel_rfl) (fun _ _ _ h => h) (Yields.yieldsIf (Or.inl ⟨by rfl, ?_⟩)) hHeld ?_; rotate_left 1; focus (intro w; go_simp; try with_reducible rfl)); try simp only [Act.put, List.getElem_toArray, List.getElem_cons_zero, List.getElem_cons_succ, List.setIfInBounds_toArray, List.set_cons_zero, List.set_cons_succ])
      ((refine wpAnyH_take (i := 9) (v := ?_) rfl (by kernel_rfl) (by kernel_rfl) (by kernel_rfl) (fun _ _ _ h => h) (Or.inl ⟨by rfl, ?_⟩) hHeld ?_; rotate_left 1; focus (intro w hS; obtain ⟨s0, s1, s2, s3, s4, s5, s6, s7, s8, s9, s10, s11, s12⟩ := hS; go_simp; try with_reducible rfl)); try simp only [Act.put, List.getElem_toArray, List.getElem_cons_zero, List.getElem_cons_succ, List.setIfInBounds_toArray, List.set_cons_zero, List.set_cons_succ])
      ((refine wpAnyH_take (i := 10) (v := ?_) rfl (by kernel_rfl) (by kernel_rfl) (by kernel_rfl) (fun _ _ _ h => h) (Yields.yieldsIf (Or.inl ⟨by rfl, ?_⟩)) hHeld ?_; rotate_left 1; focus (intro w; go_simp; try with_reducible rfl)); try simp only [Act.put, List.getElem_toArray, List.getElem_cons_zero, List.getElem_cons_succ, List.setIfInBounds_toArray, List.set_cons_zero, List.set_cons_succ])
      ((refine wpAnyH_take (i := 11) (v := ?_) rfl (by kernel_rfl) (by kernel_rfl) (by kernel_rfl) (fun _ _ _ h => h) (Yields.yieldsIf (Or.inl ⟨by rfl, ?_⟩)) hHeld ?_; rotate_left 1; focus (intro w; go_simp; try with_reducible rfl)); try simp only [Act.put, List.getElem_toArray, List.getElem_cons_zero, List.getElem_cons_succ, List.setIfInBounds_toArray, List.set_cons_zero, List.set_cons_succ])
      ((refine wpAnyH_take (i := 12) (v := ?_) rfl (by kernel_rfl) (by kernel_rfl) (by kernel_rfl) (fun _ _ _ h => h) (Yields.yieldsIf (Or.inl ⟨by rfl, ?_⟩)) hHeld ?_; rotate_left 1; focus (intro w; go_simp; try with_reducible rfl)); try simp only [Act.put, List.getElem_toArray, List.getElem_cons_zero, List.getElem_cons_succ, List.setIfInBounds_toArray, List.set_cons_zero, List.set_cons_succ])
      ((refine wpAnyH_take (i := 13) (v := ?_) rfl (by kernel_rfl) (by kernel_rfl) (by kernel_rfl) (fun _ _ _ h => h) (Or.inl ⟨by rfl, ?_⟩) hHeld ?_; rotate_left 1; focus (intro w hS; obtain ⟨s0, s1, s2, s3, s4, s5, s6, s7, s8, s9, s10, s11, s12⟩ := hS; go_simp; try with_reducible rfl)); try simp only [Act.put, List.getElem_toArray, List.getElem_cons_zero, List.getElem_cons_succ, List.setIfInBounds_toArray, List.set_cons_zero, List.set_cons_succ])
      ((refine wpAnyH_take (i := 14) (v := ?_) rfl (by kernel_rfl) (by kernel_rfl) (by kernel_rfl) (fun _ _ _ h => h) (Yields.yieldsIf (Or.inl ⟨by rfl, ?_⟩)) hHeld ?_; rotate_left 1; focus (intro w; go_simp; try with_reducible rfl)); try simp only [Act.put, List.getElem_toArray, List.getElem_cons_zero, List.getElem_cons_succ, List.setIfInBounds_toArray, List.set_cons_zero, List.set_cons_succ])
      ((refine wpAnyH_take (i := 15) (v := ?_) rfl (by kernel_rfl) (by kernel_rfl) (by kernel_rfl) (fun _ _ _ h => h) (Yields.yieldsIf (Or.inl ⟨by rfl, ?_⟩)) hHeld ?_; rotate_left 1; focus (intro w; go_simp; try with_reducible rfl)); try simp only [Act.put, List.getElem_toArray, List.getElem_cons_zero, List.getElem_cons_succ, List.setIfInBounds_toArray, List.set_cons_zero, List.set_cons_succ])
      ((refine wpAnyH_take (i := 16) (v := ?_) rfl (by kernel_rfl) (by kernel_rfl) (by kernel_rfl) (fun _ _ _ h => h) (Or.inl ⟨by rfl, ?_⟩) hHeld ?_; rotate_left 1; focus (intro w hS; obtain ⟨s0, s1, s2, s3, s4, s5, s6, s7, s8, s9, s10, s11, s12⟩ := hS; go_simp; try with_reducible rfl)); try simp only [Act.put, List.getElem_toArray, List.getElem_cons_zero, List.getElem_cons_succ, List.setIfInBounds_toArray, List.set_cons_zero, List.set_cons_succ])
      ((refine wpAnyH_take (i := 17) (v := ?_) rfl (by kernel_rfl) (by kernel_rfl) (by kernel_rfl) (fun _ _ _ h => h) (Yields.yieldsIf (Or.inl ⟨by rfl, ?_⟩)) hHeld ?_; rotate_left 1; focus (intro w; go_simp; try with_reducible rfl)); try simp only [Act.put, List.getElem_toArray, List.getElem_cons_zero, List.getElem_cons_succ, List.setIfInBounds_toArray, List.set_cons_zero, List.set_cons_succ])
      ((refine wpAnyH_take (i := 18) (v := ?_) rfl (by kernel_rfl) (by kernel_rfl) (by kernel_rfl) (fun _ _ _ h => h) (Yields.yieldsIf (Or.inl ⟨by rfl, ?_⟩)) hHeld ?_; rotate_left 1; focus (intro w; go_simp; try with_reducible rfl)); try simp only [Act.put, List.getElem_toArray, List.getElem_cons_zero, List.getElem_cons_succ, List.setIfInBounds_toArray, List.set_cons_zero, List.set_cons_succ])
      ((refine wpAnyH_take (i := 19) (v := ?_) rfl (by kernel_rfl) (by kernel_rfl) (by kernel_rfl) (fun _ _ _ h => h) (Or.inl ⟨by rfl, ?_⟩) hHeld ?_; rotate_left 1; focus (intro w hS; obtain ⟨s0, s1, s2, s3, s4, s5, s6, s7, s8, s9, s10, s11, s12⟩ := hS; go_simp; try with_reducible rfl)); try simp only [Act.put, List.getElem_toArray, List.getElem_cons_zero, List.getElem_cons_succ, List.setIfInBounds_toArray, List.set_cons_zero, List.set_cons_succ])
      ((refine wpAnyH_ready (rs := [20]) (by kernel_rfl) (by simp) ?_; refine AllReadyH.cons rfl (fun K hK => ?_) AllReadyH.nil; go_simp; refine Calls.mono (HEq.out _ hpd) ?_; rintro e u0 ⟨rfl, hp0⟩; refine hK.out _ _ ?_ (fun hHeld => ?_); (· exact SLk.pure (X := W2.drew) hq0 hp0); clear hK K); try simp only [Act.put, List.getElem_toArray, List.getElem_cons_zero, List.getElem_cons_succ, List.setIfInBounds_toArray, List.set_cons_zero, List.set_cons_succ])
      have hpu0 : Pure W2 u0 := hpd.trans hp0
      ((refine wpAnyH_take (i := 21) (v := ?_) rfl (by kernel_rfl) (by kernel_rfl) (by kernel_rfl) (fun _ _ _ h => h) (Yields.yieldsIf (Or.inl ⟨by rfl, ?_⟩)) hHeld ?_; rotate_left 1; focus (intro w; go_simp; try with_reducible rfl)); try simp only [Act.put, List.getElem_toArray, List.getElem_cons_zero, List.getElem_cons_succ, List.setIfInBounds_toArray, List.set_cons_zero, List.set_cons_succ])
      ((refine wpAnyH_take (i := 22) (v := ?_) rfl (by kernel_rfl) (by kernel_rfl) (by kernel_rfl) (fun _ _ _ h => h) (Yields.yieldsIf (Or.inl ⟨by rfl, ?_⟩)) hHeld ?_; rotate_left 1; focus (intro w; go_simp; try with_reducible rfl)); try simp only [Act.put, List.getElem_toArray, List.getElem_cons_zero, List.getElem_cons_succ, List.setIfInBounds_toArray, List.set_cons_zero, List.set_cons_succ])
      ((refine wpAnyH_take (i := 23) (v := ?_) rfl (by kernel_rfl) (by kernel_rfl) (by kernel_rfl) (fun _ _ _ h => h) (Yields.yieldsIf (Or.inl ⟨by rfl, ?_⟩)) hHeld ?_; rotate_left 1; focus (intro w; go_simp; try with_reducible rfl)); try simp only [Act.put, List.getElem_toArray, List.getElem_cons_zero, List.getElem_cons_succ, List.setIfInBounds_toArray, List.set_cons_zero, List.set_cons_succ])
      ((refine wpAnyH_take (i := 24) (v := ?_) rfl (by kernel_rfl) (by kernel_rfl) (by kernel_rfl) (fun _ _ _ h => h) (Or.inl ⟨by rfl, ?_⟩) hHeld ?_; rotate_left 1; focus (intro w hS; obtain ⟨s0, s1, s2, s3, s4, s5, s6, s7, s8, s9, s10, s11, s12⟩ := hS; go_simp; try with_reducible rfl)); try simp only [Act.put, List.getElem_toArray, List.getElem_cons_zero, List.getElem_cons_succ, List.setIfInBounds_toArray, List.set_cons_zero, List.set_cons_succ])
      ((refine wpAnyH_take (i := 25) (v := ?_) rfl (by kernel_rfl) (by kernel_rfl) (by kernel_rfl) (fun _ _ _ h => h) (Yields.yieldsIf (Or.inl ⟨by rfl, ?_⟩)) hHeld ?_; rotate_left 1; focus (intro w; go_simp; try with_reducible rfl)); try simp only [Act.put, List.getElem_toArray, List.getElem_cons_zero, List.getElem_cons_succ, List.setIfInBounds_toArray, List.set_cons_zero, List.set_cons_succ])
      ((refine wpAnyH_take (i := 26) (v := ?_) rfl (by kernel_rfl) (by kernel_rfl) (by kernel_rfl) (fun _ _ _ h => h) (Or.inl ⟨by rfl, ?_⟩) hHeld ?_; rotate_left 1; focus (intro w hS; obtain ⟨s0, s1, s2, s3, s4, s5, s6, s7, s8, s9, s10, s11, s12⟩ := hS; go_simp; try with_reducible rfl)); try simp only [Act.put, List.getElem_toArray, List.getElem_cons_zero, List.getElem_cons_succ, List.setIfInBounds_toArray, List.set_cons_zero, List.set_cons_succ])
      ((refine wpAnyH_take (i := 27) (v := ?_) rfl (by kernel_rfl) (by kernel_rfl) (by kernel_rfl) (fun _ _ _ h => h) (Yields.yieldsIf (Or.inl ⟨by rfl, ?_⟩)) hHeld ?_; rotate_left 1; focus (intro w; go_simp; try with_reducible rfl)); try simp only [Act.put, List.getElem_toArray, List.getElem_cons_zero, List.getElem_cons_succ, List.setIfInBounds_toArray, List.set_cons_zero, List.set_cons_succ])
      ((refine wpAnyH_ready (rs := [28]) (by kernel_rfl) (by simp) ?_; refine AllReadyH.cons rfl (fun K hK => ?_) AllReadyH.nil; go_simp; refine Calls.mono (HFi.out _ hpu0) ?_; rintro e u1 ⟨rfl, hp1⟩; refine hK.out _ _ ?_ (fun hHeld => ?_); (· exact SLk.pure (X := W2.drew) hq0 (hp0.trans hp1)); clear hK K); try simp only [Act.put, List.getElem_toArray, List.getElem_cons_zero, List.getElem_cons_succ, List.setIfInBounds_toArray, List.set_cons_zero, List.set_cons_succ])
      have hpu1 : Pure W2 u1 := hpu0.trans hp1
      ((refine wpAnyH_take (i := 29) (v := ?_) rfl (by kernel_rfl) (by kernel_rfl) (by kernel_rfl) (fun _ _ _ h => h) (Yields.yieldsIf (Or.inl ⟨by rfl, ?_⟩)) hHeld ?_; rotate_left 1; focus (intro w; go_simp; try with_reducible rfl)); try simp only [Act.put, List.getElem_toArray, List.getElem_cons_zero, List.getElem_cons_succ, List.setIfInBounds_toArray, List.set_cons_zero, List.set_cons_succ])
      ((refine wpAnyH_take (i := 30) (v := ?_) rfl (by kernel_rfl) (by kernel_rfl) (by kernel_rfl) (fun _ _ _ h => h) (Yields.yieldsIf (Or.inl ⟨by rfl, ?_⟩)) hHeld ?_; rotate_left 1; focus (intro w; go_simp; try with_reducible rfl)); try simp only [Act.put, List.getElem_toArray, List.getElem_cons_zero, List.getElem_cons_succ, List.setIfInBounds_toArray, List.set_cons_zero, List.set_cons_succ])
      refine wpAnyH_done (by kernel_rfl) ?_ _
      have zz := hpu1.heap (fun h => h) ZZ9.out
      have h7b := hpu1.heap (fun h => h) H7'.out
      have H7b := Lib.hid h7b
      have HSp1 := Lib.hid (HSp.out u1 hpu1)
      have HPU1 := Lib.hid hpu1
      have hbv1 : BytesAt u1 (.slice va vn vc) (bytesOf x.val) := owns_mod HBV.out hpu1 (fun _ _ h => h)
      have HBV1 := Lib.hid hbv1
      clear h7_0 h7_f h7_l
      clear h5_0 h5_f h5_l
      clear h2_0 h2_f h2_l
      clear h3_0 h3_1 h3_2 h3_3 h3_4 h3_5 h3_f h3_l
      clear zz9_0 zz9_1 zz9_2 zz9_3 zz9_f zz9_l
      clear H_h7 H_h5 H_h2 H_h3 H_zz9 HEq HFi HSp hp0 hp1 hpu0 hpu1 hq0 hpd zw f0 f1 f2 f3 hbv1 h7b hHeld
      have zz_0 := cell_of_row _ _ 0 _ _ _ zz; have zz_1 := cell_of_row _ _ 1 _ _ _ zz; have zz_2 := cell_of_row _ _ 2 _ _ _ zz; have zz_3 := cell_of_row _ _ 3 _ _ _ zz; have zz_f := (fun j => frozen_of_row _ _ j _ _ zz); have zz_l := lt_of_block zz; simp at zz_0 zz_1 zz_2 zz_3; have H_zz := Lib.hid zz; clear zz
      gi_upto_region 13 with (gi_at_call 78; refine CallsIn.mono (CallsIn.inRound l' (callsIn_wide.2 HSp1.out)) ?_; rintro e w12 ⟨rfl, hm12⟩)
      have hvB : ∀ k, valB (.slice va vn vc) k → X0.heap.size ≤ k := fun k hk => HFR.out k hk
      have h7c := hm12.heap (fun e => by have := hvB _ e; omega) H7b.out
      have H7c := Lib.hid h7c
      clear zz_0 zz_1 zz_2 zz_3 zz_f zz_l
      clear H_zz
      have h7c_0 := cell_of_row _ _ 0 _ _ _ h7c; have h7c_f := (fun j => frozen_of_row _ _ j _ _ h7c); have h7c_l := lt_of_block h7c; simp at h7c_0; have H_h7c := Lib.hid h7c; clear h7c
      gi_wp2
      have hmx : Mod (fun k => k = b7 ∨ valB (.slice va vn vc) k) W2 (w12.setCell ⟨b7, 0, none⟩ (.int .i64 ((pl : Int) + 1))) :=
        ((Mod.of_pure HPU1.out).trans (hm12.mono (fun _ _ h => .inr h))).trans ((Mod.set1 b7 0 _).mono (fun _ _ h => .inl h))
      have h7d := heap_set1 (j := 0) (v := .int .i64 ((pl : Int) + 1)) H7c.out
      refine ⟨KeepsRec.of_mod hmx (fun k hk h o ho => ?_), KeepsIt.of_mod hmx (fun k hk h => ?_), ⟨HMW.out.then hmx (fun k hk h => ?_), ?_⟩, Nat.le_trans hsz2 hmx.size⟩
      · rcases h with rfl | h
        · rw [H7'.out] at ho; cases ho; rfl
        · obtain ⟨cc, e2⟩ := owns_type HBV.out h
          rw [e2] at ho; cases ho; rfl
      · rcases h with rfl | h
        · exact n7.out hk
        · have := HLT.out k hk; have := hvB k h; omega
      · rcases h with rfl | h
        · rfl
        · have := hvB k h; omega
      · rw [List.length_append, HPL.out]
        simpa using h7d
end Go.Proofs.YtapplindfijngaaGreat
