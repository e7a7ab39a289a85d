/- Lemmas and contracts of functions, strung together out of 4 texts. No condition. -/
import Derived.Test.YtapplindfijngaaGreatJPfCompactDicts21
import Derived.Test.YtapplindfijngaaGreatJPfCompactDicts17
/- law11.made, walked. Conditions: 0 ≤ n ≤ 100, at most 100 slots, which are read. -/
namespace Go.Proofs.YtapplindfijngaaGreat
open Go.RowKit Go.Shelf
set_option maxRecDepth 100000

theorem u8_nat (k : Nat) (h : k ≤ 255) : (UInt8.ofNat k).toNat = k := by simp; omega
def removeMissA (w : World) (e : Ending) (w' : World) : Prop := e = .returned (.tuple #[.agg #[.string ⟨#[]⟩, .slice none 0 0, .int .u64 0, .int .u64 0], .int .i64 9]) ∧ Pure w w'
theorem removeMissA_ok {w : World} {D : Nat → Prop} {p : Nat} {L : List (Option Ent)} (h : LogAt w D p L) (i : Nat) (hu : i ≤ 4294967295) (hi : ∀ x, L[i]? ≠ some (some x)) :
    Calls Tryz.prog 24 #[logPtr p, .int .u32 i] w (removeMissA w) := by
  obtain ⟨sv, M, rfl, h⟩ := h
  refine Remove_miss h hu ?_
  unfold slotOf
  cases e : M[i]? with
  | none => rfl
  | some m =>
    obtain ⟨o, v⟩ := m
    cases o with
    | none => rfl
    | some x => exact absurd (by rw [List.getElem?_map, e]; rfl) (hi x)

theorem ref_AppendK {w : World} {aL : Option Addr} {cL : Nat} {aG : Option Addr} {cG : Nat} {Q : List RQ} (h : RefRow w aL cL aG cG Q) (hQ : Q.length < 4194304) (k : Nat) (a : Option Addr) (n c : Nat) (hx : ReadAt w (.slice a n c) 1 (bytesOf (mkE k).val)) :
    Calls Tryz.prog 23 #[refV aL cL aG cG Q.length, .agg #[.string ⟨#[UInt8.ofNat k]⟩, .slice a n c, .int .u64 k, .int .u64 ((k : Int) + 1)]] w (refAppPost w Q (mkE k)) := ref_Append h hQ (mkE k) (mkE_ok k) a n c hx
theorem appendAK {w : World} {D : Nat → Prop} {p : Nat} {L : List (Option Ent)} (h : LogAt w D p L) (hL : L.length < 4194304) (k : Nat) (a : Option Addr) (n c : Nat) (hx : ReadAt w (.slice a n c) 1 (bytesOf (mkE k).val)) :
    Calls Tryz.prog 22 #[logPtr p, .agg #[.string ⟨#[UInt8.ofNat k]⟩, .slice a n c, .int .u64 k, .int .u64 ((k : Int) + 1)]] w (appendA w D p L (mkE k)) := appendA_ok h hL (mkE k) (mkE_ok k) a n c hx
def madePost (w : World) (n : Nat) (gs : List Nat) (e : Ending) (w' : World) : Prop :=
  ∃ p D aL cL aG cG Q, e = .returned (.tuple #[logPtr p, refV aL cL aG cG Q.length, .bool true]) ∧ LogAt w' D p (slotsR (madeR n gs)) ∧ (∀ k, D k → w.heap.size ≤ k) ∧ Q.map absQ = madeR n gs ∧ RefRow w' aL cL aG cG Q ∧
    (∀ g, (Value.slice aL Q.length cL).ownBlock = some g → ¬ D g) ∧ Pure w w'
def MdLoop (w : World) (p b8 n : Nat) (i : Value) (wr : World) : Prop := ∃ k : Nat, k ≤ n ∧ i = .int .i64 k ∧ MdInv w p b8 (baseR k) wr
def MdLoop2 (w : World) (p b8 n : Nat) (gs : List Nat) (i : Value) (wr : World) : Prop := ∃ j : Nat, j ≤ gs.length ∧ i = .int .i64 j ∧ MdInv w p b8 ((gs.take j).foldl rmR (baseR n)) wr

set_option maxHeartbeats 2000000 in
theorem made_any {w : World} (n : Nat) (hn : n ≤ 100) (a : Option Addr) (c : Nat) (gs : List Nat) (hg : ReadAt w (.slice a gs.length c) 1 (u32s gs)) (hgl : gs.length ≤ 100) (hgu : ∀ s ∈ gs, s ≤ 4294967295) :
    Calls Tryz.prog 34 #[.int .i64 n, .slice a gs.length c] w (madePost w n gs) := by
  have HG := Lib.hid hg
  have HGU := Lib.hid hgu
  have hn1 : (n : Int) ≤ 100 := by omega
  have hgl1 : (gs.length : Int) ≤ 100 := by omega
  clear hg hgu
  go_enter Tryz.func34, Tryz.ntmps34
  go_upto_region 2 with (go_at_call 21; refine Calls.mono (newA_ok _) ?_; rintro e w1 ⟨rfl, hl, hp, hz⟩)
  simp only [World.size_alloc] at hl
  have I : MdInv w (w.heap.size + 1) w1.heap.size (baseR 0) (w1.alloc (.cells #[.slice none 0 0, .slice none 0 0] 32)) := by
    have hal : Pure w1 (w1.alloc (.cells #[.slice none 0 0, .slice none 0 0] 32)) := (Mod.refl _ w1).alloc _
    have hsz := hp.size
    simp at hsz
    exact ⟨(((Mod.refl _ w).alloc _).trans hp).trans hal, hal.heap (fun h => h) (hp.heap (fun h => h) (heap_new rfl)), by omega, _, none, 0, none, 0, [], hl.pure hal, fun k hk => by omega, rfl, heap_new rfl, RefRow.nil _, fun g e => by cases e⟩
  generalize w1.alloc (.cells #[.slice none 0 0, .slice none 0 0] 32) = W at I ⊢
  generalize w1.heap.size = b8 at I ⊢
  have HI := Lib.hid I
  clear I hl hp hz
  go_wp2
  generalize hpp : w.heap.size + 1 = p at *
  go_loopw [9] (fun i wr => MdLoop w p b8 n i wr) (fun i _ => n - (intOf i).toNat)
  case atStart => exact ⟨0, by omega, rfl, HI.out⟩
  case round =>
    obtain ⟨k, hk, rfl, I⟩ := hrel
    have HI := Lib.hid I
    obtain ⟨pu, r5, hb, D, aL, cL, aG, cG, Q, hl, hD, hQ, r8, hR, hA⟩ := I
    have HPU := Lib.hid pu; have HL := Lib.hid hl; have HD := Lib.hid hD; have HQ := Lib.hid hQ; have HR := Lib.hid hR; have HA := Lib.hid hA; have HR5 := Lib.hid r5
    have hql : Q.length = k := by have := congrArg List.length hQ; rw [List.length_map, baseR_length] at this; exact this
    have HQL := Lib.hid hql
    have hql2 : Q.length ≤ 100 := by omega
    clear pu hl hD hQ hR hA r5 hql
    by_cases hlt : k < n
    · have hk1 : (k : Int) < (n : Int) := by omega
      have hk2 : (k : Int) ≤ 100 := by omega
      have kc := conv_bytes (w := wr.alloc (.cells #[.int .u8 k] 5)) (a := some ⟨wr.heap.size, 0, none⟩) (n := 1) (c := 1) [UInt8.ofNat k] (by
        have := ReadAt.of_block (w := wr.alloc (.cells #[.int .u8 k] 5)) (k := 1) 1 1 (heap_new rfl) rfl (by simp [Value.oneCell'])
        simpa [bytesOf, u8_nat k (by omega)] using this)
      go_upto_region 8 with fail
      clear kc
      have hp1 : Pure wr (((wr.alloc (.cells #[.int .u8 k] 5)).alloc (.cells #[.int .u8 k, .int .u8 7] 5)).alloc (.cells #[.string ⟨#[UInt8.ofNat k]⟩, .slice (some ⟨wr.heap.size + 1, 0, none⟩) 2 2, .int .u64 k, .int .u64 ((k : Int) + 1)] 42)) := (((Mod.refl _ wr).alloc _).alloc _).alloc _
      have rB := heap_keep (o := .cells #[.string ⟨#[UInt8.ofNat k]⟩, .slice (some ⟨wr.heap.size + 1, 0, none⟩) 2 2, .int .u64 k, .int .u64 ((k : Int) + 1)] 42 (0, 0)) (heap_new (w := wr.alloc (.cells #[.int .u8 k] 5)) (o := .cells #[.int .u8 k, .int .u8 7] 5 (0, 0)) (n := wr.heap.size + 1) (by simp))
      have rE := heap_new (w := (wr.alloc (.cells #[.int .u8 k] 5)).alloc (.cells #[.int .u8 k, .int .u8 7] 5)) (o := .cells #[.string ⟨#[UInt8.ofNat k]⟩, .slice (some ⟨wr.heap.size + 1, 0, none⟩) 2 2, .int .u64 k, .int .u64 ((k : Int) + 1)] 42 (0, 0)) (n := wr.heap.size + 1 + 1) (by simp)
      have hrd := ReadAt.of_block (k := 1) 2 2 rB rfl (by simp [Value.oneCell'])
      generalize ((wr.alloc (.cells #[.int .u8 k] 5)).alloc (.cells #[.int .u8 k, .int .u8 7] 5)).alloc (.cells #[.string ⟨#[UInt8.ofNat k]⟩, .slice (some ⟨wr.heap.size + 1, 0, none⟩) 2 2, .int .u64 k, .int .u64 ((k : Int) + 1)] 42) = W1 at hp1 rE hrd ⊢
      have HRD : Hid (ReadAt W1 (.slice (some ⟨wr.heap.size + 1, 0, none⟩) 2 2) 1 (bytesOf (mkE k).val)) := by
        have : bytesOf (mkE k).val = [.int .u8 k, .int .u8 7] := by simp [bytesOf, mkE, u8_nat k (by omega)]
        rw [this]; exact hrd
      have HP1 := Lib.hid hp1
      replace r8 := hp1.heap (fun h => h) r8
      clear rB hrd hp1
      have r8_0 := cell_of_row _ _ 0 _ _ _ r8; have r8_1 := cell_of_row _ _ 1 _ _ _ r8; have r8_f := (fun j => frozen_of_row _ _ j _ _ r8); have r8_l := lt_of_block r8; simp at r8_0 r8_1; have H_r8 := Lib.hid r8; clear r8
      have rE_0 := cell_of_row _ _ 0 _ _ _ rE; have rE_1 := cell_of_row _ _ 1 _ _ _ rE; have rE_2 := cell_of_row _ _ 2 _ _ _ rE; have rE_3 := cell_of_row _ _ 3 _ _ _ rE; have rE_f := (fun j => frozen_of_row _ _ j _ _ rE); have rE_l := lt_of_block rE; simp at rE_0 rE_1 rE_2 rE_3; have H_rE := Lib.hid rE; clear rE
      go_upto_region 9 with (go_at_call 23; refine Calls.mono (ref_AppendK (HR.out.pure HP1.out) (by omega) k _ _ _ HRD.out) ?_; rintro e w2 ⟨aL2, cL2, aG2, cG2, Q2, rfl, hq2, hR2, hf2, hf3, hp2⟩; have z8 := hp2.heap (fun h => h) H_r8.out; have z8_0 := cell_of_row _ _ 0 _ _ _ z8; have z8_1 := cell_of_row _ _ 1 _ _ _ z8; have z8_f := (fun j => frozen_of_row _ _ j _ _ z8); have z8_l := lt_of_block z8; simp at z8_0 z8_1; have H_z8 := Lib.hid z8; clear z8)
      have HL1 := HL.out.pure HP1.out
      obtain ⟨hl3, hm3, S⟩ := md_step (HPU.out.trans HP1.out) (HP1.out.heap (fun h => h) HR5.out) hb HL1 HD.out H_r8.out hp2 hR2 (fun g hg hd => by have := hf2 g hg; have := HL1.lt hd; omega) hq2 rfl
      have hb8 : b8 < wr.heap.size := by
        obtain ⟨_, _, _, D0, _, _, _, _, Q0, _, _, _, h8, _⟩ := HI.out
        exact lt_of_block h8
      have hE3 := hm3.heap (show ¬ (wr.heap.size + 1 + 1 = b8) by omega) H_rE.out
      have HRD3 := Lib.hid (HRD.out.frame hm3 (fun g hg => by simp [rdBlock] at hg; omega))
      clear z8_0 z8_1 z8_f z8_l
      clear hp2 hR2 hf2 hf3 rE_0 rE_1 rE_2 rE_3 rE_f r8_0 r8_1 r8_f
      generalize (w2.setCell ⟨b8, 0, none⟩ (.slice aL2 Q2.length cL2)).setCell ⟨b8, 1, none⟩ (.slice aG2 Q2.length cG2) = W3 at hl3 hm3 S hE3 HRD3 ⊢
      have HL3 := Lib.hid hl3; have HS := Lib.hid S; have HQ2 := Lib.hid hq2
      clear hl3 S hm3 hq2
      have hE3_0 := cell_of_row _ _ 0 _ _ _ hE3; have hE3_1 := cell_of_row _ _ 1 _ _ _ hE3; have hE3_2 := cell_of_row _ _ 2 _ _ _ hE3; have hE3_3 := cell_of_row _ _ 3 _ _ _ hE3; have hE3_f := (fun j => frozen_of_row _ _ j _ _ hE3); have hE3_l := lt_of_block hE3; simp at hE3_0 hE3_1 hE3_2 hE3_3; have H_hE3 := Lib.hid hE3; clear hE3
      go_upto_region 10 with (go_at_call 22; refine Calls.mono (appendAK HL3.out (by rw [slotsR_length, baseR_length]; omega) k _ _ _ HRD3.out) ?_; rintro e w4 ⟨rfl, D', h4, hm4, hg4⟩)
      have HF := Lib.hid (HS.out D' _ w4 h4 hm4 hg4 (by rw [HQ.out, slotsR_snoc]))
      clear h4 hm4 hg4
      go_wp2
      go_roundw
      case rel => exact ⟨k + 1, by omega, by go_num, by rw [baseR_succ, ← HQ.out]; exact HF.out⟩
      case measure => simp [intOf]; omega
    · have hkn : k = n := by omega
      subst hkn
      clear HPU HL HD HQ HR HA HR5 HQL hql2 r8 hk hlt
      have hk1 : ¬ ((k : Int) < (k : Int)) := by omega
      go_wp2
      go_loopw [74] (fun i wr => MdLoop2 w p b8 k gs i wr) (fun i _ => gs.length - (intOf i).toNat)
      case atStart => exact ⟨0, by omega, rfl, HI.out⟩
      case round =>
        obtain ⟨j, hj, rfl, I⟩ := hrel
        have HI := Lib.hid I
        generalize hRR : (gs.take j).foldl rmR (baseR k) = R at *
        obtain ⟨pu, r5, hb, D, aL, cL, aG, cG, Q, hl, hD, hQ, r8, hR, hA⟩ := I
        have HPU := Lib.hid pu; have HL := Lib.hid hl; have HD := Lib.hid hD; have HQ := Lib.hid hQ; have HR := Lib.hid hR; have HA := Lib.hid hA
        have HRR := Lib.hid hRR
        clear pu hl hD hQ hR hA hRR
        by_cases hlt : j < gs.length
        · have hj1 : (j : Int) < (gs.length : Int) := by omega
          obtain ⟨gb, go, hga, hgb, hgc⟩ := (HG.out.frame HPU.out (fun _ _ h => h)).place (by omega)
          subst hga
          have he := List.getElem?_eq_getElem hlt
          generalize gs[j] = s at he
          have hs := HGU.out s (List.mem_of_getElem? he)
          have sg := hgc j (.int .u32 s) (by simp only [u32s, List.getElem?_map, he, Option.map_some])
          have HE := Lib.hid he
          clear he hgc
          have HR5 := Lib.hid r5
          clear r5
          have r8_0 := cell_of_row _ _ 0 _ _ _ r8; have r8_1 := cell_of_row _ _ 1 _ _ _ r8; have r8_f := (fun j => frozen_of_row _ _ j _ _ r8); have r8_l := lt_of_block r8; simp at r8_0 r8_1; have H_r8 := Lib.hid r8; clear r8
          have hs1 : (s : Int) ≤ 4294967295 := by omega
          by_cases hh : ∃ x, R[s]? = some (x, false)
          · obtain ⟨x, hx⟩ := hh
            obtain ⟨v, hq⟩ := absQ_get (HQ.out ▸ hx)
            obtain ⟨va, vc, hve, _⟩ := owns_form (HR.out.vals _ (List.mem_of_getElem? hq))
            dsimp only at hve
            subst hve
            have HQs := Lib.hid hq; have HX := Lib.hid hx
            clear hq hx
            go_upto_region 16 with (go_at_call 25; refine Calls.mono (ref_Remove_hit HR.out s hs x _ HQs.out) ?_; rintro e w2 ⟨aL2, cL2, aG2, cG2, Q2, rfl, hq2, hR2, hf2, hf3, hp2⟩)
            have hal : Pure w2 ((w2.alloc (.cells #[.slice aL2 Q2.length cL2, .slice aG2 Q2.length cG2] 32)).alloc (.cells #[.string x.key, .slice va (bytesOf x.val).length vc, .int .u64 x.dl, .int .u64 x.birth] 42)) := ((Mod.refl _ w2).alloc _).alloc _
            have z15 := heap_keep (o := .cells #[.string x.key, .slice va (bytesOf x.val).length vc, .int .u64 x.dl, .int .u64 x.birth] 42 (0, 0)) (heap_new (w := w2) (o := .cells #[.slice aL2 Q2.length cL2, .slice aG2 Q2.length cG2] 32 (0, 0)) rfl)
            generalize (w2.alloc (.cells #[.slice aL2 Q2.length cL2, .slice aG2 Q2.length cG2] 32)).alloc (.cells #[.string x.key, .slice va (bytesOf x.val).length vc, .int .u64 x.dl, .int .u64 x.birth] 42) = W2 at hal z15 ⊢
            have hnD : ∀ g, (Value.slice aL2 Q2.length cL2).ownBlock = some g → ¬ D g := fun g hg hd => by have := hf2 g hg; have := HL.out.lt hd; omega
            have HNW := Lib.hid (show w2.heap.size ≠ b8 by have := hp2.size; omega)
            generalize w2.heap.size = b15 at z15 HNW ⊢
            have HND := Lib.hid hnD; have HR2 := Lib.hid (hR2.pure hal); have HP2 := Lib.hid (hp2.trans hal); have HQ2 := Lib.hid hq2; have HZ := Lib.hid z15
            clear hnD hR2 hf2 hf3 hp2 hal hq2 z15 r8_0 r8_1 r8_f sg
            go_upto_region 17 with (go_at_call 24; refine Calls.mono (removeA_ok (HL.out.pure HP2.out) s x (slotsR_get HX.out)) ?_; rintro e w3 ⟨a3, n3, c3, rfl, hb3, hf3, hl3, hm3⟩)
            have hp4 : Pure w3 (w3.alloc (.cells #[.string x.key, .slice a3 n3 c3, .int .u64 x.dl, .int .u64 x.birth] 42)) := (Mod.refl _ w3).alloc _
            have z4 := hp4.heap (fun h => h) ((HL.out.pure HP2.out).box hm3 HZ.out (by decide) (by decide))
            have z8 := hp4.heap (fun h => h) ((HL.out.pure HP2.out).box hm3 (HP2.out.heap (fun h => h) H_r8.out) (by decide) (by decide))
            have S : ∀ W5, _ → MdInv w p b8 (rmR R s) W5 := fun W5 => md_step2 (HPU.out.trans HP2.out) (HP2.out.heap (fun h => h) HR5.out) hb (HL.out.pure HP2.out) HD.out (HP2.out.heap (fun h => h) H_r8.out) HR2.out HND.out (by rw [HQ2.out, HQ.out, rmR_hit HX.out]) hm3 hl3 (fun k hk => .inl hk) (by rw [rmR_hit HX.out, slotsR_set]) hp4
            have HS := Lib.hid S
            generalize w3.alloc (.cells #[.string x.key, .slice a3 n3 c3, .int .u64 x.dl, .int .u64 x.birth] 42) = W4 at HS z4 z8 ⊢
            clear S hb3 hf3 hl3 hm3 hp4
            have z4_0 := cell_of_row _ _ 0 _ _ _ z4; have z4_1 := cell_of_row _ _ 1 _ _ _ z4; have z4_f := (fun j => frozen_of_row _ _ j _ _ z4); have z4_l := lt_of_block z4; simp at z4_0 z4_1; have H_z4 := Lib.hid z4; clear z4
            have z8_0 := cell_of_row _ _ 0 _ _ _ z8; have z8_1 := cell_of_row _ _ 1 _ _ _ z8; have z8_f := (fun j => frozen_of_row _ _ j _ _ z8); have z8_l := lt_of_block z8; simp at z8_0 z8_1; have H_z8 := Lib.hid z8; clear z8
            go_upto_region 20 with fail
            clear z4_0 z4_1 z4_f z4_l
            clear z8_0 z8_1 z8_f z8_l
            have HF := Lib.hid (HS.out _ rfl)
            go_wp2
            go_roundw
            case rel => exact ⟨j + 1, by omega, by go_num, by rw [take_foldl HE.out, HRR.out]; exact HF.out⟩
            case measure => simp [intOf]; omega
          · have hmiss : ∀ x, R[s]? ≠ some (x, false) := fun x hx => hh ⟨x, hx⟩
            have HM := Lib.hid hmiss
            clear hh hmiss
            go_upto_region 16 with (go_at_call 25; refine Calls.mono (ref_Remove_miss HR.out s hs (hasQ_miss HQ.out HM.out)) ?_; rintro e w2 ⟨rfl, hp2⟩)
            have hal : Pure w2 ((w2.alloc (.cells #[.slice aL Q.length cL, .slice aG Q.length cG] 32)).alloc (.cells #[.string ⟨#[]⟩, .slice none 0 0, .int .u64 0, .int .u64 0] 42)) := ((Mod.refl _ w2).alloc _).alloc _
            have z15 := heap_keep (o := .cells #[.string ⟨#[]⟩, .slice none 0 0, .int .u64 0, .int .u64 0] 42 (0, 0)) (heap_new (w := w2) (o := .cells #[.slice aL Q.length cL, .slice aG Q.length cG] 32 (0, 0)) rfl)
            generalize (w2.alloc (.cells #[.slice aL Q.length cL, .slice aG Q.length cG] 32)).alloc (.cells #[.string ⟨#[]⟩, .slice none 0 0, .int .u64 0, .int .u64 0] 42) = W2 at hal z15 ⊢
            have HNW := Lib.hid (show w2.heap.size ≠ b8 by have := hp2.size; omega)
            generalize w2.heap.size = b15 at z15 HNW ⊢
            have HP2 := Lib.hid (hp2.trans hal); have HZ := Lib.hid z15
            clear hp2 hal z15 r8_0 r8_1 r8_f sg
            go_upto_region 17 with (go_at_call 24; refine Calls.mono (removeMissA_ok (HL.out.pure HP2.out) s hs (slotsR_miss HM.out)) ?_; rintro e w3 ⟨rfl, hp3⟩)
            have hp4 : Pure w3 (w3.alloc (.cells #[.string ⟨#[]⟩, .slice none 0 0, .int .u64 0, .int .u64 0] 42)) := (Mod.refl _ w3).alloc _
            have z4 := hp4.heap (fun h => h) (hp3.heap (fun h => h) HZ.out)
            have z8 := hp4.heap (fun h => h) (hp3.heap (fun h => h) (HP2.out.heap (fun h => h) H_r8.out))
            have S : ∀ W5, _ → MdInv w p b8 (rmR R s) W5 := fun W5 => md_step2 (HPU.out.trans HP2.out) (HP2.out.heap (fun h => h) HR5.out) hb (HL.out.pure HP2.out) HD.out (HP2.out.heap (fun h => h) H_r8.out) (HR.out.pure HP2.out) HA.out (by rw [HQ.out, rmR_miss HM.out]) (Mod.of_pure hp3) ((HL.out.pure HP2.out).pure hp3) (fun k hk => .inl hk) (by rw [rmR_miss HM.out]) hp4
            have HS := Lib.hid S
            generalize w3.alloc (.cells #[.string ⟨#[]⟩, .slice none 0 0, .int .u64 0, .int .u64 0] 42) = W4 at HS z4 z8 ⊢
            clear S hp3 hp4
            have z4_0 := cell_of_row _ _ 0 _ _ _ z4; have z4_1 := cell_of_row _ _ 1 _ _ _ z4; have z4_f := (fun j => frozen_of_row _ _ j _ _ z4); have z4_l := lt_of_block z4; simp at z4_0 z4_1; have H_z4 := Lib.hid z4; clear z4
            have z8_0 := cell_of_row _ _ 0 _ _ _ z8; have z8_1 := cell_of_row _ _ 1 _ _ _ z8; have z8_f := (fun j => frozen_of_row _ _ j _ _ z8); have z8_l := lt_of_block z8; simp at z8_0 z8_1; have H_z8 := Lib.hid z8; clear z8
            go_upto_region 20 with fail
            clear z4_0 z4_1 z4_f z4_l
            clear z8_0 z8_1 z8_f z8_l
            have HF := Lib.hid (HS.out _ rfl)
            go_wp2
            go_roundw
            case rel => exact ⟨j + 1, by omega, by go_num, by rw [take_foldl HE.out, HRR.out]; exact HF.out⟩
            case measure => simp [intOf]; omega
        · have hjl : gs.length = j := by omega
          have HJ := Lib.hid hjl
          have hj1 : ¬ ((j : Int) < (gs.length : Int)) := by omega
          clear hjl
          have r8_0 := cell_of_row _ _ 0 _ _ _ r8; have r8_1 := cell_of_row _ _ 1 _ _ _ r8; have r8_f := (fun j => frozen_of_row _ _ j _ _ r8); have r8_l := lt_of_block r8; simp at r8_0 r8_1; have H_r8 := Lib.hid r8; clear r8
          have r5_0 := cell_of_row _ _ 0 _ _ _ r5; have r5_1 := cell_of_row _ _ 1 _ _ _ r5; have r5_f := (fun j => frozen_of_row _ _ j _ _ r5); have r5_l := lt_of_block r5; simp at r5_0 r5_1; have H_r5 := Lib.hid r5; clear r5
          go_upto_region 21 with fail
          go_region
          go_wp2
          refine bodyPost_ret (v := .tuple #[logPtr p, refV aL cL aG cG Q.length, .bool true]) (by simp [results, Tryz.results34, go_sem, r5_0, r5_1, r5_f]) rfl ?_
          have hm5 : Mod (fun i => i = w.heap.size) wr (((wr.setCell ⟨w.heap.size, 0, none⟩ (.slice aL Q.length cL)).setCell ⟨w.heap.size, 1, none⟩ (.slice aG Q.length cG)).drew) := (Mod.set2 _ _ _ _ _).drew
          have hR' : R = madeR k gs := by rw [← HRR.out, ← HJ.out, List.take_length]; rfl
          refine ⟨p, D, aL, cL, aG, cG, Q, rfl, ?_, fun i hi => Nat.le_of_lt (HD.out i hi), by rw [HQ.out, hR'], HR.out.modT hm5 (fun i hi _ => by subst hi; exact ⟨_, _, H_r5.out⟩), HA.out, HPU.out.then hm5 (fun i hi h => by omega)⟩
          rw [← hR']
          exact HL.out.frame hm5 (fun i hi h => by have := HD.out i hi; omega) (fun i _ h cs fz e => by subst h; rw [H_r5.out] at e; cases e)
end Go.Proofs.YtapplindfijngaaGreat

/- law11.same answers true for a log and the reference's log of the same slots. Conditions: both are made of valid entries. -/
namespace Go.Proofs.YtapplindfijngaaGreat
open Go.RowKit Go.Shelf
set_option maxRecDepth 100000

@[go_sem] theorem eql_nil_log (w : World) (a : Addr) : (binOp .eql 58 (.pointer (some a)) (.pointer none)).run Tryz.prog w = .ok (.bool false) w := by
  simp [go_sem]
theorem liveQ_slots (Q : List RQ) : liveQ Q = liveOf (slotsR (Q.map absQ)) := by
  unfold liveQ liveOf slotsR
  rw [List.map_map, List.countP_map]
  refine List.countP_congr (fun q _ => ?_)
  obtain ⟨x, v, g⟩ := q
  cases g <;> simp [absQ]
structure SmInv (w : World) (b : Nat) (aL : Option Addr) (cL : Nat) (aG : Option Addr) (cG n : Nat) (wr : World) : Prop where
  pu : Pure w wr
  r3 : wr.heap[b]? = some (.cells #[.slice aL n cL, .slice aG n cG] 32 (0, 0))
theorem SmInv.pure {w : World} {b : Nat} {aL : Option Addr} {cL : Nat} {aG : Option Addr} {cG n : Nat} {wr wr' : World} (h : SmInv w b aL cL aG cG n wr) (hq : Pure wr wr') : SmInv w b aL cL aG cG n wr' := ⟨h.pu.trans hq, hq.heap (fun h => h) h.r3⟩

/-- What both Get say of a slot. -/
theorem same_slot {Q : List RQ} {i : Nat} : (∃ x v, Q[i]? = some (x, v, false) ∧ (slotsR (Q.map absQ))[i]? = some (some x)) ∨ ((∀ x, (slotsR (Q.map absQ))[i]? ≠ some (some x)) ∧ ∀ x v, Q[i]? ≠ some (x, v, false)) := by
  cases e : Q[i]? with
  | none => exact .inr ⟨(fun x h => by unfold slotsR at h; rw [List.getElem?_map, List.getElem?_map, e] at h; cases h), (fun x v h => by cases h)⟩
  | some q =>
    obtain ⟨x, v, g⟩ := q
    cases g
    · exact .inl ⟨x, v, rfl, by unfold slotsR; rw [List.getElem?_map, List.getElem?_map, e]; rfl⟩
    · exact .inr ⟨(fun y h => by unfold slotsR at h; rw [List.getElem?_map, List.getElem?_map, e] at h; cases h), (fun y u h => by cases h)⟩
theorem getA_hit {w : World} {D : Nat → Prop} {p : Nat} {L : List (Option Ent)} (h : LogAt w D p L) (i : Nat) (x : Ent) (hi : L[i]? = some (some x)) : Calls Tryz.prog 97 #[logPtr p, .int .u32 i] w (getPost (some x) w) := by
  obtain ⟨sv, M, rfl, h⟩ := h
  rw [List.getElem?_map] at hi
  cases e : M[i]? with
  | none => rw [e] at hi; cases hi
  | some m =>
    obtain ⟨o, v⟩ := m
    rw [e] at hi
    cases hi
    exact Get_hit h e
theorem getA_miss {w : World} {D : Nat → Prop} {p : Nat} {L : List (Option Ent)} (h : LogAt w D p L) (i : Nat) (hu : i ≤ 4294967295) (hi : ∀ x, L[i]? ≠ some (some x)) : Calls Tryz.prog 97 #[logPtr p, .int .u32 i] w (getPost none w) := by
  obtain ⟨sv, M, rfl, h⟩ := h
  refine Get_miss h hu ?_
  unfold slotOf
  cases e : M[i]? with
  | none => rfl
  | some m =>
    obtain ⟨o, v⟩ := m
    cases o with
    | none => rfl
    | some x => exact absurd (by rw [List.getElem?_map, e]; rfl) (hi x)
theorem refGet_hit {w : World} {aL : Option Addr} {cL : Nat} {aG : Option Addr} {cG : Nat} {Q : List RQ} (h : RefRow w aL cL aG cG Q) (s : Nat) (hs : s ≤ 4294967295) (x : Ent) (v : Value) (hi : Q[s]? = some (x, v, false)) :
    Calls Tryz.prog 85 #[refV aL cL aG cG Q.length, .int .u32 s] w fun e w' => e = .returned (.tuple #[.agg #[.string x.key, v, .int .u64 x.dl, .int .u64 x.birth], .int .i64 0]) ∧ Pure w w' := by
  refine Calls.mono (ref_Get h s hs) ?_
  rintro e w' ⟨h1, h2⟩
  rw [hi] at h2
  exact ⟨h2, h1⟩
theorem refGet_miss {w : World} {aL : Option Addr} {cL : Nat} {aG : Option Addr} {cG : Nat} {Q : List RQ} (h : RefRow w aL cL aG cG Q) (s : Nat) (hs : s ≤ 4294967295) (hi : ∀ x v, Q[s]? ≠ some (x, v, false)) :
    Calls Tryz.prog 85 #[refV aL cL aG cG Q.length, .int .u32 s] w fun e w' => e = .returned (.tuple #[.agg #[.string ⟨#[]⟩, .slice none 0 0, .int .u64 0, .int .u64 0], .int .i64 9]) ∧ Pure w w' := by
  refine Calls.mono (ref_Get h s hs) ?_
  rintro e w' ⟨h1, h2⟩
  split at h2
  · rename_i e; exact absurd e (hi _ _)
  · exact ⟨h2, h1⟩
theorem ref_Equal_zero {w : World} : Calls Tryz.prog 18 #[.agg #[.string ⟨#[]⟩, .slice none 0 0, .int .u64 0, .int .u64 0], .agg #[.string ⟨#[]⟩, .slice none 0 0, .int .u64 0, .int .u64 0]] w fun e w' => e = .returned (.bool true) ∧ Pure w w' :=
  ref_Equal_same ⟨⟨#[]⟩, [], 0, 0⟩ none none 0 0 0 0 (ReadAt.nil _ _) (ReadAt.nil _ _)

set_option maxHeartbeats 1000000 in
theorem same_true {w : World} {D : Nat → Prop} {p : Nat} {aL : Option Addr} {cL : Nat} {aG : Option Addr} {cG : Nat} {Q : List RQ} (h : LogAt w D p (slotsR (Q.map absQ))) (hR : RefRow w aL cL aG cG Q) :
    Calls Tryz.prog 38 #[logPtr p, refV aL cL aG cG Q.length] w fun e w' => e = .returned (.bool true) ∧ Pure w w' := by
  have H := Lib.hid h
  have HR := Lib.hid hR
  have hlen := hR.len
  have hlq := liveQ_slots Q
  have hsl : (slotsR (Q.map absQ)).length = Q.length := by rw [slotsR_length, List.length_map]
  have HLQ := Lib.hid hlq; have HSL := Lib.hid hsl
  have hI : SmInv w w.heap.size aL cL aG cG Q.length (w.alloc (.cells #[.slice aL Q.length cL, .slice aG Q.length cG] 32)) := ⟨(Mod.refl _ w).alloc _, heap_new rfl⟩
  have HI := Lib.hid hI
  clear h hR hlq hsl hI
  go_enter Tryz.func38, Tryz.ntmps38
  go_upto_region 1 with fail
  generalize w.alloc (.cells #[.slice aL Q.length cL, .slice aG Q.length cG] 32) = W at HI ⊢
  generalize w.heap.size = b at HI ⊢
  have hr := HI.out.r3
  have hr_0 := cell_of_row _ _ 0 _ _ _ hr; have hr_1 := cell_of_row _ _ 1 _ _ _ hr; have hr_f := (fun j => frozen_of_row _ _ j _ _ hr); have hr_l := lt_of_block hr; simp at hr_0 hr_1; have H_hr := Lib.hid hr; clear hr
  go_region_held3 (fun w' => w'.cell? ⟨b, 0, none⟩ = some (.slice aL Q.length cL) ∧ w'.cell? ⟨b, 1, none⟩ = some (.slice aG Q.length cG)) (go_keep)
    (first
      | (go_at_call 28; refine Calls.mono (lenA (H.out.pure (Mod.trans HI.out.pu (by (repeat' (first | (with_reducible exact Mod.refl _ _) | (with_reducible refine Mod.alloc ?_ _) | (with_reducible refine Mod.drew ?_) | (with_reducible refine Mod.drewN ?_ _) | (with_reducible refine Mod.setCell ?_ ?_ _) | (refine Mod.then ?_ (by with_reducible assumption) ?_))))))) ?_; rintro e w1 ⟨rfl, rfl⟩; rw [HSL.out])
      | (go_at_call 69; refine Calls.mono (liveA (H.out.pure (Mod.trans HI.out.pu (by (repeat' (first | (with_reducible exact Mod.refl _ _) | (with_reducible refine Mod.alloc ?_ _) | (with_reducible refine Mod.drew ?_) | (with_reducible refine Mod.drewN ?_ _) | (with_reducible refine Mod.setCell ?_ ?_ _) | (refine Mod.then ?_ (by with_reducible assumption) ?_))))))) ?_; rintro e w1 ⟨rfl, rfl⟩; rw [← HLQ.out])
      | (go_at_call 20; refine Calls.mono (ref_Live (HR.out.pure (Mod.trans HI.out.pu (by (repeat' (first | (with_reducible exact Mod.refl _ _) | (with_reducible refine Mod.alloc ?_ _) | (with_reducible refine Mod.drew ?_) | (with_reducible refine Mod.drewN ?_ _) | (with_reducible refine Mod.setCell ?_ ?_ _) | (refine Mod.then ?_ (by with_reducible assumption) ?_))))))) ?_; rintro e w1 ⟨rfl, hq⟩; have hq1 : Pure W w1 := Mod.of_drew hq; have y0 := hq1.cell (fun h => h) hr_0; have y1 := hq1.cell (fun h => h) hr_1; have HQ1 := Lib.hid hq1; clear hq hq1))
  replace HI := Lib.hid (HI.out.pure HQ1.out)
  clear y0 y1 HQ1
  clear hr_0 hr_1 hr_f hr_l
  go_wp2
  go_loopw [5] (fun i wr => ∃ k : Nat, k ≤ Q.length + 1 ∧ i = .int .i64 k ∧ SmInv w b aL cL aG cG Q.length wr) (fun i _ => Q.length + 1 - (intOf i).toNat)
  case atStart => exact ⟨0, by omega, rfl, HI.out⟩
  case round =>
    obtain ⟨k, hk, rfl, hI⟩ := hrel
    have HI := Lib.hid hI
    clear hI
    have hr := HI.out.r3
    have hr_0 := cell_of_row _ _ 0 _ _ _ hr; have hr_1 := cell_of_row _ _ 1 _ _ _ hr; have hr_f := (fun j => frozen_of_row _ _ j _ _ hr); have hr_l := lt_of_block hr; simp at hr_0 hr_1; have H_hr := Lib.hid hr; clear hr
    by_cases hlt : k ≤ Q.length
    · have hk1 : (k : Int) ≤ (Q.length : Int) := by omega
      have hk2 : (k : Int) ≤ 4294967295 := by omega
      rcases same_slot (Q := Q) (i := k) with ⟨x, v, hq, hx⟩ | ⟨hx, hq⟩
      · obtain ⟨va, vc, hve, _⟩ := owns_form (HR.out.vals _ (List.mem_of_getElem? hq))
        dsimp only at hve
        subst hve
        have HQs := Lib.hid hq; have HX := Lib.hid hx
        clear hq hx
        go_upto_region 7 with (go_at_call 97; refine Calls.mono (getA_hit (H.out.pure HI.out.pu) k x HX.out) ?_; rintro e w1 ⟨a1, n1, c1, rfl, hb1, hf1, hp1⟩)
        have hal : Pure w1 (w1.alloc (.cells #[.string x.key, .slice a1 n1 c1, .int .u64 x.dl, .int .u64 x.birth] 42)) := (Mod.refl _ w1).alloc _
        have z6 := heap_new (w := w1) (o := .cells #[.string x.key, .slice a1 n1 c1, .int .u64 x.dl, .int .u64 x.birth] 42 (0, 0)) rfl
        have hrd := (hb1.read (bytesOf_one _)).frame hal (fun _ _ h => h)
        replace HI := Lib.hid ((HI.out.pure hp1).pure hal)
        generalize w1.alloc (.cells #[.string x.key, .slice a1 n1 c1, .int .u64 x.dl, .int .u64 x.birth] 42) = W1 at z6 hrd HI ⊢
        generalize w1.heap.size = b6 at z6 ⊢
        have HRD := Lib.hid hrd; have HZ6 := Lib.hid z6
        clear hr_0 hr_1 hr_f hr_l
        clear hal hp1 hb1 hf1 hrd z6
        have hr := HI.out.r3
        have hr_0 := cell_of_row _ _ 0 _ _ _ hr; have hr_1 := cell_of_row _ _ 1 _ _ _ hr; have hr_f := (fun j => frozen_of_row _ _ j _ _ hr); have hr_l := lt_of_block hr; simp at hr_0 hr_1; have H_hr := Lib.hid hr; clear hr
        go_upto_region 8 with (go_at_call 85; refine Calls.mono (refGet_hit (HR.out.pure HI.out.pu) k (by omega) x _ HQs.out) ?_; rintro e w2 ⟨rfl, hp2⟩)
        have hal : Pure w2 (w2.alloc (.cells #[.string x.key, .slice va (bytesOf x.val).length vc, .int .u64 x.dl, .int .u64 x.birth] 42)) := (Mod.refl _ w2).alloc _
        have z8 := heap_new (w := w2) (o := .cells #[.string x.key, .slice va (bytesOf x.val).length vc, .int .u64 x.dl, .int .u64 x.birth] 42 (0, 0)) rfl
        replace HI := Lib.hid ((HI.out.pure hp2).pure hal)
        have z6 := hal.heap (fun h => h) (hp2.heap (fun h => h) HZ6.out)
        have HRD1 := Lib.hid (HRD.out.frame (hp2.trans hal) (fun _ _ h => h))
        generalize w2.alloc (.cells #[.string x.key, .slice va (bytesOf x.val).length vc, .int .u64 x.dl, .int .u64 x.birth] 42) = W2 at z6 z8 HRD1 HI ⊢
        generalize w2.heap.size = b8 at z8 ⊢
        have HRD2 := Lib.hid (BytesAt.read (HR.out.pure HI.out.pu |>.vals _ (List.mem_of_getElem? HQs.out)) (bytesOf_one _))
        clear hr_0 hr_1 hr_f hr_l
        clear hal hp2
        have z6_0 := cell_of_row _ _ 0 _ _ _ z6; have z6_1 := cell_of_row _ _ 1 _ _ _ z6; have z6_2 := cell_of_row _ _ 2 _ _ _ z6; have z6_3 := cell_of_row _ _ 3 _ _ _ z6; have z6_f := (fun j => frozen_of_row _ _ j _ _ z6); have z6_l := lt_of_block z6; simp at z6_0 z6_1 z6_2 z6_3; have H_z6 := Lib.hid z6; clear z6
        have z8_0 := cell_of_row _ _ 0 _ _ _ z8; have z8_1 := cell_of_row _ _ 1 _ _ _ z8; have z8_2 := cell_of_row _ _ 2 _ _ _ z8; have z8_3 := cell_of_row _ _ 3 _ _ _ z8; have z8_f := (fun j => frozen_of_row _ _ j _ _ z8); have z8_l := lt_of_block z8; simp at z8_0 z8_1 z8_2 z8_3; have H_z8 := Lib.hid z8; clear z8
        go_upto_region 5 with (go_at_call 18; refine Calls.mono (ref_Equal_same x a1 va n1 _ c1 vc HRD1.out HRD2.out) ?_; rintro e w3 ⟨rfl, hp3⟩; replace HI := Lib.hid (HI.out.pure hp3); clear hp3)
        go_wp2
        go_roundw
        case rel => exact ⟨k + 1, by omega, by go_num, HI.out⟩
        case measure => simp [intOf]; omega
      · have HQs := Lib.hid hq; have HX := Lib.hid hx
        clear hq hx
        go_upto_region 7 with (go_at_call 97; refine Calls.mono (getA_miss (H.out.pure HI.out.pu) k (by omega) HX.out) ?_; rintro e w1 ⟨rfl, hp1⟩)
        have hal : Pure w1 (w1.alloc (.cells #[.string ⟨#[]⟩, .slice none 0 0, .int .u64 0, .int .u64 0] 42)) := (Mod.refl _ w1).alloc _
        have z6 := heap_new (w := w1) (o := .cells #[.string ⟨#[]⟩, .slice none 0 0, .int .u64 0, .int .u64 0] 42 (0, 0)) rfl
        replace HI := Lib.hid ((HI.out.pure hp1).pure hal)
        generalize w1.alloc (.cells #[.string ⟨#[]⟩, .slice none 0 0, .int .u64 0, .int .u64 0] 42) = W1 at z6 HI ⊢
        generalize w1.heap.size = b6 at z6 ⊢
        have HZ6 := Lib.hid z6
        clear hr_0 hr_1 hr_f hr_l
        clear hal hp1 z6
        have hr := HI.out.r3
        have hr_0 := cell_of_row _ _ 0 _ _ _ hr; have hr_1 := cell_of_row _ _ 1 _ _ _ hr; have hr_f := (fun j => frozen_of_row _ _ j _ _ hr); have hr_l := lt_of_block hr; simp at hr_0 hr_1; have H_hr := Lib.hid hr; clear hr
        go_upto_region 8 with (go_at_call 85; refine Calls.mono (refGet_miss (HR.out.pure HI.out.pu) k (by omega) HQs.out) ?_; rintro e w2 ⟨rfl, hp2⟩)
        have hal : Pure w2 (w2.alloc (.cells #[.string ⟨#[]⟩, .slice none 0 0, .int .u64 0, .int .u64 0] 42)) := (Mod.refl _ w2).alloc _
        have z8 := heap_new (w := w2) (o := .cells #[.string ⟨#[]⟩, .slice none 0 0, .int .u64 0, .int .u64 0] 42 (0, 0)) rfl
        replace HI := Lib.hid ((HI.out.pure hp2).pure hal)
        have z6 := hal.heap (fun h => h) (hp2.heap (fun h => h) HZ6.out)
        generalize w2.alloc (.cells #[.string ⟨#[]⟩, .slice none 0 0, .int .u64 0, .int .u64 0] 42) = W2 at z6 z8 HI ⊢
        generalize w2.heap.size = b8 at z8 ⊢
        clear hr_0 hr_1 hr_f hr_l
        clear hal hp2
        have z6_0 := cell_of_row _ _ 0 _ _ _ z6; have z6_1 := cell_of_row _ _ 1 _ _ _ z6; have z6_2 := cell_of_row _ _ 2 _ _ _ z6; have z6_3 := cell_of_row _ _ 3 _ _ _ z6; have z6_f := (fun j => frozen_of_row _ _ j _ _ z6); have z6_l := lt_of_block z6; simp at z6_0 z6_1 z6_2 z6_3; have H_z6 := Lib.hid z6; clear z6
        have z8_0 := cell_of_row _ _ 0 _ _ _ z8; have z8_1 := cell_of_row _ _ 1 _ _ _ z8; have z8_2 := cell_of_row _ _ 2 _ _ _ z8; have z8_3 := cell_of_row _ _ 3 _ _ _ z8; have z8_f := (fun j => frozen_of_row _ _ j _ _ z8); have z8_l := lt_of_block z8; simp at z8_0 z8_1 z8_2 z8_3; have H_z8 := Lib.hid z8; clear z8
        go_upto_region 5 with (go_at_call 18; refine Calls.mono ref_Equal_zero ?_; rintro e w3 ⟨rfl, hp3⟩; replace HI := Lib.hid (HI.out.pure hp3); clear hp3)
        go_wp2
        go_roundw
        case rel => exact ⟨k + 1, by omega, by go_num, HI.out⟩
        case measure => simp [intOf]; omega
    · have hk1 : (Q.length : Int) < (k : Int) := by omega
      go_wp2
      go_ret
      exact ⟨rfl, HI.out.pu⟩
end Go.Proofs.YtapplindfijngaaGreat

/- The reference's From of layer 11. Conditions: the row is owned, the slot numbers rise and are below the length. -/
namespace Go.Proofs.YtapplindfijngaaGreat
open Go.RowKit Go.Shelf
set_option maxRecDepth 100000

/-- No slot number below k goes to s. -/
def FrInv (w : World) (a : Option Addr) (c n : Nat) (m : Int) (xs : List Nat) (s : Nat) (i : Value) (wr : World) : Prop :=
  ∃ k : Nat, k ≤ n ∧ i = .int .i64 k ∧ (∀ j, j < k → j ∈ xs → below xs j ≠ s) ∧ Pure w wr ∧ wr.heap[w.heap.size]? = some (.cells #[.slice a n c, .int .i64 m] 86 (0, 0))
theorem below_at {xs : List Nat} (h : xs.Pairwise (· < ·)) {s x : Nat} (hs : xs[s]? = some x) : below xs x = s := by
  refine below_of h (Nat.le_of_lt (List.getElem?_eq_some_iff.1 hs).1) (fun k y hk hy => rising_lt h hk hy hs) (fun k y hk hy => ?_)
  rcases Nat.lt_or_eq_of_le hk with hlt | rfl
  · exact Nat.le_of_lt (rising_lt h hlt hs hy)
  · rw [hs] at hy; cases hy; exact Nat.le_refl _
theorem at_below {xs : List Nat} (h : xs.Pairwise (· < ·)) {x : Nat} (hx : x ∈ xs) : xs[below xs x]? = some x := by
  obtain ⟨s, hs⟩ := List.mem_iff_getElem?.1 hx
  rw [below_at h hs]; exact hs
theorem fromM_hit {xs : List Nat} (h : xs.Pairwise (· < ·)) {x : Nat} (hx : x ∈ xs) : fromM xs (below xs x) = (x, 0) := by
  have h1 := at_below h hx
  have hlt := (List.getElem?_eq_some_iff.1 h1).1
  unfold fromM
  rw [if_pos hlt]
  simp [List.getD, h1]
theorem fromM_miss {xs : List Nat} (h : xs.Pairwise (· < ·)) {n s : Nat} (hx : ∀ x ∈ xs, x < n) (hno : ∀ j, j < n → j ∈ xs → below xs j ≠ s) : fromM xs s = (0, 9) := by
  unfold fromM
  rw [if_neg]
  intro hlt
  have h1 := List.getElem?_eq_getElem hlt
  have hm := List.mem_of_getElem? h1
  exact hno _ (hx _ hm) hm (below_at h h1)

set_option maxHeartbeats 1000000 in
theorem ref_From {w : World} {a : Option Addr} {c n : Nat} {xs : List Nat} (h : MvX w a c n xs) (hr : Rising xs) (hn : n ≤ 4194304) (hx : ∀ x ∈ xs, x < n) (m : Int) (s : Nat) (hs : s ≤ 4294967295) :
    Calls Tryz.prog 96 #[.agg #[.slice a n c, .int .i64 m], .int .u32 s] w fun e w' => e = .returned (.tuple #[.int .u32 (fromM xs s).1, .int .i64 (fromM xs s).2]) ∧ Pure w w' := by
  have H := Lib.hid h
  have HR := Lib.hid hr
  have HX := Lib.hid hx
  have hl : xs.length ≤ 4194304 := hr.len
  clear h hr hx
  go_enter Tryz.func96, Tryz.ntmps96
  go_wp2
  go_loopw [6] (fun i wr => FrInv w a c n m xs s i wr) (fun i _ => n - (intOf i).toNat)
  case atStart => exact ⟨0, Nat.zero_le _, rfl, fun j hj => by omega, (Mod.refl _ w).alloc _, heap_new rfl⟩
  case round =>
    obtain ⟨k, hk, rfl, hno, hpu, hr1⟩ := hrel
    have HW := Lib.hid (H.out.pure hpu)
    have HPU := Lib.hid hpu
    have HNO := Lib.hid hno
    clear hpu hno
    have hr1_0 := cell_of_row _ _ 0 _ _ _ hr1; have hr1_1 := cell_of_row _ _ 1 _ _ _ hr1; have hr1_f := (fun j => frozen_of_row _ _ j _ _ hr1); have hr1_l := lt_of_block hr1; simp at hr1_0 hr1_1; have H_hr1 := Lib.hid hr1; clear hr1
    by_cases hlt : k < n
    · have hk1 : (k : Int) < (n : Int) := by omega
      obtain ⟨g, hga, hg, hc⟩ := HW.out.cell hlt
      subst hga
      by_cases hm : k ∈ xs
      · rw [if_pos hm] at hc
        have hb1 : (below xs k : Int) ≤ 4294967295 := by have := below_le xs k; omega
        have hb0 : (0 : Int) ≤ (below xs k : Int) := by omega
        by_cases he : below xs k = s
        · have E := Lib.hid (he ▸ fromM_hit HR.out.up hm : fromM xs s = (k, 0))
          have hb2 : (s : Int) ≤ 4294967295 := by omega
          have hb3 : (0 : Int) ≤ (s : Int) := by omega
          rw [he] at hc
          clear he hb0 hb1 hm
          go_wp2
          go_ret2
          exact ⟨by rw [E.out]; simp, HPU.out⟩
        · have hne : ¬ ((below xs k : Int) = (s : Int)) := by omega
          have hne2 : ((below xs k : Int) == (s : Int)) = false := by simp; omega
          have HN2 : Hid (∀ j, j < k + 1 → j ∈ xs → below xs j ≠ s) := fun j hj hjm => by
            rcases Nat.lt_or_eq_of_le (Nat.lt_succ_iff.1 hj) with hlt | rfl
            · exact HNO.out j hlt hjm
            · exact he
          clear he hm
          generalize below xs k = bl at hc hb0 hb1 hne hne2
          go_wp2
          go_roundw
          case rel =>
            unfold FrInv
            exact ⟨k + 1, by omega, by go_num, HN2.out, HPU.out, H_hr1.out⟩
          case measure => simp [intOf]; omega
      · rw [if_neg hm] at hc
        have HN2 : Hid (∀ j, j < k + 1 → j ∈ xs → below xs j ≠ s) := fun j hj hjm => by
          rcases Nat.lt_or_eq_of_le (Nat.lt_succ_iff.1 hj) with hlt | rfl
          · exact HNO.out j hlt hjm
          · exact absurd hjm hm
        clear hm
        go_wp2
        go_roundw
        case rel =>
          unfold FrInv
          exact ⟨k + 1, by omega, by go_num, HN2.out, HPU.out, H_hr1.out⟩
        case measure => simp [intOf]; omega
    · have hk1 : (n : Int) ≤ (k : Int) := by omega
      have E := Lib.hid (fromM_miss HR.out.up HX.out (fun j hj => HNO.out j (by omega)))
      go_wp2
      go_ret2
      exact ⟨by rw [E.out]; simp, HPU.out⟩
end Go.Proofs.YtapplindfijngaaGreat

/- law11.moves answers true where the reference's list is that of the moves; law11.many. Conditions: rows owned, slot numbers rise and are below the length. -/
namespace Go.Proofs.YtapplindfijngaaGreat
open Go.RowKit Go.Shelf
set_option maxRecDepth 100000

theorem many_any (n : Int) (a : Option Addr) (l c : Nat) (w : World) (hl : l ≤ 9223372036854775807) (r : Bool) (hr : (decide (n < 0) || decide (100 < n) || decide (100 < (l : Int))) = r) :
    Calls Tryz.prog 32 #[.int .i64 n, .slice a l c] w fun e w' => e = .returned (.bool r) ∧ w = w' := by
  have HR := Lib.hid hr
  clear hr
  by_cases h1 : n < 0
  · have h2 : decide (n < 0) = true := by simp [h1]
    go_enter Tryz.func32, Tryz.ntmps32
    go_wp2
    go_ret
    exact ⟨by rw [← HR.out]; simp [h1], rfl⟩
  · by_cases h3 : 100 < n
    · have h4 : decide (100 < n) = true := by simp [h3]
      go_enter Tryz.func32, Tryz.ntmps32
      go_wp2
      go_ret
      exact ⟨by rw [← HR.out]; simp [h1, h3], rfl⟩
    · go_enter Tryz.func32, Tryz.ntmps32
      go_wp2
      go_ret
      exact ⟨by rw [← HR.out]; simp [h1, h3]; try omega, rfl⟩

structure MvInv (w : World) (b : Nat) (a a2 : Option Addr) (c c2 n : Nat) (xs : List Nat) (wr : World) : Prop where
  pu : Pure w wr
  r2 : wr.heap[b]? = some (.cells #[.slice a xs.length c, .int .i64 n] 81 (0, 0))
  r3 : wr.heap[b + 1]? = some (.cells #[.slice a2 n c2, .int .i64 xs.length] 86 (0, 0))
theorem MvInv.pure {w : World} {b : Nat} {a a2 : Option Addr} {c c2 n : Nat} {xs : List Nat} {wr wr' : World} (h : MvInv w b a a2 c c2 n xs wr) (hq : Pure wr wr') : MvInv w b a a2 c c2 n xs wr' :=
  ⟨h.pu.trans hq, hq.heap (fun h => h) h.r2, hq.heap (fun h => h) h.r3⟩
theorem toM_u32 (xs : List Nat) (hl : ∀ x ∈ xs, x < 4194304) : toM xs 4294967295 = (0, 9) := by
  have : 4294967295 ∉ xs := fun h => by have := hl _ h; omega
  simp [toM, this]
theorem fromM_u32 (xs : List Nat) (hl : xs.length ≤ 4194304) : fromM xs 4294967295 = (0, 9) := by
  have : ¬ 4294967295 < xs.length := by omega
  simp [fromM, this]
theorem toM_le (xs : List Nat) (o : Nat) : (toM xs o).1 ≤ xs.length ∧ (toM xs o).2 ≤ 9 := by
  unfold toM; split
  · exact ⟨below_le _ _, by simp⟩
  · simp
theorem fromM_le {xs : List Nat} (h : ∀ x ∈ xs, x ≤ 4294967295) (o : Nat) : (fromM xs o).1 ≤ 4294967295 ∧ (fromM xs o).2 ≤ 9 := by
  unfold fromM; split
  · rename_i hlt
    exact ⟨by have := h _ (List.getElem_mem hlt); simpa [List.getD, List.getElem?_eq_getElem hlt] using this, by simp⟩
  · simp

theorem ref_ToE {w : World} {a : Option Addr} {c n : Nat} {xs : List Nat} (h : MvX w a c n xs) (hn : n ≤ 4194304) (hx : ∀ x ∈ xs, x < n) (hl : xs.length ≤ 4194304) (m : Int) (o : Nat) (ho : o ≤ 4294967295) (t1 t2 : Nat) (ht : toM xs o = (t1, t2)) :
    Calls Tryz.prog 95 #[.agg #[.slice a n c, .int .i64 m], .int .u32 o] w fun e w' => e = .returned (.tuple #[.int .u32 t1, .int .i64 t2]) ∧ Pure w w' := by
  have := ref_To h hn hx hl m o ho
  rw [ht] at this
  exact this
theorem ref_FromE {w : World} {a : Option Addr} {c n : Nat} {xs : List Nat} (h : MvX w a c n xs) (hr : Rising xs) (hn : n ≤ 4194304) (hx : ∀ x ∈ xs, x < n) (m : Int) (o : Nat) (ho : o ≤ 4294967295) (t1 t2 : Nat) (ht : fromM xs o = (t1, t2)) :
    Calls Tryz.prog 96 #[.agg #[.slice a n c, .int .i64 m], .int .u32 o] w fun e w' => e = .returned (.tuple #[.int .u32 t1, .int .i64 t2]) ∧ Pure w w' := by
  have := ref_From h hr hn hx m o ho
  rw [ht] at this
  exact this
theorem law_toE {w : World} {a : Option Addr} {c : Nat} {xs : List Nat} (h : U32Row w a c xs) (hr : Rising xs) (n : Int) (o t1 t2 : Nat) (ho : o ≤ 4294967295) (ht : toM xs o = (t1, t2)) :
    Calls Tryz.prog 90 #[.agg #[.slice a xs.length c, .int .i64 n], .int .u32 o, .int .u32 t1, .int .i64 t2] w fun e w' => e = .returned (.bool true) ∧ Pure w w' := by
  have := law_to h hr n o t1 t2 ho
  rw [ht] at this
  simpa using this
theorem law_fromE {w : World} {a : Option Addr} {c : Nat} {xs : List Nat} (h : U32Row w a c xs) (hr : Rising xs) (n : Int) (o t1 t2 : Nat) (ho : o ≤ 4294967295) (ht : fromM xs o = (t1, t2)) :
    Calls Tryz.prog 91 #[.agg #[.slice a xs.length c, .int .i64 n], .int .u32 o, .int .u32 t1, .int .i64 t2] w fun e w' => e = .returned (.bool true) ∧ Pure w w' := by
  have := law_from h hr.len n o t1 t2 ho
  rw [ht] at this
  simpa using this

set_option maxHeartbeats 1000000 in
theorem moves_true {w : World} {a a2 : Option Addr} {c c2 n : Nat} {xs : List Nat} (h : U32Row w a c xs) (hr : Rising xs) (h2 : MvX w a2 c2 n xs) (hn : n ≤ 4194300) (hx : ∀ x ∈ xs, x < n) :
    Calls Tryz.prog 37 #[.agg #[.slice a xs.length c, .int .i64 n], .agg #[.slice a2 n c2, .int .i64 xs.length]] w fun e w' => e = .returned (.bool true) ∧ Pure w w' := by
  have H := Lib.hid h
  have H2 := Lib.hid h2
  have HR := Lib.hid hr
  have HX := Lib.hid hx
  have hl : xs.length ≤ 4194304 := hr.len
  clear h h2 hr hx
  have hp : Pure w ((w.alloc (.cells #[.slice a xs.length c, .int .i64 n] 81)).alloc (.cells #[.slice a2 n c2, .int .i64 xs.length] 86)) := ((Mod.refl _ w).alloc _).alloc _
  have hI : MvInv w w.heap.size a a2 c c2 n xs ((w.alloc (.cells #[.slice a xs.length c, .int .i64 n] 81)).alloc (.cells #[.slice a2 n c2, .int .i64 xs.length] 86)) := ⟨hp, heap_keep (heap_new rfl), heap_new (by simp)⟩
  have HI := Lib.hid hI
  clear hI hp
  go_enter Tryz.func37, Tryz.ntmps37
  go_upto_region 1 with fail
  generalize (w.alloc (.cells #[.slice a xs.length c, .int .i64 n] 81)).alloc (.cells #[.slice a2 n c2, .int .i64 xs.length] 86) = W at HI ⊢
  generalize w.heap.size = b at HI ⊢
  have hr2 := HI.out.r2; have hr3 := HI.out.r3
  have hr2_0 := cell_of_row _ _ 0 _ _ _ hr2; have hr2_1 := cell_of_row _ _ 1 _ _ _ hr2; have hr2_f := (fun j => frozen_of_row _ _ j _ _ hr2); have hr2_l := lt_of_block hr2; simp at hr2_0 hr2_1; have H_hr2 := Lib.hid hr2; clear hr2
  have hr3_0 := cell_of_row _ _ 0 _ _ _ hr3; have hr3_1 := cell_of_row _ _ 1 _ _ _ hr3; have hr3_f := (fun j => frozen_of_row _ _ j _ _ hr3); have hr3_l := lt_of_block hr3; simp at hr3_0 hr3_1; have H_hr3 := Lib.hid hr3; clear hr3
  go_upto_region 3 with (go_at_call 89; refine Calls.mono (lensZ _ _ xs.length n xs.length n true (by simp)) ?_; rintro e W2 ⟨rfl, hq⟩; replace HI := Lib.hid (HI.out.pure hq); clear hq)
  clear hr2_0 hr2_1 hr2_f hr2_l
  clear hr3_0 hr3_1 hr3_f hr3_l
  go_wp2
  go_loopw [5] (fun i wr => ∃ k : Nat, k ≤ n + 2 ∧ i = .int .i64 k ∧ MvInv w b a a2 c c2 n xs wr) (fun i _ => n + 2 - (intOf i).toNat)
  case atStart => exact ⟨0, by omega, rfl, HI.out⟩
  case round =>
    obtain ⟨k, hk, rfl, hI⟩ := hrel
    have HI := Lib.hid hI
    clear hI
    have hr2 := HI.out.r2; have hr3 := HI.out.r3
    have hr2_0 := cell_of_row _ _ 0 _ _ _ hr2; have hr2_1 := cell_of_row _ _ 1 _ _ _ hr2; have hr2_f := (fun j => frozen_of_row _ _ j _ _ hr2); have hr2_l := lt_of_block hr2; simp at hr2_0 hr2_1; have H_hr2 := Lib.hid hr2; clear hr2
    have hr3_0 := cell_of_row _ _ 0 _ _ _ hr3; have hr3_1 := cell_of_row _ _ 1 _ _ _ hr3; have hr3_f := (fun j => frozen_of_row _ _ j _ _ hr3); have hr3_l := lt_of_block hr3; simp at hr3_0 hr3_1; have H_hr3 := Lib.hid hr3; clear hr3
    by_cases hlt : k < n + 2
    · have hk1 : (k : Int) ≤ (n : Int) + 1 := by omega
      have hk2 : (k : Int) ≤ 4294967295 := by omega
      obtain ⟨t1, t2, ht⟩ : ∃ t1 t2, toM xs k = (t1, t2) := ⟨_, _, rfl⟩
      obtain ⟨f1, f2, hf⟩ : ∃ t1 t2, fromM xs k = (t1, t2) := ⟨_, _, rfl⟩
      have ht1 := toM_le xs k; have hf1 := fromM_le HR.out.lt k
      rw [ht] at ht1
      rw [hf] at hf1
      obtain ⟨ht1, ht2⟩ := ht1
      obtain ⟨hf1, hf2⟩ := hf1
      have q1 : (t1 : Int) ≤ 4294967295 := by simp only at ht1; omega
      have q2 : (t2 : Int) ≤ 9 := by simp only at ht2; omega
      have q3 : (f1 : Int) ≤ 4294967295 := by simp only at hf1; omega
      have q4 : (f2 : Int) ≤ 9 := by simp only at hf2; omega
      have HT := Lib.hid ht; have HF := Lib.hid hf
      clear ht hf ht1 ht2 hf1 hf2
      go_upto_region 5 with (first
        | (go_at_call 95; refine Calls.mono (ref_ToE (H2.out.pure HI.out.pu) (by omega) HX.out hl _ k (by omega) t1 t2 HT.out) ?_; rintro e W2 ⟨rfl, hq⟩; replace HI := Lib.hid (HI.out.pure hq); have hr2 := HI.out.r2; have hr3 := HI.out.r3; clear hr2_0 hr2_1 hr2_f hr2_l H_hr2 hr3_0 hr3_1 hr3_f hr3_l H_hr3 hq; have hr2_0 := cell_of_row _ _ 0 _ _ _ hr2; have hr2_1 := cell_of_row _ _ 1 _ _ _ hr2; have hr2_f := (fun j => frozen_of_row _ _ j _ _ hr2); have hr2_l := lt_of_block hr2; simp at hr2_0 hr2_1; have H_hr2 := Lib.hid hr2; clear hr2; have hr3_0 := cell_of_row _ _ 0 _ _ _ hr3; have hr3_1 := cell_of_row _ _ 1 _ _ _ hr3; have hr3_f := (fun j => frozen_of_row _ _ j _ _ hr3); have hr3_l := lt_of_block hr3; simp at hr3_0 hr3_1; have H_hr3 := Lib.hid hr3; clear hr3)
        | (go_at_call 96; refine Calls.mono (ref_FromE (H2.out.pure HI.out.pu) HR.out (by omega) HX.out _ k (by omega) f1 f2 HF.out) ?_; rintro e W2 ⟨rfl, hq⟩; replace HI := Lib.hid (HI.out.pure hq); have hr2 := HI.out.r2; have hr3 := HI.out.r3; clear hr2_0 hr2_1 hr2_f hr2_l H_hr2 hr3_0 hr3_1 hr3_f hr3_l H_hr3 hq; have hr2_0 := cell_of_row _ _ 0 _ _ _ hr2; have hr2_1 := cell_of_row _ _ 1 _ _ _ hr2; have hr2_f := (fun j => frozen_of_row _ _ j _ _ hr2); have hr2_l := lt_of_block hr2; simp at hr2_0 hr2_1; have H_hr2 := Lib.hid hr2; clear hr2; have hr3_0 := cell_of_row _ _ 0 _ _ _ hr3; have hr3_1 := cell_of_row _ _ 1 _ _ _ hr3; have hr3_f := (fun j => frozen_of_row _ _ j _ _ hr3); have hr3_l := lt_of_block hr3; simp at hr3_0 hr3_1; have H_hr3 := Lib.hid hr3; clear hr3)
        | (go_at_call 90; refine Calls.mono (law_toE (owns_mod H.out HI.out.pu (fun _ _ h => h)) HR.out n k t1 t2 (by omega) HT.out) ?_; rintro e W2 ⟨rfl, hq⟩; replace HI := Lib.hid (HI.out.pure hq); have hr2 := HI.out.r2; have hr3 := HI.out.r3; clear hr2_0 hr2_1 hr2_f hr2_l H_hr2 hr3_0 hr3_1 hr3_f hr3_l H_hr3 hq; have hr2_0 := cell_of_row _ _ 0 _ _ _ hr2; have hr2_1 := cell_of_row _ _ 1 _ _ _ hr2; have hr2_f := (fun j => frozen_of_row _ _ j _ _ hr2); have hr2_l := lt_of_block hr2; simp at hr2_0 hr2_1; have H_hr2 := Lib.hid hr2; clear hr2; have hr3_0 := cell_of_row _ _ 0 _ _ _ hr3; have hr3_1 := cell_of_row _ _ 1 _ _ _ hr3; have hr3_f := (fun j => frozen_of_row _ _ j _ _ hr3); have hr3_l := lt_of_block hr3; simp at hr3_0 hr3_1; have H_hr3 := Lib.hid hr3; clear hr3)
        | (go_at_call 91; refine Calls.mono (law_fromE (owns_mod H.out HI.out.pu (fun _ _ h => h)) HR.out n k f1 f2 (by omega) HF.out) ?_; rintro e W2 ⟨rfl, hq⟩; replace HI := Lib.hid (HI.out.pure hq); have hr2 := HI.out.r2; have hr3 := HI.out.r3; clear hr2_0 hr2_1 hr2_f hr2_l H_hr2 hr3_0 hr3_1 hr3_f hr3_l H_hr3 hq; have hr2_0 := cell_of_row _ _ 0 _ _ _ hr2; have hr2_1 := cell_of_row _ _ 1 _ _ _ hr2; have hr2_f := (fun j => frozen_of_row _ _ j _ _ hr2); have hr2_l := lt_of_block hr2; simp at hr2_0 hr2_1; have H_hr2 := Lib.hid hr2; clear hr2; have hr3_0 := cell_of_row _ _ 0 _ _ _ hr3; have hr3_1 := cell_of_row _ _ 1 _ _ _ hr3; have hr3_f := (fun j => frozen_of_row _ _ j _ _ hr3); have hr3_l := lt_of_block hr3; simp at hr3_0 hr3_1; have H_hr3 := Lib.hid hr3; clear hr3))
      go_wp2
      go_roundw
      case rel => exact ⟨k + 1, by omega, by go_num, HI.out⟩
      case measure => simp [intOf]; omega
    · have hk1 : ¬ ((k : Int) ≤ (n : Int) + 1) := by omega
      have hk2 : (n : Int) + 1 < (k : Int) := by omega
      go_wp2_with (first
        | (go_at_call 90; refine Calls.mono (law_toE (owns_mod H.out HI.out.pu (fun _ _ h => h)) HR.out n 4294967295 0 9 (by omega) (toM_u32 xs (fun x hx => by have := HX.out x hx; omega))) ?_; rintro e W2 ⟨rfl, hq⟩; replace HI := Lib.hid (HI.out.pure hq); have hr2 := HI.out.r2; have hr3 := HI.out.r3; clear hr2_0 hr2_1 hr2_f hr2_l H_hr2 hr3_0 hr3_1 hr3_f hr3_l H_hr3 hq; have hr2_0 := cell_of_row _ _ 0 _ _ _ hr2; have hr2_1 := cell_of_row _ _ 1 _ _ _ hr2; have hr2_f := (fun j => frozen_of_row _ _ j _ _ hr2); have hr2_l := lt_of_block hr2; simp at hr2_0 hr2_1; have H_hr2 := Lib.hid hr2; clear hr2; have hr3_0 := cell_of_row _ _ 0 _ _ _ hr3; have hr3_1 := cell_of_row _ _ 1 _ _ _ hr3; have hr3_f := (fun j => frozen_of_row _ _ j _ _ hr3); have hr3_l := lt_of_block hr3; simp at hr3_0 hr3_1; have H_hr3 := Lib.hid hr3; clear hr3)
        | (go_at_call 91; refine Calls.mono (law_fromE (owns_mod H.out HI.out.pu (fun _ _ h => h)) HR.out n 4294967295 0 9 (by omega) (fromM_u32 xs hl)) ?_; rintro e W2 ⟨rfl, hq⟩; replace HI := Lib.hid (HI.out.pure hq); have hr2 := HI.out.r2; have hr3 := HI.out.r3; clear hr2_0 hr2_1 hr2_f hr2_l H_hr2 hr3_0 hr3_1 hr3_f hr3_l H_hr3 hq; have hr2_0 := cell_of_row _ _ 0 _ _ _ hr2; have hr2_1 := cell_of_row _ _ 1 _ _ _ hr2; have hr2_f := (fun j => frozen_of_row _ _ j _ _ hr2); have hr2_l := lt_of_block hr2; simp at hr2_0 hr2_1; have H_hr2 := Lib.hid hr2; clear hr2; have hr3_0 := cell_of_row _ _ 0 _ _ _ hr3; have hr3_1 := cell_of_row _ _ 1 _ _ _ hr3; have hr3_f := (fun j => frozen_of_row _ _ j _ _ hr3); have hr3_l := lt_of_block hr3; simp at hr3_0 hr3_1; have H_hr3 := Lib.hid hr3; clear hr3))
      go_ret
      exact ⟨rfl, HI.out.pu⟩
end Go.Proofs.YtapplindfijngaaGreat
