/- law11.made, walked. Conditions: 0 ≤ n ≤ 100, at most 100 slots, which are read. -/
import Derived.Test.YtbjiebhbmpafpaaMade
namespace Go.Proofs.Ytbjiebhbmpafpaa
open Go.RowKit Go.Shelf
set_option maxRecDepth 100000

theorem u8_nat (k : Nat) (h : k ≤ 255) : (UInt8.ofNat k).toNat = k := by simp; omega
def removeMissA (w : World) (e : Ending) (w' : World) : Prop := e = .returned (.tuple #[.agg #[.string ⟨#[]⟩, .slice none 0 0, .int .u64 0, .int .u64 0], .int .i64 9]) ∧ Pure w w'
theorem removeMissA_ok {w : World} {D : Nat → Prop} {p : Nat} {L : List (Option Ent)} (h : LogAt w D p L) (i : Nat) (hu : i ≤ 4294967295) (hi : ∀ x, L[i]? ≠ some (some x)) :
    Calls Try.prog 20 #[logPtr p, .int .u32 i] w (removeMissA w) := by
  obtain ⟨sv, M, rfl, h⟩ := h
  refine Remove_miss h hu ?_
  unfold slotOf
  cases e : M[i]? with
  | none => rfl
  | some m =>
    obtain ⟨o, v⟩ := m
    cases o with
    | none => rfl
    | some x => exact absurd (by rw [List.getElem?_map, e]; rfl) (hi x)

theorem ref_AppendK {w : World} {aL : Option Addr} {cL : Nat} {aG : Option Addr} {cG : Nat} {Q : List RQ} (h : RefRow w aL cL aG cG Q) (hQ : Q.length < 4194304) (k : Nat) (a : Option Addr) (n c : Nat) (hx : ReadAt w (.slice a n c) 1 (bytesOf (mkE k).val)) :
    Calls Try.prog 60 #[refV aL cL aG cG Q.length, .agg #[.string ⟨#[UInt8.ofNat k]⟩, .slice a n c, .int .u64 k, .int .u64 ((k : Int) + 1)]] w (refAppPost w Q (mkE k)) := ref_Append h hQ (mkE k) (mkE_ok k) a n c hx
theorem appendAK {w : World} {D : Nat → Prop} {p : Nat} {L : List (Option Ent)} (h : LogAt w D p L) (hL : L.length < 4194304) (k : Nat) (a : Option Addr) (n c : Nat) (hx : ReadAt w (.slice a n c) 1 (bytesOf (mkE k).val)) :
    Calls Try.prog 58 #[logPtr p, .agg #[.string ⟨#[UInt8.ofNat k]⟩, .slice a n c, .int .u64 k, .int .u64 ((k : Int) + 1)]] w (appendA w D p L (mkE k)) := appendA_ok h hL (mkE k) (mkE_ok k) a n c hx
def madePost (w : World) (n : Nat) (gs : List Nat) (e : Ending) (w' : World) : Prop :=
  ∃ p D aL cL aG cG Q, e = .returned (.tuple #[logPtr p, refV aL cL aG cG Q.length, .bool true]) ∧ LogAt w' D p (slotsR (madeR n gs)) ∧ (∀ k, D k → w.heap.size ≤ k) ∧ Q.map absQ = madeR n gs ∧ RefRow w' aL cL aG cG Q ∧
    (∀ g, (Value.slice aL Q.length cL).ownBlock = some g → ¬ D g) ∧ Pure w w'
def MdLoop (w : World) (p b8 n : Nat) (i : Value) (wr : World) : Prop := ∃ k : Nat, k ≤ n ∧ i = .int .i64 k ∧ MdInv w p b8 (baseR k) wr
def MdLoop2 (w : World) (p b8 n : Nat) (gs : List Nat) (i : Value) (wr : World) : Prop := ∃ j : Nat, j ≤ gs.length ∧ i = .int .i64 j ∧ MdInv w p b8 ((gs.take j).foldl rmR (baseR n)) wr

set_option maxHeartbeats 2000000 in
theorem made_any {w : World} (n : Nat) (hn : n ≤ 100) (a : Option Addr) (c : Nat) (gs : List Nat) (hg : ReadAt w (.slice a gs.length c) 1 (u32s gs)) (hgl : gs.length ≤ 100) (hgu : ∀ s ∈ gs, s ≤ 4294967295) :
    Calls Try.prog 17 #[.int .i64 n, .slice a gs.length c] w (madePost w n gs) := by
  have HG := Lib.hid hg
  have HGU := Lib.hid hgu
  have hn1 : (n : Int) ≤ 100 := by omega
  have hgl1 : (gs.length : Int) ≤ 100 := by omega
  clear hg hgu
  go_enter Try.func17, Try.ntmps17
  go_upto_region 2 with (go_at_call 57; refine Calls.mono (newA_ok _) ?_; rintro e w1 ⟨rfl, hl, hp, hz⟩)
  simp only [World.size_alloc] at hl
  have I : MdInv w (w.heap.size + 1) w1.heap.size (baseR 0) (w1.alloc (.cells #[.slice none 0 0, .slice none 0 0] 30)) := by
    have hal : Pure w1 (w1.alloc (.cells #[.slice none 0 0, .slice none 0 0] 30)) := (Mod.refl _ w1).alloc _
    have hsz := hp.size
    simp at hsz
    exact ⟨(((Mod.refl _ w).alloc _).trans hp).trans hal, hal.heap (fun h => h) (hp.heap (fun h => h) (heap_new rfl)), by omega, _, none, 0, none, 0, [], hl.pure hal, fun k hk => by omega, rfl, heap_new rfl, RefRow.nil _, fun g e => by cases e⟩
  generalize w1.alloc (.cells #[.slice none 0 0, .slice none 0 0] 30) = W at I ⊢
  generalize w1.heap.size = b8 at I ⊢
  have HI := Lib.hid I
  clear I hl hp hz
  go_wp2
  generalize hpp : w.heap.size + 1 = p at *
  go_loopw [9] (fun i wr => MdLoop w p b8 n i wr) (fun i _ => n - (intOf i).toNat)
  case atStart => exact ⟨0, by omega, rfl, HI.out⟩
  case round =>
    obtain ⟨k, hk, rfl, I⟩ := hrel
    have HI := Lib.hid I
    obtain ⟨pu, r5, hb, D, aL, cL, aG, cG, Q, hl, hD, hQ, r8, hR, hA⟩ := I
    have HPU := Lib.hid pu; have HL := Lib.hid hl; have HD := Lib.hid hD; have HQ := Lib.hid hQ; have HR := Lib.hid hR; have HA := Lib.hid hA; have HR5 := Lib.hid r5
    have hql : Q.length = k := by have := congrArg List.length hQ; rw [List.length_map, baseR_length] at this; exact this
    have HQL := Lib.hid hql
    have hql2 : Q.length ≤ 100 := by omega
    clear pu hl hD hQ hR hA r5 hql
    by_cases hlt : k < n
    · have hk1 : (k : Int) < (n : Int) := by omega
      have hk2 : (k : Int) ≤ 100 := by omega
      have kc := conv_bytes (w := wr.alloc (.cells #[.int .u8 k] 5)) (a := some ⟨wr.heap.size, 0, none⟩) (n := 1) (c := 1) [UInt8.ofNat k] (by
        have := ReadAt.of_block (w := wr.alloc (.cells #[.int .u8 k] 5)) (k := 1) 1 1 (heap_new rfl) rfl (by simp [Value.oneCell'])
        simpa [bytesOf, u8_nat k (by omega)] using this)
      go_upto_region 8 with fail
      clear kc
      have hp1 : Pure wr (((wr.alloc (.cells #[.int .u8 k] 5)).alloc (.cells #[.int .u8 k, .int .u8 7] 5)).alloc (.cells #[.string ⟨#[UInt8.ofNat k]⟩, .slice (some ⟨wr.heap.size + 1, 0, none⟩) 2 2, .int .u64 k, .int .u64 ((k : Int) + 1)] 48)) := (((Mod.refl _ wr).alloc _).alloc _).alloc _
      have rB := heap_keep (o := .cells #[.string ⟨#[UInt8.ofNat k]⟩, .slice (some ⟨wr.heap.size + 1, 0, none⟩) 2 2, .int .u64 k, .int .u64 ((k : Int) + 1)] 48 (0, 0)) (heap_new (w := wr.alloc (.cells #[.int .u8 k] 5)) (o := .cells #[.int .u8 k, .int .u8 7] 5 (0, 0)) (n := wr.heap.size + 1) (by simp))
      have rE := heap_new (w := (wr.alloc (.cells #[.int .u8 k] 5)).alloc (.cells #[.int .u8 k, .int .u8 7] 5)) (o := .cells #[.string ⟨#[UInt8.ofNat k]⟩, .slice (some ⟨wr.heap.size + 1, 0, none⟩) 2 2, .int .u64 k, .int .u64 ((k : Int) + 1)] 48 (0, 0)) (n := wr.heap.size + 1 + 1) (by simp)
      have hrd := ReadAt.of_block (k := 1) 2 2 rB rfl (by simp [Value.oneCell'])
      generalize ((wr.alloc (.cells #[.int .u8 k] 5)).alloc (.cells #[.int .u8 k, .int .u8 7] 5)).alloc (.cells #[.string ⟨#[UInt8.ofNat k]⟩, .slice (some ⟨wr.heap.size + 1, 0, none⟩) 2 2, .int .u64 k, .int .u64 ((k : Int) + 1)] 48) = W1 at hp1 rE hrd ⊢
      have HRD : Hid (ReadAt W1 (.slice (some ⟨wr.heap.size + 1, 0, none⟩) 2 2) 1 (bytesOf (mkE k).val)) := by
        have : bytesOf (mkE k).val = [.int .u8 k, .int .u8 7] := by simp [bytesOf, mkE, u8_nat k (by omega)]
        rw [this]; exact hrd
      have HP1 := Lib.hid hp1
      replace r8 := hp1.heap (fun h => h) r8
      clear rB hrd hp1
      have r8_0 := cell_of_row _ _ 0 _ _ _ r8; have r8_1 := cell_of_row _ _ 1 _ _ _ r8; have r8_f := (fun j => frozen_of_row _ _ j _ _ r8); have r8_l := lt_of_block r8; simp at r8_0 r8_1; have H_r8 := Lib.hid r8; clear r8
      have rE_0 := cell_of_row _ _ 0 _ _ _ rE; have rE_1 := cell_of_row _ _ 1 _ _ _ rE; have rE_2 := cell_of_row _ _ 2 _ _ _ rE; have rE_3 := cell_of_row _ _ 3 _ _ _ rE; have rE_f := (fun j => frozen_of_row _ _ j _ _ rE); have rE_l := lt_of_block rE; simp at rE_0 rE_1 rE_2 rE_3; have H_rE := Lib.hid rE; clear rE
      go_upto_region 9 with (go_at_call 60; refine Calls.mono (ref_AppendK (HR.out.pure HP1.out) (by omega) k _ _ _ HRD.out) ?_; rintro e w2 ⟨aL2, cL2, aG2, cG2, Q2, rfl, hq2, hR2, hf2, hf3, hp2⟩; have z8 := hp2.heap (fun h => h) H_r8.out; have z8_0 := cell_of_row _ _ 0 _ _ _ z8; have z8_1 := cell_of_row _ _ 1 _ _ _ z8; have z8_f := (fun j => frozen_of_row _ _ j _ _ z8); have z8_l := lt_of_block z8; simp at z8_0 z8_1; have H_z8 := Lib.hid z8; clear z8)
      have HL1 := HL.out.pure HP1.out
      obtain ⟨hl3, hm3, S⟩ := md_step (HPU.out.trans HP1.out) (HP1.out.heap (fun h => h) HR5.out) hb HL1 HD.out H_r8.out hp2 hR2 (fun g hg hd => by have := hf2 g hg; have := HL1.lt hd; omega) hq2 rfl
      have hb8 : b8 < wr.heap.size := by
        obtain ⟨_, _, _, D0, _, _, _, _, Q0, _, _, _, h8, _⟩ := HI.out
        exact lt_of_block h8
      have hE3 := hm3.heap (show ¬ (wr.heap.size + 1 + 1 = b8) by omega) H_rE.out
      have HRD3 := Lib.hid (HRD.out.frame hm3 (fun g hg => by simp [rdBlock] at hg; omega))
      clear z8_0 z8_1 z8_f z8_l
      clear hp2 hR2 hf2 hf3 rE_0 rE_1 rE_2 rE_3 rE_f r8_0 r8_1 r8_f
      generalize (w2.setCell ⟨b8, 0, none⟩ (.slice aL2 Q2.length cL2)).setCell ⟨b8, 1, none⟩ (.slice aG2 Q2.length cG2) = W3 at hl3 hm3 S hE3 HRD3 ⊢
      have HL3 := Lib.hid hl3; have HS := Lib.hid S; have HQ2 := Lib.hid hq2
      clear hl3 S hm3 hq2
      have hE3_0 := cell_of_row _ _ 0 _ _ _ hE3; have hE3_1 := cell_of_row _ _ 1 _ _ _ hE3; have hE3_2 := cell_of_row _ _ 2 _ _ _ hE3; have hE3_3 := cell_of_row _ _ 3 _ _ _ hE3; have hE3_f := (fun j => frozen_of_row _ _ j _ _ hE3); have hE3_l := lt_of_block hE3; simp at hE3_0 hE3_1 hE3_2 hE3_3; have H_hE3 := Lib.hid hE3; clear hE3
      go_upto_region 10 with (go_at_call 58; refine Calls.mono (appendAK HL3.out (by rw [slotsR_length, baseR_length]; omega) k _ _ _ HRD3.out) ?_; rintro e w4 ⟨rfl, D', h4, hm4, hg4⟩)
      have HF := Lib.hid (HS.out D' _ w4 h4 hm4 hg4 (by rw [HQ.out, slotsR_snoc]))
      clear h4 hm4 hg4
      go_wp2
      go_roundw
      case rel => exact ⟨k + 1, by omega, by go_num, by rw [baseR_succ, ← HQ.out]; exact HF.out⟩
      case measure => simp [intOf]; omega
    · have hkn : k = n := by omega
      subst hkn
      clear HPU HL HD HQ HR HA HR5 HQL hql2 r8 hk hlt
      have hk1 : ¬ ((k : Int) < (k : Int)) := by omega
      go_wp2
      go_loopw [74] (fun i wr => MdLoop2 w p b8 k gs i wr) (fun i _ => gs.length - (intOf i).toNat)
      case atStart => exact ⟨0, by omega, rfl, HI.out⟩
      case round =>
        obtain ⟨j, hj, rfl, I⟩ := hrel
        have HI := Lib.hid I
        generalize hRR : (gs.take j).foldl rmR (baseR k) = R at *
        obtain ⟨pu, r5, hb, D, aL, cL, aG, cG, Q, hl, hD, hQ, r8, hR, hA⟩ := I
        have HPU := Lib.hid pu; have HL := Lib.hid hl; have HD := Lib.hid hD; have HQ := Lib.hid hQ; have HR := Lib.hid hR; have HA := Lib.hid hA
        have HRR := Lib.hid hRR
        clear pu hl hD hQ hR hA hRR
        by_cases hlt : j < gs.length
        · have hj1 : (j : Int) < (gs.length : Int) := by omega
          obtain ⟨gb, go, hga, hgb, hgc⟩ := (HG.out.frame HPU.out (fun _ _ h => h)).place (by omega)
          subst hga
          have he := List.getElem?_eq_getElem hlt
          generalize gs[j] = s at he
          have hs := HGU.out s (List.mem_of_getElem? he)
          have sg := hgc j (.int .u32 s) (by simp only [u32s, List.getElem?_map, he, Option.map_some])
          have HE := Lib.hid he
          clear he hgc
          have HR5 := Lib.hid r5
          clear r5
          have r8_0 := cell_of_row _ _ 0 _ _ _ r8; have r8_1 := cell_of_row _ _ 1 _ _ _ r8; have r8_f := (fun j => frozen_of_row _ _ j _ _ r8); have r8_l := lt_of_block r8; simp at r8_0 r8_1; have H_r8 := Lib.hid r8; clear r8
          have hs1 : (s : Int) ≤ 4294967295 := by omega
          by_cases hh : ∃ x, R[s]? = some (x, false)
          · obtain ⟨x, hx⟩ := hh
            obtain ⟨v, hq⟩ := absQ_get (HQ.out ▸ hx)
            obtain ⟨va, vc, hve, _⟩ := owns_form (HR.out.vals _ (List.mem_of_getElem? hq))
            dsimp only at hve
            subst hve
            have HQs := Lib.hid hq; have HX := Lib.hid hx
            clear hq hx
            go_upto_region 16 with (go_at_call 21; refine Calls.mono (ref_Remove_hit HR.out s hs x _ HQs.out) ?_; rintro e w2 ⟨aL2, cL2, aG2, cG2, Q2, rfl, hq2, hR2, hf2, hf3, hp2⟩)
            have hal : Pure w2 ((w2.alloc (.cells #[.slice aL2 Q2.length cL2, .slice aG2 Q2.length cG2] 30)).alloc (.cells #[.string x.key, .slice va (bytesOf x.val).length vc, .int .u64 x.dl, .int .u64 x.birth] 48)) := ((Mod.refl _ w2).alloc _).alloc _
            have z15 := heap_keep (o := .cells #[.string x.key, .slice va (bytesOf x.val).length vc, .int .u64 x.dl, .int .u64 x.birth] 48 (0, 0)) (heap_new (w := w2) (o := .cells #[.slice aL2 Q2.length cL2, .slice aG2 Q2.length cG2] 30 (0, 0)) rfl)
            generalize (w2.alloc (.cells #[.slice aL2 Q2.length cL2, .slice aG2 Q2.length cG2] 30)).alloc (.cells #[.string x.key, .slice va (bytesOf x.val).length vc, .int .u64 x.dl, .int .u64 x.birth] 48) = W2 at hal z15 ⊢
            have hnD : ∀ g, (Value.slice aL2 Q2.length cL2).ownBlock = some g → ¬ D g := fun g hg hd => by have := hf2 g hg; have := HL.out.lt hd; omega
            have HNW := Lib.hid (show w2.heap.size ≠ b8 by have := hp2.size; omega)
            generalize w2.heap.size = b15 at z15 HNW ⊢
            have HND := Lib.hid hnD; have HR2 := Lib.hid (hR2.pure hal); have HP2 := Lib.hid (hp2.trans hal); have HQ2 := Lib.hid hq2; have HZ := Lib.hid z15
            clear hnD hR2 hf2 hf3 hp2 hal hq2 z15 r8_0 r8_1 r8_f sg
            go_upto_region 17 with (go_at_call 20; refine Calls.mono (removeA_ok (HL.out.pure HP2.out) s x (slotsR_get HX.out)) ?_; rintro e w3 ⟨a3, n3, c3, rfl, hb3, hf3, hl3, hm3⟩)
            have hp4 : Pure w3 (w3.alloc (.cells #[.string x.key, .slice a3 n3 c3, .int .u64 x.dl, .int .u64 x.birth] 48)) := (Mod.refl _ w3).alloc _
            have z4 := hp4.heap (fun h => h) ((HL.out.pure HP2.out).box hm3 HZ.out (by decide) (by decide))
            have z8 := hp4.heap (fun h => h) ((HL.out.pure HP2.out).box hm3 (HP2.out.heap (fun h => h) H_r8.out) (by decide) (by decide))
            have S : ∀ W5, _ → MdInv w p b8 (rmR R s) W5 := fun W5 => md_step2 (HPU.out.trans HP2.out) (HP2.out.heap (fun h => h) HR5.out) hb (HL.out.pure HP2.out) HD.out (HP2.out.heap (fun h => h) H_r8.out) HR2.out HND.out (by rw [HQ2.out, HQ.out, rmR_hit HX.out]) hm3 hl3 (fun k hk => .inl hk) (by rw [rmR_hit HX.out, slotsR_set]) hp4
            have HS := Lib.hid S
            generalize w3.alloc (.cells #[.string x.key, .slice a3 n3 c3, .int .u64 x.dl, .int .u64 x.birth] 48) = W4 at HS z4 z8 ⊢
            clear S hb3 hf3 hl3 hm3 hp4
            have z4_0 := cell_of_row _ _ 0 _ _ _ z4; have z4_1 := cell_of_row _ _ 1 _ _ _ z4; have z4_f := (fun j => frozen_of_row _ _ j _ _ z4); have z4_l := lt_of_block z4; simp at z4_0 z4_1; have H_z4 := Lib.hid z4; clear z4
            have z8_0 := cell_of_row _ _ 0 _ _ _ z8; have z8_1 := cell_of_row _ _ 1 _ _ _ z8; have z8_f := (fun j => frozen_of_row _ _ j _ _ z8); have z8_l := lt_of_block z8; simp at z8_0 z8_1; have H_z8 := Lib.hid z8; clear z8
            go_upto_region 20 with fail
            clear z4_0 z4_1 z4_f z4_l
            clear z8_0 z8_1 z8_f z8_l
            have HF := Lib.hid (HS.out _ rfl)
            go_wp2
            go_roundw
            case rel => exact ⟨j + 1, by omega, by go_num, by rw [take_foldl HE.out, HRR.out]; exact HF.out⟩
            case measure => simp [intOf]; omega
          · have hmiss : ∀ x, R[s]? ≠ some (x, false) := fun x hx => hh ⟨x, hx⟩
            have HM := Lib.hid hmiss
            clear hh hmiss
            go_upto_region 16 with (go_at_call 21; refine Calls.mono (ref_Remove_miss HR.out s hs (hasQ_miss HQ.out HM.out)) ?_; rintro e w2 ⟨rfl, hp2⟩)
            have hal : Pure w2 ((w2.alloc (.cells #[.slice aL Q.length cL, .slice aG Q.length cG] 30)).alloc (.cells #[.string ⟨#[]⟩, .slice none 0 0, .int .u64 0, .int .u64 0] 48)) := ((Mod.refl _ w2).alloc _).alloc _
            have z15 := heap_keep (o := .cells #[.string ⟨#[]⟩, .slice none 0 0, .int .u64 0, .int .u64 0] 48 (0, 0)) (heap_new (w := w2) (o := .cells #[.slice aL Q.length cL, .slice aG Q.length cG] 30 (0, 0)) rfl)
            generalize (w2.alloc (.cells #[.slice aL Q.length cL, .slice aG Q.length cG] 30)).alloc (.cells #[.string ⟨#[]⟩, .slice none 0 0, .int .u64 0, .int .u64 0] 48) = W2 at hal z15 ⊢
            have HNW := Lib.hid (show w2.heap.size ≠ b8 by have := hp2.size; omega)
            generalize w2.heap.size = b15 at z15 HNW ⊢
            have HP2 := Lib.hid (hp2.trans hal); have HZ := Lib.hid z15
            clear hp2 hal z15 r8_0 r8_1 r8_f sg
            go_upto_region 17 with (go_at_call 20; refine Calls.mono (removeMissA_ok (HL.out.pure HP2.out) s hs (slotsR_miss HM.out)) ?_; rintro e w3 ⟨rfl, hp3⟩)
            have hp4 : Pure w3 (w3.alloc (.cells #[.string ⟨#[]⟩, .slice none 0 0, .int .u64 0, .int .u64 0] 48)) := (Mod.refl _ w3).alloc _
            have z4 := hp4.heap (fun h => h) (hp3.heap (fun h => h) HZ.out)
            have z8 := hp4.heap (fun h => h) (hp3.heap (fun h => h) (HP2.out.heap (fun h => h) H_r8.out))
            have S : ∀ W5, _ → MdInv w p b8 (rmR R s) W5 := fun W5 => md_step2 (HPU.out.trans HP2.out) (HP2.out.heap (fun h => h) HR5.out) hb (HL.out.pure HP2.out) HD.out (HP2.out.heap (fun h => h) H_r8.out) (HR.out.pure HP2.out) HA.out (by rw [HQ.out, rmR_miss HM.out]) (Mod.of_pure hp3) ((HL.out.pure HP2.out).pure hp3) (fun k hk => .inl hk) (by rw [rmR_miss HM.out]) hp4
            have HS := Lib.hid S
            generalize w3.alloc (.cells #[.string ⟨#[]⟩, .slice none 0 0, .int .u64 0, .int .u64 0] 48) = W4 at HS z4 z8 ⊢
            clear S hp3 hp4
            have z4_0 := cell_of_row _ _ 0 _ _ _ z4; have z4_1 := cell_of_row _ _ 1 _ _ _ z4; have z4_f := (fun j => frozen_of_row _ _ j _ _ z4); have z4_l := lt_of_block z4; simp at z4_0 z4_1; have H_z4 := Lib.hid z4; clear z4
            have z8_0 := cell_of_row _ _ 0 _ _ _ z8; have z8_1 := cell_of_row _ _ 1 _ _ _ z8; have z8_f := (fun j => frozen_of_row _ _ j _ _ z8); have z8_l := lt_of_block z8; simp at z8_0 z8_1; have H_z8 := Lib.hid z8; clear z8
            go_upto_region 20 with fail
            clear z4_0 z4_1 z4_f z4_l
            clear z8_0 z8_1 z8_f z8_l
            have HF := Lib.hid (HS.out _ rfl)
            go_wp2
            go_roundw
            case rel => exact ⟨j + 1, by omega, by go_num, by rw [take_foldl HE.out, HRR.out]; exact HF.out⟩
            case measure => simp [intOf]; omega
        · have hjl : gs.length = j := by omega
          have HJ := Lib.hid hjl
          have hj1 : ¬ ((j : Int) < (gs.length : Int)) := by omega
          clear hjl
          have r8_0 := cell_of_row _ _ 0 _ _ _ r8; have r8_1 := cell_of_row _ _ 1 _ _ _ r8; have r8_f := (fun j => frozen_of_row _ _ j _ _ r8); have r8_l := lt_of_block r8; simp at r8_0 r8_1; have H_r8 := Lib.hid r8; clear r8
          have r5_0 := cell_of_row _ _ 0 _ _ _ r5; have r5_1 := cell_of_row _ _ 1 _ _ _ r5; have r5_f := (fun j => frozen_of_row _ _ j _ _ r5); have r5_l := lt_of_block r5; simp at r5_0 r5_1; have H_r5 := Lib.hid r5; clear r5
          go_upto_region 21 with fail
          go_region
          go_wp2
          refine bodyPost_ret (v := .tuple #[logPtr p, refV aL cL aG cG Q.length, .bool true]) (by simp [results, Try.results17, go_sem, r5_0, r5_1, r5_f]) rfl ?_
          have hm5 : Mod (fun i => i = w.heap.size) wr (((wr.setCell ⟨w.heap.size, 0, none⟩ (.slice aL Q.length cL)).setCell ⟨w.heap.size, 1, none⟩ (.slice aG Q.length cG)).drew) := (Mod.set2 _ _ _ _ _).drew
          have hR' : R = madeR k gs := by rw [← HRR.out, ← HJ.out, List.take_length]; rfl
          refine ⟨p, D, aL, cL, aG, cG, Q, rfl, ?_, fun i hi => Nat.le_of_lt (HD.out i hi), by rw [HQ.out, hR'], HR.out.modT hm5 (fun i hi _ => by subst hi; exact ⟨_, _, H_r5.out⟩), HA.out, HPU.out.then hm5 (fun i hi h => by omega)⟩
          rw [← hR']
          exact HL.out.frame hm5 (fun i hi h => by have := HD.out i hi; omega) (fun i _ h cs fz e => by subst h; rw [H_r5.out] at e; cases e)
end Go.Proofs.Ytbjiebhbmpafpaa
