/- Lemmas and contracts of functions, strung together out of 3 texts. No condition. -/
import Derived.Test.YtapplindfijngaaGreatJPfCompactDicts20
import Derived.Test.YtapplindfijngaaGreatJPfCompactDicts19
import Derived.Deep.QuietTactic
import Derived.BigQuiet
import Derived.Test.YtapplindfijngaaGreatJPfCompactDicts13
/- The reference of layer 10: Of makes the dictionary of a log. Condition: no two of its entries have the same key. -/
namespace Go.Proofs.YtapplindfijngaaGreat
open Go.RowKit Go.Shelf
set_option maxRecDepth 100000

theorem live_take_some {L : List (Option Ent)} {i : Nat} {x : Ent} (hx : L[i]? = some (some x)) : live (L.take (i + 1)) = live (L.take i) ++ [(i, x)] := by
  have hlt := (List.getElem?_eq_some_iff.1 hx).1
  rw [List.take_add_one, hx]
  show liveFrom 0 (L.take i ++ [some x]) = liveFrom 0 (L.take i) ++ [(i, x)]
  rw [liveFrom_append]
  simp only [liveFrom, List.length_take, Nat.zero_add]
  rw [Nat.min_eq_left (by omega)]
theorem live_take_none {L : List (Option Ent)} {i : Nat} (hx : L[i]? = some none) : live (L.take (i + 1)) = live (L.take i) := by
  rw [List.take_add_one, hx]
  show liveFrom 0 (L.take i ++ [none]) = liveFrom 0 (L.take i)
  rw [liveFrom_append]
  simp [liveFrom]
theorem live_split {L : List (Option Ent)} {i : Nat} {x : Ent} (hx : L[i]? = some (some x)) : live L = live (L.take i) ++ (i, x) :: liveFrom (i + 1) (L.drop (i + 1)) := by
  have hlt := (List.getElem?_eq_some_iff.1 hx).1
  have e : live L = liveFrom 0 (L.take (i + 1) ++ L.drop (i + 1)) := by rw [List.take_append_drop]; rfl
  rw [e, liveFrom_append, show liveFrom 0 (L.take (i + 1)) = live (L.take (i + 1)) from rfl, live_take_some hx, List.append_assoc, List.length_take, Nat.zero_add, Nat.min_eq_left (by omega)]
  rfl
structure OfAt (seed : Nat) (same : Bool) (L : List (Option Ent)) (i : Nat) : Prop where
  part : Part seed same L (slotsOf (live (L.take i))) (ofM seed same L (live (L.take i)))
  used : usedN (ofM seed same L (live (L.take i))) = (live (L.take i)).length
theorem OfAt.zero (seed : Nat) (same : Bool) (L : List (Option Ent)) : OfAt seed same L 0 :=
  ⟨(part_new seed same L).keeps' (fun s => by simp [slotsOf, live, liveFrom]), newG_used 1⟩
theorem OfAt.none {seed : Nat} {same : Bool} {L : List (Option Ent)} {i : Nat} (h : OfAt seed same L i) (hx : L[i]? = some none) : OfAt seed same L (i + 1) := by
  refine ⟨?_, ?_⟩ <;> rw [live_take_none hx]
  · exact h.part
  · exact h.used
theorem OfAt.some {seed : Nat} {same : Bool} {L : List (Option Ent)} {i : Nat} {x : Ent} (h : OfAt seed same L i) (hko : KeysOk L) (hlen : L.length ≤ 4194304) (hx : L[i]? = some (some x)) :
    OfAt seed same L (i + 1) ∧ ∃ pl, planI (ofM seed same L (live (L.take i))).length (usedN (ofM seed same L (live (L.take i)))) (tombN (ofM seed same L (live (L.take i)))) = some pl ∧ Pow pl.1 := by
  obtain ⟨h1, h2, _, pl, h4, h5, _⟩ := h.part.put h.used (live_split hx) hlen (fun s hs hk => by
    obtain ⟨⟨s', e⟩, hm, rfl⟩ := List.mem_map.1 hs
    have hg := live_mem hm
    dsimp only at hg hk
    rw [List.getElem?_take] at hg
    split at hg
    · rename_i hlt
      rw [keyL_some hg] at hk
      have := hko _ _ _ _ hg hx hk
      omega
    · cases hg)
  refine ⟨⟨?_, ?_⟩, pl, h4, h5⟩ <;> rw [live_take_some hx]
  · exact h1
  · exact h2
theorem OfAt.full {seed : Nat} {same : Bool} {L : List (Option Ent)} {i : Nat} (h : OfAt seed same L i) : ∀ s ∈ (ofM seed same L (live (L.take i))).flatMap fullS, liveS L s :=
  fun s hs => h.part.sub s ((h.part.holds.mem s).2 ((full_mem h.part.holds.ok s).1 hs))
def rdofPost (w : World) (seed : Nat) (same : Bool) (Q : List RQ) (e : Ending) (w' : World) : Prop :=
  ∃ r' Q', e = .returned (.tuple #[rdV seed same r' Q'.length (8 * (ofM seed same (slotsR (Q.map absQ)) (live (slotsR (Q.map absQ)))).length), .int .i64 0]) ∧ Q'.map absQ = Q.map absQ ∧ RefD w' r' Q' (ofM seed same (slotsR (Q.map absQ)) (live (slotsR (Q.map absQ)))) ∧ Fresh w (.slice r'.aL Q'.length r'.cL) ∧ Pure w w'
/-- What is known while Of runs. -/
structure ROf (w : World) (b b8 seed : Nat) (same : Bool) (aL : Option Addr) (cL : Nat) (aG : Option Addr) (cG : Nat) (Q : List RQ) (r : RA) (n m : Nat) (Q2 : List RQ) (Gs : List Grp) (W : World) : Prop where
  pu : Pure w W
  h5 : W.heap[b]? = some (.cells #[.slice aL n cL, .slice aG n cG] 32 (0, 0))
  h6 : W.heap[b + 1]? = some (.cells #[.int .u64 0, .bool false, .slice none 0 0, .slice none 0 0, .slice none 0 0, .slice none 0 0] 38 (0, 0))
  h8 : W.heap[b8]? = some (rdO seed same r n m)
  row : RefRow W aL cL aG cG Q
  rf : RefD W r Q2 Gs
  len : 8 * Gs.length = m
set_option maxHeartbeats 4000000 in
theorem rdOf_ok {w : World} {aL : Option Addr} {cL : Nat} {aG : Option Addr} {cG : Nat} {Q : List RQ} (h : RefRow w aL cL aG cG Q) (seed : Nat) (same : Bool) (hsd : seed < 18446744073709551616) (hko : KeysOk (slotsR (Q.map absQ))) :
    Calls Tryz.prog 27 #[.int .u64 seed, .bool same, .agg #[.slice aL Q.length cL, .slice aG Q.length cG]] w (rdofPost w seed same Q) := by
  have hlen := h.len
  have hp0 : Pure w ((w.alloc (.cells #[.slice aL Q.length cL, .slice aG Q.length cG] 32)).alloc (.cells #[.int .u64 0, .bool false, .slice none 0 0, .slice none 0 0, .slice none 0 0, .slice none 0 0] 38)) := ((Mod.refl _ w).alloc _).alloc _
  have h5 := heap_keep (o := .cells #[.int .u64 0, .bool false, .slice none 0 0, .slice none 0 0, .slice none 0 0, .slice none 0 0] 38) (heap_new (w := w) (o := .cells #[.slice aL Q.length cL, .slice aG Q.length cG] 32 (0, 0)) rfl)
  have h6 := heap_new (w := w.alloc (.cells #[.slice aL Q.length cL, .slice aG Q.length cG] 32)) (o := .cells #[.int .u64 0, .bool false, .slice none 0 0, .slice none 0 0, .slice none 0 0, .slice none 0 0] 38 (0, 0)) (n := w.heap.size + 1) (by simp)
  have HR := Lib.hid (h.pure hp0)
  have HP := Lib.hid hp0
  have HKO := Lib.hid hko
  obtain ⟨n, hn⟩ : ∃ n, Q.length = n := ⟨_, rfl⟩
  have HLL : Hid ((slotsR (Q.map absQ)).length = n) := Lib.hid (by rw [slotsR_length, List.length_map, hn])
  have HNw := Lib.hid (fun W => rdNew_ok seed same W)
  unfold rNewDPost at HNw
  rw [hn] at h5 h6 HR HP hlen ⊢
  have HN := Lib.hid hn
  have wn : IntKind.i64.wrap (n : Int) = n := IntWalk.i64_in _ (by omega)
  obtain ⟨m0, hm0⟩ : ∃ m, 8 * (newG 1).length = m := ⟨_, rfl⟩
  rw [hm0] at HNw
  have HM0 := Lib.hid hm0
  clear h hp0 hn hko hm0
  go_enter Tryz.func27, Tryz.ntmps27
  go_upto_region 1 with fail
  generalize (w.alloc (.cells #[.slice aL n cL, .slice aG n cG] 32)).alloc (.cells #[.int .u64 0, .bool false, .slice none 0 0, .slice none 0 0, .slice none 0 0, .slice none 0 0] 38) = W1 at *
  obtain ⟨b, hb⟩ : ∃ b, w.heap.size = b := ⟨_, rfl⟩
  rw [hb] at h5 h6 ⊢
  have HB := Lib.hid hb
  clear hb
  go_upto_region 2 with (go_at_call 10; refine Calls.mono (HNw.out _) ?_; rintro e w2 ⟨r, rfl, hrf, haL, hp2⟩)
  have hal : Pure w2 (w2.alloc (rdO seed same r 0 m0)) := (Mod.refl _ w2).alloc _
  have h8 := heap_new (w := w2) (o := rdO seed same r 0 m0) rfl
  have hbs : b + 1 < w2.heap.size := by have := lt_of_block h6; have := hp2.size; omega
  replace h5 := (hp2.trans hal).heap (fun h => h) h5
  replace h6 := (hp2.trans hal).heap (fun h => h) h6
  replace HR := Lib.hid (HR.out.pure (hp2.trans hal))
  replace HP := Lib.hid (HP.out.trans (hp2.trans hal))
  have HX := Lib.hid (hrf.x.pure hal)
  obtain ⟨aL1, cL1, aG1, cG1, aC, cC, aS, cS⟩ := r
  dsimp only at haL
  subst haL
  dsimp only [rdO] at h8 HX ⊢
  clear hp2 hal hrf HNw
  generalize w2.alloc (.cells #[.int .u64 seed, .bool same, .slice none 0 cL1, .slice aG1 0 cG1, .slice aC m0 cC, .slice aS m0 cS] 38) = W2 at *
  generalize w2.heap.size = b8 at *
  have H5 := Lib.hid h5; have H6 := Lib.hid h6; have H8 := Lib.hid h8
  have h5_0 := cell_of_row _ _ 0 _ _ _ h5; have h5_1 := cell_of_row _ _ 1 _ _ _ h5; have h5_f := (fun j => frozen_of_row _ _ j _ _ h5); have h5_l := lt_of_block h5; simp at h5_0 h5_1; have H_h5 := Lib.hid h5; clear h5
  go_upto_region 3 with fail
  go_loopw [9] (fun v9 wr => ∃ i, v9 = .int .i64 (i : Nat) ∧ i ≤ n ∧ Pure W2 wr) (fun v9 _ => n - (intOf v9).toNat)
  case atStart => exact ⟨0, rfl, Nat.zero_le _, Mod.refl _ _⟩
  case round =>
    obtain ⟨i, rfl, hi, hpw⟩ := hrel
    clear h5_0 h5_1 h5_f h5_l
    clear H_h5
    have h5 := hpw.heap (fun h => h) H5.out
    have HRi := Lib.hid (HR.out.pure hpw)
    have HPW := Lib.hid hpw
    clear hpw
    have h5_0 := cell_of_row _ _ 0 _ _ _ h5; have h5_1 := cell_of_row _ _ 1 _ _ _ h5; have h5_f := (fun j => frozen_of_row _ _ j _ _ h5); have h5_l := lt_of_block h5; simp at h5_0 h5_1; have H_h5 := Lib.hid h5; clear h5
    by_cases hlt : i < n
    · have hlt' : (i : Int) < (n : Int) := by omega
      have i0 : (0 : Int) ≤ (i : Int) := by omega
      have wi : IntKind.i64.wrap ((i : Int) + 1) = (i : Int) + 1 := IntWalk.i64_in _ (by omega)
      obtain ⟨q, hq⟩ : ∃ q, Q[i]? = some q := ⟨_, List.getElem?_eq_getElem (by rw [HN.out]; exact hlt)⟩
      obtain ⟨x, v, g⟩ := q
      have hL : (slotsR (Q.map absQ))[i]? = some (if g then none else some x) := by unfold slotsR; rw [List.getElem?_map, List.getElem?_map, hq]; rfl
      have HQ := Lib.hid hq
      obtain ⟨kx, hkx⟩ : ∃ kx, x.key = kx := ⟨_, rfl⟩
      have HKX := Lib.hid hkx; have HL := Lib.hid hL
      clear hkx hL hq
      go_upto_region 6 with fail
      go_loopw [10] (fun v10 wx => ∃ k, v10 = .int .i64 (k : Nat) ∧ k ≤ i ∧ Pure W2 wx) (fun v10 _ => i - (intOf v10).toNat)
      case atStart => exact ⟨0, rfl, Nat.zero_le _, HPW.out⟩
      case round =>
        obtain ⟨k, rfl, hk, hpx⟩ := hrel
        clear h5_0 h5_1 h5_f h5_l
        clear H_h5
        have h5 := hpx.heap (fun h => h) H5.out
        have HRx := Lib.hid (HR.out.pure hpx)
        have HPX := Lib.hid hpx
        clear hpx
        obtain ⟨gL, gG, e1, e2, zk, zg⟩ := HRx.out.ent HQ.out
        subst e1 e2
        dsimp only at zk zg
        rw [HKX.out] at zk
        have h5_0 := cell_of_row _ _ 0 _ _ _ h5; have h5_1 := cell_of_row _ _ 1 _ _ _ h5; have h5_f := (fun j => frozen_of_row _ _ j _ _ h5); have h5_l := lt_of_block h5; simp at h5_0 h5_1; have H_h5 := Lib.hid h5; clear h5
        by_cases hkl : k < i
        · have hkl' : (k : Int) < (i : Int) := by omega
          have k0 : (0 : Int) ≤ (k : Int) := by omega
          have hkn : (k : Int) < (n : Int) := by omega
          have wk : IntKind.i64.wrap ((k : Int) + 1) = (k : Int) + 1 := IntWalk.i64_in _ (by omega)
          obtain ⟨q, hq⟩ : ∃ q, Q[k]? = some q := ⟨_, List.getElem?_eq_getElem (by rw [HN.out]; omega)⟩
          obtain ⟨x2, v2, g2⟩ := q
          have hL : (slotsR (Q.map absQ))[k]? = some (if g2 then none else some x2) := by unfold slotsR; rw [List.getElem?_map, List.getElem?_map, hq]; rfl
          obtain ⟨gL', gG', e1, e2, zk2, zg2⟩ := HRx.out.ent hq
          cases e1; cases e2
          dsimp only at zk2 zg2
          have hne : g = false → g2 = false → ¬ kx = x2.key := fun h1 h2 h3 => by
            have hl := HL.out
            subst h1 h2
            have := HKO.out _ _ _ _ hl hL (by rw [HKX.out, h3])
            omega
          obtain ⟨ky, hky⟩ : ∃ ky, x2.key = ky := ⟨_, rfl⟩
          rw [hky] at zk2 hne
          clear hky hL hq
          cases g with
          | true =>
            clear hne
            go_upto_region 8 with fail
            go_quiet (fail)
            go_wp2
            go_roundw
            case rel => exact ⟨k + 1, by go_num, hkl, HPX.out.drewN nq⟩
            case measure => simp [intOf]; omega
          | false =>
            cases g2 with
            | true =>
              clear hne
              go_upto_region 8 with fail
              go_quiet (fail)
              go_wp2
              go_roundw
              case rel => exact ⟨k + 1, by go_num, hkl, HPX.out.drewN nq⟩
              case measure => simp [intOf]; omega
            | false =>
              have hkk : (kx.toList == ky.toList) = false := by
                rw [ba_list]
                exact Bool.eq_false_iff.2 (fun h => hne rfl rfl ((ba_beq _ _).1 h))
              clear hne
              go_upto_region 8 with fail
              go_quiet (fail)
              go_wp2
              go_roundw
              case rel => exact ⟨k + 1, by go_num, hkl, HPX.out.drewN nq⟩
              case measure => simp [intOf]; omega
        · have : i = k := by omega
          subst this
          go_wp2
          go_roundw
          case rel => exact ⟨i + 1, by go_num, hlt, HPX.out⟩
          case measure => simp [intOf]; omega
    · have hin : n = i := by omega
      subst hin
      clear hi hlt
      have HCp := Lib.hid (ref_LogCopy HRi.out)
      rw [HN.out] at HCp
      unfold refCopyPost at HCp
      clear h5_0 h5_1 h5_f h5_l
      clear H_h5
      have h5 := HPW.out.heap (fun h => h) H5.out
      have h5_0 := cell_of_row _ _ 0 _ _ _ h5; have h5_1 := cell_of_row _ _ 1 _ _ _ h5; have h5_f := (fun j => frozen_of_row _ _ j _ _ h5); have h5_l := lt_of_block h5; simp at h5_0 h5_1; have H_h5 := Lib.hid h5; clear h5
      go_upto_region 11 with (go_at_call 71; refine Calls.mono HCp.out ?_; rintro e w3 ⟨aL2, cL2, aG2, cG2, Q2, rfl, hq2, hr2, hf2, _, hp3⟩; have h8 := (HPW.out.trans hp3).heap (fun h => h) H8.out; have h8_0 := cell_of_row _ _ 0 _ _ _ h8; have h8_1 := cell_of_row _ _ 1 _ _ _ h8; have h8_2 := cell_of_row _ _ 2 _ _ _ h8; have h8_3 := cell_of_row _ _ 3 _ _ _ h8; have h8_4 := cell_of_row _ _ 4 _ _ _ h8; have h8_5 := cell_of_row _ _ 5 _ _ _ h8; have h8_f := (fun j => frozen_of_row _ _ j _ _ h8); have h8_l := lt_of_block h8; simp at h8_0 h8_1 h8_2 h8_3 h8_4 h8_5; have H_h8 := Lib.hid h8; clear h8)
      have hf3 : Fresh w (.slice aL2 Q2.length cL2) := fun g hg => by have := hf2 g hg; have := (HP.out.trans HPW.out).size; omega
      replace hp3 := HPW.out.trans hp3
      have hQ2 : Q2.length = n := by have := congrArg List.length hq2; rw [List.length_map, List.length_map, HN.out] at this; exact this
      rw [hQ2] at hf3 ⊢
      have H5' := Lib.hid (hp3.heap (fun h => h) H5.out)
      have H6' := Lib.hid (hp3.heap (fun h => h) H6.out)
      have h8' := hp3.heap (fun h => h) H8.out
      have hHR := HR.out.pure hp3
      have hHX := HX.out.pure hp3
      have hm1 : Mod (fun k => k = b8) w3 ((w3.setCell ⟨b8, 2, none⟩ (.slice aL2 n cL2)).setCell ⟨b8, 3, none⟩ (.slice aG2 n cG2)) := (Mod.set1 b8 2 _).trans (Mod.set1 b8 3 _)
      have H8'' := Lib.hid (set23 (v2 := .slice aL2 n cL2) (v3 := .slice aG2 n cG2) h8')
      have nb : ∀ i, i = b8 → i < w3.heap.size → ∃ cs T fz, w3.heap[i]? = some (.cells cs T fz) ∧ T ≠ 42 ∧ T ≠ 4 ∧ T ≠ 5 ∧ T ≠ 43 := fun i e _ => ⟨_, _, _, e ▸ h8', by decide, by decide, by decide, by decide⟩
      have HRR : Hid (ROf w b b8 seed same aL cL aG cG Q ⟨aL2, cL2, aG2, cG2, aC, cC, aS, cS⟩ n m0 Q2 (newG 1) ((w3.setCell ⟨b8, 2, none⟩ (.slice aL2 n cL2)).setCell ⟨b8, 3, none⟩ (.slice aG2 n cG2))) :=
        Lib.hid ⟨(HP.out.trans hp3).then hm1 (fun i hi e => by have := HB.out; omega), hm1.heap (by omega) H5'.out, hm1.heap (by omega) H6'.out, H8''.out, hHR.modX hm1 nb, (RefD.mk hr2 hHX : RefD w3 ⟨aL2, cL2, aG2, cG2, aC, cC, aS, cS⟩ Q2 (newG 1)).modX hm1 nb, HM0.out⟩
      have HF2 : Hid (Fresh w (.slice aL2 n cL2)) := Lib.hid hf3
      have HQ2 := Lib.hid hQ2; have HE2 := Lib.hid hq2
      clear h5_0 h5_1 h5_f h5_l
      clear h8_0 h8_1 h8_2 h8_3 h8_4 h8_5 h8_f h8_l
      clear H_h5 H_h8 h8 h6 hp3 hHR hHX hm1 nb h8' H5' H6' H8'' hq2 hQ2 hr2 hf2 hf3 H5 H6 H8 HR HX HP HCp HRi HPW
      generalize ((w3.setCell ⟨b8, 2, none⟩ (.slice aL2 n cL2)).setCell ⟨b8, 3, none⟩ (.slice aG2 n cG2)) = W4 at *
      go_upto_region 12 with fail
      go_loopw [11] (fun v11 wr => ∃ (i : Nat) (aC : Option Addr) (cC : Nat) (aS : Option Addr) (cS m : Nat), v11 = .int .i64 (i : Nat) ∧ i ≤ n ∧ OfAt seed same (slotsR (Q.map absQ)) i ∧ ROf w b b8 seed same aL cL aG cG Q ⟨aL2, cL2, aG2, cG2, aC, cC, aS, cS⟩ n m Q2 (ofM seed same (slotsR (Q.map absQ)) (live ((slotsR (Q.map absQ)).take i))) wr) (fun v11 _ => n - (intOf v11).toNat)
      case atStart => exact ⟨0, aC, cC, aS, cS, m0, rfl, Nat.zero_le _, OfAt.zero _ _ _, HRR.out⟩
      case round =>
        clear HRR HM0
        obtain ⟨i, aC, cC, aS, cS, m, rfl, hi, hoa, hro⟩ := hrel
        have HOA := Lib.hid hoa; have HRO := Lib.hid hro
        have h5 := hro.h5
        have h8 := hro.h8
        have H8 := Lib.hid h8
        dsimp only [rdO] at h8
        clear hoa hro
        by_cases hlt : i < n
        · have hlt' : (i : Int) < (n : Int) := by omega
          have i0 : (0 : Int) ≤ (i : Int) := by omega
          have wi : IntKind.i64.wrap ((i : Int) + 1) = (i : Int) + 1 := IntWalk.i64_in _ (by omega)
          have wu : IntKind.u32.wrap (i : Int) = (i : Int) := by simp [IntKind.wrap, IntKind.signed, IntKind.bits]; omega
          obtain ⟨q, hq⟩ : ∃ q, Q[i]? = some q := ⟨_, List.getElem?_eq_getElem (by rw [HN.out]; exact hlt)⟩
          obtain ⟨x, v, g⟩ := q
          have hL : (slotsR (Q.map absQ))[i]? = some (if g then none else some x) := by unfold slotsR; rw [List.getElem?_map, List.getElem?_map, hq]; rfl
          obtain ⟨gL, gG, e1, e2, _, zg⟩ := HRO.out.row.ent hq
          subst e1 e2
          dsimp only at zg
          have HL := Lib.hid hL
          clear hL hq
          have h5_0 := cell_of_row _ _ 0 _ _ _ h5; have h5_1 := cell_of_row _ _ 1 _ _ _ h5; have h5_f := (fun j => frozen_of_row _ _ j _ _ h5); have h5_l := lt_of_block h5; simp at h5_0 h5_1; have H_h5 := Lib.hid h5; clear h5
          cases g with
          | true =>
            go_wp2
            go_roundw
            case rel => exact ⟨i + 1, aC, cC, aS, cS, m, by go_num, hlt, HOA.out.none HL.out, by rw [live_take_none HL.out]; exact HRO.out⟩
            case measure => simp [intOf]; omega
          | false =>
            have hx : (slotsR (Q.map absQ))[i]? = some (some x) := HL.out
            obtain ⟨hoa2, pl, hpl, hpw⟩ := HOA.out.some HKO.out (by rw [HLL.out]; exact hlen) hx
            have hput := rdput_ok HRO.out.rf seed same hsd hpl hpw (by rw [HE2.out]; exact HOA.out.full) (s := i) (by rw [HE2.out]; exact ⟨x, hx⟩) (by omega)
            rw [HE2.out, HQ2.out, HRO.out.len, ← ofM_snoc seed same _ _ (i, x), ← live_take_some hx] at hput
            unfold rddoPost at hput
            rw [HQ2.out] at hput
            obtain ⟨G2, hG2⟩ : ∃ G2, ofM seed same (slotsR (Q.map absQ)) (live ((slotsR (Q.map absQ)).take (i + 1))) = G2 := ⟨_, rfl⟩
            rw [hG2] at hput
            obtain ⟨m2, hm2⟩ : ∃ m2, 8 * G2.length = m2 := ⟨_, rfl⟩
            rw [hm2] at hput
            have HPut := Lib.hid hput
            have HOA2 := Lib.hid hoa2; have HG2 := Lib.hid hG2; have HM2 := Lib.hid hm2
            clear hx hoa2 hpl hpw hput hG2 hm2 pl HOA
            have h8_0 := cell_of_row _ _ 0 _ _ _ h8; have h8_1 := cell_of_row _ _ 1 _ _ _ h8; have h8_2 := cell_of_row _ _ 2 _ _ _ h8; have h8_3 := cell_of_row _ _ 3 _ _ _ h8; have h8_4 := cell_of_row _ _ 4 _ _ _ h8; have h8_5 := cell_of_row _ _ 5 _ _ _ h8; have h8_f := (fun j => frozen_of_row _ _ j _ _ h8); have h8_l := lt_of_block h8; simp at h8_0 h8_1 h8_2 h8_3 h8_4 h8_5; have H_h8 := Lib.hid h8; clear h8
            go_upto_region 13 with (go_at_call 55; refine Calls.mono HPut.out ?_; rintro e w5 ⟨aC2, cC2, aS2, cS2, rfl, hri, hp5⟩; clear h8_0 h8_1 h8_2 h8_3 h8_4 h8_5 h8_f h8_l; clear H_h8; have h8 := hp5.heap (fun h => h) H8.out; dsimp only [rdO] at h8; have h8_0 := cell_of_row _ _ 0 _ _ _ h8; have h8_1 := cell_of_row _ _ 1 _ _ _ h8; have h8_2 := cell_of_row _ _ 2 _ _ _ h8; have h8_3 := cell_of_row _ _ 3 _ _ _ h8; have h8_4 := cell_of_row _ _ 4 _ _ _ h8; have h8_5 := cell_of_row _ _ 5 _ _ _ h8; have h8_f := (fun j => frozen_of_row _ _ j _ _ h8); have h8_l := lt_of_block h8; simp at h8_0 h8_1 h8_2 h8_3 h8_4 h8_5; have H_h8 := Lib.hid h8; clear h8)
            have h8' := hp5.heap (fun h => h) H8.out
            obtain ⟨X, hX⟩ : ∃ X, (((((w5.setCell ⟨b8, 0, none⟩ (.int .u64 seed)).setCell ⟨b8, 1, none⟩ (.bool same)).setCell ⟨b8, 2, none⟩ (.slice aL2 n cL2)).setCell ⟨b8, 3, none⟩ (.slice aG2 n cG2)).setCell ⟨b8, 4, none⟩ (.slice aC2 m2 cC2)).setCell ⟨b8, 5, none⟩ (.slice aS2 m2 cS2) = X := ⟨_, rfl⟩
            obtain ⟨g1, g2⟩ := fin6 h8' hX
            have nb : ∀ i, i = b8 → i < w5.heap.size → ∃ cs T fz, w5.heap[i]? = some (.cells cs T fz) ∧ T ≠ 42 ∧ T ≠ 4 ∧ T ≠ 5 ∧ T ≠ 43 := fun i e _ => ⟨_, _, _, e ▸ h8', by decide, by decide, by decide, by decide⟩
            have hro := HRO.out
            have HN8 : Hid (ROf w b b8 seed same (some ⟨gL, 0, none⟩) cL (some ⟨gG, 0, none⟩) cG Q ⟨aL2, cL2, aG2, cG2, aC2, cC2, aS2, cS2⟩ n m2 Q2 G2 X) := Lib.hid ⟨(hro.pu.trans hp5).then g1 (fun i hi e => by have := HB.out; omega), g1.heap (by omega) (hp5.heap (fun h => h) hro.h5), g1.heap (by omega) (hp5.heap (fun h => h) hro.h6), g2, (hro.row.pure hp5).modX g1 nb, (RefD.mk (hro.rf.l.pure hp5) hri : RefD w5 ⟨aL2, cL2, aG2, cG2, aC2, cC2, aS2, cS2⟩ Q2 G2).modX g1 nb, HM2.out⟩
            have H8' := Lib.hid h8'
            clear hro nb g1 g2 hri h8' H8
            rw [hX]
            go_wp2
            go_roundw
            case rel => exact ⟨i + 1, aC2, cC2, aS2, cS2, m2, by go_num, hlt, HOA2.out, by rw [HG2.out]; exact HN8.out⟩
            case measure => simp [intOf]; omega
        · have hin : n = i := by omega
          subst hin
          have htk : (slotsR (Q.map absQ)).take n = slotsR (Q.map absQ) := List.take_of_length_le (by rw [HLL.out]; omega)
          have hro := HRO.out
          rw [htk] at hro
          have h6 := hro.h6
          replace HRO := Lib.hid hro
          clear htk hro hi hlt HOA
          have h5_0 := cell_of_row _ _ 0 _ _ _ h5; have h5_1 := cell_of_row _ _ 1 _ _ _ h5; have h5_f := (fun j => frozen_of_row _ _ j _ _ h5); have h5_l := lt_of_block h5; simp at h5_0 h5_1; have H_h5 := Lib.hid h5; clear h5
          have h6_0 := cell_of_row _ _ 0 _ _ _ h6; have h6_1 := cell_of_row _ _ 1 _ _ _ h6; have h6_2 := cell_of_row _ _ 2 _ _ _ h6; have h6_3 := cell_of_row _ _ 3 _ _ _ h6; have h6_4 := cell_of_row _ _ 4 _ _ _ h6; have h6_5 := cell_of_row _ _ 5 _ _ _ h6; have h6_f := (fun j => frozen_of_row _ _ j _ _ h6); have h6_l := lt_of_block h6; simp at h6_0 h6_1 h6_2 h6_3 h6_4 h6_5; have H_h6 := Lib.hid h6; clear h6
          have h8_0 := cell_of_row _ _ 0 _ _ _ h8; have h8_1 := cell_of_row _ _ 1 _ _ _ h8; have h8_2 := cell_of_row _ _ 2 _ _ _ h8; have h8_3 := cell_of_row _ _ 3 _ _ _ h8; have h8_4 := cell_of_row _ _ 4 _ _ _ h8; have h8_5 := cell_of_row _ _ 5 _ _ _ h8; have h8_f := (fun j => frozen_of_row _ _ j _ _ h8); have h8_l := lt_of_block h8; simp at h8_0 h8_1 h8_2 h8_3 h8_4 h8_5; have H_h8 := Lib.hid h8; clear h8
          go_wp2
          obtain ⟨Y, hY⟩ : ∃ Y, (((((wr.setCell ⟨b + 1, 0, none⟩ (.int .u64 seed)).setCell ⟨b + 1, 1, none⟩ (.bool same)).setCell ⟨b + 1, 2, none⟩ (.slice aL2 n cL2)).setCell ⟨b + 1, 3, none⟩ (.slice aG2 n cG2)).setCell ⟨b + 1, 4, none⟩ (.slice aC m cC)).setCell ⟨b + 1, 5, none⟩ (.slice aS m cS) = Y := ⟨_, rfl⟩
          obtain ⟨g1, g2⟩ := fin6 H_h6.out hY
          rw [hY]
          have x0 := cell_of_row _ _ 0 _ _ _ g2; have x1 := cell_of_row _ _ 1 _ _ _ g2; have x2 := cell_of_row _ _ 2 _ _ _ g2; have x3 := cell_of_row _ _ 3 _ _ _ g2; have x4 := cell_of_row _ _ 4 _ _ _ g2; have x5 := cell_of_row _ _ 5 _ _ _ g2
          simp at x0 x1 x2 x3 x4 x5
          refine bodyPost_ret (v := .tuple #[rdV seed same ⟨aL2, cL2, aG2, cG2, aC, cC, aS, cS⟩ n m, .int .i64 0]) (by simp [results, Tryz.results27, go_sem, x0, x1, x2, x3, x4, x5]) rfl ⟨⟨aL2, cL2, aG2, cG2, aC, cC, aS, cS⟩, Q2, by rw [HQ2.out, HRO.out.len], HE2.out, HRO.out.rf.modX g1 (fun i e _ => ⟨_, _, _, e ▸ H_h6.out, by decide, by decide, by decide, by decide⟩), by rw [HQ2.out]; exact HF2.out, HRO.out.pu.then g1 (fun i hi e => by have := HB.out; omega)⟩
end Go.Proofs.YtapplindfijngaaGreat

/- dict.Of: the walk. -/
namespace Go.Proofs.YtapplindfijngaaGreat
open Go.RowKit Go.Shelf
set_option maxRecDepth 100000
attribute [local go_sem] Oper.semAt_some

theorem LogAt.quiet' {N : Nat} {A B : World} {D : Nat → Prop} {p : Nat} {L : List (Option Ent)} (h : LogAt A D p L) (hq : Quiet N A B) : LogAt B D p L := by
  obtain ⟨sv, M, rfl, h⟩ := h
  exact (h.quiet hq).toAt
section
variable {w w' : World} {d q p : Nat} {sv : Value} {Dl : Nat → Prop} {seed : Nat} {same : Bool} {L : List (Option Ent)} {Gs : List Grp}
theorem DictMem.quiet {N : Nat} {A B : World} (h : DictMem A d q p sv Dl seed same L Gs) (hq : Quiet N A B) : DictMem B d q p sv Dl seed same L Gs :=
  ⟨hq.cells h.box, h.log.quiet' hq, h.ix.quiet hq, h.sd⟩
/-- The log of a dictionary is set. -/
theorem DictMem.relog {q0 : Nat} {Dl0 : Nat → Prop} {L0 : List (Option Ent)} (h : DictMem w d q0 p sv Dl0 seed same L0 Gs) (hl : LogAt w Dl q L) {Y : World} (hY : w.setCell ⟨d, 0, none⟩ (.pointer (some ⟨q, 0, none⟩)) = Y) :
    DictMem Y d q p sv Dl seed same L Gs ∧ Mod (fun k => k = d) w Y := by
  subst hY
  have hm : Mod (fun k => k = d) w (w.setCell ⟨d, 0, none⟩ (.pointer (some ⟨q, 0, none⟩))) := Mod.set1 _ _ _
  refine ⟨⟨?_, hl.frame hm (fun k hk e => ?_) (fun k _ e cs fz e2 => by subst e; rw [h.box] at e2; cases e2), h.ix.mod hm (fun k hk e => ?_), h.sd⟩, hm⟩
  · have := heap_set1 (j := 0) (v := .pointer (some ⟨q, 0, none⟩)) h.box
    simpa using this
  · subst e
    rcases hl.types hk h.box with e | e <;> cases e
  · subst e
    rcases hk with e | e
    · exact h.npd e.symm
    · exact h.nsd e
end
/-- Between two rounds of Of. -/
structure OInv (w : World) (d q : Nat) (Dl : Nat → Prop) (seed : Nat) (same : Bool) (L : List (Option Ent)) (It : Nat → Prop) (b4 b5 b7 : Nat) (pre : List Given) (W : World) : Prop where
  r4 : W.heap[b4]? = some (.cells #[.pointer none] 24 (0, 0))
  r5 : W.heap[b5]? = some (.cells #[.int .i64 0] 44 (0, 0))
  r7 : W.heap[b7]? = some (.cells #[.pointer (some ⟨d, 0, none⟩)] 24 (0, 0))
  mem : ∃ p sv, DictMem W d q p sv Dl seed same L (ofM seed same L (pre.map keyG)) ∧ w.heap.size ≤ p ∧ (∀ k, sv.ownBlock = some k → w.heap.size ≤ k) ∧ ¬ It p ∧ ∀ k, sv.ownBlock = some k → ¬ It k
  part : Part seed same L (slotsOf (pre.map keyG)) (ofM seed same L (pre.map keyG))
  used : usedN (ofM seed same L (pre.map keyG)) = pre.length
  pu : Pure w W
theorem OInv.quiet {w : World} {d q : Nat} {Dl : Nat → Prop} {seed : Nat} {same : Bool} {L : List (Option Ent)} {It : Nat → Prop} {b4 b5 b7 : Nat} {pre : List Given} {A B : World} (h : OInv w d q Dl seed same L It b4 b5 b7 pre A) {N : Nat} (hN : w.heap.size ≤ N) (hq : Quiet N A B) : OInv w d q Dl seed same L It b4 b5 b7 pre B := by
  obtain ⟨p, sv, h1, h2⟩ := h.mem
  exact ⟨hq.cells h.r4, hq.cells h.r5, hq.cells h.r7, ⟨p, sv, h1.quiet hq, h2⟩, h.part, h.used, hq.mod h.pu hN⟩
def ofPost (w : World) (seed : Nat) (same : Bool) (L : List (Option Ent)) (e : Ending) (w' : World) : Prop :=
  (KeysOk L ∧ (∃ d D, e = .returned (.tuple #[.pointer (some ⟨d, 0, none⟩), .int .i64 0]) ∧ DictAt w' D d seed same L (ofM seed same L (live L)) ∧ ∀ k, D k → w.heap.size ≤ k) ∧ Pure w w') ∨
  (¬ KeysOk L ∧ e = .returned (.tuple #[.pointer none, .int .i64 11]) ∧ Pure w w')
/-- No block of the iterator is one of these types. -/
theorem iter_types {w3 : World} {B : Nat} {sv : Value} {M : List (Option Ent × Value)} (hit : IterAt w3 B sv M) {k : Nat} {cs : Array Value} {T : TypeId} {fz : Nat × Nat} (hb : w3.heap[k]? = some (.cells cs T fz)) (h1 : T ≠ 5) (h2 : T ≠ 29) (h3 : T ≠ 42) : ¬ iterBlocks B sv M k := by
  rintro (h | h | ⟨e, v, hm, h⟩)
  · subst h; rw [hit.box] at hb; cases hb; exact h2 rfl
  · obtain ⟨cc, e2⟩ := owns_type hit.row h
    rw [hb] at e2; cases e2; exact h3 rfl
  · obtain ⟨cc, e2⟩ := owns_type (hit.vals e v hm) h
    rw [hb] at e2; cases e2; exact h1 rfl
set_option maxHeartbeats 4000000 in
theorem of_ok {w : World} {D : Nat → Prop} {ql : Nat} {L : List (Option Ent)} (h : LogAt w D ql L) (seed : Nat) (same : Bool) (hsd : seed < 18446744073709551616) : Calls Tryz.prog 26 #[.agg #[.int .u64 seed, .bool same], .pointer (some ⟨ql, 0, none⟩)] w (ofPost w seed same L) := by
  have hp0 : Pure w (((w.alloc (.cells #[.int .u64 seed, .bool same] 27)).alloc (.cells #[.pointer none] 24)).alloc (.cells #[.int .i64 0] 44)) := (((Mod.refl _ w).alloc _).alloc _).alloc _
  have z2 := heap_keep (o := .cells #[.int .i64 0] 44) (heap_keep (o := .cells #[.pointer none] 24) (heap_new (w := w) (o := .cells #[.int .u64 seed, .bool same] 27 (0, 0)) rfl))
  have z4 := heap_keep (o := .cells #[.int .i64 0] 44) (heap_new (w := w.alloc (.cells #[.int .u64 seed, .bool same] 27)) (o := .cells #[.pointer none] 24 (0, 0)) (n := w.heap.size + 1) (by simp))
  have z5 := heap_new (w := (w.alloc (.cells #[.int .u64 seed, .bool same] 27)).alloc (.cells #[.pointer none] 24)) (o := .cells #[.int .i64 0] 44 (0, 0)) (n := w.heap.size + 1 + 1) (by simp)
  have HC := Lib.hid (copyA_ok (h.pure hp0))
  have HP := Lib.hid hp0
  have hok := h.ok
  have HOK := Lib.hid hok
  clear h hp0 hok
  (refine (callsIn_wide (n := 0)).1 (callsIn_of_wp_marks Tryz.func26 rfl trivial (wpIn_wide.2 ?_) rfl); simp only [Tryz.ntmps26, List.size_toArray, List.length_cons, List.length_nil, Nat.reduceAdd, Nat.reduceSub, Array.replicate_succ, Array.replicate_zero, List.push_toArray, List.append_toArray, List.nil_append, List.cons_append])
  go_upto_region 1 with fail
  generalize (((w.alloc (.cells #[.int .u64 seed, .bool same] 27)).alloc (.cells #[.pointer none] 24)).alloc (.cells #[.int .i64 0] 44)) = W1 at *
  obtain ⟨b4, hb4⟩ : ∃ b, w.heap.size + 1 = b := ⟨_, rfl⟩
  rw [hb4] at z4 z5 ⊢
  have hb4w : w.heap.size < b4 := by omega
  clear hb4
  go_upto_region 4 with (go_at_call 75; refine Calls.mono HC.out ?_; rintro e w2 ⟨q, Dl, rfl, hl2, hp2, hD2⟩; dsimp only [logPtr] at *)
  have zz2 := hp2.heap (fun h => h) z2; have zz4 := hp2.heap (fun h => h) z4; have zz5 := hp2.heap (fun h => h) z5
  have HL2 := Lib.hid hl2
  replace HP := Lib.hid (HP.out.trans hp2)
  have hw1 : b4 + 1 < W1.heap.size := lt_of_block z5
  have h12 : W1.heap.size ≤ w2.heap.size := hp2.size
  have HD2 := Lib.hid hD2
  clear z2 z4 z5 hl2 hp2 HC hD2
  have HN := Lib.hid (dnew_ok seed same hsd w2)
  have zz2_0 := cell_of_row _ _ 0 _ _ _ zz2; have zz2_1 := cell_of_row _ _ 1 _ _ _ zz2; have zz2_f := (fun j => frozen_of_row _ _ j _ _ zz2); have zz2_l := lt_of_block zz2; simp at zz2_0 zz2_1; have H_zz2 := Lib.hid zz2; clear zz2
  go_upto_region 5 with (go_at_call 8; refine Calls.mono HN.out ?_; rintro e w3 ⟨d, D3, rfl, hd3, hp3, hD3⟩; dsimp only [dPtr] at *)
  have hpa : Pure w3 (w3.alloc (.cells #[.pointer (some ⟨d, 0, none⟩)] 24)) := (Mod.refl _ w3).alloc _
  have z7 := heap_new (w := w3) (o := .cells #[.pointer (some ⟨d, 0, none⟩)] 24 (0, 0)) rfl
  obtain ⟨q0, p, sv, Dl0, hm3, hk3, hdd3⟩ := hd3
  have hm4 := hm3.pure hpa
  have y4 := (hp3.trans hpa).heap (fun h => h) zz4; have y5 := (hp3.trans hpa).heap (fun h => h) zz5
  replace HL2 := Lib.hid (HL2.out.pure (hp3.trans hpa))
  have h23 : w2.heap.size ≤ w3.heap.size := hp3.size
  have hpw2 : w.heap.size ≤ w2.heap.size := HP.out.size
  have hfp : w2.heap.size ≤ p := hD3 p ((hdd3 p).2 (.inr (.inr (.inl rfl))))
  have hfs : ∀ k, sv.ownBlock = some k → w2.heap.size ≤ k := fun k hk => hD3 k ((hdd3 k).2 (.inr (.inr (.inr hk))))
  have hfd : w2.heap.size ≤ d := hD3 d ((hdd3 d).2 (.inl rfl))
  replace HP := Lib.hid ((HP.out.trans hp3).trans hpa)
  clear zz2_0 zz2_1 zz2_f zz2_l
  clear H_zz2 hp3 hpa hm3 hk3 hdd3 hD3 zz4 zz5 HN
  generalize hW4 : w3.alloc (.cells #[.pointer (some ⟨d, 0, none⟩)] 24) = W4 at *
  clear hW4
  obtain ⟨b7, hb7⟩ : ∃ b, w3.heap.size = b := ⟨_, rfl⟩
  rw [hb7] at z7 h23 ⊢
  clear hb7
  have HM4 := Lib.hid hm4
  have hb := hm4.box
  clear hm4
  have hb_0 := cell_of_row _ _ 0 _ _ _ hb; have hb_1 := cell_of_row _ _ 1 _ _ _ hb; have hb_2 := cell_of_row _ _ 2 _ _ _ hb; have hb_3 := cell_of_row _ _ 3 _ _ _ hb; have hb_f := (fun j => frozen_of_row _ _ j _ _ hb); have hb_l := lt_of_block hb; simp at hb_0 hb_1 hb_2 hb_3; have H_hb := Lib.hid hb; clear hb
  have hz7 := z7
  have hz7_0 := cell_of_row _ _ 0 _ _ _ hz7; have hz7_f := (fun j => frozen_of_row _ _ j _ _ hz7); have hz7_l := lt_of_block hz7; simp at hz7_0; have H_hz7 := Lib.hid hz7; clear hz7
  go_upto_region 6 with fail
  obtain ⟨Y, hY⟩ : ∃ Y, W4.setCell ⟨d, 0, none⟩ (.pointer (some ⟨q, 0, none⟩)) = Y := ⟨_, rfl⟩
  obtain ⟨g1, g2⟩ := HM4.out.relog HL2.out hY
  rw [hY]
  have ndb : ∀ {k : Nat} {cs : Array Value} {T : TypeId}, W4.heap[k]? = some (.cells cs T (0, 0)) → T ≠ 107 → k ≠ d := fun {k cs T} hk hT e => by subst e; rw [HM4.out.box] at hk; cases hk; exact hT rfl
  have x4 := g2.heap (ndb y4 (by decide)) y4; have x5 := g2.heap (ndb y5 (by decide)) y5; have x7 := g2.heap (ndb z7 (by decide)) z7
  have hpY : Pure w Y := HP.out.then g2 (fun i hi e => by omega)
  have HG := Lib.hid g1; have HPY := Lib.hid hpY
  have h4Y : W4.heap.size ≤ Y.heap.size := g2.size
  have hb7l : b7 < W4.heap.size := hz7_l
  clear hb_0 hb_1 hb_2 hb_3 hb_f hb_l
  clear hz7_0 hz7_f hz7_l
  clear H_hb H_hz7 hY g2 HM4 HL2 HP ndb hpY y4 y5 z7 g1
  have HAl := Lib.hid (allA_ok HG.out.log)
  go_wp2_with (go_at_call 76; refine Calls.mono HAl.out ?_; rintro e w6 ⟨M, B, a, c, hM, rfl, hit, hp6, hB, hfr⟩)
  have HIT := Lib.hid hit
  have hItlt : ∀ k, iterBlocks B (.slice a M.length c) M k → k < w6.heap.size := by
    rintro k (rfl | h | ⟨e, v, hm, h⟩)
    · exact lt_of_block hit.box
    · exact owns_lt hit.row h
    · exact owns_lt (hit.vals e v hm) h
  have hG6 := HG.out.pure hp6
  have hnt := fun {k cs T} (hk : w6.heap[k]? = some (.cells cs T (0, 0))) h1 h2 h3 => iter_types hit (k := k) (cs := cs) (T := T) hk h1 h2 h3
  have hI0 : OInv w d q Dl seed same L (iterBlocks B (.slice a M.length c) M) b4 (b4 + 1) b7 [] w6 := by
    refine ⟨hp6.heap (fun h => h) x4, hp6.heap (fun h => h) x5, hp6.heap (fun h => h) x7, ⟨p, sv, hG6, by omega, fun k hk => by have := hfs k hk; omega, hnt hG6.ix.box (by decide) (by decide) (by decide), fun k hk => ?_⟩, ?_, ?_, HPY.out.trans hp6⟩
    · obtain ⟨cc, e2⟩ := owns_type hG6.ix.row hk
      exact hnt e2 (by decide) (by decide) (by decide)
    · exact (part_new seed same L).keeps' (fun s => by simp [slotsOf])
    · exact newG_used 1
  have nd := Lib.hid (hnt hG6.box (by decide) (by decide) (by decide))
  have n4 := Lib.hid (hnt hI0.r4 (by decide) (by decide) (by decide)); have n5 := Lib.hid (hnt hI0.r5 (by decide) (by decide) (by decide))
  have hw6 : b7 < w6.heap.size := lt_of_block hI0.r7
  have hY6 : Y.heap.size ≤ w6.heap.size := hp6.size
  have hw46 : b4 + 1 < w6.heap.size := lt_of_block hI0.r5
  clear hit hp6 hB hfr hG6 hnt x4 x5 x7 HAl HG
  generalize hItd : iterBlocks B (.slice a M.length c) M = It at *
  refine wpIn_wide.1 (wp_range2 (gf := 127) (lb := #[.pointer (some ⟨B, 0, none⟩)]) rfl (enters_of Tryz.func127 (by kernel_rfl) rfl) (It := It) (hItd ▸ All_iter HIT.out w6.heap.size (Nat.le_refl _)) hItlt (fun _ => rfl)
    (fun pre W => OInv w d q Dl seed same L It b4 (b4 + 1) b7 pre W ∧ w6.heap.size ≤ W.heap.size) (fun cd pre W => cd = .ret ∧ W.heap[b4]? = some (.cells #[.pointer none] 24 (0, 0)) ∧ W.heap[b4 + 1]? = some (.cells #[.int .i64 11] 44 (0, 0)) ∧ ¬ KeysOk L ∧ Pure w W) ?hI ?hIx ⟨hI0, Nat.le_refl _⟩ ?round ?done ?stop)
  case hI => exact fun pre A B ⟨h, hz⟩ hq => ⟨h.quiet (by omega) hq, Nat.le_trans hz (Mod.size hq)⟩
  case hIx => exact fun cd pre A B ⟨h1, h2, h3, h4, h5⟩ hq => ⟨h1, hq.cells h2, hq.cells h3, h4, hq.mod h5 (by omega)⟩
  case stop =>
    rintro l cd pre W hl ⟨rfl, h1, h2, h3, h4⟩ hK
    have hq : Quiet w6.heap.size _ _ := Quiet.putObj (.deferred none) hl hK rfl
    have y4 := cell_of_row _ _ 0 _ _ _ (hq.cells h1); have y5 := cell_of_row _ _ 0 _ _ _ (hq.cells h2)
    simp at y4 y5
    refine wpIn_wide.2 ?_
    go_wp2
    exact bodyPostM_drained (v := .tuple #[.pointer none, .int .i64 11]) hK (by simp [results, Tryz.results26, go_sem, y4, y5]) (.inr ⟨h3, rfl, hq.mod h4 (by omega)⟩)
  case done =>
    rintro l xs W hl hS ⟨hI, hWs⟩ hK
    have hS' : xs.map keyG = live L := by rw [← hM]; exact hS
    obtain ⟨p2, sv2, hm, hf1, hf2, _, _⟩ := hI.mem
    have hpt := hI.part; have hus := hI.used
    rw [hS'] at hm hpt hus
    have hkeeps : Keeps seed same L (ofM seed same L (live L)) := hpt.keeps (fun s => ⟨fun hs => hpt.sub s hs, fun ⟨e, he⟩ => by
      have := live_of (i := 0) he
      rw [Nat.zero_add] at this
      exact List.mem_map.2 ⟨_, this, rfl⟩⟩) (by rw [hus]; have := congrArg List.length hS'; rw [List.length_map] at this; rw [this]; exact liveOf_live' L 0)
    have r4 := hI.r4; have r5 := hI.r5; have r7 := hI.r7
    have HPU := Lib.hid hI.pu; have HM := Lib.hid hm; have HKE := Lib.hid hkeeps
    clear hI hI0 hItlt hS hS' hpt hus hm hkeeps
    have R4 := Lib.hid r4; have R5 := Lib.hid r5
    have n7 : b7 ≠ b4 := by omega
    have r4_0 := cell_of_row _ _ 0 _ _ _ r4; have r4_f := (fun j => frozen_of_row _ _ j _ _ r4); have r4_l := lt_of_block r4; simp at r4_0; have H_r4 := Lib.hid r4; clear r4
    have r5_0 := cell_of_row _ _ 0 _ _ _ r5; have r5_f := (fun j => frozen_of_row _ _ j _ _ r5); have r5_l := lt_of_block r5; simp at r5_0; have H_r5 := Lib.hid r5; clear r5
    have r7_0 := cell_of_row _ _ 0 _ _ _ r7; have r7_f := (fun j => frozen_of_row _ _ j _ _ r7); have r7_l := lt_of_block r7; simp at r7_0; have H_r7 := Lib.hid r7; clear r7
    go_wp2
    have hm2 : Mod (fun k => k = b4 ∨ k = b4 + 1) W ((W.setCell ⟨b4, 0, none⟩ (.pointer (some ⟨d, 0, none⟩))).setCell ⟨b4 + 1, 0, none⟩ (.int .i64 0)) := ((Mod.set1 b4 0 _).mono (fun _ _ h => .inl h)).trans ((Mod.set1 (b4 + 1) 0 _).mono (fun _ _ h => .inr h))
    have e4 := heap_set_other (a := ⟨b4 + 1, 0, none⟩) (v := .int .i64 0) (heap_set1 (j := 0) (v := .pointer (some ⟨d, 0, none⟩)) R4.out) (by show b4 ≠ b4 + 1; omega)
    have e5 := heap_set1 (j := 0) (v := .int .i64 0) (heap_set_other (a := ⟨b4, 0, none⟩) (v := .pointer (some ⟨d, 0, none⟩)) R5.out (by show b4 + 1 ≠ b4; omega))
    have hk := hm2.heap (by rintro (e | e) <;> omega) hK
    have hq : Quiet w6.heap.size _ _ := Quiet.putObj (.deferred none) hl hk rfl
    have y4 := cell_of_row _ _ 0 _ _ _ (hq.cells e4); have y5 := cell_of_row _ _ 0 _ _ _ (hq.cells e5)
    simp at y4 y5
    have hty : ∀ k, dictD d Dl p2 sv2 k → ¬ (k = b4 ∨ k = b4 + 1) := fun k hkd e => by
      rcases e with e | e
      · subst e; rcases HM.out.types hkd R4.out with e | e | e | e | e <;> cases e
      · subst e; rcases HM.out.types hkd R5.out with e | e | e | e | e <;> cases e
    have hm3 := (HM.out.frame hm2 hty (fun k _ e cs fz e2 => by rcases e with e | e <;> (subst e; first | (rw [R4.out] at e2; cases e2) | (rw [R5.out] at e2; cases e2)))).quiet hq
    refine bodyPostM_drained (v := .tuple #[.pointer (some ⟨d, 0, none⟩), .int .i64 0]) hk (by simp [results, Tryz.results26, go_sem, y4, y5]) (.inl ⟨HKE.out.keys, ⟨d, dictD d Dl p2 sv2, rfl, ⟨q, p2, sv2, Dl, hm3, HKE.out, fun _ => Iff.rfl⟩, ?_⟩, hq.mod (HPU.out.then hm2 (fun i hi e => by omega)) (by omega)⟩)
    rintro k (e | e | e | e)
    · omega
    · have := HD2.out k e; have : w.heap.size ≤ W1.heap.size := by omega
      omega
    · omega
    · exact hf2 k e
  case round =>
    rintro l pre ⟨i, x, v⟩ W K ⟨hI, hWs⟩ hG hK
    obtain ⟨va, vc, hv, _⟩ := owns_form hG.2.1
    dsimp only at hv
    subst hv
    dsimp only [encG]
    obtain ⟨⟨post, hpost⟩, _, _⟩ := hG
    rw [hM] at hpost
    have HPO := Lib.hid hpost
    have HCI := Lib.hid hI; have HK := Lib.hid hK; have HLT := Lib.hid hItlt
    clear hI hK hI0 HIT hItlt hpost
    gi_wp2
    have hP : Pure W (W.alloc (.cells #[.string x.key, .slice va (bytesOf x.val).length vc, .int .u64 x.dl, .int .u64 x.birth] 42)) := (Mod.refl _ W).alloc _
    have z9 := heap_new (w := W) (o := .cells #[.string x.key, .slice va (bytesOf x.val).length vc, .int .u64 x.dl, .int .u64 x.birth] 42 (0, 0)) rfl
    refine HK.out _ _ hP (fun l' W2 hl hr hq => ?_)
    replace HCI := Lib.hid ((HCI.out.quiet (N := w6.heap.size) (by omega) (Quiet.of_pure hP)).quiet (by omega) hq)
    have zz9 := hq.cells z9
    have hsz2 : w6.heap.size ≤ W2.heap.size := by have := Mod.size hq; have := hP.size; omega
    clear HK hP hq z9
    generalize W.heap.size = b9 at zz9 ⊢
    obtain ⟨p2, sv2, hm, hf1, hf2, hf3, hf4⟩ := HCI.out.mem
    have hxi : L[i]? = some (some x) := live_mem (g := (i, x)) (by rw [HPO.out]; simp [keyG])
    have hkx : x.key.size ≤ 250 := (HOK.out.ent x (List.mem_of_getElem? hxi)).k1
    have HXI := Lib.hid hxi
    have HF := Lib.hid (dfindG_ok hm HCI.out.part x.key (by omega))
    have HM := Lib.hid hm; have HF2 := Lib.hid hf2; have HF4 := Lib.hid hf4
    have r4 := HCI.out.r4; have r5 := HCI.out.r5; have r7 := HCI.out.r7
    clear hm hf2 hf4 hxi hkx
    have R7 := Lib.hid r7
    have zz9_0 := cell_of_row _ _ 0 _ _ _ zz9; have zz9_1 := cell_of_row _ _ 1 _ _ _ zz9; have zz9_2 := cell_of_row _ _ 2 _ _ _ zz9; have zz9_3 := cell_of_row _ _ 3 _ _ _ zz9; have zz9_f := (fun j => frozen_of_row _ _ j _ _ zz9); have zz9_l := lt_of_block zz9; simp at zz9_0 zz9_1 zz9_2 zz9_3; have H_zz9 := Lib.hid zz9; clear zz9
    have r7_0 := cell_of_row _ _ 0 _ _ _ r7; have r7_f := (fun j => frozen_of_row _ _ j _ _ r7); have r7_l := lt_of_block r7; simp at r7_0; have H_r7 := Lib.hid r7; clear r7
    gi_upto_region 10 with (gi_at_call 42; refine CallsIn.mono (CallsIn.inRound l' (callsIn_wide.2 HF.out)) ?_; rintro e w7 ⟨r, hr7, rfl, hp7⟩)
    have HR7 := Lib.hid hr7
    have q4 := hp7.heap (fun h => h) r4; have q5 := hp7.heap (fun h => h) r5; have q7 := hp7.heap (fun h => h) R7.out
    have HP7 := Lib.hid hp7
    clear r7_0 r7_f r7_l
    clear hr7 hp7 r4 r5 H_r7 HF zz9_0 zz9_1 zz9_2 zz9_3 zz9_f zz9_l H_zz9
    have Q4 := Lib.hid q4; have Q5 := Lib.hid q5
    rcases HR7.out with ⟨s, hs, hks, rfl⟩ | ⟨hn, rfl⟩
    · have hnk : ¬ KeysOk L := fun hkk => by
        obtain ⟨f, hf⟩ := HCI.out.part.sub s hs
        rw [keyL_some hf] at hks
        have := hkk s i f x hf HXI.out hks
        subst this
        have hup := liveFrom_up' L 0
        rw [show liveFrom 0 L = live L from rfl, HPO.out, List.map_append, List.map_cons, List.pairwise_append] at hup
        have := hup.2.2 _ hs s (by simp [keyG])
        omega
      have HNK := Lib.hid hnk
      clear hnk hks hs
      have q4_0 := cell_of_row _ _ 0 _ _ _ q4; have q4_f := (fun j => frozen_of_row _ _ j _ _ q4); have q4_l := lt_of_block q4; simp at q4_0; have H_q4 := Lib.hid q4; clear q4
      have q5_0 := cell_of_row _ _ 0 _ _ _ q5; have q5_f := (fun j => frozen_of_row _ _ j _ _ q5); have q5_l := lt_of_block q5; simp at q5_0; have H_q5 := Lib.hid q5; clear q5
      gi_wp2
      have hm2 : Mod (fun k => k = b4 ∨ k = b4 + 1) w7 ((w7.setCell ⟨b4, 0, none⟩ (.pointer none)).setCell ⟨b4 + 1, 0, none⟩ (.int .i64 11)) := ((Mod.set1 b4 0 _).mono (fun _ _ h => .inl h)).trans ((Mod.set1 (b4 + 1) 0 _).mono (fun _ _ h => .inr h))
      have hm3 := (Mod.of_pure (S := fun k => k = b4 ∨ k = b4 + 1) HP7.out).trans hm2
      refine ⟨KeepsRec.of_mod hm3 (fun k hk h => by omega), rfl, heap_set_other (heap_set1 (j := 0) Q4.out) (by show b4 ≠ b4 + 1; omega), heap_set1 (j := 0) (heap_set_other Q5.out (by show b4 + 1 ≠ b4; omega)), HNK.out, (HCI.out.pu.trans HP7.out).then hm2 (fun k hk h => by omega)⟩
    · obtain ⟨pt1, pt2, pt3, y, k1, k2, k3, k4⟩ := HCI.out.part.put (g := (i, x)) (post := post) (by rw [HCI.out.used]; simp) (by rw [HPO.out]; rfl) HOK.out.len hn
      have HPT := Lib.hid pt1; have HPU2 := Lib.hid pt2
      have HPut := Lib.hid (dput_ok (HM.out.pure HP7.out) k1 k2 k3 (s := i) pt3 k4)
      clear pt1 pt2 k1 k2 k3 k4 hn
      have q7_0 := cell_of_row _ _ 0 _ _ _ q7; have q7_f := (fun j => frozen_of_row _ _ j _ _ q7); have q7_l := lt_of_block q7; simp at q7_0; have H_q7 := Lib.hid q7; clear q7
      gi_wp2_with (gi_at_call 52; refine CallsIn.mono (CallsIn.inRound l' (callsIn_wide.2 HPut.out)) ?_; rintro e w8 ⟨p3, sv3, rfl, hm8, hmod8, hsx8⟩)
      have hsz7 : W2.heap.size ≤ w7.heap.size := HP7.out.size
      have hmA := (Mod.of_pure (S := fun k => k = d ∨ k = p2 ∨ sv2.ownBlock = some k) HP7.out).trans hmod8
      have hn4 : ∀ {k : Nat} {cs : Array Value} {T : TypeId}, w7.heap[k]? = some (.cells cs T (0, 0)) → T ≠ 107 → T ≠ 164 → T ≠ 168 → ¬ (k = d ∨ k = p2 ∨ sv2.ownBlock = some k) := fun {k cs T} hk t1 t2 t3 e => by
        have hM7 := HM.out.pure HP7.out
        rcases e with e | e | e
        · subst e; rw [hM7.box] at hk; cases hk; exact t1 rfl
        · subst e; rw [hM7.ix.box] at hk; cases hk; exact t2 rfl
        · obtain ⟨cc, e2⟩ := owns_type hM7.ix.row e
          rw [hk] at e2; cases e2; exact t3 rfl
      have hcell : ∀ k, (k = d ∨ k = p2 ∨ sv2.ownBlock = some k) → ∀ o, W2.heap[k]? = some o → o.isCells = true := fun k hk o ho => by
        rcases hk with e | e | e
        · subst e; rw [HM.out.box] at ho; cases ho; rfl
        · subst e; rw [HM.out.ix.box] at ho; cases ho; rfl
        · obtain ⟨cc, e2⟩ := owns_type HM.out.ix.row e
          rw [ho] at e2; cases e2; rfl
      have hfr : w.heap.size ≤ p3 ∧ (∀ k, sv3.ownBlock = some k → w.heap.size ≤ k) ∧ ¬ It p3 ∧ ∀ k, sv3.ownBlock = some k → ¬ It k := by
        rcases hsx8 with ⟨rfl, rfl⟩ | ⟨g1, g2⟩
        · exact ⟨hf1, HF2.out, hf3, HF4.out⟩
        · exact ⟨by omega, fun k hk => by have := g2 k hk; omega, fun hi => by have := HLT.out _ hi; omega, fun k hk hi => by have := g2 k hk; have := HLT.out _ hi; omega⟩
      refine ⟨KeepsRec.of_mod hmA (fun k _ h o ho => hcell k h o ho), KeepsIt.of_mod hmA (fun k hi h => ?_), ⟨hmod8.heap (hn4 Q4.out (by decide) (by decide) (by decide)) Q4.out, hmod8.heap (hn4 Q5.out (by decide) (by decide) (by decide)) Q5.out, hmod8.heap (hn4 H_q7.out (by decide) (by decide) (by decide)) H_q7.out, ⟨p3, sv3, ?_, hfr⟩, ?_, ?_, ?_⟩, Nat.le_trans hsz2 hmA.size⟩
      · rcases h with h | h | h
        · subst h; exact nd.out hi
        · subst h; exact hf3 hi
        · exact HF4.out k h hi
      · rw [List.map_append]; exact hm8
      · rw [List.map_append]; exact HPT.out
      · rw [List.map_append]; have := HPU2.out; simpa [keyG] using this
      · refine (HCI.out.pu.trans HP7.out).then hmod8 (fun k hk h => ?_)
        rcases h with h | h | h
        · omega
        · omega
        · have := HF2.out k h; omega
end Go.Proofs.YtapplindfijngaaGreat

/- compact.Dict of a dictionary. -/
namespace Go.Proofs.YtapplindfijngaaGreat
open Go.RowKit Go.Shelf
set_option maxRecDepth 100000

/-! ### the log without tombstones -/
def packL (L : List (Option Ent)) : List (Option Ent) := (live L).map (fun g => some g.2)
theorem packL_get {L : List (Option Ent)} {i : Nat} {e : Ent} (h : (packL L)[i]? = some (some e)) : ∃ s, (live L)[i]? = some (s, e) ∧ L[s]? = some (some e) := by
  unfold packL at h
  rw [List.getElem?_map] at h
  cases hg : (live L)[i]? with
  | none => rw [hg] at h; cases h
  | some g =>
    rw [hg] at h
    simp at h
    subst h
    exact ⟨g.1, rfl, live_mem (List.mem_of_getElem? hg)⟩
theorem live_idx {L : List (Option Ent)} {i j s : Nat} {e f : Ent} (h1 : (live L)[i]? = some (s, e)) (h2 : (live L)[j]? = some (s, f)) : i = j := by
  have hup := liveFrom_up' L 0
  rw [show liveFrom 0 L = live L from rfl, List.pairwise_iff_getElem] at hup
  obtain ⟨hi, ei⟩ := List.getElem?_eq_some_iff.1 h1
  obtain ⟨hj, ej⟩ := List.getElem?_eq_some_iff.1 h2
  rcases Nat.lt_trichotomy i j with h | h | h
  · have := hup i j (by simpa using hi) (by simpa using hj) h
    simp [ei, ej] at this
  · exact h
  · have := hup j i (by simpa using hj) (by simpa using hi) h
    simp [ei, ej] at this
theorem packL_keys {L : List (Option Ent)} (h : KeysOk L) : KeysOk (packL L) := by
  intro i j e f hi hj hk
  obtain ⟨s, h1, h2⟩ := packL_get hi
  obtain ⟨t, h3, h4⟩ := packL_get hj
  have := h s t e f h2 h4 hk
  subst this
  exact live_idx h1 h3
theorem dhash_ok {w : World} {D : Nat → Prop} {d seed : Nat} {same : Bool} {L : List (Option Ent)} {Gs : List Grp} (h : DictAt w D d seed same L Gs) : Calls Tryz.prog 40 #[dPtr d] w fun e w' => e = .returned (.agg #[.int .u64 seed, .bool same]) ∧ Pure w w' := by
  obtain ⟨q, p, sv, Dl, h1, h2, h3⟩ := h
  have hp0 : Pure w (w.alloc (.cells #[.int .u64 0, .bool false] 27)) := (Mod.refl _ w).alloc _
  have z := heap_new (w := w) (o := .cells #[.int .u64 0, .bool false] 27 (0, 0)) rfl
  have HZ := Lib.hid (dzero_ok (h1.pure hp0))
  have hb := (h1.pure hp0).box
  have HP := Lib.hid hp0
  clear h1 h2 h3 hp0
  go_enter Tryz.func40, Tryz.ntmps40
  go_upto_region 1 with fail
  generalize w.alloc (.cells #[.int .u64 0, .bool false] 27) = W1 at *
  obtain ⟨b, hbe⟩ : ∃ b, w.heap.size = b := ⟨_, rfl⟩
  rw [hbe] at z ⊢
  have HB := Lib.hid hbe
  clear hbe
  have hb_0 := cell_of_row _ _ 0 _ _ _ hb; have hb_1 := cell_of_row _ _ 1 _ _ _ hb; have hb_2 := cell_of_row _ _ 2 _ _ _ hb; have hb_3 := cell_of_row _ _ 3 _ _ _ hb; have hb_f := (fun j => frozen_of_row _ _ j _ _ hb); have hb_l := lt_of_block hb; simp at hb_0 hb_1 hb_2 hb_3; have H_hb := Lib.hid hb; clear hb
  have z_0 := cell_of_row _ _ 0 _ _ _ z; have z_1 := cell_of_row _ _ 1 _ _ _ z; have z_f := (fun j => frozen_of_row _ _ j _ _ z); have z_l := lt_of_block z; simp at z_0 z_1; have H_z := Lib.hid z; clear z
  go_wp2_with (go_at_call 48; refine Calls.mono HZ.out ?_; rintro e w' ⟨rfl, rfl⟩)
  obtain ⟨f1, x0, x1⟩ := gfin (v0 := .int .u64 seed) (v1 := .bool same) H_z.out HP.out (by have := HB.out; omega) rfl
  obtain ⟨Y, hY⟩ : ∃ Y, (W1.setCell ⟨b, 0, none⟩ (.int .u64 seed)).setCell ⟨b, 1, none⟩ (.bool same) = Y := ⟨_, rfl⟩
  rw [hY] at f1 x0 x1 ⊢
  exact bodyPost_ret (v := .agg #[.int .u64 seed, .bool same]) (by simp [results, Tryz.results40, go_sem, x0, x1]) rfl ⟨rfl, f1⟩
def compAPost (w : World) (L : List (Option Ent)) (e : Ending) (w' : World) : Prop :=
  ∃ q a c D, e = .returned (.tuple #[.pointer (some ⟨q, 0, none⟩), .agg #[.slice a (live L).length c, .int .i64 L.length], .int .i64 0]) ∧ LogAt w' D q (packL L) ∧
    w'.ownsRow 0 43 1 (.slice a (live L).length c) (live L).length ((live L).map fun g => .int .u32 g.1) ∧ Pure w w' ∧ (∀ k, D k → w.heap.size ≤ k) ∧ Fresh w (.slice a (live L).length c)
theorem compA_ok {w : World} {D : Nat → Prop} {p : Nat} {L : List (Option Ent)} (h : LogAt w D p L) : Calls Tryz.prog 87 #[.pointer (some ⟨p, 0, none⟩)] w (compAPost w L) := by
  obtain ⟨sv, M, rfl, h⟩ := h
  refine Calls.mono (compact_Log h) ?_
  rintro e w' ⟨q, a, c, D', sv', M', rfl, h1, h2, h3, h4, h5, h6⟩
  exact ⟨q, a, c, D', by rw [List.length_map], ⟨sv', M', h2, h1⟩, h3, h4, h5, h6⟩
def compDPost (w : World) (seed : Nat) (same : Bool) (L : List (Option Ent)) (e : Ending) (w' : World) : Prop :=
  ∃ d2 D2 a c, e = .returned (.tuple #[.pointer (some ⟨d2, 0, none⟩), .agg #[.slice a (live L).length c, .int .i64 L.length], .int .i64 0]) ∧ DictAt w' D2 d2 seed same (packL L) (ofM seed same (packL L) (live (packL L))) ∧
    w'.ownsRow 0 43 1 (.slice a (live L).length c) (live L).length ((live L).map fun g => .int .u32 g.1) ∧ Pure w w' ∧ (∀ k, D2 k → w.heap.size ≤ k) ∧ Fresh w (.slice a (live L).length c)
set_option maxHeartbeats 2000000 in
theorem compD_ok {w : World} {D : Nat → Prop} {d seed : Nat} {same : Bool} {L : List (Option Ent)} {Gs : List Grp} (h : DictAt w D d seed same L Gs) : Calls Tryz.prog 35 #[dPtr d] w (compDPost w seed same L) := by
  have HD := Lib.hid h
  have hsd := h.sd
  have HKO := Lib.hid (packL_keys h.keeps.keys)
  have hp0 : Pure w (w.alloc (.cells #[.slice none 0 0, .int .i64 0] 81)) := (Mod.refl _ w).alloc _
  have z3 := heap_new (w := w) (o := .cells #[.slice none 0 0, .int .i64 0] 81 (0, 0)) rfl
  have HLg := Lib.hid (dlog_ok (h.pure hp0))
  have HP := Lib.hid hp0
  clear h hp0
  go_enter Tryz.func35, Tryz.ntmps35
  go_upto_region 1 with fail
  generalize w.alloc (.cells #[.slice none 0 0, .int .i64 0] 81) = W1 at *
  obtain ⟨b3, hb3⟩ : ∃ b, w.heap.size = b := ⟨_, rfl⟩
  rw [hb3] at z3 ⊢
  have HB3 := Lib.hid hb3
  clear hb3
  go_upto_region 2 with (first
    | (go_at_call 39; refine Calls.mono HLg.out ?_; rintro e w2 ⟨q, Dq, rfl, hq, hp2, hDq⟩; dsimp only [logPtr] at *; have HCL := Lib.hid (compA_ok hq))
    | (go_at_call 87; refine Calls.mono HCL.out ?_; rintro e w3 ⟨q3, a, c, D3, rfl, hlog3, hrow3, hp3, hD3, hfr3⟩))
  have hpa : Pure w3 (w3.alloc (.cells #[.slice a (live L).length c, .int .i64 L.length] 81)) := (Mod.refl _ w3).alloc _
  have z6 := heap_new (w := w3) (o := .cells #[.slice a (live L).length c, .int .i64 L.length] 81 (0, 0)) rfl
  have hpw := ((hp2.trans hp3).trans hpa)
  have HL3 := Lib.hid (hlog3.pure hpa)
  have HROW := Lib.hid (owns_mod (show w3.ownsRow 0 43 1 (.slice a (live L).length c) (live L).length ((live L).map fun g => .int .u32 g.1) from hrow3) hpa (fun _ _ h => h))
  have h12 : W1.heap.size ≤ w2.heap.size := hp2.size
  have h23 : w2.heap.size ≤ w3.heap.size := hp3.size
  have h01 : w.heap.size ≤ W1.heap.size := HP.out.size
  have hfr : Hid (Fresh w (.slice a (live L).length c)) := fun g e => by have := hfr3 g e; omega
  have zz3 := hpw.heap (fun h => h) z3
  have hb3l : b3 < w2.heap.size := Nat.lt_of_lt_of_le (lt_of_block z3) h12
  replace HP := Lib.hid (HP.out.trans hpw)
  clear hlog3 hrow3 hpa hpw hp2 hp3 hfr3 hD3 hq HCL HLg z3 hDq
  generalize hW4 : w3.alloc (.cells #[.slice a (live L).length c, .int .i64 L.length] 81) = W4 at *
  clear hW4
  obtain ⟨b6, hb6⟩ : ∃ b, w3.heap.size = b := ⟨_, rfl⟩
  rw [hb6] at z6 h23 ⊢
  clear hb6
  have HH := Lib.hid (dhash_ok (HD.out.pure HP.out))
  have HO := Lib.hid (fun (W : World) (hW : Pure W4 W) => of_ok (HL3.out.pure hW) seed same hsd)
  go_upto_region 5 with (first
    | (go_at_call 40; refine Calls.mono HH.out ?_; rintro e w5 ⟨rfl, hp5⟩)
    | (go_at_call 26; refine Calls.mono (HO.out _ hp5) ?_; rintro e w7 (⟨_, ⟨d2, D2, rfl, hd2, hD2⟩, hp7⟩ | ⟨hbad, _, _⟩); rotate_left 1; exact absurd HKO.out hbad))
  have hpx := hp5.trans hp7
  have y3 := hpx.heap (fun h => h) zz3; have y6 := hpx.heap (fun h => h) z6
  have HDD := Lib.hid hd2; have HD2 := Lib.hid hD2
  have HROW2 := Lib.hid (owns_mod HROW.out hpx (fun _ _ h => h))
  have HP7 := Lib.hid (HP.out.trans hpx)
  have h45 : W4.heap.size ≤ w5.heap.size := hp5.size
  have h04 : w.heap.size ≤ W4.heap.size := HP.out.size
  have Y3 := Lib.hid y3
  have hb36 : b3 ≠ b6 := by omega
  clear hd2 hD2 hp5 hp7 hpx HH HO HROW HP zz3 z6 HKO HL3
  have y3_0 := cell_of_row _ _ 0 _ _ _ y3; have y3_1 := cell_of_row _ _ 1 _ _ _ y3; have y3_f := (fun j => frozen_of_row _ _ j _ _ y3); have y3_l := lt_of_block y3; simp at y3_0 y3_1; have H_y3 := Lib.hid y3; clear y3
  have y6_0 := cell_of_row _ _ 0 _ _ _ y6; have y6_1 := cell_of_row _ _ 1 _ _ _ y6; have y6_f := (fun j => frozen_of_row _ _ j _ _ y6); have y6_l := lt_of_block y6; simp at y6_0 y6_1; have H_y6 := Lib.hid y6; clear y6
  go_upto_region 7 with fail
  go_region_held3 (fun w' => w'.cell? ⟨b6, 0, none⟩ = some (.slice a (live L).length c) ∧ w'.cell? ⟨b6, 1, none⟩ = some (.int .i64 L.length))
    (first | exact ⟨y6_0, y6_1⟩ | exact ⟨(Mod.set2 _ _ _ _ _).cell (fun e => hb36 e.symm) y6_0, (Mod.set2 _ _ _ _ _).cell (fun e => hb36 e.symm) y6_1⟩)
    (fail)
  all_goals
    try go_wp2
    obtain ⟨f1, x0, x1⟩ := gfin (w := w) (X := w7) (v0 := .slice a (live L).length c) (v1 := .int .i64 L.length) Y3.out HP7.out (by have := HB3.out; omega) rfl
    have hm : Mod (fun k => k = b3) w7 ((w7.setCell ⟨b3, 0, none⟩ (.slice a (live L).length c)).setCell ⟨b3, 1, none⟩ (.int .i64 L.length)) := Mod.set2 b3 0 1 _ _
    obtain ⟨Y, hY⟩ : ∃ Y, (w7.setCell ⟨b3, 0, none⟩ (.slice a (live L).length c)).setCell ⟨b3, 1, none⟩ (.int .i64 L.length) = Y := ⟨_, rfl⟩
    rw [hY] at f1 x0 x1 hm ⊢
    replace hm := hm.drew
    have x0' : Y.drew.cell? ⟨b3, 0, none⟩ = _ := x0
    have x1' : Y.drew.cell? ⟨b3, 1, none⟩ = _ := x1
    refine bodyPost_ret (v := .tuple #[.pointer (some ⟨d2, 0, none⟩), .agg #[.slice a (live L).length c, .int .i64 L.length], .int .i64 0]) (by simp [results, Tryz.results35, go_sem, x0, x1, x0', x1']) rfl ⟨d2, D2, a, c, rfl, HDD.out.frame hm (fun k hk e => ?_) (fun k _ e cs fz e2 => ?_), owns_mod HROW2.out hm (fun g hg e => ?_), f1.drew, fun k hk => ?_, hfr.out⟩
    · subst e
      rcases HDD.out.types hk Y3.out with e | e | e | e | e <;> cases e
    · subst e; rw [Y3.out] at e2; cases e2
    · subst e
      obtain ⟨cc, e2⟩ := owns_type HROW2.out hg
      rw [Y3.out] at e2; cases e2
    · have := HD2.out k hk; omega
end Go.Proofs.YtapplindfijngaaGreat
