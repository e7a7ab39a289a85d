/- Lemmas and contracts of functions, strung together out of 1 texts. No condition. -/
import Derived.Test.YtapplindfijngaaGreatJPfDictOf26
import Derived.Test.YtapplindfijngaaGreatJPfDictOf21
import Derived.Deep.QuietTactic
import Derived.BigQuiet
/- The reference of layer 10: Of makes the dictionary of a log. Condition: no two of its entries have the same key. -/
namespace Go.Proofs.YtapplindfijngaaGreat
open Go.RowKit Go.Shelf
set_option maxRecDepth 100000

theorem live_take_some {L : List (Option Ent)} {i : Nat} {x : Ent} (hx : L[i]? = some (some x)) : live (L.take (i + 1)) = live (L.take i) ++ [(i, x)] := by
  have hlt := (List.getElem?_eq_some_iff.1 hx).1
  rw [List.take_add_one, hx]
  show liveFrom 0 (L.take i ++ [some x]) = liveFrom 0 (L.take i) ++ [(i, x)]
  rw [liveFrom_append]
  simp only [liveFrom, List.length_take, Nat.zero_add]
  rw [Nat.min_eq_left (by omega)]
theorem live_take_none {L : List (Option Ent)} {i : Nat} (hx : L[i]? = some none) : live (L.take (i + 1)) = live (L.take i) := by
  rw [List.take_add_one, hx]
  show liveFrom 0 (L.take i ++ [none]) = liveFrom 0 (L.take i)
  rw [liveFrom_append]
  simp [liveFrom]
theorem live_split {L : List (Option Ent)} {i : Nat} {x : Ent} (hx : L[i]? = some (some x)) : live L = live (L.take i) ++ (i, x) :: liveFrom (i + 1) (L.drop (i + 1)) := by
  have hlt := (List.getElem?_eq_some_iff.1 hx).1
  have e : live L = liveFrom 0 (L.take (i + 1) ++ L.drop (i + 1)) := by rw [List.take_append_drop]; rfl
  rw [e, liveFrom_append, show liveFrom 0 (L.take (i + 1)) = live (L.take (i + 1)) from rfl, live_take_some hx, List.append_assoc, List.length_take, Nat.zero_add, Nat.min_eq_left (by omega)]
  rfl
structure OfAt (seed : Nat) (same : Bool) (L : List (Option Ent)) (i : Nat) : Prop where
  part : Part seed same L (slotsOf (live (L.take i))) (ofM seed same L (live (L.take i)))
  used : usedN (ofM seed same L (live (L.take i))) = (live (L.take i)).length
theorem OfAt.zero (seed : Nat) (same : Bool) (L : List (Option Ent)) : OfAt seed same L 0 :=
  ⟨(part_new seed same L).keeps' (fun s => by simp [slotsOf, live, liveFrom]), newG_used 1⟩
theorem OfAt.none {seed : Nat} {same : Bool} {L : List (Option Ent)} {i : Nat} (h : OfAt seed same L i) (hx : L[i]? = some none) : OfAt seed same L (i + 1) := by
  refine ⟨?_, ?_⟩ <;> rw [live_take_none hx]
  · exact h.part
  · exact h.used
theorem OfAt.some {seed : Nat} {same : Bool} {L : List (Option Ent)} {i : Nat} {x : Ent} (h : OfAt seed same L i) (hko : KeysOk L) (hlen : L.length ≤ 4194304) (hx : L[i]? = some (some x)) :
    OfAt seed same L (i + 1) ∧ ∃ pl, planI (ofM seed same L (live (L.take i))).length (usedN (ofM seed same L (live (L.take i)))) (tombN (ofM seed same L (live (L.take i)))) = some pl ∧ Pow pl.1 := by
  obtain ⟨h1, h2, _, pl, h4, h5, _⟩ := h.part.put h.used (live_split hx) hlen (fun s hs hk => by
    obtain ⟨⟨s', e⟩, hm, rfl⟩ := List.mem_map.1 hs
    have hg := live_mem hm
    dsimp only at hg hk
    rw [List.getElem?_take] at hg
    split at hg
    · rename_i hlt
      rw [keyL_some hg] at hk
      have := hko _ _ _ _ hg hx hk
      omega
    · cases hg)
  refine ⟨⟨?_, ?_⟩, pl, h4, h5⟩ <;> rw [live_take_some hx]
  · exact h1
  · exact h2
theorem OfAt.full {seed : Nat} {same : Bool} {L : List (Option Ent)} {i : Nat} (h : OfAt seed same L i) : ∀ s ∈ (ofM seed same L (live (L.take i))).flatMap fullS, liveS L s :=
  fun s hs => h.part.sub s ((h.part.holds.mem s).2 ((full_mem h.part.holds.ok s).1 hs))
def rdofPost (w : World) (seed : Nat) (same : Bool) (Q : List RQ) (e : Ending) (w' : World) : Prop :=
  ∃ r' Q', e = .returned (.tuple #[rdV seed same r' Q'.length (8 * (ofM seed same (slotsR (Q.map absQ)) (live (slotsR (Q.map absQ)))).length), .int .i64 0]) ∧ Q'.map absQ = Q.map absQ ∧ RefD w' r' Q' (ofM seed same (slotsR (Q.map absQ)) (live (slotsR (Q.map absQ)))) ∧ Fresh w (.slice r'.aL Q'.length r'.cL) ∧ Pure w w'
/-- What is known while Of runs. -/
structure ROf (w : World) (b b8 seed : Nat) (same : Bool) (aL : Option Addr) (cL : Nat) (aG : Option Addr) (cG : Nat) (Q : List RQ) (r : RA) (n m : Nat) (Q2 : List RQ) (Gs : List Grp) (W : World) : Prop where
  pu : Pure w W
  h5 : W.heap[b]? = some (.cells #[.slice aL n cL, .slice aG n cG] 32 (0, 0))
  h6 : W.heap[b + 1]? = some (.cells #[.int .u64 0, .bool false, .slice none 0 0, .slice none 0 0, .slice none 0 0, .slice none 0 0] 38 (0, 0))
  h8 : W.heap[b8]? = some (rdO seed same r n m)
  row : RefRow W aL cL aG cG Q
  rf : RefD W r Q2 Gs
  len : 8 * Gs.length = m
set_option maxHeartbeats 4000000 in
theorem rdOf_ok {w : World} {aL : Option Addr} {cL : Nat} {aG : Option Addr} {cG : Nat} {Q : List RQ} (h : RefRow w aL cL aG cG Q) (seed : Nat) (same : Bool) (hsd : seed < 18446744073709551616) (hko : KeysOk (slotsR (Q.map absQ))) :
    Calls Tryz.prog 27 #[.int .u64 seed, .bool same, .agg #[.slice aL Q.length cL, .slice aG Q.length cG]] w (rdofPost w seed same Q) := by
  have hlen := h.len
  have hp0 : Pure w ((w.alloc (.cells #[.slice aL Q.length cL, .slice aG Q.length cG] 32)).alloc (.cells #[.int .u64 0, .bool false, .slice none 0 0, .slice none 0 0, .slice none 0 0, .slice none 0 0] 38)) := ((Mod.refl _ w).alloc _).alloc _
  have h5 := heap_keep (o := .cells #[.int .u64 0, .bool false, .slice none 0 0, .slice none 0 0, .slice none 0 0, .slice none 0 0] 38) (heap_new (w := w) (o := .cells #[.slice aL Q.length cL, .slice aG Q.length cG] 32 (0, 0)) rfl)
  have h6 := heap_new (w := w.alloc (.cells #[.slice aL Q.length cL, .slice aG Q.length cG] 32)) (o := .cells #[.int .u64 0, .bool false, .slice none 0 0, .slice none 0 0, .slice none 0 0, .slice none 0 0] 38 (0, 0)) (n := w.heap.size + 1) (by simp)
  have HR := Lib.hid (h.pure hp0)
  have HP := Lib.hid hp0
  have HKO := Lib.hid hko
  obtain ⟨n, hn⟩ : ∃ n, Q.length = n := ⟨_, rfl⟩
  have HLL : Hid ((slotsR (Q.map absQ)).length = n) := Lib.hid (by rw [slotsR_length, List.length_map, hn])
  have HNw := Lib.hid (fun W => rdNew_ok seed same W)
  unfold rNewDPost at HNw
  rw [hn] at h5 h6 HR HP hlen ⊢
  have HN := Lib.hid hn
  have wn : IntKind.i64.wrap (n : Int) = n := IntWalk.i64_in _ (by omega)
  obtain ⟨m0, hm0⟩ : ∃ m, 8 * (newG 1).length = m := ⟨_, rfl⟩
  rw [hm0] at HNw
  have HM0 := Lib.hid hm0
  clear h hp0 hn hko hm0
  go_enter Tryz.func27, Tryz.ntmps27
  go_upto_region 1 with fail
  generalize (w.alloc (.cells #[.slice aL n cL, .slice aG n cG] 32)).alloc (.cells #[.int .u64 0, .bool false, .slice none 0 0, .slice none 0 0, .slice none 0 0, .slice none 0 0] 38) = W1 at *
  obtain ⟨b, hb⟩ : ∃ b, w.heap.size = b := ⟨_, rfl⟩
  rw [hb] at h5 h6 ⊢
  have HB := Lib.hid hb
  clear hb
  go_upto_region 2 with (go_at_call 10; refine Calls.mono (HNw.out _) ?_; rintro e w2 ⟨r, rfl, hrf, haL, hp2⟩)
  have hal : Pure w2 (w2.alloc (rdO seed same r 0 m0)) := (Mod.refl _ w2).alloc _
  have h8 := heap_new (w := w2) (o := rdO seed same r 0 m0) rfl
  have hbs : b + 1 < w2.heap.size := by have := lt_of_block h6; have := hp2.size; omega
  replace h5 := (hp2.trans hal).heap (fun h => h) h5
  replace h6 := (hp2.trans hal).heap (fun h => h) h6
  replace HR := Lib.hid (HR.out.pure (hp2.trans hal))
  replace HP := Lib.hid (HP.out.trans (hp2.trans hal))
  have HX := Lib.hid (hrf.x.pure hal)
  obtain ⟨aL1, cL1, aG1, cG1, aC, cC, aS, cS⟩ := r
  dsimp only at haL
  subst haL
  dsimp only [rdO] at h8 HX ⊢
  clear hp2 hal hrf HNw
  generalize w2.alloc (.cells #[.int .u64 seed, .bool same, .slice none 0 cL1, .slice aG1 0 cG1, .slice aC m0 cC, .slice aS m0 cS] 38) = W2 at *
  generalize w2.heap.size = b8 at *
  have H5 := Lib.hid h5; have H6 := Lib.hid h6; have H8 := Lib.hid h8
  have h5_0 := cell_of_row _ _ 0 _ _ _ h5; have h5_1 := cell_of_row _ _ 1 _ _ _ h5; have h5_f := (fun j => frozen_of_row _ _ j _ _ h5); have h5_l := lt_of_block h5; simp at h5_0 h5_1; have H_h5 := Lib.hid h5; clear h5
  go_upto_region 3 with fail
  go_loopw [9] (fun v9 wr => ∃ i, v9 = .int .i64 (i : Nat) ∧ i ≤ n ∧ Pure W2 wr) (fun v9 _ => n - (intOf v9).toNat)
  case atStart => exact ⟨0, rfl, Nat.zero_le _, Mod.refl _ _⟩
  case round =>
    obtain ⟨i, rfl, hi, hpw⟩ := hrel
    clear h5_0 h5_1 h5_f h5_l
    clear H_h5
    have h5 := hpw.heap (fun h => h) H5.out
    have HRi := Lib.hid (HR.out.pure hpw)
    have HPW := Lib.hid hpw
    clear hpw
    have h5_0 := cell_of_row _ _ 0 _ _ _ h5; have h5_1 := cell_of_row _ _ 1 _ _ _ h5; have h5_f := (fun j => frozen_of_row _ _ j _ _ h5); have h5_l := lt_of_block h5; simp at h5_0 h5_1; have H_h5 := Lib.hid h5; clear h5
    by_cases hlt : i < n
    · have hlt' : (i : Int) < (n : Int) := by omega
      have i0 : (0 : Int) ≤ (i : Int) := by omega
      have wi : IntKind.i64.wrap ((i : Int) + 1) = (i : Int) + 1 := IntWalk.i64_in _ (by omega)
      obtain ⟨q, hq⟩ : ∃ q, Q[i]? = some q := ⟨_, List.getElem?_eq_getElem (by rw [HN.out]; exact hlt)⟩
      obtain ⟨x, v, g⟩ := q
      have hL : (slotsR (Q.map absQ))[i]? = some (if g then none else some x) := by unfold slotsR; rw [List.getElem?_map, List.getElem?_map, hq]; rfl
      have HQ := Lib.hid hq
      obtain ⟨kx, hkx⟩ : ∃ kx, x.key = kx := ⟨_, rfl⟩
      have HKX := Lib.hid hkx; have HL := Lib.hid hL
      clear hkx hL hq
      go_upto_region 6 with fail
      go_loopw [10] (fun v10 wx => ∃ k, v10 = .int .i64 (k : Nat) ∧ k ≤ i ∧ Pure W2 wx) (fun v10 _ => i - (intOf v10).toNat)
      case atStart => exact ⟨0, rfl, Nat.zero_le _, HPW.out⟩
      case round =>
        obtain ⟨k, rfl, hk, hpx⟩ := hrel
        clear h5_0 h5_1 h5_f h5_l
        clear H_h5
        have h5 := hpx.heap (fun h => h) H5.out
        have HRx := Lib.hid (HR.out.pure hpx)
        have HPX := Lib.hid hpx
        clear hpx
        obtain ⟨gL, gG, e1, e2, zk, zg⟩ := HRx.out.ent HQ.out
        subst e1 e2
        dsimp only at zk zg
        rw [HKX.out] at zk
        have h5_0 := cell_of_row _ _ 0 _ _ _ h5; have h5_1 := cell_of_row _ _ 1 _ _ _ h5; have h5_f := (fun j => frozen_of_row _ _ j _ _ h5); have h5_l := lt_of_block h5; simp at h5_0 h5_1; have H_h5 := Lib.hid h5; clear h5
        by_cases hkl : k < i
        · have hkl' : (k : Int) < (i : Int) := by omega
          have k0 : (0 : Int) ≤ (k : Int) := by omega
          have hkn : (k : Int) < (n : Int) := by omega
          have wk : IntKind.i64.wrap ((k : Int) + 1) = (k : Int) + 1 := IntWalk.i64_in _ (by omega)
          obtain ⟨q, hq⟩ : ∃ q, Q[k]? = some q := ⟨_, List.getElem?_eq_getElem (by rw [HN.out]; omega)⟩
          obtain ⟨x2, v2, g2⟩ := q
          have hL : (slotsR (Q.map absQ))[k]? = some (if g2 then none else some x2) := by unfold slotsR; rw [List.getElem?_map, List.getElem?_map, hq]; rfl
          obtain ⟨gL', gG', e1, e2, zk2, zg2⟩ := HRx.out.ent hq
          cases e1; cases e2
          dsimp only at zk2 zg2
          have hne : g = false → g2 = false → ¬ kx = x2.key := fun h1 h2 h3 => by
            have hl := HL.out
            subst h1 h2
            have := HKO.out _ _ _ _ hl hL (by rw [HKX.out, h3])
            omega
          obtain ⟨ky, hky⟩ : ∃ ky, x2.key = ky := ⟨_, rfl⟩
          rw [hky] at zk2 hne
          clear hky hL hq
          cases g with
          | true =>
            clear hne
            go_upto_region 8 with fail
            go_quiet (fail)
            go_wp2
            go_roundw
            case rel => exact ⟨k + 1, by go_num, hkl, HPX.out.drewN nq⟩
            case measure => simp [intOf]; omega
          | false =>
            cases g2 with
            | true =>
              clear hne
              go_upto_region 8 with fail
              go_quiet (fail)
              go_wp2
              go_roundw
              case rel => exact ⟨k + 1, by go_num, hkl, HPX.out.drewN nq⟩
              case measure => simp [intOf]; omega
            | false =>
              have hkk : (kx.toList == ky.toList) = false := by
                rw [ba_list]
                exact Bool.eq_false_iff.2 (fun h => hne rfl rfl ((ba_beq _ _).1 h))
              clear hne
              go_upto_region 8 with fail
              go_quiet (fail)
              go_wp2
              go_roundw
              case rel => exact ⟨k + 1, by go_num, hkl, HPX.out.drewN nq⟩
              case measure => simp [intOf]; omega
        · have : i = k := by omega
          subst this
          go_wp2
          go_roundw
          case rel => exact ⟨i + 1, by go_num, hlt, HPX.out⟩
          case measure => simp [intOf]; omega
    · have hin : n = i := by omega
      subst hin
      clear hi hlt
      have HCp := Lib.hid (ref_LogCopy HRi.out)
      rw [HN.out] at HCp
      unfold refCopyPost at HCp
      clear h5_0 h5_1 h5_f h5_l
      clear H_h5
      have h5 := HPW.out.heap (fun h => h) H5.out
      have h5_0 := cell_of_row _ _ 0 _ _ _ h5; have h5_1 := cell_of_row _ _ 1 _ _ _ h5; have h5_f := (fun j => frozen_of_row _ _ j _ _ h5); have h5_l := lt_of_block h5; simp at h5_0 h5_1; have H_h5 := Lib.hid h5; clear h5
      go_upto_region 11 with (go_at_call 71; refine Calls.mono HCp.out ?_; rintro e w3 ⟨aL2, cL2, aG2, cG2, Q2, rfl, hq2, hr2, hf2, _, hp3⟩; have h8 := (HPW.out.trans hp3).heap (fun h => h) H8.out; have h8_0 := cell_of_row _ _ 0 _ _ _ h8; have h8_1 := cell_of_row _ _ 1 _ _ _ h8; have h8_2 := cell_of_row _ _ 2 _ _ _ h8; have h8_3 := cell_of_row _ _ 3 _ _ _ h8; have h8_4 := cell_of_row _ _ 4 _ _ _ h8; have h8_5 := cell_of_row _ _ 5 _ _ _ h8; have h8_f := (fun j => frozen_of_row _ _ j _ _ h8); have h8_l := lt_of_block h8; simp at h8_0 h8_1 h8_2 h8_3 h8_4 h8_5; have H_h8 := Lib.hid h8; clear h8)
      have hf3 : Fresh w (.slice aL2 Q2.length cL2) := fun g hg => by have := hf2 g hg; have := (HP.out.trans HPW.out).size; omega
      replace hp3 := HPW.out.trans hp3
      have hQ2 : Q2.length = n := by have := congrArg List.length hq2; rw [List.length_map, List.length_map, HN.out] at this; exact this
      rw [hQ2] at hf3 ⊢
      have H5' := Lib.hid (hp3.heap (fun h => h) H5.out)
      have H6' := Lib.hid (hp3.heap (fun h => h) H6.out)
      have h8' := hp3.heap (fun h => h) H8.out
      have hHR := HR.out.pure hp3
      have hHX := HX.out.pure hp3
      have hm1 : Mod (fun k => k = b8) w3 ((w3.setCell ⟨b8, 2, none⟩ (.slice aL2 n cL2)).setCell ⟨b8, 3, none⟩ (.slice aG2 n cG2)) := (Mod.set1 b8 2 _).trans (Mod.set1 b8 3 _)
      have H8'' := Lib.hid (set23 (v2 := .slice aL2 n cL2) (v3 := .slice aG2 n cG2) h8')
      have nb : ∀ i, i = b8 → i < w3.heap.size → ∃ cs T fz, w3.heap[i]? = some (.cells cs T fz) ∧ T ≠ 42 ∧ T ≠ 4 ∧ T ≠ 5 ∧ T ≠ 43 := fun i e _ => ⟨_, _, _, e ▸ h8', by decide, by decide, by decide, by decide⟩
      have HRR : Hid (ROf w b b8 seed same aL cL aG cG Q ⟨aL2, cL2, aG2, cG2, aC, cC, aS, cS⟩ n m0 Q2 (newG 1) ((w3.setCell ⟨b8, 2, none⟩ (.slice aL2 n cL2)).setCell ⟨b8, 3, none⟩ (.slice aG2 n cG2))) :=
        Lib.hid ⟨(HP.out.trans hp3).then hm1 (fun i hi e => by have := HB.out; omega), hm1.heap (by omega) H5'.out, hm1.heap (by omega) H6'.out, H8''.out, hHR.modX hm1 nb, (RefD.mk hr2 hHX : RefD w3 ⟨aL2, cL2, aG2, cG2, aC, cC, aS, cS⟩ Q2 (newG 1)).modX hm1 nb, HM0.out⟩
      have HF2 : Hid (Fresh w (.slice aL2 n cL2)) := Lib.hid hf3
      have HQ2 := Lib.hid hQ2; have HE2 := Lib.hid hq2
      clear h5_0 h5_1 h5_f h5_l
      clear h8_0 h8_1 h8_2 h8_3 h8_4 h8_5 h8_f h8_l
      clear H_h5 H_h8 h8 h6 hp3 hHR hHX hm1 nb h8' H5' H6' H8'' hq2 hQ2 hr2 hf2 hf3 H5 H6 H8 HR HX HP HCp HRi HPW
      generalize ((w3.setCell ⟨b8, 2, none⟩ (.slice aL2 n cL2)).setCell ⟨b8, 3, none⟩ (.slice aG2 n cG2)) = W4 at *
      go_upto_region 12 with fail
      go_loopw [11] (fun v11 wr => ∃ (i : Nat) (aC : Option Addr) (cC : Nat) (aS : Option Addr) (cS m : Nat), v11 = .int .i64 (i : Nat) ∧ i ≤ n ∧ OfAt seed same (slotsR (Q.map absQ)) i ∧ ROf w b b8 seed same aL cL aG cG Q ⟨aL2, cL2, aG2, cG2, aC, cC, aS, cS⟩ n m Q2 (ofM seed same (slotsR (Q.map absQ)) (live ((slotsR (Q.map absQ)).take i))) wr) (fun v11 _ => n - (intOf v11).toNat)
      case atStart => exact ⟨0, aC, cC, aS, cS, m0, rfl, Nat.zero_le _, OfAt.zero _ _ _, HRR.out⟩
      case round =>
        clear HRR HM0
        obtain ⟨i, aC, cC, aS, cS, m, rfl, hi, hoa, hro⟩ := hrel
        have HOA := Lib.hid hoa; have HRO := Lib.hid hro
        have h5 := hro.h5
        have h8 := hro.h8
        have H8 := Lib.hid h8
        dsimp only [rdO] at h8
        clear hoa hro
        by_cases hlt : i < n
        · have hlt' : (i : Int) < (n : Int) := by omega
          have i0 : (0 : Int) ≤ (i : Int) := by omega
          have wi : IntKind.i64.wrap ((i : Int) + 1) = (i : Int) + 1 := IntWalk.i64_in _ (by omega)
          have wu : IntKind.u32.wrap (i : Int) = (i : Int) := by simp [IntKind.wrap, IntKind.signed, IntKind.bits]; omega
          obtain ⟨q, hq⟩ : ∃ q, Q[i]? = some q := ⟨_, List.getElem?_eq_getElem (by rw [HN.out]; exact hlt)⟩
          obtain ⟨x, v, g⟩ := q
          have hL : (slotsR (Q.map absQ))[i]? = some (if g then none else some x) := by unfold slotsR; rw [List.getElem?_map, List.getElem?_map, hq]; rfl
          obtain ⟨gL, gG, e1, e2, _, zg⟩ := HRO.out.row.ent hq
          subst e1 e2
          dsimp only at zg
          have HL := Lib.hid hL
          clear hL hq
          have h5_0 := cell_of_row _ _ 0 _ _ _ h5; have h5_1 := cell_of_row _ _ 1 _ _ _ h5; have h5_f := (fun j => frozen_of_row _ _ j _ _ h5); have h5_l := lt_of_block h5; simp at h5_0 h5_1; have H_h5 := Lib.hid h5; clear h5
          cases g with
          | true =>
            go_wp2
            go_roundw
            case rel => exact ⟨i + 1, aC, cC, aS, cS, m, by go_num, hlt, HOA.out.none HL.out, by rw [live_take_none HL.out]; exact HRO.out⟩
            case measure => simp [intOf]; omega
          | false =>
            have hx : (slotsR (Q.map absQ))[i]? = some (some x) := HL.out
            obtain ⟨hoa2, pl, hpl, hpw⟩ := HOA.out.some HKO.out (by rw [HLL.out]; exact hlen) hx
            have hput := rdput_ok HRO.out.rf seed same hsd hpl hpw (by rw [HE2.out]; exact HOA.out.full) (s := i) (by rw [HE2.out]; exact ⟨x, hx⟩) (by omega)
            rw [HE2.out, HQ2.out, HRO.out.len, ← ofM_snoc seed same _ _ (i, x), ← live_take_some hx] at hput
            unfold rddoPost at hput
            rw [HQ2.out] at hput
            obtain ⟨G2, hG2⟩ : ∃ G2, ofM seed same (slotsR (Q.map absQ)) (live ((slotsR (Q.map absQ)).take (i + 1))) = G2 := ⟨_, rfl⟩
            rw [hG2] at hput
            obtain ⟨m2, hm2⟩ : ∃ m2, 8 * G2.length = m2 := ⟨_, rfl⟩
            rw [hm2] at hput
            have HPut := Lib.hid hput
            have HOA2 := Lib.hid hoa2; have HG2 := Lib.hid hG2; have HM2 := Lib.hid hm2
            clear hx hoa2 hpl hpw hput hG2 hm2 pl HOA
            have h8_0 := cell_of_row _ _ 0 _ _ _ h8; have h8_1 := cell_of_row _ _ 1 _ _ _ h8; have h8_2 := cell_of_row _ _ 2 _ _ _ h8; have h8_3 := cell_of_row _ _ 3 _ _ _ h8; have h8_4 := cell_of_row _ _ 4 _ _ _ h8; have h8_5 := cell_of_row _ _ 5 _ _ _ h8; have h8_f := (fun j => frozen_of_row _ _ j _ _ h8); have h8_l := lt_of_block h8; simp at h8_0 h8_1 h8_2 h8_3 h8_4 h8_5; have H_h8 := Lib.hid h8; clear h8
            go_upto_region 13 with (go_at_call 55; refine Calls.mono HPut.out ?_; rintro e w5 ⟨aC2, cC2, aS2, cS2, rfl, hri, hp5⟩; clear h8_0 h8_1 h8_2 h8_3 h8_4 h8_5 h8_f h8_l; clear H_h8; have h8 := hp5.heap (fun h => h) H8.out; dsimp only [rdO] at h8; have h8_0 := cell_of_row _ _ 0 _ _ _ h8; have h8_1 := cell_of_row _ _ 1 _ _ _ h8; have h8_2 := cell_of_row _ _ 2 _ _ _ h8; have h8_3 := cell_of_row _ _ 3 _ _ _ h8; have h8_4 := cell_of_row _ _ 4 _ _ _ h8; have h8_5 := cell_of_row _ _ 5 _ _ _ h8; have h8_f := (fun j => frozen_of_row _ _ j _ _ h8); have h8_l := lt_of_block h8; simp at h8_0 h8_1 h8_2 h8_3 h8_4 h8_5; have H_h8 := Lib.hid h8; clear h8)
            have h8' := hp5.heap (fun h => h) H8.out
            obtain ⟨X, hX⟩ : ∃ X, (((((w5.setCell ⟨b8, 0, none⟩ (.int .u64 seed)).setCell ⟨b8, 1, none⟩ (.bool same)).setCell ⟨b8, 2, none⟩ (.slice aL2 n cL2)).setCell ⟨b8, 3, none⟩ (.slice aG2 n cG2)).setCell ⟨b8, 4, none⟩ (.slice aC2 m2 cC2)).setCell ⟨b8, 5, none⟩ (.slice aS2 m2 cS2) = X := ⟨_, rfl⟩
            obtain ⟨g1, g2⟩ := fin6 h8' hX
            have nb : ∀ i, i = b8 → i < w5.heap.size → ∃ cs T fz, w5.heap[i]? = some (.cells cs T fz) ∧ T ≠ 42 ∧ T ≠ 4 ∧ T ≠ 5 ∧ T ≠ 43 := fun i e _ => ⟨_, _, _, e ▸ h8', by decide, by decide, by decide, by decide⟩
            have hro := HRO.out
            have HN8 : Hid (ROf w b b8 seed same (some ⟨gL, 0, none⟩) cL (some ⟨gG, 0, none⟩) cG Q ⟨aL2, cL2, aG2, cG2, aC2, cC2, aS2, cS2⟩ n m2 Q2 G2 X) := Lib.hid ⟨(hro.pu.trans hp5).then g1 (fun i hi e => by have := HB.out; omega), g1.heap (by omega) (hp5.heap (fun h => h) hro.h5), g1.heap (by omega) (hp5.heap (fun h => h) hro.h6), g2, (hro.row.pure hp5).modX g1 nb, (RefD.mk (hro.rf.l.pure hp5) hri : RefD w5 ⟨aL2, cL2, aG2, cG2, aC2, cC2, aS2, cS2⟩ Q2 G2).modX g1 nb, HM2.out⟩
            have H8' := Lib.hid h8'
            clear hro nb g1 g2 hri h8' H8
            rw [hX]
            go_wp2
            go_roundw
            case rel => exact ⟨i + 1, aC2, cC2, aS2, cS2, m2, by go_num, hlt, HOA2.out, by rw [HG2.out]; exact HN8.out⟩
            case measure => simp [intOf]; omega
        · have hin : n = i := by omega
          subst hin
          have htk : (slotsR (Q.map absQ)).take n = slotsR (Q.map absQ) := List.take_of_length_le (by rw [HLL.out]; omega)
          have hro := HRO.out
          rw [htk] at hro
          have h6 := hro.h6
          replace HRO := Lib.hid hro
          clear htk hro hi hlt HOA
          have h5_0 := cell_of_row _ _ 0 _ _ _ h5; have h5_1 := cell_of_row _ _ 1 _ _ _ h5; have h5_f := (fun j => frozen_of_row _ _ j _ _ h5); have h5_l := lt_of_block h5; simp at h5_0 h5_1; have H_h5 := Lib.hid h5; clear h5
          have h6_0 := cell_of_row _ _ 0 _ _ _ h6; have h6_1 := cell_of_row _ _ 1 _ _ _ h6; have h6_2 := cell_of_row _ _ 2 _ _ _ h6; have h6_3 := cell_of_row _ _ 3 _ _ _ h6; have h6_4 := cell_of_row _ _ 4 _ _ _ h6; have h6_5 := cell_of_row _ _ 5 _ _ _ h6; have h6_f := (fun j => frozen_of_row _ _ j _ _ h6); have h6_l := lt_of_block h6; simp at h6_0 h6_1 h6_2 h6_3 h6_4 h6_5; have H_h6 := Lib.hid h6; clear h6
          have h8_0 := cell_of_row _ _ 0 _ _ _ h8; have h8_1 := cell_of_row _ _ 1 _ _ _ h8; have h8_2 := cell_of_row _ _ 2 _ _ _ h8; have h8_3 := cell_of_row _ _ 3 _ _ _ h8; have h8_4 := cell_of_row _ _ 4 _ _ _ h8; have h8_5 := cell_of_row _ _ 5 _ _ _ h8; have h8_f := (fun j => frozen_of_row _ _ j _ _ h8); have h8_l := lt_of_block h8; simp at h8_0 h8_1 h8_2 h8_3 h8_4 h8_5; have H_h8 := Lib.hid h8; clear h8
          go_wp2
          obtain ⟨Y, hY⟩ : ∃ Y, (((((wr.setCell ⟨b + 1, 0, none⟩ (.int .u64 seed)).setCell ⟨b + 1, 1, none⟩ (.bool same)).setCell ⟨b + 1, 2, none⟩ (.slice aL2 n cL2)).setCell ⟨b + 1, 3, none⟩ (.slice aG2 n cG2)).setCell ⟨b + 1, 4, none⟩ (.slice aC m cC)).setCell ⟨b + 1, 5, none⟩ (.slice aS m cS) = Y := ⟨_, rfl⟩
          obtain ⟨g1, g2⟩ := fin6 H_h6.out hY
          rw [hY]
          have x0 := cell_of_row _ _ 0 _ _ _ g2; have x1 := cell_of_row _ _ 1 _ _ _ g2; have x2 := cell_of_row _ _ 2 _ _ _ g2; have x3 := cell_of_row _ _ 3 _ _ _ g2; have x4 := cell_of_row _ _ 4 _ _ _ g2; have x5 := cell_of_row _ _ 5 _ _ _ g2
          simp at x0 x1 x2 x3 x4 x5
          refine bodyPost_ret (v := .tuple #[rdV seed same ⟨aL2, cL2, aG2, cG2, aC, cC, aS, cS⟩ n m, .int .i64 0]) (by simp [results, Tryz.results27, go_sem, x0, x1, x2, x3, x4, x5]) rfl ⟨⟨aL2, cL2, aG2, cG2, aC, cC, aS, cS⟩, Q2, by rw [HQ2.out, HRO.out.len], HE2.out, HRO.out.rf.modX g1 (fun i e _ => ⟨_, _, _, e ▸ H_h6.out, by decide, by decide, by decide, by decide⟩), by rw [HQ2.out]; exact HF2.out, HRO.out.pu.then g1 (fun i hi e => by have := HB.out; omega)⟩
end Go.Proofs.YtapplindfijngaaGreat
