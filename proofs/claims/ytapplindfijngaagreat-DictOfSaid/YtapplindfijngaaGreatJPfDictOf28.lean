/- Lemmas and contracts of functions, strung together out of 4 texts. No condition. -/
import Derived.Test.YtapplindfijngaaGreatJPfDictOf27
import Derived.Test.YtapplindfijngaaGreatJPfDictOf7
import Derived.Test.YtapplindfijngaaGreatJPfDictOf26
/- The reference of layer 10: Of says that a key is there twice. Condition: it is. -/
namespace Go.Proofs.YtapplindfijngaaGreat
open Go.RowKit Go.Shelf
set_option maxRecDepth 100000

/-- No two of the first i entries have one key. -/
def KOk (L : List (Option Ent)) (i : Nat) : Prop := ∀ (s t : Nat) (e f : Ent), s < i → t < i → L[s]? = some (some e) → L[t]? = some (some f) → e.key = f.key → s = t
/-- Entry i has the key of none of the first k. -/
def KIn (L : List (Option Ent)) (i k : Nat) : Prop := ∀ (t : Nat) (e f : Ent), t < k → L[i]? = some (some e) → L[t]? = some (some f) → ¬ e.key = f.key
theorem KOk.zero (L : List (Option Ent)) : KOk L 0 := fun s _ _ _ h => by omega
theorem KIn.zero (L : List (Option Ent)) (i : Nat) : KIn L i 0 := fun t _ _ h => by omega
theorem KIn.succ {L : List (Option Ent)} {i k : Nat} (h : KIn L i k) (hk : ∀ e f, L[i]? = some (some e) → L[k]? = some (some f) → ¬ e.key = f.key) : KIn L i (k + 1) := fun t e f ht he hf => by
  rcases Nat.lt_or_ge t k with h1 | h1
  · exact h t e f h1 he hf
  · have : t = k := by omega
    subst this
    exact hk e f he hf
theorem KOk.succ {L : List (Option Ent)} {i : Nat} (h : KOk L i) (hi : KIn L i i) : KOk L (i + 1) := fun s t e f hs ht he hf hk => by
  rcases Nat.lt_or_ge s i with h1 | h1
  · rcases Nat.lt_or_ge t i with h2 | h2
    · exact h s t e f h1 h2 he hf hk
    · have : t = i := by omega
      subst this
      exact absurd hk.symm (hi s f e h1 hf he)
  · have : s = i := by omega
    subst this
    rcases Nat.lt_or_ge t s with h2 | h2
    · exact absurd hk (hi t e f h2 he hf)
    · omega
theorem KOk.all {L : List (Option Ent)} {n : Nat} (h : KOk L n) (hn : L.length = n) : KeysOk L := fun s t e f he hf hk => h s t e f (by have := (List.getElem?_eq_some_iff.1 he).1; omega) (by have := (List.getElem?_eq_some_iff.1 hf).1; omega) he hf hk
def rdbusyPost (w : World) (e : Ending) (w' : World) : Prop := e = .returned (.tuple #[.agg #[.int .u64 0, .bool false, .slice none 0 0, .slice none 0 0, .slice none 0 0, .slice none 0 0], .int .i64 11]) ∧ Pure w w'
set_option maxHeartbeats 4000000 in
theorem rdOf_busy {w : World} {aL : Option Addr} {cL : Nat} {aG : Option Addr} {cG : Nat} {Q : List RQ} (h : RefRow w aL cL aG cG Q) (seed : Nat) (same : Bool) (hsd : seed < 18446744073709551616) (hko : ¬ KeysOk (slotsR (Q.map absQ))) :
    Calls Tryz.prog 27 #[.int .u64 seed, .bool same, .agg #[.slice aL Q.length cL, .slice aG Q.length cG]] w (rdbusyPost w) := by
  unfold rdbusyPost
  have hlen := h.len
  have hp0 : Pure w ((w.alloc (.cells #[.slice aL Q.length cL, .slice aG Q.length cG] 32)).alloc (.cells #[.int .u64 0, .bool false, .slice none 0 0, .slice none 0 0, .slice none 0 0, .slice none 0 0] 38)) := ((Mod.refl _ w).alloc _).alloc _
  have h5 := heap_keep (o := .cells #[.int .u64 0, .bool false, .slice none 0 0, .slice none 0 0, .slice none 0 0, .slice none 0 0] 38) (heap_new (w := w) (o := .cells #[.slice aL Q.length cL, .slice aG Q.length cG] 32 (0, 0)) rfl)
  have h6 := heap_new (w := w.alloc (.cells #[.slice aL Q.length cL, .slice aG Q.length cG] 32)) (o := .cells #[.int .u64 0, .bool false, .slice none 0 0, .slice none 0 0, .slice none 0 0, .slice none 0 0] 38 (0, 0)) (n := w.heap.size + 1) (by simp)
  have HR := Lib.hid (h.pure hp0)
  have HP := Lib.hid hp0
  have HKO := Lib.hid hko
  obtain ⟨n, hn⟩ : ∃ n, Q.length = n := ⟨_, rfl⟩
  have HLL : Hid ((slotsR (Q.map absQ)).length = n) := Lib.hid (by rw [slotsR_length, List.length_map, hn])
  have HNw := Lib.hid (fun W => rdNew_ok seed same W)
  unfold rNewDPost at HNw
  rw [hn] at h5 h6 HR HP hlen ⊢
  have HN := Lib.hid hn
  have wn : IntKind.i64.wrap (n : Int) = n := IntWalk.i64_in _ (by omega)
  obtain ⟨m0, hm0⟩ : ∃ m, 8 * (newG 1).length = m := ⟨_, rfl⟩
  rw [hm0] at HNw
  have HM0 := Lib.hid hm0
  clear h hp0 hn hko hm0
  go_enter Tryz.func27, Tryz.ntmps27
  go_upto_region 1 with fail
  generalize (w.alloc (.cells #[.slice aL n cL, .slice aG n cG] 32)).alloc (.cells #[.int .u64 0, .bool false, .slice none 0 0, .slice none 0 0, .slice none 0 0, .slice none 0 0] 38) = W1 at *
  obtain ⟨b, hb⟩ : ∃ b, w.heap.size = b := ⟨_, rfl⟩
  rw [hb] at h5 h6 ⊢
  have HB := Lib.hid hb
  clear hb
  go_upto_region 2 with (go_at_call 10; refine Calls.mono (HNw.out _) ?_; rintro e w2 ⟨r, rfl, hrf, haL, hp2⟩)
  have hal : Pure w2 (w2.alloc (rdO seed same r 0 m0)) := (Mod.refl _ w2).alloc _
  have h8 := heap_new (w := w2) (o := rdO seed same r 0 m0) rfl
  have hbs : b + 1 < w2.heap.size := by have := lt_of_block h6; have := hp2.size; omega
  replace h5 := (hp2.trans hal).heap (fun h => h) h5
  replace h6 := (hp2.trans hal).heap (fun h => h) h6
  replace HR := Lib.hid (HR.out.pure (hp2.trans hal))
  replace HP := Lib.hid (HP.out.trans (hp2.trans hal))
  have HX := Lib.hid (hrf.x.pure hal)
  obtain ⟨aL1, cL1, aG1, cG1, aC, cC, aS, cS⟩ := r
  dsimp only at haL
  subst haL
  dsimp only [rdO] at h8 HX ⊢
  clear hp2 hal hrf HNw
  generalize w2.alloc (.cells #[.int .u64 seed, .bool same, .slice none 0 cL1, .slice aG1 0 cG1, .slice aC m0 cC, .slice aS m0 cS] 38) = W2 at *
  generalize w2.heap.size = b8 at *
  have H5 := Lib.hid h5; have H6 := Lib.hid h6; have H8 := Lib.hid h8
  have h5_0 := cell_of_row _ _ 0 _ _ _ h5; have h5_1 := cell_of_row _ _ 1 _ _ _ h5; have h5_f := (fun j => frozen_of_row _ _ j _ _ h5); have h5_l := lt_of_block h5; simp at h5_0 h5_1; have H_h5 := Lib.hid h5; clear h5
  go_upto_region 3 with fail
  go_loopw [9] (fun v9 wr => ∃ i, v9 = .int .i64 (i : Nat) ∧ i ≤ n ∧ KOk (slotsR (Q.map absQ)) i ∧ Pure W2 wr) (fun v9 _ => n - (intOf v9).toNat)
  case atStart => exact ⟨0, rfl, Nat.zero_le _, KOk.zero _, Mod.refl _ _⟩
  case round =>
    obtain ⟨i, rfl, hi, hok, hpw⟩ := hrel
    have HOK := Lib.hid hok
    clear hok
    clear h5_0 h5_1 h5_f h5_l
    clear H_h5
    have h5 := hpw.heap (fun h => h) H5.out
    have HRi := Lib.hid (HR.out.pure hpw)
    have HPW := Lib.hid hpw
    clear hpw
    have h5_0 := cell_of_row _ _ 0 _ _ _ h5; have h5_1 := cell_of_row _ _ 1 _ _ _ h5; have h5_f := (fun j => frozen_of_row _ _ j _ _ h5); have h5_l := lt_of_block h5; simp at h5_0 h5_1; have H_h5 := Lib.hid h5; clear h5
    by_cases hlt : i < n
    · have hlt' : (i : Int) < (n : Int) := by omega
      have i0 : (0 : Int) ≤ (i : Int) := by omega
      have wi : IntKind.i64.wrap ((i : Int) + 1) = (i : Int) + 1 := IntWalk.i64_in _ (by omega)
      obtain ⟨q, hq⟩ : ∃ q, Q[i]? = some q := ⟨_, List.getElem?_eq_getElem (by rw [HN.out]; exact hlt)⟩
      obtain ⟨x, v, g⟩ := q
      have hL : (slotsR (Q.map absQ))[i]? = some (if g then none else some x) := by unfold slotsR; rw [List.getElem?_map, List.getElem?_map, hq]; rfl
      have HQ := Lib.hid hq
      obtain ⟨kx, hkx⟩ : ∃ kx, x.key = kx := ⟨_, rfl⟩
      have HKX := Lib.hid hkx; have HL := Lib.hid hL
      clear hkx hL hq
      go_upto_region 6 with fail
      go_loopw [10] (fun v10 wx => ∃ k, v10 = .int .i64 (k : Nat) ∧ k ≤ i ∧ KIn (slotsR (Q.map absQ)) i k ∧ Pure W2 wx) (fun v10 _ => i - (intOf v10).toNat)
      case atStart => exact ⟨0, rfl, Nat.zero_le _, KIn.zero _ _, HPW.out⟩
      case round =>
        obtain ⟨k, rfl, hk, hik, hpx⟩ := hrel
        have HIK := Lib.hid hik
        clear hik
        clear h5_0 h5_1 h5_f h5_l
        clear H_h5
        have h5 := hpx.heap (fun h => h) H5.out
        have HRx := Lib.hid (HR.out.pure hpx)
        have HPX := Lib.hid hpx
        clear hpx
        obtain ⟨gL, gG, e1, e2, zk, zg⟩ := HRx.out.ent HQ.out
        subst e1 e2
        dsimp only at zk zg
        rw [HKX.out] at zk
        have h5_0 := cell_of_row _ _ 0 _ _ _ h5; have h5_1 := cell_of_row _ _ 1 _ _ _ h5; have h5_f := (fun j => frozen_of_row _ _ j _ _ h5); have h5_l := lt_of_block h5; simp at h5_0 h5_1; have H_h5 := Lib.hid h5; clear h5
        by_cases hkl : k < i
        · have hkl' : (k : Int) < (i : Int) := by omega
          have k0 : (0 : Int) ≤ (k : Int) := by omega
          have hkn : (k : Int) < (n : Int) := by omega
          have wk : IntKind.i64.wrap ((k : Int) + 1) = (k : Int) + 1 := IntWalk.i64_in _ (by omega)
          obtain ⟨q, hq⟩ : ∃ q, Q[k]? = some q := ⟨_, List.getElem?_eq_getElem (by rw [HN.out]; omega)⟩
          obtain ⟨x2, v2, g2⟩ := q
          have hL : (slotsR (Q.map absQ))[k]? = some (if g2 then none else some x2) := by unfold slotsR; rw [List.getElem?_map, List.getElem?_map, hq]; rfl
          obtain ⟨gL', gG', e1, e2, zk2, zg2⟩ := HRx.out.ent hq
          cases e1; cases e2
          dsimp only at zk2 zg2
          have hnx : (g = false → g2 = false → ¬ x.key = x2.key) → KIn (slotsR (Q.map absQ)) i (k + 1) := fun h => HIK.out.succ (fun e f he hf hk => by
            rw [HL.out] at he
            rw [hL] at hf
            cases g
            · cases g2
              · cases he; cases hf; exact h rfl rfl hk
              · cases hf
            · cases he)
          have hbad : g = false → g2 = false → x.key = x2.key → ¬ KeysOk (slotsR (Q.map absQ)) → True := fun _ _ _ _ => trivial
          obtain ⟨ky, hky⟩ : ∃ ky, x2.key = ky := ⟨_, rfl⟩
          rw [hky, HKX.out] at hnx
          rw [hky] at zk2
          have HNX := Lib.hid hnx
          clear hky hL hq hnx hbad
          cases g with
          | true =>
            go_upto_region 8 with fail
            go_quiet (fail)
            go_wp2
            go_roundw
            case rel => exact ⟨k + 1, by go_num, hkl, HNX.out (fun h => by cases h), HPX.out.drewN nq⟩
            case measure => simp [intOf]; omega
          | false =>
            cases g2 with
            | true =>
              go_upto_region 8 with fail
              go_quiet (fail)
              go_wp2
              go_roundw
              case rel => exact ⟨k + 1, by go_num, hkl, HNX.out (fun _ h => by cases h), HPX.out.drewN nq⟩
              case measure => simp [intOf]; omega
            | false =>
              by_cases hkk0 : kx = ky
              · subst hkk0
                have hkk : (kx.toList == kx.toList) = true := by simp
                clear HNX
                go_upto_region 8 with fail
                go_quiet (fail)
                have H6x := Lib.hid ((HPX.out.drewN nq).heap (fun h => h) H6.out)
                have HPq := Lib.hid (HP.out.trans (HPX.out.drewN nq))
                generalize wr.drewN nq = W9 at *
                have h6 := H6x.out
                have h6_0 := cell_of_row _ _ 0 _ _ _ h6; have h6_1 := cell_of_row _ _ 1 _ _ _ h6; have h6_2 := cell_of_row _ _ 2 _ _ _ h6; have h6_3 := cell_of_row _ _ 3 _ _ _ h6; have h6_4 := cell_of_row _ _ 4 _ _ _ h6; have h6_5 := cell_of_row _ _ 5 _ _ _ h6; have h6_f := (fun j => frozen_of_row _ _ j _ _ h6); have h6_l := lt_of_block h6; simp at h6_0 h6_1 h6_2 h6_3 h6_4 h6_5; have H_h6 := Lib.hid h6; clear h6
                go_wp2
                obtain ⟨Y, hY⟩ : ∃ Y, (((((W9.setCell ⟨b + 1, 0, none⟩ (.int .u64 0)).setCell ⟨b + 1, 1, none⟩ (.bool false)).setCell ⟨b + 1, 2, none⟩ (.slice none 0 0)).setCell ⟨b + 1, 3, none⟩ (.slice none 0 0)).setCell ⟨b + 1, 4, none⟩ (.slice none 0 0)).setCell ⟨b + 1, 5, none⟩ (.slice none 0 0) = Y := ⟨_, rfl⟩
                obtain ⟨g1, g2⟩ := fin6 H6x.out hY
                rw [hY]
                have x0 := cell_of_row _ _ 0 _ _ _ g2; have x1 := cell_of_row _ _ 1 _ _ _ g2; have x2 := cell_of_row _ _ 2 _ _ _ g2; have x3 := cell_of_row _ _ 3 _ _ _ g2; have x4 := cell_of_row _ _ 4 _ _ _ g2; have x5 := cell_of_row _ _ 5 _ _ _ g2
                simp at x0 x1 x2 x3 x4 x5
                exact bodyPost_ret (v := .tuple #[.agg #[.int .u64 0, .bool false, .slice none 0 0, .slice none 0 0, .slice none 0 0, .slice none 0 0], .int .i64 11]) (by simp [results, Tryz.results27, go_sem, x0, x1, x2, x3, x4, x5]) rfl ⟨rfl, HPq.out.then g1 (fun i hi e => by have := HB.out; omega)⟩
              · have hkk : (kx.toList == ky.toList) = false := by
                  rw [ba_list]
                  exact Bool.eq_false_iff.2 (fun h => hkk0 ((ba_beq _ _).1 h))
                go_upto_region 8 with fail
                go_quiet (fail)
                go_wp2
                go_roundw
                case rel => exact ⟨k + 1, by go_num, hkl, HNX.out (fun _ _ => hkk0), HPX.out.drewN nq⟩
                case measure => simp [intOf]; omega
        · have : i = k := by omega
          subst this
          go_wp2
          go_roundw
          case rel => exact ⟨i + 1, by go_num, hlt, HOK.out.succ HIK.out, HPX.out⟩
          case measure => simp [intOf]; omega
    · have hin : n = i := by omega
      subst hin
      exact absurd (HOK.out.all HLL.out) HKO.out
end Go.Proofs.YtapplindfijngaaGreat

/- The reference of layer 9: Slots; law10.spoil. Conditions: the rows lie in memory of their own. -/
namespace Go.Proofs.YtapplindfijngaaGreat
open Go.RowKit Go.Shelf
set_option maxRecDepth 100000

theorem olds_take_some {L : List (Option Ent)} {i : Nat} {x : Ent} (hx : L[i]? = some (some x)) : olds (L.take (i + 1)) = olds (L.take i) ++ [i] := by
  unfold olds
  rw [live_take_some hx, List.map_append]
  rfl
theorem olds_take_none {L : List (Option Ent)} {i : Nat} (hx : L[i]? = some none) : olds (L.take (i + 1)) = olds (L.take i) := by
  unfold olds
  rw [live_take_none hx]
theorem u32s_append (a b : List Nat) : u32s (a ++ b) = u32s a ++ u32s b := by simp [u32s]
set_option maxHeartbeats 1000000 in
theorem ref_Slots {w : World} {aL : Option Addr} {cL : Nat} {aG : Option Addr} {cG : Nat} {Q : List RQ} (h : RefRow w aL cL aG cG Q) (n : Nat) (hn : Q.length = n) (L : List (Option Ent)) (hL : slotsR (Q.map absQ) = L) (j : Nat) (hj : (olds L).length = j) :
    Calls Tryz.prog 77 #[.agg #[.slice aL n cL, .slice aG n cG]] w fun e w' => ∃ a c, e = .returned (.slice a j c) ∧ U32Row w' a c (olds L) ∧ Fresh w (.slice a j c) ∧ Pure w w' := by
  have hlen := h.len
  rw [hn] at hlen
  have hp0 : Pure w (w.alloc (.cells #[.slice aL n cL, .slice aG n cG] 32)) := (Mod.refl _ w).alloc _
  have h1 := heap_new (w := w) (o := .cells #[.slice aL n cL, .slice aG n cG] 32 (0, 0)) rfl
  have HR := Lib.hid (h.pure hp0); have HP := Lib.hid hp0; have HL := Lib.hid hL; have HN := Lib.hid hn; have HJ := Lib.hid hj
  have HLL : Hid (L.length = n) := Lib.hid (by rw [← hL, slotsR_length, List.length_map, hn])
  clear h hp0 hL hn hj
  go_enter Tryz.func77, Tryz.ntmps77
  go_upto_region 1 with fail
  generalize w.alloc (.cells #[.slice aL n cL, .slice aG n cG] 32) = W1 at *
  obtain ⟨b, hb⟩ : ∃ b, w.heap.size = b := ⟨_, rfl⟩
  rw [hb] at h1 ⊢
  have HB := Lib.hid hb
  clear hb
  have H1 := Lib.hid h1
  clear h1
  go_upto_region 3 with fail
  obtain ⟨i0, hi, iz0, iz1, iz2⟩ := info_parts info_u32
  go_loopw [3, 4] (fun v3 v4 wr => ∃ k a c, v4 = .int .i64 (k : Nat) ∧ k ≤ n ∧ v3 = .slice a (olds (L.take k)).length c ∧ U32Row wr a c (olds (L.take k)) ∧ Pure W1 wr ∧ Fresh W1 (.slice a (olds (L.take k)).length c)) (fun _ v4 _ => n - (intOf v4).toNat)
  case atStart => exact ⟨0, none, 0, rfl, Nat.zero_le _, rfl, World.ownsRow_nil _ _ _ _, Mod.refl _ _, fun g hg => by cases hg⟩
  case round =>
    obtain ⟨k, a, c, rfl, hk, rfl, hrow, hpu, hfr⟩ := hrel
    have h1 := hpu.heap (fun h => h) H1.out
    have HRw := Lib.hid (HR.out.pure hpu)
    have HRow := Lib.hid hrow; have HPU := Lib.hid hpu; have HFR := Lib.hid hfr
    clear hrow hpu hfr
    have h1_0 := cell_of_row _ _ 0 _ _ _ h1; have h1_1 := cell_of_row _ _ 1 _ _ _ h1; have h1_f := (fun j => frozen_of_row _ _ j _ _ h1); have h1_l := lt_of_block h1; simp at h1_0 h1_1; have H_h1 := Lib.hid h1; clear h1
    by_cases hlt : k < n
    · have hlt' : (k : Int) < (n : Int) := by omega
      have k0 : (0 : Int) ≤ (k : Int) := by omega
      have wi : IntKind.i64.wrap ((k : Int) + 1) = (k : Int) + 1 := IntWalk.i64_in _ (by omega)
      have wu : IntKind.u32.wrap (k : Int) = (k : Int) := by simp [IntKind.wrap, IntKind.signed, IntKind.bits]; omega
      obtain ⟨q, hq⟩ : ∃ q, Q[k]? = some q := ⟨_, List.getElem?_eq_getElem (by rw [HN.out]; exact hlt)⟩
      obtain ⟨x, v, g⟩ := q
      have hLk : L[k]? = some (if g then none else some x) := by rw [← HL.out]; unfold slotsR; rw [List.getElem?_map, List.getElem?_map, hq]; rfl
      obtain ⟨gL, gG, e1, e2, _, zg⟩ := HRw.out.ent hq
      subst e1 e2
      dsimp only at zg
      have HLK := Lib.hid hLk
      clear hLk hq
      cases g with
      | true =>
        have hol : olds (L.take (k + 1)) = olds (L.take k) := olds_take_none HLK.out
        have HOL := Lib.hid hol
        clear hol
        go_wp2
        go_roundw
        case rel => exact ⟨k + 1, a, c, by go_num, hlt, by rw [HOL.out], by rw [HOL.out]; exact HRow.out, HPU.out, by rw [HOL.out]; exact HFR.out⟩
        case measure => simp [intOf]; omega
      | false =>
        have hol : olds (L.take (k + 1)) = olds (L.take k) ++ [k] := olds_take_some HLK.out
        have HOL := Lib.hid hol
        clear hol
        obtain ⟨xs, hxs⟩ : ∃ xs, olds (L.take k) = xs := ⟨_, rfl⟩
        have hxl : xs.length ≤ n := by rw [← hxs, olds_length]; have := live_length (L.take k); rw [List.length_take] at this; omega
        rw [hxs] at HRow HFR HOL ⊢
        have HXS := Lib.hid hxs
        clear hxs
        obtain ⟨l, hl⟩ : ∃ l, xs.length = l := ⟨_, rfl⟩
        rw [hl] at hxl
        have hrr : wr.ownsRow 0 43 1 (.slice a l c) l (u32s xs) := by rw [← hl]; exact HRow.out
        have HRR := Lib.hid hrr
        rw [hl] at HFR ⊢
        have HLe := Lib.hid hl
        clear hrr hl
        go_wp2_with (at_builtin; refine wpList_append_read _ rfl _ _ 34 rfl 43 i0 _ 1 4 Tryz.underlying34 hi iz0 iz1 iz2 rfl (by decide) (.slice a l c) l _ rfl (owns_mod HRR.out ((Mod.refl (fun _ => False) wr).alloc _) (fun _ _ h => h)) _ [.int .u32 (k : Nat)] 1 rfl (ReadAt.of_block 1 1 1 (heap_new rfl) (by rfl) (by simp [Value.oneCell'])) rfl (by unfold maxLen; omega) (by omega) ?_; intro a7 c7 w5 hr7 hg7 hb7)
        have hpw : Pure W1 w5 := (HPU.out.alloc _).then (Mod.of_grown (S := fun k' => (Value.slice a l c).ownBlock = some k') hg7 (fun k e _ => e)) (fun k hk e => by have := HFR.out k e; omega)
        have hfw : ∀ k, (Value.slice a7 (l + 1) c7).ownBlock = some k → W1.heap.size ≤ k := fun k hk => by
          rcases hb7 with e | e
          · exact HFR.out k (e ▸ hk)
          · rw [e] at hk; cases hk; exact (HPU.out.alloc _).size
        have HPW := Lib.hid hpw; have HFW := Lib.hid hfw; have HR7 := Lib.hid hr7
        clear hpw hfw hr7 hg7 hb7
        go_roundw
        case rel => exact ⟨k + 1, a7, c7, by go_num, hlt, by rw [HOL.out, List.length_append, HLe.out]; rfl, by unfold U32Row; rw [HOL.out, List.length_append, HLe.out, u32s_append]; exact HR7.out, HPW.out, by rw [HOL.out, List.length_append, HLe.out]; exact HFW.out⟩
        case measure => simp [intOf]; omega
    · have e : n = k := by omega
      subst e
      have htk : L.take n = L := List.take_of_length_le (by rw [HLL.out]; omega)
      rw [htk] at HRow HFR ⊢
      rw [HJ.out] at HFR ⊢
      clear hk hlt
      go_wp2
      go_ret
      exact ⟨a, c, rfl, HRow.out, fun g hg => by have := HFR.out g hg; have := HP.out.size; omega, HP.out.trans HPU.out⟩
end Go.Proofs.YtapplindfijngaaGreat

/- law10.spoil: it changes the bytes of a value that has a block of its own. Condition: the value has one. -/
namespace Go.Proofs.YtapplindfijngaaGreat
open Go.RowKit Go.Shelf
set_option maxRecDepth 100000

theorem bytesOf_set (bs : List UInt8) (j : Nat) (y : UInt8) : bytesOf (bs.set j y) = (bytesOf bs).set j (.int .u8 (y.toNat : Nat)) := by
  unfold bytesOf
  rw [List.map_set]
theorem u8_succ (z : UInt8) : IntKind.u8.wrap ((z.toNat : Int) + 1) = (((UInt8.ofNat (z.toNat + 1)).toNat : Nat) : Int) := by
  simp [IntKind.wrap, IntKind.signed, IntKind.bits]
/-- Blocks of a value. -/
def valB (v : Value) (k : Nat) : Prop := v.ownBlock = some k
set_option maxHeartbeats 1000000 in
theorem spoil_ok {w : World} {a : Option Addr} {n c : Nat} {bs : List UInt8} (h : BytesAt w (.slice a n c) (bytesOf bs)) (hn : n ≤ 140737488355328) (k : ByteArray) (d b : Int) :
    Calls Tryz.prog 78 #[.agg #[.string k, .slice a n c, .int .u64 d, .int .u64 b]] w fun e w' => e = .returned (.tuple #[]) ∧ Mod (valB (.slice a n c)) w w' := by
  have hbn : bs.length = n := by have := owns_form h; obtain ⟨_, _, e, _⟩ := this; rw [bytesOf_length] at e; injection e with _ e2 _; exact e2.symm
  have hp0 : Pure w (w.alloc (.cells #[.string k, .slice a n c, .int .u64 d, .int .u64 b] 42)) := (Mod.refl _ w).alloc _
  have h1 := heap_new (w := w) (o := .cells #[.string k, .slice a n c, .int .u64 d, .int .u64 b] 42 (0, 0)) rfl
  have HX := Lib.hid (owns_mod h hp0 (fun _ _ h => h) : BytesAt _ (.slice a n c) (bytesOf bs)); have HP := Lib.hid hp0
  have hvb : ∀ g, valB (.slice a n c) g → g < w.heap.size := fun g hg => owns_lt h hg
  have HVB := Lib.hid hvb
  have HBN := Lib.hid hbn
  clear h hp0 hvb hbn
  have wn : IntKind.i64.wrap (n : Int) = n := IntWalk.i64_in _ (by omega)
  go_enter Tryz.func78, Tryz.ntmps78
  go_upto_region 1 with fail
  generalize w.alloc (.cells #[.string k, .slice a n c, .int .u64 d, .int .u64 b] 42) = W1 at *
  obtain ⟨b1, hb⟩ : ∃ b, w.heap.size = b := ⟨_, rfl⟩
  rw [hb] at h1 HVB ⊢
  have HB := Lib.hid hb
  clear hb
  have H1 := Lib.hid h1
  have h1_0 := cell_of_row _ _ 0 _ _ _ h1; have h1_1 := cell_of_row _ _ 1 _ _ _ h1; have h1_2 := cell_of_row _ _ 2 _ _ _ h1; have h1_3 := cell_of_row _ _ 3 _ _ _ h1; have h1_f := (fun j => frozen_of_row _ _ j _ _ h1); have h1_l := lt_of_block h1; simp at h1_0 h1_1 h1_2 h1_3; have H_h1 := Lib.hid h1; clear h1
  go_upto_region 2 with fail
  clear h1_0 h1_1 h1_2 h1_3 h1_f h1_l
  clear H_h1
  go_loopw [6] (fun v6 wr => ∃ (i : Nat) (ys : List UInt8), v6 = .int .i64 (i : Nat) ∧ i ≤ n ∧ ys.length = n ∧ BytesAt wr (.slice a n c) (bytesOf ys) ∧ Mod (valB (.slice a n c)) W1 wr) (fun v6 _ => n - (intOf v6).toNat)
  case atStart => exact ⟨0, bs, rfl, Nat.zero_le _, HBN.out, HX.out, Mod.refl _ _⟩
  case round =>
    obtain ⟨i, ys, rfl, hi, hyl, hby, hm⟩ := hrel
    have h1 := hm.heap (fun e => by have := HVB.out _ e; omega) H1.out
    have HBY := Lib.hid hby; have HM := Lib.hid hm; have HYL := Lib.hid hyl
    clear hby hm hyl
    have h1_0 := cell_of_row _ _ 0 _ _ _ h1; have h1_1 := cell_of_row _ _ 1 _ _ _ h1; have h1_2 := cell_of_row _ _ 2 _ _ _ h1; have h1_3 := cell_of_row _ _ 3 _ _ _ h1; have h1_f := (fun j => frozen_of_row _ _ j _ _ h1); have h1_l := lt_of_block h1; simp at h1_0 h1_1 h1_2 h1_3; have H_h1 := Lib.hid h1; clear h1
    by_cases hlt : i < n
    · have hlt' : (i : Int) < (n : Int) := by omega
      have i0 : (0 : Int) ≤ (i : Int) := by omega
      have wi : IntKind.i64.wrap ((i : Int) + 1) = (i : Int) + 1 := IntWalk.i64_in _ (by omega)
      have hyi : i < ys.length := by rw [HYL.out]; exact hlt
      have hbr := HBY.out
      unfold BytesAt at hbr
      rw [bytesOf_length, HYL.out] at hbr
      obtain ⟨g, c', hsv, _, hg, hc, hf, _⟩ := owns_at hbr (by omega)
      cases hsv
      have zc : wr.cell? ⟨g, i, none⟩ = some (.int .u8 ((ys[i]'hyi).toNat : Nat)) := hc i _ (by unfold bytesOf; rw [List.getElem?_map, List.getElem?_eq_getElem hyi]; rfl)
      have zf := hf i
      have zw := u8_succ (ys[i]'hyi)
      have hst := owns_setCell hbr i (.int .u8 ((UInt8.ofNat ((ys[i]'hyi).toNat + 1)).toNat : Nat)) (by omega)
      rw [← bytesOf_set] at hst
      have HST : Hid (BytesAt (wr.setCell ⟨g, i, none⟩ (.int .u8 ((UInt8.ofNat ((ys[i]'hyi).toNat + 1)).toNat : Nat))) (.slice (some ⟨g, 0, none⟩) n c) (bytesOf (ys.set i (UInt8.ofNat ((ys[i]'hyi).toNat + 1))))) := Lib.hid (bytesAt_of hst)
      generalize ys[i] = y at *
      clear hst hc hf hbr
      go_wp2
      go_roundw
      case rel => exact ⟨i + 1, ys.set i (UInt8.ofNat (y.toNat + 1)), by go_num, hlt, by rw [List.length_set]; exact HYL.out, HST.out, HM.out.trans ((Mod.set1 g i _).mono (fun k _ e => by subst e; rfl))⟩
      case measure => simp [intOf]; omega
    · have e : n = i := by omega
      subst e
      clear hlt hi
      go_wp2
      exact bodyPost_end (v := .tuple #[]) (by simp [results, Tryz.results78, go_sem]) rfl ⟨rfl, (Mod.of_pure HP.out).trans HM.out⟩
end Go.Proofs.YtapplindfijngaaGreat

/- dict.Of: the walk. -/
namespace Go.Proofs.YtapplindfijngaaGreat
open Go.RowKit Go.Shelf
set_option maxRecDepth 100000
attribute [local go_sem] Oper.semAt_some

theorem LogAt.quiet' {N : Nat} {A B : World} {D : Nat → Prop} {p : Nat} {L : List (Option Ent)} (h : LogAt A D p L) (hq : Quiet N A B) : LogAt B D p L := by
  obtain ⟨sv, M, rfl, h⟩ := h
  exact (h.quiet hq).toAt
section
variable {w w' : World} {d q p : Nat} {sv : Value} {Dl : Nat → Prop} {seed : Nat} {same : Bool} {L : List (Option Ent)} {Gs : List Grp}
theorem DictMem.quiet {N : Nat} {A B : World} (h : DictMem A d q p sv Dl seed same L Gs) (hq : Quiet N A B) : DictMem B d q p sv Dl seed same L Gs :=
  ⟨hq.cells h.box, h.log.quiet' hq, h.ix.quiet hq, h.sd⟩
/-- The log of a dictionary is set. -/
theorem DictMem.relog {q0 : Nat} {Dl0 : Nat → Prop} {L0 : List (Option Ent)} (h : DictMem w d q0 p sv Dl0 seed same L0 Gs) (hl : LogAt w Dl q L) {Y : World} (hY : w.setCell ⟨d, 0, none⟩ (.pointer (some ⟨q, 0, none⟩)) = Y) :
    DictMem Y d q p sv Dl seed same L Gs ∧ Mod (fun k => k = d) w Y := by
  subst hY
  have hm : Mod (fun k => k = d) w (w.setCell ⟨d, 0, none⟩ (.pointer (some ⟨q, 0, none⟩))) := Mod.set1 _ _ _
  refine ⟨⟨?_, hl.frame hm (fun k hk e => ?_) (fun k _ e cs fz e2 => by subst e; rw [h.box] at e2; cases e2), h.ix.mod hm (fun k hk e => ?_), h.sd⟩, hm⟩
  · have := heap_set1 (j := 0) (v := .pointer (some ⟨q, 0, none⟩)) h.box
    simpa using this
  · subst e
    rcases hl.types hk h.box with e | e <;> cases e
  · subst e
    rcases hk with e | e
    · exact h.npd e.symm
    · exact h.nsd e
end
/-- Between two rounds of Of. -/
structure OInv (w : World) (d q : Nat) (Dl : Nat → Prop) (seed : Nat) (same : Bool) (L : List (Option Ent)) (It : Nat → Prop) (b4 b5 b7 : Nat) (pre : List Given) (W : World) : Prop where
  r4 : W.heap[b4]? = some (.cells #[.pointer none] 24 (0, 0))
  r5 : W.heap[b5]? = some (.cells #[.int .i64 0] 44 (0, 0))
  r7 : W.heap[b7]? = some (.cells #[.pointer (some ⟨d, 0, none⟩)] 24 (0, 0))
  mem : ∃ p sv, DictMem W d q p sv Dl seed same L (ofM seed same L (pre.map keyG)) ∧ w.heap.size ≤ p ∧ (∀ k, sv.ownBlock = some k → w.heap.size ≤ k) ∧ ¬ It p ∧ ∀ k, sv.ownBlock = some k → ¬ It k
  part : Part seed same L (slotsOf (pre.map keyG)) (ofM seed same L (pre.map keyG))
  used : usedN (ofM seed same L (pre.map keyG)) = pre.length
  pu : Pure w W
theorem OInv.quiet {w : World} {d q : Nat} {Dl : Nat → Prop} {seed : Nat} {same : Bool} {L : List (Option Ent)} {It : Nat → Prop} {b4 b5 b7 : Nat} {pre : List Given} {A B : World} (h : OInv w d q Dl seed same L It b4 b5 b7 pre A) {N : Nat} (hN : w.heap.size ≤ N) (hq : Quiet N A B) : OInv w d q Dl seed same L It b4 b5 b7 pre B := by
  obtain ⟨p, sv, h1, h2⟩ := h.mem
  exact ⟨hq.cells h.r4, hq.cells h.r5, hq.cells h.r7, ⟨p, sv, h1.quiet hq, h2⟩, h.part, h.used, hq.mod h.pu hN⟩
def ofPost (w : World) (seed : Nat) (same : Bool) (L : List (Option Ent)) (e : Ending) (w' : World) : Prop :=
  (KeysOk L ∧ (∃ d D, e = .returned (.tuple #[.pointer (some ⟨d, 0, none⟩), .int .i64 0]) ∧ DictAt w' D d seed same L (ofM seed same L (live L)) ∧ ∀ k, D k → w.heap.size ≤ k) ∧ Pure w w') ∨
  (¬ KeysOk L ∧ e = .returned (.tuple #[.pointer none, .int .i64 11]) ∧ Pure w w')
/-- No block of the iterator is one of these types. -/
theorem iter_types {w3 : World} {B : Nat} {sv : Value} {M : List (Option Ent × Value)} (hit : IterAt w3 B sv M) {k : Nat} {cs : Array Value} {T : TypeId} {fz : Nat × Nat} (hb : w3.heap[k]? = some (.cells cs T fz)) (h1 : T ≠ 5) (h2 : T ≠ 29) (h3 : T ≠ 42) : ¬ iterBlocks B sv M k := by
  rintro (h | h | ⟨e, v, hm, h⟩)
  · subst h; rw [hit.box] at hb; cases hb; exact h2 rfl
  · obtain ⟨cc, e2⟩ := owns_type hit.row h
    rw [hb] at e2; cases e2; exact h3 rfl
  · obtain ⟨cc, e2⟩ := owns_type (hit.vals e v hm) h
    rw [hb] at e2; cases e2; exact h1 rfl
set_option maxHeartbeats 4000000 in
theorem of_ok {w : World} {D : Nat → Prop} {ql : Nat} {L : List (Option Ent)} (h : LogAt w D ql L) (seed : Nat) (same : Bool) (hsd : seed < 18446744073709551616) : Calls Tryz.prog 26 #[.agg #[.int .u64 seed, .bool same], .pointer (some ⟨ql, 0, none⟩)] w (ofPost w seed same L) := by
  have hp0 : Pure w (((w.alloc (.cells #[.int .u64 seed, .bool same] 27)).alloc (.cells #[.pointer none] 24)).alloc (.cells #[.int .i64 0] 44)) := (((Mod.refl _ w).alloc _).alloc _).alloc _
  have z2 := heap_keep (o := .cells #[.int .i64 0] 44) (heap_keep (o := .cells #[.pointer none] 24) (heap_new (w := w) (o := .cells #[.int .u64 seed, .bool same] 27 (0, 0)) rfl))
  have z4 := heap_keep (o := .cells #[.int .i64 0] 44) (heap_new (w := w.alloc (.cells #[.int .u64 seed, .bool same] 27)) (o := .cells #[.pointer none] 24 (0, 0)) (n := w.heap.size + 1) (by simp))
  have z5 := heap_new (w := (w.alloc (.cells #[.int .u64 seed, .bool same] 27)).alloc (.cells #[.pointer none] 24)) (o := .cells #[.int .i64 0] 44 (0, 0)) (n := w.heap.size + 1 + 1) (by simp)
  have HC := Lib.hid (copyA_ok (h.pure hp0))
  have HP := Lib.hid hp0
  have hok := h.ok
  have HOK := Lib.hid hok
  clear h hp0 hok
  (refine (callsIn_wide (n := 0)).1 (callsIn_of_wp_marks Tryz.func26 rfl trivial (wpIn_wide.2 ?_) rfl); simp only [Tryz.ntmps26, List.size_toArray, List.length_cons, List.length_nil, Nat.reduceAdd, Nat.reduceSub, Array.replicate_succ, Array.replicate_zero, List.push_toArray, List.append_toArray, List.nil_append, List.cons_append])
  go_upto_region 1 with fail
  generalize (((w.alloc (.cells #[.int .u64 seed, .bool same] 27)).alloc (.cells #[.pointer none] 24)).alloc (.cells #[.int .i64 0] 44)) = W1 at *
  obtain ⟨b4, hb4⟩ : ∃ b, w.heap.size + 1 = b := ⟨_, rfl⟩
  rw [hb4] at z4 z5 ⊢
  have hb4w : w.heap.size < b4 := by omega
  clear hb4
  go_upto_region 4 with (go_at_call 75; refine Calls.mono HC.out ?_; rintro e w2 ⟨q, Dl, rfl, hl2, hp2, hD2⟩; dsimp only [logPtr] at *)
  have zz2 := hp2.heap (fun h => h) z2; have zz4 := hp2.heap (fun h => h) z4; have zz5 := hp2.heap (fun h => h) z5
  have HL2 := Lib.hid hl2
  replace HP := Lib.hid (HP.out.trans hp2)
  have hw1 : b4 + 1 < W1.heap.size := lt_of_block z5
  have h12 : W1.heap.size ≤ w2.heap.size := hp2.size
  have HD2 := Lib.hid hD2
  clear z2 z4 z5 hl2 hp2 HC hD2
  have HN := Lib.hid (dnew_ok seed same hsd w2)
  have zz2_0 := cell_of_row _ _ 0 _ _ _ zz2; have zz2_1 := cell_of_row _ _ 1 _ _ _ zz2; have zz2_f := (fun j => frozen_of_row _ _ j _ _ zz2); have zz2_l := lt_of_block zz2; simp at zz2_0 zz2_1; have H_zz2 := Lib.hid zz2; clear zz2
  go_upto_region 5 with (go_at_call 8; refine Calls.mono HN.out ?_; rintro e w3 ⟨d, D3, rfl, hd3, hp3, hD3⟩; dsimp only [dPtr] at *)
  have hpa : Pure w3 (w3.alloc (.cells #[.pointer (some ⟨d, 0, none⟩)] 24)) := (Mod.refl _ w3).alloc _
  have z7 := heap_new (w := w3) (o := .cells #[.pointer (some ⟨d, 0, none⟩)] 24 (0, 0)) rfl
  obtain ⟨q0, p, sv, Dl0, hm3, hk3, hdd3⟩ := hd3
  have hm4 := hm3.pure hpa
  have y4 := (hp3.trans hpa).heap (fun h => h) zz4; have y5 := (hp3.trans hpa).heap (fun h => h) zz5
  replace HL2 := Lib.hid (HL2.out.pure (hp3.trans hpa))
  have h23 : w2.heap.size ≤ w3.heap.size := hp3.size
  have hpw2 : w.heap.size ≤ w2.heap.size := HP.out.size
  have hfp : w2.heap.size ≤ p := hD3 p ((hdd3 p).2 (.inr (.inr (.inl rfl))))
  have hfs : ∀ k, sv.ownBlock = some k → w2.heap.size ≤ k := fun k hk => hD3 k ((hdd3 k).2 (.inr (.inr (.inr hk))))
  have hfd : w2.heap.size ≤ d := hD3 d ((hdd3 d).2 (.inl rfl))
  replace HP := Lib.hid ((HP.out.trans hp3).trans hpa)
  clear zz2_0 zz2_1 zz2_f zz2_l
  clear H_zz2 hp3 hpa hm3 hk3 hdd3 hD3 zz4 zz5 HN
  generalize hW4 : w3.alloc (.cells #[.pointer (some ⟨d, 0, none⟩)] 24) = W4 at *
  clear hW4
  obtain ⟨b7, hb7⟩ : ∃ b, w3.heap.size = b := ⟨_, rfl⟩
  rw [hb7] at z7 h23 ⊢
  clear hb7
  have HM4 := Lib.hid hm4
  have hb := hm4.box
  clear hm4
  have hb_0 := cell_of_row _ _ 0 _ _ _ hb; have hb_1 := cell_of_row _ _ 1 _ _ _ hb; have hb_2 := cell_of_row _ _ 2 _ _ _ hb; have hb_3 := cell_of_row _ _ 3 _ _ _ hb; have hb_f := (fun j => frozen_of_row _ _ j _ _ hb); have hb_l := lt_of_block hb; simp at hb_0 hb_1 hb_2 hb_3; have H_hb := Lib.hid hb; clear hb
  have hz7 := z7
  have hz7_0 := cell_of_row _ _ 0 _ _ _ hz7; have hz7_f := (fun j => frozen_of_row _ _ j _ _ hz7); have hz7_l := lt_of_block hz7; simp at hz7_0; have H_hz7 := Lib.hid hz7; clear hz7
  go_upto_region 6 with fail
  obtain ⟨Y, hY⟩ : ∃ Y, W4.setCell ⟨d, 0, none⟩ (.pointer (some ⟨q, 0, none⟩)) = Y := ⟨_, rfl⟩
  obtain ⟨g1, g2⟩ := HM4.out.relog HL2.out hY
  rw [hY]
  have ndb : ∀ {k : Nat} {cs : Array Value} {T : TypeId}, W4.heap[k]? = some (.cells cs T (0, 0)) → T ≠ 107 → k ≠ d := fun {k cs T} hk hT e => by subst e; rw [HM4.out.box] at hk; cases hk; exact hT rfl
  have x4 := g2.heap (ndb y4 (by decide)) y4; have x5 := g2.heap (ndb y5 (by decide)) y5; have x7 := g2.heap (ndb z7 (by decide)) z7
  have hpY : Pure w Y := HP.out.then g2 (fun i hi e => by omega)
  have HG := Lib.hid g1; have HPY := Lib.hid hpY
  have h4Y : W4.heap.size ≤ Y.heap.size := g2.size
  have hb7l : b7 < W4.heap.size := hz7_l
  clear hb_0 hb_1 hb_2 hb_3 hb_f hb_l
  clear hz7_0 hz7_f hz7_l
  clear H_hb H_hz7 hY g2 HM4 HL2 HP ndb hpY y4 y5 z7 g1
  have HAl := Lib.hid (allA_ok HG.out.log)
  go_wp2_with (go_at_call 76; refine Calls.mono HAl.out ?_; rintro e w6 ⟨M, B, a, c, hM, rfl, hit, hp6, hB, hfr⟩)
  have HIT := Lib.hid hit
  have hItlt : ∀ k, iterBlocks B (.slice a M.length c) M k → k < w6.heap.size := by
    rintro k (rfl | h | ⟨e, v, hm, h⟩)
    · exact lt_of_block hit.box
    · exact owns_lt hit.row h
    · exact owns_lt (hit.vals e v hm) h
  have hG6 := HG.out.pure hp6
  have hnt := fun {k cs T} (hk : w6.heap[k]? = some (.cells cs T (0, 0))) h1 h2 h3 => iter_types hit (k := k) (cs := cs) (T := T) hk h1 h2 h3
  have hI0 : OInv w d q Dl seed same L (iterBlocks B (.slice a M.length c) M) b4 (b4 + 1) b7 [] w6 := by
    refine ⟨hp6.heap (fun h => h) x4, hp6.heap (fun h => h) x5, hp6.heap (fun h => h) x7, ⟨p, sv, hG6, by omega, fun k hk => by have := hfs k hk; omega, hnt hG6.ix.box (by decide) (by decide) (by decide), fun k hk => ?_⟩, ?_, ?_, HPY.out.trans hp6⟩
    · obtain ⟨cc, e2⟩ := owns_type hG6.ix.row hk
      exact hnt e2 (by decide) (by decide) (by decide)
    · exact (part_new seed same L).keeps' (fun s => by simp [slotsOf])
    · exact newG_used 1
  have nd := Lib.hid (hnt hG6.box (by decide) (by decide) (by decide))
  have n4 := Lib.hid (hnt hI0.r4 (by decide) (by decide) (by decide)); have n5 := Lib.hid (hnt hI0.r5 (by decide) (by decide) (by decide))
  have hw6 : b7 < w6.heap.size := lt_of_block hI0.r7
  have hY6 : Y.heap.size ≤ w6.heap.size := hp6.size
  have hw46 : b4 + 1 < w6.heap.size := lt_of_block hI0.r5
  clear hit hp6 hB hfr hG6 hnt x4 x5 x7 HAl HG
  generalize hItd : iterBlocks B (.slice a M.length c) M = It at *
  refine wpIn_wide.1 (wp_range2 (gf := 127) (lb := #[.pointer (some ⟨B, 0, none⟩)]) rfl (enters_of Tryz.func127 (by kernel_rfl) rfl) (It := It) (hItd ▸ All_iter HIT.out w6.heap.size (Nat.le_refl _)) hItlt (fun _ => rfl)
    (fun pre W => OInv w d q Dl seed same L It b4 (b4 + 1) b7 pre W ∧ w6.heap.size ≤ W.heap.size) (fun cd pre W => cd = .ret ∧ W.heap[b4]? = some (.cells #[.pointer none] 24 (0, 0)) ∧ W.heap[b4 + 1]? = some (.cells #[.int .i64 11] 44 (0, 0)) ∧ ¬ KeysOk L ∧ Pure w W) ?hI ?hIx ⟨hI0, Nat.le_refl _⟩ ?round ?done ?stop)
  case hI => exact fun pre A B ⟨h, hz⟩ hq => ⟨h.quiet (by omega) hq, Nat.le_trans hz (Mod.size hq)⟩
  case hIx => exact fun cd pre A B ⟨h1, h2, h3, h4, h5⟩ hq => ⟨h1, hq.cells h2, hq.cells h3, h4, hq.mod h5 (by omega)⟩
  case stop =>
    rintro l cd pre W hl ⟨rfl, h1, h2, h3, h4⟩ hK
    have hq : Quiet w6.heap.size _ _ := Quiet.putObj (.deferred none) hl hK rfl
    have y4 := cell_of_row _ _ 0 _ _ _ (hq.cells h1); have y5 := cell_of_row _ _ 0 _ _ _ (hq.cells h2)
    simp at y4 y5
    refine wpIn_wide.2 ?_
    go_wp2
    exact bodyPostM_drained (v := .tuple #[.pointer none, .int .i64 11]) hK (by simp [results, Tryz.results26, go_sem, y4, y5]) (.inr ⟨h3, rfl, hq.mod h4 (by omega)⟩)
  case done =>
    rintro l xs W hl hS ⟨hI, hWs⟩ hK
    have hS' : xs.map keyG = live L := by rw [← hM]; exact hS
    obtain ⟨p2, sv2, hm, hf1, hf2, _, _⟩ := hI.mem
    have hpt := hI.part; have hus := hI.used
    rw [hS'] at hm hpt hus
    have hkeeps : Keeps seed same L (ofM seed same L (live L)) := hpt.keeps (fun s => ⟨fun hs => hpt.sub s hs, fun ⟨e, he⟩ => by
      have := live_of (i := 0) he
      rw [Nat.zero_add] at this
      exact List.mem_map.2 ⟨_, this, rfl⟩⟩) (by rw [hus]; have := congrArg List.length hS'; rw [List.length_map] at this; rw [this]; exact liveOf_live' L 0)
    have r4 := hI.r4; have r5 := hI.r5; have r7 := hI.r7
    have HPU := Lib.hid hI.pu; have HM := Lib.hid hm; have HKE := Lib.hid hkeeps
    clear hI hI0 hItlt hS hS' hpt hus hm hkeeps
    have R4 := Lib.hid r4; have R5 := Lib.hid r5
    have n7 : b7 ≠ b4 := by omega
    have r4_0 := cell_of_row _ _ 0 _ _ _ r4; have r4_f := (fun j => frozen_of_row _ _ j _ _ r4); have r4_l := lt_of_block r4; simp at r4_0; have H_r4 := Lib.hid r4; clear r4
    have r5_0 := cell_of_row _ _ 0 _ _ _ r5; have r5_f := (fun j => frozen_of_row _ _ j _ _ r5); have r5_l := lt_of_block r5; simp at r5_0; have H_r5 := Lib.hid r5; clear r5
    have r7_0 := cell_of_row _ _ 0 _ _ _ r7; have r7_f := (fun j => frozen_of_row _ _ j _ _ r7); have r7_l := lt_of_block r7; simp at r7_0; have H_r7 := Lib.hid r7; clear r7
    go_wp2
    have hm2 : Mod (fun k => k = b4 ∨ k = b4 + 1) W ((W.setCell ⟨b4, 0, none⟩ (.pointer (some ⟨d, 0, none⟩))).setCell ⟨b4 + 1, 0, none⟩ (.int .i64 0)) := ((Mod.set1 b4 0 _).mono (fun _ _ h => .inl h)).trans ((Mod.set1 (b4 + 1) 0 _).mono (fun _ _ h => .inr h))
    have e4 := heap_set_other (a := ⟨b4 + 1, 0, none⟩) (v := .int .i64 0) (heap_set1 (j := 0) (v := .pointer (some ⟨d, 0, none⟩)) R4.out) (by show b4 ≠ b4 + 1; omega)
    have e5 := heap_set1 (j := 0) (v := .int .i64 0) (heap_set_other (a := ⟨b4, 0, none⟩) (v := .pointer (some ⟨d, 0, none⟩)) R5.out (by show b4 + 1 ≠ b4; omega))
    have hk := hm2.heap (by rintro (e | e) <;> omega) hK
    have hq : Quiet w6.heap.size _ _ := Quiet.putObj (.deferred none) hl hk rfl
    have y4 := cell_of_row _ _ 0 _ _ _ (hq.cells e4); have y5 := cell_of_row _ _ 0 _ _ _ (hq.cells e5)
    simp at y4 y5
    have hty : ∀ k, dictD d Dl p2 sv2 k → ¬ (k = b4 ∨ k = b4 + 1) := fun k hkd e => by
      rcases e with e | e
      · subst e; rcases HM.out.types hkd R4.out with e | e | e | e | e <;> cases e
      · subst e; rcases HM.out.types hkd R5.out with e | e | e | e | e <;> cases e
    have hm3 := (HM.out.frame hm2 hty (fun k _ e cs fz e2 => by rcases e with e | e <;> (subst e; first | (rw [R4.out] at e2; cases e2) | (rw [R5.out] at e2; cases e2)))).quiet hq
    refine bodyPostM_drained (v := .tuple #[.pointer (some ⟨d, 0, none⟩), .int .i64 0]) hk (by simp [results, Tryz.results26, go_sem, y4, y5]) (.inl ⟨HKE.out.keys, ⟨d, dictD d Dl p2 sv2, rfl, ⟨q, p2, sv2, Dl, hm3, HKE.out, fun _ => Iff.rfl⟩, ?_⟩, hq.mod (HPU.out.then hm2 (fun i hi e => by omega)) (by omega)⟩)
    rintro k (e | e | e | e)
    · omega
    · have := HD2.out k e; have : w.heap.size ≤ W1.heap.size := by omega
      omega
    · omega
    · exact hf2 k e
  case round =>
    rintro l pre ⟨i, x, v⟩ W K ⟨hI, hWs⟩ hG hK
    obtain ⟨va, vc, hv, _⟩ := owns_form hG.2.1
    dsimp only at hv
    subst hv
    dsimp only [encG]
    obtain ⟨⟨post, hpost⟩, _, _⟩ := hG
    rw [hM] at hpost
    have HPO := Lib.hid hpost
    have HCI := Lib.hid hI; have HK := Lib.hid hK; have HLT := Lib.hid hItlt
    clear hI hK hI0 HIT hItlt hpost
    gi_wp2
    have hP : Pure W (W.alloc (.cells #[.string x.key, .slice va (bytesOf x.val).length vc, .int .u64 x.dl, .int .u64 x.birth] 42)) := (Mod.refl _ W).alloc _
    have z9 := heap_new (w := W) (o := .cells #[.string x.key, .slice va (bytesOf x.val).length vc, .int .u64 x.dl, .int .u64 x.birth] 42 (0, 0)) rfl
    refine HK.out _ _ hP (fun l' W2 hl hr hq => ?_)
    replace HCI := Lib.hid ((HCI.out.quiet (N := w6.heap.size) (by omega) (Quiet.of_pure hP)).quiet (by omega) hq)
    have zz9 := hq.cells z9
    have hsz2 : w6.heap.size ≤ W2.heap.size := by have := Mod.size hq; have := hP.size; omega
    clear HK hP hq z9
    generalize W.heap.size = b9 at zz9 ⊢
    obtain ⟨p2, sv2, hm, hf1, hf2, hf3, hf4⟩ := HCI.out.mem
    have hxi : L[i]? = some (some x) := live_mem (g := (i, x)) (by rw [HPO.out]; simp [keyG])
    have hkx : x.key.size ≤ 250 := (HOK.out.ent x (List.mem_of_getElem? hxi)).k1
    have HXI := Lib.hid hxi
    have HF := Lib.hid (dfindG_ok hm HCI.out.part x.key (by omega))
    have HM := Lib.hid hm; have HF2 := Lib.hid hf2; have HF4 := Lib.hid hf4
    have r4 := HCI.out.r4; have r5 := HCI.out.r5; have r7 := HCI.out.r7
    clear hm hf2 hf4 hxi hkx
    have R7 := Lib.hid r7
    have zz9_0 := cell_of_row _ _ 0 _ _ _ zz9; have zz9_1 := cell_of_row _ _ 1 _ _ _ zz9; have zz9_2 := cell_of_row _ _ 2 _ _ _ zz9; have zz9_3 := cell_of_row _ _ 3 _ _ _ zz9; have zz9_f := (fun j => frozen_of_row _ _ j _ _ zz9); have zz9_l := lt_of_block zz9; simp at zz9_0 zz9_1 zz9_2 zz9_3; have H_zz9 := Lib.hid zz9; clear zz9
    have r7_0 := cell_of_row _ _ 0 _ _ _ r7; have r7_f := (fun j => frozen_of_row _ _ j _ _ r7); have r7_l := lt_of_block r7; simp at r7_0; have H_r7 := Lib.hid r7; clear r7
    gi_upto_region 10 with (gi_at_call 42; refine CallsIn.mono (CallsIn.inRound l' (callsIn_wide.2 HF.out)) ?_; rintro e w7 ⟨r, hr7, rfl, hp7⟩)
    have HR7 := Lib.hid hr7
    have q4 := hp7.heap (fun h => h) r4; have q5 := hp7.heap (fun h => h) r5; have q7 := hp7.heap (fun h => h) R7.out
    have HP7 := Lib.hid hp7
    clear r7_0 r7_f r7_l
    clear hr7 hp7 r4 r5 H_r7 HF zz9_0 zz9_1 zz9_2 zz9_3 zz9_f zz9_l H_zz9
    have Q4 := Lib.hid q4; have Q5 := Lib.hid q5
    rcases HR7.out with ⟨s, hs, hks, rfl⟩ | ⟨hn, rfl⟩
    · have hnk : ¬ KeysOk L := fun hkk => by
        obtain ⟨f, hf⟩ := HCI.out.part.sub s hs
        rw [keyL_some hf] at hks
        have := hkk s i f x hf HXI.out hks
        subst this
        have hup := liveFrom_up' L 0
        rw [show liveFrom 0 L = live L from rfl, HPO.out, List.map_append, List.map_cons, List.pairwise_append] at hup
        have := hup.2.2 _ hs s (by simp [keyG])
        omega
      have HNK := Lib.hid hnk
      clear hnk hks hs
      have q4_0 := cell_of_row _ _ 0 _ _ _ q4; have q4_f := (fun j => frozen_of_row _ _ j _ _ q4); have q4_l := lt_of_block q4; simp at q4_0; have H_q4 := Lib.hid q4; clear q4
      have q5_0 := cell_of_row _ _ 0 _ _ _ q5; have q5_f := (fun j => frozen_of_row _ _ j _ _ q5); have q5_l := lt_of_block q5; simp at q5_0; have H_q5 := Lib.hid q5; clear q5
      gi_wp2
      have hm2 : Mod (fun k => k = b4 ∨ k = b4 + 1) w7 ((w7.setCell ⟨b4, 0, none⟩ (.pointer none)).setCell ⟨b4 + 1, 0, none⟩ (.int .i64 11)) := ((Mod.set1 b4 0 _).mono (fun _ _ h => .inl h)).trans ((Mod.set1 (b4 + 1) 0 _).mono (fun _ _ h => .inr h))
      have hm3 := (Mod.of_pure (S := fun k => k = b4 ∨ k = b4 + 1) HP7.out).trans hm2
      refine ⟨KeepsRec.of_mod hm3 (fun k hk h => by omega), rfl, heap_set_other (heap_set1 (j := 0) Q4.out) (by show b4 ≠ b4 + 1; omega), heap_set1 (j := 0) (heap_set_other Q5.out (by show b4 + 1 ≠ b4; omega)), HNK.out, (HCI.out.pu.trans HP7.out).then hm2 (fun k hk h => by omega)⟩
    · obtain ⟨pt1, pt2, pt3, y, k1, k2, k3, k4⟩ := HCI.out.part.put (g := (i, x)) (post := post) (by rw [HCI.out.used]; simp) (by rw [HPO.out]; rfl) HOK.out.len hn
      have HPT := Lib.hid pt1; have HPU2 := Lib.hid pt2
      have HPut := Lib.hid (dput_ok (HM.out.pure HP7.out) k1 k2 k3 (s := i) pt3 k4)
      clear pt1 pt2 k1 k2 k3 k4 hn
      have q7_0 := cell_of_row _ _ 0 _ _ _ q7; have q7_f := (fun j => frozen_of_row _ _ j _ _ q7); have q7_l := lt_of_block q7; simp at q7_0; have H_q7 := Lib.hid q7; clear q7
      gi_wp2_with (gi_at_call 52; refine CallsIn.mono (CallsIn.inRound l' (callsIn_wide.2 HPut.out)) ?_; rintro e w8 ⟨p3, sv3, rfl, hm8, hmod8, hsx8⟩)
      have hsz7 : W2.heap.size ≤ w7.heap.size := HP7.out.size
      have hmA := (Mod.of_pure (S := fun k => k = d ∨ k = p2 ∨ sv2.ownBlock = some k) HP7.out).trans hmod8
      have hn4 : ∀ {k : Nat} {cs : Array Value} {T : TypeId}, w7.heap[k]? = some (.cells cs T (0, 0)) → T ≠ 107 → T ≠ 164 → T ≠ 168 → ¬ (k = d ∨ k = p2 ∨ sv2.ownBlock = some k) := fun {k cs T} hk t1 t2 t3 e => by
        have hM7 := HM.out.pure HP7.out
        rcases e with e | e | e
        · subst e; rw [hM7.box] at hk; cases hk; exact t1 rfl
        · subst e; rw [hM7.ix.box] at hk; cases hk; exact t2 rfl
        · obtain ⟨cc, e2⟩ := owns_type hM7.ix.row e
          rw [hk] at e2; cases e2; exact t3 rfl
      have hcell : ∀ k, (k = d ∨ k = p2 ∨ sv2.ownBlock = some k) → ∀ o, W2.heap[k]? = some o → o.isCells = true := fun k hk o ho => by
        rcases hk with e | e | e
        · subst e; rw [HM.out.box] at ho; cases ho; rfl
        · subst e; rw [HM.out.ix.box] at ho; cases ho; rfl
        · obtain ⟨cc, e2⟩ := owns_type HM.out.ix.row e
          rw [ho] at e2; cases e2; rfl
      have hfr : w.heap.size ≤ p3 ∧ (∀ k, sv3.ownBlock = some k → w.heap.size ≤ k) ∧ ¬ It p3 ∧ ∀ k, sv3.ownBlock = some k → ¬ It k := by
        rcases hsx8 with ⟨rfl, rfl⟩ | ⟨g1, g2⟩
        · exact ⟨hf1, HF2.out, hf3, HF4.out⟩
        · exact ⟨by omega, fun k hk => by have := g2 k hk; omega, fun hi => by have := HLT.out _ hi; omega, fun k hk hi => by have := g2 k hk; have := HLT.out _ hi; omega⟩
      refine ⟨KeepsRec.of_mod hmA (fun k _ h o ho => hcell k h o ho), KeepsIt.of_mod hmA (fun k hi h => ?_), ⟨hmod8.heap (hn4 Q4.out (by decide) (by decide) (by decide)) Q4.out, hmod8.heap (hn4 Q5.out (by decide) (by decide) (by decide)) Q5.out, hmod8.heap (hn4 H_q7.out (by decide) (by decide) (by decide)) H_q7.out, ⟨p3, sv3, ?_, hfr⟩, ?_, ?_, ?_⟩, Nat.le_trans hsz2 hmA.size⟩
      · rcases h with h | h | h
        · subst h; exact nd.out hi
        · subst h; exact hf3 hi
        · exact HF4.out k h hi
      · rw [List.map_append]; exact hm8
      · rw [List.map_append]; exact HPT.out
      · rw [List.map_append]; have := HPU2.out; simpa [keyG] using this
      · refine (HCI.out.pu.trans HP7.out).then hmod8 (fun k hk h => ?_)
        rcases h with h | h | h
        · omega
        · omega
        · have := HF2.out k h; omega
end Go.Proofs.YtapplindfijngaaGreat
