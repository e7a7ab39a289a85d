/- law07.SwissHolds answers true. Condition: the slices are read. -/
import Derived.Test.YtbjiebhbmpafpaaRehLaw
import Derived.OwnWalk
namespace Go.Proofs.Ytbjiebhbmpafpaa
open Go.RowKit Go.Shelf
set_option maxRecDepth 100000

def u64v (l : List Nat) : List Value := l.map (fun (x : Nat) => Value.int .u64 ((x : Nat) : Int))
def bools (l : List Bool) : List Value := l.map Value.bool
theorem info_b : (Try.prog.info? 4).map (fun i => (i.zero, i.size, i.bytes)) = some (some (.bool false), 1, 1) := by kernel_rfl
theorem made_false (n : Nat) : (madeCells #[.bool false] (n * 1)).toList = bools (List.replicate n false) := by
  unfold madeCells bools
  rw [Nat.mul_one, List.map_replicate]
  apply List.ext_getElem
  · simp
  · intro i h1 h2
    simp [Nat.mod_one]
/-- The hash of a slot number: what stands at it. -/
def sumAt (sums : List Nat) (s : Nat) : Nat := sums.getD s 0
theorem sumAt_lt {sums : List Nat} (h : ∀ x ∈ sums, x < 18446744073709551616) (s : Nat) : sumAt sums s < 18446744073709551616 := by
  unfold sumAt
  rw [List.getD_eq_getElem?_getD]
  cases e : sums[s]? with
  | none => simp
  | some x => exact h x (List.mem_of_getElem? e)
/-- What the closure reads. -/
def SumJ (b : Nat) (a : Option Addr) (c : Nat) (sums : List Nat) (W : World) : Prop := W.heap[b]? = some (.cells #[.slice a sums.length c] 78 (0, 0)) ∧ ReadAt W (.slice a sums.length c) 1 (u64v sums)
theorem SumJ.pure {b : Nat} {a : Option Addr} {c : Nat} {sums : List Nat} {W W' : World} (h : SumJ b a c sums W) (hp : Pure W W') : SumJ b a c sums W' := ⟨hp.heap (fun h => h) h.1, h.2.frame hp (fun _ _ h => h)⟩
/-- An element that is read. -/
theorem ReadAt.elem {W : World} {a : Option Addr} {n c : Nat} {xs : List Value} (h : ReadAt W (.slice a n c) 1 xs) {j : Nat} {u : Value} (hu : xs[j]? = some u) : ∃ ad, a = some ad ∧ W.cell? (ad.add j) = some u := by
  obtain ⟨a', n', c', e, hl, _, h0, hc⟩ := h
  cases e
  cases a with
  | none =>
    have := h0 rfl
    have := (List.getElem?_eq_some_iff.1 hu).1
    omega
  | some ad => exact ⟨ad, rfl, hc ad rfl j u hu⟩
theorem holds1_ok {W : World} {b : Nat} {a : Option Addr} {c : Nat} {sums : List Nat} (h : SumJ b a c sums W) (s : Nat) (hs : s < sums.length) (hs2 : s ≤ 4294967295) : Calls Try.prog 45 #[.int .u32 s, .pointer (some ⟨b, 0, none⟩)] W fun e w' => e = .returned (.int .u64 (sumAt sums s)) ∧ W = w' := by
  obtain ⟨h1, h2⟩ := h
  have he : (u64v sums)[s]? = some (.int .u64 (sumAt sums s)) := by
    unfold u64v sumAt
    rw [List.getElem?_map, List.getD_eq_getElem?_getD, List.getElem?_eq_getElem hs]
    rfl
  obtain ⟨ad, rfl, hc⟩ := h2.elem he
  clear he h2
  have h0 : (s : Int) < sums.length := by omega
  obtain ⟨B, o, sp⟩ := ad
  have h1_0 := cell_of_row _ _ 0 _ _ _ h1; have h1_f := (fun j => frozen_of_row _ _ j _ _ h1); have h1_l := lt_of_block h1; simp at h1_0; have H_h1 := Lib.hid h1; clear h1
  generalize sumAt sums s = hh at *
  have hs3 : (s : Int) ≤ 4294967295 := by omega
  go_enter Try.func45, Try.ntmps45
  go_wp2
  go_ret
  exact ⟨rfl, rfl⟩
theorem holds_closure {w : World} {b : Nat} {a : Option Addr} {c : Nat} {sums : List Nat} (h : SumJ b a c sums w) (hl : ∀ x ∈ sums, x < 18446744073709551616) (hn : 0 < sums.length) :
    SumOk Try.prog 45 #[.pointer (some ⟨b, 0, none⟩)] (sumAt sums) (fun s => s < sums.length) (SumJ b a c sums) w := by
  have hb := lt_of_block h.1
  refine ⟨enters_of Try.func45 (by kernel_rfl) rfl, fun s W hs hS hJ => callsIn_wide.2 ((holds1_ok hJ s hS hs).mono (fun e w' ⟨h1, h2⟩ => ⟨h1, by subst h2; exact Mod.refl _ _⟩)), sumAt_lt hl, fun A B hJ hm => ⟨hm.heap (by omega) hJ.1, hJ.2.frame hm (fun g hg hs => ?_)⟩, h⟩
  have := h.2.lt (by decide) hg
  omega
structure SHo (w : World) (b : Nat) (aS : Option Addr) (cS : Nat) (sums : List Nat) (aL : Option Addr) (cL : Nat) (l : List Nat) (v10 : Value) (g : Nat) (p : Nat) (sv : Value) (Gs : List Grp) (ins insH : List Bool) (W : World) : Prop where
  hs : Has w p sv Gs W
  ho : Holds (sumAt sums) (fun s => insH.getD s false = true) Gs
  len : Gs.length = g
  us : usedN Gs = insH.countP id
  il : insH.length = sums.length
  row : W.ownsRow 0 4 1 v10 sums.length (bools ins)
  fr : ∀ k, v10.ownBlock = some k → w.heap.size ≤ k
  j : SumJ b aS cS sums W
  rd : ReadAt W (.slice aL l.length cL) 1 (u8s l)
  dis : ∀ k, v10.ownBlock = some k → ¬ (k = p ∨ sv.ownBlock = some k)
theorem getD_setB {ins : List Bool} {ix : Nat} {v : Bool} (h : ix < ins.length) (s : Nat) : (ins.set ix v).getD s false = if s = ix then v else ins.getD s false := by
  rw [List.getD_eq_getElem?_getD, List.getElem?_set]
  by_cases e : ix = s
  · subst e; simp [h]
  · have : ¬ s = ix := fun c => e c.symm
    rw [if_neg e, if_neg this, List.getD_eq_getElem?_getD]
section
variable {w : World} {b : Nat} {aS : Option Addr} {cS : Nat} {sums : List Nat} {aL : Option Addr} {cL : Nat} {l : List Nat} {v10 : Value} {g p : Nat} {sv : Value} {Gs Gs' : List Grp} {ins insH insH' : List Bool} {W W' : World}
theorem SHo.put (h : SHo w b aS cS sums aL cL l v10 g p sv Gs ins insH W) (ra : ∀ k, rdBlock (.slice aS sums.length cS) = some k → k < w.heap.size) (rl : ∀ k, rdBlock (.slice aL l.length cL) = some k → k < w.heap.size)
    (hq : Has w p sv Gs' W') (hm : Mod (fun k => k = p ∨ sv.ownBlock = some k) W W') (ho : Holds (sumAt sums) (fun s => insH'.getD s false = true) Gs') (hlen : Gs'.length = g) (hus : usedN Gs' = insH'.countP id) (hil : insH'.length = sums.length) :
    SHo w b aS cS sums aL cL l v10 g p sv Gs' ins insH' W' := by
  have hd := hq.d
  refine ⟨hq, ho, hlen, hus, hil, owns_mod h.row hm h.dis, h.fr, ⟨hm.heap (fun e => ?_) h.j.1, h.j.2.frame hm (fun k hk e => by have := ra k hk; have := hd k e; omega)⟩, h.rd.frame hm (fun k hk e => by have := rl k hk; have := hd k e; omega), h.dis⟩
  have hb := h.j.1
  rcases e with rfl | e
  · have := h.hs.ix.box; rw [hb] at this; cases this
  · obtain ⟨cc, e2⟩ := owns_type h.hs.ix.row e
    rw [hb] at e2; cases e2
theorem SHo.pure (h : SHo w b aS cS sums aL cL l v10 g p sv Gs ins insH W) (hp : Pure W W') : SHo w b aS cS sums aL cL l v10 g p sv Gs ins insH W' :=
  ⟨h.hs.pure hp, h.ho, h.len, h.us, h.il, owns_mod h.row hp (fun _ _ h => h), h.fr, h.j.pure hp, h.rd.frame hp (fun _ _ h => h), h.dis⟩
theorem SHo.set {B10 : Nat} (h : SHo w b aS cS sums aL cL l (.slice (some ⟨B10, 0, none⟩) sums.length sums.length) g p sv Gs ins insH W) (ra : ∀ k, rdBlock (.slice aS sums.length cS) = some k → k < w.heap.size) (rl : ∀ k, rdBlock (.slice aL l.length cL) = some k → k < w.heap.size)
    {ix : Nat} (hix : ix < sums.length) {v : Bool} (he : ins.set ix v = insH) : SHo w b aS cS sums aL cL l (.slice (some ⟨B10, 0, none⟩) sums.length sums.length) g p sv Gs insH insH (W.setCell ⟨B10, ix, none⟩ (.bool v)) := by
  have hm : Mod (fun k => k = B10) W (W.setCell ⟨B10, ix, none⟩ (.bool v)) := Mod.set1 _ _ _
  have hfr : w.heap.size ≤ B10 := h.fr B10 rfl
  have hdis : ¬ (B10 = p ∨ sv.ownBlock = some B10) := h.dis B10 rfl
  refine ⟨⟨h.hs.ix.mod hm (fun k hk e => by subst e; exact hdis hk), h.hs.pu.then hm (fun k hk e => by omega), h.hs.fp, h.hs.fs⟩, h.ho, h.len, h.us, h.il, ?_, h.fr, ⟨hm.heap (fun e => ?_) h.j.1, h.j.2.frame hm (fun k hk e => by have := ra k hk; omega)⟩, h.rd.frame hm (fun k hk e => by have := rl k hk; omega), h.dis⟩
  · have := owns_setCell h.row ix (.bool v) (by omega)
    rw [← he]
    unfold bools at this ⊢
    rw [List.map_set]
    exact this
  · obtain ⟨cc, e2⟩ := owns_type h.row (g := B10) rfl
    have := h.j.1
    rw [e, e2] at this; cases this
end
set_option maxHeartbeats 8000000 in
theorem SwissHolds_true {w : World} (x : Int) (aS : Option Addr) (cS : Nat) (sums : List Nat) (hs : ReadAt w (.slice aS sums.length cS) 1 (u64v sums)) (hsl : ∀ x ∈ sums, x < 18446744073709551616) (hsz : sums.length ≤ 9223372036854775807)
    (aL : Option Addr) (cL : Nat) (l : List Nat) (hl : ReadAt w (.slice aL l.length cL) 1 (u8s l)) (hlb : ∀ x ∈ l, x < 256) (hlz : l.length ≤ 9223372036854775807) :
    Calls Try.prog 8 #[.int .i64 x, .slice aS sums.length cS, .slice aL l.length cL] w fun e w' => e = .returned (.bool true) ∧ Pure w w' := by
  have hp : Pure w (w.alloc (.cells #[.slice aS sums.length cS] 78)) := (Mod.refl _ w).alloc _
  have hz := heap_new (w := w) (o := (.cells #[.slice aS sums.length cS] 78 (0, 0))) rfl
  have hJ : SumJ w.heap.size aS cS sums (w.alloc (.cells #[.slice aS sums.length cS] 78)) := ⟨hz, hs.frame hp (fun _ _ h => h)⟩
  have hR : ReadAt (w.alloc (.cells #[.slice aS sums.length cS] 78)) (.slice aL l.length cL) 1 (u8s l) := hl.frame hp (fun _ _ h => h)
  have hra : ∀ k, rdBlock (.slice aS sums.length cS) = some k → k < w.heap.size := fun k hk => hs.lt (by decide) hk
  have hrl : ∀ k, rdBlock (.slice aL l.length cL) = some k → k < w.heap.size := fun k hk => hl.lt (by decide) hk
  have RA := Lib.hid hra; have RL := Lib.hid hrl
  clear hra hrl
  have HP := Lib.hid hp; have HJ := Lib.hid hJ; have HR := Lib.hid hR; have HSL := Lib.hid hsl; have HLB := Lib.hid hlb
  have wl : IntKind.i64.wrap (sums.length : Int) = sums.length := IntWalk.i64_in _ (by omega)
  have wl2 : IntKind.i64.wrap (l.length : Int) = l.length := IntWalk.i64_in _ (by omega)
  clear hp hJ hR hs hl hsl hlb
  go_enter Try.func8, Try.ntmps8
  go_upto_region 1 with fail
  generalize w.alloc (.cells #[.slice aS sums.length cS] 78) = W1 at *
  obtain ⟨b, hb⟩ : ∃ b, w.heap.size = b := ⟨_, rfl⟩
  rw [hb] at hz HJ ⊢
  have HB := Lib.hid hb
  clear hb
  have hz_0 := cell_of_row _ _ 0 _ _ _ hz; have hz_f := (fun j => frozen_of_row _ _ j _ _ hz); have hz_l := lt_of_block hz; simp at hz_0; have H_hz := Lib.hid hz; clear hz
  by_cases h1 : x < 3
  · go_wp2_with (go_at_call 35; refine Calls.mono (known7_true _) ?_; rintro e w5 ⟨rfl, hq⟩)
    go_ret
    exact ⟨rfl, HP.out.trans hq⟩
  by_cases h2 : 6 < x
  · go_wp2_with (go_at_call 35; refine Calls.mono (known7_true _) ?_; rintro e w5 ⟨rfl, hq⟩)
    go_ret
    exact ⟨rfl, HP.out.trans hq⟩
  by_cases h3 : 60 < (sums.length : Int)
  · go_wp2_with (go_at_call 35; refine Calls.mono (known7_true _) ?_; rintro e w5 ⟨rfl, hq⟩)
    go_ret
    exact ⟨rfl, HP.out.trans hq⟩
  by_cases h4 : (sums.length : Int) = 0
  · have h4' : ((sums.length : Int) == 0) = true := by simpa using h4
    go_wp2_with (go_at_call 35; refine Calls.mono (known7_true _) ?_; rintro e w5 ⟨rfl, hq⟩)
    all_goals go_ret
    all_goals exact ⟨rfl, HP.out.trans hq⟩
  have h4' : ((sums.length : Int) == 0) = false := by simpa using h4
  by_cases h5 : 100 < (l.length : Int)
  · go_wp2_with (go_at_call 35; refine Calls.mono (known7_true _) ?_; rintro e w5 ⟨rfl, hq⟩)
    go_ret
    exact ⟨rfl, HP.out.trans hq⟩
  obtain ⟨k, rfl⟩ := Int.eq_ofNat_of_zero_le (by omega : 0 ≤ x)
  obtain ⟨g, hg⟩ : ∃ g, 2 ^ k = g := ⟨_, rfl⟩
  have hpow : Pow g := ⟨k, by omega, hg.symm⟩
  have hg8 : 8 ≤ g ∧ g ≤ 64 := by
    rw [← hg]
    have : k = 3 ∨ k = 4 ∨ k = 5 ∨ k = 6 := by omega
    rcases this with rfl | rfl | rfl | rfl <;> decide
  have hk2 : wrap64 ((2 : Int) ^ k) = (g : Int) := by
    have : ((2 : Int) ^ k) = ((2 ^ k : Nat) : Int) := by rw [Int.natCast_pow]; rfl
    rw [this, hg]
    exact IntWalk.wrap64_in _ (by omega)
  have HN := Lib.hid (fun W => New_ok g W hpow)
  clear hg
  go_upto_region 5 with (go_at_call 36; refine Calls.mono (HN.out _) ?_; rintro e w2 hq; obtain ⟨p, sv, rfl, hH0, hpl, hps, hpu⟩ := Has.mk_new HP.out hq; clear hq; have H0 := Lib.hid hH0; clear hH0)
  have hz2 := hpu.heap (fun h => h) H_hz.out
  replace HJ := Lib.hid (HJ.out.pure hpu)
  replace HR := Lib.hid (HR.out.frame hpu (fun _ _ h => h))
  clear hz_0 hz_f hz_l
  clear H_hz hpl hps hpu
  have hz2_0 := cell_of_row _ _ 0 _ _ _ hz2; have hz2_f := (fun j => frozen_of_row _ _ j _ _ hz2); have hz2_l := lt_of_block hz2; simp at hz2_0; have H_hz2 := Lib.hid hz2; clear hz2
  obtain ⟨i0, hi, hi0, hi1, hi2⟩ := info_parts info_b
  go_upto_region 8 with (at_make; refine wpList_make_full _ rfl _ _ 28 rfl 0 4 i0 _ 1 Try.underlying28 hi hi0 hi1 .i64 .i64 _ _ sums.length rfl rfl rfl rfl (by rw [hi2]; omega) (by unfold maxLen; omega) (Nat.zero_le _) ?_; intro w3 hown hgrow)
  have hpw3 : Pure w2 w3 := Mod.of_grown hgrow (fun k e _ => by cases e)
  rw [show (Value.bool false).cells = #[.bool false] from rfl, made_false] at hown
  have hn0 : 0 < sums.length := by omega
  have hS0 : SHo w b aS cS sums aL cL l (.slice (some ⟨w2.heap.size, 0, none⟩) sums.length sums.length) g p sv (newG g) (List.replicate sums.length false) (List.replicate sums.length false) w3 := by
    refine ⟨H0.out.pure hpw3, (newG_holds _ hpow).of_iff (fun s => ?_), newG_length g, ?_, List.length_replicate, hown, fun k hk => ?_, HJ.out.pure hpw3, HR.out.frame hpw3 (fun _ _ h => h), fun k hk e => ?_⟩
    · have : (List.replicate sums.length false).getD s false = false := by
        rw [List.getD_eq_getElem?_getD, List.getElem?_replicate]
        split <;> rfl
      rw [this]
      simp
    · rw [newG_used, List.countP_replicate]; simp
    · have : w2.heap.size = k := by simpa [Value.ownBlock] using hk
      subst this; exact H0.out.pu.size
    · have hk' : w2.heap.size = k := by simpa [Value.ownBlock] using hk
      subst hk'
      rcases e with e | e
      · have := lt_of_block H0.out.ix.box; omega
      · obtain ⟨cc, e2⟩ := owns_type H0.out.ix.row e
        have := lt_of_block e2; omega
  have HS0 := Lib.hid hS0
  clear hz2_0 hz2_f hz2_l
  clear H_hz2 hown hgrow hS0 HJ HR H0 hpw3 hi hi0 hi1 hi2 HN hk2
  obtain ⟨B10, hB10⟩ : ∃ B10, w2.heap.size = B10 := ⟨_, rfl⟩
  rw [hB10] at HS0 ⊢
  clear hB10
  go_upto_region 10 with fail
  go_loopw [8, 11, 61] (fun v8 v11 kk wr => ∃ i p sv Gs ins, kk = .int .i64 (i : Nat) ∧ i ≤ l.length ∧ v8 = .pointer (some ⟨p, 0, none⟩) ∧ v11 = .int .i64 (usedN Gs : Nat) ∧ SHo w b aS cS sums aL cL l (.slice (some ⟨B10, 0, none⟩) sums.length sums.length) g p sv Gs ins ins wr) (fun _ _ kk _ => l.length - (intOf kk).toNat)
  case atStart => exact ⟨0, p, sv, newG g, _, rfl, Nat.zero_le _, rfl, by rw [newG_used]; rfl, HS0.out⟩
  case round =>
    clear HS0
    obtain ⟨i, p, sv, Gs, ins, rfl, hi, rfl, rfl, hsh⟩ := hrel
    have HS := Lib.hid hsh
    clear hsh
    by_cases hlt : i < l.length
    · have hlt' : (i : Int) < (l.length : Int) := by omega
      obtain ⟨bb, hbb⟩ : ∃ bb, l[i]? = some bb := ⟨_, List.getElem?_eq_getElem hlt⟩
      have hbl : bb < 256 := HLB.out bb (List.mem_of_getElem? hbb)
      obtain ⟨ad, had, hcl⟩ := HS.out.rd.elem (j := i) (u := .int .u8 (bb : Nat)) (by unfold u8s; rw [List.getElem?_map, hbb]; rfl)
      subst had
      obtain ⟨BL, oL, sL⟩ := ad
      have HBB := Lib.hid hbb
      clear hbb
      go_upto_if 66 with fail
      go_cut [8] (fun v8 wc => ∃ p2 sv2 Gs2, v8 = .pointer (some ⟨p2, 0, none⟩) ∧ usedN Gs2 = usedN Gs ∧ SHo w b aS cS sums (some ⟨BL, oL, sL⟩) cL l (.slice (some ⟨B10, 0, none⟩) sums.length sums.length) g p2 sv2 Gs2 ins ins wc)
      case first =>
        by_cases hb250 : 250 ≤ bb
        · have hb' : (250 : Int) ≤ (bb : Int) := by omega
          have hins : ∀ s, ins.getD s false = true → s < sums.length := fun s hs => by
            rw [← HS.out.il]
            rw [List.getD_eq_getElem?_getD] at hs
            cases e : ins[s]? with
            | none => rw [e] at hs; simp at hs
            | some v => exact (List.getElem?_eq_some_iff.1 e).1
          have hu60 : usedN Gs ≤ 60 := by
            have h1 := HS.out.us; have h2 : ins.countP id ≤ ins.length := List.countP_le_length; have h3 := HS.out.il; omega
          have HRH := Lib.hid (Rehash_ok HS.out.hs.ix g hpow (by omega) (holds_closure HS.out.j HSL.out hn0) (fun s hs => hins s ((HS.out.ho.mem s).2 ((full_mem HS.out.ho.ok s).1 hs))))
          have hrl := HS.out.ho.rehash hpow (by omega : usedN Gs ≤ 8 * g)
          have HRL := Lib.hid hrl
          clear hrl hins
          generalize rehM (sumAt sums) g Gs = Gs2 at *
          go_upto_region 14 with (go_at_call 42; refine Calls.mono HRH.out ?_; rintro e w6 ⟨p2, sv2, rfl, hx1, hx2, hx3, hx4, hx5, hx6⟩)
          have hsz6 : w.heap.size ≤ wr.heap.size := HS.out.hs.pu.size
          have hnew : SHo w b aS cS sums (some ⟨BL, oL, sL⟩) cL l (.slice (some ⟨B10, 0, none⟩) sums.length sums.length) g p2 sv2 Gs2 ins ins w6 := by
            refine ⟨⟨hx1, HS.out.hs.pu.trans hx2, Nat.le_trans hsz6 hx3, fun k hk => Nat.le_trans hsz6 (hx4 k hk)⟩, HRL.out.1, HRL.out.2.2.1, HRL.out.2.1.trans HS.out.us, HS.out.il, owns_mod HS.out.row hx2 (fun _ _ h => h), HS.out.fr, hx6, HS.out.rd.frame hx2 (fun _ _ h => h), fun k hk e => ?_⟩
            obtain ⟨cc, e2⟩ := owns_type HS.out.row hk
            have := lt_of_block e2
            rcases e with e | e
            · omega
            · have := hx4 k e; omega
          have HNW := Lib.hid hnew
          clear hx1 hx2 hx3 hx4 hx5 hx6 hnew hsz6
          go_wp2_with (go_at_call 44; refine Calls.mono (HNW.out.hs.tombs HRL.out.2.2.2) ?_; rintro e w' ⟨rfl, rfl⟩)
          go_meet
          exact ⟨p2, sv2, Gs2, rfl, HRL.out.2.1, HNW.out⟩
        · have hb' : (bb : Int) < 250 := by omega
          go_wp2_with fail
          go_meet
          exact ⟨p, sv, Gs, rfl, rfl, HS.out⟩
      case rest =>
        clear HS
        obtain ⟨p2, sv2, Gs2, rfl, hu2, hsh⟩ := hcut
        have HS := Lib.hid hsh
        have HU2 := Lib.hid hu2
        clear hsh hu2
        obtain ⟨ix, hix⟩ : ∃ ix, bb % sums.length = ix := ⟨_, rfl⟩
        have hixl : ix < sums.length := by rw [← hix]; exact Nat.mod_lt _ hn0
        have em : (bb : Int) % (sums.length : Int) = (ix : Int) := by rw [← hix]; rfl
        have em2 : (bb : Int).tmod (sums.length : Int) = (ix : Int) := by rw [← hix]; rfl
        have HIX := Lib.hid hix
        clear hix
        obtain ⟨v, hv⟩ : ∃ v, ins[ix]? = some v := by
          have := HS.out.il
          exact ⟨_, List.getElem?_eq_getElem (by omega)⟩
        obtain ⟨B', c', hsv, _, hB', hcB, hfB, _⟩ := owns_at HS.out.row hn0
        cases hsv
        have zv : wc.cell? ⟨B10, ix, none⟩ = some (.bool v) := hcB ix _ (by unfold bools; rw [List.getElem?_map, hv]; rfl)
        have hix0 : (ix : Int) < (sums.length : Int) := by omega
        obtain ⟨hb1, hrd1⟩ := HS.out.j
        obtain ⟨ad, had, hcs⟩ := hrd1.elem (j := ix) (u := .int .u64 (sumAt sums ix : Nat)) (by unfold u64v sumAt; rw [List.getElem?_map, List.getD_eq_getElem?_getD, List.getElem?_eq_getElem hixl]; rfl)
        subst had
        obtain ⟨BS, oS, sS⟩ := ad
        have wx : IntKind.u32.wrap (ix : Int) = ix := IntWalk.u32_in _ (by omega)
        have HV := Lib.hid hv
        clear hcB hrd1 hv
        have hb1_0 := cell_of_row _ _ 0 _ _ _ hb1; have hb1_f := (fun j => frozen_of_row _ _ j _ _ hb1); have hb1_l := lt_of_block hb1; simp at hb1_0; have H_hb1 := Lib.hid hb1; clear hb1
        obtain ⟨u, hu⟩ : ∃ u, usedN Gs = u := ⟨_, rfl⟩
        rw [hu] at HU2 ⊢
        have hul : u ≤ 60 := by
          have h1 := HS.out.us; have h2 : ins.countP id ≤ ins.length := List.countP_le_length; have h3 := HS.out.il; have h4 := HU2.out; omega
        have hsx := sumAt_lt HSL.out ix
        have hixi : ix < ins.length := by have := HS.out.il; omega
        clear hu
        go_upto_if 94 with fail
        go_cut [9, 11] (fun v9 v11 wd => ∃ Gs3, v9 = .int .i64 0 ∧ v11 = .int .i64 (usedN Gs3 : Nat) ∧ SHo w b (some ⟨BS, oS, sS⟩) cS sums (some ⟨BL, oL, sL⟩) cL l (.slice (some ⟨B10, 0, none⟩) sums.length sums.length) g p2 sv2 Gs3 ins (ins.set ix (!v)) wd)
        case first =>
          cases v with
          | true =>
            have hsix : (fun s => ins.getD s false = true) ix := by show ins.getD ix false = true; rw [List.getD_eq_getElem?_getD, HV.out]; rfl
            obtain ⟨a0, b0, hfm, hfull⟩ := HS.out.ho.find_some hsix
            have HRM := Lib.hid (HS.out.hs.rem hfm hsx (by omega : ix ≤ 4294967295))
            have hol' := HS.out.ho.del hfull
            have hdc := del_counts HS.out.ho.ok hfull
            have hcb := countB_set false ins ix true HV.out
            have HO' := Lib.hid hol'; have HDC := Lib.hid hdc; have HCB := Lib.hid hcb
            obtain ⟨un, hun⟩ : ∃ un, u = un + 1 := ⟨u - 1, by have := HU2.out; have := hdc.1; omega⟩
            subst hun
            have wn : IntKind.i64.wrap (((un + 1 : Nat) : Int) - 1) = (un : Int) := by rw [show (((un + 1 : Nat) : Int) - 1) = (un : Int) by omega]; exact IntWalk.i64_in _ (by omega)
            clear hsix hfm hfull hol' hdc hcb
            generalize sumAt sums ix = hh at HRM hcs hsx
            go_wp2_with (go_at_call 41; refine Calls.mono HRM.out ?_; rintro e w7 ⟨rfl, hq, hmq⟩; have HQ := Lib.hid hq; have HMQ := Lib.hid hmq; clear hq hmq)
            go_meet
            have h1 : usedN (delG Gs2 a0 b0) + 1 = usedN Gs2 := HDC.out.1
            have h2 : usedN Gs2 = un + 1 := HU2.out
            refine ⟨delG Gs2 a0 b0, rfl, by rw [show usedN (delG Gs2 a0 b0) = un by omega], HS.out.put RA.out RL.out HQ.out HMQ.out (HO'.out.of_iff (fun s => ?_)) (HDC.out.2.1.trans HS.out.len) ?_ ?_⟩
            · rw [getD_setB hixi]
              by_cases e : s = ix
              · subst e; simp
              · simp [e]
            · have h3 := HCB.out; have h4 := HS.out.us; simp at h3 ⊢; omega
            · rw [List.length_set]; exact HS.out.il
          | false =>
            have hsix : ¬ (fun s => ins.getD s false = true) ix := by show ¬ ins.getD ix false = true; rw [List.getD_eq_getElem?_getD, HV.out]; simp
            have h2 : usedN Gs2 = u := HU2.out
            obtain ⟨Gs3, hm⟩ : ∃ Gs3, insM Gs2 (sumAt sums ix) ix = some Gs3 := by
              cases hc : insM Gs2 (sumAt sums ix) ix with
              | some Gs3 => exact ⟨Gs3, rfl⟩
              | none =>
                have h1 := (ins_none HS.out.ho.ok _ _).1 hc
                have h3 := HS.out.len
                omega
            have HIns := Lib.hid (HS.out.hs.ins hm hsx (by omega : ix ≤ 4294967295))
            have hol' := HS.out.ho.ins (by omega) hsix hm
            have hc' := ins_counts HS.out.ho.ok (by omega) hm
            have hcb := countB_set true ins ix false HV.out
            have HO' := Lib.hid hol'; have HC' := Lib.hid hc'; have HCB := Lib.hid hcb
            have wn : IntKind.i64.wrap ((u : Int) + 1) = (u : Int) + 1 := IntWalk.i64_in _ (by omega)
            clear hsix hm hol' hc' hcb h2
            generalize sumAt sums ix = hh at HIns hcs hsx
            go_wp2_with (go_at_call 37; refine Calls.mono HIns.out ?_; rintro e w7 ⟨rfl, hq, hmq⟩; have HQ := Lib.hid hq; have HMQ := Lib.hid hmq; clear hq hmq)
            go_meet
            have h1 : usedN Gs3 = usedN Gs2 + 1 := HC'.out.1
            have h2 : usedN Gs2 = u := HU2.out
            refine ⟨Gs3, rfl, by rw [show usedN Gs3 = u + 1 by omega]; rfl, HS.out.put RA.out RL.out HQ.out HMQ.out (HO'.out.of_iff (fun s => ?_)) (HC'.out.2.1.trans HS.out.len) ?_ ?_⟩
            · rw [getD_setB hixi]
              by_cases e : s = ix
              · subst e; simp
              · simp [e]
            · have h3 := HCB.out; have h4 := HS.out.us; simp at h3 ⊢; omega
            · rw [List.length_set]; exact HS.out.il
        case rest =>
          obtain ⟨Gs3, rfl, rfl, hsh⟩ := hcut
          have HS3 := Lib.hid hsh
          clear hsh HS HU2
          obtain ⟨B', c', hsv, _, hB', hcB, hfB, _⟩ := owns_at HS3.out.row hn0
          cases hsv
          have zv : wc.cell? ⟨B10, ix, none⟩ = some (.bool v) := hcB ix _ (by unfold bools; rw [List.getElem?_map, HV.out]; rfl)
          clear hcB
          go_upto_region 24 with fail
          have hset := HS3.out.set RA.out RL.out hixl (v := !v) rfl
          have HS4 := Lib.hid hset
          clear hset HS3 zv hfB
          generalize wc.setCell ⟨B10, ix, none⟩ (.bool (!v)) = W4 at *
          generalize ins.set ix (!v) = ins2 at *
          have hj1 := HS4.out.j.1
          clear hb1_0 hb1_f hb1_l
          clear H_hb1
          have hj1_0 := cell_of_row _ _ 0 _ _ _ hj1; have hj1_f := (fun j => frozen_of_row _ _ j _ _ hj1); have hj1_l := lt_of_block hj1; simp at hj1_0; have H_hj1 := Lib.hid hj1; clear hj1
          go_upto_region 27 with (go_at_call 39; refine Calls.mono (HS4.out.hs.len rfl) ?_; rintro e w' ⟨rfl, rfl⟩)
          go_loopw [133] (fun kk wr => ∃ j, kk = .int .i64 (j : Nat) ∧ j ≤ sums.length ∧ SHo w b (some ⟨BS, oS, sS⟩) cS sums (some ⟨BL, oL, sL⟩) cL l (.slice (some ⟨B10, 0, none⟩) sums.length sums.length) g p2 sv2 Gs3 ins2 ins2 wr) (fun kk _ => sums.length - (intOf kk).toNat)
          case atStart => exact ⟨0, rfl, Nat.zero_le _, HS4.out⟩
          case round =>
            obtain ⟨j, rfl, hj, hsh⟩ := hrel
            have HS := Lib.hid hsh
            clear hj1_0 hj1_f hj1_l
            clear H_hj1 HS4 hsh
            by_cases hjl : j < sums.length
            · have hjl' : (j : Int) < (sums.length : Int) := by omega
              obtain ⟨v, hv⟩ : ∃ v, ins2[j]? = some v := by
                have := HS.out.il
                exact ⟨_, List.getElem?_eq_getElem (by omega)⟩
              obtain ⟨B', c', hsv, _, hB', hcB, hfB, _⟩ := owns_at HS.out.row hn0
              cases hsv
              have zv : wr.cell? ⟨B10, j, none⟩ = some (.bool v) := hcB j _ (by unfold bools; rw [List.getElem?_map, hv]; rfl)
              obtain ⟨hb1, hrd1⟩ := HS.out.j
              obtain ⟨ad, had, hcs⟩ := hrd1.elem (j := j) (u := .int .u64 (sumAt sums j : Nat)) (by unfold u64v sumAt; rw [List.getElem?_map, List.getD_eq_getElem?_getD, List.getElem?_eq_getElem hjl]; rfl)
              cases had
              have wx : IntKind.u32.wrap (j : Int) = j := IntWalk.u32_in _ (by omega)
              have hsx := sumAt_lt HSL.out j
              have hj32 : j ≤ 4294967295 := by omega
              clear hcB hrd1
              have hb1_0 := cell_of_row _ _ 0 _ _ _ hb1; have hb1_f := (fun j => frozen_of_row _ _ j _ _ hb1); have hb1_l := lt_of_block hb1; simp at hb1_0; have H_hb1 := Lib.hid hb1; clear hb1
              cases v with
              | true =>
                have hfs := fnd_some HS.out.ho (s := j) (by show ins2.getD j false = true; rw [List.getD_eq_getElem?_getD, hv]; rfl)
                have HF := Lib.hid (HS.out.hs.finds hfs hsx hj32 (by decide) hj32 (by decide))
                clear hfs hv
                generalize sumAt sums j = hh at HF hcs hsx
                go_wp2_with (go_at_call 40; refine Calls.mono HF.out ?_; rintro e w8 ⟨rfl, _, hq⟩; have HQ := Lib.hid hq; clear hq)
                go_roundw
                case rel => exact ⟨j + 1, by go_num, hjl, HS.out.pure HQ.out⟩
                case measure => simp [intOf]; omega
              | false =>
                have hfs := fnd_none HS.out.ho (s := j) (by show ¬ ins2.getD j false = true; rw [List.getD_eq_getElem?_getD, hv]; simp)
                have HF := Lib.hid (HS.out.hs.finds hfs hsx hj32 (by decide) (by decide) (by decide))
                clear hfs hv
                generalize sumAt sums j = hh at HF hcs hsx
                go_wp2_with (go_at_call 40; refine Calls.mono HF.out ?_; rintro e w8 ⟨rfl, _, hq⟩; have HQ := Lib.hid hq; clear hq)
                go_roundw
                case rel => exact ⟨j + 1, by go_num, hjl, HS.out.pure HQ.out⟩
                case measure => simp [intOf]; omega
            · have hjl' : (sums.length : Int) ≤ (j : Int) := by omega
              clear hj
              go_wp2
              go_roundw
              case rel => exact ⟨i + 1, p2, sv2, Gs3, ins2, by go_num, hlt, rfl, rfl, HS.out⟩
              case measure => simp [intOf]; omega
    · have hlt' : (l.length : Int) ≤ (i : Int) := by omega
      clear hi
      go_wp2_with (go_at_call 35; refine Calls.mono (known7_true _) ?_; rintro e w5 ⟨rfl, hq⟩)
      go_ret
      exact ⟨rfl, HS.out.hs.pu.trans hq⟩
end Go.Proofs.Ytbjiebhbmpafpaa
