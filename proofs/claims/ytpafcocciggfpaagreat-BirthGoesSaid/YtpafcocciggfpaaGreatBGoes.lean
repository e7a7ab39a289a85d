/- law12.BirthGoes answers true. -/
import Derived.Test.YtpafcocciggfpaaGreatGHold
namespace Go.Proofs.YtpafcocciggfpaaGreat
open Go.RowKit Go.Shelf
set_option maxRecDepth 100000
attribute [local go_sem] Oper.semAt_some

def u64L (l : List Nat) : List Value := l.map (fun x : Nat => (.int .u64 x : Value))
def boolL (l : List Bool) : List Value := l.map (fun x : Bool => (.bool x : Value))
theorem u64L_one (l : List Nat) : ∀ u ∈ u64L l, u.oneCell' = true := by intro u hu; obtain ⟨_, _, rfl⟩ := List.mem_map.1 hu; rfl
theorem made_falseG (n : Nat) : (madeCells #[.bool false] (n * 1)).toList = boolL (List.replicate n false) := by
  unfold madeCells boolL
  rw [Nat.mul_one, List.map_replicate]
  apply List.ext_getElem
  · simp
  · intro i h1 h2
    simp [Nat.mod_one]
/-- Between two rounds of the first loop. -/
structure G1 (w : World) (d : Nat) (ss : List Nat) (j : Nat) (ab : Option Addr) (cb : Nat) (W : World) : Prop where
  df : DF w W d 5 false (LG ss j)
  row : W.ownsRow 0 22 1 (.slice ab j cb) j (u64L (BG ss j))
  fr : ∀ g, (Value.slice ab j cb).ownBlock = some g → w.heap.size ≤ g
/-- Between two rounds of the third loop. -/
structure G3 (w : World) (Bs : List Nat) (ab : Option Addr) (cb bt d : Nat) (L : List (Option Ent)) (T : List Bool) (W : World) : Prop where
  df : DF w W d 5 false L
  inc : IncL L
  sel : liveB L = selB (Bs.zip T)
  len : T.length = Bs.length
  rb : W.ownsRow 0 22 1 (.slice ab Bs.length cb) Bs.length (u64L Bs)
  rt : W.ownsRow 0 4 1 (.slice (some ⟨bt, 0, none⟩) Bs.length Bs.length) Bs.length (boolL T)
theorem G3.pure {w : World} {Bs : List Nat} {ab : Option Addr} {cb bt d : Nat} {L : List (Option Ent)} {T : List Bool} {W W' : World} (h : G3 w Bs ab cb bt d L T W) (hp : Pure W W') : G3 w Bs ab cb bt d L T W' :=
  ⟨h.df.pure hp, h.inc, h.sel, h.len, owns_mod h.rb hp (fun _ _ h => h), owns_mod h.rt hp (fun _ _ h => h)⟩
theorem isP_eq {x : Nat × Nat} {a b : Nat} (h : isP x a b = true) : x = (a, b) := by
  unfold isP at h
  simp at h
  exact Prod.ext h.1 h.2
theorem afterT {w W : World} {d seed : Nat} {same : Bool} {L : List (Option Ent)} (h : DF w W d seed same L) (b : Nat) (hb : b < 18446744073709551616) {r1 r2 : Nat} (hr : isP (afterV L b) r1 r2 = true) :
    Calls Tryz.prog 60 #[dPtr d, .int .u64 b] W fun e w' => e = .returned (.tuple #[.int .u32 r1, .int .i64 r2]) ∧ Pure W w' := by
  obtain ⟨D, Gs, h1, h2, h3⟩ := h
  have := After_ok (allOf_dict h1) (notZ_dict h1) b hb
  rw [isP_eq hr] at this
  exact this
theorem rowcell {W : World} {T k g n c : Nat} {xs : List Value} (h : W.ownsRow 0 T 1 (.slice (some ⟨g, 0, none⟩) n c) n xs) {j : Nat} {u : Value} (hj : xs[j]? = some u) : W.cell? ⟨g, j, none⟩ = some u := by
  have hn : 0 < n := by have := h.1; have := (List.getElem?_eq_some_iff.1 hj).1; omega
  obtain ⟨g', cc, hsv, _, _, hcc, _⟩ := owns_at h hn
  cases hsv
  exact hcc j u hj
theorem remHitT {w W : World} {d seed : Nat} {same : Bool} {L : List (Option Ent)} (h : DF w W d seed same L) {s : Nat} {x : Ent} (hx : L[s]? = some (some x)) :
    Calls Tryz.prog 19 #[dPtr d, .int .u32 s] W fun e w' => ∃ a n c, e = .returned (.tuple #[.agg #[.string x.key, .slice a n c, .int .u64 x.dl, .int .u64 x.birth], .int .i64 0]) ∧ DF w w' d seed same (L.set s none) ∧ TKeep W w' := by
  obtain ⟨D, Gs, h1, h2, h3⟩ := h
  refine Calls.mono (drem_ok h1 hx) ?_
  rintro e w' ⟨a, n, c, rfl, _, _, D', g1, g2, g3⟩
  refine ⟨a, n, c, rfl, ⟨D', _, g1, h2.then g2 (fun i hi e => by have := h3 i e; omega), fun k hk => ?_⟩, TKeep.of (w := W) h1 g2⟩
  rcases g3 k hk with e | e
  · exact h3 k e
  · exact Nat.le_trans h2.size e
theorem remMissT {w W : World} {d seed : Nat} {same : Bool} {L : List (Option Ent)} (h : DF w W d seed same L) {s : Nat} (hs : s ≤ 4294967295) (hx : hasL L s = false) :
    Calls Tryz.prog 19 #[dPtr d, .int .u32 s] W fun e w' => e = .returned (.tuple #[.agg #[.string ⟨#[]⟩, .slice none 0 0, .int .u64 0, .int .u64 0], .int .i64 9]) ∧ DF w w' d seed same L ∧ Pure W w' := by
  obtain ⟨D, Gs, h1, h2, h3⟩ := h
  refine Calls.mono (drem_miss h1 hs hx) ?_
  rintro e w' ⟨rfl, hp⟩
  exact ⟨rfl, ⟨D, Gs, h1.pure hp, h2.trans hp, h3⟩, hp⟩
/-- Which are there while those of one birth are struck: the first n are done. -/
def offK (xb : Int) (Bs : List Nat) (T : List Bool) (n : Nat) : List Bool := (((offT xb (Bs.zip T)).map Prod.snd).take n) ++ T.drop n
theorem offAll_get {xb : Int} {Bs : List Nat} {T : List Bool} {i bq : Nat} {tq : Bool} (hb : Bs[i]? = some bq) (ht : T[i]? = some tq) : ((offT xb (Bs.zip T)).map Prod.snd)[i]? = some (tq && ((bq : Int) != xb)) := by
  unfold offT
  have hz : (Bs.zip T)[i]? = some (bq, tq) := by rw [List.getElem?_zip_eq_some]; exact ⟨hb, ht⟩
  rw [List.map_map, List.getElem?_map, hz]
  rfl
theorem offAll_length {xb : Int} {Bs : List Nat} {T : List Bool} (h : T.length = Bs.length) : ((offT xb (Bs.zip T)).map Prod.snd).length = Bs.length := by
  unfold offT
  simp [h]
theorem offK_step {xb : Int} {Bs : List Nat} {T : List Bool} (h : T.length = Bs.length) {i bq : Nat} {tq : Bool} (hb : Bs[i]? = some bq) (ht : T[i]? = some tq) :
    offK xb Bs T (i + 1) = if (bq : Int) == xb then (offK xb Bs T i).set i false else offK xb Bs T i := by
  have hi : i < Bs.length := (List.getElem?_eq_some_iff.1 hb).1
  have hl : (((offT xb (Bs.zip T)).map Prod.snd).take i).length = i := by rw [List.length_take, offAll_length h]; omega
  obtain ⟨hti, hte⟩ := List.getElem?_eq_some_iff.1 ht
  unfold offK
  rw [List.take_add_one, offAll_get hb ht, List.drop_eq_getElem_cons hti, hte]
  by_cases e : (bq : Int) = xb
  · rw [if_pos (by simpa using e), List.set_append_right _ _ (by omega), hl, Nat.sub_self]
    simp [e]
  · rw [if_neg (by simpa using e)]
    have : ((bq : Int) != xb) = true := by simpa using e
    rw [this]
    simp
theorem offK_len {xb : Int} {Bs : List Nat} {T : List Bool} (h : T.length = Bs.length) (n : Nat) : (offK xb Bs T n).length = Bs.length := by
  unfold offK
  rw [List.length_append, List.length_take, offAll_length h, List.length_drop]
  omega
theorem offK_end {xb : Int} {Bs : List Nat} {T : List Bool} (h : T.length = Bs.length) : selB (Bs.zip (offK xb Bs T Bs.length)) = (selB (Bs.zip T)).filter (fun y => y != xb) := by
  rw [← sel_off]
  congr 1
  unfold offK
  rw [List.drop_eq_nil_of_le (by omega), List.append_nil, List.take_of_length_le (by rw [offAll_length h]; exact Nat.le_refl _)]
  unfold offT
  refine List.ext_getElem (by simp [h]) (fun n h1 h2 => ?_)
  simp
set_option maxHeartbeats 8000000 in
theorem BirthGoes_true {w : World} (a0 : Option Addr) (c0 : Nat) (ss : List Nat) (hs : ReadAt w (.slice a0 ss.length c0) 1 (ss.map (fun x : Nat => (.int .u8 x : Value)))) (hsu : ∀ z ∈ ss, z < 256) (hsl : ss.length ≤ 9223372036854775807)
    (a1 : Option Addr) (c1 : Nat) (gs : List Nat) (hg : ReadAt w (.slice a1 gs.length c1) 1 (gs.map (fun x : Nat => (.int .u8 x : Value)))) (hgu : ∀ z ∈ gs, z < 256) (hgl : gs.length ≤ 9223372036854775807) :
    Calls Tryz.prog 9 #[.slice a0 ss.length c0, .slice a1 gs.length c1] w fun e w' => e = .returned (.bool true) ∧ Pure w w' := by
  obtain ⟨m, hm⟩ : ∃ m, ss.length = m := ⟨_, rfl⟩
  obtain ⟨k, hk⟩ : ∃ k, gs.length = k := ⟨_, rfl⟩
  have HSL := Lib.hid hm; have HGL := Lib.hid hk; have HS := Lib.hid hs; have HG := Lib.hid hg; have HSU := Lib.hid hsu; have HGU := Lib.hid hgu
  rw [hm] at HS hsl ⊢
  rw [hk] at HG hgl ⊢
  have wm : IntKind.i64.wrap (m : Int) = m := IntWalk.i64_in _ (by omega)
  have wk : IntKind.i64.wrap (k : Int) = k := IntWalk.i64_in _ (by omega)
  have HKn := Lib.hid (fun W => known12_true W)
  clear hm hk hs hg hsu hgu
  by_cases c2 : m ≤ 60
  · have d1 : decide (60 < (m : Int)) = false := decide_eq_false (by omega)
    by_cases c3 : k ≤ 60
    · have d2 : decide (60 < (k : Int)) = false := decide_eq_false (by omega)
      clear hsl hgl
      have HN := Lib.hid (fun W => hnew_ok 5 false W)
      obtain ⟨iU, hiU, iU0, iU1, iU2⟩ := info_parts infoU64
      go_enter Tryz.func9, Tryz.ntmps9
      go_upto_region 9 with (first
        | (go_at_call 12; refine Calls.mono (HN.out _) ?_; rintro e w1 ⟨rfl, hp1⟩)
        | (go_at_call 11; refine Calls.mono (newF (w := w) 5 false (by omega) hp1) ?_; rintro e w2 ⟨d, rfl, hd2, _⟩; dsimp only [dPtr]))
      have HD := Lib.hid hd2
      clear hd2 hp1 HN
      go_loopw [6, 7, 41] (fun v6 v7 v41 wr => ∃ (j : Nat) (ab : Option Addr) (cb : Nat), v6 = .slice ab j cb ∧ v7 = .int .u64 (lastG ss j : Nat) ∧ v41 = .int .i64 (j : Nat) ∧ j ≤ m ∧ G1 w d ss j ab cb wr) (fun _ _ v41 _ => m - (intOf v41).toNat)
      case atStart => exact ⟨0, none, 0, rfl, rfl, rfl, Nat.zero_le _, HD.out, World.ownsRow_nil _ _ _ _, fun g e => by cases e⟩
      case round =>
        obtain ⟨j, ab, cb, rfl, rfl, rfl, hj, hI⟩ := hrel
        have HI := Lib.hid hI
        clear hI
        by_cases hlt : j < m
        · have hlt' : (j : Int) < (m : Int) := by omega
          have wj : IntKind.i64.wrap ((j : Int) + 1) = (j : Int) + 1 := IntWalk.i64_in _ (by omega)
          have hsl2 := HSL.out
          obtain ⟨s, hss⟩ : ∃ s, ss[j]? = some s := ⟨_, List.getElem?_eq_getElem (by omega)⟩
          have hs8 := HSU.out s (List.mem_of_getElem? hss)
          obtain ⟨a', n', c', e, _, _, hh0, hcc⟩ := (HS.out.frame HI.out.df.pu (fun _ _ h => h))
          cases e
          obtain ⟨ad, rfl⟩ : ∃ ad, a0 = some ad := by
            cases a0 with
            | none => have := hh0 rfl; omega
            | some ad => exact ⟨ad, rfl⟩
          have cj := hcc ad rfl j (.int .u8 s) (by rw [List.getElem?_map, hss]; rfl)
          have hl := lastG_succ hss
          have hle := lastG_le HSU.out (j + 1)
          have HL := Lib.hid hl
          have hBG : u64L (BG ss (j + 1)) = u64L (BG ss j) ++ [.int .u64 (lastG ss (j + 1) : Nat)] := by rw [BG_succ]; simp [u64L]
          have hLG : LG ss (j + 1) = LG ss j ++ [some ⟨⟨#[UInt8.ofNat j]⟩, [], 0, (lastG ss (j + 1) : Nat)⟩] := LG_succ ss j
          have HBG := Lib.hid hBG; have HLG := Lib.hid hLG
          have HFK := Lib.hid (show findK (LG ss j) ⟨#[UInt8.ofNat j]⟩ = none from LG_find (by omega))
          clear hBG hLG hcc hh0 hss
          obtain ⟨l1, hl1⟩ : ∃ l1, lastG ss (j + 1) = l1 := ⟨_, rfl⟩
          have HL1 := Lib.hid hl1
          rw [hl1] at HL HBG HLG hle hl
          clear hl1
          generalize lastG ss j = l0 at *
          have w0 : IntKind.u64.wrap (s : Int) = s := u64_wrap s (by omega)
          have w1 : IntKind.u64.wrap ((s : Int) + 1) = (s : Int) + 1 := by have := u64_wrap (s + 1) (by omega); simpa using this
          have w2 : IntKind.u64.wrap ((l0 : Int) + ((s : Int) + 1)) = (l1 : Int) := by have := u64_wrap (l0 + (s + 1)) (by omega); simp at this; rw [this]; omega
          have w8 : IntKind.u8.wrap (j : Int) = j := by simp [IntKind.wrap, IntKind.signed, IntKind.bits]; omega
          have s0 : (0 : Int) ≤ s := by omega
          have s1 : (s : Int) ≤ 255 := by omega
          clear hl
          go_upto_region 13 with (at_builtin; refine wpList_append_read _ rfl _ _ 121 rfl 22 iU _ 1 8 Tryz.underlying121 hiU iU0 iU1 iU2 rfl (by decide) (.slice ab j cb) j _ rfl (owns_mod HI.out.row ((Mod.refl (fun _ => False) wr).alloc _) (fun _ _ h => h)) _ [.int .u64 l1] 1 rfl (ReadAt.of_block 1 1 1 (heap_new rfl) (by rfl) (by simp [Value.oneCell'])) rfl (by unfold maxLen; omega) (by omega) ?_; intro a7 c7 w5 hr7 hg7 hb7)
          have hpa : Pure wr (wr.alloc (.cells #[.int .u64 l1] 22)) := (Mod.refl _ wr).alloc _
          obtain ⟨q3, q4⟩ := slot_append (n := j) hpa hr7 hg7 hb7
          have hown : ∀ i, (Value.slice ab j cb).ownBlock = some i → w.heap.size ≤ i ∧ ∃ cs fz, wr.heap[i]? = some (.cells cs 22 fz) := fun i hi => by
            obtain ⟨cc, e2⟩ := owns_type HI.out.row hi
            exact ⟨HI.out.fr i hi, _, _, e2⟩
          have hd5 : DF w w5 d 5 false (LG ss j) := HI.out.df.boxed q3 hown (by decide) (by decide)
          have hfr5 : ∀ g, (Value.slice a7 (j + 1) c7).ownBlock = some g → w.heap.size ≤ g := fun g hg => by
            rcases q4 g hg with e | e
            · exact HI.out.fr g e
            · exact Nat.le_trans HI.out.df.pu.size e
          have hrow5 : w5.ownsRow 0 22 1 (.slice a7 (j + 1) c7) (j + 1) (u64L (BG ss (j + 1))) := by rw [HBG.out]; exact hr7
          have HR5 := Lib.hid hrow5; have HF5 := Lib.hid hfr5; have HD5 := Lib.hid hd5
          clear hpa q3 q4 hown hd5 hfr5 hrow5 hr7 hg7 hb7 HBG HI
          have kc := conv_bytes (w := w5.alloc (.cells #[.int .u8 j] 5)) (a := some ⟨w5.heap.size, 0, none⟩) (n := 1) (c := 1) [UInt8.ofNat j] (by
            have := ReadAt.of_block (w := w5.alloc (.cells #[.int .u8 j] 5)) (k := 1) 1 1 (heap_new rfl) rfl (by simp [Value.oneCell'])
            simpa [bytesOf, u8_of j (by omega)] using this)
          have hpc : Pure w5 (w5.alloc (.cells #[.int .u8 j] 5)) := (Mod.refl _ w5).alloc _
          have HAd := Lib.hid (addsT (HD5.out.pure hpc) ⟨#[UInt8.ofNat j]⟩ (l1 : Int) ⟨by show 0 < 1; omega, by show 1 ≤ 250; omega, by show 0 ≤ 65536; omega, by show (0 : Int) < (l1 : Int); have := HL.out; omega⟩ (by rw [LG_length]; omega) HFK.out)
          go_upto_region 15 with (go_at_call 55; refine Calls.mono HAd.out ?_; rintro e w6 ⟨rfl, hd6, hk6⟩)
          have hr6 := hk6.row (owns_mod HR5.out hpc (fun _ _ h => h)) (by decide)
          clear hpc HAd kc
          go_wp2
          go_roundw
          case rel => exact ⟨j + 1, a7, c7, by go_num, by rw [HL1.out], by go_num, hlt, by rw [HLG.out]; exact hd6, hr6, HF5.out⟩
          case measure => simp [intOf]; omega
        · have hjm : j = m := by omega
          subst hjm
          have hlt' : ¬ ((j : Int) < (j : Int)) := by omega
          obtain ⟨iB, hiB, iB0, iB1, iB2⟩ := info_parts infoBool
          clear HD
          have wj : IntKind.i64.wrap (j : Int) = j := IntWalk.i64_in _ (by omega)
          go_upto_region 17 with (at_make; refine wpList_make_full _ rfl _ _ 30 rfl 0 4 iB _ 1 Tryz.underlying30 hiB iB0 iB1 .i64 .i64 _ _ j rfl rfl rfl rfl (by rw [iB2]; omega) (by unfold maxLen; omega) (Nat.zero_le _) ?_; intro w5 hown hgrow)
          have hpm : Pure wr w5 := Mod.of_grown hgrow (fun k e _ => by cases e)
          have hrow0 : w5.ownsRow 0 4 1 (.slice (some ⟨wr.heap.size, 0, none⟩) j j) j (boolL (List.replicate j false)) := by
            rw [← made_falseG]; exact hown
          have hw5 : w.heap.size ≤ wr.heap.size := HI.out.df.pu.size
          have HD5 := Lib.hid (HI.out.df.pure hpm)
          have HB5 := Lib.hid (owns_mod HI.out.row hpm (fun _ _ h => h)); have HBF := Lib.hid HI.out.fr
          have HR0 := Lib.hid hrow0
          clear hown hgrow hpm hrow0 HI
          obtain ⟨bt, hbt⟩ : ∃ b, wr.heap.size = b := ⟨_, rfl⟩
          rw [hbt] at HR0 hw5 ⊢
          clear hbt
          go_upto_region 18 with fail
          go_loopw [69] (fun v69 wr => ∃ (i : Nat), v69 = .int .i64 (i : Nat) ∧ i ≤ j ∧ DF w wr d 5 false (LG ss j) ∧ wr.ownsRow 0 22 1 (.slice ab j cb) j (u64L (BG ss j)) ∧ wr.ownsRow 0 4 1 (.slice (some ⟨bt, 0, none⟩) j j) j (boolL (List.replicate i true ++ List.replicate (j - i) false))) (fun v69 _ => j - (intOf v69).toNat)
          case atStart => exact ⟨0, rfl, Nat.zero_le _, HD5.out, HB5.out, by simpa using HR0.out⟩
          case round =>
            obtain ⟨i, rfl, hi, hdf, hrb, hrt⟩ := hrel
            have HDF := Lib.hid hdf; have HRB := Lib.hid hrb; have HRT := Lib.hid hrt
            clear hdf hrb hrt
            by_cases hlt : i < j
            · have hlt2 : (i : Int) < (j : Int) := by omega
              have wi : IntKind.i64.wrap ((i : Int) + 1) = (i : Int) + 1 := IntWalk.i64_in _ (by omega)
              have i0 : (0 : Int) ≤ (i : Int) := by omega
              obtain ⟨g, cc, hsv, _, hgl, hcc, hff, _⟩ := owns_at HRT.out (by omega)
              cases hsv
              have zc := hcc i (.bool false) (by unfold boolL; rw [List.getElem?_map, List.getElem?_append_right (by simp), List.length_replicate, Nat.sub_self, List.getElem?_replicate, if_pos (by omega)]; rfl)
              clear hcc
              go_wp2
              have hm : Mod (fun k => k = bt) wr (wr.setCell ⟨bt, i, none⟩ (.bool true)) := Mod.set1 _ _ _
              obtain ⟨cur, ht⟩ := owns_type HRT.out (g := bt) rfl
              have hset := owns_setCell HRT.out i (.bool true) (by omega)
              have e1 : (boolL (List.replicate i true ++ List.replicate (j - i) false)).set i (.bool true) = boolL (List.replicate (i + 1) true ++ List.replicate (j - (i + 1)) false) := by
                unfold boolL
                rw [show j - i = (j - (i + 1)) + 1 by omega, List.replicate_succ, List.map_append, List.set_append_right _ _ (by simp)]
                simp [List.replicate_succ']
              rw [e1] at hset
              go_roundw
              case rel => exact ⟨i + 1, by go_num, hlt, HDF.out.boxed hm (T := 4) (fun k hk => by subst hk; exact ⟨hw5, _, _, ht⟩) (by decide) (by decide), owns_modT HRB.out hm (fun k hk _ => by subst hk; exact ⟨_, _, _, ht, by decide⟩), hset⟩
              case measure => simp [intOf]; omega
            · have hij : i = j := by omega
              subst hij
              have hlt2 : ¬ ((i : Int) < (i : Int)) := by omega
              have hrt1 := HRT.out
              rw [Nat.sub_self, List.replicate_zero, List.append_nil] at hrt1
              have HRT1 := Lib.hid hrt1
              clear hrt1 HRT HR0 HB5 HD5
              obtain ⟨Bs, hBs⟩ : ∃ Bs, BG ss i = Bs := ⟨_, rfl⟩
              have hBlen : Bs.length = i := by rw [← hBs]; exact BG_length ss i
              have HBM : Hid (∀ b ∈ Bs, b ≤ 15360) := Lib.hid (fun b hb => by
                rw [← hBs] at hb
                unfold BG at hb
                obtain ⟨q, hq, rfl⟩ := List.mem_map.1 hb
                have h1 := lastG_le HSU.out (q + 1)
                have h2 := List.mem_range.1 hq
                omega)
              have HG0 : Hid (G3 w Bs ab cb bt d (LG ss i) (List.replicate i true) wr) := by
                have hsl2 := HSL.out
                exact ⟨HDF.out, LG_inc HSU.out (by omega) c2, by rw [← hBs]; exact sel_start ss i, by rw [hBlen]; simp, by rw [hBlen, ← hBs]; exact HRB.out, by rw [hBlen]; exact HRT1.out⟩
              clear hBs HRB HRT1 HDF
              go_wp2
              have HBL : Hid (Bs.length = i) := Lib.hid hBlen
              go_loopw [5, 12, 13] (fun v5 v12 v13 wr => ∃ (d' at0 nn : Nat) (L : List (Option Ent)) (T : List Bool), v5 = .pointer (some ⟨d', 0, none⟩) ∧ v12 = .int .u64 (at0 : Nat) ∧ v13 = .int .i64 (nn : Nat) ∧ nn ≤ at0 ∧ at0 ≤ 15360 ∧ G3 w Bs ab cb bt d' L T wr) (fun _ v12 _ _ => 20000 - (intOf v12).toNat)
              case atStart => exact ⟨d, 0, 0, _, _, rfl, rfl, rfl, Nat.le_refl _, by omega, HG0.out⟩
              case round =>
                obtain ⟨d', at0, nn, L', T', rfl, rfl, rfl, hnn, hat, hG⟩ := hrel
                have HST := Lib.hid hG
                clear hG HG0
                have wnn : IntKind.i64.wrap ((nn : Int) + 1) = (nn : Int) + 1 := IntWalk.i64_in _ (by omega)
                have nn0 : (0 : Int) ≤ (nn : Int) := by omega
                go_upto_if 79 with fail
                go_cut [5] (fun v5 wc => ∃ (d2 : Nat) (L2 : List (Option Ent)) (T2 : List Bool), v5 = .pointer (some ⟨d2, 0, none⟩) ∧ G3 w Bs ab cb bt d2 L2 T2 wc)
                case first =>
                  by_cases cn : nn < k
                  · have dn : decide ((nn : Int) < (k : Int)) = true := decide_eq_true (by omega)
                    have cn' : (nn : Int) < (k : Int) := by omega
                    have hgl2 := HGL.out
                    obtain ⟨g, hgg⟩ : ∃ g, gs[nn]? = some g := ⟨_, List.getElem?_eq_getElem (by omega)⟩
                    have hg8 := HGU.out g (List.mem_of_getElem? hgg)
                    obtain ⟨a', n', c', e, _, _, hh0, hcc⟩ := (HG.out.frame HST.out.df.pu (fun _ _ h => h))
                    cases e
                    obtain ⟨ad, rfl⟩ : ∃ ad, a1 = some ad := by
                      cases a1 with
                      | none => have := hh0 rfl; omega
                      | some ad => exact ⟨ad, rfl⟩
                    have cg := hcc ad rfl nn (.int .u8 g) (by rw [List.getElem?_map, hgg]; rfl)
                    clear hcc hh0 hgg hgl2
                    by_cases c200 : 200 ≤ g
                    · have d200 : decide ((200 : Int) ≤ (g : Int)) = true := decide_eq_true (by omega)
                      have HCT := Lib.hid (compT HST.out.df)
                      go_wp2_with (go_at_call 46; refine Calls.mono HCT.out ?_; rintro e w5 ⟨d2, a, n, c, rfl, hd2, hp2⟩; dsimp only [dPtr]; have HD2 := Lib.hid hd2; have HP2 := Lib.hid hp2; clear hd2 hp2)
                      go_meet
                      have hpa : ∀ o, Pure w5 (w5.alloc o) := fun o => (Mod.refl _ w5).alloc o
                      exact ⟨d2, packL L', T', rfl, HD2.out.pure (hpa _), HST.out.inc.pack, by rw [liveB_pack]; exact HST.out.sel, HST.out.len, owns_mod HST.out.rb (HP2.out.trans (hpa _)) (fun _ _ h => h), owns_mod HST.out.rt (HP2.out.trans (hpa _)) (fun _ _ h => h)⟩
                    · have d200 : decide ((200 : Int) ≤ (g : Int)) = false := decide_eq_false (by omega)
                      have wg : IntKind.u32.wrap (g : Int) = g := by simp [IntKind.wrap, IntKind.signed, IntKind.bits]; omega
                      cases hhb : hasL L' g with
                      | true =>
                        obtain ⟨x, hx⟩ := hasL_iff.1 hhb
                        have HRT := Lib.hid (remHitT HST.out.df hx)
                        have HX := Lib.hid hx
                        clear hx hhb
                        go_upto_region 30 with (go_at_call 19; refine Calls.mono HRT.out ?_; rintro e w5 ⟨a, n, c, rfl, hd2, hk⟩)
                        have HD2 := Lib.hid hd2; have HK := Lib.hid hk
                        clear hd2 hk HRT
                        have hpa := (Mod.refl (fun _ => False) w5).alloc (.cells #[.string x.key, .slice a n c, .int .u64 x.dl, .int .u64 x.birth] 42)
                        have z17 := heap_new (w := w5) (o := .cells #[.string x.key, .slice a n c, .int .u64 x.dl, .int .u64 x.birth] 42 (0, 0)) rfl
                        have HDa := Lib.hid (HD2.out.pure hpa)
                        have hrb := owns_mod (HK.out.row HST.out.rb (by decide)) hpa (fun _ _ h => h)
                        have hrt := owns_mod (HK.out.row HST.out.rt (by decide)) hpa (fun _ _ h => h)
                        have hne : bt ≠ w5.heap.size := fun e => by
                          obtain ⟨cc, e2⟩ := owns_type hrt (g := bt) rfl
                          rw [e, z17] at e2
                          cases e2
                        have HRB4 := Lib.hid hrb; have HRT4 := Lib.hid hrt; have HINC := Lib.hid (HST.out.inc.rm g); have HSEL := Lib.hid HST.out.sel; have HTL := Lib.hid HST.out.len; have HI0 := Lib.hid HST.out.inc
                        clear hpa hrb hrt HD2 HK HST
                        generalize w5.alloc (.cells #[.string x.key, .slice a n c, .int .u64 x.dl, .int .u64 x.birth] 42) = W5 at *
                        have zx := cell_of_row _ _ 3 _ _ _ z17
                        simp at zx
                        clear z17
                        obtain ⟨b17, hb17⟩ : ∃ b, w5.heap.size = b := ⟨_, rfl⟩
                        rw [hb17] at zx hne ⊢
                        clear hb17
                        obtain ⟨xb, hxb⟩ : ∃ xb, x.birth = xb := ⟨_, rfl⟩
                        rw [hxb] at zx
                        have HXB := Lib.hid hxb
                        have HZX := Lib.hid zx
                        clear hxb zx
                        go_upto_region 32 with fail
                        go_loopw [112] (fun v112 wr => ∃ (i4 : Nat), v112 = .int .i64 (i4 : Nat) ∧ i4 ≤ i ∧ DF w wr d' 5 false (L'.set g none) ∧ wr.ownsRow 0 22 1 (.slice ab Bs.length cb) Bs.length (u64L Bs) ∧ wr.ownsRow 0 4 1 (.slice (some ⟨bt, 0, none⟩) Bs.length Bs.length) Bs.length (boolL (offK xb Bs T' i4)) ∧ wr.cell? ⟨b17, 3, none⟩ = some (.int .u64 xb)) (fun v112 _ => i - (intOf v112).toNat)
                        case atStart => exact ⟨0, rfl, Nat.zero_le _, HDa.out, HRB4.out, by simpa [offK] using HRT4.out, HZX.out⟩
                        case round =>
                          obtain ⟨i4, rfl, hi4, hdf, hrb, hrt, hzx⟩ := hrel
                          have HDF := Lib.hid hdf; have HRB := Lib.hid hrb; have HRT := Lib.hid hrt; have HZ := Lib.hid hzx
                          clear hdf hrb hrt hzx HDa HRB4 HRT4 HZX
                          by_cases hlt4 : i4 < i
                          · have hlt4' : (i4 : Int) < (i : Int) := by omega
                            have wi4 : IntKind.i64.wrap ((i4 : Int) + 1) = (i4 : Int) + 1 := IntWalk.i64_in _ (by omega)
                            have i40 : (0 : Int) ≤ (i4 : Int) := by omega
                            have hBl := HBL.out
                            have hTl := HTL.out
                            obtain ⟨bq, hbq⟩ : ∃ b, Bs[i4]? = some b := ⟨_, List.getElem?_eq_getElem (by omega)⟩
                            obtain ⟨tq, htq⟩ : ∃ t, T'[i4]? = some t := ⟨_, List.getElem?_eq_getElem (by omega)⟩
                            have hst := offK_step (xb := xb) hTl hbq htq
                            obtain ⟨gb, ccb, hsvb, _, _, hccb, _⟩ := owns_at HRB.out (by omega)
                            obtain ⟨e1, e2⟩ : ab = some ⟨gb, 0, none⟩ ∧ cb = ccb := by cases hsvb; exact ⟨rfl, rfl⟩
                            have zb := hccb i4 (.int .u64 bq) (by unfold u64L; rw [List.getElem?_map, hbq]; rfl)
                            have HSTP := Lib.hid hst
                            clear hccb hbq htq hTl hsvb hst
                            subst e1 e2
                            have zx := HZ.out
                            have zb2 : wr.drew.cell? ⟨gb, i4, none⟩ = _ := zb
                            have zx2 : wr.drew.cell? ⟨b17, 3, none⟩ = _ := zx
                            go_upto_region 34 with fail
                            go_cut [121] (fun v wx => v = .bool ((bq : Int) == xb) ∧ Pure wr wx)
                            case first =>
                              go_region_held3 (fun w' => w'.cell? ⟨gb, i4, none⟩ = some (.int .u64 bq) ∧ w'.cell? ⟨b17, 3, none⟩ = some (.int .u64 xb)) (first | go_keep | exact ⟨zb2, zx2⟩) (fail)
                              all_goals
                                try go_wp2
                                go_meet
                                exact ⟨by first | rfl | trivial | simp, (Mod.refl _ _).drew⟩
                            case rest =>
                              obtain ⟨rfl, hpw⟩ := hcut
                              have HDF2 := Lib.hid (HDF.out.pure hpw); have HRB2 := Lib.hid (owns_mod HRB.out hpw (fun _ _ h => h)); have HRT2 := Lib.hid (owns_mod HRT.out hpw (fun _ _ h => h)); have HZ2 := Lib.hid (hpw.cell (fun h => h) HZ.out)
                              clear HDF HRB HRT HZ zb zx zb2 zx2 hpw
                              cases hq : ((bq : Int) == xb) with
                              | true =>
                                have hstp := HSTP.out
                                rw [hq, if_pos rfl] at hstp
                                obtain ⟨g9, cc9, hsv9, _, hgl9, hcc9, hff9, _⟩ := owns_at HRT2.out (by omega)
                                cases hsv9
                                obtain ⟨v9, hv9⟩ : ∃ v, (boolL (offK xb Bs T' i4))[i4]? = some v := ⟨_, List.getElem?_eq_getElem (by have := HRT2.out.1; have := HBL.out; omega)⟩
                                have zc := hcc9 i4 v9 hv9
                                have hset := owns_setCell HRT2.out i4 (.bool false) (by have := HBL.out; omega)
                                obtain ⟨cur, ht⟩ := owns_type HRT2.out (g := bt) rfl
                                have e1 : (boolL (offK xb Bs T' i4)).set i4 (.bool false) = boolL (offK xb Bs T' (i4 + 1)) := by rw [hstp]; simp [boolL]
                                rw [e1] at hset
                                have HSET := Lib.hid hset; have HT := Lib.hid ht
                                clear hcc9 hv9 hset ht e1 hstp hq
                                go_wp2
                                have hm : Mod (fun k => k = bt) wc (wc.setCell ⟨bt, i4, none⟩ (.bool false)) := Mod.set1 _ _ _
                                go_roundw
                                case rel => exact ⟨i4 + 1, by go_num, hlt4, HDF2.out.boxed hm (T := 4) (fun k hk => by subst hk; exact ⟨hw5, _, _, HT.out⟩) (by decide) (by decide), owns_modT HRB2.out hm (fun k hk _ => by subst hk; exact ⟨_, _, _, HT.out, by decide⟩), HSET.out, hm.cell (fun e => hne e.symm) HZ2.out⟩
                                case measure => simp [intOf]; omega
                              | false =>
                                have hstp := HSTP.out
                                rw [hq] at hstp
                                have HSTP2 := Lib.hid hstp
                                clear hstp
                                go_wp2
                                go_roundw
                                case rel => exact ⟨i4 + 1, by go_num, hlt4, HDF2.out, HRB2.out, by rw [HSTP2.out]; exact HRT2.out, HZ2.out⟩
                                case measure => simp [intOf]; omega
                          · have hji : i4 = i := by omega
                            subst hji
                            have hlt4' : ¬ ((i4 : Int) < (i4 : Int)) := by omega
                            go_wp2
                            go_meet
                            have hBl := HBL.out
                            have hTl := HTL.out
                            have hrm : rmL L' g = L'.set g none := by unfold rmL; rw [if_pos (hasL_iff.2 ⟨x, HX.out⟩)]
                            have hinc := HINC.out
                            rw [hrm] at hinc
                            exact ⟨d', L'.set g none, offK xb Bs T' Bs.length, rfl, HDF.out, hinc, by rw [liveB_set HI0.out HX.out, HXB.out, HSEL.out, offK_end hTl], offK_len hTl _, HRB.out, by rw [hBl]; rw [hBl] at HRT; exact HRT.out⟩
                      | false =>
                        have HRT := Lib.hid (remMissT HST.out.df (by omega) hhb)
                        clear hhb
                        go_upto_region 30 with (go_at_call 19; refine Calls.mono HRT.out ?_; rintro e w5 ⟨rfl, hd2, hp2⟩)
                        have HD2 := Lib.hid hd2; have HP2 := Lib.hid hp2
                        clear hd2 hp2
                        go_wp2
                        go_meet
                        have hpa : ∀ o, Pure w5 (w5.alloc o) := fun o => (Mod.refl _ w5).alloc o
                        exact ⟨d', L', T', rfl, HD2.out.pure (hpa _), HST.out.inc, HST.out.sel, HST.out.len, owns_mod HST.out.rb (HP2.out.trans (hpa _)) (fun _ _ h => h), owns_mod HST.out.rt (HP2.out.trans (hpa _)) (fun _ _ h => h)⟩
                  · have dn : decide ((nn : Int) < (k : Int)) = false := decide_eq_false (by omega)
                    go_wp2
                    go_meet
                    exact ⟨d', L', T', rfl, HST.out⟩
                case rest =>
                  obtain ⟨d2, L2, T2, rfl, hG2⟩ := hcut
                  have HST2 := Lib.hid hG2
                  clear hG2 HST
                  go_wp2
                  go_loopw [20, 130] (fun v20 v130 wx => ∃ (j2 : Nat), v20 = .int .i64 (-1) ∧ v130 = .int .i64 (j2 : Nat) ∧ j2 ≤ i ∧ (∀ q p, q < j2 → (Bs.zip T2)[q]? = some p → (p.2 && decide (at0 < p.1)) = false) ∧ wx = wc) (fun _ v130 _ => i - (intOf v130).toNat)
                  case atStart => exact ⟨0, rfl, rfl, Nat.zero_le _, fun q p hq => absurd hq (by omega), rfl⟩
                  case round =>
                    obtain ⟨j2, rfl, rfl, hj2, hno, rfl⟩ := hrel
                    have HNO := Lib.hid hno
                    clear hno
                    by_cases hlt5 : j2 < i
                    · have hlt5' : (j2 : Int) < (i : Int) := by omega
                      have wj2 : IntKind.i64.wrap ((j2 : Int) + 1) = (j2 : Int) + 1 := IntWalk.i64_in _ (by omega)
                      have j20 : (0 : Int) ≤ (j2 : Int) := by omega
                      have hBl := HBL.out
                      have hTl := HST2.out.len
                      obtain ⟨bq, hbq⟩ : ∃ b, Bs[j2]? = some b := ⟨_, List.getElem?_eq_getElem (by omega)⟩
                      obtain ⟨tq, htq⟩ : ∃ t, T2[j2]? = some t := ⟨_, List.getElem?_eq_getElem (by omega)⟩
                      have hzq : (Bs.zip T2)[j2]? = some (bq, tq) := by rw [List.getElem?_zip_eq_some]; exact ⟨hbq, htq⟩
                      have zt := rowcell (k := 0) HST2.out.rt (j := j2) (u := .bool tq) (by unfold boolL; rw [List.getElem?_map, htq]; rfl)
                      obtain ⟨gb, ccb, hsvb, _, _, hccb, _⟩ := owns_at HST2.out.rb (by omega)
                      obtain ⟨e1, e2⟩ : ab = some ⟨gb, 0, none⟩ ∧ cb = ccb := by cases hsvb; exact ⟨rfl, rfl⟩
                      have zb := hccb j2 (.int .u64 bq) (by unfold u64L; rw [List.getElem?_map, hbq]; rfl)
                      have HZQ := Lib.hid hzq
                      clear hccb hbq htq hzq hTl
                      have hnext : (tq && decide (at0 < bq)) = false → ∀ q p, q < j2 + 1 → (Bs.zip T2)[q]? = some p → (p.2 && decide (at0 < p.1)) = false := fun hf q p hq hz => by
                        rcases Nat.lt_or_ge q j2 with h1 | h1
                        · exact HNO.out q p h1 hz
                        · have : q = j2 := by omega
                          subst this
                          rw [HZQ.out] at hz; cases hz; exact hf
                      have HNX := Lib.hid hnext
                      clear hnext
                      subst e1 e2
                      cases tq with
                      | false =>
                        go_wp2
                        go_roundw
                        case rel => exact ⟨j2 + 1, rfl, by go_num, hlt5, HNX.out rfl, trivial⟩
                        case measure => simp [intOf]; omega
                      | true =>
                        by_cases c5 : at0 < bq
                        · have d5 : decide ((at0 : Int) < (bq : Int)) = true := decide_eq_true (by omega)
                          have hw : wantG (Bs.zip T2) at0 = some j2 := by
                            unfold wantG
                            obtain ⟨hi2, he2⟩ := List.getElem?_eq_some_iff.1 HZQ.out
                            refine List.findIdx?_eq_some_iff_getElem.2 ⟨hi2, by rw [he2]; simp [c5], fun q hq => ?_⟩
                            have := HNO.out q _ hq (List.getElem?_eq_getElem (by omega))
                            rw [this]; simp
                          obtain ⟨pre, g, post, b', hl, hpre, hgt, hzb, hgb⟩ := want_some HST2.out.sel hw
                          have hb' : b' = bq := by rw [HZQ.out] at hzb; cases hzb; rfl
                          subst hb'
                          have hinc := HST2.out.inc.inc
                          have hA := after_at hl hinc (b := (at0 : Int)) (by omega) hpre hgt
                          simp only [Int.toNat_natCast] at hA
                          have hgm := live_mem (g := g) (by rw [hl]; simp)
                          have hg1 : g.1 ≤ 4294967295 := by have := (List.getElem?_eq_some_iff.1 hgm).1; have := HST2.out.df.ok.len; omega
                          have hbmax : b' ≤ 15360 := by
                            obtain ⟨hz1, _⟩ := List.getElem?_zip_eq_some.1 HZQ.out
                            exact HBM.out b' (List.mem_of_getElem? hz1)
                          have HAf := Lib.hid (afterT HST2.out.df at0 (by omega) hA)
                          have HGt := Lib.hid (fun (W : World) (hW : Pure _ W) => getT (HST2.out.df.pure hW) hgm)
                          have dneg : decide ((j2 : Int) < 0) = false := decide_eq_false (by omega)
                          obtain ⟨s1, x1⟩ := g
                          dsimp only at HAf HGt hgb hgt
                          rw [show (x1.birth) = (b' : Int) from hgb] at hgt
                          have HGB := Lib.hid hgb
                          clear hl hpre hinc hA hgm hw hzb hgb
                          go_upto_region 48 with (go_at_call 60; refine Calls.mono HAf.out ?_; rintro e wB ⟨rfl, hpB⟩)
                          go_upto_region 49 with (go_at_call 35; refine Calls.mono (HGt.out _ hpB) ?_; rintro e wC ⟨a5, n5, c5', rfl, _, _, hpC⟩)
                          rw [HGB.out]
                          have hpD : Pure wC (wC.alloc (.cells #[.string x1.key, .slice a5 n5 c5', .int .u64 x1.dl, .int .u64 b'] 42)) := (Mod.refl _ wC).alloc _
                          have z24 := heap_new (w := wC) (o := .cells #[.string x1.key, .slice a5 n5 c5', .int .u64 x1.dl, .int .u64 b'] 42 (0, 0)) rfl
                          have hpE := (hpB.trans hpC).trans hpD
                          have zb2 := hpE.cell (fun h => h) zb
                          have HSE := Lib.hid (HST2.out.pure hpE)
                          clear hpB hpC hpD hpE zb zt
                          generalize wC.alloc (.cells #[.string x1.key, .slice a5 n5 c5', .int .u64 x1.dl, .int .u64 b'] 42) = wE at *
                          generalize wC.heap.size = b24 at *
                          have z24_0 := cell_of_row _ _ 0 _ _ _ z24; have z24_1 := cell_of_row _ _ 1 _ _ _ z24; have z24_2 := cell_of_row _ _ 2 _ _ _ z24; have z24_3 := cell_of_row _ _ 3 _ _ _ z24; have z24_f := (fun j => frozen_of_row _ _ j _ _ z24); have z24_l := lt_of_block z24; simp at z24_0 z24_1 z24_2 z24_3; have H_z24 := Lib.hid z24; clear z24
                          have y1 : wE.drew.cell? ⟨b24, 3, none⟩ = _ := z24_3
                          have y2 : wE.drew.cell? ⟨gb, j2, none⟩ = _ := zb2
                          go_region_held3 (fun w' => w'.cell? ⟨b24, 3, none⟩ = some (.int .u64 b') ∧ w'.cell? ⟨gb, j2, none⟩ = some (.int .u64 b')) (first | go_keep | exact ⟨y1, y2⟩) (fail)
                          all_goals
                            try go_wp2
                            go_roundw
                            case rel => exact ⟨d2, b', nn + 1, L2, T2, rfl, rfl, by go_num, by omega, hbmax, by first | exact HSE.out | exact HSE.out.pure ((Mod.refl _ _).drew)⟩
                            case measure => simp [intOf]; omega
                        · have d5 : decide ((at0 : Int) < (bq : Int)) = false := decide_eq_false (by omega)
                          go_wp2
                          go_roundw
                          case rel => exact ⟨j2 + 1, rfl, by go_num, hlt5, HNX.out (by simp [c5]), trivial⟩
                          case measure => simp [intOf]; omega
                    · have hji : j2 = i := by omega
                      subst hji
                      have hlt5' : ¬ ((j2 : Int) < (j2 : Int)) := by omega
                      have hBl := HBL.out
                      have hTl := HST2.out.len
                      have hw : wantG (Bs.zip T2) at0 = none := by
                        unfold wantG
                        refine List.findIdx?_eq_none_iff.2 (fun p hp => ?_)
                        obtain ⟨q, hq⟩ := List.getElem?_of_mem hp
                        have hql := (List.getElem?_eq_some_iff.1 hq).1
                        rw [List.length_zip] at hql
                        exact HNO.out q p (by omega) hq
                      have hA := after_end (L := L2) (b := (at0 : Int)) (by omega) (want_none HST2.out.sel hw)
                      simp only [Int.toNat_natCast] at hA
                      have HAf := Lib.hid (afterT HST2.out.df at0 (by omega) hA)
                      have HPU := Lib.hid HST2.out.df.pu
                      have dneg : decide ((-1 : Int) < 0) = true := rfl
                      clear hA hw hBl hTl HNO
                      go_wp2_with (first
                        | (go_at_call 60; refine Calls.mono HAf.out ?_; rintro e wB ⟨rfl, hpB⟩)
                        | (go_at_call 52; refine Calls.mono (HKn.out _) ?_; rintro e w1 ⟨rfl, hp1⟩))
                      go_ret
                      exact ⟨rfl, (HPU.out.trans hpB).trans hp1⟩
    · have d2 : decide (60 < (k : Int)) = true := decide_eq_true (by omega)
      clear c2 c3 hsl hgl
      go_enter Tryz.func9, Tryz.ntmps9
      go_wp2_with (go_at_call 52; refine Calls.mono (HKn.out _) ?_; rintro e w1 ⟨rfl, hp1⟩)
      go_ret
      exact ⟨rfl, hp1⟩
  · have d1 : decide (60 < (m : Int)) = true := decide_eq_true (by omega)
    clear c2 hsl hgl
    go_enter Tryz.func9, Tryz.ntmps9
    go_wp2_with (go_at_call 52; refine Calls.mono (HKn.out _) ?_; rintro e w1 ⟨rfl, hp1⟩)
    go_ret
    exact ⟨rfl, hp1⟩
end Go.Proofs.YtpafcocciggfpaaGreat
