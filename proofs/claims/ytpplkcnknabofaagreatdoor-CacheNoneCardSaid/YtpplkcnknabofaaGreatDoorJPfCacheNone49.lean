/- Lemmas and contracts of functions. No condition. -/
import Derived.Test.YtpplkcnknabofaaGreatDoorJPfCacheNone48
namespace Go.Proofs.YtpplkcnknabofaaGreatDoor
open _root_.Go.Proofs.Tryz
set_option maxRecDepth 100000
set_option maxHeartbeats 20000000
set_option linter.all false
section
open Go.RowKit Go.Shelf
theorem zma(w:World)(hT:xy w)(what:Int)(T:Nat)(_:T<18446744073709551616)(key:ByteArray)(_:key.size≤9223372036854775807)(a:Option Addr)(n c:Nat)(_:n≤9223372036854775807)(N:Nat)(_:N<18446744073709551616)(cnt byt:Int) :
    Calls prog 6 #[.agg #[.int .i64 what,.int .u64 T,.string key,.slice a n c,.int .u64 N,.int .i64 cnt,.int .i64 byt]] w fun e w'=>e=.returned (.bool true)∧zb w w':=by
  have x1:=zi (w:=w) (o := .cells #[.int .i64 what,.int .u64 T,.string key,.slice a n c,.int .u64 N,.int .i64 cnt,.int .i64 byt] 36 (0,0)) rfl;have x2:=zi (w:=(w.alloc (.cells #[.int .i64 what,.int .u64 T,.string key,.slice a n c,.int .u64 N,.int .i64 cnt,.int .i64 byt] 36))) (o := .cells #[.int .i64 what,.int .u64 T,.string key,.slice a n c,.int .u64 N,.int .i64 cnt,.int .i64 byt] 36 (0,0)) (n:=w.heap.size+1) (by simp);have a2:zb (w.alloc (.cells #[.int .i64 what,.int .u64 T,.string key,.slice a n c,.int .u64 N,.int .i64 cnt,.int .i64 byt] 36)) ((w.alloc (.cells #[.int .i64 what,.int .u64 T,.string key,.slice a n c,.int .u64 N,.int .i64 cnt,.int .i64 byt] 36)).alloc (.cells #[.int .i64 what,.int .u64 T,.string key,.slice a n c,.int .u64 N,.int .i64 cnt,.int .i64 byt] 36)):=(Mod.refl _ _).alloc _;have a1:zb w (w.alloc (.cells #[.int .i64 what,.int .u64 T,.string key,.slice a n c,.int .u64 N,.int .i64 cnt,.int .i64 byt] 36)):=(Mod.refl _ _).alloc _;have X1:=za (a2.heap (fun h=>h) x1);have X2:=za x2;have A1:=za (a1.trans a2);have HKn:=za (fun(W:World) (hW:zb w W)=>ziu W (hT.pure hW));clear a1 a2 hT x2;obtain⟨x1_0,x1_1,x1_2,x1_3,x1_4,x1_5,x1_6,x1_f,x1_l,H_x1⟩:=cr7 x1;clear x1;by_cases hb:key.size≤300∧n≤300
  case neg =>
    have HF:=za (zbc X2.out);rw[zQ hb]at HF;clear hb;go_enter func6,ntmps6
    go_wp2_with (first
      | (go_at_call 11;refine HF.out.mono ?_;rintro e w' ⟨rfl,rfl⟩)
      | (go_at_call 12;refine(HKn.out _ A1.out).mono ?_;rintro e w' ⟨rfl,hp⟩))
    have hpp:=A1.out.trans hp;exact zK (v := .bool true) (by simp[results,results6,go_sem]) rfl ⟨rfl,hpp⟩
  case pos =>
    have HF:=za (zbc X2.out);rw[zL hb]at HF;obtain⟨hk3,hn3⟩:=hb;have HK:Hid (key.size≤140737488355328):=za (by omega);have HV:Hid (n≤140737488355328):=za (by omega);clear hk3 hn3;go_enter func6,ntmps6;go_upto_region 3 with(go_at_call 11;refine HF.out.mono ?_;rintro e w' ⟨rfl,rfl⟩)
    clear x1_0 x1_1 x1_2 x1_3 x1_4 x1_5 x1_6 x1_f x1_l;clear H_x1 X2 HF;generalize((w.alloc (.cells #[.int .i64 what,.int .u64 T,.string key,.slice a n c,.int .u64 N,.int .i64 cnt,.int .i64 byt] 36)).alloc (.cells #[.int .i64 what,.int .u64 T,.string key,.slice a n c,.int .u64 N,.int .i64 cnt,.int .i64 byt] 36))=W at *;generalize w.heap.size=q0 at X1 ⊢;have z1:=zi (w:=W) (o := .cells #[.pointer none,.pointer none,.pointer none,.pointer none,.pointer none,.pointer none,.int .i64 0,.int .i64 0,.int .i64 0,.int .u64 0,.bool false] 85 (0,0)) rfl;have z2:=zi (w:=(W.alloc (.cells #[.pointer none,.pointer none,.pointer none,.pointer none,.pointer none,.pointer none,.int .i64 0,.int .i64 0,.int .i64 0,.int .u64 0,.bool false] 85))) (o := .cells #[.pointer none,lkP W.heap.size] 30 (0,0)) (n:=W.heap.size+1) (by simp);have b2:zb (W.alloc (.cells #[.pointer none,.pointer none,.pointer none,.pointer none,.pointer none,.pointer none,.int .i64 0,.int .i64 0,.int .i64 0,.int .u64 0,.bool false] 85)) ((W.alloc (.cells #[.pointer none,.pointer none,.pointer none,.pointer none,.pointer none,.pointer none,.int .i64 0,.int .i64 0,.int .i64 0,.int .u64 0,.bool false] 85)).alloc (.cells #[.pointer none,lkP W.heap.size] 30)):=(Mod.refl _ _).alloc _;have b1:zb W (W.alloc (.cells #[.pointer none,.pointer none,.pointer none,.pointer none,.pointer none,.pointer none,.int .i64 0,.int .i64 0,.int .i64 0,.int .u64 0,.bool false] 85)):=(Mod.refl _ _).alloc _;have Z1:=za (b2.heap (fun h=>h) z1);have Z2:=za z2;have B1:=za (b1.trans b2);clear b1 b2 z1 z2;go_upto_region 4 with fail
    generalize((W.alloc (.cells #[.pointer none,.pointer none,.pointer none,.pointer none,.pointer none,.pointer none,.int .i64 0,.int .i64 0,.int .i64 0,.int .u64 0,.bool false] 85)).alloc (.cells #[.pointer none,lkP W.heap.size] 30))=V at *;generalize W.heap.size=q1 at *;have HZ:=za (ze5 Z1.out);have Z:Hid (∀ Y,zb V Y→Y.cell? ⟨q0,1,none⟩=some (.int .u64 T)∧Y.cell? ⟨q0,2,none⟩=some (.string key)∧Y.cell? ⟨q0,3,none⟩=some (.slice a n c)∧Y.cell? ⟨q0,4,none⟩=some (.int .u64 N)∧Y.cell? ⟨q0,5,none⟩=some (.int .i64 cnt)∧Y.cell? ⟨q0,6,none⟩=some (.int .i64 byt)):=za (fun Y hY=>by
      have h9:=hY.heap (fun h=>h) (B1.out.heap (fun h=>h) X1.out);exact⟨zf Y q0 1 _ _ (0,0) h9,zf Y q0 2 _ _ (0,0) h9,zf Y q0 3 _ _ (0,0) h9,zf Y q0 4 _ _ (0,0) h9,zf Y q0 5 _ _ (0,0) h9,zf Y q0 6 _ _ (0,0) h9⟩)
    go_loopw [16] (fun v16 wr => ∃ i:Nat,v16=.int .i64 (i:Nat)∧i≤2∧zb V wr) (fun v16 _=>2-(intOf v16).toNat)
    case atStart=>exact⟨0,rfl,yh _,Mod.refl _ _⟩
    case round =>
      obtain⟨i,rfl,hi2,hp⟩:=hrel;by_cases hlt:i<2
      · have hlt':(i:Int)<2:=by omega
        have i0:(0:Int)≤(i:Int):=by omega
        have wi:IntKind.i64.wrap ((i:Int)+1)=(i:Int)+1:=zt _ (by omega);obtain⟨o,hv,hn⟩ : ∃ o,wr.cell? ⟨q1+1,i,none⟩=some (.pointer o)∧NoC V o:=by
          rcases(show i=0∨i=1 by omega)with rfl | rfl
          · exact⟨none,by rw[zf wr _ 0 _ _ (0,0) (hp.heap (fun h=>h) Z2.out)];rfl,zfn V⟩
          · exact⟨some ⟨q1,0,none⟩,by rw[zf wr _ 1 _ _ (0,0) (hp.heap (fun h=>h) Z2.out)];rfl,HZ.out⟩
        have HN:=za hn;have HP:=za hp;clear hn hp;obtain⟨y1,y2,y3,y4,y5,y6⟩:=Z.out _ HP.out;go_upto_region 8 with(first
          | (go_at_call 40;refine zm (zii (HN.out.pure HP.out)) ?_;rintro e w' ⟨rfl,rfl⟩)
          | (go_at_call 16;refine zm (zh8 (HN.out.pure HP.out) T HK.out HV.out) ?_;rintro e w' ⟨rfl,hq⟩;clear y1 y2 y3 y4 y5 y6;replace HP:=za (HP.out.trans hq);obtain⟨y1,y2,y3,y4,y5,y6⟩:=Z.out _ HP.out)
          | (go_at_call 17;refine zm (zd7 (HN.out.pure HP.out) T N) ?_;rintro e w' ⟨rfl,hq⟩;clear y1 y2 y3 y4 y5 y6;replace HP:=za (HP.out.trans hq);obtain⟨y1,y2,y3,y4,y5,y6⟩:=Z.out _ HP.out)
          | (go_at_call 41;refine zm (zlM (HN.out.pure HP.out) T HK.out) ?_;rintro e w' ⟨rfl,hq⟩;clear y1 y2 y3 y4 y5 y6;replace HP:=za (HP.out.trans hq);obtain⟨y1,y2,y3,y4,y5,y6⟩:=Z.out _ HP.out)
          | (go_at_call 36;refine zm (zf9 (HN.out.pure HP.out) T HK.out) ?_;rintro e w' ⟨rfl,hq⟩;clear y1 y2 y3 y4 y5 y6;replace HP:=za (HP.out.trans hq);obtain⟨y1,y2,y3,y4,y5,y6⟩:=Z.out _ HP.out)
          | (go_at_call 42;refine zm (ze1 (HN.out.pure HP.out) T N HK.out) ?_;rintro e w' ⟨rfl,hq⟩;clear y1 y2 y3 y4 y5 y6;replace HP:=za (HP.out.trans hq);obtain⟨y1,y2,y3,y4,y5,y6⟩:=Z.out _ HP.out)
          | (go_at_call 32;refine zm (zdQ (HN.out.pure HP.out) T HK.out) ?_;rintro e w' ⟨rfl,hq⟩;clear y1 y2 y3 y4 y5 y6;replace HP:=za (HP.out.trans hq);obtain⟨y1,y2,y3,y4,y5,y6⟩:=Z.out _ HP.out)
          | (go_at_call 37;refine zm (zho (HN.out.pure HP.out) T) ?_;rintro e w' ⟨rfl,hq⟩;clear y1 y2 y3 y4 y5 y6;replace HP:=za (HP.out.trans hq);obtain⟨y1,y2,y3,y4,y5,y6⟩:=Z.out _ HP.out)
          | (go_at_call 22;refine zm (ziK (HN.out.pure HP.out) T cnt byt) ?_;rintro e w' ⟨rfl,hq⟩;clear y1 y2 y3 y4 y5 y6;replace HP:=za (HP.out.trans hq);obtain⟨y1,y2,y3,y4,y5,y6⟩:=Z.out _ HP.out)
          | (go_at_call 43;refine zm (zfT (HN.out.pure HP.out) T) ?_;rintro e w' ⟨rfl,hq⟩;clear y1 y2 y3 y4 y5 y6;replace HP:=za (HP.out.trans hq);obtain⟨y1,y2,y3,y4,y5,y6⟩:=Z.out _ HP.out)
          | (go_at_call 23;refine zm (zko (HN.out.pure HP.out) T) ?_;rintro e w' ⟨rfl,hq⟩;clear y1 y2 y3 y4 y5 y6;replace HP:=za (HP.out.trans hq);obtain⟨y1,y2,y3,y4,y5,y6⟩:=Z.out _ HP.out)
          | (go_at_call 44;refine zm (zig (HN.out.pure HP.out) T N) ?_;rintro e w' ⟨rfl,hq⟩;clear y1 y2 y3 y4 y5 y6;replace HP:=za (HP.out.trans hq);obtain⟨y1,y2,y3,y4,y5,y6⟩:=Z.out _ HP.out)
        )
        clear y1 y2 y3 y4 y5 y6;go_upto_region 11 with(first
          | (go_at_call 24;refine zm (zjJ (HN.out.pure HP.out)) ?_;rintro e w' ⟨rfl,rfl⟩)
          | (go_at_call 33;refine zm (zlJ (HN.out.pure HP.out)) ?_;rintro e w' ⟨rfl,rfl⟩)
          | (go_at_call 45;refine zm (zgs (HN.out.pure HP.out)) ?_;rintro e w' ⟨rfl,rfl⟩)
          | (go_at_call 29;refine zm (zgj (HN.out.pure HP.out)) ?_;rintro e w' ⟨rfl,rfl⟩)
          | (go_at_call 46;refine zm (zg4 (HN.out.pure HP.out)) ?_;rintro e w' ⟨rfl,rfl⟩)
          | (go_at_call 15;refine zm (zhh (HN.out.pure HP.out)) ?_;rintro e w' ⟨rfl,rfl⟩)
          | (go_at_call 47;refine zm (zjc (HN.out.pure HP.out)) ?_;rintro e w' ⟨rfl,hq⟩;replace HP:=za (HP.out.trans hq))
          | (go_at_call 14;refine zm (zks (HN.out.pure HP.out)) ?_;rintro e w' ⟨rfl,rfl⟩)
          | (go_at_call 35;refine zm (zgW (HN.out.pure HP.out) _) ?_;rintro e w' ⟨rfl,rfl⟩)
          | (go_at_call 49;refine zm (zf6 (HN.out.pure HP.out)) ?_;rintro e w' ⟨rfl,hq⟩;replace HP:=za (HP.out.trans hq))
          | (go_at_call 48;refine zm (zmn _) ?_;rintro e w' ⟨rfl,hq⟩;replace HP:=za (HP.out.trans hq))
          | (go_at_call 50;refine zm (zjm (HN.out.pure HP.out)) ?_;rintro e w' ⟨rfl,rfl⟩)
        )
        go_wp2;go_roundw
        case rel=>exact⟨i+1,by go_num,hlt,HP.out⟩
        case measure=>simp[intOf];omega
      · have e:i=2:=by omega
        subst e;have HP:=za (A1.out.trans (B1.out.trans hp));clear hp
        go_wp2_with (go_at_call 12;refine(HKn.out _ HP.out).mono ?_;rintro e w' ⟨rfl,hp⟩)
        have hpp:=HP.out.trans hp;exact zK (v := .bool true) (by simp[results,results6,go_sem]) rfl ⟨rfl,hpp⟩
end
end Go.Proofs.YtpplkcnknabofaaGreatDoor
