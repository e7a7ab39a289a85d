/- Lemmas and contracts of functions. No condition. -/
import Derived.Test.YtdohbogbnheakaaGreatDoorJPfBoth4010
import Derived.Lib.AppendZerosOnto
import Derived.Deep.Slices
import Derived.Laws.CopyRow
namespace Go.Proofs.YtdohbogbnheakaaGreatDoor
open _root_.Go.Proofs.Tryz
set_option maxRecDepth 100000
set_option maxHeartbeats 20000000
set_option linter.all false
section
open Go.RowKit Go.Maps
def jg(lim:Int)(B:List Wt):Bool:=decide (0<B.length)&&(lim == -1||decide (lim<(zw B:Nat)))
def dem(lim:Int):List Wt→List Wt→List Wt × List Wt × List Nat
 | A,[]=>(A,[],[])
 | A,b::B=>if jg lim (b::B)then((dem lim (A++[b]) B).1,(dem lim (A++[b]) B).2.1,b.slot::(dem lim (A++[b]) B).2.2)else(A,b::B,[])
theorem VF{lim:Int}{A B:List Wt}(h:jg lim B=false):dem lim A B=(A,B,[]):=by
 cases B with
 | nil=>rfl
 | cons b B=>unfold dem;rw[h];rfl
theorem VJ{lim:Int}{A B:List Wt}{b:Wt}(h:jg lim (b::B)=true):dem lim A (b::B)=((dem lim (A++[b]) B).1,(dem lim (A++[b]) B).2.1,b.slot::(dem lim (A++[b]) B).2.2):=by
 rw[dem,zk h]
section
variable{w w':World}{D S:Nat→Prop}{o l0 l1 bm:Nat}{lim:Int}{D0 D1:Nat→Prop}{Dm:DataW Unit}{A B:List Wt}
theorem Aztp1 {P:Prop}(h:P:=by
 refine hTk 25 ?_;refine hTk 26 ?_;refine hDn ?_;clear h_;go_wp2;go_ret;exact⟨rfl,(Mod.refl _ w).drew⟩):P:=h
theorem zia(h:yN w D o l0 l1 bm lim D0 D1 Dm A B){b1:Nat}(hb1:w.heap[b1]? = some (.cells #[lkP o] 129 (0,0))) :
  Calls prog 248 #[.pointer (some ⟨b1,0,none⟩)] w fun e w'=>e=.returned (.bool (jg lim B))∧zc w w':=by
 have hlen:(zA B).length=B.length:=by unfold zA;simp
 have HL:=zeT (h.q1.pure ((Mod.refl _ w).drew:zc w w.drew));rw[hlen]at HL;have HLn:=za HL;have hb:=h.box;clear h HL hlen;unfold jg;generalize zw A=sa at *;generalize zw B=sb at *;generalize B.length=n at *;obtain⟨hb_0,hb_1,hb_2,hb_3,hb_4,hb_5,hb_f,hb_l,H_hb⟩:=cr6 hb;clear hb;obtain⟨hb1_0,hb1_f,hb1_l,H_hb1⟩:=cr1 hb1;clear hb1;have k1:w.drew.cell? ⟨b1,0,none⟩=some (lkP o):=hb1_0;have k2:w.drew.cell? ⟨o,1,none⟩=some (lkP l1):=hb_1;have k3:w.drew.cell? ⟨o,3,none⟩=some (.int .i64 sb):=hb_3;have k5:w.drew.cell? ⟨o,5,none⟩=some (.int .i64 lim):=hb_5;by_cases hn:n=0
 ·subst hn;have e0:(decide (0<0)&&(lim == -1||decide (lim<(sb:Int))))=false:=by simp
  rw[e0];go_enter func248,ntmps248;go_upto_region 1 with fail
  refine rHd (S:=fun u=>u=w.drew) rfl (fun h_ => ?_);refine hLd 0 ?_;refine hTk 1 ?_;refine hTk 2 ?_;refine hTk 3 ?_;refine hLd 4 ?_
  (refine hSt 5 (fun K hK => ?_);go_simp;refine HLn.out.mono ?_;rintro e w2 ⟨rfl,rfl⟩;refine hK.out _ _ ?_ (fun h_ => ?_);(· rfl);clear hK K;refine clA ?_)
  refine hTk 6 ?_;refine hTk 7 ?_;refine hSk 8 ?_;refine hSk 9 ?_;refine hSk 10 ?_;refine hSk 11 ?_;refine hSk 12 ?_;refine hSk 13 ?_;refine hSk 14 ?_;refine hSk 15 ?_;refine hSk 16 ?_;refine hSk 17 ?_;refine hSk 18 ?_;refine hSk 19 ?_;refine hSk 20 ?_;refine hSk 21 ?_;refine hSk 22 ?_;refine hSk 23 ?_;refine hSk 24 ?_;exact Aztp1
 ·have d0:decide ((0:Int)<(n:Int))=true:=zP (by omega);have d1:decide (0<n)=true:=zP (by omega);rw[d1];by_cases hl:lim = -1
  ·subst hl;have e0:(true&&(((-1:Int) == -1)||decide ((-1:Int)<(sb:Int))))=true:=by simp
   rw[e0];go_enter func248,ntmps248;go_upto_region 1 with fail
   refine rHd (S:=fun u=>u=w.drew) rfl (fun h_ => ?_);refine hLd 0 ?_;refine hTk 1 ?_;refine hTk 2 ?_;refine hTk 3 ?_;refine hLd 4 ?_
   (refine hSt 5 (fun K hK => ?_);go_simp;refine HLn.out.mono ?_;rintro e w2 ⟨rfl,rfl⟩;refine hK.out _ _ ?_ (fun h_ => ?_);(· rfl);clear hK K;refine clA ?_)
   refine hTk 6 ?_;refine hTk 7 ?_;refine hLd 8 ?_;refine hTk 9 ?_;refine hTk 10 ?_;refine hLd 11 ?_;refine hTk 12 ?_;refine hTk 13 ?_;refine hSk 14 ?_;refine hSk 15 ?_;refine hSk 16 ?_;refine hSk 17 ?_;refine hSk 18 ?_;refine hSk 19 ?_;refine hSk 20 ?_;refine hSk 21 ?_;refine hSk 22 ?_;refine hSk 23 ?_;refine hTk 24 ?_;exact Aztp1
  ·have e1:(lim == -1)=false:=by simpa using hl
   have e0:(true&&((lim == -1)||decide (lim<(sb:Int))))=decide (lim<(sb:Int)):=by rw[e1];rfl
   rw[e0];go_enter func248,ntmps248;go_upto_region 1 with fail
   refine rHd (S:=fun u=>u=w.drew) rfl (fun h_ => ?_);refine hLd 0 ?_;refine hTk 1 ?_;refine hTk 2 ?_;refine hTk 3 ?_;refine hLd 4 ?_
   (refine hSt 5 (fun K hK => ?_);go_simp;refine HLn.out.mono ?_;rintro e w2 ⟨rfl,rfl⟩;refine hK.out _ _ ?_ (fun h_ => ?_);(· rfl);clear hK K;refine clA ?_)
   refine hTk 6 ?_;refine hTk 7 ?_;refine hLd 8 ?_;refine hTk 9 ?_;refine hTk 10 ?_;refine hLd 11 ?_;refine hTk 12 ?_;refine hTk 13 ?_;refine hLd 14 ?_;refine hTk 15 ?_;refine hTk 16 ?_;refine hTk 17 ?_;refine hLd 18 ?_;refine hLd 19 ?_;refine hTk 20 ?_;refine hTk 21 ?_;refine hLd 22 ?_;refine hTk 23 ?_;refine hTk 24 ?_;exact Aztp1
end
section
variable{w w':World}{D S:Nat→Prop}{o l0 l1 bm:Nat}{lim:Int}{D0 D1:Nat→Prop}{Dm:DataW Unit}{A B:List Wt}
theorem uc.trans'{D D' D'':Nat→Prop}{a b:World}(h:uc D D' a)(k:uc D' D'' b)(hs:a.heap.size≤b.heap.size):uc D D'' a:=fun i hi=>by
 rcases k i hi with e | e
 ·exact h i e
 ·exact .inr (zH hs e)
structure DmI(w wr:World)(D:Nat→Prop)(o l0 l1 bm b1:Nat)(lim:Int)(A B:List Wt)(a:Option Addr)(c:Nat)(A1 B1:List Wt)(g1:List Nat):Prop where
 mem : ∃ D' D0' D1' Dm',yN wr D' o l0 l1 bm lim D0' D1' Dm' A1 B1∧uc D D' w ∧ ∀ g,(Value.slice a g1.length c).ownBlock=some g → ¬ D' g∧w.heap.size≤g
 row:yw wr a c g1
 box:wr.heap[b1]? = some (.cells #[lkP o] 129 (0,0))
 eqn:dem lim A B=((dem lim A1 B1).1,(dem lim A1 B1).2.1,g1++(dem lim A1 B1).2.2)
 mod:Mod D w wr
def Vj(w:World)(D:Nat→Prop)(o:Nat)(lim:Int)(R:List Wt × List Wt × List Nat)(v:Value)(w':World):Prop :=
 ∃ a c,v=.slice a R.2.2.length c∧yw w' a c R.2.2∧(∃ D',yY w' D' o lim R.1 R.2.1∧uc D D' w ∧ ∀ g,(Value.slice a R.2.2.length c).ownBlock=some g → ¬ D' g∧w.heap.size≤g)∧Mod D w w'
theorem zdc(h:yN w D o l0 l1 bm lim D0 D1 Dm A B) :
  Calls prog 182 #[lkP o] w fun e w' => ∃ v,e=.returned v∧Vj w D o lim (dem lim A B) v w':=by
 have hal:zc w (w.alloc (.cells #[lkP o] 129)):=(Mod.refl _ w).alloc _;have hb1:=zj (w:=w) (o := .cells #[lkP o] 129 (0,0)) rfl;have HH:=za (h.pure hal);have HAL:=za hal;have HLT:=za (fun k (hk:D k)=>h.lt hk);have HB1:=za hb1;have hlen:=h.law.len;rw[zV]at hlen;clear h hal hb1;go_enter func182,ntmps182;go_upto_region 3 with fail
 generalize w.alloc (.cells #[lkP o] 129)=W1 at *;obtain⟨b1,hb1⟩:=zf w.heap.size;rw[hb1]at HB1 ⊢;have HE1:=za hb1;have hb1l:b1<W1.heap.size:=zm HB1.out;have hs1:w.heap.size≤W1.heap.size:=HAL.out.size;clear hb1;obtain⟨i0,hi,iz0,iz1,iz2⟩:=xG qt;go_loopw [4] (fun v wr => ∃(a:Option Addr) (c:Nat) (A1 B1:List Wt) (g1:List Nat),v=.slice a g1.length c∧DmI W1 wr D o l0 l1 bm b1 lim A B a c A1 B1 g1∧B1.length+g1.length=B.length) (fun v _=>B.length-(match v with | .slice _ n _=>n | _=>0))
 case atStart=>exact⟨none,0,A,B,[],rfl,⟨⟨D,D0,D1,Dm,HH.out,fun k hk => .inl hk,fun g hg=>by cases hg⟩,vJ _ _ _ _,HB1.out,by simp,Mod.refl _ _⟩,by simp⟩
 case round =>
  obtain⟨a,c,A1,B1,g1,rfl,hI,hBl⟩:=hrel;obtain⟨D',D0',D1',Dm',hm1,hg1,hof1⟩:=hI.mem;have HI:=za hI;have HM1:=za hm1;have HG1:=za hg1;have HOF:=za hof1;have HN:=za (zia hm1 hI.box);have nb1 : ¬ D' b1:=fun hk=>by
   rcases hg1 b1 hk with e | e
   ·have:=HLT.out b1 e;have:=HE1.out;omega
   ·omega
  have HNB:=za nb1;have szr:W1.heap.size≤wr.heap.size:=hI.mod.size;clear hI hm1 hg1 hof1 nb1
  cases hnd:jg lim B1 with
  | false =>
   rw[hnd]at HN;have HND:=za hnd;clear hnd
   go_wp2_with (go_at_call 248;refine HN.out.mono ?_;rintro e w2 ⟨rfl,hp2⟩)
   go_ret;have heq:=HI.out.eqn;rw[VF HND.out]at heq;simp only[List.append_nil]at heq;refine⟨_,rfl,?_⟩;rw[heq];exact⟨a,c,rfl,zy HI.out.row hp2 (fun _ _ h=>h),⟨D',⟨l0,l1,bm,D0',D1',Dm',HM1.out.pure hp2⟩,fun k hk=>(HG1.out k hk).imp id (fun e=>zH hs1 e),fun g hg=>⟨(HOF.out g hg).1,zH hs1 (HOF.out g hg).2⟩⟩,(HAL.out.trans' HI.out.mod (fun _ _ h=>h.elim) (fun _ _ h=>h)).trans (Mod.of_pure hp2)⟩
  | true =>
   rw[hnd]at HN
   cases B1 with
   | nil=>cases hnd
   | cons x B2 =>
    have HND:=za hnd;clear hnd;have hx:x∈A1++(x::B2):=by simp
    have hxr:=HM1.out.law.rng x hx;have HX:=za hx;have hnd2:=HM1.out.law.right;have hno : ∀ y∈B2,y.slot≠x.slot:=fun y hy e=>(yO.1 (show(x.slot::zA B2).Nodup from hnd2)).1 (zz.2 ⟨y,hy,e⟩)
    have hoA:zx A1 x.slot=A1:=ZK (fun y hy e=>HM1.out.law.apart hy (yE) e);have hoB:zx (x::B2) x.slot=B2:=by
     unfold zx;rw[List.filter_cons_of_neg (by simp)];exact ZK hno
    have HOA:=za hoA;have HOB:=za hoB;have HNO:=za hno;clear hx hnd2 hno hoA hoB;obtain⟨m,hm⟩:=zf g1.length;have hm4:m≤4194304:=by rw[← hm];omega
    have HMm:=za hm;simp only[hm]at hBl ⊢;have HBl:=za hBl;clear hm hBl
    -- needed, Oldest
    have hob:=HM1.out.box;have HOl:=za (fun W (hW:zc wr W)=>zgv (x:=x.slot) (l:=zA B2) (HM1.out.q1.pure hW));have hlk:=fun W (hW:zc wr W)=>((HM1.out.costs.mod hW (fun h=>h))).look1 HX.out (by omega)
    have HLk:=za hlk;clear hlk;go_upto_region 4 with(go_at_call 248;refine HN.out.mono ?_;rintro e w2 ⟨rfl,hp2⟩)
    have hob2:=hp2.heap (fun h=>h) hob;have hbx2:=hp2.heap (fun h=>h) HI.out.box;have HP2:=za hp2;clear hp2 hob;generalize zw A1=sa at *;generalize zw (x::B2)=sb at *;have HO2:=za hob2;have HX2:=za hbx2;obtain⟨hob2_0,hob2_1,hob2_2,hob2_3,hob2_4,hob2_5,hob2_f,hob2_l,H_hob2⟩:=cr6 hob2;clear hob2;obtain⟨hbx2_0,hbx2_f,hbx2_l,H_hbx2⟩:=cr1 hbx2;clear hbx2;go_upto_region 5 with(go_at_call 250;refine(HOl.out _ HP2.out).mono ?_;rintro e w3 ⟨rfl,hp3⟩)
    have hp23:=HP2.out.trans hp3;have hob3:=hp3.heap (fun h=>h) HO2.out;have hbx3:=hp3.heap (fun h=>h) HX2.out;have HO3:=za hob3;have HX3:=za hbx3;have hlw:=HLk.out w3 hp23;have HT:=za (zaB (HM1.out.pure hp23) (x:=x) yE);have HP3:=za hp23;clear hob2_0 hob2_1 hob2_2 hob2_3 hob2_4 hob2_5 hob2_f hob2_l;clear hbx2_0 hbx2_f hbx2_l;clear H_hob2 H_hbx2 hp3 hp23;obtain⟨hob3_0,hob3_1,hob3_2,hob3_3,hob3_4,hob3_5,hob3_f,hob3_l,H_hob3⟩:=cr6 hob3;clear hob3;obtain⟨hbx3_0,hbx3_f,hbx3_l,H_hbx3⟩:=cr1 hbx3;clear hbx3;go_upto_region 7 with(go_at_call 180;refine HT.out.mono ?_;rintro e w4 ⟨rfl,⟨Dm4,h4⟩,hm4'⟩)
    rw[HOA.out,HOB.out]at h4;have hbx4:=hm4'.heap HNB.out HX3.out;have hns:x.slot∉zA (A1++B2):=by
     intro hh;obtain⟨y,hy,e⟩:=zz.1 hh;rcases yz.1 hy with hy | hy
     ·exact HM1.out.law.apart hy (yE) e
     ·exact HNO.out y hy e
    have HPu:=za (Jf h4 hxr.1 hxr.2 hns);have HM4:=za hm4';clear hob3_0 hob3_1 hob3_2 hob3_3 hob3_4 hob3_5 hob3_f hob3_l;clear hbx3_0 hbx3_f hbx3_l;clear H_hob3 H_hbx3 h4 hm4' hlw hns;obtain⟨hbx4_0,hbx4_f,hbx4_l,H_hbx4⟩:=cr1 hbx4;clear hbx4;go_upto_region 8 with(go_at_call 181;refine HPu.out.mono ?_;rintro e w5 ⟨rfl,⟨D5,D05,Dm5,h5,hg5⟩,hm5⟩)
    have sz34:w3.heap.size≤w4.heap.size:=HM4.out.size;have sz3:wr.heap.size≤w3.heap.size:=HP3.out.size;have sz5:w4.heap.size≤w5.heap.size:=hm5.size;have hmr5:Mod D' wr w5:=((Mod.of_pure HP3.out).trans HM4.out).trans hm5;have hg5':uc D' D5 wr:=fun k hk=>(hg5 k hk).imp id (fun e=>by omega)
    have hrow5:w5.ownsRow 0 143 1 (.slice a m c) m (zX g1):=by
     have:=HI.out.row;unfold yw at this;rw[HMm.out]at this;exact zy this hmr5 (fun g hg hk=>(HOF.out g (by rw[HMm.out];exact hg)).1 hk)
    have hbx5:=hm5.heap HNB.out H_hbx4.out;have HR5:=za hrow5;have HM5:=za hmr5;have HG5:=za hg5';have H5:=za h5;have HX5:=za hbx5;clear hbx4_0 hbx4_f hbx4_l;clear H_hbx4 hm5 hmr5 hg5 hg5' hrow5 hbx5 h5
    go_wp2_with (at_builtin;refine uK _ rfl _ _ 213 rfl 143 i0 _ 1 4 underlying213 hi iz0 iz1 iz2 rfl (by decide) (.slice a m c) m _ rfl (zy HR5.out ((Mod.refl (fun _=>False) w5).alloc _) (fun _ _ h=>h)) _ [.int .u32 (x.slot:Nat)] 1 rfl (zo.of_block 1 1 1 (zj rfl) (by rfl) (by simp[Value.oneCell'])) rfl (by unfold maxLen;omega) (by omega) ?_;intro a7 c7 w7 hr7 hg7 hb7)
    go_roundw
    case rel =>
     have hp57:Mod (fun k=>(Value.slice a m c).ownBlock=some k) w5 w7:=((Mod.refl _ w5).alloc _).trans (Mod.of_grown (S:=fun k'=>(Value.slice a m c).ownBlock=some k') hg7 (fun k e _=>e));have hsl : ∀ g,(Value.slice a m c).ownBlock=some g → ¬ D' g∧W1.heap.size≤g:=fun g hg=>HOF.out g (by rw[HMm.out];exact hg)
     have hslw : ∀ g,(Value.slice a m c).ownBlock=some g→g<wr.heap.size:=fun g hg=>by
      have:=HI.out.row;unfold yw at this;rw[HMm.out]at this;exact vY this hg
     have n5 : ∀ k,D5 k → ¬ (Value.slice a m c).ownBlock=some k:=fun k hk e=>by
      rcases HG5.out k hk with e2 | e2
      ·exact(hsl k e).1 e2
      ·have:=hslw k e;omega
     refine⟨a7,c7,A1++[x],B2,g1++[x.slot],by simp[HMm.out],⟨⟨D5,D05,D1',Dm5,H5.out.frame hp57 n5,HG1.out.trans' HG5.out szr,fun g hg => ?_⟩,?_,?_,?_,?_⟩,?_⟩
     ·rw[zV,HMm.out]at hg;rcases hb7 with e | e
      ·have hg':(Value.slice a m c).ownBlock=some g:=by rw[← e];exact hg
       exact⟨fun hk=>n5 g hk hg',(hsl g hg').2⟩
      ·have hg':g=(w5.alloc (.cells #[.int .u32 (x.slot:Nat)] 143)).heap.size:=by rw[show(Value.slice a7 (m+1) c7).ownBlock=some g from hg]at e;injection e
       refine⟨fun hk => ?_,?_⟩
       ·have:=H5.out.lt hk;simp at hg';omega
       ·simp at hg';omega
     ·unfold yw;rw[zV,HMm.out,qS];exact hr7
     ·exact hp57.heap (fun e=>by have:=(hsl b1 e).2;omega) HX5.out
     ·have:=HI.out.eqn;rw[VJ HND.out]at this;rw[this];simp
     ·refine(HI.out.mod.then HM5.out ?_).then hp57 ?_
      ·intro i hi hk;rcases HG1.out i hk with e | e
       ·exact e
       ·omega
      ·intro i hi hk;exact absurd (hsl i hk).2 (by omega)
     ·have:=HBl.out;simp at this;simp[HMm.out];omega
    case measure=>have:=HBl.out;simp at this;simp;omega
def xo(lim:Int)(A B:List Wt)(x:Wt):List Wt × List Wt × List Nat :=
 if lim = -1 then dem lim (zx A x.slot++[x]) (zx B x.slot)else dem lim (zx A x.slot) (zx B x.slot++[x])
theorem Az12k {P:Prop}(h:P:=by
 go_wp2_with (first
   | (go_at_call 181;refine HP.out.mono ?_;rintro e w2 ⟨rfl,⟨D2,D02,Dm2,h2,hg2⟩,hm2⟩;have HD:=za (zdc h2))
   | (go_at_call 182;refine HD.out.mono ?_;rintro e w3 ⟨v,rfl,hpost⟩))
 go_ret2;rw[HR2.out]at hpost;exact⟨v,rfl,FIN.out _ _ _ _ _ hg2 hm2 hpost⟩):P:=h
theorem zfI(h:yY w D o lim A B){x y:Wt}(hx:x∈A++B)(hy:y.slot=x.slot)(hc:y.cost≤1099511627776) :
    Calls prog 116 #[lkP o,.int .u32 x.slot,.int .i64 y.cost] w fun e w' => ∃ v,e=.returned (.tuple #[v,.int .i64 0])∧Vj w D o lim (xo lim A B y) v w':=by
  obtain⟨l0,l1,bm,D0,D1,Dm,h⟩:=h;have hs:=(h.law.rng x hx).1;have HC:=za (KQ h hs hc);have HT:=za (za3 h hx);have hns:y.slot∉zA (zx A y.slot++zx B y.slot):=by
    intro e;obtain⟨z,hz,e2⟩:=zz.1 e;rw[← qu]at hz;exact(j5.1 hz).2 e2
  have HNS:=za hns;obtain⟨s,c0⟩:=x;obtain⟨s2,c⟩:=y;dsimp only at *;subst hy;clear h hx hns;obtain⟨R,hR⟩:=zf (xo lim A B ⟨s2,c⟩);rw[hR];unfold xo at hR;dsimp only at hR;have HR:=za hR;clear hR;go_enter func116,ntmps116;go_upto_region 7 with(first
    | (go_at_call 114;refine HC.out.mono ?_;rintro e w' ⟨rfl,rfl⟩)
    | (go_at_call 180;refine HT.out.mono ?_;rintro e w1 ⟨rfl,⟨Dm1,h1⟩,hm⟩))
  have hb:=h1.box;have H1:=za h1;have HM:=za hm;clear h1 hm HT HC;generalize zw (zx A s2)=sa at *;generalize zw (zx B s2)=sb at *;have fin : ∀(w2 w3:World) (D2:Nat→Prop) (R:List Wt × List Wt × List Nat) (v:Value),uc D D2 w1→Mod D w1 w2→Vj w2 D2 o lim R v w3→Vj w D o lim R v w3:=by
    rintro w2 w3 D2 R v hg hm2 ⟨a,cc,rfl,hr,⟨D3,h3,hg3,hf3⟩,hm3⟩;have s1:=HM.out.size;have s2:=hm2.size;refine⟨a,cc,rfl,hr,⟨D3,h3,fun k hk => ?_,fun g hk=>⟨(hf3 g hk).1,by have:=(hf3 g hk).2;omega⟩⟩,(HM.out.trans hm2).then hm3 (fun i hi hk => ?_)⟩
    · rcases hg3 k hk with e | e
      · rcases hg k e with e | e
        · exact .inl e
        · exact .inr (by omega)
      · exact .inr (by omega)
    · rcases hg i hk with e | e
      · exact e
      · omega
  have FIN:=za fin;clear fin;obtain⟨hb_0,hb_1,hb_2,hb_3,hb_4,hb_5,hb_f,hb_l,H_hb⟩:=cr6 hb;clear hb;by_cases hl:lim = -1
  · subst hl
    have hR:=HR.out;rw[zk rfl]at hR;have HR2:=za hR;clear hR;have HP:=za (Jf (x:=⟨s2,c⟩) H1.out hs hc HNS.out);exact Az12k
  · have hl1:(lim == -1)=false:=by simpa using hl
    have hR:=HR.out;rw[zh hl]at hR;have HR2:=za hR;clear hR;have HP:=za (zgk (x:=⟨s2,c⟩) H1.out hs hc HNS.out);exact Az12k
end
end
section
open Go.RowKit Go.Maps Go.Shelf
attribute [local go_sem] Oper.semAt_some
theorem XG:(prog.info? 313).map (fun i=>(i.zero,i.size,i.bytes))=some (some (.agg #[.int .u32 0,.int .i64 0]),2,16):=by kernel_rfl
def wtC(x:Wt):List Value:=[.int .u32 x.slot,.int .i64 x.cost]
abbrev Z0(w:World)(a:Option Addr)(c:Nat)(xs:List Wt):Prop:=w.ownsRow 0 313 2 (.slice a xs.length c) xs.length (xs.flatMap wtC)
section
variable{w w':World}{D S:Nat→Prop}{o l0 l1 bm:Nat}{lim:Int}{D0 D1:Nat→Prop}{Dm:DataW Unit}{A B:List Wt}
theorem Q7(h:yN w D o l0 l1 bm lim D0 D1 Dm A B){g:Nat}(hg:g≤1):Calls prog 203 #[lkP o,.int .i64 g] w fun e w'=>e=.returned (.bool true)∧w=w':=by
 have HC:=za (KY h (s:=0) (by omega));clear h;obtain rfl | rfl:g=0∨g=1:=by omega
 all_goals
  go_enter func203,ntmps203
  go_wp2_with (go_at_call 114;refine HC.out.mono ?_;rintro e w' ⟨rfl,rfl⟩)
  go_ret;exact⟨rfl,rfl⟩
structure LsI(w:World)(o b2 b5 N:Nat)(L:List Wt)(pre:List Nat)(W:World):Prop where
 pu:zc w W
 r2:W.heap[b2]? = some (.cells #[lkP o] 129 (0,0))
 row : ∃ a c,W.heap[b5]? = some (.cells #[.slice a pre.length c] 240 (0,0))∧W.ownsRow 0 313 2 (.slice a pre.length c) pre.length ((L.take pre.length).flatMap wtC) ∧ ∀ g,(Value.slice a pre.length c).ownBlock=some g→N≤g
theorem LsI.quiet{o b2 b5 N0:Nat}{L:List Wt}{pre:List Nat}{A B:World}(h:LsI w o b2 b5 N0 L pre A){N:Nat}(hN:w.heap.size≤N)(hq:zB N A B):LsI w o b2 b5 N0 L pre B:=by
 obtain⟨a,c,h1,h2,h3⟩:=h.row;exact⟨hq.mod h.pu hN,hq.cells h.r2,a,c,hq.cells h1,hq.owns h2,h3⟩
def ZV(w:World)(L:List Wt)(e:Ending)(w':World):Prop := ∃ a c,e=.returned (.slice a L.length c)∧Z0 w' a c L∧xp w (.slice a L.length c)∧zc w w'
def LsS(o bm b2 x cc:Nat)(X:World):Prop:=X.cell? ⟨b2,0,none⟩=some (lkP o)∧X.cell? ⟨o,4,none⟩=some (.map (some bm))∧(Instr.lookup 209 (.map (some bm)) (.int .u32 x) false).run prog X=.ok (.int .i64 cc) X
theorem QO{G:Int}{L:List Wt}{lq:Nat}{Dq:Nat→Prop}(h:yN w D o l0 l1 bm lim D0 D1 Dm A B)(hG:G=0∧lq=l0∨G=1∧lq=l1)(hq : ∀ W,zc w W→xe W Dq lq (zA L))(hL : ∀ x∈L,x∈A++B)(hLl:L.length≤(A++B).length):Calls prog 135 #[lkP o,.int .i64 G] w (ZV w L):=by
 have hal:zc w ((w.alloc (.cells #[lkP o] 129)).alloc (.cells #[.slice none 0 0] 240)):=((Mod.refl _ w).alloc _).alloc _;have hal1:zc w (w.alloc (.cells #[lkP o] 129)):=(Mod.refl _ w).alloc _;have hb2:=zG (o := .cells #[.slice none 0 0] 240) (zj (w:=w) (o := .cells #[lkP o] 129 (0,0)) rfl);have hb5:=zj (w:=w.alloc (.cells #[lkP o] 129)) (o := .cells #[.slice none 0 0] 240 (0,0)) (n:=w.heap.size+1) (by simp);have HHs:Hid (Calls prog 203 #[lkP o,.int .i64 G] (w.alloc (.cells #[lkP o] 129)) fun e w'=>e=.returned (.bool true)∧(w.alloc (.cells #[lkP o] 129))=w'):=za (by
  rcases hG with⟨e,_⟩ | ⟨e,_⟩<;>rw[e]
  ·exact Q7 (h.pure hal1) (g:=0) (by omega)
  ·exact Q7 (h.pure hal1) (g:=1) (by omega))
 have HH:=za (h.pure hal);have HAll:=za (zg8 (hq _ hal));have hlen:L.length≤4194304:=by have:=h.law.len;omega
 have hsl:(zA L).length=L.length:=by unfold zA;simp
 have hob:=(h.pure hal).box;have HAL:=za hal;have HLT:=za (fun k (hk:D k)=>h.lt hk);have ho1:o<w.heap.size:=zm h.box;have hb1:bm<w.heap.size:=h.costs.own.lt;have HL9:=za hL;clear h hal hal1 hq hL hLl;obtain⟨i0,hi,iz0,iz1,iz2⟩:=xG XG;rcases hG with⟨rfl,rfl⟩ | ⟨rfl,rfl⟩
 all_goals
  (refine(yB (n:=0)).1 (callsIn_of_wp_marks func135 rfl trivial (vy.2 ?_) rfl);simp only[ntmps135,List.size_toArray,List.length_cons,List.length_nil,Nat.reduceAdd,Nat.reduceSub,Array.replicate_succ,Array.replicate_zero,List.push_toArray,List.append_toArray,List.nil_append,List.cons_append])
  go_upto_region 4 with(go_at_call 203;refine HHs.out.mono ?_;rintro e w' ⟨rfl,rfl⟩)
  generalize(w.alloc (.cells #[lkP o] 129)).alloc (.cells #[.slice none 0 0] 240)=W1 at *;obtain⟨b2,hbe⟩:=zf w.heap.size;rw[hbe]at hb2 hb5 ⊢;have HBE:=za hbe;clear hbe;have ho2:o<b2:=by have:=HBE.out;omega
  have hb22:bm<b2:=by have:=HBE.out;omega
  have HB2:=za hb2;have HB5:=za hb5;have HCo:=za (fun(x:Wt) (hx:x∈L) (X:World) (hX:Mod (fun k=>b2<k) W1 X)=>(HH.out.costs.mod hX (fun e=>by omega)).look1 (x:=x) (HL9.out x hx) (by have:=(HH.out.law.rng x (HL9.out x hx)).1;omega));have HOB:=za hob;have W1s:b2+1<W1.heap.size:=zm hb5;generalize zw A=sa at *;generalize zw B=sb at *;obtain⟨hob_0,hob_1,hob_2,hob_3,hob_4,hob_5,hob_f,hob_l,H_hob⟩:=cr6 hob;clear hob;obtain⟨hb2_0,hb2_f,hb2_l,H_hb2⟩:=cr1 hb2;clear hb2
  go_wp2_with (go_at_call 204;refine HAll.out.mono ?_;rintro e w3 ⟨B3,a3,c3,rfl,hit,hp3,hB3,hf3⟩)
  have hItlt : ∀ k,qK B3 a3 (zA L).length c3 k→k<w3.heap.size:=by
   rintro k (rfl | h2)
   ·exact zm hit.box
   ·exact vY hit.row h2
  have hItge : ∀ k,qK B3 a3 (zA L).length c3 k→W1.heap.size≤k:=by
   rintro k (rfl | h2)
   ·exact hB3
   ·exact hf3 k h2
  have hI0:LsI w o b2 (b2+1) w3.heap.size L [] w3:=⟨HAL.out.trans hp3,hp3.heap (fun h=>h) HB2.out,none,0,hp3.heap (fun h=>h) HB5.out,vJ _ _ _ _,fun g hg=>by cases hg⟩;have HI0:=za hI0;have HIT:=za hit;have HGE:=za hItge;have HIL:=za hItlt;have HP3:=za hp3;have s13:W1.heap.size≤w3.heap.size:=hp3.size;clear hob_0 hob_1 hob_2 hob_3 hob_4 hob_5 hob_f hob_l;clear hb2_0 hb2_f hb2_l;clear H_hob H_hb2 hI0 hit hItge hp3 hB3 hf3 hb5;generalize hItd:qK B3 a3 (zA L).length c3=It at *;refine vy.1 (XV (gf:=319) (lb:=#[.pointer (some ⟨B3,0,none⟩)]) rfl (enters_of func319 (by kernel_rfl) rfl) (It:=It) (hItd ▸ zcl HIT.out (by rw[hsl];exact hlen)) hItlt (fun _=>rfl)
   (fun pre W=>LsI w o b2 (b2+1) w3.heap.size L pre W∧Mod (fun k=>b2<k) W1 W∧w3.heap.size≤W.heap.size) (fun _ _ _=>False) ?hI ?hIx ⟨HI0.out,Mod.of_pure HP3.out,zI _⟩ ?round ?done ?stop)
  case hI=>exact fun pre A B ⟨h,hm,hz⟩ hq=>⟨h.quiet (by have:=HBE.out;omega) hq,Mod.trans' hm hq (fun i _ h=>h) (fun i hi h=>by have:=h.1;omega),zH hz hq.size⟩
  case hIx=>exact fun _ _ _ _ h _=>h
  case stop=>exact fun _ _ _ _ _ h _=>h.elim
  case done =>
   rintro lb xs W hlb hS ⟨hI,hmW,_⟩ hK;have hS':xs=zA L:=hS;obtain⟨a2,c2,h1,h2,h3⟩:=hI.row;have hxl:xs.length=L.length:=by rw[hS',hsl]
   rw[hxl]at h1 h2 h3;rw[List.take_length]at h2;have HI:=za hI;have H2:=za h2;have H3:=za h3;have hq:zB w3.heap.size _ _:=zB.putObj (.deferred none) hlb hK rfl;clear hI hS h2 h3 hItlt hItd hxl hS' hmW;obtain⟨n,hn⟩:=zf L.length;rw[hn]at h1;have HN:=za hn;clear hn;obtain⟨h1_0,h1_f,h1_l,H_h1⟩:=cr1 h1;clear h1;go_wp2;exact jy (v := .slice a2 n c2) hK (by simp[results,results135,go_sem]) ⟨a2,c2,by rw[HN.out],hq.owns H2.out,fun g hg=>by have:=H3.out g hg;have:=HBE.out;omega,hq.mod HI.out.pu (by have:=HBE.out;omega)⟩
  case round =>
   rintro lb pre x W K ⟨hI,hmW,hzW⟩ ⟨post,hpost⟩ hK;dsimp only[VX];have hpl:pre.length<L.length:=by have h:=congrArg List.length hpost;rw[hsl]at h;simp at h;omega
   obtain⟨y,hy⟩ : ∃ y,L[pre.length]? = some y:=⟨_,zL hpl⟩;have hyx:y.slot=x:=by
    have h1:(zA L)[pre.length]? = some y.slot:=by unfold zA;rw[yC,hy];rfl
    rw[hpost]at h1;simpa using h1.symm
   have hym:=yl hy;have htk:L.take (pre.length+1)=L.take pre.length++[y]:=by rw[uE,hy];rfl
   have HTK:=za htk;have HYM:=za hym;have HCI:=za hI;have HK:=za hK;have HMW:=za hmW;clear hI hK hItlt hpost hItd hmW htk hym hy;subst hyx;gi_wp2;refine HK.out _ _ (Mod.refl _ _) (fun l' W2 hl2 hr2 hq2 => ?_);have hI2:=HCI.out.quiet (by have:=HBE.out;omega) hq2;have HSZ:Hid (w3.heap.size≤W2.heap.size):=za (zH hzW hq2.size);have hm2:Mod (fun k=>b2<k) W1 W2:=Mod.trans' HMW.out hq2 (fun i _ h=>h) (fun i hi h=>by have:=h.1;omega);obtain⟨a2,c2,h1,h2,h3⟩:=hI2.row;have HI2:=za hI2;have HR2:=za h2;have HF2:=za h3;have HM2:=za hm2;have hbx:=hI2.r2;have hox:=hm2.heap (by omega) HOB.out;have hS0:LsS o bm b2 y.slot y.cost W2.drew:=⟨zi W2 b2 0 _ _ (0,0) hbx,zi W2 o 4 _ _ (0,0) hox,HCo.out y HYM.out W2.drew hm2.drew⟩;have HS:=za (fun(X:World) (hX:Mod (fun k=>b2<k) W2 X)=>(⟨zi X b2 0 _ _ (0,0) (hX.heap (by omega) hbx),zi X o 4 _ _ (0,0) (hX.heap (by omega) hox),HCo.out y HYM.out X (hm2.trans hX)⟩:LsS o bm b2 y.slot y.cost X));clear hI2 h2 h3 HK HCI hm2 hbx hox;obtain⟨j,hj⟩:=zf pre.length;rw[hj]at h1 HF2 hpl HR2;have HJ:=za hj;clear hj;obtain⟨sy,hsy⟩:=zf y.slot;obtain⟨cy,hcy⟩:=zf y.cost;rw[hsy,hcy]at hS0 HS;rw[hsy];have HSY:=za hsy;have HCY:=za hcy;clear hsy hcy;have H1:=za h1;gi_upto_region 6 with fail
   obtain⟨h1_0,h1_f,h1_l,H_h1⟩:=cr1 h1;clear h1;refine Ud (S:=LsS o bm b2 sy cy) (by kernel_rfl) (by kernel_rfl) ?hL hS0 (fun h_ => ?_)
   case hL=>rintro⟨a,w,h⟩;exact h
   refine hTk 1 ?_;refine hLd 2 ?_;refine hTk 3 ?_;refine hTk 4 ?_;refine hLd 5 ?_;refine hTk 6 ?_;refine hLd 7 ?_;refine hTk 8 ?_;refine uN (rs:=[0,9]) (by kernel_rfl) (by simp) ?_;refine vR rfl (fun K1 hK1 => ?_) (vR rfl (fun K1 hK1 => ?_) uM)
   focus
    go_simp;refine hK1.out _ _ h_ (fun h_ => ?_);clear hK1 K1;refine clA ?_
    (refine hSt 9 (fun K hK => ?_);go_simp;refine hK.out _ _ ?_ (fun h_ => ?_);(· exact HS.out _ (((Mod.refl _ W2).drew).alloc _));clear hK K;refine clA ?_)
   rotate_left 1
   focus
    go_simp;refine hK1.out _ _ (HS.out _ (((Mod.refl _ W2).drew).alloc _)) (fun h_ => ?_);clear hK1 K1;refine clA ?_
    (refine hSt 0 (fun K hK => ?_);go_simp;refine hK.out _ _ ?_ (fun h_ => ?_);(· exact h_);clear hK K;refine clA ?_)
   all_goals
    have hAl:Mod (fun k=>b2<k) W2 (W2.drew.alloc (.cells #[.int .u32 sy,.int .i64 cy] 313)):=((Mod.refl _ W2).drew).alloc _;have hK9:(W2.drew.alloc (.cells #[.int .u32 sy,.int .i64 cy] 313)).heap[b2+1]? = some (.cells #[.slice a2 j c2] 240 (0,0)):=zG (show W2.drew.heap[b2+1]? = _ from H1.out);refine uN (rs:=[10]) (by kernel_rfl) (by simp) ?_;refine vR rfl (fun K2 hK2 => ?_) uM;refine XU _ (by rfl) _ _ 240 (by rfl) 313 i0 _ 2 16 underlying240 hi iz0 iz1 iz2 rfl (by decide) (.slice a2 j c2) j _ (by rfl) (zy HR2.out (((Mod.refl (fun _=>False) W2).drew).alloc _) (fun _ _ h=>h)) _ [.int .u32 sy,.int .i64 cy] 1 (by rfl) (zo.of_block 1 1 2 (zj (by simp)) (by rfl) (by simp[Value.oneCell'])) (by rfl) (by unfold maxLen;omega) (by omega) ?_;intro a7 c7 w5 hr7 hg7 hb7;have hm5:Mod (fun k=>b2<k) W2 w5:=hAl.trans (Mod.of_grown hg7 (fun k e _=>by have:=HF2.out k e;omega));have h7b:=(Mod.of_grown (S:=fun k=>(Value.slice a2 j c2).ownBlock=some k) hg7 (fun k e _=>e)).heap (fun e=>by have:=HF2.out _ e;omega) hK9;have h75:=zi w5 _ 0 _ _ _ h7b;have h7f:=fun i=>yU w5 _ i _ _ h7b;have h7l:=zm h7b
    refine hK2.out _ _ (HS.out _ hm5) (fun h_ => ?_);clear hK2 K2;refine clA ?_
    (refine hSt 11 (fun K hK => ?_);go_simp;refine hK.out _ _ ?_ (fun h_ => ?_);(· exact HS.out _ (hm5.setCell (p:=⟨b2+1,0,none⟩) (fun _=>by show b2<b2+1;omega) _));clear hK K;refine clA ?_)
    refine hDn ?_;clear h_;have hM:Mod (fun k=>(Value.slice a2 j c2).ownBlock=some k∨k=b2+1) W2 (w5.setCell ⟨b2+1,0,none⟩ (.slice a7 (j+1) c7)) :=
     ((((Mod.refl _ W2).drew).alloc (.cells #[.int .u32 sy,.int .i64 cy] 313)).then (Mod.of_grown (S:=fun k=>(Value.slice a2 j c2).ownBlock=some k) hg7 (fun k e _=>e)) (fun _ _ h => .inl h)).setCell (fun _ => .inr rfl) _
    have hS2:b2+1<W2.heap.size:=zm H1.out;have hS3:w3.heap.size≤W2.heap.size:=HSZ.out;have h7 : ∀ g,(Value.slice a7 (j+1) c7).ownBlock=some g→w3.heap.size≤g:=fun g hg=>by
     rcases hb7 with e | e
     ·exact HF2.out g (e ▸ hg)
     ·rw[e]at hg;have hg2:(W2.drew.alloc (.cells #[.int .u32 sy,.int .i64 cy] 313)).heap.size=g:=by injection hg
      simp at hg2;omega
    refine⟨xl.of_mod hM (fun k _ h o ho => ?_),xk.of_mod hM (fun k hk h => ?_),⟨⟨HI2.out.pu.then hM (fun k hk h => ?_),?_,a7,c7,?_,?_,?_⟩,HM2.out.then hM (fun k hk h => ?_),zH hS3 hM.size⟩⟩
    ·rcases h with h | rfl
     ·obtain⟨cur,e⟩:=yc HR2.out h;rw[e]at ho;cases ho;rfl
     ·rw[H1.out]at ho;cases ho;rfl
    ·have h8:=HGE.out k hk;rcases h with h | h
     ·have:=HF2.out k h;have:=HIL.out k hk;omega
     ·omega
    ·have:=HBE.out;rcases h with h | h
     ·have:=HF2.out k h;omega
     ·omega
    ·exact hM.heap (fun h=>by rcases h with h | h;exact absurd (HF2.out _ h) (by omega);omega) HI2.out.r2
    ·rw[zV,HJ.out];simpa using ya w5 (b2+1) 0 _ _ (.slice a7 (j+1) c7) h7b
    ·rw[zV,HJ.out];rw[HJ.out]at HTK;rw[show j + [sy].length=j+1 from rfl,HTK.out,ZL];have h9:=zy hr7 ((Mod.refl (fun k=>k=b2+1) w5).setCell (p:=⟨b2+1,0,none⟩) (fun _=>rfl) (.slice a7 (j+1) c7)) (fun g hg e=>by have:=h7 g hg;omega);simpa[wtC,HSY.out,HCY.out]using h9
    ·rw[zV,HJ.out];exact h7
    ·rcases h with h | h
     ·have:=HF2.out k h;omega
     ·omega
theorem ziX(h:yN w D o l0 l1 bm lim D0 D1 Dm A B):Calls prog 135 #[lkP o,.int .i64 0] w (ZV w A):=QO h (.inl ⟨rfl,rfl⟩) (fun _ hW=>(h.pure hW).q0) (fun _ hx=>xT _ hx) (by rw[zV];omega)
theorem zdN(h:yN w D o l0 l1 bm lim D0 D1 Dm A B):Calls prog 135 #[lkP o,.int .i64 1] w (ZV w B):=QO h (.inr ⟨rfl,rfl⟩) (fun _ hW=>(h.pure hW).q1) (fun _ hx=>xM _ hx) (by rw[zV];omega)
end
end
section
open Go.RowKit
theorem Zs(xs:List Wt) : ∀ u∈xs.flatMap wtC,u.oneCell'=true:=by
 intro u hu;obtain⟨x,_,hu⟩:=ZX.1 hu;simp[wtC]at hu;rcases hu with rfl | rfl<;>rfl
theorem jF(xs:List Wt):(xs.flatMap wtC).length=xs.length*2:=by
 induction xs with
 | nil=>rfl
 | cons x r ih=>rw[qJ,zV,ih];simp[wtC];omega
@[go_sem] theorem zlq (w : World) (a : Option Addr) (n c : Nat) : (binOp .eql 240 (.slice a n c) (.slice none 0 0)).run prog w=.ok (.bool a.isNone) w :=
 Lib.run_eql_slice_nil w _ _ a n c 0 0 underlying240
section
variable{w:World}
def zeQ(w:World)(e:Ending)(w':World):Prop := ∃ a c,e=.returned (.slice a 0 c)∧w'.ownsRow 0 313 2 (.slice a 0 c) 0 []∧xp w (.slice a 0 c)∧zc w w'
theorem zhe(n:Nat)(hn:n≤8388608):Calls prog 314 #[.slice none 0 0,.int .i64 n] w (zeQ w):=by
 obtain⟨i0,hi,iz0,iz1,iz2⟩:=xG XG;have h1 : ¬ ((n:Int)<0):=by omega
 by_cases h0:n=0
 ·subst h0;go_enter func314,ntmps314;go_wp2;go_ret;exact⟨none,0,rfl,vJ _ _ _ _,(fun g e=>by cases e),Mod.refl _ _⟩
 ·have h4:(n:Int)>0:=by omega
  have w0:IntKind.i64.wrap ((0:Int)-0)=0:=by rfl
  have w1:IntKind.i64.wrap ((n:Int)-0)=n:=by rw[Int.sub_zero];exact zt _ (by omega)
  have hrz : ∀ ty,(Builtin.append_ #[240,3] ty #[.slice none 0 0,.int .i64 (n:Nat)]).run prog w=.ok (.slice (some ⟨w.heap.size,0,none⟩) n (grownCap w n 0 313)) (w.drew.alloc (.cells (#[]++Builtin.zeroCells #[.int .u32 0,.int .i64 0] n++Builtin.zeroCells #[.int .u32 0,.int .i64 0] (grownCap w n 0 313-n)) 313)):=fun ty=>by
   have h:=Lib.run_append_grow_zeros (P:=prog) w 240 3 ty 313 i0 _ .i64 .i64 underlying240 underlying3 hi iz0 none 0 0 [] (run_firstCells_none w.drew i0.size 0 0 0) n (by omega) (by rw[iz1];decide) (by omega) (by omega)
    (by rw[iz2];omega) (growslice_fits (by omega) (by rw[iz2];omega))
   rw[qn]at h;exact h
  have hGn:n≤grownCap w n 0 313:=grownCap_ge w _ _ _;have hG63:=grownCap_le_maxLen w n 0 313 (by unfold maxLen;omega);obtain⟨G,hG⟩:=zf (grownCap w n 0 313);rw[hG]at hrz hGn hG63;have hG64:G≤9223372036854775807:=by unfold maxLen at hG63;omega
  have hG65:(0:Int)≤(G:Int):=by omega
  have HG:=za hG63;clear hG hG63;go_enter func314,ntmps314
  go_wp2_with (at_builtin;refine Lib.wpList_append_run _ rfl _ _ _ _ rfl _ _ rfl rfl _ _ (hrz _) ?_)
  go_ret;refine⟨some ⟨w.heap.size,0,none⟩,G,rfl,World.ownsRow_made w.drew _ G (yi _) HG.out ?_,fun g e=>by cases e;exact zI _,((Mod.refl _ w).drew).alloc _⟩;simp[size_zeroCells];omega
theorem zhK(a:Option Addr)(n c:Nat)(xs:List Value)(hx:zo w (.slice a n c) 2 xs)(hn:n≤4294967295) :
  Calls prog 316 #[.slice a n c] w (Kb 313 2 xs w):=by
 obtain⟨i0,hi,hz0,hz1,hz2⟩:=xG XG;have hlen:xs.length=n*2:=jH hx
 cases a with
 | none =>
  have h0:=QI _ _ _ _ _ hx;have H:=za hx;clear hx;go_enter func316,ntmps316;exact Azyx6
 | some ad =>
  have H:=za (hx.frame ((Mod.refl (fun _=>False) w).alloc (.cells #[] 313)) (fun _ _ h=>h));clear hx;have HO:=za (zap w 313 2);go_enter func316,ntmps316
  go_wp2_with (at_builtin;refine uK _ rfl _ _ 240 rfl 313 i0 _ 2 16 underlying240 hi hz0 hz1 hz2 rfl (by decide) _ 0 [] rfl HO.out _ xs n rfl H.out hlen (by unfold maxLen;omega) (by omega) ?_;intro a' c' w1 ho hg hb)
  exact Az0xy
def zcO(xs ys:List Wt):Nat→List Wt
 | 0=>[]
 | 1=>xs
 | _=>xs++ys
structure XM(w:World)(zs:List Wt)(a:Option Addr)(c:Nat)(wr:World):Prop where
 row:Z0 wr a c zs
 fr:xp w (.slice a zs.length c)
 pu:zc w wr
theorem XM.app{zs ys:List Wt}{a a':Option Addr}{c c':Nat}{wr w':World}(h:XM w zs a c wr)(ho:w'.ownsRow 0 313 2 (.slice a' (zs.length+ys.length) c') (zs.length+ys.length) (zs.flatMap wtC++ys.flatMap wtC))(hg:wr.grownBy w' (Value.slice a zs.length c).ownBlock)
  (hb:(Value.slice a' (zs.length+ys.length) c').ownBlock=(Value.slice a zs.length c).ownBlock∨(Value.slice a' (zs.length+ys.length) c').ownBlock=some wr.heap.size):XM w (zs++ys) a' c' w':=by
 refine⟨?_,?_,h.pu.then (Mod.of_grown (S:=fun k=>(Value.slice a zs.length c).ownBlock=some k) hg (fun k e _=>e)) (fun i hi e=>by have:=h.fr i e;omega)⟩
 ·show World.ownsRow _ _ _ _ _ _ _
  rw[zV,ZL];exact ho
 ·rw[zV];intro g e;rcases hb with hb | hb
  ·exact h.fr g (hb ▸ e)
  ·rw[hb]at e;cases e;exact h.pu.size
theorem zke{b:Nat}{a1 a2:Option Addr}{c1 c2:Nat}{xs ys:List Wt}(hb:w.heap[b]? = some (.cells #[.slice a1 xs.length c1,.slice a2 ys.length c2] 240 (0,0)))
  (h1:zo w (.slice a1 xs.length c1) 2 (xs.flatMap wtC)) (h2:zo w (.slice a2 ys.length c2) 2 (ys.flatMap wtC)) (hx:xs.length≤4194304) (hy:ys.length≤4194304) :
  Calls prog 265 #[.slice (some ⟨b,0,none⟩) 2 2] w (ZV w (xs++ys)):=by
 obtain⟨i0,hi,iz0,iz1,iz2⟩:=xG XG;have HB:=za hb;have H1:=za h1;have H2:=za h2;have l1:=jF xs;have l2:=jF ys;obtain⟨n1,hn1⟩:=zf xs.length;obtain⟨n2,hn2⟩:=zf ys.length;have HN1:=za hn1;have HN2:=za hn2;have HL1:=za l1;have HL2:=za l2;rw[hn1]at hb hx;rw[hn2]at hb hy;clear h1 h2 hn1 hn2 l1 l2;have HGR:=za (zhe (w:=w) (n1+n2) (by omega));go_enter func265,ntmps265;obtain⟨hb_0,hb_1,hb_f,hb_l,H_hb⟩:=cr2 hb;clear hb;go_wp2;go_loopw [3,11] (fun v3 v11 wr => ∃(k s:Nat),k≤2∧v11=.int .i64 (k:Nat)∧v3=.int .i64 (s:Nat)∧(k=0→s=0)∧(k=1→s=n1)∧(k=2→s=n1+n2)∧wr=w) (fun _ v11 _=>2-(intOf v11).toNat)
 case atStart=>exact⟨0,0,by omega,rfl,rfl,by omega,by omega,by omega,rfl⟩
 case round =>
  obtain⟨k,s,hk,rfl,rfl,hs0,hs1,hs2,rfl⟩:=hrel;obtain rfl | rfl | rfl:k=0∨k=1∨k=2:=by omega
  ·obtain rfl:=hs0 rfl;clear hs0 hs1 hs2 hk;have e1:IntKind.i64.wrap (0+(n1:Int))=n1:=by rw[Int.zero_add];exact zt _ (by omega)
   have e2 : ¬ ((n1:Int)<0):=by omega
   go_wp2;go_roundw
   case rel=>exact⟨1,n1,by omega,rfl,rfl,by omega,by omega,by omega,by first | rfl | trivial⟩
   case measure=>simp[intOf]
  ·obtain rfl:=hs1 rfl;clear hs0 hs1 hs2 hk;have e1:IntKind.i64.wrap ((s:Int)+(n2:Int))=((s+n2:Nat):Int):=by rw[zt _ (by omega)];omega
   have e2 : ¬ (((s+n2:Nat):Int)<0):=by omega
   go_wp2;go_roundw
   case rel=>exact⟨2,s+n2,by omega,rfl,rfl,by omega,by omega,by omega,by first | rfl | trivial⟩
   case measure=>simp[intOf]
  ·obtain rfl:=hs2 rfl;clear hs0 hs1 hs2 hk;clear hb_0 hb_1 hb_f hb_l;clear H_hb
   go_wp2_with (go_at_call 314;refine HGR.out.mono ?_;rintro e w3 ⟨a3,c3,rfl,ho3,hf3,hp3⟩)
   have hb3:=hp3.heap (fun h=>h) HB.out;have HI0:Hid (XM wr [] a3 c3 w3):=za ⟨ho3,hf3,hp3⟩;have hr1:=H1.out.frame hp3 (fun _ _ h=>h);have hr2:=H2.out.frame hp3 (fun _ _ h=>h);have HP3:=za hp3;have HR1:=za H1.out;have HR2:=za H2.out;rw[HN1.out]at HR1;rw[HN2.out]at HR2;rw[HN1.out,HN2.out]at hb3;clear hr1 hr2 ho3 hf3 hp3;obtain⟨hb3_0,hb3_1,hb3_f,hb3_l,H_hb3⟩:=cr2 hb3;clear hb3;go_loopw [6,27] (fun v6 v27 wx => ∃(k m:Nat) (a:Option Addr) (c:Nat),k≤2∧v27=.int .i64 (k:Nat)∧v6=.slice a m c∧m=(zcO xs ys k).length∧XM wr (zcO xs ys k) a c wx) (fun _ v27 _=>2-(intOf v27).toNat)
   case atStart=>exact⟨0,0,a3,c3,by omega,rfl,rfl,rfl,HI0.out⟩
   case round =>
    obtain⟨k,m,a,c,hk,rfl,rfl,hm,hI⟩:=hrel;have HI:=za hI;have HM:=za hm;have hbx:=hI.pu.heap (fun h=>h) HB.out;rw[HN1.out,HN2.out]at hbx;clear hI hm;obtain rfl | rfl | rfl:k=0∨k=1∨k=2:=by omega
    ·obtain⟨hbx_0,hbx_1,hbx_f,hbx_l,H_hbx⟩:=cr2 hbx;clear hbx;obtain rfl:m=0:=HM.out;go_upto_region 14 with(at_builtin;refine uK _ rfl _ _ 240 rfl 313 i0 _ 2 16 underlying240 hi iz0 iz1 iz2 rfl (by decide) (.slice a 0 c) 0 _ rfl HI.out.row _ (xs.flatMap wtC) n1 rfl (HR1.out.frame HI.out.pu (fun _ _ h=>h)) (by rw[jF,HN1.out]) (by unfold maxLen;omega) (by omega) ?_;intro a7 c7 w7 hr7 hg7 hb7)
     rw[← HN1.out]at hr7 hb7;have HI7:=za (HI.out.app hr7 hg7 hb7);clear hr7 hg7 hb7 hk;clear hbx_0 hbx_1 hbx_f hbx_l;clear H_hbx;go_wp2;go_roundw
     case rel=>exact⟨1,_,a7,c7,by omega,rfl,rfl,HN1.out.symm,HI7.out⟩
     case measure=>simp[intOf]
    ·obtain⟨hbx_0,hbx_1,hbx_f,hbx_l,H_hbx⟩:=cr2 hbx;clear hbx;have HMX:=za (show m=n1 from HM.out.trans HN1.out);go_upto_region 14 with(at_builtin;refine uK _ rfl _ _ 240 rfl 313 i0 _ 2 16 underlying240 hi iz0 iz1 iz2 rfl (by decide) (.slice a m c) m _ rfl (by rw[HM.out];exact HI.out.row) _ (ys.flatMap wtC) n2 rfl (HR2.out.frame HI.out.pu (fun _ _ h=>h)) (by rw[jF,HN2.out]) (by have:=HMX.out;unfold maxLen;omega) (by have:=HMX.out;omega) ?_;intro a7 c7 w7 hr7 hg7 hb7)
     rw[HM.out,← HN2.out]at hr7 hb7;rw[HM.out]at hg7;have HI7:=za (HI.out.app hr7 hg7 hb7);clear hr7 hg7 hb7 hk;clear hbx_0 hbx_1 hbx_f hbx_l;clear H_hbx;go_wp2;go_roundw
     case rel=>exact⟨2,m+n2,a7,c7,by omega,rfl,rfl,by rw[HMX.out,← HN1.out,← HN2.out];exact(zV ..).symm,HI7.out⟩
     case measure=>simp[intOf]
    ·clear hbx hk;go_wp2;go_ret;refine⟨a,c,by rw[HM.out];rfl,HI.out.row,HI.out.fr,HI.out.pu⟩
end
theorem zal{W:World}{ad:Addr}{k j:Nat}{u:Value}(h:W.cell? (ad.add (k+(j+1)))=some u):W.cell? ⟨(ad.add k).block,(ad.add k).off+(j+1),none⟩=some u:=by
 rw[← Go.Deep.add_add]at h;unfold Addr.add at h ⊢;rw[zh (by omega)]at h;exact h
theorem Yj{L:List Wt}{j:Nat}{x:Wt}(hx:L[j]? = some x):(L.flatMap wtC)[j*2]? = some (.int .u32 x.slot)∧(L.flatMap wtC)[j*2+1]? = some (.int .i64 x.cost):=by
 have g:=fun i (hi:i<2)=>uW wtC 2 (fun _=>rfl) i hi L j
 exact⟨by have:=g 0 (by omega);rw[Xp]at this;rw[this,hx];rfl,by rw[g 1 (by omega),hx];rfl⟩
theorem JG{w:World}{a:Option Addr}{n c:Nat}{L:List Wt}(h:zo w (.slice a n c) 2 (L.flatMap wtC)){j:Nat}{x:Wt}(hx:L[j]? = some x) :
  ∃ ad,a=some ad∧w.cell? (ad.add (j*2))=some (.int .u32 x.slot)∧w.cell? ⟨(ad.add (j*2)).block,(ad.add (j*2)).off+1,none⟩=some (.int .i64 x.cost):=by
 obtain⟨a',n',c',e,hl,_,h0,hc⟩:=h;injection e with e1 e2 e3
 subst e1 e2 e3;have hj:=(zE.1 hx).1
 cases a with
 | none =>
  have:=h0 rfl;subst this;rw[jF]at hl;omega
 | some ad=>exact⟨ad,rfl,hc ad rfl _ _ (Yj hx).1,zal (j:=0) (hc ad rfl _ _ (Yj hx).2)⟩
section
variable{w w':World}{bc keep:Nat}{cv:Value}
abbrev ChC(w:World)(bc:Nat)(cv:Value)(keep:Nat):Prop:=w.heap[bc]? = some (.cells #[cv,.int .u32 keep] 304 (0,0))
theorem zaK(h:ChC w bc cv keep)(s:Nat)(k:Int):Calls prog 317 #[.agg #[.int .u32 s,.int .i64 k],.pointer (some ⟨bc,0,none⟩)] w fun e w'=>e=.returned (.bool (decide (s=keep)))∧zc w w':=by
 have hc:w.cell? ⟨bc,1,none⟩=some (.int .u32 keep):=zi w bc 1 _ _ (0,0) h;have hlt:=zm h;clear h;by_cases e:s=keep
 ·subst e;go_enter func317,ntmps317;go_wp2;go_ret;exact⟨by simp,(Mod.refl _ w).alloc _⟩
 ·have e1:((s:Int)==(keep:Int))=false:=uY.2 (by omega);go_enter func317,ntmps317;go_wp2;go_ret;exact⟨by simp[e],(Mod.refl _ w).alloc _⟩
def vu(keep:Nat)(x:Wt):Bool:=decide (x.slot=keep)
def qH(keep:Nat)(L:List Wt):Int:=match L.findIdx? (vu keep)with | some i=>(i:Nat) | none => -1
theorem zgl{L:List Wt}{j:Nat}{x:Wt}(hx:L[j]? = some x)(hs:x.slot=keep)(hno : ∀(i:Nat) (y:Wt),i<j→L[i]? = some y→y.slot≠keep):qH keep L=(j:Nat):=by
 have hj:=(zE.1 hx).1;have h1:L.findIdx? (vu keep)=some j:=by
  rw[UQ];refine⟨hj,?_,fun i hi => ?_⟩
  ·rw[zL hj]at hx;injection hx with hx
   rw[hx];simp[vu,hs]
  ·have:=hno i L[i] hi (zL (by omega));simp[vu,this]
 unfold qH;rw[h1]
theorem zi5{L:List Wt}(hno : ∀(i:Nat) (y:Wt),L[i]? = some y→y.slot≠keep):qH keep L = -1:=by
 have h1:L.findIdx? (vu keep)=none:=by
  rw[UE];intro x hx;obtain⟨i,hi⟩:=ur hx;simp[vu,hno i x hi]
 unfold qH;rw[h1]
abbrev kpF(bc:Nat):Value := .func (.func 317) #[] #[.pointer (some ⟨bc,0,none⟩)]
theorem zgw{a:Option Addr}{n c:Nat}{L:List Wt}(h:zo w (.slice a n c) 2 (L.flatMap wtC))(hn:L.length=n)(hl:n≤8388608)(hc:ChC w bc cv keep) :
  Calls prog 359 #[.slice a n c,kpF bc] w fun e w'=>e=.returned (.int .i64 (qH keep L))∧zc w w':=by
 have HR:=za h;have HN:=za hn;have HC:=za hc;clear h hn hc;go_enter func359,ntmps359;go_upto_region 2 with fail
 go_loopw [8] (fun v8 wr => ∃ j:Nat,v8=.int .i64 (j:Nat)∧j≤n∧zc w wr ∧ ∀ i y,i<j→L[i]? = some y→y.slot≠keep) (fun v8 _=>n-(intOf v8).toNat)
 case atStart=>exact⟨0,rfl,yi _,Mod.refl _ _,fun i y h=>by omega⟩
 case round =>
  obtain⟨j,rfl,hj,hpu,hno⟩:=hrel;have HNO:=za hno;have HPU:=za hpu;clear hno hpu;by_cases hlt:j<n
  ·have hlt':(j:Int)<(n:Int):=by omega
   have j0:(0:Int)≤(j:Int):=by omega
   have wj:IntKind.i64.wrap ((j:Int)+1)=(j:Int)+1:=zt _ (by omega);obtain⟨x,hx⟩ : ∃ x,L[j]? = some x:=⟨_,zL (by rw[HN.out];exact hlt)⟩;obtain⟨ad,rfl,z0,z1⟩:=JG (HR.out.frame HPU.out (fun _ _ h=>h)) hx;have HX:=za hx;have HCl:=za (zaK (HPU.out.heap (fun h=>h) HC.out) x.slot x.cost);clear hx;by_cases hs:x.slot=keep
   ·have hd:decide (x.slot=keep)=true:=zP hs;rw[hd]at HCl;have HF:=za (zgl HX.out hs HNO.out);clear hd hs
    go_wp2_with (go_at_call 317;refine HCl.out.mono ?_;rintro e w3 ⟨rfl,hp3⟩)
    go_ret;exact⟨by rw[HF.out];rfl,HPU.out.trans hp3⟩
   ·have hd:decide (x.slot=keep)=false:=zR hs;rw[hd]at HCl;have HS:=za hs;clear hd hs
    go_wp2_with (go_at_call 317;refine HCl.out.mono ?_;rintro e w3 ⟨rfl,hp3⟩)
    go_roundw
    case rel=>exact⟨j+1,by first | rfl | simp,hlt,HPU.out.trans hp3,fun i y hi hy=>by
     by_cases e:i=j
     ·subst e;rw[HX.out]at hy;injection hy with hy;exact hy ▸ HS.out
     ·exact HNO.out i y (by omega) hy⟩
    case measure=>simp[intOf];omega
  ·have hlt' : ¬ (j:Int)<(n:Int):=by omega
   obtain rfl:j=n:=by omega
   have HF:=za (zi5 (keep:=keep) (L:=L) (fun i y hy=>HNO.out i y (by have:=(zE.1 hy).1;rw[HN.out]at this;exact this) hy));go_wp2;go_ret;exact⟨by rw[HF.out];rfl,HPU.out⟩
end
end
end Go.Proofs.YtdohbogbnheakaaGreatDoor
