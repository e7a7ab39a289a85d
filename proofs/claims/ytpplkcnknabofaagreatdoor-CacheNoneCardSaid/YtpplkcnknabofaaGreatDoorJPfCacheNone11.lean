/- Lemmas and contracts of functions. No condition. -/
import Derived.Sort.CutIn
import Derived.Test.YtpplkcnknabofaaGreatDoorJPfCacheNone9
import Derived.Sort.Grow
import Derived.Test.YtpplkcnknabofaaGreatDoorJPfCacheNone4
import Derived.Shelf.SlSortCmp.NoneTotal
namespace Go.Proofs.YtpplkcnknabofaaGreatDoor
open _root_.Go.Proofs.Tryz
set_option maxRecDepth 100000
set_option maxHeartbeats 20000000
set_option linter.all false
section
open Go.RowKit Go.Maps
def jp(lim:Int)(B:List Wt):Bool:=decide (0<B.length)&&(lim == -1||decide (lim<(zv B:Nat)))
def dem(lim:Int):List Wt→List Wt→List Wt × List Wt × List Nat
 | A,[]=>(A,[],[])
 | A,b::B=>if jp lim (b::B)then((dem lim (A++[b]) B).1,(dem lim (A++[b]) B).2.1,b.slot::(dem lim (A++[b]) B).2.2)else(A,b::B,[])
theorem V2{lim:Int}{A B:List Wt}(h:jp lim B=false):dem lim A B=(A,B,[]):=by
 cases B with
 | nil=>rfl
 | cons b B=>unfold dem;rw[h];rfl
theorem VQ{lim:Int}{A B:List Wt}{b:Wt}(h:jp lim (b::B)=true):dem lim A (b::B)=((dem lim (A++[b]) B).1,(dem lim (A++[b]) B).2.1,b.slot::(dem lim (A++[b]) B).2.2):=by
 rw[dem,zk h]
section
variable{w w':World}{D S:Nat→Prop}{o l0 l1 bm:Nat}{lim:Int}{D0 D1:Nat→Prop}{Dm:DataW Unit}{A B:List Wt}
theorem Aztp1 {P:Prop}(h:P:=by
 refine hTk 25 ?_;refine hTk 26 ?_;refine hDn ?_;clear h_;go_wp2;go_ret;exact⟨rfl,(Mod.refl _ w).drew⟩):P:=h
theorem zlf(h:yK w D o l0 l1 bm lim D0 D1 Dm A B){b1:Nat}(hb1:w.heap[b1]? = some (.cells #[lkP o] 78 (0,0))) :
  Calls prog 250 #[.pointer (some ⟨b1,0,none⟩)] w fun e w'=>e=.returned (.bool (jp lim B))∧zb w w':=by
 have hlen:(zA B).length=B.length:=by unfold zA;simp
 have HL:=zeg (h.q1.pure ((Mod.refl _ w).drew:zb w w.drew));rw[hlen]at HL;have HLn:=za HL;have hb:=h.box;clear h HL hlen;unfold jp;generalize zv A=sa at *;generalize zv B=sb at *;generalize B.length=n at *;obtain⟨hb_0,hb_1,hb_2,hb_3,hb_4,hb_5,hb_f,hb_l,H_hb⟩:=cr6 hb;clear hb;obtain⟨hb1_0,hb1_f,hb1_l,H_hb1⟩:=cr1 hb1;clear hb1;have k1:w.drew.cell? ⟨b1,0,none⟩=some (lkP o):=hb1_0;have k2:w.drew.cell? ⟨o,1,none⟩=some (lkP l1):=hb_1;have k3:w.drew.cell? ⟨o,3,none⟩=some (.int .i64 sb):=hb_3;have k5:w.drew.cell? ⟨o,5,none⟩=some (.int .i64 lim):=hb_5;by_cases hn:n=0
 ·subst hn;have e0:(decide (0<0)&&(lim == -1||decide (lim<(sb:Int))))=false:=by simp
  rw[e0];go_enter func250,ntmps250;go_upto_region 1 with fail
  refine rHd (S:=fun u=>u=w.drew) rfl (fun h_ => ?_);refine hLd 0 ?_;refine hTk 1 ?_;refine hTk 2 ?_;refine hTk 3 ?_;refine hLd 4 ?_
  (refine hSt 5 (fun K hK => ?_);go_simp;refine HLn.out.mono ?_;rintro e w2 ⟨rfl,rfl⟩;refine hK.out _ _ ?_ (fun h_ => ?_);(· rfl);clear hK K;refine clA ?_)
  refine hTk 6 ?_;refine hTk 7 ?_;refine hSk 8 ?_;refine hSk 9 ?_;refine hSk 10 ?_;refine hSk 11 ?_;refine hSk 12 ?_;refine hSk 13 ?_;refine hSk 14 ?_;refine hSk 15 ?_;refine hSk 16 ?_;refine hSk 17 ?_;refine hSk 18 ?_;refine hSk 19 ?_;refine hSk 20 ?_;refine hSk 21 ?_;refine hSk 22 ?_;refine hSk 23 ?_;refine hSk 24 ?_;exact Aztp1
 ·have d0:decide ((0:Int)<(n:Int))=true:=zL (by omega);have d1:decide (0<n)=true:=zL (by omega);rw[d1];by_cases hl:lim = -1
  ·subst hl;have e0:(true&&(((-1:Int) == -1)||decide ((-1:Int)<(sb:Int))))=true:=by simp
   rw[e0];go_enter func250,ntmps250;go_upto_region 1 with fail
   refine rHd (S:=fun u=>u=w.drew) rfl (fun h_ => ?_);refine hLd 0 ?_;refine hTk 1 ?_;refine hTk 2 ?_;refine hTk 3 ?_;refine hLd 4 ?_
   (refine hSt 5 (fun K hK => ?_);go_simp;refine HLn.out.mono ?_;rintro e w2 ⟨rfl,rfl⟩;refine hK.out _ _ ?_ (fun h_ => ?_);(· rfl);clear hK K;refine clA ?_)
   refine hTk 6 ?_;refine hTk 7 ?_;refine hLd 8 ?_;refine hTk 9 ?_;refine hTk 10 ?_;refine hLd 11 ?_;refine hTk 12 ?_;refine hTk 13 ?_;refine hSk 14 ?_;refine hSk 15 ?_;refine hSk 16 ?_;refine hSk 17 ?_;refine hSk 18 ?_;refine hSk 19 ?_;refine hSk 20 ?_;refine hSk 21 ?_;refine hSk 22 ?_;refine hSk 23 ?_;refine hTk 24 ?_;exact Aztp1
  ·have e1:(lim == -1)=false:=by simpa using hl
   have e0:(true&&((lim == -1)||decide (lim<(sb:Int))))=decide (lim<(sb:Int)):=by rw[e1];rfl
   rw[e0];go_enter func250,ntmps250;go_upto_region 1 with fail
   refine rHd (S:=fun u=>u=w.drew) rfl (fun h_ => ?_);refine hLd 0 ?_;refine hTk 1 ?_;refine hTk 2 ?_;refine hTk 3 ?_;refine hLd 4 ?_
   (refine hSt 5 (fun K hK => ?_);go_simp;refine HLn.out.mono ?_;rintro e w2 ⟨rfl,rfl⟩;refine hK.out _ _ ?_ (fun h_ => ?_);(· rfl);clear hK K;refine clA ?_)
   refine hTk 6 ?_;refine hTk 7 ?_;refine hLd 8 ?_;refine hTk 9 ?_;refine hTk 10 ?_;refine hLd 11 ?_;refine hTk 12 ?_;refine hTk 13 ?_;refine hLd 14 ?_;refine hTk 15 ?_;refine hTk 16 ?_;refine hTk 17 ?_;refine hLd 18 ?_;refine hLd 19 ?_;refine hTk 20 ?_;refine hTk 21 ?_;refine hLd 22 ?_;refine hTk 23 ?_;refine hTk 24 ?_;exact Aztp1
end
section
variable{w w':World}{D S:Nat→Prop}{o l0 l1 bm:Nat}{lim:Int}{D0 D1:Nat→Prop}{Dm:DataW Unit}{A B:List Wt}
theorem vU.trans'{D D' D'':Nat→Prop}{a b:World}(h:vU D D' a)(k:vU D' D'' b)(hs:a.heap.size≤b.heap.size):vU D D'' a:=fun i hi=>by
 rcases k i hi with e | e
 ·exact h i e
 ·exact .inr (zH hs e)
structure DmI(w wr:World)(D:Nat→Prop)(o l0 l1 bm b1:Nat)(lim:Int)(A B:List Wt)(a:Option Addr)(c:Nat)(A1 B1:List Wt)(g1:List Nat):Prop where
 mem : ∃ D' D0' D1' Dm',yK wr D' o l0 l1 bm lim D0' D1' Dm' A1 B1∧vU D D' w ∧ ∀ g,(Value.slice a g1.length c).ownBlock=some g → ¬ D' g∧w.heap.size≤g
 row:yr wr a c g1
 box:wr.heap[b1]? = some (.cells #[lkP o] 78 (0,0))
 eqn:dem lim A B=((dem lim A1 B1).1,(dem lim A1 B1).2.1,g1++(dem lim A1 B1).2.2)
 mod:Mod D w wr
def Vh(w:World)(D:Nat→Prop)(o:Nat)(lim:Int)(R:List Wt × List Wt × List Nat)(v:Value)(w':World):Prop :=
 ∃ a c,v=.slice a R.2.2.length c∧yr w' a c R.2.2∧(∃ D',xl w' D' o lim R.1 R.2.1∧vU D D' w ∧ ∀ g,(Value.slice a R.2.2.length c).ownBlock=some g → ¬ D' g∧w.heap.size≤g)∧Mod D w w'
theorem zaj(h:yK w D o l0 l1 bm lim D0 D1 Dm A B) :
  Calls prog 175 #[lkP o] w fun e w' => ∃ v,e=.returned v∧Vh w D o lim (dem lim A B) v w':=by
 have hal:zb w (w.alloc (.cells #[lkP o] 78)):=(Mod.refl _ w).alloc _;have hb1:=zi (w:=w) (o := .cells #[lkP o] 78 (0,0)) rfl;have HH:=za (h.pure hal);have HAL:=za hal;have HLT:=za (fun k (hk:D k)=>h.lt hk);have HB1:=za hb1;have hlen:=h.law.len;rw[zR]at hlen;clear h hal hb1;go_enter func175,ntmps175;go_upto_region 3 with fail
 generalize w.alloc (.cells #[lkP o] 78)=W1 at *;obtain⟨b1,hb1⟩:=zc w.heap.size;rw[hb1]at HB1 ⊢;have HE1:=za hb1;have hb1l:b1<W1.heap.size:=zl HB1.out;have hs1:w.heap.size≤W1.heap.size:=HAL.out.size;clear hb1;obtain⟨i0,hi,iz0,iz1,iz2⟩:=xn jC;go_loopw [4] (fun v wr => ∃(a:Option Addr) (c:Nat) (A1 B1:List Wt) (g1:List Nat),v=.slice a g1.length c∧DmI W1 wr D o l0 l1 bm b1 lim A B a c A1 B1 g1∧B1.length+g1.length=B.length) (fun v _=>B.length-(match v with | .slice _ n _=>n | _=>0))
 case atStart=>exact⟨none,0,A,B,[],rfl,⟨⟨D,D0,D1,Dm,HH.out,fun k hk => .inl hk,fun g hg=>by cases hg⟩,vj _ _ _ _,HB1.out,by simp,Mod.refl _ _⟩,by simp⟩
 case round =>
  obtain⟨a,c,A1,B1,g1,rfl,hI,hBl⟩:=hrel;obtain⟨D',D0',D1',Dm',hm1,hg1,hof1⟩:=hI.mem;have HI:=za hI;have HM1:=za hm1;have HG1:=za hg1;have HOF:=za hof1;have HN:=za (zlf hm1 hI.box);have nb1 : ¬ D' b1:=fun hk=>by
   rcases hg1 b1 hk with e | e
   ·have:=HLT.out b1 e;have:=HE1.out;omega
   ·omega
  have HNB:=za nb1;have szr:W1.heap.size≤wr.heap.size:=hI.mod.size;clear hI hm1 hg1 hof1 nb1
  cases hnd:jp lim B1 with
  | false =>
   rw[hnd]at HN;have HND:=za hnd;clear hnd
   go_wp2_with (go_at_call 250;refine HN.out.mono ?_;rintro e w2 ⟨rfl,hp2⟩)
   go_ret;have heq:=HI.out.eqn;rw[V2 HND.out]at heq;simp only[List.append_nil]at heq;refine⟨_,rfl,?_⟩;rw[heq];exact⟨a,c,rfl,zy HI.out.row hp2 (fun _ _ h=>h),⟨D',⟨l0,l1,bm,D0',D1',Dm',HM1.out.pure hp2⟩,fun k hk=>(HG1.out k hk).imp id (fun e=>zH hs1 e),fun g hg=>⟨(HOF.out g hg).1,zH hs1 (HOF.out g hg).2⟩⟩,(HAL.out.trans' HI.out.mod (fun _ _ h=>h.elim) (fun _ _ h=>h)).trans (Mod.of_pure hp2)⟩
  | true =>
   rw[hnd]at HN
   cases B1 with
   | nil=>cases hnd
   | cons x B2 =>
    have HND:=za hnd;clear hnd;have hx:x∈A1++(x::B2):=by simp
    have hxr:=HM1.out.law.rng x hx;have HX:=za hx;have hnd2:=HM1.out.law.right;have hno : ∀ y∈B2,y.slot≠x.slot:=fun y hy e=>(xe.1 (show(x.slot::zA B2).Nodup from hnd2)).1 (zI.2 ⟨y,hy,e⟩)
    have hoA:zw A1 x.slot=A1:=Zv (fun y hy e=>HM1.out.law.apart hy (ym) e);have hoB:zw (x::B2) x.slot=B2:=by
     unfold zw;rw[List.filter_cons_of_neg (by simp)];exact Zv hno
    have HOA:=za hoA;have HOB:=za hoB;have HNO:=za hno;clear hx hnd2 hno hoA hoB;obtain⟨m,hm⟩:=zc g1.length;have hm4:m≤4194304:=by rw[← hm];omega
    have HMm:=za hm;simp only[hm]at hBl ⊢;have HBl:=za hBl;clear hm hBl
    -- needed, Oldest
    have hob:=HM1.out.box;have HOl:=za (fun W (hW:zb wr W)=>zlC (x:=x.slot) (l:=zA B2) (HM1.out.q1.pure hW));have hlk:=fun W (hW:zb wr W)=>((HM1.out.costs.mod hW (fun h=>h))).look1 HX.out (by omega)
    have HLk:=za hlk;clear hlk;go_upto_region 4 with(go_at_call 250;refine HN.out.mono ?_;rintro e w2 ⟨rfl,hp2⟩)
    have hob2:=hp2.heap (fun h=>h) hob;have hbx2:=hp2.heap (fun h=>h) HI.out.box;have HP2:=za hp2;clear hp2 hob;generalize zv A1=sa at *;generalize zv (x::B2)=sb at *;have HO2:=za hob2;have HX2:=za hbx2;obtain⟨hob2_0,hob2_1,hob2_2,hob2_3,hob2_4,hob2_5,hob2_f,hob2_l,H_hob2⟩:=cr6 hob2;clear hob2;obtain⟨hbx2_0,hbx2_f,hbx2_l,H_hbx2⟩:=cr1 hbx2;clear hbx2;go_upto_region 5 with(go_at_call 252;refine(HOl.out _ HP2.out).mono ?_;rintro e w3 ⟨rfl,hp3⟩)
    have hp23:=HP2.out.trans hp3;have hob3:=hp3.heap (fun h=>h) HO2.out;have hbx3:=hp3.heap (fun h=>h) HX2.out;have HO3:=za hob3;have HX3:=za hbx3;have hlw:=HLk.out w3 hp23;have HT:=za (zac (HM1.out.pure hp23) (x:=x) ym);have HP3:=za hp23;clear hob2_0 hob2_1 hob2_2 hob2_3 hob2_4 hob2_5 hob2_f hob2_l;clear hbx2_0 hbx2_f hbx2_l;clear H_hob2 H_hbx2 hp3 hp23;obtain⟨hob3_0,hob3_1,hob3_2,hob3_3,hob3_4,hob3_5,hob3_f,hob3_l,H_hob3⟩:=cr6 hob3;clear hob3;obtain⟨hbx3_0,hbx3_f,hbx3_l,H_hbx3⟩:=cr1 hbx3;clear hbx3;go_upto_region 7 with(go_at_call 236;refine HT.out.mono ?_;rintro e w4 ⟨rfl,⟨Dm4,h4⟩,hm4'⟩)
    rw[HOA.out,HOB.out]at h4;have hbx4:=hm4'.heap HNB.out HX3.out;have hns:x.slot∉zA (A1++B2):=by
     intro hh;obtain⟨y,hy,e⟩:=zI.1 hh;rcases yF.1 hy with hy | hy
     ·exact HM1.out.law.apart hy (ym) e
     ·exact HNO.out y hy e
    have HPu:=za (JA h4 hxr.1 hxr.2 hns);have HM4:=za hm4';clear hob3_0 hob3_1 hob3_2 hob3_3 hob3_4 hob3_5 hob3_f hob3_l;clear hbx3_0 hbx3_f hbx3_l;clear H_hob3 H_hbx3 h4 hm4' hlw hns;obtain⟨hbx4_0,hbx4_f,hbx4_l,H_hbx4⟩:=cr1 hbx4;clear hbx4;go_upto_region 8 with(go_at_call 215;refine HPu.out.mono ?_;rintro e w5 ⟨rfl,⟨D5,D05,Dm5,h5,hg5⟩,hm5⟩)
    have sz34:w3.heap.size≤w4.heap.size:=HM4.out.size;have sz3:wr.heap.size≤w3.heap.size:=HP3.out.size;have sz5:w4.heap.size≤w5.heap.size:=hm5.size;have hmr5:Mod D' wr w5:=((Mod.of_pure HP3.out).trans HM4.out).trans hm5;have hg5':vU D' D5 wr:=fun k hk=>(hg5 k hk).imp id (fun e=>by omega)
    have hrow5:w5.ownsRow 0 114 1 (.slice a m c) m (zU g1):=by
     have:=HI.out.row;unfold yr at this;rw[HMm.out]at this;exact zy this hmr5 (fun g hg hk=>(HOF.out g (by rw[HMm.out];exact hg)).1 hk)
    have hbx5:=hm5.heap HNB.out H_hbx4.out;have HR5:=za hrow5;have HM5:=za hmr5;have HG5:=za hg5';have H5:=za h5;have HX5:=za hbx5;clear hbx4_0 hbx4_f hbx4_l;clear H_hbx4 hm5 hmr5 hg5 hg5' hrow5 hbx5 h5
    go_wp2_with (at_builtin;refine ul _ rfl _ _ 132 rfl 114 i0 _ 1 4 underlying132 hi iz0 iz1 iz2 rfl (by decide) (.slice a m c) m _ rfl (zy HR5.out ((Mod.refl (fun _=>False) w5).alloc _) (fun _ _ h=>h)) _ [.int .u32 (x.slot:Nat)] 1 rfl (zn.of_block 1 1 1 (zi rfl) (by rfl) (by simp[Value.oneCell'])) rfl (by unfold maxLen;omega) (by omega) ?_;intro a7 c7 w7 hr7 hg7 hb7)
    go_roundw
    case rel =>
     have hp57:Mod (fun k=>(Value.slice a m c).ownBlock=some k) w5 w7:=((Mod.refl _ w5).alloc _).trans (Mod.of_grown (S:=fun k'=>(Value.slice a m c).ownBlock=some k') hg7 (fun k e _=>e));have hsl : ∀ g,(Value.slice a m c).ownBlock=some g → ¬ D' g∧W1.heap.size≤g:=fun g hg=>HOF.out g (by rw[HMm.out];exact hg)
     have hslw : ∀ g,(Value.slice a m c).ownBlock=some g→g<wr.heap.size:=fun g hg=>by
      have:=HI.out.row;unfold yr at this;rw[HMm.out]at this;exact vh this hg
     have n5 : ∀ k,D5 k → ¬ (Value.slice a m c).ownBlock=some k:=fun k hk e=>by
      rcases HG5.out k hk with e2 | e2
      ·exact(hsl k e).1 e2
      ·have:=hslw k e;omega
     refine⟨a7,c7,A1++[x],B2,g1++[x.slot],by simp[HMm.out],⟨⟨D5,D05,D1',Dm5,H5.out.frame hp57 n5,HG1.out.trans' HG5.out szr,fun g hg => ?_⟩,?_,?_,?_,?_⟩,?_⟩
     ·rw[zR,HMm.out]at hg;rcases hb7 with e | e
      ·have hg':(Value.slice a m c).ownBlock=some g:=by rw[← e];exact hg
       exact⟨fun hk=>n5 g hk hg',(hsl g hg').2⟩
      ·have hg':g=(w5.alloc (.cells #[.int .u32 (x.slot:Nat)] 114)).heap.size:=by rw[show(Value.slice a7 (m+1) c7).ownBlock=some g from hg]at e;injection e
       refine⟨fun hk => ?_,?_⟩
       ·have:=H5.out.lt hk;simp at hg';omega
       ·simp at hg';omega
     ·unfold yr;rw[zR,HMm.out,qA];exact hr7
     ·exact hp57.heap (fun e=>by have:=(hsl b1 e).2;omega) HX5.out
     ·have:=HI.out.eqn;rw[VQ HND.out]at this;rw[this];simp
     ·refine(HI.out.mod.then HM5.out ?_).then hp57 ?_
      ·intro i hi hk;rcases HG1.out i hk with e | e
       ·exact e
       ·omega
      ·intro i hi hk;exact absurd (hsl i hk).2 (by omega)
     ·have:=HBl.out;simp at this;simp[HMm.out];omega
    case measure=>have:=HBl.out;simp at this;simp;omega
def xw(lim:Int)(A B:List Wt)(x:Wt):List Wt × List Wt × List Nat :=
 if lim = -1 then dem lim (zw A x.slot++[x]) (zw B x.slot)else dem lim (zw A x.slot) (zw B x.slot++[x])
theorem Azztn {P:Prop}(h:P:=by
 go_wp2_with (first
   | (go_at_call 215;refine HP.out.mono ?_;rintro e w2 ⟨rfl,⟨D2,D02,Dm2,h2,hg2⟩,hm2⟩;have HD:=za (zaj h2))
   | (go_at_call 175;refine HD.out.mono ?_;rintro e w3 ⟨v,rfl,hpost⟩))
 go_ret2;rw[HR2.out]at hpost;exact⟨v,rfl,FIN.out _ _ _ _ _ hg2 hm2 hpost⟩):P:=h
theorem zid(h:xl w D o lim A B){x y:Wt}(hx:x∈A++B)(hy:y.slot=x.slot)(hc:y.cost≤1099511627776) :
    Calls prog 160 #[lkP o,.int .u32 x.slot,.int .i64 y.cost] w fun e w' => ∃ v,e=.returned (.tuple #[v,.int .i64 0])∧Vh w D o lim (xw lim A B y) v w':=by
  obtain⟨l0,l1,bm,D0,D1,Dm,h⟩:=h;have hs:=(h.law.rng x hx).1;have HC:=za (JF h hs hc);have HT:=za (zbY h hx);have hns:y.slot∉zA (zw A y.slot++zw B y.slot):=by
    intro e;obtain⟨z,hz,e2⟩:=zI.1 e;rw[← j7]at hz;exact(jG.1 hz).2 e2
  have HNS:=za hns;obtain⟨s,c0⟩:=x;obtain⟨s2,c⟩:=y;dsimp only at *;subst hy;clear h hx hns;obtain⟨R,hR⟩:=zc (xw lim A B ⟨s2,c⟩);rw[hR];unfold xw at hR;dsimp only at hR;have HR:=za hR;clear hR;go_enter func160,ntmps160;go_upto_region 7 with(first
    | (go_at_call 158;refine HC.out.mono ?_;rintro e w' ⟨rfl,rfl⟩)
    | (go_at_call 236;refine HT.out.mono ?_;rintro e w1 ⟨rfl,⟨Dm1,h1⟩,hm⟩))
  have hb:=h1.box;have H1:=za h1;have HM:=za hm;clear h1 hm HT HC;generalize zv (zw A s2)=sa at *;generalize zv (zw B s2)=sb at *;have fin : ∀(w2 w3:World) (D2:Nat→Prop) (R:List Wt × List Wt × List Nat) (v:Value),vU D D2 w1→Mod D w1 w2→Vh w2 D2 o lim R v w3→Vh w D o lim R v w3:=by
    rintro w2 w3 D2 R v hg hm2 ⟨a,cc,rfl,hr,⟨D3,h3,hg3,hf3⟩,hm3⟩;have s1:=HM.out.size;have s2:=hm2.size;refine⟨a,cc,rfl,hr,⟨D3,h3,fun k hk => ?_,fun g hk=>⟨(hf3 g hk).1,by have:=(hf3 g hk).2;omega⟩⟩,(HM.out.trans hm2).then hm3 (fun i hi hk => ?_)⟩
    · rcases hg3 k hk with e | e
      · rcases hg k e with e | e
        · exact .inl e
        · exact .inr (by omega)
      · exact .inr (by omega)
    · rcases hg i hk with e | e
      · exact e
      · omega
  have FIN:=za fin;clear fin;obtain⟨hb_0,hb_1,hb_2,hb_3,hb_4,hb_5,hb_f,hb_l,H_hb⟩:=cr6 hb;clear hb;by_cases hl:lim = -1
  · subst hl
    have hR:=HR.out;rw[zk rfl]at hR;have HR2:=za hR;clear hR;have HP:=za (JA (x:=⟨s2,c⟩) H1.out hs hc HNS.out);exact Azztn
  · have hl1:(lim == -1)=false:=by simpa using hl
    have hR:=HR.out;rw[zh hl]at hR;have HR2:=za hR;clear hR;have HP:=za (zgb (x:=⟨s2,c⟩) H1.out hs hc HNS.out);exact Azztn
end
end
section
open Go.RowKit Go.Maps Go.Shelf
attribute [local go_sem] Oper.semAt_some
theorem XM:(prog.info? 155).map (fun i=>(i.zero,i.size,i.bytes))=some (some (.agg #[.int .u32 0,.int .i64 0]),2,16):=by kernel_rfl
def wtC(x:Wt):List Value:=[.int .u32 x.slot,.int .i64 x.cost]
abbrev ZB(w:World)(a:Option Addr)(c:Nat)(xs:List Wt):Prop:=w.ownsRow 0 155 2 (.slice a xs.length c) xs.length (xs.flatMap wtC)
section
variable{w w':World}{D S:Nat→Prop}{o l0 l1 bm:Nat}{lim:Int}{D0 D1:Nat→Prop}{Dm:DataW Unit}{A B:List Wt}
theorem zaL(h:yK w D o l0 l1 bm lim D0 D1 Dm A B){g:Nat}(hg:g≤1):Calls prog 181 #[lkP o,.int .i64 g] w fun e w'=>e=.returned (.bool true)∧w=w':=by
 have HC:=za (UO h (s:=0) (by omega));clear h;obtain rfl | rfl:g=0∨g=1:=by omega
 all_goals
  go_enter func181,ntmps181
  go_wp2_with (go_at_call 158;refine HC.out.mono ?_;rintro e w' ⟨rfl,rfl⟩)
  go_ret;exact⟨rfl,rfl⟩
structure LsI(w:World)(o b2 b5 N:Nat)(L:List Wt)(pre:List Nat)(W:World):Prop where
 pu:zb w W
 r2:W.heap[b2]? = some (.cells #[lkP o] 78 (0,0))
 row : ∃ a c,W.heap[b5]? = some (.cells #[.slice a pre.length c] 152 (0,0))∧W.ownsRow 0 155 2 (.slice a pre.length c) pre.length ((L.take pre.length).flatMap wtC) ∧ ∀ g,(Value.slice a pre.length c).ownBlock=some g→N≤g
theorem LsI.quiet{o b2 b5 N0:Nat}{L:List Wt}{pre:List Nat}{A B:World}(h:LsI w o b2 b5 N0 L pre A){N:Nat}(hN:w.heap.size≤N)(hq:zx N A B):LsI w o b2 b5 N0 L pre B:=by
 obtain⟨a,c,h1,h2,h3⟩:=h.row;exact⟨hq.mod h.pu hN,hq.cells h.r2,a,c,hq.cells h1,hq.owns h2,h3⟩
def qG(w:World)(L:List Wt)(e:Ending)(w':World):Prop := ∃ a c,e=.returned (.slice a L.length c)∧ZB w' a c L∧xA w (.slice a L.length c)∧zb w w'
def LsS(o bm b2 x cc:Nat)(X:World):Prop:=X.cell? ⟨b2,0,none⟩=some (lkP o)∧X.cell? ⟨o,4,none⟩=some (.map (some bm))∧(Instr.lookup 220 (.map (some bm)) (.int .u32 x) false).run prog X=.ok (.int .i64 cc) X
theorem zbt{G:Int}{L:List Wt}{lq:Nat}{Dq:Nat→Prop}(h:yK w D o l0 l1 bm lim D0 D1 Dm A B)(hG:G=0∧lq=l0∨G=1∧lq=l1)(hq : ∀ W,zb w W→xq W Dq lq (zA L))(hL : ∀ x∈L,x∈A++B)(hLl:L.length≤(A++B).length):Calls prog 100 #[lkP o,.int .i64 G] w (qG w L):=by
 have hal:zb w ((w.alloc (.cells #[lkP o] 78)).alloc (.cells #[.slice none 0 0] 152)):=((Mod.refl _ w).alloc _).alloc _;have hal1:zb w (w.alloc (.cells #[lkP o] 78)):=(Mod.refl _ w).alloc _;have hb2:=zz (o := .cells #[.slice none 0 0] 152) (zi (w:=w) (o := .cells #[lkP o] 78 (0,0)) rfl);have hb5:=zi (w:=w.alloc (.cells #[lkP o] 78)) (o := .cells #[.slice none 0 0] 152 (0,0)) (n:=w.heap.size+1) (by simp);have HHs:Hid (Calls prog 181 #[lkP o,.int .i64 G] (w.alloc (.cells #[lkP o] 78)) fun e w'=>e=.returned (.bool true)∧(w.alloc (.cells #[lkP o] 78))=w'):=za (by
  rcases hG with⟨e,_⟩ | ⟨e,_⟩<;>rw[e]
  ·exact zaL (h.pure hal1) (g:=0) (by omega)
  ·exact zaL (h.pure hal1) (g:=1) (by omega))
 have HH:=za (h.pure hal);have HAll:=za (zeY (hq _ hal));have hlen:L.length≤4194304:=by have:=h.law.len;omega
 have hsl:(zA L).length=L.length:=by unfold zA;simp
 have hob:=(h.pure hal).box;have HAL:=za hal;have HLT:=za (fun k (hk:D k)=>h.lt hk);have ho1:o<w.heap.size:=zl h.box;have hb1:bm<w.heap.size:=h.costs.own.lt;have HL9:=za hL;clear h hal hal1 hq hL hLl;obtain⟨i0,hi,iz0,iz1,iz2⟩:=xn XM;rcases hG with⟨rfl,rfl⟩ | ⟨rfl,rfl⟩
 all_goals
  (refine(yy (n:=0)).1 (callsIn_of_wp_marks func100 rfl trivial (vQ.2 ?_) rfl);simp only[ntmps100,List.size_toArray,List.length_cons,List.length_nil,Nat.reduceAdd,Nat.reduceSub,Array.replicate_succ,Array.replicate_zero,List.push_toArray,List.append_toArray,List.nil_append,List.cons_append])
  go_upto_region 4 with(go_at_call 181;refine HHs.out.mono ?_;rintro e w' ⟨rfl,rfl⟩)
  generalize(w.alloc (.cells #[lkP o] 78)).alloc (.cells #[.slice none 0 0] 152)=W1 at *;obtain⟨b2,hbe⟩:=zc w.heap.size;rw[hbe]at hb2 hb5 ⊢;have HBE:=za hbe;clear hbe;have ho2:o<b2:=by have:=HBE.out;omega
  have hb22:bm<b2:=by have:=HBE.out;omega
  have HB2:=za hb2;have HB5:=za hb5;have HCo:=za (fun(x:Wt) (hx:x∈L) (X:World) (hX:Mod (fun k=>b2<k) W1 X)=>(HH.out.costs.mod hX (fun e=>by omega)).look1 (x:=x) (HL9.out x hx) (by have:=(HH.out.law.rng x (HL9.out x hx)).1;omega));have HOB:=za hob;have W1s:b2+1<W1.heap.size:=zl hb5;generalize zv A=sa at *;generalize zv B=sb at *;obtain⟨hob_0,hob_1,hob_2,hob_3,hob_4,hob_5,hob_f,hob_l,H_hob⟩:=cr6 hob;clear hob;obtain⟨hb2_0,hb2_f,hb2_l,H_hb2⟩:=cr1 hb2;clear hb2
  go_wp2_with (go_at_call 182;refine HAll.out.mono ?_;rintro e w3 ⟨B3,a3,c3,rfl,hit,hp3,hB3,hf3⟩)
  have hItlt : ∀ k,Zt B3 a3 (zA L).length c3 k→k<w3.heap.size:=by
   rintro k (rfl | h2)
   ·exact zl hit.box
   ·exact vh hit.row h2
  have hItge : ∀ k,Zt B3 a3 (zA L).length c3 k→W1.heap.size≤k:=by
   rintro k (rfl | h2)
   ·exact hB3
   ·exact hf3 k h2
  have hI0:LsI w o b2 (b2+1) w3.heap.size L [] w3:=⟨HAL.out.trans hp3,hp3.heap (fun h=>h) HB2.out,none,0,hp3.heap (fun h=>h) HB5.out,vj _ _ _ _,fun g hg=>by cases hg⟩;have HI0:=za hI0;have HIT:=za hit;have HGE:=za hItge;have HIL:=za hItlt;have HP3:=za hp3;have s13:W1.heap.size≤w3.heap.size:=hp3.size;clear hob_0 hob_1 hob_2 hob_3 hob_4 hob_5 hob_f hob_l;clear hb2_0 hb2_f hb2_l;clear H_hob H_hb2 hI0 hit hItge hp3 hB3 hf3 hb5;generalize hItd:Zt B3 a3 (zA L).length c3=It at *;refine vQ.1 (Z5 (gf:=308) (lb:=#[.pointer (some ⟨B3,0,none⟩)]) rfl (enters_of func308 (by kernel_rfl) rfl) (It:=It) (hItd ▸ QJ HIT.out (by rw[hsl];exact hlen)) hItlt (fun _=>rfl)
   (fun pre W=>LsI w o b2 (b2+1) w3.heap.size L pre W∧Mod (fun k=>b2<k) W1 W∧w3.heap.size≤W.heap.size) (fun _ _ _=>False) ?hI ?hIx ⟨HI0.out,Mod.of_pure HP3.out,zG _⟩ ?round ?done ?stop)
  case hI=>exact fun pre A B ⟨h,hm,hz⟩ hq=>⟨h.quiet (by have:=HBE.out;omega) hq,Mod.trans' hm hq (fun i _ h=>h) (fun i hi h=>by have:=h.1;omega),zH hz hq.size⟩
  case hIx=>exact fun _ _ _ _ h _=>h
  case stop=>exact fun _ _ _ _ _ h _=>h.elim
  case done =>
   rintro lb xs W hlb hS ⟨hI,hmW,_⟩ hK;have hS':xs=zA L:=hS;obtain⟨a2,c2,h1,h2,h3⟩:=hI.row;have hxl:xs.length=L.length:=by rw[hS',hsl]
   rw[hxl]at h1 h2 h3;rw[List.take_length]at h2;have HI:=za hI;have H2:=za h2;have H3:=za h3;have hq:zx w3.heap.size _ _:=zx.putObj (.deferred none) hlb hK rfl;clear hI hS h2 h3 hItlt hItd hxl hS' hmW;obtain⟨n,hn⟩:=zc L.length;rw[hn]at h1;have HN:=za hn;clear hn;obtain⟨h1_0,h1_f,h1_l,H_h1⟩:=cr1 h1;clear h1;go_wp2;exact j6 (v := .slice a2 n c2) hK (by simp[results,results100,go_sem]) ⟨a2,c2,by rw[HN.out],hq.owns H2.out,fun g hg=>by have:=H3.out g hg;have:=HBE.out;omega,hq.mod HI.out.pu (by have:=HBE.out;omega)⟩
  case round =>
   rintro lb pre x W K ⟨hI,hmW,hzW⟩ ⟨post,hpost⟩ hK;dsimp only[Vc];have hpl:pre.length<L.length:=by have h:=congrArg List.length hpost;rw[hsl]at h;simp at h;omega
   obtain⟨y,hy⟩ : ∃ y,L[pre.length]? = some y:=⟨_,zN hpl⟩;have hyx:y.slot=x:=by
    have h1:(zA L)[pre.length]? = some y.slot:=by unfold zA;rw[yw,hy];rfl
    rw[hpost]at h1;simpa using h1.symm
   have hym:=yd hy;have htk:L.take (pre.length+1)=L.take pre.length++[y]:=by rw[ua,hy];rfl
   have HTK:=za htk;have HYM:=za hym;have HCI:=za hI;have HK:=za hK;have HMW:=za hmW;clear hI hK hItlt hpost hItd hmW htk hym hy;subst hyx;gi_wp2;refine HK.out _ _ (Mod.refl _ _) (fun l' W2 hl2 hr2 hq2 => ?_);have hI2:=HCI.out.quiet (by have:=HBE.out;omega) hq2;have HSZ:Hid (w3.heap.size≤W2.heap.size):=za (zH hzW hq2.size);have hm2:Mod (fun k=>b2<k) W1 W2:=Mod.trans' HMW.out hq2 (fun i _ h=>h) (fun i hi h=>by have:=h.1;omega);obtain⟨a2,c2,h1,h2,h3⟩:=hI2.row;have HI2:=za hI2;have HR2:=za h2;have HF2:=za h3;have HM2:=za hm2;have hbx:=hI2.r2;have hox:=hm2.heap (by omega) HOB.out;have hS0:LsS o bm b2 y.slot y.cost W2.drew:=⟨zf W2 b2 0 _ _ (0,0) hbx,zf W2 o 4 _ _ (0,0) hox,HCo.out y HYM.out W2.drew hm2.drew⟩;have HS:=za (fun(X:World) (hX:Mod (fun k=>b2<k) W2 X)=>(⟨zf X b2 0 _ _ (0,0) (hX.heap (by omega) hbx),zf X o 4 _ _ (0,0) (hX.heap (by omega) hox),HCo.out y HYM.out X (hm2.trans hX)⟩:LsS o bm b2 y.slot y.cost X));clear hI2 h2 h3 HK HCI hm2 hbx hox;obtain⟨j,hj⟩:=zc pre.length;rw[hj]at h1 HF2 hpl HR2;have HJ:=za hj;clear hj;obtain⟨sy,hsy⟩:=zc y.slot;obtain⟨cy,hcy⟩:=zc y.cost;rw[hsy,hcy]at hS0 HS;rw[hsy];have HSY:=za hsy;have HCY:=za hcy;clear hsy hcy;have H1:=za h1;gi_upto_region 6 with fail
   obtain⟨h1_0,h1_f,h1_l,H_h1⟩:=cr1 h1;clear h1;refine Ve (S:=LsS o bm b2 sy cy) (by kernel_rfl) (by kernel_rfl) ?hL hS0 (fun h_ => ?_)
   case hL=>rintro⟨a,w,h⟩;exact h
   refine hTk 1 ?_;refine hLd 2 ?_;refine hTk 3 ?_;refine hTk 4 ?_;refine hLd 5 ?_;refine hTk 6 ?_;refine hLd 7 ?_;refine hTk 8 ?_;refine vI (rs:=[0,9]) (by kernel_rfl) (by simp) ?_;refine xE rfl (fun K1 hK1 => ?_) (xE rfl (fun K1 hK1 => ?_) vM)
   focus
    go_simp;refine hK1.out _ _ h_ (fun h_ => ?_);clear hK1 K1;refine clA ?_
    (refine hSt 9 (fun K hK => ?_);go_simp;refine hK.out _ _ ?_ (fun h_ => ?_);(· exact HS.out _ (((Mod.refl _ W2).drew).alloc _));clear hK K;refine clA ?_)
   rotate_left 1
   focus
    go_simp;refine hK1.out _ _ (HS.out _ (((Mod.refl _ W2).drew).alloc _)) (fun h_ => ?_);clear hK1 K1;refine clA ?_
    (refine hSt 0 (fun K hK => ?_);go_simp;refine hK.out _ _ ?_ (fun h_ => ?_);(· exact h_);clear hK K;refine clA ?_)
   all_goals
    have hAl:Mod (fun k=>b2<k) W2 (W2.drew.alloc (.cells #[.int .u32 sy,.int .i64 cy] 155)):=((Mod.refl _ W2).drew).alloc _;have hK9:(W2.drew.alloc (.cells #[.int .u32 sy,.int .i64 cy] 155)).heap[b2+1]? = some (.cells #[.slice a2 j c2] 152 (0,0)):=zz (show W2.drew.heap[b2+1]? = _ from H1.out);refine vI (rs:=[10]) (by kernel_rfl) (by simp) ?_;refine xE rfl (fun K2 hK2 => ?_) vM;refine XQ _ (by rfl) _ _ 152 (by rfl) 155 i0 _ 2 16 underlying152 hi iz0 iz1 iz2 rfl (by decide) (.slice a2 j c2) j _ (by rfl) (zy HR2.out (((Mod.refl (fun _=>False) W2).drew).alloc _) (fun _ _ h=>h)) _ [.int .u32 sy,.int .i64 cy] 1 (by rfl) (zn.of_block 1 1 2 (zi (by simp)) (by rfl) (by simp[Value.oneCell'])) (by rfl) (by unfold maxLen;omega) (by omega) ?_;intro a7 c7 w5 hr7 hg7 hb7;have hm5:Mod (fun k=>b2<k) W2 w5:=hAl.trans (Mod.of_grown hg7 (fun k e _=>by have:=HF2.out k e;omega));have h7b:=(Mod.of_grown (S:=fun k=>(Value.slice a2 j c2).ownBlock=some k) hg7 (fun k e _=>e)).heap (fun e=>by have:=HF2.out _ e;omega) hK9;have h75:=zf w5 _ 0 _ _ _ h7b;have h7f:=fun i=>yP w5 _ i _ _ h7b;have h7l:=zl h7b
    refine hK2.out _ _ (HS.out _ hm5) (fun h_ => ?_);clear hK2 K2;refine clA ?_
    (refine hSt 11 (fun K hK => ?_);go_simp;refine hK.out _ _ ?_ (fun h_ => ?_);(· exact HS.out _ (hm5.setCell (p:=⟨b2+1,0,none⟩) (fun _=>by show b2<b2+1;omega) _));clear hK K;refine clA ?_)
    refine hDn ?_;clear h_;have hM:Mod (fun k=>(Value.slice a2 j c2).ownBlock=some k∨k=b2+1) W2 (w5.setCell ⟨b2+1,0,none⟩ (.slice a7 (j+1) c7)) :=
     ((((Mod.refl _ W2).drew).alloc (.cells #[.int .u32 sy,.int .i64 cy] 155)).then (Mod.of_grown (S:=fun k=>(Value.slice a2 j c2).ownBlock=some k) hg7 (fun k e _=>e)) (fun _ _ h => .inl h)).setCell (fun _ => .inr rfl) _
    have hS2:b2+1<W2.heap.size:=zl H1.out;have hS3:w3.heap.size≤W2.heap.size:=HSZ.out;have h7 : ∀ g,(Value.slice a7 (j+1) c7).ownBlock=some g→w3.heap.size≤g:=fun g hg=>by
     rcases hb7 with e | e
     ·exact HF2.out g (e ▸ hg)
     ·rw[e]at hg;have hg2:(W2.drew.alloc (.cells #[.int .u32 sy,.int .i64 cy] 155)).heap.size=g:=by injection hg
      simp at hg2;omega
    refine⟨xd.of_mod hM (fun k _ h o ho => ?_),yS.of_mod hM (fun k hk h => ?_),⟨⟨HI2.out.pu.then hM (fun k hk h => ?_),?_,a7,c7,?_,?_,?_⟩,HM2.out.then hM (fun k hk h => ?_),zH hS3 hM.size⟩⟩
    ·rcases h with h | rfl
     ·obtain⟨cur,e⟩:=yg HR2.out h;rw[e]at ho;cases ho;rfl
     ·rw[H1.out]at ho;cases ho;rfl
    ·have h8:=HGE.out k hk;rcases h with h | h
     ·have:=HF2.out k h;have:=HIL.out k hk;omega
     ·omega
    ·have:=HBE.out;rcases h with h | h
     ·have:=HF2.out k h;omega
     ·omega
    ·exact hM.heap (fun h=>by rcases h with h | h;exact absurd (HF2.out _ h) (by omega);omega) HI2.out.r2
    ·rw[zR,HJ.out];simpa using zP w5 (b2+1) 0 _ _ (.slice a7 (j+1) c7) h7b
    ·rw[zR,HJ.out];rw[HJ.out]at HTK;rw[show j + [sy].length=j+1 from rfl,HTK.out,ZW];have h9:=zy hr7 ((Mod.refl (fun k=>k=b2+1) w5).setCell (p:=⟨b2+1,0,none⟩) (fun _=>rfl) (.slice a7 (j+1) c7)) (fun g hg e=>by have:=h7 g hg;omega);simpa[wtC,HSY.out,HCY.out]using h9
    ·rw[zR,HJ.out];exact h7
    ·rcases h with h | h
     ·have:=HF2.out k h;omega
     ·omega
theorem zdY(h:yK w D o l0 l1 bm lim D0 D1 Dm A B):Calls prog 100 #[lkP o,.int .i64 0] w (qG w A):=zbt h (.inl ⟨rfl,rfl⟩) (fun _ hW=>(h.pure hW).q0) (fun _ hx=>xQ _ hx) (by rw[zR];omega)
theorem ziY(h:yK w D o l0 l1 bm lim D0 D1 Dm A B):Calls prog 100 #[lkP o,.int .i64 1] w (qG w B):=zbt h (.inr ⟨rfl,rfl⟩) (fun _ hW=>(h.pure hW).q1) (fun _ hx=>xC _ hx) (by rw[zR];omega)
end
end
section
def xc(Lss:List (List (List Nat)))(l b s:Nat):Prop := ∃ Ls L,Lss[l]? = some Ls∧Ls[b]? = some L∧s∈L
structure yc(now:Nat)(M:List Td)(P:Nat→Prop)(Lss:List (List (List Nat))):Prop where
 len:Lss.length=8
 wide : ∀(l:Nat) (Ls:List (List Nat)),Lss[l]? = some Ls→Ls.length=256
 nd : ∀(l b:Nat) (Ls:List (List Nat)) (L:List Nat),Lss[l]? = some Ls→Ls[b]? = some L→L.Nodup
 slots : ∀ x∈M,∀ y∈M,x.slot=y.slot→x=y
 births : ∀ x∈M,∀ y∈M,x.birth=y.birth→x=y
 ndM:M.Nodup
 rng : ∀ x∈M,x.slot<4194304∧x.dl<18446744073709551615∧0<x.birth∧x.birth≤18446744073709551615
 after : ∀ x∈M,¬ P x.slot→now<x.dl
 at_ : ∀ l b s,xc Lss l b s ↔ ¬ P s ∧ ∃ x∈M,x.slot=s∧lvl now x.dl=l∧bkt now x.dl=b
section
variable{now tt:Nat}{M M':List Td}{P Q:Nat→Prop}{Lss Lss':List (List (List Nat))}{Ls:List (List Nat)}{L L':List Nat}{lv bk:Nat}{x:Td}
theorem zbQ(hL:Lss[lv]? = some Ls)(hK:Ls[bk]? = some L)(l b s:Nat):xc (Lss.set lv (Ls.set bk L')) l b s↔if l=lv∧b=bk then s∈L' else xc Lss l b s:=by
 have hl:=(zF.1 hL).1;have hb:=(zF.1 hK).1;unfold xc;by_cases e1:l=lv
 ·subst e1;rw[yo hl];by_cases e2:b=bk
  ·subst e2;rw[zk ⟨rfl,rfl⟩];constructor
   ·rintro⟨A,B,h1,h2,h3⟩
    cases h1
    rw[yo hb]at h2
    cases h2
    exact h3
   ·intro h;exact⟨_,_,rfl,yo hb,h⟩
  ·rw[zh (fun c=>e2 c.2)];constructor
   ·rintro⟨A,B,h1,h2,h3⟩
    cases h1
    rw[yx (fun c=>e2 c.symm)]at h2;exact⟨_,_,hL,h2,h3⟩
   ·rintro⟨A,B,h1,h2,h3⟩;rw[hL]at h1
    cases h1
    exact⟨_,_,rfl,by rw[yx (fun c=>e2 c.symm)];exact h2,h3⟩
 ·rw[zh (fun c=>e1 c.1),yx (fun c=>e1 c.symm)]
theorem zdy(hL:Lss[lv]? = some Ls)(h1 : ∀(l:Nat) (A:List (List Nat)),Lss[l]? = some A→A.length=256){Ls':List (List Nat)}(h2:Ls'.length=256)(l:Nat)(A:List (List Nat))(h:(Lss.set lv Ls')[l]? = some A):A.length=256:=by
 have hl:=(zF.1 hL).1;by_cases e1:l=lv
 ·subst e1;rw[yo hl]at h
  cases h
  exact h2
 ·rw[yx (fun c=>e1 c.symm)]at h;exact h1 l A h
theorem za3(hL:Lss[lv]? = some Ls)(hK:Ls[bk]? = some L)(h1 : ∀(l b:Nat) (A:List (List Nat)) (B:List Nat),Lss[l]? = some A→A[b]? = some B→B.Nodup)(h2:L'.Nodup)(l b:Nat)(A:List (List Nat))(B:List Nat)(hA:(Lss.set lv (Ls.set bk L'))[l]? = some A)(hB:A[b]? = some B):B.Nodup:=by
 have hl:=(zF.1 hL).1;have hb:=(zF.1 hK).1;by_cases e1:l=lv
 ·subst e1;rw[yo hl]at hA
  cases hA
  by_cases e2:b=bk
  ·subst e2;rw[yo hb]at hB
   cases hB
   exact h2
  ·rw[yx (fun c=>e2 c.symm)]at hB;exact h1 l b _ _ hL hB
 ·rw[yx (fun c=>e1 c.symm)]at hA;exact h1 l b A B hA hB
theorem yc.get(h:yc now M P Lss)(h1:lv<8)(h2:bk<256) : ∃ Ls L,Lss[lv]? = some Ls∧Ls[bk]? = some L:=by
 obtain⟨Ls,hL⟩ : ∃ Ls,Lss[lv]? = some Ls:=⟨_,zN (by rw[h.len];exact h1)⟩;exact⟨Ls,_,hL,zN (by rw[h.wide lv Ls hL];exact h2)⟩
theorem yc.uniq(h:yc now M P Lss){l b l' b' s:Nat}(h1:xc Lss l b s)(h2:xc Lss l' b' s):l=l'∧b=b':=by
 obtain⟨_,x,hx,e1,e2,e3⟩:=(h.at_ _ _ _).1 h1;obtain⟨_,y,hy,f1,f2,f3⟩:=(h.at_ _ _ _).1 h2;have:=h.slots x hx y hy (by rw[e1,f1]);subst this;exact⟨by rw[← e2,f2],by rw[← e3,f3]⟩
theorem yc.out(h:yc now M P Lss){s:Nat}(hp : ∀ y∈M,y.slot=s→P s)(l b:Nat) : ¬ xc Lss l b s:=fun c=>by
 obtain⟨h1,y,hy,e,_⟩:=(h.at_ _ _ _).1 c;exact h1 (hp y hy e)
theorem yc.notL(h:yc now M P Lss){s:Nat}(hp : ∀ y∈M,y.slot=s→P s)(hL:Lss[lv]? = some Ls) : ¬ inL Ls s:=fun⟨b,l,h1,h2⟩=>h.out hp lv b ⟨Ls,l,hL,h1,h2⟩
theorem yc.put(h:yc now M P Lss)(hc:Vr M x M')(hn:now<x.dl)(hr:x.slot<4194304∧x.dl<18446744073709551615∧0<x.birth∧x.birth≤18446744073709551615)(hp : ∀ y∈M,y.slot=x.slot→P x.slot)
  (hL:Lss[lvl now x.dl]? = some Ls) (hK:Ls[bkt now x.dl]? = some L) (hQ : ∀ s,Q s↔P s∧s≠x.slot):yc now M' Q (Lss.set (lvl now x.dl) (Ls.set (bkt now x.dl) (L++[x.slot]))):=by
 have hmem : ∀ y,y∈M'↔y=x∨y∈M:=fun y=>by
  rcases hc with⟨_,_,rfl⟩ | ⟨h1,_,rfl⟩
  ·exact yu
  ·exact⟨.inr,fun e=>by rcases e with rfl | e;exact h1;exact e⟩
 have hu : ∀ y∈M',y.slot=x.slot→y=x:=fun y hy e=>by
  rcases hc with⟨h1,_,rfl⟩ | ⟨_,h2,rfl⟩
  ·rcases yu.1 hy with rfl | hy
   ·rfl
   ·exact absurd e (h1 y hy)
  ·exact h2 y hy e
 have hout:=h.out hp;refine⟨by rw[xH];exact h.len,zdy hL h.wide (by rw[xH];exact h.wide _ _ hL),za3 hL hK h.nd ?_,?_,?_,?_,?_,?_,fun l b s => ?_⟩
 ·rw[xD];refine⟨h.nd _ _ _ _ hL hK,by simp,fun a ha b hb e => ?_⟩;rw[xh]at hb;subst hb;subst e;exact hout _ _ ⟨Ls,L,hL,hK,ha⟩
 ·intro a ha b hb e;rcases(hmem a).1 ha with rfl | ha2
  ·exact(hu b hb e.symm).symm
  ·rcases(hmem b).1 hb with rfl | hb2
   ·exact hu a ha e
   ·exact h.slots a ha2 b hb2 e
 ·rcases hc with⟨_,h2,rfl⟩ | ⟨_,_,rfl⟩
  ·intro a ha b hb e;rcases yu.1 ha with ea | ha'
   ·rcases yu.1 hb with eb | hb'
    ·rw[ea,eb]
    ·exact absurd (by rw[← e,ea]) (h2 b hb')
   ·rcases yu.1 hb with eb | hb'
    ·exact absurd (by rw[e,eb]) (h2 a ha')
    ·exact h.births a ha' b hb' e
  ·exact h.births
 ·rcases hc with⟨h1,_,rfl⟩ | ⟨_,_,rfl⟩
  ·exact xe.2 ⟨fun c=>h1 x c rfl,h.ndM⟩
  ·exact h.ndM
 ·intro y hy;rcases(hmem y).1 hy with rfl | hy
  ·exact hr
  ·exact h.rng y hy
 ·intro y hy hq;by_cases e:y.slot=x.slot
  ·rw[hu y hy e];exact hn
  ·rcases(hmem y).1 hy with rfl | hy
   ·exact hn
   ·exact h.after y hy (fun c=>hq ((hQ _).2 ⟨c,e⟩))
 ·rw[zbQ hL hK];by_cases e:s=x.slot
  ·subst e;have hq : ¬ Q x.slot:=fun c=>((hQ _).1 c).2 rfl
   by_cases c:l=lvl now x.dl∧b=bkt now x.dl
   ·rw[zk c];exact⟨fun _=>⟨hq,x,(hmem x).2 (.inl rfl),rfl,c.1.symm,c.2.symm⟩,fun _=>xC _ ym⟩
   ·rw[zh c];refine⟨fun k=>absurd k (hout _ _),fun⟨_,y,hy,e1,e2,e3⟩=>absurd ?_ c⟩;have:=hu y hy e1;subst this;exact⟨e2.symm,e3.symm⟩
  ·have hqp:Q s↔P s:=⟨fun c=>((hQ s).1 c).1,fun c=>(hQ s).2 ⟨c,e⟩⟩;have h1:(if l=lvl now x.dl∧b=bkt now x.dl then s∈L++[x.slot]else xc Lss l b s)↔xc Lss l b s:=by
    by_cases c:l=lvl now x.dl∧b=bkt now x.dl
    ·rw[zk c,yF,xh,c.1,c.2];refine⟨fun k => ?_,fun⟨A,B,a1,a2,a3⟩ => ?_⟩
     ·rcases k with k | k
      ·exact⟨Ls,L,hL,hK,k⟩
      ·exact absurd k e
     ·rw[hL]at a1;cases a1;rw[hK]at a2;cases a2;exact .inl a3
    ·rw[zh c]
   rw[h1,h.at_,hqp];refine ZC (fun _=>⟨fun⟨y,hy,k⟩=>⟨y,(hmem y).2 (.inr hy),k⟩,fun⟨y,hy,k⟩ => ?_⟩);rcases(hmem y).1 hy with rfl | hy
   ·exact absurd k.1.symm e
   ·exact⟨y,hy,k⟩
theorem yc.cut(h:yc now M P Lss)(hx:x∈M)(hM : ∀ y,y∈M'↔y∈M∧y.slot≠x.slot)(hnd:M'.Nodup)
  (hL:Lss[lvl now x.dl]? = some Ls) (hK:Ls[bkt now x.dl]? = some L):yc now M' P (Lss.set (lvl now x.dl) (Ls.set (bkt now x.dl) (L.erase x.slot))):=by
 have hLn:=h.nd _ _ _ _ hL hK;refine⟨by rw[xH];exact h.len,zdy hL h.wide (by rw[xH];exact h.wide _ _ hL),za3 hL hK h.nd (hLn.erase _),fun a ha b hb=>h.slots a ((hM a).1 ha).1 b ((hM b).1 hb).1,fun a ha b hb=>h.births a ((hM a).1 ha).1 b ((hM b).1 hb).1,hnd,fun y hy=>h.rng y ((hM y).1 hy).1,fun y hy=>h.after y ((hM y).1 hy).1,fun l b s => ?_⟩;rw[zbQ hL hK];by_cases e:s=x.slot
 ·subst e;have r : ¬ ∃ y∈M',y.slot=x.slot∧lvl now y.dl=l∧bkt now y.dl=b:=fun⟨y,hy,e1,_⟩=>((hM y).1 hy).2 e1
  by_cases c:l=lvl now x.dl∧b=bkt now x.dl
  ·rw[zk c];exact⟨fun k=>absurd k (fun k=>((List.Nodup.mem_erase_iff hLn).1 k).1 rfl),fun k=>absurd k.2 r⟩
  ·rw[zh c];refine⟨fun k => ?_,fun k=>absurd k.2 r⟩;obtain⟨_,y,hy,e1,e2,e3⟩:=(h.at_ _ _ _).1 k;have:=h.slots y hy x hx e1;subst this;exact absurd ⟨e2.symm,e3.symm⟩ c
 ·have h1:(if l=lvl now x.dl∧b=bkt now x.dl then s∈L.erase x.slot else xc Lss l b s)↔xc Lss l b s:=by
   by_cases c:l=lvl now x.dl∧b=bkt now x.dl
   ·rw[zk c,List.mem_erase_of_ne e,c.1,c.2];refine⟨fun k=>⟨Ls,L,hL,hK,k⟩,fun⟨A,B,a1,a2,a3⟩ => ?_⟩;rw[hL]at a1;cases a1;rw[hK]at a2;cases a2;exact a3
   ·rw[zh c]
  rw[h1,h.at_];refine ZC (fun _=>⟨fun⟨y,hy,k⟩=>⟨y,(hM y).2 ⟨hy,fun c=>e (by rw[← k.1,c])⟩,k⟩,fun⟨y,hy,k⟩=>⟨y,((hM y).1 hy).1,k⟩⟩)
theorem yc.drop(h:yc now M P Lss)(hp:P x.slot)(hM : ∀ y,y∈M'↔y∈M∧y.slot≠x.slot)(hnd:M'.Nodup)(hQ : ∀ s,Q s↔P s∧s≠x.slot):yc now M' Q Lss:=by
 refine⟨h.len,h.wide,h.nd,fun a ha b hb=>h.slots a ((hM a).1 ha).1 b ((hM b).1 hb).1,fun a ha b hb=>h.births a ((hM a).1 ha).1 b ((hM b).1 hb).1,hnd,fun y hy=>h.rng y ((hM y).1 hy).1,fun y hy hq=>h.after y ((hM y).1 hy).1 (fun c=>hq ((hQ _).2 ⟨c,((hM y).1 hy).2⟩)),fun l b s => ?_⟩;rw[h.at_];by_cases e:s=x.slot
 ·subst e;exact⟨fun k=>absurd hp k.1,fun⟨_,y,hy,e1,_⟩=>absurd e1 ((hM y).1 hy).2⟩
 ·have hqp:Q s↔P s:=⟨fun c=>((hQ s).1 c).1,fun c=>(hQ s).2 ⟨c,e⟩⟩;rw[hqp];refine ZC (fun _=>⟨fun⟨y,hy,k⟩=>⟨y,(hM y).2 ⟨hy,fun c=>e (by rw[← k.1,c])⟩,k⟩,fun⟨y,hy,k⟩=>⟨y,((hM y).1 hy).1,k⟩⟩)
theorem yc.new(now:Nat):yc now [] (fun _=>False) (List.replicate 8 (List.replicate 256 [])):=by
 refine⟨vu,fun l A h => ?_,fun l b A B h1 h2 => ?_,(fun _ h=>by cases h),(fun _ h=>by cases h),jv,(fun _ h=>by cases h),(fun _ h=>by cases h),fun l b s=>⟨fun⟨A,B,h1,h2,h3⟩ => ?_,fun⟨_,x,hx,_⟩=>by cases hx⟩⟩
 ·rw[vW]at h;split at h
  ·cases h;exact vu
  ·cases h
 ·rw[vW]at h1;split at h1
  ·cases h1
   rw[vW]at h2;split at h2
   ·cases h2;exact jv
   ·cases h2
  ·cases h1
 ·rw[vW]at h1;split at h1
  ·cases h1
   rw[vW]at h2;split at h2
   ·cases h2;cases h3
   ·cases h2
  ·cases h1
theorem yc.perm(h:yc now M P Lss)(hp:M.Perm M'):yc now M' P Lss :=
 ⟨h.len,h.wide,h.nd,fun a ha b hb=>h.slots a (hp.mem_iff.2 ha) b (hp.mem_iff.2 hb),fun a ha b hb=>h.births a (hp.mem_iff.2 ha) b (hp.mem_iff.2 hb),hp.nodup_iff.1 h.ndM,fun y hy=>h.rng y (hp.mem_iff.2 hy),fun y hy=>h.after y (hp.mem_iff.2 hy),fun l b s=>by
  rw[h.at_];exact ZC (fun _=>⟨fun⟨y,hy,k⟩=>⟨y,hp.mem_iff.1 hy,k⟩,fun⟨y,hy,k⟩=>⟨y,hp.mem_iff.2 hy,k⟩⟩)⟩
end
def vf(Ls:List (List Nat))(n:Nat):List Nat:=(Ls.take n).flatten
def kn(Ls:List (List Nat))(n:Nat):List (List Nat):=List.replicate n []++Ls.drop n
def vZ(Lss:List (List (List Nat)))(k:Nat):List (List (List Nat)):=List.replicate k (List.replicate 256 [])++Lss.drop k
def vm(Lss:List (List (List Nat)))(k:Nat):List Nat:=((Lss.take k).map List.flatten).flatten
section
variable{now tt:Nat}{M M':List Td}{P Q:Nat→Prop}{Lss Lss':List (List (List Nat))}{Ls cur:List (List Nat)}{L L':List Nat}{lv bk n b k:Nat}{x:Td}
theorem zbd(a:List Nat)(Ls:List (List Nat))(i:Nat):neB (a::Ls) (i+1)=neB Ls i:=rfl
theorem zau : ∀ {cur:List (List Nat)} {b n:Nat} {L:List Nat},b<n→cur[b]? = some L→(∀ i,i<b→neB cur i=false)→(cur.take n).flatten=L++((cur.set b []).take n).flatten
 | [],b,n,L,_,h,_=>by cases h
 | a::cur,0,n+1,L,_,h,_=>by
  injection h with h
  subst h;simp
 | a::cur,b+1,n+1,L,hb,h,he=>by
  have h0:=he 0 (by omega);have ha:a=[]:=by
   cases a with
   | nil=>rfl
   | cons y a=>simp[neB]at h0
  subst ha;have:=zau (cur:=cur) (b:=b) (n:=n) (L:=L) (by omega) h (fun i hi=>by rw[← zbd [] cur i];exact he (i+1) (by omega));rw[YF,Vt,YM,this,ZO,YF,Vt,YM]
theorem zae : ∀ {cur:List (List Nat)} {n:Nat},n≤cur.length→(∀ i,i<n→neB cur i=false)→cur.take n=List.replicate n []
 | cur,0,_,_=>by simp
 | [],n+1,h,_=>by simp at h
 | a::cur,n+1,h,he=>by
  have h0:=he 0 (by omega);have ha:a=[]:=by
   cases a with
   | nil=>rfl
   | cons y a=>simp[neB]at h0
  subst ha;rw[YF,zae (by simp at h;omega) (fun i hi=>by rw[← zbd [] cur i];exact he (i+1) (by omega)),ZN]
theorem zkY(n:Nat):(List.replicate n ([]:List Nat)).flatten=[]:=by
 induction n with
 | zero=>rfl
 | succ n ih=>rw[ZN,Vt,ih];rfl
theorem Kt{s:Nat}:s∈vf Ls n ↔ ∃ b L,b<n∧Ls[b]? = some L∧s∈L:=by
 unfold vf;rw[ZK];constructor
 ·rintro⟨L,hL,hs⟩;obtain⟨b,hb⟩:=ug hL;rw[jT]at hb;split at hb
  ·exact⟨b,L,by assumption,hb,hs⟩
  ·cases hb
 ·rintro⟨b,L,hb,hL,hs⟩;refine⟨L,?_,hs⟩;apply yd (i:=b);rw[jT,zk hb,hL]
theorem Kb{s:Nat}:s∈vm Lss k ↔ ∃ l b,l<k∧xc Lss l b s:=by
 unfold vm;rw[ZK];constructor
 ·rintro⟨A,hA,hs⟩;obtain⟨l,hl⟩:=ug hA;rw[yw,jT]at hl;split at hl
  ·cases hL:Lss[l]? with
   | none=>rw[hL]at hl;cases hl
   | some Ls =>
    rw[hL]at hl;injection hl with hl
    subst hl;obtain⟨B,hB,hs⟩:=ZK.1 hs;obtain⟨b,hb⟩:=ug hB;exact⟨l,b,by assumption,Ls,B,hL,hb,hs⟩
  ·cases hl
 ·rintro⟨l,b,hl,Ls,B,hL,hB,hs⟩;refine⟨Ls.flatten,?_,ZK.2 ⟨B,yd hB,hs⟩⟩;apply yd (i:=l);rw[yw,jT,zk hl,hL]
  rfl
theorem zk7(hL:Lss[k]? = some Ls):vm Lss (k+1)=vm Lss k++Ls.flatten:=by
 unfold vm;rw[ua,hL];simp
theorem zjk(hL:Lss[k]? = some Ls):vZ Lss (k+1)=(vZ Lss k).set k (List.replicate 256 []):=by
 unfold vZ;have hk:=(zF.1 hL).1;rw[XC _ _ (by rw[vu];exact zG _),vu,ZD,kU hk,zhr,List.replicate_succ',vH]
 rfl
theorem Xp(hk:k≤lv):(vZ Lss k)[lv]? = Lss[lv]?:=by
 unfold vZ;rw[ji (by rw[vu];exact hk),vu,List.getElem?_drop,show k+(lv-k)=lv by omega]
theorem U6(hk:lv<k):(vZ Lss k)[lv]? = some (List.replicate 256 []):=by
 unfold vZ;rw[ur (by rw[vu];exact hk),vW,zk hk]
theorem ziO{l s:Nat}:xc (vZ Lss k) l b s↔xc Lss l b s ∧ ¬ l<k:=by
 unfold xc;by_cases c:l<k
 ·refine⟨fun⟨A,B,h1,h2,h3⟩ => ?_,fun h=>absurd c h.2⟩;rw[U6 c]at h1
  cases h1
  rw[vW]at h2;split at h2
  ·cases h2;cases h3
  ·cases h2
 ·rw[Xp (by omega)];exact⟨fun h=>⟨h,c⟩,fun h=>h.1⟩
theorem UN(hn:n≤b):(kn Ls n)[b]? = Ls[b]?:=by
 unfold kn;rw[ji (by rw[vu];exact hn),vu,List.getElem?_drop,show n+(b-n)=b by omega]
theorem zcJ(hn:b<n):(kn Ls n)[b]? = some []:=by
 unfold kn;rw[ur (by rw[vu];exact hn),vW,zk hn]
theorem zhK(h:Ls.length=256)(hn:n≤256):(kn Ls n).length=256:=by
 unfold kn;rw[zR,vu,List.length_drop,h];omega
def qC(Lss:List (List (List Nat)))(Ls:List (List Nat))(top n:Nat):List (List (List Nat)):=(vZ Lss top).set top (kn Ls n)
theorem zlE(hL:Lss[lv]? = some Ls){l s:Nat}:xc (qC Lss Ls lv n) l b s↔xc Lss l b s ∧ ¬ (l<lv∨l=lv∧b<n):=by
 have hlt:lv<(vZ Lss lv).length:=by
  have:=(zF.1 ((Xp (Lss:=Lss) (zG lv)).trans hL)).1;exact this
 unfold qC;by_cases e:l=lv
 ·subst e;unfold xc;rw[yo hlt];by_cases c:b<n
  ·refine⟨fun⟨A,B,h1,h2,h3⟩ => ?_,fun h=>absurd (.inr ⟨rfl,c⟩) h.2⟩
   cases h1
   rw[zcJ c]at h2
   cases h2
   cases h3
  ·refine⟨fun⟨A,B,h1,h2,h3⟩ => ?_,fun⟨⟨A,B,h1,h2,h3⟩,_⟩ => ?_⟩
   ·cases h1
    rw[UN (by omega)]at h2;exact⟨⟨Ls,B,hL,h2,h3⟩,by omega⟩
   ·rw[hL]at h1
    cases h1
    exact⟨_,B,rfl,by rw[UN (by omega)];exact h2,h3⟩
 ·have h1:xc ((vZ Lss lv).set lv (kn Ls n)) l b s↔xc (vZ Lss lv) l b s:=by
   unfold xc;rw[yx (fun c=>e c.symm)]
  rw[h1,ziO];refine ZC (fun _ => ?_);omega
theorem Qh : ∀ {A:List (List Nat)},(∀(i:Nat) (l:List Nat),A[i]? = some l→l.Nodup)→(∀(i j:Nat) (l l':List Nat) (s:Nat),A[i]? = some l→A[j]? = some l'→s∈l→s∈l'→i=j)→A.flatten.Nodup
 | [],_,_=>by simp
 | a::A,h1,h2=>by
  rw[Vt,xD];refine⟨h1 0 a rfl,Qh (fun i l h=>h1 (i+1) l h) (fun i j l l' s e1 e2 s1 s2=>by have:=h2 (i+1) (j+1) l l' s e1 e2 s1 s2;omega),fun s hs t ht e => ?_⟩;subst e;obtain⟨B,hB,hs2⟩:=ZK.1 ht;obtain⟨i,hi⟩:=ug hB;have:=h2 0 (i+1) a B s rfl hi hs hs2;omega
theorem yc.nodup_level(h:yc now M P Lss)(hL:Lss[lv]? = some Ls):Ls.flatten.Nodup :=
 Qh (fun i l e=>h.nd lv i Ls l hL e) (fun i j l l' s e1 e2 s1 s2=>(h.uniq (l:=lv) (l':=lv) ⟨Ls,l,hL,e1,s1⟩ ⟨Ls,l',hL,e2,s2⟩).2)
theorem yc.nodup_moved(h:yc now M P Lss)(hL:Lss[lv]? = some Ls):(vm Lss lv++vf Ls n).Nodup:=by
 rw[xD];refine⟨Qh (fun i l e => ?_) (fun i j l l' s e1 e2 s1 s2 => ?_),?_,fun s hs t ht e => ?_⟩
 ·rw[yw,jT]at e;split at e
  ·cases hA:Lss[i]? with
   | none=>rw[hA]at e;cases e
   | some A=>rw[hA]at e;injection e with e;subst e;exact h.nodup_level hA
  ·cases e
 ·rw[yw,jT]at e1 e2;split at e1
  ·split at e2
   ·cases hA:Lss[i]? with
    | none=>rw[hA]at e1;cases e1
    | some A =>
     cases hB:Lss[j]? with
     | none=>rw[hB]at e2;cases e2
     | some B =>
      rw[hA]at e1;injection e1 with e1;subst e1
      rw[hB]at e2;injection e2 with e2;subst e2
      obtain⟨C,hC,c1⟩:=ZK.1 s1;obtain⟨D,hD,d1⟩:=ZK.1 s2;obtain⟨b1,hb1⟩:=ug hC;obtain⟨b2,hb2⟩:=ug hD;exact(h.uniq ⟨A,C,hA,hb1,c1⟩ ⟨B,D,hB,hb2,d1⟩).1
   ·cases e2
  ·cases e1
 ·have:=h.nodup_level hL;rw[← Yy n Ls,List.flatten_append,xD]at this;exact this.1
 ·subst e;obtain⟨l,b,hl,h1⟩:=Kb.1 hs;obtain⟨b2,B,_,h2,h3⟩:=Kt.1 ht;have:=(h.uniq h1 ⟨Ls,B,hL,h2,h3⟩).1;omega
theorem yc.start(h:yc now M (fun _=>False) Lss)(hn:now<tt)(ht:tt<18446744073709551616)(hL:Lss[lvl now tt]? = some Ls) :
  yc tt M (fun s=>s∈vm Lss (lvl now tt)++vf Ls (bkt now tt+1)) (qC Lss Ls (lvl now tt) (bkt now tt+1)) ∧ ∀ s,s∈vm Lss (lvl now tt)++vf Ls (bkt now tt+1) → ∃ x∈M,x.slot=s:=by
 have hb:bkt now tt<256:=Y5;have hlen:(vZ Lss (lvl now tt)).length=8:=by
  have:=(zF.1 hL).1;have:=h.len;unfold vZ;rw[zR,vu,List.length_drop];omega
 have hmv : ∀ s,s∈vm Lss (lvl now tt)++vf Ls (bkt now tt+1) ↔ ∃ l b,xc Lss l b s∧(l<lvl now tt∨l=lvl now tt∧b<bkt now tt+1):=fun s=>by
  rw[yF,Kb,Kt];constructor
  ·rintro(⟨l,b,h1,h2⟩ | ⟨b,B,h1,h2,h3⟩)
   ·exact⟨l,b,h2,.inl h1⟩
   ·exact⟨_,b,⟨Ls,B,hL,h2,h3⟩,.inr ⟨rfl,h1⟩⟩
  ·rintro⟨l,b,h1,h2 | ⟨rfl,h2⟩⟩
   ·exact .inl ⟨l,b,h2,h1⟩
   ·obtain⟨A,B,a1,a2,a3⟩:=h1;rw[hL]at a1
    cases a1
    exact .inr ⟨b,B,h2,a2,a3⟩
 have hnm : ∀ x∈M,x.slot∉vm Lss (lvl now tt)++vf Ls (bkt now tt+1)→tt<x.dl∧lvl tt x.dl=lvl now x.dl∧bkt tt x.dl=bkt now x.dl:=fun x hx hs=>by
  obtain⟨_,r2,_⟩:=h.rng x hx;refine zd8 (by omega) ht (by omega) (h.after x hx (fun c=>c)) hn (fun hm=>hs ((hmv _).2 ⟨lvl now x.dl,bkt now x.dl,(h.at_ _ _ _).2 ⟨(fun c=>c),x,hx,rfl,rfl,rfl⟩,?_⟩));unfold KJ at hm;rcases hm with hm | ⟨h1,h2⟩
  ·exact .inl hm
  ·exact .inr ⟨h1,by omega⟩
 refine⟨⟨by unfold qC;rw[xH];exact hlen,fun l A hA => ?_,fun l b A B hA hB => ?_,h.slots,h.births,h.ndM,h.rng,fun x hx hs=>(hnm x hx hs).1,fun l b s => ?_⟩,fun s hs => ?_⟩
 ·unfold qC at hA;by_cases e:l=lvl now tt
  ·subst e;rw[yo (by rw[hlen];have:=(zF.1 hL).1;rw[h.len]at this;exact this)]at hA
   cases hA
   exact zhK (h.wide _ _ hL) (by omega)
  ·rw[yx (fun c=>e c.symm)]at hA;by_cases c:l<lvl now tt
   ·rw[U6 c]at hA
    cases hA
    exact vu
   ·rw[Xp (by omega)]at hA;exact h.wide l A hA
 ·unfold qC at hA;by_cases e:l=lvl now tt
  ·subst e;rw[yo (by rw[hlen];have:=(zF.1 hL).1;rw[h.len]at this;exact this)]at hA
   cases hA
   by_cases c:b<bkt now tt+1
   ·rw[zcJ c]at hB
    cases hB
    exact jv
   ·rw[UN (by omega)]at hB;exact h.nd _ _ _ _ hL hB
  ·rw[yx (fun c=>e c.symm)]at hA;by_cases c:l<lvl now tt
   ·rw[U6 c]at hA
    cases hA
    rw[vW]at hB;split at hB
    ·cases hB;exact jv
    ·cases hB
   ·rw[Xp (by omega)]at hA;exact h.nd l b A B hA hB
 ·rw[zlE hL];constructor
  ·rintro⟨h1,h2⟩;obtain⟨_,x,hx,e1,e2,e3⟩:=(h.at_ _ _ _).1 h1;have hns:s∉vm Lss (lvl now tt)++vf Ls (bkt now tt+1):=fun c=>by
    obtain⟨l',b',h3,h4⟩:=(hmv s).1 c;obtain⟨f1,f2⟩:=h.uniq h1 h3;rw[← f1,← f2]at h4;exact h2 h4
   obtain⟨_,g2,g3⟩:=hnm x hx (by rw[e1];exact hns);exact⟨hns,x,hx,e1,by rw[g2,e2],by rw[g3,e3]⟩
  ·rintro⟨hns,x,hx,e1,e2,e3⟩;obtain⟨_,g2,g3⟩:=hnm x hx (by rw[e1];exact hns);have h1:xc Lss l b s:=(h.at_ _ _ _).2 ⟨(fun c=>c),x,hx,e1,by rw[← g2,e2],by rw[← g3,e3]⟩;exact⟨h1,fun c=>hns ((hmv s).2 ⟨l,b,h1,c⟩)⟩
 ·obtain⟨l,b,h1,_⟩:=(hmv s).1 hs;obtain⟨_,x,hx,e,_⟩:=(h.at_ _ _ _).1 h1;exact⟨x,hx,e⟩
end
section
variable{now tt:Nat}{M M' Mj dj:List Td}{P Q:Nat→Prop}{Lss Lss':List (List (List Nat))}{Ls cur:List (List Nat)}{L L' mv:List Nat}{lv bk n b k s:Nat}{x:Td}
theorem yc.without(h:yc now M P Lss)(hp:M.Perm (x::M')):x∈M∧(∀ y,y∈M'↔y∈M∧y.slot≠x.slot)∧(∀ y,y∈M'↔y∈M∧y.birth≠x.birth)∧M'.Nodup∧M'.length+1=M.length:=by
 have hx:x∈M:=hp.mem_iff.2 ym;have hnd:=hp.nodup_iff.1 h.ndM;obtain⟨n1,n2⟩:=xe.1 hnd;have key : ∀ y,y∈M'↔y∈M∧y≠x:=fun y=>by
  rw[hp.mem_iff,yu];constructor
  ·intro hy;exact⟨.inr hy,fun e=>n1 (e ▸ hy)⟩
  ·rintro⟨e | e,c⟩
   ·exact absurd e c
   ·exact e
 refine⟨hx,fun y => ?_,fun y => ?_,n2,by rw[hp.length_eq];rfl⟩
 ·rw[key];exact ZC (fun hy=>⟨fun c e=>c (h.slots y hy x hx e),fun c e=>c (by rw[e])⟩)
 ·rw[key];exact ZC (fun hy=>⟨fun c e=>c (h.births y hy x hx e),fun c e=>c (by rw[e])⟩)
theorem zfY(h:yc now M P Lss)(hx:x∈M):M.Perm (x::M.filter (fun y=>y.slot != x.slot)):=by
 have h1 : ∀(A:List Td),(∀ a∈A,∀ b∈A,a.slot=b.slot→a=b)→A.Nodup→x∈A→A.Perm (x::A.filter (fun y=>y.slot != x.slot)):=by
  intro A
  induction A with
  | nil=>intro _ _ hx;cases hx
  | cons a A ih =>
   intro hs hnd hx;obtain⟨n1,n2⟩:=xe.1 hnd;by_cases e:a.slot=x.slot
   ·have:a=x:=hs a ym x hx e;subst this;have hf:A.filter (fun y=>y.slot != a.slot)=A:=by
     rw[jf];intro y hy;have:y.slot≠a.slot:=fun c=>n1 (by rw[← hs y (yB _ hy) a ym c];exact hy)
     simpa using this
    rw[k9,zh (by simp),hf]
   ·rw[k9,zk (by simpa using e)];have hx2:x∈A:=by
     rcases yu.1 hx with c | c
     ·exact absurd (by rw[c]) e
     ·exact c
    exact((ih (fun u hu v hv=>hs u (yB _ hu) v (yB _ hv)) n2 hx2).cons a).trans (List.Perm.swap x a _)
 exact h1 M h.slots h.ndM hx
structure jX(tt:Nat)(M:List Td)(mv:List Nat)(Mj dj:List Td)(Lssj:List (List (List Nat))):Prop where
 inv:yc tt Mj (fun s=>s∈mv) Lssj
 perm:(Mj++dj).Perm M
 due : ∀ x∈dj,x.dl≤tt
 nd:mv.Nodup
 has : ∀ s∈mv,∃ x∈Mj,x.slot=s
theorem jX.stay(h:jX tt M (s::mv) Mj dj Lss)(hx:x∈Mj)(hs:x.slot=s)(hn:tt<x.dl)(hL:Lss[lvl tt x.dl]? = some Ls)(hK:Ls[bkt tt x.dl]? = some L) :
  jX tt M mv Mj dj (Lss.set (lvl tt x.dl) (Ls.set (bkt tt x.dl) (L++[x.slot]))):=by
 obtain⟨n1,n2⟩:=xe.1 h.nd;refine⟨h.inv.put (.inr ⟨hx,fun y hy e=>h.inv.slots y hy x hx e,rfl⟩) hn (h.inv.rng x hx) (fun y hy e=>by rw[hs];exact ym) hL hK (fun t => ?_),h.perm,h.due,n2,fun t ht=>h.has t (yB _ ht)⟩;rw[yu,hs];constructor
 ·intro ht;exact⟨.inr ht,fun e=>n1 (e ▸ ht)⟩
 ·rintro⟨e | e,c⟩
  ·exact absurd e c
  ·exact e
theorem jX.go(h:jX tt M (s::mv) Mj dj Lss)(hs:x.slot=s)(hd:x.dl≤tt)(hp:Mj.Perm (x::M')):jX tt M mv M' (dj++[x]) Lss:=by
 obtain⟨n1,n2⟩:=xe.1 h.nd;obtain⟨hx,w1,w2,w3,w4⟩:=h.inv.without hp;refine⟨h.inv.drop (x:=x) (by rw[hs];exact ym) w1 w3 (fun t => ?_),?_,fun y hy => ?_,n2,fun t ht => ?_⟩
 ·rw[yu,hs];constructor
  ·intro ht;exact⟨.inr ht,fun e=>n1 (e ▸ ht)⟩
  ·rintro⟨e | e,c⟩
   ·exact absurd e c
   ·exact e
 ·refine List.Perm.trans ?_ h.perm;refine List.Perm.trans ?_ (hp.symm.append_right dj);rw[← vH];exact List.perm_append_comm.trans (by simp)
 ·rcases yF.1 hy with hy | hy
  ·exact h.due y hy
  ·rw[xh]at hy;rw[hy];exact hd
 ·obtain⟨y,hy,e⟩:=h.has t (yB _ ht);exact⟨y,(w1 y).2 ⟨hy,fun c=>n1 (by rw[← hs,← c,e];exact ht)⟩,e⟩
theorem jX.fin(h:jX tt M [] Mj dj Lss):yc tt Mj (fun _=>False) Lss ∧ ∀ x∈Mj,tt<x.dl:=by
 have h0:(fun s:Nat=>s∈([]:List Nat))=fun _=>False:=by funext s;simp
 have:=h.inv;rw[h0]at this;exact⟨this,fun x hx=>this.after x hx (fun c=>c)⟩
theorem yc.adv(h:yc now M (fun _=>False) Lss)(hn:now<tt)(ht:tt<18446744073709551616)(hL:Lss[lvl now tt]? = some Ls) :
  jX tt M (vm Lss (lvl now tt)++vf Ls (bkt now tt+1)) M [] (qC Lss Ls (lvl now tt) (bkt now tt+1)):=by
 obtain⟨h1,h2⟩:=h.start hn ht hL;exact⟨h1,by simp,(fun _ h=>by cases h),h.nodup_moved hL,h2⟩
def bef(a b:Td):Prop:=a.dl<b.dl∨a.dl=b.dl∧a.birth<b.birth
def kX(a b:Td):Bool:=decide (a.dl<b.dl)||(decide (a.dl=b.dl)&&decide (a.birth<b.birth))
theorem ZZ{a b:Td}:kX a b=true↔bef a b:=by unfold kX bef;simp
theorem Xb{a b:Td}(h1:bef a b)(h2:bef b a):False:=by unfold bef at *;omega
theorem ZR : ∀ {A B:List Td},A.Pairwise bef→B.Pairwise bef→A.Perm B→A=B:=by
 intro A B h1 h2 h3;exact h3.eq_of_pairwise (fun a b _ _ x y=>(Xb x y).elim) h1 h2
theorem zbM : ∀ {A:List Td},A.Pairwise bef→A.takeWhile (fun x=>decide (x.dl≤tt))=A.filter (fun x=>decide (x.dl≤tt))∧A.dropWhile (fun x=>decide (x.dl≤tt))=A.filter (fun x => !decide (x.dl≤tt))
 | [],_=>by simp
 | a::A,h=>by
  obtain⟨h1,h2⟩:=ko.1 h;by_cases c:a.dl≤tt
  ·obtain⟨i1,i2⟩:=zbM (A:=A) h2;simp[c,i1,i2]
  ·have hz : ∀ y∈A,¬ y.dl≤tt:=fun y hy=>by
    have:=h1 y hy;unfold bef at this;omega
   have e1:A.filter (fun x=>decide (x.dl≤tt))=[]:=by
    rw[Yr];intro y hy;simpa using hz y hy
   have e2:A.filter (fun x => !decide (x.dl≤tt))=A:=by
    rw[jf];intro y hy;simpa using hz y hy
   simp only[List.takeWhile_cons,List.dropWhile_cons,List.filter_cons];simp[c,e1,e2]
theorem zgE{A:List Td}(hs:A.Pairwise bef)(hp:(Mj++dj).Perm A)(h1 : ∀ x∈dj,x.dl≤tt)(h2 : ∀ x∈Mj,tt<x.dl) :
  dj.Perm (A.takeWhile (fun x=>decide (x.dl≤tt)))∧Mj.Perm (A.dropWhile (fun x=>decide (x.dl≤tt))):=by
 obtain⟨e1,e2⟩:=zbM (tt:=tt) hs;rw[e1,e2];have f1:=(hp.filter (fun x=>decide (x.dl≤tt)));have f2:=(hp.filter (fun x => !decide (x.dl≤tt)));rw[Ym]at f1 f2;have a1:Mj.filter (fun x=>decide (x.dl≤tt))=[]:=by
  rw[Yr];intro y hy;have:=h2 y hy;simp;omega
 have a2:dj.filter (fun x=>decide (x.dl≤tt))=dj:=by
  rw[jf];intro y hy;simpa using h1 y hy
 have a3:Mj.filter (fun x => !decide (x.dl≤tt))=Mj:=by
  rw[jf];intro y hy;have:=h2 y hy;simp;omega
 have a4:dj.filter (fun x => !decide (x.dl≤tt))=[]:=by
  rw[Yr];intro y hy;simpa using h1 y hy
 rw[a1,a2]at f1;rw[a3,a4,jm]at f2;exact⟨by simpa using f1,f2⟩
end
end
section
open Go.RowKit Go.Sort
def jr(a b:Nat):Int:=if a<b then -1 else if b<a then 1 else 0
theorem UB(a b:Nat):(a<b∧jr a b = -1)∨(b<a∧jr a b=1)∨(a=b∧jr a b=0):=by
 unfold jr;rcases qU a b with h | h | h
 ·exact .inl ⟨h,by rw[zk h]⟩
 ·exact .inr (.inr ⟨h,by rw[zh (by omega),zh (by omega)]⟩)
 ·exact .inr (.inl ⟨h,by rw[zh (by omega),zk h]⟩)
theorem JX(a:Nat)(w:World):Calls prog 344 #[.int .u64 a] w fun e w'=>e=.returned (.bool false)∧w=w':=by
 go_enter func344,ntmps344;go_wp2;go_ret;exact⟨by simp,rfl⟩
theorem KN(a:Nat)(w:World):Calls prog 345 #[.int .u64 a] w fun e w'=>e=.returned (.bool false)∧w=w':=by
 go_enter func345,ntmps345;go_wp2;go_ret;exact⟨by simp,rfl⟩
theorem Azwgd {P:Prop}(h:P:=by
 go_enter func300,ntmps300
 go_wp2_with (go_at_call 344;refine zm (JX _ _) ?_;rintro e w' ⟨rfl,rfl⟩)
 go_ret;exact⟨rfl,rfl⟩):P:=h
theorem zfz(a b:Nat)(w:World):Calls prog 300 #[.int .u64 a,.int .u64 b] w fun e w'=>e=.returned (.int .i64 (jr a b))∧w=w':=by
 rcases UB a b with⟨h,e⟩ | ⟨h,e⟩ | ⟨h,e⟩
 ·rw[e];have h1:(a:Int)<(b:Int):=by omega
  clear e;exact Azwgd
 ·rw[e];have h1 : ¬ (a:Int)<(b:Int):=by omega
  have h2:(b:Int)<(a:Int):=by omega
  clear e;exact Azwgd
 ·subst h;rw[e];clear e;exact Azwgd
theorem Az16i {P:Prop}(h:P:=by
 go_enter func301,ntmps301
 go_wp2_with (go_at_call 345;refine zm (KN _ _) ?_;rintro e w' ⟨rfl,rfl⟩)
 go_ret;exact⟨rfl,rfl⟩):P:=h
theorem zk5(a b:Nat)(w:World):Calls prog 301 #[.int .u64 a,.int .u64 b] w fun e w'=>e=.returned (.int .i64 (jr a b))∧w=w':=by
 rcases UB a b with⟨h,e⟩ | ⟨h,e⟩ | ⟨h,e⟩
 ·rw[e];have h1:(a:Int)<(b:Int):=by omega
  clear e;exact Az16i
 ·rw[e];have h1 : ¬ (a:Int)<(b:Int):=by omega
  have h2:(b:Int)<(a:Int):=by omega
  clear e;exact Az16i
 ·subst h;rw[e];clear e;exact Az16i
theorem zgF(dl tt:Nat)(hd:dl<18446744073709551615)(w:World):Calls prog 147 #[.int .u64 dl,.int .u64 tt] w fun e w'=>e=.returned (.bool (decide (dl≤tt)))∧w=w':=by
 have h1:((dl:Int)==18446744073709551615)=false:=by simp;omega
 have h2:((dl:Int) != 18446744073709551615)=true:=by simp;omega
 by_cases h:dl≤tt
 ·have h3:(dl:Int)≤(tt:Int):=by omega
  rw[zL h];go_enter func147,ntmps147;go_wp2;go_ret;exact⟨by simp[h],rfl⟩
 ·have h3 : ¬ (dl:Int)≤(tt:Int):=by omega
  rw[zQ h];go_enter func147,ntmps147;go_wp2;go_ret;exact⟨by simp[h],rfl⟩
theorem zi8{w:World}{B:Nat}{x y:Int}(hx:w.cell? ⟨B,0,none⟩=some (.int .i64 x))(hy:w.cell? ⟨B,1,none⟩=some (.int .i64 y)) :
  Calls prog 299 #[.slice (some ⟨B,0,none⟩) 2 2] w fun e w'=>e=.returned (.int .i64 (if x=0 then y else x))∧w=w':=by
 by_cases e1:x=0
 ·rw[zk e1];subst e1;by_cases e2:y=0
  ·subst e2;go_enter func299,ntmps299;go_upto_region 3 with fail
   refine wp_loop_rounds 3 ?_;rw[rounds_succ];go_wp2;rw[rounds_succ];go_wp2;rw[rounds_succ];go_wp2;go_ret;exact⟨rfl,rfl⟩
  ·go_enter func299,ntmps299;go_upto_region 3 with fail
   refine wp_loop_rounds 3 ?_;rw[rounds_succ];go_wp2;rw[rounds_succ];have h1:(y==0)=false:=by simpa using e2
   have h2:(y != 0)=true:=by simpa using e2
   go_wp2;go_ret;exact⟨rfl,rfl⟩
 ·rw[zh e1];have h1:(x==0)=false:=by simpa using e1
  have h2:(x != 0)=true:=by simpa using e1
  go_enter func299,ntmps299;go_upto_region 3 with fail
  refine wp_loop_rounds 3 ?_;rw[rounds_succ];go_wp2;go_ret;exact⟨rfl,rfl⟩
theorem zlw{w:World}{B:Nat}{x y c:Int}(hc:(if x=0 then y else x)=c)(hx:w.cell? ⟨B,0,none⟩=some (.int .i64 x))(hy:w.cell? ⟨B,1,none⟩=some (.int .i64 y)) :
  Calls prog 299 #[.slice (some ⟨B,0,none⟩) 2 2] w fun e w'=>e=.returned (.int .i64 c)∧w=w':=by rw[← hc];exact zi8 hx hy
def cfT(x y:Td):Int:=if jr x.dl y.dl=0 then jr x.birth y.birth else jr x.dl y.dl
def Grw(w w':World):Prop := ∃ q os,w'=Go.Sort.grow (w.drewN q) os
theorem Grw.refl(w:World):Grw w w:=⟨0,#[],by simp[World.drewN]⟩
theorem Grw.alloc{w w':World}(h:Grw w w')(o:Obj):Grw w (w'.alloc o):=by
 obtain⟨q,os,rfl⟩:=h;exact⟨q,os++#[o],by rw[Go.Sort.alloc_eq_grow,Go.Sort.grow_grow]⟩
theorem Grw.drew{w w':World}(h:Grw w w'):Grw w w'.drew:=by
 obtain⟨q,os,rfl⟩:=h;exact⟨q+1,os,rfl⟩
theorem zej:(prog.info? 3).map (fun i=>(i.zero,i.size,i.bytes))=some (some (.int .i64 0),1,8):=by kernel_rfl
theorem zgt{W w':World}{b2 b3:Nat}{c2 c3:Array Value}{T:TypeId}(h2:W.heap[b2]? = some (.cells c2 T (0,0)))(h3:W.heap[b3]? = some (.cells c3 T (0,0)))(hm:zb W w'):w'.heap[b2]? = some (.cells c2 T (0,0))∧w'.heap[b3]? = some (.cells c3 T (0,0)):=⟨hm.heap (fun h=>h) h2,hm.heap (fun h=>h) h3⟩
theorem Grw.pure{w w':World}(h:Grw w w'):zb w w':=by
 obtain⟨q,os,rfl⟩:=h;refine⟨rfl,rfl,rfl,by simp[Go.Sort.grow,World.drewN],fun k hk _ => ?_⟩
 show(w.heap++os)[k]? = w.heap[k]?
 rw[KA hk]
theorem zfS(x y:Td)(w:World):Calls prog 298 #[tdV x,tdV y] w fun e w'=>e=.returned (.int .i64 (cfT x y))∧Grw w w':=by
  unfold tdV;have h2:=zi (w:=w) (o := .cells #[.int .u32 x.slot,.int .u64 x.dl,.int .u64 x.birth] 226 (0,0)) rfl;have g1:=(Grw.refl w).alloc (.cells #[.int .u32 x.slot,.int .u64 x.dl,.int .u64 x.birth] 226 (0,0));have h3:=zi (w:=w.alloc (.cells #[.int .u32 x.slot,.int .u64 x.dl,.int .u64 x.birth] 226 (0,0))) (o := .cells #[.int .u32 y.slot,.int .u64 y.dl,.int .u64 y.birth] 226 (0,0)) (n:=w.heap.size+1) (by simp);have h2:=((Mod.refl (fun _=>False) _).alloc (.cells #[.int .u32 y.slot,.int .u64 y.dl,.int .u64 y.birth] 226 (0,0))).heap (fun h=>h) h2;have g1:=g1.alloc (.cells #[.int .u32 y.slot,.int .u64 y.dl,.int .u64 y.birth] 226 (0,0));obtain⟨c,hc⟩:=zc (cfT x y);have HC:=za hc;rw[hc];clear hc;obtain⟨i0,hi,iz0,iz1,iz2⟩:=xn zej;go_enter func298,ntmps298;go_upto_region 1 with fail
  generalize(w.alloc (.cells #[.int .u32 x.slot,.int .u64 x.dl,.int .u64 x.birth] 226)).alloc (.cells #[.int .u32 y.slot,.int .u64 y.dl,.int .u64 y.birth] 226)=W at *;generalize w.heap.size=b2 at *;have G1:=za g1;have H2:=za h2;have H3:=za h3;clear g1;obtain⟨c1,hc1⟩:=zc (jr x.dl y.dl);obtain⟨c2,hc2⟩:=zc (jr x.birth y.birth);have k1:=zfz x.dl y.dl;have k2:=zk5 x.birth y.birth;rw[hc1]at k1;rw[hc2]at k2;have hcc:(if c1=0 then c2 else c1)=c:=by rw[← HC.out,← hc1,← hc2];rfl
  have HCC:=za hcc;have K1:=za k1;have K2:=za k2;clear hcc k1 k2 hc1 hc2;have hK : ∀ W',zb W W'→W'.cell? ⟨b2,1,none⟩=some (.int .u64 x.dl)∧W'.cell? ⟨b2+1,1,none⟩=some (.int .u64 y.dl)∧W'.cell? ⟨b2,2,none⟩=some (.int .u64 x.birth)∧W'.cell? ⟨b2+1,2,none⟩=some (.int .u64 y.birth):=fun W' hp=>by
    obtain⟨e2,e3⟩:=zgt H2.out H3.out hp;refine⟨?_,?_,?_,?_⟩<;>first | (rw[zf _ _ _ _ _ _ e2];rfl) | (rw[zf _ _ _ _ _ _ e3];rfl)
  have HK:=za hK;have hK0:=hK W (Mod.refl _ _);obtain⟨z1,z2,z3,z4⟩:=hK0;clear hK h2 h3
  go_region_held3 (fun w'=>w'.cell? ⟨b2,1,none⟩=some (.int .u64 x.dl)∧w'.cell? ⟨b2+1,1,none⟩=some (.int .u64 y.dl)∧w'.cell? ⟨b2,2,none⟩=some (.int .u64 x.birth)∧w'.cell? ⟨b2+1,2,none⟩=some (.int .u64 y.birth)) (first | go_keep | exact⟨z1,z2,z3,z4⟩)
    (first
      | (go_at_call 300;refine(K1.out _).mono ?_;rintro e w' ⟨rfl,rfl⟩)
      | (go_at_call 301;refine(K2.out _).mono ?_;rintro e w' ⟨rfl,rfl⟩)
      | (go_at_call 299;refine zm (zlw (x:=c1) (y:=c2) HCC.out ((zf _ _ 0 _ _ _ (zi rfl)).trans rfl) ((zf _ _ 1 _ _ _ (zi rfl)).trans rfl)) ?_;rintro e w' ⟨rfl,rfl⟩))
  go_wp2;go_ret;exact⟨rfl,by first | exact(G1.out.alloc _).drew | exact G1.out.alloc _⟩
end
section
def xW(L:List Td)(x:Td):List Td:=L.takeWhile (fun y=>kX y x)++x::L.dropWhile (fun y=>kX y x)
def qR(L:List Td)(s:Nat):Nat:=L.findIdx (fun y=>y.slot==s)
def Zd(L:List Td)(s:Nat):List Td:=L.eraseIdx (qR L s)
def Yx(L:List Td)(b:Nat):Bool:=L.any (fun y=>y.birth==b)
def xO(L:List Td)(s:Nat):Bool:=L.any (fun y=>y.slot==s)
section
variable{now tt:Nat}{M M':List Td}{P Q:Nat→Prop}{Lss Lss':List (List (List Nat))}{L:List Td}{s:Nat}{x:Td}
theorem qr:(xW L x).Perm (x::L):=by
 unfold xW;have h:L.takeWhile (fun y=>kX y x)++L.dropWhile (fun y=>kX y x)=L:=List.takeWhile_append_dropWhile;refine List.perm_middle.trans ?_;rw[h]
theorem Zw{y:Td}:y∈xW L x↔y=x∨y∈L:=by rw[qr.mem_iff,yu]
theorem zf1{a b c:Td}(h1:bef a b)(h2:bef b c):bef a c:=by unfold bef at *;omega
theorem zkT{a b:Td}(h:a.birth≠b.birth):bef a b∨bef b a:=by unfold bef;omega
theorem Xx(h:L.Pairwise bef)(hb : ∀ y∈L,y.birth≠x.birth):(xW L x).Pairwise bef:=by
 induction L with
 | nil=>simp[xW]
 | cons a L ih =>
  obtain⟨h1,h2⟩:=ko.1 h;have ih:=ih h2 (fun y hy=>hb y (yB _ hy));by_cases c:kX a x=true
  ·have e:xW (a::L) x=a::xW L x:=by unfold xW;simp[c]
   rw[e,ko];refine⟨fun y hy => ?_,ih⟩;rcases Zw.1 hy with rfl | hy
   ·exact ZZ.1 c
   ·exact h1 y hy
  ·have e:xW (a::L) x=x::a::L:=by unfold xW;simp[c]
   have hxa:bef x a:=by
    rcases zkT (hb a ym)with k | k
    ·exact absurd (ZZ.2 k) c
    ·exact k
   rw[e,ko];refine⟨fun y hy => ?_,h⟩;rcases yu.1 hy with rfl | hy
   ·exact hxa
   ·exact zf1 hxa (h1 y hy)
theorem uH:xO L s=true ↔ ∃ y∈L,y.slot=s:=by unfold xO;simp
theorem Kx:Yx L s=true ↔ ∃ y∈L,y.birth=s:=by unfold Yx;simp
theorem VM:qR L s<L.length↔xO L s=true:=by
 unfold qR;rw[List.findIdx_lt_length,uH];simp
theorem zas : ∀ {L:List Td} {i:Nat} {x:Td},L[i]? = some x→L.Perm (x::L.eraseIdx i)
 | [],_,_,h=>by cases h
 | a::L,0,x,h=>by injection h with h;subst h;exact List.Perm.refl _
 | a::L,i+1,x,h=>((zas (L:=L) (i:=i) h).cons a).trans (List.Perm.swap x a _)
theorem Ul(h:qR L s<L.length) : ∃ x,L[qR L s]? = some x∧x.slot=s∧L.find? (fun y=>y.slot==s)=some x∧L.Perm (x::Zd L s):=by
 have h1:(L[qR L s].slot==s)=true:=List.findIdx_getElem (p:=fun y:Td=>y.slot==s) (xs:=L) (w:=h);refine⟨_,zN h,beq_iff_eq.1 h1,?_,zas (zN h)⟩;rw[List.find?_eq_some_iff_getElem];refine⟨h1,qR L s,h,rfl,fun j hj => ?_⟩;have:=List.not_of_lt_findIdx (p:=fun y:Td=>y.slot==s) hj;simpa using this
theorem Vp(h:xO L s=false):L.find? (fun y=>y.slot==s)=none:=by
 rw[jb];intro y hy c;have:xO L s=true:=uH.2 ⟨y,hy,by simpa using c⟩;rw[h]at this
 cases this
theorem ZH(h:L.Pairwise bef):(Zd L s).Pairwise bef:=h.sublist (List.eraseIdx_sublist _ _)
theorem yc.born(h:yc now L P Lss){x y:Td}(hx:x∈L)(hy:y∈L)(e:x.slot=y.slot):x=y:=h.slots x hx y hy e
theorem yc.sched(h:yc now L (fun _=>False) Lss)(hn:now<x.dl)(hr:x.slot<4194304∧x.dl<18446744073709551615∧0<x.birth∧x.birth≤18446744073709551615)(h1 : ∀ y∈L,y.slot≠x.slot)(h2 : ∀ y∈L,y.birth≠x.birth){Ls:List (List Nat)}{B:List Nat}
  (hL:Lss[lvl now x.dl]? = some Ls) (hK:Ls[bkt now x.dl]? = some B):yc now (xW L x) (fun _=>False) (Lss.set (lvl now x.dl) (Ls.set (bkt now x.dl) (B++[x.slot]))) :=
 (h.put (M':=x::L) (Q:=fun _=>False) (.inl ⟨h1,h2,rfl⟩) hn hr (fun y hy e=>absurd e (h1 y hy)) hL hK (fun s=>⟨fun c=>c.elim,fun c=>c.1.elim⟩)).perm qr.symm
end
end
section
open Go.RowKit Go.Sort Go.Shelf
instance tdInh:Inhabited Td:=⟨⟨0,0,0⟩⟩
def tdC(x:Td):List Value:=[.int .u32 x.slot,.int .u64 x.dl,.int .u64 x.birth]
theorem Ue(x y:Td):ltOf cfT x y=kX x y:=by
 unfold ltOf cfT kX;rcases UB x.dl y.dl with⟨h,e⟩ | ⟨h,e⟩ | ⟨h,e⟩
 ·rw[e];simp[h]
 ·rw[e];have h1 : ¬ x.dl<y.dl:=by omega
  have h2 : ¬ x.dl=y.dl:=by omega
  simp[h1,h2]
 ·rw[e,zk rfl];rcases UB x.birth y.birth with⟨k,f⟩ | ⟨k,f⟩ | ⟨k,f⟩
  ·rw[f];simp[h,k]
  ·rw[f];have h1 : ¬ x.birth<y.birth:=by omega
   simp[h,h1]
  ·rw[f];have h1 : ¬ x.birth<y.birth:=by omega
   simp[h,h1]
theorem ze3:SWO (ltOf cfT) where
 irrefl x:=by rw[Ue];simp[kX]
 trans x y z h1 h2:=by
  rw[Ue]at *;rw[ZZ]at *;unfold bef at *;omega
 ntrans x y z h1 h2:=by
  rw[Ue]at *;have n1 : ¬ bef x y:=fun c=>by rw[ZZ.2 c]at h1;cases h1
  have n2 : ¬ bef y z:=fun c=>by rw[ZZ.2 c]at h2;cases h2
  cases h3:kX x z with
  | false=>rfl
  | true =>
   rw[ZZ]at h3;unfold bef at *;omega
theorem zcU(d:Array Td):(flatK tdC 3 d).toList=d.toList.flatMap tdC:=by
 have hl:(d.toList.flatMap tdC).length=d.size*3:=by rw[YW tdC 3 (fun _=>rfl)];simp
 refine uF (fun t => ?_);by_cases ht:t<d.size*3
 ·have h1:=get_flatK tdC 3 d t ht;have hi:t/3<d.size:=by omega
  have hf:=uX tdC 3 (fun _=>rfl) (t%3) (by omega) d.toList (t/3);rw[show t/3*3+t%3=t by omega]at hf;rw[hf];have h2:(flatK tdC 3 d).toList[t]? = some ((flatK tdC 3 d)[t]!):=by
   rw[YA,Zy (flatK tdC 3 d) t (by simpa using ht),qn]
  rw[h2,h1,YA,qn hi,Zy d (t/3) hi]
  show some _=(tdC d[t/3])[t%3]?
  have hm:t%3<3:=by omega
  rw[Zy (tdC d[t/3]) (t%3) (by simpa[tdC]using hm),zN]
 ·rw[xN (by simp;omega),xN (by rw[hl];omega)]
theorem zdV : ∀ w,(isAgg 226).run prog w=.ok true w:=fun w=>by kernel_rfl
theorem zlK : ∀ w,(Go.sizeOf 226).run prog w=.ok 3 w:=fun w=>by kernel_rfl
theorem zkV(blk off size:Nat)(w:World):CmpLays prog 298 #[] tdC 3 cfT blk off size w :=
 fun _ _ _ _ x y=>zfS x y _
abbrev qj(w:World)(a:Option Addr)(c:Nat)(d:List Td):Prop:=w.ownsRow 0 226 3 (.slice a d.length c) d.length (d.flatMap tdC)
theorem zlL{w:World}{g m:Nat}{cur:Array Value}{T:TypeId}{F:Array Value}{os:Array Obj}(hg:w.heap[g]? = some (.cells cur T (0,0))) :
  (grow (putRow id (Go.Sort.ahead w m) g 0 F) os).heap[g]? = some (.cells (putCells id 0 F cur) T (0,0)):=by
 have hlt:=zl hg
 show((w.heap.modify g (onCells (putCells id 0 F)))++os)[g]? = _
 rw[KA (by simpa using hlt),Array.getElem?_modify,zk rfl,hg]
 rfl
theorem zeC{w:World}{g m:Nat}{F:Array Value}{os:Array Obj}:Mod (fun k=>k=g) w (grow (putRow id (Go.Sort.ahead w m) g 0 F) os):=by
 refine⟨rfl,rfl,rfl,?_,fun k hk hn => ?_⟩
 ·show w.heap.size≤((w.heap.modify g (onCells (putCells id 0 F)))++os).size
  simp
 ·show((w.heap.modify g (onCells (putCells id 0 F)))++os)[k]? = _
  rw[KA (by simpa using hk),Array.getElem?_modify,zh (fun e=>hn e.symm)]
theorem zjq{F cur:Array Value}{n:Nat}(hF:F.size=n)(hc:n≤cur.size):(putCells id 0 F cur).toList.take n=F.toList:=by
 refine uF (fun t => ?_);rw[jT];by_cases ht:t<n
 ·rw[zk ht,YA,YA];unfold putCells;rw[Array.getElem?_mapIdx,qn (show t<cur.size by omega)]
  show some (if 0≤t∧t<0+F.size then id F[t-0]! else cur[t])=_
  rw[zk ⟨yh _,by omega⟩,qn (show t<F.size by omega),Nat.sub_zero,Zy F t (by omega)]
  rfl
 ·rw[zh ht,xN (by simp;omega)]
theorem zha{w:World}{a:Option Addr}{c:Nat}{d:List Td}(hr:qj w a c d)(hl:d.length<4611686018427387904)(hu : ∀ x∈d,∀ y∈d,x.birth=y.birth→x=y)(hnd:d.Nodup) :
  Calls prog 297 #[.slice a d.length c,.func (.func 298) #[] #[]] w fun e w'=>e=.returned (.tuple #[]) ∧ ∃ d':List Td,d'.Pairwise bef∧d'.Perm d∧d'.length=d.length∧qj w' a c d'∧Mod (fun k=>(Value.slice a d.length c).ownBlock=some k) w w':=by
 rcases Nat.eq_zero_or_pos d.length with h0 | h0
 ·have hd:d=[]:=List.length_eq_zero_iff.1 h0;subst hd;refine(AnyF.slices_SortFunc_none Qy a c (.func (.func 298) #[] #[]) w).mono ?_;rintro e w' ⟨rfl,rfl⟩;exact⟨rfl,[],List.Pairwise.nil,List.Perm.refl _,rfl,hr,Mod.refl _ _⟩
 ·obtain⟨g,c',hv,hnc,hlt,hcell,hfz,cur,hg,hcs,ht,hm⟩:=kt hr h0;injection hv with ha hn hc
  subst ha hc;have eg : ∀ args w,(callFunc 298 args).run prog w=.ok (.enter 298 args) w:=enters_of func298 (by kernel_rfl) rfl;have hH:HoldsK tdC 3 w g 0 d.toArray:=fun j hj=>by
   rw[size_flatK]at hj;rw[ZV];refine⟨hcell j _ ?_,hfz j⟩;rw[← show(flatK tdC 3 d.toArray).toList=d.flatMap tdC from zcU d.toArray,YA,Zy (flatK tdC 3 d.toArray) j (by rw[size_flatK];exact hj),qn]
   rfl
  have hs:=AnyQ.slices_SortFunc Qy 3 zdV zlK tdC (fun _=>rfl) (fun x v hv=>by simp[tdC]at hv;rcases hv with rfl | rfl | rfl<;>rfl) cfT ze3 298 #[] g 0 c d.toArray w eg (zkV g 0 _ w) hH hlt (by simpa using hl);refine zm hs ?_;rintro e w' ⟨rfl,d',m,os,⟨p1,p2,p3⟩,hso,rfl⟩;have hsz:d'.size=d.length:=by simpa using p1
  have e1:d'.extract 0 d.toArray.size=d':=by rw[← p1];exact Array.extract_size
  rw[e1,Array.extract_size]at p3;have hp:d'.toList.Perm d:=p3;have hF:(flatK tdC 3 d').size=d.length*3:=by rw[size_flatK,hsz]
  refine⟨rfl,d'.toList,?_,hp,by simpa using hsz,?_,?_⟩
  ·rw[V8];intro i j hi hj hij;have hi':i<d'.size:=by simpa using hi
   have hj':j<d'.size:=by simpa using hj
   have h1:=hso i j (yh _) hij (by simpa[hsz]using hj');rw[Zy d' i hi',Zy d' j hj',Ue]at h1;have hne:d'[i].birth≠d'[j].birth:=fun e=>by
    have m1:d'[i]∈d:=hp.mem_iff.1 (by simp);have m2:d'[j]∈d:=hp.mem_iff.1 (by simp);have heq:=hu _ m1 _ m2 e;have hnd':=hp.nodup_iff.2 hnd;exact(V8.1 hnd') i j hi hj hij (by simpa using heq)
   rcases(show bef d'[i] d'[j]∨bef d'[j] d'[i] by unfold bef;omega)with k | k
   ·simpa using k
   ·rw[ZZ.2 k]at h1;cases h1
  ·have hlen:d'.toList.length=d.length:=by simpa using hsz
   show World.ownsRow _ 0 _ 3 (.slice (some ⟨g,0,none⟩) d'.toList.length c) d'.toList.length (d'.toList.flatMap tdC)
   rw[hlen];refine⟨by rw[YW tdC 3 (fun _=>rfl),hlen],.inr ⟨g,c,putCells id 0 (flatK tdC 3 d') cur,rfl,yh _,zlL hg,hnc,hm,?_,?_⟩⟩
   ·rw[← hcs];simp[putCells]
   ·rw[zjq hF (by rw[hcs];exact Xk 3 hnc),zcU]
  ·exact Mod.mono (zeC (g:=g) (F:=flatK tdC 3 d') (m:=m) (os:=os)) (fun k _ e=>by rw[e];rfl)
end
section
open Go.RowKit
structure CE where
 key:ByteArray
 val:List UInt8
 dl:Nat
 birth:Nat
abbrev CE.ent(x:CE):Ent:=⟨x.key,x.val,x.dl,x.birth⟩
structure CE.Ok(x:CE):Prop where
 k0:0<x.key.size
 k1:x.key.size≤250
 v1:x.val.length≤65536
 d1:x.dl≤18446744073709551615
 b0:0<x.birth
 b1:x.birth≤18446744073709551615
theorem CE.Ok.ent{x:CE}(h:x.Ok):x.ent.Ok:=⟨h.k0,h.k1,h.v1,by have:=h.b0;show(0:Int)<(x.birth:Int);omega⟩
structure Ev where
 kind:Nat
 e:CE
 tm:Nat
structure Ev.Ok(x:Ev):Prop where
 kd:1≤x.kind∧x.kind≤5
 e:x.e.Ok
 tm:x.tm≤18446744073709551615
 du:kE x.e.dl x.tm=(x.kind==1)
theorem zl2(k:Int)(key:ByteArray)(a:Option Addr)(n c b d t:Nat)(xs:List Value)(w:World)(hx:zn w (.slice a n c) 1 xs)(hn:n≤140737488355328) :
  Calls prog 196 #[evV k key (.slice a n c) b d t] w fun e w' => ∃ a' n' c',e=.returned (evV k key (.slice a' n' c') b d t)∧w'.ownsRow 0 5 1 (.slice a' n' c') n' xs∧xi w (.slice a' n' c')∧zb w w':=by
 have hp0:zb w ((w.alloc (.cells #[.int .i64 k,.string key,.slice a n c,.int .u64 b,.int .u64 d,.int .u64 t] 148)).alloc (.cells #[.int .i64 0,.string ⟨#[]⟩,.slice none 0 0,.int .u64 0,.int .u64 0,.int .u64 0] 148)):=((Mod.refl _ w).alloc _).alloc _;have z1:=zz (o := .cells #[.int .i64 0,.string ⟨#[]⟩,.slice none 0 0,.int .u64 0,.int .u64 0,.int .u64 0] 148) (zi (w:=w) (o := .cells #[.int .i64 k,.string key,.slice a n c,.int .u64 b,.int .u64 d,.int .u64 t] 148 (0,0)) rfl);have z2:=zi (w:=w.alloc (.cells #[.int .i64 k,.string key,.slice a n c,.int .u64 b,.int .u64 d,.int .u64 t] 148)) (o := .cells #[.int .i64 0,.string ⟨#[]⟩,.slice none 0 0,.int .u64 0,.int .u64 0,.int .u64 0] 148 (0,0)) (n:=w.heap.size+1) (by simp);have HP:=za hp0;have HC:=za (UH a n c xs _ (hx.frame hp0 (fun _ _ h=>h)) hn);clear hp0 hx;go_enter func196,ntmps196;go_upto_region 1 with fail
 generalize(w.alloc (.cells #[.int .i64 k,.string key,.slice a n c,.int .u64 b,.int .u64 d,.int .u64 t] 148)).alloc (.cells #[.int .i64 0,.string ⟨#[]⟩,.slice none 0 0,.int .u64 0,.int .u64 0,.int .u64 0] 148)=W1 at *;obtain⟨b1,hb1⟩:=zc w.heap.size;rw[hb1]at z1 z2 ⊢;have HB:=za hb1;clear hb1;have Z1:=za z1;have Z2:=za z2;obtain⟨z1_0,z1_1,z1_2,z1_3,z1_4,z1_5,z1_f,z1_l,H_z1⟩:=cr6 z1;clear z1;obtain⟨z2_0,z2_1,z2_2,z2_3,z2_4,z2_5,z2_f,z2_l,H_z2⟩:=cr6 z2;clear z2
 go_wp2_with (go_at_call 144;refine HC.out.mono ?_;rintro e w1 ⟨a',n',c',rfl,hr,hf,hp⟩;obtain⟨h1c,h1f⟩:=hp.box (b:=b1) Z1.out (fun h=>h);obtain⟨h2c,h2f⟩:=hp.box (b:=b1+1) Z2.out (fun h=>h))
 have hm:=(((((((Mod.refl (fun k=>k=b1∨k=b1+1) w1).setCell (p:=⟨b1,2,none⟩) (fun _ => .inl rfl) (.slice a' n' c')).setCell (p:=⟨b1+1,0,none⟩) (fun _ => .inr rfl) (.int .i64 k)).setCell (p:=⟨b1+1,1,none⟩) (fun _ => .inr rfl) (.string key)).setCell (p:=⟨b1+1,2,none⟩) (fun _ => .inr rfl) (.slice a' n' c')).setCell (p:=⟨b1+1,3,none⟩) (fun _ => .inr rfl) (.int .u64 b)).setCell (p:=⟨b1+1,4,none⟩) (fun _ => .inr rfl) (.int .u64 d)).setCell (p:=⟨b1+1,5,none⟩) (fun _ => .inr rfl) (.int .u64 t);have hW1:b1+1<W1.heap.size:=zl Z2.out;refine zK (v:=evV k key (.slice a' n' c') b d t) (by simp[results,results196,go_sem,h1c,h2c]) rfl ⟨a',n',c',rfl,zy hr hm ?_,?_,?_⟩
 ·intro g e h;have:=hf g e;omega
 ·intro g e;have:=hf g e;have:=HB.out;omega
 ·exact(HP.out.trans hp).then hm (fun i hi h=>by have:=HB.out;omega)
def xt:Option Nat→Value
 | none => .pointer none
 | some b => .pointer (some ⟨b,0,none⟩)
abbrev EvN:=Nat × Ev × Value
def nxt(ns:List EvN)(i:Nat):Option Nat:=(ns[i]?).map (fun n=>n.1)
structure xa(Fo:Nat→Prop)(w:World)(p:Nat)(k0 k1 k2 k3 k4 k5:Int)(th:Nat)(ns:List EvN):Prop where
 box:w.heap[p]? = some (.cells #[xt (nxt ns 0),xt (nxt ns (ns.length-1)),.int .u64 k0,.int .u64 k1,.int .u64 k2,.int .u64 k3,.int .u64 k4,.int .u64 k5,.int .i64 th,.bool true] 245 (0,0))
 node : ∀(i:Nat) (n:EvN),ns[i]? = some n→w.heap[n.1]? = some (.cells #[.int .i64 n.2.1.kind,.string n.2.1.e.key,n.2.2,.int .u64 n.2.1.e.birth,.int .u64 n.2.1.e.dl,.int .u64 n.2.1.tm,xt (nxt ns (i+1))] 247 (0,0))
 vals : ∀ n:EvN,n∈ns→yv w n.2.2 (zJ n.2.1.e.val)
 off : ∀ n:EvN,n∈ns → ∀ g,n.2.2.ownBlock=some g → ¬ Fo g
 nd:(ns.map (fun n=>n.1)).Nodup
 ok : ∀ n:EvN,n∈ns→n.2.1.Ok
 flt : ∀ k,Fo k→k<w.heap.size
def evD(p:Nat)(ns:List EvN)(k:Nat):Prop:=k=p ∨ ∃ n∈ns,n.1=k
section
variable{Fo:Nat→Prop}{w w':World}{p:Nat}{k0 k1 k2 k3 k4 k5:Int}{th:Nat}{ns:List EvN}
theorem xa.lt(h:xa Fo w p k0 k1 k2 k3 k4 k5 th ns){k:Nat}(hk:evD p ns k):k<w.heap.size:=by
 rcases hk with rfl | ⟨n,hn,rfl⟩
 ·exact zl h.box
 ·obtain⟨i,hi⟩:=ug hn;exact zl (h.node i n hi)
theorem xa.np(h:xa Fo w p k0 k1 k2 k3 k4 k5 th ns){n:EvN}(hn:n∈ns):n.1≠p:=fun e=>by
 obtain⟨i,hi⟩:=ug hn;have h1:=h.node i n hi;rw[e,h.box]at h1;injection h1 with h1;injection h1 with _ h1
 exact absurd h1 (by decide)
theorem xa.frameF{S:Nat→Prop}(h:xa Fo w p k0 k1 k2 k3 k4 k5 th ns)(hm:Mod S w w')(hD : ∀ k,evD p ns k → ¬ S k)(hS : ∀ k,k<w.heap.size→S k→Fo k ∨ ∀ cs fz,w.heap[k]? ≠ some (.cells cs 5 fz)):xa Fo w' p k0 k1 k2 k3 k4 k5 th ns :=
 ⟨hm.heap (hD p (.inl rfl)) h.box,fun i n hi=>hm.heap (hD _ (.inr ⟨n,yd hi,rfl⟩)) (h.node i n hi),fun n hn=>zaS (h.vals n hn) (fun g hg=>h.off n hn g hg) hm hS,h.off,h.nd,h.ok,fun k hk=>hm.lt (h.flt k hk)⟩
theorem xa.pure(h:xa Fo w p k0 k1 k2 k3 k4 k5 th ns)(hm:zb w w'):xa Fo w' p k0 k1 k2 k3 k4 k5 th ns:=h.frameF hm (fun _ _ h=>h) (fun _ _ h=>h.elim)
theorem xa.refo{Fo':Nat→Prop}(h:xa Fo w p k0 k1 k2 k3 k4 k5 th ns)(hm:zb w w')(h1 : ∀ k,Fo' k→Fo k∨w.heap.size≤k)(h2 : ∀ k,Fo' k→k<w'.heap.size):xa Fo' w' p k0 k1 k2 k3 k4 k5 th ns :=
 ⟨hm.heap (fun h=>h) h.box,fun i n hi=>hm.heap (fun h=>h) (h.node i n hi),fun n hn=>zy (h.vals n hn) hm (fun _ _ h=>h),fun n hn g hg hf=>(by
  rcases h1 g hf with hx | hx
  ·exact h.off n hn g hg hx
  ·have:=vh (h.vals n hn) hg;omega),h.nd,h.ok,h2⟩
theorem zfU(w:World)(hFo : ∀ k,Fo k→k<w.heap.size):Calls prog 141 #[] w fun e w'=>e=.returned (.pointer (some ⟨w.heap.size,0,none⟩))∧xa Fo w' w.heap.size 0 0 0 0 0 0 0 []∧zb w w':=by
 have hp:zb w (w.alloc (.cells #[.pointer none,.pointer none,.int .u64 0,.int .u64 0,.int .u64 0,.int .u64 0,.int .u64 0,.int .u64 0,.int .i64 0,.bool true] 245)):=(Mod.refl _ w).alloc _;go_enter func141,ntmps141;go_wp2;go_ret;exact⟨rfl,⟨zi rfl,(fun i n hi=>by cases hi),(fun n hn=>by cases hn),(fun n hn=>by cases hn),jv,(fun n hn=>by cases hn),fun k hk=>hp.lt (hFo k hk)⟩,hp⟩
theorem Jg(h:xa Fo w p k0 k1 k2 k3 k4 k5 th ns):Calls prog 177 #[lkP p] w fun e w'=>e=.returned (.bool false)∧w=w':=by
 have hb:=h.box;clear h;generalize xt (nxt ns 0)=v0 at *;generalize xt (nxt ns (ns.length-1))=v1 at *;obtain⟨hb_0,hb_1,hb_2,hb_3,hb_4,hb_5,hb_6,hb_7,hb_8,hb_9,hb_f,hb_l,H_hb⟩:=je hb;clear hb;go_enter func177,ntmps177;go_wp2;go_ret;exact⟨rfl,rfl⟩
theorem zdJ(h:xa Fo w p k0 k1 k2 k3 k4 k5 th ns):Calls prog 92 #[lkP p] w fun e w'=>e=.returned (.int .i64 th)∧w=w':=by
 have HN:=za (Jg h);have hb:=h.box;clear h;generalize xt (nxt ns 0)=v0 at *;generalize xt (nxt ns (ns.length-1))=v1 at *;obtain⟨hb_0,hb_1,hb_2,hb_3,hb_4,hb_5,hb_6,hb_7,hb_8,hb_9,hb_f,hb_l,H_hb⟩:=je hb;clear hb;go_enter func92,ntmps92
 go_wp2_with (go_at_call 177;refine HN.out.mono ?_;rintro e w' ⟨rfl,rfl⟩)
 go_ret;exact⟨rfl,rfl⟩
end
theorem Q3{ns:List EvN}{x:EvN}{i:Nat}(h:i<ns.length):nxt (ns++[x]) i=nxt ns i:=by unfold nxt;rw[ur h]
theorem zap(ns:List EvN)(x:EvN):nxt (ns++[x]) ns.length=some x.1:=by unfold nxt;simp
theorem JG{ns:List EvN}{i:Nat}(h:ns.length≤i):nxt ns i=none:=by unfold nxt;rw[xN h];rfl
section
variable{Fo:Nat→Prop}{w w':World}{p:Nat}{k0 k1 k2 k3 k4 k5:Int}{th:Nat}{ns:List EvN}
def zaB(Fo:Nat→Prop)(w:World)(p:Nat)(k0 k1 k2 k3 k4 k5:Int)(th:Nat)(ns:List EvN)(x:Ev)(v:Value)(e:Ending)(w':World):Prop :=
 e=.returned (.tuple #[]) ∧ ∃ b,w.heap.size≤b∧xa Fo w' p k0 k1 k2 k3 k4 k5 th (ns++[(b,x,v)])∧Mod (evD p ns) w w'
theorem zdS(h:xa Fo w p k0 k1 k2 k3 k4 k5 th ns){x:Ev}(hx:x.Ok){a:Option Addr}{n c:Nat}(hv:yv w (.slice a n c) (zJ x.e.val))(ho : ∀ g,(Value.slice a n c).ownBlock=some g → ¬ Fo g)(hnD : ∀ g,(Value.slice a n c).ownBlock=some g → ¬ evD p ns g) :
  Calls prog 218 #[lkP p,evV x.kind x.e.key (.slice a n c) x.e.birth x.e.dl x.tm] w (zaB Fo w p k0 k1 k2 k3 k4 k5 th ns x (.slice a n c)):=by
 have HH:=za h;have HV:=za hv;have HO:=za ho;have HX:=za hx;have HND:=za hnD;have hb:=h.box;have hpl:p<w.heap.size:=zl hb;obtain⟨kd,⟨key,val,dl,birth⟩,tm⟩:=x;dsimp only at HV hv ⊢;have e1:zb w (w.alloc (.cells #[.int .i64 kd,.string key,.slice a n c,.int .u64 birth,.int .u64 dl,.int .u64 tm] 148)):=(Mod.refl _ w).alloc _;have z1:=zi (w:=w) (o := .cells #[.int .i64 kd,.string key,.slice a n c,.int .u64 birth,.int .u64 dl,.int .u64 tm] 148 (0,0)) rfl;have HE1:=za e1;have hb1:=e1.heap (fun h=>h) hb;have fin : ∀(X:World) (ol:Option Nat),True:=fun _ _=>trivial
 clear fin h hx hv ho hnD;unfold zaB;by_cases hne:ns=[]
 ·subst hne;go_enter func218,ntmps218;go_upto_region 1 with fail
  generalize w.alloc (.cells #[.int .i64 kd,.string key,.slice a n c,.int .u64 birth,.int .u64 dl,.int .u64 tm] 148)=W1 at *;have hs1:w.heap.size<W1.heap.size:=zl z1;obtain⟨b3,hb3⟩:=zc w.heap.size;rw[hb3]at z1 hs1 hpl ⊢;have HB3:=za hb3;clear hb3;obtain⟨z1_0,z1_1,z1_2,z1_3,z1_4,z1_5,z1_f,z1_l,H_z1⟩:=cr6 z1;clear z1;go_upto_region 2 with fail
  have e2:zb W1 (W1.alloc (.cells #[.int .i64 kd,.string key,.slice a n c,.int .u64 birth,.int .u64 dl,.int .u64 tm,.pointer none] 247)):=(Mod.refl _ W1).alloc _;have z2:=zi (w:=W1) (o := .cells #[.int .i64 kd,.string key,.slice a n c,.int .u64 birth,.int .u64 dl,.int .u64 tm,.pointer none] 247 (0,0)) rfl;have hb2:=e2.heap (fun h=>h) hb1;have HE2:=za (HE1.out.trans e2);clear z1_0 z1_1 z1_2 z1_3 z1_4 z1_5 z1_f z1_l;clear H_z1 e2 e1 hb hb1;generalize W1.alloc (.cells #[.int .i64 kd,.string key,.slice a n c,.int .u64 birth,.int .u64 dl,.int .u64 tm,.pointer none] 247)=W2 at *;obtain⟨bn,hbn⟩:=zc W1.heap.size;rw[hbn]at z2 hs1 ⊢;clear hbn;have HZ2:=za z2;have HB2:=za hb2;simp only[nxt,xt,List.getElem?_nil,Option.map_none,List.length_nil]at hb2;obtain⟨hb2_0,hb2_1,hb2_2,hb2_3,hb2_4,hb2_5,hb2_6,hb2_7,hb2_8,hb2_9,hb2_f,hb2_l,H_hb2⟩:=je hb2;clear hb2;go_wp2
  go_end0
  have h1:=zP W2 p 0 _ _ (.pointer (some ⟨bn,0,none⟩)) HB2.out;have h2:=zP _ p 1 _ _ (.pointer (some ⟨bn,0,none⟩)) h1;have hm:Mod (fun k=>k=p) W2 ((W2.setCell ⟨p,0,none⟩ (.pointer (some ⟨bn,0,none⟩))).setCell ⟨p,1,none⟩ (.pointer (some ⟨bn,0,none⟩))):=Mod.set2 p 0 1 _ _;have hz:=hm.heap (fun e=>by omega) HZ2.out;have hmw:Mod (fun k=>k=p) w _:=Mod.trans' HE2.out hm (fun _ _ h=>h.elim) (fun _ _ h=>h);have hpv:Mod (fun k=>k=p) w _:=hmw;refine⟨rfl,bn,by have:=HB3.out;omega,⟨?_,fun i m hi => ?_,fun m hm' => ?_,fun m hm' g hg => ?_,by simp,fun m hm' => ?_,fun k hk=>hmw.lt (HH.out.flt k hk)⟩,hmw.mono (fun k _ e => .inl e)⟩
  ·rw[h2]
   rfl
  ·cases i with
   | zero=>cases hi;exact hz
   | succ i=>cases hi
  ·rw[xh.1 hm'];exact zy HV.out hmw (fun g hg e=>HND.out g hg (.inl e))
  ·rw[xh.1 hm']at hg;exact HO.out g hg
  ·rw[xh.1 hm'];exact HX.out
 ·obtain⟨m,hm0⟩ : ∃ m,ns.length=m+1:=⟨ns.length-1,by have:=List.length_pos_iff.2 hne;omega⟩;obtain⟨nl,hnl⟩ : ∃ nl,ns[m]? = some nl:=⟨_,zN (by omega)⟩;have hzl:=HH.out.node m nl hnl;have hlast:nxt ns (ns.length-1)=some nl.1:=by unfold nxt;rw[hm0];simp[hnl]
  have hnl1:nxt ns (m+1)=none:=JG (by omega);rw[hnl1]at hzl;have hnlm:=yd hnl;have hnp:nl.1≠p:=HH.out.np hnlm;have hbl:nl.1<w.heap.size:=zl hzl;have HNL:=za hnl;have HM0:=za hm0;have HZL:=za hzl;have HNLM:=za hnlm;have hzl1:=e1.heap (fun h=>h) hzl;have hf0 : ∃ v0,xt (nxt ns 0)=v0:=⟨_,rfl⟩;obtain⟨v0,hv0⟩:=hf0;rw[hlast,hv0]at hb1;have HV0:=za hv0;have HLA:=za hlast;clear hnl hm0 hzl hnlm hv0 hlast hnl1 hb hne;go_enter func218,ntmps218;go_upto_region 1 with fail
  generalize w.alloc (.cells #[.int .i64 kd,.string key,.slice a n c,.int .u64 birth,.int .u64 dl,.int .u64 tm] 148)=W1 at *;have hs1:w.heap.size<W1.heap.size:=zl z1;obtain⟨b3,hb3⟩:=zc w.heap.size;rw[hb3]at z1 hs1 hpl hbl ⊢;have HB3:=za hb3;clear hb3;obtain⟨z1_0,z1_1,z1_2,z1_3,z1_4,z1_5,z1_f,z1_l,H_z1⟩:=cr6 z1;clear z1;go_upto_region 2 with fail
  have e2:zb W1 (W1.alloc (.cells #[.int .i64 kd,.string key,.slice a n c,.int .u64 birth,.int .u64 dl,.int .u64 tm,.pointer none] 247)):=(Mod.refl _ W1).alloc _;have z2:=zi (w:=W1) (o := .cells #[.int .i64 kd,.string key,.slice a n c,.int .u64 birth,.int .u64 dl,.int .u64 tm,.pointer none] 247 (0,0)) rfl;have hb2:=e2.heap (fun h=>h) hb1;have hz2:=e2.heap (fun h=>h) hzl1;have HE2:=za (HE1.out.trans e2);clear z1_0 z1_1 z1_2 z1_3 z1_4 z1_5 z1_f z1_l;clear H_z1 e2 e1 hb1 hzl1;generalize W1.alloc (.cells #[.int .i64 kd,.string key,.slice a n c,.int .u64 birth,.int .u64 dl,.int .u64 tm,.pointer none] 247)=W2 at *;obtain⟨bn,hbn⟩:=zc W1.heap.size;rw[hbn]at z2 hs1 ⊢;clear hbn;have HZ2:=za z2;have HB2:=za hb2;have HN2:=za hz2;obtain⟨bl,nx,nv⟩:=nl;obtain⟨lk,⟨lkey,lval,ldl,lbirth⟩,ltm⟩:=nx;dsimp only[xt]at hb2 hz2 hnp hbl HN2 HB2;obtain⟨hb2_0,hb2_1,hb2_2,hb2_3,hb2_4,hb2_5,hb2_6,hb2_7,hb2_8,hb2_9,hb2_f,hb2_l,H_hb2⟩:=je hb2;clear hb2;obtain⟨hz2_0,hz2_1,hz2_2,hz2_3,hz2_4,hz2_5,hz2_6,hz2_f,hz2_l,H_hz2⟩:=cr7 hz2;clear hz2;go_wp2
  go_end0
  have h1:=zP W2 bl 6 _ _ (.pointer (some ⟨bn,0,none⟩)) HN2.out;have h2:=zP (W2.setCell ⟨bl,6,none⟩ (.pointer (some ⟨bn,0,none⟩))) p 1 _ _ (.pointer (some ⟨bn,0,none⟩)) (yT (a:=⟨bl,6,none⟩) HB2.out (fun e=>hnp e.symm));have h1':=yT (a:=⟨p,1,none⟩) (v := .pointer (some ⟨bn,0,none⟩)) h1 hnp;have hm:Mod (fun k=>k=bl∨k=p) W2 ((W2.setCell ⟨bl,6,none⟩ (.pointer (some ⟨bn,0,none⟩))).setCell ⟨p,1,none⟩ (.pointer (some ⟨bn,0,none⟩))) :=
   ((Mod.refl (fun k=>k=bl∨k=p) W2).setCell (p:=⟨bl,6,none⟩) (fun _ => .inl rfl) _).setCell (p:=⟨p,1,none⟩) (fun _ => .inr rfl) _
  have hz:=hm.heap (fun e=>by rcases e with e | e<;>omega) HZ2.out;have hmw:Mod (fun k=>k=bl∨k=p) w ((W2.setCell ⟨bl,6,none⟩ (.pointer (some ⟨bn,0,none⟩))).setCell ⟨p,1,none⟩ (.pointer (some ⟨bn,0,none⟩))):=Mod.trans' HE2.out hm (fun _ _ h=>h.elim) (fun _ _ h=>h);have hsub : ∀ k,(k=bl∨k=p)→evD p ns k:=fun k hk=>by
   rcases hk with e | e
   ·exact .inr ⟨_,HNLM.out,e.symm⟩
   ·exact .inl e
  have hlen:=HM0.out;have hne2 : ∀ m'∈ns,m'.1<b3:=fun m' hm'=>by have:=HH.out.lt (.inr ⟨m',hm',rfl⟩);have:=HB3.out;omega
  have hinj : ∀(i:Nat) (m':EvN),ns[i]? = some m'→i<m→m'.1≠bl:=fun i m' hi him e=>by
   have h3:(ns.map (fun n=>n.1))[i]? = some bl:=by rw[yw,hi];exact congrArg some e
   have h4:(ns.map (fun n=>n.1))[m]? = some bl:=by rw[yw,HNL.out];rfl
   have:=(List.getElem?_inj (by rw[yt];omega) HH.out.nd).1 (h3.trans h4.symm);omega
  refine⟨rfl,bn,by have:=HB3.out;omega,⟨?_,fun i m' hi => ?_,fun m' hm' => ?_,fun m' hm' g hg => ?_,?_,fun m' hm' => ?_,fun k hk=>hmw.lt (HH.out.flt k hk)⟩,hmw.mono (fun k _ e=>hsub k e)⟩
  ·rw[h2,Q3 (by omega),HV0.out,zR,show ns.length + [(bn,(⟨kd,⟨key,val,dl,birth⟩,tm⟩:Ev),Value.slice a n c)].length-1=ns.length from rfl,zap]
   rfl
  ·by_cases hi2:i<ns.length
   ·rw[ur hi2]at hi;by_cases him:i=m
    ·subst him;have hi3:=hi.symm.trans HNL.out;injection hi3 with hi3
     subst hi3;dsimp only;rw[h1',show i+1=ns.length by omega,zap]
     rfl
    ·rw[Q3 (by omega)];have hnn:=hinj i m' hi (by omega);have hnp2:=HH.out.np (yd hi);exact hmw.heap (fun e=>by rcases e with e | e;exact hnn e;exact hnp2 e) (HH.out.node i m' hi)
   ·rw[ji (by omega)]at hi;have hi0:i=ns.length:=by
     cases hq:i-ns.length with
     | zero=>omega
     | succ q=>rw[hq]at hi;cases hi
    subst hi0;rw[ZD]at hi
    cases hi
    rw[JG (by simp)];exact hz
  ·rcases yF.1 hm' with hm' | hm'
   ·exact zy (HH.out.vals m' hm') hmw (fun g hg e=>by
     obtain⟨cur,e2⟩:=yg (HH.out.vals m' hm') hg;rcases e with e | e
     ·subst e;rw[HZL.out]at e2;injection e2 with e2;injection e2 with _ e2;exact absurd e2 (by decide)
     ·subst e;rw[HH.out.box]at e2;injection e2 with e2;injection e2 with _ e2;exact absurd e2 (by decide))
   ·rw[xh.1 hm'];exact zy HV.out hmw (fun g hg e=>HND.out g hg (hsub g e))
  ·rcases yF.1 hm' with hm' | hm'
   ·exact HH.out.off m' hm' g hg
   ·rw[xh.1 hm']at hg;exact HO.out g hg
  ·rw[xK,xD];refine⟨HH.out.nd,by simp,fun x hx y hy e => ?_⟩;obtain⟨m',hm',rfl⟩:=zI.1 hx;have:=hne2 m' hm';simp at hy;omega
  ·rcases yF.1 hm' with hm' | hm'
   ·exact HH.out.ok m' hm'
   ·rw[xh.1 hm'];exact HX.out
end
abbrev zbe(w:World)(a:Option Addr)(c:Nat)(L:List Td):Prop:=zn w (.slice a L.length c) 3 (L.flatMap tdC)
theorem zff(L:List Td) : ∀ u∈L.flatMap tdC,u.oneCell'=true:=fun u hu=>by
 obtain⟨x,_,hx⟩:=ZG.1 hu;simp[tdC]at hx;rcases hx with rfl | rfl | rfl<;>rfl
theorem qj.rd{w:World}{a:Option Addr}{c:Nat}{L:List Td}(h:qj w a c L):zbe w a c L:=zn.of_owns h (zff L)
theorem zcf{W:World}{ad:Addr}{k j:Nat}{u:Value}(h:W.cell? (ad.add (k+(j+1)))=some u):W.cell? ⟨(ad.add k).block,(ad.add k).off+(j+1),none⟩=some u:=by
 rw[← Go.Deep.add_add]at h;unfold Addr.add at h ⊢;rw[zh (by omega)]at h;exact h
theorem QU{w:World}{a:Option Addr}{n c:Nat}{L:List Td}(h:zn w (.slice a n c) 3 (L.flatMap tdC)){j:Nat}{x:Td}(hx:L[j]? = some x) :
  ∃ ad,a=some ad∧w.cell? (ad.add (j*3))=some (.int .u32 x.slot)∧w.cell? ⟨(ad.add (j*3)).block,(ad.add (j*3)).off+1,none⟩=some (.int .u64 x.dl)∧w.cell? ⟨(ad.add (j*3)).block,(ad.add (j*3)).off+2,none⟩=some (.int .u64 x.birth):=by
 obtain⟨a',n',c',e,hl,_,h0,hc⟩:=h;injection e with e1 e2 e3
 subst e1 e2 e3;have hj:=(zF.1 hx).1
 cases a with
 | none =>
  have:=h0 rfl;subst this;rw[YW tdC 3 (fun _=>rfl)]at hl;omega
 | some ad =>
  have g:=fun i (hi:i<3)=>uX tdC 3 (fun _=>rfl) i hi L j
  have c0:=hc ad rfl (j*3+0) (.int .u32 x.slot) (by rw[g 0 (by omega),hx];rfl);have c1:=hc ad rfl (j*3+1) (.int .u64 x.dl) (by rw[g 1 (by omega),hx];rfl);have c2:=hc ad rfl (j*3+2) (.int .u64 x.birth) (by rw[g 2 (by omega),hx];rfl);exact⟨ad,rfl,c0,zcf (j:=0) c1,zcf (j:=1) c2⟩
end
section
open Go.RowKit Go.Sort Go.Shelf

end
end Go.Proofs.YtpplkcnknabofaaGreatDoor
