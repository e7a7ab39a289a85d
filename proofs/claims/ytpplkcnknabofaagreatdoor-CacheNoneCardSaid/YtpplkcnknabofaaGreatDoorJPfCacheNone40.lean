/- Lemmas and contracts of functions. No condition. -/
import Derived.Test.YtpplkcnknabofaaGreatDoorJPfCacheNone38
import Derived.Test.YtpplkcnknabofaaGreatDoorJPfCacheNone39
namespace Go.Proofs.YtpplkcnknabofaaGreatDoor
open _root_.Go.Proofs.Tryz
set_option maxRecDepth 100000
set_option maxHeartbeats 20000000
set_option linter.all false
section
open Go.RowKit Go.Shelf
theorem UP(lim:Int) : ∀(B A:List Wt),∃ ys B2,B=ys++B2∧dem lim A B=(A++ys,B2,zA ys)
 | [],A=>⟨[],[],rfl,by simp[dem,zA]⟩
 | x::B,A=>by
  cases h:jp lim (x::B)with
  | false=>exact⟨[],x::B,rfl,by rw[V2 h];simp[zA]⟩
  | true =>
   obtain⟨ys,B2,e1,e2⟩:=UP lim B (A++[x]);exact⟨x::ys,B2,by rw[e1];rfl,by rw[VQ h,e2];simp[zA]⟩
theorem U0{L:List Wt}{y:Wt}(hnd:(zA L).Nodup)(hy:y∈L):zv (zw L y.slot)+y.cost=zv L∧(zw L y.slot).length+1=L.length:=by
 induction L with
 | nil=>cases hy
 | cons x L ih =>
  have hnd':(zA L).Nodup:=(xe.1 hnd).2;have hx:x.slot∉zA L:=(xe.1 hnd).1;rcases yu.1 hy with rfl | hy
  ·have e:zw (y::L) y.slot=L:=by
    unfold zw;rw[k9];simp;intro z hz e;exact hx (e ▸ zI.2 ⟨z,hz,rfl⟩)
   rw[e,uZ];exact⟨by omega,rfl⟩
  ·have hne:x.slot≠y.slot:=fun e=>hx (e ▸ zI.2 ⟨y,hy,rfl⟩)
   have e:zw (x::L) y.slot=x::zw L y.slot:=by
    unfold zw;rw[k9];simp[hne]
   obtain⟨h1,h2⟩:=ih hnd' hy;rw[e,uZ,uZ];simp;omega
theorem zdR{A B:List Wt}{y:Wt}(h:SgL A B)(hy:y∈A++B):(gOf B y.slot=0∧y∈A∧zw B y.slot=B)∨(gOf B y.slot=1∧y∈B∧zw A y.slot=A):=by
 have hnd:=h.nd;unfold zA at hnd;rw[xK,xD]at hnd;by_cases hb:y.slot∈zA B
 ·refine .inr ⟨?_,?_,Zv (fun x hx e=>hnd.2.2 x.slot (zI.2 ⟨x,hx,rfl⟩) x.slot (by rw[e];exact hb) rfl)⟩
  ·unfold gOf;rw[zk hb]
  ·rcases yF.1 hy with hy | hy
   ·exact absurd rfl (hnd.2.2 y.slot (zI.2 ⟨y,hy,rfl⟩) y.slot hb)
   ·exact hy
 ·refine .inl ⟨?_,?_,Zv (fun x hx e=>hb (e ▸ zI.2 ⟨x,hx,rfl⟩))⟩
  ·unfold gOf;rw[zh hb]
  ·rcases yF.1 hy with hy | hy
   ·exact hy
   ·exact absurd (zI.2 ⟨y,hy,rfl⟩) hb
theorem Bu.of_rem{A B:List Wt}{y:Wt}(h:SgL A B)(hy:y∈A++B):(Bu.of A B).holds (gOf B y.slot) y.cost∧(Bu.of A B).rem (gOf B y.slot) y.cost=Bu.of (zw A y.slot) (zw B y.slot):=by
 have hnd:=h.nd;unfold zA at hnd;rw[xK,xD]at hnd;rcases zdR h hy with⟨e1,e2,e3⟩ | ⟨e1,e2,e3⟩
 ·obtain⟨h1,h2⟩:=U0 hnd.1 e2;rw[e1,e3];unfold Bu.holds Bu.cnt Bu.sum Bu.rem Bu.of;simp only[if_true];refine⟨?_,by congr 1<;>omega⟩;by_cases e:A.length=1
  ·have e4:zw A y.slot=[]:=qx (by omega);rw[e4,j8]at h1;exact .inr ⟨e,by omega⟩
  ·exact .inl ⟨by omega,by omega⟩
 ·obtain⟨h1,h2⟩:=U0 hnd.2.1 e2;rw[e1,e3];unfold Bu.holds Bu.cnt Bu.sum Bu.rem Bu.of;simp only[Nat.one_ne_zero,if_false];refine⟨?_,by congr 1<;>omega⟩;by_cases e:B.length=1
  ·have e4:zw B y.slot=[]:=qx (by omega);rw[e4,j8]at h1;exact .inr ⟨e,by omega⟩
  ·exact .inl ⟨by omega,by omega⟩
section
variable{Fo:Nat→Prop}{w w':World}{b:CaB}{s:CaS}
theorem zcS{u mc mb:Nat}{A B:List Wt}(h:yQ w u mc mb (Bu.of A B)){tg:Nat}(hto:tg≤1){x:Wt}(hc:x.cost≤1099511627776)(hl:(A++B).length+1≤1048577)(hs:zv (A++B)≤1152922604118474752) :
  Calls prog 126 #[buP u,.int .i64 tg,.int .i64 x.cost] w fun e w'=>e=.returned (.int .i64 0)∧yQ w' u mc mb (if tg=0 then Bu.of (A++[x]) B else Bu.of A (B++[x]))∧Mod (fun k=>k=u) w w':=by
 rw[zR]at hl;rw[vF]at hs;obtain rfl | rfl:tg=0∨tg=1:=by omega
 ·have h1:=zbq h hc (by show A.length+1≤_;omega) (by show zv A+x.cost≤_;omega);have e:Bu.of (A++[x]) B = {Bu.of A B with c0:=(Bu.of A B).c0+1,s0:=(Bu.of A B).s0+x.cost}:=by unfold Bu.of;rw[zR,vF];simp[zv]
  rw[zk rfl,e];exact h1
 ·have h1:=zld h hc (by show B.length+1≤_;omega) (by show zv B+x.cost≤_;omega);have e:Bu.of A (B++[x]) = {Bu.of A B with c1:=(Bu.of A B).c1+1,s1:=(Bu.of A B).s1+x.cost}:=by unfold Bu.of;rw[zR,vF];simp[zv]
  rw[zh (by decide),e];exact h1
def us(s:CaS)(x:Wt):CaS := {s with A:=(xw s.lim s.A s.B x).1,B:=(xw s.lim s.A s.B x).2.1,U:=Bu.of (xw s.lim s.A s.B x).1 (xw s.lim s.A s.B x).2.1}
theorem KG(h:zo Fo w b s){y:Wt}(hy:y∈s.A++s.B){nc:Nat}(hnc:nc≤1099511627776)(hU:s.U=Bu.of s.A s.B)(hcfg:s.cfg.ok)(hlim:s.lim=s.cfg.part)(hn:(s.A++s.B).length≤1048577) :
    Calls prog 76 #[lkP b.p,.int .u32 y.slot,.int .i64 nc] w (Zi Fo w b (us s ⟨y.slot,nc⟩)):=by
  have hlaw:=h.order.law;have hrg:=hlaw.rng y hy;obtain⟨hh,hrem⟩:=Bu.of_rem hlaw hy;have hgl:=zbT s.B y.slot;have HOf:=za (Xd h.order hy);have HUs:=za (zid h.order hy (y:=⟨y.slot,nc⟩) rfl hnc);have hpr:=Cfg.part_rng hcfg;have hcfv:s.cfg.v=.agg #[.int .i64 s.cfg.count,.int .i64 s.cfg.bytes,.int .i64 s.cfg.prot,.int .u64 s.cfg.seed,.bool s.cfg.same]:=rfl;have HPa:=za (fun W=>zbP hcfg W);rw[← hlim]at hpr HPa;have hlo:zv (zw s.A y.slot++zw s.B y.slot)≤1152922604118474752∧(zw s.A y.slot++zw s.B y.slot).length+1≤1048577:=by
    have hp:(zw s.A y.slot++zw s.B y.slot)=zw (s.A++s.B) y.slot:=by unfold zw;rw[Ym]
    obtain⟨k1,k2⟩:=U0 hlaw.nd hy;rw[hp];refine⟨?_,by omega⟩;have k3:zv (zw (s.A++s.B) y.slot)≤(zw (s.A++s.B) y.slot).length*1099511627776:=XD (fun x hx=>(hlaw.rng x (jG.1 hx).1).2);have k4:(zw (s.A++s.B) y.slot).length*1099511627776≤1048576*1099511627776:=Xk _ (by omega);omega
  have HLO:=za hlo;have HH:=za h;have HU:=za hU;have hb:=h.box;obtain⟨A1,B1,tg,htg,hW,hA1⟩ : ∃ A1 B1 tg,tg≤1∧xw s.lim s.A s.B ⟨y.slot,nc⟩=dem s.lim A1 B1∧((s.lim = -1∧tg=0∧A1=zw s.A y.slot++[⟨y.slot,nc⟩]∧B1=zw s.B y.slot)∨(s.lim ≠ -1∧tg=1∧A1=zw s.A y.slot∧B1=zw s.B y.slot++[⟨y.slot,nc⟩])):=by
    unfold xw;by_cases e:s.lim = -1
    · exact⟨_,_,0,by omega,by rw[zk e],.inl ⟨e,rfl,rfl,rfl⟩⟩
    · exact⟨_,_,1,by omega,by rw[zh e],.inr ⟨e,rfl,rfl,rfl⟩⟩
  obtain⟨ys,B2,eB,eD⟩:=UP s.lim B1 A1;have hperm:(A1++B1).length≤1048577∧zv (A1++B1)≤2305843009213693952:=by
    obtain⟨k1,k2⟩:=hlo;rw[zR]at k2;rw[vF]at k1;rcases hA1 with⟨_,_,rfl,rfl⟩ | ⟨_,_,rfl,rfl⟩
    · simp only[List.length_append,vF,uZ,j8,List.length_cons,List.length_nil];omega
    · simp only[List.length_append,vF,uZ,j8,List.length_cons,List.length_nil];omega
  have hif:(if tg=0 then Bu.of (zw s.A y.slot++[⟨y.slot,nc⟩]) (zw s.B y.slot)else Bu.of (zw s.A y.slot) (zw s.B y.slot++[⟨y.slot,nc⟩]))=Bu.of A1 B1:=by
    rcases hA1 with⟨_,rfl,rfl,rfl⟩ | ⟨_,rfl,rfl,rfl⟩<;>rfl
  have htl:((s.lim == -1)=true∧tg=0)∨((s.lim == -1)=false∧tg=1):=by
    rcases hA1 with⟨e,e2,_⟩ | ⟨e,e2,_⟩
    · exact .inl ⟨by simp[e],e2⟩
    · exact .inr ⟨by simp[e],e2⟩
  have HIF:=za hif;have HEB:=za eB;have HED:=za (hW.trans eD);have HPM:=za hperm;have HHH:=za hh;have HREM:=za hrem;have HGL:=za hgl;have HRG:=za hrg;have HNC:=za hnc;clear h hlaw hcfg hcfv hU hlo hlim hif eB eD hW hperm hA1 hh hrem hgl hrg hnc hpr hn hy;rw[HED.out]at HUs;unfold us;rw[HED.out];dsimp only;obtain⟨sl,hsl⟩:=zc y.slot;obtain⟨co,hco⟩:=zc y.cost;obtain⟨g,hg⟩:=zc (gOf s.B sl);rw[hsl]at HOf HUs HIF HHH HREM HGL HRG HLO ⊢;rw[hco]at HOf HHH HREM HRG;rw[hg]at HOf HHH HREM HGL;clear hsl hco hg;generalize hlm:s.lim=lm at *;have HLM:=za hlm;clear hlm;obtain⟨hb_0,hb_1,hb_2,hb_3,hb_4,hb_5,hb_6,hb_7,hb_8,hb_9,hb_10,hb_f,hb_l,H_hb⟩:=yE hb;clear hb;go_enter func76,ntmps76;go_upto_region 2 with(first
    | (go_at_call 75;refine HOf.out.mono ?_;rintro e w' ⟨rfl,rfl⟩)
    | (go_at_call 160;refine HUs.out.mono ?_;rintro e w1 ⟨v,rfl,ga,gc,rfl,hgr,⟨D1,hr1,hg1,hgn⟩,hm1⟩))
  clear hb_0 hb_1 hb_2 hb_3 hb_4 hb_5 hb_6 hb_7 hb_8 hb_9 hb_10 hb_f hb_l;clear H_hb;obtain⟨b1,C1,T1,n1⟩ : ∃ b1,zo Fo w1 b1 {s with lim:=lm,A:=A1++ys,B:=B2}∧zr w w1 b b1 ∧ ∀ g,(Value.slice ga (zA ys).length gc).ownBlock=some g → ¬ b1.D g :=
    ⟨_,HH.out.putOrder hr1 hm1 hg1,zr.ofOrder hm1 hg1,fun g hg hD=>by
      obtain⟨k1,k2⟩:=hgn g hg;have hlt:=fun(e:b.D g)=>HH.out.lt e
      rcases hD with e | e | e | e | e | e | e
      · have:=hlt (.inl e);omega
      · have:=hlt (.inr (.inl e));omega
      · have:=hlt (.inr (.inr (.inl e)));omega
      · exact k1 e
      · have:=hlt (.inr (.inr (.inr (.inr (.inl e)))));omega
      · have:=hlt (.inr (.inr (.inr (.inr (.inr (.inl e))))));omega
      · have:=hlt (.inr (.inr (.inr (.inr (.inr (.inr e))))));omega⟩
  have hbu:=C1.used;dsimp only at hbu;rw[HU.out]at hbu;have HBr:=za (zdu hbu HGL.out HRG.out.2 HHH.out);rw[HREM.out]at HBr;have hb1:=C1.box;rw[T1.p]at hb1;have HC1:=za C1;have HT1:=za T1;have HN1:=za n1;have HGR:=za hgr;clear hr1 hm1 hg1 hgn C1 T1 n1 hgr hbu;have hyl:(zA ys).length=ys.length:=by unfold zA;simp
  rw[hyl]at HN1 ⊢;obtain⟨ny,hny⟩:=zc ys.length;rw[hny]at HN1 ⊢;have HNY:=za hny;have HYL:=za hyl;clear hny hyl;obtain⟨hb1_0,hb1_1,hb1_2,hb1_3,hb1_4,hb1_5,hb1_6,hb1_7,hb1_8,hb1_9,hb1_10,hb1_f,hb1_l,H_hb1⟩:=yE hb1;clear hb1;go_upto_region 3 with(go_at_call 161;refine HBr.out.mono ?_;rintro e w2 ⟨rfl,hr2,hm2⟩)
  clear hb1_0 hb1_1 hb1_2 hb1_3 hb1_4 hb1_5 hb1_6 hb1_7 hb1_8 hb1_9 hb1_10 hb1_f hb1_l;clear H_hb1;obtain⟨b2,C2,T2,n2⟩ : ∃ b2,zo Fo w2 b2 {s with lim:=lm,A:=A1++ys,B:=B2,U:=Bu.of (zw s.A sl) (zw s.B sl)}∧zr w w2 b b2 ∧ ∀ g,(Value.slice ga ny gc).ownBlock=some g → ¬ b2.D g ∧ ¬ b1.D g:=⟨b1,HC1.out.putUsed hr2 hm2,HT1.out.trans (zr.ofUsed hm2),fun g hg=>⟨HN1.out g hg,HN1.out g hg⟩⟩;have hgr2:=zy HGR.out (zr.ofUsed (b:=b1) hm2).mod (fun g hg=>HN1.out g (by rw[HYL.out,HNY.out]at hg;exact hg));have hb2:=C2.box;rw[T2.p]at hb2;have HC2:=za C2;have HT2:=za T2;have HN2:=za n2;have HGR2:=za hgr2;clear hr2 hm2 C2 T2 n2 hgr2 HC1 HT1 HN1 HGR HBr;obtain⟨hb2_0,hb2_1,hb2_2,hb2_3,hb2_4,hb2_5,hb2_6,hb2_7,hb2_8,hb2_9,hb2_10,hb2_f,hb2_l,H_hb2⟩:=yE hb2;clear hb2;go_upto_region 5 with(go_at_call 87;refine(HPa.out _).mono ?_;rintro e w3 ⟨rfl,hp3⟩)
  clear hb2_0 hb2_1 hb2_2 hb2_3 hb2_4 hb2_5 hb2_6 hb2_7 hb2_8 hb2_9 hb2_10 hb2_f hb2_l;clear H_hb2;have HC3:=za (HC2.out.pure hp3);have HT3:=za (HT2.out.trans (zr.pure hp3));have HGR3:=za (zy HGR2.out hp3 (fun _ _ h=>h));have hb3:=HC3.out.box;rw[HT2.out.p]at hb3;clear hp3 HC2 HT2 HGR2;have HAd:=za (zcS HC3.out.used (tg:=tg) (x:=⟨sl,nc⟩) htg HNC.out HLO.out.2 HLO.out.1);rw[HIF.out]at HAd;obtain⟨hb3_0,hb3_1,hb3_2,hb3_3,hb3_4,hb3_5,hb3_6,hb3_7,hb3_8,hb3_9,hb3_10,hb3_f,hb3_l,H_hb3⟩:=yE hb3;clear hb3;rcases htl with⟨hl,rfl⟩ | ⟨hl,rfl⟩
  all_goals
    go_upto_region 8 with(go_at_call 126;refine HAd.out.mono ?_;rintro e w4 ⟨rfl,hr4,hm4⟩)
    clear hb3_0 hb3_1 hb3_2 hb3_3 hb3_4 hb3_5 hb3_6 hb3_7 hb3_8 hb3_9 hb3_10 hb3_f hb3_l;clear H_hb3;have C4:=HC3.out.putUsed hr4 hm4;have T4:=HT3.out.trans (zr.ofUsed hm4);have hgr4:=zy HGR3.out (zr.ofUsed (b:=b2) hm4).mod (fun g hg=>(HN2.out g (by rw[HYL.out,HNY.out]at hg;exact hg)).1);have hrd:zn w4 (.slice ga ny gc) 1 (zU (zA ys)):=by
      have h9:=zn.of_owns hgr4 (fun u hu=>by obtain⟨q,_,rfl⟩:=zI.1 hu;rfl);rw[HYL.out,HNY.out]at h9;exact h9
    have hll:A1.length+(ys.length+B2.length)≤1048577∧zv A1+(zv ys+zv B2)≤2305843009213693952:=by
      have h9:=HPM.out;rw[HEB.out]at h9;simp only[List.length_append,vF]at h9;exact h9
    have HDm:=za (zmp C4 hrd HNY.out (fun g hg=>(HN2.out g (zbo hg)).1) (fun y hy=>by show y∈(A1++ys)++B2;simp[hy]) (c0:=A1.length) (s0:=zv A1) (nB:=B2.length) (sB:=zv B2) (by show Bu.of A1 B1=_;rw[HEB.out,← HNY.out];unfold Bu.of;rw[zR,vF];congr 1<;>omega) (fun e=>by rw[qx e];rfl) (by have:=HNY.out;omega) (by omega));rw[T4.p]at HDm;have HT4:=za T4;clear hr4 hm4 C4 T4 hgr4 hrd hll
    go_wp2_with (go_at_call 89;refine HDm.out.mono ?_;rintro e w5 ⟨rfl,b5,C5,T5⟩)
    go_end0
    refine⟨rfl,b5,?_,HT4.out.trans T5⟩;have e9:(⟨A1.length+ny,zv A1+zv ys,B2.length,zv B2⟩:Bu)=Bu.of (A1++ys) B2:=by unfold Bu.of;rw[zR,vF,HNY.out]
    rw[← e9];exact C5
end
def vo(L:List (Option Ent)):List Nat:=(live L).map (fun g=>g.1)
theorem UK : ∀(L:List (Option Ent)) (i:Nat),((xR i L).map (fun g=>g.1)).Pairwise (· < ·) ∧ ∀ x∈(xR i L).map (fun g=>g.1),i≤x∧x<i+L.length
 | [],i=>by simp[xR]
 | none::L,i=>by
  obtain⟨h1,h2⟩:=UK L (i+1);exact⟨h1,fun x hx=>by have:=h2 x hx;simp;omega⟩
 | some e::L,i=>by
  obtain⟨h1,h2⟩:=UK L (i+1);simp only[xR,List.map_cons,List.pairwise_cons,List.length_cons];refine⟨⟨fun y hy=>by have:=h2 y hy;omega,h1⟩,fun x hx => ?_⟩;rcases yu.1 hx with rfl | hx
  ·omega
  ·have:=h2 x hx;omega
def CE.cost(x:CE):Nat:=x.key.size+x.val.length+48
def xk(k:Nat)(s:CaS)(sl:Nat):CaS:=match s.L[sl]? with
 | some (some x)=>lvS s k x ⟨sl,x.cost⟩
 | _=>s
def yJ(k:Nat)(s:CaS)(l:List Nat):CaS:=l.foldl (xk k) s
def xz(k:Nat):CaS→List Nat→Prop
 | _,[]=>True
 | s,sl::l=>(∃ x,s.L[sl]? = some (some x)∧(⟨sl,x.cost⟩:Wt)∈s.A++s.B∧Ev.Ok ⟨k,x,s.now⟩∧s.evs.length<1048576∧s.U=Bu.of s.A s.B)∧xz k (xk k s sl) l
theorem xz.at_{k:Nat} : ∀ {l:List Nat} {s:CaS} {i sl:Nat},xz k s l→l[i]? = some sl → ∃ x,(yJ k s (l.take i)).L[sl]? = some (some x)∧(⟨sl,x.cost⟩:Wt)∈(yJ k s (l.take i)).A++(yJ k s (l.take i)).B∧Ev.Ok ⟨k,x,(yJ k s (l.take i)).now⟩∧(yJ k s (l.take i)).evs.length<1048576∧(yJ k s (l.take i)).U=Bu.of (yJ k s (l.take i)).A (yJ k s (l.take i)).B
 | [],s,i,sl,_,h=>by simp at h
 | y::l,s,0,sl,h,h2=>by
  simp at h2;subst h2;exact h.1
 | y::l,s,i+1,sl,h,h2=>by
  have:=xz.at_ (i:=i) h.2 (by simpa using h2);simpa[yJ]using this
theorem Kk{k:Nat}{s:CaS}{l:List Nat}{i sl:Nat}(h:l[i]? = some sl):yJ k s (l.take (i+1))=xk k (yJ k s (l.take i)) sl:=by
 unfold yJ;rw[ua,h,YQ]
 rfl
section
variable{Fo:Nat→Prop}{w w':World}{b:CaB}{s:CaS}
theorem Vu(h:zo Fo w b s){k c1 c2 sl:Nat}(hf:LvF w b.p k c1 c2)(n1 : ¬ b.D c1)(n2 : ¬ b.D c2)(hx : ∃ x,s.L[sl]? = some (some x)∧(⟨sl,x.cost⟩:Wt)∈s.A++s.B∧Ev.Ok ⟨k,x,s.now⟩∧s.evs.length<1048576∧s.U=Bu.of s.A s.B) :
  Calls prog 165 #[.int .u32 sl,.pointer (some ⟨c1,0,none⟩),.pointer (some ⟨c2,0,none⟩)] w (Zi Fo w b (xk k s sl)):=by
 obtain⟨x,h1,h2,h3,h4,h5⟩:=hx;have hr:=Bu.of_rem h.order.law h2;have h6:=zis h hf n1 n2 (x:=x) (y:=⟨sl,x.cost⟩) h1 h2 h3 h4 (by rw[h5];exact hr.1);have e:xk k s sl=lvS s k x ⟨sl,x.cost⟩:=by unfold xk;rw[h1]
 rw[e];exact h6
end
def tmS(s:CaS)(t:Nat):CaS := {s with now:=max s.now t,M:=jq (max s.now t) s.M}
def yD(s:CaS)(t:Nat):List Nat:=(ud (max s.now t) s.M).map Td.slot
def zj(s:CaS)(t:Nat):CaS:=yJ 1 (tmS s t) (yD s t)
def ui(s:CaS)(keep:Nat):List Nat:=vX s.mc s.mb keep (s.A++s.B)
def evS(s:CaS)(keep:Nat):CaS:=yJ 2 s (ui s keep)
abbrev pkS(s:CaS):CaS:=s
structure zcF(s:CaS):Prop where
 nd:Xl s.L.length (zV (zB s.L))=false
structure xX(s:CaS)(keep:Nat):Prop where
 lv:xz 2 s (ui s keep)
 u:s.U=Bu.of s.A s.B
 len:(s.A++s.B).length≤2097152
 c:s.cfg.count=s.mc
 b:s.cfg.bytes=s.mb
 pk:zcF (evS s keep)
structure vy(X:Nat→Prop)(w w':World)(b b':CaB):Prop where
 p:b'.p=b.p
 mod:Mod (fun k=>b.D k∨X k) w w'
 grew : ∀ k,b'.D k→b.D k∨w.heap.size≤k
section
variable{X:Nat→Prop}{w w1 w2:World}{b b1 b2:CaB}
theorem zr.toX(h:zr w w1 b b1):vy X w w1 b b1:=⟨h.p,h.mod.mono (fun _ _ h => .inl h),h.grew⟩
theorem vy.trans(h:vy X w w1 b b1)(k:vy X w1 w2 b1 b2):vy X w w2 b b2 :=
 ⟨k.p.trans h.p,Mod.trans' h.mod k.mod (fun _ _ h=>h) (fun i hi e=>e.imp (fun e=>(h.grew i e).elim (fun e=>e) (fun e=>by omega)) (fun e=>e)),fun i e=>(k.grew i e).elim (fun e=>h.grew i e) (fun e => .inr (zH h.mod.size e))⟩
theorem vy.nd{k:Nat}(h:vy X w w1 b b1)(hk : ¬ b.D k)(hl:k<w.heap.size) : ¬ b1.D k:=fun e=>(h.grew k e).elim hk (fun e=>by omega)
end
section
variable{Fo X:Nat→Prop}{w w':World}{b:CaB}{s:CaS}
theorem zlG{cnt byt:Nat}{R:List Wt}{n c:Nat}(h : ¬ (cnt<n∨byt<c)):vA cnt byt R n c=[]:=by
 cases R with
 | nil=>rfl
 | cons x R=>rw[vA,zh h]
theorem xl.list0{D:Nat→Prop}{o:Nat}{lim:Int}{A B:List Wt}(h:xl w D o lim A B):Calls prog 100 #[lkP o,.int .i64 0] w (qG w A):=by
 obtain⟨l0,l1,bm,D0,D1,Dm,h⟩:=h;exact zdY h
theorem xl.list1{D:Nat→Prop}{o:Nat}{lim:Int}{A B:List Wt}(h:xl w D o lim A B):Calls prog 100 #[lkP o,.int .i64 1] w (qG w B):=by
 obtain⟨l0,l1,bm,D0,D1,Dm,h⟩:=h;exact ziY h
def zbL(p o mc mb:Nat)(Y:World):Prop:=Y.cell? ⟨p,2,none⟩=some (lkP o)∧Y.cell? ⟨p,6,none⟩=some (.int .i64 mc)∧Y.cell? ⟨p,7,none⟩=some (.int .i64 mb)
def V5(Fo X:Nat→Prop)(w:World)(b:CaB)(QE:Nat→CaS→World→Prop)(e:Ending)(w':World):Prop :=
 e=.returned (.tuple #[]) ∧ ∃ keep s2 b',zo Fo w' b' (pkS (evS s2 keep))∧vy X w w' b b'∧QE keep s2 w'
def zhy(b2:CaB)(w2:World)(R:World→Prop):Prop := ∀ W W' (S:Nat→Prop),R W→Mod S W W'→(∀ k,S k→b2.D k∨w2.heap.size≤k)→R W'
def zl8(Fo X:Nat→Prop)(W:World)(b1:CaB)(QE:Nat→CaS→World→Prop)(e:Ending)(w':World):Prop :=
 ∃(keep:Nat) (s2:CaS) (b2:CaB) (R:World→Prop),e=.returned (.int .u32 (keep:Nat))∧zo Fo w' b2 s2∧vy X W w' b1 b2∧xX s2 keep∧R w'∧zhy b2 w' R ∧ ∀ Y,R Y→QE keep s2 Y
theorem Az2wk {P:Prop}(h:P:=by
 have hbE:=HCE.out.box;rw[HTE.out.p]at hbE;have HSz:=za (zdC HCE.out.dict);have HLn:=za (fun(Y:World) (hY:zb wE Y)=>Ux (HCE.out.pure hY).dict);have hlen:=HCE.out.dict.ok.len;have hel:(zB (evS s2 keep).L).length=(evS s2 keep).L.length:=by unfold zB;rw[yt]
 rw[hel]at hlen;unfold JN at HSz;rw[hel]at HSz;have HDu:=za (fun(Y:World)=>zcy Y ((evS s2 keep).L.length:Int) (zV (zB (evS s2 keep).L)) (by omega) (by omega));have hnd:=HR6.out.pk.nd;rw[hnd]at HDu;clear hel hnd;generalize((evS s2 keep).L.length:Int)=lenE at *;generalize((zV (zB (evS s2 keep).L):Int))=livE at *;obtain⟨hbE_0,hbE_1,hbE_2,hbE_3,hbE_4,hbE_5,hbE_6,hbE_7,hbE_8,hbE_9,hbE_10,hbE_f,hbE_l,H_hbE⟩:=yE hbE;clear hbE
 go_wp2_with (first
   | (go_at_call 104;refine HSz.out.mono ?_;rintro e wA ⟨rfl,hpA⟩;have yA:=hpA.cell (fun h=>h) hbE_0)
   | (go_at_call 99;refine(HLn.out _ hpA).mono ?_;rintro e wB ⟨rfl,rfl⟩)
   | (go_at_call 172;refine(HDu.out _).mono ?_;rintro e wB ⟨rfl,rfl⟩))
 go_end0
 refine⟨rfl,keep,s2,bE,?_,HTE.out.trans ((zr.pure hpA).toX (X:=X)),HQF.out _ (HST.out _ _ _ HQE.out hpA (fun _ h=>h.elim))⟩;exact HCE.out.pure hpA):P:=h
theorem YO(h:zo Fo w b s){t:Nat}(ht:t≤18446744073709551615)(hlv:xz 1 (tmS s t) (yD s t))(hX : ∀ k,X k → ¬ b.D k∧k<w.heap.size){ge:Nat}{lb:Array Value}
    (eg : ∀ args w,(callFunc ge args).run prog w=.ok (.enter ge args) w) {QE:Nat→CaS→World→Prop}
    (hE : ∀ W b1,zo Fo W b1 (zj s t)→zr w W b b1→Calls prog ge lb W (zl8 Fo X W b1 QE)) :
    Calls prog 82 #[lkP b.p,.int .u64 t,.func (.func ge) #[] lb] w (V5 Fo X w b QE):=by
  have HLv:=za (fun W=>XJ b.p 1 W);have HLv2:=za (fun W=>XJ b.p 2 W);have HH:=za h;have HT:=za ht;have HLO:=za hlv;have HX:=za hX;have HE:=za hE;clear h ht hlv hX hE;go_enter func82,ntmps82;go_upto_region 1 with(go_at_call 81;refine(HLv.out _).mono ?_;rintro e w1 ⟨rfl,hf1,hp1⟩)
  have C1:=HH.out.pure hp1;have hd0 : ¬ b.Dt 0:=fun e=>by have:=HH.out.sep.t 0 e;rw[HH.out.sep.z]at this;cases this
  have HEx:=za (C1.due.expire C1.tab hd0 HT.out);have hb1:=C1.box;obtain⟨c1,hc1⟩:=zc w.heap.size;rw[hc1]at hf1 ⊢;have HC1:=za hc1;have hlt1:c1+1<w1.heap.size:=zl hf1.b2;have HF1:=za hf1;have HCC1:=za C1;have HP1:=za hp1;have HLT1:=za hlt1;clear hf1 C1 hd0 hc1 hp1 hlt1;obtain⟨hb1_0,hb1_1,hb1_2,hb1_3,hb1_4,hb1_5,hb1_6,hb1_7,hb1_8,hb1_9,hb1_10,hb1_f,hb1_l,H_hb1⟩:=yE hb1;clear hb1;go_upto_region 2 with(go_at_call 169;refine HEx.out.mono ?_;rintro e w2 ⟨a,c,rfl,hrow,⟨D2,hr2,hg2,hn2⟩,hm2⟩)
  clear hb1_0 hb1_1 hb1_2 hb1_3 hb1_4 hb1_5 hb1_6 hb1_7 hb1_8 hb1_9 hb1_10 hb1_f hb1_l;clear H_hb1;obtain⟨es,hes⟩:=zc (ud (max s.now t) s.M);rw[hes]at hrow hn2 ⊢;have hel:yD s t=es.map Td.slot:=by unfold yD;rw[hes]
  obtain⟨b2,C2,T2,n2⟩ : ∃ b2,zo Fo w2 b2 (tmS s t)∧zr w1 w2 b b2 ∧ ∀ g,(Value.slice a es.length c).ownBlock=some g → ¬ b2.D g :=
    ⟨_,HCC1.out.putDue hr2 hm2 hg2,zr.ofDue hm2 hg2,fun g hg hD=>by
      obtain⟨k1,k2⟩:=hn2 g hg;have hlt:=fun(e:b.D g)=>HCC1.out.lt e
      rcases hD with e | e | e | e | e | e | e
      · have:=hlt (.inl e);omega
      · have:=hlt (.inr (.inl e));omega
      · have:=hlt (.inr (.inr (.inl e)));omega
      · have:=hlt (.inr (.inr (.inr (.inl e))));omega
      · have:=hlt (.inr (.inr (.inr (.inr (.inl e)))));omega
      · exact k1 e
      · have:=hlt (.inr (.inr (.inr (.inr (.inr (.inr e))))));omega⟩
  have hnc : ∀ j,j≤1 → ¬ b.D (c1+j):=fun j _ e=>by have:=HH.out.lt e;have:=HC1.out;omega
  have hf2:LvF w2 b.p 1 c1 (c1+1):=HF1.out.mod T2.mod (hnc 0 (by omega)) (hnc 1 (by omega));have hn2c : ∀ j,j≤1 → ¬ b2.D (c1+j):=fun j hj=>T2.nd (hnc j hj) (by have:=HLT1.out;omega)
  have HCC2:=za C2;have HT2:=za T2;have HN2:=za n2;have HROW:=za hrow;have HF2:=za hf2;have HNC:=za hn2c;have HEL:=za hel;have hl2:c1+1<w2.heap.size:=zl hf2.b2;have HL2:=za hl2;have hle:es.length≤4194304:=by
    have h9:=HH.out.due.law.count;rw[← hes];exact zH ((VV _).length_le) h9
  have HLE:=za hle;clear hrow hr2 hg2 hn2 hm2 C2 T2 n2 hnc hf2 hn2c hel hl2 hes hle;obtain⟨n,hn⟩:=zc es.length;rw[hn]at HN2 HLE ⊢;have HN:=za hn;clear hn;go_loopw [8,30] (fun v8 v30 wr => ∃(k:Nat) (b':CaB),v30=.int .i64 (k:Nat)∧k≤n∧zo Fo wr b' (yJ 1 (tmS s t) ((yD s t).take k))∧zr w2 wr b2 b') (fun _ v30 _=>n-(intOf v30).toNat)
  case atStart=>exact⟨0,b2,rfl,yh _,HCC2.out,zr.pure (Mod.refl _ _)⟩
  case round =>
    obtain⟨k,b3,rfl,hk,hC,hT⟩:=hrel;have HC3:=za hC;have HT3:=za hT;clear hC hT;by_cases hlt:k<n
    · have hlt':(k:Int)<(n:Int):=by omega
      have k0:(0:Int)≤(k:Int):=by omega
      have wk:IntKind.i64.wrap ((k:Int)+1)=(k:Int)+1:=zt _ (by have:=HLE.out;omega);obtain⟨x,hx⟩ : ∃ x,es[k]? = some x:=⟨_,zN (by rw[HN.out];exact hlt)⟩;have hrd:zn wr (.slice a n c) 3 (es.flatMap tdC):=by
        have h9:=(HROW.out.rd).frame HT3.out.mod (fun g hg=>HN2.out g (by rw[HN.out]at hg;exact zbo hg));unfold zbe at h9;rw[HN.out]at h9;exact h9
      obtain⟨ad,had,z0,z1,z2⟩:=QU hrd hx;subst had;have hsl:(yD s t)[k]? = some x.slot:=by rw[HEL.out,yw,hx];rfl
      have hal:zb wr (wr.alloc (.cells #[.int .u32 x.slot,.int .u64 x.dl,.int .u64 x.birth] 226)):=(Mod.refl _ wr).alloc _;have hbx:=zi (w:=wr) (o := .cells #[.int .u32 x.slot,.int .u64 x.dl,.int .u64 x.birth] 226 (0,0)) rfl;have T3:=HT3.out.trans (zr.pure hal);have hl1:=Vu (HC3.out.pure hal) (k:=1) (c1:=c1) (c2:=c1+1) (sl:=x.slot) (by rw[T3.p,HT2.out.p];exact HF2.out.mod T3.mod (HNC.out 0 (by omega)) (HNC.out 1 (by omega))) (T3.nd (HNC.out 0 (by omega)) (by have:=HL2.out;omega)) (T3.nd (HNC.out 1 (by omega)) HL2.out) (HLO.out.at_ hsl);rw[← Kk hsl]at hl1;have HL1:=za hl1;have HTT:=za T3;clear hx hrd hsl T3 hl1;go_upto_region 4 with fail
      generalize wr.alloc (.cells #[.int .u32 x.slot,.int .u64 x.dl,.int .u64 x.birth] 226)=W4 at *;generalize wr.heap.size=b4 at *;clear z0 z1 z2 hal;obtain⟨hbx_0,hbx_1,hbx_2,hbx_f,hbx_l,H_hbx⟩:=cr3 hbx;clear hbx
      go_wp2_with (go_at_call 165;refine HL1.out.mono ?_;rintro e w5 ⟨rfl,b5,C5,T5⟩)
      go_roundw
      case rel=>exact⟨k+1,b5,by first | rfl | simp,hlt,C5,HTT.out.trans T5⟩
      case measure=>simp[intOf];omega
    · have hlt' : ¬ (k:Int)<(n:Int):=by omega
      obtain rfl:k=n:=by omega
      have hC3:=HC3.out;rw[kM (by rw[HEL.out,yt,HN.out];exact zG _)]at hC3;rw[show yJ 1 (tmS s t) (yD s t)=zj s t from rfl]at hC3;have T3:=((zr.pure HP1.out).trans HT2.out).trans HT3.out;have HEf:=za (HE.out wr b3 hC3 T3);have hnx : ∀ i,X i → ¬ b3.D i:=fun i hi=>T3.nd (HX.out i hi).1 (HX.out i hi).2
      have HT3':=za T3;clear hC3 T3 hnx HLv HLO HEx;go_upto_region 7 with(go_at_fn ge;refine HEf.out.mono ?_;rintro e w6 ⟨keep,s2,b6,R,rfl,C6,T6,R6,Q6,S6,F6⟩)
      have T66:=(HT3'.out.toX (X:=X)).trans T6;have HC6:=za C6;have HT6:=za T66;have HR6:=za R6;have HQ6:=za Q6;have HST:=za S6;have HQF:=za F6;have hNX : ∀ i,X i → ¬ b6.D i:=fun i hi=>T66.nd (HX.out i hi).1 (HX.out i hi).2
      have HNX:=za hNX;have HOv:=za (zje C6.used);have hb6:=C6.box;rw[T66.p]at hb6;clear C6 T6 T66 R6 Q6 S6 F6 HEf HT3' hNX HC3 HT3;obtain⟨hb6_0,hb6_1,hb6_2,hb6_3,hb6_4,hb6_5,hb6_6,hb6_7,hb6_8,hb6_9,hb6_10,hb6_f,hb6_l,H_hb6⟩:=yE hb6;clear hb6;obtain⟨vN,hvN⟩:=zc ((if 0<(s2.U.c0:Int)+(s2.U.c1:Int) + -(s2.mc:Int)then(s2.U.c0:Int)+(s2.U.c1:Int) + -(s2.mc:Int)else 0));obtain⟨vC,hvC⟩:=zc ((if 0<(s2.U.s0:Int)+(s2.U.s1:Int) + -(s2.mb:Int)then(s2.U.s0:Int)+(s2.U.s1:Int) + -(s2.mb:Int)else 0));rw[hvN,hvC]at HOv;have hov:(0<vN∨0<vC)↔(s2.mc<(s2.A++s2.B).length∨s2.mb<zv (s2.A++s2.B)):=by
        rw[← hvN,← hvC,HR6.out.u,zR,vF];unfold Bu.of;dsimp only;split<;>split<;>omega
      have HOV:=za hov;clear hvN hvC hov;go_upto_region 8 with(go_at_call 170;refine HOv.out.mono ?_;rintro e w7 ⟨rfl,hp7⟩)
      clear hb6_0 hb6_1 hb6_2 hb6_3 hb6_4 hb6_5 hb6_6 hb6_7 hb6_8 hb6_9 hb6_10 hb6_f hb6_l;clear H_hb6;have HC7:=za (HC6.out.pure hp7);have HT7:=za (HT6.out.trans ((zr.pure hp7).toX (X:=X)));have HQ7:=za (HST.out w6 w7 _ HQ6.out hp7 (fun _ h=>h.elim));have HSZ7:=za hp7.size;clear hp7 HC6 HT6 HQ6 HOv;by_cases hov:0<vN∨0<vC
      · have hor:=HOV.out.1 hov
        clear hor;have hb7:=HC7.out.box;rw[HT7.out.p,HR6.out.c,HR6.out.b]at hb7;have HS:=za (fun(Y:World) (hY:zb w7 Y)=>(⟨zf Y b.p 2 _ _ (0,0) (hY.heap (fun h=>h) hb7),zf Y b.p 6 _ _ (0,0) (hY.heap (fun h=>h) hb7),zf Y b.p 7 _ _ (0,0) (hY.heap (fun h=>h) hb7)⟩:zbL b.p b6.o s2.mc s2.mb Y));have HL0:=za (fun(Y:World) (hY:zb w7 Y)=>(HC7.out.order.pure hY).list0);have HL1:=za (fun(Y:World) (hY:zb w7 Y)=>(HC7.out.order.pure hY).list1);have hlw:=HC7.out.order.law;have hmc:=HC7.out.used.c;have hmb:=HC7.out.used.b;have HCh:=za (fun(Y:World) (a1:Option Addr) (c1:Nat) (a2:Option Addr) (c2:Nat) (h1:zn Y (.slice a1 s2.A.length c1) 2 (s2.A.flatMap wtC)) (h2:zn Y (.slice a2 s2.B.length c2) 2 (s2.B.flatMap wtC))=>zht (keep:=keep) (cnt:=s2.mc) (byt:=s2.mb) h1 h2 HR6.out.len hlw.rng hlw.nd (by omega) (by omega));clear hb7 hlw hmc hmb;rcases(show 0<vN∨(¬ 0<vN∧0<vC) by omega)with g1 | ⟨g1,g2⟩
        all_goals
          clear hov;go_upto_region 9 with fail
          refine rHd (S:=zbL b.p b6.o s2.mc s2.mb) (HS.out _ (Mod.refl _ _).drew) (fun h_ => ?_);refine hTk 0 ?_;refine hTk 1 ?_;refine hTk 2 ?_;refine hTk 3 ?_;refine hLd 4 ?_;refine hTk 6 ?_;refine hTk 7 ?_;refine hTk 8 ?_;refine hTk 9 ?_;refine hLd 10 ?_;refine hTk 12 ?_;refine hTk 13 ?_;refine hTk 14 ?_;refine hTk 15 ?_;refine hTk 16 ?_;refine hLd 17 ?_;refine hTk 18 ?_;refine hTk 19 ?_;refine hTk 20 ?_;refine hTk 21 ?_;refine hLd 22 ?_
          (refine hSt 5 (fun K hK => ?_);go_simp;refine zm (HL0.out _ (Mod.refl _ _).drew) ?_;rintro e u1 ⟨a1,k1,rfl,hw1,hf1,hq1⟩;refine hK.out _ _ ?_ (fun h_ => ?_);(· exact HS.out _ ((Mod.refl (fun _=>False) w7).drew.trans hq1));clear hK K;refine clA ?_)
          (refine hSt 11 (fun K hK => ?_);go_simp;refine zm (HL1.out _ ((Mod.refl (fun _=>False) w7).drew.trans hq1)) ?_;rintro e u2 ⟨a2,k2,rfl,hw2,hf2,hq2⟩;refine hK.out _ _ ?_ (fun h_ => ?_);(· exact HS.out _ (((Mod.refl (fun _=>False) w7).drew.trans hq1).trans hq2));clear hK K;refine clA ?_)
          (refine hSt 23 (fun K hK => ?_);go_simp;refine zm (HCh.out _ a1 k1 a2 k2 ((zn.of_owns hw1 (qF _)).frame hq2 (fun _ _ h=>h)) (zn.of_owns hw2 (qF _))) ?_;rintro e u3 ⟨a3,k3,rfl,hw3,hf3,hq3⟩;refine hK.out _ _ ?_ (fun h_ => ?_);(· exact HS.out _ ((((Mod.refl (fun _=>False) w7).drew.trans hq1).trans hq2).trans hq3));clear hK K;refine clA ?_)
          refine hTk 24 ?_;refine hTk 25 ?_;refine hTk 26 ?_;refine hTk 27 ?_;refine hTk 28 ?_;refine hDn ?_;clear h_;have hp3:=(((Mod.refl (fun _=>False) w7).drew.trans hq1).trans hq2).trans hq3;have hl3:vX s2.mc s2.mb keep (s2.A++s2.B)=ui s2 keep:=rfl;rw[hl3]at hw3 hf3;rw[hl3];have hfr : ∀ g,(Value.slice a3 (ui s2 keep).length k3).ownBlock=some g → ¬ b6.D g:=fun g hg e=>by
            have h1:=hf3 g hg;have h2:=HC7.out.lt e;have h3:=hq1.size;have h4:=hq2.size;have h5:w7.drew.heap.size=w7.heap.size:=rfl;omega
          have HFR:=za hfr;have HW3:=za hw3;have HC8:=za (HC7.out.pure hp3);have HT8:=za (HT7.out.trans ((zr.pure hp3).toX (X:=X)));have HQ8:=za (HST.out w7 u3 _ HQ7.out hp3 (fun _ h=>h.elim));have HSZ8:=za (zH HSZ7.out hp3.size);clear hfr hw3 hf3 hp3 hq1 hq2 hq3 hw1 hw2 hf1 hf2 hl3;obtain⟨n2,hn2⟩:=zc ((ui s2 keep).length);rw[hn2]at HFR ⊢;have HN2':=za hn2;clear hn2;go_upto_region 11 with(go_at_call 81;refine(HLv2.out _).mono ?_;rintro e u4 ⟨rfl,hf4,hp4⟩)
          have HC9:=za (HC8.out.pure hp4);have HT9:=za (HT8.out.trans ((zr.pure hp4).toX (X:=X)));have HQ9:=za (HST.out u3 u4 _ HQ8.out hp4 (fun _ h=>h.elim));have HSZ9:=za (zH HSZ8.out hp4.size);have HW4:=za (zy HW3.out hp4 (fun _ _ h=>h));obtain⟨c4,hc4⟩:=zc u3.heap.size;rw[hc4]at hf4 ⊢;have hnc4 : ∀ j,j≤1 → ¬ b6.D (c4+j):=fun j _ e=>by have:=HC8.out.lt e;omega
          have hlt4:c4+1<u4.heap.size:=zl hf4.b2;have hn2b:n2≤4194304:=by
            have h1:=HN2'.out;have h2:=HR6.out.len;have h3 : ∀(R:List Wt) (n c:Nat),(vA s2.mc s2.mb R n c).length≤R.length:=by
              intro R
              induction R with
              | nil=>intro n c;exact zG _
              | cons x R ih =>
                intro n c;unfold vA;split
                · have:=ih (n-1) (c-x.cost);simp;exact this
                · simp
            have h4:(ui s2 keep).length≤(s2.A++s2.B).length:=zH (h3 _ _ _) (JD keep _);omega
          have HF4:=za hf4;have HNC4:=za hnc4;have HLT4:=za hlt4;have HNB:=za hn2b;clear hf4 hp4 hc4 hnc4 hlt4 hn2b HC8 HT8 HQ8 HW3 HC7 HT7 HQ7;go_upto_region 12 with fail
          go_loopw [87] (fun v87 wr => ∃(k:Nat) (b':CaB),v87=.int .i64 (k:Nat)∧k≤n2∧zo Fo wr b' (yJ 2 s2 ((ui s2 keep).take k))∧zr u4 wr b6 b') (fun v87 _=>n2-(intOf v87).toNat)
          case atStart=>exact⟨0,b6,rfl,yh _,HC9.out,zr.pure (Mod.refl _ _)⟩
          case round =>
            obtain⟨k,b3,rfl,hk,hC,hT⟩:=hrel;have HC3:=za hC;have HT3:=za hT;clear hC hT;by_cases hlt:k<n2
            · have hlt':(k:Int)<(n2:Int):=by omega
              have k0:(0:Int)≤(k:Int):=by omega
              have wk:IntKind.i64.wrap ((k:Int)+1)=(k:Int)+1:=zt _ (by have:=HNB.out;omega);obtain⟨x,hx⟩ : ∃ x,(ui s2 keep)[k]? = some x:=⟨_,zN (by rw[HN2'.out];exact hlt)⟩;have hrd:zn wr (.slice a3 n2 k3) 1 (zU (ui s2 keep)):=by
                have h9:=zn.of_owns (zy HW4.out HT3.out.mod (fun g hg=>HFR.out g (by rw[HN2'.out]at hg;exact hg))) (Xv _);rw[HN2'.out]at h9;exact h9
              obtain⟨ad,had,z0⟩:=K7 hrd hx;subst had;have hl1:=Vu HC3.out (k:=2) (c1:=c4) (c2:=c4+1) (sl:=x) (by rw[HT3.out.p,show b6.p=b.p from HT9.out.p];exact HF4.out.mod HT3.out.mod (HNC4.out 0 (by omega)) (HNC4.out 1 (by omega))) (HT3.out.nd (HNC4.out 0 (by omega)) (by have:=HLT4.out;omega)) (HT3.out.nd (HNC4.out 1 (by omega)) HLT4.out) (HR6.out.lv.at_ hx);rw[← Kk hx]at hl1;have HL1':=za hl1;clear hx hrd hl1
              go_wp2_with (go_at_call 165;refine zm HL1'.out ?_;rintro e w5 ⟨rfl,b5,C5,T5⟩)
              go_roundw
              case rel=>exact⟨k+1,b5,by first | rfl | simp,hlt,C5,HT3.out.trans T5⟩
              case measure=>simp[intOf];omega
            · have hlt' : ¬ (k:Int)<(n2:Int):=by omega
              obtain rfl:k=n2:=by omega
              have hC3:=HC3.out;rw[kM (by rw[HN2'.out];exact zG _)]at hC3;obtain⟨wE,hwE⟩:=zc wr;obtain⟨bE,hbe⟩:=zc b3;have HCE:Hid (zo Fo wE bE (evS s2 keep)):=za (by rw[← hwE,← hbe];exact hC3);have HTE:Hid (vy X w wE b bE):=za (by rw[← hwE,← hbe];exact HT9.out.trans (HT3.out.toX (X:=X)));have HQE:Hid (R wE):=za (by rw[← hwE];exact HST.out _ _ _ HQ9.out HT3.out.mod (fun _ e => .inl e));have HGE:Hid (∀ k,bE.D k→b6.D k∨w6.heap.size≤k):=za (by rw[← hbe];exact fun k e=>(HT3.out.grew k e).imp (fun e=>e) (fun e=>zH HSZ9.out e));rw[hwE];clear hC3 hbe HC3 HT3 HC9 HT9 HQ9;exact Az2wk
      · have hno : ¬ (s2.mc<(s2.A++s2.B).length∨s2.mb<zv (s2.A++s2.B)):=fun e=>hov (HOV.out.2 e)
        have hvl:ui s2 keep=[]:=by
          unfold ui vX;by_cases e0:vA s2.mc s2.mb (kN keep (s2.A++s2.B)) (s2.A++s2.B).length (zv (s2.A++s2.B))=[]
          · exact e0
          · exact zlG hno
        have hev:evS s2 keep=s2:=by unfold evS;rw[hvl];rfl
        have g1 : ¬ 0<vN:=fun e=>hov (.inl e)
        have g2 : ¬ 0<vC:=fun e=>hov (.inr e)
        obtain⟨wE,hwE⟩:=zc w7;obtain⟨bE,hbe⟩:=zc b6;have HCE:Hid (zo Fo wE bE (evS s2 keep)):=za (by rw[hev,← hwE,← hbe];exact HC7.out);have HTE:Hid (vy X w wE b bE):=za (by rw[← hwE,← hbe];exact HT7.out);have HQE:Hid (R wE):=za (by rw[← hwE];exact HQ7.out);have HGE:Hid (∀ k,bE.D k→b6.D k∨w6.heap.size≤k):=za (by rw[← hbe];exact fun k e => .inl e);rw[hwE];clear hbe HC7 HT7 HQ7 hno hvl hev hov;exact Az2wk
end
end
end Go.Proofs.YtpplkcnknabofaaGreatDoor
