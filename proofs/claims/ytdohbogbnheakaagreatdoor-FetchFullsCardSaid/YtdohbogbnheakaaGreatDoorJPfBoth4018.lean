/- Lemmas and contracts of functions. No condition. -/
import Derived.Test.YtdohbogbnheakaaGreatDoorJPfBoth4016
import Derived.Test.YtdohbogbnheakaaGreatDoorJPfBoth409
import Derived.Test.YtdohbogbnheakaaGreatDoorJPfBoth4012
import Derived.Test.YtdohbogbnheakaaGreatDoorJPfBoth4017
namespace Go.Proofs.YtdohbogbnheakaaGreatDoor
open _root_.Go.Proofs.Tryz
set_option maxRecDepth 100000
set_option maxHeartbeats 20000000
set_option linter.all false
section
open Go.RowKit
section
variable{w w':World}{D:Nat→Prop}{p now tt:Nat}{ws:List Nat}{bm bb:Nat}{Ds:Nat→Nat→Prop}{Dm Db:DataW Unit}{M L:List Td}{Lss:List (List (List Nat))}
structure AvI(w wr:World)(D:Nat→Prop)(p tt:Nat)(L:List Td)(mv:List Nat)(a c)(ad:Option Addr)(cd:Nat)(Mj dj:List Td)(D':Nat→Prop)(j:Nat):Prop where
 mem : ∃ ws bm bb Ds Dm Db Lss,yu wr D' p tt ws bm bb Ds Dm Db Mj Lss∧jM tt L (mv.drop j) Mj dj Lss
 grew:yo D D' w
 row:yw wr a c mv
 off : ∀ g,(Value.slice a mv.length c).ownBlock=some g → ¬ D' g
 due:qj wr ad cd dj
 fresh : ∀ g,(Value.slice ad dj.length cd).ownBlock=some g → ¬ D' g∧w.heap.size≤g
 mod:Mod D w wr
theorem yt.adv(h:yt w D p now L)(hT:xA w)(h0 : ¬ D 0)(hn:now<tt)(ht:tt<18446744073709551616) :
    Calls prog 199 #[lkP p,.int .u64 tt] w fun e w' => ∃ a c,e=.returned (.tuple #[.slice a (YL tt L).length c,.int .i64 0])∧qj w' a c (YL tt L)∧(∃ D',yt w' D' p tt (Kk tt L)∧yo D D' w ∧ ∀ g,(Value.slice a (YL tt L).length c).ownBlock=some g → ¬ D' g∧w.heap.size≤g)∧Mod D w w':=by
  obtain⟨ws,bm,bb,Ds,Dm,Db,Lss,h1,h2,h3⟩:=h;have hnow:=h1.box.now;have hl8:lvl now tt<8:=(kh hnow ht).1;have hbk:bkt now tt<256:=Y6;obtain⟨Lt,hLt⟩ : ∃ Lt,Lss[lvl now tt]? = some Lt:=⟨_,zL (by rw[h2.len];exact hl8)⟩;have hA:=h2.adv hn ht hLt;have hle:=h2.moved_le (n:=bkt now tt+1) hLt;have HCk:=za (Y1 h1.box (s:=0) (by omega));have HPl:=za (UL h1.box ht (by omega:tt≠now));obtain⟨c0,c9,c10,cf,cl⟩:=h1.box.cells;have hSet:=fun(W:World) (hW:zc w W)=>(h1.pure hW).setNow ht
  have hDlt : ∀ k,D k→k<w.heap.size:=fun k hk=>h1.lt hk
  have hpD:D p:=(h1.dd p).2 (.inl rfl);have hEm:=fun(W:World) (k m:Nat) (Ls:List (List Nat)) (hk:k<8) (hm:m<256) (hL:Lss[k]? = some Ls) (hM:yu W D p tt ws bm bb Ds Dm Db L (uq Lss k)) (hW:Mod D w W) (hb:(xZ Ls (m+1)).length≤4194304) =>
    zdz hM (hT.mod hW h0) h0 hm hk ((XL (zI k)).trans hL) hb
  have HEm:=za hEm;have HSet:=za hSet;have HDlt:=za hDlt;have HA:=za hA;have HLE:=za hle;have HP2:=za h2;have HS:=za h3;have HpD:=za hpD;have HLt:=za hLt;clear h1 h2 h3 hEm hSet hDlt hA hle hT h0 hpD hLt;obtain⟨tp,htp⟩:=zf (lvl now tt);obtain⟨dg,hdg⟩:=zf (bkt now tt);rw[htp]at hl8 HPl HA HLE HLt;rw[hdg]at hbk HPl HA HLE;clear htp hdg;have lt1 : ¬ (tt:Int)<(now:Int):=by omega
  have eq1:((tt:Int)==(now:Int))=false:=by simp;omega
  obtain⟨i0,hi,iz0,iz1,iz2⟩:=xG qt;go_enter func199,ntmps199;go_upto_region 8 with(first
    | (go_at_call 198;refine HCk.out.mono ?_;rintro e w' ⟨rfl,rfl⟩)
    | (go_at_call 256;refine HPl.out.mono ?_;rintro e w1 ⟨rfl,hp1⟩))
  obtain⟨hC1,hm1⟩:=HSet.out w1 hp1;have hm1':Mod D w (w1.setCell ⟨p,0,none⟩ (.int .u64 tt)):=(Mod.of_pure hp1).then hm1 (fun k _ e=>by rw[e];exact HpD.out);have hcp:=hp1.cell (a:=⟨p,0,none⟩) (fun h=>h) c0;have hfp : ∀ i,w1.frozen? ⟨p,i,none⟩=false:=fun i=>by rw[hp1.cells.2 p i cl];exact cf i
  have HC1:=za hC1;have HM1:=za hm1';clear hm1 hm1' hC1 c0 c9 c10 cf HCk HPl;go_upto_region 11 with fail
  generalize w1.setCell ⟨p,0,none⟩ (.int .u64 tt)=W1 at *;clear hcp hfp hp1 HSet;have tp0:(0:Int)≤(tp:Int):=by omega
  go_loopw [8,43] (fun v8 v43 wr => ∃(k:Nat) (a:Option Addr) (c:Nat),v43=.int .i64 (k:Nat)∧k≤tp∧v8=.slice a (x8 Lss k).length c∧yw wr a c (x8 Lss k)∧xp w (.slice a (x8 Lss k).length c)∧yu wr D p tt ws bm bb Ds Dm Db L (uq Lss k)∧Mod D w wr) (fun _ v43 _=>8-(intOf v43).toNat)
  case atStart=>exact⟨0,none,0,rfl,yi _,rfl,vJ _ _ _ _,(fun g hg=>by cases hg),HC1.out,HM1.out⟩
  case round =>
    obtain⟨k,a,c,rfl,hk,rfl,hr,hf,hC,hm⟩:=hrel;have HR:=za hr;have HF:=za hf;have HC:=za hC;have HM:=za hm;clear hr hf hC hm;by_cases hlt:k<tp
    · have hlt':(k:Int)<(tp:Int):=by omega
      have k0:(0:Int)≤(k:Int):=by omega
      have wk:IntKind.i64.wrap ((k:Int)+1)=(k:Int)+1:=zt _ (by omega);obtain⟨Ls,hL⟩ : ∃ Ls,Lss[k]? = some Ls:=⟨_,zL (by rw[HP2.out.len];omega)⟩;have hw:=HP2.out.wide k Ls hL;have hmv:=HP2.out.moved_le (n:=256) hL;rw[zV,JP hw]at hmv;have he:=HEm.out wr k 255 Ls (by omega) (by omega) hL HC.out HM.out (by rw[JP hw];omega);rw[JP hw,zjo hw,← zfR hL]at he;have hsucc:=zgy hL;obtain⟨nl,hnl⟩:=zf Ls.flatten.length;obtain⟨no,hno⟩:=zf ((x8 Lss k).length);rw[hnl]at he hmv;rw[hno]at hmv ⊢;have hns:(x8 Lss (k+1)).length=no+nl:=by rw[hsucc,zV,hnl,hno]
      have HE:=za he;have HSU:=za hsucc;have HNL:=za hnl;have HNO:=za hno;have HNS:=za hns;clear hL hw he hsucc hnl hno hns;go_upto_region 14 with(first
        | (go_at_call 257;refine HE.out.mono ?_;rintro e w2 ⟨a2,c2,rfl,hr2,hf2,hC2,hm2⟩
           have hro:w2.ownsRow 0 143 1 (.slice a no c) no (zX (x8 Lss k)):=(by have:=HR.out;unfold yw at this;rw[HNO.out]at this;exact zy this hm2 (fun g hg hk=>by have:=HF.out g (by rw[HNO.out];exact hg);have:=HDlt.out g hk;omega));have hrd:zo w2 (.slice a2 nl c2) 1 (zX Ls.flatten):=(by have:=qB hr2;rw[HNL.out]at this;exact this);have HRO:=za hro;have HRD:=za hrd;have HC2:=za hC2;have HM2:=za (HM.out.trans hm2);clear hr2 hf2 hC2 hm2 hro hrd)
        | (at_builtin;refine uK _ rfl _ _ 213 rfl 143 i0 _ 1 4 underlying213 hi iz0 iz1 iz2 rfl (by decide) (.slice a no c) no _ rfl HRO.out _ (zX Ls.flatten) nl rfl HRD.out (by rw[qq,HNL.out,jW]) (by unfold maxLen;omega) (by omega) ?_;intro a7 c7 w5 hr7 hg7 hb7))
      have hmg:Mod (fun k=>(Value.slice a no c).ownBlock=some k) w2 w5:=Mod.of_grown (S:=fun k'=>(Value.slice a no c).ownBlock=some k') hg7 (fun k e _=>e);have hfa : ∀ k',(Value.slice a no c).ownBlock=some k'→w.heap.size≤k':=fun k' e=>HF.out k' (by rw[HNO.out];exact e)
      have hC5:=HC2.out.frame hmg (fun k hk e=>by have:=hfa k e;have:=HDlt.out k hk;omega);have hm5:Mod D w w5:=HM2.out.then hmg (fun k hk e=>by have:=hfa k e;omega);have hf5:xp w (.slice a7 (no+nl) c7):=fun k hk=>by
        rcases hb7 with e | e
        · exact hfa k (e ▸ hk)
        · rw[e]at hk;cases hk;exact HM2.out.size
      have HC5:=za hC5;have HM5:=za hm5;have HF5:=za hf5;have HR7:=za hr7;clear hr7 hg7 hb7 hmg hfa hC5 hm5 hf5;go_wp2;go_roundw
      case rel=>exact⟨k+1,a7,c7,by go_num,hlt,by rw[HNS.out],by unfold yw;rw[HNS.out,HSU.out,qS];exact HR7.out,by rw[HNS.out];exact HF5.out,HC5.out,HM5.out⟩
      case measure=>simp[intOf];omega
    · have e:k=tp:=by omega
      subst e;have hw:=HP2.out.wide k Lt HLt.out;have hmv:=HLE.out;rw[zV]at hmv;have he:=HEm.out wr k dg Lt (by omega) hbk HLt.out HC.out HM.out (by omega);have hleft:(uq Lss k).set k (kg Lt (dg+1))=qC Lss Lt k (dg+1):=rfl;rw[hleft]at he;obtain⟨nl,hnl⟩:=zf ((xZ Lt (dg+1)).length);obtain⟨no,hno⟩:=zf ((x8 Lss k).length);rw[hnl]at he hmv;rw[hno]at hmv ⊢;obtain⟨mv,hmvq⟩:=zf (x8 Lss k++xZ Lt (dg+1));have hns:mv.length=no+nl:=by rw[← hmvq,zV,hnl,hno]
      have hA:=HA.out;rw[hmvq]at hA;have HE:=za he;have HNL:=za hnl;have HNO:=za hno;have HNS:=za hns;have HMV:=za hmvq;have HA2:=za hA;clear hw he hnl hno hns hmvq hleft hA HA HLE HLt HEm;go_upto_region 18 with(first
        | (go_at_call 257;refine HE.out.mono ?_;rintro e w2 ⟨a2,c2,rfl,hr2,hf2,hC2,hm2⟩
           have hro:w2.ownsRow 0 143 1 (.slice a no c) no (zX (x8 Lss k)):=(by have:=HR.out;unfold yw at this;rw[HNO.out]at this;exact zy this hm2 (fun g hg hk=>by have:=HF.out g (by rw[HNO.out];exact hg);have:=HDlt.out g hk;omega));have hrd:zo w2 (.slice a2 nl c2) 1 (zX (xZ Lt (dg+1))):=(by have:=qB hr2;rw[HNL.out]at this;exact this);have HRO:=za hro;have HRD:=za hrd;have HC2:=za hC2;have HM2:=za (HM.out.trans hm2);clear hr2 hf2 hC2 hm2 hro hrd)
        | (at_builtin;refine uK _ rfl _ _ 213 rfl 143 i0 _ 1 4 underlying213 hi iz0 iz1 iz2 rfl (by decide) (.slice a no c) no _ rfl HRO.out _ (zX (xZ Lt (dg+1))) nl rfl HRD.out (by rw[qq,HNL.out,jW]) (by unfold maxLen;omega) (by omega) ?_;intro a7 c7 w5 hr7 hg7 hb7
           have hmg:Mod (fun k=>(Value.slice a no c).ownBlock=some k) w2 w5:=Mod.of_grown (S:=fun k'=>(Value.slice a no c).ownBlock=some k') hg7 (fun k e _=>e);have hfa : ∀ k',(Value.slice a no c).ownBlock=some k'→w.heap.size≤k':=fun k' e=>HF.out k' (by rw[HNO.out];exact e)
           have hC5:=HC2.out.frame hmg (fun k hk e=>by have:=hfa k e;have:=HDlt.out k hk;omega);have hm5:Mod D w w5:=HM2.out.then hmg (fun k hk e=>by have:=hfa k e;omega);have hf5:xp w (.slice a7 (no+nl) c7):=fun k hk=>(by
             rcases hb7 with e | e
             · exact hfa k (e ▸ hk)
             · rw[e]at hk;cases hk;exact HM2.out.size)
           have hI5:AvI w w5 D p tt L mv a7 c7 none 0 L [] D 0:=⟨⟨_,_,_,_,_,_,_,hC5,HA2.out⟩,yo.refl _ _,(by unfold yw;rw[HNS.out,← HMV.out,qS];exact hr7),(by rw[HNS.out];exact fun g hg hk=>by have:=hf5 g hg;have:=HDlt.out g hk;omega),vJ _ _ _ _,(fun g hg=>by cases hg),hm5⟩;have HI5:=za hI5;clear hr7 hg7 hb7 hmg hfa hC5 hm5 hf5 hI5))
      have hn63:no+nl≤4194304:=hmv;clear HRO HRD HC2 HM2 HE HNL HNO HMV HA2 HR HF HC HM hmv;obtain⟨n,hnn⟩:=zf (no+nl);rw[hnn]at HNS hn63;have wnn:(no:Int)+(nl:Int)=(n:Int):=by omega
      simp only[hnn,wnn]at *;clear hnn wnn;obtain⟨j0,hj,jz0,jz1,jz2⟩:=xG zjH;go_loopw [10,60] (fun v10 v60 wr => ∃(j:Nat) (ad:Option Addr) (cd:Nat) (Mj dj:List Td) (D':Nat→Prop),v60=.int .i64 (j:Nat)∧j≤n∧v10=.slice ad dj.length cd∧AvI w wr D p tt L mv a7 c7 ad cd Mj dj D' j) (fun _ v60 _=>n-(intOf v60).toNat)
      case atStart=>exact⟨0,none,0,L,[],D,rfl,yi _,rfl,HI5.out⟩
      case round =>
        obtain⟨j,ad,cd,Mj,dj,D',rfl,hjn,rfl,hI⟩:=hrel;have HI:=za hI;obtain⟨ws',bm',bb',Ds',Dm',Db',Lss',hC,hAv⟩:=hI.mem;by_cases hlt2:j<n
        · have hlt':(j:Int)<(n:Int):=by omega
          have j0':(0:Int)≤(j:Int):=by omega
          have wj:IntKind.i64.wrap ((j:Int)+1)=(j:Int)+1:=zt _ (by omega);obtain⟨s,hs⟩ : ∃ s,mv[j]? = some s:=⟨_,zL (by rw[HNS.out];exact hlt2)⟩;have hdr:mv.drop j=s::mv.drop (j+1):=by
            have hjl:j<mv.length:=by rw[HNS.out];exact hlt2
            rw[jQ hjl];rw[zL hjl]at hs;injection hs with hs
            rw[hs]
          obtain⟨ad0,had,z0⟩:=VC (qB hI.row) hs;rw[hdr]at hAv;obtain⟨x,hx,hxs⟩:=hAv.has s yE;subst had;obtain⟨r1,r2,r3,r4⟩:=hAv.inv.rng x hx;subst hxs;have hlk:=hC.what.look1 hx (by omega);unfold tdV at hlk;have hdu:=zjN x.dl tt r2;have HDU:=za hdu;obtain⟨c0,c9,c10,cf,cl⟩:=hC.box.cells;have hal:zc wr (wr.alloc (.cells #[.int .u32 x.slot,.int .u64 x.dl,.int .u64 x.birth] 236)):=(Mod.refl _ wr).alloc _;have h13:=zj (w:=wr) (o := .cells #[.int .u32 x.slot,.int .u64 x.dl,.int .u64 x.birth] 236 (0,0)) rfl;have HX:=za hx;have HAv:=za hAv;have HCm:=za hC;have HDR:=za hdr;have HAL:=za hal;have hDl : ∀ k,D' k→k<wr.heap.size:=fun k hk=>hC.lt hk
          have HDL:=za hDl;have hmvw : ∀ g,(Value.slice (some ad0) mv.length c7).ownBlock=some g→g<wr.heap.size:=fun g hg=>vY HI.out.row hg
          have hduw : ∀ g,(Value.slice ad dj.length cd).ownBlock=some g→g<wr.heap.size:=fun g hg=>vY HI.out.due hg
          have HMVW:=za hmvw;have HDUW:=za hduw;clear hx hAv hC hdr hal hI hDl hmvw hduw;go_upto_region 21 with fail
          generalize wr.alloc (.cells #[.int .u32 x.slot,.int .u64 x.dl,.int .u64 x.birth] 236)=W3 at *;obtain⟨b13,hb13⟩:=zf wr.heap.size;rw[hb13]at h13 HDL HMVW HDUW ⊢;have HB13:=za hb13;have H13:=za h13;clear hlk c0 c9 c10 cf cl z0 hb13 hs;obtain⟨h13_0,h13_1,h13_2,h13_f,h13_l,H_h13⟩:=cr3 h13;clear h13;by_cases hd:x.dl≤tt
          · simp only[decide_eq_true hd]at HDU
            have hp:=ziW HAv.out.inv HX.out;obtain⟨M2,hM2⟩:=zf (Mj.filter (fun y=>y.slot != x.slot));rw[hM2]at hp;obtain⟨_,q1,q2,_,q4⟩:=HAv.out.inv.without hp;have hgo:=HAv.out.go rfl hd hp;have hfo:=fun(W:World) (hW:zc W3 W)=>zc5 ((HCm.out.pure HAL.out).pure hW) HX.out (by omega) r4 q1 q2 q4
            unfold tdV at hfo;have hdl:dj.length+1≤4194304:=by
              have e1:=hgo.perm.length_eq;have e2:=HP2.out.count;simp at e1;omega
            obtain⟨nd,hnd⟩:=zf dj.length;rw[hnd]at hdl ⊢;have HND:=za hnd;have HFo:=za hfo;have HGo:=za hgo;have hbmD:D' bm'∧D' bb':=⟨(HCm.out.dd bm').2 (.inr (.inl rfl)),(HCm.out.dd bb').2 (.inr (.inr (.inl rfl)))⟩;have HBD:=za hbmD;clear hp hM2 q1 q2 q4 hgo hfo hbmD hnd;go_upto_region 24 with(first
              | (go_at_call 92;refine(HDU.out _).mono ?_;rintro e w' ⟨rfl,rfl⟩)
              | (go_at_call 259;refine zq (HFo.out _ (by first | exact Mod.refl _ _ | exact(Mod.refl _ _).drew)) ?_;rintro e w5 ⟨rfl,⟨Dm2,Db2,hC2⟩,hm2⟩))
            have hm5:Mod (fun k=>k=bm'∨k=bb') W3 w5:=by first | exact hm2 | exact Mod.of_drew hm2
            have h5D:Mod D' W3 w5:=hm5.mono (fun k _ e=>by rcases e with rfl | rfl;exact HBD.out.1;exact HBD.out.2);have h135:=h5D.heap (fun e=>by have:=HDL.out b13 e;omega) H13.out;have hmw:Mod D' wr w5:=(Mod.of_pure HAL.out).trans h5D;have hrow5:=zy HI.out.row hmw HI.out.off;have hdue5:=zy HI.out.due hmw (fun g hg=>(HI.out.fresh g hg).1);rw[HND.out]at hdue5;have HR5:=za hrow5;have HD5:=za hdue5;have HMW:=za hmw;have HC2:=za hC2;have H135:=za h135;clear h13_0 h13_1 h13_2 h13_f h13_l;clear H_h13 hm2 hm5 h5D hmw hrow5 hdue5 hC2;obtain⟨h135_0,h135_1,h135_2,h135_f,h135_l,H_h135⟩:=cr3 h135;clear h135;go_upto_region 25 with(at_builtin;refine uK _ rfl _ _ 233 rfl 236 j0 _ 3 24 underlying233 hj jz0 jz1 jz2 rfl (by decide) (.slice ad nd cd) nd _ rfl (zy HD5.out ((Mod.refl (fun _=>False) w5).alloc _) (fun _ _ h=>h)) _ [.int .u32 x.slot,.int .u64 x.dl,.int .u64 x.birth] 1 rfl (zo.of_block 1 1 3 (zj rfl) (by rfl) (by simp[Value.oneCell'])) rfl (by unfold maxLen;omega) (by omega) ?_;intro a8 c8 w6 hr8 hg8 hb8)
            have hmg:Mod (fun k=>(Value.slice ad nd cd).ownBlock=some k) w5 w6:=((Mod.refl _ w5).alloc _).then (Mod.of_grown (S:=fun k'=>(Value.slice ad nd cd).ownBlock=some k') hg8 (fun k e _=>e)) (fun _ _ h=>h);have hfr:=HI.out.fresh;rw[HND.out]at hfr;have hsz5:=HMW.out.size;have hszw:=HI.out.mod.size;have hal5:w5.heap.size<(w5.alloc (.cells #[.int .u32 x.slot,.int .u64 x.dl,.int .u64 x.birth] 236)).heap.size:=by simp
            have hI6:AvI w w6 D p tt L mv (some ad0) c7 a8 c8 M2 (dj++[x]) D' (j+1):=⟨⟨_,_,_,_,_,_,_,HC2.out.frame hmg (fun k hk e=>(hfr k e).1 hk),HGo.out⟩,HI.out.grew,
              zy HR5.out hmg (fun g hg e=>zjh HR5.out HD5.out (by decide) hg e),HI.out.off,
              (by
                show World.ownsRow _ 0 _ 3 (.slice a8 (dj++[x]).length c8) (dj++[x]).length ((dj++[x]).flatMap tdC)
                rw[zV,HND.out,ZL];exact hr8),fun g hg=>(by
                rw[zV,HND.out]at hg;rcases hb8 with e | e
                · exact hfr g (e ▸ hg)
                · have hg':(Value.slice a8 (nd+1) c8).ownBlock=some g:=hg
                  rw[e]at hg'
                  cases hg'
                  refine⟨fun hk => ?_,by omega⟩;have:=HDL.out _ hk;have:=HB13.out;omega),
              (HI.out.mod.trans' HMW.out (fun _ _ h=>h) (fun k hk h=>(by
                rcases HI.out.grew k h with e | e
                · exact e
                · omega))).then hmg (fun k hk e=>by have:=(hfr k e).2;omega)⟩
            have hnx:(dj++[x]).length=nd+1:=by rw[zV,HND.out];rfl
            have HI6:=za hI6;have HNX:=za hnx;clear hr8 hg8 hb8 hmg hfr hsz5 hszw hI6 hnx hal5;go_wp2;go_roundw
            case rel=>exact⟨j+1,a8,c8,M2,dj++[x],D',by go_num,hlt2,by rw[HNX.out],HI6.out⟩
            case measure=>simp[intOf];omega
          · simp only[decide_eq_false hd]at HDU
            obtain⟨Ls,B,hL,hK⟩:=HAv.out.inv.get (kh ht (dl:=x.dl) (by omega)).1 (Y6 (now:=tt) (dl:=x.dl));have hst:=HAv.out.stay HX.out rfl (by omega) hL hK;have hpu:=fun(W:World) (hW:zc W3 W)=>Qy ((HCm.out.pure HAL.out).pure hW) (x:=x) (M':=Mj) r1 (by omega) r4 (by omega) (by have:=HAv.out.inv.count;unfold maxLen;omega) hL hK (HAv.out.inv.notL (fun y hy e=>yE) hL) (.inr ⟨HX.out,fun y hy e=>HAv.out.inv.slots y hy x HX.out e,rfl⟩)
            unfold tdV at hpu;have HPu:=za hpu;have HSt:=za hst;clear hL hK hst hpu;go_upto_region 25 with(first
              | (go_at_call 92;refine(HDU.out _).mono ?_;rintro e w' ⟨rfl,rfl⟩)
              | (go_at_call 258;refine zq (HPu.out _ (by first | exact Mod.refl _ _ | exact(Mod.refl _ _).drew)) ?_;rintro e w5 ⟨rfl,⟨D2,Ds2,Dm2,Db2,hC2,hg2⟩,hm2⟩))
            have hm5:Mod D' W3 w5:=by first | exact hm2 | exact Mod.of_drew hm2
            have hg5 : ∀ k,D2 k→D' k∨b13≤k:=fun k hk=>by
              have e1:=HAL.out.size;have e2:=HB13.out;rcases hg2 k hk with e | e
              · exact .inl e
              · have e':W3.heap.size≤k:=e
                exact .inr (by omega)
            have hmw:Mod D' wr w5:=(Mod.of_pure HAL.out).trans hm5;have hszw:=HI.out.mod.size;have hI5:AvI w w5 D p tt L mv (some ad0) c7 ad cd Mj dj D2 (j+1):=⟨⟨_,_,_,_,_,_,_,hC2,HSt.out⟩,fun k hk=>(by
                rcases hg5 k hk with e | e
                · exact HI.out.grew k e
                · have:=HB13.out;exact .inr (by omega)),
              zy HI.out.row hmw HI.out.off,fun g hg hk=>(by
                rcases hg5 g hk with e | e
                · exact HI.out.off g hg e
                · have:=HMVW.out g hg;omega),
              zy HI.out.due hmw (fun g hg=>(HI.out.fresh g hg).1),fun g hg=>⟨fun hk=>(by
                rcases hg5 g hk with e | e
                · exact(HI.out.fresh g hg).1 e
                · have:=HDUW.out g hg;omega),(HI.out.fresh g hg).2⟩,
              HI.out.mod.trans' hmw (fun _ _ h=>h) (fun k hk h=>(by
                rcases HI.out.grew k h with e | e
                · exact e
                · omega))⟩
            have HI5b:=za hI5;clear hm2 hg2 hC2 hm5 hg5 hmw hszw hI5;go_wp2;go_roundw
            case rel=>exact⟨j+1,ad,cd,Mj,dj,D2,by go_num,hlt2,rfl,HI5b.out⟩
            case measure=>simp[intOf];omega
        · have e:j=n:=by omega
          subst e;have hd0:mv.drop j=[]:=Zw (by rw[HNS.out];exact zI _);rw[hd0]at hAv;obtain⟨hinv,hrest⟩:=hAv.fin;obtain⟨e1,e2⟩:=zkT HS.out hAv.perm hAv.due hrest;have hLm : ∀ x∈dj,x∈L:=fun x hx=>hAv.perm.mem_iff.1 (xM _ hx)
          have hso:=zeX hI.due (by have:=hAv.perm.length_eq;have:=HP2.out.count;simp at *;omega) (fun x hx y hy e=>HP2.out.births x (hLm x hx) y (hLm y hy) e) (by
            have:=hAv.perm.nodup_iff.2 HP2.out.ndM;rw[xD]at this;exact this.2.1)
          have HSo:=za hso;have HCm:=za hC;have HInv:=za hinv;have HE1:=za e1;have HE2:=za e2;clear hI hC hAv hd0 hinv hrest e1 e2 hLm hso
          go_wp2_with (go_at_call 260;refine HSo.out.mono ?_;rintro e w9 ⟨rfl,d',s1,s2,s3,hr9,hm9⟩)
          have hdq:d'=YL tt L:=Z6 s1 (HS.out.sublist (Um _)) (s2.trans HE1.out);rw[hdq]at hr9 s3;have hmD:Mod D w w9:=HI.out.mod.then hm9 (fun k hk e=>by have:=(HI.out.fresh k e).2;omega);refine zN (v := .tuple #[.slice ad dj.length cd,.int .i64 0]) (by simp[results,results199,go_sem]) rfl ⟨ad,cd,by rw[s3],hr9,⟨D',⟨_,_,_,_,_,_,_,(HCm.out.frame hm9 (fun k hk e=>(HI.out.fresh k e).1 hk)).perm HE2.out,HInv.out.perm HE2.out,HS.out.sublist (List.dropWhile_sublist _)⟩,HI.out.grew,fun g hg=>HI.out.fresh g (by rw[← s3];exact hg)⟩,hmD⟩
end
def Kw(L:List Td):Nat:=match L with
 | []=>18446744073709551615
 | x::_=>x.dl
theorem zll{w:World}{A:Array Value}{i q:Nat}(hi:i<8)(h:A[i]? = some (lkP q)):(Instr.index 297 (.agg A) (.int .i64 i)).run prog w=.ok (lkP q) w:=by
 have h0:(0:Int)≤(i:Int):=by omega
 have h8:(i:Int)<8:=by omega
 have e1:=underlying297;have e2:=isAgg296 w;have e3:=sizeOf296 w;simp[Instr.index,run_underlying e1,asIntOf,part,h0,h8,e2,e3,h,go_sem];intro c;omega
theorem zlG(a b c:Value)(w:World):(Instr.field 236 (.agg #[a,b,c]) 1).run prog w=.ok b w:=by kernel_rfl
section
variable{w w':World}{D:Nat→Prop}{p now tt:Nat}{ws:List Nat}{bm bb:Nat}{Ds:Nat→Nat→Prop}{Dm Db:DataW Unit}{M L:List Td}{Lss:List (List (List Nat))}{P:Nat→Prop}
theorem zfF{a b:Nat}(hn:now<18446744073709551616)(ha:a<18446744073709551616)(hb:b<18446744073709551616)(h2:now<b)(h:lvl now a<lvl now b):a<b:=by
 obtain⟨a1,a2,a3⟩:=kh hn ha;have hd:=zaS hn hb h2;have:=Uf a2 (show lvl now a+1≤lvl now b by omega);exact Qk (m:=256 ^ lvl now b) (by rw[this];exact hd)
theorem zd9{a b:Nat}(hn:now<18446744073709551616)(ha:a<18446744073709551616)(hb:b<18446744073709551616)(e:lvl now a=lvl now b)(h:bkt now a<bkt now b):a<b:=by
 obtain⟨a1,a2,a3⟩:=kh hn ha;obtain⟨b1,b2,b3⟩:=kh hn hb;unfold bkt at h;rw[← e]at h b2;have e2:a/256 ^ (lvl now a+1)=b/256 ^ (lvl now a+1):=a2.trans b2.symm;rw[Zn,← Zy,← Zy]at e2;exact Qk (m:=256 ^ lvl now a) (by omega)
theorem zlF(h:ye now L (fun _=>False) Lss)(hn:now<18446744073709551616)(hs:L.Pairwise bef){l b s:Nat}(h1:xh Lss l b s)(h2 : ∀ b' s',b'<b → ¬ xh Lss l b' s')(h3 : ∀ l' b' s',l'<l → ¬ xh Lss l' b' s') :
  ∃ z L',L=z::L'∧xh Lss l b z.slot ∧ ∀ y∈L,z.dl≤y.dl:=by
 obtain⟨_,x,hx,e1,e2,e3⟩:=(h.at_ _ _ _).1 h1
 cases L with
 | nil=>cases hx
 | cons z L' =>
  have hz : ∀ y∈z::L',z.dl≤y.dl:=fun y hy=>by
   rcases zO.1 hy with rfl | hy
   ·exact zI _
   ·have:=(kp.1 hs).1 y hy;unfold bef at this;omega
  have hzm:z∈z::L':=yE;have hzi:xh Lss (lvl now z.dl) (bkt now z.dl) z.slot:=(h.at_ _ _ _).2 ⟨(fun c=>c),z,hzm,rfl,rfl,rfl⟩;have hzx:=hz x hx;obtain⟨r1,r2,r3⟩:=h.rng x hx;obtain⟨t1,t2,t3⟩:=h.rng z hzm;have hza:=h.after z hzm (fun c=>c);have hl : ¬ lvl now z.dl<l:=fun c=>h3 _ _ _ c hzi
  have hl2 : ¬ l<lvl now z.dl:=fun c=>by
   rw[← e2]at c;have:=zfF hn (a:=x.dl) (b:=z.dl) (by omega) (by omega) hza c;omega
  have el:lvl now z.dl=l:=by omega
  rw[el]at hzi;have hb : ¬ bkt now z.dl<b:=fun c=>h2 _ _ c hzi
  have hb2 : ¬ b<bkt now z.dl:=fun c=>by
   rw[← e3]at c;have:=zd9 hn (a:=x.dl) (b:=z.dl) (by omega) (by omega) (by omega) c;omega
  have eb:bkt now z.dl=b:=by omega
  rw[eb]at hzi;exact⟨z,L',rfl,hzi,hz⟩
theorem eight{ws:List Nat}(h:ws.length=8) : ∃ a b c d e f g i,ws=[a,b,c,d,e,f,g,i]:=by
 match ws,h with
 | [a,b,c,d,e,f,g,i],_=>exact⟨a,b,c,d,e,f,g,i,rfl⟩
end
section
variable{w w':World}{D:Nat→Prop}{p now tt:Nat}{L:List Td}
def Q2(now tt:Nat):Int:=if tt<now then 3 else 0
def Yv(now tt:Nat)(L:List Td):List Td:=if now<tt then YL tt L else[]
def Vz(now tt:Nat):Nat:=if now<tt then tt else now
def Uk(now tt:Nat)(L:List Td):List Td:=if now<tt then Kk tt L else L
theorem yt.advAny(h:yt w D p now L)(hT:xA w)(h0 : ¬ D 0)(ht:tt<18446744073709551616) :
  Calls prog 199 #[lkP p,.int .u64 tt] w fun e w' => ∃ a c,e=.returned (.tuple #[.slice a (Yv now tt L).length c,.int .i64 (Q2 now tt)])∧qj w' a c (Yv now tt L)∧(∃ D',yt w' D' p (Vz now tt) (Uk now tt L)∧yo D D' w ∧ ∀ g,(Value.slice a (Yv now tt L).length c).ownBlock=some g → ¬ D' g∧w.heap.size≤g)∧Mod D w w':=by
 unfold Q2 Yv Vz Uk;by_cases hn:now<tt
 ·rw[zk hn,zk hn,zk hn,zh (by omega)];exact h.adv hT h0 hn ht
 ·rw[zh hn,zh hn,zh hn];refine(h.adv_no (tt:=tt) (by omega)).mono ?_;rintro e w' ⟨rfl,rfl⟩;exact⟨none,0,rfl,vJ _ _ _ _,⟨D,h,yo.refl _ _,fun g hg=>by cases hg⟩,Mod.refl _ _⟩
theorem yt.count(h:yt w D p now L):L.length≤4194304:=by
 obtain⟨ws,bm,bb,Ds,Dm,Db,Lss,h1,h2,h3⟩:=h;exact h2.count
structure qg(w:World)(D:Nat→Prop)(p now:Nat)(L:List Td):Prop where
 at_:yt w D p now L
 tab:xA w
 off : ¬ D 0
theorem qg.frame{S:Nat→Prop}(h:qg w D p now L)(hm:Mod S w w')(hd : ∀ k,D k → ¬ S k)(h0 : ¬ S 0):qg w' D p now L:=⟨h.at_.frame hm hd,h.tab.mod hm h0,h.off⟩
theorem qg.pure(h:qg w D p now L)(hm:zc w w'):qg w' D p now L:=h.frame hm (fun _ _ h=>h) (fun h=>h)
theorem qg.next{D':Nat→Prop}{now':Nat}{L':List Td}(h:qg w D p now L)(hc:yt w' D' p now' L')(hg:yo D D' w)(hm:Mod D w w'):qg w' D' p now' L' :=
 ⟨hc,h.tab.mod hm h.off,fun e=>by
  rcases hg 0 e with e | e
  ·exact h.off e
  ·have:=h.tab.lt;omega⟩
end
end
section
section
variable{M M' L A:List Td}{x y:Td}{s now tt b dl:Nat}
theorem YA(h:M.Pairwise bef):(yr M).Pairwise bef:=h.filter _
theorem Zq:x∈yr M↔x∈M∧x.dl≠18446744073709551615:=by unfold yr;simp
theorem Kn:yr (x::M)=if x.dl≠18446744073709551615 then x::yr M else yr M:=by
 unfold yr;rw[je];simp
theorem zag(h:M.Perm M'):(yr M).Perm (yr M'):=h.filter _
theorem zhF(h:M.Pairwise bef)(hb : ∀ y∈M,y.birth≠x.birth):yr (xQ M x)=if x.dl=18446744073709551615 then yr M else xQ (yr M) x:=by
 have h1:(yr (xQ M x)).Perm (yr (x::M)):=zag qz;have h2:=YA (Xg h hb);rw[Kn]at h1;by_cases e:x.dl=18446744073709551615
 ·rw[zk e];rw[zh (by omega)]at h1;exact Z6 h2 (YA h) h1
 ·rw[zh e];rw[zk e]at h1;exact Z6 h2 (Xg (YA h) (fun y hy=>hb y (Zq.1 hy).1)) (h1.trans qz.symm)
def jT(M:List Td)(s:Nat):List Td:=if xL M s then qO M s else M
theorem zkm(h:M.Pairwise bef)(hu : ∀ x∈M,∀ y∈M,x.slot=y.slot→x=y)(hp:M.Perm (x::M'))(hx:x.slot<4194304)(h':M'.Pairwise bef):vz (yr M) x.slot=yr M':=by
 have hxM:x∈M:=hp.mem_iff.2 yE;have h1:=zag hp;rw[Kn]at h1;have h2:=YA h;have h3:=YA h';by_cases e:x.dl=18446744073709551615
 ·rw[zh (by omega)]at h1;have hn:xL (yr M) x.slot=false:=by
   cases hh:xL (yr M) x.slot with
   | false=>rfl
   | true =>
    obtain⟨y,hy,e2⟩:=uL.1 hh;obtain⟨k1,k2⟩:=Zq.1 hy;rw[hu y k1 x hxM e2]at k2;exact absurd e k2
  unfold vz;rw[Xd hx (Vx hn)];dsimp only;rw[zh (by decide)];exact Z6 h2 h3 h1
 ·rw[zk e]at h1;have hxT:x∈yr M:=Zq.2 ⟨hxM,e⟩;have hh:xL (yr M) x.slot=true:=uL.2 ⟨x,hxT,rfl⟩;obtain⟨z,k1,k2,k3,k4⟩:=V4 (Ub.2 hh);have hz:z=x:=hu z (Zq.1 (yl k1)).1 x hxM k2;subst hz;unfold vz;rw[UH hx k3];dsimp only;rw[zk rfl];have h5:=k4.symm.trans h1;exact Z6 (Yg h2) h3 ((List.perm_cons _).1 h5)
theorem yJ.out(h:yJ now M)(hp:M.Perm (x::M'))(h':M'.Pairwise bef):yJ now M'∧(∀ y,y∈M'↔y∈M∧y.slot≠x.slot)∧(∀ y,y∈M'↔y∈M∧y.birth≠x.birth)∧M'.length+1=M.length:=by
 have hx:x∈M:=hp.mem_iff.2 yE;have hsub : ∀ y∈M',y∈M:=fun y hy=>hp.mem_iff.2 (yH _ hy)
 have hndM:M.Nodup:=h.ord.imp (fun {a b} k e=>by subst e;exact Xi k k);have hnd:=hp.nodup_iff.1 hndM;have hxn:x∉M':=(yO.1 hnd).1;refine⟨⟨h',fun a ha b hb=>h.slots a (hsub a ha) b (hsub b hb),fun a ha b hb=>h.births a (hsub a ha) b (hsub b hb),fun a ha=>h.rng a (hsub a ha)⟩,fun y=>⟨fun hy=>⟨hsub y hy,fun e=>hxn (by rw[← h.slots y (hsub y hy) x hx e];exact hy)⟩,fun⟨hy,hn⟩ => ?_⟩,fun y=>⟨fun hy=>⟨hsub y hy,fun e=>hxn (by rw[← h.births y (hsub y hy) x hx e];exact hy)⟩,fun⟨hy,hn⟩ => ?_⟩,by have:=hp.length_eq;simp at this;omega⟩
 ·rcases zO.1 (hp.mem_iff.1 hy)with rfl | k
  ·exact absurd rfl hn
  ·exact k
 ·rcases zO.1 (hp.mem_iff.1 hy)with rfl | k
  ·exact absurd rfl hn
  ·exact k
theorem yJ.put(h:yJ now M)(h1 : ∀ y∈M,y.slot≠x.slot)(h2 : ∀ y∈M,y.birth≠x.birth)(hr:x.slot<4194304∧(now<x.dl∨x.dl=18446744073709551615)∧x.dl≤18446744073709551615∧0<x.birth∧x.birth≤18446744073709551615):yJ now (xQ M x):=by
 refine⟨Xg h.ord h2,fun a ha b hb e => ?_,fun a ha b hb e => ?_,fun a ha => ?_⟩
 ·rcases ZT.1 ha with k1 | k1<;>rcases ZT.1 hb with k2 | k2
  ·rw[k1,k2]
  ·rw[k1]at e;exact absurd e.symm (h1 b k2)
  ·rw[k2]at e;exact absurd e (h1 a k1)
  ·exact h.slots a k1 b k2 e
 ·rcases ZT.1 ha with k1 | k1<;>rcases ZT.1 hb with k2 | k2
  ·rw[k1,k2]
  ·rw[k1]at e;exact absurd e.symm (h2 b k2)
  ·rw[k2]at e;exact absurd e (h2 a k1)
  ·exact h.births a k1 b k2 e
 ·rcases ZT.1 ha with rfl | ha
  ·exact hr
  ·exact h.rng a ha
def qy(M:List Td)(s b:Nat):Bool:=M.any (fun y=>(y.slot==s) != (y.birth==b))
def kI(now:Nat)(M:List Td)(s dl b:Nat):Int:=if s<4194304∧b≠0 then(if dl≤now∧dl≠18446744073709551615 then 3 else if qy M s b then 11 else 0)else 2
def kN(now:Nat)(M:List Td)(s dl b:Nat):List Td:=if kI now M s dl b=0 then xQ (jT M s) ⟨s,dl,b⟩else M
theorem Xf:qy M s b=true ↔ ∃ y∈M,(y.slot=s∧y.birth≠b)∨(y.slot≠s∧y.birth=b):=by
 unfold qy;rw[List.any_eq_true];constructor
 ·rintro⟨y,hy,e⟩;refine⟨y,hy,?_⟩;by_cases h1:y.slot=s
  ·by_cases h2:y.birth=b
   ·rw[h1,h2]at e;simp at e
   ·exact .inl ⟨h1,h2⟩
  ·by_cases h2:y.birth=b
   ·exact .inr ⟨h1,h2⟩
   ·rw[uY.2 h1,uY.2 h2]at e;cases e
 ·rintro⟨y,hy,e⟩;refine⟨y,hy,?_⟩;rcases e with⟨h1,h2⟩ | ⟨h1,h2⟩
  ·rw[h1,uY.2 h2];simp
  ·rw[h2,uY.2 h1];simp
theorem UV{p:Td→Bool}(hp : ∀ a b,bef a b→p b=true→p a=true) : ∀ {A:List Td},A.Pairwise bef→A.takeWhile p=A.filter p∧A.dropWhile p=A.filter (fun x => !p x)
 | [],_=>⟨rfl,rfl⟩
 | a::A,h=>by
  obtain⟨h1,h2⟩:=kp.1 h;obtain⟨i1,i2⟩:=UV hp h2;by_cases e:p a=true
  ·simp only[List.takeWhile_cons,List.dropWhile_cons,List.filter_cons,e,if_true,i1,i2];simp
  ·have h0 : ∀ y∈A,p y=false:=fun y hy=>by
    cases hy2:p y with
    | false=>rfl
    | true=>exact absurd (hp a y (h1 y hy) hy2) e
   have f1:A.filter p=[]:=YV.2 (fun y hy=>by rw[h0 y hy];decide);have f2:A.filter (fun x => !p x)=A:=ju.2 (fun y hy=>by rw[h0 y hy];rfl);simp only[Bool.not_eq_true]at e;simp[List.takeWhile_cons,List.dropWhile_cons,List.filter_cons,e,f1,f2]
def kZ(tt:Nat)(x:Td):Bool:=decide (x.dl≤tt)&&decide (x.dl≠18446744073709551615)
def ue(tt:Nat)(M:List Td):List Td:=M.takeWhile (kZ tt)
def jd(tt:Nat)(M:List Td):List Td:=M.dropWhile (kZ tt)
theorem zda(ht:tt≤18446744073709551615)(h:M.Pairwise bef):ue tt M=M.filter (kZ tt)∧jd tt M=M.filter (fun x => !kZ tt x):=by
 unfold ue jd;refine UV (fun a b hab h => ?_) h;unfold kZ at *;unfold bef at hab;simp at *;omega
theorem zcI{A:List Td}(h:A.Pairwise bef):A.takeWhile (fun x=>decide (x.dl≤tt))=A.filter (fun x=>decide (x.dl≤tt))∧A.dropWhile (fun x=>decide (x.dl≤tt))=A.filter (fun x => !decide (x.dl≤tt)) :=
 UV (fun a b hab h=>by unfold bef at hab;simp at *;omega) h
theorem yJ.exp(h:yJ now M)(hn:now≤tt)(ht:tt≤18446744073709551615):Yv now tt (yr M)=ue tt M∧Uk now tt (yr M)=yr (jd tt M)∧Vz now tt=tt∧yJ tt (jd tt M):=by
 obtain⟨e1,e2⟩:=zda ht h.ord;have hs:=YA h.ord;have hD:yJ tt (jd tt M):=by
  have hsub : ∀ y∈jd tt M,y∈M:=fun y hy=>(List.dropWhile_sublist _).subset hy
  refine⟨h.ord.sublist (List.dropWhile_sublist _),fun a ha b hb=>h.slots a (hsub a ha) b (hsub b hb),fun a ha b hb=>h.births a (hsub a ha) b (hsub b hb),fun a ha => ?_⟩;obtain⟨r1,r2,r3,r4,r5⟩:=h.rng a (hsub a ha);rw[e2]at ha;have:=(qT.1 ha).2;unfold kZ at this;simp at this;exact⟨r1,by omega,r3,r4,r5⟩
 refine⟨?_,?_,?_,hD⟩
 ·unfold Yv;by_cases c:now<tt
  ·rw[zk c];unfold YL;rw[(zcI hs).1,e1];unfold yr;rw[UF]
   rfl
  ·rw[zh c,e1]
   symm
   rw[YV];intro x hx;have:=(h.rng x hx).2.1;unfold kZ;simp;omega
 ·unfold Uk;by_cases c:now<tt
  ·rw[zk c];unfold Kk;rw[(zcI hs).2,e2];unfold yr;rw[UF,UF];refine XS (fun x hx => ?_);unfold kZ;by_cases c1:x.dl≤tt<;>by_cases c2:x.dl=18446744073709551615<;>simp[c1,c2]
  ·rw[zh c,e2];unfold yr;rw[UF];refine XS (fun x hx => ?_);have:=(h.rng x hx).2.1;unfold kZ;by_cases c1:x.dl≤tt<;>by_cases c2:x.dl=18446744073709551615<;>simp[c1,c2];omega
 ·unfold Vz;split<;>omega
theorem zlL(h:yJ now M):Kw (yr M)=Kw M:=by
 cases M with
 | nil=>rfl
 | cons x M =>
  rw[Kn];by_cases e:x.dl=18446744073709551615
  ·rw[zh (by omega)];have:yr M=[]:=by
    unfold yr;rw[YV];intro y hy;have h1:=(kp.1 h.ord).1 y hy;have h2:=(h.rng y (yH _ hy)).2.2.1;unfold bef at h1;simp;omega
   rw[this];exact e.symm
  ·rw[zk e]
   rfl
def ZE(tv:List Nat):List Td→List Td→Option (List Td)
 | acc,[]=>some acc
 | acc,x::xs=>match tv[x.slot]? with
  | some t=>if t<4194304∧xL acc t=false then ZE tv (acc++[⟨t,x.dl,x.birth⟩]) xs else none
  | none=>none
def uG(M:List Td):List (Nat × Nat):=M.map (fun x=>(x.dl,x.birth))
theorem zhS{A B:List Td}(h:uG A=uG B)(hs:A.Pairwise bef):B.Pairwise bef:=by
 have h1:(uG A).Pairwise (fun a b=>a.1<b.1∨a.1=b.1∧a.2<b.2):=by
  unfold uG;rw[uQ];exact hs
 rw[h]at h1;unfold uG at h1;rw[uQ]at h1;exact h1
theorem zi7{A B:List Td}(h:uG A=uG B){x:Td}(hx:x∈B) : ∃ y∈A,y.dl=x.dl∧y.birth=x.birth:=by
 have:(x.dl,x.birth)∈uG B:=zz.2 ⟨x,hx,rfl⟩;rw[← h]at this;obtain⟨y,hy,e⟩:=zz.1 this;injection e with e1 e2
 exact⟨y,hy,e1,e2⟩
end
end
section
open Go.RowKit Go.Shelf
section
variable{w w':World}{D:Nat→Prop}{p now q bb bs:Nat}{Dc:Nat→Prop}{Db Ds:DataW Unit}{M L:List Td}
theorem yJ.nd(h:yJ now M):M.Nodup:=h.ord.imp (fun {a b} k e=>by subst e;exact Xi k k)
theorem yJ.count(h:yJ now M):M.length≤4194304:=by
 have h1:(M.map (fun x=>x.slot)).Nodup:=by
  unfold List.Nodup;rw[uQ];exact List.Pairwise.imp_of_mem (fun {a b} ha hb hne e=>hne (h.slots a ha b hb e)) h.nd
 have:=qZ (N:=4194304) h1 (fun s hs=>by
  obtain⟨x,hx,rfl⟩:=zz.1 hs;exact(h.rng x hx).1)
 simpa using this
theorem yJ.sub(h:yJ now M){M2:List Td}(hn:M2.Nodup)(hs : ∀ x∈M2,x∈M):M2.length≤4194304:=by
 have h1:(M2.map (fun x=>x.slot)).Nodup:=by
  unfold List.Nodup;rw[uQ];exact List.Pairwise.imp_of_mem (fun {a b} ha hb hne e=>hne (h.slots a (hs a ha) b (hs b hb) e)) hn
 have:=qZ (N:=4194304) h1 (fun s hx=>by
  obtain⟨x,k,rfl⟩:=zz.1 hx;exact(h.rng x (hs x k)).1)
 simpa using this
end
section
variable{w w':World}{D:Nat→Prop}{p now q bb bs:Nat}{Dc:Nat→Prop}{Db Ds:DataW Unit}{M L:List Td}
def yh(w:World)(D:Nat→Prop)(p now:Nat)(M:List Td):Prop :=
 ∃ q bb bs Dc Db Ds,yT w D p now q bb bs Dc Db Ds M (yr M)∧yJ now M
theorem yh.frame{S:Nat→Prop}(h:yh w D p now M)(hm:Mod S w w')(hd : ∀ k,D k → ¬ S k):yh w' D p now M:=by
 obtain⟨q,bb,bs,Dc,Db,Ds,h1,h2⟩:=h;exact⟨q,bb,bs,Dc,Db,Ds,h1.frame hm hd,h2⟩
theorem yh.pure(h:yh w D p now M)(hm:zc w w'):yh w' D p now M:=h.frame hm (fun _ _ h=>h)
theorem yh.lt(h:yh w D p now M){k:Nat}(hk:D k):k<w.heap.size:=by
 obtain⟨q,bb,bs,Dc,Db,Ds,h1,h2⟩:=h;exact h1.lt hk
theorem yh.self(h:yh w D p now M):D p:=by
 obtain⟨q,bb,bs,Dc,Db,Ds,h1,h2⟩:=h;exact(h1.dd p).2 (.inl rfl)
theorem yh.law(h:yh w D p now M):yJ now M:=by
 obtain⟨q,bb,bs,Dc,Db,Ds,h1,h2⟩:=h;exact h2
theorem yh.now64(h:yh w D p now M):now<18446744073709551616:=by
 obtain⟨q,bb,bs,Dc,Db,Ds,h1,h2⟩:=h;exact h1.cas.now64
theorem yJ.nil(now:Nat):yJ now []:=⟨List.Pairwise.nil,(fun x hx=>by cases hx),(fun x hx=>by cases hx),(fun x hx=>by cases hx)⟩
theorem zer(w:World){now:Nat}(hn:now<18446744073709551616):Calls prog 103 #[.int .u64 now] w fun e w' => ∃ p D,e=.returned (lkP p)∧yh w' D p now []∧zc w w' ∧ ∀ k,D k→w.heap.size≤k:=by
 have HN:=za (fun W=>zhx W hn);have hmm := @run_makeMap prog;go_enter func103,ntmps103
 go_wp2_with (go_at_call 172;refine(HN.out _).mono ?_;rintro e w1 ⟨q,Dc,rfl,hc,hp,hf⟩)
 have a1:zc w1 (w1.alloc (.map #[] 0)):=(Mod.refl _ w1).alloc _;have a2:zc (w1.alloc (.map #[] 0)) ((w1.alloc (.map #[] 0)).alloc (.map #[] 0)):=(Mod.refl _ _).alloc _;have hs1:(w1.alloc (.map #[] 0)).heap.size=w1.heap.size+1:=by simp
 have hs2:((w1.alloc (.map #[] 0)).alloc (.map #[] 0)).heap.size=w1.heap.size+2:=by simp
 have t1:=xR.new w1;have t2:=yM.new (w1.alloc (.map #[] 0));rw[hs1]at t2;have a3:zc ((w1.alloc (.map #[] 0)).alloc (.map #[] 0)) (((w1.alloc (.map #[] 0)).alloc (.map #[] 0)).alloc (.cells #[lkP q,.map (some w1.heap.size),.map (some (w1.heap.size+1))] 232)):=(Mod.refl _ _).alloc _;have hlt:=fun k (hk:Dc k)=>hc.lt hk
 have hsz:=hp.size;have hfin:yh (((w1.alloc (.map #[] 0)).alloc (.map #[] 0)).alloc (.cells #[lkP q,.map (some w1.heap.size),.map (some (w1.heap.size+1))] 232)) (fun k=>k=w1.heap.size+2∨k=w1.heap.size∨k=w1.heap.size+1∨Dc k) (w1.heap.size+2) now [] :=
  ⟨q,w1.heap.size,w1.heap.size+1,Dc,_,_,⟨zj hs2.symm,((hc.pure a1).pure a2).pure a3,(t1.mod a2 (fun h=>h)).mod a3 (fun h=>h),t2.mod a3 (fun h=>h),fun e=>by have:=hlt _ e;omega,fun e=>by have:=hlt _ e;omega,fun e=>by have:=hlt _ e;omega,⟨by omega,by omega,by omega⟩,fun k=>vP⟩,yJ.nil _⟩
 have hpp:=((hp.trans a1).trans a2).trans a3;go_ret;refine⟨w1.heap.size+2,_,rfl,hfin,hpp,fun k hk => ?_⟩;rcases hk with rfl | rfl | rfl | e
 ·omega
 ·omega
 ·omega
 ·exact hf k e
end
section
variable{w w':World}{D:Nat→Prop}{p now q bb bs:Nat}{Dc:Nat→Prop}{Db Ds:DataW Unit}{M M' L:List Td}{x:Td}
theorem xR.perm{b:Nat}{A:DataW Unit}(h:xR w b M A)(hp:M.Perm M'):xR w b M' A :=
 ⟨by rw[← hp.length_eq];exact h.own,fun x hx=>h.at_ x (hp.mem_iff.2 hx),fun s hs=>by obtain⟨x,hx,e⟩:=h.has s hs;exact⟨x,hp.mem_iff.1 hx,e⟩,by rw[← hp.length_eq];exact h.size⟩
theorem yT.perm(h:yT w D p now q bb bs Dc Db Ds M L)(hp:M.Perm M'):yT w D p now q bb bs Dc Db Ds M' L :=
 ⟨h.box,h.cas,h.births.perm hp,h.slots.perm hp,h.np,h.nbb,h.nbs,h.ne,h.dd⟩
theorem yh.drop(h:yh w D p now M)(hp:M.Perm (x::M'))(hs:M'.Pairwise bef) :
  Calls prog 191 #[lkP p,tdV x] w fun e w'=>e=.returned (.tuple #[])∧(∃ D',yh w' D' p now M'∧yo D D' w)∧Mod D w w':=by
 obtain⟨q,bb,bs,Dc,Db,Ds,h1,h2⟩:=h;obtain⟨k1,k2,k3,k4⟩:=h2.out hp hs;have hx:x∈M:=hp.mem_iff.2 yE;obtain⟨r1,r2,r3,r4,r5⟩:=h2.rng x hx;refine(zbG h1 hx (by omega) r5 k2 k3 k4).mono ?_;rintro e w' ⟨rfl,⟨D',Dc',Db',Ds',hD,hg⟩,hm⟩;rw[zkm h2.ord h2.slots hp r1 hs]at hD;exact⟨rfl,⟨D',⟨q,bb,bs,_,_,_,hD,k1⟩,hg⟩,hm⟩
theorem yh.put(h:yh w D p now M)(h1 : ∀ y∈M,y.slot≠x.slot)(h2 : ∀ y∈M,y.birth≠x.birth)(hr:x.slot<4194304∧(now<x.dl∨x.dl=18446744073709551615)∧x.dl≤18446744073709551615∧0<x.birth∧x.birth≤18446744073709551615) :
  Calls prog 192 #[lkP p,tdV x] w fun e w'=>e=.returned (.tuple #[])∧(∃ D',yh w' D' p now (xQ M x)∧yo D D' w)∧Mod D w w':=by
 obtain⟨q,bb,bs,Dc,Db,Ds,k1,k2⟩:=h;obtain⟨r1,r2,r3,r4,r5⟩:=hr;have hc:=k2.count;have e1:=zhF (x:=x) k2.ord h2;have hMl:M.length<maxLen:=by unfold maxLen;omega
 by_cases hd:x.dl=18446744073709551615
 ·rw[zk hd]at e1;refine(zg5 k1 r1 hd r5 h1 h2 hMl).mono ?_;rintro e w' ⟨rfl,⟨Db',Ds',hD⟩,hm⟩;exact⟨rfl,⟨D,⟨q,bb,bs,_,_,_,by rw[e1];exact hD.perm qz.symm,k2.put h1 h2 ⟨r1,r2,r3,r4,r5⟩⟩,yo.refl _ _⟩,hm⟩
 ·rw[zh hd]at e1;have hsc:jK now (yr M) x=0:=by
   have a1:kU now x=0:=by
    unfold kU atE;rw[zk r1,zh (by omega),zk r1];rw[zh (by omega),zh (by omega)]
   have a2:(xL (yr M) x.slot||YD (yr M) x.birth)=false:=by
    rw[Bool.or_eq_false_iff];constructor
    ·cases hh:xL (yr M) x.slot with
     | false=>rfl
     | true=>obtain⟨y,hy,e⟩:=uL.1 hh;exact absurd e (h1 y (Zq.1 hy).1)
    ·cases hh:YD (yr M) x.birth with
     | false=>rfl
     | true=>obtain⟨y,hy,e⟩:=UJ.1 hh;exact absurd e (h2 y (Zq.1 hy).1)
   unfold jK;rw[zk a1,a2]
   rfl
  have hl:Yk now (yr M) x=xQ (yr M) x:=by unfold Yk;rw[zk hsc]
  refine(ze8 k1 r1 (by omega) r5 h1 h2 hMl (by have:=(jL (p:=fun x:Td=>decide (x.dl≠18446744073709551615)) (l:=M)).length_le;unfold yr;unfold maxLen;omega)).mono ?_;rintro e w' ⟨rfl,⟨D',Dc',Db',Ds',hD,hg⟩,hm⟩;rw[hl]at hD;exact⟨rfl,⟨D',⟨q,bb,bs,_,_,_,by rw[e1];exact hD.perm qz.symm,k2.put h1 h2 ⟨r1,r2,r3,r4,r5⟩⟩,hg⟩,hm⟩
end

section
variable{w w':World}{D:Nat→Prop}{p now q bb bs:Nat}{Dc:Nat→Prop}{Db Ds:DataW Unit}{M M' L:List Td}{x:Td}
theorem Mod.of_pure'{S:Nat→Prop}(h:zc w w'):Mod S w w':=h.mono (fun _ _ h=>h.elim)
theorem yh.remove(h:yh w D p now M){s:Nat}(h32:s≤4294967295) :
  Calls prog 141 #[lkP p,.int .u32 s] w fun e w'=>e=.returned (.int .i64 (getTd M s).2)∧(∃ D',yh w' D' p now (vz M s)∧yo D D' w)∧Mod D w w':=by
 have h':=h;obtain⟨q,bb,bs,Dc,Db,Ds,h1,h2⟩:=h;have HC:=za (UD h1 h32);obtain⟨c0,c1,c2⟩:=h1.cells;by_cases hs:s<4194304
 ·rw[zk hs]at HC;rcases V6 M s with⟨_,hh,x,e1,rfl,_,e3,e4⟩ | ⟨hno,er,e1,e2⟩
  ·have hx:x∈M:=e4.mem_iff.2 yE;have hlk:=h1.slots.look hx (by omega);unfold vz;rw[e1];dsimp only;rw[zk rfl];unfold tdV at hlk;have hal:zc w (w.alloc (.cells #[.int .u32 x.slot,.int .u64 x.dl,.int .u64 x.birth] 236)):=(Mod.refl _ w).alloc _;have h8:=zj (w:=w) (o := .cells #[.int .u32 x.slot,.int .u64 x.dl,.int .u64 x.birth] 236 (0,0)) rfl;have hdr:=fun W (hW:zc (w.alloc (.cells #[.int .u32 x.slot,.int .u64 x.dl,.int .u64 x.birth] 236)) W)=>((h'.pure hal).pure hW).drop e4 (Yg h2.ord)
   unfold tdV at hdr;have HDr:=za hdr;have HAL:=za hal;have H8:=za h8;clear h' h1 h2 hx e1 e3 e4 h32 hs hal h8 hdr c0 c1;go_enter func141,ntmps141;go_upto_region 7 with(go_at_call 130;refine HC.out.mono ?_;rintro e w' ⟨rfl,rfl⟩)
   have h8:=H8.out;generalize w.alloc (.cells #[.int .u32 x.slot,.int .u64 x.dl,.int .u64 x.birth] 236)=W1 at *;generalize w.heap.size=b8 at *;clear c2 hlk;obtain⟨h8_0,h8_1,h8_2,h8_f,h8_l,H_h8⟩:=cr3 h8;clear h8;go_upto_region 8 with(go_at_call 191;refine zq (HDr.out _ (by first | exact Mod.refl _ _ | exact(Mod.refl _ _).drew)) ?_;rintro e w2 ⟨rfl,⟨D',hD,hg⟩,hm⟩)
   have hm0:Mod D w w2:=(Mod.of_pure' HAL.out:Mod D w W1).trans (by first | exact hm | exact Mod.of_drew hm);have hg0:yo D D' w:=fun k hk=>by
    rcases hg k hk with e | e
    ·exact .inl e
    ·have e':W1.heap.size≤k:=e;exact .inr (zH HAL.out.size e')
   have HD:=za hD;have HM0:=za hm0;have HG0:=za hg0;clear hm hg hD hm0 hg0;go_wp2;exact zN (v := .int .i64 0) (by simp[results,results141,go_sem]) rfl ⟨rfl,⟨D',HD.out,HG0.out⟩,HM0.out⟩
  ·have hh:xL M s=false:=by
    rcases hno with e | e
    ·exact absurd hs e
    ·exact e
   have hlk:=h1.slots.look_no (s:=s) (by omega) (fun y hy e=>by rw[uL.2 ⟨y,hy,e⟩]at hh;cases hh);unfold vz;rw[Xd hs (Vx hh)];dsimp only;rw[zh (by decide)];unfold tdV at hlk;have HAL:Hid (zc w (w.alloc (.cells #[.int .u32 0,.int .u64 0,.int .u64 0] 236))):=za ((Mod.refl _ w).alloc _);have HF:=za h';clear h' h1 h2 hno e1 e2 hh h32 hs c0 c1;go_enter func141,ntmps141
   go_wp2_with (go_at_call 130;refine HC.out.mono ?_;rintro e w' ⟨rfl,rfl⟩)
   have hal:=HAL.out;refine zN (v := .int .i64 9) (by simp[results,results141,go_sem]) rfl ⟨rfl,⟨D,HF.out.pure hal,yo.refl _ _⟩,Mod.of_pure' hal⟩
 ·rw[zh hs]at HC;unfold vz;rw[KO hs];dsimp only;rw[zh (by decide)];have HF:=za h';clear h' h1 h2 h32 hs c0 c1 c2;go_enter func141,ntmps141
  go_wp2_with (go_at_call 130;refine HC.out.mono ?_;rintro e w' ⟨rfl,rfl⟩)
  refine zN (v := .int .i64 2) (by simp[results,results141,go_sem]) rfl ⟨rfl,⟨D,HF.out,yo.refl _ _⟩,Mod.refl _ _⟩
end
section
variable{w w':World}{D:Nat→Prop}{p now q bb bs:Nat}{Dc:Nat→Prop}{Db Ds:DataW Unit}{M M' L:List Td}{x:Td}
theorem Az57s {P:Prop}(h:P:=by
 have HF:=za hfin;have HM:=za hm0;have HG:=za hg0;clear hfin hm0 hg0;go_wp2;exact zN (v := .int .i64 0) (by simp[results,results126,go_sem]) rfl ⟨rfl,⟨_,HF.out,HG.out⟩,HM.out⟩):P:=h
theorem Azrh7 {P:Prop}(h:P:=by
 rcases hv with hd | ⟨hd,hn⟩
 · exact .inl (by simp;omega)
 · exact .inr ⟨by simp;omega,zR (by omega),zR (by omega)⟩):P:=h
theorem zh1(h:yh w D p now M){s dl b:Nat}(hs:s<4194304)(hb0:b≠0)(hb:b≤18446744073709551615)(hd:dl≤18446744073709551615)(hv:dl=18446744073709551615∨(dl≠18446744073709551615∧now<dl))(hc : ∀ z∈M,z.slot≠s)(hc2 : ∀ y∈M,y.birth≠b) :
    Calls prog 126 #[lkP p,.int .u32 s,.int .u64 dl,.int .u64 b] w fun e w'=>e=.returned (.int .i64 0)∧(∃ D',yh w' D' p now (xQ (jT M s) ⟨s,dl,b⟩)∧yo D D' w)∧Mod D w w':=by
  have h':=h;obtain⟨q,bb,bs,Dc,Db,Ds,h1,h2⟩:=h;have HC:=za (UD h1 (by omega:s≤4294967295));rw[zk hs]at HC;have h32:s≤4294967295:=by omega
  have hr:now<dl∨dl=18446744073709551615:=by omega
  have e0:((b:Int)==0)=false:=by simp;omega
  have hv2:((dl:Int) != 18446744073709551615)=false∨(((dl:Int) != 18446744073709551615)=true∧decide ((dl:Int)≤(now:Int))=false∧decide (dl≤now)=false):=by
    exact Azrh7
  have hls:=h1.slots.look_no (s:=s) h32 hc;have hlb:=((h1.pure ((Mod.refl _ w).alloc (.cells #[.int .u32 0,.int .u64 0,.int .u64 0] 236):zc w _)).births).look_no hb hc2;unfold tdV at hls;have hnb:xL M s=false:=by
    cases hh:xL M s with
    | false=>rfl
    | true=>obtain⟨y,hy,e⟩:=uL.1 hh;exact absurd e (hc y hy)
  rw[show jT M s=M by unfold jT;rw[hnb];rfl];have hal:zc w (w.alloc (.cells #[.int .u32 0,.int .u64 0,.int .u64 0] 236)):=(Mod.refl _ w).alloc _;have h8:=zj (w:=w) (o := .cells #[.int .u32 0,.int .u64 0,.int .u64 0] 236 (0,0)) rfl;have HCas:=za (fun W (hW:zc (w.alloc (.cells #[.int .u32 0,.int .u64 0,.int .u64 0] 236)) W)=>((h1.pure hal).pure hW).cas.now_);have HN:=za (fun W (hW:zc (w.alloc (.cells #[.int .u32 0,.int .u64 0,.int .u64 0] 236)) W)=>Kf ((h1.pure hal).pure hW));obtain⟨c0,c1,c2⟩:=h1.cells;obtain⟨a0,a1,a2⟩:=(h1.pure hal).cells;have HAL:=za hal;have H8:=za h8;have hpu:=fun W (hW:zc (w.alloc (.cells #[.int .u32 0,.int .u64 0,.int .u64 0] 236)) W)=>((h'.pure hal).pure hW).put (x:=⟨s,dl,b⟩) hc hc2 ⟨hs,hr,by show dl≤_;omega,by show 0<b;omega,hb⟩
  unfold tdV at hpu;have HPu:=za hpu;clear hpu hc hc2 hnb;clear hb0 hb hd hv hr;clear h' h1 h2 hal h8 h32 hs;rcases hv2 with e1 | ⟨e1,e2,e2n⟩
  all_goals
    go_enter func126,ntmps126;go_upto_region 5 with(go_at_call 130;refine HC.out.mono ?_;rintro e w' ⟨rfl,rfl⟩)
    have h8:=H8.out;generalize w.alloc (.cells #[.int .u32 0,.int .u64 0,.int .u64 0] 236)=W1 at *;generalize w.heap.size=b8 at *;clear c0 c1 c2 hls;obtain⟨h8_0,h8_1,h8_2,h8_f,h8_l,H_h8⟩:=cr3 h8;clear h8;have HN2:=za (fun W (hW:zc W1 W)=>HCas.out W hW);go_upto_region 15 with(first
      | (go_at_call 131;refine(HN2.out _ (Mod.refl _ _)).mono ?_;rintro e w' ⟨rfl,rfl⟩)
      | (go_at_call 192;refine zq (HPu.out _ (by first | exact Mod.refl _ _ | exact(Mod.refl _ _).drew)) ?_;rintro e w2 ⟨rfl,⟨D',hfin,hg⟩,hm⟩))
    have hm0:Mod D w w2:=(Mod.of_pure' HAL.out:Mod D w W1).trans (by first | exact hm | exact Mod.of_drew hm);have hg0:yo D D' w:=fun k hk=>by
      rcases hg k hk with e | e
      · exact .inl e
      · have e':W1.heap.size≤k:=e
        exact .inr (zH HAL.out.size e')
    clear hm hg;exact Az57s
theorem zkR(h:yh w D p now M){s dl b:Nat}(hs:s<4194304)(hb0:b≠0)(hb:b≤18446744073709551615)(hd:dl≤18446744073709551615)(hv:dl=18446744073709551615∨(dl≠18446744073709551615∧now<dl))(hc : ∃ z∈M,z.slot=s∧z.birth=b) :
    Calls prog 126 #[lkP p,.int .u32 s,.int .u64 dl,.int .u64 b] w fun e w'=>e=.returned (.int .i64 0)∧(∃ D',yh w' D' p now (xQ (jT M s) ⟨s,dl,b⟩)∧yo D D' w)∧Mod D w w':=by
  have h':=h;obtain⟨q,bb,bs,Dc,Db,Ds,h1,h2⟩:=h;have HC:=za (UD h1 (by omega:s≤4294967295));rw[zk hs]at HC;have h32:s≤4294967295:=by omega
  have hr:now<dl∨dl=18446744073709551615:=by omega
  have e0:((b:Int)==0)=false:=by simp;omega
  have hv2:((dl:Int) != 18446744073709551615)=false∨(((dl:Int) != 18446744073709551615)=true∧decide ((dl:Int)≤(now:Int))=false∧decide (dl≤now)=false):=by
    exact Azrh7
  obtain⟨z,hz,hzs,hzb⟩:=hc;subst hzs hzb;have hls:=h1.slots.look hz h32;have hlb:=((h1.pure ((Mod.refl _ w).alloc (.cells #[.int .u32 z.slot,.int .u64 z.dl,.int .u64 z.birth] 236):zc w _)).births).look hz hb;unfold tdV at hls;have hh:xL M z.slot=true:=uL.2 ⟨z,hz,rfl⟩;obtain⟨z',k1,k2,k3,k4⟩:=V4 (Ub.2 hh);have hzz:z'=z:=h2.slots z' (yl k1) z hz k2;rw[hzz]at k4;obtain⟨_,n1,n2,_⟩:=h2.out k4 (Yg h2.ord);have hso:(qO M z.slot).Pairwise bef:=Yg h2.ord;rw[show jT M z.slot=qO M z.slot by unfold jT;rw[hh];rfl];have hal:zc w (w.alloc (.cells #[.int .u32 z.slot,.int .u64 z.dl,.int .u64 z.birth] 236)):=(Mod.refl _ w).alloc _;have h8:=zj (w:=w) (o := .cells #[.int .u32 z.slot,.int .u64 z.dl,.int .u64 z.birth] 236 (0,0)) rfl;have HCas:=za (fun W (hW:zc (w.alloc (.cells #[.int .u32 z.slot,.int .u64 z.dl,.int .u64 z.birth] 236)) W)=>((h1.pure hal).pure hW).cas.now_);have HN:=za (fun W (hW:zc (w.alloc (.cells #[.int .u32 z.slot,.int .u64 z.dl,.int .u64 z.birth] 236)) W)=>Kf ((h1.pure hal).pure hW));obtain⟨c0,c1,c2⟩:=h1.cells;obtain⟨a0,a1,a2⟩:=(h1.pure hal).cells;have HAL:=za hal;have H8:=za h8;have hdr:=fun W (hW:zc (w.alloc (.cells #[.int .u32 z.slot,.int .u64 z.dl,.int .u64 z.birth] 236)) W)=>((h'.pure hal).pure hW).drop k4 hso
  have hpu:=fun W D1 (hD:yh W D1 p now (qO M z.slot))=>hD.put (x:=⟨z.slot,dl,z.birth⟩) (fun y hy=>((n1 y).1 hy).2) (fun y hy=>((n2 y).1 hy).2) ⟨hs,hr,by show dl≤_;omega,by show 0<z.birth;omega,hb⟩
  unfold tdV at hpu hdr;have HPu:=za hpu;have HDr:=za hdr;clear hpu hdr hz hh k1 k2 k3 k4 hzz n1 n2 hso;clear hb0 hb hd hv hr;clear h' h1 h2 hal h8 h32 hs;rcases hv2 with e1 | ⟨e1,e2,e2n⟩
  all_goals
    go_enter func126,ntmps126;go_upto_region 5 with(go_at_call 130;refine HC.out.mono ?_;rintro e w' ⟨rfl,rfl⟩)
    have h8:=H8.out;generalize w.alloc (.cells #[.int .u32 z.slot,.int .u64 z.dl,.int .u64 z.birth] 236)=W1 at *;generalize w.heap.size=b8 at *;clear c0 c1 c2 hls;obtain⟨h8_0,h8_1,h8_2,h8_f,h8_l,H_h8⟩:=cr3 h8;clear h8;have HN2:=za (fun W (hW:zc W1 W)=>HCas.out W hW);go_upto_region 14 with(first
      | (go_at_call 131;refine(HN2.out _ (Mod.refl _ _)).mono ?_;rintro e w' ⟨rfl,rfl⟩)
      | (go_at_call 191;refine zq (HDr.out _ (by first | exact Mod.refl _ _ | exact(Mod.refl _ _).drew)) ?_;rintro e w2 ⟨rfl,⟨D1,hD1,hg1⟩,hm1⟩))
    have hm1':Mod D w w2:=(Mod.of_pure' HAL.out:Mod D w W1).trans (by first | exact hm1 | exact Mod.of_drew hm1);have hg1':yo D D1 w:=fun k hk=>by
      rcases hg1 k hk with e | e
      · exact .inl e
      · have e':W1.heap.size≤k:=e
        exact .inr (zH HAL.out.size e')
    have HD1:=za hD1;have HM1:=za hm1';have HG1:=za hg1';have HPv:=za (fun W (hW:zc w2 W)=>HPu.out W D1 (hD1.pure hW));clear hD1 hm1 hg1 hm1' hg1';go_upto_region 15 with(go_at_call 192;refine zq (HPv.out _ (by first | exact Mod.refl _ _ | exact(Mod.refl _ _).drew)) ?_;rintro e w3 ⟨rfl,⟨D',hfin,hg⟩,hm⟩)
    have hsz:=HM1.out.size;have hm0:Mod D w w3:=HM1.out.trans' (by first | exact hm | exact Mod.of_drew hm) (fun _ _ h=>h) (fun k hk h=>by
      rcases HG1.out k h with e | e
      · exact e
      · omega)
    have hg0:yo D D' w:=fun k hk=>by
      rcases hg k hk with e | e
      · exact HG1.out k e
      · have e':w2.heap.size≤k:=e
        exact .inr (zH hsz e')
    clear hm hg hsz;exact Az57s
theorem yh.set(h:yh w D p now M){s dl b:Nat}(h32:s≤4294967295)(hd:dl≤18446744073709551615)(hb:b≤18446744073709551615)(h0:kI now M s dl b=0) :
  Calls prog 126 #[lkP p,.int .u32 s,.int .u64 dl,.int .u64 b] w fun e w'=>e=.returned (.int .i64 (kI now M s dl b))∧(∃ D',yh w' D' p now (kN now M s dl b)∧yo D D' w)∧Mod D w w':=by
 have hs:s<4194304∧b≠0:=Classical.byContradiction (fun c=>by unfold kI at h0;rw[zh c]at h0;exact absurd h0 (by decide));have hr : ¬ (dl≤now∧dl≠18446744073709551615):=fun c=>by unfold kI at h0;rw[zk hs,zk c]at h0;exact absurd h0 (by decide)
 have hy : ¬ qy M s b=true:=fun c=>by unfold kI at h0;rw[zk hs,zh hr,zk c]at h0;exact absurd h0 (by decide)
 unfold kN;rw[h0,zk rfl];have hnb : ∀ y∈M,(y.slot=s↔y.birth=b):=fun y hy1=>by
  refine⟨fun e => ?_,fun e => ?_⟩
  ·apply Classical.byContradiction;intro e2;exact hy (Xf.2 ⟨y,hy1,.inl ⟨e,e2⟩⟩)
  ·apply Classical.byContradiction;intro e2;exact hy (Xf.2 ⟨y,hy1,.inr ⟨e2,e⟩⟩)
 by_cases c : ∃ z∈M,z.slot=s
 ·obtain⟨z,hz,e⟩:=c;exact zkR h hs.1 hs.2 hb hd (by omega) ⟨z,hz,e,(hnb z hz).1 e⟩
 ·exact zh1 h hs.1 hs.2 hb hd (by omega) (fun z hz e=>c ⟨z,hz,e⟩) (fun z hz e=>c ⟨z,hz,(hnb z hz).2 e⟩)
end
theorem zj4(a b:Nat)(w:World):Calls prog 122 #[.int .u64 a,.int .u64 b] w fun e w'=>e=.returned (.int .u64 (max a b:Nat))∧w=w':=by
 by_cases h:a≤b
 ·rw[Nat.max_eq_right h];have e1:max (a:Int) (b:Int)=(b:Int):=by omega
  go_enter func122,ntmps122
  go_wp2_with fail
  all_goals
   refine zN (v := .int .u64 b) ?_ rfl ⟨rfl,rfl⟩;simp[results,results122,go_sem]
   try omega
 ·rw[Nat.max_eq_left (by omega)];have e1:max (a:Int) (b:Int)=(a:Int):=by omega
  go_enter func122,ntmps122
  go_wp2_with fail
  all_goals
   refine zN (v := .int .u64 a) ?_ rfl ⟨rfl,rfl⟩;simp[results,results122,go_sem]
   try omega
section
variable{w w':World}{D:Nat→Prop}{p now q bb bs:Nat}{Dc:Nat→Prop}{Db Ds:DataW Unit}{M M' L:List Td}{x:Td}
structure ExI(w wr:World)(D:Nat→Prop)(p tt:Nat)(q bb bs:Nat)(E R:List Td)(a:Option Addr)(c:Nat)(D':Nat→Prop)(j:Nat):Prop where
 mem : ∃ Dc Db Ds,yT wr D' p tt q bb bs Dc Db Ds (E.drop j++R) (yr R)
 grew:yo D D' w
 row:qj wr a c E
 off : ∀ g,(Value.slice a E.length c).ownBlock=some g → ¬ D' g∧w.heap.size≤g
 mod:Mod D w wr
theorem yh.expire(h:yh w D p now M)(hT:xA w)(h0 : ¬ D 0){t0:Nat}(ht0:t0≤18446744073709551615) :
  Calls prog 132 #[lkP p,.int .u64 t0] w fun e w' => ∃ a c,e=.returned (.slice a (ue (max now t0) M).length c)∧qj w' a c (ue (max now t0) M) ∧
   (∃ D',yh w' D' p (max now t0) (jd (max now t0) M)∧yo D D' w ∧ ∀ g,(Value.slice a (ue (max now t0) M).length c).ownBlock=some g → ¬ D' g∧w.heap.size≤g)∧Mod D w w':=by
 have hnow:=h.now64;obtain⟨q,bb,bs,Dc,Db,Ds,h1,h2⟩:=h;obtain⟨tt,htt⟩:=zf (max now t0);have hEf:=fun W=>zj4 now t0 W
 rw[htt]at hEf ⊢;have hnt:now≤tt:=by omega
 have ht:tt≤18446744073709551615:=by omega
 obtain⟨k1,k2,k3,k4⟩:=h2.exp hnt ht;have HCk:=za (Qz h1);obtain⟨c0,c1,c2⟩:=h1.cells;have hD1:zc w w.drew:=(Mod.refl _ w).drew;have HNw:=za ((h1.pure hD1).cas.now_);have hAd:=(h1.pure hD1).cas.advAny hT (fun e=>h0 ((h1.dd 0).2 (.inr (.inr (.inr e))))) (by omega:tt<18446744073709551616);rw[k1,k2,k3]at hAd;have HAd:=za hAd;have HEf:=za hEf;have hsp:ue tt M++jd tt M=M:=List.takeWhile_append_dropWhile;obtain⟨E,hE⟩:=zf (ue tt M);obtain⟨R,hR⟩:=zf (jd tt M);rw[hE,hR]at hsp;rw[hR]at k4;rw[hE,hR]at HAd;rw[hE,hR];have hcnt:E.length≤4194304:=by have:=h2.count;rw[← hsp,zV]at this;omega
 have HC:=za h1;have HL:=za h2;have HR:=za k4;have HSp:=za hsp;clear h1 h2 k1 k2 k3 k4 hAd hEf hE hR hT hnow ht0 hnt ht hsp c1 c2 htt;go_enter func132,ntmps132;go_upto_region 3 with(go_at_call 130;refine HCk.out.mono ?_;rintro e w' ⟨rfl,rfl⟩)
 refine rHd (S:=fun u=>u.cell? ⟨p,0,none⟩=some (lkP q)) c0 (fun h_ => ?_);refine hTk 0 ?_;refine hTk 1 ?_;refine hTk 2 ?_;refine hLd 3 ?_;refine hTk 4 ?_;refine hTk 5 ?_;refine hTk 6 ?_;refine hLd 7 ?_;refine hTk 9 ?_;have d0:w.drew.cell? ⟨p,0,none⟩=some (lkP q):=c0
 (refine hSt 8 (fun K hK => ?_);go_simp;refine HNw.out.mono ?_;rintro e w2 ⟨rfl,rfl⟩;refine hK.out _ _ ?_ (fun h_ => ?_);(· exact d0);clear hK K;refine clA ?_)
 (refine hSt 10 (fun K hK => ?_);go_simp;refine(HEf.out _).mono ?_;rintro e w2 ⟨rfl,rfl⟩;refine hK.out _ _ ?_ (fun h_ => ?_);(· exact d0);clear hK K;refine clA ?_)
 (refine hSt 11 (fun K hK => ?_);go_simp;refine HAd.out.mono ?_;rintro e w2 ⟨a,c,rfl,hrow,⟨Dc2,hc2,hg2,hoff⟩,hm2⟩;refine hK.out _ _ ?_ (fun h_ => ?_);(· exact(hm2.cell (a:=⟨p,0,none⟩) HC.out.np d0));clear hK K;refine clA ?_)
 refine hTk 12 ?_;refine hTk 13 ?_;refine hTk 14 ?_;refine hTk 15 ?_;refine hTk 16 ?_;refine hDn ?_;clear h_;have hm2':Mod Dc w w2:=Mod.of_drew hm2;have hg2':yo Dc Dc2 w:=hg2;obtain⟨D2,hD2,hgD⟩:=HC.out.cascade hc2 hg2' hm2';have hlt:=fun k (hk:D k)=>HC.out.lt hk
 have hoff2 : ∀ g,(Value.slice a E.length c).ownBlock=some g → ¬ D2 g∧w.heap.size≤g:=fun g hg=>by
  obtain⟨o1,o2⟩:=hoff g hg;have o2':w.heap.size≤g:=o2;refine⟨fun k => ?_,o2'⟩;rcases(hD2.dd g).1 k with e | e | e | e
  ·have:=hlt p ((HC.out.dd p).2 (.inl rfl));omega
  ·have:=hlt bb ((HC.out.dd bb).2 (.inr (.inl rfl)));omega
  ·have:=hlt bs ((HC.out.dd bs).2 (.inr (.inr (.inl rfl))));omega
  ·exact o1 e
 have hI:ExI w w2 D p tt q bb bs E R a c D2 0:=⟨⟨_,_,_,by rw[List.drop_zero,HSp.out];exact hD2⟩,hgD,hrow,hoff2,hm2'.mono (fun k _ hk=>(HC.out.dd k).2 (.inr (.inr (.inr hk))))⟩;have HI0:=za hI;clear hrow hc2 hg2 hoff hm2 hm2' hg2' hD2 hgD hoff2 hI d0 c0 HAd HEf HNw hlt;obtain⟨n,hn⟩:=zf E.length;rw[hn]at hcnt ⊢;have HN:=za hn;clear hn;go_upto_region 5 with fail
 go_loopw [29] (fun v29 wr => ∃(j:Nat) (D':Nat→Prop),v29=.int .i64 (j:Nat)∧j≤n∧ExI w wr D p tt q bb bs E R a c D' j) (fun v29 _=>n-(intOf v29).toNat)
 case atStart=>exact⟨0,D2,rfl,yi _,HI0.out⟩
 case round =>
  obtain⟨j,D',rfl,hjn,hI⟩:=hrel;have HI:=za hI;obtain⟨Dc',Db',Ds',hM⟩:=hI.mem;by_cases hlt2:j<n
  ·have hlt':(j:Int)<(n:Int):=by omega
   have j0':(0:Int)≤(j:Int):=by omega
   have wj:IntKind.i64.wrap ((j:Int)+1)=(j:Int)+1:=zt _ (by omega);obtain⟨x,hx⟩ : ∃ x,E[j]? = some x:=⟨_,zL (by rw[HN.out];exact hlt2)⟩;have hdr:E.drop j=x::E.drop (j+1):=by
    have hjl:j<E.length:=by rw[HN.out];exact hlt2
    rw[jQ hjl];rw[zL hjl]at hx;injection hx with hx
    rw[hx]
   rw[hdr]at hM;obtain⟨ad0,had,z0,z1,z2⟩:=Qv hI.row.rd hx;have hsub:(x::E.drop (j+1)++R).Sublist M:=by
    rw[← HSp.out,← hdr];exact List.Sublist.append_right (List.drop_sublist _ _) _
   have hxM:x∈M:=hsub.subset (by simp);have hLs:yJ now (x::E.drop (j+1)++R):=⟨HL.out.ord.sublist hsub,fun a ha b hb=>HL.out.slots a (hsub.subset ha) b (hsub.subset hb),fun a ha b hb=>HL.out.births a (hsub.subset ha) b (hsub.subset hb),fun a ha=>HL.out.rng a (hsub.subset ha)⟩;obtain⟨_,n1,n2,n3⟩:=hLs.out (x:=x) (M':=E.drop (j+1)++R) (List.Perm.refl _) (kp.1 hLs.ord).2;obtain⟨r1,r2,r3,r4,r5⟩:=HL.out.rng x hxM;have hcan:vz (yr R) x.slot=yr R:=by
    have hb:xL (yr R) x.slot=false:=by
     cases hh:xL (yr R) x.slot with
     | false=>rfl
     | true =>
      obtain⟨y,hy,e⟩:=uL.1 hh;exact absurd e ((n1 y).1 (xM _ (Zq.1 hy).1)).2
    unfold vz;rw[Xd r1 (Vx hb)];dsimp only;rw[zh (by decide)]
   have hal:zc wr (wr.alloc (.cells #[.int .u32 x.slot,.int .u64 x.dl,.int .u64 x.birth] 236)):=(Mod.refl _ wr).alloc _;have h8:=zj (w:=wr) (o := .cells #[.int .u32 x.slot,.int .u64 x.dl,.int .u64 x.birth] 236 (0,0)) rfl;have hdp:=fun W (hW:zc (wr.alloc (.cells #[.int .u32 x.slot,.int .u64 x.dl,.int .u64 x.birth] 236)) W)=>zbG ((hM.pure hal).pure hW) (x:=x) (M':=E.drop (j+1)++R) (by simp) (by omega) r5 n1 n2 n3
   rw[hcan]at hdp;unfold tdV at hdp;subst had;have HDp:=za hdp;have HAL:=za hal;clear hM hI hdr hsub hxM hLs n1 n2 n3 hcan hdp hal hx;go_upto_region 7 with fail
   generalize wr.alloc (.cells #[.int .u32 x.slot,.int .u64 x.dl,.int .u64 x.birth] 236)=W3 at *;obtain⟨b8,hb8⟩:=zf wr.heap.size;rw[hb8]at h8 ⊢;have HB8:=za hb8;clear hb8 z0 z1 z2;obtain⟨h8_0,h8_1,h8_2,h8_f,h8_l,H_h8⟩:=cr3 h8;clear h8;go_upto_region 8 with(go_at_call 191;refine zq (HDp.out _ (by first | exact Mod.refl _ _ | exact(Mod.refl _ _).drew)) ?_;rintro e w5 ⟨rfl,⟨D3,Dc3,Db3,Ds3,hM3,hg3⟩,hm3⟩)
   have hm5:Mod D' wr w5:=(Mod.of_pure' HAL.out).trans (by first | exact hm3 | exact Mod.of_drew hm3);have hsw:=HI.out.mod.size;have hg5 : ∀ k,D3 k→D' k∨wr.heap.size≤k:=fun k hk=>by
    rcases hg3 k hk with e | e
    ·exact .inl e
    ·have e':W3.heap.size≤k:=e;exact .inr (zH HAL.out.size e')
   have hrl : ∀ g,(Value.slice (some ad0) E.length c).ownBlock=some g→g<wr.heap.size:=fun g hg=>vY HI.out.row hg
   have hI5:ExI w w5 D p tt q bb bs E R (some ad0) c D3 (j+1):=⟨⟨_,_,_,hM3⟩,fun k hk=>(by
     rcases hg5 k hk with e | e
     ·exact HI.out.grew k e
     ·exact .inr (zH hsw e)),zy HI.out.row hm5 (fun g hg=>(HI.out.off g hg).1),fun g hg=>⟨fun hk=>(by
     rcases hg5 g hk with e | e
     ·exact(HI.out.off g hg).1 e
     ·have:=hrl g hg;omega),(HI.out.off g hg).2⟩,HI.out.mod.trans' hm5 (fun _ _ h=>h) (fun k hk h=>(by
     rcases HI.out.grew k h with e | e
     ·exact e
     ·omega))⟩
   have HI5:=za hI5;clear hm3 hg3 hM3 hm5 hg5 hsw hrl hI5;go_wp2;go_roundw
   case rel=>exact⟨j+1,D3,by go_num,hlt2,HI5.out⟩
   case measure=>simp[intOf];omega
  ·have e:j=n:=by omega
   subst e;have hd0:E.drop j=[]:=Zw (by rw[HN.out];exact zI _);rw[hd0,Yt]at hM;have hF:yh wr D' p tt R:=⟨_,_,_,_,_,_,hM,HR.out⟩;have HF:=za hF;clear hM hI hd0 hF;go_wp2;refine zN (v := .slice a j c) (by simp[results,results132,go_sem]) rfl ⟨a,c,by rw[HN.out],HI.out.row,⟨D',HF.out,HI.out.grew,fun g hg=>HI.out.off g hg⟩,HI.out.mod⟩
end
section
variable{w w':World}{D:Nat→Prop}{p now q bb bs:Nat}{Dc:Nat→Prop}{Db Ds:DataW Unit}{M M' L acc:List Td}{x:Td}{tv:List Nat}
def zcP(tv:List Nat)(M:List Td):Int:=if (ZE tv [] M).isSome then 0 else 2
def zbI(tv:List Nat)(M:List Td):List Td:=(ZE tv [] M).getD M
structure RnP(now:Nat)(M:List Td)(tv:List Nat)(acc:List Td)(j:Nat):Prop where
 key:uG acc=uG (M.take j)
 law:yJ now acc
 rest:ZE tv [] M=ZE tv acc (M.drop j)
theorem RnP.start(h:yJ now M):RnP now M tv [] 0:=⟨rfl,yJ.nil _,rfl⟩
theorem zaR(A B:List Td):uG (A++B)=uG A++uG B:=by unfold uG;simp
theorem RnP.next{j t:Nat}(h:RnP now M tv acc j)(hM:yJ now M)(hx:M[j]? = some x)(ht:tv[x.slot]? = some t)(h4:t<4194304)(hb:xL acc t=false) :
  RnP now M tv (acc++[⟨t,x.dl,x.birth⟩]) (j+1)∧xQ acc ⟨t,x.dl,x.birth⟩=acc++[⟨t,x.dl,x.birth⟩]∧(∀ y∈acc,y.slot≠t)∧(∀ y∈acc,y.birth≠x.birth)∧yJ now (acc++[⟨t,x.dl,x.birth⟩]):=by
 have hj:j<M.length:=(zE.1 hx).1;have hxe:M[j]=x:=(zE.1 hx).2;have htk:M.take (j+1)=M.take j++[x]:=by rw[List.take_succ_eq_append_getElem hj,hxe]
 have hdr:M.drop j=x::M.drop (j+1):=by rw[jQ hj,hxe]
 have hk:uG (acc++[⟨t,x.dl,x.birth⟩])=uG (M.take (j+1)):=by rw[htk,zaR,zaR,h.key];rfl
 have hs:=zhS hk.symm (hM.ord.sublist (List.take_sublist _ _));have n1 : ∀ y∈acc,y.slot≠t:=fun y hy e=>by rw[uL.2 ⟨y,hy,e⟩]at hb;cases hb
 have n2 : ∀ y∈acc,y.birth≠x.birth:=fun y hy e=>by
  have h1:=(qd.1 hs).2.2 y hy ⟨t,x.dl,x.birth⟩ (by simp);obtain⟨z,hz,e1,e2⟩:=zi7 h.key.symm hy;have hzM:=(List.take_sublist _ _).subset hz;have hzx:z=x:=hM.births z hzM x (yl hx) (by rw[e2,e]);unfold bef at h1;rw[← e1,hzx]at h1;simp at h1;omega
 obtain⟨r1,r2,r3,r4,r5⟩:=hM.rng x (yl hx);have hp:=h.law.put (x:=⟨t,x.dl,x.birth⟩) n1 n2 ⟨h4,r2,r3,r4,r5⟩;have hpe:xQ acc ⟨t,x.dl,x.birth⟩=acc++[⟨t,x.dl,x.birth⟩]:=Z6 hp.ord hs (qz.trans (K0 _ _).symm);refine⟨⟨hk,by rw[← hpe];exact hp,?_⟩,hpe,n1,n2,by rw[← hpe];exact hp⟩;rw[h.rest,hdr]
 conv=>lhs;unfold ZE
 rw[ht];simp only;rw[zk ⟨h4,hb⟩]
theorem RnP.fin(h:RnP now M tv acc M.length):zcP tv M=0∧zbI tv M=acc:=by
 have:ZE tv [] M=some acc:=by
  rw[h.rest,List.drop_length]
  rfl
 unfold zcP zbI;rw[this];exact⟨rfl,rfl⟩
theorem yh.over{D2:Nat→Prop}{p2:Nat}(h:yh w D p now M)(h2:yh w D2 p2 now M')(hd : ∀ k,D k → ¬ D2 k) :
  ∃ q2 b2 s2,(w.cell? ⟨p2,0,none⟩=some (lkP q2)∧w.cell? ⟨p2,1,none⟩=some (.map (some b2))∧w.cell? ⟨p2,2,none⟩=some (.map (some s2))) ∧
   (∃ v0 v1 v2,w.heap[p]? = some (.cells #[v0,v1,v2] 232 (0,0))∧w.heap[p2]? = some (.cells #[lkP q2,.map (some b2),.map (some s2)] 232 (0,0))) ∧
   ∃ D',yh (((w.setCell ⟨p,0,none⟩ (lkP q2)).setCell ⟨p,1,none⟩ (.map (some b2))).setCell ⟨p,2,none⟩ (.map (some s2))) D' p now M'∧(∀ k,D' k→D k∨D2 k) ∧
    Mod (fun k=>k=p) w (((w.setCell ⟨p,0,none⟩ (lkP q2)).setCell ⟨p,1,none⟩ (.map (some b2))).setCell ⟨p,2,none⟩ (.map (some s2))):=by
 obtain⟨q,bb,bs,Dc,Db,Ds,h1,_⟩:=h;obtain⟨q2,b2,s2,Dc2,Db2,Ds2,k1,k2⟩:=h2;have hp:D p:=(h1.dd p).2 (.inl rfl);have np : ¬ D2 p:=hd p hp;have hm:Mod (fun k=>k=p) w (((w.setCell ⟨p,0,none⟩ (lkP q2)).setCell ⟨p,1,none⟩ (.map (some b2))).setCell ⟨p,2,none⟩ (.map (some s2))):=(((Mod.refl (fun k=>k=p) w).setCell (p:=⟨p,0,none⟩) (fun _=>rfl) _).setCell (p:=⟨p,1,none⟩) (fun _=>rfl) _).setCell (p:=⟨p,2,none⟩) (fun _=>rfl) _;have a1:p≠b2:=fun e=>np (e ▸ (k1.dd b2).2 (.inr (.inl rfl)))
 have a2:p≠s2:=fun e=>np (e ▸ (k1.dd s2).2 (.inr (.inr (.inl rfl))))
 have a3 : ¬ Dc2 p:=fun e=>np ((k1.dd p).2 (.inr (.inr (.inr e))))
 refine⟨q2,b2,s2,k1.cells,⟨_,_,_,h1.box,k1.box⟩,fun k=>k=p∨k=b2∨k=s2∨Dc2 k,⟨q2,b2,s2,Dc2,Db2,Ds2,⟨QG h1.box,k1.cas.frame hm (fun k hk e=>a3 (e ▸ hk)),k1.births.mod hm (fun e=>a1 e.symm),k1.slots.mod hm (fun e=>a2 e.symm),a3,k1.nbb,k1.nbs,⟨a1,a2,k1.ne.2.2⟩,fun k=>vP⟩,k2⟩,fun k hk => ?_,hm⟩;rcases hk with rfl | rfl | rfl | e
 ·exact .inl hp
 ·exact .inr ((k1.dd k).2 (.inr (.inl rfl)))
 ·exact .inr ((k1.dd k).2 (.inr (.inr (.inl rfl))))
 ·exact .inr ((k1.dd k).2 (.inr (.inr (.inr e))))
end
section
variable{w w':World}{D:Nat→Prop}{p now q bb bs:Nat}{Dc:Nat→Prop}{Db Ds:DataW Unit}{M M' L acc:List Td}{x:Td}{tv:List Nat}
theorem yh.mem(h:yh w D p now M) : ∃ q bb bs Dc Db Ds,yT w D p now q bb bs Dc Db Ds M (yr M):=by
 obtain⟨q,bb,bs,Dc,Db,Ds,h1,h2⟩:=h;exact⟨q,bb,bs,Dc,Db,Ds,h1⟩
end
end
section
open Go.RowKit
structure CaB where
 p:Nat
 d:Nat
 c:Nat
 o:Nat
 u:Nat
 t:Nat
 v:Nat
 Dd:Nat→Prop
 Do:Nat→Prop
 Dt:Nat→Prop
 ns:List EvN
 Gs:List Grp
 cl:Nat→Nat
structure CaS where
 cfg:Cfg
 L:List (Option CE)
 births:Nat
 lim:Int
 A:List Wt
 B:List Wt
 mc:Nat
 mb:Nat
 U:Bu
 now:Nat
 M:List Td
 evs:List Ev
def zS(L:List (Option CE)):List (Option Ent):=L.map (fun o=>o.map CE.ent)
def CaB.D(b:CaB)(k:Nat):Prop:=k=b.p∨b.Dd k∨k=b.c∨b.Do k∨k=b.u∨b.Dt k∨evD b.v b.ns k
structure CaB.Sep(b:CaB):Prop where
 p:b.cl b.p=1
 d : ∀ k,b.Dd k→b.cl k=2
 c:b.cl b.c=3
 o : ∀ k,b.Do k→b.cl k=4
 u:b.cl b.u=5
 t : ∀ k,b.Dt k→b.cl k=6
 v : ∀ k,evD b.v b.ns k→b.cl k=7
 z:b.cl 0=0
structure zr(Fo:Nat→Prop)(w:World)(b:CaB)(s:CaS):Prop where
 box:w.heap[b.p]? = some (.cells #[xt b.d,jR b.c,lkP b.o,buP b.u,lkP b.t,lkP b.v,.int .i64 s.cfg.count,.int .i64 s.cfg.bytes,.int .i64 s.cfg.prot,.int .u64 s.cfg.seed,.bool s.cfg.same] 136 (0,0))
 dict:yb (fun k=>Fo k∨b.D k) w b.Dd b.d s.cfg.seed s.cfg.same (zS s.L) b.Gs
 ctr:Ctr w b.c s.births
 order:yY w b.Do b.o s.lim s.A s.B
 used:yS w b.u s.mc s.mb s.U
 due:yh w b.Dt b.t s.now s.M
 ev:xN (fun k=>Fo k∨b.D k) w b.v b.ns
 evs:kY b.ns=s.evs
 sep:b.Sep
 tab:xA w
def xW(w:World)(cl:Nat→Nat)(n:Nat)(k:Nat):Nat:=if k<w.heap.size then cl k else n
theorem qD{w:World}{cl:Nat→Nat}{n k:Nat}(h:k<w.heap.size):xW w cl n k=cl k:=zk h
theorem Vd{w:World}{cl:Nat→Nat}{n k:Nat}(h:w.heap.size≤k):xW w cl n k=n:=zh (by omega)
section
variable{Fo S:Nat→Prop}{w w':World}{b:CaB}{s:CaS}
theorem zr.lt(h:zr Fo w b s){k:Nat}(hk:b.D k):k<w.heap.size:=by
 rcases hk with rfl | e | rfl | e | rfl | e | e
 ·exact zm h.box
 ·exact h.dict.lt e
 ·exact zm h.ctr
 ·exact h.order.lt e
 ·exact zm h.used.box
 ·exact h.due.lt e
 ·exact h.ev.lt e
theorem zr.pos(h:zr Fo w b s):0<w.heap.size:=h.tab.lt
theorem zr.pure(h:zr Fo w b s)(hp:zc w w'):zr Fo w' b s :=
 ⟨hp.heap (fun h=>h) h.box,h.dict.pure hp,h.ctr.pure hp,h.order.pure hp,h.used.pure hp,h.due.pure hp,(by obtain⟨k0,k1,k2,k3,k4,k5,h⟩:=h.ev;exact⟨k0,k1,k2,k3,k4,k5,h.pure hp⟩),h.evs,h.sep,h.tab.pure hp⟩
theorem zr.less{Fo':Nat→Prop}(h:zr Fo w b s)(h1 : ∀ k,Fo' k→Fo k):zr Fo' w b s :=
 ⟨h.box,h.dict.less (fun k hk=>hk.imp (h1 k) (fun h=>h)),h.ctr,h.order,h.used,h.due,h.ev.less (fun k hk=>hk.imp (h1 k) (fun h=>h)),h.evs,h.sep,h.tab⟩
theorem zr.foreign(h:zr Fo w b s)(hm:Mod S w w')(hd : ∀ k,b.D k → ¬ S k)(hS : ∀ k,k<w.heap.size→S k→Fo k)(h0 : ¬ S 0):zr Fo w' b s :=
 ⟨hm.heap (hd _ (.inl rfl)) h.box,h.dict.frameF hm (fun k hk=>hd k (.inr (.inl hk))) (fun k hk hs => .inl (.inl (hS k hk hs))),hm.heap (hd _ (.inr (.inr (.inl rfl)))) h.ctr,h.order.frame hm (fun k hk=>hd k (.inr (.inr (.inr (.inl hk))))),h.used.frame hm (hd _ (.inr (.inr (.inr (.inr (.inl rfl)))))),h.due.frame hm (fun k hk=>hd k (.inr (.inr (.inr (.inr (.inr (.inl hk))))))),
  (by obtain⟨k0,k1,k2,k3,k4,k5,h1⟩:=h.ev;exact⟨k0,k1,k2,k3,k4,k5,h1.frameF hm (fun k hk=>hd k (.inr (.inr (.inr (.inr (.inr (.inr hk))))))) (fun k hk hs => .inl (.inl (hS k hk hs)))⟩),h.evs,h.sep,h.tab.mod hm h0⟩
end
section
variable{Fo S:Nat→Prop}{w w':World}{b:CaB}{s:CaS}
structure zeJ(F':Nat→Prop)(w':World)(b:CaB)(s:CaS)(j:Nat):Prop where
 box:j≠1→w'.heap[b.p]? = some (.cells #[xt b.d,jR b.c,lkP b.o,buP b.u,lkP b.t,lkP b.v,.int .i64 s.cfg.count,.int .i64 s.cfg.bytes,.int .i64 s.cfg.prot,.int .u64 s.cfg.seed,.bool s.cfg.same] 136 (0,0))
 dict:j≠2→yb F' w' b.Dd b.d s.cfg.seed s.cfg.same (zS s.L) b.Gs
 ctr:j≠3→Ctr w' b.c s.births
 order:j≠4→yY w' b.Do b.o s.lim s.A s.B
 used:j≠5→yS w' b.u s.mc s.mb s.U
 due:j≠6→yh w' b.Dt b.t s.now s.M
 ev:j≠7→xN F' w' b.v b.ns
 tab:xA w'
theorem zr.rest(h:zr Fo w b s){j:Nat}(hm:Mod S w w')(hj:j≠0)(hS : ∀ k,k<w.heap.size→S k→b.cl k=j∧b.D k){F':Nat→Prop}(h1 : ∀ k,F' k→(Fo k∨b.D k)∨w.heap.size≤k)(h2 : ∀ k,F' k→k<w'.heap.size):zeJ F' w' b s j:=by
 have no : ∀ k,b.D k→b.cl k≠j → ¬ S k:=fun k hk hc hs=>hc (hS k (h.lt hk) hs).1
 refine⟨fun hn=>hm.heap (no b.p (.inl rfl) (by rw[h.sep.p];omega)) h.box,fun hn=>h.dict.frameR hm (fun k hk=>no k (.inr (.inl hk)) (by rw[h.sep.d k hk];omega)) (fun k hk hs => .inr (hS k hk hs).2) h1 h2,fun hn=>hm.heap (no b.c (.inr (.inr (.inl rfl))) (by rw[h.sep.c];omega)) h.ctr,
  fun hn=>h.order.frame hm (fun k hk=>no k (.inr (.inr (.inr (.inl hk)))) (by rw[h.sep.o k hk];omega)),fun hn=>h.used.frame hm (no b.u (.inr (.inr (.inr (.inr (.inl rfl))))) (by rw[h.sep.u];omega)),
  fun hn=>h.due.frame hm (fun k hk=>no k (.inr (.inr (.inr (.inr (.inr (.inl hk)))))) (by rw[h.sep.t k hk];omega)),fun hn=>h.ev.frameR hm (fun k hk=>no k (.inr (.inr (.inr (.inr (.inr (.inr hk)))))) (by rw[h.sep.v k hk];omega)) (fun k hk hs => .inr (hS k hk hs).2) h1 h2,
  h.tab.mod hm (fun hs=>by have:=(hS 0 h.pos hs).1;rw[h.sep.z]at this;omega)⟩
theorem zr.flt(h:zr Fo w b s){k:Nat}(hk:Fo k):k<w.heap.size:=h.dict.flt _ (.inl hk)
theorem CaB.Sep.grow(h:b.Sep)(hl : ∀ k,b.D k→k<w.heap.size)(h0:0<w.heap.size){j:Nat}{Dd' Do' Dt':Nat→Prop}{ns':List EvN}(gd : ∀ k,Dd' k→b.Dd k∨w.heap.size≤k∧j=2)(go : ∀ k,Do' k→b.Do k∨w.heap.size≤k∧j=4)(gt : ∀ k,Dt' k→b.Dt k∨w.heap.size≤k∧j=6)(gv : ∀ k,evD b.v ns' k→evD b.v b.ns k∨w.heap.size≤k∧j=7){Gs':List Grp} :
  CaB.Sep {b with Dd:=Dd',Do:=Do',Dt:=Dt',ns:=ns',Gs:=Gs',cl:=xW w b.cl j}:=by
 refine⟨?_,fun k hk => ?_,?_,fun k hk => ?_,?_,fun k hk => ?_,fun k hk => ?_,?_⟩
 ·show xW w b.cl j b.p=1
  rw[qD (hl _ (.inl rfl)),h.p]
 ·show xW w b.cl j k=2
  rcases gd k hk with e | ⟨e,ej⟩
  ·rw[qD (hl _ (.inr (.inl e))),h.d k e]
  ·rw[Vd e,ej]
 ·show xW w b.cl j b.c=3
  rw[qD (hl _ (.inr (.inr (.inl rfl)))),h.c]
 ·show xW w b.cl j k=4
  rcases go k hk with e | ⟨e,ej⟩
  ·rw[qD (hl _ (.inr (.inr (.inr (.inl e))))),h.o k e]
  ·rw[Vd e,ej]
 ·show xW w b.cl j b.u=5
  rw[qD (hl _ (.inr (.inr (.inr (.inr (.inl rfl)))))),h.u]
 ·show xW w b.cl j k=6
  rcases gt k hk with e | ⟨e,ej⟩
  ·rw[qD (hl _ (.inr (.inr (.inr (.inr (.inr (.inl e))))))),h.t k e]
  ·rw[Vd e,ej]
 ·show xW w b.cl j k=7
  rcases gv k hk with e | ⟨e,ej⟩
  ·rw[qD (hl _ (.inr (.inr (.inr (.inr (.inr (.inr e))))))),h.v k e]
  ·rw[Vd e,ej]
 ·show xW w b.cl j 0=0
  rw[qD h0,h.z]
theorem zr.putDict(h:zr Fo w b s){Dd':Nat→Prop}{Gs':List Grp}{L':List (Option CE)}(hd:yb (fun k=>Fo k∨b.D k) w' Dd' b.d s.cfg.seed s.cfg.same (zS L') Gs')(hm:Mod b.Dd w w')(hg:uc b.Dd Dd' w):zr Fo w' {b with Dd:=Dd',Gs:=Gs',cl:=xW w b.cl 2} {s with L:=L'}:=by
 obtain⟨b',hb'⟩ : ∃ b',{b with Dd:=Dd',Gs:=Gs',cl:=xW w b.cl 2}=b':=⟨_,rfl⟩;have hDn : ∀ k,b'.D k→b.D k∨w.heap.size≤k:=fun k hk=>by
  subst hb';rcases hk with e | e | e | e | e | e | e
  ·exact .inl (.inl e)
  ·exact(hg k e).imp (fun e=>(.inr (.inl e))) (fun e=>e)
  ·exact .inl (.inr (.inr (.inl e)))
  ·exact .inl (.inr (.inr (.inr (.inl e))))
  ·exact .inl (.inr (.inr (.inr (.inr (.inl e)))))
  ·exact .inl (.inr (.inr (.inr (.inr (.inr (.inl e))))))
  ·exact .inl (.inr (.inr (.inr (.inr (.inr (.inr e))))))
 have hDl : ∀ k,b'.D k→k<w'.heap.size:=fun k hk=>by
  subst hb';rcases hk with e | e | e | e | e | e | e
  ·exact hm.lt (h.lt (.inl e))
  ·exact hd.lt e
  ·exact hm.lt (h.lt (.inr (.inr (.inl e))))
  ·exact hm.lt (h.lt (.inr (.inr (.inr (.inl e)))))
  ·exact hm.lt (h.lt (.inr (.inr (.inr (.inr (.inl e))))))
  ·exact hm.lt (h.lt (.inr (.inr (.inr (.inr (.inr (.inl e)))))))
  ·exact hm.lt (h.lt (.inr (.inr (.inr (.inr (.inr (.inr e)))))))
 have hr:=h.rest (j:=2) hm (by decide) (fun k _ hs=>⟨h.sep.d k hs,(.inr (.inl hs))⟩) (F':=fun k=>Fo k∨b'.D k) (fun k hk=>hk.elim (fun e => .inl (.inl e)) (fun e=>(hDn k e).imp .inr (fun e=>e))) (fun k hk=>hk.elim (fun e=>hm.lt (h.flt e)) (hDl k));have hd2:=hd.add (T:=Dd') (fun k hk=>hd.holds hk);have hd3:=hd2.less (Fo':=fun k=>Fo k∨b'.D k) (fun k hk=>by
  rcases hk with e | e
  ·exact .inl (.inl e)
  ·subst hb';rcases e with e | e | e | e | e | e | e
   ·exact .inl (.inr (.inl e))
   ·exact .inr e
   ·exact .inl (.inr (.inr (.inr (.inl e))))
   ·exact .inl (.inr (.inr (.inr (.inr (.inl e)))))
   ·exact .inl (.inr (.inr (.inr (.inr (.inr (.inl e))))))
   ·exact .inl (.inr (.inr (.inr (.inr (.inr (.inr (.inl e)))))))
   ·exact .inl (.inr (.inr (.inr (.inr (.inr (.inr (.inr e))))))))
 have hsep:=h.sep.grow (w:=w) (fun k hk=>h.lt hk) h.pos (j:=2) (fun k hk=>(hg k hk).imp (fun e=>e) (fun e=>⟨e,rfl⟩)) (fun k hk => .inl hk) (fun k hk => .inl hk) (fun k hk => .inl hk) (Gs':=Gs');subst hb';exact⟨hr.box (by decide),hd3,hr.ctr (by decide),hr.order (by decide),hr.used (by decide),hr.due (by decide),hr.ev (by decide),h.evs,hsep,hr.tab⟩
theorem zr.putOrder(h:zr Fo w b s){Do':Nat→Prop}{lim':Int}{A' B':List Wt}(hd:yY w' Do' b.o lim' A' B')(hm:Mod b.Do w w')(hg : ∀ k,Do' k→b.Do k∨w.heap.size≤k):zr Fo w' {b with Do:=Do',cl:=xW w b.cl 4} {s with lim:=lim',A:=A',B:=B'}:=by
 obtain⟨b',hb'⟩ : ∃ b',{b with Do:=Do',cl:=xW w b.cl 4}=b':=⟨_,rfl⟩;have hDn : ∀ k,b'.D k→b.D k∨w.heap.size≤k:=fun k hk=>by
  subst hb';rcases hk with e | e | e | e | e | e | e
  ·exact .inl (.inl e)
  ·exact .inl (.inr (.inl e))
  ·exact .inl (.inr (.inr (.inl e)))
  ·exact(hg k e).imp (fun e=>(.inr (.inr (.inr (.inl e))))) (fun e=>e)
  ·exact .inl (.inr (.inr (.inr (.inr (.inl e)))))
  ·exact .inl (.inr (.inr (.inr (.inr (.inr (.inl e))))))
  ·exact .inl (.inr (.inr (.inr (.inr (.inr (.inr e))))))
 have hDl : ∀ k,b'.D k→k<w'.heap.size:=fun k hk=>by
  subst hb';rcases hk with e | e | e | e | e | e | e
  ·exact hm.lt (h.lt (.inl e))
  ·exact hm.lt (h.lt (.inr (.inl e)))
  ·exact hm.lt (h.lt (.inr (.inr (.inl e))))
  ·exact hd.lt e
  ·exact hm.lt (h.lt (.inr (.inr (.inr (.inr (.inl e))))))
  ·exact hm.lt (h.lt (.inr (.inr (.inr (.inr (.inr (.inl e)))))))
  ·exact hm.lt (h.lt (.inr (.inr (.inr (.inr (.inr (.inr e)))))))
 have hr:=h.rest (j:=4) hm (by decide) (fun k _ hs=>⟨h.sep.o k hs,(.inr (.inr (.inr (.inl hs))))⟩) (F':=fun k=>Fo k∨b'.D k) (fun k hk=>hk.elim (fun e => .inl (.inl e)) (fun e=>(hDn k e).imp .inr (fun e=>e))) (fun k hk=>hk.elim (fun e=>hm.lt (h.flt e)) (hDl k));have hsep:=h.sep.grow (w:=w) (fun k hk=>h.lt hk) h.pos (j:=4) (fun k hk => .inl hk) (fun k hk=>(hg k hk).imp (fun e=>e) (fun e=>⟨e,rfl⟩)) (fun k hk => .inl hk) (fun k hk => .inl hk) (Gs':=b.Gs);subst hb';exact⟨hr.box (by decide),hr.dict (by decide),hr.ctr (by decide),hd,hr.used (by decide),hr.due (by decide),hr.ev (by decide),h.evs,hsep,hr.tab⟩
theorem zr.putDue(h:zr Fo w b s){Dt':Nat→Prop}{now':Nat}{M':List Td}(hd:yh w' Dt' b.t now' M')(hm:Mod b.Dt w w')(hg : ∀ k,Dt' k→b.Dt k∨w.heap.size≤k):zr Fo w' {b with Dt:=Dt',cl:=xW w b.cl 6} {s with now:=now',M:=M'}:=by
 obtain⟨b',hb'⟩ : ∃ b',{b with Dt:=Dt',cl:=xW w b.cl 6}=b':=⟨_,rfl⟩;have hDn : ∀ k,b'.D k→b.D k∨w.heap.size≤k:=fun k hk=>by
  subst hb';rcases hk with e | e | e | e | e | e | e
  ·exact .inl (.inl e)
  ·exact .inl (.inr (.inl e))
  ·exact .inl (.inr (.inr (.inl e)))
  ·exact .inl (.inr (.inr (.inr (.inl e))))
  ·exact .inl (.inr (.inr (.inr (.inr (.inl e)))))
  ·exact(hg k e).imp (fun e=>(.inr (.inr (.inr (.inr (.inr (.inl e))))))) (fun e=>e)
  ·exact .inl (.inr (.inr (.inr (.inr (.inr (.inr e))))))
 have hDl : ∀ k,b'.D k→k<w'.heap.size:=fun k hk=>by
  subst hb';rcases hk with e | e | e | e | e | e | e
  ·exact hm.lt (h.lt (.inl e))
  ·exact hm.lt (h.lt (.inr (.inl e)))
  ·exact hm.lt (h.lt (.inr (.inr (.inl e))))
  ·exact hm.lt (h.lt (.inr (.inr (.inr (.inl e)))))
  ·exact hm.lt (h.lt (.inr (.inr (.inr (.inr (.inl e))))))
  ·exact hd.lt e
  ·exact hm.lt (h.lt (.inr (.inr (.inr (.inr (.inr (.inr e)))))))
 have hr:=h.rest (j:=6) hm (by decide) (fun k _ hs=>⟨h.sep.t k hs,(.inr (.inr (.inr (.inr (.inr (.inl hs))))))⟩) (F':=fun k=>Fo k∨b'.D k) (fun k hk=>hk.elim (fun e => .inl (.inl e)) (fun e=>(hDn k e).imp .inr (fun e=>e))) (fun k hk=>hk.elim (fun e=>hm.lt (h.flt e)) (hDl k));have hsep:=h.sep.grow (w:=w) (fun k hk=>h.lt hk) h.pos (j:=6) (fun k hk => .inl hk) (fun k hk => .inl hk) (fun k hk=>(hg k hk).imp (fun e=>e) (fun e=>⟨e,rfl⟩)) (fun k hk => .inl hk) (Gs':=b.Gs);subst hb';exact⟨hr.box (by decide),hr.dict (by decide),hr.ctr (by decide),hr.order (by decide),hr.used (by decide),hd,hr.ev (by decide),h.evs,hsep,hr.tab⟩
theorem zr.putEv(h:zr Fo w b s){ns':List EvN}{evs':List Ev}(hd:xN (fun k=>Fo k∨b.D k) w' b.v ns')(he:kY ns'=evs')(hm:Mod (evD b.v b.ns) w w')(hg : ∀ k,evD b.v ns' k→evD b.v b.ns k∨w.heap.size≤k):zr Fo w' {b with ns:=ns',cl:=xW w b.cl 7} {s with evs:=evs'}:=by
 obtain⟨b',hb'⟩ : ∃ b',{b with ns:=ns',cl:=xW w b.cl 7}=b':=⟨_,rfl⟩;have hDn : ∀ k,b'.D k→b.D k∨w.heap.size≤k:=fun k hk=>by
  subst hb';rcases hk with e | e | e | e | e | e | e
  ·exact .inl (.inl e)
  ·exact .inl (.inr (.inl e))
  ·exact .inl (.inr (.inr (.inl e)))
  ·exact .inl (.inr (.inr (.inr (.inl e))))
  ·exact .inl (.inr (.inr (.inr (.inr (.inl e)))))
  ·exact .inl (.inr (.inr (.inr (.inr (.inr (.inl e))))))
  ·exact(hg k e).imp (fun e=>(.inr (.inr (.inr (.inr (.inr (.inr e))))))) (fun e=>e)
 have hDl : ∀ k,b'.D k→k<w'.heap.size:=fun k hk=>by
  subst hb';rcases hk with e | e | e | e | e | e | e
  ·exact hm.lt (h.lt (.inl e))
  ·exact hm.lt (h.lt (.inr (.inl e)))
  ·exact hm.lt (h.lt (.inr (.inr (.inl e))))
  ·exact hm.lt (h.lt (.inr (.inr (.inr (.inl e)))))
  ·exact hm.lt (h.lt (.inr (.inr (.inr (.inr (.inl e))))))
  ·exact hm.lt (h.lt (.inr (.inr (.inr (.inr (.inr (.inl e)))))))
  ·exact hd.lt e
 have hr:=h.rest (j:=7) hm (by decide) (fun k _ hs=>⟨h.sep.v k hs,(.inr (.inr (.inr (.inr (.inr (.inr hs))))))⟩) (F':=fun k=>Fo k∨b'.D k) (fun k hk=>hk.elim (fun e => .inl (.inl e)) (fun e=>(hDn k e).imp .inr (fun e=>e))) (fun k hk=>hk.elim (fun e=>hm.lt (h.flt e)) (hDl k));have hd2:=hd.add (T:=evD b.v ns') (fun k hk=>hd.holds hk);have hd3:=hd2.less (Fo':=fun k=>Fo k∨b'.D k) (fun k hk=>by
  rcases hk with e | e
  ·exact .inl (.inl e)
  ·subst hb';rcases e with e | e | e | e | e | e | e
   ·exact .inl (.inr (.inl e))
   ·exact .inl (.inr (.inr (.inl e)))
   ·exact .inl (.inr (.inr (.inr (.inl e))))
   ·exact .inl (.inr (.inr (.inr (.inr (.inl e)))))
   ·exact .inl (.inr (.inr (.inr (.inr (.inr (.inl e))))))
   ·exact .inl (.inr (.inr (.inr (.inr (.inr (.inr (.inl e)))))))
   ·exact .inr e)
 have hsep:=h.sep.grow (w:=w) (fun k hk=>h.lt hk) h.pos (j:=7) (fun k hk => .inl hk) (fun k hk => .inl hk) (fun k hk => .inl hk) (fun k hk=>(hg k hk).imp (fun e=>e) (fun e=>⟨e,rfl⟩)) (Gs':=b.Gs);subst hb';exact⟨hr.box (by decide),hr.dict (by decide),hr.ctr (by decide),hr.order (by decide),hr.used (by decide),hr.due (by decide),hd3,he,hsep,hr.tab⟩
theorem zr.putCtr(h:zr Fo w b s){n:Nat}(hd:Ctr w' b.c n)(hm:Mod (fun k=>k=b.c) w w'):zr Fo w' b {s with births:=n}:=by
 have hr:=h.rest (j:=3) hm (by decide) (fun k _ hs=>⟨by subst hs;exact h.sep.c,(.inr (.inr (.inl hs)))⟩) (F':=fun k=>Fo k∨b.D k) (fun k hk => .inl hk) (fun k hk=>hm.lt (hk.elim (fun e=>h.flt e) (fun e=>h.lt e)));exact⟨hr.box (by decide),hr.dict (by decide),hd,hr.order (by decide),hr.used (by decide),hr.due (by decide),hr.ev (by decide),h.evs,h.sep,hr.tab⟩
theorem zr.putUsed(h:zr Fo w b s){mc' mb':Nat}{U':Bu}(hd:yS w' b.u mc' mb' U')(hm:Mod (fun k=>k=b.u) w w'):zr Fo w' b {s with mc:=mc',mb:=mb',U:=U'}:=by
 have hr:=h.rest (j:=5) hm (by decide) (fun k _ hs=>⟨by subst hs;exact h.sep.u,(.inr (.inr (.inr (.inr (.inl hs)))))⟩) (F':=fun k=>Fo k∨b.D k) (fun k hk => .inl hk) (fun k hk=>hm.lt (hk.elim (fun e=>h.flt e) (fun e=>h.lt e)));exact⟨hr.box (by decide),hr.dict (by decide),hr.ctr (by decide),hr.order (by decide),hd,hr.due (by decide),hr.ev (by decide),h.evs,h.sep,hr.tab⟩
structure zv(w w':World)(b b':CaB):Prop where
 p:b'.p=b.p
 mod:Mod b.D w w'
 grew : ∀ k,b'.D k→b.D k∨w.heap.size≤k
theorem zv.trans{w2:World}{b1 b2:CaB}(h:zv w w' b b1)(k:zv w' w2 b1 b2):zv w w2 b b2 :=
 ⟨k.p.trans h.p,Mod.trans' h.mod k.mod (fun _ _ h=>h) (fun i hi e=>(h.grew i e).elim (fun e=>e) (fun e=>by omega)),fun i e=>(k.grew i e).elim (fun e=>h.grew i e) (fun e => .inr (zH h.mod.size e))⟩
theorem zv.pure(h:zc w w'):zv w w' b b:=⟨rfl,Mod.of_pure h,fun _ h => .inl h⟩
theorem zv.size{b':CaB}(h:zv w w' b b'):w.heap.size≤w'.heap.size:=h.mod.size
theorem zv.ofDict{Dd':Nat→Prop}{Gs':List Grp}(hm:Mod (b.Dd) w w')(hg : ∀ k,(Dd') k→(b.Dd) k∨w.heap.size≤k):zv w w' b {b with Dd:=Dd',Gs:=Gs',cl:=xW w b.cl 2}:=⟨rfl,hm.mono (fun _ _ hs=>(.inr (.inl hs))),fun k hk=>by
  rcases hk with e | e | e | e | e | e | e
  ·exact .inl ((.inl e))
  ·exact(hg k e).imp (fun e=>(.inr (.inl e))) (fun e=>e)
  ·exact .inl ((.inr (.inr (.inl e))))
  ·exact .inl ((.inr (.inr (.inr (.inl e)))))
  ·exact .inl ((.inr (.inr (.inr (.inr (.inl e))))))
  ·exact .inl ((.inr (.inr (.inr (.inr (.inr (.inl e)))))))
  ·exact .inl ((.inr (.inr (.inr (.inr (.inr (.inr e)))))))⟩
theorem zv.ofOrder{Do':Nat→Prop}(hm:Mod (b.Do) w w')(hg : ∀ k,(Do') k→(b.Do) k∨w.heap.size≤k):zv w w' b {b with Do:=Do',cl:=xW w b.cl 4}:=⟨rfl,hm.mono (fun _ _ hs=>(.inr (.inr (.inr (.inl hs))))),fun k hk=>by
  rcases hk with e | e | e | e | e | e | e
  ·exact .inl ((.inl e))
  ·exact .inl ((.inr (.inl e)))
  ·exact .inl ((.inr (.inr (.inl e))))
  ·exact(hg k e).imp (fun e=>(.inr (.inr (.inr (.inl e))))) (fun e=>e)
  ·exact .inl ((.inr (.inr (.inr (.inr (.inl e))))))
  ·exact .inl ((.inr (.inr (.inr (.inr (.inr (.inl e)))))))
  ·exact .inl ((.inr (.inr (.inr (.inr (.inr (.inr e)))))))⟩
theorem zv.ofDue{Dt':Nat→Prop}(hm:Mod (b.Dt) w w')(hg : ∀ k,(Dt') k→(b.Dt) k∨w.heap.size≤k):zv w w' b {b with Dt:=Dt',cl:=xW w b.cl 6}:=⟨rfl,hm.mono (fun _ _ hs=>(.inr (.inr (.inr (.inr (.inr (.inl hs))))))),fun k hk=>by
  rcases hk with e | e | e | e | e | e | e
  ·exact .inl ((.inl e))
  ·exact .inl ((.inr (.inl e)))
  ·exact .inl ((.inr (.inr (.inl e))))
  ·exact .inl ((.inr (.inr (.inr (.inl e)))))
  ·exact .inl ((.inr (.inr (.inr (.inr (.inl e))))))
  ·exact(hg k e).imp (fun e=>(.inr (.inr (.inr (.inr (.inr (.inl e))))))) (fun e=>e)
  ·exact .inl ((.inr (.inr (.inr (.inr (.inr (.inr e)))))))⟩
theorem zv.ofEv{ns':List EvN}(hm:Mod (evD b.v b.ns) w w')(hg : ∀ k,(evD b.v ns') k→(evD b.v b.ns) k∨w.heap.size≤k):zv w w' b {b with ns:=ns',cl:=xW w b.cl 7}:=⟨rfl,hm.mono (fun _ _ hs=>(.inr (.inr (.inr (.inr (.inr (.inr hs))))))),fun k hk=>by
  rcases hk with e | e | e | e | e | e | e
  ·exact .inl ((.inl e))
  ·exact .inl ((.inr (.inl e)))
  ·exact .inl ((.inr (.inr (.inl e))))
  ·exact .inl ((.inr (.inr (.inr (.inl e)))))
  ·exact .inl ((.inr (.inr (.inr (.inr (.inl e))))))
  ·exact .inl ((.inr (.inr (.inr (.inr (.inr (.inl e)))))))
  ·exact(hg k e).imp (fun e=>(.inr (.inr (.inr (.inr (.inr (.inr e))))))) (fun e=>e)⟩
theorem zv.ofCtr(hm:Mod (fun k=>k=b.c) w w'):zv w w' b b:=⟨rfl,hm.mono (fun _ _ hs=>(.inr (.inr (.inl hs)))),fun _ h => .inl h⟩
theorem zv.ofUsed(hm:Mod (fun k=>k=b.u) w w'):zv w w' b b:=⟨rfl,hm.mono (fun _ _ hs=>(.inr (.inr (.inr (.inr (.inl hs)))))),fun _ h => .inl h⟩
end
end
section
open Go.RowKit Go.Shelf
section
variable{Fo:Nat→Prop}{w w':World}{b:CaB}{s:CaS}
theorem j9(h:zr Fo w b s):Calls prog 69 #[lkP b.p] w fun e w'=>e=.returned (.bool false)∧w=w':=by
 have hb:=h.box;clear h;obtain⟨hb_0,hb_1,hb_2,hb_3,hb_4,hb_5,hb_6,hb_7,hb_8,hb_9,hb_10,hb_f,hb_l,H_hb⟩:=vg hb;clear hb;go_enter func69,ntmps69;go_wp2;go_ret;exact⟨rfl,rfl⟩
abbrev ceV(x:CE)(v:Value):Value := .agg #[.string x.key,v,.int .u64 x.dl,.int .u64 x.birth]
theorem yh.nowOk{D:Nat→Prop}{p now:Nat}{M:List Td}(h:yh w D p now M):Calls prog 83 #[lkP p] w fun e w'=>e=.returned (.int .u64 now)∧w=w':=by
 obtain⟨q,bb,bs,Dc,Db,Ds,h1,_⟩:=h;exact Kf h1
def TlS(p v t bx:Nat)(key:ByteArray)(vv:Value)(dl birth:Nat)(X:World):Prop :=
 X.cell? ⟨p,5,none⟩=some (lkP v)∧X.cell? ⟨p,4,none⟩=some (lkP t)∧X.cell? ⟨bx,0,none⟩=some (.string key)∧X.cell? ⟨bx,1,none⟩=some vv∧X.cell? ⟨bx,2,none⟩=some (.int .u64 dl)∧X.cell? ⟨bx,3,none⟩=some (.int .u64 birth)
def ZN(Fo:Nat→Prop)(w:World)(b:CaB)(s:CaS)(e:Ending)(w':World):Prop:=e=.returned (.tuple #[]) ∧ ∃ b',zr Fo w' b' s∧zv w w' b b'
theorem QF(h:zr Fo w b s){x:Ev}(hx:x.Ok)(htm:x.tm=s.now)(hlen:s.evs.length<1048576){a:Option Addr}{n c:Nat}(hv:zo w (.slice a n c) 1 (zQ x.e.val)) :
  Calls prog 124 #[lkP b.p,.int .i64 x.kind,ceV x.e (.slice a n c)] w (ZN Fo w b {s with evs:=s.evs++[x]}):=by
 have hp0:zc w (w.alloc (.cells #[.string x.e.key,.slice a n c,.int .u64 x.e.dl,.int .u64 x.e.birth] 141)):=(Mod.refl _ w).alloc _;have hbx:=zj (w:=w) (o := .cells #[.string x.e.key,.slice a n c,.int .u64 x.e.dl,.int .u64 x.e.birth] 141 (0,0)) rfl;have HH:=za (h.pure hp0);have HP:=za hp0;have HV:=za (hv.frame hp0 (fun _ _ h=>h));have hb:=(h.pure hp0).box;have HL:=za hlen;have HX:=za hx;have HTM:=za htm;have HLT:=za (fun k (hk:b.D k)=>h.lt hk);clear h hv hp0 hlen hx htm;go_enter func124,ntmps124;go_upto_region 1 with fail
 generalize w.alloc (.cells #[.string x.e.key,.slice a n c,.int .u64 x.e.dl,.int .u64 x.e.birth] 141)=W1 at *;obtain⟨bx,hbe⟩:=zf w.heap.size;rw[hbe]at hbx HLT ⊢;have HBE:=za hbe;clear hbe;have HB1:=za hb;have HB2:=za hbx;have HS:=za (fun(X:World) (hX:zc W1 X)=>(⟨zi X b.p 5 _ _ (0,0) (hX.heap (fun h=>h) hb),zi X b.p 4 _ _ (0,0) (hX.heap (fun h=>h) hb),zi X bx 0 _ _ (0,0) (hX.heap (fun h=>h) hbx),zi X bx 1 _ _ (0,0) (hX.heap (fun h=>h) hbx),zi X bx 2 _ _ (0,0) (hX.heap (fun h=>h) hbx),zi X bx 3 _ _ (0,0) (hX.heap (fun h=>h) hbx)⟩:TlS b.p b.v b.t bx x.e.key (.slice a n c) x.e.dl x.e.birth X));have HNo:=za (HH.out.due.pure ((Mod.refl (fun _=>False) W1).drew)).nowOk;have HAd:=za (zeP ((HH.out.pure (Mod.refl (fun _=>False) W1).drew).ev) HX.out (by have:=congrArg List.length HH.out.evs;unfold kY at this;rw[yn]at this;have:=HL.out;omega) (HV.out.frame ((Mod.refl (fun _=>False) W1).drew) (fun _ _ h=>h)));rw[HTM.out]at HAd;clear hb hbx;refine rHd (S:=TlS b.p b.v b.t bx x.e.key (.slice a n c) x.e.dl x.e.birth) (HS.out _ (Mod.refl _ _).drew) (fun h_ => ?_);refine hTk 0 ?_;refine hTk 1 ?_;refine hTk 2 ?_;refine hTk 3 ?_;refine hLd 4 ?_;refine hTk 5 ?_;refine hTk 6 ?_;refine hLd 7 ?_;refine hTk 8 ?_;refine hLd 9 ?_;refine hTk 10 ?_;refine hLd 11 ?_;refine hTk 12 ?_;refine hLd 13 ?_;refine hTk 14 ?_;refine hTk 15 ?_;refine hTk 16 ?_;refine hTk 17 ?_;refine hLd 18 ?_
 (refine hSt 19 (fun K hK => ?_);go_simp;refine HNo.out.mono ?_;rintro e u1 ⟨rfl,rfl⟩;refine hK.out _ _ ?_ (fun h_ => ?_);(· exact h_);clear hK K;refine clA ?_)
 refine hTk 20 ?_
 (refine hSt 21 (fun K hK => ?_);go_simp;refine HAd.out.mono ?_;rintro e u2 ⟨rfl,blk,vv,hev,hge,hfr,hme⟩;refine hK.out _ _ ?_ (fun h_ => ?_);(· exact⟨hme.cell (a:=⟨b.p,5,none⟩) (fun e=>by have e2:b.cl b.p=7:=HH.out.sep.v _ e;rw[HH.out.sep.p]at e2;cases e2) h_.1,hme.cell (a:=⟨b.p,4,none⟩) (fun e=>by have e2:b.cl b.p=7:=HH.out.sep.v _ e;rw[HH.out.sep.p]at e2;cases e2) h_.2.1,hme.cell (a:=⟨bx,0,none⟩) (fun e=>by have:bx<bx:=HLT.out bx (.inr (.inr (.inr (.inr (.inr (.inr e))))));omega) h_.2.2.1,hme.cell (a:=⟨bx,1,none⟩) (fun e=>by have:bx<bx:=HLT.out bx (.inr (.inr (.inr (.inr (.inr (.inr e))))));omega) h_.2.2.2.1,hme.cell (a:=⟨bx,2,none⟩) (fun e=>by have:bx<bx:=HLT.out bx (.inr (.inr (.inr (.inr (.inr (.inr e))))));omega) h_.2.2.2.2.1,hme.cell (a:=⟨bx,3,none⟩) (fun e=>by have:bx<bx:=HLT.out bx (.inr (.inr (.inr (.inr (.inr (.inr e))))));omega) h_.2.2.2.2.2⟩);clear hK K;refine clA ?_)
 refine hDn ?_;clear h_;have hev2:kY (b.ns++[(blk,x,vv)])=s.evs++[x]:=by rw[← HH.out.evs];simp[kY]
 have hgr : ∀ k,evD b.v (b.ns++[(blk,x,vv)]) k→evD b.v b.ns k∨W1.heap.size≤k:=fun k hk=>by
  rcases hk with e | ⟨n,hn,e⟩
  ·exact .inl (.inl e)
  ·rcases yz.1 hn with hn | hn
   ·exact .inl (.inr ⟨n,hn,e⟩)
   ·rw[zF.1 hn]at e;exact .inr (by rw[← e];exact hge)
 have hmw:Mod (evD b.v b.ns) W1 u2:=Mod.trans' ((Mod.refl (fun _=>False) W1).drew) hme (fun _ _ h=>h.elim) (fun _ _ h=>h);have HC:=za (HH.out.putEv hev hev2 hmw hgr);have HT:=za ((zv.pure HP.out).trans (zv.ofEv hmw hgr));clear hev hge hfr hme hev2 hgr hmw;go_wp2
 go_end0
 exact⟨rfl,_,HC.out,HT.out⟩
end
def Bu.rem(U:Bu)(g c:Nat):Bu:=if g=0 then {U with c0:=U.c0-1,s0:=U.s0-c}else {U with c1:=U.c1-1,s1:=U.s1-c}
theorem ziA(L:List (Option CE))(i:Nat):zS (L.set i none)=(zS L).set i none:=by unfold zS;rw[YM];rfl
theorem XA{L:List (Option CE)}{i:Nat}{x:CE}(h:L[i]? = some (some x)):(zS L)[i]? = some (some x.ent):=by unfold zS;rw[yC,h];rfl
section
variable{Fo:Nat→Prop}{w w':World}{b:CaB}{s:CaS}
theorem zaq{u mc mb:Nat}{U:Bu}(h:yS w u mc mb U){g:Nat}(hg:g≤1){c:Nat}(hc:c≤1099511627776)(hh:U.holds g c) :
  Calls prog 117 #[buP u,.int .i64 g,.int .i64 c] w fun e w'=>e=.returned (.int .i64 0)∧yS w' u mc mb (U.rem g c)∧Mod (fun k=>k=u) w w':=by
 obtain rfl | rfl:g=0∨g=1:=by omega
 ·exact zej h hc hh
 ·exact zbR h hc hh
structure LvF(w:World)(p k c1 c2:Nat):Prop where
 b1:w.heap[c1]? = some (.cells #[lkP p] 46 (0,0))
 b2:w.heap[c2]? = some (.cells #[.int .i64 k] 156 (0,0))
abbrev lvV(c1 c2:Nat):Value := .func (.func 139) #[] #[.pointer (some ⟨c1,0,none⟩),.pointer (some ⟨c2,0,none⟩)]
theorem LvF.mod{p k c1 c2:Nat}{S:Nat→Prop}(h:LvF w p k c1 c2)(hm:Mod S w w')(h1 : ¬ S c1)(h2 : ¬ S c2):LvF w' p k c1 c2:=⟨hm.heap h1 h.b1,hm.heap h2 h.b2⟩
theorem VE(p k:Nat)(w:World):Calls prog 86 #[lkP p,.int .i64 k] w fun e w'=>e=.returned (lvV w.heap.size (w.heap.size+1))∧LvF w' p k w.heap.size (w.heap.size+1)∧zc w w':=by
 have h1:=zG (o := .cells #[.int .i64 k] 156) (zj (w:=w) (o := .cells #[lkP p] 46 (0,0)) rfl);have h2:=zj (w:=w.alloc (.cells #[lkP p] 46)) (o := .cells #[.int .i64 k] 156 (0,0)) (n:=w.heap.size+1) (by simp);go_enter func86,ntmps86;go_wp2;go_ret;exact⟨rfl,⟨h1,h2⟩,((Mod.refl _ w).alloc _).alloc _⟩
def lvS(s:CaS)(k:Nat)(x:CE)(y:Wt):CaS :=
 {s with A:=zx s.A y.slot,B:=zx s.B y.slot,U:=s.U.rem (gOf s.B y.slot) y.cost,M:=vz s.M y.slot,L:=s.L.set y.slot none,evs:=s.evs++[⟨k,x,s.now⟩]}
theorem zv.nd{b':CaB}(h:zv w w' b b'){k:Nat}(hk : ¬ b.D k)(hl:k<w.heap.size) : ¬ b'.D k:=fun e=>(h.grew k e).elim hk (fun e=>by omega)
theorem zcn(B:List Wt)(s:Nat):gOf B s≤1:=by unfold gOf;split<;>omega
theorem zgS(h:zr Fo w b s){k c1 c2:Nat}(hf:LvF w b.p k c1 c2)(n1 : ¬ b.D c1)(n2 : ¬ b.D c2){x:CE}{y:Wt}(hx:s.L[y.slot]? = some (some x))(hy:y∈s.A++s.B)(hev:Ev.Ok ⟨k,x,s.now⟩)(hlen:s.evs.length<1048576)(hh:s.U.holds (gOf s.B y.slot) y.cost) :
    Calls prog 139 #[.int .u32 y.slot,.pointer (some ⟨c1,0,none⟩),.pointer (some ⟨c2,0,none⟩)] w (ZN Fo w b (lvS s k x y)):=by
  have hrg:=h.order.law.rng y hy;have HOf:=za (VL h.order hy);have HRm:=za (zjC h.order hy);have HH:=za h;have HF:=za hf;have HX:=za hx;have HEV:=za hev;have HLE:=za hlen;have HHh:=za hh;have HRG:=za hrg;have N1:=za n1;have N2:=za n2;have L1:=za (zm hf.b1);have L2:=za (zm hf.b2);have hb:=h.box;have hc1:=hf.b1;clear h hf hx hev hlen hh hrg n1 n2 hy;obtain⟨g,hg⟩:=zf (gOf s.B y.slot);rw[hg]at HOf HHh;have HG:=za hg;have HGL:Hid (g≤1):=za (by rw[← hg];exact zcn _ _);clear hg;obtain⟨sl,hsl⟩:=zf y.slot;obtain⟨co,hco⟩:=zf y.cost;rw[hsl]at HOf HRm HX HG HRG ⊢;rw[hco]at HOf HHh HRG;have HSL:=za hsl;have HCO:=za hco;clear hsl hco;obtain⟨hb_0,hb_1,hb_2,hb_3,hb_4,hb_5,hb_6,hb_7,hb_8,hb_9,hb_10,hb_f,hb_l,H_hb⟩:=vg hb;clear hb;obtain⟨hc1_0,hc1_f,hc1_l,H_hc1⟩:=cr1 hc1;clear hc1;go_enter func139,ntmps139;go_upto_region 2 with(first
    | (go_at_call 77;refine HOf.out.mono ?_;rintro e w' ⟨rfl,rfl⟩)
    | (go_at_call 140;refine HRm.out.mono ?_;rintro e w1 ⟨rfl,hr1,hm1⟩))
  clear hb_0 hb_1 hb_2 hb_3 hb_4 hb_5 hb_6 hb_7 hb_8 hb_9 hb_10 hb_f hb_l;clear hc1_0 hc1_f hc1_l;clear H_hb H_hc1;obtain⟨b1,C1,T1⟩ : ∃ b1,zr Fo w1 b1 {s with A:=zx s.A sl,B:=zx s.B sl}∧zv w w1 b b1:=⟨_,HH.out.putOrder hr1 hm1 (fun _ h => .inl h),zv.ofOrder hm1 (fun _ h => .inl h)⟩;have HBr:=za (zaq C1.used HGL.out (by have:=HRG.out;omega) HHh.out);have hb1:=C1.box;rw[T1.p]at hb1;have hc1:=HF.out.b1;have hc1:=T1.mod.heap N1.out hc1;have HC1:=za C1;have HT1:=za T1;clear hr1 hm1 C1 T1;obtain⟨hb1_0,hb1_1,hb1_2,hb1_3,hb1_4,hb1_5,hb1_6,hb1_7,hb1_8,hb1_9,hb1_10,hb1_f,hb1_l,H_hb1⟩:=vg hb1;clear hb1;obtain⟨hc1_0,hc1_f,hc1_l,H_hc1⟩:=cr1 hc1;clear hc1;go_upto_region 3 with(go_at_call 117;refine HBr.out.mono ?_;rintro e w2 ⟨rfl,hr2,hm2⟩)
  clear hb1_0 hb1_1 hb1_2 hb1_3 hb1_4 hb1_5 hb1_6 hb1_7 hb1_8 hb1_9 hb1_10 hb1_f hb1_l;clear hc1_0 hc1_f hc1_l;clear H_hb1 H_hc1;obtain⟨b2,C2,T2⟩ : ∃ b2,zr Fo w2 b2 {s with A:=zx s.A sl,B:=zx s.B sl,U:=s.U.rem g co}∧zv w w2 b b2:=⟨_,HC1.out.putUsed hr2 hm2,HT1.out.trans (zv.ofUsed hm2)⟩;have HDr:=za (C2.due.remove (s:=sl) (by have:=HRG.out;omega));have hb2:=C2.box;rw[T2.p]at hb2;have hc1:=T2.mod.heap N1.out HF.out.b1;have HC2:=za C2;have HT2:=za T2;clear hr2 hm2 C2 T2 HC1 HT1 HBr;obtain⟨hb2_0,hb2_1,hb2_2,hb2_3,hb2_4,hb2_5,hb2_6,hb2_7,hb2_8,hb2_9,hb2_10,hb2_f,hb2_l,H_hb2⟩:=vg hb2;clear hb2;obtain⟨hc1_0,hc1_f,hc1_l,H_hc1⟩:=cr1 hc1;clear hc1;go_upto_region 4 with(go_at_call 141;refine HDr.out.mono ?_;rintro e w3 ⟨rfl,⟨D3,hr3,hg3⟩,hm3⟩)
  clear hb2_0 hb2_1 hb2_2 hb2_3 hb2_4 hb2_5 hb2_6 hb2_7 hb2_8 hb2_9 hb2_10 hb2_f hb2_l;clear hc1_0 hc1_f hc1_l;clear H_hb2 H_hc1;obtain⟨b3,C3,T3⟩ : ∃ b3,zr Fo w3 b3 {s with A:=zx s.A sl,B:=zx s.B sl,U:=s.U.rem g co,M:=vz s.M sl}∧zv w w3 b b3:=⟨_,HC2.out.putDue hr3 hm3 hg3,HT2.out.trans (zv.ofDue hm3 hg3)⟩;have HRe:=za (zfz C3.dict (s:=sl) (x:=x.ent) (XA HX.out));have hb3:=C3.box;rw[T3.p]at hb3;have hc1:=T3.mod.heap N1.out HF.out.b1;have HC3:=za C3;have HT3:=za T3;clear hr3 hg3 hm3 C3 T3 HC2 HT2 HDr;obtain⟨hb3_0,hb3_1,hb3_2,hb3_3,hb3_4,hb3_5,hb3_6,hb3_7,hb3_8,hb3_9,hb3_10,hb3_f,hb3_l,H_hb3⟩:=vg hb3;clear hb3;obtain⟨hc1_0,hc1_f,hc1_l,H_hc1⟩:=cr1 hc1;clear hc1;go_upto_region 5 with(go_at_call 142;refine HRe.out.mono ?_;rintro e w4 ⟨va,vn,vc,rfl,hby,hfr,D4,hr4,hm4,hg4⟩)
  clear hb3_0 hb3_1 hb3_2 hb3_3 hb3_4 hb3_5 hb3_6 hb3_7 hb3_8 hb3_9 hb3_10 hb3_f hb3_l;clear hc1_0 hc1_f hc1_l;clear H_hb3 H_hc1;rw[← ziA]at hr4;obtain⟨b4,C4,T4⟩ : ∃ b4,zr Fo w4 b4 {s with A:=zx s.A sl,B:=zx s.B sl,U:=s.U.rem g co,M:=vz s.M sl,L:=s.L.set sl none}∧zv w w4 b b4:=⟨_,HC3.out.putDict (L':=s.L.set sl none) hr4 hm4 hg4,HT3.out.trans (zv.ofDict hm4 hg4)⟩;have hal:zc w4 (w4.alloc (.cells #[.string x.key,.slice va vn vc,.int .u64 x.dl,.int .u64 x.birth] 141)):=(Mod.refl _ w4).alloc _;have hbx:=zj (w:=w4) (o := .cells #[.string x.key,.slice va vn vc,.int .u64 x.dl,.int .u64 x.birth] 141 (0,0)) rfl;have hf5:=(HF.out.mod T4.mod N1.out N2.out).mod hal (fun h=>h) (fun h=>h);have HTe:=za (QF (C4.pure hal) (x:=⟨k,x,s.now⟩) HEV.out rfl HLE.out ((yq.read hby (jn x.val)).frame hal (fun _ _ h=>h)));have T5:=T4.trans (zv.pure hal);rw[T5.p]at HTe;have HT5:=za T5;generalize w4.alloc (.cells #[.string x.key,.slice va vn vc,.int .u64 x.dl,.int .u64 x.birth] 141)=W5 at *;generalize w4.heap.size=bx at *;have g1:=hf5.b1;have g2:=hf5.b2;clear hal hr4 hm4 hg4 C4 T4 HC3 HT3 hby hfr hf5 T5;obtain⟨g1_0,g1_f,g1_l,H_g1⟩:=cr1 g1;clear g1;obtain⟨g2_0,g2_f,g2_l,H_g2⟩:=cr1 g2;clear g2;obtain⟨hbx_0,hbx_1,hbx_2,hbx_3,hbx_f,hbx_l,H_hbx⟩:=cr4 hbx;clear hbx
  go_wp2_with (go_at_call 124;refine HTe.out.mono ?_;rintro e w6 ⟨rfl,b6,C6,T6⟩)
  go_end0
  refine⟨rfl,b6,?_,HT5.out.trans T6⟩;unfold lvS;rw[HSL.out,HCO.out,HG.out];exact C6
end
def Bu.of(A B:List Wt):Bu:=⟨A.length,zw A,B.length,zw B⟩
theorem zey{L:List Wt}{k:Nat}{x:Wt}(h:L[k]? = some x):zw (L.take (k+1))=zw (L.take k)+x.cost:=by
 rw[uE,h,vT];simp[zw]
theorem zkw{L:List Wt}{k:Nat}{x:Wt}(h:L[k]? = some x):zw (L.drop k)=x.cost+zw (L.drop (k+1)):=by
 obtain⟨h1,h2⟩:=zE.1 h;rw[jQ h1,h2,kj]
theorem QS{w:World}{a:Option Addr}{n c:Nat}{L:List Nat}(h:zo w (.slice a n c) 1 (zX L)){j:Nat}{x:Nat}(hx:L[j]? = some x) : ∃ ad,a=some ad∧w.cell? (ad.add j)=some (.int .u32 x):=by
 obtain⟨a',n',c',e,hl,_,h0,hc⟩:=h;injection e with e1 e2 e3
 subst e1 e2 e3;have hu:(zX L)[j]? = some (.int .u32 x):=by unfold zX;rw[yC,hx];rfl
 cases a with
 | none =>
  have:=h0 rfl;have:=(zE.1 hu).1;omega
 | some ad=>exact⟨ad,rfl,hc ad rfl _ _ hu⟩
section
variable{Fo:Nat→Prop}{w w':World}{b:CaB}{s:CaS}
theorem zgL(h:zr Fo w b s){ys:List Wt}{a:Option Addr}{n c:Nat}(hr:zo w (.slice a n c) 1 (zX (zA ys)))(hn:ys.length=n)(hnd : ∀ g,vE (.slice a n c)=some g → ¬ b.D g)
    (hys : ∀ y∈ys,y∈s.A++s.B) {c0 s0 nB sB:Nat} (hU:s.U=⟨c0,s0,nB+n,sB+zw ys⟩) (hz:nB=0→sB=0) (h1:c0+n≤2097152) (h2:s0+zw ys≤2305843009213693952) :
    Calls prog 119 #[lkP b.p,.slice a n c] w (ZN Fo w b {s with U:=⟨c0+n,s0+zw ys,nB,sB⟩}):=by
  have HH:=za h;have HR:=za hr;have HN:=za hn;have HND:=za hnd;have HY:=za hys;have HU:=za hU;have HZ:=za hz;have H1:=za h1;have H2:=za h2;have hn4:Hid (n≤2097152):=za (by omega);clear h hr hn hnd hys hU hz h1 h2;go_enter func119,ntmps119;go_upto_region 1 with fail
  go_loopw [11] (fun v11 wr => ∃(k:Nat) (b':CaB),v11=.int .i64 (k:Nat)∧k≤n∧zr Fo wr b' {s with U:=⟨c0+k,s0+zw (ys.take k),nB+(n-k),sB+zw (ys.drop k)⟩}∧zv w wr b b') (fun v11 _=>n-(intOf v11).toNat)
  case atStart=>exact⟨0,b,rfl,yi _,by
    have h9:=HH.out;have e:({s with U:=⟨c0+0,s0+zw (ys.take 0),nB+(n-0),sB+zw (ys.drop 0)⟩}:CaS)=s:=by
      have:=HU.out
      cases s
      simp at this ⊢;rw[this];simp[qk]
    rw[e];exact h9,zv.pure (Mod.refl _ _)⟩
  case round =>
    obtain⟨k,b',rfl,hk,hC,hT⟩:=hrel;have HC:=za hC;have HT:=za hT;clear hC hT;by_cases hlt:k<n
    · have hlt':(k:Int)<(n:Int):=by omega
      have k0:(0:Int)≤(k:Int):=by omega
      have wk:IntKind.i64.wrap ((k:Int)+1)=(k:Int)+1:=zt _ (by have:=hn4.out;omega);obtain⟨y,hy⟩ : ∃ y,ys[k]? = some y:=⟨_,zL (by rw[HN.out];exact hlt)⟩;have hsy:(zA ys)[k]? = some y.slot:=by unfold zA;rw[yC,hy];rfl
      obtain⟨ad,had,z0⟩:=QS (HR.out.frame HT.out.mod HND.out) hsy;subst had;have hmem:=HY.out y (yl hy);have ht:=zey hy;have hd:=zkw hy;have HOf:=za (VL HC.out.order hmem);have hrg:=HC.out.order.law.rng y hmem;have hcs:zw (ys.take k)+(y.cost+zw (ys.drop (k+1)))=zw ys:=by
        rw[← hd,← vT,Y2]
      have HM:=za (zi2 HC.out.used (c:=y.cost) hrg.2 (by show c0+k+1≤2097152;have:=H1.out;omega) (by show s0+zw (ys.take k)+y.cost≤_;have:=H2.out;omega) (by
        show Bu.holds ⟨c0+k,s0+zw (ys.take k),nB+(n-k),sB+zw (ys.drop k)⟩ 1 y.cost
        unfold Bu.holds Bu.cnt Bu.sum;simp only[Nat.one_ne_zero,if_false];rw[hd];by_cases e:nB+(n-k)=1
        · have e1:nB=0:=by omega
          have e2:k+1=n:=by omega
          have e3:=HZ.out e1;have e4:ys.drop (k+1)=[]:=Zw (by rw[HN.out];omega);rw[e4,qk];exact .inr ⟨e,by omega⟩
        · exact .inl ⟨by omega,by omega⟩))
      have hb:=HC.out.box;rw[HT.out.p]at hb;obtain⟨sl,hsl⟩:=zf y.slot;obtain⟨co,hco⟩:=zf y.cost;have HCO:=za hco;have HTS:=za ht;have HDS:=za hd;rw[hsl]at z0 HOf;rw[hco]at HOf HM;clear hy hsy hmem ht hd hrg hcs hsl hco;obtain⟨g,hg⟩:=zf (gOf s.B sl);dsimp only at HOf;rw[hg]at HOf;clear hg;obtain⟨hb_0,hb_1,hb_2,hb_3,hb_4,hb_5,hb_6,hb_7,hb_8,hb_9,hb_10,hb_f,hb_l,H_hb⟩:=vg hb;clear hb;go_upto_region 5 with(first
        | (go_at_call 77;refine HOf.out.mono ?_;rintro e w' ⟨rfl,rfl⟩)
        | (go_at_call 187;refine HM.out.mono ?_;rintro e w2 ⟨rfl,hr2,hm2⟩))
      clear hb_0 hb_1 hb_2 hb_3 hb_4 hb_5 hb_6 hb_7 hb_8 hb_9 hb_10 hb_f hb_l;clear H_hb;have HC2:=za (HC.out.putUsed hr2 hm2);have HT2:=za (HT.out.trans (zv.ofUsed hm2));clear hr2 hm2;go_wp2;go_roundw
      case rel =>
        refine⟨k+1,b',by first | rfl | simp,hlt,?_,HT2.out⟩;have e1:(⟨c0+(k+1),s0+zw (ys.take (k+1)),nB+(n-(k+1)),sB+zw (ys.drop (k+1))⟩:Bu)=⟨c0+k+1,s0+zw (ys.take k)+co,nB+(n-k)-1,sB+zw (ys.drop k)-co⟩:=by
          have:=HTS.out;have:=HDS.out;have:=HCO.out
          congr 1<;>omega
        rw[e1];exact HC2.out
      case measure=>simp[intOf];omega
    · have hlt' : ¬ (k:Int)<(n:Int):=by omega
      obtain rfl:k=n:=by omega
      go_wp2
      go_end0
      refine⟨rfl,b',?_,HT.out⟩;have h9:=HC.out;rw[qp (by rw[HN.out];exact zI _),Zw (by rw[HN.out];exact zI _),qk,YJ,Xp,Xp]at h9;exact h9
end
theorem Jo(lim:Int) : ∀(B A:List Wt),∃ ys B2,B=ys++B2∧dem lim A B=(A++ys,B2,zA ys)
 | [],A=>⟨[],[],rfl,by simp[dem,zA]⟩
 | x::B,A=>by
  cases h:jg lim (x::B)with
  | false=>exact⟨[],x::B,rfl,by rw[VF h];simp[zA]⟩
  | true =>
   obtain⟨ys,B2,e1,e2⟩:=Jo lim B (A++[x]);exact⟨x::ys,B2,by rw[e1];rfl,by rw[VJ h,e2];simp[zA]⟩
theorem UP{L:List Wt}{y:Wt}(hnd:(zA L).Nodup)(hy:y∈L):zw (zx L y.slot)+y.cost=zw L∧(zx L y.slot).length+1=L.length:=by
 induction L with
 | nil=>cases hy
 | cons x L ih =>
  have hnd':(zA L).Nodup:=(yO.1 hnd).2;have hx:x.slot∉zA L:=(yO.1 hnd).1;rcases zO.1 hy with rfl | hy
  ·have e:zx (y::L) y.slot=L:=by
    unfold zx;rw[je];simp;intro z hz e;exact hx (e ▸ zz.2 ⟨z,hz,rfl⟩)
   rw[e,kj];exact⟨by omega,rfl⟩
  ·have hne:x.slot≠y.slot:=fun e=>hx (e ▸ zz.2 ⟨y,hy,rfl⟩)
   have e:zx (x::L) y.slot=x::zx L y.slot:=by
    unfold zx;rw[je];simp[hne]
   obtain⟨h1,h2⟩:=ih hnd' hy;rw[e,kj,kj];simp;omega
theorem zkZ{A B:List Wt}{y:Wt}(h:SgL A B)(hy:y∈A++B):(gOf B y.slot=0∧y∈A∧zx B y.slot=B)∨(gOf B y.slot=1∧y∈B∧zx A y.slot=A):=by
 have hnd:=h.nd;unfold zA at hnd;rw[vh,xD]at hnd;by_cases hb:y.slot∈zA B
 ·refine .inr ⟨?_,?_,ZK (fun x hx e=>hnd.2.2 x.slot (zz.2 ⟨x,hx,rfl⟩) x.slot (by rw[e];exact hb) rfl)⟩
  ·unfold gOf;rw[zk hb]
  ·rcases yz.1 hy with hy | hy
   ·exact absurd rfl (hnd.2.2 y.slot (zz.2 ⟨y,hy,rfl⟩) y.slot hb)
   ·exact hy
 ·refine .inl ⟨?_,?_,ZK (fun x hx e=>hb (e ▸ zz.2 ⟨x,hx,rfl⟩))⟩
  ·unfold gOf;rw[zh hb]
  ·rcases yz.1 hy with hy | hy
   ·exact hy
   ·exact absurd (zz.2 ⟨y,hy,rfl⟩) hb
theorem Bu.of_rem{A B:List Wt}{y:Wt}(h:SgL A B)(hy:y∈A++B):(Bu.of A B).holds (gOf B y.slot) y.cost∧(Bu.of A B).rem (gOf B y.slot) y.cost=Bu.of (zx A y.slot) (zx B y.slot):=by
 have hnd:=h.nd;unfold zA at hnd;rw[vh,xD]at hnd;rcases zkZ h hy with⟨e1,e2,e3⟩ | ⟨e1,e2,e3⟩
 ·obtain⟨h1,h2⟩:=UP hnd.1 e2;rw[e1,e3];unfold Bu.holds Bu.cnt Bu.sum Bu.rem Bu.of;simp only[if_true];refine⟨?_,by congr 1<;>omega⟩;by_cases e:A.length=1
  ·have e4:zx A y.slot=[]:=jU (by omega);rw[e4,qk]at h1;exact .inr ⟨e,by omega⟩
  ·exact .inl ⟨by omega,by omega⟩
 ·obtain⟨h1,h2⟩:=UP hnd.2.1 e2;rw[e1,e3];unfold Bu.holds Bu.cnt Bu.sum Bu.rem Bu.of;simp only[Nat.one_ne_zero,if_false];refine⟨?_,by congr 1<;>omega⟩;by_cases e:B.length=1
  ·have e4:zx B y.slot=[]:=jU (by omega);rw[e4,qk]at h1;exact .inr ⟨e,by omega⟩
  ·exact .inl ⟨by omega,by omega⟩
section
variable{Fo:Nat→Prop}{w w':World}{b:CaB}{s:CaS}
theorem zaz{u mc mb:Nat}{A B:List Wt}(h:yS w u mc mb (Bu.of A B)){tg:Nat}(hto:tg≤1){x:Wt}(hc:x.cost≤1099511627776)(hl:(A++B).length+1≤1048577)(hs:zw (A++B)≤1152922604118474752) :
  Calls prog 118 #[buP u,.int .i64 tg,.int .i64 x.cost] w fun e w'=>e=.returned (.int .i64 0)∧yS w' u mc mb (if tg=0 then Bu.of (A++[x]) B else Bu.of A (B++[x]))∧Mod (fun k=>k=u) w w':=by
 rw[zV]at hl;rw[vT]at hs;obtain rfl | rfl:tg=0∨tg=1:=by omega
 ·have h1:=zaJ h hc (by show A.length+1≤_;omega) (by show zw A+x.cost≤_;omega);have e:Bu.of (A++[x]) B = {Bu.of A B with c0:=(Bu.of A B).c0+1,s0:=(Bu.of A B).s0+x.cost}:=by unfold Bu.of;rw[zV,vT];simp[zw]
  rw[zk rfl,e];exact h1
 ·have h1:=zjq h hc (by show B.length+1≤_;omega) (by show zw B+x.cost≤_;omega);have e:Bu.of A (B++[x]) = {Bu.of A B with c1:=(Bu.of A B).c1+1,s1:=(Bu.of A B).s1+x.cost}:=by unfold Bu.of;rw[zV,vT];simp[zw]
  rw[zh (by decide),e];exact h1
def vZ(s:CaS)(x:Wt):CaS := {s with A:=(xo s.lim s.A s.B x).1,B:=(xo s.lim s.A s.B x).2.1,U:=Bu.of (xo s.lim s.A s.B x).1 (xo s.lim s.A s.B x).2.1}
theorem Qm(h:zr Fo w b s){y:Wt}(hy:y∈s.A++s.B){nc:Nat}(hnc:nc≤1099511627776)(hU:s.U=Bu.of s.A s.B)(hcfg:s.cfg.ok)(hlim:s.lim=s.cfg.part)(hn:(s.A++s.B).length≤1048577) :
    Calls prog 78 #[lkP b.p,.int .u32 y.slot,.int .i64 nc] w (ZN Fo w b (vZ s ⟨y.slot,nc⟩)):=by
  have hlaw:=h.order.law;have hrg:=hlaw.rng y hy;obtain⟨hh,hrem⟩:=Bu.of_rem hlaw hy;have hgl:=zcn s.B y.slot;have HOf:=za (VL h.order hy);have HUs:=za (zfI h.order hy (y:=⟨y.slot,nc⟩) rfl hnc);have hpr:=Cfg.part_rng hcfg;have hcfv:s.cfg.v=.agg #[.int .i64 s.cfg.count,.int .i64 s.cfg.bytes,.int .i64 s.cfg.prot,.int .u64 s.cfg.seed,.bool s.cfg.same]:=rfl;have HPa:=za (fun W=>za1 hcfg W);rw[← hlim]at hpr HPa;have hlo:zw (zx s.A y.slot++zx s.B y.slot)≤1152922604118474752∧(zx s.A y.slot++zx s.B y.slot).length+1≤1048577:=by
    have hp:(zx s.A y.slot++zx s.B y.slot)=zx (s.A++s.B) y.slot:=by unfold zx;rw[YI]
    obtain⟨k1,k2⟩:=UP hlaw.nd hy;rw[hp];refine⟨?_,by omega⟩;have k3:zw (zx (s.A++s.B) y.slot)≤(zx (s.A++s.B) y.slot).length*1099511627776:=XC (fun x hx=>(hlaw.rng x (j5.1 hx).1).2);have k4:(zx (s.A++s.B) y.slot).length*1099511627776≤1048576*1099511627776:=Xn _ (by omega);omega
  have HLO:=za hlo;have HH:=za h;have HU:=za hU;have hb:=h.box;obtain⟨A1,B1,tg,htg,hW,hA1⟩ : ∃ A1 B1 tg,tg≤1∧xo s.lim s.A s.B ⟨y.slot,nc⟩=dem s.lim A1 B1∧((s.lim = -1∧tg=0∧A1=zx s.A y.slot++[⟨y.slot,nc⟩]∧B1=zx s.B y.slot)∨(s.lim ≠ -1∧tg=1∧A1=zx s.A y.slot∧B1=zx s.B y.slot++[⟨y.slot,nc⟩])):=by
    unfold xo;by_cases e:s.lim = -1
    · exact⟨_,_,0,by omega,by rw[zk e],.inl ⟨e,rfl,rfl,rfl⟩⟩
    · exact⟨_,_,1,by omega,by rw[zh e],.inr ⟨e,rfl,rfl,rfl⟩⟩
  obtain⟨ys,B2,eB,eD⟩:=Jo s.lim B1 A1;have hperm:(A1++B1).length≤1048577∧zw (A1++B1)≤2305843009213693952:=by
    obtain⟨k1,k2⟩:=hlo;rw[zV]at k2;rw[vT]at k1;rcases hA1 with⟨_,_,rfl,rfl⟩ | ⟨_,_,rfl,rfl⟩
    · simp only[List.length_append,vT,kj,qk,List.length_cons,List.length_nil];omega
    · simp only[List.length_append,vT,kj,qk,List.length_cons,List.length_nil];omega
  have hif:(if tg=0 then Bu.of (zx s.A y.slot++[⟨y.slot,nc⟩]) (zx s.B y.slot)else Bu.of (zx s.A y.slot) (zx s.B y.slot++[⟨y.slot,nc⟩]))=Bu.of A1 B1:=by
    rcases hA1 with⟨_,rfl,rfl,rfl⟩ | ⟨_,rfl,rfl,rfl⟩<;>rfl
  have htl:((s.lim == -1)=true∧tg=0)∨((s.lim == -1)=false∧tg=1):=by
    rcases hA1 with⟨e,e2,_⟩ | ⟨e,e2,_⟩
    · exact .inl ⟨by simp[e],e2⟩
    · exact .inr ⟨by simp[e],e2⟩
  have HIF:=za hif;have HEB:=za eB;have HED:=za (hW.trans eD);have HPM:=za hperm;have HHH:=za hh;have HREM:=za hrem;have HGL:=za hgl;have HRG:=za hrg;have HNC:=za hnc;clear h hlaw hcfg hcfv hU hlo hlim hif eB eD hW hperm hA1 hh hrem hgl hrg hnc hpr hn hy;rw[HED.out]at HUs;unfold vZ;rw[HED.out];dsimp only;obtain⟨sl,hsl⟩:=zf y.slot;obtain⟨co,hco⟩:=zf y.cost;obtain⟨g,hg⟩:=zf (gOf s.B sl);rw[hsl]at HOf HUs HIF HHH HREM HGL HRG HLO ⊢;rw[hco]at HOf HHH HREM HRG;rw[hg]at HOf HHH HREM HGL;clear hsl hco hg;generalize hlm:s.lim=lm at *;have HLM:=za hlm;clear hlm;obtain⟨hb_0,hb_1,hb_2,hb_3,hb_4,hb_5,hb_6,hb_7,hb_8,hb_9,hb_10,hb_f,hb_l,H_hb⟩:=vg hb;clear hb;go_enter func78,ntmps78;go_upto_region 2 with(first
    | (go_at_call 77;refine HOf.out.mono ?_;rintro e w' ⟨rfl,rfl⟩)
    | (go_at_call 116;refine HUs.out.mono ?_;rintro e w1 ⟨v,rfl,ga,gc,rfl,hgr,⟨D1,hr1,hg1,hgn⟩,hm1⟩))
  clear hb_0 hb_1 hb_2 hb_3 hb_4 hb_5 hb_6 hb_7 hb_8 hb_9 hb_10 hb_f hb_l;clear H_hb;obtain⟨b1,C1,T1,n1⟩ : ∃ b1,zr Fo w1 b1 {s with lim:=lm,A:=A1++ys,B:=B2}∧zv w w1 b b1 ∧ ∀ g,(Value.slice ga (zA ys).length gc).ownBlock=some g → ¬ b1.D g :=
    ⟨_,HH.out.putOrder hr1 hm1 hg1,zv.ofOrder hm1 hg1,fun g hg hD=>by
      obtain⟨k1,k2⟩:=hgn g hg;have hlt:=fun(e:b.D g)=>HH.out.lt e
      rcases hD with e | e | e | e | e | e | e
      · have:=hlt (.inl e);omega
      · have:=hlt (.inr (.inl e));omega
      · have:=hlt (.inr (.inr (.inl e)));omega
      · exact k1 e
      · have:=hlt (.inr (.inr (.inr (.inr (.inl e)))));omega
      · have:=hlt (.inr (.inr (.inr (.inr (.inr (.inl e))))));omega
      · have:=hlt (.inr (.inr (.inr (.inr (.inr (.inr e))))));omega⟩
  have hbu:=C1.used;dsimp only at hbu;rw[HU.out]at hbu;have HBr:=za (zaq hbu HGL.out HRG.out.2 HHH.out);rw[HREM.out]at HBr;have hb1:=C1.box;rw[T1.p]at hb1;have HC1:=za C1;have HT1:=za T1;have HN1:=za n1;have HGR:=za hgr;clear hr1 hm1 hg1 hgn C1 T1 n1 hgr hbu;have hyl:(zA ys).length=ys.length:=by unfold zA;simp
  rw[hyl]at HN1 ⊢;obtain⟨ny,hny⟩:=zf ys.length;rw[hny]at HN1 ⊢;have HNY:=za hny;have HYL:=za hyl;clear hny hyl;obtain⟨hb1_0,hb1_1,hb1_2,hb1_3,hb1_4,hb1_5,hb1_6,hb1_7,hb1_8,hb1_9,hb1_10,hb1_f,hb1_l,H_hb1⟩:=vg hb1;clear hb1;go_upto_region 3 with(go_at_call 117;refine HBr.out.mono ?_;rintro e w2 ⟨rfl,hr2,hm2⟩)
  clear hb1_0 hb1_1 hb1_2 hb1_3 hb1_4 hb1_5 hb1_6 hb1_7 hb1_8 hb1_9 hb1_10 hb1_f hb1_l;clear H_hb1;obtain⟨b2,C2,T2,n2⟩ : ∃ b2,zr Fo w2 b2 {s with lim:=lm,A:=A1++ys,B:=B2,U:=Bu.of (zx s.A sl) (zx s.B sl)}∧zv w w2 b b2 ∧ ∀ g,(Value.slice ga ny gc).ownBlock=some g → ¬ b2.D g ∧ ¬ b1.D g:=⟨b1,HC1.out.putUsed hr2 hm2,HT1.out.trans (zv.ofUsed hm2),fun g hg=>⟨HN1.out g hg,HN1.out g hg⟩⟩;have hgr2:=zy HGR.out (zv.ofUsed (b:=b1) hm2).mod (fun g hg=>HN1.out g (by rw[HYL.out,HNY.out]at hg;exact hg));have hb2:=C2.box;rw[T2.p]at hb2;have HC2:=za C2;have HT2:=za T2;have HN2:=za n2;have HGR2:=za hgr2;clear hr2 hm2 C2 T2 n2 hgr2 HC1 HT1 HN1 HGR HBr;obtain⟨hb2_0,hb2_1,hb2_2,hb2_3,hb2_4,hb2_5,hb2_6,hb2_7,hb2_8,hb2_9,hb2_10,hb2_f,hb2_l,H_hb2⟩:=vg hb2;clear hb2;go_upto_region 5 with(go_at_call 97;refine(HPa.out _).mono ?_;rintro e w3 ⟨rfl,hp3⟩)
  clear hb2_0 hb2_1 hb2_2 hb2_3 hb2_4 hb2_5 hb2_6 hb2_7 hb2_8 hb2_9 hb2_10 hb2_f hb2_l;clear H_hb2;have HC3:=za (HC2.out.pure hp3);have HT3:=za (HT2.out.trans (zv.pure hp3));have HGR3:=za (zy HGR2.out hp3 (fun _ _ h=>h));have hb3:=HC3.out.box;rw[HT2.out.p]at hb3;clear hp3 HC2 HT2 HGR2;have HAd:=za (zaz HC3.out.used (tg:=tg) (x:=⟨sl,nc⟩) htg HNC.out HLO.out.2 HLO.out.1);rw[HIF.out]at HAd;obtain⟨hb3_0,hb3_1,hb3_2,hb3_3,hb3_4,hb3_5,hb3_6,hb3_7,hb3_8,hb3_9,hb3_10,hb3_f,hb3_l,H_hb3⟩:=vg hb3;clear hb3;rcases htl with⟨hl,rfl⟩ | ⟨hl,rfl⟩
  all_goals
    go_upto_region 8 with(go_at_call 118;refine HAd.out.mono ?_;rintro e w4 ⟨rfl,hr4,hm4⟩)
    clear hb3_0 hb3_1 hb3_2 hb3_3 hb3_4 hb3_5 hb3_6 hb3_7 hb3_8 hb3_9 hb3_10 hb3_f hb3_l;clear H_hb3;have C4:=HC3.out.putUsed hr4 hm4;have T4:=HT3.out.trans (zv.ofUsed hm4);have hgr4:=zy HGR3.out (zv.ofUsed (b:=b2) hm4).mod (fun g hg=>(HN2.out g (by rw[HYL.out,HNY.out]at hg;exact hg)).1);have hrd:zo w4 (.slice ga ny gc) 1 (zX (zA ys)):=by
      have h9:=zo.of_owns hgr4 (fun u hu=>by obtain⟨q,_,rfl⟩:=zz.1 hu;rfl);rw[HYL.out,HNY.out]at h9;exact h9
    have hll:A1.length+(ys.length+B2.length)≤1048577∧zw A1+(zw ys+zw B2)≤2305843009213693952:=by
      have h9:=HPM.out;rw[HEB.out]at h9;simp only[List.length_append,vT]at h9;exact h9
    have HDm:=za (zgL C4 hrd HNY.out (fun g hg=>(HN2.out g (zcq hg)).1) (fun y hy=>by show y∈(A1++ys)++B2;simp[hy]) (c0:=A1.length) (s0:=zw A1) (nB:=B2.length) (sB:=zw B2) (by show Bu.of A1 B1=_;rw[HEB.out,← HNY.out];unfold Bu.of;rw[zV,vT];congr 1<;>omega) (fun e=>by rw[jU e];rfl) (by have:=HNY.out;omega) (by omega));rw[T4.p]at HDm;have HT4:=za T4;clear hr4 hm4 C4 T4 hgr4 hrd hll
    go_wp2_with (go_at_call 119;refine HDm.out.mono ?_;rintro e w5 ⟨rfl,b5,C5,T5⟩)
    go_end0
    refine⟨rfl,b5,?_,HT4.out.trans T5⟩;have e9:(⟨A1.length+ny,zw A1+zw ys,B2.length,zw B2⟩:Bu)=Bu.of (A1++ys) B2:=by unfold Bu.of;rw[zV,vT,HNY.out]
    rw[← e9];exact C5
end

def CE.cost(x:CE):Nat:=x.key.size+x.val.length+48
def xg(k:Nat)(s:CaS)(sl:Nat):CaS:=match s.L[sl]? with
 | some (some x)=>lvS s k x ⟨sl,x.cost⟩
 | _=>s
def xq(k:Nat)(s:CaS)(l:List Nat):CaS:=l.foldl (xg k) s
def vL(k:Nat):CaS→List Nat→Prop
 | _,[]=>True
 | s,sl::l=>(∃ x,s.L[sl]? = some (some x)∧(⟨sl,x.cost⟩:Wt)∈s.A++s.B∧Ev.Ok ⟨k,x,s.now⟩∧s.evs.length<1048576∧s.U=Bu.of s.A s.B)∧vL k (xg k s sl) l
theorem vL.at_{k:Nat} : ∀ {l:List Nat} {s:CaS} {i sl:Nat},vL k s l→l[i]? = some sl → ∃ x,(xq k s (l.take i)).L[sl]? = some (some x)∧(⟨sl,x.cost⟩:Wt)∈(xq k s (l.take i)).A++(xq k s (l.take i)).B∧Ev.Ok ⟨k,x,(xq k s (l.take i)).now⟩∧(xq k s (l.take i)).evs.length<1048576∧(xq k s (l.take i)).U=Bu.of (xq k s (l.take i)).A (xq k s (l.take i)).B
 | [],s,i,sl,_,h=>by simp at h
 | y::l,s,0,sl,h,h2=>by
  simp at h2;subst h2;exact h.1
 | y::l,s,i+1,sl,h,h2=>by
  have:=vL.at_ (i:=i) h.2 (by simpa using h2);simpa[xq]using this
theorem zcy{k:Nat}{s:CaS}{l:List Nat}{i sl:Nat}(h:l[i]? = some sl):xq k s (l.take (i+1))=xg k (xq k s (l.take i)) sl:=by
 unfold xq;rw[uE,h,XE]
 rfl
section
variable{Fo:Nat→Prop}{w w':World}{b:CaB}{s:CaS}
theorem Qa(h:zr Fo w b s){k c1 c2 sl:Nat}(hf:LvF w b.p k c1 c2)(n1 : ¬ b.D c1)(n2 : ¬ b.D c2)(hx : ∃ x,s.L[sl]? = some (some x)∧(⟨sl,x.cost⟩:Wt)∈s.A++s.B∧Ev.Ok ⟨k,x,s.now⟩∧s.evs.length<1048576∧s.U=Bu.of s.A s.B) :
  Calls prog 139 #[.int .u32 sl,.pointer (some ⟨c1,0,none⟩),.pointer (some ⟨c2,0,none⟩)] w (ZN Fo w b (xg k s sl)):=by
 obtain⟨x,h1,h2,h3,h4,h5⟩:=hx;have hr:=Bu.of_rem h.order.law h2;have h6:=zgS h hf n1 n2 (x:=x) (y:=⟨sl,x.cost⟩) h1 h2 h3 h4 (by rw[h5];exact hr.1);have e:xg k s sl=lvS s k x ⟨sl,x.cost⟩:=by unfold xg;rw[h1]
 rw[e];exact h6
end
def tmS(s:CaS)(t:Nat):CaS := {s with now:=max s.now t,M:=jd (max s.now t) s.M}
def xa(s:CaS)(t:Nat):List Nat:=(ue (max s.now t) s.M).map Td.slot
def zl(s:CaS)(t:Nat):CaS:=xq 1 (tmS s t) (xa s t)
def ul(s:CaS)(keep:Nat):List Nat:=ud s.mc s.mb keep (s.A++s.B)
def evS(s:CaS)(keep:Nat):CaS:=xq 2 s (ul s keep)
abbrev pkS(s:CaS):CaS:=s
structure QJ(s:CaS):Prop where
 nd:XQ s.L.length (zZ (zS s.L))=false
structure uh(s:CaS)(keep:Nat):Prop where
 lv:vL 2 s (ul s keep)
 u:s.U=Bu.of s.A s.B
 len:(s.A++s.B).length≤2097152
 c:s.cfg.count=s.mc
 b:s.cfg.bytes=s.mb
 pk:QJ (evS s keep)
structure vG(X:Nat→Prop)(w w':World)(b b':CaB):Prop where
 p:b'.p=b.p
 mod:Mod (fun k=>b.D k∨X k) w w'
 grew : ∀ k,b'.D k→b.D k∨w.heap.size≤k
section
variable{X:Nat→Prop}{w w1 w2:World}{b b1 b2:CaB}
theorem zv.toX(h:zv w w1 b b1):vG X w w1 b b1:=⟨h.p,h.mod.mono (fun _ _ h => .inl h),h.grew⟩
theorem vG.trans(h:vG X w w1 b b1)(k:vG X w1 w2 b1 b2):vG X w w2 b b2 :=
 ⟨k.p.trans h.p,Mod.trans' h.mod k.mod (fun _ _ h=>h) (fun i hi e=>e.imp (fun e=>(h.grew i e).elim (fun e=>e) (fun e=>by omega)) (fun e=>e)),fun i e=>(k.grew i e).elim (fun e=>h.grew i e) (fun e => .inr (zH h.mod.size e))⟩
theorem vG.nd{k:Nat}(h:vG X w w1 b b1)(hk : ¬ b.D k)(hl:k<w.heap.size) : ¬ b1.D k:=fun e=>(h.grew k e).elim hk (fun e=>by omega)
end
section
variable{Fo X:Nat→Prop}{w w':World}{b:CaB}{s:CaS}
theorem zg4{cnt byt:Nat}{R:List Wt}{n c:Nat}(h : ¬ (cnt<n∨byt<c)):vt cnt byt R n c=[]:=by
 cases R with
 | nil=>rfl
 | cons x R=>rw[vt,zh h]
theorem yY.list0{D:Nat→Prop}{o:Nat}{lim:Int}{A B:List Wt}(h:yY w D o lim A B):Calls prog 135 #[lkP o,.int .i64 0] w (ZV w A):=by
 obtain⟨l0,l1,bm,D0,D1,Dm,h⟩:=h;exact ziX h
theorem yY.list1{D:Nat→Prop}{o:Nat}{lim:Int}{A B:List Wt}(h:yY w D o lim A B):Calls prog 135 #[lkP o,.int .i64 1] w (ZV w B):=by
 obtain⟨l0,l1,bm,D0,D1,Dm,h⟩:=h;exact zdN h
def zbe(p o mc mb:Nat)(Y:World):Prop:=Y.cell? ⟨p,2,none⟩=some (lkP o)∧Y.cell? ⟨p,6,none⟩=some (.int .i64 mc)∧Y.cell? ⟨p,7,none⟩=some (.int .i64 mb)
def Ja(Fo X:Nat→Prop)(w:World)(b:CaB)(QE:Nat→CaS→World→Prop)(e:Ending)(w':World):Prop :=
 e=.returned (.tuple #[]) ∧ ∃ keep s2 b',zr Fo w' b' (pkS (evS s2 keep))∧vG X w w' b b'∧QE keep s2 w'
def zh7(b2:CaB)(w2:World)(R:World→Prop):Prop := ∀ W W' (S:Nat→Prop),R W→Mod S W W'→(∀ k,S k→b2.D k∨w2.heap.size≤k)→R W'
def zd8(Fo X:Nat→Prop)(W:World)(b1:CaB)(QE:Nat→CaS→World→Prop)(e:Ending)(w':World):Prop :=
 ∃(keep:Nat) (s2:CaS) (b2:CaB) (R:World→Prop),e=.returned (.int .u32 (keep:Nat))∧zr Fo w' b2 s2∧vG X W w' b1 b2∧uh s2 keep∧R w'∧zh7 b2 w' R ∧ ∀ Y,R Y→QE keep s2 Y
theorem Azo4n {P:Prop}(h:P:=by
 have hbE:=HCE.out.box;rw[HTE.out.p]at hbE;have HSz:=za (zcV HCE.out.dict);have HLn:=za (fun(Y:World) (hY:zc wE Y)=>JZ (HCE.out.pure hY).dict);have hlen:=HCE.out.dict.ok.len;have hel:(zS (evS s2 keep).L).length=(evS s2 keep).L.length:=by unfold zS;rw[yn]
 rw[hel]at hlen;unfold KE at HSz;rw[hel]at HSz;have HDu:=za (fun(Y:World)=>zay Y ((evS s2 keep).L.length:Int) (zZ (zS (evS s2 keep).L)) (by omega) (by omega));have hnd:=HR6.out.pk.nd;rw[hnd]at HDu;clear hel hnd;generalize((evS s2 keep).L.length:Int)=lenE at *;generalize((zZ (zS (evS s2 keep).L):Int))=livE at *;obtain⟨hbE_0,hbE_1,hbE_2,hbE_3,hbE_4,hbE_5,hbE_6,hbE_7,hbE_8,hbE_9,hbE_10,hbE_f,hbE_l,H_hbE⟩:=vg hbE;clear hbE
 go_wp2_with (first
   | (go_at_call 136;refine HSz.out.mono ?_;rintro e wA ⟨rfl,hpA⟩;have yA:=hpA.cell (fun h=>h) hbE_0)
   | (go_at_call 107;refine(HLn.out _ hpA).mono ?_;rintro e wB ⟨rfl,rfl⟩)
   | (go_at_call 137;refine(HDu.out _).mono ?_;rintro e wB ⟨rfl,rfl⟩))
 go_end0
 refine⟨rfl,keep,s2,bE,?_,HTE.out.trans ((zv.pure hpA).toX (X:=X)),HQF.out _ (HST.out _ _ _ HQE.out hpA (fun _ h=>h.elim))⟩;exact HCE.out.pure hpA):P:=h
theorem Xo(h:zr Fo w b s){t:Nat}(ht:t≤18446744073709551615)(hlv:vL 1 (tmS s t) (xa s t))(hX : ∀ k,X k → ¬ b.D k∧k<w.heap.size){ge:Nat}{lb:Array Value}
    (eg : ∀ args w,(callFunc ge args).run prog w=.ok (.enter ge args) w) {QE:Nat→CaS→World→Prop}
    (hE : ∀ W b1,zr Fo W b1 (zl s t)→zv w W b b1→Calls prog ge lb W (zd8 Fo X W b1 QE)) :
    Calls prog 84 #[lkP b.p,.int .u64 t,.func (.func ge) #[] lb] w (Ja Fo X w b QE):=by
  have HLv:=za (fun W=>VE b.p 1 W);have HLv2:=za (fun W=>VE b.p 2 W);have HH:=za h;have HT:=za ht;have HLO:=za hlv;have HX:=za hX;have HE:=za hE;clear h ht hlv hX hE;go_enter func84,ntmps84;go_upto_region 1 with(go_at_call 86;refine(HLv.out _).mono ?_;rintro e w1 ⟨rfl,hf1,hp1⟩)
  have C1:=HH.out.pure hp1;have hd0 : ¬ b.Dt 0:=fun e=>by have:=HH.out.sep.t 0 e;rw[HH.out.sep.z]at this;cases this
  have HEx:=za (C1.due.expire C1.tab hd0 HT.out);have hb1:=C1.box;obtain⟨c1,hc1⟩:=zf w.heap.size;rw[hc1]at hf1 ⊢;have HC1:=za hc1;have hlt1:c1+1<w1.heap.size:=zm hf1.b2;have HF1:=za hf1;have HCC1:=za C1;have HP1:=za hp1;have HLT1:=za hlt1;clear hf1 C1 hd0 hc1 hp1 hlt1;obtain⟨hb1_0,hb1_1,hb1_2,hb1_3,hb1_4,hb1_5,hb1_6,hb1_7,hb1_8,hb1_9,hb1_10,hb1_f,hb1_l,H_hb1⟩:=vg hb1;clear hb1;go_upto_region 2 with(go_at_call 132;refine HEx.out.mono ?_;rintro e w2 ⟨a,c,rfl,hrow,⟨D2,hr2,hg2,hn2⟩,hm2⟩)
  clear hb1_0 hb1_1 hb1_2 hb1_3 hb1_4 hb1_5 hb1_6 hb1_7 hb1_8 hb1_9 hb1_10 hb1_f hb1_l;clear H_hb1;obtain⟨es,hes⟩:=zf (ue (max s.now t) s.M);rw[hes]at hrow hn2 ⊢;have hel:xa s t=es.map Td.slot:=by unfold xa;rw[hes]
  obtain⟨b2,C2,T2,n2⟩ : ∃ b2,zr Fo w2 b2 (tmS s t)∧zv w1 w2 b b2 ∧ ∀ g,(Value.slice a es.length c).ownBlock=some g → ¬ b2.D g :=
    ⟨_,HCC1.out.putDue hr2 hm2 hg2,zv.ofDue hm2 hg2,fun g hg hD=>by
      obtain⟨k1,k2⟩:=hn2 g hg;have hlt:=fun(e:b.D g)=>HCC1.out.lt e
      rcases hD with e | e | e | e | e | e | e
      · have:=hlt (.inl e);omega
      · have:=hlt (.inr (.inl e));omega
      · have:=hlt (.inr (.inr (.inl e)));omega
      · have:=hlt (.inr (.inr (.inr (.inl e))));omega
      · have:=hlt (.inr (.inr (.inr (.inr (.inl e)))));omega
      · exact k1 e
      · have:=hlt (.inr (.inr (.inr (.inr (.inr (.inr e))))));omega⟩
  have hnc : ∀ j,j≤1 → ¬ b.D (c1+j):=fun j _ e=>by have:=HH.out.lt e;have:=HC1.out;omega
  have hf2:LvF w2 b.p 1 c1 (c1+1):=HF1.out.mod T2.mod (hnc 0 (by omega)) (hnc 1 (by omega));have hn2c : ∀ j,j≤1 → ¬ b2.D (c1+j):=fun j hj=>T2.nd (hnc j hj) (by have:=HLT1.out;omega)
  have HCC2:=za C2;have HT2:=za T2;have HN2:=za n2;have HROW:=za hrow;have HF2:=za hf2;have HNC:=za hn2c;have HEL:=za hel;have hl2:c1+1<w2.heap.size:=zm hf2.b2;have HL2:=za hl2;have hle:es.length≤4194304:=by
    have h9:=HH.out.due.law.count;rw[← hes];exact zH ((Um _).length_le) h9
  have HLE:=za hle;clear hrow hr2 hg2 hn2 hm2 C2 T2 n2 hnc hf2 hn2c hel hl2 hes hle;obtain⟨n,hn⟩:=zf es.length;rw[hn]at HN2 HLE ⊢;have HN:=za hn;clear hn;go_loopw [8,30] (fun v8 v30 wr => ∃(k:Nat) (b':CaB),v30=.int .i64 (k:Nat)∧k≤n∧zr Fo wr b' (xq 1 (tmS s t) ((xa s t).take k))∧zv w2 wr b2 b') (fun _ v30 _=>n-(intOf v30).toNat)
  case atStart=>exact⟨0,b2,rfl,yi _,HCC2.out,zv.pure (Mod.refl _ _)⟩
  case round =>
    obtain⟨k,b3,rfl,hk,hC,hT⟩:=hrel;have HC3:=za hC;have HT3:=za hT;clear hC hT;by_cases hlt:k<n
    · have hlt':(k:Int)<(n:Int):=by omega
      have k0:(0:Int)≤(k:Int):=by omega
      have wk:IntKind.i64.wrap ((k:Int)+1)=(k:Int)+1:=zt _ (by have:=HLE.out;omega);obtain⟨x,hx⟩ : ∃ x,es[k]? = some x:=⟨_,zL (by rw[HN.out];exact hlt)⟩;have hrd:zo wr (.slice a n c) 3 (es.flatMap tdC):=by
        have h9:=(HROW.out.rd).frame HT3.out.mod (fun g hg=>HN2.out g (by rw[HN.out]at hg;exact zcq hg));unfold zao at h9;rw[HN.out]at h9;exact h9
      obtain⟨ad,had,z0,z1,z2⟩:=Qv hrd hx;subst had;have hsl:(xa s t)[k]? = some x.slot:=by rw[HEL.out,yC,hx];rfl
      have hal:zc wr (wr.alloc (.cells #[.int .u32 x.slot,.int .u64 x.dl,.int .u64 x.birth] 236)):=(Mod.refl _ wr).alloc _;have hbx:=zj (w:=wr) (o := .cells #[.int .u32 x.slot,.int .u64 x.dl,.int .u64 x.birth] 236 (0,0)) rfl;have T3:=HT3.out.trans (zv.pure hal);have hl1:=Qa (HC3.out.pure hal) (k:=1) (c1:=c1) (c2:=c1+1) (sl:=x.slot) (by rw[T3.p,HT2.out.p];exact HF2.out.mod T3.mod (HNC.out 0 (by omega)) (HNC.out 1 (by omega))) (T3.nd (HNC.out 0 (by omega)) (by have:=HL2.out;omega)) (T3.nd (HNC.out 1 (by omega)) HL2.out) (HLO.out.at_ hsl);rw[← zcy hsl]at hl1;have HL1:=za hl1;have HTT:=za T3;clear hx hrd hsl T3 hl1;go_upto_region 4 with fail
      generalize wr.alloc (.cells #[.int .u32 x.slot,.int .u64 x.dl,.int .u64 x.birth] 236)=W4 at *;generalize wr.heap.size=b4 at *;clear z0 z1 z2 hal;obtain⟨hbx_0,hbx_1,hbx_2,hbx_f,hbx_l,H_hbx⟩:=cr3 hbx;clear hbx
      go_wp2_with (go_at_call 139;refine HL1.out.mono ?_;rintro e w5 ⟨rfl,b5,C5,T5⟩)
      go_roundw
      case rel=>exact⟨k+1,b5,by first | rfl | simp,hlt,C5,HTT.out.trans T5⟩
      case measure=>simp[intOf];omega
    · have hlt' : ¬ (k:Int)<(n:Int):=by omega
      obtain rfl:k=n:=by omega
      have hC3:=HC3.out;rw[qp (by rw[HEL.out,yn,HN.out];exact zI _)]at hC3;rw[show xq 1 (tmS s t) (xa s t)=zl s t from rfl]at hC3;have T3:=((zv.pure HP1.out).trans HT2.out).trans HT3.out;have HEf:=za (HE.out wr b3 hC3 T3);have hnx : ∀ i,X i → ¬ b3.D i:=fun i hi=>T3.nd (HX.out i hi).1 (HX.out i hi).2
      have HT3':=za T3;clear hC3 T3 hnx HLv HLO HEx;go_upto_region 7 with(go_at_fn ge;refine HEf.out.mono ?_;rintro e w6 ⟨keep,s2,b6,R,rfl,C6,T6,R6,Q6,S6,F6⟩)
      have T66:=(HT3'.out.toX (X:=X)).trans T6;have HC6:=za C6;have HT6:=za T66;have HR6:=za R6;have HQ6:=za Q6;have HST:=za S6;have HQF:=za F6;have hNX : ∀ i,X i → ¬ b6.D i:=fun i hi=>T66.nd (HX.out i hi).1 (HX.out i hi).2
      have HNX:=za hNX;have HOv:=za (zio C6.used);have hb6:=C6.box;rw[T66.p]at hb6;clear C6 T6 T66 R6 Q6 S6 F6 HEf HT3' hNX HC3 HT3;obtain⟨hb6_0,hb6_1,hb6_2,hb6_3,hb6_4,hb6_5,hb6_6,hb6_7,hb6_8,hb6_9,hb6_10,hb6_f,hb6_l,H_hb6⟩:=vg hb6;clear hb6;obtain⟨vN,hvN⟩:=zf ((if 0<(s2.U.c0:Int)+(s2.U.c1:Int) + -(s2.mc:Int)then(s2.U.c0:Int)+(s2.U.c1:Int) + -(s2.mc:Int)else 0));obtain⟨vC,hvC⟩:=zf ((if 0<(s2.U.s0:Int)+(s2.U.s1:Int) + -(s2.mb:Int)then(s2.U.s0:Int)+(s2.U.s1:Int) + -(s2.mb:Int)else 0));rw[hvN,hvC]at HOv;have hov:(0<vN∨0<vC)↔(s2.mc<(s2.A++s2.B).length∨s2.mb<zw (s2.A++s2.B)):=by
        rw[← hvN,← hvC,HR6.out.u,zV,vT];unfold Bu.of;dsimp only;split<;>split<;>omega
      have HOV:=za hov;clear hvN hvC hov;go_upto_region 8 with(go_at_call 133;refine HOv.out.mono ?_;rintro e w7 ⟨rfl,hp7⟩)
      clear hb6_0 hb6_1 hb6_2 hb6_3 hb6_4 hb6_5 hb6_6 hb6_7 hb6_8 hb6_9 hb6_10 hb6_f hb6_l;clear H_hb6;have HC7:=za (HC6.out.pure hp7);have HT7:=za (HT6.out.trans ((zv.pure hp7).toX (X:=X)));have HQ7:=za (HST.out w6 w7 _ HQ6.out hp7 (fun _ h=>h.elim));have HSZ7:=za hp7.size;clear hp7 HC6 HT6 HQ6 HOv;by_cases hov:0<vN∨0<vC
      · have hor:=HOV.out.1 hov
        clear hor;have hb7:=HC7.out.box;rw[HT7.out.p,HR6.out.c,HR6.out.b]at hb7;have HS:=za (fun(Y:World) (hY:zc w7 Y)=>(⟨zi Y b.p 2 _ _ (0,0) (hY.heap (fun h=>h) hb7),zi Y b.p 6 _ _ (0,0) (hY.heap (fun h=>h) hb7),zi Y b.p 7 _ _ (0,0) (hY.heap (fun h=>h) hb7)⟩:zbe b.p b6.o s2.mc s2.mb Y));have HL0:=za (fun(Y:World) (hY:zc w7 Y)=>(HC7.out.order.pure hY).list0);have HL1:=za (fun(Y:World) (hY:zc w7 Y)=>(HC7.out.order.pure hY).list1);have hlw:=HC7.out.order.law;have hmc:=HC7.out.used.c;have hmb:=HC7.out.used.b;have HCh:=za (fun(Y:World) (a1:Option Addr) (c1:Nat) (a2:Option Addr) (c2:Nat) (h1:zo Y (.slice a1 s2.A.length c1) 2 (s2.A.flatMap wtC)) (h2:zo Y (.slice a2 s2.B.length c2) 2 (s2.B.flatMap wtC))=>zed (keep:=keep) (cnt:=s2.mc) (byt:=s2.mb) h1 h2 HR6.out.len hlw.rng hlw.nd (by omega) (by omega));clear hb7 hlw hmc hmb;rcases(show 0<vN∨(¬ 0<vN∧0<vC) by omega)with g1 | ⟨g1,g2⟩
        all_goals
          clear hov;go_upto_region 9 with fail
          refine rHd (S:=zbe b.p b6.o s2.mc s2.mb) (HS.out _ (Mod.refl _ _).drew) (fun h_ => ?_);refine hTk 0 ?_;refine hTk 1 ?_;refine hTk 2 ?_;refine hTk 3 ?_;refine hLd 4 ?_;refine hTk 6 ?_;refine hTk 7 ?_;refine hTk 8 ?_;refine hTk 9 ?_;refine hLd 10 ?_;refine hTk 12 ?_;refine hTk 13 ?_;refine hTk 14 ?_;refine hTk 15 ?_;refine hTk 16 ?_;refine hLd 17 ?_;refine hTk 18 ?_;refine hTk 19 ?_;refine hTk 20 ?_;refine hTk 21 ?_;refine hLd 22 ?_
          (refine hSt 5 (fun K hK => ?_);go_simp;refine zq (HL0.out _ (Mod.refl _ _).drew) ?_;rintro e u1 ⟨a1,k1,rfl,hw1,hf1,hq1⟩;refine hK.out _ _ ?_ (fun h_ => ?_);(· exact HS.out _ ((Mod.refl (fun _=>False) w7).drew.trans hq1));clear hK K;refine clA ?_)
          (refine hSt 11 (fun K hK => ?_);go_simp;refine zq (HL1.out _ ((Mod.refl (fun _=>False) w7).drew.trans hq1)) ?_;rintro e u2 ⟨a2,k2,rfl,hw2,hf2,hq2⟩;refine hK.out _ _ ?_ (fun h_ => ?_);(· exact HS.out _ (((Mod.refl (fun _=>False) w7).drew.trans hq1).trans hq2));clear hK K;refine clA ?_)
          (refine hSt 23 (fun K hK => ?_);go_simp;refine zq (HCh.out _ a1 k1 a2 k2 ((zo.of_owns hw1 (Zs _)).frame hq2 (fun _ _ h=>h)) (zo.of_owns hw2 (Zs _))) ?_;rintro e u3 ⟨a3,k3,rfl,hw3,hf3,hq3⟩;refine hK.out _ _ ?_ (fun h_ => ?_);(· exact HS.out _ ((((Mod.refl (fun _=>False) w7).drew.trans hq1).trans hq2).trans hq3));clear hK K;refine clA ?_)
          refine hTk 24 ?_;refine hTk 25 ?_;refine hTk 26 ?_;refine hTk 27 ?_;refine hTk 28 ?_;refine hDn ?_;clear h_;have hp3:=(((Mod.refl (fun _=>False) w7).drew.trans hq1).trans hq2).trans hq3;have hl3:ud s2.mc s2.mb keep (s2.A++s2.B)=ul s2 keep:=rfl;rw[hl3]at hw3 hf3;rw[hl3];have hfr : ∀ g,(Value.slice a3 (ul s2 keep).length k3).ownBlock=some g → ¬ b6.D g:=fun g hg e=>by
            have h1:=hf3 g hg;have h2:=HC7.out.lt e;have h3:=hq1.size;have h4:=hq2.size;have h5:w7.drew.heap.size=w7.heap.size:=rfl;omega
          have HFR:=za hfr;have HW3:=za hw3;have HC8:=za (HC7.out.pure hp3);have HT8:=za (HT7.out.trans ((zv.pure hp3).toX (X:=X)));have HQ8:=za (HST.out w7 u3 _ HQ7.out hp3 (fun _ h=>h.elim));have HSZ8:=za (zH HSZ7.out hp3.size);clear hfr hw3 hf3 hp3 hq1 hq2 hq3 hw1 hw2 hf1 hf2 hl3;obtain⟨n2,hn2⟩:=zf ((ul s2 keep).length);rw[hn2]at HFR ⊢;have HN2':=za hn2;clear hn2;go_upto_region 11 with(go_at_call 86;refine(HLv2.out _).mono ?_;rintro e u4 ⟨rfl,hf4,hp4⟩)
          have HC9:=za (HC8.out.pure hp4);have HT9:=za (HT8.out.trans ((zv.pure hp4).toX (X:=X)));have HQ9:=za (HST.out u3 u4 _ HQ8.out hp4 (fun _ h=>h.elim));have HSZ9:=za (zH HSZ8.out hp4.size);have HW4:=za (zy HW3.out hp4 (fun _ _ h=>h));obtain⟨c4,hc4⟩:=zf u3.heap.size;rw[hc4]at hf4 ⊢;have hnc4 : ∀ j,j≤1 → ¬ b6.D (c4+j):=fun j _ e=>by have:=HC8.out.lt e;omega
          have hlt4:c4+1<u4.heap.size:=zm hf4.b2;have hn2b:n2≤4194304:=by
            have h1:=HN2'.out;have h2:=HR6.out.len;have h3 : ∀(R:List Wt) (n c:Nat),(vt s2.mc s2.mb R n c).length≤R.length:=by
              intro R
              induction R with
              | nil=>intro n c;exact zI _
              | cons x R ih =>
                intro n c;unfold vt;split
                · have:=ih (n-1) (c-x.cost);simp;exact this
                · simp
            have h4:(ul s2 keep).length≤(s2.A++s2.B).length:=zH (h3 _ _ _) (Kq keep _);omega
          have HF4:=za hf4;have HNC4:=za hnc4;have HLT4:=za hlt4;have HNB:=za hn2b;clear hf4 hp4 hc4 hnc4 hlt4 hn2b HC8 HT8 HQ8 HW3 HC7 HT7 HQ7;go_upto_region 12 with fail
          go_loopw [87] (fun v87 wr => ∃(k:Nat) (b':CaB),v87=.int .i64 (k:Nat)∧k≤n2∧zr Fo wr b' (xq 2 s2 ((ul s2 keep).take k))∧zv u4 wr b6 b') (fun v87 _=>n2-(intOf v87).toNat)
          case atStart=>exact⟨0,b6,rfl,yi _,HC9.out,zv.pure (Mod.refl _ _)⟩
          case round =>
            obtain⟨k,b3,rfl,hk,hC,hT⟩:=hrel;have HC3:=za hC;have HT3:=za hT;clear hC hT;by_cases hlt:k<n2
            · have hlt':(k:Int)<(n2:Int):=by omega
              have k0:(0:Int)≤(k:Int):=by omega
              have wk:IntKind.i64.wrap ((k:Int)+1)=(k:Int)+1:=zt _ (by have:=HNB.out;omega);obtain⟨x,hx⟩ : ∃ x,(ul s2 keep)[k]? = some x:=⟨_,zL (by rw[HN2'.out];exact hlt)⟩;have hrd:zo wr (.slice a3 n2 k3) 1 (zX (ul s2 keep)):=by
                have h9:=zo.of_owns (zy HW4.out HT3.out.mod (fun g hg=>HFR.out g (by rw[HN2'.out]at hg;exact hg))) (VS _);rw[HN2'.out]at h9;exact h9
              obtain⟨ad,had,z0⟩:=QS hrd hx;subst had;have hl1:=Qa HC3.out (k:=2) (c1:=c4) (c2:=c4+1) (sl:=x) (by rw[HT3.out.p,show b6.p=b.p from HT9.out.p];exact HF4.out.mod HT3.out.mod (HNC4.out 0 (by omega)) (HNC4.out 1 (by omega))) (HT3.out.nd (HNC4.out 0 (by omega)) (by have:=HLT4.out;omega)) (HT3.out.nd (HNC4.out 1 (by omega)) HLT4.out) (HR6.out.lv.at_ hx);rw[← zcy hx]at hl1;have HL1':=za hl1;clear hx hrd hl1
              go_wp2_with (go_at_call 139;refine zq HL1'.out ?_;rintro e w5 ⟨rfl,b5,C5,T5⟩)
              go_roundw
              case rel=>exact⟨k+1,b5,by first | rfl | simp,hlt,C5,HT3.out.trans T5⟩
              case measure=>simp[intOf];omega
            · have hlt' : ¬ (k:Int)<(n2:Int):=by omega
              obtain rfl:k=n2:=by omega
              have hC3:=HC3.out;rw[qp (by rw[HN2'.out];exact zI _)]at hC3;obtain⟨wE,hwE⟩:=zf wr;obtain⟨bE,hbe⟩:=zf b3;have HCE:Hid (zr Fo wE bE (evS s2 keep)):=za (by rw[← hwE,← hbe];exact hC3);have HTE:Hid (vG X w wE b bE):=za (by rw[← hwE,← hbe];exact HT9.out.trans (HT3.out.toX (X:=X)));have HQE:Hid (R wE):=za (by rw[← hwE];exact HST.out _ _ _ HQ9.out HT3.out.mod (fun _ e => .inl e));have HGE:Hid (∀ k,bE.D k→b6.D k∨w6.heap.size≤k):=za (by rw[← hbe];exact fun k e=>(HT3.out.grew k e).imp (fun e=>e) (fun e=>zH HSZ9.out e));rw[hwE];clear hC3 hbe HC3 HT3 HC9 HT9 HQ9;exact Azo4n
      · have hno : ¬ (s2.mc<(s2.A++s2.B).length∨s2.mb<zw (s2.A++s2.B)):=fun e=>hov (HOV.out.2 e)
        have hvl:ul s2 keep=[]:=by
          unfold ul ud;by_cases e0:vt s2.mc s2.mb (kT keep (s2.A++s2.B)) (s2.A++s2.B).length (zw (s2.A++s2.B))=[]
          · exact e0
          · exact zg4 hno
        have hev:evS s2 keep=s2:=by unfold evS;rw[hvl];rfl
        have g1 : ¬ 0<vN:=fun e=>hov (.inl e)
        have g2 : ¬ 0<vC:=fun e=>hov (.inr e)
        obtain⟨wE,hwE⟩:=zf w7;obtain⟨bE,hbe⟩:=zf b6;have HCE:Hid (zr Fo wE bE (evS s2 keep)):=za (by rw[hev,← hwE,← hbe];exact HC7.out);have HTE:Hid (vG X w wE b bE):=za (by rw[← hwE,← hbe];exact HT7.out);have HQE:Hid (R wE):=za (by rw[← hwE];exact HQ7.out);have HGE:Hid (∀ k,bE.D k→b6.D k∨w6.heap.size≤k):=za (by rw[← hbe];exact fun k e => .inl e);rw[hwE];clear hbe HC7 HT7 HQ7 hno hvl hev hov;exact Azo4n
end
end
end Go.Proofs.YtdohbogbnheakaaGreatDoor
