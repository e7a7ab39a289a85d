/- Lemmas and contracts of functions. No condition. -/
import Derived.Test.YtifbnponicgplaaGreatDoorJPfBoth427
import Derived.OwnWalk
import Derived.Test.YtifbnponicgplaaGreatDoorJPfBoth426
namespace Go.Proofs.YtifbnponicgplaaGreatDoor
open _root_.Go.Proofs.Tryz
set_option maxRecDepth 100000
set_option maxHeartbeats 20000000
set_option linter.all false
section
open Go.RowKit Go.Shelf
attribute [local go_sem] Oper.semAt_some
theorem Zw{w:World}{p:Nat}{a:Option Addr}{n c:Nat}(hc:w.cell? ⟨p,0,none⟩=some (.slice a n c))(hn:0<n)(hn2:n≤1048576) :
  Calls prog 177 #[.pointer (some ⟨p,0,none⟩)] w fun e w'=>e=.returned (.bool false)∧w=w':=by
 have h0:((n:Int)==0)=false:=by simp;omega
 have wn:IntKind.i64.wrap (n:Int)=n:=zt _ (by omega);go_enter func177,ntmps177;go_wp2;go_ret;exact⟨rfl,rfl⟩
def xI(c:Grp):Nat:=c.1.findIdx (fun x=>decide (128≤x))
def kE(Gs:List Grp)(tag slot:Nat):List Nat→Option (List Grp)
 | []=>none
 | i::r=>if xI (zn Gs i)=8 then kE Gs tag slot r else some (yy Gs i (xI (zn Gs i)) tag slot)
def vJ(Gs:List Grp)(sum slot:Nat):Option (List Grp):=kE Gs (sum%128) slot (xR (sum/128) Gs.length)
theorem Vr{Gs:List Grp}{tag slot:Nat} : ∀(pre post:List Nat),(∀ k∈pre,xI (zn Gs k)=8)→kE Gs tag slot (pre++post)=kE Gs tag slot post
 | [],_,_=>rfl
 | k::pre,post,h=>by
  simp only[List.cons_append,kE];rw[zj (h k (by simp)),Vr pre post (fun k' h'=>h k' (by simp[h']))]
theorem JM{l:List Nat}(h:qh l){j:Nat}(hj:l.findIdx (fun x=>decide (128≤x))=j)(hj8:j<8):l[j]? = some 128∨l[j]? = some 254:=by
 have hlt:l.findIdx (fun x=>decide (128≤x))<l.length:=by rw[hj,h.1];exact hj8
 have h1:=List.findIdx_getElem (w:=hlt);subst hj;have h2:=h.2 _ (List.getElem_mem hlt);rw[zO hlt];have h3:=of_decide_eq_true h1;rcases h2 with h2 | h2 | h2
 ·omega
 ·exact .inl (by rw[h2])
 ·exact .inr (by rw[h2])
structure InS(w:World)(D:Nat→Prop)(p:Nat)(sv:Value)(Gs:List Grp)(sum slot:Nat)(b:Nat)(W:World):Prop where
 pu:zb w W
 wb:w.heap.size≤b
 h3:W.heap[b]? = some (.cells #[.pointer (some ⟨p,0,none⟩)] 145 (0,0))
 h4:W.heap[b+1]? = some (.cells #[.int .u64 sum] 27 (0,0))
 h5:W.heap[b+1+1]? = some (.cells #[.int .u32 slot] 89 (0,0))
 h6:W.heap[b+1+1+1]? = some (.cells #[.int .i64 0] 24 (0,0))
 ix:yk W D p sv Gs
section
variable{w:World}{D:Nat→Prop}{p:Nat}{sv:Value}{Gs:List Grp}{sum slot:Nat}{b:Nat}
theorem InS.pure{A B:World}(h:InS w D p sv Gs sum slot b A)(hq:zb A B):InS w D p sv Gs sum slot b B :=
 ⟨h.pu.trans hq,h.wb,hq.heap (fun h=>h) h.h3,hq.heap (fun h=>h) h.h4,hq.heap (fun h=>h) h.h5,hq.heap (fun h=>h) h.h6,h.ix.pure hq⟩
theorem InS.quiet{N:Nat}(hN:w.heap.size≤N){A B:World}(h:InS w D p sv Gs sum slot b A)(hq:zB N A B):InS w D p sv Gs sum slot b B :=
 ⟨hq.mod h.pu hN,h.wb,hq.cells h.h3,hq.cells h.h4,hq.cells h.h5,hq.cells h.h6,h.ix.quiet hq⟩
theorem InS.new(h:yk w D p sv Gs) :
  InS w D p sv Gs sum slot w.heap.size ((((w.alloc (.cells #[.pointer (some ⟨p,0,none⟩)] 145)).alloc (.cells #[.int .u64 sum] 27)).alloc (.cells #[.int .u32 slot] 89)).alloc (.cells #[.int .i64 0] 24)):=by
 have hp:zb w ((((w.alloc (.cells #[.pointer (some ⟨p,0,none⟩)] 145)).alloc (.cells #[.int .u64 sum] 27)).alloc (.cells #[.int .u32 slot] 89)).alloc (.cells #[.int .i64 0] 24)):=by(repeat'(first | (with_reducible exact Mod.refl _ _) | (with_reducible refine Mod.alloc ?_ _) | (with_reducible refine Mod.drew ?_) | (with_reducible refine Mod.drewN ?_ _) | (with_reducible refine Mod.setCell ?_ ?_ _) | (refine Mod.then ?_ (by with_reducible assumption) ?_)))
 refine⟨hp,zN _,?_,?_,?_,?_,h.pure hp⟩
 ·exact zK (zK (zK (zk rfl)))
 ·exact zK (zK (zk (by simp)))
 ·exact zK (zk (by simp))
 ·exact zk (by simp)
structure InO(w:World)(D:Nat→Prop)(p:Nat)(sv:Value)(Gs:List Grp)(sum slot:Nat)(b:Nat)(B1 B2 B3 N:Nat)(pre:List Nat)(W:World):Prop where
 fs:InS w D p sv Gs sum slot b W
 it:uD W B1 B2 B3 (sum/128) Gs.length
 fl : ∀ k∈pre,xI (zn Gs k)=8
 sz:N≤W.heap.size
theorem InO.quiet{B1 B2 B3 M N:Nat}(hN:w.heap.size≤N){pre:List Nat}{X Y:World}(h:InO w D p sv Gs sum slot b B1 B2 B3 M pre X)(hq:zB N X Y):InO w D p sv Gs sum slot b B1 B2 B3 M pre Y :=
 ⟨h.fs.quiet hN hq,⟨hq.cells h.it.many,hq.cells h.it.part,hq.cells h.it.grps⟩,h.fl,zF h.sz (Mod.size hq)⟩
def InR(w:World)(D:Nat→Prop)(p:Nat)(sv:Value)(Gs:List Grp)(sum slot:Nat)(b:Nat)(W:World):Prop :=
 ∃ Gs',vJ Gs sum slot=some Gs'∧Mod D w W∧w.heap.size≤b∧W.heap[b+1+1+1]? = some (.cells #[.int .i64 0] 24 (0,0))∧yk W D p sv Gs'
theorem InR.quiet{N:Nat}(hN:w.heap.size≤N){X Y:World}(h:InR w D p sv Gs sum slot b X)(hq:zB N X Y):InR w D p sv Gs sum slot b Y:=by
 obtain⟨Gs',h1,h2,h3,h4,h5⟩:=h;exact⟨Gs',h1,hq.mod h2 hN,h3,hq.cells h4,h5.quiet hq⟩
theorem zbC{W2 Wx W3 W4:World}{B c i j tag z:Nat}{t1:Int}(h:InS w D p (.slice (some ⟨B,0,none⟩) Gs.length c) Gs sum slot b W2)(hx:Mod (fun k=>k=p) W2 Wx)
  (hbx:Wx.heap[p]? = some (.cells #[.slice (some ⟨B,0,none⟩) Gs.length c,.int .i64 (zD Gs),.int .i64 t1] 257 (0,0)))
  (hi:i<Gs.length) (hj:j<8) (ht1:t1=yi (yy Gs i j tag slot)) (htag:tag<128) (hsl:slot≤4294967295) (hz:zC ((zn Gs i).1.set j tag)=z) (hu:zD (yy Gs i j tag slot)=zD Gs+1)
  (h3:Mod (fun k=>k=B) Wx W3) (h3r:W3.ownsRow 0 260 9 (.slice (some ⟨B,0,none⟩) Gs.length c) Gs.length (((Gs.flatMap yO).set (i*9) (.int .u64 z)).set (i*9+1+j) (.int .u32 slot)))
  (hW4:(W3.setCell ⟨p,1,none⟩ (.int .i64 ((zD Gs:Int)+1))).setCell ⟨b+1+1+1,0,none⟩ (.int .i64 0)=W4) :
  yk W4 D p (.slice (some ⟨B,0,none⟩) Gs.length c) (yy Gs i j tag slot)∧Mod D w W4∧W4.heap[b+1+1+1]? = some (.cells #[.int .i64 0] 24 (0,0))∧Mod (fun k=>k=p∨k=B∨k=b+1+1+1) W2 W4:=by
 subst hW4;have nB : ∀(k:Nat) (cs:Array Value) (T:TypeId),W2.heap[k]? = some (.cells cs T (0,0))→T≠260→k≠B:=fun k cs T hk hT e=>by
  obtain⟨cc,e2⟩:=yd h.ix.row (g:=B) rfl;rw[e,e2]at hk;cases hk;exact hT rfl
 have hpB:=nB _ _ _ h.ix.box (by decide);have h6B:=nB _ _ _ h.h6 (by decide);have h6p:b+1+1+1≠p:=fun e=>by have:=h.h6;rw[e,h.ix.box]at this;cases this
 have hDp:D p:=(h.ix.dd p).2 (.inl rfl);have hDB:D B:=(h.ix.dd B).2 (.inr rfl);have hm4:Mod (fun k=>k=p∨k=b+1+1+1) W3 ((W3.setCell ⟨p,1,none⟩ (.int .i64 ((zD Gs:Int)+1))).setCell ⟨b+1+1+1,0,none⟩ (.int .i64 0)) :=
  ((Mod.refl _ W3).setCell (p:=⟨p,1,none⟩) (fun _ => .inl rfl) _).setCell (p:=⟨b+1+1+1,0,none⟩) (fun _ => .inr rfl) _
 have hall:Mod (fun k=>k=p∨k=B∨k=b+1+1+1) W2 ((W3.setCell ⟨p,1,none⟩ (.int .i64 ((zD Gs:Int)+1))).setCell ⟨b+1+1+1,0,none⟩ (.int .i64 0)) :=
  ((hx.mono (fun k _ e => .inl e):Mod (fun k=>k=p∨k=B∨k=b+1+1+1) W2 Wx).then h3 (fun k _ e => .inr (.inl e))).then hm4 (fun k _ e=>e.elim .inl (fun e => .inr (.inr e)))
 have hb3:=h3.heap hpB hbx;refine⟨⟨?_,?_,h.ix.dd,h.ix.ok.put (.inl htag) hsl⟩,?_,?_,hall⟩
 ·rw[hu,← ht1];refine xp ?_ (fun e=>h6p e.symm);have:=ug (j:=1) (v := .int .i64 ((zD Gs:Int)+1)) hb3;simpa using this
 ·rw[jN,← zb9 (t:=tag) (s:=slot) (h.ix.ok.at hi) hi hj (.int .u64 z) (by rw[hz])];exact zz h3r hm4 (fun g hg e=>by
   have:B=g:=by simpa[Value.ownBlock]using hg
   subst this;rcases e with e | e
   ·exact hpB e.symm
   ·exact h6B e.symm)
 ·have hwb:=h.wb;refine(Mod.of_pure h.pu:Mod D w W2).then hall (fun k hk e => ?_);rcases e with rfl | rfl | rfl
  ·exact hDp
  ·exact hDB
  ·omega
 ·exact ug (j:=0) (xp (h3.heap h6B (hx.heap h6p h.h6)) h6p)
end
def Y7(w:World)(D:Nat→Prop)(p:Nat)(sv:Value)(Gs:List Grp)(sum slot:Nat)(e:Ending)(w':World):Prop :=
 match vJ Gs sum slot with
 | some Gs'=>e=.returned (.int .i64 0)∧yk w' D p sv Gs'∧Mod D w w'
 | none=>e=.returned (.int .i64 7)∧yk w' D p sv Gs∧Mod D w w'
theorem Azrrc {P:Prop}(h:P:=by
 (refine iSt 8 (fun K hK => ?_);go_simp;(refine(yB.2 (zset.out _)).mono ?_;rintro e w' ⟨rfl,rfl⟩);refine hK _ _ ?_;clear hK K)
 (refine iTk 9 ?_)
 (refine iTk 10 ?_)
 (refine iTk 11 ?_)
 (refine iTk 12 ?_)
 (refine iTk 13 ?_)
 (refine iSt 14 (fun K hK => ?_);go_simp;skip;refine hK _ _ ?_;clear hK K)
 refine wpAnyIn_done (by kernel_rfl) ?_ _
 gi_wp2_with fail
 refine Met.intro (hJc _ _ ?_)
 repeat apply Exists.intro
 exact⟨rfl,rfl⟩):P:=h
theorem Az75b {P:Prop}(h:P:=by
 (refine iSt 7 (fun K hK => ?_);go_simp;(refine(yB.2 (ztag.out _)).mono ?_;rintro e w' ⟨rfl,rfl⟩);refine hK _ _ ?_;clear hK K)
 exact Azrrc):P:=h
theorem Azbg2 {P:Prop}(h:P:=by
 have np : ∀ {k:Nat} {cs:Array Value} {T:TypeId},W2.heap[k]? = some (.cells cs T (0,0))→T≠257→k≠p:=fun hk hT e=>by
   have:=HI.out.fs.ix.box;rw[e,this]at hk;cases hk;exact hT rfl
 have z4:=HX.out.heap (np HI.out.fs.h4 (by decide)) HI.out.fs.h4;have hrx:=zz HI.out.fs.ix.row HX.out (fun g hg e=>by
   obtain⟨cc,e2⟩:=yd HI.out.fs.ix.row hg;rw[e,HI.out.fs.ix.box]at e2;cases e2)
 obtain⟨B2,c2,hsv2,_,hBx,hcx,hfx,_⟩:=ko hrx HG.out.pos
 cases hsv2
 have zgx:Wx.cell? ⟨B,i*9,none⟩=some (.int .u64 (zC (zn Gs i).1)):=by
   have:=uO yO 9 qB 0 (by omega) Gs i;rw[vY hil]at this;exact hcx _ _ this
 have HRX:=za hrx;clear hcx hrx;obtain⟨z4_0,z4_f,z4_l,H_z4⟩:=cr1 z4;clear z4
 gi_cut []from 57 (fun wc=>wc=Wx.drew.drew.setCell ⟨B,i*9,none⟩ (.int .u64 z))
 case first =>
   rename_i Jc Kc hJc hKc;refine Xf (by kernel_rfl) (by kernel_rfl) ?_
   (refine iTk 0 ?_)
   (refine iTk 1 ?_)
   (refine iTk 2 ?_)
   (refine iTk 3 ?_)
   (refine iTk 5 ?_)
   refine wpAnyIn_ready (rs:=[4,6]) (by kernel_rfl) (by simp) ?_;refine AllReadyIn.cons rfl (fun K hK => ?_) (AllReadyIn.cons rfl (fun K hK => ?_) AllReadyIn.nil)
   · go_simp
     refine hK _ _ ?_;clear hK K
     (refine iSt 6 (fun K hK => ?_);go_simp;skip;refine hK _ _ ?_;clear hK K)
     exact Az75b
   · go_simp
     refine hK _ _ ?_;clear hK K;refine wpAnyIn_ready (rs:=[4,7]) (by kernel_rfl) (by simp) ?_;refine AllReadyIn.cons rfl (fun K hK => ?_) (AllReadyIn.cons rfl (fun K hK => ?_) AllReadyIn.nil)
     · go_simp
       refine hK _ _ ?_;clear hK K;exact Az75b
     · go_simp
       refine(yB.2 (ztag.out _)).mono ?_;rintro e w' ⟨rfl,rfl⟩;refine hK _ _ ?_;clear hK K
       (refine iSt 4 (fun K hK => ?_);go_simp;skip;refine hK _ _ ?_;clear hK K)
       exact Azrrc
 case rest =>
   subst hcut;have hm1:Mod (fun k=>k=B) Wx (Wx.drew.drew.setCell ⟨B,i*9,none⟩ (.int .u64 z)):=Mod.of_drew (Mod.of_drew (Mod.set1 B (i*9) _));have nB : ∀ {k:Nat} {cs:Array Value} {T:TypeId},W2.heap[k]? = some (.cells cs T (0,0))→T≠260→k≠B:=fun hk hT e=>by
     obtain⟨cc,e2⟩:=yd HI.out.fs.ix.row (g:=B) rfl;rw[e,e2]at hk;cases hk;exact hT rfl
   have z5:=hm1.heap (nB HI.out.fs.h5 (by decide)) (HX.out.heap (np HI.out.fs.h5 (by decide)) HI.out.fs.h5);have hr1:(Wx.drew.drew.setCell ⟨B,i*9,none⟩ (.int .u64 z)).ownsRow 0 260 9 (.slice (some ⟨B,0,none⟩) Gs.length c) Gs.length ((Gs.flatMap yO).set (i*9) (.int .u64 z)) :=
     uT (zz HRX.out (Mod.drew (Mod.drew (Mod.refl (fun _=>False) Wx))) (fun _ _ h=>h)) (i*9) (.int .u64 z) (by omega)
   obtain⟨B3',c3,hsv3,_,hB3',hc3,hf3,_⟩:=ko hr1 HG.out.pos
   cases hsv3
   have hl9:i*9+1+j<((Gs.flatMap yO).set (i*9) (.int .u64 z)).length:=by rw[hr1.1];omega
   have zs0 : ∃ u,(Wx.drew.drew.setCell ⟨B,i*9,none⟩ (.int .u64 z)).cell? ⟨B,i*9+1+j,none⟩=some u:=⟨_,hc3 _ _ (zO hl9)⟩;obtain⟨u0,zs⟩:=zs0;clear hc3 hl9;have HR1:=za hr1;have HM1:=za hm1;clear z4_0 z4_f z4_l;clear H_z4 hm1 hr1 zgx hfx;generalize Wx.drew.drew.setCell ⟨B,i*9,none⟩ (.int .u64 z)=W5 at *;obtain⟨z5_0,z5_f,z5_l,H_z5⟩:=cr1 z5;clear z5;gi_upto_region 12 with fail
   gi_cut []from 71 (fun wc=>wc=W5.drew.setCell ⟨B,i*9+1+j,none⟩ (.int .u32 slot))
   case first =>
     rename_i Jc Kc hJc hKc;refine Xf (by kernel_rfl) (by kernel_rfl) ?_
     (refine iTk 0 ?_)
     (refine iTk 1 ?_)
     (refine iTk 3 ?_)
     (refine iTk 4 ?_)
     (refine iSt 2 (fun K hK => ?_);go_simp;skip;refine hK _ _ ?_;clear hK K)
     (refine iTk 5 ?_)
     (refine iSt 6 (fun K hK => ?_);go_simp;skip;refine hK _ _ ?_;clear hK K)
     refine wpAnyIn_done (by kernel_rfl) ?_ _
     gi_wp2_with fail
     refine Met.intro (hJc _ _ ?_)
     repeat apply Exists.intro
     exact⟨rfl,rfl⟩
   case rest =>
     subst hcut;have hm2:Mod (fun k=>k=B) Wx (W5.drew.setCell ⟨B,i*9+1+j,none⟩ (.int .u32 slot)):=HM1.out.trans (Mod.of_drew (Mod.set1 B (i*9+1+j) _));have hr2:=uT (zz HR1.out (Mod.drew (Mod.refl (fun _=>False) W5)) (fun _ _ h=>h)) (i*9+1+j) (.int .u32 slot) (by omega);have z3:=hm2.heap (nB HI.out.fs.h3 (by decide)) (HX.out.heap (np HI.out.fs.h3 (by decide)) HI.out.fs.h3);have zp:=hm2.heap (nB HI.out.fs.ix.box (by decide)) HBX.out;have z6:=hm2.heap (nB HI.out.fs.h6 (by decide)) (HX.out.heap (np HI.out.fs.h6 (by decide)) HI.out.fs.h6);have HE:=za (zbC HI.out.fs HX.out HBX.out hil hj8 ht1.out htl hslot hz hu1 hm2 hr2 rfl);clear z5_0 z5_f z5_l;clear H_z5 hm2 hr2 zs hf3;generalize W5.drew.setCell ⟨B,i*9+1+j,none⟩ (.int .u32 slot)=W6 at *;obtain⟨z3_0,z3_f,z3_l,H_z3⟩:=cr1 z3;clear z3;obtain⟨zp_0,zp_1,zp_2,zp_f,zp_l,H_zp⟩:=cr3 zp;clear zp;obtain⟨z6_0,z6_f,z6_l,H_z6⟩:=cr1 z6;clear z6;have wu:IntKind.i64.wrap ((zD Gs:Int)+1)=(zD Gs:Int)+1:=zt _ (by omega);gi_wp2;obtain⟨E1,E2,E3,E4⟩:=HE.out;refine⟨xl.of_mod E4 (fun k _ hk o ho => ?_),rfl,_,?_,E2,HI.out.fs.wb,E3,E1⟩
     · rcases hk with e | e | e
       · rw[e,HI.out.fs.ix.box]at ho;cases ho;rfl
       · obtain⟨cc,e2⟩:=yd HI.out.fs.ix.row (g:=B) rfl
         rw[e,e2]at ho;cases ho;rfl
       · rw[e,HI.out.fs.h6]at ho;cases ho;rfl
     · unfold vJ
       rw[hpart,HPO.out,Vr pre (i::post) HI.out.fl,htg];simp only[kE];rw[zh (by rw[hj];omega),hj]):P:=h
theorem zbf{w:World}{D:Nat→Prop}{p:Nat}{sv:Value}{Gs:List Grp}(h:yk w D p sv Gs)(sum slot:Nat)(hsum:sum<18446744073709551616)(hslot:slot≤4294967295) :
    Calls prog 197 #[.pointer (some ⟨p,0,none⟩),.int .u64 sum,.int .u32 slot] w (Y7 w D p sv Gs sum slot):=by
  have hlp:p<w.heap.size:=zm h.box;obtain⟨B,c,rfl,hc,hB,hDB,hBf,hcells⟩:=h.at;have hfs:=InS.new (sum:=sum) (slot:=slot) h;have HF:=za hfs;have HC:=za hcells;clear hfs hcells hBf hc
  (refine(yB (n:=0)).1 (callsIn_of_wp_marks func197 rfl trivial (kH.2 ?_) rfl);simp only[ntmps197,List.size_toArray,List.length_cons,List.length_nil,Nat.reduceAdd,Nat.reduceSub,Array.replicate_succ,Array.replicate_zero,List.push_toArray,List.append_toArray,List.nil_append,List.cons_append])
  go_upto_region 1 with fail
  generalize(((w.alloc (.cells #[.pointer (some ⟨p,0,none⟩)] 145)).alloc (.cells #[.int .u64 sum] 27)).alloc (.cells #[.int .u32 slot] 89)).alloc (.cells #[.int .i64 0] 24)=W1 at HF ⊢;have hws:=HF.out.wb;generalize w.heap.size=b at HF ⊢;have z3:=HF.out.h3;have z4:=HF.out.h4;have zp:=HF.out.ix.box;obtain⟨z3_0,z3_f,z3_l,H_z3⟩:=cr1 z3;clear z3;obtain⟨z4_0,z4_f,z4_l,H_z4⟩:=cr1 z4;clear z4;obtain⟨zp_0,zp_1,zp_2,zp_f,zp_l,H_zp⟩:=cr3 zp;clear zp;have HG:=za HF.out.ix.ok.pow;have wg:IntKind.i64.wrap (Gs.length:Int)=Gs.length:=zt _ (by have:=HG.out.le;omega);have HZ:=za (fun W (hW:W.cell? ⟨p,0,none⟩=_)=>Zw (w:=W) (c:=c) (a:=some ⟨B,0,none⟩) hW HG.out.pos HG.out.le);have HPart:=za (fun W=>zdP sum W hsum);have HAll:=za (fun W=>zdi (sum/128) Gs.length W HG.out);obtain⟨part,hpart⟩:=zf (sum/128);rw[hpart]at HPart HAll;go_upto_region 3 with(go_at_call 177;refine(HZ.out _ zp_0).mono ?_;rintro e w' ⟨rfl,rfl⟩)
  go_region_held3 (fun w'=>w'.cell? ⟨b,0,none⟩=some (.pointer (some ⟨p,0,none⟩))∧w'.cell? ⟨b+1,0,none⟩=some (.int .u64 sum)∧w'.cell? ⟨p,0,none⟩=some (.slice (some ⟨B,0,none⟩) Gs.length c))
    (first | go_keep | exact⟨hp2.cell (fun h=>h) z3_0,hp2.cell (fun h=>h) z4_0,hp2.cell (fun h=>h) zp_0⟩)
    (first
      | (go_at_call 225;(with_reducible refine(HPart.out _).mono ?_);rintro e w' ⟨rfl,rfl⟩)
      | (go_at_call 224;(with_reducible refine(HAll.out _).mono ?_);rintro e w2 ⟨B1,B2,B3,rfl,hit,hp2,hB1,hB2,hB3⟩))
  have hpw:zb W1 w2:=hp2.of_drew;have hfo:InO w D p (.slice (some ⟨B,0,none⟩) Gs.length c) Gs sum slot b B1 B2 B3 w2.heap.size [] w2:=by
    refine⟨HF.out.pure hpw,by rw[hpart];exact hit,by simp,zN _⟩
  have hItlt : ∀ k,qA B1 B2 B3 k→k<w2.heap.size:=by
    exact Azwe9
  have hw2:w.heap.size≤w2.heap.size:=zF HF.out.pu.size hpw.size;have hpl:part<144115188075855872:=by omega
  have HO:=za hfo;clear z3_0 z3_f z3_l;clear z4_0 z4_f z4_l;clear zp_0 zp_1 zp_2 zp_f zp_l;clear H_z3 H_z4 H_zp HF hfo HPart HAll HZ hp2 hpw hB1 hB2 hB3;go_wp2;refine kH.1 (XE (gf:=270) (lb:=#[.pointer (some ⟨B1,0,none⟩),.pointer (some ⟨B2,0,none⟩),.pointer (some ⟨B3,0,none⟩)]) rfl (enters_of func270 (by kernel_rfl) rfl) (It:=qA B1 B2 B3) (zb2 hit HG.out hpl) hItlt (fun _=>rfl)
    (fun pre W=>InO w D p (.slice (some ⟨B,0,none⟩) Gs.length c) Gs sum slot b B1 B2 B3 w2.heap.size pre W) (fun cd _ W=>cd=.ret∧InR w D p (.slice (some ⟨B,0,none⟩) Gs.length c) Gs sum slot b W) ?hI ?hIx HO.out ?round ?done ?stop)
  case hI=>exact fun pre X Y h hq=>h.quiet hw2 hq
  case hIx=>exact fun cd pre X Y h hq=>⟨h.1,h.2.quiet hw2 hq⟩
  case stop =>
    rintro l cd pre W hl ⟨rfl,h1⟩ hK;obtain⟨Gs',g1,g2,g3,g4,g5⟩:=h1.quiet hw2 (zB.putObj (.deferred none) hl hK rfl);have y6:=zi _ _ 0 _ _ _ g4;simp at y6;refine kH.2 ?_;go_wp2;exact Z9 (v := .int .i64 0) hK (by simp[results,results197,go_sem,y6]) (by unfold Y7;rw[g1];exact⟨rfl,g5,g2⟩)
  case done =>
    rintro l xs W hl hS hI hK;have hS':xs=xR part Gs.length:=hS;have hn:vJ Gs sum slot=none:=by
      unfold vJ;rw[hpart,← hS'];have:=Vr (Gs:=Gs) (tag:=sum%128) (slot:=slot) xs [] hI.fl;rw[jt]at this;exact this
    have z6:=hI.fs.h6;have HI:=za hI;have hwb:=hI.fs.wb;clear hI HO hit hItlt;obtain⟨z6_0,z6_f,z6_l,H_z6⟩:=cr1 z6;clear z6;go_wp2;have hm:Mod (fun k=>k=b+1+1+1) W (W.setCell ⟨b+1+1+1,0,none⟩ (.int .i64 7)):=Mod.set1 _ _ _;have hk:=hm.heap (by intro e;subst e;rw[H_z6.out]at hK;cases hK) hK;have hq:zB w2.heap.size _ _:=zB.putObj (.deferred none) hl hk rfl;have y6:=zi _ _ 0 _ _ _ (hq.cells (ug (j:=0) (v := .int .i64 7) H_z6.out));simp at y6;refine Z9 (v := .int .i64 7) hk (by simp[results,results197,go_sem,y6]) ?_;unfold Y7;rw[hn];refine⟨rfl,(HI.out.fs.ix.mod hm (fun k hk e => ?_)).quiet hq,hq.mod (Mod.mono ((Mod.of_pure HI.out.fs.pu).then hm (fun i hi e=>by omega):Mod (fun _=>False) w _) (fun _ _ h=>h.elim)) hw2⟩;subst e;rcases(HI.out.fs.ix.dd _).1 hk with e | e
    · rw[e,HI.out.fs.ix.box]at H_z6;cases H_z6.out
    · obtain⟨cc,e2⟩:=yd HI.out.fs.ix.row e
      rw[e2]at H_z6;cases H_z6.out
  case round =>
    rintro l pre i W K hI hG hK;obtain⟨post,hpost⟩:=hG;have hil:i<Gs.length:=by
      exact Azmvu
    dsimp only[qR];have HI:=za hI;have HK:=za hK;have HPO:=za hpost;clear hI hK HO hit hpost;gi_wp2;refine HK.out _ _ (Mod.refl _ _) (fun l' W2 hl hr hq => ?_);replace HI:=za (HI.out.quiet hw2 hq);clear HK hq W hr;have z3:=HI.out.fs.h3;have zp:=HI.out.fs.ix.box;obtain⟨z3_0,z3_f,z3_l,H_z3⟩:=cr1 z3;clear z3;obtain⟨zp_0,zp_1,zp_2,zp_f,zp_l,H_zp⟩:=cr3 zp;clear zp;have hi0:(0:Int)≤i:=by omega
    have hi1:(i:Int)<Gs.length:=by omega
    have hgl:=HG.out.le;obtain⟨B',c',hsv,_,hB',hDB',hBf',hcells'⟩:=HI.out.fs.ix.at
    cases hsv
    have zg:=(hcells' i hil).1;have hgo:=za (HI.out.fs.ix.ok.at hil);have hff:xI (zn Gs i)=jq (zM ((zn Gs i).1.map (fun x=>decide (128≤x)))):=by
      rw[zlU (by rw[yH];exact hgo.out.ctl.1)];unfold xI;rw[List.findIdx_map]
      rfl
    have hml:zM ((zn Gs i).1.map (fun x=>decide (128≤x)))<256:=jA (by rw[yH];exact hgo.out.ctl.1);have zfr:=za (fun W=>zdM hgo.out.ctl W);have zfi:=za (fun W=>zcO _ W hml);have hfl:=zlD _ hml;rw[← hff]at zfi hfl;have HFF:=za hff;clear hcells' hff hml;generalize zM ((zn Gs i).1.map (fun x=>decide (128≤x)))=m at *;obtain⟨j,hj⟩:=zf (xI (zn Gs i));rw[hj]at zfi hfl;by_cases h8:j=8
    · subst h8
      gi_wp2_with (first
        | (gi_at_call 246;refine ku (CallsIn.inRound l' (yB.2 (zfr.out _))) ?_;rintro e w' ⟨rfl,rfl⟩)
        | (gi_at_call 245;refine ku (CallsIn.inRound l' (yB.2 (zfi.out _))) ?_;rintro e w' ⟨rfl,rfl⟩))
      refine⟨fun _ _ _ h _=>h,⟨zN _,fun _ _ _=>rfl⟩,⟨HI.out.fs,HI.out.it,?_,HI.out.sz⟩⟩;intro k hk;rcases yI.1 hk with hk | hk
      · exact HI.out.fl k hk
      · have:k=i:=by simpa using hk
        rw[this];exact hj
    · have hj8:j<8:=by omega
      have hj0:(0:Int)≤j:=by omega
      have hj1:(j:Int)<8:=by omega
      have hj2:(j:Int)≤8:=by omega
      have hjn:((j:Int)==8)=false:=by simp;omega
      have hbit:=zaR (p:=(zn Gs i).1.map (· == 128)) (by rw[yH];exact hgo.out.ctl.1) j hj8;have hmz:zM ((zn Gs i).1.map (· == 128))<256:=jA (by rw[yH];exact hgo.out.ctl.1);have hcj:=JM hgo.out.ctl hj hj8;have zem:=za (fun W=>X5 hgo.out.ctl.bytes W);have hgd:((zn Gs i).1.map (· == 128)).getD j false=decide ((zn Gs i).1[j]? = some 128):=by
        rw[vM,yz];rcases hcj with e | e<;>simp[e]
      rw[hgd]at hbit;generalize zM ((zn Gs i).1.map (· == 128))=me at *;have hme:me/2 ^ j<256:=jm (Y2 _ _) hmz;have hb1:=KP _ 1 hme (by omega);rw[hbit]at hb1;rw[Int.natCast_ediv,Int.natCast_pow]at hb1;have hus:=HI.out.fs.ix.ok.used_le;have htm:=HI.out.fs.ix.ok.tomb_le;obtain⟨tag,htg⟩:=zf (sum%128);have htl:tag<128:=by omega
      have ztag:=za (fun W=>zdt sum W hsum);rw[htg]at ztag;have zset:=za (fun W=>zhz hgo.out.ctl j tag W hj8 htl);obtain⟨z,hz⟩:=zf (zC ((zn Gs i).1.set j tag));rw[hz]at zset;have hu0:=fun a ha=>VP (Gs:=Gs) (i:=i) (j:=j) (t:=tag) (s:=slot) (a:=a) hil ha
      have ht0:=fun a ha=>V6 (Gs:=Gs) (i:=i) (j:=j) (t:=tag) (s:=slot) (a:=a) hil ha
      have htd:(decide (tag<128)).toNat=1:=by simp[htl]
      have hte0:(tag==254)=false:=by simp;omega
      have hte:(tag==254).toNat=0:=by rw[hte0];rfl
      rw[htd]at hu0;rw[hte]at ht0;rcases hcj with hcj | hcj
      · have hb2:bits .and .u8 ((me:Int)/2 ^ j) 1=1:=by simpa[hcj]using hb1
        gi_upto_region 11 with(first
          | (gi_at_call 246;refine ku (CallsIn.inRound l' (yB.2 (zfr.out _))) ?_;rintro e w' ⟨rfl,rfl⟩)
          | (gi_at_call 245;refine ku (CallsIn.inRound l' (yB.2 (zfi.out _))) ?_;rintro e w' ⟨rfl,rfl⟩)
          | (gi_at_call 185;refine ku (CallsIn.inRound l' (yB.2 (zem.out _))) ?_;rintro e w' ⟨rfl,rfl⟩))
        have hu1:zD (yy Gs i j tag slot)=zD Gs+1:=by simpa using hu0 128 hcj
        have ht2:yi (yy Gs i j tag slot)=yi Gs:=by simpa using ht0 128 hcj
        clear z3_0 z3_f z3_l;clear zp_0 zp_1 zp_2 zp_f zp_l;clear H_z3 H_zp zg;obtain⟨Wx,hWx⟩ : ∃ Wx,Wx=W2:=⟨_,rfl⟩;have HX:Hid (Mod (fun k=>k=p) W2 Wx):=hWx ▸ Mod.refl _ W2;have HBX:Hid (Wx.heap[p]? = _):=hWx ▸ HI.out.fs.ix.box;have ht1:Hid ((yi Gs:Int)=yi (yy Gs i j tag slot)):=by show((yi Gs:Int)=yi (yy Gs i j tag slot));rw[ht2]
        clear ht2;rw[← hWx];clear hWx;exact Azbg2
      · have hb2:bits .and .u8 ((me:Int)/2 ^ j) 1=0:=by simpa[hcj]using hb1
        gi_upto_region 11 with(first
          | (gi_at_call 246;refine ku (CallsIn.inRound l' (yB.2 (zfr.out _))) ?_;rintro e w' ⟨rfl,rfl⟩)
          | (gi_at_call 245;refine ku (CallsIn.inRound l' (yB.2 (zfi.out _))) ?_;rintro e w' ⟨rfl,rfl⟩)
          | (gi_at_call 185;refine ku (CallsIn.inRound l' (yB.2 (zem.out _))) ?_;rintro e w' ⟨rfl,rfl⟩))
        have hu1:zD (yy Gs i j tag slot)=zD Gs+1:=by simpa using hu0 254 hcj
        have ht2:yi (yy Gs i j tag slot)+1=yi Gs:=by simpa using ht0 254 hcj
        have HX:Hid (Mod (fun k=>k=p) W2 (W2.setCell ⟨p,2,none⟩ (.int .i64 ((yi Gs:Int)-1)))):=Mod.set1 _ _ _;have hbx0:=ug (j:=2) (v := .int .i64 ((yi Gs:Int)-1)) HI.out.fs.ix.box;simp at hbx0;have HBX:=za hbx0;clear hbx0;have ht1:Hid ((yi Gs:Int)-1=yi (yy Gs i j tag slot)):=by show((yi Gs:Int)-1=yi (yy Gs i j tag slot));omega
        clear ht2;clear z3_0 z3_f z3_l;clear zp_0 zp_1 zp_2 zp_f zp_l;clear H_z3 H_zp zg;generalize W2.setCell ⟨p,2,none⟩ (.int .i64 ((yi Gs:Int)-1))=Wx at *;exact Azbg2
end
section
open Go.RowKit Go.Shelf
theorem Az02r {P:Prop}(h:P:=by
 go_wp2_with (go_at_call 177;refine(HZ.out zp_0).mono ?_;rintro e w' ⟨rfl,rfl⟩)
 go_ret;exact⟨rfl,rfl⟩):P:=h
theorem za2{w:World}{D:Nat→Prop}{p:Nat}{sv:Value}{Gs:List Grp}(h:yk w D p sv Gs):Calls prog 134 #[.pointer (some ⟨p,0,none⟩)] w fun e w'=>e=.returned (.int .i64 (zD Gs))∧w=w':=by
 obtain⟨B,c,rfl,hc,hB,hDB,hBf,hcells⟩:=h.at;have zp:=h.box;have HZ:=za (fun(hW:w.cell? ⟨p,0,none⟩=_)=>Zw (w:=w) (c:=c) (a:=some ⟨B,0,none⟩) hW h.ok.pow.pos h.ok.pow.le);clear hcells h;obtain⟨zp_0,zp_1,zp_2,zp_f,zp_l,H_zp⟩:=cr3 zp;clear zp;go_enter func134,ntmps134;exact Az02r
theorem Kq{w:World}{D:Nat→Prop}{p:Nat}{sv:Value}{Gs:List Grp}(h:yk w D p sv Gs):Calls prog 135 #[.pointer (some ⟨p,0,none⟩)] w fun e w'=>e=.returned (.int .i64 (yi Gs))∧w=w':=by
 obtain⟨B,c,rfl,hc,hB,hDB,hBf,hcells⟩:=h.at;have zp:=h.box;have HZ:=za (fun(hW:w.cell? ⟨p,0,none⟩=_)=>Zw (w:=w) (c:=c) (a:=some ⟨B,0,none⟩) hW h.ok.pow.pos h.ok.pow.le);clear hcells h;obtain⟨zp_0,zp_1,zp_2,zp_f,zp_l,H_zp⟩:=cr3 zp;clear zp;go_enter func135,ntmps135;exact Az02r
theorem Jn{w:World}{D:Nat→Prop}{p:Nat}{sv:Value}{Gs:List Grp}(h:yk w D p sv Gs):Calls prog 133 #[.pointer (some ⟨p,0,none⟩)] w fun e w'=>e=.returned (.int .i64 Gs.length)∧w=w':=by
 obtain⟨B,c,rfl,hc,hB,hDB,hBf,hcells⟩:=h.at;have zp:=h.box;have HZ:=za (fun(hW:w.cell? ⟨p,0,none⟩=_)=>Zw (w:=w) (c:=c) (a:=some ⟨B,0,none⟩) hW h.ok.pow.pos h.ok.pow.le);have wg:IntKind.i64.wrap (Gs.length:Int)=Gs.length:=zt _ (by have:=h.ok.pow.le;omega);clear hcells h;obtain⟨zp_0,zp_1,zp_2,zp_f,zp_l,H_zp⟩:=cr3 zp;clear zp;go_enter func133,ntmps133;exact Az02r
theorem zfL{w:World}{B0 x:Nat}(hb:w.heap[B0]? = some (.cells #[.int .u32 x] 89 (0,0)))(s:Nat)(hs:s≤4294967295)(hx:x≤4294967295) :
  Calls prog 183 #[.int .u32 s,.pointer (some ⟨B0,0,none⟩)] w fun e w'=>e=.returned (.bool (s==x))∧w=w':=by
 obtain⟨hb_0,hb_f,hb_l,H_hb⟩:=cr1 hb;clear hb;have hs0:(s:Int)≤4294967295:=by omega
 have hx0:(x:Int)≤4294967295:=by omega
 have e:((s:Int)==(x:Int))=(s==x):=by rw[Bool.eq_iff_iff];simp;omega
 go_enter func183,ntmps183;go_wp2;go_ret;exact⟨rfl,rfl⟩
theorem zje{gf B0:Nat}{g:Nat→Bool}{w:World}{cs:Array Value}{T:TypeId}(he : ∀ args w,(callFunc gf args).run prog w=.ok (.enter gf args) w)(hB:B0<w.heap.size)
  (hb:w.heap[B0]? = some (.cells cs T (0,0)))
  (hc : ∀(W:World) (s:Nat),s≤4294967295→W.heap[B0]? = some (.cells cs T (0,0))→Calls prog gf #[.int .u32 s,.pointer (some ⟨B0,0,none⟩)] W fun e w'=>e=.returned (.bool (g s))∧W=w') :
  uz prog gf #[.pointer (some ⟨B0,0,none⟩)] (fun _ s=>g s) (fun _=>False) (fun _ W=>W.heap[B0]? = some (.cells cs T (0,0))) w :=
 ⟨he,fun pre s W hs hJ=>(yB.2 (hc W s hs hJ)).mono (fun e w' ⟨h1,h2⟩=>by subst h2;exact⟨h1,hJ,xh.refl _ _⟩),fun pre A B hJ hm=>hm.heap (fun hk=>by have:=hk.1;omega) hJ,fun _ h=>h.elim,hb⟩
def uo(Gs:List Grp)(sum:Nat)(g:Nat→Bool):Option (Nat × Nat):=(xD Gs sum).find? (fun x=>g (zS Gs x))
def UU(w:World)(D:Nat→Prop)(p:Nat)(sv:Value)(Gs:List Grp)(sum:Nat)(g:Nat→Bool)(B:Nat)(e:Ending)(w':World):Prop :=
 zb w w'∧yk w' D p sv Gs ∧
 match uo Gs sum g with
 | some x=>x.1<Gs.length∧x.2<8∧x∈xD Gs sum∧g (zS Gs x)=true∧e=.returned (.tuple #[.pointer (some ⟨B,x.1*9,none⟩),.int .i64 x.2,.int .i64 0])
 | none=>e=.returned (.tuple #[.pointer none,.int .i64 0,.int .i64 9])
theorem Vq{g:Nat→Bool}{xs:List Nat}(h:kp (fun _ s=>g s) xs) : ∀ x∈xs,g x=false:=fun x hx=>by
 obtain⟨a,c,rfl⟩:=List.append_of_mem hx;exact h a x c rfl
theorem zjq{w w':World}{D:Nat→Prop}{p:Nat}{sv:Value}{Gs:List Grp}{sum:Nat}{g:Nat→Bool}{J:List Nat→World→Prop}{B:Nat}{e:Ending}(h:U5 w D p sv Gs sum (fun _ s=>g s) (fun _=>False) J B e w'):UU w D p sv Gs sum g B e w':=by
 obtain⟨h1,h2,h3⟩:=h;refine⟨Mod.mono h1 (fun k _ ⟨_,_,_,_,hf⟩=>hf),h2,?_⟩;rcases h3 with⟨a,x,post,hs,hf,hg,hi,hj,he,_⟩ | ⟨hf,he,_⟩
 ·have:uo Gs sum g=some x:=by
   unfold uo;rw[hs,List.find?_append,qj.2 (fun y hy=>by
    have:=Vq hf (zS Gs y) (zI.2 ⟨y,hy,rfl⟩);simp[this])]
   simp[hg]
  rw[this];exact⟨hi,hj,by rw[hs];simp,hg,he⟩
 ·have:uo Gs sum g=none:=by
   unfold uo;exact qj.2 (fun y hy=>by
    have:=Vq hf (zS Gs y) (zI.2 ⟨y,hy,rfl⟩);simp[this])
  rw[this];exact he
def jd:Grp:=([128,128,128,128,128,128,128,128],[0,0,0,0,0,0,0,0])
def jJ:Grp:=([0,0,0,0,0,0,0,0],[0,0,0,0,0,0,0,0])
def xt(g:Nat):List Grp:=List.replicate g jd
theorem zim:xX jd:=⟨⟨rfl,by decide⟩,rfl,by decide⟩
theorem Vd(g:Nat):(xt g).length=g:=vz
theorem zbv{g:Nat}(hg:Pow g):xw (xt g):=⟨by rw[Vd];exact hg,fun c hc=>by rw[(List.mem_replicate.1 hc).2];exact zim⟩
theorem UT(g:Nat):zD (xt g)=0:=by
 unfold zD xt;rw[List.map_replicate,show jd.1.countP (· < 128)=0 from by decide];simp
theorem zax(g:Nat):yi (xt g)=0:=by
 unfold yi xt;rw[List.map_replicate,show jd.1.countP (· == 254)=0 from by decide];simp
def kx(g i:Nat):List Grp:=List.replicate i jd++List.replicate (g-i) jJ
theorem zf5{g i:Nat}(h:i≤g):(kx g i).length=g:=by unfold kx;simp;omega
theorem zkN(g:Nat):kx g g=xt g:=by unfold kx xt;simp
theorem zey(g:Nat):(madeCells #[.int .u64 0,.int .u32 0,.int .u32 0,.int .u32 0,.int .u32 0,.int .u32 0,.int .u32 0,.int .u32 0,.int .u32 0] (g*9)).toList=(kx g 0).flatMap yO:=by
 have e:yO jJ=[.int .u64 0,.int .u32 0,.int .u32 0,.int .u32 0,.int .u32 0,.int .u32 0,.int .u32 0,.int .u32 0,.int .u32 0]:=rfl;unfold madeCells kx;simp only[List.replicate_zero,List.nil_append,Nat.sub_zero];apply uF;intro k;by_cases hk:k<g*9
 ·have h1:=uO yO 9 qB (k%9) (by omega) (List.replicate g jJ) (k/9);rw[show k/9*9+k%9=k by omega]at h1;have h2:(List.replicate g jJ)[k/9]? = some jJ:=by rw[vU,zj (by omega)]
  rw[h2]at h1;rw[h1]
  show _=(yO jJ)[k%9]?
  rw[e];rw[zO (by simpa using hk)];simp;have:k%9<9:=vi _ (by decide);generalize k%9=r at *;have:r=0∨r=1∨r=2∨r=3∨r=4∨r=5∨r=6∨r=7∨r=8:=by omega
  rcases this with rfl | rfl | rfl | rfl | rfl | rfl | rfl | rfl | rfl<;>rfl
 ·rw[xM (by simpa using hk),xM];have : ∀ r∈(List.replicate g jJ),(yO r).length=9:=fun r _=>qB r
  rw[List.length_flatMap,uI this];simp;omega
theorem QG{g i:Nat}(h:i<g):((kx g i).flatMap yO).set (i*9) (.int .u64 (zC [128,128,128,128,128,128,128,128]))=(kx g (i+1)).flatMap yO:=by
 have e1:kx g i=List.replicate i jd++jJ::List.replicate (g-(i+1)) jJ:=by
  unfold kx;rw[show g-i=g-(i+1)+1 by omega,ZO]
 have e2:kx g (i+1)=List.replicate i jd++jd::List.replicate (g-(i+1)) jJ:=by
  unfold kx;rw[List.replicate_succ',vL];rfl
 rw[e1,e2,ZQ,ZQ,qE,qE];have hl:((List.replicate i jd).flatMap yO).length=i*9:=by
  rw[List.length_flatMap,uI (fun r _=>qB r)];simp
 rw[XO _ _ (by omega),hl,Y9]
 rfl
theorem zk1:(prog.info? 260).map (fun i=>(i.zero,i.size,i.bytes))=some (some (.agg #[.int .u64 0,.int .u32 0,.int .u32 0,.int .u32 0,.int .u32 0,.int .u32 0,.int .u32 0,.int .u32 0,.int .u32 0]),9,40):=by kernel_rfl
def zgt(w:World)(g:Nat)(e:Ending)(w':World):Prop :=
 ∃ p sv,e=.returned (.tuple #[.pointer (some ⟨p,0,none⟩),.int .i64 0])∧yk w' (fun k=>k=p∨sv.ownBlock=some k) p sv (xt g)∧zb w w'∧w.heap.size≤p ∧ ∀ k,sv.ownBlock=some k→w.heap.size≤k
structure V8(w:World)(g p i:Nat)(W:World):Prop where
 pu:zb w W
 box:W.heap[p]? = some (.cells #[.slice (some ⟨w.heap.size,0,none⟩) g g,.int .i64 0,.int .i64 0] 257 (0,0))
 row:W.ownsRow 0 260 9 (.slice (some ⟨w.heap.size,0,none⟩) g g) g ((kx g i).flatMap yO)
 wp:w.heap.size≤p
theorem V8.step{w:World}{g p i:Nat}{W W' W'':World}(h:V8 w g p i W)(hi:i<g)(hp:p≠w.heap.size)(hW:zb W W')(e:W'.setCell ⟨w.heap.size,i*9,none⟩ (.int .u64 (zC [128,128,128,128,128,128,128,128]:Nat))=W''):V8 w g p (i+1) W'':=by
 subst e;have hm:Mod (fun k=>k=w.heap.size) W' (W'.setCell ⟨w.heap.size,i*9,none⟩ (.int .u64 (zC [128,128,128,128,128,128,128,128]:Nat))):=Mod.set1 _ _ _;refine⟨(h.pu.trans hW).then hm (fun k hk e=>by omega),hm.heap hp (hW.heap (fun h=>h) h.box),?_,h.wp⟩;have:=uT (zz h.row hW (fun _ _ h=>h)) (i*9) (.int .u64 (zC [128,128,128,128,128,128,128,128]:Nat)) (by omega)
 rwa [QG hi]at this
theorem zcL(g:Nat)(w:World)(hg:Pow g):Calls prog 101 #[.int .i64 g] w (zgt w g):=by
 have hg0:=hg.pos;have hg1:=hg.le;have HV:=za (fun W=>Qt g W hg);have HB:=za (fun W=>zhJ W);obtain⟨i0,hi,hz0,hz1,hz2⟩:=xB zk1;go_enter func101,ntmps101;go_upto_region 3 with(go_at_call 158;refine(HV.out _).mono ?_;rintro e w' ⟨rfl,rfl⟩)
 go_upto_region 4 with(at_make;refine wpList_make_full _ rfl _ _ 255 rfl 0 260 i0 _ 9 underlying255 hi hz0 hz1 .i64 .i64 _ _ g rfl rfl rfl rfl (by rw[hz2];omega) (by unfold maxLen;omega) (yq _) ?_;intro w1 hown hgrow)
 have hpw:zb w (w1.alloc (.cells #[.slice (some ⟨w.heap.size,0,none⟩) g g,.int .i64 0,.int .i64 0] 257)):=(Mod.of_grown hgrow (fun k e _=>by cases e)).alloc _;have hown2:=zz hown ((Mod.refl (fun _=>False) w1).alloc (.cells #[.slice (some ⟨w.heap.size,0,none⟩) g g,.int .i64 0,.int .i64 0] 257)) (fun _ _ h=>h);have hbox:(w1.alloc (.cells #[.slice (some ⟨w.heap.size,0,none⟩) g g,.int .i64 0,.int .i64 0] 257)).heap[w1.heap.size]? = some (.cells #[.slice (some ⟨w.heap.size,0,none⟩) g g,.int .i64 0,.int .i64 0] 257 (0,0)):=zk rfl;have hw1:w.heap.size<w1.heap.size:=by
  obtain⟨B',c',hsv,_,hB',_⟩:=ko hown hg0
  cases hsv
  exact hB'
 rw[show(Value.agg #[.int .u64 0,.int .u32 0,.int .u32 0,.int .u32 0,.int .u32 0,.int .u32 0,.int .u32 0,.int .u32 0,.int .u32 0]).cells=#[.int .u64 0,.int .u32 0,.int .u32 0,.int .u32 0,.int .u32 0,.int .u32 0,.int .u32 0,.int .u32 0,.int .u32 0]from rfl,zey]at hown2;clear hown hgrow hi hz0 hz1 hz2;generalize w1.alloc (.cells #[.slice (some ⟨w.heap.size,0,none⟩) g g,.int .i64 0,.int .i64 0] 257)=W2 at *;have hwp:w.heap.size≤w1.heap.size:=qZ hw1;generalize w1.heap.size=p at *;have zp:=hbox;have HPW:=za hpw;have HO:=za hown2;have HX:=za hbox;clear hpw hown2 hbox;have wg:IntKind.i64.wrap (g:Int)=g:=zt _ (by omega);obtain⟨zp_0,zp_1,zp_2,zp_f,zp_l,H_zp⟩:=cr3 zp;clear zp;go_upto_region 5 with fail
 go_loopw [18] (fun k wr => ∃ i,k=.int .i64 (i:Nat)∧i≤g∧V8 w g p i wr) (fun k _=>g-(intOf k).toNat)
 case atStart=>exact⟨0,rfl,yq _,HPW.out,HX.out,HO.out,hwp⟩
 case round =>
  obtain⟨i,rfl,hi,hinv⟩:=hrel;have zp:=hinv.box;have HI:=za hinv;clear zp_0 zp_1 zp_2 zp_f zp_l;clear H_zp hinv;obtain⟨zp_0,zp_1,zp_2,zp_f,zp_l,H_zp⟩:=cr3 zp;clear zp;by_cases hlt:i<g
  ·have hlt':(i:Int)<(g:Int):=by omega
   have hl:(kx g i).length=g:=zf5 hi;obtain⟨B',c',hsv,_,hB',hcc,hf',_⟩:=ko HI.out.row hg0
   cases hsv
   have zg0 : ∃ u,wr.cell? ⟨w.heap.size,i*9,none⟩=some u:=by
    have h1:=HI.out.row.1;exact⟨_,hcc (i*9) _ (zO (by rw[h1];omega))⟩
   obtain⟨u0,zg⟩:=zg0;have HS:=za (QG hlt);clear hcc;go_upto_region 7 with fail
   go_region_law ((go_simp;go_at_call 159;refine(HB.out _).mono ?_;rintro e w' ⟨rfl,rfl⟩))
   all_goals
    have hst:=HI.out.step hlt (by omega) (Mod.refl (fun _=>False) wr).drew rfl;have HST:=za hst;clear hst;go_wp2;go_roundw
    case rel=>exact⟨i+1,by go_num,by omega,HST.out⟩
    case measure=>simp[intOf];omega
  ·have hlt':(g:Int)≤(i:Int):=by omega
   have e:i=g:=by omega
   subst e;go_wp2;exact zR (v := .tuple #[.pointer (some ⟨p,0,none⟩),.int .i64 0]) (by simp[results,results101,go_sem]) rfl
    ⟨p,.slice (some ⟨w.heap.size,0,none⟩) i i,rfl,⟨by rw[UT,zax];exact HI.out.box,by rw[Vd,← zkN];exact HI.out.row,fun k=>xZ,zbv hg⟩,HI.out.pu,HI.out.wp,fun k hk=>by simp[Value.ownBlock]at hk;omega⟩
theorem Qx(i:Nat):2*(i*(i+1)/2)=i*(i+1):=by
 rcases Nat.mod_two_eq_zero_or_one i with h | h
 ·have:i*(i+1)%2=0:=by simp[Nat.mul_mod,h]
  omega
 ·have:i*(i+1)%2=0:=by simp[Nat.mul_mod,Nat.add_mod,h]
  omega
theorem zju{a i i':Nat}(h:i'+i+1=2*a):i'*(i'+1)/2+a*(2*i+1)=2*(a*a)+i*(i+1)/2:=by
 have h1:=Qx i;have h2:=Qx i';have e1:2*(a*(2*i+1))=(i'+i+1)*(2*i+1):=by rw[h,Nat.mul_assoc]
 have e2:2*(2*(a*a))=(i'+i+1)*(i'+i+1):=by rw[h];simp only[Nat.mul_assoc,Nat.mul_left_comm]
 have c:i'*i=i*i':=Nat.mul_comm _ _;simp only[Nat.mul_add,Nat.add_mul,Nat.mul_one,Nat.one_mul]at *;have c1:i'*(2*i)=2*(i*i'):=by rw[Nat.mul_left_comm,c]
 have c2:i*(2*i)=2*(i*i):=by rw[Nat.mul_left_comm]
 omega
theorem QI(part:Nat) : ∀(k t:Nat),t<2 ^ k → ∃ i,i<2 ^ k∧(part+i*(i+1)/2)%2 ^ k=t
 | 0,t,h=>⟨0,by decide,by simp at h;subst h;simp[Nat.mod_one]⟩
 | k+1,t,h=>by
  obtain⟨i,hi,e⟩:=QI part k (t%2 ^ k) (vi _ (Nat.pow_pos (by decide)));have hp:2 ^ (k+1)=2 ^ k*2:=qP 2 k;have hf := @zju (2 ^ k) i (2*2 ^ k-1-i) (by omega);generalize 2 ^ k=a at *;rw[hp]at h ⊢;have hm:(part+i*(i+1)/2)%(a*2)=t∨(part+i*(i+1)/2)%(a*2)+a=t∨(part+i*(i+1)/2)%(a*2)=t+a:=by
   have h1:=Nat.mod_mul_right_mod (part+i*(i+1)/2) a 2;rw[e]at h1;have h2:(part+i*(i+1)/2)%(a*2)<a*2:=vi _ (by omega);generalize(part+i*(i+1)/2)%(a*2)=y at *;have hy:y=y%a∨y=y%a+a:=by
    by_cases c:y<a
    ·left;rw[xS c]
    ·right;rw[Nat.mod_eq_sub_mod (by omega),xS (by omega)];omega
   have ht:t=t%a∨t=t%a+a:=by
    by_cases c:t<a
    ·left;rw[xS c]
    ·right;rw[Nat.mod_eq_sub_mod (by omega),xS (by omega)];omega
   omega
  by_cases hd:(part+i*(i+1)/2)%(a*2)=t
  ·exact⟨i,by omega,hd⟩
  ·refine⟨2*a-1-i,by omega,?_⟩;generalize(2*a-1-i)*(2*a-1-i+1)/2=u at *;have hz:(part+i*(i+1)/2)%(a*2)+a=t∨(part+i*(i+1)/2)%(a*2)=t+a:=by
    rcases hm with h | h | h
    ·exact absurd h hd
    ·exact .inl h
    ·exact .inr h
   generalize hT:i*(i+1)/2=T at *
   -- part + u + a*(2i+1) = part + T + 2a*a
   have h3:part+u+a+(a*2)*i=part+T+(a*2)*a:=by
    have e1:a*(2*i+1)=a*2*i+a:=by rw[Nat.mul_add,je,Nat.mul_assoc]
    have e2:a*2*a=2*(a*a):=by rw[Nat.mul_comm a 2,Nat.mul_assoc]
    omega
   have h4:(part+u+a)%(a*2)=(part+T)%(a*2):=by
    have:=congrArg (· % (a*2)) h3;simpa[Nat.add_mul_mod_self_left]using this
   have h5:=Nat.div_add_mod (part+u) (a*2);have h6:(part+u)%(a*2)<a*2:=vi _ (by omega);generalize(part+u)%(a*2)=v at *;rw[← h5,Nat.add_assoc,Nat.mul_add_mod_self_left]at h4;generalize(part+T)%(a*2)=y at *;by_cases c:v+a<a*2
   ·rw[xS c]at h4;omega
   ·rw[Nat.mod_eq_sub_mod (by omega),xS (by omega)]at h4;omega
theorem zhs{g:Nat}(hg:Pow g)(part:Nat){i:Nat}(hi:i<g):i∈xR part g:=by
 obtain⟨k,_,rfl⟩:=hg;obtain⟨n,hn,e⟩:=QI part k i hi;exact zI.2 ⟨n,ZZ.2 hn,e⟩
theorem Xw{g:Nat}(hg:0<g)(part:Nat){i:Nat}(hi:i∈xR part g):i<g:=by
 obtain⟨n,_,rfl⟩:=zI.1 hi;exact vi _ hg
structure vF(Gs:List Grp)(i j t s:Nat):Prop where
 hi:i<Gs.length
 hj:j<8
 tag:(zn Gs i).1[j]? = some t
 full:t<128
 slot:zS Gs (i,j)=s
theorem Q5{c:Grp}(h:xX c)(tag j:Nat):j∈jf c tag↔j<8∧c.1[j]? = some tag:=by
 unfold jf;rw[KI (by simp[h.ctl.1])];simp only[List.mem_filter,List.mem_range,List.getD_eq_getElem?_getD,List.getElem?_map]
 cases c.1[j]? <;> simp
theorem zco{Gs:List Grp}{tag:Nat} : ∀ {L:List Nat} {x:Nat × Nat},x∈jp Gs tag L→x.1∈L∧x.2∈jf (zn Gs x.1) tag
 | [],_,h=>by simp[jp]at h
 | i::r,x,h=>by
  simp only[jp,List.mem_append,List.mem_map]at h;rcases h with⟨j,hj,rfl⟩ | h
  ·exact⟨by simp,hj⟩
  ·split at h
   ·simp at h
   ·have:=zco h;exact⟨by simp[this.1],this.2⟩
theorem Vg{Gs:List Grp}(h:xw Gs){sum:Nat}{x:Nat × Nat}(hx:x∈xD Gs sum):vF Gs x.1 x.2 (sum%128) (zS Gs x):=by
 obtain⟨h1,h2⟩:=zco hx;have hi:=Xw h.pow.pos _ h1;obtain⟨h3,h4⟩:=(Q5 (h.at hi) _ _).1 h2;exact⟨hi,h3,h4,vi _ (by decide),rfl⟩
theorem zfu{Gs:List Grp}(h:xw Gs){sum i j s:Nat}(hf:vF Gs i j (sum%128) s){pre post:List Nat}(hp:xR (sum/128) Gs.length=pre++i::post)(hb : ∀ k∈pre,vQ (zn Gs k)=false):(i,j)∈xD Gs sum:=by
 unfold xD;rw[hp,UA pre i post hb];simp only[List.mem_append,List.mem_map];exact .inr (.inl ⟨j,(Q5 (h.at hf.hi) _ _).2 ⟨hf.hj,hf.tag⟩,rfl⟩)
structure yC(H:Nat→Nat)(S:Nat→Prop)(Gs:List Grp):Prop where
 ok:xw Gs
 tag : ∀ i j t s,vF Gs i j t s→t=H s%128
 reach : ∀ i j t s,vF Gs i j t s → ∃ pre post,xR (H s/128) Gs.length=pre++i::post ∧ ∀ k∈pre,vQ (zn Gs k)=false
 uniq : ∀ i j t i' j' t' s,vF Gs i j t s→vF Gs i' j' t' s→i=i'∧j=j'
 mem : ∀ s,S s ↔ ∃ i j t,vF Gs i j t s
theorem yC.of_iff{H:Nat→Nat}{S S':Nat→Prop}{Gs:List Grp}(h:yC H S Gs)(hs : ∀ s,S s↔S' s):yC H S' Gs :=
 ⟨h.ok,h.tag,h.reach,h.uniq,fun s=>(hs s).symm.trans (h.mem s)⟩
section
variable{H:Nat→Nat}{S:Nat→Prop}{Gs:List Grp}
theorem yC.find_none(h:yC H S Gs){s:Nat}(hs : ¬ S s):uo Gs (H s) (fun x=>x==s)=none:=by
 unfold uo;refine qj.2 (fun x hx => ?_);intro e;have e':zS Gs x=s:=by simpa using e
 exact hs ((h.mem s).2 ⟨_,_,_,e' ▸ Vg h.ok hx⟩)
theorem yC.find_some(h:yC H S Gs){s:Nat}(hs:S s) : ∃ i j,uo Gs (H s) (fun x=>x==s)=some (i,j)∧vF Gs i j (H s%128) s:=by
 obtain⟨i,j,t,hf⟩:=(h.mem s).1 hs;have ht:=h.tag _ _ _ _ hf;subst ht;obtain⟨pre,post,hp,hb⟩:=h.reach _ _ _ _ hf;have hm:=zfu h.ok hf hp hb;unfold uo
 cases hc:(xD Gs (H s)).find? (fun x=>zS Gs x==s)with
 | none =>
  have:=qj.1 hc _ hm;rw[hf.slot]at this;simp at this
 | some x =>
  have h1:=Vk hc;have h2:=Vg h.ok (ZU hc);have h3:zS Gs x=s:=by simpa using h1
  exact⟨x.1,x.2,rfl,h3 ▸ h2⟩
theorem zdG{i j t s:Nat}(hi:i<Gs.length)(hg:xX (zn Gs i))(hj:j<8)(i' j' t' s':Nat) :
  vF (yy Gs i j t s) i' j' t' s'↔(i'=i∧j'=j∧t'=t∧t<128∧s'=s)∨(¬ (i'=i∧j'=j)∧vF Gs i' j' t' s'):=by
 have hl1:j<(zn Gs i).1.length:=by rw[hg.ctl.1];exact hj
 have hl2:j<(zn Gs i).2.length:=by rw[hg.len];exact hj
 constructor
 ·rintro⟨h1,h2,h3,h4,h5⟩;rw[jN]at h1;unfold zS at h5;rw[Yj hi]at h3 h5;dsimp only at h5;by_cases e:i'=i
  ·rw[zj e]at h3 h5;unfold ux at h3 h5;dsimp only at h3 h5;by_cases ej:j'=j
   ·subst ej;rw[yt hl1]at h3;rw[vM,yt hl2]at h5
    cases h3
    exact .inl ⟨e,rfl,rfl,h4,by simpa using h5.symm⟩
   ·rw[yw (fun c=>ej c.symm)]at h3;rw[vM,yw (fun c=>ej c.symm)]at h5;refine .inr ⟨fun c=>ej c.2,⟨h1,h2,by rw[e];exact h3,h4,?_⟩⟩;unfold zS;dsimp only;rw[e,vM];exact h5
  ·rw[zh e]at h3 h5;exact .inr ⟨fun c=>e c.1,⟨h1,h2,h3,h4,h5⟩⟩
 ·rintro(⟨rfl,rfl,rfl,h4,rfl⟩ | ⟨hn,h1,h2,h3,h4,h5⟩)
  ·refine⟨by rw[jN];exact hi,hj,?_,h4,?_⟩
   ·rw[Yj hi,zj rfl];exact yt hl1
   ·unfold zS;dsimp only;rw[Yj hi,zj rfl,vM];unfold ux;dsimp only;rw[yt hl2]
    rfl
  ·refine⟨by rw[jN];exact h1,h2,?_,h4,?_⟩
   ·rw[Yj hi];by_cases e:i'=i
    ·rw[zj e];unfold ux;dsimp only;rw[yw (fun c=>hn ⟨e,c.symm⟩),← e];exact h3
    ·rw[zh e];exact h3
   ·unfold zS at h5 ⊢;dsimp only at h5 ⊢;rw[Yj hi];by_cases e:i'=i
    ·rw[zj e];unfold ux;dsimp only;rw[vM,yw (fun c=>hn ⟨e,c.symm⟩),← e,← vM];exact h5
    ·rw[zh e];exact h5
theorem zdu{i j t s k:Nat}(hi:i<Gs.length)(ht:t=128→vQ (zn Gs i)=true)(hb:vQ (zn Gs k)=false):vQ (zn (yy Gs i j t s) k)=false:=by
 rw[Yj hi];by_cases e:k=i
 ·subst e;rw[zj rfl];unfold vQ ux at *;dsimp only;rw[List.any_eq_false]at hb ⊢;intro x hx;rcases jS hx with h | rfl
  ·exact hb x h
  ·intro c;have:=ht (by simpa using c);rw[List.any_eq_true]at this;obtain⟨y,hy,hy2⟩:=this;exact hb y hy hy2
 ·rw[zh e];exact hb
theorem Qp{tag slot:Nat} : ∀ {L:List Nat} {Gs':List Grp},kE Gs tag slot L=some Gs' →
  ∃ pre i post,L=pre++i::post∧(∀ k∈pre,xI (zn Gs k)=8)∧xI (zn Gs i)≠8∧Gs'=yy Gs i (xI (zn Gs i)) tag slot
 | [],_,h=>by simp[kE]at h
 | i::r,Gs',h=>by
  unfold kE at h;by_cases e:xI (zn Gs i)=8
  ·rw[zj e]at h;obtain⟨pre,i',post,rfl,h2,h3,h4⟩:=Qp h;exact⟨i::pre,i',post,rfl,fun k hk=>by
    rcases yx.1 hk with rfl | hk
    ·exact e
    ·exact h2 k hk,h3,h4⟩
  ·rw[zh e]at h
   cases h
   exact⟨[],i,r,rfl,by simp,e,rfl⟩
theorem zcs{tag slot:Nat} : ∀ {L:List Nat},kE Gs tag slot L=none ↔ ∀ k∈L,xI (zn Gs k)=8
 | []=>by simp[kE]
 | i::r=>by
  unfold kE;by_cases e:xI (zn Gs i)=8
  ·rw[zj e,zcs];simp[e]
  ·rw[zh e];simp[e]
theorem zaW{c:Grp}(h:xX c)(hf:xI c≠8):xI c<8:=by
 have:xI c≤c.1.length:=List.findIdx_le_length;rw[h.ctl.1]at this;omega
theorem K5{c:Grp}(h:xX c):xI c=8 ↔ ∀ x∈c.1,x<128:=by
 unfold xI;rw[← h.ctl.1,List.findIdx_eq_length];simp
theorem zg3{c:Grp}(h:xX c)(hf:xI c=8):vQ c=false:=by
 unfold vQ;rw[List.any_eq_false];intro x hx;have:=(K5 h).1 hf x hx;simp;omega
theorem JJ{sum slot:Nat}{Gs':List Grp}(h:xw Gs)(hs:slot≤4294967295)(he:vJ Gs sum slot=some Gs'):zD Gs'=zD Gs+1∧Gs'.length=Gs.length∧xw Gs'∧yi Gs'≤yi Gs:=by
 obtain⟨pre,i,post,hp,hpre,hf,rfl⟩:=Qp he;have hi:i<Gs.length:=Xw h.pow.pos (sum/128) (by rw[hp];simp);have hg:=h.at hi;have hj:=zaW hg hf;have h128:=JM hg.ctl rfl hj;have ht:sum%128<128:=vi _ (by decide);refine⟨?_,jN ..,h.put (.inl ht) hs,?_⟩
 ·unfold xI;rcases h128 with e | e
  ·simpa[ht]using VP (t:=sum%128) (s:=slot) hi e
  ·simpa[ht]using VP (t:=sum%128) (s:=slot) hi e
 ·have n254:(sum%128==254)=false:=by simp;omega
  rcases h128 with e | e
  ·have:=V6 (t:=sum%128) (s:=slot) hi e;rw[n254]at this;simp at this;unfold xI at *;omega
  ·have:=V6 (t:=sum%128) (s:=slot) hi e;rw[n254]at this;simp at this;unfold xI at *;omega
theorem yC.ins(h:yC H S Gs){s:Nat}(hs:s≤4294967295)(hn : ¬ S s){Gs':List Grp}(he:vJ Gs (H s) s=some Gs'):yC H (fun x=>x=s∨S x) Gs':=by
 have hok:=(JJ h.ok hs he).2.2.1;obtain⟨pre,i,post,hp,hpre,hf,rfl⟩:=Qp he;have hi:i<Gs.length:=Xw h.ok.pow.pos (H s/128) (by rw[hp];simp);have hg:=h.ok.at hi;have hj:=zaW hg hf;have ht:H s%128<128:=vi _ (by decide);have hfull:=fun i' j' t' s'=>zdG (t:=H s%128) (s:=s) hi hg hj i' j' t' s'
 have hbl:=fun k=>zdu (j:=xI (zn Gs i)) (t:=H s%128) (s:=s) (k:=k) hi (fun c=>by omega)
 have hpr : ∀ k∈pre,vQ (zn Gs k)=false:=fun k hk=>zg3 (h.ok.at (Xw h.ok.pow.pos (H s/128) (by rw[hp];simp[hk]))) (hpre k hk)
 refine⟨hok,?_,?_,?_,?_⟩
 ·intro i' j' t' s' hF;rcases(hfull _ _ _ _).1 hF with⟨_,_,rfl,_,rfl⟩ | ⟨_,hF⟩
  ·rfl
  ·exact h.tag _ _ _ _ hF
 ·intro i' j' t' s' hF;rw[jN];rcases(hfull _ _ _ _).1 hF with⟨rfl,_,rfl,_,rfl⟩ | ⟨_,hF⟩
  ·exact⟨pre,post,hp,fun k hk=>hbl k (hpr k hk)⟩
  ·obtain⟨pre',post',h1,h2⟩:=h.reach _ _ _ _ hF;exact⟨pre',post',h1,fun k hk=>hbl k (h2 k hk)⟩
 ·intro i1 j1 t1 i2 j2 t2 s' hF1 hF2;rcases(hfull _ _ _ _).1 hF1 with⟨a1,a2,a3,_,a4⟩ | ⟨_,hG1⟩<;>rcases(hfull _ _ _ _).1 hF2 with⟨b1,b2,b3,_,b4⟩ | ⟨_,hG2⟩
  ·exact⟨a1.trans b1.symm,a2.trans b2.symm⟩
  ·exact absurd ((h.mem _).2 ⟨_,_,_,a4 ▸ hG2⟩) hn
  ·exact absurd ((h.mem _).2 ⟨_,_,_,b4 ▸ hG1⟩) hn
  ·exact h.uniq _ _ _ _ _ _ _ hG1 hG2
 ·intro x;constructor
  ·rintro(rfl | hx)
   ·exact⟨_,_,_,(hfull _ _ _ _).2 (.inl ⟨rfl,rfl,rfl,ht,rfl⟩)⟩
   ·obtain⟨i',j',t',hF⟩:=(h.mem x).1 hx;refine⟨i',j',t',(hfull _ _ _ _).2 (.inr ⟨?_,hF⟩)⟩;rintro⟨rfl,rfl⟩;have h128:=JM hg.ctl rfl hj;have:=hF.full;rcases h128 with e | e
    ·have:=hF.tag;unfold xI at this;rw[e]at this;cases this;omega
    ·have:=hF.tag;unfold xI at this;rw[e]at this;cases this;omega
  ·rintro⟨i',j',t',hF⟩;rcases(hfull _ _ _ _).1 hF with⟨_,_,_,_,rfl⟩ | ⟨_,hF⟩
   ·exact .inl rfl
   ·exact .inr ((h.mem _).2 ⟨_,_,_,hF⟩)
def vR(Gs:List Grp)(i j:Nat):List Grp:=yy Gs i j (yF (zn Gs i).1) 0
theorem ziI{l:List Nat}(h:yF l=128):l.any (· == 128)=true:=by
 unfold yF at h;split at h
 ·assumption
 ·cases h
theorem Ub(l:List Nat):yF l=128∨yF l=254:=by unfold yF;split<;>simp
theorem UY(h:xw Gs){i j t s:Nat}(hf:vF Gs i j t s):zD (vR Gs i j)+1=zD Gs∧(vR Gs i j).length=Gs.length∧xw (vR Gs i j):=by
 have h1:=VP (t:=yF (zn Gs i).1) (s:=0) hf.hi hf.tag;have h2:=Ub (zn Gs i).1;have h3:decide (yF (zn Gs i).1<128)=false:=by simp;omega
 rw[h3]at h1;refine⟨?_,jN ..,h.put (.inr h2) (by omega)⟩;unfold vR;simpa[hf.full]using h1
theorem yC.del(h:yC H S Gs){i j t s:Nat}(hf:vF Gs i j t s):yC H (fun x=>x≠s∧S x) (vR Gs i j):=by
 have hok:=(UY h.ok hf).2.2;have hfull:=fun i' j' t' s'=>zdG (t:=yF (zn Gs i).1) (s:=0) hf.hi (h.ok.at hf.hi) hf.hj i' j' t' s'
 have hbl:=fun k=>zdu (j:=j) (t:=yF (zn Gs i).1) (s:=0) (k:=k) hf.hi (fun c=>ziI c)
 have h2:=Ub (zn Gs i).1;have back : ∀ i' j' t' s',vF (vR Gs i j) i' j' t' s' → ¬ (i'=i∧j'=j)∧vF Gs i' j' t' s':=fun i' j' t' s' hF=>by
  rcases(hfull _ _ _ _).1 hF with⟨_,_,_,h128,_⟩ | hF
  ·omega
  ·exact hF
 refine⟨hok,fun i' j' t' s' hF=>h.tag _ _ _ _ (back _ _ _ _ hF).2,fun i' j' t' s' hF => ?_,fun i1 j1 t1 i2 j2 t2 s' hF1 hF2=>h.uniq _ _ _ _ _ _ _ (back _ _ _ _ hF1).2 (back _ _ _ _ hF2).2,fun x => ?_⟩
 ·obtain⟨pre',post',h3,h4⟩:=h.reach _ _ _ _ (back _ _ _ _ hF).2;unfold vR;rw[jN];exact⟨pre',post',h3,fun k hk=>hbl k (h4 k hk)⟩
 ·constructor
  ·rintro⟨hx,hS⟩;obtain⟨i',j',t',hF⟩:=(h.mem x).1 hS;refine⟨i',j',t',(hfull _ _ _ _).2 (.inr ⟨?_,hF⟩)⟩;rintro⟨rfl,rfl⟩;have e1:=hF.slot;have e2:=hf.slot;exact hx (e1.symm.trans e2)
  ·rintro⟨i',j',t',hF⟩;obtain⟨hne,hF⟩:=back _ _ _ _ hF;refine⟨?_,(h.mem x).2 ⟨_,_,_,hF⟩⟩;rintro rfl;exact hne (h.uniq _ _ _ _ _ _ _ hF hf)
theorem zcb{p:Nat→Bool} : ∀ {Gs:List Grp},(∀ c∈Gs,xX c)→((Gs.map (fun c=>c.1.countP p)).sum=8*Gs.length ↔ ∀ c∈Gs,∀ x∈c.1,p x=true)
 | [],_=>by simp
 | c::Gs,h=>by
  have h1:=zcb (p:=p) (Gs:=Gs) (fun c hc=>h c (by simp[hc]));have h2:c.1.countP p≤c.1.length:=UQ;have h3:=Xm p (Gs:=Gs) (fun c hc=>h c (by simp[hc]));have h4:c.1.countP p=c.1.length ↔ ∀ x∈c.1,p x=true:=List.countP_eq_length;rw[(h c (by simp)).ctl.1]at h2 h4;simp only[List.map_cons,List.sum_cons,List.length_cons,List.forall_mem_cons];rw[← h1,← h4];omega
theorem zaV(h:xw Gs)(sum slot:Nat):vJ Gs sum slot=none↔zD Gs=8*Gs.length:=by
 unfold vJ;rw[zcs];unfold zD;rw[zcb h.grp];constructor
 ·intro hk c hc x hx;obtain⟨i,hi⟩:=uk hc;have hl:i<Gs.length:=(zE.1 hi).1;have e:zn Gs i=c:=by have:=vY hl;rw[hi]at this;cases this;rfl
  have:=(K5 (h.at hl)).1 (hk i (zhs h.pow _ hl));rw[e]at this;simpa using this x hx
 ·intro hk i hi;have hl:=Xw h.pow.pos _ hi;refine(K5 (h.at hl)).2 (fun x hx => ?_);simpa using hk _ (ym (vY hl)) x hx
theorem zbP(h:xw Gs):zD Gs≤8*Gs.length:=Xm _ h.grp
end
theorem zgu{g i:Nat}(hi:i<g):zn (xt g) i=jd:=by
 unfold zn xt;rw[vM];simp[hi]
theorem VL{g i j t s:Nat} : ¬ vF (xt g) i j t s:=fun h=>by
 have hi:i<g:=by have:=h.hi;simpa[xt]using this
 have h1:=h.tag;rw[zgu hi]at h1;have:=ym h1;have h2 : ∀ x∈jd.1,x=128:=by decide
 have:=h2 _ this;have:=h.full;omega
theorem newG_holds(H:Nat→Nat){g:Nat}(hg:Pow g):yC H (fun _=>False) (xt g) :=
 ⟨zbv hg,fun _ _ _ _ h=>absurd h VL,fun _ _ _ _ h=>absurd h VL,fun _ _ _ _ _ _ _ h=>absurd h VL,fun _=>⟨fun h=>h.elim,fun⟨_,_,_,h⟩=>VL h⟩⟩
theorem zhg{w:World}{D:Nat→Prop}{p:Nat}{sv:Value}{Gs:List Grp}(h:yk w D p sv Gs)(sum:Nat)(hsum:sum<18446744073709551616){gf:Nat}{lb:Array Value}{g:Nat→Bool}{J:List Nat→World→Prop}
  (hs:uz prog gf lb (fun _ s=>g s) (fun _=>False) J w) {B c:Nat} (hsv:sv=.slice (some ⟨B,0,none⟩) Gs.length c) :
  Calls prog 178 #[.pointer (some ⟨p,0,none⟩),.int .u64 sum,.func (.func gf) #[] lb] w (UU w D p sv Gs sum g B) :=
 (zdA h sum hsum hs).mono (fun e w' ⟨B',c',e1,hp⟩=>by
  rw[hsv]at e1
  cases e1
  exact zjq hp)
theorem zfP{W2 W3 W5:World}{D:Nat→Prop}{p B c i j t s:Nat}{Gs:List Grp}{n' t':Int}(h:yk W2 D p (.slice (some ⟨B,0,none⟩) Gs.length c) Gs)(hi:i<Gs.length)(hj:j<8)
  (ht:t<128∨t=128∨t=254) (hsl:s≤4294967295) (hu:n'=zD (yy Gs i j t s)) (hu2:t'=yi (yy Gs i j t s)) (h3:Mod (fun k=>k=B) W2 W3)
  (h3r:W3.ownsRow 0 260 9 (.slice (some ⟨B,0,none⟩) Gs.length c) Gs.length (((Gs.flatMap yO).set (i*9) (.int .u64 (zC ((zn Gs i).1.set j t)))).set (i*9+1+j) (.int .u32 s)))
  (h5:Mod (fun k=>k=p) W3 W5) (h5b:W5.heap[p]? = some (.cells #[.slice (some ⟨B,0,none⟩) Gs.length c,.int .i64 n',.int .i64 t'] 257 (0,0))) :
  yk W5 D p (.slice (some ⟨B,0,none⟩) Gs.length c) (yy Gs i j t s)∧Mod D W2 W5:=by
 have hpB:p≠B:=fun e=>by
  obtain⟨cc,e2⟩:=yd h.row (g:=B) rfl;have:=h.box;rw[e,e2]at this;cases this
 refine⟨⟨?_,?_,h.dd,h.ok.put ht hsl⟩,?_⟩
 ·rw[h5b,hu,hu2]
 ·rw[jN,← zb9 (t:=t) (s:=s) (h.ok.at hi) hi hj _ rfl];exact zz h3r h5 (fun g hg e=>by
   have:B=g:=by simpa[Value.ownBlock]using hg
   exact hpB (e.symm.trans this.symm))
 ·exact(h3.mono (fun k _ e=>by subst e;exact(h.dd k).2 (.inr rfl)):Mod D W2 W3).then h5 (fun k _ e=>by subst e;exact(h.dd k).2 (.inl rfl))
def JD(w:World)(D:Nat→Prop)(p:Nat)(sv:Value)(Gs:List Grp)(sum:Nat)(f:List Nat→Nat→Bool)(C:TypeId→Prop)(J:List Nat→World→Prop)(e:Ending)(w':World):Prop :=
  xh C w w'∧yk w' D p sv Gs ∧
  ((∃ a x post,xD Gs sum=a++x::post∧kp f (a.map (zS Gs))∧f (a.map (zS Gs)) (zS Gs x)=true ∧
    e=.returned (.tuple #[.int .u32 (zS Gs x),.int .i64 0])∧J ((a++[x]).map (zS Gs)) w') ∨
   (kp f ((xD Gs sum).map (zS Gs))∧e=.returned (.tuple #[.int .u32 0,.int .i64 9])∧J ((xD Gs sum).map (zS Gs)) w'))
theorem zau{P:Program}(w:World)(d:Nat)(t:TypeId){ps rs:Array TypeId}{v:Bool}(fn:Fn)(fi ca:Array Value)(h:P.underlying t=some (.func ps rs v)):(Op.equalIn (d+1) t (.func fn fi ca) .nilFunc).run P w=.ok false w:=by
 simp[Op.equalIn,run_underlying h]
@[go_sem] theorem zlZ (w : World) (fn : Fn) (fi ca : Array Value) : (binOp .eql 214 (.func fn fi ca) .nilFunc).run prog w=.ok (.bool false) w := by
 simp only[binOp];simp[Op.equal,Op.maxDepth,zau w 9999 _ fn fi ca underlying214]
theorem zeg{w:World}{D:Nat→Prop}{p:Nat}{sv:Value}{Gs:List Grp}(h:yk w D p sv Gs)(sum:Nat)(hsum:sum<18446744073709551616){gf:Nat}{lb:Array Value}{f:List Nat→Nat→Bool}{C:TypeId→Prop}{J:List Nat→World→Prop}
  (hs:uz prog gf lb f C J w) :
  Calls prog 119 #[.pointer (some ⟨p,0,none⟩),.int .u64 sum,.func (.func gf) #[] lb] w (JD w D p sv Gs sum f C J):=by
 have HF:=za (zdA h sum hsum hs);obtain⟨B,c,rfl,hc,hB,hDB,hBf,hcells⟩:=h.at;have zp:=h.box;have HZ:=za (fun(hW:w.cell? ⟨p,0,none⟩=_)=>Zw (w:=w) (c:=c) (a:=some ⟨B,0,none⟩) hW h.ok.pow.pos h.ok.pow.le);clear hcells h hs hBf;obtain⟨zp_0,zp_1,zp_2,zp_f,zp_l,H_zp⟩:=cr3 zp;clear zp;go_enter func119,ntmps119;go_upto_region 3 with(go_at_call 177;refine(HZ.out zp_0).mono ?_;rintro e w' ⟨rfl,rfl⟩)
 go_upto_region 5 with fail
 go_upto_region 6 with(go_at_call 178;refine HF.out.mono ?_;rintro e w2 ⟨B',c',hsv,hm,hix,⟨a,x,post,h1,h2,h3,h4,h5,rfl,h7⟩ | ⟨h1,rfl,h7⟩⟩)
 ·obtain⟨B3,c3,hsv3,_,hB3,hDB3,hBf3,hcells3⟩:=hix.at
  cases hsv3
  have zs:=(hcells3 x.1 h4).2 x.2 h5;rw[show x.1*9+(x.2+1)=x.1*9+1+x.2 by omega]at zs;have x0:(0:Int)≤x.2:=by omega
  have x1:(x.2:Int)<8:=by omega
  have HP:=za (And.intro h1 (And.intro h2 (And.intro h3 (And.intro h7 (And.intro hm hix)))));have e6:zS Gs x=(zn Gs x.1).2.getD x.2 0:=rfl;rw[← e6]at zs;clear h1 h2 h3 h7 hcells3 hm hix e6;obtain⟨sx,hsx⟩:=zf (zS Gs x);rw[hsx]at zs;go_wp2;rw[← hsx];exact zR (v := .tuple #[.int .u32 (zS Gs x),.int .i64 0]) (by simp[results,results119,go_sem]) rfl ⟨HP.out.2.2.2.2.1,HP.out.2.2.2.2.2,.inl ⟨a,x,post,HP.out.1,HP.out.2.1,HP.out.2.2.1,rfl,HP.out.2.2.2.1⟩⟩
 ·have HP:=za (And.intro h1 (And.intro h7 (And.intro hm hix)));clear h1 h7 hm hix;go_wp2;exact zR (v := .tuple #[.int .u32 0,.int .i64 9]) (by simp[results,results119,go_sem]) rfl ⟨HP.out.2.2.1,HP.out.2.2.2,.inr ⟨HP.out.1,rfl,HP.out.2.1⟩⟩
theorem ziZ{w w':World}{D:Nat→Prop}{p:Nat}{sv:Value}{Gs:List Grp}{sum:Nat}{g:Nat→Bool}{B:Nat}{e:Ending}(h:UU w D p sv Gs sum g B e w'){i j:Nat}(hf:uo Gs sum g=some (i,j)) :
  e=.returned (.tuple #[.pointer (some ⟨B,i*9,none⟩),.int .i64 j,.int .i64 0])∧zb w w'∧yk w' D p sv Gs∧vF Gs i j (sum%128) (zS Gs (i,j)):=by
 obtain⟨h1,h2,h3⟩:=h;rw[hf]at h3;exact⟨h3.2.2.2.2,h1,h2,Vg h2.ok h3.2.2.1⟩
theorem zi0{w w':World}{D:Nat→Prop}{p:Nat}{sv:Value}{Gs:List Grp}{sum:Nat}{g:Nat→Bool}{B:Nat}{e:Ending}(h:UU w D p sv Gs sum g B e w')(hf:uo Gs sum g=none) :
  e=.returned (.tuple #[.pointer none,.int .i64 0,.int .i64 9])∧zb w w'∧yk w' D p sv Gs:=by
 obtain⟨h1,h2,h3⟩:=h;rw[hf]at h3;exact⟨h3,h1,h2⟩
theorem zhM{Gs:List Grp}(h:xw Gs){i j t s:Nat}(hf:vF Gs i j t s) :
  (zM (((zn Gs i).1.set j (yF (zn Gs i).1)).map (· == 128))=0∧yi (yy Gs i j (yF (zn Gs i).1) 0)=yi Gs+1) ∨
  (1≤zM (((zn Gs i).1.set j (yF (zn Gs i).1)).map (· == 128))∧yi (yy Gs i j (yF (zn Gs i).1) 0)=yi Gs):=by
 have hg:=h.at hf.hi;have h2:=V6 (t:=yF (zn Gs i).1) (s:=0) hf.hi hf.tag;have n254:(t==254)=false:=by simp;have:=hf.full;omega
 rw[n254]at h2;have h3:=J5 (p:=((zn Gs i).1.set j (yF (zn Gs i).1)).map (· == 128)) (by simp[hg.ctl.1]);have hlj:j<(zn Gs i).1.length:=by rw[hg.ctl.1];exact hf.hj
 by_cases hb:(zn Gs i).1.any (· == 128)=true
 ·have he:yF (zn Gs i).1=128:=by unfold yF;rw[zj hb]
  rw[he]at h2 h3 ⊢
  right
  refine⟨?_,by simpa using h2⟩;have : ¬ (zM (((zn Gs i).1.set j 128).map (· == 128))=0):=by
   intro c;rw[c]at h3;have h4:(((zn Gs i).1.set j 128).map (· == 128)).any id=false:=by simpa using h3
   rw[List.any_eq_false]at h4;have hm:(128:Nat)∈(zn Gs i).1.set j 128:=ym (i:=j) (yt hlj);exact h4 true (zI.2 ⟨128,hm,rfl⟩) rfl
  omega
 ·have he:yF (zn Gs i).1=254:=by unfold yF;rw[zh hb]
  rw[he]at h2 h3 ⊢
  left
  refine⟨?_,by simpa using h2⟩;have h5:(((zn Gs i).1.set j 254).map (· == 128)).any id=false:=by
   rw[List.any_eq_false];intro x hx c;obtain⟨y,hy,rfl⟩:=zI.1 hx;rcases jS hy with h6 | rfl
   ·exact hb (List.any_eq_true.2 ⟨y,h6,by simpa using c⟩)
   ·simp at c
  rw[h5]at h3;simpa using h3
def XT(w:World)(D:Nat→Prop)(p:Nat)(sv:Value)(Gs:List Grp)(sum slot:Nat)(e:Ending)(w':World):Prop :=
 match uo Gs sum (fun x=>x==slot)with
 | some x=>e=.returned (.int .i64 0)∧yk w' D p sv (yy Gs x.1 x.2 (yF (zn Gs x.1).1) 0)∧Mod D w w'
 | none=>e=.returned (.int .i64 9)∧yk w' D p sv Gs∧Mod D w w'
theorem zkn{w:World}{D:Nat→Prop}{p:Nat}{sv:Value}{Gs:List Grp}(h:yk w D p sv Gs)(sum slot:Nat)(hsum:sum<18446744073709551616)(hslot:slot≤4294967295) :
  Calls prog 129 #[.pointer (some ⟨p,0,none⟩),.int .u64 sum,.int .u32 slot] w (XT w D p sv Gs sum slot):=by
 have hlp:p<w.heap.size:=zm h.box;obtain⟨B,c,rfl,hc,hB,hDB,hBf,hcells⟩:=h.at;have hp1:zb w (w.alloc (.cells #[.int .u32 slot] 89)):=(Mod.refl _ w).alloc _;have hix:=h.pure hp1;have hbx:=zk (w:=w) (o:=(.cells #[.int .u32 slot] 89 (0,0))) rfl;go_enter func129,ntmps129;go_upto_region 1 with fail
 generalize w.alloc (.cells #[.int .u32 slot] 89)=W1 at *;have hwb:w.heap.size<W1.heap.size:=zm hbx;generalize w.heap.size=b at *;have HF:=za (zhg hix sum hsum (zje (enters_of func183 (by kernel_rfl) rfl) hwb hbx (fun W s hs hW=>zfL (x:=slot) hW s hs hslot)) rfl);have zp:=hix.box;have HZ:=za (fun(hW:W1.cell? ⟨p,0,none⟩=_)=>Zw (w:=W1) (c:=c) (a:=some ⟨B,0,none⟩) hW h.ok.pow.pos h.ok.pow.le);clear hcells hBf hbx;obtain⟨zp_0,zp_1,zp_2,zp_f,zp_l,H_zp⟩:=cr3 zp;clear zp;go_upto_region 3 with(go_at_call 177;refine(HZ.out zp_0).mono ?_;rintro e w' ⟨rfl,rfl⟩)
 rcases hfm:uo Gs sum (fun x=>x==slot)with _ | ⟨i,j⟩
 ·go_wp2_with (go_at_call 178;refine HF.out.mono ?_;rintro e w2 hfp;obtain⟨rfl,hpu,hix2⟩:=zi0 hfp hfm;clear hfp)
  go_ret;unfold XT;rw[hfm];exact⟨rfl,hix2,.of_pure (hp1.trans hpu)⟩
 ·go_upto_region 6 with(go_at_call 178;refine HF.out.mono ?_;rintro e w2 hfp;obtain⟨rfl,hpu,hix2,hfull⟩:=ziZ hfp hfm;clear hfp)
  have HM:=za hfm;have HI:=za hix2;have HP:=za (hp1.trans hpu);have HFL:=za hfull;clear hfm hix hp1 hpu HF HZ;clear zp_0 zp_1 zp_2 zp_f zp_l;clear H_zp;have hi:=hfull.hi;have hj:=hfull.hj;obtain⟨B3,c3,hsv3,_,hB3,hDB3,hBf3,hcells3⟩:=hix2.at
  cases hsv3
  have zg:=(hcells3 i hi).1;have hg:=hix2.ok.at hi;have HE:=za (fun W=>zeW hg.ctl j _ W hfull.tag hfull.full);have x0:(0:Int)≤j:=by omega
  have x1:(j:Int)<8:=by omega
  clear hcells3 hix2 hfull;go_upto_region 7 with(go_at_call 184;refine(HE.out _).mono ?_;rintro e w3 ⟨rfl,rfl⟩)
  have hbytes:vj ((zn Gs i).1.set j (yF (zn Gs i).1)):=(hg.put (j:=j) (t:=yF (zn Gs i).1) (s:=0) (.inr (Ub _)) (by omega)).ctl.bytes;have HEm:=za (fun W=>X5 hbytes W);have HLaw:=za (zhM HI.out.ok HFL.out);have HUs:=za (UY HI.out.ok HFL.out).1;obtain⟨z,hz⟩:=zf (zC ((zn Gs i).1.set j (yF (zn Gs i).1)));obtain⟨m,hmk⟩:=zf (zM (((zn Gs i).1.set j (yF (zn Gs i).1)).map (· == 128)));rw[hz,hmk]at HEm;rw[hmk]at HLaw;rw[hz];have hm1:Mod (fun k=>k=B) w2 ((w2.setCell ⟨B,i*9,none⟩ (.int .u64 z)).drew):=(Mod.set1 B (i*9) _).drew;have hr1:((w2.setCell ⟨B,i*9,none⟩ (.int .u64 z)).drew).ownsRow 0 260 9 (.slice (some ⟨B,0,none⟩) Gs.length c) Gs.length ((Gs.flatMap yO).set (i*9) (.int .u64 z)) :=
   zz (uT HI.out.row (i*9) (.int .u64 z) (by omega)) (Mod.drew (Mod.refl (fun _=>False) _)) (fun _ _ h=>h)
  have hlen:0<Gs.length:=by omega
  obtain⟨B4,c4,hsv4,_,hB4,hc4,hf4,_⟩:=ko hr1 hlen
  cases hsv4
  have hl9:i*9+1+j<((Gs.flatMap yO).set (i*9) (.int .u64 z)).length:=by rw[hr1.1];omega
  have zs0 : ∃ u,((w2.setCell ⟨B,i*9,none⟩ (.int .u64 z)).drew).cell? ⟨B,i*9+1+j,none⟩=some u:=⟨_,hc4 _ _ (zO hl9)⟩;obtain⟨u0,zs⟩:=zs0;have HM1:=za hm1;have HR1:=za hr1;clear hc4 hl9 hm1 hr1 HE hbytes;generalize(w2.setCell ⟨B,i*9,none⟩ (.int .u64 z)).drew=W4 at *;go_upto_region 8 with fail
  have hm2:Mod (fun k=>k=B) w2 (W4.setCell ⟨B,i*9+1+j,none⟩ (.int .u32 0)):=HM1.out.trans (Mod.set1 B (i*9+1+j) _);have hr2:=uT HR1.out (i*9+1+j) (.int .u32 0) (by omega);have hpB:p≠B:=fun e=>by
   obtain⟨cc,e2⟩:=yd HI.out.row (g:=B) rfl;have:=HI.out.box;rw[e,e2]at this;cases this
  have zp:=hm2.heap hpB HI.out.box;have HM2:=za hm2;have HR2:=za hr2;clear hm2 hr2 zs hf4 HM1 HR1;generalize W4.setCell ⟨B,i*9+1+j,none⟩ (.int .u32 0)=W5 at *;have hul:=HI.out.ok.used_le;have htl:=HI.out.ok.tomb_le;obtain⟨zp_0,zp_1,zp_2,zp_f,zp_l,H_zp⟩:=cr3 zp;clear zp;obtain⟨un,hun⟩ : ∃ un,zD Gs=un+1:=⟨zD Gs-1,by have:=HUs.out;omega⟩;rw[hun]at zp_1 hul;have wu:IntKind.i64.wrap (((un+1:Nat):Int)-1)=(un:Int):=by rw[show(((un+1:Nat):Int)-1)=(un:Int) by omega];exact zt _ (by omega)
  have HUN:=za hun;clear hun;go_upto_region 9 with fail
  have hm3:Mod (fun k=>k=p) W5 (W5.setCell ⟨p,1,none⟩ (.int .i64 un)):=Mod.set1 p 1 _;have hr3:=zz HR2.out hm3 (fun g hg e=>hpB (by
   have:B=g:=by simpa[Value.ownBlock]using hg
   exact e.symm.trans this.symm))
  have zp2:=ug (j:=1) (v := .int .i64 un) H_zp.out;simp at zp2;obtain⟨B6,c6,hsv6,_,hB6,hc6,hf6,_⟩:=ko hr3 hlen
  cases hsv6
  have zg:(W5.setCell ⟨p,1,none⟩ (.int .i64 un)).cell? ⟨B,i*9,none⟩=some (.int .u64 z):=by
   refine hc6 _ _ ?_;rw[yw (by omega),yt];have:=HI.out.row.1;omega
  have HM3:=za hm3;clear hm3 hr3 hc6 hBf3;clear zp_0 zp_1 zp_2 zp_f zp_l;clear H_zp;generalize W5.setCell ⟨p,1,none⟩ (.int .i64 un)=W6 at *;obtain⟨zp2_0,zp2_1,zp2_2,zp2_f,zp2_l,H_zp2⟩:=cr3 zp2;clear zp2;have hml:m≤255:=by rw[← hmk];have:=jA (p:=((zn Gs i).1.set j (yF (zn Gs i).1)).map (· == 128)) (by simp[hg.ctl.1]);omega
  have HMK:=za hmk;have HZ:=za hz;clear hmk hz;have fin : ∀(W7:World) (t':Int),Mod (fun k=>k=p) W6 W7→W7.heap[p]? = some (.cells #[.slice (some ⟨B,0,none⟩) Gs.length c,.int .i64 un,.int .i64 t'] 257 (0,0))→t'=yi (yy Gs i j (yF (zn Gs i).1) 0)→XT w D p (.slice (some ⟨B,0,none⟩) Gs.length c) Gs sum slot (.returned (.int .i64 0)) W7:=fun W7 t' h7 hb7 ht'=>by
   unfold XT;rw[HM.out];have h1:(un:Int)=zD (yy Gs i j (yF (zn Gs i).1) 0):=by
    have e1:zD (yy Gs i j (yF (zn Gs i).1) 0)+1=zD Gs:=HUs.out;have e2:=HUN.out;omega
   obtain⟨k1,k2⟩:=zfP (n':=un) (t':=t') HI.out hi hj (.inr (Ub _)) (by omega) h1 ht' HM2.out (by rw[HZ.out];exact HR2.out) (HM3.out.trans h7) hb7;exact⟨rfl,k1,(Mod.of_pure HP.out:Mod D w w2).trans k2⟩
  have FIN:=za fin;clear fin;rcases HLaw.out with⟨hm0,htm⟩ | ⟨hm0,htm⟩
  ·subst hm0;have HTM:=za htm;clear htm HLaw HUs;obtain⟨tn,htn⟩:=zf (yi Gs);rw[htn]at zp2_2 htl;have wt:IntKind.i64.wrap ((tn:Int)+1)=(tn:Int)+1:=zt _ (by omega);have HTN:=za htn;clear htn
   go_wp2_with (go_at_call 185;refine(HEm.out _).mono ?_;rintro e w' ⟨rfl,rfl⟩)
   go_ret;refine FIN.out _ ((tn:Int)+1) (Mod.set1 p 2 _) ?_ ?_
   ·have:=ug (j:=2) (v := .int .i64 ((tn:Int)+1)) H_zp2.out;simpa using this
   ·have:=HTM.out;have:=HTN.out;omega
  ·have HTM:=za htm;clear htm HLaw HUs;have hm1:(1:Int)≤m:=by omega
   have hm2:((m:Int)==0)=false:=by simp;omega
   go_wp2_with (go_at_call 185;refine(HEm.out _).mono ?_;rintro e w' ⟨rfl,rfl⟩)
   go_ret;exact FIN.out _ (yi Gs) (Mod.refl _ _) H_zp2.out (by have:=HTM.out;omega)
end
section
open Go.RowKit Go.Shelf
attribute [local go_sem] Oper.semAt_some
def kv(c:Grp):List Nat:=vI (zM (c.1.map (fun x=>decide (x<128))))
def vy(c:Grp):List Nat:=(kv c).map (fun j=>c.2.getD j 0)
def uB(H:Nat→Nat)(o:List Grp)(s:Nat):List Grp:=(vJ o (H s) s).getD o
def Zu(H:Nat→Nat)(g:Nat)(Gs:List Grp):List Grp:=(Gs.flatMap vy).foldl (uB H) (xt g)
structure VU(P:Program)(gf:Nat)(fb lb:Array Value)(H:Nat→Nat)(S:Nat→Prop)(J:World→Prop)(w:World):Prop where
 enters : ∀ args w,(callFunc gf args).run P w=.ok (.enter gf args) w
 call : ∀(s:Nat) W,s≤4294967295→S s→J W→CallsIn Fence.wide 0 P gf (fb.push (.int .u32 s)++lb) W fun e w'=>e=.returned (.int .u64 (H s))∧zb W w'
 lt : ∀ s,H s<18446744073709551616
 keep : ∀ A B,J A→Mod (fun k=>w.heap.size≤k) A B→J B
 start:J w
theorem zlQ{c:Grp}(h:xX c) : ∀ s∈vy c,s≤4294967295:=by
 intro s hs;obtain⟨j,_,rfl⟩:=zI.1 hs;exact h.slot j
structure RhO(w:World)(D:Nat→Prop)(p:Nat)(sv:Value)(Gs:List Grp)(gf:Nat)(fb lb:Array Value)(J:World→Prop)(b5 b8 p2:Nat)(sv2:Value)(o:List Grp)(ls:List Nat)(W:World):Prop where
 pu:zb w W
 h5:W.heap[b5]? = some (.cells #[.func (.func gf) fb lb] 222 (0,0))
 h8:W.heap[b8]? = some (.cells #[.pointer (some ⟨p2,0,none⟩)] 145 (0,0))
 ix:yk W D p sv Gs
 out:yk W (fun k=>k=p2∨sv2.ownBlock=some k) p2 sv2 o
 j:J W
 mks : ∀ l∈ls,W.heap[l]? = some (.deferred (some []))
section
variable{w:World}{D:Nat→Prop}{p:Nat}{sv:Value}{Gs:List Grp}{gf:Nat}{fb lb:Array Value}{H:Nat→Nat}{S:Nat→Prop}{J:World→Prop}{b5 b8 p2:Nat}{sv2:Value}{o:List Grp}{ls:List Nat}
theorem RhO.pure(hs:VU prog gf fb lb H S J w){A B:World}(h:RhO w D p sv Gs gf fb lb J b5 b8 p2 sv2 o ls A)(hq:zb A B):RhO w D p sv Gs gf fb lb J b5 b8 p2 sv2 o ls B :=
 ⟨h.pu.trans hq,hq.heap (fun h=>h) h.h5,hq.heap (fun h=>h) h.h8,h.ix.pure hq,h.out.pure hq,hs.keep _ _ h.j (Mod.of_pure hq),fun l hl=>hq.heap (fun h=>h) (h.mks l hl)⟩
theorem RhO.quiet(hs:VU prog gf fb lb H S J w){N:Nat}(hN:w.heap.size≤N)(hls : ∀ l∈ls,l<N){A B:World}(h:RhO w D p sv Gs gf fb lb J b5 b8 p2 sv2 o ls A)(hq:zB N A B):RhO w D p sv Gs gf fb lb J b5 b8 p2 sv2 o ls B :=
 ⟨hq.mod h.pu hN,hq.cells h.h5,hq.cells h.h8,h.ix.quiet hq,h.out.quiet hq,hs.keep _ _ h.j (Mod.mono hq (fun k _ hk=>by have:=hk.1;omega)),fun l hl=>Mod.heap hq (fun hk=>by have:=hk.1;have:=hls l hl;omega) (h.mks l hl)⟩
end
theorem zeJ{H:Nat→Nat}{w w':World}{D:Nat→Prop}{p:Nat}{sv:Value}{o:List Grp}{s hh:Nat}{e:Ending}(hh0:H s=hh)(h:Y7 w D p sv o hh s e w') : ∃ z,e=.returned (.int .i64 z)∧yk w' D p sv (uB H o s)∧Mod D w w':=by
 subst hh0;unfold Y7 at h;unfold uB
 cases hm:vJ o (H s) s with
 | none=>rw[hm]at h;exact⟨_,h.1,h.2.1,h.2.2⟩
 | some o'=>rw[hm]at h;exact⟨_,h.1,h.2.1,h.2.2⟩
structure RhI(w:World)(D:Nat→Prop)(p:Nat)(sv:Value)(Gs:List Grp)(gf:Nat)(fb lb:Array Value)(J:World→Prop)(b5 b8 p2:Nat)(sv2:Value)(o:List Grp)(ls:List Nat)(H:Nat→Nat)(q:Grp)(b11 BL m:Nat)(pre:List Nat)(W:World):Prop where
 ro:RhO w D p sv Gs gf fb lb J b5 b8 p2 sv2 ((pre.map (fun j=>q.2.getD j 0)).foldl (uB H) o) ls W
 bx:W.heap[b11]? = some (.cells #[.int .u64 (zC q.1:Nat),.int .u32 (q.2[0]?.getD 0:Nat),.int .u32 (q.2[1]?.getD 0:Nat),.int .u32 (q.2[2]?.getD 0:Nat),.int .u32 (q.2[3]?.getD 0:Nat),.int .u32 (q.2[4]?.getD 0:Nat),.int .u32 (q.2[5]?.getD 0:Nat),.int .u32 (q.2[6]?.getD 0:Nat),.int .u32 (q.2[7]?.getD 0:Nat)] 260 (0,0))
 la:qi W BL m
@[go_sem] theorem zl6 (w : World) (fn : Fn) (fi ca : Array Value) : (binOp .eql 222 (.func fn fi ca) .nilFunc).run prog w=.ok (.bool false) w := by
 simp only[binOp];simp[Op.equal,Op.maxDepth,zau w 9999 _ fn fi ca underlying222]
theorem zic{w:World}{D:Nat→Prop}{p:Nat}{sv:Value}{Gs:List Grp}(h:yk w D p sv Gs)(g:Nat)(hg:Pow g)(hu:zD Gs≤8*g){gf:Nat}{fb lb:Array Value}{H:Nat→Nat}{S:Nat→Prop}{J:World→Prop}
    (hs:VU prog gf fb lb H S J w) (hS : ∀ s∈Gs.flatMap vy,S s) :
    Calls prog 188 #[.pointer (some ⟨p,0,none⟩),.int .i64 g,.func (.func gf) fb lb] w (fun e w' => ∃ p2 sv2,e=.returned (.tuple #[.pointer (some ⟨p2,0,none⟩),.int .i64 0]) ∧
      yk w' (fun k=>k=p2∨sv2.ownBlock=some k) p2 sv2 (Zu H g Gs)∧zb w w'∧w.heap.size≤p2∧(∀ k,sv2.ownBlock=some k→w.heap.size≤k)∧yk w' D p sv Gs∧J w'):=by
  have hp:zb w (w.alloc (.cells #[.func (.func gf) fb lb] 222)):=(Mod.refl _ w).alloc _;have hb5:=zk (w:=w) (o:=(.cells #[.func (.func gf) fb lb] 222 (0,0))) rfl;obtain⟨B,c,rfl,hc,hB,hDB,hBf,hcells⟩:=h.at;have zp:=hp.heap (fun h=>h) h.box;have hgl:=h.ok.pow.le;have hgl1:=h.ok.pow.pos;have HZ:=za (fun(W:World) (hW:W.cell? ⟨p,0,none⟩=_)=>Zw (w:=W) (c:=c) (a:=some ⟨B,0,none⟩) hW h.ok.pow.pos h.ok.pow.le);have HN:=za (fun W=>zcL g W hg);have HX:=za h;have HS:=za hs;have HSS:=za hS;have HP:=za hp;clear hcells h hBf hp hs hS
  (refine(yB (n:=0)).1 (callsIn_of_wp_marks func188 rfl trivial (kH.2 ?_) rfl);simp only[ntmps188,List.size_toArray,List.length_cons,List.length_nil,Nat.reduceAdd,Nat.reduceSub,Array.replicate_succ,Array.replicate_zero,List.push_toArray,List.append_toArray,List.nil_append,List.cons_append])
  go_upto_region 1 with fail
  generalize w.alloc (.cells #[.func (.func gf) fb lb] 222)=W1 at *;obtain⟨b5,hb5e⟩:=zf w.heap.size;rw[hb5e]at hb5 ⊢;obtain⟨zp_0,zp_1,zp_2,zp_f,zp_l,H_zp⟩:=cr3 zp;clear zp;go_upto_region 3 with(go_at_call 177;refine(HZ.out _ zp_0).mono ?_;rintro e w' ⟨rfl,rfl⟩)
  go_upto_region 4 with(go_at_call 101;refine(HN.out _).mono ?_;rintro e w2 ⟨p2,sv2,rfl,hix2,hp2,hl2,hs2⟩)
  have hp3:zb w2 (w2.alloc (.cells #[.pointer (some ⟨p2,0,none⟩)] 145)):=(Mod.refl _ w2).alloc _;have z8:=zk (w:=w2) (o:=(.cells #[.pointer (some ⟨p2,0,none⟩)] 145 (0,0))) rfl;have hb8:w.heap.size≤w2.heap.size:=zF HP.out.size hp2.size;have z5:=(hp2.trans hp3).heap (fun h=>h) hb5;have zp2:=(hp2.trans hp3).heap (fun h=>h) H_zp.out;have HO:=za (RhO.mk (J:=J) (ls:=[]) ((HP.out.trans hp2).trans hp3) z5 z8 (HX.out.pure ((HP.out.trans hp2).trans hp3)) (hix2.pure hp3) (HS.out.keep _ _ HS.out.start (Mod.of_pure ((HP.out.trans hp2).trans hp3))) (by simp));have hw1:w.heap.size≤W1.heap.size:=HP.out.size;have hlp2:w.heap.size≤p2:=zF hw1 hl2;have hls2 : ∀ k,sv2.ownBlock=some k→w.heap.size≤k:=fun k hk=>zF hw1 (hs2 k hk)
  have HL2:=za hls2;clear zp_0 zp_1 zp_2 zp_f zp_l;clear H_zp HZ HN hix2 hp2 hp3 hb5 hl2 hs2 hls2 HP;generalize w2.alloc (.cells #[.pointer (some ⟨p2,0,none⟩)] 145)=W3 at *;obtain⟨b8,hb8e⟩:=zf w2.heap.size;rw[hb8e]at HO z8 hb8 ⊢;clear hb8e hw1;have hgu:g≤1048576:=hg.le;have w8:IntKind.i64.wrap ((g:Int)*8)=(g:Int)*8:=zt _ (by omega);have hu':(zD Gs:Int)≤(g:Int)*8:=by omega
  have wg:IntKind.i64.wrap (Gs.length:Int)=Gs.length:=zt _ (by omega);obtain⟨z5_0,z5_f,z5_l,H_z5⟩:=cr1 z5;clear z5;obtain⟨z8_0,z8_f,z8_l,H_z8⟩:=cr1 z8;clear z8;obtain⟨zp2_0,zp2_1,zp2_2,zp2_f,zp2_l,H_zp2⟩:=cr3 zp2;clear zp2;go_upto_region 11 with fail
  refine wp_loop (fun a' wr => ∃(i:Nat) (ls:List Nat) (u11 u12 u41 u42 u43 u44 u45 u46 u47 u48 u49 u50 u51 u52 u53 u54 u55 u56 u57 u58 u59 u60 u61:Value),i≤Gs.length∧RhO w D p (.slice (some ⟨B,0,none⟩) Gs.length c) Gs gf fb lb J b5 b8 p2 sv2 (((Gs.take i).flatMap vy).foldl (uB H) (xt g)) ls wr∧ls.Nodup∧(∀ l∈ls,w.heap.size≤l)∧a' = {tmps:=#[.pointer (some ⟨p,0,none⟩),.int .i64 g,.func (.func gf) fb lb,undef,undef,.pointer (some ⟨b5,0,none⟩),.pointer none,.int .i64 0,.pointer (some ⟨b8,0,none⟩),.int .i64 0,undef,u11,u12,.pointer (some ⟨p,0,none⟩),.bool false,.tuple #[.pointer (some ⟨p2,0,none⟩),.int .i64 0],.int .i64 g,.tuple #[.pointer (some ⟨p2,0,none⟩),.int .i64 0],.pointer (some ⟨p2,0,none⟩),.int .i64 0,.bool false,.int .i64 0,.bool false,undef,.bool false,.func (.func gf) fb lb,.bool false,.bool (decide ((g:Int)*8<(zD Gs:Int))),.pointer (some ⟨p,0,none⟩),.pointer (some ⟨p,0,none⟩),.pointer (some ⟨p,1,none⟩),.int .i64 (zD Gs),.int .i64 g,.int .i64 ((g:Int)*8),.bool (decide ((g:Int)*8<(zD Gs:Int))),.pointer (some ⟨p,0,none⟩),.pointer (some ⟨p,0,none⟩),.pointer (some ⟨p,0,none⟩),.slice (some ⟨B,0,none⟩) Gs.length c,.int .i64 Gs.length,.int .i64 (i:Nat),u41,u42,u43,u44,u45,u46,u47,u48,u49,u50,u51,u52,u53,u54,u55,u56,u57,u58,u59,u60,u61,undef],defers:=zcP ls}) (fun a' _=>Gs.length-(intOf (a'.tmps.getD 40 undef)).toNat) ?_ ?_
  · refine⟨0,[],undef,undef,undef,undef,undef,undef,undef,undef,undef,undef,undef,undef,undef,undef,undef,undef,undef,undef,undef,undef,undef,undef,undef,yq _,?_,jR,by simp,rfl⟩
    simpa using HO.out
  · rintro a' wr ⟨i,ls,u11,u12,u41,u42,u43,u44,u45,u46,u47,u48,u49,u50,u51,u52,u53,u54,u55,u56,u57,u58,u59,u60,u61,hi,hro,hnd,hlsw,rfl⟩
    have HR:=za hro;have HND:=za hnd;have HLW:=za hlsw;clear z5_0 z5_f z5_l;clear z8_0 z8_f z8_l;clear zp2_0 zp2_1 zp2_2 zp2_f zp2_l;clear H_z5 H_z8 H_zp2 hro hnd hlsw HO;by_cases hlt:i<Gs.length
    · have hlt':(i:Int)<(Gs.length:Int):=by omega
      obtain⟨B3,c3,hsv3,_,hB3,hDB3,hBf3,hcells3⟩:=HR.out.ix.at
      cases hsv3
      obtain⟨zg,zsl⟩:=hcells3 i hlt;have z0:=zsl 0 (by omega);have z1:=zsl 1 (by omega);have z2:=zsl 2 (by omega);have z3:=zsl 3 (by omega);have z4:=zsl 4 (by omega);have z5:=zsl 5 (by omega);have z6:=zsl 6 (by omega);have z7:=zsl 7 (by omega);have HG:=za (HR.out.ix.ok.at hlt);clear hcells3 zsl;obtain⟨q,hq⟩:=zf (zn Gs i);rw[hq]at zg z0 z1 z2 z3 z4 z5 z6 z7 HG;have HGG:=za hq;clear hq;go_upto_region 13 with fail
      have hp7:zb wr (wr.alloc (.cells #[.int .u64 (zC q.1:Nat),.int .u32 (q.2[0]?.getD 0:Nat),.int .u32 (q.2[1]?.getD 0:Nat),.int .u32 (q.2[2]?.getD 0:Nat),.int .u32 (q.2[3]?.getD 0:Nat),.int .u32 (q.2[4]?.getD 0:Nat),.int .u32 (q.2[5]?.getD 0:Nat),.int .u32 (q.2[6]?.getD 0:Nat),.int .u32 (q.2[7]?.getD 0:Nat)] 260)):=(Mod.refl _ wr).alloc _;have h7:=zk (w:=wr) (o := .cells #[.int .u64 (zC q.1:Nat),.int .u32 (q.2[0]?.getD 0:Nat),.int .u32 (q.2[1]?.getD 0:Nat),.int .u32 (q.2[2]?.getD 0:Nat),.int .u32 (q.2[3]?.getD 0:Nat),.int .u32 (q.2[4]?.getD 0:Nat),.int .u32 (q.2[5]?.getD 0:Nat),.int .u32 (q.2[6]?.getD 0:Nat),.int .u32 (q.2[7]?.getD 0:Nat)] 260 (0,0)) rfl;have HFU:=za (fun W=>Jz HG.out.ctl.bytes W);obtain⟨m,hm⟩:=zf (zM (q.1.map (fun x=>decide (x<128))));rw[hm]at HFU;have hml:m<256:=by rw[← hm];exact jA (by rw[yH];exact HG.out.ctl.1)
      have HLA:=za (fun W=>zcS m W);have HM:=za hm;have HR7:=za (HR.out.pure HS.out hp7);have hn11 : ∀ k,(k=p2∨sv2.ownBlock=some k)→k≠wr.heap.size:=by
        rintro k (rfl | hk) e
        · have:=zm HR.out.out.box;omega
        · obtain⟨_,e2⟩:=yd HR.out.out.row hk
          have:=zm e2;omega
      have HN11:=za hn11;have hlsr : ∀ l∈ls,l<wr.heap.size:=fun l hl=>(kr.1 (HR.out.mks l hl)).1
      have hs7:wr.heap.size<(wr.alloc (.cells #[.int .u64 (zC q.1:Nat),.int .u32 (q.2[0]?.getD 0:Nat),.int .u32 (q.2[1]?.getD 0:Nat),.int .u32 (q.2[2]?.getD 0:Nat),.int .u32 (q.2[3]?.getD 0:Nat),.int .u32 (q.2[4]?.getD 0:Nat),.int .u32 (q.2[5]?.getD 0:Nat),.int .u32 (q.2[6]?.getD 0:Nat),.int .u32 (q.2[7]?.getD 0:Nat)] 260)).heap.size:=zm h7;have HLSR:=za hlsr;clear z0 z1 z2 z3 z4 z5 z6 z7 zg hp7 hm hn11 hlsr hBf3;generalize wr.alloc (.cells #[.int .u64 (zC q.1:Nat),.int .u32 (q.2[0]?.getD 0:Nat),.int .u32 (q.2[1]?.getD 0:Nat),.int .u32 (q.2[2]?.getD 0:Nat),.int .u32 (q.2[3]?.getD 0:Nat),.int .u32 (q.2[4]?.getD 0:Nat),.int .u32 (q.2[5]?.getD 0:Nat),.int .u32 (q.2[6]?.getD 0:Nat),.int .u32 (q.2[7]?.getD 0:Nat)] 260)=W7 at *;obtain⟨b11,hb11⟩:=zf wr.heap.size;rw[hb11]at h7 hs7 HN11 HLSR ⊢;clear hb11;have H7:=za h7;obtain⟨h7_0,h7_1,h7_2,h7_3,h7_4,h7_5,h7_6,h7_7,h7_8,h7_f,h7_l,H_h7⟩:=cr9 h7;clear h7
      go_wp2_with (first
        | (go_at_call 233;refine(HFU.out _).mono ?_;rintro e w' ⟨rfl,rfl⟩)
        | (go_at_call 226;refine(HLA.out _).mono ?_;rintro e w4 ⟨BL,rfl,hla,hp4,hBL⟩))
      have hb11w:b11<w4.heap.size:=vh hs7 hp4.size;have hw4:w.heap.size≤w4.heap.size:=zF HR7.out.pu.size hp4.size;have HI0:Hid (RhI w D p (.slice (some ⟨B,0,none⟩) Gs.length c) Gs gf fb lb J b5 b8 p2 sv2 (((Gs.take i).flatMap vy).foldl (uB H) (xt g)) ls H q b11 BL m [] w4):=⟨HR7.out.pure HS.out hp4,hp4.heap (fun h=>h) H_h7.out,hla⟩;have hBlt:BL<w4.heap.size:=zm hla.set;have HLA4:=za hla;clear h7_0 h7_1 h7_2 h7_3 h7_4 h7_5 h7_6 h7_7 h7_8 h7_f h7_l;clear H_h7 H7 hp4 hla HR7 HFU HLA;refine kH.1 (XE (gf:=272) (lb:=#[.pointer (some ⟨BL,0,none⟩)]) rfl (enters_of func272 (by kernel_rfl) rfl) (It:=fun k=>k=BL) (zb4 HLA4.out hml) (fun k hk=>by rw[hk];exact hBlt) (fun _=>rfl)
        (fun pre W=>RhI w D p (.slice (some ⟨B,0,none⟩) Gs.length c) Gs gf fb lb J b5 b8 p2 sv2 (((Gs.take i).flatMap vy).foldl (uB H) (xt g)) ls H q b11 BL m pre W) (fun _ _ _=>False) ?hI ?hIx HI0.out ?round ?done ?stop)
      case hI=>exact fun pre X Y h hq=>⟨h.ro.quiet HS.out hw4 (fun l hl=>by have:=HLSR.out l hl;omega) hq,hq.cells h.bx,⟨hq.cells h.la.set⟩⟩
      case hIx=>exact fun _ _ _ _ h _=>h
      case stop=>exact fun _ _ _ _ _ h=>h.elim
      case done =>
        rintro l xs W hl hSx hI hK;have hxs:xs=vI m:=hSx;have HIx:=za hI;have HKx:=za hK;clear hI hK HI0 HLA4;go_wp2;refine⟨⟨i+1,l::ls,_,_,_,_,_,_,_,_,_,_,_,_,_,_,_,_,_,_,_,_,_,_,_,hlt,?_,yZ.2 ⟨fun h => ?_,HND.out⟩,fun l' hl' => ?_,rfl⟩,?_⟩
        · have e1:(Gs.take (i+1)).flatMap vy=(Gs.take i).flatMap vy++vy q:=by
            rw[uH,vY hlt,HGG.out];simp
          have e2:vy q=xs.map (fun j=>q.2.getD j 0):=by unfold vy kv;rw[HM.out,hxs]
          rw[e1,Yt,e2];have:=HIx.out.ro;exact⟨this.pu,this.h5,this.h8,this.ix,this.out,this.j,fun l' hl'=>by
            rcases yx.1 hl' with rfl | h
            · exact HKx.out
            · exact this.mks l' h⟩
        · have:=HLSR.out l h;omega
        · rcases yx.1 hl' with rfl | h
          · omega
          · exact HLW.out l' h
        · simp[intOf];omega
      case round =>
        rintro l pre j W K hI hGx hK;obtain⟨post,hpost⟩:=hGx;dsimp only[qR];have hjm:j∈kv q:=by
          unfold kv;rw[HM.out,hpost];simp
        have hj8:j<8:=by
          have:=hjm;unfold kv vI at this;exact ZZ.1 (qY.1 this).1
        have HI:=za hI;have HK:=za hK;have HJM:=za hjm;clear hI hK HI0 HLA4 hpost hjm;gi_wp2;refine HK.out _ _ (Mod.refl _ _) (fun l' W2 hl hr hq => ?_);have HI2:Hid (RhI w D p (.slice (some ⟨B,0,none⟩) Gs.length c) Gs gf fb lb J b5 b8 p2 sv2 (((Gs.take i).flatMap vy).foldl (uB H) (xt g)) ls H q b11 BL m pre W2):=⟨HI.out.ro.quiet HS.out hw4 (fun l hl=>by have:=HLSR.out l hl;omega) hq,hq.cells HI.out.bx,⟨hq.cells HI.out.la.set⟩⟩;clear HK HI hq hr;gi_upto_region 15 with fail
        obtain⟨sl,hsl⟩:=zf (q.2.getD j 0);have hsl1:sl≤4294967295:=by rw[← hsl];exact HG.out.slot j
        have hsl2:S sl:=by
          refine HSS.out sl (Zb.2 ⟨q,?_,?_⟩)
          · rw[← HGG.out];exact ym (vY hlt)
          · rw[← hsl];exact zI.2 ⟨j,HJM.out,rfl⟩
        have c8:=zi W2 b8 0 _ _ _ HI2.out.ro.h8;have c5:=zi W2 b5 0 _ _ _ HI2.out.ro.h5;have c11:W2.cell? ⟨b11,1+j,none⟩=some (.int .u32 sl):=by
          have hv:(#[.int .u64 (zC q.1:Nat),.int .u32 (q.2[0]?.getD 0:Nat),.int .u32 (q.2[1]?.getD 0:Nat),.int .u32 (q.2[2]?.getD 0:Nat),.int .u32 (q.2[3]?.getD 0:Nat),.int .u32 (q.2[4]?.getD 0:Nat),.int .u32 (q.2[5]?.getD 0:Nat),.int .u32 (q.2[6]?.getD 0:Nat),.int .u32 (q.2[7]?.getD 0:Nat)]:Array Value)[1+j]? = some (.int .u32 (q.2.getD j 0:Nat)):=by
            have:j=0∨j=1∨j=2∨j=3∨j=4∨j=5∨j=6∨j=7:=by omega
            rcases this with rfl | rfl | rfl | rfl | rfl | rfl | rfl | rfl<;>rfl
          rw[hsl]at hv;have:=World.news_of_block HI2.out.bx (1+j) (.int .u32 sl) (by rw[YV];exact hv);simpa[Addr.add]using this
        simp at c8 c5;have x0:(0:Int)≤j:=by omega
        have x1:(j:Int)<8:=by omega
        refine zcR (fun X=>X.cell? ⟨b8,0,none⟩=some (.pointer (some ⟨p2,0,none⟩))∧X.cell? ⟨b5,0,none⟩=some (.func (.func gf) fb lb)∧X.cell? ⟨b11,1+j,none⟩=some (.int .u32 sl)) (by kernel_rfl) (by kernel_rfl) ?hL ⟨c8,c5,c11⟩ (fun h_ => ?_)
        case hL=>rintro⟨a,w,h⟩;exact h
        refine hTk 2 ?_;refine hTk 3 ?_;refine hTk 4 ?_;refine hTk 7 ?_;refine hTk 8 ?_;refine hTk 9 ?_;refine hLd 0 ?_;refine hLd 1 ?_;refine hLd 5 ?_;refine hLd 10 ?_;have hen:=HS.out.enters;have hcall:=za (yB.1 (HS.out.call sl W2.drew hsl1 hsl2 (HS.out.keep _ _ HI2.out.ro.j (Mod.drew (Mod.refl _ W2)))));obtain⟨hh,hhe⟩:=zf (H sl);have hhl:hh<18446744073709551616:=by rw[← hhe];exact HS.out.lt sl
        rw[hhe]at hcall
        (refine hSt 6 (fun K hK => ?_);go_simp;refine zq hcall.out ?_;rintro e X1 ⟨rfl,hp1⟩;refine hK.out _ _ ?_ (fun h_ => ?_);(· exact⟨hp1.cell (fun h=>h) c8,hp1.cell (fun h=>h) c5,hp1.cell (fun h=>h) c11⟩);clear hK K)
        have hpx:zb W2 X1:=Mod.of_drew hp1;have hrx:=HI2.out.ro.pure HS.out hpx;have HIN:=za (zbf hrx.out hh sl hhl hsl1);have d2 : ∀ k cs T,W2.heap[k]? = some (.cells cs T (0,0))→T≠257→T≠260 → ¬ (k=p2∨sv2.ownBlock=some k):=by
          rintro k cs T hk t1 t2 (rfl | e)
          · have:=HI2.out.ro.out.box;rw[hk]at this;cases this;exact t1 rfl
          · obtain⟨cc,e2⟩:=yd HI2.out.ro.out.row e
            rw[hk]at e2;cases e2;exact t2 rfl
        have n8:=d2 _ _ _ HI2.out.ro.h8 (by decide) (by decide);have n5:=d2 _ _ _ HI2.out.ro.h5 (by decide) (by decide);have nL:=d2 _ _ _ HI2.out.la.set (by decide) (by decide);have n11 : ¬ (b11=p2∨sv2.ownBlock=some b11):=fun e=>HN11.out b11 e rfl
        have HD2:=za d2;have HRX:=za hrx;have HPX:=za hpx;clear d2 hrx hpx
        (refine hSt 11 (fun K hK => ?_);go_simp;refine HIN.out.mono ?_;rintro e X2 hq;obtain⟨z,rfl,hix2,hm2⟩:=zeJ (H:=H) hhe hq;clear hq;refine hK.out _ _ ?_ (fun h_ => ?_);(· exact⟨hm2.cell n8 (hp1.cell (fun h=>h) c8),hm2.cell n5 (hp1.cell (fun h=>h) c5),hm2.cell n11 (hp1.cell (fun h=>h) c11)⟩);clear hK K)
        refine hDn ?_;have hm02:Mod (fun k=>k=p2∨sv2.ownBlock=some k) W2 X2:=(Mod.of_pure HPX.out:Mod (fun k=>k=p2∨sv2.ownBlock=some k) W2 X1).trans hm2;refine⟨xl.of_mod hm02 (fun k _ hk o ho => ?_),⟨hm02.size,?_⟩,?_⟩
        · rcases hk with rfl | e
          · rw[HI2.out.ro.out.box]at ho;cases ho;rfl
          · obtain⟨cc,e2⟩:=yd HI2.out.ro.out.row e
            rw[e2]at ho;cases ho;rfl
        · rintro k rfl hk
          exact hm02.block _ hk nL
        · have hd2w : ∀ k,(k=p2∨sv2.ownBlock=some k)→w.heap.size≤k:=by
            rintro k (rfl | e)
            · exact hlp2
            · exact HL2.out k e
          have hDw : ∀ k,D k→k<w.heap.size:=by
            intro k hk;rcases(HX.out.dd k).1 hk with rfl | e
            · exact zm HX.out.box
            · obtain⟨cc,e2⟩:=yd HX.out.row e
              exact zm e2
          refine⟨⟨HI2.out.ro.pu.then hm02 (fun k hk hd=>by have:=hd2w k hd;omega),hm02.heap n5 HI2.out.ro.h5,hm02.heap n8 HI2.out.ro.h8,HI2.out.ro.ix.mod hm02 (fun k hk hd=>by have:=hd2w k hd;have:=hDw k hk;omega),?_,HS.out.keep _ _ HI2.out.ro.j (Mod.mono hm02 (fun k _ hd=>hd2w k hd)),fun l hl=>hm02.heap ?_ (HI2.out.ro.mks l hl)⟩,hm02.heap n11 HI2.out.bx,⟨hm02.heap nL HI2.out.la.set⟩⟩
          · rw[vr,Yt,qJ,hsl]
            exact hix2
          · rintro(e | e)
            · have:=HI2.out.ro.mks l hl;rw[e,HI2.out.ro.out.box]at this;cases this
            · obtain⟨cc,e2⟩:=yd HI2.out.ro.out.row e
              have:=HI2.out.ro.mks l hl;rw[e2]at this;cases this
    · have hlt':(Gs.length:Int)≤(i:Int):=by omega
      have e:Gs.length=i:=by omega
      subst e;have z8:=HR.out.h8;obtain⟨z8_0,z8_f,z8_l,H_z8⟩:=cr1 z8;clear z8;go_wp2;refine QP (N:=w.heap.size) (v := .tuple #[.pointer (some ⟨p2,0,none⟩),.int .i64 0]) HR.out.mks HND.out HLW.out (fun W'=>by simp[results,results188,go_sem]) (fun W' hq => ?_);have hf:(Gs.take Gs.length)=Gs:=List.take_length;have hout:=HR.out.out;rw[hf]at hout;exact⟨p2,sv2,rfl,hout.quiet hq,hq.mod HR.out.pu (zN _),hlp2,HL2.out,HR.out.ix.quiet hq,HS.out.keep _ _ HR.out.j (Mod.mono hq (fun k _ hk=>hk.1))⟩
end
section
open Go.RowKit Go.Shelf
theorem zhu : ∀ a b c d e f g i:Bool,(vI (zM [a,b,c,d,e,f,g,i])).length=[a,b,c,d,e,f,g,i].countP id:=by decide +kernel
theorem zhy{c:Grp}(h:xX c):(kv c).length=c.1.countP (· < 128):=by
 obtain⟨x0,x1,x2,x3,x4,x5,x6,x7,e⟩:=j5 h.ctl.1;unfold kv;rw[e];simp only[List.map_cons,List.map_nil];rw[zhu];simp only[List.countP_cons,List.countP_nil,id]
theorem zbM{Gs:List Grp}(h:xw Gs):(Gs.flatMap vy).length=zD Gs:=by
 unfold zD;rw[List.length_flatMap]
 congr 1
 refine uI (fun c hc => ?_);unfold vy;rw[yH,zhy (h.grp c hc)]
theorem Az2li {P:Prop}(h:P:=by
 unfold kv;rw[KI (by simp[hc.ctl.1])];simp only[List.mem_filter,List.mem_range,List.getD_eq_getElem?_getD,List.getElem?_map]
 cases c.1[j]? <;> simp):P:=h
theorem zeZ{c:Grp}(hc:xX c)(j:Nat):j∈kv c↔j<8 ∧ ∃ t,c.1[j]? = some t∧t<128:=by
 exact Az2li
theorem zlC(c:Grp):(kv c).Pairwise (· < ·):=by
 unfold kv vI;exact List.Pairwise.filter _ List.pairwise_lt_range
theorem zex{Gs:List Grp}(h:xw Gs)(s:Nat):s∈Gs.flatMap vy ↔ ∃ i j t,vF Gs i j t s:=by
 have hin : ∀ c,xX c → ∀ j,j∈kv c↔j<8 ∧ ∃ t,c.1[j]? = some t∧t<128:=fun c hc j=>by
  exact Az2li
 constructor
 ·intro hs;obtain⟨c,hc,hs⟩:=Zb.1 hs;obtain⟨j,hj,rfl⟩:=zI.1 hs;obtain⟨i,hi⟩:=uk hc;have hl:i<Gs.length:=(zE.1 hi).1;have e:zn Gs i=c:=by have:=vY hl;rw[hi]at this;cases this;rfl
  obtain⟨hj8,t,ht,ht2⟩:=(hin c (h.grp c hc) j).1 hj;exact⟨i,j,t,hl,hj8,by rw[e];exact ht,ht2,by unfold zS;rw[e]⟩
 ·rintro⟨i,j,t,hf⟩;refine Zb.2 ⟨zn Gs i,ym (vY hf.hi),zI.2 ⟨j,(hin _ (h.at hf.hi) j).2 ⟨hf.hj,t,hf.tag,hf.full⟩,hf.slot⟩⟩
theorem Ui{Gs:List Grp}{i:Nat}(h:xw Gs)(hi:i<Gs.length){j:Nat}(hj:j∈kv (zn Gs i)) : ∃ t,vF Gs i j t ((zn Gs i).2.getD j 0):=by
 obtain⟨h8,t,ht,ht2⟩:=(zeZ (h.at hi) j).1 hj;exact⟨t,hi,h8,ht,ht2,rfl⟩
theorem yC.nodup{H:Nat→Nat}{S:Nat→Prop}{Gs:List Grp}(h:yC H S Gs):(Gs.flatMap vy).Nodup:=by
 unfold List.Nodup;rw[List.pairwise_flatMap];constructor
 ·intro c hc;obtain⟨i,hi⟩:=uk hc;have hl:i<Gs.length:=(zE.1 hi).1;have e:zn Gs i=c:=by have:=vY hl;rw[hi]at this;cases this;rfl
  unfold vy;rw[uU];refine(zlC c).imp_of_mem (fun {a b} ha hb hab => ?_);intro e2;rw[← e]at ha hb e2;obtain⟨t1,h1⟩:=Ui h.ok hl ha;obtain⟨t2,h2⟩:=Ui h.ok hl hb;have:=(h.uniq _ _ _ _ _ _ _ h1 (e2 ▸ h2)).2;omega
 ·rw[UH];intro i j hi hj hij x hx y hy e;have ei:zn Gs i=Gs[i]:=by have:=vY hi;rw[zO hi]at this;exact(vZ this).symm
  have ej:zn Gs j=Gs[j]:=by have:=vY hj;rw[zO hj]at this;exact(vZ this).symm
  obtain⟨a,ha,rfl⟩:=zI.1 hx;obtain⟨b,hb,rfl⟩:=zI.1 hy;rw[← ei]at ha e;rw[← ej]at hb e;obtain⟨t1,h1⟩:=Ui h.ok hi ha;obtain⟨t2,h2⟩:=Ui h.ok hj hb;have:=(h.uniq _ _ _ _ _ _ _ h1 (e ▸ h2)).1;omega
theorem zdJ{H:Nat→Nat} : ∀(L:List Nat) (o:List Grp) (S:Nat→Prop),yC H S o→(∀ s∈L,s≤4294967295 ∧ ¬ S s)→L.Nodup→zD o+L.length≤8*o.length →
  yC H (fun s=>S s∨s∈L) (L.foldl (uB H) o)∧zD (L.foldl (uB H) o)=zD o+L.length∧(L.foldl (uB H) o).length=o.length∧yi (L.foldl (uB H) o)≤yi o
 | [],o,S,h,_,_,_=>⟨h.of_iff (by simp),rfl,rfl,zN _⟩
 | s::L,o,S,h,hs,hn,hr=>by
  obtain⟨hs1,hs2⟩:=hs s (by simp);obtain⟨o',ho⟩ : ∃ o',vJ o (H s) s=some o':=by
   cases hc:vJ o (H s) s with
   | some o'=>exact⟨o',rfl⟩
   | none =>
    have:=(zaV h.ok _ _).1 hc;simp only[List.length_cons]at hr;omega
  have e:uB H o s=o':=by unfold uB;rw[ho];rfl
  obtain⟨c1,c2,c3,c4⟩:=JJ h.ok hs1 ho;have hi:=h.ins hs1 hs2 ho;simp only[List.foldl_cons,e];simp only[List.length_cons]at hr ⊢;obtain⟨k1,k2,k3,k4⟩:=zdJ L o' _ hi (fun x hx=>⟨(hs x (by simp[hx])).1,fun hx2=>by
   rcases hx2 with rfl | hx2
   ·exact(yZ.1 hn).1 hx
   ·exact(hs x (by simp[hx])).2 hx2⟩) (yZ.1 hn).2 (by omega)
  refine⟨k1.of_iff (fun x => ?_),by omega,by omega,by omega⟩;simp only[List.mem_cons];constructor
  ·rintro((h | h) | h)
   ·exact .inr (.inl h)
   ·exact .inl h
   ·exact .inr (.inr h)
  ·rintro(h | h | h)
   ·exact .inl (.inr h)
   ·exact .inl (.inl h)
   ·exact .inr h
theorem yC.rehash{H:Nat→Nat}{S:Nat→Prop}{Gs:List Grp}(h:yC H S Gs){g:Nat}(hg:Pow g)(hu:zD Gs≤8*g) :
  yC H S (Zu H g Gs)∧zD (Zu H g Gs)=zD Gs∧(Zu H g Gs).length=g∧yi (Zu H g Gs)=0:=by
 have hm : ∀ s,s∈Gs.flatMap vy↔S s:=fun s=>(zex h.ok s).trans (h.mem s).symm
 have hlt : ∀ s∈Gs.flatMap vy,s≤4294967295:=by
  intro s hs;obtain⟨c,hc,hs⟩:=Zb.1 hs;exact zlQ (h.ok.grp c hc) s hs
 obtain⟨k1,k2,k3,k4⟩:=zdJ (Gs.flatMap vy) (xt g) (fun _=>False) (newG_holds H hg) (fun s hs=>⟨hlt s hs,fun h=>h⟩) h.nodup (by rw[zbM h.ok,UT,Vd];omega);unfold Zu;rw[UT,zbM h.ok]at k2;rw[Vd]at k3;rw[zax]at k4;exact⟨k1.of_iff (fun s=>by simp[hm]),by omega,k3,by omega⟩
theorem YT(a b:ByteArray):(a==b)=true↔a=b:=by
 cases a;cases b
 rename_i x y
 show(x==y)=true↔_
 simp
def ua(L:List (Option Ent))(s:Nat):Prop := ∃ e,L[s]? = some (some e)
def yh(seed:Nat)(same:Bool)(L:List (Option Ent))(s:Nat):Nat:=kL seed same (yL L s)
theorem ZI{L:List (Option Ent)}{s:Nat}{e:Ent}(h:L[s]? = some (some e)):yL L s=e.key:=by unfold yL;rw[h]
theorem zfC(a b:ByteArray):(a.toList==b.toList)=(a==b):=by
 rw[Bool.eq_iff_iff,YT,beq_iff_eq,ByteArray.toList_eq,ByteArray.toList_eq];exact⟨fun h=>ByteArray.ext (Array.toList_inj.1 h),fun h=>by rw[h]⟩
def YZ(L:List (Option Ent)):Prop := ∀(s t:Nat) (e f:Ent),L[s]? = some (some e)→L[t]? = some (some f)→e.key=f.key→s=t
def isK(key:ByteArray)(o:Option Ent):Bool:=match o with
 | some e=>e.key==key
 | none=>false
def yN(L:List (Option Ent))(key:ByteArray):Option Nat:=L.findIdx? (isK key)
theorem JK{key:ByteArray}{o:Option Ent}:isK key o=true ↔ ∃ e,o=some e∧e.key=key:=by
 cases o with
 | none=>simp[isK]
 | some e=>simp[isK,YT]
theorem Um{L:List (Option Ent)}{key:ByteArray}{s:Nat}(h:yN L key=some s) : ∃ e:Ent,L[s]? = some (some e)∧e.key=key:=by
 unfold yN at h;obtain⟨hl,hp,_⟩:=Jf.1 h;obtain⟨e,he,hk⟩:=JK.1 hp;exact⟨e,by rw[zO hl,he],hk⟩
theorem QX{L:List (Option Ent)}{key:ByteArray}(h:yN L key=none) : ∀(s:Nat) (e:Ent),L[s]? = some (some e)→e.key≠key:=by
 unfold yN at h;rw[Ua]at h;intro s e hs hk;have:=h _ (ym hs);rw[JK.2 ⟨e,rfl,hk⟩]at this
 cases this
theorem zhS{L:List (Option Ent)}(hk:YZ L){s:Nat}{e:Ent}(h:L[s]? = some (some e)):yN L e.key=some s:=by
 cases hf:yN L e.key with
 | none=>exact absurd rfl (QX hf s e h)
 | some t =>
  obtain⟨f,h1,h2⟩:=Um hf;rw[hk t s f e h1 h h2]
theorem zii{L:List (Option Ent)}{key:ByteArray}(h : ∀(s:Nat) (e:Ent),L[s]? = some (some e)→e.key≠key):yN L key=none:=by
 cases hf:yN L key with
 | none=>rfl
 | some t =>
  obtain⟨f,h1,h2⟩:=Um hf;exact absurd h2 (h t f h1)
theorem yC.congr{H H':Nat→Nat}{S:Nat→Prop}{Gs:List Grp}(h:yC H S Gs)(he : ∀ s,S s→H s=H' s):yC H' S Gs :=
 ⟨h.ok,fun i j t s hf=>by rw[← he s ((h.mem s).2 ⟨i,j,t,hf⟩)];exact h.tag i j t s hf,fun i j t s hf=>by rw[← he s ((h.mem s).2 ⟨i,j,t,hf⟩)];exact h.reach i j t s hf,h.uniq,h.mem⟩
structure vS(seed:Nat)(same:Bool)(L:List (Option Ent))(Gs:List Grp):Prop where
 holds:yC (yh seed same L) (ua L) Gs
 keys:YZ L
 used:zD Gs=yb L
theorem zbw{n:Nat}:X4 n<18446744073709551616:=by
 have h1:jZ n<2 ^ 64:=zaT n;exact qS h1 (jm (Y2 _ _) h1)
theorem U8(seed:Nat)(same:Bool)(L:List (Option Ent))(s:Nat):yh seed same L s<18446744073709551616:=zbw
theorem zdB{H:Nat→Nat}{S:Nat→Prop}{Gs:List Grp}(h:yC H S Gs){sum:Nat}{x:Nat × Nat}(hx:x∈xD Gs sum):S (zS Gs x):=(h.mem _).2 ⟨_,_,_,Vg h.ok hx⟩
theorem vS.find{seed:Nat}{same:Bool}{L:List (Option Ent)}{Gs:List Grp}(h:vS seed same L Gs){w w':World}{D:Nat→Prop}{p:Nat}{sv:Value}{key:ByteArray}{C:TypeId→Prop}{J:List Nat→World→Prop}{e:Ending}
  (hp:JD w D p sv Gs (kL seed same key) (fun _ s=>yL L s==key) C J e w') :
  e=.returned (.tuple (match yN L key with | some s=>#[.int .u32 s,.int .i64 0] | none=>#[.int .u32 0,.int .i64 9])):=by
 obtain⟨_,_,⟨a,x,post,h1,h2,h3,h4,h5⟩ | ⟨h1,h2,h3⟩⟩:=hp
 ·have hx:x∈xD Gs (kL seed same key):=by rw[h1];simp
  obtain⟨f,hf⟩:=zdB h.holds hx;have hk:f.key=key:=by
   have:(yL L (zS Gs x)==key)=true:=h3;rw[ZI hf]at this;exact(YT _ _).1 this
  have:=zhS h.keys hf;rw[hk]at this;rw[this];exact h4
 ·have:yN L key=none:=by
   refine zii (fun s f hs hk => ?_);obtain⟨i,j,hm,hF⟩:=h.holds.find_some (s:=s) ⟨f,hs⟩;have e1:yh seed same L s=kL seed same key:=by unfold yh;rw[ZI hs,hk]
   rw[e1]at hm;unfold uo at hm;have hx:=ZU hm;have:=Vq h1 _ (zI.2 ⟨_,hx,rfl⟩);rw[hF.slot,ZI hs,hk,(YT key key).2 rfl]at this
   cases this
  rw[this];exact h2
theorem Qj : ∀ {Gs:List Grp},(∀ c∈Gs,xX c)→zD Gs+yi Gs≤8*Gs.length
 | [],_=>by simp[zD,yi]
 | c::Gs,h=>by
  have h1:=Qj (Gs:=Gs) (fun c hc=>h c (by simp[hc]));have h2 : ∀ l:List Nat,l.countP (· < 128)+l.countP (· == 254)≤l.length:=by
   intro l
   induction l with
   | nil=>simp
   | cons a l ih =>
    simp only[List.countP_cons,List.length_cons];by_cases c1:a<128
    ·have:(a==254)=false:=by simp;omega
     simp[c1,this]at *;omega
    ·by_cases c2:(a==254)=true
     ·simp[c1,c2]at *;omega
     ·simp[c1,c2]at *;omega
  have h3:=h2 c.1;rw[(h c (by simp)).ctl.1]at h3;unfold zD yi at *;simp only[List.map_cons,List.sum_cons,List.length_cons];omega
theorem Pow.dbl{g:Nat}(h:Pow g)(hlt:g<1048576):Pow (2*g):=by
 obtain⟨k,hk,rfl⟩:=h;refine⟨k+1,?_,by rw[qP];omega⟩;have:k≠20:=by rintro rfl;omega
 omega
def doG(H:Nat→Nat)(x:Nat × Bool)(Gs:List Grp):List Grp:=if x.2 then Zu H x.1 Gs else Gs
theorem zjK{Gs:List Grp}(h:xw Gs)(hl:zD Gs≤4194304) : ∃ x,jE Gs.length (zD Gs) (yi Gs)=some x∧Pow x.1∧zD Gs<8*x.1∧(x.2=false→x.1=Gs.length):=by
 have hp:=h.pow;have h0:=hp.pos;have h1:=hp.le;unfold jE;split
 ·exact⟨_,rfl,hp,by show _<8*Gs.length;omega,fun _=>rfl⟩
 ·split
  ·exact⟨_,rfl,hp,by show _<8*Gs.length;omega,by simp⟩
  ·have h2:=zbP h;split
   ·rename_i h3;exact⟨_,rfl,hp.dbl h3,by show _<8*(2*Gs.length);omega,by simp⟩
   ·have h4:Gs.length=1048576:=by omega
    rw[zj (by omega)];exact⟨_,rfl,hp,by show _<8*Gs.length;omega,by simp⟩
theorem yC.do{H:Nat→Nat}{S:Nat→Prop}{Gs:List Grp}(h:yC H S Gs){x:Nat × Bool}(hx:Pow x.1)(hu:zD Gs≤8*x.1)(hn:x.2=false→x.1=Gs.length) :
  yC H S (doG H x Gs)∧zD (doG H x Gs)=zD Gs∧(doG H x Gs).length=x.1:=by
 unfold doG
 cases hb:x.2 with
 | false=>exact⟨h,rfl,(hn hb).symm⟩
 | true =>
  obtain⟨h1,h2,h3,_⟩:=h.rehash hx hu;exact⟨h1,h2,h3⟩
def j7(H:Nat→Nat)(Gs:List Grp)(s:Nat):List Grp:=uB H (doG H ((jE Gs.length (zD Gs) (yi Gs)).getD (0,false)) Gs) s
theorem yC.put{H:Nat→Nat}{S:Nat→Prop}{Gs:List Grp}(h:yC H S Gs)(hl:zD Gs≤4194304){s:Nat}(hs:s≤4294967295)(hn : ¬ S s) :
  ∃ x,jE Gs.length (zD Gs) (yi Gs)=some x∧Pow x.1∧zD Gs≤8*x.1∧(x.2=false→x.1=Gs.length)∧yC H S (doG H x Gs)∧vJ (doG H x Gs) (H s) s=some (j7 H Gs s) ∧
   yC H (fun y=>y=s∨S y) (j7 H Gs s)∧zD (j7 H Gs s)=zD Gs+1:=by
 obtain⟨x,h1,h2,h3,h4⟩:=zjK h.ok hl;obtain⟨k1,k2,k3⟩:=h.do h2 (qZ h3) h4;have hm : ∃ o,vJ (doG H x Gs) (H s) s=some o:=by
  cases e:vJ (doG H x Gs) (H s) s with
  | some o=>exact⟨o,rfl⟩
  | none =>
   have:=(zaV k1.ok _ _).1 e;rw[k2,k3]at this;omega
 obtain⟨o,ho⟩:=hm;have e:j7 H Gs s=o:=by
  unfold j7 uB;rw[h1];simp[ho]
 rw[e];refine⟨x,h1,h2,qZ h3,h4,k1,ho,k1.ins hs hn ho,?_⟩;rw[(JJ k1.ok hs ho).1,k2]
theorem zks(L:List (Option Ent))(o:Option Ent){s:Nat}(h:s<L.length):yL (L++[o]) s=yL L s:=by
 unfold yL;rw[uw h]
theorem VN{L:List (Option Ent)}{s:Nat}(h:ua L s):s<L.length:=by
 obtain⟨e,h⟩:=h;exact(zE.1 h).1
theorem zhv(L:List (Option Ent))(x:Ent)(s:Nat):ua (L++[some x]) s↔s=L.length∨ua L s:=by
 constructor
 ·rintro⟨e,h⟩;rcases qO s L.length with hl | hl | hl
  ·rw[uw hl]at h;exact .inr ⟨e,h⟩
  ·exact .inl hl
  ·rw[xM (by simp;omega)]at h;cases h
 ·rintro(rfl | h)
  ·exact⟨x,by simp⟩
  ·obtain⟨e,he⟩:=id h;exact⟨e,by rw[uw (VN h)];exact he⟩
theorem zhT{L:List (Option Ent)}(h:YZ L){x:Ent}(hx:yN L x.key=none):YZ (L++[some x]):=by
 have hn:=QX hx;have hc : ∀ s e,(L++[some x])[s]? = some (some e)→(s<L.length∧L[s]? = some (some e))∨(s=L.length∧e=x):=by
  intro s e hs;rcases qO s L.length with hl | hl | hl
  ·rw[uw hl]at hs;exact .inl ⟨hl,hs⟩
  ·subst hl;simp at hs;exact .inr ⟨rfl,hs.symm⟩
  ·rw[xM (by simp;omega)]at hs;cases hs
 intro s t e f hs ht hk;rcases hc s e hs with⟨h1,h2⟩ | ⟨h1,h2⟩<;>rcases hc t f ht with⟨h3,h4⟩ | ⟨h3,h4⟩
 ·exact h s t e f h2 h4 hk
 ·subst h4;exact absurd hk (hn s e h2)
 ·subst h2;exact absurd hk.symm (hn t f h4)
 ·omega
theorem zeO(L:List (Option Ent))(x:Ent):yb (L++[some x])=yb L+1:=by unfold yb;simp
theorem Je(L:List (Option Ent)):yb L≤L.length:=UQ
theorem vS.insert{seed:Nat}{same:Bool}{L:List (Option Ent)}{Gs:List Grp}(h:vS seed same L Gs){x:Ent}(hx:yN L x.key=none)(hl:L.length≤4194304) :
  yC (yh seed same (L++[some x])) (ua L) Gs∧vS seed same (L++[some x]) (j7 (yh seed same (L++[some x])) Gs L.length):=by
 have h1:yC (yh seed same (L++[some x])) (ua L) Gs:=h.holds.congr (fun s hs=>by unfold yh;rw[zks _ _ (VN hs)]);have h0:=Je L;obtain⟨y,k1,k2,k3,k4,k5,k6,k7,k8⟩:=h1.put (by rw[h.used];omega) (s:=L.length) (by omega) (fun c=>by have:=VN c;omega);exact⟨h1,k7.of_iff (fun s=>(zhv L x s).symm),zhT h.keys hx,by rw[k8,h.used,zeO]⟩
theorem vS.new(seed:Nat)(same:Bool):vS seed same [] (xt 1) :=
 ⟨(newG_holds _ ⟨0,by decide,rfl⟩).of_iff (fun s=>⟨fun h=>h.elim,fun⟨e,h⟩=>by simp at h⟩),fun s t e f h=>by simp at h,by rw[UT];rfl⟩
end
section
open Go.RowKit Go.Shelf
variable{Fo:Nat→Prop}
theorem Azo54 {P:Prop}(h:P:=by
 generalize w.heap.size=b at *;obtain⟨hb_0,hb_1,hb_f,hb_l,H_hb⟩:=cr2 hb;clear hb
 go_wp2_with (first
   | (go_at_call 180;refine(HF.out _).mono ?_;rintro e w' ⟨rfl,rfl⟩)
   | (go_at_call 179;refine(HM.out _).mono ?_;rintro e w' ⟨rfl,rfl⟩))
 go_ret;exact⟨rfl,HP.out⟩):P:=h
theorem zcG(seed:Nat)(same:Bool)(hs:seed<18446744073709551616)(key:ByteArray)(hk:key.size≤140737488355328)(w:World) :
    Calls prog 120 #[.agg #[.int .u64 seed,.bool same],.string key] w fun e w'=>e=.returned (.int .u64 (kL seed same key:Nat))∧zb w w':=by
  have hp:zb w (w.alloc (.cells #[.int .u64 seed,.bool same] 123)):=(Mod.refl _ w).alloc _;have hb:=zk (w:=w) (o:=(.cells #[.int .u64 seed,.bool same] 123 (0,0))) rfl;have HP:=za hp;obtain⟨res,hres⟩:=zf (kL seed same key);rw[hres];unfold kL at hres;have HR:=za hres;clear hp hres
  cases same with
  | true =>
    have hr:=HR.out;simp only[if_true]at hr;have HF:=za (fun W=>zcc seed hs ⟨#[]⟩ (by decide) W);have HM:=za (fun W=>zcq seed hs W);have e0:ki seed (⟨#[]⟩:ByteArray).data.toList=seed:=rfl;have e1:ki seed []=seed:=rfl;rw[e1]at hr;rw[e0]at HF;subst hr;clear HR e0 e1;go_enter func120,ntmps120;go_upto_region 1 with fail
    generalize w.alloc (.cells #[.int .u64 seed,.bool true] 123)=W1 at *;exact Azo54
  | false =>
    have hr:=HR.out;simp only[Bool.false_eq_true,if_false]at hr;have hq:=KY hs key.data.toList;have HF:=za (fun W=>zcc seed hs key hk W);have HM:=za (fun W=>zcq _ hq W);subst hr;clear HR;generalize ki seed key.data.toList=q at *;go_enter func120,ntmps120;go_upto_region 1 with fail
    generalize w.alloc (.cells #[.int .u64 seed,.bool false] 123)=W1 at *;exact Azo54
abbrev xr(d:Nat):Value := .pointer (some ⟨d,0,none⟩)
structure ya(Fo:Nat→Prop)(w:World)(d q p:Nat)(sv:Value)(Dl:Nat→Prop)(seed:Nat)(same:Bool)(L:List (Option Ent))(Gs:List Grp):Prop where
 box:w.heap[d]? = some (.cells #[.pointer (some ⟨q,0,none⟩),.int .u64 seed,.bool same,.pointer (some ⟨p,0,none⟩)] 147 (0,0))
 log:yg Fo w Dl q L
 ix:yk w (fun k=>k=p∨sv.ownBlock=some k) p sv Gs
 sd:seed<18446744073709551616
section
variable{w w':World}{d q p:Nat}{sv:Value}{Dl:Nat→Prop}{seed:Nat}{same:Bool}{L:List (Option Ent)}{Gs:List Grp}
theorem ya.pure(h:ya Fo w d q p sv Dl seed same L Gs)(hp:zb w w'):ya Fo w' d q p sv Dl seed same L Gs :=
 ⟨hp.heap (fun h=>h) h.box,h.log.pure hp,h.ix.pure hp,h.sd⟩
def jO(d:Nat)(Dl:Nat→Prop)(p:Nat)(sv:Value)(k:Nat):Prop:=k=d∨Dl k∨k=p∨sv.ownBlock=some k
theorem ya.types(h:ya Fo w d q p sv Dl seed same L Gs){k:Nat}(hk:jO d Dl p sv k){cs:Array Value}{T:TypeId}{fz:Nat × Nat}(e:w.heap[k]? = some (.cells cs T fz)) :
  T=147∨T=262∨T=70∨T=257∨T=260:=by
 rcases hk with rfl | hk | rfl | hk
 ·rw[h.box]at e;cases e;exact .inl rfl
 ·rcases h.log.types hk e with e | e
  ·exact .inr (.inl e)
  ·exact .inr (.inr (.inl e))
 ·rw[h.ix.box]at e;cases e;exact .inr (.inr (.inr (.inl rfl)))
 ·obtain⟨cc,e2⟩:=yd h.ix.row hk;rw[e2]at e;cases e;exact .inr (.inr (.inr (.inr rfl)))
theorem ya.lt(h:ya Fo w d q p sv Dl seed same L Gs){k:Nat}(hk:jO d Dl p sv k):k<w.heap.size:=by
 rcases hk with rfl | hk | rfl | hk
 ·exact zm h.box
 ·exact h.log.lt hk
 ·exact zm h.ix.box
 ·exact xV h.ix.row hk
theorem ya.frame{S:Nat→Prop}(h:ya Fo w d q p sv Dl seed same L Gs)(hm:Mod S w w')(hD : ∀ k,jO d Dl p sv k → ¬ S k)(hS : ∀ k,k<w.heap.size→S k → ∀ cs fz,w.heap[k]? ≠ some (.cells cs 5 fz)):ya Fo w' d q p sv Dl seed same L Gs :=
 ⟨hm.heap (hD d (.inl rfl)) h.box,h.log.frame hm (fun k hk=>hD k (.inr (.inl hk))) hS,h.ix.mod hm (fun k hk=>hD k (.inr (.inr hk))),h.sd⟩
theorem ya.frameF{S:Nat→Prop}(h:ya Fo w d q p sv Dl seed same L Gs)(hm:Mod S w w')(hD : ∀ k,jO d Dl p sv k → ¬ S k)(hS : ∀ k,k<w.heap.size→S k→Fo k ∨ ∀ cs fz,w.heap[k]? ≠ some (.cells cs 5 fz)):ya Fo w' d q p sv Dl seed same L Gs :=
 ⟨hm.heap (hD d (.inl rfl)) h.box,h.log.frameF hm (fun k hk=>hD k (.inr (.inl hk))) hS,h.ix.mod hm (fun k hk=>hD k (.inr (.inr hk))),h.sd⟩
theorem ya.refo{Fo':Nat→Prop}(h:ya Fo w d q p sv Dl seed same L Gs)(hm:zb w w')(h1 : ∀ k,Fo' k→Fo k∨w.heap.size≤k)(h2 : ∀ k,Fo' k→k<w'.heap.size):ya Fo' w' d q p sv Dl seed same L Gs :=
 ⟨hm.heap (fun h=>h) h.box,h.log.refo hm h1 h2,h.ix.pure hm,h.sd⟩
theorem ya.nd(h:ya Fo w d q p sv Dl seed same L Gs) : ¬ Dl d:=fun hk=>by
 rcases h.log.types hk h.box with e | e<;>cases e
theorem ya.npd(h:ya Fo w d q p sv Dl seed same L Gs):p≠d:=fun e=>by
 have h1:=h.ix.box;rw[e,h.box]at h1;cases h1
theorem ya.nsd(h:ya Fo w d q p sv Dl seed same L Gs):sv.ownBlock≠some d:=fun e=>by
 obtain⟨cc,e2⟩:=yd h.ix.row e;rw[h.box]at e2;cases e2
theorem ya.nlp(h:ya Fo w d q p sv Dl seed same L Gs) : ∀ k,Dl k → ¬ (k=p∨sv.ownBlock=some k):=by
 rintro k hk (rfl | e)
 ·rcases h.log.types hk h.ix.box with e | e<;>cases e
 ·obtain⟨cc,e2⟩:=yd h.ix.row e;rcases h.log.types hk e2 with e | e<;>cases e
end
theorem zlc{w:World}{D:Nat→Prop}{q:Nat}{L:List (Option Ent)}(h:yg Fo w D q L)(s:Nat):(yL L s).size≤250:=by
 unfold yL;split
 ·rename_i e he;exact(h.ok.ent e (ym he)).k1
 ·decide
theorem zc4{w:World}{D:Nat→Prop}{q:Nat}{L:List (Option Ent)}(h:yg Fo w D q L)(s:Nat)(hs:s≤4294967295) :
  Calls prog 122 #[.agg #[.pointer (some ⟨q,0,none⟩)],.int .u32 s] w fun e w'=>e=.returned (.string (yL L s))∧zb w w':=by
 have hp:zb w (w.alloc (.cells #[.pointer (some ⟨q,0,none⟩)] 144)):=(Mod.refl _ w).alloc _;have hb:=zk (w:=w) (o:=(.cells #[.pointer (some ⟨q,0,none⟩)] 144 (0,0))) rfl;have HK:=za (zdv (h.pure hp) s hs);have HP:=za hp;clear h hp;go_enter func122,ntmps122;go_upto_region 1 with fail
 generalize w.alloc (.cells #[.pointer (some ⟨q,0,none⟩)] 144)=W1 at *;generalize w.heap.size=b at *;obtain⟨hb_0,hb_f,hb_l,H_hb⟩:=cr1 hb;clear hb
 go_wp2_with (go_at_call 128;refine HK.out.mono ?_;rintro e w' ⟨rfl,rfl⟩)
 go_ret;exact⟨rfl,HP.out⟩
theorem ZL{w:World}{d q p:Nat}{sv:Value}{Dl:Nat→Prop}{seed:Nat}{same:Bool}{L:List (Option Ent)}{Gs:List Grp}(h:ya Fo w d q p sv Dl seed same L Gs) :
  Calls prog 81 #[xr d] w fun e w'=>e=.returned (.bool false)∧w=w':=by
 have hb:=h.box;clear h;obtain⟨hb_0,hb_1,hb_2,hb_3,hb_f,hb_l,H_hb⟩:=cr4 hb;clear hb;go_enter func81,ntmps81;go_wp2;go_ret;exact⟨rfl,rfl⟩
theorem UZ{w:World}{d q p:Nat}{sv:Value}{Dl:Nat→Prop}{seed:Nat}{same:Bool}{L:List (Option Ent)}{Gs:List Grp}(h:ya Fo w d q p sv Dl seed same L Gs)(s:Nat)(hs:s≤4294967295) :
    Calls prog 130 #[xr d,.int .u32 s] w fun e w'=>e=.returned (.int .u64 (yh seed same L s:Nat))∧zb w w':=by
  have HK:=za (fun W (hW:zb w W)=>zc4 (h.log.pure hW) s hs);have HH:=za (fun W=>zcG seed same h.sd (yL L s) (by have:=zlc h.log s;omega) W);have e1:kL seed same (yL L s)=yh seed same L s:=rfl;rw[e1]at HH;have hb:=h.box;clear h e1;generalize yh seed same L s=r at *;obtain⟨hb_0,hb_1,hb_2,hb_3,hb_f,hb_l,H_hb⟩:=cr4 hb;clear hb;have hf:=hb_f;go_enter func130,ntmps130;go_upto_region 1 with fail
  go_region_held3 (fun w'=>w'.cell? ⟨d,0,none⟩=some (.pointer (some ⟨q,0,none⟩))∧w'.cell? ⟨d,1,none⟩=some (.int .u64 seed)∧w'.cell? ⟨d,2,none⟩=some (.bool same))
    (first | exact⟨hb_0,hb_1,hb_2⟩ | exact⟨hp1.cell (fun h=>h) hb_0,hp1.cell (fun h=>h) hb_1,hp1.cell (fun h=>h) hb_2⟩ | exact⟨(hp1.trans hp2).cell (fun h=>h) hb_0,(hp1.trans hp2).cell (fun h=>h) hb_1,(hp1.trans hp2).cell (fun h=>h) hb_2⟩)
    (first
      | (go_at_call 122;refine(HK.out _ (by exact y9)).mono ?_;rintro e w1 ⟨rfl,hp1⟩)
      | (go_at_call 120;refine(HH.out _).mono ?_;rintro e w2 ⟨rfl,hp2⟩))
  go_wp2;go_ret;exact⟨rfl,(Mod.of_drew hp1).trans hp2⟩
end
section
open Go.RowKit Go.Shelf
variable{Fo:Nat→Prop}
section
variable{w:World}{d q p:Nat}{sv:Value}{Dl:Nat→Prop}{seed:Nat}{same:Bool}{L:List (Option Ent)}{Gs:List Grp}
def Qm(w:World)(x:Nat × Bool)(e:Ending)(w':World):Prop :=
 e=.returned (.tuple #[.agg #[.int .i64 (x.1:Nat),.bool x.2],.int .i64 0])∧zb w w'
theorem Q3(h:ya Fo w d q p sv Dl seed same L Gs){x:Nat × Bool}(hx:jE Gs.length (zD Gs) (yi Gs)=some x):Calls prog 146 #[xr d] w (Qm w x):=by
  have hpow:=h.ix.ok.pow;have hle:=Qj h.ix.ok.grp;have HX:=za h.ix;have HG:=za (fun W=>zkG hpow hle W);rw[hx]at HG;dsimp only[zds]at HG;have hb:=h.box;have hp0:zb w (w.alloc (.cells #[.int .i64 0,.bool false] 224)):=(Mod.refl _ w).alloc _;have h2:=zk (w:=w) (o := .cells #[.int .i64 0,.bool false] 224 (0,0)) rfl;have hbb:=hp0.heap (fun h=>h) hb;have HP:=za hp0;replace HX:=za (HX.out.pure hp0);have HBX:=za hb;clear h hx hpow hle hp0 hb;obtain⟨x1,x2⟩:=x;dsimp only at HG;go_enter func146,ntmps146;go_upto_region 1 with fail
  generalize w.alloc (.cells #[.int .i64 0,.bool false] 224)=W1 at *;obtain⟨b,hbe⟩:=zf w.heap.size;rw[hbe]at h2 ⊢;have HB:=za hbe;clear hbe;have hdb:d≠b:=by have:=zm HBX.out;have:=HB.out;omega
  obtain⟨hbb_0,hbb_1,hbb_2,hbb_3,hbb_f,hbb_l,H_hbb⟩:=cr4 hbb;clear hbb;obtain⟨h2_0,h2_1,h2_f,h2_l,H_h2⟩:=cr2 h2;clear h2
  go_region_held3 (fun w'=>w'.cell? ⟨d,3,none⟩=some (.pointer (some ⟨p,0,none⟩)))
    (first | exact hbb_3 | exact hp1.cell (fun h=>h) hbb_3 | exact(Mod.set2 b 0 1 _ _).cell (fun e=>hdb e) (hp1.cell (fun h=>h) hbb_3))
    (first
      | (go_at_call 133;refine zq (Jn (HX.out.pure (by exact y9))) ?_;rintro e w1 ⟨rfl,rfl⟩)
      | (go_at_call 134;refine zq (za2 (HX.out.pure (by exact y9))) ?_;rintro e w1 ⟨rfl,rfl⟩)
      | (go_at_call 135;refine zq (Kq (HX.out.pure (by exact y9))) ?_;rintro e w1 ⟨rfl,rfl⟩)
      | (go_at_call 196;refine(HG.out _).mono ?_;rintro e w1 ⟨rfl,hp1⟩;have k0:=hp1.cell (fun h=>h) h2_0;have k1:=hp1.cell (fun h=>h) h2_1;have kf : ∀ j,w1.frozen? ⟨b,j,none⟩=false:=(fun j=>(hp1.cells.2 b j h2_l).trans (h2_f j));have kl:b<w1.heap.size:=hp1.lt h2_l))
  go_wp2;obtain⟨f1,y0,y1⟩:=jM (v0 := .int .i64 x1) (v1 := .bool x2) ((Mod.of_drew hp1).heap (fun h=>h) H_h2.out) (HP.out.trans (Mod.of_drew hp1)) (by have:=HB.out;omega) rfl;obtain⟨Y,hY⟩:=zf ((w1.setCell ⟨b,0,none⟩ (.int .i64 x1)).setCell ⟨b,1,none⟩ (.bool x2));rw[hY]at f1 y0 y1 ⊢;exact zR (v := .tuple #[.agg #[.int .i64 x1,.bool x2],.int .i64 0]) (by simp[results,results146,go_sem,y0,y1]) rfl ⟨rfl,f1⟩
theorem zlg(h:ya Fo w d q p sv Dl seed same L Gs):VU prog 130 #[xr d] #[] (yh seed same L) (fun _=>True) (fun W=>zb w W) w :=
 ⟨enters_of func130 (by kernel_rfl) rfl,fun s W hs _ hJ=>by
  have:=(yB (n:=0)).2 (UZ (h.pure hJ) s hs);simpa using this,fun s=>U8 seed same L s,fun A B hJ hm=>hJ.then hm (fun i hi e=>by omega),Mod.refl _ _⟩
def Uo(w:World)(p:Nat)(sv:Value)(p2:Nat)(sv2:Value):Prop:=(p2=p∧sv2=sv)∨(w.heap.size≤p2 ∧ ∀ k,sv2.ownBlock=some k→w.heap.size≤k)
def zhL(Fo:Nat→Prop)(w:World)(d q p:Nat)(sv:Value)(Dl:Nat→Prop)(seed:Nat)(same:Bool)(L:List (Option Ent))(Gs:List Grp)(x:Nat × Bool)(e:Ending)(w':World):Prop :=
 ∃ v p2 sv2,e=.returned v∧ya Fo w' d q p2 sv2 Dl seed same L (doG (yh seed same L) x Gs)∧Mod (fun k=>k=d) w w'∧Uo w p sv p2 sv2
theorem ya.reindex{w w1:World}{p2:Nat}{sv2:Value}{Gs2:List Grp}(h:ya Fo w d q p sv Dl seed same L Gs)(hp:zb w w1)(hx:yk w1 (fun k=>k=p2∨sv2.ownBlock=some k) p2 sv2 Gs2){Y:World}(hY:w1.setCell ⟨d,3,none⟩ (.pointer (some ⟨p2,0,none⟩))=Y) :
  ya Fo Y d q p2 sv2 Dl seed same L Gs2∧Mod (fun k=>k=d) w Y:=by
 subst hY;have h1:=h.pure hp;have hm:Mod (fun k=>k=d) w1 (w1.setCell ⟨d,3,none⟩ (.pointer (some ⟨p2,0,none⟩))):=Mod.set1 _ _ _;refine⟨⟨?_,h1.log.frame hm (fun k hk e=>by subst e;exact h1.nd hk) (fun k _ e cs fz e2=>by subst e;rw[h1.box]at e2;cases e2),hx.mod hm (fun k hk e => ?_),h.sd⟩,(Mod.of_pure hp).trans hm⟩
 ·have:=ug (j:=3) (v := .pointer (some ⟨p2,0,none⟩)) h1.box;simpa using this
 ·subst e;rcases hk with e | e
  ·have h2:=hx.box;rw[← e,h1.box]at h2;cases h2
  ·obtain⟨cc,e2⟩:=yd hx.row e;rw[h1.box]at e2;cases e2
theorem zby(h:ya Fo w d q p sv Dl seed same L Gs)(x:Nat × Bool)(hx:x.2=true→Pow x.1∧zD Gs≤8*x.1):Calls prog 136 #[xr d,.agg #[.int .i64 (x.1:Nat),.bool x.2]] w (zhL Fo w d q p sv Dl seed same L Gs x):=by
  obtain⟨x1,x2⟩:=x;have hp0:zb w (w.alloc (.cells #[.int .i64 x1,.bool x2] 224)):=(Mod.refl _ w).alloc _;have h2:=zk (w:=w) (o := .cells #[.int .i64 x1,.bool x2] 224 (0,0)) rfl;have HM:=za h
  cases x2 with
  | false =>
    have HP:=za hp0;clear h hx hp0;go_enter func136,ntmps136;go_upto_region 1 with fail
    generalize w.alloc (.cells #[.int .i64 x1,.bool false] 224)=W1 at *;generalize w.heap.size=b at *;obtain⟨h2_0,h2_1,h2_f,h2_l,H_h2⟩:=cr2 h2;clear h2;go_wp2;refine zR (v := .tuple #[]) (by simp[results,results136,go_sem]) rfl ?_;exact⟨_,p,sv,rfl,HM.out.pure HP.out,Mod.of_pure HP.out,.inl ⟨rfl,rfl⟩⟩
  | true =>
    obtain⟨k1,k2⟩:=hx rfl;have HR:=za (fun(W:World) (hW:zb w W)=>zic (h.pure hW).ix x1 k1 k2 (zlg (h.pure hW)) (fun _ _=>trivial));have HP:=za hp0;have hb:=hp0.heap (fun h=>h) h.box;clear h hx hp0 k1 k2;go_enter func136,ntmps136;go_upto_region 1 with fail
    generalize hW1:w.alloc (.cells #[.int .i64 x1,.bool true] 224)=W1 at *;clear hW1;obtain⟨b,hbe⟩:=zf w.heap.size;rw[hbe]at h2 ⊢;have HB:=za hbe;clear hbe;obtain⟨hb_0,hb_1,hb_2,hb_3,hb_f,hb_l,H_hb⟩:=cr4 hb;clear hb;obtain⟨h2_0,h2_1,h2_f,h2_l,H_h2⟩:=cr2 h2;clear h2;go_upto_region 3 with fail
    go_region_held3 (fun w'=>w'.cell? ⟨d,3,none⟩=some (.pointer (some ⟨p,0,none⟩))∧w'.cell? ⟨b,0,none⟩=some (.int .i64 x1))
      (first | exact⟨hb_3,h2_0⟩ | exact⟨hp1.cell (fun h=>h) hb_3,hp1.cell (fun h=>h) h2_0⟩)
      (first
        | (go_at_call 188;refine(HR.out _ (by have:=HP.out;exact y9)).mono ?_;rintro e w1 ⟨p2,sv2,rfl,hix,hp1,hl2,hs2,_,_⟩;have k3:=hp1.cell (fun h=>h) hb_3;have kf : ∀ j,w1.frozen? ⟨d,j,none⟩=false:=(fun j=>(hp1.cells.2 d j hb_l).trans (hb_f j));have kl:d<w1.heap.size:=hp1.lt hb_l))
    go_wp2;have hpw:=HP.out.trans (Mod.of_drew hp1);obtain⟨g1,g2⟩:=HM.out.reindex hpw hix rfl;refine zR (v := .tuple #[]) (by simp[results,results136,go_sem]) rfl ?_;have hl:w.heap.size≤W1.heap.size:=HP.out.size;exact⟨_,p2,sv2,rfl,g1,g2,.inr ⟨zF hl hl2,fun k hk=>zF hl (hs2 k hk)⟩⟩
def zi1(Fo:Nat→Prop)(w:World)(d q p:Nat)(sv:Value)(Dl:Nat→Prop)(seed:Nat)(same:Bool)(L:List (Option Ent))(Gs2:List Grp)(e:Ending)(w':World):Prop :=
 ∃ p2 sv2,e=.returned (.int .i64 0)∧ya Fo w' d q p2 sv2 Dl seed same L Gs2∧Mod (fun k=>k=d∨k=p∨sv.ownBlock=some k) w w'∧Uo w p sv p2 sv2
theorem zhU{w w3 w4 w5:World}{Gs1 Gs2:List Grp}{p2:Nat}{sv2:Value}(h:ya Fo w3 d q p2 sv2 Dl seed same L Gs1)(h4:zb w3 w4)(hx:yk w5 (fun k=>k=p2∨sv2.ownBlock=some k) p2 sv2 Gs2)(h5:Mod (fun k=>k=p2∨sv2.ownBlock=some k) w4 w5)
  (hm:Mod (fun k=>k=d) w w3) (hs:Uo w p sv p2 sv2):ya Fo w5 d q p2 sv2 Dl seed same L Gs2∧Mod (fun k=>k=d∨k=p∨sv.ownBlock=some k) w w5:=by
 have h1:=h.pure h4;refine⟨⟨h5.heap (fun hk => ?_) h1.box,h1.log.frame h5 (fun k hk e=>h1.nlp k hk e) (fun k _ e cs fz e2 => ?_),hx,h.sd⟩,?_⟩
 ·rcases hk with e | e
  ·exact h1.npd e.symm
  ·exact h1.nsd e
 ·rcases e with rfl | e
  ·rw[h1.ix.box]at e2;cases e2
  ·obtain⟨cc,e3⟩:=yd h1.ix.row e;rw[e3]at e2;cases e2
 ·have hm4:=hm.then h4 (fun _ _ h=>h.elim);refine Mod.trans' hm4 h5 (fun i _ e => .inl e) (fun i hi e => ?_);rcases hs with⟨rfl,rfl⟩ | ⟨g1,g2⟩
  ·exact .inr e
  ·rcases e with rfl | e
   ·omega
   ·have:=g2 _ e;omega
theorem zd1(h:ya Fo w d q p sv Dl seed same L Gs){x:Nat × Bool}(hx:jE Gs.length (zD Gs) (yi Gs)=some x)(hp:Pow x.1)(hu:zD Gs≤8*x.1){s:Nat}(hs:s≤4294967295){Gs2:List Grp}
    (hi:vJ (doG (yh seed same L) x Gs) (yh seed same L s) s=some Gs2):Calls prog 149 #[xr d,.int .u32 s] w (zi1 Fo w d q p sv Dl seed same L Gs2):=by
  have HPl:=za (Q3 h hx);have HDo:=za (fun(W:World) (hW:zb w W)=>zby (h.pure hW) x (fun _=>⟨hp,hu⟩));have HH:=za h;have HI:=za hi;have hsl:=U8 seed same L s;obtain⟨hh,hhe⟩:=zf (yh seed same L s);have HS:=za (fun(W:World) (p2:Nat) (sv2:Value) (Gs1:List Grp) (hW:ya Fo W d q p2 sv2 Dl seed same L Gs1)=>UZ hW s hs);rw[hhe]at HI hsl HS;have HHE:=za hhe;obtain⟨x1,x2⟩:=x;clear h hx hp hu hi hhe;unfold Qm at HPl;dsimp only at HPl HDo HI;go_enter func149,ntmps149;go_upto_region 2 with(go_at_call 146;refine HPl.out.mono ?_;rintro e w1 ⟨rfl,hp1⟩)
  have hpa:zb w1 (w1.alloc (.cells #[.int .i64 x1,.bool x2] 224)):=(Mod.refl _ w1).alloc _;have h5:=zk (w:=w1) (o := .cells #[.int .i64 x1,.bool x2] 224 (0,0)) rfl;have HP:=za (hp1.trans hpa);clear hp1 hpa HPl;generalize w1.alloc (.cells #[.int .i64 x1,.bool x2] 224)=W2 at *;generalize w1.heap.size=b5 at *;obtain⟨h5_0,h5_1,h5_f,h5_l,H_h5⟩:=cr2 h5;clear h5;go_upto_region 5 with(go_at_call 136;refine(HDo.out _ HP.out).mono ?_;rintro e w3 ⟨v,p2,sv2,rfl,hm3,hm,hsx⟩)
  have hsx':Uo w p sv p2 sv2:=by
    have:=HP.out.size;rcases hsx with h | ⟨g1,g2⟩
    · exact .inl h
    · exact .inr ⟨by omega,fun k hk=>by have:=g2 k hk;omega⟩
  have hmw:Mod (fun k=>k=d) w w3:=(Mod.of_pure HP.out).trans hm;have HM3:=za hm3;have HMW:=za hmw;have HSX:=za hsx';have hb:=hm3.box;clear h5_0 h5_1 h5_f h5_l;clear hm3 hm hsx hsx' hmw H_h5;generalize hGd:doG (yh seed same L) (x1,x2) Gs=Gs1 at *;clear hGd;obtain⟨hb_0,hb_1,hb_2,hb_3,hb_f,hb_l,H_hb⟩:=cr4 hb;clear hb;have HIN:=za (fun(W:World) (hW:zb w3 W)=>zbf (HM3.out.ix.pure hW) hh s hsl hs)
  go_region_held3 (fun w'=>w'.cell? ⟨d,3,none⟩=some (.pointer (some ⟨p2,0,none⟩)))
    (first | exact hb_3 | exact hp1.cell (fun h=>h) hb_3 | exact hm5.cell (fun e=>e.elim (fun e=>HM3.out.npd e.symm) (fun e=>HM3.out.nsd e)) (hp1.cell (fun h=>h) hb_3))
    (first
      | (go_at_call 130;refine zq (HS.out _ p2 sv2 Gs1 (HM3.out.pure (by exact y9))) ?_;rintro e w4 ⟨rfl,hp1⟩)
      | (go_at_call 197;refine(HIN.out _ (by exact y9)).mono ?_;rintro e w5 hq;unfold Y7 at hq;rw[HI.out]at hq;obtain⟨rfl,hx5,hm5⟩:=hq))
  go_wp2;go_ret;obtain⟨g1,g2⟩:=zhU HM3.out (Mod.of_drew hp1) hx5 hm5 HMW.out HSX.out;exact⟨p2,sv2,rfl,g1,g2,HSX.out⟩
end
end
section
open Go.RowKit Go.Shelf
variable{Fo:Nat→Prop}
section
variable{w:World}{d q p:Nat}{sv:Value}{Dl:Nat→Prop}{seed:Nat}{same:Bool}{L:List (Option Ent)}{Gs:List Grp}
theorem zjP(h:ya Fo w d q p sv Dl seed same L Gs){b b1:Nat}{key:ByteArray}(hb0:w.heap[b]? = some (.cells #[xr d] 91 (0,0)))(hb1:w.heap[b1]? = some (.cells #[.string key] 9 (0,0)))(s:Nat)(hs:s≤4294967295) :
    Calls prog 121 #[.int .u32 s,.pointer (some ⟨b,0,none⟩),.pointer (some ⟨b1,0,none⟩)] w fun e w'=>e=.returned (.bool (yL L s==key))∧zb w w':=by
  have HK:=za (fun W (hW:zb w W)=>zc4 (h.log.pure hW) s hs);have hb:=h.box;clear h;generalize yL L s=ks at *;obtain⟨hb_0,hb_1,hb_2,hb_3,hb_f,hb_l,H_hb⟩:=cr4 hb;clear hb;obtain⟨hb0_0,hb0_f,hb0_l,H_hb0⟩:=cr1 hb0;clear hb0;obtain⟨hb1_0,hb1_f,hb1_l,H_hb1⟩:=cr1 hb1;clear hb1;go_enter func121,ntmps121;go_upto_region 1 with fail
  go_region_held3 (fun w'=>w'.cell? ⟨d,0,none⟩=some (.pointer (some ⟨q,0,none⟩))∧w'.cell? ⟨b,0,none⟩=some (.pointer (some ⟨d,0,none⟩))∧w'.cell? ⟨b1,0,none⟩=some (.string key))
    (first | exact⟨hb_0,hb0_0,hb1_0⟩ | exact⟨hp1.cell (fun h=>h) hb_0,hp1.cell (fun h=>h) hb0_0,hp1.cell (fun h=>h) hb1_0⟩)
    (first
      | (go_at_call 122;refine(HK.out _ (by exact y9)).mono ?_;rintro e w1 ⟨rfl,hp1⟩))
  go_wp2;go_ret;exact⟨by rw[← zfC];rfl,Mod.of_drew hp1⟩
def uM(L:List (Option Ent))(key:ByteArray):Nat × Nat:=match yN L key with
 | some s=>(s,0)
 | none=>(0,9)
def Z6(w:World)(L:List (Option Ent))(key:ByteArray)(e:Ending)(w':World):Prop :=
 e=.returned (.tuple #[.int .u32 ((uM L key).1:Nat),.int .i64 ((uM L key).2:Nat)])∧zb w w'
theorem zcH(h:ya Fo w d q p sv Dl seed same L Gs)(hk:vS seed same L Gs)(key:ByteArray)(hkey:key.size≤140737488355328):Calls prog 74 #[xr d,.string key] w (Z6 w L key):=by
  have hp0:zb w ((w.alloc (.cells #[.pointer (some ⟨d,0,none⟩)] 91)).alloc (.cells #[.string key] 9)):=((Mod.refl _ w).alloc _).alloc _;have z2:=zK (o := .cells #[.string key] 9) (zk (w:=w) (o := .cells #[.pointer (some ⟨d,0,none⟩)] 91 (0,0)) rfl);have z3:=zk (w:=w.alloc (.cells #[.pointer (some ⟨d,0,none⟩)] 91)) (o := .cells #[.string key] 9 (0,0)) (n:=w.heap.size+1) (by simp);have HP:=za hp0;have HM:=za (h.pure hp0);have HZ:=za (ZL (h.pure hp0));have HSum:=za (fun W=>zcG seed same h.sd key hkey W);have hb:=(h.pure hp0).box;have HKE:=za hk;have hsl:kL seed same key<18446744073709551616:=zbw;clear h hk hp0;go_enter func74,ntmps74;go_upto_region 1 with fail
  generalize((w.alloc (.cells #[.pointer (some ⟨d,0,none⟩)] 91)).alloc (.cells #[.string key] 9))=W1 at *;obtain⟨b,hbe⟩:=zf w.heap.size;rw[hbe]at z2 z3 ⊢;have HB:=za hbe;clear hbe;have HSame:=za (fun(W:World) (hW:zb W1 W)=>(⟨enters_of func121 (by kernel_rfl) rfl,fun pre s W' hs hJ=>by
      have:=(yB (n:=0)).2 (zjP (HM.out.pure hJ) (hJ.heap (fun h=>h) z2) (hJ.heap (fun h=>h) z3) s hs);exact this.mono (fun e w' ⟨h1,h2⟩=>⟨h1,hJ.trans h2,xh.of_pure h2⟩),fun pre A B hJ hm=>hJ.then hm (fun i hi hs=>by have:=hs.1;have:=hW.size;omega),fun _ h=>h.elim,hW⟩ :
    uz prog 121 #[.pointer (some ⟨b,0,none⟩),.pointer (some ⟨b+1,0,none⟩)] (fun _ s=>yL L s==key) (fun _=>False) (fun _ W'=>zb W1 W') W))
  have HF:=za (fun(W:World) (hW:zb W1 W)=>zeg (HM.out.ix.pure hW) _ hsl (HSame.out W hW));obtain⟨hh,hhe⟩:=zf (kL seed same key);rw[hhe]at HF HSum hsl;have HHE:=za hhe;clear hhe HSame;obtain⟨hb_0,hb_1,hb_2,hb_3,hb_f,hb_l,H_hb⟩:=cr4 hb;clear hb;obtain⟨z2_0,z2_f,z2_l,H_z2⟩:=cr1 z2;clear z2;obtain⟨z3_0,z3_f,z3_l,H_z3⟩:=cr1 z3;clear z3;go_upto_region 3 with(go_at_call 81;refine HZ.out.mono ?_;rintro e w' ⟨rfl,rfl⟩)
  go_region_held3 (fun w'=>w'.cell? ⟨d,3,none⟩=some (.pointer (some ⟨p,0,none⟩))∧w'.cell? ⟨d,1,none⟩=some (.int .u64 seed)∧w'.cell? ⟨d,2,none⟩=some (.bool same)∧w'.cell? ⟨b,0,none⟩=some (.pointer (some ⟨d,0,none⟩))∧w'.cell? ⟨b+1,0,none⟩=some (.string key))
    (first | exact⟨hb_3,hb_1,hb_2,z2_0,z3_0⟩ | exact⟨hp1.cell (fun h=>h) hb_3,hp1.cell (fun h=>h) hb_1,hp1.cell (fun h=>h) hb_2,hp1.cell (fun h=>h) z2_0,hp1.cell (fun h=>h) z3_0⟩ | exact⟨(hp1.trans hp2).cell (fun h=>h) hb_3,(hp1.trans hp2).cell (fun h=>h) hb_1,(hp1.trans hp2).cell (fun h=>h) hb_2,(hp1.trans hp2).cell (fun h=>h) z2_0,(hp1.trans hp2).cell (fun h=>h) z3_0⟩)
    (first
      | (go_at_call 120;refine(HSum.out _).mono ?_;rintro e w1 ⟨rfl,hp1⟩)
      | (go_at_call 119;refine(HF.out _ (by exact y9)).mono ?_;rintro e w2 hq;have he:=HKE.out.find (by rw[HHE.out];exact hq);have hp2:zb w1 w2:=Mod.mono hq.1 (fun k _ ⟨_,_,_,_,hf⟩=>hf);have he2:e=.returned (.tuple #[.int .u32 ((uM L key).1:Nat),.int .i64 ((uM L key).2:Nat)]):=(by rw[he];unfold uM;cases yN L key<;>rfl);clear hq he;subst he2))
  go_wp2
  all_goals
    go_ret2;exact⟨rfl,HP.out.trans ((Mod.of_drew hp1).trans hp2)⟩
def yc(Fo:Nat→Prop)(w:World)(D:Nat→Prop)(d seed:Nat)(same:Bool)(L:List (Option Ent))(Gs:List Grp):Prop :=
 ∃ q p sv Dl,ya Fo w d q p sv Dl seed same L Gs∧vS seed same L Gs ∧ ∀ k,D k↔jO d Dl p sv k
section
variable{w w':World}{D S:Nat→Prop}{d seed:Nat}{same:Bool}{L:List (Option Ent)}{Gs:List Grp}
theorem yc.pure(h:yc Fo w D d seed same L Gs)(hp:zb w w'):yc Fo w' D d seed same L Gs:=by
 obtain⟨q,p,sv,Dl,h1,h2,h3⟩:=h;exact⟨q,p,sv,Dl,h1.pure hp,h2,h3⟩
theorem yc.lt(h:yc Fo w D d seed same L Gs){k:Nat}(hk:D k):k<w.heap.size:=by
 obtain⟨q,p,sv,Dl,h1,h2,h3⟩:=h;exact h1.lt ((h3 k).1 hk)
theorem yc.types(h:yc Fo w D d seed same L Gs){k:Nat}(hk:D k){cs:Array Value}{T:TypeId}{fz:Nat × Nat}(e:w.heap[k]? = some (.cells cs T fz)) :
  T=147∨T=262∨T=70∨T=257∨T=260:=by
 obtain⟨q,p,sv,Dl,h1,h2,h3⟩:=h;exact h1.types ((h3 k).1 hk) e
theorem yc.frame(h:yc Fo w D d seed same L Gs)(hm:Mod S w w')(hD : ∀ k,D k → ¬ S k)(hS : ∀ k,k<w.heap.size→S k → ∀ cs fz,w.heap[k]? ≠ some (.cells cs 5 fz)):yc Fo w' D d seed same L Gs:=by
 obtain⟨q,p,sv,Dl,h1,h2,h3⟩:=h;exact⟨q,p,sv,Dl,h1.frame hm (fun k hk=>hD k ((h3 k).2 hk)) hS,h2,h3⟩
theorem yc.flt(h:yc Fo w D d seed same L Gs) : ∀ k,Fo k→k<w.heap.size:=by
 obtain⟨q,p,sv,Dl,h1,h2,h3⟩:=h;exact h1.log.flt
theorem yc.frameF(h:yc Fo w D d seed same L Gs)(hm:Mod S w w')(hD : ∀ k,D k → ¬ S k)(hS : ∀ k,k<w.heap.size→S k→Fo k ∨ ∀ cs fz,w.heap[k]? ≠ some (.cells cs 5 fz)):yc Fo w' D d seed same L Gs:=by
 obtain⟨q,p,sv,Dl,h1,h2,h3⟩:=h;exact⟨q,p,sv,Dl,h1.frameF hm (fun k hk=>hD k ((h3 k).2 hk)) hS,h2,h3⟩
theorem yc.refo{Fo':Nat→Prop}(h:yc Fo w D d seed same L Gs)(hm:zb w w')(h1 : ∀ k,Fo' k→Fo k∨w.heap.size≤k)(h2 : ∀ k,Fo' k→k<w'.heap.size):yc Fo' w' D d seed same L Gs:=by
 obtain⟨q,p,sv,Dl,h3,h4,h5⟩:=h;exact⟨q,p,sv,Dl,h3.refo hm h1 h2,h4,h5⟩
theorem yc.sd(h:yc Fo w D d seed same L Gs):seed<18446744073709551616:=by
 obtain⟨q,p,sv,Dl,h1,h2,h3⟩:=h;exact h1.sd
theorem yc.ok(h:yc Fo w D d seed same L Gs):VH L:=by
 obtain⟨q,p,sv,Dl,h1,h2,h3⟩:=h;exact h1.log.ok
theorem yc.keeps(h:yc Fo w D d seed same L Gs):vS seed same L Gs:=by
 obtain⟨q,p,sv,Dl,h1,h2,h3⟩:=h;exact h2
theorem Uk(h:yc Fo w D d seed same L Gs)(key:ByteArray)(hkey:key.size≤140737488355328):Calls prog 74 #[xr d,.string key] w (Z6 w L key):=by
 obtain⟨q,p,sv,Dl,h1,h2,h3⟩:=h;exact zcH h1 h2 key hkey
def ziz(Fo:Nat→Prop)(w:World)(seed:Nat)(same:Bool)(e:Ending)(w':World):Prop :=
 ∃ d D,e=.returned (xr d)∧yc Fo w' D d seed same [] (xt 1)∧zb w w' ∧ ∀ k,D k→w.heap.size≤k
theorem zlo(seed:Nat)(same:Bool)(hs:seed<18446744073709551616)(w:World)(hFo : ∀ k,Fo k→k<w.heap.size):Calls prog 56 #[.agg #[.int .u64 seed,.bool same]] w (ziz Fo w seed same):=by
  have hp0:zb w (w.alloc (.cells #[.int .u64 seed,.bool same] 123)):=(Mod.refl _ w).alloc _;have z1:=zk (w:=w) (o := .cells #[.int .u64 seed,.bool same] 123 (0,0)) rfl;have HN:=za (fun W=>zcL 1 W ⟨0,by decide,rfl⟩);have HL:=za (fun W (hW:w.heap.size≤W.heap.size)=>zjR (Fo:=Fo) W (fun k hk=>vh (hFo k hk) hW));have HP:=za hp0;clear hp0 hFo;go_enter func56,ntmps56;go_upto_region 1 with fail
  generalize w.alloc (.cells #[.int .u64 seed,.bool same] 123)=W1 at *;obtain⟨b,hbe⟩:=zf w.heap.size;rw[hbe]at z1 ⊢;have HB:=za hbe;clear hbe;go_upto_region 2 with(go_at_call 101;refine(HN.out _).mono ?_;rintro e w2 ⟨p,sv,rfl,hix,hp2,hl2,hs2⟩)
  have zz1:=hp2.heap (fun h=>h) z1;have HIX:=za hix;clear hix;obtain⟨zz1_0,zz1_1,zz1_f,zz1_l,H_zz1⟩:=cr2 zz1;clear zz1
  go_region_held3 (fun w'=>w'.cell? ⟨b,0,none⟩=some (.int .u64 seed)∧w'.cell? ⟨b,1,none⟩=some (.bool same))
    (first | exact⟨zz1_0,zz1_1⟩ | exact⟨hp3.cell (fun h=>h) zz1_0,hp3.cell (fun h=>h) zz1_1⟩ | exact⟨(hp3.alloc _).cell (fun h=>h) zz1_0,(hp3.alloc _).cell (fun h=>h) zz1_1⟩)
    (first
      | (go_at_call 102;refine(HL.out _ (by have h1:=HP.out.size;have h2:=hp2.size;simp at h1 h2 ⊢;omega)).mono ?_;rintro e w3 ⟨rfl,hlog,hp3,hlt3⟩;dsimp only[qL]at *))
  go_wp2;go_ret;have hp3':zb w2 w3:=Mod.of_drew hp3;have hq:=zk (w:=w3) (o := .cells #[.pointer (some ⟨w2.heap.size,0,none⟩),.int .u64 seed,.bool same,.pointer (some ⟨p,0,none⟩)] 147 (0,0)) rfl;have hpq:zb w3 (w3.alloc (.cells #[.pointer (some ⟨w2.heap.size,0,none⟩),.int .u64 seed,.bool same,.pointer (some ⟨p,0,none⟩)] 147)):=(Mod.refl _ w3).alloc _;have hw:w.heap.size≤W1.heap.size:=HP.out.size;have hw2:W1.heap.size≤w2.heap.size:=hp2.size;have hw3:w2.heap.size≤w3.heap.size:=hp3'.size;refine⟨w3.heap.size,jO w3.heap.size (fun k=>k=w2.heap.size) p sv,rfl,⟨w2.heap.size,p,sv,fun k=>k=w2.heap.size,⟨hq,hlog.pure hpq,HIX.out.pure (hp3'.trans hpq),hs⟩,vS.new seed same,fun _=>xZ⟩,(HP.out.trans hp2).trans (hp3'.trans hpq),?_⟩;rintro k (rfl | rfl | rfl | e)
  · omega
  · omega
  · omega
  · have:=hs2 k e;omega
end
end
end
section
open Go.RowKit Go.Shelf
variable{Fo:Nat→Prop}
section
variable{w w':World}{D S:Nat→Prop}{d seed:Nat}{same:Bool}{L:List (Option Ent)}{Gs:List Grp}
theorem zfZ{q:Nat}{Dl:Nat→Prop}(h:yg Fo w Dl q L):Calls prog 147 #[.agg #[.pointer (some ⟨q,0,none⟩)]] w fun e w'=>e=.returned (.bool (decide (4194304≤(L.length:Int))))∧zb w w':=by
 have hp:zb w (w.alloc (.cells #[.pointer (some ⟨q,0,none⟩)] 144)):=(Mod.refl _ w).alloc _;have hb:=zk (w:=w) (o:=(.cells #[.pointer (some ⟨q,0,none⟩)] 144 (0,0))) rfl;have HK:=za (zaN (h.pure hp));have HP:=za hp;clear h hp;go_enter func147,ntmps147;go_upto_region 1 with fail
 generalize w.alloc (.cells #[.pointer (some ⟨q,0,none⟩)] 144)=W1 at *;generalize w.heap.size=b at *;obtain⟨hb_0,hb_f,hb_l,H_hb⟩:=cr1 hb;clear hb
 go_wp2_with (go_at_call 168;refine HK.out.mono ?_;rintro e w' ⟨rfl,rfl⟩)
 go_ret;exact⟨rfl,HP.out⟩
def zdQ(Fo:Nat→Prop)(w:World)(D:Nat→Prop)(d seed:Nat)(same:Bool)(L:List (Option Ent))(Gs:List Grp)(x:Ent)(e:Ending)(w':World):Prop :=
 e=.returned (.tuple #[.int .u32 L.length,.int .i64 0]) ∧ ∃ D',yc Fo w' D' d seed same (L++[some x]) (j7 (yh seed same (L++[some x])) Gs L.length)∧Mod D w w'∧vO D D' w
theorem KW{q p:Nat}{sv:Value}{Dl Dl2:Nat→Prop}{w2 w3:World}{L2:List (Option Ent)}(h:ya Fo w2 d q p sv Dl seed same L Gs)(hl:yg Fo w3 Dl2 q L2)(hm:Mod Dl w2 w3):ya Fo w3 d q p sv Dl2 seed same L2 Gs :=
 ⟨hm.heap h.nd h.box,hl,h.ix.mod hm (fun k hk e=>h.nlp k e hk),h.sd⟩
theorem zhj(h:yc Fo w D d seed same L Gs)(x:Ent)(hok:x.Ok)(hL:L.length<4194304)(hf:yN L x.key=none)(a:Option Addr)(n c:Nat)(hx:zr w (.slice a n c) 1 (zJ x.val)) :
    Calls prog 89 #[xr d,.agg #[.string x.key,.slice a n c,.int .u64 x.dl,.int .u64 x.birth]] w (zdQ Fo w D d seed same L Gs x):=by
  obtain⟨q,p,sv,Dl,h1,h2,h3⟩:=h;have HH:=za h1;have HK:=za h2;have HD:=za h3;have HX:=za hx;have HO:=za hok;have hp0:zb w (w.alloc (.cells #[.string x.key,.slice a n c,.int .u64 x.dl,.int .u64 x.birth] 70)):=(Mod.refl _ w).alloc _;have z3:=zk (w:=w) (o := .cells #[.string x.key,.slice a n c,.int .u64 x.dl,.int .u64 x.birth] 70 (0,0)) rfl;have HP:=za hp0;have HZ:=za (ZL (h1.pure hp0));have hn:n≤65536:=by have:=jY hx;rw[ur]at this;have:=hok.v1;omega
  have hb:(x.birth==0)=false:=by have:=hok.b0;simp;omega
  have HN:=za (zbF x.key a n c x.dl x.birth (zJ x.val) _ (hx.frame hp0 (fun _ _ h=>h)) hn hok.k0 hok.k1 hb);have HFd:=za (fun(W:World) (hW:zb w W)=>zcH (h1.pure hW) h2 x.key (by have:=hok.k1;omega));obtain⟨i1,i2⟩:=h2.insert hf (by omega);obtain⟨y,k1,k2,k3,k4,k5,k6,k7,k8⟩:=i1.put (by rw[h2.used];have:=Je L;omega) (s:=L.length) (by omega) (fun c=>by have:=VN c;omega);have HPl:=za (fun(W:World) (hW:zb w W)=>Q3 (h1.pure hW) k1);have HFu:=za (fun(W:World) (hW:zb w W)=>zfZ (h1.log.pure hW));have HApp:=za (fun(W:World) (hW:zb w W) (a2:Option Addr) (n2 c2:Nat) (hr:zr W (.slice a2 n2 c2) 1 (zJ x.val))=>ziq (h1.log.pure hW) hL x hok a2 n2 c2 hr);have HPut:=za (fun(W:World) (Dl2:Nat→Prop) (hW:ya Fo W d q p sv Dl2 seed same (L++[some x]) Gs)=>zd1 hW k1 k2 k3 (s:=L.length) (by omega) k6);have HI2:=za i2;have e1:uM L x.key=(0,9):=by unfold uM;rw[hf]
  unfold Z6 Qm at *;rw[e1]at HFd;dsimp only at HFd;have hfull:decide ((4194304:Int)≤(L.length:Int))=false:=zU (by omega);rw[hfull]at HFu;obtain⟨y1,y2⟩:=y;dsimp only at HPl;unfold zcn at HApp;clear h1 h2 h3 hx hok hp0 hn hb i1 i2 k1 k2 k3 k4 k5 k6 k7 k8 e1 hf hfull;go_enter func89,ntmps89;go_upto_region 1 with fail
  generalize w.alloc (.cells #[.string x.key,.slice a n c,.int .u64 x.dl,.int .u64 x.birth] 70)=W1 at *;obtain⟨b3,hb3⟩:=zf w.heap.size;rw[hb3]at z3 ⊢;have HB3:=za hb3;clear hb3;obtain⟨z3_0,z3_1,z3_2,z3_3,z3_f,z3_l,H_z3⟩:=cr4 z3;clear z3;go_upto_region 4 with(first
    | (go_at_call 81;refine HZ.out.mono ?_;rintro e w' ⟨rfl,rfl⟩)
    | (go_at_call 145;refine HN.out.mono ?_;rintro e w2 ⟨a2,n2,c2,rfl,hr2,hf2,hp2⟩))
  have hpo:zb w2 (w2.alloc (.cells #[.string x.key,.slice a2 n2 c2,.int .u64 x.dl,.int .u64 x.birth] 70)):=(Mod.refl _ w2).alloc _;have z6:=zk (w:=w2) (o := .cells #[.string x.key,.slice a2 n2 c2,.int .u64 x.dl,.int .u64 x.birth] 70 (0,0)) rfl;have HR:=za (zz (qD hr2) hpo (fun _ _ h=>h));have zz3:=(hp2.trans hpo).heap (fun h=>h) H_z3.out;replace HP:=za ((HP.out.trans hp2).trans hpo);have hb6:b3<w2.heap.size:=vh z3_l hp2.size;clear z3_0 z3_1 z3_2 z3_3 z3_f z3_l;clear H_z3 hr2 hf2 hp2 hpo HN HZ;generalize w2.alloc (.cells #[.string x.key,.slice a2 n2 c2,.int .u64 x.dl,.int .u64 x.birth] 70)=W3 at *;generalize w2.heap.size=b6 at *;obtain⟨zz3_0,zz3_1,zz3_2,zz3_3,zz3_f,zz3_l,H_zz3⟩:=cr4 zz3;clear zz3;obtain⟨z6_0,z6_1,z6_2,z6_3,z6_f,z6_l,H_z6⟩:=cr4 z6;clear z6;go_upto_region 9 with(go_at_call 74;refine(HFd.out _ HP.out).mono ?_;rintro e w4 ⟨rfl,hp4⟩)
  go_upto_region 10 with(go_at_call 146;refine(HPl.out _ (HP.out.trans hp4)).mono ?_;rintro e w5 ⟨rfl,hp5⟩)
  have hp6:zb w5 (w5.alloc (.cells #[.int .i64 y1,.bool y2] 224)):=(Mod.refl _ w5).alloc _;have hp36:=(hp4.trans hp5).trans hp6;have zz6:=hp36.heap (fun h=>h) H_z6.out;replace HR:=za (zz HR.out hp36 (fun _ _ h=>h));replace HP:=za (HP.out.trans hp36);clear zz3_0 zz3_1 zz3_2 zz3_3 zz3_f zz3_l;clear z6_0 z6_1 z6_2 z6_3 z6_f z6_l;clear H_zz3 H_z6 hp4 hp5 hp6 hp36 HFd HPl;generalize w5.alloc (.cells #[.int .i64 y1,.bool y2] 224)=W6 at *;obtain⟨b10,hb10⟩:=zf w5.heap.size;rw[hb10];clear hb10;have hb:=(HH.out.pure HP.out).box;obtain⟨hb_0,hb_1,hb_2,hb_3,hb_f,hb_l,H_hb⟩:=cr4 hb;clear hb;obtain⟨zz6_0,zz6_1,zz6_2,zz6_3,zz6_f,zz6_l,H_zz6⟩:=cr4 zz6;clear zz6;go_upto_region 12 with(go_at_call 147;refine(HFu.out _ HP.out).mono ?_;rintro e w7 ⟨rfl,hp7⟩)
  have k0:=hp7.cell (fun h=>h) hb_0;have k1:=hp7.cell (fun h=>h) zz6_0;have k2:=hp7.cell (fun h=>h) zz6_1;have k3:=hp7.cell (fun h=>h) zz6_2;have k4:=hp7.cell (fun h=>h) zz6_3;replace HR:=za (zW.read (zz HR.out hp7 (fun _ _ h=>h)) (uQ _));replace HP:=za (HP.out.trans hp7);have HA:=za (fun(W:World) (hW:zb w7 W)=>HApp.out W (HP.out.trans hW) a2 n2 c2 (HR.out.frame hW (fun _ _ h=>h)));have nD : ∀ k,Dl k→k<w.heap.size:=fun k hk=>HH.out.log.lt hk
  have hwb:w.heap.size=b3:=HB3.out;have ND:=za nD;clear nD;clear hb_0 hb_1 hb_2 hb_3 hb_f hb_l;clear zz6_0 zz6_1 zz6_2 zz6_3 zz6_f zz6_l;clear H_hb H_zz6 hp7 HApp HFu
  go_region_held3 (fun w'=>w'.cell? ⟨d,0,none⟩=some (.pointer (some ⟨q,0,none⟩))∧w'.cell? ⟨b6,0,none⟩=some (.string x.key)∧w'.cell? ⟨b6,1,none⟩=some (.slice a2 n2 c2)∧w'.cell? ⟨b6,2,none⟩=some (.int .u64 x.dl)∧w'.cell? ⟨b6,3,none⟩=some (.int .u64 x.birth))
    (first | exact⟨k0,k1,k2,k3,k4⟩ | exact⟨hm8.cell HH.out.nd k0,hm8.cell (fun e=>by have:=ND.out _ e;dsimp only at this;omega) k1,hm8.cell (fun e=>by have:=ND.out _ e;dsimp only at this;omega) k2,hm8.cell (fun e=>by have:=ND.out _ e;dsimp only at this;omega) k3,hm8.cell (fun e=>by have:=ND.out _ e;dsimp only at this;omega) k4⟩)
    (first
      | (go_at_call 148;refine(HA.out _ (by exact y9)).mono ?_;rintro e w8 ⟨rfl,Dl2,hl8,hm8,hg8⟩))
  have hm8':Mod Dl w7 w8:=Mod.of_drew hm8;have HM8:=za (KW (HH.out.pure HP.out) hl8 hm8');have hP8:Mod Dl w w8:=(Mod.of_pure HP.out).trans hm8';have HM:=za hP8;have HG8:=za hg8;have HL8:=za hl8;clear hm8 hm8' hP8 hg8 hl8 k0 k1 k2 k3 k4
  go_wp2_with (go_at_call 149;refine(HPut.out _ _ HM8.out).mono ?_;rintro e w9 ⟨p2,sv2,rfl,hm9,hmod9,hsx9⟩)
  go_ret2;have h78:w.heap.size≤w8.heap.size:=HM.out.size;refine⟨rfl,jO d Dl2 p2 sv2,⟨q,p2,sv2,Dl2,hm9,HI2.out,fun _=>xZ⟩,?_,?_⟩
  · refine HM.out.trans' hmod9 (fun i _ hi=>(HD.out i).2 (.inr (.inl hi))) (fun i _ hi=>(HD.out i).2 ?_)
    rcases hi with e | e | e
    · exact .inl e
    · exact .inr (.inr (.inl e))
    · exact .inr (.inr (.inr e))
  · have hg9 : ∀ k,Dl2 k→Dl k∨w.heap.size≤k:=fun k hk=>by
      rcases HG8.out k hk with e | e
      · exact .inl e
      · exact .inr (by have:=HP.out.size;simp at e;omega)
    rintro k (e | e | e | e)
    · exact .inl ((HD.out k).2 (.inl e))
    · rcases hg9 k e with e | e
      · exact .inl ((HD.out k).2 (.inr (.inl e)))
      · exact .inr e
    · rcases hsx9 with⟨g1,g2⟩ | ⟨g1,g2⟩
      · exact .inl ((HD.out k).2 (.inr (.inr (.inl (e.trans g1)))))
      · exact .inr (by omega)
    · rcases hsx9 with⟨g1,g2⟩ | ⟨g1,g2⟩
      · exact .inl ((HD.out k).2 (.inr (.inr (.inr (g2 ▸ e)))))
      · exact .inr (by have:=g2 _ e;omega)
end
end
section
open Go.RowKit Go.Shelf
variable{Fo:Nat→Prop}
theorem zjl{L:List (Option Ent)}{s t:Nat}(h:t≠s):yL (L.set s none) t=yL L t:=by
 unfold yL;rw[yw (fun e=>h e.symm)]
theorem JW(L:List (Option Ent))(s t:Nat):ua (L.set s none) t↔t≠s∧ua L t:=by
 unfold ua;by_cases h:t=s
 ·subst h;simp only[ne_eq,not_true_eq_false,false_and,iff_false];rintro⟨e,he⟩;rw[XN]at he;simp at he
 ·rw[yw (fun e=>h e.symm)];simp[h]
theorem zfT{L:List (Option Ent)}(h:YZ L)(s:Nat):YZ (L.set s none):=by
 intro a b e f ha hb hk;have h1:=(JW L s a).1 ⟨e,ha⟩;have h2:=(JW L s b).1 ⟨f,hb⟩;rw[yw (fun e=>h1.1 e.symm)]at ha;rw[yw (fun e=>h2.1 e.symm)]at hb;exact h a b e f ha hb hk
theorem VW : ∀ {L:List (Option Ent)} {s:Nat} {x:Ent},L[s]? = some (some x)→yb (L.set s none)+1=yb L
 | [],s,x,h=>by simp at h
 | o::L,0,x,h=>by
  simp at h;subst h;simp[yb]
 | o::L,s+1,x,h=>by
  have:=VW (L:=L) (s:=s) (x:=x) (by simpa using h);simp only[List.set_cons_succ,yb,List.countP_cons]at this ⊢;omega
def uu(H:Nat→Nat)(Gs:List Grp)(s:Nat):List Grp:=match uo Gs (H s) (fun x=>x==s)with
 | some x=>vR Gs x.1 x.2
 | none=>Gs
def YG(H H':Nat→Nat)(Gs:List Grp)(s:Nat):List Grp:=doG H' (uC (uu H Gs s).length (zD (uu H Gs s))) (uu H Gs s)
theorem vS.remove{seed:Nat}{same:Bool}{L:List (Option Ent)}{Gs:List Grp}(h:vS seed same L Gs){s:Nat}{x:Ent}(hx:L[s]? = some (some x)) :
  (∃ i j,uo Gs (yh seed same L s) (fun y=>y==s)=some (i,j)∧uu (yh seed same L) Gs s=vR Gs i j)∧xw (uu (yh seed same L) Gs s) ∧
   ((uC (uu (yh seed same L) Gs s).length (zD (uu (yh seed same L) Gs s))).2=true→Pow (uC (uu (yh seed same L) Gs s).length (zD (uu (yh seed same L) Gs s))).1∧zD (uu (yh seed same L) Gs s)≤8*(uC (uu (yh seed same L) Gs s).length (zD (uu (yh seed same L) Gs s))).1) ∧
   vS seed same (L.set s none) (YG (yh seed same L) (yh seed same (L.set s none)) Gs s):=by
 obtain⟨i,j,h1,h2⟩:=h.holds.find_some (s:=s) ⟨x,hx⟩;have ht:uu (yh seed same L) Gs s=vR Gs i j:=by unfold uu;rw[h1]
 obtain⟨c1,c2,c3⟩:=UY h.holds.ok h2;have h3:=h.holds.del h2;have h4:yC (yh seed same (L.set s none)) (ua (L.set s none)) (vR Gs i j) :=
  (h3.congr (fun t ht=>by unfold yh;rw[zjl ht.1])).of_iff (fun t=>(JW L s t).symm)
 unfold YG;rw[ht];obtain⟨p1,p2,p3⟩:=zli (g:=(vR Gs i j).length) (live:=zD (vR Gs i j)) c3.pow;have hle:=zbP c3;have hu:zD (vR Gs i j)≤8*(uC (vR Gs i j).length (zD (vR Gs i j))).1:=by
  cases hb:(uC (vR Gs i j).length (zD (vR Gs i j))).2 with
  | true=>exact qZ (p2 hb)
  | false=>rw[p3 hb];exact hle
 obtain⟨k1,k2,k3⟩:=h4.do p1 hu p3;refine⟨⟨i,j,h1,rfl⟩,c3,fun _=>⟨p1,hu⟩,k1,zfT h.keys s,?_⟩;rw[k2];have:=VW hx;have:=h.used;omega
theorem Xa{X Y:World}{b:Nat}{u0 u1 u2 u3 v0 v1 v2 v3:Value}{T:TypeId}(h:X.heap[b]? = some (.cells #[u0,u1,u2,u3] T (0,0)))
  (hY:(((X.setCell ⟨b,0,none⟩ v0).setCell ⟨b,1,none⟩ v1).setCell ⟨b,2,none⟩ v2).setCell ⟨b,3,none⟩ v3=Y):Mod (fun k=>k=b) X Y∧Y.heap[b]? = some (.cells #[v0,v1,v2,v3] T (0,0)):=by
 subst hY;refine⟨((((Mod.set1 b 0 v0).trans (Mod.set1 b 1 v1)).trans (Mod.set1 b 2 v2)).trans (Mod.set1 b 3 v3)),?_⟩;have h1:=ug (j:=0) (v:=v0) h;have h2:=ug (j:=1) (v:=v1) h1;have h3:=ug (j:=2) (v:=v2) h2;have h4:=ug (j:=3) (v:=v3) h3;simpa using h4
section
variable{w w':World}{D S:Nat→Prop}{d seed:Nat}{same:Bool}{L:List (Option Ent)}{Gs:List Grp}
def zd7(Fo:Nat→Prop)(w:World)(D:Nat→Prop)(d seed:Nat)(same:Bool)(L:List (Option Ent))(Gs:List Grp)(s:Nat)(x:Ent)(e:Ending)(w':World):Prop :=
 ∃ a n c,e=.returned (.tuple #[.agg #[.string x.key,.slice a n c,.int .u64 x.dl,.int .u64 x.birth],.int .i64 0])∧zW w' (.slice a n c) (zJ x.val)∧xK w (.slice a n c) ∧
  ∃ D',yc Fo w' D' d seed same (L.set s none) (YG (yh seed same L) (yh seed same (L.set s none)) Gs s)∧Mod D w w'∧vO D D' w
end
end
end Go.Proofs.YtifbnponicgplaaGreatDoor
