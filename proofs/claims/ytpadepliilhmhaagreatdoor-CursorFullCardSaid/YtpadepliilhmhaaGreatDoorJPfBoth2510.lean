/- Lemmas and contracts of functions. No condition. -/
import Derived.Test.YtpadepliilhmhaaGreatDoorJPfBoth257
import Derived.OwnWalk
import Derived.Test.YtpadepliilhmhaaGreatDoorJPfBoth256
namespace Go.Proofs.YtpadepliilhmhaaGreatDoor
open _root_.Go.Proofs.Tryz
set_option maxRecDepth 100000
set_option maxHeartbeats 20000000
set_option linter.all false
section
open Go.RowKit Go.Shelf
attribute [local go_sem] Oper.semAt_some
theorem qT{w:World}{p:Nat}{a:Option Addr}{n c:Nat}(hc:w.cell? ⟨p,0,none⟩=some (.slice a n c))(hn:0<n)(hn2:n≤1048576) :
  Calls prog 142 #[.pointer (some ⟨p,0,none⟩)] w fun e w'=>e=.returned (.bool false)∧w=w':=by
 have h0:((n:Int)==0)=false:=by simp;omega
 have wn:IntKind.i64.wrap (n:Int)=n:=zo _ (by omega);go_enter func142,ntmps142;go_wp2;go_ret;exact⟨rfl,rfl⟩
def xC(c:Grp):Nat:=c.1.findIdx (fun x=>decide (128≤x))
def kj(Gs:List Grp)(tag slot:Nat):List Nat→Option (List Grp)
 | []=>none
 | i::r=>if xC (zk Gs i)=8 then kj Gs tag slot r else some (yw Gs i (xC (zk Gs i)) tag slot)
def vw(Gs:List Grp)(sum slot:Nat):Option (List Grp):=kj Gs (sum%128) slot (xF (sum/128) Gs.length)
theorem Vq{Gs:List Grp}{tag slot:Nat} : ∀(pre post:List Nat),(∀ k∈pre,xC (zk Gs k)=8)→kj Gs tag slot (pre++post)=kj Gs tag slot post
 | [],_,_=>rfl
 | k::pre,post,h=>by
  simp only[List.cons_append,kj];rw[zh (h k (by simp)),Vq pre post (fun k' h'=>h k' (by simp[h']))]
theorem Kh{l:List Nat}(h:jW l){j:Nat}(hj:l.findIdx (fun x=>decide (128≤x))=j)(hj8:j<8):l[j]? = some 128∨l[j]? = some 254:=by
 have hlt:l.findIdx (fun x=>decide (128≤x))<l.length:=by rw[hj,h.1];exact hj8
 have h1:=List.findIdx_getElem (w:=hlt);subst hj;have h2:=h.2 _ (List.getElem_mem hlt);rw[zQ hlt];have h3:=of_decide_eq_true h1;rcases h2 with h2 | h2 | h2
 ·omega
 ·exact .inl (by rw[h2])
 ·exact .inr (by rw[h2])
structure InS(w:World)(D:Nat→Prop)(p:Nat)(sv:Value)(Gs:List Grp)(sum slot:Nat)(b:Nat)(W:World):Prop where
 pu:zb w W
 wb:w.heap.size≤b
 h3:W.heap[b]? = some (.cells #[.pointer (some ⟨p,0,none⟩)] 157 (0,0))
 h4:W.heap[b+1]? = some (.cells #[.int .u64 sum] 27 (0,0))
 h5:W.heap[b+1+1]? = some (.cells #[.int .u32 slot] 103 (0,0))
 h6:W.heap[b+1+1+1]? = some (.cells #[.int .i64 0] 31 (0,0))
 ix:yd W D p sv Gs
section
variable{w:World}{D:Nat→Prop}{p:Nat}{sv:Value}{Gs:List Grp}{sum slot:Nat}{b:Nat}
theorem InS.pure{A B:World}(h:InS w D p sv Gs sum slot b A)(hq:zb A B):InS w D p sv Gs sum slot b B :=
 ⟨h.pu.trans hq,h.wb,hq.heap (fun h=>h) h.h3,hq.heap (fun h=>h) h.h4,hq.heap (fun h=>h) h.h5,hq.heap (fun h=>h) h.h6,h.ix.pure hq⟩
theorem InS.quiet{N:Nat}(hN:w.heap.size≤N){A B:World}(h:InS w D p sv Gs sum slot b A)(hq:zv N A B):InS w D p sv Gs sum slot b B :=
 ⟨hq.mod h.pu hN,h.wb,hq.cells h.h3,hq.cells h.h4,hq.cells h.h5,hq.cells h.h6,h.ix.quiet hq⟩
theorem InS.new(h:yd w D p sv Gs) :
  InS w D p sv Gs sum slot w.heap.size ((((w.alloc (.cells #[.pointer (some ⟨p,0,none⟩)] 157)).alloc (.cells #[.int .u64 sum] 27)).alloc (.cells #[.int .u32 slot] 103)).alloc (.cells #[.int .i64 0] 31)):=by
 have hp:zb w ((((w.alloc (.cells #[.pointer (some ⟨p,0,none⟩)] 157)).alloc (.cells #[.int .u64 sum] 27)).alloc (.cells #[.int .u32 slot] 103)).alloc (.cells #[.int .i64 0] 31)):=by(repeat'(first | (with_reducible exact Mod.refl _ _) | (with_reducible refine Mod.alloc ?_ _) | (with_reducible refine Mod.drew ?_) | (with_reducible refine Mod.drewN ?_ _) | (with_reducible refine Mod.setCell ?_ ?_ _) | (refine Mod.then ?_ (by with_reducible assumption) ?_)))
 refine⟨hp,zH _,?_,?_,?_,?_,h.pure hp⟩
 ·exact zL (zL (zL (zi rfl)))
 ·exact zL (zL (zi (by simp)))
 ·exact zL (zi (by simp))
 ·exact zi (by simp)
structure InO(w:World)(D:Nat→Prop)(p:Nat)(sv:Value)(Gs:List Grp)(sum slot:Nat)(b:Nat)(B1 B2 B3 N:Nat)(pre:List Nat)(W:World):Prop where
 fs:InS w D p sv Gs sum slot b W
 it:ud W B1 B2 B3 (sum/128) Gs.length
 fl : ∀ k∈pre,xC (zk Gs k)=8
 sz:N≤W.heap.size
theorem InO.quiet{B1 B2 B3 M N:Nat}(hN:w.heap.size≤N){pre:List Nat}{X Y:World}(h:InO w D p sv Gs sum slot b B1 B2 B3 M pre X)(hq:zv N X Y):InO w D p sv Gs sum slot b B1 B2 B3 M pre Y :=
 ⟨h.fs.quiet hN hq,⟨hq.cells h.it.many,hq.cells h.it.part,hq.cells h.it.grps⟩,h.fl,zJ h.sz (Mod.size hq)⟩
def InR(w:World)(D:Nat→Prop)(p:Nat)(sv:Value)(Gs:List Grp)(sum slot:Nat)(b:Nat)(W:World):Prop :=
 ∃ Gs',vw Gs sum slot=some Gs'∧Mod D w W∧w.heap.size≤b∧W.heap[b+1+1+1]? = some (.cells #[.int .i64 0] 31 (0,0))∧yd W D p sv Gs'
theorem InR.quiet{N:Nat}(hN:w.heap.size≤N){X Y:World}(h:InR w D p sv Gs sum slot b X)(hq:zv N X Y):InR w D p sv Gs sum slot b Y:=by
 obtain⟨Gs',h1,h2,h3,h4,h5⟩:=h;exact⟨Gs',h1,hq.mod h2 hN,h3,hq.cells h4,h5.quiet hq⟩
theorem QY{W2 Wx W3 W4:World}{B c i j tag z:Nat}{t1:Int}(h:InS w D p (.slice (some ⟨B,0,none⟩) Gs.length c) Gs sum slot b W2)(hx:Mod (fun k=>k=p) W2 Wx)
  (hbx:Wx.heap[p]? = some (.cells #[.slice (some ⟨B,0,none⟩) Gs.length c,.int .i64 (zB Gs),.int .i64 t1] 293 (0,0)))
  (hi:i<Gs.length) (hj:j<8) (ht1:t1=yc (yw Gs i j tag slot)) (htag:tag<128) (hsl:slot≤4294967295) (hz:zz ((zk Gs i).1.set j tag)=z) (hu:zB (yw Gs i j tag slot)=zB Gs+1)
  (h3:Mod (fun k=>k=B) Wx W3) (h3r:W3.ownsRow 0 249 9 (.slice (some ⟨B,0,none⟩) Gs.length c) Gs.length (((Gs.flatMap yK).set (i*9) (.int .u64 z)).set (i*9+1+j) (.int .u32 slot)))
  (hW4:(W3.setCell ⟨p,1,none⟩ (.int .i64 ((zB Gs:Int)+1))).setCell ⟨b+1+1+1,0,none⟩ (.int .i64 0)=W4) :
  yd W4 D p (.slice (some ⟨B,0,none⟩) Gs.length c) (yw Gs i j tag slot)∧Mod D w W4∧W4.heap[b+1+1+1]? = some (.cells #[.int .i64 0] 31 (0,0))∧Mod (fun k=>k=p∨k=B∨k=b+1+1+1) W2 W4:=by
 subst hW4;have nB : ∀(k:Nat) (cs:Array Value) (T:TypeId),W2.heap[k]? = some (.cells cs T (0,0))→T≠249→k≠B:=fun k cs T hk hT e=>by
  obtain⟨cc,e2⟩:=ym h.ix.row (g:=B) rfl;rw[e,e2]at hk;cases hk;exact hT rfl
 have hpB:=nB _ _ _ h.ix.box (by decide);have h6B:=nB _ _ _ h.h6 (by decide);have h6p:b+1+1+1≠p:=fun e=>by have:=h.h6;rw[e,h.ix.box]at this;cases this
 have hDp:D p:=(h.ix.dd p).2 (.inl rfl);have hDB:D B:=(h.ix.dd B).2 (.inr rfl);have hm4:Mod (fun k=>k=p∨k=b+1+1+1) W3 ((W3.setCell ⟨p,1,none⟩ (.int .i64 ((zB Gs:Int)+1))).setCell ⟨b+1+1+1,0,none⟩ (.int .i64 0)) :=
  ((Mod.refl _ W3).setCell (p:=⟨p,1,none⟩) (fun _ => .inl rfl) _).setCell (p:=⟨b+1+1+1,0,none⟩) (fun _ => .inr rfl) _
 have hall:Mod (fun k=>k=p∨k=B∨k=b+1+1+1) W2 ((W3.setCell ⟨p,1,none⟩ (.int .i64 ((zB Gs:Int)+1))).setCell ⟨b+1+1+1,0,none⟩ (.int .i64 0)) :=
  ((hx.mono (fun k _ e => .inl e):Mod (fun k=>k=p∨k=B∨k=b+1+1+1) W2 Wx).then h3 (fun k _ e => .inr (.inl e))).then hm4 (fun k _ e=>e.elim .inl (fun e => .inr (.inr e)))
 have hb3:=h3.heap hpB hbx;refine⟨⟨?_,?_,h.ix.dd,h.ix.ok.put (.inl htag) hsl⟩,?_,?_,hall⟩
 ·rw[hu,← ht1];refine yQ ?_ (fun e=>h6p e.symm);have:=ve (j:=1) (v := .int .i64 ((zB Gs:Int)+1)) hb3;simpa using this
 ·rw[jD,← zbd (t:=tag) (s:=slot) (h.ix.ok.at hi) hi hj (.int .u64 z) (by rw[hz])];exact zA h3r hm4 (fun g hg e=>by
   have:B=g:=by simpa[Value.ownBlock]using hg
   subst this;rcases e with e | e
   ·exact hpB e.symm
   ·exact h6B e.symm)
 ·have hwb:=h.wb;refine(Mod.of_pure h.pu:Mod D w W2).then hall (fun k hk e => ?_);rcases e with rfl | rfl | rfl
  ·exact hDp
  ·exact hDB
  ·omega
 ·exact ve (j:=0) (yQ (h3.heap h6B (hx.heap h6p h.h6)) h6p)
end
def YF(w:World)(D:Nat→Prop)(p:Nat)(sv:Value)(Gs:List Grp)(sum slot:Nat)(e:Ending)(w':World):Prop :=
 match vw Gs sum slot with
 | some Gs'=>e=.returned (.int .i64 0)∧yd w' D p sv Gs'∧Mod D w w'
 | none=>e=.returned (.int .i64 7)∧yd w' D p sv Gs∧Mod D w w'
theorem Azagb {P:Prop}(h:P:=by
 (refine iSt 8 (fun K hK => ?_);go_simp;(refine(yl.2 (zset.out _)).mono ?_;rintro e w' ⟨rfl,rfl⟩);refine hK _ _ ?_;clear hK K)
 (refine iTk 9 ?_)
 (refine iTk 10 ?_)
 (refine iTk 11 ?_)
 (refine iTk 12 ?_)
 (refine iTk 13 ?_)
 (refine iSt 14 (fun K hK => ?_);go_simp;skip;refine hK _ _ ?_;clear hK K)
 refine wpAnyIn_done (by kernel_rfl) ?_ _
 gi_wp2_with fail
 refine Met.intro (hJc _ _ ?_)
 repeat apply Exists.intro
 exact⟨rfl,rfl⟩):P:=h
theorem Azypu {P:Prop}(h:P:=by
 (refine iSt 7 (fun K hK => ?_);go_simp;(refine(yl.2 (ztag.out _)).mono ?_;rintro e w' ⟨rfl,rfl⟩);refine hK _ _ ?_;clear hK K)
 exact Azagb):P:=h
theorem Azysd {P:Prop}(h:P:=by
 have np : ∀ {k:Nat} {cs:Array Value} {T:TypeId},W2.heap[k]? = some (.cells cs T (0,0))→T≠293→k≠p:=fun hk hT e=>by
   have:=HI.out.fs.ix.box;rw[e,this]at hk;cases hk;exact hT rfl
 have z4:=HX.out.heap (np HI.out.fs.h4 (by decide)) HI.out.fs.h4;have hrx:=zA HI.out.fs.ix.row HX.out (fun g hg e=>by
   obtain⟨cc,e2⟩:=ym HI.out.fs.ix.row hg;rw[e,HI.out.fs.ix.box]at e2;cases e2)
 obtain⟨B2,c2,hsv2,_,hBx,hcx,hfx,_⟩:=kh hrx HG.out.pos
 cases hsv2
 have zgx:Wx.cell? ⟨B,i*9,none⟩=some (.int .u64 (zz (zk Gs i).1)):=by
   have:=uL yK 9 qD 0 (by omega) Gs i;rw[vK hil]at this;exact hcx _ _ this
 have HRX:=za hrx;clear hcx hrx;obtain⟨z4_0,z4_f,z4_l,H_z4⟩:=cr1 z4;clear z4
 gi_cut []from 57 (fun wc=>wc=Wx.drew.drew.setCell ⟨B,i*9,none⟩ (.int .u64 z))
 case first =>
   rename_i Jc Kc hJc hKc;refine Xf (by kernel_rfl) (by kernel_rfl) ?_
   (refine iTk 0 ?_)
   (refine iTk 1 ?_)
   (refine iTk 2 ?_)
   (refine iTk 3 ?_)
   (refine iTk 5 ?_)
   refine wpAnyIn_ready (rs:=[4,6]) (by kernel_rfl) (by simp) ?_;refine AllReadyIn.cons rfl (fun K hK => ?_) (AllReadyIn.cons rfl (fun K hK => ?_) AllReadyIn.nil)
   · go_simp
     refine hK _ _ ?_;clear hK K
     (refine iSt 6 (fun K hK => ?_);go_simp;skip;refine hK _ _ ?_;clear hK K)
     exact Azypu
   · go_simp
     refine hK _ _ ?_;clear hK K;refine wpAnyIn_ready (rs:=[4,7]) (by kernel_rfl) (by simp) ?_;refine AllReadyIn.cons rfl (fun K hK => ?_) (AllReadyIn.cons rfl (fun K hK => ?_) AllReadyIn.nil)
     · go_simp
       refine hK _ _ ?_;clear hK K;exact Azypu
     · go_simp
       refine(yl.2 (ztag.out _)).mono ?_;rintro e w' ⟨rfl,rfl⟩;refine hK _ _ ?_;clear hK K
       (refine iSt 4 (fun K hK => ?_);go_simp;skip;refine hK _ _ ?_;clear hK K)
       exact Azagb
 case rest =>
   subst hcut;have hm1:Mod (fun k=>k=B) Wx (Wx.drew.drew.setCell ⟨B,i*9,none⟩ (.int .u64 z)):=Mod.of_drew (Mod.of_drew (Mod.set1 B (i*9) _));have nB : ∀ {k:Nat} {cs:Array Value} {T:TypeId},W2.heap[k]? = some (.cells cs T (0,0))→T≠249→k≠B:=fun hk hT e=>by
     obtain⟨cc,e2⟩:=ym HI.out.fs.ix.row (g:=B) rfl;rw[e,e2]at hk;cases hk;exact hT rfl
   have z5:=hm1.heap (nB HI.out.fs.h5 (by decide)) (HX.out.heap (np HI.out.fs.h5 (by decide)) HI.out.fs.h5);have hr1:(Wx.drew.drew.setCell ⟨B,i*9,none⟩ (.int .u64 z)).ownsRow 0 249 9 (.slice (some ⟨B,0,none⟩) Gs.length c) Gs.length ((Gs.flatMap yK).set (i*9) (.int .u64 z)) :=
     uz (zA HRX.out (Mod.drew (Mod.drew (Mod.refl (fun _=>False) Wx))) (fun _ _ h=>h)) (i*9) (.int .u64 z) (by omega)
   obtain⟨B3',c3,hsv3,_,hB3',hc3,hf3,_⟩:=kh hr1 HG.out.pos
   cases hsv3
   have hl9:i*9+1+j<((Gs.flatMap yK).set (i*9) (.int .u64 z)).length:=by rw[hr1.1];omega
   have zs0 : ∃ u,(Wx.drew.drew.setCell ⟨B,i*9,none⟩ (.int .u64 z)).cell? ⟨B,i*9+1+j,none⟩=some u:=⟨_,hc3 _ _ (zQ hl9)⟩;obtain⟨u0,zs⟩:=zs0;clear hc3 hl9;have HR1:=za hr1;have HM1:=za hm1;clear z4_0 z4_f z4_l;clear H_z4 hm1 hr1 zgx hfx;generalize Wx.drew.drew.setCell ⟨B,i*9,none⟩ (.int .u64 z)=W5 at *;obtain⟨z5_0,z5_f,z5_l,H_z5⟩:=cr1 z5;clear z5;gi_upto_region 12 with fail
   gi_cut []from 71 (fun wc=>wc=W5.drew.setCell ⟨B,i*9+1+j,none⟩ (.int .u32 slot))
   case first =>
     rename_i Jc Kc hJc hKc;refine Xf (by kernel_rfl) (by kernel_rfl) ?_
     (refine iTk 0 ?_)
     (refine iTk 1 ?_)
     (refine iTk 3 ?_)
     (refine iTk 4 ?_)
     (refine iSt 2 (fun K hK => ?_);go_simp;skip;refine hK _ _ ?_;clear hK K)
     (refine iTk 5 ?_)
     (refine iSt 6 (fun K hK => ?_);go_simp;skip;refine hK _ _ ?_;clear hK K)
     refine wpAnyIn_done (by kernel_rfl) ?_ _
     gi_wp2_with fail
     refine Met.intro (hJc _ _ ?_)
     repeat apply Exists.intro
     exact⟨rfl,rfl⟩
   case rest =>
     subst hcut;have hm2:Mod (fun k=>k=B) Wx (W5.drew.setCell ⟨B,i*9+1+j,none⟩ (.int .u32 slot)):=HM1.out.trans (Mod.of_drew (Mod.set1 B (i*9+1+j) _));have hr2:=uz (zA HR1.out (Mod.drew (Mod.refl (fun _=>False) W5)) (fun _ _ h=>h)) (i*9+1+j) (.int .u32 slot) (by omega);have z3:=hm2.heap (nB HI.out.fs.h3 (by decide)) (HX.out.heap (np HI.out.fs.h3 (by decide)) HI.out.fs.h3);have zp:=hm2.heap (nB HI.out.fs.ix.box (by decide)) HBX.out;have z6:=hm2.heap (nB HI.out.fs.h6 (by decide)) (HX.out.heap (np HI.out.fs.h6 (by decide)) HI.out.fs.h6);have HE:=za (QY HI.out.fs HX.out HBX.out hil hj8 ht1.out htl hslot hz hu1 hm2 hr2 rfl);clear z5_0 z5_f z5_l;clear H_z5 hm2 hr2 zs hf3;generalize W5.drew.setCell ⟨B,i*9+1+j,none⟩ (.int .u32 slot)=W6 at *;obtain⟨z3_0,z3_f,z3_l,H_z3⟩:=cr1 z3;clear z3;obtain⟨zp_0,zp_1,zp_2,zp_f,zp_l,H_zp⟩:=cr3 zp;clear zp;obtain⟨z6_0,z6_f,z6_l,H_z6⟩:=cr1 z6;clear z6;have wu:IntKind.i64.wrap ((zB Gs:Int)+1)=(zB Gs:Int)+1:=zo _ (by omega);gi_wp2;obtain⟨E1,E2,E3,E4⟩:=HE.out;refine⟨yY.of_mod E4 (fun k _ hk o ho => ?_),rfl,_,?_,E2,HI.out.fs.wb,E3,E1⟩
     · rcases hk with e | e | e
       · rw[e,HI.out.fs.ix.box]at ho;cases ho;rfl
       · obtain⟨cc,e2⟩:=ym HI.out.fs.ix.row (g:=B) rfl
         rw[e,e2]at ho;cases ho;rfl
       · rw[e,HI.out.fs.h6]at ho;cases ho;rfl
     · unfold vw
       rw[hpart,HPO.out,Vq pre (i::post) HI.out.fl,htg];simp only[kj];rw[zf (by rw[hj];omega),hj]):P:=h
theorem zaA{w:World}{D:Nat→Prop}{p:Nat}{sv:Value}{Gs:List Grp}(h:yd w D p sv Gs)(sum slot:Nat)(hsum:sum<18446744073709551616)(hslot:slot≤4294967295) :
    Calls prog 177 #[.pointer (some ⟨p,0,none⟩),.int .u64 sum,.int .u32 slot] w (YF w D p sv Gs sum slot):=by
  have hlp:p<w.heap.size:=zl h.box;obtain⟨B,c,rfl,hc,hB,hDB,hBf,hcells⟩:=h.at;have hfs:=InS.new (sum:=sum) (slot:=slot) h;have HF:=za hfs;have HC:=za hcells;clear hfs hcells hBf hc
  (refine(yl (n:=0)).1 (callsIn_of_wp_marks func177 rfl trivial (vW.2 ?_) rfl);simp only[ntmps177,List.size_toArray,List.length_cons,List.length_nil,Nat.reduceAdd,Nat.reduceSub,Array.replicate_succ,Array.replicate_zero,List.push_toArray,List.append_toArray,List.nil_append,List.cons_append])
  go_upto_region 1 with fail
  generalize(((w.alloc (.cells #[.pointer (some ⟨p,0,none⟩)] 157)).alloc (.cells #[.int .u64 sum] 27)).alloc (.cells #[.int .u32 slot] 103)).alloc (.cells #[.int .i64 0] 31)=W1 at HF ⊢;have hws:=HF.out.wb;generalize w.heap.size=b at HF ⊢;have z3:=HF.out.h3;have z4:=HF.out.h4;have zp:=HF.out.ix.box;obtain⟨z3_0,z3_f,z3_l,H_z3⟩:=cr1 z3;clear z3;obtain⟨z4_0,z4_f,z4_l,H_z4⟩:=cr1 z4;clear z4;obtain⟨zp_0,zp_1,zp_2,zp_f,zp_l,H_zp⟩:=cr3 zp;clear zp;have HG:=za HF.out.ix.ok.pow;have wg:IntKind.i64.wrap (Gs.length:Int)=Gs.length:=zo _ (by have:=HG.out.le;omega);have HZ:=za (fun W (hW:W.cell? ⟨p,0,none⟩=_)=>qT (w:=W) (c:=c) (a:=some ⟨B,0,none⟩) hW HG.out.pos HG.out.le);have HPart:=za (fun W=>zbr sum W hsum);have HAll:=za (fun W=>J6 (sum/128) Gs.length W HG.out);obtain⟨part,hpart⟩:=zc (sum/128);rw[hpart]at HPart HAll;go_upto_region 3 with(go_at_call 142;refine(HZ.out _ zp_0).mono ?_;rintro e w' ⟨rfl,rfl⟩)
  go_region_held3 (fun w'=>w'.cell? ⟨b,0,none⟩=some (.pointer (some ⟨p,0,none⟩))∧w'.cell? ⟨b+1,0,none⟩=some (.int .u64 sum)∧w'.cell? ⟨p,0,none⟩=some (.slice (some ⟨B,0,none⟩) Gs.length c))
    (first | go_keep | exact⟨hp2.cell (fun h=>h) z3_0,hp2.cell (fun h=>h) z4_0,hp2.cell (fun h=>h) zp_0⟩)
    (first
      | (go_at_call 190;(with_reducible refine(HPart.out _).mono ?_);rintro e w' ⟨rfl,rfl⟩)
      | (go_at_call 189;(with_reducible refine(HAll.out _).mono ?_);rintro e w2 ⟨B1,B2,B3,rfl,hit,hp2,hB1,hB2,hB3⟩))
  have hpw:zb W1 w2:=hp2.of_drew;have hfo:InO w D p (.slice (some ⟨B,0,none⟩) Gs.length c) Gs sum slot b B1 B2 B3 w2.heap.size [] w2:=by
    refine⟨HF.out.pure hpw,by rw[hpart];exact hit,by simp,zH _⟩
  have hItlt : ∀ k,qj B1 B2 B3 k→k<w2.heap.size:=by
    exact Azyoh
  have hw2:w.heap.size≤w2.heap.size:=zJ HF.out.pu.size hpw.size;have hpl:part<144115188075855872:=by omega
  have HO:=za hfo;clear z3_0 z3_f z3_l;clear z4_0 z4_f z4_l;clear zp_0 zp_1 zp_2 zp_f zp_l;clear H_z3 H_z4 H_zp HF hfo HPart HAll HZ hp2 hpw hB1 hB2 hB3;go_wp2;refine vW.1 (ZC (gf:=239) (lb:=#[.pointer (some ⟨B1,0,none⟩),.pointer (some ⟨B2,0,none⟩),.pointer (some ⟨B3,0,none⟩)]) rfl (enters_of func239 (by kernel_rfl) rfl) (It:=qj B1 B2 B3) (Qf hit HG.out hpl) hItlt (fun _=>rfl)
    (fun pre W=>InO w D p (.slice (some ⟨B,0,none⟩) Gs.length c) Gs sum slot b B1 B2 B3 w2.heap.size pre W) (fun cd _ W=>cd=.ret∧InR w D p (.slice (some ⟨B,0,none⟩) Gs.length c) Gs sum slot b W) ?hI ?hIx HO.out ?round ?done ?stop)
  case hI=>exact fun pre X Y h hq=>h.quiet hw2 hq
  case hIx=>exact fun cd pre X Y h hq=>⟨h.1,h.2.quiet hw2 hq⟩
  case stop =>
    rintro l cd pre W hl ⟨rfl,h1⟩ hK;obtain⟨Gs',g1,g2,g3,g4,g5⟩:=h1.quiet hw2 (zv.putObj (.deferred none) hl hK rfl);have y6:=zj _ _ 0 _ _ _ g4;simp at y6;refine vW.2 ?_;go_wp2;exact jZ (v := .int .i64 0) hK (by simp[results,results177,go_sem,y6]) (by unfold YF;rw[g1];exact⟨rfl,g5,g2⟩)
  case done =>
    rintro l xs W hl hS hI hK;have hS':xs=xF part Gs.length:=hS;have hn:vw Gs sum slot=none:=by
      unfold vw;rw[hpart,← hS'];have:=Vq (Gs:=Gs) (tag:=sum%128) (slot:=slot) xs [] hI.fl;rw[kQ]at this;exact this
    have z6:=hI.fs.h6;have HI:=za hI;have hwb:=hI.fs.wb;clear hI HO hit hItlt;obtain⟨z6_0,z6_f,z6_l,H_z6⟩:=cr1 z6;clear z6;go_wp2;have hm:Mod (fun k=>k=b+1+1+1) W (W.setCell ⟨b+1+1+1,0,none⟩ (.int .i64 7)):=Mod.set1 _ _ _;have hk:=hm.heap (by intro e;subst e;rw[H_z6.out]at hK;cases hK) hK;have hq:zv w2.heap.size _ _:=zv.putObj (.deferred none) hl hk rfl;have y6:=zj _ _ 0 _ _ _ (hq.cells (ve (j:=0) (v := .int .i64 7) H_z6.out));simp at y6;refine jZ (v := .int .i64 7) hk (by simp[results,results177,go_sem,y6]) ?_;unfold YF;rw[hn];refine⟨rfl,(HI.out.fs.ix.mod hm (fun k hk e => ?_)).quiet hq,hq.mod (Mod.mono ((Mod.of_pure HI.out.fs.pu).then hm (fun i hi e=>by omega):Mod (fun _=>False) w _) (fun _ _ h=>h.elim)) hw2⟩;subst e;rcases(HI.out.fs.ix.dd _).1 hk with e | e
    · rw[e,HI.out.fs.ix.box]at H_z6;cases H_z6.out
    · obtain⟨cc,e2⟩:=ym HI.out.fs.ix.row e
      rw[e2]at H_z6;cases H_z6.out
  case round =>
    rintro l pre i W K hI hG hK;obtain⟨post,hpost⟩:=hG;have hil:i<Gs.length:=by
      exact Azvw2
    dsimp only[qv];have HI:=za hI;have HK:=za hK;have HPO:=za hpost;clear hI hK HO hit hpost;gi_wp2;refine HK.out _ _ (Mod.refl _ _) (fun l' W2 hl hr hq => ?_);replace HI:=za (HI.out.quiet hw2 hq);clear HK hq W hr;have z3:=HI.out.fs.h3;have zp:=HI.out.fs.ix.box;obtain⟨z3_0,z3_f,z3_l,H_z3⟩:=cr1 z3;clear z3;obtain⟨zp_0,zp_1,zp_2,zp_f,zp_l,H_zp⟩:=cr3 zp;clear zp;have hi0:(0:Int)≤i:=by omega
    have hi1:(i:Int)<Gs.length:=by omega
    have hgl:=HG.out.le;obtain⟨B',c',hsv,_,hB',hDB',hBf',hcells'⟩:=HI.out.fs.ix.at
    cases hsv
    have zg:=(hcells' i hil).1;have hgo:=za (HI.out.fs.ix.ok.at hil);have hff:xC (zk Gs i)=kO (zI ((zk Gs i).1.map (fun x=>decide (128≤x)))):=by
      rw[zhG (by rw[yB];exact hgo.out.ctl.1)];unfold xC;rw[List.findIdx_map]
      rfl
    have hml:zI ((zk Gs i).1.map (fun x=>decide (128≤x)))<256:=kE (by rw[yB];exact hgo.out.ctl.1);have zfr:=za (fun W=>JU hgo.out.ctl W);have zfi:=za (fun W=>zcs _ W hml);have hfl:=ze2 _ hml;rw[← hff]at zfi hfl;have HFF:=za hff;clear hcells' hff hml;generalize zI ((zk Gs i).1.map (fun x=>decide (128≤x)))=m at *;obtain⟨j,hj⟩:=zc (xC (zk Gs i));rw[hj]at zfi hfl;by_cases h8:j=8
    · subst h8
      gi_wp2_with (first
        | (gi_at_call 229;refine uD (CallsIn.inRound l' (yl.2 (zfr.out _))) ?_;rintro e w' ⟨rfl,rfl⟩)
        | (gi_at_call 228;refine uD (CallsIn.inRound l' (yl.2 (zfi.out _))) ?_;rintro e w' ⟨rfl,rfl⟩))
      refine⟨fun _ _ _ h _=>h,⟨zH _,fun _ _ _=>rfl⟩,⟨HI.out.fs,HI.out.it,?_,HI.out.sz⟩⟩;intro k hk;rcases yz.1 hk with hk | hk
      · exact HI.out.fl k hk
      · have:k=i:=by simpa using hk
        rw[this];exact hj
    · have hj8:j<8:=by omega
      have hj0:(0:Int)≤j:=by omega
      have hj1:(j:Int)<8:=by omega
      have hj2:(j:Int)≤8:=by omega
      have hjn:((j:Int)==8)=false:=by simp;omega
      have hbit:=Qj (p:=(zk Gs i).1.map (· == 128)) (by rw[yB];exact hgo.out.ctl.1) j hj8;have hmz:zI ((zk Gs i).1.map (· == 128))<256:=kE (by rw[yB];exact hgo.out.ctl.1);have hcj:=Kh hgo.out.ctl hj hj8;have zem:=za (fun W=>Xm hgo.out.ctl.bytes W);have hgd:((zk Gs i).1.map (· == 128)).getD j false=decide ((zk Gs i).1[j]? = some 128):=by
        rw[vF,yu];rcases hcj with e | e<;>simp[e]
      rw[hgd]at hbit;generalize zI ((zk Gs i).1.map (· == 128))=me at *;have hme:me/2 ^ j<256:=kG (Zk _ _) hmz;have hb1:=V1 _ 1 hme (by omega);rw[hbit]at hb1;rw[Int.natCast_ediv,Int.natCast_pow]at hb1;have hus:=HI.out.fs.ix.ok.used_le;have htm:=HI.out.fs.ix.ok.tomb_le;obtain⟨tag,htg⟩:=zc (sum%128);have htl:tag<128:=by omega
      have ztag:=za (fun W=>Qc sum W hsum);rw[htg]at ztag;have zset:=za (fun W=>zge hgo.out.ctl j tag W hj8 htl);obtain⟨z,hz⟩:=zc (zz ((zk Gs i).1.set j tag));rw[hz]at zset;have hu0:=fun a ha=>XT (Gs:=Gs) (i:=i) (j:=j) (t:=tag) (s:=slot) (a:=a) hil ha
      have ht0:=fun a ha=>XS (Gs:=Gs) (i:=i) (j:=j) (t:=tag) (s:=slot) (a:=a) hil ha
      have htd:(decide (tag<128)).toNat=1:=by simp[htl]
      have hte0:(tag==254)=false:=by simp;omega
      have hte:(tag==254).toNat=0:=by rw[hte0];rfl
      rw[htd]at hu0;rw[hte]at ht0;rcases hcj with hcj | hcj
      · have hb2:bits .and .u8 ((me:Int)/2 ^ j) 1=1:=by simpa[hcj]using hb1
        gi_upto_region 11 with(first
          | (gi_at_call 229;refine uD (CallsIn.inRound l' (yl.2 (zfr.out _))) ?_;rintro e w' ⟨rfl,rfl⟩)
          | (gi_at_call 228;refine uD (CallsIn.inRound l' (yl.2 (zfi.out _))) ?_;rintro e w' ⟨rfl,rfl⟩)
          | (gi_at_call 194;refine uD (CallsIn.inRound l' (yl.2 (zem.out _))) ?_;rintro e w' ⟨rfl,rfl⟩))
        have hu1:zB (yw Gs i j tag slot)=zB Gs+1:=by simpa using hu0 128 hcj
        have ht2:yc (yw Gs i j tag slot)=yc Gs:=by simpa using ht0 128 hcj
        clear z3_0 z3_f z3_l;clear zp_0 zp_1 zp_2 zp_f zp_l;clear H_z3 H_zp zg;obtain⟨Wx,hWx⟩ : ∃ Wx,Wx=W2:=⟨_,rfl⟩;have HX:Hid (Mod (fun k=>k=p) W2 Wx):=hWx ▸ Mod.refl _ W2;have HBX:Hid (Wx.heap[p]? = _):=hWx ▸ HI.out.fs.ix.box;have ht1:Hid ((yc Gs:Int)=yc (yw Gs i j tag slot)):=by show((yc Gs:Int)=yc (yw Gs i j tag slot));rw[ht2]
        clear ht2;rw[← hWx];clear hWx;exact Azysd
      · have hb2:bits .and .u8 ((me:Int)/2 ^ j) 1=0:=by simpa[hcj]using hb1
        gi_upto_region 11 with(first
          | (gi_at_call 229;refine uD (CallsIn.inRound l' (yl.2 (zfr.out _))) ?_;rintro e w' ⟨rfl,rfl⟩)
          | (gi_at_call 228;refine uD (CallsIn.inRound l' (yl.2 (zfi.out _))) ?_;rintro e w' ⟨rfl,rfl⟩)
          | (gi_at_call 194;refine uD (CallsIn.inRound l' (yl.2 (zem.out _))) ?_;rintro e w' ⟨rfl,rfl⟩))
        have hu1:zB (yw Gs i j tag slot)=zB Gs+1:=by simpa using hu0 254 hcj
        have ht2:yc (yw Gs i j tag slot)+1=yc Gs:=by simpa using ht0 254 hcj
        have HX:Hid (Mod (fun k=>k=p) W2 (W2.setCell ⟨p,2,none⟩ (.int .i64 ((yc Gs:Int)-1)))):=Mod.set1 _ _ _;have hbx0:=ve (j:=2) (v := .int .i64 ((yc Gs:Int)-1)) HI.out.fs.ix.box;simp at hbx0;have HBX:=za hbx0;clear hbx0;have ht1:Hid ((yc Gs:Int)-1=yc (yw Gs i j tag slot)):=by show((yc Gs:Int)-1=yc (yw Gs i j tag slot));omega
        clear ht2;clear z3_0 z3_f z3_l;clear zp_0 zp_1 zp_2 zp_f zp_l;clear H_z3 H_zp zg;generalize W2.setCell ⟨p,2,none⟩ (.int .i64 ((yc Gs:Int)-1))=Wx at *;exact Azysd
end
section
open Go.RowKit Go.Shelf
def kZ:Grp:=([128,128,128,128,128,128,128,128],[0,0,0,0,0,0,0,0])
def js:Grp:=([0,0,0,0,0,0,0,0],[0,0,0,0,0,0,0,0])
def xf(g:Nat):List Grp:=List.replicate g kZ
theorem zfo:xN kZ:=⟨⟨rfl,by decide⟩,rfl,by decide⟩
theorem XX(g:Nat):(xf g).length=g:=x9
theorem zaU{g:Nat}(hg:Pow g):xo (xf g):=⟨by rw[XX];exact hg,fun c hc=>by rw[(List.mem_replicate.1 hc).2];exact zfo⟩
theorem VW(g:Nat):zB (xf g)=0:=by
 unfold zB xf;rw[List.map_replicate,show kZ.1.countP (· < 128)=0 from by decide];simp
theorem QL(g:Nat):yc (xf g)=0:=by
 unfold yc xf;rw[List.map_replicate,show kZ.1.countP (· == 254)=0 from by decide];simp
def uG(g i:Nat):List Grp:=List.replicate i kZ++List.replicate (g-i) js
theorem zjJ{g i:Nat}(h:i≤g):(uG g i).length=g:=by unfold uG;simp;omega
theorem zhh(g:Nat):uG g g=xf g:=by unfold uG xf;simp
theorem zji(g:Nat):(madeCells #[.int .u64 0,.int .u32 0,.int .u32 0,.int .u32 0,.int .u32 0,.int .u32 0,.int .u32 0,.int .u32 0,.int .u32 0] (g*9)).toList=(uG g 0).flatMap yK:=by
 have e:yK js=[.int .u64 0,.int .u32 0,.int .u32 0,.int .u32 0,.int .u32 0,.int .u32 0,.int .u32 0,.int .u32 0,.int .u32 0]:=rfl;unfold madeCells uG;simp only[List.replicate_zero,List.nil_append,Nat.sub_zero];apply vX;intro k;by_cases hk:k<g*9
 ·have h1:=uL yK 9 qD (k%9) (by omega) (List.replicate g js) (k/9);rw[show k/9*9+k%9=k by omega]at h1;have h2:(List.replicate g js)[k/9]? = some js:=by rw[vz,zh (by omega)]
  rw[h2]at h1;rw[h1]
  show _=(yK js)[k%9]?
  rw[e];rw[zQ (by simpa using hk)];simp;have:k%9<9:=xY _ (by decide);generalize k%9=r at *;have:r=0∨r=1∨r=2∨r=3∨r=4∨r=5∨r=6∨r=7∨r=8:=by omega
  rcases this with rfl | rfl | rfl | rfl | rfl | rfl | rfl | rfl | rfl<;>rfl
 ·rw[xu (by simpa using hk),xu];have : ∀ r∈(List.replicate g js),(yK r).length=9:=fun r _=>qD r
  rw[List.length_flatMap,ui this];simp;omega
theorem zcu{g i:Nat}(h:i<g):((uG g i).flatMap yK).set (i*9) (.int .u64 (zz [128,128,128,128,128,128,128,128]))=(uG g (i+1)).flatMap yK:=by
 have e1:uG g i=List.replicate i kZ++js::List.replicate (g-(i+1)) js:=by
  unfold uG;rw[show g-i=g-(i+1)+1 by omega,Ze]
 have e2:uG g (i+1)=List.replicate i kZ++kZ::List.replicate (g-(i+1)) js:=by
  unfold uG;rw[List.replicate_succ',vr];rfl
 rw[e1,e2,ZW,ZW,qp,qp];have hl:((List.replicate i kZ).flatMap yK).length=i*9:=by
  rw[List.length_flatMap,ui (fun r _=>qD r)];simp
 rw[Xw _ _ (by omega),hl,YD]
 rfl
theorem zgv:(prog.info? 249).map (fun i=>(i.zero,i.size,i.bytes))=some (some (.agg #[.int .u64 0,.int .u32 0,.int .u32 0,.int .u32 0,.int .u32 0,.int .u32 0,.int .u32 0,.int .u32 0,.int .u32 0]),9,40):=by kernel_rfl
def zeZ(w:World)(g:Nat)(e:Ending)(w':World):Prop :=
 ∃ p sv,e=.returned (.tuple #[.pointer (some ⟨p,0,none⟩),.int .i64 0])∧yd w' (fun k=>k=p∨sv.ownBlock=some k) p sv (xf g)∧zb w w'∧w.heap.size≤p ∧ ∀ k,sv.ownBlock=some k→w.heap.size≤k
structure XV(w:World)(g p i:Nat)(W:World):Prop where
 pu:zb w W
 box:W.heap[p]? = some (.cells #[.slice (some ⟨w.heap.size,0,none⟩) g g,.int .i64 0,.int .i64 0] 293 (0,0))
 row:W.ownsRow 0 249 9 (.slice (some ⟨w.heap.size,0,none⟩) g g) g ((uG g i).flatMap yK)
 wp:w.heap.size≤p
theorem XV.step{w:World}{g p i:Nat}{W W' W'':World}(h:XV w g p i W)(hi:i<g)(hp:p≠w.heap.size)(hW:zb W W')(e:W'.setCell ⟨w.heap.size,i*9,none⟩ (.int .u64 (zz [128,128,128,128,128,128,128,128]:Nat))=W''):XV w g p (i+1) W'':=by
 subst e;have hm:Mod (fun k=>k=w.heap.size) W' (W'.setCell ⟨w.heap.size,i*9,none⟩ (.int .u64 (zz [128,128,128,128,128,128,128,128]:Nat))):=Mod.set1 _ _ _;refine⟨(h.pu.trans hW).then hm (fun k hk e=>by omega),hm.heap hp (hW.heap (fun h=>h) h.box),?_,h.wp⟩;have:=uz (zA h.row hW (fun _ _ h=>h)) (i*9) (.int .u64 (zz [128,128,128,128,128,128,128,128]:Nat)) (by omega)
 rwa [zcu hi]at this
theorem zbS(g:Nat)(w:World)(hg:Pow g):Calls prog 125 #[.int .i64 g] w (zeZ w g):=by
 have hg0:=hg.pos;have hg1:=hg.le;have HV:=za (fun W=>Uc g W hg);have HB:=za (fun W=>zeR W);obtain⟨i0,hi,hz0,hz1,hz2⟩:=xy zgv;go_enter func125,ntmps125;go_upto_region 3 with(go_at_call 181;refine(HV.out _).mono ?_;rintro e w' ⟨rfl,rfl⟩)
 go_upto_region 4 with(at_make;refine wpList_make_full _ rfl _ _ 291 rfl 0 249 i0 _ 9 underlying291 hi hz0 hz1 .i64 .i64 _ _ g rfl rfl rfl rfl (by rw[hz2];omega) (by unfold maxLen;omega) (yk _) ?_;intro w1 hown hgrow)
 have hpw:zb w (w1.alloc (.cells #[.slice (some ⟨w.heap.size,0,none⟩) g g,.int .i64 0,.int .i64 0] 293)):=(Mod.of_grown hgrow (fun k e _=>by cases e)).alloc _;have hown2:=zA hown ((Mod.refl (fun _=>False) w1).alloc (.cells #[.slice (some ⟨w.heap.size,0,none⟩) g g,.int .i64 0,.int .i64 0] 293)) (fun _ _ h=>h);have hbox:(w1.alloc (.cells #[.slice (some ⟨w.heap.size,0,none⟩) g g,.int .i64 0,.int .i64 0] 293)).heap[w1.heap.size]? = some (.cells #[.slice (some ⟨w.heap.size,0,none⟩) g g,.int .i64 0,.int .i64 0] 293 (0,0)):=zi rfl;have hw1:w.heap.size<w1.heap.size:=by
  obtain⟨B',c',hsv,_,hB',_⟩:=kh hown hg0
  cases hsv
  exact hB'
 rw[show(Value.agg #[.int .u64 0,.int .u32 0,.int .u32 0,.int .u32 0,.int .u32 0,.int .u32 0,.int .u32 0,.int .u32 0,.int .u32 0]).cells=#[.int .u64 0,.int .u32 0,.int .u32 0,.int .u32 0,.int .u32 0,.int .u32 0,.int .u32 0,.int .u32 0,.int .u32 0]from rfl,zji]at hown2;clear hown hgrow hi hz0 hz1 hz2;generalize w1.alloc (.cells #[.slice (some ⟨w.heap.size,0,none⟩) g g,.int .i64 0,.int .i64 0] 293)=W2 at *;have hwp:w.heap.size≤w1.heap.size:=qI hw1;generalize w1.heap.size=p at *;have zp:=hbox;have HPW:=za hpw;have HO:=za hown2;have HX:=za hbox;clear hpw hown2 hbox;have wg:IntKind.i64.wrap (g:Int)=g:=zo _ (by omega);obtain⟨zp_0,zp_1,zp_2,zp_f,zp_l,H_zp⟩:=cr3 zp;clear zp;go_upto_region 5 with fail
 go_loopw [18] (fun k wr => ∃ i,k=.int .i64 (i:Nat)∧i≤g∧XV w g p i wr) (fun k _=>g-(intOf k).toNat)
 case atStart=>exact⟨0,rfl,yk _,HPW.out,HX.out,HO.out,hwp⟩
 case round =>
  obtain⟨i,rfl,hi,hinv⟩:=hrel;have zp:=hinv.box;have HI:=za hinv;clear zp_0 zp_1 zp_2 zp_f zp_l;clear H_zp hinv;obtain⟨zp_0,zp_1,zp_2,zp_f,zp_l,H_zp⟩:=cr3 zp;clear zp;by_cases hlt:i<g
  ·have hlt':(i:Int)<(g:Int):=by omega
   have hl:(uG g i).length=g:=zjJ hi;obtain⟨B',c',hsv,_,hB',hcc,hf',_⟩:=kh HI.out.row hg0
   cases hsv
   have zg0 : ∃ u,wr.cell? ⟨w.heap.size,i*9,none⟩=some u:=by
    have h1:=HI.out.row.1;exact⟨_,hcc (i*9) _ (zQ (by rw[h1];omega))⟩
   obtain⟨u0,zg⟩:=zg0;have HS:=za (zcu hlt);clear hcc;go_upto_region 7 with fail
   go_region_law ((go_simp;go_at_call 182;refine(HB.out _).mono ?_;rintro e w' ⟨rfl,rfl⟩))
   all_goals
    have hst:=HI.out.step hlt (by omega) (Mod.refl (fun _=>False) wr).drew rfl;have HST:=za hst;clear hst;go_wp2;go_roundw
    case rel=>exact⟨i+1,by go_num,by omega,HST.out⟩
    case measure=>simp[intOf];omega
  ·have hlt':(g:Int)≤(i:Int):=by omega
   have e:i=g:=by omega
   subst e;go_wp2;exact zM (v := .tuple #[.pointer (some ⟨p,0,none⟩),.int .i64 0]) (by simp[results,results125,go_sem]) rfl
    ⟨p,.slice (some ⟨w.heap.size,0,none⟩) i i,rfl,⟨by rw[VW,QL];exact HI.out.box,by rw[XX,← zhh];exact HI.out.row,fun k=>vg,zaU hg⟩,HI.out.pu,HI.out.wp,fun k hk=>by simp[Value.ownBlock]at hk;omega⟩
theorem Az7rw {P:Prop}(h:P:=by
 go_wp2_with (go_at_call 142;refine(HZ.out zp_0).mono ?_;rintro e w' ⟨rfl,rfl⟩)
 go_ret;exact⟨rfl,rfl⟩):P:=h
theorem Jt{w:World}{D:Nat→Prop}{p:Nat}{sv:Value}{Gs:List Grp}(h:yd w D p sv Gs):Calls prog 174 #[.pointer (some ⟨p,0,none⟩)] w fun e w'=>e=.returned (.int .i64 (zB Gs))∧w=w':=by
 obtain⟨B,c,rfl,hc,hB,hDB,hBf,hcells⟩:=h.at;have zp:=h.box;have HZ:=za (fun(hW:w.cell? ⟨p,0,none⟩=_)=>qT (w:=w) (c:=c) (a:=some ⟨B,0,none⟩) hW h.ok.pow.pos h.ok.pow.le);clear hcells h;obtain⟨zp_0,zp_1,zp_2,zp_f,zp_l,H_zp⟩:=cr3 zp;clear zp;go_enter func174,ntmps174;exact Az7rw
theorem Kn{w:World}{D:Nat→Prop}{p:Nat}{sv:Value}{Gs:List Grp}(h:yd w D p sv Gs):Calls prog 160 #[.pointer (some ⟨p,0,none⟩)] w fun e w'=>e=.returned (.int .i64 (yc Gs))∧w=w':=by
 obtain⟨B,c,rfl,hc,hB,hDB,hBf,hcells⟩:=h.at;have zp:=h.box;have HZ:=za (fun(hW:w.cell? ⟨p,0,none⟩=_)=>qT (w:=w) (c:=c) (a:=some ⟨B,0,none⟩) hW h.ok.pow.pos h.ok.pow.le);clear hcells h;obtain⟨zp_0,zp_1,zp_2,zp_f,zp_l,H_zp⟩:=cr3 zp;clear zp;go_enter func160,ntmps160;exact Az7rw
theorem KF{w:World}{D:Nat→Prop}{p:Nat}{sv:Value}{Gs:List Grp}(h:yd w D p sv Gs):Calls prog 159 #[.pointer (some ⟨p,0,none⟩)] w fun e w'=>e=.returned (.int .i64 Gs.length)∧w=w':=by
 obtain⟨B,c,rfl,hc,hB,hDB,hBf,hcells⟩:=h.at;have zp:=h.box;have HZ:=za (fun(hW:w.cell? ⟨p,0,none⟩=_)=>qT (w:=w) (c:=c) (a:=some ⟨B,0,none⟩) hW h.ok.pow.pos h.ok.pow.le);have wg:IntKind.i64.wrap (Gs.length:Int)=Gs.length:=zo _ (by have:=h.ok.pow.le;omega);clear hcells h;obtain⟨zp_0,zp_1,zp_2,zp_f,zp_l,H_zp⟩:=cr3 zp;clear zp;go_enter func159,ntmps159;exact Az7rw
theorem zfv{w:World}{B0 x:Nat}(hb:w.heap[B0]? = some (.cells #[.int .u32 x] 103 (0,0)))(s:Nat)(hs:s≤4294967295)(hx:x≤4294967295) :
  Calls prog 243 #[.int .u32 s,.pointer (some ⟨B0,0,none⟩)] w fun e w'=>e=.returned (.bool (s==x))∧w=w':=by
 obtain⟨hb_0,hb_f,hb_l,H_hb⟩:=cr1 hb;clear hb;have hs0:(s:Int)≤4294967295:=by omega
 have hx0:(x:Int)≤4294967295:=by omega
 have e:((s:Int)==(x:Int))=(s==x):=by rw[Bool.eq_iff_iff];simp;omega
 go_enter func243,ntmps243;go_wp2;go_ret;exact⟨rfl,rfl⟩
theorem zd7{gf B0:Nat}{g:Nat→Bool}{w:World}{cs:Array Value}{T:TypeId}(he : ∀ args w,(callFunc gf args).run prog w=.ok (.enter gf args) w)(hB:B0<w.heap.size)
  (hb:w.heap[B0]? = some (.cells cs T (0,0)))
  (hc : ∀(W:World) (s:Nat),s≤4294967295→W.heap[B0]? = some (.cells cs T (0,0))→Calls prog gf #[.int .u32 s,.pointer (some ⟨B0,0,none⟩)] W fun e w'=>e=.returned (.bool (g s))∧W=w') :
  ue prog gf #[.pointer (some ⟨B0,0,none⟩)] (fun _ s=>g s) (fun _=>False) (fun _ W=>W.heap[B0]? = some (.cells cs T (0,0))) w :=
 ⟨he,fun pre s W hs hJ=>(yl.2 (hc W s hs hJ)).mono (fun e w' ⟨h1,h2⟩=>by subst h2;exact⟨h1,hJ,xb.refl _ _⟩),fun pre A B hJ hm=>hm.heap (fun hk=>by have:=hk.1;omega) hJ,fun _ h=>h.elim,hb⟩
def vZ(Gs:List Grp)(sum:Nat)(g:Nat→Bool):Option (Nat × Nat):=(xr Gs sum).find? (fun x=>g (zR Gs x))
def Vp(w:World)(D:Nat→Prop)(p:Nat)(sv:Value)(Gs:List Grp)(sum:Nat)(g:Nat→Bool)(B:Nat)(e:Ending)(w':World):Prop :=
 zb w w'∧yd w' D p sv Gs ∧
 match vZ Gs sum g with
 | some x=>x.1<Gs.length∧x.2<8∧x∈xr Gs sum∧g (zR Gs x)=true∧e=.returned (.tuple #[.pointer (some ⟨B,x.1*9,none⟩),.int .i64 x.2,.int .i64 0])
 | none=>e=.returned (.tuple #[.pointer none,.int .i64 0,.int .i64 9])
theorem Xx{g:Nat→Bool}{xs:List Nat}(h:uR (fun _ s=>g s) xs) : ∀ x∈xs,g x=false:=fun x hx=>by
 obtain⟨a,c,rfl⟩:=List.append_of_mem hx;exact h a x c rfl
theorem zdA{w w':World}{D:Nat→Prop}{p:Nat}{sv:Value}{Gs:List Grp}{sum:Nat}{g:Nat→Bool}{J:List Nat→World→Prop}{B:Nat}{e:Ending}(h:Kp w D p sv Gs sum (fun _ s=>g s) (fun _=>False) J B e w'):Vp w D p sv Gs sum g B e w':=by
 obtain⟨h1,h2,h3⟩:=h;refine⟨Mod.mono h1 (fun k _ ⟨_,_,_,_,hf⟩=>hf),h2,?_⟩;rcases h3 with⟨a,x,post,hs,hf,hg,hi,hj,he,_⟩ | ⟨hf,he,_⟩
 ·have:vZ Gs sum g=some x:=by
   unfold vZ;rw[hs,List.find?_append,kY.2 (fun y hy=>by
    have:=Xx hf (zR Gs y) (zD.2 ⟨y,hy,rfl⟩);simp[this])]
   simp[hg]
  rw[this];exact⟨hi,hj,by rw[hs];simp,hg,he⟩
 ·have:vZ Gs sum g=none:=by
   unfold vZ;exact kY.2 (fun y hy=>by
    have:=Xx hf (zR Gs y) (zD.2 ⟨y,hy,rfl⟩);simp[this])
  rw[this];exact he
theorem JM(i:Nat):2*(i*(i+1)/2)=i*(i+1):=by
 rcases Nat.mod_two_eq_zero_or_one i with h | h
 ·have:i*(i+1)%2=0:=by simp[Nat.mul_mod,h]
  omega
 ·have:i*(i+1)%2=0:=by simp[Nat.mul_mod,Nat.add_mod,h]
  omega
theorem ze7{a i i':Nat}(h:i'+i+1=2*a):i'*(i'+1)/2+a*(2*i+1)=2*(a*a)+i*(i+1)/2:=by
 have h1:=JM i;have h2:=JM i';have e1:2*(a*(2*i+1))=(i'+i+1)*(2*i+1):=by rw[h,Nat.mul_assoc]
 have e2:2*(2*(a*a))=(i'+i+1)*(i'+i+1):=by rw[h];simp only[Nat.mul_assoc,Nat.mul_left_comm]
 have c:i'*i=i*i':=Nat.mul_comm _ _;simp only[Nat.mul_add,Nat.add_mul,Nat.mul_one,Nat.one_mul]at *;have c1:i'*(2*i)=2*(i*i'):=by rw[Nat.mul_left_comm,c]
 have c2:i*(2*i)=2*(i*i):=by rw[Nat.mul_left_comm]
 omega
theorem zbs(part:Nat) : ∀(k t:Nat),t<2 ^ k → ∃ i,i<2 ^ k∧(part+i*(i+1)/2)%2 ^ k=t
 | 0,t,h=>⟨0,by decide,by simp at h;subst h;simp[Nat.mod_one]⟩
 | k+1,t,h=>by
  obtain⟨i,hi,e⟩:=zbs part k (t%2 ^ k) (xY _ (Nat.pow_pos (by decide)));have hp:2 ^ (k+1)=2 ^ k*2:=qi 2 k;have hf := @ze7 (2 ^ k) i (2*2 ^ k-1-i) (by omega);generalize 2 ^ k=a at *;rw[hp]at h ⊢;have hm:(part+i*(i+1)/2)%(a*2)=t∨(part+i*(i+1)/2)%(a*2)+a=t∨(part+i*(i+1)/2)%(a*2)=t+a:=by
   have h1:=Nat.mod_mul_right_mod (part+i*(i+1)/2) a 2;rw[e]at h1;have h2:(part+i*(i+1)/2)%(a*2)<a*2:=xY _ (by omega);generalize(part+i*(i+1)/2)%(a*2)=y at *;have hy:y=y%a∨y=y%a+a:=by
    by_cases c:y<a
    ·left;rw[xB c]
    ·right;rw[Nat.mod_eq_sub_mod (by omega),xB (by omega)];omega
   have ht:t=t%a∨t=t%a+a:=by
    by_cases c:t<a
    ·left;rw[xB c]
    ·right;rw[Nat.mod_eq_sub_mod (by omega),xB (by omega)];omega
   omega
  by_cases hd:(part+i*(i+1)/2)%(a*2)=t
  ·exact⟨i,by omega,hd⟩
  ·refine⟨2*a-1-i,by omega,?_⟩;generalize(2*a-1-i)*(2*a-1-i+1)/2=u at *;have hz:(part+i*(i+1)/2)%(a*2)+a=t∨(part+i*(i+1)/2)%(a*2)=t+a:=by
    rcases hm with h | h | h
    ·exact absurd h hd
    ·exact .inl h
    ·exact .inr h
   generalize hT:i*(i+1)/2=T at *
   -- part + u + a*(2i+1) = part + T + 2a*a
   have h3:part+u+a+(a*2)*i=part+T+(a*2)*a:=by
    have e1:a*(2*i+1)=a*2*i+a:=by rw[Nat.mul_add,j3,Nat.mul_assoc]
    have e2:a*2*a=2*(a*a):=by rw[Nat.mul_comm a 2,Nat.mul_assoc]
    omega
   have h4:(part+u+a)%(a*2)=(part+T)%(a*2):=by
    have:=congrArg (· % (a*2)) h3;simpa[Nat.add_mul_mod_self_left]using this
   have h5:=Nat.div_add_mod (part+u) (a*2);have h6:(part+u)%(a*2)<a*2:=xY _ (by omega);generalize(part+u)%(a*2)=v at *;rw[← h5,Nat.add_assoc,Nat.mul_add_mod_self_left]at h4;generalize(part+T)%(a*2)=y at *;by_cases c:v+a<a*2
   ·rw[xB c]at h4;omega
   ·rw[Nat.mod_eq_sub_mod (by omega),xB (by omega)]at h4;omega
theorem zeW{g:Nat}(hg:Pow g)(part:Nat){i:Nat}(hi:i<g):i∈xF part g:=by
 obtain⟨k,_,rfl⟩:=hg;obtain⟨n,hn,e⟩:=zbs part k i hi;exact zD.2 ⟨n,j5.2 hn,e⟩
theorem Xs{g:Nat}(hg:0<g)(part:Nat){i:Nat}(hi:i∈xF part g):i<g:=by
 obtain⟨n,_,rfl⟩:=zD.1 hi;exact xY _ hg
structure vt(Gs:List Grp)(i j t s:Nat):Prop where
 hi:i<Gs.length
 hj:j<8
 tag:(zk Gs i).1[j]? = some t
 full:t<128
 slot:zR Gs (i,j)=s
theorem Qh{c:Grp}(h:xN c)(tag j:Nat):j∈k9 c tag↔j<8∧c.1[j]? = some tag:=by
 unfold k9;rw[Jo (by simp[h.ctl.1])];simp only[List.mem_filter,List.mem_range,List.getD_eq_getElem?_getD,List.getElem?_map]
 cases c.1[j]? <;> simp
theorem zba{Gs:List Grp}{tag:Nat} : ∀ {L:List Nat} {x:Nat × Nat},x∈kI Gs tag L→x.1∈L∧x.2∈k9 (zk Gs x.1) tag
 | [],_,h=>by simp[kI]at h
 | i::r,x,h=>by
  simp only[kI,List.mem_append,List.mem_map]at h;rcases h with⟨j,hj,rfl⟩ | h
  ·exact⟨by simp,hj⟩
  ·split at h
   ·simp at h
   ·have:=zba h;exact⟨by simp[this.1],this.2⟩
theorem XG{Gs:List Grp}(h:xo Gs){sum:Nat}{x:Nat × Nat}(hx:x∈xr Gs sum):vt Gs x.1 x.2 (sum%128) (zR Gs x):=by
 obtain⟨h1,h2⟩:=zba hx;have hi:=Xs h.pow.pos _ h1;obtain⟨h3,h4⟩:=(Qh (h.at hi) _ _).1 h2;exact⟨hi,h3,h4,xY _ (by decide),rfl⟩
theorem zfU{Gs:List Grp}(h:xo Gs){sum i j s:Nat}(hf:vt Gs i j (sum%128) s){pre post:List Nat}(hp:xF (sum/128) Gs.length=pre++i::post)(hb : ∀ k∈pre,vE (zk Gs k)=false):(i,j)∈xr Gs sum:=by
 unfold xr;rw[hp,VS pre i post hb];simp only[List.mem_append,List.mem_map];exact .inr (.inl ⟨j,(Qh (h.at hf.hi) _ _).2 ⟨hf.hj,hf.tag⟩,rfl⟩)
structure yx(H:Nat→Nat)(S:Nat→Prop)(Gs:List Grp):Prop where
 ok:xo Gs
 tag : ∀ i j t s,vt Gs i j t s→t=H s%128
 reach : ∀ i j t s,vt Gs i j t s → ∃ pre post,xF (H s/128) Gs.length=pre++i::post ∧ ∀ k∈pre,vE (zk Gs k)=false
 uniq : ∀ i j t i' j' t' s,vt Gs i j t s→vt Gs i' j' t' s→i=i'∧j=j'
 mem : ∀ s,S s ↔ ∃ i j t,vt Gs i j t s
theorem yx.of_iff{H:Nat→Nat}{S S':Nat→Prop}{Gs:List Grp}(h:yx H S Gs)(hs : ∀ s,S s↔S' s):yx H S' Gs :=
 ⟨h.ok,h.tag,h.reach,h.uniq,fun s=>(hs s).symm.trans (h.mem s)⟩
section
variable{H:Nat→Nat}{S:Nat→Prop}{Gs:List Grp}
theorem yx.find_none(h:yx H S Gs){s:Nat}(hs : ¬ S s):vZ Gs (H s) (fun x=>x==s)=none:=by
 unfold vZ;refine kY.2 (fun x hx => ?_);intro e;have e':zR Gs x=s:=by simpa using e
 exact hs ((h.mem s).2 ⟨_,_,_,e' ▸ XG h.ok hx⟩)
theorem yx.find_some(h:yx H S Gs){s:Nat}(hs:S s) : ∃ i j,vZ Gs (H s) (fun x=>x==s)=some (i,j)∧vt Gs i j (H s%128) s:=by
 obtain⟨i,j,t,hf⟩:=(h.mem s).1 hs;have ht:=h.tag _ _ _ _ hf;subst ht;obtain⟨pre,post,hp,hb⟩:=h.reach _ _ _ _ hf;have hm:=zfU h.ok hf hp hb;unfold vZ
 cases hc:(xr Gs (H s)).find? (fun x=>zR Gs x==s)with
 | none =>
  have:=kY.1 hc _ hm;rw[hf.slot]at this;simp at this
 | some x =>
  have h1:=Y9 hc;have h2:=XG h.ok (qk hc);have h3:zR Gs x=s:=by simpa using h1
  exact⟨x.1,x.2,rfl,h3 ▸ h2⟩
theorem zaJ{i j t s:Nat}(hi:i<Gs.length)(hg:xN (zk Gs i))(hj:j<8)(i' j' t' s':Nat) :
  vt (yw Gs i j t s) i' j' t' s'↔(i'=i∧j'=j∧t'=t∧t<128∧s'=s)∨(¬ (i'=i∧j'=j)∧vt Gs i' j' t' s'):=by
 have hl1:j<(zk Gs i).1.length:=by rw[hg.ctl.1];exact hj
 have hl2:j<(zk Gs i).2.length:=by rw[hg.len];exact hj
 constructor
 ·rintro⟨h1,h2,h3,h4,h5⟩;rw[jD]at h1;unfold zR at h5;rw[Ya hi]at h3 h5;dsimp only at h5;by_cases e:i'=i
  ·rw[zh e]at h3 h5;unfold uu at h3 h5;dsimp only at h3 h5;by_cases ej:j'=j
   ·subst ej;rw[yj hl1]at h3;rw[vF,yj hl2]at h5
    cases h3
    exact .inl ⟨e,rfl,rfl,h4,by simpa using h5.symm⟩
   ·rw[yq (fun c=>ej c.symm)]at h3;rw[vF,yq (fun c=>ej c.symm)]at h5;refine .inr ⟨fun c=>ej c.2,⟨h1,h2,by rw[e];exact h3,h4,?_⟩⟩;unfold zR;dsimp only;rw[e,vF];exact h5
  ·rw[zf e]at h3 h5;exact .inr ⟨fun c=>e c.1,⟨h1,h2,h3,h4,h5⟩⟩
 ·rintro(⟨rfl,rfl,rfl,h4,rfl⟩ | ⟨hn,h1,h2,h3,h4,h5⟩)
  ·refine⟨by rw[jD];exact hi,hj,?_,h4,?_⟩
   ·rw[Ya hi,zh rfl];exact yj hl1
   ·unfold zR;dsimp only;rw[Ya hi,zh rfl,vF];unfold uu;dsimp only;rw[yj hl2]
    rfl
  ·refine⟨by rw[jD];exact h1,h2,?_,h4,?_⟩
   ·rw[Ya hi];by_cases e:i'=i
    ·rw[zh e];unfold uu;dsimp only;rw[yq (fun c=>hn ⟨e,c.symm⟩),← e];exact h3
    ·rw[zf e];exact h3
   ·unfold zR at h5 ⊢;dsimp only at h5 ⊢;rw[Ya hi];by_cases e:i'=i
    ·rw[zh e];unfold uu;dsimp only;rw[vF,yq (fun c=>hn ⟨e,c.symm⟩),← e,← vF];exact h5
    ·rw[zf e];exact h5
theorem zbJ{i j t s k:Nat}(hi:i<Gs.length)(ht:t=128→vE (zk Gs i)=true)(hb:vE (zk Gs k)=false):vE (zk (yw Gs i j t s) k)=false:=by
 rw[Ya hi];by_cases e:k=i
 ·subst e;rw[zh rfl];unfold vE uu at *;dsimp only;rw[List.any_eq_false]at hb ⊢;intro x hx;rcases jo hx with h | rfl
  ·exact hb x h
  ·intro c;have:=ht (by simpa using c);rw[List.any_eq_true]at this;obtain⟨y,hy,hy2⟩:=this;exact hb y hy hy2
 ·rw[zf e];exact hb
theorem Ko{tag slot:Nat} : ∀ {L:List Nat} {Gs':List Grp},kj Gs tag slot L=some Gs' →
  ∃ pre i post,L=pre++i::post∧(∀ k∈pre,xC (zk Gs k)=8)∧xC (zk Gs i)≠8∧Gs'=yw Gs i (xC (zk Gs i)) tag slot
 | [],_,h=>by simp[kj]at h
 | i::r,Gs',h=>by
  unfold kj at h;by_cases e:xC (zk Gs i)=8
  ·rw[zh e]at h;obtain⟨pre,i',post,rfl,h2,h3,h4⟩:=Ko h;exact⟨i::pre,i',post,rfl,fun k hk=>by
    rcases yp.1 hk with rfl | hk
    ·exact e
    ·exact h2 k hk,h3,h4⟩
  ·rw[zf e]at h
   cases h
   exact⟨[],i,r,rfl,by simp,e,rfl⟩
theorem zaX{tag slot:Nat} : ∀ {L:List Nat},kj Gs tag slot L=none ↔ ∀ k∈L,xC (zk Gs k)=8
 | []=>by simp[kj]
 | i::r=>by
  unfold kj;by_cases e:xC (zk Gs i)=8
  ·rw[zh e,zaX];simp[e]
  ·rw[zf e];simp[e]
theorem zbj{c:Grp}(h:xN c)(hf:xC c≠8):xC c<8:=by
 have:xC c≤c.1.length:=List.findIdx_le_length;rw[h.ctl.1]at this;omega
theorem K9{c:Grp}(h:xN c):xC c=8 ↔ ∀ x∈c.1,x<128:=by
 unfold xC;rw[← h.ctl.1,List.findIdx_eq_length];simp
theorem zh3{c:Grp}(h:xN c)(hf:xC c=8):vE c=false:=by
 unfold vE;rw[List.any_eq_false];intro x hx;have:=(K9 h).1 hf x hx;simp;omega
theorem Uj{sum slot:Nat}{Gs':List Grp}(h:xo Gs)(hs:slot≤4294967295)(he:vw Gs sum slot=some Gs'):zB Gs'=zB Gs+1∧Gs'.length=Gs.length∧xo Gs'∧yc Gs'≤yc Gs:=by
 obtain⟨pre,i,post,hp,hpre,hf,rfl⟩:=Ko he;have hi:i<Gs.length:=Xs h.pow.pos (sum/128) (by rw[hp];simp);have hg:=h.at hi;have hj:=zbj hg hf;have h128:=Kh hg.ctl rfl hj;have ht:sum%128<128:=xY _ (by decide);refine⟨?_,jD ..,h.put (.inl ht) hs,?_⟩
 ·unfold xC;rcases h128 with e | e
  ·simpa[ht]using XT (t:=sum%128) (s:=slot) hi e
  ·simpa[ht]using XT (t:=sum%128) (s:=slot) hi e
 ·have n254:(sum%128==254)=false:=by simp;omega
  rcases h128 with e | e
  ·have:=XS (t:=sum%128) (s:=slot) hi e;rw[n254]at this;simp at this;unfold xC at *;omega
  ·have:=XS (t:=sum%128) (s:=slot) hi e;rw[n254]at this;simp at this;unfold xC at *;omega
theorem yx.ins(h:yx H S Gs){s:Nat}(hs:s≤4294967295)(hn : ¬ S s){Gs':List Grp}(he:vw Gs (H s) s=some Gs'):yx H (fun x=>x=s∨S x) Gs':=by
 have hok:=(Uj h.ok hs he).2.2.1;obtain⟨pre,i,post,hp,hpre,hf,rfl⟩:=Ko he;have hi:i<Gs.length:=Xs h.ok.pow.pos (H s/128) (by rw[hp];simp);have hg:=h.ok.at hi;have hj:=zbj hg hf;have ht:H s%128<128:=xY _ (by decide);have hfull:=fun i' j' t' s'=>zaJ (t:=H s%128) (s:=s) hi hg hj i' j' t' s'
 have hbl:=fun k=>zbJ (j:=xC (zk Gs i)) (t:=H s%128) (s:=s) (k:=k) hi (fun c=>by omega)
 have hpr : ∀ k∈pre,vE (zk Gs k)=false:=fun k hk=>zh3 (h.ok.at (Xs h.ok.pow.pos (H s/128) (by rw[hp];simp[hk]))) (hpre k hk)
 refine⟨hok,?_,?_,?_,?_⟩
 ·intro i' j' t' s' hF;rcases(hfull _ _ _ _).1 hF with⟨_,_,rfl,_,rfl⟩ | ⟨_,hF⟩
  ·rfl
  ·exact h.tag _ _ _ _ hF
 ·intro i' j' t' s' hF;rw[jD];rcases(hfull _ _ _ _).1 hF with⟨rfl,_,rfl,_,rfl⟩ | ⟨_,hF⟩
  ·exact⟨pre,post,hp,fun k hk=>hbl k (hpr k hk)⟩
  ·obtain⟨pre',post',h1,h2⟩:=h.reach _ _ _ _ hF;exact⟨pre',post',h1,fun k hk=>hbl k (h2 k hk)⟩
 ·intro i1 j1 t1 i2 j2 t2 s' hF1 hF2;rcases(hfull _ _ _ _).1 hF1 with⟨a1,a2,a3,_,a4⟩ | ⟨_,hG1⟩<;>rcases(hfull _ _ _ _).1 hF2 with⟨b1,b2,b3,_,b4⟩ | ⟨_,hG2⟩
  ·exact⟨a1.trans b1.symm,a2.trans b2.symm⟩
  ·exact absurd ((h.mem _).2 ⟨_,_,_,a4 ▸ hG2⟩) hn
  ·exact absurd ((h.mem _).2 ⟨_,_,_,b4 ▸ hG1⟩) hn
  ·exact h.uniq _ _ _ _ _ _ _ hG1 hG2
 ·intro x;constructor
  ·rintro(rfl | hx)
   ·exact⟨_,_,_,(hfull _ _ _ _).2 (.inl ⟨rfl,rfl,rfl,ht,rfl⟩)⟩
   ·obtain⟨i',j',t',hF⟩:=(h.mem x).1 hx;refine⟨i',j',t',(hfull _ _ _ _).2 (.inr ⟨?_,hF⟩)⟩;rintro⟨rfl,rfl⟩;have h128:=Kh hg.ctl rfl hj;have:=hF.full;rcases h128 with e | e
    ·have:=hF.tag;unfold xC at this;rw[e]at this;cases this;omega
    ·have:=hF.tag;unfold xC at this;rw[e]at this;cases this;omega
  ·rintro⟨i',j',t',hF⟩;rcases(hfull _ _ _ _).1 hF with⟨_,_,_,_,rfl⟩ | ⟨_,hF⟩
   ·exact .inl rfl
   ·exact .inr ((h.mem _).2 ⟨_,_,_,hF⟩)
def vy(Gs:List Grp)(i j:Nat):List Grp:=yw Gs i j (yF (zk Gs i).1) 0
theorem zkM{l:List Nat}(h:yF l=128):l.any (· == 128)=true:=by
 unfold yF at h;split at h
 ·assumption
 ·cases h
theorem X7(l:List Nat):yF l=128∨yF l=254:=by unfold yF;split<;>simp
theorem Ui(h:xo Gs){i j t s:Nat}(hf:vt Gs i j t s):zB (vy Gs i j)+1=zB Gs∧(vy Gs i j).length=Gs.length∧xo (vy Gs i j):=by
 have h1:=XT (t:=yF (zk Gs i).1) (s:=0) hf.hi hf.tag;have h2:=X7 (zk Gs i).1;have h3:decide (yF (zk Gs i).1<128)=false:=by simp;omega
 rw[h3]at h1;refine⟨?_,jD ..,h.put (.inr h2) (by omega)⟩;unfold vy;simpa[hf.full]using h1
theorem yx.del(h:yx H S Gs){i j t s:Nat}(hf:vt Gs i j t s):yx H (fun x=>x≠s∧S x) (vy Gs i j):=by
 have hok:=(Ui h.ok hf).2.2;have hfull:=fun i' j' t' s'=>zaJ (t:=yF (zk Gs i).1) (s:=0) hf.hi (h.ok.at hf.hi) hf.hj i' j' t' s'
 have hbl:=fun k=>zbJ (j:=j) (t:=yF (zk Gs i).1) (s:=0) (k:=k) hf.hi (fun c=>zkM c)
 have h2:=X7 (zk Gs i).1;have back : ∀ i' j' t' s',vt (vy Gs i j) i' j' t' s' → ¬ (i'=i∧j'=j)∧vt Gs i' j' t' s':=fun i' j' t' s' hF=>by
  rcases(hfull _ _ _ _).1 hF with⟨_,_,_,h128,_⟩ | hF
  ·omega
  ·exact hF
 refine⟨hok,fun i' j' t' s' hF=>h.tag _ _ _ _ (back _ _ _ _ hF).2,fun i' j' t' s' hF => ?_,fun i1 j1 t1 i2 j2 t2 s' hF1 hF2=>h.uniq _ _ _ _ _ _ _ (back _ _ _ _ hF1).2 (back _ _ _ _ hF2).2,fun x => ?_⟩
 ·obtain⟨pre',post',h3,h4⟩:=h.reach _ _ _ _ (back _ _ _ _ hF).2;unfold vy;rw[jD];exact⟨pre',post',h3,fun k hk=>hbl k (h4 k hk)⟩
 ·constructor
  ·rintro⟨hx,hS⟩;obtain⟨i',j',t',hF⟩:=(h.mem x).1 hS;refine⟨i',j',t',(hfull _ _ _ _).2 (.inr ⟨?_,hF⟩)⟩;rintro⟨rfl,rfl⟩;have e1:=hF.slot;have e2:=hf.slot;exact hx (e1.symm.trans e2)
  ·rintro⟨i',j',t',hF⟩;obtain⟨hne,hF⟩:=back _ _ _ _ hF;refine⟨?_,(h.mem x).2 ⟨_,_,_,hF⟩⟩;rintro rfl;exact hne (h.uniq _ _ _ _ _ _ _ hF hf)
theorem QC{p:Nat→Bool} : ∀ {Gs:List Grp},(∀ c∈Gs,xN c)→((Gs.map (fun c=>c.1.countP p)).sum=8*Gs.length ↔ ∀ c∈Gs,∀ x∈c.1,p x=true)
 | [],_=>by simp
 | c::Gs,h=>by
  have h1:=QC (p:=p) (Gs:=Gs) (fun c hc=>h c (by simp[hc]));have h2:c.1.countP p≤c.1.length:=VE;have h3:=YS p (Gs:=Gs) (fun c hc=>h c (by simp[hc]));have h4:c.1.countP p=c.1.length ↔ ∀ x∈c.1,p x=true:=List.countP_eq_length;rw[(h c (by simp)).ctl.1]at h2 h4;simp only[List.map_cons,List.sum_cons,List.length_cons,List.forall_mem_cons];rw[← h1,← h4];omega
theorem Jz(h:xo Gs)(sum slot:Nat):vw Gs sum slot=none↔zB Gs=8*Gs.length:=by
 unfold vw;rw[zaX];unfold zB;rw[QC h.grp];constructor
 ·intro hk c hc x hx;obtain⟨i,hi⟩:=vV hc;have hl:i<Gs.length:=(zC.1 hi).1;have e:zk Gs i=c:=by have:=vK hl;rw[hi]at this;cases this;rfl
  have:=(K9 (h.at hl)).1 (hk i (zeW h.pow _ hl));rw[e]at this;simpa using this x hx
 ·intro hk i hi;have hl:=Xs h.pow.pos _ hi;refine(K9 (h.at hl)).2 (fun x hx => ?_);simpa using hk _ (yh (vK hl)) x hx
theorem zbi(h:xo Gs):zB Gs≤8*Gs.length:=YS _ h.grp
end
theorem zgm{g i:Nat}(hi:i<g):zk (xf g) i=kZ:=by
 unfold zk xf;rw[vF];simp[hi]
theorem VM{g i j t s:Nat} : ¬ vt (xf g) i j t s:=fun h=>by
 have hi:i<g:=by have:=h.hi;simpa[xf]using this
 have h1:=h.tag;rw[zgm hi]at h1;have:=yh h1;have h2 : ∀ x∈kZ.1,x=128:=by decide
 have:=h2 _ this;have:=h.full;omega
theorem newG_holds(H:Nat→Nat){g:Nat}(hg:Pow g):yx H (fun _=>False) (xf g) :=
 ⟨zaU hg,fun _ _ _ _ h=>absurd h VM,fun _ _ _ _ h=>absurd h VM,fun _ _ _ _ _ _ _ h=>absurd h VM,fun _=>⟨fun h=>h.elim,fun⟨_,_,_,h⟩=>VM h⟩⟩
theorem zcU{w:World}{D:Nat→Prop}{p:Nat}{sv:Value}{Gs:List Grp}(h:yd w D p sv Gs)(sum:Nat)(hsum:sum<18446744073709551616){gf:Nat}{lb:Array Value}{g:Nat→Bool}{J:List Nat→World→Prop}
  (hs:ue prog gf lb (fun _ s=>g s) (fun _=>False) J w) {B c:Nat} (hsv:sv=.slice (some ⟨B,0,none⟩) Gs.length c) :
  Calls prog 143 #[.pointer (some ⟨p,0,none⟩),.int .u64 sum,.func (.func gf) #[] lb] w (Vp w D p sv Gs sum g B) :=
 (zah h sum hsum hs).mono (fun e w' ⟨B',c',e1,hp⟩=>by
  rw[hsv]at e1
  cases e1
  exact zdA hp)
theorem ziO{W2 W3 W5:World}{D:Nat→Prop}{p B c i j t s:Nat}{Gs:List Grp}{n' t':Int}(h:yd W2 D p (.slice (some ⟨B,0,none⟩) Gs.length c) Gs)(hi:i<Gs.length)(hj:j<8)
  (ht:t<128∨t=128∨t=254) (hsl:s≤4294967295) (hu:n'=zB (yw Gs i j t s)) (hu2:t'=yc (yw Gs i j t s)) (h3:Mod (fun k=>k=B) W2 W3)
  (h3r:W3.ownsRow 0 249 9 (.slice (some ⟨B,0,none⟩) Gs.length c) Gs.length (((Gs.flatMap yK).set (i*9) (.int .u64 (zz ((zk Gs i).1.set j t)))).set (i*9+1+j) (.int .u32 s)))
  (h5:Mod (fun k=>k=p) W3 W5) (h5b:W5.heap[p]? = some (.cells #[.slice (some ⟨B,0,none⟩) Gs.length c,.int .i64 n',.int .i64 t'] 293 (0,0))) :
  yd W5 D p (.slice (some ⟨B,0,none⟩) Gs.length c) (yw Gs i j t s)∧Mod D W2 W5:=by
 have hpB:p≠B:=fun e=>by
  obtain⟨cc,e2⟩:=ym h.row (g:=B) rfl;have:=h.box;rw[e,e2]at this;cases this
 refine⟨⟨?_,?_,h.dd,h.ok.put ht hsl⟩,?_⟩
 ·rw[h5b,hu,hu2]
 ·rw[jD,← zbd (t:=t) (s:=s) (h.ok.at hi) hi hj _ rfl];exact zA h3r h5 (fun g hg e=>by
   have:B=g:=by simpa[Value.ownBlock]using hg
   exact hpB (e.symm.trans this.symm))
 ·exact(h3.mono (fun k _ e=>by subst e;exact(h.dd k).2 (.inr rfl)):Mod D W2 W3).then h5 (fun k _ e=>by subst e;exact(h.dd k).2 (.inl rfl))
def Uq(w:World)(D:Nat→Prop)(p:Nat)(sv:Value)(Gs:List Grp)(sum:Nat)(f:List Nat→Nat→Bool)(C:TypeId→Prop)(J:List Nat→World→Prop)(e:Ending)(w':World):Prop :=
  xb C w w'∧yd w' D p sv Gs ∧
  ((∃ a x post,xr Gs sum=a++x::post∧uR f (a.map (zR Gs))∧f (a.map (zR Gs)) (zR Gs x)=true ∧
    e=.returned (.tuple #[.int .u32 (zR Gs x),.int .i64 0])∧J ((a++[x]).map (zR Gs)) w') ∨
   (uR f ((xr Gs sum).map (zR Gs))∧e=.returned (.tuple #[.int .u32 0,.int .i64 9])∧J ((xr Gs sum).map (zR Gs)) w'))
theorem J5{P:Program}(w:World)(d:Nat)(t:TypeId){ps rs:Array TypeId}{v:Bool}(fn:Fn)(fi ca:Array Value)(h:P.underlying t=some (.func ps rs v)):(Op.equalIn (d+1) t (.func fn fi ca) .nilFunc).run P w=.ok false w:=by
 simp[Op.equalIn,run_underlying h]
@[go_sem] theorem zld (w : World) (fn : Fn) (fi ca : Array Value) : (binOp .eql 163 (.func fn fi ca) .nilFunc).run prog w=.ok (.bool false) w := by
 simp only[binOp];simp[Op.equal,Op.maxDepth,J5 w 9999 _ fn fi ca underlying163]
theorem zkz{w:World}{D:Nat→Prop}{p:Nat}{sv:Value}{Gs:List Grp}(h:yd w D p sv Gs)(sum:Nat)(hsum:sum<18446744073709551616){gf:Nat}{lb:Array Value}{f:List Nat→Nat→Bool}{C:TypeId→Prop}{J:List Nat→World→Prop}
  (hs:ue prog gf lb f C J w) :
  Calls prog 92 #[.pointer (some ⟨p,0,none⟩),.int .u64 sum,.func (.func gf) #[] lb] w (Uq w D p sv Gs sum f C J):=by
 have HF:=za (zah h sum hsum hs);obtain⟨B,c,rfl,hc,hB,hDB,hBf,hcells⟩:=h.at;have zp:=h.box;have HZ:=za (fun(hW:w.cell? ⟨p,0,none⟩=_)=>qT (w:=w) (c:=c) (a:=some ⟨B,0,none⟩) hW h.ok.pow.pos h.ok.pow.le);clear hcells h hs hBf;obtain⟨zp_0,zp_1,zp_2,zp_f,zp_l,H_zp⟩:=cr3 zp;clear zp;go_enter func92,ntmps92;go_upto_region 3 with(go_at_call 142;refine(HZ.out zp_0).mono ?_;rintro e w' ⟨rfl,rfl⟩)
 go_upto_region 5 with fail
 go_upto_region 6 with(go_at_call 143;refine HF.out.mono ?_;rintro e w2 ⟨B',c',hsv,hm,hix,⟨a,x,post,h1,h2,h3,h4,h5,rfl,h7⟩ | ⟨h1,rfl,h7⟩⟩)
 ·obtain⟨B3,c3,hsv3,_,hB3,hDB3,hBf3,hcells3⟩:=hix.at
  cases hsv3
  have zs:=(hcells3 x.1 h4).2 x.2 h5;rw[show x.1*9+(x.2+1)=x.1*9+1+x.2 by omega]at zs;have x0:(0:Int)≤x.2:=by omega
  have x1:(x.2:Int)<8:=by omega
  have HP:=za (And.intro h1 (And.intro h2 (And.intro h3 (And.intro h7 (And.intro hm hix)))));have e6:zR Gs x=(zk Gs x.1).2.getD x.2 0:=rfl;rw[← e6]at zs;clear h1 h2 h3 h7 hcells3 hm hix e6;obtain⟨sx,hsx⟩:=zc (zR Gs x);rw[hsx]at zs;go_wp2;rw[← hsx];exact zM (v := .tuple #[.int .u32 (zR Gs x),.int .i64 0]) (by simp[results,results92,go_sem]) rfl ⟨HP.out.2.2.2.2.1,HP.out.2.2.2.2.2,.inl ⟨a,x,post,HP.out.1,HP.out.2.1,HP.out.2.2.1,rfl,HP.out.2.2.2.1⟩⟩
 ·have HP:=za (And.intro h1 (And.intro h7 (And.intro hm hix)));clear h1 h7 hm hix;go_wp2;exact zM (v := .tuple #[.int .u32 0,.int .i64 9]) (by simp[results,results92,go_sem]) rfl ⟨HP.out.2.2.1,HP.out.2.2.2,.inr ⟨HP.out.1,rfl,HP.out.2.1⟩⟩
theorem zgX{w w':World}{D:Nat→Prop}{p:Nat}{sv:Value}{Gs:List Grp}{sum:Nat}{g:Nat→Bool}{B:Nat}{e:Ending}(h:Vp w D p sv Gs sum g B e w'){i j:Nat}(hf:vZ Gs sum g=some (i,j)) :
  e=.returned (.tuple #[.pointer (some ⟨B,i*9,none⟩),.int .i64 j,.int .i64 0])∧zb w w'∧yd w' D p sv Gs∧vt Gs i j (sum%128) (zR Gs (i,j)):=by
 obtain⟨h1,h2,h3⟩:=h;rw[hf]at h3;exact⟨h3.2.2.2.2,h1,h2,XG h2.ok h3.2.2.1⟩
theorem zcW{w w':World}{D:Nat→Prop}{p:Nat}{sv:Value}{Gs:List Grp}{sum:Nat}{g:Nat→Bool}{B:Nat}{e:Ending}(h:Vp w D p sv Gs sum g B e w')(hf:vZ Gs sum g=none) :
  e=.returned (.tuple #[.pointer none,.int .i64 0,.int .i64 9])∧zb w w'∧yd w' D p sv Gs:=by
 obtain⟨h1,h2,h3⟩:=h;rw[hf]at h3;exact⟨h3,h1,h2⟩
theorem zh2{Gs:List Grp}(h:xo Gs){i j t s:Nat}(hf:vt Gs i j t s) :
  (zI (((zk Gs i).1.set j (yF (zk Gs i).1)).map (· == 128))=0∧yc (yw Gs i j (yF (zk Gs i).1) 0)=yc Gs+1) ∨
  (1≤zI (((zk Gs i).1.set j (yF (zk Gs i).1)).map (· == 128))∧yc (yw Gs i j (yF (zk Gs i).1) 0)=yc Gs):=by
 have hg:=h.at hf.hi;have h2:=XS (t:=yF (zk Gs i).1) (s:=0) hf.hi hf.tag;have n254:(t==254)=false:=by simp;have:=hf.full;omega
 rw[n254]at h2;have h3:=UU (p:=((zk Gs i).1.set j (yF (zk Gs i).1)).map (· == 128)) (by simp[hg.ctl.1]);have hlj:j<(zk Gs i).1.length:=by rw[hg.ctl.1];exact hf.hj
 by_cases hb:(zk Gs i).1.any (· == 128)=true
 ·have he:yF (zk Gs i).1=128:=by unfold yF;rw[zh hb]
  rw[he]at h2 h3 ⊢
  right
  refine⟨?_,by simpa using h2⟩;have : ¬ (zI (((zk Gs i).1.set j 128).map (· == 128))=0):=by
   intro c;rw[c]at h3;have h4:(((zk Gs i).1.set j 128).map (· == 128)).any id=false:=by simpa using h3
   rw[List.any_eq_false]at h4;have hm:(128:Nat)∈(zk Gs i).1.set j 128:=yh (i:=j) (yj hlj);exact h4 true (zD.2 ⟨128,hm,rfl⟩) rfl
  omega
 ·have he:yF (zk Gs i).1=254:=by unfold yF;rw[zf hb]
  rw[he]at h2 h3 ⊢
  left
  refine⟨?_,by simpa using h2⟩;have h5:(((zk Gs i).1.set j 254).map (· == 128)).any id=false:=by
   rw[List.any_eq_false];intro x hx c;obtain⟨y,hy,rfl⟩:=zD.1 hx;rcases jo hy with h6 | rfl
   ·exact hb (List.any_eq_true.2 ⟨y,h6,by simpa using c⟩)
   ·simp at c
  rw[h5]at h3;simpa using h3
def Xo(w:World)(D:Nat→Prop)(p:Nat)(sv:Value)(Gs:List Grp)(sum slot:Nat)(e:Ending)(w':World):Prop :=
 match vZ Gs sum (fun x=>x==slot)with
 | some x=>e=.returned (.int .i64 0)∧yd w' D p sv (yw Gs x.1 x.2 (yF (zk Gs x.1).1) 0)∧Mod D w w'
 | none=>e=.returned (.int .i64 9)∧yd w' D p sv Gs∧Mod D w w'
theorem zgs{w:World}{D:Nat→Prop}{p:Nat}{sv:Value}{Gs:List Grp}(h:yd w D p sv Gs)(sum slot:Nat)(hsum:sum<18446744073709551616)(hslot:slot≤4294967295) :
  Calls prog 195 #[.pointer (some ⟨p,0,none⟩),.int .u64 sum,.int .u32 slot] w (Xo w D p sv Gs sum slot):=by
 have hlp:p<w.heap.size:=zl h.box;obtain⟨B,c,rfl,hc,hB,hDB,hBf,hcells⟩:=h.at;have hp1:zb w (w.alloc (.cells #[.int .u32 slot] 103)):=(Mod.refl _ w).alloc _;have hix:=h.pure hp1;have hbx:=zi (w:=w) (o:=(.cells #[.int .u32 slot] 103 (0,0))) rfl;go_enter func195,ntmps195;go_upto_region 1 with fail
 generalize w.alloc (.cells #[.int .u32 slot] 103)=W1 at *;have hwb:w.heap.size<W1.heap.size:=zl hbx;generalize w.heap.size=b at *;have HF:=za (zcU hix sum hsum (zd7 (enters_of func243 (by kernel_rfl) rfl) hwb hbx (fun W s hs hW=>zfv (x:=slot) hW s hs hslot)) rfl);have zp:=hix.box;have HZ:=za (fun(hW:W1.cell? ⟨p,0,none⟩=_)=>qT (w:=W1) (c:=c) (a:=some ⟨B,0,none⟩) hW h.ok.pow.pos h.ok.pow.le);clear hcells hBf hbx;obtain⟨zp_0,zp_1,zp_2,zp_f,zp_l,H_zp⟩:=cr3 zp;clear zp;go_upto_region 3 with(go_at_call 142;refine(HZ.out zp_0).mono ?_;rintro e w' ⟨rfl,rfl⟩)
 rcases hfm:vZ Gs sum (fun x=>x==slot)with _ | ⟨i,j⟩
 ·go_wp2_with (go_at_call 143;refine HF.out.mono ?_;rintro e w2 hfp;obtain⟨rfl,hpu,hix2⟩:=zcW hfp hfm;clear hfp)
  go_ret;unfold Xo;rw[hfm];exact⟨rfl,hix2,.of_pure (hp1.trans hpu)⟩
 ·go_upto_region 6 with(go_at_call 143;refine HF.out.mono ?_;rintro e w2 hfp;obtain⟨rfl,hpu,hix2,hfull⟩:=zgX hfp hfm;clear hfp)
  have HM:=za hfm;have HI:=za hix2;have HP:=za (hp1.trans hpu);have HFL:=za hfull;clear hfm hix hp1 hpu HF HZ;clear zp_0 zp_1 zp_2 zp_f zp_l;clear H_zp;have hi:=hfull.hi;have hj:=hfull.hj;obtain⟨B3,c3,hsv3,_,hB3,hDB3,hBf3,hcells3⟩:=hix2.at
  cases hsv3
  have zg:=(hcells3 i hi).1;have hg:=hix2.ok.at hi;have HE:=za (fun W=>ziI hg.ctl j _ W hfull.tag hfull.full);have x0:(0:Int)≤j:=by omega
  have x1:(j:Int)<8:=by omega
  clear hcells3 hix2 hfull;go_upto_region 7 with(go_at_call 244;refine(HE.out _).mono ?_;rintro e w3 ⟨rfl,rfl⟩)
  have hbytes:xW ((zk Gs i).1.set j (yF (zk Gs i).1)):=(hg.put (j:=j) (t:=yF (zk Gs i).1) (s:=0) (.inr (X7 _)) (by omega)).ctl.bytes;have HEm:=za (fun W=>Xm hbytes W);have HLaw:=za (zh2 HI.out.ok HFL.out);have HUs:=za (Ui HI.out.ok HFL.out).1;obtain⟨z,hz⟩:=zc (zz ((zk Gs i).1.set j (yF (zk Gs i).1)));obtain⟨m,hmk⟩:=zc (zI (((zk Gs i).1.set j (yF (zk Gs i).1)).map (· == 128)));rw[hz,hmk]at HEm;rw[hmk]at HLaw;rw[hz];have hm1:Mod (fun k=>k=B) w2 ((w2.setCell ⟨B,i*9,none⟩ (.int .u64 z)).drew):=(Mod.set1 B (i*9) _).drew;have hr1:((w2.setCell ⟨B,i*9,none⟩ (.int .u64 z)).drew).ownsRow 0 249 9 (.slice (some ⟨B,0,none⟩) Gs.length c) Gs.length ((Gs.flatMap yK).set (i*9) (.int .u64 z)) :=
   zA (uz HI.out.row (i*9) (.int .u64 z) (by omega)) (Mod.drew (Mod.refl (fun _=>False) _)) (fun _ _ h=>h)
  have hlen:0<Gs.length:=by omega
  obtain⟨B4,c4,hsv4,_,hB4,hc4,hf4,_⟩:=kh hr1 hlen
  cases hsv4
  have hl9:i*9+1+j<((Gs.flatMap yK).set (i*9) (.int .u64 z)).length:=by rw[hr1.1];omega
  have zs0 : ∃ u,((w2.setCell ⟨B,i*9,none⟩ (.int .u64 z)).drew).cell? ⟨B,i*9+1+j,none⟩=some u:=⟨_,hc4 _ _ (zQ hl9)⟩;obtain⟨u0,zs⟩:=zs0;have HM1:=za hm1;have HR1:=za hr1;clear hc4 hl9 hm1 hr1 HE hbytes;generalize(w2.setCell ⟨B,i*9,none⟩ (.int .u64 z)).drew=W4 at *;go_upto_region 8 with fail
  have hm2:Mod (fun k=>k=B) w2 (W4.setCell ⟨B,i*9+1+j,none⟩ (.int .u32 0)):=HM1.out.trans (Mod.set1 B (i*9+1+j) _);have hr2:=uz HR1.out (i*9+1+j) (.int .u32 0) (by omega);have hpB:p≠B:=fun e=>by
   obtain⟨cc,e2⟩:=ym HI.out.row (g:=B) rfl;have:=HI.out.box;rw[e,e2]at this;cases this
  have zp:=hm2.heap hpB HI.out.box;have HM2:=za hm2;have HR2:=za hr2;clear hm2 hr2 zs hf4 HM1 HR1;generalize W4.setCell ⟨B,i*9+1+j,none⟩ (.int .u32 0)=W5 at *;have hul:=HI.out.ok.used_le;have htl:=HI.out.ok.tomb_le;obtain⟨zp_0,zp_1,zp_2,zp_f,zp_l,H_zp⟩:=cr3 zp;clear zp;obtain⟨un,hun⟩ : ∃ un,zB Gs=un+1:=⟨zB Gs-1,by have:=HUs.out;omega⟩;rw[hun]at zp_1 hul;have wu:IntKind.i64.wrap (((un+1:Nat):Int)-1)=(un:Int):=by rw[show(((un+1:Nat):Int)-1)=(un:Int) by omega];exact zo _ (by omega)
  have HUN:=za hun;clear hun;go_upto_region 9 with fail
  have hm3:Mod (fun k=>k=p) W5 (W5.setCell ⟨p,1,none⟩ (.int .i64 un)):=Mod.set1 p 1 _;have hr3:=zA HR2.out hm3 (fun g hg e=>hpB (by
   have:B=g:=by simpa[Value.ownBlock]using hg
   exact e.symm.trans this.symm))
  have zp2:=ve (j:=1) (v := .int .i64 un) H_zp.out;simp at zp2;obtain⟨B6,c6,hsv6,_,hB6,hc6,hf6,_⟩:=kh hr3 hlen
  cases hsv6
  have zg:(W5.setCell ⟨p,1,none⟩ (.int .i64 un)).cell? ⟨B,i*9,none⟩=some (.int .u64 z):=by
   refine hc6 _ _ ?_;rw[yq (by omega),yj];have:=HI.out.row.1;omega
  have HM3:=za hm3;clear hm3 hr3 hc6 hBf3;clear zp_0 zp_1 zp_2 zp_f zp_l;clear H_zp;generalize W5.setCell ⟨p,1,none⟩ (.int .i64 un)=W6 at *;obtain⟨zp2_0,zp2_1,zp2_2,zp2_f,zp2_l,H_zp2⟩:=cr3 zp2;clear zp2;have hml:m≤255:=by rw[← hmk];have:=kE (p:=((zk Gs i).1.set j (yF (zk Gs i).1)).map (· == 128)) (by simp[hg.ctl.1]);omega
  have HMK:=za hmk;have HZ:=za hz;clear hmk hz;have fin : ∀(W7:World) (t':Int),Mod (fun k=>k=p) W6 W7→W7.heap[p]? = some (.cells #[.slice (some ⟨B,0,none⟩) Gs.length c,.int .i64 un,.int .i64 t'] 293 (0,0))→t'=yc (yw Gs i j (yF (zk Gs i).1) 0)→Xo w D p (.slice (some ⟨B,0,none⟩) Gs.length c) Gs sum slot (.returned (.int .i64 0)) W7:=fun W7 t' h7 hb7 ht'=>by
   unfold Xo;rw[HM.out];have h1:(un:Int)=zB (yw Gs i j (yF (zk Gs i).1) 0):=by
    have e1:zB (yw Gs i j (yF (zk Gs i).1) 0)+1=zB Gs:=HUs.out;have e2:=HUN.out;omega
   obtain⟨k1,k2⟩:=ziO (n':=un) (t':=t') HI.out hi hj (.inr (X7 _)) (by omega) h1 ht' HM2.out (by rw[HZ.out];exact HR2.out) (HM3.out.trans h7) hb7;exact⟨rfl,k1,(Mod.of_pure HP.out:Mod D w w2).trans k2⟩
  have FIN:=za fin;clear fin;rcases HLaw.out with⟨hm0,htm⟩ | ⟨hm0,htm⟩
  ·subst hm0;have HTM:=za htm;clear htm HLaw HUs;obtain⟨tn,htn⟩:=zc (yc Gs);rw[htn]at zp2_2 htl;have wt:IntKind.i64.wrap ((tn:Int)+1)=(tn:Int)+1:=zo _ (by omega);have HTN:=za htn;clear htn
   go_wp2_with (go_at_call 194;refine(HEm.out _).mono ?_;rintro e w' ⟨rfl,rfl⟩)
   go_ret;refine FIN.out _ ((tn:Int)+1) (Mod.set1 p 2 _) ?_ ?_
   ·have:=ve (j:=2) (v := .int .i64 ((tn:Int)+1)) H_zp2.out;simpa using this
   ·have:=HTM.out;have:=HTN.out;omega
  ·have HTM:=za htm;clear htm HLaw HUs;have hm1:(1:Int)≤m:=by omega
   have hm2:((m:Int)==0)=false:=by simp;omega
   go_wp2_with (go_at_call 194;refine(HEm.out _).mono ?_;rintro e w' ⟨rfl,rfl⟩)
   go_ret;exact FIN.out _ (yc Gs) (Mod.refl _ _) H_zp2.out (by have:=HTM.out;omega)
end
section
open Go.RowKit Go.Shelf
attribute [local go_sem] Oper.semAt_some
def uO(c:Grp):List Nat:=vx (zI (c.1.map (fun x=>decide (x<128))))
def vk(c:Grp):List Nat:=(uO c).map (fun j=>c.2.getD j 0)
def uh(H:Nat→Nat)(o:List Grp)(s:Nat):List Grp:=(vw o (H s) s).getD o
def qW(H:Nat→Nat)(g:Nat)(Gs:List Grp):List Grp:=(Gs.flatMap vk).foldl (uh H) (xf g)
structure Ve(P:Program)(gf:Nat)(fb lb:Array Value)(H:Nat→Nat)(S:Nat→Prop)(J:World→Prop)(w:World):Prop where
 enters : ∀ args w,(callFunc gf args).run P w=.ok (.enter gf args) w
 call : ∀(s:Nat) W,s≤4294967295→S s→J W→CallsIn Fence.wide 0 P gf (fb.push (.int .u32 s)++lb) W fun e w'=>e=.returned (.int .u64 (H s))∧zb W w'
 lt : ∀ s,H s<18446744073709551616
 keep : ∀ A B,J A→Mod (fun k=>w.heap.size≤k) A B→J B
 start:J w
theorem zif{c:Grp}(h:xN c) : ∀ s∈vk c,s≤4294967295:=by
 intro s hs;obtain⟨j,_,rfl⟩:=zD.1 hs;exact h.slot j
structure RhO(w:World)(D:Nat→Prop)(p:Nat)(sv:Value)(Gs:List Grp)(gf:Nat)(fb lb:Array Value)(J:World→Prop)(b5 b8 p2:Nat)(sv2:Value)(o:List Grp)(ls:List Nat)(W:World):Prop where
 pu:zb w W
 h5:W.heap[b5]? = some (.cells #[.func (.func gf) fb lb] 285 (0,0))
 h8:W.heap[b8]? = some (.cells #[.pointer (some ⟨p2,0,none⟩)] 157 (0,0))
 ix:yd W D p sv Gs
 out:yd W (fun k=>k=p2∨sv2.ownBlock=some k) p2 sv2 o
 j:J W
 mks : ∀ l∈ls,W.heap[l]? = some (.deferred (some []))
section
variable{w:World}{D:Nat→Prop}{p:Nat}{sv:Value}{Gs:List Grp}{gf:Nat}{fb lb:Array Value}{H:Nat→Nat}{S:Nat→Prop}{J:World→Prop}{b5 b8 p2:Nat}{sv2:Value}{o:List Grp}{ls:List Nat}
theorem RhO.pure(hs:Ve prog gf fb lb H S J w){A B:World}(h:RhO w D p sv Gs gf fb lb J b5 b8 p2 sv2 o ls A)(hq:zb A B):RhO w D p sv Gs gf fb lb J b5 b8 p2 sv2 o ls B :=
 ⟨h.pu.trans hq,hq.heap (fun h=>h) h.h5,hq.heap (fun h=>h) h.h8,h.ix.pure hq,h.out.pure hq,hs.keep _ _ h.j (Mod.of_pure hq),fun l hl=>hq.heap (fun h=>h) (h.mks l hl)⟩
theorem RhO.quiet(hs:Ve prog gf fb lb H S J w){N:Nat}(hN:w.heap.size≤N)(hls : ∀ l∈ls,l<N){A B:World}(h:RhO w D p sv Gs gf fb lb J b5 b8 p2 sv2 o ls A)(hq:zv N A B):RhO w D p sv Gs gf fb lb J b5 b8 p2 sv2 o ls B :=
 ⟨hq.mod h.pu hN,hq.cells h.h5,hq.cells h.h8,h.ix.quiet hq,h.out.quiet hq,hs.keep _ _ h.j (Mod.mono hq (fun k _ hk=>by have:=hk.1;omega)),fun l hl=>Mod.heap hq (fun hk=>by have:=hk.1;have:=hls l hl;omega) (h.mks l hl)⟩
end
theorem zgf{H:Nat→Nat}{w w':World}{D:Nat→Prop}{p:Nat}{sv:Value}{o:List Grp}{s hh:Nat}{e:Ending}(hh0:H s=hh)(h:YF w D p sv o hh s e w') : ∃ z,e=.returned (.int .i64 z)∧yd w' D p sv (uh H o s)∧Mod D w w':=by
 subst hh0;unfold YF at h;unfold uh
 cases hm:vw o (H s) s with
 | none=>rw[hm]at h;exact⟨_,h.1,h.2.1,h.2.2⟩
 | some o'=>rw[hm]at h;exact⟨_,h.1,h.2.1,h.2.2⟩
structure RhI(w:World)(D:Nat→Prop)(p:Nat)(sv:Value)(Gs:List Grp)(gf:Nat)(fb lb:Array Value)(J:World→Prop)(b5 b8 p2:Nat)(sv2:Value)(o:List Grp)(ls:List Nat)(H:Nat→Nat)(q:Grp)(b11 BL m:Nat)(pre:List Nat)(W:World):Prop where
 ro:RhO w D p sv Gs gf fb lb J b5 b8 p2 sv2 ((pre.map (fun j=>q.2.getD j 0)).foldl (uh H) o) ls W
 bx:W.heap[b11]? = some (.cells #[.int .u64 (zz q.1:Nat),.int .u32 (q.2[0]?.getD 0:Nat),.int .u32 (q.2[1]?.getD 0:Nat),.int .u32 (q.2[2]?.getD 0:Nat),.int .u32 (q.2[3]?.getD 0:Nat),.int .u32 (q.2[4]?.getD 0:Nat),.int .u32 (q.2[5]?.getD 0:Nat),.int .u32 (q.2[6]?.getD 0:Nat),.int .u32 (q.2[7]?.getD 0:Nat)] 249 (0,0))
 la:jO W BL m
@[go_sem] theorem zle (w : World) (fn : Fn) (fi ca : Array Value) : (binOp .eql 285 (.func fn fi ca) .nilFunc).run prog w=.ok (.bool false) w := by
 simp only[binOp];simp[Op.equal,Op.maxDepth,J5 w 9999 _ fn fi ca underlying285]
theorem zhw{w:World}{D:Nat→Prop}{p:Nat}{sv:Value}{Gs:List Grp}(h:yd w D p sv Gs)(g:Nat)(hg:Pow g)(hu:zB Gs≤8*g){gf:Nat}{fb lb:Array Value}{H:Nat→Nat}{S:Nat→Prop}{J:World→Prop}
    (hs:Ve prog gf fb lb H S J w) (hS : ∀ s∈Gs.flatMap vk,S s) :
    Calls prog 227 #[.pointer (some ⟨p,0,none⟩),.int .i64 g,.func (.func gf) fb lb] w (fun e w' => ∃ p2 sv2,e=.returned (.tuple #[.pointer (some ⟨p2,0,none⟩),.int .i64 0]) ∧
      yd w' (fun k=>k=p2∨sv2.ownBlock=some k) p2 sv2 (qW H g Gs)∧zb w w'∧w.heap.size≤p2∧(∀ k,sv2.ownBlock=some k→w.heap.size≤k)∧yd w' D p sv Gs∧J w'):=by
  have hp:zb w (w.alloc (.cells #[.func (.func gf) fb lb] 285)):=(Mod.refl _ w).alloc _;have hb5:=zi (w:=w) (o:=(.cells #[.func (.func gf) fb lb] 285 (0,0))) rfl;obtain⟨B,c,rfl,hc,hB,hDB,hBf,hcells⟩:=h.at;have zp:=hp.heap (fun h=>h) h.box;have hgl:=h.ok.pow.le;have hgl1:=h.ok.pow.pos;have HZ:=za (fun(W:World) (hW:W.cell? ⟨p,0,none⟩=_)=>qT (w:=W) (c:=c) (a:=some ⟨B,0,none⟩) hW h.ok.pow.pos h.ok.pow.le);have HN:=za (fun W=>zbS g W hg);have HX:=za h;have HS:=za hs;have HSS:=za hS;have HP:=za hp;clear hcells h hBf hp hs hS
  (refine(yl (n:=0)).1 (callsIn_of_wp_marks func227 rfl trivial (vW.2 ?_) rfl);simp only[ntmps227,List.size_toArray,List.length_cons,List.length_nil,Nat.reduceAdd,Nat.reduceSub,Array.replicate_succ,Array.replicate_zero,List.push_toArray,List.append_toArray,List.nil_append,List.cons_append])
  go_upto_region 1 with fail
  generalize w.alloc (.cells #[.func (.func gf) fb lb] 285)=W1 at *;obtain⟨b5,hb5e⟩:=zc w.heap.size;rw[hb5e]at hb5 ⊢;obtain⟨zp_0,zp_1,zp_2,zp_f,zp_l,H_zp⟩:=cr3 zp;clear zp;go_upto_region 3 with(go_at_call 142;refine(HZ.out _ zp_0).mono ?_;rintro e w' ⟨rfl,rfl⟩)
  go_upto_region 4 with(go_at_call 125;refine(HN.out _).mono ?_;rintro e w2 ⟨p2,sv2,rfl,hix2,hp2,hl2,hs2⟩)
  have hp3:zb w2 (w2.alloc (.cells #[.pointer (some ⟨p2,0,none⟩)] 157)):=(Mod.refl _ w2).alloc _;have z8:=zi (w:=w2) (o:=(.cells #[.pointer (some ⟨p2,0,none⟩)] 157 (0,0))) rfl;have hb8:w.heap.size≤w2.heap.size:=zJ HP.out.size hp2.size;have z5:=(hp2.trans hp3).heap (fun h=>h) hb5;have zp2:=(hp2.trans hp3).heap (fun h=>h) H_zp.out;have HO:=za (RhO.mk (J:=J) (ls:=[]) ((HP.out.trans hp2).trans hp3) z5 z8 (HX.out.pure ((HP.out.trans hp2).trans hp3)) (hix2.pure hp3) (HS.out.keep _ _ HS.out.start (Mod.of_pure ((HP.out.trans hp2).trans hp3))) (by simp));have hw1:w.heap.size≤W1.heap.size:=HP.out.size;have hlp2:w.heap.size≤p2:=zJ hw1 hl2;have hls2 : ∀ k,sv2.ownBlock=some k→w.heap.size≤k:=fun k hk=>zJ hw1 (hs2 k hk)
  have HL2:=za hls2;clear zp_0 zp_1 zp_2 zp_f zp_l;clear H_zp HZ HN hix2 hp2 hp3 hb5 hl2 hs2 hls2 HP;generalize w2.alloc (.cells #[.pointer (some ⟨p2,0,none⟩)] 157)=W3 at *;obtain⟨b8,hb8e⟩:=zc w2.heap.size;rw[hb8e]at HO z8 hb8 ⊢;clear hb8e hw1;have hgu:g≤1048576:=hg.le;have w8:IntKind.i64.wrap ((g:Int)*8)=(g:Int)*8:=zo _ (by omega);have hu':(zB Gs:Int)≤(g:Int)*8:=by omega
  have wg:IntKind.i64.wrap (Gs.length:Int)=Gs.length:=zo _ (by omega);obtain⟨z5_0,z5_f,z5_l,H_z5⟩:=cr1 z5;clear z5;obtain⟨z8_0,z8_f,z8_l,H_z8⟩:=cr1 z8;clear z8;obtain⟨zp2_0,zp2_1,zp2_2,zp2_f,zp2_l,H_zp2⟩:=cr3 zp2;clear zp2;go_upto_region 11 with fail
  refine wp_loop (fun a' wr => ∃(i:Nat) (ls:List Nat) (u11 u12 u41 u42 u43 u44 u45 u46 u47 u48 u49 u50 u51 u52 u53 u54 u55 u56 u57 u58 u59 u60 u61:Value),i≤Gs.length∧RhO w D p (.slice (some ⟨B,0,none⟩) Gs.length c) Gs gf fb lb J b5 b8 p2 sv2 (((Gs.take i).flatMap vk).foldl (uh H) (xf g)) ls wr∧ls.Nodup∧(∀ l∈ls,w.heap.size≤l)∧a' = {tmps:=#[.pointer (some ⟨p,0,none⟩),.int .i64 g,.func (.func gf) fb lb,undef,undef,.pointer (some ⟨b5,0,none⟩),.pointer none,.int .i64 0,.pointer (some ⟨b8,0,none⟩),.int .i64 0,undef,u11,u12,.pointer (some ⟨p,0,none⟩),.bool false,.tuple #[.pointer (some ⟨p2,0,none⟩),.int .i64 0],.int .i64 g,.tuple #[.pointer (some ⟨p2,0,none⟩),.int .i64 0],.pointer (some ⟨p2,0,none⟩),.int .i64 0,.bool false,.int .i64 0,.bool false,undef,.bool false,.func (.func gf) fb lb,.bool false,.bool (decide ((g:Int)*8<(zB Gs:Int))),.pointer (some ⟨p,0,none⟩),.pointer (some ⟨p,0,none⟩),.pointer (some ⟨p,1,none⟩),.int .i64 (zB Gs),.int .i64 g,.int .i64 ((g:Int)*8),.bool (decide ((g:Int)*8<(zB Gs:Int))),.pointer (some ⟨p,0,none⟩),.pointer (some ⟨p,0,none⟩),.pointer (some ⟨p,0,none⟩),.slice (some ⟨B,0,none⟩) Gs.length c,.int .i64 Gs.length,.int .i64 (i:Nat),u41,u42,u43,u44,u45,u46,u47,u48,u49,u50,u51,u52,u53,u54,u55,u56,u57,u58,u59,u60,u61,undef],defers:=Jq ls}) (fun a' _=>Gs.length-(intOf (a'.tmps.getD 40 undef)).toNat) ?_ ?_
  · refine⟨0,[],undef,undef,undef,undef,undef,undef,undef,undef,undef,undef,undef,undef,undef,undef,undef,undef,undef,undef,undef,undef,undef,undef,undef,yk _,?_,j8,by simp,rfl⟩
    simpa using HO.out
  · rintro a' wr ⟨i,ls,u11,u12,u41,u42,u43,u44,u45,u46,u47,u48,u49,u50,u51,u52,u53,u54,u55,u56,u57,u58,u59,u60,u61,hi,hro,hnd,hlsw,rfl⟩
    have HR:=za hro;have HND:=za hnd;have HLW:=za hlsw;clear z5_0 z5_f z5_l;clear z8_0 z8_f z8_l;clear zp2_0 zp2_1 zp2_2 zp2_f zp2_l;clear H_z5 H_z8 H_zp2 hro hnd hlsw HO;by_cases hlt:i<Gs.length
    · have hlt':(i:Int)<(Gs.length:Int):=by omega
      obtain⟨B3,c3,hsv3,_,hB3,hDB3,hBf3,hcells3⟩:=HR.out.ix.at
      cases hsv3
      obtain⟨zg,zsl⟩:=hcells3 i hlt;have z0:=zsl 0 (by omega);have z1:=zsl 1 (by omega);have z2:=zsl 2 (by omega);have z3:=zsl 3 (by omega);have z4:=zsl 4 (by omega);have z5:=zsl 5 (by omega);have z6:=zsl 6 (by omega);have z7:=zsl 7 (by omega);have HG:=za (HR.out.ix.ok.at hlt);clear hcells3 zsl;obtain⟨q,hq⟩:=zc (zk Gs i);rw[hq]at zg z0 z1 z2 z3 z4 z5 z6 z7 HG;have HGG:=za hq;clear hq;go_upto_region 13 with fail
      have hp7:zb wr (wr.alloc (.cells #[.int .u64 (zz q.1:Nat),.int .u32 (q.2[0]?.getD 0:Nat),.int .u32 (q.2[1]?.getD 0:Nat),.int .u32 (q.2[2]?.getD 0:Nat),.int .u32 (q.2[3]?.getD 0:Nat),.int .u32 (q.2[4]?.getD 0:Nat),.int .u32 (q.2[5]?.getD 0:Nat),.int .u32 (q.2[6]?.getD 0:Nat),.int .u32 (q.2[7]?.getD 0:Nat)] 249)):=(Mod.refl _ wr).alloc _;have h7:=zi (w:=wr) (o := .cells #[.int .u64 (zz q.1:Nat),.int .u32 (q.2[0]?.getD 0:Nat),.int .u32 (q.2[1]?.getD 0:Nat),.int .u32 (q.2[2]?.getD 0:Nat),.int .u32 (q.2[3]?.getD 0:Nat),.int .u32 (q.2[4]?.getD 0:Nat),.int .u32 (q.2[5]?.getD 0:Nat),.int .u32 (q.2[6]?.getD 0:Nat),.int .u32 (q.2[7]?.getD 0:Nat)] 249 (0,0)) rfl;have HFU:=za (fun W=>Jk HG.out.ctl.bytes W);obtain⟨m,hm⟩:=zc (zI (q.1.map (fun x=>decide (x<128))));rw[hm]at HFU;have hml:m<256:=by rw[← hm];exact kE (by rw[yB];exact HG.out.ctl.1)
      have HLA:=za (fun W=>zbu m W);have HM:=za hm;have HR7:=za (HR.out.pure HS.out hp7);have hn11 : ∀ k,(k=p2∨sv2.ownBlock=some k)→k≠wr.heap.size:=by
        rintro k (rfl | hk) e
        · have:=zl HR.out.out.box;omega
        · obtain⟨_,e2⟩:=ym HR.out.out.row hk
          have:=zl e2;omega
      have HN11:=za hn11;have hlsr : ∀ l∈ls,l<wr.heap.size:=fun l hl=>(uI.1 (HR.out.mks l hl)).1
      have hs7:wr.heap.size<(wr.alloc (.cells #[.int .u64 (zz q.1:Nat),.int .u32 (q.2[0]?.getD 0:Nat),.int .u32 (q.2[1]?.getD 0:Nat),.int .u32 (q.2[2]?.getD 0:Nat),.int .u32 (q.2[3]?.getD 0:Nat),.int .u32 (q.2[4]?.getD 0:Nat),.int .u32 (q.2[5]?.getD 0:Nat),.int .u32 (q.2[6]?.getD 0:Nat),.int .u32 (q.2[7]?.getD 0:Nat)] 249)).heap.size:=zl h7;have HLSR:=za hlsr;clear z0 z1 z2 z3 z4 z5 z6 z7 zg hp7 hm hn11 hlsr hBf3;generalize wr.alloc (.cells #[.int .u64 (zz q.1:Nat),.int .u32 (q.2[0]?.getD 0:Nat),.int .u32 (q.2[1]?.getD 0:Nat),.int .u32 (q.2[2]?.getD 0:Nat),.int .u32 (q.2[3]?.getD 0:Nat),.int .u32 (q.2[4]?.getD 0:Nat),.int .u32 (q.2[5]?.getD 0:Nat),.int .u32 (q.2[6]?.getD 0:Nat),.int .u32 (q.2[7]?.getD 0:Nat)] 249)=W7 at *;obtain⟨b11,hb11⟩:=zc wr.heap.size;rw[hb11]at h7 hs7 HN11 HLSR ⊢;clear hb11;have H7:=za h7;obtain⟨h7_0,h7_1,h7_2,h7_3,h7_4,h7_5,h7_6,h7_7,h7_8,h7_f,h7_l,H_h7⟩:=cr9 h7;clear h7
      go_wp2_with (first
        | (go_at_call 271;refine(HFU.out _).mono ?_;rintro e w' ⟨rfl,rfl⟩)
        | (go_at_call 191;refine(HLA.out _).mono ?_;rintro e w4 ⟨BL,rfl,hla,hp4,hBL⟩))
      have hb11w:b11<w4.heap.size:=xV hs7 hp4.size;have hw4:w.heap.size≤w4.heap.size:=zJ HR7.out.pu.size hp4.size;have HI0:Hid (RhI w D p (.slice (some ⟨B,0,none⟩) Gs.length c) Gs gf fb lb J b5 b8 p2 sv2 (((Gs.take i).flatMap vk).foldl (uh H) (xf g)) ls H q b11 BL m [] w4):=⟨HR7.out.pure HS.out hp4,hp4.heap (fun h=>h) H_h7.out,hla⟩;have hBlt:BL<w4.heap.size:=zl hla.set;have HLA4:=za hla;clear h7_0 h7_1 h7_2 h7_3 h7_4 h7_5 h7_6 h7_7 h7_8 h7_f h7_l;clear H_h7 H7 hp4 hla HR7 HFU HLA;refine vW.1 (ZC (gf:=241) (lb:=#[.pointer (some ⟨BL,0,none⟩)]) rfl (enters_of func241 (by kernel_rfl) rfl) (It:=fun k=>k=BL) (zcA HLA4.out hml) (fun k hk=>by rw[hk];exact hBlt) (fun _=>rfl)
        (fun pre W=>RhI w D p (.slice (some ⟨B,0,none⟩) Gs.length c) Gs gf fb lb J b5 b8 p2 sv2 (((Gs.take i).flatMap vk).foldl (uh H) (xf g)) ls H q b11 BL m pre W) (fun _ _ _=>False) ?hI ?hIx HI0.out ?round ?done ?stop)
      case hI=>exact fun pre X Y h hq=>⟨h.ro.quiet HS.out hw4 (fun l hl=>by have:=HLSR.out l hl;omega) hq,hq.cells h.bx,⟨hq.cells h.la.set⟩⟩
      case hIx=>exact fun _ _ _ _ h _=>h
      case stop=>exact fun _ _ _ _ _ h=>h.elim
      case done =>
        rintro l xs W hl hSx hI hK;have hxs:xs=vx m:=hSx;have HIx:=za hI;have HKx:=za hK;clear hI hK HI0 HLA4;go_wp2;refine⟨⟨i+1,l::ls,_,_,_,_,_,_,_,_,_,_,_,_,_,_,_,_,_,_,_,_,_,_,_,hlt,?_,yX.2 ⟨fun h => ?_,HND.out⟩,fun l' hl' => ?_,rfl⟩,?_⟩
        · have e1:(Gs.take (i+1)).flatMap vk=(Gs.take i).flatMap vk++vk q:=by
            rw[uB,vK hlt,HGG.out];simp
          have e2:vk q=xs.map (fun j=>q.2.getD j 0):=by unfold vk uO;rw[HM.out,hxs]
          rw[e1,Zl,e2];have:=HIx.out.ro;exact⟨this.pu,this.h5,this.h8,this.ix,this.out,this.j,fun l' hl'=>by
            rcases yp.1 hl' with rfl | h
            · exact HKx.out
            · exact this.mks l' h⟩
        · have:=HLSR.out l h;omega
        · rcases yp.1 hl' with rfl | h
          · omega
          · exact HLW.out l' h
        · simp[intOf];omega
      case round =>
        rintro l pre j W K hI hGx hK;obtain⟨post,hpost⟩:=hGx;dsimp only[qv];have hjm:j∈uO q:=by
          unfold uO;rw[HM.out,hpost];simp
        have hj8:j<8:=by
          have:=hjm;unfold uO vx at this;exact j5.1 (qn.1 this).1
        have HI:=za hI;have HK:=za hK;have HJM:=za hjm;clear hI hK HI0 HLA4 hpost hjm;gi_wp2;refine HK.out _ _ (Mod.refl _ _) (fun l' W2 hl hr hq => ?_);have HI2:Hid (RhI w D p (.slice (some ⟨B,0,none⟩) Gs.length c) Gs gf fb lb J b5 b8 p2 sv2 (((Gs.take i).flatMap vk).foldl (uh H) (xf g)) ls H q b11 BL m pre W2):=⟨HI.out.ro.quiet HS.out hw4 (fun l hl=>by have:=HLSR.out l hl;omega) hq,hq.cells HI.out.bx,⟨hq.cells HI.out.la.set⟩⟩;clear HK HI hq hr;gi_upto_region 15 with fail
        obtain⟨sl,hsl⟩:=zc (q.2.getD j 0);have hsl1:sl≤4294967295:=by rw[← hsl];exact HG.out.slot j
        have hsl2:S sl:=by
          refine HSS.out sl (Zh.2 ⟨q,?_,?_⟩)
          · rw[← HGG.out];exact yh (vK hlt)
          · rw[← hsl];exact zD.2 ⟨j,HJM.out,rfl⟩
        have c8:=zj W2 b8 0 _ _ _ HI2.out.ro.h8;have c5:=zj W2 b5 0 _ _ _ HI2.out.ro.h5;have c11:W2.cell? ⟨b11,1+j,none⟩=some (.int .u32 sl):=by
          have hv:(#[.int .u64 (zz q.1:Nat),.int .u32 (q.2[0]?.getD 0:Nat),.int .u32 (q.2[1]?.getD 0:Nat),.int .u32 (q.2[2]?.getD 0:Nat),.int .u32 (q.2[3]?.getD 0:Nat),.int .u32 (q.2[4]?.getD 0:Nat),.int .u32 (q.2[5]?.getD 0:Nat),.int .u32 (q.2[6]?.getD 0:Nat),.int .u32 (q.2[7]?.getD 0:Nat)]:Array Value)[1+j]? = some (.int .u32 (q.2.getD j 0:Nat)):=by
            have:j=0∨j=1∨j=2∨j=3∨j=4∨j=5∨j=6∨j=7:=by omega
            rcases this with rfl | rfl | rfl | rfl | rfl | rfl | rfl | rfl<;>rfl
          rw[hsl]at hv;have:=World.news_of_block HI2.out.bx (1+j) (.int .u32 sl) (by rw[YH];exact hv);simpa[Addr.add]using this
        simp at c8 c5;have x0:(0:Int)≤j:=by omega
        have x1:(j:Int)<8:=by omega
        refine XR (fun X=>X.cell? ⟨b8,0,none⟩=some (.pointer (some ⟨p2,0,none⟩))∧X.cell? ⟨b5,0,none⟩=some (.func (.func gf) fb lb)∧X.cell? ⟨b11,1+j,none⟩=some (.int .u32 sl)) (by kernel_rfl) (by kernel_rfl) ?hL ⟨c8,c5,c11⟩ (fun h_ => ?_)
        case hL=>rintro⟨a,w,h⟩;exact h
        refine hTk 2 ?_;refine hTk 3 ?_;refine hTk 4 ?_;refine hTk 7 ?_;refine hTk 8 ?_;refine hTk 9 ?_;refine hLd 0 ?_;refine hLd 1 ?_;refine hLd 5 ?_;refine hLd 10 ?_;have hen:=HS.out.enters;have hcall:=za (yl.1 (HS.out.call sl W2.drew hsl1 hsl2 (HS.out.keep _ _ HI2.out.ro.j (Mod.drew (Mod.refl _ W2)))));obtain⟨hh,hhe⟩:=zc (H sl);have hhl:hh<18446744073709551616:=by rw[← hhe];exact HS.out.lt sl
        rw[hhe]at hcall
        (refine hSt 6 (fun K hK => ?_);go_simp;refine zm hcall.out ?_;rintro e X1 ⟨rfl,hp1⟩;refine hK.out _ _ ?_ (fun h_ => ?_);(· exact⟨hp1.cell (fun h=>h) c8,hp1.cell (fun h=>h) c5,hp1.cell (fun h=>h) c11⟩);clear hK K)
        have hpx:zb W2 X1:=Mod.of_drew hp1;have hrx:=HI2.out.ro.pure HS.out hpx;have HIN:=za (zaA hrx.out hh sl hhl hsl1);have d2 : ∀ k cs T,W2.heap[k]? = some (.cells cs T (0,0))→T≠293→T≠249 → ¬ (k=p2∨sv2.ownBlock=some k):=by
          rintro k cs T hk t1 t2 (rfl | e)
          · have:=HI2.out.ro.out.box;rw[hk]at this;cases this;exact t1 rfl
          · obtain⟨cc,e2⟩:=ym HI2.out.ro.out.row e
            rw[hk]at e2;cases e2;exact t2 rfl
        have n8:=d2 _ _ _ HI2.out.ro.h8 (by decide) (by decide);have n5:=d2 _ _ _ HI2.out.ro.h5 (by decide) (by decide);have nL:=d2 _ _ _ HI2.out.la.set (by decide) (by decide);have n11 : ¬ (b11=p2∨sv2.ownBlock=some b11):=fun e=>HN11.out b11 e rfl
        have HD2:=za d2;have HRX:=za hrx;have HPX:=za hpx;clear d2 hrx hpx
        (refine hSt 11 (fun K hK => ?_);go_simp;refine HIN.out.mono ?_;rintro e X2 hq;obtain⟨z,rfl,hix2,hm2⟩:=zgf (H:=H) hhe hq;clear hq;refine hK.out _ _ ?_ (fun h_ => ?_);(· exact⟨hm2.cell n8 (hp1.cell (fun h=>h) c8),hm2.cell n5 (hp1.cell (fun h=>h) c5),hm2.cell n11 (hp1.cell (fun h=>h) c11)⟩);clear hK K)
        refine hDn ?_;have hm02:Mod (fun k=>k=p2∨sv2.ownBlock=some k) W2 X2:=(Mod.of_pure HPX.out:Mod (fun k=>k=p2∨sv2.ownBlock=some k) W2 X1).trans hm2;refine⟨yY.of_mod hm02 (fun k _ hk o ho => ?_),⟨hm02.size,?_⟩,?_⟩
        · rcases hk with rfl | e
          · rw[HI2.out.ro.out.box]at ho;cases ho;rfl
          · obtain⟨cc,e2⟩:=ym HI2.out.ro.out.row e
            rw[e2]at ho;cases ho;rfl
        · rintro k rfl hk
          exact hm02.block _ hk nL
        · have hd2w : ∀ k,(k=p2∨sv2.ownBlock=some k)→w.heap.size≤k:=by
            rintro k (rfl | e)
            · exact hlp2
            · exact HL2.out k e
          have hDw : ∀ k,D k→k<w.heap.size:=by
            intro k hk;rcases(HX.out.dd k).1 hk with rfl | e
            · exact zl HX.out.box
            · obtain⟨cc,e2⟩:=ym HX.out.row e
              exact zl e2
          refine⟨⟨HI2.out.ro.pu.then hm02 (fun k hk hd=>by have:=hd2w k hd;omega),hm02.heap n5 HI2.out.ro.h5,hm02.heap n8 HI2.out.ro.h8,HI2.out.ro.ix.mod hm02 (fun k hk hd=>by have:=hd2w k hd;have:=hDw k hk;omega),?_,HS.out.keep _ _ HI2.out.ro.j (Mod.mono hm02 (fun k _ hd=>hd2w k hd)),fun l hl=>hm02.heap ?_ (HI2.out.ro.mks l hl)⟩,hm02.heap n11 HI2.out.bx,⟨hm02.heap nL HI2.out.la.set⟩⟩
          · rw[xT,Zl,qF,hsl]
            exact hix2
          · rintro(e | e)
            · have:=HI2.out.ro.mks l hl;rw[e,HI2.out.ro.out.box]at this;cases this
            · obtain⟨cc,e2⟩:=ym HI2.out.ro.out.row e
              have:=HI2.out.ro.mks l hl;rw[e2]at this;cases this
    · have hlt':(Gs.length:Int)≤(i:Int):=by omega
      have e:Gs.length=i:=by omega
      subst e;have z8:=HR.out.h8;obtain⟨z8_0,z8_f,z8_l,H_z8⟩:=cr1 z8;clear z8;go_wp2;refine JP (N:=w.heap.size) (v := .tuple #[.pointer (some ⟨p2,0,none⟩),.int .i64 0]) HR.out.mks HND.out HLW.out (fun W'=>by simp[results,results227,go_sem]) (fun W' hq => ?_);have hf:(Gs.take Gs.length)=Gs:=List.take_length;have hout:=HR.out.out;rw[hf]at hout;exact⟨p2,sv2,rfl,hout.quiet hq,hq.mod HR.out.pu (zH _),hlp2,HL2.out,HR.out.ix.quiet hq,HS.out.keep _ _ HR.out.j (Mod.mono hq (fun k _ hk=>hk.1))⟩
end
section
open Go.RowKit Go.Shelf
theorem zfg : ∀ a b c d e f g i:Bool,(vx (zI [a,b,c,d,e,f,g,i])).length=[a,b,c,d,e,f,g,i].countP id:=by decide +kernel
theorem zh0{c:Grp}(h:xN c):(uO c).length=c.1.countP (· < 128):=by
 obtain⟨x0,x1,x2,x3,x4,x5,x6,x7,e⟩:=jt h.ctl.1;unfold uO;rw[e];simp only[List.map_cons,List.map_nil];rw[zfg];simp only[List.countP_cons,List.countP_nil,id]
theorem Qp{Gs:List Grp}(h:xo Gs):(Gs.flatMap vk).length=zB Gs:=by
 unfold zB;rw[List.length_flatMap]
 congr 1
 refine ui (fun c hc => ?_);unfold vk;rw[yB,zh0 (h.grp c hc)]
theorem Azl7c {P:Prop}(h:P:=by
 unfold uO;rw[Jo (by simp[hc.ctl.1])];simp only[List.mem_filter,List.mem_range,List.getD_eq_getElem?_getD,List.getElem?_map]
 cases c.1[j]? <;> simp):P:=h
theorem zhT{c:Grp}(hc:xN c)(j:Nat):j∈uO c↔j<8 ∧ ∃ t,c.1[j]? = some t∧t<128:=by
 exact Azl7c
theorem zfw(c:Grp):(uO c).Pairwise (· < ·):=by
 unfold uO vx;exact List.Pairwise.filter _ List.pairwise_lt_range
theorem zc6{Gs:List Grp}(h:xo Gs)(s:Nat):s∈Gs.flatMap vk ↔ ∃ i j t,vt Gs i j t s:=by
 have hin : ∀ c,xN c → ∀ j,j∈uO c↔j<8 ∧ ∃ t,c.1[j]? = some t∧t<128:=fun c hc j=>by
  exact Azl7c
 constructor
 ·intro hs;obtain⟨c,hc,hs⟩:=Zh.1 hs;obtain⟨j,hj,rfl⟩:=zD.1 hs;obtain⟨i,hi⟩:=vV hc;have hl:i<Gs.length:=(zC.1 hi).1;have e:zk Gs i=c:=by have:=vK hl;rw[hi]at this;cases this;rfl
  obtain⟨hj8,t,ht,ht2⟩:=(hin c (h.grp c hc) j).1 hj;exact⟨i,j,t,hl,hj8,by rw[e];exact ht,ht2,by unfold zR;rw[e]⟩
 ·rintro⟨i,j,t,hf⟩;refine Zh.2 ⟨zk Gs i,yh (vK hf.hi),zD.2 ⟨j,(hin _ (h.at hf.hi) j).2 ⟨hf.hj,t,hf.tag,hf.full⟩,hf.slot⟩⟩
theorem Vx{Gs:List Grp}{i:Nat}(h:xo Gs)(hi:i<Gs.length){j:Nat}(hj:j∈uO (zk Gs i)) : ∃ t,vt Gs i j t ((zk Gs i).2.getD j 0):=by
 obtain⟨h8,t,ht,ht2⟩:=(zhT (h.at hi) j).1 hj;exact⟨t,hi,h8,ht,ht2,rfl⟩
theorem yx.nodup{H:Nat→Nat}{S:Nat→Prop}{Gs:List Grp}(h:yx H S Gs):(Gs.flatMap vk).Nodup:=by
 unfold List.Nodup;rw[List.pairwise_flatMap];constructor
 ·intro c hc;obtain⟨i,hi⟩:=vV hc;have hl:i<Gs.length:=(zC.1 hi).1;have e:zk Gs i=c:=by have:=vK hl;rw[hi]at this;cases this;rfl
  unfold vk;rw[uw];refine(zfw c).imp_of_mem (fun {a b} ha hb hab => ?_);intro e2;rw[← e]at ha hb e2;obtain⟨t1,h1⟩:=Vx h.ok hl ha;obtain⟨t2,h2⟩:=Vx h.ok hl hb;have:=(h.uniq _ _ _ _ _ _ _ h1 (e2 ▸ h2)).2;omega
 ·rw[XP];intro i j hi hj hij x hx y hy e;have ei:zk Gs i=Gs[i]:=by have:=vK hi;rw[zQ hi]at this;exact(YA this).symm
  have ej:zk Gs j=Gs[j]:=by have:=vK hj;rw[zQ hj]at this;exact(YA this).symm
  obtain⟨a,ha,rfl⟩:=zD.1 hx;obtain⟨b,hb,rfl⟩:=zD.1 hy;rw[← ei]at ha e;rw[← ej]at hb e;obtain⟨t1,h1⟩:=Vx h.ok hi ha;obtain⟨t2,h2⟩:=Vx h.ok hj hb;have:=(h.uniq _ _ _ _ _ _ _ h1 (e ▸ h2)).1;omega
theorem zb9{H:Nat→Nat} : ∀(L:List Nat) (o:List Grp) (S:Nat→Prop),yx H S o→(∀ s∈L,s≤4294967295 ∧ ¬ S s)→L.Nodup→zB o+L.length≤8*o.length →
  yx H (fun s=>S s∨s∈L) (L.foldl (uh H) o)∧zB (L.foldl (uh H) o)=zB o+L.length∧(L.foldl (uh H) o).length=o.length∧yc (L.foldl (uh H) o)≤yc o
 | [],o,S,h,_,_,_=>⟨h.of_iff (by simp),rfl,rfl,zH _⟩
 | s::L,o,S,h,hs,hn,hr=>by
  obtain⟨hs1,hs2⟩:=hs s (by simp);obtain⟨o',ho⟩ : ∃ o',vw o (H s) s=some o':=by
   cases hc:vw o (H s) s with
   | some o'=>exact⟨o',rfl⟩
   | none =>
    have:=(Jz h.ok _ _).1 hc;simp only[List.length_cons]at hr;omega
  have e:uh H o s=o':=by unfold uh;rw[ho];rfl
  obtain⟨c1,c2,c3,c4⟩:=Uj h.ok hs1 ho;have hi:=h.ins hs1 hs2 ho;simp only[List.foldl_cons,e];simp only[List.length_cons]at hr ⊢;obtain⟨k1,k2,k3,k4⟩:=zb9 L o' _ hi (fun x hx=>⟨(hs x (by simp[hx])).1,fun hx2=>by
   rcases hx2 with rfl | hx2
   ·exact(yX.1 hn).1 hx
   ·exact(hs x (by simp[hx])).2 hx2⟩) (yX.1 hn).2 (by omega)
  refine⟨k1.of_iff (fun x => ?_),by omega,by omega,by omega⟩;simp only[List.mem_cons];constructor
  ·rintro((h | h) | h)
   ·exact .inr (.inl h)
   ·exact .inl h
   ·exact .inr (.inr h)
  ·rintro(h | h | h)
   ·exact .inl (.inr h)
   ·exact .inl (.inl h)
   ·exact .inr h
theorem yx.rehash{H:Nat→Nat}{S:Nat→Prop}{Gs:List Grp}(h:yx H S Gs){g:Nat}(hg:Pow g)(hu:zB Gs≤8*g) :
  yx H S (qW H g Gs)∧zB (qW H g Gs)=zB Gs∧(qW H g Gs).length=g∧yc (qW H g Gs)=0:=by
 have hm : ∀ s,s∈Gs.flatMap vk↔S s:=fun s=>(zc6 h.ok s).trans (h.mem s).symm
 have hlt : ∀ s∈Gs.flatMap vk,s≤4294967295:=by
  intro s hs;obtain⟨c,hc,hs⟩:=Zh.1 hs;exact zif (h.ok.grp c hc) s hs
 obtain⟨k1,k2,k3,k4⟩:=zb9 (Gs.flatMap vk) (xf g) (fun _=>False) (newG_holds H hg) (fun s hs=>⟨hlt s hs,fun h=>h⟩) h.nodup (by rw[Qp h.ok,VW,XX];omega);unfold qW;rw[VW,Qp h.ok]at k2;rw[XX]at k3;rw[QL]at k4;exact⟨k1.of_iff (fun s=>by simp[hm]),by omega,k3,by omega⟩
theorem Yn(a b:ByteArray):(a==b)=true↔a=b:=by
 cases a;cases b
 rename_i x y
 show(x==y)=true↔_
 simp
def vU(L:List (Option Ent))(s:Nat):Prop := ∃ e,L[s]? = some (some e)
def zZ(seed:Nat)(same:Bool)(L:List (Option Ent))(s:Nat):Nat:=uU seed same (yH L s)
theorem Zu{L:List (Option Ent)}{s:Nat}{e:Ent}(h:L[s]? = some (some e)):yH L s=e.key:=by unfold yH;rw[h]
theorem zdJ(a b:ByteArray):(a.toList==b.toList)=(a==b):=by
 rw[Bool.eq_iff_iff,Yn,beq_iff_eq,ByteArray.toList_eq,ByteArray.toList_eq];exact⟨fun h=>ByteArray.ext (Array.toList_inj.1 h),fun h=>by rw[h]⟩
def Z0(L:List (Option Ent)):Prop := ∀(s t:Nat) (e f:Ent),L[s]? = some (some e)→L[t]? = some (some f)→e.key=f.key→s=t
def isK(key:ByteArray)(o:Option Ent):Bool:=match o with
 | some e=>e.key==key
 | none=>false
def xG(L:List (Option Ent))(key:ByteArray):Option Nat:=L.findIdx? (isK key)
theorem Uw{key:ByteArray}{o:Option Ent}:isK key o=true ↔ ∃ e,o=some e∧e.key=key:=by
 cases o with
 | none=>simp[isK]
 | some e=>simp[isK,Yn]
theorem VR{L:List (Option Ent)}{key:ByteArray}{s:Nat}(h:xG L key=some s) : ∃ e:Ent,L[s]? = some (some e)∧e.key=key:=by
 unfold xG at h;obtain⟨hl,hp,_⟩:=VY.1 h;obtain⟨e,he,hk⟩:=Uw.1 hp;exact⟨e,by rw[zQ hl,he],hk⟩
theorem za6{L:List (Option Ent)}{key:ByteArray}(h:xG L key=none) : ∀(s:Nat) (e:Ent),L[s]? = some (some e)→e.key≠key:=by
 unfold xG at h;rw[XY]at h;intro s e hs hk;have:=h _ (yh hs);rw[Uw.2 ⟨e,rfl,hk⟩]at this
 cases this
theorem zfl{L:List (Option Ent)}(hk:Z0 L){s:Nat}{e:Ent}(h:L[s]? = some (some e)):xG L e.key=some s:=by
 cases hf:xG L e.key with
 | none=>exact absurd rfl (za6 hf s e h)
 | some t =>
  obtain⟨f,h1,h2⟩:=VR hf;rw[hk t s f e h1 h h2]
theorem zgK{L:List (Option Ent)}{key:ByteArray}(h : ∀(s:Nat) (e:Ent),L[s]? = some (some e)→e.key≠key):xG L key=none:=by
 cases hf:xG L key with
 | none=>rfl
 | some t =>
  obtain⟨f,h1,h2⟩:=VR hf;exact absurd h2 (h t f h1)
theorem yx.congr{H H':Nat→Nat}{S:Nat→Prop}{Gs:List Grp}(h:yx H S Gs)(he : ∀ s,S s→H s=H' s):yx H' S Gs :=
 ⟨h.ok,fun i j t s hf=>by rw[← he s ((h.mem s).2 ⟨i,j,t,hf⟩)];exact h.tag i j t s hf,fun i j t s hf=>by rw[← he s ((h.mem s).2 ⟨i,j,t,hf⟩)];exact h.reach i j t s hf,h.uniq,h.mem⟩
structure vH(seed:Nat)(same:Bool)(L:List (Option Ent))(Gs:List Grp):Prop where
 holds:yx (zZ seed same L) (vU L) Gs
 keys:Z0 L
 used:zB Gs=zV L
theorem Ju{n:Nat}:Xi n<18446744073709551616:=by
 have h1:jj n<2 ^ 64:=zbY n;exact qy h1 (kG (Zk _ _) h1)
theorem KG(seed:Nat)(same:Bool)(L:List (Option Ent))(s:Nat):zZ seed same L s<18446744073709551616:=Ju
theorem Jr{H:Nat→Nat}{S:Nat→Prop}{Gs:List Grp}(h:yx H S Gs){sum:Nat}{x:Nat × Nat}(hx:x∈xr Gs sum):S (zR Gs x):=(h.mem _).2 ⟨_,_,_,XG h.ok hx⟩
theorem vH.find{seed:Nat}{same:Bool}{L:List (Option Ent)}{Gs:List Grp}(h:vH seed same L Gs){w w':World}{D:Nat→Prop}{p:Nat}{sv:Value}{key:ByteArray}{C:TypeId→Prop}{J:List Nat→World→Prop}{e:Ending}
  (hp:Uq w D p sv Gs (uU seed same key) (fun _ s=>yH L s==key) C J e w') :
  e=.returned (.tuple (match xG L key with | some s=>#[.int .u32 s,.int .i64 0] | none=>#[.int .u32 0,.int .i64 9])):=by
 obtain⟨_,_,⟨a,x,post,h1,h2,h3,h4,h5⟩ | ⟨h1,h2,h3⟩⟩:=hp
 ·have hx:x∈xr Gs (uU seed same key):=by rw[h1];simp
  obtain⟨f,hf⟩:=Jr h.holds hx;have hk:f.key=key:=by
   have:(yH L (zR Gs x)==key)=true:=h3;rw[Zu hf]at this;exact(Yn _ _).1 this
  have:=zfl h.keys hf;rw[hk]at this;rw[this];exact h4
 ·have:xG L key=none:=by
   refine zgK (fun s f hs hk => ?_);obtain⟨i,j,hm,hF⟩:=h.holds.find_some (s:=s) ⟨f,hs⟩;have e1:zZ seed same L s=uU seed same key:=by unfold zZ;rw[Zu hs,hk]
   rw[e1]at hm;unfold vZ at hm;have hx:=qk hm;have:=Xx h1 _ (zD.2 ⟨_,hx,rfl⟩);rw[hF.slot,Zu hs,hk,(Yn key key).2 rfl]at this
   cases this
  rw[this];exact h2
theorem KN : ∀ {Gs:List Grp},(∀ c∈Gs,xN c)→zB Gs+yc Gs≤8*Gs.length
 | [],_=>by simp[zB,yc]
 | c::Gs,h=>by
  have h1:=KN (Gs:=Gs) (fun c hc=>h c (by simp[hc]));have h2 : ∀ l:List Nat,l.countP (· < 128)+l.countP (· == 254)≤l.length:=by
   intro l
   induction l with
   | nil=>simp
   | cons a l ih =>
    simp only[List.countP_cons,List.length_cons];by_cases c1:a<128
    ·have:(a==254)=false:=by simp;omega
     simp[c1,this]at *;omega
    ·by_cases c2:(a==254)=true
     ·simp[c1,c2]at *;omega
     ·simp[c1,c2]at *;omega
  have h3:=h2 c.1;rw[(h c (by simp)).ctl.1]at h3;unfold zB yc at *;simp only[List.map_cons,List.sum_cons,List.length_cons];omega
theorem Pow.dbl{g:Nat}(h:Pow g)(hlt:g<1048576):Pow (2*g):=by
 obtain⟨k,hk,rfl⟩:=h;refine⟨k+1,?_,by rw[qi];omega⟩;have:k≠20:=by rintro rfl;omega
 omega
def doG(H:Nat→Nat)(x:Nat × Bool)(Gs:List Grp):List Grp:=if x.2 then qW H x.1 Gs else Gs
theorem zhX{Gs:List Grp}(h:xo Gs)(hl:zB Gs≤4194304) : ∃ x,jn Gs.length (zB Gs) (yc Gs)=some x∧Pow x.1∧zB Gs<8*x.1∧(x.2=false→x.1=Gs.length):=by
 have hp:=h.pow;have h0:=hp.pos;have h1:=hp.le;unfold jn;split
 ·exact⟨_,rfl,hp,by show _<8*Gs.length;omega,fun _=>rfl⟩
 ·split
  ·exact⟨_,rfl,hp,by show _<8*Gs.length;omega,by simp⟩
  ·have h2:=zbi h;split
   ·rename_i h3;exact⟨_,rfl,hp.dbl h3,by show _<8*(2*Gs.length);omega,by simp⟩
   ·have h4:Gs.length=1048576:=by omega
    rw[zh (by omega)];exact⟨_,rfl,hp,by show _<8*Gs.length;omega,by simp⟩
theorem yx.do{H:Nat→Nat}{S:Nat→Prop}{Gs:List Grp}(h:yx H S Gs){x:Nat × Bool}(hx:Pow x.1)(hu:zB Gs≤8*x.1)(hn:x.2=false→x.1=Gs.length) :
  yx H S (doG H x Gs)∧zB (doG H x Gs)=zB Gs∧(doG H x Gs).length=x.1:=by
 unfold doG
 cases hb:x.2 with
 | false=>exact⟨h,rfl,(hn hb).symm⟩
 | true =>
  obtain⟨h1,h2,h3,_⟩:=h.rehash hx hu;exact⟨h1,h2,h3⟩
def jI(H:Nat→Nat)(Gs:List Grp)(s:Nat):List Grp:=uh H (doG H ((jn Gs.length (zB Gs) (yc Gs)).getD (0,false)) Gs) s
theorem yx.put{H:Nat→Nat}{S:Nat→Prop}{Gs:List Grp}(h:yx H S Gs)(hl:zB Gs≤4194304){s:Nat}(hs:s≤4294967295)(hn : ¬ S s) :
  ∃ x,jn Gs.length (zB Gs) (yc Gs)=some x∧Pow x.1∧zB Gs≤8*x.1∧(x.2=false→x.1=Gs.length)∧yx H S (doG H x Gs)∧vw (doG H x Gs) (H s) s=some (jI H Gs s) ∧
   yx H (fun y=>y=s∨S y) (jI H Gs s)∧zB (jI H Gs s)=zB Gs+1:=by
 obtain⟨x,h1,h2,h3,h4⟩:=zhX h.ok hl;obtain⟨k1,k2,k3⟩:=h.do h2 (qI h3) h4;have hm : ∃ o,vw (doG H x Gs) (H s) s=some o:=by
  cases e:vw (doG H x Gs) (H s) s with
  | some o=>exact⟨o,rfl⟩
  | none =>
   have:=(Jz k1.ok _ _).1 e;rw[k2,k3]at this;omega
 obtain⟨o,ho⟩:=hm;have e:jI H Gs s=o:=by
  unfold jI uh;rw[h1];simp[ho]
 rw[e];refine⟨x,h1,h2,qI h3,h4,k1,ho,k1.ins hs hn ho,?_⟩;rw[(Uj k1.ok hs ho).1,k2]
theorem zku(L:List (Option Ent))(o:Option Ent){s:Nat}(h:s<L.length):yH (L++[o]) s=yH L s:=by
 unfold yH;rw[uc h]
theorem XE{L:List (Option Ent)}{s:Nat}(h:vU L s):s<L.length:=by
 obtain⟨e,h⟩:=h;exact(zC.1 h).1
theorem zhM(L:List (Option Ent))(x:Ent)(s:Nat):vU (L++[some x]) s↔s=L.length∨vU L s:=by
 constructor
 ·rintro⟨e,h⟩;rcases qs s L.length with hl | hl | hl
  ·rw[uc hl]at h;exact .inr ⟨e,h⟩
  ·exact .inl hl
  ·rw[xu (by simp;omega)]at h;cases h
 ·rintro(rfl | h)
  ·exact⟨x,by simp⟩
  ·obtain⟨e,he⟩:=id h;exact⟨e,by rw[uc (XE h)];exact he⟩
theorem ziT{L:List (Option Ent)}(h:Z0 L){x:Ent}(hx:xG L x.key=none):Z0 (L++[some x]):=by
 have hn:=za6 hx;have hc : ∀ s e,(L++[some x])[s]? = some (some e)→(s<L.length∧L[s]? = some (some e))∨(s=L.length∧e=x):=by
  intro s e hs;rcases qs s L.length with hl | hl | hl
  ·rw[uc hl]at hs;exact .inl ⟨hl,hs⟩
  ·subst hl;simp at hs;exact .inr ⟨rfl,hs.symm⟩
  ·rw[xu (by simp;omega)]at hs;cases hs
 intro s t e f hs ht hk;rcases hc s e hs with⟨h1,h2⟩ | ⟨h1,h2⟩<;>rcases hc t f ht with⟨h3,h4⟩ | ⟨h3,h4⟩
 ·exact h s t e f h2 h4 hk
 ·subst h4;exact absurd hk (hn s e h2)
 ·subst h2;exact absurd hk.symm (hn t f h4)
 ·omega
theorem zgJ(L:List (Option Ent))(x:Ent):zV (L++[some x])=zV L+1:=by unfold zV;simp
theorem Jj(L:List (Option Ent)):zV L≤L.length:=VE
theorem vH.insert{seed:Nat}{same:Bool}{L:List (Option Ent)}{Gs:List Grp}(h:vH seed same L Gs){x:Ent}(hx:xG L x.key=none)(hl:L.length≤4194304) :
  yx (zZ seed same (L++[some x])) (vU L) Gs∧vH seed same (L++[some x]) (jI (zZ seed same (L++[some x])) Gs L.length):=by
 have h1:yx (zZ seed same (L++[some x])) (vU L) Gs:=h.holds.congr (fun s hs=>by unfold zZ;rw[zku _ _ (XE hs)]);have h0:=Jj L;obtain⟨y,k1,k2,k3,k4,k5,k6,k7,k8⟩:=h1.put (by rw[h.used];omega) (s:=L.length) (by omega) (fun c=>by have:=XE c;omega);exact⟨h1,k7.of_iff (fun s=>(zhM L x s).symm),ziT h.keys hx,by rw[k8,h.used,zgJ]⟩
theorem vH.new(seed:Nat)(same:Bool):vH seed same [] (xf 1) :=
 ⟨(newG_holds _ ⟨0,by decide,rfl⟩).of_iff (fun s=>⟨fun h=>h.elim,fun⟨e,h⟩=>by simp at h⟩),fun s t e f h=>by simp at h,by rw[VW];rfl⟩
end
section
open Go.RowKit Go.Shelf
variable{Fo:Nat→Prop}
theorem Azn4k {P:Prop}(h:P:=by
 generalize w.heap.size=b at *;obtain⟨hb_0,hb_1,hb_f,hb_l,H_hb⟩:=cr2 hb;clear hb
 go_wp2_with (first
   | (go_at_call 145;refine(HF.out _).mono ?_;rintro e w' ⟨rfl,rfl⟩)
   | (go_at_call 144;refine(HM.out _).mono ?_;rintro e w' ⟨rfl,rfl⟩))
 go_ret;exact⟨rfl,HP.out⟩):P:=h
theorem zbW(seed:Nat)(same:Bool)(hs:seed<18446744073709551616)(key:ByteArray)(hk:key.size≤140737488355328)(w:World) :
    Calls prog 93 #[.agg #[.int .u64 seed,.bool same],.string key] w fun e w'=>e=.returned (.int .u64 (uU seed same key:Nat))∧zb w w':=by
  have hp:zb w (w.alloc (.cells #[.int .u64 seed,.bool same] 135)):=(Mod.refl _ w).alloc _;have hb:=zi (w:=w) (o:=(.cells #[.int .u64 seed,.bool same] 135 (0,0))) rfl;have HP:=za hp;obtain⟨res,hres⟩:=zc (uU seed same key);rw[hres];unfold uU at hres;have HR:=za hres;clear hp hres
  cases same with
  | true =>
    have hr:=HR.out;simp only[if_true]at hr;have HF:=za (fun W=>zaZ seed hs ⟨#[]⟩ (by decide) W);have HM:=za (fun W=>zcm seed hs W);have e0:uP seed (⟨#[]⟩:ByteArray).data.toList=seed:=rfl;have e1:uP seed []=seed:=rfl;rw[e1]at hr;rw[e0]at HF;subst hr;clear HR e0 e1;go_enter func93,ntmps93;go_upto_region 1 with fail
    generalize w.alloc (.cells #[.int .u64 seed,.bool true] 135)=W1 at *;exact Azn4k
  | false =>
    have hr:=HR.out;simp only[Bool.false_eq_true,if_false]at hr;have hq:=KY hs key.data.toList;have HF:=za (fun W=>zaZ seed hs key hk W);have HM:=za (fun W=>zcm _ hq W);subst hr;clear HR;generalize uP seed key.data.toList=q at *;go_enter func93,ntmps93;go_upto_region 1 with fail
    generalize w.alloc (.cells #[.int .u64 seed,.bool false] 135)=W1 at *;exact Azn4k
abbrev yV(d:Nat):Value := .pointer (some ⟨d,0,none⟩)
structure zY(Fo:Nat→Prop)(w:World)(d q p:Nat)(sv:Value)(Dl:Nat→Prop)(seed:Nat)(same:Bool)(L:List (Option Ent))(Gs:List Grp):Prop where
 box:w.heap[d]? = some (.cells #[.pointer (some ⟨q,0,none⟩),.int .u64 seed,.bool same,.pointer (some ⟨p,0,none⟩)] 159 (0,0))
 log:zX Fo w Dl q L
 ix:yd w (fun k=>k=p∨sv.ownBlock=some k) p sv Gs
 sd:seed<18446744073709551616
section
variable{w w':World}{d q p:Nat}{sv:Value}{Dl:Nat→Prop}{seed:Nat}{same:Bool}{L:List (Option Ent)}{Gs:List Grp}
theorem zY.pure(h:zY Fo w d q p sv Dl seed same L Gs)(hp:zb w w'):zY Fo w' d q p sv Dl seed same L Gs :=
 ⟨hp.heap (fun h=>h) h.box,h.log.pure hp,h.ix.pure hp,h.sd⟩
def jq(d:Nat)(Dl:Nat→Prop)(p:Nat)(sv:Value)(k:Nat):Prop:=k=d∨Dl k∨k=p∨sv.ownBlock=some k
theorem zY.types(h:zY Fo w d q p sv Dl seed same L Gs){k:Nat}(hk:jq d Dl p sv k){cs:Array Value}{T:TypeId}{fz:Nat × Nat}(e:w.heap[k]? = some (.cells cs T fz)) :
  T=159∨T=282∨T=47∨T=293∨T=249:=by
 rcases hk with rfl | hk | rfl | hk
 ·rw[h.box]at e;cases e;exact .inl rfl
 ·rcases h.log.types hk e with e | e
  ·exact .inr (.inl e)
  ·exact .inr (.inr (.inl e))
 ·rw[h.ix.box]at e;cases e;exact .inr (.inr (.inr (.inl rfl)))
 ·obtain⟨cc,e2⟩:=ym h.ix.row hk;rw[e2]at e;cases e;exact .inr (.inr (.inr (.inr rfl)))
theorem zY.lt(h:zY Fo w d q p sv Dl seed same L Gs){k:Nat}(hk:jq d Dl p sv k):k<w.heap.size:=by
 rcases hk with rfl | hk | rfl | hk
 ·exact zl h.box
 ·exact h.log.lt hk
 ·exact zl h.ix.box
 ·exact ua h.ix.row hk
theorem zY.frame{S:Nat→Prop}(h:zY Fo w d q p sv Dl seed same L Gs)(hm:Mod S w w')(hD : ∀ k,jq d Dl p sv k → ¬ S k)(hS : ∀ k,k<w.heap.size→S k → ∀ cs fz,w.heap[k]? ≠ some (.cells cs 5 fz)):zY Fo w' d q p sv Dl seed same L Gs :=
 ⟨hm.heap (hD d (.inl rfl)) h.box,h.log.frame hm (fun k hk=>hD k (.inr (.inl hk))) hS,h.ix.mod hm (fun k hk=>hD k (.inr (.inr hk))),h.sd⟩
theorem zY.frameF{S:Nat→Prop}(h:zY Fo w d q p sv Dl seed same L Gs)(hm:Mod S w w')(hD : ∀ k,jq d Dl p sv k → ¬ S k)(hS : ∀ k,k<w.heap.size→S k→Fo k ∨ ∀ cs fz,w.heap[k]? ≠ some (.cells cs 5 fz)):zY Fo w' d q p sv Dl seed same L Gs :=
 ⟨hm.heap (hD d (.inl rfl)) h.box,h.log.frameF hm (fun k hk=>hD k (.inr (.inl hk))) hS,h.ix.mod hm (fun k hk=>hD k (.inr (.inr hk))),h.sd⟩
theorem zY.refo{Fo':Nat→Prop}(h:zY Fo w d q p sv Dl seed same L Gs)(hm:zb w w')(h1 : ∀ k,Fo' k→Fo k∨w.heap.size≤k)(h2 : ∀ k,Fo' k→k<w'.heap.size):zY Fo' w' d q p sv Dl seed same L Gs :=
 ⟨hm.heap (fun h=>h) h.box,h.log.refo hm h1 h2,h.ix.pure hm,h.sd⟩
theorem zY.nd(h:zY Fo w d q p sv Dl seed same L Gs) : ¬ Dl d:=fun hk=>by
 rcases h.log.types hk h.box with e | e<;>cases e
theorem zY.npd(h:zY Fo w d q p sv Dl seed same L Gs):p≠d:=fun e=>by
 have h1:=h.ix.box;rw[e,h.box]at h1;cases h1
theorem zY.nsd(h:zY Fo w d q p sv Dl seed same L Gs):sv.ownBlock≠some d:=fun e=>by
 obtain⟨cc,e2⟩:=ym h.ix.row e;rw[h.box]at e2;cases e2
theorem zY.nlp(h:zY Fo w d q p sv Dl seed same L Gs) : ∀ k,Dl k → ¬ (k=p∨sv.ownBlock=some k):=by
 rintro k hk (rfl | e)
 ·rcases h.log.types hk h.ix.box with e | e<;>cases e
 ·obtain⟨cc,e2⟩:=ym h.ix.row e;rcases h.log.types hk e2 with e | e<;>cases e
end
theorem zgq{w:World}{D:Nat→Prop}{q:Nat}{L:List (Option Ent)}(h:zX Fo w D q L)(s:Nat):(yH L s).size≤250:=by
 unfold yH;split
 ·rename_i e he;exact(h.ok.ent e (yh he)).k1
 ·decide
theorem J2{w:World}{D:Nat→Prop}{q:Nat}{L:List (Option Ent)}(h:zX Fo w D q L)(s:Nat)(hs:s≤4294967295) :
  Calls prog 95 #[.agg #[.pointer (some ⟨q,0,none⟩)],.int .u32 s] w fun e w'=>e=.returned (.string (yH L s))∧zb w w':=by
 have hp:zb w (w.alloc (.cells #[.pointer (some ⟨q,0,none⟩)] 156)):=(Mod.refl _ w).alloc _;have hb:=zi (w:=w) (o:=(.cells #[.pointer (some ⟨q,0,none⟩)] 156 (0,0))) rfl;have HK:=za (zbt (h.pure hp) s hs);have HP:=za hp;clear h hp;go_enter func95,ntmps95;go_upto_region 1 with fail
 generalize w.alloc (.cells #[.pointer (some ⟨q,0,none⟩)] 156)=W1 at *;generalize w.heap.size=b at *;obtain⟨hb_0,hb_f,hb_l,H_hb⟩:=cr1 hb;clear hb
 go_wp2_with (go_at_call 146;refine HK.out.mono ?_;rintro e w' ⟨rfl,rfl⟩)
 go_ret;exact⟨rfl,HP.out⟩
theorem j4{w:World}{d q p:Nat}{sv:Value}{Dl:Nat→Prop}{seed:Nat}{same:Bool}{L:List (Option Ent)}{Gs:List Grp}(h:zY Fo w d q p sv Dl seed same L Gs) :
  Calls prog 91 #[yV d] w fun e w'=>e=.returned (.bool false)∧w=w':=by
 have hb:=h.box;clear h;obtain⟨hb_0,hb_1,hb_2,hb_3,hb_f,hb_l,H_hb⟩:=cr4 hb;clear hb;go_enter func91,ntmps91;go_wp2;go_ret;exact⟨rfl,rfl⟩
theorem Kq{w:World}{d q p:Nat}{sv:Value}{Dl:Nat→Prop}{seed:Nat}{same:Bool}{L:List (Option Ent)}{Gs:List Grp}(h:zY Fo w d q p sv Dl seed same L Gs)(s:Nat)(hs:s≤4294967295) :
    Calls prog 178 #[yV d,.int .u32 s] w fun e w'=>e=.returned (.int .u64 (zZ seed same L s:Nat))∧zb w w':=by
  have HK:=za (fun W (hW:zb w W)=>J2 (h.log.pure hW) s hs);have HH:=za (fun W=>zbW seed same h.sd (yH L s) (by have:=zgq h.log s;omega) W);have e1:uU seed same (yH L s)=zZ seed same L s:=rfl;rw[e1]at HH;have hb:=h.box;clear h e1;generalize zZ seed same L s=r at *;obtain⟨hb_0,hb_1,hb_2,hb_3,hb_f,hb_l,H_hb⟩:=cr4 hb;clear hb;have hf:=hb_f;go_enter func178,ntmps178;go_upto_region 1 with fail
  go_region_held3 (fun w'=>w'.cell? ⟨d,0,none⟩=some (.pointer (some ⟨q,0,none⟩))∧w'.cell? ⟨d,1,none⟩=some (.int .u64 seed)∧w'.cell? ⟨d,2,none⟩=some (.bool same))
    (first | exact⟨hb_0,hb_1,hb_2⟩ | exact⟨hp1.cell (fun h=>h) hb_0,hp1.cell (fun h=>h) hb_1,hp1.cell (fun h=>h) hb_2⟩ | exact⟨(hp1.trans hp2).cell (fun h=>h) hb_0,(hp1.trans hp2).cell (fun h=>h) hb_1,(hp1.trans hp2).cell (fun h=>h) hb_2⟩)
    (first
      | (go_at_call 95;refine(HK.out _ (by exact yW)).mono ?_;rintro e w1 ⟨rfl,hp1⟩)
      | (go_at_call 93;refine(HH.out _).mono ?_;rintro e w2 ⟨rfl,hp2⟩))
  go_wp2;go_ret;exact⟨rfl,(Mod.of_drew hp1).trans hp2⟩
end
section
open Go.RowKit Go.Shelf
variable{Fo:Nat→Prop}
section
variable{w:World}{d q p:Nat}{sv:Value}{Dl:Nat→Prop}{seed:Nat}{same:Bool}{L:List (Option Ent)}{Gs:List Grp}
def K5(w:World)(x:Nat × Bool)(e:Ending)(w':World):Prop :=
 e=.returned (.tuple #[.agg #[.int .i64 (x.1:Nat),.bool x.2],.int .i64 0])∧zb w w'
theorem zaw(h:zY Fo w d q p sv Dl seed same L Gs){x:Nat × Bool}(hx:jn Gs.length (zB Gs) (yc Gs)=some x):Calls prog 113 #[yV d] w (K5 w x):=by
  have hpow:=h.ix.ok.pow;have hle:=KN h.ix.ok.grp;have HX:=za h.ix;have HG:=za (fun W=>zet hpow hle W);rw[hx]at HG;dsimp only[QG]at HG;have hb:=h.box;have hp0:zb w (w.alloc (.cells #[.int .i64 0,.bool false] 189)):=(Mod.refl _ w).alloc _;have h2:=zi (w:=w) (o := .cells #[.int .i64 0,.bool false] 189 (0,0)) rfl;have hbb:=hp0.heap (fun h=>h) hb;have HP:=za hp0;replace HX:=za (HX.out.pure hp0);have HBX:=za hb;clear h hx hpow hle hp0 hb;obtain⟨x1,x2⟩:=x;dsimp only at HG;go_enter func113,ntmps113;go_upto_region 1 with fail
  generalize w.alloc (.cells #[.int .i64 0,.bool false] 189)=W1 at *;obtain⟨b,hbe⟩:=zc w.heap.size;rw[hbe]at h2 ⊢;have HB:=za hbe;clear hbe;have hdb:d≠b:=by have:=zl HBX.out;have:=HB.out;omega
  obtain⟨hbb_0,hbb_1,hbb_2,hbb_3,hbb_f,hbb_l,H_hbb⟩:=cr4 hbb;clear hbb;obtain⟨h2_0,h2_1,h2_f,h2_l,H_h2⟩:=cr2 h2;clear h2
  go_region_held3 (fun w'=>w'.cell? ⟨d,3,none⟩=some (.pointer (some ⟨p,0,none⟩)))
    (first | exact hbb_3 | exact hp1.cell (fun h=>h) hbb_3 | exact(Mod.set2 b 0 1 _ _).cell (fun e=>hdb e) (hp1.cell (fun h=>h) hbb_3))
    (first
      | (go_at_call 159;refine zm (KF (HX.out.pure (by exact yW))) ?_;rintro e w1 ⟨rfl,rfl⟩)
      | (go_at_call 174;refine zm (Jt (HX.out.pure (by exact yW))) ?_;rintro e w1 ⟨rfl,rfl⟩)
      | (go_at_call 160;refine zm (Kn (HX.out.pure (by exact yW))) ?_;rintro e w1 ⟨rfl,rfl⟩)
      | (go_at_call 173;refine(HG.out _).mono ?_;rintro e w1 ⟨rfl,hp1⟩;have k0:=hp1.cell (fun h=>h) h2_0;have k1:=hp1.cell (fun h=>h) h2_1;have kf : ∀ j,w1.frozen? ⟨b,j,none⟩=false:=(fun j=>(hp1.cells.2 b j h2_l).trans (h2_f j));have kl:b<w1.heap.size:=hp1.lt h2_l))
  go_wp2;obtain⟨f1,y0,y1⟩:=jA (v0 := .int .i64 x1) (v1 := .bool x2) ((Mod.of_drew hp1).heap (fun h=>h) H_h2.out) (HP.out.trans (Mod.of_drew hp1)) (by have:=HB.out;omega) rfl;obtain⟨Y,hY⟩:=zc ((w1.setCell ⟨b,0,none⟩ (.int .i64 x1)).setCell ⟨b,1,none⟩ (.bool x2));rw[hY]at f1 y0 y1 ⊢;exact zM (v := .tuple #[.agg #[.int .i64 x1,.bool x2],.int .i64 0]) (by simp[results,results113,go_sem,y0,y1]) rfl ⟨rfl,f1⟩
theorem zhS(h:zY Fo w d q p sv Dl seed same L Gs):Ve prog 178 #[yV d] #[] (zZ seed same L) (fun _=>True) (fun W=>zb w W) w :=
 ⟨enters_of func178 (by kernel_rfl) rfl,fun s W hs _ hJ=>by
  have:=(yl (n:=0)).2 (Kq (h.pure hJ) s hs);simpa using this,fun s=>KG seed same L s,fun A B hJ hm=>hJ.then hm (fun i hi e=>by omega),Mod.refl _ _⟩
def Va(w:World)(p:Nat)(sv:Value)(p2:Nat)(sv2:Value):Prop:=(p2=p∧sv2=sv)∨(w.heap.size≤p2 ∧ ∀ k,sv2.ownBlock=some k→w.heap.size≤k)
def zff(Fo:Nat→Prop)(w:World)(d q p:Nat)(sv:Value)(Dl:Nat→Prop)(seed:Nat)(same:Bool)(L:List (Option Ent))(Gs:List Grp)(x:Nat × Bool)(e:Ending)(w':World):Prop :=
 ∃ v p2 sv2,e=.returned v∧zY Fo w' d q p2 sv2 Dl seed same L (doG (zZ seed same L) x Gs)∧Mod (fun k=>k=d) w w'∧Va w p sv p2 sv2
theorem zY.reindex{w w1:World}{p2:Nat}{sv2:Value}{Gs2:List Grp}(h:zY Fo w d q p sv Dl seed same L Gs)(hp:zb w w1)(hx:yd w1 (fun k=>k=p2∨sv2.ownBlock=some k) p2 sv2 Gs2){Y:World}(hY:w1.setCell ⟨d,3,none⟩ (.pointer (some ⟨p2,0,none⟩))=Y) :
  zY Fo Y d q p2 sv2 Dl seed same L Gs2∧Mod (fun k=>k=d) w Y:=by
 subst hY;have h1:=h.pure hp;have hm:Mod (fun k=>k=d) w1 (w1.setCell ⟨d,3,none⟩ (.pointer (some ⟨p2,0,none⟩))):=Mod.set1 _ _ _;refine⟨⟨?_,h1.log.frame hm (fun k hk e=>by subst e;exact h1.nd hk) (fun k _ e cs fz e2=>by subst e;rw[h1.box]at e2;cases e2),hx.mod hm (fun k hk e => ?_),h.sd⟩,(Mod.of_pure hp).trans hm⟩
 ·have:=ve (j:=3) (v := .pointer (some ⟨p2,0,none⟩)) h1.box;simpa using this
 ·subst e;rcases hk with e | e
  ·have h2:=hx.box;rw[← e,h1.box]at h2;cases h2
  ·obtain⟨cc,e2⟩:=ym hx.row e;rw[h1.box]at e2;cases e2
theorem J7(h:zY Fo w d q p sv Dl seed same L Gs)(x:Nat × Bool)(hx:x.2=true→Pow x.1∧zB Gs≤8*x.1):Calls prog 176 #[yV d,.agg #[.int .i64 (x.1:Nat),.bool x.2]] w (zff Fo w d q p sv Dl seed same L Gs x):=by
  obtain⟨x1,x2⟩:=x;have hp0:zb w (w.alloc (.cells #[.int .i64 x1,.bool x2] 189)):=(Mod.refl _ w).alloc _;have h2:=zi (w:=w) (o := .cells #[.int .i64 x1,.bool x2] 189 (0,0)) rfl;have HM:=za h
  cases x2 with
  | false =>
    have HP:=za hp0;clear h hx hp0;go_enter func176,ntmps176;go_upto_region 1 with fail
    generalize w.alloc (.cells #[.int .i64 x1,.bool false] 189)=W1 at *;generalize w.heap.size=b at *;obtain⟨h2_0,h2_1,h2_f,h2_l,H_h2⟩:=cr2 h2;clear h2;go_wp2;refine zM (v := .tuple #[]) (by simp[results,results176,go_sem]) rfl ?_;exact⟨_,p,sv,rfl,HM.out.pure HP.out,Mod.of_pure HP.out,.inl ⟨rfl,rfl⟩⟩
  | true =>
    obtain⟨k1,k2⟩:=hx rfl;have HR:=za (fun(W:World) (hW:zb w W)=>zhw (h.pure hW).ix x1 k1 k2 (zhS (h.pure hW)) (fun _ _=>trivial));have HP:=za hp0;have hb:=hp0.heap (fun h=>h) h.box;clear h hx hp0 k1 k2;go_enter func176,ntmps176;go_upto_region 1 with fail
    generalize hW1:w.alloc (.cells #[.int .i64 x1,.bool true] 189)=W1 at *;clear hW1;obtain⟨b,hbe⟩:=zc w.heap.size;rw[hbe]at h2 ⊢;have HB:=za hbe;clear hbe;obtain⟨hb_0,hb_1,hb_2,hb_3,hb_f,hb_l,H_hb⟩:=cr4 hb;clear hb;obtain⟨h2_0,h2_1,h2_f,h2_l,H_h2⟩:=cr2 h2;clear h2;go_upto_region 3 with fail
    go_region_held3 (fun w'=>w'.cell? ⟨d,3,none⟩=some (.pointer (some ⟨p,0,none⟩))∧w'.cell? ⟨b,0,none⟩=some (.int .i64 x1))
      (first | exact⟨hb_3,h2_0⟩ | exact⟨hp1.cell (fun h=>h) hb_3,hp1.cell (fun h=>h) h2_0⟩)
      (first
        | (go_at_call 227;refine(HR.out _ (by have:=HP.out;exact yW)).mono ?_;rintro e w1 ⟨p2,sv2,rfl,hix,hp1,hl2,hs2,_,_⟩;have k3:=hp1.cell (fun h=>h) hb_3;have kf : ∀ j,w1.frozen? ⟨d,j,none⟩=false:=(fun j=>(hp1.cells.2 d j hb_l).trans (hb_f j));have kl:d<w1.heap.size:=hp1.lt hb_l))
    go_wp2;have hpw:=HP.out.trans (Mod.of_drew hp1);obtain⟨g1,g2⟩:=HM.out.reindex hpw hix rfl;refine zM (v := .tuple #[]) (by simp[results,results176,go_sem]) rfl ?_;have hl:w.heap.size≤W1.heap.size:=HP.out.size;exact⟨_,p2,sv2,rfl,g1,g2,.inr ⟨zJ hl hl2,fun k hk=>zJ hl (hs2 k hk)⟩⟩
def zjS(Fo:Nat→Prop)(w:World)(d q p:Nat)(sv:Value)(Dl:Nat→Prop)(seed:Nat)(same:Bool)(L:List (Option Ent))(Gs2:List Grp)(e:Ending)(w':World):Prop :=
 ∃ p2 sv2,e=.returned (.int .i64 0)∧zY Fo w' d q p2 sv2 Dl seed same L Gs2∧Mod (fun k=>k=d∨k=p∨sv.ownBlock=some k) w w'∧Va w p sv p2 sv2
theorem zgy{w w3 w4 w5:World}{Gs1 Gs2:List Grp}{p2:Nat}{sv2:Value}(h:zY Fo w3 d q p2 sv2 Dl seed same L Gs1)(h4:zb w3 w4)(hx:yd w5 (fun k=>k=p2∨sv2.ownBlock=some k) p2 sv2 Gs2)(h5:Mod (fun k=>k=p2∨sv2.ownBlock=some k) w4 w5)
  (hm:Mod (fun k=>k=d) w w3) (hs:Va w p sv p2 sv2):zY Fo w5 d q p2 sv2 Dl seed same L Gs2∧Mod (fun k=>k=d∨k=p∨sv.ownBlock=some k) w w5:=by
 have h1:=h.pure h4;refine⟨⟨h5.heap (fun hk => ?_) h1.box,h1.log.frame h5 (fun k hk e=>h1.nlp k hk e) (fun k _ e cs fz e2 => ?_),hx,h.sd⟩,?_⟩
 ·rcases hk with e | e
  ·exact h1.npd e.symm
  ·exact h1.nsd e
 ·rcases e with rfl | e
  ·rw[h1.ix.box]at e2;cases e2
  ·obtain⟨cc,e3⟩:=ym h1.ix.row e;rw[e3]at e2;cases e2
 ·have hm4:=hm.then h4 (fun _ _ h=>h.elim);refine Mod.trans' hm4 h5 (fun i _ e => .inl e) (fun i hi e => ?_);rcases hs with⟨rfl,rfl⟩ | ⟨g1,g2⟩
  ·exact .inr e
  ·rcases e with rfl | e
   ·omega
   ·have:=g2 _ e;omega
theorem zdi(h:zY Fo w d q p sv Dl seed same L Gs){x:Nat × Bool}(hx:jn Gs.length (zB Gs) (yc Gs)=some x)(hp:Pow x.1)(hu:zB Gs≤8*x.1){s:Nat}(hs:s≤4294967295){Gs2:List Grp}
    (hi:vw (doG (zZ seed same L) x Gs) (zZ seed same L s) s=some Gs2):Calls prog 116 #[yV d,.int .u32 s] w (zjS Fo w d q p sv Dl seed same L Gs2):=by
  have HPl:=za (zaw h hx);have HDo:=za (fun(W:World) (hW:zb w W)=>J7 (h.pure hW) x (fun _=>⟨hp,hu⟩));have HH:=za h;have HI:=za hi;have hsl:=KG seed same L s;obtain⟨hh,hhe⟩:=zc (zZ seed same L s);have HS:=za (fun(W:World) (p2:Nat) (sv2:Value) (Gs1:List Grp) (hW:zY Fo W d q p2 sv2 Dl seed same L Gs1)=>Kq hW s hs);rw[hhe]at HI hsl HS;have HHE:=za hhe;obtain⟨x1,x2⟩:=x;clear h hx hp hu hi hhe;unfold K5 at HPl;dsimp only at HPl HDo HI;go_enter func116,ntmps116;go_upto_region 2 with(go_at_call 113;refine HPl.out.mono ?_;rintro e w1 ⟨rfl,hp1⟩)
  have hpa:zb w1 (w1.alloc (.cells #[.int .i64 x1,.bool x2] 189)):=(Mod.refl _ w1).alloc _;have h5:=zi (w:=w1) (o := .cells #[.int .i64 x1,.bool x2] 189 (0,0)) rfl;have HP:=za (hp1.trans hpa);clear hp1 hpa HPl;generalize w1.alloc (.cells #[.int .i64 x1,.bool x2] 189)=W2 at *;generalize w1.heap.size=b5 at *;obtain⟨h5_0,h5_1,h5_f,h5_l,H_h5⟩:=cr2 h5;clear h5;go_upto_region 5 with(go_at_call 176;refine(HDo.out _ HP.out).mono ?_;rintro e w3 ⟨v,p2,sv2,rfl,hm3,hm,hsx⟩)
  have hsx':Va w p sv p2 sv2:=by
    have:=HP.out.size;rcases hsx with h | ⟨g1,g2⟩
    · exact .inl h
    · exact .inr ⟨by omega,fun k hk=>by have:=g2 k hk;omega⟩
  have hmw:Mod (fun k=>k=d) w w3:=(Mod.of_pure HP.out).trans hm;have HM3:=za hm3;have HMW:=za hmw;have HSX:=za hsx';have hb:=hm3.box;clear h5_0 h5_1 h5_f h5_l;clear hm3 hm hsx hsx' hmw H_h5;generalize hGd:doG (zZ seed same L) (x1,x2) Gs=Gs1 at *;clear hGd;obtain⟨hb_0,hb_1,hb_2,hb_3,hb_f,hb_l,H_hb⟩:=cr4 hb;clear hb;have HIN:=za (fun(W:World) (hW:zb w3 W)=>zaA (HM3.out.ix.pure hW) hh s hsl hs)
  go_region_held3 (fun w'=>w'.cell? ⟨d,3,none⟩=some (.pointer (some ⟨p2,0,none⟩)))
    (first | exact hb_3 | exact hp1.cell (fun h=>h) hb_3 | exact hm5.cell (fun e=>e.elim (fun e=>HM3.out.npd e.symm) (fun e=>HM3.out.nsd e)) (hp1.cell (fun h=>h) hb_3))
    (first
      | (go_at_call 178;refine zm (HS.out _ p2 sv2 Gs1 (HM3.out.pure (by exact yW))) ?_;rintro e w4 ⟨rfl,hp1⟩)
      | (go_at_call 177;refine(HIN.out _ (by exact yW)).mono ?_;rintro e w5 hq;unfold YF at hq;rw[HI.out]at hq;obtain⟨rfl,hx5,hm5⟩:=hq))
  go_wp2;go_ret;obtain⟨g1,g2⟩:=zgy HM3.out (Mod.of_drew hp1) hx5 hm5 HMW.out HSX.out;exact⟨p2,sv2,rfl,g1,g2,HSX.out⟩
end
end
section
open Go.RowKit Go.Shelf
variable{Fo:Nat→Prop}
section
variable{w:World}{d q p:Nat}{sv:Value}{Dl:Nat→Prop}{seed:Nat}{same:Bool}{L:List (Option Ent)}{Gs:List Grp}
theorem zg3(h:zY Fo w d q p sv Dl seed same L Gs){b b1:Nat}{key:ByteArray}(hb0:w.heap[b]? = some (.cells #[yV d] 51 (0,0)))(hb1:w.heap[b1]? = some (.cells #[.string key] 9 (0,0)))(s:Nat)(hs:s≤4294967295) :
    Calls prog 94 #[.int .u32 s,.pointer (some ⟨b,0,none⟩),.pointer (some ⟨b1,0,none⟩)] w fun e w'=>e=.returned (.bool (yH L s==key))∧zb w w':=by
  have HK:=za (fun W (hW:zb w W)=>J2 (h.log.pure hW) s hs);have hb:=h.box;clear h;generalize yH L s=ks at *;obtain⟨hb_0,hb_1,hb_2,hb_3,hb_f,hb_l,H_hb⟩:=cr4 hb;clear hb;obtain⟨hb0_0,hb0_f,hb0_l,H_hb0⟩:=cr1 hb0;clear hb0;obtain⟨hb1_0,hb1_f,hb1_l,H_hb1⟩:=cr1 hb1;clear hb1;go_enter func94,ntmps94;go_upto_region 1 with fail
  go_region_held3 (fun w'=>w'.cell? ⟨d,0,none⟩=some (.pointer (some ⟨q,0,none⟩))∧w'.cell? ⟨b,0,none⟩=some (.pointer (some ⟨d,0,none⟩))∧w'.cell? ⟨b1,0,none⟩=some (.string key))
    (first | exact⟨hb_0,hb0_0,hb1_0⟩ | exact⟨hp1.cell (fun h=>h) hb_0,hp1.cell (fun h=>h) hb0_0,hp1.cell (fun h=>h) hb1_0⟩)
    (first
      | (go_at_call 95;refine(HK.out _ (by exact yW)).mono ?_;rintro e w1 ⟨rfl,hp1⟩))
  go_wp2;go_ret;exact⟨by rw[← zdJ];rfl,Mod.of_drew hp1⟩
def kN(L:List (Option Ent))(key:ByteArray):Nat × Nat:=match xG L key with
 | some s=>(s,0)
 | none=>(0,9)
def YO(w:World)(L:List (Option Ent))(key:ByteArray)(e:Ending)(w':World):Prop :=
 e=.returned (.tuple #[.int .u32 ((kN L key).1:Nat),.int .i64 ((kN L key).2:Nat)])∧zb w w'
theorem za5(h:zY Fo w d q p sv Dl seed same L Gs)(hk:vH seed same L Gs)(key:ByteArray)(hkey:key.size≤140737488355328):Calls prog 52 #[yV d,.string key] w (YO w L key):=by
  have hp0:zb w ((w.alloc (.cells #[.pointer (some ⟨d,0,none⟩)] 51)).alloc (.cells #[.string key] 9)):=((Mod.refl _ w).alloc _).alloc _;have z2:=zL (o := .cells #[.string key] 9) (zi (w:=w) (o := .cells #[.pointer (some ⟨d,0,none⟩)] 51 (0,0)) rfl);have z3:=zi (w:=w.alloc (.cells #[.pointer (some ⟨d,0,none⟩)] 51)) (o := .cells #[.string key] 9 (0,0)) (n:=w.heap.size+1) (by simp);have HP:=za hp0;have HM:=za (h.pure hp0);have HZ:=za (j4 (h.pure hp0));have HSum:=za (fun W=>zbW seed same h.sd key hkey W);have hb:=(h.pure hp0).box;have HKE:=za hk;have hsl:uU seed same key<18446744073709551616:=Ju;clear h hk hp0;go_enter func52,ntmps52;go_upto_region 1 with fail
  generalize((w.alloc (.cells #[.pointer (some ⟨d,0,none⟩)] 51)).alloc (.cells #[.string key] 9))=W1 at *;obtain⟨b,hbe⟩:=zc w.heap.size;rw[hbe]at z2 z3 ⊢;have HB:=za hbe;clear hbe;have HSame:=za (fun(W:World) (hW:zb W1 W)=>(⟨enters_of func94 (by kernel_rfl) rfl,fun pre s W' hs hJ=>by
      have:=(yl (n:=0)).2 (zg3 (HM.out.pure hJ) (hJ.heap (fun h=>h) z2) (hJ.heap (fun h=>h) z3) s hs);exact this.mono (fun e w' ⟨h1,h2⟩=>⟨h1,hJ.trans h2,xb.of_pure h2⟩),fun pre A B hJ hm=>hJ.then hm (fun i hi hs=>by have:=hs.1;have:=hW.size;omega),fun _ h=>h.elim,hW⟩ :
    ue prog 94 #[.pointer (some ⟨b,0,none⟩),.pointer (some ⟨b+1,0,none⟩)] (fun _ s=>yH L s==key) (fun _=>False) (fun _ W'=>zb W1 W') W))
  have HF:=za (fun(W:World) (hW:zb W1 W)=>zkz (HM.out.ix.pure hW) _ hsl (HSame.out W hW));obtain⟨hh,hhe⟩:=zc (uU seed same key);rw[hhe]at HF HSum hsl;have HHE:=za hhe;clear hhe HSame;obtain⟨hb_0,hb_1,hb_2,hb_3,hb_f,hb_l,H_hb⟩:=cr4 hb;clear hb;obtain⟨z2_0,z2_f,z2_l,H_z2⟩:=cr1 z2;clear z2;obtain⟨z3_0,z3_f,z3_l,H_z3⟩:=cr1 z3;clear z3;go_upto_region 3 with(go_at_call 91;refine HZ.out.mono ?_;rintro e w' ⟨rfl,rfl⟩)
  go_region_held3 (fun w'=>w'.cell? ⟨d,3,none⟩=some (.pointer (some ⟨p,0,none⟩))∧w'.cell? ⟨d,1,none⟩=some (.int .u64 seed)∧w'.cell? ⟨d,2,none⟩=some (.bool same)∧w'.cell? ⟨b,0,none⟩=some (.pointer (some ⟨d,0,none⟩))∧w'.cell? ⟨b+1,0,none⟩=some (.string key))
    (first | exact⟨hb_3,hb_1,hb_2,z2_0,z3_0⟩ | exact⟨hp1.cell (fun h=>h) hb_3,hp1.cell (fun h=>h) hb_1,hp1.cell (fun h=>h) hb_2,hp1.cell (fun h=>h) z2_0,hp1.cell (fun h=>h) z3_0⟩ | exact⟨(hp1.trans hp2).cell (fun h=>h) hb_3,(hp1.trans hp2).cell (fun h=>h) hb_1,(hp1.trans hp2).cell (fun h=>h) hb_2,(hp1.trans hp2).cell (fun h=>h) z2_0,(hp1.trans hp2).cell (fun h=>h) z3_0⟩)
    (first
      | (go_at_call 93;refine(HSum.out _).mono ?_;rintro e w1 ⟨rfl,hp1⟩)
      | (go_at_call 92;refine(HF.out _ (by exact yW)).mono ?_;rintro e w2 hq;have he:=HKE.out.find (by rw[HHE.out];exact hq);have hp2:zb w1 w2:=Mod.mono hq.1 (fun k _ ⟨_,_,_,_,hf⟩=>hf);have he2:e=.returned (.tuple #[.int .u32 ((kN L key).1:Nat),.int .i64 ((kN L key).2:Nat)]):=(by rw[he];unfold kN;cases xG L key<;>rfl);clear hq he;subst he2))
  go_wp2
  all_goals
    go_ret2;exact⟨rfl,HP.out.trans ((Mod.of_drew hp1).trans hp2)⟩
def zU(Fo:Nat→Prop)(w:World)(D:Nat→Prop)(d seed:Nat)(same:Bool)(L:List (Option Ent))(Gs:List Grp):Prop :=
 ∃ q p sv Dl,zY Fo w d q p sv Dl seed same L Gs∧vH seed same L Gs ∧ ∀ k,D k↔jq d Dl p sv k
section
variable{w w':World}{D S:Nat→Prop}{d seed:Nat}{same:Bool}{L:List (Option Ent)}{Gs:List Grp}
theorem zU.pure(h:zU Fo w D d seed same L Gs)(hp:zb w w'):zU Fo w' D d seed same L Gs:=by
 obtain⟨q,p,sv,Dl,h1,h2,h3⟩:=h;exact⟨q,p,sv,Dl,h1.pure hp,h2,h3⟩
theorem zU.lt(h:zU Fo w D d seed same L Gs){k:Nat}(hk:D k):k<w.heap.size:=by
 obtain⟨q,p,sv,Dl,h1,h2,h3⟩:=h;exact h1.lt ((h3 k).1 hk)
theorem zU.types(h:zU Fo w D d seed same L Gs){k:Nat}(hk:D k){cs:Array Value}{T:TypeId}{fz:Nat × Nat}(e:w.heap[k]? = some (.cells cs T fz)) :
  T=159∨T=282∨T=47∨T=293∨T=249:=by
 obtain⟨q,p,sv,Dl,h1,h2,h3⟩:=h;exact h1.types ((h3 k).1 hk) e
theorem zU.frame(h:zU Fo w D d seed same L Gs)(hm:Mod S w w')(hD : ∀ k,D k → ¬ S k)(hS : ∀ k,k<w.heap.size→S k → ∀ cs fz,w.heap[k]? ≠ some (.cells cs 5 fz)):zU Fo w' D d seed same L Gs:=by
 obtain⟨q,p,sv,Dl,h1,h2,h3⟩:=h;exact⟨q,p,sv,Dl,h1.frame hm (fun k hk=>hD k ((h3 k).2 hk)) hS,h2,h3⟩
theorem zU.flt(h:zU Fo w D d seed same L Gs) : ∀ k,Fo k→k<w.heap.size:=by
 obtain⟨q,p,sv,Dl,h1,h2,h3⟩:=h;exact h1.log.flt
theorem zU.frameF(h:zU Fo w D d seed same L Gs)(hm:Mod S w w')(hD : ∀ k,D k → ¬ S k)(hS : ∀ k,k<w.heap.size→S k→Fo k ∨ ∀ cs fz,w.heap[k]? ≠ some (.cells cs 5 fz)):zU Fo w' D d seed same L Gs:=by
 obtain⟨q,p,sv,Dl,h1,h2,h3⟩:=h;exact⟨q,p,sv,Dl,h1.frameF hm (fun k hk=>hD k ((h3 k).2 hk)) hS,h2,h3⟩
theorem zU.refo{Fo':Nat→Prop}(h:zU Fo w D d seed same L Gs)(hm:zb w w')(h1 : ∀ k,Fo' k→Fo k∨w.heap.size≤k)(h2 : ∀ k,Fo' k→k<w'.heap.size):zU Fo' w' D d seed same L Gs:=by
 obtain⟨q,p,sv,Dl,h3,h4,h5⟩:=h;exact⟨q,p,sv,Dl,h3.refo hm h1 h2,h4,h5⟩
theorem zU.sd(h:zU Fo w D d seed same L Gs):seed<18446744073709551616:=by
 obtain⟨q,p,sv,Dl,h1,h2,h3⟩:=h;exact h1.sd
theorem zU.ok(h:zU Fo w D d seed same L Gs):VF L:=by
 obtain⟨q,p,sv,Dl,h1,h2,h3⟩:=h;exact h1.log.ok
theorem zU.keeps(h:zU Fo w D d seed same L Gs):vH seed same L Gs:=by
 obtain⟨q,p,sv,Dl,h1,h2,h3⟩:=h;exact h2
theorem Qe(h:zU Fo w D d seed same L Gs)(key:ByteArray)(hkey:key.size≤140737488355328):Calls prog 52 #[yV d,.string key] w (YO w L key):=by
 obtain⟨q,p,sv,Dl,h1,h2,h3⟩:=h;exact za5 h1 h2 key hkey
def zgE(Fo:Nat→Prop)(w:World)(seed:Nat)(same:Bool)(e:Ending)(w':World):Prop :=
 ∃ d D,e=.returned (yV d)∧zU Fo w' D d seed same [] (xf 1)∧zb w w' ∧ ∀ k,D k→w.heap.size≤k
theorem zfc(seed:Nat)(same:Bool)(hs:seed<18446744073709551616)(w:World)(hFo : ∀ k,Fo k→k<w.heap.size):Calls prog 72 #[.agg #[.int .u64 seed,.bool same]] w (zgE Fo w seed same):=by
  have hp0:zb w (w.alloc (.cells #[.int .u64 seed,.bool same] 135)):=(Mod.refl _ w).alloc _;have z1:=zi (w:=w) (o := .cells #[.int .u64 seed,.bool same] 135 (0,0)) rfl;have HN:=za (fun W=>zbS 1 W ⟨0,by decide,rfl⟩);have HL:=za (fun W (hW:w.heap.size≤W.heap.size)=>zhd (Fo:=Fo) W (fun k hk=>xV (hFo k hk) hW));have HP:=za hp0;clear hp0 hFo;go_enter func72,ntmps72;go_upto_region 1 with fail
  generalize w.alloc (.cells #[.int .u64 seed,.bool same] 135)=W1 at *;obtain⟨b,hbe⟩:=zc w.heap.size;rw[hbe]at z1 ⊢;have HB:=za hbe;clear hbe;go_upto_region 2 with(go_at_call 125;refine(HN.out _).mono ?_;rintro e w2 ⟨p,sv,rfl,hix,hp2,hl2,hs2⟩)
  have zz1:=hp2.heap (fun h=>h) z1;have HIX:=za hix;clear hix;obtain⟨zz1_0,zz1_1,zz1_f,zz1_l,H_zz1⟩:=cr2 zz1;clear zz1
  go_region_held3 (fun w'=>w'.cell? ⟨b,0,none⟩=some (.int .u64 seed)∧w'.cell? ⟨b,1,none⟩=some (.bool same))
    (first | exact⟨zz1_0,zz1_1⟩ | exact⟨hp3.cell (fun h=>h) zz1_0,hp3.cell (fun h=>h) zz1_1⟩ | exact⟨(hp3.alloc _).cell (fun h=>h) zz1_0,(hp3.alloc _).cell (fun h=>h) zz1_1⟩)
    (first
      | (go_at_call 126;refine(HL.out _ (by have h1:=HP.out.size;have h2:=hp2.size;simp at h1 h2 ⊢;omega)).mono ?_;rintro e w3 ⟨rfl,hlog,hp3,hlt3⟩;dsimp only[kT]at *))
  go_wp2;go_ret;have hp3':zb w2 w3:=Mod.of_drew hp3;have hq:=zi (w:=w3) (o := .cells #[.pointer (some ⟨w2.heap.size,0,none⟩),.int .u64 seed,.bool same,.pointer (some ⟨p,0,none⟩)] 159 (0,0)) rfl;have hpq:zb w3 (w3.alloc (.cells #[.pointer (some ⟨w2.heap.size,0,none⟩),.int .u64 seed,.bool same,.pointer (some ⟨p,0,none⟩)] 159)):=(Mod.refl _ w3).alloc _;have hw:w.heap.size≤W1.heap.size:=HP.out.size;have hw2:W1.heap.size≤w2.heap.size:=hp2.size;have hw3:w2.heap.size≤w3.heap.size:=hp3'.size;refine⟨w3.heap.size,jq w3.heap.size (fun k=>k=w2.heap.size) p sv,rfl,⟨w2.heap.size,p,sv,fun k=>k=w2.heap.size,⟨hq,hlog.pure hpq,HIX.out.pure (hp3'.trans hpq),hs⟩,vH.new seed same,fun _=>vg⟩,(HP.out.trans hp2).trans (hp3'.trans hpq),?_⟩;rintro k (rfl | rfl | rfl | e)
  · omega
  · omega
  · omega
  · have:=hs2 k e;omega
end
end
end
section
open Go.RowKit Go.Shelf
variable{Fo:Nat→Prop}
section
variable{w w':World}{D S:Nat→Prop}{d seed:Nat}{same:Bool}{L:List (Option Ent)}{Gs:List Grp}
theorem zg2(h:zU Fo w D d seed same L Gs):Calls prog 184 #[yV d] w (QI Fo w L):=by
  obtain⟨q,p,sv,Dl,h1,h2,h3⟩:=h;have HZ:=za (j4 h1);have HC:=za (zhi h1.log);have hb:=h1.box;clear h1 h2 h3;obtain⟨hb_0,hb_1,hb_2,hb_3,hb_f,hb_l,H_hb⟩:=cr4 hb;clear hb;go_enter func184,ntmps184
  go_wp2_with (first
    | (go_at_call 91;refine HZ.out.mono ?_;rintro e w' ⟨rfl,rfl⟩)
    | (go_at_call 235;refine HC.out.mono ?_;rintro e w' ⟨q2,D2,rfl,g1,g2,g3⟩))
  go_ret;exact⟨q2,D2,rfl,g1,g2,g3⟩
theorem zeJ(h:zU Fo w D d seed same L Gs):Calls prog 137 #[yV d] w (UD w L):=by
  obtain⟨q,p,sv,Dl,h1,h2,h3⟩:=h;have HZ:=za (j4 h1);have HC:=za (zjw h1.log);have hb:=h1.box;clear h1 h2 h3;obtain⟨hb_0,hb_1,hb_2,hb_3,hb_f,hb_l,H_hb⟩:=cr4 hb;clear hb;go_enter func137,ntmps137
  go_wp2_with (first
    | (go_at_call 91;refine HZ.out.mono ?_;rintro e w' ⟨rfl,rfl⟩)
    | (go_at_call 188;refine HC.out.mono ?_;rintro e w' ⟨M,B,a,c,rfl,rfl,g1,g2,g3,g4⟩))
  go_ret;exact⟨M,B,a,c,rfl,rfl,g1,g2,g3,g4⟩
theorem zjl{q:Nat}{Dl:Nat→Prop}(h:zX Fo w Dl q L):Calls prog 114 #[.agg #[.pointer (some ⟨q,0,none⟩)]] w fun e w'=>e=.returned (.bool (decide (4194304≤(L.length:Int))))∧zb w w':=by
 have hp:zb w (w.alloc (.cells #[.pointer (some ⟨q,0,none⟩)] 156)):=(Mod.refl _ w).alloc _;have hb:=zi (w:=w) (o:=(.cells #[.pointer (some ⟨q,0,none⟩)] 156 (0,0))) rfl;have HK:=za (QD (h.pure hp));have HP:=za hp;clear h hp;go_enter func114,ntmps114;go_upto_region 1 with fail
 generalize w.alloc (.cells #[.pointer (some ⟨q,0,none⟩)] 156)=W1 at *;generalize w.heap.size=b at *;obtain⟨hb_0,hb_f,hb_l,H_hb⟩:=cr1 hb;clear hb
 go_wp2_with (go_at_call 158;refine HK.out.mono ?_;rintro e w' ⟨rfl,rfl⟩)
 go_ret;exact⟨rfl,HP.out⟩
def zcB(Fo:Nat→Prop)(w:World)(D:Nat→Prop)(d seed:Nat)(same:Bool)(L:List (Option Ent))(Gs:List Grp)(x:Ent)(e:Ending)(w':World):Prop :=
 e=.returned (.tuple #[.int .u32 L.length,.int .i64 0]) ∧ ∃ D',zU Fo w' D' d seed same (L++[some x]) (jI (zZ seed same (L++[some x])) Gs L.length)∧Mod D w w'∧vA D D' w
theorem UG{q p:Nat}{sv:Value}{Dl Dl2:Nat→Prop}{w2 w3:World}{L2:List (Option Ent)}(h:zY Fo w2 d q p sv Dl seed same L Gs)(hl:zX Fo w3 Dl2 q L2)(hm:Mod Dl w2 w3):zY Fo w3 d q p sv Dl2 seed same L2 Gs :=
 ⟨hm.heap h.nd h.box,hl,h.ix.mod hm (fun k hk e=>h.nlp k e hk),h.sd⟩
theorem zjP(h:zU Fo w D d seed same L Gs)(x:Ent)(hok:x.Ok)(hL:L.length<4194304)(hf:xG L x.key=none)(a:Option Addr)(n c:Nat)(hx:zn w (.slice a n c) 1 (zS x.val)) :
    Calls prog 63 #[yV d,.agg #[.string x.key,.slice a n c,.int .u64 x.dl,.int .u64 x.birth]] w (zcB Fo w D d seed same L Gs x):=by
  obtain⟨q,p,sv,Dl,h1,h2,h3⟩:=h;have HH:=za h1;have HK:=za h2;have HD:=za h3;have HX:=za hx;have HO:=za hok;have hp0:zb w (w.alloc (.cells #[.string x.key,.slice a n c,.int .u64 x.dl,.int .u64 x.birth] 47)):=(Mod.refl _ w).alloc _;have z3:=zi (w:=w) (o := .cells #[.string x.key,.slice a n c,.int .u64 x.dl,.int .u64 x.birth] 47 (0,0)) rfl;have HP:=za hp0;have HZ:=za (j4 (h1.pure hp0));have hn:n≤65536:=by have:=kD hx;rw[uT]at this;have:=hok.v1;omega
  have hb:(x.birth==0)=false:=by have:=hok.b0;simp;omega
  have HN:=za (JL x.key a n c x.dl x.birth (zS x.val) _ (hx.frame hp0 (fun _ _ h=>h)) hn hok.k0 hok.k1 hb);have HFd:=za (fun(W:World) (hW:zb w W)=>za5 (h1.pure hW) h2 x.key (by have:=hok.k1;omega));obtain⟨i1,i2⟩:=h2.insert hf (by omega);obtain⟨y,k1,k2,k3,k4,k5,k6,k7,k8⟩:=i1.put (by rw[h2.used];have:=Jj L;omega) (s:=L.length) (by omega) (fun c=>by have:=XE c;omega);have HPl:=za (fun(W:World) (hW:zb w W)=>zaw (h1.pure hW) k1);have HFu:=za (fun(W:World) (hW:zb w W)=>zjl (h1.log.pure hW));have HApp:=za (fun(W:World) (hW:zb w W) (a2:Option Addr) (n2 c2:Nat) (hr:zn W (.slice a2 n2 c2) 1 (zS x.val))=>zeL (h1.log.pure hW) hL x hok a2 n2 c2 hr);have HPut:=za (fun(W:World) (Dl2:Nat→Prop) (hW:zY Fo W d q p sv Dl2 seed same (L++[some x]) Gs)=>zdi hW k1 k2 k3 (s:=L.length) (by omega) k6);have HI2:=za i2;have e1:kN L x.key=(0,9):=by unfold kN;rw[hf]
  unfold YO K5 at *;rw[e1]at HFd;dsimp only at HFd;have hfull:decide ((4194304:Int)≤(L.length:Int))=false:=zO (by omega);rw[hfull]at HFu;obtain⟨y1,y2⟩:=y;dsimp only at HPl;unfold zbc at HApp;clear h1 h2 h3 hx hok hp0 hn hb i1 i2 k1 k2 k3 k4 k5 k6 k7 k8 e1 hf hfull;go_enter func63,ntmps63;go_upto_region 1 with fail
  generalize w.alloc (.cells #[.string x.key,.slice a n c,.int .u64 x.dl,.int .u64 x.birth] 47)=W1 at *;obtain⟨b3,hb3⟩:=zc w.heap.size;rw[hb3]at z3 ⊢;have HB3:=za hb3;clear hb3;obtain⟨z3_0,z3_1,z3_2,z3_3,z3_f,z3_l,H_z3⟩:=cr4 z3;clear z3;go_upto_region 4 with(first
    | (go_at_call 91;refine HZ.out.mono ?_;rintro e w' ⟨rfl,rfl⟩)
    | (go_at_call 112;refine HN.out.mono ?_;rintro e w2 ⟨a2,n2,c2,rfl,hr2,hf2,hp2⟩))
  have hpo:zb w2 (w2.alloc (.cells #[.string x.key,.slice a2 n2 c2,.int .u64 x.dl,.int .u64 x.birth] 47)):=(Mod.refl _ w2).alloc _;have z6:=zi (w:=w2) (o := .cells #[.string x.key,.slice a2 n2 c2,.int .u64 x.dl,.int .u64 x.birth] 47 (0,0)) rfl;have HR:=za (zA (qX hr2) hpo (fun _ _ h=>h));have zz3:=(hp2.trans hpo).heap (fun h=>h) H_z3.out;replace HP:=za ((HP.out.trans hp2).trans hpo);have hb6:b3<w2.heap.size:=xV z3_l hp2.size;clear z3_0 z3_1 z3_2 z3_3 z3_f z3_l;clear H_z3 hr2 hf2 hp2 hpo HN HZ;generalize w2.alloc (.cells #[.string x.key,.slice a2 n2 c2,.int .u64 x.dl,.int .u64 x.birth] 47)=W3 at *;generalize w2.heap.size=b6 at *;obtain⟨zz3_0,zz3_1,zz3_2,zz3_3,zz3_f,zz3_l,H_zz3⟩:=cr4 zz3;clear zz3;obtain⟨z6_0,z6_1,z6_2,z6_3,z6_f,z6_l,H_z6⟩:=cr4 z6;clear z6;go_upto_region 9 with(go_at_call 52;refine(HFd.out _ HP.out).mono ?_;rintro e w4 ⟨rfl,hp4⟩)
  go_upto_region 10 with(go_at_call 113;refine(HPl.out _ (HP.out.trans hp4)).mono ?_;rintro e w5 ⟨rfl,hp5⟩)
  have hp6:zb w5 (w5.alloc (.cells #[.int .i64 y1,.bool y2] 189)):=(Mod.refl _ w5).alloc _;have hp36:=(hp4.trans hp5).trans hp6;have zz6:=hp36.heap (fun h=>h) H_z6.out;replace HR:=za (zA HR.out hp36 (fun _ _ h=>h));replace HP:=za (HP.out.trans hp36);clear zz3_0 zz3_1 zz3_2 zz3_3 zz3_f zz3_l;clear z6_0 z6_1 z6_2 z6_3 z6_f z6_l;clear H_zz3 H_z6 hp4 hp5 hp6 hp36 HFd HPl;generalize w5.alloc (.cells #[.int .i64 y1,.bool y2] 189)=W6 at *;obtain⟨b10,hb10⟩:=zc w5.heap.size;rw[hb10];clear hb10;have hb:=(HH.out.pure HP.out).box;obtain⟨hb_0,hb_1,hb_2,hb_3,hb_f,hb_l,H_hb⟩:=cr4 hb;clear hb;obtain⟨zz6_0,zz6_1,zz6_2,zz6_3,zz6_f,zz6_l,H_zz6⟩:=cr4 zz6;clear zz6;go_upto_region 12 with(go_at_call 114;refine(HFu.out _ HP.out).mono ?_;rintro e w7 ⟨rfl,hp7⟩)
  have k0:=hp7.cell (fun h=>h) hb_0;have k1:=hp7.cell (fun h=>h) zz6_0;have k2:=hp7.cell (fun h=>h) zz6_1;have k3:=hp7.cell (fun h=>h) zz6_2;have k4:=hp7.cell (fun h=>h) zz6_3;replace HR:=za (yy.read (zA HR.out hp7 (fun _ _ h=>h)) (Yy _));replace HP:=za (HP.out.trans hp7);have HA:=za (fun(W:World) (hW:zb w7 W)=>HApp.out W (HP.out.trans hW) a2 n2 c2 (HR.out.frame hW (fun _ _ h=>h)));have nD : ∀ k,Dl k→k<w.heap.size:=fun k hk=>HH.out.log.lt hk
  have hwb:w.heap.size=b3:=HB3.out;have ND:=za nD;clear nD;clear hb_0 hb_1 hb_2 hb_3 hb_f hb_l;clear zz6_0 zz6_1 zz6_2 zz6_3 zz6_f zz6_l;clear H_hb H_zz6 hp7 HApp HFu
  go_region_held3 (fun w'=>w'.cell? ⟨d,0,none⟩=some (.pointer (some ⟨q,0,none⟩))∧w'.cell? ⟨b6,0,none⟩=some (.string x.key)∧w'.cell? ⟨b6,1,none⟩=some (.slice a2 n2 c2)∧w'.cell? ⟨b6,2,none⟩=some (.int .u64 x.dl)∧w'.cell? ⟨b6,3,none⟩=some (.int .u64 x.birth))
    (first | exact⟨k0,k1,k2,k3,k4⟩ | exact⟨hm8.cell HH.out.nd k0,hm8.cell (fun e=>by have:=ND.out _ e;dsimp only at this;omega) k1,hm8.cell (fun e=>by have:=ND.out _ e;dsimp only at this;omega) k2,hm8.cell (fun e=>by have:=ND.out _ e;dsimp only at this;omega) k3,hm8.cell (fun e=>by have:=ND.out _ e;dsimp only at this;omega) k4⟩)
    (first
      | (go_at_call 115;refine(HA.out _ (by exact yW)).mono ?_;rintro e w8 ⟨rfl,Dl2,hl8,hm8,hg8⟩))
  have hm8':Mod Dl w7 w8:=Mod.of_drew hm8;have HM8:=za (UG (HH.out.pure HP.out) hl8 hm8');have hP8:Mod Dl w w8:=(Mod.of_pure HP.out).trans hm8';have HM:=za hP8;have HG8:=za hg8;have HL8:=za hl8;clear hm8 hm8' hP8 hg8 hl8 k0 k1 k2 k3 k4
  go_wp2_with (go_at_call 116;refine(HPut.out _ _ HM8.out).mono ?_;rintro e w9 ⟨p2,sv2,rfl,hm9,hmod9,hsx9⟩)
  go_ret2;have h78:w.heap.size≤w8.heap.size:=HM.out.size;refine⟨rfl,jq d Dl2 p2 sv2,⟨q,p2,sv2,Dl2,hm9,HI2.out,fun _=>vg⟩,?_,?_⟩
  · refine HM.out.trans' hmod9 (fun i _ hi=>(HD.out i).2 (.inr (.inl hi))) (fun i _ hi=>(HD.out i).2 ?_)
    rcases hi with e | e | e
    · exact .inl e
    · exact .inr (.inr (.inl e))
    · exact .inr (.inr (.inr e))
  · have hg9 : ∀ k,Dl2 k→Dl k∨w.heap.size≤k:=fun k hk=>by
      rcases HG8.out k hk with e | e
      · exact .inl e
      · exact .inr (by have:=HP.out.size;simp at e;omega)
    rintro k (e | e | e | e)
    · exact .inl ((HD.out k).2 (.inl e))
    · rcases hg9 k e with e | e
      · exact .inl ((HD.out k).2 (.inr (.inl e)))
      · exact .inr e
    · rcases hsx9 with⟨g1,g2⟩ | ⟨g1,g2⟩
      · exact .inl ((HD.out k).2 (.inr (.inr (.inl (e.trans g1)))))
      · exact .inr (by omega)
    · rcases hsx9 with⟨g1,g2⟩ | ⟨g1,g2⟩
      · exact .inl ((HD.out k).2 (.inr (.inr (.inr (g2 ▸ e)))))
      · exact .inr (by have:=g2 _ e;omega)
end
end
section
open Go.RowKit Go.Shelf
variable{Fo:Nat→Prop}
theorem zkv{L:List (Option Ent)}{s t:Nat}(h:t≠s):yH (L.set s none) t=yH L t:=by
 unfold yH;rw[yq (fun e=>h e.symm)]
theorem Uz(L:List (Option Ent))(s t:Nat):vU (L.set s none) t↔t≠s∧vU L t:=by
 unfold vU;by_cases h:t=s
 ·subst h;simp only[ne_eq,not_true_eq_false,false_and,iff_false];rintro⟨e,he⟩;rw[Z5]at he;simp at he
 ·rw[yq (fun e=>h e.symm)];simp[h]
theorem zhx{L:List (Option Ent)}(h:Z0 L)(s:Nat):Z0 (L.set s none):=by
 intro a b e f ha hb hk;have h1:=(Uz L s a).1 ⟨e,ha⟩;have h2:=(Uz L s b).1 ⟨f,hb⟩;rw[yq (fun e=>h1.1 e.symm)]at ha;rw[yq (fun e=>h2.1 e.symm)]at hb;exact h a b e f ha hb hk
theorem XC : ∀ {L:List (Option Ent)} {s:Nat} {x:Ent},L[s]? = some (some x)→zV (L.set s none)+1=zV L
 | [],s,x,h=>by simp at h
 | o::L,0,x,h=>by
  simp at h;subst h;simp[zV]
 | o::L,s+1,x,h=>by
  have:=XC (L:=L) (s:=s) (x:=x) (by simpa using h);simp only[List.set_cons_succ,zV,List.countP_cons]at this ⊢;omega
def uf(H:Nat→Nat)(Gs:List Grp)(s:Nat):List Grp:=match vZ Gs (H s) (fun x=>x==s)with
 | some x=>vy Gs x.1 x.2
 | none=>Gs
def Ye(H H':Nat→Nat)(Gs:List Grp)(s:Nat):List Grp:=doG H' (ut (uf H Gs s).length (zB (uf H Gs s))) (uf H Gs s)
theorem vH.remove{seed:Nat}{same:Bool}{L:List (Option Ent)}{Gs:List Grp}(h:vH seed same L Gs){s:Nat}{x:Ent}(hx:L[s]? = some (some x)) :
  (∃ i j,vZ Gs (zZ seed same L s) (fun y=>y==s)=some (i,j)∧uf (zZ seed same L) Gs s=vy Gs i j)∧xo (uf (zZ seed same L) Gs s) ∧
   ((ut (uf (zZ seed same L) Gs s).length (zB (uf (zZ seed same L) Gs s))).2=true→Pow (ut (uf (zZ seed same L) Gs s).length (zB (uf (zZ seed same L) Gs s))).1∧zB (uf (zZ seed same L) Gs s)≤8*(ut (uf (zZ seed same L) Gs s).length (zB (uf (zZ seed same L) Gs s))).1) ∧
   vH seed same (L.set s none) (Ye (zZ seed same L) (zZ seed same (L.set s none)) Gs s):=by
 obtain⟨i,j,h1,h2⟩:=h.holds.find_some (s:=s) ⟨x,hx⟩;have ht:uf (zZ seed same L) Gs s=vy Gs i j:=by unfold uf;rw[h1]
 obtain⟨c1,c2,c3⟩:=Ui h.holds.ok h2;have h3:=h.holds.del h2;have h4:yx (zZ seed same (L.set s none)) (vU (L.set s none)) (vy Gs i j) :=
  (h3.congr (fun t ht=>by unfold zZ;rw[zkv ht.1])).of_iff (fun t=>(Uz L s t).symm)
 unfold Ye;rw[ht];obtain⟨p1,p2,p3⟩:=zeV (g:=(vy Gs i j).length) (live:=zB (vy Gs i j)) c3.pow;have hle:=zbi c3;have hu:zB (vy Gs i j)≤8*(ut (vy Gs i j).length (zB (vy Gs i j))).1:=by
  cases hb:(ut (vy Gs i j).length (zB (vy Gs i j))).2 with
  | true=>exact qI (p2 hb)
  | false=>rw[p3 hb];exact hle
 obtain⟨k1,k2,k3⟩:=h4.do p1 hu p3;refine⟨⟨i,j,h1,rfl⟩,c3,fun _=>⟨p1,hu⟩,k1,zhx h.keys s,?_⟩;rw[k2];have:=XC hx;have:=h.used;omega
theorem ZI{X Y:World}{b:Nat}{u0 u1 u2 u3 v0 v1 v2 v3:Value}{T:TypeId}(h:X.heap[b]? = some (.cells #[u0,u1,u2,u3] T (0,0)))
  (hY:(((X.setCell ⟨b,0,none⟩ v0).setCell ⟨b,1,none⟩ v1).setCell ⟨b,2,none⟩ v2).setCell ⟨b,3,none⟩ v3=Y):Mod (fun k=>k=b) X Y∧Y.heap[b]? = some (.cells #[v0,v1,v2,v3] T (0,0)):=by
 subst hY;refine⟨((((Mod.set1 b 0 v0).trans (Mod.set1 b 1 v1)).trans (Mod.set1 b 2 v2)).trans (Mod.set1 b 3 v3)),?_⟩;have h1:=ve (j:=0) (v:=v0) h;have h2:=ve (j:=1) (v:=v1) h1;have h3:=ve (j:=2) (v:=v2) h2;have h4:=ve (j:=3) (v:=v3) h3;simpa using h4
section
variable{w w':World}{D S:Nat→Prop}{d seed:Nat}{same:Bool}{L:List (Option Ent)}{Gs:List Grp}
def zer(Fo:Nat→Prop)(w:World)(D:Nat→Prop)(d seed:Nat)(same:Bool)(L:List (Option Ent))(Gs:List Grp)(s:Nat)(x:Ent)(e:Ending)(w':World):Prop :=
 ∃ a n c,e=.returned (.tuple #[.agg #[.string x.key,.slice a n c,.int .u64 x.dl,.int .u64 x.birth],.int .i64 0])∧yy w' (.slice a n c) (zS x.val)∧vo w (.slice a n c) ∧
  ∃ D',zU Fo w' D' d seed same (L.set s none) (Ye (zZ seed same L) (zZ seed same (L.set s none)) Gs s)∧Mod D w w'∧vA D D' w
end
end
end Go.Proofs.YtpadepliilhmhaaGreatDoor
