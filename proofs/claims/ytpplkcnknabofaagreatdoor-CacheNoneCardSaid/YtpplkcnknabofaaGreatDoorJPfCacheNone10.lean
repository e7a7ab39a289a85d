/- Lemmas and contracts of functions. No condition. -/
import Derived.Test.YtpplkcnknabofaaGreatDoorJPfCacheNone7
import Derived.Test.YtpplkcnknabofaaGreatDoorJPfCacheNone6
import Derived.OwnWalk
namespace Go.Proofs.YtpplkcnknabofaaGreatDoor
open _root_.Go.Proofs.Tryz
set_option maxRecDepth 100000
set_option maxHeartbeats 20000000
set_option linter.all false
section
open Go.RowKit Go.Shelf
attribute [local go_sem] Oper.semAt_some
theorem ZX{w:World}{p:Nat}{a:Option Addr}{n c:Nat}(hc:w.cell? ⟨p,0,none⟩=some (.slice a n c))(hn:0<n)(hn2:n≤1048576) :
  Calls prog 256 #[.pointer (some ⟨p,0,none⟩)] w fun e w'=>e=.returned (.bool false)∧w=w':=by
 have h0:((n:Int)==0)=false:=by simp;omega
 have wn:IntKind.i64.wrap (n:Int)=n:=zt _ (by omega);go_enter func256,ntmps256;go_wp2;go_ret;exact⟨rfl,rfl⟩
def xT(c:Grp):Nat:=c.1.findIdx (fun x=>decide (128≤x))
def kw(Gs:List Grp)(tag slot:Nat):List Nat→Option (List Grp)
 | []=>none
 | i::r=>if xT (zq Gs i)=8 then kw Gs tag slot r else some (yz Gs i (xT (zq Gs i)) tag slot)
def vG(Gs:List Grp)(sum slot:Nat):Option (List Grp):=kw Gs (sum%128) slot (xV (sum/128) Gs.length)
theorem Vq{Gs:List Grp}{tag slot:Nat} : ∀(pre post:List Nat),(∀ k∈pre,xT (zq Gs k)=8)→kw Gs tag slot (pre++post)=kw Gs tag slot post
 | [],_,_=>rfl
 | k::pre,post,h=>by
  simp only[List.cons_append,kw];rw[zk (h k (by simp)),Vq pre post (fun k' h'=>h k' (by simp[h']))]
theorem Jr{l:List Nat}(h:j4 l){j:Nat}(hj:l.findIdx (fun x=>decide (128≤x))=j)(hj8:j<8):l[j]? = some 128∨l[j]? = some 254:=by
 have hlt:l.findIdx (fun x=>decide (128≤x))<l.length:=by rw[hj,h.1];exact hj8
 have h1:=List.findIdx_getElem (w:=hlt);subst hj;have h2:=h.2 _ (List.getElem_mem hlt);rw[zN hlt];have h3:=of_decide_eq_true h1;rcases h2 with h2 | h2 | h2
 ·omega
 ·exact .inl (by rw[h2])
 ·exact .inr (by rw[h2])
structure InS(w:World)(D:Nat→Prop)(p:Nat)(sv:Value)(Gs:List Grp)(sum slot:Nat)(b:Nat)(W:World):Prop where
 pu:zb w W
 wb:w.heap.size≤b
 h3:W.heap[b]? = some (.cells #[.pointer (some ⟨p,0,none⟩)] 200 (0,0))
 h4:W.heap[b+1]? = some (.cells #[.int .u64 sum] 22 (0,0))
 h5:W.heap[b+1+1]? = some (.cells #[.int .u32 slot] 114 (0,0))
 h6:W.heap[b+1+1+1]? = some (.cells #[.int .i64 0] 26 (0,0))
 ix:yf W D p sv Gs
section
variable{w:World}{D:Nat→Prop}{p:Nat}{sv:Value}{Gs:List Grp}{sum slot:Nat}{b:Nat}
theorem InS.pure{A B:World}(h:InS w D p sv Gs sum slot b A)(hq:zb A B):InS w D p sv Gs sum slot b B :=
 ⟨h.pu.trans hq,h.wb,hq.heap (fun h=>h) h.h3,hq.heap (fun h=>h) h.h4,hq.heap (fun h=>h) h.h5,hq.heap (fun h=>h) h.h6,h.ix.pure hq⟩
theorem InS.quiet{N:Nat}(hN:w.heap.size≤N){A B:World}(h:InS w D p sv Gs sum slot b A)(hq:zx N A B):InS w D p sv Gs sum slot b B :=
 ⟨hq.mod h.pu hN,h.wb,hq.cells h.h3,hq.cells h.h4,hq.cells h.h5,hq.cells h.h6,h.ix.quiet hq⟩
theorem InS.new(h:yf w D p sv Gs) :
  InS w D p sv Gs sum slot w.heap.size ((((w.alloc (.cells #[.pointer (some ⟨p,0,none⟩)] 200)).alloc (.cells #[.int .u64 sum] 22)).alloc (.cells #[.int .u32 slot] 114)).alloc (.cells #[.int .i64 0] 26)):=by
 have hp:zb w ((((w.alloc (.cells #[.pointer (some ⟨p,0,none⟩)] 200)).alloc (.cells #[.int .u64 sum] 22)).alloc (.cells #[.int .u32 slot] 114)).alloc (.cells #[.int .i64 0] 26)):=by(repeat'(first | (with_reducible exact Mod.refl _ _) | (with_reducible refine Mod.alloc ?_ _) | (with_reducible refine Mod.drew ?_) | (with_reducible refine Mod.drewN ?_ _) | (with_reducible refine Mod.setCell ?_ ?_ _) | (refine Mod.then ?_ (by with_reducible assumption) ?_)))
 refine⟨hp,zG _,?_,?_,?_,?_,h.pure hp⟩
 ·exact zz (zz (zz (zi rfl)))
 ·exact zz (zz (zi (by simp)))
 ·exact zz (zi (by simp))
 ·exact zi (by simp)
structure InO(w:World)(D:Nat→Prop)(p:Nat)(sv:Value)(Gs:List Grp)(sum slot:Nat)(b:Nat)(B1 B2 B3 N:Nat)(pre:List Nat)(W:World):Prop where
 fs:InS w D p sv Gs sum slot b W
 it:uD W B1 B2 B3 (sum/128) Gs.length
 fl : ∀ k∈pre,xT (zq Gs k)=8
 sz:N≤W.heap.size
theorem InO.quiet{B1 B2 B3 M N:Nat}(hN:w.heap.size≤N){pre:List Nat}{X Y:World}(h:InO w D p sv Gs sum slot b B1 B2 B3 M pre X)(hq:zx N X Y):InO w D p sv Gs sum slot b B1 B2 B3 M pre Y :=
 ⟨h.fs.quiet hN hq,⟨hq.cells h.it.many,hq.cells h.it.part,hq.cells h.it.grps⟩,h.fl,zH h.sz (Mod.size hq)⟩
def InR(w:World)(D:Nat→Prop)(p:Nat)(sv:Value)(Gs:List Grp)(sum slot:Nat)(b:Nat)(W:World):Prop :=
 ∃ Gs',vG Gs sum slot=some Gs'∧Mod D w W∧w.heap.size≤b∧W.heap[b+1+1+1]? = some (.cells #[.int .i64 0] 26 (0,0))∧yf W D p sv Gs'
theorem InR.quiet{N:Nat}(hN:w.heap.size≤N){X Y:World}(h:InR w D p sv Gs sum slot b X)(hq:zx N X Y):InR w D p sv Gs sum slot b Y:=by
 obtain⟨Gs',h1,h2,h3,h4,h5⟩:=h;exact⟨Gs',h1,hq.mod h2 hN,h3,hq.cells h4,h5.quiet hq⟩
theorem zch{W2 Wx W3 W4:World}{B c i j tag z:Nat}{t1:Int}(h:InS w D p (.slice (some ⟨B,0,none⟩) Gs.length c) Gs sum slot b W2)(hx:Mod (fun k=>k=p) W2 Wx)
  (hbx:Wx.heap[p]? = some (.cells #[.slice (some ⟨B,0,none⟩) Gs.length c,.int .i64 (zE Gs),.int .i64 t1] 325 (0,0)))
  (hi:i<Gs.length) (hj:j<8) (ht1:t1=ye (yz Gs i j tag slot)) (htag:tag<128) (hsl:slot≤4294967295) (hz:zC ((zq Gs i).1.set j tag)=z) (hu:zE (yz Gs i j tag slot)=zE Gs+1)
  (h3:Mod (fun k=>k=B) Wx W3) (h3r:W3.ownsRow 0 348 9 (.slice (some ⟨B,0,none⟩) Gs.length c) Gs.length (((Gs.flatMap yO).set (i*9) (.int .u64 z)).set (i*9+1+j) (.int .u32 slot)))
  (hW4:(W3.setCell ⟨p,1,none⟩ (.int .i64 ((zE Gs:Int)+1))).setCell ⟨b+1+1+1,0,none⟩ (.int .i64 0)=W4) :
  yf W4 D p (.slice (some ⟨B,0,none⟩) Gs.length c) (yz Gs i j tag slot)∧Mod D w W4∧W4.heap[b+1+1+1]? = some (.cells #[.int .i64 0] 26 (0,0))∧Mod (fun k=>k=p∨k=B∨k=b+1+1+1) W2 W4:=by
 subst hW4;have nB : ∀(k:Nat) (cs:Array Value) (T:TypeId),W2.heap[k]? = some (.cells cs T (0,0))→T≠348→k≠B:=fun k cs T hk hT e=>by
  obtain⟨cc,e2⟩:=yg h.ix.row (g:=B) rfl;rw[e,e2]at hk;cases hk;exact hT rfl
 have hpB:=nB _ _ _ h.ix.box (by decide);have h6B:=nB _ _ _ h.h6 (by decide);have h6p:b+1+1+1≠p:=fun e=>by have:=h.h6;rw[e,h.ix.box]at this;cases this
 have hDp:D p:=(h.ix.dd p).2 (.inl rfl);have hDB:D B:=(h.ix.dd B).2 (.inr rfl);have hm4:Mod (fun k=>k=p∨k=b+1+1+1) W3 ((W3.setCell ⟨p,1,none⟩ (.int .i64 ((zE Gs:Int)+1))).setCell ⟨b+1+1+1,0,none⟩ (.int .i64 0)) :=
  ((Mod.refl _ W3).setCell (p:=⟨p,1,none⟩) (fun _ => .inl rfl) _).setCell (p:=⟨b+1+1+1,0,none⟩) (fun _ => .inr rfl) _
 have hall:Mod (fun k=>k=p∨k=B∨k=b+1+1+1) W2 ((W3.setCell ⟨p,1,none⟩ (.int .i64 ((zE Gs:Int)+1))).setCell ⟨b+1+1+1,0,none⟩ (.int .i64 0)) :=
  ((hx.mono (fun k _ e => .inl e):Mod (fun k=>k=p∨k=B∨k=b+1+1+1) W2 Wx).then h3 (fun k _ e => .inr (.inl e))).then hm4 (fun k _ e=>e.elim .inl (fun e => .inr (.inr e)))
 have hb3:=h3.heap hpB hbx;refine⟨⟨?_,?_,h.ix.dd,h.ix.ok.put (.inl htag) hsl⟩,?_,?_,hall⟩
 ·rw[hu,← ht1];refine yT ?_ (fun e=>h6p e.symm);have:=vz (j:=1) (v := .int .i64 ((zE Gs:Int)+1)) hb3;simpa using this
 ·rw[jB,← zbi (t:=tag) (s:=slot) (h.ix.ok.at hi) hi hj (.int .u64 z) (by rw[hz])];exact zy h3r hm4 (fun g hg e=>by
   have:B=g:=by simpa[Value.ownBlock]using hg
   subst this;rcases e with e | e
   ·exact hpB e.symm
   ·exact h6B e.symm)
 ·have hwb:=h.wb;refine(Mod.of_pure h.pu:Mod D w W2).then hall (fun k hk e => ?_);rcases e with rfl | rfl | rfl
  ·exact hDp
  ·exact hDB
  ·omega
 ·exact vz (j:=0) (yT (h3.heap h6B (hx.heap h6p h.h6)) h6p)
end
def YG(w:World)(D:Nat→Prop)(p:Nat)(sv:Value)(Gs:List Grp)(sum slot:Nat)(e:Ending)(w':World):Prop :=
 match vG Gs sum slot with
 | some Gs'=>e=.returned (.int .i64 0)∧yf w' D p sv Gs'∧Mod D w w'
 | none=>e=.returned (.int .i64 7)∧yf w' D p sv Gs∧Mod D w w'
theorem Az99x {P:Prop}(h:P:=by
 (refine iSt 8 (fun K hK => ?_);go_simp;(refine(yy.2 (zset.out _)).mono ?_;rintro e w' ⟨rfl,rfl⟩);refine hK _ _ ?_;clear hK K)
 (refine iTk 9 ?_)
 (refine iTk 10 ?_)
 (refine iTk 11 ?_)
 (refine iTk 12 ?_)
 (refine iTk 13 ?_)
 (refine iSt 14 (fun K hK => ?_);go_simp;skip;refine hK _ _ ?_;clear hK K)
 refine wpAnyIn_done (by kernel_rfl) ?_ _
 gi_wp2_with fail
 refine Met.intro (hJc _ _ ?_)
 repeat apply Exists.intro
 exact⟨rfl,rfl⟩):P:=h
theorem Az3im {P:Prop}(h:P:=by
 (refine iSt 7 (fun K hK => ?_);go_simp;(refine(yy.2 (ztag.out _)).mono ?_;rintro e w' ⟨rfl,rfl⟩);refine hK _ _ ?_;clear hK K)
 exact Az99x):P:=h
theorem Azlmh {P:Prop}(h:P:=by
 have np : ∀ {k:Nat} {cs:Array Value} {T:TypeId},W2.heap[k]? = some (.cells cs T (0,0))→T≠325→k≠p:=fun hk hT e=>by
   have:=HI.out.fs.ix.box;rw[e,this]at hk;cases hk;exact hT rfl
 have z4:=HX.out.heap (np HI.out.fs.h4 (by decide)) HI.out.fs.h4;have hrx:=zy HI.out.fs.ix.row HX.out (fun g hg e=>by
   obtain⟨cc,e2⟩:=yg HI.out.fs.ix.row hg;rw[e,HI.out.fs.ix.box]at e2;cases e2)
 obtain⟨B2,c2,hsv2,_,hBx,hcx,hfx,_⟩:=kt hrx HG.out.pos
 cases hsv2
 have zgx:Wx.cell? ⟨B,i*9,none⟩=some (.int .u64 (zC (zq Gs i).1)):=by
   have:=uX yO 9 qW 0 (by omega) Gs i;rw[uf hil]at this;exact hcx _ _ this
 have HRX:=za hrx;clear hcx hrx;obtain⟨z4_0,z4_f,z4_l,H_z4⟩:=cr1 z4;clear z4
 gi_cut []from 57 (fun wc=>wc=Wx.drew.drew.setCell ⟨B,i*9,none⟩ (.int .u64 z))
 case first =>
   rename_i Jc Kc hJc hKc;refine Xr (by kernel_rfl) (by kernel_rfl) ?_
   (refine iTk 0 ?_)
   (refine iTk 1 ?_)
   (refine iTk 2 ?_)
   (refine iTk 3 ?_)
   (refine iTk 5 ?_)
   refine wpAnyIn_ready (rs:=[4,6]) (by kernel_rfl) (by simp) ?_;refine AllReadyIn.cons rfl (fun K hK => ?_) (AllReadyIn.cons rfl (fun K hK => ?_) AllReadyIn.nil)
   · go_simp
     refine hK _ _ ?_;clear hK K
     (refine iSt 6 (fun K hK => ?_);go_simp;skip;refine hK _ _ ?_;clear hK K)
     exact Az3im
   · go_simp
     refine hK _ _ ?_;clear hK K;refine wpAnyIn_ready (rs:=[4,7]) (by kernel_rfl) (by simp) ?_;refine AllReadyIn.cons rfl (fun K hK => ?_) (AllReadyIn.cons rfl (fun K hK => ?_) AllReadyIn.nil)
     · go_simp
       refine hK _ _ ?_;clear hK K;exact Az3im
     · go_simp
       refine(yy.2 (ztag.out _)).mono ?_;rintro e w' ⟨rfl,rfl⟩;refine hK _ _ ?_;clear hK K
       (refine iSt 4 (fun K hK => ?_);go_simp;skip;refine hK _ _ ?_;clear hK K)
       exact Az99x
 case rest =>
   subst hcut;have hm1:Mod (fun k=>k=B) Wx (Wx.drew.drew.setCell ⟨B,i*9,none⟩ (.int .u64 z)):=Mod.of_drew (Mod.of_drew (Mod.set1 B (i*9) _));have nB : ∀ {k:Nat} {cs:Array Value} {T:TypeId},W2.heap[k]? = some (.cells cs T (0,0))→T≠348→k≠B:=fun hk hT e=>by
     obtain⟨cc,e2⟩:=yg HI.out.fs.ix.row (g:=B) rfl;rw[e,e2]at hk;cases hk;exact hT rfl
   have z5:=hm1.heap (nB HI.out.fs.h5 (by decide)) (HX.out.heap (np HI.out.fs.h5 (by decide)) HI.out.fs.h5);have hr1:(Wx.drew.drew.setCell ⟨B,i*9,none⟩ (.int .u64 z)).ownsRow 0 348 9 (.slice (some ⟨B,0,none⟩) Gs.length c) Gs.length ((Gs.flatMap yO).set (i*9) (.int .u64 z)) :=
     uT (zy HRX.out (Mod.drew (Mod.drew (Mod.refl (fun _=>False) Wx))) (fun _ _ h=>h)) (i*9) (.int .u64 z) (by omega)
   obtain⟨B3',c3,hsv3,_,hB3',hc3,hf3,_⟩:=kt hr1 HG.out.pos
   cases hsv3
   have hl9:i*9+1+j<((Gs.flatMap yO).set (i*9) (.int .u64 z)).length:=by rw[hr1.1];omega
   have zs0 : ∃ u,(Wx.drew.drew.setCell ⟨B,i*9,none⟩ (.int .u64 z)).cell? ⟨B,i*9+1+j,none⟩=some u:=⟨_,hc3 _ _ (zN hl9)⟩;obtain⟨u0,zs⟩:=zs0;clear hc3 hl9;have HR1:=za hr1;have HM1:=za hm1;clear z4_0 z4_f z4_l;clear H_z4 hm1 hr1 zgx hfx;generalize Wx.drew.drew.setCell ⟨B,i*9,none⟩ (.int .u64 z)=W5 at *;obtain⟨z5_0,z5_f,z5_l,H_z5⟩:=cr1 z5;clear z5;gi_upto_region 12 with fail
   gi_cut []from 71 (fun wc=>wc=W5.drew.setCell ⟨B,i*9+1+j,none⟩ (.int .u32 slot))
   case first =>
     rename_i Jc Kc hJc hKc;refine Xr (by kernel_rfl) (by kernel_rfl) ?_
     (refine iTk 0 ?_)
     (refine iTk 1 ?_)
     (refine iTk 3 ?_)
     (refine iTk 4 ?_)
     (refine iSt 2 (fun K hK => ?_);go_simp;skip;refine hK _ _ ?_;clear hK K)
     (refine iTk 5 ?_)
     (refine iSt 6 (fun K hK => ?_);go_simp;skip;refine hK _ _ ?_;clear hK K)
     refine wpAnyIn_done (by kernel_rfl) ?_ _
     gi_wp2_with fail
     refine Met.intro (hJc _ _ ?_)
     repeat apply Exists.intro
     exact⟨rfl,rfl⟩
   case rest =>
     subst hcut;have hm2:Mod (fun k=>k=B) Wx (W5.drew.setCell ⟨B,i*9+1+j,none⟩ (.int .u32 slot)):=HM1.out.trans (Mod.of_drew (Mod.set1 B (i*9+1+j) _));have hr2:=uT (zy HR1.out (Mod.drew (Mod.refl (fun _=>False) W5)) (fun _ _ h=>h)) (i*9+1+j) (.int .u32 slot) (by omega);have z3:=hm2.heap (nB HI.out.fs.h3 (by decide)) (HX.out.heap (np HI.out.fs.h3 (by decide)) HI.out.fs.h3);have zp:=hm2.heap (nB HI.out.fs.ix.box (by decide)) HBX.out;have z6:=hm2.heap (nB HI.out.fs.h6 (by decide)) (HX.out.heap (np HI.out.fs.h6 (by decide)) HI.out.fs.h6);have HE:=za (zch HI.out.fs HX.out HBX.out hil hj8 ht1.out htl hslot hz hu1 hm2 hr2 rfl);clear z5_0 z5_f z5_l;clear H_z5 hm2 hr2 zs hf3;generalize W5.drew.setCell ⟨B,i*9+1+j,none⟩ (.int .u32 slot)=W6 at *;obtain⟨z3_0,z3_f,z3_l,H_z3⟩:=cr1 z3;clear z3;obtain⟨zp_0,zp_1,zp_2,zp_f,zp_l,H_zp⟩:=cr3 zp;clear zp;obtain⟨z6_0,z6_f,z6_l,H_z6⟩:=cr1 z6;clear z6;have wu:IntKind.i64.wrap ((zE Gs:Int)+1)=(zE Gs:Int)+1:=zt _ (by omega);gi_wp2;obtain⟨E1,E2,E3,E4⟩:=HE.out;refine⟨xd.of_mod E4 (fun k _ hk o ho => ?_),rfl,_,?_,E2,HI.out.fs.wb,E3,E1⟩
     · rcases hk with e | e | e
       · rw[e,HI.out.fs.ix.box]at ho;cases ho;rfl
       · obtain⟨cc,e2⟩:=yg HI.out.fs.ix.row (g:=B) rfl
         rw[e,e2]at ho;cases ho;rfl
       · rw[e,HI.out.fs.h6]at ho;cases ho;rfl
     · unfold vG
       rw[hpart,HPO.out,Vq pre (i::post) HI.out.fl,htg];simp only[kw];rw[zh (by rw[hj];omega),hj]):P:=h
theorem zbF{w:World}{D:Nat→Prop}{p:Nat}{sv:Value}{Gs:List Grp}(h:yf w D p sv Gs)(sum slot:Nat)(hsum:sum<18446744073709551616)(hslot:slot≤4294967295) :
    Calls prog 271 #[.pointer (some ⟨p,0,none⟩),.int .u64 sum,.int .u32 slot] w (YG w D p sv Gs sum slot):=by
  have hlp:p<w.heap.size:=zl h.box;obtain⟨B,c,rfl,hc,hB,hDB,hBf,hcells⟩:=h.at;have hfs:=InS.new (sum:=sum) (slot:=slot) h;have HF:=za hfs;have HC:=za hcells;clear hfs hcells hBf hc
  (refine(yy (n:=0)).1 (callsIn_of_wp_marks func271 rfl trivial (vQ.2 ?_) rfl);simp only[ntmps271,List.size_toArray,List.length_cons,List.length_nil,Nat.reduceAdd,Nat.reduceSub,Array.replicate_succ,Array.replicate_zero,List.push_toArray,List.append_toArray,List.nil_append,List.cons_append])
  go_upto_region 1 with fail
  generalize(((w.alloc (.cells #[.pointer (some ⟨p,0,none⟩)] 200)).alloc (.cells #[.int .u64 sum] 22)).alloc (.cells #[.int .u32 slot] 114)).alloc (.cells #[.int .i64 0] 26)=W1 at HF ⊢;have hws:=HF.out.wb;generalize w.heap.size=b at HF ⊢;have z3:=HF.out.h3;have z4:=HF.out.h4;have zp:=HF.out.ix.box;obtain⟨z3_0,z3_f,z3_l,H_z3⟩:=cr1 z3;clear z3;obtain⟨z4_0,z4_f,z4_l,H_z4⟩:=cr1 z4;clear z4;obtain⟨zp_0,zp_1,zp_2,zp_f,zp_l,H_zp⟩:=cr3 zp;clear zp;have HG:=za HF.out.ix.ok.pow;have wg:IntKind.i64.wrap (Gs.length:Int)=Gs.length:=zt _ (by have:=HG.out.le;omega);have HZ:=za (fun W (hW:W.cell? ⟨p,0,none⟩=_)=>ZX (w:=W) (c:=c) (a:=some ⟨B,0,none⟩) hW HG.out.pos HG.out.le);have HPart:=za (fun W=>zam sum W hsum);have HAll:=za (fun W=>zdv (sum/128) Gs.length W HG.out);obtain⟨part,hpart⟩:=zc (sum/128);rw[hpart]at HPart HAll;go_upto_region 3 with(go_at_call 256;refine(HZ.out _ zp_0).mono ?_;rintro e w' ⟨rfl,rfl⟩)
  go_region_held3 (fun w'=>w'.cell? ⟨b,0,none⟩=some (.pointer (some ⟨p,0,none⟩))∧w'.cell? ⟨b+1,0,none⟩=some (.int .u64 sum)∧w'.cell? ⟨p,0,none⟩=some (.slice (some ⟨B,0,none⟩) Gs.length c))
    (first | go_keep | exact⟨hp2.cell (fun h=>h) z3_0,hp2.cell (fun h=>h) z4_0,hp2.cell (fun h=>h) zp_0⟩)
    (first
      | (go_at_call 318;(with_reducible refine(HPart.out _).mono ?_);rintro e w' ⟨rfl,rfl⟩)
      | (go_at_call 317;(with_reducible refine(HAll.out _).mono ?_);rintro e w2 ⟨B1,B2,B3,rfl,hit,hp2,hB1,hB2,hB3⟩))
  have hpw:zb W1 w2:=hp2.of_drew;have hfo:InO w D p (.slice (some ⟨B,0,none⟩) Gs.length c) Gs sum slot b B1 B2 B3 w2.heap.size [] w2:=by
    refine⟨HF.out.pure hpw,by rw[hpart];exact hit,by simp,zG _⟩
  have hItlt : ∀ k,qZ B1 B2 B3 k→k<w2.heap.size:=by
    exact Azyoh
  have hw2:w.heap.size≤w2.heap.size:=zH HF.out.pu.size hpw.size;have hpl:part<144115188075855872:=by omega
  have HO:=za hfo;clear z3_0 z3_f z3_l;clear z4_0 z4_f z4_l;clear zp_0 zp_1 zp_2 zp_f zp_l;clear H_z3 H_z4 H_zp HF hfo HPart HAll HZ hp2 hpw hB1 hB2 hB3;go_wp2;refine vQ.1 (Z5 (gf:=356) (lb:=#[.pointer (some ⟨B1,0,none⟩),.pointer (some ⟨B2,0,none⟩),.pointer (some ⟨B3,0,none⟩)]) rfl (enters_of func356 (by kernel_rfl) rfl) (It:=qZ B1 B2 B3) (Q7 hit HG.out hpl) hItlt (fun _=>rfl)
    (fun pre W=>InO w D p (.slice (some ⟨B,0,none⟩) Gs.length c) Gs sum slot b B1 B2 B3 w2.heap.size pre W) (fun cd _ W=>cd=.ret∧InR w D p (.slice (some ⟨B,0,none⟩) Gs.length c) Gs sum slot b W) ?hI ?hIx HO.out ?round ?done ?stop)
  case hI=>exact fun pre X Y h hq=>h.quiet hw2 hq
  case hIx=>exact fun cd pre X Y h hq=>⟨h.1,h.2.quiet hw2 hq⟩
  case stop =>
    rintro l cd pre W hl ⟨rfl,h1⟩ hK;obtain⟨Gs',g1,g2,g3,g4,g5⟩:=h1.quiet hw2 (zx.putObj (.deferred none) hl hK rfl);have y6:=zf _ _ 0 _ _ _ g4;simp at y6;refine vQ.2 ?_;go_wp2;exact j6 (v := .int .i64 0) hK (by simp[results,results271,go_sem,y6]) (by unfold YG;rw[g1];exact⟨rfl,g5,g2⟩)
  case done =>
    rintro l xs W hl hS hI hK;have hS':xs=xV part Gs.length:=hS;have hn:vG Gs sum slot=none:=by
      unfold vG;rw[hpart,← hS'];have:=Vq (Gs:=Gs) (tag:=sum%128) (slot:=slot) xs [] hI.fl;rw[jm]at this;exact this
    have z6:=hI.fs.h6;have HI:=za hI;have hwb:=hI.fs.wb;clear hI HO hit hItlt;obtain⟨z6_0,z6_f,z6_l,H_z6⟩:=cr1 z6;clear z6;go_wp2;have hm:Mod (fun k=>k=b+1+1+1) W (W.setCell ⟨b+1+1+1,0,none⟩ (.int .i64 7)):=Mod.set1 _ _ _;have hk:=hm.heap (by intro e;subst e;rw[H_z6.out]at hK;cases hK) hK;have hq:zx w2.heap.size _ _:=zx.putObj (.deferred none) hl hk rfl;have y6:=zf _ _ 0 _ _ _ (hq.cells (vz (j:=0) (v := .int .i64 7) H_z6.out));simp at y6;refine j6 (v := .int .i64 7) hk (by simp[results,results271,go_sem,y6]) ?_;unfold YG;rw[hn];refine⟨rfl,(HI.out.fs.ix.mod hm (fun k hk e => ?_)).quiet hq,hq.mod (Mod.mono ((Mod.of_pure HI.out.fs.pu).then hm (fun i hi e=>by omega):Mod (fun _=>False) w _) (fun _ _ h=>h.elim)) hw2⟩;subst e;rcases(HI.out.fs.ix.dd _).1 hk with e | e
    · rw[e,HI.out.fs.ix.box]at H_z6;cases H_z6.out
    · obtain⟨cc,e2⟩:=yg HI.out.fs.ix.row e
      rw[e2]at H_z6;cases H_z6.out
  case round =>
    rintro l pre i W K hI hG hK;obtain⟨post,hpost⟩:=hG;have hil:i<Gs.length:=by
      exact Azmrn
    dsimp only[qP];have HI:=za hI;have HK:=za hK;have HPO:=za hpost;clear hI hK HO hit hpost;gi_wp2;refine HK.out _ _ (Mod.refl _ _) (fun l' W2 hl hr hq => ?_);replace HI:=za (HI.out.quiet hw2 hq);clear HK hq W hr;have z3:=HI.out.fs.h3;have zp:=HI.out.fs.ix.box;obtain⟨z3_0,z3_f,z3_l,H_z3⟩:=cr1 z3;clear z3;obtain⟨zp_0,zp_1,zp_2,zp_f,zp_l,H_zp⟩:=cr3 zp;clear zp;have hi0:(0:Int)≤i:=by omega
    have hi1:(i:Int)<Gs.length:=by omega
    have hgl:=HG.out.le;obtain⟨B',c',hsv,_,hB',hDB',hBf',hcells'⟩:=HI.out.fs.ix.at
    cases hsv
    have zg:=(hcells' i hil).1;have hgo:=za (HI.out.fs.ix.ok.at hil);have hff:xT (zq Gs i)=jk (zM ((zq Gs i).1.map (fun x=>decide (128≤x)))):=by
      rw[zgm (by rw[yt];exact hgo.out.ctl.1)];unfold xT;rw[List.findIdx_map]
      rfl
    have hml:zM ((zq Gs i).1.map (fun x=>decide (128≤x)))<256:=jn (by rw[yt];exact hgo.out.ctl.1);have zfr:=za (fun W=>zcY hgo.out.ctl W);have zfi:=za (fun W=>zag _ W hml);have hfl:=zgK _ hml;rw[← hff]at zfi hfl;have HFF:=za hff;clear hcells' hff hml;generalize zM ((zq Gs i).1.map (fun x=>decide (128≤x)))=m at *;obtain⟨j,hj⟩:=zc (xT (zq Gs i));rw[hj]at zfi hfl;by_cases h8:j=8
    · subst h8
      gi_wp2_with (first
        | (gi_at_call 320;refine ki (CallsIn.inRound l' (yy.2 (zfr.out _))) ?_;rintro e w' ⟨rfl,rfl⟩)
        | (gi_at_call 319;refine ki (CallsIn.inRound l' (yy.2 (zfi.out _))) ?_;rintro e w' ⟨rfl,rfl⟩))
      refine⟨fun _ _ _ h _=>h,⟨zG _,fun _ _ _=>rfl⟩,⟨HI.out.fs,HI.out.it,?_,HI.out.sz⟩⟩;intro k hk;rcases yF.1 hk with hk | hk
      · exact HI.out.fl k hk
      · have:k=i:=by simpa using hk
        rw[this];exact hj
    · have hj8:j<8:=by omega
      have hj0:(0:Int)≤j:=by omega
      have hj1:(j:Int)<8:=by omega
      have hj2:(j:Int)≤8:=by omega
      have hjn:((j:Int)==8)=false:=by simp;omega
      have hbit:=Qs (p:=(zq Gs i).1.map (· == 128)) (by rw[yt];exact hgo.out.ctl.1) j hj8;have hmz:zM ((zq Gs i).1.map (· == 128))<256:=jn (by rw[yt];exact hgo.out.ctl.1);have hcj:=Jr hgo.out.ctl hj hj8;have zem:=za (fun W=>Xm hgo.out.ctl.bytes W);have hgd:((zq Gs i).1.map (· == 128)).getD j false=decide ((zq Gs i).1[j]? = some 128):=by
        rw[vS,yw];rcases hcj with e | e<;>simp[e]
      rw[hgd]at hbit;generalize zM ((zq Gs i).1.map (· == 128))=me at *;have hme:me/2 ^ j<256:=jO (YP _ _) hmz;have hb1:=UL _ 1 hme (by omega);rw[hbit]at hb1;rw[Int.natCast_ediv,Int.natCast_pow]at hb1;have hus:=HI.out.fs.ix.ok.used_le;have htm:=HI.out.fs.ix.ok.tomb_le;obtain⟨tag,htg⟩:=zc (sum%128);have htl:tag<128:=by omega
      have ztag:=za (fun W=>zaE sum W hsum);rw[htg]at ztag;have zset:=za (fun W=>zfC hgo.out.ctl j tag W hj8 htl);obtain⟨z,hz⟩:=zc (zC ((zq Gs i).1.set j tag));rw[hz]at zset;have hu0:=fun a ha=>VY (Gs:=Gs) (i:=i) (j:=j) (t:=tag) (s:=slot) (a:=a) hil ha
      have ht0:=fun a ha=>UE (Gs:=Gs) (i:=i) (j:=j) (t:=tag) (s:=slot) (a:=a) hil ha
      have htd:(decide (tag<128)).toNat=1:=by simp[htl]
      have hte0:(tag==254)=false:=by simp;omega
      have hte:(tag==254).toNat=0:=by rw[hte0];rfl
      rw[htd]at hu0;rw[hte]at ht0;rcases hcj with hcj | hcj
      · have hb2:bits .and .u8 ((me:Int)/2 ^ j) 1=1:=by simpa[hcj]using hb1
        gi_upto_region 11 with(first
          | (gi_at_call 320;refine ki (CallsIn.inRound l' (yy.2 (zfr.out _))) ?_;rintro e w' ⟨rfl,rfl⟩)
          | (gi_at_call 319;refine ki (CallsIn.inRound l' (yy.2 (zfi.out _))) ?_;rintro e w' ⟨rfl,rfl⟩)
          | (gi_at_call 292;refine ki (CallsIn.inRound l' (yy.2 (zem.out _))) ?_;rintro e w' ⟨rfl,rfl⟩))
        have hu1:zE (yz Gs i j tag slot)=zE Gs+1:=by simpa using hu0 128 hcj
        have ht2:ye (yz Gs i j tag slot)=ye Gs:=by simpa using ht0 128 hcj
        clear z3_0 z3_f z3_l;clear zp_0 zp_1 zp_2 zp_f zp_l;clear H_z3 H_zp zg;obtain⟨Wx,hWx⟩ : ∃ Wx,Wx=W2:=⟨_,rfl⟩;have HX:Hid (Mod (fun k=>k=p) W2 Wx):=hWx ▸ Mod.refl _ W2;have HBX:Hid (Wx.heap[p]? = _):=hWx ▸ HI.out.fs.ix.box;have ht1:Hid ((ye Gs:Int)=ye (yz Gs i j tag slot)):=by show((ye Gs:Int)=ye (yz Gs i j tag slot));rw[ht2]
        clear ht2;rw[← hWx];clear hWx;exact Azlmh
      · have hb2:bits .and .u8 ((me:Int)/2 ^ j) 1=0:=by simpa[hcj]using hb1
        gi_upto_region 11 with(first
          | (gi_at_call 320;refine ki (CallsIn.inRound l' (yy.2 (zfr.out _))) ?_;rintro e w' ⟨rfl,rfl⟩)
          | (gi_at_call 319;refine ki (CallsIn.inRound l' (yy.2 (zfi.out _))) ?_;rintro e w' ⟨rfl,rfl⟩)
          | (gi_at_call 292;refine ki (CallsIn.inRound l' (yy.2 (zem.out _))) ?_;rintro e w' ⟨rfl,rfl⟩))
        have hu1:zE (yz Gs i j tag slot)=zE Gs+1:=by simpa using hu0 254 hcj
        have ht2:ye (yz Gs i j tag slot)+1=ye Gs:=by simpa using ht0 254 hcj
        have HX:Hid (Mod (fun k=>k=p) W2 (W2.setCell ⟨p,2,none⟩ (.int .i64 ((ye Gs:Int)-1)))):=Mod.set1 _ _ _;have hbx0:=vz (j:=2) (v := .int .i64 ((ye Gs:Int)-1)) HI.out.fs.ix.box;simp at hbx0;have HBX:=za hbx0;clear hbx0;have ht1:Hid ((ye Gs:Int)-1=ye (yz Gs i j tag slot)):=by show((ye Gs:Int)-1=ye (yz Gs i j tag slot));omega
        clear ht2;clear z3_0 z3_f z3_l;clear zp_0 zp_1 zp_2 zp_f zp_l;clear H_z3 H_zp zg;generalize W2.setCell ⟨p,2,none⟩ (.int .i64 ((ye Gs:Int)-1))=Wx at *;exact Azlmh
end
section
open Go.RowKit Go.Shelf
def kY:Grp:=([128,128,128,128,128,128,128,128],[0,0,0,0,0,0,0,0])
def jz:Grp:=([0,0,0,0,0,0,0,0],[0,0,0,0,0,0,0,0])
def xu(g:Nat):List Grp:=List.replicate g kY
theorem zir:xY kY:=⟨⟨rfl,by decide⟩,rfl,by decide⟩
theorem Vk(g:Nat):(xu g).length=g:=vu
theorem zcC{g:Nat}(hg:Pow g):xB (xu g):=⟨by rw[Vk];exact hg,fun c hc=>by rw[(List.mem_replicate.1 hc).2];exact zir⟩
theorem VE(g:Nat):zE (xu g)=0:=by
 unfold zE xu;rw[List.map_replicate,show kY.1.countP (· < 128)=0 from by decide];simp
theorem QF(g:Nat):ye (xu g)=0:=by
 unfold ye xu;rw[List.map_replicate,show kY.1.countP (· == 254)=0 from by decide];simp
def kj(g i:Nat):List Grp:=List.replicate i kY++List.replicate (g-i) jz
theorem zgc{g i:Nat}(h:i≤g):(kj g i).length=g:=by unfold kj;simp;omega
theorem zhl(g:Nat):kj g g=xu g:=by unfold kj xu;simp
theorem zdO(g:Nat):(madeCells #[.int .u64 0,.int .u32 0,.int .u32 0,.int .u32 0,.int .u32 0,.int .u32 0,.int .u32 0,.int .u32 0,.int .u32 0] (g*9)).toList=(kj g 0).flatMap yO:=by
 have e:yO jz=[.int .u64 0,.int .u32 0,.int .u32 0,.int .u32 0,.int .u32 0,.int .u32 0,.int .u32 0,.int .u32 0,.int .u32 0]:=rfl;unfold madeCells kj;simp only[List.replicate_zero,List.nil_append,Nat.sub_zero];apply uF;intro k;by_cases hk:k<g*9
 ·have h1:=uX yO 9 qW (k%9) (by omega) (List.replicate g jz) (k/9);rw[show k/9*9+k%9=k by omega]at h1;have h2:(List.replicate g jz)[k/9]? = some jz:=by rw[vW,zk (by omega)]
  rw[h2]at h1;rw[h1]
  show _=(yO jz)[k%9]?
  rw[e];rw[zN (by simpa using hk)];simp;have:k%9<9:=vr _ (by decide);generalize k%9=r at *;have:r=0∨r=1∨r=2∨r=3∨r=4∨r=5∨r=6∨r=7∨r=8:=by omega
  rcases this with rfl | rfl | rfl | rfl | rfl | rfl | rfl | rfl | rfl<;>rfl
 ·rw[xN (by simpa using hk),xN];have : ∀ r∈(List.replicate g jz),(yO r).length=9:=fun r _=>qW r
  rw[List.length_flatMap,uc this];simp;omega
theorem zdn{g i:Nat}(h:i<g):((kj g i).flatMap yO).set (i*9) (.int .u64 (zC [128,128,128,128,128,128,128,128]))=(kj g (i+1)).flatMap yO:=by
 have e1:kj g i=List.replicate i kY++jz::List.replicate (g-(i+1)) jz:=by
  unfold kj;rw[show g-i=g-(i+1)+1 by omega,ZN]
 have e2:kj g (i+1)=List.replicate i kY++kY::List.replicate (g-(i+1)) jz:=by
  unfold kj;rw[List.replicate_succ',vH];rfl
 rw[e1,e2,ZW,ZW,qX,qX];have hl:((List.replicate i kY).flatMap yO).length=i*9:=by
  rw[List.length_flatMap,uc (fun r _=>qW r)];simp
 rw[XC _ _ (by omega),hl,ZD]
 rfl
theorem zfR:(prog.info? 348).map (fun i=>(i.zero,i.size,i.bytes))=some (some (.agg #[.int .u64 0,.int .u32 0,.int .u32 0,.int .u32 0,.int .u32 0,.int .u32 0,.int .u32 0,.int .u32 0,.int .u32 0]),9,40):=by kernel_rfl
def zjE(w:World)(g:Nat)(e:Ending)(w':World):Prop :=
 ∃ p sv,e=.returned (.tuple #[.pointer (some ⟨p,0,none⟩),.int .i64 0])∧yf w' (fun k=>k=p∨sv.ownBlock=some k) p sv (xu g)∧zb w w'∧w.heap.size≤p ∧ ∀ k,sv.ownBlock=some k→w.heap.size≤k
structure VZ(w:World)(g p i:Nat)(W:World):Prop where
 pu:zb w W
 box:W.heap[p]? = some (.cells #[.slice (some ⟨w.heap.size,0,none⟩) g g,.int .i64 0,.int .i64 0] 325 (0,0))
 row:W.ownsRow 0 348 9 (.slice (some ⟨w.heap.size,0,none⟩) g g) g ((kj g i).flatMap yO)
 wp:w.heap.size≤p
theorem VZ.step{w:World}{g p i:Nat}{W W' W'':World}(h:VZ w g p i W)(hi:i<g)(hp:p≠w.heap.size)(hW:zb W W')(e:W'.setCell ⟨w.heap.size,i*9,none⟩ (.int .u64 (zC [128,128,128,128,128,128,128,128]:Nat))=W''):VZ w g p (i+1) W'':=by
 subst e;have hm:Mod (fun k=>k=w.heap.size) W' (W'.setCell ⟨w.heap.size,i*9,none⟩ (.int .u64 (zC [128,128,128,128,128,128,128,128]:Nat))):=Mod.set1 _ _ _;refine⟨(h.pu.trans hW).then hm (fun k hk e=>by omega),hm.heap hp (hW.heap (fun h=>h) h.box),?_,h.wp⟩;have:=uT (zy h.row hW (fun _ _ h=>h)) (i*9) (.int .u64 (zC [128,128,128,128,128,128,128,128]:Nat)) (by omega)
 rwa [zdn hi]at this
theorem zdt(g:Nat)(w:World)(hg:Pow g):Calls prog 223 #[.int .i64 g] w (zjE w g):=by
 have hg0:=hg.pos;have hg1:=hg.le;have HV:=za (fun W=>K0 g W hg);have HB:=za (fun W=>zkI W);obtain⟨i0,hi,hz0,hz1,hz2⟩:=xn zfR;go_enter func223,ntmps223;go_upto_region 3 with(go_at_call 276;refine(HV.out _).mono ?_;rintro e w' ⟨rfl,rfl⟩)
 go_upto_region 4 with(at_make;refine wpList_make_full _ rfl _ _ 323 rfl 0 348 i0 _ 9 underlying323 hi hz0 hz1 .i64 .i64 _ _ g rfl rfl rfl rfl (by rw[hz2];omega) (by unfold maxLen;omega) (yh _) ?_;intro w1 hown hgrow)
 have hpw:zb w (w1.alloc (.cells #[.slice (some ⟨w.heap.size,0,none⟩) g g,.int .i64 0,.int .i64 0] 325)):=(Mod.of_grown hgrow (fun k e _=>by cases e)).alloc _;have hown2:=zy hown ((Mod.refl (fun _=>False) w1).alloc (.cells #[.slice (some ⟨w.heap.size,0,none⟩) g g,.int .i64 0,.int .i64 0] 325)) (fun _ _ h=>h);have hbox:(w1.alloc (.cells #[.slice (some ⟨w.heap.size,0,none⟩) g g,.int .i64 0,.int .i64 0] 325)).heap[w1.heap.size]? = some (.cells #[.slice (some ⟨w.heap.size,0,none⟩) g g,.int .i64 0,.int .i64 0] 325 (0,0)):=zi rfl;have hw1:w.heap.size<w1.heap.size:=by
  obtain⟨B',c',hsv,_,hB',_⟩:=kt hown hg0
  cases hsv
  exact hB'
 rw[show(Value.agg #[.int .u64 0,.int .u32 0,.int .u32 0,.int .u32 0,.int .u32 0,.int .u32 0,.int .u32 0,.int .u32 0,.int .u32 0]).cells=#[.int .u64 0,.int .u32 0,.int .u32 0,.int .u32 0,.int .u32 0,.int .u32 0,.int .u32 0,.int .u32 0,.int .u32 0]from rfl,zdO]at hown2;clear hown hgrow hi hz0 hz1 hz2;generalize w1.alloc (.cells #[.slice (some ⟨w.heap.size,0,none⟩) g g,.int .i64 0,.int .i64 0] 325)=W2 at *;have hwp:w.heap.size≤w1.heap.size:=Zq hw1;generalize w1.heap.size=p at *;have zp:=hbox;have HPW:=za hpw;have HO:=za hown2;have HX:=za hbox;clear hpw hown2 hbox;have wg:IntKind.i64.wrap (g:Int)=g:=zt _ (by omega);obtain⟨zp_0,zp_1,zp_2,zp_f,zp_l,H_zp⟩:=cr3 zp;clear zp;go_upto_region 5 with fail
 go_loopw [18] (fun k wr => ∃ i,k=.int .i64 (i:Nat)∧i≤g∧VZ w g p i wr) (fun k _=>g-(intOf k).toNat)
 case atStart=>exact⟨0,rfl,yh _,HPW.out,HX.out,HO.out,hwp⟩
 case round =>
  obtain⟨i,rfl,hi,hinv⟩:=hrel;have zp:=hinv.box;have HI:=za hinv;clear zp_0 zp_1 zp_2 zp_f zp_l;clear H_zp hinv;obtain⟨zp_0,zp_1,zp_2,zp_f,zp_l,H_zp⟩:=cr3 zp;clear zp;by_cases hlt:i<g
  ·have hlt':(i:Int)<(g:Int):=by omega
   have hl:(kj g i).length=g:=zgc hi;obtain⟨B',c',hsv,_,hB',hcc,hf',_⟩:=kt HI.out.row hg0
   cases hsv
   have zg0 : ∃ u,wr.cell? ⟨w.heap.size,i*9,none⟩=some u:=by
    have h1:=HI.out.row.1;exact⟨_,hcc (i*9) _ (zN (by rw[h1];omega))⟩
   obtain⟨u0,zg⟩:=zg0;have HS:=za (zdn hlt);clear hcc;go_upto_region 7 with fail
   go_region_law ((go_simp;go_at_call 277;refine(HB.out _).mono ?_;rintro e w' ⟨rfl,rfl⟩))
   all_goals
    have hst:=HI.out.step hlt (by omega) (Mod.refl (fun _=>False) wr).drew rfl;have HST:=za hst;clear hst;go_wp2;go_roundw
    case rel=>exact⟨i+1,by go_num,by omega,HST.out⟩
    case measure=>simp[intOf];omega
  ·have hlt':(g:Int)≤(i:Int):=by omega
   have e:i=g:=by omega
   subst e;go_wp2;exact zK (v := .tuple #[.pointer (some ⟨p,0,none⟩),.int .i64 0]) (by simp[results,results223,go_sem]) rfl
    ⟨p,.slice (some ⟨w.heap.size,0,none⟩) i i,rfl,⟨by rw[VE,QF];exact HI.out.box,by rw[Vk,← zhl];exact HI.out.row,fun k=>vE,zcC hg⟩,HI.out.pu,HI.out.wp,fun k hk=>by simp[Value.ownBlock]at hk;omega⟩
theorem Azm7a {P:Prop}(h:P:=by
 go_wp2_with (go_at_call 256;refine(HZ.out zp_0).mono ?_;rintro e w' ⟨rfl,rfl⟩)
 go_ret;exact⟨rfl,rfl⟩):P:=h
theorem zdl{w:World}{D:Nat→Prop}{p:Nat}{sv:Value}{Gs:List Grp}(h:yf w D p sv Gs):Calls prog 245 #[.pointer (some ⟨p,0,none⟩)] w fun e w'=>e=.returned (.int .i64 (zE Gs))∧w=w':=by
 obtain⟨B,c,rfl,hc,hB,hDB,hBf,hcells⟩:=h.at;have zp:=h.box;have HZ:=za (fun(hW:w.cell? ⟨p,0,none⟩=_)=>ZX (w:=w) (c:=c) (a:=some ⟨B,0,none⟩) hW h.ok.pow.pos h.ok.pow.le);clear hcells h;obtain⟨zp_0,zp_1,zp_2,zp_f,zp_l,H_zp⟩:=cr3 zp;clear zp;go_enter func245,ntmps245;exact Azm7a
theorem JQ{w:World}{D:Nat→Prop}{p:Nat}{sv:Value}{Gs:List Grp}(h:yf w D p sv Gs):Calls prog 186 #[.pointer (some ⟨p,0,none⟩)] w fun e w'=>e=.returned (.int .i64 (ye Gs))∧w=w':=by
 obtain⟨B,c,rfl,hc,hB,hDB,hBf,hcells⟩:=h.at;have zp:=h.box;have HZ:=za (fun(hW:w.cell? ⟨p,0,none⟩=_)=>ZX (w:=w) (c:=c) (a:=some ⟨B,0,none⟩) hW h.ok.pow.pos h.ok.pow.le);clear hcells h;obtain⟨zp_0,zp_1,zp_2,zp_f,zp_l,H_zp⟩:=cr3 zp;clear zp;go_enter func186,ntmps186;exact Azm7a
theorem UJ{w:World}{D:Nat→Prop}{p:Nat}{sv:Value}{Gs:List Grp}(h:yf w D p sv Gs):Calls prog 185 #[.pointer (some ⟨p,0,none⟩)] w fun e w'=>e=.returned (.int .i64 Gs.length)∧w=w':=by
 obtain⟨B,c,rfl,hc,hB,hDB,hBf,hcells⟩:=h.at;have zp:=h.box;have HZ:=za (fun(hW:w.cell? ⟨p,0,none⟩=_)=>ZX (w:=w) (c:=c) (a:=some ⟨B,0,none⟩) hW h.ok.pow.pos h.ok.pow.le);have wg:IntKind.i64.wrap (Gs.length:Int)=Gs.length:=zt _ (by have:=h.ok.pow.le;omega);clear hcells h;obtain⟨zp_0,zp_1,zp_2,zp_f,zp_l,H_zp⟩:=cr3 zp;clear zp;go_enter func185,ntmps185;exact Azm7a
theorem zeh{w:World}{B0 x:Nat}(hb:w.heap[B0]? = some (.cells #[.int .u32 x] 114 (0,0)))(s:Nat)(hs:s≤4294967295)(hx:x≤4294967295) :
  Calls prog 290 #[.int .u32 s,.pointer (some ⟨B0,0,none⟩)] w fun e w'=>e=.returned (.bool (s==x))∧w=w':=by
 obtain⟨hb_0,hb_f,hb_l,H_hb⟩:=cr1 hb;clear hb;have hs0:(s:Int)≤4294967295:=by omega
 have hx0:(x:Int)≤4294967295:=by omega
 have e:((s:Int)==(x:Int))=(s==x):=by rw[Bool.eq_iff_iff];simp;omega
 go_enter func290,ntmps290;go_wp2;go_ret;exact⟨rfl,rfl⟩
theorem zeE{gf B0:Nat}{g:Nat→Bool}{w:World}{cs:Array Value}{T:TypeId}(he : ∀ args w,(callFunc gf args).run prog w=.ok (.enter gf args) w)(hB:B0<w.heap.size)
  (hb:w.heap[B0]? = some (.cells cs T (0,0)))
  (hc : ∀(W:World) (s:Nat),s≤4294967295→W.heap[B0]? = some (.cells cs T (0,0))→Calls prog gf #[.int .u32 s,.pointer (some ⟨B0,0,none⟩)] W fun e w'=>e=.returned (.bool (g s))∧W=w') :
  ut prog gf #[.pointer (some ⟨B0,0,none⟩)] (fun _ s=>g s) (fun _=>False) (fun _ W=>W.heap[B0]? = some (.cells cs T (0,0))) w :=
 ⟨he,fun pre s W hs hJ=>(yy.2 (hc W s hs hJ)).mono (fun e w' ⟨h1,h2⟩=>by subst h2;exact⟨h1,hJ,xo.refl _ _⟩),fun pre A B hJ hm=>hm.heap (fun hk=>by have:=hk.1;omega) hJ,fun _ h=>h.elim,hb⟩
def ue(Gs:List Grp)(sum:Nat)(g:Nat→Bool):Option (Nat × Nat):=(xG Gs sum).find? (fun x=>g (zT Gs x))
def Vw(w:World)(D:Nat→Prop)(p:Nat)(sv:Value)(Gs:List Grp)(sum:Nat)(g:Nat→Bool)(B:Nat)(e:Ending)(w':World):Prop :=
 zb w w'∧yf w' D p sv Gs ∧
 match ue Gs sum g with
 | some x=>x.1<Gs.length∧x.2<8∧x∈xG Gs sum∧g (zT Gs x)=true∧e=.returned (.tuple #[.pointer (some ⟨B,x.1*9,none⟩),.int .i64 x.2,.int .i64 0])
 | none=>e=.returned (.tuple #[.pointer none,.int .i64 0,.int .i64 9])
theorem Vl{g:Nat→Bool}{xs:List Nat}(h:kg (fun _ s=>g s) xs) : ∀ x∈xs,g x=false:=fun x hx=>by
 obtain⟨a,c,rfl⟩:=List.append_of_mem hx;exact h a x c rfl
theorem zju{w w':World}{D:Nat→Prop}{p:Nat}{sv:Value}{Gs:List Grp}{sum:Nat}{g:Nat→Bool}{J:List Nat→World→Prop}{B:Nat}{e:Ending}(h:JZ w D p sv Gs sum (fun _ s=>g s) (fun _=>False) J B e w'):Vw w D p sv Gs sum g B e w':=by
 obtain⟨h1,h2,h3⟩:=h;refine⟨Mod.mono h1 (fun k _ ⟨_,_,_,_,hf⟩=>hf),h2,?_⟩;rcases h3 with⟨a,x,post,hs,hf,hg,hi,hj,he,_⟩ | ⟨hf,he,_⟩
 ·have:ue Gs sum g=some x:=by
   unfold ue;rw[hs,List.find?_append,jb.2 (fun y hy=>by
    have:=Vl hf (zT Gs y) (zI.2 ⟨y,hy,rfl⟩);simp[this])]
   simp[hg]
  rw[this];exact⟨hi,hj,by rw[hs];simp,hg,he⟩
 ·have:ue Gs sum g=none:=by
   unfold ue;exact jb.2 (fun y hy=>by
    have:=Vl hf (zT Gs y) (zI.2 ⟨y,hy,rfl⟩);simp[this])
  rw[this];exact he
theorem zdc(i:Nat):2*(i*(i+1)/2)=i*(i+1):=by
 rcases Nat.mod_two_eq_zero_or_one i with h | h
 ·have:i*(i+1)%2=0:=by simp[Nat.mul_mod,h]
  omega
 ·have:i*(i+1)%2=0:=by simp[Nat.mul_mod,Nat.add_mod,h]
  omega
theorem zjt{a i i':Nat}(h:i'+i+1=2*a):i'*(i'+1)/2+a*(2*i+1)=2*(a*a)+i*(i+1)/2:=by
 have h1:=zdc i;have h2:=zdc i';have e1:2*(a*(2*i+1))=(i'+i+1)*(2*i+1):=by rw[h,Nat.mul_assoc]
 have e2:2*(2*(a*a))=(i'+i+1)*(i'+i+1):=by rw[h];simp only[Nat.mul_assoc,Nat.mul_left_comm]
 have c:i'*i=i*i':=Nat.mul_comm _ _;simp only[Nat.mul_add,Nat.add_mul,Nat.mul_one,Nat.one_mul]at *;have c1:i'*(2*i)=2*(i*i'):=by rw[Nat.mul_left_comm,c]
 have c2:i*(2*i)=2*(i*i):=by rw[Nat.mul_left_comm]
 omega
theorem zbs(part:Nat) : ∀(k t:Nat),t<2 ^ k → ∃ i,i<2 ^ k∧(part+i*(i+1)/2)%2 ^ k=t
 | 0,t,h=>⟨0,by decide,by simp at h;subst h;simp[Nat.mod_one]⟩
 | k+1,t,h=>by
  obtain⟨i,hi,e⟩:=zbs part k (t%2 ^ k) (vr _ (Nat.pow_pos (by decide)));have hp:2 ^ (k+1)=2 ^ k*2:=jY 2 k;have hf := @zjt (2 ^ k) i (2*2 ^ k-1-i) (by omega);generalize 2 ^ k=a at *;rw[hp]at h ⊢;have hm:(part+i*(i+1)/2)%(a*2)=t∨(part+i*(i+1)/2)%(a*2)+a=t∨(part+i*(i+1)/2)%(a*2)=t+a:=by
   have h1:=Nat.mod_mul_right_mod (part+i*(i+1)/2) a 2;rw[e]at h1;have h2:(part+i*(i+1)/2)%(a*2)<a*2:=vr _ (by omega);generalize(part+i*(i+1)/2)%(a*2)=y at *;have hy:y=y%a∨y=y%a+a:=by
    by_cases c:y<a
    ·left;rw[xZ c]
    ·right;rw[Nat.mod_eq_sub_mod (by omega),xZ (by omega)];omega
   have ht:t=t%a∨t=t%a+a:=by
    by_cases c:t<a
    ·left;rw[xZ c]
    ·right;rw[Nat.mod_eq_sub_mod (by omega),xZ (by omega)];omega
   omega
  by_cases hd:(part+i*(i+1)/2)%(a*2)=t
  ·exact⟨i,by omega,hd⟩
  ·refine⟨2*a-1-i,by omega,?_⟩;generalize(2*a-1-i)*(2*a-1-i+1)/2=u at *;have hz:(part+i*(i+1)/2)%(a*2)+a=t∨(part+i*(i+1)/2)%(a*2)=t+a:=by
    rcases hm with h | h | h
    ·exact absurd h hd
    ·exact .inl h
    ·exact .inr h
   generalize hT:i*(i+1)/2=T at *
   -- part + u + a*(2i+1) = part + T + 2a*a
   have h3:part+u+a+(a*2)*i=part+T+(a*2)*a:=by
    have e1:a*(2*i+1)=a*2*i+a:=by rw[Nat.mul_add,qh,Nat.mul_assoc]
    have e2:a*2*a=2*(a*a):=by rw[Nat.mul_comm a 2,Nat.mul_assoc]
    omega
   have h4:(part+u+a)%(a*2)=(part+T)%(a*2):=by
    have:=congrArg (· % (a*2)) h3;simpa[Nat.add_mul_mod_self_left]using this
   have h5:=Nat.div_add_mod (part+u) (a*2);have h6:(part+u)%(a*2)<a*2:=vr _ (by omega);generalize(part+u)%(a*2)=v at *;rw[← h5,Nat.add_assoc,Nat.mul_add_mod_self_left]at h4;generalize(part+T)%(a*2)=y at *;by_cases c:v+a<a*2
   ·rw[xZ c]at h4;omega
   ·rw[Nat.mod_eq_sub_mod (by omega),xZ (by omega)]at h4;omega
theorem zgT{g:Nat}(hg:Pow g)(part:Nat){i:Nat}(hi:i<g):i∈xV part g:=by
 obtain⟨k,_,rfl⟩:=hg;obtain⟨n,hn,e⟩:=zbs part k i hi;exact zI.2 ⟨n,Z7.2 hn,e⟩
theorem Xf{g:Nat}(hg:0<g)(part:Nat){i:Nat}(hi:i∈xV part g):i<g:=by
 obtain⟨n,_,rfl⟩:=zI.1 hi;exact vr _ hg
structure vK(Gs:List Grp)(i j t s:Nat):Prop where
 hi:i<Gs.length
 hj:j<8
 tag:(zq Gs i).1[j]? = some t
 full:t<128
 slot:zT Gs (i,j)=s
theorem zbf{c:Grp}(h:xY c)(tag j:Nat):j∈ja c tag↔j<8∧c.1[j]? = some tag:=by
 unfold ja;rw[Jz (by simp[h.ctl.1])];simp only[List.mem_filter,List.mem_range,List.getD_eq_getElem?_getD,List.getElem?_map]
 cases c.1[j]? <;> simp
theorem zcc{Gs:List Grp}{tag:Nat} : ∀ {L:List Nat} {x:Nat × Nat},x∈kP Gs tag L→x.1∈L∧x.2∈ja (zq Gs x.1) tag
 | [],_,h=>by simp[kP]at h
 | i::r,x,h=>by
  simp only[kP,List.mem_append,List.mem_map]at h;rcases h with⟨j,hj,rfl⟩ | h
  ·exact⟨by simp,hj⟩
  ·split at h
   ·simp at h
   ·have:=zcc h;exact⟨by simp[this.1],this.2⟩
theorem Ua{Gs:List Grp}(h:xB Gs){sum:Nat}{x:Nat × Nat}(hx:x∈xG Gs sum):vK Gs x.1 x.2 (sum%128) (zT Gs x):=by
 obtain⟨h1,h2⟩:=zcc hx;have hi:=Xf h.pow.pos _ h1;obtain⟨h3,h4⟩:=(zbf (h.at hi) _ _).1 h2;exact⟨hi,h3,h4,vr _ (by decide),rfl⟩
theorem zjw{Gs:List Grp}(h:xB Gs){sum i j s:Nat}(hf:vK Gs i j (sum%128) s){pre post:List Nat}(hp:xV (sum/128) Gs.length=pre++i::post)(hb : ∀ k∈pre,vV (zq Gs k)=false):(i,j)∈xG Gs sum:=by
 unfold xG;rw[hp,VL pre i post hb];simp only[List.mem_append,List.mem_map];exact .inr (.inl ⟨j,(zbf (h.at hf.hi) _ _).2 ⟨hf.hj,hf.tag⟩,rfl⟩)
structure yC(H:Nat→Nat)(S:Nat→Prop)(Gs:List Grp):Prop where
 ok:xB Gs
 tag : ∀ i j t s,vK Gs i j t s→t=H s%128
 reach : ∀ i j t s,vK Gs i j t s → ∃ pre post,xV (H s/128) Gs.length=pre++i::post ∧ ∀ k∈pre,vV (zq Gs k)=false
 uniq : ∀ i j t i' j' t' s,vK Gs i j t s→vK Gs i' j' t' s→i=i'∧j=j'
 mem : ∀ s,S s ↔ ∃ i j t,vK Gs i j t s
theorem yC.of_iff{H:Nat→Nat}{S S':Nat→Prop}{Gs:List Grp}(h:yC H S Gs)(hs : ∀ s,S s↔S' s):yC H S' Gs :=
 ⟨h.ok,h.tag,h.reach,h.uniq,fun s=>(hs s).symm.trans (h.mem s)⟩
section
variable{H:Nat→Nat}{S:Nat→Prop}{Gs:List Grp}
theorem yC.find_none(h:yC H S Gs){s:Nat}(hs : ¬ S s):ue Gs (H s) (fun x=>x==s)=none:=by
 unfold ue;refine jb.2 (fun x hx => ?_);intro e;have e':zT Gs x=s:=by simpa using e
 exact hs ((h.mem s).2 ⟨_,_,_,e' ▸ Ua h.ok hx⟩)
theorem yC.find_some(h:yC H S Gs){s:Nat}(hs:S s) : ∃ i j,ue Gs (H s) (fun x=>x==s)=some (i,j)∧vK Gs i j (H s%128) s:=by
 obtain⟨i,j,t,hf⟩:=(h.mem s).1 hs;have ht:=h.tag _ _ _ _ hf;subst ht;obtain⟨pre,post,hp,hb⟩:=h.reach _ _ _ _ hf;have hm:=zjw h.ok hf hp hb;unfold ue
 cases hc:(xG Gs (H s)).find? (fun x=>zT Gs x==s)with
 | none =>
  have:=jb.1 hc _ hm;rw[hf.slot]at this;simp at this
 | some x =>
  have h1:=Xe hc;have h2:=Ua h.ok (Zo hc);have h3:zT Gs x=s:=by simpa using h1
  exact⟨x.1,x.2,rfl,h3 ▸ h2⟩
theorem Qw{i j t s:Nat}(hi:i<Gs.length)(hg:xY (zq Gs i))(hj:j<8)(i' j' t' s':Nat) :
  vK (yz Gs i j t s) i' j' t' s'↔(i'=i∧j'=j∧t'=t∧t<128∧s'=s)∨(¬ (i'=i∧j'=j)∧vK Gs i' j' t' s'):=by
 have hl1:j<(zq Gs i).1.length:=by rw[hg.ctl.1];exact hj
 have hl2:j<(zq Gs i).2.length:=by rw[hg.len];exact hj
 constructor
 ·rintro⟨h1,h2,h3,h4,h5⟩;rw[jB]at h1;unfold zT at h5;rw[YD hi]at h3 h5;dsimp only at h5;by_cases e:i'=i
  ·rw[zk e]at h3 h5;unfold uo at h3 h5;dsimp only at h3 h5;by_cases ej:j'=j
   ·subst ej;rw[yo hl1]at h3;rw[vS,yo hl2]at h5
    cases h3
    exact .inl ⟨e,rfl,rfl,h4,by simpa using h5.symm⟩
   ·rw[yx (fun c=>ej c.symm)]at h3;rw[vS,yx (fun c=>ej c.symm)]at h5;refine .inr ⟨fun c=>ej c.2,⟨h1,h2,by rw[e];exact h3,h4,?_⟩⟩;unfold zT;dsimp only;rw[e,vS];exact h5
  ·rw[zh e]at h3 h5;exact .inr ⟨fun c=>e c.1,⟨h1,h2,h3,h4,h5⟩⟩
 ·rintro(⟨rfl,rfl,rfl,h4,rfl⟩ | ⟨hn,h1,h2,h3,h4,h5⟩)
  ·refine⟨by rw[jB];exact hi,hj,?_,h4,?_⟩
   ·rw[YD hi,zk rfl];exact yo hl1
   ·unfold zT;dsimp only;rw[YD hi,zk rfl,vS];unfold uo;dsimp only;rw[yo hl2]
    rfl
  ·refine⟨by rw[jB];exact h1,h2,?_,h4,?_⟩
   ·rw[YD hi];by_cases e:i'=i
    ·rw[zk e];unfold uo;dsimp only;rw[yx (fun c=>hn ⟨e,c.symm⟩),← e];exact h3
    ·rw[zh e];exact h3
   ·unfold zT at h5 ⊢;dsimp only at h5 ⊢;rw[YD hi];by_cases e:i'=i
    ·rw[zk e];unfold uo;dsimp only;rw[vS,yx (fun c=>hn ⟨e,c.symm⟩),← e,← vS];exact h5
    ·rw[zh e];exact h5
theorem QH{i j t s k:Nat}(hi:i<Gs.length)(ht:t=128→vV (zq Gs i)=true)(hb:vV (zq Gs k)=false):vV (zq (yz Gs i j t s) k)=false:=by
 rw[YD hi];by_cases e:k=i
 ·subst e;rw[zk rfl];unfold vV uo at *;dsimp only;rw[List.any_eq_false]at hb ⊢;intro x hx;rcases jS hx with h | rfl
  ·exact hb x h
  ·intro c;have:=ht (by simpa using c);rw[List.any_eq_true]at this;obtain⟨y,hy,hy2⟩:=this;exact hb y hy hy2
 ·rw[zh e];exact hb
theorem UU{tag slot:Nat} : ∀ {L:List Nat} {Gs':List Grp},kw Gs tag slot L=some Gs' →
  ∃ pre i post,L=pre++i::post∧(∀ k∈pre,xT (zq Gs k)=8)∧xT (zq Gs i)≠8∧Gs'=yz Gs i (xT (zq Gs i)) tag slot
 | [],_,h=>by simp[kw]at h
 | i::r,Gs',h=>by
  unfold kw at h;by_cases e:xT (zq Gs i)=8
  ·rw[zk e]at h;obtain⟨pre,i',post,rfl,h2,h3,h4⟩:=UU h;exact⟨i::pre,i',post,rfl,fun k hk=>by
    rcases yu.1 hk with rfl | hk
    ·exact e
    ·exact h2 k hk,h3,h4⟩
  ·rw[zh e]at h
   cases h
   exact⟨[],i,r,rfl,by simp,e,rfl⟩
theorem zcT{tag slot:Nat} : ∀ {L:List Nat},kw Gs tag slot L=none ↔ ∀ k∈L,xT (zq Gs k)=8
 | []=>by simp[kw]
 | i::r=>by
  unfold kw;by_cases e:xT (zq Gs i)=8
  ·rw[zk e,zcT];simp[e]
  ·rw[zh e];simp[e]
theorem zao{c:Grp}(h:xY c)(hf:xT c≠8):xT c<8:=by
 have:xT c≤c.1.length:=List.findIdx_le_length;rw[h.ctl.1]at this;omega
theorem Js{c:Grp}(h:xY c):xT c=8 ↔ ∀ x∈c.1,x<128:=by
 unfold xT;rw[← h.ctl.1,List.findIdx_eq_length];simp
theorem zhJ{c:Grp}(h:xY c)(hf:xT c=8):vV c=false:=by
 unfold vV;rw[List.any_eq_false];intro x hx;have:=(Js h).1 hf x hx;simp;omega
theorem K8{sum slot:Nat}{Gs':List Grp}(h:xB Gs)(hs:slot≤4294967295)(he:vG Gs sum slot=some Gs'):zE Gs'=zE Gs+1∧Gs'.length=Gs.length∧xB Gs'∧ye Gs'≤ye Gs:=by
 obtain⟨pre,i,post,hp,hpre,hf,rfl⟩:=UU he;have hi:i<Gs.length:=Xf h.pow.pos (sum/128) (by rw[hp];simp);have hg:=h.at hi;have hj:=zao hg hf;have h128:=Jr hg.ctl rfl hj;have ht:sum%128<128:=vr _ (by decide);refine⟨?_,jB ..,h.put (.inl ht) hs,?_⟩
 ·unfold xT;rcases h128 with e | e
  ·simpa[ht]using VY (t:=sum%128) (s:=slot) hi e
  ·simpa[ht]using VY (t:=sum%128) (s:=slot) hi e
 ·have n254:(sum%128==254)=false:=by simp;omega
  rcases h128 with e | e
  ·have:=UE (t:=sum%128) (s:=slot) hi e;rw[n254]at this;simp at this;unfold xT at *;omega
  ·have:=UE (t:=sum%128) (s:=slot) hi e;rw[n254]at this;simp at this;unfold xT at *;omega
theorem yC.ins(h:yC H S Gs){s:Nat}(hs:s≤4294967295)(hn : ¬ S s){Gs':List Grp}(he:vG Gs (H s) s=some Gs'):yC H (fun x=>x=s∨S x) Gs':=by
 have hok:=(K8 h.ok hs he).2.2.1;obtain⟨pre,i,post,hp,hpre,hf,rfl⟩:=UU he;have hi:i<Gs.length:=Xf h.ok.pow.pos (H s/128) (by rw[hp];simp);have hg:=h.ok.at hi;have hj:=zao hg hf;have ht:H s%128<128:=vr _ (by decide);have hfull:=fun i' j' t' s'=>Qw (t:=H s%128) (s:=s) hi hg hj i' j' t' s'
 have hbl:=fun k=>QH (j:=xT (zq Gs i)) (t:=H s%128) (s:=s) (k:=k) hi (fun c=>by omega)
 have hpr : ∀ k∈pre,vV (zq Gs k)=false:=fun k hk=>zhJ (h.ok.at (Xf h.ok.pow.pos (H s/128) (by rw[hp];simp[hk]))) (hpre k hk)
 refine⟨hok,?_,?_,?_,?_⟩
 ·intro i' j' t' s' hF;rcases(hfull _ _ _ _).1 hF with⟨_,_,rfl,_,rfl⟩ | ⟨_,hF⟩
  ·rfl
  ·exact h.tag _ _ _ _ hF
 ·intro i' j' t' s' hF;rw[jB];rcases(hfull _ _ _ _).1 hF with⟨rfl,_,rfl,_,rfl⟩ | ⟨_,hF⟩
  ·exact⟨pre,post,hp,fun k hk=>hbl k (hpr k hk)⟩
  ·obtain⟨pre',post',h1,h2⟩:=h.reach _ _ _ _ hF;exact⟨pre',post',h1,fun k hk=>hbl k (h2 k hk)⟩
 ·intro i1 j1 t1 i2 j2 t2 s' hF1 hF2;rcases(hfull _ _ _ _).1 hF1 with⟨a1,a2,a3,_,a4⟩ | ⟨_,hG1⟩<;>rcases(hfull _ _ _ _).1 hF2 with⟨b1,b2,b3,_,b4⟩ | ⟨_,hG2⟩
  ·exact⟨a1.trans b1.symm,a2.trans b2.symm⟩
  ·exact absurd ((h.mem _).2 ⟨_,_,_,a4 ▸ hG2⟩) hn
  ·exact absurd ((h.mem _).2 ⟨_,_,_,b4 ▸ hG1⟩) hn
  ·exact h.uniq _ _ _ _ _ _ _ hG1 hG2
 ·intro x;constructor
  ·rintro(rfl | hx)
   ·exact⟨_,_,_,(hfull _ _ _ _).2 (.inl ⟨rfl,rfl,rfl,ht,rfl⟩)⟩
   ·obtain⟨i',j',t',hF⟩:=(h.mem x).1 hx;refine⟨i',j',t',(hfull _ _ _ _).2 (.inr ⟨?_,hF⟩)⟩;rintro⟨rfl,rfl⟩;have h128:=Jr hg.ctl rfl hj;have:=hF.full;rcases h128 with e | e
    ·have:=hF.tag;unfold xT at this;rw[e]at this;cases this;omega
    ·have:=hF.tag;unfold xT at this;rw[e]at this;cases this;omega
  ·rintro⟨i',j',t',hF⟩;rcases(hfull _ _ _ _).1 hF with⟨_,_,_,_,rfl⟩ | ⟨_,hF⟩
   ·exact .inl rfl
   ·exact .inr ((h.mem _).2 ⟨_,_,_,hF⟩)
def vO(Gs:List Grp)(i j:Nat):List Grp:=yz Gs i j (yG (zq Gs i).1) 0
theorem zgH{l:List Nat}(h:yG l=128):l.any (· == 128)=true:=by
 unfold yG at h;split at h
 ·assumption
 ·cases h
theorem Vs(l:List Nat):yG l=128∨yG l=254:=by unfold yG;split<;>simp
theorem Jv(h:xB Gs){i j t s:Nat}(hf:vK Gs i j t s):zE (vO Gs i j)+1=zE Gs∧(vO Gs i j).length=Gs.length∧xB (vO Gs i j):=by
 have h1:=VY (t:=yG (zq Gs i).1) (s:=0) hf.hi hf.tag;have h2:=Vs (zq Gs i).1;have h3:decide (yG (zq Gs i).1<128)=false:=by simp;omega
 rw[h3]at h1;refine⟨?_,jB ..,h.put (.inr h2) (by omega)⟩;unfold vO;simpa[hf.full]using h1
theorem yC.del(h:yC H S Gs){i j t s:Nat}(hf:vK Gs i j t s):yC H (fun x=>x≠s∧S x) (vO Gs i j):=by
 have hok:=(Jv h.ok hf).2.2;have hfull:=fun i' j' t' s'=>Qw (t:=yG (zq Gs i).1) (s:=0) hf.hi (h.ok.at hf.hi) hf.hj i' j' t' s'
 have hbl:=fun k=>QH (j:=j) (t:=yG (zq Gs i).1) (s:=0) (k:=k) hf.hi (fun c=>zgH c)
 have h2:=Vs (zq Gs i).1;have back : ∀ i' j' t' s',vK (vO Gs i j) i' j' t' s' → ¬ (i'=i∧j'=j)∧vK Gs i' j' t' s':=fun i' j' t' s' hF=>by
  rcases(hfull _ _ _ _).1 hF with⟨_,_,_,h128,_⟩ | hF
  ·omega
  ·exact hF
 refine⟨hok,fun i' j' t' s' hF=>h.tag _ _ _ _ (back _ _ _ _ hF).2,fun i' j' t' s' hF => ?_,fun i1 j1 t1 i2 j2 t2 s' hF1 hF2=>h.uniq _ _ _ _ _ _ _ (back _ _ _ _ hF1).2 (back _ _ _ _ hF2).2,fun x => ?_⟩
 ·obtain⟨pre',post',h3,h4⟩:=h.reach _ _ _ _ (back _ _ _ _ hF).2;unfold vO;rw[jB];exact⟨pre',post',h3,fun k hk=>hbl k (h4 k hk)⟩
 ·constructor
  ·rintro⟨hx,hS⟩;obtain⟨i',j',t',hF⟩:=(h.mem x).1 hS;refine⟨i',j',t',(hfull _ _ _ _).2 (.inr ⟨?_,hF⟩)⟩;rintro⟨rfl,rfl⟩;have e1:=hF.slot;have e2:=hf.slot;exact hx (e1.symm.trans e2)
  ·rintro⟨i',j',t',hF⟩;obtain⟨hne,hF⟩:=back _ _ _ _ hF;refine⟨?_,(h.mem x).2 ⟨_,_,_,hF⟩⟩;rintro rfl;exact hne (h.uniq _ _ _ _ _ _ _ hF hf)
theorem zaQ{p:Nat→Bool} : ∀ {Gs:List Grp},(∀ c∈Gs,xY c)→((Gs.map (fun c=>c.1.countP p)).sum=8*Gs.length ↔ ∀ c∈Gs,∀ x∈c.1,p x=true)
 | [],_=>by simp
 | c::Gs,h=>by
  have h1:=zaQ (p:=p) (Gs:=Gs) (fun c hc=>h c (by simp[hc]));have h2:c.1.countP p≤c.1.length:=Uq;have h3:=X5 p (Gs:=Gs) (fun c hc=>h c (by simp[hc]));have h4:c.1.countP p=c.1.length ↔ ∀ x∈c.1,p x=true:=List.countP_eq_length;rw[(h c (by simp)).ctl.1]at h2 h4;simp only[List.map_cons,List.sum_cons,List.length_cons,List.forall_mem_cons];rw[← h1,← h4];omega
theorem zat(h:xB Gs)(sum slot:Nat):vG Gs sum slot=none↔zE Gs=8*Gs.length:=by
 unfold vG;rw[zcT];unfold zE;rw[zaQ h.grp];constructor
 ·intro hk c hc x hx;obtain⟨i,hi⟩:=ug hc;have hl:i<Gs.length:=(zF.1 hi).1;have e:zq Gs i=c:=by have:=uf hl;rw[hi]at this;cases this;rfl
  have:=(Js (h.at hl)).1 (hk i (zgT h.pow _ hl));rw[e]at this;simpa using this x hx
 ·intro hk i hi;have hl:=Xf h.pow.pos _ hi;refine(Js (h.at hl)).2 (fun x hx => ?_);simpa using hk _ (yd (uf hl)) x hx
theorem zdm(h:xB Gs):zE Gs≤8*Gs.length:=X5 _ h.grp
end
theorem zlR{g i:Nat}(hi:i<g):zq (xu g) i=kY:=by
 unfold zq xu;rw[vS];simp[hi]
theorem Us{g i j t s:Nat} : ¬ vK (xu g) i j t s:=fun h=>by
 have hi:i<g:=by have:=h.hi;simpa[xu]using this
 have h1:=h.tag;rw[zlR hi]at h1;have:=yd h1;have h2 : ∀ x∈kY.1,x=128:=by decide
 have:=h2 _ this;have:=h.full;omega
theorem newG_holds(H:Nat→Nat){g:Nat}(hg:Pow g):yC H (fun _=>False) (xu g) :=
 ⟨zcC hg,fun _ _ _ _ h=>absurd h Us,fun _ _ _ _ h=>absurd h Us,fun _ _ _ _ _ _ _ h=>absurd h Us,fun _=>⟨fun h=>h.elim,fun⟨_,_,_,h⟩=>Us h⟩⟩
theorem zj7{w:World}{D:Nat→Prop}{p:Nat}{sv:Value}{Gs:List Grp}(h:yf w D p sv Gs)(sum:Nat)(hsum:sum<18446744073709551616){gf:Nat}{lb:Array Value}{g:Nat→Bool}{J:List Nat→World→Prop}
  (hs:ut prog gf lb (fun _ s=>g s) (fun _=>False) J w) {B c:Nat} (hsv:sv=.slice (some ⟨B,0,none⟩) Gs.length c) :
  Calls prog 279 #[.pointer (some ⟨p,0,none⟩),.int .u64 sum,.func (.func gf) #[] lb] w (Vw w D p sv Gs sum g B) :=
 (zb7 h sum hsum hs).mono (fun e w' ⟨B',c',e1,hp⟩=>by
  rw[hsv]at e1
  cases e1
  exact zju hp)
theorem ziW{W2 W3 W5:World}{D:Nat→Prop}{p B c i j t s:Nat}{Gs:List Grp}{n' t':Int}(h:yf W2 D p (.slice (some ⟨B,0,none⟩) Gs.length c) Gs)(hi:i<Gs.length)(hj:j<8)
  (ht:t<128∨t=128∨t=254) (hsl:s≤4294967295) (hu:n'=zE (yz Gs i j t s)) (hu2:t'=ye (yz Gs i j t s)) (h3:Mod (fun k=>k=B) W2 W3)
  (h3r:W3.ownsRow 0 348 9 (.slice (some ⟨B,0,none⟩) Gs.length c) Gs.length (((Gs.flatMap yO).set (i*9) (.int .u64 (zC ((zq Gs i).1.set j t)))).set (i*9+1+j) (.int .u32 s)))
  (h5:Mod (fun k=>k=p) W3 W5) (h5b:W5.heap[p]? = some (.cells #[.slice (some ⟨B,0,none⟩) Gs.length c,.int .i64 n',.int .i64 t'] 325 (0,0))) :
  yf W5 D p (.slice (some ⟨B,0,none⟩) Gs.length c) (yz Gs i j t s)∧Mod D W2 W5:=by
 have hpB:p≠B:=fun e=>by
  obtain⟨cc,e2⟩:=yg h.row (g:=B) rfl;have:=h.box;rw[e,e2]at this;cases this
 refine⟨⟨?_,?_,h.dd,h.ok.put ht hsl⟩,?_⟩
 ·rw[h5b,hu,hu2]
 ·rw[jB,← zbi (t:=t) (s:=s) (h.ok.at hi) hi hj _ rfl];exact zy h3r h5 (fun g hg e=>by
   have:B=g:=by simpa[Value.ownBlock]using hg
   exact hpB (e.symm.trans this.symm))
 ·exact(h3.mono (fun k _ e=>by subst e;exact(h.dd k).2 (.inr rfl)):Mod D W2 W3).then h5 (fun k _ e=>by subst e;exact(h.dd k).2 (.inl rfl))
def J0(w:World)(D:Nat→Prop)(p:Nat)(sv:Value)(Gs:List Grp)(sum:Nat)(f:List Nat→Nat→Bool)(C:TypeId→Prop)(J:List Nat→World→Prop)(e:Ending)(w':World):Prop :=
  xo C w w'∧yf w' D p sv Gs ∧
  ((∃ a x post,xG Gs sum=a++x::post∧kg f (a.map (zT Gs))∧f (a.map (zT Gs)) (zT Gs x)=true ∧
    e=.returned (.tuple #[.int .u32 (zT Gs x),.int .i64 0])∧J ((a++[x]).map (zT Gs)) w') ∨
   (kg f ((xG Gs sum).map (zT Gs))∧e=.returned (.tuple #[.int .u32 0,.int .i64 9])∧J ((xG Gs sum).map (zT Gs)) w'))
theorem zbN{P:Program}(w:World)(d:Nat)(t:TypeId){ps rs:Array TypeId}{v:Bool}(fn:Fn)(fi ca:Array Value)(h:P.underlying t=some (.func ps rs v)):(Op.equalIn (d+1) t (.func fn fi ca) .nilFunc).run P w=.ok false w:=by
 simp[Op.equalIn,run_underlying h]
@[go_sem] theorem zmG (w : World) (fn : Fn) (fi ca : Array Value) : (binOp .eql 292 (.func fn fi ca) .nilFunc).run prog w=.ok (.bool false) w := by
 simp only[binOp];simp[Op.equal,Op.maxDepth,zbN w 9999 _ fn fi ca underlying292]
theorem zjv{w:World}{D:Nat→Prop}{p:Nat}{sv:Value}{Gs:List Grp}(h:yf w D p sv Gs)(sum:Nat)(hsum:sum<18446744073709551616){gf:Nat}{lb:Array Value}{f:List Nat→Nat→Bool}{C:TypeId→Prop}{J:List Nat→World→Prop}
  (hs:ut prog gf lb f C J w) :
  Calls prog 229 #[.pointer (some ⟨p,0,none⟩),.int .u64 sum,.func (.func gf) #[] lb] w (J0 w D p sv Gs sum f C J):=by
 have HF:=za (zb7 h sum hsum hs);obtain⟨B,c,rfl,hc,hB,hDB,hBf,hcells⟩:=h.at;have zp:=h.box;have HZ:=za (fun(hW:w.cell? ⟨p,0,none⟩=_)=>ZX (w:=w) (c:=c) (a:=some ⟨B,0,none⟩) hW h.ok.pow.pos h.ok.pow.le);clear hcells h hs hBf;obtain⟨zp_0,zp_1,zp_2,zp_f,zp_l,H_zp⟩:=cr3 zp;clear zp;go_enter func229,ntmps229;go_upto_region 3 with(go_at_call 256;refine(HZ.out zp_0).mono ?_;rintro e w' ⟨rfl,rfl⟩)
 go_upto_region 5 with fail
 go_upto_region 6 with(go_at_call 279;refine HF.out.mono ?_;rintro e w2 ⟨B',c',hsv,hm,hix,⟨a,x,post,h1,h2,h3,h4,h5,rfl,h7⟩ | ⟨h1,rfl,h7⟩⟩)
 ·obtain⟨B3,c3,hsv3,_,hB3,hDB3,hBf3,hcells3⟩:=hix.at
  cases hsv3
  have zs:=(hcells3 x.1 h4).2 x.2 h5;rw[show x.1*9+(x.2+1)=x.1*9+1+x.2 by omega]at zs;have x0:(0:Int)≤x.2:=by omega
  have x1:(x.2:Int)<8:=by omega
  have HP:=za (And.intro h1 (And.intro h2 (And.intro h3 (And.intro h7 (And.intro hm hix)))));have e6:zT Gs x=(zq Gs x.1).2.getD x.2 0:=rfl;rw[← e6]at zs;clear h1 h2 h3 h7 hcells3 hm hix e6;obtain⟨sx,hsx⟩:=zc (zT Gs x);rw[hsx]at zs;go_wp2;rw[← hsx];exact zK (v := .tuple #[.int .u32 (zT Gs x),.int .i64 0]) (by simp[results,results229,go_sem]) rfl ⟨HP.out.2.2.2.2.1,HP.out.2.2.2.2.2,.inl ⟨a,x,post,HP.out.1,HP.out.2.1,HP.out.2.2.1,rfl,HP.out.2.2.2.1⟩⟩
 ·have HP:=za (And.intro h1 (And.intro h7 (And.intro hm hix)));clear h1 h7 hm hix;go_wp2;exact zK (v := .tuple #[.int .u32 0,.int .i64 9]) (by simp[results,results229,go_sem]) rfl ⟨HP.out.2.2.1,HP.out.2.2.2,.inr ⟨HP.out.1,rfl,HP.out.2.1⟩⟩
theorem zkf{w w':World}{D:Nat→Prop}{p:Nat}{sv:Value}{Gs:List Grp}{sum:Nat}{g:Nat→Bool}{B:Nat}{e:Ending}(h:Vw w D p sv Gs sum g B e w'){i j:Nat}(hf:ue Gs sum g=some (i,j)) :
  e=.returned (.tuple #[.pointer (some ⟨B,i*9,none⟩),.int .i64 j,.int .i64 0])∧zb w w'∧yf w' D p sv Gs∧vK Gs i j (sum%128) (zT Gs (i,j)):=by
 obtain⟨h1,h2,h3⟩:=h;rw[hf]at h3;exact⟨h3.2.2.2.2,h1,h2,Ua h2.ok h3.2.2.1⟩
theorem zgq{w w':World}{D:Nat→Prop}{p:Nat}{sv:Value}{Gs:List Grp}{sum:Nat}{g:Nat→Bool}{B:Nat}{e:Ending}(h:Vw w D p sv Gs sum g B e w')(hf:ue Gs sum g=none) :
  e=.returned (.tuple #[.pointer none,.int .i64 0,.int .i64 9])∧zb w w'∧yf w' D p sv Gs:=by
 obtain⟨h1,h2,h3⟩:=h;rw[hf]at h3;exact⟨h3,h1,h2⟩
theorem zl1{Gs:List Grp}(h:xB Gs){i j t s:Nat}(hf:vK Gs i j t s) :
  (zM (((zq Gs i).1.set j (yG (zq Gs i).1)).map (· == 128))=0∧ye (yz Gs i j (yG (zq Gs i).1) 0)=ye Gs+1) ∨
  (1≤zM (((zq Gs i).1.set j (yG (zq Gs i).1)).map (· == 128))∧ye (yz Gs i j (yG (zq Gs i).1) 0)=ye Gs):=by
 have hg:=h.at hf.hi;have h2:=UE (t:=yG (zq Gs i).1) (s:=0) hf.hi hf.tag;have n254:(t==254)=false:=by simp;have:=hf.full;omega
 rw[n254]at h2;have h3:=JC (p:=((zq Gs i).1.set j (yG (zq Gs i).1)).map (· == 128)) (by simp[hg.ctl.1]);have hlj:j<(zq Gs i).1.length:=by rw[hg.ctl.1];exact hf.hj
 by_cases hb:(zq Gs i).1.any (· == 128)=true
 ·have he:yG (zq Gs i).1=128:=by unfold yG;rw[zk hb]
  rw[he]at h2 h3 ⊢
  right
  refine⟨?_,by simpa using h2⟩;have : ¬ (zM (((zq Gs i).1.set j 128).map (· == 128))=0):=by
   intro c;rw[c]at h3;have h4:(((zq Gs i).1.set j 128).map (· == 128)).any id=false:=by simpa using h3
   rw[List.any_eq_false]at h4;have hm:(128:Nat)∈(zq Gs i).1.set j 128:=yd (i:=j) (yo hlj);exact h4 true (zI.2 ⟨128,hm,rfl⟩) rfl
  omega
 ·have he:yG (zq Gs i).1=254:=by unfold yG;rw[zh hb]
  rw[he]at h2 h3 ⊢
  left
  refine⟨?_,by simpa using h2⟩;have h5:(((zq Gs i).1.set j 254).map (· == 128)).any id=false:=by
   rw[List.any_eq_false];intro x hx c;obtain⟨y,hy,rfl⟩:=zI.1 hx;rcases jS hy with h6 | rfl
   ·exact hb (List.any_eq_true.2 ⟨y,h6,by simpa using c⟩)
   ·simp at c
  rw[h5]at h3;simpa using h3
def XT(w:World)(D:Nat→Prop)(p:Nat)(sv:Value)(Gs:List Grp)(sum slot:Nat)(e:Ending)(w':World):Prop :=
 match ue Gs sum (fun x=>x==slot)with
 | some x=>e=.returned (.int .i64 0)∧yf w' D p sv (yz Gs x.1 x.2 (yG (zq Gs x.1).1) 0)∧Mod D w w'
 | none=>e=.returned (.int .i64 9)∧yf w' D p sv Gs∧Mod D w w'
theorem ziQ{w:World}{D:Nat→Prop}{p:Nat}{sv:Value}{Gs:List Grp}(h:yf w D p sv Gs)(sum slot:Nat)(hsum:sum<18446744073709551616)(hslot:slot≤4294967295) :
  Calls prog 241 #[.pointer (some ⟨p,0,none⟩),.int .u64 sum,.int .u32 slot] w (XT w D p sv Gs sum slot):=by
 have hlp:p<w.heap.size:=zl h.box;obtain⟨B,c,rfl,hc,hB,hDB,hBf,hcells⟩:=h.at;have hp1:zb w (w.alloc (.cells #[.int .u32 slot] 114)):=(Mod.refl _ w).alloc _;have hix:=h.pure hp1;have hbx:=zi (w:=w) (o:=(.cells #[.int .u32 slot] 114 (0,0))) rfl;go_enter func241,ntmps241;go_upto_region 1 with fail
 generalize w.alloc (.cells #[.int .u32 slot] 114)=W1 at *;have hwb:w.heap.size<W1.heap.size:=zl hbx;generalize w.heap.size=b at *;have HF:=za (zj7 hix sum hsum (zeE (enters_of func290 (by kernel_rfl) rfl) hwb hbx (fun W s hs hW=>zeh (x:=slot) hW s hs hslot)) rfl);have zp:=hix.box;have HZ:=za (fun(hW:W1.cell? ⟨p,0,none⟩=_)=>ZX (w:=W1) (c:=c) (a:=some ⟨B,0,none⟩) hW h.ok.pow.pos h.ok.pow.le);clear hcells hBf hbx;obtain⟨zp_0,zp_1,zp_2,zp_f,zp_l,H_zp⟩:=cr3 zp;clear zp;go_upto_region 3 with(go_at_call 256;refine(HZ.out zp_0).mono ?_;rintro e w' ⟨rfl,rfl⟩)
 rcases hfm:ue Gs sum (fun x=>x==slot)with _ | ⟨i,j⟩
 ·go_wp2_with (go_at_call 279;refine HF.out.mono ?_;rintro e w2 hfp;obtain⟨rfl,hpu,hix2⟩:=zgq hfp hfm;clear hfp)
  go_ret;unfold XT;rw[hfm];exact⟨rfl,hix2,.of_pure (hp1.trans hpu)⟩
 ·go_upto_region 6 with(go_at_call 279;refine HF.out.mono ?_;rintro e w2 hfp;obtain⟨rfl,hpu,hix2,hfull⟩:=zkf hfp hfm;clear hfp)
  have HM:=za hfm;have HI:=za hix2;have HP:=za (hp1.trans hpu);have HFL:=za hfull;clear hfm hix hp1 hpu HF HZ;clear zp_0 zp_1 zp_2 zp_f zp_l;clear H_zp;have hi:=hfull.hi;have hj:=hfull.hj;obtain⟨B3,c3,hsv3,_,hB3,hDB3,hBf3,hcells3⟩:=hix2.at
  cases hsv3
  have zg:=(hcells3 i hi).1;have hg:=hix2.ok.at hi;have HE:=za (fun W=>zj1 hg.ctl j _ W hfull.tag hfull.full);have x0:(0:Int)≤j:=by omega
  have x1:(j:Int)<8:=by omega
  clear hcells3 hix2 hfull;go_upto_region 7 with(go_at_call 291;refine(HE.out _).mono ?_;rintro e w3 ⟨rfl,rfl⟩)
  have hbytes:vp ((zq Gs i).1.set j (yG (zq Gs i).1)):=(hg.put (j:=j) (t:=yG (zq Gs i).1) (s:=0) (.inr (Vs _)) (by omega)).ctl.bytes;have HEm:=za (fun W=>Xm hbytes W);have HLaw:=za (zl1 HI.out.ok HFL.out);have HUs:=za (Jv HI.out.ok HFL.out).1;obtain⟨z,hz⟩:=zc (zC ((zq Gs i).1.set j (yG (zq Gs i).1)));obtain⟨m,hmk⟩:=zc (zM (((zq Gs i).1.set j (yG (zq Gs i).1)).map (· == 128)));rw[hz,hmk]at HEm;rw[hmk]at HLaw;rw[hz];have hm1:Mod (fun k=>k=B) w2 ((w2.setCell ⟨B,i*9,none⟩ (.int .u64 z)).drew):=(Mod.set1 B (i*9) _).drew;have hr1:((w2.setCell ⟨B,i*9,none⟩ (.int .u64 z)).drew).ownsRow 0 348 9 (.slice (some ⟨B,0,none⟩) Gs.length c) Gs.length ((Gs.flatMap yO).set (i*9) (.int .u64 z)) :=
   zy (uT HI.out.row (i*9) (.int .u64 z) (by omega)) (Mod.drew (Mod.refl (fun _=>False) _)) (fun _ _ h=>h)
  have hlen:0<Gs.length:=by omega
  obtain⟨B4,c4,hsv4,_,hB4,hc4,hf4,_⟩:=kt hr1 hlen
  cases hsv4
  have hl9:i*9+1+j<((Gs.flatMap yO).set (i*9) (.int .u64 z)).length:=by rw[hr1.1];omega
  have zs0 : ∃ u,((w2.setCell ⟨B,i*9,none⟩ (.int .u64 z)).drew).cell? ⟨B,i*9+1+j,none⟩=some u:=⟨_,hc4 _ _ (zN hl9)⟩;obtain⟨u0,zs⟩:=zs0;have HM1:=za hm1;have HR1:=za hr1;clear hc4 hl9 hm1 hr1 HE hbytes;generalize(w2.setCell ⟨B,i*9,none⟩ (.int .u64 z)).drew=W4 at *;go_upto_region 8 with fail
  have hm2:Mod (fun k=>k=B) w2 (W4.setCell ⟨B,i*9+1+j,none⟩ (.int .u32 0)):=HM1.out.trans (Mod.set1 B (i*9+1+j) _);have hr2:=uT HR1.out (i*9+1+j) (.int .u32 0) (by omega);have hpB:p≠B:=fun e=>by
   obtain⟨cc,e2⟩:=yg HI.out.row (g:=B) rfl;have:=HI.out.box;rw[e,e2]at this;cases this
  have zp:=hm2.heap hpB HI.out.box;have HM2:=za hm2;have HR2:=za hr2;clear hm2 hr2 zs hf4 HM1 HR1;generalize W4.setCell ⟨B,i*9+1+j,none⟩ (.int .u32 0)=W5 at *;have hul:=HI.out.ok.used_le;have htl:=HI.out.ok.tomb_le;obtain⟨zp_0,zp_1,zp_2,zp_f,zp_l,H_zp⟩:=cr3 zp;clear zp;obtain⟨un,hun⟩ : ∃ un,zE Gs=un+1:=⟨zE Gs-1,by have:=HUs.out;omega⟩;rw[hun]at zp_1 hul;have wu:IntKind.i64.wrap (((un+1:Nat):Int)-1)=(un:Int):=by rw[show(((un+1:Nat):Int)-1)=(un:Int) by omega];exact zt _ (by omega)
  have HUN:=za hun;clear hun;go_upto_region 9 with fail
  have hm3:Mod (fun k=>k=p) W5 (W5.setCell ⟨p,1,none⟩ (.int .i64 un)):=Mod.set1 p 1 _;have hr3:=zy HR2.out hm3 (fun g hg e=>hpB (by
   have:B=g:=by simpa[Value.ownBlock]using hg
   exact e.symm.trans this.symm))
  have zp2:=vz (j:=1) (v := .int .i64 un) H_zp.out;simp at zp2;obtain⟨B6,c6,hsv6,_,hB6,hc6,hf6,_⟩:=kt hr3 hlen
  cases hsv6
  have zg:(W5.setCell ⟨p,1,none⟩ (.int .i64 un)).cell? ⟨B,i*9,none⟩=some (.int .u64 z):=by
   refine hc6 _ _ ?_;rw[yx (by omega),yo];have:=HI.out.row.1;omega
  have HM3:=za hm3;clear hm3 hr3 hc6 hBf3;clear zp_0 zp_1 zp_2 zp_f zp_l;clear H_zp;generalize W5.setCell ⟨p,1,none⟩ (.int .i64 un)=W6 at *;obtain⟨zp2_0,zp2_1,zp2_2,zp2_f,zp2_l,H_zp2⟩:=cr3 zp2;clear zp2;have hml:m≤255:=by rw[← hmk];have:=jn (p:=((zq Gs i).1.set j (yG (zq Gs i).1)).map (· == 128)) (by simp[hg.ctl.1]);omega
  have HMK:=za hmk;have HZ:=za hz;clear hmk hz;have fin : ∀(W7:World) (t':Int),Mod (fun k=>k=p) W6 W7→W7.heap[p]? = some (.cells #[.slice (some ⟨B,0,none⟩) Gs.length c,.int .i64 un,.int .i64 t'] 325 (0,0))→t'=ye (yz Gs i j (yG (zq Gs i).1) 0)→XT w D p (.slice (some ⟨B,0,none⟩) Gs.length c) Gs sum slot (.returned (.int .i64 0)) W7:=fun W7 t' h7 hb7 ht'=>by
   unfold XT;rw[HM.out];have h1:(un:Int)=zE (yz Gs i j (yG (zq Gs i).1) 0):=by
    have e1:zE (yz Gs i j (yG (zq Gs i).1) 0)+1=zE Gs:=HUs.out;have e2:=HUN.out;omega
   obtain⟨k1,k2⟩:=ziW (n':=un) (t':=t') HI.out hi hj (.inr (Vs _)) (by omega) h1 ht' HM2.out (by rw[HZ.out];exact HR2.out) (HM3.out.trans h7) hb7;exact⟨rfl,k1,(Mod.of_pure HP.out:Mod D w w2).trans k2⟩
  have FIN:=za fin;clear fin;rcases HLaw.out with⟨hm0,htm⟩ | ⟨hm0,htm⟩
  ·subst hm0;have HTM:=za htm;clear htm HLaw HUs;obtain⟨tn,htn⟩:=zc (ye Gs);rw[htn]at zp2_2 htl;have wt:IntKind.i64.wrap ((tn:Int)+1)=(tn:Int)+1:=zt _ (by omega);have HTN:=za htn;clear htn
   go_wp2_with (go_at_call 292;refine(HEm.out _).mono ?_;rintro e w' ⟨rfl,rfl⟩)
   go_ret;refine FIN.out _ ((tn:Int)+1) (Mod.set1 p 2 _) ?_ ?_
   ·have:=vz (j:=2) (v := .int .i64 ((tn:Int)+1)) H_zp2.out;simpa using this
   ·have:=HTM.out;have:=HTN.out;omega
  ·have HTM:=za htm;clear htm HLaw HUs;have hm1:(1:Int)≤m:=by omega
   have hm2:((m:Int)==0)=false:=by simp;omega
   go_wp2_with (go_at_call 292;refine(HEm.out _).mono ?_;rintro e w' ⟨rfl,rfl⟩)
   go_ret;exact FIN.out _ (ye Gs) (Mod.refl _ _) H_zp2.out (by have:=HTM.out;omega)
end
section
open Go.RowKit Go.Shelf
attribute [local go_sem] Oper.semAt_some
def km(c:Grp):List Nat:=vJ (zM (c.1.map (fun x=>decide (x<128))))
def vx(c:Grp):List Nat:=(km c).map (fun j=>c.2.getD j 0)
def uy(H:Nat→Nat)(o:List Grp)(s:Nat):List Grp:=(vG o (H s) s).getD o
def ZT(H:Nat→Nat)(g:Nat)(Gs:List Grp):List Grp:=(Gs.flatMap vx).foldl (uy H) (xu g)
structure Uc(P:Program)(gf:Nat)(fb lb:Array Value)(H:Nat→Nat)(S:Nat→Prop)(J:World→Prop)(w:World):Prop where
 enters : ∀ args w,(callFunc gf args).run P w=.ok (.enter gf args) w
 call : ∀(s:Nat) W,s≤4294967295→S s→J W→CallsIn Fence.wide 0 P gf (fb.push (.int .u32 s)++lb) W fun e w'=>e=.returned (.int .u64 (H s))∧zb W w'
 lt : ∀ s,H s<18446744073709551616
 keep : ∀ A B,J A→Mod (fun k=>w.heap.size≤k) A B→J B
 start:J w
theorem zhx{c:Grp}(h:xY c) : ∀ s∈vx c,s≤4294967295:=by
 intro s hs;obtain⟨j,_,rfl⟩:=zI.1 hs;exact h.slot j
structure RhO(w:World)(D:Nat→Prop)(p:Nat)(sv:Value)(Gs:List Grp)(gf:Nat)(fb lb:Array Value)(J:World→Prop)(b5 b8 p2:Nat)(sv2:Value)(o:List Grp)(ls:List Nat)(W:World):Prop where
 pu:zb w W
 h5:W.heap[b5]? = some (.cells #[.func (.func gf) fb lb] 308 (0,0))
 h8:W.heap[b8]? = some (.cells #[.pointer (some ⟨p2,0,none⟩)] 200 (0,0))
 ix:yf W D p sv Gs
 out:yf W (fun k=>k=p2∨sv2.ownBlock=some k) p2 sv2 o
 j:J W
 mks : ∀ l∈ls,W.heap[l]? = some (.deferred (some []))
section
variable{w:World}{D:Nat→Prop}{p:Nat}{sv:Value}{Gs:List Grp}{gf:Nat}{fb lb:Array Value}{H:Nat→Nat}{S:Nat→Prop}{J:World→Prop}{b5 b8 p2:Nat}{sv2:Value}{o:List Grp}{ls:List Nat}
theorem RhO.pure(hs:Uc prog gf fb lb H S J w){A B:World}(h:RhO w D p sv Gs gf fb lb J b5 b8 p2 sv2 o ls A)(hq:zb A B):RhO w D p sv Gs gf fb lb J b5 b8 p2 sv2 o ls B :=
 ⟨h.pu.trans hq,hq.heap (fun h=>h) h.h5,hq.heap (fun h=>h) h.h8,h.ix.pure hq,h.out.pure hq,hs.keep _ _ h.j (Mod.of_pure hq),fun l hl=>hq.heap (fun h=>h) (h.mks l hl)⟩
theorem RhO.quiet(hs:Uc prog gf fb lb H S J w){N:Nat}(hN:w.heap.size≤N)(hls : ∀ l∈ls,l<N){A B:World}(h:RhO w D p sv Gs gf fb lb J b5 b8 p2 sv2 o ls A)(hq:zx N A B):RhO w D p sv Gs gf fb lb J b5 b8 p2 sv2 o ls B :=
 ⟨hq.mod h.pu hN,hq.cells h.h5,hq.cells h.h8,h.ix.quiet hq,h.out.quiet hq,hs.keep _ _ h.j (Mod.mono hq (fun k _ hk=>by have:=hk.1;omega)),fun l hl=>Mod.heap hq (fun hk=>by have:=hk.1;have:=hls l hl;omega) (h.mks l hl)⟩
end
theorem zjz{H:Nat→Nat}{w w':World}{D:Nat→Prop}{p:Nat}{sv:Value}{o:List Grp}{s hh:Nat}{e:Ending}(hh0:H s=hh)(h:YG w D p sv o hh s e w') : ∃ z,e=.returned (.int .i64 z)∧yf w' D p sv (uy H o s)∧Mod D w w':=by
 subst hh0;unfold YG at h;unfold uy
 cases hm:vG o (H s) s with
 | none=>rw[hm]at h;exact⟨_,h.1,h.2.1,h.2.2⟩
 | some o'=>rw[hm]at h;exact⟨_,h.1,h.2.1,h.2.2⟩
structure RhI(w:World)(D:Nat→Prop)(p:Nat)(sv:Value)(Gs:List Grp)(gf:Nat)(fb lb:Array Value)(J:World→Prop)(b5 b8 p2:Nat)(sv2:Value)(o:List Grp)(ls:List Nat)(H:Nat→Nat)(q:Grp)(b11 BL m:Nat)(pre:List Nat)(W:World):Prop where
 ro:RhO w D p sv Gs gf fb lb J b5 b8 p2 sv2 ((pre.map (fun j=>q.2.getD j 0)).foldl (uy H) o) ls W
 bx:W.heap[b11]? = some (.cells #[.int .u64 (zC q.1:Nat),.int .u32 (q.2[0]?.getD 0:Nat),.int .u32 (q.2[1]?.getD 0:Nat),.int .u32 (q.2[2]?.getD 0:Nat),.int .u32 (q.2[3]?.getD 0:Nat),.int .u32 (q.2[4]?.getD 0:Nat),.int .u32 (q.2[5]?.getD 0:Nat),.int .u32 (q.2[6]?.getD 0:Nat),.int .u32 (q.2[7]?.getD 0:Nat)] 348 (0,0))
 la:qe W BL m
@[go_sem] theorem zmS (w : World) (fn : Fn) (fi ca : Array Value) : (binOp .eql 308 (.func fn fi ca) .nilFunc).run prog w=.ok (.bool false) w := by
 simp only[binOp];simp[Op.equal,Op.maxDepth,zbN w 9999 _ fn fi ca underlying308]
theorem zhF{w:World}{D:Nat→Prop}{p:Nat}{sv:Value}{Gs:List Grp}(h:yf w D p sv Gs)(g:Nat)(hg:Pow g)(hu:zE Gs≤8*g){gf:Nat}{fb lb:Array Value}{H:Nat→Nat}{S:Nat→Prop}{J:World→Prop}
    (hs:Uc prog gf fb lb H S J w) (hS : ∀ s∈Gs.flatMap vx,S s) :
    Calls prog 295 #[.pointer (some ⟨p,0,none⟩),.int .i64 g,.func (.func gf) fb lb] w (fun e w' => ∃ p2 sv2,e=.returned (.tuple #[.pointer (some ⟨p2,0,none⟩),.int .i64 0]) ∧
      yf w' (fun k=>k=p2∨sv2.ownBlock=some k) p2 sv2 (ZT H g Gs)∧zb w w'∧w.heap.size≤p2∧(∀ k,sv2.ownBlock=some k→w.heap.size≤k)∧yf w' D p sv Gs∧J w'):=by
  have hp:zb w (w.alloc (.cells #[.func (.func gf) fb lb] 308)):=(Mod.refl _ w).alloc _;have hb5:=zi (w:=w) (o:=(.cells #[.func (.func gf) fb lb] 308 (0,0))) rfl;obtain⟨B,c,rfl,hc,hB,hDB,hBf,hcells⟩:=h.at;have zp:=hp.heap (fun h=>h) h.box;have hgl:=h.ok.pow.le;have hgl1:=h.ok.pow.pos;have HZ:=za (fun(W:World) (hW:W.cell? ⟨p,0,none⟩=_)=>ZX (w:=W) (c:=c) (a:=some ⟨B,0,none⟩) hW h.ok.pow.pos h.ok.pow.le);have HN:=za (fun W=>zdt g W hg);have HX:=za h;have HS:=za hs;have HSS:=za hS;have HP:=za hp;clear hcells h hBf hp hs hS
  (refine(yy (n:=0)).1 (callsIn_of_wp_marks func295 rfl trivial (vQ.2 ?_) rfl);simp only[ntmps295,List.size_toArray,List.length_cons,List.length_nil,Nat.reduceAdd,Nat.reduceSub,Array.replicate_succ,Array.replicate_zero,List.push_toArray,List.append_toArray,List.nil_append,List.cons_append])
  go_upto_region 1 with fail
  generalize w.alloc (.cells #[.func (.func gf) fb lb] 308)=W1 at *;obtain⟨b5,hb5e⟩:=zc w.heap.size;rw[hb5e]at hb5 ⊢;obtain⟨zp_0,zp_1,zp_2,zp_f,zp_l,H_zp⟩:=cr3 zp;clear zp;go_upto_region 3 with(go_at_call 256;refine(HZ.out _ zp_0).mono ?_;rintro e w' ⟨rfl,rfl⟩)
  go_upto_region 4 with(go_at_call 223;refine(HN.out _).mono ?_;rintro e w2 ⟨p2,sv2,rfl,hix2,hp2,hl2,hs2⟩)
  have hp3:zb w2 (w2.alloc (.cells #[.pointer (some ⟨p2,0,none⟩)] 200)):=(Mod.refl _ w2).alloc _;have z8:=zi (w:=w2) (o:=(.cells #[.pointer (some ⟨p2,0,none⟩)] 200 (0,0))) rfl;have hb8:w.heap.size≤w2.heap.size:=zH HP.out.size hp2.size;have z5:=(hp2.trans hp3).heap (fun h=>h) hb5;have zp2:=(hp2.trans hp3).heap (fun h=>h) H_zp.out;have HO:=za (RhO.mk (J:=J) (ls:=[]) ((HP.out.trans hp2).trans hp3) z5 z8 (HX.out.pure ((HP.out.trans hp2).trans hp3)) (hix2.pure hp3) (HS.out.keep _ _ HS.out.start (Mod.of_pure ((HP.out.trans hp2).trans hp3))) (by simp));have hw1:w.heap.size≤W1.heap.size:=HP.out.size;have hlp2:w.heap.size≤p2:=zH hw1 hl2;have hls2 : ∀ k,sv2.ownBlock=some k→w.heap.size≤k:=fun k hk=>zH hw1 (hs2 k hk)
  have HL2:=za hls2;clear zp_0 zp_1 zp_2 zp_f zp_l;clear H_zp HZ HN hix2 hp2 hp3 hb5 hl2 hs2 hls2 HP;generalize w2.alloc (.cells #[.pointer (some ⟨p2,0,none⟩)] 200)=W3 at *;obtain⟨b8,hb8e⟩:=zc w2.heap.size;rw[hb8e]at HO z8 hb8 ⊢;clear hb8e hw1;have hgu:g≤1048576:=hg.le;have w8:IntKind.i64.wrap ((g:Int)*8)=(g:Int)*8:=zt _ (by omega);have hu':(zE Gs:Int)≤(g:Int)*8:=by omega
  have wg:IntKind.i64.wrap (Gs.length:Int)=Gs.length:=zt _ (by omega);obtain⟨z5_0,z5_f,z5_l,H_z5⟩:=cr1 z5;clear z5;obtain⟨z8_0,z8_f,z8_l,H_z8⟩:=cr1 z8;clear z8;obtain⟨zp2_0,zp2_1,zp2_2,zp2_f,zp2_l,H_zp2⟩:=cr3 zp2;clear zp2;go_upto_region 11 with fail
  refine wp_loop (fun a' wr => ∃(i:Nat) (ls:List Nat) (u11 u12 u41 u42 u43 u44 u45 u46 u47 u48 u49 u50 u51 u52 u53 u54 u55 u56 u57 u58 u59 u60 u61:Value),i≤Gs.length∧RhO w D p (.slice (some ⟨B,0,none⟩) Gs.length c) Gs gf fb lb J b5 b8 p2 sv2 (((Gs.take i).flatMap vx).foldl (uy H) (xu g)) ls wr∧ls.Nodup∧(∀ l∈ls,w.heap.size≤l)∧a' = {tmps:=#[.pointer (some ⟨p,0,none⟩),.int .i64 g,.func (.func gf) fb lb,undef,undef,.pointer (some ⟨b5,0,none⟩),.pointer none,.int .i64 0,.pointer (some ⟨b8,0,none⟩),.int .i64 0,undef,u11,u12,.pointer (some ⟨p,0,none⟩),.bool false,.tuple #[.pointer (some ⟨p2,0,none⟩),.int .i64 0],.int .i64 g,.tuple #[.pointer (some ⟨p2,0,none⟩),.int .i64 0],.pointer (some ⟨p2,0,none⟩),.int .i64 0,.bool false,.int .i64 0,.bool false,undef,.bool false,.func (.func gf) fb lb,.bool false,.bool (decide ((g:Int)*8<(zE Gs:Int))),.pointer (some ⟨p,0,none⟩),.pointer (some ⟨p,0,none⟩),.pointer (some ⟨p,1,none⟩),.int .i64 (zE Gs),.int .i64 g,.int .i64 ((g:Int)*8),.bool (decide ((g:Int)*8<(zE Gs:Int))),.pointer (some ⟨p,0,none⟩),.pointer (some ⟨p,0,none⟩),.pointer (some ⟨p,0,none⟩),.slice (some ⟨B,0,none⟩) Gs.length c,.int .i64 Gs.length,.int .i64 (i:Nat),u41,u42,u43,u44,u45,u46,u47,u48,u49,u50,u51,u52,u53,u54,u55,u56,u57,u58,u59,u60,u61,undef],defers:=zcn ls}) (fun a' _=>Gs.length-(intOf (a'.tmps.getD 40 undef)).toNat) ?_ ?_
  · refine⟨0,[],undef,undef,undef,undef,undef,undef,undef,undef,undef,undef,undef,undef,undef,undef,undef,undef,undef,undef,undef,undef,undef,undef,undef,yh _,?_,jv,by simp,rfl⟩
    simpa using HO.out
  · rintro a' wr ⟨i,ls,u11,u12,u41,u42,u43,u44,u45,u46,u47,u48,u49,u50,u51,u52,u53,u54,u55,u56,u57,u58,u59,u60,u61,hi,hro,hnd,hlsw,rfl⟩
    have HR:=za hro;have HND:=za hnd;have HLW:=za hlsw;clear z5_0 z5_f z5_l;clear z8_0 z8_f z8_l;clear zp2_0 zp2_1 zp2_2 zp2_f zp2_l;clear H_z5 H_z8 H_zp2 hro hnd hlsw HO;by_cases hlt:i<Gs.length
    · have hlt':(i:Int)<(Gs.length:Int):=by omega
      obtain⟨B3,c3,hsv3,_,hB3,hDB3,hBf3,hcells3⟩:=HR.out.ix.at
      cases hsv3
      obtain⟨zg,zsl⟩:=hcells3 i hlt;have z0:=zsl 0 (by omega);have z1:=zsl 1 (by omega);have z2:=zsl 2 (by omega);have z3:=zsl 3 (by omega);have z4:=zsl 4 (by omega);have z5:=zsl 5 (by omega);have z6:=zsl 6 (by omega);have z7:=zsl 7 (by omega);have HG:=za (HR.out.ix.ok.at hlt);clear hcells3 zsl;obtain⟨q,hq⟩:=zc (zq Gs i);rw[hq]at zg z0 z1 z2 z3 z4 z5 z6 z7 HG;have HGG:=za hq;clear hq;go_upto_region 13 with fail
      have hp7:zb wr (wr.alloc (.cells #[.int .u64 (zC q.1:Nat),.int .u32 (q.2[0]?.getD 0:Nat),.int .u32 (q.2[1]?.getD 0:Nat),.int .u32 (q.2[2]?.getD 0:Nat),.int .u32 (q.2[3]?.getD 0:Nat),.int .u32 (q.2[4]?.getD 0:Nat),.int .u32 (q.2[5]?.getD 0:Nat),.int .u32 (q.2[6]?.getD 0:Nat),.int .u32 (q.2[7]?.getD 0:Nat)] 348)):=(Mod.refl _ wr).alloc _;have h7:=zi (w:=wr) (o := .cells #[.int .u64 (zC q.1:Nat),.int .u32 (q.2[0]?.getD 0:Nat),.int .u32 (q.2[1]?.getD 0:Nat),.int .u32 (q.2[2]?.getD 0:Nat),.int .u32 (q.2[3]?.getD 0:Nat),.int .u32 (q.2[4]?.getD 0:Nat),.int .u32 (q.2[5]?.getD 0:Nat),.int .u32 (q.2[6]?.getD 0:Nat),.int .u32 (q.2[7]?.getD 0:Nat)] 348 (0,0)) rfl;have HFU:=za (fun W=>JR HG.out.ctl.bytes W);obtain⟨m,hm⟩:=zc (zM (q.1.map (fun x=>decide (x<128))));rw[hm]at HFU;have hml:m<256:=by rw[← hm];exact jn (by rw[yt];exact HG.out.ctl.1)
      have HLA:=za (fun W=>zcz m W);have HM:=za hm;have HR7:=za (HR.out.pure HS.out hp7);have hn11 : ∀ k,(k=p2∨sv2.ownBlock=some k)→k≠wr.heap.size:=by
        rintro k (rfl | hk) e
        · have:=zl HR.out.out.box;omega
        · obtain⟨_,e2⟩:=yg HR.out.out.row hk
          have:=zl e2;omega
      have HN11:=za hn11;have hlsr : ∀ l∈ls,l<wr.heap.size:=fun l hl=>(uY.1 (HR.out.mks l hl)).1
      have hs7:wr.heap.size<(wr.alloc (.cells #[.int .u64 (zC q.1:Nat),.int .u32 (q.2[0]?.getD 0:Nat),.int .u32 (q.2[1]?.getD 0:Nat),.int .u32 (q.2[2]?.getD 0:Nat),.int .u32 (q.2[3]?.getD 0:Nat),.int .u32 (q.2[4]?.getD 0:Nat),.int .u32 (q.2[5]?.getD 0:Nat),.int .u32 (q.2[6]?.getD 0:Nat),.int .u32 (q.2[7]?.getD 0:Nat)] 348)).heap.size:=zl h7;have HLSR:=za hlsr;clear z0 z1 z2 z3 z4 z5 z6 z7 zg hp7 hm hn11 hlsr hBf3;generalize wr.alloc (.cells #[.int .u64 (zC q.1:Nat),.int .u32 (q.2[0]?.getD 0:Nat),.int .u32 (q.2[1]?.getD 0:Nat),.int .u32 (q.2[2]?.getD 0:Nat),.int .u32 (q.2[3]?.getD 0:Nat),.int .u32 (q.2[4]?.getD 0:Nat),.int .u32 (q.2[5]?.getD 0:Nat),.int .u32 (q.2[6]?.getD 0:Nat),.int .u32 (q.2[7]?.getD 0:Nat)] 348)=W7 at *;obtain⟨b11,hb11⟩:=zc wr.heap.size;rw[hb11]at h7 hs7 HN11 HLSR ⊢;clear hb11;have H7:=za h7;obtain⟨h7_0,h7_1,h7_2,h7_3,h7_4,h7_5,h7_6,h7_7,h7_8,h7_f,h7_l,H_h7⟩:=cr9 h7;clear h7
      go_wp2_with (first
        | (go_at_call 336;refine(HFU.out _).mono ?_;rintro e w' ⟨rfl,rfl⟩)
        | (go_at_call 327;refine(HLA.out _).mono ?_;rintro e w4 ⟨BL,rfl,hla,hp4,hBL⟩))
      have hb11w:b11<w4.heap.size:=x9 hs7 hp4.size;have hw4:w.heap.size≤w4.heap.size:=zH HR7.out.pu.size hp4.size;have HI0:Hid (RhI w D p (.slice (some ⟨B,0,none⟩) Gs.length c) Gs gf fb lb J b5 b8 p2 sv2 (((Gs.take i).flatMap vx).foldl (uy H) (xu g)) ls H q b11 BL m [] w4):=⟨HR7.out.pure HS.out hp4,hp4.heap (fun h=>h) H_h7.out,hla⟩;have hBlt:BL<w4.heap.size:=zl hla.set;have HLA4:=za hla;clear h7_0 h7_1 h7_2 h7_3 h7_4 h7_5 h7_6 h7_7 h7_8 h7_f h7_l;clear H_h7 H7 hp4 hla HR7 HFU HLA;refine vQ.1 (Z5 (gf:=363) (lb:=#[.pointer (some ⟨BL,0,none⟩)]) rfl (enters_of func363 (by kernel_rfl) rfl) (It:=fun k=>k=BL) (Qr HLA4.out hml) (fun k hk=>by rw[hk];exact hBlt) (fun _=>rfl)
        (fun pre W=>RhI w D p (.slice (some ⟨B,0,none⟩) Gs.length c) Gs gf fb lb J b5 b8 p2 sv2 (((Gs.take i).flatMap vx).foldl (uy H) (xu g)) ls H q b11 BL m pre W) (fun _ _ _=>False) ?hI ?hIx HI0.out ?round ?done ?stop)
      case hI=>exact fun pre X Y h hq=>⟨h.ro.quiet HS.out hw4 (fun l hl=>by have:=HLSR.out l hl;omega) hq,hq.cells h.bx,⟨hq.cells h.la.set⟩⟩
      case hIx=>exact fun _ _ _ _ h _=>h
      case stop=>exact fun _ _ _ _ _ h=>h.elim
      case done =>
        rintro l xs W hl hSx hI hK;have hxs:xs=vJ m:=hSx;have HIx:=za hI;have HKx:=za hK;clear hI hK HI0 HLA4;go_wp2;refine⟨⟨i+1,l::ls,_,_,_,_,_,_,_,_,_,_,_,_,_,_,_,_,_,_,_,_,_,_,_,hlt,?_,xe.2 ⟨fun h => ?_,HND.out⟩,fun l' hl' => ?_,rfl⟩,?_⟩
        · have e1:(Gs.take (i+1)).flatMap vx=(Gs.take i).flatMap vx++vx q:=by
            rw[ua,uf hlt,HGG.out];simp
          have e2:vx q=xs.map (fun j=>q.2.getD j 0):=by unfold vx km;rw[HM.out,hxs]
          rw[e1,YQ,e2];have:=HIx.out.ro;exact⟨this.pu,this.h5,this.h8,this.ix,this.out,this.j,fun l' hl'=>by
            rcases yu.1 hl' with rfl | h
            · exact HKx.out
            · exact this.mks l' h⟩
        · have:=HLSR.out l h;omega
        · rcases yu.1 hl' with rfl | h
          · omega
          · exact HLW.out l' h
        · simp[intOf];omega
      case round =>
        rintro l pre j W K hI hGx hK;obtain⟨post,hpost⟩:=hGx;dsimp only[qP];have hjm:j∈km q:=by
          unfold km;rw[HM.out,hpost];simp
        have hj8:j<8:=by
          have:=hjm;unfold km vJ at this;exact Z7.1 (qT.1 this).1
        have HI:=za hI;have HK:=za hK;have HJM:=za hjm;clear hI hK HI0 HLA4 hpost hjm;gi_wp2;refine HK.out _ _ (Mod.refl _ _) (fun l' W2 hl hr hq => ?_);have HI2:Hid (RhI w D p (.slice (some ⟨B,0,none⟩) Gs.length c) Gs gf fb lb J b5 b8 p2 sv2 (((Gs.take i).flatMap vx).foldl (uy H) (xu g)) ls H q b11 BL m pre W2):=⟨HI.out.ro.quiet HS.out hw4 (fun l hl=>by have:=HLSR.out l hl;omega) hq,hq.cells HI.out.bx,⟨hq.cells HI.out.la.set⟩⟩;clear HK HI hq hr;gi_upto_region 15 with fail
        obtain⟨sl,hsl⟩:=zc (q.2.getD j 0);have hsl1:sl≤4294967295:=by rw[← hsl];exact HG.out.slot j
        have hsl2:S sl:=by
          refine HSS.out sl (ZG.2 ⟨q,?_,?_⟩)
          · rw[← HGG.out];exact yd (uf hlt)
          · rw[← hsl];exact zI.2 ⟨j,HJM.out,rfl⟩
        have c8:=zf W2 b8 0 _ _ _ HI2.out.ro.h8;have c5:=zf W2 b5 0 _ _ _ HI2.out.ro.h5;have c11:W2.cell? ⟨b11,1+j,none⟩=some (.int .u32 sl):=by
          have hv:(#[.int .u64 (zC q.1:Nat),.int .u32 (q.2[0]?.getD 0:Nat),.int .u32 (q.2[1]?.getD 0:Nat),.int .u32 (q.2[2]?.getD 0:Nat),.int .u32 (q.2[3]?.getD 0:Nat),.int .u32 (q.2[4]?.getD 0:Nat),.int .u32 (q.2[5]?.getD 0:Nat),.int .u32 (q.2[6]?.getD 0:Nat),.int .u32 (q.2[7]?.getD 0:Nat)]:Array Value)[1+j]? = some (.int .u32 (q.2.getD j 0:Nat)):=by
            have:j=0∨j=1∨j=2∨j=3∨j=4∨j=5∨j=6∨j=7:=by omega
            rcases this with rfl | rfl | rfl | rfl | rfl | rfl | rfl | rfl<;>rfl
          rw[hsl]at hv;have:=World.news_of_block HI2.out.bx (1+j) (.int .u32 sl) (by rw[YA];exact hv);simpa[Addr.add]using this
        simp at c8 c5;have x0:(0:Int)≤j:=by omega
        have x1:(j:Int)<8:=by omega
        refine Ve (fun X=>X.cell? ⟨b8,0,none⟩=some (.pointer (some ⟨p2,0,none⟩))∧X.cell? ⟨b5,0,none⟩=some (.func (.func gf) fb lb)∧X.cell? ⟨b11,1+j,none⟩=some (.int .u32 sl)) (by kernel_rfl) (by kernel_rfl) ?hL ⟨c8,c5,c11⟩ (fun h_ => ?_)
        case hL=>rintro⟨a,w,h⟩;exact h
        refine hTk 2 ?_;refine hTk 3 ?_;refine hTk 4 ?_;refine hTk 7 ?_;refine hTk 8 ?_;refine hTk 9 ?_;refine hLd 0 ?_;refine hLd 1 ?_;refine hLd 5 ?_;refine hLd 10 ?_;have hen:=HS.out.enters;have hcall:=za (yy.1 (HS.out.call sl W2.drew hsl1 hsl2 (HS.out.keep _ _ HI2.out.ro.j (Mod.drew (Mod.refl _ W2)))));obtain⟨hh,hhe⟩:=zc (H sl);have hhl:hh<18446744073709551616:=by rw[← hhe];exact HS.out.lt sl
        rw[hhe]at hcall
        (refine hSt 6 (fun K hK => ?_);go_simp;refine zm hcall.out ?_;rintro e X1 ⟨rfl,hp1⟩;refine hK.out _ _ ?_ (fun h_ => ?_);(· exact⟨hp1.cell (fun h=>h) c8,hp1.cell (fun h=>h) c5,hp1.cell (fun h=>h) c11⟩);clear hK K)
        have hpx:zb W2 X1:=Mod.of_drew hp1;have hrx:=HI2.out.ro.pure HS.out hpx;have HIN:=za (zbF hrx.out hh sl hhl hsl1);have d2 : ∀ k cs T,W2.heap[k]? = some (.cells cs T (0,0))→T≠325→T≠348 → ¬ (k=p2∨sv2.ownBlock=some k):=by
          rintro k cs T hk t1 t2 (rfl | e)
          · have:=HI2.out.ro.out.box;rw[hk]at this;cases this;exact t1 rfl
          · obtain⟨cc,e2⟩:=yg HI2.out.ro.out.row e
            rw[hk]at e2;cases e2;exact t2 rfl
        have n8:=d2 _ _ _ HI2.out.ro.h8 (by decide) (by decide);have n5:=d2 _ _ _ HI2.out.ro.h5 (by decide) (by decide);have nL:=d2 _ _ _ HI2.out.la.set (by decide) (by decide);have n11 : ¬ (b11=p2∨sv2.ownBlock=some b11):=fun e=>HN11.out b11 e rfl
        have HD2:=za d2;have HRX:=za hrx;have HPX:=za hpx;clear d2 hrx hpx
        (refine hSt 11 (fun K hK => ?_);go_simp;refine HIN.out.mono ?_;rintro e X2 hq;obtain⟨z,rfl,hix2,hm2⟩:=zjz (H:=H) hhe hq;clear hq;refine hK.out _ _ ?_ (fun h_ => ?_);(· exact⟨hm2.cell n8 (hp1.cell (fun h=>h) c8),hm2.cell n5 (hp1.cell (fun h=>h) c5),hm2.cell n11 (hp1.cell (fun h=>h) c11)⟩);clear hK K)
        refine hDn ?_;have hm02:Mod (fun k=>k=p2∨sv2.ownBlock=some k) W2 X2:=(Mod.of_pure HPX.out:Mod (fun k=>k=p2∨sv2.ownBlock=some k) W2 X1).trans hm2;refine⟨xd.of_mod hm02 (fun k _ hk o ho => ?_),⟨hm02.size,?_⟩,?_⟩
        · rcases hk with rfl | e
          · rw[HI2.out.ro.out.box]at ho;cases ho;rfl
          · obtain⟨cc,e2⟩:=yg HI2.out.ro.out.row e
            rw[e2]at ho;cases ho;rfl
        · rintro k rfl hk
          exact hm02.block _ hk nL
        · have hd2w : ∀ k,(k=p2∨sv2.ownBlock=some k)→w.heap.size≤k:=by
            rintro k (rfl | e)
            · exact hlp2
            · exact HL2.out k e
          have hDw : ∀ k,D k→k<w.heap.size:=by
            intro k hk;rcases(HX.out.dd k).1 hk with rfl | e
            · exact zl HX.out.box
            · obtain⟨cc,e2⟩:=yg HX.out.row e
              exact zl e2
          refine⟨⟨HI2.out.ro.pu.then hm02 (fun k hk hd=>by have:=hd2w k hd;omega),hm02.heap n5 HI2.out.ro.h5,hm02.heap n8 HI2.out.ro.h8,HI2.out.ro.ix.mod hm02 (fun k hk hd=>by have:=hd2w k hd;have:=hDw k hk;omega),?_,HS.out.keep _ _ HI2.out.ro.j (Mod.mono hm02 (fun k _ hd=>hd2w k hd)),fun l hl=>hm02.heap ?_ (HI2.out.ro.mks l hl)⟩,hm02.heap n11 HI2.out.bx,⟨hm02.heap nL HI2.out.la.set⟩⟩
          · rw[xK,YQ,Zh,hsl]
            exact hix2
          · rintro(e | e)
            · have:=HI2.out.ro.mks l hl;rw[e,HI2.out.ro.out.box]at this;cases this
            · obtain⟨cc,e2⟩:=yg HI2.out.ro.out.row e
              have:=HI2.out.ro.mks l hl;rw[e2]at this;cases this
    · have hlt':(Gs.length:Int)≤(i:Int):=by omega
      have e:Gs.length=i:=by omega
      subst e;have z8:=HR.out.h8;obtain⟨z8_0,z8_f,z8_l,H_z8⟩:=cr1 z8;clear z8;go_wp2;refine zbH (N:=w.heap.size) (v := .tuple #[.pointer (some ⟨p2,0,none⟩),.int .i64 0]) HR.out.mks HND.out HLW.out (fun W'=>by simp[results,results295,go_sem]) (fun W' hq => ?_);have hf:(Gs.take Gs.length)=Gs:=List.take_length;have hout:=HR.out.out;rw[hf]at hout;exact⟨p2,sv2,rfl,hout.quiet hq,hq.mod HR.out.pu (zG _),hlp2,HL2.out,HR.out.ix.quiet hq,HS.out.keep _ _ HR.out.j (Mod.mono hq (fun k _ hk=>hk.1))⟩
end
section
open Go.RowKit Go.Shelf
theorem zgS : ∀ a b c d e f g i:Bool,(vJ (zM [a,b,c,d,e,f,g,i])).length=[a,b,c,d,e,f,g,i].countP id:=by decide +kernel
theorem zgo{c:Grp}(h:xY c):(km c).length=c.1.countP (· < 128):=by
 obtain⟨x0,x1,x2,x3,x4,x5,x6,x7,e⟩:=jD h.ctl.1;unfold km;rw[e];simp only[List.map_cons,List.map_nil];rw[zgS];simp only[List.countP_cons,List.countP_nil,id]
theorem zdr{Gs:List Grp}(h:xB Gs):(Gs.flatMap vx).length=zE Gs:=by
 unfold zE;rw[List.length_flatMap]
 congr 1
 refine uc (fun c hc => ?_);unfold vx;rw[yt,zgo (h.grp c hc)]
theorem Azxkf {P:Prop}(h:P:=by
 unfold km;rw[Jz (by simp[hc.ctl.1])];simp only[List.mem_filter,List.mem_range,List.getD_eq_getElem?_getD,List.getElem?_map]
 cases c.1[j]? <;> simp):P:=h
theorem ziR{c:Grp}(hc:xY c)(j:Nat):j∈km c↔j<8 ∧ ∃ t,c.1[j]? = some t∧t<128:=by
 exact Azxkf
theorem zgk(c:Grp):(km c).Pairwise (· < ·):=by
 unfold km vJ;exact List.Pairwise.filter _ List.pairwise_lt_range
theorem zes{Gs:List Grp}(h:xB Gs)(s:Nat):s∈Gs.flatMap vx ↔ ∃ i j t,vK Gs i j t s:=by
 have hin : ∀ c,xY c → ∀ j,j∈km c↔j<8 ∧ ∃ t,c.1[j]? = some t∧t<128:=fun c hc j=>by
  exact Azxkf
 constructor
 ·intro hs;obtain⟨c,hc,hs⟩:=ZG.1 hs;obtain⟨j,hj,rfl⟩:=zI.1 hs;obtain⟨i,hi⟩:=ug hc;have hl:i<Gs.length:=(zF.1 hi).1;have e:zq Gs i=c:=by have:=uf hl;rw[hi]at this;cases this;rfl
  obtain⟨hj8,t,ht,ht2⟩:=(hin c (h.grp c hc) j).1 hj;exact⟨i,j,t,hl,hj8,by rw[e];exact ht,ht2,by unfold zT;rw[e]⟩
 ·rintro⟨i,j,t,hf⟩;refine ZG.2 ⟨zq Gs i,yd (uf hf.hi),zI.2 ⟨j,(hin _ (h.at hf.hi) j).2 ⟨hf.hj,t,hf.tag,hf.full⟩,hf.slot⟩⟩
theorem VB{Gs:List Grp}{i:Nat}(h:xB Gs)(hi:i<Gs.length){j:Nat}(hj:j∈km (zq Gs i)) : ∃ t,vK Gs i j t ((zq Gs i).2.getD j 0):=by
 obtain⟨h8,t,ht,ht2⟩:=(ziR (h.at hi) j).1 hj;exact⟨t,hi,h8,ht,ht2,rfl⟩
theorem yC.nodup{H:Nat→Nat}{S:Nat→Prop}{Gs:List Grp}(h:yC H S Gs):(Gs.flatMap vx).Nodup:=by
 unfold List.Nodup;rw[List.pairwise_flatMap];constructor
 ·intro c hc;obtain⟨i,hi⟩:=ug hc;have hl:i<Gs.length:=(zF.1 hi).1;have e:zq Gs i=c:=by have:=uf hl;rw[hi]at this;cases this;rfl
  unfold vx;rw[uO];refine(zgk c).imp_of_mem (fun {a b} ha hb hab => ?_);intro e2;rw[← e]at ha hb e2;obtain⟨t1,h1⟩:=VB h.ok hl ha;obtain⟨t2,h2⟩:=VB h.ok hl hb;have:=(h.uniq _ _ _ _ _ _ _ h1 (e2 ▸ h2)).2;omega
 ·rw[V8];intro i j hi hj hij x hx y hy e;have ei:zq Gs i=Gs[i]:=by have:=uf hi;rw[zN hi]at this;exact(qQ this).symm
  have ej:zq Gs j=Gs[j]:=by have:=uf hj;rw[zN hj]at this;exact(qQ this).symm
  obtain⟨a,ha,rfl⟩:=zI.1 hx;obtain⟨b,hb,rfl⟩:=zI.1 hy;rw[← ei]at ha e;rw[← ej]at hb e;obtain⟨t1,h1⟩:=VB h.ok hi ha;obtain⟨t2,h2⟩:=VB h.ok hj hb;have:=(h.uniq _ _ _ _ _ _ _ h1 (e ▸ h2)).1;omega
theorem zb3{H:Nat→Nat} : ∀(L:List Nat) (o:List Grp) (S:Nat→Prop),yC H S o→(∀ s∈L,s≤4294967295 ∧ ¬ S s)→L.Nodup→zE o+L.length≤8*o.length →
  yC H (fun s=>S s∨s∈L) (L.foldl (uy H) o)∧zE (L.foldl (uy H) o)=zE o+L.length∧(L.foldl (uy H) o).length=o.length∧ye (L.foldl (uy H) o)≤ye o
 | [],o,S,h,_,_,_=>⟨h.of_iff (by simp),rfl,rfl,zG _⟩
 | s::L,o,S,h,hs,hn,hr=>by
  obtain⟨hs1,hs2⟩:=hs s (by simp);obtain⟨o',ho⟩ : ∃ o',vG o (H s) s=some o':=by
   cases hc:vG o (H s) s with
   | some o'=>exact⟨o',rfl⟩
   | none =>
    have:=(zat h.ok _ _).1 hc;simp only[List.length_cons]at hr;omega
  have e:uy H o s=o':=by unfold uy;rw[ho];rfl
  obtain⟨c1,c2,c3,c4⟩:=K8 h.ok hs1 ho;have hi:=h.ins hs1 hs2 ho;simp only[List.foldl_cons,e];simp only[List.length_cons]at hr ⊢;obtain⟨k1,k2,k3,k4⟩:=zb3 L o' _ hi (fun x hx=>⟨(hs x (by simp[hx])).1,fun hx2=>by
   rcases hx2 with rfl | hx2
   ·exact(xe.1 hn).1 hx
   ·exact(hs x (by simp[hx])).2 hx2⟩) (xe.1 hn).2 (by omega)
  refine⟨k1.of_iff (fun x => ?_),by omega,by omega,by omega⟩;simp only[List.mem_cons];constructor
  ·rintro((h | h) | h)
   ·exact .inr (.inl h)
   ·exact .inl h
   ·exact .inr (.inr h)
  ·rintro(h | h | h)
   ·exact .inl (.inr h)
   ·exact .inl (.inl h)
   ·exact .inr h
theorem yC.rehash{H:Nat→Nat}{S:Nat→Prop}{Gs:List Grp}(h:yC H S Gs){g:Nat}(hg:Pow g)(hu:zE Gs≤8*g) :
  yC H S (ZT H g Gs)∧zE (ZT H g Gs)=zE Gs∧(ZT H g Gs).length=g∧ye (ZT H g Gs)=0:=by
 have hm : ∀ s,s∈Gs.flatMap vx↔S s:=fun s=>(zes h.ok s).trans (h.mem s).symm
 have hlt : ∀ s∈Gs.flatMap vx,s≤4294967295:=by
  intro s hs;obtain⟨c,hc,hs⟩:=ZG.1 hs;exact zhx (h.ok.grp c hc) s hs
 obtain⟨k1,k2,k3,k4⟩:=zb3 (Gs.flatMap vx) (xu g) (fun _=>False) (newG_holds H hg) (fun s hs=>⟨hlt s hs,fun h=>h⟩) h.nodup (by rw[zdr h.ok,VE,Vk];omega);unfold ZT;rw[VE,zdr h.ok]at k2;rw[Vk]at k3;rw[QF]at k4;exact⟨k1.of_iff (fun s=>by simp[hm]),by omega,k3,by omega⟩
theorem YC(a b:ByteArray):(a==b)=true↔a=b:=by
 cases a;cases b
 rename_i x y
 show(x==y)=true↔_
 simp
def ub(L:List (Option Ent))(s:Nat):Prop := ∃ e,L[s]? = some (some e)
def ya(seed:Nat)(same:Bool)(L:List (Option Ent))(s:Nat):Nat:=kp seed same (yI L s)
theorem Zu{L:List (Option Ent)}{s:Nat}{e:Ent}(h:L[s]? = some (some e)):yI L s=e.key:=by unfold yI;rw[h]
theorem zit(a b:ByteArray):(a.toList==b.toList)=(a==b):=by
 rw[Bool.eq_iff_iff,YC,beq_iff_eq,ByteArray.toList_eq,ByteArray.toList_eq];exact⟨fun h=>ByteArray.ext (Array.toList_inj.1 h),fun h=>by rw[h]⟩
def YH(L:List (Option Ent)):Prop := ∀(s t:Nat) (e f:Ent),L[s]? = some (some e)→L[t]? = some (some f)→e.key=f.key→s=t
def isK(key:ByteArray)(o:Option Ent):Bool:=match o with
 | some e=>e.key==key
 | none=>false
def yH(L:List (Option Ent))(key:ByteArray):Option Nat:=L.findIdx? (isK key)
theorem UR{key:ByteArray}{o:Option Ent}:isK key o=true ↔ ∃ e,o=some e∧e.key=key:=by
 cases o with
 | none=>simp[isK]
 | some e=>simp[isK,YC]
theorem UA{L:List (Option Ent)}{key:ByteArray}{s:Nat}(h:yH L key=some s) : ∃ e:Ent,L[s]? = some (some e)∧e.key=key:=by
 unfold yH at h;obtain⟨hl,hp,_⟩:=Je.1 h;obtain⟨e,he,hk⟩:=UR.1 hp;exact⟨e,by rw[zN hl,he],hk⟩
theorem zb6{L:List (Option Ent)}{key:ByteArray}(h:yH L key=none) : ∀(s:Nat) (e:Ent),L[s]? = some (some e)→e.key≠key:=by
 unfold yH at h;rw[Vm]at h;intro s e hs hk;have:=h _ (yd hs);rw[UR.2 ⟨e,rfl,hk⟩]at this
 cases this
theorem zef{L:List (Option Ent)}(hk:YH L){s:Nat}{e:Ent}(h:L[s]? = some (some e)):yH L e.key=some s:=by
 cases hf:yH L e.key with
 | none=>exact absurd rfl (zb6 hf s e h)
 | some t =>
  obtain⟨f,h1,h2⟩:=UA hf;rw[hk t s f e h1 h h2]
theorem zey{L:List (Option Ent)}{key:ByteArray}(h : ∀(s:Nat) (e:Ent),L[s]? = some (some e)→e.key≠key):yH L key=none:=by
 cases hf:yH L key with
 | none=>rfl
 | some t =>
  obtain⟨f,h1,h2⟩:=UA hf;exact absurd h2 (h t f h1)
theorem yC.congr{H H':Nat→Nat}{S:Nat→Prop}{Gs:List Grp}(h:yC H S Gs)(he : ∀ s,S s→H s=H' s):yC H' S Gs :=
 ⟨h.ok,fun i j t s hf=>by rw[← he s ((h.mem s).2 ⟨i,j,t,hf⟩)];exact h.tag i j t s hf,fun i j t s hf=>by rw[← he s ((h.mem s).2 ⟨i,j,t,hf⟩)];exact h.reach i j t s hf,h.uniq,h.mem⟩
structure vR(seed:Nat)(same:Bool)(L:List (Option Ent))(Gs:List Grp):Prop where
 holds:yC (ya seed same L) (ub L) Gs
 keys:YH L
 used:zE Gs=zV L
theorem zaI{n:Nat}:XY n<18446744073709551616:=by
 have h1:jA n<2 ^ 64:=zaJ n;exact Za h1 (jO (YP _ _) h1)
theorem Kg(seed:Nat)(same:Bool)(L:List (Option Ent))(s:Nat):ya seed same L s<18446744073709551616:=zaI
theorem zdf{H:Nat→Nat}{S:Nat→Prop}{Gs:List Grp}(h:yC H S Gs){sum:Nat}{x:Nat × Nat}(hx:x∈xG Gs sum):S (zT Gs x):=(h.mem _).2 ⟨_,_,_,Ua h.ok hx⟩
theorem vR.find{seed:Nat}{same:Bool}{L:List (Option Ent)}{Gs:List Grp}(h:vR seed same L Gs){w w':World}{D:Nat→Prop}{p:Nat}{sv:Value}{key:ByteArray}{C:TypeId→Prop}{J:List Nat→World→Prop}{e:Ending}
  (hp:J0 w D p sv Gs (kp seed same key) (fun _ s=>yI L s==key) C J e w') :
  e=.returned (.tuple (match yH L key with | some s=>#[.int .u32 s,.int .i64 0] | none=>#[.int .u32 0,.int .i64 9])):=by
 obtain⟨_,_,⟨a,x,post,h1,h2,h3,h4,h5⟩ | ⟨h1,h2,h3⟩⟩:=hp
 ·have hx:x∈xG Gs (kp seed same key):=by rw[h1];simp
  obtain⟨f,hf⟩:=zdf h.holds hx;have hk:f.key=key:=by
   have:(yI L (zT Gs x)==key)=true:=h3;rw[Zu hf]at this;exact(YC _ _).1 this
  have:=zef h.keys hf;rw[hk]at this;rw[this];exact h4
 ·have:yH L key=none:=by
   refine zey (fun s f hs hk => ?_);obtain⟨i,j,hm,hF⟩:=h.holds.find_some (s:=s) ⟨f,hs⟩;have e1:ya seed same L s=kp seed same key:=by unfold ya;rw[Zu hs,hk]
   rw[e1]at hm;unfold ue at hm;have hx:=Zo hm;have:=Vl h1 _ (zI.2 ⟨_,hx,rfl⟩);rw[hF.slot,Zu hs,hk,(YC key key).2 rfl]at this
   cases this
  rw[this];exact h2
theorem J8 : ∀ {Gs:List Grp},(∀ c∈Gs,xY c)→zE Gs+ye Gs≤8*Gs.length
 | [],_=>by simp[zE,ye]
 | c::Gs,h=>by
  have h1:=J8 (Gs:=Gs) (fun c hc=>h c (by simp[hc]));have h2 : ∀ l:List Nat,l.countP (· < 128)+l.countP (· == 254)≤l.length:=by
   intro l
   induction l with
   | nil=>simp
   | cons a l ih =>
    simp only[List.countP_cons,List.length_cons];by_cases c1:a<128
    ·have:(a==254)=false:=by simp;omega
     simp[c1,this]at *;omega
    ·by_cases c2:(a==254)=true
     ·simp[c1,c2]at *;omega
     ·simp[c1,c2]at *;omega
  have h3:=h2 c.1;rw[(h c (by simp)).ctl.1]at h3;unfold zE ye at *;simp only[List.map_cons,List.sum_cons,List.length_cons];omega
theorem Pow.dbl{g:Nat}(h:Pow g)(hlt:g<1048576):Pow (2*g):=by
 obtain⟨k,hk,rfl⟩:=h;refine⟨k+1,?_,by rw[jY];omega⟩;have:k≠20:=by rintro rfl;omega
 omega
def doG(H:Nat→Nat)(x:Nat × Bool)(Gs:List Grp):List Grp:=if x.2 then ZT H x.1 Gs else Gs
theorem zfV{Gs:List Grp}(h:xB Gs)(hl:zE Gs≤4194304) : ∃ x,jF Gs.length (zE Gs) (ye Gs)=some x∧Pow x.1∧zE Gs<8*x.1∧(x.2=false→x.1=Gs.length):=by
 have hp:=h.pow;have h0:=hp.pos;have h1:=hp.le;unfold jF;split
 ·exact⟨_,rfl,hp,by show _<8*Gs.length;omega,fun _=>rfl⟩
 ·split
  ·exact⟨_,rfl,hp,by show _<8*Gs.length;omega,by simp⟩
  ·have h2:=zdm h;split
   ·rename_i h3;exact⟨_,rfl,hp.dbl h3,by show _<8*(2*Gs.length);omega,by simp⟩
   ·have h4:Gs.length=1048576:=by omega
    rw[zk (by omega)];exact⟨_,rfl,hp,by show _<8*Gs.length;omega,by simp⟩
theorem yC.do{H:Nat→Nat}{S:Nat→Prop}{Gs:List Grp}(h:yC H S Gs){x:Nat × Bool}(hx:Pow x.1)(hu:zE Gs≤8*x.1)(hn:x.2=false→x.1=Gs.length) :
  yC H S (doG H x Gs)∧zE (doG H x Gs)=zE Gs∧(doG H x Gs).length=x.1:=by
 unfold doG
 cases hb:x.2 with
 | false=>exact⟨h,rfl,(hn hb).symm⟩
 | true =>
  obtain⟨h1,h2,h3,_⟩:=h.rehash hx hu;exact⟨h1,h2,h3⟩
def qw(H:Nat→Nat)(Gs:List Grp)(s:Nat):List Grp:=uy H (doG H ((jF Gs.length (zE Gs) (ye Gs)).getD (0,false)) Gs) s
theorem yC.put{H:Nat→Nat}{S:Nat→Prop}{Gs:List Grp}(h:yC H S Gs)(hl:zE Gs≤4194304){s:Nat}(hs:s≤4294967295)(hn : ¬ S s) :
  ∃ x,jF Gs.length (zE Gs) (ye Gs)=some x∧Pow x.1∧zE Gs≤8*x.1∧(x.2=false→x.1=Gs.length)∧yC H S (doG H x Gs)∧vG (doG H x Gs) (H s) s=some (qw H Gs s) ∧
   yC H (fun y=>y=s∨S y) (qw H Gs s)∧zE (qw H Gs s)=zE Gs+1:=by
 obtain⟨x,h1,h2,h3,h4⟩:=zfV h.ok hl;obtain⟨k1,k2,k3⟩:=h.do h2 (Zq h3) h4;have hm : ∃ o,vG (doG H x Gs) (H s) s=some o:=by
  cases e:vG (doG H x Gs) (H s) s with
  | some o=>exact⟨o,rfl⟩
  | none =>
   have:=(zat k1.ok _ _).1 e;rw[k2,k3]at this;omega
 obtain⟨o,ho⟩:=hm;have e:qw H Gs s=o:=by
  unfold qw uy;rw[h1];simp[ho]
 rw[e];refine⟨x,h1,h2,Zq h3,h4,k1,ho,k1.ins hs hn ho,?_⟩;rw[(K8 k1.ok hs ho).1,k2]
theorem zh5(L:List (Option Ent))(o:Option Ent){s:Nat}(h:s<L.length):yI (L++[o]) s=yI L s:=by
 unfold yI;rw[ur h]
theorem Uk{L:List (Option Ent)}{s:Nat}(h:ub L s):s<L.length:=by
 obtain⟨e,h⟩:=h;exact(zF.1 h).1
theorem zlb(L:List (Option Ent))(x:Ent)(s:Nat):ub (L++[some x]) s↔s=L.length∨ub L s:=by
 constructor
 ·rintro⟨e,h⟩;rcases qU s L.length with hl | hl | hl
  ·rw[ur hl]at h;exact .inr ⟨e,h⟩
  ·exact .inl hl
  ·rw[xN (by simp;omega)]at h;cases h
 ·rintro(rfl | h)
  ·exact⟨x,by simp⟩
  ·obtain⟨e,he⟩:=id h;exact⟨e,by rw[ur (Uk h)];exact he⟩
theorem zd0{L:List (Option Ent)}(h:YH L){x:Ent}(hx:yH L x.key=none):YH (L++[some x]):=by
 have hn:=zb6 hx;have hc : ∀ s e,(L++[some x])[s]? = some (some e)→(s<L.length∧L[s]? = some (some e))∨(s=L.length∧e=x):=by
  intro s e hs;rcases qU s L.length with hl | hl | hl
  ·rw[ur hl]at hs;exact .inl ⟨hl,hs⟩
  ·subst hl;simp at hs;exact .inr ⟨rfl,hs.symm⟩
  ·rw[xN (by simp;omega)]at hs;cases hs
 intro s t e f hs ht hk;rcases hc s e hs with⟨h1,h2⟩ | ⟨h1,h2⟩<;>rcases hc t f ht with⟨h3,h4⟩ | ⟨h3,h4⟩
 ·exact h s t e f h2 h4 hk
 ·subst h4;exact absurd hk (hn s e h2)
 ·subst h2;exact absurd hk.symm (hn t f h4)
 ·omega
theorem ziS(L:List (Option Ent))(x:Ent):zV (L++[some x])=zV L+1:=by unfold zV;simp
theorem J3(L:List (Option Ent)):zV L≤L.length:=Uq
theorem vR.insert{seed:Nat}{same:Bool}{L:List (Option Ent)}{Gs:List Grp}(h:vR seed same L Gs){x:Ent}(hx:yH L x.key=none)(hl:L.length≤4194304) :
  yC (ya seed same (L++[some x])) (ub L) Gs∧vR seed same (L++[some x]) (qw (ya seed same (L++[some x])) Gs L.length):=by
 have h1:yC (ya seed same (L++[some x])) (ub L) Gs:=h.holds.congr (fun s hs=>by unfold ya;rw[zh5 _ _ (Uk hs)]);have h0:=J3 L;obtain⟨y,k1,k2,k3,k4,k5,k6,k7,k8⟩:=h1.put (by rw[h.used];omega) (s:=L.length) (by omega) (fun c=>by have:=Uk c;omega);exact⟨h1,k7.of_iff (fun s=>(zlb L x s).symm),zd0 h.keys hx,by rw[k8,h.used,ziS]⟩
theorem vR.new(seed:Nat)(same:Bool):vR seed same [] (xu 1) :=
 ⟨(newG_holds _ ⟨0,by decide,rfl⟩).of_iff (fun s=>⟨fun h=>h.elim,fun⟨e,h⟩=>by simp at h⟩),fun s t e f h=>by simp at h,by rw[VE];rfl⟩
end
section
open Go.RowKit Go.Shelf
variable{Fo:Nat→Prop}
theorem Azir1 {P:Prop}(h:P:=by
 generalize w.heap.size=b at *;obtain⟨hb_0,hb_1,hb_f,hb_l,H_hb⟩:=cr2 hb;clear hb
 go_wp2_with (first
   | (go_at_call 281;refine(HF.out _).mono ?_;rintro e w' ⟨rfl,rfl⟩)
   | (go_at_call 280;refine(HM.out _).mono ?_;rintro e w' ⟨rfl,rfl⟩))
 go_ret;exact⟨rfl,HP.out⟩):P:=h
theorem zaA(seed:Nat)(same:Bool)(hs:seed<18446744073709551616)(key:ByteArray)(hk:key.size≤140737488355328)(w:World) :
    Calls prog 230 #[.agg #[.int .u64 seed,.bool same],.string key] w fun e w'=>e=.returned (.int .u64 (kp seed same key:Nat))∧zb w w':=by
  have hp:zb w (w.alloc (.cells #[.int .u64 seed,.bool same] 192)):=(Mod.refl _ w).alloc _;have hb:=zi (w:=w) (o:=(.cells #[.int .u64 seed,.bool same] 192 (0,0))) rfl;have HP:=za hp;obtain⟨res,hres⟩:=zc (kp seed same key);rw[hres];unfold kp at hres;have HR:=za hres;clear hp hres
  cases same with
  | true =>
    have hr:=HR.out;simp only[if_true]at hr;have HF:=za (fun W=>zaU seed hs ⟨#[]⟩ (by decide) W);have HM:=za (fun W=>zbg seed hs W);have e0:kh seed (⟨#[]⟩:ByteArray).data.toList=seed:=rfl;have e1:kh seed []=seed:=rfl;rw[e1]at hr;rw[e0]at HF;subst hr;clear HR e0 e1;go_enter func230,ntmps230;go_upto_region 1 with fail
    generalize w.alloc (.cells #[.int .u64 seed,.bool true] 192)=W1 at *;exact Azir1
  | false =>
    have hr:=HR.out;simp only[Bool.false_eq_true,if_false]at hr;have hq:=UZ hs key.data.toList;have HF:=za (fun W=>zaU seed hs key hk W);have HM:=za (fun W=>zbg _ hq W);subst hr;clear HR;generalize kh seed key.data.toList=q at *;go_enter func230,ntmps230;go_upto_region 1 with fail
    generalize w.alloc (.cells #[.int .u64 seed,.bool false] 192)=W1 at *;exact Azir1
abbrev yY(d:Nat):Value := .pointer (some ⟨d,0,none⟩)
structure zZ(Fo:Nat→Prop)(w:World)(d q p:Nat)(sv:Value)(Dl:Nat→Prop)(seed:Nat)(same:Bool)(L:List (Option Ent))(Gs:List Grp):Prop where
 box:w.heap[d]? = some (.cells #[.pointer (some ⟨q,0,none⟩),.int .u64 seed,.bool same,.pointer (some ⟨p,0,none⟩)] 202 (0,0))
 log:zY Fo w Dl q L
 ix:yf w (fun k=>k=p∨sv.ownBlock=some k) p sv Gs
 sd:seed<18446744073709551616
section
variable{w w':World}{d q p:Nat}{sv:Value}{Dl:Nat→Prop}{seed:Nat}{same:Bool}{L:List (Option Ent)}{Gs:List Grp}
theorem zZ.pure(h:zZ Fo w d q p sv Dl seed same L Gs)(hp:zb w w'):zZ Fo w' d q p sv Dl seed same L Gs :=
 ⟨hp.heap (fun h=>h) h.box,h.log.pure hp,h.ix.pure hp,h.sd⟩
def jJ(d:Nat)(Dl:Nat→Prop)(p:Nat)(sv:Value)(k:Nat):Prop:=k=d∨Dl k∨k=p∨sv.ownBlock=some k
theorem zZ.types(h:zZ Fo w d q p sv Dl seed same L Gs){k:Nat}(hk:jJ d Dl p sv k){cs:Array Value}{T:TypeId}{fz:Nat × Nat}(e:w.heap[k]? = some (.cells cs T fz)) :
  T=202∨T=287∨T=57∨T=325∨T=348:=by
 rcases hk with rfl | hk | rfl | hk
 ·rw[h.box]at e;cases e;exact .inl rfl
 ·rcases h.log.types hk e with e | e
  ·exact .inr (.inl e)
  ·exact .inr (.inr (.inl e))
 ·rw[h.ix.box]at e;cases e;exact .inr (.inr (.inr (.inl rfl)))
 ·obtain⟨cc,e2⟩:=yg h.ix.row hk;rw[e2]at e;cases e;exact .inr (.inr (.inr (.inr rfl)))
theorem zZ.lt(h:zZ Fo w d q p sv Dl seed same L Gs){k:Nat}(hk:jJ d Dl p sv k):k<w.heap.size:=by
 rcases hk with rfl | hk | rfl | hk
 ·exact zl h.box
 ·exact h.log.lt hk
 ·exact zl h.ix.box
 ·exact vh h.ix.row hk
theorem zZ.frame{S:Nat→Prop}(h:zZ Fo w d q p sv Dl seed same L Gs)(hm:Mod S w w')(hD : ∀ k,jJ d Dl p sv k → ¬ S k)(hS : ∀ k,k<w.heap.size→S k → ∀ cs fz,w.heap[k]? ≠ some (.cells cs 5 fz)):zZ Fo w' d q p sv Dl seed same L Gs :=
 ⟨hm.heap (hD d (.inl rfl)) h.box,h.log.frame hm (fun k hk=>hD k (.inr (.inl hk))) hS,h.ix.mod hm (fun k hk=>hD k (.inr (.inr hk))),h.sd⟩
theorem zZ.frameF{S:Nat→Prop}(h:zZ Fo w d q p sv Dl seed same L Gs)(hm:Mod S w w')(hD : ∀ k,jJ d Dl p sv k → ¬ S k)(hS : ∀ k,k<w.heap.size→S k→Fo k ∨ ∀ cs fz,w.heap[k]? ≠ some (.cells cs 5 fz)):zZ Fo w' d q p sv Dl seed same L Gs :=
 ⟨hm.heap (hD d (.inl rfl)) h.box,h.log.frameF hm (fun k hk=>hD k (.inr (.inl hk))) hS,h.ix.mod hm (fun k hk=>hD k (.inr (.inr hk))),h.sd⟩
theorem zZ.refo{Fo':Nat→Prop}(h:zZ Fo w d q p sv Dl seed same L Gs)(hm:zb w w')(h1 : ∀ k,Fo' k→Fo k∨w.heap.size≤k)(h2 : ∀ k,Fo' k→k<w'.heap.size):zZ Fo' w' d q p sv Dl seed same L Gs :=
 ⟨hm.heap (fun h=>h) h.box,h.log.refo hm h1 h2,h.ix.pure hm,h.sd⟩
theorem zZ.nd(h:zZ Fo w d q p sv Dl seed same L Gs) : ¬ Dl d:=fun hk=>by
 rcases h.log.types hk h.box with e | e<;>cases e
theorem zZ.npd(h:zZ Fo w d q p sv Dl seed same L Gs):p≠d:=fun e=>by
 have h1:=h.ix.box;rw[e,h.box]at h1;cases h1
theorem zZ.nsd(h:zZ Fo w d q p sv Dl seed same L Gs):sv.ownBlock≠some d:=fun e=>by
 obtain⟨cc,e2⟩:=yg h.ix.row e;rw[h.box]at e2;cases e2
theorem zZ.nlp(h:zZ Fo w d q p sv Dl seed same L Gs) : ∀ k,Dl k → ¬ (k=p∨sv.ownBlock=some k):=by
 rintro k hk (rfl | e)
 ·rcases h.log.types hk h.ix.box with e | e<;>cases e
 ·obtain⟨cc,e2⟩:=yg h.ix.row e;rcases h.log.types hk e2 with e | e<;>cases e
end
theorem zhQ{w:World}{D:Nat→Prop}{q:Nat}{L:List (Option Ent)}(h:zY Fo w D q L)(s:Nat):(yI L s).size≤250:=by
 unfold yI;split
 ·rename_i e he;exact(h.ok.ent e (yd he)).k1
 ·decide
theorem zc9{w:World}{D:Nat→Prop}{q:Nat}{L:List (Option Ent)}(h:zY Fo w D q L)(s:Nat)(hs:s≤4294967295) :
  Calls prog 232 #[.agg #[.pointer (some ⟨q,0,none⟩)],.int .u32 s] w fun e w'=>e=.returned (.string (yI L s))∧zb w w':=by
 have hp:zb w (w.alloc (.cells #[.pointer (some ⟨q,0,none⟩)] 199)):=(Mod.refl _ w).alloc _;have hb:=zi (w:=w) (o:=(.cells #[.pointer (some ⟨q,0,none⟩)] 199 (0,0))) rfl;have HK:=za (zbz (h.pure hp) s hs);have HP:=za hp;clear h hp;go_enter func232,ntmps232;go_upto_region 1 with fail
 generalize w.alloc (.cells #[.pointer (some ⟨q,0,none⟩)] 199)=W1 at *;generalize w.heap.size=b at *;obtain⟨hb_0,hb_f,hb_l,H_hb⟩:=cr1 hb;clear hb
 go_wp2_with (go_at_call 240;refine HK.out.mono ?_;rintro e w' ⟨rfl,rfl⟩)
 go_ret;exact⟨rfl,HP.out⟩
theorem jZ{w:World}{d q p:Nat}{sv:Value}{Dl:Nat→Prop}{seed:Nat}{same:Bool}{L:List (Option Ent)}{Gs:List Grp}(h:zZ Fo w d q p sv Dl seed same L Gs) :
  Calls prog 142 #[yY d] w fun e w'=>e=.returned (.bool false)∧w=w':=by
 have hb:=h.box;clear h;obtain⟨hb_0,hb_1,hb_2,hb_3,hb_f,hb_l,H_hb⟩:=cr4 hb;clear hb;go_enter func142,ntmps142;go_wp2;go_ret;exact⟨rfl,rfl⟩
theorem Kz{w:World}{d q p:Nat}{sv:Value}{Dl:Nat→Prop}{seed:Nat}{same:Bool}{L:List (Option Ent)}{Gs:List Grp}(h:zZ Fo w d q p sv Dl seed same L Gs)(s:Nat)(hs:s≤4294967295) :
    Calls prog 242 #[yY d,.int .u32 s] w fun e w'=>e=.returned (.int .u64 (ya seed same L s:Nat))∧zb w w':=by
  have HK:=za (fun W (hW:zb w W)=>zc9 (h.log.pure hW) s hs);have HH:=za (fun W=>zaA seed same h.sd (yI L s) (by have:=zhQ h.log s;omega) W);have e1:kp seed same (yI L s)=ya seed same L s:=rfl;rw[e1]at HH;have hb:=h.box;clear h e1;generalize ya seed same L s=r at *;obtain⟨hb_0,hb_1,hb_2,hb_3,hb_f,hb_l,H_hb⟩:=cr4 hb;clear hb;have hf:=hb_f;go_enter func242,ntmps242;go_upto_region 1 with fail
  go_region_held3 (fun w'=>w'.cell? ⟨d,0,none⟩=some (.pointer (some ⟨q,0,none⟩))∧w'.cell? ⟨d,1,none⟩=some (.int .u64 seed)∧w'.cell? ⟨d,2,none⟩=some (.bool same))
    (first | exact⟨hb_0,hb_1,hb_2⟩ | exact⟨hp1.cell (fun h=>h) hb_0,hp1.cell (fun h=>h) hb_1,hp1.cell (fun h=>h) hb_2⟩ | exact⟨(hp1.trans hp2).cell (fun h=>h) hb_0,(hp1.trans hp2).cell (fun h=>h) hb_1,(hp1.trans hp2).cell (fun h=>h) hb_2⟩)
    (first
      | (go_at_call 232;refine(HK.out _ (by exact xb)).mono ?_;rintro e w1 ⟨rfl,hp1⟩)
      | (go_at_call 230;refine(HH.out _).mono ?_;rintro e w2 ⟨rfl,hp2⟩))
  go_wp2;go_ret;exact⟨rfl,(Mod.of_drew hp1).trans hp2⟩
end
end Go.Proofs.YtpplkcnknabofaaGreatDoor
