/- Lemmas and contracts of functions. No condition. -/
import Derived.Test.YtifbnponicgplaaGreatDoorJPfBoth425
namespace Go.Proofs.YtifbnponicgplaaGreatDoor
open _root_.Go.Proofs.Tryz
set_option maxRecDepth 100000
set_option maxHeartbeats 20000000
set_option linter.all false
section
open Go.RowKit
variable{Fo:Nat→Prop}
theorem zbo{α:Type}{l:List α}{i:Nat}{a:α}(h:l[i]? = some a):l.set i a=l:=by
 apply uF;intro j;rw[XN];split
 ·rename_i e;subst e;rw[zj (zE.1 h).1,h]
 ·rfl
theorem zbe(M:List (Option Ent × Value))(i:Nat)(m m':Option Ent × Value)(hi:M[i]? = some m)(a b c d:Value)(hm:xn m'=[a,b,c,d]) :
  ((((M.flatMap xn).set (i*4) a).set (i*4+1) b).set (i*4+2) c).set (i*4+3) d=(M.set i m').flatMap xn:=by
 have h0 : ∀ r∈M.map xn,r.length=4:=by
  intro r hr;obtain⟨x,_,rfl⟩:=zI.1 hr;exact qT x
 have e:=Zt 4 0 (by decide) a _ h0 i;rw[XC]at e;simp only[List.flatMap_def];rw[e,Zt 4 1 (by decide) b _ (ZY h0 i 0 a) i,Zt 4 2 (by decide) c _ (ZY (ZY h0 i 0 a) i 1 b) i,
  Zt 4 3 (by decide) d _ (ZY (ZY (ZY h0 i 0 a) i 1 b) i 2 c) i]
 congr 1
 have e2 : ∀(f g:List Value→List Value) (R:List (List Value)),(R.modify i f).modify i g=R.modify i (g ∘ f):=fun f g R=>List.modify_modify_eq f g i R
 rw[e2,e2,e2];refine zcQ xn _ m' M i m hi ?_;rw[hm];have:=qT m
 match h:xn m,this with
 | [_,_,_,_],_=>rfl
theorem Az30s {P:Prop}(h:P:=by
 induction M generalizing i with
 | nil=>simp at hi
 | cons a M ih =>
  cases i with
  | zero =>
   simp at hi;subst hi;simp[yb]
  | succ i =>
   have:=ih i (by simpa using hi);simp only[List.set_cons_succ,List.map_cons,yb,List.countP_cons]at this ⊢;omega):P:=h
theorem zdw(M:List (Option Ent × Value))(i:Nat)(e:Ent)(v v':Value)(hi:M[i]? = some (some e,v)):(yb ((M.set i (none,v')).map Prod.fst):Int)=(yb (M.map Prod.fst):Int)-1∧1≤yb (M.map Prod.fst):=by
 exact Az30s
def zi5(Fo:Nat→Prop)(w:World)(D:Nat→Prop)(p i:Nat)(x:Ent)(sv:Value)(M:List (Option Ent × Value))(e:Ending)(w':World):Prop :=
 ∃ a n c,e=.returned (.tuple #[.agg #[.string x.key,.slice a n c,.int .u64 x.dl,.int .u64 x.birth],.int .i64 0])∧zW w' (.slice a n c) (zJ x.val)∧xK w (.slice a n c) ∧
  zV Fo w' D p sv (M.set i (none,.slice none 0 0))∧Mod D w w'
theorem zeK{w W w':World}{D:Nat→Prop}{p g c i lv:Nat}{x:Ent}{v:Value}{M:List (Option Ent × Value)}
  (HL:zV Fo w D p (.slice (some ⟨g,0,none⟩) M.length c) M) (hi:M[i]? = some (some x,v)) (HP:zb w W)
  (hlv:yb (M.map Prod.fst)=lv)
  (hw':(((((W.setCell ⟨g,i*4,none⟩ (.string ⟨#[]⟩)).setCell ⟨g,i*4+1,none⟩ (.slice none 0 0)).setCell ⟨g,i*4+2,none⟩ (.int .u64 0)).setCell ⟨g,i*4+3,none⟩ (.int .u64 0)).setCell ⟨p,2,none⟩ (.int .i64 ((lv:Int)-1)))=w') :
  zV Fo w' D p (.slice (some ⟨g,0,none⟩) M.length c) (M.set i (none,.slice none 0 0))∧Mod D w w':=by
 subst hw';have HW:=HL.pure HP;have hlt:i<M.length:=(zE.1 hi).1;have hgp:=HL.np (g:=g) rfl;have hDg:D g:=(HL.dd g).2 (.inr rfl);have hDp:D p:=(HL.dd p).2 (.inl rfl);have hmod:Mod D W (((((W.setCell ⟨g,i*4,none⟩ (.string ⟨#[]⟩)).setCell ⟨g,i*4+1,none⟩ (.slice none 0 0)).setCell ⟨g,i*4+2,none⟩ (.int .u64 0)).setCell ⟨g,i*4+3,none⟩ (.int .u64 0)).setCell ⟨p,2,none⟩ (.int .i64 ((lv:Int)-1))) :=
  (((((Mod.refl D W).setCell (p:=⟨g,i*4,none⟩) (fun _=>hDg) _).setCell (p:=⟨g,i*4+1,none⟩) (fun _=>hDg) _).setCell (p:=⟨g,i*4+2,none⟩) (fun _=>hDg) _).setCell (p:=⟨g,i*4+3,none⟩) (fun _=>hDg) _).setCell (p:=⟨p,2,none⟩) (fun _=>hDp) _
 have hl:=zdw M i x v (.slice none 0 0) hi;refine⟨⟨?_,?_,fun e u hm => ?_,?_,?_,fun e u g hm hg => ?_,fun k hk=>hmod.lt (HP.lt (HL.flt k hk))⟩,(Mod.of_pure HP).trans hmod⟩
 ·have hb:((((W.setCell ⟨g,i*4,none⟩ (.string ⟨#[]⟩)).setCell ⟨g,i*4+1,none⟩ (.slice none 0 0)).setCell ⟨g,i*4+2,none⟩ (.int .u64 0)).setCell ⟨g,i*4+3,none⟩ (.int .u64 0)).heap[p]? = _ :=
   xp (xp (xp (xp HW.box hgp.symm) hgp.symm) hgp.symm) hgp.symm
  have:=zX _ p 2 _ _ (.int .i64 ((lv:Int)-1)) hb;rw[this,hl.1,hlv]
  rfl
 ·have r0:=uT HW.row (i*4) (.string ⟨#[]⟩) (by omega);have r1:=uT r0 (i*4+1) (.slice none 0 0) (by omega);have r2:=uT r1 (i*4+2) (.int .u64 0) (by omega);have r3:=uT r2 (i*4+3) (.int .u64 0) (by omega);rw[zbe M i _ (none,.slice none 0 0) hi _ _ _ _ rfl]at r3;have r4:=zz r3 (S:=fun k=>k=p) ((Mod.refl (fun k=>k=p) _).setCell (p:=⟨p,2,none⟩) (fun _=>rfl) (.int .i64 ((lv:Int)-1))) (fun g' e h=>by cases e;exact hgp h);rw[xC];exact r4
 ·have hm':(some e,u)∈M:=by
   rcases jS hm with h | h
   ·exact h
   ·cases h
  exact kT (HW.vals e u hm') hmod (fun k _ hk cs fz=>HW.nobytes hk cs fz)
 ·exact HL.dd
 ·refine⟨by have:=HL.ok.len;simpa using this,fun e he => ?_⟩;rw[Y1]at he;rcases jS he with h | h
  ·exact HL.ok.ent e h
  ·cases h
 ·have hm':(some e,u)∈M:=by
   rcases jS hm with h | h
   ·exact h
   ·cases h
  exact HL.off e u g hm' hg
theorem zgr{w:World}{D:Nat→Prop}{p:Nat}{sv:Value}{M:List (Option Ent × Value)}(h:zV Fo w D p sv M){i:Nat}{x:Ent}{v:Value}(hi:M[i]? = some (some x,v)) :
  Calls prog 131 #[.pointer (some ⟨p,0,none⟩),.int .u32 i] w (zi5 Fo w D p i x sv M):=by
 obtain⟨g,c,rfl,hg,ng,hlt,hn,hc,hf⟩:=h.slot hi;obtain⟨c0,c1,c2,cf⟩:=h.cells;have hx:=(h.vals x v (ym hi)).read (uQ _);have hok:=h.ok.ent x (zI.2 ⟨_,ym hi,rfl⟩);have s0:w.cell? ⟨g,i*4,none⟩=_:=hc 0 _ rfl;have s1:=hc 1 _ rfl;have s2:=hc 2 _ rfl;have s3:=hc 3 _ rfl;have hlp:p<w.heap.size:=YE w _ c0;have hb:(x.birth==0)=false:=by have:=hok.b0;simp;omega
 obtain⟨a,n,cc,rfl,hl,_⟩:=id hx;have hn':n≤140737488355328:=by have:=hok.v1;rw[ur]at hl;omega
 have H:=za (hx.frame ((Mod.refl (fun _=>False) w).alloc (.cells #[.string ByteArray.empty,.slice none 0 0,.int .u64 0,.int .u64 0] 70)) (fun _ _ h=>h));have HL:=za h;have HI:=za hi;generalize hlv:(yb (M.map Prod.fst))=lv at c2;have hlv1:1≤lv∧lv≤4194304:=by have:=(zdw M i x _ (.slice none 0 0) hi).2;have:=zaY (M.map Prod.fst);rw[yH]at this;omega
 have HLV:=za hlv;obtain⟨hlv1,hlv2⟩:=hlv1;clear h hx hc hl hlv hi;have hlp1:p<w.heap.size+1:=by omega
 have hg1:g<w.heap.size+1:=by omega
 go_enter func131,ntmps131;go_upto_region 5 with(first | (go_at_call 137;refine zq (VD p g _ c i x.birth _ (by simpa[go_sem,hlp]using c0) (by simpa[go_sem,hlp]using c1) hlt hn (by simpa[go_sem,hg]using s3) hb) ?_;rintro e w' ⟨rfl,rfl⟩) | (go_at_call 90;refine zq (Ju x.key a n cc _ _ _ _ H.out hn') ?_;rintro e w1 ⟨a',n',c',rfl,hr,hfr,hp⟩;obtain⟨hpc,hpf⟩:=hp.cells))
 have hz:w.heap.size<w1.heap.size:=by have:=hp.size;simp at this;omega
 have HP:zb w (w1.alloc (.cells #[.string x.key,.slice a' n' c',.int .u64 x.dl,.int .u64 x.birth] 70)):=by
  exact y9
 have hA:(w1.alloc (.cells #[.string x.key,.slice a' n' c',.int .u64 x.dl,.int .u64 x.birth] 70)).heap[w.heap.size]? = some (.cells #[.string ByteArray.empty,.slice none 0 0,.int .u64 0,.int .u64 0] 70 (0,0)):=zK (hp.heap (fun h=>h) (zk rfl));have hB:(w1.alloc (.cells #[.string x.key,.slice a' n' c',.int .u64 x.dl,.int .u64 x.birth] 70)).heap[w1.heap.size]? = some (.cells #[.string x.key,.slice a' n' c',.int .u64 x.dl,.int .u64 x.birth] 70 (0,0)):=zk rfl;have HRD:zW (w1.alloc (.cells #[.string x.key,.slice a' n' c',.int .u64 x.dl,.int .u64 x.birth] 70)) (.slice a' n' c') (zJ x.val):=zz (qD hr) ((Mod.refl (fun _=>False) w1).alloc _) (fun _ _ h=>h);have hfr' : ∀ k,(Value.slice a' n' c').ownBlock=some k→w.heap.size<k:=fun k e=>by have:=hfr k e;simp at this;omega
 generalize hW:w1.alloc (.cells #[.string x.key,.slice a' n' c',.int .u64 x.dl,.int .u64 x.birth] 70)=W at HP hA hB HRD ⊢;have hgB:g≠w1.heap.size:=by omega
 have hpB:p≠w1.heap.size:=by omega
 have hAB:w.heap.size≠w1.heap.size:=by omega
 have hsB:w.heap.size<w1.heap.size:=hz;generalize w1.heap.size=B at hB hgB hpB hAB hsB ⊢;clear hW hpc hpf hz hp hr hfr hlp1 hg1;have hgA:g≠w.heap.size:=by omega
 have hpA:p≠w.heap.size:=by omega
 have HSZ:Hid (w.heap.size≤w.heap.size):=zN _;have ar : ∀(j:Nat),W.frozen? ⟨w.heap.size,j,none⟩=false:=fun j=>yS W _ j _ _ hA
 have ac:=fun j=>zi W w.heap.size j _ _ _ hA
 have bc:=fun j=>zi W B j _ _ _ hB
 have a0:=ac 0;have a1:=ac 1;have a2:=ac 2;have a3:=ac 3;have b0:=bc 0;have b1:=bc 1;have b2:=bc 2;have b3:=bc 3;simp at a0 a1 a2 a3 b0 b1 b2 b3;replace c2:=HP.cell (fun h=>h) c2;replace s0:=HP.cell (fun h=>h) s0;replace s1:=HP.cell (fun h=>h) s1;replace s2:=HP.cell (fun h=>h) s2;replace s3:=HP.cell (fun h=>h) s3;have cfW:W.frozen? ⟨p,2,none⟩=false:=(Xz (w:=w) (a:=⟨p,2,none⟩) (HP.block p hlp (fun h=>h))).trans (cf 2);have hfW : ∀ j,W.frozen? ⟨g,j,none⟩=false:=fun j=>(Xz (w:=w) (a:=⟨g,j,none⟩) (HP.block g hg (fun h=>h))).trans (hf j)
 have HHP:=za HP;have HHA:=za hA;have HRD':=za HRD;have HFR:=za hfr';clear ac bc hA hB HP HRD hfr' c0 c1 cf hf;go_upto_region 7 with fail
 have hend:=zeK (w':=(((((W.setCell ⟨g,i*4,none⟩ (.string ⟨#[]⟩)).setCell ⟨g,i*4+1,none⟩ (.slice none 0 0)).setCell ⟨g,i*4+2,none⟩ (.int .u64 0)).setCell ⟨g,i*4+3,none⟩ (.int .u64 0)).setCell ⟨p,2,none⟩ (.int .i64 ((lv:Int)-1)))) HL.out HI.out HHP.out HLV.out rfl;have kA:(((((W.setCell ⟨g,i*4,none⟩ (.string ⟨#[]⟩)).setCell ⟨g,i*4+1,none⟩ (.slice none 0 0)).setCell ⟨g,i*4+2,none⟩ (.int .u64 0)).setCell ⟨g,i*4+3,none⟩ (.int .u64 0)).setCell ⟨p,2,none⟩ (.int .i64 ((lv:Int)-1))).heap[w.heap.size]? = _ :=
  xp (xp (xp (xp (xp HHA.out hgA.symm) hgA.symm) hgA.symm) hgA.symm) hpA.symm
 have kB : ∀ j u,W.cell? ⟨B,j,none⟩=some u→(((((W.setCell ⟨g,i*4,none⟩ (.string ⟨#[]⟩)).setCell ⟨g,i*4+1,none⟩ (.slice none 0 0)).setCell ⟨g,i*4+2,none⟩ (.int .u64 0)).setCell ⟨g,i*4+3,none⟩ (.int .u64 0)).setCell ⟨p,2,none⟩ (.int .i64 ((lv:Int)-1))).cell? ⟨B,j,none⟩=some u:=by
  intro j u hu;rw[Yg _ _ _ _ (by simp[hpB]),Yg _ _ _ _ (by simp[hgB]),Yg _ _ _ _ (by simp[hgB]),Yg _ _ _ _ (by simp[hgB]),Yg _ _ _ _ (by simp[hgB])];exact hu
 have hRD:zW (((((W.setCell ⟨g,i*4,none⟩ (.string ⟨#[]⟩)).setCell ⟨g,i*4+1,none⟩ (.slice none 0 0)).setCell ⟨g,i*4+2,none⟩ (.int .u64 0)).setCell ⟨g,i*4+3,none⟩ (.int .u64 0)).setCell ⟨p,2,none⟩ (.int .i64 ((lv:Int)-1))) (.slice a' n' c') (zJ x.val):=by
  refine zz HRD'.out (S:=fun k=>k=g∨k=p) ?_ (fun k e h=>by have:=HFR.out k e;omega)
  (repeat'(first | (with_reducible exact Mod.refl _ _) | (with_reducible refine Mod.alloc ?_ _) | (with_reducible refine Mod.drew ?_) | (with_reducible refine Mod.drewN ?_ _) | (with_reducible refine Mod.setCell ?_ ?_ _) | (refine Mod.then ?_ (by with_reducible assumption) ?_)))
  all_goals(intro _;first | exact .inl rfl | exact .inr rfl)
 replace b0:=kB _ _ b0;replace b1:=kB _ _ b1;replace b2:=kB _ _ b2;replace b3:=kB _ _ b3;generalize(((((W.setCell ⟨g,i*4,none⟩ (.string ⟨#[]⟩)).setCell ⟨g,i*4+1,none⟩ (.slice none 0 0)).setCell ⟨g,i*4+2,none⟩ (.int .u64 0)).setCell ⟨g,i*4+3,none⟩ (.int .u64 0)).setCell ⟨p,2,none⟩ (.int .i64 ((lv:Int)-1)))=W3 at *;clear kB a0 a1 a2 a3 c2 s0 s1 s2 s3 ar hfW cfW;have ac:=fun j=>zi W3 w.heap.size j _ _ _ kA
 have ar : ∀(j:Nat),W3.frozen? ⟨w.heap.size,j,none⟩=false:=fun j=>yS W3 _ j _ _ kA
 have a0:=ac 0;have a1:=ac 1;have a2:=ac 2;have a3:=ac 3;simp at a0 a1 a2 a3;have HE:=za hend;have HKA:=za kA;have HRD3:=za hRD;clear hend kA ac hRD;go_wp2;refine zR (v := .tuple #[.agg #[.string x.key,.slice a' n' c',.int .u64 x.dl,.int .u64 x.birth],.int .i64 0]) (by simp[results,results131,go_sem,a0,a1,a2,a3]) rfl ⟨a',n',c',rfl,?_,?_,?_,?_⟩
 ·refine zz HRD3.out (S:=fun k=>k=w.heap.size) ?_ (fun k e h=>by have:=HFR.out k e;omega);exact y9
 ·exact fun k e=>qZ (HFR.out k e)
 ·refine HE.out.1.frame (S:=fun k=>k=w.heap.size) ?_ (fun k hk h=>by have:=HL.out.lt hk;omega) ?_
  ·exact y9
  ·rintro k _ rfl cs fz e;rw[HKA.out]at e
   cases e
 ·refine HE.out.2.then (T:=fun k=>k=w.heap.size) ?_ (fun k hk h=>by omega);exact y9
end
section
open Go.RowKit Go.Shelf
variable{Fo:Nat→Prop}
attribute [local go_sem] Oper.semAt_some
def jj:Nat→List (Option Ent)→List (Nat × Ent)
 | _,[]=>[]
 | i,none::L=>jj (i+1) L
 | i,some e::L=>(i,e)::jj (i+1) L
def live(L:List (Option Ent)):List (Nat × Ent):=jj 0 L
theorem zjE(L:List (Option Ent)) : ∀ i,(jj i L).length≤L.length:=by
 induction L with
 | nil=>intro i;simp[jj]
 | cons o L ih=>intro i;cases o<;>simp[jj]<;>have:=ih (i+1)<;>omega
theorem zjV(L:List (Option Ent)):(live L).length≤L.length:=zjE L 0
theorem zbK{L:List (Option Ent)} : ∀ {i:Nat} {g:Nat × Ent},g∈jj i L→i≤g.1∧L[g.1-i]? = some (some g.2):=by
 induction L with
 | nil=>intro i g h;cases h
 | cons o L ih =>
  intro i g h
  cases o with
  | none =>
   obtain⟨h1,h2⟩:=ih (i:=i+1) h;refine⟨by omega,?_⟩;rw[show g.1-i=(g.1-(i+1))+1 by omega];simpa using h2
  | some e =>
   rcases yx.1 h with rfl | h
   ·simp
   ·obtain⟨h1,h2⟩:=ih (i:=i+1) h;refine⟨by omega,?_⟩;rw[show g.1-i=(g.1-(i+1))+1 by omega];simpa using h2
theorem zjJ{L:List (Option Ent)}{g:Nat × Ent}(h:g∈live L):L[g.1]? = some (some g.2):=by simpa using(zbK h).2
abbrev xL:=Nat × Ent × Value
def uS(g:xL):Nat × Ent:=(g.1,g.2.1)
def VQ(N:Nat)(L:List (Option Ent))(pre:List xL)(x:xL)(W:World):Prop :=
 (∃ post,live L=pre.map uS++uS x::post)∧zW W x.2.2 (zJ x.2.1.val) ∧ ∀ k,x.2.2.ownBlock=some k→N≤k
def zlw(B:Nat)(sv:Value)(M:List (Option Ent × Value))(k:Nat):Prop:=k=B∨sv.ownBlock=some k ∨ ∃ e v,(some e,v)∈M∧v.ownBlock=some k
structure Yx(w:World)(B:Nat)(sv:Value)(M:List (Option Ent × Value)):Prop where
 box:w.heap[B]? = some (.cells #[sv] 109 (0,0))
 row:w.ownsRow 0 70 4 sv M.length (M.flatMap xn)
 vals : ∀ e v,(some e,v)∈M→zW w v (zJ e.val)
 ok:VH (M.map Prod.fst)
theorem Yx.keeps{w w':World}{B:Nat}{sv:Value}{M:List (Option Ent × Value)}(h:Yx w B sv M)(hk:xi (zlw B sv M) w w'):Yx w' B sv M:=by
 refine⟨?_,?_,fun e v hm => ?_,h.ok⟩
 ·exact(hk.2 B (.inl rfl) (zm h.box)).trans h.box
 ·exact Qg h.row (fun g hg hlt=>hk.2 g (.inr (.inl hg)) hlt)
 ·exact Qg (h.vals e v hm) (fun g hg hlt=>hk.2 g (.inr (.inr ⟨e,v,hm,hg⟩)) hlt)
theorem Yx.slot{w:World}{B:Nat}{sv:Value}{M:List (Option Ent × Value)}(h:Yx w B sv M){i:Nat}{m:Option Ent × Value}(hi:M[i]? = some m) :
  ∃ g c,sv=.slice (some ⟨g,0,none⟩) M.length c∧g<w.heap.size∧(∀ j u,(xn m)[j]? = some u→w.cell? ⟨g,i*4+j,none⟩=some u):=by
 have hlt:i<M.length:=(zE.1 hi).1;obtain⟨g,c,rfl,_,hg,hc,hf,_⟩:=ko h.row (by omega);refine⟨g,c,rfl,hg,fun j u hu=>hc _ _ ?_⟩;have hj:j<4:=by rw[← qT m];exact(zE.1 hu).1
 rw[uO xn 4 qT j hj,hi];exact hu
theorem zV.quiet{N:Nat}{A B:World}{D:Nat→Prop}{p:Nat}{sv:Value}{M:List (Option Ent × Value)}(h:zV Fo A D p sv M)(hq:zB N A B):zV Fo B D p sv M :=
 ⟨hq.cells h.box,hq.owns h.row,fun e v hv=>hq.owns (h.vals e v hv),h.dd,h.ok,h.off,fun k hk=>vh (h.flt k hk) (Mod.size hq)⟩
theorem VQ.quiet{N N':Nat}{L:List (Option Ent)}{pre:List xL}{x:xL}{A B:World}(h:VQ N L pre x A)(hq:zB N' A B):VQ N L pre x B:=⟨h.1,hq.owns h.2.1,h.2.2⟩
end
section
open Go.RowKit Go.Shelf
variable{Fo:Nat→Prop}
abbrev qL(p:Nat):Value := .pointer (some ⟨p,0,none⟩)
abbrev Jv(x:Ent)(v:Value):Value := .agg #[.string x.key,v,.int .u64 x.dl,.int .u64 x.birth]
theorem zV.toAt{w:World}{D:Nat→Prop}{p:Nat}{sv:Value}{M:List (Option Ent × Value)}(h:zV Fo w D p sv M):yg Fo w D p (M.map Prod.fst):=⟨sv,M,rfl,h⟩
theorem yg.pure{w w':World}{D:Nat→Prop}{p:Nat}{L:List (Option Ent)}(h:yg Fo w D p L)(hm:zb w w'):yg Fo w' D p L:=by
 obtain⟨sv,M,rfl,h⟩:=h;exact(h.pure hm).toAt
theorem yg.lt{w:World}{D:Nat→Prop}{p:Nat}{L:List (Option Ent)}(h:yg Fo w D p L){k:Nat}(hk:D k):k<w.heap.size:=by
 obtain⟨sv,M,rfl,h⟩:=h;exact h.lt hk
theorem yg.ok{w:World}{D:Nat→Prop}{p:Nat}{L:List (Option Ent)}(h:yg Fo w D p L):VH L:=by
 obtain⟨sv,M,rfl,h⟩:=h;exact h.ok
theorem yg.types{w:World}{D:Nat→Prop}{p:Nat}{L:List (Option Ent)}(h:yg Fo w D p L){k:Nat}(hk:D k){cs:Array Value}{T:TypeId}{fz:Nat × Nat}(e:w.heap[k]? = some (.cells cs T fz)):T=262∨T=70:=by
 obtain⟨sv,M,rfl,h⟩:=h;rcases(h.dd k).1 hk with rfl | e'
 ·rw[h.box]at e;cases e;exact .inl rfl
 ·obtain⟨c,e2⟩:=yd h.row e';rw[e2]at e;cases e;exact .inr rfl
theorem yg.frame{w w':World}{D S:Nat→Prop}{p:Nat}{L:List (Option Ent)}(h:yg Fo w D p L)(hm:Mod S w w')(hD : ∀ k,D k → ¬ S k)(hS : ∀ k,k<w.heap.size→S k → ∀ cs fz,w.heap[k]? ≠ some (.cells cs 5 fz)):yg Fo w' D p L:=by
 obtain⟨sv,M,rfl,h⟩:=h;exact(h.frame hm hD hS).toAt
theorem yg.flt{w:World}{D:Nat→Prop}{p:Nat}{L:List (Option Ent)}(h:yg Fo w D p L) : ∀ k,Fo k→k<w.heap.size:=by
 obtain⟨sv,M,rfl,h⟩:=h;exact h.flt
theorem yg.frameF{w w':World}{D S:Nat→Prop}{p:Nat}{L:List (Option Ent)}(h:yg Fo w D p L)(hm:Mod S w w')(hD : ∀ k,D k → ¬ S k)(hS : ∀ k,k<w.heap.size→S k→Fo k ∨ ∀ cs fz,w.heap[k]? ≠ some (.cells cs 5 fz)):yg Fo w' D p L:=by
 obtain⟨sv,M,rfl,h⟩:=h;exact(h.frameF hm hD hS).toAt
theorem yg.refo{w w':World}{Fo' D:Nat→Prop}{p:Nat}{L:List (Option Ent)}(h:yg Fo w D p L)(hm:zb w w')(h1 : ∀ k,Fo' k→Fo k∨w.heap.size≤k)(h2 : ∀ k,Fo' k→k<w'.heap.size):yg Fo' w' D p L:=by
 obtain⟨sv,M,rfl,h⟩:=h;exact(h.refo hm h1 h2).toAt
theorem yg.beside{w w':World}{D S:Nat→Prop}{p q:Nat}{L K:List (Option Ent)}(h:yg Fo w D p L)(k:yg Fo w S q K)(hm:Mod S w w')(hD : ∀ k,D k → ¬ S k):yg Fo w' D p L :=
 h.frame hm hD (fun i _ hi cs fz e=>by rcases k.types hi e with e | e<;>cases e)
theorem yg.owns{w w':World}{S:Nat→Prop}{q:Nat}{K:List (Option Ent)}(h:yg Fo w S q K)(hm:Mod S w w'){T k n:Nat}{v:Value}{xs:List Value}(ho:w.ownsRow 0 T k v n xs)(h1:T≠262)(h2:T≠70):w'.ownsRow 0 T k v n xs :=
 zz ho hm (fun g hg hs=>by
  obtain⟨c,e⟩:=yd ho hg;rcases h.types hs e with e | e
  ·exact h1 e
  ·exact h2 e)
theorem yg.box{w w':World}{S:Nat→Prop}{q:Nat}{K:List (Option Ent)}(h:yg Fo w S q K)(hm:Mod S w w'){b:Nat}{cs:Array Value}{T:TypeId}{fz:Nat × Nat}(hb:w.heap[b]? = some (.cells cs T fz))(h1:T≠262)(h2:T≠70):w'.heap[b]? = some (.cells cs T fz) :=
 hm.heap (fun hs=>by rcases h.types hs hb with e | e;exact h1 e;exact h2 e) hb
def zfY(Fo:Nat→Prop)(w:World)(e:Ending)(w':World):Prop:=e=.returned (qL w.heap.size)∧yg Fo w' (fun k=>k=w.heap.size) w.heap.size []∧zb w w'∧w.heap.size<w'.heap.size
theorem zjR(w:World)(hFo : ∀ k,Fo k→k<w.heap.size):Calls prog 102 #[] w (zfY Fo w):=by
 refine zq (zkY w) ?_;rintro e w' ⟨rfl,rfl⟩;exact⟨rfl,(ziV (fun k hk=>by have:=hFo k hk;simp;omega) (zk rfl)).toAt,(Mod.refl _ _).alloc _,by simp⟩
def zcn(Fo:Nat→Prop)(w:World)(D:Nat→Prop)(p:Nat)(L:List (Option Ent))(x:Ent)(e:Ending)(w':World):Prop :=
 e=.returned (.tuple #[.int .u32 L.length,.int .i64 0]) ∧ ∃ D',yg Fo w' D' p (L++[some x])∧Mod D w w'∧vO D D' w
theorem ziq{w:World}{D:Nat→Prop}{p:Nat}{L:List (Option Ent)}(h:yg Fo w D p L)(hL:L.length<4194304)(x:Ent)(hok:x.Ok)(a:Option Addr)(n c:Nat)(hx:zr w (.slice a n c) 1 (zJ x.val)) :
  Calls prog 148 #[qL p,Jv x (.slice a n c)] w (zcn Fo w D p L x):=by
 obtain⟨sv,M,rfl,h⟩:=h;rw[yH]at hL;refine zq (zgz h hL x hok a n c hx) ?_;rintro e w' ⟨rfl,D',sv',v',h1,h2,h3⟩;refine⟨by rw[yH],D',?_,h2,h3⟩;have:=h1.toAt;rw[vr]at this;exact this
def zgn(Fo:Nat→Prop)(w:World)(D:Nat→Prop)(p i:Nat)(L:List (Option Ent))(x:Ent)(e:Ending)(w':World):Prop :=
 ∃ a n c,e=.returned (.tuple #[Jv x (.slice a n c),.int .i64 0])∧zW w' (.slice a n c) (zJ x.val)∧xK w (.slice a n c)∧yg Fo w' D p (L.set i none)∧Mod D w w'
theorem zew{w:World}{D:Nat→Prop}{p:Nat}{L:List (Option Ent)}(h:yg Fo w D p L)(i:Nat)(x:Ent)(hi:L[i]? = some (some x)) :
  Calls prog 131 #[qL p,.int .u32 i] w (zgn Fo w D p i L x):=by
 obtain⟨sv,M,rfl,h⟩:=h;rw[yz]at hi
 cases hm:M[i]? with
 | none=>rw[hm]at hi;cases hi
 | some m =>
  obtain⟨o,v⟩:=m;rw[hm]at hi
  cases hi
  refine zq (zgr h hm) ?_;rintro e w' ⟨a,n,c,rfl,h1,h2,h3,h4⟩;refine⟨a,n,c,rfl,h1,h2,?_,h4⟩;have:=h3.toAt;rw[Y1]at this;exact this
theorem zaN{w:World}{D:Nat→Prop}{p:Nat}{L:List (Option Ent)}(h:yg Fo w D p L):Calls prog 168 #[qL p] w fun e w'=>e=.returned (.int .i64 L.length)∧w=w':=by
 obtain⟨sv,M,rfl,h⟩:=h;rw[yH];exact zf9 h
theorem zkC{w:World}{D:Nat→Prop}{p:Nat}{L:List (Option Ent)}(h:yg Fo w D p L):Calls prog 118 #[qL p] w fun e w'=>e=.returned (.int .i64 (yb L))∧w=w':=by
 obtain⟨sv,M,rfl,h⟩:=h;exact zhQ h
def yL(L:List (Option Ent))(s:Nat):ByteArray:=match L[s]? with
 | some (some e)=>e.key
 | _=>⟨#[]⟩
def V2(L:List (Option Ent))(s:Nat):Bool:=match L[s]? with
 | some (some _)=>true
 | _=>false
def noL(L:List (Option Ent))(s:Nat):Int:=if V2 L s then 0 else 9
theorem zdv{w:World}{D:Nat→Prop}{p:Nat}{L:List (Option Ent)}(h:yg Fo w D p L)(i:Nat)(hu:i≤4294967295) :
  Calls prog 128 #[qL p,.int .u32 i] w fun e w'=>e=.returned (.tuple #[.string (yL L i),.int .i64 (noL L i)])∧w=w':=by
 obtain⟨sv,M,rfl,h⟩:=h
 cases hi:Zl M i with
 | none =>
  have HA:=za (h.miss hu hi);have e1:yL (M.map Prod.fst) i=⟨#[]⟩∧noL (M.map Prod.fst) i=9:=by
   unfold noL V2 yL;unfold Zl at hi;rw[yz]
   cases hm:M[i]? with
   | none=>simp
   | some m =>
    obtain⟨o,v⟩:=m;rw[hm]at hi;have:o=none:=by simpa using hi
    subst this;simp
  rw[e1.1,e1.2];clear e1 hi h;go_enter func128,ntmps128
  go_wp2_with (go_at_call 137;refine(HA.out _ (Mod.refl _ _)).mono ?_;rintro e w' ⟨rfl,rfl⟩)
  go_ret2;exact⟨rfl,rfl⟩
 | some x =>
  obtain⟨v,hm⟩ : ∃ v,M[i]? = some (some x,v):=by
   unfold Zl at hi
   cases hm:M[i]? with
   | none=>rw[hm]at hi;cases hi
   | some m =>
    obtain⟨o,v⟩:=m;rw[hm]at hi;have:o=some x:=by simpa using hi
    subst this;exact⟨v,rfl⟩
  have e1:yL (M.map Prod.fst) i=x.key∧noL (M.map Prod.fst) i=0:=by
   unfold noL V2 yL;rw[yz,hm];simp
  rw[e1.1,e1.2];clear e1 hi;obtain⟨g,c,rfl,hg,ng,hlt,hn,hc,hf⟩:=h.slot hm;obtain⟨c0,c1,c2,cf⟩:=h.cells;have hok:=h.ok.ent x (zI.2 ⟨_,ym hm,rfl⟩);have hb:(x.birth==0)=false:=by have:=hok.b0;simp;omega
  have s0:w.cell? ⟨g,i*4,none⟩=_:=hc 0 _ rfl;have s3:=hc 3 _ rfl;clear h hc hok;go_enter func128,ntmps128
  go_wp2_with (go_at_call 137;refine zq (VD p g _ c i x.birth _ c0 c1 hlt hn s3 hb) ?_;rintro e w' ⟨rfl,rfl⟩)
  go_ret2;exact⟨rfl,rfl⟩
def JZ(w:World)(L:List (Option Ent))(i:Nat)(e:Ending)(w':World):Prop :=
 match L[i]? with
 | some (some x) => ∃ a n c,e=.returned (.tuple #[.agg #[.string x.key,.slice a n c,.int .u64 x.dl,.int .u64 x.birth],.int .i64 0])∧zW w' (.slice a n c) (zJ x.val)∧xK w (.slice a n c)∧zb w w'
 | _=>e=.returned (.tuple #[.agg #[.string ⟨#[]⟩,.slice none 0 0,.int .u64 0,.int .u64 0],.int .i64 9])∧zb w w'
theorem ziJ{w:World}{D:Nat→Prop}{p:Nat}{L:List (Option Ent)}(h:yg Fo w D p L)(i:Nat)(hu:i≤4294967295) :
  Calls prog 82 #[qL p,.int .u32 i] w (JZ w L i):=by
 obtain⟨sv,M,rfl,h⟩:=h;unfold JZ;rw[yz]
 cases hm:M[i]? with
 | none =>
  refine zq (za9 h hu (by unfold Zl;rw[hm];rfl)) ?_;intro e w' he;exact he
 | some m =>
  obtain⟨o,v⟩:=m
  cases o with
  | none =>
   refine zq (za9 h hu (by unfold Zl;rw[hm];rfl)) ?_;intro e w' he;exact he
  | some x=>exact zjg h hm
def zfM(w:World)(L:List (Option Ent))(e:Ending)(w':World):Prop :=
 ∃ M B a c,M.map Prod.fst=L∧e=.returned (.func (.func 250) #[] #[.pointer (some ⟨B,0,none⟩)])∧Yx w' B (.slice a M.length c) M∧zb w w'∧w.heap.size≤B∧xK w (.slice a M.length c)
end
section
open Go.RowKit Go.Shelf
variable{Fo:Nat→Prop}
def Ent.with(x:Ent)(vs:List UInt8)(d:Int):Ent:=⟨x.key,vs,d,x.birth⟩
theorem Ent.Ok.with{x:Ent}(h:x.Ok){vs:List UInt8}(hv:vs.length≤65536)(d:Int):(x.with vs d).Ok:=⟨h.k0,h.k1,hv,h.b0⟩
theorem zen(M:List (Option Ent × Value))(i:Nat)(e e':Ent)(v v':Value)(hi:M[i]? = some (some e,v)):yb ((M.set i (some e',v')).map Prod.fst)=yb (M.map Prod.fst):=by
 exact Az30s
def zij(Fo:Nat→Prop)(w:World)(D:Nat→Prop)(p i:Nat)(x:Ent)(sv:Value)(M:List (Option Ent × Value))(e:Ending)(w':World):Prop :=
 e=.returned (.int .i64 0) ∧ ∃ v',zV Fo w' D p sv (M.set i (some x,v'))∧Mod D w w'
theorem zjW{w W:World}{D:Nat→Prop}{p g c i:Nat}{x:Ent}{v v':Value}{vs:List UInt8}{d:Int}{M:List (Option Ent × Value)}
  (HL:zV Fo w D p (.slice (some ⟨g,0,none⟩) M.length c) M) (hi:M[i]? = some (some x,v)) (HP:zb w W) (hv:zW W v' (zJ vs)) (hl:vs.length≤65536) (hfr : ∀ g,v'.ownBlock=some g→w.heap.size≤g) :
  zV Fo ((W.setCell ⟨g,i*4+1,none⟩ v').setCell ⟨g,i*4+2,none⟩ (.int .u64 d)) D p (.slice (some ⟨g,0,none⟩) M.length c) (M.set i (some (x.with vs d),v'))∧Mod D w ((W.setCell ⟨g,i*4+1,none⟩ v').setCell ⟨g,i*4+2,none⟩ (.int .u64 d)):=by
 have HW:=HL.pure HP;have hlt:i<M.length:=(zE.1 hi).1;have hgp:=HL.np (g:=g) rfl;have hDg:D g:=(HL.dd g).2 (.inr rfl);have hmod:Mod D W ((W.setCell ⟨g,i*4+1,none⟩ v').setCell ⟨g,i*4+2,none⟩ (.int .u64 d)):=(((Mod.refl D W).setCell (p:=⟨g,i*4+1,none⟩) (fun _=>hDg) _).setCell (p:=⟨g,i*4+2,none⟩) (fun _=>hDg) _);have hnb:=fun k (_:k<W.heap.size) (hk:D k) cs fz=>HW.nobytes hk cs fz
 refine⟨⟨?_,?_,fun e u hm => ?_,HL.dd,?_,fun e u g hm hg hf => ?_,fun k hk=>hmod.lt (HP.lt (HL.flt k hk))⟩,(Mod.of_pure HP).trans hmod⟩
 ·rw[zen M i x _ v v' hi];exact xp (xp HW.box hgp.symm) hgp.symm
 ·have r1:=uT HW.row (i*4+1) v' (by omega);have r2:=uT r1 (i*4+2) (.int .u64 d) (by omega);have e:(((M.flatMap xn).set (i*4+1) v').set (i*4+2) (.int .u64 d))=(M.set i (some (x.with vs d),v')).flatMap xn:=by
   rw[← zbe M i _ (some (x.with vs d),v') hi (.string x.key) v' (.int .u64 d) (.int .u64 x.birth) rfl];have k0:(M.flatMap xn)[i*4]? = some (.string x.key):=by
    have:=uO xn 4 qT 0 (by omega) M i;rw[hi]at this;simpa[xn]using this
   have k3:(M.flatMap xn)[i*4+3]? = some (.int .u64 x.birth):=by
    have:=uO xn 4 qT 3 (by omega) M i;rw[hi]at this;simpa[xn]using this
   rw[zbo k0];refine(zbo ?_).symm;rw[yw (by omega),yw (by omega)];exact k3
  rw[e]at r2;rw[xC];exact r2
 ·rcases jS hm with h | h
  ·exact kT (HW.vals e u h) hmod hnb
  ·cases h
   exact kT hv hmod hnb
 ·refine⟨by have:=HL.ok.len;simpa using this,fun e he => ?_⟩;rw[Y1]at he;rcases jS he with h | h
  ·exact HL.ok.ent e h
  ·cases h
   exact(HL.ok.ent x (zI.2 ⟨_,ym hi,rfl⟩)).with hl d
 ·rcases jS hm with h | h
  ·exact HL.off e u g h hg hf
  ·cases h
   have:=hfr g hg;have:=HL.flt g hf;omega
theorem zgB{w:World}{D:Nat→Prop}{p:Nat}{sv:Value}{M:List (Option Ent × Value)}(h:zV Fo w D p sv M){i:Nat}{x:Ent}{v:Value}(hi:M[i]? = some (some x,v))(a:Option Addr)(n c:Nat)(vs:List UInt8)(hv:zr w (.slice a n c) 1 (zJ vs))(hl:vs.length≤65536)(d:Int) :
    Calls prog 175 #[.pointer (some ⟨p,0,none⟩),.int .u32 i,.slice a n c,.int .u64 d] w (zij Fo w D p i (x.with vs d) sv M):=by
  obtain⟨g,cg,rfl,hg,ng,hlt,hn,hc,hf⟩:=h.slot hi;obtain⟨c0,c1,c2,cf⟩:=h.cells;have hok:=h.ok.ent x (zI.2 ⟨_,ym hi,rfl⟩);have hb:(x.birth==0)=false:=by have:=hok.b0;simp;omega
  have s0:w.cell? ⟨g,i*4,none⟩=_:=hc 0 _ rfl;have s1:=hc 1 _ rfl;have s2:=hc 2 _ rfl;have s3:=hc 3 _ rfl;have hn2:n≤65536:=by have:=jY hv;rw[ur]at this;omega
  have hn3:(n:Int)≤65536:=by omega
  obtain⟨va,vl,vc,rfl⟩ : ∃ a n c,v=.slice a n c:=by obtain⟨va,vc,e,_⟩:=jc (h.vals x v (ym hi));exact⟨_,_,_,e⟩
  have HL:=za h;have HI:=za hi;have HV:=za hv;clear h hi hv hc;go_enter func175,ntmps175
  go_wp2_with (first
    | (go_at_call 137;refine zq (VD p g _ cg i x.birth _ c0 c1 hlt hn s3 hb) ?_;rintro e w' ⟨rfl,rfl⟩)
    | (go_at_call 26;refine zq (XU a n c _ _ HV.out (by omega)) ?_;rintro e w1 ⟨a1,n1,c1',rfl,hr1,hf1,hp1⟩;have t1:=hp1.cell (fun h=>h) s1;have t2:=hp1.cell (fun h=>h) s2;have tf : ∀ j,w1.frozen? ⟨g,j,none⟩=false:=(fun j=>(Xz (w:=w) (a:=⟨g,j,none⟩) (hp1.block g hg (fun h=>h))).trans (hf j));have HR1:=za hr1;have HP1:=za hp1;have HF1:=za hf1;clear hr1 hf1 hp1))
  go_ret;obtain⟨k1,k2⟩:=zjW (d:=d) HL.out HI.out HP1.out (qD HR1.out) hl HF1.out;exact⟨rfl,_,k1,k2⟩
end
section
open Go.RowKit
def uP:Nat:=18446744073709551615
def kK(t n:Nat):Nat:=if 18446744073709551615-t≤n then 18446744073709551615 else t+n
theorem zf8{t n:Nat}(ht:t≤18446744073709551615)(hn:n≤18446744073709551615)(w:World):Calls prog 69 #[.int .u64 t,.int .u64 n] w fun e w'=>e=.returned (.int .u64 (kK t n:Nat))∧w=w':=by
 have h1:IntKind.u64.wrap ((18446744073709551615:Int)-(t:Int))=((18446744073709551615-t:Nat):Int):=by simp[IntKind.wrap,IntKind.signed,IntKind.bits];omega
 unfold kK;by_cases h:18446744073709551615-t≤n
 ·rw[zj h];have h2:((18446744073709551615-t:Nat):Int)≤(n:Int):=by omega
  go_enter func69,ntmps69;go_wp2;go_ret;exact⟨rfl,rfl⟩
 ·rw[zh h];have h2 : ¬ ((18446744073709551615-t:Nat):Int)≤(n:Int):=by omega
  have h3:IntKind.u64.wrap ((t:Int)+(n:Int))=((t+n:Nat):Int):=by simp[IntKind.wrap,IntKind.signed,IntKind.bits];omega
  go_enter func69,ntmps69;go_wp2;go_ret;exact⟨rfl,rfl⟩
def ke(d t:Nat):Bool:=decide (d≠18446744073709551615)&&decide (d≤t)
theorem JF(d t:Nat)(w:World):Calls prog 47 #[.int .u64 d,.int .u64 t] w fun e w'=>e=.returned (.bool (ke d t))∧w=w':=by
 unfold ke;by_cases h:d=18446744073709551615
 ·subst h;go_enter func47,ntmps47;go_wp2;go_ret;exact⟨rfl,rfl⟩
 ·have h1:(((d:Nat):Int) != 18446744073709551615)=true:=by simp;omega
  by_cases h2:d≤t
  ·have h3:((d:Nat):Int)≤((t:Nat):Int):=by omega
   go_enter func47,ntmps47;go_wp2;go_ret;exact⟨by simp[h,h2],rfl⟩
  ·have h3 : ¬ ((d:Nat):Int)≤((t:Nat):Int):=by omega
   go_enter func47,ntmps47;go_wp2;go_ret;exact⟨by simp[h,h2],rfl⟩
def uy(ks n:Nat):Nat:=if vp ks n 1=0 then ks+n+48 else 0
theorem Azajb {P:Prop}(h:P:=by
 go_wp2_with (go_at_call 151;refine HC.out.mono ?_;rintro e w1 ⟨rfl,hp⟩)
 go_ret2;exact⟨rfl,hp⟩):P:=h
theorem QH(s:ByteArray)(a:Option Addr)(n c:Nat)(w:World)(hs:s.size≤140737488355328)(hn:n≤140737488355328) :
  Calls prog 92 #[.string s,.slice a n c] w fun e w'=>e=.returned (.tuple #[.int .i64 (uy s.size n:Nat),.int .i64 (vp s.size n 1)])∧zb w w':=by
 have HC:=za (Qd s a n c 1 w hs hn);unfold uy;obtain⟨er,hE⟩:=zf (vp s.size n 1);unfold J8 at HC;rw[hE]at HC ⊢;clear hE;have w1:IntKind.i64.wrap ((s.size:Int)+(n:Int))=(s.size:Int)+(n:Int):=zt _ (by omega);have w2:IntKind.i64.wrap ((s.size:Int)+(n:Int)+48)=(s.size:Int)+(n:Int)+48:=zt _ (by omega);by_cases h0:er=0
 ·subst h0;rw[zj rfl];go_enter func92,ntmps92;exact Azajb
 ·rw[zh h0];have he0:(er != 0)=true:=by simp;omega
  go_enter func92,ntmps92;exact Azajb
def Xv(ks n:Nat)(b:Int):Bool:=vp ks n b==0
theorem zlA(k:ByteArray)(a:Option Addr)(n c:Nat)(d b:Int)(w:World)(hs:k.size≤140737488355328)(hn:n≤140737488355328) :
  Calls prog 195 #[.agg #[.string k,.slice a n c,.int .u64 d,.int .u64 b]] w fun e w'=>e=.returned (.bool (Xv k.size n b))∧zb w w':=by
 unfold Xv;have hp0:zb w (w.alloc (.cells #[.string k,.slice a n c,.int .u64 d,.int .u64 b] 70)):=(Mod.refl _ w).alloc _;have z:=zk (w:=w) (o:=(.cells #[.string k,.slice a n c,.int .u64 d,.int .u64 b] 70 (0,0))) rfl;have HC:=za (fun W=>Qd k a n c b W hs hn);have HP:=za hp0;clear hp0;unfold J8 at HC;obtain⟨er,hE⟩:=zf (vp k.size n b);rw[hE]at HC ⊢;clear hE;go_enter func195,ntmps195;go_upto_region 1 with fail
 generalize w.alloc (.cells #[.string k,.slice a n c,.int .u64 d,.int .u64 b] 70)=W1 at *;generalize w.heap.size=b1 at *;obtain⟨z_0,z_1,z_2,z_3,z_f,z_l,H_z⟩:=cr4 z;clear z
 go_wp2_with (go_at_call 151;refine(HC.out _).mono ?_;rintro e w1 ⟨rfl,hp⟩)
 go_ret;exact⟨rfl,HP.out.trans hp⟩
structure Cfg where
 count:Int
 bytes:Int
 prot:Int
 seed:Nat
 same:Bool
def Cfg.cells(c:Cfg):Array Value:=#[.int .i64 c.count,.int .i64 c.bytes,.int .i64 c.prot,.int .u64 c.seed,.bool c.same]
abbrev Cfg.v(c:Cfg):Value := .agg #[.int .i64 c.count,.int .i64 c.bytes,.int .i64 c.prot,.int .u64 c.seed,.bool c.same]
def uK(n a b:Int):Bool:=decide (a≤n)&&decide (n≤b)
theorem zeN(n a b:Int)(w:World):Calls prog 52 #[.int .i64 n,.int .i64 a,.int .i64 b] w fun e w'=>e=.returned (.bool (uK n a b))∧w=w':=by
 unfold uK;by_cases h1:a≤n
 ·by_cases h2:n≤b
  ·go_enter func52,ntmps52;go_wp2;go_ret;exact⟨by simp[h1,h2],rfl⟩
  ·go_enter func52,ntmps52;go_wp2;go_ret;exact⟨by simp[h1,h2],rfl⟩
 ·go_enter func52,ntmps52;go_wp2;go_ret;exact⟨by simp;omega,rfl⟩
def Cfg.err(c:Cfg):Int:=if uK c.count 1 1048576 then(if uK c.bytes 1 1099511627776 then(if uK c.prot 0 99 then 0 else 242)else 241)else 240
theorem zdz(c:Cfg)(w:World):Calls prog 29 #[c.v] w fun e w'=>e=.returned (.int .i64 c.err)∧zb w w':=by
 obtain⟨cn,cb,cp,sd,sm⟩:=c;unfold Cfg.err;dsimp only[Cfg.v];have hp0:zb w (w.alloc (.cells #[.int .i64 cn,.int .i64 cb,.int .i64 cp,.int .u64 sd,.bool sm] 29)):=(Mod.refl _ w).alloc _;have z:=zk (w:=w) (o:=(.cells #[.int .i64 cn,.int .i64 cb,.int .i64 cp,.int .u64 sd,.bool sm] 29 (0,0))) rfl;have HP:=za hp0;have HB:=za zeN;clear hp0;generalize h1:uK cn 1 1048576=b1;generalize h2:uK cb 1 1099511627776=b2;generalize h3:uK cp 0 99=b3;have H1:=za h1;have H2:=za h2;have H3:=za h3;clear h1 h2 h3;go_enter func29,ntmps29;go_upto_region 1 with fail
 generalize w.alloc (.cells #[.int .i64 cn,.int .i64 cb,.int .i64 cp,.int .u64 sd,.bool sm] 29)=W1 at *;generalize w.heap.size=bb at *;obtain⟨z_0,z_1,z_2,z_3,z_4,z_f,z_l,H_z⟩:=cr5 z;clear z;have HT:=za HP.out
 go_wp2_with (go_at_call 52;refine(HB.out _ _ _ _).mono ?_;first | (rw[H1.out];rintro e w1 ⟨rfl,rfl⟩;cases b1) | (rw[H2.out];rintro e w1 ⟨rfl,rfl⟩;cases b2) | (rw[H3.out];rintro e w1 ⟨rfl,rfl⟩;cases b3))
 all_goals
  go_ret;exact⟨rfl,HT.out⟩
abbrev evV(k:Int)(key:ByteArray)(v:Value)(b d t:Nat):Value := .agg #[.int .i64 k,.string key,v,.int .u64 b,.int .u64 d,.int .u64 t]
def Xl(k:Int):Bool:=decide (1≤k)&&decide (k<6)
theorem zi4(k:Int)(w:World):Calls prog 200 #[.int .i64 k] w fun e w'=>e=.returned (.bool (Xl k))∧w=w':=by
 unfold Xl;by_cases h1:1≤k
 ·by_cases h2:k<6
  ·go_enter func200,ntmps200;go_wp2;go_ret;exact⟨by simp[h1,h2],rfl⟩
  ·go_enter func200,ntmps200;go_wp2;go_ret;exact⟨by simp;omega,rfl⟩
 ·go_enter func200,ntmps200;go_wp2;go_ret;exact⟨by simp;omega,rfl⟩
theorem zj5(k:Int)(key:ByteArray)(a:Option Addr)(n c b d t:Nat)(w:World):Calls prog 201 #[evV k key (.slice a n c) b d t] w fun e w'=>e=.returned (.agg #[.string key,.slice a n c,.int .u64 d,.int .u64 b])∧zb w w':=by
 have hp0:zb w ((w.alloc (.cells #[.int .i64 k,.string key,.slice a n c,.int .u64 b,.int .u64 d,.int .u64 t] 78)).alloc (.cells #[.string ⟨#[]⟩,.slice none 0 0,.int .u64 0,.int .u64 0] 70)):=((Mod.refl _ w).alloc _).alloc _;have z1:=zK (o := .cells #[.string ⟨#[]⟩,.slice none 0 0,.int .u64 0,.int .u64 0] 70) (zk (w:=w) (o := .cells #[.int .i64 k,.string key,.slice a n c,.int .u64 b,.int .u64 d,.int .u64 t] 78 (0,0)) rfl);have z2:=zk (w:=w.alloc (.cells #[.int .i64 k,.string key,.slice a n c,.int .u64 b,.int .u64 d,.int .u64 t] 78)) (o := .cells #[.string ⟨#[]⟩,.slice none 0 0,.int .u64 0,.int .u64 0] 70 (0,0)) (n:=w.heap.size+1) (by simp);have HP:=za hp0;clear hp0;go_enter func201,ntmps201;go_upto_region 1 with fail
 generalize(w.alloc (.cells #[.int .i64 k,.string key,.slice a n c,.int .u64 b,.int .u64 d,.int .u64 t] 78)).alloc (.cells #[.string ⟨#[]⟩,.slice none 0 0,.int .u64 0,.int .u64 0] 70)=W1 at *;obtain⟨b1,hb1⟩:=zf w.heap.size;rw[hb1]at z1 z2 ⊢;have HB:=za hb1;clear hb1;have Z2:=za z2;obtain⟨z1_0,z1_1,z1_2,z1_3,z1_4,z1_5,z1_f,z1_l,H_z1⟩:=cr6 z1;clear z1;obtain⟨z2_0,z2_1,z2_2,z2_3,z2_f,z2_l,H_z2⟩:=cr4 z2;clear z2;go_wp2;have h0:=zX W1 (b1+1) 0 _ _ (.string key) Z2.out;have h1:=zX _ (b1+1) 1 _ _ (.slice a n c) h0;have h2:=zX _ (b1+1) 2 _ _ (.int .u64 d) h1;have h3:=zX _ (b1+1) 3 _ _ (.int .u64 b) h2;have hm:Mod (fun k=>k=b1+1) W1 ((((W1.setCell ⟨b1+1,0,none⟩ (.string key)).setCell ⟨b1+1,1,none⟩ (.slice a n c)).setCell ⟨b1+1,2,none⟩ (.int .u64 d)).setCell ⟨b1+1,3,none⟩ (.int .u64 b)) :=
  ((((Mod.refl (fun k=>k=b1+1) W1).setCell (p:=⟨b1+1,0,none⟩) (fun _=>rfl) _).setCell (p:=⟨b1+1,1,none⟩) (fun _=>rfl) _).setCell (p:=⟨b1+1,2,none⟩) (fun _=>rfl) _).setCell (p:=⟨b1+1,3,none⟩) (fun _=>rfl) _
 obtain⟨Y,hY⟩:=zf (((((W1.setCell ⟨b1+1,0,none⟩ (.string key)).setCell ⟨b1+1,1,none⟩ (.slice a n c)).setCell ⟨b1+1,2,none⟩ (.int .u64 d)).setCell ⟨b1+1,3,none⟩ (.int .u64 b)));rw[hY]at h3 hm ⊢;have c0:=zi Y (b1+1) 0 _ _ _ h3;have c1:=zi Y (b1+1) 1 _ _ _ h3;have c2:=zi Y (b1+1) 2 _ _ _ h3;have c3:=zi Y (b1+1) 3 _ _ _ h3;simp at c0 c1 c2 c3;refine zR (v := .agg #[.string key,.slice a n c,.int .u64 d,.int .u64 b]) (by simp[results,results201,go_sem,c0,c1,c2,c3]) rfl ⟨rfl,?_⟩;exact HP.out.then hm (fun i hi e=>by have:=HB.out;omega)
def evB(k:Int)(ks n b d t:Nat):Bool:=Xl k&&(Xv ks n b&&(ke d t==(k==1)))
def EvS(b1:Nat)(k:Int)(key:ByteArray)(v:Value)(b d t:Nat)(X:World):Prop :=
 X.cell? ⟨b1,0,none⟩=some (.int .i64 k)∧X.cell? ⟨b1,1,none⟩=some (.string key)∧X.cell? ⟨b1,2,none⟩=some v∧X.cell? ⟨b1,3,none⟩=some (.int .u64 b)∧X.cell? ⟨b1,4,none⟩=some (.int .u64 d)∧X.cell? ⟨b1,5,none⟩=some (.int .u64 t)
theorem zgw(k:Int)(key:ByteArray)(a:Option Addr)(n c b d t:Nat)(w:World)(hs:key.size≤140737488355328)(hn:n≤140737488355328) :
  Calls prog 152 #[evV k key (.slice a n c) b d t] w fun e w'=>e=.returned (.bool (evB k key.size n b d t))∧zb w w':=by
 have hp0:zb w (w.alloc (.cells #[.int .i64 k,.string key,.slice a n c,.int .u64 b,.int .u64 d,.int .u64 t] 78)):=(Mod.refl _ w).alloc _;have z:=zk (w:=w) (o := .cells #[.int .i64 k,.string key,.slice a n c,.int .u64 b,.int .u64 d,.int .u64 t] 78 (0,0)) rfl;have HP:=za hp0;have HKi:=za (zi4 k);have HOf:=za (zj5 k key a n c b d t);have HVa:=za (fun W=>zlA key a n c d b W hs hn);have HDu:=za (JF d t);clear hp0;unfold evB;obtain⟨kb,hkb⟩:=zf (Xl k);obtain⟨vb,hvb⟩:=zf (Xv key.size n b);obtain⟨db,hdb⟩:=zf (ke d t);rw[hkb]at HKi ⊢;rw[hvb]at HVa ⊢;rw[hdb]at HDu ⊢;clear hkb hvb hdb
 cases kb
 ·go_enter func152,ntmps152;go_upto_region 1 with fail
  generalize w.alloc (.cells #[.int .i64 k,.string key,.slice a n c,.int .u64 b,.int .u64 d,.int .u64 t] 78)=W1 at *;generalize w.heap.size=b1 at *;have HS:=za (fun(X:World) (hX:zb W1 X)=>(⟨hX.cell (fun h=>h) (zi W1 b1 0 _ _ (0,0) z),hX.cell (fun h=>h) (zi W1 b1 1 _ _ (0,0) z),hX.cell (fun h=>h) (zi W1 b1 2 _ _ (0,0) z),hX.cell (fun h=>h) (zi W1 b1 3 _ _ (0,0) z),hX.cell (fun h=>h) (zi W1 b1 4 _ _ (0,0) z),hX.cell (fun h=>h) (zi W1 b1 5 _ _ (0,0) z)⟩:EvS b1 k key (.slice a n c) b d t X));refine qU (S:=EvS b1 k key (.slice a n c) b d t) (by kernel_rfl) (HS.out _ ((Mod.refl _ _).drew)) (fun h_ => ?_);refine hTk 0 ?_;refine hLd 1 ?_
  (refine hSt 2 (fun K hK => ?_);go_simp;refine(HKi.out _).mono ?_;rintro e u1 ⟨rfl,rfl⟩;refine hK.out _ _ ?_ (fun h_ => ?_);(· exact HS.out _ ((Mod.refl _ _).drew));clear hK K;refine clA ?_)
  refine hTk 3 ?_;refine hSk 4 ?_;refine hSk 5 ?_;refine hSk 6 ?_;refine hTk 7 ?_;refine hTk 8 ?_;refine hSk 9 ?_;refine hSk 10 ?_;refine hSk 11 ?_;refine hSk 12 ?_;refine hSk 13 ?_;refine hSk 14 ?_;refine hSk 15 ?_;refine hSk 16 ?_;refine hSk 17 ?_;refine hTk 18 ?_;refine hTk 19 ?_;refine hDn ?_;clear h_;go_wp2;go_ret;exact⟨rfl,HP.out.drew⟩
 ·cases vb
  ·go_enter func152,ntmps152;go_upto_region 1 with fail
   generalize w.alloc (.cells #[.int .i64 k,.string key,.slice a n c,.int .u64 b,.int .u64 d,.int .u64 t] 78)=W1 at *;generalize w.heap.size=b1 at *;have HS:=za (fun(X:World) (hX:zb W1 X)=>(⟨hX.cell (fun h=>h) (zi W1 b1 0 _ _ (0,0) z),hX.cell (fun h=>h) (zi W1 b1 1 _ _ (0,0) z),hX.cell (fun h=>h) (zi W1 b1 2 _ _ (0,0) z),hX.cell (fun h=>h) (zi W1 b1 3 _ _ (0,0) z),hX.cell (fun h=>h) (zi W1 b1 4 _ _ (0,0) z),hX.cell (fun h=>h) (zi W1 b1 5 _ _ (0,0) z)⟩:EvS b1 k key (.slice a n c) b d t X));refine qU (S:=EvS b1 k key (.slice a n c) b d t) (by kernel_rfl) (HS.out _ ((Mod.refl _ _).drew)) (fun h_ => ?_);refine hTk 0 ?_;refine hLd 1 ?_
   (refine hSt 2 (fun K hK => ?_);go_simp;refine(HKi.out _).mono ?_;rintro e u1 ⟨rfl,rfl⟩;refine hK.out _ _ ?_ (fun h_ => ?_);(· exact HS.out _ ((Mod.refl _ _).drew));clear hK K;refine clA ?_)
   refine hTk 3 ?_;refine hLd 4 ?_
   (refine hSt 5 (fun K hK => ?_);go_simp;refine(HOf.out _).mono ?_;rintro e u2 ⟨rfl,hp2⟩;refine hK.out _ _ ?_ (fun h_ => ?_);(· exact HS.out _ (Mod.of_drew hp2));clear hK K;refine clA ?_)
   (refine hSt 6 (fun K hK => ?_);go_simp;refine(HVa.out _).mono ?_;rintro e u3 ⟨rfl,hp3⟩;refine hK.out _ _ ?_ (fun h_ => ?_);(· exact HS.out _ ((Mod.of_drew hp2).trans hp3));clear hK K;refine clA ?_)
   refine hTk 7 ?_;refine hTk 8 ?_;refine hSk 9 ?_;refine hSk 10 ?_;refine hSk 11 ?_;refine hSk 12 ?_;refine hSk 13 ?_;refine hSk 14 ?_;refine hSk 15 ?_;refine hSk 16 ?_;refine hSk 17 ?_;refine hTk 18 ?_;refine hTk 19 ?_;refine hDn ?_;clear h_;go_wp2;go_ret;exact⟨rfl,HP.out.trans ((Mod.of_drew hp2).trans hp3)⟩
  ·go_enter func152,ntmps152;go_upto_region 1 with fail
   generalize w.alloc (.cells #[.int .i64 k,.string key,.slice a n c,.int .u64 b,.int .u64 d,.int .u64 t] 78)=W1 at *;generalize w.heap.size=b1 at *;have HS:=za (fun(X:World) (hX:zb W1 X)=>(⟨hX.cell (fun h=>h) (zi W1 b1 0 _ _ (0,0) z),hX.cell (fun h=>h) (zi W1 b1 1 _ _ (0,0) z),hX.cell (fun h=>h) (zi W1 b1 2 _ _ (0,0) z),hX.cell (fun h=>h) (zi W1 b1 3 _ _ (0,0) z),hX.cell (fun h=>h) (zi W1 b1 4 _ _ (0,0) z),hX.cell (fun h=>h) (zi W1 b1 5 _ _ (0,0) z)⟩:EvS b1 k key (.slice a n c) b d t X));refine qU (S:=EvS b1 k key (.slice a n c) b d t) (by kernel_rfl) (HS.out _ ((Mod.refl _ _).drew)) (fun h_ => ?_);refine hTk 0 ?_;refine hLd 1 ?_
   (refine hSt 2 (fun K hK => ?_);go_simp;refine(HKi.out _).mono ?_;rintro e u1 ⟨rfl,rfl⟩;refine hK.out _ _ ?_ (fun h_ => ?_);(· exact HS.out _ ((Mod.refl _ _).drew));clear hK K;refine clA ?_)
   refine hTk 3 ?_;refine hLd 4 ?_
   (refine hSt 5 (fun K hK => ?_);go_simp;refine(HOf.out _).mono ?_;rintro e u2 ⟨rfl,hp2⟩;refine hK.out _ _ ?_ (fun h_ => ?_);(· exact HS.out _ (Mod.of_drew hp2));clear hK K;refine clA ?_)
   (refine hSt 6 (fun K hK => ?_);go_simp;refine(HVa.out _).mono ?_;rintro e u3 ⟨rfl,hp3⟩;refine hK.out _ _ ?_ (fun h_ => ?_);(· exact HS.out _ ((Mod.of_drew hp2).trans hp3));clear hK K;refine clA ?_)
   refine hTk 7 ?_;refine hTk 8 ?_;refine hTk 9 ?_;refine hLd 10 ?_;refine hTk 11 ?_;refine hLd 12 ?_;refine hTk 14 ?_;refine hLd 15 ?_;refine hTk 16 ?_
   (refine hSt 13 (fun K hK => ?_);go_simp;refine(HDu.out _).mono ?_;rintro e u4 ⟨rfl,rfl⟩;refine hK.out _ _ ?_ (fun h_ => ?_);(· exact HS.out _ ((Mod.of_drew hp2).trans hp3));clear hK K;refine clA ?_)
   refine hTk 17 ?_;refine hTk 18 ?_;refine hTk 19 ?_;refine hDn ?_;clear h_;go_wp2;go_ret;exact⟨by simp,HP.out.trans ((Mod.of_drew hp2).trans hp3)⟩
structure Bu where
 c0:Nat
 s0:Nat
 c1:Nat
 s1:Nat
def Bu.cells(mc mb:Nat)(U:Bu):Array Value:=#[.int .i64 mc,.int .i64 mb,.int .i64 U.c0,.int .i64 U.s0,.int .i64 U.c1,.int .i64 U.s1]
structure yV(w:World)(u mc mb:Nat)(U:Bu):Prop where
 box:w.heap[u]? = some (.cells #[.int .i64 mc,.int .i64 mb,.int .i64 U.c0,.int .i64 U.s0,.int .i64 U.c1,.int .i64 U.s1] 178 (0,0))
 c:1≤mc∧mc≤1048576
 b:1≤mb∧mb≤1099511627776
 u0:U.c0≤2097152∧U.s0≤2305843009213693952
 u1:U.c1≤2097152∧U.s1≤2305843009213693952
abbrev buP(u:Nat):Value := .pointer (some ⟨u,0,none⟩)
abbrev prV(a b:Int):Value := .agg #[.int .i64 a,.int .i64 b]
section
variable{w w':World}{u mc mb:Nat}{U:Bu}
theorem yV.frame{S:Nat→Prop}(h:yV w u mc mb U)(hm:Mod S w w')(hn : ¬ S u):yV w' u mc mb U:=⟨hm.heap hn h.box,h.c,h.b,h.u0,h.u1⟩
theorem yV.pure(h:yV w u mc mb U)(hm:zb w w'):yV w' u mc mb U:=h.frame hm (fun h=>h)
theorem ZA(a b c d:Int)(h1:IntKind.i64.wrap (a+c)=a+c)(h2:IntKind.i64.wrap (b+d)=b+d)(w:World):Calls prog 126 #[prV a b,prV c d] w fun e w'=>e=.returned (prV (a+c) (b+d))∧zb w w':=by
 have hp0:zb w (((w.alloc (.cells #[.int .i64 a,.int .i64 b] 175)).alloc (.cells #[.int .i64 c,.int .i64 d] 175)).alloc (.cells #[.int .i64 0,.int .i64 0] 175)):=(((Mod.refl _ w).alloc _).alloc _).alloc _;have z2:=zK (o := .cells #[.int .i64 0,.int .i64 0] 175) (zK (o := .cells #[.int .i64 c,.int .i64 d] 175) (zk (w:=w) (o:=(.cells #[.int .i64 a,.int .i64 b] 175 (0,0))) rfl));have z3:=zK (o := .cells #[.int .i64 0,.int .i64 0] 175) (zk (w:=w.alloc (.cells #[.int .i64 a,.int .i64 b] 175)) (o:=(.cells #[.int .i64 c,.int .i64 d] 175 (0,0))) (n:=w.heap.size+1) (by simp));have z4:=zk (w:=(w.alloc (.cells #[.int .i64 a,.int .i64 b] 175)).alloc (.cells #[.int .i64 c,.int .i64 d] 175)) (o:=(.cells #[.int .i64 0,.int .i64 0] 175 (0,0))) (n:=w.heap.size+1+1) (by simp);have HP:=za hp0;clear hp0;go_enter func126,ntmps126;go_upto_region 1 with fail
 generalize(((w.alloc (.cells #[.int .i64 a,.int .i64 b] 175)).alloc (.cells #[.int .i64 c,.int .i64 d] 175)).alloc (.cells #[.int .i64 0,.int .i64 0] 175))=W1 at *;obtain⟨b2,hb2⟩:=zf w.heap.size;rw[hb2]at z2 z3 z4 ⊢;have HB:=za hb2;clear hb2;obtain⟨z2_0,z2_1,z2_f,z2_l,H_z2⟩:=cr2 z2;clear z2;obtain⟨z3_0,z3_1,z3_f,z3_l,H_z3⟩:=cr2 z3;clear z3;obtain⟨z4_0,z4_1,z4_f,z4_l,H_z4⟩:=cr2 z4;clear z4;go_wp2;obtain⟨f1,x0,x1⟩:=jM (v0 := .int .i64 (a+c)) (v1 := .int .i64 (b+d)) H_z4.out HP.out (by have:=HB.out;omega) rfl;obtain⟨Y,hY⟩:=zf ((W1.setCell ⟨b2+1+1,0,none⟩ (.int .i64 (a+c))).setCell ⟨b2+1+1,1,none⟩ (.int .i64 (b+d)));rw[hY]at f1 x0 x1 ⊢;exact zR (v:=prV (a+c) (b+d)) (by simp[results,results126,go_sem,x0,x1]) rfl ⟨rfl,f1⟩
theorem JV(a b:Int)(w:World):Calls prog 141 #[prV a b] w fun e w'=>e=.returned (.bool (decide (a≤2097152)&&decide (b≤2305843009213693952)))∧zb w w':=by
 have hp0:zb w (w.alloc (.cells #[.int .i64 a,.int .i64 b] 175)):=(Mod.refl _ w).alloc _;have z:=zk (w:=w) (o:=(.cells #[.int .i64 a,.int .i64 b] 175 (0,0))) rfl;have HP:=za hp0;clear hp0;go_enter func141,ntmps141;go_upto_region 1 with fail
 generalize w.alloc (.cells #[.int .i64 a,.int .i64 b] 175)=W1 at *;generalize w.heap.size=b1 at *;obtain⟨z_0,z_1,z_f,z_l,H_z⟩:=cr2 z;clear z;by_cases h1:a≤2097152
 ·go_wp2;go_ret;exact⟨by simp[h1],HP.out⟩
 ·go_wp2;go_ret;exact⟨by simp;omega,HP.out⟩
theorem zgm(c b:Int)(w:World):Calls prog 100 #[.int .i64 c,.int .i64 b] w fun e w'=>e=.returned (.bool (uK c 1 1048576&&uK b 1 1099511627776))∧w=w':=by
 unfold uK;by_cases h1:1≤c<;>by_cases h2:c≤1048576<;>by_cases h3:1≤b<;>by_cases h4:b≤1099511627776
 all_goals
  go_enter func100,ntmps100;go_wp2;go_ret;exact⟨by simp[h1,h2,h3,h4],rfl⟩
theorem za0(h:yV w u mc mb U):Calls prog 163 #[buP u] w fun e w'=>e=.returned (.bool false)∧w=w':=by
 have hb:=h.box;have hc:=h.c;have hne:((mc:Int)==0)=false:=by simp;omega
 clear h;obtain⟨hb_0,hb_1,hb_2,hb_3,hb_4,hb_5,hb_f,hb_l,H_hb⟩:=cr6 hb;clear hb;go_enter func163,ntmps163;go_wp2;go_ret;exact⟨rfl,rfl⟩
theorem XR(h:yV w u mc mb U){g:Nat}(hg:g≤1){c:Nat}(hc:c≤1099511627776):Calls prog 124 #[buP u,.int .i64 g,.int .i64 c] w fun e w'=>e=.returned (.int .i64 0)∧w=w':=by
 have HN:=za (za0 h);have h1 : ¬ ((c:Int)<0):=by omega
 have h2 : ¬ (1099511627776:Int)<(c:Int):=by omega
 clear h;obtain rfl | rfl:g=0∨g=1:=by omega
 all_goals
  go_enter func124,ntmps124
  go_wp2_with (go_at_call 163;refine HN.out.mono ?_;rintro e w' ⟨rfl,rfl⟩)
  go_ret;exact⟨rfl,rfl⟩
def Bu.cnt(U:Bu)(g:Nat):Nat:=if g=0 then U.c0 else U.c1
def Bu.sum(U:Bu)(g:Nat):Nat:=if g=0 then U.s0 else U.s1
def Bu.holds(U:Bu)(g c:Nat):Prop:=(1<U.cnt g∧c≤U.sum g)∨(U.cnt g=1∧U.sum g=c)
theorem KV(h:yV w u mc mb U){g:Nat}(hg:g≤1){c:Nat}(hc:c≤1099511627776)(hh:U.holds g c):Calls prog 125 #[buP u,.int .i64 g,.int .i64 c] w fun e w'=>e=.returned (.bool true)∧zb w w':=by
 have hb:=h.box;clear h;obtain⟨c0,s0,c1,s1⟩:=U;unfold Bu.holds Bu.cnt Bu.sum at hh;obtain⟨hb_0,hb_1,hb_2,hb_3,hb_4,hb_5,hb_f,hb_l,H_hb⟩:=cr6 hb;clear hb;obtain rfl | rfl:g=0∨g=1:=by omega
 ·simp only[if_true]at hh;have z:=zk (w:=w) (o:=(.cells #[.int .i64 c0,.int .i64 s0] 175 (0,0))) rfl;have hp:zb w (w.alloc (.cells #[.int .i64 c0,.int .i64 s0] 175)):=(Mod.refl _ w).alloc _;have HP:=za hp;clear hp;go_enter func125,ntmps125;go_upto_region 2 with fail
  generalize w.alloc (.cells #[.int .i64 c0,.int .i64 s0] 175)=W1 at *;generalize w.heap.size=b1 at *;obtain⟨z_0,z_1,z_f,z_l,H_z⟩:=cr2 z;clear z;rcases hh with⟨h1,h2⟩ | ⟨h1,h2⟩
  ·have h1':(1:Int)<(c0:Int):=by omega
   have h2':(c:Int)≤(s0:Int):=by omega
   go_wp2;go_ret;exact⟨rfl,HP.out⟩
  ·subst h1 h2;go_wp2;go_ret;exact⟨by simp,HP.out⟩
 ·simp only[Nat.one_ne_zero,if_false]at hh;have z:=zk (w:=w) (o:=(.cells #[.int .i64 c1,.int .i64 s1] 175 (0,0))) rfl;have hp:zb w (w.alloc (.cells #[.int .i64 c1,.int .i64 s1] 175)):=(Mod.refl _ w).alloc _;have HP:=za hp;clear hp;go_enter func125,ntmps125;go_upto_region 2 with fail
  generalize w.alloc (.cells #[.int .i64 c1,.int .i64 s1] 175)=W1 at *;generalize w.heap.size=b1 at *;obtain⟨z_0,z_1,z_f,z_l,H_z⟩:=cr2 z;clear z;rcases hh with⟨h1,h2⟩ | ⟨h1,h2⟩
  ·have h1':(1:Int)<(c1:Int):=by omega
   have h2':(c:Int)≤(s1:Int):=by omega
   go_wp2;go_ret;exact⟨rfl,HP.out⟩
  ·subst h1 h2;go_wp2;go_ret;exact⟨by simp,HP.out⟩
end
theorem zhP{w:World}{gF:Nat}{F:List Nd}{T:TypeId}{n a b:Nat}(ha:(nd F n).pv=a)(hb:(nd F n).nx=b)(h:w.heap[gF]? = some (.cells (xg F).toArray T (0,0)))(haF:a<F.length)(hbF:b<F.length) :
  ((w.setCell ⟨gF,a*3+1,none⟩ (.int .u32 b)).setCell ⟨gF,b*3,none⟩ (.int .u32 a)).heap[gF]? = some (.cells (xg ((F.set a ⟨(nd F a).pv,b,(nd F a).ow⟩).set b ⟨a,(nd (F.set a ⟨(nd F a).pv,b,(nd F a).ow⟩) b).nx,(nd (F.set a ⟨(nd F a).pv,b,(nd F a).ow⟩) b).ow⟩)).toArray T (0,0)):=by
 have h1:=Zy h (i:=a) (j:=1) (u := .int .u32 b) (m:=⟨(nd F a).pv,b,(nd F a).ow⟩) haF (by decide) rfl;exact Zy h1 (i:=b) (j:=0) (u := .int .u32 a) (by simpa using hbF) (by decide) rfl
def VS(p b6:Nat)(v0 v1 u0 u1:Value)(w':World):Prop:=w'.cell? ⟨p,0,none⟩=some v0∧w'.cell? ⟨p,2,none⟩=some v1∧w'.cell? ⟨b6,0,none⟩=some u0∧w'.cell? ⟨b6,1,none⟩=some u1
theorem VS.set{p b6 g i:Nat}{v0 v1 u0 u1 v:Value}{X:World}(h:VS p b6 v0 v1 u0 u1 X)(h1:g≠p)(h2:g≠b6):VS p b6 v0 v1 u0 u1 (X.setCell ⟨g,i,none⟩ v) :=
 ⟨kM h.1 (.inl h1),kM h.2.1 (.inl h1),kM h.2.2.1 (.inl h2),kM h.2.2.2 (.inl h2)⟩
section
variable{w w':World}{p gF gL cF cL N:Nat}{Ls:List (List Nat)}{F:List Nd}{D:Nat→Prop}
theorem zld(h:xf w p gF gL cF cL N Ls F){n k:Nat}{l:List Nat}(hl:Ls[k]? = some l)(hm:n∈l) :
  Calls prog 229 #[lkP p,.int .u32 n] w fun e w'=>e=.returned (.int .i64 0)∧xf w' p gF gL cF cL N (Ls.set k (l.erase n)) (kD F n)∧Mod (fun b=>b=gF∨b=gL) w w':=by
 obtain⟨a1,hn,how,haF,hbF,han,hbn⟩:=h.ok.cut hl hm;have hk:k<Ls.length:=(zE.1 hl).1;have hk4:k<4096:=by have:=h.hm;omega
 have hnF:n<F.length:=by rw[h.ok.len];omega
 have h32:n≤4294967295:=by have:=h.nm;omega
 have HI:=za4 h h32;have e0:inE N F n=0:=by unfold inE;rw[zj hn,zh (by omega)]
 rw[e0]at HI;have HI:=za HI;have hll:l.length≤N:=h.ok.short hl;have hl0:0<l.length:=Uv hm;have hnm:=h.nm;have hend : ∀(w':World),w'.heap[gF]? = some (.cells (xg (kD F n)).toArray 315 (0,0))→w'.heap[gL]? = some (.cells ((uc Ls).set k (.int .i64 ((l.length-1:Nat):Int))).toArray 3 (0,0))→Mod (fun b=>b=gF∨b=gL) w w'→xf w' p gF gL cF cL N (Ls.set k (l.erase n)) (kD F n):=fun w' g1 g2 g3=>by
  obtain⟨n1,n2,n3⟩:=h.ne;refine⟨?_,g1,?_,a1,h.n1,h.nm,by rw[xC];exact h.hm⟩
  ·rw[zae,xC];exact g3.heap (fun e=>by rcases e with e | e;exact n1 e;exact n2 e) h.box
  ·rw[← zad,List.length_erase_of_mem hm];exact g2
 have HE:=za hend;have hFb:F.length≤4198400:=by rw[h.ok.len];have:=h.hm;omega
 obtain⟨c0,c1,c2⟩:=h.at_ hnF;rw[how]at c2;obtain⟨ne1,ne2,ne3⟩:=h.ne;have HFL:=za h.fld;have HLN:=za h.len;have HNX:=za (fun(X:World) (hX:X.heap[gL]? = some (.cells (uc Ls).toArray 3 (0,0)))=>(show X.cell? ⟨gL,k,none⟩=some (.int .i64 (l.length:Nat)) by rw[zi X gL k _ _ (0,0) hX,vK];exact KJ hl));have hbx:=h.box;have hp6:p<w.heap.size:=zm hbx;have hg6:gF<w.heap.size:=zm h.fld;have hL6:gL<w.heap.size:=zm h.len;obtain⟨FL,hFL⟩:=zf F.length;obtain⟨a,ha⟩:=zf ((nd F n).pv);obtain⟨b,hb⟩:=zf ((nd F n).nx);rw[ha]at haF han c0;rw[hb]at hbF hbn c1;rw[hFL]at hbx hFb hnF haF hbF;have HBX:=za hbx;have HA:=za ha;have HB:=za hb;have HFLe:=za hFL;have HOW:=za how;clear h hend hFL a1 hl hm ha hb how e0 hbx;have hbx:=HBX.out;obtain⟨kk,hkk⟩:=zf (k+1);rw[hkk]at c2 HOW;have wk:IntKind.u32.wrap ((kk:Int)-1)=(k:Int):=by rw[← hkk,show((k+1:Nat):Int)-1=(k:Int) by omega];exact XY k (by omega)
 have dn:decide (n<FL)=true:=zQ hnF;have da:decide (a<FL)=true:=zQ haF;have db:decide (b<FL)=true:=zQ hbF;clear hkk;obtain⟨hbx_0,hbx_1,hbx_2,hbx_f,hbx_l,H_hbx⟩:=cr3 hbx;clear hbx;go_enter func229,ntmps229;go_upto_region 5 with(go_at_call 238;refine HI.out.mono ?_;rintro e w' ⟨rfl,rfl⟩)
 have hal:zb w (w.alloc (.cells #[.int .u32 a,.int .u32 b,.int .u32 kk] 315)):=(Mod.refl _ w).alloc _;have h6:=zk (w:=w) (o := .cells #[.int .u32 a,.int .u32 b,.int .u32 kk] 315 (0,0)) rfl;have hbx0:=hal.heap (fun h=>h) HBX.out;have hf0:=hal.heap (fun h=>h) HFL.out;have hl0':=hal.heap (fun h=>h) HLN.out;have n6:gF≠w.heap.size:=by omega
 have n6L:gL≠w.heap.size:=by omega
 have HM0:=za hal;clear hbx_0 hbx_1 hbx_2 hbx_f hbx_l;clear H_hbx c0 c1 c2 hal hp6 hg6 hL6;generalize w.alloc (.cells #[.int .u32 a,.int .u32 b,.int .u32 kk] 315)=X0 at *;generalize w.heap.size=b6 at *;have HF0:=za hf0;have HL0:=za hl0';have HBX0:=za hbx0;have H60:=za h6;obtain⟨r0,r1,r2⟩:=Zq hf0 (i:=a) (by rw[HFLe.out];exact haF);obtain⟨s0,s1,s2⟩:=Zq hf0 (i:=b) (by rw[HFLe.out];exact hbF);have g0:=yS X0 gF (a*3+1) _ _ hf0;have g1:=yS X0 gF (b*3) _ _ hf0;have hX:gF<X0.heap.size:=zm hf0;clear hf0 hl0';obtain⟨hbx0_0,hbx0_1,hbx0_2,hbx0_f,hbx0_l,H_hbx0⟩:=cr3 hbx0;clear hbx0;obtain⟨h6_0,h6_1,h6_2,h6_f,h6_l,H_h6⟩:=cr3 h6;clear h6;have HS:Hid (VS p b6 (.slice (some ⟨gF,0,none⟩) FL cF) (.slice (some ⟨gL,0,none⟩) Ls.length cL) (.int .u32 a) (.int .u32 b) X0):=za ⟨hbx0_0,hbx0_2,h6_0,h6_1⟩;go_upto_region 5 with fail
 go_region_held3 (fun w'=>w'.cell? ⟨p,0,none⟩=some (.slice (some ⟨gF,0,none⟩) FL cF)∧w'.cell? ⟨p,2,none⟩=some (.slice (some ⟨gL,0,none⟩) Ls.length cL)∧w'.cell? ⟨b6,0,none⟩=some (.int .u32 a)∧w'.cell? ⟨b6,1,none⟩=some (.int .u32 b))
  (first | exact HS.out | exact HS.out.set ne1.symm n6 | exact(HS.out.set ne1.symm n6).set ne1.symm n6) (fail)
 have hm2:Mod (fun b=>b=gF) X0 ((X0.setCell ⟨gF,a*3+1,none⟩ (.int .u32 b)).setCell ⟨gF,b*3,none⟩ (.int .u32 a)).drew :=
  (((Mod.refl (fun b=>b=gF) X0).setCell (p:=⟨gF,a*3+1,none⟩) (fun _=>rfl) _).setCell (p:=⟨gF,b*3,none⟩) (fun _=>rfl) _).drew
 have hf2:((X0.setCell ⟨gF,a*3+1,none⟩ (.int .u32 b)).setCell ⟨gF,b*3,none⟩ (.int .u32 a)).drew.heap[gF]? = _:=zhP HA.out HB.out HF0.out (by rw[HFLe.out];exact haF) (by rw[HFLe.out];exact hbF);generalize((X0.setCell ⟨gF,a*3+1,none⟩ (.int .u32 b)).setCell ⟨gF,b*3,none⟩ (.int .u32 a)).drew=X2 at hm2 hf2 ⊢;have hbx2:=hm2.heap (fun e=>ne1 e) HBX0.out;have hln2:=hm2.heap (fun e=>ne3 e.symm) HL0.out;have h62:=hm2.heap (fun e=>n6 e.symm) H60.out;have hl9:=HNX.out _ hln2;clear hbx0_0 hbx0_1 hbx0_2 hbx0_f hbx0_l;clear h6_0 h6_1 h6_2 h6_f h6_l;clear H_hbx0 H_h6 r0 r1 r2 s0 s1 s2 g0 g1 hX HS;have g0:=yS X2 gL k _ _ hln2;have HM:=za ((HM0.out.mono (fun _ _ h=>h.elim)).trans (hm2.mono (fun _ _ h=>Or.inl h)):Mod (fun b=>b=gF∨b=gL) w X2);have HF2:=za hf2;have HL2:=za hln2;have hX2:gL<X2.heap.size:=zm hln2;have hX3:gF<X2.heap.size:=zm hf2;clear hm2 hf2 hln2;have dk:decide (k<Ls.length)=true:=zQ hk;have wl:IntKind.i64.wrap ((l.length:Int)-1)=(l.length:Int)-1:=zt _ (by omega);obtain⟨hbx2_0,hbx2_1,hbx2_2,hbx2_f,hbx2_l,H_hbx2⟩:=cr3 hbx2;clear hbx2;obtain⟨h62_0,h62_1,h62_2,h62_f,h62_l,H_h62⟩:=cr3 h62;clear h62;go_upto_region 6 with fail
 go_still_tail 11,(by kernel_rfl)
 go_upto_region 7 with fail
 have e1:(X2.setCell ⟨gL,k,none⟩ (.int .i64 ((l.length:Int)-1))).drew.heap[gF]? = _:=xp HF2.out ne3;have e2:(X2.setCell ⟨gL,k,none⟩ (.int .i64 ((l.length:Int)-1))).drew.heap[gL]? = _:=zX X2 gL k _ _ (.int .i64 ((l.length:Int)-1)) HL2.out;rw[Yh,show((l.length:Int)-1)=((l.length-1:Nat):Int) by omega]at e2;rw[show((l.length:Int)-1)=((l.length-1:Nat):Int) by omega]at e1;have e3:=(HM.out.setCell (p:=⟨gL,k,none⟩) (fun _ => .inr rfl) (.int .i64 ((l.length-1:Nat):Int))).drew;have e4:(X2.setCell ⟨gL,k,none⟩ (.int .i64 ((l.length-1:Nat):Int))).drew.heap[p]? = _:=xp H_hbx2.out ne2;rw[show((l.length:Int)-1)=((l.length-1:Nat):Int) by omega];clear hbx2_0 hbx2_1 hbx2_2 hbx2_f hbx2_l;clear h62_0 h62_1 h62_2 h62_f h62_l;clear H_hbx2 H_h62 wl dk hl9 g0 hX2 hX3;generalize(X2.setCell ⟨gL,k,none⟩ (.int .i64 ((l.length-1:Nat):Int))).drew=X3 at e1 e2 e3 e4 ⊢;obtain⟨q0,q1,q2⟩:=Zq e1 (i:=n) (by simp;rw[HFLe.out];exact hnF);have g0:=yS X3 gF (n*3) _ _ e1;have g1:=yS X3 gF (n*3+1) _ _ e1;have g2:=yS X3 gF (n*3+2) _ _ e1;have hX3:gF<X3.heap.size:=zm e1;have HE1:=za e1;have HE2:=za e2;have HE3:=za e3;have hfin:=Jd e1 (i:=n) (by simp;rw[HFLe.out];exact hnF) 0 0 0;have HFIN:=za hfin;clear e1 e2 e3 hfin;obtain⟨e4_0,e4_1,e4_2,e4_f,e4_l,H_e4⟩:=cr3 e4;clear e4;go_wp2;have r1:=HFIN.out;have r2:=xp (v := .int .u32 0) (xp (v := .int .u32 0) (xp (a:=⟨gF,n*3,none⟩) (v := .int .u32 0) HE2.out (fun e=>ne3 e.symm)) (a:=⟨gF,n*3+1,none⟩) (fun e=>ne3 e.symm)) (a:=⟨gF,n*3+2,none⟩) (fun e=>ne3 e.symm);have r3:=((HE3.out.setCell (p:=⟨gF,n*3,none⟩) (fun _ => .inl rfl) (.int .u32 0)).setCell (p:=⟨gF,n*3+1,none⟩) (fun _ => .inl rfl) (.int .u32 0)).setCell (p:=⟨gF,n*3+2,none⟩) (fun _ => .inl rfl) (.int .u32 0);go_ret;refine⟨rfl,HE.out _ ?_ r2 r3,r3⟩;unfold kD;rw[HA.out,HB.out];exact r1
theorem zdI(h:yl w D p N Ls){n k:Nat}{l:List Nat}(hl:Ls[k]? = some l)(hm:n∈l) :
  Calls prog 229 #[lkP p,.int .u32 n] w fun e w'=>e=.returned (.int .i64 0)∧yl w' D p N (Ls.set k (l.erase n))∧Mod D w w':=by
 obtain⟨gF,gL,cF,cL,F,h1,h2⟩:=h;refine(zld h1 hl hm).mono ?_;rintro e w' ⟨he,q1,q2⟩;exact⟨he,⟨gF,gL,cF,cL,_,q1,h2⟩,q2.mono (fun k _ hk=>(h2 k).2 (.inr hk))⟩
end
theorem zgq(n:Nat)(hn:n<18446744073709551616)(hb0:4294967296≤n)(w:World):Calls prog 251 #[.int .u64 n] w fun e w'=>e=.returned (.int .i64 (yR n))∧w=w':=by
 have d0:decide (4294967296≤(n:Int))=true:=zQ (by omega);have hbb:=ZH (n:=n) (j:=32) hb0;obtain⟨q,hq⟩:=zf (n/2 ^ 32);have e0:(n:Int)/4294967296=(q:Int):=by omega
 have hq2:q<4294967296:=by omega
 rw[hq]at hbb;have n0:(0:Int)≤n:=by omega
 have q0:(0:Int)≤q:=by omega
 by_cases c1:65536≤q
 ·have d1:decide (65536≤(q:Int))=true:=zQ (by omega);have hb:=ZH (n:=q) (j:=16) c1;obtain⟨k,hk⟩:=zf (q/2 ^ 16);have e1:(q:Int)/65536=(k:Int):=by omega
  have hk2:k<65536:=by omega
  rw[hk]at hb;have k0:(0:Int)≤k:=by omega
  by_cases c2:256≤k
  ·have d2:decide (256≤(k:Int))=true:=zQ (by omega);have hb2:=ZH (n:=k) (j:=8) c2;obtain⟨m,hm⟩:=zf (k/2 ^ 8);have e2:(k:Int)/256=(m:Int):=by omega
   have hm2:m<256:=by omega
   rw[hm]at hb2;have m0:(0:Int)≤m:=by omega
   have m1:(m:Int)<256:=by omega
   have w8:IntKind.u8.wrap (m:Int)=m:=by simp[IntKind.wrap,IntKind.signed,IntKind.bits];omega
   go_enter func251,ntmps251;go_wp2;go_ret;exact⟨congrArg (fun x=>Ending.returned (.int .i64 x)) (qI 56 _ (by decide) (by decide +kernel) m hm2 _ n (by omega) (by omega)),rfl⟩
  ·have d2:decide (256≤(k:Int))=false:=zU (by omega);have m1:(k:Int)<256:=by omega
   have w8:IntKind.u8.wrap (k:Int)=k:=by simp[IntKind.wrap,IntKind.signed,IntKind.bits];omega
   go_enter func251,ntmps251;go_wp2;go_ret;exact⟨congrArg (fun x=>Ending.returned (.int .i64 x)) (qI 48 _ (by decide) (by decide +kernel) k (by omega) _ n (by omega) (by omega)),rfl⟩
 ·have d1:decide (65536≤(q:Int))=false:=zU (by omega);by_cases c2:256≤q
  ·have d2:decide (256≤(q:Int))=true:=zQ (by omega);have hb2:=ZH (n:=q) (j:=8) c2;obtain⟨m,hm⟩:=zf (q/2 ^ 8);have e2:(q:Int)/256=(m:Int):=by omega
   have hm2:m<256:=by omega
   rw[hm]at hb2;have m0:(0:Int)≤m:=by omega
   have m1:(m:Int)<256:=by omega
   have w8:IntKind.u8.wrap (m:Int)=m:=by simp[IntKind.wrap,IntKind.signed,IntKind.bits];omega
   go_enter func251,ntmps251;go_wp2;go_ret;exact⟨congrArg (fun x=>Ending.returned (.int .i64 x)) (qI 40 _ (by decide) (by decide +kernel) m hm2 _ n (by omega) (by omega)),rfl⟩
  ·have d2:decide (256≤(q:Int))=false:=zU (by omega);have m1:(q:Int)<256:=by omega
   have w8:IntKind.u8.wrap (q:Int)=q:=by simp[IntKind.wrap,IntKind.signed,IntKind.bits];omega
   go_enter func251,ntmps251;go_wp2;go_ret;exact⟨congrArg (fun x=>Ending.returned (.int .i64 x)) (qI 32 _ (by decide) (by decide +kernel) q (by omega) _ n (by omega) (by omega)),rfl⟩
theorem ziT(n:Nat)(hn:n<18446744073709551616)(w:World):Calls prog 251 #[.int .u64 n] w fun e w'=>e=.returned (.int .i64 (yR n))∧w=w':=by
 by_cases h:n<4294967296
 ·exact zaJ n h w
 ·exact zgq n hn (by omega) w
theorem zhr{now dl:Nat}(hn:now<18446744073709551616)(hd:dl<18446744073709551616)(h:dl≠now):1≤yR (dl ^^^ now)∧yR (dl ^^^ now)≤64∧(yR (dl ^^^ now)-1)/8=lvl now dl:=by
 have h0:dl ^^^ now≠0:=fun e=>h (Kb.1 e)
 have hx:dl ^^^ now<2 ^ 64:=qS hd hn;have hb:yR (dl ^^^ now)=Nat.log2 (dl ^^^ now)+1:=by unfold yR;rw[zh h0]
 have h1:=zdo (dl ^^^ now);have h2:2 ^ (yR (dl ^^^ now)-1)≤dl ^^^ now:=by rw[hb];exact Nat.log2_self_le h0
 exact⟨by omega,Qs hx,zeF hn hd h h1 h2 (by omega)⟩
end
section
open Go.RowKit Go.Shelf
attribute [local go_sem] Oper.semAt_some
abbrev jF(b:Nat):Value := .pointer (some ⟨b,0,none⟩)
def Ctr(w:World)(b:Nat)(n:Nat):Prop:=w.heap[b]? = some (.cells #[.bool true,.int .u64 n] 183 (0,0))
def Qk(w:World)(v:Value):Prop:=v=.pointer none ∨ ∃ b,v=jF b∧w.heap[b]? = some (.cells #[.bool false,.int .u64 0] 183 (0,0))
theorem Qk.pure{w w':World}{v:Value}(h:Qk w v)(hp:zb w w'):Qk w' v:=by
 rcases h with h | ⟨b,h1,h2⟩
 ·exact .inl h
 ·exact .inr ⟨b,h1,hp.heap (fun h=>h) h2⟩
theorem Ctr.pure{w w':World}{b n:Nat}(h:Ctr w b n)(hp:zb w w'):Ctr w' b n:=hp.heap (fun h=>h) h
theorem zek(n:Nat)(w:World):Calls prog 58 #[.int .u64 n] w fun e w'=>e=.returned (jF w.heap.size)∧Ctr w' w.heap.size n∧zb w w'∧w.heap.size<w'.heap.size:=by
 go_enter func58,ntmps58;go_wp2;go_ret;exact⟨rfl,zk rfl,(Mod.refl _ w).alloc _,by simp⟩
theorem zdU{w:World}{b n:Nat}(h:Ctr w b n):Calls prog 174 #[jF b] w fun e w'=>e=.returned (.bool false)∧w=w':=by
 unfold Ctr at h;obtain⟨h_0,h_1,h_f,h_l,H_h⟩:=cr2 h;clear h;go_enter func174,ntmps174;go_wp2;go_ret;exact⟨rfl,rfl⟩
theorem zc8{w:World}{b n:Nat}(h:Ctr w b n):Calls prog 114 #[jF b] w fun e w'=>e=.returned (.int .u64 n)∧w=w':=by
 have HZ:=za (zdU h);unfold Ctr at h;obtain⟨h_0,h_1,h_f,h_l,H_h⟩:=cr2 h;clear h;go_enter func114,ntmps114
 go_wp2_with (go_at_call 174;refine HZ.out.mono ?_;rintro e w' ⟨rfl,rfl⟩)
 go_ret;exact⟨rfl,rfl⟩
def nxV(n:Nat):Nat × Nat:=if n=18446744073709551615 then(0,7)else(n+1,0)
def nxS(n:Nat):Nat:=if n=18446744073709551615 then n else n+1
def Qu(w:World)(b n:Nat)(e:Ending)(w':World):Prop :=
 e=.returned (.tuple #[.int .u64 ((nxV n).1:Nat),.int .i64 ((nxV n).2:Nat)])∧Ctr w' b (nxS n)∧Mod (fun k=>k=b) w w'
theorem zeA{w:World}{b n:Nat}(h:Ctr w b n)(hn:n<18446744073709551616):Calls prog 117 #[jF b] w (Qu w b n):=by
 have HZ:=za (zdU h);unfold Ctr at h;obtain⟨h_0,h_1,h_f,h_l,H_h⟩:=cr2 h;clear h;unfold Qu nxV nxS;by_cases hc:n=18446744073709551615
 ·rw[zj hc,zj hc];have d1:((n:Int)==18446744073709551615)=true:=by simp;omega
  clear hc hn;go_enter func117,ntmps117
  go_wp2_with (go_at_call 174;refine HZ.out.mono ?_;rintro e w' ⟨rfl,rfl⟩)
  go_ret2;exact⟨rfl,H_h.out,Mod.refl _ _⟩
 ·rw[zh hc,zh hc];have d1:((n:Int)==18446744073709551615)=false:=by simp;omega
  have wn:IntKind.u64.wrap ((n:Int)+1)=(n:Int)+1:=by
   have:=uG (n+1) (by omega);rw[show(((n+1:Nat)):Int)=(n:Int)+1 by omega]at this;exact this
  have hc2:(n:Int)≠18446744073709551615:=by omega
  clear hc hn;go_enter func117,ntmps117
  go_wp2_with (go_at_call 174;refine HZ.out.mono ?_;rintro e w' ⟨rfl,rfl⟩)
  go_ret2;refine⟨by simp,?_,Mod.set1 _ _ _⟩;have:=ug (j:=1) (v := .int .u64 ((n:Int)+1)) H_h.out;simpa[Ctr]using this
def K0(w:World)(v:Value)(L:List (Option Ent)):Prop := ∀ W,zb w W→Calls prog 155 #[v] W (zfM W L)
theorem K0.pure{w w':World}{v:Value}{L:List (Option Ent)}(h:K0 w v L)(hp:zb w w'):K0 w' v L:=fun W hW=>h W (hp.trans hW)
def KF(last:Int):List (Nat × Ent)→Bool
 | []=>true
 | g::r=>if g.2.birth≤last then false else KF g.2.birth r
def zak(pre:List (Nat × Ent)):Int:=pre.foldl (fun _ g=>g.2.birth) 0
structure J9(w:World)(pre:List xL)(W:World):Prop where
 r2:W.heap[w.heap.size]? = some (.cells #[.bool false] 4 (0,0))
 r3:W.heap[w.heap.size+1]? = some (.cells #[.int .u64 (zak (pre.map uS))] 27 (0,0))
 pu:zb w W
 so : ∀ r,KF 0 (pre.map uS++r)=KF (zak (pre.map uS)) r
theorem J9.quiet{w:World}{pre:List xL}{A B:World}(h:J9 w pre A){N:Nat}(hN:w.heap.size≤N)(hq:zB N A B):J9 w pre B:=⟨hq.cells h.r2,hq.cells h.r3,hq.mod h.pu hN,h.so⟩
def zlM(G:List (Nat × Ent))(b:Int):Nat:=G.countP (fun g=>decide (g.2.birth<b))
structure Ql(w:World)(b:Int)(b6:Nat)(pre:List xL)(W:World):Prop where
 r3:W.heap[w.heap.size]? = some (.cells #[.int .u64 b] 27 (0,0))
 r6:W.heap[b6]? = some (.cells #[.int .i64 (zlM (pre.map uS) b)] 3 (0,0))
 pu:zb w W
 w6:w.heap.size<b6
theorem Ql.quiet{w:World}{b:Int}{b6:Nat}{pre:List xL}{A B:World}(h:Ql w b b6 pre A){N:Nat}(hN:w.heap.size≤N)(hq:zB N A B):Ql w b b6 pre B:=⟨hq.cells h.r3,hq.cells h.r6,hq.mod h.pu hN,h.w6⟩
def zkv(fr up:Int)(o:Option (Nat × Int))(g:Nat × Ent):Option (Nat × Int) :=
 if fr≤g.2.birth then(if g.2.birth≤up then(match o with
  | none=>some (g.1,g.2.birth)
  | some x=>if g.2.birth<x.2 then some (g.1,g.2.birth)else some x)else o)else o
def Kw(fr up:Int)(G:List (Nat × Ent)):Option (Nat × Int):=G.foldl (zkv fr up) none
def zfj(o:Option (Nat × Int)):Nat:=match o with | some x=>x.1 | none=>0
def zfF(o:Option (Nat × Int)):Int:=match o with | some x=>x.2 | none=>0
structure KO(w:World)(fr up:Int)(b8:Nat)(pre:List xL)(W:World):Prop where
 r4:W.heap[w.heap.size]? = some (.cells #[.int .u64 fr] 27 (0,0))
 r5:W.heap[w.heap.size+1]? = some (.cells #[.int .u64 up] 27 (0,0))
 r8:W.heap[b8]? = some (.cells #[.int .u32 (zfj (Kw fr up (pre.map uS)):Nat)] 89 (0,0))
 r9:W.heap[b8+1]? = some (.cells #[.int .u64 (zfF (Kw fr up (pre.map uS)))] 27 (0,0))
 r10:W.heap[b8+1+1]? = some (.cells #[.bool (Kw fr up (pre.map uS)).isSome] 4 (0,0))
 pu:zb w W
 w8:w.heap.size+1<b8
theorem KO.quiet{w:World}{fr up:Int}{b8:Nat}{pre:List xL}{A B:World}(h:KO w fr up b8 pre A){N:Nat}(hN:w.heap.size≤N)(hq:zB N A B):KO w fr up b8 pre B:=⟨hq.cells h.r4,hq.cells h.r5,hq.cells h.r8,hq.cells h.r9,hq.cells h.r10,hq.mod h.pu hN,h.w8⟩
end
section
open Go.RowKit Go.Shelf
variable{Fo:Nat→Prop}
attribute [local go_sem] Oper.semAt_some
def zbz(w:World)(b5 b6:Nat)(It:Nat→Prop)(k:Nat):Prop:=w.heap.size+1+1<k∧k≠b5∧k≠b6 ∧ ¬ It k
structure Uz(Fo:Nat→Prop)(w:World)(b5 b6 q:Nat)(len:Int)(It:Nat→Prop)(D:Nat→Prop)(pre:List xL)(W:World):Prop where
 r0:W.heap[w.heap.size]? = some (.cells #[.pointer none] 142 (0,0))
 r1:W.heap[w.heap.size+1]? = some (.cells #[.slice none 0 0,.int .i64 0] 281 (0,0))
 r2:W.heap[w.heap.size+1+1]? = some (.cells #[.int .i64 0] 24 (0,0))
 o5:W.heap[b5]? = some (.cells #[.pointer (some ⟨q,0,none⟩)] 142 (0,0))
 o6 : ∃ a c,W.heap[b6]? = some (.cells #[.slice a pre.length c,.int .i64 len] 281 (0,0))∧W.ownsRow 0 89 1 (.slice a pre.length c) pre.length (pre.map fun g => .int .u32 g.1) ∧ ∀ k,(Value.slice a pre.length c).ownBlock=some k→zbz w b5 b6 It k ∧ ¬ D k
 lg : ∃ sv M',zV Fo W D q sv M'∧M'.map Prod.fst=pre.map (fun g=>some g.2.1)
 dd : ∀ k,D k→zbz w b5 b6 It k
 pu:zb w W
theorem Uz.quiet{w:World}{b5 b6 q:Nat}{len:Int}{It D:Nat→Prop}{pre:List xL}{A B:World}(h:Uz Fo w b5 b6 q len It D pre A){N:Nat}(hN:w.heap.size≤N)(hq:zB N A B):Uz Fo w b5 b6 q len It D pre B:=by
 obtain⟨a,c,h1,h2,h3⟩:=h.o6;obtain⟨sv,M',h4,h5⟩:=h.lg;exact⟨hq.cells h.r0,hq.cells h.r1,hq.cells h.r2,hq.cells h.o5,⟨a,c,hq.cells h1,hq.owns h2,h3⟩,⟨sv,M',h4.quiet hq,h5⟩,h.dd,hq.mod h.pu hN⟩
def CAx(Fo:Nat→Prop)(w:World)(p q q2:Nat)(len:Int)(B:Nat)(It:Nat→Prop)(L:List (Option Ent))(N:Nat)(pre:List xL)(x:xL)(a':Act)(W:World):Prop :=
 ∃ D b8 va vn vc,x.2.2=.slice va vn vc∧Uz Fo w (q+1) (q+1+1) q len It D pre W∧VQ N L pre x W∧W.heap[b8]? = some (.cells #[.string x.2.1.key,x.2.2,.int .u64 x.2.1.dl,.int .u64 x.2.1.birth] 70 (0,0)) ∧ ¬ D b8 ∧ ¬ It b8∧N≤b8∧N≤W.heap.size ∧
  a' = {tmps:=#[.pointer (some ⟨p,0,none⟩),undef,.pointer (some ⟨w.heap.size,0,none⟩),.pointer (some ⟨w.heap.size+1,0,none⟩),.pointer (some ⟨w.heap.size+1+1,0,none⟩),.pointer (some ⟨q+1,0,none⟩),.pointer (some ⟨q+1+1,0,none⟩),
   .int .u32 x.1,.pointer (some ⟨b8,0,none⟩),undef,undef,.pointer (some ⟨p,0,none⟩),.pointer (some ⟨q2,0,none⟩),.bool false,undef,.pointer (some ⟨q,0,none⟩),.pointer (some ⟨p,0,none⟩),.int .i64 len,.agg #[.slice none 0 0,.int .i64 len],
   .pointer (some ⟨p,0,none⟩),.func (.func 250) #[] #[.pointer (some ⟨B,0,none⟩)],.int .u32 x.1,.agg #[.string x.2.1.key,x.2.2,.int .u64 x.2.1.dl,.int .u64 x.2.1.birth],
   undef,undef,undef,undef,undef,undef,undef,undef,undef,undef,undef,undef,undef,undef,undef,undef,undef,undef],defers:=[]}
theorem CAx.quiet{w:World}{p q q2:Nat}{len:Int}{B:Nat}{It:Nat→Prop}{L:List (Option Ent)}{N:Nat}{pre:List xL}{x:xL}{a':Act}{A W:World}(h:CAx Fo w p q q2 len B It L N pre x a' A)(hN:w.heap.size≤N)(hq:zB N A W):CAx Fo w p q q2 len B It L N pre x a' W:=by
 obtain⟨D,b8,va,vn,vc,h1,h2,h3,h4,h5,h6,h7,h8,h9⟩:=h;exact⟨D,b8,va,vn,vc,h1,h2.quiet hN hq,h3.quiet hq,hq.cells h4,h5,h6,h7,zF h8 (Mod.size hq),h9⟩
end
section
open Go.RowKit Go.Shelf
def below(xs:List Nat)(o:Nat):Nat:=xs.countP (decide <| · < o)

end
section
open Go.RowKit Go.Shelf
attribute [local go_sem] Oper.semAt_some
theorem zdk{P:Program}(w:World)(d:Nat)(t:TypeId){ps rs:Array TypeId}{v:Bool}(fn:Fn)(fi ca:Array Value)(h:P.underlying t=some (.func ps rs v)):(Op.equalIn (d+1) t (.func fn fi ca) .nilFunc).run P w=.ok false w:=by
 simp[Op.equalIn,run_underlying h]
@[go_sem] theorem zmd (w : World) (fn : Fn) (fi ca : Array Value) : (binOp .neq 244 (.func fn fi ca) .nilFunc).run prog w=.ok (.bool true) w := by
 simp only[binOp];simp[Op.equal,Op.maxDepth,zdk w 9999 _ fn fi ca underlying244]
@[go_sem] theorem zl7 (w : World) (fn : Fn) (fi ca : Array Value) : (binOp .eql 244 (.func fn fi ca) .nilFunc).run prog w=.ok (.bool false) w := by
 simp only[binOp];simp[Op.equal,Op.maxDepth,zdk w 9999 _ fn fi ca underlying244]
def zb8(L:List (Nat × Ent)):ByteArray:=L.foldl (fun s g=>s++g.2.key) ⟨#[]⟩
structure Uq(w:World)(b:Nat)(pre:List xL)(W:World):Prop where
 r:W.heap[b]? = some (.cells #[.string (zb8 (pre.map uS))] 9 (0,0))
 pu:zb w W
 sz:(zb8 (pre.map uS)).size≤250*pre.length
theorem Uq.quiet{w:World}{b:Nat}{pre:List xL}{A B:World}(h:Uq w b pre A){N:Nat}(hN:w.heap.size≤N)(hq:zB N A B):Uq w b pre B:=⟨hq.cells h.r,hq.mod h.pu hN,h.sz⟩
def KAx(w:World)(p B:Nat)(It:Nat→Prop)(N:Nat)(pre:List xL)(x:xL)(a':Act)(W:World):Prop :=
 ∃ b8 va vn vc,x.2.2=.slice va vn vc∧Uq w w.heap.size pre W∧W.heap[b8]? = some (.cells #[.string x.2.1.key,x.2.2,.int .u64 x.2.1.dl,.int .u64 x.2.1.birth] 70 (0,0))∧N≤b8∧N≤W.heap.size∧x.2.1.key.size≤250∧pre.length≤4194304 ∧
  a' = {tmps:=#[.pointer (some ⟨p,0,none⟩),undef,.string ⟨#[]⟩,.pointer (some ⟨w.heap.size,0,none⟩),.func (.func 250) #[] #[.pointer (some ⟨B,0,none⟩)],undef,.pointer (some ⟨b8,0,none⟩),.pointer (some ⟨p,0,none⟩),
   .func (.func 250) #[] #[.pointer (some ⟨B,0,none⟩)],.func (.func 250) #[] #[.pointer (some ⟨B,0,none⟩)],.bool true,.func (.func 250) #[] #[.pointer (some ⟨B,0,none⟩)],
   .int .u32 x.1,.agg #[.string x.2.1.key,x.2.2,.int .u64 x.2.1.dl,.int .u64 x.2.1.birth],undef,undef,undef,undef,undef],defers:=[]}
theorem KAx.quiet{w:World}{p B:Nat}{It:Nat→Prop}{N:Nat}{pre:List xL}{x:xL}{a':Act}{A W:World}(h:KAx w p B It N pre x a' A)(hN:w.heap.size≤N)(hq:zB N A W):KAx w p B It N pre x a' W:=by
 obtain⟨b8,va,vn,vc,h1,h2,h3,h4,h5,h6⟩:=h;exact⟨b8,va,vn,vc,h1,h2.quiet hN hq,hq.cells h3,h4,zF h5 (Mod.size hq),h6⟩
end
section
open Go.RowKit Go.Shelf
def XD(a b:Int):Bool:=decide (0≤b)&&decide (16<a)&&decide (2*b≤a-17)
theorem Azgbo {P:Prop}(h:P:=by
 go_enter func111,ntmps111;go_wp2;go_ret;exact⟨by simp<;>omega,rfl⟩):P:=h
theorem zaU(w:World)(a b:Int)(a0 : -9223372036854775808≤a)(a1:a≤9223372036854775807) :
  Calls prog 111 #[.int .i64 a,.int .i64 b] w fun e w'=>e=.returned (.bool (XD a b))∧w=w':=by
 unfold XD;by_cases h1:0≤b
 ·by_cases h2:16<a
  ·have h3:(a-16-1).tdiv 2=(a-17)/2:=by rw[Qa (by omega)];omega
   by_cases h4:2*b≤a-17
   ·have h5:b≤(a-17)/2:=by omega
    exact Azgbo
   ·have h5:(a-17)/2<b:=by omega
    exact Azgbo
  ·have h2':a≤16:=by omega
   exact Azgbo
 ·have h1':b<0:=by omega
  exact Azgbo
end
section
open Go.RowKit
theorem zcN{w:World}{a:Option Addr}{n c:Nat}(l:List UInt8)(h:zr w (.slice a n c) 1 (zJ l)) :
  (convert 34 9 (.slice a n c)).run prog w=.ok (.string ⟨l.toArray⟩) w:=by
 obtain⟨a',n',c',he,hl,_,h0,hc⟩:=h
 cases he
 rw[ur,je]at hl;subst hl
 cases a with
 | none =>
  have:=h0 rfl;have hn:l=[]:=qk this;subst hn;rw[run_convert_bytes_string w _ _ _ none (List.length (α:=UInt8) []) c underlying34 underlying5 underlying9]
  rfl
 | some ad =>
  exact run_convert_bytes_back w _ _ _ ad c l underlying34 underlying5 underlying9 (fun j hj=>hc ad rfl j _ (by simp[zJ,hj]))
end
end Go.Proofs.YtifbnponicgplaaGreatDoor
