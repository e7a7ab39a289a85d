/- Lemmas and contracts of functions. No condition. -/
import Derived.Test.YtpadepliilhmhaaGreatDoorJPfBoth255
namespace Go.Proofs.YtpadepliilhmhaaGreatDoor
open _root_.Go.Proofs.Tryz
set_option maxRecDepth 100000
set_option maxHeartbeats 20000000
set_option linter.all false
section
open Go.RowKit
variable{Fo:Nat→Prop}
theorem zcg{α:Type}{l:List α}{i:Nat}{a:α}(h:l[i]? = some a):l.set i a=l:=by
 apply vX;intro j;rw[Z5];split
 ·rename_i e;subst e;rw[zh (zC.1 h).1,h]
 ·rfl
theorem zbl(M:List (Option Ent × Value))(i:Nat)(m m':Option Ent × Value)(hi:M[i]? = some m)(a b c d:Value)(hm:y9 m'=[a,b,c,d]) :
  ((((M.flatMap y9).set (i*4) a).set (i*4+1) b).set (i*4+2) c).set (i*4+3) d=(M.set i m').flatMap y9:=by
 have h0 : ∀ r∈M.map y9,r.length=4:=by
  intro r hr;obtain⟨x,_,rfl⟩:=zD.1 hr;exact je x
 have e:=ZL 4 0 (by decide) a _ h0 i;rw[YU]at e;simp only[List.flatMap_def];rw[e,ZL 4 1 (by decide) b _ (Zd h0 i 0 a) i,ZL 4 2 (by decide) c _ (Zd (Zd h0 i 0 a) i 1 b) i,
  ZL 4 3 (by decide) d _ (Zd (Zd (Zd h0 i 0 a) i 1 b) i 2 c) i]
 congr 1
 have e2 : ∀(f g:List Value→List Value) (R:List (List Value)),(R.modify i f).modify i g=R.modify i (g ∘ f):=fun f g R=>List.modify_modify_eq f g i R
 rw[e2,e2,e2];refine zaI y9 _ m' M i m hi ?_;rw[hm];have:=je m
 match h:y9 m,this with
 | [_,_,_,_],_=>rfl
theorem Azvut {P:Prop}(h:P:=by
 induction M generalizing i with
 | nil=>simp at hi
 | cons a M ih =>
  cases i with
  | zero =>
   simp at hi;subst hi;simp[zV]
  | succ i =>
   have:=ih i (by simpa using hi);simp only[List.set_cons_succ,List.map_cons,zV,List.countP_cons]at this ⊢;omega):P:=h
theorem JZ(M:List (Option Ent × Value))(i:Nat)(e:Ent)(v v':Value)(hi:M[i]? = some (some e,v)):(zV ((M.set i (none,v')).map Prod.fst):Int)=(zV (M.map Prod.fst):Int)-1∧1≤zV (M.map Prod.fst):=by
 exact Azvut
def zeM(Fo:Nat→Prop)(w:World)(D:Nat→Prop)(p i:Nat)(x:Ent)(sv:Value)(M:List (Option Ent × Value))(e:Ending)(w':World):Prop :=
 ∃ a n c,e=.returned (.tuple #[.agg #[.string x.key,.slice a n c,.int .u64 x.dl,.int .u64 x.birth],.int .i64 0])∧yy w' (.slice a n c) (zS x.val)∧vo w (.slice a n c) ∧
  zP Fo w' D p sv (M.set i (none,.slice none 0 0))∧Mod D w w'
theorem zhb{w W w':World}{D:Nat→Prop}{p g c i lv:Nat}{x:Ent}{v:Value}{M:List (Option Ent × Value)}
  (HL:zP Fo w D p (.slice (some ⟨g,0,none⟩) M.length c) M) (hi:M[i]? = some (some x,v)) (HP:zb w W)
  (hlv:zV (M.map Prod.fst)=lv)
  (hw':(((((W.setCell ⟨g,i*4,none⟩ (.string ⟨#[]⟩)).setCell ⟨g,i*4+1,none⟩ (.slice none 0 0)).setCell ⟨g,i*4+2,none⟩ (.int .u64 0)).setCell ⟨g,i*4+3,none⟩ (.int .u64 0)).setCell ⟨p,2,none⟩ (.int .i64 ((lv:Int)-1)))=w') :
  zP Fo w' D p (.slice (some ⟨g,0,none⟩) M.length c) (M.set i (none,.slice none 0 0))∧Mod D w w':=by
 subst hw';have HW:=HL.pure HP;have hlt:i<M.length:=(zC.1 hi).1;have hgp:=HL.np (g:=g) rfl;have hDg:D g:=(HL.dd g).2 (.inr rfl);have hDp:D p:=(HL.dd p).2 (.inl rfl);have hmod:Mod D W (((((W.setCell ⟨g,i*4,none⟩ (.string ⟨#[]⟩)).setCell ⟨g,i*4+1,none⟩ (.slice none 0 0)).setCell ⟨g,i*4+2,none⟩ (.int .u64 0)).setCell ⟨g,i*4+3,none⟩ (.int .u64 0)).setCell ⟨p,2,none⟩ (.int .i64 ((lv:Int)-1))) :=
  (((((Mod.refl D W).setCell (p:=⟨g,i*4,none⟩) (fun _=>hDg) _).setCell (p:=⟨g,i*4+1,none⟩) (fun _=>hDg) _).setCell (p:=⟨g,i*4+2,none⟩) (fun _=>hDg) _).setCell (p:=⟨g,i*4+3,none⟩) (fun _=>hDg) _).setCell (p:=⟨p,2,none⟩) (fun _=>hDp) _
 have hl:=JZ M i x v (.slice none 0 0) hi;refine⟨⟨?_,?_,fun e u hm => ?_,?_,?_,fun e u g hm hg => ?_,fun k hk=>hmod.lt (HP.lt (HL.flt k hk))⟩,(Mod.of_pure HP).trans hmod⟩
 ·have hb:((((W.setCell ⟨g,i*4,none⟩ (.string ⟨#[]⟩)).setCell ⟨g,i*4+1,none⟩ (.slice none 0 0)).setCell ⟨g,i*4+2,none⟩ (.int .u64 0)).setCell ⟨g,i*4+3,none⟩ (.int .u64 0)).heap[p]? = _ :=
   yQ (yQ (yQ (yQ HW.box hgp.symm) hgp.symm) hgp.symm) hgp.symm
  have:=zT _ p 2 _ _ (.int .i64 ((lv:Int)-1)) hb;rw[this,hl.1,hlv]
  rfl
 ·have r0:=uz HW.row (i*4) (.string ⟨#[]⟩) (by omega);have r1:=uz r0 (i*4+1) (.slice none 0 0) (by omega);have r2:=uz r1 (i*4+2) (.int .u64 0) (by omega);have r3:=uz r2 (i*4+3) (.int .u64 0) (by omega);rw[zbl M i _ (none,.slice none 0 0) hi _ _ _ _ rfl]at r3;have r4:=zA r3 (S:=fun k=>k=p) ((Mod.refl (fun k=>k=p) _).setCell (p:=⟨p,2,none⟩) (fun _=>rfl) (.int .i64 ((lv:Int)-1))) (fun g' e h=>by cases e;exact hgp h);rw[xp];exact r4
 ·have hm':(some e,u)∈M:=by
   rcases jo hm with h | h
   ·exact h
   ·cases h
  exact jy (HW.vals e u hm') hmod (fun k _ hk cs fz=>HW.nobytes hk cs fz)
 ·exact HL.dd
 ·refine⟨by have:=HL.ok.len;simpa using this,fun e he => ?_⟩;rw[Yg]at he;rcases jo he with h | h
  ·exact HL.ok.ent e h
  ·cases h
 ·have hm':(some e,u)∈M:=by
   rcases jo hm with h | h
   ·exact h
   ·cases h
  exact HL.off e u g hm' hg
theorem zfA{w:World}{D:Nat→Prop}{p:Nat}{sv:Value}{M:List (Option Ent × Value)}(h:zP Fo w D p sv M){i:Nat}{x:Ent}{v:Value}(hi:M[i]? = some (some x,v)) :
  Calls prog 196 #[.pointer (some ⟨p,0,none⟩),.int .u32 i] w (zeM Fo w D p i x sv M):=by
 obtain⟨g,c,rfl,hg,ng,hlt,hn,hc,hf⟩:=h.slot hi;obtain⟨c0,c1,c2,cf⟩:=h.cells;have hx:=(h.vals x v (yh hi)).read (Yy _);have hok:=h.ok.ent x (zD.2 ⟨_,yh hi,rfl⟩);have s0:w.cell? ⟨g,i*4,none⟩=_:=hc 0 _ rfl;have s1:=hc 1 _ rfl;have s2:=hc 2 _ rfl;have s3:=hc 3 _ rfl;have hlp:p<w.heap.size:=Yf w _ c0;have hb:(x.birth==0)=false:=by have:=hok.b0;simp;omega
 obtain⟨a,n,cc,rfl,hl,_⟩:=id hx;have hn':n≤140737488355328:=by have:=hok.v1;rw[uT]at hl;omega
 have H:=za (hx.frame ((Mod.refl (fun _=>False) w).alloc (.cells #[.string ByteArray.empty,.slice none 0 0,.int .u64 0,.int .u64 0] 47)) (fun _ _ h=>h));have HL:=za h;have HI:=za hi;generalize hlv:(zV (M.map Prod.fst))=lv at c2;have hlv1:1≤lv∧lv≤4194304:=by have:=(JZ M i x _ (.slice none 0 0) hi).2;have:=zbE (M.map Prod.fst);rw[yB]at this;omega
 have HLV:=za hlv;obtain⟨hlv1,hlv2⟩:=hlv1;clear h hx hc hl hlv hi;have hlp1:p<w.heap.size+1:=by omega
 have hg1:g<w.heap.size+1:=by omega
 go_enter func196,ntmps196;go_upto_region 5 with(first | (go_at_call 147;refine zm (VI p g _ c i x.birth _ (by simpa[go_sem,hlp]using c0) (by simpa[go_sem,hlp]using c1) hlt hn (by simpa[go_sem,hg]using s3) hb) ?_;rintro e w' ⟨rfl,rfl⟩) | (go_at_call 80;refine zm (VG x.key a n cc _ _ _ _ H.out hn') ?_;rintro e w1 ⟨a',n',c',rfl,hr,hfr,hp⟩;obtain⟨hpc,hpf⟩:=hp.cells))
 have hz:w.heap.size<w1.heap.size:=by have:=hp.size;simp at this;omega
 have HP:zb w (w1.alloc (.cells #[.string x.key,.slice a' n' c',.int .u64 x.dl,.int .u64 x.birth] 47)):=by
  exact yW
 have hA:(w1.alloc (.cells #[.string x.key,.slice a' n' c',.int .u64 x.dl,.int .u64 x.birth] 47)).heap[w.heap.size]? = some (.cells #[.string ByteArray.empty,.slice none 0 0,.int .u64 0,.int .u64 0] 47 (0,0)):=zL (hp.heap (fun h=>h) (zi rfl));have hB:(w1.alloc (.cells #[.string x.key,.slice a' n' c',.int .u64 x.dl,.int .u64 x.birth] 47)).heap[w1.heap.size]? = some (.cells #[.string x.key,.slice a' n' c',.int .u64 x.dl,.int .u64 x.birth] 47 (0,0)):=zi rfl;have HRD:yy (w1.alloc (.cells #[.string x.key,.slice a' n' c',.int .u64 x.dl,.int .u64 x.birth] 47)) (.slice a' n' c') (zS x.val):=zA (qX hr) ((Mod.refl (fun _=>False) w1).alloc _) (fun _ _ h=>h);have hfr' : ∀ k,(Value.slice a' n' c').ownBlock=some k→w.heap.size<k:=fun k e=>by have:=hfr k e;simp at this;omega
 generalize hW:w1.alloc (.cells #[.string x.key,.slice a' n' c',.int .u64 x.dl,.int .u64 x.birth] 47)=W at HP hA hB HRD ⊢;have hgB:g≠w1.heap.size:=by omega
 have hpB:p≠w1.heap.size:=by omega
 have hAB:w.heap.size≠w1.heap.size:=by omega
 have hsB:w.heap.size<w1.heap.size:=hz;generalize w1.heap.size=B at hB hgB hpB hAB hsB ⊢;clear hW hpc hpf hz hp hr hfr hlp1 hg1;have hgA:g≠w.heap.size:=by omega
 have hpA:p≠w.heap.size:=by omega
 have HSZ:Hid (w.heap.size≤w.heap.size):=zH _;have ar : ∀(j:Nat),W.frozen? ⟨w.heap.size,j,none⟩=false:=fun j=>yP W _ j _ _ hA
 have ac:=fun j=>zj W w.heap.size j _ _ _ hA
 have bc:=fun j=>zj W B j _ _ _ hB
 have a0:=ac 0;have a1:=ac 1;have a2:=ac 2;have a3:=ac 3;have b0:=bc 0;have b1:=bc 1;have b2:=bc 2;have b3:=bc 3;simp at a0 a1 a2 a3 b0 b1 b2 b3;replace c2:=HP.cell (fun h=>h) c2;replace s0:=HP.cell (fun h=>h) s0;replace s1:=HP.cell (fun h=>h) s1;replace s2:=HP.cell (fun h=>h) s2;replace s3:=HP.cell (fun h=>h) s3;have cfW:W.frozen? ⟨p,2,none⟩=false:=(Y1 (w:=w) (a:=⟨p,2,none⟩) (HP.block p hlp (fun h=>h))).trans (cf 2);have hfW : ∀ j,W.frozen? ⟨g,j,none⟩=false:=fun j=>(Y1 (w:=w) (a:=⟨g,j,none⟩) (HP.block g hg (fun h=>h))).trans (hf j)
 have HHP:=za HP;have HHA:=za hA;have HRD':=za HRD;have HFR:=za hfr';clear ac bc hA hB HP HRD hfr' c0 c1 cf hf;go_upto_region 7 with fail
 have hend:=zhb (w':=(((((W.setCell ⟨g,i*4,none⟩ (.string ⟨#[]⟩)).setCell ⟨g,i*4+1,none⟩ (.slice none 0 0)).setCell ⟨g,i*4+2,none⟩ (.int .u64 0)).setCell ⟨g,i*4+3,none⟩ (.int .u64 0)).setCell ⟨p,2,none⟩ (.int .i64 ((lv:Int)-1)))) HL.out HI.out HHP.out HLV.out rfl;have kA:(((((W.setCell ⟨g,i*4,none⟩ (.string ⟨#[]⟩)).setCell ⟨g,i*4+1,none⟩ (.slice none 0 0)).setCell ⟨g,i*4+2,none⟩ (.int .u64 0)).setCell ⟨g,i*4+3,none⟩ (.int .u64 0)).setCell ⟨p,2,none⟩ (.int .i64 ((lv:Int)-1))).heap[w.heap.size]? = _ :=
  yQ (yQ (yQ (yQ (yQ HHA.out hgA.symm) hgA.symm) hgA.symm) hgA.symm) hpA.symm
 have kB : ∀ j u,W.cell? ⟨B,j,none⟩=some u→(((((W.setCell ⟨g,i*4,none⟩ (.string ⟨#[]⟩)).setCell ⟨g,i*4+1,none⟩ (.slice none 0 0)).setCell ⟨g,i*4+2,none⟩ (.int .u64 0)).setCell ⟨g,i*4+3,none⟩ (.int .u64 0)).setCell ⟨p,2,none⟩ (.int .i64 ((lv:Int)-1))).cell? ⟨B,j,none⟩=some u:=by
  intro j u hu;rw[Z6 _ _ _ _ (by simp[hpB]),Z6 _ _ _ _ (by simp[hgB]),Z6 _ _ _ _ (by simp[hgB]),Z6 _ _ _ _ (by simp[hgB]),Z6 _ _ _ _ (by simp[hgB])];exact hu
 have hRD:yy (((((W.setCell ⟨g,i*4,none⟩ (.string ⟨#[]⟩)).setCell ⟨g,i*4+1,none⟩ (.slice none 0 0)).setCell ⟨g,i*4+2,none⟩ (.int .u64 0)).setCell ⟨g,i*4+3,none⟩ (.int .u64 0)).setCell ⟨p,2,none⟩ (.int .i64 ((lv:Int)-1))) (.slice a' n' c') (zS x.val):=by
  refine zA HRD'.out (S:=fun k=>k=g∨k=p) ?_ (fun k e h=>by have:=HFR.out k e;omega)
  (repeat'(first | (with_reducible exact Mod.refl _ _) | (with_reducible refine Mod.alloc ?_ _) | (with_reducible refine Mod.drew ?_) | (with_reducible refine Mod.drewN ?_ _) | (with_reducible refine Mod.setCell ?_ ?_ _) | (refine Mod.then ?_ (by with_reducible assumption) ?_)))
  all_goals(intro _;first | exact .inl rfl | exact .inr rfl)
 replace b0:=kB _ _ b0;replace b1:=kB _ _ b1;replace b2:=kB _ _ b2;replace b3:=kB _ _ b3;generalize(((((W.setCell ⟨g,i*4,none⟩ (.string ⟨#[]⟩)).setCell ⟨g,i*4+1,none⟩ (.slice none 0 0)).setCell ⟨g,i*4+2,none⟩ (.int .u64 0)).setCell ⟨g,i*4+3,none⟩ (.int .u64 0)).setCell ⟨p,2,none⟩ (.int .i64 ((lv:Int)-1)))=W3 at *;clear kB a0 a1 a2 a3 c2 s0 s1 s2 s3 ar hfW cfW;have ac:=fun j=>zj W3 w.heap.size j _ _ _ kA
 have ar : ∀(j:Nat),W3.frozen? ⟨w.heap.size,j,none⟩=false:=fun j=>yP W3 _ j _ _ kA
 have a0:=ac 0;have a1:=ac 1;have a2:=ac 2;have a3:=ac 3;simp at a0 a1 a2 a3;have HE:=za hend;have HKA:=za kA;have HRD3:=za hRD;clear hend kA ac hRD;go_wp2;refine zM (v := .tuple #[.agg #[.string x.key,.slice a' n' c',.int .u64 x.dl,.int .u64 x.birth],.int .i64 0]) (by simp[results,results196,go_sem,a0,a1,a2,a3]) rfl ⟨a',n',c',rfl,?_,?_,?_,?_⟩
 ·refine zA HRD3.out (S:=fun k=>k=w.heap.size) ?_ (fun k e h=>by have:=HFR.out k e;omega);exact yW
 ·exact fun k e=>qI (HFR.out k e)
 ·refine HE.out.1.frame (S:=fun k=>k=w.heap.size) ?_ (fun k hk h=>by have:=HL.out.lt hk;omega) ?_
  ·exact yW
  ·rintro k _ rfl cs fz e;rw[HKA.out]at e
   cases e
 ·refine HE.out.2.then (T:=fun k=>k=w.heap.size) ?_ (fun k hk h=>by omega);exact yW
end
section
open Go.RowKit Go.Shelf
variable{Fo:Nat→Prop}
attribute [local go_sem] Oper.semAt_some
def xn:Nat→List (Option Ent)→List (Nat × Ent)
 | _,[]=>[]
 | i,none::L=>xn (i+1) L
 | i,some e::L=>(i,e)::xn (i+1) L
def live(L:List (Option Ent)):List (Nat × Ent):=xn 0 L
theorem zix(A B:List (Option Ent)) : ∀ i,xn i (A++B)=xn i A++xn (i+A.length) B:=by
 induction A with
 | nil=>intro i;simp[xn]
 | cons o A ih =>
  intro i
  cases o<;>simp[xn,ih,Nat.add_assoc,Nat.add_comm 1]
theorem zcZ(L:List (Option Ent)) : ∀ i,(xn i L).length≤L.length:=by
 induction L with
 | nil=>intro i;simp[xn]
 | cons o L ih=>intro i;cases o<;>simp[xn]<;>have:=ih (i+1)<;>omega
theorem zkA(L:List (Option Ent)):(live L).length≤L.length:=zcZ L 0
theorem Jy{α:Type}{L:List α}{n:Nat}{a:α}(h:L[n]? = some a):L.drop n=a::L.drop (n+1):=by
 obtain⟨hlt,rfl⟩:=zC.1 h;exact ja hlt
theorem zcM{M:List (Option Ent × Value)}{n:Nat}{v:Value}(h:M[n]? = some (none,v)):xn n ((M.map Prod.fst).drop n)=xn (n+1) ((M.map Prod.fst).drop (n+1)):=by
 rw[Jy (L:=M.map Prod.fst) (n:=n) (a:=none) (by simp[h])]
 rfl
theorem zcb{M:List (Option Ent × Value)}{n:Nat}{x:Ent}{v:Value}(h:M[n]? = some (some x,v)):xn n ((M.map Prod.fst).drop n)=(n,x)::xn (n+1) ((M.map Prod.fst).drop (n+1)):=by
 rw[Jy (L:=M.map Prod.fst) (n:=n) (a:=some x) (by simp[h])]
 rfl
theorem zat{L:List (Option Ent)} : ∀ {i:Nat} {g:Nat × Ent},g∈xn i L→i≤g.1∧L[g.1-i]? = some (some g.2):=by
 induction L with
 | nil=>intro i g h;cases h
 | cons o L ih =>
  intro i g h
  cases o with
  | none =>
   obtain⟨h1,h2⟩:=ih (i:=i+1) h;refine⟨by omega,?_⟩;rw[show g.1-i=(g.1-(i+1))+1 by omega];simpa using h2
  | some e =>
   rcases yp.1 h with rfl | h
   ·simp
   ·obtain⟨h1,h2⟩:=ih (i:=i+1) h;refine⟨by omega,?_⟩;rw[show g.1-i=(g.1-(i+1))+1 by omega];simpa using h2
theorem zjh{L:List (Option Ent)}{g:Nat × Ent}(h:g∈live L):L[g.1]? = some (some g.2):=by simpa using(zat h).2
abbrev xe:=Nat × Ent × Value
abbrev Uh(g:xe):Array Value:=#[.int .u32 g.1,.agg #[.string g.2.1.key,g.2.2,.int .u64 g.2.1.dl,.int .u64 g.2.1.birth]]
def xQ(g:xe):Nat × Ent:=(g.1,g.2.1)
def Y7(N:Nat)(L:List (Option Ent))(pre:List xe)(x:xe)(W:World):Prop :=
 (∃ post,live L=pre.map xQ++xQ x::post)∧yy W x.2.2 (zS x.2.1.val) ∧ ∀ k,x.2.2.ownBlock=some k→N≤k
def Xl(B:Nat)(sv:Value)(M:List (Option Ent × Value))(k:Nat):Prop:=k=B∨sv.ownBlock=some k ∨ ∃ e v,(some e,v)∈M∧v.ownBlock=some k
structure jk(w:World)(B:Nat)(sv:Value)(M:List (Option Ent × Value)):Prop where
 box:w.heap[B]? = some (.cells #[sv] 93 (0,0))
 row:w.ownsRow 0 47 4 sv M.length (M.flatMap y9)
 vals : ∀ e v,(some e,v)∈M→yy w v (zS e.val)
 ok:VF (M.map Prod.fst)
theorem jk.keeps{w w':World}{B:Nat}{sv:Value}{M:List (Option Ent × Value)}(h:jk w B sv M)(hk:yJ (Xl B sv M) w w'):jk w' B sv M:=by
 refine⟨?_,?_,fun e v hm => ?_,h.ok⟩
 ·exact(hk.2 B (.inl rfl) (zl h.box)).trans h.box
 ·exact KJ h.row (fun g hg hlt=>hk.2 g (.inr (.inl hg)) hlt)
 ·exact KJ (h.vals e v hm) (fun g hg hlt=>hk.2 g (.inr (.inr ⟨e,v,hm,hg⟩)) hlt)
theorem jk.slot{w:World}{B:Nat}{sv:Value}{M:List (Option Ent × Value)}(h:jk w B sv M){i:Nat}{m:Option Ent × Value}(hi:M[i]? = some m) :
  ∃ g c,sv=.slice (some ⟨g,0,none⟩) M.length c∧g<w.heap.size∧(∀ j u,(y9 m)[j]? = some u→w.cell? ⟨g,i*4+j,none⟩=some u):=by
 have hlt:i<M.length:=(zC.1 hi).1;obtain⟨g,c,rfl,_,hg,hc,hf,_⟩:=kh h.row (by omega);refine⟨g,c,rfl,hg,fun j u hu=>hc _ _ ?_⟩;have hj:j<4:=by rw[← je m];exact(zC.1 hu).1
 rw[uL y9 4 je j hj,hi];exact hu
def Uu(J:List xe→World→Prop)(N B:Nat)(sv:Value)(M:List (Option Ent × Value))(k:Value)(wr:World):Prop :=
 ∃(n:Nat) (pre:List xe),n≤M.length∧k=.int .i64 n∧J pre wr∧jk wr B sv M∧live (M.map Prod.fst)=pre.map xQ++xn n ((M.map Prod.fst).drop n)∧N≤wr.heap.size
theorem zP.quiet{N:Nat}{A B:World}{D:Nat→Prop}{p:Nat}{sv:Value}{M:List (Option Ent × Value)}(h:zP Fo A D p sv M)(hq:zv N A B):zP Fo B D p sv M :=
 ⟨hq.cells h.box,hq.owns h.row,fun e v hv=>hq.owns (h.vals e v hv),h.dd,h.ok,h.off,fun k hk=>xV (h.flt k hk) (Mod.size hq)⟩
theorem Y7.quiet{N N':Nat}{L:List (Option Ent)}{pre:List xe}{x:xe}{A B:World}(h:Y7 N L pre x A)(hq:zv N' A B):Y7 N L pre x B:=⟨h.1,hq.owns h.2.1,h.2.2⟩
theorem zjt{w:World}{B:Nat}{sv:Value}{M:List (Option Ent × Value)}(h:jk w B sv M)(N:Nat)(hN:N≤w.heap.size) :
  jf prog 237 #[.pointer (some ⟨B,0,none⟩)] Uh (Xl B sv M) (Y7 N (M.map Prod.fst)) (fun xs=>xs.map xQ=live (M.map Prod.fst)) w:=by
 intro l J Jx W hW hJ hJx hY h0;have hA:=h.keeps (yJ.of_pure hW);obtain⟨a,c,rfl,_⟩:=kx h.row;have hlen:=h.ok.len;rw[yB]at hlen;have hB:=zj W B 0 _ _ _ hA.box;simp at hB;have HA:=za hA;have HY:=za hY;have HJ:=za hJ;have HN:Hid (N≤W.heap.size):=zJ hN hW.size;clear hA hY hJ hJx h hW;refine callsIn_of_wp func237 rfl trivial ?_ rfl;simp only[ntmps237,List.size_toArray,List.length_cons,List.length_nil,Nat.reduceAdd,Nat.reduceSub,Array.replicate_succ,Array.replicate_zero,List.push_toArray,List.append_toArray,List.nil_append,List.cons_append];gi_wp2
 gi_loopw [3,4,7] (fun i b k wr=>Uu J N B (.slice a M.length c) M k wr)
  (fun _ _ k _=>M.length-(intOf k).toNat)
 case atStart=>exact⟨0,[],yk _,rfl,h0,HA.out,by simp[live],HN⟩
 case round =>
  obtain⟨n,pre,hn,rfl,hJs,hI,hl,hNw⟩:=hrel;by_cases hlt:n<M.length
  ·have he:=zQ hlt;generalize M[n]=m at he;obtain⟨o,v⟩:=m;obtain⟨g,c',hsv,hg,hc⟩:=hI.slot he
   cases hsv
   have hn0:(0:Int)≤(n:Int):=by omega
   have hn1:(n:Int)<(M.length:Int):=by omega
   have hn2:n≤4194304:=by omega
   cases o with
   | none =>
    have s0:wr.cell? ⟨g,n*4,none⟩=_:=hc 0 _ rfl;have s1:=hc 1 _ rfl;have s2:=hc 2 _ rfl;have s3:=hc 3 _ rfl;have HI:=za hI;have HL:=za hl;have HJS:=za hJs;have HNW:=za hNw;clear hc hI hl hJs hNw;gi_wp2;go_roundw
    case rel =>
     have hP:zb wr (wr.alloc (.cells #[.string ⟨#[]⟩,.slice none 0 0,.int .u64 0,.int .u64 0] 47)):=(Mod.refl _ wr).alloc _;unfold Uu;exact⟨n+1,pre,by omega,by go_num,HJ.out _ _ _ HJS.out hP,HI.out.keeps (yJ.of_pure hP),by rw[HL.out,zcM he],by have:=HNW.out;simp;omega⟩
    case measure=>simp[intOf];omega
   | some x =>
    have s0:wr.cell? ⟨g,n*4,none⟩=_:=hc 0 _ rfl;have s1:=hc 1 _ rfl;have s2:=hc 2 _ rfl;have s3:=hc 3 _ rfl;have hx:=(hI.vals x v (yh he)).read (Yy _);have hok:=hI.ok.ent x (zD.2 ⟨_,yh he,rfl⟩);obtain⟨va,vn,vc,rfl,hvl,_⟩:=id hx;have hvn:vn≤140737488355328:=by have:=hok.v1;rw[uT]at hvl;omega
    have hb:(x.birth==0)=false:=by have:=hok.b0;simp;omega
    have hb2:(x.birth != 0)=true:=by have:=hok.b0;simp;omega
    have hP:zb wr (wr.alloc (.cells #[.string x.key,.slice va vn vc,.int .u64 x.dl,.int .u64 x.birth] 47)):=(Mod.refl _ wr).alloc _;have HX:=za (hx.frame hP (fun _ _ h=>h));have HI:=za hI;have HL:=za hl;have HJS:=za hJs;have HNW:=za hNw;have HP:=za hP;have HOK:=za hok;clear hc hI hl hJs hNw hx hvl hP hok;have HPR:=za (fun(w1:World) (v':Value) (hp:zb wr w1) (hr:yy w1 v' (zS x.val)) (hf : ∀ k,v'.ownBlock=some k→N≤k) =>
     HY.out pre (n,x,v') w1 (HJ.out _ _ _ HJS.out hp) ⟨⟨_,by rw[HL.out,zcb he];rfl⟩,hr,hf⟩)
    gi_wp2_with (gi_at_call 80;refine(yl.2 (VG x.key va vn vc _ _ _ _ HX.out hvn)).mono ?_;rintro e w1 ⟨a',n',c'',rfl,hr,hfr,hp⟩;obtain⟨fn,tmps,assign,body,hy,hR⟩:=HPR.out w1 (.slice a' n' c'') (HP.out.trans hp) (qX hr) (fun k e=>(by have:=hfr k e;have:=HNW.out;simp at *;omega));dsimp only[Uh]at hy;have hRR:=za hR;clear hR)
    refine hRR.out.mono ?_;rintro e W' (⟨rfl,hJ',hk⟩ | ⟨rfl,hJx'⟩)
    ·have HJ':=za hJ';have HK:=za hk;clear hJ' hk;gi_wp2;go_roundw
     case rel =>
      unfold Uu;exact⟨n+1,pre++[(n,x,.slice a' n' c'')],by omega,by go_num,HJ'.out,(HI.out.keeps (yJ.of_pure (HP.out.trans hp))).keeps HK.out,by rw[HL.out,zcb he];simp[xQ],by have:=HNW.out;have:=HK.out.1;have:=(HP.out.trans hp).size;omega⟩
     case measure=>simp[intOf];omega
    ·gi_wp2;exact Azzwy
  ·have hend:M.length=n:=by omega
   have hge:(M.length:Int)≤(n:Int):=by omega
   have HI:=za hI;have HL:=za hl;have HJS:=za hJs;clear hI hl hJs;have HE:=za hend;clear hend;gi_wp2
   go_end0
   refine⟨⟨_,rfl⟩,.inl ⟨pre,?_,HJS.out⟩⟩;rw[HL.out,← HE.out,List.drop_eq_nil_of_le (by simp)];simp[xn]
def zkx(w:World)(M:List (Option Ent × Value))(e:Ending)(w':World):Prop :=
 ∃ B a c,e=.returned (.func (.func 237) #[] #[.pointer (some ⟨B,0,none⟩)])∧jk w' B (.slice a M.length c) M∧zb w w'∧w.heap.size≤B∧vo w (.slice a M.length c)
theorem zi1{w:World}{D:Nat→Prop}{p:Nat}{sv:Value}{M:List (Option Ent × Value)}(h:zP Fo w D p sv M) :
    Calls prog 188 #[.pointer (some ⟨p,0,none⟩)] w (zkx w M):=by
  obtain⟨c0,c1,c2,cf⟩:=h.cells;obtain⟨a,c,rfl,_⟩:=kx h.row;have hP:zb w (w.alloc (.cells #[.slice none 0 0] 93)):=(Mod.refl _ w).alloc _;have HR:=za ((h.pure hP).read);have HL:=za h;have hn:M.length≤4294967295:=by have:=h.ok.len;rw[yB]at this;omega
  have hlp:p<w.heap.size:=zl h.box;have hlp1:p<w.heap.size+1:=by omega
  clear h hP;go_enter func188,ntmps188
  go_wp2_with (first
    | (go_at_call 175;refine zm (qG p true _ (by simpa[go_sem,hlp]using c0)) ?_;rintro e w' ⟨rfl,rfl⟩)
    | (go_at_call 236;refine zm (zbU a M.length c _ _ HR.out hn) ?_;rintro e w1 ⟨a',n',c',rfl,hr,hf,hp⟩;obtain⟨hpc,hpf⟩:=hp.cells))
  go_ret;obtain rfl:=Qg hr (by decide) (ZQ y9 4 je M);have hq:=hp.heap (fun h=>h) (zi (w:=w) (o := .cells #[.slice none 0 0] 93 (0,0)) rfl);have hm:Mod (fun k=>k=w.heap.size) w1 (w1.setCell ⟨w.heap.size,0,none⟩ (.slice a' M.length c')):=(Mod.refl (fun k=>k=w.heap.size) w1).setCell (p:=⟨w.heap.size,0,none⟩) (fun _=>rfl) _;have hall:zb w (w1.setCell ⟨w.heap.size,0,none⟩ (.slice a' M.length c')):=by
    exact yW
  refine⟨w.heap.size,a',c',rfl,⟨zT w1 _ 0 _ _ _ hq,zA hr hm (fun g e h => ?_),fun e v hv=>zA (HL.out.vals e v hv) hall (fun _ _ h=>h),HL.out.ok⟩,hall,zH _,fun g e => ?_⟩
  · have:=hf g e;simp at this;omega
  · have:=hf g e;simp at this;omega
end
section
open Go.RowKit Go.Shelf
variable{Fo:Nat→Prop}
abbrev kT(p:Nat):Value := .pointer (some ⟨p,0,none⟩)
abbrev KH(x:Ent)(v:Value):Value := .agg #[.string x.key,v,.int .u64 x.dl,.int .u64 x.birth]
theorem zP.toAt{w:World}{D:Nat→Prop}{p:Nat}{sv:Value}{M:List (Option Ent × Value)}(h:zP Fo w D p sv M):zX Fo w D p (M.map Prod.fst):=⟨sv,M,rfl,h⟩
theorem zX.pure{w w':World}{D:Nat→Prop}{p:Nat}{L:List (Option Ent)}(h:zX Fo w D p L)(hm:zb w w'):zX Fo w' D p L:=by
 obtain⟨sv,M,rfl,h⟩:=h;exact(h.pure hm).toAt
theorem zX.lt{w:World}{D:Nat→Prop}{p:Nat}{L:List (Option Ent)}(h:zX Fo w D p L){k:Nat}(hk:D k):k<w.heap.size:=by
 obtain⟨sv,M,rfl,h⟩:=h;exact h.lt hk
theorem zX.ok{w:World}{D:Nat→Prop}{p:Nat}{L:List (Option Ent)}(h:zX Fo w D p L):VF L:=by
 obtain⟨sv,M,rfl,h⟩:=h;exact h.ok
theorem zX.types{w:World}{D:Nat→Prop}{p:Nat}{L:List (Option Ent)}(h:zX Fo w D p L){k:Nat}(hk:D k){cs:Array Value}{T:TypeId}{fz:Nat × Nat}(e:w.heap[k]? = some (.cells cs T fz)):T=282∨T=47:=by
 obtain⟨sv,M,rfl,h⟩:=h;rcases(h.dd k).1 hk with rfl | e'
 ·rw[h.box]at e;cases e;exact .inl rfl
 ·obtain⟨c,e2⟩:=ym h.row e';rw[e2]at e;cases e;exact .inr rfl
theorem zX.frame{w w':World}{D S:Nat→Prop}{p:Nat}{L:List (Option Ent)}(h:zX Fo w D p L)(hm:Mod S w w')(hD : ∀ k,D k → ¬ S k)(hS : ∀ k,k<w.heap.size→S k → ∀ cs fz,w.heap[k]? ≠ some (.cells cs 5 fz)):zX Fo w' D p L:=by
 obtain⟨sv,M,rfl,h⟩:=h;exact(h.frame hm hD hS).toAt
theorem zX.flt{w:World}{D:Nat→Prop}{p:Nat}{L:List (Option Ent)}(h:zX Fo w D p L) : ∀ k,Fo k→k<w.heap.size:=by
 obtain⟨sv,M,rfl,h⟩:=h;exact h.flt
theorem zX.frameF{w w':World}{D S:Nat→Prop}{p:Nat}{L:List (Option Ent)}(h:zX Fo w D p L)(hm:Mod S w w')(hD : ∀ k,D k → ¬ S k)(hS : ∀ k,k<w.heap.size→S k→Fo k ∨ ∀ cs fz,w.heap[k]? ≠ some (.cells cs 5 fz)):zX Fo w' D p L:=by
 obtain⟨sv,M,rfl,h⟩:=h;exact(h.frameF hm hD hS).toAt
theorem zX.refo{w w':World}{Fo' D:Nat→Prop}{p:Nat}{L:List (Option Ent)}(h:zX Fo w D p L)(hm:zb w w')(h1 : ∀ k,Fo' k→Fo k∨w.heap.size≤k)(h2 : ∀ k,Fo' k→k<w'.heap.size):zX Fo' w' D p L:=by
 obtain⟨sv,M,rfl,h⟩:=h;exact(h.refo hm h1 h2).toAt
theorem zX.beside{w w':World}{D S:Nat→Prop}{p q:Nat}{L K:List (Option Ent)}(h:zX Fo w D p L)(k:zX Fo w S q K)(hm:Mod S w w')(hD : ∀ k,D k → ¬ S k):zX Fo w' D p L :=
 h.frame hm hD (fun i _ hi cs fz e=>by rcases k.types hi e with e | e<;>cases e)
theorem zX.owns{w w':World}{S:Nat→Prop}{q:Nat}{K:List (Option Ent)}(h:zX Fo w S q K)(hm:Mod S w w'){T k n:Nat}{v:Value}{xs:List Value}(ho:w.ownsRow 0 T k v n xs)(h1:T≠282)(h2:T≠47):w'.ownsRow 0 T k v n xs :=
 zA ho hm (fun g hg hs=>by
  obtain⟨c,e⟩:=ym ho hg;rcases h.types hs e with e | e
  ·exact h1 e
  ·exact h2 e)
theorem zX.box{w w':World}{S:Nat→Prop}{q:Nat}{K:List (Option Ent)}(h:zX Fo w S q K)(hm:Mod S w w'){b:Nat}{cs:Array Value}{T:TypeId}{fz:Nat × Nat}(hb:w.heap[b]? = some (.cells cs T fz))(h1:T≠282)(h2:T≠47):w'.heap[b]? = some (.cells cs T fz) :=
 hm.heap (fun hs=>by rcases h.types hs hb with e | e;exact h1 e;exact h2 e) hb
def zek(Fo:Nat→Prop)(w:World)(e:Ending)(w':World):Prop:=e=.returned (kT w.heap.size)∧zX Fo w' (fun k=>k=w.heap.size) w.heap.size []∧zb w w'∧w.heap.size<w'.heap.size
theorem zhd(w:World)(hFo : ∀ k,Fo k→k<w.heap.size):Calls prog 126 #[] w (zek Fo w):=by
 refine zm (zdG w) ?_;rintro e w' ⟨rfl,rfl⟩;exact⟨rfl,(zkc (fun k hk=>by have:=hFo k hk;simp;omega) (zi rfl)).toAt,(Mod.refl _ _).alloc _,by simp⟩
def zbc(Fo:Nat→Prop)(w:World)(D:Nat→Prop)(p:Nat)(L:List (Option Ent))(x:Ent)(e:Ending)(w':World):Prop :=
 e=.returned (.tuple #[.int .u32 L.length,.int .i64 0]) ∧ ∃ D',zX Fo w' D' p (L++[some x])∧Mod D w w'∧vA D D' w
theorem zeL{w:World}{D:Nat→Prop}{p:Nat}{L:List (Option Ent)}(h:zX Fo w D p L)(hL:L.length<4194304)(x:Ent)(hok:x.Ok)(a:Option Addr)(n c:Nat)(hx:zn w (.slice a n c) 1 (zS x.val)) :
  Calls prog 115 #[kT p,KH x (.slice a n c)] w (zbc Fo w D p L x):=by
 obtain⟨sv,M,rfl,h⟩:=h;rw[yB]at hL;refine zm (zjn h hL x hok a n c hx) ?_;rintro e w' ⟨rfl,D',sv',v',h1,h2,h3⟩;refine⟨by rw[yB],D',?_,h2,h3⟩;have:=h1.toAt;rw[xT]at this;exact this
def zd1(Fo:Nat→Prop)(w:World)(D:Nat→Prop)(p i:Nat)(L:List (Option Ent))(x:Ent)(e:Ending)(w':World):Prop :=
 ∃ a n c,e=.returned (.tuple #[KH x (.slice a n c),.int .i64 0])∧yy w' (.slice a n c) (zS x.val)∧vo w (.slice a n c)∧zX Fo w' D p (L.set i none)∧Mod D w w'
theorem zjK{w:World}{D:Nat→Prop}{p:Nat}{L:List (Option Ent)}(h:zX Fo w D p L)(i:Nat)(x:Ent)(hi:L[i]? = some (some x)) :
  Calls prog 196 #[kT p,.int .u32 i] w (zd1 Fo w D p i L x):=by
 obtain⟨sv,M,rfl,h⟩:=h;rw[yu]at hi
 cases hm:M[i]? with
 | none=>rw[hm]at hi;cases hi
 | some m =>
  obtain⟨o,v⟩:=m;rw[hm]at hi
  cases hi
  refine zm (zfA h hm) ?_;rintro e w' ⟨a,n,c,rfl,h1,h2,h3,h4⟩;refine⟨a,n,c,rfl,h1,h2,?_,h4⟩;have:=h3.toAt;rw[Yg]at this;exact this
theorem QD{w:World}{D:Nat→Prop}{p:Nat}{L:List (Option Ent)}(h:zX Fo w D p L):Calls prog 158 #[kT p] w fun e w'=>e=.returned (.int .i64 L.length)∧w=w':=by
 obtain⟨sv,M,rfl,h⟩:=h;rw[yB];exact zjW h
theorem zjI{w:World}{D:Nat→Prop}{p:Nat}{L:List (Option Ent)}(h:zX Fo w D p L):Calls prog 141 #[kT p] w fun e w'=>e=.returned (.int .i64 (zV L))∧w=w':=by
 obtain⟨sv,M,rfl,h⟩:=h;exact zdn h
def yH(L:List (Option Ent))(s:Nat):ByteArray:=match L[s]? with
 | some (some e)=>e.key
 | _=>⟨#[]⟩
def Vg(L:List (Option Ent))(s:Nat):Bool:=match L[s]? with
 | some (some _)=>true
 | _=>false
def noL(L:List (Option Ent))(s:Nat):Int:=if Vg L s then 0 else 9
theorem zbt{w:World}{D:Nat→Prop}{p:Nat}{L:List (Option Ent)}(h:zX Fo w D p L)(i:Nat)(hu:i≤4294967295) :
  Calls prog 146 #[kT p,.int .u32 i] w fun e w'=>e=.returned (.tuple #[.string (yH L i),.int .i64 (noL L i)])∧w=w':=by
 obtain⟨sv,M,rfl,h⟩:=h
 cases hi:qH M i with
 | none =>
  have HA:=za (h.miss hu hi);have e1:yH (M.map Prod.fst) i=⟨#[]⟩∧noL (M.map Prod.fst) i=9:=by
   unfold noL Vg yH;unfold qH at hi;rw[yu]
   cases hm:M[i]? with
   | none=>simp
   | some m =>
    obtain⟨o,v⟩:=m;rw[hm]at hi;have:o=none:=by simpa using hi
    subst this;simp
  rw[e1.1,e1.2];clear e1 hi h;go_enter func146,ntmps146
  go_wp2_with (go_at_call 147;refine(HA.out _ (Mod.refl _ _)).mono ?_;rintro e w' ⟨rfl,rfl⟩)
  go_ret2;exact⟨rfl,rfl⟩
 | some x =>
  obtain⟨v,hm⟩ : ∃ v,M[i]? = some (some x,v):=by
   unfold qH at hi
   cases hm:M[i]? with
   | none=>rw[hm]at hi;cases hi
   | some m =>
    obtain⟨o,v⟩:=m;rw[hm]at hi;have:o=some x:=by simpa using hi
    subst this;exact⟨v,rfl⟩
  have e1:yH (M.map Prod.fst) i=x.key∧noL (M.map Prod.fst) i=0:=by
   unfold noL Vg yH;rw[yu,hm];simp
  rw[e1.1,e1.2];clear e1 hi;obtain⟨g,c,rfl,hg,ng,hlt,hn,hc,hf⟩:=h.slot hm;obtain⟨c0,c1,c2,cf⟩:=h.cells;have hok:=h.ok.ent x (zD.2 ⟨_,yh hm,rfl⟩);have hb:(x.birth==0)=false:=by have:=hok.b0;simp;omega
  have s0:w.cell? ⟨g,i*4,none⟩=_:=hc 0 _ rfl;have s3:=hc 3 _ rfl;clear h hc hok;go_enter func146,ntmps146
  go_wp2_with (go_at_call 147;refine zm (VI p g _ c i x.birth _ c0 c1 hlt hn s3 hb) ?_;rintro e w' ⟨rfl,rfl⟩)
  go_ret2;exact⟨rfl,rfl⟩
def Jg(w:World)(L:List (Option Ent))(i:Nat)(e:Ending)(w':World):Prop :=
 match L[i]? with
 | some (some x) => ∃ a n c,e=.returned (.tuple #[.agg #[.string x.key,.slice a n c,.int .u64 x.dl,.int .u64 x.birth],.int .i64 0])∧yy w' (.slice a n c) (zS x.val)∧vo w (.slice a n c)∧zb w w'
 | _=>e=.returned (.tuple #[.agg #[.string ⟨#[]⟩,.slice none 0 0,.int .u64 0,.int .u64 0],.int .i64 9])∧zb w w'
theorem zkF{w:World}{D:Nat→Prop}{p:Nat}{L:List (Option Ent)}(h:zX Fo w D p L)(i:Nat)(hu:i≤4294967295) :
  Calls prog 96 #[kT p,.int .u32 i] w (Jg w L i):=by
 obtain⟨sv,M,rfl,h⟩:=h;unfold Jg;rw[yu]
 cases hm:M[i]? with
 | none =>
  refine zm (zck h hu (by unfold qH;rw[hm];rfl)) ?_;intro e w' he;exact he
 | some m =>
  obtain⟨o,v⟩:=m
  cases o with
  | none =>
   refine zm (zck h hu (by unfold qH;rw[hm];rfl)) ?_;intro e w' he;exact he
  | some x=>exact zkH h hm
def QI(Fo:Nat→Prop)(w:World)(L:List (Option Ent))(e:Ending)(w':World):Prop :=
 ∃ q D',e=.returned (kT q)∧zX Fo w' D' q L∧zb w w' ∧ ∀ k,D' k→w.heap.size≤k
theorem zhi{w:World}{D:Nat→Prop}{p:Nat}{L:List (Option Ent)}(h:zX Fo w D p L):Calls prog 235 #[kT p] w (QI Fo w L):=by
 obtain⟨sv,M,rfl,h⟩:=h;refine zm (zdR h) ?_;rintro e w' ⟨q,sv',D',rfl,h1,h2,h3⟩;exact⟨q,D',rfl,h1.toAt,h2,h3⟩
def UD(w:World)(L:List (Option Ent))(e:Ending)(w':World):Prop :=
 ∃ M B a c,M.map Prod.fst=L∧e=.returned (.func (.func 237) #[] #[.pointer (some ⟨B,0,none⟩)])∧jk w' B (.slice a M.length c) M∧zb w w'∧w.heap.size≤B∧vo w (.slice a M.length c)
theorem zjw{w:World}{D:Nat→Prop}{p:Nat}{L:List (Option Ent)}(h:zX Fo w D p L):Calls prog 188 #[kT p] w (UD w L):=by
 obtain⟨sv,M,rfl,h⟩:=h;refine zm (zi1 h) ?_;rintro e w' ⟨B,a,c,h1,h2,h3,h4,h5⟩;exact⟨M,B,a,c,rfl,h1,h2,h3,h4,h5⟩
end
section
open Go.RowKit Go.Shelf
attribute [local go_sem] Oper.semAt_some
abbrev jx(b:Nat):Value := .pointer (some ⟨b,0,none⟩)
def Ctr(w:World)(b:Nat)(n:Nat):Prop:=w.heap[b]? = some (.cells #[.bool true,.int .u64 n] 153 (0,0))
def Jn(w:World)(v:Value):Prop:=v=.pointer none ∨ ∃ b,v=jx b∧w.heap[b]? = some (.cells #[.bool false,.int .u64 0] 153 (0,0))
theorem Jn.pure{w w':World}{v:Value}(h:Jn w v)(hp:zb w w'):Jn w' v:=by
 rcases h with h | ⟨b,h1,h2⟩
 ·exact .inl h
 ·exact .inr ⟨b,h1,hp.heap (fun h=>h) h2⟩
theorem Ctr.pure{w w':World}{b n:Nat}(h:Ctr w b n)(hp:zb w w'):Ctr w' b n:=hp.heap (fun h=>h) h
theorem zdF(n:Nat)(w:World):Calls prog 74 #[.int .u64 n] w fun e w'=>e=.returned (jx w.heap.size)∧Ctr w' w.heap.size n∧zb w w'∧w.heap.size<w'.heap.size:=by
 go_enter func74,ntmps74;go_wp2;go_ret;exact⟨rfl,zi rfl,(Mod.refl _ w).alloc _,by simp⟩
theorem Qa{w:World}{b n:Nat}(h:Ctr w b n):Calls prog 90 #[jx b] w fun e w'=>e=.returned (.bool false)∧w=w':=by
 unfold Ctr at h;obtain⟨h_0,h_1,h_f,h_l,H_h⟩:=cr2 h;clear h;go_enter func90,ntmps90;go_wp2;go_ret;exact⟨rfl,rfl⟩
theorem zak{w:World}{b n:Nat}(h:Ctr w b n):Calls prog 51 #[jx b] w fun e w'=>e=.returned (.int .u64 n)∧w=w':=by
 have HZ:=za (Qa h);unfold Ctr at h;obtain⟨h_0,h_1,h_f,h_l,H_h⟩:=cr2 h;clear h;go_enter func51,ntmps51
 go_wp2_with (go_at_call 90;refine HZ.out.mono ?_;rintro e w' ⟨rfl,rfl⟩)
 go_ret;exact⟨rfl,rfl⟩
def nxV(n:Nat):Nat × Nat:=if n=18446744073709551615 then(0,7)else(n+1,0)
def nxS(n:Nat):Nat:=if n=18446744073709551615 then n else n+1
def Jm(w:World)(b n:Nat)(e:Ending)(w':World):Prop :=
 e=.returned (.tuple #[.int .u64 ((nxV n).1:Nat),.int .i64 ((nxV n).2:Nat)])∧Ctr w' b (nxS n)∧Mod (fun k=>k=b) w w'
theorem zc5{w:World}{b n:Nat}(h:Ctr w b n)(hn:n<18446744073709551616):Calls prog 62 #[jx b] w (Jm w b n):=by
 have HZ:=za (Qa h);unfold Ctr at h;obtain⟨h_0,h_1,h_f,h_l,H_h⟩:=cr2 h;clear h;unfold Jm nxV nxS;by_cases hc:n=18446744073709551615
 ·rw[zh hc,zh hc];have d1:((n:Int)==18446744073709551615)=true:=by simp;omega
  clear hc hn;go_enter func62,ntmps62
  go_wp2_with (go_at_call 90;refine HZ.out.mono ?_;rintro e w' ⟨rfl,rfl⟩)
  go_ret2;exact⟨rfl,H_h.out,Mod.refl _ _⟩
 ·rw[zf hc,zf hc];have d1:((n:Int)==18446744073709551615)=false:=by simp;omega
  have wn:IntKind.u64.wrap ((n:Int)+1)=(n:Int)+1:=by
   have:=vJ (n+1) (by omega);rw[show(((n+1:Nat)):Int)=(n:Int)+1 by omega]at this;exact this
  have hc2:(n:Int)≠18446744073709551615:=by omega
  clear hc hn;go_enter func62,ntmps62
  go_wp2_with (go_at_call 90;refine HZ.out.mono ?_;rintro e w' ⟨rfl,rfl⟩)
  go_ret2;refine⟨by simp,?_,Mod.set1 _ _ _⟩;have:=ve (j:=1) (v := .int .u64 ((n:Int)+1)) H_h.out;simpa[Ctr]using this
def Yz(w:World)(v:Value)(L:List (Option Ent)):Prop := ∀ W,zb w W→Calls prog 137 #[v] W (UD W L)
theorem Yz.pure{w w':World}{v:Value}{L:List (Option Ent)}(h:Yz w v L)(hp:zb w w'):Yz w' v L:=fun W hW=>h W (hp.trans hW)
theorem Jp{w3:World}{B:Nat}{sv:Value}{M:List (Option Ent × Value)}(hit:jk w3 B sv M){N k:Nat}{cs:Array Value}{T:TypeId}{fz:Nat × Nat}(hB:N≤B)(hfr : ∀ g,sv.ownBlock=some g→N≤g)(hk:k<N)
  (hb:w3.heap[k]? = some (.cells cs T fz)) (hT:T≠5) : ¬ Xl B sv M k:=by
 rintro(h | h | ⟨e,v,hm,h⟩)
 ·omega
 ·have:=hfr _ h;omega
 ·obtain⟨cc,e2⟩:=ym (hit.vals e v hm) h;rw[hb]at e2;cases e2;exact hT rfl
def Kz(last:Int):List (Nat × Ent)→Bool
 | []=>true
 | g::r=>if g.2.birth≤last then false else Kz g.2.birth r
def zce(pre:List (Nat × Ent)):Int:=pre.foldl (fun _ g=>g.2.birth) 0
structure Ks(w:World)(pre:List xe)(W:World):Prop where
 r2:W.heap[w.heap.size]? = some (.cells #[.bool false] 4 (0,0))
 r3:W.heap[w.heap.size+1]? = some (.cells #[.int .u64 (zce (pre.map xQ))] 27 (0,0))
 pu:zb w W
 so : ∀ r,Kz 0 (pre.map xQ++r)=Kz (zce (pre.map xQ)) r
theorem Ks.quiet{w:World}{pre:List xe}{A B:World}(h:Ks w pre A){N:Nat}(hN:w.heap.size≤N)(hq:zv N A B):Ks w pre B:=⟨hq.cells h.r2,hq.cells h.r3,hq.mod h.pu hN,h.so⟩
def Qb(w:World)(v:Value):Prop := ∀ W,zb w W→Calls prog 128 #[v] W fun e w'=>e=.returned (.bool false)∧zb W w'
def zef(G:List (Nat × Ent))(b:Int):Nat:=G.countP (fun g=>decide (g.2.birth<b))
structure UV(w:World)(b:Int)(b6:Nat)(pre:List xe)(W:World):Prop where
 r3:W.heap[w.heap.size]? = some (.cells #[.int .u64 b] 27 (0,0))
 r6:W.heap[b6]? = some (.cells #[.int .i64 (zef (pre.map xQ) b)] 3 (0,0))
 pu:zb w W
 w6:w.heap.size<b6
theorem UV.quiet{w:World}{b:Int}{b6:Nat}{pre:List xe}{A B:World}(h:UV w b b6 pre A){N:Nat}(hN:w.heap.size≤N)(hq:zv N A B):UV w b b6 pre B:=⟨hq.cells h.r3,hq.cells h.r6,hq.mod h.pu hN,h.w6⟩
def xP(fr up:Int)(o:Option (Nat × Int))(g:Nat × Ent):Option (Nat × Int) :=
 if fr≤g.2.birth then(if g.2.birth≤up then(match o with
  | none=>some (g.1,g.2.birth)
  | some x=>if g.2.birth<x.2 then some (g.1,g.2.birth)else some x)else o)else o
def vR(fr up:Int)(G:List (Nat × Ent)):Option (Nat × Int):=G.foldl (xP fr up) none
theorem zjy(fr up:Int)(G:List (Nat × Ent))(g:Nat × Ent):vR fr up (G++[g])=xP fr up (vR fr up G) g:=by unfold vR;rw[Zl];rfl
def qe(o:Option (Nat × Int)):Nat:=match o with | some x=>x.1 | none=>0
def Vb(o:Option (Nat × Int)):Int:=match o with | some x=>x.2 | none=>0
def VU(o:Option (Nat × Int)):Value := .tuple #[.int .u32 (qe o:Nat),.bool o.isSome]
structure Zw(w:World)(fr up:Int)(b8:Nat)(pre:List xe)(W:World):Prop where
 r4:W.heap[w.heap.size]? = some (.cells #[.int .u64 fr] 27 (0,0))
 r5:W.heap[w.heap.size+1]? = some (.cells #[.int .u64 up] 27 (0,0))
 r8:W.heap[b8]? = some (.cells #[.int .u32 (qe (vR fr up (pre.map xQ)):Nat)] 103 (0,0))
 r9:W.heap[b8+1]? = some (.cells #[.int .u64 (Vb (vR fr up (pre.map xQ)))] 27 (0,0))
 r10:W.heap[b8+1+1]? = some (.cells #[.bool (vR fr up (pre.map xQ)).isSome] 4 (0,0))
 pu:zb w W
 w8:w.heap.size+1<b8
theorem Zw.quiet{w:World}{fr up:Int}{b8:Nat}{pre:List xe}{A B:World}(h:Zw w fr up b8 pre A){N:Nat}(hN:w.heap.size≤N)(hq:zv N A B):Zw w fr up b8 pre B:=⟨hq.cells h.r4,hq.cells h.r5,hq.cells h.r8,hq.cells h.r9,hq.cells h.r10,hq.mod h.pu hN,h.w8⟩
theorem zgn{w:World}{d:Nat}{L:List (Option Ent)}(v:Value)(h:Yz w v L)(fr up:Int):Calls prog 129 #[.iface 51 v,.int .u64 fr,.int .u64 up] w fun e w'=>e=.returned (VU (vR fr up (live L)))∧zb w w':=by
 have HL:=za h;clear h
 (refine(yl (n:=0)).1 (callsIn_of_wp_marks func129 rfl trivial (vW.2 ?_) rfl);simp only[ntmps129,List.size_toArray,List.length_cons,List.length_nil,Nat.reduceAdd,Nat.reduceSub,Array.replicate_succ,Array.replicate_zero,List.push_toArray,List.append_toArray,List.nil_append,List.cons_append])
 go_upto_region 2 with fail
 have h4:=zL (o := .cells #[.bool false] 4) (zL (o := .cells #[.int .u64 0] 27) (zL (o := .cells #[.int .u32 0] 103) (zL (o := .cells #[.int .u64 up] 27) (zi (w:=w) (o := .cells #[.int .u64 fr] 27 (0,0)) rfl))));have h5:=zL (o := .cells #[.bool false] 4) (zL (o := .cells #[.int .u64 0] 27) (zL (o := .cells #[.int .u32 0] 103) (zi (w:=w.alloc (.cells #[.int .u64 fr] 27)) (o := .cells #[.int .u64 up] 27 (0,0)) (n:=w.heap.size+1) (by simp))));have h8:=zL (o := .cells #[.bool false] 4) (zL (o := .cells #[.int .u64 0] 27) (zi (w:=(w.alloc (.cells #[.int .u64 fr] 27)).alloc (.cells #[.int .u64 up] 27)) (o := .cells #[.int .u32 0] 103 (0,0)) (n:=w.heap.size+1+1) (by simp)));have h9:=zL (o := .cells #[.bool false] 4) (zi (w:=((w.alloc (.cells #[.int .u64 fr] 27)).alloc (.cells #[.int .u64 up] 27)).alloc (.cells #[.int .u32 0] 103)) (o := .cells #[.int .u64 0] 27 (0,0)) (n:=w.heap.size+1+1+1) (by simp));have h10:=zi (w:=(((w.alloc (.cells #[.int .u64 fr] 27)).alloc (.cells #[.int .u64 up] 27)).alloc (.cells #[.int .u32 0] 103)).alloc (.cells #[.int .u64 0] 27)) (o := .cells #[.bool false] 4 (0,0)) (n:=w.heap.size+1+1+1+1) (by simp);have hp0:zb w (((((w.alloc (.cells #[.int .u64 fr] 27)).alloc (.cells #[.int .u64 up] 27)).alloc (.cells #[.int .u32 0] 103)).alloc (.cells #[.int .u64 0] 27)).alloc (.cells #[.bool false] 4)):=(((((Mod.refl _ w).alloc _).alloc _).alloc _).alloc _).alloc _;generalize(((((w.alloc (.cells #[.int .u64 fr] 27)).alloc (.cells #[.int .u64 up] 27)).alloc (.cells #[.int .u32 0] 103)).alloc (.cells #[.int .u64 0] 27)).alloc (.cells #[.bool false] 4))=W1 at *;obtain⟨b8,hb8⟩:=zc (w.heap.size+1+1);rw[hb8]at h8 h9 h10 ⊢;have hb8':w.heap.size+1<b8:=by omega
 clear hb8;have HA:=za (HL.out W1 hp0)
 go_wp2_with (go_at_call 137;refine HA.out.mono ?_;rintro e w3 ⟨M,B,a,c,rfl,rfl,hit,hp3,hB,hfr⟩)
 have HIT:=za hit;have hItlt : ∀ k,Xl B (.slice a M.length c) M k→k<w3.heap.size:=by
  rintro k (rfl | h | ⟨e,v,hm,h⟩)
  ·exact zl hit.box
  ·exact ua hit.row h
  ·exact ua (hit.vals e v hm) h
 have hI0:Zw w fr up b8 [] w3:=⟨hp3.heap (fun h=>h) h4,hp3.heap (fun h=>h) h5,hp3.heap (fun h=>h) h8,hp3.heap (fun h=>h) h9,hp3.heap (fun h=>h) h10,hp0.trans hp3,hb8'⟩;have hw1:b8+1+1<W1.heap.size:=zl h10;have hw3:b8+1+1<w3.heap.size:=zl hI0.r10;have n8:=za (Jp hit hB hfr (by omega) hI0.r8 (by decide));have n9:=za (Jp hit hB hfr (by omega) hI0.r9 (by decide));have n10:=za (Jp hit hB hfr (by omega) hI0.r10 (by decide));clear hit hp3 hB hfr h4 h5 h8 h9 h10 hp0 HA HL;generalize hItd:Xl B (.slice a M.length c) M=It at *;refine vW.1 (ZC (gf:=237) (lb:=#[.pointer (some ⟨B,0,none⟩)]) rfl (enters_of func237 (by kernel_rfl) rfl) (It:=It) (hItd ▸ zjt HIT.out w3.heap.size (zH _)) hItlt (fun _=>rfl)
  (fun pre W=>Zw w fr up b8 pre W∧w3.heap.size≤W.heap.size) (fun _ _ _=>False) ?hI ?hIx ⟨hI0,zH _⟩ ?round ?done ?stop)
 case hI=>exact fun pre A B ⟨h,hz⟩ hq=>⟨h.quiet (by omega) hq,zJ hz (Mod.size hq)⟩
 case hIx=>exact fun _ _ _ _ h _=>h
 case stop=>exact fun _ _ _ _ _ h _=>h.elim
 case done =>
  rintro l xs W hl hS ⟨hI,hWs⟩ hK;have z8:=hI.r8;have z10:=hI.r10;rw[show xs.map xQ=live (M.map Prod.fst)from hS]at z8 z10;have HI:=za hI;clear hI hI0 hItlt hS hWs;obtain⟨r,hr⟩:=zc (vR fr up (live (M.map Prod.fst)));rw[hr]at z8 z10;have HR:=za hr;clear hr;have hk:W.drew.heap[l]? = some (.deferred (some [])):=hK;have hq:zv w3.heap.size _ _:=zv.putObj (.deferred none) hl hk rfl;obtain⟨z8_0,z8_f,z8_l,H_z8⟩:=cr1 z8;clear z8;obtain⟨z10_0,z10_f,z10_l,H_z10⟩:=cr1 z10;clear z10;obtain⟨s8,hs8⟩:=zc (qe r);obtain⟨s10,hs10⟩:=zc r.isSome;rw[hs8]at z8_0;rw[hs10]at z10_0;go_wp2
  go_region_held3 (fun w'=>w'.cell? ⟨b8,0,none⟩=some (.int .u32 s8)∧w'.cell? ⟨b8+1+1,0,none⟩=some (.bool s10))
   (first | exact⟨z8_0,z10_0⟩)
   (fail)
  go_wp2;exact jZ (v:=VU (vR fr up (live (M.map Prod.fst)))) hk (by simp[results,results129,go_sem,HR.out,VU,hs8,hs10]) ⟨rfl,hq.mod (Mod.drew HI.out.pu) (by omega)⟩
 case round =>
  rintro l pre ⟨i,x,v⟩ W K ⟨hI,hWs⟩ hG hK;obtain⟨va,vc,hv,_⟩:=kx hG.2.1;dsimp only at hv;subst hv;dsimp only[Uh];have HCI:=za hI;have HK:=za hK;clear hI hK hI0 HIT hItlt hG;gi_wp2;have hP:zb W (W.alloc (.cells #[.string x.key,.slice va (zS x.val).length vc,.int .u64 x.dl,.int .u64 x.birth] 47)):=(Mod.refl _ W).alloc _;have z5:=zi (w:=W) (o := .cells #[.string x.key,.slice va (zS x.val).length vc,.int .u64 x.dl,.int .u64 x.birth] 47 (0,0)) rfl;refine HK.out _ _ hP (fun l' W2 hl hr hq => ?_);replace HCI:=za ((HCI.out.quiet (N:=w3.heap.size) (by omega) (zv.of_pure hP)).quiet (by omega) hq);have zz5:=hq.cells z5;have hsz2:w3.heap.size≤W2.heap.size:=by have:=Mod.size hq;have:=hP.size;omega
  have hnext:vR fr up ((pre++[(i,x,Value.slice va (zS x.val).length vc)]).map xQ)=xP fr up (vR fr up (pre.map xQ)) (i,x):=by
   rw[xT];exact zjy _ _ _ _
  have HN:=za hnext;have hb12:w3.heap.size≤W.heap.size:=hWs;clear HK hP hq z5 hnext;generalize W.heap.size=b12 at zz5 hb12 ⊢;have r4:=HCI.out.r4;have r5:=HCI.out.r5;have r8:=HCI.out.r8;have r9:=HCI.out.r9;have r10:=HCI.out.r10;have hw8:=HCI.out.w8;generalize vR fr up (pre.map xQ)=o at *;obtain⟨zz5_0,zz5_1,zz5_2,zz5_3,zz5_f,zz5_l,H_zz5⟩:=cr4 zz5;clear zz5;obtain⟨r4_0,r4_f,r4_l,H_r4⟩:=cr1 r4;clear r4;obtain⟨r5_0,r5_f,r5_l,H_r5⟩:=cr1 r5;clear r5;obtain⟨r8_0,r8_f,r8_l,H_r8⟩:=cr1 r8;clear r8;obtain⟨r9_0,r9_f,r9_l,H_r9⟩:=cr1 r9;clear r9;obtain⟨r10_0,r10_f,r10_l,H_r10⟩:=cr1 r10;clear r10;have HOLD:Hid (xP fr up o (i,x)=o→j9 w3.heap.size It (fun pre W=>Zw w fr up b8 pre W∧w3.heap.size≤W.heap.size) (fun _ _ _=>False) (pre++[(i,x,Value.slice va (zS x.val).length vc)]) W2 .normal {tmps:=#[],defers:=[]} W2):=fun he =>
   ⟨yY.of_mod (S:=fun _=>False) (Mod.refl _ _) (fun k hk h=>h.elim),yJ.of_mod (S:=fun _=>False) (Mod.refl _ _) (fun k hk h=>h),⟨H_r4.out,H_r5.out,by rw[HN.out,he];exact H_r8.out,by rw[HN.out,he];exact H_r9.out,by rw[HN.out,he];exact H_r10.out,HCI.out.pu,hw8⟩,hsz2⟩
  have HPUT:Hid (xP fr up o (i,x)=some (i,x.birth)→j9 w3.heap.size It (fun pre W=>Zw w fr up b8 pre W∧w3.heap.size≤W.heap.size) (fun _ _ _=>False) (pre++[(i,x,Value.slice va (zS x.val).length vc)]) W2 .normal {tmps:=#[],defers:=[]}
    (((W2.drew.setCell ⟨b8,0,none⟩ (.int .u32 i)).setCell ⟨b8+1,0,none⟩ (.int .u64 x.birth)).setCell ⟨b8+1+1,0,none⟩ (.bool true))):=fun he=>by
   have hm:Mod (fun k=>k=b8∨k=b8+1∨k=b8+1+1) W2 (((W2.drew.setCell ⟨b8,0,none⟩ (.int .u32 i)).setCell ⟨b8+1,0,none⟩ (.int .u64 x.birth)).setCell ⟨b8+1+1,0,none⟩ (.bool true)) :=
    ((((Mod.refl _ W2).drew).setCell (p:=⟨b8,0,none⟩) (fun _ => .inl rfl) _).setCell (p:=⟨b8+1,0,none⟩) (fun _ => .inr (.inl rfl)) _).setCell (p:=⟨b8+1+1,0,none⟩) (fun _ => .inr (.inr rfl)) _
   refine⟨yY.of_mod hm (fun k hk h=>by omega),yJ.of_mod hm (fun k hk h=>by rcases h with rfl | rfl | rfl;exact n8.out hk;exact n9.out hk;exact n10.out hk),⟨hm.heap (by omega) H_r4.out,hm.heap (by omega) H_r5.out,?_,?_,?_,HCI.out.pu.then hm (fun k hk h=>by omega),hw8⟩,zJ hsz2 hm.size⟩
   ·rw[HN.out,he];have h1:W2.drew.heap[b8]? = _:=H_r8.out;exact yQ (yQ (ve (j:=0) (v := .int .u32 i) h1) (by show b8≠b8+1;omega)) (by show b8≠b8+1+1;omega)
   ·rw[HN.out,he];have h1:W2.drew.heap[b8+1]? = _:=H_r9.out;exact yQ (ve (j:=0) (v := .int .u64 x.birth) (yQ h1 (by show b8+1≠b8;omega))) (by show b8+1≠b8+1+1;omega)
   ·rw[HN.out,he];have h1:W2.drew.heap[b8+1+1]? = _:=H_r10.out;exact ve (j:=0) (v := .bool true) (yQ (yQ h1 (by show b8+1+1≠b8;omega)) (by show b8+1+1≠b8+1;omega))
  by_cases c1:fr≤x.birth
  ·have d1:decide (fr≤x.birth)=true:=zK c1;have HC1:=za c1;by_cases c2:x.birth≤up
   ·have d2:decide (x.birth≤up)=true:=zK c2;have HC2:=za c2
    cases o with
    | none =>
     dsimp only[Vb,qe,Option.isSome]at r8_0 r9_0 r10_0;clear c1 c2;gi_wp2;refine XR (fun X=>X.cell? ⟨b12,3,none⟩=some (.int .u64 x.birth)) (by kernel_rfl) (by kernel_rfl) ?hL zz5_3 (fun h_ => ?_)
     case hL=>rintro⟨a,w,h⟩;exact h
     refine hTk 0 ?_;refine hTk 1 ?_;refine hLd 2 ?_
     (refine hSt 3 (fun K hK => ?_);go_simp;refine hK.out _ _ ?_ (fun h_ => ?_);(· exact(Mod.set1 _ _ _).cell (fun e=>by have e':b12=b8:=e;omega) h_);clear hK K)
     (refine hSt 4 (fun K hK => ?_);go_simp;refine hK.out _ _ ?_ (fun h_ => ?_);(· exact(Mod.set1 _ _ _).cell (fun e=>by have e':b12=b8+1:=e;omega) h_);clear hK K)
     (refine hSt 5 (fun K hK => ?_);go_simp;refine hK.out _ _ ?_ (fun h_ => ?_);(· exact(Mod.set1 _ _ _).cell (fun e=>by have e':b12=b8+1+1:=e;omega) h_);clear hK K)
     refine hDn ?_;exact HPUT.out (by unfold xP;rw[zh HC1.out,zh HC2.out])
    | some y =>
     by_cases c3:x.birth<y.2
     ·have d3:decide (x.birth<y.2)=true:=zK c3;have HC3:=za c3;dsimp only[Vb,qe,Option.isSome]at r8_0 r9_0 r10_0;clear c1 c2 c3;gi_wp2;refine XR (fun X=>X.cell? ⟨b12,3,none⟩=some (.int .u64 x.birth)) (by kernel_rfl) (by kernel_rfl) ?hL zz5_3 (fun h_ => ?_)
      case hL=>rintro⟨a,w,h⟩;exact h
      refine hTk 0 ?_;refine hTk 1 ?_;refine hLd 2 ?_
      (refine hSt 3 (fun K hK => ?_);go_simp;refine hK.out _ _ ?_ (fun h_ => ?_);(· exact(Mod.set1 _ _ _).cell (fun e=>by have e':b12=b8:=e;omega) h_);clear hK K)
      (refine hSt 4 (fun K hK => ?_);go_simp;refine hK.out _ _ ?_ (fun h_ => ?_);(· exact(Mod.set1 _ _ _).cell (fun e=>by have e':b12=b8+1:=e;omega) h_);clear hK K)
      (refine hSt 5 (fun K hK => ?_);go_simp;refine hK.out _ _ ?_ (fun h_ => ?_);(· exact(Mod.set1 _ _ _).cell (fun e=>by have e':b12=b8+1+1:=e;omega) h_);clear hK K)
      refine hDn ?_;exact HPUT.out (by unfold xP;rw[zh HC1.out,zh HC2.out];dsimp only;rw[zh HC3.out])
     ·have d3:decide (x.birth<y.2)=false:=zO c3;have hf:xP fr up (some y) (i,x)=some y:=by unfold xP;rw[zh c1,zh c2];dsimp only;rw[zf c3]
      have HF:=za hf;clear hf c1 c2 c3;dsimp only[Vb,qe,Option.isSome]at r8_0 r9_0 r10_0;gi_wp2;exact HOLD.out HF.out
   ·have d2:decide (x.birth≤up)=false:=zO c2;have hf:xP fr up o (i,x)=o:=by unfold xP;rw[zh c1,zf c2]
    have HF:=za hf;clear hf c1 c2;gi_wp2;exact HOLD.out HF.out
  ·have d1:decide (fr≤x.birth)=false:=zO c1;have hf:xP fr up o (i,x)=o:=by unfold xP;rw[zf c1]
   have HF:=za hf;clear hf c1;gi_wp2;exact HOLD.out HF.out
end
section
open Go.RowKit Go.Shelf
variable{Fo:Nat→Prop}
def Ent.with(x:Ent)(vs:List UInt8)(d:Int):Ent:=⟨x.key,vs,d,x.birth⟩
theorem Ent.Ok.with{x:Ent}(h:x.Ok){vs:List UInt8}(hv:vs.length≤65536)(d:Int):(x.with vs d).Ok:=⟨h.k0,h.k1,hv,h.b0⟩
theorem ziC(M:List (Option Ent × Value))(i:Nat)(e e':Ent)(v v':Value)(hi:M[i]? = some (some e,v)):zV ((M.set i (some e',v')).map Prod.fst)=zV (M.map Prod.fst):=by
 exact Azvut
def ziJ(Fo:Nat→Prop)(w:World)(D:Nat→Prop)(p i:Nat)(x:Ent)(sv:Value)(M:List (Option Ent × Value))(e:Ending)(w':World):Prop :=
 e=.returned (.int .i64 0) ∧ ∃ v',zP Fo w' D p sv (M.set i (some x,v'))∧Mod D w w'
theorem zfn{w W:World}{D:Nat→Prop}{p g c i:Nat}{x:Ent}{v v':Value}{vs:List UInt8}{d:Int}{M:List (Option Ent × Value)}
  (HL:zP Fo w D p (.slice (some ⟨g,0,none⟩) M.length c) M) (hi:M[i]? = some (some x,v)) (HP:zb w W) (hv:yy W v' (zS vs)) (hl:vs.length≤65536) (hfr : ∀ g,v'.ownBlock=some g→w.heap.size≤g) :
  zP Fo ((W.setCell ⟨g,i*4+1,none⟩ v').setCell ⟨g,i*4+2,none⟩ (.int .u64 d)) D p (.slice (some ⟨g,0,none⟩) M.length c) (M.set i (some (x.with vs d),v'))∧Mod D w ((W.setCell ⟨g,i*4+1,none⟩ v').setCell ⟨g,i*4+2,none⟩ (.int .u64 d)):=by
 have HW:=HL.pure HP;have hlt:i<M.length:=(zC.1 hi).1;have hgp:=HL.np (g:=g) rfl;have hDg:D g:=(HL.dd g).2 (.inr rfl);have hmod:Mod D W ((W.setCell ⟨g,i*4+1,none⟩ v').setCell ⟨g,i*4+2,none⟩ (.int .u64 d)):=(((Mod.refl D W).setCell (p:=⟨g,i*4+1,none⟩) (fun _=>hDg) _).setCell (p:=⟨g,i*4+2,none⟩) (fun _=>hDg) _);have hnb:=fun k (_:k<W.heap.size) (hk:D k) cs fz=>HW.nobytes hk cs fz
 refine⟨⟨?_,?_,fun e u hm => ?_,HL.dd,?_,fun e u g hm hg hf => ?_,fun k hk=>hmod.lt (HP.lt (HL.flt k hk))⟩,(Mod.of_pure HP).trans hmod⟩
 ·rw[ziC M i x _ v v' hi];exact yQ (yQ HW.box hgp.symm) hgp.symm
 ·have r1:=uz HW.row (i*4+1) v' (by omega);have r2:=uz r1 (i*4+2) (.int .u64 d) (by omega);have e:(((M.flatMap y9).set (i*4+1) v').set (i*4+2) (.int .u64 d))=(M.set i (some (x.with vs d),v')).flatMap y9:=by
   rw[← zbl M i _ (some (x.with vs d),v') hi (.string x.key) v' (.int .u64 d) (.int .u64 x.birth) rfl];have k0:(M.flatMap y9)[i*4]? = some (.string x.key):=by
    have:=uL y9 4 je 0 (by omega) M i;rw[hi]at this;simpa[y9]using this
   have k3:(M.flatMap y9)[i*4+3]? = some (.int .u64 x.birth):=by
    have:=uL y9 4 je 3 (by omega) M i;rw[hi]at this;simpa[y9]using this
   rw[zcg k0];refine(zcg ?_).symm;rw[yq (by omega),yq (by omega)];exact k3
  rw[e]at r2;rw[xp];exact r2
 ·rcases jo hm with h | h
  ·exact jy (HW.vals e u h) hmod hnb
  ·cases h
   exact jy hv hmod hnb
 ·refine⟨by have:=HL.ok.len;simpa using this,fun e he => ?_⟩;rw[Yg]at he;rcases jo he with h | h
  ·exact HL.ok.ent e h
  ·cases h
   exact(HL.ok.ent x (zD.2 ⟨_,yh hi,rfl⟩)).with hl d
 ·rcases jo hm with h | h
  ·exact HL.off e u g h hg hf
  ·cases h
   have:=hfr g hg;have:=HL.flt g hf;omega
theorem zde{w:World}{D:Nat→Prop}{p:Nat}{sv:Value}{M:List (Option Ent × Value)}(h:zP Fo w D p sv M){i:Nat}{x:Ent}{v:Value}(hi:M[i]? = some (some x,v))(a:Option Addr)(n c:Nat)(vs:List UInt8)(hv:zn w (.slice a n c) 1 (zS vs))(hl:vs.length≤65536)(d:Int) :
    Calls prog 105 #[.pointer (some ⟨p,0,none⟩),.int .u32 i,.slice a n c,.int .u64 d] w (ziJ Fo w D p i (x.with vs d) sv M):=by
  obtain⟨g,cg,rfl,hg,ng,hlt,hn,hc,hf⟩:=h.slot hi;obtain⟨c0,c1,c2,cf⟩:=h.cells;have hok:=h.ok.ent x (zD.2 ⟨_,yh hi,rfl⟩);have hb:(x.birth==0)=false:=by have:=hok.b0;simp;omega
  have s0:w.cell? ⟨g,i*4,none⟩=_:=hc 0 _ rfl;have s1:=hc 1 _ rfl;have s2:=hc 2 _ rfl;have s3:=hc 3 _ rfl;have hn2:n≤65536:=by have:=kD hv;rw[uT]at this;omega
  have hn3:(n:Int)≤65536:=by omega
  obtain⟨va,vl,vc,rfl⟩ : ∃ a n c,v=.slice a n c:=by obtain⟨va,vc,e,_⟩:=kx (h.vals x v (yh hi));exact⟨_,_,_,e⟩
  have HL:=za h;have HI:=za hi;have HV:=za hv;clear h hi hv hc;go_enter func105,ntmps105
  go_wp2_with (first
    | (go_at_call 147;refine zm (VI p g _ cg i x.birth _ c0 c1 hlt hn s3 hb) ?_;rintro e w' ⟨rfl,rfl⟩)
    | (go_at_call 132;refine zm (UT a n c _ _ HV.out (by omega)) ?_;rintro e w1 ⟨a1,n1,c1',rfl,hr1,hf1,hp1⟩;have t1:=hp1.cell (fun h=>h) s1;have t2:=hp1.cell (fun h=>h) s2;have tf : ∀ j,w1.frozen? ⟨g,j,none⟩=false:=(fun j=>(Y1 (w:=w) (a:=⟨g,j,none⟩) (hp1.block g hg (fun h=>h))).trans (hf j));have HR1:=za hr1;have HP1:=za hp1;have HF1:=za hf1;clear hr1 hf1 hp1))
  go_ret;obtain⟨k1,k2⟩:=zfn (d:=d) HL.out HI.out HP1.out (qX HR1.out) hl HF1.out;exact⟨rfl,_,k1,k2⟩
end
section
open Go.RowKit Go.Shelf
variable{Fo:Nat→Prop}
attribute [local go_sem] Oper.semAt_some
def zan(w:World)(b5 b6:Nat)(It:Nat→Prop)(k:Nat):Prop:=w.heap.size+1+1<k∧k≠b5∧k≠b6 ∧ ¬ It k
structure XA(Fo:Nat→Prop)(w:World)(b5 b6 q:Nat)(len:Int)(It:Nat→Prop)(D:Nat→Prop)(pre:List xe)(W:World):Prop where
 r0:W.heap[w.heap.size]? = some (.cells #[.pointer none] 154 (0,0))
 r1:W.heap[w.heap.size+1]? = some (.cells #[.slice none 0 0,.int .i64 0] 269 (0,0))
 r2:W.heap[w.heap.size+1+1]? = some (.cells #[.int .i64 0] 31 (0,0))
 o5:W.heap[b5]? = some (.cells #[.pointer (some ⟨q,0,none⟩)] 154 (0,0))
 o6 : ∃ a c,W.heap[b6]? = some (.cells #[.slice a pre.length c,.int .i64 len] 269 (0,0))∧W.ownsRow 0 103 1 (.slice a pre.length c) pre.length (pre.map fun g => .int .u32 g.1) ∧ ∀ k,(Value.slice a pre.length c).ownBlock=some k→zan w b5 b6 It k ∧ ¬ D k
 lg : ∃ sv M',zP Fo W D q sv M'∧M'.map Prod.fst=pre.map (fun g=>some g.2.1)
 dd : ∀ k,D k→zan w b5 b6 It k
 pu:zb w W
theorem XA.quiet{w:World}{b5 b6 q:Nat}{len:Int}{It D:Nat→Prop}{pre:List xe}{A B:World}(h:XA Fo w b5 b6 q len It D pre A){N:Nat}(hN:w.heap.size≤N)(hq:zv N A B):XA Fo w b5 b6 q len It D pre B:=by
 obtain⟨a,c,h1,h2,h3⟩:=h.o6;obtain⟨sv,M',h4,h5⟩:=h.lg;exact⟨hq.cells h.r0,hq.cells h.r1,hq.cells h.r2,hq.cells h.o5,⟨a,c,hq.cells h1,hq.owns h2,h3⟩,⟨sv,M',h4.quiet hq,h5⟩,h.dd,hq.mod h.pu hN⟩
def CAx(Fo:Nat→Prop)(w:World)(p q q2:Nat)(len:Int)(B:Nat)(It:Nat→Prop)(L:List (Option Ent))(N:Nat)(pre:List xe)(x:xe)(a':Act)(W:World):Prop :=
 ∃ D b8 va vn vc,x.2.2=.slice va vn vc∧XA Fo w (q+1) (q+1+1) q len It D pre W∧Y7 N L pre x W∧W.heap[b8]? = some (.cells #[.string x.2.1.key,x.2.2,.int .u64 x.2.1.dl,.int .u64 x.2.1.birth] 47 (0,0)) ∧ ¬ D b8 ∧ ¬ It b8∧N≤b8∧N≤W.heap.size ∧
  a' = {tmps:=#[.pointer (some ⟨p,0,none⟩),undef,.pointer (some ⟨w.heap.size,0,none⟩),.pointer (some ⟨w.heap.size+1,0,none⟩),.pointer (some ⟨w.heap.size+1+1,0,none⟩),.pointer (some ⟨q+1,0,none⟩),.pointer (some ⟨q+1+1,0,none⟩),
   .int .u32 x.1,.pointer (some ⟨b8,0,none⟩),undef,undef,.pointer (some ⟨p,0,none⟩),.pointer (some ⟨q2,0,none⟩),.bool false,undef,.pointer (some ⟨q,0,none⟩),.pointer (some ⟨p,0,none⟩),.int .i64 len,.agg #[.slice none 0 0,.int .i64 len],
   .pointer (some ⟨p,0,none⟩),.func (.func 237) #[] #[.pointer (some ⟨B,0,none⟩)],.int .u32 x.1,.agg #[.string x.2.1.key,x.2.2,.int .u64 x.2.1.dl,.int .u64 x.2.1.birth],
   undef,undef,undef,undef,undef,undef,undef,undef,undef,undef,undef,undef,undef,undef,undef,undef,undef,undef],defers:=[]}
theorem CAx.quiet{w:World}{p q q2:Nat}{len:Int}{B:Nat}{It:Nat→Prop}{L:List (Option Ent)}{N:Nat}{pre:List xe}{x:xe}{a':Act}{A W:World}(h:CAx Fo w p q q2 len B It L N pre x a' A)(hN:w.heap.size≤N)(hq:zv N A W):CAx Fo w p q q2 len B It L N pre x a' W:=by
 obtain⟨D,b8,va,vn,vc,h1,h2,h3,h4,h5,h6,h7,h8,h9⟩:=h;exact⟨D,b8,va,vn,vc,h1,h2.quiet hN hq,h3.quiet hq,hq.cells h4,h5,h6,h7,zJ h8 (Mod.size hq),h9⟩
end
section
open Go.RowKit Go.Shelf
def below(xs:List Nat)(o:Nat):Nat:=xs.countP (decide <| · < o)

end
section
open Go.RowKit Go.Shelf
attribute [local go_sem] Oper.semAt_some
theorem zbv{P:Program}(w:World)(d:Nat)(t:TypeId){ps rs:Array TypeId}{v:Bool}(fn:Fn)(fi ca:Array Value)(h:P.underlying t=some (.func ps rs v)):(Op.equalIn (d+1) t (.func fn fi ca) .nilFunc).run P w=.ok false w:=by
 simp[Op.equalIn,run_underlying h]
@[go_sem] theorem zk5 (w : World) (fn : Fn) (fi ca : Array Value) : (binOp .neq 232 (.func fn fi ca) .nilFunc).run prog w=.ok (.bool true) w := by
 simp only[binOp];simp[Op.equal,Op.maxDepth,zbv w 9999 _ fn fi ca underlying232]
@[go_sem] theorem zk4 (w : World) (fn : Fn) (fi ca : Array Value) : (binOp .eql 232 (.func fn fi ca) .nilFunc).run prog w=.ok (.bool false) w := by
 simp only[binOp];simp[Op.equal,Op.maxDepth,zbv w 9999 _ fn fi ca underlying232]
def zav(L:List (Nat × Ent)):ByteArray:=L.foldl (fun s g=>s++g.2.key) ⟨#[]⟩
structure Vl(w:World)(b:Nat)(pre:List xe)(W:World):Prop where
 r:W.heap[b]? = some (.cells #[.string (zav (pre.map xQ))] 9 (0,0))
 pu:zb w W
 sz:(zav (pre.map xQ)).size≤250*pre.length
theorem Vl.quiet{w:World}{b:Nat}{pre:List xe}{A B:World}(h:Vl w b pre A){N:Nat}(hN:w.heap.size≤N)(hq:zv N A B):Vl w b pre B:=⟨hq.cells h.r,hq.mod h.pu hN,h.sz⟩
def KAx(w:World)(p B:Nat)(It:Nat→Prop)(N:Nat)(pre:List xe)(x:xe)(a':Act)(W:World):Prop :=
 ∃ b8 va vn vc,x.2.2=.slice va vn vc∧Vl w w.heap.size pre W∧W.heap[b8]? = some (.cells #[.string x.2.1.key,x.2.2,.int .u64 x.2.1.dl,.int .u64 x.2.1.birth] 47 (0,0))∧N≤b8∧N≤W.heap.size∧x.2.1.key.size≤250∧pre.length≤4194304 ∧
  a' = {tmps:=#[.pointer (some ⟨p,0,none⟩),undef,.string ⟨#[]⟩,.pointer (some ⟨w.heap.size,0,none⟩),.func (.func 237) #[] #[.pointer (some ⟨B,0,none⟩)],undef,.pointer (some ⟨b8,0,none⟩),.pointer (some ⟨p,0,none⟩),
   .func (.func 237) #[] #[.pointer (some ⟨B,0,none⟩)],.func (.func 237) #[] #[.pointer (some ⟨B,0,none⟩)],.bool true,.func (.func 237) #[] #[.pointer (some ⟨B,0,none⟩)],
   .int .u32 x.1,.agg #[.string x.2.1.key,x.2.2,.int .u64 x.2.1.dl,.int .u64 x.2.1.birth],undef,undef,undef,undef,undef],defers:=[]}
theorem KAx.quiet{w:World}{p B:Nat}{It:Nat→Prop}{N:Nat}{pre:List xe}{x:xe}{a':Act}{A W:World}(h:KAx w p B It N pre x a' A)(hN:w.heap.size≤N)(hq:zv N A W):KAx w p B It N pre x a' W:=by
 obtain⟨b8,va,vn,vc,h1,h2,h3,h4,h5,h6⟩:=h;exact⟨b8,va,vn,vc,h1,h2.quiet hN hq,hq.cells h3,h4,zJ h5 (Mod.size hq),h6⟩
end
section
open Go.RowKit Go.Shelf
def Y0(a b:Int):Bool:=decide (0≤b)&&decide (16<a)&&decide (2*b≤a-17)
theorem Azuvs {P:Prop}(h:P:=by
 go_enter func103,ntmps103;go_wp2;go_ret;exact⟨by simp<;>omega,rfl⟩):P:=h
theorem zbQ(w:World)(a b:Int)(a0 : -9223372036854775808≤a)(a1:a≤9223372036854775807) :
  Calls prog 103 #[.int .i64 a,.int .i64 b] w fun e w'=>e=.returned (.bool (Y0 a b))∧w=w':=by
 unfold Y0;by_cases h1:0≤b
 ·by_cases h2:16<a
  ·have h3:(a-16-1).tdiv 2=(a-17)/2:=by rw[Ue (by omega)];omega
   by_cases h4:2*b≤a-17
   ·have h5:b≤(a-17)/2:=by omega
    exact Azuvs
   ·have h5:(a-17)/2<b:=by omega
    exact Azuvs
  ·have h2':a≤16:=by omega
   exact Azuvs
 ·have h1':b<0:=by omega
  exact Azuvs
end
section
open Go.RowKit
theorem JO{w:World}{a:Option Addr}{n c:Nat}(l:List UInt8)(h:zn w (.slice a n c) 1 (zS l)) :
  (convert 45 9 (.slice a n c)).run prog w=.ok (.string ⟨l.toArray⟩) w:=by
 obtain⟨a',n',c',he,hl,_,h0,hc⟩:=h
 cases he
 rw[uT,j3]at hl;subst hl
 cases a with
 | none =>
  have:=h0 rfl;have hn:l=[]:=jY this;subst hn;rw[run_convert_bytes_string w _ _ _ none (List.length (α:=UInt8) []) c underlying45 underlying5 underlying9]
  rfl
 | some ad =>
  exact run_convert_bytes_back w _ _ _ ad c l underlying45 underlying5 underlying9 (fun j hj=>hc ad rfl j _ (by simp[zS,hj]))
theorem zjb{w:World}{gF:Nat}{F:List Nd}{T:TypeId}{n a b:Nat}(ha:(nd F n).pv=a)(hb:(nd F n).nx=b)(h:w.heap[gF]? = some (.cells (xd F).toArray T (0,0)))(haF:a<F.length)(hbF:b<F.length) :
  ((w.setCell ⟨gF,a*3+1,none⟩ (.int .u32 b)).setCell ⟨gF,b*3,none⟩ (.int .u32 a)).heap[gF]? = some (.cells (xd ((F.set a ⟨(nd F a).pv,b,(nd F a).ow⟩).set b ⟨a,(nd (F.set a ⟨(nd F a).pv,b,(nd F a).ow⟩) b).nx,(nd (F.set a ⟨(nd F a).pv,b,(nd F a).ow⟩) b).ow⟩)).toArray T (0,0)):=by
 have h1:=ZF h (i:=a) (j:=1) (u := .int .u32 b) (m:=⟨(nd F a).pv,b,(nd F a).ow⟩) haF (by decide) rfl;exact ZF h1 (i:=b) (j:=0) (u := .int .u32 a) (by simpa using hbF) (by decide) rfl
def X9(p b6:Nat)(v0 v1 u0 u1:Value)(w':World):Prop:=w'.cell? ⟨p,0,none⟩=some v0∧w'.cell? ⟨p,2,none⟩=some v1∧w'.cell? ⟨b6,0,none⟩=some u0∧w'.cell? ⟨b6,1,none⟩=some u1
theorem X9.set{p b6 g i:Nat}{v0 v1 u0 u1 v:Value}{X:World}(h:X9 p b6 v0 v1 u0 u1 X)(h1:g≠p)(h2:g≠b6):X9 p b6 v0 v1 u0 u1 (X.setCell ⟨g,i,none⟩ v) :=
 ⟨u9 h.1 (.inl h1),u9 h.2.1 (.inl h1),u9 h.2.2.1 (.inl h2),u9 h.2.2.2 (.inl h2)⟩
section
variable{w w':World}{p gF gL cF cL N:Nat}{Ls:List (List Nat)}{F:List Nd}{D:Nat→Prop}
theorem zhJ(h:yZ w p gF gL cF cL N Ls F){n k:Nat}{l:List Nat}(hl:Ls[k]? = some l)(hm:n∈l) :
  Calls prog 264 #[lkP p,.int .u32 n] w fun e w'=>e=.returned (.int .i64 0)∧yZ w' p gF gL cF cL N (Ls.set k (l.erase n)) (kg F n)∧Mod (fun b=>b=gF∨b=gL) w w':=by
 obtain⟨a1,hn,how,haF,hbF,han,hbn⟩:=h.ok.cut hl hm;have hk:k<Ls.length:=(zC.1 hl).1;have hk4:k<4096:=by have:=h.hm;omega
 have hnF:n<F.length:=by rw[h.ok.len];omega
 have h32:n≤4294967295:=by have:=h.nm;omega
 have HI:=zbg h h32;have e0:inE N F n=0:=by unfold inE;rw[zh hn,zf (by omega)]
 rw[e0]at HI;have HI:=za HI;have hll:l.length≤N:=h.ok.short hl;have hl0:0<l.length:=U6 hm;have hnm:=h.nm;have hend : ∀(w':World),w'.heap[gF]? = some (.cells (xd (kg F n)).toArray 342 (0,0))→w'.heap[gL]? = some (.cells ((vO Ls).set k (.int .i64 ((l.length-1:Nat):Int))).toArray 3 (0,0))→Mod (fun b=>b=gF∨b=gL) w w'→yZ w' p gF gL cF cL N (Ls.set k (l.erase n)) (kg F n):=fun w' g1 g2 g3=>by
  obtain⟨n1,n2,n3⟩:=h.ne;refine⟨?_,g1,?_,a1,h.n1,h.nm,by rw[xp];exact h.hm⟩
  ·rw[Qq,xp];exact g3.heap (fun e=>by rcases e with e | e;exact n1 e;exact n2 e) h.box
  ·rw[← Q7,List.length_erase_of_mem hm];exact g2
 have HE:=za hend;have hFb:F.length≤4198400:=by rw[h.ok.len];have:=h.hm;omega
 obtain⟨c0,c1,c2⟩:=h.at_ hnF;rw[how]at c2;obtain⟨ne1,ne2,ne3⟩:=h.ne;have HFL:=za h.fld;have HLN:=za h.len;have HNX:=za (fun(X:World) (hX:X.heap[gL]? = some (.cells (vO Ls).toArray 3 (0,0)))=>(show X.cell? ⟨gL,k,none⟩=some (.int .i64 (l.length:Nat)) by rw[zj X gL k _ _ (0,0) hX,vf];exact Uk hl));have hbx:=h.box;have hp6:p<w.heap.size:=zl hbx;have hg6:gF<w.heap.size:=zl h.fld;have hL6:gL<w.heap.size:=zl h.len;obtain⟨FL,hFL⟩:=zc F.length;obtain⟨a,ha⟩:=zc ((nd F n).pv);obtain⟨b,hb⟩:=zc ((nd F n).nx);rw[ha]at haF han c0;rw[hb]at hbF hbn c1;rw[hFL]at hbx hFb hnF haF hbF;have HBX:=za hbx;have HA:=za ha;have HB:=za hb;have HFLe:=za hFL;have HOW:=za how;clear h hend hFL a1 hl hm ha hb how e0 hbx;have hbx:=HBX.out;obtain⟨kk,hkk⟩:=zc (k+1);rw[hkk]at c2 HOW;have wk:IntKind.u32.wrap ((kk:Int)-1)=(k:Int):=by rw[← hkk,show((k+1:Nat):Int)-1=(k:Int) by omega];exact YX k (by omega)
 have dn:decide (n<FL)=true:=zK hnF;have da:decide (a<FL)=true:=zK haF;have db:decide (b<FL)=true:=zK hbF;clear hkk;obtain⟨hbx_0,hbx_1,hbx_2,hbx_f,hbx_l,H_hbx⟩:=cr3 hbx;clear hbx;go_enter func264,ntmps264;go_upto_region 5 with(go_at_call 298;refine HI.out.mono ?_;rintro e w' ⟨rfl,rfl⟩)
 have hal:zb w (w.alloc (.cells #[.int .u32 a,.int .u32 b,.int .u32 kk] 342)):=(Mod.refl _ w).alloc _;have h6:=zi (w:=w) (o := .cells #[.int .u32 a,.int .u32 b,.int .u32 kk] 342 (0,0)) rfl;have hbx0:=hal.heap (fun h=>h) HBX.out;have hf0:=hal.heap (fun h=>h) HFL.out;have hl0':=hal.heap (fun h=>h) HLN.out;have n6:gF≠w.heap.size:=by omega
 have n6L:gL≠w.heap.size:=by omega
 have HM0:=za hal;clear hbx_0 hbx_1 hbx_2 hbx_f hbx_l;clear H_hbx c0 c1 c2 hal hp6 hg6 hL6;generalize w.alloc (.cells #[.int .u32 a,.int .u32 b,.int .u32 kk] 342)=X0 at *;generalize w.heap.size=b6 at *;have HF0:=za hf0;have HL0:=za hl0';have HBX0:=za hbx0;have H60:=za h6;obtain⟨r0,r1,r2⟩:=qV hf0 (i:=a) (by rw[HFLe.out];exact haF);obtain⟨s0,s1,s2⟩:=qV hf0 (i:=b) (by rw[HFLe.out];exact hbF);have g0:=yP X0 gF (a*3+1) _ _ hf0;have g1:=yP X0 gF (b*3) _ _ hf0;have hX:gF<X0.heap.size:=zl hf0;clear hf0 hl0';obtain⟨hbx0_0,hbx0_1,hbx0_2,hbx0_f,hbx0_l,H_hbx0⟩:=cr3 hbx0;clear hbx0;obtain⟨h6_0,h6_1,h6_2,h6_f,h6_l,H_h6⟩:=cr3 h6;clear h6;have HS:Hid (X9 p b6 (.slice (some ⟨gF,0,none⟩) FL cF) (.slice (some ⟨gL,0,none⟩) Ls.length cL) (.int .u32 a) (.int .u32 b) X0):=za ⟨hbx0_0,hbx0_2,h6_0,h6_1⟩;go_upto_region 5 with fail
 go_region_held3 (fun w'=>w'.cell? ⟨p,0,none⟩=some (.slice (some ⟨gF,0,none⟩) FL cF)∧w'.cell? ⟨p,2,none⟩=some (.slice (some ⟨gL,0,none⟩) Ls.length cL)∧w'.cell? ⟨b6,0,none⟩=some (.int .u32 a)∧w'.cell? ⟨b6,1,none⟩=some (.int .u32 b))
  (first | exact HS.out | exact HS.out.set ne1.symm n6 | exact(HS.out.set ne1.symm n6).set ne1.symm n6) (fail)
 have hm2:Mod (fun b=>b=gF) X0 ((X0.setCell ⟨gF,a*3+1,none⟩ (.int .u32 b)).setCell ⟨gF,b*3,none⟩ (.int .u32 a)).drew :=
  (((Mod.refl (fun b=>b=gF) X0).setCell (p:=⟨gF,a*3+1,none⟩) (fun _=>rfl) _).setCell (p:=⟨gF,b*3,none⟩) (fun _=>rfl) _).drew
 have hf2:((X0.setCell ⟨gF,a*3+1,none⟩ (.int .u32 b)).setCell ⟨gF,b*3,none⟩ (.int .u32 a)).drew.heap[gF]? = _:=zjb HA.out HB.out HF0.out (by rw[HFLe.out];exact haF) (by rw[HFLe.out];exact hbF);generalize((X0.setCell ⟨gF,a*3+1,none⟩ (.int .u32 b)).setCell ⟨gF,b*3,none⟩ (.int .u32 a)).drew=X2 at hm2 hf2 ⊢;have hbx2:=hm2.heap (fun e=>ne1 e) HBX0.out;have hln2:=hm2.heap (fun e=>ne3 e.symm) HL0.out;have h62:=hm2.heap (fun e=>n6 e.symm) H60.out;have hl9:=HNX.out _ hln2;clear hbx0_0 hbx0_1 hbx0_2 hbx0_f hbx0_l;clear h6_0 h6_1 h6_2 h6_f h6_l;clear H_hbx0 H_h6 r0 r1 r2 s0 s1 s2 g0 g1 hX HS;have g0:=yP X2 gL k _ _ hln2;have HM:=za ((HM0.out.mono (fun _ _ h=>h.elim)).trans (hm2.mono (fun _ _ h=>Or.inl h)):Mod (fun b=>b=gF∨b=gL) w X2);have HF2:=za hf2;have HL2:=za hln2;have hX2:gL<X2.heap.size:=zl hln2;have hX3:gF<X2.heap.size:=zl hf2;clear hm2 hf2 hln2;have dk:decide (k<Ls.length)=true:=zK hk;have wl:IntKind.i64.wrap ((l.length:Int)-1)=(l.length:Int)-1:=zo _ (by omega);obtain⟨hbx2_0,hbx2_1,hbx2_2,hbx2_f,hbx2_l,H_hbx2⟩:=cr3 hbx2;clear hbx2;obtain⟨h62_0,h62_1,h62_2,h62_f,h62_l,H_h62⟩:=cr3 h62;clear h62;go_upto_region 6 with fail
 go_still_tail 11,(by kernel_rfl)
 go_upto_region 7 with fail
 have e1:(X2.setCell ⟨gL,k,none⟩ (.int .i64 ((l.length:Int)-1))).drew.heap[gF]? = _:=yQ HF2.out ne3;have e2:(X2.setCell ⟨gL,k,none⟩ (.int .i64 ((l.length:Int)-1))).drew.heap[gL]? = _:=zT X2 gL k _ _ (.int .i64 ((l.length:Int)-1)) HL2.out;rw[jX,show((l.length:Int)-1)=((l.length-1:Nat):Int) by omega]at e2;rw[show((l.length:Int)-1)=((l.length-1:Nat):Int) by omega]at e1;have e3:=(HM.out.setCell (p:=⟨gL,k,none⟩) (fun _ => .inr rfl) (.int .i64 ((l.length-1:Nat):Int))).drew;have e4:(X2.setCell ⟨gL,k,none⟩ (.int .i64 ((l.length-1:Nat):Int))).drew.heap[p]? = _:=yQ H_hbx2.out ne2;rw[show((l.length:Int)-1)=((l.length-1:Nat):Int) by omega];clear hbx2_0 hbx2_1 hbx2_2 hbx2_f hbx2_l;clear h62_0 h62_1 h62_2 h62_f h62_l;clear H_hbx2 H_h62 wl dk hl9 g0 hX2 hX3;generalize(X2.setCell ⟨gL,k,none⟩ (.int .i64 ((l.length-1:Nat):Int))).drew=X3 at e1 e2 e3 e4 ⊢;obtain⟨q0,q1,q2⟩:=qV e1 (i:=n) (by simp;rw[HFLe.out];exact hnF);have g0:=yP X3 gF (n*3) _ _ e1;have g1:=yP X3 gF (n*3+1) _ _ e1;have g2:=yP X3 gF (n*3+2) _ _ e1;have hX3:gF<X3.heap.size:=zl e1;have HE1:=za e1;have HE2:=za e2;have HE3:=za e3;have hfin:=Ua e1 (i:=n) (by simp;rw[HFLe.out];exact hnF) 0 0 0;have HFIN:=za hfin;clear e1 e2 e3 hfin;obtain⟨e4_0,e4_1,e4_2,e4_f,e4_l,H_e4⟩:=cr3 e4;clear e4;go_wp2;have r1:=HFIN.out;have r2:=yQ (v := .int .u32 0) (yQ (v := .int .u32 0) (yQ (a:=⟨gF,n*3,none⟩) (v := .int .u32 0) HE2.out (fun e=>ne3 e.symm)) (a:=⟨gF,n*3+1,none⟩) (fun e=>ne3 e.symm)) (a:=⟨gF,n*3+2,none⟩) (fun e=>ne3 e.symm);have r3:=((HE3.out.setCell (p:=⟨gF,n*3,none⟩) (fun _ => .inl rfl) (.int .u32 0)).setCell (p:=⟨gF,n*3+1,none⟩) (fun _ => .inl rfl) (.int .u32 0)).setCell (p:=⟨gF,n*3+2,none⟩) (fun _ => .inl rfl) (.int .u32 0);go_ret;refine⟨rfl,HE.out _ ?_ r2 r3,r3⟩;unfold kg;rw[HA.out,HB.out];exact r1
theorem zbV(h:yf w D p N Ls){n k:Nat}{l:List Nat}(hl:Ls[k]? = some l)(hm:n∈l) :
  Calls prog 264 #[lkP p,.int .u32 n] w fun e w'=>e=.returned (.int .i64 0)∧yf w' D p N (Ls.set k (l.erase n))∧Mod D w w':=by
 obtain⟨gF,gL,cF,cL,F,h1,h2⟩:=h;refine(zhJ h1 hl hm).mono ?_;rintro e w' ⟨he,q1,q2⟩;exact⟨he,⟨gF,gL,cF,cL,_,q1,h2⟩,q2.mono (fun k _ hk=>(h2 k).2 (.inr hk))⟩
end
theorem zjL(n:Nat)(hn:n<18446744073709551616)(hb0:4294967296≤n)(w:World):Calls prog 246 #[.int .u64 n] w fun e w'=>e=.returned (.int .i64 (yL n))∧w=w':=by
 have d0:decide (4294967296≤(n:Int))=true:=zK (by omega);have hbb:=qU (n:=n) (j:=32) hb0;obtain⟨q,hq⟩:=zc (n/2 ^ 32);have e0:(n:Int)/4294967296=(q:Int):=by omega
 have hq2:q<4294967296:=by omega
 rw[hq]at hbb;have n0:(0:Int)≤n:=by omega
 have q0:(0:Int)≤q:=by omega
 by_cases c1:65536≤q
 ·have d1:decide (65536≤(q:Int))=true:=zK (by omega);have hb:=qU (n:=q) (j:=16) c1;obtain⟨k,hk⟩:=zc (q/2 ^ 16);have e1:(q:Int)/65536=(k:Int):=by omega
  have hk2:k<65536:=by omega
  rw[hk]at hb;have k0:(0:Int)≤k:=by omega
  by_cases c2:256≤k
  ·have d2:decide (256≤(k:Int))=true:=zK (by omega);have hb2:=qU (n:=k) (j:=8) c2;obtain⟨m,hm⟩:=zc (k/2 ^ 8);have e2:(k:Int)/256=(m:Int):=by omega
   have hm2:m<256:=by omega
   rw[hm]at hb2;have m0:(0:Int)≤m:=by omega
   have m1:(m:Int)<256:=by omega
   have w8:IntKind.u8.wrap (m:Int)=m:=by simp[IntKind.wrap,IntKind.signed,IntKind.bits];omega
   go_enter func246,ntmps246;go_wp2;go_ret;exact⟨congrArg (fun x=>Ending.returned (.int .i64 x)) (qo 56 _ (by decide) (by decide +kernel) m hm2 _ n (by omega) (by omega)),rfl⟩
  ·have d2:decide (256≤(k:Int))=false:=zO (by omega);have m1:(k:Int)<256:=by omega
   have w8:IntKind.u8.wrap (k:Int)=k:=by simp[IntKind.wrap,IntKind.signed,IntKind.bits];omega
   go_enter func246,ntmps246;go_wp2;go_ret;exact⟨congrArg (fun x=>Ending.returned (.int .i64 x)) (qo 48 _ (by decide) (by decide +kernel) k (by omega) _ n (by omega) (by omega)),rfl⟩
 ·have d1:decide (65536≤(q:Int))=false:=zO (by omega);by_cases c2:256≤q
  ·have d2:decide (256≤(q:Int))=true:=zK (by omega);have hb2:=qU (n:=q) (j:=8) c2;obtain⟨m,hm⟩:=zc (q/2 ^ 8);have e2:(q:Int)/256=(m:Int):=by omega
   have hm2:m<256:=by omega
   rw[hm]at hb2;have m0:(0:Int)≤m:=by omega
   have m1:(m:Int)<256:=by omega
   have w8:IntKind.u8.wrap (m:Int)=m:=by simp[IntKind.wrap,IntKind.signed,IntKind.bits];omega
   go_enter func246,ntmps246;go_wp2;go_ret;exact⟨congrArg (fun x=>Ending.returned (.int .i64 x)) (qo 40 _ (by decide) (by decide +kernel) m hm2 _ n (by omega) (by omega)),rfl⟩
  ·have d2:decide (256≤(q:Int))=false:=zO (by omega);have m1:(q:Int)<256:=by omega
   have w8:IntKind.u8.wrap (q:Int)=q:=by simp[IntKind.wrap,IntKind.signed,IntKind.bits];omega
   go_enter func246,ntmps246;go_wp2;go_ret;exact⟨congrArg (fun x=>Ending.returned (.int .i64 x)) (qo 32 _ (by decide) (by decide +kernel) q (by omega) _ n (by omega) (by omega)),rfl⟩
theorem zgF(n:Nat)(hn:n<18446744073709551616)(w:World):Calls prog 246 #[.int .u64 n] w fun e w'=>e=.returned (.int .i64 (yL n))∧w=w':=by
 by_cases h:n<4294967296
 ·exact zac n h w
 ·exact zjL n hn (by omega) w
theorem zjg{now dl:Nat}(hn:now<18446744073709551616)(hd:dl<18446744073709551616)(h:dl≠now):1≤yL (dl ^^^ now)∧yL (dl ^^^ now)≤64∧(yL (dl ^^^ now)-1)/8=lvl now dl:=by
 have h0:dl ^^^ now≠0:=fun e=>h (UC.1 e)
 have hx:dl ^^^ now<2 ^ 64:=qy hd hn;have hb:yL (dl ^^^ now)=Nat.log2 (dl ^^^ now)+1:=by unfold yL;rw[zf h0]
 have h1:=zaV (dl ^^^ now);have h2:2 ^ (yL (dl ^^^ now)-1)≤dl ^^^ now:=by rw[hb];exact Nat.log2_self_le h0
 exact⟨by omega,UX hx,ziM hn hd h h1 h2 (by omega)⟩
def km(t n:Nat):Nat:=if 18446744073709551615-t≤n then 18446744073709551615 else t+n
theorem zdH{t n:Nat}(ht:t≤18446744073709551615)(hn:n≤18446744073709551615)(w:World):Calls prog 37 #[.int .u64 t,.int .u64 n] w fun e w'=>e=.returned (.int .u64 (km t n:Nat))∧w=w':=by
 have h1:IntKind.u64.wrap ((18446744073709551615:Int)-(t:Int))=((18446744073709551615-t:Nat):Int):=by simp[IntKind.wrap,IntKind.signed,IntKind.bits];omega
 unfold km;by_cases h:18446744073709551615-t≤n
 ·rw[zh h];have h2:((18446744073709551615-t:Nat):Int)≤(n:Int):=by omega
  go_enter func37,ntmps37;go_wp2;go_ret;exact⟨rfl,rfl⟩
 ·rw[zf h];have h2 : ¬ ((18446744073709551615-t:Nat):Int)≤(n:Int):=by omega
  have h3:IntKind.u64.wrap ((t:Int)+(n:Int))=((t+n:Nat):Int):=by simp[IntKind.wrap,IntKind.signed,IntKind.bits];omega
  go_enter func37,ntmps37;go_wp2;go_ret;exact⟨rfl,rfl⟩
def jz(d t:Nat):Bool:=decide (d≠18446744073709551615)&&decide (d≤t)
theorem zfP(d t:Nat)(w:World):Calls prog 54 #[.int .u64 d,.int .u64 t] w fun e w'=>e=.returned (.bool (jz d t))∧w=w':=by
 unfold jz;by_cases h:d=18446744073709551615
 ·subst h;go_enter func54,ntmps54;go_wp2;go_ret;exact⟨rfl,rfl⟩
 ·have h1:(((d:Nat):Int) != 18446744073709551615)=true:=by simp;omega
  by_cases h2:d≤t
  ·have h3:((d:Nat):Int)≤((t:Nat):Int):=by omega
   go_enter func54,ntmps54;go_wp2;go_ret;exact⟨by simp[h,h2],rfl⟩
  ·have h3 : ¬ ((d:Nat):Int)≤((t:Nat):Int):=by omega
   go_enter func54,ntmps54;go_wp2;go_ret;exact⟨by simp[h,h2],rfl⟩
def uy(ks n:Nat):Nat:=if vh ks n 1=0 then ks+n+48 else 0
theorem Az1o5 {P:Prop}(h:P:=by
 go_wp2_with (go_at_call 86;refine HC.out.mono ?_;rintro e w1 ⟨rfl,hp⟩)
 go_ret2;exact⟨rfl,hp⟩):P:=h
theorem zhA(s:ByteArray)(a:Option Addr)(n c:Nat)(w:World)(hs:s.size≤140737488355328)(hn:n≤140737488355328) :
  Calls prog 48 #[.string s,.slice a n c] w fun e w'=>e=.returned (.tuple #[.int .i64 (uy s.size n:Nat),.int .i64 (vh s.size n 1)])∧zb w w':=by
 have HC:=za (KZ s a n c 1 w hs hn);unfold uy;obtain⟨er,hE⟩:=zc (vh s.size n 1);unfold KM at HC;rw[hE]at HC ⊢;clear hE;have w1:IntKind.i64.wrap ((s.size:Int)+(n:Int))=(s.size:Int)+(n:Int):=zo _ (by omega);have w2:IntKind.i64.wrap ((s.size:Int)+(n:Int)+48)=(s.size:Int)+(n:Int)+48:=zo _ (by omega);by_cases h0:er=0
 ·subst h0;rw[zh rfl];go_enter func48,ntmps48;exact Az1o5
 ·rw[zf h0];have he0:(er != 0)=true:=by simp;omega
  go_enter func48,ntmps48;exact Az1o5
def Y8(ks n:Nat)(b:Int):Bool:=vh ks n b==0
theorem zhB(k:ByteArray)(a:Option Addr)(n c:Nat)(d b:Int)(w:World)(hs:k.size≤140737488355328)(hn:n≤140737488355328) :
  Calls prog 185 #[.agg #[.string k,.slice a n c,.int .u64 d,.int .u64 b]] w fun e w'=>e=.returned (.bool (Y8 k.size n b))∧zb w w':=by
 unfold Y8;have hp0:zb w (w.alloc (.cells #[.string k,.slice a n c,.int .u64 d,.int .u64 b] 47)):=(Mod.refl _ w).alloc _;have z:=zi (w:=w) (o:=(.cells #[.string k,.slice a n c,.int .u64 d,.int .u64 b] 47 (0,0))) rfl;have HC:=za (fun W=>KZ k a n c b W hs hn);have HP:=za hp0;clear hp0;unfold KM at HC;obtain⟨er,hE⟩:=zc (vh k.size n b);rw[hE]at HC ⊢;clear hE;go_enter func185,ntmps185;go_upto_region 1 with fail
 generalize w.alloc (.cells #[.string k,.slice a n c,.int .u64 d,.int .u64 b] 47)=W1 at *;generalize w.heap.size=b1 at *;obtain⟨z_0,z_1,z_2,z_3,z_f,z_l,H_z⟩:=cr4 z;clear z
 go_wp2_with (go_at_call 86;refine(HC.out _).mono ?_;rintro e w1 ⟨rfl,hp⟩)
 go_ret;exact⟨rfl,HP.out.trans hp⟩
structure Cfg where
 count:Int
 bytes:Int
 prot:Int
 seed:Nat
 same:Bool
def Cfg.cells(c:Cfg):Array Value:=#[.int .i64 c.count,.int .i64 c.bytes,.int .i64 c.prot,.int .u64 c.seed,.bool c.same]
abbrev Cfg.v(c:Cfg):Value := .agg #[.int .i64 c.count,.int .i64 c.bytes,.int .i64 c.prot,.int .u64 c.seed,.bool c.same]
def uv(n a b:Int):Bool:=decide (a≤n)&&decide (n≤b)
theorem zh1(n a b:Int)(w:World):Calls prog 68 #[.int .i64 n,.int .i64 a,.int .i64 b] w fun e w'=>e=.returned (.bool (uv n a b))∧w=w':=by
 unfold uv;by_cases h1:a≤n
 ·by_cases h2:n≤b
  ·go_enter func68,ntmps68;go_wp2;go_ret;exact⟨by simp[h1,h2],rfl⟩
  ·go_enter func68,ntmps68;go_wp2;go_ret;exact⟨by simp[h1,h2],rfl⟩
 ·go_enter func68,ntmps68;go_wp2;go_ret;exact⟨by simp;omega,rfl⟩
def Cfg.err(c:Cfg):Int:=if uv c.count 1 1048576 then(if uv c.bytes 1 1099511627776 then(if uv c.prot 0 99 then 0 else 242)else 241)else 240
theorem QT(c:Cfg)(w:World):Calls prog 39 #[c.v] w fun e w'=>e=.returned (.int .i64 c.err)∧zb w w':=by
 obtain⟨cn,cb,cp,sd,sm⟩:=c;unfold Cfg.err;dsimp only[Cfg.v];have hp0:zb w (w.alloc (.cells #[.int .i64 cn,.int .i64 cb,.int .i64 cp,.int .u64 sd,.bool sm] 29)):=(Mod.refl _ w).alloc _;have z:=zi (w:=w) (o:=(.cells #[.int .i64 cn,.int .i64 cb,.int .i64 cp,.int .u64 sd,.bool sm] 29 (0,0))) rfl;have HP:=za hp0;have HB:=za zh1;clear hp0;generalize h1:uv cn 1 1048576=b1;generalize h2:uv cb 1 1099511627776=b2;generalize h3:uv cp 0 99=b3;have H1:=za h1;have H2:=za h2;have H3:=za h3;clear h1 h2 h3;go_enter func39,ntmps39;go_upto_region 1 with fail
 generalize w.alloc (.cells #[.int .i64 cn,.int .i64 cb,.int .i64 cp,.int .u64 sd,.bool sm] 29)=W1 at *;generalize w.heap.size=bb at *;obtain⟨z_0,z_1,z_2,z_3,z_4,z_f,z_l,H_z⟩:=cr5 z;clear z;have HT:=za HP.out
 go_wp2_with (go_at_call 68;refine(HB.out _ _ _ _).mono ?_;first | (rw[H1.out];rintro e w1 ⟨rfl,rfl⟩;cases b1) | (rw[H2.out];rintro e w1 ⟨rfl,rfl⟩;cases b2) | (rw[H3.out];rintro e w1 ⟨rfl,rfl⟩;cases b3))
 all_goals
  go_ret;exact⟨rfl,HT.out⟩
abbrev evV(k:Int)(key:ByteArray)(v:Value)(b d t:Nat):Value := .agg #[.int .i64 k,.string key,v,.int .u64 b,.int .u64 d,.int .u64 t]
def YW(k:Int):Bool:=decide (1≤k)&&decide (k<6)
theorem ziq(k:Int)(w:World):Calls prog 186 #[.int .i64 k] w fun e w'=>e=.returned (.bool (YW k))∧w=w':=by
 unfold YW;by_cases h1:1≤k
 ·by_cases h2:k<6
  ·go_enter func186,ntmps186;go_wp2;go_ret;exact⟨by simp[h1,h2],rfl⟩
  ·go_enter func186,ntmps186;go_wp2;go_ret;exact⟨by simp;omega,rfl⟩
 ·go_enter func186,ntmps186;go_wp2;go_ret;exact⟨by simp;omega,rfl⟩
theorem zkk(k:Int)(key:ByteArray)(a:Option Addr)(n c b d t:Nat)(w:World):Calls prog 187 #[evV k key (.slice a n c) b d t] w fun e w'=>e=.returned (.agg #[.string key,.slice a n c,.int .u64 d,.int .u64 b])∧zb w w':=by
 have hp0:zb w ((w.alloc (.cells #[.int .i64 k,.string key,.slice a n c,.int .u64 b,.int .u64 d,.int .u64 t] 145)).alloc (.cells #[.string ⟨#[]⟩,.slice none 0 0,.int .u64 0,.int .u64 0] 47)):=((Mod.refl _ w).alloc _).alloc _;have z1:=zL (o := .cells #[.string ⟨#[]⟩,.slice none 0 0,.int .u64 0,.int .u64 0] 47) (zi (w:=w) (o := .cells #[.int .i64 k,.string key,.slice a n c,.int .u64 b,.int .u64 d,.int .u64 t] 145 (0,0)) rfl);have z2:=zi (w:=w.alloc (.cells #[.int .i64 k,.string key,.slice a n c,.int .u64 b,.int .u64 d,.int .u64 t] 145)) (o := .cells #[.string ⟨#[]⟩,.slice none 0 0,.int .u64 0,.int .u64 0] 47 (0,0)) (n:=w.heap.size+1) (by simp);have HP:=za hp0;clear hp0;go_enter func187,ntmps187;go_upto_region 1 with fail
 generalize(w.alloc (.cells #[.int .i64 k,.string key,.slice a n c,.int .u64 b,.int .u64 d,.int .u64 t] 145)).alloc (.cells #[.string ⟨#[]⟩,.slice none 0 0,.int .u64 0,.int .u64 0] 47)=W1 at *;obtain⟨b1,hb1⟩:=zc w.heap.size;rw[hb1]at z1 z2 ⊢;have HB:=za hb1;clear hb1;have Z2:=za z2;obtain⟨z1_0,z1_1,z1_2,z1_3,z1_4,z1_5,z1_f,z1_l,H_z1⟩:=cr6 z1;clear z1;obtain⟨z2_0,z2_1,z2_2,z2_3,z2_f,z2_l,H_z2⟩:=cr4 z2;clear z2;go_wp2;have h0:=zT W1 (b1+1) 0 _ _ (.string key) Z2.out;have h1:=zT _ (b1+1) 1 _ _ (.slice a n c) h0;have h2:=zT _ (b1+1) 2 _ _ (.int .u64 d) h1;have h3:=zT _ (b1+1) 3 _ _ (.int .u64 b) h2;have hm:Mod (fun k=>k=b1+1) W1 ((((W1.setCell ⟨b1+1,0,none⟩ (.string key)).setCell ⟨b1+1,1,none⟩ (.slice a n c)).setCell ⟨b1+1,2,none⟩ (.int .u64 d)).setCell ⟨b1+1,3,none⟩ (.int .u64 b)) :=
  ((((Mod.refl (fun k=>k=b1+1) W1).setCell (p:=⟨b1+1,0,none⟩) (fun _=>rfl) _).setCell (p:=⟨b1+1,1,none⟩) (fun _=>rfl) _).setCell (p:=⟨b1+1,2,none⟩) (fun _=>rfl) _).setCell (p:=⟨b1+1,3,none⟩) (fun _=>rfl) _
 obtain⟨Y,hY⟩:=zc (((((W1.setCell ⟨b1+1,0,none⟩ (.string key)).setCell ⟨b1+1,1,none⟩ (.slice a n c)).setCell ⟨b1+1,2,none⟩ (.int .u64 d)).setCell ⟨b1+1,3,none⟩ (.int .u64 b)));rw[hY]at h3 hm ⊢;have c0:=zj Y (b1+1) 0 _ _ _ h3;have c1:=zj Y (b1+1) 1 _ _ _ h3;have c2:=zj Y (b1+1) 2 _ _ _ h3;have c3:=zj Y (b1+1) 3 _ _ _ h3;simp at c0 c1 c2 c3;refine zM (v := .agg #[.string key,.slice a n c,.int .u64 d,.int .u64 b]) (by simp[results,results187,go_sem,c0,c1,c2,c3]) rfl ⟨rfl,?_⟩;exact HP.out.then hm (fun i hi e=>by have:=HB.out;omega)
def evB(k:Int)(ks n b d t:Nat):Bool:=YW k&&(Y8 ks n b&&(jz d t==(k==1)))
def EvS(b1:Nat)(k:Int)(key:ByteArray)(v:Value)(b d t:Nat)(X:World):Prop :=
 X.cell? ⟨b1,0,none⟩=some (.int .i64 k)∧X.cell? ⟨b1,1,none⟩=some (.string key)∧X.cell? ⟨b1,2,none⟩=some v∧X.cell? ⟨b1,3,none⟩=some (.int .u64 b)∧X.cell? ⟨b1,4,none⟩=some (.int .u64 d)∧X.cell? ⟨b1,5,none⟩=some (.int .u64 t)
theorem zi4(k:Int)(key:ByteArray)(a:Option Addr)(n c b d t:Nat)(w:World)(hs:key.size≤140737488355328)(hn:n≤140737488355328) :
  Calls prog 134 #[evV k key (.slice a n c) b d t] w fun e w'=>e=.returned (.bool (evB k key.size n b d t))∧zb w w':=by
 have hp0:zb w (w.alloc (.cells #[.int .i64 k,.string key,.slice a n c,.int .u64 b,.int .u64 d,.int .u64 t] 145)):=(Mod.refl _ w).alloc _;have z:=zi (w:=w) (o := .cells #[.int .i64 k,.string key,.slice a n c,.int .u64 b,.int .u64 d,.int .u64 t] 145 (0,0)) rfl;have HP:=za hp0;have HKi:=za (ziq k);have HOf:=za (zkk k key a n c b d t);have HVa:=za (fun W=>zhB key a n c d b W hs hn);have HDu:=za (zfP d t);clear hp0;unfold evB;obtain⟨kb,hkb⟩:=zc (YW k);obtain⟨vb,hvb⟩:=zc (Y8 key.size n b);obtain⟨db,hdb⟩:=zc (jz d t);rw[hkb]at HKi ⊢;rw[hvb]at HVa ⊢;rw[hdb]at HDu ⊢;clear hkb hvb hdb
 cases kb
 ·go_enter func134,ntmps134;go_upto_region 1 with fail
  generalize w.alloc (.cells #[.int .i64 k,.string key,.slice a n c,.int .u64 b,.int .u64 d,.int .u64 t] 145)=W1 at *;generalize w.heap.size=b1 at *;have HS:=za (fun(X:World) (hX:zb W1 X)=>(⟨hX.cell (fun h=>h) (zj W1 b1 0 _ _ (0,0) z),hX.cell (fun h=>h) (zj W1 b1 1 _ _ (0,0) z),hX.cell (fun h=>h) (zj W1 b1 2 _ _ (0,0) z),hX.cell (fun h=>h) (zj W1 b1 3 _ _ (0,0) z),hX.cell (fun h=>h) (zj W1 b1 4 _ _ (0,0) z),hX.cell (fun h=>h) (zj W1 b1 5 _ _ (0,0) z)⟩:EvS b1 k key (.slice a n c) b d t X));refine jM (S:=EvS b1 k key (.slice a n c) b d t) (by kernel_rfl) (HS.out _ ((Mod.refl _ _).drew)) (fun h_ => ?_);refine hTk 0 ?_;refine hLd 1 ?_
  (refine hSt 2 (fun K hK => ?_);go_simp;refine(HKi.out _).mono ?_;rintro e u1 ⟨rfl,rfl⟩;refine hK.out _ _ ?_ (fun h_ => ?_);(· exact HS.out _ ((Mod.refl _ _).drew));clear hK K;refine clA ?_)
  refine hTk 3 ?_;refine hSk 4 ?_;refine hSk 5 ?_;refine hSk 6 ?_;refine hTk 7 ?_;refine hTk 8 ?_;refine hSk 9 ?_;refine hSk 10 ?_;refine hSk 11 ?_;refine hSk 12 ?_;refine hSk 13 ?_;refine hSk 14 ?_;refine hSk 15 ?_;refine hSk 16 ?_;refine hSk 17 ?_;refine hTk 18 ?_;refine hTk 19 ?_;refine hDn ?_;clear h_;go_wp2;go_ret;exact⟨rfl,HP.out.drew⟩
 ·cases vb
  ·go_enter func134,ntmps134;go_upto_region 1 with fail
   generalize w.alloc (.cells #[.int .i64 k,.string key,.slice a n c,.int .u64 b,.int .u64 d,.int .u64 t] 145)=W1 at *;generalize w.heap.size=b1 at *;have HS:=za (fun(X:World) (hX:zb W1 X)=>(⟨hX.cell (fun h=>h) (zj W1 b1 0 _ _ (0,0) z),hX.cell (fun h=>h) (zj W1 b1 1 _ _ (0,0) z),hX.cell (fun h=>h) (zj W1 b1 2 _ _ (0,0) z),hX.cell (fun h=>h) (zj W1 b1 3 _ _ (0,0) z),hX.cell (fun h=>h) (zj W1 b1 4 _ _ (0,0) z),hX.cell (fun h=>h) (zj W1 b1 5 _ _ (0,0) z)⟩:EvS b1 k key (.slice a n c) b d t X));refine jM (S:=EvS b1 k key (.slice a n c) b d t) (by kernel_rfl) (HS.out _ ((Mod.refl _ _).drew)) (fun h_ => ?_);refine hTk 0 ?_;refine hLd 1 ?_
   (refine hSt 2 (fun K hK => ?_);go_simp;refine(HKi.out _).mono ?_;rintro e u1 ⟨rfl,rfl⟩;refine hK.out _ _ ?_ (fun h_ => ?_);(· exact HS.out _ ((Mod.refl _ _).drew));clear hK K;refine clA ?_)
   refine hTk 3 ?_;refine hLd 4 ?_
   (refine hSt 5 (fun K hK => ?_);go_simp;refine(HOf.out _).mono ?_;rintro e u2 ⟨rfl,hp2⟩;refine hK.out _ _ ?_ (fun h_ => ?_);(· exact HS.out _ (Mod.of_drew hp2));clear hK K;refine clA ?_)
   (refine hSt 6 (fun K hK => ?_);go_simp;refine(HVa.out _).mono ?_;rintro e u3 ⟨rfl,hp3⟩;refine hK.out _ _ ?_ (fun h_ => ?_);(· exact HS.out _ ((Mod.of_drew hp2).trans hp3));clear hK K;refine clA ?_)
   refine hTk 7 ?_;refine hTk 8 ?_;refine hSk 9 ?_;refine hSk 10 ?_;refine hSk 11 ?_;refine hSk 12 ?_;refine hSk 13 ?_;refine hSk 14 ?_;refine hSk 15 ?_;refine hSk 16 ?_;refine hSk 17 ?_;refine hTk 18 ?_;refine hTk 19 ?_;refine hDn ?_;clear h_;go_wp2;go_ret;exact⟨rfl,HP.out.trans ((Mod.of_drew hp2).trans hp3)⟩
  ·go_enter func134,ntmps134;go_upto_region 1 with fail
   generalize w.alloc (.cells #[.int .i64 k,.string key,.slice a n c,.int .u64 b,.int .u64 d,.int .u64 t] 145)=W1 at *;generalize w.heap.size=b1 at *;have HS:=za (fun(X:World) (hX:zb W1 X)=>(⟨hX.cell (fun h=>h) (zj W1 b1 0 _ _ (0,0) z),hX.cell (fun h=>h) (zj W1 b1 1 _ _ (0,0) z),hX.cell (fun h=>h) (zj W1 b1 2 _ _ (0,0) z),hX.cell (fun h=>h) (zj W1 b1 3 _ _ (0,0) z),hX.cell (fun h=>h) (zj W1 b1 4 _ _ (0,0) z),hX.cell (fun h=>h) (zj W1 b1 5 _ _ (0,0) z)⟩:EvS b1 k key (.slice a n c) b d t X));refine jM (S:=EvS b1 k key (.slice a n c) b d t) (by kernel_rfl) (HS.out _ ((Mod.refl _ _).drew)) (fun h_ => ?_);refine hTk 0 ?_;refine hLd 1 ?_
   (refine hSt 2 (fun K hK => ?_);go_simp;refine(HKi.out _).mono ?_;rintro e u1 ⟨rfl,rfl⟩;refine hK.out _ _ ?_ (fun h_ => ?_);(· exact HS.out _ ((Mod.refl _ _).drew));clear hK K;refine clA ?_)
   refine hTk 3 ?_;refine hLd 4 ?_
   (refine hSt 5 (fun K hK => ?_);go_simp;refine(HOf.out _).mono ?_;rintro e u2 ⟨rfl,hp2⟩;refine hK.out _ _ ?_ (fun h_ => ?_);(· exact HS.out _ (Mod.of_drew hp2));clear hK K;refine clA ?_)
   (refine hSt 6 (fun K hK => ?_);go_simp;refine(HVa.out _).mono ?_;rintro e u3 ⟨rfl,hp3⟩;refine hK.out _ _ ?_ (fun h_ => ?_);(· exact HS.out _ ((Mod.of_drew hp2).trans hp3));clear hK K;refine clA ?_)
   refine hTk 7 ?_;refine hTk 8 ?_;refine hTk 9 ?_;refine hLd 10 ?_;refine hTk 11 ?_;refine hLd 12 ?_;refine hTk 14 ?_;refine hLd 15 ?_;refine hTk 16 ?_
   (refine hSt 13 (fun K hK => ?_);go_simp;refine(HDu.out _).mono ?_;rintro e u4 ⟨rfl,rfl⟩;refine hK.out _ _ ?_ (fun h_ => ?_);(· exact HS.out _ ((Mod.of_drew hp2).trans hp3));clear hK K;refine clA ?_)
   refine hTk 17 ?_;refine hTk 18 ?_;refine hTk 19 ?_;refine hDn ?_;clear h_;go_wp2;go_ret;exact⟨by simp,HP.out.trans ((Mod.of_drew hp2).trans hp3)⟩
structure Bu where
 c0:Nat
 s0:Nat
 c1:Nat
 s1:Nat
def Bu.cells(mc mb:Nat)(U:Bu):Array Value:=#[.int .i64 mc,.int .i64 mb,.int .i64 U.c0,.int .i64 U.s0,.int .i64 U.c1,.int .i64 U.s1]
structure yO(w:World)(u mc mb:Nat)(U:Bu):Prop where
 box:w.heap[u]? = some (.cells #[.int .i64 mc,.int .i64 mb,.int .i64 U.c0,.int .i64 U.s0,.int .i64 U.c1,.int .i64 U.s1] 204 (0,0))
 c:1≤mc∧mc≤1048576
 b:1≤mb∧mb≤1099511627776
 u0:U.c0≤2097152∧U.s0≤2305843009213693952
 u1:U.c1≤2097152∧U.s1≤2305843009213693952
abbrev buP(u:Nat):Value := .pointer (some ⟨u,0,none⟩)
abbrev prV(a b:Int):Value := .agg #[.int .i64 a,.int .i64 b]
section
variable{w w':World}{u mc mb:Nat}{U:Bu}
theorem yO.frame{S:Nat→Prop}(h:yO w u mc mb U)(hm:Mod S w w')(hn : ¬ S u):yO w' u mc mb U:=⟨hm.heap hn h.box,h.c,h.b,h.u0,h.u1⟩
theorem yO.pure(h:yO w u mc mb U)(hm:zb w w'):yO w' u mc mb U:=h.frame hm (fun h=>h)
theorem Zg(a b c d:Int)(h1:IntKind.i64.wrap (a+c)=a+c)(h2:IntKind.i64.wrap (b+d)=b+d)(w:World):Calls prog 120 #[prV a b,prV c d] w fun e w'=>e=.returned (prV (a+c) (b+d))∧zb w w':=by
 have hp0:zb w (((w.alloc (.cells #[.int .i64 a,.int .i64 b] 201)).alloc (.cells #[.int .i64 c,.int .i64 d] 201)).alloc (.cells #[.int .i64 0,.int .i64 0] 201)):=(((Mod.refl _ w).alloc _).alloc _).alloc _;have z2:=zL (o := .cells #[.int .i64 0,.int .i64 0] 201) (zL (o := .cells #[.int .i64 c,.int .i64 d] 201) (zi (w:=w) (o:=(.cells #[.int .i64 a,.int .i64 b] 201 (0,0))) rfl));have z3:=zL (o := .cells #[.int .i64 0,.int .i64 0] 201) (zi (w:=w.alloc (.cells #[.int .i64 a,.int .i64 b] 201)) (o:=(.cells #[.int .i64 c,.int .i64 d] 201 (0,0))) (n:=w.heap.size+1) (by simp));have z4:=zi (w:=(w.alloc (.cells #[.int .i64 a,.int .i64 b] 201)).alloc (.cells #[.int .i64 c,.int .i64 d] 201)) (o:=(.cells #[.int .i64 0,.int .i64 0] 201 (0,0))) (n:=w.heap.size+1+1) (by simp);have HP:=za hp0;clear hp0;go_enter func120,ntmps120;go_upto_region 1 with fail
 generalize(((w.alloc (.cells #[.int .i64 a,.int .i64 b] 201)).alloc (.cells #[.int .i64 c,.int .i64 d] 201)).alloc (.cells #[.int .i64 0,.int .i64 0] 201))=W1 at *;obtain⟨b2,hb2⟩:=zc w.heap.size;rw[hb2]at z2 z3 z4 ⊢;have HB:=za hb2;clear hb2;obtain⟨z2_0,z2_1,z2_f,z2_l,H_z2⟩:=cr2 z2;clear z2;obtain⟨z3_0,z3_1,z3_f,z3_l,H_z3⟩:=cr2 z3;clear z3;obtain⟨z4_0,z4_1,z4_f,z4_l,H_z4⟩:=cr2 z4;clear z4;go_wp2;obtain⟨f1,x0,x1⟩:=jA (v0 := .int .i64 (a+c)) (v1 := .int .i64 (b+d)) H_z4.out HP.out (by have:=HB.out;omega) rfl;obtain⟨Y,hY⟩:=zc ((W1.setCell ⟨b2+1+1,0,none⟩ (.int .i64 (a+c))).setCell ⟨b2+1+1,1,none⟩ (.int .i64 (b+d)));rw[hY]at f1 x0 x1 ⊢;exact zM (v:=prV (a+c) (b+d)) (by simp[results,results120,go_sem,x0,x1]) rfl ⟨rfl,f1⟩
theorem KR(a b:Int)(w:World):Calls prog 121 #[prV a b] w fun e w'=>e=.returned (.bool (decide (a≤2097152)&&decide (b≤2305843009213693952)))∧zb w w':=by
 have hp0:zb w (w.alloc (.cells #[.int .i64 a,.int .i64 b] 201)):=(Mod.refl _ w).alloc _;have z:=zi (w:=w) (o:=(.cells #[.int .i64 a,.int .i64 b] 201 (0,0))) rfl;have HP:=za hp0;clear hp0;go_enter func121,ntmps121;go_upto_region 1 with fail
 generalize w.alloc (.cells #[.int .i64 a,.int .i64 b] 201)=W1 at *;generalize w.heap.size=b1 at *;obtain⟨z_0,z_1,z_f,z_l,H_z⟩:=cr2 z;clear z;by_cases h1:a≤2097152
 ·go_wp2;go_ret;exact⟨by simp[h1],HP.out⟩
 ·go_wp2;go_ret;exact⟨by simp;omega,HP.out⟩
theorem zeD(c b:Int)(w:World):Calls prog 124 #[.int .i64 c,.int .i64 b] w fun e w'=>e=.returned (.bool (uv c 1 1048576&&uv b 1 1099511627776))∧w=w':=by
 unfold uv;by_cases h1:1≤c<;>by_cases h2:c≤1048576<;>by_cases h3:1≤b<;>by_cases h4:b≤1099511627776
 all_goals
  go_enter func124,ntmps124;go_wp2;go_ret;exact⟨by simp[h1,h2,h3,h4],rfl⟩
theorem zbR(h:yO w u mc mb U):Calls prog 153 #[buP u] w fun e w'=>e=.returned (.bool false)∧w=w':=by
 have hb:=h.box;have hc:=h.c;have hne:((mc:Int)==0)=false:=by simp;omega
 clear h;obtain⟨hb_0,hb_1,hb_2,hb_3,hb_4,hb_5,hb_f,hb_l,H_hb⟩:=cr6 hb;clear hb;go_enter func153,ntmps153;go_wp2;go_ret;exact⟨rfl,rfl⟩
theorem YJ(h:yO w u mc mb U){g:Nat}(hg:g≤1){c:Nat}(hc:c≤1099511627776):Calls prog 119 #[buP u,.int .i64 g,.int .i64 c] w fun e w'=>e=.returned (.int .i64 0)∧w=w':=by
 have HN:=za (zbR h);have h1 : ¬ ((c:Int)<0):=by omega
 have h2 : ¬ (1099511627776:Int)<(c:Int):=by omega
 clear h;obtain rfl | rfl:g=0∨g=1:=by omega
 all_goals
  go_enter func119,ntmps119
  go_wp2_with (go_at_call 153;refine HN.out.mono ?_;rintro e w' ⟨rfl,rfl⟩)
  go_ret;exact⟨rfl,rfl⟩
def Bu.cnt(U:Bu)(g:Nat):Nat:=if g=0 then U.c0 else U.c1
def Bu.sum(U:Bu)(g:Nat):Nat:=if g=0 then U.s0 else U.s1
def Bu.holds(U:Bu)(g c:Nat):Prop:=(1<U.cnt g∧c≤U.sum g)∨(U.cnt g=1∧U.sum g=c)
theorem Jh(h:yO w u mc mb U){g:Nat}(hg:g≤1){c:Nat}(hc:c≤1099511627776)(hh:U.holds g c):Calls prog 171 #[buP u,.int .i64 g,.int .i64 c] w fun e w'=>e=.returned (.bool true)∧zb w w':=by
 have hb:=h.box;clear h;obtain⟨c0,s0,c1,s1⟩:=U;unfold Bu.holds Bu.cnt Bu.sum at hh;obtain⟨hb_0,hb_1,hb_2,hb_3,hb_4,hb_5,hb_f,hb_l,H_hb⟩:=cr6 hb;clear hb;obtain rfl | rfl:g=0∨g=1:=by omega
 ·simp only[if_true]at hh;have z:=zi (w:=w) (o:=(.cells #[.int .i64 c0,.int .i64 s0] 201 (0,0))) rfl;have hp:zb w (w.alloc (.cells #[.int .i64 c0,.int .i64 s0] 201)):=(Mod.refl _ w).alloc _;have HP:=za hp;clear hp;go_enter func171,ntmps171;go_upto_region 2 with fail
  generalize w.alloc (.cells #[.int .i64 c0,.int .i64 s0] 201)=W1 at *;generalize w.heap.size=b1 at *;obtain⟨z_0,z_1,z_f,z_l,H_z⟩:=cr2 z;clear z;rcases hh with⟨h1,h2⟩ | ⟨h1,h2⟩
  ·have h1':(1:Int)<(c0:Int):=by omega
   have h2':(c:Int)≤(s0:Int):=by omega
   go_wp2;go_ret;exact⟨rfl,HP.out⟩
  ·subst h1 h2;go_wp2;go_ret;exact⟨by simp,HP.out⟩
 ·simp only[Nat.one_ne_zero,if_false]at hh;have z:=zi (w:=w) (o:=(.cells #[.int .i64 c1,.int .i64 s1] 201 (0,0))) rfl;have hp:zb w (w.alloc (.cells #[.int .i64 c1,.int .i64 s1] 201)):=(Mod.refl _ w).alloc _;have HP:=za hp;clear hp;go_enter func171,ntmps171;go_upto_region 2 with fail
  generalize w.alloc (.cells #[.int .i64 c1,.int .i64 s1] 201)=W1 at *;generalize w.heap.size=b1 at *;obtain⟨z_0,z_1,z_f,z_l,H_z⟩:=cr2 z;clear z;rcases hh with⟨h1,h2⟩ | ⟨h1,h2⟩
  ·have h1':(1:Int)<(c1:Int):=by omega
   have h2':(c:Int)≤(s1:Int):=by omega
   go_wp2;go_ret;exact⟨rfl,HP.out⟩
  ·subst h1 h2;go_wp2;go_ret;exact⟨by simp,HP.out⟩
end
end
end Go.Proofs.YtpadepliilhmhaaGreatDoor
