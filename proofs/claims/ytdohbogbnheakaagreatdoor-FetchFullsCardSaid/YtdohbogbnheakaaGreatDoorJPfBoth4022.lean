/- Lemmas and contracts of functions. No condition. -/
import Derived.Test.YtdohbogbnheakaaGreatDoorJPfBoth4021
namespace Go.Proofs.YtdohbogbnheakaaGreatDoor
open _root_.Go.Proofs.Tryz
set_option maxRecDepth 100000
set_option maxHeartbeats 20000000
set_option linter.all false
section
open Go.RowKit
def xU(w:World)(k:Nat):Prop := ∀ cs fz,w.heap[k]? ≠ some (.cells cs 5 fz)
section
variable{w w':World}{D:Nat→Prop}{k p:Nat}
theorem vd{cs:Array Value}{T:TypeId}{fz:Nat × Nat}(h:w.heap[k]? = some (.cells cs T fz))(hT:T≠5):xU w k:=fun cs fz e=>by
 rw[h]at e;injection e with e
 injection e with _ e
 exact hT e
theorem Zl{P:Program}{kt:TypeId}{R:Value→Option (DataW Unit × List MemPlace)}{n:Nat}{Dm:DataW Unit}(h:w.ownsMap P kt R k n Dm):xU w k:=fun cs fz e=>by
 obtain⟨es,clock,h1,_⟩:=h;rw[h1]at e
 cases e
theorem ym.nob{N:Nat}{Ls:List (List Nat)}(h:ym w D p N Ls)(hk:D k):xU w k:=fun cs fz e=>by
 rcases h.types hk e with e | e | e<;>exact absurd e (by decide)
theorem xe.nob{xs:List Nat}(h:xe w D p xs)(hk:D k):xU w k:=by
 obtain⟨q,N,Dl,h1,h2,h3⟩:=h;rcases(h3 k).1 hk with rfl | e
 ·exact vd h1 (by decide)
 ·exact h2.nob e
theorem yY.nob{lim:Int}{A B:List Wt}(h:yY w D p lim A B)(hk:D k):xU w k:=by
 obtain⟨l0,l1,bm,D0,D1,Dm,h⟩:=h;rcases(h.dd k).1 hk with rfl | rfl | e | e
 ·exact vd h.box (by decide)
 ·exact Zl h.costs.own
 ·exact h.q0.nob e
 ·exact h.q1.nob e
theorem yK.nob{Ls:List (List Nat)}(h:yK w D p Ls)(hk:D k):xU w k:=by
 obtain⟨q,many,N,Dl,h1,h2,h3,h4⟩:=h;rcases(h4 k).1 hk with rfl | e
 ·exact vd h1 (by decide)
 ·exact h2.nob e
theorem yt.nob{now:Nat}{L:List Td}(h:yt w D p now L)(hk:D k):xU w k:=by
 obtain⟨ws,bm,bb,Ds,Dm,Db,Lss,h,h2⟩:=h;rcases(h.dd k).1 hk with rfl | rfl | rfl | ⟨l,hl,hk⟩
 ·exact vd h.box.box (by decide)
 ·exact Zl h.what.own
 ·exact Zl h.births.own
 ·obtain⟨q,hq⟩ : ∃ q,ws[l]? = some q:=⟨_,zL (by rw[h.box.len];exact hl)⟩;obtain⟨Ls,hL⟩ : ∃ Ls,Lss[l]? = some Ls:=⟨_,zL (by rw[h.len];exact hl)⟩;exact(h.lev l q Ls hq hL).nob hk
theorem yh.nob{now:Nat}{M:List Td}(h:yh w D p now M)(hk:D k):xU w k:=by
 obtain⟨q,bb,bs,Dc,Db,Ds,h,h2⟩:=h;rcases(h.dd k).1 hk with rfl | rfl | rfl | e
 ·exact vd h.box (by decide)
 ·exact Zl h.births.own
 ·exact Zl h.slots.own
 ·exact h.cas.nob e
end
section
variable{Fo S:Nat→Prop}{w w':World}{b:CaB}{s:CaS}{D:Nat→Prop}{p:Nat}{t t':Bst}
theorem zr.nob(h:zr Fo w b s){k:Nat}(hk:b.D k):xU w k:=by
 rcases hk with rfl | e | rfl | e | rfl | e | e
 ·exact vd h.box (by decide)
 ·obtain⟨ob,h1,h2⟩:=h.dict.holds e;exact fun cs fz e2=>by rw[h1]at e2;exact h2 cs fz (kL e2)
 ·exact vd h.ctr (by decide)
 ·exact h.order.nob e
 ·exact vd h.used.box (by decide)
 ·exact h.due.nob e
 ·obtain⟨ob,h1,h2⟩:=h.ev.holds e;exact fun cs fz e2=>by rw[h1]at e2;exact h2 cs fz (kL e2)
theorem zM.nob(h:zM Fo w D p t){k:Nat}(hk:D k):xU w k:=by
 obtain⟨b,s,h1,h2,_,e,_⟩:=h;subst e;exact h1.nob hk
theorem zM.not0(h:zM Fo w D p t) : ¬ D 0:=by
 obtain⟨b,s,h1,h2,_,e,_⟩:=h;subst e;intro e;have hz:=h1.sep.z;rcases e with e | e | e | e | e | e | e
 ·have:=h1.sep.p;rw[← e,hz]at this;cases this
 ·have:=h1.sep.d 0 e;rw[hz]at this;cases this
 ·have:=h1.sep.c;rw[← e,hz]at this;cases this
 ·have:=h1.sep.o 0 e;rw[hz]at this;cases this
 ·have:=h1.sep.u;rw[← e,hz]at this;cases this
 ·have:=h1.sep.t 0 e;rw[hz]at this;cases this
 ·have:=h1.sep.v 0 e;rw[hz]at this;cases this
theorem zM.other{D':Nat→Prop}{p':Nat}{t1:Bst}(h:zM Fo w D p t)(h':zM Fo w D' p' t1)(hm:Mod D' w w')(hd : ∀ k,D k → ¬ D' k):zM Fo w' D p t :=
 h.beside hm hd (fun k _ hk => .inr (h'.nob hk)) h'.not0
end
end
section
open Go.RowKit Go.Shelf
def NoF:Nat→Prop:=fun _=>False
def vV(Q:Exit→Act→World→Prop):Exit→Act→World→Prop
 | .panic _,_,_=>False
 | e,a,w=>Q e a w
theorem vV.le{Q:Exit→Act→World→Prop}{e:Exit}{a:Act}{w:World}(h:vV Q e a w):Q e a w:=by
 cases e<;>first | exact h | exact h.elim
theorem vV.normal{Q:Exit→Act→World→Prop}{a:Act}{w:World}(h:Q .normal a w):vV Q .normal a w:=h
section
variable{w w':World}{p:Nat}{D:Nat→Prop}{t:Bst}
def kx(w:World)(v:Value):Prop := ∀ g,vE v=some g → ∃ cs fz,w.heap[g]? = some (.cells cs 5 fz)
theorem kx.mod{v:Value}{S:Nat→Prop}(h:kx w v)(hm:Mod S w w')(hS : ∀ k,S k→xU w k):kx w' v:=fun g hg=>by
 obtain⟨cs,fz,e⟩:=h g hg;exact⟨cs,fz,hm.heap (fun hs=>hS g hs cs fz e) e⟩
theorem kx.off{v:Value}{S:Nat→Prop}(h:kx w v)(hS : ∀ k,S k→xU w k) : ∀ g,vE v=some g → ¬ S g:=fun g hg hs=>by
 obtain⟨cs,fz,e⟩:=h g hg;exact hS g hs cs fz e
theorem zit{key:ByteArray}{n ttl:Nat}(h:U8 t key n ttl=true):t.births<16∧uT key t=0∧(ttl=0∨ji t key.size n=0)∧key.size≤1000∧n≤100000∧ttl≤18446744073709551615∧t.now≤18446744073709551615:=by
 unfold U8 Vc at h;simpa[and_assoc]using h
theorem vD.of_pure{Fo:Nat→Prop}(h:zM Fo w D p t)(hp:zc w w'):vD Fo w D p t w':=⟨D,h.pure hp,hp.mono (fun _ _ e=>e.elim),fun _ e => .inl e⟩
theorem zfM:dlT 0=fun _=>18446744073709551615:=rfl
theorem zhU{ttl:Nat}(h:0<ttl):dlT ttl=fun q=>kC q ttl:=by
 funext q
 unfold dlT;rw[zh (by omega)]
theorem YH{v:Value}{xs:List Value}{S:Nat→Prop}(h:yq w v xs)(hm:Mod S w w')(hS : ∀ k,S k→xU w k):yq w' v xs:=zy h hm (fun g hg hs=>by obtain⟨cur,e⟩:=yc h hg;exact hS g hs cur _ e)
def kO(w w':World):Prop := ∀(g:Nat) (cs:Array Value) (fz:Nat × Nat),w.heap[g]? = some (.cells cs 5 fz)→w'.heap[g]? = some (.cells cs 5 fz)
theorem kO.refl(w:World):kO w w:=fun _ _ _ h=>h
theorem kO.trans{w1:World}(h:kO w w1)(k:kO w1 w'):kO w w':=fun g cs fz e=>k g cs fz (h g cs fz e)
theorem kO.of_mod{S:Nat→Prop}(hm:Mod S w w')(hS : ∀ k,k<w.heap.size→S k→xU w k):kO w w':=fun g cs fz e=>hm.heap (fun hs=>hS g (zm e) hs cs fz e) e
theorem kO.pure(hp:zc w w'):kO w w':=kO.of_mod hp (fun _ _ e=>e.elim)
theorem kO.read(h:kO w w'){v:Value}{xs:List Value}(hb:kx w v)(hr:zo w v 1 xs):zo w' v 1 xs:=by
 obtain⟨a,n,c,rfl,hl,h1,h0,hc⟩:=hr;refine⟨a,n,c,rfl,hl,h1,h0,fun ad ha j u hu => ?_⟩;have hn:n≠0:=fun e=>by
  subst e;have:xs=[]:=jU (by omega);rw[this]at hu
  cases hu
 have hg:vE (.slice a n c)=some ad.block:=by rw[ha];unfold vE;simp[hn]
 obtain⟨cs,fz,e⟩:=hb _ hg;have e2:=h _ _ _ e;have h9:=hc ad ha j u hu;have hab:=JX ad j;unfold World.cell? at h9 ⊢;rw[hab]at h9 ⊢;rw[e]at h9;rw[e2];exact h9
end
end
section
open Go.RowKit Go.Shelf Go.Maps
structure Ld where
 num:Nat
 key:ByteArray
 who:Nat
 wv:Value
 ws:List Nat
 off:Bool
 blk:Nat
def ldC(x:Ld):Array Value:=#[.int .i64 x.num,.string x.key,.int .i64 x.who,x.wv,.bool x.off]
def vm(l:List Nat):List Value:=l.map fun n:Nat => .int .i64 (n:Int)
abbrev feC(p m1 last:Nat):Array Value:=#[lkP p,.map (some m1),.int .i64 last]
def jr(X:List Ld):List (Lit × Option Nat):=X.map fun x=>(xc x.key,some x.blk)
def FeD(q m1:Nat)(X:List Ld)(k:Nat):Prop:=k=q∨k=m1∨(∃ x∈X,x.blk=k) ∨ ∃ x∈X,x.wv.ownBlock=some k
def Yd(w:World)(x:Ld):Prop:=w.ownsRow 0 3 1 x.wv x.ws.length (vm x.ws)
structure FeM(w:World)(q p m1 last:Nat)(X:List Ld)(D1:DataW Unit):Prop where
 box:w.heap[q]? = some (.cells (feC p m1 last) 49 (0,0))
 loads:yX xB 9 w m1 (jr X) D1
 each : ∀ x∈X,w.heap[x.blk]? = some (.cells (ldC x) 94 (0,0))
 wait : ∀ x∈X,Yd w x
 wsep : ∀ x∈X,∀ y∈X,∀ b,x.wv.ownBlock=some b→y.wv.ownBlock=some b→x=y
 k1 : ∀ x∈X,∀ y∈X,x.key=y.key→x=y
 k2 : ∀ x∈X,∀ y∈X,x.num=y.num→x=y
 nd:X.Nodup
 rng : ∀ x∈X,0<x.num∧x.num≤last∧x.key.size≤1000∧x.who≤1000∧x.ws.length≤1000 ∧ ∀ n∈x.ws,n≤1000
 len:X.length≤1000
 last:last≤100000
section
variable{w w' w0:World}{q p m1 last:Nat}{X X':List Ld}{D1 D1':DataW Unit}{S D0:Nat→Prop}{t t':Bst}
theorem FeM.nq1(h:FeM w q p m1 last X D1):q≠m1:=fun e=>by
 obtain⟨es,c,h1,_⟩:=h.loads.own;rw[← e,h.box]at h1
 cases h1
theorem FeM.nb1(h:FeM w q p m1 last X D1){x:Ld}(hx:x∈X):x.blk≠m1:=fun e=>by
 obtain⟨es,c,h1,_⟩:=h.loads.own;rw[← e,h.each x hx]at h1
 cases h1
theorem Azng2 {P:Prop}(h:P:=by
 have h1:=h.each x hx;rw[e,h.box]at h1;injection h1 with h1
 injection h1 with _ h1 _
 exact absurd h1 (by decide)):P:=h
theorem FeM.nbq(h:FeM w q p m1 last X D1){x:Ld}(hx:x∈X):x.blk≠q:=fun e=>by
 exact Azng2
theorem FeM.nwq(h:FeM w q p m1 last X D1){x:Ld}(hx:x∈X){b:Nat}(hb:x.wv.ownBlock=some b):b≠q∧b≠m1 ∧ ∀ y∈X,y.blk≠b:=by
 obtain⟨cur,h1⟩:=yc (h.wait x hx) hb;refine⟨fun e => ?_,fun e => ?_,fun y hy e => ?_⟩
 ·rw[e,h.box]at h1;injection h1 with h1
  injection h1 with _ h1 _
  exact absurd h1 (by decide)
 ·obtain⟨es,c,h2,_⟩:=h.loads.own;rw[e,h2]at h1
  cases h1
 ·rw[← e,h.each y hy]at h1;injection h1 with h1
  injection h1 with _ h1 _
  exact absurd h1 (by decide)
theorem Azfl0 {P:Prop}(h:P:=by
 injection h1 with h1
 injection h1 with h1 _
 injection h1 with _ h1
 exact h.k2 x hx y hy (kH.1 h1).symm):P:=h
theorem FeM.blk(h:FeM w q p m1 last X D1){x y:Ld}(hx:x∈X)(hy:y∈X)(e:x.blk=y.blk):x=y:=by
 have h1:=h.each x hx;rw[e,h.each y hy]at h1;injection h1 with h1
 injection h1 with h1 _ _
 unfold ldC at h1;exact Azfl0
theorem FeM.lt(h:FeM w q p m1 last X D1){k:Nat}(hk:FeD q m1 X k):k<w.heap.size:=by
 rcases hk with rfl | rfl | ⟨x,hx,rfl⟩ | ⟨x,hx,e⟩
 ·exact zm h.box
 ·obtain⟨es,c,h1,_⟩:=h.loads.own;exact zm h1
 ·exact zm (h.each x hx)
 ·exact vY (h.wait x hx) e
theorem FeM.nob(h:FeM w q p m1 last X D1){k:Nat}(hk:FeD q m1 X k):xU w k:=by
 rcases hk with rfl | rfl | ⟨x,hx,rfl⟩ | ⟨x,hx,e⟩
 ·exact vd h.box (by decide)
 ·exact Zl h.loads.own
 ·exact vd (h.each x hx) (by decide)
 ·obtain⟨cur,h1⟩:=yc (h.wait x hx) e;exact vd h1 (by decide)
theorem FeM.mod(h:FeM w q p m1 last X D1)(hm:Mod S w w')(hS : ∀ k,FeD q m1 X k → ¬ S k):FeM w' q p m1 last X D1 :=
 ⟨hm.heap (hS _ (.inl rfl)) h.box,h.loads.mod hm (hS _ (.inr (.inl rfl))),fun x hx=>hm.heap (hS _ (.inr (.inr (.inl ⟨x,hx,rfl⟩)))) (h.each x hx),fun x hx=>zy (h.wait x hx) hm (fun g hg=>hS _ (.inr (.inr (.inr ⟨x,hx,hg⟩)))),h.wsep,h.k1,h.k2,h.nd,h.rng,h.len,h.last⟩
structure FeR(w0:World)(D0:Nat→Prop)(q p m1 last:Nat)(X:List Ld)(D1:DataW Unit)(t:Bst)(w:World):Prop where
 ca:zM NoF w D0 p t
 fe:FeM w q p m1 last X D1
 ap : ∀ k,D0 k → ¬ FeD q m1 X k
 gd : ∀ k,D0 k→w0.heap.size≤k
 ge : ∀ k,FeD q m1 X k→w0.heap.size≤k
 pu:zc w0 w
 po:0<w0.heap.size
def FeP(w0:World)(q p m1 last:Nat)(X:List Ld)(t:Bst)(w:World):Prop := ∃ D0 D1,FeR w0 D0 q p m1 last X D1 t w
theorem FeR.pure(h:FeR w0 D0 q p m1 last X D1 t w)(hp:zc w w'):FeR w0 D0 q p m1 last X D1 t w' :=
 ⟨h.ca.pure hp,h.fe.mod hp (fun _ _ e=>e),h.ap,h.gd,h.ge,h.pu.trans hp,h.po⟩
theorem FeP.pure(h:FeP w0 q p m1 last X t w)(hp:zc w w'):FeP w0 q p m1 last X t w':=by
 obtain⟨D0,D1,h⟩:=h;exact⟨D0,D1,h.pure hp⟩
theorem FeR.cago(h:FeR w0 D0 q p m1 last X D1 t w)(hg:vD NoF w D0 p t' w') : ∃ D0',FeR w0 D0' q p m1 last X D1 t' w':=by
 obtain⟨D',hc,hm,hgr⟩:=hg;refine⟨D',hc,h.fe.mod hm (fun k hk e=>h.ap k e hk),fun k hk hl => ?_,fun k hk => ?_,h.ge,h.pu.then hm (fun k hk e=>by have:=h.gd k e;omega),h.po⟩
 ·rcases hgr k hk with e | e
  ·exact h.ap k e hl
  ·have:=h.fe.lt hl;omega
 ·rcases hgr k hk with e | e
  ·exact h.gd k e
  ·exact zH h.pu.size e
theorem Azb1i {P:Prop}(h:P:=by
 refine⟨h.ca.beside hm hS0 (fun k hk e => .inr (hSb k hk e)) (fun e=>by have:=hSw 0 e;have:=h.po;omega),hl,fun k hk e => ?_,h.gd,fun k hk => ?_,h.pu.then hm (fun k hk e=>by have:=hSw k e;omega),h.po⟩
 ·rcases hX k e with e | e
  ·exact h.ap k hk e
  ·have:=h.ca.lt hk;omega
 ·rcases hX k hk with e | e
  ·exact h.ge k e
  ·exact zH h.pu.size e):P:=h
theorem FeR.to{last':Nat}(h:FeR w0 D0 q p m1 last X D1 t w)(hm:Mod S w w')(hl:FeM w' q p m1 last' X' D1')(hS0 : ∀ k,D0 k → ¬ S k)(hSb : ∀ k,k<w.heap.size→S k→xU w k)(hSw : ∀ k,S k→w0.heap.size≤k)(hX : ∀ k,FeD q m1 X' k→FeD q m1 X k∨w.heap.size≤k) :
  FeR w0 D0 q p m1 last' X' D1' t w':=by
 exact Azb1i
end
end
section
open Go.RowKit Go.Shelf
structure Lt where
 tok:Nat
 key:ByteArray
 til:Nat
 blk:Nat
def ltC(x:Lt):Array Value:=#[.int .i64 x.tok,.string x.key,.int .u64 x.til]
abbrev leC(p life m1 m2 last:Nat):Array Value:=#[lkP p,.int .u64 life,.map (some m1),.map (some m2),.int .i64 last]
def Xl(X:List Lt):List (Lit × Option Nat):=X.map fun x=>(xc x.key,some x.blk)
def YY(X:List Lt):List (Lit × ByteArray):=X.map fun x=>(YQ x.tok,x.key)
def LeD(q m1 m2:Nat)(X:List Lt)(k:Nat):Prop:=k=q∨k=m1∨k=m2 ∨ ∃ x∈X,x.blk=k
structure LeM(w:World)(q p m1 m2 life last:Nat)(X:List Lt)(D1:DataW Unit):Prop where
 box:w.heap[q]? = some (.cells (leC p life m1 m2 last) 74 (0,0))
 lent:yX xB 9 w m1 (Xl X) D1
 keys : ∃ D2,yX Vp 3 w m2 (YY X) D2
 each : ∀ x∈X,w.heap[x.blk]? = some (.cells (ltC x) 114 (0,0))
 ne:m1≠m2
 k1 : ∀ x∈X,∀ y∈X,x.key=y.key→x=y
 k2 : ∀ x∈X,∀ y∈X,x.tok=y.tok→x=y
 nd:X.Nodup
 rng : ∀ x∈X,0<x.tok∧x.tok≤last∧x.key.size≤1000∧x.til≤18446744073709551615
 len:X.length≤100000
 last:last≤100000
 life:0<life∧life≤1099511627776
section
variable{w w' w0:World}{q p m1 m2 life last:Nat}{X X':List Lt}{D1 D1':DataW Unit}{S D0:Nat→Prop}{t t':Bst}
theorem YF{P:Program}{kt:TypeId}{R:Value→Option (DataW Unit × List MemPlace)}{n b:Nat}{Dm:DataW Unit}(h:w.ownsMap P kt R b n Dm) : ∃ es c,w.heap[b]? = some (.map es c):=by
 obtain⟨es,c,h1,_⟩:=h;exact⟨es,c,h1⟩
theorem LeM.nq1(h:LeM w q p m1 m2 life last X D1):q≠m1:=fun e=>by
 obtain⟨es,c,h1⟩:=YF h.lent.own;rw[← e,h.box]at h1
 cases h1
theorem LeM.nq2(h:LeM w q p m1 m2 life last X D1):q≠m2:=fun e=>by
 obtain⟨D2,h2⟩:=h.keys;obtain⟨es,c,h1⟩:=YF h2.own;rw[← e,h.box]at h1
 cases h1
theorem LeM.nb1(h:LeM w q p m1 m2 life last X D1){x:Lt}(hx:x∈X):x.blk≠m1:=fun e=>by
 obtain⟨es,c,h1⟩:=YF h.lent.own;rw[← e,h.each x hx]at h1
 cases h1
theorem LeM.nb2(h:LeM w q p m1 m2 life last X D1){x:Lt}(hx:x∈X):x.blk≠m2:=fun e=>by
 obtain⟨D2,h2⟩:=h.keys;obtain⟨es,c,h1⟩:=YF h2.own;rw[← e,h.each x hx]at h1
 cases h1
theorem LeM.nbq(h:LeM w q p m1 m2 life last X D1){x:Lt}(hx:x∈X):x.blk≠q:=fun e=>by
 exact Azng2
theorem LeM.blk(h:LeM w q p m1 m2 life last X D1){x y:Lt}(hx:x∈X)(hy:y∈X)(e:x.blk=y.blk):x=y:=by
 have h1:=h.each x hx;rw[e,h.each y hy]at h1;injection h1 with h1
 injection h1 with h1 _ _
 unfold ltC at h1;exact Azfl0
theorem LeM.lt(h:LeM w q p m1 m2 life last X D1){k:Nat}(hk:LeD q m1 m2 X k):k<w.heap.size:=by
 rcases hk with rfl | rfl | rfl | ⟨x,hx,rfl⟩
 ·exact zm h.box
 ·obtain⟨es,c,h1⟩:=YF h.lent.own;exact zm h1
 ·obtain⟨D2,h2⟩:=h.keys;obtain⟨es,c,h1⟩:=YF h2.own;exact zm h1
 ·exact zm (h.each x hx)
theorem LeM.nob(h:LeM w q p m1 m2 life last X D1){k:Nat}(hk:LeD q m1 m2 X k):xU w k:=by
 rcases hk with rfl | rfl | rfl | ⟨x,hx,rfl⟩
 ·exact vd h.box (by decide)
 ·exact Zl h.lent.own
 ·obtain⟨D2,h2⟩:=h.keys;exact Zl h2.own
 ·exact vd (h.each x hx) (by decide)
theorem LeM.mod(h:LeM w q p m1 m2 life last X D1)(hm:Mod S w w')(hS : ∀ k,LeD q m1 m2 X k → ¬ S k):LeM w' q p m1 m2 life last X D1:=by
 obtain⟨D2,h2⟩:=h.keys;exact⟨hm.heap (hS _ (.inl rfl)) h.box,h.lent.mod hm (hS _ (.inr (.inl rfl))),⟨D2,h2.mod hm (hS _ (.inr (.inr (.inl rfl))))⟩,fun x hx=>hm.heap (hS _ (.inr (.inr (.inr ⟨x,hx,rfl⟩)))) (h.each x hx),h.ne,h.k1,h.k2,h.nd,h.rng,h.len,h.last,h.life⟩
structure LeR(w0:World)(D0:Nat→Prop)(q p m1 m2 life last:Nat)(X:List Lt)(D1:DataW Unit)(t:Bst)(w:World):Prop where
 ca:zM NoF w D0 p t
 le:LeM w q p m1 m2 life last X D1
 ap : ∀ k,D0 k → ¬ LeD q m1 m2 X k
 gd : ∀ k,D0 k→w0.heap.size≤k
 ge : ∀ k,LeD q m1 m2 X k→w0.heap.size≤k
 pu:zc w0 w
 po:0<w0.heap.size
def LeP(w0:World)(q p m1 m2 life last:Nat)(X:List Lt)(t:Bst)(w:World):Prop := ∃ D0 D1,LeR w0 D0 q p m1 m2 life last X D1 t w
theorem LeR.pure(h:LeR w0 D0 q p m1 m2 life last X D1 t w)(hp:zc w w'):LeR w0 D0 q p m1 m2 life last X D1 t w' :=
 ⟨h.ca.pure hp,h.le.mod hp (fun _ _ e=>e),h.ap,h.gd,h.ge,h.pu.trans hp,h.po⟩
theorem LeP.pure(h:LeP w0 q p m1 m2 life last X t w)(hp:zc w w'):LeP w0 q p m1 m2 life last X t w':=by
 obtain⟨D0,D1,h⟩:=h;exact⟨D0,D1,h.pure hp⟩
theorem LeR.cago(h:LeR w0 D0 q p m1 m2 life last X D1 t w)(hg:vD NoF w D0 p t' w') : ∃ D0',LeR w0 D0' q p m1 m2 life last X D1 t' w':=by
 obtain⟨D',hc,hm,hgr⟩:=hg;refine⟨D',hc,h.le.mod hm (fun k hk e=>h.ap k e hk),fun k hk hl => ?_,fun k hk => ?_,h.ge,h.pu.then hm (fun k hk e=>by have:=h.gd k e;omega),h.po⟩
 ·rcases hgr k hk with e | e
  ·exact h.ap k e hl
  ·have:=h.le.lt hl;omega
 ·rcases hgr k hk with e | e
  ·exact h.gd k e
  ·exact zH h.pu.size e
theorem LeR.to{last':Nat}(h:LeR w0 D0 q p m1 m2 life last X D1 t w)(hm:Mod S w w')(hl:LeM w' q p m1 m2 life last' X' D1')(hS0 : ∀ k,D0 k → ¬ S k)(hSb : ∀ k,k<w.heap.size→S k→xU w k)(hSw : ∀ k,S k→w0.heap.size≤k)(hX : ∀ k,LeD q m1 m2 X' k→LeD q m1 m2 X k∨w.heap.size≤k) :
  LeR w0 D0 q p m1 m2 life last' X' D1' t w':=by
 exact Azb1i
end
end
section
open Go.RowKit Go.Shelf Go.Maps
section
variable{w w' w1 w2 w0:World}{q p m1 m2 life last:Nat}{X X':List Lt}{D1 D1' D2:DataW Unit}{S D0:Nat→Prop}{t t':Bst}
theorem LeM.sub(h:LeM w q p m1 m2 life last X D1)(hs:X'.Sublist X):(∀ x∈X',∀ y∈X',x.key=y.key→x=y)∧(∀ x∈X',∀ y∈X',x.tok=y.tok→x=y)∧X'.Nodup∧(∀ x∈X',0<x.tok∧x.tok≤last∧x.key.size≤1000∧x.til≤18446744073709551615)∧X'.length≤100000 :=
 ⟨fun x hx y hy=>h.k1 x (hs.subset hx) y (hs.subset hy),fun x hx y hy=>h.k2 x (hs.subset hx) y (hs.subset hy),h.nd.sublist hs,fun x hx=>h.rng x (hs.subset hx),zH hs.length_le h.len⟩
theorem zdw{x:Lt}(hx:x∈X)(nd:X.Nodup)(nd':X'.Nodup)(hM : ∀ y,y∈X'↔y∈X∧y≠x):X'.length+1=X.length:=by
 have hp:X.Perm (x::X'):=(List.perm_ext_iff_of_nodup nd (yO.2 ⟨fun c=>((hM x).1 c).2 rfl,nd'⟩)).2 (fun y=>by
  rw[zO,hM];constructor
  ·intro hy;by_cases e:y=x
   ·exact .inl e
   ·exact .inr ⟨hy,e⟩
  ·rintro(rfl | ⟨hy,_⟩)
   ·exact hx
   ·exact hy)
 have:=hp.length_eq;rw[kz]at this;exact this.symm
theorem LeM.drop(h:LeM w q p m1 m2 life last X D1){x:Lt}(hx:x∈X)(hM : ∀ y,y∈X'↔y∈X∧y≠x)(hs:X'.Sublist X)(hk:yX Vp 3 w m2 (YY X) D2){n1 n2:Nat}(o1:w1.ownsMap prog 3 Vp.R m2 n1 (D2.del (YQ x.tok)))(hm1:Mod (fun k=>k=m2) w w1)(o2:w2.ownsMap prog 9 xB.R m1 n2 (D1.del (xc x.key)))(hm2:Mod (fun k=>k=m1) w1 w2):LeM w2 q p m1 m2 life last X' (D1.del (xc x.key)):=by
 obtain⟨g1,g2,g3,g4,g5⟩:=h.sub hs;have hl:=zdw hx h.nd g3 hM;have hmm:Mod (fun k=>k=m1∨k=m2) w w2:=(hm1.mono (fun _ _ e => .inr e)).trans (hm2.mono (fun _ _ e => .inl e));have hq : ¬ (q=m1∨q=m2):=fun e=>by rcases e with e | e;exact h.nq1 e;exact h.nq2 e
 refine⟨hmm.heap hq h.box,?_,⟨_,yX.mod (yX.del (M':=YY X') hk zcv (x:=x.key) (zz.2 ⟨x,hx,rfl⟩) (fun y => ?_) (by unfold YY;rw[yn,yn];exact hl) o1) hm2 (fun e=>h.ne e.symm)⟩,fun y hy=>hmm.heap (fun e => ?_) (h.each y (hs.subset hy)),h.ne,g1,g2,g3,g4,g5,h.last,h.life⟩
 ·refine yX.del (M':=Xl X') h.lent kX (x:=some x.blk) (zz.2 ⟨x,hx,rfl⟩) (fun y => ?_) (by unfold Xl;rw[yn,yn];exact hl) o2;unfold Xl;constructor
  ·intro hy;obtain⟨z,hz,rfl⟩:=zz.1 hy;obtain⟨z1,z2⟩:=(hM z).1 hz;exact⟨zz.2 ⟨z,z1,rfl⟩,fun c=>z2 (h.k1 z z1 x hx (Yz c))⟩
  ·rintro⟨hy,hne⟩;obtain⟨z,hz,rfl⟩:=zz.1 hy;exact zz.2 ⟨z,(hM z).2 ⟨hz,fun c=>hne (by rw[c])⟩,rfl⟩
 ·unfold YY;constructor
  ·intro hy;obtain⟨z,hz,rfl⟩:=zz.1 hy;obtain⟨z1,z2⟩:=(hM z).1 hz;exact⟨zz.2 ⟨z,z1,rfl⟩,fun c=>z2 (h.k2 z z1 x hx (zjd c))⟩
  ·rintro⟨hy,hne⟩;obtain⟨z,hz,rfl⟩:=zz.1 hy;exact zz.2 ⟨z,(hM z).2 ⟨hz,fun c=>hne (by rw[c])⟩,rfl⟩
 ·rcases e with e | e
  ·exact h.nb1 (hs.subset hy) e
  ·exact h.nb2 (hs.subset hy) e
theorem LeM.add{last':Nat}(h:LeM w q p m1 m2 life last X D1){x:Lt}(hb:w2.heap[q]? = some (.cells (leC p life m1 m2 last') 74 (0,0)))(hll:last≤last'∧last'≤100000)(hx:w2.heap[x.blk]? = some (.cells (ltC x) 114 (0,0)))(hxr:(∀ y∈X,y.tok≠x.tok)∧0<x.tok∧x.tok≤last'∧x.key.size≤1000∧x.til≤18446744073709551615)(hn : ∀ y∈X,y.key≠x.key)(hle:X.length<100000)
  (h1:yX xB 9 w2 m1 (Xl (x::X)) D1') (h2:yX Vp 3 w2 m2 (YY (x::X)) D2) (hm:Mod S w w2) (hS : ∀ y∈X,¬ S y.blk):LeM w2 q p m1 m2 life last' (x::X) D1':=by
 refine⟨hb,h1,⟨D2,h2⟩,fun y hy => ?_,h.ne,fun y hy z hz e => ?_,fun y hy z hz e => ?_,yO.2 ⟨fun c=>hn x c rfl,h.nd⟩,fun y hy => ?_,by rw[kz];omega,hll.2,h.life⟩
 ·rcases zO.1 hy with rfl | hy
  ·exact hx
  ·exact hm.heap (hS y hy) (h.each y hy)
 ·rcases zO.1 hy with rfl | hy'
  ·rcases zO.1 hz with rfl | hz'
   ·rfl
   ·exact absurd e.symm (hn z hz')
  ·rcases zO.1 hz with rfl | hz'
   ·exact absurd e (hn y hy')
   ·exact h.k1 y hy' z hz' e
 ·rcases zO.1 hy with rfl | hy'
  ·rcases zO.1 hz with rfl | hz'
   ·rfl
   ·exact absurd e.symm (hxr.1 z hz')
  ·rcases zO.1 hz with rfl | hz'
   ·exact absurd e (hxr.1 y hy')
   ·exact h.k2 y hy' z hz' e
 ·rcases zO.1 hy with rfl | hy'
  ·exact hxr.2
  ·obtain⟨a,b,c⟩:=h.rng y hy';exact⟨a,by omega,c⟩
end
@[go_sem] theorem zlV (w : World) (r : Option Nat) : (binOp .eql 71 (.map r) (.map none)).run prog w=.ok (.bool r.isNone) w := run_eql_map_nil w _ _ _ r underlying71
theorem zh4(u:World):(zeroValue 116).run prog u=.ok (xB.V none) u:=by kernel_rfl
section
variable{P:Program}(w:World){ops:Array Oper}{rest:List Oper}{o:Oper}{a:Act}{Q:Exit→Act→World→Prop}
theorem JI(hg:o.guard=none)(m x:Operand)(t k:TypeId)(hop:o.op=Op.call {callee:=Callee.builtin Builtin.delete,args:=#[m,x],argTypes:=#[t,k]}){mv kv:Value}(hm:a.eval m=mv)(hx:a.eval x=kv){w':World}(hrun : ∀ ty,(Builtin.delete_ #[t,k] ty #[mv,kv]).run P w=.ok (.tuple #[]) w')(hK:wpList P ops Q rest (a.put o.dst (.tuple #[])) w') :
  wpList P ops Q (o::rest) a w:=by
 refine wpList_plain hg fun K' hK' => ?_
 unfold Oper.wp;simp[execOp,hop,resolve,invoke,builtin,hm,hx,hrun o.type,Result.andThen];exact hK' _ _ hK
end
section
variable{w w' w1 w2 w0:World}{q p m1 m2 life last:Nat}{X X':List Lt}{D1 D1' D2:DataW Unit}{S D0:Nat→Prop}{t t':Bst}
theorem zki(h:LeM w q p m1 m2 life last X D1){x:Lt}(hx:x∈X)(h1 : ∀ ty,(Builtin.delete_ #[72,3] ty #[.map (some m2),.int .i64 x.tok]).run prog w.drew=.ok (.tuple #[]) w1)(hm1:Mod (fun k=>k=m2) w w1)(h2 : ∀ ty,(Builtin.delete_ #[71,9] ty #[.map (some m1),.string x.key]).run prog w1=.ok (.tuple #[]) w2) :
  Calls prog 62 #[lkP q,.string x.key] w fun e w'=>e=.returned (.tuple #[])∧w'=w2:=by
 have hb:=h.box;have hb2:=hm1.heap h.nq2 h.box;have hxb:=h.each x hx;obtain⟨r1,r2,r3,r4⟩:=h.rng x hx;have hlk:=h.lent.look kX underlying71 zh4 (ZS (s:=x.key) (by omega)) (x:=some x.blk) (zz.2 ⟨x,hx,rfl⟩);unfold ltC at hxb;have HB2:=za hb2;have H1:=za h1;have H2:=za h2;clear h hx hm1 hb2 h1 h2 r1 r2 r3 r4;obtain⟨key,hkey⟩:=zf x.key;obtain⟨tok,htok⟩:=zf x.tok;obtain⟨blk,hblk⟩:=zf x.blk;rw[hkey]at hlk H2 ⊢;rw[hkey,htok,hblk]at hxb;rw[htok]at H1;rw[hblk]at hlk;simp only[xB]at hlk;clear hkey htok hblk;obtain⟨hb_0,hb_1,hb_2,hb_3,hb_4,hb_f,hb_l,H_hb⟩:=cr5 hb;clear hb;obtain⟨hxb_0,hxb_1,hxb_2,hxb_f,hxb_l,H_hxb⟩:=cr3 hxb;clear hxb;go_enter func62,ntmps62;go_upto_region 2 with fail
 go_still_tail 8,(by kernel_rfl)
 go_upto_region 3 with(at_delete;refine JI _ rfl _ _ _ _ rfl rfl rfl H1.out ?_;go_frame)
 clear hb_0 hb_1 hb_2 hb_3 hb_4 hb_f hb_l;clear hxb_0 hxb_1 hxb_2 hxb_f hxb_l;clear H_hb H_hxb hlk H1;have hb3:=HB2.out;obtain⟨hb3_0,hb3_1,hb3_2,hb3_3,hb3_4,hb3_f,hb3_l,H_hb3⟩:=cr5 hb3;clear hb3
 go_wp2_with (at_delete;refine JI _ rfl _ _ _ _ rfl rfl rfl H2.out ?_;go_frame)
 go_end0
 exact⟨rfl,rfl⟩
theorem LeR.gone(h:LeR w0 D0 q p m1 m2 life last X D1 t w){x:Lt}(hx:x∈X)(hM : ∀ y,y∈X'↔y∈X∧y≠x)(hs:X'.Sublist X):Calls prog 62 #[lkP q,.string x.key] w fun e w'=>e=.returned (.tuple #[])∧LeR w0 D0 q p m1 m2 life last X' (D1.del (xc x.key)) t w':=by
 obtain⟨r1,r2,r3,r4⟩:=h.le.rng x hx;obtain⟨D2,hk⟩:=h.le.keys;have hl:=h.le.last;have hdr:zc w w.drew:=(Mod.refl _ w).drew;have g1:=fun ty=>(hk.mod hdr (fun e=>e)).own.drop zcv underlying72 (zgr (s:=x.tok) (by omega)) ty
 obtain⟨w1,e1,o1,t1⟩:=g1 0;have hm1:Mod (fun k=>k=m2) w w1:=Mod.of_drew (Mod.of_grown t1.grown (fun k e _=>by cases e;rfl));have hl1:=h.le.lent.mod hm1 h.le.ne;have g2:=fun ty=>hl1.own.drop kX underlying71 (ZS (s:=x.key) (by omega)) ty
 obtain⟨w2,e2,o2,t2⟩:=g2 0;have hm2:Mod (fun k=>k=m1) w1 w2:=Mod.of_grown t2.grown (fun k e _=>by cases e;rfl);refine(zki h.le hx (w1:=w1) (w2:=w2) (fun ty=>e1) hm1 (fun ty=>e2)).mono ?_;rintro e w' ⟨rfl,rfl⟩;have hmm:Mod (fun k=>k=m1∨k=m2) w w':=(hm1.mono (fun _ _ e => .inr e)).trans (hm2.mono (fun _ _ e => .inl e));have hin : ∀ k,(k=m1∨k=m2)→LeD q m1 m2 X k:=fun k e=>by rcases e with e | e;exact .inr (.inl e);exact .inr (.inr (.inl e))
 exact⟨rfl,h.to hmm (h.le.drop hx hM hs hk o1 hm1 o2 hm2) (fun k hk e=>h.ap k hk (hin k e)) (fun k _ e=>h.le.nob (hin k e)) (fun k e=>h.ge k (hin k e)) (fun k hk => .inl (by
  rcases hk with e | e | e | ⟨y,hy,e⟩
  ·exact .inl e
  ·exact .inr (.inl e)
  ·exact .inr (.inr (.inl e))
  ·exact .inr (.inr (.inr ⟨y,hs.subset hy,e⟩))))⟩
end
end
end Go.Proofs.YtdohbogbnheakaaGreatDoor
