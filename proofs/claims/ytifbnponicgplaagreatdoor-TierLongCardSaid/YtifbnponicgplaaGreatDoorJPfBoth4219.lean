/- Lemmas and contracts of functions. No condition. -/
import Derived.Test.YtifbnponicgplaaGreatDoorJPfBoth4218
import Derived.Defers
namespace Go.Proofs.YtifbnponicgplaaGreatDoor
open _root_.Go.Proofs.Tryz
set_option maxRecDepth 100000
set_option maxHeartbeats 20000000
set_option linter.all false
section
open Go.RowKit
def vP(w:World)(k:Nat):Prop := ∀ cs fz,w.heap[k]? ≠ some (.cells cs 5 fz)
section
variable{w w':World}{D:Nat→Prop}{k p:Nat}
theorem uf{cs:Array Value}{T:TypeId}{fz:Nat × Nat}(h:w.heap[k]? = some (.cells cs T fz))(hT:T≠5):vP w k:=fun cs fz e=>by
 rw[h]at e;injection e with e
 injection e with _ e
 exact hT e
theorem X6{P:Program}{kt:TypeId}{R:Value→Option (DataW Unit × List MemPlace)}{n:Nat}{Dm:DataW Unit}(h:w.ownsMap P kt R k n Dm):vP w k:=fun cs fz e=>by
 obtain⟨es,clock,h1,_⟩:=h;rw[h1]at e
 cases e
theorem yl.nob{N:Nat}{Ls:List (List Nat)}(h:yl w D p N Ls)(hk:D k):vP w k:=fun cs fz e=>by
 rcases h.types hk e with e | e | e<;>exact absurd e (by decide)
theorem y5.nob{xs:List Nat}(h:y5 w D p xs)(hk:D k):vP w k:=by
 obtain⟨q,N,Dl,h1,h2,h3⟩:=h;rcases(h3 k).1 hk with rfl | e
 ·exact uf h1 (by decide)
 ·exact h2.nob e
theorem yX.nob{lim:Int}{A B:List Wt}(h:yX w D p lim A B)(hk:D k):vP w k:=by
 obtain⟨l0,l1,bm,D0,D1,Dm,h⟩:=h;rcases(h.dd k).1 hk with rfl | rfl | e | e
 ·exact uf h.box (by decide)
 ·exact X6 h.costs.own
 ·exact h.q0.nob e
 ·exact h.q1.nob e
theorem yM.nob{Ls:List (List Nat)}(h:yM w D p Ls)(hk:D k):vP w k:=by
 obtain⟨q,many,N,Dl,h1,h2,h3,h4⟩:=h;rcases(h4 k).1 hk with rfl | e
 ·exact uf h1 (by decide)
 ·exact h2.nob e
theorem yo.nob{now:Nat}{L:List Td}(h:yo w D p now L)(hk:D k):vP w k:=by
 obtain⟨ws,bm,bb,Ds,Dm,Db,Lss,h,h2⟩:=h;rcases(h.dd k).1 hk with rfl | rfl | rfl | ⟨l,hl,hk⟩
 ·exact uf h.box.box (by decide)
 ·exact X6 h.what.own
 ·exact X6 h.births.own
 ·obtain⟨q,hq⟩ : ∃ q,ws[l]? = some q:=⟨_,zO (by rw[h.box.len];exact hl)⟩;obtain⟨Ls,hL⟩ : ∃ Ls,Lss[l]? = some Ls:=⟨_,zO (by rw[h.len];exact hl)⟩;exact(h.lev l q Ls hq hL).nob hk
theorem yf.nob{now:Nat}{M:List Td}(h:yf w D p now M)(hk:D k):vP w k:=by
 obtain⟨q,bb,bs,Dc,Db,Ds,h,h2⟩:=h;rcases(h.dd k).1 hk with rfl | rfl | rfl | e
 ·exact uf h.box (by decide)
 ·exact X6 h.births.own
 ·exact X6 h.slots.own
 ·exact h.cas.nob e
end
section
variable{Fo S:Nat→Prop}{w w':World}{b:CaB}{s:CaS}{D:Nat→Prop}{p:Nat}{t t':Bst}
theorem zo.nob(h:zo Fo w b s){k:Nat}(hk:b.D k):vP w k:=by
 rcases hk with rfl | e | rfl | e | rfl | e | e
 ·exact uf h.box (by decide)
 ·obtain⟨ob,h1,h2⟩:=h.dict.holds e;exact fun cs fz e2=>by rw[h1]at e2;exact h2 cs fz (vZ e2)
 ·exact uf h.ctr (by decide)
 ·exact h.order.nob e
 ·exact uf h.used.box (by decide)
 ·exact h.due.nob e
 ·obtain⟨ob,h1,h2⟩:=h.ev.holds e;exact fun cs fz e2=>by rw[h1]at e2;exact h2 cs fz (vZ e2)
theorem zG.nob(h:zG Fo w D p t){k:Nat}(hk:D k):vP w k:=by
 obtain⟨b,s,h1,h2,_,e,_⟩:=h;subst e;exact h1.nob hk
theorem zG.not0(h:zG Fo w D p t) : ¬ D 0:=by
 obtain⟨b,s,h1,h2,_,e,_⟩:=h;subst e;intro e;have hz:=h1.sep.z;rcases e with e | e | e | e | e | e | e
 ·have:=h1.sep.p;rw[← e,hz]at this;cases this
 ·have:=h1.sep.d 0 e;rw[hz]at this;cases this
 ·have:=h1.sep.c;rw[← e,hz]at this;cases this
 ·have:=h1.sep.o 0 e;rw[hz]at this;cases this
 ·have:=h1.sep.u;rw[← e,hz]at this;cases this
 ·have:=h1.sep.t 0 e;rw[hz]at this;cases this
 ·have:=h1.sep.v 0 e;rw[hz]at this;cases this
theorem zG.other{D':Nat→Prop}{p':Nat}{t1:Bst}(h:zG Fo w D p t)(h':zG Fo w D' p' t1)(hm:Mod D' w w')(hd : ∀ k,D k → ¬ D' k):zG Fo w' D p t :=
 h.beside hm hd (fun k _ hk => .inr (h'.nob hk)) h'.not0
end
def dlT(ttl q:Nat):Nat:=if ttl=0 then uP else kK q ttl
def kP(t:Bst)(tt:Nat)(key:ByteArray)(vs:List UInt8)(ttl:Nat):Int × Bst :=
 if vD t key.size vs.length=0 then(0,qr t tt key vs (dlT ttl))else if vD t key.size vs.length=12 then(12,(vW t tt key).2)else(vD t key.size vs.length,t)
def Xo(t:Bst)(key:ByteArray)(n ttl:Nat):Bool:=decide (t.births<16)&&decide (yU key t=0)&&(decide (ttl=0)||decide (vD t key.size n=0))&&decide (key.size≤1000)&&decide (n≤100000)&&decide (ttl≤uP)&&decide (t.now≤uP)
def Zx(t:Bst)(tt:Nat)(x:CE):Bst :=
 if x.dl=uP then(if vD t x.key.size x.val.length=0 then qr t tt x.key x.val (dlT 0)else t)else if x.dl≤tt then t else qr t tt x.key x.val (dlT (x.dl-tt))
def qV(t:Bst)(x:CE):Bool:=decide (t.births<16)&&(decide (x.dl=uP)||decide (vD t x.key.size x.val.length=0))&&decide (x.key.size≤1000)&&decide (x.val.length≤100000)&&decide (x.dl≤uP)&&decide (t.now≤uP)
def vE(dm:Bool)(tt:Nat)(t:Bst)(x:Ev):Bst:=if x.kind=2∧dm=true then Zx t tt x.e else t
def kg(dm:Bool)(tt:Nat):Bst→List Ev→Bool
 | _,[]=>true
 | t,x::l=>(!decide (x.kind=2∧dm=true)||qV t x.e)&&kg dm tt (vE dm tt t x) l
def vo(dm:Bool)(tt:Nat)(a b:Bst):Bst × Bst:=(ju a,ju (a.evs.foldl (vE dm tt) b))
def uJ(dm:Bool)(tt:Nat)(a b:Bst):Nat:=a.evs.length+(a.evs.foldl (vE dm tt) b).evs.length
def tmT(a b:Bst)(t:Nat):Nat:=max b.now (max a.now t)
def kN(a b:Bst)(t:Nat):Bool:=decide (xJ a=0)&&decide (xJ b=0)&&decide (t≤uP)&&decide (a.now≤uP)&&decide (b.now≤uP)
def vg(t:Bst)(tt:Nat)(key:ByteArray):Option CE:=uj (yQ t tt) key
def U1(t:Bst)(tt:Nat)(x:CE):Bst:=vG (qC (yQ t tt) x.birth x.cost) 0
end
section
open Go.RowKit Go.Shelf
def NoF:Nat→Prop:=fun _=>False
structure TiM(w:World)(q p0 p1:Nat)(ex dm:Bool)(a:Option Addr)(n c:Nat)(cs:List Value)(D0 D1:Nat→Prop)(t0 t1:Bst):Prop where
 box:w.heap[q]? = some (.cells #[.bool ex,.bool dm,lkP p0,lkP p1,.slice a n c] 45 (0,0))
 row:w.ownsRow 0 78 6 (.slice a n c) n cs
 a0:zG NoF w D0 p0 t0
 a1:zG NoF w D1 p1 t1
 dis : ∀ k,D0 k → ¬ D1 k
 q0 : ¬ D0 q
 q1 : ¬ D1 q
 r0 : ∀ g,(Value.slice a n c).ownBlock=some g → ¬ D0 g ∧ ¬ D1 g
 r1 : ∀ g,(Value.slice a n c).ownBlock=some g→g≠0
 z:q≠0
def tiD(q:Nat)(a:Option Addr)(n c:Nat)(D0 D1:Nat→Prop)(k:Nat):Prop:=k=q∨D0 k∨D1 k∨(Value.slice a n c).ownBlock=some k
def yj(w:World)(D:Nat→Prop)(q p0 p1:Nat)(ex dm:Bool)(n:Nat)(t0 t1:Bst):Prop :=
 ∃ a c cs D0 D1,TiM w q p0 p1 ex dm a n c cs D0 D1 t0 t1 ∧ ∀ k,D k↔tiD q a n c D0 D1 k
def zH(w:World)(D:Nat→Prop)(q p0 p1:Nat)(ex dm:Bool)(n:Nat)(t0 t1:Bst)(w':World):Prop := ∃ D',yj w' D' q p0 p1 ex dm n t0 t1∧Mod D w w'∧zZ D D' w
section
variable{w w':World}{q p0 p1 n c:Nat}{ex dm:Bool}{a:Option Addr}{cs:List Value}{D D0 D1:Nat→Prop}{t0 t1 t0' t1':Bst}
theorem TiM.lt(h:TiM w q p0 p1 ex dm a n c cs D0 D1 t0 t1){k:Nat}(hk:tiD q a n c D0 D1 k):k<w.heap.size:=by
 rcases hk with rfl | e | e | e
 ·exact zm h.box
 ·exact h.a0.lt e
 ·exact h.a1.lt e
 ·exact xV h.row e
theorem TiM.nob(h:TiM w q p0 p1 ex dm a n c cs D0 D1 t0 t1){k:Nat}(hk:tiD q a n c D0 D1 k):vP w k:=by
 rcases hk with rfl | e | e | e
 ·exact uf h.box (by decide)
 ·exact h.a0.nob e
 ·exact h.a1.nob e
 ·obtain⟨cur,e⟩:=yd h.row e;exact uf e (by decide)
theorem TiM.pure(h:TiM w q p0 p1 ex dm a n c cs D0 D1 t0 t1)(hp:zb w w'):TiM w' q p0 p1 ex dm a n c cs D0 D1 t0 t1 :=
 ⟨hp.heap (fun h=>h) h.box,zz h.row hp (fun _ _ h=>h),h.a0.pure hp,h.a1.pure hp,h.dis,h.q0,h.q1,h.r0,h.r1,h.z⟩
theorem TiM.go0(h:TiM w q p0 p1 ex dm a n c cs D0 D1 t0 t1)(hg:yv NoF w D0 p0 t0' w') : ∃ D0',TiM w' q p0 p1 ex dm a n c cs D0' D1 t0' t1∧Mod D0 w w'∧zZ D0 D0' w:=by
 obtain⟨D2,g1,g2,g3⟩:=hg;have hn : ∀ k,k<w.heap.size → ¬ D0 k → ¬ D2 k:=fun k hk hd e=>(g3 k e).elim hd (fun e=>by omega)
 refine⟨D2,⟨g2.heap h.q0 h.box,zz h.row g2 (fun g hg=>(h.r0 g hg).1),g1,h.a1.other h.a0 g2 (fun k h1 h0=>h.dis k h0 h1),fun k hk h1 => ?_,hn q (zm h.box) h.q0,h.q1,fun g hg=>⟨hn g (xV h.row hg) (h.r0 g hg).1,(h.r0 g hg).2⟩,h.r1,h.z⟩,g2,g3⟩;rcases g3 k hk with e | e
 ·exact h.dis k e h1
 ·have:=h.a1.lt h1;omega
theorem TiM.go1(h:TiM w q p0 p1 ex dm a n c cs D0 D1 t0 t1)(hg:yv NoF w D1 p1 t1' w') : ∃ D1',TiM w' q p0 p1 ex dm a n c cs D0 D1' t0 t1'∧Mod D1 w w'∧zZ D1 D1' w:=by
 obtain⟨D2,g1,g2,g3⟩:=hg;have hn : ∀ k,k<w.heap.size → ¬ D1 k → ¬ D2 k:=fun k hk hd e=>(g3 k e).elim hd (fun e=>by omega)
 refine⟨D2,⟨g2.heap h.q1 h.box,zz h.row g2 (fun g hg=>(h.r0 g hg).2),h.a0.other h.a1 g2 (fun k h0 h1=>h.dis k h0 h1),g1,fun k h0 hk => ?_,h.q0,hn q (zm h.box) h.q1,fun g hg=>⟨(h.r0 g hg).1,hn g (xV h.row hg) (h.r0 g hg).2⟩,h.r1,h.z⟩,g2,g3⟩;rcases g3 k hk with e | e
 ·exact h.dis k h0 e
 ·have:=h.a0.lt h0;omega
theorem yj.pure(h:yj w D q p0 p1 ex dm n t0 t1)(hp:zb w w'):yj w' D q p0 p1 ex dm n t0 t1:=by
 obtain⟨a,c,cs,D0,D1,h1,h2⟩:=h;exact⟨a,c,cs,D0,D1,h1.pure hp,h2⟩
theorem yj.lt(h:yj w D q p0 p1 ex dm n t0 t1){k:Nat}(hk:D k):k<w.heap.size:=by
 obtain⟨a,c,cs,D0,D1,h1,h2⟩:=h;exact h1.lt ((h2 k).1 hk)
theorem yj.nob(h:yj w D q p0 p1 ex dm n t0 t1){k:Nat}(hk:D k):vP w k:=by
 obtain⟨a,c,cs,D0,D1,h1,h2⟩:=h;exact h1.nob ((h2 k).1 hk)
theorem yj.go0(h:yj w D q p0 p1 ex dm n t0 t1) : ∃ D0,zG NoF w D0 p0 t0∧(∀ k,D0 k→D k) ∧ ∀ {t0' w'},yv NoF w D0 p0 t0' w'→zH w D q p0 p1 ex dm n t0' t1 w':=by
 obtain⟨a,c,cs,D0,D1,h1,h2⟩:=h;refine⟨D0,h1.a0,fun k hk=>(h2 k).2 (.inr (.inl hk)),fun hg => ?_⟩;obtain⟨D2,g1,g2,g3⟩:=h1.go0 hg;refine⟨tiD q a n c D2 D1,⟨a,c,cs,D2,D1,g1,fun _=>xZ⟩,g2.mono (fun k _ hk=>(h2 k).2 (.inr (.inl hk))),fun k hk => ?_⟩;rcases hk with e | e | e | e
 ·exact .inl ((h2 k).2 (.inl e))
 ·exact(g3 k e).imp (fun e=>(h2 k).2 (.inr (.inl e))) (fun e=>e)
 ·exact .inl ((h2 k).2 (.inr (.inr (.inl e))))
 ·exact .inl ((h2 k).2 (.inr (.inr (.inr e))))
theorem yj.go1(h:yj w D q p0 p1 ex dm n t0 t1) : ∃ D1,zG NoF w D1 p1 t1∧(∀ k,D1 k→D k) ∧ ∀ {t1' w'},yv NoF w D1 p1 t1' w'→zH w D q p0 p1 ex dm n t0 t1' w':=by
 obtain⟨a,c,cs,D0,D1,h1,h2⟩:=h;refine⟨D1,h1.a1,fun k hk=>(h2 k).2 (.inr (.inr (.inl hk))),fun hg => ?_⟩;obtain⟨D2,g1,g2,g3⟩:=h1.go1 hg;refine⟨tiD q a n c D0 D2,⟨a,c,cs,D0,D2,g1,fun _=>xZ⟩,g2.mono (fun k _ hk=>(h2 k).2 (.inr (.inr (.inl hk)))),fun k hk => ?_⟩;rcases hk with e | e | e | e
 ·exact .inl ((h2 k).2 (.inl e))
 ·exact .inl ((h2 k).2 (.inr (.inl e)))
 ·exact(g3 k e).imp (fun e=>(h2 k).2 (.inr (.inr (.inl e)))) (fun e=>e)
 ·exact .inl ((h2 k).2 (.inr (.inr (.inr e))))
theorem yj.box(h:yj w D q p0 p1 ex dm n t0 t1) : ∃ a c,w.heap[q]? = some (.cells #[.bool ex,.bool dm,lkP p0,lkP p1,.slice a n c] 45 (0,0)):=by
 obtain⟨a,c,cs,D0,D1,h1,h2⟩:=h;exact⟨a,c,h1.box⟩
theorem zH.trans{w1 w2:World}{D2:Nat→Prop}{n2:Nat}(hm:Mod D w w1)(hg:zZ D D2 w)(h:zH w1 D2 q p0 p1 ex dm n2 t0' t1' w2):zH w D q p0 p1 ex dm n2 t0' t1' w2:=by
 obtain⟨D3,h1,h2,h3⟩:=h;refine⟨D3,h1,Mod.trans' hm h2 (fun _ _ e=>e) (fun i hi e=>(hg i e).elim (fun e=>e) (fun e=>by omega)),fun k hk => ?_⟩;rcases h3 k hk with e | e
 ·exact hg k e
 ·exact .inr (zF hm.size e)
theorem zH.pureL{w1 w2:World}(hp:zb w w1)(h:zH w1 D q p0 p1 ex dm n t0 t1 w2):zH w D q p0 p1 ex dm n t0 t1 w2:=by
 obtain⟨D3,h1,h2,h3⟩:=h;exact⟨D3,h1,Mod.trans' hp h2 (fun _ _ e=>e.elim) (fun _ _ e=>e),fun k hk=>(h3 k hk).imp (fun e=>e) (fun e=>zF hp.size e)⟩
theorem zH.pureR{w1 w2:World}(h:zH w D q p0 p1 ex dm n t0 t1 w1)(hp:zb w1 w2):zH w D q p0 p1 ex dm n t0 t1 w2:=by
 obtain⟨D3,h1,h2,h3⟩:=h;exact⟨D3,h1.pure hp,h2.trans (Mod.of_pure hp),h3⟩
theorem zH.at_{w1:World}(h:zH w D q p0 p1 ex dm n t0 t1 w1) : ∃ D',yj w1 D' q p0 p1 ex dm n t0 t1∧Mod D w w1∧zZ D D' w:=h
theorem zbB{D2:Nat→Prop}(hg:zZ D D2 w){k:Nat}(hk:k<w.heap.size)(hd : ¬ D k) : ¬ D2 k:=fun e=>(hg k e).elim hd (fun e=>by omega)
end
def zmw(w:World)(o:Option Addr):Prop := ∀ Y,zb w Y→Calls prog 27 #[.pointer o] Y fun e w'=>e=.returned (.bool true)∧Y=w'
section
variable{w w':World}{o:Option Addr}
theorem zmw.pure(h:zmw w o)(hp:zb w w'):zmw w' o:=fun Y hY=>h Y (hp.trans hY)
theorem zit(w:World):zmw w none:=fun Y _=>by
 go_enter func27,ntmps27;go_wp2;go_ret;exact⟨rfl,rfl⟩
theorem Az1qu {P:Prop}(h:P:=by
 obtain⟨hb_0,hb_1,hb_2,hb_3,hb_4,hb_f,hb_l,H_hb⟩:=cr5 hb;clear hb;go_enter func27,ntmps27;go_wp2;go_ret;exact⟨rfl,rfl⟩):P:=h
theorem zkX{q:Nat}(h:w.heap[q]? = some (.cells #[.bool false,.bool false,.pointer none,.pointer none,.slice none 0 0] 45 (0,0))):zmw w (some ⟨q,0,none⟩):=fun Y hY=>by
 have hb:=hY.heap (fun h=>h) h;clear h hY;exact Az1qu
theorem Azt4w {P:Prop}(h:P:=by
 go_wp2_with (go_at_call 27;refine HN.out.mono ?_;rintro e w' ⟨rfl,rfl⟩)
 go_ret;exact⟨rfl,rfl⟩):P:=h
theorem J1(h:zmw w o)(key:ByteArray):Calls prog 18 #[.pointer o,.string key] w fun e w'=>e=.returned (.int .i64 1)∧w=w':=by
 have HN:=za (h w (Mod.refl _ _));clear h;go_enter func18,ntmps18;exact Azt4w
theorem Az7j4 {P:Prop}(h:P:=by
 go_enter_defers func7,ntmps7
 go_wp2_with (go_at_call 18;refine HM.out.mono ?_;rintro e w' ⟨rfl,rfl⟩)
 exact⟨_,results_tmp rfl _ _ _,rfl,rfl⟩):P:=h
theorem zhC(h:zmw w o)(t:Nat)(key:ByteArray)(a:Option Addr)(n c ttl:Nat):Calls prog 7 #[.pointer o,.int .u64 t,.string key,.slice a n c,.int .u64 ttl] w fun e w'=>e=.returned (.int .i64 1)∧w=w':=by
 have HM:=za (J1 h key);clear h;exact Az7j4
theorem zgY(h:zmw w o)(t:Nat)(key:ByteArray):Calls prog 8 #[.pointer o,.int .u64 t,.string key] w fun e w'=>e=.returned (.tuple #[.slice none 0 0,.int .i64 0,.int .i64 1])∧w=w':=by
 have HM:=za (J1 h key);clear h
 go_enter_defers func8,ntmps8
 go_wp2_with (go_at_call 18;refine HM.out.mono ?_;rintro e w' ⟨rfl,rfl⟩)
 exact⟨.tuple #[.slice none 0 0,.int .i64 0,.int .i64 1],by simp[results,results8,go_sem],rfl,rfl⟩
theorem zly(h:zmw w o)(t:Nat)(key:ByteArray):Calls prog 9 #[.pointer o,.int .u64 t,.string key] w fun e w'=>e=.returned (.tuple #[.int .i64 0,.int .i64 1])∧w=w':=by
 have HM:=za (J1 h key);clear h
 go_enter_defers func9,ntmps9
 go_wp2_with (go_at_call 18;refine HM.out.mono ?_;rintro e w' ⟨rfl,rfl⟩)
 exact⟨.tuple #[.int .i64 0,.int .i64 1],by simp[results,results9,go_sem],rfl,rfl⟩
theorem zig(h:zmw w o)(t:Nat):Calls prog 11 #[.pointer o,.int .u64 t] w fun e w'=>e=.returned (.int .i64 1)∧w=w':=by
 have HN:=za (h w (Mod.refl _ _));clear h;go_enter func11,ntmps11;exact Azt4w
theorem zfK(h:zmw w o):Calls prog 12 #[.pointer o] w fun e w'=>e=.returned (.slice none 0 0)∧w=w':=by
 have HN:=za (h w (Mod.refl _ _));clear h;go_enter func12,ntmps12;exact Azt4w
theorem zg8(h:zmw w o):Calls prog 10 #[.pointer o] w fun e w'=>e=.returned (.tuple #[.pointer none,.pointer none])∧w=w':=by
 have HN:=za (h w (Mod.refl _ _));clear h;go_enter func10,ntmps10
 go_wp2_with (go_at_call 27;refine HN.out.mono ?_;rintro e w' ⟨rfl,rfl⟩)
 go_ret2;exact⟨rfl,rfl⟩
theorem zeU(h:zmw w o):Calls prog 13 #[.pointer o] w fun e w'=>e=.returned (.pointer none)∧w=w':=by
 have HN:=za (h w (Mod.refl _ _));clear h;go_enter func13,ntmps13;exact Azt4w
end
def vf(cfg:Cfg):Bst:=⟨cfg,0,0,[],[],[],[]⟩
section
variable{Fo:Nat→Prop}{w w':World}{b:CaB}{s:CaS}{D:Nat→Prop}{p:Nat}{t:Bst}
theorem zjG{cfg:Cfg}(hc:cfg.ok){mc mb births now:Nat}(h1:cfg.count=mc)(h2:cfg.bytes=mb)(hn:now≤18446744073709551615)(hb:births≤16):CaI NoP (XZ cfg mc mb births now) :=
 ⟨hc,rfl,h1,h2,rfl,jR,fun y=>⟨fun e=>(by cases e),fun⟨x,hx,_⟩=>(by simp[XZ]at hx)⟩,yK.nil _,fun t=>⟨fun e=>(by cases e),fun⟨x,hx,_⟩=>(by simp[XZ]at hx)⟩,fun x hx=>(by cases hx),List.Pairwise.nil,List.Pairwise.nil,fun v hv=>(by cases hv),List.Pairwise.nil,hn,zF hb (by decide),yq _,hb⟩
def zgN(Fo:Nat→Prop)(w:World)(cfg:Cfg)(e:Ending)(w':World):Prop := ∃ p D,e=.returned (.tuple #[lkP p,.int .i64 0])∧zG Fo w' D p (vf cfg)∧zb w w' ∧ ∀ k,D k→w.heap.size≤k
theorem zdr{cfg:Cfg}(hc:cfg.ok)(hsd:cfg.seed<18446744073709551616)(w:World)(hT:xb w)(hFo : ∀ k,Fo k→k<w.heap.size):Calls prog 17 #[cfg.v] w (zgN Fo w cfg):=by
 have hck:=fun W=>zdz cfg W
 rw[Cfg.err_ok.2 hc]at hck;obtain⟨c0,b0,pr,sd,sm⟩:=cfg;obtain⟨mc,rfl⟩ : ∃ m:Nat,c0=m:=⟨c0.toNat,by have:=hc.1;dsimp only at this;omega⟩;obtain⟨mb,rfl⟩ : ∃ m:Nat,b0=m:=⟨b0.toNat,by have:=hc.2.2.1;dsimp only at this;omega⟩;dsimp only[Cfg.v]at hck ⊢;have HCK:=za hck;have HMd:=za (fun Y (hY:zb w Y)=>zjO (Fo:=Fo) hc hsd (now:=0) (births:=0) (by omega) Y (hT.pure hY) (fun k hk=>vh (hFo k hk) hY.size));have HI:=za (zjG (births:=0) (now:=0) hc rfl rfl (by omega) (by omega));have hal:zb w (w.alloc (.cells #[.int .i64 mc,.int .i64 mb,.int .i64 pr,.int .u64 sd,.bool sm] 29)):=(Mod.refl _ w).alloc _;have z:=zk (w:=w) (o := .cells #[.int .i64 mc,.int .i64 mb,.int .i64 pr,.int .u64 sd,.bool sm] 29 (0,0)) rfl;have HP1:=za hal;clear hc hsd hT hFo hck hal;go_enter func17,ntmps17;go_upto_region 1 with fail
 generalize w.alloc (.cells #[.int .i64 mc,.int .i64 mb,.int .i64 pr,.int .u64 sd,.bool sm] 29)=W1 at *;generalize w.heap.size=c1 at z ⊢;have Z:=za z;obtain⟨z_0,z_1,z_2,z_3,z_4,z_f,z_l,H_z⟩:=cr5 z;clear z;go_upto_region 2 with(go_at_call 29;refine(HCK.out _).mono ?_;rintro e W2 ⟨rfl,hp2⟩)
 clear z_0 z_1 z_2 z_3 z_4 z_f z_l;clear H_z;have HP2:=za (HP1.out.trans hp2);have z2:=hp2.heap (fun h=>h) Z.out;have HMd2:=za (HMd.out W2 HP2.out);clear hp2;obtain⟨z2_0,z2_1,z2_2,z2_3,z2_4,z2_f,z2_l,H_z2⟩:=cr5 z2;clear z2
 go_wp2_with (go_at_call 30;refine HMd2.out.mono ?_;rintro e W3 ⟨b,rfl,hC,hp3,hge⟩)
 go_ret2;exact⟨b.p,b.D,rfl,⟨b,_,hC,HI.out,rfl,rfl,rfl,yq _,yq _,yq _⟩,HP2.out.trans hp3,fun k hk=>zF HP2.out.size (hge k hk)⟩
theorem CaI.getTd(h:CaI NoP s){sl:Nat}{x:CE}(hx:s.L[sl]? = some (some x)):getTd s.M sl=(⟨sl,x.dl,x.birth⟩,0):=by
 have hm:(⟨sl,x.dl,x.birth⟩:Td)∈s.M:=(h.md0 _).2 ⟨x,hx,rfl,rfl⟩;rcases V9 s.M sl with⟨_,hh,y,e1,e2,_,e3,e4⟩ | ⟨hno,er,e1,e2⟩
 ·have hy:y∈s.M:=e4.mem_iff.2 yD;rw[e1,h.due.slots y hy _ hm e2]
 ·exfalso;rcases hno with c | c
  ·exact c (h.sl_lt hx)
  ·rw[uL.2 ⟨_,hm,rfl⟩]at c;cases c
end
section
variable{w w':World}
abbrev tiC(ex dm:Bool)(v0 v1:Value):Array Value:=#[.bool ex,.bool dm,v0,v1,.slice none 0 0]
def zj8(w:World)(ex dm:Bool)(c0 c1:Cfg)(e:Ending)(w':World):Prop := ∃ q p0 p1 D,e=.returned (.tuple #[lkP q,.int .i64 0])∧yj w' D q p0 p1 ex dm 0 (vf c0) (vf c1)∧zb w w' ∧ ∀ k,D k→w.heap.size≤k
theorem zay : ∃ i,prog.info? 29=some i∧i.size=5:=by
 have h:(prog.info? 29).map (fun i=>i.size)=some 5:=by kernel_rfl
 cases hi:prog.info? 29 with
 | none=>rw[hi]at h;cases h
 | some i=>rw[hi]at h;exact⟨i,rfl,vZ h⟩
theorem Azff2 {P:Prop}(h:P:=by
 obtain⟨j,hj,hs⟩:=zay;have h1:=underlying58;have h2:=underlying29;simp[Instr.index,run_underlying h1,asIntOf,part,isAgg,run_underlying h2,sizeOf,typeInfo,hj,hs,go_sem]):P:=h
theorem ziG(a0 a1 a2 a3 a4 b0 b1 b2 b3 b4:Value)(w:World):(Instr.index 58 (.agg #[a0,a1,a2,a3,a4,b0,b1,b2,b3,b4]) (.int .i64 0)).run prog w=.ok (.agg #[a0,a1,a2,a3,a4]) w:=by
 exact Azff2
theorem zfy(a0 a1 a2 a3 a4 b0 b1 b2 b3 b4:Value)(w:World):(Instr.index 58 (.agg #[a0,a1,a2,a3,a4,b0,b1,b2,b3,b4]) (.int .i64 1)).run prog w=.ok (.agg #[b0,b1,b2,b3,b4]) w:=by
 exact Azff2
attribute [local go_sem high] ziG zfy
theorem zbp(w:World)(hT:xb w)(ex dm:Bool){n0 b0 s0 n1 b1 s1:Nat}{r0 r1:Nat}{m0 m1:Bool}(h0:(⟨n0,b0,r0,s0,m0⟩:Cfg).ok)(h1:(⟨n1,b1,r1,s1,m1⟩:Cfg).ok)(hs0:s0<18446744073709551616)(hs1:s1<18446744073709551616) :
  Calls prog 6 #[(⟨n0,b0,r0,s0,m0⟩:Cfg).v,(⟨n1,b1,r1,s1,m1⟩:Cfg).v,.agg #[.bool ex,.bool dm]] w (zj8 w ex dm ⟨n0,b0,r0,s0,m0⟩ ⟨n1,b1,r1,s1,m1⟩):=by
 have HN0:=za (fun W (hW:xb W)=>zdr (Fo:=NoF) h0 hs0 W hW (fun k hk=>hk.elim));have HN1:=za (fun W (hW:xb W)=>zdr (Fo:=NoF) h1 hs1 W hW (fun k hk=>hk.elim));have HT:=za hT;dsimp only[Cfg.v]at HN0 HN1 ⊢;clear hT h0 h1 hs0 hs1;go_enter func6,ntmps6;have hp0:zb w ((((w.alloc (.cells #[.int .i64 n0,.int .i64 b0,.int .i64 r0,.int .u64 s0,.bool m0] 29)).alloc (.cells #[.int .i64 n1,.int .i64 b1,.int .i64 r1,.int .u64 s1,.bool m1] 29)).alloc (.cells #[.bool ex,.bool dm] 31)).alloc (.cells #[.bool ex,.bool dm,.pointer none,.pointer none,.slice none 0 0] 45)):=((((Mod.refl _ w).alloc _).alloc _).alloc _).alloc _;have hz0:=zk (w:=((w.alloc (.cells #[.int .i64 n0,.int .i64 b0,.int .i64 r0,.int .u64 s0,.bool m0] 29)).alloc (.cells #[.int .i64 n1,.int .i64 b1,.int .i64 r1,.int .u64 s1,.bool m1] 29)).alloc (.cells #[.bool ex,.bool dm] 31)) (o := .cells #[.bool ex,.bool dm,.pointer none,.pointer none,.slice none 0 0] 45 (0,0)) (n:=w.heap.size+1+1+1) (by simp);have HP0:=za hp0;have HZ0:=za hz0;clear hp0 hz0;go_upto_region 3 with fail
 generalize(((w.alloc (.cells #[.int .i64 n0,.int .i64 b0,.int .i64 r0,.int .u64 s0,.bool m0] 29)).alloc (.cells #[.int .i64 n1,.int .i64 b1,.int .i64 r1,.int .u64 s1,.bool m1] 29)).alloc (.cells #[.bool ex,.bool dm] 31)).alloc (.cells #[.bool ex,.bool dm,.pointer none,.pointer none,.slice none 0 0] 45)=W at *;obtain⟨q,hq⟩:=zf (w.heap.size+1+1+1);rw[hq]at HZ0 ⊢;have HQ:Hid (w.heap.size≤q):=za (by omega);have HPOS:=za HT.out.lt;clear hq;go_loopw [19] (fun v19 wr=>(v19=.int .i64 0∧wr=W)∨(v19=.int .i64 1 ∧ ∃ p0 D0,wr.heap[q]? = some (.cells (tiC ex dm (lkP p0) (.pointer none)) 45 (0,0))∧zG NoF wr D0 p0 (vf ⟨n0,b0,r0,s0,m0⟩)∧zb w wr ∧ ∀ k,D0 k→q<k)∨(v19=.int .i64 2 ∧ ∃ p0 p1 D0 D1,wr.heap[q]? = some (.cells (tiC ex dm (lkP p0) (lkP p1)) 45 (0,0))∧zG NoF wr D0 p0 (vf ⟨n0,b0,r0,s0,m0⟩)∧zG NoF wr D1 p1 (vf ⟨n1,b1,r1,s1,m1⟩)∧zb w wr∧(∀ k,D0 k→q<k)∧(∀ k,D1 k→q<k) ∧ ∀ k,D0 k → ¬ D1 k)) (fun v19 _=>2-(intOf v19).toNat)
 case atStart=>exact .inl ⟨rfl,rfl⟩
 case round =>
  rcases hrel with⟨rfl,rfl⟩ | ⟨rfl,p0,D0,hq,hc0,hp,hd0⟩ | ⟨rfl,p0,p1,D0,D1,hq,hc0,hc1,hp,hd0,hd1,hdis⟩
  ·have al:zb wr (wr.alloc (.cells #[.int .i64 n0,.int .i64 b0,.int .i64 r0,.int .u64 s0,.bool m0] 29)):=(Mod.refl _ wr).alloc _;have zc:=zk (w:=wr) (o := .cells #[.int .i64 n0,.int .i64 b0,.int .i64 r0,.int .u64 s0,.bool m0] 29 (0,0)) rfl;have HN:=za (HN0.out (wr.alloc (.cells #[.int .i64 n0,.int .i64 b0,.int .i64 r0,.int .u64 s0,.bool m0] 29)) (HT.out.pure (HP0.out.trans al)));have HAL:=za al;have hql:q<wr.heap.size:=zm HZ0.out;have HQL:=za hql;clear al hql;go_upto_region 5 with fail
   have hwl:wr.heap.size≤(wr.alloc (.cells #[.int .i64 n0,.int .i64 b0,.int .i64 r0,.int .u64 s0,.bool m0] 29)).heap.size:=HAL.out.size;have HWL:=za hwl;clear hwl;generalize wr.alloc (.cells #[.int .i64 n0,.int .i64 b0,.int .i64 r0,.int .u64 s0,.bool m0] 29)=W5 at *;generalize wr.heap.size=r5 at *;obtain⟨zc_0,zc_1,zc_2,zc_3,zc_4,zc_f,zc_l,H_zc⟩:=cr5 zc;clear zc;go_upto_region 8 with(go_at_call 17;refine HN.out.mono ?_;rintro e w6 ⟨p,D,rfl,h1,h2,h3⟩)
   clear zc_0 zc_1 zc_2 zc_3 zc_4 zc_f zc_l;clear H_zc HN;have hq6:=h2.heap (fun h=>h) (HAL.out.heap (fun h=>h) HZ0.out);have hqs:=zX w6 q 2 _ _ (lkP p) hq6;have hms:=(Mod.refl (fun k=>k=q) w6).setCell (p:=⟨q,2,none⟩) (fun _=>rfl) (lkP p);have hcs:=h1.beside hms (fun k hk e=>by subst e;have:=h3 _ hk;have:=HWL.out;have:=HQL.out;omega) (fun k _ e => .inr (by subst e;exact uf hq6 (by decide))) (fun e=>by have:=HQ.out;have:=HPOS.out;omega);have hpw:zb w (w6.setCell ⟨q,2,none⟩ (lkP p)):=((HP0.out.trans HAL.out).trans h2).then hms (fun i hi e=>by have:=HQ.out;omega);have hdd : ∀ k,D k→q<k:=fun k hk=>by have:=h3 _ hk;have:=HWL.out;have:=HQL.out;omega
   have HQS:=za hqs;have HCS:=za hcs;have HPW:=za hpw;have HDD:=za hdd;clear h1 h2 h3 hqs hms hcs hpw hdd;obtain⟨hq6_0,hq6_1,hq6_2,hq6_3,hq6_4,hq6_f,hq6_l,H_hq6⟩:=cr5 hq6;clear hq6;go_wp2;go_roundw
   case rel=>exact .inr (.inl ⟨by first | rfl | go_num,p,D,by simpa using HQS.out,HCS.out,HPW.out,HDD.out⟩)
   case measure=>simp[intOf]
  ·have al:zb wr (wr.alloc (.cells #[.int .i64 n1,.int .i64 b1,.int .i64 r1,.int .u64 s1,.bool m1] 29)):=(Mod.refl _ wr).alloc _;have zc:=zk (w:=wr) (o := .cells #[.int .i64 n1,.int .i64 b1,.int .i64 r1,.int .u64 s1,.bool m1] 29 (0,0)) rfl;have HN:=za (HN1.out (wr.alloc (.cells #[.int .i64 n1,.int .i64 b1,.int .i64 r1,.int .u64 s1,.bool m1] 29)) (HT.out.pure (hp.trans al)));have HAL:=za al;have hql:q<wr.heap.size:=zm hq;have HQL:=za hql;have HQ1:=za hq;have HC0:=za hc0;have HPR:=za hp;have HD0:=za hd0;clear al hql hq hc0 hp hd0;go_upto_region 5 with fail
   have hwl:wr.heap.size≤(wr.alloc (.cells #[.int .i64 n1,.int .i64 b1,.int .i64 r1,.int .u64 s1,.bool m1] 29)).heap.size:=HAL.out.size;have HWL:=za hwl;have HLT:=za (fun k (hk:D0 k)=>HC0.out.lt hk);clear hwl;generalize wr.alloc (.cells #[.int .i64 n1,.int .i64 b1,.int .i64 r1,.int .u64 s1,.bool m1] 29)=W5 at *;generalize wr.heap.size=r5 at *;obtain⟨zc_0,zc_1,zc_2,zc_3,zc_4,zc_f,zc_l,H_zc⟩:=cr5 zc;clear zc;go_upto_region 8 with(go_at_call 17;refine HN.out.mono ?_;rintro e w6 ⟨p,D,rfl,h1,h2,h3⟩)
   clear zc_0 zc_1 zc_2 zc_3 zc_4 zc_f zc_l;clear H_zc HN;have hq6:=h2.heap (fun h=>h) (HAL.out.heap (fun h=>h) HQ1.out);have hqs:=zX w6 q 3 _ _ (lkP p) hq6;have hms:=(Mod.refl (fun k=>k=q) w6).setCell (p:=⟨q,3,none⟩) (fun _=>rfl) (lkP p);have hcs:=h1.beside hms (fun k hk e=>by subst e;have:=h3 _ hk;have:=HWL.out;have:=HQL.out;omega) (fun k _ e => .inr (by subst e;exact uf hq6 (by decide))) (fun e=>by have:=HQ.out;have:=HPOS.out;omega);have hc0s:=(HC0.out.pure (HAL.out.trans h2)).beside hms (fun k hk e=>by subst e;have:=HD0.out _ hk;omega) (fun k _ e => .inr (by subst e;exact uf hq6 (by decide))) (fun e=>by have:=HQ.out;have:=HPOS.out;omega);have hpw:zb w (w6.setCell ⟨q,3,none⟩ (lkP p)):=((HPR.out.trans HAL.out).trans h2).then hms (fun i hi e=>by have:=HQ.out;omega);have hdd : ∀ k,D k→q<k:=fun k hk=>by have:=h3 _ hk;have:=HWL.out;have:=HQL.out;omega
   have hdis : ∀ k,D0 k → ¬ D k:=fun k h0 hk=>by have:=h3 _ hk;have:=HWL.out;have:=HLT.out _ h0;omega
   have HQS:=za hqs;have HCS:=za hcs;have HC0S:=za hc0s;have HPW:=za hpw;have HDD:=za hdd;have HDIS:=za hdis;clear h1 h2 h3 hqs hms hcs hc0s hpw hdd hdis;obtain⟨hq6_0,hq6_1,hq6_2,hq6_3,hq6_4,hq6_f,hq6_l,H_hq6⟩:=cr5 hq6;clear hq6;go_wp2;go_roundw
   case rel=>exact .inr (.inr ⟨by first | rfl | go_num,p0,p,D0,D,by simpa using HQS.out,HC0S.out,HCS.out,HPW.out,HD0.out,HDD.out,HDIS.out⟩)
   case measure=>simp[intOf]
  ·have hti:yj wr (tiD q none 0 0 D0 D1) q p0 p1 ex dm 0 (vf ⟨n0,b0,r0,s0,m0⟩) (vf ⟨n1,b1,r1,s1,m1⟩) :=
    ⟨none,0,[],D0,D1,⟨hq,vV _ _ _ _,hc0,hc1,hdis,fun e=>by have:=hd0 _ e;omega,fun e=>by have:=hd1 _ e;omega,fun g hg=>(by cases hg),fun g hg=>(by cases hg),fun e=>by have:=HQ.out;have:=HPOS.out;omega⟩,fun _=>xZ⟩
   have HTI:=za hti;have HPR:=za hp;have hge : ∀ k,tiD q none 0 0 D0 D1 k→w.heap.size≤k:=fun k hk=>by
    have hQ:=HQ.out;rcases hk with rfl | e | e | e
    ·exact hQ
    ·have:=hd0 _ e;omega
    ·have:=hd1 _ e;omega
    ·cases e
   have HGE:=za hge;clear hq hc0 hc1 hp hd0 hd1 hdis hti hge;go_wp2;go_ret2;exact⟨q,p0,p1,_,rfl,HTI.out,HPR.out,HGE.out⟩
end
section
variable{w w':World}{q p0 p1 n c p:Nat}{ex dm:Bool}{a:Option Addr}{D:Nat→Prop}{t t0 t1:Bst}
theorem zgW(h:yj w D q p0 p1 ex dm n t0 t1):Calls prog 27 #[lkP q] w fun e w'=>e=.returned (.bool false)∧w=w':=by
 obtain⟨a,c,hb⟩:=h.box;clear h;exact Az1qu
def uW(w:World)(v:Value):Prop := ∀ g,ui v=some g → ∃ cs fz,w.heap[g]? = some (.cells cs 5 fz)
theorem uW.of_bytes{v:Value}{xs:List Value}(h:zW w v xs):uW w v:=fun g hg=>by
 obtain⟨cur,e⟩:=yd h (U9 hg);exact⟨cur,_,e⟩
theorem uW.mod{v:Value}{S:Nat→Prop}(h:uW w v)(hm:Mod S w w')(hS : ∀ k,S k→vP w k):uW w' v:=fun g hg=>by
 obtain⟨cs,fz,e⟩:=h g hg;exact⟨cs,fz,hm.heap (fun hs=>hS g hs cs fz e) e⟩
theorem uW.off{v:Value}{S:Nat→Prop}(h:uW w v)(hS : ∀ k,S k→vP w k) : ∀ g,ui v=some g → ¬ S g:=fun g hg hs=>by
 obtain⟨cs,fz,e⟩:=h g hg;exact hS g hs cs fz e
theorem zgM{key:ByteArray}{n ttl:Nat}(h:Xo t key n ttl=true):t.births<16∧yU key t=0∧(ttl=0∨vD t key.size n=0)∧key.size≤1000∧n≤100000∧ttl≤18446744073709551615∧t.now≤18446744073709551615:=by
 unfold Xo uP at h;simpa[and_assoc]using h
theorem yv.of_pure{Fo:Nat→Prop}(h:zG Fo w D p t)(hp:zb w w'):yv Fo w D p t w':=⟨D,h.pure hp,hp.mono (fun _ _ e=>e.elim),fun _ e => .inl e⟩
theorem yv.pureL{Fo:Nat→Prop}{w1:World}(hp:zb w w1)(h:yv Fo w1 D p t w'):yv Fo w D p t w':=by
 obtain⟨D2,h1,h2,h3⟩:=h;exact⟨D2,h1,Mod.trans' hp h2 (fun _ _ e=>e.elim) (fun _ _ e=>e),fun k hk=>(h3 k hk).imp (fun e=>e) (fun e=>zF hp.size e)⟩
theorem zhB{d t:Nat}(h:t<d)(hd:d<18446744073709551615)(w:World):Calls prog 48 #[.int .u64 d,.int .u64 t] w fun e w'=>e=.returned (.int .u64 (d-t:Nat))∧w=w':=by
 have h1:((d:Int)==18446744073709551615)=false:=by simp;omega
 have h2 : ¬ (d:Int)≤(t:Int):=by omega
 have h3:IntKind.u64.wrap ((d:Int)-(t:Int))=((d-t:Nat):Int):=by rw[show(d:Int)-(t:Int)=((d-t:Nat):Int) by omega];exact uG _ (by omega)
 have h4:IntKind.u64.wrap ((d-t:Nat):Int)=((d-t:Nat):Int):=uG _ (by omega);go_enter func48,ntmps48;go_wp2;go_ret;exact⟨rfl,rfl⟩
theorem za5:dlT 0=fun _=>18446744073709551615:=rfl
theorem zaE{ttl:Nat}(h:0<ttl):dlT ttl=fun q=>kK q ttl:=by
 funext q
 unfold dlT;rw[zh (by omega)]
theorem YU(h:yj w D q p0 p1 ex dm n t0 t1){key:ByteArray}(hk:key.size≤1000)(hv:xo key.size=true):Calls prog 18 #[lkP q,.string key] w fun e w'=>e=.returned (.int .i64 0)∧w=w':=by
  have HN:=za (zgW h);have HV:=za (fun W=>Ki key W (by omega));rw[hv]at HV;clear h hv;go_enter func18,ntmps18
  go_wp2_with (first
    | (go_at_call 27;refine HN.out.mono ?_;rintro e w' ⟨rfl,rfl⟩)
    | (go_at_call 31;refine(HV.out _).mono ?_;rintro e w' ⟨rfl,rfl⟩))
  go_ret;exact⟨rfl,rfl⟩
theorem KK(h:zG NoF w D p t){tt ttl n c:Nat}{a:Option Addr}{key:ByteArray}{vs:List UInt8}(hv:zr w (.slice a n c) 1 (zJ vs))(hb:uW w (.slice a n c))(hn:vs.length=n)(ht:tt≤18446744073709551615)(hok:Xo t key n ttl=true) :
    Calls prog 21 #[lkP p,.int .u64 tt,.string key,.slice a n c,.int .u64 ttl] w fun e w'=>e=.returned (.int .i64 (kP t tt key vs ttl).1)∧yv NoF w D p (kP t tt key vs ttl).2 w':=by
  obtain⟨o1,o2,o3,o4,o5,o6,o7⟩:=zgM hok;have hoff:=hb.off (fun k hk=>h.nob hk);unfold kP;rw[hn];by_cases he:vD t key.size n=0
  · rw[zj he]
    by_cases h0:ttl=0
    · subst h0
      have HS:=za (h.Set ht he o1 hv hoff);rw[za5];clear h hv hb hok hoff he o1 o2 o3;go_enter func21,ntmps21
      go_wp2_with (go_at_call 36;refine HS.out.mono ?_;rintro e w1 ⟨rfl,hg⟩)
      go_ret;exact⟨rfl,hg⟩
    · have HS:=za (h.SetTTL ht o6 (by omega) he o1 hv hoff o7)
      rw[zaE (by omega)];have hz:((ttl:Int)==0)=false:=by simp;omega
      clear h hv hb hok hoff he o1 o2 o3;go_enter func21,ntmps21
      go_wp2_with (go_at_call 37;refine HS.out.mono ?_;rintro e w1 ⟨rfl,hg⟩)
      go_ret;exact⟨rfl,hg⟩
  · rw[zh he]
    have h0:ttl=0:=o3.resolve_right he;subst h0;by_cases h12:vD t key.size n=12
    · rw[zj h12]
      have HS:=za (h.SetErr tt (a:=a) (c:=c) (by omega) (by omega) h12 (by decide));have HD:=za (fun W (hp:zb w W)=>(h.pure hp).del ht (by omega) o2);clear h hv hb hok hoff he o1 o2 o3 h12;go_enter func21,ntmps21
      go_wp2_with (first
        | (go_at_call 36;refine HS.out.mono ?_;rintro e w1 ⟨rfl,hp⟩;have HP:=za hp)
        | (go_at_call 22;refine(HD.out _ HP.out).mono ?_;rintro e w2 ⟨rfl,hg⟩))
      go_ret;exact⟨rfl,yv.pureL HP.out hg⟩
    · rw[zh h12]
      obtain⟨er,her⟩:=zf (vD t key.size n);rw[her]at he h12 ⊢;have HS:=za (h.SetErr tt (a:=a) (c:=c) (by omega) (by omega) her he);have HH:=za h;have h12':(er==12)=false:=by simp;exact h12
      clear h hv hb hok hoff o1 o2 o3 her;go_enter func21,ntmps21
      go_wp2_with (go_at_call 36;refine HS.out.mono ?_;rintro e w1 ⟨rfl,hp⟩)
      go_ret;exact⟨rfl,yv.of_pure HH.out hp⟩
theorem QC{x:CE}(h:qV t x=true):t.births<16∧(x.dl=18446744073709551615∨vD t x.key.size x.val.length=0)∧x.key.size≤1000∧x.val.length≤100000∧x.dl≤18446744073709551615∧t.now≤18446744073709551615:=by
 unfold qV uP at h;simpa[and_assoc]using h
theorem zcZ(h:zG NoF w D p t){tt n c:Nat}{a:Option Addr}{x:CE}(hv:zr w (.slice a n c) 1 (zJ x.val))(hb:uW w (.slice a n c))(hn:x.val.length=n)(ht:tt≤18446744073709551615)(hok:qV t x=true) :
    Calls prog 25 #[lkP p,.int .u64 tt,.string x.key,.slice a n c,.int .u64 x.dl] w fun e w'=>e=.returned (.tuple #[])∧yv NoF w D p (Zx t tt x) w':=by
  obtain⟨o1,o2,o3,o4,o5,o6⟩:=QC hok;have hoff:=hb.off (fun k hk=>h.nob hk);unfold Zx uP;rw[hn]at o2 o4 ⊢;by_cases hd:x.dl=18446744073709551615
  · rw[zj hd]
    by_cases he:vD t x.key.size n=0
    · rw[zj he,za5]
      have HS:=za (h.Set ht he o1 hv hoff);clear h hv hb hok hoff he o1 o2;rw[hd];go_enter func25,ntmps25
      go_wp2_with (go_at_call 36;refine HS.out.mono ?_;rintro e w1 ⟨rfl,hg⟩)
      go_end0
      exact⟨rfl,hg⟩
    · rw[zh he]
      have HS:=za (h.SetErr tt (a:=a) (c:=c) (by omega) (by omega) rfl he);have HH:=za h;clear h hv hb hok hoff he o1 o2;rw[hd];go_enter func25,ntmps25
      go_wp2_with (go_at_call 36;refine HS.out.mono ?_;rintro e w1 ⟨rfl,hp⟩)
      go_end0
      exact⟨rfl,yv.of_pure HH.out hp⟩
  · rw[zh hd]
    have he:=o2.resolve_left hd;have hz:((x.dl:Int)==18446744073709551615)=false:=by simp;omega
    by_cases hl:x.dl≤tt
    · rw[zj hl]
      have HDu:=za (fun W=>JF x.dl tt W);rw[show ke x.dl tt=true by unfold ke;simp[hd,hl]]at HDu;have HH:=za h;clear h hv hb hok hoff he o1 o2;go_enter func25,ntmps25
      go_wp2_with (go_at_call 47;refine(HDu.out _).mono ?_;rintro e w1 ⟨rfl,rfl⟩)
      go_end0
      exact⟨rfl,yv.of_pure HH.out (Mod.refl _ _)⟩
    · rw[zh hl]
      have HDu:=za (fun W=>JF x.dl tt W);rw[show ke x.dl tt=false by unfold ke;simp[hd,hl]]at HDu;have HLe:=za (fun W=>zhB (d:=x.dl) (t:=tt) (by omega) (by omega) W);have HS:=za (h.SetTTL ht (ttl:=x.dl-tt) (by omega) (by omega) he o1 hv hoff o6);rw[zaE (by omega)];clear h hv hb hok hoff he o1 o2;go_enter func25,ntmps25
      go_wp2_with (first
        | (go_at_call 47;refine(HDu.out _).mono ?_;rintro e w1 ⟨rfl,rfl⟩)
        | (go_at_call 48;refine(HLe.out _).mono ?_;rintro e w1 ⟨rfl,rfl⟩)
        | (go_at_call 37;refine HS.out.mono ?_;rintro e w1 ⟨rfl,hg⟩))
      go_end0
      exact⟨rfl,hg⟩
end
end
section
open Go.RowKit Go.Shelf
theorem zeh : ∃ i,prog.info? 41=some i∧i.size=1:=by
 have h:(prog.info? 41).map (fun i=>i.size)=some 1:=by kernel_rfl
 cases hi:prog.info? 41 with
 | none=>rw[hi]at h;cases h
 | some i=>rw[hi]at h;exact⟨i,rfl,vZ h⟩
theorem QR(x y:Value)(w:World){i:Int}{z:Value}(h:(i=0∧z=x)∨(i=1∧z=y)):(Instr.index 42 (.agg #[x,y]) (.int .i64 i)).run prog w=.ok z w:=by
 obtain⟨j,hj,hs⟩:=zeh;have h1:=underlying42;have h2:=underlying41;rcases h with⟨rfl,rfl⟩ | ⟨rfl,rfl⟩<;>simp[Instr.index,run_underlying h1,asIntOf,part,isAgg,run_underlying h2,sizeOf,typeInfo,hj,hs,go_sem]
theorem zcU(x y:Value)(w:World):(Instr.index 42 (.agg #[x,y]) (.int .i64 0)).run prog w=.ok x w:=QR x y w (.inl ⟨rfl,rfl⟩)
theorem zci(x y:Value)(w:World):(Instr.index 42 (.agg #[x,y]) (.int .i64 1)).run prog w=.ok y w:=QR x y w (.inr ⟨rfl,rfl⟩)
attribute [local go_sem high] zcU zci
section
variable{w w':World}{q p0 p1 n c p:Nat}{ex dm:Bool}{a:Option Addr}{D:Nat→Prop}{t t0 t1:Bst}
theorem zc7{tt:Nat}(h:kN t0 t1 tt=true):xJ t0=0∧xJ t1=0∧tt≤18446744073709551615∧t0.now≤18446744073709551615∧t1.now≤18446744073709551615:=by
 unfold kN uP at h;simpa[and_assoc]using h
theorem Xe{tt:Nat}(h:kN t0 t1 tt=true):tmT t0 t1 tt≤18446744073709551615:=by
 obtain⟨_,_,h1,h2,h3⟩:=zc7 h;unfold tmT;omega
theorem yj.now0(h:yj w D q p0 p1 ex dm n t0 t1):Calls prog 33 #[lkP p0] w fun e w'=>e=.returned (.int .u64 (t0.now:Nat))∧w=w':=by
 obtain⟨D0,g,_⟩:=h.go0;exact g.now_
theorem yj.now1(h:yj w D q p0 p1 ex dm n t0 t1):Calls prog 33 #[lkP p1] w fun e w'=>e=.returned (.int .u64 (t1.now:Nat))∧w=w':=by
 obtain⟨D0,g,_⟩:=h.go1;exact g.now_
theorem yj.adv0(h:yj w D q p0 p1 ex dm n t0 t1){te:Nat}(ht:te≤18446744073709551615)(hr:xJ t0=0):Calls prog 34 #[lkP p0,.int .u64 te] w fun e w'=>e=.returned (.int .i64 0)∧zH w D q p0 p1 ex dm n (zv t0 te) t1 w':=by
 obtain⟨D0,g,_,hg⟩:=h.go0;refine(g.adv ht hr).mono ?_;rintro e w' ⟨rfl,k⟩;exact⟨rfl,hg k⟩
theorem yj.adv1(h:yj w D q p0 p1 ex dm n t0 t1){te:Nat}(ht:te≤18446744073709551615)(hr:xJ t1=0):Calls prog 34 #[lkP p1,.int .u64 te] w fun e w'=>e=.returned (.int .i64 0)∧zH w D q p0 p1 ex dm n t0 (zv t1 te) w':=by
 obtain⟨D0,g,_,hg⟩:=h.go1;refine(g.adv ht hr).mono ?_;rintro e w' ⟨rfl,k⟩;exact⟨rfl,hg k⟩
theorem Xr(h:yj w D q p0 p1 ex dm n t0 t1){tt:Nat}(ok:kN t0 t1 tt=true){te:Nat}(hte:tmT t0 t1 tt=te) :
    Calls prog 19 #[lkP q,.int .u64 tt] w fun e w'=>e=.returned (.int .u64 (te:Nat))∧zH w D q p0 p1 ex dm n (zv t0 te) (zv t1 te) w':=by
  obtain⟨k1,k2,k3,k4,k5⟩:=zc7 ok;obtain⟨ta,hta⟩:=zf (max t0.now tt);have hte2:max t1.now ta=te:=by rw[← hta];exact hte
  have hte64:te≤18446744073709551615:=by omega
  have HN0:=za h.now0;have HN1:=za h.now1;have HE0:=za (fun W=>K7 t0.now tt W);have HE1:=za (fun W=>K7 t1.now ta W);rw[hta]at HE0;rw[hte2]at HE1;have HA0:=za (h.adv0 hte64 k1);obtain⟨a,c,hb⟩:=h.box;have HK2:=za k2;have HT64:=za hte64;clear h ok hta hte hte2 k1 k2 k3 k4 k5 hte64;obtain⟨hb_0,hb_1,hb_2,hb_3,hb_4,hb_f,hb_l,H_hb⟩:=cr5 hb;clear hb;go_enter func19,ntmps19;go_upto_region 2 with fail
  go_loop [1,13] (fun v1 v13=>(v13=.int .i64 0∧v1=.int .u64 tt)∨(v13=.int .i64 1∧v1=.int .u64 ta)∨(v13=.int .i64 2∧v1=.int .u64 te)) (fun _ v13=>2-(intOf v13).toNat)
  case atStart=>exact .inl ⟨rfl,rfl⟩
  case round =>
    rcases hrel with⟨rfl,rfl⟩ | ⟨rfl,rfl⟩ | ⟨rfl,rfl⟩
    · go_wp2_with (first
        | (go_at_call 33;refine HN0.out.mono ?_;rintro e w' ⟨rfl,rfl⟩)
        | (go_at_call 32;refine(HE0.out _).mono ?_;rintro e w' ⟨rfl,rfl⟩))
      go_round
      case rel=>exact .inr (.inl ⟨rfl,rfl⟩)
      case measure=>simp[intOf]
    · go_wp2_with (first
        | (go_at_call 33;refine HN1.out.mono ?_;rintro e w' ⟨rfl,rfl⟩)
        | (go_at_call 32;refine(HE1.out _).mono ?_;rintro e w' ⟨rfl,rfl⟩))
      go_round
      case rel=>exact .inr (.inr ⟨rfl,rfl⟩)
      case measure=>simp[intOf]
    · go_upto_region 7 with fail
      go_loopw [25] (fun v25 wr=>(v25=.int .i64 0∧wr=w)∨(v25=.int .i64 1∧zH w D q p0 p1 ex dm n (zv t0 te) t1 wr)∨(v25=.int .i64 2∧zH w D q p0 p1 ex dm n (zv t0 te) (zv t1 te) wr)) (fun v25 _=>2-(intOf v25).toNat)
      case atStart=>exact .inl ⟨rfl,rfl⟩
      case round =>
        rcases hrel with⟨rfl,rfl⟩ | ⟨rfl,hg⟩ | ⟨rfl,hg⟩
        · go_wp2_with (go_at_call 34;refine HA0.out.mono ?_;rintro e w1 ⟨rfl,hg1⟩)
          go_roundw
          case rel=>exact .inr (.inl ⟨rfl,hg1⟩)
          case measure=>simp[intOf]
        · have HG:=za hg
          obtain⟨D1,g1,g2,g3⟩:=hg;have HA1:=za (g1.adv1 HT64.out HK2.out);have HM:=za g2;have HGR:=za g3;clear g1 g2 g3
          go_wp2_with (go_at_call 34;refine HA1.out.mono ?_;rintro e w1 ⟨rfl,hg1⟩)
          go_roundw
          case rel=>exact .inr (.inr ⟨rfl,zH.trans HM.out HGR.out hg1⟩)
          case measure=>simp[intOf]
        · have HG:=za hg
          clear hg;go_wp2;go_ret;exact⟨rfl,HG.out⟩
end
end
section
open Go.RowKit Go.Shelf
theorem UI(x:Ev × Value):(jU x).length=6:=rfl
theorem jV.one{w:World}{a:Option Addr}{c:Nat}{es:List (Ev × Value)}(h:jV w a c es) : ∀ v∈es.flatMap jU,v.oneCell'=true:=fun v hv=>by
 obtain⟨x,hm,hx⟩:=Zb.1 hv;obtain⟨va,vc,hs,_⟩:=jc (h.vals x hm);unfold jU at hx;rw[hs]at hx;simp at hx;rcases hx with rfl | rfl | rfl | rfl | rfl | rfl<;>rfl
theorem jV.slot{w:World}{a:Option Addr}{c:Nat}{es:List (Ev × Value)}(h:jV w a c es){j:Nat}{x:Ev × Value}(hj:es[j]? = some x) : ∃ g,a=some ⟨g,0,none⟩∧g<w.heap.size ∧ ∀ i u,(jU x)[i]? = some u→w.cell? ⟨g,j*6+i,none⟩=some u:=by
 have hlt:j<es.length:=(zE.1 hj).1;obtain⟨g,c,hs,_,hg,hc,hf,_⟩:=ko h.row (by omega);injection hs with hs
 refine⟨g,hs,hg,fun i u hu=>hc _ _ ?_⟩;have hi:i<6:=by rw[← UI x];exact(zE.1 hu).1
 rw[uO jU 6 UI i hi,hj];exact hu
theorem jV.mod{w w':World}{a:Option Addr}{c:Nat}{es:List (Ev × Value)}{S:Nat→Prop}(h:jV w a c es)(hm:Mod S w w')(hr : ∀ g,(Value.slice a es.length c).ownBlock=some g → ¬ S g)(hS : ∀ k,S k→vP w k):jV w' a c es :=
 ⟨zz h.row hm hr,fun x hx=>zz (h.vals x hx) hm (fun g hg hs=>by obtain⟨cur,e⟩:=yd (h.vals x hx) hg;exact hS g hs cur _ e)⟩
section
variable{w w':World}{q p0 p1 n c p:Nat}{ex dm:Bool}{a:Option Addr}{D:Nat→Prop}{t t0 t1:Bst}
theorem Q8{tt:Nat} : ∀ {l:List Ev} {t:Bst},kg dm tt t l=true → ∀ {j:Nat} {x:Ev},l[j]? = some x→x.kind=2→dm=true→qV ((l.take j).foldl (vE dm tt) t) x.e=true
 | [],_,_,_,_,hj,_,_=>by cases hj
 | y::l,t,h,0,x,hj,hk,hd=>by
  obtain rfl:=vZ hj;unfold kg at h;rw[zQ (show y.kind=2∧dm=true from⟨hk,hd⟩)]at h;simp at h;exact h.1
 | y::l,t,h,j+1,x,hj,hk,hd=>by
  unfold kg at h;rw[Bool.and_eq_true]at h;exact Q8 h.2 hj hk hd
theorem zam{tt:Nat}{l:List Ev}{j:Nat}{x:Ev}(hj:l[j]? = some x):(l.take (j+1)).foldl (vE dm tt) t=vE dm tt ((l.take j).foldl (vE dm tt) t) x:=by
 have hlt:j<l.length:=(zE.1 hj).1;rw[uH,hj,Yt]
 rfl
theorem Az9ea {P:Prop}(h:P:=by
 go_wp2;go_roundw
 case rel=>exact⟨j+1,D1',by first | rfl | go_num,hlt,HM9.out,HMO.out,HgR.out⟩
 case measure=>simp[intOf];omega):P:=h
theorem Yu(h:yj w D q p0 p1 ex dm n t0 t1){tt:Nat}(ht:tt≤18446744073709551615)(ok:kg dm tt t1 t0.evs=true)(hn:n+uJ dm tt t0 t1≤1000000)(u:FrameMode) :
  CallsD prog 20 #[lkP q,.int .u64 tt] u w fun e u' w'=>u'=u∧(e=.returned (.tuple #[])∧zH w D q p0 p1 ex dm (n+uJ dm tt t0 t1) (vo dm tt t0 t1).1 (vo dm tt t0 t1).2 w'):=by
 obtain⟨a,c,cs,D0,D1,hM,hD⟩:=h;have HDr:=za hM.a0.drain;obtain⟨i0,hi,iz0,iz1,iz2⟩:=xB zcW;have hb:=hM.box;have HOK:=za ok;have HNN:=za hn;have HT:=za ht;have HM:=za hM;have HD:=za hD;unfold uJ at HNN;clear ok hn ht hM hD;obtain⟨hb_0,hb_1,hb_2,hb_3,hb_4,hb_f,hb_l,H_hb⟩:=cr5 hb;clear hb
 go_enter_d func20,ntmps20
 go_upto_region 1 with(go_at_call 35;refine HDr.out.mono ?_;rintro e w1 ⟨al,cl,es,rfl,hes,hrow,hfr,hg⟩)
 clear hb_0 hb_1 hb_2 hb_3 hb_4 hb_f hb_l;clear H_hb HDr;have hlen:es.length=t0.evs.length:=by rw[← hes,yH]
 obtain⟨D0',hM1,hm1,hg1⟩:=HM.out.go0 hg;obtain⟨m,hm⟩:=zf t0.evs.length;rw[hm]at hlen ⊢;have hmb:m≤1000000:=by have:=HNN.out;rw[hm]at this;omega
 -- the row that was drained is not the second cache's
 have hr1 : ∀ g,(Value.slice al es.length cl).ownBlock=some g → ¬ D1 g:=fun g hg e=>by have h1:=HM.out.a1.lt e;have h2:=hfr g (by rw[hm,← hlen];exact hg);omega
 have HROW:=za hrow;have HR1:=za hr1;have HES:=za hes;have HM1:=za hM1;have HMM1:=za hm1;have HG1:=za hg1;have HLEN:=za hlen;have HMM:=za hm;clear hrow hr1 hes hM1 hm1 hg1 hg hfr hlen hm;go_upto_region 2 with fail
 go_loopw [15] (fun v15 wr => ∃(j:Nat) (D1':Nat→Prop),v15=.int .i64 (j:Nat)∧j≤m∧TiM wr q p0 p1 ex dm a n c cs D0' D1' (ju t0) ((t0.evs.take j).foldl (vE dm tt) t1)∧Mod D1 w1 wr∧zZ D1 D1' w1) (fun v15 _=>m-(intOf v15).toNat)
 case atStart=>exact⟨0,D1,rfl,yq _,HM1.out,Mod.refl _ _,fun _ e => .inl e⟩
 case round =>
  obtain⟨j,D1',rfl,hj,hMr,hmr,hgr⟩:=hrel;have HMr:=za hMr;have HmR:=za hmr;have HgR:=za hgr;clear hMr hmr hgr;by_cases hlt:j<m
  ·have hlt':(j:Int)<(m:Int):=by omega
   have j0:(0:Int)≤(j:Int):=by omega
   have wj:IntKind.i64.wrap ((j:Int)+1)=(j:Int)+1:=zt _ (by omega);obtain⟨⟨x,v⟩,hx⟩ : ∃ y,es[j]? = some y:=⟨_,zO (by rw[HLEN.out];exact hlt)⟩;have hxe:t0.evs[j]? = some x:=by rw[← HES.out,yz,hx];rfl
   have hrw:=HROW.out.mod HmR.out HR1.out (fun k hk=>(HM1.out.a1.nob hk));obtain⟨g,hal,hgl,hc⟩:=hrw.slot hx;have hval:=hrw.vals (x,v) (ym hx);obtain⟨va,vc,hv,_⟩:=jc hval;dsimp only at hv hval;rw[ur]at hv;subst hv hal;have s0:wr.cell? ⟨g,j*6,none⟩=_:=hc 0 _ rfl;have s1:=hc 1 _ rfl;have s2:=hc 2 _ rfl;have s3:=hc 3 _ rfl;have s4:=hc 4 _ rfl;have s5:=hc 5 _ rfl;dsimp only at s0 s1 s2 s3 s4 s5;have HV:=za hval;have HX:=za hxe;have HXX:=za hx;clear hval hxe hx hc hrw;have hal6:zb wr (wr.alloc (.cells #[.int .i64 x.kind,.string x.e.key,.slice va x.e.val.length vc,.int .u64 x.e.birth,.int .u64 x.e.dl,.int .u64 x.tm] 78)):=(Mod.refl _ wr).alloc _;have hz6:=zk (w:=wr) (o := .cells #[.int .i64 x.kind,.string x.e.key,.slice va x.e.val.length vc,.int .u64 x.e.birth,.int .u64 x.e.dl,.int .u64 x.tm] 78 (0,0)) rfl;have HP6:=za hal6;go_upto_region 4 with fail
   generalize wr.alloc (.cells #[.int .i64 x.kind,.string x.e.key,.slice va x.e.val.length vc,.int .u64 x.e.birth,.int .u64 x.e.dl,.int .u64 x.tm] 78)=W4 at *;obtain⟨r,hr⟩:=zf wr.heap.size;rw[hr]at hz6 ⊢;have HRs:=za hr;have hM4:=HMr.out.pure hal6;have HM4:=za hM4;have HZ6:=za hz6;have hb4:=hM4.box;clear hal6 hr s0 s1 s2 s3 s4 s5 hgl hM4;obtain⟨hb4_0,hb4_1,hb4_2,hb4_3,hb4_4,hb4_f,hb4_l,H_hb4⟩:=cr5 hb4;clear hb4;obtain⟨hz6_0,hz6_1,hz6_2,hz6_3,hz6_4,hz6_5,hz6_f,hz6_l,H_hz6⟩:=cr6 hz6;clear hz6;by_cases hc:x.kind=2∧dm=true
   ·obtain⟨hc1,hc2⟩:=hc;have hk2:(x.kind:Int)=2:=by omega
    have hkd:((x.kind:Int)==2)=true:=by rw[hk2];rfl
    have hnr : ¬ D1' r:=fun e=>by have:=HMr.out.a1.lt e;have:=HRs.out;omega
    have HNR:=za hnr;have hok:=Q8 HOK.out HX.out hc1 hc2;have hval4:zW W4.drew (.slice va x.e.val.length vc) (zJ x.e.val):=zz HV.out HP6.out.drew (fun _ _ h=>h);have HKp:=za (zcZ (HM4.out.pure (Mod.refl (fun _=>False) W4).drew).a1 (zW.read hval4 (uQ _)) (uW.of_bytes hval4) rfl HT.out hok);have hst:vE dm tt ((t0.evs.take j).foldl (vE dm tt) t1) x=Zx ((t0.evs.take j).foldl (vE dm tt) t1) tt x.e:=by unfold vE;rw[zj ⟨hc1,hc2⟩]
    have HST:=za hst;have HDM:=za hc2;clear hst hok hval4 hc1 hnr;rw[hc2]at hb4_1;clear hc2;go_upto_region 5 with fail
    refine rHd (S:=fun Y=>Y.cell? ⟨q,3,none⟩=some (lkP p1)∧Y.cell? ⟨r,1,none⟩=some (.string x.e.key)∧Y.cell? ⟨r,2,none⟩=some (.slice va x.e.val.length vc)∧Y.cell? ⟨r,4,none⟩=some (.int .u64 x.e.dl)) ⟨hb4_3,hz6_1,hz6_2,hz6_4⟩ (fun h_ => ?_);clear hb4_0 hb4_1 hb4_2 hb4_3 hb4_4 hb4_f hb4_l;clear hz6_0 hz6_1 hz6_2 hz6_3 hz6_4 hz6_5 hz6_f hz6_l;refine hTk 0 ?_;refine hTk 1 ?_;refine hTk 2 ?_;refine hTk 3 ?_;refine hLd 4 ?_;refine hTk 5 ?_;refine hTk 6 ?_;refine hLd 7 ?_;refine hTk 8 ?_;refine hLd 9 ?_;refine hTk 10 ?_;refine hLd 11 ?_
    (refine hSt 12 (fun K hK => ?_);go_simp;refine HKp.out.mono ?_;rintro e w5 ⟨rfl,hg5⟩;obtain⟨D5,hM5,hm5,hgr5⟩:=(HM4.out.pure (Mod.refl (fun _=>False) W4).drew).go1 hg5;have z5:=hm5.heap HNR.out (HZ6.out);refine hK.out _ _ ?_ (fun h_ => ?_);(· exact⟨zi w5 q 3 _ _ (0,0) hM5.box,zi w5 r 1 _ _ (0,0) z5,zi w5 r 2 _ _ (0,0) z5,zi w5 r 4 _ _ (0,0) z5⟩);clear hK K;refine clA ?_)
    refine hDn ?_;have hmod:Mod D1 w1 w5:=Mod.trans' (HmR.out.trans (Mod.of_pure HP6.out.drew)) hm5 (fun _ _ e=>e) (fun i hi e=>(HgR.out i e).elim (fun e=>e) (fun e=>by omega));have hgrw:zZ D1 D5 w1:=fun k hk=>by
     rcases hgr5 k hk with e | e
     ·exact HgR.out k e
     ·exact .inr (zF (HmR.out.trans (Mod.of_pure HP6.out.drew)).size e)
    have hM9:TiM w5 q p0 p1 ex dm a n c cs D0' D5 (ju t0) ((t0.evs.take (j+1)).foldl (vE dm tt) t1):=by rw[zam HX.out,HST.out];exact hM5
    have HM9:=za hM9;have HMO:=za hmod;have HGW:=za hgrw;clear h_ hM5 hm5 hgr5 hg5 z5 hmod hgrw hM9;go_wp2;go_roundw
    case rel=>exact⟨j+1,D5,by first | rfl | go_num,hlt,HM9.out,HMO.out,HGW.out⟩
    case measure=>simp[intOf];omega
   ·have hst:vE dm tt ((t0.evs.take j).foldl (vE dm tt) t1) x=(t0.evs.take j).foldl (vE dm tt) t1:=by unfold vE;rw[zh hc]
    have hM9:TiM W4 q p0 p1 ex dm a n c cs D0' D1' (ju t0) ((t0.evs.take (j+1)).foldl (vE dm tt) t1):=by rw[zam HX.out,hst];exact HM4.out
    have HM9:=za hM9;have HMO:=za (HmR.out.trans (Mod.of_pure HP6.out));clear hM9 hst;by_cases hk:x.kind=2
    ·have hdm:dm=false:=by cases hd:dm with
      | false=>rfl
      | true=>exact absurd ⟨hk,hd⟩ hc
     have hkd:((x.kind:Int)==2)=true:=by simp;omega
     rw[hdm]at hb4_1;clear hc hk hdm;exact Az9ea
    ·have hkd:((x.kind:Int)==2)=false:=by simp;omega
     clear hc hk;exact Az9ea
  ·obtain rfl:j=m:=by omega
   have hge : ¬ (j:Int)<(j:Int):=by omega
   have hMe:=HMr.out;rw[jX (by rw[HMM.out];exact zN _)]at hMe;obtain⟨tk,htk⟩:=zf (t0.evs.foldl (vE dm tt) t1);rw[htk]at hMe;have hrw:=HROW.out.mod HmR.out HR1.out (fun k hk=>(HM1.out.a1.nob hk));have hb:=hMe.box;have g3:=zi wr q 3 _ _ (0,0) hb;have g4:=zi wr q 4 _ _ (0,0) hb;have HMe:=za hMe;have HTK:=za htk;have HRW:=za hrw;clear hMe htk hrw hb HMr;go_upto_region 7 with fail
   refine rHd (S:=fun Y=>Y.cell? ⟨q,3,none⟩=some (lkP p1)) g3 (fun h_ => ?_);have g4d:wr.drew.cell? ⟨q,4,none⟩=some (.slice a n c):=g4;refine hTk 0 ?_;refine hTk 1 ?_;refine hTk 2 ?_;refine hTk 3 ?_;refine hTk 5 ?_;refine hTk 7 ?_;refine hTk 8 ?_;refine hTk 9 ?_;refine hTk 10 ?_;refine hLd 11 ?_
   (refine hSt 4 (fun K hK => ?_);go_simp;refine hK.out _ _ ?_ (fun h_ => ?_);(· exact g3);clear hK K;refine clA ?_)
   clear g3 g4 g4d;refine uY (rs:=[6]) (by kernel_rfl) (by simp) ?_;refine ue rfl (fun K hK => ?_) kw;have hjn:n+j≤1000000:=by have:=HNN.out;rw[HMM.out]at this;omega
   have hrwd:=HRW.out.mod (Mod.refl (fun _=>False) wr).drew (fun _ _ h=>h) (fun _ h=>h.elim);have hsrc:=zr.of_owns hrwd.row hrwd.one;rw[HLEN.out]at hsrc;refine YI _ (by rfl) _ _ 43 (by rfl) 78 i0 _ 6 72 underlying43 hi iz0 iz1 iz2 rfl (by decide) (.slice a n c) n _ (by rfl) (zz HMe.out.row (Mod.refl (fun _=>False) wr).drew (fun _ _ h=>h)) (.slice al j cl) _ j (by rfl) hsrc (by rw[Yo jU 6 UI,HLEN.out]) (by unfold maxLen;omega) (by omega) ?_;intro a8 c8 w7 hr8 hg8 hb8;have p7:Mod (fun k=>(Value.slice a n c).ownBlock=some k) wr w7:=Mod.trans' (Mod.refl (fun _=>False) wr).drew (Mod.of_grown (S:=fun k'=>(Value.slice a n c).ownBlock=some k') hg8 (fun k e _=>e)) (fun _ _ e=>e.elim) (fun _ _ e=>e);have hS0 : ∀ k,(Value.slice a n c).ownBlock=some k→vP wr k:=fun k e=>by obtain⟨cur,e2⟩:=yd HMe.out.row e;exact uf e2 (by decide)
   have hq7:=p7.heap (fun e=>by obtain⟨cur,e2⟩:=yd HMe.out.row e;rw[HMe.out.box]at e2;injection e2 with e2;injection e2 with _ e2;exact absurd e2 (by decide)) HMe.out.box;have a07:=HMe.out.a0.beside p7 (fun k hk e=>(HMe.out.r0 k e).1 hk) (fun k _ e => .inr (hS0 k e)) (fun e=>HMe.out.r1 0 e rfl);have a17:=HMe.out.a1.beside p7 (fun k hk e=>(HMe.out.r0 k e).2 hk) (fun k _ e => .inr (hS0 k e)) (fun e=>HMe.out.r1 0 e rfl);have hpos:0<wr.heap.size:=jm (yq _) (zm HMe.out.box);have off8 : ∀ g,(Value.slice a8 (n+j) c8).ownBlock=some g → ¬ D0' g ∧ ¬ D1' g∧g≠0∧(((Value.slice a n c).ownBlock=some g)∨wr.heap.size≤g):=fun g hg=>by
    rcases hb8 with e | e
    ·rw[e]at hg;exact⟨(HMe.out.r0 g hg).1,(HMe.out.r0 g hg).2,HMe.out.r1 g hg,.inl hg⟩
    ·rw[e]at hg;have hg2:wr.drew.heap.size=g:=by injection hg
     have hg3:wr.heap.size=g:=hg2;exact⟨fun e=>by have:=HMe.out.a0.lt e;omega,fun e=>by have:=HMe.out.a1.lt e;omega,by omega,.inr (by omega)⟩
   have HDr2:=za a17.drain;have P7:=za p7;have HQ7:=za hq7;have A07:=za a07;have A17:=za a17;have OFF8:=za off8;have HR8:=za hr8;have HPOS:=za hpos;clear p7 hS0 a07 a17 off8 hr8 hg8 hb8 hsrc hrwd hpos;refine hK.out _ _ (zi w7 q 3 _ _ (0,0) hq7) (fun h_ => ?_);clear hK K hq7;refine clA ?_
   (refine hSt 12 (fun K hK => ?_);go_simp;refine HDr2.out.mono ?_;rintro e w8 ⟨bl,bc,es2,rfl,hes2,hrow2,hfr2,D2,b1,b2,b3⟩;have hq8:=b2.heap HMe.out.q1 HQ7.out;refine hK.out _ _ ?_ (fun h_ => ?_);(· exact zi w8 q 3 _ _ (0,0) hq8);clear hK K;refine clA ?_)
   have hlen2:es2.length=tk.evs.length:=by rw[← hes2,yH]
   obtain⟨l,hl⟩:=zf tk.evs.length;rw[hl]at hlen2 ⊢;have hjl:n+j+l≤1000000:=by have:=HNN.out;rw[HMM.out,HTK.out,hl]at this;omega
   have hr88:=zz HR8.out b2 (fun g hg=>(OFF8.out g hg).2.1);have hsrc2:=zr.of_owns hrow2.row hrow2.one;rw[hlen2]at hsrc2;refine uY (rs:=[13]) (by kernel_rfl) (by simp) ?_;refine ue rfl (fun K hK => ?_) kw;refine YI _ (by rfl) _ _ 43 (by rfl) 78 i0 _ 6 72 underlying43 hi iz0 iz1 iz2 rfl (by decide) (.slice a8 (n+j) c8) (n+j) _ (by rfl) hr88 (.slice bl l bc) _ l (by rfl) hsrc2 (by rw[Yo jU 6 UI,hlen2]) (by unfold maxLen;omega) (by omega) ?_;intro a9 c9 w9 hr9 hg9 hb9;have p9:Mod (fun k=>(Value.slice a8 (n+j) c8).ownBlock=some k) w8 w9:=Mod.of_grown (S:=fun k'=>(Value.slice a8 (n+j) c8).ownBlock=some k') hg9 (fun k e _=>e);have hS8 : ∀ k,(Value.slice a8 (n+j) c8).ownBlock=some k→vP w8 k:=fun k e=>by obtain⟨cur,e2⟩:=yd hr88 e;exact uf e2 (by decide)
   have hq9:=p9.heap (fun e=>by obtain⟨cur,e2⟩:=yd hr88 e;rw[hq8]at e2;injection e2 with e2;injection e2 with _ e2;exact absurd e2 (by decide)) hq8;have a08:=A07.out.other A17.out b2 (fun k h0 h1=>HMe.out.dis k h0 h1);have hn2 : ∀ k,k<w7.heap.size → ¬ D1' k → ¬ D2 k:=fun k hk hd e=>(b3 k e).elim hd (fun e=>by omega)
   have a09:=a08.beside p9 (fun k hk e=>(OFF8.out k e).1 hk) (fun k _ e => .inr (hS8 k e)) (fun e=>(OFF8.out 0 e).2.2.1 rfl);have a19:=b1.beside p9 (fun k hk e=>hn2 k (xV HR8.out e) (OFF8.out k e).2.1 hk) (fun k _ e => .inr (hS8 k e)) (fun e=>(OFF8.out 0 e).2.2.1 rfl);have off9 : ∀ g,(Value.slice a9 (n+j+l) c9).ownBlock=some g → ¬ D0' g ∧ ¬ D2 g∧g≠0∧(((Value.slice a n c).ownBlock=some g)∨wr.heap.size≤g):=fun g hg=>by
    rcases hb9 with e | e
    ·rw[e]at hg;obtain⟨k1,k2,k3,k4⟩:=OFF8.out g hg;exact⟨k1,hn2 g (xV HR8.out hg) k2,k3,k4⟩
    ·rw[e]at hg;have hg2:w8.heap.size=g:=by injection hg
     have s1:=P7.out.size;have s2:=b2.size;have s3:=HPOS.out;exact⟨fun e=>by have:=a08.lt e;omega,fun e=>by have:=b1.lt e;omega,by omega,.inr (by omega)⟩
   refine hK.out _ _ (zi w9 q 3 _ _ (0,0) hq9) (fun h_ => ?_);clear hK K;refine clA ?_;have hqf:=zX w9 q 4 _ _ (.slice a9 (n+j+l) c9) hq9;have mf:Mod (fun k=>k=q) w9 (w9.setCell ⟨q,4,none⟩ (.slice a9 (n+j+l) c9)):=(Mod.refl (fun k=>k=q) w9).setCell (p:=⟨q,4,none⟩) (fun _=>rfl) _;have hne9 : ∀ g,(Value.slice a9 (n+j+l) c9).ownBlock=some g → ¬ g=q:=fun g hg e=>by subst e;obtain⟨cur,e2⟩:=yd hr9 hg;rw[hq9]at e2;injection e2 with e2;injection e2 with _ e2;exact absurd e2 (by decide)
   have r9:(w9.setCell ⟨q,4,none⟩ (.slice a9 (n+j+l) c9)).ownsRow 0 78 6 (.slice a9 (n+j+l) c9) (n+j+l) _:=zz hr9 mf hne9;have nq0 : ¬ D0' q:=HMe.out.q0;have nq2 : ¬ D2 q:=hn2 q (zm HQ7.out) HMe.out.q1;have a0f:=a09.beside mf (fun k hk e=>by subst e;exact nq0 hk) (fun k _ e => .inr (by subst e;exact uf hq9 (by decide))) (fun e=>HMe.out.z e.symm);have a1f:=a19.beside mf (fun k hk e=>by subst e;exact nq2 hk) (fun k _ e => .inr (by subst e;exact uf hq9 (by decide))) (fun e=>HMe.out.z e.symm);have dis2 : ∀ k,D0' k → ¬ D2 k:=fun k h0 h2=>(b3 k h2).elim (HMe.out.dis k h0) (fun e=>by have:=A07.out.lt h0;omega)
   have HQ9:=za hq9;refine hTk 14 ?_;refine hTk 15 ?_;obtain⟨hq9_0,hq9_1,hq9_2,hq9_3,hq9_4,hq9_f,hq9_l,H_hq9⟩:=cr5 hq9;clear hq9
   (refine hSt 16 (fun K hK => ?_);go_simp;refine hK.out _ _ ?_ (fun h_ => ?_);(· exact zi _ q 3 _ _ (0,0) hqf);clear hK K;refine clA ?_)
   refine hDn ?_;generalize w9.setCell ⟨q,4,none⟩ (.slice a9 (n+j+l) c9)=wf at *;have hcnt:uJ dm tt t0 t1=j+l:=by unfold uJ;rw[HMM.out,HTK.out,hl]
   have hfin:(vo dm tt t0 t1).2=ju tk:=by unfold vo;rw[HTK.out]
   have HFin:TiM wf q p0 p1 ex dm a9 (n+j+l) c9 _ D0' D2 (ju t0) (ju tk):=⟨by simpa using hqf,r9,a0f,a1f,dis2,nq0,nq2,fun g hg=>⟨(off9 g hg).1,(off9 g hg).2.1⟩,fun g hg=>(off9 g hg).2.2.1,HMe.out.z⟩;have z1:w.heap.size≤w1.heap.size:=HMM1.out.size;have z2:w1.heap.size≤wr.heap.size:=HmR.out.size;have z7:wr.heap.size≤w7.heap.size:=P7.out.size;have z8:w7.heap.size≤w8.heap.size:=b2.size;have d0 : ∀ k,D0 k→D k:=fun k hk=>(HD.out k).2 (.inr (.inl hk))
   have d1 : ∀ k,D1 k→D k:=fun k hk=>(HD.out k).2 (.inr (.inr (.inl hk)))
   have d1' : ∀ k,k<w.heap.size→D1' k→D k:=fun k h1 hk=>(HgR.out k hk).elim (d1 k) (fun e=>by omega)
   have m1:Mod D w w1:=HMM1.out.mono (fun k _ hk=>d0 k hk);have m2:Mod D w wr:=Mod.trans' m1 HmR.out (fun _ _ e=>e) (fun k _ hk=>d1 k hk);have m3:Mod D w w7:=Mod.trans' m2 P7.out (fun _ _ e=>e) (fun k _ hk=>(HD.out k).2 (.inr (.inr (.inr hk))));have m4:Mod D w w8:=Mod.trans' m3 b2 (fun _ _ e=>e) d1';have m5:Mod D w w9:=Mod.trans' m4 p9 (fun _ _ e=>e) (fun k h1 hk=>(OFF8.out k hk).2.2.2.elim (fun e=>(HD.out k).2 (.inr (.inr (.inr e)))) (fun e=>by omega));have m6:Mod D w wf:=Mod.trans' m5 mf (fun _ _ e=>e) (fun k _ hk=>(HD.out k).2 (.inl hk));have hgo:zH w D q p0 p1 ex dm (n+j+l) (ju t0) (ju tk) wf:=by
    refine⟨tiD q a9 (n+j+l) c9 D0' D2,⟨a9,c9,_,D0',D2,HFin,fun _=>xZ⟩,m6,fun k hk => ?_⟩;rcases hk with e | e | e | e
    ·exact .inl ((HD.out k).2 (.inl e))
    ·exact(HG1.out k e).imp (d0 k) (fun e=>e)
    ·rcases b3 k e with e | e
     ·exact(HgR.out k e).imp (d1 k) (fun e=>by omega)
     ·exact .inr (by omega)
    ·rcases(off9 k e).2.2.2 with e | e
     ·exact .inl ((HD.out k).2 (.inr (.inr (.inr e))))
     ·exact .inr (by omega)
   have HGO:=za hgo;clear h_;go_wp2
   go_end0
   refine⟨rfl,?_⟩
   try rw[hcnt]
   try rw[hfin]
   rw[← Nat.add_assoc];exact HGO.out
end
abbrev KX:Value := .agg #[.string ⟨#[]⟩,.slice none 0 0,.int .u64 0,.int .u64 0]
end
end Go.Proofs.YtifbnponicgplaaGreatDoor
