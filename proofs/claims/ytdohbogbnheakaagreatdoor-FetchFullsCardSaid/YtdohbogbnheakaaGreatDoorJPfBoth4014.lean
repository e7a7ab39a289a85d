/- Lemmas and contracts of functions. No condition. -/
import Derived.Lib.LaidU8
import Derived.LaidHandle
import Derived.LaidMore
import Derived.Lay
import Derived.Stop.Joined
import Derived.Test.YtdohbogbnheakaaGreatDoorJPfBoth408
import Derived.Test.YtdohbogbnheakaaGreatDoorJPfBoth4010
import Derived.Sort.Grow
import Derived.Test.YtdohbogbnheakaaGreatDoorJPfBoth4013
import Derived.Shelf.SlSortCmp.NoneTotal
import Derived.Deep.Slices
namespace Go.Proofs.YtdohbogbnheakaaGreatDoor
open _root_.Go.Proofs.Tryz
set_option maxRecDepth 100000
set_option maxHeartbeats 20000000
set_option linter.all false
section
open Go.ChangeShapes Go.WideShapes Go.ChangeAt Go.RowKit
abbrev zfZ:List (String × DataW Unit):=Rows.leaseNoneRow.laid
theorem zgO:(Rows.laid_math_bits_deBruijn64tab:DataW Unit)=Lib.tabData .u8 (Lib.deBruijn64tab.map fun n:Nat=>(n:Int)):=by kernel_rfl
theorem ziK{W:World}(h:laidMetH prog zfZ W):xA W:=by
 rw[MakeChecks.laidMetH_plain _ _ _ (by kernel_rfl)]at h;obtain⟨ps,⟨g,t,cs,fuel,p,q,hg,ht,hv,hd,_,_⟩,_,_⟩:=h;have e0:some g=some 0:=hg.symm.trans (by kernel_rfl);injection e0 with e0
 subst e0;have hd':DataW.trod (fun _=>()) prog W 0 (fun _=>true) false fuel t cs.toList=some (Lib.tabData .u8 (Lib.deBruijn64tab.map fun n:Nat=>(n:Int)),p):=by rw[← zgO];exact hd
 have hc:=Lib.cells_of_tab (n:=64) (e:=5) (by rw[← kL ht];kernel_rfl) underlying5 (by kernel_rfl) (by rw[← kL ht];kernel_rfl) hd';intro j hj;have hvc:=World.var?_cell hg hv j;rw[hvc];have:cs[j]? = cs.toList[j]?:=by simp
 rw[this,hc];simp only[List.getElem?_map,List.map_map];rw[zL hj];simp[List.getD,List.getElem?_eq_getElem hj]
end
section
open Go.RowKit Go.Shelf
variable{Fo:Nat→Prop}
section
variable{w w':World}{D S:Nat→Prop}{d seed:Nat}{same:Bool}{L:List (Option Ent)}{Gs:List Grp}
theorem JZ(h:yb Fo w D d seed same L Gs):Calls prog 107 #[xt d] w fun e w'=>e=.returned (.int .i64 (zZ L))∧w=w':=by
  obtain⟨q,p,sv,Dl,h1,h2,h3⟩:=h;have HZ:=za (Zv h1);have HC:=za (zf7 h1.log);have hb:=h1.box;clear h1 h2 h3;obtain⟨hb_0,hb_1,hb_2,hb_3,hb_f,hb_l,H_hb⟩:=cr4 hb;clear hb;go_enter func107,ntmps107
  go_wp2_with (first
    | (go_at_call 112;refine HZ.out.mono ?_;rintro e w' ⟨rfl,rfl⟩)
    | (go_at_call 173;refine HC.out.mono ?_;rintro e w' ⟨rfl,rfl⟩))
  go_ret;exact⟨rfl,rfl⟩
def KE(w:World)(L:List (Option Ent))(Gs:List Grp)(e:Ending)(w':World):Prop :=
 e=.returned (.tuple #[.int .i64 L.length,.int .i64 Gs.length,.int .i64 (yj Gs)])∧zc w w'
theorem zcV(h:yb Fo w D d seed same L Gs):Calls prog 136 #[xt d] w (KE w L Gs):=by
  obtain⟨q,p,sv,Dl,h1,h2,h3⟩:=h;have HZ:=za (Zv h1);have HL:=za (fun(W:World) (hW:zc w W)=>zct (h1.log.pure hW));have HX:=za (fun(W:World) (hW:zc w W)=>Jl (h1.ix.pure hW));have HT:=za (fun(W:World) (hW:zc w W)=>JQ (h1.ix.pure hW));have hb:=h1.box;clear h1 h2 h3;obtain⟨hb_0,hb_1,hb_2,hb_3,hb_f,hb_l,H_hb⟩:=cr4 hb;clear hb;go_enter func136,ntmps136;go_upto_region 3 with(go_at_call 112;refine HZ.out.mono ?_;rintro e w' ⟨rfl,rfl⟩)
  go_region_held3 (fun w'=>w'.cell? ⟨d,0,none⟩=some (.pointer (some ⟨q,0,none⟩))∧w'.cell? ⟨d,3,none⟩=some (.pointer (some ⟨p,0,none⟩)))
    (first | exact⟨hb_0,hb_3⟩)
    (first
      | (go_at_call 205;(with_reducible refine zq (HL.out _ (by first | exact Mod.refl _ _ | exact Mod.drew (Mod.refl _ _))) ?_);rintro e w1 ⟨rfl,rfl⟩)
      | (go_at_call 206;(with_reducible refine zq (HX.out _ (by first | exact Mod.refl _ _ | exact Mod.drew (Mod.refl _ _))) ?_);rintro e w1 ⟨rfl,rfl⟩)
      | (go_at_call 207;(with_reducible refine zq (HT.out _ (by first | exact Mod.refl _ _ | exact Mod.drew (Mod.refl _ _))) ?_);rintro e w1 ⟨rfl,rfl⟩))
  all_goals
    try go_wp2
    refine zN (v := .tuple #[.int .i64 L.length,.int .i64 Gs.length,.int .i64 (yj Gs)]) (by simp[results,results136,go_sem]) rfl ⟨rfl,?_⟩
    first | exact Mod.refl _ _ | exact Mod.drew (Mod.refl _ _)
def DG(Fo:Nat→Prop)(w W:World)(d seed:Nat)(same:Bool)(L:List (Option Ent))(Gs:List Grp):Prop := ∃ D,yb Fo W D d seed same L Gs∧zc w W ∧ ∀ k,D k→w.heap.size≤k
end
section
variable{w W W':World}{d seed:Nat}{same:Bool}{L:List (Option Ent)}{Gs:List Grp}
theorem DG.pu(h:DG Fo w W d seed same L Gs):zc w W:=by obtain⟨D,h1,h2,h3⟩:=h;exact h2
theorem DG.pure(h:DG Fo w W d seed same L Gs)(hp:zc W W'):DG Fo w W' d seed same L Gs:=by
 obtain⟨D,h1,h2,h3⟩:=h;exact⟨D,h1.pure hp,h2.trans hp,h3⟩
theorem DG.step{D D':Nat→Prop}{L2:List (Option Ent)}{G2:List Grp}(h2:zc w W)(h3 : ∀ k,D k→w.heap.size≤k)(g1:yb Fo W' D' d seed same L2 G2)(g2:Mod D W W')(g3:uc D D' W):DG Fo w W' d seed same L2 G2 :=
 ⟨D',g1,h2.then g2 (fun i hi e=>by have:=h3 i e;omega),fun k hk=>by
  rcases g3 k hk with e | e
  ·exact h3 k e
  ·exact zH h2.size e⟩
end
end
section
open Go.RowKit Go.Shelf
variable{Fo:Nat→Prop}
def zjs(w:World)(x:Ent)(e:Ending)(w':World):Prop :=
 ∃ a n c,e=.returned (.tuple #[.agg #[.string x.key,.slice a n c,.int .u64 x.dl,.int .u64 x.birth],.int .i64 0])∧yq w' (.slice a n c) (zQ x.val)∧vf w (.slice a n c)∧zc w w'
theorem zcw{w:World}{D:Nat→Prop}{d seed:Nat}{same:Bool}{L:List (Option Ent)}{Gs:List Grp}(h:yb Fo w D d seed same L Gs){s:Nat}{x:Ent}(hx:L[s]? = some (some x)):Calls prog 76 #[xt d,.int .u32 s] w (zjs w x):=by
  obtain⟨q,p,sv,Dl,h1,h2,h3⟩:=h;have hsl:s<L.length:=(zE.1 hx).1;have hs:s≤4294967295:=by have:=h1.log.ok.len;omega
  have hp0:zc w (w.alloc (.cells #[.string ⟨#[]⟩,.slice none 0 0,.int .u64 0,.int .u64 0] 141)):=(Mod.refl _ w).alloc _;have z4:=zj (w:=w) (o := .cells #[.string ⟨#[]⟩,.slice none 0 0,.int .u64 0,.int .u64 0] 141 (0,0)) rfl;have HZ:=za (Zv (h1.pure hp0));have HG:=za (zi0 (h1.log.pure hp0) s hs);unfold JK at HG;rw[hx]at HG;have hb:=(h1.pure hp0).box;have HP:=za hp0;clear h1 h2 h3 hp0 hx;go_enter func76,ntmps76;go_upto_region 1 with fail
  generalize w.alloc (.cells #[.string ⟨#[]⟩,.slice none 0 0,.int .u64 0,.int .u64 0] 141)=W1 at *;obtain⟨b4,hb4⟩:=zf w.heap.size;rw[hb4]at z4 ⊢;have HB:=za hb4;clear hb4;have Z4:=za z4;obtain⟨hb_0,hb_1,hb_2,hb_3,hb_f,hb_l,H_hb⟩:=cr4 hb;clear hb;obtain⟨z4_0,z4_1,z4_2,z4_3,z4_f,z4_l,H_z4⟩:=cr4 z4;clear z4
  go_wp2_with (first
    | (go_at_call 112;refine HZ.out.mono ?_;rintro e w' ⟨rfl,rfl⟩)
    | (go_at_call 113;refine HG.out.mono ?_;rintro e w2 ⟨a,n,c,rfl,hby,hfr,hp2⟩;have k0:=hp2.cell (fun h=>h) z4_0;have k1:=hp2.cell (fun h=>h) z4_1;have k2:=hp2.cell (fun h=>h) z4_2;have k3:=hp2.cell (fun h=>h) z4_3;have kf : ∀ j,w2.frozen? ⟨b4,j,none⟩=false:=(fun j=>(hp2.cells.2 b4 j z4_l).trans (z4_f j));have kl:=hp2.lt z4_l))
  obtain⟨Y,hY⟩:=zf ((((w2.setCell ⟨b4,0,none⟩ (.string x.key)).setCell ⟨b4,1,none⟩ (.slice a n c)).setCell ⟨b4,2,none⟩ (.int .u64 x.dl)).setCell ⟨b4,3,none⟩ (.int .u64 x.birth));have y4:=hp2.heap (fun h=>h) Z4.out;obtain⟨g1,g2⟩:=Jr y4 hY;rw[hY];have x0:=zi _ _ 0 _ _ _ g2;have x1:=zi _ _ 1 _ _ _ g2;have x2:=zi _ _ 2 _ _ _ g2;have x3:=zi _ _ 3 _ _ _ g2;simp at x0 x1 x2 x3;refine zN (v := .tuple #[.agg #[.string x.key,.slice a n c,.int .u64 x.dl,.int .u64 x.birth],.int .i64 0]) (by simp[results,results76,go_sem,x0,x1,x2,x3]) rfl ⟨a,n,c,rfl,?_,?_,?_⟩
  · exact jY hby g1 (fun k _ e cs fz e2=>by subst e;rw[y4]at e2;cases e2)
  · intro g e;have:=hfr g e;have:=HP.out.size;omega
  · exact(HP.out.trans hp2).then g1 (fun i hi e=>by have:=HB.out;omega)
theorem zgW{L:List (Option Ent)}{s:Nat}{x y:Ent}(hx:L[s]? = some (some x))(hk:y.key=x.key)(t:Nat):yI (L.set s (some y)) t=yI L t:=by
 have hs:=(zE.1 hx).1;unfold yI;by_cases e:t=s
 ·subst e;rw[yv hs,hx];exact hk
 ·rw[yy (fun c=>e c.symm)]
theorem zfG{L:List (Option Ent)}{s:Nat}{x y:Ent}(hx:L[s]? = some (some x))(t:Nat):uk (L.set s (some y)) t↔uk L t:=by
 have hs:=(zE.1 hx).1;unfold uk;by_cases e:t=s
 ·subst e;rw[yv hs,hx];exact⟨fun _=>⟨x,rfl⟩,fun _=>⟨y,rfl⟩⟩
 ·rw[yy (fun c=>e c.symm)]
theorem vW.setE{seed:Nat}{same:Bool}{L:List (Option Ent)}{Gs:List Grp}(h:vW seed same L Gs){s:Nat}{x y:Ent}(hx:L[s]? = some (some x))(hk:y.key=x.key):vW seed same (L.set s (some y)) Gs:=by
 have e1:yf seed same (L.set s (some y))=yf seed same L:=funext fun t=>by unfold yf;rw[zgW hx hk]
 have e2:uk (L.set s (some y))=uk L:=funext fun t=>propext (zfG hx t)
 have hs:=(zE.1 hx).1;have hget : ∀(a:Nat) (e:Ent),(L.set s (some y))[a]? = some (some e) → ∃ e',L[a]? = some (some e')∧e'.key=e.key:=fun a e ha=>by
  by_cases c:a=s
  ·subst c;rw[yv hs]at ha;injection ha with ha
   injection ha with ha
   exact⟨x,hx,by rw[← ha,hk]⟩
  ·rw[yy (fun d=>c d.symm)]at ha;exact⟨e,ha,rfl⟩
 refine⟨by rw[e1,e2];exact h.holds,fun a b e f ha hb hef => ?_,?_⟩
 ·obtain⟨e',h1,h2⟩:=hget a e ha;obtain⟨f',h3,h4⟩:=hget b f hb;exact h.keys a b e' f' h1 h3 (by rw[h2,h4,hef])
 ·rw[h.used];have h1:=VN hx;have h2:zZ ((L.set s (some y)).set s none)+1=zZ (L.set s (some y)):=VN (x:=y) (by rw[yv hs]);rw[List.set_set]at h2;omega
def zff(Fo:Nat→Prop)(w:World)(D:Nat→Prop)(d seed:Nat)(same:Bool)(L2:List (Option Ent))(Gs:List Grp)(e:Ending)(w':World):Prop :=
 e=.returned (.int .i64 0)∧yb Fo w' D d seed same L2 Gs∧Mod D w w'
theorem zj0{w:World}{D:Nat→Prop}{d seed:Nat}{same:Bool}{L:List (Option Ent)}{Gs:List Grp}(h:yb Fo w D d seed same L Gs){s:Nat}{x:Ent}(hx:L[s]? = some (some x))(a:Option Addr)(n c:Nat)(vs:List UInt8)(hv:zo w (.slice a n c) 1 (zQ vs))(hl:vs.length≤65536)(dl:Int) :
    Calls prog 125 #[xt d,.int .u32 s,.slice a n c,.int .u64 dl] w (zff Fo w D d seed same (L.set s (some (x.with vs dl))) Gs):=by
  obtain⟨q,p,sv,Dl,h1,h2,h3⟩:=h;obtain⟨lv,M,hM,hrow⟩:=h1.log;obtain⟨v,hMi⟩ : ∃ v,M[s]? = some (some x,v):=by
    rw[← hM,yC]at hx
    cases hm:M[s]? with
    | none=>rw[hm]at hx;cases hx
    | some m=>rw[hm]at hx;obtain⟨m1,m2⟩:=m;simp at hx;exact⟨m2,by rw[hx]⟩
  have HZ:=za (Zv h1);have HS:=za (zjM hrow hMi a n c vs hv hl dl);have HH:=za h1;have HK:=za h2;have HD:=za h3;have HM:=za hM;have HX:=za hx;have hb:=h1.box;clear h1 h2 h3 hM hrow hMi hx hv;obtain⟨hb_0,hb_1,hb_2,hb_3,hb_f,hb_l,H_hb⟩:=cr4 hb;clear hb;go_enter func125,ntmps125
  go_wp2_with (first
    | (go_at_call 112;refine HZ.out.mono ?_;rintro e w' ⟨rfl,rfl⟩)
    | (go_at_call 190;refine HS.out.mono ?_;rintro e w2 ⟨rfl,v',hr2,hm2⟩))
  go_ret;have hlog:yg Fo w2 Dl q (L.set s (some (x.with vs dl))):=⟨lv,_,by rw[← HM.out];simp[List.map_set],hr2⟩;exact⟨rfl,⟨q,p,sv,Dl,Jw HH.out hlog hm2,HK.out.setE HX.out rfl,HD.out⟩,hm2.mono (fun i _ h=>(HD.out i).2 (.inr (.inl h)))⟩
end
section
open Go.RowKit
structure CE where
 key:ByteArray
 val:List UInt8
 dl:Nat
 birth:Nat
abbrev CE.ent(x:CE):Ent:=⟨x.key,x.val,x.dl,x.birth⟩
structure CE.Ok(x:CE):Prop where
 k0:0<x.key.size
 k1:x.key.size≤250
 v1:x.val.length≤65536
 d1:x.dl≤18446744073709551615
 b0:0<x.birth
 b1:x.birth≤18446744073709551615
theorem CE.Ok.ent{x:CE}(h:x.Ok):x.ent.Ok:=⟨h.k0,h.k1,h.v1,by have:=h.b0;show(0:Int)<(x.birth:Int);omega⟩
structure Ev where
 kind:Nat
 e:CE
 tm:Nat
structure Ev.Ok(x:Ev):Prop where
 kd:1≤x.kind∧x.kind≤5
 e:x.e.Ok
 tm:x.tm≤18446744073709551615
 du:jG x.e.dl x.tm=(x.kind==1)
theorem zkI(k:Int)(key:ByteArray)(a:Option Addr)(n c b d t:Nat)(xs:List Value)(w:World)(hx:zo w (.slice a n c) 1 xs)(hn:n≤140737488355328) :
  Calls prog 229 #[evV k key (.slice a n c) b d t] w fun e w' => ∃ a' n' c',e=.returned (evV k key (.slice a' n' c') b d t)∧w'.ownsRow 0 5 1 (.slice a' n' c') n' xs∧vf w (.slice a' n' c')∧zc w w':=by
 have hp0:zc w ((w.alloc (.cells #[.int .i64 k,.string key,.slice a n c,.int .u64 b,.int .u64 d,.int .u64 t] 191)).alloc (.cells #[.int .i64 0,.string ⟨#[]⟩,.slice none 0 0,.int .u64 0,.int .u64 0,.int .u64 0] 191)):=((Mod.refl _ w).alloc _).alloc _;have z1:=zG (o := .cells #[.int .i64 0,.string ⟨#[]⟩,.slice none 0 0,.int .u64 0,.int .u64 0,.int .u64 0] 191) (zj (w:=w) (o := .cells #[.int .i64 k,.string key,.slice a n c,.int .u64 b,.int .u64 d,.int .u64 t] 191 (0,0)) rfl);have z2:=zj (w:=w.alloc (.cells #[.int .i64 k,.string key,.slice a n c,.int .u64 b,.int .u64 d,.int .u64 t] 191)) (o := .cells #[.int .i64 0,.string ⟨#[]⟩,.slice none 0 0,.int .u64 0,.int .u64 0,.int .u64 0] 191 (0,0)) (n:=w.heap.size+1) (by simp);have HP:=za hp0;have HC:=za (Vh a n c xs _ (hx.frame hp0 (fun _ _ h=>h)) hn);clear hp0 hx;go_enter func229,ntmps229;go_upto_region 1 with fail
 generalize(w.alloc (.cells #[.int .i64 k,.string key,.slice a n c,.int .u64 b,.int .u64 d,.int .u64 t] 191)).alloc (.cells #[.int .i64 0,.string ⟨#[]⟩,.slice none 0 0,.int .u64 0,.int .u64 0,.int .u64 0] 191)=W1 at *;obtain⟨b1,hb1⟩:=zf w.heap.size;rw[hb1]at z1 z2 ⊢;have HB:=za hb1;clear hb1;have Z1:=za z1;have Z2:=za z2;obtain⟨z1_0,z1_1,z1_2,z1_3,z1_4,z1_5,z1_f,z1_l,H_z1⟩:=cr6 z1;clear z1;obtain⟨z2_0,z2_1,z2_2,z2_3,z2_4,z2_5,z2_f,z2_l,H_z2⟩:=cr6 z2;clear z2
 go_wp2_with (go_at_call 44;refine HC.out.mono ?_;rintro e w1 ⟨a',n',c',rfl,hr,hf,hp⟩;obtain⟨h1c,h1f⟩:=hp.box (b:=b1) Z1.out (fun h=>h);obtain⟨h2c,h2f⟩:=hp.box (b:=b1+1) Z2.out (fun h=>h))
 have hm:=(((((((Mod.refl (fun k=>k=b1∨k=b1+1) w1).setCell (p:=⟨b1,2,none⟩) (fun _ => .inl rfl) (.slice a' n' c')).setCell (p:=⟨b1+1,0,none⟩) (fun _ => .inr rfl) (.int .i64 k)).setCell (p:=⟨b1+1,1,none⟩) (fun _ => .inr rfl) (.string key)).setCell (p:=⟨b1+1,2,none⟩) (fun _ => .inr rfl) (.slice a' n' c')).setCell (p:=⟨b1+1,3,none⟩) (fun _ => .inr rfl) (.int .u64 b)).setCell (p:=⟨b1+1,4,none⟩) (fun _ => .inr rfl) (.int .u64 d)).setCell (p:=⟨b1+1,5,none⟩) (fun _ => .inr rfl) (.int .u64 t);have hW1:b1+1<W1.heap.size:=zm Z2.out;refine zN (v:=evV k key (.slice a' n' c') b d t) (by simp[results,results229,go_sem,h1c,h2c]) rfl ⟨a',n',c',rfl,zy hr hm ?_,?_,?_⟩
 ·intro g e h;have:=hf g e;omega
 ·intro g e;have:=hf g e;have:=HB.out;omega
 ·exact(HP.out.trans hp).then hm (fun i hi h=>by have:=HB.out;omega)
def xu:Option Nat→Value
 | none => .pointer none
 | some b => .pointer (some ⟨b,0,none⟩)
abbrev EvN:=Nat × Ev × Value
def nxt(ns:List EvN)(i:Nat):Option Nat:=(ns[i]?).map (fun n=>n.1)
structure yZ(Fo:Nat→Prop)(w:World)(p:Nat)(k0 k1 k2 k3 k4 k5:Int)(th:Nat)(ns:List EvN):Prop where
 box:w.heap[p]? = some (.cells #[xu (nxt ns 0),xu (nxt ns (ns.length-1)),.int .u64 k0,.int .u64 k1,.int .u64 k2,.int .u64 k3,.int .u64 k4,.int .u64 k5,.int .i64 th,.bool true] 189 (0,0))
 node : ∀(i:Nat) (n:EvN),ns[i]? = some n→w.heap[n.1]? = some (.cells #[.int .i64 n.2.1.kind,.string n.2.1.e.key,n.2.2,.int .u64 n.2.1.e.birth,.int .u64 n.2.1.e.dl,.int .u64 n.2.1.tm,xu (nxt ns (i+1))] 193 (0,0))
 vals : ∀ n:EvN,n∈ns→yq w n.2.2 (zQ n.2.1.e.val)
 off : ∀ n:EvN,n∈ns → ∀ g,n.2.2.ownBlock=some g → ¬ Fo g
 nd:(ns.map (fun n=>n.1)).Nodup
 ok : ∀ n:EvN,n∈ns→n.2.1.Ok
 flt : ∀ k,Fo k→k<w.heap.size
def evD(p:Nat)(ns:List EvN)(k:Nat):Prop:=k=p ∨ ∃ n∈ns,n.1=k
section
variable{Fo:Nat→Prop}{w w':World}{p:Nat}{k0 k1 k2 k3 k4 k5:Int}{th:Nat}{ns:List EvN}
theorem yZ.lt(h:yZ Fo w p k0 k1 k2 k3 k4 k5 th ns){k:Nat}(hk:evD p ns k):k<w.heap.size:=by
 rcases hk with rfl | ⟨n,hn,rfl⟩
 ·exact zm h.box
 ·obtain⟨i,hi⟩:=ur hn;exact zm (h.node i n hi)
theorem yZ.np(h:yZ Fo w p k0 k1 k2 k3 k4 k5 th ns){n:EvN}(hn:n∈ns):n.1≠p:=fun e=>by
 obtain⟨i,hi⟩:=ur hn;have h1:=h.node i n hi;rw[e,h.box]at h1;injection h1 with h1;injection h1 with _ h1
 exact absurd h1 (by decide)
theorem yZ.frameF{S:Nat→Prop}(h:yZ Fo w p k0 k1 k2 k3 k4 k5 th ns)(hm:Mod S w w')(hD : ∀ k,evD p ns k → ¬ S k)(hS : ∀ k,k<w.heap.size→S k→Fo k ∨ ∀ cs fz,w.heap[k]? ≠ some (.cells cs 5 fz)):yZ Fo w' p k0 k1 k2 k3 k4 k5 th ns :=
 ⟨hm.heap (hD p (.inl rfl)) h.box,fun i n hi=>hm.heap (hD _ (.inr ⟨n,yl hi,rfl⟩)) (h.node i n hi),fun n hn=>zbJ (h.vals n hn) (fun g hg=>h.off n hn g hg) hm hS,h.off,h.nd,h.ok,fun k hk=>hm.lt (h.flt k hk)⟩
theorem yZ.pure(h:yZ Fo w p k0 k1 k2 k3 k4 k5 th ns)(hm:zc w w'):yZ Fo w' p k0 k1 k2 k3 k4 k5 th ns:=h.frameF hm (fun _ _ h=>h) (fun _ _ h=>h.elim)
theorem yZ.refo{Fo':Nat→Prop}(h:yZ Fo w p k0 k1 k2 k3 k4 k5 th ns)(hm:zc w w')(h1 : ∀ k,Fo' k→Fo k∨w.heap.size≤k)(h2 : ∀ k,Fo' k→k<w'.heap.size):yZ Fo' w' p k0 k1 k2 k3 k4 k5 th ns :=
 ⟨hm.heap (fun h=>h) h.box,fun i n hi=>hm.heap (fun h=>h) (h.node i n hi),fun n hn=>zy (h.vals n hn) hm (fun _ _ h=>h),fun n hn g hg hf=>(by
  rcases h1 g hf with hx | hx
  ·exact h.off n hn g hg hx
  ·have:=vY (h.vals n hn) hg;omega),h.nd,h.ok,h2⟩
theorem zdr(w:World)(hFo : ∀ k,Fo k→k<w.heap.size):Calls prog 104 #[] w fun e w'=>e=.returned (.pointer (some ⟨w.heap.size,0,none⟩))∧yZ Fo w' w.heap.size 0 0 0 0 0 0 0 []∧zc w w':=by
 have hp:zc w (w.alloc (.cells #[.pointer none,.pointer none,.int .u64 0,.int .u64 0,.int .u64 0,.int .u64 0,.int .u64 0,.int .u64 0,.int .i64 0,.bool true] 189)):=(Mod.refl _ w).alloc _;go_enter func104,ntmps104;go_wp2;go_ret;exact⟨rfl,⟨zj rfl,(fun i n hi=>by cases hi),(fun n hn=>by cases hn),(fun n hn=>by cases hn),jf,(fun n hn=>by cases hn),fun k hk=>hp.lt (hFo k hk)⟩,hp⟩
theorem KA(h:yZ Fo w p k0 k1 k2 k3 k4 k5 th ns):Calls prog 106 #[lkP p] w fun e w'=>e=.returned (.bool false)∧w=w':=by
 have hb:=h.box;clear h;generalize xu (nxt ns 0)=v0 at *;generalize xu (nxt ns (ns.length-1))=v1 at *;obtain⟨hb_0,hb_1,hb_2,hb_3,hb_4,hb_5,hb_6,hb_7,hb_8,hb_9,hb_f,hb_l,H_hb⟩:=js hb;clear hb;go_enter func106,ntmps106;go_wp2;go_ret;exact⟨rfl,rfl⟩
theorem UB(h:yZ Fo w p k0 k1 k2 k3 k4 k5 th ns):Calls prog 71 #[lkP p] w fun e w'=>e=.returned (.int .i64 th)∧w=w':=by
 have HN:=za (KA h);have hb:=h.box;clear h;generalize xu (nxt ns 0)=v0 at *;generalize xu (nxt ns (ns.length-1))=v1 at *;obtain⟨hb_0,hb_1,hb_2,hb_3,hb_4,hb_5,hb_6,hb_7,hb_8,hb_9,hb_f,hb_l,H_hb⟩:=js hb;clear hb;go_enter func71,ntmps71
 go_wp2_with (go_at_call 106;refine HN.out.mono ?_;rintro e w' ⟨rfl,rfl⟩)
 go_ret;exact⟨rfl,rfl⟩
end
theorem zar{ns:List EvN}{x:EvN}{i:Nat}(h:i<ns.length):nxt (ns++[x]) i=nxt ns i:=by unfold nxt;rw[us h]
theorem zan(ns:List EvN)(x:EvN):nxt (ns++[x]) ns.length=some x.1:=by unfold nxt;simp
theorem Jk{ns:List EvN}{i:Nat}(h:ns.length≤i):nxt ns i=none:=by unfold nxt;rw[xK h];rfl
section
variable{Fo:Nat→Prop}{w w':World}{p:Nat}{k0 k1 k2 k3 k4 k5:Int}{th:Nat}{ns:List EvN}
def zbd(Fo:Nat→Prop)(w:World)(p:Nat)(k0 k1 k2 k3 k4 k5:Int)(th:Nat)(ns:List EvN)(x:Ev)(v:Value)(e:Ending)(w':World):Prop :=
 e=.returned (.tuple #[]) ∧ ∃ b,w.heap.size≤b∧yZ Fo w' p k0 k1 k2 k3 k4 k5 th (ns++[(b,x,v)])∧Mod (evD p ns) w w'
theorem zin(h:yZ Fo w p k0 k1 k2 k3 k4 k5 th ns){x:Ev}(hx:x.Ok){a:Option Addr}{n c:Nat}(hv:yq w (.slice a n c) (zQ x.e.val))(ho : ∀ g,(Value.slice a n c).ownBlock=some g → ¬ Fo g)(hnD : ∀ g,(Value.slice a n c).ownBlock=some g → ¬ evD p ns g) :
  Calls prog 228 #[lkP p,evV x.kind x.e.key (.slice a n c) x.e.birth x.e.dl x.tm] w (zbd Fo w p k0 k1 k2 k3 k4 k5 th ns x (.slice a n c)):=by
 have HH:=za h;have HV:=za hv;have HO:=za ho;have HX:=za hx;have HND:=za hnD;have hb:=h.box;have hpl:p<w.heap.size:=zm hb;obtain⟨kd,⟨key,val,dl,birth⟩,tm⟩:=x;dsimp only at HV hv ⊢;have e1:zc w (w.alloc (.cells #[.int .i64 kd,.string key,.slice a n c,.int .u64 birth,.int .u64 dl,.int .u64 tm] 191)):=(Mod.refl _ w).alloc _;have z1:=zj (w:=w) (o := .cells #[.int .i64 kd,.string key,.slice a n c,.int .u64 birth,.int .u64 dl,.int .u64 tm] 191 (0,0)) rfl;have HE1:=za e1;have hb1:=e1.heap (fun h=>h) hb;have fin : ∀(X:World) (ol:Option Nat),True:=fun _ _=>trivial
 clear fin h hx hv ho hnD;unfold zbd;by_cases hne:ns=[]
 ·subst hne;go_enter func228,ntmps228;go_upto_region 1 with fail
  generalize w.alloc (.cells #[.int .i64 kd,.string key,.slice a n c,.int .u64 birth,.int .u64 dl,.int .u64 tm] 191)=W1 at *;have hs1:w.heap.size<W1.heap.size:=zm z1;obtain⟨b3,hb3⟩:=zf w.heap.size;rw[hb3]at z1 hs1 hpl ⊢;have HB3:=za hb3;clear hb3;obtain⟨z1_0,z1_1,z1_2,z1_3,z1_4,z1_5,z1_f,z1_l,H_z1⟩:=cr6 z1;clear z1;go_upto_region 2 with fail
  have e2:zc W1 (W1.alloc (.cells #[.int .i64 kd,.string key,.slice a n c,.int .u64 birth,.int .u64 dl,.int .u64 tm,.pointer none] 193)):=(Mod.refl _ W1).alloc _;have z2:=zj (w:=W1) (o := .cells #[.int .i64 kd,.string key,.slice a n c,.int .u64 birth,.int .u64 dl,.int .u64 tm,.pointer none] 193 (0,0)) rfl;have hb2:=e2.heap (fun h=>h) hb1;have HE2:=za (HE1.out.trans e2);clear z1_0 z1_1 z1_2 z1_3 z1_4 z1_5 z1_f z1_l;clear H_z1 e2 e1 hb hb1;generalize W1.alloc (.cells #[.int .i64 kd,.string key,.slice a n c,.int .u64 birth,.int .u64 dl,.int .u64 tm,.pointer none] 193)=W2 at *;obtain⟨bn,hbn⟩:=zf W1.heap.size;rw[hbn]at z2 hs1 ⊢;clear hbn;have HZ2:=za z2;have HB2:=za hb2;simp only[nxt,xu,List.getElem?_nil,Option.map_none,List.length_nil]at hb2;obtain⟨hb2_0,hb2_1,hb2_2,hb2_3,hb2_4,hb2_5,hb2_6,hb2_7,hb2_8,hb2_9,hb2_f,hb2_l,H_hb2⟩:=js hb2;clear hb2;go_wp2
  go_end0
  have h1:=ya W2 p 0 _ _ (.pointer (some ⟨bn,0,none⟩)) HB2.out;have h2:=ya _ p 1 _ _ (.pointer (some ⟨bn,0,none⟩)) h1;have hm:Mod (fun k=>k=p) W2 ((W2.setCell ⟨p,0,none⟩ (.pointer (some ⟨bn,0,none⟩))).setCell ⟨p,1,none⟩ (.pointer (some ⟨bn,0,none⟩))):=Mod.set2 p 0 1 _ _;have hz:=hm.heap (fun e=>by omega) HZ2.out;have hmw:Mod (fun k=>k=p) w _:=Mod.trans' HE2.out hm (fun _ _ h=>h.elim) (fun _ _ h=>h);have hpv:Mod (fun k=>k=p) w _:=hmw;refine⟨rfl,bn,by have:=HB3.out;omega,⟨?_,fun i m hi => ?_,fun m hm' => ?_,fun m hm' g hg => ?_,by simp,fun m hm' => ?_,fun k hk=>hmw.lt (HH.out.flt k hk)⟩,hmw.mono (fun k _ e => .inl e)⟩
  ·rw[h2]
   rfl
  ·cases i with
   | zero=>cases hi;exact hz
   | succ i=>cases hi
  ·rw[zF.1 hm'];exact zy HV.out hmw (fun g hg e=>HND.out g hg (.inl e))
  ·rw[zF.1 hm']at hg;exact HO.out g hg
  ·rw[zF.1 hm'];exact HX.out
 ·obtain⟨m,hm0⟩ : ∃ m,ns.length=m+1:=⟨ns.length-1,by have:=List.length_pos_iff.2 hne;omega⟩;obtain⟨nl,hnl⟩ : ∃ nl,ns[m]? = some nl:=⟨_,zL (by omega)⟩;have hzl:=HH.out.node m nl hnl;have hlast:nxt ns (ns.length-1)=some nl.1:=by unfold nxt;rw[hm0];simp[hnl]
  have hnl1:nxt ns (m+1)=none:=Jk (by omega);rw[hnl1]at hzl;have hnlm:=yl hnl;have hnp:nl.1≠p:=HH.out.np hnlm;have hbl:nl.1<w.heap.size:=zm hzl;have HNL:=za hnl;have HM0:=za hm0;have HZL:=za hzl;have HNLM:=za hnlm;have hzl1:=e1.heap (fun h=>h) hzl;have hf0 : ∃ v0,xu (nxt ns 0)=v0:=⟨_,rfl⟩;obtain⟨v0,hv0⟩:=hf0;rw[hlast,hv0]at hb1;have HV0:=za hv0;have HLA:=za hlast;clear hnl hm0 hzl hnlm hv0 hlast hnl1 hb hne;go_enter func228,ntmps228;go_upto_region 1 with fail
  generalize w.alloc (.cells #[.int .i64 kd,.string key,.slice a n c,.int .u64 birth,.int .u64 dl,.int .u64 tm] 191)=W1 at *;have hs1:w.heap.size<W1.heap.size:=zm z1;obtain⟨b3,hb3⟩:=zf w.heap.size;rw[hb3]at z1 hs1 hpl hbl ⊢;have HB3:=za hb3;clear hb3;obtain⟨z1_0,z1_1,z1_2,z1_3,z1_4,z1_5,z1_f,z1_l,H_z1⟩:=cr6 z1;clear z1;go_upto_region 2 with fail
  have e2:zc W1 (W1.alloc (.cells #[.int .i64 kd,.string key,.slice a n c,.int .u64 birth,.int .u64 dl,.int .u64 tm,.pointer none] 193)):=(Mod.refl _ W1).alloc _;have z2:=zj (w:=W1) (o := .cells #[.int .i64 kd,.string key,.slice a n c,.int .u64 birth,.int .u64 dl,.int .u64 tm,.pointer none] 193 (0,0)) rfl;have hb2:=e2.heap (fun h=>h) hb1;have hz2:=e2.heap (fun h=>h) hzl1;have HE2:=za (HE1.out.trans e2);clear z1_0 z1_1 z1_2 z1_3 z1_4 z1_5 z1_f z1_l;clear H_z1 e2 e1 hb1 hzl1;generalize W1.alloc (.cells #[.int .i64 kd,.string key,.slice a n c,.int .u64 birth,.int .u64 dl,.int .u64 tm,.pointer none] 193)=W2 at *;obtain⟨bn,hbn⟩:=zf W1.heap.size;rw[hbn]at z2 hs1 ⊢;clear hbn;have HZ2:=za z2;have HB2:=za hb2;have HN2:=za hz2;obtain⟨bl,nx,nv⟩:=nl;obtain⟨lk,⟨lkey,lval,ldl,lbirth⟩,ltm⟩:=nx;dsimp only[xu]at hb2 hz2 hnp hbl HN2 HB2;obtain⟨hb2_0,hb2_1,hb2_2,hb2_3,hb2_4,hb2_5,hb2_6,hb2_7,hb2_8,hb2_9,hb2_f,hb2_l,H_hb2⟩:=js hb2;clear hb2;obtain⟨hz2_0,hz2_1,hz2_2,hz2_3,hz2_4,hz2_5,hz2_6,hz2_f,hz2_l,H_hz2⟩:=cr7 hz2;clear hz2;go_wp2
  go_end0
  have h1:=ya W2 bl 6 _ _ (.pointer (some ⟨bn,0,none⟩)) HN2.out;have h2:=ya (W2.setCell ⟨bl,6,none⟩ (.pointer (some ⟨bn,0,none⟩))) p 1 _ _ (.pointer (some ⟨bn,0,none⟩)) (xm (a:=⟨bl,6,none⟩) HB2.out (fun e=>hnp e.symm));have h1':=xm (a:=⟨p,1,none⟩) (v := .pointer (some ⟨bn,0,none⟩)) h1 hnp;have hm:Mod (fun k=>k=bl∨k=p) W2 ((W2.setCell ⟨bl,6,none⟩ (.pointer (some ⟨bn,0,none⟩))).setCell ⟨p,1,none⟩ (.pointer (some ⟨bn,0,none⟩))) :=
   ((Mod.refl (fun k=>k=bl∨k=p) W2).setCell (p:=⟨bl,6,none⟩) (fun _ => .inl rfl) _).setCell (p:=⟨p,1,none⟩) (fun _ => .inr rfl) _
  have hz:=hm.heap (fun e=>by rcases e with e | e<;>omega) HZ2.out;have hmw:Mod (fun k=>k=bl∨k=p) w ((W2.setCell ⟨bl,6,none⟩ (.pointer (some ⟨bn,0,none⟩))).setCell ⟨p,1,none⟩ (.pointer (some ⟨bn,0,none⟩))):=Mod.trans' HE2.out hm (fun _ _ h=>h.elim) (fun _ _ h=>h);have hsub : ∀ k,(k=bl∨k=p)→evD p ns k:=fun k hk=>by
   rcases hk with e | e
   ·exact .inr ⟨_,HNLM.out,e.symm⟩
   ·exact .inl e
  have hlen:=HM0.out;have hne2 : ∀ m'∈ns,m'.1<b3:=fun m' hm'=>by have:=HH.out.lt (.inr ⟨m',hm',rfl⟩);have:=HB3.out;omega
  have hinj : ∀(i:Nat) (m':EvN),ns[i]? = some m'→i<m→m'.1≠bl:=fun i m' hi him e=>by
   have h3:(ns.map (fun n=>n.1))[i]? = some bl:=by rw[yC,hi];exact congrArg some e
   have h4:(ns.map (fun n=>n.1))[m]? = some bl:=by rw[yC,HNL.out];rfl
   have:=(List.getElem?_inj (by rw[yn];omega) HH.out.nd).1 (h3.trans h4.symm);omega
  refine⟨rfl,bn,by have:=HB3.out;omega,⟨?_,fun i m' hi => ?_,fun m' hm' => ?_,fun m' hm' g hg => ?_,?_,fun m' hm' => ?_,fun k hk=>hmw.lt (HH.out.flt k hk)⟩,hmw.mono (fun k _ e=>hsub k e)⟩
  ·rw[h2,zar (by omega),HV0.out,zV,show ns.length + [(bn,(⟨kd,⟨key,val,dl,birth⟩,tm⟩:Ev),Value.slice a n c)].length-1=ns.length from rfl,zan]
   rfl
  ·by_cases hi2:i<ns.length
   ·rw[us hi2]at hi;by_cases him:i=m
    ·subst him;have hi3:=hi.symm.trans HNL.out;injection hi3 with hi3
     subst hi3;dsimp only;rw[h1',show i+1=ns.length by omega,zan]
     rfl
    ·rw[zar (by omega)];have hnn:=hinj i m' hi (by omega);have hnp2:=HH.out.np (yl hi);exact hmw.heap (fun e=>by rcases e with e | e;exact hnn e;exact hnp2 e) (HH.out.node i m' hi)
   ·rw[jh (by omega)]at hi;have hi0:i=ns.length:=by
     cases hq:i-ns.length with
     | zero=>omega
     | succ q=>rw[hq]at hi;cases hi
    subst hi0;rw[YJ]at hi
    cases hi
    rw[Jk (by simp)];exact hz
  ·rcases yz.1 hm' with hm' | hm'
   ·exact zy (HH.out.vals m' hm') hmw (fun g hg e=>by
     obtain⟨cur,e2⟩:=yc (HH.out.vals m' hm') hg;rcases e with e | e
     ·subst e;rw[HZL.out]at e2;injection e2 with e2;injection e2 with _ e2;exact absurd e2 (by decide)
     ·subst e;rw[HH.out.box]at e2;injection e2 with e2;injection e2 with _ e2;exact absurd e2 (by decide))
   ·rw[zF.1 hm'];exact zy HV.out hmw (fun g hg e=>HND.out g hg (hsub g e))
  ·rcases yz.1 hm' with hm' | hm'
   ·exact HH.out.off m' hm' g hg
   ·rw[zF.1 hm']at hg;exact HO.out g hg
  ·rw[vh,xD];refine⟨HH.out.nd,by simp,fun x hx y hy e => ?_⟩;obtain⟨m',hm',rfl⟩:=zz.1 hx;have:=hne2 m' hm';simp at hy;omega
  ·rcases yz.1 hm' with hm' | hm'
   ·exact HH.out.ok m' hm'
   ·rw[zF.1 hm'];exact HX.out
end
def xN(Fo:Nat→Prop)(w:World)(p:Nat)(ns:List EvN):Prop := ∃ k0 k1 k2 k3 k4 k5,yZ Fo w p k0 k1 k2 k3 k4 k5 ns.length ns
def Jh(Fo:Nat→Prop)(w:World)(p:Nat)(ns:List EvN)(x:Ev)(e:Ending)(w':World):Prop :=
 e=.returned (.int .i64 0) ∧ ∃ b v,xN Fo w' p (ns++[(b,x,v)])∧w.heap.size≤b∧vf w v∧Mod (evD p ns) w w'
section
variable{Fo:Nat→Prop}{w w':World}{p:Nat}{k0 k1 k2 k3 k4 k5:Int}{th:Nat}{ns:List EvN}
theorem yZ.box'(h:yZ Fo w p k0 k1 k2 k3 k4 k5 th ns){W:World}(hm:Mod (fun k=>k=p) w W){l0 l1 l2 l3 l4 l5:Int}{th2:Nat}(hb:W.heap[p]? = some (.cells #[xu (nxt ns 0),xu (nxt ns (ns.length-1)),.int .u64 l0,.int .u64 l1,.int .u64 l2,.int .u64 l3,.int .u64 l4,.int .u64 l5,.int .i64 th2,.bool true] 189 (0,0))):yZ Fo W p l0 l1 l2 l3 l4 l5 th2 ns :=
 ⟨hb,fun i n hi=>hm.heap (fun e=>h.np (yl hi) e) (h.node i n hi),fun n hn=>zy (h.vals n hn) hm (fun g hg e=>by
  obtain⟨cur,e2⟩:=yc (h.vals n hn) hg;subst e;rw[h.box]at e2;injection e2 with e2;injection e2 with _ e2;exact absurd e2 (by decide)),h.off,h.nd,h.ok,fun k hk=>hm.lt (h.flt k hk)⟩
theorem zid{w4:World}{x:Ev}{v u0 u1:Value}{bn i th t0:Nat}{ns2:List EvN}{q:Int}(hi:3≤i∧i≤7)(hm4:yZ Fo w4 p k0 k1 k2 k3 k4 k5 t0 ns2)
  (hb:w4.heap[p]? = some (.cells #[u0,u1,.int .u64 k0,.int .u64 k1,.int .u64 k2,.int .u64 k3,.int .u64 k4,.int .u64 k5,.int .i64 th,.bool true] 189 (0,0)))
  (hu0:xu (nxt ns2 0)=u0) (hu1:xu (nxt ns2 (ns2.length-1))=u1) (hl:ns2.length=th+1) (hbn:w.heap.size≤bn) (hf:vf w v) (hmo:Mod (evD p ns) w w4) (hn:ns++[(bn,x,v)]=ns2) :
  Jh Fo w p ns x (.returned (.int .i64 0)) ((w4.setCell ⟨p,i,none⟩ (.int .u64 q)).setCell ⟨p,8,none⟩ (.int .i64 ((th:Int)+1))).drew:=by
 have h5:=ya w4 p i _ _ (.int .u64 q) hb;have h6:=ya (w4.setCell ⟨p,i,none⟩ (.int .u64 q)) p 8 _ _ (.int .i64 ((th:Int)+1)) h5;have hm:Mod (fun k=>k=p) w4 ((w4.setCell ⟨p,i,none⟩ (.int .u64 q)).setCell ⟨p,8,none⟩ (.int .i64 ((th:Int)+1))).drew:=(((Mod.refl (fun k=>k=p) w4).setCell (p:=⟨p,i,none⟩) (fun _=>rfl) _).setCell (p:=⟨p,8,none⟩) (fun _=>rfl) _).drew;obtain⟨Y,hY⟩:=zf (((w4.setCell ⟨p,i,none⟩ (.int .u64 q)).setCell ⟨p,8,none⟩ (.int .i64 ((th:Int)+1))).drew);have e7:=(show ∀ X:World,X.drew.heap=X.heap from fun _=>rfl) ((w4.setCell ⟨p,i,none⟩ (.int .u64 q)).setCell ⟨p,8,none⟩ (.int .i64 ((th:Int)+1)));rw[hY]at e7 hm ⊢;rw[← e7]at h6;clear e7 hY h5;subst hu0 hu1;have ht:=hmo.trans (hm.mono (fun k _ e => .inl e));have hi':i=3∨i=4∨i=5∨i=6∨i=7:=by omega
 rcases hi' with rfl | rfl | rfl | rfl | rfl<;>exact⟨rfl,bn,v,⟨_,_,_,_,_,_,by rw[hn];exact hm4.box' hm (h6.trans (by rw[hl];rfl))⟩,hbn,hf,ht⟩
theorem zhB(h:yZ Fo w p k0 k1 k2 k3 k4 k5 ns.length ns){x:Ev}(hx:x.Ok)(hth:ns.length<1048576){a:Option Addr}{n c:Nat}(hv:zo w (.slice a n c) 1 (zQ x.e.val)) :
    Calls prog 155 #[lkP p,evV x.kind x.e.key (.slice a n c) x.e.birth x.e.dl x.tm] w (Jh Fo w p ns x):=by
  have hn:n≤65536:=by have:=jH hv;rw[kG]at this;have:=hx.e.v1;omega
  have HH:=za h;have HX:=za hx;have hb:=h.box;obtain⟨kd,⟨key,val,dl,birth⟩,tm⟩:=x;dsimp only at hv ⊢;obtain⟨K,hK⟩ : ∃ K:Int,(kd:Int)=K:=⟨_,rfl⟩;have hkk:(kd=1∧K=1)∨(kd=2∧K=2)∨(kd=3∧K=3)∨(kd=4∧K=4)∨(kd=5∧K=5):=by have h1:=hx.kd.1;have h2:=hx.kd.2;dsimp only at h1 h2;omega
  rw[hK];have e1:zc w (w.alloc (.cells #[.int .i64 K,.string key,.slice a n c,.int .u64 birth,.int .u64 dl,.int .u64 tm] 191)):=(Mod.refl _ w).alloc _;have z1:=zj (w:=w) (o := .cells #[.int .i64 K,.string key,.slice a n c,.int .u64 birth,.int .u64 dl,.int .u64 tm] 191 (0,0)) rfl;have HE1:=za e1;have HNo:=za (KA (h.pure e1));have hk1:key.size≤250:=hx.e.k1;have hvB:evB K key.size n birth dl tm=true:=by
    have hlen:=jH hv;rw[kG]at hlen;have h0:=hx.e.k0;have h1:=hx.e.k1;have h2:=hx.e.v1;have h3:=hx.e.b0;have h4:=hx.du;dsimp only at h0 h1 h2 h3 h4;unfold evB Xq vi xy X6;rw[h4];have e5:((birth:Int)==0)=false:=by simp;omega
    have e6:decide ((65536:Int)<(n:Int))=false:=zR (by omega);rw[e5,e6];rcases hkk with⟨rfl,rfl⟩ | ⟨rfl,rfl⟩ | ⟨rfl,rfl⟩ | ⟨rfl,rfl⟩ | ⟨rfl,rfl⟩<;>simp[h0,h1]
  have HVa:=za (fun W=>zeo K key a n c birth dl tm W (by omega) (by omega));rw[hvB]at HVa;have HOw:=za (fun(W:World) (hW:zc w W)=>zkI K key a n c birth dl tm (zQ val) W (hv.frame hW (fun _ _ h=>h)) (by omega));have hb1:=e1.heap (fun h=>h) hb;have hAd:=fun(W:World) (hW:zc w W) (a2:Option Addr) (n2 c2:Nat) (hr:yq W (.slice a2 n2 c2) (zQ val)) (hf:vf w (.slice a2 n2 c2))=>zin (h.pure hW) (x:=⟨kd,⟨key,val,dl,birth⟩,tm⟩) HX.out hr (fun g hg hfo=>by have:=hf g hg;have:=h.flt g hfo;omega) (fun g hg hd=>by have:=hf g hg;have:=h.lt hd;omega)
  dsimp only at hAd;rw[hK]at hAd;have HAd:=za hAd;clear hAd;have HTH:=za hth;have hnl:n=val.length:=by have:=jH hv;rw[kG]at this;omega
  have HNL:=za hnl;obtain⟨v0,hv0⟩:=zf (xu (nxt ns 0));obtain⟨v1,hv1⟩:=zf (xu (nxt ns (ns.length-1)));rw[hv0,hv1]at hb1;obtain⟨th,hthe⟩:=zf ns.length;rw[hthe]at hb1 hth;have HTE:=za hthe;have dth:decide ((1048576:Int)≤(th:Int))=false:=zR (by omega);have dthn:decide (1048576≤th)=false:=zR (by omega);clear h hx hv hb hK hv0 hv1 hthe hvB hnl;generalize hX:(⟨kd,⟨key,val,dl,birth⟩,tm⟩:Ev)=X at *;generalize hW1:w.alloc (.cells #[.int .i64 K,.string key,.slice a n c,.int .u64 birth,.int .u64 dl,.int .u64 tm] 191)=W1 at *;have HW1:=za hW1;clear hX hW1;rcases hkk with⟨rfl,rfl⟩ | ⟨rfl,rfl⟩ | ⟨rfl,rfl⟩ | ⟨rfl,rfl⟩ | ⟨rfl,rfl⟩
  all_goals
    go_enter func155,ntmps155;go_upto_region 1 with fail
    rw[HW1.out];obtain⟨b3,hb3⟩:=zf w.heap.size;rw[hb3]at z1 ⊢;have HB3:=za hb3;clear hb3;have Z1:=za z1;have HB1:=za hb1;obtain⟨z1_0,z1_1,z1_2,z1_3,z1_4,z1_5,z1_f,z1_l,H_z1⟩:=cr6 z1;clear z1;obtain⟨hb1_0,hb1_1,hb1_2,hb1_3,hb1_4,hb1_5,hb1_6,hb1_7,hb1_8,hb1_9,hb1_f,hb1_l,H_hb1⟩:=js hb1;clear hb1;go_upto_region 5 with(first
      | (go_at_call 106;refine HNo.out.mono ?_;rintro e w' ⟨rfl,rfl⟩)
      | (go_at_call 227;refine(HVa.out _).mono ?_;rintro e w2 ⟨rfl,hp2⟩))
    have z2:=hp2.heap (fun h=>h) Z1.out;have hb2:=hp2.heap (fun h=>h) HB1.out;have HP2:=za (HE1.out.trans hp2);clear z1_0 z1_1 z1_2 z1_3 z1_4 z1_5 z1_f z1_l;clear hb1_0 hb1_1 hb1_2 hb1_3 hb1_4 hb1_5 hb1_6 hb1_7 hb1_8 hb1_9 hb1_f hb1_l;clear H_z1 H_hb1 hp2;obtain⟨z2_0,z2_1,z2_2,z2_3,z2_4,z2_5,z2_f,z2_l,H_z2⟩:=cr6 z2;clear z2;obtain⟨hb2_0,hb2_1,hb2_2,hb2_3,hb2_4,hb2_5,hb2_6,hb2_7,hb2_8,hb2_9,hb2_f,hb2_l,H_hb2⟩:=js hb2;clear hb2;go_upto_region 8 with(first
      | (go_at_call 229;refine(HOw.out _ HP2.out).mono ?_;rintro e w3 ⟨a3,n3,c3,rfl,hr3,hf3,hp3⟩;have hbo3:=ZJ hr3)
      | (go_at_call 228;refine(HAd.out _ (HP2.out.trans hp3) _ _ _ hbo3 (fun g hg=>by have:=hf3 g hg;have:=HP2.out.size;omega)).mono ?_;rintro e w4 ⟨rfl,bn,hbn,hm4,hmod4⟩))
    have hb4:=hm4.box;have z4:=hmod4.heap (fun h=>by have:=HH.out.lt h;have:=HB3.out;omega) (hp3.heap (fun h=>h) H_z2.out);have sz2:w.heap.size≤w2.heap.size:=HP2.out.size;have sz3:w2.heap.size≤w3.heap.size:=hp3.size;have HM4:=za hm4;have HF3:Hid (vf w (.slice a3 n3 c3)):=za (fun g hg=>by have:=hf3 g hg;omega);have HMO:=za (Mod.trans' (HP2.out.trans hp3) hmod4 (fun _ _ h=>h.elim) (fun _ _ h=>h));have hbn':w.heap.size≤bn:=by omega
    clear z2_0 z2_1 z2_2 z2_3 z2_4 z2_5 z2_f z2_l;clear hb2_0 hb2_1 hb2_2 hb2_3 hb2_4 hb2_5 hb2_6 hb2_7 hb2_8 hb2_9 hb2_f hb2_l;clear H_z2 H_hb2 hr3 hf3 hp3 hbo3 hm4 hmod4;generalize hnn:ns++[(bn,X,Value.slice a3 n3 c3)]=ns2 at *;have hl2:ns2.length=th+1:=by rw[← hnn,zV,HTE.out];rfl
    rw[HTE.out]at hb4;obtain⟨u0,hu0⟩:=zf (xu (nxt ns2 0));obtain⟨u1,hu1⟩:=zf (xu (nxt ns2 (ns2.length-1)));rw[hu0,hu1]at hb4;have HU0:=za hu0;have HU1:=za hu1;have HB4:=za hb4;have HL2:=za hl2;have HNN:=za hnn;clear hu0 hu1 hnn hl2;obtain⟨z4_0,z4_1,z4_2,z4_3,z4_4,z4_5,z4_f,z4_l,H_z4⟩:=cr6 z4;clear z4;obtain⟨hb4_0,hb4_1,hb4_2,hb4_3,hb4_4,hb4_5,hb4_6,hb4_7,hb4_8,hb4_9,hb4_f,hb4_l,H_hb4⟩:=js hb4;clear hb4
    go_still_tail 13,(by kernel_rfl)
    go_upto_region 9 with fail
    have wth:IntKind.i64.wrap ((th:Int)+1)=(th:Int)+1:=zt _ (by omega)
    first | generalize IntKind.u64.wrap (k1+1)=q | generalize IntKind.u64.wrap (k2+1)=q | generalize IntKind.u64.wrap (k3+1)=q | generalize IntKind.u64.wrap (k4+1)=q | generalize IntKind.u64.wrap (k5+1)=q
    go_wp2;go_ret;exact zid (by omega) HM4.out HB4.out HU0.out HU1.out HL2.out hbn' HF3.out HMO.out HNN.out
theorem zeP(h:xN Fo w p ns){x:Ev}(hx:x.Ok)(hth:ns.length<1048576){a:Option Addr}{n c:Nat}(hv:zo w (.slice a n c) 1 (zQ x.e.val)) :
  Calls prog 155 #[lkP p,evV x.kind x.e.key (.slice a n c) x.e.birth x.e.dl x.tm] w (Jh Fo w p ns x):=by
 obtain⟨k0,k1,k2,k3,k4,k5,h⟩:=h;exact zhB h hx hth hv
end
theorem zkb:(prog.info? 191).map (fun i=>(i.zero,i.size,i.bytes))=some (some (.agg #[.int .i64 0,.string ⟨#[]⟩,.slice none 0 0,.int .u64 0,.int .u64 0,.int .u64 0]),6,72):=by kernel_rfl
def UZ(x:Ev × Value):List Value:=[.int .i64 x.1.kind,.string x.1.e.key,x.2,.int .u64 x.1.e.birth,.int .u64 x.1.e.dl,.int .u64 x.1.tm]
structure KU(w:World)(a:Option Addr)(c:Nat)(es:List (Ev × Value)):Prop where
 row:w.ownsRow 0 191 6 (.slice a es.length c) es.length (es.flatMap UZ)
 vals : ∀ x∈es,yq w x.2 (zQ x.1.e.val)
def uZ(ns:List EvN):List (Ev × Value):=ns.map (fun n=>n.2)
theorem QV(ns:List EvN):(uZ ns).length=ns.length:=by unfold uZ;simp
section
variable{Fo:Nat→Prop}{w w':World}{p:Nat}{ns:List EvN}
theorem zf0(o:Option Nat) : ∃ v,xu o=.pointer v:=by cases o<;>exact⟨_,rfl⟩
structure TkI(w wr:World)(p:Nat)(ns:List EvN)(k0 k1 k2 k3 k4 k5:Int)(i:Nat)(a:Option Addr)(c:Nat):Prop where
 box:wr.heap[p]? = some (.cells #[xu (nxt ns i),xu (nxt ns (ns.length-1)),.int .u64 k0,.int .u64 k1,.int .u64 k2,.int .u64 k3,.int .u64 k4,.int .u64 k5,.int .i64 ((ns.length-i:Nat):Int),.bool true] 189 (0,0))
 row:wr.ownsRow 0 191 6 (.slice a i c) i (((uZ ns).take i).flatMap UZ)
 fr:vf w (.slice a i c)
 mod:Mod (fun k=>k=p) w wr
def zk4(Fo:Nat→Prop)(w:World)(p:Nat)(ns:List EvN)(e:Ending)(w':World):Prop :=
 ∃ a c,e=.returned (.tuple #[.slice a ns.length c,.int .i64 0])∧KU w' a c (uZ ns)∧vf w (.slice a ns.length c)∧xN Fo w' p []∧Mod (fun k=>k=p) w w'
theorem Ku(h:xN Fo w p ns)(hlen:ns.length≤1048576):Calls prog 70 #[lkP p,.int .i64 ns.length] w (zk4 Fo w p ns):=by
 obtain⟨k0,k1,k2,k3,k4,k5,h⟩:=h;have HNo:=za (KA h);have HH:=za h;clear h;have HLE:=za hlen;obtain⟨n,hn⟩:=zf ns.length;have HN:=za hn;rw[hn]at hlen ⊢;clear hn;obtain⟨i0,hi,iz0,iz1,iz2⟩:=xG zkb;have dn0:decide ((n:Int)<0)=false:=zR (by omega);go_enter func70,ntmps70;go_upto_region 6 with(go_at_call 106;refine HNo.out.mono ?_;rintro e w' ⟨rfl,rfl⟩)
 go_loopw [6] (fun v wr => ∃(i:Nat) (a:Option Addr) (c:Nat),v=.slice a i c∧i≤n∧TkI w wr p ns k0 k1 k2 k3 k4 k5 i a c) (fun v _=>n-(match v with | .slice _ m _=>m | _=>0))
 case atStart =>
  refine⟨0,none,0,rfl,yi _,⟨?_,vJ _ _ _ _,(fun g hg=>by cases hg),Mod.refl _ _⟩⟩;have:=HH.out.box;simpa using this
 case round =>
  obtain⟨i,a,c,rfl,hin,hI⟩:=hrel;have HI:=za hI;have hb:=hI.box;clear hI;obtain⟨v1,hv1⟩:=zf (xu (nxt ns (ns.length-1)));rw[hv1]at hb;have HV1:=za hv1;clear hv1;by_cases hlt:i<n
  ·obtain⟨nn,hnn⟩ : ∃ nn,ns[i]? = some nn:=⟨_,zL (by have:=HN.out;omega)⟩;have hnx:nxt ns i=some nn.1:=by unfold nxt;rw[hnn];rfl
   rw[hnx]at hb;have hnd:=HI.out.mod.heap (HH.out.np (yl hnn)) (HH.out.node i nn hnn);have htk:(uZ ns).take (i+1)=(uZ ns).take i++[nn.2]:=by
    have:(uZ ns)[i]? = some nn.2:=by unfold uZ;rw[yC,hnn];rfl
    rw[uE,this];rfl
   have hvs:=HH.out.vals nn (yl hnn);have hnp:=HH.out.np (yl hnn);have HTK:=za htk;have HB:=za hb;obtain⟨v2,hv2⟩ : ∃ v,xu (nxt ns (i+1))=.pointer v:=zf0 _;rw[hv2]at hnd;have HV2:=za hv2;obtain⟨bl,⟨kd,⟨key,val,dl,birth⟩,tm⟩,nv⟩:=nn;obtain⟨va,vn,vc,rfl⟩ : ∃ a n c,nv=.slice a n c:=by obtain⟨va,vc,e,_⟩:=qr hvs;exact⟨_,_,_,e⟩
   dsimp only at hnd hnp;clear hnn hnx htk hvs hv2;dsimp only[xu]at hb;have HND:=za hnd;obtain⟨m,hm⟩:=zf (ns.length-i);rw[hm]at hb HB;have HM:=za hm;clear hm;have hlt':(i:Int)<(n:Int):=by omega
   have wm:IntKind.i64.wrap ((m:Int)-1)=(m:Int)-1:=zt _ (by have:=HM.out;have:=HLE.out;omega);obtain⟨hb_0,hb_1,hb_2,hb_3,hb_4,hb_5,hb_6,hb_7,hb_8,hb_9,hb_f,hb_l,H_hb⟩:=js hb;clear hb;obtain⟨hnd_0,hnd_1,hnd_2,hnd_3,hnd_4,hnd_5,hnd_6,hnd_f,hnd_l,H_hnd⟩:=cr7 hnd;clear hnd;go_upto_region 8 with(at_builtin;refine uK _ rfl _ _ 96 rfl 191 i0 _ 6 72 underlying96 hi iz0 iz1 iz2 rfl (by decide) (.slice a i c) i _ rfl (zy HI.out.row ((Mod.refl (fun _=>False) wr).alloc _) (fun _ _ h=>h)) _ [.int .i64 kd,.string key,.slice va vn vc,.int .u64 birth,.int .u64 dl,.int .u64 tm] 1 rfl (zo.of_block 1 1 6 (zj rfl) (by rfl) (by simp[Value.oneCell'])) rfl (by unfold maxLen;omega) (by omega) ?_;intro a7 c7 w7 hr7 hg7 hb7)
   have hpl:p<w.heap.size:=zm HH.out.box;have hm7:Mod (fun k=>(Value.slice a i c).ownBlock=some k) wr w7:=((Mod.refl _ wr).alloc _).trans (Mod.of_grown (S:=fun k'=>(Value.slice a i c).ownBlock=some k') hg7 (fun k e _=>e));have hbx7:=hm7.heap (fun e=>by have:=HI.out.fr p e;omega) HB.out;have hnx7:=hm7.heap (fun e=>by have:=HI.out.fr bl e;have:=zm HND.out;have h8:=HH.out.lt (p:=p) (k:=bl);obtain⟨cu,e9⟩:=yc HI.out.row e;rw[HND.out]at e9;injection e9 with e9;injection e9 with _ e9;exact absurd e9 (by decide)) HND.out;have hf7:vf w (.slice a7 (i+1) c7):=fun g hg=>by
    rcases hb7 with e | e
    ·exact HI.out.fr g (e ▸ hg)
    ·rw[e]at hg;cases hg;have:=HI.out.mod.size;simp;omega
   have HB7:=za hbx7;have HF7:=za hf7;have HR7:=za hr7;have HM7:=za hm7;clear hb_0 hb_1 hb_2 hb_3 hb_4 hb_5 hb_6 hb_7 hb_8 hb_9 hb_f hb_l;clear hnd_0 hnd_1 hnd_2 hnd_3 hnd_4 hnd_5 hnd_6 hnd_f hnd_l;clear H_hb H_hnd hb7 hg7 hr7 hm7 hf7;dsimp only[xu]at hbx7;obtain⟨hbx7_0,hbx7_1,hbx7_2,hbx7_3,hbx7_4,hbx7_5,hbx7_6,hbx7_7,hbx7_8,hbx7_9,hbx7_f,hbx7_l,H_hbx7⟩:=js hbx7;clear hbx7;obtain⟨hnx7_0,hnx7_1,hnx7_2,hnx7_3,hnx7_4,hnx7_5,hnx7_6,hnx7_f,hnx7_l,H_hnx7⟩:=cr7 hnx7;clear hnx7;go_upto_region 9 with fail
   have h8:=ya w7 p 0 _ _ (.pointer v2) HB7.out;have hm8:Mod (fun k=>k=p) w7 (w7.setCell ⟨p,0,none⟩ (.pointer v2)):=(Mod.refl (fun k=>k=p) w7).setCell (p:=⟨p,0,none⟩) (fun _=>rfl) _;obtain⟨X8,hX8⟩:=zf (w7.setCell ⟨p,0,none⟩ (.pointer v2));rw[hX8]at h8 hm8 ⊢;have H8:=za h8;have HM8:=za hm8;clear hbx7_0 hbx7_1 hbx7_2 hbx7_3 hbx7_4 hbx7_5 hbx7_6 hbx7_7 hbx7_8 hbx7_9 hbx7_f hbx7_l;clear hnx7_0 hnx7_1 hnx7_2 hnx7_3 hnx7_4 hnx7_5 hnx7_6 hnx7_f hnx7_l;clear H_hbx7 H_hnx7 hX8 hm8;simp only[List.setIfInBounds_toArray,List.set_cons_succ,List.set_cons_zero,xu]at h8;obtain⟨h8_0,h8_1,h8_2,h8_3,h8_4,h8_5,h8_6,h8_7,h8_8,h8_9,h8_f,h8_l,H_h8⟩:=js h8;clear h8;go_wp2;go_roundw
   case rel =>
    have h9:=ya X8 p 8 _ _ (.int .i64 ((m:Int)-1)) H8.out;have hm9:Mod (fun k=>k=p) X8 (X8.setCell ⟨p,8,none⟩ (.int .i64 ((m:Int)-1))):=(Mod.refl (fun k=>k=p) X8).setCell (p:=⟨p,8,none⟩) (fun _=>rfl) _;have hm79:=HM8.out.trans hm9;refine⟨i+1,a7,c7,rfl,hlt,⟨?_,?_,HF7.out,?_⟩⟩
    ·rw[h9,HV2.out,HV1.out];have e9:((ns.length-(i+1):Nat):Int)=(m:Int)-1:=by have:=HM.out;have:=HN.out;omega
     rw[e9]
     rfl
    ·rw[HTK.out,ZL];have h10:=zy HR7.out hm79 (fun g hg e=>by
      obtain⟨cu,e9⟩:=yc HR7.out hg;subst e;rw[HB7.out]at e9;injection e9 with e9;injection e9 with _ e9;exact absurd e9 (by decide))
     simpa[UZ]using h10
    ·exact(HI.out.mod.then HM7.out (fun k hk e=>by have:=HI.out.fr k e;omega)).trans hm79
   case measure=>simp;omega
  ·have hin':i=n:=by omega
   subst hin';have hnx:nxt ns i=none:=Jk (by have:=HN.out;omega);rw[hnx]at hb;dsimp only[xu]at hb;have HB:=za hb;have hlt':(i:Int)≤(i:Int):=Int.le_refl _;obtain⟨hb_0,hb_1,hb_2,hb_3,hb_4,hb_5,hb_6,hb_7,hb_8,hb_9,hb_f,hb_l,H_hb⟩:=js hb;clear hb;go_wp2;have h9:=ya wr p 1 _ _ (.pointer none) HB.out;have hm9:Mod (fun k=>k=p) wr (wr.setCell ⟨p,1,none⟩ (.pointer none)):=(Mod.refl (fun k=>k=p) wr).setCell (p:=⟨p,1,none⟩) (fun _=>rfl) _;go_ret2;refine⟨a,c,by rw[HN.out];rfl,⟨?_,fun x hx => ?_⟩,by rw[HN.out];exact HI.out.fr,⟨k0,k1,k2,k3,k4,k5,⟨?_,(fun j m' hj=>by cases hj),(fun m' hm'=>by cases hm'),(fun m' hm'=>by cases hm'),jf,(fun m' hm'=>by cases hm'),fun k hk=>hm9.lt (HI.out.mod.lt (HH.out.flt k hk))⟩⟩,HI.out.mod.trans hm9⟩
   ·have h10:=HI.out.row;rw[qp (by rw[QV,HN.out];exact zI _)]at h10;have h11:=zy h10 hm9 (fun g hg e=>by
     obtain⟨cu,e9⟩:=yc h10 hg;subst e;rw[HB.out]at e9;injection e9 with e9;injection e9 with _ e9;exact absurd e9 (by decide))
    rw[QV,HN.out];exact h11
   ·obtain⟨m',hm',rfl⟩:=zz.1 hx;exact zy (HH.out.vals m' hm') (HI.out.mod.trans hm9) (fun g hg e=>by
     obtain⟨cu,e9⟩:=yc (HH.out.vals m' hm') hg;subst e;rw[HH.out.box]at e9;injection e9 with e9;injection e9 with _ e9;exact absurd e9 (by decide))
   ·rw[h9];have e9:((ns.length-i:Nat):Int)=0:=by have:=HN.out;omega
    rw[e9]
    rfl
end
def kY(ns:List EvN):List Ev:=ns.map (fun n=>n.2.1)
section
variable{Fo Fo' S:Nat→Prop}{w w':World}
theorem zU.frameR{D:Nat→Prop}{p:Nat}{sv:Value}{M:List (Option Ent × Value)}(h:zU Fo w D p sv M)(hm:Mod S w w')(hD : ∀ k,D k → ¬ S k)(hS : ∀ k,k<w.heap.size→S k→Fo k)(h1 : ∀ k,Fo' k→Fo k∨w.heap.size≤k)(h2 : ∀ k,Fo' k→k<w'.heap.size):zU Fo' w' D p sv M:=by
 have h':=h.frameF hm hD (fun k hk hs => .inl (hS k hk hs));refine⟨h'.box,h'.row,h'.vals,h'.dd,h'.ok,fun e v g hv hg hf => ?_,h2⟩;rcases h1 g hf with hx | hx
 ·exact h.off e v g hv hg hx
 ·have:=vY (h.vals e v hv) hg;omega
theorem yg.frameR{D:Nat→Prop}{p:Nat}{L:List (Option Ent)}(h:yg Fo w D p L)(hm:Mod S w w')(hD : ∀ k,D k → ¬ S k)(hS : ∀ k,k<w.heap.size→S k→Fo k)(h1 : ∀ k,Fo' k→Fo k∨w.heap.size≤k)(h2 : ∀ k,Fo' k→k<w'.heap.size):yg Fo' w' D p L:=by
 obtain⟨sv,M,e,h⟩:=h;exact⟨sv,M,e,h.frameR hm hD hS h1 h2⟩
theorem zY.frameR{d q p:Nat}{sv:Value}{Dl:Nat→Prop}{seed:Nat}{same:Bool}{L:List (Option Ent)}{Gs:List Grp}(h:zY Fo w d q p sv Dl seed same L Gs)(hm:Mod S w w')(hD : ∀ k,j3 d Dl p sv k → ¬ S k)(hS : ∀ k,k<w.heap.size→S k→Fo k)(h1 : ∀ k,Fo' k→Fo k∨w.heap.size≤k)(h2 : ∀ k,Fo' k→k<w'.heap.size):zY Fo' w' d q p sv Dl seed same L Gs:=by
 have h':=h.frameF hm hD (fun k hk hs => .inl (hS k hk hs));exact⟨h'.box,h.log.frameR hm (fun k hk=>hD k (.inr (.inl hk))) hS h1 h2,h'.ix,h'.sd⟩
theorem yb.frameR{D:Nat→Prop}{d seed:Nat}{same:Bool}{L:List (Option Ent)}{Gs:List Grp}(h:yb Fo w D d seed same L Gs)(hm:Mod S w w')(hD : ∀ k,D k → ¬ S k)(hS : ∀ k,k<w.heap.size→S k→Fo k)(h1 : ∀ k,Fo' k→Fo k∨w.heap.size≤k)(h2 : ∀ k,Fo' k→k<w'.heap.size):yb Fo' w' D d seed same L Gs:=by
 obtain⟨q,p,sv,Dl,h3,h4,h5⟩:=h;exact⟨q,p,sv,Dl,h3.frameR hm (fun k hk=>hD k ((h5 k).2 hk)) hS h1 h2,h4,h5⟩
theorem zU.add{D:Nat→Prop}{p:Nat}{sv:Value}{M:List (Option Ent × Value)}{T:Nat→Prop}(h:zU Fo w D p sv M)(hT : ∀ k,T k → ∃ ob,w.heap[k]? = some ob ∧ ∀ cs fz,ob ≠ .cells cs 5 fz):zU (fun k=>Fo k∨T k) w D p sv M:=by
 refine⟨h.box,h.row,h.vals,h.dd,h.ok,fun e v g hv hg hf => ?_,fun k hk => ?_⟩
 ·rcases hf with hf | hf
  ·exact h.off e v g hv hg hf
  ·obtain⟨ob,h1,h2⟩:=hT g hf;obtain⟨cur,h3⟩:=yc (h.vals e v hv) hg;rw[h1]at h3;injection h3 with h3
   exact h2 _ _ h3
 ·rcases hk with hk | hk
  ·exact h.flt k hk
  ·obtain⟨ob,h1,_⟩:=hT k hk;exact(uX.1 h1).1
theorem yb.add{D T:Nat→Prop}{d seed:Nat}{same:Bool}{L:List (Option Ent)}{Gs:List Grp}(h:yb Fo w D d seed same L Gs)(hT : ∀ k,T k → ∃ ob,w.heap[k]? = some ob ∧ ∀ cs fz,ob ≠ .cells cs 5 fz):yb (fun k=>Fo k∨T k) w D d seed same L Gs:=by
 obtain⟨q,p,sv,Dl,h3,h4,h5⟩:=h;obtain⟨lv,M,e,h6⟩:=h3.log;exact⟨q,p,sv,Dl,⟨h3.box,⟨lv,M,e,h6.add hT⟩,h3.ix,h3.sd⟩,h4,h5⟩
theorem yb.less{D:Nat→Prop}{d seed:Nat}{same:Bool}{L:List (Option Ent)}{Gs:List Grp}(h:yb Fo w D d seed same L Gs)(h1 : ∀ k,Fo' k→Fo k):yb Fo' w D d seed same L Gs:=h.refo (Mod.refl _ w) (fun k hk => .inl (h1 k hk)) (fun k hk=>by
 obtain⟨q,p,sv,Dl,h3,h4,h5⟩:=h;obtain⟨lv,M,e,h6⟩:=h3.log;exact h6.flt k (h1 k hk))
theorem yb.holds{D:Nat→Prop}{d seed:Nat}{same:Bool}{L:List (Option Ent)}{Gs:List Grp}(h:yb Fo w D d seed same L Gs){k:Nat}(hk:D k) : ∃ ob,w.heap[k]? = some ob ∧ ∀ cs fz,ob ≠ .cells cs 5 fz:=by
 have hl:=h.lt hk;refine⟨_,qY hl,fun cs fz e => ?_⟩;have h1:=h.types hk (cs:=cs) (T:=5) (fz:=fz) (by rw[qY hl,e]);rcases h1 with h1 | h1 | h1 | h1 | h1<;>exact absurd h1 (by decide)
theorem yZ.frameR{p:Nat}{k0 k1 k2 k3 k4 k5:Int}{th:Nat}{ns:List EvN}(h:yZ Fo w p k0 k1 k2 k3 k4 k5 th ns)(hm:Mod S w w')(hD : ∀ k,evD p ns k → ¬ S k)(hS : ∀ k,k<w.heap.size→S k→Fo k)(h1 : ∀ k,Fo' k→Fo k∨w.heap.size≤k)(h2 : ∀ k,Fo' k→k<w'.heap.size):yZ Fo' w' p k0 k1 k2 k3 k4 k5 th ns:=by
 have h':=h.frameF hm hD (fun k hk hs => .inl (hS k hk hs));refine⟨h'.box,h'.node,h'.vals,fun n hn g hg hf => ?_,h'.nd,h'.ok,h2⟩;rcases h1 g hf with hx | hx
 ·exact h.off n hn g hg hx
 ·have:=vY (h.vals n hn) hg;omega
theorem yZ.add{T:Nat→Prop}{p:Nat}{k0 k1 k2 k3 k4 k5:Int}{th:Nat}{ns:List EvN}(h:yZ Fo w p k0 k1 k2 k3 k4 k5 th ns)(hT : ∀ k,T k → ∃ ob,w.heap[k]? = some ob ∧ ∀ cs fz,ob ≠ .cells cs 5 fz):yZ (fun k=>Fo k∨T k) w p k0 k1 k2 k3 k4 k5 th ns:=by
 refine⟨h.box,h.node,h.vals,fun n hn g hg hf => ?_,h.nd,h.ok,fun k hk => ?_⟩
 ·rcases hf with hf | hf
  ·exact h.off n hn g hg hf
  ·obtain⟨ob,h1,h2⟩:=hT g hf;obtain⟨cur,h3⟩:=yc (h.vals n hn) hg;rw[h1]at h3;injection h3 with h3
   exact h2 _ _ h3
 ·rcases hk with hk | hk
  ·exact h.flt k hk
  ·obtain⟨ob,h1,_⟩:=hT k hk;exact(uX.1 h1).1
theorem xN.frameR{p:Nat}{ns:List EvN}(h:xN Fo w p ns)(hm:Mod S w w')(hD : ∀ k,evD p ns k → ¬ S k)(hS : ∀ k,k<w.heap.size→S k→Fo k)(h1 : ∀ k,Fo' k→Fo k∨w.heap.size≤k)(h2 : ∀ k,Fo' k→k<w'.heap.size):xN Fo' w' p ns:=by
 obtain⟨k0,k1,k2,k3,k4,k5,h⟩:=h;exact⟨k0,k1,k2,k3,k4,k5,h.frameR hm hD hS h1 h2⟩
theorem xN.add{T:Nat→Prop}{p:Nat}{ns:List EvN}(h:xN Fo w p ns)(hT : ∀ k,T k → ∃ ob,w.heap[k]? = some ob ∧ ∀ cs fz,ob ≠ .cells cs 5 fz):xN (fun k=>Fo k∨T k) w p ns:=by
 obtain⟨k0,k1,k2,k3,k4,k5,h⟩:=h;exact⟨k0,k1,k2,k3,k4,k5,h.add hT⟩
theorem xN.less{p:Nat}{ns:List EvN}(h:xN Fo w p ns)(h1 : ∀ k,Fo' k→Fo k):xN Fo' w p ns:=by
 obtain⟨k0,k1,k2,k3,k4,k5,h⟩:=h;exact⟨k0,k1,k2,k3,k4,k5,h.refo (Mod.refl _ w) (fun k hk => .inl (h1 k hk)) (fun k hk=>h.flt k (h1 k hk))⟩
theorem xN.lt{p:Nat}{ns:List EvN}(h:xN Fo w p ns){k:Nat}(hk:evD p ns k):k<w.heap.size:=by
 obtain⟨k0,k1,k2,k3,k4,k5,h⟩:=h;exact h.lt hk
theorem xN.flt{p:Nat}{ns:List EvN}(h:xN Fo w p ns){k:Nat}(hk:Fo k):k<w.heap.size:=by
 obtain⟨k0,k1,k2,k3,k4,k5,h⟩:=h;exact h.flt k hk
theorem xN.holds{p:Nat}{ns:List EvN}(h:xN Fo w p ns){k:Nat}(hk:evD p ns k) : ∃ ob,w.heap[k]? = some ob ∧ ∀ cs fz,ob ≠ .cells cs 5 fz:=by
 obtain⟨k0,k1,k2,k3,k4,k5,h⟩:=h;rcases hk with rfl | ⟨n,hn,rfl⟩
 ·exact⟨_,h.box,fun cs fz e=>by injection e with _ e;exact absurd e (by decide)⟩
 ·obtain⟨i,hi⟩:=ur hn;exact⟨_,h.node i n hi,fun cs fz e=>by injection e with _ e;exact absurd e (by decide)⟩
end
theorem zhw(seed:Int)(same:Bool)(w:World):Calls prog 101 #[.int .u64 seed,.bool same] w fun e w'=>e=.returned (.agg #[.int .u64 seed,.bool same])∧zc w w':=by
 have hr:w.heap.size<(w.alloc (.cells #[.int .u64 0,.bool false] 178)).heap.size:=by simp
 have hb:=zj (w:=w) (o := .cells #[.int .u64 0,.bool false] 178 (0,0)) rfl;have hp0:zc w (w.alloc (.cells #[.int .u64 0,.bool false] 178)):=(Mod.refl _ w).alloc _;have HP:=za hp0;clear hp0;go_enter func101,ntmps101;go_upto_region 1 with fail
 generalize w.alloc (.cells #[.int .u64 0,.bool false] 178)=W1 at *;obtain⟨b,hbe⟩:=zf w.heap.size;rw[hbe]at hb hr ⊢;have HBE:=za hbe;clear hbe;obtain⟨hb_0,hb_1,hb_f,hb_l,H_hb⟩:=cr2 hb;clear hb;go_wp2;have h8:=ya W1 b 0 _ _ (.int .u64 seed) H_hb.out;have h9:=ya _ b 1 _ _ (.bool same) h8;have hm9:Mod (fun i=>i=b) W1 ((W1.setCell ⟨b,0,none⟩ (.int .u64 seed)).setCell ⟨b,1,none⟩ (.bool same)):=Mod.set2 b 0 1 _ _;generalize(W1.setCell ⟨b,0,none⟩ (.int .u64 seed)).setCell ⟨b,1,none⟩ (.bool same)=W9 at *;simp only[List.setIfInBounds_toArray,List.set_cons_succ,List.set_cons_zero,Array.setIfInBounds]at h9;have c0:W9.cell? ⟨b,0,none⟩=some (.int .u64 seed):=zi W9 b 0 _ _ (0,0) (by simpa using h9);have c1:W9.cell? ⟨b,1,none⟩=some (.bool same):=zi W9 b 1 _ _ (0,0) (by simpa using h9);refine zN (v := .agg #[.int .u64 seed,.bool same]) (by simp[results,results101,go_sem,c0,c1]) rfl ⟨rfl,HP.out.then hm9 (fun i hi e=>by have:=HBE.out;omega)⟩
def Cfg.ok(c:Cfg):Prop:=1≤c.count∧c.count≤1048576∧1≤c.bytes∧c.bytes≤1099511627776∧0≤c.prot∧c.prot≤99
theorem Cfg.err_ok{c:Cfg}:c.err=0↔c.ok:=by
 unfold Cfg.err Cfg.ok uU;constructor
 ·intro h;split at h
  ·split at h
   ·split at h
    ·rename_i h1 h2 h3;simp at h1 h2 h3;omega
    ·cases h
   ·cases h
  ·cases h
 ·intro⟨h1,h2,h3,h4,h5,h6⟩;simp[h1,h2,h3,h4,h5,h6]
def Cfg.part(c:Cfg):Int:=if c.prot=0 then -1 else c.bytes*c.prot/100
theorem Cfg.part_rng{c:Cfg}(h:c.ok) : -1≤c.part∧c.part≤1099511627776∧(c.prot≠0→0≤c.part):=by
 obtain⟨h1,h2,h3,h4,h5,h6⟩:=h;unfold Cfg.part;have hm:0≤c.bytes*c.prot:=Int.mul_nonneg (by omega) h5;have hm2:c.bytes*c.prot≤1099511627776*99:=Int.mul_le_mul h4 h6 h5 (by omega);split<;>omega
theorem za1{c:Cfg}(hc:c.ok)(w:World):Calls prog 97 #[c.v] w fun e w'=>e=.returned (.tuple #[.int .i64 c.part,.int .i64 0])∧zc w w':=by
 have he:=Cfg.err_ok.2 hc;have hpr:=Cfg.part_rng hc;have HC:=za (fun W=>zbP c W);rw[he]at HC;obtain⟨pt,hpt⟩:=zf c.part;rw[hpt]at hpr ⊢;obtain⟨cn,cb,cp,sd,sm⟩:=c;unfold Cfg.part at hpt;obtain⟨h1,h2,h3,h4,h5,h6⟩:=hc;dsimp only[Cfg.v]at HC hpt h1 h2 h3 h4 h5 h6 ⊢;have hp0:zc w (w.alloc (.cells #[.int .i64 cn,.int .i64 cb,.int .i64 cp,.int .u64 sd,.bool sm] 29)):=(Mod.refl _ w).alloc _;have z:=zj (w:=w) (o:=(.cells #[.int .i64 cn,.int .i64 cb,.int .i64 cp,.int .u64 sd,.bool sm] 29 (0,0))) rfl;have HP:=za hp0;have hm:0≤cb*cp:=Int.mul_nonneg (by omega) h5;have hm2:cb*cp≤1099511627776*99:=Int.mul_le_mul h4 h6 h5 (by omega);have wm:IntKind.i64.wrap (cb*cp)=cb*cp:=zt _ (by omega);have wq:wrap64 (cb*cp/100)=cb*cp/100:=by unfold wrap64;omega
 have htd:(cb*cp).tdiv 100=cb*cp/100:=Jn hm;have wq2:IntKind.i64.wrap ((cb*cp).tdiv 100)=cb*cp/100:=by rw[htd];exact zt _ (by omega)
 clear hp0 he hpr hm hm2 h1 h2 h3 h4 h5 h6;by_cases h0:cp=0
 ·rw[zk h0]at hpt;subst h0;have HPT:=za hpt;clear hpt wm wq wq2 htd;go_enter func97,ntmps97;go_upto_region 1 with fail
  generalize w.alloc (.cells #[.int .i64 cn,.int .i64 cb,.int .i64 0,.int .u64 sd,.bool sm] 29)=W1 at *;generalize w.heap.size=bb at *;obtain⟨z_0,z_1,z_2,z_3,z_4,z_f,z_l,H_z⟩:=cr5 z;clear z;go_upto_region 4 with(go_at_call 66;refine(HC.out _).mono ?_;rintro e w2 ⟨rfl,hp2⟩)
  have z2:=hp2.heap (fun h=>h) H_z.out;clear z_0 z_1 z_2 z_3 z_4 z_f z_l;clear H_z;obtain⟨z2_0,z2_1,z2_2,z2_3,z2_4,z2_f,z2_l,H_z2⟩:=cr5 z2;clear z2;go_wp2;go_ret2;exact⟨by rw[← HPT.out];rfl,HP.out.trans hp2⟩
 ·rw[zh h0]at hpt;have h0':(cp==0)=false:=uY.2 h0;have HPT:=za hpt;clear hpt h0;go_enter func97,ntmps97;go_upto_region 1 with fail
  generalize w.alloc (.cells #[.int .i64 cn,.int .i64 cb,.int .i64 cp,.int .u64 sd,.bool sm] 29)=W1 at *;generalize w.heap.size=bb at *;obtain⟨z_0,z_1,z_2,z_3,z_4,z_f,z_l,H_z⟩:=cr5 z;clear z;go_upto_region 4 with(go_at_call 66;refine(HC.out _).mono ?_;rintro e w2 ⟨rfl,hp2⟩)
  have z2:=hp2.heap (fun h=>h) H_z.out;clear z_0 z_1 z_2 z_3 z_4 z_f z_l;clear H_z;obtain⟨z2_0,z2_1,z2_2,z2_3,z2_4,z2_f,z2_l,H_z2⟩:=cr5 z2;clear z2;go_wp2;go_ret2;exact⟨by rw[← HPT.out];show Ending.returned (.tuple #[.int .i64 (wrap64 (cb*cp/100)),.int .i64 0])=_;rw[wq],HP.out.trans hp2⟩
end
section
def xh(Lss:List (List (List Nat)))(l b s:Nat):Prop := ∃ Ls L,Lss[l]? = some Ls∧Ls[b]? = some L∧s∈L
structure ye(now:Nat)(M:List Td)(P:Nat→Prop)(Lss:List (List (List Nat))):Prop where
 len:Lss.length=8
 wide : ∀(l:Nat) (Ls:List (List Nat)),Lss[l]? = some Ls→Ls.length=256
 nd : ∀(l b:Nat) (Ls:List (List Nat)) (L:List Nat),Lss[l]? = some Ls→Ls[b]? = some L→L.Nodup
 slots : ∀ x∈M,∀ y∈M,x.slot=y.slot→x=y
 births : ∀ x∈M,∀ y∈M,x.birth=y.birth→x=y
 ndM:M.Nodup
 rng : ∀ x∈M,x.slot<4194304∧x.dl<18446744073709551615∧0<x.birth∧x.birth≤18446744073709551615
 after : ∀ x∈M,¬ P x.slot→now<x.dl
 at_ : ∀ l b s,xh Lss l b s ↔ ¬ P s ∧ ∃ x∈M,x.slot=s∧lvl now x.dl=l∧bkt now x.dl=b
section
variable{now tt:Nat}{M M':List Td}{P Q:Nat→Prop}{Lss Lss':List (List (List Nat))}{Ls:List (List Nat)}{L L':List Nat}{lv bk:Nat}{x:Td}
theorem zbB(hL:Lss[lv]? = some Ls)(hK:Ls[bk]? = some L)(l b s:Nat):xh (Lss.set lv (Ls.set bk L')) l b s↔if l=lv∧b=bk then s∈L' else xh Lss l b s:=by
 have hl:=(zE.1 hL).1;have hb:=(zE.1 hK).1;unfold xh;by_cases e1:l=lv
 ·subst e1;rw[yv hl];by_cases e2:b=bk
  ·subst e2;rw[zk ⟨rfl,rfl⟩];constructor
   ·rintro⟨A,B,h1,h2,h3⟩
    cases h1
    rw[yv hb]at h2
    cases h2
    exact h3
   ·intro h;exact⟨_,_,rfl,yv hb,h⟩
  ·rw[zh (fun c=>e2 c.2)];constructor
   ·rintro⟨A,B,h1,h2,h3⟩
    cases h1
    rw[yy (fun c=>e2 c.symm)]at h2;exact⟨_,_,hL,h2,h3⟩
   ·rintro⟨A,B,h1,h2,h3⟩;rw[hL]at h1
    cases h1
    exact⟨_,_,rfl,by rw[yy (fun c=>e2 c.symm)];exact h2,h3⟩
 ·rw[zh (fun c=>e1 c.1),yy (fun c=>e1 c.symm)]
theorem zaQ(hL:Lss[lv]? = some Ls)(h1 : ∀(l:Nat) (A:List (List Nat)),Lss[l]? = some A→A.length=256){Ls':List (List Nat)}(h2:Ls'.length=256)(l:Nat)(A:List (List Nat))(h:(Lss.set lv Ls')[l]? = some A):A.length=256:=by
 have hl:=(zE.1 hL).1;by_cases e1:l=lv
 ·subst e1;rw[yv hl]at h
  cases h
  exact h2
 ·rw[yy (fun c=>e1 c.symm)]at h;exact h1 l A h
theorem zb6(hL:Lss[lv]? = some Ls)(hK:Ls[bk]? = some L)(h1 : ∀(l b:Nat) (A:List (List Nat)) (B:List Nat),Lss[l]? = some A→A[b]? = some B→B.Nodup)(h2:L'.Nodup)(l b:Nat)(A:List (List Nat))(B:List Nat)(hA:(Lss.set lv (Ls.set bk L'))[l]? = some A)(hB:A[b]? = some B):B.Nodup:=by
 have hl:=(zE.1 hL).1;have hb:=(zE.1 hK).1;by_cases e1:l=lv
 ·subst e1;rw[yv hl]at hA
  cases hA
  by_cases e2:b=bk
  ·subst e2;rw[yv hb]at hB
   cases hB
   exact h2
  ·rw[yy (fun c=>e2 c.symm)]at hB;exact h1 l b _ _ hL hB
 ·rw[yy (fun c=>e1 c.symm)]at hA;exact h1 l b A B hA hB
theorem ye.get(h:ye now M P Lss)(h1:lv<8)(h2:bk<256) : ∃ Ls L,Lss[lv]? = some Ls∧Ls[bk]? = some L:=by
 obtain⟨Ls,hL⟩ : ∃ Ls,Lss[lv]? = some Ls:=⟨_,zL (by rw[h.len];exact h1)⟩;exact⟨Ls,_,hL,zL (by rw[h.wide lv Ls hL];exact h2)⟩
theorem ye.uniq(h:ye now M P Lss){l b l' b' s:Nat}(h1:xh Lss l b s)(h2:xh Lss l' b' s):l=l'∧b=b':=by
 obtain⟨_,x,hx,e1,e2,e3⟩:=(h.at_ _ _ _).1 h1;obtain⟨_,y,hy,f1,f2,f3⟩:=(h.at_ _ _ _).1 h2;have:=h.slots x hx y hy (by rw[e1,f1]);subst this;exact⟨by rw[← e2,f2],by rw[← e3,f3]⟩
theorem ye.out(h:ye now M P Lss){s:Nat}(hp : ∀ y∈M,y.slot=s→P s)(l b:Nat) : ¬ xh Lss l b s:=fun c=>by
 obtain⟨h1,y,hy,e,_⟩:=(h.at_ _ _ _).1 c;exact h1 (hp y hy e)
theorem ye.notL(h:ye now M P Lss){s:Nat}(hp : ∀ y∈M,y.slot=s→P s)(hL:Lss[lv]? = some Ls) : ¬ inL Ls s:=fun⟨b,l,h1,h2⟩=>h.out hp lv b ⟨Ls,l,hL,h1,h2⟩
theorem ye.put(h:ye now M P Lss)(hc:VK M x M')(hn:now<x.dl)(hr:x.slot<4194304∧x.dl<18446744073709551615∧0<x.birth∧x.birth≤18446744073709551615)(hp : ∀ y∈M,y.slot=x.slot→P x.slot)
  (hL:Lss[lvl now x.dl]? = some Ls) (hK:Ls[bkt now x.dl]? = some L) (hQ : ∀ s,Q s↔P s∧s≠x.slot):ye now M' Q (Lss.set (lvl now x.dl) (Ls.set (bkt now x.dl) (L++[x.slot]))):=by
 have hmem : ∀ y,y∈M'↔y=x∨y∈M:=fun y=>by
  rcases hc with⟨_,_,rfl⟩ | ⟨h1,_,rfl⟩
  ·exact zO
  ·exact⟨.inr,fun e=>by rcases e with rfl | e;exact h1;exact e⟩
 have hu : ∀ y∈M',y.slot=x.slot→y=x:=fun y hy e=>by
  rcases hc with⟨h1,_,rfl⟩ | ⟨_,h2,rfl⟩
  ·rcases zO.1 hy with rfl | hy
   ·rfl
   ·exact absurd e (h1 y hy)
  ·exact h2 y hy e
 have hout:=h.out hp;refine⟨by rw[xF];exact h.len,zaQ hL h.wide (by rw[xF];exact h.wide _ _ hL),zb6 hL hK h.nd ?_,?_,?_,?_,?_,?_,fun l b s => ?_⟩
 ·rw[xD];refine⟨h.nd _ _ _ _ hL hK,by simp,fun a ha b hb e => ?_⟩;rw[zF]at hb;subst hb;subst e;exact hout _ _ ⟨Ls,L,hL,hK,ha⟩
 ·intro a ha b hb e;rcases(hmem a).1 ha with rfl | ha2
  ·exact(hu b hb e.symm).symm
  ·rcases(hmem b).1 hb with rfl | hb2
   ·exact hu a ha e
   ·exact h.slots a ha2 b hb2 e
 ·rcases hc with⟨_,h2,rfl⟩ | ⟨_,_,rfl⟩
  ·intro a ha b hb e;rcases zO.1 ha with ea | ha'
   ·rcases zO.1 hb with eb | hb'
    ·rw[ea,eb]
    ·exact absurd (by rw[← e,ea]) (h2 b hb')
   ·rcases zO.1 hb with eb | hb'
    ·exact absurd (by rw[e,eb]) (h2 a ha')
    ·exact h.births a ha' b hb' e
  ·exact h.births
 ·rcases hc with⟨h1,_,rfl⟩ | ⟨_,_,rfl⟩
  ·exact yO.2 ⟨fun c=>h1 x c rfl,h.ndM⟩
  ·exact h.ndM
 ·intro y hy;rcases(hmem y).1 hy with rfl | hy
  ·exact hr
  ·exact h.rng y hy
 ·intro y hy hq;by_cases e:y.slot=x.slot
  ·rw[hu y hy e];exact hn
  ·rcases(hmem y).1 hy with rfl | hy
   ·exact hn
   ·exact h.after y hy (fun c=>hq ((hQ _).2 ⟨c,e⟩))
 ·rw[zbB hL hK];by_cases e:s=x.slot
  ·subst e;have hq : ¬ Q x.slot:=fun c=>((hQ _).1 c).2 rfl
   by_cases c:l=lvl now x.dl∧b=bkt now x.dl
   ·rw[zk c];exact⟨fun _=>⟨hq,x,(hmem x).2 (.inl rfl),rfl,c.1.symm,c.2.symm⟩,fun _=>xM _ yE⟩
   ·rw[zh c];refine⟨fun k=>absurd k (hout _ _),fun⟨_,y,hy,e1,e2,e3⟩=>absurd ?_ c⟩;have:=hu y hy e1;subst this;exact⟨e2.symm,e3.symm⟩
  ·have hqp:Q s↔P s:=⟨fun c=>((hQ s).1 c).1,fun c=>(hQ s).2 ⟨c,e⟩⟩;have h1:(if l=lvl now x.dl∧b=bkt now x.dl then s∈L++[x.slot]else xh Lss l b s)↔xh Lss l b s:=by
    by_cases c:l=lvl now x.dl∧b=bkt now x.dl
    ·rw[zk c,yz,zF,c.1,c.2];refine⟨fun k => ?_,fun⟨A,B,a1,a2,a3⟩ => ?_⟩
     ·rcases k with k | k
      ·exact⟨Ls,L,hL,hK,k⟩
      ·exact absurd k e
     ·rw[hL]at a1;cases a1;rw[hK]at a2;cases a2;exact .inl a3
    ·rw[zh c]
   rw[h1,h.at_,hqp];refine Zr (fun _=>⟨fun⟨y,hy,k⟩=>⟨y,(hmem y).2 (.inr hy),k⟩,fun⟨y,hy,k⟩ => ?_⟩);rcases(hmem y).1 hy with rfl | hy
   ·exact absurd k.1.symm e
   ·exact⟨y,hy,k⟩
theorem ye.cut(h:ye now M P Lss)(hx:x∈M)(hM : ∀ y,y∈M'↔y∈M∧y.slot≠x.slot)(hnd:M'.Nodup)
  (hL:Lss[lvl now x.dl]? = some Ls) (hK:Ls[bkt now x.dl]? = some L):ye now M' P (Lss.set (lvl now x.dl) (Ls.set (bkt now x.dl) (L.erase x.slot))):=by
 have hLn:=h.nd _ _ _ _ hL hK;refine⟨by rw[xF];exact h.len,zaQ hL h.wide (by rw[xF];exact h.wide _ _ hL),zb6 hL hK h.nd (hLn.erase _),fun a ha b hb=>h.slots a ((hM a).1 ha).1 b ((hM b).1 hb).1,fun a ha b hb=>h.births a ((hM a).1 ha).1 b ((hM b).1 hb).1,hnd,fun y hy=>h.rng y ((hM y).1 hy).1,fun y hy=>h.after y ((hM y).1 hy).1,fun l b s => ?_⟩;rw[zbB hL hK];by_cases e:s=x.slot
 ·subst e;have r : ¬ ∃ y∈M',y.slot=x.slot∧lvl now y.dl=l∧bkt now y.dl=b:=fun⟨y,hy,e1,_⟩=>((hM y).1 hy).2 e1
  by_cases c:l=lvl now x.dl∧b=bkt now x.dl
  ·rw[zk c];exact⟨fun k=>absurd k (fun k=>((List.Nodup.mem_erase_iff hLn).1 k).1 rfl),fun k=>absurd k.2 r⟩
  ·rw[zh c];refine⟨fun k => ?_,fun k=>absurd k.2 r⟩;obtain⟨_,y,hy,e1,e2,e3⟩:=(h.at_ _ _ _).1 k;have:=h.slots y hy x hx e1;subst this;exact absurd ⟨e2.symm,e3.symm⟩ c
 ·have h1:(if l=lvl now x.dl∧b=bkt now x.dl then s∈L.erase x.slot else xh Lss l b s)↔xh Lss l b s:=by
   by_cases c:l=lvl now x.dl∧b=bkt now x.dl
   ·rw[zk c,List.mem_erase_of_ne e,c.1,c.2];refine⟨fun k=>⟨Ls,L,hL,hK,k⟩,fun⟨A,B,a1,a2,a3⟩ => ?_⟩;rw[hL]at a1;cases a1;rw[hK]at a2;cases a2;exact a3
   ·rw[zh c]
  rw[h1,h.at_];refine Zr (fun _=>⟨fun⟨y,hy,k⟩=>⟨y,(hM y).2 ⟨hy,fun c=>e (by rw[← k.1,c])⟩,k⟩,fun⟨y,hy,k⟩=>⟨y,((hM y).1 hy).1,k⟩⟩)
theorem ye.drop(h:ye now M P Lss)(hp:P x.slot)(hM : ∀ y,y∈M'↔y∈M∧y.slot≠x.slot)(hnd:M'.Nodup)(hQ : ∀ s,Q s↔P s∧s≠x.slot):ye now M' Q Lss:=by
 refine⟨h.len,h.wide,h.nd,fun a ha b hb=>h.slots a ((hM a).1 ha).1 b ((hM b).1 hb).1,fun a ha b hb=>h.births a ((hM a).1 ha).1 b ((hM b).1 hb).1,hnd,fun y hy=>h.rng y ((hM y).1 hy).1,fun y hy hq=>h.after y ((hM y).1 hy).1 (fun c=>hq ((hQ _).2 ⟨c,((hM y).1 hy).2⟩)),fun l b s => ?_⟩;rw[h.at_];by_cases e:s=x.slot
 ·subst e;exact⟨fun k=>absurd hp k.1,fun⟨_,y,hy,e1,_⟩=>absurd e1 ((hM y).1 hy).2⟩
 ·have hqp:Q s↔P s:=⟨fun c=>((hQ s).1 c).1,fun c=>(hQ s).2 ⟨c,e⟩⟩;rw[hqp];refine Zr (fun _=>⟨fun⟨y,hy,k⟩=>⟨y,(hM y).2 ⟨hy,fun c=>e (by rw[← k.1,c])⟩,k⟩,fun⟨y,hy,k⟩=>⟨y,((hM y).1 hy).1,k⟩⟩)
theorem ye.new(now:Nat):ye now [] (fun _=>False) (List.replicate 8 (List.replicate 256 [])):=by
 refine⟨vx,fun l A h => ?_,fun l b A B h1 h2 => ?_,(fun _ h=>by cases h),(fun _ h=>by cases h),jf,(fun _ h=>by cases h),(fun _ h=>by cases h),fun l b s=>⟨fun⟨A,B,h1,h2,h3⟩ => ?_,fun⟨_,x,hx,_⟩=>by cases hx⟩⟩
 ·rw[vX]at h;split at h
  ·cases h;exact vx
  ·cases h
 ·rw[vX]at h1;split at h1
  ·cases h1
   rw[vX]at h2;split at h2
   ·cases h2;exact jf
   ·cases h2
  ·cases h1
 ·rw[vX]at h1;split at h1
  ·cases h1
   rw[vX]at h2;split at h2
   ·cases h2;cases h3
   ·cases h2
  ·cases h1
theorem ye.perm(h:ye now M P Lss)(hp:M.Perm M'):ye now M' P Lss :=
 ⟨h.len,h.wide,h.nd,fun a ha b hb=>h.slots a (hp.mem_iff.2 ha) b (hp.mem_iff.2 hb),fun a ha b hb=>h.births a (hp.mem_iff.2 ha) b (hp.mem_iff.2 hb),hp.nodup_iff.1 h.ndM,fun y hy=>h.rng y (hp.mem_iff.2 hy),fun y hy=>h.after y (hp.mem_iff.2 hy),fun l b s=>by
  rw[h.at_];exact Zr (fun _=>⟨fun⟨y,hy,k⟩=>⟨y,hp.mem_iff.1 hy,k⟩,fun⟨y,hy,k⟩=>⟨y,hp.mem_iff.2 hy,k⟩⟩)⟩
end
def xZ(Ls:List (List Nat))(n:Nat):List Nat:=(Ls.take n).flatten
def kg(Ls:List (List Nat))(n:Nat):List (List Nat):=List.replicate n []++Ls.drop n
def uq(Lss:List (List (List Nat)))(k:Nat):List (List (List Nat)):=List.replicate k (List.replicate 256 [])++Lss.drop k
def x8(Lss:List (List (List Nat)))(k:Nat):List Nat:=((Lss.take k).map List.flatten).flatten
section
variable{now tt:Nat}{M M':List Td}{P Q:Nat→Prop}{Lss Lss':List (List (List Nat))}{Ls cur:List (List Nat)}{L L':List Nat}{lv bk n b k:Nat}{x:Td}
theorem zdl(a:List Nat)(Ls:List (List Nat))(i:Nat):neB (a::Ls) (i+1)=neB Ls i:=rfl
theorem zaa : ∀ {cur:List (List Nat)} {b n:Nat} {L:List Nat},b<n→cur[b]? = some L→(∀ i,i<b→neB cur i=false)→(cur.take n).flatten=L++((cur.set b []).take n).flatten
 | [],b,n,L,_,h,_=>by cases h
 | a::cur,0,n+1,L,_,h,_=>by
  injection h with h
  subst h;simp
 | a::cur,b+1,n+1,L,hb,h,he=>by
  have h0:=he 0 (by omega);have ha:a=[]:=by
   cases a with
   | nil=>rfl
   | cons y a=>simp[neB]at h0
  subst ha;have:=zaa (cur:=cur) (b:=b) (n:=n) (L:=L) (by omega) h (fun i hi=>by rw[← zdl [] cur i];exact he (i+1) (by omega));rw[YB,VP,Yt,this,ZF,YB,VP,Yt]
theorem QN : ∀ {cur:List (List Nat)} {n:Nat},n≤cur.length→(∀ i,i<n→neB cur i=false)→cur.take n=List.replicate n []
 | cur,0,_,_=>by simp
 | [],n+1,h,_=>by simp at h
 | a::cur,n+1,h,he=>by
  have h0:=he 0 (by omega);have ha:a=[]:=by
   cases a with
   | nil=>rfl
   | cons y a=>simp[neB]at h0
  subst ha;rw[YB,QN (by simp at h;omega) (fun i hi=>by rw[← zdl [] cur i];exact he (i+1) (by omega)),Yf]
theorem zfT(n:Nat):(List.replicate n ([]:List Nat)).flatten=[]:=by
 induction n with
 | zero=>rfl
 | succ n ih=>rw[Yf,VP,ih];rfl
theorem Ki{s:Nat}:s∈xZ Ls n ↔ ∃ b L,b<n∧Ls[b]? = some L∧s∈L:=by
 unfold xZ;rw[ZM];constructor
 ·rintro⟨L,hL,hs⟩;obtain⟨b,hb⟩:=ur hL;rw[j7]at hb;split at hb
  ·exact⟨b,L,by assumption,hb,hs⟩
  ·cases hb
 ·rintro⟨b,L,hb,hL,hs⟩;refine⟨L,?_,hs⟩;apply yl (i:=b);rw[j7,zk hb,hL]
theorem JR{s:Nat}:s∈x8 Lss k ↔ ∃ l b,l<k∧xh Lss l b s:=by
 unfold x8;rw[ZM];constructor
 ·rintro⟨A,hA,hs⟩;obtain⟨l,hl⟩:=ur hA;rw[yC,j7]at hl;split at hl
  ·cases hL:Lss[l]? with
   | none=>rw[hL]at hl;cases hl
   | some Ls =>
    rw[hL]at hl;injection hl with hl
    subst hl;obtain⟨B,hB,hs⟩:=ZM.1 hs;obtain⟨b,hb⟩:=ur hB;exact⟨l,b,by assumption,Ls,B,hL,hb,hs⟩
  ·cases hl
 ·rintro⟨l,b,hl,Ls,B,hL,hB,hs⟩;refine⟨Ls.flatten,?_,ZM.2 ⟨B,yl hB,hs⟩⟩;apply yl (i:=l);rw[yC,j7,zk hl,hL]
  rfl
theorem zgy(hL:Lss[k]? = some Ls):x8 Lss (k+1)=x8 Lss k++Ls.flatten:=by
 unfold x8;rw[uE,hL];simp
theorem zfR(hL:Lss[k]? = some Ls):uq Lss (k+1)=(uq Lss k).set k (List.replicate 256 []):=by
 unfold uq;have hk:=(zE.1 hL).1;rw[Xy _ _ (by rw[vx];exact zI _),vx,YJ,jQ hk,zea,List.replicate_succ',vM]
 rfl
theorem XL(hk:k≤lv):(uq Lss k)[lv]? = Lss[lv]?:=by
 unfold uq;rw[jh (by rw[vx];exact hk),vx,List.getElem?_drop,show k+(lv-k)=lv by omega]
theorem K4(hk:lv<k):(uq Lss k)[lv]? = some (List.replicate 256 []):=by
 unfold uq;rw[us (by rw[vx];exact hk),vX,zk hk]
theorem zdx{l s:Nat}:xh (uq Lss k) l b s↔xh Lss l b s ∧ ¬ l<k:=by
 unfold xh;by_cases c:l<k
 ·refine⟨fun⟨A,B,h1,h2,h3⟩ => ?_,fun h=>absurd c h.2⟩;rw[K4 c]at h1
  cases h1
  rw[vX]at h2;split at h2
  ·cases h2;cases h3
  ·cases h2
 ·rw[XL (by omega)];exact⟨fun h=>⟨h,c⟩,fun h=>h.1⟩
theorem J3(hn:n≤b):(kg Ls n)[b]? = Ls[b]?:=by
 unfold kg;rw[jh (by rw[vx];exact hn),vx,List.getElem?_drop,show n+(b-n)=b by omega]
theorem zdb(hn:b<n):(kg Ls n)[b]? = some []:=by
 unfold kg;rw[us (by rw[vx];exact hn),vX,zk hn]
theorem zjb(h:Ls.length=256)(hn:n≤256):(kg Ls n).length=256:=by
 unfold kg;rw[zV,vx,List.length_drop,h];omega
def qC(Lss:List (List (List Nat)))(Ls:List (List Nat))(top n:Nat):List (List (List Nat)):=(uq Lss top).set top (kg Ls n)
theorem zji(hL:Lss[lv]? = some Ls){l s:Nat}:xh (qC Lss Ls lv n) l b s↔xh Lss l b s ∧ ¬ (l<lv∨l=lv∧b<n):=by
 have hlt:lv<(uq Lss lv).length:=by
  have:=(zE.1 ((XL (Lss:=Lss) (zI lv)).trans hL)).1;exact this
 unfold qC;by_cases e:l=lv
 ·subst e;unfold xh;rw[yv hlt];by_cases c:b<n
  ·refine⟨fun⟨A,B,h1,h2,h3⟩ => ?_,fun h=>absurd (.inr ⟨rfl,c⟩) h.2⟩
   cases h1
   rw[zdb c]at h2
   cases h2
   cases h3
  ·refine⟨fun⟨A,B,h1,h2,h3⟩ => ?_,fun⟨⟨A,B,h1,h2,h3⟩,_⟩ => ?_⟩
   ·cases h1
    rw[J3 (by omega)]at h2;exact⟨⟨Ls,B,hL,h2,h3⟩,by omega⟩
   ·rw[hL]at h1
    cases h1
    exact⟨_,B,rfl,by rw[J3 (by omega)];exact h2,h3⟩
 ·have h1:xh ((uq Lss lv).set lv (kg Ls n)) l b s↔xh (uq Lss lv) l b s:=by
   unfold xh;rw[yy (fun c=>e c.symm)]
  rw[h1,zdx];refine Zr (fun _ => ?_);omega
theorem UY : ∀ {A:List (List Nat)},(∀(i:Nat) (l:List Nat),A[i]? = some l→l.Nodup)→(∀(i j:Nat) (l l':List Nat) (s:Nat),A[i]? = some l→A[j]? = some l'→s∈l→s∈l'→i=j)→A.flatten.Nodup
 | [],_,_=>by simp
 | a::A,h1,h2=>by
  rw[VP,xD];refine⟨h1 0 a rfl,UY (fun i l h=>h1 (i+1) l h) (fun i j l l' s e1 e2 s1 s2=>by have:=h2 (i+1) (j+1) l l' s e1 e2 s1 s2;omega),fun s hs t ht e => ?_⟩;subst e;obtain⟨B,hB,hs2⟩:=ZM.1 ht;obtain⟨i,hi⟩:=ur hB;have:=h2 0 (i+1) a B s rfl hi hs hs2;omega
theorem ye.nodup_level(h:ye now M P Lss)(hL:Lss[lv]? = some Ls):Ls.flatten.Nodup :=
 UY (fun i l e=>h.nd lv i Ls l hL e) (fun i j l l' s e1 e2 s1 s2=>(h.uniq (l:=lv) (l':=lv) ⟨Ls,l,hL,e1,s1⟩ ⟨Ls,l',hL,e2,s2⟩).2)
theorem ye.nodup_moved(h:ye now M P Lss)(hL:Lss[lv]? = some Ls):(x8 Lss lv++xZ Ls n).Nodup:=by
 rw[xD];refine⟨UY (fun i l e => ?_) (fun i j l l' s e1 e2 s1 s2 => ?_),?_,fun s hs t ht e => ?_⟩
 ·rw[yC,j7]at e;split at e
  ·cases hA:Lss[i]? with
   | none=>rw[hA]at e;cases e
   | some A=>rw[hA]at e;injection e with e;subst e;exact h.nodup_level hA
  ·cases e
 ·rw[yC,j7]at e1 e2;split at e1
  ·split at e2
   ·cases hA:Lss[i]? with
    | none=>rw[hA]at e1;cases e1
    | some A =>
     cases hB:Lss[j]? with
     | none=>rw[hB]at e2;cases e2
     | some B =>
      rw[hA]at e1;injection e1 with e1;subst e1
      rw[hB]at e2;injection e2 with e2;subst e2
      obtain⟨C,hC,c1⟩:=ZM.1 s1;obtain⟨D,hD,d1⟩:=ZM.1 s2;obtain⟨b1,hb1⟩:=ur hC;obtain⟨b2,hb2⟩:=ur hD;exact(h.uniq ⟨A,C,hA,hb1,c1⟩ ⟨B,D,hB,hb2,d1⟩).1
   ·cases e2
  ·cases e1
 ·have:=h.nodup_level hL;rw[← Y2 n Ls,List.flatten_append,xD]at this;exact this.1
 ·subst e;obtain⟨l,b,hl,h1⟩:=JR.1 hs;obtain⟨b2,B,_,h2,h3⟩:=Ki.1 ht;have:=(h.uniq h1 ⟨Ls,B,hL,h2,h3⟩).1;omega
theorem ye.start(h:ye now M (fun _=>False) Lss)(hn:now<tt)(ht:tt<18446744073709551616)(hL:Lss[lvl now tt]? = some Ls) :
  ye tt M (fun s=>s∈x8 Lss (lvl now tt)++xZ Ls (bkt now tt+1)) (qC Lss Ls (lvl now tt) (bkt now tt+1)) ∧ ∀ s,s∈x8 Lss (lvl now tt)++xZ Ls (bkt now tt+1) → ∃ x∈M,x.slot=s:=by
 have hb:bkt now tt<256:=Y6;have hlen:(uq Lss (lvl now tt)).length=8:=by
  have:=(zE.1 hL).1;have:=h.len;unfold uq;rw[zV,vx,List.length_drop];omega
 have hmv : ∀ s,s∈x8 Lss (lvl now tt)++xZ Ls (bkt now tt+1) ↔ ∃ l b,xh Lss l b s∧(l<lvl now tt∨l=lvl now tt∧b<bkt now tt+1):=fun s=>by
  rw[yz,JR,Ki];constructor
  ·rintro(⟨l,b,h1,h2⟩ | ⟨b,B,h1,h2,h3⟩)
   ·exact⟨l,b,h2,.inl h1⟩
   ·exact⟨_,b,⟨Ls,B,hL,h2,h3⟩,.inr ⟨rfl,h1⟩⟩
  ·rintro⟨l,b,h1,h2 | ⟨rfl,h2⟩⟩
   ·exact .inl ⟨l,b,h2,h1⟩
   ·obtain⟨A,B,a1,a2,a3⟩:=h1;rw[hL]at a1
    cases a1
    exact .inr ⟨b,B,h2,a2,a3⟩
 have hnm : ∀ x∈M,x.slot∉x8 Lss (lvl now tt)++xZ Ls (bkt now tt+1)→tt<x.dl∧lvl tt x.dl=lvl now x.dl∧bkt tt x.dl=bkt now x.dl:=fun x hx hs=>by
  obtain⟨_,r2,_⟩:=h.rng x hx;refine zlb (by omega) ht (by omega) (h.after x hx (fun c=>c)) hn (fun hm=>hs ((hmv _).2 ⟨lvl now x.dl,bkt now x.dl,(h.at_ _ _ _).2 ⟨(fun c=>c),x,hx,rfl,rfl,rfl⟩,?_⟩));unfold UM at hm;rcases hm with hm | ⟨h1,h2⟩
  ·exact .inl hm
  ·exact .inr ⟨h1,by omega⟩
 refine⟨⟨by unfold qC;rw[xF];exact hlen,fun l A hA => ?_,fun l b A B hA hB => ?_,h.slots,h.births,h.ndM,h.rng,fun x hx hs=>(hnm x hx hs).1,fun l b s => ?_⟩,fun s hs => ?_⟩
 ·unfold qC at hA;by_cases e:l=lvl now tt
  ·subst e;rw[yv (by rw[hlen];have:=(zE.1 hL).1;rw[h.len]at this;exact this)]at hA
   cases hA
   exact zjb (h.wide _ _ hL) (by omega)
  ·rw[yy (fun c=>e c.symm)]at hA;by_cases c:l<lvl now tt
   ·rw[K4 c]at hA
    cases hA
    exact vx
   ·rw[XL (by omega)]at hA;exact h.wide l A hA
 ·unfold qC at hA;by_cases e:l=lvl now tt
  ·subst e;rw[yv (by rw[hlen];have:=(zE.1 hL).1;rw[h.len]at this;exact this)]at hA
   cases hA
   by_cases c:b<bkt now tt+1
   ·rw[zdb c]at hB
    cases hB
    exact jf
   ·rw[J3 (by omega)]at hB;exact h.nd _ _ _ _ hL hB
  ·rw[yy (fun c=>e c.symm)]at hA;by_cases c:l<lvl now tt
   ·rw[K4 c]at hA
    cases hA
    rw[vX]at hB;split at hB
    ·cases hB;exact jf
    ·cases hB
   ·rw[XL (by omega)]at hA;exact h.nd l b A B hA hB
 ·rw[zji hL];constructor
  ·rintro⟨h1,h2⟩;obtain⟨_,x,hx,e1,e2,e3⟩:=(h.at_ _ _ _).1 h1;have hns:s∉x8 Lss (lvl now tt)++xZ Ls (bkt now tt+1):=fun c=>by
    obtain⟨l',b',h3,h4⟩:=(hmv s).1 c;obtain⟨f1,f2⟩:=h.uniq h1 h3;rw[← f1,← f2]at h4;exact h2 h4
   obtain⟨_,g2,g3⟩:=hnm x hx (by rw[e1];exact hns);exact⟨hns,x,hx,e1,by rw[g2,e2],by rw[g3,e3]⟩
  ·rintro⟨hns,x,hx,e1,e2,e3⟩;obtain⟨_,g2,g3⟩:=hnm x hx (by rw[e1];exact hns);have h1:xh Lss l b s:=(h.at_ _ _ _).2 ⟨(fun c=>c),x,hx,e1,by rw[← g2,e2],by rw[← g3,e3]⟩;exact⟨h1,fun c=>hns ((hmv s).2 ⟨l,b,h1,c⟩)⟩
 ·obtain⟨l,b,h1,_⟩:=(hmv s).1 hs;obtain⟨_,x,hx,e,_⟩:=(h.at_ _ _ _).1 h1;exact⟨x,hx,e⟩
end
section
variable{now tt:Nat}{M M' Mj dj:List Td}{P Q:Nat→Prop}{Lss Lss':List (List (List Nat))}{Ls cur:List (List Nat)}{L L' mv:List Nat}{lv bk n b k s:Nat}{x:Td}
theorem ye.without(h:ye now M P Lss)(hp:M.Perm (x::M')):x∈M∧(∀ y,y∈M'↔y∈M∧y.slot≠x.slot)∧(∀ y,y∈M'↔y∈M∧y.birth≠x.birth)∧M'.Nodup∧M'.length+1=M.length:=by
 have hx:x∈M:=hp.mem_iff.2 yE;have hnd:=hp.nodup_iff.1 h.ndM;obtain⟨n1,n2⟩:=yO.1 hnd;have key : ∀ y,y∈M'↔y∈M∧y≠x:=fun y=>by
  rw[hp.mem_iff,zO];constructor
  ·intro hy;exact⟨.inr hy,fun e=>n1 (e ▸ hy)⟩
  ·rintro⟨e | e,c⟩
   ·exact absurd e c
   ·exact e
 refine⟨hx,fun y => ?_,fun y => ?_,n2,by rw[hp.length_eq];rfl⟩
 ·rw[key];exact Zr (fun hy=>⟨fun c e=>c (h.slots y hy x hx e),fun c e=>c (by rw[e])⟩)
 ·rw[key];exact Zr (fun hy=>⟨fun c e=>c (h.births y hy x hx e),fun c e=>c (by rw[e])⟩)
theorem ziW(h:ye now M P Lss)(hx:x∈M):M.Perm (x::M.filter (fun y=>y.slot != x.slot)):=by
 have h1 : ∀(A:List Td),(∀ a∈A,∀ b∈A,a.slot=b.slot→a=b)→A.Nodup→x∈A→A.Perm (x::A.filter (fun y=>y.slot != x.slot)):=by
  intro A
  induction A with
  | nil=>intro _ _ hx;cases hx
  | cons a A ih =>
   intro hs hnd hx;obtain⟨n1,n2⟩:=yO.1 hnd;by_cases e:a.slot=x.slot
   ·have:a=x:=hs a yE x hx e;subst this;have hf:A.filter (fun y=>y.slot != a.slot)=A:=by
     rw[ju];intro y hy;have:y.slot≠a.slot:=fun c=>n1 (by rw[← hs y (yH _ hy) a yE c];exact hy)
     simpa using this
    rw[je,zh (by simp),hf]
   ·rw[je,zk (by simpa using e)];have hx2:x∈A:=by
     rcases zO.1 hx with c | c
     ·exact absurd (by rw[c]) e
     ·exact c
    exact((ih (fun u hu v hv=>hs u (yH _ hu) v (yH _ hv)) n2 hx2).cons a).trans (List.Perm.swap x a _)
 exact h1 M h.slots h.ndM hx
structure jM(tt:Nat)(M:List Td)(mv:List Nat)(Mj dj:List Td)(Lssj:List (List (List Nat))):Prop where
 inv:ye tt Mj (fun s=>s∈mv) Lssj
 perm:(Mj++dj).Perm M
 due : ∀ x∈dj,x.dl≤tt
 nd:mv.Nodup
 has : ∀ s∈mv,∃ x∈Mj,x.slot=s
theorem jM.stay(h:jM tt M (s::mv) Mj dj Lss)(hx:x∈Mj)(hs:x.slot=s)(hn:tt<x.dl)(hL:Lss[lvl tt x.dl]? = some Ls)(hK:Ls[bkt tt x.dl]? = some L) :
  jM tt M mv Mj dj (Lss.set (lvl tt x.dl) (Ls.set (bkt tt x.dl) (L++[x.slot]))):=by
 obtain⟨n1,n2⟩:=yO.1 h.nd;refine⟨h.inv.put (.inr ⟨hx,fun y hy e=>h.inv.slots y hy x hx e,rfl⟩) hn (h.inv.rng x hx) (fun y hy e=>by rw[hs];exact yE) hL hK (fun t => ?_),h.perm,h.due,n2,fun t ht=>h.has t (yH _ ht)⟩;rw[zO,hs];constructor
 ·intro ht;exact⟨.inr ht,fun e=>n1 (e ▸ ht)⟩
 ·rintro⟨e | e,c⟩
  ·exact absurd e c
  ·exact e
theorem jM.go(h:jM tt M (s::mv) Mj dj Lss)(hs:x.slot=s)(hd:x.dl≤tt)(hp:Mj.Perm (x::M')):jM tt M mv M' (dj++[x]) Lss:=by
 obtain⟨n1,n2⟩:=yO.1 h.nd;obtain⟨hx,w1,w2,w3,w4⟩:=h.inv.without hp;refine⟨h.inv.drop (x:=x) (by rw[hs];exact yE) w1 w3 (fun t => ?_),?_,fun y hy => ?_,n2,fun t ht => ?_⟩
 ·rw[zO,hs];constructor
  ·intro ht;exact⟨.inr ht,fun e=>n1 (e ▸ ht)⟩
  ·rintro⟨e | e,c⟩
   ·exact absurd e c
   ·exact e
 ·refine List.Perm.trans ?_ h.perm;refine List.Perm.trans ?_ (hp.symm.append_right dj);rw[← vM];exact List.perm_append_comm.trans (by simp)
 ·rcases yz.1 hy with hy | hy
  ·exact h.due y hy
  ·rw[zF]at hy;rw[hy];exact hd
 ·obtain⟨y,hy,e⟩:=h.has t (yH _ ht);exact⟨y,(w1 y).2 ⟨hy,fun c=>n1 (by rw[← hs,← c,e];exact ht)⟩,e⟩
theorem jM.fin(h:jM tt M [] Mj dj Lss):ye tt Mj (fun _=>False) Lss ∧ ∀ x∈Mj,tt<x.dl:=by
 have h0:(fun s:Nat=>s∈([]:List Nat))=fun _=>False:=by funext s;simp
 have:=h.inv;rw[h0]at this;exact⟨this,fun x hx=>this.after x hx (fun c=>c)⟩
theorem ye.adv(h:ye now M (fun _=>False) Lss)(hn:now<tt)(ht:tt<18446744073709551616)(hL:Lss[lvl now tt]? = some Ls) :
  jM tt M (x8 Lss (lvl now tt)++xZ Ls (bkt now tt+1)) M [] (qC Lss Ls (lvl now tt) (bkt now tt+1)):=by
 obtain⟨h1,h2⟩:=h.start hn ht hL;exact⟨h1,by simp,(fun _ h=>by cases h),h.nodup_moved hL,h2⟩
def bef(a b:Td):Prop:=a.dl<b.dl∨a.dl=b.dl∧a.birth<b.birth
def jj(a b:Td):Bool:=decide (a.dl<b.dl)||(decide (a.dl=b.dl)&&decide (a.birth<b.birth))
theorem ZQ{a b:Td}:jj a b=true↔bef a b:=by unfold jj bef;simp
theorem Xi{a b:Td}(h1:bef a b)(h2:bef b a):False:=by unfold bef at *;omega
theorem Z6 : ∀ {A B:List Td},A.Pairwise bef→B.Pairwise bef→A.Perm B→A=B:=by
 intro A B h1 h2 h3;exact h3.eq_of_pairwise (fun a b _ _ x y=>(Xi x y).elim) h1 h2
theorem zce : ∀ {A:List Td},A.Pairwise bef→A.takeWhile (fun x=>decide (x.dl≤tt))=A.filter (fun x=>decide (x.dl≤tt))∧A.dropWhile (fun x=>decide (x.dl≤tt))=A.filter (fun x => !decide (x.dl≤tt))
 | [],_=>by simp
 | a::A,h=>by
  obtain⟨h1,h2⟩:=kp.1 h;by_cases c:a.dl≤tt
  ·obtain⟨i1,i2⟩:=zce (A:=A) h2;simp[c,i1,i2]
  ·have hz : ∀ y∈A,¬ y.dl≤tt:=fun y hy=>by
    have:=h1 y hy;unfold bef at this;omega
   have e1:A.filter (fun x=>decide (x.dl≤tt))=[]:=by
    rw[YV];intro y hy;simpa using hz y hy
   have e2:A.filter (fun x => !decide (x.dl≤tt))=A:=by
    rw[ju];intro y hy;simpa using hz y hy
   simp only[List.takeWhile_cons,List.dropWhile_cons,List.filter_cons];simp[c,e1,e2]
theorem zkT{A:List Td}(hs:A.Pairwise bef)(hp:(Mj++dj).Perm A)(h1 : ∀ x∈dj,x.dl≤tt)(h2 : ∀ x∈Mj,tt<x.dl) :
  dj.Perm (A.takeWhile (fun x=>decide (x.dl≤tt)))∧Mj.Perm (A.dropWhile (fun x=>decide (x.dl≤tt))):=by
 obtain⟨e1,e2⟩:=zce (tt:=tt) hs;rw[e1,e2];have f1:=(hp.filter (fun x=>decide (x.dl≤tt)));have f2:=(hp.filter (fun x => !decide (x.dl≤tt)));rw[YI]at f1 f2;have a1:Mj.filter (fun x=>decide (x.dl≤tt))=[]:=by
  rw[YV];intro y hy;have:=h2 y hy;simp;omega
 have a2:dj.filter (fun x=>decide (x.dl≤tt))=dj:=by
  rw[ju];intro y hy;simpa using h1 y hy
 have a3:Mj.filter (fun x => !decide (x.dl≤tt))=Mj:=by
  rw[ju];intro y hy;have:=h2 y hy;simp;omega
 have a4:dj.filter (fun x => !decide (x.dl≤tt))=[]:=by
  rw[YV];intro y hy;simpa using h1 y hy
 rw[a1,a2]at f1;rw[a3,a4,jb]at f2;exact⟨by simpa using f1,f2⟩
end
def xQ(L:List Td)(x:Td):List Td:=L.takeWhile (fun y=>jj y x)++x::L.dropWhile (fun y=>jj y x)
def qP(L:List Td)(s:Nat):Nat:=L.findIdx (fun y=>y.slot==s)
def qO(L:List Td)(s:Nat):List Td:=L.eraseIdx (qP L s)
def YD(L:List Td)(b:Nat):Bool:=L.any (fun y=>y.birth==b)
def xL(L:List Td)(s:Nat):Bool:=L.any (fun y=>y.slot==s)
section
variable{now tt:Nat}{M M':List Td}{P Q:Nat→Prop}{Lss Lss':List (List (List Nat))}{L:List Td}{s:Nat}{x:Td}
theorem qz:(xQ L x).Perm (x::L):=by
 unfold xQ;have h:L.takeWhile (fun y=>jj y x)++L.dropWhile (fun y=>jj y x)=L:=List.takeWhile_append_dropWhile;refine List.perm_middle.trans ?_;rw[h]
theorem ZT{y:Td}:y∈xQ L x↔y=x∨y∈L:=by rw[qz.mem_iff,zO]
theorem ziV{a b c:Td}(h1:bef a b)(h2:bef b c):bef a c:=by unfold bef at *;omega
theorem ziB{a b:Td}(h:a.birth≠b.birth):bef a b∨bef b a:=by unfold bef;omega
theorem Xg(h:L.Pairwise bef)(hb : ∀ y∈L,y.birth≠x.birth):(xQ L x).Pairwise bef:=by
 induction L with
 | nil=>simp[xQ]
 | cons a L ih =>
  obtain⟨h1,h2⟩:=kp.1 h;have ih:=ih h2 (fun y hy=>hb y (yH _ hy));by_cases c:jj a x=true
  ·have e:xQ (a::L) x=a::xQ L x:=by unfold xQ;simp[c]
   rw[e,kp];refine⟨fun y hy => ?_,ih⟩;rcases ZT.1 hy with rfl | hy
   ·exact ZQ.1 c
   ·exact h1 y hy
  ·have e:xQ (a::L) x=x::a::L:=by unfold xQ;simp[c]
   have hxa:bef x a:=by
    rcases ziB (hb a yE)with k | k
    ·exact absurd (ZQ.2 k) c
    ·exact k
   rw[e,kp];refine⟨fun y hy => ?_,h⟩;rcases zO.1 hy with rfl | hy
   ·exact hxa
   ·exact ziV hxa (h1 y hy)
theorem uL:xL L s=true ↔ ∃ y∈L,y.slot=s:=by unfold xL;simp
theorem UJ:YD L s=true ↔ ∃ y∈L,y.birth=s:=by unfold YD;simp
theorem Ub:qP L s<L.length↔xL L s=true:=by
 unfold qP;rw[List.findIdx_lt_length,uL];simp
theorem zac : ∀ {L:List Td} {i:Nat} {x:Td},L[i]? = some x→L.Perm (x::L.eraseIdx i)
 | [],_,_,h=>by cases h
 | a::L,0,x,h=>by injection h with h;subst h;exact List.Perm.refl _
 | a::L,i+1,x,h=>((zac (L:=L) (i:=i) h).cons a).trans (List.Perm.swap x a _)
theorem V4(h:qP L s<L.length) : ∃ x,L[qP L s]? = some x∧x.slot=s∧L.find? (fun y=>y.slot==s)=some x∧L.Perm (x::qO L s):=by
 have h1:(L[qP L s].slot==s)=true:=List.findIdx_getElem (p:=fun y:Td=>y.slot==s) (xs:=L) (w:=h);refine⟨_,zL h,beq_iff_eq.1 h1,?_,zac (zL h)⟩;rw[List.find?_eq_some_iff_getElem];refine⟨h1,qP L s,h,rfl,fun j hj => ?_⟩;have:=List.not_of_lt_findIdx (p:=fun y:Td=>y.slot==s) hj;simpa using this
theorem Vx(h:xL L s=false):L.find? (fun y=>y.slot==s)=none:=by
 rw[qm];intro y hy c;have:xL L s=true:=uL.2 ⟨y,hy,by simpa using c⟩;rw[h]at this
 cases this
theorem Yg(h:L.Pairwise bef):(qO L s).Pairwise bef:=h.sublist (List.eraseIdx_sublist _ _)
theorem ye.born(h:ye now L P Lss){x y:Td}(hx:x∈L)(hy:y∈L)(e:x.slot=y.slot):x=y:=h.slots x hx y hy e
theorem ye.sched(h:ye now L (fun _=>False) Lss)(hn:now<x.dl)(hr:x.slot<4194304∧x.dl<18446744073709551615∧0<x.birth∧x.birth≤18446744073709551615)(h1 : ∀ y∈L,y.slot≠x.slot)(h2 : ∀ y∈L,y.birth≠x.birth){Ls:List (List Nat)}{B:List Nat}
  (hL:Lss[lvl now x.dl]? = some Ls) (hK:Ls[bkt now x.dl]? = some B):ye now (xQ L x) (fun _=>False) (Lss.set (lvl now x.dl) (Ls.set (bkt now x.dl) (B++[x.slot]))) :=
 (h.put (M':=x::L) (Q:=fun _=>False) (.inl ⟨h1,h2,rfl⟩) hn hr (fun y hy e=>absurd e (h1 y hy)) hL hK (fun s=>⟨fun c=>c.elim,fun c=>c.1.elim⟩)).perm qz.symm
end
end
section
open Go.RowKit Go.Sort
def jw(a b:Nat):Int:=if a<b then -1 else if b<a then 1 else 0
theorem Vi(a b:Nat):(a<b∧jw a b = -1)∨(b<a∧jw a b=1)∨(a=b∧jw a b=0):=by
 unfold jw;rcases qV a b with h | h | h
 ·exact .inl ⟨h,by rw[zk h]⟩
 ·exact .inr (.inr ⟨h,by rw[zh (by omega),zh (by omega)]⟩)
 ·exact .inr (.inl ⟨h,by rw[zh (by omega),zk h]⟩)
theorem Js(a:Nat)(w:World):Calls prog 312 #[.int .u64 a] w fun e w'=>e=.returned (.bool false)∧w=w':=by
 go_enter func312,ntmps312;go_wp2;go_ret;exact⟨by simp,rfl⟩
theorem KD(a:Nat)(w:World):Calls prog 313 #[.int .u64 a] w fun e w'=>e=.returned (.bool false)∧w=w':=by
 go_enter func313,ntmps313;go_wp2;go_ret;exact⟨by simp,rfl⟩
theorem Az8vf {P:Prop}(h:P:=by
 go_enter func263,ntmps263
 go_wp2_with (go_at_call 312;refine zq (Js _ _) ?_;rintro e w' ⟨rfl,rfl⟩)
 go_ret;exact⟨rfl,rfl⟩):P:=h
theorem zdD(a b:Nat)(w:World):Calls prog 263 #[.int .u64 a,.int .u64 b] w fun e w'=>e=.returned (.int .i64 (jw a b))∧w=w':=by
 rcases Vi a b with⟨h,e⟩ | ⟨h,e⟩ | ⟨h,e⟩
 ·rw[e];have h1:(a:Int)<(b:Int):=by omega
  clear e;exact Az8vf
 ·rw[e];have h1 : ¬ (a:Int)<(b:Int):=by omega
  have h2:(b:Int)<(a:Int):=by omega
  clear e;exact Az8vf
 ·subst h;rw[e];clear e;exact Az8vf
theorem Azuls {P:Prop}(h:P:=by
 go_enter func264,ntmps264
 go_wp2_with (go_at_call 313;refine zq (KD _ _) ?_;rintro e w' ⟨rfl,rfl⟩)
 go_ret;exact⟨rfl,rfl⟩):P:=h
theorem zjz(a b:Nat)(w:World):Calls prog 264 #[.int .u64 a,.int .u64 b] w fun e w'=>e=.returned (.int .i64 (jw a b))∧w=w':=by
 rcases Vi a b with⟨h,e⟩ | ⟨h,e⟩ | ⟨h,e⟩
 ·rw[e];have h1:(a:Int)<(b:Int):=by omega
  clear e;exact Azuls
 ·rw[e];have h1 : ¬ (a:Int)<(b:Int):=by omega
  have h2:(b:Int)<(a:Int):=by omega
  clear e;exact Azuls
 ·subst h;rw[e];clear e;exact Azuls
theorem zjN(dl tt:Nat)(hd:dl<18446744073709551615)(w:World):Calls prog 92 #[.int .u64 dl,.int .u64 tt] w fun e w'=>e=.returned (.bool (decide (dl≤tt)))∧w=w':=by
 have h1:((dl:Int)==18446744073709551615)=false:=by simp;omega
 have h2:((dl:Int) != 18446744073709551615)=true:=by simp;omega
 by_cases h:dl≤tt
 ·have h3:(dl:Int)≤(tt:Int):=by omega
  rw[zP h];go_enter func92,ntmps92;go_wp2;go_ret;exact⟨by simp[h],rfl⟩
 ·have h3 : ¬ (dl:Int)≤(tt:Int):=by omega
  rw[zR h];go_enter func92,ntmps92;go_wp2;go_ret;exact⟨by simp[h],rfl⟩
theorem zh8{w:World}{B:Nat}{x y:Int}(hx:w.cell? ⟨B,0,none⟩=some (.int .i64 x))(hy:w.cell? ⟨B,1,none⟩=some (.int .i64 y)) :
  Calls prog 262 #[.slice (some ⟨B,0,none⟩) 2 2] w fun e w'=>e=.returned (.int .i64 (if x=0 then y else x))∧w=w':=by
 by_cases e1:x=0
 ·rw[zk e1];subst e1;by_cases e2:y=0
  ·subst e2;go_enter func262,ntmps262;go_upto_region 3 with fail
   refine wp_loop_rounds 3 ?_;rw[rounds_succ];go_wp2;rw[rounds_succ];go_wp2;rw[rounds_succ];go_wp2;go_ret;exact⟨rfl,rfl⟩
  ·go_enter func262,ntmps262;go_upto_region 3 with fail
   refine wp_loop_rounds 3 ?_;rw[rounds_succ];go_wp2;rw[rounds_succ];have h1:(y==0)=false:=by simpa using e2
   have h2:(y != 0)=true:=by simpa using e2
   go_wp2;go_ret;exact⟨rfl,rfl⟩
 ·rw[zh e1];have h1:(x==0)=false:=by simpa using e1
  have h2:(x != 0)=true:=by simpa using e1
  go_enter func262,ntmps262;go_upto_region 3 with fail
  refine wp_loop_rounds 3 ?_;rw[rounds_succ];go_wp2;go_ret;exact⟨rfl,rfl⟩
theorem zf8{w:World}{B:Nat}{x y c:Int}(hc:(if x=0 then y else x)=c)(hx:w.cell? ⟨B,0,none⟩=some (.int .i64 x))(hy:w.cell? ⟨B,1,none⟩=some (.int .i64 y)) :
  Calls prog 262 #[.slice (some ⟨B,0,none⟩) 2 2] w fun e w'=>e=.returned (.int .i64 c)∧w=w':=by rw[← hc];exact zh8 hx hy
def cfT(x y:Td):Int:=if jw x.dl y.dl=0 then jw x.birth y.birth else jw x.dl y.dl
def Grw(w w':World):Prop := ∃ q os,w'=Go.Sort.grow (w.drewN q) os
theorem Grw.refl(w:World):Grw w w:=⟨0,#[],by simp[World.drewN]⟩
theorem Grw.alloc{w w':World}(h:Grw w w')(o:Obj):Grw w (w'.alloc o):=by
 obtain⟨q,os,rfl⟩:=h;exact⟨q,os++#[o],by rw[Go.Sort.alloc_eq_grow,Go.Sort.grow_grow]⟩
theorem Grw.drew{w w':World}(h:Grw w w'):Grw w w'.drew:=by
 obtain⟨q,os,rfl⟩:=h;exact⟨q+1,os,rfl⟩
theorem zkQ:(prog.info? 3).map (fun i=>(i.zero,i.size,i.bytes))=some (some (.int .i64 0),1,8):=by kernel_rfl
theorem zhC{W w':World}{b2 b3:Nat}{c2 c3:Array Value}{T:TypeId}(h2:W.heap[b2]? = some (.cells c2 T (0,0)))(h3:W.heap[b3]? = some (.cells c3 T (0,0)))(hm:zc W w'):w'.heap[b2]? = some (.cells c2 T (0,0))∧w'.heap[b3]? = some (.cells c3 T (0,0)):=⟨hm.heap (fun h=>h) h2,hm.heap (fun h=>h) h3⟩
theorem Grw.pure{w w':World}(h:Grw w w'):zc w w':=by
 obtain⟨q,os,rfl⟩:=h;refine⟨rfl,rfl,rfl,by simp[Go.Sort.grow,World.drewN],fun k hk _ => ?_⟩
 show(w.heap++os)[k]? = w.heap[k]?
 rw[Vl hk]
theorem zir(x y:Td)(w:World):Calls prog 261 #[tdV x,tdV y] w fun e w'=>e=.returned (.int .i64 (cfT x y))∧Grw w w':=by
  unfold tdV;have h2:=zj (w:=w) (o := .cells #[.int .u32 x.slot,.int .u64 x.dl,.int .u64 x.birth] 236 (0,0)) rfl;have g1:=(Grw.refl w).alloc (.cells #[.int .u32 x.slot,.int .u64 x.dl,.int .u64 x.birth] 236 (0,0));have h3:=zj (w:=w.alloc (.cells #[.int .u32 x.slot,.int .u64 x.dl,.int .u64 x.birth] 236 (0,0))) (o := .cells #[.int .u32 y.slot,.int .u64 y.dl,.int .u64 y.birth] 236 (0,0)) (n:=w.heap.size+1) (by simp);have h2:=((Mod.refl (fun _=>False) _).alloc (.cells #[.int .u32 y.slot,.int .u64 y.dl,.int .u64 y.birth] 236 (0,0))).heap (fun h=>h) h2;have g1:=g1.alloc (.cells #[.int .u32 y.slot,.int .u64 y.dl,.int .u64 y.birth] 236 (0,0));obtain⟨c,hc⟩:=zf (cfT x y);have HC:=za hc;rw[hc];clear hc;obtain⟨i0,hi,iz0,iz1,iz2⟩:=xG zkQ;go_enter func261,ntmps261;go_upto_region 1 with fail
  generalize(w.alloc (.cells #[.int .u32 x.slot,.int .u64 x.dl,.int .u64 x.birth] 236)).alloc (.cells #[.int .u32 y.slot,.int .u64 y.dl,.int .u64 y.birth] 236)=W at *;generalize w.heap.size=b2 at *;have G1:=za g1;have H2:=za h2;have H3:=za h3;clear g1;obtain⟨c1,hc1⟩:=zf (jw x.dl y.dl);obtain⟨c2,hc2⟩:=zf (jw x.birth y.birth);have k1:=zdD x.dl y.dl;have k2:=zjz x.birth y.birth;rw[hc1]at k1;rw[hc2]at k2;have hcc:(if c1=0 then c2 else c1)=c:=by rw[← HC.out,← hc1,← hc2];rfl
  have HCC:=za hcc;have K1:=za k1;have K2:=za k2;clear hcc k1 k2 hc1 hc2;have hK : ∀ W',zc W W'→W'.cell? ⟨b2,1,none⟩=some (.int .u64 x.dl)∧W'.cell? ⟨b2+1,1,none⟩=some (.int .u64 y.dl)∧W'.cell? ⟨b2,2,none⟩=some (.int .u64 x.birth)∧W'.cell? ⟨b2+1,2,none⟩=some (.int .u64 y.birth):=fun W' hp=>by
    obtain⟨e2,e3⟩:=zhC H2.out H3.out hp;refine⟨?_,?_,?_,?_⟩<;>first | (rw[zi _ _ _ _ _ _ e2];rfl) | (rw[zi _ _ _ _ _ _ e3];rfl)
  have HK:=za hK;have hK0:=hK W (Mod.refl _ _);obtain⟨z1,z2,z3,z4⟩:=hK0;clear hK h2 h3
  go_region_held3 (fun w'=>w'.cell? ⟨b2,1,none⟩=some (.int .u64 x.dl)∧w'.cell? ⟨b2+1,1,none⟩=some (.int .u64 y.dl)∧w'.cell? ⟨b2,2,none⟩=some (.int .u64 x.birth)∧w'.cell? ⟨b2+1,2,none⟩=some (.int .u64 y.birth)) (first | go_keep | exact⟨z1,z2,z3,z4⟩)
    (first
      | (go_at_call 263;refine(K1.out _).mono ?_;rintro e w' ⟨rfl,rfl⟩)
      | (go_at_call 264;refine(K2.out _).mono ?_;rintro e w' ⟨rfl,rfl⟩)
      | (go_at_call 262;refine zq (zf8 (x:=c1) (y:=c2) HCC.out ((zi _ _ 0 _ _ _ (zj rfl)).trans rfl) ((zi _ _ 1 _ _ _ (zj rfl)).trans rfl)) ?_;rintro e w' ⟨rfl,rfl⟩))
  go_wp2;go_ret;exact⟨rfl,by first | exact(G1.out.alloc _).drew | exact G1.out.alloc _⟩
end
section
open Go.RowKit Go.Sort Go.Shelf
instance tdInh:Inhabited Td:=⟨⟨0,0,0⟩⟩
def tdC(x:Td):List Value:=[.int .u32 x.slot,.int .u64 x.dl,.int .u64 x.birth]
theorem VI(x y:Td):ltOf cfT x y=jj x y:=by
 unfold ltOf cfT jj;rcases Vi x.dl y.dl with⟨h,e⟩ | ⟨h,e⟩ | ⟨h,e⟩
 ·rw[e];simp[h]
 ·rw[e];have h1 : ¬ x.dl<y.dl:=by omega
  have h2 : ¬ x.dl=y.dl:=by omega
  simp[h1,h2]
 ·rw[e,zk rfl];rcases Vi x.birth y.birth with⟨k,f⟩ | ⟨k,f⟩ | ⟨k,f⟩
  ·rw[f];simp[h,k]
  ·rw[f];have h1 : ¬ x.birth<y.birth:=by omega
   simp[h,h1]
  ·rw[f];have h1 : ¬ x.birth<y.birth:=by omega
   simp[h,h1]
theorem zjT:SWO (ltOf cfT) where
 irrefl x:=by rw[VI];simp[jj]
 trans x y z h1 h2:=by
  rw[VI]at *;rw[ZQ]at *;unfold bef at *;omega
 ntrans x y z h1 h2:=by
  rw[VI]at *;have n1 : ¬ bef x y:=fun c=>by rw[ZQ.2 c]at h1;cases h1
  have n2 : ¬ bef y z:=fun c=>by rw[ZQ.2 c]at h2;cases h2
  cases h3:jj x z with
  | false=>rfl
  | true =>
   rw[ZQ]at h3;unfold bef at *;omega
theorem zb0(d:Array Td):(flatK tdC 3 d).toList=d.toList.flatMap tdC:=by
 have hl:(d.toList.flatMap tdC).length=d.size*3:=by rw[X7 tdC 3 (fun _=>rfl)];simp
 refine uv (fun t => ?_);by_cases ht:t<d.size*3
 ·have h1:=get_flatK tdC 3 d t ht;have hi:t/3<d.size:=by omega
  have hf:=uW tdC 3 (fun _=>rfl) (t%3) (by omega) d.toList (t/3);rw[show t/3*3+t%3=t by omega]at hf;rw[hf];have h2:(flatK tdC 3 d).toList[t]? = some ((flatK tdC 3 d)[t]!):=by
   rw[YW,ZP (flatK tdC 3 d) t (by simpa using ht),qY]
  rw[h2,h1,YW,qY hi,ZP d (t/3) hi]
  show some _=(tdC d[t/3])[t%3]?
  have hm:t%3<3:=by omega
  rw[ZP (tdC d[t/3]) (t%3) (by simpa[tdC]using hm),zL]
 ·rw[xK (by simp;omega),xK (by rw[hl];omega)]
theorem zeG : ∀ w,(isAgg 236).run prog w=.ok true w:=fun w=>by kernel_rfl
theorem zg2 : ∀ w,(Go.sizeOf 236).run prog w=.ok 3 w:=fun w=>by kernel_rfl
theorem zhL(blk off size:Nat)(w:World):CmpLays prog 261 #[] tdC 3 cfT blk off size w :=
 fun _ _ _ _ x y=>zir x y _
abbrev qj(w:World)(a:Option Addr)(c:Nat)(d:List Td):Prop:=w.ownsRow 0 236 3 (.slice a d.length c) d.length (d.flatMap tdC)
theorem zjZ{w:World}{g m:Nat}{cur:Array Value}{T:TypeId}{F:Array Value}{os:Array Obj}(hg:w.heap[g]? = some (.cells cur T (0,0))) :
  (grow (putRow id (Go.Sort.ahead w m) g 0 F) os).heap[g]? = some (.cells (putCells id 0 F cur) T (0,0)):=by
 have hlt:=zm hg
 show((w.heap.modify g (onCells (putCells id 0 F)))++os)[g]? = _
 rw[Vl (by simpa using hlt),Array.getElem?_modify,zk rfl,hg]
 rfl
theorem zgu{w:World}{g m:Nat}{F:Array Value}{os:Array Obj}:Mod (fun k=>k=g) w (grow (putRow id (Go.Sort.ahead w m) g 0 F) os):=by
 refine⟨rfl,rfl,rfl,?_,fun k hk hn => ?_⟩
 ·show w.heap.size≤((w.heap.modify g (onCells (putCells id 0 F)))++os).size
  simp
 ·show((w.heap.modify g (onCells (putCells id 0 F)))++os)[k]? = _
  rw[Vl (by simpa using hk),Array.getElem?_modify,zh (fun e=>hn e.symm)]
theorem zfp{F cur:Array Value}{n:Nat}(hF:F.size=n)(hc:n≤cur.size):(putCells id 0 F cur).toList.take n=F.toList:=by
 refine uv (fun t => ?_);rw[j7];by_cases ht:t<n
 ·rw[zk ht,YW,YW];unfold putCells;rw[Array.getElem?_mapIdx,qY (show t<cur.size by omega)]
  show some (if 0≤t∧t<0+F.size then id F[t-0]! else cur[t])=_
  rw[zk ⟨yi _,by omega⟩,qY (show t<F.size by omega),Nat.sub_zero,ZP F t (by omega)]
  rfl
 ·rw[zh ht,xK (by simp;omega)]
theorem zeX{w:World}{a:Option Addr}{c:Nat}{d:List Td}(hr:qj w a c d)(hl:d.length<4611686018427387904)(hu : ∀ x∈d,∀ y∈d,x.birth=y.birth→x=y)(hnd:d.Nodup) :
  Calls prog 260 #[.slice a d.length c,.func (.func 261) #[] #[]] w fun e w'=>e=.returned (.tuple #[]) ∧ ∃ d':List Td,d'.Pairwise bef∧d'.Perm d∧d'.length=d.length∧qj w' a c d'∧Mod (fun k=>(Value.slice a d.length c).ownBlock=some k) w w':=by
 rcases Nat.eq_zero_or_pos d.length with h0 | h0
 ·have hd:d=[]:=List.length_eq_zero_iff.1 h0;subst hd;refine(AnyF.slices_SortFunc_none zby a c (.func (.func 261) #[] #[]) w).mono ?_;rintro e w' ⟨rfl,rfl⟩;exact⟨rfl,[],List.Pairwise.nil,List.Perm.refl _,rfl,hr,Mod.refl _ _⟩
 ·obtain⟨g,c',hv,hnc,hlt,hcell,hfz,cur,hg,hcs,ht,hm⟩:=uO hr h0;injection hv with ha hn hc
  subst ha hc;have eg : ∀ args w,(callFunc 261 args).run prog w=.ok (.enter 261 args) w:=enters_of func261 (by kernel_rfl) rfl;have hH:HoldsK tdC 3 w g 0 d.toArray:=fun j hj=>by
   rw[size_flatK]at hj;rw[qn];refine⟨hcell j _ ?_,hfz j⟩;rw[← show(flatK tdC 3 d.toArray).toList=d.flatMap tdC from zb0 d.toArray,YW,ZP (flatK tdC 3 d.toArray) j (by rw[size_flatK];exact hj),qY]
   rfl
  have hs:=AnyQ.slices_SortFunc zby 3 zeG zg2 tdC (fun _=>rfl) (fun x v hv=>by simp[tdC]at hv;rcases hv with rfl | rfl | rfl<;>rfl) cfT zjT 261 #[] g 0 c d.toArray w eg (zhL g 0 _ w) hH hlt (by simpa using hl);refine zq hs ?_;rintro e w' ⟨rfl,d',m,os,⟨p1,p2,p3⟩,hso,rfl⟩;have hsz:d'.size=d.length:=by simpa using p1
  have e1:d'.extract 0 d.toArray.size=d':=by rw[← p1];exact Array.extract_size
  rw[e1,Array.extract_size]at p3;have hp:d'.toList.Perm d:=p3;have hF:(flatK tdC 3 d').size=d.length*3:=by rw[size_flatK,hsz]
  refine⟨rfl,d'.toList,?_,hp,by simpa using hsz,?_,?_⟩
  ·rw[VU];intro i j hi hj hij;have hi':i<d'.size:=by simpa using hi
   have hj':j<d'.size:=by simpa using hj
   have h1:=hso i j (yi _) hij (by simpa[hsz]using hj');rw[ZP d' i hi',ZP d' j hj',VI]at h1;have hne:d'[i].birth≠d'[j].birth:=fun e=>by
    have m1:d'[i]∈d:=hp.mem_iff.1 (by simp);have m2:d'[j]∈d:=hp.mem_iff.1 (by simp);have heq:=hu _ m1 _ m2 e;have hnd':=hp.nodup_iff.2 hnd;exact(VU.1 hnd') i j hi hj hij (by simpa using heq)
   rcases(show bef d'[i] d'[j]∨bef d'[j] d'[i] by unfold bef;omega)with k | k
   ·simpa using k
   ·rw[ZQ.2 k]at h1;cases h1
  ·have hlen:d'.toList.length=d.length:=by simpa using hsz
   show World.ownsRow _ 0 _ 3 (.slice (some ⟨g,0,none⟩) d'.toList.length c) d'.toList.length (d'.toList.flatMap tdC)
   rw[hlen];refine⟨by rw[X7 tdC 3 (fun _=>rfl),hlen],.inr ⟨g,c,putCells id 0 (flatK tdC 3 d') cur,rfl,yi _,zjZ hg,hnc,hm,?_,?_⟩⟩
   ·rw[← hcs];simp[putCells]
   ·rw[zfp hF (by rw[hcs];exact Xn 3 hnc),zb0]
  ·exact Mod.mono (zgu (g:=g) (F:=flatK tdC 3 d') (m:=m) (os:=os)) (fun k _ e=>by rw[e];rfl)
end
section
open Go.RowKit
abbrev zao(w:World)(a:Option Addr)(c:Nat)(L:List Td):Prop:=zo w (.slice a L.length c) 3 (L.flatMap tdC)
theorem zfy(L:List Td) : ∀ u∈L.flatMap tdC,u.oneCell'=true:=fun u hu=>by
 obtain⟨x,_,hx⟩:=ZX.1 hu;simp[tdC]at hx;rcases hx with rfl | rfl | rfl<;>rfl
theorem qj.rd{w:World}{a:Option Addr}{c:Nat}{L:List Td}(h:qj w a c L):zao w a c L:=zo.of_owns h (zfy L)
theorem zb4{W:World}{ad:Addr}{k j:Nat}{u:Value}(h:W.cell? (ad.add (k+(j+1)))=some u):W.cell? ⟨(ad.add k).block,(ad.add k).off+(j+1),none⟩=some u:=by
 rw[← Go.Deep.add_add]at h;unfold Addr.add at h ⊢;rw[zh (by omega)]at h;exact h
theorem Qv{w:World}{a:Option Addr}{n c:Nat}{L:List Td}(h:zo w (.slice a n c) 3 (L.flatMap tdC)){j:Nat}{x:Td}(hx:L[j]? = some x) :
  ∃ ad,a=some ad∧w.cell? (ad.add (j*3))=some (.int .u32 x.slot)∧w.cell? ⟨(ad.add (j*3)).block,(ad.add (j*3)).off+1,none⟩=some (.int .u64 x.dl)∧w.cell? ⟨(ad.add (j*3)).block,(ad.add (j*3)).off+2,none⟩=some (.int .u64 x.birth):=by
 obtain⟨a',n',c',e,hl,_,h0,hc⟩:=h;injection e with e1 e2 e3
 subst e1 e2 e3;have hj:=(zE.1 hx).1
 cases a with
 | none =>
  have:=h0 rfl;subst this;rw[X7 tdC 3 (fun _=>rfl)]at hl;omega
 | some ad =>
  have g:=fun i (hi:i<3)=>uW tdC 3 (fun _=>rfl) i hi L j
  have c0:=hc ad rfl (j*3+0) (.int .u32 x.slot) (by rw[g 0 (by omega),hx];rfl);have c1:=hc ad rfl (j*3+1) (.int .u64 x.dl) (by rw[g 1 (by omega),hx];rfl);have c2:=hc ad rfl (j*3+2) (.int .u64 x.birth) (by rw[g 2 (by omega),hx];rfl);exact⟨ad,rfl,c0,zb4 (j:=0) c1,zb4 (j:=1) c2⟩
end
section
open Go.RowKit Go.Sort Go.Shelf

end
section
open Go.RowKit Go.Shelf
variable{Fo:Nat→Prop}
def Ke(w:World)(v:Value):Prop:=v=.pointer none ∨ ∃ d,v=xt d∧w.heap[d]? = some (.cells #[.pointer none,.int .u64 0,.bool false,.pointer none] 203 (0,0))
theorem Ke.pure{w w':World}{v:Value}(h:Ke w v)(hp:zc w w'):Ke w' v:=by
 rcases h with h | ⟨b,h1,h2⟩
 ·exact .inl h
 ·exact .inr ⟨b,h1,hp.heap (fun h=>h) h2⟩
end
section
open Go.RowKit Go.Shelf
variable{Fo:Nat→Prop}
end
end Go.Proofs.YtdohbogbnheakaaGreatDoor
