/- Lemmas and contracts of functions. No condition. -/
import Derived.Test.YtdohbogbnheakaaGreatDoorJPfBoth4022
namespace Go.Proofs.YtdohbogbnheakaaGreatDoor
open _root_.Go.Proofs.Tryz
set_option maxRecDepth 100000
set_option maxHeartbeats 20000000
set_option linter.all false
section
open Go.RowKit Go.Shelf
def J4(cfg:Cfg):Bst:=⟨cfg,0,0,[],[],[],[]⟩
section
variable{Fo:Nat→Prop}{w w':World}{b:CaB}{s:CaS}{D:Nat→Prop}{p:Nat}{t:Bst}
theorem zdY{cfg:Cfg}(hc:cfg.ok){mc mb births now:Nat}(h1:cfg.count=mc)(h2:cfg.bytes=mb)(hn:now≤18446744073709551615)(hb:births≤16):CaI NoP (Xm cfg mc mb births now) :=
 ⟨hc,rfl,h1,h2,rfl,jf,fun y=>⟨fun e=>(by cases e),fun⟨x,hx,_⟩=>(by simp[Xm]at hx)⟩,yJ.nil _,fun t=>⟨fun e=>(by cases e),fun⟨x,hx,_⟩=>(by simp[Xm]at hx)⟩,fun x hx=>(by cases hx),List.Pairwise.nil,List.Pairwise.nil,fun v hv=>(by cases hv),List.Pairwise.nil,hn,zH hb (by decide),yi _,hb⟩
def zkD(Fo:Nat→Prop)(w:World)(cfg:Cfg)(e:Ending)(w':World):Prop := ∃ p D,e=.returned (.tuple #[lkP p,.int .i64 0])∧zM Fo w' D p (J4 cfg)∧zc w w' ∧ ∀ k,D k→w.heap.size≤k
theorem zhk{cfg:Cfg}(hc:cfg.ok)(hsd:cfg.seed<18446744073709551616)(w:World)(hT:xA w)(hFo : ∀ k,Fo k→k<w.heap.size):Calls prog 31 #[cfg.v] w (zkD Fo w cfg):=by
 have hck:=fun W=>zbP cfg W
 rw[Cfg.err_ok.2 hc]at hck;obtain⟨c0,b0,pr,sd,sm⟩:=cfg;obtain⟨mc,rfl⟩ : ∃ m:Nat,c0=m:=⟨c0.toNat,by have:=hc.1;dsimp only at this;omega⟩;obtain⟨mb,rfl⟩ : ∃ m:Nat,b0=m:=⟨b0.toNat,by have:=hc.2.2.1;dsimp only at this;omega⟩;dsimp only[Cfg.v]at hck ⊢;have HCK:=za hck;have HMd:=za (fun Y (hY:zc w Y)=>zeN (Fo:=Fo) hc hsd (now:=0) (births:=0) (by omega) Y (hT.pure hY) (fun k hk=>ve (hFo k hk) hY.size));have HI:=za (zdY (births:=0) (now:=0) hc rfl rfl (by omega) (by omega));have hal:zc w (w.alloc (.cells #[.int .i64 mc,.int .i64 mb,.int .i64 pr,.int .u64 sd,.bool sm] 29)):=(Mod.refl _ w).alloc _;have z:=zj (w:=w) (o := .cells #[.int .i64 mc,.int .i64 mb,.int .i64 pr,.int .u64 sd,.bool sm] 29 (0,0)) rfl;have HP1:=za hal;clear hc hsd hT hFo hck hal;go_enter func31,ntmps31;go_upto_region 1 with fail
 generalize w.alloc (.cells #[.int .i64 mc,.int .i64 mb,.int .i64 pr,.int .u64 sd,.bool sm] 29)=W1 at *;generalize w.heap.size=c1 at z ⊢;have Z:=za z;obtain⟨z_0,z_1,z_2,z_3,z_4,z_f,z_l,H_z⟩:=cr5 z;clear z;go_upto_region 2 with(go_at_call 66;refine(HCK.out _).mono ?_;rintro e W2 ⟨rfl,hp2⟩)
 clear z_0 z_1 z_2 z_3 z_4 z_f z_l;clear H_z;have HP2:=za (HP1.out.trans hp2);have z2:=hp2.heap (fun h=>h) Z.out;have HMd2:=za (HMd.out W2 HP2.out);clear hp2;obtain⟨z2_0,z2_1,z2_2,z2_3,z2_4,z2_f,z2_l,H_z2⟩:=cr5 z2;clear z2
 go_wp2_with (go_at_call 67;refine HMd2.out.mono ?_;rintro e W3 ⟨b,rfl,hC,hp3,hge⟩)
 go_ret2;exact⟨b.p,b.D,rfl,⟨b,_,hC,HI.out,rfl,rfl,rfl,yi _,yi _,yi _⟩,HP2.out.trans hp3,fun k hk=>zH HP2.out.size (hge k hk)⟩
theorem CaI.getTd(h:CaI NoP s){sl:Nat}{x:CE}(hx:s.L[sl]? = some (some x)):getTd s.M sl=(⟨sl,x.dl,x.birth⟩,0):=by
 have hm:(⟨sl,x.dl,x.birth⟩:Td)∈s.M:=(h.md0 _).2 ⟨x,hx,rfl,rfl⟩;rcases V6 s.M sl with⟨_,hh,y,e1,e2,_,e3,e4⟩ | ⟨hno,er,e1,e2⟩
 ·have hy:y∈s.M:=e4.mem_iff.2 yE;rw[e1,h.due.slots y hy _ hm e2]
 ·exfalso;rcases hno with c | c
  ·exact c (h.sl_lt hx)
  ·rw[uL.2 ⟨_,hm,rfl⟩]at c;cases c
end

section
variable{Fo:Nat→Prop}{w w':World}{b:CaB}{s:CaS}{D:Nat→Prop}{p:Nat}{t:Bst}
theorem zM.getHit(h:zM Fo w D p t){tt:Nat}(ht:tt≤18446744073709551615){key:ByteArray}(hk:key.size≤140737488355328)(hr:uT key t=0){x:CE}(hl:um (yW t tt) key=some x){t':Bst}(ht':vO (qv (yW t tt) x.birth x.cost) 0=t') :
  Calls prog 38 #[lkP p,.int .u64 tt,.string key] w fun e w' => ∃ a n c,e=.returned (.tuple #[.slice a n c,.bool true,.int .i64 0])∧yq w' (.slice a n c) (zQ x.val)∧vD Fo w D p t' w':=by
 subst ht';obtain⟨hkE,hr⟩:=XY hr;obtain⟨b,s,h1,h2,rfl,rfl,rfl,h3,h4,h5⟩:=h;obtain⟨k1,k2,k3⟩:=h2.exp ht (jN hr);have hn:=(h2.exp_sum ht hr).1;obtain⟨_,_,hab⟩:=h2.exp_frame ht hr;rw[← k3]at hl ⊢;obtain⟨sl,f1,f2,f3⟩:=k2.find_some hl;obtain⟨u1,u2⟩:=k2.use f2;have e9:zu (vZ (zl s tt) ⟨sl,x.cost⟩).L=zu (zl s tt).L:=rfl;have e8:(vZ (zl s tt) ⟨sl,x.cost⟩).evs=(zl s tt).evs:=rfl;obtain⟨q1,q2⟩:=u1.fin (by rw[e8,e9];exact hn) u2;refine(zcs h1 ht h4 ((qi s).trans hr) k1 hk hkE f1 f2 ((k2.ab ⟨sl,x.cost⟩).2 ⟨x,f2,rfl⟩) k2.U k2.cfg k2.lim (by omega) q1).mono ?_;rintro e w' ⟨a,n,c,rfl,hby,hfr,b',hC,hT⟩;exact⟨a,n,c,rfl,hby,zM.of hC hT q2⟩
theorem zM.getMiss(h:zM Fo w D p t){tt:Nat}(ht:tt≤18446744073709551615){key:ByteArray}(hk:key.size≤140737488355328)(hr:uT key t=0)(hl:um (yW t tt) key=none){t':Bst}(ht':jm t tt=t') :
  Calls prog 38 #[lkP p,.int .u64 tt,.string key] w fun e w'=>e=.returned (.tuple #[.slice none 0 0,.bool false,.int .i64 0])∧vD Fo w D p t' w':=by
 subst ht';obtain⟨hkE,hr⟩:=XY hr;obtain⟨b,s,h1,h2,rfl,rfl,rfl,h3,h4,h5⟩:=h;obtain⟨k1,k2,k3⟩:=h2.exp ht (jN hr);rw[← k3]at hl;obtain⟨q1,q2⟩:=k2.fin (h2.exp_sum ht hr).1 k3;refine(QC h1 ht h4 ((qi s).trans hr) k1 hk hkE (k2.find_none hl).1 q1).mono ?_;rintro e w' ⟨rfl,b',hC,hT⟩;exact⟨rfl,zM.of hC hT q2⟩
end
end
end Go.Proofs.YtdohbogbnheakaaGreatDoor
