/- Lemmas and contracts of functions. No condition. -/
import Derived.Sort.Grow
import Derived.Shelf.SlSortCmp.NoneTotal
import Derived.Deep.Slices
import Derived.Carry
import Derived.Maps.RangeWalk
import Derived.Test.YtifbnponicgplaaGreatDoorJPfBoth4211
namespace Go.Proofs.YtifbnponicgplaaGreatDoor
open _root_.Go.Proofs.Tryz
set_option maxRecDepth 100000
set_option maxHeartbeats 20000000
set_option linter.all false
section
open Go.RowKit
theorem zlK(seed:Int)(same:Bool)(w:World):Calls prog 57 #[.int .u64 seed,.bool same] w fun e w'=>e=.returned (.agg #[.int .u64 seed,.bool same])∧zb w w':=by
 have hr:w.heap.size<(w.alloc (.cells #[.int .u64 0,.bool false] 123)).heap.size:=by simp
 have hb:=zk (w:=w) (o := .cells #[.int .u64 0,.bool false] 123 (0,0)) rfl;have hp0:zb w (w.alloc (.cells #[.int .u64 0,.bool false] 123)):=(Mod.refl _ w).alloc _;have HP:=za hp0;clear hp0;go_enter func57,ntmps57;go_upto_region 1 with fail
 generalize w.alloc (.cells #[.int .u64 0,.bool false] 123)=W1 at *;obtain⟨b,hbe⟩:=zf w.heap.size;rw[hbe]at hb hr ⊢;have HBE:=za hbe;clear hbe;obtain⟨hb_0,hb_1,hb_f,hb_l,H_hb⟩:=cr2 hb;clear hb;go_wp2;have h8:=zX W1 b 0 _ _ (.int .u64 seed) H_hb.out;have h9:=zX _ b 1 _ _ (.bool same) h8;have hm9:Mod (fun i=>i=b) W1 ((W1.setCell ⟨b,0,none⟩ (.int .u64 seed)).setCell ⟨b,1,none⟩ (.bool same)):=Mod.set2 b 0 1 _ _;generalize(W1.setCell ⟨b,0,none⟩ (.int .u64 seed)).setCell ⟨b,1,none⟩ (.bool same)=W9 at *;simp only[List.setIfInBounds_toArray,List.set_cons_succ,List.set_cons_zero,Array.setIfInBounds]at h9;have c0:W9.cell? ⟨b,0,none⟩=some (.int .u64 seed):=zi W9 b 0 _ _ (0,0) (by simpa using h9);have c1:W9.cell? ⟨b,1,none⟩=some (.bool same):=zi W9 b 1 _ _ (0,0) (by simpa using h9);refine zR (v := .agg #[.int .u64 seed,.bool same]) (by simp[results,results57,go_sem,c0,c1]) rfl ⟨rfl,HP.out.then hm9 (fun i hi e=>by have:=HBE.out;omega)⟩
def Cfg.ok(c:Cfg):Prop:=1≤c.count∧c.count≤1048576∧1≤c.bytes∧c.bytes≤1099511627776∧0≤c.prot∧c.prot≤99
theorem Cfg.err_ok{c:Cfg}:c.err=0↔c.ok:=by
 unfold Cfg.err Cfg.ok uK;constructor
 ·intro h;split at h
  ·split at h
   ·split at h
    ·rename_i h1 h2 h3;simp at h1 h2 h3;omega
    ·cases h
   ·cases h
  ·cases h
 ·intro⟨h1,h2,h3,h4,h5,h6⟩;simp[h1,h2,h3,h4,h5,h6]
def Cfg.part(c:Cfg):Int:=if c.prot=0 then -1 else c.bytes*c.prot/100
theorem Cfg.part_rng{c:Cfg}(h:c.ok) : -1≤c.part∧c.part≤1099511627776∧(c.prot≠0→0≤c.part):=by
 obtain⟨h1,h2,h3,h4,h5,h6⟩:=h;unfold Cfg.part;have hm:0≤c.bytes*c.prot:=Int.mul_nonneg (by omega) h5;have hm2:c.bytes*c.prot≤1099511627776*99:=Int.mul_le_mul h4 h6 h5 (by omega);split<;>omega
theorem zdp{c:Cfg}(hc:c.ok)(w:World):Calls prog 53 #[c.v] w fun e w'=>e=.returned (.tuple #[.int .i64 c.part,.int .i64 0])∧zb w w':=by
 have he:=Cfg.err_ok.2 hc;have hpr:=Cfg.part_rng hc;have HC:=za (fun W=>zdz c W);rw[he]at HC;obtain⟨pt,hpt⟩:=zf c.part;rw[hpt]at hpr ⊢;obtain⟨cn,cb,cp,sd,sm⟩:=c;unfold Cfg.part at hpt;obtain⟨h1,h2,h3,h4,h5,h6⟩:=hc;dsimp only[Cfg.v]at HC hpt h1 h2 h3 h4 h5 h6 ⊢;have hp0:zb w (w.alloc (.cells #[.int .i64 cn,.int .i64 cb,.int .i64 cp,.int .u64 sd,.bool sm] 29)):=(Mod.refl _ w).alloc _;have z:=zk (w:=w) (o:=(.cells #[.int .i64 cn,.int .i64 cb,.int .i64 cp,.int .u64 sd,.bool sm] 29 (0,0))) rfl;have HP:=za hp0;have hm:0≤cb*cp:=Int.mul_nonneg (by omega) h5;have hm2:cb*cp≤1099511627776*99:=Int.mul_le_mul h4 h6 h5 (by omega);have wm:IntKind.i64.wrap (cb*cp)=cb*cp:=zt _ (by omega);have wq:wrap64 (cb*cp/100)=cb*cp/100:=by unfold wrap64;omega
 have htd:(cb*cp).tdiv 100=cb*cp/100:=Qa hm;have wq2:IntKind.i64.wrap ((cb*cp).tdiv 100)=cb*cp/100:=by rw[htd];exact zt _ (by omega)
 clear hp0 he hpr hm hm2 h1 h2 h3 h4 h5 h6;by_cases h0:cp=0
 ·rw[zj h0]at hpt;subst h0;have HPT:=za hpt;clear hpt wm wq wq2 htd;go_enter func53,ntmps53;go_upto_region 1 with fail
  generalize w.alloc (.cells #[.int .i64 cn,.int .i64 cb,.int .i64 0,.int .u64 sd,.bool sm] 29)=W1 at *;generalize w.heap.size=bb at *;obtain⟨z_0,z_1,z_2,z_3,z_4,z_f,z_l,H_z⟩:=cr5 z;clear z;go_upto_region 4 with(go_at_call 29;refine(HC.out _).mono ?_;rintro e w2 ⟨rfl,hp2⟩)
  have z2:=hp2.heap (fun h=>h) H_z.out;clear z_0 z_1 z_2 z_3 z_4 z_f z_l;clear H_z;obtain⟨z2_0,z2_1,z2_2,z2_3,z2_4,z2_f,z2_l,H_z2⟩:=cr5 z2;clear z2;go_wp2;go_ret2;exact⟨by rw[← HPT.out];rfl,HP.out.trans hp2⟩
 ·rw[zh h0]at hpt;have h0':(cp==0)=false:=kQ.2 h0;have HPT:=za hpt;clear hpt h0;go_enter func53,ntmps53;go_upto_region 1 with fail
  generalize w.alloc (.cells #[.int .i64 cn,.int .i64 cb,.int .i64 cp,.int .u64 sd,.bool sm] 29)=W1 at *;generalize w.heap.size=bb at *;obtain⟨z_0,z_1,z_2,z_3,z_4,z_f,z_l,H_z⟩:=cr5 z;clear z;go_upto_region 4 with(go_at_call 29;refine(HC.out _).mono ?_;rintro e w2 ⟨rfl,hp2⟩)
  have z2:=hp2.heap (fun h=>h) H_z.out;clear z_0 z_1 z_2 z_3 z_4 z_f z_l;clear H_z;obtain⟨z2_0,z2_1,z2_2,z2_3,z2_4,z2_f,z2_l,H_z2⟩:=cr5 z2;clear z2;go_wp2;go_ret2;exact⟨by rw[← HPT.out];show Ending.returned (.tuple #[.int .i64 (wrap64 (cb*cp/100)),.int .i64 0])=_;rw[wq],HP.out.trans hp2⟩
end
section
def xd(Lss:List (List (List Nat)))(l b s:Nat):Prop := ∃ Ls L,Lss[l]? = some Ls∧Ls[b]? = some L∧s∈L
structure ye(now:Nat)(M:List Td)(P:Nat→Prop)(Lss:List (List (List Nat))):Prop where
 len:Lss.length=8
 wide : ∀(l:Nat) (Ls:List (List Nat)),Lss[l]? = some Ls→Ls.length=256
 nd : ∀(l b:Nat) (Ls:List (List Nat)) (L:List Nat),Lss[l]? = some Ls→Ls[b]? = some L→L.Nodup
 slots : ∀ x∈M,∀ y∈M,x.slot=y.slot→x=y
 births : ∀ x∈M,∀ y∈M,x.birth=y.birth→x=y
 ndM:M.Nodup
 rng : ∀ x∈M,x.slot<4194304∧x.dl<18446744073709551615∧0<x.birth∧x.birth≤18446744073709551615
 after : ∀ x∈M,¬ P x.slot→now<x.dl
 at_ : ∀ l b s,xd Lss l b s ↔ ¬ P s ∧ ∃ x∈M,x.slot=s∧lvl now x.dl=l∧bkt now x.dl=b
section
variable{now tt:Nat}{M M':List Td}{P Q:Nat→Prop}{Lss Lss':List (List (List Nat))}{Ls:List (List Nat)}{L L':List Nat}{lv bk:Nat}{x:Td}
theorem zdm(hL:Lss[lv]? = some Ls)(hK:Ls[bk]? = some L)(l b s:Nat):xd (Lss.set lv (Ls.set bk L')) l b s↔if l=lv∧b=bk then s∈L' else xd Lss l b s:=by
 have hl:=(zE.1 hL).1;have hb:=(zE.1 hK).1;unfold xd;by_cases e1:l=lv
 ·subst e1;rw[yt hl];by_cases e2:b=bk
  ·subst e2;rw[zj ⟨rfl,rfl⟩];constructor
   ·rintro⟨A,B,h1,h2,h3⟩
    cases h1
    rw[yt hb]at h2
    cases h2
    exact h3
   ·intro h;exact⟨_,_,rfl,yt hb,h⟩
  ·rw[zh (fun c=>e2 c.2)];constructor
   ·rintro⟨A,B,h1,h2,h3⟩
    cases h1
    rw[yw (fun c=>e2 c.symm)]at h2;exact⟨_,_,hL,h2,h3⟩
   ·rintro⟨A,B,h1,h2,h3⟩;rw[hL]at h1
    cases h1
    exact⟨_,_,rfl,by rw[yw (fun c=>e2 c.symm)];exact h2,h3⟩
 ·rw[zh (fun c=>e1 c.1),yw (fun c=>e1 c.symm)]
theorem zdl(hL:Lss[lv]? = some Ls)(h1 : ∀(l:Nat) (A:List (List Nat)),Lss[l]? = some A→A.length=256){Ls':List (List Nat)}(h2:Ls'.length=256)(l:Nat)(A:List (List Nat))(h:(Lss.set lv Ls')[l]? = some A):A.length=256:=by
 have hl:=(zE.1 hL).1;by_cases e1:l=lv
 ·subst e1;rw[yt hl]at h
  cases h
  exact h2
 ·rw[yw (fun c=>e1 c.symm)]at h;exact h1 l A h
theorem zc5(hL:Lss[lv]? = some Ls)(hK:Ls[bk]? = some L)(h1 : ∀(l b:Nat) (A:List (List Nat)) (B:List Nat),Lss[l]? = some A→A[b]? = some B→B.Nodup)(h2:L'.Nodup)(l b:Nat)(A:List (List Nat))(B:List Nat)(hA:(Lss.set lv (Ls.set bk L'))[l]? = some A)(hB:A[b]? = some B):B.Nodup:=by
 have hl:=(zE.1 hL).1;have hb:=(zE.1 hK).1;by_cases e1:l=lv
 ·subst e1;rw[yt hl]at hA
  cases hA
  by_cases e2:b=bk
  ·subst e2;rw[yt hb]at hB
   cases hB
   exact h2
  ·rw[yw (fun c=>e2 c.symm)]at hB;exact h1 l b _ _ hL hB
 ·rw[yw (fun c=>e1 c.symm)]at hA;exact h1 l b A B hA hB
theorem ye.get(h:ye now M P Lss)(h1:lv<8)(h2:bk<256) : ∃ Ls L,Lss[lv]? = some Ls∧Ls[bk]? = some L:=by
 obtain⟨Ls,hL⟩ : ∃ Ls,Lss[lv]? = some Ls:=⟨_,zO (by rw[h.len];exact h1)⟩;exact⟨Ls,_,hL,zO (by rw[h.wide lv Ls hL];exact h2)⟩
theorem ye.uniq(h:ye now M P Lss){l b l' b' s:Nat}(h1:xd Lss l b s)(h2:xd Lss l' b' s):l=l'∧b=b':=by
 obtain⟨_,x,hx,e1,e2,e3⟩:=(h.at_ _ _ _).1 h1;obtain⟨_,y,hy,f1,f2,f3⟩:=(h.at_ _ _ _).1 h2;have:=h.slots x hx y hy (by rw[e1,f1]);subst this;exact⟨by rw[← e2,f2],by rw[← e3,f3]⟩
theorem ye.out(h:ye now M P Lss){s:Nat}(hp : ∀ y∈M,y.slot=s→P s)(l b:Nat) : ¬ xd Lss l b s:=fun c=>by
 obtain⟨h1,y,hy,e,_⟩:=(h.at_ _ _ _).1 c;exact h1 (hp y hy e)
theorem ye.notL(h:ye now M P Lss){s:Nat}(hp : ∀ y∈M,y.slot=s→P s)(hL:Lss[lv]? = some Ls) : ¬ inL Ls s:=fun⟨b,l,h1,h2⟩=>h.out hp lv b ⟨Ls,l,hL,h1,h2⟩
theorem ye.put(h:ye now M P Lss)(hc:UO M x M')(hn:now<x.dl)(hr:x.slot<4194304∧x.dl<18446744073709551615∧0<x.birth∧x.birth≤18446744073709551615)(hp : ∀ y∈M,y.slot=x.slot→P x.slot)
  (hL:Lss[lvl now x.dl]? = some Ls) (hK:Ls[bkt now x.dl]? = some L) (hQ : ∀ s,Q s↔P s∧s≠x.slot):ye now M' Q (Lss.set (lvl now x.dl) (Ls.set (bkt now x.dl) (L++[x.slot]))):=by
 have hmem : ∀ y,y∈M'↔y=x∨y∈M:=fun y=>by
  rcases hc with⟨_,_,rfl⟩ | ⟨h1,_,rfl⟩
  ·exact yx
  ·exact⟨.inr,fun e=>by rcases e with rfl | e;exact h1;exact e⟩
 have hu : ∀ y∈M',y.slot=x.slot→y=x:=fun y hy e=>by
  rcases hc with⟨h1,_,rfl⟩ | ⟨_,h2,rfl⟩
  ·rcases yx.1 hy with rfl | hy
   ·rfl
   ·exact absurd e (h1 y hy)
  ·exact h2 y hy e
 have hout:=h.out hp;refine⟨by rw[xC];exact h.len,zdl hL h.wide (by rw[xC];exact h.wide _ _ hL),zc5 hL hK h.nd ?_,?_,?_,?_,?_,?_,fun l b s => ?_⟩
 ·rw[xy];refine⟨h.nd _ _ _ _ hL hK,by simp,fun a ha b hb e => ?_⟩;rw[xc]at hb;subst hb;subst e;exact hout _ _ ⟨Ls,L,hL,hK,ha⟩
 ·intro a ha b hb e;rcases(hmem a).1 ha with rfl | ha2
  ·exact(hu b hb e.symm).symm
  ·rcases(hmem b).1 hb with rfl | hb2
   ·exact hu a ha e
   ·exact h.slots a ha2 b hb2 e
 ·rcases hc with⟨_,h2,rfl⟩ | ⟨_,_,rfl⟩
  ·intro a ha b hb e;rcases yx.1 ha with ea | ha'
   ·rcases yx.1 hb with eb | hb'
    ·rw[ea,eb]
    ·exact absurd (by rw[← e,ea]) (h2 b hb')
   ·rcases yx.1 hb with eb | hb'
    ·exact absurd (by rw[e,eb]) (h2 a ha')
    ·exact h.births a ha' b hb' e
  ·exact h.births
 ·rcases hc with⟨h1,_,rfl⟩ | ⟨_,_,rfl⟩
  ·exact yZ.2 ⟨fun c=>h1 x c rfl,h.ndM⟩
  ·exact h.ndM
 ·intro y hy;rcases(hmem y).1 hy with rfl | hy
  ·exact hr
  ·exact h.rng y hy
 ·intro y hy hq;by_cases e:y.slot=x.slot
  ·rw[hu y hy e];exact hn
  ·rcases(hmem y).1 hy with rfl | hy
   ·exact hn
   ·exact h.after y hy (fun c=>hq ((hQ _).2 ⟨c,e⟩))
 ·rw[zdm hL hK];by_cases e:s=x.slot
  ·subst e;have hq : ¬ Q x.slot:=fun c=>((hQ _).1 c).2 rfl
   by_cases c:l=lvl now x.dl∧b=bkt now x.dl
   ·rw[zj c];exact⟨fun _=>⟨hq,x,(hmem x).2 (.inl rfl),rfl,c.1.symm,c.2.symm⟩,fun _=>xF _ yD⟩
   ·rw[zh c];refine⟨fun k=>absurd k (hout _ _),fun⟨_,y,hy,e1,e2,e3⟩=>absurd ?_ c⟩;have:=hu y hy e1;subst this;exact⟨e2.symm,e3.symm⟩
  ·have hqp:Q s↔P s:=⟨fun c=>((hQ s).1 c).1,fun c=>(hQ s).2 ⟨c,e⟩⟩;have h1:(if l=lvl now x.dl∧b=bkt now x.dl then s∈L++[x.slot]else xd Lss l b s)↔xd Lss l b s:=by
    by_cases c:l=lvl now x.dl∧b=bkt now x.dl
    ·rw[zj c,yI,xc,c.1,c.2];refine⟨fun k => ?_,fun⟨A,B,a1,a2,a3⟩ => ?_⟩
     ·rcases k with k | k
      ·exact⟨Ls,L,hL,hK,k⟩
      ·exact absurd k e
     ·rw[hL]at a1;cases a1;rw[hK]at a2;cases a2;exact .inl a3
    ·rw[zh c]
   rw[h1,h.at_,hqp];refine ZG (fun _=>⟨fun⟨y,hy,k⟩=>⟨y,(hmem y).2 (.inr hy),k⟩,fun⟨y,hy,k⟩ => ?_⟩);rcases(hmem y).1 hy with rfl | hy
   ·exact absurd k.1.symm e
   ·exact⟨y,hy,k⟩
theorem ye.cut(h:ye now M P Lss)(hx:x∈M)(hM : ∀ y,y∈M'↔y∈M∧y.slot≠x.slot)(hnd:M'.Nodup)
  (hL:Lss[lvl now x.dl]? = some Ls) (hK:Ls[bkt now x.dl]? = some L):ye now M' P (Lss.set (lvl now x.dl) (Ls.set (bkt now x.dl) (L.erase x.slot))):=by
 have hLn:=h.nd _ _ _ _ hL hK;refine⟨by rw[xC];exact h.len,zdl hL h.wide (by rw[xC];exact h.wide _ _ hL),zc5 hL hK h.nd (hLn.erase _),fun a ha b hb=>h.slots a ((hM a).1 ha).1 b ((hM b).1 hb).1,fun a ha b hb=>h.births a ((hM a).1 ha).1 b ((hM b).1 hb).1,hnd,fun y hy=>h.rng y ((hM y).1 hy).1,fun y hy=>h.after y ((hM y).1 hy).1,fun l b s => ?_⟩;rw[zdm hL hK];by_cases e:s=x.slot
 ·subst e;have r : ¬ ∃ y∈M',y.slot=x.slot∧lvl now y.dl=l∧bkt now y.dl=b:=fun⟨y,hy,e1,_⟩=>((hM y).1 hy).2 e1
  by_cases c:l=lvl now x.dl∧b=bkt now x.dl
  ·rw[zj c];exact⟨fun k=>absurd k (fun k=>((List.Nodup.mem_erase_iff hLn).1 k).1 rfl),fun k=>absurd k.2 r⟩
  ·rw[zh c];refine⟨fun k => ?_,fun k=>absurd k.2 r⟩;obtain⟨_,y,hy,e1,e2,e3⟩:=(h.at_ _ _ _).1 k;have:=h.slots y hy x hx e1;subst this;exact absurd ⟨e2.symm,e3.symm⟩ c
 ·have h1:(if l=lvl now x.dl∧b=bkt now x.dl then s∈L.erase x.slot else xd Lss l b s)↔xd Lss l b s:=by
   by_cases c:l=lvl now x.dl∧b=bkt now x.dl
   ·rw[zj c,List.mem_erase_of_ne e,c.1,c.2];refine⟨fun k=>⟨Ls,L,hL,hK,k⟩,fun⟨A,B,a1,a2,a3⟩ => ?_⟩;rw[hL]at a1;cases a1;rw[hK]at a2;cases a2;exact a3
   ·rw[zh c]
  rw[h1,h.at_];refine ZG (fun _=>⟨fun⟨y,hy,k⟩=>⟨y,(hM y).2 ⟨hy,fun c=>e (by rw[← k.1,c])⟩,k⟩,fun⟨y,hy,k⟩=>⟨y,((hM y).1 hy).1,k⟩⟩)
theorem ye.drop(h:ye now M P Lss)(hp:P x.slot)(hM : ∀ y,y∈M'↔y∈M∧y.slot≠x.slot)(hnd:M'.Nodup)(hQ : ∀ s,Q s↔P s∧s≠x.slot):ye now M' Q Lss:=by
 refine⟨h.len,h.wide,h.nd,fun a ha b hb=>h.slots a ((hM a).1 ha).1 b ((hM b).1 hb).1,fun a ha b hb=>h.births a ((hM a).1 ha).1 b ((hM b).1 hb).1,hnd,fun y hy=>h.rng y ((hM y).1 hy).1,fun y hy hq=>h.after y ((hM y).1 hy).1 (fun c=>hq ((hQ _).2 ⟨c,((hM y).1 hy).2⟩)),fun l b s => ?_⟩;rw[h.at_];by_cases e:s=x.slot
 ·subst e;exact⟨fun k=>absurd hp k.1,fun⟨_,y,hy,e1,_⟩=>absurd e1 ((hM y).1 hy).2⟩
 ·have hqp:Q s↔P s:=⟨fun c=>((hQ s).1 c).1,fun c=>(hQ s).2 ⟨c,e⟩⟩;rw[hqp];refine ZG (fun _=>⟨fun⟨y,hy,k⟩=>⟨y,(hM y).2 ⟨hy,fun c=>e (by rw[← k.1,c])⟩,k⟩,fun⟨y,hy,k⟩=>⟨y,((hM y).1 hy).1,k⟩⟩)
theorem ye.new(now:Nat):ye now [] (fun _=>False) (List.replicate 8 (List.replicate 256 [])):=by
 refine⟨vz,fun l A h => ?_,fun l b A B h1 h2 => ?_,(fun _ h=>by cases h),(fun _ h=>by cases h),jR,(fun _ h=>by cases h),(fun _ h=>by cases h),fun l b s=>⟨fun⟨A,B,h1,h2,h3⟩ => ?_,fun⟨_,x,hx,_⟩=>by cases hx⟩⟩
 ·rw[vU]at h;split at h
  ·cases h;exact vz
  ·cases h
 ·rw[vU]at h1;split at h1
  ·cases h1
   rw[vU]at h2;split at h2
   ·cases h2;exact jR
   ·cases h2
  ·cases h1
 ·rw[vU]at h1;split at h1
  ·cases h1
   rw[vU]at h2;split at h2
   ·cases h2;cases h3
   ·cases h2
  ·cases h1
theorem ye.perm(h:ye now M P Lss)(hp:M.Perm M'):ye now M' P Lss :=
 ⟨h.len,h.wide,h.nd,fun a ha b hb=>h.slots a (hp.mem_iff.2 ha) b (hp.mem_iff.2 hb),fun a ha b hb=>h.births a (hp.mem_iff.2 ha) b (hp.mem_iff.2 hb),hp.nodup_iff.1 h.ndM,fun y hy=>h.rng y (hp.mem_iff.2 hy),fun y hy=>h.after y (hp.mem_iff.2 hy),fun l b s=>by
  rw[h.at_];exact ZG (fun _=>⟨fun⟨y,hy,k⟩=>⟨y,hp.mem_iff.1 hy,k⟩,fun⟨y,hy,k⟩=>⟨y,hp.mem_iff.2 hy,k⟩⟩)⟩
end
def xT(Ls:List (List Nat))(n:Nat):List Nat:=(Ls.take n).flatten
def km(Ls:List (List Nat))(n:Nat):List (List Nat):=List.replicate n []++Ls.drop n
def uh(Lss:List (List (List Nat)))(k:Nat):List (List (List Nat)):=List.replicate k (List.replicate 256 [])++Lss.drop k
def vd(Lss:List (List (List Nat)))(k:Nat):List Nat:=((Lss.take k).map List.flatten).flatten
section
variable{now tt:Nat}{M M':List Td}{P Q:Nat→Prop}{Lss Lss':List (List (List Nat))}{Ls cur:List (List Nat)}{L L':List Nat}{lv bk n b k:Nat}{x:Td}
theorem zbs(a:List Nat)(Ls:List (List Nat))(i:Nat):neB (a::Ls) (i+1)=neB Ls i:=rfl
theorem zaP : ∀ {cur:List (List Nat)} {b n:Nat} {L:List Nat},b<n→cur[b]? = some L→(∀ i,i<b→neB cur i=false)→(cur.take n).flatten=L++((cur.set b []).take n).flatten
 | [],b,n,L,_,h,_=>by cases h
 | a::cur,0,n+1,L,_,h,_=>by
  injection h with h
  subst h;simp
 | a::cur,b+1,n+1,L,hb,h,he=>by
  have h0:=he 0 (by omega);have ha:a=[]:=by
   cases a with
   | nil=>rfl
   | cons y a=>simp[neB]at h0
  subst ha;have:=zaP (cur:=cur) (b:=b) (n:=n) (L:=L) (by omega) h (fun i hi=>by rw[← zbs [] cur i];exact he (i+1) (by omega));rw[YM,Uh,Yp,this,ZR,YM,Uh,Yp]
theorem zbR : ∀ {cur:List (List Nat)} {n:Nat},n≤cur.length→(∀ i,i<n→neB cur i=false)→cur.take n=List.replicate n []
 | cur,0,_,_=>by simp
 | [],n+1,h,_=>by simp at h
 | a::cur,n+1,h,he=>by
  have h0:=he 0 (by omega);have ha:a=[]:=by
   cases a with
   | nil=>rfl
   | cons y a=>simp[neB]at h0
  subst ha;rw[YM,zbR (by simp at h;omega) (fun i hi=>by rw[← zbs [] cur i];exact he (i+1) (by omega)),ZO]
theorem zke(n:Nat):(List.replicate n ([]:List Nat)).flatten=[]:=by
 induction n with
 | zero=>rfl
 | succ n ih=>rw[ZO,Uh,ih];rfl
theorem JO{s:Nat}:s∈xT Ls n ↔ ∃ b L,b<n∧Ls[b]? = some L∧s∈L:=by
 unfold xT;rw[Zr];constructor
 ·rintro⟨L,hL,hs⟩;obtain⟨b,hb⟩:=uk hL;rw[j4]at hb;split at hb
  ·exact⟨b,L,by assumption,hb,hs⟩
  ·cases hb
 ·rintro⟨b,L,hb,hL,hs⟩;refine⟨L,?_,hs⟩;apply ym (i:=b);rw[j4,zj hb,hL]
theorem KM{s:Nat}:s∈vd Lss k ↔ ∃ l b,l<k∧xd Lss l b s:=by
 unfold vd;rw[Zr];constructor
 ·rintro⟨A,hA,hs⟩;obtain⟨l,hl⟩:=uk hA;rw[yz,j4]at hl;split at hl
  ·cases hL:Lss[l]? with
   | none=>rw[hL]at hl;cases hl
   | some Ls =>
    rw[hL]at hl;injection hl with hl
    subst hl;obtain⟨B,hB,hs⟩:=Zr.1 hs;obtain⟨b,hb⟩:=uk hB;exact⟨l,b,by assumption,Ls,B,hL,hb,hs⟩
  ·cases hl
 ·rintro⟨l,b,hl,Ls,B,hL,hB,hs⟩;refine⟨Ls.flatten,?_,Zr.2 ⟨B,ym hB,hs⟩⟩;apply ym (i:=l);rw[yz,j4,zj hl,hL]
  rfl
theorem zfD(hL:Lss[k]? = some Ls):vd Lss (k+1)=vd Lss k++Ls.flatten:=by
 unfold vd;rw[uH,hL];simp
theorem zkA(hL:Lss[k]? = some Ls):uh Lss (k+1)=(uh Lss k).set k (List.replicate 256 []):=by
 unfold uh;have hk:=(zE.1 hL).1;rw[XO _ _ (by rw[vz];exact zN _),vz,Y9,jK hk,zfe,List.replicate_succ',vL]
 rfl
theorem XM(hk:k≤lv):(uh Lss k)[lv]? = Lss[lv]?:=by
 unfold uh;rw[jn (by rw[vz];exact hk),vz,List.getElem?_drop,show k+(lv-k)=lv by omega]
theorem Jp(hk:lv<k):(uh Lss k)[lv]? = some (List.replicate 256 []):=by
 unfold uh;rw[uw (by rw[vz];exact hk),vU,zj hk]
theorem zll{l s:Nat}:xd (uh Lss k) l b s↔xd Lss l b s ∧ ¬ l<k:=by
 unfold xd;by_cases c:l<k
 ·refine⟨fun⟨A,B,h1,h2,h3⟩ => ?_,fun h=>absurd c h.2⟩;rw[Jp c]at h1
  cases h1
  rw[vU]at h2;split at h2
  ·cases h2;cases h3
  ·cases h2
 ·rw[XM (by omega)];exact⟨fun h=>⟨h,c⟩,fun h=>h.1⟩
theorem JL(hn:n≤b):(km Ls n)[b]? = Ls[b]?:=by
 unfold km;rw[jn (by rw[vz];exact hn),vz,List.getElem?_drop,show n+(b-n)=b by omega]
theorem zah(hn:b<n):(km Ls n)[b]? = some []:=by
 unfold km;rw[uw (by rw[vz];exact hn),vU,zj hn]
theorem zlF(h:Ls.length=256)(hn:n≤256):(km Ls n).length=256:=by
 unfold km;rw[zT,vz,List.length_drop,h];omega
def Zk(Lss:List (List (List Nat)))(Ls:List (List Nat))(top n:Nat):List (List (List Nat)):=(uh Lss top).set top (km Ls n)
theorem zgs(hL:Lss[lv]? = some Ls){l s:Nat}:xd (Zk Lss Ls lv n) l b s↔xd Lss l b s ∧ ¬ (l<lv∨l=lv∧b<n):=by
 have hlt:lv<(uh Lss lv).length:=by
  have:=(zE.1 ((XM (Lss:=Lss) (zN lv)).trans hL)).1;exact this
 unfold Zk;by_cases e:l=lv
 ·subst e;unfold xd;rw[yt hlt];by_cases c:b<n
  ·refine⟨fun⟨A,B,h1,h2,h3⟩ => ?_,fun h=>absurd (.inr ⟨rfl,c⟩) h.2⟩
   cases h1
   rw[zah c]at h2
   cases h2
   cases h3
  ·refine⟨fun⟨A,B,h1,h2,h3⟩ => ?_,fun⟨⟨A,B,h1,h2,h3⟩,_⟩ => ?_⟩
   ·cases h1
    rw[JL (by omega)]at h2;exact⟨⟨Ls,B,hL,h2,h3⟩,by omega⟩
   ·rw[hL]at h1
    cases h1
    exact⟨_,B,rfl,by rw[JL (by omega)];exact h2,h3⟩
 ·have h1:xd ((uh Lss lv).set lv (km Ls n)) l b s↔xd (uh Lss lv) l b s:=by
   unfold xd;rw[yw (fun c=>e c.symm)]
  rw[h1,zll];refine ZG (fun _ => ?_);omega
theorem UW : ∀ {A:List (List Nat)},(∀(i:Nat) (l:List Nat),A[i]? = some l→l.Nodup)→(∀(i j:Nat) (l l':List Nat) (s:Nat),A[i]? = some l→A[j]? = some l'→s∈l→s∈l'→i=j)→A.flatten.Nodup
 | [],_,_=>by simp
 | a::A,h1,h2=>by
  rw[Uh,xy];refine⟨h1 0 a rfl,UW (fun i l h=>h1 (i+1) l h) (fun i j l l' s e1 e2 s1 s2=>by have:=h2 (i+1) (j+1) l l' s e1 e2 s1 s2;omega),fun s hs t ht e => ?_⟩;subst e;obtain⟨B,hB,hs2⟩:=Zr.1 ht;obtain⟨i,hi⟩:=uk hB;have:=h2 0 (i+1) a B s rfl hi hs hs2;omega
theorem ye.nodup_level(h:ye now M P Lss)(hL:Lss[lv]? = some Ls):Ls.flatten.Nodup :=
 UW (fun i l e=>h.nd lv i Ls l hL e) (fun i j l l' s e1 e2 s1 s2=>(h.uniq (l:=lv) (l':=lv) ⟨Ls,l,hL,e1,s1⟩ ⟨Ls,l',hL,e2,s2⟩).2)
theorem ye.nodup_moved(h:ye now M P Lss)(hL:Lss[lv]? = some Ls):(vd Lss lv++xT Ls n).Nodup:=by
 rw[xy];refine⟨UW (fun i l e => ?_) (fun i j l l' s e1 e2 s1 s2 => ?_),?_,fun s hs t ht e => ?_⟩
 ·rw[yz,j4]at e;split at e
  ·cases hA:Lss[i]? with
   | none=>rw[hA]at e;cases e
   | some A=>rw[hA]at e;injection e with e;subst e;exact h.nodup_level hA
  ·cases e
 ·rw[yz,j4]at e1 e2;split at e1
  ·split at e2
   ·cases hA:Lss[i]? with
    | none=>rw[hA]at e1;cases e1
    | some A =>
     cases hB:Lss[j]? with
     | none=>rw[hB]at e2;cases e2
     | some B =>
      rw[hA]at e1;injection e1 with e1;subst e1
      rw[hB]at e2;injection e2 with e2;subst e2
      obtain⟨C,hC,c1⟩:=Zr.1 s1;obtain⟨D,hD,d1⟩:=Zr.1 s2;obtain⟨b1,hb1⟩:=uk hC;obtain⟨b2,hb2⟩:=uk hD;exact(h.uniq ⟨A,C,hA,hb1,c1⟩ ⟨B,D,hB,hb2,d1⟩).1
   ·cases e2
  ·cases e1
 ·have:=h.nodup_level hL;rw[← Yl n Ls,List.flatten_append,xy]at this;exact this.1
 ·subst e;obtain⟨l,b,hl,h1⟩:=KM.1 hs;obtain⟨b2,B,_,h2,h3⟩:=JO.1 ht;have:=(h.uniq h1 ⟨Ls,B,hL,h2,h3⟩).1;omega
theorem ye.start(h:ye now M (fun _=>False) Lss)(hn:now<tt)(ht:tt<18446744073709551616)(hL:Lss[lvl now tt]? = some Ls) :
  ye tt M (fun s=>s∈vd Lss (lvl now tt)++xT Ls (bkt now tt+1)) (Zk Lss Ls (lvl now tt) (bkt now tt+1)) ∧ ∀ s,s∈vd Lss (lvl now tt)++xT Ls (bkt now tt+1) → ∃ x∈M,x.slot=s:=by
 have hb:bkt now tt<256:=YA;have hlen:(uh Lss (lvl now tt)).length=8:=by
  have:=(zE.1 hL).1;have:=h.len;unfold uh;rw[zT,vz,List.length_drop];omega
 have hmv : ∀ s,s∈vd Lss (lvl now tt)++xT Ls (bkt now tt+1) ↔ ∃ l b,xd Lss l b s∧(l<lvl now tt∨l=lvl now tt∧b<bkt now tt+1):=fun s=>by
  rw[yI,KM,JO];constructor
  ·rintro(⟨l,b,h1,h2⟩ | ⟨b,B,h1,h2,h3⟩)
   ·exact⟨l,b,h2,.inl h1⟩
   ·exact⟨_,b,⟨Ls,B,hL,h2,h3⟩,.inr ⟨rfl,h1⟩⟩
  ·rintro⟨l,b,h1,h2 | ⟨rfl,h2⟩⟩
   ·exact .inl ⟨l,b,h2,h1⟩
   ·obtain⟨A,B,a1,a2,a3⟩:=h1;rw[hL]at a1
    cases a1
    exact .inr ⟨b,B,h2,a2,a3⟩
 have hnm : ∀ x∈M,x.slot∉vd Lss (lvl now tt)++xT Ls (bkt now tt+1)→tt<x.dl∧lvl tt x.dl=lvl now x.dl∧bkt tt x.dl=bkt now x.dl:=fun x hx hs=>by
  obtain⟨_,r2,_⟩:=h.rng x hx;refine zjQ (by omega) ht (by omega) (h.after x hx (fun c=>c)) hn (fun hm=>hs ((hmv _).2 ⟨lvl now x.dl,bkt now x.dl,(h.at_ _ _ _).2 ⟨(fun c=>c),x,hx,rfl,rfl,rfl⟩,?_⟩));unfold JA at hm;rcases hm with hm | ⟨h1,h2⟩
  ·exact .inl hm
  ·exact .inr ⟨h1,by omega⟩
 refine⟨⟨by unfold Zk;rw[xC];exact hlen,fun l A hA => ?_,fun l b A B hA hB => ?_,h.slots,h.births,h.ndM,h.rng,fun x hx hs=>(hnm x hx hs).1,fun l b s => ?_⟩,fun s hs => ?_⟩
 ·unfold Zk at hA;by_cases e:l=lvl now tt
  ·subst e;rw[yt (by rw[hlen];have:=(zE.1 hL).1;rw[h.len]at this;exact this)]at hA
   cases hA
   exact zlF (h.wide _ _ hL) (by omega)
  ·rw[yw (fun c=>e c.symm)]at hA;by_cases c:l<lvl now tt
   ·rw[Jp c]at hA
    cases hA
    exact vz
   ·rw[XM (by omega)]at hA;exact h.wide l A hA
 ·unfold Zk at hA;by_cases e:l=lvl now tt
  ·subst e;rw[yt (by rw[hlen];have:=(zE.1 hL).1;rw[h.len]at this;exact this)]at hA
   cases hA
   by_cases c:b<bkt now tt+1
   ·rw[zah c]at hB
    cases hB
    exact jR
   ·rw[JL (by omega)]at hB;exact h.nd _ _ _ _ hL hB
  ·rw[yw (fun c=>e c.symm)]at hA;by_cases c:l<lvl now tt
   ·rw[Jp c]at hA
    cases hA
    rw[vU]at hB;split at hB
    ·cases hB;exact jR
    ·cases hB
   ·rw[XM (by omega)]at hA;exact h.nd l b A B hA hB
 ·rw[zgs hL];constructor
  ·rintro⟨h1,h2⟩;obtain⟨_,x,hx,e1,e2,e3⟩:=(h.at_ _ _ _).1 h1;have hns:s∉vd Lss (lvl now tt)++xT Ls (bkt now tt+1):=fun c=>by
    obtain⟨l',b',h3,h4⟩:=(hmv s).1 c;obtain⟨f1,f2⟩:=h.uniq h1 h3;rw[← f1,← f2]at h4;exact h2 h4
   obtain⟨_,g2,g3⟩:=hnm x hx (by rw[e1];exact hns);exact⟨hns,x,hx,e1,by rw[g2,e2],by rw[g3,e3]⟩
  ·rintro⟨hns,x,hx,e1,e2,e3⟩;obtain⟨_,g2,g3⟩:=hnm x hx (by rw[e1];exact hns);have h1:xd Lss l b s:=(h.at_ _ _ _).2 ⟨(fun c=>c),x,hx,e1,by rw[← g2,e2],by rw[← g3,e3]⟩;exact⟨h1,fun c=>hns ((hmv s).2 ⟨l,b,h1,c⟩)⟩
 ·obtain⟨l,b,h1,_⟩:=(hmv s).1 hs;obtain⟨_,x,hx,e,_⟩:=(h.at_ _ _ _).1 h1;exact⟨x,hx,e⟩
end
section
variable{now tt:Nat}{M M' Mj dj:List Td}{P Q:Nat→Prop}{Lss Lss':List (List (List Nat))}{Ls cur:List (List Nat)}{L L' mv:List Nat}{lv bk n b k s:Nat}{x:Td}
theorem ye.without(h:ye now M P Lss)(hp:M.Perm (x::M')):x∈M∧(∀ y,y∈M'↔y∈M∧y.slot≠x.slot)∧(∀ y,y∈M'↔y∈M∧y.birth≠x.birth)∧M'.Nodup∧M'.length+1=M.length:=by
 have hx:x∈M:=hp.mem_iff.2 yD;have hnd:=hp.nodup_iff.1 h.ndM;obtain⟨n1,n2⟩:=yZ.1 hnd;have key : ∀ y,y∈M'↔y∈M∧y≠x:=fun y=>by
  rw[hp.mem_iff,yx];constructor
  ·intro hy;exact⟨.inr hy,fun e=>n1 (e ▸ hy)⟩
  ·rintro⟨e | e,c⟩
   ·exact absurd e c
   ·exact e
 refine⟨hx,fun y => ?_,fun y => ?_,n2,by rw[hp.length_eq];rfl⟩
 ·rw[key];exact ZG (fun hy=>⟨fun c e=>c (h.slots y hy x hx e),fun c e=>c (by rw[e])⟩)
 ·rw[key];exact ZG (fun hy=>⟨fun c e=>c (h.births y hy x hx e),fun c e=>c (by rw[e])⟩)
theorem zej(h:ye now M P Lss)(hx:x∈M):M.Perm (x::M.filter (fun y=>y.slot != x.slot)):=by
 have h1 : ∀(A:List Td),(∀ a∈A,∀ b∈A,a.slot=b.slot→a=b)→A.Nodup→x∈A→A.Perm (x::A.filter (fun y=>y.slot != x.slot)):=by
  intro A
  induction A with
  | nil=>intro _ _ hx;cases hx
  | cons a A ih =>
   intro hs hnd hx;obtain⟨n1,n2⟩:=yZ.1 hnd;by_cases e:a.slot=x.slot
   ·have:a=x:=hs a yD x hx e;subst this;have hf:A.filter (fun y=>y.slot != a.slot)=A:=by
     rw[jo];intro y hy;have:y.slot≠a.slot:=fun c=>n1 (by rw[← hs y (yE _ hy) a yD c];exact hy)
     simpa using this
    rw[jh,zh (by simp),hf]
   ·rw[jh,zj (by simpa using e)];have hx2:x∈A:=by
     rcases yx.1 hx with c | c
     ·exact absurd (by rw[c]) e
     ·exact c
    exact((ih (fun u hu v hv=>hs u (yE _ hu) v (yE _ hv)) n2 hx2).cons a).trans (List.Perm.swap x a _)
 exact h1 M h.slots h.ndM hx
structure jQ(tt:Nat)(M:List Td)(mv:List Nat)(Mj dj:List Td)(Lssj:List (List (List Nat))):Prop where
 inv:ye tt Mj (fun s=>s∈mv) Lssj
 perm:(Mj++dj).Perm M
 due : ∀ x∈dj,x.dl≤tt
 nd:mv.Nodup
 has : ∀ s∈mv,∃ x∈Mj,x.slot=s
theorem jQ.stay(h:jQ tt M (s::mv) Mj dj Lss)(hx:x∈Mj)(hs:x.slot=s)(hn:tt<x.dl)(hL:Lss[lvl tt x.dl]? = some Ls)(hK:Ls[bkt tt x.dl]? = some L) :
  jQ tt M mv Mj dj (Lss.set (lvl tt x.dl) (Ls.set (bkt tt x.dl) (L++[x.slot]))):=by
 obtain⟨n1,n2⟩:=yZ.1 h.nd;refine⟨h.inv.put (.inr ⟨hx,fun y hy e=>h.inv.slots y hy x hx e,rfl⟩) hn (h.inv.rng x hx) (fun y hy e=>by rw[hs];exact yD) hL hK (fun t => ?_),h.perm,h.due,n2,fun t ht=>h.has t (yE _ ht)⟩;rw[yx,hs];constructor
 ·intro ht;exact⟨.inr ht,fun e=>n1 (e ▸ ht)⟩
 ·rintro⟨e | e,c⟩
  ·exact absurd e c
  ·exact e
theorem jQ.go(h:jQ tt M (s::mv) Mj dj Lss)(hs:x.slot=s)(hd:x.dl≤tt)(hp:Mj.Perm (x::M')):jQ tt M mv M' (dj++[x]) Lss:=by
 obtain⟨n1,n2⟩:=yZ.1 h.nd;obtain⟨hx,w1,w2,w3,w4⟩:=h.inv.without hp;refine⟨h.inv.drop (x:=x) (by rw[hs];exact yD) w1 w3 (fun t => ?_),?_,fun y hy => ?_,n2,fun t ht => ?_⟩
 ·rw[yx,hs];constructor
  ·intro ht;exact⟨.inr ht,fun e=>n1 (e ▸ ht)⟩
  ·rintro⟨e | e,c⟩
   ·exact absurd e c
   ·exact e
 ·refine List.Perm.trans ?_ h.perm;refine List.Perm.trans ?_ (hp.symm.append_right dj);rw[← vL];exact List.perm_append_comm.trans (by simp)
 ·rcases yI.1 hy with hy | hy
  ·exact h.due y hy
  ·rw[xc]at hy;rw[hy];exact hd
 ·obtain⟨y,hy,e⟩:=h.has t (yE _ ht);exact⟨y,(w1 y).2 ⟨hy,fun c=>n1 (by rw[← hs,← c,e];exact ht)⟩,e⟩
theorem jQ.fin(h:jQ tt M [] Mj dj Lss):ye tt Mj (fun _=>False) Lss ∧ ∀ x∈Mj,tt<x.dl:=by
 have h0:(fun s:Nat=>s∈([]:List Nat))=fun _=>False:=by funext s;simp
 have:=h.inv;rw[h0]at this;exact⟨this,fun x hx=>this.after x hx (fun c=>c)⟩
theorem ye.adv(h:ye now M (fun _=>False) Lss)(hn:now<tt)(ht:tt<18446744073709551616)(hL:Lss[lvl now tt]? = some Ls) :
  jQ tt M (vd Lss (lvl now tt)++xT Ls (bkt now tt+1)) M [] (Zk Lss Ls (lvl now tt) (bkt now tt+1)):=by
 obtain⟨h1,h2⟩:=h.start hn ht hL;exact⟨h1,by simp,(fun _ h=>by cases h),h.nodup_moved hL,h2⟩
def bef(a b:Td):Prop:=a.dl<b.dl∨a.dl=b.dl∧a.birth<b.birth
def jk(a b:Td):Bool:=decide (a.dl<b.dl)||(decide (a.dl=b.dl)&&decide (a.birth<b.birth))
theorem Yb{a b:Td}:jk a b=true↔bef a b:=by unfold jk bef;simp
theorem XW{a b:Td}(h1:bef a b)(h2:bef b a):False:=by unfold bef at *;omega
theorem Ya : ∀ {A B:List Td},A.Pairwise bef→B.Pairwise bef→A.Perm B→A=B:=by
 intro A B h1 h2 h3;exact h3.eq_of_pairwise (fun a b _ _ x y=>(XW x y).elim) h1 h2
theorem zbH : ∀ {A:List Td},A.Pairwise bef→A.takeWhile (fun x=>decide (x.dl≤tt))=A.filter (fun x=>decide (x.dl≤tt))∧A.dropWhile (fun x=>decide (x.dl≤tt))=A.filter (fun x => !decide (x.dl≤tt))
 | [],_=>by simp
 | a::A,h=>by
  obtain⟨h1,h2⟩:=kh.1 h;by_cases c:a.dl≤tt
  ·obtain⟨i1,i2⟩:=zbH (A:=A) h2;simp[c,i1,i2]
  ·have hz : ∀ y∈A,¬ y.dl≤tt:=fun y hy=>by
    have:=h1 y hy;unfold bef at this;omega
   have e1:A.filter (fun x=>decide (x.dl≤tt))=[]:=by
    rw[Yv];intro y hy;simpa using hz y hy
   have e2:A.filter (fun x => !decide (x.dl≤tt))=A:=by
    rw[jo];intro y hy;simpa using hz y hy
   simp only[List.takeWhile_cons,List.dropWhile_cons,List.filter_cons];simp[c,e1,e2]
theorem zjD{A:List Td}(hs:A.Pairwise bef)(hp:(Mj++dj).Perm A)(h1 : ∀ x∈dj,x.dl≤tt)(h2 : ∀ x∈Mj,tt<x.dl) :
  dj.Perm (A.takeWhile (fun x=>decide (x.dl≤tt)))∧Mj.Perm (A.dropWhile (fun x=>decide (x.dl≤tt))):=by
 obtain⟨e1,e2⟩:=zbH (tt:=tt) hs;rw[e1,e2];have f1:=(hp.filter (fun x=>decide (x.dl≤tt)));have f2:=(hp.filter (fun x => !decide (x.dl≤tt)));rw[YN]at f1 f2;have a1:Mj.filter (fun x=>decide (x.dl≤tt))=[]:=by
  rw[Yv];intro y hy;have:=h2 y hy;simp;omega
 have a2:dj.filter (fun x=>decide (x.dl≤tt))=dj:=by
  rw[jo];intro y hy;simpa using h1 y hy
 have a3:Mj.filter (fun x => !decide (x.dl≤tt))=Mj:=by
  rw[jo];intro y hy;have:=h2 y hy;simp;omega
 have a4:dj.filter (fun x => !decide (x.dl≤tt))=[]:=by
  rw[Yv];intro y hy;simpa using h1 y hy
 rw[a1,a2]at f1;rw[a3,a4,jt]at f2;exact⟨by simpa using f1,f2⟩
end
def xO(L:List Td)(x:Td):List Td:=L.takeWhile (fun y=>jk y x)++x::L.dropWhile (fun y=>jk y x)
def Zd(L:List Td)(s:Nat):Nat:=L.findIdx (fun y=>y.slot==s)
def qQ(L:List Td)(s:Nat):List Td:=L.eraseIdx (Zd L s)
def YC(L:List Td)(b:Nat):Bool:=L.any (fun y=>y.birth==b)
def xH(L:List Td)(s:Nat):Bool:=L.any (fun y=>y.slot==s)
section
variable{now tt:Nat}{M M':List Td}{P Q:Nat→Prop}{Lss Lss':List (List (List Nat))}{L:List Td}{s:Nat}{x:Td}
theorem qq:(xO L x).Perm (x::L):=by
 unfold xO;have h:L.takeWhile (fun y=>jk y x)++L.dropWhile (fun y=>jk y x)=L:=List.takeWhile_append_dropWhile;refine List.perm_middle.trans ?_;rw[h]
theorem Yc{y:Td}:y∈xO L x↔y=x∨y∈L:=by rw[qq.mem_iff,yx]
theorem ziL{a b c:Td}(h1:bef a b)(h2:bef b c):bef a c:=by unfold bef at *;omega
theorem zfs{a b:Td}(h:a.birth≠b.birth):bef a b∨bef b a:=by unfold bef;omega
theorem XQ(h:L.Pairwise bef)(hb : ∀ y∈L,y.birth≠x.birth):(xO L x).Pairwise bef:=by
 induction L with
 | nil=>simp[xO]
 | cons a L ih =>
  obtain⟨h1,h2⟩:=kh.1 h;have ih:=ih h2 (fun y hy=>hb y (yE _ hy));by_cases c:jk a x=true
  ·have e:xO (a::L) x=a::xO L x:=by unfold xO;simp[c]
   rw[e,kh];refine⟨fun y hy => ?_,ih⟩;rcases Yc.1 hy with rfl | hy
   ·exact Yb.1 c
   ·exact h1 y hy
  ·have e:xO (a::L) x=x::a::L:=by unfold xO;simp[c]
   have hxa:bef x a:=by
    rcases zfs (hb a yD)with k | k
    ·exact absurd (Yb.2 k) c
    ·exact k
   rw[e,kh];refine⟨fun y hy => ?_,h⟩;rcases yx.1 hy with rfl | hy
   ·exact hxa
   ·exact ziL hxa (h1 y hy)
theorem uL:xH L s=true ↔ ∃ y∈L,y.slot=s:=by unfold xH;simp
theorem Ja:YC L s=true ↔ ∃ y∈L,y.birth=s:=by unfold YC;simp
theorem VV:Zd L s<L.length↔xH L s=true:=by
 unfold Zd;rw[List.findIdx_lt_length,uL];simp
theorem zcj : ∀ {L:List Td} {i:Nat} {x:Td},L[i]? = some x→L.Perm (x::L.eraseIdx i)
 | [],_,_,h=>by cases h
 | a::L,0,x,h=>by injection h with h;subst h;exact List.Perm.refl _
 | a::L,i+1,x,h=>((zcj (L:=L) (i:=i) h).cons a).trans (List.Perm.swap x a _)
theorem UC(h:Zd L s<L.length) : ∃ x,L[Zd L s]? = some x∧x.slot=s∧L.find? (fun y=>y.slot==s)=some x∧L.Perm (x::qQ L s):=by
 have h1:(L[Zd L s].slot==s)=true:=List.findIdx_getElem (p:=fun y:Td=>y.slot==s) (xs:=L) (w:=h);refine⟨_,zO h,beq_iff_eq.1 h1,?_,zcj (zO h)⟩;rw[List.find?_eq_some_iff_getElem];refine⟨h1,Zd L s,h,rfl,fun j hj => ?_⟩;have:=List.not_of_lt_findIdx (p:=fun y:Td=>y.slot==s) hj;simpa using this
theorem Ul(h:xH L s=false):L.find? (fun y=>y.slot==s)=none:=by
 rw[qj];intro y hy c;have:xH L s=true:=uL.2 ⟨y,hy,by simpa using c⟩;rw[h]at this
 cases this
theorem ZW(h:L.Pairwise bef):(qQ L s).Pairwise bef:=h.sublist (List.eraseIdx_sublist _ _)
theorem ye.born(h:ye now L P Lss){x y:Td}(hx:x∈L)(hy:y∈L)(e:x.slot=y.slot):x=y:=h.slots x hx y hy e
theorem ye.sched(h:ye now L (fun _=>False) Lss)(hn:now<x.dl)(hr:x.slot<4194304∧x.dl<18446744073709551615∧0<x.birth∧x.birth≤18446744073709551615)(h1 : ∀ y∈L,y.slot≠x.slot)(h2 : ∀ y∈L,y.birth≠x.birth){Ls:List (List Nat)}{B:List Nat}
  (hL:Lss[lvl now x.dl]? = some Ls) (hK:Ls[bkt now x.dl]? = some B):ye now (xO L x) (fun _=>False) (Lss.set (lvl now x.dl) (Ls.set (bkt now x.dl) (B++[x.slot]))) :=
 (h.put (M':=x::L) (Q:=fun _=>False) (.inl ⟨h1,h2,rfl⟩) hn hr (fun y hy e=>absurd e (h1 y hy)) hL hK (fun s=>⟨fun c=>c.elim,fun c=>c.1.elim⟩)).perm qq.symm
end
end
section
open Go.RowKit
def kU(now:Nat)(x:Td):Int:=if x.slot<4194304 then(if x.birth=0 then 2 else atE now x.slot x.dl)else 2
section
variable{w w':World}{D:Nat→Prop}{p now:Nat}{ws:List Nat}{bm bb:Nat}{Ds:Nat→Nat→Prop}{Dm Db:DataW Unit}{M:List Td}{Lss:List (List (List Nat))}
theorem Azzy5 {P:Prop}(h:P:=by
 go_wp2_with (go_at_call 161;refine HCk2.out.mono ?_;rintro e w' ⟨rfl,rfl⟩)
 have hpp:=HAL.out;exact zR (v := .int .i64 2) (by simp[results,results198,go_sem]) rfl ⟨rfl,by first | exact hpp | exact hpp.drew⟩):P:=h
theorem zhW(h:yr w D p now ws bm bb Ds Dm Db M Lss){x:Td}(h32:x.slot≤4294967295)(hd:x.dl≤18446744073709551615)(hb:x.birth≤18446744073709551615)(he:kU now x≠0) :
    Calls prog 198 #[lkP p,tdV x] w fun e w'=>e=.returned (.int .i64 (kU now x))∧zb w w':=by
  have hal:zb w (w.alloc (.cells #[.int .u32 x.slot,.int .u64 x.dl,.int .u64 x.birth] 198)):=(Mod.refl _ w).alloc _;have h3:=zk (w:=w) (o := .cells #[.int .u32 x.slot,.int .u64 x.dl,.int .u64 x.birth] 198 (0,0)) rfl;have hck:=U4 (h.pure hal).box (s:=x.slot) h32;unfold Zh at hck;have hat:=U3 (h.pure hal).box (s:=x.slot) (dl:=x.dl) h32 hd;have HCk:=za hck;have HAt:=za hat;have HAL:=za hal;obtain⟨E,hE⟩:=zf (kU now x);rw[hE]at he ⊢;clear h hal hck hat;unfold tdV;go_enter func198,ntmps198;go_upto_region 1 with fail
  generalize w.alloc (.cells #[.int .u32 x.slot,.int .u64 x.dl,.int .u64 x.birth] 198)=W1 at *;obtain⟨b3,hb3⟩:=zf w.heap.size;rw[hb3]at h3 ⊢;clear hb3;obtain⟨h3_0,h3_1,h3_2,h3_f,h3_l,H_h3⟩:=cr3 h3;clear h3;unfold kU at hE;by_cases hs:x.slot<4194304
  · rw[zj hs]at hE
    have hck:=HCk.out;rw[zj hs]at hck;have HCk2:=za hck;clear HCk hck;by_cases hb0:x.birth=0
    · rw[zj hb0]at hE
      subst hE;have e0:((x.birth:Int)==0)=true:=by simp;omega
      exact Azzy5
    · rw[zh hb0]at hE
      have e0:((x.birth:Int)==0)=false:=by simp;omega
      rw[hE]at HAt;have e1:(E==0)=false:=by simpa using he
      clear hE
      go_wp2_with (first
        | (go_at_call 161;refine HCk2.out.mono ?_;rintro e w' ⟨rfl,rfl⟩)
        | (go_at_call 248;refine HAt.out.mono ?_;rintro e w' ⟨rfl,rfl⟩))
      have hpp:=HAL.out;exact zR (v := .int .i64 E) (by simp[results,results198,go_sem]) rfl ⟨rfl,by first | exact hpp | exact hpp.drew⟩
  · rw[zh hs]at hE
    subst hE;have hck:=HCk.out;rw[zh hs]at hck;have HCk2:=za hck;clear HCk hck;exact Azzy5
end
section
variable{w w':World}{D:Nat→Prop}{p now:Nat}{ws:List Nat}{bm bb:Nat}{Ds:Nat→Nat→Prop}{Dm Db:DataW Unit}{M:List Td}{Lss:List (List (List Nat))}
theorem zgv(h:yr w D p now ws bm bb Ds Dm Db M Lss){x:Td}(hs:x.slot<4194304)(hd:x.dl<18446744073709551615)(hb:x.birth≤18446744073709551615)(hb0:x.birth≠0)(hn:now<x.dl)(h1:(∃ y∈M,y.slot=x.slot) ∨ ∃ y∈M,y.birth=x.birth) :
    Calls prog 198 #[lkP p,tdV x] w fun e w'=>e=.returned (.int .i64 11)∧zb w w':=by
  have hal:zb w (w.alloc (.cells #[.int .u32 x.slot,.int .u64 x.dl,.int .u64 x.birth] 198)):=(Mod.refl _ w).alloc _;have h3:=zk (w:=w) (o := .cells #[.int .u32 x.slot,.int .u64 x.dl,.int .u64 x.birth] 198 (0,0)) rfl;have HC:=za (h.pure hal);have HCk:=za (Ys (h.pure hal).box hs);have hat:=U3 (h.pure hal).box (s:=x.slot) (dl:=x.dl) (by omega) (by omega);unfold atE at hat;rw[zj hs,zh (by omega),zh (by omega)]at hat;have HAt:=za hat;obtain⟨z,b1,b2,hlk,hlb,hbz⟩ : ∃(z:Td) (b1 b2:Bool),(∀ W,zb (w.alloc (.cells #[.int .u32 x.slot,.int .u64 x.dl,.int .u64 x.birth] 198)) W→(Instr.lookup 186 (.map (some bm)) (.int .u32 x.slot) true).run prog W=.ok (.tuple #[tdV z,.bool b1]) W)∧(∀ W,zb (w.alloc (.cells #[.int .u32 x.slot,.int .u64 x.dl,.int .u64 x.birth] 198)) W→(Instr.lookup 263 (.map (some bb)) (.int .u64 x.birth) true).run prog W=.ok (.tuple #[.agg #[],.bool b2]) W)∧(b1=true∨b1=false∧b2=true):=by
    have hlb:=fun(W:World) (hW:zb (w.alloc (.cells #[.int .u32 x.slot,.int .u64 x.dl,.int .u64 x.birth] 198)) W)=>((h.pure hal).pure hW).births.look (s:=x.birth) hb
    by_cases hy : ∃ y∈M,y.slot=x.slot
    · obtain⟨y,hy,e⟩:=hy
      refine⟨y,true,_,fun W hW => ?_,hlb,.inl rfl⟩;have:=((h.pure hal).pure hW).what.look hy (by omega);rw[e]at this;exact this
    · refine⟨⟨0,0,0⟩,false,_,fun W hW=>((h.pure hal).pure hW).what.look_no (s:=x.slot) (by omega) (fun y hm e=>hy ⟨y,hm,e⟩),hlb,.inr ⟨rfl,?_⟩⟩
      rcases h1 with h1 | ⟨y,hm,e⟩
      · exact absurd h1 hy
      · exact(h.births.has _).2 ⟨y,hm,e⟩
  have HLK:=za hlk;have HLB:=za hlb;have HAL:=za hal;have e0:((x.birth:Int)==0)=false:=by simp;omega
  clear h hal hat hlk hlb h1 hb0;unfold tdV at HLK ⊢;go_enter func198,ntmps198;go_upto_region 1 with fail
  generalize w.alloc (.cells #[.int .u32 x.slot,.int .u64 x.dl,.int .u64 x.birth] 198)=W1 at *;obtain⟨b3,hb3⟩:=zf w.heap.size;rw[hb3]at h3 ⊢;have H3:=za h3;clear hb3;obtain⟨h3_0,h3_1,h3_2,h3_f,h3_l,H_h3⟩:=cr3 h3;clear h3;obtain⟨c0,c9,c10,_,_⟩:=HC.out.box.cells;go_upto_region 9 with(first
    | (go_at_call 161;refine HCk.out.mono ?_;rintro e w' ⟨rfl,rfl⟩)
    | (go_at_call 248;refine HAt.out.mono ?_;rintro e w' ⟨rfl,rfl⟩))
  have hk1:=HLK.out W1 (Mod.refl _ _);have hk2:=HLK.out W1.drew (Mod.refl _ _).drew;have hk3:=HLK.out (W1.alloc (.cells #[.int .u32 0,.int .u64 0,.int .u64 0] 198)) ((Mod.refl _ _).alloc _);have hk4:=HLK.out (W1.alloc (.cells #[.int .u32 0,.int .u64 0,.int .u64 0] 198)).drew ((Mod.refl _ _).alloc _).drew
  go_cut [8] (fun v wx=>v=.bool b1∧zb W1 wx)
  case first =>
    exact Azhsu
  case rest =>
    obtain⟨rfl,hpx⟩:=hcut;have h3x:=hpx.heap (fun h=>h) H3.out;have HCx:=za (HC.out.pure hpx);have HPX:=za hpx;have H3x:=za h3x;clear h3_0 h3_1 h3_2 h3_f h3_l;clear H_h3 c0 c9 c10 hk1 hk2 hk3 hk4;obtain⟨h3x_0,h3x_1,h3x_2,h3x_f,h3x_l,H_h3x⟩:=cr3 h3x;clear h3x;obtain⟨c0,c9,c10,_,_⟩:=HCx.out.box.cells;have hk1:=HLB.out wc hpx;have hk2:=HLB.out wc.drew hpx.drew;have hk3:=HLB.out (wc.alloc (.cells #[] 329)) (hpx.alloc _);have hk4:=HLB.out (wc.alloc (.cells #[] 329)).drew (hpx.alloc _).drew;go_upto_region 10 with fail
    go_cut [10] (fun v wx=>v=.bool b2∧zb W1 wx)
    case first =>
      exact Azpue
    case rest =>
      obtain⟨rfl,hpy⟩:=hcut;have h3y:=hpy.heap (fun h=>h) H3.out;have HCy:=za (HC.out.pure hpy);have HPY:=za hpy;have H3y:=za h3y;clear h3x_0 h3x_1 h3x_2 h3x_f h3x_l;clear H_h3x c0 c9 c10 hk1 hk2 hk3 hk4 HCx;obtain⟨h3y_0,h3y_1,h3y_2,h3y_f,h3y_l,H_h3y⟩:=cr3 h3y;clear h3y;obtain⟨c0,c9,c10,_,_⟩:=HCy.out.box.cells;have hpp:=HAL.out.trans HPY.out;rcases hbz with rfl | ⟨rfl,rfl⟩
      all_goals
        go_wp2;exact zR (v := .int .i64 11) (by simp[results,results198,go_sem]) rfl ⟨rfl,by first | exact hpp | exact hpp.drew⟩
end




section
variable{w w':World}{D:Nat→Prop}{p now:Nat}{ws:List Nat}{bm bb:Nat}{Ds:Nat→Nat→Prop}{Dm Db:DataW Unit}{M M' L:List Td}{Lss:List (List (List Nat))}
theorem yJ.perm{b:Nat}{A:DataW Unit}(h:yJ w b M A)(hp:M.Perm M'):yJ w b M' A :=
 ⟨by rw[← hp.length_eq];exact h.own,fun x hx=>h.at_ x (hp.mem_iff.2 hx),fun s hs=>by obtain⟨x,hx,e⟩:=h.has s hs;exact⟨x,hp.mem_iff.1 hx,e⟩,by rw[← hp.length_eq];exact h.size⟩
theorem xG.perm{b:Nat}{A:DataW Unit}(h:xG w b M A)(hp:M.Perm M'):xG w b M' A :=
 ⟨by rw[← hp.length_eq];exact h.own,fun s=>by rw[h.has];exact⟨fun⟨x,hx,e⟩=>⟨x,hp.mem_iff.1 hx,e⟩,fun⟨x,hx,e⟩=>⟨x,hp.mem_iff.2 hx,e⟩⟩,by rw[← hp.length_eq];exact h.size⟩
theorem yr.perm(h:yr w D p now ws bm bb Ds Dm Db M Lss)(hp:M.Perm M'):yr w D p now ws bm bb Ds Dm Db M' Lss :=
 ⟨h.box,h.what.perm hp,h.births.perm hp,h.len,h.lev,h.apart,h.own,h.ne,h.dd⟩
def yo(w:World)(D:Nat→Prop)(p now:Nat)(L:List Td):Prop :=
 ∃ ws bm bb Ds Dm Db Lss,yr w D p now ws bm bb Ds Dm Db L Lss∧ye now L (fun _=>False) Lss∧L.Pairwise bef
theorem yo.frame{S:Nat→Prop}(h:yo w D p now L)(hm:Mod S w w')(hd : ∀ k,D k → ¬ S k):yo w' D p now L:=by
 obtain⟨ws,bm,bb,Ds,Dm,Db,Lss,h1,h2⟩:=h;exact⟨ws,bm,bb,Ds,Dm,Db,Lss,h1.frame hm hd,h2⟩
theorem yo.pure(h:yo w D p now L)(hm:zb w w'):yo w' D p now L:=h.frame hm (fun _ _ h=>h)
theorem yo.lt(h:yo w D p now L){k:Nat}(hk:D k):k<w.heap.size:=by
 obtain⟨ws,bm,bb,Ds,Dm,Db,Lss,h1,h2⟩:=h;exact h1.lt hk
theorem yo.self(h:yo w D p now L):D p:=by
 obtain⟨ws,bm,bb,Ds,Dm,Db,Lss,h1,h2⟩:=h;exact(h1.dd p).2 (.inl rfl)
theorem yo.now64(h:yo w D p now L):now<18446744073709551616:=by
 obtain⟨ws,bm,bb,Ds,Dm,Db,Lss,h1,h2⟩:=h;exact h1.box.now
theorem yo.rng(h:yo w D p now L) : ∀ x∈L,x.slot<4194304∧now<x.dl∧x.dl<18446744073709551615∧0<x.birth∧x.birth≤18446744073709551615:=by
 obtain⟨ws,bm,bb,Ds,Dm,Db,Lss,h1,h2,h3⟩:=h;intro x hx;obtain⟨a,b,c⟩:=h2.rng x hx;exact⟨a,h2.after x hx (fun c=>c),b,c⟩
theorem yo.uniq(h:yo w D p now L):(∀ x∈L,∀ y∈L,x.slot=y.slot→x=y)∧(∀ x∈L,∀ y∈L,x.birth=y.birth→x=y)∧L.Pairwise bef:=by
 obtain⟨ws,bm,bb,Ds,Dm,Db,Lss,h1,h2,h3⟩:=h;exact⟨h2.slots,h2.births,h3⟩
def jC(now:Nat)(L:List Td)(x:Td):Int:=if kU now x=0 then(if xH L x.slot||YC L x.birth then 11 else 0)else kU now x
def Yf(now:Nat)(L:List Td)(x:Td):List Td:=if jC now L x=0 then xO L x else L
theorem zk9{s dl:Nat}(h:atE now s dl=0)(hd:dl≤18446744073709551615):s<4194304∧now<dl∧dl<18446744073709551615:=by
 unfold atE at h;split at h
 ·split at h
  ·cases h
  ·split at h
   ·cases h
   ·refine⟨by assumption,by omega,by omega⟩
 ·cases h
theorem zi9{x:Td}(h:kU now x=0)(hd:x.dl≤18446744073709551615):x.slot<4194304∧x.birth≠0∧now<x.dl∧x.dl<18446744073709551615:=by
 unfold kU at h;split at h
 ·split at h
  ·cases h
  ·obtain⟨_,a,b⟩:=zk9 h hd;exact⟨by assumption,by assumption,a,b⟩
 ·cases h
theorem Azsug {P:Prop}(h:P:=by
 rintro e w' ⟨rfl,hp⟩;exact⟨rfl,⟨D,h'.pure hp,zZ.refl _ _⟩,Mod.of_pure hp⟩):P:=h
theorem yo.sched(h:yo w D p now L){x:Td}(h32:x.slot≤4294967295)(hd:x.dl≤18446744073709551615)(hb:x.birth≤18446744073709551615)(hl:L.length<maxLen) :
  Calls prog 198 #[lkP p,tdV x] w fun e w'=>e=.returned (.int .i64 (jC now L x))∧(∃ D',yo w' D' p now (Yf now L x)∧zZ D D' w)∧Mod D w w':=by
 have h':=h;obtain⟨ws,bm,bb,Ds,Dm,Db,Lss,h1,h2,h3⟩:=h;unfold Yf;by_cases e0:kU now x=0
 ·obtain⟨a1,a2,a3,a4⟩:=zi9 e0 hd;by_cases c:(xH L x.slot||YC L x.birth)=true
  ·have er:jC now L x=11:=by unfold jC;rw[zj e0,zj c]
   rw[er,zh (by decide)];rw[Bool.or_eq_true,uL,Ja]at c;refine(zgv h1 a1 a4 hb a2 a3 c).mono ?_;exact Azsug
  ·have er:jC now L x=0:=by unfold jC;rw[zj e0,zh c]
   rw[er,zj rfl];rw[Bool.or_eq_true,uL,Ja,not_or]at c;have c1 : ∀ y∈L,y.slot≠x.slot:=fun y hy e=>c.1 ⟨y,hy,e⟩
   have c2 : ∀ y∈L,y.birth≠x.birth:=fun y hy e=>c.2 ⟨y,hy,e⟩
   obtain⟨Ls,B,hL,hK⟩:=h2.get (uV h1.box.now (dl:=x.dl) (by omega)).1 (YA (now:=now) (dl:=x.dl));refine(zjw h1 a1 a4 hb a2 a3 hl hL hK (h2.notL (fun y hy e=>absurd e (c1 y hy)) hL) c1 c2).mono ?_;rintro e w' ⟨rfl,⟨D',Ds',Dm',Db',hC,hg⟩,hm⟩;exact⟨rfl,⟨D',⟨_,_,_,_,_,_,_,hC.perm qq.symm,h2.sched a3 ⟨a1,a4,by omega,hb⟩ c1 c2 hL hK,XQ h3 c2⟩,hg⟩,hm⟩
 ·have er:jC now L x=kU now x:=by unfold jC;rw[zh e0]
  rw[er,zh e0];refine(zhW h1 h32 hd hb e0).mono ?_;exact Azsug
theorem yo.get(h:yo w D p now L){s:Nat}(h32:s≤4294967295) :
  Calls prog 230 #[lkP p,.int .u32 s] w fun e w'=>e=.returned (.tuple #[tdV (getTd L s).1,.int .i64 (getTd L s).2])∧zb w w':=by
 obtain⟨ws,bm,bb,Ds,Dm,Db,Lss,h1,h2,h3⟩:=h;exact KD h1 h32
theorem V9(L:List Td)(s:Nat):(s<4194304∧xH L s=true ∧ ∃ x,getTd L s=(x,0)∧x.slot=s∧L[Zd L s]? = some x∧L.find? (fun y=>y.slot==s)=some x∧L.Perm (x::qQ L s))∨((¬ s<4194304∨xH L s=false) ∧ ∃ er,getTd L s=(zTd,er)∧er≠0):=by
 by_cases hs:s<4194304
 ·cases hh:xH L s with
  | true =>
   obtain⟨x,h1,h2,h3,h4⟩:=UC (VV.2 hh);exact .inl ⟨hs,rfl,x,UR hs h3,h2,h1,h3,h4⟩
  | false=>exact .inr ⟨.inr rfl,9,Xy hs (Ul hh),by decide⟩
 ·exact .inr ⟨.inl hs,2,Qc hs,by decide⟩
def vq(L:List Td)(s:Nat):List Td:=if (getTd L s).2=0 then qQ L s else L
theorem yo.cancel(h:yo w D p now L){s:Nat}(h32:s≤4294967295) :
  Calls prog 182 #[lkP p,.int .u32 s] w fun e w'=>e=.returned (.tuple #[tdV (getTd L s).1,.int .i64 (getTd L s).2])∧(∃ D',yo w' D' p now (vq L s)∧zZ D D' w)∧Mod D w w':=by
 have h':=h;obtain⟨ws,bm,bb,Ds,Dm,Db,Lss,h1,h2,h3⟩:=h;unfold vq;rcases V9 L s with⟨hs,_,x,e1,rfl,_,e3,e4⟩ | ⟨_,er,e1,e2⟩
 ·rw[e1];obtain⟨hx,w1,w2,w3,w4⟩:=h2.without e4;obtain⟨a1,a2,a3,a4⟩:=h2.rng x hx;have a5:=h2.after x hx (fun c=>c);obtain⟨Ls,B,hL,hK⟩:=h2.get (uV h1.box.now (dl:=x.dl) (by omega)).1 (YA (now:=now) (dl:=x.dl));have hf:x.slot∈B:=by
   obtain⟨A,C,b1,b2,b3⟩:=(h2.at_ (lvl now x.dl) (bkt now x.dl) x.slot).2 ⟨(fun c=>c),x,hx,rfl,rfl,rfl⟩;rw[hL]at b1;cases b1;rw[hK]at b2;cases b2;exact b3
  refine(zlv h1 e3 a1 (by omega) a4 (by omega) hL hK hf w1 w2 w4).mono ?_;rintro e w' ⟨rfl,⟨D',Ds',Dm',Db',hC,hg⟩,hm⟩;exact⟨rfl,⟨D',⟨_,_,_,_,_,_,_,hC,h2.cut hx w1 w3 hL hK,ZW h3⟩,hg⟩,hm⟩
 ·rw[e1];dsimp only;rw[zh e2];refine(zd4 h1 h32 e1 e2).mono ?_;exact Azsug
theorem yo.now_(h:yo w D p now L):Calls prog 105 #[lkP p] w fun e w'=>e=.returned (.int .u64 now)∧w=w':=by
 obtain⟨ws,bm,bb,Ds,Dm,Db,Lss,h1,h2,h3⟩:=h;exact zg2 h1
end
end
section
open Go.RowKit Go.Shelf
def yn(M:List Td):List Td:=M.filter (fun x=>decide (x.dl≠18446744073709551615))
structure yK(now:Nat)(M:List Td):Prop where
 ord:M.Pairwise bef
 slots : ∀ x∈M,∀ y∈M,x.slot=y.slot→x=y
 births : ∀ x∈M,∀ y∈M,x.birth=y.birth→x=y
 rng : ∀ x∈M,x.slot<4194304∧(now<x.dl∨x.dl=18446744073709551615)∧x.dl≤18446744073709551615∧0<x.birth∧x.birth≤18446744073709551615
structure yW(w:World)(D:Nat→Prop)(p now q bb bs:Nat)(Dc:Nat→Prop)(Db Ds:DataW Unit)(M L:List Td):Prop where
 box:w.heap[p]? = some (.cells #[lkP q,.map (some bb),.map (some bs)] 188 (0,0))
 cas:yo w Dc q now L
 births:xP w bb M Db
 slots:yJ w bs M Ds
 np : ¬ Dc p
 nbb : ¬ Dc bb
 nbs : ¬ Dc bs
 ne:p≠bb∧p≠bs∧bb≠bs
 dd : ∀ k,D k↔k=p∨k=bb∨k=bs∨Dc k
section
variable{w w':World}{D:Nat→Prop}{p now q bb bs:Nat}{Dc:Nat→Prop}{Db Ds:DataW Unit}{M L:List Td}
theorem yW.frame{S:Nat→Prop}(h:yW w D p now q bb bs Dc Db Ds M L)(hm:Mod S w w')(hd : ∀ k,D k → ¬ S k):yW w' D p now q bb bs Dc Db Ds M L :=
 ⟨hm.heap (hd p ((h.dd p).2 (.inl rfl))) h.box,h.cas.frame hm (fun k hk=>hd k ((h.dd k).2 (.inr (.inr (.inr hk))))),h.births.mod hm (hd bb ((h.dd bb).2 (.inr (.inl rfl)))),h.slots.mod hm (hd bs ((h.dd bs).2 (.inr (.inr (.inl rfl))))),h.np,h.nbb,h.nbs,h.ne,h.dd⟩
theorem yW.pure(h:yW w D p now q bb bs Dc Db Ds M L)(hp:zb w w'):yW w' D p now q bb bs Dc Db Ds M L:=h.frame hp (fun _ _ h=>h)
theorem yW.cells(h:yW w D p now q bb bs Dc Db Ds M L):w.cell? ⟨p,0,none⟩=some (lkP q)∧w.cell? ⟨p,1,none⟩=some (.map (some bb))∧w.cell? ⟨p,2,none⟩=some (.map (some bs)) :=
 ⟨by rw[zi _ _ 0 _ _ _ h.box];rfl,by rw[zi _ _ 1 _ _ _ h.box];rfl,by rw[zi _ _ 2 _ _ _ h.box];rfl⟩
theorem yW.lt(h:yW w D p now q bb bs Dc Db Ds M L){k:Nat}(hk:D k):k<w.heap.size:=by
 rcases(h.dd k).1 hk with rfl | rfl | rfl | e
 ·exact zm h.box
 ·exact h.births.own.lt
 ·exact h.slots.own.lt
 ·exact h.cas.lt e
theorem Azdii {P:Prop}(h:P:=by
 clear h h32 hs c1 c2;unfold lkP;go_enter func104,ntmps104;go_wp2;go_ret;exact⟨rfl,rfl⟩):P:=h
theorem Vh(h:yW w D p now q bb bs Dc Db Ds M L){s:Nat}(h32:s≤4294967295):Calls prog 104 #[lkP p,.int .u32 s] w fun e w'=>e=.returned (.int .i64 (if s<4194304 then 0 else 2))∧w=w':=by
 obtain⟨c0,c1,c2⟩:=h.cells;unfold lkP at c0;by_cases hs:s<4194304
 ·rw[zj hs];have hs' : ¬ (4194304:Int)≤(s:Int):=by omega
  exact Azdii
 ·rw[zh hs];have hs':(4194304:Int)≤(s:Int):=by omega
  exact Azdii
theorem zaB(h:yW w D p now q bb bs Dc Db Ds M L):Calls prog 104 #[lkP p,.int .u32 0] w fun e w'=>e=.returned (.int .i64 0)∧w=w':=Vh h (s:=0) (by omega)
theorem JC(h:yW w D p now q bb bs Dc Db Ds M L):Calls prog 61 #[lkP p] w fun e w'=>e=.returned (.int .u64 now)∧w=w':=by
  obtain⟨c0,c1,c2⟩:=h.cells;have HC:=za (zaB h);have HN:=za h.cas.now_;clear h c1 c2;unfold lkP at c0;have c0':w.cell? ⟨p,0,none⟩=some (lkP q):=c0;clear c0;go_enter func61,ntmps61
  go_wp2_with (first
    | (go_at_call 104;refine HC.out.mono ?_;rintro e w' ⟨rfl,rfl⟩)
    | (go_at_call 105;refine HN.out.mono ?_;rintro e w' ⟨rfl,rfl⟩))
  go_ret;exact⟨rfl,rfl⟩
end
end
section
open Go.RowKit Go.Sort
def jw(a b:Nat):Int:=if a<b then -1 else if b<a then 1 else 0
theorem Ur(a b:Nat):(a<b∧jw a b = -1)∨(b<a∧jw a b=1)∨(a=b∧jw a b=0):=by
 unfold jw;rcases qO a b with h | h | h
 ·exact .inl ⟨h,by rw[zj h]⟩
 ·exact .inr (.inr ⟨h,by rw[zh (by omega),zh (by omega)]⟩)
 ·exact .inr (.inl ⟨h,by rw[zh (by omega),zj h]⟩)
theorem KC(a:Nat)(w:World):Calls prog 257 #[.int .u64 a] w fun e w'=>e=.returned (.bool false)∧w=w':=by
 go_enter func257,ntmps257;go_wp2;go_ret;exact⟨by simp,rfl⟩
theorem Ku(a:Nat)(w:World):Calls prog 258 #[.int .u64 a] w fun e w'=>e=.returned (.bool false)∧w=w':=by
 go_enter func258,ntmps258;go_wp2;go_ret;exact⟨by simp,rfl⟩
theorem Az7az {P:Prop}(h:P:=by
 go_enter func212,ntmps212
 go_wp2_with (go_at_call 257;refine zq (KC _ _) ?_;rintro e w' ⟨rfl,rfl⟩)
 go_ret;exact⟨rfl,rfl⟩):P:=h
theorem zlG(a b:Nat)(w:World):Calls prog 212 #[.int .u64 a,.int .u64 b] w fun e w'=>e=.returned (.int .i64 (jw a b))∧w=w':=by
 rcases Ur a b with⟨h,e⟩ | ⟨h,e⟩ | ⟨h,e⟩
 ·rw[e];have h1:(a:Int)<(b:Int):=by omega
  clear e;exact Az7az
 ·rw[e];have h1 : ¬ (a:Int)<(b:Int):=by omega
  have h2:(b:Int)<(a:Int):=by omega
  clear e;exact Az7az
 ·subst h;rw[e];clear e;exact Az7az
theorem Az18l {P:Prop}(h:P:=by
 go_enter func213,ntmps213
 go_wp2_with (go_at_call 258;refine zq (Ku _ _) ?_;rintro e w' ⟨rfl,rfl⟩)
 go_ret;exact⟨rfl,rfl⟩):P:=h
theorem zjS(a b:Nat)(w:World):Calls prog 213 #[.int .u64 a,.int .u64 b] w fun e w'=>e=.returned (.int .i64 (jw a b))∧w=w':=by
 rcases Ur a b with⟨h,e⟩ | ⟨h,e⟩ | ⟨h,e⟩
 ·rw[e];have h1:(a:Int)<(b:Int):=by omega
  clear e;exact Az18l
 ·rw[e];have h1 : ¬ (a:Int)<(b:Int):=by omega
  have h2:(b:Int)<(a:Int):=by omega
  clear e;exact Az18l
 ·subst h;rw[e];clear e;exact Az18l
theorem zev(dl tt:Nat)(hd:dl<18446744073709551615)(w:World):Calls prog 47 #[.int .u64 dl,.int .u64 tt] w fun e w'=>e=.returned (.bool (decide (dl≤tt)))∧w=w':=by
 have h1:((dl:Int)==18446744073709551615)=false:=by simp;omega
 have h2:((dl:Int) != 18446744073709551615)=true:=by simp;omega
 by_cases h:dl≤tt
 ·have h3:(dl:Int)≤(tt:Int):=by omega
  rw[zQ h];go_enter func47,ntmps47;go_wp2;go_ret;exact⟨by simp[h],rfl⟩
 ·have h3 : ¬ (dl:Int)≤(tt:Int):=by omega
  rw[zU h];go_enter func47,ntmps47;go_wp2;go_ret;exact⟨by simp[h],rfl⟩
theorem zet{w:World}{B:Nat}{x y:Int}(hx:w.cell? ⟨B,0,none⟩=some (.int .i64 x))(hy:w.cell? ⟨B,1,none⟩=some (.int .i64 y)) :
  Calls prog 211 #[.slice (some ⟨B,0,none⟩) 2 2] w fun e w'=>e=.returned (.int .i64 (if x=0 then y else x))∧w=w':=by
 by_cases e1:x=0
 ·rw[zj e1];subst e1;by_cases e2:y=0
  ·subst e2;go_enter func211,ntmps211;go_upto_region 3 with fail
   refine wp_loop_rounds 3 ?_;rw[rounds_succ];go_wp2;rw[rounds_succ];go_wp2;rw[rounds_succ];go_wp2;go_ret;exact⟨rfl,rfl⟩
  ·go_enter func211,ntmps211;go_upto_region 3 with fail
   refine wp_loop_rounds 3 ?_;rw[rounds_succ];go_wp2;rw[rounds_succ];have h1:(y==0)=false:=by simpa using e2
   have h2:(y != 0)=true:=by simpa using e2
   go_wp2;go_ret;exact⟨rfl,rfl⟩
 ·rw[zh e1];have h1:(x==0)=false:=by simpa using e1
  have h2:(x != 0)=true:=by simpa using e1
  go_enter func211,ntmps211;go_upto_region 3 with fail
  refine wp_loop_rounds 3 ?_;rw[rounds_succ];go_wp2;go_ret;exact⟨rfl,rfl⟩
theorem zga{w:World}{B:Nat}{x y c:Int}(hc:(if x=0 then y else x)=c)(hx:w.cell? ⟨B,0,none⟩=some (.int .i64 x))(hy:w.cell? ⟨B,1,none⟩=some (.int .i64 y)) :
  Calls prog 211 #[.slice (some ⟨B,0,none⟩) 2 2] w fun e w'=>e=.returned (.int .i64 c)∧w=w':=by rw[← hc];exact zet hx hy
def cfT(x y:Td):Int:=if jw x.dl y.dl=0 then jw x.birth y.birth else jw x.dl y.dl
def Grw(w w':World):Prop := ∃ q os,w'=Go.Sort.grow (w.drewN q) os
theorem Grw.refl(w:World):Grw w w:=⟨0,#[],by simp[World.drewN]⟩
theorem Grw.alloc{w w':World}(h:Grw w w')(o:Obj):Grw w (w'.alloc o):=by
 obtain⟨q,os,rfl⟩:=h;exact⟨q,os++#[o],by rw[Go.Sort.alloc_eq_grow,Go.Sort.grow_grow]⟩
theorem Grw.drew{w w':World}(h:Grw w w'):Grw w w'.drew:=by
 obtain⟨q,os,rfl⟩:=h;exact⟨q+1,os,rfl⟩
theorem zkE:(prog.info? 3).map (fun i=>(i.zero,i.size,i.bytes))=some (some (.int .i64 0),1,8):=by kernel_rfl
theorem zkV{W w':World}{b2 b3:Nat}{c2 c3:Array Value}{T:TypeId}(h2:W.heap[b2]? = some (.cells c2 T (0,0)))(h3:W.heap[b3]? = some (.cells c3 T (0,0)))(hm:zb W w'):w'.heap[b2]? = some (.cells c2 T (0,0))∧w'.heap[b3]? = some (.cells c3 T (0,0)):=⟨hm.heap (fun h=>h) h2,hm.heap (fun h=>h) h3⟩
theorem Grw.pure{w w':World}(h:Grw w w'):zb w w':=by
 obtain⟨q,os,rfl⟩:=h;refine⟨rfl,rfl,rfl,by simp[Go.Sort.grow,World.drewN],fun k hk _ => ?_⟩
 show(w.heap++os)[k]? = w.heap[k]?
 rw[Qb hk]
theorem zkr(x y:Td)(w:World):Calls prog 210 #[tdV x,tdV y] w fun e w'=>e=.returned (.int .i64 (cfT x y))∧Grw w w':=by
  unfold tdV;have h2:=zk (w:=w) (o := .cells #[.int .u32 x.slot,.int .u64 x.dl,.int .u64 x.birth] 198 (0,0)) rfl;have g1:=(Grw.refl w).alloc (.cells #[.int .u32 x.slot,.int .u64 x.dl,.int .u64 x.birth] 198 (0,0));have h3:=zk (w:=w.alloc (.cells #[.int .u32 x.slot,.int .u64 x.dl,.int .u64 x.birth] 198 (0,0))) (o := .cells #[.int .u32 y.slot,.int .u64 y.dl,.int .u64 y.birth] 198 (0,0)) (n:=w.heap.size+1) (by simp);have h2:=((Mod.refl (fun _=>False) _).alloc (.cells #[.int .u32 y.slot,.int .u64 y.dl,.int .u64 y.birth] 198 (0,0))).heap (fun h=>h) h2;have g1:=g1.alloc (.cells #[.int .u32 y.slot,.int .u64 y.dl,.int .u64 y.birth] 198 (0,0));obtain⟨c,hc⟩:=zf (cfT x y);have HC:=za hc;rw[hc];clear hc;obtain⟨i0,hi,iz0,iz1,iz2⟩:=xB zkE;go_enter func210,ntmps210;go_upto_region 1 with fail
  generalize(w.alloc (.cells #[.int .u32 x.slot,.int .u64 x.dl,.int .u64 x.birth] 198)).alloc (.cells #[.int .u32 y.slot,.int .u64 y.dl,.int .u64 y.birth] 198)=W at *;generalize w.heap.size=b2 at *;have G1:=za g1;have H2:=za h2;have H3:=za h3;clear g1;obtain⟨c1,hc1⟩:=zf (jw x.dl y.dl);obtain⟨c2,hc2⟩:=zf (jw x.birth y.birth);have k1:=zlG x.dl y.dl;have k2:=zjS x.birth y.birth;rw[hc1]at k1;rw[hc2]at k2;have hcc:(if c1=0 then c2 else c1)=c:=by rw[← HC.out,← hc1,← hc2];rfl
  have HCC:=za hcc;have K1:=za k1;have K2:=za k2;clear hcc k1 k2 hc1 hc2;have hK : ∀ W',zb W W'→W'.cell? ⟨b2,1,none⟩=some (.int .u64 x.dl)∧W'.cell? ⟨b2+1,1,none⟩=some (.int .u64 y.dl)∧W'.cell? ⟨b2,2,none⟩=some (.int .u64 x.birth)∧W'.cell? ⟨b2+1,2,none⟩=some (.int .u64 y.birth):=fun W' hp=>by
    obtain⟨e2,e3⟩:=zkV H2.out H3.out hp;refine⟨?_,?_,?_,?_⟩<;>first | (rw[zi _ _ _ _ _ _ e2];rfl) | (rw[zi _ _ _ _ _ _ e3];rfl)
  have HK:=za hK;have hK0:=hK W (Mod.refl _ _);obtain⟨z1,z2,z3,z4⟩:=hK0;clear hK h2 h3
  go_region_held3 (fun w'=>w'.cell? ⟨b2,1,none⟩=some (.int .u64 x.dl)∧w'.cell? ⟨b2+1,1,none⟩=some (.int .u64 y.dl)∧w'.cell? ⟨b2,2,none⟩=some (.int .u64 x.birth)∧w'.cell? ⟨b2+1,2,none⟩=some (.int .u64 y.birth)) (first | go_keep | exact⟨z1,z2,z3,z4⟩)
    (first
      | (go_at_call 212;refine(K1.out _).mono ?_;rintro e w' ⟨rfl,rfl⟩)
      | (go_at_call 213;refine(K2.out _).mono ?_;rintro e w' ⟨rfl,rfl⟩)
      | (go_at_call 211;refine zq (zga (x:=c1) (y:=c2) HCC.out ((zi _ _ 0 _ _ _ (zk rfl)).trans rfl) ((zi _ _ 1 _ _ _ (zk rfl)).trans rfl)) ?_;rintro e w' ⟨rfl,rfl⟩))
  go_wp2;go_ret;exact⟨rfl,by first | exact(G1.out.alloc _).drew | exact G1.out.alloc _⟩
end
section
open Go.RowKit Go.Sort Go.Shelf
instance tdInh:Inhabited Td:=⟨⟨0,0,0⟩⟩
def tdC(x:Td):List Value:=[.int .u32 x.slot,.int .u64 x.dl,.int .u64 x.birth]
theorem VY(x y:Td):ltOf cfT x y=jk x y:=by
 unfold ltOf cfT jk;rcases Ur x.dl y.dl with⟨h,e⟩ | ⟨h,e⟩ | ⟨h,e⟩
 ·rw[e];simp[h]
 ·rw[e];have h1 : ¬ x.dl<y.dl:=by omega
  have h2 : ¬ x.dl=y.dl:=by omega
  simp[h1,h2]
 ·rw[e,zj rfl];rcases Ur x.birth y.birth with⟨k,f⟩ | ⟨k,f⟩ | ⟨k,f⟩
  ·rw[f];simp[h,k]
  ·rw[f];have h1 : ¬ x.birth<y.birth:=by omega
   simp[h,h1]
  ·rw[f];have h1 : ¬ x.birth<y.birth:=by omega
   simp[h,h1]
theorem zgf:SWO (ltOf cfT) where
 irrefl x:=by rw[VY];simp[jk]
 trans x y z h1 h2:=by
  rw[VY]at *;rw[Yb]at *;unfold bef at *;omega
 ntrans x y z h1 h2:=by
  rw[VY]at *;have n1 : ¬ bef x y:=fun c=>by rw[Yb.2 c]at h1;cases h1
  have n2 : ¬ bef y z:=fun c=>by rw[Yb.2 c]at h2;cases h2
  cases h3:jk x z with
  | false=>rfl
  | true =>
   rw[Yb]at h3;unfold bef at *;omega
theorem zbm(d:Array Td):(flatK tdC 3 d).toList=d.toList.flatMap tdC:=by
 have hl:(d.toList.flatMap tdC).length=d.size*3:=by rw[Yo tdC 3 (fun _=>rfl)];simp
 refine uF (fun t => ?_);by_cases ht:t<d.size*3
 ·have h1:=get_flatK tdC 3 d t ht;have hi:t/3<d.size:=by omega
  have hf:=uO tdC 3 (fun _=>rfl) (t%3) (by omega) d.toList (t/3);rw[show t/3*3+t%3=t by omega]at hf;rw[hf];have h2:(flatK tdC 3 d).toList[t]? = some ((flatK tdC 3 d)[t]!):=by
   rw[YV,Z0 (flatK tdC 3 d) t (by simpa using ht),qN]
  rw[h2,h1,YV,qN hi,Z0 d (t/3) hi]
  show some _=(tdC d[t/3])[t%3]?
  have hm:t%3<3:=by omega
  rw[Z0 (tdC d[t/3]) (t%3) (by simpa[tdC]using hm),zO]
 ·rw[xM (by simp;omega),xM (by rw[hl];omega)]
theorem zf1 : ∀ w,(isAgg 198).run prog w=.ok true w:=fun w=>by kernel_rfl
theorem zeX : ∀ w,(Go.sizeOf 198).run prog w=.ok 3 w:=fun w=>by kernel_rfl
theorem zjb(blk off size:Nat)(w:World):CmpLays prog 210 #[] tdC 3 cfT blk off size w :=
 fun _ _ _ _ x y=>zkr x y _
abbrev qx(w:World)(a:Option Addr)(c:Nat)(d:List Td):Prop:=w.ownsRow 0 198 3 (.slice a d.length c) d.length (d.flatMap tdC)
theorem ziR{w:World}{g m:Nat}{cur:Array Value}{T:TypeId}{F:Array Value}{os:Array Obj}(hg:w.heap[g]? = some (.cells cur T (0,0))) :
  (grow (putRow id (Go.Sort.ahead w m) g 0 F) os).heap[g]? = some (.cells (putCells id 0 F cur) T (0,0)):=by
 have hlt:=zm hg
 show((w.heap.modify g (onCells (putCells id 0 F)))++os)[g]? = _
 rw[Qb (by simpa using hlt),Array.getElem?_modify,zj rfl,hg]
 rfl
theorem zjA{w:World}{g m:Nat}{F:Array Value}{os:Array Obj}:Mod (fun k=>k=g) w (grow (putRow id (Go.Sort.ahead w m) g 0 F) os):=by
 refine⟨rfl,rfl,rfl,?_,fun k hk hn => ?_⟩
 ·show w.heap.size≤((w.heap.modify g (onCells (putCells id 0 F)))++os).size
  simp
 ·show((w.heap.modify g (onCells (putCells id 0 F)))++os)[k]? = _
  rw[Qb (by simpa using hk),Array.getElem?_modify,zh (fun e=>hn e.symm)]
theorem zh3{F cur:Array Value}{n:Nat}(hF:F.size=n)(hc:n≤cur.size):(putCells id 0 F cur).toList.take n=F.toList:=by
 refine uF (fun t => ?_);rw[j4];by_cases ht:t<n
 ·rw[zj ht,YV,YV];unfold putCells;rw[Array.getElem?_mapIdx,qN (show t<cur.size by omega)]
  show some (if 0≤t∧t<0+F.size then id F[t-0]! else cur[t])=_
  rw[zj ⟨yq _,by omega⟩,qN (show t<F.size by omega),Nat.sub_zero,Z0 F t (by omega)]
  rfl
 ·rw[zh ht,xM (by simp;omega)]
theorem zgG{w:World}{a:Option Addr}{c:Nat}{d:List Td}(hr:qx w a c d)(hl:d.length<4611686018427387904)(hu : ∀ x∈d,∀ y∈d,x.birth=y.birth→x=y)(hnd:d.Nodup) :
  Calls prog 209 #[.slice a d.length c,.func (.func 210) #[] #[]] w fun e w'=>e=.returned (.tuple #[]) ∧ ∃ d':List Td,d'.Pairwise bef∧d'.Perm d∧d'.length=d.length∧qx w' a c d'∧Mod (fun k=>(Value.slice a d.length c).ownBlock=some k) w w':=by
 rcases Nat.eq_zero_or_pos d.length with h0 | h0
 ·have hd:d=[]:=List.length_eq_zero_iff.1 h0;subst hd;refine(AnyF.slices_SortFunc_none QU a c (.func (.func 210) #[] #[]) w).mono ?_;rintro e w' ⟨rfl,rfl⟩;exact⟨rfl,[],List.Pairwise.nil,List.Perm.refl _,rfl,hr,Mod.refl _ _⟩
 ·obtain⟨g,c',hv,hnc,hlt,hcell,hfz,cur,hg,hcs,ht,hm⟩:=ko hr h0;injection hv with ha hn hc
  subst ha hc;have eg : ∀ args w,(callFunc 210 args).run prog w=.ok (.enter 210 args) w:=enters_of func210 (by kernel_rfl) rfl;have hH:HoldsK tdC 3 w g 0 d.toArray:=fun j hj=>by
   rw[size_flatK]at hj;rw[ZM];refine⟨hcell j _ ?_,hfz j⟩;rw[← show(flatK tdC 3 d.toArray).toList=d.flatMap tdC from zbm d.toArray,YV,Z0 (flatK tdC 3 d.toArray) j (by rw[size_flatK];exact hj),qN]
   rfl
  have hs:=AnyQ.slices_SortFunc QU 3 zf1 zeX tdC (fun _=>rfl) (fun x v hv=>by simp[tdC]at hv;rcases hv with rfl | rfl | rfl<;>rfl) cfT zgf 210 #[] g 0 c d.toArray w eg (zjb g 0 _ w) hH hlt (by simpa using hl);refine zq hs ?_;rintro e w' ⟨rfl,d',m,os,⟨p1,p2,p3⟩,hso,rfl⟩;have hsz:d'.size=d.length:=by simpa using p1
  have e1:d'.extract 0 d.toArray.size=d':=by rw[← p1];exact Array.extract_size
  rw[e1,Array.extract_size]at p3;have hp:d'.toList.Perm d:=p3;have hF:(flatK tdC 3 d').size=d.length*3:=by rw[size_flatK,hsz]
  refine⟨rfl,d'.toList,?_,hp,by simpa using hsz,?_,?_⟩
  ·rw[UH];intro i j hi hj hij;have hi':i<d'.size:=by simpa using hi
   have hj':j<d'.size:=by simpa using hj
   have h1:=hso i j (yq _) hij (by simpa[hsz]using hj');rw[Z0 d' i hi',Z0 d' j hj',VY]at h1;have hne:d'[i].birth≠d'[j].birth:=fun e=>by
    have m1:d'[i]∈d:=hp.mem_iff.1 (by simp);have m2:d'[j]∈d:=hp.mem_iff.1 (by simp);have heq:=hu _ m1 _ m2 e;have hnd':=hp.nodup_iff.2 hnd;exact(UH.1 hnd') i j hi hj hij (by simpa using heq)
   rcases(show bef d'[i] d'[j]∨bef d'[j] d'[i] by unfold bef;omega)with k | k
   ·simpa using k
   ·rw[Yb.2 k]at h1;cases h1
  ·have hlen:d'.toList.length=d.length:=by simpa using hsz
   show World.ownsRow _ 0 _ 3 (.slice (some ⟨g,0,none⟩) d'.toList.length c) d'.toList.length (d'.toList.flatMap tdC)
   rw[hlen];refine⟨by rw[Yo tdC 3 (fun _=>rfl),hlen],.inr ⟨g,c,putCells id 0 (flatK tdC 3 d') cur,rfl,yq _,ziR hg,hnc,hm,?_,?_⟩⟩
   ·rw[← hcs];simp[putCells]
   ·rw[zh3 hF (by rw[hcs];exact Xd 3 hnc),zbm]
  ·exact Mod.mono (zjA (g:=g) (F:=flatK tdC 3 d') (m:=m) (os:=os)) (fun k _ e=>by rw[e];rfl)
end
section
open Go.RowKit
abbrev zar(w:World)(a:Option Addr)(c:Nat)(L:List Td):Prop:=zr w (.slice a L.length c) 3 (L.flatMap tdC)
theorem zhA(L:List Td) : ∀ u∈L.flatMap tdC,u.oneCell'=true:=fun u hu=>by
 obtain⟨x,_,hx⟩:=Zb.1 hu;simp[tdC]at hx;rcases hx with rfl | rfl | rfl<;>rfl
theorem qx.rd{w:World}{a:Option Addr}{c:Nat}{L:List Td}(h:qx w a c L):zar w a c L:=zr.of_owns h (zhA L)
theorem zbG{W:World}{ad:Addr}{k j:Nat}{u:Value}(h:W.cell? (ad.add (k+(j+1)))=some u):W.cell? ⟨(ad.add k).block,(ad.add k).off+(j+1),none⟩=some u:=by
 rw[← Go.Deep.add_add]at h;unfold Addr.add at h ⊢;rw[zh (by omega)]at h;exact h
theorem zb7{w:World}{a:Option Addr}{n c:Nat}{L:List Td}(h:zr w (.slice a n c) 3 (L.flatMap tdC)){j:Nat}{x:Td}(hx:L[j]? = some x) :
  ∃ ad,a=some ad∧w.cell? (ad.add (j*3))=some (.int .u32 x.slot)∧w.cell? ⟨(ad.add (j*3)).block,(ad.add (j*3)).off+1,none⟩=some (.int .u64 x.dl)∧w.cell? ⟨(ad.add (j*3)).block,(ad.add (j*3)).off+2,none⟩=some (.int .u64 x.birth):=by
 obtain⟨a',n',c',e,hl,_,h0,hc⟩:=h;injection e with e1 e2 e3
 subst e1 e2 e3;have hj:=(zE.1 hx).1
 cases a with
 | none =>
  have:=h0 rfl;subst this;rw[Yo tdC 3 (fun _=>rfl)]at hl;omega
 | some ad =>
  have g:=fun i (hi:i<3)=>uO tdC 3 (fun _=>rfl) i hi L j
  have c0:=hc ad rfl (j*3+0) (.int .u32 x.slot) (by rw[g 0 (by omega),hx];rfl);have c1:=hc ad rfl (j*3+1) (.int .u64 x.dl) (by rw[g 1 (by omega),hx];rfl);have c2:=hc ad rfl (j*3+2) (.int .u64 x.birth) (by rw[g 2 (by omega),hx];rfl);exact⟨ad,rfl,c0,zbG (j:=0) c1,zbG (j:=1) c2⟩
theorem zbZ{f:Nat→Bool}{n b:Nat}(h:uE f n=some b):b<n∧f b=true ∧ ∀ j,j<b→f j=false:=by
 unfold uE at h;rw[List.find?_range_eq_some]at h;exact⟨ZZ.1 h.2.1,h.1,fun j hj=>by have:=h.2.2 j hj;simpa using this⟩
theorem zgc{f:Nat→Bool}{n:Nat}(h:uE f n=none) : ∀ j,j<n→f j=false:=fun j hj=>by
 unfold uE at h;rw[qj]at h;have:=h j (ZZ.2 hj);simpa using this
def KA(f:Nat→Bool)(b:Nat)(e:Int):Prop:=uE f 256=some b∧e=0∨uE f 256=none∧b=0∧e=9
theorem zab(f:Nat→Bool) : ∃(b:Nat) (e:Int),Up f=.tuple #[.int .i64 b,.int .i64 e]∧KA f b e:=by
 unfold Up KA
 cases uE f 256 with
 | some b=>exact⟨b,0,rfl,.inl ⟨rfl,rfl⟩⟩
 | none=>exact⟨0,9,rfl,.inr ⟨rfl,rfl,rfl⟩⟩
section
variable{w w':World}{D:Nat→Prop}{p now:Nat}{ws:List Nat}{bm bb:Nat}{Ds:Nat→Nat→Prop}{Dm Db:DataW Unit}{M:List Td}{Lss:List (List (List Nat))}
theorem yr.level0(h:yr w D p now ws bm bb Ds Dm Db M Lss){l q:Nat}{Ls':List (List Nat)}(hl:l<8)(hq:ws[l]? = some q)(hw:yM w' (Ds l) q Ls')(hm:Mod (Ds l) w w'):yr w' D p now ws bm bb Ds Dm Db M (Lss.set l Ls'):=by
 obtain⟨D2,hC,_⟩:=h.level hl hq hw (zZ.refl _ _) hm;have e1:kV Ds l (Ds l)=Ds:=by
  funext k
  unfold kV;split
  ·rename_i e;rw[e]
  ·rfl
 rw[e1]at hC;have e2:D2=D:=by
  funext k
  exact propext ((hC.dd k).trans (h.dd k).symm)
 rw[e2]at hC;exact hC
structure EmI(w wr:World)(D:Nat→Prop)(p now:Nat)(ws:List Nat)(bm bb:Nat)(Ds:Nat→Nat→Prop)(Dm Db:DataW Unit)(M:List Td)(Lss:List (List (List Nat)))(lv n:Nat)(Ls cur:List (List Nat))(a:Option Addr)(c:Nat)(out:List Nat):Prop where
 mem:yr wr D p now ws bm bb Ds Dm Db M (Lss.set lv cur)
 row:yu wr a c out
 fresh:xq w (.slice a out.length c)
 mod:Mod D w wr
 sum:out++(cur.take n).flatten=xT Ls n
 rest:cur.drop n=Ls.drop n
 len:cur.length=256
theorem Azyfp {P:Prop}(h:P:=by
 have hres:=HIr.out;rw[G1.out,G2.out]at hres;have HRES:=za hres;rw[G1.out];clear hres;go_wp2;go_ret;exact⟨a,c,rfl,HRES.out.row,HRES.out.fresh,HRES.out.mem,HRES.out.mod⟩):P:=h
theorem zeY(h:yr w D p now ws bm bb Ds Dm Db M Lss)(hT:xb w)(h0 : ¬ D 0){lv m:Nat}(hm:m<256)(hl8:lv<8){Ls:List (List Nat)}(hL:Lss[lv]? = some Ls)(hb:(xT Ls (m+1)).length≤4194304) :
  Calls prog 206 #[lkP p,.int .i64 lv,.int .i64 m] w fun e w' => ∃ a c,e=.returned (.slice a (xT Ls (m+1)).length c)∧yu w' a c (xT Ls (m+1))∧xq w (.slice a (xT Ls (m+1)).length c)∧yr w' D p now ws bm bb Ds Dm Db M (Lss.set lv (km Ls (m+1)))∧Mod D w w':=by
 obtain⟨q,hq⟩ : ∃ q,ws[lv]? = some q:=⟨_,zO (by rw[h.box.len];exact hl8)⟩;have hNx:=fun(W:World) (cur:List (List Nat)) (hM:yr W D p now ws bm bb Ds Dm Db M (Lss.set lv cur)) (hW:Mod D w W)=>zh1 (hM.lev lv q cur hq (yt (by rw[h.len];exact hl8))) (hT.mod hW h0)
 have hlL:Lss.set lv Ls=Lss:=by
  refine uF (fun j => ?_);by_cases e:lv=j
  ·subst e;rw[yt (by rw[h.len];exact hl8),hL]
  ·rw[yw e]
 have hLs:Ls.length=256:=(h.lev lv q Ls hq hL).len;have hI:EmI w w D p now ws bm bb Ds Dm Db M Lss lv (m+1) Ls Ls none 0 []:=⟨by rw[hlL];exact h,vV _ _ _ _,(fun g hg=>by cases hg),Mod.refl _ _,rfl,rfl,hLs⟩;obtain⟨b0,e0,hne,hc0⟩:=zab (neB Ls);have hn0:=hNx w Ls hI.mem (Mod.refl _ _);rw[hne]at hn0;have HN0:=za hn0;have HNx:=za hNx;have hcl:=h.box.level hq;obtain⟨c0,_,_,_,_⟩:=h.box.cells;have HI:=za hI;have HQ:=za hq;have HB:=za hb;have HC0:=za hc0;have HLS:=za hLs;have hlss : ∀ cur,(Lss.set lv cur)[lv]? = some cur:=fun cur=>yt (by rw[h.len];exact hl8)
 have HLSS:=za hlss;have hset : ∀ A B,(Lss.set lv A).set lv B=Lss.set lv B:=fun A B=>List.set_set ..
 have HSET:=za hset;have hDlt : ∀ k,D k→k<w.heap.size:=fun k hk=>h.lt hk
 have hlvD : ∀ k,Ds lv k→D k:=fun k hk=>(h.dd k).2 (.inr (.inr (.inr ⟨lv,hl8,hk⟩)))
 have HDLT:=za hDlt;have HLVD:=za hlvD;clear h hT h0 hL hq hI hne hn0 hNx hlL hb hc0 hLs hlss hset hDlt hlvD;have dl8:decide (lv<8)=true:=zQ hl8;have l0:(0:Int)≤(lv:Int):=by omega
 have l1:(lv:Int)<8:=by omega
 obtain⟨i0,hi,iz0,iz1,iz2⟩:=xB qt;go_enter func206,ntmps206;go_upto_region 3 with(go_at_call 252;refine HN0.out.mono ?_;rintro e w' ⟨rfl,rfl⟩)
 clear c0 hcl;go_loopw [7,8,9] (fun v7 v8 v9 wr => ∃ cur a c out b er,v7=.slice a out.length c∧v8=.int .i64 (b:Nat)∧v9=.int .i64 er∧KA (neB cur) b er∧EmI w wr D p now ws bm bb Ds Dm Db M Lss lv (m+1) Ls cur a c out) (fun _ v8 v9 _=>if intOf v9=0 then 256-(intOf v8).toNat else 0)
 case atStart=>exact⟨Ls,none,0,[],b0,e0,rfl,rfl,rfl,HC0.out,HI.out⟩
 case round =>
  obtain⟨cur,a,c,out,b,er,rfl,rfl,rfl,hc,hI⟩:=hrel;have HIr:=za hI;have hcl:=hI.mem.box.level HQ.out;obtain⟨c0,_,_,_,_⟩:=hI.mem.box.cells;have fin:(∀ i,i<m+1→neB cur i=false)→out=xT Ls (m+1)∧cur=km Ls (m+1):=fun hz=>by
   have e1:=zbR (by rw[hI.len];omega) hz;have e2:=hI.sum;rw[e1,zke,jt]at e2;refine⟨e2,?_⟩;unfold km;rw[← hI.rest,← e1,Yl]
  have FIN:=za fin;clear fin hI;rcases hc with⟨hf,rfl⟩ | ⟨hf,rfl,rfl⟩
  ·obtain⟨f1,f2,f3⟩:=zbZ hf;by_cases hbm:b≤m
   ·have hbm':(b:Int)≤(m:Int):=by omega
    obtain⟨l,hl⟩ : ∃ l,cur[b]? = some l:=⟨_,zO (by rw[HIr.out.len];exact f1)⟩;have hTk:=zei (HIr.out.mem.lev lv q cur HQ.out (HLSS.out cur)) hl;have hfl:=zaP (n:=m+1) (by omega) hl f3;have hsum:=HIr.out.sum;rw[hfl,← vL]at hsum;have hll:(out++l).length≤4194304:=by
     have:=HB.out;rw[← hsum,zT]at this;omega
    rw[zT]at hll;have hrest:(cur.set b []).drop (m+1)=Ls.drop (m+1):=by
     rw[← HIr.out.rest,List.drop_set_of_lt (by omega)]
    obtain⟨b1,e1,hne1,hc1⟩:=zab (neB (cur.set b []));have hneb:neB (cur.set b [])=vB (neB cur) b false:=J0 (by rw[HIr.out.len];exact f1) [];have hmeas:e1=0→b<b1∧b1<256:=fun hz=>by
     rcases hc1 with⟨g1,_⟩ | ⟨_,_,g2⟩
     ·obtain⟨g1,g2,_⟩:=zbZ g1;refine⟨?_,g1⟩;rw[hneb]at g2;unfold vB at g2;rcases qO b1 b with k | k | k
      ·rw[zh (by omega),f3 b1 k]at g2;cases g2
      ·rw[zj k]at g2;cases g2
      ·exact k
     ·rw[g2]at hz;cases hz
    have HMEAS:=za hmeas;have HSUM:=za hsum;have HREST:=za hrest;have HC1:=za hc1;have HNE1:=za hne1;obtain⟨nl,hnl⟩:=zf l.length;obtain⟨no,hno⟩:=zf out.length;rw[hnl]at hTk hll;rw[hno]at hll ⊢;have HTk:=za hTk;have HNL:=za hnl;have HNO:=za hno;have hbl:b<256:=f1;clear hf f1 f2 f3 hl hTk hfl hsum hrest hc1 hne1 hneb hmeas hnl hno;go_upto_region 6 with(go_at_call 253;refine HTk.out.mono ?_;rintro e w2 ⟨a2,c2,rfl,hr2,hf2,hw2,hm2⟩)
    have hmem2:yr w2 D p now ws bm bb Ds Dm Db M (Lss.set lv (cur.set b [])):=by
     have:=HIr.out.mem.level0 hl8 HQ.out hw2 hm2;rw[HSET.out]at this;exact this
    have hmD2:Mod D wr w2:=hm2.mono (fun k _ hk=>HLVD.out k hk);have hro2:w2.ownsRow 0 89 1 (.slice a no c) no (zY out):=by
     have:=HIr.out.row;unfold yu at this;rw[HNO.out]at this;exact zz this hmD2 (fun g hg hk=>by have:=HIr.out.fresh g (by rw[HNO.out];exact hg);have:=HDLT.out g hk;omega)
    have hRD2:zr w2 (.slice a2 nl c2) 1 (zY l):=by have:=Zm hr2;rw[HNL.out]at this;exact this
    have HRO2:=za hro2;have HRD2:=za hRD2;have HM2:=za hmem2;have HMD2:=za (HIr.out.mod.trans hmD2);clear hr2 hf2 hw2 hm2 hmem2 hmD2 hro2 hRD2 hcl c0;go_upto_region 4 with(at_builtin;refine uX _ rfl _ _ 157 rfl 89 i0 _ 1 4 underlying157 hi iz0 iz1 iz2 rfl (by decide) (.slice a no c) no _ rfl HRO2.out _ (zY l) nl rfl HRD2.out (by rw[qp,HNL.out,je]) (by unfold maxLen;omega) (by omega) ?_;intro a7 c7 w5 hr7 hg7 hb7)
    have hmg:Mod (fun k=>(Value.slice a no c).ownBlock=some k) w2 w5:=Mod.of_grown (S:=fun k'=>(Value.slice a no c).ownBlock=some k') hg7 (fun k e _=>e);have hfa : ∀ k,(Value.slice a no c).ownBlock=some k→w.heap.size≤k:=fun k e=>HIr.out.fresh k (by rw[HNO.out];exact e)
    have hmem5:=HM2.out.frame hmg (fun k hk e=>by have:=hfa k e;have:=HDLT.out k hk;omega);have hm5:Mod D w w5:=HMD2.out.then hmg (fun k hk e=>by have:=hfa k e;omega);have hf5:xq w (.slice a7 (no+nl) c7):=fun k hk=>by
     rcases hb7 with e | e
     ·exact hfa k (e ▸ hk)
     ·rw[e]at hk;cases hk;exact HMD2.out.size
    have hno2:(out++l).length=no+nl:=by rw[zT,HNO.out,HNL.out]
    have hI5:EmI w w5 D p now ws bm bb Ds Dm Db M Lss lv (m+1) Ls (cur.set b []) a7 c7 (out++l):=⟨hmem5,by unfold yu;rw[hno2,qz];exact hr7,by rw[hno2];exact hf5,hm5,HSUM.out,HREST.out,by rw[xC];exact HIr.out.len⟩;have hn5:=HNx.out w5 _ hI5.mem hm5;rw[HNE1.out]at hn5;have HN5:=za hn5;have HI5:=za hI5;have HNO2:=za hno2;have hcl:=hI5.mem.box.level HQ.out;obtain⟨c0,_,_,_,_⟩:=hI5.mem.box.cells;clear hr7 hg7 hb7 hmg hfa hmem5 hm5 hf5 hno2 hI5 hn5
    go_wp2_with (go_at_call 252;refine HN5.out.mono ?_;rintro e w' ⟨rfl,rfl⟩)
    go_roundw
    case rel=>exact⟨_,a7,c7,_,b1,e1,by rw[HNO2.out],rfl,rfl,HC1.out,HI5.out⟩
    case measure =>
     have hq:=HMEAS.out;by_cases hz:e1=0
     ·have:=hq hz;simp[intOf,hz];omega
     ·simp[intOf,hz];omega
   ·have hbm' : ¬ ((b:Int)≤(m:Int)):=by omega
    obtain⟨g1,g2⟩:=FIN.out (fun i hi=>f3 i (by omega));have G1:=za g1;have G2:=za g2;clear g1 g2 hf f1 f2 f3 hcl c0;exact Azyfp
  ·obtain⟨g1,g2⟩:=FIN.out (fun i hi=>zgc hf i (by omega));have G1:=za g1;have G2:=za g2;clear g1 g2 hf hcl c0;exact Azyfp
end
section
variable{w w':World}{D:Nat→Prop}{p now tt k lv n:Nat}{ws:List Nat}{bm bb:Nat}{Ds:Nat→Nat→Prop}{Dm Db:DataW Unit}{M L:List Td}{Lss:List (List (List Nat))}{P:Nat→Prop}{Ls:List (List Nat)}
theorem ye.bound(h:ye now M P Lss){A:List Nat}(hA:A.Nodup)(hs : ∀ s∈A,∃ l b,xd Lss l b s):A.length≤4194304 :=
 qG hA (fun s hs'=>by
  obtain⟨l,b,h1⟩:=hs s hs';obtain⟨_,x,hx,e,_⟩:=(h.at_ _ _ _).1 h1;have:=(h.rng x hx).1;rw[e]at this;exact this)
theorem ye.count(h:ye now M P Lss):M.length≤4194304:=by
 have h1:(M.map (fun x=>x.slot)).Nodup:=by
  unfold List.Nodup;rw[uU];exact h.ndM.imp_of_mem (fun {a b} ha hb hne e=>hne (h.slots a ha b hb e))
 have:=qG (N:=4194304) h1 (fun s hs=>by
  obtain⟨x,hx,rfl⟩:=zI.1 hs;exact(h.rng x hx).1)
 rw[yH]at this;exact this
theorem ye.moved_le(h:ye now M P Lss)(hL:Lss[lv]? = some Ls):(vd Lss lv++xT Ls n).length≤4194304 :=
 h.bound (h.nodup_moved hL) (fun s hs=>by
  rcases yI.1 hs with hs | hs
  ·obtain⟨l,b,_,h1⟩:=KM.1 hs;exact⟨l,b,h1⟩
  ·obtain⟨b,B,_,h1,h2⟩:=JO.1 hs;exact⟨lv,b,Ls,B,hL,h1,h2⟩)
theorem zfv(h:Ls.length=256):km Ls 256=List.replicate 256 []:=by
 unfold km;rw[Zp (by omega),jt]
theorem Jt(h:Ls.length=256):xT Ls 256=Ls.flatten:=by
 unfold xT;rw[jX (by omega)]
theorem yr.setNow(h:yr w D p now ws bm bb Ds Dm Db M Lss)(ht:tt<18446744073709551616):yr (w.setCell ⟨p,0,none⟩ (.int .u64 tt)) D p tt ws bm bb Ds Dm Db M Lss∧Mod (fun k=>k=p) w (w.setCell ⟨p,0,none⟩ (.int .u64 tt)):=by
 have hm:Mod (fun k=>k=p) w (w.setCell ⟨p,0,none⟩ (.int .u64 tt)):=(Mod.refl (fun k=>k=p) w).setCell (p:=⟨p,0,none⟩) (fun _=>rfl) _;obtain⟨n1,n2,n3⟩:=h.ne;refine⟨⟨⟨?_,h.box.len,ht⟩,h.what.mod hm n2,h.births.mod hm n3,h.len,fun l q Ls hq hl=>(h.lev l q Ls hq hl).frame hm (fun k hk e => ?_),h.apart,h.own,h.ne,h.dd⟩,hm⟩
 ·rw[zX w p 0 _ _ (.int .u64 tt) h.box.box]
  congr 2
 ·have hl8:l<8:=by have:=(zE.1 hl).1;rw[h.len]at this;exact this
  exact(h.own l k hl8 hk).1 e
theorem zgy:(prog.info? 198).map (fun i=>(i.zero,i.size,i.bytes))=some (some (.agg #[.int .u32 0,.int .u64 0,.int .u64 0]),3,24):=by kernel_rfl
def Xb(tt:Nat)(L:List Td):List Td:=L.takeWhile (fun x=>decide (x.dl≤tt))
def J3(tt:Nat)(L:List Td):List Td:=L.dropWhile (fun x=>decide (x.dl≤tt))
theorem Aznto {P:Prop}(h:P:=by
 clear hlt;go_enter func162,ntmps162
 go_wp2_with (go_at_call 161;refine HCk.out.mono ?_;rintro e w' ⟨rfl,rfl⟩)
 go_ret2;exact⟨rfl,rfl⟩):P:=h
theorem yo.adv_no(h:yo w D p now L)(ht:tt≤now):Calls prog 162 #[lkP p,.int .u64 tt] w fun e w'=>e=.returned (.tuple #[.slice none 0 0,.int .i64 (if tt<now then 3 else 0)])∧w=w':=by
 obtain⟨ws,bm,bb,Ds,Dm,Db,Lss,h1,h2,h3⟩:=h;have HCk:=za (Ys h1.box (s:=0) (by omega));obtain⟨c0,c9,c10,_,_⟩:=h1.box.cells;clear h1 h2 h3;by_cases hlt:tt<now
 ·rw[zj hlt];have hlt':(tt:Int)<(now:Int):=by omega
  exact Aznto
 ·have e:tt=now:=by omega
  subst e;rw[zh hlt];have hlt' : ¬ (tt:Int)<(tt:Int):=by omega
  exact Aznto
end
section
variable{w w':World}{D:Nat→Prop}{p now tt:Nat}{ws:List Nat}{bm bb:Nat}{Ds:Nat→Nat→Prop}{Dm Db:DataW Unit}{M L:List Td}{Lss:List (List (List Nat))}
structure AvI(w wr:World)(D:Nat→Prop)(p tt:Nat)(L:List Td)(mv:List Nat)(a c)(ad:Option Addr)(cd:Nat)(Mj dj:List Td)(D':Nat→Prop)(j:Nat):Prop where
 mem : ∃ ws bm bb Ds Dm Db Lss,yr wr D' p tt ws bm bb Ds Dm Db Mj Lss∧jQ tt L (mv.drop j) Mj dj Lss
 grew:zZ D D' w
 row:yu wr a c mv
 off : ∀ g,(Value.slice a mv.length c).ownBlock=some g → ¬ D' g
 due:qx wr ad cd dj
 fresh : ∀ g,(Value.slice ad dj.length cd).ownBlock=some g → ¬ D' g∧w.heap.size≤g
 mod:Mod D w wr
theorem yo.adv(h:yo w D p now L)(hT:xb w)(h0 : ¬ D 0)(hn:now<tt)(ht:tt<18446744073709551616) :
    Calls prog 162 #[lkP p,.int .u64 tt] w fun e w' => ∃ a c,e=.returned (.tuple #[.slice a (Xb tt L).length c,.int .i64 0])∧qx w' a c (Xb tt L)∧(∃ D',yo w' D' p tt (J3 tt L)∧zZ D D' w ∧ ∀ g,(Value.slice a (Xb tt L).length c).ownBlock=some g → ¬ D' g∧w.heap.size≤g)∧Mod D w w':=by
  obtain⟨ws,bm,bb,Ds,Dm,Db,Lss,h1,h2,h3⟩:=h;have hnow:=h1.box.now;have hl8:lvl now tt<8:=(uV hnow ht).1;have hbk:bkt now tt<256:=YA;obtain⟨Lt,hLt⟩ : ∃ Lt,Lss[lvl now tt]? = some Lt:=⟨_,zO (by rw[h2.len];exact hl8)⟩;have hA:=h2.adv hn ht hLt;have hle:=h2.moved_le (n:=bkt now tt+1) hLt;have HCk:=za (Ys h1.box (s:=0) (by omega));have HPl:=za (Kx h1.box ht (by omega:tt≠now));obtain⟨c0,c9,c10,cf,cl⟩:=h1.box.cells;have hSet:=fun(W:World) (hW:zb w W)=>(h1.pure hW).setNow ht
  have hDlt : ∀ k,D k→k<w.heap.size:=fun k hk=>h1.lt hk
  have hpD:D p:=(h1.dd p).2 (.inl rfl);have hEm:=fun(W:World) (k m:Nat) (Ls:List (List Nat)) (hk:k<8) (hm:m<256) (hL:Lss[k]? = some Ls) (hM:yr W D p tt ws bm bb Ds Dm Db L (uh Lss k)) (hW:Mod D w W) (hb:(xT Ls (m+1)).length≤4194304) =>
    zeY hM (hT.mod hW h0) h0 hm hk ((XM (zN k)).trans hL) hb
  have HEm:=za hEm;have HSet:=za hSet;have HDlt:=za hDlt;have HA:=za hA;have HLE:=za hle;have HP2:=za h2;have HS:=za h3;have HpD:=za hpD;have HLt:=za hLt;clear h1 h2 h3 hEm hSet hDlt hA hle hT h0 hpD hLt;obtain⟨tp,htp⟩:=zf (lvl now tt);obtain⟨dg,hdg⟩:=zf (bkt now tt);rw[htp]at hl8 HPl HA HLE HLt;rw[hdg]at hbk HPl HA HLE;clear htp hdg;have lt1 : ¬ (tt:Int)<(now:Int):=by omega
  have eq1:((tt:Int)==(now:Int))=false:=by simp;omega
  obtain⟨i0,hi,iz0,iz1,iz2⟩:=xB qt;go_enter func162,ntmps162;go_upto_region 8 with(first
    | (go_at_call 161;refine HCk.out.mono ?_;rintro e w' ⟨rfl,rfl⟩)
    | (go_at_call 205;refine HPl.out.mono ?_;rintro e w1 ⟨rfl,hp1⟩))
  obtain⟨hC1,hm1⟩:=HSet.out w1 hp1;have hm1':Mod D w (w1.setCell ⟨p,0,none⟩ (.int .u64 tt)):=(Mod.of_pure hp1).then hm1 (fun k _ e=>by rw[e];exact HpD.out);have hcp:=hp1.cell (a:=⟨p,0,none⟩) (fun h=>h) c0;have hfp : ∀ i,w1.frozen? ⟨p,i,none⟩=false:=fun i=>by rw[hp1.cells.2 p i cl];exact cf i
  have HC1:=za hC1;have HM1:=za hm1';clear hm1 hm1' hC1 c0 c9 c10 cf HCk HPl;go_upto_region 11 with fail
  generalize w1.setCell ⟨p,0,none⟩ (.int .u64 tt)=W1 at *;clear hcp hfp hp1 HSet;have tp0:(0:Int)≤(tp:Int):=by omega
  go_loopw [8,43] (fun v8 v43 wr => ∃(k:Nat) (a:Option Addr) (c:Nat),v43=.int .i64 (k:Nat)∧k≤tp∧v8=.slice a (vd Lss k).length c∧yu wr a c (vd Lss k)∧xq w (.slice a (vd Lss k).length c)∧yr wr D p tt ws bm bb Ds Dm Db L (uh Lss k)∧Mod D w wr) (fun _ v43 _=>8-(intOf v43).toNat)
  case atStart=>exact⟨0,none,0,rfl,yq _,rfl,vV _ _ _ _,(fun g hg=>by cases hg),HC1.out,HM1.out⟩
  case round =>
    obtain⟨k,a,c,rfl,hk,rfl,hr,hf,hC,hm⟩:=hrel;have HR:=za hr;have HF:=za hf;have HC:=za hC;have HM:=za hm;clear hr hf hC hm;by_cases hlt:k<tp
    · have hlt':(k:Int)<(tp:Int):=by omega
      have k0:(0:Int)≤(k:Int):=by omega
      have wk:IntKind.i64.wrap ((k:Int)+1)=(k:Int)+1:=zt _ (by omega);obtain⟨Ls,hL⟩ : ∃ Ls,Lss[k]? = some Ls:=⟨_,zO (by rw[HP2.out.len];omega)⟩;have hw:=HP2.out.wide k Ls hL;have hmv:=HP2.out.moved_le (n:=256) hL;rw[zT,Jt hw]at hmv;have he:=HEm.out wr k 255 Ls (by omega) (by omega) hL HC.out HM.out (by rw[Jt hw];omega);rw[Jt hw,zfv hw,← zkA hL]at he;have hsucc:=zfD hL;obtain⟨nl,hnl⟩:=zf Ls.flatten.length;obtain⟨no,hno⟩:=zf ((vd Lss k).length);rw[hnl]at he hmv;rw[hno]at hmv ⊢;have hns:(vd Lss (k+1)).length=no+nl:=by rw[hsucc,zT,hnl,hno]
      have HE:=za he;have HSU:=za hsucc;have HNL:=za hnl;have HNO:=za hno;have HNS:=za hns;clear hL hw he hsucc hnl hno hns;go_upto_region 14 with(first
        | (go_at_call 206;refine HE.out.mono ?_;rintro e w2 ⟨a2,c2,rfl,hr2,hf2,hC2,hm2⟩
           have hro:w2.ownsRow 0 89 1 (.slice a no c) no (zY (vd Lss k)):=(by have:=HR.out;unfold yu at this;rw[HNO.out]at this;exact zz this hm2 (fun g hg hk=>by have:=HF.out g (by rw[HNO.out];exact hg);have:=HDlt.out g hk;omega));have hrd:zr w2 (.slice a2 nl c2) 1 (zY Ls.flatten):=(by have:=Zm hr2;rw[HNL.out]at this;exact this);have HRO:=za hro;have HRD:=za hrd;have HC2:=za hC2;have HM2:=za (HM.out.trans hm2);clear hr2 hf2 hC2 hm2 hro hrd)
        | (at_builtin;refine uX _ rfl _ _ 157 rfl 89 i0 _ 1 4 underlying157 hi iz0 iz1 iz2 rfl (by decide) (.slice a no c) no _ rfl HRO.out _ (zY Ls.flatten) nl rfl HRD.out (by rw[qp,HNL.out,je]) (by unfold maxLen;omega) (by omega) ?_;intro a7 c7 w5 hr7 hg7 hb7))
      have hmg:Mod (fun k=>(Value.slice a no c).ownBlock=some k) w2 w5:=Mod.of_grown (S:=fun k'=>(Value.slice a no c).ownBlock=some k') hg7 (fun k e _=>e);have hfa : ∀ k',(Value.slice a no c).ownBlock=some k'→w.heap.size≤k':=fun k' e=>HF.out k' (by rw[HNO.out];exact e)
      have hC5:=HC2.out.frame hmg (fun k hk e=>by have:=hfa k e;have:=HDlt.out k hk;omega);have hm5:Mod D w w5:=HM2.out.then hmg (fun k hk e=>by have:=hfa k e;omega);have hf5:xq w (.slice a7 (no+nl) c7):=fun k hk=>by
        rcases hb7 with e | e
        · exact hfa k (e ▸ hk)
        · rw[e]at hk;cases hk;exact HM2.out.size
      have HC5:=za hC5;have HM5:=za hm5;have HF5:=za hf5;have HR7:=za hr7;clear hr7 hg7 hb7 hmg hfa hC5 hm5 hf5;go_wp2;go_roundw
      case rel=>exact⟨k+1,a7,c7,by go_num,hlt,by rw[HNS.out],by unfold yu;rw[HNS.out,HSU.out,qz];exact HR7.out,by rw[HNS.out];exact HF5.out,HC5.out,HM5.out⟩
      case measure=>simp[intOf];omega
    · have e:k=tp:=by omega
      subst e;have hw:=HP2.out.wide k Lt HLt.out;have hmv:=HLE.out;rw[zT]at hmv;have he:=HEm.out wr k dg Lt (by omega) hbk HLt.out HC.out HM.out (by omega);have hleft:(uh Lss k).set k (km Lt (dg+1))=Zk Lss Lt k (dg+1):=rfl;rw[hleft]at he;obtain⟨nl,hnl⟩:=zf ((xT Lt (dg+1)).length);obtain⟨no,hno⟩:=zf ((vd Lss k).length);rw[hnl]at he hmv;rw[hno]at hmv ⊢;obtain⟨mv,hmvq⟩:=zf (vd Lss k++xT Lt (dg+1));have hns:mv.length=no+nl:=by rw[← hmvq,zT,hnl,hno]
      have hA:=HA.out;rw[hmvq]at hA;have HE:=za he;have HNL:=za hnl;have HNO:=za hno;have HNS:=za hns;have HMV:=za hmvq;have HA2:=za hA;clear hw he hnl hno hns hmvq hleft hA HA HLE HLt HEm;go_upto_region 18 with(first
        | (go_at_call 206;refine HE.out.mono ?_;rintro e w2 ⟨a2,c2,rfl,hr2,hf2,hC2,hm2⟩
           have hro:w2.ownsRow 0 89 1 (.slice a no c) no (zY (vd Lss k)):=(by have:=HR.out;unfold yu at this;rw[HNO.out]at this;exact zz this hm2 (fun g hg hk=>by have:=HF.out g (by rw[HNO.out];exact hg);have:=HDlt.out g hk;omega));have hrd:zr w2 (.slice a2 nl c2) 1 (zY (xT Lt (dg+1))):=(by have:=Zm hr2;rw[HNL.out]at this;exact this);have HRO:=za hro;have HRD:=za hrd;have HC2:=za hC2;have HM2:=za (HM.out.trans hm2);clear hr2 hf2 hC2 hm2 hro hrd)
        | (at_builtin;refine uX _ rfl _ _ 157 rfl 89 i0 _ 1 4 underlying157 hi iz0 iz1 iz2 rfl (by decide) (.slice a no c) no _ rfl HRO.out _ (zY (xT Lt (dg+1))) nl rfl HRD.out (by rw[qp,HNL.out,je]) (by unfold maxLen;omega) (by omega) ?_;intro a7 c7 w5 hr7 hg7 hb7
           have hmg:Mod (fun k=>(Value.slice a no c).ownBlock=some k) w2 w5:=Mod.of_grown (S:=fun k'=>(Value.slice a no c).ownBlock=some k') hg7 (fun k e _=>e);have hfa : ∀ k',(Value.slice a no c).ownBlock=some k'→w.heap.size≤k':=fun k' e=>HF.out k' (by rw[HNO.out];exact e)
           have hC5:=HC2.out.frame hmg (fun k hk e=>by have:=hfa k e;have:=HDlt.out k hk;omega);have hm5:Mod D w w5:=HM2.out.then hmg (fun k hk e=>by have:=hfa k e;omega);have hf5:xq w (.slice a7 (no+nl) c7):=fun k hk=>(by
             rcases hb7 with e | e
             · exact hfa k (e ▸ hk)
             · rw[e]at hk;cases hk;exact HM2.out.size)
           have hI5:AvI w w5 D p tt L mv a7 c7 none 0 L [] D 0:=⟨⟨_,_,_,_,_,_,_,hC5,HA2.out⟩,zZ.refl _ _,(by unfold yu;rw[HNS.out,← HMV.out,qz];exact hr7),(by rw[HNS.out];exact fun g hg hk=>by have:=hf5 g hg;have:=HDlt.out g hk;omega),vV _ _ _ _,(fun g hg=>by cases hg),hm5⟩;have HI5:=za hI5;clear hr7 hg7 hb7 hmg hfa hC5 hm5 hf5 hI5))
      have hn63:no+nl≤4194304:=hmv;clear HRO HRD HC2 HM2 HE HNL HNO HMV HA2 HR HF HC HM hmv;obtain⟨n,hnn⟩:=zf (no+nl);rw[hnn]at HNS hn63;have wnn:(no:Int)+(nl:Int)=(n:Int):=by omega
      simp only[hnn,wnn]at *;clear hnn wnn;obtain⟨j0,hj,jz0,jz1,jz2⟩:=xB zgy;go_loopw [10,60] (fun v10 v60 wr => ∃(j:Nat) (ad:Option Addr) (cd:Nat) (Mj dj:List Td) (D':Nat→Prop),v60=.int .i64 (j:Nat)∧j≤n∧v10=.slice ad dj.length cd∧AvI w wr D p tt L mv a7 c7 ad cd Mj dj D' j) (fun _ v60 _=>n-(intOf v60).toNat)
      case atStart=>exact⟨0,none,0,L,[],D,rfl,yq _,rfl,HI5.out⟩
      case round =>
        obtain⟨j,ad,cd,Mj,dj,D',rfl,hjn,rfl,hI⟩:=hrel;have HI:=za hI;obtain⟨ws',bm',bb',Ds',Dm',Db',Lss',hC,hAv⟩:=hI.mem;by_cases hlt2:j<n
        · have hlt':(j:Int)<(n:Int):=by omega
          have j0':(0:Int)≤(j:Int):=by omega
          have wj:IntKind.i64.wrap ((j:Int)+1)=(j:Int)+1:=zt _ (by omega);obtain⟨s,hs⟩ : ∃ s,mv[j]? = some s:=⟨_,zO (by rw[HNS.out];exact hlt2)⟩;have hdr:mv.drop j=s::mv.drop (j+1):=by
            have hjl:j<mv.length:=by rw[HNS.out];exact hlt2
            rw[jK hjl];rw[zO hjl]at hs;injection hs with hs
            rw[hs]
          obtain⟨ad0,had,z0⟩:=Ue (Zm hI.row) hs;rw[hdr]at hAv;obtain⟨x,hx,hxs⟩:=hAv.has s yD;subst had;obtain⟨r1,r2,r3,r4⟩:=hAv.inv.rng x hx;subst hxs;have hlk:=hC.what.look1 hx (by omega);unfold tdV at hlk;have hdu:=zev x.dl tt r2;have HDU:=za hdu;obtain⟨c0,c9,c10,cf,cl⟩:=hC.box.cells;have hal:zb wr (wr.alloc (.cells #[.int .u32 x.slot,.int .u64 x.dl,.int .u64 x.birth] 198)):=(Mod.refl _ wr).alloc _;have h13:=zk (w:=wr) (o := .cells #[.int .u32 x.slot,.int .u64 x.dl,.int .u64 x.birth] 198 (0,0)) rfl;have HX:=za hx;have HAv:=za hAv;have HCm:=za hC;have HDR:=za hdr;have HAL:=za hal;have hDl : ∀ k,D' k→k<wr.heap.size:=fun k hk=>hC.lt hk
          have HDL:=za hDl;have hmvw : ∀ g,(Value.slice (some ad0) mv.length c7).ownBlock=some g→g<wr.heap.size:=fun g hg=>xV HI.out.row hg
          have hduw : ∀ g,(Value.slice ad dj.length cd).ownBlock=some g→g<wr.heap.size:=fun g hg=>xV HI.out.due hg
          have HMVW:=za hmvw;have HDUW:=za hduw;clear hx hAv hC hdr hal hI hDl hmvw hduw;go_upto_region 21 with fail
          generalize wr.alloc (.cells #[.int .u32 x.slot,.int .u64 x.dl,.int .u64 x.birth] 198)=W3 at *;obtain⟨b13,hb13⟩:=zf wr.heap.size;rw[hb13]at h13 HDL HMVW HDUW ⊢;have HB13:=za hb13;have H13:=za h13;clear hlk c0 c9 c10 cf cl z0 hb13 hs;obtain⟨h13_0,h13_1,h13_2,h13_f,h13_l,H_h13⟩:=cr3 h13;clear h13;by_cases hd:x.dl≤tt
          · simp only[decide_eq_true hd]at HDU
            have hp:=zej HAv.out.inv HX.out;obtain⟨M2,hM2⟩:=zf (Mj.filter (fun y=>y.slot != x.slot));rw[hM2]at hp;obtain⟨_,q1,q2,_,q4⟩:=HAv.out.inv.without hp;have hgo:=HAv.out.go rfl hd hp;have hfo:=fun(W:World) (hW:zb W3 W)=>zbg ((HCm.out.pure HAL.out).pure hW) HX.out (by omega) r4 q1 q2 q4
            unfold tdV at hfo;have hdl:dj.length+1≤4194304:=by
              have e1:=hgo.perm.length_eq;have e2:=HP2.out.count;simp at e1;omega
            obtain⟨nd,hnd⟩:=zf dj.length;rw[hnd]at hdl ⊢;have HND:=za hnd;have HFo:=za hfo;have HGo:=za hgo;have hbmD:D' bm'∧D' bb':=⟨(HCm.out.dd bm').2 (.inr (.inl rfl)),(HCm.out.dd bb').2 (.inr (.inr (.inl rfl)))⟩;have HBD:=za hbmD;clear hp hM2 q1 q2 q4 hgo hfo hbmD hnd;go_upto_region 24 with(first
              | (go_at_call 47;refine(HDU.out _).mono ?_;rintro e w' ⟨rfl,rfl⟩)
              | (go_at_call 208;refine zq (HFo.out _ (by first | exact Mod.refl _ _ | exact(Mod.refl _ _).drew)) ?_;rintro e w5 ⟨rfl,⟨Dm2,Db2,hC2⟩,hm2⟩))
            have hm5:Mod (fun k=>k=bm'∨k=bb') W3 w5:=by first | exact hm2 | exact Mod.of_drew hm2
            have h5D:Mod D' W3 w5:=hm5.mono (fun k _ e=>by rcases e with rfl | rfl;exact HBD.out.1;exact HBD.out.2);have h135:=h5D.heap (fun e=>by have:=HDL.out b13 e;omega) H13.out;have hmw:Mod D' wr w5:=(Mod.of_pure HAL.out).trans h5D;have hrow5:=zz HI.out.row hmw HI.out.off;have hdue5:=zz HI.out.due hmw (fun g hg=>(HI.out.fresh g hg).1);rw[HND.out]at hdue5;have HR5:=za hrow5;have HD5:=za hdue5;have HMW:=za hmw;have HC2:=za hC2;have H135:=za h135;clear h13_0 h13_1 h13_2 h13_f h13_l;clear H_h13 hm2 hm5 h5D hmw hrow5 hdue5 hC2;obtain⟨h135_0,h135_1,h135_2,h135_f,h135_l,H_h135⟩:=cr3 h135;clear h135;go_upto_region 25 with(at_builtin;refine uX _ rfl _ _ 195 rfl 198 j0 _ 3 24 underlying195 hj jz0 jz1 jz2 rfl (by decide) (.slice ad nd cd) nd _ rfl (zz HD5.out ((Mod.refl (fun _=>False) w5).alloc _) (fun _ _ h=>h)) _ [.int .u32 x.slot,.int .u64 x.dl,.int .u64 x.birth] 1 rfl (zr.of_block 1 1 3 (zk rfl) (by rfl) (by simp[Value.oneCell'])) rfl (by unfold maxLen;omega) (by omega) ?_;intro a8 c8 w6 hr8 hg8 hb8)
            have hmg:Mod (fun k=>(Value.slice ad nd cd).ownBlock=some k) w5 w6:=((Mod.refl _ w5).alloc _).then (Mod.of_grown (S:=fun k'=>(Value.slice ad nd cd).ownBlock=some k') hg8 (fun k e _=>e)) (fun _ _ h=>h);have hfr:=HI.out.fresh;rw[HND.out]at hfr;have hsz5:=HMW.out.size;have hszw:=HI.out.mod.size;have hal5:w5.heap.size<(w5.alloc (.cells #[.int .u32 x.slot,.int .u64 x.dl,.int .u64 x.birth] 198)).heap.size:=by simp
            have hI6:AvI w w6 D p tt L mv (some ad0) c7 a8 c8 M2 (dj++[x]) D' (j+1):=⟨⟨_,_,_,_,_,_,_,HC2.out.frame hmg (fun k hk e=>(hfr k e).1 hk),HGo.out⟩,HI.out.grew,
              zz HR5.out hmg (fun g hg e=>zez HR5.out HD5.out (by decide) hg e),HI.out.off,
              (by
                show World.ownsRow _ 0 _ 3 (.slice a8 (dj++[x]).length c8) (dj++[x]).length ((dj++[x]).flatMap tdC)
                rw[zT,HND.out,ZQ];exact hr8),fun g hg=>(by
                rw[zT,HND.out]at hg;rcases hb8 with e | e
                · exact hfr g (e ▸ hg)
                · have hg':(Value.slice a8 (nd+1) c8).ownBlock=some g:=hg
                  rw[e]at hg'
                  cases hg'
                  refine⟨fun hk => ?_,by omega⟩;have:=HDL.out _ hk;have:=HB13.out;omega),
              (HI.out.mod.trans' HMW.out (fun _ _ h=>h) (fun k hk h=>(by
                rcases HI.out.grew k h with e | e
                · exact e
                · omega))).then hmg (fun k hk e=>by have:=(hfr k e).2;omega)⟩
            have hnx:(dj++[x]).length=nd+1:=by rw[zT,HND.out];rfl
            have HI6:=za hI6;have HNX:=za hnx;clear hr8 hg8 hb8 hmg hfr hsz5 hszw hI6 hnx hal5;go_wp2;go_roundw
            case rel=>exact⟨j+1,a8,c8,M2,dj++[x],D',by go_num,hlt2,by rw[HNX.out],HI6.out⟩
            case measure=>simp[intOf];omega
          · simp only[decide_eq_false hd]at HDU
            obtain⟨Ls,B,hL,hK⟩:=HAv.out.inv.get (uV ht (dl:=x.dl) (by omega)).1 (YA (now:=tt) (dl:=x.dl));have hst:=HAv.out.stay HX.out rfl (by omega) hL hK;have hpu:=fun(W:World) (hW:zb W3 W)=>zap ((HCm.out.pure HAL.out).pure hW) (x:=x) (M':=Mj) r1 (by omega) r4 (by omega) (by have:=HAv.out.inv.count;unfold maxLen;omega) hL hK (HAv.out.inv.notL (fun y hy e=>yD) hL) (.inr ⟨HX.out,fun y hy e=>HAv.out.inv.slots y hy x HX.out e,rfl⟩)
            unfold tdV at hpu;have HPu:=za hpu;have HSt:=za hst;clear hL hK hst hpu;go_upto_region 25 with(first
              | (go_at_call 47;refine(HDU.out _).mono ?_;rintro e w' ⟨rfl,rfl⟩)
              | (go_at_call 207;refine zq (HPu.out _ (by first | exact Mod.refl _ _ | exact(Mod.refl _ _).drew)) ?_;rintro e w5 ⟨rfl,⟨D2,Ds2,Dm2,Db2,hC2,hg2⟩,hm2⟩))
            have hm5:Mod D' W3 w5:=by first | exact hm2 | exact Mod.of_drew hm2
            have hg5 : ∀ k,D2 k→D' k∨b13≤k:=fun k hk=>by
              have e1:=HAL.out.size;have e2:=HB13.out;rcases hg2 k hk with e | e
              · exact .inl e
              · have e':W3.heap.size≤k:=e
                exact .inr (by omega)
            have hmw:Mod D' wr w5:=(Mod.of_pure HAL.out).trans hm5;have hszw:=HI.out.mod.size;have hI5:AvI w w5 D p tt L mv (some ad0) c7 ad cd Mj dj D2 (j+1):=⟨⟨_,_,_,_,_,_,_,hC2,HSt.out⟩,fun k hk=>(by
                rcases hg5 k hk with e | e
                · exact HI.out.grew k e
                · have:=HB13.out;exact .inr (by omega)),
              zz HI.out.row hmw HI.out.off,fun g hg hk=>(by
                rcases hg5 g hk with e | e
                · exact HI.out.off g hg e
                · have:=HMVW.out g hg;omega),
              zz HI.out.due hmw (fun g hg=>(HI.out.fresh g hg).1),fun g hg=>⟨fun hk=>(by
                rcases hg5 g hk with e | e
                · exact(HI.out.fresh g hg).1 e
                · have:=HDUW.out g hg;omega),(HI.out.fresh g hg).2⟩,
              HI.out.mod.trans' hmw (fun _ _ h=>h) (fun k hk h=>(by
                rcases HI.out.grew k h with e | e
                · exact e
                · omega))⟩
            have HI5b:=za hI5;clear hm2 hg2 hC2 hm5 hg5 hmw hszw hI5;go_wp2;go_roundw
            case rel=>exact⟨j+1,ad,cd,Mj,dj,D2,by go_num,hlt2,rfl,HI5b.out⟩
            case measure=>simp[intOf];omega
        · have e:j=n:=by omega
          subst e;have hd0:mv.drop j=[]:=Zp (by rw[HNS.out];exact zN _);rw[hd0]at hAv;obtain⟨hinv,hrest⟩:=hAv.fin;obtain⟨e1,e2⟩:=zjD HS.out hAv.perm hAv.due hrest;have hLm : ∀ x∈dj,x∈L:=fun x hx=>hAv.perm.mem_iff.1 (xF _ hx)
          have hso:=zgG hI.due (by have:=hAv.perm.length_eq;have:=HP2.out.count;simp at *;omega) (fun x hx y hy e=>HP2.out.births x (hLm x hx) y (hLm y hy) e) (by
            have:=hAv.perm.nodup_iff.2 HP2.out.ndM;rw[xy]at this;exact this.2.1)
          have HSo:=za hso;have HCm:=za hC;have HInv:=za hinv;have HE1:=za e1;have HE2:=za e2;clear hI hC hAv hd0 hinv hrest e1 e2 hLm hso
          go_wp2_with (go_at_call 209;refine HSo.out.mono ?_;rintro e w9 ⟨rfl,d',s1,s2,s3,hr9,hm9⟩)
          have hdq:d'=Xb tt L:=Ya s1 (HS.out.sublist (Uw _)) (s2.trans HE1.out);rw[hdq]at hr9 s3;have hmD:Mod D w w9:=HI.out.mod.then hm9 (fun k hk e=>by have:=(HI.out.fresh k e).2;omega);refine zR (v := .tuple #[.slice ad dj.length cd,.int .i64 0]) (by simp[results,results162,go_sem]) rfl ⟨ad,cd,by rw[s3],hr9,⟨D',⟨_,_,_,_,_,_,_,(HCm.out.frame hm9 (fun k hk e=>(HI.out.fresh k e).1 hk)).perm HE2.out,HInv.out.perm HE2.out,HS.out.sublist (List.dropWhile_sublist _)⟩,HI.out.grew,fun g hg=>HI.out.fresh g (by rw[← s3];exact hg)⟩,hmD⟩
end
def Kv(L:List Td):Nat:=match L with
 | []=>18446744073709551615
 | x::_=>x.dl
theorem zmc{w:World}{A:Array Value}{i q:Nat}(hi:i<8)(h:A[i]? = some (lkP q)):(Instr.index 265 (.agg A) (.int .i64 i)).run prog w=.ok (lkP q) w:=by
 have h0:(0:Int)≤(i:Int):=by omega
 have h8:(i:Int)<8:=by omega
 have e1:=underlying265;have e2:=isAgg264 w;have e3:=sizeOf264 w;simp[Instr.index,run_underlying e1,asIntOf,part,h0,h8,e2,e3,h,go_sem];intro c;omega
theorem zmi(a b c:Value)(w:World):(Instr.field 198 (.agg #[a,b,c]) 1).run prog w=.ok b w:=by kernel_rfl
section
variable{w w':World}{D:Nat→Prop}{p now tt:Nat}{ws:List Nat}{bm bb:Nat}{Ds:Nat→Nat→Prop}{Dm Db:DataW Unit}{M L:List Td}{Lss:List (List (List Nat))}{P:Nat→Prop}
theorem zeI{a b:Nat}(hn:now<18446744073709551616)(ha:a<18446744073709551616)(hb:b<18446744073709551616)(h2:now<b)(h:lvl now a<lvl now b):a<b:=by
 obtain⟨a1,a2,a3⟩:=uV hn ha;have hd:=zcC hn hb h2;have:=UD a2 (show lvl now a+1≤lvl now b by omega);exact Qn (m:=256 ^ lvl now b) (by rw[this];exact hd)
theorem ze3{a b:Nat}(hn:now<18446744073709551616)(ha:a<18446744073709551616)(hb:b<18446744073709551616)(e:lvl now a=lvl now b)(h:bkt now a<bkt now b):a<b:=by
 obtain⟨a1,a2,a3⟩:=uV hn ha;obtain⟨b1,b2,b3⟩:=uV hn hb;unfold bkt at h;rw[← e]at h b2;have e2:a/256 ^ (lvl now a+1)=b/256 ^ (lvl now a+1):=a2.trans b2.symm;rw[qP,← ZP,← ZP]at e2;exact Qn (m:=256 ^ lvl now a) (by omega)
theorem zl1(h:ye now L (fun _=>False) Lss)(hn:now<18446744073709551616)(hs:L.Pairwise bef){l b s:Nat}(h1:xd Lss l b s)(h2 : ∀ b' s',b'<b → ¬ xd Lss l b' s')(h3 : ∀ l' b' s',l'<l → ¬ xd Lss l' b' s') :
  ∃ z L',L=z::L'∧xd Lss l b z.slot ∧ ∀ y∈L,z.dl≤y.dl:=by
 obtain⟨_,x,hx,e1,e2,e3⟩:=(h.at_ _ _ _).1 h1
 cases L with
 | nil=>cases hx
 | cons z L' =>
  have hz : ∀ y∈z::L',z.dl≤y.dl:=fun y hy=>by
   rcases yx.1 hy with rfl | hy
   ·exact zN _
   ·have:=(kh.1 hs).1 y hy;unfold bef at this;omega
  have hzm:z∈z::L':=yD;have hzi:xd Lss (lvl now z.dl) (bkt now z.dl) z.slot:=(h.at_ _ _ _).2 ⟨(fun c=>c),z,hzm,rfl,rfl,rfl⟩;have hzx:=hz x hx;obtain⟨r1,r2,r3⟩:=h.rng x hx;obtain⟨t1,t2,t3⟩:=h.rng z hzm;have hza:=h.after z hzm (fun c=>c);have hl : ¬ lvl now z.dl<l:=fun c=>h3 _ _ _ c hzi
  have hl2 : ¬ l<lvl now z.dl:=fun c=>by
   rw[← e2]at c;have:=zeI hn (a:=x.dl) (b:=z.dl) (by omega) (by omega) hza c;omega
  have el:lvl now z.dl=l:=by omega
  rw[el]at hzi;have hb : ¬ bkt now z.dl<b:=fun c=>h2 _ _ c hzi
  have hb2 : ¬ b<bkt now z.dl:=fun c=>by
   rw[← e3]at c;have:=ze3 hn (a:=x.dl) (b:=z.dl) (by omega) (by omega) (by omega) c;omega
  have eb:bkt now z.dl=b:=by omega
  rw[eb]at hzi;exact⟨z,L',rfl,hzi,hz⟩
theorem eight{ws:List Nat}(h:ws.length=8) : ∃ a b c d e f g i,ws=[a,b,c,d,e,f,g,i]:=by
 match ws,h with
 | [a,b,c,d,e,f,g,i],_=>exact⟨a,b,c,d,e,f,g,i,rfl⟩
end
section
variable{w w':World}{D:Nat→Prop}{p now tt:Nat}{L:List Td}
def zaO(now tt:Nat):Int:=if tt<now then 3 else 0
def Y5(now tt:Nat)(L:List Td):List Td:=if now<tt then Xb tt L else[]
def VR(now tt:Nat):Nat:=if now<tt then tt else now
def Ud(now tt:Nat)(L:List Td):List Td:=if now<tt then J3 tt L else L
theorem yo.advAny(h:yo w D p now L)(hT:xb w)(h0 : ¬ D 0)(ht:tt<18446744073709551616) :
  Calls prog 162 #[lkP p,.int .u64 tt] w fun e w' => ∃ a c,e=.returned (.tuple #[.slice a (Y5 now tt L).length c,.int .i64 (zaO now tt)])∧qx w' a c (Y5 now tt L)∧(∃ D',yo w' D' p (VR now tt) (Ud now tt L)∧zZ D D' w ∧ ∀ g,(Value.slice a (Y5 now tt L).length c).ownBlock=some g → ¬ D' g∧w.heap.size≤g)∧Mod D w w':=by
 unfold zaO Y5 VR Ud;by_cases hn:now<tt
 ·rw[zj hn,zj hn,zj hn,zh (by omega)];exact h.adv hT h0 hn ht
 ·rw[zh hn,zh hn,zh hn];refine(h.adv_no (tt:=tt) (by omega)).mono ?_;rintro e w' ⟨rfl,rfl⟩;exact⟨none,0,rfl,vV _ _ _ _,⟨D,h,zZ.refl _ _,fun g hg=>by cases hg⟩,Mod.refl _ _⟩
theorem yo.count(h:yo w D p now L):L.length≤4194304:=by
 obtain⟨ws,bm,bb,Ds,Dm,Db,Lss,h1,h2,h3⟩:=h;exact h2.count
structure qm(w:World)(D:Nat→Prop)(p now:Nat)(L:List Td):Prop where
 at_:yo w D p now L
 tab:xb w
 off : ¬ D 0
theorem qm.frame{S:Nat→Prop}(h:qm w D p now L)(hm:Mod S w w')(hd : ∀ k,D k → ¬ S k)(h0 : ¬ S 0):qm w' D p now L:=⟨h.at_.frame hm hd,h.tab.mod hm h0,h.off⟩
theorem qm.pure(h:qm w D p now L)(hm:zb w w'):qm w' D p now L:=h.frame hm (fun _ _ h=>h) (fun h=>h)
theorem qm.next{D':Nat→Prop}{now':Nat}{L':List Td}(h:qm w D p now L)(hc:yo w' D' p now' L')(hg:zZ D D' w)(hm:Mod D w w'):qm w' D' p now' L' :=
 ⟨hc,h.tab.mod hm h.off,fun e=>by
  rcases hg 0 e with e | e
  ·exact h.off e
  ·have:=h.tab.lt;omega⟩
end
end
section
section
variable{M M' L A:List Td}{x y:Td}{s now tt b dl:Nat}
theorem YK(h:M.Pairwise bef):(yn M).Pairwise bef:=h.filter _
theorem ZE:x∈yn M↔x∈M∧x.dl≠18446744073709551615:=by unfold yn;simp
theorem Kp:yn (x::M)=if x.dl≠18446744073709551615 then x::yn M else yn M:=by
 unfold yn;rw[jh];simp
theorem zcx(h:M.Perm M'):(yn M).Perm (yn M'):=h.filter _
theorem zlS(h:M.Pairwise bef)(hb : ∀ y∈M,y.birth≠x.birth):yn (xO M x)=if x.dl=18446744073709551615 then yn M else xO (yn M) x:=by
 have h1:(yn (xO M x)).Perm (yn (x::M)):=zcx qq;have h2:=YK (XQ h hb);rw[Kp]at h1;by_cases e:x.dl=18446744073709551615
 ·rw[zj e];rw[zh (by omega)]at h1;exact Ya h2 (YK h) h1
 ·rw[zh e];rw[zj e]at h1;exact Ya h2 (XQ (YK h) (fun y hy=>hb y (ZE.1 hy).1)) (h1.trans qq.symm)
def j3(M:List Td)(s:Nat):List Td:=if xH M s then qQ M s else M
theorem zjs(h:M.Pairwise bef)(hu : ∀ x∈M,∀ y∈M,x.slot=y.slot→x=y)(hp:M.Perm (x::M'))(hx:x.slot<4194304)(h':M'.Pairwise bef):vq (yn M) x.slot=yn M':=by
 have hxM:x∈M:=hp.mem_iff.2 yD;have h1:=zcx hp;rw[Kp]at h1;have h2:=YK h;have h3:=YK h';by_cases e:x.dl=18446744073709551615
 ·rw[zh (by omega)]at h1;have hn:xH (yn M) x.slot=false:=by
   cases hh:xH (yn M) x.slot with
   | false=>rfl
   | true =>
    obtain⟨y,hy,e2⟩:=uL.1 hh;obtain⟨k1,k2⟩:=ZE.1 hy;rw[hu y k1 x hxM e2]at k2;exact absurd e k2
  unfold vq;rw[Xy hx (Ul hn)];dsimp only;rw[zh (by decide)];exact Ya h2 h3 h1
 ·rw[zj e]at h1;have hxT:x∈yn M:=ZE.2 ⟨hxM,e⟩;have hh:xH (yn M) x.slot=true:=uL.2 ⟨x,hxT,rfl⟩;obtain⟨z,k1,k2,k3,k4⟩:=UC (VV.2 hh);have hz:z=x:=hu z (ZE.1 (ym k1)).1 x hxM k2;subst hz;unfold vq;rw[UR hx k3];dsimp only;rw[zj rfl];have h5:=k4.symm.trans h1;exact Ya (ZW h2) h3 ((List.perm_cons _).1 h5)
theorem yK.out(h:yK now M)(hp:M.Perm (x::M'))(h':M'.Pairwise bef):yK now M'∧(∀ y,y∈M'↔y∈M∧y.slot≠x.slot)∧(∀ y,y∈M'↔y∈M∧y.birth≠x.birth)∧M'.length+1=M.length:=by
 have hx:x∈M:=hp.mem_iff.2 yD;have hsub : ∀ y∈M',y∈M:=fun y hy=>hp.mem_iff.2 (yE _ hy)
 have hndM:M.Nodup:=h.ord.imp (fun {a b} k e=>by subst e;exact XW k k);have hnd:=hp.nodup_iff.1 hndM;have hxn:x∉M':=(yZ.1 hnd).1;refine⟨⟨h',fun a ha b hb=>h.slots a (hsub a ha) b (hsub b hb),fun a ha b hb=>h.births a (hsub a ha) b (hsub b hb),fun a ha=>h.rng a (hsub a ha)⟩,fun y=>⟨fun hy=>⟨hsub y hy,fun e=>hxn (by rw[← h.slots y (hsub y hy) x hx e];exact hy)⟩,fun⟨hy,hn⟩ => ?_⟩,fun y=>⟨fun hy=>⟨hsub y hy,fun e=>hxn (by rw[← h.births y (hsub y hy) x hx e];exact hy)⟩,fun⟨hy,hn⟩ => ?_⟩,by have:=hp.length_eq;simp at this;omega⟩
 ·rcases yx.1 (hp.mem_iff.1 hy)with rfl | k
  ·exact absurd rfl hn
  ·exact k
 ·rcases yx.1 (hp.mem_iff.1 hy)with rfl | k
  ·exact absurd rfl hn
  ·exact k
theorem yK.put(h:yK now M)(h1 : ∀ y∈M,y.slot≠x.slot)(h2 : ∀ y∈M,y.birth≠x.birth)(hr:x.slot<4194304∧(now<x.dl∨x.dl=18446744073709551615)∧x.dl≤18446744073709551615∧0<x.birth∧x.birth≤18446744073709551615):yK now (xO M x):=by
 refine⟨XQ h.ord h2,fun a ha b hb e => ?_,fun a ha b hb e => ?_,fun a ha => ?_⟩
 ·rcases Yc.1 ha with k1 | k1<;>rcases Yc.1 hb with k2 | k2
  ·rw[k1,k2]
  ·rw[k1]at e;exact absurd e.symm (h1 b k2)
  ·rw[k2]at e;exact absurd e (h1 a k1)
  ·exact h.slots a k1 b k2 e
 ·rcases Yc.1 ha with k1 | k1<;>rcases Yc.1 hb with k2 | k2
  ·rw[k1,k2]
  ·rw[k1]at e;exact absurd e.symm (h2 b k2)
  ·rw[k2]at e;exact absurd e (h2 a k1)
  ·exact h.births a k1 b k2 e
 ·rcases Yc.1 ha with rfl | ha
  ·exact hr
  ·exact h.rng a ha
def qo(M:List Td)(s b:Nat):Bool:=M.any (fun y=>(y.slot==s) != (y.birth==b))
def kz(now:Nat)(M:List Td)(s dl b:Nat):Int:=if s<4194304∧b≠0 then(if dl≤now∧dl≠18446744073709551615 then 3 else if qo M s b then 11 else 0)else 2
def kF(now:Nat)(M:List Td)(s dl b:Nat):List Td:=if kz now M s dl b=0 then xO (j3 M s) ⟨s,dl,b⟩else M
theorem XG:qo M s b=true ↔ ∃ y∈M,(y.slot=s∧y.birth≠b)∨(y.slot≠s∧y.birth=b):=by
 unfold qo;rw[List.any_eq_true];constructor
 ·rintro⟨y,hy,e⟩;refine⟨y,hy,?_⟩;by_cases h1:y.slot=s
  ·by_cases h2:y.birth=b
   ·rw[h1,h2]at e;simp at e
   ·exact .inl ⟨h1,h2⟩
  ·by_cases h2:y.birth=b
   ·exact .inr ⟨h1,h2⟩
   ·rw[kQ.2 h1,kQ.2 h2]at e;cases e
 ·rintro⟨y,hy,e⟩;refine⟨y,hy,?_⟩;rcases e with⟨h1,h2⟩ | ⟨h1,h2⟩
  ·rw[h1,kQ.2 h2];simp
  ·rw[h2,kQ.2 h1];simp
theorem Qq{p:Td→Bool}(hp : ∀ a b,bef a b→p b=true→p a=true) : ∀ {A:List Td},A.Pairwise bef→A.takeWhile p=A.filter p∧A.dropWhile p=A.filter (fun x => !p x)
 | [],_=>⟨rfl,rfl⟩
 | a::A,h=>by
  obtain⟨h1,h2⟩:=kh.1 h;obtain⟨i1,i2⟩:=Qq hp h2;by_cases e:p a=true
  ·simp only[List.takeWhile_cons,List.dropWhile_cons,List.filter_cons,e,if_true,i1,i2];simp
  ·have h0 : ∀ y∈A,p y=false:=fun y hy=>by
    cases hy2:p y with
    | false=>rfl
    | true=>exact absurd (hp a y (h1 y hy) hy2) e
   have f1:A.filter p=[]:=Yv.2 (fun y hy=>by rw[h0 y hy];decide);have f2:A.filter (fun x => !p x)=A:=jo.2 (fun y hy=>by rw[h0 y hy];rfl);simp only[Bool.not_eq_true]at e;simp[List.takeWhile_cons,List.dropWhile_cons,List.filter_cons,e,f1,f2]
def kR(tt:Nat)(x:Td):Bool:=decide (x.dl≤tt)&&decide (x.dl≠18446744073709551615)
def ul(tt:Nat)(M:List Td):List Td:=M.takeWhile (kR tt)
def jx(tt:Nat)(M:List Td):List Td:=M.dropWhile (kR tt)
theorem zav(ht:tt≤18446744073709551615)(h:M.Pairwise bef):ul tt M=M.filter (kR tt)∧jx tt M=M.filter (fun x => !kR tt x):=by
 unfold ul jx;refine Qq (fun a b hab h => ?_) h;unfold kR at *;unfold bef at hab;simp at *;omega
theorem zaM{A:List Td}(h:A.Pairwise bef):A.takeWhile (fun x=>decide (x.dl≤tt))=A.filter (fun x=>decide (x.dl≤tt))∧A.dropWhile (fun x=>decide (x.dl≤tt))=A.filter (fun x => !decide (x.dl≤tt)) :=
 Qq (fun a b hab h=>by unfold bef at hab;simp at *;omega) h
theorem yK.exp(h:yK now M)(hn:now≤tt)(ht:tt≤18446744073709551615):Y5 now tt (yn M)=ul tt M∧Ud now tt (yn M)=yn (jx tt M)∧VR now tt=tt∧yK tt (jx tt M):=by
 obtain⟨e1,e2⟩:=zav ht h.ord;have hs:=YK h.ord;have hD:yK tt (jx tt M):=by
  have hsub : ∀ y∈jx tt M,y∈M:=fun y hy=>(List.dropWhile_sublist _).subset hy
  refine⟨h.ord.sublist (List.dropWhile_sublist _),fun a ha b hb=>h.slots a (hsub a ha) b (hsub b hb),fun a ha b hb=>h.births a (hsub a ha) b (hsub b hb),fun a ha => ?_⟩;obtain⟨r1,r2,r3,r4,r5⟩:=h.rng a (hsub a ha);rw[e2]at ha;have:=(qY.1 ha).2;unfold kR at this;simp at this;exact⟨r1,by omega,r3,r4,r5⟩
 refine⟨?_,?_,?_,hD⟩
 ·unfold Y5;by_cases c:now<tt
  ·rw[zj c];unfold Xb;rw[(zaM hs).1,e1];unfold yn;rw[Vw]
   rfl
  ·rw[zh c,e1]
   symm
   rw[Yv];intro x hx;have:=(h.rng x hx).2.1;unfold kR;simp;omega
 ·unfold Ud;by_cases c:now<tt
  ·rw[zj c];unfold J3;rw[(zaM hs).2,e2];unfold yn;rw[Vw,Vw];refine Xs (fun x hx => ?_);unfold kR;by_cases c1:x.dl≤tt<;>by_cases c2:x.dl=18446744073709551615<;>simp[c1,c2]
  ·rw[zh c,e2];unfold yn;rw[Vw];refine Xs (fun x hx => ?_);have:=(h.rng x hx).2.1;unfold kR;by_cases c1:x.dl≤tt<;>by_cases c2:x.dl=18446744073709551615<;>simp[c1,c2];omega
 ·unfold VR;split<;>omega
theorem zl5(h:yK now M):Kv (yn M)=Kv M:=by
 cases M with
 | nil=>rfl
 | cons x M =>
  rw[Kp];by_cases e:x.dl=18446744073709551615
  ·rw[zh (by omega)];have:yn M=[]:=by
    unfold yn;rw[Yv];intro y hy;have h1:=(kh.1 h.ord).1 y hy;have h2:=(h.rng y (yE _ hy)).2.2.1;unfold bef at h1;simp;omega
   rw[this];exact e.symm
  ·rw[zj e]
   rfl
def Zv(tv:List Nat):List Td→List Td→Option (List Td)
 | acc,[]=>some acc
 | acc,x::xs=>match tv[x.slot]? with
  | some t=>if t<4194304∧xH acc t=false then Zv tv (acc++[⟨t,x.dl,x.birth⟩]) xs else none
  | none=>none
def uA(M:List Td):List (Nat × Nat):=M.map (fun x=>(x.dl,x.birth))
theorem zls{A B:List Td}(h:uA A=uA B)(hs:A.Pairwise bef):B.Pairwise bef:=by
 have h1:(uA A).Pairwise (fun a b=>a.1<b.1∨a.1=b.1∧a.2<b.2):=by
  unfold uA;rw[uU];exact hs
 rw[h]at h1;unfold uA at h1;rw[uU]at h1;exact h1
theorem zjM{A B:List Td}(h:uA A=uA B){x:Td}(hx:x∈B) : ∃ y∈A,y.dl=x.dl∧y.birth=x.birth:=by
 have:(x.dl,x.birth)∈uA B:=zI.2 ⟨x,hx,rfl⟩;rw[← h]at this;obtain⟨y,hy,e⟩:=zI.1 this;injection e with e1 e2
 exact⟨y,hy,e1,e2⟩
end
end
section
open Go.RowKit Go.Sort Go.Shelf

end
section
open Go.RowKit
def jI(now:Nat)(ws:List Nat)(bm bb:Nat):List Value := .int .u64 now::((ws.map lkP++List.replicate (8-ws.length) (.pointer none))++[.map (some bm),.map (some bb)])
theorem ze4{now bm bb:Nat}{ws:List Nat}(h:ws.length=8):jI now ws bm bb=Ym now ws bm bb:=by
 unfold jI Ym;rw[h];simp
theorem zeq{now bm bb:Nat}{ws:List Nat}(h:ws.length<8)(q:Nat):(jI now ws bm bb).set (1+ws.length) (lkP q)=jI now (ws++[q]) bm bb:=by
 unfold jI;obtain⟨m,hm⟩ : ∃ m,8-ws.length=m+1:=⟨8-ws.length-1,by omega⟩;have hm2:8-(ws++[q]).length=m:=by simp;omega
 rw[hm,hm2,show 1+ws.length=ws.length+1 from Nat.add_comm _ _,ZR,List.set_append_left _ _ (by simp),XO _ _ (by simp)];simp[List.replicate_succ]
structure NwI(w wr:World)(p now bm bb i:Nat)(ws:List Nat)(Ds:Nat→Nat→Prop):Prop where
 box:wr.heap[p]? = some (.cells (jI now ws bm bb).toArray 267 (0,0))
 len:ws.length=i
 what:yJ wr bm [] (.map [])
 births:xG wr bb [] (.map [])
 lev : ∀(l q:Nat),ws[l]? = some q→yM wr (Ds l) q (List.replicate 256 [])
 apart : ∀ l l' k,l<i→l'<i→l≠l'→Ds l k → ¬ Ds l' k
 own : ∀ l k,l<i→Ds l k→p<k∧k<wr.heap.size
 ge:w.heap.size≤p∧w.heap.size≤bm∧w.heap.size≤bb∧bm<p∧bb<p∧bm≠bb
 pure:zb w wr
theorem NwI.step{w wr w2:World}{p now bm bb i q:Nat}{ws:List Nat}{Ds:Nat→Nat→Prop}{D2:Nat→Prop}(h:NwI w wr p now bm bb i ws Ds)(hi:i<8)(hw:yM w2 D2 q (List.replicate 256 []))(hp:zb wr w2)(hf : ∀ k,D2 k→wr.heap.size≤k) :
  NwI w (w2.setCell ⟨p,1+i,none⟩ (lkP q)) p now bm bb (i+1) (ws++[q]) (kV Ds i D2):=by
 have hm:Mod (fun k=>k=p) w2 (w2.setCell ⟨p,1+i,none⟩ (lkP q)):=(Mod.refl (fun k=>k=p) w2).setCell (p:=⟨p,1+i,none⟩) (fun _=>rfl) _;have hplt:=zm h.box;have hle:=hp.size;have hle2:=hm.size;obtain⟨g1,g2,g3,g4,g5,g6⟩:=h.ge;have hb2:=hp.heap (fun h=>h) h.box;refine⟨?_,by rw[zT,h.len];rfl,(h.what.mod hp (fun h=>h)).mod hm (by show ¬ bm=p;omega),(h.births.mod hp (fun h=>h)).mod hm (by show ¬ bb=p;omega),fun l q' hq => ?_,fun l l' k hl hl' hne hk => ?_,fun l k hl hk => ?_,h.ge,h.pure.trans hp |>.then hm (fun k hk e=>by omega)⟩
 ·rw[zX w2 p (1+i) _ _ (lkP q) hb2,← zeq (by rw[h.len];exact hi),h.len]
  congr 2
  exact Yh ..
 ·unfold kV;by_cases e:l=i
  ·subst e;rw[zj rfl];rw[jn (by rw[h.len];exact zN _),h.len,Y9]at hq
   cases hq
   exact hw.frame hm (fun k hk e=>by have:=hf k hk;omega)
  ·rw[zh e];have hl:l<ws.length:=by
    have:=(zE.1 hq).1;rw[zT]at this;have hln:=h.len;simp at this;omega
   rw[uw hl]at hq;exact((h.lev l q' hq).pure hp).frame hm (fun k hk e=>by have:=(h.own l k (by rw[← h.len];exact hl) hk).1;omega)
 ·unfold kV at hk ⊢;by_cases e:l=i
  ·rw[zj e]at hk;rw[zh (by omega)];intro hk3;have:=(h.own l' k (by omega) hk3).2;have:=hf k hk;omega
  ·rw[zh e]at hk;by_cases e3:l'=i
   ·rw[zj e3];intro hk3;have:=(h.own l k (by omega) hk).2;have:=hf k hk3;omega
   ·rw[zh e3];exact h.apart l l' k (by omega) (by omega) hne hk
 ·unfold kV at hk;by_cases e:l=i
  ·rw[zj e]at hk;have h1:=hf k hk;have h2:=hw.lt hk;exact⟨by omega,by omega⟩
  ·rw[zh e]at hk;have:=h.own l k (by omega) hk;exact⟨this.1,by omega⟩
theorem NwI.fin{w wr:World}{p now bm bb:Nat}{ws:List Nat}{Ds:Nat→Nat→Prop}(h:NwI w wr p now bm bb 8 ws Ds)(hn:now<18446744073709551616) : ∃ D,yo wr D p now [] ∧ ∀ k,D k→w.heap.size≤k:=by
 obtain⟨g1,g2,g3,g4,g5,g6⟩:=h.ge;refine⟨fun k=>k=p∨k=bm∨k=bb ∨ ∃ l,l<8∧Ds l k,⟨ws,bm,bb,Ds,.map [],.map [],List.replicate 8 (List.replicate 256 []),⟨⟨?_,h.len,hn⟩,h.what,h.births,vz,fun l q Ls hq hL => ?_,h.apart,fun l k hl hk => ?_,⟨g6,by omega,by omega⟩,fun k=>xZ⟩,ye.new now,List.Pairwise.nil⟩,fun k hk => ?_⟩
 ·rw[← ze4 h.len];exact h.box
 ·rw[vU]at hL;split at hL
  ·cases hL;exact h.lev l q hq
  ·cases hL
 ·have:=(h.own l k hl hk).1;exact⟨by omega,by omega,by omega⟩
 ·rcases hk with rfl | rfl | rfl | ⟨l,hl,hk⟩
  ·exact g1
  ·exact g2
  ·exact g3
  ·have:=(h.own l k hl hk).1;omega
theorem NwI.cell{w wr w2:World}{p now bm bb i:Nat}{ws:List Nat}{Ds:Nat→Nat→Prop}(h:NwI w wr p now bm bb i ws Ds)(hi:i<8)(hp:zb wr w2):w2.cell? ⟨p,1+i,none⟩=some (.pointer none)∧(∀ j,w2.frozen? ⟨p,j,none⟩=false)∧p<w2.heap.size:=by
 have hb2:=hp.heap (fun h=>h) h.box;refine⟨?_,fun j=>yS w2 p j _ _ hb2,zm hb2⟩;rw[zi w2 p (1+i) _ _ (0,0) hb2,vK];unfold jI;have hl:=h.len;rw[show 1+i=i+1 from Nat.add_comm _ _,XB,uw (by simp;omega),jn (by simp;omega),vU,zj (by simp;omega)]
theorem zlb(w:World){now:Nat}(hn:now<18446744073709551616):Calls prog 103 #[.int .u64 now] w fun e w' => ∃ p D,e=.returned (lkP p)∧yo w' D p now []∧zb w w' ∧ ∀ k,D k→w.heap.size≤k:=by
 have t0:=yJ.new w;have a1:zb w (w.alloc (.map #[] 0)):=(Mod.refl _ w).alloc _;have a2:zb (w.alloc (.map #[] 0)) ((w.alloc (.map #[] 0)).alloc (.map #[] 0)):=(Mod.refl _ _).alloc _;have b0:=xG.new (w.alloc (.map #[] 0));have hs:(w.alloc (.map #[] 0)).heap.size=w.heap.size+1:=by simp
 have hs2:((w.alloc (.map #[] 0)).alloc (.map #[] 0)).heap.size=w.heap.size+2:=by simp
 have a3:zb ((w.alloc (.map #[] 0)).alloc (.map #[] 0)) (((w.alloc (.map #[] 0)).alloc (.map #[] 0)).alloc (.cells (jI now [] w.heap.size (w.heap.size+1)).toArray 267)):=(Mod.refl _ _).alloc _;have hI:NwI w (((w.alloc (.map #[] 0)).alloc (.map #[] 0)).alloc (.cells (jI now [] w.heap.size (w.heap.size+1)).toArray 267)) (w.heap.size+1+1) now w.heap.size (w.heap.size+1) 0 [] (fun _ _=>False) :=
  ⟨zk hs2.symm,rfl,(t0.mod a2 (fun h=>h)).mod a3 (fun h=>h),by have:=b0.mod a3 (fun h=>h);rw[hs]at this;exact this,(fun l q h=>by cases h),(fun l l' k h=>by omega),(fun l k h=>by omega),⟨by omega,by omega,by omega,by omega,by omega,by omega⟩,(a1.trans a2).trans a3⟩
 have HI:=za hI;have HN:=za hn;clear t0 a1 a2 b0 hs hs2 a3 hI;have hmm := @run_makeMap prog;unfold jI at HI;simp at HI;go_enter func103,ntmps103;go_upto_region 3 with fail
 generalize((w.alloc (.map #[] 0)).alloc (.map #[] 0)).alloc (.cells #[.int .u64 now,.pointer none,.pointer none,.pointer none,.pointer none,.pointer none,.pointer none,.pointer none,.pointer none,.map (some w.heap.size),.map (some (w.heap.size+1))] 267)=W at *;obtain⟨b,hb⟩:=zf w.heap.size;simp only[hb]at HI ⊢;go_loopw [10] (fun v10 wr => ∃(i:Nat) (ws:List Nat) (Ds:Nat→Nat→Prop),v10=.int .i64 (i:Nat)∧i≤8∧NwI w wr (b+1+1) now b (b+1) i ws Ds) (fun v10 _=>8-(intOf v10).toNat)
 case atStart=>exact⟨0,[],_,rfl,yq _,HI.out⟩
 case round =>
  obtain⟨i,ws,Ds,rfl,hi,hI⟩:=hrel;have HIr:=za hI;by_cases hlt:i<8
  ·have hlt':(i:Int)<8:=by omega
   have i0:(0:Int)≤(i:Int):=by omega
   have wi:IntKind.i64.wrap ((i:Int)+1)=(i:Int)+1:=zt _ (by omega);have dl8:decide (i<8)=true:=zQ hlt;have hW:=zgO;have HW:=za hW;have hbx:=hI.box;have hfz:=fun j=>yS wr (b+1+1) j _ _ hbx
   have hcl:=zm hbx;clear hI hW hbx;go_upto_region 5 with fail
   go_region_held3 (fun _=>True) (trivial)
    (first | (go_at_call 160;refine(HW.out _).mono ?_;rintro e w2 ⟨q,D2,rfl,hw2,hp2,hf2⟩;obtain⟨z1,z2,z3⟩:=HIr.out.cell hlt (w2:=w2) (by first | exact hp2 | exact Mod.of_drew hp2)))
   have hst:=HIr.out.step hlt hw2 (by first | exact hp2 | exact Mod.of_drew hp2) (by exact hf2);have HSt:=za hst;clear hw2 hp2 hf2 hst;go_wp2;go_roundw
   case rel=>exact⟨i+1,ws++[q],_,by go_num,hlt,HSt.out⟩
   case measure=>simp[intOf];omega
  ·have e:i=8:=by omega
   subst e;obtain⟨D,hD,hge⟩:=HIr.out.fin HN.out;have hp:=HIr.out.pure;clear hI;go_wp2;go_ret;exact⟨b+1+1,D,rfl,hD,hp,hge⟩
section
variable{P:Program}{k:TypeId}{R:Value→Option (DataW Unit × List MemPlace)}{w w':World}{b r n:Nat}{D:DataW Unit}{left:Lit→Bool}{cnt:Nat}{S:Nat→Prop}
theorem zmb(h:w.ranges P k R b r n D left cnt)(hm:Mod S w w')(hb : ¬ S b)(hr : ¬ S r):w'.ranges P k R b r n D left cnt:=by
 obtain⟨es,clock,since,seen,c0,h1,h2,h3,h4,h5,h6⟩:=h;exact⟨es,clock,since,seen,c0,hm.heap hb h1,h2,h3,h4,hm.heap hr h5,h6⟩
end
theorem zmm{x:Int}{kl:Lit}(h:keyOf prog 89 (.int .u32 x)=some kl) : ∃ s:Nat,x=s∧kl=kS s∧s≤4294967295:=by
 obtain⟨y,e1,e2,e3⟩:=Maps.keyOf_int_inv underlying89 h;injection e1 with _ e1
 subst e1;have:0≤x∧x≤4294967295:=by simp[Lit.wf,IntKind.min,IntKind.max,IntKind.signed,IntKind.bits]at e3;omega
 refine⟨x.toNat,by omega,?_,by omega⟩;rw[e2];unfold kS;rw[show((x.toNat:Nat):Int)=x by omega]
theorem zlV(a b:Nat):(kS a).sameKey (kS b)=decide (a=b):=by
 unfold kS;simp[Lit.sameKey];omega
section
variable{w w':World}{D:Nat→Prop}{p now tt:Nat}{ws:List Nat}{bm bb:Nat}{Ds:Nat→Nat→Prop}{Dm Db:DataW Unit}{M L:List Td}{Lss:List (List (List Nat))}
structure CpI(w wr:World)(L:List Td)(bm rb n:Nat)(Dm:DataW Unit)(left:Lit→Bool)(cnt:Nat)(p2 now:Nat)(D2:Nat→Prop)(M2:List Td):Prop where
 rg:wr.ranges prog 89 kJ bm rb n Dm left cnt
 has : ∀ kl,left kl=true→Maps.has Dm kl=true
 mem : ∃ ws bm' bb' Ds Dm' Db' Lss,yr wr D2 p2 now ws bm' bb' Ds Dm' Db' M2 Lss∧ye now M2 (fun _=>False) Lss
 sub : ∀ x∈M2,x∈L
 todo : ∀ x∈L,left (kS x.slot)=true↔x∉M2
 fresh : ∀ k,D2 k→w.heap.size≤k
 rb2 : ¬ D2 rb
 pure:zb w wr
end
end
section
open Go.RowKit Go.Shelf
section
variable{w w':World}{D:Nat→Prop}{p now q bb bs:Nat}{Dc:Nat→Prop}{Db Ds:DataW Unit}{M L:List Td}
theorem yK.nd(h:yK now M):M.Nodup:=h.ord.imp (fun {a b} k e=>by subst e;exact XW k k)
theorem yK.count(h:yK now M):M.length≤4194304:=by
 have h1:(M.map (fun x=>x.slot)).Nodup:=by
  unfold List.Nodup;rw[uU];exact List.Pairwise.imp_of_mem (fun {a b} ha hb hne e=>hne (h.slots a ha b hb e)) h.nd
 have:=qG (N:=4194304) h1 (fun s hs=>by
  obtain⟨x,hx,rfl⟩:=zI.1 hs;exact(h.rng x hx).1)
 simpa using this
theorem yK.sub(h:yK now M){M2:List Td}(hn:M2.Nodup)(hs : ∀ x∈M2,x∈M):M2.length≤4194304:=by
 have h1:(M2.map (fun x=>x.slot)).Nodup:=by
  unfold List.Nodup;rw[uU];exact List.Pairwise.imp_of_mem (fun {a b} ha hb hne e=>hne (h.slots a (hs a ha) b (hs b hb) e)) hn
 have:=qG (N:=4194304) h1 (fun s hx=>by
  obtain⟨x,k,rfl⟩:=zI.1 hx;exact(h.rng x (hs x k)).1)
 simpa using this
end
section
variable{w w':World}{D:Nat→Prop}{p now q bb bs:Nat}{Dc:Nat→Prop}{Db Ds:DataW Unit}{M L:List Td}
def yf(w:World)(D:Nat→Prop)(p now:Nat)(M:List Td):Prop :=
 ∃ q bb bs Dc Db Ds,yW w D p now q bb bs Dc Db Ds M (yn M)∧yK now M
theorem yf.frame{S:Nat→Prop}(h:yf w D p now M)(hm:Mod S w w')(hd : ∀ k,D k → ¬ S k):yf w' D p now M:=by
 obtain⟨q,bb,bs,Dc,Db,Ds,h1,h2⟩:=h;exact⟨q,bb,bs,Dc,Db,Ds,h1.frame hm hd,h2⟩
theorem yf.pure(h:yf w D p now M)(hm:zb w w'):yf w' D p now M:=h.frame hm (fun _ _ h=>h)
theorem yf.lt(h:yf w D p now M){k:Nat}(hk:D k):k<w.heap.size:=by
 obtain⟨q,bb,bs,Dc,Db,Ds,h1,h2⟩:=h;exact h1.lt hk
theorem yf.self(h:yf w D p now M):D p:=by
 obtain⟨q,bb,bs,Dc,Db,Ds,h1,h2⟩:=h;exact(h1.dd p).2 (.inl rfl)
theorem yf.law(h:yf w D p now M):yK now M:=by
 obtain⟨q,bb,bs,Dc,Db,Ds,h1,h2⟩:=h;exact h2
theorem yf.now64(h:yf w D p now M):now<18446744073709551616:=by
 obtain⟨q,bb,bs,Dc,Db,Ds,h1,h2⟩:=h;exact h1.cas.now64
theorem yK.nil(now:Nat):yK now []:=⟨List.Pairwise.nil,(fun x hx=>by cases hx),(fun x hx=>by cases hx),(fun x hx=>by cases hx)⟩
theorem zi3(w:World){now:Nat}(hn:now<18446744073709551616):Calls prog 59 #[.int .u64 now] w fun e w' => ∃ p D,e=.returned (lkP p)∧yf w' D p now []∧zb w w' ∧ ∀ k,D k→w.heap.size≤k:=by
 have HN:=za (fun W=>zlb W hn);have hmm := @run_makeMap prog;go_enter func59,ntmps59
 go_wp2_with (go_at_call 103;refine(HN.out _).mono ?_;rintro e w1 ⟨q,Dc,rfl,hc,hp,hf⟩)
 have a1:zb w1 (w1.alloc (.map #[] 0)):=(Mod.refl _ w1).alloc _;have a2:zb (w1.alloc (.map #[] 0)) ((w1.alloc (.map #[] 0)).alloc (.map #[] 0)):=(Mod.refl _ _).alloc _;have hs1:(w1.alloc (.map #[] 0)).heap.size=w1.heap.size+1:=by simp
 have hs2:((w1.alloc (.map #[] 0)).alloc (.map #[] 0)).heap.size=w1.heap.size+2:=by simp
 have t1:=xP.new w1;have t2:=yJ.new (w1.alloc (.map #[] 0));rw[hs1]at t2;have a3:zb ((w1.alloc (.map #[] 0)).alloc (.map #[] 0)) (((w1.alloc (.map #[] 0)).alloc (.map #[] 0)).alloc (.cells #[lkP q,.map (some w1.heap.size),.map (some (w1.heap.size+1))] 188)):=(Mod.refl _ _).alloc _;have hlt:=fun k (hk:Dc k)=>hc.lt hk
 have hsz:=hp.size;have hfin:yf (((w1.alloc (.map #[] 0)).alloc (.map #[] 0)).alloc (.cells #[lkP q,.map (some w1.heap.size),.map (some (w1.heap.size+1))] 188)) (fun k=>k=w1.heap.size+2∨k=w1.heap.size∨k=w1.heap.size+1∨Dc k) (w1.heap.size+2) now [] :=
  ⟨q,w1.heap.size,w1.heap.size+1,Dc,_,_,⟨zk hs2.symm,((hc.pure a1).pure a2).pure a3,(t1.mod a2 (fun h=>h)).mod a3 (fun h=>h),t2.mod a3 (fun h=>h),fun e=>by have:=hlt _ e;omega,fun e=>by have:=hlt _ e;omega,fun e=>by have:=hlt _ e;omega,⟨by omega,by omega,by omega⟩,fun k=>xZ⟩,yK.nil _⟩
 have hpp:=((hp.trans a1).trans a2).trans a3;go_ret;refine⟨w1.heap.size+2,_,rfl,hfin,hpp,fun k hk => ?_⟩;rcases hk with rfl | rfl | rfl | e
 ·omega
 ·omega
 ·omega
 ·exact hf k e
end
section
variable{w w':World}{D:Nat→Prop}{p now q bb bs:Nat}{Dc:Nat→Prop}{Db Ds:DataW Unit}{M L:List Td}
theorem yW.off0(h:yW w D p now q bb bs Dc Db Ds M L){k:Nat}(hk:k≥w.heap.size) : ¬ D k:=fun e=>by have:=h.lt e;omega
theorem yW.cascade(h:yW w D p now q bb bs Dc Db Ds M L){Dc':Nat→Prop}{now':Nat}{L':List Td}(hc:yo w' Dc' q now' L')(hg:zZ Dc Dc' w)(hm:Mod Dc w w') :
  ∃ D',yW w' D' p now' q bb bs Dc' Db Ds M L'∧zZ D D' w:=by
 have n1 : ¬ Dc' p:=fun e=>by rcases hg p e with e | e;exact h.np e;have:=h.lt ((h.dd p).2 (.inl rfl));omega
 have n2 : ¬ Dc' bb:=fun e=>by rcases hg bb e with e | e;exact h.nbb e;have:=h.lt ((h.dd bb).2 (.inr (.inl rfl)));omega
 have n3 : ¬ Dc' bs:=fun e=>by rcases hg bs e with e | e;exact h.nbs e;have:=h.lt ((h.dd bs).2 (.inr (.inr (.inl rfl))));omega
 refine⟨fun k=>k=p∨k=bb∨k=bs∨Dc' k,⟨hm.heap h.np h.box,hc,h.births.mod hm h.nbb,h.slots.mod hm h.nbs,n1,n2,n3,h.ne,fun k=>xZ⟩,fun k hk => ?_⟩;rcases hk with rfl | rfl | rfl | e
 ·exact .inl ((h.dd k).2 (.inl rfl))
 ·exact .inl ((h.dd k).2 (.inr (.inl rfl)))
 ·exact .inl ((h.dd k).2 (.inr (.inr (.inl rfl))))
 ·rcases hg k e with e | e
  ·exact .inl ((h.dd k).2 (.inr (.inr (.inr e))))
  ·exact .inr e
end
section
variable{w w':World}{D:Nat→Prop}{p now q bb bs:Nat}{Dc:Nat→Prop}{Db Ds:DataW Unit}{M L:List Td}
theorem zag(h:yW w D p now q bb bs Dc Db Ds M L){x:Td}{M':List Td}(hx:x∈M)(hs:x.slot≤4294967295)(hb:x.birth≤18446744073709551615)(hM : ∀ y,y∈M'↔y∈M∧y.slot≠x.slot)(hM2 : ∀ y,y∈M'↔y∈M∧y.birth≠x.birth)(hl:M'.length+1=M.length) :
  Calls prog 127 #[lkP p,tdV x] w fun e w'=>e=.returned (.tuple #[])∧(∃ D' Dc' Db' Ds',yW w' D' p now q bb bs Dc' Db' Ds' M' (vq L x.slot)∧zZ D D' w)∧Mod D w w':=by
 have hal:zb w (w.alloc (.cells #[.int .u32 x.slot,.int .u64 x.dl,.int .u64 x.birth] 198)):=(Mod.refl _ w).alloc _;have h3:=zk (w:=w) (o := .cells #[.int .u32 x.slot,.int .u64 x.dl,.int .u64 x.birth] 198 (0,0)) rfl;have hD3 : ¬ D w.heap.size:=h.off0 (zN _);have HC:=za (h.pure hal);have HCn:=za (((h.pure hal).pure ((Mod.refl _ _).drew:zb _ (w.alloc (.cells #[.int .u32 x.slot,.int .u64 x.dl,.int .u64 x.birth] 198)).drew)).cas.cancel hs);have HX:=za hx;have HM:=za hM;have HM2:=za hM2;have HAL:=za hal;have HDD:=za h.dd;have hsz:w.heap.size≤(w.alloc (.cells #[.int .u32 x.slot,.int .u64 x.dl,.int .u64 x.birth] 198)).heap.size:=hal.size;obtain⟨ne1,ne2,ne3⟩:=h.ne;clear h hx hM hM2 hal;unfold tdV;go_enter func127,ntmps127;go_upto_region 1 with fail
 generalize w.alloc (.cells #[.int .u32 x.slot,.int .u64 x.dl,.int .u64 x.birth] 198)=W1 at *;obtain⟨b3,hb3⟩:=zf w.heap.size;rw[hb3]at h3 hD3 ⊢;clear hb3;obtain⟨c0,c1,c2⟩:=HC.out.cells;have H3:=za h3;obtain⟨h3_0,h3_1,h3_2,h3_f,h3_l,H_h3⟩:=cr3 h3;clear h3
 go_still_tail 6,(by kernel_rfl)
 go_upto_region 2 with(go_at_call 182;refine HCn.out.mono ?_;rintro e w2 ⟨rfl,⟨Dc2,hc2,hg2⟩,hm2⟩)
 have hm2':Mod Dc W1 w2:=Mod.of_drew hm2;have hg2':zZ Dc Dc2 W1:=hg2;obtain⟨D2,hD2,hgD⟩:=HC.out.cascade hc2 hg2' hm2';have n3:b3≠p∧b3≠bb∧b3≠bs ∧ ¬ Dc b3:=⟨fun e=>hD3 ((HDD.out b3).2 (.inl e)),fun e=>hD3 ((HDD.out b3).2 (.inr (.inl e))),fun e=>hD3 ((HDD.out b3).2 (.inr (.inr (.inl e)))),fun e=>hD3 ((HDD.out b3).2 (.inr (.inr (.inr e))))⟩;have h32:=hm2'.heap n3.2.2.2 H3.out;have HD2:=za hD2;have HGD:=za hgD;have HM2':=za (hm2'.mono (fun k _ hk=>(HDD.out k).2 (.inr (.inr (.inr hk)))):Mod D W1 w2);have H32:=za h32;clear h3_0 h3_1 h3_2 h3_f h3_l;clear H_h3 hm2 hm2' hg2 hg2' hD2 hgD hc2 HCn c0 c1 c2;obtain⟨c0,c1,c2⟩:=HD2.out.cells;obtain⟨h32_0,h32_1,h32_2,h32_f,h32_l,H_h32⟩:=cr3 h32;clear h32
 go_still_tail 6,(by kernel_rfl)
 go_upto_region 3 with(at_delete;refine Yw _ rfl _ _ 162 27 rfl 89 kC underlying162 Zo bb M.length Db rfl HD2.out.births.own.drew (.int .u64 x.birth) (kB x.birth) rfl (qK hb) ?_;intro w3 ho3 ht3;go_frame)
 have hm3:Mod (fun k=>k=bb) w2 w3:=Mod.of_drew (Mod.of_grown ht3.grown (fun k e _=>by cases e;rfl));have hN3:=HD2.out.births.del HX.out HM2.out hl ho3;have hbx3:=hm3.heap (fun e=>ne1 e) HD2.out.box;have hT3:=HD2.out.slots.mod hm3 (fun e=>ne3 e.symm);have hc3:=HD2.out.cas.frame hm3 (fun k hk e=>HD2.out.nbb (e ▸ hk));have h33:=hm3.heap n3.2.1 H32.out;have HM3:=za hm3;have HN3:=za hN3;have HBX3:=za hbx3;have HT3:=za hT3;have HC3:=za hc3;have H33:=za h33;clear h32_0 h32_1 h32_2 h32_f h32_l;clear H_h32 c0 c1 c2 ho3 ht3 hm3 hN3 hT3 hc3;have c0:w3.cell? ⟨p,0,none⟩=some (lkP q):=by rw[zi _ _ 0 _ _ _ hbx3];rfl
 have c2:w3.cell? ⟨p,2,none⟩=some (.map (some bs)):=by rw[zi _ _ 2 _ _ _ hbx3];rfl
 clear hbx3;obtain⟨h33_0,h33_1,h33_2,h33_f,h33_l,H_h33⟩:=cr3 h33;clear h33
 go_still_tail 6,(by kernel_rfl)
 go_wp2_with (at_delete;refine Yw _ rfl _ _ 186 89 rfl 198 x9 underlying186 kJ bs M.length Ds rfl HT3.out.own.drew (.int .u32 x.slot) (kS x.slot) rfl (uq hs) ?_;intro w4 ho4 ht4;go_frame)
 have hm4:Mod (fun k=>k=bs) w3 w4:=Mod.of_drew (Mod.of_grown ht4.grown (fun k e _=>by cases e;rfl));have hT4:=HT3.out.del HX.out HM.out hl ho4;have hfin:yW w4 D2 p now q bb bs Dc2 (Db.del (kB x.birth)) (Ds.del (kS x.slot)) M' (vq L x.slot):=⟨hm4.heap (fun e=>ne2 e) HBX3.out,HC3.out.frame hm4 (fun k hk e=>HD2.out.nbs (e ▸ hk)),HN3.out.mod hm4 (fun e=>ne3 e),hT4,HD2.out.np,HD2.out.nbb,HD2.out.nbs,HD2.out.ne,HD2.out.dd⟩;have hmo:Mod D w w4:=((HAL.out.mono (fun _ _ h=>h.elim):Mod D w W1).trans HM2'.out).trans ((HM3.out.mono (fun k _ hk=>by rw[hk];exact(HDD.out bb).2 (.inr (.inl rfl))):Mod D w2 w3).trans (hm4.mono (fun k _ hk=>by rw[hk];exact(HDD.out bs).2 (.inr (.inr (.inl rfl))))))
 go_end0
 exact⟨rfl,⟨_,_,_,_,hfin,fun k hk=>by
  rcases HGD.out k hk with e | e
  ·exact .inl e
  ·exact .inr (zF HAL.out.size e)⟩,hmo⟩
end
section
variable{w w':World}{D:Nat→Prop}{p now q bb bs:Nat}{Dc:Nat→Prop}{Db Ds:DataW Unit}{M L:List Td}
theorem zjL(h:yW w D p now q bb bs Dc Db Ds M L){x:Td}(hs:x.slot<4194304)(hd:x.dl=18446744073709551615)(hb:x.birth≤18446744073709551615)(h1 : ∀ y∈M,y.slot≠x.slot)(h2 : ∀ y∈M,y.birth≠x.birth)(hMl:M.length<maxLen) :
  Calls prog 150 #[lkP p,tdV x] w fun e w'=>e=.returned (.tuple #[])∧(∃ Db' Ds',yW w' D p now q bb bs Dc Db' Ds' (x::M) L)∧Mod D w w':=by
 have hal:zb w (w.alloc (.cells #[.int .u32 x.slot,.int .u64 x.dl,.int .u64 x.birth] 198)):=(Mod.refl _ w).alloc _;have h3:=zk (w:=w) (o := .cells #[.int .u32 x.slot,.int .u64 x.dl,.int .u64 x.birth] 198 (0,0)) rfl;have hD3 : ¬ D w.heap.size:=fun e=>by have:=h.lt e;omega
 have HC:=za (h.pure hal);have H1:=za h1;have H2:=za h2;have HAL:=za hal;have HDD:=za h.dd;have e0:((x.dl:Int)==18446744073709551615)=true:=by simp;omega
 clear hd;obtain⟨ne1,ne2,ne3⟩:=h.ne;clear h h1 h2 hal;unfold tdV;go_enter func150,ntmps150;go_upto_region 1 with fail
 generalize w.alloc (.cells #[.int .u32 x.slot,.int .u64 x.dl,.int .u64 x.birth] 198)=W1 at *;obtain⟨b3,hb3⟩:=zf w.heap.size;rw[hb3]at h3 hD3 ⊢;clear hb3;obtain⟨c0,c1,c2⟩:=HC.out.cells;have H3:=za h3;obtain⟨h3_0,h3_1,h3_2,h3_f,h3_l,H_h3⟩:=cr3 h3;clear h3;go_upto_region 3 with fail
 refine qU (S:=fun u=>(u.cell? ⟨p,1,none⟩=some (.map (some bb))∧u.cell? ⟨p,2,none⟩=some (.map (some bs)))∧u.cell? ⟨b3,0,none⟩=some (.int .u32 x.slot)∧u.cell? ⟨b3,1,none⟩=some (.int .u64 x.dl)∧u.cell? ⟨b3,2,none⟩=some (.int .u64 x.birth)) (by kernel_rfl) ⟨⟨c1,c2⟩,h3_0,h3_1,h3_2⟩ (fun h_ => ?_);refine hTk 0 ?_;refine hTk 1 ?_;refine hTk 2 ?_
 ((refine kZ (i:=3) (v := ?_) rfl (by kernel_rfl) (by kernel_rfl) (by kernel_rfl) (fun _ _ _ h=>h) (Or.inl ⟨by rfl,?_⟩) h_ ?_;rotate_left 1;focus(intro w hS;obtain⟨⟨s1,s2⟩,s3,s4,s5⟩:=hS;go_simp;try with_reducible rfl));try simp only[Act.put,List.getElem_toArray,List.getElem_cons_zero,List.getElem_cons_succ,List.setIfInBounds_toArray,List.set_cons_zero,List.set_cons_succ])
 refine hTk 4 ?_
 ((refine kZ (i:=5) (v := ?_) rfl (by kernel_rfl) (by kernel_rfl) (by kernel_rfl) (fun _ _ _ h=>h) (Or.inl ⟨by rfl,?_⟩) h_ ?_;rotate_left 1;focus(intro w hS;obtain⟨⟨s1,s2⟩,s3,s4,s5⟩:=hS;go_simp;try with_reducible rfl));try simp only[Act.put,List.getElem_toArray,List.getElem_cons_zero,List.getElem_cons_succ,List.setIfInBounds_toArray,List.set_cons_zero,List.set_cons_succ])
 refine hTk 6 ?_;refine hTk 7 ?_;refine hTk 8 ?_
 ((refine kZ (i:=9) (v := ?_) rfl (by kernel_rfl) (by kernel_rfl) (by kernel_rfl) (fun _ _ _ h=>h) (Or.inl ⟨by rfl,?_⟩) h_ ?_;rotate_left 1;focus(intro w hS;obtain⟨⟨s1,s2⟩,s3,s4,s5⟩:=hS;go_simp;try with_reducible rfl));try simp only[Act.put,List.getElem_toArray,List.getElem_cons_zero,List.getElem_cons_succ,List.setIfInBounds_toArray,List.set_cons_zero,List.set_cons_succ])
 refine hTk 10 ?_
 ((refine kZ (i:=11) (v := ?_) rfl (by kernel_rfl) (by kernel_rfl) (by kernel_rfl) (fun _ _ _ h=>h) (Or.inl ⟨by rfl,?_⟩) h_ ?_;rotate_left 1;focus(intro w hS;obtain⟨⟨s1,s2⟩,s3,s4,s5⟩:=hS;go_simp;try with_reducible rfl));try simp only[Act.put,List.getElem_toArray,List.getElem_cons_zero,List.getElem_cons_succ,List.setIfInBounds_toArray,List.set_cons_zero,List.set_cons_succ])
 refine hTk 12 ?_
 ((refine kZ (i:=13) (v := ?_) rfl (by kernel_rfl) (by kernel_rfl) (by kernel_rfl) (fun _ _ _ h=>h) (Or.inl ⟨by rfl,?_⟩) h_ ?_;rotate_left 1;focus(intro w hS;obtain⟨⟨s1,s2⟩,s3,s4,s5⟩:=hS;go_simp;try with_reducible rfl));try simp only[Act.put,List.getElem_toArray,List.getElem_cons_zero,List.getElem_cons_succ,List.setIfInBounds_toArray,List.set_cons_zero,List.set_cons_succ])
 ((refine kZ (i:=14) (v := ?_) rfl (by kernel_rfl) (by kernel_rfl) (by kernel_rfl) (fun _ _ _ h=>h) (Or.inl ⟨by rfl,?_⟩) h_ ?_;rotate_left 1;focus(intro w hS;obtain⟨⟨s1,s2⟩,s3,s4,s5⟩:=hS;go_simp;try with_reducible rfl));try simp only[Act.put,List.getElem_toArray,List.getElem_cons_zero,List.getElem_cons_succ,List.setIfInBounds_toArray,List.set_cons_zero,List.set_cons_succ])
 obtain⟨v0,st,Wa,o1,hE,hA,hgA,hS⟩:=Vt HC.out.births.own.drew kC underlying162 UE hMl (qK hb);have hmA:Mod (fun k=>k=bb) W1 Wa:=Mod.of_drew (Mod.of_grown hgA (fun k e _=>by cases e;rfl));obtain⟨Wb,hEb,hownB,hgB⟩:=hS Wa (.int .u32 x.slot) _ _ hA (Ut _);have hmB:Mod (fun k=>k=bb) W1 Wb:=hmA.trans (Mod.of_grown hgB (fun k e _=>by cases e;rfl));have hN:=HC.out.births.put H2.out hownB;have hT:=HC.out.slots.mod hmB (fun e=>ne3 e.symm);obtain⟨v1,st2,Wc,o2,hEc,hC2,hgC,hS2⟩:=Vt hT.own x9 underlying186 Xk hMl (uq (by omega:x.slot≤4294967295));have hmC:Mod (fun k=>k=bb∨k=bs) W1 Wc:=(hmB.mono (fun _ _ h => .inl h)).trans (Mod.of_grown hgC (fun k e _=>by cases e;exact .inr rfl));obtain⟨Wd,hEd,hownD,hgD⟩:=hS2 Wc (tdV x) _ _ hC2 (YD x);unfold tdV at hEd;have hmD:Mod (fun k=>k=bb∨k=bs) W1 Wd:=hmC.trans (Mod.of_grown hgD (fun k e _=>by cases e;exact .inr rfl));have hmBD:Mod (fun k=>k=bs) Wb Wd:=(Mod.of_grown hgC (fun k e _=>by cases e;rfl)).trans (Mod.of_grown hgD (fun k e _=>by cases e;rfl));have n3:b3≠bb∧b3≠bs:=⟨fun e=>hD3 ((HDD.out b3).2 (.inr (.inl e))),fun e=>hD3 ((HDD.out b3).2 (.inr (.inr (.inl e))))⟩;have hK : ∀ u,Mod (fun k=>k=bb∨k=bs) W1 u→(u.cell? ⟨p,1,none⟩=some (.map (some bb))∧u.cell? ⟨p,2,none⟩=some (.map (some bs)))∧u.cell? ⟨b3,0,none⟩=some (.int .u32 x.slot)∧u.cell? ⟨b3,1,none⟩=some (.int .u64 x.dl)∧u.cell? ⟨b3,2,none⟩=some (.int .u64 x.birth):=fun u hu =>
  ⟨⟨hu.cell (a:=⟨p,1,none⟩) (fun e=>by rcases e with e | e;exact ne1 e;exact ne2 e) c1,hu.cell (a:=⟨p,2,none⟩) (fun e=>by rcases e with e | e;exact ne1 e;exact ne2 e) c2⟩,hu.cell (a:=⟨b3,0,none⟩) (fun e=>by rcases e with e | e;exact n3.1 e;exact n3.2 e) h3_0,hu.cell (a:=⟨b3,1,none⟩) (fun e=>by rcases e with e | e;exact n3.1 e;exact n3.2 e) h3_1,hu.cell (a:=⟨b3,2,none⟩) (fun e=>by rcases e with e | e;exact n3.1 e;exact n3.2 e) h3_2⟩
 have gA:=hK Wa (hmA.mono (fun _ _ h => .inl h));have gB:=hK Wb (hmB.mono (fun _ _ h => .inl h));have gC:=hK Wc hmC;have gD:=hK Wd hmD;have hT4:=hT.put H1.out hownD;have hfin:yW Wd D p now q bb bs Dc (Db.put (kB x.birth) (nD x)) (Ds.put (kS x.slot) (tdD x)) (x::M) L:=⟨hmD.heap (fun e=>by rcases e with e | e;exact ne1 e;exact ne2 e) HC.out.box,HC.out.cas.frame hmD (fun k hk e=>by rcases e with e | e;exact HC.out.nbb (e ▸ hk);exact HC.out.nbs (e ▸ hk)),hN.mod hmBD (fun e=>ne3 e),hT4,HC.out.np,HC.out.nbb,HC.out.nbs,HC.out.ne,HC.out.dd⟩;have hmo:Mod D W1 Wd:=hmD.mono (fun k _ hk=>by rcases hk with e | e;exact(HDD.out k).2 (.inr (.inl e));exact(HDD.out k).2 (.inr (.inr (.inl e))));have HF:=za hfin;have HMO:=za hmo;clear hfin hmo hT4 hK hmD hmBD hmC hmB hmA hT hN hownB hownD hgA hgB hgC hgD hS hS2 hA hC2
 (refine hSt 15 (fun K hK => ?_);go_simp;refine hK.out _ _ ?_ (fun h_ => ?_);(· exact gA);clear hK K;refine clA ?_)
 refine hTk 16 ?_
 (refine hSt 17 (fun K hK => ?_);go_simp;refine hK.out _ _ ?_ (fun h_ => ?_);(· exact gB);clear hK K;refine clA ?_)
 (refine hSt 18 (fun K hK => ?_);go_simp;refine hK.out _ _ ?_ (fun h_ => ?_);(· exact gC);clear hK K;refine clA ?_)
 refine hTk 19 ?_
 (refine hSt 20 (fun K hK => ?_);go_simp;refine hK.out _ _ ?_ (fun h_ => ?_);(· exact gD);clear hK K;refine clA ?_)
 refine hDn ?_;clear h_
 go_end0
 exact⟨rfl,⟨_,_,HF.out⟩,(HAL.out.mono (fun _ _ h=>h.elim):Mod D w W1).trans HMO.out⟩
theorem zhN(h:yW w D p now q bb bs Dc Db Ds M L){x:Td}(hs:x.slot<4194304)(hd:x.dl<18446744073709551615)(hb:x.birth≤18446744073709551615)(h1 : ∀ y∈M,y.slot≠x.slot)(h2 : ∀ y∈M,y.birth≠x.birth)(hMl:M.length<maxLen)(hLl:L.length<maxLen) :
  Calls prog 150 #[lkP p,tdV x] w fun e w'=>e=.returned (.tuple #[])∧(∃ D' Dc' Db' Ds',yW w' D' p now q bb bs Dc' Db' Ds' (x::M) (Yf now L x)∧zZ D D' w)∧Mod D w w':=by
 have hal:zb w (w.alloc (.cells #[.int .u32 x.slot,.int .u64 x.dl,.int .u64 x.birth] 198)):=(Mod.refl _ w).alloc _;have h3:=zk (w:=w) (o := .cells #[.int .u32 x.slot,.int .u64 x.dl,.int .u64 x.birth] 198 (0,0)) rfl;have hD3 : ¬ D w.heap.size:=fun e=>by have:=h.lt e;omega
 have HC:=za (h.pure hal);have H1:=za h1;have H2:=za h2;have HAL:=za hal;have HDD:=za h.dd;have e0:((x.dl:Int)==18446744073709551615)=false:=by simp;omega
 have hsc:=((h.pure hal).pure ((Mod.refl _ _).drew:zb _ (w.alloc (.cells #[.int .u32 x.slot,.int .u64 x.dl,.int .u64 x.birth] 198)).drew)).cas.sched (x:=x) (by omega) (by omega) hb hLl;unfold tdV at hsc;have HSc:=za hsc;clear hd hsc;obtain⟨ne1,ne2,ne3⟩:=h.ne;clear h h1 h2 hal;unfold tdV;go_enter func150,ntmps150;go_upto_region 1 with fail
 generalize w.alloc (.cells #[.int .u32 x.slot,.int .u64 x.dl,.int .u64 x.birth] 198)=W1 at *;obtain⟨b3,hb3⟩:=zf w.heap.size;rw[hb3]at h3 hD3 ⊢;clear hb3;obtain⟨c0,c1,c2⟩:=HC.out.cells;have H3:=za h3;obtain⟨h3_0,h3_1,h3_2,h3_f,h3_l,H_h3⟩:=cr3 h3;clear h3;go_upto_region 2 with fail
 go_still_tail 5,(by kernel_rfl)
 go_upto_region 3 with(go_at_call 198;refine HSc.out.mono ?_;rintro e w2 ⟨rfl,⟨Dc2,hc2,hg2⟩,hm2⟩)
 have hm2':Mod Dc W1 w2:=Mod.of_drew hm2;have hg2':zZ Dc Dc2 W1:=hg2;obtain⟨D2,hD2,hgD⟩:=HC.out.cascade hc2 hg2' hm2';have nb3 : ¬ Dc b3:=fun e=>hD3 ((HDD.out b3).2 (.inr (.inr (.inr e))))
 have h32:=hm2'.heap nb3 H3.out;have HD2:=za hD2;have HGD:=za hgD;have HM2':=za (hm2'.mono (fun k _ hk=>(HDD.out k).2 (.inr (.inr (.inr hk)))):Mod D W1 w2);clear h3_0 h3_1 h3_2 h3_f h3_l;clear H_h3 hm2 hm2' hg2 hg2' hD2 hgD hc2 HSc c0 c1 c2;obtain⟨c0,c1,c2⟩:=HD2.out.cells;obtain⟨h32_0,h32_1,h32_2,h32_f,h32_l,H_h32⟩:=cr3 h32;clear h32;refine qU (S:=fun u=>(u.cell? ⟨p,1,none⟩=some (.map (some bb))∧u.cell? ⟨p,2,none⟩=some (.map (some bs)))∧u.cell? ⟨b3,0,none⟩=some (.int .u32 x.slot)∧u.cell? ⟨b3,1,none⟩=some (.int .u64 x.dl)∧u.cell? ⟨b3,2,none⟩=some (.int .u64 x.birth)) (by kernel_rfl) ⟨⟨c1,c2⟩,h32_0,h32_1,h32_2⟩ (fun h_ => ?_);refine hTk 0 ?_;refine hTk 1 ?_;refine hTk 2 ?_
 ((refine kZ (i:=3) (v := ?_) rfl (by kernel_rfl) (by kernel_rfl) (by kernel_rfl) (fun _ _ _ h=>h) (Or.inl ⟨by rfl,?_⟩) h_ ?_;rotate_left 1;focus(intro w hS;obtain⟨⟨s1,s2⟩,s3,s4,s5⟩:=hS;go_simp;try with_reducible rfl));try simp only[Act.put,List.getElem_toArray,List.getElem_cons_zero,List.getElem_cons_succ,List.setIfInBounds_toArray,List.set_cons_zero,List.set_cons_succ])
 refine hTk 4 ?_
 ((refine kZ (i:=5) (v := ?_) rfl (by kernel_rfl) (by kernel_rfl) (by kernel_rfl) (fun _ _ _ h=>h) (Or.inl ⟨by rfl,?_⟩) h_ ?_;rotate_left 1;focus(intro w hS;obtain⟨⟨s1,s2⟩,s3,s4,s5⟩:=hS;go_simp;try with_reducible rfl));try simp only[Act.put,List.getElem_toArray,List.getElem_cons_zero,List.getElem_cons_succ,List.setIfInBounds_toArray,List.set_cons_zero,List.set_cons_succ])
 refine hTk 6 ?_;refine hTk 7 ?_;refine hTk 8 ?_
 ((refine kZ (i:=9) (v := ?_) rfl (by kernel_rfl) (by kernel_rfl) (by kernel_rfl) (fun _ _ _ h=>h) (Or.inl ⟨by rfl,?_⟩) h_ ?_;rotate_left 1;focus(intro w hS;obtain⟨⟨s1,s2⟩,s3,s4,s5⟩:=hS;go_simp;try with_reducible rfl));try simp only[Act.put,List.getElem_toArray,List.getElem_cons_zero,List.getElem_cons_succ,List.setIfInBounds_toArray,List.set_cons_zero,List.set_cons_succ])
 refine hTk 10 ?_
 ((refine kZ (i:=11) (v := ?_) rfl (by kernel_rfl) (by kernel_rfl) (by kernel_rfl) (fun _ _ _ h=>h) (Or.inl ⟨by rfl,?_⟩) h_ ?_;rotate_left 1;focus(intro w hS;obtain⟨⟨s1,s2⟩,s3,s4,s5⟩:=hS;go_simp;try with_reducible rfl));try simp only[Act.put,List.getElem_toArray,List.getElem_cons_zero,List.getElem_cons_succ,List.setIfInBounds_toArray,List.set_cons_zero,List.set_cons_succ])
 refine hTk 12 ?_
 ((refine kZ (i:=13) (v := ?_) rfl (by kernel_rfl) (by kernel_rfl) (by kernel_rfl) (fun _ _ _ h=>h) (Or.inl ⟨by rfl,?_⟩) h_ ?_;rotate_left 1;focus(intro w hS;obtain⟨⟨s1,s2⟩,s3,s4,s5⟩:=hS;go_simp;try with_reducible rfl));try simp only[Act.put,List.getElem_toArray,List.getElem_cons_zero,List.getElem_cons_succ,List.setIfInBounds_toArray,List.set_cons_zero,List.set_cons_succ])
 ((refine kZ (i:=14) (v := ?_) rfl (by kernel_rfl) (by kernel_rfl) (by kernel_rfl) (fun _ _ _ h=>h) (Or.inl ⟨by rfl,?_⟩) h_ ?_;rotate_left 1;focus(intro w hS;obtain⟨⟨s1,s2⟩,s3,s4,s5⟩:=hS;go_simp;try with_reducible rfl));try simp only[Act.put,List.getElem_toArray,List.getElem_cons_zero,List.getElem_cons_succ,List.setIfInBounds_toArray,List.set_cons_zero,List.set_cons_succ])
 obtain⟨v0,st,Wa,o1,hE,hA,hgA,hS⟩:=Vt HD2.out.births.own.drew kC underlying162 UE hMl (qK hb);have hmA:Mod (fun k=>k=bb) w2 Wa:=Mod.of_drew (Mod.of_grown hgA (fun k e _=>by cases e;rfl));obtain⟨Wb,hEb,hownB,hgB⟩:=hS Wa (.int .u32 x.slot) _ _ hA (Ut _);have hmB:Mod (fun k=>k=bb) w2 Wb:=hmA.trans (Mod.of_grown hgB (fun k e _=>by cases e;rfl));have hN:=HD2.out.births.put H2.out hownB;have hT:=HD2.out.slots.mod hmB (fun e=>ne3 e.symm);obtain⟨v1,st2,Wc,o2,hEc,hC2,hgC,hS2⟩:=Vt hT.own x9 underlying186 Xk hMl (uq (by omega:x.slot≤4294967295));have hmC:Mod (fun k=>k=bb∨k=bs) w2 Wc:=(hmB.mono (fun _ _ h => .inl h)).trans (Mod.of_grown hgC (fun k e _=>by cases e;exact .inr rfl));obtain⟨Wd,hEd,hownD,hgD⟩:=hS2 Wc (tdV x) _ _ hC2 (YD x);unfold tdV at hEd;have hmD:Mod (fun k=>k=bb∨k=bs) w2 Wd:=hmC.trans (Mod.of_grown hgD (fun k e _=>by cases e;exact .inr rfl));have hmBD:Mod (fun k=>k=bs) Wb Wd:=(Mod.of_grown hgC (fun k e _=>by cases e;rfl)).trans (Mod.of_grown hgD (fun k e _=>by cases e;rfl));have n3:b3≠bb∧b3≠bs:=⟨fun e=>hD3 ((HDD.out b3).2 (.inr (.inl e))),fun e=>hD3 ((HDD.out b3).2 (.inr (.inr (.inl e))))⟩;have hK : ∀ u,Mod (fun k=>k=bb∨k=bs) w2 u→(u.cell? ⟨p,1,none⟩=some (.map (some bb))∧u.cell? ⟨p,2,none⟩=some (.map (some bs)))∧u.cell? ⟨b3,0,none⟩=some (.int .u32 x.slot)∧u.cell? ⟨b3,1,none⟩=some (.int .u64 x.dl)∧u.cell? ⟨b3,2,none⟩=some (.int .u64 x.birth):=fun u hu =>
  ⟨⟨hu.cell (a:=⟨p,1,none⟩) (fun e=>by rcases e with e | e;exact ne1 e;exact ne2 e) c1,hu.cell (a:=⟨p,2,none⟩) (fun e=>by rcases e with e | e;exact ne1 e;exact ne2 e) c2⟩,hu.cell (a:=⟨b3,0,none⟩) (fun e=>by rcases e with e | e;exact n3.1 e;exact n3.2 e) h32_0,hu.cell (a:=⟨b3,1,none⟩) (fun e=>by rcases e with e | e;exact n3.1 e;exact n3.2 e) h32_1,hu.cell (a:=⟨b3,2,none⟩) (fun e=>by rcases e with e | e;exact n3.1 e;exact n3.2 e) h32_2⟩
 have gA:=hK Wa (hmA.mono (fun _ _ h => .inl h));have gB:=hK Wb (hmB.mono (fun _ _ h => .inl h));have gC:=hK Wc hmC;have gD:=hK Wd hmD;have hT4:=hT.put H1.out hownD;have hfin:yW Wd D2 p now q bb bs Dc2 (Db.put (kB x.birth) (nD x)) (Ds.put (kS x.slot) (tdD x)) (x::M) (Yf now L x):=⟨hmD.heap (fun e=>by rcases e with e | e;exact ne1 e;exact ne2 e) HD2.out.box,HD2.out.cas.frame hmD (fun k hk e=>by rcases e with e | e;exact HD2.out.nbb (e ▸ hk);exact HD2.out.nbs (e ▸ hk)),hN.mod hmBD (fun e=>ne3 e),hT4,HD2.out.np,HD2.out.nbb,HD2.out.nbs,HD2.out.ne,HD2.out.dd⟩;have hmo:Mod D w2 Wd:=hmD.mono (fun k _ hk=>by rcases hk with e | e;exact(HDD.out k).2 (.inr (.inl e));exact(HDD.out k).2 (.inr (.inr (.inl e))));have HF:=za hfin;have HMO:=za hmo;clear hfin hmo hT4 hK hmD hmBD hmC hmB hmA hT hN hownB hownD hgA hgB hgC hgD hS hS2 hA hC2
 (refine hSt 15 (fun K hK => ?_);go_simp;refine hK.out _ _ ?_ (fun h_ => ?_);(· exact gA);clear hK K;refine clA ?_)
 refine hTk 16 ?_
 (refine hSt 17 (fun K hK => ?_);go_simp;refine hK.out _ _ ?_ (fun h_ => ?_);(· exact gB);clear hK K;refine clA ?_)
 (refine hSt 18 (fun K hK => ?_);go_simp;refine hK.out _ _ ?_ (fun h_ => ?_);(· exact gC);clear hK K;refine clA ?_)
 refine hTk 19 ?_
 (refine hSt 20 (fun K hK => ?_);go_simp;refine hK.out _ _ ?_ (fun h_ => ?_);(· exact gD);clear hK K;refine clA ?_)
 refine hDn ?_;clear h_
 go_end0
 exact⟨rfl,⟨_,_,_,_,HF.out,fun k hk=>by
  rcases HGD.out k hk with e | e
  ·exact .inl e
  ·exact .inr (zF HAL.out.size e)⟩,((HAL.out.mono (fun _ _ h=>h.elim):Mod D w W1).trans HM2'.out).trans HMO.out⟩
end
section
variable{w w':World}{D:Nat→Prop}{p now q bb bs:Nat}{Dc:Nat→Prop}{Db Ds:DataW Unit}{M M' L:List Td}{x:Td}
theorem xP.perm{b:Nat}{A:DataW Unit}(h:xP w b M A)(hp:M.Perm M'):xP w b M' A :=
 ⟨by rw[← hp.length_eq];exact h.own,fun x hx=>h.at_ x (hp.mem_iff.2 hx),fun s hs=>by obtain⟨x,hx,e⟩:=h.has s hs;exact⟨x,hp.mem_iff.1 hx,e⟩,by rw[← hp.length_eq];exact h.size⟩
theorem yW.perm(h:yW w D p now q bb bs Dc Db Ds M L)(hp:M.Perm M'):yW w D p now q bb bs Dc Db Ds M' L :=
 ⟨h.box,h.cas,h.births.perm hp,h.slots.perm hp,h.np,h.nbb,h.nbs,h.ne,h.dd⟩
theorem yf.drop(h:yf w D p now M)(hp:M.Perm (x::M'))(hs:M'.Pairwise bef) :
  Calls prog 127 #[lkP p,tdV x] w fun e w'=>e=.returned (.tuple #[])∧(∃ D',yf w' D' p now M'∧zZ D D' w)∧Mod D w w':=by
 obtain⟨q,bb,bs,Dc,Db,Ds,h1,h2⟩:=h;obtain⟨k1,k2,k3,k4⟩:=h2.out hp hs;have hx:x∈M:=hp.mem_iff.2 yD;obtain⟨r1,r2,r3,r4,r5⟩:=h2.rng x hx;refine(zag h1 hx (by omega) r5 k2 k3 k4).mono ?_;rintro e w' ⟨rfl,⟨D',Dc',Db',Ds',hD,hg⟩,hm⟩;rw[zjs h2.ord h2.slots hp r1 hs]at hD;exact⟨rfl,⟨D',⟨q,bb,bs,_,_,_,hD,k1⟩,hg⟩,hm⟩
theorem yf.put(h:yf w D p now M)(h1 : ∀ y∈M,y.slot≠x.slot)(h2 : ∀ y∈M,y.birth≠x.birth)(hr:x.slot<4194304∧(now<x.dl∨x.dl=18446744073709551615)∧x.dl≤18446744073709551615∧0<x.birth∧x.birth≤18446744073709551615) :
  Calls prog 150 #[lkP p,tdV x] w fun e w'=>e=.returned (.tuple #[])∧(∃ D',yf w' D' p now (xO M x)∧zZ D D' w)∧Mod D w w':=by
 obtain⟨q,bb,bs,Dc,Db,Ds,k1,k2⟩:=h;obtain⟨r1,r2,r3,r4,r5⟩:=hr;have hc:=k2.count;have e1:=zlS (x:=x) k2.ord h2;have hMl:M.length<maxLen:=by unfold maxLen;omega
 by_cases hd:x.dl=18446744073709551615
 ·rw[zj hd]at e1;refine(zjL k1 r1 hd r5 h1 h2 hMl).mono ?_;rintro e w' ⟨rfl,⟨Db',Ds',hD⟩,hm⟩;exact⟨rfl,⟨D,⟨q,bb,bs,_,_,_,by rw[e1];exact hD.perm qq.symm,k2.put h1 h2 ⟨r1,r2,r3,r4,r5⟩⟩,zZ.refl _ _⟩,hm⟩
 ·rw[zh hd]at e1;have hsc:jC now (yn M) x=0:=by
   have a1:kU now x=0:=by
    unfold kU atE;rw[zj r1,zh (by omega),zj r1];rw[zh (by omega),zh (by omega)]
   have a2:(xH (yn M) x.slot||YC (yn M) x.birth)=false:=by
    rw[Bool.or_eq_false_iff];constructor
    ·cases hh:xH (yn M) x.slot with
     | false=>rfl
     | true=>obtain⟨y,hy,e⟩:=uL.1 hh;exact absurd e (h1 y (ZE.1 hy).1)
    ·cases hh:YC (yn M) x.birth with
     | false=>rfl
     | true=>obtain⟨y,hy,e⟩:=Ja.1 hh;exact absurd e (h2 y (ZE.1 hy).1)
   unfold jC;rw[zj a1,a2]
   rfl
  have hl:Yf now (yn M) x=xO (yn M) x:=by unfold Yf;rw[zj hsc]
  refine(zhN k1 r1 (by omega) r5 h1 h2 hMl (by have:=(qn (p:=fun x:Td=>decide (x.dl≠18446744073709551615)) (l:=M)).length_le;unfold yn;unfold maxLen;omega)).mono ?_;rintro e w' ⟨rfl,⟨D',Dc',Db',Ds',hD,hg⟩,hm⟩;rw[hl]at hD;exact⟨rfl,⟨D',⟨q,bb,bs,_,_,_,by rw[e1];exact hD.perm qq.symm,k2.put h1 h2 ⟨r1,r2,r3,r4,r5⟩⟩,hg⟩,hm⟩
end

section
variable{w w':World}{D:Nat→Prop}{p now q bb bs:Nat}{Dc:Nat→Prop}{Db Ds:DataW Unit}{M M' L:List Td}{x:Td}
theorem Mod.of_pure'{S:Nat→Prop}(h:zb w w'):Mod S w w':=h.mono (fun _ _ h=>h.elim)
theorem yf.remove(h:yf w D p now M){s:Nat}(h32:s≤4294967295) :
  Calls prog 78 #[lkP p,.int .u32 s] w fun e w'=>e=.returned (.int .i64 (getTd M s).2)∧(∃ D',yf w' D' p now (vq M s)∧zZ D D' w)∧Mod D w w':=by
 have h':=h;obtain⟨q,bb,bs,Dc,Db,Ds,h1,h2⟩:=h;have HC:=za (Vh h1 h32);obtain⟨c0,c1,c2⟩:=h1.cells;by_cases hs:s<4194304
 ·rw[zj hs]at HC;rcases V9 M s with⟨_,hh,x,e1,rfl,_,e3,e4⟩ | ⟨hno,er,e1,e2⟩
  ·have hx:x∈M:=e4.mem_iff.2 yD;have hlk:=h1.slots.look hx (by omega);unfold vq;rw[e1];dsimp only;rw[zj rfl];unfold tdV at hlk;have hal:zb w (w.alloc (.cells #[.int .u32 x.slot,.int .u64 x.dl,.int .u64 x.birth] 198)):=(Mod.refl _ w).alloc _;have h8:=zk (w:=w) (o := .cells #[.int .u32 x.slot,.int .u64 x.dl,.int .u64 x.birth] 198 (0,0)) rfl;have hdr:=fun W (hW:zb (w.alloc (.cells #[.int .u32 x.slot,.int .u64 x.dl,.int .u64 x.birth] 198)) W)=>((h'.pure hal).pure hW).drop e4 (ZW h2.ord)
   unfold tdV at hdr;have HDr:=za hdr;have HAL:=za hal;have H8:=za h8;clear h' h1 h2 hx e1 e3 e4 h32 hs hal h8 hdr c0 c1;go_enter func78,ntmps78;go_upto_region 7 with(go_at_call 104;refine HC.out.mono ?_;rintro e w' ⟨rfl,rfl⟩)
   have h8:=H8.out;generalize w.alloc (.cells #[.int .u32 x.slot,.int .u64 x.dl,.int .u64 x.birth] 198)=W1 at *;generalize w.heap.size=b8 at *;clear c2 hlk;obtain⟨h8_0,h8_1,h8_2,h8_f,h8_l,H_h8⟩:=cr3 h8;clear h8;go_upto_region 8 with(go_at_call 127;refine zq (HDr.out _ (by first | exact Mod.refl _ _ | exact(Mod.refl _ _).drew)) ?_;rintro e w2 ⟨rfl,⟨D',hD,hg⟩,hm⟩)
   have hm0:Mod D w w2:=(Mod.of_pure' HAL.out:Mod D w W1).trans (by first | exact hm | exact Mod.of_drew hm);have hg0:zZ D D' w:=fun k hk=>by
    rcases hg k hk with e | e
    ·exact .inl e
    ·have e':W1.heap.size≤k:=e;exact .inr (zF HAL.out.size e')
   have HD:=za hD;have HM0:=za hm0;have HG0:=za hg0;clear hm hg hD hm0 hg0;go_wp2;exact zR (v := .int .i64 0) (by simp[results,results78,go_sem]) rfl ⟨rfl,⟨D',HD.out,HG0.out⟩,HM0.out⟩
  ·have hh:xH M s=false:=by
    rcases hno with e | e
    ·exact absurd hs e
    ·exact e
   have hlk:=h1.slots.look_no (s:=s) (by omega) (fun y hy e=>by rw[uL.2 ⟨y,hy,e⟩]at hh;cases hh);unfold vq;rw[Xy hs (Ul hh)];dsimp only;rw[zh (by decide)];unfold tdV at hlk;have HAL:Hid (zb w (w.alloc (.cells #[.int .u32 0,.int .u64 0,.int .u64 0] 198))):=za ((Mod.refl _ w).alloc _);have HF:=za h';clear h' h1 h2 hno e1 e2 hh h32 hs c0 c1;go_enter func78,ntmps78
   go_wp2_with (go_at_call 104;refine HC.out.mono ?_;rintro e w' ⟨rfl,rfl⟩)
   have hal:=HAL.out;refine zR (v := .int .i64 9) (by simp[results,results78,go_sem]) rfl ⟨rfl,⟨D,HF.out.pure hal,zZ.refl _ _⟩,Mod.of_pure' hal⟩
 ·rw[zh hs]at HC;unfold vq;rw[Qc hs];dsimp only;rw[zh (by decide)];have HF:=za h';clear h' h1 h2 h32 hs c0 c1 c2;go_enter func78,ntmps78
  go_wp2_with (go_at_call 104;refine HC.out.mono ?_;rintro e w' ⟨rfl,rfl⟩)
  refine zR (v := .int .i64 2) (by simp[results,results78,go_sem]) rfl ⟨rfl,⟨D,HF.out,zZ.refl _ _⟩,Mod.refl _ _⟩
end
section
variable{w w':World}{D:Nat→Prop}{p now q bb bs:Nat}{Dc:Nat→Prop}{Db Ds:DataW Unit}{M M' L:List Td}{x:Td}
theorem Azhka {P:Prop}(h:P:=by
 have HF:=za hfin;have HM:=za hm0;have HG:=za hg0;clear hfin hm0 hg0;go_wp2;exact zR (v := .int .i64 0) (by simp[results,results91,go_sem]) rfl ⟨rfl,⟨_,HF.out,HG.out⟩,HM.out⟩):P:=h
theorem Aztv3 {P:Prop}(h:P:=by
 rcases hv with hd | ⟨hd,hn⟩
 · exact .inl (by simp;omega)
 · exact .inr ⟨by simp;omega,zU (by omega),zU (by omega)⟩):P:=h
theorem zgI(h:yf w D p now M){s dl b:Nat}(hs:s<4194304)(hb0:b≠0)(hb:b≤18446744073709551615)(hd:dl≤18446744073709551615)(hv:dl=18446744073709551615∨(dl≠18446744073709551615∧now<dl))(hc : ∀ z∈M,z.slot≠s)(hc2 : ∀ y∈M,y.birth≠b) :
    Calls prog 91 #[lkP p,.int .u32 s,.int .u64 dl,.int .u64 b] w fun e w'=>e=.returned (.int .i64 0)∧(∃ D',yf w' D' p now (xO (j3 M s) ⟨s,dl,b⟩)∧zZ D D' w)∧Mod D w w':=by
  have h':=h;obtain⟨q,bb,bs,Dc,Db,Ds,h1,h2⟩:=h;have HC:=za (Vh h1 (by omega:s≤4294967295));rw[zj hs]at HC;have h32:s≤4294967295:=by omega
  have hr:now<dl∨dl=18446744073709551615:=by omega
  have e0:((b:Int)==0)=false:=by simp;omega
  have hv2:((dl:Int) != 18446744073709551615)=false∨(((dl:Int) != 18446744073709551615)=true∧decide ((dl:Int)≤(now:Int))=false∧decide (dl≤now)=false):=by
    exact Aztv3
  have hls:=h1.slots.look_no (s:=s) h32 hc;have hlb:=((h1.pure ((Mod.refl _ w).alloc (.cells #[.int .u32 0,.int .u64 0,.int .u64 0] 198):zb w _)).births).look_no hb hc2;unfold tdV at hls;have hnb:xH M s=false:=by
    cases hh:xH M s with
    | false=>rfl
    | true=>obtain⟨y,hy,e⟩:=uL.1 hh;exact absurd e (hc y hy)
  rw[show j3 M s=M by unfold j3;rw[hnb];rfl];have hal:zb w (w.alloc (.cells #[.int .u32 0,.int .u64 0,.int .u64 0] 198)):=(Mod.refl _ w).alloc _;have h8:=zk (w:=w) (o := .cells #[.int .u32 0,.int .u64 0,.int .u64 0] 198 (0,0)) rfl;have HCas:=za (fun W (hW:zb (w.alloc (.cells #[.int .u32 0,.int .u64 0,.int .u64 0] 198)) W)=>((h1.pure hal).pure hW).cas.now_);have HN:=za (fun W (hW:zb (w.alloc (.cells #[.int .u32 0,.int .u64 0,.int .u64 0] 198)) W)=>JC ((h1.pure hal).pure hW));obtain⟨c0,c1,c2⟩:=h1.cells;obtain⟨a0,a1,a2⟩:=(h1.pure hal).cells;have HAL:=za hal;have H8:=za h8;have hpu:=fun W (hW:zb (w.alloc (.cells #[.int .u32 0,.int .u64 0,.int .u64 0] 198)) W)=>((h'.pure hal).pure hW).put (x:=⟨s,dl,b⟩) hc hc2 ⟨hs,hr,by show dl≤_;omega,by show 0<b;omega,hb⟩
  unfold tdV at hpu;have HPu:=za hpu;clear hpu hc hc2 hnb;clear hb0 hb hd hv hr;clear h' h1 h2 hal h8 h32 hs;rcases hv2 with e1 | ⟨e1,e2,e2n⟩
  all_goals
    go_enter func91,ntmps91;go_upto_region 5 with(go_at_call 104;refine HC.out.mono ?_;rintro e w' ⟨rfl,rfl⟩)
    have h8:=H8.out;generalize w.alloc (.cells #[.int .u32 0,.int .u64 0,.int .u64 0] 198)=W1 at *;generalize w.heap.size=b8 at *;clear c0 c1 c2 hls;obtain⟨h8_0,h8_1,h8_2,h8_f,h8_l,H_h8⟩:=cr3 h8;clear h8;have HN2:=za (fun W (hW:zb W1 W)=>HCas.out W hW);go_upto_region 15 with(first
      | (go_at_call 105;refine(HN2.out _ (Mod.refl _ _)).mono ?_;rintro e w' ⟨rfl,rfl⟩)
      | (go_at_call 150;refine zq (HPu.out _ (by first | exact Mod.refl _ _ | exact(Mod.refl _ _).drew)) ?_;rintro e w2 ⟨rfl,⟨D',hfin,hg⟩,hm⟩))
    have hm0:Mod D w w2:=(Mod.of_pure' HAL.out:Mod D w W1).trans (by first | exact hm | exact Mod.of_drew hm);have hg0:zZ D D' w:=fun k hk=>by
      rcases hg k hk with e | e
      · exact .inl e
      · have e':W1.heap.size≤k:=e
        exact .inr (zF HAL.out.size e')
    clear hm hg;exact Azhka
theorem zhc(h:yf w D p now M){s dl b:Nat}(hs:s<4194304)(hb0:b≠0)(hb:b≤18446744073709551615)(hd:dl≤18446744073709551615)(hv:dl=18446744073709551615∨(dl≠18446744073709551615∧now<dl))(hc : ∃ z∈M,z.slot=s∧z.birth=b) :
    Calls prog 91 #[lkP p,.int .u32 s,.int .u64 dl,.int .u64 b] w fun e w'=>e=.returned (.int .i64 0)∧(∃ D',yf w' D' p now (xO (j3 M s) ⟨s,dl,b⟩)∧zZ D D' w)∧Mod D w w':=by
  have h':=h;obtain⟨q,bb,bs,Dc,Db,Ds,h1,h2⟩:=h;have HC:=za (Vh h1 (by omega:s≤4294967295));rw[zj hs]at HC;have h32:s≤4294967295:=by omega
  have hr:now<dl∨dl=18446744073709551615:=by omega
  have e0:((b:Int)==0)=false:=by simp;omega
  have hv2:((dl:Int) != 18446744073709551615)=false∨(((dl:Int) != 18446744073709551615)=true∧decide ((dl:Int)≤(now:Int))=false∧decide (dl≤now)=false):=by
    exact Aztv3
  obtain⟨z,hz,hzs,hzb⟩:=hc;subst hzs hzb;have hls:=h1.slots.look hz h32;have hlb:=((h1.pure ((Mod.refl _ w).alloc (.cells #[.int .u32 z.slot,.int .u64 z.dl,.int .u64 z.birth] 198):zb w _)).births).look hz hb;unfold tdV at hls;have hh:xH M z.slot=true:=uL.2 ⟨z,hz,rfl⟩;obtain⟨z',k1,k2,k3,k4⟩:=UC (VV.2 hh);have hzz:z'=z:=h2.slots z' (ym k1) z hz k2;rw[hzz]at k4;obtain⟨_,n1,n2,_⟩:=h2.out k4 (ZW h2.ord);have hso:(qQ M z.slot).Pairwise bef:=ZW h2.ord;rw[show j3 M z.slot=qQ M z.slot by unfold j3;rw[hh];rfl];have hal:zb w (w.alloc (.cells #[.int .u32 z.slot,.int .u64 z.dl,.int .u64 z.birth] 198)):=(Mod.refl _ w).alloc _;have h8:=zk (w:=w) (o := .cells #[.int .u32 z.slot,.int .u64 z.dl,.int .u64 z.birth] 198 (0,0)) rfl;have HCas:=za (fun W (hW:zb (w.alloc (.cells #[.int .u32 z.slot,.int .u64 z.dl,.int .u64 z.birth] 198)) W)=>((h1.pure hal).pure hW).cas.now_);have HN:=za (fun W (hW:zb (w.alloc (.cells #[.int .u32 z.slot,.int .u64 z.dl,.int .u64 z.birth] 198)) W)=>JC ((h1.pure hal).pure hW));obtain⟨c0,c1,c2⟩:=h1.cells;obtain⟨a0,a1,a2⟩:=(h1.pure hal).cells;have HAL:=za hal;have H8:=za h8;have hdr:=fun W (hW:zb (w.alloc (.cells #[.int .u32 z.slot,.int .u64 z.dl,.int .u64 z.birth] 198)) W)=>((h'.pure hal).pure hW).drop k4 hso
  have hpu:=fun W D1 (hD:yf W D1 p now (qQ M z.slot))=>hD.put (x:=⟨z.slot,dl,z.birth⟩) (fun y hy=>((n1 y).1 hy).2) (fun y hy=>((n2 y).1 hy).2) ⟨hs,hr,by show dl≤_;omega,by show 0<z.birth;omega,hb⟩
  unfold tdV at hpu hdr;have HPu:=za hpu;have HDr:=za hdr;clear hpu hdr hz hh k1 k2 k3 k4 hzz n1 n2 hso;clear hb0 hb hd hv hr;clear h' h1 h2 hal h8 h32 hs;rcases hv2 with e1 | ⟨e1,e2,e2n⟩
  all_goals
    go_enter func91,ntmps91;go_upto_region 5 with(go_at_call 104;refine HC.out.mono ?_;rintro e w' ⟨rfl,rfl⟩)
    have h8:=H8.out;generalize w.alloc (.cells #[.int .u32 z.slot,.int .u64 z.dl,.int .u64 z.birth] 198)=W1 at *;generalize w.heap.size=b8 at *;clear c0 c1 c2 hls;obtain⟨h8_0,h8_1,h8_2,h8_f,h8_l,H_h8⟩:=cr3 h8;clear h8;have HN2:=za (fun W (hW:zb W1 W)=>HCas.out W hW);go_upto_region 14 with(first
      | (go_at_call 105;refine(HN2.out _ (Mod.refl _ _)).mono ?_;rintro e w' ⟨rfl,rfl⟩)
      | (go_at_call 127;refine zq (HDr.out _ (by first | exact Mod.refl _ _ | exact(Mod.refl _ _).drew)) ?_;rintro e w2 ⟨rfl,⟨D1,hD1,hg1⟩,hm1⟩))
    have hm1':Mod D w w2:=(Mod.of_pure' HAL.out:Mod D w W1).trans (by first | exact hm1 | exact Mod.of_drew hm1);have hg1':zZ D D1 w:=fun k hk=>by
      rcases hg1 k hk with e | e
      · exact .inl e
      · have e':W1.heap.size≤k:=e
        exact .inr (zF HAL.out.size e')
    have HD1:=za hD1;have HM1:=za hm1';have HG1:=za hg1';have HPv:=za (fun W (hW:zb w2 W)=>HPu.out W D1 (hD1.pure hW));clear hD1 hm1 hg1 hm1' hg1';go_upto_region 15 with(go_at_call 150;refine zq (HPv.out _ (by first | exact Mod.refl _ _ | exact(Mod.refl _ _).drew)) ?_;rintro e w3 ⟨rfl,⟨D',hfin,hg⟩,hm⟩)
    have hsz:=HM1.out.size;have hm0:Mod D w w3:=HM1.out.trans' (by first | exact hm | exact Mod.of_drew hm) (fun _ _ h=>h) (fun k hk h=>by
      rcases HG1.out k h with e | e
      · exact e
      · omega)
    have hg0:zZ D D' w:=fun k hk=>by
      rcases hg k hk with e | e
      · exact HG1.out k e
      · have e':w2.heap.size≤k:=e
        exact .inr (zF hsz e')
    clear hm hg hsz;exact Azhka
theorem yf.set(h:yf w D p now M){s dl b:Nat}(h32:s≤4294967295)(hd:dl≤18446744073709551615)(hb:b≤18446744073709551615)(h0:kz now M s dl b=0) :
  Calls prog 91 #[lkP p,.int .u32 s,.int .u64 dl,.int .u64 b] w fun e w'=>e=.returned (.int .i64 (kz now M s dl b))∧(∃ D',yf w' D' p now (kF now M s dl b)∧zZ D D' w)∧Mod D w w':=by
 have hs:s<4194304∧b≠0:=Classical.byContradiction (fun c=>by unfold kz at h0;rw[zh c]at h0;exact absurd h0 (by decide));have hr : ¬ (dl≤now∧dl≠18446744073709551615):=fun c=>by unfold kz at h0;rw[zj hs,zj c]at h0;exact absurd h0 (by decide)
 have hy : ¬ qo M s b=true:=fun c=>by unfold kz at h0;rw[zj hs,zh hr,zj c]at h0;exact absurd h0 (by decide)
 unfold kF;rw[h0,zj rfl];have hnb : ∀ y∈M,(y.slot=s↔y.birth=b):=fun y hy1=>by
  refine⟨fun e => ?_,fun e => ?_⟩
  ·apply Classical.byContradiction;intro e2;exact hy (XG.2 ⟨y,hy1,.inl ⟨e,e2⟩⟩)
  ·apply Classical.byContradiction;intro e2;exact hy (XG.2 ⟨y,hy1,.inr ⟨e2,e⟩⟩)
 by_cases c : ∃ z∈M,z.slot=s
 ·obtain⟨z,hz,e⟩:=c;exact zhc h hs.1 hs.2 hb hd (by omega) ⟨z,hz,e,(hnb z hz).1 e⟩
 ·exact zgI h hs.1 hs.2 hb hd (by omega) (fun z hz e=>c ⟨z,hz,e⟩) (fun z hz e=>c ⟨z,hz,(hnb z hz).2 e⟩)
end
theorem K7(a b:Nat)(w:World):Calls prog 32 #[.int .u64 a,.int .u64 b] w fun e w'=>e=.returned (.int .u64 (max a b:Nat))∧w=w':=by
 by_cases h:a≤b
 ·rw[Nat.max_eq_right h];have e1:max (a:Int) (b:Int)=(b:Int):=by omega
  go_enter func32,ntmps32
  go_wp2_with fail
  all_goals
   refine zR (v := .int .u64 b) ?_ rfl ⟨rfl,rfl⟩;simp[results,results32,go_sem]
   try omega
 ·rw[Nat.max_eq_left (by omega)];have e1:max (a:Int) (b:Int)=(a:Int):=by omega
  go_enter func32,ntmps32
  go_wp2_with fail
  all_goals
   refine zR (v := .int .u64 a) ?_ rfl ⟨rfl,rfl⟩;simp[results,results32,go_sem]
   try omega
section
variable{w w':World}{D:Nat→Prop}{p now q bb bs:Nat}{Dc:Nat→Prop}{Db Ds:DataW Unit}{M M' L:List Td}{x:Td}
structure ExI(w wr:World)(D:Nat→Prop)(p tt:Nat)(q bb bs:Nat)(E R:List Td)(a:Option Addr)(c:Nat)(D':Nat→Prop)(j:Nat):Prop where
 mem : ∃ Dc Db Ds,yW wr D' p tt q bb bs Dc Db Ds (E.drop j++R) (yn R)
 grew:zZ D D' w
 row:qx wr a c E
 off : ∀ g,(Value.slice a E.length c).ownBlock=some g → ¬ D' g∧w.heap.size≤g
 mod:Mod D w wr
theorem yf.expire(h:yf w D p now M)(hT:xb w)(h0 : ¬ D 0){t0:Nat}(ht0:t0≤18446744073709551615) :
  Calls prog 106 #[lkP p,.int .u64 t0] w fun e w' => ∃ a c,e=.returned (.slice a (ul (max now t0) M).length c)∧qx w' a c (ul (max now t0) M) ∧
   (∃ D',yf w' D' p (max now t0) (jx (max now t0) M)∧zZ D D' w ∧ ∀ g,(Value.slice a (ul (max now t0) M).length c).ownBlock=some g → ¬ D' g∧w.heap.size≤g)∧Mod D w w':=by
 have hnow:=h.now64;obtain⟨q,bb,bs,Dc,Db,Ds,h1,h2⟩:=h;obtain⟨tt,htt⟩:=zf (max now t0);have hEf:=fun W=>K7 now t0 W
 rw[htt]at hEf ⊢;have hnt:now≤tt:=by omega
 have ht:tt≤18446744073709551615:=by omega
 obtain⟨k1,k2,k3,k4⟩:=h2.exp hnt ht;have HCk:=za (zaB h1);obtain⟨c0,c1,c2⟩:=h1.cells;have hD1:zb w w.drew:=(Mod.refl _ w).drew;have HNw:=za ((h1.pure hD1).cas.now_);have hAd:=(h1.pure hD1).cas.advAny hT (fun e=>h0 ((h1.dd 0).2 (.inr (.inr (.inr e))))) (by omega:tt<18446744073709551616);rw[k1,k2,k3]at hAd;have HAd:=za hAd;have HEf:=za hEf;have hsp:ul tt M++jx tt M=M:=List.takeWhile_append_dropWhile;obtain⟨E,hE⟩:=zf (ul tt M);obtain⟨R,hR⟩:=zf (jx tt M);rw[hE,hR]at hsp;rw[hR]at k4;rw[hE,hR]at HAd;rw[hE,hR];have hcnt:E.length≤4194304:=by have:=h2.count;rw[← hsp,zT]at this;omega
 have HC:=za h1;have HL:=za h2;have HR:=za k4;have HSp:=za hsp;clear h1 h2 k1 k2 k3 k4 hAd hEf hE hR hT hnow ht0 hnt ht hsp c1 c2 htt;go_enter func106,ntmps106;go_upto_region 3 with(go_at_call 104;refine HCk.out.mono ?_;rintro e w' ⟨rfl,rfl⟩)
 refine rHd (S:=fun u=>u.cell? ⟨p,0,none⟩=some (lkP q)) c0 (fun h_ => ?_);refine hTk 0 ?_;refine hTk 1 ?_;refine hTk 2 ?_;refine hLd 3 ?_;refine hTk 4 ?_;refine hTk 5 ?_;refine hTk 6 ?_;refine hLd 7 ?_;refine hTk 9 ?_;have d0:w.drew.cell? ⟨p,0,none⟩=some (lkP q):=c0
 (refine hSt 8 (fun K hK => ?_);go_simp;refine HNw.out.mono ?_;rintro e w2 ⟨rfl,rfl⟩;refine hK.out _ _ ?_ (fun h_ => ?_);(· exact d0);clear hK K;refine clA ?_)
 (refine hSt 10 (fun K hK => ?_);go_simp;refine(HEf.out _).mono ?_;rintro e w2 ⟨rfl,rfl⟩;refine hK.out _ _ ?_ (fun h_ => ?_);(· exact d0);clear hK K;refine clA ?_)
 (refine hSt 11 (fun K hK => ?_);go_simp;refine HAd.out.mono ?_;rintro e w2 ⟨a,c,rfl,hrow,⟨Dc2,hc2,hg2,hoff⟩,hm2⟩;refine hK.out _ _ ?_ (fun h_ => ?_);(· exact(hm2.cell (a:=⟨p,0,none⟩) HC.out.np d0));clear hK K;refine clA ?_)
 refine hTk 12 ?_;refine hTk 13 ?_;refine hTk 14 ?_;refine hTk 15 ?_;refine hTk 16 ?_;refine hDn ?_;clear h_;have hm2':Mod Dc w w2:=Mod.of_drew hm2;have hg2':zZ Dc Dc2 w:=hg2;obtain⟨D2,hD2,hgD⟩:=HC.out.cascade hc2 hg2' hm2';have hlt:=fun k (hk:D k)=>HC.out.lt hk
 have hoff2 : ∀ g,(Value.slice a E.length c).ownBlock=some g → ¬ D2 g∧w.heap.size≤g:=fun g hg=>by
  obtain⟨o1,o2⟩:=hoff g hg;have o2':w.heap.size≤g:=o2;refine⟨fun k => ?_,o2'⟩;rcases(hD2.dd g).1 k with e | e | e | e
  ·have:=hlt p ((HC.out.dd p).2 (.inl rfl));omega
  ·have:=hlt bb ((HC.out.dd bb).2 (.inr (.inl rfl)));omega
  ·have:=hlt bs ((HC.out.dd bs).2 (.inr (.inr (.inl rfl))));omega
  ·exact o1 e
 have hI:ExI w w2 D p tt q bb bs E R a c D2 0:=⟨⟨_,_,_,by rw[List.drop_zero,HSp.out];exact hD2⟩,hgD,hrow,hoff2,hm2'.mono (fun k _ hk=>(HC.out.dd k).2 (.inr (.inr (.inr hk))))⟩;have HI0:=za hI;clear hrow hc2 hg2 hoff hm2 hm2' hg2' hD2 hgD hoff2 hI d0 c0 HAd HEf HNw hlt;obtain⟨n,hn⟩:=zf E.length;rw[hn]at hcnt ⊢;have HN:=za hn;clear hn;go_upto_region 5 with fail
 go_loopw [29] (fun v29 wr => ∃(j:Nat) (D':Nat→Prop),v29=.int .i64 (j:Nat)∧j≤n∧ExI w wr D p tt q bb bs E R a c D' j) (fun v29 _=>n-(intOf v29).toNat)
 case atStart=>exact⟨0,D2,rfl,yq _,HI0.out⟩
 case round =>
  obtain⟨j,D',rfl,hjn,hI⟩:=hrel;have HI:=za hI;obtain⟨Dc',Db',Ds',hM⟩:=hI.mem;by_cases hlt2:j<n
  ·have hlt':(j:Int)<(n:Int):=by omega
   have j0':(0:Int)≤(j:Int):=by omega
   have wj:IntKind.i64.wrap ((j:Int)+1)=(j:Int)+1:=zt _ (by omega);obtain⟨x,hx⟩ : ∃ x,E[j]? = some x:=⟨_,zO (by rw[HN.out];exact hlt2)⟩;have hdr:E.drop j=x::E.drop (j+1):=by
    have hjl:j<E.length:=by rw[HN.out];exact hlt2
    rw[jK hjl];rw[zO hjl]at hx;injection hx with hx
    rw[hx]
   rw[hdr]at hM;obtain⟨ad0,had,z0,z1,z2⟩:=zb7 hI.row.rd hx;have hsub:(x::E.drop (j+1)++R).Sublist M:=by
    rw[← HSp.out,← hdr];exact List.Sublist.append_right (List.drop_sublist _ _) _
   have hxM:x∈M:=hsub.subset (by simp);have hLs:yK now (x::E.drop (j+1)++R):=⟨HL.out.ord.sublist hsub,fun a ha b hb=>HL.out.slots a (hsub.subset ha) b (hsub.subset hb),fun a ha b hb=>HL.out.births a (hsub.subset ha) b (hsub.subset hb),fun a ha=>HL.out.rng a (hsub.subset ha)⟩;obtain⟨_,n1,n2,n3⟩:=hLs.out (x:=x) (M':=E.drop (j+1)++R) (List.Perm.refl _) (kh.1 hLs.ord).2;obtain⟨r1,r2,r3,r4,r5⟩:=HL.out.rng x hxM;have hcan:vq (yn R) x.slot=yn R:=by
    have hb:xH (yn R) x.slot=false:=by
     cases hh:xH (yn R) x.slot with
     | false=>rfl
     | true =>
      obtain⟨y,hy,e⟩:=uL.1 hh;exact absurd e ((n1 y).1 (xF _ (ZE.1 hy).1)).2
    unfold vq;rw[Xy r1 (Ul hb)];dsimp only;rw[zh (by decide)]
   have hal:zb wr (wr.alloc (.cells #[.int .u32 x.slot,.int .u64 x.dl,.int .u64 x.birth] 198)):=(Mod.refl _ wr).alloc _;have h8:=zk (w:=wr) (o := .cells #[.int .u32 x.slot,.int .u64 x.dl,.int .u64 x.birth] 198 (0,0)) rfl;have hdp:=fun W (hW:zb (wr.alloc (.cells #[.int .u32 x.slot,.int .u64 x.dl,.int .u64 x.birth] 198)) W)=>zag ((hM.pure hal).pure hW) (x:=x) (M':=E.drop (j+1)++R) (by simp) (by omega) r5 n1 n2 n3
   rw[hcan]at hdp;unfold tdV at hdp;subst had;have HDp:=za hdp;have HAL:=za hal;clear hM hI hdr hsub hxM hLs n1 n2 n3 hcan hdp hal hx;go_upto_region 7 with fail
   generalize wr.alloc (.cells #[.int .u32 x.slot,.int .u64 x.dl,.int .u64 x.birth] 198)=W3 at *;obtain⟨b8,hb8⟩:=zf wr.heap.size;rw[hb8]at h8 ⊢;have HB8:=za hb8;clear hb8 z0 z1 z2;obtain⟨h8_0,h8_1,h8_2,h8_f,h8_l,H_h8⟩:=cr3 h8;clear h8;go_upto_region 8 with(go_at_call 127;refine zq (HDp.out _ (by first | exact Mod.refl _ _ | exact(Mod.refl _ _).drew)) ?_;rintro e w5 ⟨rfl,⟨D3,Dc3,Db3,Ds3,hM3,hg3⟩,hm3⟩)
   have hm5:Mod D' wr w5:=(Mod.of_pure' HAL.out).trans (by first | exact hm3 | exact Mod.of_drew hm3);have hsw:=HI.out.mod.size;have hg5 : ∀ k,D3 k→D' k∨wr.heap.size≤k:=fun k hk=>by
    rcases hg3 k hk with e | e
    ·exact .inl e
    ·have e':W3.heap.size≤k:=e;exact .inr (zF HAL.out.size e')
   have hrl : ∀ g,(Value.slice (some ad0) E.length c).ownBlock=some g→g<wr.heap.size:=fun g hg=>xV HI.out.row hg
   have hI5:ExI w w5 D p tt q bb bs E R (some ad0) c D3 (j+1):=⟨⟨_,_,_,hM3⟩,fun k hk=>(by
     rcases hg5 k hk with e | e
     ·exact HI.out.grew k e
     ·exact .inr (zF hsw e)),zz HI.out.row hm5 (fun g hg=>(HI.out.off g hg).1),fun g hg=>⟨fun hk=>(by
     rcases hg5 g hk with e | e
     ·exact(HI.out.off g hg).1 e
     ·have:=hrl g hg;omega),(HI.out.off g hg).2⟩,HI.out.mod.trans' hm5 (fun _ _ h=>h) (fun k hk h=>(by
     rcases HI.out.grew k h with e | e
     ·exact e
     ·omega))⟩
   have HI5:=za hI5;clear hm3 hg3 hM3 hm5 hg5 hsw hrl hI5;go_wp2;go_roundw
   case rel=>exact⟨j+1,D3,by go_num,hlt2,HI5.out⟩
   case measure=>simp[intOf];omega
  ·have e:j=n:=by omega
   subst e;have hd0:E.drop j=[]:=Zp (by rw[HN.out];exact zN _);rw[hd0,Yp]at hM;have hF:yf wr D' p tt R:=⟨_,_,_,_,_,_,hM,HR.out⟩;have HF:=za hF;clear hM hI hd0 hF;go_wp2;refine zR (v := .slice a j c) (by simp[results,results106,go_sem]) rfl ⟨a,c,by rw[HN.out],HI.out.row,⟨D',HF.out,HI.out.grew,fun g hg=>HI.out.off g hg⟩,HI.out.mod⟩
end
section
variable{w w':World}{D:Nat→Prop}{p now q bb bs:Nat}{Dc:Nat→Prop}{Db Ds:DataW Unit}{M M' L acc:List Td}{x:Td}{tv:List Nat}
def zdb(tv:List Nat)(M:List Td):Int:=if (Zv tv [] M).isSome then 0 else 2
def QS(tv:List Nat)(M:List Td):List Td:=(Zv tv [] M).getD M
structure RnP(now:Nat)(M:List Td)(tv:List Nat)(acc:List Td)(j:Nat):Prop where
 key:uA acc=uA (M.take j)
 law:yK now acc
 rest:Zv tv [] M=Zv tv acc (M.drop j)
theorem RnP.start(h:yK now M):RnP now M tv [] 0:=⟨rfl,yK.nil _,rfl⟩
theorem QW(A B:List Td):uA (A++B)=uA A++uA B:=by unfold uA;simp
theorem RnP.next{j t:Nat}(h:RnP now M tv acc j)(hM:yK now M)(hx:M[j]? = some x)(ht:tv[x.slot]? = some t)(h4:t<4194304)(hb:xH acc t=false) :
  RnP now M tv (acc++[⟨t,x.dl,x.birth⟩]) (j+1)∧xO acc ⟨t,x.dl,x.birth⟩=acc++[⟨t,x.dl,x.birth⟩]∧(∀ y∈acc,y.slot≠t)∧(∀ y∈acc,y.birth≠x.birth)∧yK now (acc++[⟨t,x.dl,x.birth⟩]):=by
 have hj:j<M.length:=(zE.1 hx).1;have hxe:M[j]=x:=(zE.1 hx).2;have htk:M.take (j+1)=M.take j++[x]:=by rw[List.take_succ_eq_append_getElem hj,hxe]
 have hdr:M.drop j=x::M.drop (j+1):=by rw[jK hj,hxe]
 have hk:uA (acc++[⟨t,x.dl,x.birth⟩])=uA (M.take (j+1)):=by rw[htk,QW,QW,h.key];rfl
 have hs:=zls hk.symm (hM.ord.sublist (List.take_sublist _ _));have n1 : ∀ y∈acc,y.slot≠t:=fun y hy e=>by rw[uL.2 ⟨y,hy,e⟩]at hb;cases hb
 have n2 : ∀ y∈acc,y.birth≠x.birth:=fun y hy e=>by
  have h1:=(j6.1 hs).2.2 y hy ⟨t,x.dl,x.birth⟩ (by simp);obtain⟨z,hz,e1,e2⟩:=zjM h.key.symm hy;have hzM:=(List.take_sublist _ _).subset hz;have hzx:z=x:=hM.births z hzM x (ym hx) (by rw[e2,e]);unfold bef at h1;rw[← e1,hzx]at h1;simp at h1;omega
 obtain⟨r1,r2,r3,r4,r5⟩:=hM.rng x (ym hx);have hp:=h.law.put (x:=⟨t,x.dl,x.birth⟩) n1 n2 ⟨h4,r2,r3,r4,r5⟩;have hpe:xO acc ⟨t,x.dl,x.birth⟩=acc++[⟨t,x.dl,x.birth⟩]:=Ya hp.ord hs (qq.trans (JS _ _).symm);refine⟨⟨hk,by rw[← hpe];exact hp,?_⟩,hpe,n1,n2,by rw[← hpe];exact hp⟩;rw[h.rest,hdr]
 conv=>lhs;unfold Zv
 rw[ht];simp only;rw[zj ⟨h4,hb⟩]
theorem RnP.fin(h:RnP now M tv acc M.length):zdb tv M=0∧QS tv M=acc:=by
 have:Zv tv [] M=some acc:=by
  rw[h.rest,List.drop_length]
  rfl
 unfold zdb QS;rw[this];exact⟨rfl,rfl⟩
theorem yf.over{D2:Nat→Prop}{p2:Nat}(h:yf w D p now M)(h2:yf w D2 p2 now M')(hd : ∀ k,D k → ¬ D2 k) :
  ∃ q2 b2 s2,(w.cell? ⟨p2,0,none⟩=some (lkP q2)∧w.cell? ⟨p2,1,none⟩=some (.map (some b2))∧w.cell? ⟨p2,2,none⟩=some (.map (some s2))) ∧
   (∃ v0 v1 v2,w.heap[p]? = some (.cells #[v0,v1,v2] 188 (0,0))∧w.heap[p2]? = some (.cells #[lkP q2,.map (some b2),.map (some s2)] 188 (0,0))) ∧
   ∃ D',yf (((w.setCell ⟨p,0,none⟩ (lkP q2)).setCell ⟨p,1,none⟩ (.map (some b2))).setCell ⟨p,2,none⟩ (.map (some s2))) D' p now M'∧(∀ k,D' k→D k∨D2 k) ∧
    Mod (fun k=>k=p) w (((w.setCell ⟨p,0,none⟩ (lkP q2)).setCell ⟨p,1,none⟩ (.map (some b2))).setCell ⟨p,2,none⟩ (.map (some s2))):=by
 obtain⟨q,bb,bs,Dc,Db,Ds,h1,_⟩:=h;obtain⟨q2,b2,s2,Dc2,Db2,Ds2,k1,k2⟩:=h2;have hp:D p:=(h1.dd p).2 (.inl rfl);have np : ¬ D2 p:=hd p hp;have hm:Mod (fun k=>k=p) w (((w.setCell ⟨p,0,none⟩ (lkP q2)).setCell ⟨p,1,none⟩ (.map (some b2))).setCell ⟨p,2,none⟩ (.map (some s2))):=(((Mod.refl (fun k=>k=p) w).setCell (p:=⟨p,0,none⟩) (fun _=>rfl) _).setCell (p:=⟨p,1,none⟩) (fun _=>rfl) _).setCell (p:=⟨p,2,none⟩) (fun _=>rfl) _;have a1:p≠b2:=fun e=>np (e ▸ (k1.dd b2).2 (.inr (.inl rfl)))
 have a2:p≠s2:=fun e=>np (e ▸ (k1.dd s2).2 (.inr (.inr (.inl rfl))))
 have a3 : ¬ Dc2 p:=fun e=>np ((k1.dd p).2 (.inr (.inr (.inr e))))
 refine⟨q2,b2,s2,k1.cells,⟨_,_,_,h1.box,k1.box⟩,fun k=>k=p∨k=b2∨k=s2∨Dc2 k,⟨q2,b2,s2,Dc2,Db2,Ds2,⟨zcl h1.box,k1.cas.frame hm (fun k hk e=>a3 (e ▸ hk)),k1.births.mod hm (fun e=>a1 e.symm),k1.slots.mod hm (fun e=>a2 e.symm),a3,k1.nbb,k1.nbs,⟨a1,a2,k1.ne.2.2⟩,fun k=>xZ⟩,k2⟩,fun k hk => ?_,hm⟩;rcases hk with rfl | rfl | rfl | e
 ·exact .inl hp
 ·exact .inr ((k1.dd k).2 (.inr (.inl rfl)))
 ·exact .inr ((k1.dd k).2 (.inr (.inr (.inl rfl))))
 ·exact .inr ((k1.dd k).2 (.inr (.inr (.inr e))))
end
section
variable{w w':World}{D:Nat→Prop}{p now q bb bs:Nat}{Dc:Nat→Prop}{Db Ds:DataW Unit}{M M' L acc:List Td}{x:Td}{tv:List Nat}
theorem yf.mem(h:yf w D p now M) : ∃ q bb bs Dc Db Ds,yW w D p now q bb bs Dc Db Ds M (yn M):=by
 obtain⟨q,bb,bs,Dc,Db,Ds,h1,h2⟩:=h;exact⟨q,bb,bs,Dc,Db,Ds,h1⟩
end
end
section
open Go.RowKit Go.Shelf
variable{Fo:Nat→Prop}
def J2(w:World)(v:Value):Prop:=v=.pointer none ∨ ∃ d,v=xr d∧w.heap[d]? = some (.cells #[.pointer none,.int .u64 0,.bool false,.pointer none] 147 (0,0))
theorem J2.pure{w w':World}{v:Value}(h:J2 w v)(hp:zb w w'):J2 w' v:=by
 rcases h with h | ⟨b,h1,h2⟩
 ·exact .inl h
 ·exact .inr ⟨b,h1,hp.heap (fun h=>h) h2⟩
end
section
open Go.RowKit Go.Shelf
variable{Fo:Nat→Prop}
attribute [local go_sem] Oper.semAt_some
structure Part(seed:Nat)(same:Bool)(L:List (Option Ent))(S:Nat→Prop)(Gs:List Grp):Prop where
 holds:yC (yh seed same L) S Gs
 sub : ∀ s,S s→ua L s
 uniq : ∀ s t,S s→S t→yL L s=yL L t→s=t
def ziS(L:List (Option Ent))(S:Nat→Prop)(key:ByteArray)(r:Nat × Nat):Prop :=
 (∃ s,S s∧yL L s=key∧r=(s,0))∨((∀ s,S s→yL L s≠key)∧r=(0,9))
theorem Part.find{seed:Nat}{same:Bool}{L:List (Option Ent)}{S:Nat→Prop}{Gs:List Grp}(h:Part seed same L S Gs){w w':World}{D:Nat→Prop}{p:Nat}{sv:Value}{key:ByteArray}{C:TypeId→Prop}{J:List Nat→World→Prop}{e:Ending}
  (hp:JD w D p sv Gs (kL seed same key) (fun _ s=>yL L s==key) C J e w') : ∃ r,ziS L S key r∧e=.returned (.tuple #[.int .u32 (r.1:Nat),.int .i64 (r.2:Nat)]):=by
 obtain⟨_,_,⟨a,x,post,h1,h2,h3,h4,h5⟩ | ⟨h1,h2,h3⟩⟩:=hp
 ·have hx:x∈xD Gs (kL seed same key):=by rw[h1];simp
  have hS:=zdB h.holds hx;have hk:(yL L (zS Gs x)==key)=true:=h3;exact⟨(zS Gs x,0),.inl ⟨_,hS,(YT _ _).1 hk,rfl⟩,h4⟩
 ·refine⟨(0,9),.inr ⟨fun s hs hk => ?_,rfl⟩,h2⟩;obtain⟨i,j,hm,hF⟩:=h.holds.find_some (s:=s) hs;have e1:yh seed same L s=kL seed same key:=by unfold yh;rw[hk]
  rw[e1]at hm;unfold uo at hm;have hx:=ZU hm;have:=Vq h1 _ (zI.2 ⟨_,hx,rfl⟩);rw[hF.slot,hk,(YT key key).2 rfl]at this
  cases this
theorem Part.keeps{seed:Nat}{same:Bool}{L:List (Option Ent)}{S:Nat→Prop}{Gs:List Grp}(h:Part seed same L S Gs)(hS : ∀ s,S s↔ua L s)(hu:zD Gs=yb L):vS seed same L Gs :=
 ⟨h.holds.of_iff hS,fun s t e f h1 h2 hk=>h.uniq s t ((hS s).2 ⟨e,h1⟩) ((hS t).2 ⟨f,h2⟩) (by rw[ZI h1,ZI h2,hk]),hu⟩
section
variable{w:World}{d q p:Nat}{sv:Value}{Dl:Nat→Prop}{seed:Nat}{same:Bool}{L:List (Option Ent)}{Gs:List Grp}
theorem zfG(L:List (Option Ent)) : ∀ i,((jj i L).map Prod.fst).Pairwise (· < ·):=by
 induction L with
 | nil=>intro i;simp[jj]
 | cons o L ih =>
  intro i
  cases o with
  | none=>exact ih (i+1)
  | some e =>
   simp only[jj,List.map_cons,List.pairwise_cons];refine⟨fun y hy => ?_,ih (i+1)⟩;obtain⟨g,hg,rfl⟩:=zI.1 hy;have:=(zbK hg).1;omega
def Zc(pre:List (Nat × Ent))(s:Nat):Prop:=s∈pre.map Prod.fst
def ofM(seed:Nat)(same:Bool)(L:List (Option Ent))(pre:List (Nat × Ent)):List Grp:=(pre.map Prod.fst).foldl (j7 (yh seed same L)) (xt 1)
theorem zg1(seed:Nat)(same:Bool)(L:List (Option Ent))(pre:List (Nat × Ent))(g:Nat × Ent):ofM seed same L (pre++[g])=j7 (yh seed same L) (ofM seed same L pre) g.1:=by
 unfold ofM;rw[vr,Yt];rfl
theorem Part.put{L:List (Option Ent)}{pre:List (Nat × Ent)}{g:Nat × Ent}{post:List (Nat × Ent)}(h:Part seed same L (Zc pre) (ofM seed same L pre))(hu:zD (ofM seed same L pre)=pre.length)(hl:live L=pre++g::post)(hlen:L.length≤4194304)
  (hn : ∀ s,Zc pre s→yL L s≠g.2.key) :
  Part seed same L (Zc (pre++[g])) (ofM seed same L (pre++[g]))∧zD (ofM seed same L (pre++[g]))=(pre++[g]).length∧g.1≤4294967295 ∧
   ∃ x,jE (ofM seed same L pre).length (zD (ofM seed same L pre)) (yi (ofM seed same L pre))=some x∧Pow x.1∧zD (ofM seed same L pre)≤8*x.1∧vJ (doG (yh seed same L) x (ofM seed same L pre)) (yh seed same L g.1) g.1=some (ofM seed same L (pre++[g])):=by
 have hup:=zfG L 0;rw[show jj 0 L=live L from rfl,hl,vr,qJ,j6]at hup;have hnot : ¬ Zc pre g.1:=fun hs=>by have:=hup.2.2 _ hs g.1 (by simp);omega
 have hg:L[g.1]? = some (some g.2):=zjJ (by rw[hl];simp);have hlt:=(zE.1 hg).1;have hpl:pre.length≤4194304:=by have:=zjV L;rw[hl]at this;simp at this;omega
 obtain⟨x,k1,k2,k3,k4,k5,k6,k7,k8⟩:=h.holds.put (by rw[hu];exact hpl) (s:=g.1) (by omega) hnot;rw[zg1];have hiff : ∀ s,Zc (pre++[g]) s↔s=g.1∨Zc pre s:=fun s=>by unfold Zc;simp[or_comm]
 refine⟨⟨k7.of_iff (fun s=>(hiff s).symm),fun s hs => ?_,fun s t hs ht hk => ?_⟩,by rw[k8,hu];simp,by omega,x,k1,k2,k3,k6⟩
 ·rcases(hiff s).1 hs with rfl | hs
  ·exact⟨g.2,hg⟩
  ·exact h.sub s hs
 ·rcases(hiff s).1 hs with rfl | hs<;>rcases(hiff t).1 ht with rfl | ht
  ·rfl
  ·rw[ZI hg]at hk;exact absurd hk.symm (hn t ht)
  ·rw[ZI hg]at hk;exact absurd hk (hn s hs)
  ·exact h.uniq s t hs ht hk
end
end
section
open Go.RowKit Go.Shelf
variable{Fo:Nat→Prop}
attribute [local go_sem] Oper.semAt_some
theorem yg.quiet'{N:Nat}{A B:World}{D:Nat→Prop}{p:Nat}{L:List (Option Ent)}(h:yg Fo A D p L)(hq:zB N A B):yg Fo B D p L:=by
 obtain⟨sv,M,rfl,h⟩:=h;exact(h.quiet hq).toAt
section
variable{w w':World}{d q p:Nat}{sv:Value}{Dl:Nat→Prop}{seed:Nat}{same:Bool}{L:List (Option Ent)}{Gs:List Grp}
theorem ya.quiet{N:Nat}{A B:World}(h:ya Fo A d q p sv Dl seed same L Gs)(hq:zB N A B):ya Fo B d q p sv Dl seed same L Gs :=
 ⟨hq.cells h.box,h.log.quiet' hq,h.ix.quiet hq,h.sd⟩
end
structure Jm(Fo:Nat→Prop)(w:World)(d q:Nat)(Dl:Nat→Prop)(seed:Nat)(same:Bool)(L:List (Option Ent))(It:Nat→Prop)(b4 b5 b7:Nat)(pre:List xL)(W:World):Prop where
 r4:W.heap[b4]? = some (.cells #[.pointer none] 91 (0,0))
 r5:W.heap[b5]? = some (.cells #[.int .i64 0] 24 (0,0))
 r7:W.heap[b7]? = some (.cells #[.pointer (some ⟨d,0,none⟩)] 91 (0,0))
 mem : ∃ p sv,ya Fo W d q p sv Dl seed same L (ofM seed same L (pre.map uS))∧w.heap.size≤p∧(∀ k,sv.ownBlock=some k→w.heap.size≤k) ∧ ¬ It p ∧ ∀ k,sv.ownBlock=some k → ¬ It k
 part:Part seed same L (Zc (pre.map uS)) (ofM seed same L (pre.map uS))
 used:zD (ofM seed same L (pre.map uS))=pre.length
 pu:zb w W
theorem Jm.quiet{w:World}{d q:Nat}{Dl:Nat→Prop}{seed:Nat}{same:Bool}{L:List (Option Ent)}{It:Nat→Prop}{b4 b5 b7:Nat}{pre:List xL}{A B:World}(h:Jm Fo w d q Dl seed same L It b4 b5 b7 pre A){N:Nat}(hN:w.heap.size≤N)(hq:zB N A B):Jm Fo w d q Dl seed same L It b4 b5 b7 pre B:=by
 obtain⟨p,sv,h1,h2⟩:=h.mem;exact⟨hq.cells h.r4,hq.cells h.r5,hq.cells h.r7,⟨p,sv,h1.quiet hq,h2⟩,h.part,h.used,hq.mod h.pu hN⟩
end
section
open Go.RowKit Go.Shelf
variable{Fo:Nat→Prop}
end
section
open Go.RowKit
structure CaB where
 p:Nat
 d:Nat
 c:Nat
 o:Nat
 u:Nat
 t:Nat
 v:Nat
 Dd:Nat→Prop
 Do:Nat→Prop
 Dt:Nat→Prop
 ns:List EvN
 Gs:List Grp
 cl:Nat→Nat
structure CaS where
 cfg:Cfg
 L:List (Option CE)
 births:Nat
 lim:Int
 A:List Wt
 B:List Wt
 mc:Nat
 mb:Nat
 U:Bu
 now:Nat
 M:List Td
 evs:List Ev
def zP(L:List (Option CE)):List (Option Ent):=L.map (fun o=>o.map CE.ent)
def CaB.D(b:CaB)(k:Nat):Prop:=k=b.p∨b.Dd k∨k=b.c∨b.Do k∨k=b.u∨b.Dt k∨evD b.v b.ns k
structure CaB.Sep(b:CaB):Prop where
 p:b.cl b.p=1
 d : ∀ k,b.Dd k→b.cl k=2
 c:b.cl b.c=3
 o : ∀ k,b.Do k→b.cl k=4
 u:b.cl b.u=5
 t : ∀ k,b.Dt k→b.cl k=6
 v : ∀ k,evD b.v b.ns k→b.cl k=7
 z:b.cl 0=0
structure zo(Fo:Nat→Prop)(w:World)(b:CaB)(s:CaS):Prop where
 box:w.heap[b.p]? = some (.cells #[xr b.d,jF b.c,lkP b.o,buP b.u,lkP b.t,lkP b.v,.int .i64 s.cfg.count,.int .i64 s.cfg.bytes,.int .i64 s.cfg.prot,.int .u64 s.cfg.seed,.bool s.cfg.same] 100 (0,0))
 dict:yc (fun k=>Fo k∨b.D k) w b.Dd b.d s.cfg.seed s.cfg.same (zP s.L) b.Gs
 ctr:Ctr w b.c s.births
 order:yX w b.Do b.o s.lim s.A s.B
 used:yV w b.u s.mc s.mb s.U
 due:yf w b.Dt b.t s.now s.M
 ev:xN (fun k=>Fo k∨b.D k) w b.v b.ns
 evs:Zj b.ns=s.evs
 sep:b.Sep
 tab:xb w
def xY(w:World)(cl:Nat→Nat)(n:Nat)(k:Nat):Nat:=if k<w.heap.size then cl k else n
theorem Zf{w:World}{cl:Nat→Nat}{n k:Nat}(h:k<w.heap.size):xY w cl n k=cl k:=zj h
theorem V0{w:World}{cl:Nat→Nat}{n k:Nat}(h:w.heap.size≤k):xY w cl n k=n:=zh (by omega)
section
variable{Fo S:Nat→Prop}{w w':World}{b:CaB}{s:CaS}
theorem zo.lt(h:zo Fo w b s){k:Nat}(hk:b.D k):k<w.heap.size:=by
 rcases hk with rfl | e | rfl | e | rfl | e | e
 ·exact zm h.box
 ·exact h.dict.lt e
 ·exact zm h.ctr
 ·exact h.order.lt e
 ·exact zm h.used.box
 ·exact h.due.lt e
 ·exact h.ev.lt e
theorem zo.pos(h:zo Fo w b s):0<w.heap.size:=h.tab.lt
theorem zo.pure(h:zo Fo w b s)(hp:zb w w'):zo Fo w' b s :=
 ⟨hp.heap (fun h=>h) h.box,h.dict.pure hp,h.ctr.pure hp,h.order.pure hp,h.used.pure hp,h.due.pure hp,(by obtain⟨k0,k1,k2,k3,k4,k5,h⟩:=h.ev;exact⟨k0,k1,k2,k3,k4,k5,h.pure hp⟩),h.evs,h.sep,h.tab.pure hp⟩
theorem zo.less{Fo':Nat→Prop}(h:zo Fo w b s)(h1 : ∀ k,Fo' k→Fo k):zo Fo' w b s :=
 ⟨h.box,h.dict.less (fun k hk=>hk.imp (h1 k) (fun h=>h)),h.ctr,h.order,h.used,h.due,h.ev.less (fun k hk=>hk.imp (h1 k) (fun h=>h)),h.evs,h.sep,h.tab⟩
theorem zo.foreign(h:zo Fo w b s)(hm:Mod S w w')(hd : ∀ k,b.D k → ¬ S k)(hS : ∀ k,k<w.heap.size→S k→Fo k)(h0 : ¬ S 0):zo Fo w' b s :=
 ⟨hm.heap (hd _ (.inl rfl)) h.box,h.dict.frameF hm (fun k hk=>hd k (.inr (.inl hk))) (fun k hk hs => .inl (.inl (hS k hk hs))),hm.heap (hd _ (.inr (.inr (.inl rfl)))) h.ctr,h.order.frame hm (fun k hk=>hd k (.inr (.inr (.inr (.inl hk))))),h.used.frame hm (hd _ (.inr (.inr (.inr (.inr (.inl rfl)))))),h.due.frame hm (fun k hk=>hd k (.inr (.inr (.inr (.inr (.inr (.inl hk))))))),
  (by obtain⟨k0,k1,k2,k3,k4,k5,h1⟩:=h.ev;exact⟨k0,k1,k2,k3,k4,k5,h1.frameF hm (fun k hk=>hd k (.inr (.inr (.inr (.inr (.inr (.inr hk))))))) (fun k hk hs => .inl (.inl (hS k hk hs)))⟩),h.evs,h.sep,h.tab.mod hm h0⟩
end
section
variable{Fo S:Nat→Prop}{w w':World}{b:CaB}{s:CaS}
structure zgd(F':Nat→Prop)(w':World)(b:CaB)(s:CaS)(j:Nat):Prop where
 box:j≠1→w'.heap[b.p]? = some (.cells #[xr b.d,jF b.c,lkP b.o,buP b.u,lkP b.t,lkP b.v,.int .i64 s.cfg.count,.int .i64 s.cfg.bytes,.int .i64 s.cfg.prot,.int .u64 s.cfg.seed,.bool s.cfg.same] 100 (0,0))
 dict:j≠2→yc F' w' b.Dd b.d s.cfg.seed s.cfg.same (zP s.L) b.Gs
 ctr:j≠3→Ctr w' b.c s.births
 order:j≠4→yX w' b.Do b.o s.lim s.A s.B
 used:j≠5→yV w' b.u s.mc s.mb s.U
 due:j≠6→yf w' b.Dt b.t s.now s.M
 ev:j≠7→xN F' w' b.v b.ns
 tab:xb w'
theorem zo.rest(h:zo Fo w b s){j:Nat}(hm:Mod S w w')(hj:j≠0)(hS : ∀ k,k<w.heap.size→S k→b.cl k=j∧b.D k){F':Nat→Prop}(h1 : ∀ k,F' k→(Fo k∨b.D k)∨w.heap.size≤k)(h2 : ∀ k,F' k→k<w'.heap.size):zgd F' w' b s j:=by
 have no : ∀ k,b.D k→b.cl k≠j → ¬ S k:=fun k hk hc hs=>hc (hS k (h.lt hk) hs).1
 refine⟨fun hn=>hm.heap (no b.p (.inl rfl) (by rw[h.sep.p];omega)) h.box,fun hn=>h.dict.frameR hm (fun k hk=>no k (.inr (.inl hk)) (by rw[h.sep.d k hk];omega)) (fun k hk hs => .inr (hS k hk hs).2) h1 h2,fun hn=>hm.heap (no b.c (.inr (.inr (.inl rfl))) (by rw[h.sep.c];omega)) h.ctr,
  fun hn=>h.order.frame hm (fun k hk=>no k (.inr (.inr (.inr (.inl hk)))) (by rw[h.sep.o k hk];omega)),fun hn=>h.used.frame hm (no b.u (.inr (.inr (.inr (.inr (.inl rfl))))) (by rw[h.sep.u];omega)),
  fun hn=>h.due.frame hm (fun k hk=>no k (.inr (.inr (.inr (.inr (.inr (.inl hk)))))) (by rw[h.sep.t k hk];omega)),fun hn=>h.ev.frameR hm (fun k hk=>no k (.inr (.inr (.inr (.inr (.inr (.inr hk)))))) (by rw[h.sep.v k hk];omega)) (fun k hk hs => .inr (hS k hk hs).2) h1 h2,
  h.tab.mod hm (fun hs=>by have:=(hS 0 h.pos hs).1;rw[h.sep.z]at this;omega)⟩
theorem zo.flt(h:zo Fo w b s){k:Nat}(hk:Fo k):k<w.heap.size:=h.dict.flt _ (.inl hk)
theorem CaB.Sep.grow(h:b.Sep)(hl : ∀ k,b.D k→k<w.heap.size)(h0:0<w.heap.size){j:Nat}{Dd' Do' Dt':Nat→Prop}{ns':List EvN}(gd : ∀ k,Dd' k→b.Dd k∨w.heap.size≤k∧j=2)(go : ∀ k,Do' k→b.Do k∨w.heap.size≤k∧j=4)(gt : ∀ k,Dt' k→b.Dt k∨w.heap.size≤k∧j=6)(gv : ∀ k,evD b.v ns' k→evD b.v b.ns k∨w.heap.size≤k∧j=7){Gs':List Grp} :
  CaB.Sep {b with Dd:=Dd',Do:=Do',Dt:=Dt',ns:=ns',Gs:=Gs',cl:=xY w b.cl j}:=by
 refine⟨?_,fun k hk => ?_,?_,fun k hk => ?_,?_,fun k hk => ?_,fun k hk => ?_,?_⟩
 ·show xY w b.cl j b.p=1
  rw[Zf (hl _ (.inl rfl)),h.p]
 ·show xY w b.cl j k=2
  rcases gd k hk with e | ⟨e,ej⟩
  ·rw[Zf (hl _ (.inr (.inl e))),h.d k e]
  ·rw[V0 e,ej]
 ·show xY w b.cl j b.c=3
  rw[Zf (hl _ (.inr (.inr (.inl rfl)))),h.c]
 ·show xY w b.cl j k=4
  rcases go k hk with e | ⟨e,ej⟩
  ·rw[Zf (hl _ (.inr (.inr (.inr (.inl e))))),h.o k e]
  ·rw[V0 e,ej]
 ·show xY w b.cl j b.u=5
  rw[Zf (hl _ (.inr (.inr (.inr (.inr (.inl rfl)))))),h.u]
 ·show xY w b.cl j k=6
  rcases gt k hk with e | ⟨e,ej⟩
  ·rw[Zf (hl _ (.inr (.inr (.inr (.inr (.inr (.inl e))))))),h.t k e]
  ·rw[V0 e,ej]
 ·show xY w b.cl j k=7
  rcases gv k hk with e | ⟨e,ej⟩
  ·rw[Zf (hl _ (.inr (.inr (.inr (.inr (.inr (.inr e))))))),h.v k e]
  ·rw[V0 e,ej]
 ·show xY w b.cl j 0=0
  rw[Zf h0,h.z]
theorem zo.putDict(h:zo Fo w b s){Dd':Nat→Prop}{Gs':List Grp}{L':List (Option CE)}(hd:yc (fun k=>Fo k∨b.D k) w' Dd' b.d s.cfg.seed s.cfg.same (zP L') Gs')(hm:Mod b.Dd w w')(hg:vO b.Dd Dd' w):zo Fo w' {b with Dd:=Dd',Gs:=Gs',cl:=xY w b.cl 2} {s with L:=L'}:=by
 obtain⟨b',hb'⟩ : ∃ b',{b with Dd:=Dd',Gs:=Gs',cl:=xY w b.cl 2}=b':=⟨_,rfl⟩;have hDn : ∀ k,b'.D k→b.D k∨w.heap.size≤k:=fun k hk=>by
  subst hb';rcases hk with e | e | e | e | e | e | e
  ·exact .inl (.inl e)
  ·exact(hg k e).imp (fun e=>(.inr (.inl e))) (fun e=>e)
  ·exact .inl (.inr (.inr (.inl e)))
  ·exact .inl (.inr (.inr (.inr (.inl e))))
  ·exact .inl (.inr (.inr (.inr (.inr (.inl e)))))
  ·exact .inl (.inr (.inr (.inr (.inr (.inr (.inl e))))))
  ·exact .inl (.inr (.inr (.inr (.inr (.inr (.inr e))))))
 have hDl : ∀ k,b'.D k→k<w'.heap.size:=fun k hk=>by
  subst hb';rcases hk with e | e | e | e | e | e | e
  ·exact hm.lt (h.lt (.inl e))
  ·exact hd.lt e
  ·exact hm.lt (h.lt (.inr (.inr (.inl e))))
  ·exact hm.lt (h.lt (.inr (.inr (.inr (.inl e)))))
  ·exact hm.lt (h.lt (.inr (.inr (.inr (.inr (.inl e))))))
  ·exact hm.lt (h.lt (.inr (.inr (.inr (.inr (.inr (.inl e)))))))
  ·exact hm.lt (h.lt (.inr (.inr (.inr (.inr (.inr (.inr e)))))))
 have hr:=h.rest (j:=2) hm (by decide) (fun k _ hs=>⟨h.sep.d k hs,(.inr (.inl hs))⟩) (F':=fun k=>Fo k∨b'.D k) (fun k hk=>hk.elim (fun e => .inl (.inl e)) (fun e=>(hDn k e).imp .inr (fun e=>e))) (fun k hk=>hk.elim (fun e=>hm.lt (h.flt e)) (hDl k));have hd2:=hd.add (T:=Dd') (fun k hk=>hd.holds hk);have hd3:=hd2.less (Fo':=fun k=>Fo k∨b'.D k) (fun k hk=>by
  rcases hk with e | e
  ·exact .inl (.inl e)
  ·subst hb';rcases e with e | e | e | e | e | e | e
   ·exact .inl (.inr (.inl e))
   ·exact .inr e
   ·exact .inl (.inr (.inr (.inr (.inl e))))
   ·exact .inl (.inr (.inr (.inr (.inr (.inl e)))))
   ·exact .inl (.inr (.inr (.inr (.inr (.inr (.inl e))))))
   ·exact .inl (.inr (.inr (.inr (.inr (.inr (.inr (.inl e)))))))
   ·exact .inl (.inr (.inr (.inr (.inr (.inr (.inr (.inr e))))))))
 have hsep:=h.sep.grow (w:=w) (fun k hk=>h.lt hk) h.pos (j:=2) (fun k hk=>(hg k hk).imp (fun e=>e) (fun e=>⟨e,rfl⟩)) (fun k hk => .inl hk) (fun k hk => .inl hk) (fun k hk => .inl hk) (Gs':=Gs');subst hb';exact⟨hr.box (by decide),hd3,hr.ctr (by decide),hr.order (by decide),hr.used (by decide),hr.due (by decide),hr.ev (by decide),h.evs,hsep,hr.tab⟩
theorem zo.putOrder(h:zo Fo w b s){Do':Nat→Prop}{lim':Int}{A' B':List Wt}(hd:yX w' Do' b.o lim' A' B')(hm:Mod b.Do w w')(hg : ∀ k,Do' k→b.Do k∨w.heap.size≤k):zo Fo w' {b with Do:=Do',cl:=xY w b.cl 4} {s with lim:=lim',A:=A',B:=B'}:=by
 obtain⟨b',hb'⟩ : ∃ b',{b with Do:=Do',cl:=xY w b.cl 4}=b':=⟨_,rfl⟩;have hDn : ∀ k,b'.D k→b.D k∨w.heap.size≤k:=fun k hk=>by
  subst hb';rcases hk with e | e | e | e | e | e | e
  ·exact .inl (.inl e)
  ·exact .inl (.inr (.inl e))
  ·exact .inl (.inr (.inr (.inl e)))
  ·exact(hg k e).imp (fun e=>(.inr (.inr (.inr (.inl e))))) (fun e=>e)
  ·exact .inl (.inr (.inr (.inr (.inr (.inl e)))))
  ·exact .inl (.inr (.inr (.inr (.inr (.inr (.inl e))))))
  ·exact .inl (.inr (.inr (.inr (.inr (.inr (.inr e))))))
 have hDl : ∀ k,b'.D k→k<w'.heap.size:=fun k hk=>by
  subst hb';rcases hk with e | e | e | e | e | e | e
  ·exact hm.lt (h.lt (.inl e))
  ·exact hm.lt (h.lt (.inr (.inl e)))
  ·exact hm.lt (h.lt (.inr (.inr (.inl e))))
  ·exact hd.lt e
  ·exact hm.lt (h.lt (.inr (.inr (.inr (.inr (.inl e))))))
  ·exact hm.lt (h.lt (.inr (.inr (.inr (.inr (.inr (.inl e)))))))
  ·exact hm.lt (h.lt (.inr (.inr (.inr (.inr (.inr (.inr e)))))))
 have hr:=h.rest (j:=4) hm (by decide) (fun k _ hs=>⟨h.sep.o k hs,(.inr (.inr (.inr (.inl hs))))⟩) (F':=fun k=>Fo k∨b'.D k) (fun k hk=>hk.elim (fun e => .inl (.inl e)) (fun e=>(hDn k e).imp .inr (fun e=>e))) (fun k hk=>hk.elim (fun e=>hm.lt (h.flt e)) (hDl k));have hsep:=h.sep.grow (w:=w) (fun k hk=>h.lt hk) h.pos (j:=4) (fun k hk => .inl hk) (fun k hk=>(hg k hk).imp (fun e=>e) (fun e=>⟨e,rfl⟩)) (fun k hk => .inl hk) (fun k hk => .inl hk) (Gs':=b.Gs);subst hb';exact⟨hr.box (by decide),hr.dict (by decide),hr.ctr (by decide),hd,hr.used (by decide),hr.due (by decide),hr.ev (by decide),h.evs,hsep,hr.tab⟩
theorem zo.putDue(h:zo Fo w b s){Dt':Nat→Prop}{now':Nat}{M':List Td}(hd:yf w' Dt' b.t now' M')(hm:Mod b.Dt w w')(hg : ∀ k,Dt' k→b.Dt k∨w.heap.size≤k):zo Fo w' {b with Dt:=Dt',cl:=xY w b.cl 6} {s with now:=now',M:=M'}:=by
 obtain⟨b',hb'⟩ : ∃ b',{b with Dt:=Dt',cl:=xY w b.cl 6}=b':=⟨_,rfl⟩;have hDn : ∀ k,b'.D k→b.D k∨w.heap.size≤k:=fun k hk=>by
  subst hb';rcases hk with e | e | e | e | e | e | e
  ·exact .inl (.inl e)
  ·exact .inl (.inr (.inl e))
  ·exact .inl (.inr (.inr (.inl e)))
  ·exact .inl (.inr (.inr (.inr (.inl e))))
  ·exact .inl (.inr (.inr (.inr (.inr (.inl e)))))
  ·exact(hg k e).imp (fun e=>(.inr (.inr (.inr (.inr (.inr (.inl e))))))) (fun e=>e)
  ·exact .inl (.inr (.inr (.inr (.inr (.inr (.inr e))))))
 have hDl : ∀ k,b'.D k→k<w'.heap.size:=fun k hk=>by
  subst hb';rcases hk with e | e | e | e | e | e | e
  ·exact hm.lt (h.lt (.inl e))
  ·exact hm.lt (h.lt (.inr (.inl e)))
  ·exact hm.lt (h.lt (.inr (.inr (.inl e))))
  ·exact hm.lt (h.lt (.inr (.inr (.inr (.inl e)))))
  ·exact hm.lt (h.lt (.inr (.inr (.inr (.inr (.inl e))))))
  ·exact hd.lt e
  ·exact hm.lt (h.lt (.inr (.inr (.inr (.inr (.inr (.inr e)))))))
 have hr:=h.rest (j:=6) hm (by decide) (fun k _ hs=>⟨h.sep.t k hs,(.inr (.inr (.inr (.inr (.inr (.inl hs))))))⟩) (F':=fun k=>Fo k∨b'.D k) (fun k hk=>hk.elim (fun e => .inl (.inl e)) (fun e=>(hDn k e).imp .inr (fun e=>e))) (fun k hk=>hk.elim (fun e=>hm.lt (h.flt e)) (hDl k));have hsep:=h.sep.grow (w:=w) (fun k hk=>h.lt hk) h.pos (j:=6) (fun k hk => .inl hk) (fun k hk => .inl hk) (fun k hk=>(hg k hk).imp (fun e=>e) (fun e=>⟨e,rfl⟩)) (fun k hk => .inl hk) (Gs':=b.Gs);subst hb';exact⟨hr.box (by decide),hr.dict (by decide),hr.ctr (by decide),hr.order (by decide),hr.used (by decide),hd,hr.ev (by decide),h.evs,hsep,hr.tab⟩
theorem zo.putEv(h:zo Fo w b s){ns':List EvN}{evs':List Ev}(hd:xN (fun k=>Fo k∨b.D k) w' b.v ns')(he:Zj ns'=evs')(hm:Mod (evD b.v b.ns) w w')(hg : ∀ k,evD b.v ns' k→evD b.v b.ns k∨w.heap.size≤k):zo Fo w' {b with ns:=ns',cl:=xY w b.cl 7} {s with evs:=evs'}:=by
 obtain⟨b',hb'⟩ : ∃ b',{b with ns:=ns',cl:=xY w b.cl 7}=b':=⟨_,rfl⟩;have hDn : ∀ k,b'.D k→b.D k∨w.heap.size≤k:=fun k hk=>by
  subst hb';rcases hk with e | e | e | e | e | e | e
  ·exact .inl (.inl e)
  ·exact .inl (.inr (.inl e))
  ·exact .inl (.inr (.inr (.inl e)))
  ·exact .inl (.inr (.inr (.inr (.inl e))))
  ·exact .inl (.inr (.inr (.inr (.inr (.inl e)))))
  ·exact .inl (.inr (.inr (.inr (.inr (.inr (.inl e))))))
  ·exact(hg k e).imp (fun e=>(.inr (.inr (.inr (.inr (.inr (.inr e))))))) (fun e=>e)
 have hDl : ∀ k,b'.D k→k<w'.heap.size:=fun k hk=>by
  subst hb';rcases hk with e | e | e | e | e | e | e
  ·exact hm.lt (h.lt (.inl e))
  ·exact hm.lt (h.lt (.inr (.inl e)))
  ·exact hm.lt (h.lt (.inr (.inr (.inl e))))
  ·exact hm.lt (h.lt (.inr (.inr (.inr (.inl e)))))
  ·exact hm.lt (h.lt (.inr (.inr (.inr (.inr (.inl e))))))
  ·exact hm.lt (h.lt (.inr (.inr (.inr (.inr (.inr (.inl e)))))))
  ·exact hd.lt e
 have hr:=h.rest (j:=7) hm (by decide) (fun k _ hs=>⟨h.sep.v k hs,(.inr (.inr (.inr (.inr (.inr (.inr hs))))))⟩) (F':=fun k=>Fo k∨b'.D k) (fun k hk=>hk.elim (fun e => .inl (.inl e)) (fun e=>(hDn k e).imp .inr (fun e=>e))) (fun k hk=>hk.elim (fun e=>hm.lt (h.flt e)) (hDl k));have hd2:=hd.add (T:=evD b.v ns') (fun k hk=>hd.holds hk);have hd3:=hd2.less (Fo':=fun k=>Fo k∨b'.D k) (fun k hk=>by
  rcases hk with e | e
  ·exact .inl (.inl e)
  ·subst hb';rcases e with e | e | e | e | e | e | e
   ·exact .inl (.inr (.inl e))
   ·exact .inl (.inr (.inr (.inl e)))
   ·exact .inl (.inr (.inr (.inr (.inl e))))
   ·exact .inl (.inr (.inr (.inr (.inr (.inl e)))))
   ·exact .inl (.inr (.inr (.inr (.inr (.inr (.inl e))))))
   ·exact .inl (.inr (.inr (.inr (.inr (.inr (.inr (.inl e)))))))
   ·exact .inr e)
 have hsep:=h.sep.grow (w:=w) (fun k hk=>h.lt hk) h.pos (j:=7) (fun k hk => .inl hk) (fun k hk => .inl hk) (fun k hk => .inl hk) (fun k hk=>(hg k hk).imp (fun e=>e) (fun e=>⟨e,rfl⟩)) (Gs':=b.Gs);subst hb';exact⟨hr.box (by decide),hr.dict (by decide),hr.ctr (by decide),hr.order (by decide),hr.used (by decide),hr.due (by decide),hd3,he,hsep,hr.tab⟩
theorem zo.putCtr(h:zo Fo w b s){n:Nat}(hd:Ctr w' b.c n)(hm:Mod (fun k=>k=b.c) w w'):zo Fo w' b {s with births:=n}:=by
 have hr:=h.rest (j:=3) hm (by decide) (fun k _ hs=>⟨by subst hs;exact h.sep.c,(.inr (.inr (.inl hs)))⟩) (F':=fun k=>Fo k∨b.D k) (fun k hk => .inl hk) (fun k hk=>hm.lt (hk.elim (fun e=>h.flt e) (fun e=>h.lt e)));exact⟨hr.box (by decide),hr.dict (by decide),hd,hr.order (by decide),hr.used (by decide),hr.due (by decide),hr.ev (by decide),h.evs,h.sep,hr.tab⟩
theorem zo.putUsed(h:zo Fo w b s){mc' mb':Nat}{U':Bu}(hd:yV w' b.u mc' mb' U')(hm:Mod (fun k=>k=b.u) w w'):zo Fo w' b {s with mc:=mc',mb:=mb',U:=U'}:=by
 have hr:=h.rest (j:=5) hm (by decide) (fun k _ hs=>⟨by subst hs;exact h.sep.u,(.inr (.inr (.inr (.inr (.inl hs)))))⟩) (F':=fun k=>Fo k∨b.D k) (fun k hk => .inl hk) (fun k hk=>hm.lt (hk.elim (fun e=>h.flt e) (fun e=>h.lt e)));exact⟨hr.box (by decide),hr.dict (by decide),hr.ctr (by decide),hr.order (by decide),hd,hr.due (by decide),hr.ev (by decide),h.evs,h.sep,hr.tab⟩
structure zu(w w':World)(b b':CaB):Prop where
 p:b'.p=b.p
 mod:Mod b.D w w'
 grew : ∀ k,b'.D k→b.D k∨w.heap.size≤k
theorem zu.trans{w2:World}{b1 b2:CaB}(h:zu w w' b b1)(k:zu w' w2 b1 b2):zu w w2 b b2 :=
 ⟨k.p.trans h.p,Mod.trans' h.mod k.mod (fun _ _ h=>h) (fun i hi e=>(h.grew i e).elim (fun e=>e) (fun e=>by omega)),fun i e=>(k.grew i e).elim (fun e=>h.grew i e) (fun e => .inr (zF h.mod.size e))⟩
theorem zu.pure(h:zb w w'):zu w w' b b:=⟨rfl,Mod.of_pure h,fun _ h => .inl h⟩
theorem zu.size{b':CaB}(h:zu w w' b b'):w.heap.size≤w'.heap.size:=h.mod.size
theorem zu.ofDict{Dd':Nat→Prop}{Gs':List Grp}(hm:Mod (b.Dd) w w')(hg : ∀ k,(Dd') k→(b.Dd) k∨w.heap.size≤k):zu w w' b {b with Dd:=Dd',Gs:=Gs',cl:=xY w b.cl 2}:=⟨rfl,hm.mono (fun _ _ hs=>(.inr (.inl hs))),fun k hk=>by
  rcases hk with e | e | e | e | e | e | e
  ·exact .inl ((.inl e))
  ·exact(hg k e).imp (fun e=>(.inr (.inl e))) (fun e=>e)
  ·exact .inl ((.inr (.inr (.inl e))))
  ·exact .inl ((.inr (.inr (.inr (.inl e)))))
  ·exact .inl ((.inr (.inr (.inr (.inr (.inl e))))))
  ·exact .inl ((.inr (.inr (.inr (.inr (.inr (.inl e)))))))
  ·exact .inl ((.inr (.inr (.inr (.inr (.inr (.inr e)))))))⟩
theorem zu.ofOrder{Do':Nat→Prop}(hm:Mod (b.Do) w w')(hg : ∀ k,(Do') k→(b.Do) k∨w.heap.size≤k):zu w w' b {b with Do:=Do',cl:=xY w b.cl 4}:=⟨rfl,hm.mono (fun _ _ hs=>(.inr (.inr (.inr (.inl hs))))),fun k hk=>by
  rcases hk with e | e | e | e | e | e | e
  ·exact .inl ((.inl e))
  ·exact .inl ((.inr (.inl e)))
  ·exact .inl ((.inr (.inr (.inl e))))
  ·exact(hg k e).imp (fun e=>(.inr (.inr (.inr (.inl e))))) (fun e=>e)
  ·exact .inl ((.inr (.inr (.inr (.inr (.inl e))))))
  ·exact .inl ((.inr (.inr (.inr (.inr (.inr (.inl e)))))))
  ·exact .inl ((.inr (.inr (.inr (.inr (.inr (.inr e)))))))⟩
theorem zu.ofDue{Dt':Nat→Prop}(hm:Mod (b.Dt) w w')(hg : ∀ k,(Dt') k→(b.Dt) k∨w.heap.size≤k):zu w w' b {b with Dt:=Dt',cl:=xY w b.cl 6}:=⟨rfl,hm.mono (fun _ _ hs=>(.inr (.inr (.inr (.inr (.inr (.inl hs))))))),fun k hk=>by
  rcases hk with e | e | e | e | e | e | e
  ·exact .inl ((.inl e))
  ·exact .inl ((.inr (.inl e)))
  ·exact .inl ((.inr (.inr (.inl e))))
  ·exact .inl ((.inr (.inr (.inr (.inl e)))))
  ·exact .inl ((.inr (.inr (.inr (.inr (.inl e))))))
  ·exact(hg k e).imp (fun e=>(.inr (.inr (.inr (.inr (.inr (.inl e))))))) (fun e=>e)
  ·exact .inl ((.inr (.inr (.inr (.inr (.inr (.inr e)))))))⟩
theorem zu.ofEv{ns':List EvN}(hm:Mod (evD b.v b.ns) w w')(hg : ∀ k,(evD b.v ns') k→(evD b.v b.ns) k∨w.heap.size≤k):zu w w' b {b with ns:=ns',cl:=xY w b.cl 7}:=⟨rfl,hm.mono (fun _ _ hs=>(.inr (.inr (.inr (.inr (.inr (.inr hs))))))),fun k hk=>by
  rcases hk with e | e | e | e | e | e | e
  ·exact .inl ((.inl e))
  ·exact .inl ((.inr (.inl e)))
  ·exact .inl ((.inr (.inr (.inl e))))
  ·exact .inl ((.inr (.inr (.inr (.inl e)))))
  ·exact .inl ((.inr (.inr (.inr (.inr (.inl e))))))
  ·exact .inl ((.inr (.inr (.inr (.inr (.inr (.inl e)))))))
  ·exact(hg k e).imp (fun e=>(.inr (.inr (.inr (.inr (.inr (.inr e))))))) (fun e=>e)⟩
theorem zu.ofCtr(hm:Mod (fun k=>k=b.c) w w'):zu w w' b b:=⟨rfl,hm.mono (fun _ _ hs=>(.inr (.inr (.inl hs)))),fun _ h => .inl h⟩
theorem zu.ofUsed(hm:Mod (fun k=>k=b.u) w w'):zu w w' b b:=⟨rfl,hm.mono (fun _ _ hs=>(.inr (.inr (.inr (.inr (.inl hs)))))),fun _ h => .inl h⟩
end
end
end Go.Proofs.YtifbnponicgplaaGreatDoor
