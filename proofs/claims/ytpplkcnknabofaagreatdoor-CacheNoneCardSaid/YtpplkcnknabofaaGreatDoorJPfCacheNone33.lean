/- Lemmas and contracts of functions. No condition. -/
import Derived.Test.YtpplkcnknabofaaGreatDoorJPfCacheNone13
import Derived.Test.YtpplkcnknabofaaGreatDoorJPfCacheNone9
namespace Go.Proofs.YtpplkcnknabofaaGreatDoor
open _root_.Go.Proofs.Tryz
set_option maxRecDepth 100000
set_option maxHeartbeats 20000000
set_option linter.all false
section
open Go.RowKit Go.Shelf
variable{Fo:Nat→Prop}
section
variable{w w':World}{D S:Nat→Prop}{d seed:Nat}{same:Bool}{L:List (Option Ent)}{Gs:List Grp}
theorem Ux(h:zW Fo w D d seed same L Gs):Calls prog 99 #[yY d] w fun e w'=>e=.returned (.int .i64 (zV L))∧w=w':=by
  obtain⟨q,p,sv,Dl,h1,h2,h3⟩:=h;have HZ:=za (jZ h1);have HC:=za (zi9 h1.log);have hb:=h1.box;clear h1 h2 h3;obtain⟨hb_0,hb_1,hb_2,hb_3,hb_f,hb_l,H_hb⟩:=cr4 hb;clear hb;go_enter func99,ntmps99
  go_wp2_with (first
    | (go_at_call 142;refine HZ.out.mono ?_;rintro e w' ⟨rfl,rfl⟩)
    | (go_at_call 180;refine HC.out.mono ?_;rintro e w' ⟨rfl,rfl⟩))
  go_ret;exact⟨rfl,rfl⟩
def JN(w:World)(L:List (Option Ent))(Gs:List Grp)(e:Ending)(w':World):Prop :=
 e=.returned (.tuple #[.int .i64 L.length,.int .i64 Gs.length,.int .i64 (ye Gs)])∧zb w w'
theorem zdC(h:zW Fo w D d seed same L Gs):Calls prog 104 #[yY d] w (JN w L Gs):=by
  obtain⟨q,p,sv,Dl,h1,h2,h3⟩:=h;have HZ:=za (jZ h1);have HL:=za (fun(W:World) (hW:zb w W)=>zce (h1.log.pure hW));have HX:=za (fun(W:World) (hW:zb w W)=>UJ (h1.ix.pure hW));have HT:=za (fun(W:World) (hW:zb w W)=>JQ (h1.ix.pure hW));have hb:=h1.box;clear h1 h2 h3;obtain⟨hb_0,hb_1,hb_2,hb_3,hb_f,hb_l,H_hb⟩:=cr4 hb;clear hb;go_enter func104,ntmps104;go_upto_region 3 with(go_at_call 142;refine HZ.out.mono ?_;rintro e w' ⟨rfl,rfl⟩)
  go_region_held3 (fun w'=>w'.cell? ⟨d,0,none⟩=some (.pointer (some ⟨q,0,none⟩))∧w'.cell? ⟨d,3,none⟩=some (.pointer (some ⟨p,0,none⟩)))
    (first | exact⟨hb_0,hb_3⟩)
    (first
      | (go_at_call 184;(with_reducible refine zm (HL.out _ (by first | exact Mod.refl _ _ | exact Mod.drew (Mod.refl _ _))) ?_);rintro e w1 ⟨rfl,rfl⟩)
      | (go_at_call 185;(with_reducible refine zm (HX.out _ (by first | exact Mod.refl _ _ | exact Mod.drew (Mod.refl _ _))) ?_);rintro e w1 ⟨rfl,rfl⟩)
      | (go_at_call 186;(with_reducible refine zm (HT.out _ (by first | exact Mod.refl _ _ | exact Mod.drew (Mod.refl _ _))) ?_);rintro e w1 ⟨rfl,rfl⟩))
  all_goals
    try go_wp2
    refine zK (v := .tuple #[.int .i64 L.length,.int .i64 Gs.length,.int .i64 (ye Gs)]) (by simp[results,results104,go_sem]) rfl ⟨rfl,?_⟩
    first | exact Mod.refl _ _ | exact Mod.drew (Mod.refl _ _)
def DG(Fo:Nat→Prop)(w W:World)(d seed:Nat)(same:Bool)(L:List (Option Ent))(Gs:List Grp):Prop := ∃ D,zW Fo W D d seed same L Gs∧zb w W ∧ ∀ k,D k→w.heap.size≤k
end
section
variable{w W W':World}{d seed:Nat}{same:Bool}{L:List (Option Ent)}{Gs:List Grp}
theorem DG.pu(h:DG Fo w W d seed same L Gs):zb w W:=by obtain⟨D,h1,h2,h3⟩:=h;exact h2
theorem DG.pure(h:DG Fo w W d seed same L Gs)(hp:zb W W'):DG Fo w W' d seed same L Gs:=by
 obtain⟨D,h1,h2,h3⟩:=h;exact⟨D,h1.pure hp,h2.trans hp,h3⟩
theorem DG.step{D D':Nat→Prop}{L2:List (Option Ent)}{G2:List Grp}(h2:zb w W)(h3 : ∀ k,D k→w.heap.size≤k)(g1:zW Fo W' D' d seed same L2 G2)(g2:Mod D W W')(g3:vU D D' W):DG Fo w W' d seed same L2 G2 :=
 ⟨D',g1,h2.then g2 (fun i hi e=>by have:=h3 i e;omega),fun k hk=>by
  rcases g3 k hk with e | e
  ·exact h3 k e
  ·exact zH h2.size e⟩
end
end
section
open Go.RowKit Go.Shelf
variable{Fo:Nat→Prop}
def Ent.with(x:Ent)(vs:List UInt8)(d:Int):Ent:=⟨x.key,vs,d,x.birth⟩
theorem Ent.Ok.with{x:Ent}(h:x.Ok){vs:List UInt8}(hv:vs.length≤65536)(d:Int):(x.with vs d).Ok:=⟨h.k0,h.k1,hv,h.b0⟩
theorem zfh(M:List (Option Ent × Value))(i:Nat)(e e':Ent)(v v':Value)(hi:M[i]? = some (some e,v)):zV ((M.set i (some e',v')).map Prod.fst)=zV (M.map Prod.fst):=by
 exact Azvut
def zhU(Fo:Nat→Prop)(w:World)(D:Nat→Prop)(p i:Nat)(x:Ent)(sv:Value)(M:List (Option Ent × Value))(e:Ending)(w':World):Prop :=
 e=.returned (.int .i64 0) ∧ ∃ v',zS Fo w' D p sv (M.set i (some x,v'))∧Mod D w w'
theorem zer{w W:World}{D:Nat→Prop}{p g c i:Nat}{x:Ent}{v v':Value}{vs:List UInt8}{d:Int}{M:List (Option Ent × Value)}
  (HL:zS Fo w D p (.slice (some ⟨g,0,none⟩) M.length c) M) (hi:M[i]? = some (some x,v)) (HP:zb w W) (hv:yv W v' (zJ vs)) (hl:vs.length≤65536) (hfr : ∀ g,v'.ownBlock=some g→w.heap.size≤g) :
  zS Fo ((W.setCell ⟨g,i*4+1,none⟩ v').setCell ⟨g,i*4+2,none⟩ (.int .u64 d)) D p (.slice (some ⟨g,0,none⟩) M.length c) (M.set i (some (x.with vs d),v'))∧Mod D w ((W.setCell ⟨g,i*4+1,none⟩ v').setCell ⟨g,i*4+2,none⟩ (.int .u64 d)):=by
 have HW:=HL.pure HP;have hlt:i<M.length:=(zF.1 hi).1;have hgp:=HL.np (g:=g) rfl;have hDg:D g:=(HL.dd g).2 (.inr rfl);have hmod:Mod D W ((W.setCell ⟨g,i*4+1,none⟩ v').setCell ⟨g,i*4+2,none⟩ (.int .u64 d)):=(((Mod.refl D W).setCell (p:=⟨g,i*4+1,none⟩) (fun _=>hDg) _).setCell (p:=⟨g,i*4+2,none⟩) (fun _=>hDg) _);have hnb:=fun k (_:k<W.heap.size) (hk:D k) cs fz=>HW.nobytes hk cs fz
 refine⟨⟨?_,?_,fun e u hm => ?_,HL.dd,?_,fun e u g hm hg hf => ?_,fun k hk=>hmod.lt (HP.lt (HL.flt k hk))⟩,(Mod.of_pure HP).trans hmod⟩
 ·rw[zfh M i x _ v v' hi];exact yT (yT HW.box hgp.symm) hgp.symm
 ·have r1:=uT HW.row (i*4+1) v' (by omega);have r2:=uT r1 (i*4+2) (.int .u64 d) (by omega);have e:(((M.flatMap xj).set (i*4+1) v').set (i*4+2) (.int .u64 d))=(M.set i (some (x.with vs d),v')).flatMap xj:=by
   rw[← za9 M i _ (some (x.with vs d),v') hi (.string x.key) v' (.int .u64 d) (.int .u64 x.birth) rfl];have k0:(M.flatMap xj)[i*4]? = some (.string x.key):=by
    have:=uX xj 4 jN 0 (by omega) M i;rw[hi]at this;simpa[xj]using this
   have k3:(M.flatMap xj)[i*4+3]? = some (.int .u64 x.birth):=by
    have:=uX xj 4 jN 3 (by omega) M i;rw[hi]at this;simpa[xj]using this
   rw[zdd k0];refine(zdd ?_).symm;rw[yx (by omega),yx (by omega)];exact k3
  rw[e]at r2;rw[xH];exact r2
 ·rcases jS hm with h | h
  ·exact kH (HW.vals e u h) hmod hnb
  ·cases h
   exact kH hv hmod hnb
 ·refine⟨by have:=HL.ok.len;simpa using this,fun e he => ?_⟩;rw[YZ]at he;rcases jS he with h | h
  ·exact HL.ok.ent e h
  ·cases h
   exact(HL.ok.ent x (zI.2 ⟨_,yd hi,rfl⟩)).with hl d
 ·rcases jS hm with h | h
  ·exact HL.off e u g h hg hf
  ·cases h
   have:=hfr g hg;have:=HL.flt g hf;omega
theorem zeS{w:World}{D:Nat→Prop}{p:Nat}{sv:Value}{M:List (Option Ent × Value)}(h:zS Fo w D p sv M){i:Nat}{x:Ent}{v:Value}(hi:M[i]? = some (some x,v))(a:Option Addr)(n c:Nat)(vs:List UInt8)(hv:zn w (.slice a n c) 1 (zJ vs))(hl:vs.length≤65536)(d:Int) :
    Calls prog 162 #[.pointer (some ⟨p,0,none⟩),.int .u32 i,.slice a n c,.int .u64 d] w (zhU Fo w D p i (x.with vs d) sv M):=by
  obtain⟨g,cg,rfl,hg,ng,hlt,hn,hc,hf⟩:=h.slot hi;obtain⟨c0,c1,c2,cf⟩:=h.cells;have hok:=h.ok.ent x (zI.2 ⟨_,yd hi,rfl⟩);have hb:(x.birth==0)=false:=by have:=hok.b0;simp;omega
  have s0:w.cell? ⟨g,i*4,none⟩=_:=hc 0 _ rfl;have s1:=hc 1 _ rfl;have s2:=hc 2 _ rfl;have s3:=hc 3 _ rfl;have hn2:n≤65536:=by have:=jo hv;rw[uP]at this;omega
  have hn3:(n:Int)≤65536:=by omega
  obtain⟨va,vl,vc,rfl⟩ : ∃ a n c,v=.slice a n c:=by obtain⟨va,vc,e,_⟩:=uN (h.vals x v (yd hi));exact⟨_,_,_,e⟩
  have HL:=za h;have HI:=za hi;have HV:=za hv;clear h hi hv hc;go_enter func162,ntmps162
  go_wp2_with (first
    | (go_at_call 234;refine zm (V4 p g _ cg i x.birth _ c0 c1 hlt hn s3 hb) ?_;rintro e w' ⟨rfl,rfl⟩)
    | (go_at_call 144;refine zm (UH a n c _ _ HV.out (by omega)) ?_;rintro e w1 ⟨a1,n1,c1',rfl,hr1,hf1,hp1⟩;have t1:=hp1.cell (fun h=>h) s1;have t2:=hp1.cell (fun h=>h) s2;have tf : ∀ j,w1.frozen? ⟨g,j,none⟩=false:=(fun j=>(Xs (w:=w) (a:=⟨g,j,none⟩) (hp1.block g hg (fun h=>h))).trans (hf j));have HR1:=za hr1;have HP1:=za hp1;have HF1:=za hf1;clear hr1 hf1 hp1))
  go_ret;obtain⟨k1,k2⟩:=zer (d:=d) HL.out HI.out HP1.out (ZJ HR1.out) hl HF1.out;exact⟨rfl,_,k1,k2⟩
end
section
open Go.RowKit
theorem zki(seed:Int)(same:Bool)(w:World):Calls prog 138 #[.int .u64 seed,.bool same] w fun e w'=>e=.returned (.agg #[.int .u64 seed,.bool same])∧zb w w':=by
 have hr:w.heap.size<(w.alloc (.cells #[.int .u64 0,.bool false] 192)).heap.size:=by simp
 have hb:=zi (w:=w) (o := .cells #[.int .u64 0,.bool false] 192 (0,0)) rfl;have hp0:zb w (w.alloc (.cells #[.int .u64 0,.bool false] 192)):=(Mod.refl _ w).alloc _;have HP:=za hp0;clear hp0;go_enter func138,ntmps138;go_upto_region 1 with fail
 generalize w.alloc (.cells #[.int .u64 0,.bool false] 192)=W1 at *;obtain⟨b,hbe⟩:=zc w.heap.size;rw[hbe]at hb hr ⊢;have HBE:=za hbe;clear hbe;obtain⟨hb_0,hb_1,hb_f,hb_l,H_hb⟩:=cr2 hb;clear hb;go_wp2;have h8:=zP W1 b 0 _ _ (.int .u64 seed) H_hb.out;have h9:=zP _ b 1 _ _ (.bool same) h8;have hm9:Mod (fun i=>i=b) W1 ((W1.setCell ⟨b,0,none⟩ (.int .u64 seed)).setCell ⟨b,1,none⟩ (.bool same)):=Mod.set2 b 0 1 _ _;generalize(W1.setCell ⟨b,0,none⟩ (.int .u64 seed)).setCell ⟨b,1,none⟩ (.bool same)=W9 at *;simp only[List.setIfInBounds_toArray,List.set_cons_succ,List.set_cons_zero,Array.setIfInBounds]at h9;have c0:W9.cell? ⟨b,0,none⟩=some (.int .u64 seed):=zf W9 b 0 _ _ (0,0) (by simpa using h9);have c1:W9.cell? ⟨b,1,none⟩=some (.bool same):=zf W9 b 1 _ _ (0,0) (by simpa using h9);refine zK (v := .agg #[.int .u64 seed,.bool same]) (by simp[results,results138,go_sem,c0,c1]) rfl ⟨rfl,HP.out.then hm9 (fun i hi e=>by have:=HBE.out;omega)⟩
def Cfg.ok(c:Cfg):Prop:=1≤c.count∧c.count≤1048576∧1≤c.bytes∧c.bytes≤1099511627776∧0≤c.prot∧c.prot≤99
theorem Cfg.err_ok{c:Cfg}:c.err=0↔c.ok:=by
 unfold Cfg.err Cfg.ok uI;constructor
 ·intro h;split at h
  ·split at h
   ·split at h
    ·rename_i h1 h2 h3;simp at h1 h2 h3;omega
    ·cases h
   ·cases h
  ·cases h
 ·intro⟨h1,h2,h3,h4,h5,h6⟩;simp[h1,h2,h3,h4,h5,h6]
def Cfg.part(c:Cfg):Int:=if c.prot=0 then -1 else c.bytes*c.prot/100
theorem Cfg.part_rng{c:Cfg}(h:c.ok) : -1≤c.part∧c.part≤1099511627776∧(c.prot≠0→0≤c.part):=by
 obtain⟨h1,h2,h3,h4,h5,h6⟩:=h;unfold Cfg.part;have hm:0≤c.bytes*c.prot:=Int.mul_nonneg (by omega) h5;have hm2:c.bytes*c.prot≤1099511627776*99:=Int.mul_le_mul h4 h6 h5 (by omega);split<;>omega
theorem zbP{c:Cfg}(hc:c.ok)(w:World):Calls prog 87 #[c.v] w fun e w'=>e=.returned (.tuple #[.int .i64 c.part,.int .i64 0])∧zb w w':=by
 have he:=Cfg.err_ok.2 hc;have hpr:=Cfg.part_rng hc;have HC:=za (fun W=>X9 c W);rw[he]at HC;obtain⟨pt,hpt⟩:=zc c.part;rw[hpt]at hpr ⊢;obtain⟨cn,cb,cp,sd,sm⟩:=c;unfold Cfg.part at hpt;obtain⟨h1,h2,h3,h4,h5,h6⟩:=hc;dsimp only[Cfg.v]at HC hpt h1 h2 h3 h4 h5 h6 ⊢;have hp0:zb w (w.alloc (.cells #[.int .i64 cn,.int .i64 cb,.int .i64 cp,.int .u64 sd,.bool sm] 24)):=(Mod.refl _ w).alloc _;have z:=zi (w:=w) (o:=(.cells #[.int .i64 cn,.int .i64 cb,.int .i64 cp,.int .u64 sd,.bool sm] 24 (0,0))) rfl;have HP:=za hp0;have hm:0≤cb*cp:=Int.mul_nonneg (by omega) h5;have hm2:cb*cp≤1099511627776*99:=Int.mul_le_mul h4 h6 h5 (by omega);have wm:IntKind.i64.wrap (cb*cp)=cb*cp:=zt _ (by omega);have wq:wrap64 (cb*cp/100)=cb*cp/100:=by unfold wrap64;omega
 have htd:(cb*cp).tdiv 100=cb*cp/100:=Up hm;have wq2:IntKind.i64.wrap ((cb*cp).tdiv 100)=cb*cp/100:=by rw[htd];exact zt _ (by omega)
 clear hp0 he hpr hm hm2 h1 h2 h3 h4 h5 h6;by_cases h0:cp=0
 ·rw[zk h0]at hpt;subst h0;have HPT:=za hpt;clear hpt wm wq wq2 htd;go_enter func87,ntmps87;go_upto_region 1 with fail
  generalize w.alloc (.cells #[.int .i64 cn,.int .i64 cb,.int .i64 0,.int .u64 sd,.bool sm] 24)=W1 at *;generalize w.heap.size=bb at *;obtain⟨z_0,z_1,z_2,z_3,z_4,z_f,z_l,H_z⟩:=cr5 z;clear z;go_upto_region 4 with(go_at_call 59;refine(HC.out _).mono ?_;rintro e w2 ⟨rfl,hp2⟩)
  have z2:=hp2.heap (fun h=>h) H_z.out;clear z_0 z_1 z_2 z_3 z_4 z_f z_l;clear H_z;obtain⟨z2_0,z2_1,z2_2,z2_3,z2_4,z2_f,z2_l,H_z2⟩:=cr5 z2;clear z2;go_wp2;go_ret2;exact⟨by rw[← HPT.out];rfl,HP.out.trans hp2⟩
 ·rw[zh h0]at hpt;have h0':(cp==0)=false:=uE.2 h0;have HPT:=za hpt;clear hpt h0;go_enter func87,ntmps87;go_upto_region 1 with fail
  generalize w.alloc (.cells #[.int .i64 cn,.int .i64 cb,.int .i64 cp,.int .u64 sd,.bool sm] 24)=W1 at *;generalize w.heap.size=bb at *;obtain⟨z_0,z_1,z_2,z_3,z_4,z_f,z_l,H_z⟩:=cr5 z;clear z;go_upto_region 4 with(go_at_call 59;refine(HC.out _).mono ?_;rintro e w2 ⟨rfl,hp2⟩)
  have z2:=hp2.heap (fun h=>h) H_z.out;clear z_0 z_1 z_2 z_3 z_4 z_f z_l;clear H_z;obtain⟨z2_0,z2_1,z2_2,z2_3,z2_4,z2_f,z2_l,H_z2⟩:=cr5 z2;clear z2;go_wp2;go_ret2;exact⟨by rw[← HPT.out];show Ending.returned (.tuple #[.int .i64 (wrap64 (cb*cp/100)),.int .i64 0])=_;rw[wq],HP.out.trans hp2⟩
def Cfg.re(c:Cfg)(n b:Int):Cfg:=⟨n,b,c.prot,c.seed,c.same⟩
abbrev za0:Value := .agg #[.int .i64 0,.int .i64 0,.int .i64 0,.int .u64 0,.bool false]
theorem UI{w:World}{o:Nat}{T:TypeId}{u0 u1 u2 u3 u4:Value}(v0 v1 v2 v3 v4:Value)(h:w.heap[o]? = some (.cells #[u0,u1,u2,u3,u4] T (0,0))) :
  (((((w.setCell ⟨o,0,none⟩ v0).setCell ⟨o,1,none⟩ v1).setCell ⟨o,2,none⟩ v2).setCell ⟨o,3,none⟩ v3).setCell ⟨o,4,none⟩ v4).heap[o]? = some (.cells #[v0,v1,v2,v3,v4] T (0,0)):=by
 have h0:(w.setCell ⟨o,0,none⟩ v0).heap[o]? = some (.cells #[v0,u1,u2,u3,u4] T (0,0)):=by
  have h9:=zP w o 0 _ _ v0 h;simpa using h9
 generalize w.setCell ⟨o,0,none⟩ v0=w0 at *;have h1:(w0.setCell ⟨o,1,none⟩ v1).heap[o]? = some (.cells #[v0,v1,u2,u3,u4] T (0,0)):=by
  have h9:=zP w0 o 1 _ _ v1 h0;simpa using h9
 generalize w0.setCell ⟨o,1,none⟩ v1=w1 at *;have h2:(w1.setCell ⟨o,2,none⟩ v2).heap[o]? = some (.cells #[v0,v1,v2,u3,u4] T (0,0)):=by
  have h9:=zP w1 o 2 _ _ v2 h1;simpa using h9
 generalize w1.setCell ⟨o,2,none⟩ v2=w2 at *;have h3:(w2.setCell ⟨o,3,none⟩ v3).heap[o]? = some (.cells #[v0,v1,v2,v3,u4] T (0,0)):=by
  have h9:=zP w2 o 3 _ _ v3 h2;simpa using h9
 generalize w2.setCell ⟨o,3,none⟩ v3=w3 at *;have h9:=zP w3 o 4 _ _ v4 h3;simpa using h9
theorem zkA{c:Cfg}(hc:c.ok){n b:Int}{er:Int}(h2:(c.re n b).err=er)(h0:er≠0)(w:World):Calls prog 84 #[c.v,.int .i64 n,.int .i64 b] w fun e w'=>e=.returned (.tuple #[za0,.int .i64 er])∧zb w w':=by
 have he:=Cfg.err_ok.2 hc;have HC:=za (fun W=>X9 c W);rw[he]at HC;have HC2:=za (fun W=>X9 (c.re n b) W);rw[h2]at HC2;have hne:(er==0)=false:=uE.2 h0;obtain⟨cn,cb,cp,sd,sm⟩:=c;dsimp only[Cfg.v,Cfg.re]at HC HC2 ⊢;have hp0:zb w ((w.alloc (.cells #[.int .i64 cn,.int .i64 cb,.int .i64 cp,.int .u64 sd,.bool sm] 24)).alloc (.cells #[.int .i64 0,.int .i64 0,.int .i64 0,.int .u64 0,.bool false] 24)):=((Mod.refl _ w).alloc _).alloc _;have z:=zz (o := .cells #[.int .i64 0,.int .i64 0,.int .i64 0,.int .u64 0,.bool false] 24) (zi (w:=w) (o:=(.cells #[.int .i64 cn,.int .i64 cb,.int .i64 cp,.int .u64 sd,.bool sm] 24 (0,0))) rfl);have y:=zi (w:=w.alloc (.cells #[.int .i64 cn,.int .i64 cb,.int .i64 cp,.int .u64 sd,.bool sm] 24)) (o := .cells #[.int .i64 0,.int .i64 0,.int .i64 0,.int .u64 0,.bool false] 24 (0,0)) (n:=w.heap.size+1) (by simp);have HP:=za hp0;clear hp0 he hc h2 h0;go_enter func84,ntmps84;go_upto_region 1 with fail
 generalize(w.alloc (.cells #[.int .i64 cn,.int .i64 cb,.int .i64 cp,.int .u64 sd,.bool sm] 24)).alloc (.cells #[.int .i64 0,.int .i64 0,.int .i64 0,.int .u64 0,.bool false] 24)=W1 at *;obtain⟨bb,hbe⟩:=zc w.heap.size;rw[hbe]at z y ⊢;have HBE:=za hbe;clear hbe;have Y1:=za y;obtain⟨z_0,z_1,z_2,z_3,z_4,z_f,z_l,H_z⟩:=cr5 z;clear z;go_upto_region 3 with(go_at_call 59;refine(HC.out _).mono ?_;rintro e w2 ⟨rfl,hp2⟩)
 have z2:=hp2.heap (fun h=>h) H_z.out;have Y2:=za (hp2.heap (fun h=>h) Y1.out);have HP2:=za (HP.out.trans hp2);clear z_0 z_1 z_2 z_3 z_4 z_f z_l;clear H_z hp2;obtain⟨z2_0,z2_1,z2_2,z2_3,z2_4,z2_f,z2_l,H_z2⟩:=cr5 z2;clear z2;go_upto_region 4 with fail
 have h8:=zP w2 bb 0 _ _ (.int .i64 n) H_z2.out;have h9:=zP _ bb 1 _ _ (.int .i64 b) h8;have hm9:Mod (fun i=>i=bb) w2 ((w2.setCell ⟨bb,0,none⟩ (.int .i64 n)).setCell ⟨bb,1,none⟩ (.int .i64 b)):=Mod.set2 bb 0 1 _ _;clear z2_0 z2_1 z2_2 z2_3 z2_4 z2_f z2_l;clear H_z2;generalize(w2.setCell ⟨bb,0,none⟩ (.int .i64 n)).setCell ⟨bb,1,none⟩ (.int .i64 b)=W9 at *;simp only[List.setIfInBounds_toArray,List.set_cons_succ,List.set_cons_zero,Array.setIfInBounds]at h9;have z9:W9.heap[bb]? = some (.cells #[.int .i64 n,.int .i64 b,.int .i64 cp,.int .u64 sd,.bool sm] 24 (0,0)):=by simpa using h9
 have Y9:=za (hm9.heap (by omega) Y2.out);have HP9:=za (HP2.out.then hm9 (fun i hi e=>by have:=HBE.out;omega));clear h8 h9 hm9;obtain⟨z9_0,z9_1,z9_2,z9_3,z9_4,z9_f,z9_l,H_z9⟩:=cr5 z9;clear z9;go_upto_region 5 with(go_at_call 59;refine(HC2.out _).mono ?_;rintro e w4 ⟨rfl,hp4⟩)
 have z4:=hp4.heap (fun h=>h) H_z9.out;have y4:=hp4.heap (fun h=>h) Y9.out;clear z9_0 z9_1 z9_2 z9_3 z9_4 z9_f z9_l;clear H_z9;have HP4:=za (HP9.out.trans hp4);clear hp4;obtain⟨z4_0,z4_1,z4_2,z4_3,z4_4,z4_f,z4_l,H_z4⟩:=cr5 z4;clear z4;obtain⟨y4_0,y4_1,y4_2,y4_3,y4_4,y4_f,y4_l,H_y4⟩:=cr5 y4;clear y4;go_wp2;exact zK (v := .tuple #[za0,.int .i64 er]) (by simp[results,results84,go_sem,y4_0,y4_1,y4_2,y4_3,y4_4]) rfl ⟨rfl,HP4.out⟩
end
section
open Go.RowKit Go.Shelf
variable{Fo:Nat→Prop}
def ziA(w:World)(x:Ent)(e:Ending)(w':World):Prop :=
 ∃ a n c,e=.returned (.tuple #[.agg #[.string x.key,.slice a n c,.int .u64 x.dl,.int .u64 x.birth],.int .i64 0])∧yv w' (.slice a n c) (zJ x.val)∧xi w (.slice a n c)∧zb w w'
theorem Uf{w:World}{D:Nat→Prop}{d seed:Nat}{same:Bool}{L:List (Option Ent)}{Gs:List Grp}(h:zW Fo w D d seed same L Gs){s:Nat}{x:Ent}(hx:L[s]? = some (some x)):Calls prog 74 #[yY d,.int .u32 s] w (ziA w x):=by
  obtain⟨q,p,sv,Dl,h1,h2,h3⟩:=h;have hsl:s<L.length:=(zF.1 hx).1;have hs:s≤4294967295:=by have:=h1.log.ok.len;omega
  have hp0:zb w (w.alloc (.cells #[.string ⟨#[]⟩,.slice none 0 0,.int .u64 0,.int .u64 0] 57)):=(Mod.refl _ w).alloc _;have z4:=zi (w:=w) (o := .cells #[.string ⟨#[]⟩,.slice none 0 0,.int .u64 0,.int .u64 0] 57 (0,0)) rfl;have HZ:=za (jZ (h1.pure hp0));have HG:=za (zep (h1.log.pure hp0) s hs);unfold UM at HG;rw[hx]at HG;have hb:=(h1.pure hp0).box;have HP:=za hp0;clear h1 h2 h3 hp0 hx;go_enter func74,ntmps74;go_upto_region 1 with fail
  generalize w.alloc (.cells #[.string ⟨#[]⟩,.slice none 0 0,.int .u64 0,.int .u64 0] 57)=W1 at *;obtain⟨b4,hb4⟩:=zc w.heap.size;rw[hb4]at z4 ⊢;have HB:=za hb4;clear hb4;have Z4:=za z4;obtain⟨hb_0,hb_1,hb_2,hb_3,hb_f,hb_l,H_hb⟩:=cr4 hb;clear hb;obtain⟨z4_0,z4_1,z4_2,z4_3,z4_f,z4_l,H_z4⟩:=cr4 z4;clear z4
  go_wp2_with (first
    | (go_at_call 142;refine HZ.out.mono ?_;rintro e w' ⟨rfl,rfl⟩)
    | (go_at_call 157;refine HG.out.mono ?_;rintro e w2 ⟨a,n,c,rfl,hby,hfr,hp2⟩;have k0:=hp2.cell (fun h=>h) z4_0;have k1:=hp2.cell (fun h=>h) z4_1;have k2:=hp2.cell (fun h=>h) z4_2;have k3:=hp2.cell (fun h=>h) z4_3;have kf : ∀ j,w2.frozen? ⟨b4,j,none⟩=false:=(fun j=>(hp2.cells.2 b4 j z4_l).trans (z4_f j));have kl:=hp2.lt z4_l))
  obtain⟨Y,hY⟩:=zc ((((w2.setCell ⟨b4,0,none⟩ (.string x.key)).setCell ⟨b4,1,none⟩ (.slice a n c)).setCell ⟨b4,2,none⟩ (.int .u64 x.dl)).setCell ⟨b4,3,none⟩ (.int .u64 x.birth));have y4:=hp2.heap (fun h=>h) Z4.out;obtain⟨g1,g2⟩:=qy y4 hY;rw[hY];have x0:=zf _ _ 0 _ _ _ g2;have x1:=zf _ _ 1 _ _ _ g2;have x2:=zf _ _ 2 _ _ _ g2;have x3:=zf _ _ 3 _ _ _ g2;simp at x0 x1 x2 x3;refine zK (v := .tuple #[.agg #[.string x.key,.slice a n c,.int .u64 x.dl,.int .u64 x.birth],.int .i64 0]) (by simp[results,results74,go_sem,x0,x1,x2,x3]) rfl ⟨a,n,c,rfl,?_,?_,?_⟩
  · exact kH hby g1 (fun k _ e cs fz e2=>by subst e;rw[y4]at e2;cases e2)
  · intro g e;have:=hfr g e;have:=HP.out.size;omega
  · exact(HP.out.trans hp2).then g1 (fun i hi e=>by have:=HB.out;omega)
theorem zf2{L:List (Option Ent)}{s:Nat}{x y:Ent}(hx:L[s]? = some (some x))(hk:y.key=x.key)(t:Nat):yI (L.set s (some y)) t=yI L t:=by
 have hs:=(zF.1 hx).1;unfold yI;by_cases e:t=s
 ·subst e;rw[yo hs,hx];exact hk
 ·rw[yx (fun c=>e c.symm)]
theorem zel{L:List (Option Ent)}{s:Nat}{x y:Ent}(hx:L[s]? = some (some x))(t:Nat):ub (L.set s (some y)) t↔ub L t:=by
 have hs:=(zF.1 hx).1;unfold ub;by_cases e:t=s
 ·subst e;rw[yo hs,hx];exact⟨fun _=>⟨x,rfl⟩,fun _=>⟨y,rfl⟩⟩
 ·rw[yx (fun c=>e c.symm)]
theorem vR.setE{seed:Nat}{same:Bool}{L:List (Option Ent)}{Gs:List Grp}(h:vR seed same L Gs){s:Nat}{x y:Ent}(hx:L[s]? = some (some x))(hk:y.key=x.key):vR seed same (L.set s (some y)) Gs:=by
 have e1:ya seed same (L.set s (some y))=ya seed same L:=funext fun t=>by unfold ya;rw[zf2 hx hk]
 have e2:ub (L.set s (some y))=ub L:=funext fun t=>propext (zel hx t)
 have hs:=(zF.1 hx).1;have hget : ∀(a:Nat) (e:Ent),(L.set s (some y))[a]? = some (some e) → ∃ e',L[a]? = some (some e')∧e'.key=e.key:=fun a e ha=>by
  by_cases c:a=s
  ·subst c;rw[yo hs]at ha;injection ha with ha
   injection ha with ha
   exact⟨x,hx,by rw[← ha,hk]⟩
  ·rw[yx (fun d=>c d.symm)]at ha;exact⟨e,ha,rfl⟩
 refine⟨by rw[e1,e2];exact h.holds,fun a b e f ha hb hef => ?_,?_⟩
 ·obtain⟨e',h1,h2⟩:=hget a e ha;obtain⟨f',h3,h4⟩:=hget b f hb;exact h.keys a b e' f' h1 h3 (by rw[h2,h4,hef])
 ·rw[h.used];have h1:=Ud hx;have h2:zV ((L.set s (some y)).set s none)+1=zV (L.set s (some y)):=Ud (x:=y) (by rw[yo hs]);rw[List.set_set]at h2;omega
def zgQ(Fo:Nat→Prop)(w:World)(D:Nat→Prop)(d seed:Nat)(same:Bool)(L2:List (Option Ent))(Gs:List Grp)(e:Ending)(w':World):Prop :=
 e=.returned (.int .i64 0)∧zW Fo w' D d seed same L2 Gs∧Mod D w w'
theorem zcj{w:World}{D:Nat→Prop}{d seed:Nat}{same:Bool}{L:List (Option Ent)}{Gs:List Grp}(h:zW Fo w D d seed same L Gs){s:Nat}{x:Ent}(hx:L[s]? = some (some x))(a:Option Addr)(n c:Nat)(vs:List UInt8)(hv:zn w (.slice a n c) 1 (zJ vs))(hl:vs.length≤65536)(dl:Int) :
    Calls prog 79 #[yY d,.int .u32 s,.slice a n c,.int .u64 dl] w (zgQ Fo w D d seed same (L.set s (some (x.with vs dl))) Gs):=by
  obtain⟨q,p,sv,Dl,h1,h2,h3⟩:=h;obtain⟨lv,M,hM,hrow⟩:=h1.log;obtain⟨v,hMi⟩ : ∃ v,M[s]? = some (some x,v):=by
    rw[← hM,yw]at hx
    cases hm:M[s]? with
    | none=>rw[hm]at hx;cases hx
    | some m=>rw[hm]at hx;obtain⟨m1,m2⟩:=m;simp at hx;exact⟨m2,by rw[hx]⟩
  have HZ:=za (jZ h1);have HS:=za (zeS hrow hMi a n c vs hv hl dl);have HH:=za h1;have HK:=za h2;have HD:=za h3;have HM:=za hM;have HX:=za hx;have hb:=h1.box;clear h1 h2 h3 hM hrow hMi hx hv;obtain⟨hb_0,hb_1,hb_2,hb_3,hb_f,hb_l,H_hb⟩:=cr4 hb;clear hb;go_enter func79,ntmps79
  go_wp2_with (first
    | (go_at_call 142;refine HZ.out.mono ?_;rintro e w' ⟨rfl,rfl⟩)
    | (go_at_call 162;refine HS.out.mono ?_;rintro e w2 ⟨rfl,v',hr2,hm2⟩))
  go_ret;have hlog:zY Fo w2 Dl q (L.set s (some (x.with vs dl))):=⟨lv,_,by rw[← HM.out];simp[List.map_set],hr2⟩;exact⟨rfl,⟨q,p,sv,Dl,K9 HH.out hlog hm2,HK.out.setE HX.out rfl,HD.out⟩,hm2.mono (fun i _ h=>(HD.out i).2 (.inr (.inl h)))⟩
end
section
open Go.RowKit Go.Shelf
variable{Fo:Nat→Prop}
attribute [local go_sem] Oper.semAt_some
def Q2(w:World)(b5 b6:Nat)(It:Nat→Prop)(k:Nat):Prop:=w.heap.size+1+1<k∧k≠b5∧k≠b6 ∧ ¬ It k
structure VD(Fo:Nat→Prop)(w:World)(b5 b6 q:Nat)(len:Int)(It:Nat→Prop)(D:Nat→Prop)(pre:List xr)(W:World):Prop where
 r0:W.heap[w.heap.size]? = some (.cells #[.pointer none] 197 (0,0))
 r1:W.heap[w.heap.size+1]? = some (.cells #[.slice none 0 0,.int .i64 0] 255 (0,0))
 r2:W.heap[w.heap.size+1+1]? = some (.cells #[.int .i64 0] 26 (0,0))
 o5:W.heap[b5]? = some (.cells #[.pointer (some ⟨q,0,none⟩)] 197 (0,0))
 o6 : ∃ a c,W.heap[b6]? = some (.cells #[.slice a pre.length c,.int .i64 len] 255 (0,0))∧W.ownsRow 0 114 1 (.slice a pre.length c) pre.length (pre.map fun g => .int .u32 g.1) ∧ ∀ k,(Value.slice a pre.length c).ownBlock=some k→Q2 w b5 b6 It k ∧ ¬ D k
 lg : ∃ sv M',zS Fo W D q sv M'∧M'.map Prod.fst=pre.map (fun g=>some g.2.1)
 dd : ∀ k,D k→Q2 w b5 b6 It k
 pu:zb w W
theorem VD.quiet{w:World}{b5 b6 q:Nat}{len:Int}{It D:Nat→Prop}{pre:List xr}{A B:World}(h:VD Fo w b5 b6 q len It D pre A){N:Nat}(hN:w.heap.size≤N)(hq:zx N A B):VD Fo w b5 b6 q len It D pre B:=by
 obtain⟨a,c,h1,h2,h3⟩:=h.o6;obtain⟨sv,M',h4,h5⟩:=h.lg;exact⟨hq.cells h.r0,hq.cells h.r1,hq.cells h.r2,hq.cells h.o5,⟨a,c,hq.cells h1,hq.owns h2,h3⟩,⟨sv,M',h4.quiet hq,h5⟩,h.dd,hq.mod h.pu hN⟩
def CAx(Fo:Nat→Prop)(w:World)(p q q2:Nat)(len:Int)(B:Nat)(It:Nat→Prop)(L:List (Option Ent))(N:Nat)(pre:List xr)(x:xr)(a':Act)(W:World):Prop :=
 ∃ D b8 va vn vc,x.2.2=.slice va vn vc∧VD Fo w (q+1) (q+1+1) q len It D pre W∧Xj N L pre x W∧W.heap[b8]? = some (.cells #[.string x.2.1.key,x.2.2,.int .u64 x.2.1.dl,.int .u64 x.2.1.birth] 57 (0,0)) ∧ ¬ D b8 ∧ ¬ It b8∧N≤b8∧N≤W.heap.size ∧
  a' = {tmps:=#[.pointer (some ⟨p,0,none⟩),undef,.pointer (some ⟨w.heap.size,0,none⟩),.pointer (some ⟨w.heap.size+1,0,none⟩),.pointer (some ⟨w.heap.size+1+1,0,none⟩),.pointer (some ⟨q+1,0,none⟩),.pointer (some ⟨q+1+1,0,none⟩),
   .int .u32 x.1,.pointer (some ⟨b8,0,none⟩),undef,undef,.pointer (some ⟨p,0,none⟩),.pointer (some ⟨q2,0,none⟩),.bool false,undef,.pointer (some ⟨q,0,none⟩),.pointer (some ⟨p,0,none⟩),.int .i64 len,.agg #[.slice none 0 0,.int .i64 len],
   .pointer (some ⟨p,0,none⟩),.func (.func 228) #[] #[.pointer (some ⟨B,0,none⟩)],.int .u32 x.1,.agg #[.string x.2.1.key,x.2.2,.int .u64 x.2.1.dl,.int .u64 x.2.1.birth],
   undef,undef,undef,undef,undef,undef,undef,undef,undef,undef,undef,undef,undef,undef,undef,undef,undef,undef],defers:=[]}
theorem CAx.quiet{w:World}{p q q2:Nat}{len:Int}{B:Nat}{It:Nat→Prop}{L:List (Option Ent)}{N:Nat}{pre:List xr}{x:xr}{a':Act}{A W:World}(h:CAx Fo w p q q2 len B It L N pre x a' A)(hN:w.heap.size≤N)(hq:zx N A W):CAx Fo w p q q2 len B It L N pre x a' W:=by
 obtain⟨D,b8,va,vn,vc,h1,h2,h3,h4,h5,h6,h7,h8,h9⟩:=h;exact⟨D,b8,va,vn,vc,h1,h2.quiet hN hq,h3.quiet hq,hq.cells h4,h5,h6,h7,zH h8 (Mod.size hq),h9⟩
end
section
open Go.RowKit Go.Shelf
def below(xs:List Nat)(o:Nat):Nat:=xs.countP (decide <| · < o)

end
section
open Go.RowKit Go.Shelf
attribute [local go_sem] Oper.semAt_some
theorem zck{P:Program}(w:World)(d:Nat)(t:TypeId){ps rs:Array TypeId}{v:Bool}(fn:Fn)(fi ca:Array Value)(h:P.underlying t=some (.func ps rs v)):(Op.equalIn (d+1) t (.func fn fi ca) .nilFunc).run P w=.ok false w:=by
 simp[Op.equalIn,run_underlying h]
@[go_sem] theorem zmI (w : World) (fn : Fn) (fi ca : Array Value) : (binOp .neq 112 (.func fn fi ca) .nilFunc).run prog w=.ok (.bool true) w := by
 simp only[binOp];simp[Op.equal,Op.maxDepth,zck w 9999 _ fn fi ca underlying112]
@[go_sem] theorem zmv (w : World) (fn : Fn) (fi ca : Array Value) : (binOp .eql 112 (.func fn fi ca) .nilFunc).run prog w=.ok (.bool false) w := by
 simp only[binOp];simp[Op.equal,Op.maxDepth,zck w 9999 _ fn fi ca underlying112]
def QW(L:List (Nat × Ent)):ByteArray:=L.foldl (fun s g=>s++g.2.key) ⟨#[]⟩
structure VW(w:World)(b:Nat)(pre:List xr)(W:World):Prop where
 r:W.heap[b]? = some (.cells #[.string (QW (pre.map vd))] 9 (0,0))
 pu:zb w W
 sz:(QW (pre.map vd)).size≤250*pre.length
theorem VW.quiet{w:World}{b:Nat}{pre:List xr}{A B:World}(h:VW w b pre A){N:Nat}(hN:w.heap.size≤N)(hq:zx N A B):VW w b pre B:=⟨hq.cells h.r,hq.mod h.pu hN,h.sz⟩
def KAx(w:World)(p B:Nat)(It:Nat→Prop)(N:Nat)(pre:List xr)(x:xr)(a':Act)(W:World):Prop :=
 ∃ b8 va vn vc,x.2.2=.slice va vn vc∧VW w w.heap.size pre W∧W.heap[b8]? = some (.cells #[.string x.2.1.key,x.2.2,.int .u64 x.2.1.dl,.int .u64 x.2.1.birth] 57 (0,0))∧N≤b8∧N≤W.heap.size∧x.2.1.key.size≤250∧pre.length≤4194304 ∧
  a' = {tmps:=#[.pointer (some ⟨p,0,none⟩),undef,.string ⟨#[]⟩,.pointer (some ⟨w.heap.size,0,none⟩),.func (.func 228) #[] #[.pointer (some ⟨B,0,none⟩)],undef,.pointer (some ⟨b8,0,none⟩),.pointer (some ⟨p,0,none⟩),
   .func (.func 228) #[] #[.pointer (some ⟨B,0,none⟩)],.func (.func 228) #[] #[.pointer (some ⟨B,0,none⟩)],.bool true,.func (.func 228) #[] #[.pointer (some ⟨B,0,none⟩)],
   .int .u32 x.1,.agg #[.string x.2.1.key,x.2.2,.int .u64 x.2.1.dl,.int .u64 x.2.1.birth],undef,undef,undef,undef,undef],defers:=[]}
theorem KAx.quiet{w:World}{p B:Nat}{It:Nat→Prop}{N:Nat}{pre:List xr}{x:xr}{a':Act}{A W:World}(h:KAx w p B It N pre x a' A)(hN:w.heap.size≤N)(hq:zx N A W):KAx w p B It N pre x a' W:=by
 obtain⟨b8,va,vn,vc,h1,h2,h3,h4,h5,h6⟩:=h;exact⟨b8,va,vn,vc,h1,h2.quiet hN hq,hq.cells h3,h4,zH h5 (Mod.size hq),h6⟩
end
section
open Go.RowKit Go.Shelf
def Xl(a b:Int):Bool:=decide (0≤b)&&decide (16<a)&&decide (2*b≤a-17)
theorem Azitd {P:Prop}(h:P:=by
 go_enter func172,ntmps172;go_wp2;go_ret;exact⟨by simp<;>omega,rfl⟩):P:=h
theorem zcy(w:World)(a b:Int)(a0 : -9223372036854775808≤a)(a1:a≤9223372036854775807) :
  Calls prog 172 #[.int .i64 a,.int .i64 b] w fun e w'=>e=.returned (.bool (Xl a b))∧w=w':=by
 unfold Xl;by_cases h1:0≤b
 ·by_cases h2:16<a
  ·have h3:(a-16-1).tdiv 2=(a-17)/2:=by rw[Up (by omega)];omega
   by_cases h4:2*b≤a-17
   ·have h5:b≤(a-17)/2:=by omega
    exact Azitd
   ·have h5:(a-17)/2<b:=by omega
    exact Azitd
  ·have h2':a≤16:=by omega
   exact Azitd
 ·have h1':b<0:=by omega
  exact Azitd
end
end Go.Proofs.YtpplkcnknabofaaGreatDoor
