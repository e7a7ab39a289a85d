/- Lemmas and contracts of functions. No condition. -/
import Derived.Lib.LaidU8
import Derived.LaidHandle
import Derived.LaidMore
import Derived.Lay
import Derived.Stop.Joined
import Derived.Test.YtpplkcnknabofaaGreatDoorJPfCacheNone33
import Derived.Lib.AppendZerosOnto
import Derived.Laws.CopyRow
import Derived.Test.YtpplkcnknabofaaGreatDoorJPfCacheNone31
import Derived.Maps.RangeWalk
namespace Go.Proofs.YtpplkcnknabofaaGreatDoor
open _root_.Go.Proofs.Tryz
set_option maxRecDepth 100000
set_option maxHeartbeats 20000000
set_option linter.all false
section
open Go.RowKit Go.Shelf
attribute [local go_sem] Oper.semAt_some
abbrev jw(b:Nat):Value := .pointer (some ⟨b,0,none⟩)
def Ctr(w:World)(b:Nat)(n:Nat):Prop:=w.heap[b]? = some (.cells #[.bool true,.int .u64 n] 205 (0,0))
def Jn(w:World)(v:Value):Prop:=v=.pointer none ∨ ∃ b,v=jw b∧w.heap[b]? = some (.cells #[.bool false,.int .u64 0] 205 (0,0))
theorem Jn.pure{w w':World}{v:Value}(h:Jn w v)(hp:zb w w'):Jn w' v:=by
 rcases h with h | ⟨b,h1,h2⟩
 ·exact .inl h
 ·exact .inr ⟨b,h1,hp.heap (fun h=>h) h2⟩
theorem Ctr.pure{w w':World}{b n:Nat}(h:Ctr w b n)(hp:zb w w'):Ctr w' b n:=hp.heap (fun h=>h) h
theorem zjs(n:Nat)(w:World):Calls prog 139 #[.int .u64 n] w fun e w'=>e=.returned (jw w.heap.size)∧Ctr w' w.heap.size n∧zb w w'∧w.heap.size<w'.heap.size:=by
 go_enter func139,ntmps139;go_wp2;go_ret;exact⟨rfl,zi rfl,(Mod.refl _ w).alloc _,by simp⟩
theorem zbR{w:World}{b n:Nat}(h:Ctr w b n):Calls prog 145 #[jw b] w fun e w'=>e=.returned (.bool false)∧w=w':=by
 unfold Ctr at h;obtain⟨h_0,h_1,h_f,h_l,H_h⟩:=cr2 h;clear h;go_enter func145,ntmps145;go_wp2;go_ret;exact⟨rfl,rfl⟩
theorem zbE{w:World}{b n:Nat}(h:Ctr w b n):Calls prog 64 #[jw b] w fun e w'=>e=.returned (.int .u64 n)∧w=w':=by
 have HZ:=za (zbR h);unfold Ctr at h;obtain⟨h_0,h_1,h_f,h_l,H_h⟩:=cr2 h;clear h;go_enter func64,ntmps64
 go_wp2_with (go_at_call 145;refine HZ.out.mono ?_;rintro e w' ⟨rfl,rfl⟩)
 go_ret;exact⟨rfl,rfl⟩
def nxV(n:Nat):Nat × Nat:=if n=18446744073709551615 then(0,7)else(n+1,0)
def nxS(n:Nat):Nat:=if n=18446744073709551615 then n else n+1
def Ji(w:World)(b n:Nat)(e:Ending)(w':World):Prop :=
 e=.returned (.tuple #[.int .u64 ((nxV n).1:Nat),.int .i64 ((nxV n).2:Nat)])∧Ctr w' b (nxS n)∧Mod (fun k=>k=b) w w'
theorem zlX{w:World}{b n:Nat}(h:Ctr w b n)(hn:n<18446744073709551616):Calls prog 151 #[jw b] w (Ji w b n):=by
 have HZ:=za (zbR h);unfold Ctr at h;obtain⟨h_0,h_1,h_f,h_l,H_h⟩:=cr2 h;clear h;unfold Ji nxV nxS;by_cases hc:n=18446744073709551615
 ·rw[zk hc,zk hc];have d1:((n:Int)==18446744073709551615)=true:=by simp;omega
  clear hc hn;go_enter func151,ntmps151
  go_wp2_with (go_at_call 145;refine HZ.out.mono ?_;rintro e w' ⟨rfl,rfl⟩)
  go_ret2;exact⟨rfl,H_h.out,Mod.refl _ _⟩
 ·rw[zh hc,zh hc];have d1:((n:Int)==18446744073709551615)=false:=by simp;omega
  have wn:IntKind.u64.wrap ((n:Int)+1)=(n:Int)+1:=by
   have:=uJ (n+1) (by omega);rw[show(((n+1:Nat)):Int)=(n:Int)+1 by omega]at this;exact this
  have hc2:(n:Int)≠18446744073709551615:=by omega
  clear hc hn;go_enter func151,ntmps151
  go_wp2_with (go_at_call 145;refine HZ.out.mono ?_;rintro e w' ⟨rfl,rfl⟩)
  go_ret2;refine⟨by simp,?_,Mod.set1 _ _ _⟩;have:=vz (j:=1) (v := .int .u64 ((n:Int)+1)) H_h.out;simpa[Ctr]using this
def YK(w:World)(v:Value)(L:List (Option Ent)):Prop := ∀ W,zb w W→Calls prog 62 #[v] W (Kw W L)
theorem YK.pure{w w':World}{v:Value}{L:List (Option Ent)}(h:YK w v L)(hp:zb w w'):YK w' v L:=fun W hW=>h W (hp.trans hW)
theorem KU{w3:World}{B:Nat}{sv:Value}{M:List (Option Ent × Value)}(hit:jt w3 B sv M){N k:Nat}{cs:Array Value}{T:TypeId}{fz:Nat × Nat}(hB:N≤B)(hfr : ∀ g,sv.ownBlock=some g→N≤g)(hk:k<N)
  (hb:w3.heap[k]? = some (.cells cs T fz)) (hT:T≠5) : ¬ qL B sv M k:=by
 rintro(h | h | ⟨e,v,hm,h⟩)
 ·omega
 ·have:=hfr _ h;omega
 ·obtain⟨cc,e2⟩:=yg (hit.vals e v hm) h;rw[hb]at e2;cases e2;exact hT rfl
def J6(last:Int):List (Nat × Ent)→Bool
 | []=>true
 | g::r=>if g.2.birth≤last then false else J6 g.2.birth r
def Qx(pre:List (Nat × Ent)):Int:=pre.foldl (fun _ g=>g.2.birth) 0
structure Jm(w:World)(pre:List xr)(W:World):Prop where
 r2:W.heap[w.heap.size]? = some (.cells #[.bool false] 4 (0,0))
 r3:W.heap[w.heap.size+1]? = some (.cells #[.int .u64 (Qx (pre.map vd))] 22 (0,0))
 pu:zb w W
 so : ∀ r,J6 0 (pre.map vd++r)=J6 (Qx (pre.map vd)) r
theorem Jm.quiet{w:World}{pre:List xr}{A B:World}(h:Jm w pre A){N:Nat}(hN:w.heap.size≤N)(hq:zx N A B):Jm w pre B:=⟨hq.cells h.r2,hq.cells h.r3,hq.mod h.pu hN,h.so⟩
def zbU(w:World)(v:Value):Prop := ∀ W,zb w W→Calls prog 263 #[v] W fun e w'=>e=.returned (.bool false)∧zb W w'
def zgY(G:List (Nat × Ent))(b:Int):Nat:=G.countP (fun g=>decide (g.2.birth<b))
structure K5(w:World)(b:Int)(b6:Nat)(pre:List xr)(W:World):Prop where
 r3:W.heap[w.heap.size]? = some (.cells #[.int .u64 b] 22 (0,0))
 r6:W.heap[b6]? = some (.cells #[.int .i64 (zgY (pre.map vd) b)] 3 (0,0))
 pu:zb w W
 w6:w.heap.size<b6
theorem K5.quiet{w:World}{b:Int}{b6:Nat}{pre:List xr}{A B:World}(h:K5 w b b6 pre A){N:Nat}(hN:w.heap.size≤N)(hq:zx N A B):K5 w b b6 pre B:=⟨hq.cells h.r3,hq.cells h.r6,hq.mod h.pu hN,h.w6⟩
def uz(fr up:Int)(o:Option (Nat × Int))(g:Nat × Ent):Option (Nat × Int) :=
 if fr≤g.2.birth then(if g.2.birth≤up then(match o with
  | none=>some (g.1,g.2.birth)
  | some x=>if g.2.birth<x.2 then some (g.1,g.2.birth)else some x)else o)else o
def uQ(fr up:Int)(G:List (Nat × Ent)):Option (Nat × Int):=G.foldl (uz fr up) none
theorem zkp(fr up:Int)(G:List (Nat × Ent))(g:Nat × Ent):uQ fr up (G++[g])=uz fr up (uQ fr up G) g:=by unfold uQ;rw[YQ];rfl
def qI(o:Option (Nat × Int)):Nat:=match o with | some x=>x.1 | none=>0
def V9(o:Option (Nat × Int)):Int:=match o with | some x=>x.2 | none=>0
def Um(o:Option (Nat × Int)):Value := .tuple #[.int .u32 (qI o:Nat),.bool o.isSome]
structure ZF(w:World)(fr up:Int)(b8:Nat)(pre:List xr)(W:World):Prop where
 r4:W.heap[w.heap.size]? = some (.cells #[.int .u64 fr] 22 (0,0))
 r5:W.heap[w.heap.size+1]? = some (.cells #[.int .u64 up] 22 (0,0))
 r8:W.heap[b8]? = some (.cells #[.int .u32 (qI (uQ fr up (pre.map vd)):Nat)] 114 (0,0))
 r9:W.heap[b8+1]? = some (.cells #[.int .u64 (V9 (uQ fr up (pre.map vd)))] 22 (0,0))
 r10:W.heap[b8+1+1]? = some (.cells #[.bool (uQ fr up (pre.map vd)).isSome] 4 (0,0))
 pu:zb w W
 w8:w.heap.size+1<b8
theorem ZF.quiet{w:World}{fr up:Int}{b8:Nat}{pre:List xr}{A B:World}(h:ZF w fr up b8 pre A){N:Nat}(hN:w.heap.size≤N)(hq:zx N A B):ZF w fr up b8 pre B:=⟨hq.cells h.r4,hq.cells h.r5,hq.cells h.r8,hq.cells h.r9,hq.cells h.r10,hq.mod h.pu hN,h.w8⟩
theorem ziq{w:World}{d:Nat}{L:List (Option Ent)}(v:Value)(h:YK w v L)(fr up:Int):Calls prog 264 #[.iface 76 v,.int .u64 fr,.int .u64 up] w fun e w'=>e=.returned (Um (uQ fr up (live L)))∧zb w w':=by
 have HL:=za h;clear h
 (refine(yy (n:=0)).1 (callsIn_of_wp_marks func264 rfl trivial (vQ.2 ?_) rfl);simp only[ntmps264,List.size_toArray,List.length_cons,List.length_nil,Nat.reduceAdd,Nat.reduceSub,Array.replicate_succ,Array.replicate_zero,List.push_toArray,List.append_toArray,List.nil_append,List.cons_append])
 go_upto_region 2 with fail
 have h4:=zz (o := .cells #[.bool false] 4) (zz (o := .cells #[.int .u64 0] 22) (zz (o := .cells #[.int .u32 0] 114) (zz (o := .cells #[.int .u64 up] 22) (zi (w:=w) (o := .cells #[.int .u64 fr] 22 (0,0)) rfl))));have h5:=zz (o := .cells #[.bool false] 4) (zz (o := .cells #[.int .u64 0] 22) (zz (o := .cells #[.int .u32 0] 114) (zi (w:=w.alloc (.cells #[.int .u64 fr] 22)) (o := .cells #[.int .u64 up] 22 (0,0)) (n:=w.heap.size+1) (by simp))));have h8:=zz (o := .cells #[.bool false] 4) (zz (o := .cells #[.int .u64 0] 22) (zi (w:=(w.alloc (.cells #[.int .u64 fr] 22)).alloc (.cells #[.int .u64 up] 22)) (o := .cells #[.int .u32 0] 114 (0,0)) (n:=w.heap.size+1+1) (by simp)));have h9:=zz (o := .cells #[.bool false] 4) (zi (w:=((w.alloc (.cells #[.int .u64 fr] 22)).alloc (.cells #[.int .u64 up] 22)).alloc (.cells #[.int .u32 0] 114)) (o := .cells #[.int .u64 0] 22 (0,0)) (n:=w.heap.size+1+1+1) (by simp));have h10:=zi (w:=(((w.alloc (.cells #[.int .u64 fr] 22)).alloc (.cells #[.int .u64 up] 22)).alloc (.cells #[.int .u32 0] 114)).alloc (.cells #[.int .u64 0] 22)) (o := .cells #[.bool false] 4 (0,0)) (n:=w.heap.size+1+1+1+1) (by simp);have hp0:zb w (((((w.alloc (.cells #[.int .u64 fr] 22)).alloc (.cells #[.int .u64 up] 22)).alloc (.cells #[.int .u32 0] 114)).alloc (.cells #[.int .u64 0] 22)).alloc (.cells #[.bool false] 4)):=(((((Mod.refl _ w).alloc _).alloc _).alloc _).alloc _).alloc _;generalize(((((w.alloc (.cells #[.int .u64 fr] 22)).alloc (.cells #[.int .u64 up] 22)).alloc (.cells #[.int .u32 0] 114)).alloc (.cells #[.int .u64 0] 22)).alloc (.cells #[.bool false] 4))=W1 at *;obtain⟨b8,hb8⟩:=zc (w.heap.size+1+1);rw[hb8]at h8 h9 h10 ⊢;have hb8':w.heap.size+1<b8:=by omega
 clear hb8;have HA:=za (HL.out W1 hp0)
 go_wp2_with (go_at_call 62;refine HA.out.mono ?_;rintro e w3 ⟨M,B,a,c,rfl,rfl,hit,hp3,hB,hfr⟩)
 have HIT:=za hit;have hItlt : ∀ k,qL B (.slice a M.length c) M k→k<w3.heap.size:=by
  rintro k (rfl | h | ⟨e,v,hm,h⟩)
  ·exact zl hit.box
  ·exact vh hit.row h
  ·exact vh (hit.vals e v hm) h
 have hI0:ZF w fr up b8 [] w3:=⟨hp3.heap (fun h=>h) h4,hp3.heap (fun h=>h) h5,hp3.heap (fun h=>h) h8,hp3.heap (fun h=>h) h9,hp3.heap (fun h=>h) h10,hp0.trans hp3,hb8'⟩;have hw1:b8+1+1<W1.heap.size:=zl h10;have hw3:b8+1+1<w3.heap.size:=zl hI0.r10;have n8:=za (KU hit hB hfr (by omega) hI0.r8 (by decide));have n9:=za (KU hit hB hfr (by omega) hI0.r9 (by decide));have n10:=za (KU hit hB hfr (by omega) hI0.r10 (by decide));clear hit hp3 hB hfr h4 h5 h8 h9 h10 hp0 HA HL;generalize hItd:qL B (.slice a M.length c) M=It at *;refine vQ.1 (Z5 (gf:=228) (lb:=#[.pointer (some ⟨B,0,none⟩)]) rfl (enters_of func228 (by kernel_rfl) rfl) (It:=It) (hItd ▸ zbW HIT.out w3.heap.size (zG _)) hItlt (fun _=>rfl)
  (fun pre W=>ZF w fr up b8 pre W∧w3.heap.size≤W.heap.size) (fun _ _ _=>False) ?hI ?hIx ⟨hI0,zG _⟩ ?round ?done ?stop)
 case hI=>exact fun pre A B ⟨h,hz⟩ hq=>⟨h.quiet (by omega) hq,zH hz (Mod.size hq)⟩
 case hIx=>exact fun _ _ _ _ h _=>h
 case stop=>exact fun _ _ _ _ _ h _=>h.elim
 case done =>
  rintro l xs W hl hS ⟨hI,hWs⟩ hK;have z8:=hI.r8;have z10:=hI.r10;rw[show xs.map vd=live (M.map Prod.fst)from hS]at z8 z10;have HI:=za hI;clear hI hI0 hItlt hS hWs;obtain⟨r,hr⟩:=zc (uQ fr up (live (M.map Prod.fst)));rw[hr]at z8 z10;have HR:=za hr;clear hr;have hk:W.drew.heap[l]? = some (.deferred (some [])):=hK;have hq:zx w3.heap.size _ _:=zx.putObj (.deferred none) hl hk rfl;obtain⟨z8_0,z8_f,z8_l,H_z8⟩:=cr1 z8;clear z8;obtain⟨z10_0,z10_f,z10_l,H_z10⟩:=cr1 z10;clear z10;obtain⟨s8,hs8⟩:=zc (qI r);obtain⟨s10,hs10⟩:=zc r.isSome;rw[hs8]at z8_0;rw[hs10]at z10_0;go_wp2
  go_region_held3 (fun w'=>w'.cell? ⟨b8,0,none⟩=some (.int .u32 s8)∧w'.cell? ⟨b8+1+1,0,none⟩=some (.bool s10))
   (first | exact⟨z8_0,z10_0⟩)
   (fail)
  go_wp2;exact j6 (v:=Um (uQ fr up (live (M.map Prod.fst)))) hk (by simp[results,results264,go_sem,HR.out,Um,hs8,hs10]) ⟨rfl,hq.mod (Mod.drew HI.out.pu) (by omega)⟩
 case round =>
  rintro l pre ⟨i,x,v⟩ W K ⟨hI,hWs⟩ hG hK;obtain⟨va,vc,hv,_⟩:=uN hG.2.1;dsimp only at hv;subst hv;dsimp only[Uv];have HCI:=za hI;have HK:=za hK;clear hI hK hI0 HIT hItlt hG;gi_wp2;have hP:zb W (W.alloc (.cells #[.string x.key,.slice va (zJ x.val).length vc,.int .u64 x.dl,.int .u64 x.birth] 57)):=(Mod.refl _ W).alloc _;have z5:=zi (w:=W) (o := .cells #[.string x.key,.slice va (zJ x.val).length vc,.int .u64 x.dl,.int .u64 x.birth] 57 (0,0)) rfl;refine HK.out _ _ hP (fun l' W2 hl hr hq => ?_);replace HCI:=za ((HCI.out.quiet (N:=w3.heap.size) (by omega) (zx.of_pure hP)).quiet (by omega) hq);have zz5:=hq.cells z5;have hsz2:w3.heap.size≤W2.heap.size:=by have:=Mod.size hq;have:=hP.size;omega
  have hnext:uQ fr up ((pre++[(i,x,Value.slice va (zJ x.val).length vc)]).map vd)=uz fr up (uQ fr up (pre.map vd)) (i,x):=by
   rw[xK];exact zkp _ _ _ _
  have HN:=za hnext;have hb12:w3.heap.size≤W.heap.size:=hWs;clear HK hP hq z5 hnext;generalize W.heap.size=b12 at zz5 hb12 ⊢;have r4:=HCI.out.r4;have r5:=HCI.out.r5;have r8:=HCI.out.r8;have r9:=HCI.out.r9;have r10:=HCI.out.r10;have hw8:=HCI.out.w8;generalize uQ fr up (pre.map vd)=o at *;obtain⟨zz5_0,zz5_1,zz5_2,zz5_3,zz5_f,zz5_l,H_zz5⟩:=cr4 zz5;clear zz5;obtain⟨r4_0,r4_f,r4_l,H_r4⟩:=cr1 r4;clear r4;obtain⟨r5_0,r5_f,r5_l,H_r5⟩:=cr1 r5;clear r5;obtain⟨r8_0,r8_f,r8_l,H_r8⟩:=cr1 r8;clear r8;obtain⟨r9_0,r9_f,r9_l,H_r9⟩:=cr1 r9;clear r9;obtain⟨r10_0,r10_f,r10_l,H_r10⟩:=cr1 r10;clear r10;have HOLD:Hid (uz fr up o (i,x)=o→qE w3.heap.size It (fun pre W=>ZF w fr up b8 pre W∧w3.heap.size≤W.heap.size) (fun _ _ _=>False) (pre++[(i,x,Value.slice va (zJ x.val).length vc)]) W2 .normal {tmps:=#[],defers:=[]} W2):=fun he =>
   ⟨xd.of_mod (S:=fun _=>False) (Mod.refl _ _) (fun k hk h=>h.elim),yS.of_mod (S:=fun _=>False) (Mod.refl _ _) (fun k hk h=>h),⟨H_r4.out,H_r5.out,by rw[HN.out,he];exact H_r8.out,by rw[HN.out,he];exact H_r9.out,by rw[HN.out,he];exact H_r10.out,HCI.out.pu,hw8⟩,hsz2⟩
  have HPUT:Hid (uz fr up o (i,x)=some (i,x.birth)→qE w3.heap.size It (fun pre W=>ZF w fr up b8 pre W∧w3.heap.size≤W.heap.size) (fun _ _ _=>False) (pre++[(i,x,Value.slice va (zJ x.val).length vc)]) W2 .normal {tmps:=#[],defers:=[]}
    (((W2.drew.setCell ⟨b8,0,none⟩ (.int .u32 i)).setCell ⟨b8+1,0,none⟩ (.int .u64 x.birth)).setCell ⟨b8+1+1,0,none⟩ (.bool true))):=fun he=>by
   have hm:Mod (fun k=>k=b8∨k=b8+1∨k=b8+1+1) W2 (((W2.drew.setCell ⟨b8,0,none⟩ (.int .u32 i)).setCell ⟨b8+1,0,none⟩ (.int .u64 x.birth)).setCell ⟨b8+1+1,0,none⟩ (.bool true)) :=
    ((((Mod.refl _ W2).drew).setCell (p:=⟨b8,0,none⟩) (fun _ => .inl rfl) _).setCell (p:=⟨b8+1,0,none⟩) (fun _ => .inr (.inl rfl)) _).setCell (p:=⟨b8+1+1,0,none⟩) (fun _ => .inr (.inr rfl)) _
   refine⟨xd.of_mod hm (fun k hk h=>by omega),yS.of_mod hm (fun k hk h=>by rcases h with rfl | rfl | rfl;exact n8.out hk;exact n9.out hk;exact n10.out hk),⟨hm.heap (by omega) H_r4.out,hm.heap (by omega) H_r5.out,?_,?_,?_,HCI.out.pu.then hm (fun k hk h=>by omega),hw8⟩,zH hsz2 hm.size⟩
   ·rw[HN.out,he];have h1:W2.drew.heap[b8]? = _:=H_r8.out;exact yT (yT (vz (j:=0) (v := .int .u32 i) h1) (by show b8≠b8+1;omega)) (by show b8≠b8+1+1;omega)
   ·rw[HN.out,he];have h1:W2.drew.heap[b8+1]? = _:=H_r9.out;exact yT (vz (j:=0) (v := .int .u64 x.birth) (yT h1 (by show b8+1≠b8;omega))) (by show b8+1≠b8+1+1;omega)
   ·rw[HN.out,he];have h1:W2.drew.heap[b8+1+1]? = _:=H_r10.out;exact vz (j:=0) (v := .bool true) (yT (yT h1 (by show b8+1+1≠b8;omega)) (by show b8+1+1≠b8+1;omega))
  by_cases c1:fr≤x.birth
  ·have d1:decide (fr≤x.birth)=true:=zL c1;have HC1:=za c1;by_cases c2:x.birth≤up
   ·have d2:decide (x.birth≤up)=true:=zL c2;have HC2:=za c2
    cases o with
    | none =>
     dsimp only[V9,qI,Option.isSome]at r8_0 r9_0 r10_0;clear c1 c2;gi_wp2;refine Ve (fun X=>X.cell? ⟨b12,3,none⟩=some (.int .u64 x.birth)) (by kernel_rfl) (by kernel_rfl) ?hL zz5_3 (fun h_ => ?_)
     case hL=>rintro⟨a,w,h⟩;exact h
     refine hTk 0 ?_;refine hTk 1 ?_;refine hLd 2 ?_
     (refine hSt 3 (fun K hK => ?_);go_simp;refine hK.out _ _ ?_ (fun h_ => ?_);(· exact(Mod.set1 _ _ _).cell (fun e=>by have e':b12=b8:=e;omega) h_);clear hK K)
     (refine hSt 4 (fun K hK => ?_);go_simp;refine hK.out _ _ ?_ (fun h_ => ?_);(· exact(Mod.set1 _ _ _).cell (fun e=>by have e':b12=b8+1:=e;omega) h_);clear hK K)
     (refine hSt 5 (fun K hK => ?_);go_simp;refine hK.out _ _ ?_ (fun h_ => ?_);(· exact(Mod.set1 _ _ _).cell (fun e=>by have e':b12=b8+1+1:=e;omega) h_);clear hK K)
     refine hDn ?_;exact HPUT.out (by unfold uz;rw[zk HC1.out,zk HC2.out])
    | some y =>
     by_cases c3:x.birth<y.2
     ·have d3:decide (x.birth<y.2)=true:=zL c3;have HC3:=za c3;dsimp only[V9,qI,Option.isSome]at r8_0 r9_0 r10_0;clear c1 c2 c3;gi_wp2;refine Ve (fun X=>X.cell? ⟨b12,3,none⟩=some (.int .u64 x.birth)) (by kernel_rfl) (by kernel_rfl) ?hL zz5_3 (fun h_ => ?_)
      case hL=>rintro⟨a,w,h⟩;exact h
      refine hTk 0 ?_;refine hTk 1 ?_;refine hLd 2 ?_
      (refine hSt 3 (fun K hK => ?_);go_simp;refine hK.out _ _ ?_ (fun h_ => ?_);(· exact(Mod.set1 _ _ _).cell (fun e=>by have e':b12=b8:=e;omega) h_);clear hK K)
      (refine hSt 4 (fun K hK => ?_);go_simp;refine hK.out _ _ ?_ (fun h_ => ?_);(· exact(Mod.set1 _ _ _).cell (fun e=>by have e':b12=b8+1:=e;omega) h_);clear hK K)
      (refine hSt 5 (fun K hK => ?_);go_simp;refine hK.out _ _ ?_ (fun h_ => ?_);(· exact(Mod.set1 _ _ _).cell (fun e=>by have e':b12=b8+1+1:=e;omega) h_);clear hK K)
      refine hDn ?_;exact HPUT.out (by unfold uz;rw[zk HC1.out,zk HC2.out];dsimp only;rw[zk HC3.out])
     ·have d3:decide (x.birth<y.2)=false:=zQ c3;have hf:uz fr up (some y) (i,x)=some y:=by unfold uz;rw[zk c1,zk c2];dsimp only;rw[zh c3]
      have HF:=za hf;clear hf c1 c2 c3;dsimp only[V9,qI,Option.isSome]at r8_0 r9_0 r10_0;gi_wp2;exact HOLD.out HF.out
   ·have d2:decide (x.birth≤up)=false:=zQ c2;have hf:uz fr up o (i,x)=o:=by unfold uz;rw[zk c1,zh c2]
    have HF:=za hf;clear hf c1 c2;gi_wp2;exact HOLD.out HF.out
  ·have d1:decide (fr≤x.birth)=false:=zQ c1;have hf:uz fr up o (i,x)=o:=by unfold uz;rw[zh c1]
   have HF:=za hf;clear hf c1;gi_wp2;exact HOLD.out HF.out
end
section
open Go.RowKit Go.Shelf
variable{Fo:Nat→Prop}
attribute [local go_sem] Oper.semAt_some
structure Part(seed:Nat)(same:Bool)(L:List (Option Ent))(S:Nat→Prop)(Gs:List Grp):Prop where
 holds:yC (ya seed same L) S Gs
 sub : ∀ s,S s→ub L s
 uniq : ∀ s t,S s→S t→yI L s=yI L t→s=t
def zhG(L:List (Option Ent))(S:Nat→Prop)(key:ByteArray)(r:Nat × Nat):Prop :=
 (∃ s,S s∧yI L s=key∧r=(s,0))∨((∀ s,S s→yI L s≠key)∧r=(0,9))
theorem Part.find{seed:Nat}{same:Bool}{L:List (Option Ent)}{S:Nat→Prop}{Gs:List Grp}(h:Part seed same L S Gs){w w':World}{D:Nat→Prop}{p:Nat}{sv:Value}{key:ByteArray}{C:TypeId→Prop}{J:List Nat→World→Prop}{e:Ending}
  (hp:J0 w D p sv Gs (kp seed same key) (fun _ s=>yI L s==key) C J e w') : ∃ r,zhG L S key r∧e=.returned (.tuple #[.int .u32 (r.1:Nat),.int .i64 (r.2:Nat)]):=by
 obtain⟨_,_,⟨a,x,post,h1,h2,h3,h4,h5⟩ | ⟨h1,h2,h3⟩⟩:=hp
 ·have hx:x∈xG Gs (kp seed same key):=by rw[h1];simp
  have hS:=zdf h.holds hx;have hk:(yI L (zT Gs x)==key)=true:=h3;exact⟨(zT Gs x,0),.inl ⟨_,hS,(YC _ _).1 hk,rfl⟩,h4⟩
 ·refine⟨(0,9),.inr ⟨fun s hs hk => ?_,rfl⟩,h2⟩;obtain⟨i,j,hm,hF⟩:=h.holds.find_some (s:=s) hs;have e1:ya seed same L s=kp seed same key:=by unfold ya;rw[hk]
  rw[e1]at hm;unfold ue at hm;have hx:=Zo hm;have:=Vl h1 _ (zI.2 ⟨_,hx,rfl⟩);rw[hF.slot,hk,(YC key key).2 rfl]at this
  cases this
theorem Part.keeps{seed:Nat}{same:Bool}{L:List (Option Ent)}{S:Nat→Prop}{Gs:List Grp}(h:Part seed same L S Gs)(hS : ∀ s,S s↔ub L s)(hu:zE Gs=zV L):vR seed same L Gs :=
 ⟨h.holds.of_iff hS,fun s t e f h1 h2 hk=>h.uniq s t ((hS s).2 ⟨e,h1⟩) ((hS t).2 ⟨f,h2⟩) (by rw[Zu h1,Zu h2,hk]),hu⟩
section
variable{w:World}{d q p:Nat}{sv:Value}{Dl:Nat→Prop}{seed:Nat}{same:Bool}{L:List (Option Ent)}{Gs:List Grp}
theorem ziy(L:List (Option Ent)) : ∀ i,((xR i L).map Prod.fst).Pairwise (· < ·):=by
 induction L with
 | nil=>intro i;simp[xR]
 | cons o L ih =>
  intro i
  cases o with
  | none=>exact ih (i+1)
  | some e =>
   simp only[xR,List.map_cons,List.pairwise_cons];refine⟨fun y hy => ?_,ih (i+1)⟩;obtain⟨g,hg,rfl⟩:=zI.1 hy;have:=(zdI hg).1;omega
def qB(pre:List (Nat × Ent))(s:Nat):Prop:=s∈pre.map Prod.fst
def ofM(seed:Nat)(same:Bool)(L:List (Option Ent))(pre:List (Nat × Ent)):List Grp:=(pre.map Prod.fst).foldl (qw (ya seed same L)) (xu 1)
theorem zfg(seed:Nat)(same:Bool)(L:List (Option Ent))(pre:List (Nat × Ent))(g:Nat × Ent):ofM seed same L (pre++[g])=qw (ya seed same L) (ofM seed same L pre) g.1:=by
 unfold ofM;rw[xK,YQ];rfl
theorem Part.put{L:List (Option Ent)}{pre:List (Nat × Ent)}{g:Nat × Ent}{post:List (Nat × Ent)}(h:Part seed same L (qB pre) (ofM seed same L pre))(hu:zE (ofM seed same L pre)=pre.length)(hl:live L=pre++g::post)(hlen:L.length≤4194304)
  (hn : ∀ s,qB pre s→yI L s≠g.2.key) :
  Part seed same L (qB (pre++[g])) (ofM seed same L (pre++[g]))∧zE (ofM seed same L (pre++[g]))=(pre++[g]).length∧g.1≤4294967295 ∧
   ∃ x,jF (ofM seed same L pre).length (zE (ofM seed same L pre)) (ye (ofM seed same L pre))=some x∧Pow x.1∧zE (ofM seed same L pre)≤8*x.1∧vG (doG (ya seed same L) x (ofM seed same L pre)) (ya seed same L g.1) g.1=some (ofM seed same L (pre++[g])):=by
 have hup:=ziy L 0;rw[show xR 0 L=live L from rfl,hl,xK,Zh,j5]at hup;have hnot : ¬ qB pre g.1:=fun hs=>by have:=hup.2.2 _ hs g.1 (by simp);omega
 have hg:L[g.1]? = some (some g.2):=zar (by rw[hl];simp);have hlt:=(zF.1 hg).1;have hpl:pre.length≤4194304:=by have:=KC L;rw[hl]at this;simp at this;omega
 obtain⟨x,k1,k2,k3,k4,k5,k6,k7,k8⟩:=h.holds.put (by rw[hu];exact hpl) (s:=g.1) (by omega) hnot;rw[zfg];have hiff : ∀ s,qB (pre++[g]) s↔s=g.1∨qB pre s:=fun s=>by unfold qB;simp[or_comm]
 refine⟨⟨k7.of_iff (fun s=>(hiff s).symm),fun s hs => ?_,fun s t hs ht hk => ?_⟩,by rw[k8,hu];simp,by omega,x,k1,k2,k3,k6⟩
 ·rcases(hiff s).1 hs with rfl | hs
  ·exact⟨g.2,hg⟩
  ·exact h.sub s hs
 ·rcases(hiff s).1 hs with rfl | hs<;>rcases(hiff t).1 ht with rfl | ht
  ·rfl
  ·rw[Zu hg]at hk;exact absurd hk.symm (hn t ht)
  ·rw[Zu hg]at hk;exact absurd hk (hn s hs)
  ·exact h.uniq s t hs ht hk
end
end
section
open Go.RowKit Go.Shelf
variable{Fo:Nat→Prop}
def KX(w:World)(v:Value):Prop:=v=.pointer none ∨ ∃ d,v=yY d∧w.heap[d]? = some (.cells #[.pointer none,.int .u64 0,.bool false,.pointer none] 202 (0,0))
theorem KX.pure{w w':World}{v:Value}(h:KX w v)(hp:zb w w'):KX w' v:=by
 rcases h with h | ⟨b,h1,h2⟩
 ·exact .inl h
 ·exact .inr ⟨b,h1,hp.heap (fun h=>h) h2⟩
section
variable{w:World}{D:Nat→Prop}{d seed:Nat}{same:Bool}{L:List (Option Ent)}{Gs:List Grp}
theorem zgU(h:zW Fo w D d seed same L Gs):zbU w (yY d):=fun W hW=>by
 have HL:=za (zjP (h.pure hW));clear h hW;go_enter func263,ntmps263
 go_wp2_with (go_at_call 258;refine HL.out.mono ?_;rintro e w' ⟨q2,D2,rfl,g1,g2,g3⟩)
 go_ret;exact⟨rfl,g2⟩
theorem zd3(h:zW Fo w D d seed same L Gs):YK w (yY d) L:=fun W hW=>QO (h.pure hW)
end
def Zb(L:List (Option Ent))(b:Nat):Nat × Nat:=if b<18446744073709551615 then(match uQ ((b:Int)+1) 18446744073709551615 (live L)with
 | some x=>(x.1,0)
 | none=>(0,14))else(0,14)
theorem Az52z {P:Prop}(h:P:=by
 simp only[qI,Option.isSome]at HF;go_enter func192,ntmps192
 go_wp2_with (first
   | (go_at_call 263;refine HZ.out.mono ?_;rintro e w1 ⟨rfl,hp1⟩)
   | (go_at_call 264;refine(HF.out _ hp1).mono ?_;rintro e w2 ⟨rfl,hp2⟩))
 go_ret2;exact⟨rfl,hp1.trans hp2⟩):P:=h
theorem zjD{w:World}{v:Value}{L:List (Option Ent)}(h:YK w v L)(hz:zbU w v)(b:Nat)(hb:b<18446744073709551616):Calls prog 192 #[v,.int .u64 b] w fun e w'=>e=.returned (.tuple #[.int .u32 ((Zb L b).1:Nat),.int .i64 ((Zb L b).2:Nat)])∧zb w w':=by
  have HZ:=za (hz w (Mod.refl _ _));by_cases c:b<18446744073709551615
  · have d1:decide ((b:Int)<18446744073709551615)=true:=zL (by omega)
    have wn:IntKind.u64.wrap ((b:Int)+1)=(b:Int)+1:=by
      have:=uJ (b+1) (by omega);rw[show(((b+1:Nat)):Int)=(b:Int)+1 by omega]at this;exact this
    have HF:=za (fun(W:World) (hW:zb w W)=>ziq (d:=0) v (h.pure hW) ((b:Int)+1) 18446744073709551615);unfold Zb;rw[zk c];clear h hz c hb;obtain⟨o,ho⟩:=zc (uQ ((b:Int)+1) 18446744073709551615 (live L));rw[ho]at HF ⊢;clear ho;unfold Um at HF
    cases o with
    | none =>
      exact Az52z
    | some x =>
      exact Az52z
  · have d1:decide ((b:Int)<18446744073709551615)=false:=zQ (by omega)
    unfold Zb;rw[zh c];clear h hz c hb;go_enter func192,ntmps192
    go_wp2_with (first
      | (go_at_call 263;refine HZ.out.mono ?_;rintro e w1 ⟨rfl,hp1⟩))
    go_ret2;exact⟨rfl,hp1⟩
end
section
open Go.RowKit Go.Shelf
variable{Fo:Nat→Prop}
attribute [local go_sem] Oper.semAt_some
theorem zY.quiet'{N:Nat}{A B:World}{D:Nat→Prop}{p:Nat}{L:List (Option Ent)}(h:zY Fo A D p L)(hq:zx N A B):zY Fo B D p L:=by
 obtain⟨sv,M,rfl,h⟩:=h;exact(h.quiet hq).toAt
section
variable{w w':World}{d q p:Nat}{sv:Value}{Dl:Nat→Prop}{seed:Nat}{same:Bool}{L:List (Option Ent)}{Gs:List Grp}
theorem zZ.quiet{N:Nat}{A B:World}(h:zZ Fo A d q p sv Dl seed same L Gs)(hq:zx N A B):zZ Fo B d q p sv Dl seed same L Gs :=
 ⟨hq.cells h.box,h.log.quiet' hq,h.ix.quiet hq,h.sd⟩
end
structure KL(Fo:Nat→Prop)(w:World)(d q:Nat)(Dl:Nat→Prop)(seed:Nat)(same:Bool)(L:List (Option Ent))(It:Nat→Prop)(b4 b5 b7:Nat)(pre:List xr)(W:World):Prop where
 r4:W.heap[b4]? = some (.cells #[.pointer none] 76 (0,0))
 r5:W.heap[b5]? = some (.cells #[.int .i64 0] 26 (0,0))
 r7:W.heap[b7]? = some (.cells #[.pointer (some ⟨d,0,none⟩)] 76 (0,0))
 mem : ∃ p sv,zZ Fo W d q p sv Dl seed same L (ofM seed same L (pre.map vd))∧w.heap.size≤p∧(∀ k,sv.ownBlock=some k→w.heap.size≤k) ∧ ¬ It p ∧ ∀ k,sv.ownBlock=some k → ¬ It k
 part:Part seed same L (qB (pre.map vd)) (ofM seed same L (pre.map vd))
 used:zE (ofM seed same L (pre.map vd))=pre.length
 pu:zb w W
theorem KL.quiet{w:World}{d q:Nat}{Dl:Nat→Prop}{seed:Nat}{same:Bool}{L:List (Option Ent)}{It:Nat→Prop}{b4 b5 b7:Nat}{pre:List xr}{A B:World}(h:KL Fo w d q Dl seed same L It b4 b5 b7 pre A){N:Nat}(hN:w.heap.size≤N)(hq:zx N A B):KL Fo w d q Dl seed same L It b4 b5 b7 pre B:=by
 obtain⟨p,sv,h1,h2⟩:=h.mem;exact⟨hq.cells h.r4,hq.cells h.r5,hq.cells h.r7,⟨p,sv,h1.quiet hq,h2⟩,h.part,h.used,hq.mod h.pu hN⟩
end
section
open Go.ChangeShapes Go.WideShapes Go.ChangeAt Go.RowKit
abbrev zee:List (String × DataW Unit):=Rows.cacheNoneRow.laid
theorem zhC:(Rows.laid_math_bits_deBruijn64tab:DataW Unit)=Lib.tabData .u8 (Lib.deBruijn64tab.map fun n:Nat=>(n:Int)):=by kernel_rfl
theorem zkB{W:World}(h:laidMetH prog zee W):xy W:=by
 rw[MakeChecks.laidMetH_plain _ _ _ (by kernel_rfl)]at h;obtain⟨ps,⟨g,t,cs,fuel,p,q,hg,ht,hv,hd,_,_⟩,_,_⟩:=h;have e0:some g=some 0:=hg.symm.trans (by kernel_rfl);injection e0 with e0
 subst e0;have hd':DataW.trod (fun _=>()) prog W 0 (fun _=>true) false fuel t cs.toList=some (Lib.tabData .u8 (Lib.deBruijn64tab.map fun n:Nat=>(n:Int)),p):=by rw[← zhC];exact hd
 have hc:=Lib.cells_of_tab (n:=64) (e:=5) (by rw[← qQ ht];kernel_rfl) underlying5 (by kernel_rfl) (by rw[← qQ ht];kernel_rfl) hd';intro j hj;have hvc:=World.var?_cell hg hv j;rw[hvc];have:cs[j]? = cs.toList[j]?:=by simp
 rw[this,hc];simp only[List.getElem?_map,List.map_map];rw[zN hj];simp[List.getD,List.getElem?_eq_getElem hj]
end
section
open Go.RowKit Go.Shelf
variable{Fo:Nat→Prop}
end
section
open Go.RowKit
theorem qF(xs:List Wt) : ∀ u∈xs.flatMap wtC,u.oneCell'=true:=by
 intro u hu;obtain⟨x,_,hu⟩:=ZG.1 hu;simp[wtC]at hu;rcases hu with rfl | rfl<;>rfl
theorem jK(xs:List Wt):(xs.flatMap wtC).length=xs.length*2:=by
 induction xs with
 | nil=>rfl
 | cons x r ih=>rw[qX,zR,ih];simp[wtC];omega
@[go_sem] theorem zmJ (w : World) (a : Option Addr) (n c : Nat) : (binOp .eql 152 (.slice a n c) (.slice none 0 0)).run prog w=.ok (.bool a.isNone) w :=
 Lib.run_eql_slice_nil w _ _ a n c 0 0 underlying152
section
variable{w:World}
def zgD(w:World)(e:Ending)(w':World):Prop := ∃ a c,e=.returned (.slice a 0 c)∧w'.ownsRow 0 155 2 (.slice a 0 c) 0 []∧xA w (.slice a 0 c)∧zb w w'
theorem zh6(n:Nat)(hn:n≤8388608):Calls prog 346 #[.slice none 0 0,.int .i64 n] w (zgD w):=by
 obtain⟨i0,hi,iz0,iz1,iz2⟩:=xn XM;have h1 : ¬ ((n:Int)<0):=by omega
 by_cases h0:n=0
 ·subst h0;go_enter func346,ntmps346;go_wp2;go_ret;exact⟨none,0,rfl,vj _ _ _ _,(fun g e=>by cases e),Mod.refl _ _⟩
 ·have h4:(n:Int)>0:=by omega
  have w0:IntKind.i64.wrap ((0:Int)-0)=0:=by rfl
  have w1:IntKind.i64.wrap ((n:Int)-0)=n:=by rw[Int.sub_zero];exact zt _ (by omega)
  have hrz : ∀ ty,(Builtin.append_ #[152,3] ty #[.slice none 0 0,.int .i64 (n:Nat)]).run prog w=.ok (.slice (some ⟨w.heap.size,0,none⟩) n (grownCap w n 0 155)) (w.drew.alloc (.cells (#[]++Builtin.zeroCells #[.int .u32 0,.int .i64 0] n++Builtin.zeroCells #[.int .u32 0,.int .i64 0] (grownCap w n 0 155-n)) 155)):=fun ty=>by
   have h:=Lib.run_append_grow_zeros (P:=prog) w 152 3 ty 155 i0 _ .i64 .i64 underlying152 underlying3 hi iz0 none 0 0 [] (run_firstCells_none w.drew i0.size 0 0 0) n (by omega) (by rw[iz1];decide) (by omega) (by omega)
    (by rw[iz2];omega) (growslice_fits (by omega) (by rw[iz2];omega))
   rw[ZV]at h;exact h
  have hGn:n≤grownCap w n 0 155:=grownCap_ge w _ _ _;have hG63:=grownCap_le_maxLen w n 0 155 (by unfold maxLen;omega);obtain⟨G,hG⟩:=zc (grownCap w n 0 155);rw[hG]at hrz hGn hG63;have hG64:G≤9223372036854775807:=by unfold maxLen at hG63;omega
  have hG65:(0:Int)≤(G:Int):=by omega
  have HG:=za hG63;clear hG hG63;go_enter func346,ntmps346
  go_wp2_with (at_builtin;refine Lib.wpList_append_run _ rfl _ _ _ _ rfl _ _ rfl rfl _ _ (hrz _) ?_)
  go_ret;refine⟨some ⟨w.heap.size,0,none⟩,G,rfl,World.ownsRow_made w.drew _ G (yh _) HG.out ?_,fun g e=>by cases e;exact zG _,((Mod.refl _ w).drew).alloc _⟩;simp[size_zeroCells];omega
theorem zkN(a:Option Addr)(n c:Nat)(xs:List Value)(hx:zn w (.slice a n c) 2 xs)(hn:n≤4294967295) :
  Calls prog 348 #[.slice a n c] w (VU 155 2 xs w):=by
 obtain⟨i0,hi,hz0,hz1,hz2⟩:=xn XM;have hlen:xs.length=n*2:=jo hx
 cases a with
 | none =>
  have h0:=KK _ _ _ _ _ hx;have H:=za hx;clear hx;go_enter func348,ntmps348;exact Azajz
 | some ad =>
  have H:=za (hx.frame ((Mod.refl (fun _=>False) w).alloc (.cells #[] 155)) (fun _ _ h=>h));clear hx;have HO:=za (KM w 155 2);go_enter func348,ntmps348
  go_wp2_with (at_builtin;refine ul _ rfl _ _ 152 rfl 155 i0 _ 2 16 underlying152 hi hz0 hz1 hz2 rfl (by decide) _ 0 [] rfl HO.out _ xs n rfl H.out hlen (by unfold maxLen;omega) (by omega) ?_;intro a' c' w1 ho hg hb)
  exact Az6dl
def zbk(xs ys:List Wt):Nat→List Wt
 | 0=>[]
 | 1=>xs
 | _=>xs++ys
structure XZ(w:World)(zs:List Wt)(a:Option Addr)(c:Nat)(wr:World):Prop where
 row:ZB wr a c zs
 fr:xA w (.slice a zs.length c)
 pu:zb w wr
theorem XZ.app{zs ys:List Wt}{a a':Option Addr}{c c':Nat}{wr w':World}(h:XZ w zs a c wr)(ho:w'.ownsRow 0 155 2 (.slice a' (zs.length+ys.length) c') (zs.length+ys.length) (zs.flatMap wtC++ys.flatMap wtC))(hg:wr.grownBy w' (Value.slice a zs.length c).ownBlock)
  (hb:(Value.slice a' (zs.length+ys.length) c').ownBlock=(Value.slice a zs.length c).ownBlock∨(Value.slice a' (zs.length+ys.length) c').ownBlock=some wr.heap.size):XZ w (zs++ys) a' c' w':=by
 refine⟨?_,?_,h.pu.then (Mod.of_grown (S:=fun k=>(Value.slice a zs.length c).ownBlock=some k) hg (fun k e _=>e)) (fun i hi e=>by have:=h.fr i e;omega)⟩
 ·show World.ownsRow _ _ _ _ _ _ _
  rw[zR,ZW];exact ho
 ·rw[zR];intro g e;rcases hb with hb | hb
  ·exact h.fr g (hb ▸ e)
  ·rw[hb]at e;cases e;exact h.pu.size
theorem zhB{b:Nat}{a1 a2:Option Addr}{c1 c2:Nat}{xs ys:List Wt}(hb:w.heap[b]? = some (.cells #[.slice a1 xs.length c1,.slice a2 ys.length c2] 152 (0,0)))
  (h1:zn w (.slice a1 xs.length c1) 2 (xs.flatMap wtC)) (h2:zn w (.slice a2 ys.length c2) 2 (ys.flatMap wtC)) (hx:xs.length≤4194304) (hy:ys.length≤4194304) :
  Calls prog 302 #[.slice (some ⟨b,0,none⟩) 2 2] w (qG w (xs++ys)):=by
 obtain⟨i0,hi,iz0,iz1,iz2⟩:=xn XM;have HB:=za hb;have H1:=za h1;have H2:=za h2;have l1:=jK xs;have l2:=jK ys;obtain⟨n1,hn1⟩:=zc xs.length;obtain⟨n2,hn2⟩:=zc ys.length;have HN1:=za hn1;have HN2:=za hn2;have HL1:=za l1;have HL2:=za l2;rw[hn1]at hb hx;rw[hn2]at hb hy;clear h1 h2 hn1 hn2 l1 l2;have HGR:=za (zh6 (w:=w) (n1+n2) (by omega));go_enter func302,ntmps302;obtain⟨hb_0,hb_1,hb_f,hb_l,H_hb⟩:=cr2 hb;clear hb;go_wp2;go_loopw [3,11] (fun v3 v11 wr => ∃(k s:Nat),k≤2∧v11=.int .i64 (k:Nat)∧v3=.int .i64 (s:Nat)∧(k=0→s=0)∧(k=1→s=n1)∧(k=2→s=n1+n2)∧wr=w) (fun _ v11 _=>2-(intOf v11).toNat)
 case atStart=>exact⟨0,0,by omega,rfl,rfl,by omega,by omega,by omega,rfl⟩
 case round =>
  obtain⟨k,s,hk,rfl,rfl,hs0,hs1,hs2,rfl⟩:=hrel;obtain rfl | rfl | rfl:k=0∨k=1∨k=2:=by omega
  ·obtain rfl:=hs0 rfl;clear hs0 hs1 hs2 hk;have e1:IntKind.i64.wrap (0+(n1:Int))=n1:=by rw[Int.zero_add];exact zt _ (by omega)
   have e2 : ¬ ((n1:Int)<0):=by omega
   go_wp2;go_roundw
   case rel=>exact⟨1,n1,by omega,rfl,rfl,by omega,by omega,by omega,by first | rfl | trivial⟩
   case measure=>simp[intOf]
  ·obtain rfl:=hs1 rfl;clear hs0 hs1 hs2 hk;have e1:IntKind.i64.wrap ((s:Int)+(n2:Int))=((s+n2:Nat):Int):=by rw[zt _ (by omega)];omega
   have e2 : ¬ (((s+n2:Nat):Int)<0):=by omega
   go_wp2;go_roundw
   case rel=>exact⟨2,s+n2,by omega,rfl,rfl,by omega,by omega,by omega,by first | rfl | trivial⟩
   case measure=>simp[intOf]
  ·obtain rfl:=hs2 rfl;clear hs0 hs1 hs2 hk;clear hb_0 hb_1 hb_f hb_l;clear H_hb
   go_wp2_with (go_at_call 346;refine HGR.out.mono ?_;rintro e w3 ⟨a3,c3,rfl,ho3,hf3,hp3⟩)
   have hb3:=hp3.heap (fun h=>h) HB.out;have HI0:Hid (XZ wr [] a3 c3 w3):=za ⟨ho3,hf3,hp3⟩;have hr1:=H1.out.frame hp3 (fun _ _ h=>h);have hr2:=H2.out.frame hp3 (fun _ _ h=>h);have HP3:=za hp3;have HR1:=za H1.out;have HR2:=za H2.out;rw[HN1.out]at HR1;rw[HN2.out]at HR2;rw[HN1.out,HN2.out]at hb3;clear hr1 hr2 ho3 hf3 hp3;obtain⟨hb3_0,hb3_1,hb3_f,hb3_l,H_hb3⟩:=cr2 hb3;clear hb3;go_loopw [6,27] (fun v6 v27 wx => ∃(k m:Nat) (a:Option Addr) (c:Nat),k≤2∧v27=.int .i64 (k:Nat)∧v6=.slice a m c∧m=(zbk xs ys k).length∧XZ wr (zbk xs ys k) a c wx) (fun _ v27 _=>2-(intOf v27).toNat)
   case atStart=>exact⟨0,0,a3,c3,by omega,rfl,rfl,rfl,HI0.out⟩
   case round =>
    obtain⟨k,m,a,c,hk,rfl,rfl,hm,hI⟩:=hrel;have HI:=za hI;have HM:=za hm;have hbx:=hI.pu.heap (fun h=>h) HB.out;rw[HN1.out,HN2.out]at hbx;clear hI hm;obtain rfl | rfl | rfl:k=0∨k=1∨k=2:=by omega
    ·obtain⟨hbx_0,hbx_1,hbx_f,hbx_l,H_hbx⟩:=cr2 hbx;clear hbx;obtain rfl:m=0:=HM.out;go_upto_region 14 with(at_builtin;refine ul _ rfl _ _ 152 rfl 155 i0 _ 2 16 underlying152 hi iz0 iz1 iz2 rfl (by decide) (.slice a 0 c) 0 _ rfl HI.out.row _ (xs.flatMap wtC) n1 rfl (HR1.out.frame HI.out.pu (fun _ _ h=>h)) (by rw[jK,HN1.out]) (by unfold maxLen;omega) (by omega) ?_;intro a7 c7 w7 hr7 hg7 hb7)
     rw[← HN1.out]at hr7 hb7;have HI7:=za (HI.out.app hr7 hg7 hb7);clear hr7 hg7 hb7 hk;clear hbx_0 hbx_1 hbx_f hbx_l;clear H_hbx;go_wp2;go_roundw
     case rel=>exact⟨1,_,a7,c7,by omega,rfl,rfl,HN1.out.symm,HI7.out⟩
     case measure=>simp[intOf]
    ·obtain⟨hbx_0,hbx_1,hbx_f,hbx_l,H_hbx⟩:=cr2 hbx;clear hbx;have HMX:=za (show m=n1 from HM.out.trans HN1.out);go_upto_region 14 with(at_builtin;refine ul _ rfl _ _ 152 rfl 155 i0 _ 2 16 underlying152 hi iz0 iz1 iz2 rfl (by decide) (.slice a m c) m _ rfl (by rw[HM.out];exact HI.out.row) _ (ys.flatMap wtC) n2 rfl (HR2.out.frame HI.out.pu (fun _ _ h=>h)) (by rw[jK,HN2.out]) (by have:=HMX.out;unfold maxLen;omega) (by have:=HMX.out;omega) ?_;intro a7 c7 w7 hr7 hg7 hb7)
     rw[HM.out,← HN2.out]at hr7 hb7;rw[HM.out]at hg7;have HI7:=za (HI.out.app hr7 hg7 hb7);clear hr7 hg7 hb7 hk;clear hbx_0 hbx_1 hbx_f hbx_l;clear H_hbx;go_wp2;go_roundw
     case rel=>exact⟨2,m+n2,a7,c7,by omega,rfl,rfl,by rw[HMX.out,← HN1.out,← HN2.out];exact(zR ..).symm,HI7.out⟩
     case measure=>simp[intOf]
    ·clear hbx hk;go_wp2;go_ret;refine⟨a,c,by rw[HM.out];rfl,HI.out.row,HI.out.fr,HI.out.pu⟩
end
theorem ZY{W:World}{ad:Addr}{k j:Nat}{u:Value}(h:W.cell? (ad.add (k+(j+1)))=some u):W.cell? ⟨(ad.add k).block,(ad.add k).off+(j+1),none⟩=some u:=by
 rw[← Go.Deep.add_add]at h;unfold Addr.add at h ⊢;rw[zh (by omega)]at h;exact h
theorem YJ{L:List Wt}{j:Nat}{x:Wt}(hx:L[j]? = some x):(L.flatMap wtC)[j*2]? = some (.int .u32 x.slot)∧(L.flatMap wtC)[j*2+1]? = some (.int .i64 x.cost):=by
 have g:=fun i (hi:i<2)=>uX wtC 2 (fun _=>rfl) i hi L j
 exact⟨by have:=g 0 (by omega);rw[XR]at this;rw[this,hx];rfl,by rw[g 1 (by omega),hx];rfl⟩
theorem Uh{w:World}{a:Option Addr}{n c:Nat}{L:List Wt}(h:zn w (.slice a n c) 2 (L.flatMap wtC)){j:Nat}{x:Wt}(hx:L[j]? = some x) :
  ∃ ad,a=some ad∧w.cell? (ad.add (j*2))=some (.int .u32 x.slot)∧w.cell? ⟨(ad.add (j*2)).block,(ad.add (j*2)).off+1,none⟩=some (.int .i64 x.cost):=by
 obtain⟨a',n',c',e,hl,_,h0,hc⟩:=h;injection e with e1 e2 e3
 subst e1 e2 e3;have hj:=(zF.1 hx).1
 cases a with
 | none =>
  have:=h0 rfl;subst this;rw[jK]at hl;omega
 | some ad=>exact⟨ad,rfl,hc ad rfl _ _ (YJ hx).1,ZY (j:=0) (hc ad rfl _ _ (YJ hx).2)⟩
section
variable{w w':World}{bc keep:Nat}{cv:Value}
abbrev ChC(w:World)(bc:Nat)(cv:Value)(keep:Nat):Prop:=w.heap[bc]? = some (.cells #[cv,.int .u32 keep] 314 (0,0))
theorem zdb(h:ChC w bc cv keep)(s:Nat)(k:Int):Calls prog 349 #[.agg #[.int .u32 s,.int .i64 k],.pointer (some ⟨bc,0,none⟩)] w fun e w'=>e=.returned (.bool (decide (s=keep)))∧zb w w':=by
 have hc:w.cell? ⟨bc,1,none⟩=some (.int .u32 keep):=zf w bc 1 _ _ (0,0) h;have hlt:=zl h;clear h;by_cases e:s=keep
 ·subst e;go_enter func349,ntmps349;go_wp2;go_ret;exact⟨by simp,(Mod.refl _ w).alloc _⟩
 ·have e1:((s:Int)==(keep:Int))=false:=uE.2 (by omega);go_enter func349,ntmps349;go_wp2;go_ret;exact⟨by simp[e],(Mod.refl _ w).alloc _⟩
def kR(keep:Nat)(x:Wt):Bool:=decide (x.slot=keep)
def Zc(keep:Nat)(L:List Wt):Int:=match L.findIdx? (kR keep)with | some i=>(i:Nat) | none => -1
theorem zfZ{L:List Wt}{j:Nat}{x:Wt}(hx:L[j]? = some x)(hs:x.slot=keep)(hno : ∀(i:Nat) (y:Wt),i<j→L[i]? = some y→y.slot≠keep):Zc keep L=(j:Nat):=by
 have hj:=(zF.1 hx).1;have h1:L.findIdx? (kR keep)=some j:=by
  rw[Je];refine⟨hj,?_,fun i hi => ?_⟩
  ·rw[zN hj]at hx;injection hx with hx
   rw[hx];simp[kR,hs]
  ·have:=hno i L[i] hi (zN (by omega));simp[kR,this]
 unfold Zc;rw[h1]
theorem zhv{L:List Wt}(hno : ∀(i:Nat) (y:Wt),L[i]? = some y→y.slot≠keep):Zc keep L = -1:=by
 have h1:L.findIdx? (kR keep)=none:=by
  rw[Vm];intro x hx;obtain⟨i,hi⟩:=ug hx;simp[kR,hno i x hi]
 unfold Zc;rw[h1]
abbrev kpF(bc:Nat):Value := .func (.func 349) #[] #[.pointer (some ⟨bc,0,none⟩)]
theorem zew{a:Option Addr}{n c:Nat}{L:List Wt}(h:zn w (.slice a n c) 2 (L.flatMap wtC))(hn:L.length=n)(hl:n≤8388608)(hc:ChC w bc cv keep) :
  Calls prog 379 #[.slice a n c,kpF bc] w fun e w'=>e=.returned (.int .i64 (Zc keep L))∧zb w w':=by
 have HR:=za h;have HN:=za hn;have HC:=za hc;clear h hn hc;go_enter func379,ntmps379;go_upto_region 2 with fail
 go_loopw [8] (fun v8 wr => ∃ j:Nat,v8=.int .i64 (j:Nat)∧j≤n∧zb w wr ∧ ∀ i y,i<j→L[i]? = some y→y.slot≠keep) (fun v8 _=>n-(intOf v8).toNat)
 case atStart=>exact⟨0,rfl,yh _,Mod.refl _ _,fun i y h=>by omega⟩
 case round =>
  obtain⟨j,rfl,hj,hpu,hno⟩:=hrel;have HNO:=za hno;have HPU:=za hpu;clear hno hpu;by_cases hlt:j<n
  ·have hlt':(j:Int)<(n:Int):=by omega
   have j0:(0:Int)≤(j:Int):=by omega
   have wj:IntKind.i64.wrap ((j:Int)+1)=(j:Int)+1:=zt _ (by omega);obtain⟨x,hx⟩ : ∃ x,L[j]? = some x:=⟨_,zN (by rw[HN.out];exact hlt)⟩;obtain⟨ad,rfl,z0,z1⟩:=Uh (HR.out.frame HPU.out (fun _ _ h=>h)) hx;have HX:=za hx;have HCl:=za (zdb (HPU.out.heap (fun h=>h) HC.out) x.slot x.cost);clear hx;by_cases hs:x.slot=keep
   ·have hd:decide (x.slot=keep)=true:=zL hs;rw[hd]at HCl;have HF:=za (zfZ HX.out hs HNO.out);clear hd hs
    go_wp2_with (go_at_call 349;refine HCl.out.mono ?_;rintro e w3 ⟨rfl,hp3⟩)
    go_ret;exact⟨by rw[HF.out];rfl,HPU.out.trans hp3⟩
   ·have hd:decide (x.slot=keep)=false:=zQ hs;rw[hd]at HCl;have HS:=za hs;clear hd hs
    go_wp2_with (go_at_call 349;refine HCl.out.mono ?_;rintro e w3 ⟨rfl,hp3⟩)
    go_roundw
    case rel=>exact⟨j+1,by first | rfl | simp,hlt,HPU.out.trans hp3,fun i y hi hy=>by
     by_cases e:i=j
     ·subst e;rw[HX.out]at hy;injection hy with hy;exact hy ▸ HS.out
     ·exact HNO.out i y (by omega) hy⟩
    case measure=>simp[intOf];omega
  ·have hlt' : ¬ (j:Int)<(n:Int):=by omega
   obtain rfl:j=n:=by omega
   have HF:=za (zhv (keep:=keep) (L:=L) (fun i y hy=>HNO.out i y (by have:=(zF.1 hy).1;rw[HN.out]at this;exact this) hy));go_wp2;go_ret;exact⟨by rw[HF.out];rfl,HPU.out⟩
end
def jI(now:Nat)(ws:List Nat)(bm bb:Nat):List Value := .int .u64 now::((ws.map lkP++List.replicate (8-ws.length) (.pointer none))++[.map (some bm),.map (some bb)])
theorem zi0{now bm bb:Nat}{ws:List Nat}(h:ws.length=8):jI now ws bm bb=Yw now ws bm bb:=by
 unfold jI Yw;rw[h];simp
theorem zgl{now bm bb:Nat}{ws:List Nat}(h:ws.length<8)(q:Nat):(jI now ws bm bb).set (1+ws.length) (lkP q)=jI now (ws++[q]) bm bb:=by
 unfold jI;obtain⟨m,hm⟩ : ∃ m,8-ws.length=m+1:=⟨8-ws.length-1,by omega⟩;have hm2:8-(ws++[q]).length=m:=by simp;omega
 rw[hm,hm2,show 1+ws.length=ws.length+1 from Nat.add_comm _ _,ZO,List.set_append_left _ _ (by simp),XC _ _ (by simp)];simp[List.replicate_succ]
structure NwI(w wr:World)(p now bm bb i:Nat)(ws:List Nat)(Ds:Nat→Nat→Prop):Prop where
 box:wr.heap[p]? = some (.cells (jI now ws bm bb).toArray 297 (0,0))
 len:ws.length=i
 what:yL wr bm [] (.map [])
 births:xS wr bb [] (.map [])
 lev : ∀(l q:Nat),ws[l]? = some q→yV wr (Ds l) q (List.replicate 256 [])
 apart : ∀ l l' k,l<i→l'<i→l≠l'→Ds l k → ¬ Ds l' k
 own : ∀ l k,l<i→Ds l k→p<k∧k<wr.heap.size
 ge:w.heap.size≤p∧w.heap.size≤bm∧w.heap.size≤bb∧bm<p∧bb<p∧bm≠bb
 pure:zb w wr
theorem NwI.step{w wr w2:World}{p now bm bb i q:Nat}{ws:List Nat}{Ds:Nat→Nat→Prop}{D2:Nat→Prop}(h:NwI w wr p now bm bb i ws Ds)(hi:i<8)(hw:yV w2 D2 q (List.replicate 256 []))(hp:zb wr w2)(hf : ∀ k,D2 k→wr.heap.size≤k) :
  NwI w (w2.setCell ⟨p,1+i,none⟩ (lkP q)) p now bm bb (i+1) (ws++[q]) (kD Ds i D2):=by
 have hm:Mod (fun k=>k=p) w2 (w2.setCell ⟨p,1+i,none⟩ (lkP q)):=(Mod.refl (fun k=>k=p) w2).setCell (p:=⟨p,1+i,none⟩) (fun _=>rfl) _;have hplt:=zl h.box;have hle:=hp.size;have hle2:=hm.size;obtain⟨g1,g2,g3,g4,g5,g6⟩:=h.ge;have hb2:=hp.heap (fun h=>h) h.box;refine⟨?_,by rw[zR,h.len];rfl,(h.what.mod hp (fun h=>h)).mod hm (by show ¬ bm=p;omega),(h.births.mod hp (fun h=>h)).mod hm (by show ¬ bb=p;omega),fun l q' hq => ?_,fun l l' k hl hl' hne hk => ?_,fun l k hl hk => ?_,h.ge,h.pure.trans hp |>.then hm (fun k hk e=>by omega)⟩
 ·rw[zP w2 p (1+i) _ _ (lkP q) hb2,← zgl (by rw[h.len];exact hi),h.len]
  congr 2
  exact YB ..
 ·unfold kD;by_cases e:l=i
  ·subst e;rw[zk rfl];rw[ji (by rw[h.len];exact zG _),h.len,ZD]at hq
   cases hq
   exact hw.frame hm (fun k hk e=>by have:=hf k hk;omega)
  ·rw[zh e];have hl:l<ws.length:=by
    have:=(zF.1 hq).1;rw[zR]at this;have hln:=h.len;simp at this;omega
   rw[ur hl]at hq;exact((h.lev l q' hq).pure hp).frame hm (fun k hk e=>by have:=(h.own l k (by rw[← h.len];exact hl) hk).1;omega)
 ·unfold kD at hk ⊢;by_cases e:l=i
  ·rw[zk e]at hk;rw[zh (by omega)];intro hk3;have:=(h.own l' k (by omega) hk3).2;have:=hf k hk;omega
  ·rw[zh e]at hk;by_cases e3:l'=i
   ·rw[zk e3];intro hk3;have:=(h.own l k (by omega) hk).2;have:=hf k hk3;omega
   ·rw[zh e3];exact h.apart l l' k (by omega) (by omega) hne hk
 ·unfold kD at hk;by_cases e:l=i
  ·rw[zk e]at hk;have h1:=hf k hk;have h2:=hw.lt hk;exact⟨by omega,by omega⟩
  ·rw[zh e]at hk;have:=h.own l k (by omega) hk;exact⟨this.1,by omega⟩
theorem NwI.fin{w wr:World}{p now bm bb:Nat}{ws:List Nat}{Ds:Nat→Nat→Prop}(h:NwI w wr p now bm bb 8 ws Ds)(hn:now<18446744073709551616) : ∃ D,yn wr D p now [] ∧ ∀ k,D k→w.heap.size≤k:=by
 obtain⟨g1,g2,g3,g4,g5,g6⟩:=h.ge;refine⟨fun k=>k=p∨k=bm∨k=bb ∨ ∃ l,l<8∧Ds l k,⟨ws,bm,bb,Ds,.map [],.map [],List.replicate 8 (List.replicate 256 []),⟨⟨?_,h.len,hn⟩,h.what,h.births,vu,fun l q Ls hq hL => ?_,h.apart,fun l k hl hk => ?_,⟨g6,by omega,by omega⟩,fun k=>vE⟩,yc.new now,List.Pairwise.nil⟩,fun k hk => ?_⟩
 ·rw[← zi0 h.len];exact h.box
 ·rw[vW]at hL;split at hL
  ·cases hL;exact h.lev l q hq
  ·cases hL
 ·have:=(h.own l k hl hk).1;exact⟨by omega,by omega,by omega⟩
 ·rcases hk with rfl | rfl | rfl | ⟨l,hl,hk⟩
  ·exact g1
  ·exact g2
  ·exact g3
  ·have:=(h.own l k hl hk).1;omega
theorem NwI.cell{w wr w2:World}{p now bm bb i:Nat}{ws:List Nat}{Ds:Nat→Nat→Prop}(h:NwI w wr p now bm bb i ws Ds)(hi:i<8)(hp:zb wr w2):w2.cell? ⟨p,1+i,none⟩=some (.pointer none)∧(∀ j,w2.frozen? ⟨p,j,none⟩=false)∧p<w2.heap.size:=by
 have hb2:=hp.heap (fun h=>h) h.box;refine⟨?_,fun j=>yP w2 p j _ _ hb2,zl hb2⟩;rw[zf w2 p (1+i) _ _ (0,0) hb2,vw];unfold jI;have hl:=h.len;rw[show 1+i=i+1 from Nat.add_comm _ _,YE,ur (by simp;omega),ji (by simp;omega),vW,zk (by simp;omega)]
theorem zhP(w:World){now:Nat}(hn:now<18446744073709551616):Calls prog 225 #[.int .u64 now] w fun e w' => ∃ p D,e=.returned (lkP p)∧yn w' D p now []∧zb w w' ∧ ∀ k,D k→w.heap.size≤k:=by
 have t0:=yL.new w;have a1:zb w (w.alloc (.map #[] 0)):=(Mod.refl _ w).alloc _;have a2:zb (w.alloc (.map #[] 0)) ((w.alloc (.map #[] 0)).alloc (.map #[] 0)):=(Mod.refl _ _).alloc _;have b0:=xS.new (w.alloc (.map #[] 0));have hs:(w.alloc (.map #[] 0)).heap.size=w.heap.size+1:=by simp
 have hs2:((w.alloc (.map #[] 0)).alloc (.map #[] 0)).heap.size=w.heap.size+2:=by simp
 have a3:zb ((w.alloc (.map #[] 0)).alloc (.map #[] 0)) (((w.alloc (.map #[] 0)).alloc (.map #[] 0)).alloc (.cells (jI now [] w.heap.size (w.heap.size+1)).toArray 297)):=(Mod.refl _ _).alloc _;have hI:NwI w (((w.alloc (.map #[] 0)).alloc (.map #[] 0)).alloc (.cells (jI now [] w.heap.size (w.heap.size+1)).toArray 297)) (w.heap.size+1+1) now w.heap.size (w.heap.size+1) 0 [] (fun _ _=>False) :=
  ⟨zi hs2.symm,rfl,(t0.mod a2 (fun h=>h)).mod a3 (fun h=>h),by have:=b0.mod a3 (fun h=>h);rw[hs]at this;exact this,(fun l q h=>by cases h),(fun l l' k h=>by omega),(fun l k h=>by omega),⟨by omega,by omega,by omega,by omega,by omega,by omega⟩,(a1.trans a2).trans a3⟩
 have HI:=za hI;have HN:=za hn;clear t0 a1 a2 b0 hs hs2 a3 hI;have hmm := @run_makeMap prog;unfold jI at HI;simp at HI;go_enter func225,ntmps225;go_upto_region 3 with fail
 generalize((w.alloc (.map #[] 0)).alloc (.map #[] 0)).alloc (.cells #[.int .u64 now,.pointer none,.pointer none,.pointer none,.pointer none,.pointer none,.pointer none,.pointer none,.pointer none,.map (some w.heap.size),.map (some (w.heap.size+1))] 297)=W at *;obtain⟨b,hb⟩:=zc w.heap.size;simp only[hb]at HI ⊢;go_loopw [10] (fun v10 wr => ∃(i:Nat) (ws:List Nat) (Ds:Nat→Nat→Prop),v10=.int .i64 (i:Nat)∧i≤8∧NwI w wr (b+1+1) now b (b+1) i ws Ds) (fun v10 _=>8-(intOf v10).toNat)
 case atStart=>exact⟨0,[],_,rfl,yh _,HI.out⟩
 case round =>
  obtain⟨i,ws,Ds,rfl,hi,hI⟩:=hrel;have HIr:=za hI;by_cases hlt:i<8
  ·have hlt':(i:Int)<8:=by omega
   have i0:(0:Int)≤(i:Int):=by omega
   have wi:IntKind.i64.wrap ((i:Int)+1)=(i:Int)+1:=zt _ (by omega);have dl8:decide (i<8)=true:=zL hlt;have hW:=zjp;have HW:=za hW;have hbx:=hI.box;have hfz:=fun j=>yP wr (b+1+1) j _ _ hbx
   have hcl:=zl hbx;clear hI hW hbx;go_upto_region 5 with fail
   go_region_held3 (fun _=>True) (trivial)
    (first | (go_at_call 278;refine(HW.out _).mono ?_;rintro e w2 ⟨q,D2,rfl,hw2,hp2,hf2⟩;obtain⟨z1,z2,z3⟩:=HIr.out.cell hlt (w2:=w2) (by first | exact hp2 | exact Mod.of_drew hp2)))
   have hst:=HIr.out.step hlt hw2 (by first | exact hp2 | exact Mod.of_drew hp2) (by exact hf2);have HSt:=za hst;clear hw2 hp2 hf2 hst;go_wp2;go_roundw
   case rel=>exact⟨i+1,ws++[q],_,by go_num,hlt,HSt.out⟩
   case measure=>simp[intOf];omega
  ·have e:i=8:=by omega
   subst e;obtain⟨D,hD,hge⟩:=HIr.out.fin HN.out;have hp:=HIr.out.pure;clear hI;go_wp2;go_ret;exact⟨b+1+1,D,rfl,hD,hp,hge⟩
section
variable{P:Program}{k:TypeId}{R:Value→Option (DataW Unit × List MemPlace)}{w w':World}{b r n:Nat}{D:DataW Unit}{left:Lit→Bool}{cnt:Nat}{S:Nat→Prop}
theorem zmw(h:w.ranges P k R b r n D left cnt)(hm:Mod S w w')(hb : ¬ S b)(hr : ¬ S r):w'.ranges P k R b r n D left cnt:=by
 obtain⟨es,clock,since,seen,c0,h1,h2,h3,h4,h5,h6⟩:=h;exact⟨es,clock,since,seen,c0,hm.heap hb h1,h2,h3,h4,hm.heap hr h5,h6⟩
end
theorem zmM{x:Int}{kl:Lit}(h:keyOf prog 114 (.int .u32 x)=some kl) : ∃ s:Nat,x=s∧kl=kS s∧s≤4294967295:=by
 obtain⟨y,e1,e2,e3⟩:=Maps.keyOf_int_inv underlying114 h;injection e1 with _ e1
 subst e1;have:0≤x∧x≤4294967295:=by simp[Lit.wf,IntKind.min,IntKind.max,IntKind.signed,IntKind.bits]at e3;omega
 refine⟨x.toNat,by omega,?_,by omega⟩;rw[e2];unfold kS;rw[show((x.toNat:Nat):Int)=x by omega]
theorem zmx(a b:Nat):(kS a).sameKey (kS b)=decide (a=b):=by
 unfold kS;simp[Lit.sameKey];omega
section
variable{w w':World}{D:Nat→Prop}{p now tt:Nat}{ws:List Nat}{bm bb:Nat}{Ds:Nat→Nat→Prop}{Dm Db:DataW Unit}{M L:List Td}{Lss:List (List (List Nat))}
structure CpI(w wr:World)(L:List Td)(bm rb n:Nat)(Dm:DataW Unit)(left:Lit→Bool)(cnt:Nat)(p2 now:Nat)(D2:Nat→Prop)(M2:List Td):Prop where
 rg:wr.ranges prog 114 kv bm rb n Dm left cnt
 has : ∀ kl,left kl=true→Maps.has Dm kl=true
 mem : ∃ ws bm' bb' Ds Dm' Db' Lss,yq wr D2 p2 now ws bm' bb' Ds Dm' Db' M2 Lss∧yc now M2 (fun _=>False) Lss
 sub : ∀ x∈M2,x∈L
 todo : ∀ x∈L,left (kS x.slot)=true↔x∉M2
 fresh : ∀ k,D2 k→w.heap.size≤k
 rb2 : ¬ D2 rb
 pure:zb w wr
end
theorem zc8 : ∀(L:List Wt) (i:Nat) (x:Wt),i<L.length→((L.flatMap wtC).set (i*2) (.int .u32 x.slot)).set (i*2+1) (.int .i64 x.cost)=(L.set i x).flatMap wtC
 | [],i,x,h=>by simp at h
 | y::L,0,x,_=>by simp[wtC]
 | y::L,i+1,x,h=>by
  have ih:=zc8 L i x (by simpa using h);have e1:(i+1)*2=(i*2+1)+1:=by omega
  rw[qX,ZO,qX,← ih];simp only[wtC,List.cons_append,List.nil_append];rw[e1,ZO,ZO,ZO,ZO]
theorem Q8 : ∀(L:List Wt) (m:Nat),(L.flatMap wtC).take (m*2)=(L.take m).flatMap wtC
 | [],m=>by simp
 | y::L,0=>by simp
 | y::L,m+1=>by
  have ih:=Q8 L m;rw[qX,YF,qX,← ih];simp only[wtC,List.cons_append,List.nil_append];rw[show(m+1)*2=(m*2+1)+1 by omega,YF,YF]
section
variable{w w':World}{bc keep:Nat}{cv:Value}
theorem zc7(w:World):(zeroValue 155).run prog w=.ok (.agg #[.int .u32 0,.int .i64 0]) w:=by
 obtain⟨i0,hi,iz0,iz1,iz2⟩:=xn XM;simp[zeroValue,typeInfo,hi,iz0]
theorem zjB{g n c m:Nat}{L:List Wt}(h:w.ownsRow 0 155 2 (.slice (some ⟨g,0,none⟩) n c) n (L.flatMap wtC))(hm:m<n)(ty:TypeId) :
  ∃ w',(Builtin.clear_ #[152] ty #[.slice (some ⟨g,m*2,none⟩) (n-m) (c-m)]).run prog w=.ok (.tuple #[]) w'∧w'.ownsRow 0 155 2 (.slice (some ⟨g,0,none⟩) m c) m ((L.take m).flatMap wtC)∧Mod (fun k=>k=g) w w':=by
 obtain⟨hl,hv⟩:=h;rcases hv with⟨hv,_⟩ | ⟨g',cap,cur,hv,hb,hg,hnc,hcm,hcs,ht⟩
 ·cases hv
 ·cases hv
  have hz:(Builtin.zeroCells (Value.agg #[.int .u32 0,.int .i64 0]).cells (n-m)).toList.length=(n-m)*2:=by rw[Array.length_toList,size_zeroCells];rfl
  have h1 : ∀ v∈(Builtin.zeroCells (Value.agg #[.int .u32 0,.int .i64 0]).cells (n-m)).toList,v.oneCell'=true:=by
   intro v hv;simp[Builtin.zeroCells]at hv;obtain⟨i,_,hv⟩:=hv;rcases Nat.mod_two_eq_zero_or_one i with e | e<;>(simp[Value.cells,e]at hv;subst hv;rfl)
  have hst:=run_storeCells_at prog g (m*2) 155 (Builtin.zeroCells (Value.agg #[.int .u32 0,.int .i64 0]).cells (n-m)).toList 0 cur w hg (by rw[hz,hcs];omega) h1;obtain⟨q,hq⟩ : ∃ q,n-m=q+1:=⟨n-m-1,by omega⟩;have hh:(w.setRow g (cur.toList.take (m*2+0)++(Builtin.zeroCells (Value.agg #[.int .u32 0,.int .i64 0]).cells (n-m)).toList++cur.toList.drop (m*2+0+(Builtin.zeroCells (Value.agg #[.int .u32 0,.int .i64 0]).cells (n-m)).toList.length)).toArray).heap[g]? = _:=setRow_heap w g cur _ 155 _ hg;refine⟨_,?_,⟨?_,.inr ⟨g,c,_,rfl,hb,hh,by omega,hcm,?_,?_⟩⟩,?_⟩
  ·rw[hq]at hst ⊢;simp only[Builtin.clear_,run_underlying underlying152,zc7,Sem.run_bind,Result.andThen_ok,hst];simp[underlying152,underlying,hst,zc7]
  ·rw[jK,Zn];have:=jK L;omega
  ·simp only[List.size_toArray,List.length_append,List.length_take,List.length_drop,hz];have:cur.toList.length=cur.size:=by simp
   omega
  ·simp only[List.append_assoc,Nat.add_zero];rw[List.take_append_of_le_length (by rw[Zn];have:cur.toList.length=cur.size:=(by simp);omega),List.take_take,Nat.min_self,← Q8,← ht,List.take_take,Nat.min_eq_left (by omega)]
  ·refine⟨?_,?_,?_,?_,fun k _ hk=>setRow_other w g k _ hk⟩<;>simp[World.setRow,hg]
structure Ye(w:World)(g n c:Nat)(zs:List Wt)(keep i j:Nat)(L:List Wt)(wr:World):Prop where
 len:L.length=n
 row:wr.ownsRow 0 155 2 (.slice (some ⟨g,0,none⟩) n c) n (L.flatMap wtC)
 tk:L.take i=(zs.take j).filter (fun x => !kR keep x)
 dr : ∀ q,j≤q→L[q]? = zs[q]?
 lt:i<j
 mod:Mod (fun k=>k=g) w wr
theorem Ye.skip{g n c i j:Nat}{zs L:List Wt}{wr w3:World}(h:Ye w g n c zs keep i j L wr){x:Wt}(hx:zs[j]? = some x)(hs:x.slot=keep)(hp:zb wr w3):Ye w g n c zs keep i (j+1) L w3:=by
 refine⟨h.len,zy h.row hp (fun _ _ h=>h),?_,fun q hq=>h.dr q (by omega),by have:=h.lt;omega,h.mod.trans (Mod.of_pure hp)⟩;rw[ua,hx,Ym,← h.tk];simp[kR,hs]
theorem Ye.kept{g n c i j:Nat}{zs L:List Wt}{wr w3:World}(h:Ye w g n c zs keep i j L wr){x:Wt}(hx:zs[j]? = some x)(hj:j<n)(hs:x.slot≠keep)(hp:zb wr w3):Ye w g n c zs keep (i+1) (j+1) (L.set i x) ((w3.setCell ⟨g,i*2,none⟩ (.int .u32 x.slot)).setCell ⟨g,i*2+1,none⟩ (.int .i64 x.cost)):=by
 have hl:=h.lt;have hle:=h.len;have h1:=uT (uT (zy h.row hp (fun _ _ h=>h)) (i*2) (.int .u32 x.slot) (by omega)) (i*2+1) (.int .i64 x.cost) (by omega);rw[zc8 L i x (by omega)]at h1;refine⟨by rw[xH];exact hle,h1,?_,fun q hq => ?_,by omega,((h.mod.trans (Mod.of_pure hp)).setCell (fun _=>rfl) _).setCell (fun _=>rfl) _⟩
 ·rw[ua (l:=zs),hx,Ym,← h.tk,ua,List.take_set_of_le (zG i),yo (by omega)];simp[kR,hs]
 ·rw[yx (by omega)];exact h.dr q (by omega)
theorem zfK(zs:List Wt)(keep:Nat):(Zc keep zs = -1∧zs.filter (fun x => !kR keep x)=zs) ∨ ∃ k,k<zs.length∧Zc keep zs=(k:Nat)∧zs.take k=(zs.take (k+1)).filter (fun x => !kR keep x):=by
 unfold Zc
 cases h:zs.findIdx? (kR keep)with
 | none =>
  rw[Vm]at h;exact .inl ⟨rfl,jf.2 (fun x hx=>by rw[h x hx];rfl)⟩
 | some k =>
  rw[Je]at h;obtain⟨hk,h1,h2⟩:=h;refine .inr ⟨k,hk,rfl,?_⟩;rw[ua,zN hk,Ym];have e1:(zs.take k).filter (fun x => !kR keep x)=zs.take k:=jf.2 (fun x hx=>by
   obtain⟨i,hi⟩:=ug hx;have hlt:i<k:=by have:=(zF.1 hi).1;rw[Zn]at this;omega
   rw[jT,zk hlt]at hi;have:=h2 i hlt;rw[zN (by omega)]at hi;injection hi with hi
   rw[hi]at this;simpa using this)
  rw[e1];simp[h1]
def zj0(w:World)(a:Option Addr)(n c:Nat)(ys:List Wt)(e:Ending)(w':World):Prop :=
 e=.returned (.slice a ys.length c)∧ZB w' a c ys∧Mod (fun k=>(Value.slice a n c).ownBlock=some k) w w'
theorem zgG{a:Option Addr}{n c:Nat}{zs:List Wt}(h:w.ownsRow 0 155 2 (.slice a n c) n (zs.flatMap wtC))(hn:zs.length=n)(hl:n≤8388608)(hc:ChC w bc cv keep) :
  Calls prog 347 #[.slice a n c,kpF bc] w (zj0 w a n c (zs.filter (fun x => !kR keep x))):=by
 have HI:=za (zew (zn.of_owns h (qF zs)) hn hl hc);have HR:=za h;have HN:=za hn;have HC:=za hc;have hcap:n≤c:=by obtain⟨a',c',e,h'⟩:=uN h;injection e with _ _ e;rw[e];exact h'
 rcases zfK zs keep with⟨e1,e2⟩ | ⟨k0,hk0,e1,e2⟩
 ·rw[e1]at HI;rw[e2];have HE:=za e2;clear h hn hc e1 e2;go_enter func347,ntmps347
  go_wp2_with (go_at_call 379;refine HI.out.mono ?_;rintro e w3 ⟨rfl,hp3⟩)
  go_ret;exact⟨by rw[HN.out];rfl,by have:=zy HR.out hp3 (fun _ _ h=>h);unfold ZB;rw[HN.out];exact this,Mod.of_pure hp3⟩
 ·rw[e1]at HI
  cases a with
  | none =>
   rcases h.2 with⟨_,h0⟩ | ⟨g',cap,cur,hv,_⟩
   ·omega
   ·cases hv
  | some ad =>
  obtain⟨g,rfl⟩ : ∃ g,ad=⟨g,0,none⟩:=by
   rcases h.2 with⟨hv,_⟩ | ⟨g',cap,cur,hv,_⟩
   ·cases hv
   ·cases hv;exact⟨_,rfl⟩
  have hgb:bc≠g:=fun e=>by
   obtain⟨cur,h9⟩:=yg h (g:=g) rfl;subst e;rw[hc]at h9;injection h9 with h9
   injection h9 with _ h9
   exact absurd h9 (by decide)
  have HGB:=za hgb;have hne1:((k0:Int) == -1)=false:=uE.2 (by omega);have wk:IntKind.i64.wrap ((k0:Int)+1)=(k0:Int)+1:=zt _ (by omega);have HE:=za e2;have HK:=za hk0;clear h hn hc e1 e2 hk0 hgb;go_enter func347,ntmps347
  go_wp2_with (go_at_call 379;refine HI.out.mono ?_;rintro e w3 ⟨rfl,hp3⟩)
  go_loopw [5,6] (fun v5 v6 wr => ∃(i j:Nat) (L:List Wt),v5=.int .i64 (i:Nat)∧v6=.int .i64 (j:Nat)∧j≤n∧Ye w g n c zs keep i j L wr) (fun _ v6 _=>n-(intOf v6).toNat)
  case atStart=>exact⟨k0,k0+1,zs,rfl,by first | rfl | simp,by have:=HK.out;have:=HN.out;omega,⟨HN.out,zy HR.out hp3 (fun _ _ h=>h),HE.out,fun _ _=>rfl,by omega,Mod.of_pure hp3⟩⟩
  case round =>
   obtain⟨i,j,L,rfl,rfl,hj,hI⟩:=hrel;have HDI:=za hI;have hij:=hI.lt;clear hI;have j0:(0:Int)≤(j:Int):=by omega
   have i0:(0:Int)≤(i:Int):=by omega
   by_cases hlt:j<n
   ·have hlt':(j:Int)<(n:Int):=by omega
    have hil':(i:Int)<(n:Int):=by omega
    have wj:IntKind.i64.wrap ((j:Int)+1)=(j:Int)+1:=zt _ (by omega);have wi:IntKind.i64.wrap ((i:Int)+1)=(i:Int)+1:=zt _ (by omega);obtain⟨x,hx⟩ : ∃ x,zs[j]? = some x:=⟨_,zN (by rw[HN.out];exact hlt)⟩;have hLx:L[j]? = some x:=(HDI.out.dr j (zG _)).trans hx;have z0:wr.cell? ⟨g,j*2,none⟩=some (.int .u32 x.slot):=(HDI.out.row.cellAt (j*2) (by omega)).trans (YJ hLx).1;have z1:wr.cell? ⟨g,j*2+1,none⟩=some (.int .i64 x.cost):=(HDI.out.row.cellAt (j*2+1) (by omega)).trans (YJ hLx).2;have hal:zb wr (wr.alloc (.cells #[.int .u32 x.slot,.int .i64 x.cost] 155)):=(Mod.refl _ wr).alloc _;have hbx:=zi (w:=wr) (o := .cells #[.int .u32 x.slot,.int .i64 x.cost] 155 (0,0)) rfl;have hcw:=HDI.out.mod.heap HGB.out HC.out;have HX:=za hx;have HAL:=za hal;have hglt:g<wr.heap.size:=vh HDI.out.row rfl;have HGL:=za hglt;clear hx hLx;go_upto_region 8 with fail
    generalize wr.alloc (.cells #[.int .u32 x.slot,.int .i64 x.cost] 155)=W1 at *;have hcw1:=HAL.out.heap (fun h=>h) hcw;have HCl:=za (zdb hcw1 x.slot x.cost);have HBX:=za hbx;obtain⟨b7,hb7⟩:=zc wr.heap.size;rw[hb7]at hbx HBX ⊢;have HB7:=za hb7;clear hb7 z0 z1 hcw hcw1 hal hglt;obtain⟨hbx_0,hbx_1,hbx_f,hbx_l,H_hbx⟩:=cr2 hbx;clear hbx;by_cases hs:x.slot=keep
    ·have hd:decide (x.slot=keep)=true:=zL hs;rw[hd]at HCl;have HS:=za hs;clear hd hs
     go_wp2_with (go_at_call 349;refine HCl.out.mono ?_;rintro e w4 ⟨rfl,hp4⟩)
     go_roundw
     case rel=>exact⟨i,j+1,L,rfl,by first | rfl | simp,hlt,HDI.out.skip HX.out HS.out (HAL.out.trans hp4)⟩
     case measure=>simp[intOf];omega
    ·have hd:decide (x.slot=keep)=false:=zQ hs;rw[hd]at HCl;have HS:=za hs;clear hd hs;go_upto_region 9 with(go_at_call 349;refine HCl.out.mono ?_;rintro e w4 ⟨rfl,hp4⟩)
     have hb4:=hp4.heap (fun h=>h) HBX.out;clear hbx_0 hbx_1 hbx_f hbx_l;clear H_hbx;have HP4:=za (HAL.out.trans hp4);clear hp4;have hr4:=zy HDI.out.row HP4.out (fun _ _ h=>h);have hle:=HDI.out.len;obtain⟨y,hy⟩ : ∃ y,L[i]? = some y:=⟨_,zN (by omega)⟩;have y0:w4.cell? ⟨g,i*2,none⟩=some (.int .u32 y.slot):=(hr4.cellAt (i*2) (by omega)).trans (YJ hy).1;have y1:w4.cell? ⟨g,i*2+1,none⟩=some (.int .i64 y.cost):=(hr4.cellAt (i*2+1) (by omega)).trans (YJ hy).2;have f0:=hr4.frozenAt (i*2);have f1:=hr4.frozenAt (i*2+1);have hglt4:g<w4.heap.size:=vh hr4 rfl;clear hr4 hy hle;obtain⟨hb4_0,hb4_1,hb4_f,hb4_l,H_hb4⟩:=cr2 hb4;clear hb4;go_wp2;go_roundw
     case rel=>exact⟨i+1,j+1,L.set i x,by first | rfl | simp,by first | rfl | simp,hlt,HDI.out.kept HX.out hlt HS.out HP4.out⟩
     case measure=>simp[intOf];omega
   ·have hlt' : ¬ (j:Int)<(n:Int):=by omega
    obtain rfl:j=n:=by omega
    have hin:i<j:=hij;have hil':(i:Int)≤(j:Int):=by omega
    have hic':(i:Int)≤(c:Int):=by omega
    have hic : ¬ c=i:=by omega
    have hjc:(j:Int)≤(c:Int):=by omega
    obtain⟨W5,hcl,hr5,hm5⟩:=zjB HDI.out.row hin 3;have hcl' : ∀ ty,(Builtin.clear_ #[152] ty #[.slice (some ⟨g,i*2,none⟩) (j-i) (c-i)]).run prog wr=.ok (.tuple #[]) W5:=fun ty=>hcl
    have HR5:=za hr5;have HM5:=za hm5;clear hcl hr5 hm5;go_wp2;go_ret;have htk:=HDI.out.tk;rw[show zs.take j=zs from kM (by rw[HN.out];exact zG _)]at htk;have hle:=HDI.out.len;have hl2:(zs.filter (fun x => !kR keep x)).length=i:=by rw[← htk,Zn];omega
    refine⟨by rw[hl2];rfl,?_,(HDI.out.mod.trans HM5.out).mono (fun k _ e=>by subst e;rfl)⟩;unfold ZB;rw[hl2,← htk];exact HR5.out
def kN(keep:Nat)(zs:List Wt):List Wt:=zs.filter (fun x => !kR keep x)
theorem zjd{a:Option Addr}{c:Nat}{zs:List Wt}(h:zn w (.slice a zs.length c) 2 (zs.flatMap wtC))(hl:zs.length≤8388608) :
  Calls prog 303 #[.agg #[.slice a zs.length c,.int .u32 keep]] w (qG w (kN keep zs)):=by
 have hal:zb w (w.alloc (.cells #[.slice a zs.length c,.int .u32 keep] 314)):=(Mod.refl _ w).alloc _;have hbx:ChC _ w.heap.size (.slice a zs.length c) keep:=zi (w:=w) (o := .cells #[.slice a zs.length c,.int .u32 keep] 314 (0,0)) rfl;have HCl:=za (zkN a zs.length c _ (h.frame hal (fun _ _ h=>h)) (by omega));have HAL:=za hal;have HBX:=za hbx;have HL:=za hl;clear h hl;obtain⟨n,hn⟩:=zc zs.length;have HN:=za hn;rw[hn]at hbx hal HBX HAL HCl HL ⊢;clear hn;go_enter func303,ntmps303;go_upto_region 1 with fail
 generalize w.alloc (.cells #[.slice a n c,.int .u32 keep] 314)=W1 at *;obtain⟨b1,hb1⟩:=zc w.heap.size;rw[hb1]at hbx HBX ⊢;have HB1:=za hb1;clear hb1 hal;obtain⟨hbx_0,hbx_1,hbx_f,hbx_l,H_hbx⟩:=cr2 hbx;clear hbx
 go_wp2_with (first | (go_at_call 348;refine HCl.out.mono ?_;rintro e w3 ⟨a3,n3,c3,rfl,ho3,hf3,hp3⟩;obtain rfl:n3=n:=(by have h1:=ho3.1;rw[jK]at h1;have:=HN.out;omega);have HDe:=za (zgG ho3 HN.out HL.out (hp3.heap (fun h=>h) HBX.out));have HF3:=za hf3;have HP3:=za (HAL.out.trans hp3);clear ho3 hf3 hp3) | (go_at_call 347;refine HDe.out.mono ?_;rintro e w5 ⟨rfl,hr5,hm5⟩))
 go_ret;exact⟨a3,c3,rfl,hr5,fun g hg=>by
  have h1:=HF3.out g (by cases a3<;>exact hg);have:=HAL.out.size;have:=HB1.out;omega,HP3.out.then hm5 (fun k hk e=>by
  have h1:=HF3.out k (by cases a3<;>exact e);have:=HAL.out.size;omega)⟩
end
end
section
open Go.RowKit Go.Maps Go.Shelf
structure jL(w:World)(b:Nat)(M:List Nat)(D:DataW Unit):Prop where
 own:w.ownsMap prog 114 unitElem b M.length D
 has : ∀ s,Maps.has D (kS s)=true↔s∈M
 size:Maps.size D=M.length
section
variable{w w':World}{b:Nat}{M:List Nat}{D:DataW Unit}{S:Nat→Prop}
theorem jL.mod(h:jL w b M D)(hm:Mod S w w')(hb : ¬ S b):jL w' b M D:=⟨XH h.own hm hb,h.has,h.size⟩
theorem jL.new(w:World):jL (w.alloc (.map #[] 0)) w.heap.size [] (.map []):=⟨XV _ _ _ _,(fun s=>⟨(fun h=>by cases h),(fun h=>by cases h)⟩),rfl⟩
theorem jL.put{x:Nat}(h:jL w b M D)(hn:x∉M)(ho:w'.ownsMap prog 114 unitElem b (M.length+1) (D.put (kS x) (.agg []))):jL w' b (M++[x]) (D.put (kS x) (.agg [])):=by
 have hm:=h.own.isMap;have h0:Maps.has D (kS x)=false:=by
  cases hh:Maps.has D (kS x)with
  | false=>rfl
  | true=>exact absurd ((h.has _).1 hh) hn
 refine⟨by rw[zR];exact ho,fun s => ?_,?_⟩
 ·by_cases e:s=x
  ·subst e;exact⟨fun _=>by simp,fun _=>has_put_same hm (Va _) _⟩
  ·rw[has_put_other (fun c=>e (kT c)),h.has];simp[e]
 ·rw[Zz (h.own.tidy vk),h0,h.size];simp
end
section
variable{w:World}
def zek(w:World)(keep:Nat)(zs:List Wt)(e:Ending)(w':World):Prop :=
 ∃ a c,e=.returned (.tuple #[.agg #[.slice a zs.length c,.int .u32 keep],.int .i64 0])∧ZB w' a c zs∧xA w (.slice a zs.length c)∧zb w w'
structure UT(w:World)(zs:List Wt)(br bc bs n k:Nat)(a:Option Addr)(c keep:Nat)(wr:World):Prop where
 res:wr.heap[br]? = some (.cells #[.slice none 0 0,.int .u32 0] 314 (0,0))
 box:ChC wr bc (.slice a n c) keep
 row:wr.ownsRow 0 155 2 (.slice a n c) n (zs.flatMap wtC)
 map : ∃ D,jL wr bs (zA (zs.take k)) D
 mod:Mod (fun i=>w.heap.size≤i) w wr
theorem zmq{a1 a2:Option Addr}{c1 c2 keep:Nat}{xs ys:List Wt}(h1:zn w (.slice a1 xs.length c1) 2 (xs.flatMap wtC))(h2:zn w (.slice a2 ys.length c2) 2 (ys.flatMap wtC))
  (hl:(xs++ys).length≤2097152) (hr : ∀ x∈xs++ys,x.slot<4194304∧0≤x.cost∧x.cost≤1099511627776) (hnd:(zA (xs++ys)).Nodup) :
  Calls prog 248 #[.slice a1 xs.length c1,.slice a2 ys.length c2,.int .u32 keep] w (zek w keep (xs++ys)):=by
 have hb0:=zi (w:=w) (o := .cells #[.slice none 0 0,.int .u32 0] 314 (0,0)) rfl;have hal0:zb w (w.alloc (.cells #[.slice none 0 0,.int .u32 0] 314)):=(Mod.refl _ w).alloc _;have hs0:(w.alloc (.cells #[.slice none 0 0,.int .u32 0] 314)).heap.size=w.heap.size+1:=by simp
 have hb1:=zi (w:=w.alloc (.cells #[.slice none 0 0,.int .u32 0] 314)) (o := .cells #[.slice a1 xs.length c1,.slice a2 ys.length c2] 152 (0,0)) hs0.symm;have hal1:zb w ((w.alloc (.cells #[.slice none 0 0,.int .u32 0] 314)).alloc (.cells #[.slice a1 xs.length c1,.slice a2 ys.length c2] 152)):=hal0.alloc _;have HCc:=za (zhB hb1 (h1.frame hal1 (fun _ _ h=>h)) (h2.frame hal1 (fun _ _ h=>h)) (by rw[zR]at hl;omega) (by rw[zR]at hl;omega));have HB0:=za (zz (o := .cells #[.slice a1 xs.length c1,.slice a2 ys.length c2] 152) hb0);have HAL:=za hal1;have HL:=za hl;have HRG:=za hr;have HND:=za hnd;clear h1 h2 hl hr hnd hb0 hb1 hal0 hal1 hs0;obtain⟨zs,hzs⟩:=zc (xs++ys);rw[hzs]at HCc HL HRG HND ⊢;clear hzs;obtain⟨n1,hn1⟩:=zc xs.length;obtain⟨n2,hn2⟩:=zc ys.length;rw[hn1,hn2]at HCc HB0 HAL ⊢;clear hn1 hn2;have hmm := @run_makeMap prog;go_enter func248,ntmps248;go_upto_region 3 with(go_at_call 302;refine HCc.out.mono ?_;rintro e w3 ⟨a3,c3,rfl,hr3,hf3,hp3⟩)
 obtain⟨br,hbr⟩:=zc w.heap.size;have HBR:=za hbr;have hf3 : ∀ g,(Value.slice a3 zs.length c3).ownBlock=some g→br+2≤g:=fun g hg=>by have:=hf3 g hg;simp at this;omega
 have hsz5:br+2≤w3.heap.size:=by have:=hp3.size;simp at this;omega
 rw[hbr]at HB0 ⊢;clear hbr;have hb3:=zi (w:=w3) (o := .cells #[.slice a3 zs.length c3,.int .u32 keep] 314 (0,0)) rfl;have hs3:(w3.alloc (.cells #[.slice a3 zs.length c3,.int .u32 keep] 314)).heap.size=w3.heap.size+1:=by simp
 have ha3:zb w3 ((w3.alloc (.cells #[.slice a3 zs.length c3,.int .u32 keep] 314)).alloc (.map #[] 0)):=((Mod.refl _ w3).alloc _).alloc _;have hu3:=jL.new (w3.alloc (.cells #[.slice a3 zs.length c3,.int .u32 keep] 314));have hsz3:=HAL.out.size;have hsz4:=hp3.size;have HI0:Hid (UT w zs br w3.heap.size (w3.heap.size+1) zs.length 0 a3 c3 keep ((w3.alloc (.cells #[.slice a3 zs.length c3,.int .u32 keep] 314)).alloc (.map #[] 0))):=za
  ⟨ha3.heap (fun h=>h) (hp3.heap (fun h=>h) HB0.out),zz hb3,zy hr3 ha3 (fun _ _ h=>h),⟨_,hs3 ▸ hu3⟩,Mod.of_pure ((HAL.out.trans hp3).trans ha3)⟩
 have HF3:Hid (xA w (.slice a3 zs.length c3)):=za (fun g hg=>by have:=hf3 g hg;have:=HBR.out;omega);have hne:a3=none ∨ ∃ g,a3=some ⟨g,0,none⟩∧br+2≤g∧g<w3.heap.size:=by
  rcases hr3.2 with⟨hv,_⟩ | ⟨g',cap,cur,hv,_,hg,_⟩
  ·injection hv with h1;exact .inl h1
  ·injection hv with h1;refine .inr ⟨g',h1,?_,(uY.1 hg).1⟩
   exact hf3 g' (by rw[h1];rfl)
 have HNE:=za hne;generalize hX:(w3.alloc (.cells #[.slice a3 zs.length c3,.int .u32 keep] 314)).alloc (.map #[] 0)=W0 at *;obtain⟨bc,hbc⟩:=zc w3.heap.size;rw[hbc]at HI0 HNE hsz5 ⊢;obtain⟨n,hn⟩:=zc zs.length;rw[hn]at HI0 HF3 HL ⊢;have HN:=za hn;clear hn hbc hne hb3 hs3 ha3 hu3 hsz3 hsz4 hr3 hf3 hp3 hX hmm;have hbx:=HI0.out.box;obtain⟨hbx_0,hbx_1,hbx_f,hbx_l,H_hbx⟩:=cr2 hbx;clear hbx;go_upto_region 4 with fail
 clear hbx_0 hbx_1 hbx_f hbx_l;clear H_hbx;go_loopw [11,22] (fun v11 v22 wr => ∃ k:Nat,v22=.int .i64 (k:Nat)∧k≤n∧UT w zs br bc (bc+1) n k a3 c3 keep wr) (fun _ v22 _=>n-(intOf v22).toNat)
 case atStart=>exact⟨0,rfl,yh _,HI0.out⟩
 case round =>
  obtain⟨k,rfl,hk,hI⟩:=hrel;have HI:=za hI;clear hI;by_cases hlt:k<n
  ·have hlt':(k:Int)<(n:Int):=by omega
   have k0:(0:Int)≤(k:Int):=by omega
   have wk:IntKind.i64.wrap ((k:Int)+1)=(k:Int)+1:=zt _ (by have:=HL.out;omega);obtain⟨x,hx⟩ : ∃ x,zs[k]? = some x:=⟨_,zN (by rw[HN.out];exact hlt)⟩;obtain⟨ad,had,z0,z1⟩:=Uh (zn.of_owns HI.out.row (qF zs)) hx;subst had;obtain⟨r0,r1,r2⟩:=HRG.out x (yd hx);have HX:=za hx;obtain⟨s,hs⟩:=zc x.slot;obtain⟨cs,hcs⟩:=zc x.cost;rw[hs]at z0 r0;rw[hcs]at z1 r1 r2;have HS:=za hs;have HCS:=za hcs;have R0:=za r0;have R1:=za r1;have R2:=za r2;clear r0 r1 r2;have hbx:=zi (w:=wr) (o := .cells #[.int .u32 s,.int .i64 cs] 155 (0,0)) rfl;have hal:zb wr (wr.alloc (.cells #[.int .u32 s,.int .i64 cs] 155)):=(Mod.refl _ wr).alloc _;obtain⟨Dm,hU⟩:=HI.out.map;have HU:=za (hU.mod hal (fun h=>h));have HAL1:=za hal;clear hx hs hcs hU;go_upto_region 6 with fail
   generalize wr.alloc (.cells #[.int .u32 s,.int .i64 cs] 155)=W1 at *;obtain⟨b1,hb1⟩:=zc wr.heap.size;rw[hb1]at hbx ⊢;have HB1:=za hb1;clear hb1 hal z0 z1;obtain⟨hbx_0,hbx_1,hbx_f,hbx_l,H_hbx⟩:=cr2 hbx;clear hbx;have q0 : ¬ (4194304:Int)≤(s:Int):=by have:=R0.out;omega
   have q1 : ¬ cs<0:=by have:=R1.out;omega
   have q2 : ¬ (1099511627776:Int)<cs:=by have:=R2.out;omega
   go_upto_region 8 with fail
   have hnn:s∉zA (zs.take k):=by
    have h1:=HND.out;have h2:zs=zs.take k++(x::zs.drop (k+1)):=by
     obtain⟨g1,g2⟩:=zF.1 HX.out;exact(Yy k zs).symm.trans (by rw[kU g1,g2])
    rw[h2]at h1;unfold zA at h1 ⊢;rw[xK,xD]at h1;exact fun hm=>h1.2.2 s hm s (by rw[← HS.out];simp) rfl
   have htk:zA (zs.take (k+1))=zA (zs.take k)++[s]:=by
    unfold zA;rw[ua,HX.out,xK];simp[HS.out]
   have hul:(zA (zs.take k)).length<maxLen:=by unfold zA;rw[yt,Zn];have:=HN.out;have:=HL.out;unfold maxLen;omega
   have HNN:=za hnn;have HTK:=za htk;have HUL:=za hul;clear hnn htk hul q0 q1 q2
   go_wp2_with (at_mapUpdate;refine Xc _ rfl _ _ _ 370 rfl 114 358 vk underlying370 unitElem (bc+1) (zA (zs.take k)).length Dm rfl HU.out.own HUL.out (.int .u32 s) (.agg #[]) (kS s) rfl rfl (uv (by have:=R0.out;omega)) (.agg []) [] unitElem_mk ?_;intro w4 ho4 hg4;go_frame)
   have hm4:Mod (fun k=>k=bc+1) W1 w4:=Mod.of_grown hg4 (fun k e _=>by cases e;rfl);have HI4:Hid (UT w zs br bc (bc+1) n (k+1) (some ad) c3 keep w4):=za
    ⟨hm4.heap (by omega) (HAL1.out.heap (fun h=>h) HI.out.res),hm4.heap (by omega) (HAL1.out.heap (fun h=>h) HI.out.box),zy (zy HI.out.row HAL1.out (fun _ _ h=>h)) hm4 (fun g hg e=>by
     rcases HNE.out with h | ⟨g',h,h2,h3⟩
     ·cases h
     ·rw[h]at hg;cases hg;have e2:g'=bc+1:=e;omega),⟨_,by rw[HTK.out];exact HU.out.put HNN.out ho4⟩,(HI.out.mod.trans (Mod.of_pure HAL1.out)).then hm4 (fun i _ e=>by subst e;have:=HBR.out;omega)⟩
   clear hbx_0 hbx_1 hbx_f hbx_l;clear H_hbx ho4 hg4 hm4;go_wp2;go_roundw
   case rel=>exact⟨k+1,by first | rfl | simp,hlt,HI4.out⟩
   case measure=>simp[intOf];omega
  ·have hlt' : ¬ (k:Int)<(n:Int):=by omega
   obtain rfl:k=n:=by omega
   have hbb:=HI.out.box;have hrr:=HI.out.res;obtain⟨Dm,hU⟩:=HI.out.map;have hlen:=fun ty=>hU.own.len underlying370 ty
   rw[hU.size]at hlen;have hsl:(zA (zs.take k)).length=k:=by unfold zA;rw[yt,Zn];have:=HN.out;omega
   rw[hsl]at hlen;have q0 : ¬ (2097152:Int)<(k:Int):=by have:=HL.out;omega
   have HBB:=za hbb;have HRR:=za hrr;clear hU hsl;obtain⟨hbb_0,hbb_1,hbb_f,hbb_l,H_hbb⟩:=cr2 hbb;clear hbb;obtain⟨hrr_0,hrr_1,hrr_f,hrr_l,H_hrr⟩:=cr2 hrr;clear hrr;go_wp2;have h8:=zP wr br 0 _ _ (.slice a3 k c3) HRR.out;have h9:=zP _ br 1 _ _ (.int .u32 keep) h8;have hm9:Mod (fun i=>i=br) wr ((wr.setCell ⟨br,0,none⟩ (.slice a3 k c3)).setCell ⟨br,1,none⟩ (.int .u32 keep)):=((Mod.refl (fun i=>i=br) wr).setCell (p:=⟨br,0,none⟩) (fun _=>rfl) _).setCell (p:=⟨br,1,none⟩) (fun _=>rfl) _;generalize(wr.setCell ⟨br,0,none⟩ (.slice a3 k c3)).setCell ⟨br,1,none⟩ (.int .u32 keep)=W9 at *;simp only[List.setIfInBounds_toArray,List.set_cons_succ,List.set_cons_zero,Array.setIfInBounds]at h9;clear hbb_0 hbb_1 hbb_f hbb_l;clear hrr_0 hrr_1 hrr_f hrr_l;clear H_hbb H_hrr h8;have c0:W9.cell? ⟨br,0,none⟩=some (.slice a3 k c3):=zf W9 br 0 _ _ (0,0) (by simpa using h9);have c1:W9.cell? ⟨br,1,none⟩=some (.int .u32 keep):=zf W9 br 1 _ _ (0,0) (by simpa using h9);refine zK (v := .tuple #[.agg #[.slice a3 k c3,.int .u32 keep],.int .i64 0]) (by simp[results,results248,go_sem,c0,c1]) rfl ?_;refine⟨a3,c3,by rw[HN.out],?_,by rw[HN.out];exact HF3.out,(HI.out.mod.mono (fun i hi h=>absurd h (by omega))).then hm9 (fun i hi e=>by subst e;have:=HBR.out;omega)⟩;have hr9:=zy HI.out.row hm9 (fun g hg e=>by
    rcases HNE.out with h | ⟨g',h,h2,h3⟩
    ·rw[h]at hg;cases hg
    ·rw[h]at hg;cases hg;have e2:g'=br:=e;omega)
   unfold ZB;rw[HN.out];exact hr9
end
end
end Go.Proofs.YtpplkcnknabofaaGreatDoor
