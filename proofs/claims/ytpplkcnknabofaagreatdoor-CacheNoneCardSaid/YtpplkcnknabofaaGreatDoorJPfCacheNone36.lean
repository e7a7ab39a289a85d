/- Lemmas and contracts of functions. No condition. -/
import Derived.LoopN
import Derived.Test.YtpplkcnknabofaaGreatDoorJPfCacheNone31
namespace Go.Proofs.YtpplkcnknabofaaGreatDoor
open _root_.Go.Proofs.Tryz
set_option maxRecDepth 100000
set_option maxHeartbeats 20000000
set_option linter.all false
section
open Go.RowKit Go.Maps Go.Shelf
attribute [local go_sem] Oper.semAt_some
section
variable{w w':World}{D S:Nat→Prop}{o l0 l1 bm:Nat}{lim:Int}{D0 D1:Nat→Prop}{Dm:DataW Unit}{A B:List Wt}
theorem zf3{m:Int}(h1 : -1≤m)(h2:m≤1099511627776)(w:World):Calls prog 135 #[.int .i64 m] w fun e w' => ∃ o l0 l1 bm D D0 D1 Dm,e=.returned (.tuple #[lkP o,.int .i64 0])∧yK w' D o l0 l1 bm m D0 D1 Dm [] []∧zb w w' ∧ ∀ k,D k→w.heap.size≤k:=by
  have d1 : ¬ m < -1:=by omega
  have d2 : ¬ (1099511627776:Int)<m:=by omega
  have HN:=za (fun W=>zjH W);have hmm := @run_makeMap prog;have T1:True:=trivial;go_enter func135,ntmps135
  go_wp2_with (first
    | (go_at_call 222;clear T1;refine(HN.out _).mono ?_;rintro e w1 ⟨l0,D0,rfl,q0,hp1,hf1⟩)
    | (go_at_call 222;refine(HN.out _).mono ?_;rintro e w2 ⟨l1,D1,rfl,q1,hp2,hf2⟩))
  have a1:zb w2 (w2.alloc (.map #[] 0)):=(Mod.refl _ w2).alloc _;have hs1:(w2.alloc (.map #[] 0)).heap.size=w2.heap.size+1:=by simp
  have t1:=xF.new w2;have a3:zb (w2.alloc (.map #[] 0)) ((w2.alloc (.map #[] 0)).alloc (.cells #[lkP l0,lkP l1,.int .i64 0,.int .i64 0,.map (some w2.heap.size),.int .i64 m] 222)):=(Mod.refl _ _).alloc _;have s1:=hp1.size;have s2:=hp2.size;have lt0:=fun k (hk:D0 k)=>q0.lt hk
  have lt1:=fun k (hk:D1 k)=>q1.lt hk
  have hfin:yK ((w2.alloc (.map #[] 0)).alloc (.cells #[lkP l0,lkP l1,.int .i64 0,.int .i64 0,.map (some w2.heap.size),.int .i64 m] 222)) (fun k=>k=w2.heap.size+1∨k=w2.heap.size∨D0 k∨D1 k) (w2.heap.size+1) l0 l1 w2.heap.size m D0 D1 (.map []) [] [] :=
    ⟨zi hs1.symm,((q0.pure hp2).pure a1).pure a3,(q1.pure a1).pure a3,t1.mod a3 (fun h=>h),⟨by omega,fun e=>by have:=lt0 _ e;omega,fun e=>by have:=lt1 _ e;omega,fun e=>by have:=lt0 _ e;omega,fun e=>by have:=lt1 _ e;omega,fun k hk hk2=>by have:=lt0 _ hk;have:=hf2 k hk2;omega⟩,⟨jv,fun x hx=>by cases hx⟩,fun k=>vE⟩
  have hpp:=((hp1.trans hp2).trans a1).trans a3;go_ret2;refine⟨w2.heap.size+1,l0,l1,w2.heap.size,_,D0,D1,_,rfl,hfin,hpp,fun k hk => ?_⟩;rcases hk with rfl | rfl | e | e
  · omega
  · omega
  · exact hf1 k e
  · have:=hf2 k e;omega
theorem xq.isCells{p:Nat}{xs:List Nat}(h:xq w D p xs){k:Nat}(hk:D k) : ∃ ob,w.heap[k]? = some ob∧ob.isCells=true:=by
 obtain⟨q,N,Dl,h1,h2,h3⟩:=h;rcases(h3 k).1 hk with rfl | e
 ·exact⟨_,h1,rfl⟩
 ·obtain⟨gF,gL,cF,cL,F,g1,g2⟩:=h2;rcases(g2 k).1 e with rfl | rfl | rfl
  ·exact⟨_,g1.box,rfl⟩
  ·exact⟨_,g1.fld,rfl⟩
  ·exact⟨_,g1.len,rfl⟩
theorem yK.quiet(h:yK w D o l0 l1 bm lim D0 D1 Dm A B){N:Nat}(hN:bm<N)(hq:zx N w w'):yK w' D o l0 l1 bm lim D0 D1 Dm A B:=by
 refine h.frame hq (fun k hk hs => ?_);obtain⟨h1,ob,h2,h3⟩:=hs;rcases(h.dd k).1 hk with rfl | rfl | e | e
 ·rw[h.box]at h2;cases h2;cases h3
 ·omega
 ·obtain⟨o2,e1,e2⟩:=h.q0.isCells e;rw[e1]at h2;cases h2;rw[e2]at h3;cases h3
 ·obtain⟨o2,e1,e2⟩:=h.q1.isCells e;rw[e1]at h2;cases h2;rw[e2]at h3;cases h3
structure RnS(Wb:World)(lim:Int)(b6 b8 o2 m0 m1 bm2 g:Nat)(It:Nat→Prop)(mk:List Nat)(A2 B2:List Wt)(W:World):Prop where
 dm : ∀ l∈mk,W.heap[l]? = some (.deferred (some []))
 pu:zb Wb W
 z6:W.heap[b6]? = some (.cells #[lkP o2] 78 (0,0))
 z8:W.heap[b8]? = some (.cells #[.int .i64 g] 3 (0,0))
 out : ∃ E E0 E1 Em,yK W E o2 m0 m1 bm2 lim E0 E1 Em A2 B2 ∧ ∀ k,E k→Wb.heap.size≤k∧k≠b6∧k≠b8 ∧ ¬ It k
theorem RnS.quiet{Wb:World}{lim:Int}{b6 b8 o2 m0 m1 bm2 g:Nat}{It:Nat→Prop}{mk:List Nat}{A2 B2:List Wt}{X Y:World}(h:RnS Wb lim b6 b8 o2 m0 m1 bm2 g It mk A2 B2 X){N:Nat}(hN:Wb.heap.size≤N)(hbm:bm2<N)(hmk : ∀ l∈mk,l<N)(hq:zx N X Y):RnS Wb lim b6 b8 o2 m0 m1 bm2 g It mk A2 B2 Y:=by
 obtain⟨E,E0,E1,Em,h1,h2⟩:=h.out;exact⟨fun l hl=>Mod.heap hq (fun hh=>by have h1:=hmk l hl;have h2:=hh.1;omega) (h.dm l hl),hq.mod h.pu hN,hq.cells h.z6,hq.cells h.z8,E,E0,E1,Em,h1.quiet hbm hq,h2⟩
end
end
section
open Go.RowKit Go.Shelf
def yl(M:List Td):List Td:=M.filter (fun x=>decide (x.dl≠18446744073709551615))
structure yN(now:Nat)(M:List Td):Prop where
 ord:M.Pairwise bef
 slots : ∀ x∈M,∀ y∈M,x.slot=y.slot→x=y
 births : ∀ x∈M,∀ y∈M,x.birth=y.birth→x=y
 rng : ∀ x∈M,x.slot<4194304∧(now<x.dl∨x.dl=18446744073709551615)∧x.dl≤18446744073709551615∧0<x.birth∧x.birth≤18446744073709551615
structure yM(w:World)(D:Nat→Prop)(p now q bb bs:Nat)(Dc:Nat→Prop)(Db Ds:DataW Unit)(M L:List Td):Prop where
 box:w.heap[p]? = some (.cells #[lkP q,.map (some bb),.map (some bs)] 215 (0,0))
 cas:yn w Dc q now L
 births:xU w bb M Db
 slots:yL w bs M Ds
 np : ¬ Dc p
 nbb : ¬ Dc bb
 nbs : ¬ Dc bs
 ne:p≠bb∧p≠bs∧bb≠bs
 dd : ∀ k,D k↔k=p∨k=bb∨k=bs∨Dc k
section
variable{w w':World}{D:Nat→Prop}{p now q bb bs:Nat}{Dc:Nat→Prop}{Db Ds:DataW Unit}{M L:List Td}
theorem yM.frame{S:Nat→Prop}(h:yM w D p now q bb bs Dc Db Ds M L)(hm:Mod S w w')(hd : ∀ k,D k → ¬ S k):yM w' D p now q bb bs Dc Db Ds M L :=
 ⟨hm.heap (hd p ((h.dd p).2 (.inl rfl))) h.box,h.cas.frame hm (fun k hk=>hd k ((h.dd k).2 (.inr (.inr (.inr hk))))),h.births.mod hm (hd bb ((h.dd bb).2 (.inr (.inl rfl)))),h.slots.mod hm (hd bs ((h.dd bs).2 (.inr (.inr (.inl rfl))))),h.np,h.nbb,h.nbs,h.ne,h.dd⟩
theorem yM.pure(h:yM w D p now q bb bs Dc Db Ds M L)(hp:zb w w'):yM w' D p now q bb bs Dc Db Ds M L:=h.frame hp (fun _ _ h=>h)
theorem yM.cells(h:yM w D p now q bb bs Dc Db Ds M L):w.cell? ⟨p,0,none⟩=some (lkP q)∧w.cell? ⟨p,1,none⟩=some (.map (some bb))∧w.cell? ⟨p,2,none⟩=some (.map (some bs)) :=
 ⟨by rw[zf _ _ 0 _ _ _ h.box];rfl,by rw[zf _ _ 1 _ _ _ h.box];rfl,by rw[zf _ _ 2 _ _ _ h.box];rfl⟩
theorem yM.lt(h:yM w D p now q bb bs Dc Db Ds M L){k:Nat}(hk:D k):k<w.heap.size:=by
 rcases(h.dd k).1 hk with rfl | rfl | rfl | e
 ·exact zl h.box
 ·exact h.births.own.lt
 ·exact h.slots.own.lt
 ·exact h.cas.lt e
theorem Azfl1 {P:Prop}(h:P:=by
 clear h h32 hs c1 c2;unfold lkP;go_enter func152,ntmps152;go_wp2;go_ret;exact⟨rfl,rfl⟩):P:=h
theorem XE(h:yM w D p now q bb bs Dc Db Ds M L){s:Nat}(h32:s≤4294967295):Calls prog 152 #[lkP p,.int .u32 s] w fun e w'=>e=.returned (.int .i64 (if s<4194304 then 0 else 2))∧w=w':=by
 obtain⟨c0,c1,c2⟩:=h.cells;unfold lkP at c0;by_cases hs:s<4194304
 ·rw[zk hs];have hs' : ¬ (4194304:Int)≤(s:Int):=by omega
  exact Azfl1
 ·rw[zh hs];have hs':(4194304:Int)≤(s:Int):=by omega
  exact Azfl1
theorem Qi(h:yM w D p now q bb bs Dc Db Ds M L):Calls prog 152 #[lkP p,.int .u32 0] w fun e w'=>e=.returned (.int .i64 0)∧w=w':=XE h (s:=0) (by omega)
theorem Kl(h:yM w D p now q bb bs Dc Db Ds M L):Calls prog 69 #[lkP p] w fun e w'=>e=.returned (.int .u64 now)∧w=w':=by
  obtain⟨c0,c1,c2⟩:=h.cells;have HC:=za (Qi h);have HN:=za h.cas.now_;clear h c1 c2;unfold lkP at c0;have c0':w.cell? ⟨p,0,none⟩=some (lkP q):=c0;clear c0;go_enter func69,ntmps69
  go_wp2_with (first
    | (go_at_call 152;refine HC.out.mono ?_;rintro e w' ⟨rfl,rfl⟩)
    | (go_at_call 153;refine HN.out.mono ?_;rintro e w' ⟨rfl,rfl⟩))
  go_ret;exact⟨rfl,rfl⟩
end
end
section
open Go.RowKit
def qv(L:List Td):Nat:=match L with
 | []=>18446744073709551615
 | x::_=>x.dl
theorem zl6{w:World}{A:Array Value}{i q:Nat}(hi:i<8)(h:A[i]? = some (lkP q)):(Instr.index 294 (.agg A) (.int .i64 i)).run prog w=.ok (lkP q) w:=by
 have h0:(0:Int)≤(i:Int):=by omega
 have h8:(i:Int)<8:=by omega
 have e1:=underlying294;have e2:=isAgg293 w;have e3:=sizeOf293 w;simp[Instr.index,run_underlying e1,asIntOf,part,h0,h8,e2,e3,h,go_sem];intro c;omega
theorem zhW(a b c:Value)(w:World):(Instr.field 226 (.agg #[a,b,c]) 1).run prog w=.ok b w:=by kernel_rfl
section
variable{w w':World}{D:Nat→Prop}{p now tt:Nat}{ws:List Nat}{bm bb:Nat}{Ds:Nat→Nat→Prop}{Dm Db:DataW Unit}{M L:List Td}{Lss:List (List (List Nat))}{P:Nat→Prop}
theorem zeZ{a b:Nat}(hn:now<18446744073709551616)(ha:a<18446744073709551616)(hb:b<18446744073709551616)(h2:now<b)(h:lvl now a<lvl now b):a<b:=by
 obtain⟨a1,a2,a3⟩:=uR hn ha;have hd:=zcR hn hb h2;have:=Vi a2 (show lvl now a+1≤lvl now b by omega);exact Qk (m:=256 ^ lvl now b) (by rw[this];exact hd)
theorem zdP{a b:Nat}(hn:now<18446744073709551616)(ha:a<18446744073709551616)(hb:b<18446744073709551616)(e:lvl now a=lvl now b)(h:bkt now a<bkt now b):a<b:=by
 obtain⟨a1,a2,a3⟩:=uR hn ha;obtain⟨b1,b2,b3⟩:=uR hn hb;unfold bkt at h;rw[← e]at h b2;have e2:a/256 ^ (lvl now a+1)=b/256 ^ (lvl now a+1):=a2.trans b2.symm;rw[jY,← Yg,← Yg]at e2;exact Qk (m:=256 ^ lvl now a) (by omega)
theorem zj9(h:yc now L (fun _=>False) Lss)(hn:now<18446744073709551616)(hs:L.Pairwise bef){l b s:Nat}(h1:xc Lss l b s)(h2 : ∀ b' s',b'<b → ¬ xc Lss l b' s')(h3 : ∀ l' b' s',l'<l → ¬ xc Lss l' b' s') :
  ∃ z L',L=z::L'∧xc Lss l b z.slot ∧ ∀ y∈L,z.dl≤y.dl:=by
 obtain⟨_,x,hx,e1,e2,e3⟩:=(h.at_ _ _ _).1 h1
 cases L with
 | nil=>cases hx
 | cons z L' =>
  have hz : ∀ y∈z::L',z.dl≤y.dl:=fun y hy=>by
   rcases yu.1 hy with rfl | hy
   ·exact zG _
   ·have:=(ko.1 hs).1 y hy;unfold bef at this;omega
  have hzm:z∈z::L':=ym;have hzi:xc Lss (lvl now z.dl) (bkt now z.dl) z.slot:=(h.at_ _ _ _).2 ⟨(fun c=>c),z,hzm,rfl,rfl,rfl⟩;have hzx:=hz x hx;obtain⟨r1,r2,r3⟩:=h.rng x hx;obtain⟨t1,t2,t3⟩:=h.rng z hzm;have hza:=h.after z hzm (fun c=>c);have hl : ¬ lvl now z.dl<l:=fun c=>h3 _ _ _ c hzi
  have hl2 : ¬ l<lvl now z.dl:=fun c=>by
   rw[← e2]at c;have:=zeZ hn (a:=x.dl) (b:=z.dl) (by omega) (by omega) hza c;omega
  have el:lvl now z.dl=l:=by omega
  rw[el]at hzi;have hb : ¬ bkt now z.dl<b:=fun c=>h2 _ _ c hzi
  have hb2 : ¬ b<bkt now z.dl:=fun c=>by
   rw[← e3]at c;have:=zdP hn (a:=x.dl) (b:=z.dl) (by omega) (by omega) (by omega) c;omega
  have eb:bkt now z.dl=b:=by omega
  rw[eb]at hzi;exact⟨z,L',rfl,hzi,hz⟩
theorem eight{ws:List Nat}(h:ws.length=8) : ∃ a b c d e f g i,ws=[a,b,c,d,e,f,g,i]:=by
 match ws,h with
 | [a,b,c,d,e,f,g,i],_=>exact⟨a,b,c,d,e,f,g,i,rfl⟩
theorem yn.next(h:yn w D p now L)(hT:xy w):Calls prog 194 #[lkP p] w fun e w'=>e=.returned (.int .u64 (qv L))∧zb w w':=by
  obtain⟨ws,bm,bb,Ds,Dm,Db,Lss,h1,h2,h3⟩:=h;have hnow:=h1.box.now;have HCk:=za (Ya h1.box (s:=0) (by omega));obtain⟨c0,c9,c10,cf,cl⟩:=h1.box.cells;have hlen:=h1.box.len;obtain⟨q0,q1,q2,q3,q4,q5,q6,q7,hq⟩:=eight hlen;have hcl:=fun(l q:Nat) (hq:ws[l]? = some q)=>h1.box.level hq
  have z0:=hcl 0 q0 (by rw[hq];rfl);have z1:=hcl 1 q1 (by rw[hq];rfl);have z2:=hcl 2 q2 (by rw[hq];rfl);have z3:=hcl 3 q3 (by rw[hq];rfl);have z4:=hcl 4 q4 (by rw[hq];rfl);have z5:=hcl 5 q5 (by rw[hq];rfl);have z6:=hcl 6 q6 (by rw[hq];rfl);have z7:=hcl 7 q7 (by rw[hq];rfl);simp only[Nat.reduceAdd]at z0 z1 z2 z3 z4 z5 z6 z7;have HQ:=za hq;have HC:=za h1;have HI:=za h2;have HS:=za h3;have HT:=za hT;have HLEN:=za hlen;clear h1 h2 h3 hcl hq hT hlen;go_enter func194,ntmps194;go_upto_region 5 with(go_at_call 233;refine HCk.out.mono ?_;rintro e w' ⟨rfl,rfl⟩)
  have hA : ∀ i q:Nat,ws[i]? = some q→(#[lkP q0,lkP q1,lkP q2,lkP q3,lkP q4,lkP q5,lkP q6,lkP q7]:Array Value)[i]? = some (lkP q):=fun i q h=>by
    rw[HQ.out]at h;have:(#[lkP q0,lkP q1,lkP q2,lkP q3,lkP q4,lkP q5,lkP q6,lkP q7]:Array Value)=([q0,q1,q2,q3,q4,q5,q6,q7].map lkP).toArray:=rfl;rw[this,vw,yw,h]
    rfl
  have hAs:(#[lkP q0,lkP q1,lkP q2,lkP q3,lkP q4,lkP q5,lkP q6,lkP q7]:Array Value).size=8:=rfl;clear z0 z1 z2 z3 z4 z5 z6 z7;generalize(#[lkP q0,lkP q1,lkP q2,lkP q3,lkP q4,lkP q5,lkP q6,lkP q7]:Array Value)=A at *;have HA:=za hA;clear hA;go_loopw [3,20] (fun v3 v20 wr => ∃ i:Nat,v3=.int .u64 18446744073709551615∧v20=.int .i64 (i:Nat)∧i≤8∧zb w wr ∧ ∀ l b s,l<i → ¬ xc Lss l b s) (fun _ v20 _=>8-(intOf v20).toNat)
  case atStart=>exact⟨0,rfl,rfl,yh _,Mod.refl _ _,fun l b s h=>by omega⟩
  case round =>
    obtain⟨i,rfl,rfl,hi8,hpu,hem⟩:=hrel;have HPU:=za hpu;have HEM:=za hem;by_cases hlt:i<8
    · have hlt':(i:Int)<8:=by omega
      have i0:(0:Int)≤(i:Int):=by omega
      have wi:IntKind.i64.wrap ((i:Int)+1)=(i:Int)+1:=zt _ (by omega);have dl8:decide (i<8)=true:=zL hlt;obtain⟨q,hq⟩ : ∃ q,ws[i]? = some q:=⟨_,zN (by rw[HLEN.out];exact hlt)⟩;have hAi:=HA.out i q hq;have hAi2:=zl6 (w:=wr) hlt hAi;obtain⟨Ls,hLs⟩ : ∃ Ls,Lss[i]? = some Ls:=⟨_,zN (by rw[HI.out.len];exact hlt)⟩;have hWh:=(HC.out.pure hpu).lev i q Ls hq hLs;have hNx:=zcg hWh (HT.out.pure hpu);obtain⟨b,er,hne,hnc⟩:=JH (neB Ls);rw[hne]at hNx;have HNx:=za hNx;have HNC:=za hnc;have HWh:=za hWh;have HLs:=za hLs;clear hpu hem hq hNx hne hnc hWh hLs;rcases HNC.out with⟨hf,rfl⟩ | ⟨hf,rfl,rfl⟩
      · obtain⟨f1,f2,f3⟩:=KH hf
        obtain⟨l,hl⟩ : ∃ l,Ls[b]? = some l:=⟨_,zN (by rw[HWh.out.len];exact f1)⟩;have hne:l ≠ []:=fun e=>by
          unfold neB at f2;rw[hl,e]at f2
          cases f2
        obtain⟨s0,hs0⟩:=List.exists_mem_of_ne_nil l hne;obtain⟨z,L',hLz,hzi,hzm⟩:=zj9 HI.out hnow HS.out (l:=i) (b:=b) (s:=s0) ⟨Ls,l,HLs.out,hl,hs0⟩ (fun b' s' hb' hsl=>by
            obtain⟨A1,B1,g1,g2,g3⟩:=hsl;rw[HLs.out]at g1
            cases g1
            have:=f3 b' hb';unfold neB at this;rw[g2]at this
            cases B1 with
            | nil=>cases g3
            | cons y B1=>simp at this) HEM.out
        have hzl:z.slot∈l:=by
          obtain⟨A1,B1,g1,g2,g3⟩:=hzi;rw[HLs.out]at g1;cases g1;rw[hl]at g2;cases g2;exact g3
        have hsl : ∀ s∈l,∃ x∈L,x.slot=s:=fun s hs=>by
          obtain⟨_,x,hx,e,_⟩:=(HI.out.at_ i b s).1 ⟨Ls,l,HLs.out,hl,hs⟩;exact⟨x,hx,e⟩
        have HZM2:=za (show z∈L by rw[hLz];exact ym);have hnd:qv L=z.dl:=by rw[hLz];rfl
        have hzr:=HI.out.rng z (by rw[hLz];exact ym);have hll:=(HWh.out.small hl).1;have hLi:=Q4 HWh.out hl;obtain⟨n,hn⟩:=zc l.length;rw[hn]at hLi hll;have HLi:=za hLi;have HN:=za hn;have HZL:=za hzl;have HZM:=za hzm;have HSL:=za hsl;have HND:=za hnd;have HZR:=za hzr;clear hf f1 f2 f3 hl hne hs0 hLz hzi hLi hn hzl hzm hsl hnd hzr HNC;go_upto_region 11 with(first
          | (go_at_call 265;refine HNx.out.mono ?_;rintro e w' ⟨rfl,rfl⟩)
          | (go_at_call 266;refine HLi.out.mono ?_;rintro e w2 ⟨a,c,rfl,hr2,hf2,hp2⟩))
        have HR2:=za hr2;have HP2:=za (HPU.out.trans hp2);clear hr2 hf2 hp2;go_loopw [3,38] (fun v3 v38 wq => ∃ j m:Nat,v3=.int .u64 (m:Nat)∧v38=.int .i64 (j:Nat)∧j≤n∧z.dl≤m∧m≤18446744073709551615∧(z.slot∈l.take j→m=z.dl)∧zb w wq∧yr wq a c l) (fun _ v38 _=>n-(intOf v38).toNat)
        case atStart=>exact⟨0,18446744073709551615,rfl,rfl,yh _,by have:=HZR.out.2.1;omega,zG _,(fun h=>by simp at h),HP2.out,HR2.out⟩
        case round =>
          obtain⟨j,m,rfl,rfl,hjn,hzm,hm64,hmz,hpq,hrq⟩:=hrel;have HPQ:=za hpq;have HRQ:=za hrq;by_cases hltj:j<n
          · have hlt2:(j:Int)<(n:Int):=by omega
            have j0:(0:Int)≤(j:Int):=by omega
            have wj:IntKind.i64.wrap ((j:Int)+1)=(j:Int)+1:=zt _ (by omega);obtain⟨s,hs⟩ : ∃ s,l[j]? = some s:=⟨_,zN (by rw[HN.out];exact hltj)⟩;obtain⟨x,hx,rfl⟩:=HSL.out s (yd hs);obtain⟨ad,had,y0⟩:=Xw (qi hrq) hs;obtain⟨r1,r2,r3,r4⟩:=HI.out.rng x hx;have hCq:=HC.out.pure hpq;have hlk:=hCq.what.look1 hx (by omega);unfold tdV at hlk;obtain⟨c0',c9',c10',cf',cl'⟩:=hCq.box.cells;have hzx:=HZM.out x hx;have htk:l.take (j+1)=l.take j++[x.slot]:=by rw[ua,hs];rfl
            have hxz:x.slot=z.slot→x.dl=z.dl:=fun e=>by
              rw[HI.out.slots x hx z HZM2.out e]
            have HPX:=za hxz;have HTK:=za htk;subst had;clear hs hx hxz htk hCq hpq hrq;have hfl:=zhW (.int .u32 x.slot) (.int .u64 x.dl) (.int .u64 x.birth) wr;go_wp2;refine⟨⟨j+1,min m x.dl,?_,by go_num,hltj,by omega,by omega,fun hz => ?_,HPQ.out,HRQ.out⟩,?_⟩
            · rw[show((min m x.dl:Nat):Int)=min (m:Int) (x.dl:Int) by omega]
            · rw[HTK.out]at hz
              rcases yF.1 hz with hz | hz
              · have:=hmz hz;omega
              · rw[xh]at hz
                have:=HPX.out hz.symm;omega
            · simp[intOf];omega
          · have e:j=n:=by omega
            subst e;have hm:m=z.dl:=hmz (by rw[kM (by rw[HN.out];exact zG _)];exact HZL.out);have HM:=za hm;clear hpq hrq hm hmz hzm;go_wp2;go_ret;exact⟨by rw[HND.out,HM.out];rfl,HPQ.out⟩
      · have hz:=za5 hf
        have hz2 : ∀ b s,¬ xc Lss i b s:=fun b s hsl=>by
          obtain⟨A1,B1,g1,g2,g3⟩:=hsl;rw[HLs.out]at g1
          cases g1
          have hb:b<256:=by have:=(zF.1 g2).1;rw[HWh.out.len]at this;exact this
          have:=hz b hb;unfold neB at this;rw[g2]at this
          cases B1 with
          | nil=>cases g3
          | cons y B1=>simp at this
        have HZ2:=za hz2;clear hf hz hz2 HNC
        go_wp2_with (go_at_call 265;refine HNx.out.mono ?_;rintro e w' ⟨rfl,rfl⟩)
        go_roundw
        case rel=>exact⟨i+1,rfl,by go_num,hlt,HPU.out,fun l b s hl=>by
          rcases Nat.lt_or_ge l i with h | h
          · exact HEM.out l b s h
          · have:l=i:=by omega
            subst this;exact HZ2.out b s⟩
        case measure=>simp[intOf];omega
    · have e:i=8:=by omega
      subst e;have hL0:L=[]:=by
        cases hL:L with
        | nil=>rfl
        | cons z L' =>
          exfalso;have hzm:z∈L:=by rw[hL];exact ym
          have hr:=HI.out.rng z hzm;have hz:=(HI.out.at_ (lvl now z.dl) (bkt now z.dl) z.slot).2 ⟨(fun c=>c),z,hzm,rfl,rfl,rfl⟩;exact HEM.out _ _ _ (uR hnow (dl:=z.dl) (by omega)).1 hz
      have hnd:qv L=18446744073709551615:=by rw[hL0];rfl
      have HN0:=za hnd;clear hpu hem hL0 hnd;go_wp2;go_ret;exact⟨by rw[HN0.out];rfl,HPU.out⟩
end
end
section
open Go.RowKit Go.Shelf
section
variable{w w':World}{D:Nat→Prop}{p now q bb bs:Nat}{Dc:Nat→Prop}{Db Ds:DataW Unit}{M L:List Td}
theorem yM.off0(h:yM w D p now q bb bs Dc Db Ds M L){k:Nat}(hk:k≥w.heap.size) : ¬ D k:=fun e=>by have:=h.lt e;omega
theorem yM.cascade(h:yM w D p now q bb bs Dc Db Ds M L){Dc':Nat→Prop}{now':Nat}{L':List Td}(hc:yn w' Dc' q now' L')(hg:yi Dc Dc' w)(hm:Mod Dc w w') :
  ∃ D',yM w' D' p now' q bb bs Dc' Db Ds M L'∧yi D D' w:=by
 have n1 : ¬ Dc' p:=fun e=>by rcases hg p e with e | e;exact h.np e;have:=h.lt ((h.dd p).2 (.inl rfl));omega
 have n2 : ¬ Dc' bb:=fun e=>by rcases hg bb e with e | e;exact h.nbb e;have:=h.lt ((h.dd bb).2 (.inr (.inl rfl)));omega
 have n3 : ¬ Dc' bs:=fun e=>by rcases hg bs e with e | e;exact h.nbs e;have:=h.lt ((h.dd bs).2 (.inr (.inr (.inl rfl))));omega
 refine⟨fun k=>k=p∨k=bb∨k=bs∨Dc' k,⟨hm.heap h.np h.box,hc,h.births.mod hm h.nbb,h.slots.mod hm h.nbs,n1,n2,n3,h.ne,fun k=>vE⟩,fun k hk => ?_⟩;rcases hk with rfl | rfl | rfl | e
 ·exact .inl ((h.dd k).2 (.inl rfl))
 ·exact .inl ((h.dd k).2 (.inr (.inl rfl)))
 ·exact .inl ((h.dd k).2 (.inr (.inr (.inl rfl))))
 ·rcases hg k e with e | e
  ·exact .inl ((h.dd k).2 (.inr (.inr (.inr e))))
  ·exact .inr e
end
section
variable{w w':World}{D:Nat→Prop}{p now q bb bs:Nat}{Dc:Nat→Prop}{Db Ds:DataW Unit}{M L:List Td}
theorem zj8(h:yM w D p now q bb bs Dc Db Ds M L){x:Td}(hs:x.slot<4194304)(hd:x.dl=18446744073709551615)(hb:x.birth≤18446744073709551615)(h1 : ∀ y∈M,y.slot≠x.slot)(h2 : ∀ y∈M,y.birth≠x.birth)(hMl:M.length<maxLen) :
  Calls prog 164 #[lkP p,tdV x] w fun e w'=>e=.returned (.tuple #[])∧(∃ Db' Ds',yM w' D p now q bb bs Dc Db' Ds' (x::M) L)∧Mod D w w':=by
 have hal:zb w (w.alloc (.cells #[.int .u32 x.slot,.int .u64 x.dl,.int .u64 x.birth] 226)):=(Mod.refl _ w).alloc _;have h3:=zi (w:=w) (o := .cells #[.int .u32 x.slot,.int .u64 x.dl,.int .u64 x.birth] 226 (0,0)) rfl;have hD3 : ¬ D w.heap.size:=fun e=>by have:=h.lt e;omega
 have HC:=za (h.pure hal);have H1:=za h1;have H2:=za h2;have HAL:=za hal;have HDD:=za h.dd;have e0:((x.dl:Int)==18446744073709551615)=true:=by simp;omega
 clear hd;obtain⟨ne1,ne2,ne3⟩:=h.ne;clear h h1 h2 hal;unfold tdV;go_enter func164,ntmps164;go_upto_region 1 with fail
 generalize w.alloc (.cells #[.int .u32 x.slot,.int .u64 x.dl,.int .u64 x.birth] 226)=W1 at *;obtain⟨b3,hb3⟩:=zc w.heap.size;rw[hb3]at h3 hD3 ⊢;clear hb3;obtain⟨c0,c1,c2⟩:=HC.out.cells;have H3:=za h3;obtain⟨h3_0,h3_1,h3_2,h3_f,h3_l,H_h3⟩:=cr3 h3;clear h3;go_upto_region 3 with fail
 refine qO (S:=fun u=>(u.cell? ⟨p,1,none⟩=some (.map (some bb))∧u.cell? ⟨p,2,none⟩=some (.map (some bs)))∧u.cell? ⟨b3,0,none⟩=some (.int .u32 x.slot)∧u.cell? ⟨b3,1,none⟩=some (.int .u64 x.dl)∧u.cell? ⟨b3,2,none⟩=some (.int .u64 x.birth)) (by kernel_rfl) ⟨⟨c1,c2⟩,h3_0,h3_1,h3_2⟩ (fun h_ => ?_);refine hTk 0 ?_;refine hTk 1 ?_;refine hTk 2 ?_
 ((refine kC (i:=3) (v := ?_) rfl (by kernel_rfl) (by kernel_rfl) (by kernel_rfl) (fun _ _ _ h=>h) (Or.inl ⟨by rfl,?_⟩) h_ ?_;rotate_left 1;focus(intro w hS;obtain⟨⟨s1,s2⟩,s3,s4,s5⟩:=hS;go_simp;try with_reducible rfl));try simp only[Act.put,List.getElem_toArray,List.getElem_cons_zero,List.getElem_cons_succ,List.setIfInBounds_toArray,List.set_cons_zero,List.set_cons_succ])
 refine hTk 4 ?_
 ((refine kC (i:=5) (v := ?_) rfl (by kernel_rfl) (by kernel_rfl) (by kernel_rfl) (fun _ _ _ h=>h) (Or.inl ⟨by rfl,?_⟩) h_ ?_;rotate_left 1;focus(intro w hS;obtain⟨⟨s1,s2⟩,s3,s4,s5⟩:=hS;go_simp;try with_reducible rfl));try simp only[Act.put,List.getElem_toArray,List.getElem_cons_zero,List.getElem_cons_succ,List.setIfInBounds_toArray,List.set_cons_zero,List.set_cons_succ])
 refine hTk 6 ?_;refine hTk 7 ?_;refine hTk 8 ?_
 ((refine kC (i:=9) (v := ?_) rfl (by kernel_rfl) (by kernel_rfl) (by kernel_rfl) (fun _ _ _ h=>h) (Or.inl ⟨by rfl,?_⟩) h_ ?_;rotate_left 1;focus(intro w hS;obtain⟨⟨s1,s2⟩,s3,s4,s5⟩:=hS;go_simp;try with_reducible rfl));try simp only[Act.put,List.getElem_toArray,List.getElem_cons_zero,List.getElem_cons_succ,List.setIfInBounds_toArray,List.set_cons_zero,List.set_cons_succ])
 refine hTk 10 ?_
 ((refine kC (i:=11) (v := ?_) rfl (by kernel_rfl) (by kernel_rfl) (by kernel_rfl) (fun _ _ _ h=>h) (Or.inl ⟨by rfl,?_⟩) h_ ?_;rotate_left 1;focus(intro w hS;obtain⟨⟨s1,s2⟩,s3,s4,s5⟩:=hS;go_simp;try with_reducible rfl));try simp only[Act.put,List.getElem_toArray,List.getElem_cons_zero,List.getElem_cons_succ,List.setIfInBounds_toArray,List.set_cons_zero,List.set_cons_succ])
 refine hTk 12 ?_
 ((refine kC (i:=13) (v := ?_) rfl (by kernel_rfl) (by kernel_rfl) (by kernel_rfl) (fun _ _ _ h=>h) (Or.inl ⟨by rfl,?_⟩) h_ ?_;rotate_left 1;focus(intro w hS;obtain⟨⟨s1,s2⟩,s3,s4,s5⟩:=hS;go_simp;try with_reducible rfl));try simp only[Act.put,List.getElem_toArray,List.getElem_cons_zero,List.getElem_cons_succ,List.setIfInBounds_toArray,List.set_cons_zero,List.set_cons_succ])
 ((refine kC (i:=14) (v := ?_) rfl (by kernel_rfl) (by kernel_rfl) (by kernel_rfl) (fun _ _ _ h=>h) (Or.inl ⟨by rfl,?_⟩) h_ ?_;rotate_left 1;focus(intro w hS;obtain⟨⟨s1,s2⟩,s3,s4,s5⟩:=hS;go_simp;try with_reducible rfl));try simp only[Act.put,List.getElem_toArray,List.getElem_cons_zero,List.getElem_cons_succ,List.setIfInBounds_toArray,List.set_cons_zero,List.set_cons_succ])
 obtain⟨v0,st,Wa,o1,hE,hA,hgA,hS⟩:=Vz HC.out.births.own.drew kr underlying173 UC hMl (qS hb);have hmA:Mod (fun k=>k=bb) W1 Wa:=Mod.of_drew (Mod.of_grown hgA (fun k e _=>by cases e;rfl));obtain⟨Wb,hEb,hownB,hgB⟩:=hS Wa (.int .u32 x.slot) _ _ hA (Ub _);have hmB:Mod (fun k=>k=bb) W1 Wb:=hmA.trans (Mod.of_grown hgB (fun k e _=>by cases e;rfl));have hN:=HC.out.births.put H2.out hownB;have hT:=HC.out.slots.mod hmB (fun e=>ne3 e.symm);obtain⟨v1,st2,Wc,o2,hEc,hC2,hgC,hS2⟩:=Vz hT.own vk underlying213 Xi hMl (uv (by omega:x.slot≤4294967295));have hmC:Mod (fun k=>k=bb∨k=bs) W1 Wc:=(hmB.mono (fun _ _ h => .inl h)).trans (Mod.of_grown hgC (fun k e _=>by cases e;exact .inr rfl));obtain⟨Wd,hEd,hownD,hgD⟩:=hS2 Wc (tdV x) _ _ hC2 (Ys x);unfold tdV at hEd;have hmD:Mod (fun k=>k=bb∨k=bs) W1 Wd:=hmC.trans (Mod.of_grown hgD (fun k e _=>by cases e;exact .inr rfl));have hmBD:Mod (fun k=>k=bs) Wb Wd:=(Mod.of_grown hgC (fun k e _=>by cases e;rfl)).trans (Mod.of_grown hgD (fun k e _=>by cases e;rfl));have n3:b3≠bb∧b3≠bs:=⟨fun e=>hD3 ((HDD.out b3).2 (.inr (.inl e))),fun e=>hD3 ((HDD.out b3).2 (.inr (.inr (.inl e))))⟩;have hK : ∀ u,Mod (fun k=>k=bb∨k=bs) W1 u→(u.cell? ⟨p,1,none⟩=some (.map (some bb))∧u.cell? ⟨p,2,none⟩=some (.map (some bs)))∧u.cell? ⟨b3,0,none⟩=some (.int .u32 x.slot)∧u.cell? ⟨b3,1,none⟩=some (.int .u64 x.dl)∧u.cell? ⟨b3,2,none⟩=some (.int .u64 x.birth):=fun u hu =>
  ⟨⟨hu.cell (a:=⟨p,1,none⟩) (fun e=>by rcases e with e | e;exact ne1 e;exact ne2 e) c1,hu.cell (a:=⟨p,2,none⟩) (fun e=>by rcases e with e | e;exact ne1 e;exact ne2 e) c2⟩,hu.cell (a:=⟨b3,0,none⟩) (fun e=>by rcases e with e | e;exact n3.1 e;exact n3.2 e) h3_0,hu.cell (a:=⟨b3,1,none⟩) (fun e=>by rcases e with e | e;exact n3.1 e;exact n3.2 e) h3_1,hu.cell (a:=⟨b3,2,none⟩) (fun e=>by rcases e with e | e;exact n3.1 e;exact n3.2 e) h3_2⟩
 have gA:=hK Wa (hmA.mono (fun _ _ h => .inl h));have gB:=hK Wb (hmB.mono (fun _ _ h => .inl h));have gC:=hK Wc hmC;have gD:=hK Wd hmD;have hT4:=hT.put H1.out hownD;have hfin:yM Wd D p now q bb bs Dc (Db.put (kB x.birth) (nD x)) (Ds.put (kS x.slot) (tdD x)) (x::M) L:=⟨hmD.heap (fun e=>by rcases e with e | e;exact ne1 e;exact ne2 e) HC.out.box,HC.out.cas.frame hmD (fun k hk e=>by rcases e with e | e;exact HC.out.nbb (e ▸ hk);exact HC.out.nbs (e ▸ hk)),hN.mod hmBD (fun e=>ne3 e),hT4,HC.out.np,HC.out.nbb,HC.out.nbs,HC.out.ne,HC.out.dd⟩;have hmo:Mod D W1 Wd:=hmD.mono (fun k _ hk=>by rcases hk with e | e;exact(HDD.out k).2 (.inr (.inl e));exact(HDD.out k).2 (.inr (.inr (.inl e))));have HF:=za hfin;have HMO:=za hmo;clear hfin hmo hT4 hK hmD hmBD hmC hmB hmA hT hN hownB hownD hgA hgB hgC hgD hS hS2 hA hC2
 (refine hSt 15 (fun K hK => ?_);go_simp;refine hK.out _ _ ?_ (fun h_ => ?_);(· exact gA);clear hK K;refine clA ?_)
 refine hTk 16 ?_
 (refine hSt 17 (fun K hK => ?_);go_simp;refine hK.out _ _ ?_ (fun h_ => ?_);(· exact gB);clear hK K;refine clA ?_)
 (refine hSt 18 (fun K hK => ?_);go_simp;refine hK.out _ _ ?_ (fun h_ => ?_);(· exact gC);clear hK K;refine clA ?_)
 refine hTk 19 ?_
 (refine hSt 20 (fun K hK => ?_);go_simp;refine hK.out _ _ ?_ (fun h_ => ?_);(· exact gD);clear hK K;refine clA ?_)
 refine hDn ?_;clear h_
 go_end0
 exact⟨rfl,⟨_,_,HF.out⟩,(HAL.out.mono (fun _ _ h=>h.elim):Mod D w W1).trans HMO.out⟩
theorem zmg(h:yM w D p now q bb bs Dc Db Ds M L){x:Td}(hs:x.slot<4194304)(hd:x.dl<18446744073709551615)(hb:x.birth≤18446744073709551615)(h1 : ∀ y∈M,y.slot≠x.slot)(h2 : ∀ y∈M,y.birth≠x.birth)(hMl:M.length<maxLen)(hLl:L.length<maxLen) :
  Calls prog 164 #[lkP p,tdV x] w fun e w'=>e=.returned (.tuple #[])∧(∃ D' Dc' Db' Ds',yM w' D' p now q bb bs Dc' Db' Ds' (x::M) (Yq now L x)∧yi D D' w)∧Mod D w w':=by
 have hal:zb w (w.alloc (.cells #[.int .u32 x.slot,.int .u64 x.dl,.int .u64 x.birth] 226)):=(Mod.refl _ w).alloc _;have h3:=zi (w:=w) (o := .cells #[.int .u32 x.slot,.int .u64 x.dl,.int .u64 x.birth] 226 (0,0)) rfl;have hD3 : ¬ D w.heap.size:=fun e=>by have:=h.lt e;omega
 have HC:=za (h.pure hal);have H1:=za h1;have H2:=za h2;have HAL:=za hal;have HDD:=za h.dd;have e0:((x.dl:Int)==18446744073709551615)=false:=by simp;omega
 have hsc:=((h.pure hal).pure ((Mod.refl _ _).drew:zb _ (w.alloc (.cells #[.int .u32 x.slot,.int .u64 x.dl,.int .u64 x.birth] 226)).drew)).cas.sched (x:=x) (by omega) (by omega) hb hLl;unfold tdV at hsc;have HSc:=za hsc;clear hd hsc;obtain⟨ne1,ne2,ne3⟩:=h.ne;clear h h1 h2 hal;unfold tdV;go_enter func164,ntmps164;go_upto_region 1 with fail
 generalize w.alloc (.cells #[.int .u32 x.slot,.int .u64 x.dl,.int .u64 x.birth] 226)=W1 at *;obtain⟨b3,hb3⟩:=zc w.heap.size;rw[hb3]at h3 hD3 ⊢;clear hb3;obtain⟨c0,c1,c2⟩:=HC.out.cells;have H3:=za h3;obtain⟨h3_0,h3_1,h3_2,h3_f,h3_l,H_h3⟩:=cr3 h3;clear h3;go_upto_region 2 with fail
 go_still_tail 5,(by kernel_rfl)
 go_upto_region 3 with(go_at_call 239;refine HSc.out.mono ?_;rintro e w2 ⟨rfl,⟨Dc2,hc2,hg2⟩,hm2⟩)
 have hm2':Mod Dc W1 w2:=Mod.of_drew hm2;have hg2':yi Dc Dc2 W1:=hg2;obtain⟨D2,hD2,hgD⟩:=HC.out.cascade hc2 hg2' hm2';have nb3 : ¬ Dc b3:=fun e=>hD3 ((HDD.out b3).2 (.inr (.inr (.inr e))))
 have h32:=hm2'.heap nb3 H3.out;have HD2:=za hD2;have HGD:=za hgD;have HM2':=za (hm2'.mono (fun k _ hk=>(HDD.out k).2 (.inr (.inr (.inr hk)))):Mod D W1 w2);clear h3_0 h3_1 h3_2 h3_f h3_l;clear H_h3 hm2 hm2' hg2 hg2' hD2 hgD hc2 HSc c0 c1 c2;obtain⟨c0,c1,c2⟩:=HD2.out.cells;obtain⟨h32_0,h32_1,h32_2,h32_f,h32_l,H_h32⟩:=cr3 h32;clear h32;refine qO (S:=fun u=>(u.cell? ⟨p,1,none⟩=some (.map (some bb))∧u.cell? ⟨p,2,none⟩=some (.map (some bs)))∧u.cell? ⟨b3,0,none⟩=some (.int .u32 x.slot)∧u.cell? ⟨b3,1,none⟩=some (.int .u64 x.dl)∧u.cell? ⟨b3,2,none⟩=some (.int .u64 x.birth)) (by kernel_rfl) ⟨⟨c1,c2⟩,h32_0,h32_1,h32_2⟩ (fun h_ => ?_);refine hTk 0 ?_;refine hTk 1 ?_;refine hTk 2 ?_
 ((refine kC (i:=3) (v := ?_) rfl (by kernel_rfl) (by kernel_rfl) (by kernel_rfl) (fun _ _ _ h=>h) (Or.inl ⟨by rfl,?_⟩) h_ ?_;rotate_left 1;focus(intro w hS;obtain⟨⟨s1,s2⟩,s3,s4,s5⟩:=hS;go_simp;try with_reducible rfl));try simp only[Act.put,List.getElem_toArray,List.getElem_cons_zero,List.getElem_cons_succ,List.setIfInBounds_toArray,List.set_cons_zero,List.set_cons_succ])
 refine hTk 4 ?_
 ((refine kC (i:=5) (v := ?_) rfl (by kernel_rfl) (by kernel_rfl) (by kernel_rfl) (fun _ _ _ h=>h) (Or.inl ⟨by rfl,?_⟩) h_ ?_;rotate_left 1;focus(intro w hS;obtain⟨⟨s1,s2⟩,s3,s4,s5⟩:=hS;go_simp;try with_reducible rfl));try simp only[Act.put,List.getElem_toArray,List.getElem_cons_zero,List.getElem_cons_succ,List.setIfInBounds_toArray,List.set_cons_zero,List.set_cons_succ])
 refine hTk 6 ?_;refine hTk 7 ?_;refine hTk 8 ?_
 ((refine kC (i:=9) (v := ?_) rfl (by kernel_rfl) (by kernel_rfl) (by kernel_rfl) (fun _ _ _ h=>h) (Or.inl ⟨by rfl,?_⟩) h_ ?_;rotate_left 1;focus(intro w hS;obtain⟨⟨s1,s2⟩,s3,s4,s5⟩:=hS;go_simp;try with_reducible rfl));try simp only[Act.put,List.getElem_toArray,List.getElem_cons_zero,List.getElem_cons_succ,List.setIfInBounds_toArray,List.set_cons_zero,List.set_cons_succ])
 refine hTk 10 ?_
 ((refine kC (i:=11) (v := ?_) rfl (by kernel_rfl) (by kernel_rfl) (by kernel_rfl) (fun _ _ _ h=>h) (Or.inl ⟨by rfl,?_⟩) h_ ?_;rotate_left 1;focus(intro w hS;obtain⟨⟨s1,s2⟩,s3,s4,s5⟩:=hS;go_simp;try with_reducible rfl));try simp only[Act.put,List.getElem_toArray,List.getElem_cons_zero,List.getElem_cons_succ,List.setIfInBounds_toArray,List.set_cons_zero,List.set_cons_succ])
 refine hTk 12 ?_
 ((refine kC (i:=13) (v := ?_) rfl (by kernel_rfl) (by kernel_rfl) (by kernel_rfl) (fun _ _ _ h=>h) (Or.inl ⟨by rfl,?_⟩) h_ ?_;rotate_left 1;focus(intro w hS;obtain⟨⟨s1,s2⟩,s3,s4,s5⟩:=hS;go_simp;try with_reducible rfl));try simp only[Act.put,List.getElem_toArray,List.getElem_cons_zero,List.getElem_cons_succ,List.setIfInBounds_toArray,List.set_cons_zero,List.set_cons_succ])
 ((refine kC (i:=14) (v := ?_) rfl (by kernel_rfl) (by kernel_rfl) (by kernel_rfl) (fun _ _ _ h=>h) (Or.inl ⟨by rfl,?_⟩) h_ ?_;rotate_left 1;focus(intro w hS;obtain⟨⟨s1,s2⟩,s3,s4,s5⟩:=hS;go_simp;try with_reducible rfl));try simp only[Act.put,List.getElem_toArray,List.getElem_cons_zero,List.getElem_cons_succ,List.setIfInBounds_toArray,List.set_cons_zero,List.set_cons_succ])
 obtain⟨v0,st,Wa,o1,hE,hA,hgA,hS⟩:=Vz HD2.out.births.own.drew kr underlying173 UC hMl (qS hb);have hmA:Mod (fun k=>k=bb) w2 Wa:=Mod.of_drew (Mod.of_grown hgA (fun k e _=>by cases e;rfl));obtain⟨Wb,hEb,hownB,hgB⟩:=hS Wa (.int .u32 x.slot) _ _ hA (Ub _);have hmB:Mod (fun k=>k=bb) w2 Wb:=hmA.trans (Mod.of_grown hgB (fun k e _=>by cases e;rfl));have hN:=HD2.out.births.put H2.out hownB;have hT:=HD2.out.slots.mod hmB (fun e=>ne3 e.symm);obtain⟨v1,st2,Wc,o2,hEc,hC2,hgC,hS2⟩:=Vz hT.own vk underlying213 Xi hMl (uv (by omega:x.slot≤4294967295));have hmC:Mod (fun k=>k=bb∨k=bs) w2 Wc:=(hmB.mono (fun _ _ h => .inl h)).trans (Mod.of_grown hgC (fun k e _=>by cases e;exact .inr rfl));obtain⟨Wd,hEd,hownD,hgD⟩:=hS2 Wc (tdV x) _ _ hC2 (Ys x);unfold tdV at hEd;have hmD:Mod (fun k=>k=bb∨k=bs) w2 Wd:=hmC.trans (Mod.of_grown hgD (fun k e _=>by cases e;exact .inr rfl));have hmBD:Mod (fun k=>k=bs) Wb Wd:=(Mod.of_grown hgC (fun k e _=>by cases e;rfl)).trans (Mod.of_grown hgD (fun k e _=>by cases e;rfl));have n3:b3≠bb∧b3≠bs:=⟨fun e=>hD3 ((HDD.out b3).2 (.inr (.inl e))),fun e=>hD3 ((HDD.out b3).2 (.inr (.inr (.inl e))))⟩;have hK : ∀ u,Mod (fun k=>k=bb∨k=bs) w2 u→(u.cell? ⟨p,1,none⟩=some (.map (some bb))∧u.cell? ⟨p,2,none⟩=some (.map (some bs)))∧u.cell? ⟨b3,0,none⟩=some (.int .u32 x.slot)∧u.cell? ⟨b3,1,none⟩=some (.int .u64 x.dl)∧u.cell? ⟨b3,2,none⟩=some (.int .u64 x.birth):=fun u hu =>
  ⟨⟨hu.cell (a:=⟨p,1,none⟩) (fun e=>by rcases e with e | e;exact ne1 e;exact ne2 e) c1,hu.cell (a:=⟨p,2,none⟩) (fun e=>by rcases e with e | e;exact ne1 e;exact ne2 e) c2⟩,hu.cell (a:=⟨b3,0,none⟩) (fun e=>by rcases e with e | e;exact n3.1 e;exact n3.2 e) h32_0,hu.cell (a:=⟨b3,1,none⟩) (fun e=>by rcases e with e | e;exact n3.1 e;exact n3.2 e) h32_1,hu.cell (a:=⟨b3,2,none⟩) (fun e=>by rcases e with e | e;exact n3.1 e;exact n3.2 e) h32_2⟩
 have gA:=hK Wa (hmA.mono (fun _ _ h => .inl h));have gB:=hK Wb (hmB.mono (fun _ _ h => .inl h));have gC:=hK Wc hmC;have gD:=hK Wd hmD;have hT4:=hT.put H1.out hownD;have hfin:yM Wd D2 p now q bb bs Dc2 (Db.put (kB x.birth) (nD x)) (Ds.put (kS x.slot) (tdD x)) (x::M) (Yq now L x):=⟨hmD.heap (fun e=>by rcases e with e | e;exact ne1 e;exact ne2 e) HD2.out.box,HD2.out.cas.frame hmD (fun k hk e=>by rcases e with e | e;exact HD2.out.nbb (e ▸ hk);exact HD2.out.nbs (e ▸ hk)),hN.mod hmBD (fun e=>ne3 e),hT4,HD2.out.np,HD2.out.nbb,HD2.out.nbs,HD2.out.ne,HD2.out.dd⟩;have hmo:Mod D w2 Wd:=hmD.mono (fun k _ hk=>by rcases hk with e | e;exact(HDD.out k).2 (.inr (.inl e));exact(HDD.out k).2 (.inr (.inr (.inl e))));have HF:=za hfin;have HMO:=za hmo;clear hfin hmo hT4 hK hmD hmBD hmC hmB hmA hT hN hownB hownD hgA hgB hgC hgD hS hS2 hA hC2
 (refine hSt 15 (fun K hK => ?_);go_simp;refine hK.out _ _ ?_ (fun h_ => ?_);(· exact gA);clear hK K;refine clA ?_)
 refine hTk 16 ?_
 (refine hSt 17 (fun K hK => ?_);go_simp;refine hK.out _ _ ?_ (fun h_ => ?_);(· exact gB);clear hK K;refine clA ?_)
 (refine hSt 18 (fun K hK => ?_);go_simp;refine hK.out _ _ ?_ (fun h_ => ?_);(· exact gC);clear hK K;refine clA ?_)
 refine hTk 19 ?_
 (refine hSt 20 (fun K hK => ?_);go_simp;refine hK.out _ _ ?_ (fun h_ => ?_);(· exact gD);clear hK K;refine clA ?_)
 refine hDn ?_;clear h_
 go_end0
 exact⟨rfl,⟨_,_,_,_,HF.out,fun k hk=>by
  rcases HGD.out k hk with e | e
  ·exact .inl e
  ·exact .inr (zH HAL.out.size e)⟩,((HAL.out.mono (fun _ _ h=>h.elim):Mod D w W1).trans HM2'.out).trans HMO.out⟩
end
end
end Go.Proofs.YtpplkcnknabofaaGreatDoor
