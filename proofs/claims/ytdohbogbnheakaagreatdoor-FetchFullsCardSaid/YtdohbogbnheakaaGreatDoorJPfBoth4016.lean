/- Lemmas and contracts of functions. No condition. -/
import Derived.Test.YtdohbogbnheakaaGreatDoorJPfBoth4015
namespace Go.Proofs.YtdohbogbnheakaaGreatDoor
open _root_.Go.Proofs.Tryz
set_option maxRecDepth 100000
set_option maxHeartbeats 20000000
set_option linter.all false
section
open Go.RowKit Go.Shelf
def yr(M:List Td):List Td:=M.filter (fun x=>decide (x.dl≠18446744073709551615))
structure yJ(now:Nat)(M:List Td):Prop where
 ord:M.Pairwise bef
 slots : ∀ x∈M,∀ y∈M,x.slot=y.slot→x=y
 births : ∀ x∈M,∀ y∈M,x.birth=y.birth→x=y
 rng : ∀ x∈M,x.slot<4194304∧(now<x.dl∨x.dl=18446744073709551615)∧x.dl≤18446744073709551615∧0<x.birth∧x.birth≤18446744073709551615
structure yT(w:World)(D:Nat→Prop)(p now q bb bs:Nat)(Dc:Nat→Prop)(Db Ds:DataW Unit)(M L:List Td):Prop where
 box:w.heap[p]? = some (.cells #[lkP q,.map (some bb),.map (some bs)] 232 (0,0))
 cas:yt w Dc q now L
 births:xR w bb M Db
 slots:yM w bs M Ds
 np : ¬ Dc p
 nbb : ¬ Dc bb
 nbs : ¬ Dc bs
 ne:p≠bb∧p≠bs∧bb≠bs
 dd : ∀ k,D k↔k=p∨k=bb∨k=bs∨Dc k
section
variable{w w':World}{D:Nat→Prop}{p now q bb bs:Nat}{Dc:Nat→Prop}{Db Ds:DataW Unit}{M L:List Td}
theorem yT.frame{S:Nat→Prop}(h:yT w D p now q bb bs Dc Db Ds M L)(hm:Mod S w w')(hd : ∀ k,D k → ¬ S k):yT w' D p now q bb bs Dc Db Ds M L :=
 ⟨hm.heap (hd p ((h.dd p).2 (.inl rfl))) h.box,h.cas.frame hm (fun k hk=>hd k ((h.dd k).2 (.inr (.inr (.inr hk))))),h.births.mod hm (hd bb ((h.dd bb).2 (.inr (.inl rfl)))),h.slots.mod hm (hd bs ((h.dd bs).2 (.inr (.inr (.inl rfl))))),h.np,h.nbb,h.nbs,h.ne,h.dd⟩
theorem yT.pure(h:yT w D p now q bb bs Dc Db Ds M L)(hp:zc w w'):yT w' D p now q bb bs Dc Db Ds M L:=h.frame hp (fun _ _ h=>h)
theorem yT.cells(h:yT w D p now q bb bs Dc Db Ds M L):w.cell? ⟨p,0,none⟩=some (lkP q)∧w.cell? ⟨p,1,none⟩=some (.map (some bb))∧w.cell? ⟨p,2,none⟩=some (.map (some bs)) :=
 ⟨by rw[zi _ _ 0 _ _ _ h.box];rfl,by rw[zi _ _ 1 _ _ _ h.box];rfl,by rw[zi _ _ 2 _ _ _ h.box];rfl⟩
theorem yT.lt(h:yT w D p now q bb bs Dc Db Ds M L){k:Nat}(hk:D k):k<w.heap.size:=by
 rcases(h.dd k).1 hk with rfl | rfl | rfl | e
 ·exact zm h.box
 ·exact h.births.own.lt
 ·exact h.slots.own.lt
 ·exact h.cas.lt e
theorem Az2ui {P:Prop}(h:P:=by
 clear h h32 hs c1 c2;unfold lkP;go_enter func130,ntmps130;go_wp2;go_ret;exact⟨rfl,rfl⟩):P:=h
theorem UD(h:yT w D p now q bb bs Dc Db Ds M L){s:Nat}(h32:s≤4294967295):Calls prog 130 #[lkP p,.int .u32 s] w fun e w'=>e=.returned (.int .i64 (if s<4194304 then 0 else 2))∧w=w':=by
 obtain⟨c0,c1,c2⟩:=h.cells;unfold lkP at c0;by_cases hs:s<4194304
 ·rw[zk hs];have hs' : ¬ (4194304:Int)≤(s:Int):=by omega
  exact Az2ui
 ·rw[zh hs];have hs':(4194304:Int)≤(s:Int):=by omega
  exact Az2ui
theorem Qz(h:yT w D p now q bb bs Dc Db Ds M L):Calls prog 130 #[lkP p,.int .u32 0] w fun e w'=>e=.returned (.int .i64 0)∧w=w':=UD h (s:=0) (by omega)
theorem Kf(h:yT w D p now q bb bs Dc Db Ds M L):Calls prog 83 #[lkP p] w fun e w'=>e=.returned (.int .u64 now)∧w=w':=by
  obtain⟨c0,c1,c2⟩:=h.cells;have HC:=za (Qz h);have HN:=za h.cas.now_;clear h c1 c2;unfold lkP at c0;have c0':w.cell? ⟨p,0,none⟩=some (lkP q):=c0;clear c0;go_enter func83,ntmps83
  go_wp2_with (first
    | (go_at_call 130;refine HC.out.mono ?_;rintro e w' ⟨rfl,rfl⟩)
    | (go_at_call 131;refine HN.out.mono ?_;rintro e w' ⟨rfl,rfl⟩))
  go_ret;exact⟨rfl,rfl⟩
end
end
section
open Go.RowKit
def jC(now:Nat)(ws:List Nat)(bm bb:Nat):List Value := .int .u64 now::((ws.map lkP++List.replicate (8-ws.length) (.pointer none))++[.map (some bm),.map (some bb)])
theorem zjX{now bm bb:Nat}{ws:List Nat}(h:ws.length=8):jC now ws bm bb=Yi now ws bm bb:=by
 unfold jC Yi;rw[h];simp
theorem zi6{now bm bb:Nat}{ws:List Nat}(h:ws.length<8)(q:Nat):(jC now ws bm bb).set (1+ws.length) (lkP q)=jC now (ws++[q]) bm bb:=by
 unfold jC;obtain⟨m,hm⟩ : ∃ m,8-ws.length=m+1:=⟨8-ws.length-1,by omega⟩;have hm2:8-(ws++[q]).length=m:=by simp;omega
 rw[hm,hm2,show 1+ws.length=ws.length+1 from Nat.add_comm _ _,ZF,List.set_append_left _ _ (by simp),Xy _ _ (by simp)];simp[List.replicate_succ]
structure NwI(w wr:World)(p now bm bb i:Nat)(ws:List Nat)(Ds:Nat→Nat→Prop):Prop where
 box:wr.heap[p]? = some (.cells (jC now ws bm bb).toArray 300 (0,0))
 len:ws.length=i
 what:yM wr bm [] (.map [])
 births:xI wr bb [] (.map [])
 lev : ∀(l q:Nat),ws[l]? = some q→yK wr (Ds l) q (List.replicate 256 [])
 apart : ∀ l l' k,l<i→l'<i→l≠l'→Ds l k → ¬ Ds l' k
 own : ∀ l k,l<i→Ds l k→p<k∧k<wr.heap.size
 ge:w.heap.size≤p∧w.heap.size≤bm∧w.heap.size≤bb∧bm<p∧bb<p∧bm≠bb
 pure:zc w wr
theorem NwI.step{w wr w2:World}{p now bm bb i q:Nat}{ws:List Nat}{Ds:Nat→Nat→Prop}{D2:Nat→Prop}(h:NwI w wr p now bm bb i ws Ds)(hi:i<8)(hw:yK w2 D2 q (List.replicate 256 []))(hp:zc wr w2)(hf : ∀ k,D2 k→wr.heap.size≤k) :
  NwI w (w2.setCell ⟨p,1+i,none⟩ (lkP q)) p now bm bb (i+1) (ws++[q]) (kV Ds i D2):=by
 have hm:Mod (fun k=>k=p) w2 (w2.setCell ⟨p,1+i,none⟩ (lkP q)):=(Mod.refl (fun k=>k=p) w2).setCell (p:=⟨p,1+i,none⟩) (fun _=>rfl) _;have hplt:=zm h.box;have hle:=hp.size;have hle2:=hm.size;obtain⟨g1,g2,g3,g4,g5,g6⟩:=h.ge;have hb2:=hp.heap (fun h=>h) h.box;refine⟨?_,by rw[zV,h.len];rfl,(h.what.mod hp (fun h=>h)).mod hm (by show ¬ bm=p;omega),(h.births.mod hp (fun h=>h)).mod hm (by show ¬ bb=p;omega),fun l q' hq => ?_,fun l l' k hl hl' hne hk => ?_,fun l k hl hk => ?_,h.ge,h.pure.trans hp |>.then hm (fun k hk e=>by omega)⟩
 ·rw[ya w2 p (1+i) _ _ (lkP q) hb2,← zi6 (by rw[h.len];exact hi),h.len]
  congr 2
  exact YO ..
 ·unfold kV;by_cases e:l=i
  ·subst e;rw[zk rfl];rw[jh (by rw[h.len];exact zI _),h.len,YJ]at hq
   cases hq
   exact hw.frame hm (fun k hk e=>by have:=hf k hk;omega)
  ·rw[zh e];have hl:l<ws.length:=by
    have:=(zE.1 hq).1;rw[zV]at this;have hln:=h.len;simp at this;omega
   rw[us hl]at hq;exact((h.lev l q' hq).pure hp).frame hm (fun k hk e=>by have:=(h.own l k (by rw[← h.len];exact hl) hk).1;omega)
 ·unfold kV at hk ⊢;by_cases e:l=i
  ·rw[zk e]at hk;rw[zh (by omega)];intro hk3;have:=(h.own l' k (by omega) hk3).2;have:=hf k hk;omega
  ·rw[zh e]at hk;by_cases e3:l'=i
   ·rw[zk e3];intro hk3;have:=(h.own l k (by omega) hk).2;have:=hf k hk3;omega
   ·rw[zh e3];exact h.apart l l' k (by omega) (by omega) hne hk
 ·unfold kV at hk;by_cases e:l=i
  ·rw[zk e]at hk;have h1:=hf k hk;have h2:=hw.lt hk;exact⟨by omega,by omega⟩
  ·rw[zh e]at hk;have:=h.own l k (by omega) hk;exact⟨this.1,by omega⟩
theorem NwI.fin{w wr:World}{p now bm bb:Nat}{ws:List Nat}{Ds:Nat→Nat→Prop}(h:NwI w wr p now bm bb 8 ws Ds)(hn:now<18446744073709551616) : ∃ D,yt wr D p now [] ∧ ∀ k,D k→w.heap.size≤k:=by
 obtain⟨g1,g2,g3,g4,g5,g6⟩:=h.ge;refine⟨fun k=>k=p∨k=bm∨k=bb ∨ ∃ l,l<8∧Ds l k,⟨ws,bm,bb,Ds,.map [],.map [],List.replicate 8 (List.replicate 256 []),⟨⟨?_,h.len,hn⟩,h.what,h.births,vx,fun l q Ls hq hL => ?_,h.apart,fun l k hl hk => ?_,⟨g6,by omega,by omega⟩,fun k=>vP⟩,ye.new now,List.Pairwise.nil⟩,fun k hk => ?_⟩
 ·rw[← zjX h.len];exact h.box
 ·rw[vX]at hL;split at hL
  ·cases hL;exact h.lev l q hq
  ·cases hL
 ·have:=(h.own l k hl hk).1;exact⟨by omega,by omega,by omega⟩
 ·rcases hk with rfl | rfl | rfl | ⟨l,hl,hk⟩
  ·exact g1
  ·exact g2
  ·exact g3
  ·have:=(h.own l k hl hk).1;omega
theorem NwI.cell{w wr w2:World}{p now bm bb i:Nat}{ws:List Nat}{Ds:Nat→Nat→Prop}(h:NwI w wr p now bm bb i ws Ds)(hi:i<8)(hp:zc wr w2):w2.cell? ⟨p,1+i,none⟩=some (.pointer none)∧(∀ j,w2.frozen? ⟨p,j,none⟩=false)∧p<w2.heap.size:=by
 have hb2:=hp.heap (fun h=>h) h.box;refine⟨?_,fun j=>yU w2 p j _ _ hb2,zm hb2⟩;rw[zi w2 p (1+i) _ _ (0,0) hb2,vI];unfold jC;have hl:=h.len;rw[show 1+i=i+1 from Nat.add_comm _ _,XT,us (by simp;omega),jh (by simp;omega),vX,zk (by simp;omega)]
theorem zhx(w:World){now:Nat}(hn:now<18446744073709551616):Calls prog 172 #[.int .u64 now] w fun e w' => ∃ p D,e=.returned (lkP p)∧yt w' D p now []∧zc w w' ∧ ∀ k,D k→w.heap.size≤k:=by
 have t0:=yM.new w;have a1:zc w (w.alloc (.map #[] 0)):=(Mod.refl _ w).alloc _;have a2:zc (w.alloc (.map #[] 0)) ((w.alloc (.map #[] 0)).alloc (.map #[] 0)):=(Mod.refl _ _).alloc _;have b0:=xI.new (w.alloc (.map #[] 0));have hs:(w.alloc (.map #[] 0)).heap.size=w.heap.size+1:=by simp
 have hs2:((w.alloc (.map #[] 0)).alloc (.map #[] 0)).heap.size=w.heap.size+2:=by simp
 have a3:zc ((w.alloc (.map #[] 0)).alloc (.map #[] 0)) (((w.alloc (.map #[] 0)).alloc (.map #[] 0)).alloc (.cells (jC now [] w.heap.size (w.heap.size+1)).toArray 300)):=(Mod.refl _ _).alloc _;have hI:NwI w (((w.alloc (.map #[] 0)).alloc (.map #[] 0)).alloc (.cells (jC now [] w.heap.size (w.heap.size+1)).toArray 300)) (w.heap.size+1+1) now w.heap.size (w.heap.size+1) 0 [] (fun _ _=>False) :=
  ⟨zj hs2.symm,rfl,(t0.mod a2 (fun h=>h)).mod a3 (fun h=>h),by have:=b0.mod a3 (fun h=>h);rw[hs]at this;exact this,(fun l q h=>by cases h),(fun l l' k h=>by omega),(fun l k h=>by omega),⟨by omega,by omega,by omega,by omega,by omega,by omega⟩,(a1.trans a2).trans a3⟩
 have HI:=za hI;have HN:=za hn;clear t0 a1 a2 b0 hs hs2 a3 hI;have hmm := @run_makeMap prog;unfold jC at HI;simp at HI;go_enter func172,ntmps172;go_upto_region 3 with fail
 generalize((w.alloc (.map #[] 0)).alloc (.map #[] 0)).alloc (.cells #[.int .u64 now,.pointer none,.pointer none,.pointer none,.pointer none,.pointer none,.pointer none,.pointer none,.pointer none,.map (some w.heap.size),.map (some (w.heap.size+1))] 300)=W at *;obtain⟨b,hb⟩:=zf w.heap.size;simp only[hb]at HI ⊢;go_loopw [10] (fun v10 wr => ∃(i:Nat) (ws:List Nat) (Ds:Nat→Nat→Prop),v10=.int .i64 (i:Nat)∧i≤8∧NwI w wr (b+1+1) now b (b+1) i ws Ds) (fun v10 _=>8-(intOf v10).toNat)
 case atStart=>exact⟨0,[],_,rfl,yi _,HI.out⟩
 case round =>
  obtain⟨i,ws,Ds,rfl,hi,hI⟩:=hrel;have HIr:=za hI;by_cases hlt:i<8
  ·have hlt':(i:Int)<8:=by omega
   have i0:(0:Int)≤(i:Int):=by omega
   have wi:IntKind.i64.wrap ((i:Int)+1)=(i:Int)+1:=zt _ (by omega);have dl8:decide (i<8)=true:=zP hlt;have hW:=zkJ;have HW:=za hW;have hbx:=hI.box;have hfz:=fun j=>yU wr (b+1+1) j _ _ hbx
   have hcl:=zm hbx;clear hI hW hbx;go_upto_region 5 with fail
   go_region_held3 (fun _=>True) (trivial)
    (first | (go_at_call 238;refine(HW.out _).mono ?_;rintro e w2 ⟨q,D2,rfl,hw2,hp2,hf2⟩;obtain⟨z1,z2,z3⟩:=HIr.out.cell hlt (w2:=w2) (by first | exact hp2 | exact Mod.of_drew hp2)))
   have hst:=HIr.out.step hlt hw2 (by first | exact hp2 | exact Mod.of_drew hp2) (by exact hf2);have HSt:=za hst;clear hw2 hp2 hf2 hst;go_wp2;go_roundw
   case rel=>exact⟨i+1,ws++[q],_,by go_num,hlt,HSt.out⟩
   case measure=>simp[intOf];omega
  ·have e:i=8:=by omega
   subst e;obtain⟨D,hD,hge⟩:=HIr.out.fin HN.out;have hp:=HIr.out.pure;clear hI;go_wp2;go_ret;exact⟨b+1+1,D,rfl,hD,hp,hge⟩
section
variable{P:Program}{k:TypeId}{R:Value→Option (DataW Unit × List MemPlace)}{w w':World}{b r n:Nat}{D:DataW Unit}{left:Lit→Bool}{cnt:Nat}{S:Nat→Prop}
theorem zlR(h:w.ranges P k R b r n D left cnt)(hm:Mod S w w')(hb : ¬ S b)(hr : ¬ S r):w'.ranges P k R b r n D left cnt:=by
 obtain⟨es,clock,since,seen,c0,h1,h2,h3,h4,h5,h6⟩:=h;exact⟨es,clock,since,seen,c0,hm.heap hb h1,h2,h3,h4,hm.heap hr h5,h6⟩
end
theorem zly{x:Int}{kl:Lit}(h:keyOf prog 143 (.int .u32 x)=some kl) : ∃ s:Nat,x=s∧kl=kS s∧s≤4294967295:=by
 obtain⟨y,e1,e2,e3⟩:=Maps.keyOf_int_inv underlying143 h;injection e1 with _ e1
 subst e1;have:0≤x∧x≤4294967295:=by simp[Lit.wf,IntKind.min,IntKind.max,IntKind.signed,IntKind.bits]at e3;omega
 refine⟨x.toNat,by omega,?_,by omega⟩;rw[e2];unfold kS;rw[show((x.toNat:Nat):Int)=x by omega]
theorem zls(a b:Nat):(kS a).sameKey (kS b)=decide (a=b):=by
 unfold kS;simp[Lit.sameKey];omega
section
variable{w w':World}{D:Nat→Prop}{p now tt:Nat}{ws:List Nat}{bm bb:Nat}{Ds:Nat→Nat→Prop}{Dm Db:DataW Unit}{M L:List Td}{Lss:List (List (List Nat))}
structure CpI(w wr:World)(L:List Td)(bm rb n:Nat)(Dm:DataW Unit)(left:Lit→Bool)(cnt:Nat)(p2 now:Nat)(D2:Nat→Prop)(M2:List Td):Prop where
 rg:wr.ranges prog 143 kF bm rb n Dm left cnt
 has : ∀ kl,left kl=true→Maps.has Dm kl=true
 mem : ∃ ws bm' bb' Ds Dm' Db' Lss,yu wr D2 p2 now ws bm' bb' Ds Dm' Db' M2 Lss∧ye now M2 (fun _=>False) Lss
 sub : ∀ x∈M2,x∈L
 todo : ∀ x∈L,left (kS x.slot)=true↔x∉M2
 fresh : ∀ k,D2 k→w.heap.size≤k
 rb2 : ¬ D2 rb
 pure:zc w wr
end
end
section
open Go.RowKit Go.Shelf
section
variable{w w':World}{D:Nat→Prop}{p now q bb bs:Nat}{Dc:Nat→Prop}{Db Ds:DataW Unit}{M L:List Td}
theorem yT.off0(h:yT w D p now q bb bs Dc Db Ds M L){k:Nat}(hk:k≥w.heap.size) : ¬ D k:=fun e=>by have:=h.lt e;omega
theorem yT.cascade(h:yT w D p now q bb bs Dc Db Ds M L){Dc':Nat→Prop}{now':Nat}{L':List Td}(hc:yt w' Dc' q now' L')(hg:yo Dc Dc' w)(hm:Mod Dc w w') :
  ∃ D',yT w' D' p now' q bb bs Dc' Db Ds M L'∧yo D D' w:=by
 have n1 : ¬ Dc' p:=fun e=>by rcases hg p e with e | e;exact h.np e;have:=h.lt ((h.dd p).2 (.inl rfl));omega
 have n2 : ¬ Dc' bb:=fun e=>by rcases hg bb e with e | e;exact h.nbb e;have:=h.lt ((h.dd bb).2 (.inr (.inl rfl)));omega
 have n3 : ¬ Dc' bs:=fun e=>by rcases hg bs e with e | e;exact h.nbs e;have:=h.lt ((h.dd bs).2 (.inr (.inr (.inl rfl))));omega
 refine⟨fun k=>k=p∨k=bb∨k=bs∨Dc' k,⟨hm.heap h.np h.box,hc,h.births.mod hm h.nbb,h.slots.mod hm h.nbs,n1,n2,n3,h.ne,fun k=>vP⟩,fun k hk => ?_⟩;rcases hk with rfl | rfl | rfl | e
 ·exact .inl ((h.dd k).2 (.inl rfl))
 ·exact .inl ((h.dd k).2 (.inr (.inl rfl)))
 ·exact .inl ((h.dd k).2 (.inr (.inr (.inl rfl))))
 ·rcases hg k e with e | e
  ·exact .inl ((h.dd k).2 (.inr (.inr (.inr e))))
  ·exact .inr e
end
section
variable{w w':World}{D:Nat→Prop}{p now q bb bs:Nat}{Dc:Nat→Prop}{Db Ds:DataW Unit}{M L:List Td}
theorem zbG(h:yT w D p now q bb bs Dc Db Ds M L){x:Td}{M':List Td}(hx:x∈M)(hs:x.slot≤4294967295)(hb:x.birth≤18446744073709551615)(hM : ∀ y,y∈M'↔y∈M∧y.slot≠x.slot)(hM2 : ∀ y,y∈M'↔y∈M∧y.birth≠x.birth)(hl:M'.length+1=M.length) :
  Calls prog 191 #[lkP p,tdV x] w fun e w'=>e=.returned (.tuple #[])∧(∃ D' Dc' Db' Ds',yT w' D' p now q bb bs Dc' Db' Ds' M' (vz L x.slot)∧yo D D' w)∧Mod D w w':=by
 have hal:zc w (w.alloc (.cells #[.int .u32 x.slot,.int .u64 x.dl,.int .u64 x.birth] 236)):=(Mod.refl _ w).alloc _;have h3:=zj (w:=w) (o := .cells #[.int .u32 x.slot,.int .u64 x.dl,.int .u64 x.birth] 236 (0,0)) rfl;have hD3 : ¬ D w.heap.size:=h.off0 (zI _);have HC:=za (h.pure hal);have HCn:=za (((h.pure hal).pure ((Mod.refl _ _).drew:zc _ (w.alloc (.cells #[.int .u32 x.slot,.int .u64 x.dl,.int .u64 x.birth] 236)).drew)).cas.cancel hs);have HX:=za hx;have HM:=za hM;have HM2:=za hM2;have HAL:=za hal;have HDD:=za h.dd;have hsz:w.heap.size≤(w.alloc (.cells #[.int .u32 x.slot,.int .u64 x.dl,.int .u64 x.birth] 236)).heap.size:=hal.size;obtain⟨ne1,ne2,ne3⟩:=h.ne;clear h hx hM hM2 hal;unfold tdV;go_enter func191,ntmps191;go_upto_region 1 with fail
 generalize w.alloc (.cells #[.int .u32 x.slot,.int .u64 x.dl,.int .u64 x.birth] 236)=W1 at *;obtain⟨b3,hb3⟩:=zf w.heap.size;rw[hb3]at h3 hD3 ⊢;clear hb3;obtain⟨c0,c1,c2⟩:=HC.out.cells;have H3:=za h3;obtain⟨h3_0,h3_1,h3_2,h3_f,h3_l,H_h3⟩:=cr3 h3;clear h3
 go_still_tail 6,(by kernel_rfl)
 go_upto_region 2 with(go_at_call 252;refine HCn.out.mono ?_;rintro e w2 ⟨rfl,⟨Dc2,hc2,hg2⟩,hm2⟩)
 have hm2':Mod Dc W1 w2:=Mod.of_drew hm2;have hg2':yo Dc Dc2 W1:=hg2;obtain⟨D2,hD2,hgD⟩:=HC.out.cascade hc2 hg2' hm2';have n3:b3≠p∧b3≠bb∧b3≠bs ∧ ¬ Dc b3:=⟨fun e=>hD3 ((HDD.out b3).2 (.inl e)),fun e=>hD3 ((HDD.out b3).2 (.inr (.inl e))),fun e=>hD3 ((HDD.out b3).2 (.inr (.inr (.inl e)))),fun e=>hD3 ((HDD.out b3).2 (.inr (.inr (.inr e))))⟩;have h32:=hm2'.heap n3.2.2.2 H3.out;have HD2:=za hD2;have HGD:=za hgD;have HM2':=za (hm2'.mono (fun k _ hk=>(HDD.out k).2 (.inr (.inr (.inr hk)))):Mod D W1 w2);have H32:=za h32;clear h3_0 h3_1 h3_2 h3_f h3_l;clear H_h3 hm2 hm2' hg2 hg2' hD2 hgD hc2 HCn c0 c1 c2;obtain⟨c0,c1,c2⟩:=HD2.out.cells;obtain⟨h32_0,h32_1,h32_2,h32_f,h32_l,H_h32⟩:=cr3 h32;clear h32
 go_still_tail 6,(by kernel_rfl)
 go_upto_region 3 with(at_delete;refine Yo _ rfl _ _ 229 27 rfl 143 kP underlying229 Zg bb M.length Db rfl HD2.out.births.own.drew (.int .u64 x.birth) (kB x.birth) rfl (qF hb) ?_;intro w3 ho3 ht3;go_frame)
 have hm3:Mod (fun k=>k=bb) w2 w3:=Mod.of_drew (Mod.of_grown ht3.grown (fun k e _=>by cases e;rfl));have hN3:=HD2.out.births.del HX.out HM2.out hl ho3;have hbx3:=hm3.heap (fun e=>ne1 e) HD2.out.box;have hT3:=HD2.out.slots.mod hm3 (fun e=>ne3 e.symm);have hc3:=HD2.out.cas.frame hm3 (fun k hk e=>HD2.out.nbb (e ▸ hk));have h33:=hm3.heap n3.2.1 H32.out;have HM3:=za hm3;have HN3:=za hN3;have HBX3:=za hbx3;have HT3:=za hT3;have HC3:=za hc3;have H33:=za h33;clear h32_0 h32_1 h32_2 h32_f h32_l;clear H_h32 c0 c1 c2 ho3 ht3 hm3 hN3 hT3 hc3;have c0:w3.cell? ⟨p,0,none⟩=some (lkP q):=by rw[zi _ _ 0 _ _ _ hbx3];rfl
 have c2:w3.cell? ⟨p,2,none⟩=some (.map (some bs)):=by rw[zi _ _ 2 _ _ _ hbx3];rfl
 clear hbx3;obtain⟨h33_0,h33_1,h33_2,h33_f,h33_l,H_h33⟩:=cr3 h33;clear h33
 go_still_tail 6,(by kernel_rfl)
 go_wp2_with (at_delete;refine Yo _ rfl _ _ 230 143 rfl 236 x9 underlying230 kF bs M.length Ds rfl HT3.out.own.drew (.int .u32 x.slot) (kS x.slot) rfl (uH hs) ?_;intro w4 ho4 ht4;go_frame)
 have hm4:Mod (fun k=>k=bs) w3 w4:=Mod.of_drew (Mod.of_grown ht4.grown (fun k e _=>by cases e;rfl));have hT4:=HT3.out.del HX.out HM.out hl ho4;have hfin:yT w4 D2 p now q bb bs Dc2 (Db.del (kB x.birth)) (Ds.del (kS x.slot)) M' (vz L x.slot):=⟨hm4.heap (fun e=>ne2 e) HBX3.out,HC3.out.frame hm4 (fun k hk e=>HD2.out.nbs (e ▸ hk)),HN3.out.mod hm4 (fun e=>ne3 e),hT4,HD2.out.np,HD2.out.nbb,HD2.out.nbs,HD2.out.ne,HD2.out.dd⟩;have hmo:Mod D w w4:=((HAL.out.mono (fun _ _ h=>h.elim):Mod D w W1).trans HM2'.out).trans ((HM3.out.mono (fun k _ hk=>by rw[hk];exact(HDD.out bb).2 (.inr (.inl rfl))):Mod D w2 w3).trans (hm4.mono (fun k _ hk=>by rw[hk];exact(HDD.out bs).2 (.inr (.inr (.inl rfl))))))
 go_end0
 exact⟨rfl,⟨_,_,_,_,hfin,fun k hk=>by
  rcases HGD.out k hk with e | e
  ·exact .inl e
  ·exact .inr (zH HAL.out.size e)⟩,hmo⟩
end
section
variable{w w':World}{D:Nat→Prop}{p now q bb bs:Nat}{Dc:Nat→Prop}{Db Ds:DataW Unit}{M L:List Td}
theorem zg5(h:yT w D p now q bb bs Dc Db Ds M L){x:Td}(hs:x.slot<4194304)(hd:x.dl=18446744073709551615)(hb:x.birth≤18446744073709551615)(h1 : ∀ y∈M,y.slot≠x.slot)(h2 : ∀ y∈M,y.birth≠x.birth)(hMl:M.length<maxLen) :
  Calls prog 192 #[lkP p,tdV x] w fun e w'=>e=.returned (.tuple #[])∧(∃ Db' Ds',yT w' D p now q bb bs Dc Db' Ds' (x::M) L)∧Mod D w w':=by
 have hal:zc w (w.alloc (.cells #[.int .u32 x.slot,.int .u64 x.dl,.int .u64 x.birth] 236)):=(Mod.refl _ w).alloc _;have h3:=zj (w:=w) (o := .cells #[.int .u32 x.slot,.int .u64 x.dl,.int .u64 x.birth] 236 (0,0)) rfl;have hD3 : ¬ D w.heap.size:=fun e=>by have:=h.lt e;omega
 have HC:=za (h.pure hal);have H1:=za h1;have H2:=za h2;have HAL:=za hal;have HDD:=za h.dd;have e0:((x.dl:Int)==18446744073709551615)=true:=by simp;omega
 clear hd;obtain⟨ne1,ne2,ne3⟩:=h.ne;clear h h1 h2 hal;unfold tdV;go_enter func192,ntmps192;go_upto_region 1 with fail
 generalize w.alloc (.cells #[.int .u32 x.slot,.int .u64 x.dl,.int .u64 x.birth] 236)=W1 at *;obtain⟨b3,hb3⟩:=zf w.heap.size;rw[hb3]at h3 hD3 ⊢;clear hb3;obtain⟨c0,c1,c2⟩:=HC.out.cells;have H3:=za h3;obtain⟨h3_0,h3_1,h3_2,h3_f,h3_l,H_h3⟩:=cr3 h3;clear h3;go_upto_region 3 with fail
 refine jE (S:=fun u=>(u.cell? ⟨p,1,none⟩=some (.map (some bb))∧u.cell? ⟨p,2,none⟩=some (.map (some bs)))∧u.cell? ⟨b3,0,none⟩=some (.int .u32 x.slot)∧u.cell? ⟨b3,1,none⟩=some (.int .u64 x.dl)∧u.cell? ⟨b3,2,none⟩=some (.int .u64 x.birth)) (by kernel_rfl) ⟨⟨c1,c2⟩,h3_0,h3_1,h3_2⟩ (fun h_ => ?_);refine hTk 0 ?_;refine hTk 1 ?_;refine hTk 2 ?_
 ((refine kJ (i:=3) (v := ?_) rfl (by kernel_rfl) (by kernel_rfl) (by kernel_rfl) (fun _ _ _ h=>h) (Or.inl ⟨by rfl,?_⟩) h_ ?_;rotate_left 1;focus(intro w hS;obtain⟨⟨s1,s2⟩,s3,s4,s5⟩:=hS;go_simp;try with_reducible rfl));try simp only[Act.put,List.getElem_toArray,List.getElem_cons_zero,List.getElem_cons_succ,List.setIfInBounds_toArray,List.set_cons_zero,List.set_cons_succ])
 refine hTk 4 ?_
 ((refine kJ (i:=5) (v := ?_) rfl (by kernel_rfl) (by kernel_rfl) (by kernel_rfl) (fun _ _ _ h=>h) (Or.inl ⟨by rfl,?_⟩) h_ ?_;rotate_left 1;focus(intro w hS;obtain⟨⟨s1,s2⟩,s3,s4,s5⟩:=hS;go_simp;try with_reducible rfl));try simp only[Act.put,List.getElem_toArray,List.getElem_cons_zero,List.getElem_cons_succ,List.setIfInBounds_toArray,List.set_cons_zero,List.set_cons_succ])
 refine hTk 6 ?_;refine hTk 7 ?_;refine hTk 8 ?_
 ((refine kJ (i:=9) (v := ?_) rfl (by kernel_rfl) (by kernel_rfl) (by kernel_rfl) (fun _ _ _ h=>h) (Or.inl ⟨by rfl,?_⟩) h_ ?_;rotate_left 1;focus(intro w hS;obtain⟨⟨s1,s2⟩,s3,s4,s5⟩:=hS;go_simp;try with_reducible rfl));try simp only[Act.put,List.getElem_toArray,List.getElem_cons_zero,List.getElem_cons_succ,List.setIfInBounds_toArray,List.set_cons_zero,List.set_cons_succ])
 refine hTk 10 ?_
 ((refine kJ (i:=11) (v := ?_) rfl (by kernel_rfl) (by kernel_rfl) (by kernel_rfl) (fun _ _ _ h=>h) (Or.inl ⟨by rfl,?_⟩) h_ ?_;rotate_left 1;focus(intro w hS;obtain⟨⟨s1,s2⟩,s3,s4,s5⟩:=hS;go_simp;try with_reducible rfl));try simp only[Act.put,List.getElem_toArray,List.getElem_cons_zero,List.getElem_cons_succ,List.setIfInBounds_toArray,List.set_cons_zero,List.set_cons_succ])
 refine hTk 12 ?_
 ((refine kJ (i:=13) (v := ?_) rfl (by kernel_rfl) (by kernel_rfl) (by kernel_rfl) (fun _ _ _ h=>h) (Or.inl ⟨by rfl,?_⟩) h_ ?_;rotate_left 1;focus(intro w hS;obtain⟨⟨s1,s2⟩,s3,s4,s5⟩:=hS;go_simp;try with_reducible rfl));try simp only[Act.put,List.getElem_toArray,List.getElem_cons_zero,List.getElem_cons_succ,List.setIfInBounds_toArray,List.set_cons_zero,List.set_cons_succ])
 ((refine kJ (i:=14) (v := ?_) rfl (by kernel_rfl) (by kernel_rfl) (by kernel_rfl) (fun _ _ _ h=>h) (Or.inl ⟨by rfl,?_⟩) h_ ?_;rotate_left 1;focus(intro w hS;obtain⟨⟨s1,s2⟩,s3,s4,s5⟩:=hS;go_simp;try with_reducible rfl));try simp only[Act.put,List.getElem_toArray,List.getElem_cons_zero,List.getElem_cons_succ,List.setIfInBounds_toArray,List.set_cons_zero,List.set_cons_succ])
 obtain⟨v0,st,Wa,o1,hE,hA,hgA,hS⟩:=VY HC.out.births.own.drew kP underlying229 Uu hMl (qF hb);have hmA:Mod (fun k=>k=bb) W1 Wa:=Mod.of_drew (Mod.of_grown hgA (fun k e _=>by cases e;rfl));obtain⟨Wb,hEb,hownB,hgB⟩:=hS Wa (.int .u32 x.slot) _ _ hA (VQ _);have hmB:Mod (fun k=>k=bb) W1 Wb:=hmA.trans (Mod.of_grown hgB (fun k e _=>by cases e;rfl));have hN:=HC.out.births.put H2.out hownB;have hT:=HC.out.slots.mod hmB (fun e=>ne3 e.symm);obtain⟨v1,st2,Wc,o2,hEc,hC2,hgC,hS2⟩:=VY hT.own x9 underlying230 Xx hMl (uH (by omega:x.slot≤4294967295));have hmC:Mod (fun k=>k=bb∨k=bs) W1 Wc:=(hmB.mono (fun _ _ h => .inl h)).trans (Mod.of_grown hgC (fun k e _=>by cases e;exact .inr rfl));obtain⟨Wd,hEd,hownD,hgD⟩:=hS2 Wc (tdV x) _ _ hC2 (YS x);unfold tdV at hEd;have hmD:Mod (fun k=>k=bb∨k=bs) W1 Wd:=hmC.trans (Mod.of_grown hgD (fun k e _=>by cases e;exact .inr rfl));have hmBD:Mod (fun k=>k=bs) Wb Wd:=(Mod.of_grown hgC (fun k e _=>by cases e;rfl)).trans (Mod.of_grown hgD (fun k e _=>by cases e;rfl));have n3:b3≠bb∧b3≠bs:=⟨fun e=>hD3 ((HDD.out b3).2 (.inr (.inl e))),fun e=>hD3 ((HDD.out b3).2 (.inr (.inr (.inl e))))⟩;have hK : ∀ u,Mod (fun k=>k=bb∨k=bs) W1 u→(u.cell? ⟨p,1,none⟩=some (.map (some bb))∧u.cell? ⟨p,2,none⟩=some (.map (some bs)))∧u.cell? ⟨b3,0,none⟩=some (.int .u32 x.slot)∧u.cell? ⟨b3,1,none⟩=some (.int .u64 x.dl)∧u.cell? ⟨b3,2,none⟩=some (.int .u64 x.birth):=fun u hu =>
  ⟨⟨hu.cell (a:=⟨p,1,none⟩) (fun e=>by rcases e with e | e;exact ne1 e;exact ne2 e) c1,hu.cell (a:=⟨p,2,none⟩) (fun e=>by rcases e with e | e;exact ne1 e;exact ne2 e) c2⟩,hu.cell (a:=⟨b3,0,none⟩) (fun e=>by rcases e with e | e;exact n3.1 e;exact n3.2 e) h3_0,hu.cell (a:=⟨b3,1,none⟩) (fun e=>by rcases e with e | e;exact n3.1 e;exact n3.2 e) h3_1,hu.cell (a:=⟨b3,2,none⟩) (fun e=>by rcases e with e | e;exact n3.1 e;exact n3.2 e) h3_2⟩
 have gA:=hK Wa (hmA.mono (fun _ _ h => .inl h));have gB:=hK Wb (hmB.mono (fun _ _ h => .inl h));have gC:=hK Wc hmC;have gD:=hK Wd hmD;have hT4:=hT.put H1.out hownD;have hfin:yT Wd D p now q bb bs Dc (Db.put (kB x.birth) (nD x)) (Ds.put (kS x.slot) (tdD x)) (x::M) L:=⟨hmD.heap (fun e=>by rcases e with e | e;exact ne1 e;exact ne2 e) HC.out.box,HC.out.cas.frame hmD (fun k hk e=>by rcases e with e | e;exact HC.out.nbb (e ▸ hk);exact HC.out.nbs (e ▸ hk)),hN.mod hmBD (fun e=>ne3 e),hT4,HC.out.np,HC.out.nbb,HC.out.nbs,HC.out.ne,HC.out.dd⟩;have hmo:Mod D W1 Wd:=hmD.mono (fun k _ hk=>by rcases hk with e | e;exact(HDD.out k).2 (.inr (.inl e));exact(HDD.out k).2 (.inr (.inr (.inl e))));have HF:=za hfin;have HMO:=za hmo;clear hfin hmo hT4 hK hmD hmBD hmC hmB hmA hT hN hownB hownD hgA hgB hgC hgD hS hS2 hA hC2
 (refine hSt 15 (fun K hK => ?_);go_simp;refine hK.out _ _ ?_ (fun h_ => ?_);(· exact gA);clear hK K;refine clA ?_)
 refine hTk 16 ?_
 (refine hSt 17 (fun K hK => ?_);go_simp;refine hK.out _ _ ?_ (fun h_ => ?_);(· exact gB);clear hK K;refine clA ?_)
 (refine hSt 18 (fun K hK => ?_);go_simp;refine hK.out _ _ ?_ (fun h_ => ?_);(· exact gC);clear hK K;refine clA ?_)
 refine hTk 19 ?_
 (refine hSt 20 (fun K hK => ?_);go_simp;refine hK.out _ _ ?_ (fun h_ => ?_);(· exact gD);clear hK K;refine clA ?_)
 refine hDn ?_;clear h_
 go_end0
 exact⟨rfl,⟨_,_,HF.out⟩,(HAL.out.mono (fun _ _ h=>h.elim):Mod D w W1).trans HMO.out⟩
theorem ze8(h:yT w D p now q bb bs Dc Db Ds M L){x:Td}(hs:x.slot<4194304)(hd:x.dl<18446744073709551615)(hb:x.birth≤18446744073709551615)(h1 : ∀ y∈M,y.slot≠x.slot)(h2 : ∀ y∈M,y.birth≠x.birth)(hMl:M.length<maxLen)(hLl:L.length<maxLen) :
  Calls prog 192 #[lkP p,tdV x] w fun e w'=>e=.returned (.tuple #[])∧(∃ D' Dc' Db' Ds',yT w' D' p now q bb bs Dc' Db' Ds' (x::M) (Yk now L x)∧yo D D' w)∧Mod D w w':=by
 have hal:zc w (w.alloc (.cells #[.int .u32 x.slot,.int .u64 x.dl,.int .u64 x.birth] 236)):=(Mod.refl _ w).alloc _;have h3:=zj (w:=w) (o := .cells #[.int .u32 x.slot,.int .u64 x.dl,.int .u64 x.birth] 236 (0,0)) rfl;have hD3 : ¬ D w.heap.size:=fun e=>by have:=h.lt e;omega
 have HC:=za (h.pure hal);have H1:=za h1;have H2:=za h2;have HAL:=za hal;have HDD:=za h.dd;have e0:((x.dl:Int)==18446744073709551615)=false:=by simp;omega
 have hsc:=((h.pure hal).pure ((Mod.refl _ _).drew:zc _ (w.alloc (.cells #[.int .u32 x.slot,.int .u64 x.dl,.int .u64 x.birth] 236)).drew)).cas.sched (x:=x) (by omega) (by omega) hb hLl;unfold tdV at hsc;have HSc:=za hsc;clear hd hsc;obtain⟨ne1,ne2,ne3⟩:=h.ne;clear h h1 h2 hal;unfold tdV;go_enter func192,ntmps192;go_upto_region 1 with fail
 generalize w.alloc (.cells #[.int .u32 x.slot,.int .u64 x.dl,.int .u64 x.birth] 236)=W1 at *;obtain⟨b3,hb3⟩:=zf w.heap.size;rw[hb3]at h3 hD3 ⊢;clear hb3;obtain⟨c0,c1,c2⟩:=HC.out.cells;have H3:=za h3;obtain⟨h3_0,h3_1,h3_2,h3_f,h3_l,H_h3⟩:=cr3 h3;clear h3;go_upto_region 2 with fail
 go_still_tail 5,(by kernel_rfl)
 go_upto_region 3 with(go_at_call 253;refine HSc.out.mono ?_;rintro e w2 ⟨rfl,⟨Dc2,hc2,hg2⟩,hm2⟩)
 have hm2':Mod Dc W1 w2:=Mod.of_drew hm2;have hg2':yo Dc Dc2 W1:=hg2;obtain⟨D2,hD2,hgD⟩:=HC.out.cascade hc2 hg2' hm2';have nb3 : ¬ Dc b3:=fun e=>hD3 ((HDD.out b3).2 (.inr (.inr (.inr e))))
 have h32:=hm2'.heap nb3 H3.out;have HD2:=za hD2;have HGD:=za hgD;have HM2':=za (hm2'.mono (fun k _ hk=>(HDD.out k).2 (.inr (.inr (.inr hk)))):Mod D W1 w2);clear h3_0 h3_1 h3_2 h3_f h3_l;clear H_h3 hm2 hm2' hg2 hg2' hD2 hgD hc2 HSc c0 c1 c2;obtain⟨c0,c1,c2⟩:=HD2.out.cells;obtain⟨h32_0,h32_1,h32_2,h32_f,h32_l,H_h32⟩:=cr3 h32;clear h32;refine jE (S:=fun u=>(u.cell? ⟨p,1,none⟩=some (.map (some bb))∧u.cell? ⟨p,2,none⟩=some (.map (some bs)))∧u.cell? ⟨b3,0,none⟩=some (.int .u32 x.slot)∧u.cell? ⟨b3,1,none⟩=some (.int .u64 x.dl)∧u.cell? ⟨b3,2,none⟩=some (.int .u64 x.birth)) (by kernel_rfl) ⟨⟨c1,c2⟩,h32_0,h32_1,h32_2⟩ (fun h_ => ?_);refine hTk 0 ?_;refine hTk 1 ?_;refine hTk 2 ?_
 ((refine kJ (i:=3) (v := ?_) rfl (by kernel_rfl) (by kernel_rfl) (by kernel_rfl) (fun _ _ _ h=>h) (Or.inl ⟨by rfl,?_⟩) h_ ?_;rotate_left 1;focus(intro w hS;obtain⟨⟨s1,s2⟩,s3,s4,s5⟩:=hS;go_simp;try with_reducible rfl));try simp only[Act.put,List.getElem_toArray,List.getElem_cons_zero,List.getElem_cons_succ,List.setIfInBounds_toArray,List.set_cons_zero,List.set_cons_succ])
 refine hTk 4 ?_
 ((refine kJ (i:=5) (v := ?_) rfl (by kernel_rfl) (by kernel_rfl) (by kernel_rfl) (fun _ _ _ h=>h) (Or.inl ⟨by rfl,?_⟩) h_ ?_;rotate_left 1;focus(intro w hS;obtain⟨⟨s1,s2⟩,s3,s4,s5⟩:=hS;go_simp;try with_reducible rfl));try simp only[Act.put,List.getElem_toArray,List.getElem_cons_zero,List.getElem_cons_succ,List.setIfInBounds_toArray,List.set_cons_zero,List.set_cons_succ])
 refine hTk 6 ?_;refine hTk 7 ?_;refine hTk 8 ?_
 ((refine kJ (i:=9) (v := ?_) rfl (by kernel_rfl) (by kernel_rfl) (by kernel_rfl) (fun _ _ _ h=>h) (Or.inl ⟨by rfl,?_⟩) h_ ?_;rotate_left 1;focus(intro w hS;obtain⟨⟨s1,s2⟩,s3,s4,s5⟩:=hS;go_simp;try with_reducible rfl));try simp only[Act.put,List.getElem_toArray,List.getElem_cons_zero,List.getElem_cons_succ,List.setIfInBounds_toArray,List.set_cons_zero,List.set_cons_succ])
 refine hTk 10 ?_
 ((refine kJ (i:=11) (v := ?_) rfl (by kernel_rfl) (by kernel_rfl) (by kernel_rfl) (fun _ _ _ h=>h) (Or.inl ⟨by rfl,?_⟩) h_ ?_;rotate_left 1;focus(intro w hS;obtain⟨⟨s1,s2⟩,s3,s4,s5⟩:=hS;go_simp;try with_reducible rfl));try simp only[Act.put,List.getElem_toArray,List.getElem_cons_zero,List.getElem_cons_succ,List.setIfInBounds_toArray,List.set_cons_zero,List.set_cons_succ])
 refine hTk 12 ?_
 ((refine kJ (i:=13) (v := ?_) rfl (by kernel_rfl) (by kernel_rfl) (by kernel_rfl) (fun _ _ _ h=>h) (Or.inl ⟨by rfl,?_⟩) h_ ?_;rotate_left 1;focus(intro w hS;obtain⟨⟨s1,s2⟩,s3,s4,s5⟩:=hS;go_simp;try with_reducible rfl));try simp only[Act.put,List.getElem_toArray,List.getElem_cons_zero,List.getElem_cons_succ,List.setIfInBounds_toArray,List.set_cons_zero,List.set_cons_succ])
 ((refine kJ (i:=14) (v := ?_) rfl (by kernel_rfl) (by kernel_rfl) (by kernel_rfl) (fun _ _ _ h=>h) (Or.inl ⟨by rfl,?_⟩) h_ ?_;rotate_left 1;focus(intro w hS;obtain⟨⟨s1,s2⟩,s3,s4,s5⟩:=hS;go_simp;try with_reducible rfl));try simp only[Act.put,List.getElem_toArray,List.getElem_cons_zero,List.getElem_cons_succ,List.setIfInBounds_toArray,List.set_cons_zero,List.set_cons_succ])
 obtain⟨v0,st,Wa,o1,hE,hA,hgA,hS⟩:=VY HD2.out.births.own.drew kP underlying229 Uu hMl (qF hb);have hmA:Mod (fun k=>k=bb) w2 Wa:=Mod.of_drew (Mod.of_grown hgA (fun k e _=>by cases e;rfl));obtain⟨Wb,hEb,hownB,hgB⟩:=hS Wa (.int .u32 x.slot) _ _ hA (VQ _);have hmB:Mod (fun k=>k=bb) w2 Wb:=hmA.trans (Mod.of_grown hgB (fun k e _=>by cases e;rfl));have hN:=HD2.out.births.put H2.out hownB;have hT:=HD2.out.slots.mod hmB (fun e=>ne3 e.symm);obtain⟨v1,st2,Wc,o2,hEc,hC2,hgC,hS2⟩:=VY hT.own x9 underlying230 Xx hMl (uH (by omega:x.slot≤4294967295));have hmC:Mod (fun k=>k=bb∨k=bs) w2 Wc:=(hmB.mono (fun _ _ h => .inl h)).trans (Mod.of_grown hgC (fun k e _=>by cases e;exact .inr rfl));obtain⟨Wd,hEd,hownD,hgD⟩:=hS2 Wc (tdV x) _ _ hC2 (YS x);unfold tdV at hEd;have hmD:Mod (fun k=>k=bb∨k=bs) w2 Wd:=hmC.trans (Mod.of_grown hgD (fun k e _=>by cases e;exact .inr rfl));have hmBD:Mod (fun k=>k=bs) Wb Wd:=(Mod.of_grown hgC (fun k e _=>by cases e;rfl)).trans (Mod.of_grown hgD (fun k e _=>by cases e;rfl));have n3:b3≠bb∧b3≠bs:=⟨fun e=>hD3 ((HDD.out b3).2 (.inr (.inl e))),fun e=>hD3 ((HDD.out b3).2 (.inr (.inr (.inl e))))⟩;have hK : ∀ u,Mod (fun k=>k=bb∨k=bs) w2 u→(u.cell? ⟨p,1,none⟩=some (.map (some bb))∧u.cell? ⟨p,2,none⟩=some (.map (some bs)))∧u.cell? ⟨b3,0,none⟩=some (.int .u32 x.slot)∧u.cell? ⟨b3,1,none⟩=some (.int .u64 x.dl)∧u.cell? ⟨b3,2,none⟩=some (.int .u64 x.birth):=fun u hu =>
  ⟨⟨hu.cell (a:=⟨p,1,none⟩) (fun e=>by rcases e with e | e;exact ne1 e;exact ne2 e) c1,hu.cell (a:=⟨p,2,none⟩) (fun e=>by rcases e with e | e;exact ne1 e;exact ne2 e) c2⟩,hu.cell (a:=⟨b3,0,none⟩) (fun e=>by rcases e with e | e;exact n3.1 e;exact n3.2 e) h32_0,hu.cell (a:=⟨b3,1,none⟩) (fun e=>by rcases e with e | e;exact n3.1 e;exact n3.2 e) h32_1,hu.cell (a:=⟨b3,2,none⟩) (fun e=>by rcases e with e | e;exact n3.1 e;exact n3.2 e) h32_2⟩
 have gA:=hK Wa (hmA.mono (fun _ _ h => .inl h));have gB:=hK Wb (hmB.mono (fun _ _ h => .inl h));have gC:=hK Wc hmC;have gD:=hK Wd hmD;have hT4:=hT.put H1.out hownD;have hfin:yT Wd D2 p now q bb bs Dc2 (Db.put (kB x.birth) (nD x)) (Ds.put (kS x.slot) (tdD x)) (x::M) (Yk now L x):=⟨hmD.heap (fun e=>by rcases e with e | e;exact ne1 e;exact ne2 e) HD2.out.box,HD2.out.cas.frame hmD (fun k hk e=>by rcases e with e | e;exact HD2.out.nbb (e ▸ hk);exact HD2.out.nbs (e ▸ hk)),hN.mod hmBD (fun e=>ne3 e),hT4,HD2.out.np,HD2.out.nbb,HD2.out.nbs,HD2.out.ne,HD2.out.dd⟩;have hmo:Mod D w2 Wd:=hmD.mono (fun k _ hk=>by rcases hk with e | e;exact(HDD.out k).2 (.inr (.inl e));exact(HDD.out k).2 (.inr (.inr (.inl e))));have HF:=za hfin;have HMO:=za hmo;clear hfin hmo hT4 hK hmD hmBD hmC hmB hmA hT hN hownB hownD hgA hgB hgC hgD hS hS2 hA hC2
 (refine hSt 15 (fun K hK => ?_);go_simp;refine hK.out _ _ ?_ (fun h_ => ?_);(· exact gA);clear hK K;refine clA ?_)
 refine hTk 16 ?_
 (refine hSt 17 (fun K hK => ?_);go_simp;refine hK.out _ _ ?_ (fun h_ => ?_);(· exact gB);clear hK K;refine clA ?_)
 (refine hSt 18 (fun K hK => ?_);go_simp;refine hK.out _ _ ?_ (fun h_ => ?_);(· exact gC);clear hK K;refine clA ?_)
 refine hTk 19 ?_
 (refine hSt 20 (fun K hK => ?_);go_simp;refine hK.out _ _ ?_ (fun h_ => ?_);(· exact gD);clear hK K;refine clA ?_)
 refine hDn ?_;clear h_
 go_end0
 exact⟨rfl,⟨_,_,_,_,HF.out,fun k hk=>by
  rcases HGD.out k hk with e | e
  ·exact .inl e
  ·exact .inr (zH HAL.out.size e)⟩,((HAL.out.mono (fun _ _ h=>h.elim):Mod D w W1).trans HM2'.out).trans HMO.out⟩
end
end
end Go.Proofs.YtdohbogbnheakaaGreatDoor
