/- Lemmas and contracts of functions. No condition. -/
import Derived.Test.YtdohbogbnheakaaGreatDoorJPfBoth4011
namespace Go.Proofs.YtdohbogbnheakaaGreatDoor
open _root_.Go.Proofs.Tryz
set_option maxRecDepth 100000
set_option maxHeartbeats 20000000
set_option linter.all false
section
open Go.RowKit
theorem zak : ∀(L:List Wt) (i:Nat) (x:Wt),i<L.length→((L.flatMap wtC).set (i*2) (.int .u32 x.slot)).set (i*2+1) (.int .i64 x.cost)=(L.set i x).flatMap wtC
 | [],i,x,h=>by simp at h
 | y::L,0,x,_=>by simp[wtC]
 | y::L,i+1,x,h=>by
  have ih:=zak L i x (by simpa using h);have e1:(i+1)*2=(i*2+1)+1:=by omega
  rw[qJ,ZF,qJ,← ih];simp only[wtC,List.cons_append,List.nil_append];rw[e1,ZF,ZF,ZF,ZF]
theorem zbr : ∀(L:List Wt) (m:Nat),(L.flatMap wtC).take (m*2)=(L.take m).flatMap wtC
 | [],m=>by simp
 | y::L,0=>by simp
 | y::L,m+1=>by
  have ih:=zbr L m;rw[qJ,YB,qJ,← ih];simp only[wtC,List.cons_append,List.nil_append];rw[show(m+1)*2=(m*2+1)+1 by omega,YB,YB]
section
variable{w w':World}{bc keep:Nat}{cv:Value}
theorem zcU(w:World):(zeroValue 313).run prog w=.ok (.agg #[.int .u32 0,.int .i64 0]) w:=by
 obtain⟨i0,hi,iz0,iz1,iz2⟩:=xG XG;simp[zeroValue,typeInfo,hi,iz0]
theorem zf2{g n c m:Nat}{L:List Wt}(h:w.ownsRow 0 313 2 (.slice (some ⟨g,0,none⟩) n c) n (L.flatMap wtC))(hm:m<n)(ty:TypeId) :
  ∃ w',(Builtin.clear_ #[240] ty #[.slice (some ⟨g,m*2,none⟩) (n-m) (c-m)]).run prog w=.ok (.tuple #[]) w'∧w'.ownsRow 0 313 2 (.slice (some ⟨g,0,none⟩) m c) m ((L.take m).flatMap wtC)∧Mod (fun k=>k=g) w w':=by
 obtain⟨hl,hv⟩:=h;rcases hv with⟨hv,_⟩ | ⟨g',cap,cur,hv,hb,hg,hnc,hcm,hcs,ht⟩
 ·cases hv
 ·cases hv
  have hz:(Builtin.zeroCells (Value.agg #[.int .u32 0,.int .i64 0]).cells (n-m)).toList.length=(n-m)*2:=by rw[Array.length_toList,size_zeroCells];rfl
  have h1 : ∀ v∈(Builtin.zeroCells (Value.agg #[.int .u32 0,.int .i64 0]).cells (n-m)).toList,v.oneCell'=true:=by
   intro v hv;simp[Builtin.zeroCells]at hv;obtain⟨i,_,hv⟩:=hv;rcases Nat.mod_two_eq_zero_or_one i with e | e<;>(simp[Value.cells,e]at hv;subst hv;rfl)
  have hst:=run_storeCells_at prog g (m*2) 313 (Builtin.zeroCells (Value.agg #[.int .u32 0,.int .i64 0]).cells (n-m)).toList 0 cur w hg (by rw[hz,hcs];omega) h1;obtain⟨q,hq⟩ : ∃ q,n-m=q+1:=⟨n-m-1,by omega⟩;have hh:(w.setRow g (cur.toList.take (m*2+0)++(Builtin.zeroCells (Value.agg #[.int .u32 0,.int .i64 0]).cells (n-m)).toList++cur.toList.drop (m*2+0+(Builtin.zeroCells (Value.agg #[.int .u32 0,.int .i64 0]).cells (n-m)).toList.length)).toArray).heap[g]? = _:=setRow_heap w g cur _ 313 _ hg;refine⟨_,?_,⟨?_,.inr ⟨g,c,_,rfl,hb,hh,by omega,hcm,?_,?_⟩⟩,?_⟩
  ·rw[hq]at hst ⊢;simp only[Builtin.clear_,run_underlying underlying240,zcU,Sem.run_bind,Result.andThen_ok,hst];simp[underlying240,underlying,hst,zcU]
  ·rw[jF,qX];have:=jF L;omega
  ·simp only[List.size_toArray,List.length_append,List.length_take,List.length_drop,hz];have:cur.toList.length=cur.size:=by simp
   omega
  ·simp only[List.append_assoc,Nat.add_zero];rw[List.take_append_of_le_length (by rw[qX];have:cur.toList.length=cur.size:=(by simp);omega),List.take_take,Nat.min_self,← zbr,← ht,List.take_take,Nat.min_eq_left (by omega)]
  ·refine⟨?_,?_,?_,?_,fun k _ hk=>setRow_other w g k _ hk⟩<;>simp[World.setRow,hg]
structure Ya(w:World)(g n c:Nat)(zs:List Wt)(keep i j:Nat)(L:List Wt)(wr:World):Prop where
 len:L.length=n
 row:wr.ownsRow 0 313 2 (.slice (some ⟨g,0,none⟩) n c) n (L.flatMap wtC)
 tk:L.take i=(zs.take j).filter (fun x => !vu keep x)
 dr : ∀ q,j≤q→L[q]? = zs[q]?
 lt:i<j
 mod:Mod (fun k=>k=g) w wr
theorem Ya.skip{g n c i j:Nat}{zs L:List Wt}{wr w3:World}(h:Ya w g n c zs keep i j L wr){x:Wt}(hx:zs[j]? = some x)(hs:x.slot=keep)(hp:zc wr w3):Ya w g n c zs keep i (j+1) L w3:=by
 refine⟨h.len,zy h.row hp (fun _ _ h=>h),?_,fun q hq=>h.dr q (by omega),by have:=h.lt;omega,h.mod.trans (Mod.of_pure hp)⟩;rw[uE,hx,YI,← h.tk];simp[vu,hs]
theorem Ya.kept{g n c i j:Nat}{zs L:List Wt}{wr w3:World}(h:Ya w g n c zs keep i j L wr){x:Wt}(hx:zs[j]? = some x)(hj:j<n)(hs:x.slot≠keep)(hp:zc wr w3):Ya w g n c zs keep (i+1) (j+1) (L.set i x) ((w3.setCell ⟨g,i*2,none⟩ (.int .u32 x.slot)).setCell ⟨g,i*2+1,none⟩ (.int .i64 x.cost)):=by
 have hl:=h.lt;have hle:=h.len;have h1:=uR (uR (zy h.row hp (fun _ _ h=>h)) (i*2) (.int .u32 x.slot) (by omega)) (i*2+1) (.int .i64 x.cost) (by omega);rw[zak L i x (by omega)]at h1;refine⟨by rw[xF];exact hle,h1,?_,fun q hq => ?_,by omega,((h.mod.trans (Mod.of_pure hp)).setCell (fun _=>rfl) _).setCell (fun _=>rfl) _⟩
 ·rw[uE (l:=zs),hx,YI,← h.tk,uE,List.take_set_of_le (zI i),yv (by omega)];simp[vu,hs]
 ·rw[yy (by omega)];exact h.dr q (by omega)
theorem zhN(zs:List Wt)(keep:Nat):(qH keep zs = -1∧zs.filter (fun x => !vu keep x)=zs) ∨ ∃ k,k<zs.length∧qH keep zs=(k:Nat)∧zs.take k=(zs.take (k+1)).filter (fun x => !vu keep x):=by
 unfold qH
 cases h:zs.findIdx? (vu keep)with
 | none =>
  rw[UE]at h;exact .inl ⟨rfl,ju.2 (fun x hx=>by rw[h x hx];rfl)⟩
 | some k =>
  rw[UQ]at h;obtain⟨hk,h1,h2⟩:=h;refine .inr ⟨k,hk,rfl,?_⟩;rw[uE,zL hk,YI];have e1:(zs.take k).filter (fun x => !vu keep x)=zs.take k:=ju.2 (fun x hx=>by
   obtain⟨i,hi⟩:=ur hx;have hlt:i<k:=by have:=(zE.1 hi).1;rw[qX]at this;omega
   rw[j7,zk hlt]at hi;have:=h2 i hlt;rw[zL (by omega)]at hi;injection hi with hi
   rw[hi]at this;simpa using this)
  rw[e1];simp[h1]
def zkB(w:World)(a:Option Addr)(n c:Nat)(ys:List Wt)(e:Ending)(w':World):Prop :=
 e=.returned (.slice a ys.length c)∧Z0 w' a c ys∧Mod (fun k=>(Value.slice a n c).ownBlock=some k) w w'
theorem zfK{a:Option Addr}{n c:Nat}{zs:List Wt}(h:w.ownsRow 0 313 2 (.slice a n c) n (zs.flatMap wtC))(hn:zs.length=n)(hl:n≤8388608)(hc:ChC w bc cv keep) :
  Calls prog 315 #[.slice a n c,kpF bc] w (zkB w a n c (zs.filter (fun x => !vu keep x))):=by
 have HI:=za (zgw (zo.of_owns h (Zs zs)) hn hl hc);have HR:=za h;have HN:=za hn;have HC:=za hc;have hcap:n≤c:=by obtain⟨a',c',e,h'⟩:=qr h;injection e with _ _ e;rw[e];exact h'
 rcases zhN zs keep with⟨e1,e2⟩ | ⟨k0,hk0,e1,e2⟩
 ·rw[e1]at HI;rw[e2];have HE:=za e2;clear h hn hc e1 e2;go_enter func315,ntmps315
  go_wp2_with (go_at_call 359;refine HI.out.mono ?_;rintro e w3 ⟨rfl,hp3⟩)
  go_ret;exact⟨by rw[HN.out];rfl,by have:=zy HR.out hp3 (fun _ _ h=>h);unfold Z0;rw[HN.out];exact this,Mod.of_pure hp3⟩
 ·rw[e1]at HI
  cases a with
  | none =>
   rcases h.2 with⟨_,h0⟩ | ⟨g',cap,cur,hv,_⟩
   ·omega
   ·cases hv
  | some ad =>
  obtain⟨g,rfl⟩ : ∃ g,ad=⟨g,0,none⟩:=by
   rcases h.2 with⟨hv,_⟩ | ⟨g',cap,cur,hv,_⟩
   ·cases hv
   ·cases hv;exact⟨_,rfl⟩
  have hgb:bc≠g:=fun e=>by
   obtain⟨cur,h9⟩:=yc h (g:=g) rfl;subst e;rw[hc]at h9;injection h9 with h9
   injection h9 with _ h9
   exact absurd h9 (by decide)
  have HGB:=za hgb;have hne1:((k0:Int) == -1)=false:=uY.2 (by omega);have wk:IntKind.i64.wrap ((k0:Int)+1)=(k0:Int)+1:=zt _ (by omega);have HE:=za e2;have HK:=za hk0;clear h hn hc e1 e2 hk0 hgb;go_enter func315,ntmps315
  go_wp2_with (go_at_call 359;refine HI.out.mono ?_;rintro e w3 ⟨rfl,hp3⟩)
  go_loopw [5,6] (fun v5 v6 wr => ∃(i j:Nat) (L:List Wt),v5=.int .i64 (i:Nat)∧v6=.int .i64 (j:Nat)∧j≤n∧Ya w g n c zs keep i j L wr) (fun _ v6 _=>n-(intOf v6).toNat)
  case atStart=>exact⟨k0,k0+1,zs,rfl,by first | rfl | simp,by have:=HK.out;have:=HN.out;omega,⟨HN.out,zy HR.out hp3 (fun _ _ h=>h),HE.out,fun _ _=>rfl,by omega,Mod.of_pure hp3⟩⟩
  case round =>
   obtain⟨i,j,L,rfl,rfl,hj,hI⟩:=hrel;have HDI:=za hI;have hij:=hI.lt;clear hI;have j0:(0:Int)≤(j:Int):=by omega
   have i0:(0:Int)≤(i:Int):=by omega
   by_cases hlt:j<n
   ·have hlt':(j:Int)<(n:Int):=by omega
    have hil':(i:Int)<(n:Int):=by omega
    have wj:IntKind.i64.wrap ((j:Int)+1)=(j:Int)+1:=zt _ (by omega);have wi:IntKind.i64.wrap ((i:Int)+1)=(i:Int)+1:=zt _ (by omega);obtain⟨x,hx⟩ : ∃ x,zs[j]? = some x:=⟨_,zL (by rw[HN.out];exact hlt)⟩;have hLx:L[j]? = some x:=(HDI.out.dr j (zI _)).trans hx;have z0:wr.cell? ⟨g,j*2,none⟩=some (.int .u32 x.slot):=(HDI.out.row.cellAt (j*2) (by omega)).trans (Yj hLx).1;have z1:wr.cell? ⟨g,j*2+1,none⟩=some (.int .i64 x.cost):=(HDI.out.row.cellAt (j*2+1) (by omega)).trans (Yj hLx).2;have hal:zc wr (wr.alloc (.cells #[.int .u32 x.slot,.int .i64 x.cost] 313)):=(Mod.refl _ wr).alloc _;have hbx:=zj (w:=wr) (o := .cells #[.int .u32 x.slot,.int .i64 x.cost] 313 (0,0)) rfl;have hcw:=HDI.out.mod.heap HGB.out HC.out;have HX:=za hx;have HAL:=za hal;have hglt:g<wr.heap.size:=vY HDI.out.row rfl;have HGL:=za hglt;clear hx hLx;go_upto_region 8 with fail
    generalize wr.alloc (.cells #[.int .u32 x.slot,.int .i64 x.cost] 313)=W1 at *;have hcw1:=HAL.out.heap (fun h=>h) hcw;have HCl:=za (zaK hcw1 x.slot x.cost);have HBX:=za hbx;obtain⟨b7,hb7⟩:=zf wr.heap.size;rw[hb7]at hbx HBX ⊢;have HB7:=za hb7;clear hb7 z0 z1 hcw hcw1 hal hglt;obtain⟨hbx_0,hbx_1,hbx_f,hbx_l,H_hbx⟩:=cr2 hbx;clear hbx;by_cases hs:x.slot=keep
    ·have hd:decide (x.slot=keep)=true:=zP hs;rw[hd]at HCl;have HS:=za hs;clear hd hs
     go_wp2_with (go_at_call 317;refine HCl.out.mono ?_;rintro e w4 ⟨rfl,hp4⟩)
     go_roundw
     case rel=>exact⟨i,j+1,L,rfl,by first | rfl | simp,hlt,HDI.out.skip HX.out HS.out (HAL.out.trans hp4)⟩
     case measure=>simp[intOf];omega
    ·have hd:decide (x.slot=keep)=false:=zR hs;rw[hd]at HCl;have HS:=za hs;clear hd hs;go_upto_region 9 with(go_at_call 317;refine HCl.out.mono ?_;rintro e w4 ⟨rfl,hp4⟩)
     have hb4:=hp4.heap (fun h=>h) HBX.out;clear hbx_0 hbx_1 hbx_f hbx_l;clear H_hbx;have HP4:=za (HAL.out.trans hp4);clear hp4;have hr4:=zy HDI.out.row HP4.out (fun _ _ h=>h);have hle:=HDI.out.len;obtain⟨y,hy⟩ : ∃ y,L[i]? = some y:=⟨_,zL (by omega)⟩;have y0:w4.cell? ⟨g,i*2,none⟩=some (.int .u32 y.slot):=(hr4.cellAt (i*2) (by omega)).trans (Yj hy).1;have y1:w4.cell? ⟨g,i*2+1,none⟩=some (.int .i64 y.cost):=(hr4.cellAt (i*2+1) (by omega)).trans (Yj hy).2;have f0:=hr4.frozenAt (i*2);have f1:=hr4.frozenAt (i*2+1);have hglt4:g<w4.heap.size:=vY hr4 rfl;clear hr4 hy hle;obtain⟨hb4_0,hb4_1,hb4_f,hb4_l,H_hb4⟩:=cr2 hb4;clear hb4;go_wp2;go_roundw
     case rel=>exact⟨i+1,j+1,L.set i x,by first | rfl | simp,by first | rfl | simp,hlt,HDI.out.kept HX.out hlt HS.out HP4.out⟩
     case measure=>simp[intOf];omega
   ·have hlt' : ¬ (j:Int)<(n:Int):=by omega
    obtain rfl:j=n:=by omega
    have hin:i<j:=hij;have hil':(i:Int)≤(j:Int):=by omega
    have hic':(i:Int)≤(c:Int):=by omega
    have hic : ¬ c=i:=by omega
    have hjc:(j:Int)≤(c:Int):=by omega
    obtain⟨W5,hcl,hr5,hm5⟩:=zf2 HDI.out.row hin 3;have hcl' : ∀ ty,(Builtin.clear_ #[240] ty #[.slice (some ⟨g,i*2,none⟩) (j-i) (c-i)]).run prog wr=.ok (.tuple #[]) W5:=fun ty=>hcl
    have HR5:=za hr5;have HM5:=za hm5;clear hcl hr5 hm5;go_wp2;go_ret;have htk:=HDI.out.tk;rw[show zs.take j=zs from qp (by rw[HN.out];exact zI _)]at htk;have hle:=HDI.out.len;have hl2:(zs.filter (fun x => !vu keep x)).length=i:=by rw[← htk,qX];omega
    refine⟨by rw[hl2];rfl,?_,(HDI.out.mod.trans HM5.out).mono (fun k _ e=>by subst e;rfl)⟩;unfold Z0;rw[hl2,← htk];exact HR5.out
def kT(keep:Nat)(zs:List Wt):List Wt:=zs.filter (fun x => !vu keep x)
theorem zkp{a:Option Addr}{c:Nat}{zs:List Wt}(h:zo w (.slice a zs.length c) 2 (zs.flatMap wtC))(hl:zs.length≤8388608) :
  Calls prog 266 #[.agg #[.slice a zs.length c,.int .u32 keep]] w (ZV w (kT keep zs)):=by
 have hal:zc w (w.alloc (.cells #[.slice a zs.length c,.int .u32 keep] 304)):=(Mod.refl _ w).alloc _;have hbx:ChC _ w.heap.size (.slice a zs.length c) keep:=zj (w:=w) (o := .cells #[.slice a zs.length c,.int .u32 keep] 304 (0,0)) rfl;have HCl:=za (zhK a zs.length c _ (h.frame hal (fun _ _ h=>h)) (by omega));have HAL:=za hal;have HBX:=za hbx;have HL:=za hl;clear h hl;obtain⟨n,hn⟩:=zf zs.length;have HN:=za hn;rw[hn]at hbx hal HBX HAL HCl HL ⊢;clear hn;go_enter func266,ntmps266;go_upto_region 1 with fail
 generalize w.alloc (.cells #[.slice a n c,.int .u32 keep] 304)=W1 at *;obtain⟨b1,hb1⟩:=zf w.heap.size;rw[hb1]at hbx HBX ⊢;have HB1:=za hb1;clear hb1 hal;obtain⟨hbx_0,hbx_1,hbx_f,hbx_l,H_hbx⟩:=cr2 hbx;clear hbx
 go_wp2_with (first | (go_at_call 316;refine HCl.out.mono ?_;rintro e w3 ⟨a3,n3,c3,rfl,ho3,hf3,hp3⟩;obtain rfl:n3=n:=(by have h1:=ho3.1;rw[jF]at h1;have:=HN.out;omega);have HDe:=za (zfK ho3 HN.out HL.out (hp3.heap (fun h=>h) HBX.out));have HF3:=za hf3;have HP3:=za (HAL.out.trans hp3);clear ho3 hf3 hp3) | (go_at_call 315;refine HDe.out.mono ?_;rintro e w5 ⟨rfl,hr5,hm5⟩))
 go_ret;exact⟨a3,c3,rfl,hr5,fun g hg=>by
  have h1:=HF3.out g (by cases a3<;>exact hg);have:=HAL.out.size;have:=HB1.out;omega,HP3.out.then hm5 (fun k hk e=>by
  have h1:=HF3.out k (by cases a3<;>exact e);have:=HAL.out.size;omega)⟩
end
end
section
open Go.RowKit Go.Maps Go.Shelf
structure jV(w:World)(b:Nat)(M:List Nat)(D:DataW Unit):Prop where
 own:w.ownsMap prog 143 unitElem b M.length D
 has : ∀ s,Maps.has D (kS s)=true↔s∈M
 size:Maps.size D=M.length
section
variable{w w':World}{b:Nat}{M:List Nat}{D:DataW Unit}{S:Nat→Prop}
theorem jV.mod(h:jV w b M D)(hm:Mod S w w')(hb : ¬ S b):jV w' b M D:=⟨Yr h.own hm hb,h.has,h.size⟩
theorem jV.new(w:World):jV (w.alloc (.map #[] 0)) w.heap.size [] (.map []):=⟨YZ _ _ _ _,(fun s=>⟨(fun h=>by cases h),(fun h=>by cases h)⟩),rfl⟩
theorem jV.put{x:Nat}(h:jV w b M D)(hn:x∉M)(ho:w'.ownsMap prog 143 unitElem b (M.length+1) (D.put (kS x) (.agg []))):jV w' b (M++[x]) (D.put (kS x) (.agg [])):=by
 have hm:=h.own.isMap;have h0:Maps.has D (kS x)=false:=by
  cases hh:Maps.has D (kS x)with
  | false=>rfl
  | true=>exact absurd ((h.has _).1 hh) hn
 refine⟨by rw[zV];exact ho,fun s => ?_,?_⟩
 ·by_cases e:s=x
  ·subst e;exact⟨fun _=>by simp,fun _=>has_put_same hm (X9 _) _⟩
  ·rw[has_put_other (fun c=>e (jz c)),h.has];simp[e]
 ·rw[Zd (h.own.tidy x9),h0,h.size];simp
end
section
variable{w:World}
def zim(w:World)(keep:Nat)(zs:List Wt)(e:Ending)(w':World):Prop :=
 ∃ a c,e=.returned (.tuple #[.agg #[.slice a zs.length c,.int .u32 keep],.int .i64 0])∧Z0 w' a c zs∧xp w (.slice a zs.length c)∧zc w w'
structure K9(w:World)(zs:List Wt)(br bc bs n k:Nat)(a:Option Addr)(c keep:Nat)(wr:World):Prop where
 res:wr.heap[br]? = some (.cells #[.slice none 0 0,.int .u32 0] 304 (0,0))
 box:ChC wr bc (.slice a n c) keep
 row:wr.ownsRow 0 313 2 (.slice a n c) n (zs.flatMap wtC)
 map : ∃ D,jV wr bs (zA (zs.take k)) D
 mod:Mod (fun i=>w.heap.size≤i) w wr
theorem zhh{a1 a2:Option Addr}{c1 c2 keep:Nat}{xs ys:List Wt}(h1:zo w (.slice a1 xs.length c1) 2 (xs.flatMap wtC))(h2:zo w (.slice a2 ys.length c2) 2 (ys.flatMap wtC))
  (hl:(xs++ys).length≤2097152) (hr : ∀ x∈xs++ys,x.slot<4194304∧0≤x.cost∧x.cost≤1099511627776) (hnd:(zA (xs++ys)).Nodup) :
  Calls prog 201 #[.slice a1 xs.length c1,.slice a2 ys.length c2,.int .u32 keep] w (zim w keep (xs++ys)):=by
 have hb0:=zj (w:=w) (o := .cells #[.slice none 0 0,.int .u32 0] 304 (0,0)) rfl;have hal0:zc w (w.alloc (.cells #[.slice none 0 0,.int .u32 0] 304)):=(Mod.refl _ w).alloc _;have hs0:(w.alloc (.cells #[.slice none 0 0,.int .u32 0] 304)).heap.size=w.heap.size+1:=by simp
 have hb1:=zj (w:=w.alloc (.cells #[.slice none 0 0,.int .u32 0] 304)) (o := .cells #[.slice a1 xs.length c1,.slice a2 ys.length c2] 240 (0,0)) hs0.symm;have hal1:zc w ((w.alloc (.cells #[.slice none 0 0,.int .u32 0] 304)).alloc (.cells #[.slice a1 xs.length c1,.slice a2 ys.length c2] 240)):=hal0.alloc _;have HCc:=za (zke hb1 (h1.frame hal1 (fun _ _ h=>h)) (h2.frame hal1 (fun _ _ h=>h)) (by rw[zV]at hl;omega) (by rw[zV]at hl;omega));have HB0:=za (zG (o := .cells #[.slice a1 xs.length c1,.slice a2 ys.length c2] 240) hb0);have HAL:=za hal1;have HL:=za hl;have HRG:=za hr;have HND:=za hnd;clear h1 h2 hl hr hnd hb0 hb1 hal0 hal1 hs0;obtain⟨zs,hzs⟩:=zf (xs++ys);rw[hzs]at HCc HL HRG HND ⊢;clear hzs;obtain⟨n1,hn1⟩:=zf xs.length;obtain⟨n2,hn2⟩:=zf ys.length;rw[hn1,hn2]at HCc HB0 HAL ⊢;clear hn1 hn2;have hmm := @run_makeMap prog;go_enter func201,ntmps201;go_upto_region 3 with(go_at_call 265;refine HCc.out.mono ?_;rintro e w3 ⟨a3,c3,rfl,hr3,hf3,hp3⟩)
 obtain⟨br,hbr⟩:=zf w.heap.size;have HBR:=za hbr;have hf3 : ∀ g,(Value.slice a3 zs.length c3).ownBlock=some g→br+2≤g:=fun g hg=>by have:=hf3 g hg;simp at this;omega
 have hsz5:br+2≤w3.heap.size:=by have:=hp3.size;simp at this;omega
 rw[hbr]at HB0 ⊢;clear hbr;have hb3:=zj (w:=w3) (o := .cells #[.slice a3 zs.length c3,.int .u32 keep] 304 (0,0)) rfl;have hs3:(w3.alloc (.cells #[.slice a3 zs.length c3,.int .u32 keep] 304)).heap.size=w3.heap.size+1:=by simp
 have ha3:zc w3 ((w3.alloc (.cells #[.slice a3 zs.length c3,.int .u32 keep] 304)).alloc (.map #[] 0)):=((Mod.refl _ w3).alloc _).alloc _;have hu3:=jV.new (w3.alloc (.cells #[.slice a3 zs.length c3,.int .u32 keep] 304));have hsz3:=HAL.out.size;have hsz4:=hp3.size;have HI0:Hid (K9 w zs br w3.heap.size (w3.heap.size+1) zs.length 0 a3 c3 keep ((w3.alloc (.cells #[.slice a3 zs.length c3,.int .u32 keep] 304)).alloc (.map #[] 0))):=za
  ⟨ha3.heap (fun h=>h) (hp3.heap (fun h=>h) HB0.out),zG hb3,zy hr3 ha3 (fun _ _ h=>h),⟨_,hs3 ▸ hu3⟩,Mod.of_pure ((HAL.out.trans hp3).trans ha3)⟩
 have HF3:Hid (xp w (.slice a3 zs.length c3)):=za (fun g hg=>by have:=hf3 g hg;have:=HBR.out;omega);have hne:a3=none ∨ ∃ g,a3=some ⟨g,0,none⟩∧br+2≤g∧g<w3.heap.size:=by
  rcases hr3.2 with⟨hv,_⟩ | ⟨g',cap,cur,hv,_,hg,_⟩
  ·injection hv with h1;exact .inl h1
  ·injection hv with h1;refine .inr ⟨g',h1,?_,(uX.1 hg).1⟩
   exact hf3 g' (by rw[h1];rfl)
 have HNE:=za hne;generalize hX:(w3.alloc (.cells #[.slice a3 zs.length c3,.int .u32 keep] 304)).alloc (.map #[] 0)=W0 at *;obtain⟨bc,hbc⟩:=zf w3.heap.size;rw[hbc]at HI0 HNE hsz5 ⊢;obtain⟨n,hn⟩:=zf zs.length;rw[hn]at HI0 HF3 HL ⊢;have HN:=za hn;clear hn hbc hne hb3 hs3 ha3 hu3 hsz3 hsz4 hr3 hf3 hp3 hX hmm;have hbx:=HI0.out.box;obtain⟨hbx_0,hbx_1,hbx_f,hbx_l,H_hbx⟩:=cr2 hbx;clear hbx;go_upto_region 4 with fail
 clear hbx_0 hbx_1 hbx_f hbx_l;clear H_hbx;go_loopw [11,22] (fun v11 v22 wr => ∃ k:Nat,v22=.int .i64 (k:Nat)∧k≤n∧K9 w zs br bc (bc+1) n k a3 c3 keep wr) (fun _ v22 _=>n-(intOf v22).toNat)
 case atStart=>exact⟨0,rfl,yi _,HI0.out⟩
 case round =>
  obtain⟨k,rfl,hk,hI⟩:=hrel;have HI:=za hI;clear hI;by_cases hlt:k<n
  ·have hlt':(k:Int)<(n:Int):=by omega
   have k0:(0:Int)≤(k:Int):=by omega
   have wk:IntKind.i64.wrap ((k:Int)+1)=(k:Int)+1:=zt _ (by have:=HL.out;omega);obtain⟨x,hx⟩ : ∃ x,zs[k]? = some x:=⟨_,zL (by rw[HN.out];exact hlt)⟩;obtain⟨ad,had,z0,z1⟩:=JG (zo.of_owns HI.out.row (Zs zs)) hx;subst had;obtain⟨r0,r1,r2⟩:=HRG.out x (yl hx);have HX:=za hx;obtain⟨s,hs⟩:=zf x.slot;obtain⟨cs,hcs⟩:=zf x.cost;rw[hs]at z0 r0;rw[hcs]at z1 r1 r2;have HS:=za hs;have HCS:=za hcs;have R0:=za r0;have R1:=za r1;have R2:=za r2;clear r0 r1 r2;have hbx:=zj (w:=wr) (o := .cells #[.int .u32 s,.int .i64 cs] 313 (0,0)) rfl;have hal:zc wr (wr.alloc (.cells #[.int .u32 s,.int .i64 cs] 313)):=(Mod.refl _ wr).alloc _;obtain⟨Dm,hU⟩:=HI.out.map;have HU:=za (hU.mod hal (fun h=>h));have HAL1:=za hal;clear hx hs hcs hU;go_upto_region 6 with fail
   generalize wr.alloc (.cells #[.int .u32 s,.int .i64 cs] 313)=W1 at *;obtain⟨b1,hb1⟩:=zf wr.heap.size;rw[hb1]at hbx ⊢;have HB1:=za hb1;clear hb1 hal z0 z1;obtain⟨hbx_0,hbx_1,hbx_f,hbx_l,H_hbx⟩:=cr2 hbx;clear hbx;have q0 : ¬ (4194304:Int)≤(s:Int):=by have:=R0.out;omega
   have q1 : ¬ cs<0:=by have:=R1.out;omega
   have q2 : ¬ (1099511627776:Int)<cs:=by have:=R2.out;omega
   go_upto_region 8 with fail
   have hnn:s∉zA (zs.take k):=by
    have h1:=HND.out;have h2:zs=zs.take k++(x::zs.drop (k+1)):=by
     obtain⟨g1,g2⟩:=zE.1 HX.out;exact(Y2 k zs).symm.trans (by rw[jQ g1,g2])
    rw[h2]at h1;unfold zA at h1 ⊢;rw[vh,xD]at h1;exact fun hm=>h1.2.2 s hm s (by rw[← HS.out];simp) rfl
   have htk:zA (zs.take (k+1))=zA (zs.take k)++[s]:=by
    unfold zA;rw[uE,HX.out,vh];simp[HS.out]
   have hul:(zA (zs.take k)).length<maxLen:=by unfold zA;rw[yn,qX];have:=HN.out;have:=HL.out;unfold maxLen;omega
   have HNN:=za hnn;have HTK:=za htk;have HUL:=za hul;clear hnn htk hul q0 q1 q2
   go_wp2_with (at_mapUpdate;refine Xk _ rfl _ _ _ 378 rfl 143 379 x9 underlying378 unitElem (bc+1) (zA (zs.take k)).length Dm rfl HU.out.own HUL.out (.int .u32 s) (.agg #[]) (kS s) rfl rfl (uH (by have:=R0.out;omega)) (.agg []) [] unitElem_mk ?_;intro w4 ho4 hg4;go_frame)
   have hm4:Mod (fun k=>k=bc+1) W1 w4:=Mod.of_grown hg4 (fun k e _=>by cases e;rfl);have HI4:Hid (K9 w zs br bc (bc+1) n (k+1) (some ad) c3 keep w4):=za
    ⟨hm4.heap (by omega) (HAL1.out.heap (fun h=>h) HI.out.res),hm4.heap (by omega) (HAL1.out.heap (fun h=>h) HI.out.box),zy (zy HI.out.row HAL1.out (fun _ _ h=>h)) hm4 (fun g hg e=>by
     rcases HNE.out with h | ⟨g',h,h2,h3⟩
     ·cases h
     ·rw[h]at hg;cases hg;have e2:g'=bc+1:=e;omega),⟨_,by rw[HTK.out];exact HU.out.put HNN.out ho4⟩,(HI.out.mod.trans (Mod.of_pure HAL1.out)).then hm4 (fun i _ e=>by subst e;have:=HBR.out;omega)⟩
   clear hbx_0 hbx_1 hbx_f hbx_l;clear H_hbx ho4 hg4 hm4;go_wp2;go_roundw
   case rel=>exact⟨k+1,by first | rfl | simp,hlt,HI4.out⟩
   case measure=>simp[intOf];omega
  ·have hlt' : ¬ (k:Int)<(n:Int):=by omega
   obtain rfl:k=n:=by omega
   have hbb:=HI.out.box;have hrr:=HI.out.res;obtain⟨Dm,hU⟩:=HI.out.map;have hlen:=fun ty=>hU.own.len underlying378 ty
   rw[hU.size]at hlen;have hsl:(zA (zs.take k)).length=k:=by unfold zA;rw[yn,qX];have:=HN.out;omega
   rw[hsl]at hlen;have q0 : ¬ (2097152:Int)<(k:Int):=by have:=HL.out;omega
   have HBB:=za hbb;have HRR:=za hrr;clear hU hsl;obtain⟨hbb_0,hbb_1,hbb_f,hbb_l,H_hbb⟩:=cr2 hbb;clear hbb;obtain⟨hrr_0,hrr_1,hrr_f,hrr_l,H_hrr⟩:=cr2 hrr;clear hrr;go_wp2;have h8:=ya wr br 0 _ _ (.slice a3 k c3) HRR.out;have h9:=ya _ br 1 _ _ (.int .u32 keep) h8;have hm9:Mod (fun i=>i=br) wr ((wr.setCell ⟨br,0,none⟩ (.slice a3 k c3)).setCell ⟨br,1,none⟩ (.int .u32 keep)):=((Mod.refl (fun i=>i=br) wr).setCell (p:=⟨br,0,none⟩) (fun _=>rfl) _).setCell (p:=⟨br,1,none⟩) (fun _=>rfl) _;generalize(wr.setCell ⟨br,0,none⟩ (.slice a3 k c3)).setCell ⟨br,1,none⟩ (.int .u32 keep)=W9 at *;simp only[List.setIfInBounds_toArray,List.set_cons_succ,List.set_cons_zero,Array.setIfInBounds]at h9;clear hbb_0 hbb_1 hbb_f hbb_l;clear hrr_0 hrr_1 hrr_f hrr_l;clear H_hbb H_hrr h8;have c0:W9.cell? ⟨br,0,none⟩=some (.slice a3 k c3):=zi W9 br 0 _ _ (0,0) (by simpa using h9);have c1:W9.cell? ⟨br,1,none⟩=some (.int .u32 keep):=zi W9 br 1 _ _ (0,0) (by simpa using h9);refine zN (v := .tuple #[.agg #[.slice a3 k c3,.int .u32 keep],.int .i64 0]) (by simp[results,results201,go_sem,c0,c1]) rfl ?_;refine⟨a3,c3,by rw[HN.out],?_,by rw[HN.out];exact HF3.out,(HI.out.mod.mono (fun i hi h=>absurd h (by omega))).then hm9 (fun i hi e=>by subst e;have:=HBR.out;omega)⟩;have hr9:=zy HI.out.row hm9 (fun g hg e=>by
    rcases HNE.out with h | ⟨g',h,h2,h3⟩
    ·rw[h]at hg;cases hg
    ·rw[h]at hg;cases hg;have e2:g'=br:=e;omega)
   unfold Z0;rw[HN.out];exact hr9
end
theorem zj6 : ∀ w,(Go.sizeOf 313).run prog w=.ok 2 w:=fun w=>by kernel_rfl
theorem zgX:(prog.info? 143).map (fun i=>(i.zero,i.size,i.bytes))=some (some (.int .u32 0),1,4):=by kernel_rfl
def vt(cnt byt:Nat):List Wt→Nat→Nat→List Nat
 | [],_,_=>[]
 | x::r,n,cost=>if cnt<n∨byt<cost then x.slot::vt cnt byt r (n-1) (cost-x.cost)else[]
def ud(cnt byt keep:Nat)(zs:List Wt):List Nat:=vt cnt byt (kT keep zs) zs.length (zw zs)
section
variable{w:World}
theorem Qp{a:Option Addr}{n c:Nat}{x:Wt}{R:List Wt}(h:zo w (.slice a (n+1) c) 2 ((x::R).flatMap wtC))(hc:n+1≤c) :
  ∃ ad,a=some ad∧w.cell? ad=some (.int .u32 x.slot)∧w.cell? ⟨ad.block,ad.off+1,none⟩=some (.int .i64 x.cost)∧zo w (.slice (if c=1 then some ad else some (ad.add 2)) n (c-1)) 2 (R.flatMap wtC):=by
 obtain⟨a',n',c',e,hl,h1,h0,hc'⟩:=h;injection e with e1 e2 e3
 subst e1 e2 e3
 cases a with
 | none=>have:=h0 rfl;omega
 | some ad =>
  have z0:=hc' ad rfl 0 (.int .u32 x.slot) rfl;have z1:=hc' ad rfl (0+(0+1)) (.int .i64 x.cost) rfl;have e0:ad.add 0=ad:=by simp[Addr.add]
  rw[e0]at z0;have z1':=zal (k:=0) z1;rw[e0]at z1';rw[jF]at hl;have hRl:R.length=n:=by simp at hl;omega
  refine⟨ad,rfl,z0,z1',?_⟩;have h1' : ∀ u∈R.flatMap wtC,u.oneCell'=true:=Zs R;by_cases e:c=1
  ·rw[zk e];have:n=0:=by omega
   subst this;obtain rfl:R=[]:=jU hRl;exact⟨some ad,0,c-1,rfl,rfl,h1',(fun h=>by cases h),fun ad' _ i u hu=>by cases hu⟩
  ·rw[zh e];refine⟨some (ad.add 2),n,c-1,rfl,by rw[jF,hRl],h1',(fun h=>by cases h),fun ad' ha i u hu => ?_⟩;injection ha with ha
   subst ha;rw[Go.Deep.add_add];refine hc' ad rfl (2+i) u ?_;rw[qJ,jh (by simp[wtC])];simpa[wtC]using hu
theorem zfd{ad:Addr}{n c:Nat}(W:World):(Instr.slice 240 (.slice (some ad) (n+1) c) (some (.int .i64 1)) none none).run prog W=.ok (.slice (if c=1 then some ad else some (ad.add 2)) n (c-1)) W:=by
 have hb:(0:Int)≤1∧(1:Int)≤((n+1:Nat):Int):=by omega
 have hb2:(1:Int)≤(n:Int)+1:=by omega
 have hs:=zj6 W;simp[Instr.slice,run_underlying underlying240,Instr.sliceBounds,Instr.sliceBound,asIntOf,hb,hb2,hs,Result.andThen]
structure VcI(w3:World)(cnt byt:Nat)(tot:List Nat)(R:List Wt)(out:List Nat)(a:Option Addr)(c n cost:Nat)(ao:Option Addr)(co:Nat)(wr:World):Prop where
 rd:zo w3 (.slice a R.length c) 2 (R.flatMap wtC)
 cap:R.length≤c
 row:yw wr ao co out
 fr:xp w3 (.slice ao out.length co)
 pu:zc w3 wr
 tot:out++vt cnt byt R n cost=tot
 le:R.length≤n
 cs:zw R≤cost
 ol:out.length+R.length≤2097152
def zb8(w:World)(l:List Nat)(e:Ending)(w':World):Prop := ∃ a c,e=.returned (.slice a l.length c)∧yw w' a c l∧xp w (.slice a l.length c)∧zc w w'
theorem Kq(keep:Nat)(zs:List Wt):(kT keep zs).length≤zs.length:=List.length_filter_le _ _
theorem zef(keep:Nat)(zs:List Wt):zw (kT keep zs)≤zw zs:=by
 induction zs with
 | nil=>exact zI _
 | cons x r ih =>
  unfold kT at ih ⊢;rw[je];split
  ·rw[kj,kj];omega
  ·rw[kj];omega
theorem Az4lw {P:Prop}(h:P:=by
 go_upto_region 10 with fail
 go_region
 go_upto_region 11 with fail
 refine rHd (S:=fun X=>X.cell? ad=some (.int .u32 x.slot)) z0 (fun h_ => ?_);refine hTk 0 ?_;refine hTk 1 ?_;refine hTk 2 ?_;refine hTk 3 ?_;refine hLd 4 ?_;refine hTk 7 ?_;refine hTk 8 ?_;refine uN (rs:=[5]) (by kernel_rfl) (by simp) ?_;refine vR rfl (fun K1 hK1 => ?_) uM;go_simp;have hpa:zc wr (wr.drew.drew.alloc (.cells #[.int .u32 x.slot] 143)):=((Mod.refl _ wr).drew.drew).alloc _;refine hK1.out _ _ (hpa.cell (fun h=>h) z0) (fun h_ => ?_);clear hK1 K1;refine clA ?_;refine uN (rs:=[6]) (by kernel_rfl) (by simp) ?_;refine vR rfl (fun K2 hK2 => ?_) uM;have hrow0:wr.ownsRow 0 143 1 (.slice ao o co) o (zX out):=by have:=HI.out.row;unfold yw at this;rw[HOO.out]at this;exact this
 refine XU _ (by rfl) _ _ 213 (by rfl) 143 i0 _ 1 4 underlying213 hi iz0 iz1 iz2 rfl (by decide) (.slice ao o co) o _ (by rfl) (zy hrow0 hpa (fun _ _ h=>h)) _ [.int .u32 x.slot] 1 (by rfl) (zo.of_block 1 1 1 (zj (by simp)) (by rfl) (by simp[Value.oneCell'])) (by rfl) (by have:=HOL.out;unfold maxLen;omega) (by have:=HOL.out;omega) ?_;intro a7 c7 w5 hr7 hg7 hb7;have hfo:xp w3 (.slice ao o co):=by have:=HI.out.fr;rw[HOO.out]at this;exact this
 have hm5:Mod (fun k=>(Value.slice ao o co).ownBlock=some k) wr w5:=(Mod.of_pure hpa).trans (Mod.of_grown (S:=fun k'=>(Value.slice ao o co).ownBlock=some k') hg7 (fun k e _=>e));have hp5:zc w3 w5:=HI.out.pu.then hm5 (fun i hi e=>by have:=hfo i e;omega);have z5:w5.cell? ad=some (.int .u32 x.slot):=hp5.cell (fun h=>h) z3;have hn7:yw w5 a7 c7 (out++[x.slot]):=by
  unfold yw;rw[zV,HOO.out,qS];exact hr7
 have hf7:xp w3 (.slice a7 (out++[x.slot]).length c7):=fun g hg=>by
  rw[zV,HOO.out]at hg;rcases hb7 with e | e
  ·exact hfo g (e ▸ hg)
  ·rw[show(Value.slice a7 (o + [x.slot].length) c7).ownBlock=_ from e]at hg;cases hg;exact(HI.out.pu.trans hpa).size
 have HN5:=za (HST.out HOR.out w5 a7 c7 hn7 hf7 hp5);refine hK2.out _ _ z5 (fun h_ => ?_);clear hK2 K2 hr7 hg7 hb7 hrow0 hfo hm5 hp5 hn7 hf7 z0 z1 z5;refine clA ?_;refine hTk 9 ?_;refine hTk 10 ?_;refine hDn ?_;clear h_;go_wp2;go_roundw
 case rel=>exact⟨R,out++[x.slot],sv,cR-1,r',n-1,cost-x.cost,a7,c7,o+1,rfl,rfl,rfl,by first | rfl | simp,HRL.out,by rw[zV,HOO.out];rfl,by omega,by omega,HN5.out⟩
 case measure=>simp):P:=h
theorem zft{a:Option Addr}{c keep cnt byt:Nat}{zs:List Wt}(h:zo w (.slice a zs.length c) 2 (zs.flatMap wtC))(hl:zs.length≤2097152)(hr : ∀ x∈zs,x.cost≤1099511627776)(hcn:cnt≤4611686018427387904)(hby:byt≤4611686018427387904) :
  Calls prog 202 #[.agg #[.slice a zs.length c,.int .u32 keep],.int .i64 cnt,.int .i64 byt] w (zb8 w (ud cnt byt keep zs)):=by
 have hal:zc w (w.alloc (.cells #[.slice a zs.length c,.int .u32 keep] 304)):=(Mod.refl _ w).alloc _;have hbx:ChC _ w.heap.size (.slice a zs.length c) keep:=zj (w:=w) (o := .cells #[.slice a zs.length c,.int .u32 keep] 304 (0,0)) rfl;have HRD:=za (h.frame hal (fun _ _ h=>h));have hsum:=XC hr;have HO:=za (fun(W:World) (hW:zc (w.alloc (.cells #[.slice a zs.length c,.int .u32 keep] 304)) W)=>zkp (keep:=keep) ((h.frame hal (fun _ _ h=>h)).frame hW (fun _ _ h=>h)) (by omega));have HAL:=za hal;have HBX:=za hbx;have HL:=za hl;have HSU:=za hsum;have HR:=za hr;obtain⟨tot,htot⟩:=zf (ud cnt byt keep zs);rw[htot];have HT:=za htot;clear h hl hr hsum htot;obtain⟨n,hn⟩:=zf zs.length;have HN:=za hn;rw[hn]at hbx hal HBX HAL HRD HO HL HSU ⊢;clear hn;go_enter func202,ntmps202;go_upto_region 1 with fail
 generalize w.alloc (.cells #[.slice a n c,.int .u32 keep] 304)=W1 at *;obtain⟨b1,hb1⟩:=zf w.heap.size;rw[hb1]at hbx HBX ⊢;have HB1:=za hb1;clear hb1 hal;obtain⟨hbx_0,hbx_1,hbx_f,hbx_l,H_hbx⟩:=cr2 hbx;clear hbx;go_upto_region 3 with fail
 go_loopw [8,19] (fun v8 v19 wr => ∃ k:Nat,v19=.int .i64 (k:Nat)∧v8=.int .i64 ((zw (zs.take k):Nat):Int)∧k≤n∧zc W1 wr) (fun _ v19 _=>n-(intOf v19).toNat)
 case atStart=>exact⟨0,rfl,rfl,yi _,Mod.refl _ _⟩
 case round =>
  obtain⟨k,rfl,rfl,hk,hpu⟩:=hrel;have HPU:=za hpu;clear hpu;by_cases hlt:k<n
  ·have hlt':(k:Int)<(n:Int):=by omega
   have k0:(0:Int)≤(k:Int):=by omega
   have wk:IntKind.i64.wrap ((k:Int)+1)=(k:Int)+1:=zt _ (by have:=HL.out;omega);obtain⟨x,hx⟩ : ∃ x,zs[k]? = some x:=⟨_,zL (by rw[HN.out];exact hlt)⟩;have htk:zw (zs.take (k+1))=zw (zs.take k)+x.cost:=by rw[uE,hx,vT];simp[zw]
   have hle:zw (zs.take k)+x.cost≤4611686018427387904:=by
    rw[← htk];have h1:zw (zs.take (k+1))≤(zs.take (k+1)).length*1099511627776:=XC (fun y hy=>HR.out y (List.mem_of_mem_take hy));have h2:(zs.take (k+1)).length≤2097152:=by rw[qX,HN.out];have:=HL.out;omega
    omega
   have ws:IntKind.i64.wrap (((zw (zs.take k):Nat):Int)+(x.cost:Int))=((zw (zs.take (k+1)):Nat):Int):=by rw[htk,zt _ (by omega)];omega
   obtain⟨ad,had,z0,z1⟩:=JG (HRD.out.frame HPU.out (fun _ _ h=>h)) hx;subst had;have hal2:zc wr (wr.alloc (.cells #[.int .u32 x.slot,.int .i64 x.cost] 313)):=(Mod.refl _ wr).alloc _;have HAL2:=za hal2;have hb2:=zj (w:=wr) (o := .cells #[.int .u32 x.slot,.int .i64 x.cost] 313 (0,0)) rfl;clear hx htk hle;go_upto_region 5 with fail
   generalize wr.alloc (.cells #[.int .u32 x.slot,.int .i64 x.cost] 313)=W2 at *;generalize wr.heap.size=b2 at *;clear z0 z1 hal2;obtain⟨hb2_0,hb2_1,hb2_f,hb2_l,H_hb2⟩:=cr2 hb2;clear hb2;go_wp2;go_roundw
   case rel=>exact⟨k+1,by first | rfl | simp,by first | rfl | (rw[← ws]) | simp,hlt,HPU.out.trans HAL2.out⟩
   case measure=>simp[intOf];omega
  ·have hlt' : ¬ (k:Int)<(n:Int):=by omega
   obtain rfl:k=n:=by omega
   have htk:zw (zs.take k)=zw zs:=by rw[qp (by rw[HN.out];exact zI _)]
   rw[htk];obtain⟨cs,hcs⟩:=zf (zw zs);rw[hcs];have HCS:=za hcs;clear htk hcs;have hbr:=HPU.out.heap (fun h=>h) HBX.out;have HO2:=za (HO.out wr HPU.out);clear hbx_0 hbx_1 hbx_f hbx_l;clear H_hbx;obtain⟨hbr_0,hbr_1,hbr_f,hbr_l,H_hbr⟩:=cr2 hbr;clear hbr;go_upto_region 9 with(go_at_call 266;refine HO2.out.mono ?_;rintro e w3 ⟨a3,c3,rfl,hr3,hf3,hp3⟩)
   clear hbr_0 hbr_1 hbr_f hbr_l;clear H_hbr;have hI0:VcI w3 cnt byt tot (kT keep zs) [] a3 c3 k cs none 0 w3:=by
    obtain⟨a',c',e,hcap⟩:=qr hr3;injection e with e1 e2 e3
    subst e3;refine⟨zo.of_owns hr3 (Zs _),hcap,vJ _ _ _ _,(fun g hg=>by cases hg),Mod.refl _ _,?_,by rw[← HN.out];exact Kq keep zs,by rw[← HCS.out];exact zef keep zs,?_⟩
    ·rw[Yt,← HT.out];unfold ud;rw[HCS.out,HN.out]
    ·have:=Kq keep zs;have:=HN.out;have:=HL.out;simp;omega
   have HI0:=za hI0;have HP3:=za ((HAL.out.trans HPU.out).trans hp3);have hcs0:cs≤4611686018427387904:=by have:=HSU.out;have:=HL.out;have:=HCS.out;omega
   clear hr3 hf3 hp3 hI0;obtain⟨r0,hr0⟩:=zf ((kT keep zs).length);rw[hr0];have HR0:=za hr0;clear hr0;obtain⟨i0,hi,iz0,iz1,iz2⟩:=xG zgX;go_loopw [7,8,11,12] (fun v7 v8 v11 v12 wx => ∃(R:List Wt) (out:List Nat) (aR:Option Addr) (cR r n cost:Nat) (ao:Option Addr) (co o:Nat),v7=.int .i64 (n:Nat)∧v8=.int .i64 (cost:Nat)∧v11=.slice ao o co∧v12=.slice aR r cR∧R.length=r∧out.length=o∧n≤k∧cost≤cs∧VcI w3 cnt byt tot R out aR cR n cost ao co wx) (fun _ _ _ v12 _=>match v12 with | .slice _ m _=>m | _=>0)
   case atStart=>exact⟨kT keep zs,[],a3,c3,r0,k,cs,none,0,0,rfl,rfl,rfl,rfl,HR0.out,rfl,zI _,zI _,HI0.out⟩
   case round =>
    obtain⟨R,out,aR,cR,r,n,cost,ao,co,o,rfl,rfl,rfl,rfl,hRr,hoo,hnk,hcc,hI⟩:=hrel;have HI:=za hI;have HRr:=za hRr;have HOO:=za hoo;clear hI hRr hoo;have hend:vt cnt byt R n cost=[]→zb8 w tot (.returned (.slice ao o co)) wr:=fun h0=>by
     have ht:=HI.out.tot;rw[h0,jb]at ht;subst ht;exact⟨ao,co,by rw[HOO.out],HI.out.row,fun g hg=>by have:=HI.out.fr g hg;have:=HP3.out.size;omega,HP3.out.trans HI.out.pu⟩
    have HEN:=za hend;clear hend
    cases R with
    | nil =>
     obtain rfl:r=0:=HRr.out.symm;have he:=HEN.out rfl;clear HEN;go_wp2;go_ret;exact he
    | cons x R =>
     obtain⟨r',rfl⟩ : ∃ q,r=q+1:=⟨R.length,HRr.out.symm⟩;have hrl:R.length=r':=by have:=HRr.out;simp at this;exact this
     have hrd:=HI.out.rd;rw[kz,hrl]at hrd;have hcap:=HI.out.cap;rw[kz,hrl]at hcap;have hle:=HI.out.le;rw[kz,hrl]at hle;have hcs2:=HI.out.cs;rw[kj]at hcs2;have hol:=HI.out.ol;rw[kz,hrl,HOO.out]at hol;obtain⟨ad,had,z0,z1,ht⟩:=Qp (hrd.frame HI.out.pu (fun _ _ h=>h)) hcap;obtain⟨ad',had',z3,_,ht3⟩:=Qp hrd hcap;subst had;injection had' with had'
     subst had';clear ht;obtain⟨sv,hsv⟩:=zf ((if cR=1 then some ad else some (ad.add 2)));have hsl:=fun W=>zfd (ad:=ad) (n:=r') (c:=cR) W
     rw[hsv]at ht3;simp only[hsv]at hsl;have hvic:(cnt<n∨byt<cost)→vt cnt byt (x::R) n cost=x.slot::vt cnt byt R (n-1) (cost-x.cost):=fun h=>by rw[vt,zk h]
     have HV:=za hvic;have HT3:=za ht3;have HSV:=za hsv;have HRL:=za hrl;have HOL:=za hol;have HCP:=za hcap;have HLE:=za hle;have HC2:=za hcs2;have hstep:(cnt<n∨byt<cost) → ∀(W:World) (a7:Option Addr) (c7:Nat),yw W a7 c7 (out++[x.slot])→xp w3 (.slice a7 (out++[x.slot]).length c7)→zc w3 W→VcI w3 cnt byt tot R (out++[x.slot]) sv (cR-1) (n-1) (cost-x.cost) a7 c7 W:=fun h W a7 c7 q1 q2 q3=>by
      refine⟨by rw[HRL.out];exact HT3.out,by rw[HRL.out];have:=HCP.out;omega,q1,q2,q3,?_,by rw[HRL.out];have:=HLE.out;omega,by have:=HC2.out;omega,by rw[HRL.out,zV,HOO.out];have:=HOL.out;simp;omega⟩;rw[← HI.out.tot,HV.out h];simp
     have HST:=za hstep;have e1:(0:Int)<(r':Int)+1:=by omega
     have e2:IntKind.i64.wrap ((n:Int)-1)=((n-1:Nat):Int):=by rw[zt _ (by have:=HL.out;omega)];omega
     have e3:IntKind.i64.wrap ((cost:Int)-(x.cost:Int))=((cost-x.cost:Nat):Int):=by rw[zt _ (by omega)];omega
     have e4:(1:Int)≤(r':Int)+1:=by omega
     have e5:(r':Int)+1≤(cR:Int):=by omega
     clear hvic ht3 hsv hrl hol hcap hle hcs2 hstep hrd;by_cases h1:cnt<n
     ·have hor:cnt<n∨byt<cost := .inl h1;have d1:(cnt:Int)<(n:Int):=by omega
      have HOR:=za hor;clear hor h1 HEN;exact Az4lw
     ·by_cases h2:byt<cost
      ·have hor:cnt<n∨byt<cost := .inr h2;have d1 : ¬ (cnt:Int)<(n:Int):=by omega
       have d2:(byt:Int)<(cost:Int):=by omega
       have HOR:=za hor;clear hor h1 h2 HEN;exact Az4lw
      ·have d1 : ¬ (cnt:Int)<(n:Int):=by omega
       have d2 : ¬ (byt:Int)<(cost:Int):=by omega
       have he:=HEN.out (by rw[vt,zh (by omega)]);clear HEN h1 h2;go_wp2;go_ret;exact he
def zgc(w:World)(l:List Nat)(e:Ending)(w':World):Prop := ∃ a c,e=.returned (.tuple #[.slice a l.length c,.int .i64 0])∧yw w' a c l∧xp w (.slice a l.length c)∧zc w w'
theorem zed{a1 a2:Option Addr}{c1 c2 keep cnt byt:Nat}{xs ys:List Wt}(h1:zo w (.slice a1 xs.length c1) 2 (xs.flatMap wtC))(h2:zo w (.slice a2 ys.length c2) 2 (ys.flatMap wtC))
  (hl:(xs++ys).length≤2097152) (hr : ∀ x∈xs++ys,x.slot<4194304∧x.cost≤1099511627776) (hnd:(zA (xs++ys)).Nodup) (hcn:cnt≤4611686018427387904) (hby:byt≤4611686018427387904) :
  Calls prog 134 #[.slice a1 xs.length c1,.slice a2 ys.length c2,.int .u32 keep,.int .i64 cnt,.int .i64 byt] w (zgc w (ud cnt byt keep (xs++ys))):=by
 have HOf:=za (zhh (keep:=keep) h1 h2 hl (fun x hx=>by obtain⟨h3,h4⟩:=hr x hx;omega) hnd);have HVi:=za (fun(W:World) (a:Option Addr) (c:Nat) (h:zo W (.slice a (xs++ys).length c) 2 ((xs++ys).flatMap wtC))=>zft (keep:=keep) h hl (fun x hx=>(hr x hx).2) hcn hby);obtain⟨tot,htot⟩:=zf (ud cnt byt keep (xs++ys));rw[htot]at HVi ⊢;have d1 : ¬ (cnt:Int)<0:=by omega
 have d2 : ¬ (byt:Int)<0:=by omega
 obtain⟨zs,hzs⟩:=zf (xs++ys);rw[hzs]at HVi HOf;obtain⟨n1,hn1⟩:=zf xs.length;obtain⟨n2,hn2⟩:=zf ys.length;rw[hn1,hn2]at HOf ⊢;clear h1 h2 hl hr hnd htot hzs hn1 hn2;go_enter func134,ntmps134;go_upto_region 2 with(go_at_call 201;refine HOf.out.mono ?_;rintro e w3 ⟨a3,c3,rfl,hr3,hf3,hp3⟩)
 have hbx:=zj (w:=w3) (o := .cells #[.slice a3 zs.length c3,.int .u32 keep] 304 (0,0)) rfl;have hal:zc w3 (w3.alloc (.cells #[.slice a3 zs.length c3,.int .u32 keep] 304)):=(Mod.refl _ w3).alloc _;have HV:=za (HVi.out _ a3 c3 ((zo.of_owns hr3 (Zs zs)).frame hal (fun _ _ h=>h)));have HP:=za (hp3.trans hal);generalize w3.alloc (.cells #[.slice a3 zs.length c3,.int .u32 keep] 304)=W4 at *;generalize w3.heap.size=b4 at *;generalize zs.length=nz at *;clear hr3 hf3 hp3 hal;obtain⟨hbx_0,hbx_1,hbx_f,hbx_l,H_hbx⟩:=cr2 hbx;clear hbx
 go_wp2_with (go_at_call 202;refine HV.out.mono ?_;rintro e w5 ⟨a5,c5,rfl,hr5,hf5,hp5⟩)
 go_ret2;exact⟨a5,c5,rfl,hr5,fun g hg=>by have:=hf5 g hg;have:=HP.out.size;omega,HP.out.trans hp5⟩
end
end
end Go.Proofs.YtdohbogbnheakaaGreatDoor
