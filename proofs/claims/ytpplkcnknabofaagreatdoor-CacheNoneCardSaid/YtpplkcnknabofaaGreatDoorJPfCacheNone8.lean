/- Lemmas and contracts of functions. No condition. -/
import Derived.Test.YtpplkcnknabofaaGreatDoorJPfCacheNone7
import Derived.RegionTactic
import Derived.Deep.CutBlock
import Derived.Shelf.Spec.TrailingZeros
namespace Go.Proofs.YtpplkcnknabofaaGreatDoor
open _root_.Go.Proofs.Tryz
set_option maxRecDepth 100000
set_option maxHeartbeats 20000000
set_option linter.all false
section
open Go.RowKit
theorem zd6:(prog.info? 401).map (fun i=>(i.zero,i.size,i.bytes))=some (some (.agg #[.int .u32 0,.int .u32 0,.int .u32 0]),3,12):=by kernel_rfl
theorem ziw:(prog.info? 3).map (fun i=>(i.zero,i.size,i.bytes))=some (some (.int .i64 0),1,8):=by kernel_rfl
def uu(N H i:Nat):List Nd:=(List.range (N+H)).map (fun j=>if N≤j∧j<N+i then⟨j,j,j-N+1⟩else ndZ)
theorem j3(N H i:Nat):(uu N H i).length=N+H:=by simp[uu]
theorem Xu{N H i j:Nat}(hj:j<N+H):nd (uu N H i) j=if N≤j∧j<N+i then⟨j,j,j-N+1⟩else ndZ:=by
 unfold nd uu;rw[yw,qt hj]
 rfl
theorem zeG{N H i:Nat}(hi:i<H):(uu N H i).set (N+i) ⟨N+i,N+i,i+1⟩=uu N H (i+1):=by
 refine uF (fun j => ?_);by_cases hj:j<N+H
 ·have h1:(uu N H (i+1))[j]? = some (nd (uu N H (i+1)) j):=JK (by rw[j3];exact hj);rw[h1,Xu hj];by_cases e:N+i=j
  ·subst e;rw[yo (by rw[j3];omega),zk (by omega)]
   congr 2
   omega
  ·rw[yx e,JK (by rw[j3];exact hj),Xu hj]
   congr 1
   by_cases c:N≤j∧j<N+i
   ·rw[zk c,zk (by omega)]
   ·rw[zh c,zh (by omega)]
 ·rw[xN (by rw[xH,j3];omega),xN (by rw[j3];omega)]
theorem zkE(N H:Nat):uu N H 0=List.replicate (N+H) ndZ:=by
 unfold uu;refine uF (fun j => ?_);rw[yw,vW];by_cases hj:j<N+H
 ·rw[qt hj,zk hj]
  show some (if _ then _ else _)=_
  rw[zh (by omega)]
 ·rw[xN (by simpa using hj),zh hj];rfl
theorem zlA(m:Nat):xp (List.replicate m ndZ)=List.replicate (m*3) (.int .u32 0):=by
 induction m with
 | zero=>rfl
 | succ m ih =>
  rw[ZN]
  show ndC ndZ++xp _=_
  rw[ih,show(m+1)*3=m*3+1+1+1 by omega,ZN,ZN,ZN]
  rfl
theorem zi6(m:Nat):madeCells (Value.agg #[.int .u32 0,.int .u32 0,.int .u32 0]).cells (m*3)=(xp (List.replicate m ndZ)).toArray:=by
 rw[zlA,show(Value.agg #[.int .u32 0,.int .u32 0,.int .u32 0]).cells=#[.int .u32 0,.int .u32 0,.int .u32 0]from rfl];apply Array.ext_getElem?;intro k;unfold madeCells;rw[Array.getElem?_map,show(List.replicate (m*3) (Value.int .u32 0)).toArray[k]? = (List.replicate (m*3) (Value.int .u32 0))[k]? from vw,vW];by_cases hk:k<m*3
 ·rw[zk hk];rw[Y6,zk hk]
  show some (#[Value.int .u32 0,.int .u32 0,.int .u32 0][k%3]!)=_
  have:k%3=0∨k%3=1∨k%3=2:=by omega
  rcases this with e | e | e<;>rw[e]<;>rfl
 ·rw[zh hk,Y6,zh hk];rfl
theorem zjl(m:Nat):madeCells (Value.int .i64 0).cells (m*1)=(vY (List.replicate m [])).toArray:=by
 rw[show(Value.int .i64 0).cells=#[.int .i64 0]from rfl];apply Array.ext_getElem?;intro k;unfold madeCells vY;rw[Array.getElem?_map,List.map_replicate,show(List.replicate m (Value.int .i64 (([]:List Nat).length:Nat))).toArray[k]? = (List.replicate m (Value.int .i64 (([]:List Nat).length:Nat)))[k]? from vw,vW,qh];by_cases hk:k<m
 ·rw[zk hk,Y6,zk hk]
  show some (#[Value.int .i64 0][k%1]!)=_
  rw[Nat.mod_one];rfl
 ·rw[zh hk,Y6,zh hk];rfl
theorem zhV(N H:Nat):xI N (List.replicate H []) (uu N H H):=by
 have hl : ∀(h:Nat) (l:List Nat),(List.replicate H [])[h]? = some l→l=[]∧h<H:=fun h l hh=>by
  rw[vW]at hh;split at hh
  ·cases hh;exact⟨rfl,‹_›⟩
  ·cases hh
 refine⟨by rw[j3,vu],fun h l hh => ?_,fun h l hh => ?_,fun h l hh a ha => ?_,fun h hh => ?_,fun a ha hw => ?_⟩
 ·obtain⟨rfl,h1⟩:=hl h l hh;have:=Xu (N:=N) (H:=H) (i:=H) (j:=N+h) (by omega);rw[zk (by omega)]at this;exact⟨by rw[this],by rw[this],trivial⟩
 ·obtain⟨rfl,h1⟩:=hl h l hh;exact jv
 ·obtain⟨rfl,h1⟩:=hl h l hh;cases ha
 ·rw[vu]at hh;rw[Xu (by omega),zk (by omega)]
  show N+h-N+1=h+1
  omega
 ·rw[Xu (by omega),zh (by omega)]at hw;exact absurd rfl hw
structure kJ(w:World)(p gF gL N H i:Nat)(W:World):Prop where
 pu:zb w W
 box:W.heap[p]? = some (.cells #[.slice (some ⟨gF,0,none⟩) (N+H) (N+H),.int .i64 N,.slice (some ⟨gL,0,none⟩) H H] 397 (0,0))
 fld:W.heap[gF]? = some (.cells (xp (uu N H i)).toArray 401 (0,0))
 len:W.heap[gL]? = some (.cells (vY (List.replicate H [])).toArray 3 (0,0))
 fp:w.heap.size≤p
 fF:w.heap.size≤gF
 fL:w.heap.size≤gL
theorem zcV(w:World)(N H:Nat):kJ w (w.heap.size+1+1) w.heap.size (w.heap.size+1) N H 0 (((w.alloc (.cells (xp (uu N H 0)).toArray 401)).alloc (.cells (vY (List.replicate H [])).toArray 3)).alloc
  (.cells #[.slice (some ⟨w.heap.size,0,none⟩) (N+H) (N+H),.int .i64 N,.slice (some ⟨w.heap.size+1,0,none⟩) H H] 397)) :=
 ⟨(((Mod.refl _ w).alloc _).alloc _).alloc _,zi (by simp),zz (zz (zi rfl)),zz (zi (by simp)),by omega,zG _,by omega⟩
theorem zbA(w:World)(N H:Nat):kJ w (w.heap.size+1+1) (w.heap.size+1) w.heap.size N H 0 (((w.alloc (.cells (vY (List.replicate H [])).toArray 3)).alloc (.cells (xp (uu N H 0)).toArray 401)).alloc
  (.cells #[.slice (some ⟨w.heap.size+1,0,none⟩) (N+H) (N+H),.int .i64 N,.slice (some ⟨w.heap.size,0,none⟩) H H] 397)) :=
 ⟨(((Mod.refl _ w).alloc _).alloc _).alloc _,zi (by simp),zz (zi (by simp)),zz (zz (zi rfl)),by omega,by omega,zG _⟩
theorem kJ.drew{w W:World}{p gF gL N H i:Nat}(h:kJ w p gF gL N H i W):kJ w p gF gL N H i W.drew :=
 ⟨h.pu.drew,h.box,h.fld,h.len,h.fp,h.fF,h.fL⟩
theorem kJ.ring{w W:World}{p gF gL N H i:Nat}(h:kJ w p gF gL N H i W)(k:Nat):Calls prog 325 #[.int .i64 k,lkP p] W fun e w'=>k≤4096→N≤4194304→e=.returned (.int .u32 (N+k:Nat))∧W=w':=by
 have hb:=h.box;clear h;by_cases hk:k≤4096∧N≤4194304
 ·obtain⟨hb_0,hb_1,hb_2,hb_f,hb_l,H_hb⟩:=cr3 hb;clear hb;obtain⟨hk,hm⟩:=hk;have ws:IntKind.i64.wrap ((N:Int)+(k:Int))=(N:Int)+(k:Int):=zt _ (by omega);have wu:IntKind.u32.wrap ((N:Int)+(k:Int))=(N:Int)+(k:Int):=by simp[IntKind.wrap,IntKind.signed,IntKind.bits];omega
  have wk:IntKind.i64.wrap (k:Int)=k:=zt _ (by omega);go_enter func325,ntmps325;go_wp2;go_ret;exact fun _ _=>⟨by go_num,rfl⟩
 ·obtain⟨hb_0,hb_1,hb_2,hb_f,hb_l,H_hb⟩:=cr3 hb;clear hb;go_enter func325,ntmps325;go_wp2;go_ret;exact fun h1 h2=>absurd ⟨h1,h2⟩ hk
theorem kJ.next{w W:World}{p gF gL N H i:Nat}(h:kJ w p gF gL N H i W)(hi:i<H) :
  kJ w p gF gL N H (i+1) (((W.setCell ⟨gF,(N+i)*3,none⟩ (.int .u32 (N+i:Nat))).setCell ⟨gF,(N+i)*3+1,none⟩ (.int .u32 (N+i:Nat))).setCell ⟨gF,(N+i)*3+2,none⟩ (.int .u32 (i+1:Nat))):=by
 have hf:=Jo h.fld (i:=N+i) (by rw[j3];omega) (N+i) (N+i) (i+1);rw[zeG hi]at hf;have hm:Mod (fun k=>k=gF) W (((W.setCell ⟨gF,(N+i)*3,none⟩ (.int .u32 (N+i:Nat))).setCell ⟨gF,(N+i)*3+1,none⟩ (.int .u32 (N+i:Nat))).setCell ⟨gF,(N+i)*3+2,none⟩ (.int .u32 (i+1:Nat))) :=
  (((Mod.refl (fun b=>b=gF) W).setCell (p:=⟨gF,(N+i)*3,none⟩) (fun _=>rfl) _).setCell (p:=⟨gF,(N+i)*3+1,none⟩) (fun _=>rfl) _).setCell (p:=⟨gF,(N+i)*3+2,none⟩) (fun _=>rfl) _
 have n1:p≠gF:=by rintro rfl;have:=h.box.symm.trans h.fld;injection this with this;injection this with _ this;exact absurd this (by decide)
 have n2:gL≠gF:=by rintro rfl;have:=h.len.symm.trans h.fld;injection this with this;injection this with _ this;exact absurd this (by decide)
 exact⟨h.pu.then hm (fun k hk e=>by have:=h.fF;omega),hm.heap n1 h.box,hf,hm.heap n2 h.len,h.fp,h.fF,h.fL⟩
theorem J1(w:World){N H:Nat}(hN:1≤N)(hN2:N≤4194304)(hH:1≤H)(hH2:H≤4096) :
  Calls prog 275 #[.int .i64 N,.int .i64 H] w fun e w' => ∃ p D,e=.returned (.tuple #[lkP p,.int .i64 0])∧yk w' D p N (List.replicate H [])∧zb w w' ∧ ∀ k,D k→w.heap.size≤k:=by
 obtain⟨iN,hi,iz0,iz1,iz2⟩:=xn zd6;obtain⟨iL,hj,jz0,jz1,jz2⟩:=xn ziw;have ws:IntKind.i64.wrap ((N:Int)+(H:Int))=(N:Int)+(H:Int):=zt _ (by omega);have hmF : ∀ W:World,(Instr.makeSlice 394 (.int .i64 ((N:Int)+(H:Int))) (.int .i64 ((N:Int)+(H:Int)))).run prog W=.ok (.slice (some ⟨W.heap.size,0,none⟩) (N+H) (N+H)) (W.alloc (.cells (xp (uu N H 0)).toArray 401)):=fun W=>by
  have:=run_make W 394 401 iN _ underlying394 hi iz0 .i64 .i64 ((N:Int)+(H:Int)) ((N:Int)+(H:Int)) (by omega) (Int.le_refl _) (by rw[iz2];omega) (by omega);rw[iz1,show((N:Int)+(H:Int)).toNat=N+H by omega,zi6,← zkE]at this;exact this
 have hmL : ∀ W:World,(Instr.makeSlice 395 (.int .i64 (H:Int)) (.int .i64 (H:Int))).run prog W=.ok (.slice (some ⟨W.heap.size,0,none⟩) H H) (W.alloc (.cells (vY (List.replicate H [])).toArray 3)):=fun W=>by
  have:=run_make W 395 3 iL _ underlying395 hj jz0 .i64 .i64 (H:Int) (H:Int) (by omega) (Int.le_refl _) (by rw[jz2];omega) (by omega);rw[jz1,show((H:Int)).toNat=H by omega,zjl]at this;exact this
 have d1:decide ((N:Int)<1)=false:=zQ (by omega);have d2:decide ((4194304:Int)<(N:Int))=false:=zQ (by omega);have d3:decide ((H:Int)<1)=false:=zQ (by omega);have d4:decide ((4096:Int)<(H:Int))=false:=zQ (by omega);clear hi iz0 iz1 iz2 hj jz0 jz1 jz2;go_enter func275,ntmps275;go_upto_region 3 with fail
 go_cut [6] (fun v wx => ∃ p gF gL,v=lkP p∧kJ w p gF gL N H 0 wx)
 case first =>
  clear d1 d2 d3 d4
  go_region
  all_goals
   (try go_wp2)
   go_meet
   first
    | exact⟨_,_,_,rfl,zcV w N H⟩
    | exact⟨_,_,_,rfl,zbA w N H⟩
    | exact⟨_,_,_,rfl,(zcV w N H).drew⟩
    | exact⟨_,_,_,rfl,(zbA w N H).drew⟩
 case rest =>
  obtain⟨p,gF,gL,rfl,hinv⟩:=hcut;have HI:=za hinv;clear hinv hmF hmL ws d1 d2 d3 d4;go_upto_region 5 with fail
  go_loopw [33] (fun v wr => ∃ i,v=.int .i64 (i:Nat)∧i≤H∧kJ w p gF gL N H i wr) (fun v _=>H-(intOf v).toNat)
  case atStart=>exact⟨0,rfl,yh _,HI.out⟩
  case round =>
   clear HI;obtain⟨i,rfl,hi,hinv⟩:=hrel;have HI:=za hinv;have hb:=hinv.box;by_cases hlt:i<H
   ·have hlt':(i:Int)<(H:Int):=by omega
    have i0:(0:Int)≤(i:Int):=by omega
    have wi:IntKind.i64.wrap ((i:Int)+1)=(i:Int)+1:=zt _ (by omega);have wi0:IntKind.i64.wrap (i:Int)=(i:Int):=zt _ (by omega);have wu:IntKind.u32.wrap ((i:Int)+1)=(i:Int)+1:=by have:=X6 (i+1) (by omega);simpa using this
    have HR:=za (hinv.ring i);have HNx:=za (hinv.next hlt);obtain⟨r,hr⟩:=zc (N+i);rw[hr]at HR HNx;have hrl:r<N+H:=by omega
    obtain⟨q0,q1,q2⟩:=Z6 hinv.fld (i:=r) (by rw[j3];exact hrl);have g0:=yP wr gF (r*3) _ _ hinv.fld;have g1:=yP wr gF (r*3+1) _ _ hinv.fld;have g2:=yP wr gF (r*3+2) _ _ hinv.fld;have hX:gF<wr.heap.size:=zl hinv.fld;obtain⟨M,hM⟩:=zc (N+H);rw[hM]at hb hrl;have hMb:M≤4198400:=by omega
    have dr:decide (r<M)=true:=zL hrl;clear hinv hr hM;obtain⟨hb_0,hb_1,hb_2,hb_f,hb_l,H_hb⟩:=cr3 hb;clear hb
    go_wp2_with (go_at_call 325;refine HR.out.mono ?_;rintro e w' he;obtain⟨rfl,rfl⟩:=he (by omega) (by omega))
    go_roundw
    case rel=>exact⟨i+1,by go_num,hlt,by have:=HNx.out;simpa using this⟩
    case measure=>simp[intOf];omega
   ·have e:H=i:=by omega
    subst e;have hend:yk wr (fun k=>k=p∨k=gF∨k=gL) p N (List.replicate H []):=⟨gF,gL,N+H,H,uu N H H,⟨by rw[j3,vu];exact hinv.box,hinv.fld,hinv.len,zhV N H,hN,hN2,by rw[vu];exact hH2⟩,fun k=>vE⟩;have HE:=za hend;clear hend hinv hlt hi hb;go_wp2;go_ret2;exact⟨p,_,rfl,HE.out,HI.out.pu,fun k hk=>by rcases hk with rfl | rfl | rfl;exact HI.out.fp;exact HI.out.fF;exact HI.out.fL⟩
theorem jC:(prog.info? 114).map (fun i=>(i.zero,i.size,i.bytes))=some (some (.int .u32 0),1,4):=by kernel_rfl
def zU(xs:List Nat):List Value:=xs.map (fun x:Nat=>(.int .u32 x:Value))
theorem qA(a b:List Nat):zU (a++b)=zU a++zU b:=by simp[zU]
theorem qd(a:List Nat):(zU a).length=a.length:=by simp[zU]
abbrev yr(w:World)(a:Option Addr)(c:Nat)(xs:List Nat):Prop:=w.ownsRow 0 114 1 (.slice a xs.length c) xs.length (zU xs)
def xA(w:World)(v:Value):Prop := ∀ g,v.ownBlock=some g→w.heap.size≤g
theorem Xv(xs:List Nat) : ∀ u∈zU xs,u.oneCell'=true:=by
 intro u hu;unfold zU at hu;obtain⟨x,_,rfl⟩:=zI.1 hu
 rfl
theorem zcK{F:List Nd} : ∀ {l:List Nat} {a:Nat},Ch F a l → ∀(i x y:Nat),(a::l)[i]? = some x→l[i]? = some y→(nd F x).nx=y
 | [],_,_,i,x,y,_,h=>by simp at h
 | z::l,a,⟨h1,h2,h3⟩,0,x,y,hx,hy=>by
  simp at hx hy;rw[← hx,h1,hy]
 | z::l,a,⟨h1,h2,h3⟩,i+1,x,y,hx,hy=>zcK h3 i x y (by simpa using hx) (by simpa using hy)
theorem uU.at_{F:List Nd}{r:Nat}{l:List Nat}(h:uU F r l){i x y:Nat}(hx:(r::l)[i]? = some x)(hy:(l++[r])[i]? = some y):(nd F x).nx=y:=by
 refine zcK h i x y ?_ hy;rw[← zcH,ur (by exact(zF.1 hx).1)];exact hx
section
variable{w w':World}{p N:Nat}{Ls:List (List Nat)}{D:Nat→Prop}
theorem J4(h:yk w D p N Ls){k:Nat}{l:List Nat}(hl:Ls[k]? = some l) :
    Calls prog 307 #[lkP p,.int .i64 k] w fun e w' => ∃ a c,e=.returned (.slice a l.length c)∧yr w' a c l∧xA w (.slice a l.length c)∧zb w w':=by
  obtain⟨gF,gL,cF,cL,F,h,_⟩:=h;have hk:k<Ls.length:=(zF.1 hl).1;have hk4:k≤4096:=by have:=h.hm;omega
  have HLi:=za (Uj h hk);have HRi:=za (Ks h hk4);have HNX:Hid (∀ {i x y:Nat},((N+k)::l)[i]? = some x→(l++[N+k])[i]? = some y→(nd F x).nx=y):=za (fun hx hy=>(h.ok.ring k l hl).at_ hx hy);have HLT:Hid (∀(i x:Nat),(l++[N+k])[i]? = some x→x<F.length∧(i<l.length→x<N∧l[i]? = some x)∧(l.length≤i→x=N+k)):=za (fun i x hx=>by
    have hm:=yd hx;refine⟨(h.ok.mem_lt hl x hm).1,fun hi => ?_,fun hi => ?_⟩
    · rw[ur hi]at hx
      exact⟨(h.ok.own k l hl x (yd hx)).1,hx⟩
    · rw[ji hi]at hx
      rw[List.getElem?_singleton]at hx;split at hx
      · injection hx with hx;exact hx.symm
      · cases hx)
  have hll:l.length≤N:=h.ok.short hl;have hnm:=h.nm;have hFb:F.length≤4198400:=by rw[h.ok.len];have:=h.hm;omega
  have hNF:N+k<F.length:=h.ok.hd_lt hk;obtain⟨FL,hFL⟩:=zc F.length;rw[hFL]at hFb hNF HLT;obtain⟨c0,c1,c2⟩:=h.at_ (i:=N+k) (by rw[hFL];exact hNF);obtain⟨y0,hy0⟩ : ∃ y,(l++[N+k])[0]? = some y:=⟨_,zN (by simp)⟩;rw[HNX.out (i:=0) rfl hy0]at c1;have hb:=h.box;rw[hFL]at hb;have HB:=za hb;have HM:=za h;have HFLe:=za hFL;obtain⟨r,hr⟩:=zc (N+k);rw[hr]at HRi HNX HLT hNF c1 hy0;have HY0:=za hy0;have hNr:N≤r:=by omega
  have dr:decide (r<FL)=true:=zL hNF;have HY0L:=HLT.out _ _ hy0;have hy0b:y0<FL:=HY0L.1;clear h hl hFL hr c0 c2 hy0 HY0L;obtain⟨hb_0,hb_1,hb_2,hb_f,hb_l,H_hb⟩:=cr3 hb;clear hb;obtain⟨i0,hi,iz0,iz1,iz2⟩:=xn jC;go_enter func307,ntmps307
  go_upto_block 0 with(first
    | (go_at_call 350;refine HLi.out.mono ?_;rintro e w' ⟨rfl,rfl⟩)
    | (go_at_call 325;refine HRi.out.mono ?_;rintro e w' ⟨rfl,rfl⟩))
  go_wp2_with fail
  have t1:=HM.out;clear t1;clear hb_0 hb_1 hb_2 hb_f hb_l;clear H_hb;go_loopw [6,7] (fun v6 v7 wr => ∃(i:Nat) (a:Option Addr) (c:Nat) (y:Nat),v7=.int .u32 y∧i≤l.length∧(l++[r])[i]? = some y∧v6=.slice a i c∧yr wr a c (l.take i)∧xA w (.slice a i c)∧zb w wr) (fun v6 _ _=>l.length-(match v6 with | .slice _ n _=>n | _=>0))
  case atStart=>exact⟨0,none,0,y0,rfl,yh _,HY0.out,rfl,vj _ _ _ _,(fun g hg=>by cases hg),Mod.refl _ _⟩
  case round =>
    obtain⟨i,a,c,y,rfl,hi9,hy,rfl,hrow,hfr,hpu⟩:=hrel;obtain⟨hy1,hy2,hy3⟩:=HLT.out _ _ hy;have HY:=za hy;have HMr:=za (HM.out.pure hpu);have hb:=hpu.heap (fun h=>h) HB.out;have hcl:=(HMr.out.at_ (i:=y) (by rw[HFLe.out];exact hy1));obtain⟨q0,q1,q2⟩:=hcl;have HRow:=za hrow;have HFR:=za hfr;have HPU:=za hpu;clear hy hrow hfr hpu q0 q2;by_cases hlt:i<l.length
    · obtain⟨hy4,hy5⟩:=hy2 hlt
      have hne:((y:Int)==(r:Int))=false:=by simp;omega
      have hne2:((y:Int) != (r:Int))=true:=by simp;omega
      obtain⟨y',hy'⟩ : ∃ y',(l++[r])[i+1]? = some y':=⟨_,zN (by simp;omega)⟩;have hnx:(nd F y).nx=y':=HNX.out (i:=i+1) (by simpa using hy5) hy';rw[hnx]at q1;have hy'b:=(HLT.out _ _ hy').1;have dy:decide (y<FL)=true:=zL hy1;have htk:l.take (i+1)=l.take i++[y]:=by rw[ua,hy5];rfl
      have htl:(l.take i).length=i:=by rw[Zn];omega
      have HTK:=za htk;have HTL:=za htl;have HY':=za hy';have hrr:wr.ownsRow 0 114 1 (.slice a i c) i (zU (l.take i)):=by have:=HRow.out;unfold yr at this;rw[htl]at this;exact this
      have HRR:=za hrr;have q1b:=q1;clear htk htl hy' hnx hrr hy2 hy3 hy5 q1;obtain⟨hb_0,hb_1,hb_2,hb_f,hb_l,H_hb⟩:=cr3 hb;clear hb;go_upto_region 7 with(at_builtin;refine ul _ rfl _ _ 132 rfl 114 i0 _ 1 4 underlying132 hi iz0 iz1 iz2 rfl (by decide) (.slice a i c) i _ rfl (zy HRR.out ((Mod.refl (fun _=>False) wr).alloc _) (fun _ _ h=>h)) _ [.int .u32 (y:Nat)] 1 rfl (zn.of_block 1 1 1 (zi rfl) (by rfl) (by simp[Value.oneCell'])) rfl (by unfold maxLen;omega) (by omega) ?_;intro a7 c7 w5 hr7 hg7 hb7)
      have hpw:zb w w5:=(HPU.out.alloc _).then (Mod.of_grown (S:=fun k'=>(Value.slice a i c).ownBlock=some k') hg7 (fun k e _=>e)) (fun k hk e=>by have:=HFR.out k e;omega);have hfw:xA w (.slice a7 (i+1) c7):=fun k hk=>by
        rcases hb7 with e | e
        · exact HFR.out k (e ▸ hk)
        · rw[e]at hk;cases hk;exact(HPU.out.alloc _).size
      have HPW:=za hpw;have HFW:=za hfw;have HR7:=za hr7;have hb5:=hpw.heap (fun h=>h) HB.out;obtain⟨z0,z1,z2⟩:=((HM.out.pure hpw).at_ (i:=y) (by rw[HFLe.out];exact hy1));rw[HNX.out (i:=i+1) (by have:=(HLT.out _ _ HY.out).2.1 hlt;simpa using this.2) HY'.out]at z1;clear hb_0 hb_1 hb_2 hb_f hb_l;clear H_hb hpw hfw hr7 hg7 hb7 q1b z0 z2 hne hne2;obtain⟨hb5_0,hb5_1,hb5_2,hb5_f,hb5_l,H_hb5⟩:=cr3 hb5;clear hb5;go_wp2;go_roundw
      case rel=>exact⟨i+1,a7,c7,y',rfl,hlt,HY'.out,rfl,by unfold yr;rw[HTK.out,zR,HTL.out,qA];exact HR7.out,HFW.out,HPW.out⟩
      case measure=>simp;omega
    · have hri:y=r:=hy3 (by omega)
      have hil:i=l.length:=by omega
      subst hri hil;have HTA:Hid (l.take l.length=l):=za (by rw[List.take_length]);clear hy2 hy3 hlt hi9;go_wp2;go_ret;refine⟨a,c,rfl,?_,HFR.out,HPU.out⟩;have:=HRow.out;rw[HTA.out]at this;exact this
end
abbrev mkP(p:Nat):Value := .pointer (some ⟨p,1,none⟩)
def whC(q:Nat)(f:Nat→Bool)(many:Int):Array Value:=#[.pointer (some ⟨q,0,none⟩),.int .u64 (xg f 0:Nat),.int .u64 (xg f 1:Nat),.int .u64 (xg f 2:Nat),.int .u64 (xg f 3:Nat),.int .i64 many]
theorem KI{q:Nat}{f:Nat→Bool}{many:Int}{k:Nat}(hk:k<4):(whC q f many)[1+k]? = some (.int .u64 (xg f k:Nat)):=by
 have arr : ∀(a x0 x1 x2 x3 z:Value),(#[a,x0,x1,x2,x3,z]:Array Value)[1+0]? = some x0∧(#[a,x0,x1,x2,x3,z]:Array Value)[1+1]? = some x1∧(#[a,x0,x1,x2,x3,z]:Array Value)[1+2]? = some x2∧(#[a,x0,x1,x2,x3,z]:Array Value)[1+3]? = some x3:=fun _ _ _ _ _ _=>⟨rfl,rfl,rfl,rfl⟩
 have:k=0∨k=1∨k=2∨k=3:=by omega
 unfold whC;rcases this with rfl | rfl | rfl | rfl
 ·exact(arr _ _ _ _ _ _).1
 ·exact(arr _ _ _ _ _ _).2.1
 ·exact(arr _ _ _ _ _ _).2.2.1
 ·exact(arr _ _ _ _ _ _).2.2.2
theorem zbX{q:Nat}{f:Nat→Bool}{many:Int}{b:Nat}{v:Bool}{x:Nat}(hb:b<256)(hx:x=xg (vL f b v) (b/64)):(whC q f many).setIfInBounds (1+b/64) (.int .u64 (x:Nat))=whC q (vL f b v) many:=by
 rw[hx];clear hx;have h:=fun k (hk:k≠b/64)=>zhk (f:=f) (b:=b) (v:=v) hk
 have:b/64=0∨b/64=1∨b/64=2∨b/64=3:=by omega
 have arr : ∀(a x0 x1 x2 x3 y z:Value),(#[a,x0,x1,x2,x3,z]:Array Value).setIfInBounds (1+0) y=#[a,y,x1,x2,x3,z]∧(#[a,x0,x1,x2,x3,z]:Array Value).setIfInBounds (1+1) y=#[a,x0,y,x2,x3,z]∧(#[a,x0,x1,x2,x3,z]:Array Value).setIfInBounds (1+2) y=#[a,x0,x1,y,x3,z]∧(#[a,x0,x1,x2,x3,z]:Array Value).setIfInBounds (1+3) y=#[a,x0,x1,x2,y,z]:=fun _ _ _ _ _ _ _=>⟨rfl,rfl,rfl,rfl⟩
 rcases this with e | e | e | e<;>rw[e]at h ⊢ <;> unfold whC
 ·rw[(arr _ _ _ _ _ _ _).1,h 1 (by decide),h 2 (by decide),h 3 (by decide)]
 ·rw[(arr _ _ _ _ _ _ _).2.1,h 0 (by decide),h 2 (by decide),h 3 (by decide)]
 ·rw[(arr _ _ _ _ _ _ _).2.2.1,h 0 (by decide),h 1 (by decide),h 3 (by decide)]
 ·rw[(arr _ _ _ _ _ _ _).2.2.2,h 0 (by decide),h 1 (by decide),h 2 (by decide)]
section
variable{w w':World}{p q:Nat}{f:Nat→Bool}{many:Int}
theorem zgi(h:w.heap[p]? = some (.cells (whC q f many) 383 (0,0))){b:Nat}(hb:b<256) :
  Calls prog 366 #[mkP p,.int .i64 b] w fun e w'=>e=.returned (.tuple #[])∧w'.heap[p]? = some (.cells (whC q (vL f b true) many) 383 (0,0))∧Mod (fun k=>k=p) w w':=by
 have hk:b/64<4:=by omega
 have hr:b%64<64:=vr _ (by decide);have c0:w.cell? ⟨p,1+b/64,none⟩=some (.int .u64 (xg f (b/64):Nat)):=by rw[zf w p _ _ _ (0,0) h];exact KI hk
 have g0:=yP w p (1+b/64) _ _ h;have hlt:p<w.heap.size:=zl h;have wq:wrap64 ((b:Int)/64)=((b/64:Nat):Int):=by rw[show(b:Int)/64=((b/64:Nat):Int) by omega];exact jV _ (by omega)
 have eq1:(b:Int)/64=((b/64:Nat):Int):=by omega
 have eq2:(b:Int)%64=((b%64:Nat):Int):=by omega
 have HS:=za (zeH (f:=f) (b:=b));have hwl:=JV f (b/64);have hpl:2 ^ (b%64)<18446744073709551616:=Nat.pow_lt_pow_right (a:=2) (by decide) (show b%64<64 by omega);have hc2:((2 ^ (b%64):Nat):Int)=(2:Int) ^ (b%64):=by simp
 have hw2:=uJ (2 ^ (b%64)) hpl;rw[hc2]at hw2;have hor:=VJ (xg f (b/64)) (2 ^ (b%64)) hwl hpl;rw[hc2]at hor;clear hc2;have b0:(0:Int)≤(b:Int):=by omega
 have b1:(b:Int)<256:=by omega
 have HH:=za h;have HB:=za hb;obtain⟨k,hk'⟩ : ∃ k,b/64=k:=⟨_,rfl⟩;have HK:=za hk';clear h hb hk;rw[hk']at c0 g0 wq eq1 HS hwl hor;clear hk';generalize xg f k=x at *;generalize b%64=r at *;go_enter func366,ntmps366
 go_region
 have e1:=zP w p (1+k) _ _ (.int .u64 ((x ||| 2 ^ r:Nat):Int)) HH.out;have e2:=((Mod.refl (fun k=>k=p) w).setCell (p:=⟨p,1+k,none⟩) (fun _=>rfl) (.int .u64 ((x ||| 2 ^ r:Nat):Int))).drew;have e3:(whC q f many).setIfInBounds (1+k) (.int .u64 ((x ||| 2 ^ r:Nat):Int))=whC q (vL f b true) many:=by
  have:=zbX (q:=q) (f:=f) (many:=many) (v:=true) (x:=x ||| 2 ^ r) HB.out (by rw[HK.out];exact HS.out);rw[HK.out]at this;exact this
 rw[e3]at e1
 go_end0
 exact⟨rfl,e1,e2⟩
theorem zgy(h:w.heap[p]? = some (.cells (whC q f many) 383 (0,0))){b:Nat}(hb:b<256) :
  Calls prog 333 #[mkP p,.int .i64 b] w fun e w'=>e=.returned (.tuple #[])∧w'.heap[p]? = some (.cells (whC q (vL f b false) many) 383 (0,0))∧Mod (fun k=>k=p) w w':=by
 have hk:b/64<4:=by omega
 have hr:b%64<64:=vr _ (by decide);have c0:w.cell? ⟨p,1+b/64,none⟩=some (.int .u64 (xg f (b/64):Nat)):=by rw[zf w p _ _ _ (0,0) h];exact KI hk
 have g0:=yP w p (1+b/64) _ _ h;have hlt:p<w.heap.size:=zl h;have wq:wrap64 ((b:Int)/64)=((b/64:Nat):Int):=by rw[show(b:Int)/64=((b/64:Nat):Int) by omega];exact jV _ (by omega)
 have eq1:(b:Int)/64=((b/64:Nat):Int):=by omega
 have eq2:(b:Int)%64=((b%64:Nat):Int):=by omega
 have HS:=za (zim (f:=f) (b:=b));have hwl:=JV f (b/64);have hpl:2 ^ (b%64)<18446744073709551616:=Nat.pow_lt_pow_right (a:=2) (by decide) (show b%64<64 by omega);have hc2:((2 ^ (b%64):Nat):Int)=(2:Int) ^ (b%64):=by simp
 have hw2:=uJ (2 ^ (b%64)) hpl;rw[hc2]at hw2;have hor:=Qn (xg f (b/64)) (2 ^ (b%64)) _ hwl hpl rfl;rw[hc2]at hor;clear hc2;have b0:(0:Int)≤(b:Int):=by omega
 have b1:(b:Int)<256:=by omega
 have HH:=za h;have HB:=za hb;obtain⟨k,hk'⟩ : ∃ k,b/64=k:=⟨_,rfl⟩;have HK:=za hk';clear h hb hk;rw[hk']at c0 g0 wq eq1 HS hwl hor;clear hk';generalize xg f k=x at *;generalize b%64=r at *;go_enter func333,ntmps333
 go_region
 have e1:=zP w p (1+k) _ _ (.int .u64 ((x &&& (18446744073709551615-2 ^ r):Nat):Int)) HH.out;have e2:=((Mod.refl (fun k=>k=p) w).setCell (p:=⟨p,1+k,none⟩) (fun _=>rfl) (.int .u64 ((x &&& (18446744073709551615-2 ^ r):Nat):Int))).drew;have e3:(whC q f many).setIfInBounds (1+k) (.int .u64 ((x &&& (18446744073709551615-2 ^ r):Nat):Int))=whC q (vL f b false) many:=by
  have:=zbX (q:=q) (f:=f) (many:=many) (v:=false) (x:=x &&& (18446744073709551615-2 ^ r)) HB.out (by rw[HK.out];exact HS.out);rw[HK.out]at this;exact this
 rw[e3]at e1
 go_end0
 exact⟨rfl,e1,e2⟩
end
def uL(Ls:List (List Nat))(h j:Nat):List (List Nat):=(List.range Ls.length).map (fun k=>if k<h then Ls.getD k []else if k=h then(Ls.getD h []).take j else[])
theorem Zs(Ls:List (List Nat))(h j:Nat):(uL Ls h j).length=Ls.length:=by simp[uL]
theorem qV{Ls:List (List Nat)}{h j k:Nat}(hk:k<Ls.length):(uL Ls h j)[k]? = some (if k<h then Ls.getD k []else if k=h then(Ls.getD h []).take j else[]):=by
 unfold uL;rw[yw,qt hk];rfl
theorem Xg{Ls:List (List Nat)}{h:Nat}{l:List Nat}(hl:Ls[h]? = some l):Ls.getD h []=l:=by rw[vS,hl];rfl
theorem zdZ(Ls:List (List Nat)):uL Ls 0 0=List.replicate Ls.length []:=by
 refine uF (fun k => ?_);rw[vW];by_cases hk:k<Ls.length
 ·rw[qV hk,zk hk,zh (by omega)];split<;>simp
 ·rw[zh hk,xN (by rw[Zs];omega)]
theorem zeb(Ls:List (List Nat))(j:Nat):uL Ls Ls.length j=Ls:=by
 refine uF (fun k => ?_);by_cases hk:k<Ls.length
 ·rw[qV hk,zk hk,vS,zN hk];rfl
 ·rw[xN (by rw[Zs];omega),xN (by omega)]
theorem zhu{Ls:List (List Nat)}{h:Nat}{l:List Nat}(hl:Ls[h]? = some l):uL Ls h l.length=uL Ls (h+1) 0:=by
 refine uF (fun k => ?_);by_cases hk:k<Ls.length
 ·rw[qV hk,qV hk,Xg hl,List.take_length]
  congr 1
  by_cases c1:k<h
  ·rw[zk c1,zk (by omega)]
  ·rw[zh c1];by_cases c2:k=h
   ·subst c2;rw[zk rfl,zk (by omega),Xg hl]
   ·rw[zh c2,zh (by omega)];split<;>simp
 ·rw[xN (by rw[Zs];omega),xN (by rw[Zs];omega)]
theorem zgR{Ls:List (List Nat)}{h j:Nat}{l:List Nat}(hl:Ls[h]? = some l):(uL Ls h j)[h]? = some (l.take j):=by
 rw[qV (zF.1 hl).1,zh (by omega),zk rfl,Xg hl]
theorem zfw{Ls:List (List Nat)}{h j n:Nat}{l:List Nat}(hl:Ls[h]? = some l)(hn:l[j]? = some n):(uL Ls h j).set h (l.take j++[n])=uL Ls h (j+1):=by
 have hh:=(zF.1 hl).1;refine uF (fun k => ?_);by_cases hk:k<Ls.length
 ·rw[qV hk];by_cases e:h=k
  ·subst e;rw[yo (by rw[Zs];exact hk),zh (by omega),zk rfl,Xg hl,ua,hn]
   rfl
  ·rw[yx e,qV hk];simp only[if_neg (fun c:k=h=>e c.symm)]
 ·rw[xN (by rw[xH,Zs];omega),xN (by rw[Zs];omega)]
theorem zk9{N:Nat}{Ls:List (List Nat)}{F:List Nd}(ok:xI N Ls F){h j n:Nat}{l:List Nat}(hl:Ls[h]? = some l)(hn:l[j]? = some n) : ¬ inL (uL Ls h j) n:=by
 rintro⟨k,m,hm,hmem⟩;have hnl:=yd hn;have hk:k<Ls.length:=by have:=(zF.1 hm).1;rwa [Zs]at this
 rw[qV hk]at hm;injection hm with hm
 have h1:=(ok.own h l hl n hnl).2;by_cases c1:k<h
 ·rw[zk c1]at hm;have hLk:Ls[k]? = some m:=by rw[← hm,vS,zN hk];rfl
  have:=(ok.own k m hLk n hmem).2;omega
 ·rw[zh c1]at hm;by_cases c2:k=h
  ·rw[zk c2,Xg hl]at hm;rw[← hm]at hmem;obtain⟨i,hi⟩:=ug hmem;rw[jT]at hi;split at hi
   ·have hnd:=ok.nodup h l hl;have:=(List.getElem?_inj (zF.1 hi).1 hnd (j:=j)).1 (hi.trans hn.symm);omega
   ·cases hi
  ·rw[zh c2]at hm;rw[← hm]at hmem
   cases hmem
theorem Xw{W:World}{a:Option Addr}{n c:Nat}{xs:List Nat}(h:zn W (.slice a n c) 1 (zU xs)){j y:Nat}(hy:xs[j]? = some y) : ∃ ad,a=some ad∧W.cell? (ad.add j)=some (.int .u32 y):=by
 obtain⟨a',n',c',e,hl,_,h0,hc⟩:=h
 cases e
 have hu:(zU xs)[j]? = some (.int .u32 y):=by unfold zU;rw[yw,hy];rfl
 cases a with
 | none =>
  have h1:=h0 rfl;have h2:=(zF.1 hu).1;omega
 | some ad=>exact⟨ad,rfl,hc ad rfl j _ hu⟩
theorem qi{W:World}{a:Option Addr}{c:Nat}{xs:List Nat}(h:yr W a c xs):zn W (.slice a xs.length c) 1 (zU xs):=zn.of_owns h (Xv xs)
theorem zb1{X:World}{b:Nat}{u0 u1 u2 v0 v1 v2:Value}{T:TypeId}(h:X.heap[b]? = some (.cells #[u0,u1,u2] T (0,0))) :
  (((X.setCell ⟨b,0,none⟩ v0).setCell ⟨b,1,none⟩ v1).setCell ⟨b,2,none⟩ v2).heap[b]? = some (.cells #[v0,v1,v2] T (0,0)):=by
 have h1:=zP X b 0 _ T v0 h;have h2:=zP _ b 1 _ T v1 h1;have h3:=zP _ b 2 _ T v2 h2;simpa using h3
section
variable{w w':World}{p N:Nat}{Ls:List (List Nat)}{D:Nat→Prop}
theorem yk.lenH(h:yk w D p N Ls):Ls.length≤4096∧N≤4194304∧1≤N:=by obtain⟨gF,gL,cF,cL,F,h1,h2⟩:=h;exact⟨h1.hm,h1.nm,h1.n1⟩
theorem zcW(h:yk w D p N Ls)(hH:1≤Ls.length)(a:Option Addr)(c:Nat)(hto:zn w (.slice a N c) 1 (zU (List.range N))){M:Nat}(hNM:N≤M)(hM:M≤4194304) :
    Calls prog 360 #[lkP p,.slice a N c,.int .i64 M] w fun e w'=>e=.returned (.int .i64 0)∧(∃ D',yk w' D' p M Ls ∧ ∀ k,D' k→k=p∨w.heap.size≤k)∧Mod (fun k=>k=p) w w':=by
  obtain⟨h4,h5,h6⟩:=h.lenH;have HAt:=za h;obtain⟨gF,gL,cF,cL,F,hm,hD⟩:=h;have HOK:=za hm.ok;have HTO:=za hto;have HN:=za (Xt hm);obtain⟨H,hHe⟩:=zc Ls.length;have HNe:=za (J1 w (N:=M) (H:=H) (by omega) hM (by omega) (by omega));have hb:=hm.box;obtain⟨FL,hFL⟩:=zc F.length;rw[hHe,hFL]at hb;rw[hHe]at h4 hH;have HB:=za hb;have HHe:=za hHe;clear hm hD hFL hto hHe;have wH:IntKind.i64.wrap (H:Int)=H:=zt _ (by omega);have wN:IntKind.i64.wrap (N:Int)=N:=zt _ (by omega);obtain⟨hb_0,hb_1,hb_2,hb_f,hb_l,H_hb⟩:=cr3 hb;clear hb;go_enter func360,ntmps360;go_upto_region 4 with(first
    | (go_at_call 380;refine HN.out.mono ?_;rintro e w' ⟨rfl,rfl⟩)
    | (go_at_call 275;refine HNe.out.mono ?_;rintro e w1 ⟨q,D2,rfl,hq,hp1,hf1⟩))
  have hb1:=hp1.heap (fun h=>h) HB.out;have HQ:=za hq;have HP1:=za hp1;have HF1:=za hf1;clear hb_0 hb_1 hb_2 hb_f hb_l;clear H_hb hq hp1 hf1;have HB1:=za hb1;obtain⟨hb1_0,hb1_1,hb1_2,hb1_f,hb1_l,H_hb1⟩:=cr3 hb1;clear hb1;go_upto_region 7 with fail
  clear hb1_0 hb1_1 hb1_2 hb1_f hb1_l;clear H_hb1;go_loopw [40] (fun v wr => ∃ i,v=.int .i64 (i:Nat)∧i≤H∧yk wr D2 q M (uL Ls i 0)∧zb w wr) (fun v _=>H-(intOf v).toNat)
  case atStart=>exact⟨0,rfl,yh _,by rw[zdZ,HHe.out];exact HQ.out,HP1.out⟩
  case round =>
    clear HQ HP1 HB1;obtain⟨i,rfl,hi,hq,hpw⟩:=hrel;have HQ:=za hq;have HPW:=za hpw;clear hq hpw;by_cases hlt:i<H
    · have hlt':(i:Int)<(H:Int):=by omega
      have i0:(0:Int)≤(i:Int):=by omega
      have wi:IntKind.i64.wrap ((i:Int)+1)=(i:Int)+1:=zt _ (by omega);obtain⟨l,hl⟩ : ∃ l,Ls[i]? = some l:=⟨_,zN (by rw[HHe.out];exact hlt)⟩;have HL:=za hl;have HAl:=za (J4 (HAt.out.pure HPW.out) hl);have hll:l.length≤N:=HOK.out.short hl;obtain⟨n,hn⟩:=zc l.length;rw[hn]at HAl hll;have HLN:=za hn;clear hl hn;go_upto_region 10 with(go_at_call 307;refine HAl.out.mono ?_;rintro e w3 ⟨a3,c3,rfl,hrow,hfr,hp3⟩)
      have hnD : ∀ g,(Value.slice a3 n c3).ownBlock=some g → ¬ D2 g:=fun g hg e=>by have:=hfr g hg;have:=HQ.out.lt e;omega
      have HRow:=za hrow;have HND:=za hnD;have HQ3:=za (HQ.out.pure hp3);have HP3:=za (HPW.out.trans hp3);clear hrow hfr hp3 hnD HAl;have wn:IntKind.i64.wrap (n:Int)=n:=zt _ (by omega);go_loopw [47] (fun v wr => ∃ j,v=.int .i64 (j:Nat)∧j≤n∧yk wr D2 q M (uL Ls i j)∧zb w wr∧yr wr a3 c3 l) (fun v _=>n-(intOf v).toNat)
      case atStart=>exact⟨0,rfl,yh _,HQ3.out,HP3.out,by unfold yr;rw[HLN.out];have:=HRow.out;unfold yr at this;rw[HLN.out]at this;exact this⟩
      case round =>
        clear HQ HPW HQ3 HP3 HRow;obtain⟨j,rfl,hj,hq,hpw,hrow⟩:=hrel;by_cases hlt2:j<n
        · have hlt2':(j:Int)<(n:Int):=by omega
          have j0:(0:Int)≤(j:Int):=by omega
          have wj:IntKind.i64.wrap ((j:Int)+1)=(j:Int)+1:=zt _ (by omega);obtain⟨y,hy⟩ : ∃ y,l[j]? = some y:=⟨_,zN (by rw[HLN.out];exact hlt2)⟩;obtain⟨ad,had,z0⟩:=Xw (qi hrow) hy;have hyN:y<N:=(HOK.out.own i l HL.out y (yd hy)).1;obtain⟨ad2,had2,z1⟩:=Xw (HTO.out.frame hpw (fun _ _ h=>h)) (j:=y) (y:=y) (by rw[qt hyN]);have HBk:=za (JO hq (n:=y) (k:=i) (l:=l.take j) (by omega) (zgR HL.out) (zk9 HOK.out HL.out hy));rw[zfw HL.out hy]at HBk;have dy:decide (y<N)=true:=zL hyN;have hyb:y≤4294967295:=by omega
          have HPW:=za hpw;have HRow:=za hrow;have HQl:=za hq;subst had had2;clear hy hq hpw hrow
          go_wp2_with (go_at_call 324;refine HBk.out.mono ?_;rintro e w5 ⟨rfl,hq5,hm5⟩)
          go_roundw
          case rel=>exact⟨j+1,by go_num,hlt2,hq5,HPW.out.then hm5 (fun k hk e=>by have:=HF1.out k e;omega),zy HRow.out hm5 (by rw[HLN.out];exact HND.out)⟩
          case measure=>simp[intOf];omega
        · have e:n=j:=by omega
          subst e;have HQf:Hid (yk wr D2 q M (uL Ls (i+1) 0)):=za (by rw[← zhu HL.out,HLN.out];exact hq);have HPW:=za hpw;clear hq hpw hrow hj hlt2;go_wp2;go_roundw
          case rel=>exact⟨i+1,by go_num,hlt,HQf.out,HPW.out⟩
          case measure=>simp[intOf];omega
    · have e:H=i:=by omega
      subst e;have hq:=HQ.out;rw[← HHe.out,zeb]at hq;obtain⟨gF2,gL2,cF2,cL2,F2,hm2,hD2⟩:=hq;have hb:=HPW.out.heap (fun h=>h) HB.out;have hb2:=hm2.box;rw[HHe.out]at hb2;have hqp:q≠p:=by
        have h1:=HF1.out q ((hD2 q).2 (.inl rfl));have h2:=zl HB.out;omega
      have HM2:=za hm2;have HD2:=za hD2;obtain⟨FL2,hFL2⟩:=zc F2.length;rw[hFL2]at hb2;have HFL2:=za hFL2;have hfin:((wr.setCell ⟨p,0,none⟩ (.slice (some ⟨gF2,0,none⟩) FL2 cF2)).setCell ⟨p,1,none⟩ (.int .i64 M)).setCell ⟨p,2,none⟩ (.slice (some ⟨gL2,0,none⟩) H cL2)=((wr.setCell ⟨p,0,none⟩ (.slice (some ⟨gF2,0,none⟩) FL2 cF2)).setCell ⟨p,1,none⟩ (.int .i64 M)).setCell ⟨p,2,none⟩ (.slice (some ⟨gL2,0,none⟩) H cL2):=rfl;have HBr:=za hb;clear hm2 hD2 hFL2 hfin hi hlt;obtain⟨hb_0,hb_1,hb_2,hb_f,hb_l,H_hb⟩:=cr3 hb;clear hb;obtain⟨hb2_0,hb2_1,hb2_2,hb2_f,hb2_l,H_hb2⟩:=cr3 hb2;clear hb2;go_wp2;have hm:=(((Mod.refl (fun k=>k=p) wr).setCell (p:=⟨p,0,none⟩) (fun _=>rfl) (.slice (some ⟨gF2,0,none⟩) FL2 cF2)).setCell (p:=⟨p,1,none⟩) (fun _=>rfl) (.int .i64 M)).setCell (p:=⟨p,2,none⟩) (fun _=>rfl) (.slice (some ⟨gL2,0,none⟩) H cL2);have hbx:=zb1 (v0 := .slice (some ⟨gF2,0,none⟩) FL2 cF2) (v1 := .int .i64 M) (v2 := .slice (some ⟨gL2,0,none⟩) H cL2) HBr.out;have hpp:p<w.heap.size:=zl HB.out;have h1:=HF1.out gF2 ((HD2.out gF2).2 (.inr (.inl rfl)));have h2:=HF1.out gL2 ((HD2.out gL2).2 (.inr (.inr rfl)));go_ret;refine⟨rfl,⟨fun k=>k=p∨k=gF2∨k=gL2,⟨gF2,gL2,cF2,cL2,F2,⟨?_,hm.heap (fun e=>by omega) HM2.out.fld,hm.heap (fun e=>by omega) HM2.out.len,HM2.out.ok,HM2.out.n1,HM2.out.nm,HM2.out.hm⟩,fun k=>vE⟩,fun k hk => ?_⟩,(Mod.of_pure HPW.out).trans hm⟩
      · rw[HFL2.out,HHe.out];exact hbx
      · rcases hk with rfl | rfl | rfl
        · exact .inl rfl
        · exact .inr h1
        · exact .inr h2
end
def xy(w:World):Prop:=TabAt 0 Lib.deBruijn64tab w
theorem xy.mod{S:Nat→Prop}{w w':World}(h:xy w)(hm:Mod S w w')(h0 : ¬ S 0):xy w':=fun j hj=>hm.cell h0 (h j hj)
theorem xy.pure{w w':World}(h:xy w)(hm:zb w w'):xy w':=h.mod hm (fun h=>h)
theorem xy.lt{w:World}(h:xy w):0<w.heap.size:=YT w _ (h 0 (by decide))
theorem zk3(x k idx:Nat)(w:World)(hx0:((x:Int)==0)=false)
  (key:IntKind.u64.wrap (bits BinOp.and IntKind.u64 (x:Int) (IntKind.u64.wrap (-(x:Int)))*285870213051353865)/288230376151711744=(idx:Int))
  (hi:idx<64) (hk:k<64) (hcell:w.cell? ⟨0,idx,none⟩=some (.int .u8 k)):Calls prog 353 #[.int .u64 x] w fun e w'=>e=.returned (.int .i64 k)∧w=w':=by
 go_enter func353,ntmps353
 go_wp2_with (simp only[key])
 go_ret;exact⟨rfl,rfl⟩
theorem zj3(x:Nat)(hx:x<18446744073709551616)(h0:x≠0)(w:World)(hT:xy w):Calls prog 353 #[.int .u64 x] w fun e w'=>e=.returned (.int .i64 (Lib.ctz 64 x))∧w=w':=by
 obtain⟨hlow,hk⟩:=Lib.lowest_bit 64 x h0 hx;obtain⟨hi,htab⟩:=Lib.deBruijn64_at _ hk;have hcell:=hT _ hi;rw[htab]at hcell;exact zk3 x _ _ w (by simp;omega) (tz64_key x _ hx h0 hlow) hi hk hcell
theorem zg5{x:Nat}(hx:x<18446744073709551616)(h0:x≠0):Lib.ctz 64 x<64∧x.testBit (Lib.ctz 64 x)=true ∧ ∀ j,j<Lib.ctz 64 x→x.testBit j=false:=by
 obtain⟨m,hm,hk⟩:=Lib.ctzFrom_spec 64 x (by omega) hx;have e:Lib.ctz 64 x=Lib.ctzFrom 64 x:=by unfold Lib.ctz;rw[zh h0]
 rw[e];generalize Lib.ctzFrom 64 x=c at *;refine⟨hk,?_,fun j hj => ?_⟩
 ·rw[hm,Nat.testBit_two_pow_mul];simp
 ·rw[hm,Nat.testBit_two_pow_mul];simp;omega
def VO(f:Nat→Bool):Value:=match uB f 256 with
 | some b => .tuple #[.int .i64 (b:Nat),.bool true]
 | none => .tuple #[.int .i64 0,.bool false]
section
variable{w w':World}{p q:Nat}{f:Nat→Bool}{many:Int}
theorem ziN(h:w.heap[p]? = some (.cells (whC q f many) 383 (0,0)))(hT:xy w) :
  Calls prog 314 #[mkP p,.int .i64 0] w fun e w'=>e=.returned (VO f)∧w=w':=by
 have HH:=za h;have HT:=za hT;clear h hT;go_enter func314,ntmps314;go_upto_region 3 with fail
 go_loop [6,7] (fun v6 v7 => ∃ k:Nat,v6=.int .u64 18446744073709551615∧v7=.int .i64 k∧k≤4 ∧ ∀ i,i<k→xg f i=0) (fun _ v7=>4-(intOf v7).toNat)
 case atStart=>exact⟨0,rfl,rfl,by omega,fun i hi=>by omega⟩
 case round =>
  obtain⟨k,rfl,rfl,hk,hz⟩:=hrel;have HZ:=za hz;clear hz;by_cases hlt:k<4
  ·have hlt':(k:Int)<4:=by omega
   have k0:(0:Int)≤(k:Int):=by omega
   have wi:IntKind.i64.wrap ((k:Int)+1)=(k:Int)+1:=zt _ (by omega);have dk:decide (k<4)=true:=zL hlt;have c0:w.cell? ⟨p,1+k,none⟩=some (.int .u64 (xg f k:Nat)):=by rw[zf w p _ _ _ (0,0) HH.out];exact KI hlt
   have hwl:=JV f k;have hand:=XA (xg f k) 18446744073709551615 hwl (by decide);have hand2:xg f k &&& 18446744073709551615=xg f k:=by
    have:(18446744073709551615:Nat)=2 ^ 64-1:=rfl;rw[this,VX];exact xZ hwl
   rw[hand2]at hand;obtain⟨x,hx⟩:=zc (xg f k);rw[hx]at c0 hwl hand;have HX:=za hx;rw[show((18446744073709551615:Nat):Int)=18446744073709551615 by decide]at hand;clear hx hand2;by_cases hx0:x=0
   ·have HX0:=za hx0;have e0:((x:Int)==0)=true:=by simp;omega
    have e1:((x:Int) != 0)=false:=by simp;omega
    clear hx0;go_wp2
    go_round
    case rel=>exact⟨k+1,rfl,by go_num,hlt,fun i hi=>by
     by_cases e:i=k
     ·subst e;exact HX.out.trans HX0.out
     ·exact HZ.out i (by omega)⟩
    case measure=>simp[intOf];omega
   ·have HZ4:=za (zj3 x hwl hx0 w HT.out);obtain⟨hc1,hc2,hc3⟩:=zg5 hwl hx0;have hfb:uB f 256=some (64*k+Lib.ctz 64 x):=by
     refine zdN (by omega) ?_ (fun j hj => ?_)
     ·rw[← HX.out,jM]at hc2;simp at hc2;rw[← HX.out];exact hc2.2
     ·by_cases c:j/64=k
      ·have:=hc3 (j%64) (by omega);rw[← HX.out,jM]at this;simp at this;have h2:=this (vr _ (by decide));rw[show 64*k+j%64=j by omega]at h2;exact h2
      ·have:=Jq.1 (HZ.out (j/64) (by omega)) (j%64) (vr _ (by decide));rw[show 64*(j/64)+j%64=j by omega]at this;exact this
    have HFB:=za hfb;have e0:((x:Int)==0)=false:=by simp;omega
    have e1:((x:Int) != 0)=true:=by simp;omega
    clear hfb hc2 hc3;generalize Lib.ctz 64 x=t at *;have w64:IntKind.i64.wrap (64*(k:Int))=64*(k:Int):=zt _ (by omega);have w65:IntKind.i64.wrap (64*(k:Int)+(t:Int))=64*(k:Int)+(t:Int):=zt _ (by omega)
    go_wp2_with (go_at_call 353;refine HZ4.out.mono ?_;rintro e w' ⟨rfl,rfl⟩)
    go_ret2;exact⟨by unfold VO;rw[HFB.out];rfl,rfl⟩
  ·have hk4:k=4:=by omega
   subst hk4;have hfb:uB f 256=none:=zlv (fun j hj=>by
    have:=Jq.1 (HZ.out (j/64) (by omega)) (j%64) (vr _ (by decide));rw[show 64*(j/64)+j%64=j by omega]at this;exact this)
   have HFB:=za hfb;clear hfb;go_wp2;go_ret2;exact⟨by unfold VO;rw[HFB.out];rfl,rfl⟩
end
def neB(Ls:List (List Nat))(b:Nat):Bool:=match Ls[b]? with
 | some (_::_)=>true
 | _=>false
theorem Jk{Ls:List (List Nat)}{b:Nat}(hb:b<Ls.length)(l:List Nat):neB (Ls.set b l)=vL (neB Ls) b (!l.isEmpty):=by
 funext x
 unfold neB vL;by_cases e:b=x
 ·subst e;rw[yo hb,zk rfl]
  cases l<;>rfl
 ·rw[yx e,zh (fun c=>e c.symm)]
theorem zjg(H:Nat):neB (List.replicate H [])=fun _=>false:=by
 funext x
 unfold neB;rw[vW];split
 ·rename_i h;split at h<;>cases h
 ·rfl
theorem zkJ{f:Nat→Bool}{b:Nat}{v:Bool}(h:f b=v):vL f b v=f:=by
 funext x
 unfold vL;split
 ·rename_i e;rw[e,h]
 ·rfl
def yV(w:World)(D:Nat→Prop)(p:Nat)(Ls:List (List Nat)):Prop :=
 ∃ q many N Dl,w.heap[p]? = some (.cells (whC q (neB Ls) many) 383 (0,0))∧yk w Dl q N Ls∧Ls.length=256 ∧ ∀ k,D k↔(k=p∨Dl k)
theorem yk.types{w:World}{D:Nat→Prop}{p N:Nat}{Ls:List (List Nat)}(h:yk w D p N Ls){k:Nat}(hk:D k){cs:Array Value}{T:TypeId}{fz:Nat × Nat}(e:w.heap[k]? = some (.cells cs T fz)):T=397∨T=401∨T=3:=by
 obtain⟨gF,gL,cF,cL,F,h1,h2⟩:=h;rcases(h2 k).1 hk with rfl | rfl | rfl
 ·have:=e.symm.trans h1.box;injection this with this;injection this with _ this;exact .inl this
 ·have:=e.symm.trans h1.fld;injection this with this;injection this with _ this;exact .inr (.inl this)
 ·have:=e.symm.trans h1.len;injection this with this;injection this with _ this;exact .inr (.inr this)
section
variable{w w':World}{D S:Nat→Prop}{p:Nat}{Ls:List (List Nat)}
theorem yV.frame(h:yV w D p Ls)(hm:Mod S w w')(hd : ∀ k,D k → ¬ S k):yV w' D p Ls:=by
 obtain⟨q,many,N,Dl,h1,h2,h3,h4⟩:=h;exact⟨q,many,N,Dl,hm.heap (hd p ((h4 p).2 (.inl rfl))) h1,h2.frame hm (fun k hk=>hd k ((h4 k).2 (.inr hk))),h3,h4⟩
theorem yV.pure(h:yV w D p Ls)(hm:zb w w'):yV w' D p Ls:=h.frame hm (fun _ _ h=>h)
theorem yV.lt(h:yV w D p Ls){k:Nat}(hk:D k):k<w.heap.size:=by
 obtain⟨q,many,N,Dl,h1,h2,h3,h4⟩:=h;rcases(h4 k).1 hk with rfl | e
 ·exact zl h1
 ·exact h2.lt e
theorem yV.self(h:yV w D p Ls):D p:=by obtain⟨q,many,N,Dl,h1,h2,h3,h4⟩:=h;exact(h4 p).2 (.inl rfl)
theorem yV.len(h:yV w D p Ls):Ls.length=256:=by obtain⟨q,many,N,Dl,h1,h2,h3,h4⟩:=h;exact h3
theorem X4{q:Nat}{f:Nat→Bool}{many:Int}(h:w.heap[p]? = some (.cells (whC q f many) 383 (0,0))){Dl:Nat→Prop}{q' N:Nat}(hl:yk w Dl q' N Ls) : ¬ Dl p:=fun hd=>by
 rcases hl.types hd h with e | e | e<;>exact absurd e (by decide)
theorem qp{q:Nat}{f:Nat→Bool}{many:Int}(h:w.heap[p]? = some (.cells (whC q f many) 383 (0,0))) :
  w.cell? ⟨p,0,none⟩=some (.pointer (some ⟨q,0,none⟩))∧w.cell? ⟨p,5,none⟩=some (.int .i64 many)∧(∀ i,w.frozen? ⟨p,i,none⟩=false)∧p<w.heap.size :=
 ⟨zf w p 0 _ _ (0,0) h,zf w p 5 _ _ (0,0) h,fun i=>yP w p i _ _ h,zl h⟩
theorem zbv{q:Nat}{f:Nat→Bool}{many:Int}(h:w.heap[p]? = some (.cells (whC q f many) 383 (0,0)))(m2:Int):(w.setCell ⟨p,5,none⟩ (.int .i64 m2)).heap[p]? = some (.cells (whC q f m2) 383 (0,0)):=by
 have arr : ∀(a x0 x1 x2 x3 y z:Value),(#[a,x0,x1,x2,x3,z]:Array Value).setIfInBounds 5 y=#[a,x0,x1,x2,x3,y]:=fun _ _ _ _ _ _ _=>rfl
 have:=zP w p 5 _ _ (.int .i64 m2) h;unfold whC at this ⊢;rw[arr]at this;exact this
theorem V6(h:yV w D p Ls){s:Nat}(hs:s<4194304){b:Int}(hb0:0≤b)(hb:b<256):Calls prog 313 #[lkP p,.int .u32 s,.int .i64 b] w fun e w'=>e=.returned (.int .i64 0)∧w=w':=by
 obtain⟨q,many,N,Dl,h1,h2,h3,h4⟩:=h;obtain⟨c0,_,_,_⟩:=qp h1;clear h1 h2 h3 h4;have d1:decide ((4194304:Int)≤(s:Int))=false:=zQ (by omega);have d1n:decide (4194304≤s)=false:=zQ (by omega);have d2:decide (b<0)=false:=zQ (by omega);have d3:decide ((256:Int)≤b)=false:=zQ (by omega);go_enter func313,ntmps313;go_wp2;go_ret;exact⟨rfl,rfl⟩
theorem zjp(w:World):Calls prog 278 #[] w fun e w' => ∃ p D,e=.returned (lkP p)∧yV w' D p (List.replicate 256 [])∧zb w w' ∧ ∀ k,D k→w.heap.size≤k:=by
 have HN:=za (J1 w (N:=8) (H:=256) (by omega) (by omega) (by omega) (by omega));have hwd : ∀ k,xg (fun _=>false) k=0:=fun k=>Jq.2 (fun _ _=>rfl)
 have HWD:=za hwd;clear hwd;go_enter func278,ntmps278
 go_wp2_with (go_at_call 275;refine HN.out.mono ?_;rintro e w1 ⟨q,D,rfl,hl,hp,hf⟩)
 go_ret;have hal:zb w1 (w1.alloc (.cells #[.pointer (some ⟨q,0,none⟩),.int .u64 0,.int .u64 0,.int .u64 0,.int .u64 0,.int .i64 0] 383)):=(Mod.refl _ w1).alloc _;have hbx:=zi (w:=w1) (o := .cells #[.pointer (some ⟨q,0,none⟩),.int .u64 0,.int .u64 0,.int .u64 0,.int .u64 0,.int .i64 0] 383 (0,0)) rfl;refine⟨w1.heap.size,fun k=>k=w1.heap.size∨D k,rfl,⟨q,0,8,D,?_,hl.pure hal,vu,fun k=>vE⟩,hp.trans hal,fun k hk => ?_⟩
 ·unfold whC;rw[zjg,HWD.out,HWD.out,HWD.out,HWD.out];exact hbx
 ·rcases hk with rfl | hk
  ·exact hp.size
  ·exact hf k hk
end
def vt(n i:Nat):List Nat:=(List.range n).map (fun j=>if j<i then j else 0)
theorem V3(n i:Nat):(vt n i).length=n:=by simp[vt]
theorem zbr(n:Nat):vt n n=List.range n:=by
 unfold vt;refine uF (fun j => ?_);rw[yw];by_cases hj:j<n
 ·rw[qt hj];simp[hj]
 ·rw[xN (by simpa using hj)];rfl
theorem Q5{n i:Nat}(hi:i<n):(zU (vt n i)).set i (.int .u32 (i:Nat))=zU (vt n (i+1)):=by
 unfold zU vt;refine uF (fun j => ?_);by_cases e:i=j
 ·subst e;rw[yo (by simpa using hi)];simp[List.getElem?_range hi]
 ·rw[yx e,yw,yw,yw,yw];by_cases hj:j<n
  ·rw[qt hj];have:(j<i)=(j<i+1):=by rw[eq_iff_iff];omega
   simp[this]
  ·rw[xN (by simpa using hj)];rfl
theorem QN(m:Nat):madeCells (Value.int .u32 0).cells (m*1)=(zU (vt m 0)).toArray:=by
 rw[show(Value.int .u32 0).cells=#[.int .u32 0]from rfl];apply Array.ext_getElem?;intro k;unfold madeCells zU vt;rw[Array.getElem?_map,show((((List.range m).map (fun j=>if j<0 then j else 0)).map (fun x:Nat=>(Value.int .u32 x))).toArray)[k]? = (((List.range m).map (fun j=>if j<0 then j else 0)).map (fun x:Nat=>(Value.int .u32 x)))[k]? from vw,qh];rw[yw,yw];by_cases hk:k<m
 ·rw[Y6,zk hk,qt hk]
  show some (#[Value.int .u32 0][k%1]!)=_
  rw[Nat.mod_one];rfl
 ·rw[Y6,zh hk,xN (by simpa using hk)];rfl
section
variable{w w':World}{D:Nat→Prop}{p:Nat}{Ls:List (List Nat)}
theorem Azufj {P:Prop}(h:P:=by
 have i0:(0:Int)≤(i:Int):=by omega
 have wi:IntKind.i64.wrap ((i:Int)+1)=(i:Int)+1:=zt _ (by omega);have wu:IntKind.u32.wrap (i:Int)=(i:Int):=X6 i (by omega);have q0 : ∃ v,wr.cell? ⟨g,i,none⟩=some v:=by
  rw[zf wr g i _ _ (0,0) HRW.out,vw,zN (by rw[qd,V3];exact hlt2)];exact⟨_,rfl⟩
 obtain⟨v0,q0⟩:=q0;have g0:=yP wr g i _ _ HRW.out;have hX:g<wr.heap.size:=zl HRW.out;have di:decide (i<N)=true:=zL hlt2;have e1:=zP wr g i _ _ (.int .u32 (i:Nat)) HRW.out;rw[YB,Q5 hlt2]at e1;have HE1:=za e1;clear e1;go_wp2;go_roundw
 case rel=>exact⟨i+1,by go_num,hlt2,HPU.out.then ((Mod.refl (fun k=>k=g) wr).setCell (p:=⟨g,i,none⟩) (fun _=>rfl) _) (fun k hk e=>by have:=HG.out;omega),HE1.out⟩
 case measure=>simp[intOf];omega):P:=h
theorem Azhz3 {P:Prop}(h:P:=by
 have:=run_make W 132 114 i0 _ underlying132 hi iz0 .i64 .i64 (N:Int) (N:Int) (by omega) (Int.le_refl _) (by rw[iz2];omega) (by omega);rw[iz1,show((N:Int)).toNat=N by omega,QN]at this;exact this):P:=h
theorem Azwd4 {P:Prop}(h:P:=by
 have:=zn.of_block (w:=wr) N N 1 HRW.out (by simp[qd,V3]) (by simpa using Xv (vt N N));simpa[zbr]using this):P:=h
theorem zmk{q N:Nat}{many:Int}{Dl:Nat→Prop}(hb:w.heap[p]? = some (.cells (whC q (neB Ls) many) 383 (0,0)))(hl:yk w Dl q N Ls)(h256:Ls.length=256){s:Nat}(hs:s<4194304) :
  Calls prog 365 #[lkP p,.int .u32 s] w fun e w'=>e=.returned (.tuple #[]) ∧ ∃ N' Dl',yk w' Dl' q N' Ls∧s<N'∧Mod Dl w w' ∧ ∀ k,Dl' k→Dl k∨w.heap.size≤k:=by
 obtain⟨c0,_,_,hlt⟩:=qp hb;obtain⟨l4,l5,l6⟩:=hl.lenH;have HNo:=za (zbI hl);have HL:=za hl;have HNB:Hid (¬ Dl p):=za (X4 hb hl);have HB:=za hb;clear hb hl l4;have wn:IntKind.i64.wrap (s:Int)=(s:Int):=zt _ (by omega);by_cases c:s<N
 ·have d1:decide ((s:Int)<(N:Int))=true:=zL (by omega);have d1n:decide (s<N)=true:=zL c;go_enter func365,ntmps365
  go_wp2_with (go_at_call 359;refine HNo.out.mono ?_;rintro e w' ⟨rfl,rfl⟩)
  exact zK (results_none rfl _ _ _) rfl ⟨rfl,N,Dl,HL.out,c,Mod.refl _ _,fun k hk => .inl hk⟩
 ·have d1:decide ((s:Int)<(N:Int))=false:=zQ (by omega);have d1n:decide (s<N)=false:=zQ c;obtain⟨i0,hi,iz0,iz1,iz2⟩:=xn jC;have hmk : ∀ W:World,(Instr.makeSlice 132 (.int .i64 (N:Int)) (.int .i64 (N:Int))).run prog W=.ok (.slice (some ⟨W.heap.size,0,none⟩) N N) (W.alloc (.cells (zU (vt N 0)).toArray 114)):=fun W=>by
   exact Azhz3
  clear hi iz0 iz1 iz2;go_enter func365,ntmps365;go_upto_region 4 with(go_at_call 359;refine HNo.out.mono ?_;rintro e w' ⟨rfl,rfl⟩)
  have hal:zb w (w.alloc (.cells (zU (vt N 0)).toArray 114)):=(Mod.refl _ w).alloc _;have hr0:=zi (w:=w) (o := .cells (zU (vt N 0)).toArray 114 (0,0)) rfl;have HAL:=za hal;have HR0:=za hr0;clear hal hr0 hmk;generalize w.alloc (.cells (zU (vt N 0)).toArray 114)=W1 at *;obtain⟨g,hg⟩:=zc w.heap.size;rw[hg]at HR0 ⊢;have HG:=za hg;clear hg;have hN0:1≤N:=l6;go_loopw [20] (fun v wr => ∃ i,v=.int .i64 (i:Nat)∧i≤N∧zb w wr∧wr.heap[g]? = some (.cells (zU (vt N i)).toArray 114 (0,0))) (fun v _=>N-(intOf v).toNat)
  case atStart=>exact⟨0,rfl,yh _,HAL.out,HR0.out⟩
  case round =>
   clear HAL HR0;obtain⟨i,rfl,hi,hpu,hrw⟩:=hrel;have HPU:=za hpu;have HRW:=za hrw;clear hpu hrw;by_cases hlt2:i<N
   ·have hlt':(i:Int)<(N:Int):=by omega
    exact Azufj
   ·have e:N=i:=by omega
    subst e;have hrd:zn wr (.slice (some ⟨g,0,none⟩) N N) 1 (zU (List.range N)):=by
     exact Azwd4
    have hren : ∀ M:Int,(N:Int)≤M→M≤4194304→(s:Int)<M→Calls prog 360 #[lkP q,.slice (some ⟨g,0,none⟩) N N,.int .i64 M] wr fun e w'=>e=.returned (.int .i64 0) ∧ ∃ N' Dl',yk w' Dl' q N' Ls∧s<N'∧Mod Dl w w' ∧ ∀ k,Dl' k→Dl k∨w.heap.size≤k:=fun M h1 h2 h3=>by
     obtain⟨M,rfl⟩:=Int.eq_ofNat_of_zero_le (show 0≤M by omega);refine(zcW (HL.out.pure HPU.out) (by omega) (some ⟨g,0,none⟩) N hrd (M:=M) (by omega) (by omega)).mono ?_;rintro e w' ⟨he,⟨D',g1,g2⟩,g3⟩;have hq:=HL.out.self;refine⟨he,M,D',g1,by omega,(Mod.of_pure HPU.out).trans (g3.mono (fun k _ hk=>by rw[hk];exact hq)),fun k hk => ?_⟩;rcases g2 k hk with e | e
     ·exact .inl (by rw[e];exact hq)
     ·exact .inr (zH HPU.out.size e)
    have HRen:=za hren;clear hren;have c0:=HPU.out.cell (fun h=>h) c0;have hlt2:=HPU.out.lt hlt;have w2:IntKind.i64.wrap (2*(N:Int))=2*(N:Int):=zt _ (by omega);have w3:IntKind.i64.wrap ((s:Int)+1)=(s:Int)+1:=zt _ (by omega);clear hrd hi
    go_wp2_with fail
    all_goals
     refine(HRen.out _ (by omega) (by omega) (by omega)).mono ?_;rintro e w5 ⟨rfl,N',Dl',q1,q2,q3,q4⟩;go_wp2
     go_end0
     exact⟨rfl,N',Dl',q1,q2,q3,q4⟩
end
end
section
open Go.RowKit Go.Shelf
structure kI(w:World)(B:Nat)(a:Option Addr)(c:Nat)(l:List Nat):Prop where
 box:w.heap[B]? = some (.cells #[.slice a l.length c] 132 (0,0))
 row:yr w a c l
def Zt(B:Nat)(a:Option Addr)(n c:Nat)(k:Nat):Prop:=k=B∨(Value.slice a n c).ownBlock=some k
theorem kI.keeps{w w':World}{B:Nat}{a:Option Addr}{c:Nat}{l:List Nat}(h:kI w B a c l)(hk:yS (Zt B a l.length c) w w'):kI w' B a c l :=
 ⟨(hk.2 B (.inl rfl) (zl h.box)).trans h.box,U4 h.row (fun g hg hlt=>hk.2 g (.inr hg) hlt)⟩
theorem kI.cell{w:World}{B:Nat}{a:Option Addr}{c:Nat}{l:List Nat}(h:kI w B a c l){j x:Nat}(hx:l[j]? = some x) : ∃ g,a=some ⟨g,0,none⟩∧w.cell? ⟨g,j,none⟩=some (.int .u32 x):=by
 have hlt:=(zF.1 hx).1;obtain⟨g,c',hsv,_,hg,hc,hf,_⟩:=kt h.row (by omega)
 cases hsv
 refine⟨g,rfl,hc _ _ ?_⟩;unfold zU;rw[yw,hx]
 rfl
def Vc(x:Nat):Array Value:=#[.int .u32 x]
def zdq(J:List Nat→World→Prop)(B:Nat)(a:Option Addr)(c:Nat)(l:List Nat)(k:Value)(wr:World):Prop :=
 ∃ pre post:List Nat,k=.int .i64 (pre.length:Nat)∧l=pre++post∧J pre wr∧kI wr B a c l
theorem QJ{w:World}{B:Nat}{a:Option Addr}{c:Nat}{l:List Nat}(h:kI w B a c l)(hl:l.length≤4194304) :
  qq prog 308 #[.pointer (some ⟨B,0,none⟩)] Vc (Zt B a l.length c) (fun pre x _ => ∃ post,l=pre++x::post) (fun xs=>xs=l) w:=by
 intro lb J Jx W hW hJ hJx hY h0;have hA:=h.keeps (yS.of_pure hW);have hB:=zf W B 0 _ _ _ hA.box;simp at hB;have HA:=za hA;have HY:=za hY;clear hA hY hJ hJx h hW;refine callsIn_of_wp func308 rfl trivial ?_ rfl;simp only[ntmps308,List.size_toArray,List.length_cons,List.length_nil,Nat.reduceAdd,Nat.reduceSub,Array.replicate_succ,Array.replicate_zero,List.push_toArray,List.append_toArray,List.nil_append,List.cons_append];obtain⟨n,hn⟩:=zc l.length;rw[hn]at hB hl HY;have wn:IntKind.i64.wrap (n:Int)=n:=zt _ (by omega);have HN:=za hn;clear hn;gi_wp2
 gi_loopw [7] (fun k wr=>zdq J B a c l k wr) (fun k _=>n-(intOf k).toNat)
 case atStart=>exact⟨[],l,rfl,rfl,h0,HA.out⟩
 case round =>
  obtain⟨pre,post,rfl,hpp,hJs,hI⟩:=hrel;have hlen:pre.length+post.length=n:=by rw[← HN.out,hpp,zR]
  cases post with
  | nil =>
   have he:pre=l:=by rw[hpp,jm]
   have HE:=za he;have HJS:=za hJs;have hpn:n=pre.length:=by simpa using hlen.symm
   have d1:decide (pre.length<n)=false:=zQ (by omega);have d2:decide ((pre.length:Int)<(n:Int))=false:=zQ (by omega);clear hpp hlen he hI hJs hpn;gi_wp2
   go_end0
   exact⟨⟨_,rfl⟩,.inl ⟨pre,HE.out,HJS.out⟩⟩
  | cons x post =>
   obtain⟨g,rfl,hc⟩:=hI.cell (j:=pre.length) (x:=x) (by rw[hpp];simp);obtain⟨fn,tmps,assign,body,hy,hR⟩:=HY.out pre x wr hJs ⟨post,hpp⟩;dsimp only[Vc]at hy;have hRR:=za hR;have HL:=za hpp;have HI:=za hI;have hlt:pre.length<n:=by simp at hlen;omega
   obtain⟨j,hj⟩:=zc pre.length;rw[hj]at hc hlt ⊢;have hlt':(j:Int)<(n:Int):=by omega
   have j0:(0:Int)≤(j:Int):=by omega
   have wj:IntKind.i64.wrap ((j:Int)+1)=(j:Int)+1:=zt _ (by omega);have HJ:=za hj;clear hpp hI hR hJs hlen hj;gi_wp2;refine hRR.out.mono ?_;rintro e W' (⟨rfl,hJ',hk⟩ | ⟨rfl,hJx'⟩)
   ·have HJ':=za hJ';have HK:=za (HI.out.keeps (by rw[HN.out];exact hk));clear hJ' hk;gi_wp2;go_roundw
    case rel =>
     unfold zdq;exact⟨pre++[x],post,by rw[zR,HJ.out];go_num,by rw[HL.out];simp,HJ'.out,HK.out⟩
    case measure=>simp[intOf];omega
   ·gi_wp2;exact Azrgr
end
section
open Go.RowKit
section
variable{w w':World}{D:Nat→Prop}{p:Nat}{Ls:List (List Nat)}
def yi(D D':Nat→Prop)(w:World):Prop := ∀ k,D' k→D k∨w.heap.size≤k
theorem yi.refl(D:Nat→Prop)(w:World):yi D D w:=fun _ h => .inl h
theorem zmd(h:yV w D p Ls){s b:Nat}{l:List Nat}(hs:s<4194304)(hl:Ls[b]? = some l)(hf : ¬ inL Ls s) :
    Calls prog 334 #[lkP p,.int .u32 s,.int .i64 b] w fun e w'=>e=.returned (.int .i64 0)∧(∃ D',yV w' D' p (Ls.set b (l++[s]))∧yi D D' w)∧Mod D w w':=by
  have hb:b<256:=by have:=(zF.1 hl).1;rw[h.len]at this;exact this
  have HCk:=za (V6 h hs (b:=(b:Int)) (by omega) (by omega));have HW:=za h;obtain⟨q,many,N,Dl,h1,h2,h3,h4⟩:=h;have HRo:=za (zmk h1 h2 h3 hs);have HB:=za h1;have HDD:=za h4;have HL:=za hl;have HF:=za hf;have H3:=za h3;have HNB:=za (X4 h1 h2);have hpq:p≠q:=fun e=>X4 h1 h2 (e ▸ h2.self)
  have hpl:p<w.heap.size:=zl h1;clear h1 h2 h3 h4 hl hf;have b0:(0:Int)≤(b:Int):=by omega
  go_enter func334,ntmps334;go_upto_region 5 with(first
    | (go_at_call 313;refine HCk.out.mono ?_;rintro e w' ⟨rfl,rfl⟩)
    | (go_at_call 365;refine HRo.out.mono ?_;rintro e w1 ⟨rfl,N',Dl',hl1,hsN,hm1,hg1⟩))
  have hbx1:=hm1.heap HNB.out HB.out;have hnb1:=X4 hbx1 hl1;have HBk:=za (JO hl1 hsN HL.out HF.out);have HM1:=za hm1;have HG1:=za hg1;have HBX1:=za hbx1;have HNB1:=za hnb1;obtain⟨c0,c5,_,_⟩:=qp hbx1;clear hl1 hm1 hg1 hbx1 hnb1 c5;go_upto_region 8 with(go_at_call 324;refine HBk.out.mono ?_;rintro e w2 ⟨rfl,hl2,hm2⟩)
  have hbx2:=hm2.heap HNB1.out HBX1.out;have HSe:=za (zgi hbx2 hb);have HL2:=za hl2;have HM2:=za hm2;clear hl2 hm2 hbx2 c0;go_upto_region 9 with(go_at_call 366;refine HSe.out.mono ?_;rintro e w3 ⟨rfl,hbx3,hm3⟩)
  obtain⟨c0,c5,g5,hlt3⟩:=qp hbx3;have g55:=g5 5;have HBX3:=za hbx3;have HM3:=za hm3;clear hbx3 hm3 g5;obtain⟨m2,hm2⟩:=zc (IntKind.i64.wrap (many+1));have hend:=zbv HBX3.out m2;have hmd:=(Mod.refl (fun k=>k=p) w3).setCell (p:=⟨p,5,none⟩) (fun _=>rfl) (.int .i64 m2);have HEnd:=za hend;have HMd:=za hmd;clear hend hmd;go_wp2;go_ret;have hne:neB (Ls.set b (l++[s]))=vL (neB Ls) b true:=by
    rw[Jk (by rw[H3.out];exact hb)]
    congr 1
    simp
  refine⟨rfl,⟨fun k=>k=p∨Dl' k,⟨q,m2,N',Dl',?_,(HL2.out.frame HM3.out (fun k hk e=>HNB1.out (e ▸ hk))).frame HMd.out (fun k hk e=>HNB1.out (e ▸ hk)),by rw[xH];exact H3.out,fun k=>vE⟩,fun k hk => ?_⟩,?_⟩
  · rw[hne];exact HEnd.out
  · rcases hk with rfl | hk
    · exact .inl ((HDD.out k).2 (.inl rfl))
    · rcases HG1.out k hk with e | e
      · exact .inl ((HDD.out k).2 (.inr e))
      · exact .inr e
  · refine(HM1.out.mono (fun k _ hk=>(HDD.out k).2 (.inr hk))).then ((HM2.out.mono (fun k _ hk=>Or.inr hk):Mod (fun k=>k=p∨Dl' k) w1 w2).trans ((HM3.out.trans HMd.out).mono (fun k _ hk=>Or.inl hk))) (fun k hk e => ?_)
    rcases e with rfl | e
    · exact(HDD.out k).2 (.inl rfl)
    · rcases HG1.out k e with e2 | e2
      · exact(HDD.out k).2 (.inr e2)
      · omega
theorem zkv(h:yV w D p Ls){s:Nat}(hs:s<4194304){b:Nat}{l:List Nat}(hl:Ls[b]? = some l)(hm:s∈l) :
    Calls prog 332 #[lkP p,.int .u32 s] w fun e w'=>e=.returned (.tuple #[.int .i64 b,.int .i64 0])∧w=w':=by
  have HCk:=za (V6 h hs (b:=0) (by omega) (by omega));obtain⟨q,many,N,Dl,h1,h2,h3,h4⟩:=h;have HOf:Hid (Calls prog 282 #[lkP q,.int .u32 s] w fun e w'=>e=.returned (.tuple #[.int .i64 b,.int .i64 0])∧w=w'):=za (by
    refine(zcE h2 (n:=s) (by omega)).mono ?_;rintro e w' ⟨hp,rfl⟩;refine⟨?_,rfl⟩;rcases hp with⟨k,l',e1,e2,rfl⟩ | ⟨hn,_⟩
    · obtain⟨gF,gL,cF,cL,F,m1,m2⟩:=h2
      have:=(m1.ok.own k l' e1 s e2).2;have h9:=(m1.ok.own b l hl s hm).2;rw[show k=b by omega]
    · exact absurd ⟨b,l,hl,hm⟩ hn)
  obtain⟨c0,_,_,_⟩:=qp h1;clear h1 h2 h3 h4 hl hm;go_enter func332,ntmps332
  go_wp2_with (first
    | (go_at_call 313;refine HCk.out.mono ?_;rintro e w' ⟨rfl,rfl⟩)
    | (go_at_call 282;refine HOf.out.mono ?_;rintro e w' ⟨rfl,rfl⟩))
  go_ret2;exact⟨rfl,rfl⟩
theorem zdg(h:yV w D p Ls){s b:Nat}{l:List Nat}(hs:s<4194304)(hl:Ls[b]? = some l)(hm:s∈l) :
    Calls prog 286 #[lkP p,.int .u32 s] w fun e w'=>e=.returned (.tuple #[.int .i64 b,.int .i64 0])∧yV w' D p (Ls.set b (l.erase s))∧Mod D w w':=by
  have hb:b<256:=by have:=(zF.1 hl).1;rw[h.len]at this;exact this
  have HBu:=za (zkv h hs hl hm);obtain⟨q,many,N,Dl,h1,h2,h3,h4⟩:=h;have HRe:=za (zai h2 hl hm);have HNB:=za (X4 h1 h2);have HB:=za h1;have HDD:=za h4;have H3:=za h3;have HNE0:Hid (neB Ls b=true):=za (by unfold neB;rw[hl];cases l with | nil=>cases hm | cons x l=>rfl);have hbl:b<Ls.length:=by rw[h3];exact hb
  have hl9:(Ls.set b (l.erase s))[b]? = some (l.erase s):=yo hbl;have HL9:=za hl9;obtain⟨c0,c5,_,_⟩:=qp h1;clear h1 h2 h3 h4 hl hm hl9;have b0:(0:Int)≤(b:Int):=by omega
  go_enter func286,ntmps286;go_upto_region 5 with(first
    | (go_at_call 332;refine HBu.out.mono ?_;rintro e w' ⟨rfl,rfl⟩)
    | (go_at_call 330;refine HRe.out.mono ?_;rintro e w1 ⟨rfl,hl1,hm1⟩))
  have hbx1:=hm1.heap HNB.out HB.out;obtain⟨m2,hmm⟩:=zc (IntKind.i64.wrap (many-1));have hend:=zbv hbx1 m2;have hmd:=(Mod.refl (fun k=>k=p) w1).setCell (p:=⟨p,5,none⟩) (fun _=>rfl) (.int .i64 m2);have hl2:=hl1.frame hmd (fun k hk e=>HNB.out (e ▸ hk));have hmt:Mod (fun k=>k=p∨Dl k) w (w1.setCell ⟨p,5,none⟩ (.int .i64 m2)):=(hm1.mono (fun _ _ h=>Or.inr h)).trans (hmd.mono (fun _ _ h=>Or.inl h));have HLe:=za (fun W (hW:w1.setCell ⟨p,5,none⟩ (.int .i64 m2)=W)=>(hW ▸ QA hl2 HL9.out:Calls prog 304 #[lkP q,.int .i64 b] W fun e w'=>e=.returned (.int .i64 (l.erase s).length)∧W=w'));obtain⟨d0,d5,g5,hlt1⟩:=qp hbx1;have g55:=g5 5;have HL2:=za hl2;have HMt:=za hmt;have HEnd:=za hend;clear hl1 hm1 hl2 hmt hend hmd g5 hbx1 c0 c5;go_upto_region 6 with fail
  generalize hW3:w1.setCell ⟨p,5,none⟩ (.int .i64 m2)=W3 at *;have HLe3:=za (HLe.out W3 rfl);have hb3:=HEnd.out;have HFin:Hid (∀ X:World,X.heap[p]? = some (.cells (whC q (neB (Ls.set b (l.erase s))) m2) 383 (0,0))→yk X Dl q N (Ls.set b (l.erase s))→yV X D p (Ls.set b (l.erase s))):=za (fun X g1 g2=>⟨q,m2,N,Dl,g1,g2,by rw[xH];exact H3.out,HDD.out⟩);have hne:=Jk (Ls:=Ls) hbl (l.erase s);have HNE:=za hne;have HMD:Hid (Mod D w W3):=za (HMt.out.mono (fun k _ hk=>(HDD.out k).2 hk));have HCl:=za (zgy hb3 hb);obtain⟨d0,d5,_,_⟩:=qp hb3;clear hne hW3 HLe hb3 HMt;obtain⟨l',hl'⟩ : ∃ l',l.erase s=l':=⟨_,rfl⟩;rw[hl']at HLe3 HFin HNE HL2;have HLE:=za hl';clear hl'
  cases l' with
  | nil =>
    have HLe4:Hid (Calls prog 304 #[lkP q,.int .i64 b] W3 fun e w'=>e=.returned (.int .i64 0)∧W3=w'):=HLe3;clear HLe3
    go_wp2_with (first
      | (go_at_call 304;refine HLe4.out.mono ?_;rintro e w' ⟨rfl,rfl⟩)
      | (go_at_call 333;refine HCl.out.mono ?_;rintro e w5 ⟨rfl,q1,q2⟩))
    go_ret2;refine⟨rfl,by rw[HLE.out];exact HFin.out _ (by rw[HNE.out];exact q1) (HL2.out.frame q2 (fun k hk e=>HNB.out (e ▸ hk))),HMD.out.trans (q2.mono (fun k _ hk=>by rw[hk];exact(HDD.out p).2 (.inl rfl)))⟩
  | cons x l2 =>
    obtain⟨n,hn⟩:=zc ((x::l2).length);have hn0:n≠0:=by rw[← hn];simp
    rw[hn]at HLe3;have e0:((n:Int)==0)=false:=by simp;omega
    have HN:=za hn;clear hn hn0
    go_wp2_with (go_at_call 304;refine HLe3.out.mono ?_;rintro e w' ⟨rfl,rfl⟩)
    go_ret2;exact⟨rfl,by rw[HLE.out];exact HFin.out _ (by rw[HNE.out,zkJ (by rw[HNE0.out];rfl)];exact HEnd.out) HL2.out,HMD.out⟩
end
end
section
open Go.RowKit Go.Shelf
attribute [local go_sem] Oper.semAt_some
def KQ(w:World)(l:List Nat)(e:Ending)(w':World):Prop :=
 ∃ B a c,e=.returned (.func (.func 308) #[] #[.pointer (some ⟨B,0,none⟩)])∧kI w' B a c l∧zb w w'
theorem zkd{w:World}{D:Nat→Prop}{p N:Nat}{Ls:List (List Nat)}(h:yk w D p N Ls){k:Nat}{l:List Nat}(hl:Ls[k]? = some l)(hll:l.length≤4194304):Calls prog 255 #[lkP p,.int .i64 k] w (KQ w l):=by
  have HA:=za (J4 h hl);obtain⟨n,hn⟩:=zc l.length;rw[hn]at HA hll;have HN:=za hn;clear h hl hn;obtain⟨i0,hi,iz0,iz1,iz2⟩:=xn jC;go_enter func255,ntmps255;go_upto_region 2 with(first
    | (go_at_call 307;refine HA.out.mono ?_;rintro e w1 ⟨a,c,rfl,hrow,hfr,hp1⟩;have hrd:=qi hrow;rw[HN.out]at hrd;have HRD:=za hrd;have HP1:=za hp1;clear hrow hfr hp1 hrd)
    | (at_builtin;refine ul _ rfl _ _ 132 rfl 114 i0 _ 1 4 underlying132 hi iz0 iz1 iz2 rfl (by decide) (.slice none 0 0) 0 [] rfl (vj _ _ _ _) _ (zU l) n rfl HRD.out (by rw[qd,HN.out];omega) (by unfold maxLen;omega) (by omega) ?_;intro a7 c7 w5 hr7 hg7 hb7))
  have hp5:zb w1 w5:=Mod.of_grown hg7 (fun k e _=>by cases e);have hr:=hr7;rw[ZV,YM]at hr;have hal:zb w5 (w5.alloc (.cells #[.slice a7 n c7] 132)):=(Mod.refl _ w5).alloc _;have hbx:=zi (w:=w5) (o := .cells #[.slice a7 n c7] 132 (0,0)) rfl;have HE:Hid (KQ w l (.returned (.func (.func 308) #[] #[.pointer (some ⟨w5.heap.size,0,none⟩)])) (w5.alloc (.cells #[.slice a7 n c7] 132))):=za
    ⟨w5.heap.size,a7,c7,rfl,⟨by rw[HN.out];exact hbx,by unfold yr;rw[HN.out];exact zy hr hal (fun _ _ h=>h)⟩,(HP1.out.trans hp5).trans hal⟩
  clear hr hr7 hg7 hb7 hp5 hal hbx;go_wp2;go_ret;exact HE.out
structure Xy(w:World)(l:List Nat)(pre:List Nat)(W:World):Prop where
 pu:zb w W
 row : ∃ a c,W.heap[w.heap.size]? = some (.cells #[.slice a pre.length c] 132 (0,0))∧yr W a c pre ∧ ∀ g,(Value.slice a pre.length c).ownBlock=some g→w.heap.size<g
theorem Xy.quiet{w A B:World}{l pre:List Nat}{N:Nat}(h:Xy w l pre A)(hN:w.heap.size≤N)(hq:zx N A B):Xy w l pre B:=by
 obtain⟨a,c,h1,h2,h3⟩:=h.row;exact⟨hq.mod h.pu hN,a,c,hq.cells h1,hq.owns h2,h3⟩
def Vv(w:World)(l:List Nat)(e:Ending)(w':World):Prop := ∃ a c,e=.returned (.slice a l.length c)∧yr w' a c l∧xA w (.slice a l.length c)∧zb w w'
theorem zd4{w:World}{B:Nat}{a:Option Addr}{c:Nat}{l:List Nat}(h:kI w B a c l)(hl:l.length≤4194304) :
  Calls prog 354 #[.slice none 0 0,.func (.func 308) #[] #[.pointer (some ⟨B,0,none⟩)]] w (Vv w l):=by
 have hp1:zb w (w.alloc (.cells #[.slice none 0 0] 132)):=(Mod.refl _ w).alloc _;have hit:=h.keeps (yS.of_pure hp1);have HIT:=za hit;have hItlt0 : ∀ k,Zt B a l.length c k→k<w.heap.size:=by
  rintro k (rfl | h2)
  ·exact zl h.box
  ·exact vh h.row h2
 have hI0:Xy w l [] (w.alloc (.cells #[.slice none 0 0] 132)):=⟨hp1,none,0,zi rfl,vj _ _ _ _,fun g hg=>by cases hg⟩;have hz1:(w.alloc (.cells #[.slice none 0 0] 132)).heap.size=w.heap.size+1:=by simp
 clear h hit hp1;obtain⟨i0,hi,iz0,iz1,iz2⟩:=xn jC;have HLL:=za hl;clear hl
 (refine(yy (n:=0)).1 (callsIn_of_wp_marks func354 rfl trivial (vQ.2 ?_) rfl);simp only[ntmps354,List.size_toArray,List.length_cons,List.length_nil,Nat.reduceAdd,Nat.reduceSub,Array.replicate_succ,Array.replicate_zero,List.push_toArray,List.append_toArray,List.nil_append,List.cons_append])
 go_upto_region 1 with fail
 generalize w.alloc (.cells #[.slice none 0 0] 132)=W1 at *;have HI0:=za hI0;have HZ1:=za hz1;clear hI0 hz1;have hItlt : ∀ k,Zt B a l.length c k→k<W1.heap.size:=fun k hk=>by have:=hItlt0 k hk;have:=HZ1.out;omega
 have HIL:=za hItlt0;clear hItlt0;generalize hItd:Zt B a l.length c=It at *;go_wp2;refine vQ.1 (Z5 (gf:=308) (lb:=#[.pointer (some ⟨B,0,none⟩)]) rfl (enters_of func308 (by kernel_rfl) rfl) (It:=It) (hItd ▸ QJ HIT.out HLL.out) hItlt (fun _=>rfl)
  (fun pre W=>Xy w l pre W) (fun _ _ _=>False) ?hI ?hIx HI0.out ?round ?done ?stop)
 case hI=>exact fun pre A B h hq=>h.quiet (by have:=HZ1.out;omega) hq
 case hIx=>exact fun _ _ _ _ h _=>h
 case stop=>exact fun _ _ _ _ _ h _=>h.elim
 case done =>
  rintro lb xs W hlb hS hI hK;have hS':xs=l:=hS;subst hS';obtain⟨a2,c2,h1,h2,h3⟩:=hI.row;have HI:=za hI;have H2:=za h2;have H3:=za h3;have hq:zx W1.heap.size _ _:=zx.putObj (.deferred none) hlb hK rfl;clear hI hS h2 h3 hItlt hItd;obtain⟨n,hn⟩:=zc xs.length;rw[hn]at h1;have HN:=za hn;clear hn;obtain⟨h1_0,h1_f,h1_l,H_h1⟩:=cr1 h1;clear h1;go_wp2;exact j6 (v := .slice a2 n c2) hK (by simp[results,results354,go_sem]) ⟨a2,c2,by rw[HN.out],hq.owns H2.out,fun g hg=>Zq (H3.out g hg),hq.mod HI.out.pu (by have:=HZ1.out;omega)⟩
 case round =>
  rintro lb pre x W K hI ⟨post,hpost⟩ hK;dsimp only[Vc];have hpl:pre.length<4194304:=by have:=HLL.out;rw[hpost]at this;simp at this;omega
  have HCI:=za hI;have HK:=za hK;clear hI hK hItlt hpost hItd;gi_wp2;refine HK.out _ _ (Mod.refl _ _) (fun l' W2 hl2 hr2 hq2 => ?_);have hI2:=HCI.out.quiet (by have:=HZ1.out;omega) hq2;obtain⟨a2,c2,h1,h2,h3⟩:=hI2.row;have HI2:=za hI2;have HR2:=za h2;have HF2:=za h3;have HW2:Hid (w.heap.size<W2.heap.size):=za (zl h1);clear hI2 h2 h3 HK HCI;obtain⟨j,hj⟩:=zc pre.length;rw[hj]at h1 HF2 hpl;have hrr:W2.ownsRow 0 114 1 (.slice a2 j c2) j (zU pre):=by rw[← hj];exact HR2.out
  have HRR:=za hrr;have HJ:=za hj;clear hrr hj;obtain⟨b2,hb2⟩:=zc w.heap.size;rw[hb2]at h1 HF2 HW2 HIL HZ1 ⊢;have HB2:=za hb2;clear hb2;have h1b:=h1;have H1:=za h1b;clear h1b;obtain⟨h1_0,h1_f,h1_l,H_h1⟩:=cr1 h1;clear h1
  gi_wp2_with (gi_at_builtin;refine zcZ _ rfl _ _ 132 rfl 114 i0 (.int .u32 0) 1 4 underlying132 hi iz0 iz1 iz2 rfl (by decide) (.slice a2 j c2) j _ rfl (zy HRR.out ((Mod.refl (fun _=>False) W2).alloc _) (fun _ _ h=>h)) _ [.int .u32 x] 1 rfl (zn.of_block 1 1 1 (zi rfl) (by rfl) (by simp[Value.oneCell'])) rfl (by unfold maxLen;omega) (by omega) ?_;intro a7 c7 w5 hr7 hg7 hb7;have M7:=za (Mod.heap (Mod.of_grown (S:=fun k=>(Value.slice a2 j c2).ownBlock=some k) hg7 (fun k e _=>e)) (fun e=>by have:=HF2.out _ e;omega) (zz H1.out));have m7:=zf w5 _ 0 _ _ _ M7.out;have fr7:=(fun j=>yP w5 _ j _ _ M7.out);have hlt5:=zl M7.out)
  have hM:Mod (fun k=>(Value.slice a2 j c2).ownBlock=some k∨k=b2) W2 (w5.setCell ⟨b2,0,none⟩ (.slice a7 (j+1) c7)) :=
   (((Mod.refl _ W2).alloc (.cells #[.int .u32 x] 114)).then (Mod.of_grown (S:=fun k=>(Value.slice a2 j c2).ownBlock=some k) hg7 (fun k e _=>e)) (fun _ _ h => .inl h)).setCell (fun _ => .inr rfl) _
  have h7 : ∀ g,(Value.slice a7 (j+1) c7).ownBlock=some g→b2<g:=fun g hg=>by
   rcases hb7 with e | e
   ·exact HF2.out g (e ▸ hg)
   ·rw[e]at hg;have hg2:(W2.alloc (.cells #[.int .u32 x] 114)).heap.size=g:=by injection hg
    have:=HW2.out;simp at hg2;omega
  refine⟨xd.of_mod hM (fun k _ h o ho => ?_),yS.of_mod hM (fun k hk h => ?_),⟨HI2.out.pu.then hM (fun k hk h => ?_),a7,c7,?_,?_,?_⟩⟩
  ·rcases h with h | rfl
   ·obtain⟨cur,e⟩:=yg HRR.out h;rw[e]at ho;cases ho;rfl
   ·rw[H1.out]at ho;cases ho;rfl
  ·have:=HIL.out k hk;rcases h with h | h
   ·have:=HF2.out k h;omega
   ·omega
  ·have:=HB2.out;rcases h with h | h
   ·have:=HF2.out k h;omega
   ·omega
  ·rw[HB2.out,zR,HJ.out];simpa using zP w5 b2 0 _ _ (.slice a7 (j+1) c7) M7.out
  ·unfold yr;rw[zR,HJ.out,qA];exact zy hr7 ((Mod.refl (fun k=>k=b2) w5).setCell (fun _=>rfl) _) (fun g hg e=>by have:=h7 g hg;omega)
  ·rw[HB2.out,zR,HJ.out];exact h7
theorem zkz{w:World}{B:Nat}{a:Option Addr}{c:Nat}{l:List Nat}(h:kI w B a c l)(hl:l.length≤4194304) :
  Calls prog 315 #[.func (.func 308) #[] #[.pointer (some ⟨B,0,none⟩)]] w (Vv w l):=by
 have HA:=za (zd4 h hl);obtain⟨n,hn⟩:=zc l.length;unfold Vv at HA;rw[hn]at HA;have HN:=za hn;clear h hl hn;go_enter func315,ntmps315
 go_wp2_with (go_at_call 354;refine HA.out.mono ?_;rintro e w1 ⟨a2,c2,rfl,h1,h2,h3⟩)
 go_ret;exact⟨a2,c2,by rw[HN.out];rfl,h1,by rw[HN.out];exact h2,h3⟩
end
section
open Go.RowKit
theorem set_self{Ls:List (List Nat)}{b:Nat}{l:List Nat}(h:Ls[b]? = some l):Ls.set b l=Ls:=by
 refine uF (fun j => ?_);by_cases e:b=j
 ·subst e;rw[yo (zF.1 h).1,h]
 ·rw[yx e]
section
variable{w w':World}{D:Nat→Prop}{p:Nat}{Ls:List (List Nat)}
theorem yV.small(h:yV w D p Ls){b:Nat}{l:List Nat}(hl:Ls[b]? = some l):l.length≤4194304∧(∀ s∈l,s<4194304)∧b<256∧l.Nodup:=by
 have hb:b<256:=by have:=(zF.1 hl).1;rw[h.len]at this;exact this
 obtain⟨q,many,N,Dl,h1,⟨gF,gL,cF,cL,F,m1,m2⟩,h3,h4⟩:=h;have:=m1.nm;exact⟨zH (m1.ok.short hl) this,fun s hs=>by have:=(m1.ok.own b l hl s hs).1;omega,hb,m1.ok.nodup b l hl⟩
theorem Q4(h:yV w D p Ls){b:Nat}{l:List Nat}(hl:Ls[b]? = some l) :
    Calls prog 266 #[lkP p,.int .i64 b] w fun e w' => ∃ a c,e=.returned (.tuple #[.slice a l.length c,.int .i64 0])∧yr w' a c l∧xA w (.slice a l.length c)∧zb w w':=by
  obtain⟨hll,_,hb,_⟩:=h.small hl;have HCk:=za (V6 h (s:=0) (by omega) (b:=(b:Int)) (by omega) (by omega));obtain⟨q,many,N,Dl,h1,h2,h3,h4⟩:=h;have HA:=za (zkd h2 hl hll);have HC:=za (fun(W:World) B a c (hi:kI W B a c l)=>zkz hi hll);obtain⟨n,hn⟩:=zc l.length;unfold Vv at HC;unfold KQ at HA;rw[hn]at HC;obtain⟨c0,_,_,_⟩:=qp h1;have HN:=za hn;clear h1 h2 h3 h4 hl hn hll;have b0:(0:Int)≤(b:Int):=by omega
  go_enter func266,ntmps266
  go_wp2_with (first
    | (go_at_call 313;refine HCk.out.mono ?_;rintro e w' ⟨rfl,rfl⟩)
    | (go_at_call 255;refine HA.out.mono ?_;rintro e w1 ⟨B,a,c,rfl,hi,hp1⟩;have HI1:=za hi;have HP1:=za hp1;clear hi hp1)
    | (go_at_call 315;refine(HC.out _ _ _ _ HI1.out).mono ?_;rintro e w2 ⟨a2,c2,rfl,q1,q2,q3⟩))
  go_ret2;exact⟨a2,c2,by rw[HN.out];rfl,q1,fun g hg=>by rw[HN.out]at hg;have:=q2 g hg;have:=HP1.out.size;omega,HP1.out.trans q3⟩
def Vd(f:Nat→Bool):Value:=match uB f 256 with
 | some b => .tuple #[.int .i64 (b:Nat),.int .i64 0]
 | none => .tuple #[.int .i64 0,.int .i64 9]
theorem Az9sg {P:Prop}(h:P:=by
 clear HNx;go_enter func265,ntmps265
 go_wp2_with (first
   | (go_at_call 313;refine HCk.out.mono ?_;rintro e w' ⟨rfl,rfl⟩)
   | (go_at_call 314;refine HNx2.out.mono ?_;rintro e w' ⟨rfl,rfl⟩))
 go_ret2;exact⟨rfl,rfl⟩):P:=h
theorem zcg(h:yV w D p Ls)(hT:xy w):Calls prog 265 #[lkP p,.int .i64 0] w fun e w'=>e=.returned (Vd (neB Ls))∧w=w':=by
  have HCk:=za (V6 h (s:=0) (by omega) (b:=0) (by omega) (by omega));obtain⟨q,many,N,Dl,h1,h2,h3,h4⟩:=h;have HNx:=za (ziN h1 hT);clear h1 h2 h3 h4 hT;unfold VO at HNx;unfold Vd
  cases hf:uB (neB Ls) 256 with
  | none =>
    rw[hf]at HNx;clear hf;have HNx2:Hid (Calls prog 314 #[mkP p,.int .i64 0] w fun e w'=>e=.returned (.tuple #[.int .i64 0,.bool false])∧w=w'):=HNx;exact Az9sg
  | some b =>
    rw[hf]at HNx;clear hf;have HNx2:Hid (Calls prog 314 #[mkP p,.int .i64 0] w fun e w'=>e=.returned (.tuple #[.int .i64 (b:Nat),.bool true])∧w=w'):=HNx;exact Az9sg
theorem ze8(h:yV w D p Ls){b:Nat}{l:List Nat}(hl:Ls[b]? = some l) :
  Calls prog 341 #[lkP p,.int .i64 b] w fun e w' => ∃ a c,e=.returned (.tuple #[.slice a l.length c,.int .i64 0])∧yr w' a c l∧xA w (.slice a l.length c)∧yV w' D p (Ls.set b [])∧Mod D w w':=by
 obtain⟨hll,hsm,hb,_⟩:=h.small hl;have hbl:b<Ls.length:=by rw[h.len];exact hb
 have HLi:=za (Q4 h hl);have HW:=za h;have HSM:=za hsm;have HL:=za hl;have HBL:=za hbl;obtain⟨n,hn⟩:=zc l.length;rw[hn]at HLi hll;have HN:=za hn;clear h hl hsm hn hbl;have b0:(0:Int)≤(b:Int):=by omega
 have wn:IntKind.i64.wrap (n:Int)=n:=zt _ (by omega);go_enter func341,ntmps341;go_upto_region 3 with(go_at_call 266;refine HLi.out.mono ?_;rintro e w1 ⟨a,c,rfl,hr,hf,hp⟩)
 have HW1:=za (HW.out.pure hp);have HND:Hid (∀ g,(Value.slice a n c).ownBlock=some g → ¬ D g):=za (fun g hg e=>by have:=hf g hg;have:=HW.out.lt e;omega);have HFr:=za hf;have HR:=za hr;have HP:=za hp;clear hr hf hp;go_loopw [18] (fun v wr => ∃ j,v=.int .i64 (j:Nat)∧j≤n∧yV wr D p (Ls.set b (l.drop j))∧yr wr a c l∧Mod D w wr) (fun v _=>n-(intOf v).toNat)
 case atStart =>
  refine⟨0,rfl,yh _,?_,HR.out,Mod.of_pure HP.out⟩;rw[List.drop_zero,set_self HL.out];exact HW1.out
 case round =>
  obtain⟨j,rfl,hj,hw,hr,hm⟩:=hrel;have HWr:=za hw;have HRr:=za hr;have HMr:=za hm;by_cases hlt:j<n
  ·have hlt':(j:Int)<(n:Int):=by omega
   have j0:(0:Int)≤(j:Int):=by omega
   have wj:IntKind.i64.wrap ((j:Int)+1)=(j:Int)+1:=zt _ (by omega);obtain⟨y,hy⟩ : ∃ y,l[j]? = some y:=⟨_,zN (by rw[HN.out];exact hlt)⟩;have hdr:l.drop j=y::l.drop (j+1):=by
    have hjl:j<l.length:=by rw[HN.out];exact hlt
    rw[kU hjl];rw[zN hjl]at hy;injection hy with hy
    rw[hy]
   obtain⟨ad,had,z0⟩:=Xw (qi hr) hy;have hRe:=zdg hw (s:=y) (b:=b) (l:=l.drop j) (HSM.out y (yd hy)) (yo HBL.out) (by rw[hdr];exact ym);rw[List.set_set,hdr,List.erase_cons_head]at hRe;have HRe:=za hRe;subst had;clear hy hw hr hm hdr hRe
   go_wp2_with (go_at_call 286;refine HRe.out.mono ?_;rintro e w5 ⟨rfl,q1,q2⟩)
   go_roundw
   case rel=>exact⟨j+1,by go_num,hlt,q1,zy HRr.out q2 (by rw[HN.out];exact HND.out),HMr.out.trans q2⟩
   case measure=>simp[intOf];omega
  ·have e:n=j:=by omega
   subst e;have HWe:Hid (yV wr D p (Ls.set b [])):=za (by have:=hw;rw[ZP (by rw[HN.out];exact zG _)]at this;exact this);clear hw hr hm hj hlt;go_wp2;go_ret2;exact⟨a,c,by rw[HN.out];rfl,HRr.out,by rw[HN.out];exact HFr.out,HWe.out,HMr.out⟩
end
end
section
open Go.RowKit Go.Shelf
def xq(w:World)(D:Nat→Prop)(p:Nat)(xs:List Nat):Prop :=
 ∃ q N Dl,w.heap[p]? = some (.cells #[lkP q] 321 (0,0))∧yk w Dl q N [xs] ∧ ∀ k,D k↔(k=p∨Dl k)
section
variable{w w':World}{D S:Nat→Prop}{p:Nat}{xs:List Nat}
theorem xq.frame(h:xq w D p xs)(hm:Mod S w w')(hd : ∀ k,D k → ¬ S k):xq w' D p xs:=by
 obtain⟨q,N,Dl,h1,h2,h3⟩:=h;exact⟨q,N,Dl,hm.heap (hd p ((h3 p).2 (.inl rfl))) h1,h2.frame hm (fun k hk=>hd k ((h3 k).2 (.inr hk))),h3⟩
theorem xq.pure(h:xq w D p xs)(hm:zb w w'):xq w' D p xs:=h.frame hm (fun _ _ h=>h)
theorem xq.lt(h:xq w D p xs){k:Nat}(hk:D k):k<w.heap.size:=by
 obtain⟨q,N,Dl,h1,h2,h3⟩:=h;rcases(h3 k).1 hk with rfl | e
 ·exact zl h1
 ·exact h2.lt e
theorem xq.self(h:xq w D p xs):D p:=by obtain⟨q,N,Dl,h1,h2,h3⟩:=h;exact(h3 p).2 (.inl rfl)
theorem Vx{q:Nat}(h:w.heap[p]? = some (.cells #[lkP q] 321 (0,0))){Dl:Nat→Prop}{q' N:Nat}{Ls:List (List Nat)}(hl:yk w Dl q' N Ls) : ¬ Dl p:=fun hd=>by
 rcases hl.types hd h with e | e | e<;>exact absurd e (by decide)
theorem yk.slots{Dl:Nat→Prop}{q N:Nat}(h:yk w Dl q N [xs]):xs.Nodup∧(∀ x∈xs,x<N)∧N≤4194304:=by
 have hN:=h.lenH.2.1;obtain⟨gF,gL,cF,cL,F,h1,h2⟩:=h;refine⟨h1.ok.nodup 0 xs rfl,fun x hx=>(h1.ok.own 0 xs rfl x hx).1,hN⟩
theorem xq.law(h:xq w D p xs):xs.Nodup∧(∀ x∈xs,x<4194304)∧xs.length≤4194304:=by
 obtain⟨q,N,Dl,h1,h2,h3⟩:=h;obtain⟨k1,k2,k3⟩:=h2.slots;exact⟨k1,fun x hx=>by have:=k2 x hx;omega,zH (qJ k1 k2) k3⟩
theorem Jp{n:Nat}:inL [xs] n↔n∈xs:=by
 constructor
 ·rintro⟨k,l,hl,hm⟩
  cases k with
  | zero=>cases hl;exact hm
  | succ k=>cases hl
 ·exact fun h=>⟨0,xs,rfl,h⟩
theorem zjH(w:World):Calls prog 222 #[] w fun e w' => ∃ p D,e=.returned (lkP p)∧xq w' D p []∧zb w w' ∧ ∀ k,D k→w.heap.size≤k:=by
 have HN:=za (J1 w (N:=8) (H:=1) (by omega) (by omega) (by omega) (by omega));go_enter func222,ntmps222
 go_wp2_with (go_at_call 275;refine HN.out.mono ?_;rintro e w1 ⟨q,Dl,rfl,hl,hp,hf⟩)
 have ha:zb w1 (w1.alloc (.cells #[lkP q] 321)):=(Mod.refl _ w1).alloc _;have hlt:=fun k (hk:Dl k)=>hl.lt hk
 have hE:xq (w1.alloc (.cells #[lkP q] 321)) (fun k=>k=w1.heap.size∨Dl k) w1.heap.size []:=⟨q,8,Dl,zi rfl,hl.pure ha,fun _=>vE⟩;have hpp:=hp.trans ha;have hsz:=hp.size;go_ret;refine⟨w1.heap.size,_,rfl,hE,hpp,fun k hk => ?_⟩;rcases hk with rfl | e
 ·omega
 ·exact hf k e
theorem QZ{q:Nat}(hb:w.heap[p]? = some (.cells #[lkP q] 321 (0,0))){s:Nat}(h32:s≤4294967295):Calls prog 253 #[lkP p,.int .u32 s] w fun e w'=>e=.returned (.int .i64 (if s<4194304 then 0 else 2))∧w=w':=by
 obtain⟨hb_0,hb_f,hb_l,H_hb⟩:=cr1 hb;clear hb;by_cases h:s<4194304
 ·rw[zk h];have d:decide ((4194304:Int)≤(s:Int))=false:=zQ (by omega);have dn:decide (4194304≤s)=false:=zQ (by omega);go_enter func253,ntmps253;go_wp2;go_ret;exact⟨rfl,rfl⟩
 ·rw[zh h];have d:decide ((4194304:Int)≤(s:Int))=true:=zL (by omega);have dn:decide (4194304≤s)=true:=zL (by omega);go_enter func253,ntmps253;go_wp2;go_ret;exact⟨rfl,rfl⟩
theorem Qa{q:Nat}(hb:w.heap[p]? = some (.cells #[lkP q] 321 (0,0))):Calls prog 253 #[lkP p,.int .u32 0] w fun e w'=>e=.returned (.int .i64 0)∧w=w':=QZ hb (s:=0) (by omega)
theorem JU{q:Nat}(hb:w.heap[p]? = some (.cells #[lkP q] 321 (0,0))){s:Nat}(hs:s<4194304):Calls prog 253 #[lkP p,.int .u32 s] w fun e w'=>e=.returned (.int .i64 0)∧w=w':=by
 have:=QZ hb (s:=s) (by omega);rw[zk hs]at this;exact this
theorem zcI(h:xq w D p xs){s:Nat}(hs:s<4194304):Calls prog 235 #[lkP p,.int .u32 s] w fun e w'=>e=.returned (.bool (decide (s∈xs)))∧w=w':=by
  obtain⟨q,N,Dl,hb,hl,hd⟩:=h;have HC:=za (JU hb hs);have HO:=za (zcE hl (n:=s) (by omega));clear hl hd;obtain⟨hb_0,hb_f,hb_l,H_hb⟩:=cr1 hb;clear hb;by_cases h:s∈xs
  · have e0:decide (s∈xs)=true:=zL h
    rw[e0];have HI:=za h;clear h e0;go_enter func235,ntmps235
    go_wp2_with (first
      | (go_at_call 253;refine HC.out.mono ?_;rintro e w' ⟨rfl,rfl⟩)
      | (go_at_call 282;refine HO.out.mono ?_;rintro e w' ⟨⟨k,l,hl,hm,rfl⟩ | ⟨hn,_⟩,rfl⟩;rotate_left 1;exact absurd (Jp.2 HI.out) hn))
    go_ret;exact⟨rfl,rfl⟩
  · have e0:decide (s∈xs)=false:=zQ h
    rw[e0];have HI:=za h;clear h e0;go_enter func235,ntmps235
    go_wp2_with (first
      | (go_at_call 253;refine HC.out.mono ?_;rintro e w' ⟨rfl,rfl⟩)
      | (go_at_call 282;refine HO.out.mono ?_;rintro e w' ⟨⟨k,l,hl,hm,rfl⟩ | ⟨hn,er,hne,rfl⟩,rfl⟩;exact absurd (Jp.1 ⟨k,l,hl,hm⟩) HI.out;have he0:(er==0)=false:=(by simpa using hne)))
    go_ret;exact⟨rfl,rfl⟩
theorem zeg(h:xq w D p xs):Calls prog 251 #[lkP p] w fun e w'=>e=.returned (.int .i64 xs.length)∧w=w':=by
  obtain⟨q,N,Dl,hb,hl,hd⟩:=h;have HC:=za (Qa hb);have HL:=za (QA hl (k:=0) rfl);clear hl hd;obtain⟨hb_0,hb_f,hb_l,H_hb⟩:=cr1 hb;clear hb;go_enter func251,ntmps251
  go_wp2_with (first
    | (go_at_call 253;refine HC.out.mono ?_;rintro e w' ⟨rfl,rfl⟩)
    | (go_at_call 304;refine HL.out.mono ?_;rintro e w' ⟨rfl,rfl⟩))
  go_ret;exact⟨rfl,rfl⟩
theorem Qp(h:xq w D p xs){s:Nat}(hs:s∈xs):Calls prog 283 #[lkP p,.int .u32 s] w fun e w'=>e=.returned (.int .i64 0)∧xq w' D p (xs.erase s)∧Mod D w w':=by
  have hs4:=h.law.2.1 s hs;have HH:=za (zcI h hs4);rw[zL hs]at HH;obtain⟨q,N,Dl,hb,hl,hd⟩:=h;have HC:=za (JU hb hs4);have HR:=za (zai hl (k:=0) rfl hs);have HN:=za (Vx hb hl);have HD:=za hd;have HB:=za hb;clear hl hd hs4 hs;obtain⟨hb_0,hb_f,hb_l,H_hb⟩:=cr1 hb;clear hb;go_enter func283,ntmps283
  go_wp2_with (first
    | (go_at_call 253;refine HC.out.mono ?_;rintro e w' ⟨rfl,rfl⟩)
    | (go_at_call 235;refine HH.out.mono ?_;rintro e w' ⟨rfl,rfl⟩)
    | (go_at_call 330;refine HR.out.mono ?_;rintro e w1 ⟨rfl,hl1,hm1⟩))
  go_ret;exact⟨rfl,⟨q,N,Dl,hm1.heap HN.out HB.out,hl1,HD.out⟩,hm1.mono (fun k _ hk=>(HD.out k).2 (.inr hk))⟩
end
section
variable{w w':World}{D S:Nat→Prop}{p:Nat}{xs:List Nat}
theorem zle{N:Nat}(hN:1≤N)(hN2:N≤4194304)(w:World):Calls prog 361 #[.int .i64 N] w fun e w' => ∃ g,e=.returned (.slice (some ⟨g,0,none⟩) N N)∧zn w' (.slice (some ⟨g,0,none⟩) N N) 1 (zU (List.range N))∧zb w w':=by
 obtain⟨i0,hi,iz0,iz1,iz2⟩:=xn jC;have hmk : ∀ W:World,(Instr.makeSlice 132 (.int .i64 (N:Int)) (.int .i64 (N:Int))).run prog W=.ok (.slice (some ⟨W.heap.size,0,none⟩) N N) (W.alloc (.cells (zU (vt N 0)).toArray 114)):=fun W=>by
  exact Azhz3
 clear hi iz0 iz1 iz2;go_enter func361,ntmps361;go_upto_region 3 with fail
 have hal:zb w (w.alloc (.cells (zU (vt N 0)).toArray 114)):=(Mod.refl _ w).alloc _;have hr0:=zi (w:=w) (o := .cells (zU (vt N 0)).toArray 114 (0,0)) rfl;have HAL:=za hal;have HR0:=za hr0;clear hal hr0 hmk;generalize w.alloc (.cells (zU (vt N 0)).toArray 114)=W1 at *;obtain⟨g,hg⟩:=zc w.heap.size;rw[hg]at HR0 ⊢;have HG:=za hg;clear hg;go_loopw [9] (fun v wr => ∃ i,v=.int .i64 (i:Nat)∧i≤N∧zb w wr∧wr.heap[g]? = some (.cells (zU (vt N i)).toArray 114 (0,0))) (fun v _=>N-(intOf v).toNat)
 case atStart=>exact⟨0,rfl,yh _,HAL.out,HR0.out⟩
 case round =>
  clear HAL HR0;obtain⟨i,rfl,hi,hpu,hrw⟩:=hrel;have HPU:=za hpu;have HRW:=za hrw;clear hpu hrw;by_cases hlt2:i<N
  ·have hlt':(i:Int)<(N:Int):=by omega
   exact Azufj
  ·have e:N=i:=by omega
   subst e;have hrd:zn wr (.slice (some ⟨g,0,none⟩) N N) 1 (zU (List.range N)):=by
    exact Azwd4
   have HRD:=za hrd;have hge:(N:Int)≤(N:Int):=Int.le_refl _;clear hrd;go_wp2;go_ret;exact⟨g,rfl,HRD.out,HPU.out⟩
theorem zhI{q N:Nat}{Dl:Nat→Prop}(hb:w.heap[p]? = some (.cells #[lkP q] 321 (0,0)))(hl:yk w Dl q N [xs]){s:Nat}(hs:s<4194304) :
  Calls prog 323 #[lkP p,.int .u32 s] w fun e w'=>e=.returned (.tuple #[]) ∧ ∃ N' Dl',yk w' Dl' q N' [xs]∧s<N'∧Mod Dl w w' ∧ ∀ k,Dl' k→Dl k∨w.heap.size≤k:=by
 obtain⟨l4,l5,l6⟩:=hl.lenH;have HNo:=za (zbI hl);have HL:=za hl;have HNP:=za (Vx hb hl);clear hl l4;have wn:IntKind.i64.wrap (s:Int)=(s:Int):=zt _ (by omega);obtain⟨hb_0,hb_f,hb_l,H_hb⟩:=cr1 hb;clear hb;by_cases c:s<N
 ·have d1:decide ((N:Int)≤(s:Int))=false:=zQ (by omega);have d1n:decide (N≤s)=false:=zQ (by omega);go_enter func323,ntmps323
  go_wp2_with (go_at_call 359;refine HNo.out.mono ?_;rintro e w' ⟨rfl,rfl⟩)
  go_end0
  exact⟨rfl,N,Dl,HL.out,c,Mod.refl _ _,fun k hk => .inl hk⟩
 ·have d1:decide ((N:Int)≤(s:Int))=true:=zL (by omega);have d1n:decide (N≤s)=true:=zL (by omega);have w2:IntKind.i64.wrap (2*(N:Int))=2*(N:Int):=zt _ (by omega);have w3:IntKind.i64.wrap ((s:Int)+1)=(s:Int)+1:=zt _ (by omega);have HSa:=za (fun W=>zle l6 l5 W);go_enter func323,ntmps323;go_upto_region 2 with(go_at_call 359;refine HNo.out.mono ?_;rintro e w' ⟨rfl,rfl⟩)
  have hren : ∀(wr:World) (g:Nat) (M:Int),zb w wr→zn wr (.slice (some ⟨g,0,none⟩) N N) 1 (zU (List.range N))→(N:Int)≤M→M≤4194304→(s:Int)<M→Calls prog 360 #[lkP q,.slice (some ⟨g,0,none⟩) N N,.int .i64 M] wr fun e w'=>e=.returned (.int .i64 0) ∧ ∃ N' Dl',yk w' Dl' q N' [xs]∧s<N'∧Mod Dl w w' ∧ ∀ k,Dl' k→Dl k∨w.heap.size≤k:=fun wr g M hpu hrd h1 h2 h3=>by
   obtain⟨M,rfl⟩:=Int.eq_ofNat_of_zero_le (show 0≤M by omega);refine(zcW (HL.out.pure hpu) (by simp) (some ⟨g,0,none⟩) N hrd (M:=M) (by omega) (by omega)).mono ?_;rintro e w' ⟨he,⟨D',g1,g2⟩,g3⟩;have hq:=HL.out.self;refine⟨he,M,D',g1,by omega,(Mod.of_pure hpu).trans (g3.mono (fun k _ hk=>by rw[hk];exact hq)),fun k hk => ?_⟩;rcases g2 k hk with e | e
   ·exact .inl (by rw[e];exact hq)
   ·exact .inr (zH hpu.size e)
  have HRen:=za hren;clear hren;obtain⟨m1,hm1⟩ : ∃ m1:Int,(if 2*(N:Int)<(s:Int)+1 then(s:Int)+1 else 2*(N:Int))=m1:=⟨_,rfl⟩;have hm2:(N:Int)≤m1∧(s:Int)<m1:=by split at hm1<;>omega
  obtain⟨M,hM⟩ : ∃ M:Int,(if m1<4194304 then m1 else(4194304:Int))=M:=⟨_,rfl⟩;have hM1:(N:Int)≤M∧M≤4194304∧(s:Int)<M:=by split at hM<;>omega
  have HM:=za hM1;have HM0:=za hM;have HM2:=za hm1;clear hM1 hM hm2 hm1;refine rHd (S:=fun u=>u.cell? ⟨p,0,none⟩=some (lkP q)) (by exact hb_0) (fun h_ => ?_);refine hTk 0 ?_;refine hTk 1 ?_;refine hTk 2 ?_;refine hLd 3 ?_;refine hTk 4 ?_;refine hTk 6 ?_;refine hTk 7 ?_;refine hTk 8 ?_;refine hTk 9 ?_;refine hTk 10 ?_;refine hTk 11 ?_;rw[HM2.out];refine hTk 12 ?_;rw[HM0.out]
  (refine hSt 5 (fun K hK => ?_);go_simp;refine(HSa.out _).mono ?_;rintro e w1 ⟨g,rfl,hrd,hp1⟩;refine hK.out _ _ ?_ (fun h_ => ?_);(· exact hp1.cell (fun h=>h) hb_0);clear hK K;refine clA ?_)
  (refine hSt 13 (fun K hK => ?_);go_simp;refine(HRen.out _ _ _ (Mod.of_drew hp1) hrd HM.out.1 HM.out.2.1 HM.out.2.2).mono ?_;rintro e w2 ⟨rfl,N',Dl',q1,q2,q3,q4⟩;refine hK.out _ _ ?_ (fun h_ => ?_);(· exact q3.cell HNP.out hb_0);clear hK K;refine clA ?_)
  refine hDn ?_;clear h_;go_wp2
  go_end0
  exact⟨rfl,N',Dl',q1,q2,q3,q4⟩
theorem QG(h:xq w D p xs){s:Nat}(hs:s<4194304)(hn:s∉xs) :
    Calls prog 273 #[lkP p,.int .u32 s] w fun e w'=>e=.returned (.int .i64 0)∧(∃ D',xq w' D' p (xs++[s]) ∧ ∀ k,D' k→D k∨w.heap.size≤k)∧Mod D w w':=by
  obtain⟨q,N,Dl,hb,hl,hd⟩:=h;have HC:=za (JU hb hs);have HRo:=za (zhI hb hl hs);have HN:=za (Vx hb hl);have HD:=za hd;have HB:=za hb;have HNI:Hid (¬ inL [xs] s):=fun h=>hn (Jp.1 h)
  clear hl hd hs hn;go_enter func273,ntmps273;go_upto_region 5 with(first
    | (go_at_call 253;refine HC.out.mono ?_;rintro e w' ⟨rfl,rfl⟩)
    | (go_at_call 323;refine HRo.out.mono ?_;rintro e w1 ⟨rfl,N',Dl',hl1,hs1,hm1,hg1⟩))
  have hb1:=hm1.heap HN.out HB.out;have HBa:=za (JO hl1 (k:=0) hs1 rfl HNI.out);have HN1:=za (Vx hb1 hl1);have HM1:=za hm1;have HG1:=za hg1;clear hl1 hs1 hm1 hg1 hb;obtain⟨hb1_0,hb1_f,hb1_l,H_hb1⟩:=cr1 hb1;clear hb1
  go_wp2_with (go_at_call 324;refine HBa.out.mono ?_;rintro e w2 ⟨rfl,hl2,hm2⟩)
  go_ret;refine⟨rfl,⟨fun k=>k=p∨Dl' k,⟨q,N',Dl',hm2.heap HN1.out H_hb1.out,hl2,fun _=>vE⟩,fun k hk => ?_⟩,?_⟩
  · rcases hk with rfl | e
    · exact .inl ((HD.out _).2 (.inl rfl))
    · rcases HG1.out k e with e | e
      · exact .inl ((HD.out _).2 (.inr e))
      · exact .inr e
  · refine Mod.trans' HM1.out hm2 (fun i _ hi=>(HD.out i).2 (.inr hi)) (fun i hi hk => ?_)
    rcases HG1.out i hk with e | e
    · exact(HD.out i).2 (.inr e)
    · omega
theorem zgg{N:Nat}{Ls:List (List Nat)}{gF gL cF cL:Nat}{F:List Nd}(h:xm w p gF gL cF cL N Ls F){n:Nat}(hn:n<N):Calls prog 351 #[lkP p,.int .u32 n] w fun e w'=>e=.returned (.tuple #[.int .u32 n,.int .i64 0])∧w=w':=by
 have hb:=h.box;have d1:decide ((N:Int)≤(n:Int))=false:=zQ (by omega);have d1n:decide (N≤n)=false:=zQ (by omega);have hnm:=h.nm;have wn:IntKind.i64.wrap (n:Int)=(n:Int):=zt _ (by omega);clear h;generalize F.length=fl at *;generalize Ls.length=ll at *;obtain⟨hb_0,hb_1,hb_2,hb_f,hb_l,H_hb⟩:=cr3 hb;clear hb;go_enter func351,ntmps351;go_wp2;go_ret2;exact⟨rfl,rfl⟩
theorem zme{Dl:Nat→Prop}{q N:Nat}{x:Nat}{l:List Nat}(h:yk w Dl q N [x::l]):Calls prog 306 #[lkP q,.int .i64 0] w fun e w'=>e=.returned (.tuple #[.int .u32 x,.int .i64 0])∧zb w w':=by
 obtain⟨gF,gL,cF,cL,F,h,h2⟩:=h;have HLi:=za (Uj h (k:=0) (by simp));have HRi:=za (fun(W:World) (hW:zb w W)=>Ks (h.pure hW) (k:=0) (by omega));have HRe:=za (fun(W:World) (hW:zb w W)=>zgg (h.pure hW) (n:=x) (h.ok.own 0 _ rfl x (by simp)).1);have hNF:N+0<F.length:=h.ok.hd_lt (by simp);obtain⟨c0,c1,c2⟩:=h.at_ (i:=N+0) hNF;rw[(h.ok.ring 0 _ rfl).at_ (i:=0) (x:=N+0) (y:=x) rfl rfl]at c1;have hb:=h.box;obtain⟨FL,hFL⟩:=zc F.length;rw[hFL]at hb hNF;simp only[Nat.add_zero]at hNF c1;have dr:decide (N<FL)=true:=zL hNF;have hN4:=h.nm;clear h h2 c0 c2;obtain⟨hb_0,hb_1,hb_2,hb_f,hb_l,H_hb⟩:=cr3 hb;clear hb;go_enter func306,ntmps306;go_upto_region 4 with(go_at_call 350;refine HLi.out.mono ?_;rintro e w' ⟨rfl,rfl⟩)
 refine rHd (S:=fun u=>u=w.drew) rfl (fun h_ => ?_);refine hTk 0 ?_;refine hTk 1 ?_;refine hTk 2 ?_;refine hTk 3 ?_;refine hTk 5 ?_;refine hTk 6 ?_;refine hLd 4 ?_
 (refine hSt 7 (fun K hK => ?_);go_simp;refine zm (HRi.out _ ((Mod.refl _ w).drew)) ?_;rintro e w1 ⟨rfl,rfl⟩;refine hK.out _ _ ?_ (fun h_ => ?_);(· rfl);clear hK K;refine clA ?_)
 refine hTk 8 ?_;refine hTk 9 ?_;refine hLd 10 ?_
 (refine hSt 11 (fun K hK => ?_);go_simp;refine zm (HRe.out _ ((Mod.refl _ w).drew)) ?_;rintro e w2 ⟨rfl,rfl⟩;refine hK.out _ _ ?_ (fun h_ => ?_);(· rfl);clear hK K;refine clA ?_)
 refine hTk 12 ?_;refine hTk 13 ?_;refine hTk 14 ?_;refine hTk 15 ?_;refine hDn ?_;clear h_;go_wp2;go_ret2;exact⟨rfl,(Mod.refl _ w).drew⟩
theorem ziZ{q N:Nat}{Dl:Nat→Prop}{x:Nat}{l:List Nat}(hb:w.heap[p]? = some (.cells #[lkP q] 321 (0,0)))(hl:yk w Dl q N [x::l]):Calls prog 305 #[lkP p,.func (.func 306) #[] #[]] w fun e w'=>e=.returned (.tuple #[.int .u32 x,.int .i64 0])∧zb w w':=by
  have HC:=za (Qa hb);have HF:=za (zme hl);clear hl;obtain⟨hb_0,hb_f,hb_l,H_hb⟩:=cr1 hb;clear hb;go_enter func305,ntmps305
  go_wp2_with (first
    | (go_at_call 253;refine HC.out.mono ?_;rintro e w' ⟨rfl,rfl⟩)
    | (go_at_call 306;refine HF.out.mono ?_;rintro e w' ⟨rfl,hp⟩))
  go_ret2;exact⟨rfl,hp⟩
theorem zlC{x:Nat}{l:List Nat}(h:xq w D p (x::l)):Calls prog 252 #[lkP p] w fun e w'=>e=.returned (.tuple #[.int .u32 x,.int .i64 0])∧zb w w':=by
 obtain⟨q,N,Dl,hb,hl,hd⟩:=h;have HE:=za (ziZ hb hl);clear hl hd hb;go_enter func252,ntmps252
 go_wp2_with (go_at_call 305;refine HE.out.mono ?_;rintro e w' ⟨rfl,hp⟩)
 go_ret2;exact⟨rfl,hp⟩
def KP(w:World)(l:List Nat)(e:Ending)(w':World):Prop :=
 ∃ B a c,e=.returned (.func (.func 308) #[] #[.pointer (some ⟨B,0,none⟩)])∧kI w' B a c l∧zb w w'∧w.heap.size≤B∧xA w (.slice a l.length c)
theorem zd1{q N:Nat}{Ls:List (List Nat)}(h:yk w D q N Ls){k:Nat}{l:List Nat}(hl:Ls[k]? = some l)(hll:l.length≤4194304):Calls prog 255 #[lkP q,.int .i64 k] w (KP w l):=by
  have HA:=za (J4 h hl);obtain⟨n,hn⟩:=zc l.length;rw[hn]at HA hll;have HN:=za hn;clear h hl hn;obtain⟨i0,hi,iz0,iz1,iz2⟩:=xn jC;go_enter func255,ntmps255;go_upto_region 2 with(first
    | (go_at_call 307;refine HA.out.mono ?_;rintro e w1 ⟨a,c,rfl,hrow,hfr,hp1⟩;have hrd:=qi hrow;rw[HN.out]at hrd;have HRD:=za hrd;have HP1:=za hp1;clear hrow hfr hp1 hrd)
    | (at_builtin;refine ul _ rfl _ _ 132 rfl 114 i0 _ 1 4 underlying132 hi iz0 iz1 iz2 rfl (by decide) (.slice none 0 0) 0 [] rfl (vj _ _ _ _) _ (zU l) n rfl HRD.out (by rw[qd,HN.out];omega) (by unfold maxLen;omega) (by omega) ?_;intro a7 c7 w5 hr7 hg7 hb7))
  have hp5:zb w1 w5:=Mod.of_grown hg7 (fun k e _=>by cases e);have hr:=hr7;rw[ZV,YM]at hr;have hal:zb w5 (w5.alloc (.cells #[.slice a7 n c7] 132)):=(Mod.refl _ w5).alloc _;have hbx:=zi (w:=w5) (o := .cells #[.slice a7 n c7] 132 (0,0)) rfl;have hs1:=HP1.out.size;have hs5:=hp5.size;have hf7:xA w (.slice a7 n c7):=fun g hg=>by
    rw[ZV]at hb7;rcases hb7 with e | e
    · rw[e]at hg;cases hg
    · rw[e]at hg;cases hg;exact hs1
  have HE:Hid (KP w l (.returned (.func (.func 308) #[] #[.pointer (some ⟨w5.heap.size,0,none⟩)])) (w5.alloc (.cells #[.slice a7 n c7] 132))):=za
    ⟨w5.heap.size,a7,c7,rfl,⟨by rw[HN.out];exact hbx,by unfold yr;rw[HN.out];exact zy hr hal (fun _ _ h=>h)⟩,(HP1.out.trans hp5).trans hal,by omega,by rw[HN.out];exact hf7⟩
  clear hr hr7 hg7 hb7 hp5 hal hbx hs1 hs5 hf7;go_wp2;go_ret;exact HE.out
theorem zeY(h:xq w D p xs):Calls prog 182 #[lkP p] w (KP w xs):=by
  have hlen:=h.law.2.2;obtain⟨q,N,Dl,hb,hl,hd⟩:=h;have HC:=za (Qa hb);have HA:=za (zd1 hl (k:=0) rfl hlen);clear hl hd hlen;obtain⟨hb_0,hb_f,hb_l,H_hb⟩:=cr1 hb;clear hb;go_enter func182,ntmps182
  go_wp2_with (first
    | (go_at_call 253;refine HC.out.mono ?_;rintro e w' ⟨rfl,rfl⟩)
    | (go_at_call 255;refine HA.out.mono ?_;rintro e w1 ⟨B,a,c,rfl,h1,h2,h3,h4⟩))
  go_ret;exact⟨B,a,c,rfl,h1,h2,h3,h4⟩
end
end
section
open Go.RowKit Go.Maps
structure Wt where
 slot:Nat
 cost:Nat
def cD(c:Nat):DataW Unit := .lit (.int .i64 c)
def jg(v:Value):Option (DataW Unit × List MemPlace):=match v with
 | .int .i64 a=>if 0≤a then some (.lit (.int .i64 a),[])else none
 | _=>none
theorem XO(s:Nat):jg (.int .i64 s)=some (.lit (.int .i64 s),[]):=by
 unfold jg;simp
theorem Kn{v:Value}{z:DataW Unit × List MemPlace}(h:jg v=some z) : ∃ s:Nat,v=.int .i64 s∧z=(.lit (.int .i64 s),[]):=by
 unfold jg at h;exact Azbdj
theorem Ql{a b:Nat}(h:(DataW.lit (.int .i64 a):DataW Unit)=.lit (.int .i64 b)):a=b:=by
 injection h with h;injection h with _ h;exact ZE.1 h
structure xF(w:World)(b:Nat)(M:List Wt)(D:DataW Unit):Prop where
 own:w.ownsMap prog 114 jg b M.length D
 at_ : ∀ x∈M,∀ zd,D.atKey (kS x.slot) zd=cD x.cost
 has : ∀ s,Maps.has D (kS s)=true → ∃ x∈M,x.slot=s
 size:Maps.size D=M.length
section
variable{w w':World}{b:Nat}{M:List Wt}{D:DataW Unit}{S:Nat→Prop}
theorem xF.mod(h:xF w b M D)(hm:Mod S w w')(hb : ¬ S b):xF w' b M D:=⟨XH h.own hm hb,h.at_,h.has,h.size⟩
theorem xF.new(w:World):xF (w.alloc (.map #[] 0)) w.heap.size [] (.map []):=⟨XV _ _ _ _,(fun _ h=>by cases h),(fun s h=>by cases h),rfl⟩
theorem xF.perm{M':List Wt}(h:xF w b M D)(hp:M.Perm M'):xF w b M' D :=
 ⟨by rw[← hp.length_eq];exact h.own,fun x hx=>h.at_ x (hp.mem_iff.2 hx),fun s hs=>by obtain⟨x,hx,e⟩:=h.has s hs;exact⟨x,hp.mem_iff.1 hx,e⟩,by rw[← hp.length_eq];exact h.size⟩
theorem xF.has_mem(h:xF w b M D){x:Wt}(hx:x∈M):Maps.has D (kS x.slot)=true:=Maps.has_true_of_atKey (h.at_ x hx)
theorem xF.not_has(h:xF w b M D){s:Nat}(hs : ∀ x∈M,x.slot≠s):Maps.has D (kS s)=false:=by
 exact Az5du
theorem US(w:World):(zeroValue 3).run prog w=.ok (.int .i64 (0:Nat)) w:=by kernel_rfl
theorem xF.look(h:xF w b M D){x:Wt}(hx:x∈M)(hs:x.slot≤4294967295):(Instr.lookup 220 (.map (some b)) (.int .u32 x.slot) true).run prog w=.ok (.tuple #[.int .i64 x.cost,.bool true]) w:=by
 obtain⟨v,ps,hrun,hv⟩:=h.own.look_ok vk underlying220 (US w) (XO _) (uv hs);rw[h.at_ x hx]at hv;obtain⟨y,rfl,e⟩:=Kn hv;have:=Ql (congrArg Prod.fst e);subst this;rw[hrun,h.has_mem hx]
theorem xF.look_no(h:xF w b M D){s:Nat}(hs:s≤4294967295)(hn : ∀ x∈M,x.slot≠s):(Instr.lookup 220 (.map (some b)) (.int .u32 s) true).run prog w=.ok (.tuple #[.int .i64 0,.bool false]) w:=by
 obtain⟨v,ps,hrun,hv⟩:=h.own.look_ok vk underlying220 (US w) (XO _) (uv hs);have h0:=h.not_has hn;rw[Maps.atKey_of_not_has h0]at hv;obtain⟨y,rfl,e⟩:=Kn hv;have:=Ql (congrArg Prod.fst e);subst this;rw[hrun,h0]
 rfl
theorem xF.look1(h:xF w b M D){x:Wt}(hx:x∈M)(hs:x.slot≤4294967295):(Instr.lookup 220 (.map (some b)) (.int .u32 x.slot) false).run prog w=.ok (.int .i64 x.cost) w:=by
 obtain⟨v,ps,hrun,hv⟩:=h.own.lookup vk underlying220 (US w) (XO _) (uv hs);rw[h.at_ x hx]at hv;obtain⟨y,rfl,e⟩:=Kn hv;have:=Ql (congrArg Prod.fst e);subst this;exact hrun
theorem xF.put{x:Wt}(h:xF w b M D)(hn : ∀ y∈M,y.slot≠x.slot)(ho:w'.ownsMap prog 114 jg b (M.length+1) (D.put (kS x.slot) (cD x.cost))):xF w' b (x::M) (D.put (kS x.slot) (cD x.cost)):=by
 exact Az4wa
theorem xF.del{x:Wt}{M':List Wt}(h:xF w b M D)(hx:x∈M)(hM : ∀ y,y∈M'↔y∈M∧y.slot≠x.slot)(hl:M'.length+1=M.length){n:Nat}(ho:w'.ownsMap prog 114 jg b n (D.del (kS x.slot))):xF w' b M' (D.del (kS x.slot)):=by
 exact Azfrz
end
def zA(A:List Wt):List Nat:=A.map Wt.slot
def zv(A:List Wt):Nat:=(A.map Wt.cost).sum
structure SgL(A B:List Wt):Prop where
 nd:(zA (A++B)).Nodup
 rng : ∀ x∈A++B,x.slot<4194304∧x.cost≤1099511627776
theorem vF(A B:List Wt):zv (A++B)=zv A+zv B:=by unfold zv;simp
theorem uZ(x:Wt)(B:List Wt):zv (x::B)=x.cost+zv B:=by unfold zv;simp
theorem j8:zv []=0:=rfl
theorem XF(A B:List Wt):zA (A++B)=zA A++zA B:=by unfold zA;simp
theorem ziT{A B:List Wt}(h:A.Perm B):zv A=zv B:=(h.map Wt.cost).sum_nat
theorem XD{A:List Wt}(h : ∀ x∈A,x.cost≤1099511627776):zv A≤A.length*1099511627776:=by
 induction A with
 | nil=>exact yh _
 | cons a A ih =>
  have h1:=h a ym;have h2:=ih (fun x hx=>h x (yB _ hx));rw[uZ,qz];omega
theorem SgL.len{A B:List Wt}(h:SgL A B):(A++B).length≤4194304:=by
 have:=qJ h.nd (N:=4194304) (fun a ha=>by obtain⟨x,hx,rfl⟩:=zI.1 ha;exact(h.rng x hx).1);unfold zA at this;rw[yt]at this;exact this
theorem SgL.sums{A B:List Wt}(h:SgL A B):zv A+zv B≤4611686018427387904:=by
 have h1:=XD (A:=A++B) (fun x hx=>(h.rng x hx).2);have h2:=h.len;rw[vF]at h1;have:(A++B).length*1099511627776≤4194304*1099511627776:=Xk _ h2;omega
def zw(A:List Wt)(s:Nat):List Wt:=A.filter (fun x=>decide (x.slot≠s))
theorem Zv{A:List Wt}{s:Nat}(h : ∀ x∈A,x.slot≠s):zw A s=A:=by
 unfold zw;exact jf.2 (fun x hx=>by simpa using h x hx)
theorem jG{A:List Wt}{s:Nat}{y:Wt}:y∈zw A s↔y∈A∧y.slot≠s:=by unfold zw;simp
theorem j7(A B:List Wt)(s:Nat):zw (A++B) s=zw A s++zw B s:=by unfold zw;simp
theorem zaO{A:List Wt}(h:(zA A).Nodup)(s:Nat):zA (zw A s)=(zA A).erase s:=by
 rw[h.erase_eq_filter];unfold zA zw;rw[List.filter_map]
 congr 1
 apply XK;intro x _;by_cases e:x.slot=s<;>simp[bne,e]
theorem zby{A:List Wt}(h:(zA A).Nodup){x:Wt}(hx:x∈A):A.Perm (x::zw A x.slot):=by
 induction A with
 | nil=>cases hx
 | cons a A ih =>
  have h':a.slot∉zA A∧(zA A).Nodup:=xe.1 h;rcases yu.1 hx with rfl | hx
  ·have e:zw (x::A) x.slot=A:=by
    unfold zw;rw[List.filter_cons_of_neg (by simp)];exact Zv (fun y hy e=>h'.1 (zI.2 ⟨y,hy,e⟩))
   rw[e]
  ·have hne:a.slot≠x.slot:=fun e=>h'.1 (zI.2 ⟨x,hx,e.symm⟩)
   have e:zw (a::A) x.slot=a::zw A x.slot:=by
    unfold zw;rw[List.filter_cons_of_pos (by simpa using hne)]
   rw[e];exact((ih h'.2 hx).cons a).trans (List.Perm.swap x a _)
theorem zbG{A:List Wt}(h:(zA A).Nodup){x:Wt}(hx:x∈A):zv A=x.cost+zv (zw A x.slot):=by
 rw[ziT (zby h hx),uZ]
theorem zcl{A:List Wt}(h:(zA A).Nodup){x:Wt}(hx:x∈A):A.length=(zw A x.slot).length+1:=by
 rw[(zby h hx).length_eq,qz]
@[go_sem] theorem zmL (w : World) (r : Option Nat) : (binOp .eql 220 (.map r) (.map none)).run prog w=.ok (.bool r.isNone) w := run_eql_map_nil w _ _ _ r underlying220
structure yK(w:World)(D:Nat→Prop)(o l0 l1 bm:Nat)(lim:Int)(D0 D1:Nat→Prop)(Dm:DataW Unit)(A B:List Wt):Prop where
 box:w.heap[o]? = some (.cells #[lkP l0,lkP l1,.int .i64 (zv A:Nat),.int .i64 (zv B:Nat),.map (some bm),.int .i64 lim] 222 (0,0))
 q0:xq w D0 l0 (zA A)
 q1:xq w D1 l1 (zA B)
 costs:xF w bm (A++B) Dm
 ne:o≠bm ∧ ¬ D0 o ∧ ¬ D1 o ∧ ¬ D0 bm ∧ ¬ D1 bm ∧ ∀ k,D0 k → ¬ D1 k
 law:SgL A B
 dd : ∀ k,D k↔(k=o∨k=bm∨D0 k∨D1 k)
def xl(w:World)(D:Nat→Prop)(o:Nat)(lim:Int)(A B:List Wt):Prop := ∃ l0 l1 bm D0 D1 Dm,yK w D o l0 l1 bm lim D0 D1 Dm A B
section
variable{w w':World}{D S:Nat→Prop}{o l0 l1 bm:Nat}{lim:Int}{D0 D1:Nat→Prop}{Dm:DataW Unit}{A B:List Wt}
theorem yK.frame(h:yK w D o l0 l1 bm lim D0 D1 Dm A B)(hm:Mod S w w')(hd : ∀ k,D k → ¬ S k):yK w' D o l0 l1 bm lim D0 D1 Dm A B :=
 ⟨hm.heap (hd o ((h.dd o).2 (.inl rfl))) h.box,h.q0.frame hm (fun k hk=>hd k ((h.dd k).2 (.inr (.inr (.inl hk))))),h.q1.frame hm (fun k hk=>hd k ((h.dd k).2 (.inr (.inr (.inr hk))))),h.costs.mod hm (hd bm ((h.dd bm).2 (.inr (.inl rfl)))),h.ne,h.law,h.dd⟩
theorem yK.pure(h:yK w D o l0 l1 bm lim D0 D1 Dm A B)(hm:zb w w'):yK w' D o l0 l1 bm lim D0 D1 Dm A B:=h.frame hm (fun _ _ h=>h)
theorem yK.lt(h:yK w D o l0 l1 bm lim D0 D1 Dm A B){k:Nat}(hk:D k):k<w.heap.size:=by
 rcases(h.dd k).1 hk with rfl | rfl | e | e
 ·exact zl h.box
 ·exact h.costs.own.lt
 ·exact h.q0.lt e
 ·exact h.q1.lt e
theorem xl.frame(h:xl w D o lim A B)(hm:Mod S w w')(hd : ∀ k,D k → ¬ S k):xl w' D o lim A B:=by
 obtain⟨l0,l1,bm,D0,D1,Dm,h⟩:=h;exact⟨l0,l1,bm,D0,D1,Dm,h.frame hm hd⟩
theorem xl.pure(h:xl w D o lim A B)(hm:zb w w'):xl w' D o lim A B:=h.frame hm (fun _ _ h=>h)
theorem xl.lt(h:xl w D o lim A B){k:Nat}(hk:D k):k<w.heap.size:=by
 obtain⟨l0,l1,bm,D0,D1,Dm,h⟩:=h;exact h.lt hk
theorem xl.self(h:xl w D o lim A B):D o:=by
 obtain⟨l0,l1,bm,D0,D1,Dm,h⟩:=h;exact(h.dd o).2 (.inl rfl)
theorem xl.law(h:xl w D o lim A B):SgL A B:=by
 obtain⟨l0,l1,bm,D0,D1,Dm,h⟩:=h;exact h.law
theorem JF(h:yK w D o l0 l1 bm lim D0 D1 Dm A B){s:Nat}(hs:s<4194304){c:Nat}(hc:c≤1099511627776):Calls prog 158 #[lkP o,.int .u32 s,.int .i64 c] w fun e w'=>e=.returned (.int .i64 0)∧w=w':=by
 have hb:=h.box;have h1 : ¬ ((c:Int)<0):=by omega
 have h2 : ¬ (1099511627776:Int)<(c:Int):=by omega
 have d:decide ((4194304:Int)≤(s:Int))=false:=zQ (by omega);have dn:decide (4194304≤s)=false:=zQ (by omega);clear h;generalize zv A=sa at *;generalize zv B=sb at *;obtain⟨hb_0,hb_1,hb_2,hb_3,hb_4,hb_5,hb_f,hb_l,H_hb⟩:=cr6 hb;clear hb;go_enter func158,ntmps158;go_wp2;go_ret;exact⟨rfl,rfl⟩
theorem UO(h:yK w D o l0 l1 bm lim D0 D1 Dm A B){s:Nat}(hs:s<4194304):Calls prog 158 #[lkP o,.int .u32 s,.int .i64 0] w fun e w'=>e=.returned (.int .i64 0)∧w=w':=JF h hs (c:=0) (by omega)
def gOf(B:List Wt)(s:Nat):Nat:=if s∈zA B then 1 else 0
theorem Azvff {P:Prop}(h:P:=by
 go_wp2_with (go_at_call 235;refine HH.out.mono ?_;rintro e w' ⟨rfl,rfl⟩)
 go_ret;exact⟨rfl,rfl⟩):P:=h
theorem J5(h:yK w D o l0 l1 bm lim D0 D1 Dm A B){s:Nat}(hs:s<4194304):Calls prog 159 #[lkP o,.int .u32 s] w fun e w'=>e=.returned (.int .i64 (gOf B s:Nat))∧w=w':=by
 have hb:=h.box;have HH:=za (zcI h.q1 hs);clear h;generalize zv A=sa at *;generalize zv B=sb at *;unfold gOf;obtain⟨hb_0,hb_1,hb_2,hb_3,hb_4,hb_5,hb_f,hb_l,H_hb⟩:=cr6 hb;clear hb;by_cases c:s∈zA B
 ·rw[zk c];rw[zL c]at HH;go_enter func159,ntmps159;exact Azvff
 ·rw[zh c];rw[zQ c]at HH;go_enter func159,ntmps159;exact Azvff
theorem Xd(h:xl w D o lim A B){x:Wt}(hx:x∈A++B):Calls prog 75 #[lkP o,.int .u32 x.slot] w fun e w'=>e=.returned (.tuple #[.int .i64 (gOf B x.slot:Nat),.int .i64 x.cost,.int .i64 0])∧w=w':=by
  obtain⟨l0,l1,bm,D0,D1,Dm,h⟩:=h;have hs:=(h.law.rng x hx).1;have HC:=za (UO h hs);have HO:=za (J5 h hs);have hlk:=fun W (hW:zb w W)=>((h.pure hW).costs).look hx (by omega)
  have hlw:=hlk w (Mod.refl _ w);have hlw2:=hlk w.drew (Mod.refl _ w).drew;have hb:=h.box;clear h hx hlk;obtain⟨s,c⟩:=x;dsimp only at *;generalize zv A=sa at *;generalize zv B=sb at *;generalize gOf B s=g at *;obtain⟨hb_0,hb_1,hb_2,hb_3,hb_4,hb_5,hb_f,hb_l,H_hb⟩:=cr6 hb;clear hb;go_enter func75,ntmps75
  go_wp2_with (first
    | (go_at_call 158;refine HC.out.mono ?_;rintro e w' ⟨rfl,rfl⟩)
    | (go_at_call 159;refine HO.out.mono ?_;rintro e w' ⟨rfl,rfl⟩))
  refine zK (v := .tuple #[.int .i64 g,.int .i64 c,.int .i64 0]) (by simp[results,results75,go_sem]) rfl ⟨rfl,rfl⟩
theorem JA(h:yK w D o l0 l1 bm lim D0 D1 Dm A B){x:Wt}(hs:x.slot<4194304)(hc:x.cost≤1099511627776)(hn:x.slot∉zA (A++B)) :
  Calls prog 215 #[lkP o,.int .i64 0,.int .u32 x.slot,.int .i64 x.cost] w fun e w'=>e=.returned (.tuple #[])∧(∃ D' D0' Dm',yK w' D' o l0 l1 bm lim D0' D1 Dm' (A++[x]) B∧vU D D' w)∧Mod D w w':=by
 have HA:=za (QG h.q0 hs (fun e=>hn (by rw[XF];exact xQ _ e)));have HH:=za h;have hb:=h.box;have hsum:=h.law.sums;have hlen:=h.law.len;obtain⟨ne1,ne2,ne3,ne4,ne5,ne6⟩:=h.ne;have HN:=za hn;have ob:o<w.heap.size:=zl h.box;have bb:bm<w.heap.size:=h.costs.own.lt;clear h hn;obtain⟨s,c⟩:=x;dsimp only at *;obtain⟨sa,hsa⟩:=zc (zv A);obtain⟨sb,hsb⟩:=zc (zv B);rw[hsa,hsb]at hb hsum;have HSA:=za hsa;have HSB:=za hsb;clear hsa hsb;have ws:IntKind.i64.wrap ((sa:Int)+(c:Int))=(sa:Int)+(c:Int):=zt _ (by omega);obtain⟨hb_0,hb_1,hb_2,hb_3,hb_4,hb_5,hb_f,hb_l,H_hb⟩:=cr6 hb;clear hb;go_enter func215,ntmps215;go_upto_region 1 with(go_at_call 273;refine HA.out.mono ?_;rintro e w1 ⟨rfl,⟨D',hq,hg⟩,hm⟩)
 have hb1:=hm.heap ne2 H_hb.out;have hcm:=HH.out.costs.mod hm ne4;have HM1:=za hm;have HQ1:=za hq;have HG1:=za hg;have HB1:=za hb1;have HC1:=za hcm;have sz1:w.heap.size≤w1.heap.size:=hm.size;clear hb_0 hb_1 hb_2 hb_3 hb_4 hb_5 hb_f hb_l;clear H_hb hm hq hg hcm;obtain⟨hb1_0,hb1_1,hb1_2,hb1_3,hb1_4,hb1_5,hb1_f,hb1_l,H_hb1⟩:=cr6 hb1;clear hb1
 go_still_tail 11,(by kernel_rfl)
 go_upto_region 2 with fail
 obtain⟨Y,hY⟩:=zc ((w1.setCell ⟨o,2,none⟩ (.int .i64 ((sa:Int)+(c:Int)))).drew);have hb2:(w1.setCell ⟨o,2,none⟩ (.int .i64 ((sa:Int)+(c:Int)))).drew.heap[o]? = _:=zP w1 o 2 _ _ (.int .i64 ((sa:Int)+(c:Int))) HB1.out;have hm2:Mod (fun k=>k=o) w1 (w1.setCell ⟨o,2,none⟩ (.int .i64 ((sa:Int)+(c:Int)))).drew:=((Mod.refl (fun k=>k=o) w1).setCell (p:=⟨o,2,none⟩) (fun _=>rfl) _).drew;rw[hY]at hb2 hm2 ⊢;have HC2:=za (HC1.out.mod hm2 (fun e=>ne1 e.symm));have HM2:=za hm2;have HB2:=za hb2;clear hb1_0 hb1_1 hb1_2 hb1_3 hb1_4 hb1_5 hb1_f hb1_l;clear H_hb1 hY hm2;simp only[List.setIfInBounds_toArray,List.set_cons_succ,List.set_cons_zero,Array.setIfInBounds]at hb2;obtain⟨hb2_0,hb2_1,hb2_2,hb2_3,hb2_4,hb2_5,hb2_f,hb2_l,H_hb2⟩:=cr6 hb2;clear hb2;have hMl:(A++B).length<maxLen:=by unfold maxLen;omega
 go_wp2_with (at_mapUpdate;refine Xc _ rfl _ _ _ 220 rfl 114 3 vk underlying220 jg bm (A++B).length Dm rfl HC2.out.own hMl (.int .u32 s) (.int .i64 c) (kS s) rfl rfl (uv (by omega)) (cD c) [] (XO c) ?_;intro w4 ho4 hg4;go_frame)
 have hm4:Mod (fun k=>k=bm) Y w4:=Mod.of_grown hg4 (fun k e _=>by cases e;rfl);have hnn : ∀ y∈A++B,y.slot≠s:=fun y hy e=>HN.out (zI.2 ⟨y,hy,e⟩)
 have hT4:=HC2.out.put (x:=⟨s,c⟩) hnn ho4;have hbx4:=hm4.heap (fun e=>ne1 e) HB2.out;have hall:Mod (fun k=>k=o∨k=bm) w1 w4:=Mod.trans' HM2.out hm4 (fun i _ h => .inl h) (fun i _ h => .inr h);have gD : ∀ k,D' k→D0 k∨w.heap.size≤k:=HG1.out;have hDlt : ∀ k,D1 k→k<w.heap.size:=fun k hk=>HH.out.q1.lt hk
 have nD'o : ¬ D' o:=fun hk=>by rcases gD o hk with e | e;exact ne2 e;omega
 have nD'b : ¬ D' bm:=fun hk=>by rcases gD bm hk with e | e;exact ne4 e;omega
 go_end0
 refine⟨rfl,⟨fun k=>k=o∨k=bm∨D' k∨D1 k,D',_,⟨?_,?_,?_,hT4.perm ?_,?_,?_,fun _=>vE⟩,fun k hk => ?_⟩,?_⟩
 ·rw[hbx4];have e1:=HSA.out;have e2:=HSB.out;simp[vF,vF,uZ,j8,e1,e2]
 ·have e3:zA (A++[⟨s,c⟩])=zA A++[s]:=by simp[zA]
  rw[e3];exact HQ1.out.frame hall (fun k hk h=>by rcases h with e | e;exact nD'o (e ▸ hk);exact nD'b (e ▸ hk))
 ·exact(HH.out.q1.frame HM1.out (fun k hk h=>ne6 k h hk)).frame hall (fun k hk h=>by rcases h with e | e;exact ne3 (e ▸ hk);exact ne5 (e ▸ hk))
 ·simpa using(List.perm_middle (a:=(⟨s,c⟩:Wt)) (l₁:=A) (l₂:=B)).symm
 ·exact⟨ne1,nD'o,ne3,nD'b,ne5,fun k hk h1=>by rcases gD k hk with e | e;exact ne6 k e h1;have:=hDlt k h1;omega⟩
 ·refine⟨?_,fun y hy => ?_⟩
  ·have hnd:=HH.out.law.nd;have hp:(zA ((A++[(⟨s,c⟩:Wt)])++B)).Perm (s::zA (A++B)):=by
    unfold zA;exact(List.Perm.map Wt.slot (show(((A++[(⟨s,c⟩:Wt)])++B)).Perm ((⟨s,c⟩:Wt)::(A++B))from by simpa using(List.perm_middle (a:=(⟨s,c⟩:Wt)) (l₁:=A) (l₂:=B))))
   exact hp.nodup_iff.2 (xe.2 ⟨HN.out,hnd⟩)
  ·have hy':y=⟨s,c⟩∨y∈A++B:=by simp at hy ⊢;rcases hy with h | h | h;exact .inr (.inl h);exact .inl h;exact .inr (.inr h)
   rcases hy' with rfl | hy'
   ·exact⟨hs,hc⟩
   ·exact HH.out.law.rng y hy'
 ·rcases hk with e | e | e
  ·exact .inl ((HH.out.dd k).2 (.inl e))
  ·exact .inl ((HH.out.dd k).2 (.inr (.inl e)))
  ·rcases e with e | e
   ·rcases gD k e with e | e
    ·exact .inl ((HH.out.dd k).2 (.inr (.inr (.inl e))))
    ·exact .inr e
   ·exact .inl ((HH.out.dd k).2 (.inr (.inr (.inr e))))
 ·refine Mod.trans' HM1.out hall (fun i _ hi=>(HH.out.dd i).2 (.inr (.inr (.inl hi)))) (fun i _ hi=>(HH.out.dd i).2 (by rcases hi with e | e;exact .inl e;exact .inr (.inl e)))
theorem zgb(h:yK w D o l0 l1 bm lim D0 D1 Dm A B){x:Wt}(hs:x.slot<4194304)(hc:x.cost≤1099511627776)(hn:x.slot∉zA (A++B)) :
  Calls prog 215 #[lkP o,.int .i64 1,.int .u32 x.slot,.int .i64 x.cost] w fun e w'=>e=.returned (.tuple #[])∧(∃ D' D1' Dm',yK w' D' o l0 l1 bm lim D0 D1' Dm' A (B++[x])∧vU D D' w)∧Mod D w w':=by
 have HA:=za (QG h.q1 hs (fun e=>hn (by rw[XF];exact xC _ e)));have HH:=za h;have hb:=h.box;have hsum:=h.law.sums;have hlen:=h.law.len;obtain⟨ne1,ne2,ne3,ne4,ne5,ne6⟩:=h.ne;have HN:=za hn;have ob:o<w.heap.size:=zl h.box;have bb:bm<w.heap.size:=h.costs.own.lt;clear h hn;obtain⟨s,c⟩:=x;dsimp only at *;obtain⟨sa,hsa⟩:=zc (zv A);obtain⟨sb,hsb⟩:=zc (zv B);rw[hsa,hsb]at hb hsum;have HSA:=za hsa;have HSB:=za hsb;clear hsa hsb;have ws:IntKind.i64.wrap ((sb:Int)+(c:Int))=(sb:Int)+(c:Int):=zt _ (by omega);obtain⟨hb_0,hb_1,hb_2,hb_3,hb_4,hb_5,hb_f,hb_l,H_hb⟩:=cr6 hb;clear hb;go_enter func215,ntmps215;go_upto_region 1 with(go_at_call 273;refine HA.out.mono ?_;rintro e w1 ⟨rfl,⟨D',hq,hg⟩,hm⟩)
 have hb1:=hm.heap ne3 H_hb.out;have hcm:=HH.out.costs.mod hm ne5;have HM1:=za hm;have HQ1:=za hq;have HG1:=za hg;have HB1:=za hb1;have HC1:=za hcm;have sz1:w.heap.size≤w1.heap.size:=hm.size;clear hb_0 hb_1 hb_2 hb_3 hb_4 hb_5 hb_f hb_l;clear H_hb hm hq hg hcm;obtain⟨hb1_0,hb1_1,hb1_2,hb1_3,hb1_4,hb1_5,hb1_f,hb1_l,H_hb1⟩:=cr6 hb1;clear hb1
 go_still_tail 11,(by kernel_rfl)
 go_upto_region 2 with fail
 obtain⟨Y,hY⟩:=zc ((w1.setCell ⟨o,3,none⟩ (.int .i64 ((sb:Int)+(c:Int)))).drew);have hb2:(w1.setCell ⟨o,3,none⟩ (.int .i64 ((sb:Int)+(c:Int)))).drew.heap[o]? = _:=zP w1 o 3 _ _ (.int .i64 ((sb:Int)+(c:Int))) HB1.out;have hm2:Mod (fun k=>k=o) w1 (w1.setCell ⟨o,3,none⟩ (.int .i64 ((sb:Int)+(c:Int)))).drew:=((Mod.refl (fun k=>k=o) w1).setCell (p:=⟨o,3,none⟩) (fun _=>rfl) _).drew;rw[hY]at hb2 hm2 ⊢;have HC2:=za (HC1.out.mod hm2 (fun e=>ne1 e.symm));have HM2:=za hm2;have HB2:=za hb2;clear hb1_0 hb1_1 hb1_2 hb1_3 hb1_4 hb1_5 hb1_f hb1_l;clear H_hb1 hY hm2;simp only[List.setIfInBounds_toArray,List.set_cons_succ,List.set_cons_zero,Array.setIfInBounds]at hb2;obtain⟨hb2_0,hb2_1,hb2_2,hb2_3,hb2_4,hb2_5,hb2_f,hb2_l,H_hb2⟩:=cr6 hb2;clear hb2;have hMl:(A++B).length<maxLen:=by unfold maxLen;omega
 go_wp2_with (at_mapUpdate;refine Xc _ rfl _ _ _ 220 rfl 114 3 vk underlying220 jg bm (A++B).length Dm rfl HC2.out.own hMl (.int .u32 s) (.int .i64 c) (kS s) rfl rfl (uv (by omega)) (cD c) [] (XO c) ?_;intro w4 ho4 hg4;go_frame)
 have hm4:Mod (fun k=>k=bm) Y w4:=Mod.of_grown hg4 (fun k e _=>by cases e;rfl);have hnn : ∀ y∈A++B,y.slot≠s:=fun y hy e=>HN.out (zI.2 ⟨y,hy,e⟩)
 have hT4:=HC2.out.put (x:=⟨s,c⟩) hnn ho4;have hbx4:=hm4.heap (fun e=>ne1 e) HB2.out;have hall:Mod (fun k=>k=o∨k=bm) w1 w4:=Mod.trans' HM2.out hm4 (fun i _ h => .inl h) (fun i _ h => .inr h);have gD : ∀ k,D' k→D1 k∨w.heap.size≤k:=HG1.out;have hDlt : ∀ k,D0 k→k<w.heap.size:=fun k hk=>HH.out.q0.lt hk
 have nD'o : ¬ D' o:=fun hk=>by rcases gD o hk with e | e;exact ne3 e;omega
 have nD'b : ¬ D' bm:=fun hk=>by rcases gD bm hk with e | e;exact ne5 e;omega
 go_end0
 refine⟨rfl,⟨fun k=>k=o∨k=bm∨D0 k∨D' k,D',_,⟨?_,?_,?_,hT4.perm ?_,?_,?_,fun _=>vE⟩,fun k hk => ?_⟩,?_⟩
 ·rw[hbx4];have e1:=HSA.out;have e2:=HSB.out;simp[vF,vF,uZ,j8,e1,e2]
 ·exact(HH.out.q0.frame HM1.out (fun k hk h=>ne6 k hk h)).frame hall (fun k hk h=>by rcases h with e | e;exact ne2 (e ▸ hk);exact ne4 (e ▸ hk))
 ·have e3:zA (B++[⟨s,c⟩])=zA B++[s]:=by simp[zA]
  rw[e3];exact HQ1.out.frame hall (fun k hk h=>by rcases h with e | e;exact nD'o (e ▸ hk);exact nD'b (e ▸ hk))
 ·rw[← vH];exact(Qc _ _).symm
 ·exact⟨ne1,ne2,nD'o,ne4,nD'b,fun k hk h1=>by rcases gD k h1 with e | e;exact ne6 k hk e;have:=hDlt k hk;omega⟩
 ·refine⟨?_,fun y hy => ?_⟩
  ·have hnd:=HH.out.law.nd;have hp:(zA (A++(B++[(⟨s,c⟩:Wt)]))).Perm (s::zA (A++B)):=by
    unfold zA;exact(List.Perm.map Wt.slot (show((A++(B++[(⟨s,c⟩:Wt)]))).Perm ((⟨s,c⟩:Wt)::(A++B))from by rw[← vH];exact Qc _ _))
   exact hp.nodup_iff.2 (xe.2 ⟨HN.out,hnd⟩)
  ·have hy':y=⟨s,c⟩∨y∈A++B:=by simp at hy ⊢;rcases hy with h | h | h;exact .inr (.inl h);exact .inr (.inr h);exact .inl h
   rcases hy' with rfl | hy'
   ·exact⟨hs,hc⟩
   ·exact HH.out.law.rng y hy'
 ·rcases hk with e | e | e
  ·exact .inl ((HH.out.dd k).2 (.inl e))
  ·exact .inl ((HH.out.dd k).2 (.inr (.inl e)))
  ·rcases e with e | e
   ·exact .inl ((HH.out.dd k).2 (.inr (.inr (.inl e))))
   ·rcases gD k e with e | e
    ·exact .inl ((HH.out.dd k).2 (.inr (.inr (.inr e))))
    ·exact .inr e
 ·refine Mod.trans' HM1.out hall (fun i _ hi=>(HH.out.dd i).2 (.inr (.inr (.inr hi)))) (fun i _ hi=>(HH.out.dd i).2 (by rcases hi with e | e;exact .inl e;exact .inr (.inl e)))
end
section
variable{w w':World}{D S:Nat→Prop}{o l0 l1 bm:Nat}{lim:Int}{D0 D1:Nat→Prop}{Dm:DataW Unit}{A B:List Wt}
theorem SgL.left(h:SgL A B):(zA A).Nodup:=by have:=h.nd;rw[XF]at this;exact(xD.1 this).1
theorem SgL.right(h:SgL A B):(zA B).Nodup:=by have:=h.nd;rw[XF]at this;exact(xD.1 this).2.1
theorem SgL.apart(h:SgL A B){x y:Wt}(hx:x∈A)(hy:y∈B):x.slot≠y.slot:=by
 have:=h.nd;rw[XF]at this;exact(xD.1 this).2.2 _ (zI.2 ⟨x,hx,rfl⟩) _ (zI.2 ⟨y,hy,rfl⟩)
theorem SgL.out(h:SgL A B)(s:Nat):SgL (zw A s) (zw B s):=by
 refine⟨?_,fun x hx=>h.rng x ?_⟩
 ·rw[← j7];exact(h.nd).sublist (qg.map Wt.slot)
 ·rw[← j7]at hx;exact(jG.1 hx).1
theorem zgp(h:SgL A B){x:Wt}(hx:x∈A):gOf B x.slot=0:=by
 unfold gOf;rw[zh];intro e;obtain⟨y,hy,e2⟩:=zI.1 e;exact h.apart hx hy e2.symm
theorem zeD{x:Wt}(hx:x∈B):gOf B x.slot=1:=by
 unfold gOf;rw[zk (show x.slot∈zA B from zI.2 ⟨x,hx,rfl⟩)]
theorem zen(h:yK w D o l0 l1 bm lim D0 D1 Dm A B){x:Wt}(hx:x∈A) :
    Calls prog 236 #[lkP o,.int .u32 x.slot] w fun e w'=>e=.returned (.bool true)∧(∃ Dm',yK w' D o l0 l1 bm lim D0 D1 Dm' (zw A x.slot) (zw B x.slot))∧Mod D w w':=by
  have hxm:x∈A++B:=xQ _ hx;have hs:=(h.law.rng x hxm).1;have hcc:=(h.law.rng x hxm).2;have HO:=za (J5 h hs);rw[zgp h.law hx]at HO;have HR:=za (Qp h.q0 (s:=x.slot) (zI.2 ⟨x,hx,rfl⟩));have hlw:=h.costs.look hxm (by omega);have HH:=za h;have hb:=h.box;have hsum:=h.law.sums;obtain⟨ne1,ne2,ne3,ne4,ne5,ne6⟩:=h.ne;have hou:zw B x.slot=B:=Zv (fun y hy e=>h.law.apart hx hy e.symm);have hcs:=zbG h.law.left hx;have hll:=zcl h.law.nd hxm;have her:=zaO h.law.left x.slot;have HX:=za hxm;have ob:o<w.heap.size:=zl h.box;have bb:bm<w.heap.size:=h.costs.own.lt;clear h hx hxm;rw[← her]at HR;obtain⟨s,c⟩:=x;dsimp only at *;obtain⟨sa,hsa⟩:=zc (zv A);obtain⟨sb,hsb⟩:=zc (zv B);rw[hsa,hsb]at hb hsum;rw[hsa]at hcs;have HSA:=za hsa;have HSB:=za hsb;have HCS:=za hcs;have HLL:=za hll;have ws:IntKind.i64.wrap ((sa:Int)-(c:Int))=(sa:Int)-(c:Int):=zt _ (by omega);have HOU:=za hou;clear hsa hsb hcs hll her hou;obtain⟨hb_0,hb_1,hb_2,hb_3,hb_4,hb_5,hb_f,hb_l,H_hb⟩:=cr6 hb;clear hb;go_enter func236,ntmps236;go_upto_region 6 with(first
    | (go_at_call 159;refine HO.out.mono ?_;rintro e w' ⟨rfl,rfl⟩)
    | (go_at_call 283;refine HR.out.mono ?_;rintro e w1 ⟨rfl,hq,hm⟩))
  have hb1:=hm.heap ne2 H_hb.out;have hcm:=HH.out.costs.mod hm ne4;have HM1:=za hm;have HQ1:=za hq;have HB1:=za hb1;have HC1:=za hcm;have sz1:w.heap.size≤w1.heap.size:=hm.size;clear hb_0 hb_1 hb_2 hb_3 hb_4 hb_5 hb_f hb_l;clear H_hb hm hq hcm;obtain⟨hb1_0,hb1_1,hb1_2,hb1_3,hb1_4,hb1_5,hb1_f,hb1_l,H_hb1⟩:=cr6 hb1;clear hb1
  go_still_tail 11,(by kernel_rfl)
  go_upto_region 7 with fail
  obtain⟨Y,hY⟩:=zc ((w1.setCell ⟨o,2,none⟩ (.int .i64 ((sa:Int)-(c:Int)))).drew);have hb2:(w1.setCell ⟨o,2,none⟩ (.int .i64 ((sa:Int)-(c:Int)))).drew.heap[o]? = _:=zP w1 o 2 _ _ (.int .i64 ((sa:Int)-(c:Int))) HB1.out;have hm2:Mod (fun k=>k=o) w1 (w1.setCell ⟨o,2,none⟩ (.int .i64 ((sa:Int)-(c:Int)))).drew:=((Mod.refl (fun k=>k=o) w1).setCell (p:=⟨o,2,none⟩) (fun _=>rfl) _).drew;rw[hY]at hb2 hm2 ⊢;have HC2:=za (HC1.out.mod hm2 (fun e=>ne1 e.symm));have HM2:=za hm2;have HB2:=za hb2;clear hb1_0 hb1_1 hb1_2 hb1_3 hb1_4 hb1_5 hb1_f hb1_l;clear H_hb1 hY hm2;simp only[List.setIfInBounds_toArray,List.set_cons_succ,List.set_cons_zero,Array.setIfInBounds]at hb2;obtain⟨hb2_0,hb2_1,hb2_2,hb2_3,hb2_4,hb2_5,hb2_f,hb2_l,H_hb2⟩:=cr6 hb2;clear hb2
  go_wp2_with (at_delete;refine Yp _ rfl _ _ 220 114 rfl 3 vk underlying220 jg bm (A++B).length Dm rfl HC2.out.own (.int .u32 s) (kS s) rfl (uv (by omega)) ?_;intro w4 ho4 ht4;go_frame)
  have hm4:Mod (fun k=>k=bm) Y w4:=Mod.of_grown ht4.grown (fun k e _=>by cases e;rfl);have hT4:=HC2.out.del (x:=⟨s,c⟩) HX.out (M':=zw (A++B) s) (fun y=>jG) HLL.out.symm ho4;rw[j7]at hT4;have hbx4:=hm4.heap (fun e=>ne1 e) HB2.out;have hall:Mod (fun k=>k=o∨k=bm) w1 w4:=Mod.trans' HM2.out hm4 (fun i _ h => .inl h) (fun i _ h => .inr h);go_ret;refine⟨rfl,⟨_,?_,?_,?_,hT4,⟨ne1,ne2,ne3,ne4,ne5,ne6⟩,HH.out.law.out s,HH.out.dd⟩,?_⟩
  · rw[hbx4,HOU.out]
    have e1:=HSA.out;have e2:=HSB.out;have e3:=HCS.out;have e4:((zv (zw A s):Nat):Int)=(sa:Int)-(c:Int):=by omega
    rw[e4,e2]
    rfl
  · exact HQ1.out.frame hall (fun k hk h=>by rcases h with e | e;exact ne2 (e ▸ hk);exact ne4 (e ▸ hk))
  · rw[HOU.out];exact(HH.out.q1.frame HM1.out (fun k hk h=>ne6 k h hk)).frame hall (fun k hk h=>by rcases h with e | e;exact ne3 (e ▸ hk);exact ne5 (e ▸ hk))
  · refine Mod.trans' HM1.out hall (fun i _ hi=>(HH.out.dd i).2 (.inr (.inr (.inl hi)))) (fun i _ hi=>(HH.out.dd i).2 (by rcases hi with e | e;exact .inl e;exact .inr (.inl e)))
theorem zac(h:yK w D o l0 l1 bm lim D0 D1 Dm A B){x:Wt}(hx:x∈B) :
    Calls prog 236 #[lkP o,.int .u32 x.slot] w fun e w'=>e=.returned (.bool true)∧(∃ Dm',yK w' D o l0 l1 bm lim D0 D1 Dm' (zw A x.slot) (zw B x.slot))∧Mod D w w':=by
  have hxm:x∈A++B:=xC _ hx;have hs:=(h.law.rng x hxm).1;have hcc:=(h.law.rng x hxm).2;have HO:=za (J5 h hs);rw[zeD hx]at HO;have HR:=za (Qp h.q1 (s:=x.slot) (zI.2 ⟨x,hx,rfl⟩));have hlw:=h.costs.look hxm (by omega);have HH:=za h;have hb:=h.box;have hsum:=h.law.sums;obtain⟨ne1,ne2,ne3,ne4,ne5,ne6⟩:=h.ne;have hou:zw A x.slot=A:=Zv (fun y hy e=>h.law.apart hy hx e);have hcs:=zbG h.law.right hx;have hll:=zcl h.law.nd hxm;have her:=zaO h.law.right x.slot;have HX:=za hxm;have ob:o<w.heap.size:=zl h.box;have bb:bm<w.heap.size:=h.costs.own.lt;clear h hx hxm;rw[← her]at HR;obtain⟨s,c⟩:=x;dsimp only at *;obtain⟨sa,hsa⟩:=zc (zv A);obtain⟨sb,hsb⟩:=zc (zv B);rw[hsa,hsb]at hb hsum;rw[hsb]at hcs;have HSA:=za hsa;have HSB:=za hsb;have HCS:=za hcs;have HLL:=za hll;have ws:IntKind.i64.wrap ((sb:Int)-(c:Int))=(sb:Int)-(c:Int):=zt _ (by omega);have HOU:=za hou;clear hsa hsb hcs hll her hou;obtain⟨hb_0,hb_1,hb_2,hb_3,hb_4,hb_5,hb_f,hb_l,H_hb⟩:=cr6 hb;clear hb;go_enter func236,ntmps236;go_upto_region 6 with(first
    | (go_at_call 159;refine HO.out.mono ?_;rintro e w' ⟨rfl,rfl⟩)
    | (go_at_call 283;refine HR.out.mono ?_;rintro e w1 ⟨rfl,hq,hm⟩))
  have hb1:=hm.heap ne3 H_hb.out;have hcm:=HH.out.costs.mod hm ne5;have HM1:=za hm;have HQ1:=za hq;have HB1:=za hb1;have HC1:=za hcm;have sz1:w.heap.size≤w1.heap.size:=hm.size;clear hb_0 hb_1 hb_2 hb_3 hb_4 hb_5 hb_f hb_l;clear H_hb hm hq hcm;obtain⟨hb1_0,hb1_1,hb1_2,hb1_3,hb1_4,hb1_5,hb1_f,hb1_l,H_hb1⟩:=cr6 hb1;clear hb1
  go_still_tail 11,(by kernel_rfl)
  go_upto_region 7 with fail
  obtain⟨Y,hY⟩:=zc ((w1.setCell ⟨o,3,none⟩ (.int .i64 ((sb:Int)-(c:Int)))).drew);have hb2:(w1.setCell ⟨o,3,none⟩ (.int .i64 ((sb:Int)-(c:Int)))).drew.heap[o]? = _:=zP w1 o 3 _ _ (.int .i64 ((sb:Int)-(c:Int))) HB1.out;have hm2:Mod (fun k=>k=o) w1 (w1.setCell ⟨o,3,none⟩ (.int .i64 ((sb:Int)-(c:Int)))).drew:=((Mod.refl (fun k=>k=o) w1).setCell (p:=⟨o,3,none⟩) (fun _=>rfl) _).drew;rw[hY]at hb2 hm2 ⊢;have HC2:=za (HC1.out.mod hm2 (fun e=>ne1 e.symm));have HM2:=za hm2;have HB2:=za hb2;clear hb1_0 hb1_1 hb1_2 hb1_3 hb1_4 hb1_5 hb1_f hb1_l;clear H_hb1 hY hm2;simp only[List.setIfInBounds_toArray,List.set_cons_succ,List.set_cons_zero,Array.setIfInBounds]at hb2;obtain⟨hb2_0,hb2_1,hb2_2,hb2_3,hb2_4,hb2_5,hb2_f,hb2_l,H_hb2⟩:=cr6 hb2;clear hb2
  go_wp2_with (at_delete;refine Yp _ rfl _ _ 220 114 rfl 3 vk underlying220 jg bm (A++B).length Dm rfl HC2.out.own (.int .u32 s) (kS s) rfl (uv (by omega)) ?_;intro w4 ho4 ht4;go_frame)
  have hm4:Mod (fun k=>k=bm) Y w4:=Mod.of_grown ht4.grown (fun k e _=>by cases e;rfl);have hT4:=HC2.out.del (x:=⟨s,c⟩) HX.out (M':=zw (A++B) s) (fun y=>jG) HLL.out.symm ho4;rw[j7]at hT4;have hbx4:=hm4.heap (fun e=>ne1 e) HB2.out;have hall:Mod (fun k=>k=o∨k=bm) w1 w4:=Mod.trans' HM2.out hm4 (fun i _ h => .inl h) (fun i _ h => .inr h);go_ret;refine⟨rfl,⟨_,?_,?_,?_,hT4,⟨ne1,ne2,ne3,ne4,ne5,ne6⟩,HH.out.law.out s,HH.out.dd⟩,?_⟩
  · rw[hbx4,HOU.out]
    have e1:=HSA.out;have e2:=HSB.out;have e3:=HCS.out;have e4:((zv (zw B s):Nat):Int)=(sb:Int)-(c:Int):=by omega
    rw[e4,e1]
    rfl
  · rw[HOU.out];exact(HH.out.q0.frame HM1.out (fun k hk h=>ne6 k hk h)).frame hall (fun k hk h=>by rcases h with e | e;exact ne2 (e ▸ hk);exact ne4 (e ▸ hk))
  · exact HQ1.out.frame hall (fun k hk h=>by rcases h with e | e;exact ne3 (e ▸ hk);exact ne5 (e ▸ hk))
  · refine Mod.trans' HM1.out hall (fun i _ hi=>(HH.out.dd i).2 (.inr (.inr (.inr hi)))) (fun i _ hi=>(HH.out.dd i).2 (by rcases hi with e | e;exact .inl e;exact .inr (.inl e)))
theorem zbY(h:yK w D o l0 l1 bm lim D0 D1 Dm A B){x:Wt}(hx:x∈A++B) :
  Calls prog 236 #[lkP o,.int .u32 x.slot] w fun e w'=>e=.returned (.bool true)∧(∃ Dm',yK w' D o l0 l1 bm lim D0 D1 Dm' (zw A x.slot) (zw B x.slot))∧Mod D w w':=by
 rcases yF.1 hx with h1 | h1
 ·exact zen h h1
 ·exact zac h h1
theorem zli(h:xl w D o lim A B){x:Wt}(hx:x∈A++B) :
    Calls prog 166 #[lkP o,.int .u32 x.slot] w fun e w'=>e=.returned (.int .i64 0)∧xl w' D o lim (zw A x.slot) (zw B x.slot)∧Mod D w w':=by
  obtain⟨l0,l1,bm,D0,D1,Dm,h⟩:=h;have HC:=za (UO h (h.law.rng x hx).1);have HT:=za (zbY h hx);clear h hx;go_enter func166,ntmps166
  go_wp2_with (first
    | (go_at_call 158;refine HC.out.mono ?_;rintro e w' ⟨rfl,rfl⟩)
    | (go_at_call 236;refine HT.out.mono ?_;rintro e w1 ⟨rfl,⟨Dm',h1⟩,hm⟩))
  go_ret;exact⟨rfl,⟨l0,l1,bm,D0,D1,Dm',h1⟩,hm⟩
theorem zj2(h:xl w D o lim A B){x:Wt}(hs:x.slot<4194304)(hc:x.cost≤1099511627776)(hn:x.slot∉zA (A++B)) :
    Calls prog 125 #[lkP o,.int .u32 x.slot,.int .i64 x.cost] w fun e w'=>e=.returned (.int .i64 0)∧(∃ D',xl w' D' o lim (A++[x]) B∧vU D D' w)∧Mod D w w':=by
  obtain⟨l0,l1,bm,D0,D1,Dm,h⟩:=h;have HC:=za (JF h hs hc);have HP:=za (JA h hs hc hn);have hlw:=h.costs.look_no (s:=x.slot) (by omega) (fun y hy e=>hn (zI.2 ⟨y,hy,e⟩));have hb:=h.box;clear h hn;generalize zv A=sa at *;generalize zv B=sb at *;obtain⟨hb_0,hb_1,hb_2,hb_3,hb_4,hb_5,hb_f,hb_l,H_hb⟩:=cr6 hb;clear hb;go_enter func125,ntmps125
  go_wp2_with (first
    | (go_at_call 158;refine HC.out.mono ?_;rintro e w' ⟨rfl,rfl⟩)
    | (go_at_call 215;refine HP.out.mono ?_;rintro e w1 ⟨rfl,⟨D',D0',Dm',h1,h2⟩,hm⟩))
  go_ret;exact⟨rfl,⟨D',⟨l0,l1,bm,D0',D1,Dm',h1⟩,h2⟩,hm⟩
end
end
end Go.Proofs.YtpplkcnknabofaaGreatDoor
