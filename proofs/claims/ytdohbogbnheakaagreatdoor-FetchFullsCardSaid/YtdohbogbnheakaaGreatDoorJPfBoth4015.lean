/- Lemmas and contracts of functions. No condition. -/
import Derived.Test.YtdohbogbnheakaaGreatDoorJPfBoth4014
namespace Go.Proofs.YtdohbogbnheakaaGreatDoor
open _root_.Go.Proofs.Tryz
set_option maxRecDepth 100000
set_option maxHeartbeats 20000000
set_option linter.all false
section
open Go.RowKit




section
variable{w w':World}{D:Nat→Prop}{p now:Nat}{ws:List Nat}{bm bb:Nat}{Ds:Nat→Nat→Prop}{Dm Db:DataW Unit}{M M' L:List Td}{Lss:List (List (List Nat))}
theorem yM.perm{b:Nat}{A:DataW Unit}(h:yM w b M A)(hp:M.Perm M'):yM w b M' A :=
 ⟨by rw[← hp.length_eq];exact h.own,fun x hx=>h.at_ x (hp.mem_iff.2 hx),fun s hs=>by obtain⟨x,hx,e⟩:=h.has s hs;exact⟨x,hp.mem_iff.1 hx,e⟩,by rw[← hp.length_eq];exact h.size⟩
theorem xI.perm{b:Nat}{A:DataW Unit}(h:xI w b M A)(hp:M.Perm M'):xI w b M' A :=
 ⟨by rw[← hp.length_eq];exact h.own,fun s=>by rw[h.has];exact⟨fun⟨x,hx,e⟩=>⟨x,hp.mem_iff.1 hx,e⟩,fun⟨x,hx,e⟩=>⟨x,hp.mem_iff.2 hx,e⟩⟩,by rw[← hp.length_eq];exact h.size⟩
theorem yu.perm(h:yu w D p now ws bm bb Ds Dm Db M Lss)(hp:M.Perm M'):yu w D p now ws bm bb Ds Dm Db M' Lss :=
 ⟨h.box,h.what.perm hp,h.births.perm hp,h.len,h.lev,h.apart,h.own,h.ne,h.dd⟩
def yt(w:World)(D:Nat→Prop)(p now:Nat)(L:List Td):Prop :=
 ∃ ws bm bb Ds Dm Db Lss,yu w D p now ws bm bb Ds Dm Db L Lss∧ye now L (fun _=>False) Lss∧L.Pairwise bef
theorem yt.frame{S:Nat→Prop}(h:yt w D p now L)(hm:Mod S w w')(hd : ∀ k,D k → ¬ S k):yt w' D p now L:=by
 obtain⟨ws,bm,bb,Ds,Dm,Db,Lss,h1,h2⟩:=h;exact⟨ws,bm,bb,Ds,Dm,Db,Lss,h1.frame hm hd,h2⟩
theorem yt.pure(h:yt w D p now L)(hm:zc w w'):yt w' D p now L:=h.frame hm (fun _ _ h=>h)
theorem yt.lt(h:yt w D p now L){k:Nat}(hk:D k):k<w.heap.size:=by
 obtain⟨ws,bm,bb,Ds,Dm,Db,Lss,h1,h2⟩:=h;exact h1.lt hk
theorem yt.self(h:yt w D p now L):D p:=by
 obtain⟨ws,bm,bb,Ds,Dm,Db,Lss,h1,h2⟩:=h;exact(h1.dd p).2 (.inl rfl)
theorem yt.now64(h:yt w D p now L):now<18446744073709551616:=by
 obtain⟨ws,bm,bb,Ds,Dm,Db,Lss,h1,h2⟩:=h;exact h1.box.now
theorem yt.rng(h:yt w D p now L) : ∀ x∈L,x.slot<4194304∧now<x.dl∧x.dl<18446744073709551615∧0<x.birth∧x.birth≤18446744073709551615:=by
 obtain⟨ws,bm,bb,Ds,Dm,Db,Lss,h1,h2,h3⟩:=h;intro x hx;obtain⟨a,b,c⟩:=h2.rng x hx;exact⟨a,h2.after x hx (fun c=>c),b,c⟩
theorem yt.uniq(h:yt w D p now L):(∀ x∈L,∀ y∈L,x.slot=y.slot→x=y)∧(∀ x∈L,∀ y∈L,x.birth=y.birth→x=y)∧L.Pairwise bef:=by
 obtain⟨ws,bm,bb,Ds,Dm,Db,Lss,h1,h2,h3⟩:=h;exact⟨h2.slots,h2.births,h3⟩
def jK(now:Nat)(L:List Td)(x:Td):Int:=if kU now x=0 then(if xL L x.slot||YD L x.birth then 11 else 0)else kU now x
def Yk(now:Nat)(L:List Td)(x:Td):List Td:=if jK now L x=0 then xQ L x else L
theorem zkg{s dl:Nat}(h:atE now s dl=0)(hd:dl≤18446744073709551615):s<4194304∧now<dl∧dl<18446744073709551615:=by
 unfold atE at h;split at h
 ·split at h
  ·cases h
  ·split at h
   ·cases h
   ·refine⟨by assumption,by omega,by omega⟩
 ·cases h
theorem zkP{x:Td}(h:kU now x=0)(hd:x.dl≤18446744073709551615):x.slot<4194304∧x.birth≠0∧now<x.dl∧x.dl<18446744073709551615:=by
 unfold kU at h;split at h
 ·split at h
  ·cases h
  ·obtain⟨_,a,b⟩:=zkg h hd;exact⟨by assumption,by assumption,a,b⟩
 ·cases h
theorem Azsmn {P:Prop}(h:P:=by
 rintro e w' ⟨rfl,hp⟩;exact⟨rfl,⟨D,h'.pure hp,yo.refl _ _⟩,Mod.of_pure hp⟩):P:=h
theorem yt.sched(h:yt w D p now L){x:Td}(h32:x.slot≤4294967295)(hd:x.dl≤18446744073709551615)(hb:x.birth≤18446744073709551615)(hl:L.length<maxLen) :
  Calls prog 253 #[lkP p,tdV x] w fun e w'=>e=.returned (.int .i64 (jK now L x))∧(∃ D',yt w' D' p now (Yk now L x)∧yo D D' w)∧Mod D w w':=by
 have h':=h;obtain⟨ws,bm,bb,Ds,Dm,Db,Lss,h1,h2,h3⟩:=h;unfold Yk;by_cases e0:kU now x=0
 ·obtain⟨a1,a2,a3,a4⟩:=zkP e0 hd;by_cases c:(xL L x.slot||YD L x.birth)=true
  ·have er:jK now L x=11:=by unfold jK;rw[zk e0,zk c]
   rw[er,zh (by decide)];rw[Bool.or_eq_true,uL,UJ]at c;refine(ziU h1 a1 a4 hb a2 a3 c).mono ?_;exact Azsmn
  ·have er:jK now L x=0:=by unfold jK;rw[zk e0,zh c]
   rw[er,zk rfl];rw[Bool.or_eq_true,uL,UJ,not_or]at c;have c1 : ∀ y∈L,y.slot≠x.slot:=fun y hy e=>c.1 ⟨y,hy,e⟩
   have c2 : ∀ y∈L,y.birth≠x.birth:=fun y hy e=>c.2 ⟨y,hy,e⟩
   obtain⟨Ls,B,hL,hK⟩:=h2.get (kh h1.box.now (dl:=x.dl) (by omega)).1 (Y6 (now:=now) (dl:=x.dl));refine(zeL h1 a1 a4 hb a2 a3 hl hL hK (h2.notL (fun y hy e=>absurd e (c1 y hy)) hL) c1 c2).mono ?_;rintro e w' ⟨rfl,⟨D',Ds',Dm',Db',hC,hg⟩,hm⟩;exact⟨rfl,⟨D',⟨_,_,_,_,_,_,_,hC.perm qz.symm,h2.sched a3 ⟨a1,a4,by omega,hb⟩ c1 c2 hL hK,Xg h3 c2⟩,hg⟩,hm⟩
 ·have er:jK now L x=kU now x:=by unfold jK;rw[zh e0]
  rw[er,zh e0];refine(ziY h1 h32 hd hb e0).mono ?_;exact Azsmn
theorem yt.get(h:yt w D p now L){s:Nat}(h32:s≤4294967295) :
  Calls prog 301 #[lkP p,.int .u32 s] w fun e w'=>e=.returned (.tuple #[tdV (getTd L s).1,.int .i64 (getTd L s).2])∧zc w w':=by
 obtain⟨ws,bm,bb,Ds,Dm,Db,Lss,h1,h2,h3⟩:=h;exact Ju h1 h32
theorem V6(L:List Td)(s:Nat):(s<4194304∧xL L s=true ∧ ∃ x,getTd L s=(x,0)∧x.slot=s∧L[qP L s]? = some x∧L.find? (fun y=>y.slot==s)=some x∧L.Perm (x::qO L s))∨((¬ s<4194304∨xL L s=false) ∧ ∃ er,getTd L s=(zTd,er)∧er≠0):=by
 by_cases hs:s<4194304
 ·cases hh:xL L s with
  | true =>
   obtain⟨x,h1,h2,h3,h4⟩:=V4 (Ub.2 hh);exact .inl ⟨hs,rfl,x,UH hs h3,h2,h1,h3,h4⟩
  | false=>exact .inr ⟨.inr rfl,9,Xd hs (Vx hh),by decide⟩
 ·exact .inr ⟨.inl hs,2,KO hs,by decide⟩
def vz(L:List Td)(s:Nat):List Td:=if (getTd L s).2=0 then qO L s else L
theorem yt.cancel(h:yt w D p now L){s:Nat}(h32:s≤4294967295) :
  Calls prog 252 #[lkP p,.int .u32 s] w fun e w'=>e=.returned (.tuple #[tdV (getTd L s).1,.int .i64 (getTd L s).2])∧(∃ D',yt w' D' p now (vz L s)∧yo D D' w)∧Mod D w w':=by
 have h':=h;obtain⟨ws,bm,bb,Ds,Dm,Db,Lss,h1,h2,h3⟩:=h;unfold vz;rcases V6 L s with⟨hs,_,x,e1,rfl,_,e3,e4⟩ | ⟨_,er,e1,e2⟩
 ·rw[e1];obtain⟨hx,w1,w2,w3,w4⟩:=h2.without e4;obtain⟨a1,a2,a3,a4⟩:=h2.rng x hx;have a5:=h2.after x hx (fun c=>c);obtain⟨Ls,B,hL,hK⟩:=h2.get (kh h1.box.now (dl:=x.dl) (by omega)).1 (Y6 (now:=now) (dl:=x.dl));have hf:x.slot∈B:=by
   obtain⟨A,C,b1,b2,b3⟩:=(h2.at_ (lvl now x.dl) (bkt now x.dl) x.slot).2 ⟨(fun c=>c),x,hx,rfl,rfl,rfl⟩;rw[hL]at b1;cases b1;rw[hK]at b2;cases b2;exact b3
  refine(zeb h1 e3 a1 (by omega) a4 (by omega) hL hK hf w1 w2 w4).mono ?_;rintro e w' ⟨rfl,⟨D',Ds',Dm',Db',hC,hg⟩,hm⟩;exact⟨rfl,⟨D',⟨_,_,_,_,_,_,_,hC,h2.cut hx w1 w3 hL hK,Yg h3⟩,hg⟩,hm⟩
 ·rw[e1];dsimp only;rw[zh e2];refine(zif h1 h32 e1 e2).mono ?_;exact Azsmn
theorem yt.now_(h:yt w D p now L):Calls prog 131 #[lkP p] w fun e w'=>e=.returned (.int .u64 now)∧w=w':=by
 obtain⟨ws,bm,bb,Ds,Dm,Db,Lss,h1,h2,h3⟩:=h;exact zjv h1
end
theorem zbu{f:Nat→Bool}{n b:Nat}(h:uI f n=some b):b<n∧f b=true ∧ ∀ j,j<b→f j=false:=by
 unfold uI at h;rw[List.find?_range_eq_some]at h;exact⟨ZZ.1 h.2.1,h.1,fun j hj=>by have:=h.2.2 j hj;simpa using this⟩
theorem zgj{f:Nat→Bool}{n:Nat}(h:uI f n=none) : ∀ j,j<n→f j=false:=fun j hj=>by
 unfold uI at h;rw[qm]at h;have:=h j (ZZ.2 hj);simpa using this
def Jd(f:Nat→Bool)(b:Nat)(e:Int):Prop:=uI f 256=some b∧e=0∨uI f 256=none∧b=0∧e=9
theorem zcX(f:Nat→Bool) : ∃(b:Nat) (e:Int),V3 f=.tuple #[.int .i64 b,.int .i64 e]∧Jd f b e:=by
 unfold V3 Jd
 cases uI f 256 with
 | some b=>exact⟨b,0,rfl,.inl ⟨rfl,rfl⟩⟩
 | none=>exact⟨0,9,rfl,.inr ⟨rfl,rfl,rfl⟩⟩
section
variable{w w':World}{D:Nat→Prop}{p now:Nat}{ws:List Nat}{bm bb:Nat}{Ds:Nat→Nat→Prop}{Dm Db:DataW Unit}{M:List Td}{Lss:List (List (List Nat))}
theorem yu.level0(h:yu w D p now ws bm bb Ds Dm Db M Lss){l q:Nat}{Ls':List (List Nat)}(hl:l<8)(hq:ws[l]? = some q)(hw:yK w' (Ds l) q Ls')(hm:Mod (Ds l) w w'):yu w' D p now ws bm bb Ds Dm Db M (Lss.set l Ls'):=by
 obtain⟨D2,hC,_⟩:=h.level hl hq hw (yo.refl _ _) hm;have e1:kV Ds l (Ds l)=Ds:=by
  funext k
  unfold kV;split
  ·rename_i e;rw[e]
  ·rfl
 rw[e1]at hC;have e2:D2=D:=by
  funext k
  exact propext ((hC.dd k).trans (h.dd k).symm)
 rw[e2]at hC;exact hC
structure EmI(w wr:World)(D:Nat→Prop)(p now:Nat)(ws:List Nat)(bm bb:Nat)(Ds:Nat→Nat→Prop)(Dm Db:DataW Unit)(M:List Td)(Lss:List (List (List Nat)))(lv n:Nat)(Ls cur:List (List Nat))(a:Option Addr)(c:Nat)(out:List Nat):Prop where
 mem:yu wr D p now ws bm bb Ds Dm Db M (Lss.set lv cur)
 row:yw wr a c out
 fresh:xp w (.slice a out.length c)
 mod:Mod D w wr
 sum:out++(cur.take n).flatten=xZ Ls n
 rest:cur.drop n=Ls.drop n
 len:cur.length=256
theorem Azyfp {P:Prop}(h:P:=by
 have hres:=HIr.out;rw[G1.out,G2.out]at hres;have HRES:=za hres;rw[G1.out];clear hres;go_wp2;go_ret;exact⟨a,c,rfl,HRES.out.row,HRES.out.fresh,HRES.out.mem,HRES.out.mod⟩):P:=h
theorem zdz(h:yu w D p now ws bm bb Ds Dm Db M Lss)(hT:xA w)(h0 : ¬ D 0){lv m:Nat}(hm:m<256)(hl8:lv<8){Ls:List (List Nat)}(hL:Lss[lv]? = some Ls)(hb:(xZ Ls (m+1)).length≤4194304) :
  Calls prog 257 #[lkP p,.int .i64 lv,.int .i64 m] w fun e w' => ∃ a c,e=.returned (.slice a (xZ Ls (m+1)).length c)∧yw w' a c (xZ Ls (m+1))∧xp w (.slice a (xZ Ls (m+1)).length c)∧yu w' D p now ws bm bb Ds Dm Db M (Lss.set lv (kg Ls (m+1)))∧Mod D w w':=by
 obtain⟨q,hq⟩ : ∃ q,ws[lv]? = some q:=⟨_,zL (by rw[h.box.len];exact hl8)⟩;have hNx:=fun(W:World) (cur:List (List Nat)) (hM:yu W D p now ws bm bb Ds Dm Db M (Lss.set lv cur)) (hW:Mod D w W)=>zle (hM.lev lv q cur hq (yv (by rw[h.len];exact hl8))) (hT.mod hW h0)
 have hlL:Lss.set lv Ls=Lss:=by
  refine uv (fun j => ?_);by_cases e:lv=j
  ·subst e;rw[yv (by rw[h.len];exact hl8),hL]
  ·rw[yy e]
 have hLs:Ls.length=256:=(h.lev lv q Ls hq hL).len;have hI:EmI w w D p now ws bm bb Ds Dm Db M Lss lv (m+1) Ls Ls none 0 []:=⟨by rw[hlL];exact h,vJ _ _ _ _,(fun g hg=>by cases hg),Mod.refl _ _,rfl,rfl,hLs⟩;obtain⟨b0,e0,hne,hc0⟩:=zcX (neB Ls);have hn0:=hNx w Ls hI.mem (Mod.refl _ _);rw[hne]at hn0;have HN0:=za hn0;have HNx:=za hNx;have hcl:=h.box.level hq;obtain⟨c0,_,_,_,_⟩:=h.box.cells;have HI:=za hI;have HQ:=za hq;have HB:=za hb;have HC0:=za hc0;have HLS:=za hLs;have hlss : ∀ cur,(Lss.set lv cur)[lv]? = some cur:=fun cur=>yv (by rw[h.len];exact hl8)
 have HLSS:=za hlss;have hset : ∀ A B,(Lss.set lv A).set lv B=Lss.set lv B:=fun A B=>List.set_set ..
 have HSET:=za hset;have hDlt : ∀ k,D k→k<w.heap.size:=fun k hk=>h.lt hk
 have hlvD : ∀ k,Ds lv k→D k:=fun k hk=>(h.dd k).2 (.inr (.inr (.inr ⟨lv,hl8,hk⟩)))
 have HDLT:=za hDlt;have HLVD:=za hlvD;clear h hT h0 hL hq hI hne hn0 hNx hlL hb hc0 hLs hlss hset hDlt hlvD;have dl8:decide (lv<8)=true:=zP hl8;have l0:(0:Int)≤(lv:Int):=by omega
 have l1:(lv:Int)<8:=by omega
 obtain⟨i0,hi,iz0,iz1,iz2⟩:=xG qt;go_enter func257,ntmps257;go_upto_region 3 with(go_at_call 308;refine HN0.out.mono ?_;rintro e w' ⟨rfl,rfl⟩)
 clear c0 hcl;go_loopw [7,8,9] (fun v7 v8 v9 wr => ∃ cur a c out b er,v7=.slice a out.length c∧v8=.int .i64 (b:Nat)∧v9=.int .i64 er∧Jd (neB cur) b er∧EmI w wr D p now ws bm bb Ds Dm Db M Lss lv (m+1) Ls cur a c out) (fun _ v8 v9 _=>if intOf v9=0 then 256-(intOf v8).toNat else 0)
 case atStart=>exact⟨Ls,none,0,[],b0,e0,rfl,rfl,rfl,HC0.out,HI.out⟩
 case round =>
  obtain⟨cur,a,c,out,b,er,rfl,rfl,rfl,hc,hI⟩:=hrel;have HIr:=za hI;have hcl:=hI.mem.box.level HQ.out;obtain⟨c0,_,_,_,_⟩:=hI.mem.box.cells;have fin:(∀ i,i<m+1→neB cur i=false)→out=xZ Ls (m+1)∧cur=kg Ls (m+1):=fun hz=>by
   have e1:=QN (by rw[hI.len];omega) hz;have e2:=hI.sum;rw[e1,zfT,jb]at e2;refine⟨e2,?_⟩;unfold kg;rw[← hI.rest,← e1,Y2]
  have FIN:=za fin;clear fin hI;rcases hc with⟨hf,rfl⟩ | ⟨hf,rfl,rfl⟩
  ·obtain⟨f1,f2,f3⟩:=zbu hf;by_cases hbm:b≤m
   ·have hbm':(b:Int)≤(m:Int):=by omega
    obtain⟨l,hl⟩ : ∃ l,cur[b]? = some l:=⟨_,zL (by rw[HIr.out.len];exact f1)⟩;have hTk:=ziL (HIr.out.mem.lev lv q cur HQ.out (HLSS.out cur)) hl;have hfl:=zaa (n:=m+1) (by omega) hl f3;have hsum:=HIr.out.sum;rw[hfl,← vM]at hsum;have hll:(out++l).length≤4194304:=by
     have:=HB.out;rw[← hsum,zV]at this;omega
    rw[zV]at hll;have hrest:(cur.set b []).drop (m+1)=Ls.drop (m+1):=by
     rw[← HIr.out.rest,List.drop_set_of_lt (by omega)]
    obtain⟨b1,e1,hne1,hc1⟩:=zcX (neB (cur.set b []));have hneb:neB (cur.set b [])=vH (neB cur) b false:=J0 (by rw[HIr.out.len];exact f1) [];have hmeas:e1=0→b<b1∧b1<256:=fun hz=>by
     rcases hc1 with⟨g1,_⟩ | ⟨_,_,g2⟩
     ·obtain⟨g1,g2,_⟩:=zbu g1;refine⟨?_,g1⟩;rw[hneb]at g2;unfold vH at g2;rcases qV b1 b with k | k | k
      ·rw[zh (by omega),f3 b1 k]at g2;cases g2
      ·rw[zk k]at g2;cases g2
      ·exact k
     ·rw[g2]at hz;cases hz
    have HMEAS:=za hmeas;have HSUM:=za hsum;have HREST:=za hrest;have HC1:=za hc1;have HNE1:=za hne1;obtain⟨nl,hnl⟩:=zf l.length;obtain⟨no,hno⟩:=zf out.length;rw[hnl]at hTk hll;rw[hno]at hll ⊢;have HTk:=za hTk;have HNL:=za hnl;have HNO:=za hno;have hbl:b<256:=f1;clear hf f1 f2 f3 hl hTk hfl hsum hrest hc1 hne1 hneb hmeas hnl hno;go_upto_region 6 with(go_at_call 309;refine HTk.out.mono ?_;rintro e w2 ⟨a2,c2,rfl,hr2,hf2,hw2,hm2⟩)
    have hmem2:yu w2 D p now ws bm bb Ds Dm Db M (Lss.set lv (cur.set b [])):=by
     have:=HIr.out.mem.level0 hl8 HQ.out hw2 hm2;rw[HSET.out]at this;exact this
    have hmD2:Mod D wr w2:=hm2.mono (fun k _ hk=>HLVD.out k hk);have hro2:w2.ownsRow 0 143 1 (.slice a no c) no (zX out):=by
     have:=HIr.out.row;unfold yw at this;rw[HNO.out]at this;exact zy this hmD2 (fun g hg hk=>by have:=HIr.out.fresh g (by rw[HNO.out];exact hg);have:=HDLT.out g hk;omega)
    have hRD2:zo w2 (.slice a2 nl c2) 1 (zX l):=by have:=qB hr2;rw[HNL.out]at this;exact this
    have HRO2:=za hro2;have HRD2:=za hRD2;have HM2:=za hmem2;have HMD2:=za (HIr.out.mod.trans hmD2);clear hr2 hf2 hw2 hm2 hmem2 hmD2 hro2 hRD2 hcl c0;go_upto_region 4 with(at_builtin;refine uK _ rfl _ _ 213 rfl 143 i0 _ 1 4 underlying213 hi iz0 iz1 iz2 rfl (by decide) (.slice a no c) no _ rfl HRO2.out _ (zX l) nl rfl HRD2.out (by rw[qq,HNL.out,jW]) (by unfold maxLen;omega) (by omega) ?_;intro a7 c7 w5 hr7 hg7 hb7)
    have hmg:Mod (fun k=>(Value.slice a no c).ownBlock=some k) w2 w5:=Mod.of_grown (S:=fun k'=>(Value.slice a no c).ownBlock=some k') hg7 (fun k e _=>e);have hfa : ∀ k,(Value.slice a no c).ownBlock=some k→w.heap.size≤k:=fun k e=>HIr.out.fresh k (by rw[HNO.out];exact e)
    have hmem5:=HM2.out.frame hmg (fun k hk e=>by have:=hfa k e;have:=HDLT.out k hk;omega);have hm5:Mod D w w5:=HMD2.out.then hmg (fun k hk e=>by have:=hfa k e;omega);have hf5:xp w (.slice a7 (no+nl) c7):=fun k hk=>by
     rcases hb7 with e | e
     ·exact hfa k (e ▸ hk)
     ·rw[e]at hk;cases hk;exact HMD2.out.size
    have hno2:(out++l).length=no+nl:=by rw[zV,HNO.out,HNL.out]
    have hI5:EmI w w5 D p now ws bm bb Ds Dm Db M Lss lv (m+1) Ls (cur.set b []) a7 c7 (out++l):=⟨hmem5,by unfold yw;rw[hno2,qS];exact hr7,by rw[hno2];exact hf5,hm5,HSUM.out,HREST.out,by rw[xF];exact HIr.out.len⟩;have hn5:=HNx.out w5 _ hI5.mem hm5;rw[HNE1.out]at hn5;have HN5:=za hn5;have HI5:=za hI5;have HNO2:=za hno2;have hcl:=hI5.mem.box.level HQ.out;obtain⟨c0,_,_,_,_⟩:=hI5.mem.box.cells;clear hr7 hg7 hb7 hmg hfa hmem5 hm5 hf5 hno2 hI5 hn5
    go_wp2_with (go_at_call 308;refine HN5.out.mono ?_;rintro e w' ⟨rfl,rfl⟩)
    go_roundw
    case rel=>exact⟨_,a7,c7,_,b1,e1,by rw[HNO2.out],rfl,rfl,HC1.out,HI5.out⟩
    case measure =>
     have hq:=HMEAS.out;by_cases hz:e1=0
     ·have:=hq hz;simp[intOf,hz];omega
     ·simp[intOf,hz];omega
   ·have hbm' : ¬ ((b:Int)≤(m:Int)):=by omega
    obtain⟨g1,g2⟩:=FIN.out (fun i hi=>f3 i (by omega));have G1:=za g1;have G2:=za g2;clear g1 g2 hf f1 f2 f3 hcl c0;exact Azyfp
  ·obtain⟨g1,g2⟩:=FIN.out (fun i hi=>zgj hf i (by omega));have G1:=za g1;have G2:=za g2;clear g1 g2 hf hcl c0;exact Azyfp
end
section
variable{w w':World}{D:Nat→Prop}{p now tt k lv n:Nat}{ws:List Nat}{bm bb:Nat}{Ds:Nat→Nat→Prop}{Dm Db:DataW Unit}{M L:List Td}{Lss:List (List (List Nat))}{P:Nat→Prop}{Ls:List (List Nat)}
theorem ye.bound(h:ye now M P Lss){A:List Nat}(hA:A.Nodup)(hs : ∀ s∈A,∃ l b,xh Lss l b s):A.length≤4194304 :=
 qZ hA (fun s hs'=>by
  obtain⟨l,b,h1⟩:=hs s hs';obtain⟨_,x,hx,e,_⟩:=(h.at_ _ _ _).1 h1;have:=(h.rng x hx).1;rw[e]at this;exact this)
theorem ye.count(h:ye now M P Lss):M.length≤4194304:=by
 have h1:(M.map (fun x=>x.slot)).Nodup:=by
  unfold List.Nodup;rw[uQ];exact h.ndM.imp_of_mem (fun {a b} ha hb hne e=>hne (h.slots a ha b hb e))
 have:=qZ (N:=4194304) h1 (fun s hs=>by
  obtain⟨x,hx,rfl⟩:=zz.1 hs;exact(h.rng x hx).1)
 rw[yn]at this;exact this
theorem ye.moved_le(h:ye now M P Lss)(hL:Lss[lv]? = some Ls):(x8 Lss lv++xZ Ls n).length≤4194304 :=
 h.bound (h.nodup_moved hL) (fun s hs=>by
  rcases yz.1 hs with hs | hs
  ·obtain⟨l,b,_,h1⟩:=JR.1 hs;exact⟨l,b,h1⟩
  ·obtain⟨b,B,_,h1,h2⟩:=Ki.1 hs;exact⟨lv,b,Ls,B,hL,h1,h2⟩)
theorem zjo(h:Ls.length=256):kg Ls 256=List.replicate 256 []:=by
 unfold kg;rw[Zw (by omega),jb]
theorem JP(h:Ls.length=256):xZ Ls 256=Ls.flatten:=by
 unfold xZ;rw[qp (by omega)]
theorem yu.setNow(h:yu w D p now ws bm bb Ds Dm Db M Lss)(ht:tt<18446744073709551616):yu (w.setCell ⟨p,0,none⟩ (.int .u64 tt)) D p tt ws bm bb Ds Dm Db M Lss∧Mod (fun k=>k=p) w (w.setCell ⟨p,0,none⟩ (.int .u64 tt)):=by
 have hm:Mod (fun k=>k=p) w (w.setCell ⟨p,0,none⟩ (.int .u64 tt)):=(Mod.refl (fun k=>k=p) w).setCell (p:=⟨p,0,none⟩) (fun _=>rfl) _;obtain⟨n1,n2,n3⟩:=h.ne;refine⟨⟨⟨?_,h.box.len,ht⟩,h.what.mod hm n2,h.births.mod hm n3,h.len,fun l q Ls hq hl=>(h.lev l q Ls hq hl).frame hm (fun k hk e => ?_),h.apart,h.own,h.ne,h.dd⟩,hm⟩
 ·rw[ya w p 0 _ _ (.int .u64 tt) h.box.box]
  congr 2
 ·have hl8:l<8:=by have:=(zE.1 hl).1;rw[h.len]at this;exact this
  exact(h.own l k hl8 hk).1 e
theorem zjH:(prog.info? 236).map (fun i=>(i.zero,i.size,i.bytes))=some (some (.agg #[.int .u32 0,.int .u64 0,.int .u64 0]),3,24):=by kernel_rfl
def YL(tt:Nat)(L:List Td):List Td:=L.takeWhile (fun x=>decide (x.dl≤tt))
def Kk(tt:Nat)(L:List Td):List Td:=L.dropWhile (fun x=>decide (x.dl≤tt))
theorem Az0lc {P:Prop}(h:P:=by
 clear hlt;go_enter func199,ntmps199
 go_wp2_with (go_at_call 198;refine HCk.out.mono ?_;rintro e w' ⟨rfl,rfl⟩)
 go_ret2;exact⟨rfl,rfl⟩):P:=h
theorem yt.adv_no(h:yt w D p now L)(ht:tt≤now):Calls prog 199 #[lkP p,.int .u64 tt] w fun e w'=>e=.returned (.tuple #[.slice none 0 0,.int .i64 (if tt<now then 3 else 0)])∧w=w':=by
 obtain⟨ws,bm,bb,Ds,Dm,Db,Lss,h1,h2,h3⟩:=h;have HCk:=za (Y1 h1.box (s:=0) (by omega));obtain⟨c0,c9,c10,_,_⟩:=h1.box.cells;clear h1 h2 h3;by_cases hlt:tt<now
 ·rw[zk hlt];have hlt':(tt:Int)<(now:Int):=by omega
  exact Az0lc
 ·have e:tt=now:=by omega
  subst e;rw[zh hlt];have hlt' : ¬ (tt:Int)<(tt:Int):=by omega
  exact Az0lc
end
end
section
open Go.RowKit Go.Shelf
variable{Fo:Nat→Prop}
section
variable{w w':World}{D S:Nat→Prop}{d seed:Nat}{same:Bool}{L:List (Option Ent)}{Gs:List Grp}
theorem zY.unindex{q p:Nat}{sv:Value}{Dl:Nat→Prop}{w2:World}{Gs2:List Grp}(h:zY Fo w d q p sv Dl seed same L Gs)(hx:yk w2 (fun k=>k=p∨sv.ownBlock=some k) p sv Gs2)(hm:Mod (fun k=>k=p∨sv.ownBlock=some k) w w2):zY Fo w2 d q p sv Dl seed same L Gs2:=by
 refine⟨hm.heap (fun hk => ?_) h.box,h.log.frame hm (fun k hk e=>h.nlp k hk e) (fun k _ e cs fz e2 => ?_),hx,h.sd⟩
 ·rcases hk with e | e
  ·exact h.npd e.symm
  ·exact h.nsd e
 ·rcases e with rfl | e
  ·rw[h.ix.box]at e2;cases e2
  ·obtain⟨cc,e3⟩:=yc h.ix.row e;rw[e3]at e2;cases e2
theorem zfz(h:yb Fo w D d seed same L Gs){s:Nat}{x:Ent}(hx:L[s]? = some (some x)):Calls prog 142 #[xt d,.int .u32 s] w (zh2 Fo w D d seed same L Gs s x):=by
  obtain⟨q,p,sv,Dl,h1,h2,h3⟩:=h;have hsl:s<L.length:=(zE.1 hx).1;have hs:s≤4294967295:=by have:=h1.log.ok.len;omega
  obtain⟨⟨i,j,k1,k2⟩,k3,k4,k5⟩:=h2.remove hx;have hsum:=UX seed same L s;have HH:=za h1;have HD:=za h3;have HKE:=za k5;have HX:=za hx;have hp0:zc w (w.alloc (.cells #[.string ⟨#[]⟩,.slice none 0 0,.int .u64 0,.int .u64 0] 141)):=(Mod.refl _ w).alloc _;have z4:=zj (w:=w) (o := .cells #[.string ⟨#[]⟩,.slice none 0 0,.int .u64 0,.int .u64 0] 141 (0,0)) rfl;have HZ:=za (Zv (h1.pure hp0));have HK:=za (zcr (h1.log.pure hp0) s hs);have e1:noL L s=0:=by unfold noL Un;rw[hx];rfl
  rw[e1]at HK;have hb:=(h1.pure hp0).box;have HP:=za hp0;have hdb:d<w.heap.size:=zm h1.box;have HSum:=za (fun(W:World) (hW:zc w W)=>KM (h1.pure hW) s hs);obtain⟨hh,hhe⟩:=zf (yf seed same L s);have HIR:=za (fun(W:World) (hW:zc w W)=>zj3 (h1.ix.pure hW) hh s (hhe ▸ hsum) hs);rw[hhe]at HSum k1;unfold XN at HIR;rw[k1]at HIR;dsimp only at HIR;have e2:yD Gs i j (yL (zn Gs i).1) 0=uD (yf seed same L) Gs s:=k2.symm;rw[e2]at HIR;unfold Yw at HKE;obtain⟨G1,hG1⟩:=zf (uD (yf seed same L) Gs s);rw[hG1]at HIR HKE k3 k4;have HG1:=za hG1;obtain⟨pl,hpl⟩:=zf (uy G1.length (zD G1));rw[hpl]at HKE k4;have HGR:=za (fun W=>ziT k3.pow (JU k3.grp) W);rw[hpl]at HGR;have HPL:=za hpl;have HK4:=za k4;unfold zc7 at HGR;obtain⟨pl1,pl2⟩:=pl;dsimp only at HGR;clear h1 h2 h3 hp0 e1 e2 hx k1 k2 k3 k4 k5 hhe hsum hG1 hpl;generalize yI L s=ks at *;go_enter func142,ntmps142;go_upto_region 1 with fail
  generalize w.alloc (.cells #[.string ⟨#[]⟩,.slice none 0 0,.int .u64 0,.int .u64 0] 141)=W1 at *;obtain⟨b4,hb4⟩:=zf w.heap.size;rw[hb4]at z4 hdb ⊢;have HB:=za hb4;clear hb4;have Z4:=za z4;clear z4;obtain⟨hb_0,hb_1,hb_2,hb_3,hb_f,hb_l,H_hb⟩:=cr4 hb;clear hb;go_upto_region 6 with(first
    | (go_at_call 112;refine HZ.out.mono ?_;rintro e w' ⟨rfl,rfl⟩)
    | (go_at_call 213;refine HK.out.mono ?_;rintro e w' ⟨rfl,rfl⟩))
  go_region_held3 (fun w'=>w'.cell? ⟨d,3,none⟩=some (.pointer (some ⟨p,0,none⟩)))
    (first | exact hb_3 | exact hp1.cell (fun h=>h) hb_3 | exact hm2.cell (fun e=>e.elim (fun e=>HH.out.npd e.symm) (fun e=>HH.out.nsd e)) (hp1.cell (fun h=>h) hb_3))
    (first
      | (go_at_call 215;refine(HSum.out _ (by have:=HP.out;exact yx)).mono ?_;rintro e w1 ⟨rfl,hp1⟩)
      | (go_at_call 214;refine(HIR.out _ (by have:=HP.out;exact yx)).mono ?_;rintro e w2 ⟨rfl,hx2,hm2⟩))
  have hpw1:zc w w1:=HP.out.trans (Mod.of_drew hp1);have hb4w:w.heap.size=b4:=HB.out;have hMw:Mod D w w2:=(Mod.of_pure (S:=D) hpw1).then hm2 (fun k _ hk=>(HD.out k).2 (hk.elim (fun e => .inr (.inr (.inl e))) (fun e => .inr (.inr (.inr e)))));have hlow : ∀ k,k=p∨sv.ownBlock=some k→k<w.heap.size:=fun k hk=>HH.out.lt (hk.elim (fun e => .inr (.inr (.inl e))) (fun e => .inr (.inr (.inr e))))
  have HM2:=za ((HH.out.pure hpw1).unindex hx2 hm2);replace Z4:=za (hm2.heap (fun hk=>by have:=hlow _ hk;omega) ((Mod.of_drew hp1).heap (fun h=>h) Z4.out));have HMW:=za hMw;have hb4l:b4<w2.heap.size:=zm Z4.out;have hb:=HM2.out.box;have HRm:=za (zju HM2.out.log s x HX.out);clear hx2 hm2 hp1 hpw1 hMw hlow;clear hb_0 hb_1 hb_2 hb_3 hb_f hb_l H_hb;obtain⟨hb_0,hb_1,hb_2,hb_3,hb_f,hb_l,H_hb⟩:=cr4 hb;clear hb;go_upto_region 8 with(go_at_call 216;refine HRm.out.mono ?_;rintro e w3 ⟨a,n,c,rfl,hby,hfr,hl3,hm3⟩;dsimp only[Ky]at *)
  have hpo:zc w3 (w3.alloc (.cells #[.string x.key,.slice a n c,.int .u64 x.dl,.int .u64 x.birth] 141)):=(Mod.refl _ w3).alloc _;have z8:=zj (w:=w3) (o := .cells #[.string x.key,.slice a n c,.int .u64 x.dl,.int .u64 x.birth] 141 (0,0)) rfl;have hdl : ∀ k,Dl k→k<w.heap.size:=fun k hk=>HH.out.log.lt hk
  have HM4:=za ((Jw HM2.out hl3 hm3).pure hpo);replace Z4:=za (hpo.heap (fun h=>h) (hm3.heap (fun hk=>by have:=hdl _ hk;omega) Z4.out));have h2w:w.heap.size≤w2.heap.size:=HMW.out.size;replace HMW:=za ((HMW.out.then hm3 (fun k _ hk=>(HD.out k).2 (.inr (.inl hk)))).then hpo (fun _ _ h=>h.elim));have HBY:=za (zy hby hpo (fun _ _ h=>h));have HFR:Hid (vf w (.slice a n c)):=fun g e=>by have:=hfr g e;omega
  have h23:w2.heap.size≤w3.heap.size:=hm3.size;clear hb_0 hb_1 hb_2 hb_3 hb_f hb_l;clear H_hb hby hfr hl3 hm3 hpo HM2 HRm HSum HIR HK HZ;generalize hW4:w3.alloc (.cells #[.string x.key,.slice a n c,.int .u64 x.dl,.int .u64 x.birth] 141)=W4 at *;clear hW4;obtain⟨b8,hb8⟩:=zf w3.heap.size;rw[hb8]at z8 h23 ⊢;have Z8:=za z8;have hb8l:b8<W4.heap.size:=zm z8;clear hb8 z8;have hb:=HM4.out.box;obtain⟨hb_0,hb_1,hb_2,hb_3,hb_f,hb_l,H_hb⟩:=cr4 hb;clear hb;have hal:=fun o=>(Mod.refl (fun _=>False) W4).alloc o
  go_cut [0,4,8,9,10,11] (fun v0 v4 v8 v9 v10 v11 wx=>v0=.pointer (some ⟨d,0,none⟩)∧v4=.pointer (some ⟨b4,0,none⟩)∧v8=.pointer (some ⟨b8,0,none⟩)∧v9=.int .i64 0∧v11=.int .i64 0 ∧
    ∃ b10,v10=.pointer (some ⟨b10,0,none⟩)∧wx.heap[b10]? = some (.cells #[.int .i64 pl1,.bool pl2] 293 (0,0))∧zc W4 wx)
  case first =>
    go_region_held3 (fun w'=>w'.cell? ⟨d,3,none⟩=some (.pointer (some ⟨p,0,none⟩)))
      (first | exact hb_3 | exact(hal _).cell (fun h=>h) hb_3 | exact hp5.cell (fun h=>h) hb_3 | exact hp5.cell (fun h=>h) ((hal _).cell (fun h=>h) hb_3) | exact(hp5.alloc _).cell (fun h=>h) hb_3 | exact((Mod.set2 _ _ _ _ _).cell (fun e=>hdb5 e) ((hp5.alloc _).cell (fun h=>h) hb_3)) | exact((Mod.set2 _ _ _ _ _).cell (fun e=>hdb4 e) (hp5.cell (fun h=>h) ((hal _).cell (fun h=>h) hb_3))))
      (first
        | (go_at_call 206;(with_reducible refine zq (Jl (HM4.out.ix.pure (by first | exact Mod.refl _ _ | exact Mod.drew (Mod.refl _ _) | exact hal _ | exact Mod.drew (hal _)))) ?_);rintro e w1 ⟨rfl,rfl⟩)
        | (go_at_call 218;(with_reducible refine zq (zaj (HM4.out.ix.pure (by first | exact Mod.refl _ _ | exact Mod.drew (Mod.refl _ _) | exact hal _ | exact Mod.drew (hal _)))) ?_);rintro e w1 ⟨rfl,rfl⟩)
        | (go_at_call 207;(with_reducible refine zq (JQ (HM4.out.ix.pure (by first | exact Mod.refl _ _ | exact Mod.drew (Mod.refl _ _) | exact hal _ | exact Mod.drew (hal _)))) ?_);rintro e w1 ⟨rfl,rfl⟩)
        | (go_at_call 217;refine(HGR.out _).mono ?_;rintro e w5 ⟨rfl,hp5⟩;have hdb5:d≠w5.heap.size:=(by have:=hp5.size;have:=hb_l;simp at *;omega);have hdb4:d≠W4.heap.size:=(by have:=hb_l;omega);(first | (have qb:w5.heap[W4.heap.size]? = some (.cells #[.int .i64 0,.bool false] 293 (0,0)):=hp5.heap (fun h=>h) (zj (w:=W4) (o := .cells #[.int .i64 0,.bool false] 293 (0,0)) rfl);have q0:=zi _ _ 0 _ _ _ qb;have q1:=zi _ _ 1 _ _ _ qb;have qf:=(fun j=>yU _ _ j _ _ qb);have ql:=zm qb;simp at q0 q1;have QB:=za qb;clear qb) | skip)))
    all_goals
      try go_wp2
      go_meet
      refine⟨rfl,rfl,rfl,rfl,rfl,_,rfl,?_,?_⟩
      · first | exact zj rfl | exact QK QB.out
      · first | exact(Mod.of_drew hp5).alloc _ | exact(Mod.trans (Mod.drew (hal _)) hp5).then (Mod.set2 _ 0 1 _ _) (fun i hi e=>by omega)
  case rest =>
    obtain⟨rfl,rfl,rfl,rfl,rfl,b10,rfl,hb10,hpc⟩:=hcut;have hbw:=HB.out;have hb4':w.heap.size≤b4:=by omega
    have HM6:=za (HM4.out.pure hpc);replace Z4:=za (hpc.heap (fun h=>h) Z4.out);replace Z8:=za (hpc.heap (fun h=>h) Z8.out);replace HMW:=za (HMW.out.then hpc (fun _ _ h=>h.elim));replace HBY:=za (zy HBY.out hpc (fun _ _ h=>h));have hW4:w.heap.size≤W4.heap.size:=by omega
    clear hb_0 hb_1 hb_2 hb_3 hb_f hb_l;clear H_hb HM4 hal HGR hbw;have hdb8:d≠b8:=by omega
    have HDo:=za (zbk HM6.out (pl1,pl2) HK4.out);dsimp only at HDo;obtain⟨hb10_0,hb10_1,hb10_f,hb10_l,H_hb10⟩:=cr2 hb10;clear hb10;go_upto_region 11 with(go_at_call 219;refine HDo.out.mono ?_;rintro e w7 ⟨v7,p2,sv2,rfl,hm7,hmod7,hsx7⟩)
    have y4:=hmod7.heap (by omega) Z4.out;have y8:=hmod7.heap (fun e=>hdb8 e.symm) Z8.out;have HBY7:=za (jY HBY.out hmod7 (fun k _ e cs fz e2=>by subst e;rw[HM6.out.box]at e2;cases e2));have HM7:=za hm7;have HMod7:=za hmod7;have HSX7:=za hsx7;clear hm7 hmod7 hsx7;have Y4:=za y4;obtain⟨y4_0,y4_1,y4_2,y4_3,y4_f,y4_l,H_y4⟩:=cr4 y4;clear y4;obtain⟨y8_0,y8_1,y8_2,y8_3,y8_f,y8_l,H_y8⟩:=cr4 y8;clear y8;go_wp2;obtain⟨Y,hY⟩:=zf ((((w7.setCell ⟨b4,0,none⟩ (.string x.key)).setCell ⟨b4,1,none⟩ (.slice a n c)).setCell ⟨b4,2,none⟩ (.int .u64 x.dl)).setCell ⟨b4,3,none⟩ (.int .u64 x.birth));obtain⟨g1,g2⟩:=Jr Y4.out hY;rw[hY];have x0:=zi _ _ 0 _ _ _ g2;have x1:=zi _ _ 1 _ _ _ g2;have x2:=zi _ _ 2 _ _ _ g2;have x3:=zi _ _ 3 _ _ _ g2;simp at x0 x1 x2 x3;have hn4 : ∀ k,j3 d Dl p2 sv2 k → ¬ k=b4:=fun k hk e=>by
      subst e;rcases hk with e | e | e | e
      · omega
      · have:=hdl _ e;omega
      · have h1:=HM7.out.ix.box;rw[← e,Y4.out]at h1;cases h1
      · obtain⟨cc,e2⟩:=yc HM7.out.ix.row e
        rw[Y4.out]at e2;cases e2
    have hrem:Yw (yf seed same L) (yf seed same (L.set s none)) Gs s=doG (yf seed same (L.set s none)) (pl1,pl2) G1:=by unfold Yw;rw[HG1.out,HPL.out]
    refine zN (v := .tuple #[.agg #[.string x.key,.slice a n c,.int .u64 x.dl,.int .u64 x.birth],.int .i64 0]) (by simp[results,results142,go_sem,x0,x1,x2,x3]) rfl ⟨a,n,c,rfl,?_,HFR.out,j3 d Dl p2 sv2,⟨q,p2,sv2,Dl,?_,?_,fun _=>vP⟩,?_,?_⟩
    · exact jY HBY7.out g1 (fun k _ e cs fz e2=>by subst e;rw[Y4.out]at e2;cases e2)
    · rw[hrem]
      exact HM7.out.frame g1 hn4 (fun k _ e cs fz e2=>by subst e;rw[Y4.out]at e2;cases e2)
    · rw[hrem]
      exact HKE.out
    · refine(HMW.out.then HMod7.out (fun k _ e=>(HD.out k).2 (.inl e))).then g1 (fun k hk e=>by omega)
    · have hw6:w.heap.size≤wc.heap.size:=HMW.out.size
      rintro k (e | e | e | e)
      · exact .inl ((HD.out k).2 (.inl e))
      · exact .inl ((HD.out k).2 (.inr (.inl e)))
      · rcases HSX7.out with⟨h1,h2⟩ | ⟨h1,h2⟩
        · exact .inl ((HD.out k).2 (.inr (.inr (.inl (e.trans h1)))))
        · exact .inr (by omega)
      · rcases HSX7.out with⟨h1,h2⟩ | ⟨h1,h2⟩
        · exact .inl ((HD.out k).2 (.inr (.inr (.inr (h2 ▸ e)))))
        · exact .inr (by have:=h2 _ e;omega)
end
end
end Go.Proofs.YtdohbogbnheakaaGreatDoor
