/- Lemmas and contracts of functions. No condition. -/
import Derived.Test.YtdohbogbnheakaaGreatDoorJPfBoth406
import Derived.Test.YtdohbogbnheakaaGreatDoorJPfBoth407
namespace Go.Proofs.YtdohbogbnheakaaGreatDoor
open _root_.Go.Proofs.Tryz
set_option maxRecDepth 100000
set_option maxHeartbeats 20000000
set_option linter.all false
section
open Go.RowKit Go.Shelf
def xe(w:World)(D:Nat→Prop)(p:Nat)(xs:List Nat):Prop :=
 ∃ q N Dl,w.heap[p]? = some (.cells #[lkP q] 348 (0,0))∧ym w Dl q N [xs] ∧ ∀ k,D k↔(k=p∨Dl k)
section
variable{w w':World}{D S:Nat→Prop}{p:Nat}{xs:List Nat}
theorem xe.frame(h:xe w D p xs)(hm:Mod S w w')(hd : ∀ k,D k → ¬ S k):xe w' D p xs:=by
 obtain⟨q,N,Dl,h1,h2,h3⟩:=h;exact⟨q,N,Dl,hm.heap (hd p ((h3 p).2 (.inl rfl))) h1,h2.frame hm (fun k hk=>hd k ((h3 k).2 (.inr hk))),h3⟩
theorem xe.pure(h:xe w D p xs)(hm:zc w w'):xe w' D p xs:=h.frame hm (fun _ _ h=>h)
theorem xe.lt(h:xe w D p xs){k:Nat}(hk:D k):k<w.heap.size:=by
 obtain⟨q,N,Dl,h1,h2,h3⟩:=h;rcases(h3 k).1 hk with rfl | e
 ·exact zm h1
 ·exact h2.lt e
theorem xe.self(h:xe w D p xs):D p:=by obtain⟨q,N,Dl,h1,h2,h3⟩:=h;exact(h3 p).2 (.inl rfl)
theorem Vy{q:Nat}(h:w.heap[p]? = some (.cells #[lkP q] 348 (0,0))){Dl:Nat→Prop}{q' N:Nat}{Ls:List (List Nat)}(hl:ym w Dl q' N Ls) : ¬ Dl p:=fun hd=>by
 rcases hl.types hd h with e | e | e<;>exact absurd e (by decide)
theorem ym.slots{Dl:Nat→Prop}{q N:Nat}(h:ym w Dl q N [xs]):xs.Nodup∧(∀ x∈xs,x<N)∧N≤4194304:=by
 have hN:=h.lenH.2.1;obtain⟨gF,gL,cF,cL,F,h1,h2⟩:=h;refine⟨h1.ok.nodup 0 xs rfl,fun x hx=>(h1.ok.own 0 xs rfl x hx).1,hN⟩
theorem xe.law(h:xe w D p xs):xs.Nodup∧(∀ x∈xs,x<4194304)∧xs.length≤4194304:=by
 obtain⟨q,N,Dl,h1,h2,h3⟩:=h;obtain⟨k1,k2,k3⟩:=h2.slots;exact⟨k1,fun x hx=>by have:=k2 x hx;omega,zH (qZ k1 k2) k3⟩
theorem Qc{n:Nat}:inL [xs] n↔n∈xs:=by
 constructor
 ·rintro⟨k,l,hl,hm⟩
  cases k with
  | zero=>cases hl;exact hm
  | succ k=>cases hl
 ·exact fun h=>⟨0,xs,rfl,h⟩
theorem zgB(w:World):Calls prog 168 #[] w fun e w' => ∃ p D,e=.returned (lkP p)∧xe w' D p []∧zc w w' ∧ ∀ k,D k→w.heap.size≤k:=by
 have HN:=za (JT w (N:=8) (H:=1) (by omega) (by omega) (by omega) (by omega));go_enter func168,ntmps168
 go_wp2_with (go_at_call 235;refine HN.out.mono ?_;rintro e w1 ⟨q,Dl,rfl,hl,hp,hf⟩)
 have ha:zc w1 (w1.alloc (.cells #[lkP q] 348)):=(Mod.refl _ w1).alloc _;have hlt:=fun k (hk:Dl k)=>hl.lt hk
 have hE:xe (w1.alloc (.cells #[lkP q] 348)) (fun k=>k=w1.heap.size∨Dl k) w1.heap.size []:=⟨q,8,Dl,zj rfl,hl.pure ha,fun _=>vP⟩;have hpp:=hp.trans ha;have hsz:=hp.size;go_ret;refine⟨w1.heap.size,_,rfl,hE,hpp,fun k hk => ?_⟩;rcases hk with rfl | e
 ·omega
 ·exact hf k e
theorem zaV{q:Nat}(hb:w.heap[p]? = some (.cells #[lkP q] 348 (0,0))){s:Nat}(h32:s≤4294967295):Calls prog 244 #[lkP p,.int .u32 s] w fun e w'=>e=.returned (.int .i64 (if s<4194304 then 0 else 2))∧w=w':=by
 obtain⟨hb_0,hb_f,hb_l,H_hb⟩:=cr1 hb;clear hb;by_cases h:s<4194304
 ·rw[zk h];have d:decide ((4194304:Int)≤(s:Int))=false:=zR (by omega);have dn:decide (4194304≤s)=false:=zR (by omega);go_enter func244,ntmps244;go_wp2;go_ret;exact⟨rfl,rfl⟩
 ·rw[zh h];have d:decide ((4194304:Int)≤(s:Int))=true:=zP (by omega);have dn:decide (4194304≤s)=true:=zP (by omega);go_enter func244,ntmps244;go_wp2;go_ret;exact⟨rfl,rfl⟩
theorem Qh{q:Nat}(hb:w.heap[p]? = some (.cells #[lkP q] 348 (0,0))):Calls prog 244 #[lkP p,.int .u32 0] w fun e w'=>e=.returned (.int .i64 0)∧w=w':=zaV hb (s:=0) (by omega)
theorem KW{q:Nat}(hb:w.heap[p]? = some (.cells #[lkP q] 348 (0,0))){s:Nat}(hs:s<4194304):Calls prog 244 #[lkP p,.int .u32 s] w fun e w'=>e=.returned (.int .i64 0)∧w=w':=by
 have:=zaV hb (s:=s) (by omega);rw[zk hs]at this;exact this
theorem zcd(h:xe w D p xs){s:Nat}(hs:s<4194304):Calls prog 179 #[lkP p,.int .u32 s] w fun e w'=>e=.returned (.bool (decide (s∈xs)))∧w=w':=by
  obtain⟨q,N,Dl,hb,hl,hd⟩:=h;have HC:=za (KW hb hs);have HO:=za (zbL hl (n:=s) (by omega));clear hl hd;obtain⟨hb_0,hb_f,hb_l,H_hb⟩:=cr1 hb;clear hb;by_cases h:s∈xs
  · have e0:decide (s∈xs)=true:=zP h
    rw[e0];have HI:=za h;clear h e0;go_enter func179,ntmps179
    go_wp2_with (first
      | (go_at_call 244;refine HC.out.mono ?_;rintro e w' ⟨rfl,rfl⟩)
      | (go_at_call 245;refine HO.out.mono ?_;rintro e w' ⟨⟨k,l,hl,hm,rfl⟩ | ⟨hn,_⟩,rfl⟩;rotate_left 1;exact absurd (Qc.2 HI.out) hn))
    go_ret;exact⟨rfl,rfl⟩
  · have e0:decide (s∈xs)=false:=zR h
    rw[e0];have HI:=za h;clear h e0;go_enter func179,ntmps179
    go_wp2_with (first
      | (go_at_call 244;refine HC.out.mono ?_;rintro e w' ⟨rfl,rfl⟩)
      | (go_at_call 245;refine HO.out.mono ?_;rintro e w' ⟨⟨k,l,hl,hm,rfl⟩ | ⟨hn,er,hne,rfl⟩,rfl⟩;exact absurd (Qc.1 ⟨k,l,hl,hm⟩) HI.out;have he0:(er==0)=false:=(by simpa using hne)))
    go_ret;exact⟨rfl,rfl⟩
theorem zeT(h:xe w D p xs):Calls prog 249 #[lkP p] w fun e w'=>e=.returned (.int .i64 xs.length)∧w=w':=by
  obtain⟨q,N,Dl,hb,hl,hd⟩:=h;have HC:=za (Qh hb);have HL:=za (zcu hl (k:=0) rfl);clear hl hd;obtain⟨hb_0,hb_f,hb_l,H_hb⟩:=cr1 hb;clear hb;go_enter func249,ntmps249
  go_wp2_with (first
    | (go_at_call 244;refine HC.out.mono ?_;rintro e w' ⟨rfl,rfl⟩)
    | (go_at_call 298;refine HL.out.mono ?_;rintro e w' ⟨rfl,rfl⟩))
  go_ret;exact⟨rfl,rfl⟩
theorem zad(h:xe w D p xs){s:Nat}(hs:s∈xs):Calls prog 246 #[lkP p,.int .u32 s] w fun e w'=>e=.returned (.int .i64 0)∧xe w' D p (xs.erase s)∧Mod D w w':=by
  have hs4:=h.law.2.1 s hs;have HH:=za (zcd h hs4);rw[zP hs]at HH;obtain⟨q,N,Dl,hb,hl,hd⟩:=h;have HC:=za (KW hb hs4);have HR:=za (zaM hl (k:=0) rfl hs);have HN:=za (Vy hb hl);have HD:=za hd;have HB:=za hb;clear hl hd hs4 hs;obtain⟨hb_0,hb_f,hb_l,H_hb⟩:=cr1 hb;clear hb;go_enter func246,ntmps246
  go_wp2_with (first
    | (go_at_call 244;refine HC.out.mono ?_;rintro e w' ⟨rfl,rfl⟩)
    | (go_at_call 179;refine HH.out.mono ?_;rintro e w' ⟨rfl,rfl⟩)
    | (go_at_call 295;refine HR.out.mono ?_;rintro e w1 ⟨rfl,hl1,hm1⟩))
  go_ret;exact⟨rfl,⟨q,N,Dl,hm1.heap HN.out HB.out,hl1,HD.out⟩,hm1.mono (fun k _ hk=>(HD.out k).2 (.inr hk))⟩
end
section
variable{w w':World}{D S:Nat→Prop}{p:Nat}{xs:List Nat}
theorem zhE{N:Nat}(hN:1≤N)(hN2:N≤4194304)(w:World):Calls prog 339 #[.int .i64 N] w fun e w' => ∃ g,e=.returned (.slice (some ⟨g,0,none⟩) N N)∧zo w' (.slice (some ⟨g,0,none⟩) N N) 1 (zX (List.range N))∧zc w w':=by
 obtain⟨i0,hi,iz0,iz1,iz2⟩:=xG qt;have hmk : ∀ W:World,(Instr.makeSlice 213 (.int .i64 (N:Int)) (.int .i64 (N:Int))).run prog W=.ok (.slice (some ⟨W.heap.size,0,none⟩) N N) (W.alloc (.cells (zX (vo N 0)).toArray 143)):=fun W=>by
  exact Azavs
 clear hi iz0 iz1 iz2;go_enter func339,ntmps339;go_upto_region 3 with fail
 have hal:zc w (w.alloc (.cells (zX (vo N 0)).toArray 143)):=(Mod.refl _ w).alloc _;have hr0:=zj (w:=w) (o := .cells (zX (vo N 0)).toArray 143 (0,0)) rfl;have HAL:=za hal;have HR0:=za hr0;clear hal hr0 hmk;generalize w.alloc (.cells (zX (vo N 0)).toArray 143)=W1 at *;obtain⟨g,hg⟩:=zf w.heap.size;rw[hg]at HR0 ⊢;have HG:=za hg;clear hg;go_loopw [9] (fun v wr => ∃ i,v=.int .i64 (i:Nat)∧i≤N∧zc w wr∧wr.heap[g]? = some (.cells (zX (vo N i)).toArray 143 (0,0))) (fun v _=>N-(intOf v).toNat)
 case atStart=>exact⟨0,rfl,yi _,HAL.out,HR0.out⟩
 case round =>
  clear HAL HR0;obtain⟨i,rfl,hi,hpu,hrw⟩:=hrel;have HPU:=za hpu;have HRW:=za hrw;clear hpu hrw;by_cases hlt2:i<N
  ·have hlt':(i:Int)<(N:Int):=by omega
   exact Azuwg
  ·have e:N=i:=by omega
   subst e;have hrd:zo wr (.slice (some ⟨g,0,none⟩) N N) 1 (zX (List.range N)):=by
    exact Azh2a
   have HRD:=za hrd;have hge:(N:Int)≤(N:Int):=Int.le_refl _;clear hrd;go_wp2;go_ret;exact⟨g,rfl,HRD.out,HPU.out⟩
theorem zfD{q N:Nat}{Dl:Nat→Prop}(hb:w.heap[p]? = some (.cells #[lkP q] 348 (0,0)))(hl:ym w Dl q N [xs]){s:Nat}(hs:s<4194304) :
  Calls prog 296 #[lkP p,.int .u32 s] w fun e w'=>e=.returned (.tuple #[]) ∧ ∃ N' Dl',ym w' Dl' q N' [xs]∧s<N'∧Mod Dl w w' ∧ ∀ k,Dl' k→Dl k∨w.heap.size≤k:=by
 obtain⟨l4,l5,l6⟩:=hl.lenH;have HNo:=za (QH hl);have HL:=za hl;have HNP:=za (Vy hb hl);clear hl l4;have wn:IntKind.i64.wrap (s:Int)=(s:Int):=zt _ (by omega);obtain⟨hb_0,hb_f,hb_l,H_hb⟩:=cr1 hb;clear hb;by_cases c:s<N
 ·have d1:decide ((N:Int)≤(s:Int))=false:=zR (by omega);have d1n:decide (N≤s)=false:=zR (by omega);go_enter func296,ntmps296
  go_wp2_with (go_at_call 337;refine HNo.out.mono ?_;rintro e w' ⟨rfl,rfl⟩)
  go_end0
  exact⟨rfl,N,Dl,HL.out,c,Mod.refl _ _,fun k hk => .inl hk⟩
 ·have d1:decide ((N:Int)≤(s:Int))=true:=zP (by omega);have d1n:decide (N≤s)=true:=zP (by omega);have w2:IntKind.i64.wrap (2*(N:Int))=2*(N:Int):=zt _ (by omega);have w3:IntKind.i64.wrap ((s:Int)+1)=(s:Int)+1:=zt _ (by omega);have HSa:=za (fun W=>zhE l6 l5 W);go_enter func296,ntmps296;go_upto_region 2 with(go_at_call 337;refine HNo.out.mono ?_;rintro e w' ⟨rfl,rfl⟩)
  have hren : ∀(wr:World) (g:Nat) (M:Int),zc w wr→zo wr (.slice (some ⟨g,0,none⟩) N N) 1 (zX (List.range N))→(N:Int)≤M→M≤4194304→(s:Int)<M→Calls prog 338 #[lkP q,.slice (some ⟨g,0,none⟩) N N,.int .i64 M] wr fun e w'=>e=.returned (.int .i64 0) ∧ ∃ N' Dl',ym w' Dl' q N' [xs]∧s<N'∧Mod Dl w w' ∧ ∀ k,Dl' k→Dl k∨w.heap.size≤k:=fun wr g M hpu hrd h1 h2 h3=>by
   obtain⟨M,rfl⟩:=Int.eq_ofNat_of_zero_le (show 0≤M by omega);refine(zaI (HL.out.pure hpu) (by simp) (some ⟨g,0,none⟩) N hrd (M:=M) (by omega) (by omega)).mono ?_;rintro e w' ⟨he,⟨D',g1,g2⟩,g3⟩;have hq:=HL.out.self;refine⟨he,M,D',g1,by omega,(Mod.of_pure hpu).trans (g3.mono (fun k _ hk=>by rw[hk];exact hq)),fun k hk => ?_⟩;rcases g2 k hk with e | e
   ·exact .inl (by rw[e];exact hq)
   ·exact .inr (zH hpu.size e)
  have HRen:=za hren;clear hren;obtain⟨m1,hm1⟩ : ∃ m1:Int,(if 2*(N:Int)<(s:Int)+1 then(s:Int)+1 else 2*(N:Int))=m1:=⟨_,rfl⟩;have hm2:(N:Int)≤m1∧(s:Int)<m1:=by split at hm1<;>omega
  obtain⟨M,hM⟩ : ∃ M:Int,(if m1<4194304 then m1 else(4194304:Int))=M:=⟨_,rfl⟩;have hM1:(N:Int)≤M∧M≤4194304∧(s:Int)<M:=by split at hM<;>omega
  have HM:=za hM1;have HM0:=za hM;have HM2:=za hm1;clear hM1 hM hm2 hm1;refine rHd (S:=fun u=>u.cell? ⟨p,0,none⟩=some (lkP q)) (by exact hb_0) (fun h_ => ?_);refine hTk 0 ?_;refine hTk 1 ?_;refine hTk 2 ?_;refine hLd 3 ?_;refine hTk 4 ?_;refine hTk 6 ?_;refine hTk 7 ?_;refine hTk 8 ?_;refine hTk 9 ?_;refine hTk 10 ?_;refine hTk 11 ?_;rw[HM2.out];refine hTk 12 ?_;rw[HM0.out]
  (refine hSt 5 (fun K hK => ?_);go_simp;refine(HSa.out _).mono ?_;rintro e w1 ⟨g,rfl,hrd,hp1⟩;refine hK.out _ _ ?_ (fun h_ => ?_);(· exact hp1.cell (fun h=>h) hb_0);clear hK K;refine clA ?_)
  (refine hSt 13 (fun K hK => ?_);go_simp;refine(HRen.out _ _ _ (Mod.of_drew hp1) hrd HM.out.1 HM.out.2.1 HM.out.2.2).mono ?_;rintro e w2 ⟨rfl,N',Dl',q1,q2,q3,q4⟩;refine hK.out _ _ ?_ (fun h_ => ?_);(· exact q3.cell HNP.out hb_0);clear hK K;refine clA ?_)
  refine hDn ?_;clear h_;go_wp2
  go_end0
  exact⟨rfl,N',Dl',q1,q2,q3,q4⟩
theorem Qq(h:xe w D p xs){s:Nat}(hs:s<4194304)(hn:s∉xs) :
    Calls prog 247 #[lkP p,.int .u32 s] w fun e w'=>e=.returned (.int .i64 0)∧(∃ D',xe w' D' p (xs++[s]) ∧ ∀ k,D' k→D k∨w.heap.size≤k)∧Mod D w w':=by
  obtain⟨q,N,Dl,hb,hl,hd⟩:=h;have HC:=za (KW hb hs);have HRo:=za (zfD hb hl hs);have HN:=za (Vy hb hl);have HD:=za hd;have HB:=za hb;have HNI:Hid (¬ inL [xs] s):=fun h=>hn (Qc.1 h)
  clear hl hd hs hn;go_enter func247,ntmps247;go_upto_region 5 with(first
    | (go_at_call 244;refine HC.out.mono ?_;rintro e w' ⟨rfl,rfl⟩)
    | (go_at_call 296;refine HRo.out.mono ?_;rintro e w1 ⟨rfl,N',Dl',hl1,hs1,hm1,hg1⟩))
  have hb1:=hm1.heap HN.out HB.out;have HBa:=za (KG hl1 (k:=0) hs1 rfl HNI.out);have HN1:=za (Vy hb1 hl1);have HM1:=za hm1;have HG1:=za hg1;clear hl1 hs1 hm1 hg1 hb;obtain⟨hb1_0,hb1_f,hb1_l,H_hb1⟩:=cr1 hb1;clear hb1
  go_wp2_with (go_at_call 297;refine HBa.out.mono ?_;rintro e w2 ⟨rfl,hl2,hm2⟩)
  go_ret;refine⟨rfl,⟨fun k=>k=p∨Dl' k,⟨q,N',Dl',hm2.heap HN1.out H_hb1.out,hl2,fun _=>vP⟩,fun k hk => ?_⟩,?_⟩
  · rcases hk with rfl | e
    · exact .inl ((HD.out _).2 (.inl rfl))
    · rcases HG1.out k e with e | e
      · exact .inl ((HD.out _).2 (.inr e))
      · exact .inr e
  · refine Mod.trans' HM1.out hm2 (fun i _ hi=>(HD.out i).2 (.inr hi)) (fun i hi hk => ?_)
    rcases HG1.out i hk with e | e
    · exact(HD.out i).2 (.inr e)
    · omega
theorem zi1{N:Nat}{Ls:List (List Nat)}{gF gL cF cL:Nat}{F:List Nd}(h:xf w p gF gL cF cL N Ls F){n:Nat}(hn:n<N):Calls prog 342 #[lkP p,.int .u32 n] w fun e w'=>e=.returned (.tuple #[.int .u32 n,.int .i64 0])∧w=w':=by
 have hb:=h.box;have d1:decide ((N:Int)≤(n:Int))=false:=zR (by omega);have d1n:decide (N≤n)=false:=zR (by omega);have hnm:=h.nm;have wn:IntKind.i64.wrap (n:Int)=(n:Int):=zt _ (by omega);clear h;generalize F.length=fl at *;generalize Ls.length=ll at *;obtain⟨hb_0,hb_1,hb_2,hb_f,hb_l,H_hb⟩:=cr3 hb;clear hb;go_enter func342,ntmps342;go_wp2;go_ret2;exact⟨rfl,rfl⟩
theorem zdV{Dl:Nat→Prop}{q N:Nat}{x:Nat}{l:List Nat}(h:ym w Dl q N [x::l]):Calls prog 300 #[lkP q,.int .i64 0] w fun e w'=>e=.returned (.tuple #[.int .u32 x,.int .i64 0])∧zc w w':=by
 obtain⟨gF,gL,cF,cL,F,h,h2⟩:=h;have HLi:=za (VO h (k:=0) (by simp));have HRi:=za (fun(W:World) (hW:zc w W)=>J9 (h.pure hW) (k:=0) (by omega));have HRe:=za (fun(W:World) (hW:zc w W)=>zi1 (h.pure hW) (n:=x) (h.ok.own 0 _ rfl x (by simp)).1);have hNF:N+0<F.length:=h.ok.hd_lt (by simp);obtain⟨c0,c1,c2⟩:=h.at_ (i:=N+0) hNF;rw[(h.ok.ring 0 _ rfl).at_ (i:=0) (x:=N+0) (y:=x) rfl rfl]at c1;have hb:=h.box;obtain⟨FL,hFL⟩:=zf F.length;rw[hFL]at hb hNF;simp only[Nat.add_zero]at hNF c1;have dr:decide (N<FL)=true:=zP hNF;have hN4:=h.nm;clear h h2 c0 c2;obtain⟨hb_0,hb_1,hb_2,hb_f,hb_l,H_hb⟩:=cr3 hb;clear hb;go_enter func300,ntmps300;go_upto_region 4 with(go_at_call 341;refine HLi.out.mono ?_;rintro e w' ⟨rfl,rfl⟩)
 refine rHd (S:=fun u=>u=w.drew) rfl (fun h_ => ?_);refine hTk 0 ?_;refine hTk 1 ?_;refine hTk 2 ?_;refine hTk 3 ?_;refine hTk 5 ?_;refine hTk 6 ?_;refine hLd 4 ?_
 (refine hSt 7 (fun K hK => ?_);go_simp;refine zq (HRi.out _ ((Mod.refl _ w).drew)) ?_;rintro e w1 ⟨rfl,rfl⟩;refine hK.out _ _ ?_ (fun h_ => ?_);(· rfl);clear hK K;refine clA ?_)
 refine hTk 8 ?_;refine hTk 9 ?_;refine hLd 10 ?_
 (refine hSt 11 (fun K hK => ?_);go_simp;refine zq (HRe.out _ ((Mod.refl _ w).drew)) ?_;rintro e w2 ⟨rfl,rfl⟩;refine hK.out _ _ ?_ (fun h_ => ?_);(· rfl);clear hK K;refine clA ?_)
 refine hTk 12 ?_;refine hTk 13 ?_;refine hTk 14 ?_;refine hTk 15 ?_;refine hDn ?_;clear h_;go_wp2;go_ret2;exact⟨rfl,(Mod.refl _ w).drew⟩
theorem zgD{q N:Nat}{Dl:Nat→Prop}{x:Nat}{l:List Nat}(hb:w.heap[p]? = some (.cells #[lkP q] 348 (0,0)))(hl:ym w Dl q N [x::l]):Calls prog 299 #[lkP p,.func (.func 300) #[] #[]] w fun e w'=>e=.returned (.tuple #[.int .u32 x,.int .i64 0])∧zc w w':=by
  have HC:=za (Qh hb);have HF:=za (zdV hl);clear hl;obtain⟨hb_0,hb_f,hb_l,H_hb⟩:=cr1 hb;clear hb;go_enter func299,ntmps299
  go_wp2_with (first
    | (go_at_call 244;refine HC.out.mono ?_;rintro e w' ⟨rfl,rfl⟩)
    | (go_at_call 300;refine HF.out.mono ?_;rintro e w' ⟨rfl,hp⟩))
  go_ret2;exact⟨rfl,hp⟩
theorem zgv{x:Nat}{l:List Nat}(h:xe w D p (x::l)):Calls prog 250 #[lkP p] w fun e w'=>e=.returned (.tuple #[.int .u32 x,.int .i64 0])∧zc w w':=by
 obtain⟨q,N,Dl,hb,hl,hd⟩:=h;have HE:=za (zgD hb hl);clear hl hd hb;go_enter func250,ntmps250
 go_wp2_with (go_at_call 299;refine HE.out.mono ?_;rintro e w' ⟨rfl,hp⟩)
 go_ret2;exact⟨rfl,hp⟩
def JF(w:World)(l:List Nat)(e:Ending)(w':World):Prop :=
 ∃ B a c,e=.returned (.func (.func 319) #[] #[.pointer (some ⟨B,0,none⟩)])∧kR w' B a c l∧zc w w'∧w.heap.size≤B∧xp w (.slice a l.length c)
theorem zfh{q N:Nat}{Ls:List (List Nat)}(h:ym w D q N Ls){k:Nat}{l:List Nat}(hl:Ls[k]? = some l)(hll:l.length≤4194304):Calls prog 268 #[lkP q,.int .i64 k] w (JF w l):=by
  have HA:=za (KP h hl);obtain⟨n,hn⟩:=zf l.length;rw[hn]at HA hll;have HN:=za hn;clear h hl hn;obtain⟨i0,hi,iz0,iz1,iz2⟩:=xG qt;go_enter func268,ntmps268;go_upto_region 2 with(first
    | (go_at_call 318;refine HA.out.mono ?_;rintro e w1 ⟨a,c,rfl,hrow,hfr,hp1⟩;have hrd:=qB hrow;rw[HN.out]at hrd;have HRD:=za hrd;have HP1:=za hp1;clear hrow hfr hp1 hrd)
    | (at_builtin;refine uK _ rfl _ _ 213 rfl 143 i0 _ 1 4 underlying213 hi iz0 iz1 iz2 rfl (by decide) (.slice none 0 0) 0 [] rfl (vJ _ _ _ _) _ (zX l) n rfl HRD.out (by rw[qq,HN.out];omega) (by unfold maxLen;omega) (by omega) ?_;intro a7 c7 w5 hr7 hg7 hb7))
  have hp5:zc w1 w5:=Mod.of_grown hg7 (fun k e _=>by cases e);have hr:=hr7;rw[qn,Yt]at hr;have hal:zc w5 (w5.alloc (.cells #[.slice a7 n c7] 213)):=(Mod.refl _ w5).alloc _;have hbx:=zj (w:=w5) (o := .cells #[.slice a7 n c7] 213 (0,0)) rfl;have hs1:=HP1.out.size;have hs5:=hp5.size;have hf7:xp w (.slice a7 n c7):=fun g hg=>by
    rw[qn]at hb7;rcases hb7 with e | e
    · rw[e]at hg;cases hg
    · rw[e]at hg;cases hg;exact hs1
  have HE:Hid (JF w l (.returned (.func (.func 319) #[] #[.pointer (some ⟨w5.heap.size,0,none⟩)])) (w5.alloc (.cells #[.slice a7 n c7] 213))):=za
    ⟨w5.heap.size,a7,c7,rfl,⟨by rw[HN.out];exact hbx,by unfold yw;rw[HN.out];exact zy hr hal (fun _ _ h=>h)⟩,(HP1.out.trans hp5).trans hal,by omega,by rw[HN.out];exact hf7⟩
  clear hr hr7 hg7 hb7 hp5 hal hbx hs1 hs5 hf7;go_wp2;go_ret;exact HE.out
theorem zg8(h:xe w D p xs):Calls prog 204 #[lkP p] w (JF w xs):=by
  have hlen:=h.law.2.2;obtain⟨q,N,Dl,hb,hl,hd⟩:=h;have HC:=za (Qh hb);have HA:=za (zfh hl (k:=0) rfl hlen);clear hl hd hlen;obtain⟨hb_0,hb_f,hb_l,H_hb⟩:=cr1 hb;clear hb;go_enter func204,ntmps204
  go_wp2_with (first
    | (go_at_call 244;refine HC.out.mono ?_;rintro e w' ⟨rfl,rfl⟩)
    | (go_at_call 268;refine HA.out.mono ?_;rintro e w1 ⟨B,a,c,rfl,h1,h2,h3,h4⟩))
  go_ret;exact⟨B,a,c,rfl,h1,h2,h3,h4⟩
end
end
section
open Go.RowKit Go.Maps
structure Wt where
 slot:Nat
 cost:Nat
def cD(c:Nat):DataW Unit := .lit (.int .i64 c)
def jx(v:Value):Option (DataW Unit × List MemPlace):=match v with
 | .int .i64 a=>if 0≤a then some (.lit (.int .i64 a),[])else none
 | _=>none
theorem X4(s:Nat):jx (.int .i64 s)=some (.lit (.int .i64 s),[]):=by
 unfold jx;simp
theorem JW{v:Value}{z:DataW Unit × List MemPlace}(h:jx v=some z) : ∃ s:Nat,v=.int .i64 s∧z=(.lit (.int .i64 s),[]):=by
 unfold jx at h;exact Azlqe
theorem U0{a b:Nat}(h:(DataW.lit (.int .i64 a):DataW Unit)=.lit (.int .i64 b)):a=b:=by
 injection h with h;injection h with _ h;exact kH.1 h
structure xE(w:World)(b:Nat)(M:List Wt)(D:DataW Unit):Prop where
 own:w.ownsMap prog 143 jx b M.length D
 at_ : ∀ x∈M,∀ zd,D.atKey (kS x.slot) zd=cD x.cost
 has : ∀ s,Maps.has D (kS s)=true → ∃ x∈M,x.slot=s
 size:Maps.size D=M.length
section
variable{w w':World}{b:Nat}{M:List Wt}{D:DataW Unit}{S:Nat→Prop}
theorem xE.mod(h:xE w b M D)(hm:Mod S w w')(hb : ¬ S b):xE w' b M D:=⟨Yr h.own hm hb,h.at_,h.has,h.size⟩
theorem xE.new(w:World):xE (w.alloc (.map #[] 0)) w.heap.size [] (.map []):=⟨YZ _ _ _ _,(fun _ h=>by cases h),(fun s h=>by cases h),rfl⟩
theorem xE.perm{M':List Wt}(h:xE w b M D)(hp:M.Perm M'):xE w b M' D :=
 ⟨by rw[← hp.length_eq];exact h.own,fun x hx=>h.at_ x (hp.mem_iff.2 hx),fun s hs=>by obtain⟨x,hx,e⟩:=h.has s hs;exact⟨x,hp.mem_iff.1 hx,e⟩,by rw[← hp.length_eq];exact h.size⟩
theorem xE.has_mem(h:xE w b M D){x:Wt}(hx:x∈M):Maps.has D (kS x.slot)=true:=Maps.has_true_of_atKey (h.at_ x hx)
theorem xE.not_has(h:xE w b M D){s:Nat}(hs : ∀ x∈M,x.slot≠s):Maps.has D (kS s)=false:=by
 exact Az5du
theorem KF(w:World):(zeroValue 3).run prog w=.ok (.int .i64 (0:Nat)) w:=by kernel_rfl
theorem xE.look(h:xE w b M D){x:Wt}(hx:x∈M)(hs:x.slot≤4294967295):(Instr.lookup 209 (.map (some b)) (.int .u32 x.slot) true).run prog w=.ok (.tuple #[.int .i64 x.cost,.bool true]) w:=by
 obtain⟨v,ps,hrun,hv⟩:=h.own.look_ok x9 underlying209 (KF w) (X4 _) (uH hs);rw[h.at_ x hx]at hv;obtain⟨y,rfl,e⟩:=JW hv;have:=U0 (congrArg Prod.fst e);subst this;rw[hrun,h.has_mem hx]
theorem xE.look_no(h:xE w b M D){s:Nat}(hs:s≤4294967295)(hn : ∀ x∈M,x.slot≠s):(Instr.lookup 209 (.map (some b)) (.int .u32 s) true).run prog w=.ok (.tuple #[.int .i64 0,.bool false]) w:=by
 obtain⟨v,ps,hrun,hv⟩:=h.own.look_ok x9 underlying209 (KF w) (X4 _) (uH hs);have h0:=h.not_has hn;rw[Maps.atKey_of_not_has h0]at hv;obtain⟨y,rfl,e⟩:=JW hv;have:=U0 (congrArg Prod.fst e);subst this;rw[hrun,h0]
 rfl
theorem xE.look1(h:xE w b M D){x:Wt}(hx:x∈M)(hs:x.slot≤4294967295):(Instr.lookup 209 (.map (some b)) (.int .u32 x.slot) false).run prog w=.ok (.int .i64 x.cost) w:=by
 obtain⟨v,ps,hrun,hv⟩:=h.own.lookup x9 underlying209 (KF w) (X4 _) (uH hs);rw[h.at_ x hx]at hv;obtain⟨y,rfl,e⟩:=JW hv;have:=U0 (congrArg Prod.fst e);subst this;exact hrun
theorem xE.put{x:Wt}(h:xE w b M D)(hn : ∀ y∈M,y.slot≠x.slot)(ho:w'.ownsMap prog 143 jx b (M.length+1) (D.put (kS x.slot) (cD x.cost))):xE w' b (x::M) (D.put (kS x.slot) (cD x.cost)):=by
 exact Az9f5
theorem xE.del{x:Wt}{M':List Wt}(h:xE w b M D)(hx:x∈M)(hM : ∀ y,y∈M'↔y∈M∧y.slot≠x.slot)(hl:M'.length+1=M.length){n:Nat}(ho:w'.ownsMap prog 143 jx b n (D.del (kS x.slot))):xE w' b M' (D.del (kS x.slot)):=by
 exact Aznj3
end
def zA(A:List Wt):List Nat:=A.map Wt.slot
def zw(A:List Wt):Nat:=(A.map Wt.cost).sum
structure SgL(A B:List Wt):Prop where
 nd:(zA (A++B)).Nodup
 rng : ∀ x∈A++B,x.slot<4194304∧x.cost≤1099511627776
theorem vT(A B:List Wt):zw (A++B)=zw A+zw B:=by unfold zw;simp
theorem kj(x:Wt)(B:List Wt):zw (x::B)=x.cost+zw B:=by unfold zw;simp
theorem qk:zw []=0:=rfl
theorem Xj(A B:List Wt):zA (A++B)=zA A++zA B:=by unfold zA;simp
theorem zeq{A B:List Wt}(h:A.Perm B):zw A=zw B:=(h.map Wt.cost).sum_nat
theorem XC{A:List Wt}(h : ∀ x∈A,x.cost≤1099511627776):zw A≤A.length*1099511627776:=by
 induction A with
 | nil=>exact yi _
 | cons a A ih =>
  have h1:=h a yE;have h2:=ih (fun x hx=>h x (yH _ hx));rw[kj,kz];omega
theorem SgL.len{A B:List Wt}(h:SgL A B):(A++B).length≤4194304:=by
 have:=qZ h.nd (N:=4194304) (fun a ha=>by obtain⟨x,hx,rfl⟩:=zz.1 ha;exact(h.rng x hx).1);unfold zA at this;rw[yn]at this;exact this
theorem SgL.sums{A B:List Wt}(h:SgL A B):zw A+zw B≤4611686018427387904:=by
 have h1:=XC (A:=A++B) (fun x hx=>(h.rng x hx).2);have h2:=h.len;rw[vT]at h1;have:(A++B).length*1099511627776≤4194304*1099511627776:=Xn _ h2;omega
def zx(A:List Wt)(s:Nat):List Wt:=A.filter (fun x=>decide (x.slot≠s))
theorem ZK{A:List Wt}{s:Nat}(h : ∀ x∈A,x.slot≠s):zx A s=A:=by
 unfold zx;exact ju.2 (fun x hx=>by simpa using h x hx)
theorem j5{A:List Wt}{s:Nat}{y:Wt}:y∈zx A s↔y∈A∧y.slot≠s:=by unfold zx;simp
theorem qu(A B:List Wt)(s:Nat):zx (A++B) s=zx A s++zx B s:=by unfold zx;simp
theorem zcQ{A:List Wt}(h:(zA A).Nodup)(s:Nat):zA (zx A s)=(zA A).erase s:=by
 rw[h.erase_eq_filter];unfold zA zx;rw[List.filter_map]
 congr 1
 apply XS;intro x _;by_cases e:x.slot=s<;>simp[bne,e]
theorem zcR{A:List Wt}(h:(zA A).Nodup){x:Wt}(hx:x∈A):A.Perm (x::zx A x.slot):=by
 induction A with
 | nil=>cases hx
 | cons a A ih =>
  have h':a.slot∉zA A∧(zA A).Nodup:=yO.1 h;rcases zO.1 hx with rfl | hx
  ·have e:zx (x::A) x.slot=A:=by
    unfold zx;rw[List.filter_cons_of_neg (by simp)];exact ZK (fun y hy e=>h'.1 (zz.2 ⟨y,hy,e⟩))
   rw[e]
  ·have hne:a.slot≠x.slot:=fun e=>h'.1 (zz.2 ⟨x,hx,e.symm⟩)
   have e:zx (a::A) x.slot=a::zx A x.slot:=by
    unfold zx;rw[List.filter_cons_of_pos (by simpa using hne)]
   rw[e];exact((ih h'.2 hx).cons a).trans (List.Perm.swap x a _)
theorem zcG{A:List Wt}(h:(zA A).Nodup){x:Wt}(hx:x∈A):zw A=x.cost+zw (zx A x.slot):=by
 rw[zeq (zcR h hx),kj]
theorem zaE{A:List Wt}(h:(zA A).Nodup){x:Wt}(hx:x∈A):A.length=(zx A x.slot).length+1:=by
 rw[(zcR h hx).length_eq,kz]
@[go_sem] theorem zlm (w : World) (r : Option Nat) : (binOp .eql 209 (.map r) (.map none)).run prog w=.ok (.bool r.isNone) w := run_eql_map_nil w _ _ _ r underlying209
structure yN(w:World)(D:Nat→Prop)(o l0 l1 bm:Nat)(lim:Int)(D0 D1:Nat→Prop)(Dm:DataW Unit)(A B:List Wt):Prop where
 box:w.heap[o]? = some (.cells #[lkP l0,lkP l1,.int .i64 (zw A:Nat),.int .i64 (zw B:Nat),.map (some bm),.int .i64 lim] 211 (0,0))
 q0:xe w D0 l0 (zA A)
 q1:xe w D1 l1 (zA B)
 costs:xE w bm (A++B) Dm
 ne:o≠bm ∧ ¬ D0 o ∧ ¬ D1 o ∧ ¬ D0 bm ∧ ¬ D1 bm ∧ ∀ k,D0 k → ¬ D1 k
 law:SgL A B
 dd : ∀ k,D k↔(k=o∨k=bm∨D0 k∨D1 k)
def yY(w:World)(D:Nat→Prop)(o:Nat)(lim:Int)(A B:List Wt):Prop := ∃ l0 l1 bm D0 D1 Dm,yN w D o l0 l1 bm lim D0 D1 Dm A B
section
variable{w w':World}{D S:Nat→Prop}{o l0 l1 bm:Nat}{lim:Int}{D0 D1:Nat→Prop}{Dm:DataW Unit}{A B:List Wt}
theorem yN.frame(h:yN w D o l0 l1 bm lim D0 D1 Dm A B)(hm:Mod S w w')(hd : ∀ k,D k → ¬ S k):yN w' D o l0 l1 bm lim D0 D1 Dm A B :=
 ⟨hm.heap (hd o ((h.dd o).2 (.inl rfl))) h.box,h.q0.frame hm (fun k hk=>hd k ((h.dd k).2 (.inr (.inr (.inl hk))))),h.q1.frame hm (fun k hk=>hd k ((h.dd k).2 (.inr (.inr (.inr hk))))),h.costs.mod hm (hd bm ((h.dd bm).2 (.inr (.inl rfl)))),h.ne,h.law,h.dd⟩
theorem yN.pure(h:yN w D o l0 l1 bm lim D0 D1 Dm A B)(hm:zc w w'):yN w' D o l0 l1 bm lim D0 D1 Dm A B:=h.frame hm (fun _ _ h=>h)
theorem yN.lt(h:yN w D o l0 l1 bm lim D0 D1 Dm A B){k:Nat}(hk:D k):k<w.heap.size:=by
 rcases(h.dd k).1 hk with rfl | rfl | e | e
 ·exact zm h.box
 ·exact h.costs.own.lt
 ·exact h.q0.lt e
 ·exact h.q1.lt e
theorem yY.frame(h:yY w D o lim A B)(hm:Mod S w w')(hd : ∀ k,D k → ¬ S k):yY w' D o lim A B:=by
 obtain⟨l0,l1,bm,D0,D1,Dm,h⟩:=h;exact⟨l0,l1,bm,D0,D1,Dm,h.frame hm hd⟩
theorem yY.pure(h:yY w D o lim A B)(hm:zc w w'):yY w' D o lim A B:=h.frame hm (fun _ _ h=>h)
theorem yY.lt(h:yY w D o lim A B){k:Nat}(hk:D k):k<w.heap.size:=by
 obtain⟨l0,l1,bm,D0,D1,Dm,h⟩:=h;exact h.lt hk
theorem yY.self(h:yY w D o lim A B):D o:=by
 obtain⟨l0,l1,bm,D0,D1,Dm,h⟩:=h;exact(h.dd o).2 (.inl rfl)
theorem yY.law(h:yY w D o lim A B):SgL A B:=by
 obtain⟨l0,l1,bm,D0,D1,Dm,h⟩:=h;exact h.law
theorem KQ(h:yN w D o l0 l1 bm lim D0 D1 Dm A B){s:Nat}(hs:s<4194304){c:Nat}(hc:c≤1099511627776):Calls prog 114 #[lkP o,.int .u32 s,.int .i64 c] w fun e w'=>e=.returned (.int .i64 0)∧w=w':=by
 have hb:=h.box;have h1 : ¬ ((c:Int)<0):=by omega
 have h2 : ¬ (1099511627776:Int)<(c:Int):=by omega
 have d:decide ((4194304:Int)≤(s:Int))=false:=zR (by omega);have dn:decide (4194304≤s)=false:=zR (by omega);clear h;generalize zw A=sa at *;generalize zw B=sb at *;obtain⟨hb_0,hb_1,hb_2,hb_3,hb_4,hb_5,hb_f,hb_l,H_hb⟩:=cr6 hb;clear hb;go_enter func114,ntmps114;go_wp2;go_ret;exact⟨rfl,rfl⟩
theorem KY(h:yN w D o l0 l1 bm lim D0 D1 Dm A B){s:Nat}(hs:s<4194304):Calls prog 114 #[lkP o,.int .u32 s,.int .i64 0] w fun e w'=>e=.returned (.int .i64 0)∧w=w':=KQ h hs (c:=0) (by omega)
def gOf(B:List Wt)(s:Nat):Nat:=if s∈zA B then 1 else 0
theorem Azce1 {P:Prop}(h:P:=by
 go_wp2_with (go_at_call 179;refine HH.out.mono ?_;rintro e w' ⟨rfl,rfl⟩)
 go_ret;exact⟨rfl,rfl⟩):P:=h
theorem UR(h:yN w D o l0 l1 bm lim D0 D1 Dm A B){s:Nat}(hs:s<4194304):Calls prog 115 #[lkP o,.int .u32 s] w fun e w'=>e=.returned (.int .i64 (gOf B s:Nat))∧w=w':=by
 have hb:=h.box;have HH:=za (zcd h.q1 hs);clear h;generalize zw A=sa at *;generalize zw B=sb at *;unfold gOf;obtain⟨hb_0,hb_1,hb_2,hb_3,hb_4,hb_5,hb_f,hb_l,H_hb⟩:=cr6 hb;clear hb;by_cases c:s∈zA B
 ·rw[zk c];rw[zP c]at HH;go_enter func115,ntmps115;exact Azce1
 ·rw[zh c];rw[zR c]at HH;go_enter func115,ntmps115;exact Azce1
theorem VL(h:yY w D o lim A B){x:Wt}(hx:x∈A++B):Calls prog 77 #[lkP o,.int .u32 x.slot] w fun e w'=>e=.returned (.tuple #[.int .i64 (gOf B x.slot:Nat),.int .i64 x.cost,.int .i64 0])∧w=w':=by
  obtain⟨l0,l1,bm,D0,D1,Dm,h⟩:=h;have hs:=(h.law.rng x hx).1;have HC:=za (KY h hs);have HO:=za (UR h hs);have hlk:=fun W (hW:zc w W)=>((h.pure hW).costs).look hx (by omega)
  have hlw:=hlk w (Mod.refl _ w);have hlw2:=hlk w.drew (Mod.refl _ w).drew;have hb:=h.box;clear h hx hlk;obtain⟨s,c⟩:=x;dsimp only at *;generalize zw A=sa at *;generalize zw B=sb at *;generalize gOf B s=g at *;obtain⟨hb_0,hb_1,hb_2,hb_3,hb_4,hb_5,hb_f,hb_l,H_hb⟩:=cr6 hb;clear hb;go_enter func77,ntmps77
  go_wp2_with (first
    | (go_at_call 114;refine HC.out.mono ?_;rintro e w' ⟨rfl,rfl⟩)
    | (go_at_call 115;refine HO.out.mono ?_;rintro e w' ⟨rfl,rfl⟩))
  refine zN (v := .tuple #[.int .i64 g,.int .i64 c,.int .i64 0]) (by simp[results,results77,go_sem]) rfl ⟨rfl,rfl⟩
theorem Jf(h:yN w D o l0 l1 bm lim D0 D1 Dm A B){x:Wt}(hs:x.slot<4194304)(hc:x.cost≤1099511627776)(hn:x.slot∉zA (A++B)) :
  Calls prog 181 #[lkP o,.int .i64 0,.int .u32 x.slot,.int .i64 x.cost] w fun e w'=>e=.returned (.tuple #[])∧(∃ D' D0' Dm',yN w' D' o l0 l1 bm lim D0' D1 Dm' (A++[x]) B∧uc D D' w)∧Mod D w w':=by
 have HA:=za (Qq h.q0 hs (fun e=>hn (by rw[Xj];exact xT _ e)));have HH:=za h;have hb:=h.box;have hsum:=h.law.sums;have hlen:=h.law.len;obtain⟨ne1,ne2,ne3,ne4,ne5,ne6⟩:=h.ne;have HN:=za hn;have ob:o<w.heap.size:=zm h.box;have bb:bm<w.heap.size:=h.costs.own.lt;clear h hn;obtain⟨s,c⟩:=x;dsimp only at *;obtain⟨sa,hsa⟩:=zf (zw A);obtain⟨sb,hsb⟩:=zf (zw B);rw[hsa,hsb]at hb hsum;have HSA:=za hsa;have HSB:=za hsb;clear hsa hsb;have ws:IntKind.i64.wrap ((sa:Int)+(c:Int))=(sa:Int)+(c:Int):=zt _ (by omega);obtain⟨hb_0,hb_1,hb_2,hb_3,hb_4,hb_5,hb_f,hb_l,H_hb⟩:=cr6 hb;clear hb;go_enter func181,ntmps181;go_upto_region 1 with(go_at_call 247;refine HA.out.mono ?_;rintro e w1 ⟨rfl,⟨D',hq,hg⟩,hm⟩)
 have hb1:=hm.heap ne2 H_hb.out;have hcm:=HH.out.costs.mod hm ne4;have HM1:=za hm;have HQ1:=za hq;have HG1:=za hg;have HB1:=za hb1;have HC1:=za hcm;have sz1:w.heap.size≤w1.heap.size:=hm.size;clear hb_0 hb_1 hb_2 hb_3 hb_4 hb_5 hb_f hb_l;clear H_hb hm hq hg hcm;obtain⟨hb1_0,hb1_1,hb1_2,hb1_3,hb1_4,hb1_5,hb1_f,hb1_l,H_hb1⟩:=cr6 hb1;clear hb1
 go_still_tail 11,(by kernel_rfl)
 go_upto_region 2 with fail
 obtain⟨Y,hY⟩:=zf ((w1.setCell ⟨o,2,none⟩ (.int .i64 ((sa:Int)+(c:Int)))).drew);have hb2:(w1.setCell ⟨o,2,none⟩ (.int .i64 ((sa:Int)+(c:Int)))).drew.heap[o]? = _:=ya w1 o 2 _ _ (.int .i64 ((sa:Int)+(c:Int))) HB1.out;have hm2:Mod (fun k=>k=o) w1 (w1.setCell ⟨o,2,none⟩ (.int .i64 ((sa:Int)+(c:Int)))).drew:=((Mod.refl (fun k=>k=o) w1).setCell (p:=⟨o,2,none⟩) (fun _=>rfl) _).drew;rw[hY]at hb2 hm2 ⊢;have HC2:=za (HC1.out.mod hm2 (fun e=>ne1 e.symm));have HM2:=za hm2;have HB2:=za hb2;clear hb1_0 hb1_1 hb1_2 hb1_3 hb1_4 hb1_5 hb1_f hb1_l;clear H_hb1 hY hm2;simp only[List.setIfInBounds_toArray,List.set_cons_succ,List.set_cons_zero,Array.setIfInBounds]at hb2;obtain⟨hb2_0,hb2_1,hb2_2,hb2_3,hb2_4,hb2_5,hb2_f,hb2_l,H_hb2⟩:=cr6 hb2;clear hb2;have hMl:(A++B).length<maxLen:=by unfold maxLen;omega
 go_wp2_with (at_mapUpdate;refine Xk _ rfl _ _ _ 209 rfl 143 3 x9 underlying209 jx bm (A++B).length Dm rfl HC2.out.own hMl (.int .u32 s) (.int .i64 c) (kS s) rfl rfl (uH (by omega)) (cD c) [] (X4 c) ?_;intro w4 ho4 hg4;go_frame)
 have hm4:Mod (fun k=>k=bm) Y w4:=Mod.of_grown hg4 (fun k e _=>by cases e;rfl);have hnn : ∀ y∈A++B,y.slot≠s:=fun y hy e=>HN.out (zz.2 ⟨y,hy,e⟩)
 have hT4:=HC2.out.put (x:=⟨s,c⟩) hnn ho4;have hbx4:=hm4.heap (fun e=>ne1 e) HB2.out;have hall:Mod (fun k=>k=o∨k=bm) w1 w4:=Mod.trans' HM2.out hm4 (fun i _ h => .inl h) (fun i _ h => .inr h);have gD : ∀ k,D' k→D0 k∨w.heap.size≤k:=HG1.out;have hDlt : ∀ k,D1 k→k<w.heap.size:=fun k hk=>HH.out.q1.lt hk
 have nD'o : ¬ D' o:=fun hk=>by rcases gD o hk with e | e;exact ne2 e;omega
 have nD'b : ¬ D' bm:=fun hk=>by rcases gD bm hk with e | e;exact ne4 e;omega
 go_end0
 refine⟨rfl,⟨fun k=>k=o∨k=bm∨D' k∨D1 k,D',_,⟨?_,?_,?_,hT4.perm ?_,?_,?_,fun _=>vP⟩,fun k hk => ?_⟩,?_⟩
 ·rw[hbx4];have e1:=HSA.out;have e2:=HSB.out;simp[vT,vT,kj,qk,e1,e2]
 ·have e3:zA (A++[⟨s,c⟩])=zA A++[s]:=by simp[zA]
  rw[e3];exact HQ1.out.frame hall (fun k hk h=>by rcases h with e | e;exact nD'o (e ▸ hk);exact nD'b (e ▸ hk))
 ·exact(HH.out.q1.frame HM1.out (fun k hk h=>ne6 k h hk)).frame hall (fun k hk h=>by rcases h with e | e;exact ne3 (e ▸ hk);exact ne5 (e ▸ hk))
 ·simpa using(List.perm_middle (a:=(⟨s,c⟩:Wt)) (l₁:=A) (l₂:=B)).symm
 ·exact⟨ne1,nD'o,ne3,nD'b,ne5,fun k hk h1=>by rcases gD k hk with e | e;exact ne6 k e h1;have:=hDlt k h1;omega⟩
 ·refine⟨?_,fun y hy => ?_⟩
  ·have hnd:=HH.out.law.nd;have hp:(zA ((A++[(⟨s,c⟩:Wt)])++B)).Perm (s::zA (A++B)):=by
    unfold zA;exact(List.Perm.map Wt.slot (show(((A++[(⟨s,c⟩:Wt)])++B)).Perm ((⟨s,c⟩:Wt)::(A++B))from by simpa using(List.perm_middle (a:=(⟨s,c⟩:Wt)) (l₁:=A) (l₂:=B))))
   exact hp.nodup_iff.2 (yO.2 ⟨HN.out,hnd⟩)
  ·have hy':y=⟨s,c⟩∨y∈A++B:=by simp at hy ⊢;rcases hy with h | h | h;exact .inr (.inl h);exact .inl h;exact .inr (.inr h)
   rcases hy' with rfl | hy'
   ·exact⟨hs,hc⟩
   ·exact HH.out.law.rng y hy'
 ·rcases hk with e | e | e
  ·exact .inl ((HH.out.dd k).2 (.inl e))
  ·exact .inl ((HH.out.dd k).2 (.inr (.inl e)))
  ·rcases e with e | e
   ·rcases gD k e with e | e
    ·exact .inl ((HH.out.dd k).2 (.inr (.inr (.inl e))))
    ·exact .inr e
   ·exact .inl ((HH.out.dd k).2 (.inr (.inr (.inr e))))
 ·refine Mod.trans' HM1.out hall (fun i _ hi=>(HH.out.dd i).2 (.inr (.inr (.inl hi)))) (fun i _ hi=>(HH.out.dd i).2 (by rcases hi with e | e;exact .inl e;exact .inr (.inl e)))
theorem zgk(h:yN w D o l0 l1 bm lim D0 D1 Dm A B){x:Wt}(hs:x.slot<4194304)(hc:x.cost≤1099511627776)(hn:x.slot∉zA (A++B)) :
  Calls prog 181 #[lkP o,.int .i64 1,.int .u32 x.slot,.int .i64 x.cost] w fun e w'=>e=.returned (.tuple #[])∧(∃ D' D1' Dm',yN w' D' o l0 l1 bm lim D0 D1' Dm' A (B++[x])∧uc D D' w)∧Mod D w w':=by
 have HA:=za (Qq h.q1 hs (fun e=>hn (by rw[Xj];exact xM _ e)));have HH:=za h;have hb:=h.box;have hsum:=h.law.sums;have hlen:=h.law.len;obtain⟨ne1,ne2,ne3,ne4,ne5,ne6⟩:=h.ne;have HN:=za hn;have ob:o<w.heap.size:=zm h.box;have bb:bm<w.heap.size:=h.costs.own.lt;clear h hn;obtain⟨s,c⟩:=x;dsimp only at *;obtain⟨sa,hsa⟩:=zf (zw A);obtain⟨sb,hsb⟩:=zf (zw B);rw[hsa,hsb]at hb hsum;have HSA:=za hsa;have HSB:=za hsb;clear hsa hsb;have ws:IntKind.i64.wrap ((sb:Int)+(c:Int))=(sb:Int)+(c:Int):=zt _ (by omega);obtain⟨hb_0,hb_1,hb_2,hb_3,hb_4,hb_5,hb_f,hb_l,H_hb⟩:=cr6 hb;clear hb;go_enter func181,ntmps181;go_upto_region 1 with(go_at_call 247;refine HA.out.mono ?_;rintro e w1 ⟨rfl,⟨D',hq,hg⟩,hm⟩)
 have hb1:=hm.heap ne3 H_hb.out;have hcm:=HH.out.costs.mod hm ne5;have HM1:=za hm;have HQ1:=za hq;have HG1:=za hg;have HB1:=za hb1;have HC1:=za hcm;have sz1:w.heap.size≤w1.heap.size:=hm.size;clear hb_0 hb_1 hb_2 hb_3 hb_4 hb_5 hb_f hb_l;clear H_hb hm hq hg hcm;obtain⟨hb1_0,hb1_1,hb1_2,hb1_3,hb1_4,hb1_5,hb1_f,hb1_l,H_hb1⟩:=cr6 hb1;clear hb1
 go_still_tail 11,(by kernel_rfl)
 go_upto_region 2 with fail
 obtain⟨Y,hY⟩:=zf ((w1.setCell ⟨o,3,none⟩ (.int .i64 ((sb:Int)+(c:Int)))).drew);have hb2:(w1.setCell ⟨o,3,none⟩ (.int .i64 ((sb:Int)+(c:Int)))).drew.heap[o]? = _:=ya w1 o 3 _ _ (.int .i64 ((sb:Int)+(c:Int))) HB1.out;have hm2:Mod (fun k=>k=o) w1 (w1.setCell ⟨o,3,none⟩ (.int .i64 ((sb:Int)+(c:Int)))).drew:=((Mod.refl (fun k=>k=o) w1).setCell (p:=⟨o,3,none⟩) (fun _=>rfl) _).drew;rw[hY]at hb2 hm2 ⊢;have HC2:=za (HC1.out.mod hm2 (fun e=>ne1 e.symm));have HM2:=za hm2;have HB2:=za hb2;clear hb1_0 hb1_1 hb1_2 hb1_3 hb1_4 hb1_5 hb1_f hb1_l;clear H_hb1 hY hm2;simp only[List.setIfInBounds_toArray,List.set_cons_succ,List.set_cons_zero,Array.setIfInBounds]at hb2;obtain⟨hb2_0,hb2_1,hb2_2,hb2_3,hb2_4,hb2_5,hb2_f,hb2_l,H_hb2⟩:=cr6 hb2;clear hb2;have hMl:(A++B).length<maxLen:=by unfold maxLen;omega
 go_wp2_with (at_mapUpdate;refine Xk _ rfl _ _ _ 209 rfl 143 3 x9 underlying209 jx bm (A++B).length Dm rfl HC2.out.own hMl (.int .u32 s) (.int .i64 c) (kS s) rfl rfl (uH (by omega)) (cD c) [] (X4 c) ?_;intro w4 ho4 hg4;go_frame)
 have hm4:Mod (fun k=>k=bm) Y w4:=Mod.of_grown hg4 (fun k e _=>by cases e;rfl);have hnn : ∀ y∈A++B,y.slot≠s:=fun y hy e=>HN.out (zz.2 ⟨y,hy,e⟩)
 have hT4:=HC2.out.put (x:=⟨s,c⟩) hnn ho4;have hbx4:=hm4.heap (fun e=>ne1 e) HB2.out;have hall:Mod (fun k=>k=o∨k=bm) w1 w4:=Mod.trans' HM2.out hm4 (fun i _ h => .inl h) (fun i _ h => .inr h);have gD : ∀ k,D' k→D1 k∨w.heap.size≤k:=HG1.out;have hDlt : ∀ k,D0 k→k<w.heap.size:=fun k hk=>HH.out.q0.lt hk
 have nD'o : ¬ D' o:=fun hk=>by rcases gD o hk with e | e;exact ne3 e;omega
 have nD'b : ¬ D' bm:=fun hk=>by rcases gD bm hk with e | e;exact ne5 e;omega
 go_end0
 refine⟨rfl,⟨fun k=>k=o∨k=bm∨D0 k∨D' k,D',_,⟨?_,?_,?_,hT4.perm ?_,?_,?_,fun _=>vP⟩,fun k hk => ?_⟩,?_⟩
 ·rw[hbx4];have e1:=HSA.out;have e2:=HSB.out;simp[vT,vT,kj,qk,e1,e2]
 ·exact(HH.out.q0.frame HM1.out (fun k hk h=>ne6 k hk h)).frame hall (fun k hk h=>by rcases h with e | e;exact ne2 (e ▸ hk);exact ne4 (e ▸ hk))
 ·have e3:zA (B++[⟨s,c⟩])=zA B++[s]:=by simp[zA]
  rw[e3];exact HQ1.out.frame hall (fun k hk h=>by rcases h with e | e;exact nD'o (e ▸ hk);exact nD'b (e ▸ hk))
 ·rw[← vM];exact(K0 _ _).symm
 ·exact⟨ne1,ne2,nD'o,ne4,nD'b,fun k hk h1=>by rcases gD k h1 with e | e;exact ne6 k hk e;have:=hDlt k hk;omega⟩
 ·refine⟨?_,fun y hy => ?_⟩
  ·have hnd:=HH.out.law.nd;have hp:(zA (A++(B++[(⟨s,c⟩:Wt)]))).Perm (s::zA (A++B)):=by
    unfold zA;exact(List.Perm.map Wt.slot (show((A++(B++[(⟨s,c⟩:Wt)]))).Perm ((⟨s,c⟩:Wt)::(A++B))from by rw[← vM];exact K0 _ _))
   exact hp.nodup_iff.2 (yO.2 ⟨HN.out,hnd⟩)
  ·have hy':y=⟨s,c⟩∨y∈A++B:=by simp at hy ⊢;rcases hy with h | h | h;exact .inr (.inl h);exact .inr (.inr h);exact .inl h
   rcases hy' with rfl | hy'
   ·exact⟨hs,hc⟩
   ·exact HH.out.law.rng y hy'
 ·rcases hk with e | e | e
  ·exact .inl ((HH.out.dd k).2 (.inl e))
  ·exact .inl ((HH.out.dd k).2 (.inr (.inl e)))
  ·rcases e with e | e
   ·exact .inl ((HH.out.dd k).2 (.inr (.inr (.inl e))))
   ·rcases gD k e with e | e
    ·exact .inl ((HH.out.dd k).2 (.inr (.inr (.inr e))))
    ·exact .inr e
 ·refine Mod.trans' HM1.out hall (fun i _ hi=>(HH.out.dd i).2 (.inr (.inr (.inr hi)))) (fun i _ hi=>(HH.out.dd i).2 (by rcases hi with e | e;exact .inl e;exact .inr (.inl e)))
end
section
variable{w w':World}{D S:Nat→Prop}{o l0 l1 bm:Nat}{lim:Int}{D0 D1:Nat→Prop}{Dm:DataW Unit}{A B:List Wt}
theorem SgL.left(h:SgL A B):(zA A).Nodup:=by have:=h.nd;rw[Xj]at this;exact(xD.1 this).1
theorem SgL.right(h:SgL A B):(zA B).Nodup:=by have:=h.nd;rw[Xj]at this;exact(xD.1 this).2.1
theorem SgL.apart(h:SgL A B){x y:Wt}(hx:x∈A)(hy:y∈B):x.slot≠y.slot:=by
 have:=h.nd;rw[Xj]at this;exact(xD.1 this).2.2 _ (zz.2 ⟨x,hx,rfl⟩) _ (zz.2 ⟨y,hy,rfl⟩)
theorem SgL.out(h:SgL A B)(s:Nat):SgL (zx A s) (zx B s):=by
 refine⟨?_,fun x hx=>h.rng x ?_⟩
 ·rw[← qu];exact(h.nd).sublist (jL.map Wt.slot)
 ·rw[← qu]at hx;exact(j5.1 hx).1
theorem zeC(h:SgL A B){x:Wt}(hx:x∈A):gOf B x.slot=0:=by
 unfold gOf;rw[zh];intro e;obtain⟨y,hy,e2⟩:=zz.1 e;exact h.apart hx hy e2.symm
theorem zjg{x:Wt}(hx:x∈B):gOf B x.slot=1:=by
 unfold gOf;rw[zk (show x.slot∈zA B from zz.2 ⟨x,hx,rfl⟩)]
theorem zk8(h:yN w D o l0 l1 bm lim D0 D1 Dm A B){x:Wt}(hx:x∈A) :
    Calls prog 180 #[lkP o,.int .u32 x.slot] w fun e w'=>e=.returned (.bool true)∧(∃ Dm',yN w' D o l0 l1 bm lim D0 D1 Dm' (zx A x.slot) (zx B x.slot))∧Mod D w w':=by
  have hxm:x∈A++B:=xT _ hx;have hs:=(h.law.rng x hxm).1;have hcc:=(h.law.rng x hxm).2;have HO:=za (UR h hs);rw[zeC h.law hx]at HO;have HR:=za (zad h.q0 (s:=x.slot) (zz.2 ⟨x,hx,rfl⟩));have hlw:=h.costs.look hxm (by omega);have HH:=za h;have hb:=h.box;have hsum:=h.law.sums;obtain⟨ne1,ne2,ne3,ne4,ne5,ne6⟩:=h.ne;have hou:zx B x.slot=B:=ZK (fun y hy e=>h.law.apart hx hy e.symm);have hcs:=zcG h.law.left hx;have hll:=zaE h.law.nd hxm;have her:=zcQ h.law.left x.slot;have HX:=za hxm;have ob:o<w.heap.size:=zm h.box;have bb:bm<w.heap.size:=h.costs.own.lt;clear h hx hxm;rw[← her]at HR;obtain⟨s,c⟩:=x;dsimp only at *;obtain⟨sa,hsa⟩:=zf (zw A);obtain⟨sb,hsb⟩:=zf (zw B);rw[hsa,hsb]at hb hsum;rw[hsa]at hcs;have HSA:=za hsa;have HSB:=za hsb;have HCS:=za hcs;have HLL:=za hll;have ws:IntKind.i64.wrap ((sa:Int)-(c:Int))=(sa:Int)-(c:Int):=zt _ (by omega);have HOU:=za hou;clear hsa hsb hcs hll her hou;obtain⟨hb_0,hb_1,hb_2,hb_3,hb_4,hb_5,hb_f,hb_l,H_hb⟩:=cr6 hb;clear hb;go_enter func180,ntmps180;go_upto_region 6 with(first
    | (go_at_call 115;refine HO.out.mono ?_;rintro e w' ⟨rfl,rfl⟩)
    | (go_at_call 246;refine HR.out.mono ?_;rintro e w1 ⟨rfl,hq,hm⟩))
  have hb1:=hm.heap ne2 H_hb.out;have hcm:=HH.out.costs.mod hm ne4;have HM1:=za hm;have HQ1:=za hq;have HB1:=za hb1;have HC1:=za hcm;have sz1:w.heap.size≤w1.heap.size:=hm.size;clear hb_0 hb_1 hb_2 hb_3 hb_4 hb_5 hb_f hb_l;clear H_hb hm hq hcm;obtain⟨hb1_0,hb1_1,hb1_2,hb1_3,hb1_4,hb1_5,hb1_f,hb1_l,H_hb1⟩:=cr6 hb1;clear hb1
  go_still_tail 11,(by kernel_rfl)
  go_upto_region 7 with fail
  obtain⟨Y,hY⟩:=zf ((w1.setCell ⟨o,2,none⟩ (.int .i64 ((sa:Int)-(c:Int)))).drew);have hb2:(w1.setCell ⟨o,2,none⟩ (.int .i64 ((sa:Int)-(c:Int)))).drew.heap[o]? = _:=ya w1 o 2 _ _ (.int .i64 ((sa:Int)-(c:Int))) HB1.out;have hm2:Mod (fun k=>k=o) w1 (w1.setCell ⟨o,2,none⟩ (.int .i64 ((sa:Int)-(c:Int)))).drew:=((Mod.refl (fun k=>k=o) w1).setCell (p:=⟨o,2,none⟩) (fun _=>rfl) _).drew;rw[hY]at hb2 hm2 ⊢;have HC2:=za (HC1.out.mod hm2 (fun e=>ne1 e.symm));have HM2:=za hm2;have HB2:=za hb2;clear hb1_0 hb1_1 hb1_2 hb1_3 hb1_4 hb1_5 hb1_f hb1_l;clear H_hb1 hY hm2;simp only[List.setIfInBounds_toArray,List.set_cons_succ,List.set_cons_zero,Array.setIfInBounds]at hb2;obtain⟨hb2_0,hb2_1,hb2_2,hb2_3,hb2_4,hb2_5,hb2_f,hb2_l,H_hb2⟩:=cr6 hb2;clear hb2
  go_wp2_with (at_delete;refine Yo _ rfl _ _ 209 143 rfl 3 x9 underlying209 jx bm (A++B).length Dm rfl HC2.out.own (.int .u32 s) (kS s) rfl (uH (by omega)) ?_;intro w4 ho4 ht4;go_frame)
  have hm4:Mod (fun k=>k=bm) Y w4:=Mod.of_grown ht4.grown (fun k e _=>by cases e;rfl);have hT4:=HC2.out.del (x:=⟨s,c⟩) HX.out (M':=zx (A++B) s) (fun y=>j5) HLL.out.symm ho4;rw[qu]at hT4;have hbx4:=hm4.heap (fun e=>ne1 e) HB2.out;have hall:Mod (fun k=>k=o∨k=bm) w1 w4:=Mod.trans' HM2.out hm4 (fun i _ h => .inl h) (fun i _ h => .inr h);go_ret;refine⟨rfl,⟨_,?_,?_,?_,hT4,⟨ne1,ne2,ne3,ne4,ne5,ne6⟩,HH.out.law.out s,HH.out.dd⟩,?_⟩
  · rw[hbx4,HOU.out]
    have e1:=HSA.out;have e2:=HSB.out;have e3:=HCS.out;have e4:((zw (zx A s):Nat):Int)=(sa:Int)-(c:Int):=by omega
    rw[e4,e2]
    rfl
  · exact HQ1.out.frame hall (fun k hk h=>by rcases h with e | e;exact ne2 (e ▸ hk);exact ne4 (e ▸ hk))
  · rw[HOU.out];exact(HH.out.q1.frame HM1.out (fun k hk h=>ne6 k h hk)).frame hall (fun k hk h=>by rcases h with e | e;exact ne3 (e ▸ hk);exact ne5 (e ▸ hk))
  · refine Mod.trans' HM1.out hall (fun i _ hi=>(HH.out.dd i).2 (.inr (.inr (.inl hi)))) (fun i _ hi=>(HH.out.dd i).2 (by rcases hi with e | e;exact .inl e;exact .inr (.inl e)))
theorem zaB(h:yN w D o l0 l1 bm lim D0 D1 Dm A B){x:Wt}(hx:x∈B) :
    Calls prog 180 #[lkP o,.int .u32 x.slot] w fun e w'=>e=.returned (.bool true)∧(∃ Dm',yN w' D o l0 l1 bm lim D0 D1 Dm' (zx A x.slot) (zx B x.slot))∧Mod D w w':=by
  have hxm:x∈A++B:=xM _ hx;have hs:=(h.law.rng x hxm).1;have hcc:=(h.law.rng x hxm).2;have HO:=za (UR h hs);rw[zjg hx]at HO;have HR:=za (zad h.q1 (s:=x.slot) (zz.2 ⟨x,hx,rfl⟩));have hlw:=h.costs.look hxm (by omega);have HH:=za h;have hb:=h.box;have hsum:=h.law.sums;obtain⟨ne1,ne2,ne3,ne4,ne5,ne6⟩:=h.ne;have hou:zx A x.slot=A:=ZK (fun y hy e=>h.law.apart hy hx e);have hcs:=zcG h.law.right hx;have hll:=zaE h.law.nd hxm;have her:=zcQ h.law.right x.slot;have HX:=za hxm;have ob:o<w.heap.size:=zm h.box;have bb:bm<w.heap.size:=h.costs.own.lt;clear h hx hxm;rw[← her]at HR;obtain⟨s,c⟩:=x;dsimp only at *;obtain⟨sa,hsa⟩:=zf (zw A);obtain⟨sb,hsb⟩:=zf (zw B);rw[hsa,hsb]at hb hsum;rw[hsb]at hcs;have HSA:=za hsa;have HSB:=za hsb;have HCS:=za hcs;have HLL:=za hll;have ws:IntKind.i64.wrap ((sb:Int)-(c:Int))=(sb:Int)-(c:Int):=zt _ (by omega);have HOU:=za hou;clear hsa hsb hcs hll her hou;obtain⟨hb_0,hb_1,hb_2,hb_3,hb_4,hb_5,hb_f,hb_l,H_hb⟩:=cr6 hb;clear hb;go_enter func180,ntmps180;go_upto_region 6 with(first
    | (go_at_call 115;refine HO.out.mono ?_;rintro e w' ⟨rfl,rfl⟩)
    | (go_at_call 246;refine HR.out.mono ?_;rintro e w1 ⟨rfl,hq,hm⟩))
  have hb1:=hm.heap ne3 H_hb.out;have hcm:=HH.out.costs.mod hm ne5;have HM1:=za hm;have HQ1:=za hq;have HB1:=za hb1;have HC1:=za hcm;have sz1:w.heap.size≤w1.heap.size:=hm.size;clear hb_0 hb_1 hb_2 hb_3 hb_4 hb_5 hb_f hb_l;clear H_hb hm hq hcm;obtain⟨hb1_0,hb1_1,hb1_2,hb1_3,hb1_4,hb1_5,hb1_f,hb1_l,H_hb1⟩:=cr6 hb1;clear hb1
  go_still_tail 11,(by kernel_rfl)
  go_upto_region 7 with fail
  obtain⟨Y,hY⟩:=zf ((w1.setCell ⟨o,3,none⟩ (.int .i64 ((sb:Int)-(c:Int)))).drew);have hb2:(w1.setCell ⟨o,3,none⟩ (.int .i64 ((sb:Int)-(c:Int)))).drew.heap[o]? = _:=ya w1 o 3 _ _ (.int .i64 ((sb:Int)-(c:Int))) HB1.out;have hm2:Mod (fun k=>k=o) w1 (w1.setCell ⟨o,3,none⟩ (.int .i64 ((sb:Int)-(c:Int)))).drew:=((Mod.refl (fun k=>k=o) w1).setCell (p:=⟨o,3,none⟩) (fun _=>rfl) _).drew;rw[hY]at hb2 hm2 ⊢;have HC2:=za (HC1.out.mod hm2 (fun e=>ne1 e.symm));have HM2:=za hm2;have HB2:=za hb2;clear hb1_0 hb1_1 hb1_2 hb1_3 hb1_4 hb1_5 hb1_f hb1_l;clear H_hb1 hY hm2;simp only[List.setIfInBounds_toArray,List.set_cons_succ,List.set_cons_zero,Array.setIfInBounds]at hb2;obtain⟨hb2_0,hb2_1,hb2_2,hb2_3,hb2_4,hb2_5,hb2_f,hb2_l,H_hb2⟩:=cr6 hb2;clear hb2
  go_wp2_with (at_delete;refine Yo _ rfl _ _ 209 143 rfl 3 x9 underlying209 jx bm (A++B).length Dm rfl HC2.out.own (.int .u32 s) (kS s) rfl (uH (by omega)) ?_;intro w4 ho4 ht4;go_frame)
  have hm4:Mod (fun k=>k=bm) Y w4:=Mod.of_grown ht4.grown (fun k e _=>by cases e;rfl);have hT4:=HC2.out.del (x:=⟨s,c⟩) HX.out (M':=zx (A++B) s) (fun y=>j5) HLL.out.symm ho4;rw[qu]at hT4;have hbx4:=hm4.heap (fun e=>ne1 e) HB2.out;have hall:Mod (fun k=>k=o∨k=bm) w1 w4:=Mod.trans' HM2.out hm4 (fun i _ h => .inl h) (fun i _ h => .inr h);go_ret;refine⟨rfl,⟨_,?_,?_,?_,hT4,⟨ne1,ne2,ne3,ne4,ne5,ne6⟩,HH.out.law.out s,HH.out.dd⟩,?_⟩
  · rw[hbx4,HOU.out]
    have e1:=HSA.out;have e2:=HSB.out;have e3:=HCS.out;have e4:((zw (zx B s):Nat):Int)=(sb:Int)-(c:Int):=by omega
    rw[e4,e1]
    rfl
  · rw[HOU.out];exact(HH.out.q0.frame HM1.out (fun k hk h=>ne6 k hk h)).frame hall (fun k hk h=>by rcases h with e | e;exact ne2 (e ▸ hk);exact ne4 (e ▸ hk))
  · exact HQ1.out.frame hall (fun k hk h=>by rcases h with e | e;exact ne3 (e ▸ hk);exact ne5 (e ▸ hk))
  · refine Mod.trans' HM1.out hall (fun i _ hi=>(HH.out.dd i).2 (.inr (.inr (.inr hi)))) (fun i _ hi=>(HH.out.dd i).2 (by rcases hi with e | e;exact .inl e;exact .inr (.inl e)))
theorem za3(h:yN w D o l0 l1 bm lim D0 D1 Dm A B){x:Wt}(hx:x∈A++B) :
  Calls prog 180 #[lkP o,.int .u32 x.slot] w fun e w'=>e=.returned (.bool true)∧(∃ Dm',yN w' D o l0 l1 bm lim D0 D1 Dm' (zx A x.slot) (zx B x.slot))∧Mod D w w':=by
 rcases yz.1 hx with h1 | h1
 ·exact zk8 h h1
 ·exact zaB h h1
theorem zjC(h:yY w D o lim A B){x:Wt}(hx:x∈A++B) :
    Calls prog 140 #[lkP o,.int .u32 x.slot] w fun e w'=>e=.returned (.int .i64 0)∧yY w' D o lim (zx A x.slot) (zx B x.slot)∧Mod D w w':=by
  obtain⟨l0,l1,bm,D0,D1,Dm,h⟩:=h;have HC:=za (KY h (h.law.rng x hx).1);have HT:=za (za3 h hx);clear h hx;go_enter func140,ntmps140
  go_wp2_with (first
    | (go_at_call 114;refine HC.out.mono ?_;rintro e w' ⟨rfl,rfl⟩)
    | (go_at_call 180;refine HT.out.mono ?_;rintro e w1 ⟨rfl,⟨Dm',h1⟩,hm⟩))
  go_ret;exact⟨rfl,⟨l0,l1,bm,D0,D1,Dm',h1⟩,hm⟩
theorem zkr(h:yY w D o lim A B){x:Wt}(hs:x.slot<4194304)(hc:x.cost≤1099511627776)(hn:x.slot∉zA (A++B)) :
    Calls prog 129 #[lkP o,.int .u32 x.slot,.int .i64 x.cost] w fun e w'=>e=.returned (.int .i64 0)∧(∃ D',yY w' D' o lim (A++[x]) B∧uc D D' w)∧Mod D w w':=by
  obtain⟨l0,l1,bm,D0,D1,Dm,h⟩:=h;have HC:=za (KQ h hs hc);have HP:=za (Jf h hs hc hn);have hlw:=h.costs.look_no (s:=x.slot) (by omega) (fun y hy e=>hn (zz.2 ⟨y,hy,e⟩));have hb:=h.box;clear h hn;generalize zw A=sa at *;generalize zw B=sb at *;obtain⟨hb_0,hb_1,hb_2,hb_3,hb_4,hb_5,hb_f,hb_l,H_hb⟩:=cr6 hb;clear hb;go_enter func129,ntmps129
  go_wp2_with (first
    | (go_at_call 114;refine HC.out.mono ?_;rintro e w' ⟨rfl,rfl⟩)
    | (go_at_call 181;refine HP.out.mono ?_;rintro e w1 ⟨rfl,⟨D',D0',Dm',h1,h2⟩,hm⟩))
  go_ret;exact⟨rfl,⟨D',⟨l0,l1,bm,D0',D1,Dm',h1⟩,h2⟩,hm⟩
end
end
section
open Go.RowKit
@[go_sem] theorem zlE (w : World) (r : Option Nat) : (binOp .eql 230 (.map r) (.map none)).run prog w=.ok (.bool r.isNone) w := run_eql_map_nil w _ _ _ r underlying230
def Yi(now:Nat)(ws:List Nat)(bm bb:Nat):List Value := .int .u64 now::(ws.map lkP++[.map (some bm),.map (some bb)])
structure kE(w:World)(p now:Nat)(ws:List Nat)(bm bb:Nat):Prop where
 box:w.heap[p]? = some (.cells (Yi now ws bm bb).toArray 300 (0,0))
 len:ws.length=8
 now:now<18446744073709551616
section
variable{w w':World}{p now bm bb:Nat}{ws:List Nat}
theorem kE.mod{S:Nat→Prop}(h:kE w p now ws bm bb)(hm:Mod S w w')(hp : ¬ S p):kE w' p now ws bm bb:=⟨hm.heap hp h.box,h.len,h.now⟩
theorem kE.cells(h:kE w p now ws bm bb):w.cell? ⟨p,0,none⟩=some (.int .u64 now)∧w.cell? ⟨p,9,none⟩=some (.map (some bm))∧w.cell? ⟨p,10,none⟩=some (.map (some bb))∧(∀ i,w.frozen? ⟨p,i,none⟩=false)∧p<w.heap.size:=by
 have g:=fun j=>zi w p j _ _ (0,0) h.box
 have hl:=h.len;refine⟨by rw[g,vI];rfl,?_,?_,fun i=>yU w p i _ _ h.box,zm h.box⟩
 ·rw[g,vI];unfold Yi;rw[XT,jh (by simp;omega)];simp[hl]
 ·rw[g,vI];unfold Yi;rw[XT,jh (by simp;omega)];simp[hl]
theorem kE.level(h:kE w p now ws bm bb){l q:Nat}(hq:ws[l]? = some q):w.cell? ⟨p,1+l,none⟩=some (lkP q):=by
 rw[zi w p (1+l) _ _ (0,0) h.box,vI];unfold Yi;rw[show 1+l=l+1 by omega,XT,us (by have:=(zE.1 hq).1;simpa using this),yC,hq]
 rfl
theorem Y1(h:kE w p now ws bm bb){s:Nat}(hs:s<4194304):Calls prog 198 #[lkP p,.int .u32 s] w fun e w'=>e=.returned (.int .i64 0)∧w=w':=by
 obtain⟨c0,c9,c10,_,_⟩:=h.cells;clear h;have d1:decide ((4194304:Int)≤(s:Int))=false:=zR (by omega);have d1n:decide (4194304≤s)=false:=zR (by omega);go_enter func198,ntmps198;go_wp2;go_ret;exact⟨rfl,rfl⟩
theorem zjk(h:kE w p now ws bm bb){s:Nat}(hs:4194304≤s)(h32:s≤4294967295):Calls prog 198 #[lkP p,.int .u32 s] w fun e w'=>e=.returned (.int .i64 2)∧w=w':=by
 obtain⟨c0,c9,c10,_,_⟩:=h.cells;clear h;have d1:decide ((4194304:Int)≤(s:Int))=true:=zP (by omega);have d1n:decide (4194304≤s)=true:=zP hs;go_enter func198,ntmps198;go_wp2;go_ret;exact⟨rfl,rfl⟩
def qM(s:Nat):Int:=if s<4194304 then 0 else 2
theorem KS(h:kE w p now ws bm bb){s:Nat}(h32:s≤4294967295):Calls prog 198 #[lkP p,.int .u32 s] w fun e w'=>e=.returned (.int .i64 (qM s))∧w=w':=by
 unfold qM;by_cases hs:s<4194304
 ·rw[zk hs];exact Y1 h hs
 ·rw[zh hs];exact zjk h (by omega) h32
theorem UL(h:kE w p now ws bm bb){dl:Nat}(hd:dl<18446744073709551616)(hne:dl≠now) :
  Calls prog 256 #[lkP p,.int .u64 dl] w fun e w'=>e=.returned (.tuple #[.int .i64 (lvl now dl:Nat),.int .i64 (bkt now dl:Nat)])∧zc w w':=by
 obtain⟨c0,_,_,_,_⟩:=h.cells;have hn:=h.now;obtain⟨b1,b2,b3⟩:=zd3 hn hd hne;have hx:dl ^^^ now<18446744073709551616:=qL (n:=64) hd hn;have HLn:=za (zgY _ hx w);have hxor:=YG dl now hd hn;have hl8:=(kh hn hd).1;have hbk:bkt now dl=dl/256 ^ lvl now dl%256:=rfl;have HBK:=za hbk;clear h hbk hx;generalize yQ (dl ^^^ now)=bl at *;generalize dl ^^^ now=x at *;obtain⟨lv,hlv⟩:=zf (lvl now dl);obtain⟨bk,hbk2⟩:=zf (bkt now dl);rw[hlv]at b3 hl8 HBK;rw[hbk2]at HBK;have w1:IntKind.i64.wrap ((bl:Int)-1)=(bl:Int)-1:=zt _ (by omega);have e8:((bl:Int)-1)/8=(lv:Int):=by omega
 have w2:wrap64 (((bl:Int)-1)/8)=(lv:Int):=by rw[e8];exact jA _ (by omega)
 have b0:(0:Int)≤(bl:Int)-1:=by omega
 have HLV:=za hlv;have HB2:=za hbk2;clear hlv hbk2 hne;go_enter func256,ntmps256;go_upto_region 2 with(go_at_call 152;refine HLn.out.mono ?_;rintro e w' ⟨rfl,rfl⟩)
 have w3:IntKind.i64.wrap (8*(lv:Int))=8*(lv:Int):=zt _ (by omega);have l0:(0:Int)≤(lv:Int):=by omega
 have l1:(lv:Int)<8:=by omega
 have hand:bits .and .u64 ((dl:Int)/(2:Int) ^ (8*lv)) 255=(bk:Int):=by
  have hq:dl/2 ^ (8*lv)<18446744073709551616:=jB (Y0 _ _) hd;have:=Xh (dl/2 ^ (8*lv)) 255 hq (by decide);rw[show(255:Nat)=2 ^ 8-1 from rfl,Ul]at this;rw[HBK.out,show(256:Nat) ^ lv=2 ^ (8*lv) by rw[Nat.pow_mul],← this];simp
 have hbk8:bk<256:=by rw[HBK.out];exact vp _ (by decide)
 have wb:wrap64 (bk:Int)=(bk:Int):=jA _ (by omega);have hend:Ending.returned (.tuple #[.int .i64 (((bl:Int)-1)/8),.int .i64 (bk:Int)])=.returned (.tuple #[.int .i64 (lvl now dl:Nat),.int .i64 (bkt now dl:Nat)]):=by rw[e8,HLV.out,HB2.out]
 have HEnd:=za hend;clear hend wb HBK hxor
 go_region
 go_wp2;go_ret2;exact⟨HEnd.out,(Mod.refl _ _).drew⟩
end
structure yu(w:World)(D:Nat→Prop)(p now:Nat)(ws:List Nat)(bm bb:Nat)(Ds:Nat→Nat→Prop)(Dm Db:DataW Unit)(M:List Td)(Lss:List (List (List Nat))):Prop where
 box:kE w p now ws bm bb
 what:yM w bm M Dm
 births:xI w bb M Db
 len:Lss.length=8
 lev : ∀(l q:Nat) (Ls:List (List Nat)),ws[l]? = some q→Lss[l]? = some Ls→yK w (Ds l) q Ls
 apart : ∀ l l' k,l<8→l'<8→l≠l'→Ds l k → ¬ Ds l' k
 own : ∀ l k,l<8→Ds l k→k≠p∧k≠bm∧k≠bb
 ne:bm≠bb∧bm≠p∧bb≠p
 dd : ∀ k,D k↔(k=p∨k=bm∨k=bb ∨ ∃ l,l<8∧Ds l k)
section
variable{w w':World}{D:Nat→Prop}{p now:Nat}{ws:List Nat}{bm bb:Nat}{Ds:Nat→Nat→Prop}{Dm Db:DataW Unit}{M:List Td}{Lss:List (List (List Nat))}
theorem yu.frame{S:Nat→Prop}(h:yu w D p now ws bm bb Ds Dm Db M Lss)(hm:Mod S w w')(hd : ∀ k,D k → ¬ S k):yu w' D p now ws bm bb Ds Dm Db M Lss :=
 ⟨h.box.mod hm (hd p ((h.dd p).2 (.inl rfl))),h.what.mod hm (hd bm ((h.dd bm).2 (.inr (.inl rfl)))),h.births.mod hm (hd bb ((h.dd bb).2 (.inr (.inr (.inl rfl))))),h.len,
  fun l q Ls hq hl=>(h.lev l q Ls hq hl).frame hm (fun k hk=>hd k ((h.dd k).2 (.inr (.inr (.inr ⟨l,by have:=(zE.1 hl).1;rw[h.len]at this;exact this,hk⟩))))),h.apart,h.own,h.ne,h.dd⟩
theorem yu.pure(h:yu w D p now ws bm bb Ds Dm Db M Lss)(hm:zc w w'):yu w' D p now ws bm bb Ds Dm Db M Lss:=h.frame hm (fun _ _ h=>h)
theorem yu.lt(h:yu w D p now ws bm bb Ds Dm Db M Lss){k:Nat}(hk:D k):k<w.heap.size:=by
 rcases(h.dd k).1 hk with rfl | rfl | rfl | ⟨l,hl,hk⟩
 ·exact zm h.box.box
 ·exact h.what.own.lt
 ·exact h.births.own.lt
 ·obtain⟨q,hq⟩ : ∃ q,ws[l]? = some q:=⟨_,zL (by rw[h.box.len];exact hl)⟩;obtain⟨Ls,hL⟩ : ∃ Ls,Lss[l]? = some Ls:=⟨_,zL (by rw[h.len];exact hl)⟩;exact(h.lev l q Ls hq hL).lt hk
theorem zc5(h:yu w D p now ws bm bb Ds Dm Db M Lss){x:Td}{M':List Td}(hx:x∈M)(hs:x.slot≤4294967295)(hb:x.birth≤18446744073709551615)(hM : ∀ y,y∈M'↔y∈M∧y.slot≠x.slot)(hM2 : ∀ y,y∈M'↔y∈M∧y.birth≠x.birth)(hl:M'.length+1=M.length) :
  Calls prog 259 #[lkP p,tdV x] w fun e w'=>e=.returned (.tuple #[])∧(∃ Dm' Db',yu w' D p now ws bm bb Ds Dm' Db' M' Lss)∧Mod (fun k=>k=bm∨k=bb) w w':=by
 have hal:zc w (w.alloc (.cells #[.int .u32 x.slot,.int .u64 x.dl,.int .u64 x.birth] 236)):=(Mod.refl _ w).alloc _;have h3:=zj (w:=w) (o := .cells #[.int .u32 x.slot,.int .u64 x.dl,.int .u64 x.birth] 236 (0,0)) rfl;have HC:=za (h.pure hal);have n1:bm≠w.heap.size:=fun e=>by have:=h.what.own.lt;omega
 have n2:bb≠w.heap.size:=fun e=>by have:=h.births.own.lt;omega
 have HX:=za hx;have HM:=za hM;have HM2:=za hM2;have HAL:=za hal;obtain⟨ne1,ne2,ne3⟩:=h.ne;clear h hx hM hM2 hal;unfold tdV;go_enter func259,ntmps259;go_upto_region 1 with fail
 generalize w.alloc (.cells #[.int .u32 x.slot,.int .u64 x.dl,.int .u64 x.birth] 236)=W1 at *;generalize w.heap.size=b3 at *;obtain⟨c0,c9,c10,_,_⟩:=HC.out.box.cells;have H3:=za h3;obtain⟨h3_0,h3_1,h3_2,h3_f,h3_l,H_h3⟩:=cr3 h3;clear h3
 go_still_tail 6,(by kernel_rfl)
 go_upto_region 2 with(at_delete;refine Yo _ rfl _ _ 230 143 rfl 236 x9 underlying230 kF bm M.length Dm rfl HC.out.what.own.drew (.int .u32 x.slot) (kS x.slot) rfl (uH hs) ?_;intro w2 ho2 ht2;go_frame)
 have hm2:Mod (fun k=>k=bm) W1 w2:=Mod.of_drew (Mod.of_grown ht2.grown (fun k e _=>by cases e;rfl));have hbx2:=HC.out.box.mod hm2 (fun e=>ne2 e.symm);have hbi2:=HC.out.births.mod hm2 (fun e=>ne1 e.symm);have h32:=hm2.heap (fun e=>n1 e.symm) H3.out;have hT2:=HC.out.what.del HX.out HM.out hl ho2;have HM2':=za hm2;have HT2:=za hT2;have HBI2:=za hbi2;clear h3_0 h3_1 h3_2 h3_f h3_l;clear H_h3 c0 c9 c10 ho2 ht2 hm2 hbi2 hT2;obtain⟨c0,c9,c10,_,_⟩:=hbx2.cells;clear hbx2;obtain⟨h32_0,h32_1,h32_2,h32_f,h32_l,H_h32⟩:=cr3 h32;clear h32
 go_still_tail 6,(by kernel_rfl)
 go_wp2_with (at_delete;refine Yo _ rfl _ _ 298 27 rfl 379 kP underlying298 unitElem bb M.length Db rfl HBI2.out.own.drew (.int .u64 x.birth) (kB x.birth) rfl (qF hb) ?_;intro w3 ho3 ht3;go_frame)
 have hm3:Mod (fun k=>k=bb) w2 w3:=Mod.of_drew (Mod.of_grown ht3.grown (fun k e _=>by cases e;rfl));have hB3:=HBI2.out.del HX.out HM2.out hl ho3;have hmm:Mod (fun k=>k=bm∨k=bb) W1 w3:=(HM2'.out.mono (fun _ _ h=>Or.inl h)).trans (hm3.mono (fun _ _ h=>Or.inr h))
 go_end0
 refine⟨rfl,⟨_,_,HC.out.box.mod hmm (fun e=>by rcases e with e | e;exact ne2 e.symm;exact ne3 e.symm),HT2.out.mod hm3 (fun e=>ne1 e),hB3,HC.out.len,fun l q Ls hq hL=>(HC.out.lev l q Ls hq hL).frame hmm (fun k hk e => ?_),HC.out.apart,HC.out.own,HC.out.ne,HC.out.dd⟩,(HAL.out.mono (fun _ _ h=>h.elim)).trans hmm⟩;have hl8:l<8:=by have:=(zE.1 hL).1;rw[HC.out.len]at this;exact this
 obtain⟨_,o2,o3⟩:=HC.out.own l k hl8 hk;rcases e with e | e
 ·exact o2 e
 ·exact o3 e
end
section
variable{w w':World}{D:Nat→Prop}{p now:Nat}{ws:List Nat}{bm bb:Nat}{Ds:Nat→Nat→Prop}{Dm Db:DataW Unit}{M:List Td}{Lss:List (List (List Nat))}
def kV{α:Type}(f:Nat→α)(l:Nat)(v:α):Nat→α:=fun k=>if k=l then v else f k
theorem yu.level(h:yu w D p now ws bm bb Ds Dm Db M Lss){l q:Nat}{Ls':List (List Nat)}{D':Nat→Prop}(hl:l<8)(hq:ws[l]? = some q)(hw:yK w' D' q Ls')(hg:yo (Ds l) D' w)(hm:Mod (Ds l) w w') :
  ∃ D2,yu w' D2 p now ws bm bb (kV Ds l D') Dm Db M (Lss.set l Ls')∧yo D D2 w:=by
 have hlt : ∀ k,D k→k<w.heap.size:=fun k hk=>h.lt hk
 have inD : ∀ {l' k:Nat},l'<8→Ds l' k→D k:=fun hl' hk=>(h.dd _).2 (.inr (.inr (.inr ⟨_,hl',hk⟩)))
 have o:=fun k=>h.own l k hl
 refine⟨fun k=>k=p∨k=bm∨k=bb ∨ ∃ l',l'<8∧kV Ds l D' l' k,⟨h.box.mod hm (fun e=>(o p e).1 rfl),h.what.mod hm (fun e=>(o bm e).2.1 rfl),h.births.mod hm (fun e=>(o bb e).2.2 rfl),by rw[xF];exact h.len,fun l2 q2 Ls2 hq2 hl2 => ?_,fun l2 l3 k h2 h3 hne hk => ?_,fun l2 k h2 hk => ?_,h.ne,fun k=>vP⟩,fun k hk => ?_⟩
 ·unfold kV;by_cases e:l2=l
  ·subst e;rw[zk rfl];rw[yv (by rw[h.len];exact hl)]at hl2
   cases hl2
   rw[hq]at hq2
   cases hq2
   exact hw
  ·rw[zh e];rw[yy (fun c=>e c.symm)]at hl2;have hl8:l2<8:=by have:=(zE.1 hl2).1;rw[h.len]at this;exact this
   exact(h.lev l2 q2 Ls2 hq2 hl2).frame hm (fun k hk hk2=>h.apart l2 l k hl8 hl e hk hk2)
 ·unfold kV at hk ⊢;by_cases e:l2=l
  ·rw[zk e]at hk;have e3:l3≠l:=fun c=>hne (by rw[e,c])
   rw[zh e3];intro hk3;rcases hg k hk with c | c
   ·exact h.apart l l3 k hl h3 (fun c=>e3 c.symm) c hk3
   ·have:=hlt k (inD h3 hk3);omega
  ·rw[zh e]at hk;by_cases e3:l3=l
   ·rw[zk e3];intro hk3;rcases hg k hk3 with c | c
    ·exact h.apart l2 l k h2 hl e hk c
    ·have:=hlt k (inD h2 hk);omega
   ·rw[zh e3];exact h.apart l2 l3 k h2 h3 hne hk
 ·unfold kV at hk;by_cases e:l2=l
  ·rw[zk e]at hk;rcases hg k hk with c | c
   ·exact o k c
   ·have a1:=hlt p ((h.dd p).2 (.inl rfl));have a2:=hlt bm ((h.dd bm).2 (.inr (.inl rfl)));have a3:=hlt bb ((h.dd bb).2 (.inr (.inr (.inl rfl))));omega
  ·rw[zh e]at hk;exact h.own l2 k h2 hk
 ·rcases hk with e | e | e | ⟨l2,h2,hk⟩
  ·exact .inl ((h.dd k).2 (.inl e))
  ·exact .inl ((h.dd k).2 (.inr (.inl e)))
  ·exact .inl ((h.dd k).2 (.inr (.inr (.inl e))))
  ·unfold kV at hk;by_cases e:l2=l
   ·rw[zk e]at hk;rcases hg k hk with c | c
    ·exact .inl (inD hl c)
    ·exact .inr c
   ·rw[zh e]at hk;exact .inl (inD h2 hk)
end
section
variable{w w':World}{D:Nat→Prop}{p now:Nat}{ws:List Nat}{bm bb:Nat}{Ds:Nat→Nat→Prop}{Dm Db:DataW Unit}{M:List Td}{Lss:List (List (List Nat))}
def VK(M:List Td)(x:Td)(M':List Td):Prop:=(∀ y∈M,y.slot≠x.slot)∧(∀ y∈M,y.birth≠x.birth)∧M'=x::M∨x∈M∧(∀ y∈M,y.slot=x.slot→y=x)∧M'=M
theorem yM.putC{b:Nat}{x:Td}{M':List Td}(h:yM w b M Dm)(hc:VK M x M')(ho:w'.ownsMap prog 143 kF b (M.length+1) (Dm.put (kS x.slot) (tdD x))):yM w' b M' (Dm.put (kS x.slot) (tdD x)):=by
 rcases hc with⟨h1,_,rfl⟩ | ⟨h1,h2,rfl⟩
 ·exact h.put h1 ho
 ·exact h.again h1 h2 ho
theorem xI.putC{b:Nat}{x:Td}{M':List Td}(h:xI w b M Db)(hc:VK M x M')(ho:w'.ownsMap prog 27 unitElem b (M.length+1) (Db.put (kB x.birth) (.agg []))):xI w' b M' (Db.put (kB x.birth) (.agg [])):=by
 rcases hc with⟨_,h1,rfl⟩ | ⟨h1,h2,rfl⟩
 ·exact h.put h1 ho
 ·exact h.again h1 ho
theorem Azur6 {P:Prop}(h:P:=by
 rcases hk with rfl | rfl
 ·exact(HC0.out.dd k).2 (.inr (.inl rfl))
 ·exact(HC0.out.dd k).2 (.inr (.inr (.inl rfl)))):P:=h
theorem Qy(h:yu w D p now ws bm bb Ds Dm Db M Lss){x:Td}{M':List Td}(hs:x.slot<4194304)(hd:x.dl<18446744073709551616)(hb:x.birth≤18446744073709551615)(hne:x.dl≠now)(hMl:M.length<maxLen){Ls:List (List Nat)}{L:List Nat}
  (hL:Lss[lvl now x.dl]? = some Ls) (hK:Ls[bkt now x.dl]? = some L) (hf : ¬ inL Ls x.slot) (hc:VK M x M') :
  Calls prog 258 #[lkP p,tdV x] w fun e w'=>e=.returned (.tuple #[])∧(∃ D' Ds' Dm' Db',yu w' D' p now ws bm bb Ds' Dm' Db' M' (Lss.set (lvl now x.dl) (Ls.set (bkt now x.dl) (L++[x.slot])))∧yo D D' w)∧Mod D w w':=by
 have hal:zc w (w.alloc (.cells #[.int .u32 x.slot,.int .u64 x.dl,.int .u64 x.birth] 236)):=(Mod.refl _ w).alloc _;have h3:=zj (w:=w) (o := .cells #[.int .u32 x.slot,.int .u64 x.dl,.int .u64 x.birth] 236 (0,0)) rfl;have hl8:lvl now x.dl<8:=(kh h.box.now hd).1;have hbk:bkt now x.dl<256:=Y6;obtain⟨q,hq⟩ : ∃ q,ws[lvl now x.dl]? = some q:=⟨_,zL (by rw[h.box.len];exact hl8)⟩;have HPl:=za (UL (h.pure hal).box hd hne);obtain⟨lv,hlv⟩:=zf (lvl now x.dl);obtain⟨bk,hbk2⟩:=zf (bkt now x.dl);rw[hlv]at hl8 hq hL HPl ⊢;rw[hbk2]at hbk hK HPl ⊢;have nD : ∀ k,D k→k≠w.heap.size:=fun k hk e=>by have:=h.lt hk;omega
 have HC0:=za h;have HC:=za (h.pure hal);have HND:=za nD;have HAL:=za hal;have HL:=za hL;have HK:=za hK;have HF:=za hf;have HCa:=za hc;have HQ:=za hq;clear h hal nD hL hK hf hc hq hlv hbk2 hne;obtain⟨ne1,ne2,ne3⟩:=HC0.out.ne;unfold tdV;go_enter func258,ntmps258;go_upto_region 1 with fail
 generalize w.alloc (.cells #[.int .u32 x.slot,.int .u64 x.dl,.int .u64 x.birth] 236)=W1 at *;obtain⟨b3,hb3⟩:=zf w.heap.size;rw[hb3]at h3 HND ⊢;have HB3:=za hb3;have H3:=za h3;clear hb3;obtain⟨h3_0,h3_1,h3_2,h3_f,h3_l,H_h3⟩:=cr3 h3;clear h3;go_upto_region 2 with(go_at_call 256;refine HPl.out.mono ?_;rintro e w2 ⟨rfl,hp2⟩)
 have h32:=hp2.heap (fun h=>h) H3.out;have HC2:=za (HC.out.pure hp2);have hcl:=HC2.out.box.level HQ.out;obtain⟨c0,c9,c10,_,_⟩:=HC2.out.box.cells;have H32:=za h32;have HP2:=za hp2;clear h3_0 h3_1 h3_2 h3_f h3_l;clear H_h3 HC hp2 HPl;obtain⟨h32_0,h32_1,h32_2,h32_f,h32_l,H_h32⟩:=cr3 h32;clear h32;have dl8:decide (lv<8)=true:=zP hl8;have l0:(0:Int)≤(lv:Int):=by omega
 have l1:(lv:Int)<8:=by omega
 have HPu:=za (zjS ((HC2.out.lev lv q Ls HQ.out HL.out).pure ((Mod.refl _ w2).drew:zc w2 w2.drew)) hs HK.out HF.out)
 go_still_tail 9,(by kernel_rfl)
 go_upto_region 3 with(go_at_call 310;refine HPu.out.mono ?_;rintro e w3 ⟨rfl,⟨D3,hw3,hg3⟩,hm3⟩)
 have hm3':Mod (Ds lv) w2 w3:=Mod.of_drew hm3;have inD : ∀ k,Ds lv k→D k:=fun k hk=>(HC0.out.dd k).2 (.inr (.inr (.inr ⟨lv,hl8,hk⟩)))
 have hg3':yo (Ds lv) D3 w2:=hg3;obtain⟨D4,hC3,hg4⟩:=HC2.out.level hl8 HQ.out hw3 hg3' hm3';have h33:=hm3'.heap (fun e=>HND.out b3 (inD b3 e) rfl) H32.out;have HC3:=za hC3;have HG4:=za hg4;have HM3:=za (hm3'.mono (fun k _ hk=>inD k hk):Mod D w2 w3);have H33:=za h33;clear h32_0 h32_1 h32_2 h32_f h32_l;clear H_h32 hw3 hg3 hm3 hm3' inD hg3' hC3 hg4 HPu c0 c9 c10 hcl dl8;obtain⟨c0,c9,c10,_,_⟩:=HC3.out.box.cells;have nb1:bm≠b3:=fun e=>HND.out bm ((HC0.out.dd bm).2 (.inr (.inl rfl))) e
 have nb2:bb≠b3:=fun e=>HND.out bb ((HC0.out.dd bb).2 (.inr (.inr (.inl rfl)))) e
 obtain⟨h33_0,h33_1,h33_2,h33_f,h33_l,H_h33⟩:=cr3 h33;clear h33
 go_still_tail 7,(by kernel_rfl)
 go_upto_region 4 with(at_mapUpdate;refine Xk _ rfl _ _ _ 230 rfl 143 236 x9 underlying230 kF bm M.length Dm rfl HC3.out.what.own.drew hMl (.int .u32 x.slot) (tdV x) (kS x.slot) rfl rfl (uH (by omega)) (tdD x) [] (YS x) ?_;intro w4 ho4 hg4;go_frame)
 have hm4:Mod (fun k=>k=bm) w3 w4:=Mod.of_drew (Mod.of_grown hg4 (fun k e _=>by cases e;rfl));have hbx4:=HC3.out.box.mod hm4 (fun e=>ne2 e.symm);have hT4:=HC3.out.what.putC HCa.out ho4;have hB4:=HC3.out.births.mod hm4 (fun e=>ne1 e.symm);have h34:=hm4.heap (fun e=>nb1 e.symm) H33.out;have HM4:=za hm4;have HT4:=za hT4;have HB4:=za hB4;clear h33_0 h33_1 h33_2 h33_f h33_l;clear H_h33 hm4 hT4 hB4 ho4 hg4 c0 c9 c10;obtain⟨c0,c9,c10,_,_⟩:=hbx4.cells;clear hbx4;obtain⟨h34_0,h34_1,h34_2,h34_f,h34_l,H_h34⟩:=cr3 h34;clear h34
 go_still_tail 7,(by kernel_rfl)
 go_wp2_with (at_mapUpdate;refine Xk _ rfl _ _ _ 298 rfl 27 379 kP underlying298 unitElem bb M.length Db rfl HB4.out.own.drew hMl (.int .u64 x.birth) (.agg #[]) (kB x.birth) rfl rfl (qF hb) (.agg []) [] unitElem_mk ?_;intro w5 ho5 hg5;go_frame)
 have hm5:Mod (fun k=>k=bb) w4 w5:=Mod.of_drew (Mod.of_grown hg5 (fun k e _=>by cases e;rfl));have hB5:=HB4.out.putC HCa.out ho5;have hmm:Mod (fun k=>k=bm∨k=bb) w3 w5:=(HM4.out.mono (fun _ _ h=>Or.inl h)).trans (hm5.mono (fun _ _ h=>Or.inr h));have hsz:w.heap.size≤w2.heap.size:=(HAL.out.trans HP2.out).size
 go_end0
 refine⟨rfl,⟨D4,_,_,_,⟨HC3.out.box.mod hmm (fun e=>by rcases e with e | e;exact ne2 e.symm;exact ne3 e.symm),HT4.out.mod hm5 (fun e=>ne1 e),hB5,HC3.out.len,fun l q Ls hq hL=>(HC3.out.lev l q Ls hq hL).frame hmm (fun k hk e => ?_),HC3.out.apart,HC3.out.own,HC3.out.ne,HC3.out.dd⟩,fun k hk => ?_⟩,?_⟩
 ·have hl9:l<8:=by have:=(zE.1 hL).1;rw[HC3.out.len]at this;exact this
  obtain⟨_,o2,o3⟩:=HC3.out.own l k hl9 hk;rcases e with e | e
  ·exact o2 e
  ·exact o3 e
 ·rcases HG4.out k hk with e | e
  ·exact .inl e
  ·exact .inr (zH hsz e)
 ·refine((HAL.out.trans HP2.out).mono (fun _ _ h=>h.elim):Mod D w w2).trans (HM3.out.trans (hmm.mono (fun k _ hk => ?_)));exact Azur6
end
section
variable{w w':World}{D:Nat→Prop}{p now:Nat}{ws:List Nat}{bm bb:Nat}{Ds:Nat→Nat→Prop}{Dm Db:DataW Unit}{M:List Td}{Lss:List (List (List Nat))}
abbrev zTd:Td:=⟨0,0,0⟩
def getTd(M:List Td)(s:Nat):Td × Int:=if s<4194304 then(match M.find? (fun x=>x.slot==s)with | some x=>(x,0) | none=>(zTd,9))else(zTd,2)
theorem UH{s:Nat}{x:Td}(hs:s<4194304)(hx:M.find? (fun x=>x.slot==s)=some x):getTd M s=(x,0):=by unfold getTd;rw[zk hs,hx]
theorem Xd{s:Nat}(hs:s<4194304)(hx:M.find? (fun x=>x.slot==s)=none):getTd M s=(zTd,9):=by unfold getTd;rw[zk hs,hx]
theorem KO{s:Nat}(hs : ¬ s<4194304):getTd M s=(zTd,2):=by unfold getTd;rw[zh hs]
theorem Ju(h:yu w D p now ws bm bb Ds Dm Db M Lss){s:Nat}(h32:s≤4294967295) :
  Calls prog 301 #[lkP p,.int .u32 s] w fun e w'=>e=.returned (.tuple #[tdV (getTd M s).1,.int .i64 (getTd M s).2])∧zc w w':=by
 have hal:zc w (w.alloc (.cells #[.int .u32 0,.int .u64 0,.int .u64 0] 236)):=(Mod.refl _ w).alloc _;have h4:=zj (w:=w) (o := .cells #[.int .u32 0,.int .u64 0,.int .u64 0] 236 (0,0)) rfl;have HC:=za (h.pure hal);have HCk:=za (KS (h.pure hal).box h32);obtain⟨c0,c9,c10,_,_⟩:=(h.pure hal).box.cells;have HAL:=za hal;clear hal;by_cases hs:s<4194304
 ·have hse:qM s=0:=by unfold qM;rw[zk hs]
  rw[hse]at HCk
  cases hf:M.find? (fun x=>x.slot==s)with
  | some x =>
   have hxM:=Zx hf;have hxs:x.slot=s:=by have:=Vv hf;simpa using this
   subst hxs;have hlk:=HC.out.what.look hxM (by omega);rw[UH hs hf];unfold tdV at hlk ⊢;clear h hf hxM hse;go_enter func301,ntmps301;go_upto_region 1 with fail
   generalize w.alloc (.cells #[.int .u32 0,.int .u64 0,.int .u64 0] 236)=W1 at *;obtain⟨b4,hb4⟩:=zf w.heap.size;rw[hb4]at h4 ⊢;have hb4':w.heap.size≤b4:=by omega
   clear hb4;obtain⟨h4_0,h4_1,h4_2,h4_f,h4_l,H_h4⟩:=cr3 h4;clear h4
   go_wp2_with (go_at_call 198;refine HCk.out.mono ?_;rintro e w' ⟨rfl,rfl⟩)
   have hpp:=HAL.out;refine zN (v := .tuple #[.agg #[.int .u32 x.slot,.int .u64 x.dl,.int .u64 x.birth],.int .i64 0]) (by simp[results,results301,go_sem,h4_0,h4_1,h4_2,h4_l]) rfl ⟨rfl,?_⟩;exact yx
  | none =>
   have hnx : ∀ x∈M,x.slot≠s:=fun x hx e=>by have:=qm.1 hf x hx;simp[e]at this
   have hlk:=HC.out.what.look_no (s:=s) (by omega) hnx;rw[Xd hs hf];unfold tdV at hlk ⊢;clear h hf hnx hse;go_enter func301,ntmps301;go_upto_region 1 with fail
   generalize w.alloc (.cells #[.int .u32 0,.int .u64 0,.int .u64 0] 236)=W1 at *;obtain⟨b4,hb4⟩:=zf w.heap.size;rw[hb4]at h4 ⊢;have hb4':w.heap.size≤b4:=by omega
   clear hb4;obtain⟨h4_0,h4_1,h4_2,h4_f,h4_l,H_h4⟩:=cr3 h4;clear h4
   go_wp2_with (go_at_call 198;refine HCk.out.mono ?_;rintro e w' ⟨rfl,rfl⟩)
   have hpp:=HAL.out;refine zN (v := .tuple #[.agg #[.int .u32 0,.int .u64 0,.int .u64 0],.int .i64 9]) (by simp[results,results301,go_sem,h4_0,h4_1,h4_2,h4_l]) rfl ⟨rfl,?_⟩;exact yx
 ·have hse:qM s=2:=by unfold qM;rw[zh hs]
  rw[hse]at HCk;rw[KO hs];unfold tdV;clear h hse;go_enter func301,ntmps301;go_upto_region 1 with fail
  generalize w.alloc (.cells #[.int .u32 0,.int .u64 0,.int .u64 0] 236)=W1 at *;obtain⟨b4,hb4⟩:=zf w.heap.size;rw[hb4]at h4 ⊢;have hb4':w.heap.size≤b4:=by omega
  clear hb4;obtain⟨h4_0,h4_1,h4_2,h4_f,h4_l,H_h4⟩:=cr3 h4;clear h4
  go_wp2_with (go_at_call 198;refine HCk.out.mono ?_;rintro e w' ⟨rfl,rfl⟩)
  have hpp:=HAL.out;refine zN (v := .tuple #[.agg #[.int .u32 0,.int .u64 0,.int .u64 0],.int .i64 2]) (by simp[results,results301,go_sem,h4_0,h4_1,h4_2,h4_l]) rfl ⟨rfl,?_⟩;exact yx
end
section
variable{w w':World}{D:Nat→Prop}{p now:Nat}{ws:List Nat}{bm bb:Nat}{Ds:Nat→Nat→Prop}{Dm Db:DataW Unit}{M:List Td}{Lss:List (List (List Nat))}
theorem zeb(h:yu w D p now ws bm bb Ds Dm Db M Lss){x:Td}{M':List Td}(hg:M.find? (fun y=>y.slot==x.slot)=some x)(hs:x.slot<4194304)(hd:x.dl<18446744073709551616)(hb:x.birth≤18446744073709551615)(hne:x.dl≠now){Ls:List (List Nat)}{L:List Nat}
  (hL:Lss[lvl now x.dl]? = some Ls) (hK:Ls[bkt now x.dl]? = some L) (hf:x.slot∈L) (hM : ∀ y,y∈M'↔y∈M∧y.slot≠x.slot) (hM2 : ∀ y,y∈M'↔y∈M∧y.birth≠x.birth) (hl:M'.length+1=M.length) :
  Calls prog 252 #[lkP p,.int .u32 x.slot] w fun e w'=>e=.returned (.tuple #[tdV x,.int .i64 0])∧(∃ D' Ds' Dm' Db',yu w' D' p now ws bm bb Ds' Dm' Db' M' (Lss.set (lvl now x.dl) (Ls.set (bkt now x.dl) (L.erase x.slot)))∧yo D D' w)∧Mod D w w':=by
 have hal:zc w (w.alloc (.cells #[.int .u32 0,.int .u64 0,.int .u64 0] 236)):=(Mod.refl _ w).alloc _;have h4:=zj (w:=w) (o := .cells #[.int .u32 0,.int .u64 0,.int .u64 0] 236 (0,0)) rfl;have hl8:lvl now x.dl<8:=(kh h.box.now hd).1;obtain⟨q,hq⟩ : ∃ q,ws[lvl now x.dl]? = some q:=⟨_,zL (by rw[h.box.len];exact hl8)⟩;have hget:=Ju (h.pure hal) (s:=x.slot) (by omega);rw[UH hs hg]at hget;have HGe:=za hget;have HPl:=za (fun(W:World) (hW:zc (w.alloc (.cells #[.int .u32 0,.int .u64 0,.int .u64 0] 236)) W)=>UL ((h.pure hal).pure hW).box hd hne);obtain⟨lv,hlv⟩:=zf (lvl now x.dl);obtain⟨bk,hbk2⟩:=zf (bkt now x.dl);rw[hlv]at hl8 hq hL HPl ⊢;rw[hbk2]at hK HPl ⊢;have nD : ∀ k,D k→k<w.heap.size:=fun k hk=>h.lt hk
 have HC0:=za h;have HC:=za (h.pure hal);have HND:=za nD;have HAL:=za hal;have HXM:=za (Zx hg);have HL:=za hL;have HK:=za hK;have HF:=za hf;have HQ:=za hq;have HM:=za hM;have HM2:=za hM2;clear h hal nD hL hK hf hq hlv hbk2 hne hg hM hM2 hget;unfold tdV at HGe ⊢;dsimp only at HGe;go_enter func252,ntmps252;go_upto_region 1 with fail
 generalize w.alloc (.cells #[.int .u32 0,.int .u64 0,.int .u64 0] 236)=W1 at *;obtain⟨b4,hb4⟩:=zf w.heap.size;rw[hb4]at h4 HND ⊢;have HB4:=za hb4;have H4:=za h4;clear hb4 h4;go_upto_region 2 with(go_at_call 301;refine HGe.out.mono ?_;rintro e w2 ⟨rfl,hp2⟩)
 have hal2:zc w2 (w2.alloc (.cells #[.int .u32 x.slot,.int .u64 x.dl,.int .u64 x.birth] 236)):=(Mod.refl _ w2).alloc _;have h6:=zj (w:=w2) (o := .cells #[.int .u32 x.slot,.int .u64 x.dl,.int .u64 x.birth] 236 (0,0)) rfl;have hp3:=hp2.trans hal2;have hb46:b4<w2.heap.size:=hp2.lt (zm H4.out);have HP3:=za hp3;have HC3:=za (HC.out.pure hp3);have HPl3:=za (HPl.out _ hp3);clear hal2 hp2 hp3 HPl HGe;generalize w2.alloc (.cells #[.int .u32 x.slot,.int .u64 x.dl,.int .u64 x.birth] 236)=W3 at *;generalize w2.heap.size=b6 at *;have H6:=za h6;obtain⟨h6_0,h6_1,h6_2,h6_f,h6_l,H_h6⟩:=cr3 h6;clear h6;go_upto_region 4 with(go_at_call 256;refine HPl3.out.mono ?_;rintro e w4 ⟨rfl,hp4⟩)
 have h64:=hp4.heap (fun h=>h) H6.out;have HC4:=za (HC3.out.pure hp4);have hcl:=HC4.out.box.level HQ.out;have HP4:=za (HP3.out.trans hp4);clear h6_0 h6_1 h6_2 h6_f h6_l;clear H_h6 HPl3 hp4 HC3;have dl8:decide (lv<8)=true:=zP hl8;have l0:(0:Int)≤(lv:Int):=by omega
 have l1:(lv:Int)<8:=by omega
 have HRe:=za (zbF (HC4.out.lev lv q Ls HQ.out HL.out) hs HK.out HF.out);obtain⟨c0,c9,c10,_,_⟩:=HC4.out.box.cells;have H64:=za h64;clear h64;go_upto_region 5 with(go_at_call 302;refine HRe.out.mono ?_;rintro e w5 ⟨rfl,hw5,hm5⟩)
 obtain⟨D4,hC5,hg5⟩:=HC4.out.level hl8 HQ.out hw5 (yo.refl _ _) hm5;have inD : ∀ k,Ds lv k→D k:=fun k hk=>(HC0.out.dd k).2 (.inr (.inr (.inr ⟨lv,hl8,hk⟩)))
 have hb46':b4<b6:=hb46;have h65:=hm5.heap (fun e=>by have:=HND.out b6 (inD b6 e);omega) H64.out;have hmD:Mod D w4 w5:=hm5.mono (fun k _ hk=>inD k hk);have h45:=hmD.heap (fun e=>by have:=HND.out b4 e;omega) (HP4.out.heap (fun h=>h) H4.out);have hfo:=zc5 hC5 HXM.out (by omega) hb HM.out HM2.out hl;unfold tdV at hfo;have HFo:=za hfo;have HG5:=za hg5;have HMD:=za hmD;have H65:=za h65;have H45:=za h45;have hnm : ∀ k,(k=bm∨k=bb)→D k:=fun k hk=>by
  exact Azur6
 have HNM:=za hnm;clear hC5 hg5 inD hm5 hw5 hmD hfo h45 hnm HRe c0 c9 c10 hcl;obtain⟨h65_0,h65_1,h65_2,h65_f,h65_l,H_h65⟩:=cr3 h65;clear h65;go_upto_region 6 with(go_at_call 259;refine HFo.out.mono ?_;rintro e w6 ⟨rfl,⟨Dm',Db',hC6⟩,hm6⟩)
 have h66:=hm6.heap (fun e=>by have:=HND.out b6 (HNM.out b6 e);omega) H65.out;have h46:=hm6.heap (fun e=>by have:=HND.out b4 (HNM.out b4 e);omega) H45.out;have HC6:=za hC6;have HM6:=za hm6;have H46:=za h46;have hsz:w.heap.size≤w4.heap.size:=(HAL.out.trans HP4.out).size;have HSZ:=za hsz;clear h65_0 h65_1 h65_2 h65_f h65_l;clear H_h65 hC6 hm6 hsz;obtain⟨h66_0,h66_1,h66_2,h66_f,h66_l,H_h66⟩:=cr3 h66;clear h66;obtain⟨h46_0,h46_1,h46_2,h46_f,h46_l,H_h46⟩:=cr3 h46;clear h46;go_wp2;have hmf:Mod (fun k=>k=b4) w6 (((w6.setCell ⟨b4,0,none⟩ (.int .u32 x.slot)).setCell ⟨b4,1,none⟩ (.int .u64 x.dl)).setCell ⟨b4,2,none⟩ (.int .u64 x.birth)) :=
  (((Mod.refl (fun k=>k=b4) w6).setCell (p:=⟨b4,0,none⟩) (fun _=>rfl) _).setCell (p:=⟨b4,1,none⟩) (fun _=>rfl) _).setCell (p:=⟨b4,2,none⟩) (fun _=>rfl) _
 have hD4 : ∀ k,D4 k→k≠b4:=fun k hk e=>by
  subst e;rcases HG5.out k hk with c | c
  ·have:=HND.out k c;omega
  ·have:=HP4.out.size;have:=zm H4.out;omega
 have hB4:b4=w.heap.size:=HB4.out.symm;refine zN (v := .tuple #[.agg #[.int .u32 x.slot,.int .u64 x.dl,.int .u64 x.birth],.int .i64 0]) (by simp[results,results252,go_sem,h46_0,h46_1,h46_2,h46_l]) rfl ⟨rfl,⟨D4,_,_,_,HC6.out.frame hmf (fun k hk e=>hD4 k hk e),fun k hk => ?_⟩,?_⟩
 ·rcases HG5.out k hk with c | c
  ·exact .inl c
  ·exact .inr (zH HSZ.out c)
 ·exact(((HAL.out.trans HP4.out).mono (fun _ _ h=>h.elim):Mod D w w4).trans (HMD.out.trans (HM6.out.mono (fun k _ hk=>HNM.out k hk)))).then hmf (fun k hk e=>by exfalso;omega)
end
section
variable{w w':World}{D:Nat→Prop}{p now:Nat}{ws:List Nat}{bm bb:Nat}{Ds:Nat→Nat→Prop}{Dm Db:DataW Unit}{M:List Td}{Lss:List (List (List Nat))}
theorem zif(h:yu w D p now ws bm bb Ds Dm Db M Lss){s:Nat}(h32:s≤4294967295){er:Int}(he:getTd M s=(zTd,er))(h0:er≠0) :
  Calls prog 252 #[lkP p,.int .u32 s] w fun e w'=>e=.returned (.tuple #[tdV zTd,.int .i64 er])∧zc w w':=by
 have hal:zc w (w.alloc (.cells #[.int .u32 0,.int .u64 0,.int .u64 0] 236)):=(Mod.refl _ w).alloc _;have h4:=zj (w:=w) (o := .cells #[.int .u32 0,.int .u64 0,.int .u64 0] 236 (0,0)) rfl;have hget:=Ju (h.pure hal) (s:=s) h32;rw[he]at hget;have HGe:=za hget;have HAL:=za hal;have e0:(er==0)=false:=by simpa using h0
 clear h hal hget he h0;unfold tdV at HGe ⊢;dsimp only at HGe;go_enter func252,ntmps252;go_upto_region 1 with fail
 generalize w.alloc (.cells #[.int .u32 0,.int .u64 0,.int .u64 0] 236)=W1 at *;obtain⟨b4,hb4⟩:=zf w.heap.size;rw[hb4]at h4 ⊢;have hb4':w.heap.size≤b4:=by omega
 have H4:=za h4;clear hb4 h4;go_upto_region 2 with(go_at_call 301;refine HGe.out.mono ?_;rintro e w2 ⟨rfl,hp2⟩)
 have hal2:zc w2 (w2.alloc (.cells #[.int .u32 0,.int .u64 0,.int .u64 0] 236)):=(Mod.refl _ w2).alloc _;have h6:=zj (w:=w2) (o := .cells #[.int .u32 0,.int .u64 0,.int .u64 0] 236 (0,0)) rfl;have h42:=(hp2.trans hal2).heap (fun h=>h) H4.out;have HPP:=za (HAL.out.trans (hp2.trans hal2));clear hal2 hp2 HGe;generalize w2.alloc (.cells #[.int .u32 0,.int .u64 0,.int .u64 0] 236)=W3 at *;generalize w2.heap.size=b6 at *;obtain⟨h6_0,h6_1,h6_2,h6_f,h6_l,H_h6⟩:=cr3 h6;clear h6;obtain⟨h42_0,h42_1,h42_2,h42_f,h42_l,H_h42⟩:=cr3 h42;clear h42;go_wp2;have hpp:=HPP.out;refine zN (v := .tuple #[.agg #[.int .u32 0,.int .u64 0,.int .u64 0],.int .i64 er]) (by simp[results,results252,go_sem,h42_0,h42_1,h42_2,h42_l]) rfl ⟨rfl,?_⟩;exact yx
theorem zjv(h:yu w D p now ws bm bb Ds Dm Db M Lss):Calls prog 131 #[lkP p] w fun e w'=>e=.returned (.int .u64 now)∧w=w':=by
 have HCk:=za (Y1 h.box (s:=0) (by omega));obtain⟨c0,c9,c10,_,_⟩:=h.box.cells;clear h;go_enter func131,ntmps131
 go_wp2_with (go_at_call 198;refine HCk.out.mono ?_;rintro e w' ⟨rfl,rfl⟩)
 go_ret;exact⟨rfl,rfl⟩
end
def atE(now s dl:Nat):Int:=if s<4194304 then(if dl=18446744073709551615 then 2 else if dl≤now then 3 else 0)else 2
section
variable{w w':World}{p now bm bb:Nat}{ws:List Nat}
theorem Az3nq {P:Prop}(h:P:=by
 go_enter func303,ntmps303
 go_wp2_with (go_at_call 198;refine HCk.out.mono ?_;rintro e w' ⟨rfl,rfl⟩)
 go_ret;exact⟨rfl,rfl⟩):P:=h
theorem Ko(h:kE w p now ws bm bb){s dl:Nat}(h32:s≤4294967295)(hd:dl≤18446744073709551615):Calls prog 303 #[lkP p,.int .u32 s,.int .u64 dl] w fun e w'=>e=.returned (.int .i64 (atE now s dl))∧w=w':=by
 have HCk:=za (KS h h32);obtain⟨c0,_,_,_,_⟩:=h.cells;clear h;unfold qM at HCk;unfold atE;by_cases hs:s<4194304
 ·rw[zk hs]at HCk ⊢;by_cases hn:dl=18446744073709551615
  ·rw[zk hn];have e1:((dl:Int)==18446744073709551615)=true:=by simp;omega
   clear hn;exact Az3nq
  ·rw[zh hn];have e1:((dl:Int)==18446744073709551615)=false:=by simp;omega
   clear hn;by_cases hl:dl≤now
   ·rw[zk hl];have d1:decide ((dl:Int)≤(now:Int))=true:=zP (by omega);have d2:decide (dl≤now)=true:=zP hl;exact Az3nq
   ·rw[zh hl];have d1:decide ((dl:Int)≤(now:Int))=false:=zR (by omega);have d2:decide (dl≤now)=false:=zR hl;exact Az3nq
 ·rw[zh hs]at HCk ⊢;exact Az3nq
end
section
variable{w w':World}{D:Nat→Prop}{p now:Nat}{ws:List Nat}{bm bb:Nat}{Ds:Nat→Nat→Prop}{Dm Db:DataW Unit}{M:List Td}{Lss:List (List (List Nat))}
theorem Azpue {P:Prop}(h:P:=by
 go_region
 all_goals
   (try go_wp2)
   try go_meet
   first
     | exact⟨rfl,hpx⟩
     | exact⟨rfl,hpx.drew⟩
     | exact⟨rfl,hpx.alloc _⟩
     | exact⟨rfl,(hpx.alloc _).drew⟩):P:=h
theorem Azhsu {P:Prop}(h:P:=by
 go_region
 all_goals
   (try go_wp2)
   go_meet
   first
     | exact⟨rfl,(Mod.refl _ _).alloc _⟩
     | exact⟨rfl,((Mod.refl _ _).alloc _).drew⟩):P:=h
theorem zeL(h:yu w D p now ws bm bb Ds Dm Db M Lss){x:Td}(hs:x.slot<4194304)(hd:x.dl<18446744073709551615)(hb:x.birth≤18446744073709551615)(hb0:x.birth≠0)(hn:now<x.dl)(hMl:M.length<maxLen){Ls:List (List Nat)}{L:List Nat}
    (hL:Lss[lvl now x.dl]? = some Ls) (hK:Ls[bkt now x.dl]? = some L) (hf : ¬ inL Ls x.slot) (h1 : ∀ y∈M,y.slot≠x.slot) (h2 : ∀ y∈M,y.birth≠x.birth) :
    Calls prog 253 #[lkP p,tdV x] w fun e w'=>e=.returned (.int .i64 0)∧(∃ D' Ds' Dm' Db',yu w' D' p now ws bm bb Ds' Dm' Db' (x::M) (Lss.set (lvl now x.dl) (Ls.set (bkt now x.dl) (L++[x.slot])))∧yo D D' w)∧Mod D w w':=by
  have hal:zc w (w.alloc (.cells #[.int .u32 x.slot,.int .u64 x.dl,.int .u64 x.birth] 236)):=(Mod.refl _ w).alloc _;have h3:=zj (w:=w) (o := .cells #[.int .u32 x.slot,.int .u64 x.dl,.int .u64 x.birth] 236 (0,0)) rfl;have HC:=za (h.pure hal);have HCk:=za (Y1 (h.pure hal).box hs);have hat:=Ko (h.pure hal).box (s:=x.slot) (dl:=x.dl) (by omega) (by omega);unfold atE at hat;rw[zk hs,zh (by omega),zh (by omega)]at hat;have HAt:=za hat;have HPu:=za (fun(W:World) (hW:zc w W)=>Qy (h.pure hW) (x:=x) (M':=x::M) hs (by omega) hb (by omega) hMl hL hK hf (.inl ⟨h1,h2,rfl⟩));have hlk:=fun(W:World) (hW:zc (w.alloc (.cells #[.int .u32 x.slot,.int .u64 x.dl,.int .u64 x.birth] 236)) W)=>((h.pure hal).pure hW).what.look_no (s:=x.slot) (by omega) h1
  have hlb:=fun(W:World) (hW:zc (w.alloc (.cells #[.int .u32 x.slot,.int .u64 x.dl,.int .u64 x.birth] 236)) W)=>((h.pure hal).pure hW).births.look (s:=x.birth) hb
  have hbh:Maps.has Db (kB x.birth)=false:=by
    cases hh:Maps.has Db (kB x.birth)with
    | false=>rfl
    | true=>obtain⟨y,hy,e⟩:=(h.births.has _).1 hh;exact absurd e (h2 y hy)
  rw[hbh]at hlb;have HLK:=za hlk;have HLB:=za hlb;have HAL:=za hal;have e0:((x.birth:Int)==0)=false:=by simp;omega
  clear h hal hat hlk hlb hbh hL hK hf h1 h2 hb0;unfold tdV at HPu HLK ⊢;go_enter func253,ntmps253;go_upto_region 1 with fail
  generalize w.alloc (.cells #[.int .u32 x.slot,.int .u64 x.dl,.int .u64 x.birth] 236)=W1 at *;obtain⟨b3,hb3⟩:=zf w.heap.size;rw[hb3]at h3 ⊢;have H3:=za h3;clear hb3;obtain⟨h3_0,h3_1,h3_2,h3_f,h3_l,H_h3⟩:=cr3 h3;clear h3;obtain⟨c0,c9,c10,_,_⟩:=HC.out.box.cells;go_upto_region 9 with(first
    | (go_at_call 198;refine HCk.out.mono ?_;rintro e w' ⟨rfl,rfl⟩)
    | (go_at_call 303;refine HAt.out.mono ?_;rintro e w' ⟨rfl,rfl⟩))
  have hk1:=HLK.out W1 (Mod.refl _ _);have hk2:=HLK.out W1.drew (Mod.refl _ _).drew;have hk3:=HLK.out (W1.alloc (.cells #[.int .u32 0,.int .u64 0,.int .u64 0] 236)) ((Mod.refl _ _).alloc _);have hk4:=HLK.out (W1.alloc (.cells #[.int .u32 0,.int .u64 0,.int .u64 0] 236)).drew ((Mod.refl _ _).alloc _).drew
  go_cut [8] (fun v wx=>v=.bool false∧zc W1 wx)
  case first =>
    exact Azhsu
  case rest =>
    obtain⟨rfl,hpx⟩:=hcut;have h3x:=hpx.heap (fun h=>h) H3.out;have HCx:=za (HC.out.pure hpx);have HPX:=za hpx;have H3x:=za h3x;clear h3_0 h3_1 h3_2 h3_f h3_l;clear H_h3 c0 c9 c10 hk1 hk2 hk3 hk4;obtain⟨h3x_0,h3x_1,h3x_2,h3x_f,h3x_l,H_h3x⟩:=cr3 h3x;clear h3x;obtain⟨c0,c9,c10,_,_⟩:=HCx.out.box.cells;have hk1:=HLB.out wc hpx;have hk2:=HLB.out wc.drew hpx.drew;have hk3:=HLB.out (wc.alloc (.cells #[] 379)) (hpx.alloc _);have hk4:=HLB.out (wc.alloc (.cells #[] 379)).drew (hpx.alloc _).drew;go_upto_region 10 with fail
    go_cut [10] (fun v wx=>v=.bool false∧zc W1 wx)
    case first =>
      exact Azpue
    case rest =>
      obtain⟨rfl,hpy⟩:=hcut;have h3y:=hpy.heap (fun h=>h) H3.out;have HCy:=za (HC.out.pure hpy);have HPY:=za hpy;have H3y:=za h3y;clear h3x_0 h3x_1 h3x_2 h3x_f h3x_l;clear H_h3x c0 c9 c10 hk1 hk2 hk3 hk4 HCx;obtain⟨h3y_0,h3y_1,h3y_2,h3y_f,h3y_l,H_h3y⟩:=cr3 h3y;clear h3y;obtain⟨c0,c9,c10,_,_⟩:=HCy.out.box.cells;go_upto_region 13 with fail
      go_upto_region 14 with(go_at_call 258;refine zq (HPu.out _ (by first | exact HAL.out.trans HPY.out | exact(HAL.out.trans HPY.out).drew)) ?_;rintro e w' ⟨rfl,⟨D',Ds',Dm',Db',hC,hg⟩,hm⟩)
      have hm0:Mod D w w':=((HAL.out.trans HPY.out).mono (fun _ _ h=>h.elim):Mod D w wc).trans (by first | exact hm | exact Mod.of_drew hm);have hg0:yo D D' w:=fun k hk=>by
        rcases hg k hk with e | e
        · exact .inl e
        · exact .inr (zH (HAL.out.trans HPY.out).size e)
      have HF:=za hC;have HM:=za hm0;have HG:=za hg0;clear hC hm hg hm0 hg0;go_wp2;exact zN (v := .int .i64 0) (by simp[results,results253,go_sem]) rfl ⟨rfl,⟨_,_,_,_,HF.out,HG.out⟩,HM.out⟩
end
def kU(now:Nat)(x:Td):Int:=if x.slot<4194304 then(if x.birth=0 then 2 else atE now x.slot x.dl)else 2
section
variable{w w':World}{D:Nat→Prop}{p now:Nat}{ws:List Nat}{bm bb:Nat}{Ds:Nat→Nat→Prop}{Dm Db:DataW Unit}{M:List Td}{Lss:List (List (List Nat))}
theorem Azek1 {P:Prop}(h:P:=by
 go_wp2_with (go_at_call 198;refine HCk2.out.mono ?_;rintro e w' ⟨rfl,rfl⟩)
 have hpp:=HAL.out;exact zN (v := .int .i64 2) (by simp[results,results253,go_sem]) rfl ⟨rfl,by first | exact hpp | exact hpp.drew⟩):P:=h
theorem ziY(h:yu w D p now ws bm bb Ds Dm Db M Lss){x:Td}(h32:x.slot≤4294967295)(hd:x.dl≤18446744073709551615)(hb:x.birth≤18446744073709551615)(he:kU now x≠0) :
    Calls prog 253 #[lkP p,tdV x] w fun e w'=>e=.returned (.int .i64 (kU now x))∧zc w w':=by
  have hal:zc w (w.alloc (.cells #[.int .u32 x.slot,.int .u64 x.dl,.int .u64 x.birth] 236)):=(Mod.refl _ w).alloc _;have h3:=zj (w:=w) (o := .cells #[.int .u32 x.slot,.int .u64 x.dl,.int .u64 x.birth] 236 (0,0)) rfl;have hck:=KS (h.pure hal).box (s:=x.slot) h32;unfold qM at hck;have hat:=Ko (h.pure hal).box (s:=x.slot) (dl:=x.dl) h32 hd;have HCk:=za hck;have HAt:=za hat;have HAL:=za hal;obtain⟨E,hE⟩:=zf (kU now x);rw[hE]at he ⊢;clear h hal hck hat;unfold tdV;go_enter func253,ntmps253;go_upto_region 1 with fail
  generalize w.alloc (.cells #[.int .u32 x.slot,.int .u64 x.dl,.int .u64 x.birth] 236)=W1 at *;obtain⟨b3,hb3⟩:=zf w.heap.size;rw[hb3]at h3 ⊢;clear hb3;obtain⟨h3_0,h3_1,h3_2,h3_f,h3_l,H_h3⟩:=cr3 h3;clear h3;unfold kU at hE;by_cases hs:x.slot<4194304
  · rw[zk hs]at hE
    have hck:=HCk.out;rw[zk hs]at hck;have HCk2:=za hck;clear HCk hck;by_cases hb0:x.birth=0
    · rw[zk hb0]at hE
      subst hE;have e0:((x.birth:Int)==0)=true:=by simp;omega
      exact Azek1
    · rw[zh hb0]at hE
      have e0:((x.birth:Int)==0)=false:=by simp;omega
      rw[hE]at HAt;have e1:(E==0)=false:=by simpa using he
      clear hE
      go_wp2_with (first
        | (go_at_call 198;refine HCk2.out.mono ?_;rintro e w' ⟨rfl,rfl⟩)
        | (go_at_call 303;refine HAt.out.mono ?_;rintro e w' ⟨rfl,rfl⟩))
      have hpp:=HAL.out;exact zN (v := .int .i64 E) (by simp[results,results253,go_sem]) rfl ⟨rfl,by first | exact hpp | exact hpp.drew⟩
  · rw[zh hs]at hE
    subst hE;have hck:=HCk.out;rw[zh hs]at hck;have HCk2:=za hck;clear HCk hck;exact Azek1
end
section
variable{w w':World}{D:Nat→Prop}{p now:Nat}{ws:List Nat}{bm bb:Nat}{Ds:Nat→Nat→Prop}{Dm Db:DataW Unit}{M:List Td}{Lss:List (List (List Nat))}
theorem ziU(h:yu w D p now ws bm bb Ds Dm Db M Lss){x:Td}(hs:x.slot<4194304)(hd:x.dl<18446744073709551615)(hb:x.birth≤18446744073709551615)(hb0:x.birth≠0)(hn:now<x.dl)(h1:(∃ y∈M,y.slot=x.slot) ∨ ∃ y∈M,y.birth=x.birth) :
    Calls prog 253 #[lkP p,tdV x] w fun e w'=>e=.returned (.int .i64 11)∧zc w w':=by
  have hal:zc w (w.alloc (.cells #[.int .u32 x.slot,.int .u64 x.dl,.int .u64 x.birth] 236)):=(Mod.refl _ w).alloc _;have h3:=zj (w:=w) (o := .cells #[.int .u32 x.slot,.int .u64 x.dl,.int .u64 x.birth] 236 (0,0)) rfl;have HC:=za (h.pure hal);have HCk:=za (Y1 (h.pure hal).box hs);have hat:=Ko (h.pure hal).box (s:=x.slot) (dl:=x.dl) (by omega) (by omega);unfold atE at hat;rw[zk hs,zh (by omega),zh (by omega)]at hat;have HAt:=za hat;obtain⟨z,b1,b2,hlk,hlb,hbz⟩ : ∃(z:Td) (b1 b2:Bool),(∀ W,zc (w.alloc (.cells #[.int .u32 x.slot,.int .u64 x.dl,.int .u64 x.birth] 236)) W→(Instr.lookup 230 (.map (some bm)) (.int .u32 x.slot) true).run prog W=.ok (.tuple #[tdV z,.bool b1]) W)∧(∀ W,zc (w.alloc (.cells #[.int .u32 x.slot,.int .u64 x.dl,.int .u64 x.birth] 236)) W→(Instr.lookup 298 (.map (some bb)) (.int .u64 x.birth) true).run prog W=.ok (.tuple #[.agg #[],.bool b2]) W)∧(b1=true∨b1=false∧b2=true):=by
    have hlb:=fun(W:World) (hW:zc (w.alloc (.cells #[.int .u32 x.slot,.int .u64 x.dl,.int .u64 x.birth] 236)) W)=>((h.pure hal).pure hW).births.look (s:=x.birth) hb
    by_cases hy : ∃ y∈M,y.slot=x.slot
    · obtain⟨y,hy,e⟩:=hy
      refine⟨y,true,_,fun W hW => ?_,hlb,.inl rfl⟩;have:=((h.pure hal).pure hW).what.look hy (by omega);rw[e]at this;exact this
    · refine⟨⟨0,0,0⟩,false,_,fun W hW=>((h.pure hal).pure hW).what.look_no (s:=x.slot) (by omega) (fun y hm e=>hy ⟨y,hm,e⟩),hlb,.inr ⟨rfl,?_⟩⟩
      rcases h1 with h1 | ⟨y,hm,e⟩
      · exact absurd h1 hy
      · exact(h.births.has _).2 ⟨y,hm,e⟩
  have HLK:=za hlk;have HLB:=za hlb;have HAL:=za hal;have e0:((x.birth:Int)==0)=false:=by simp;omega
  clear h hal hat hlk hlb h1 hb0;unfold tdV at HLK ⊢;go_enter func253,ntmps253;go_upto_region 1 with fail
  generalize w.alloc (.cells #[.int .u32 x.slot,.int .u64 x.dl,.int .u64 x.birth] 236)=W1 at *;obtain⟨b3,hb3⟩:=zf w.heap.size;rw[hb3]at h3 ⊢;have H3:=za h3;clear hb3;obtain⟨h3_0,h3_1,h3_2,h3_f,h3_l,H_h3⟩:=cr3 h3;clear h3;obtain⟨c0,c9,c10,_,_⟩:=HC.out.box.cells;go_upto_region 9 with(first
    | (go_at_call 198;refine HCk.out.mono ?_;rintro e w' ⟨rfl,rfl⟩)
    | (go_at_call 303;refine HAt.out.mono ?_;rintro e w' ⟨rfl,rfl⟩))
  have hk1:=HLK.out W1 (Mod.refl _ _);have hk2:=HLK.out W1.drew (Mod.refl _ _).drew;have hk3:=HLK.out (W1.alloc (.cells #[.int .u32 0,.int .u64 0,.int .u64 0] 236)) ((Mod.refl _ _).alloc _);have hk4:=HLK.out (W1.alloc (.cells #[.int .u32 0,.int .u64 0,.int .u64 0] 236)).drew ((Mod.refl _ _).alloc _).drew
  go_cut [8] (fun v wx=>v=.bool b1∧zc W1 wx)
  case first =>
    exact Azhsu
  case rest =>
    obtain⟨rfl,hpx⟩:=hcut;have h3x:=hpx.heap (fun h=>h) H3.out;have HCx:=za (HC.out.pure hpx);have HPX:=za hpx;have H3x:=za h3x;clear h3_0 h3_1 h3_2 h3_f h3_l;clear H_h3 c0 c9 c10 hk1 hk2 hk3 hk4;obtain⟨h3x_0,h3x_1,h3x_2,h3x_f,h3x_l,H_h3x⟩:=cr3 h3x;clear h3x;obtain⟨c0,c9,c10,_,_⟩:=HCx.out.box.cells;have hk1:=HLB.out wc hpx;have hk2:=HLB.out wc.drew hpx.drew;have hk3:=HLB.out (wc.alloc (.cells #[] 379)) (hpx.alloc _);have hk4:=HLB.out (wc.alloc (.cells #[] 379)).drew (hpx.alloc _).drew;go_upto_region 10 with fail
    go_cut [10] (fun v wx=>v=.bool b2∧zc W1 wx)
    case first =>
      exact Azpue
    case rest =>
      obtain⟨rfl,hpy⟩:=hcut;have h3y:=hpy.heap (fun h=>h) H3.out;have HCy:=za (HC.out.pure hpy);have HPY:=za hpy;have H3y:=za h3y;clear h3x_0 h3x_1 h3x_2 h3x_f h3x_l;clear H_h3x c0 c9 c10 hk1 hk2 hk3 hk4 HCx;obtain⟨h3y_0,h3y_1,h3y_2,h3y_f,h3y_l,H_h3y⟩:=cr3 h3y;clear h3y;obtain⟨c0,c9,c10,_,_⟩:=HCy.out.box.cells;have hpp:=HAL.out.trans HPY.out;rcases hbz with rfl | ⟨rfl,rfl⟩
      all_goals
        go_wp2;exact zN (v := .int .i64 11) (by simp[results,results253,go_sem]) rfl ⟨rfl,by first | exact hpp | exact hpp.drew⟩
end
end
end Go.Proofs.YtdohbogbnheakaaGreatDoor
