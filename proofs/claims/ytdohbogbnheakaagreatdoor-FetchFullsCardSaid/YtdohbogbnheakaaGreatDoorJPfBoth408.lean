/- Lemmas and contracts of functions. No condition. -/
import Derived.Test.YtdohbogbnheakaaGreatDoorJPfBoth407
namespace Go.Proofs.YtdohbogbnheakaaGreatDoor
open _root_.Go.Proofs.Tryz
set_option maxRecDepth 100000
set_option maxHeartbeats 20000000
set_option linter.all false
section
open Go.RowKit Go.Shelf
theorem zkC : ∀ a b c d e f g i:Bool,(vF (zJ [a,b,c,d,e,f,g,i])).length=[a,b,c,d,e,f,g,i].countP id:=by decide +kernel
theorem zeH{c:Grp}(h:xV c):(ku c).length=c.1.countP (· < 128):=by
 obtain⟨x0,x1,x2,x3,x4,x5,x6,x7,e⟩:=jZ h.ctl.1;unfold ku;rw[e];simp only[List.map_cons,List.map_nil];rw[zkC];simp only[List.countP_cons,List.countP_nil,id]
theorem zc2{Gs:List Grp}(h:xz Gs):(Gs.flatMap vq).length=zD Gs:=by
 unfold zD;rw[List.length_flatMap]
 congr 1
 refine uu (fun c hc => ?_);unfold vq;rw[yn,zeH (h.grp c hc)]
theorem Azjm0 {P:Prop}(h:P:=by
 unfold ku;rw[JL (by simp[hc.ctl.1])];simp only[List.mem_filter,List.mem_range,List.getD_eq_getElem?_getD,List.getElem?_map]
 cases c.1[j]? <;> simp):P:=h
theorem zfQ{c:Grp}(hc:xV c)(j:Nat):j∈ku c↔j<8 ∧ ∃ t,c.1[j]? = some t∧t<128:=by
 exact Azjm0
theorem zib(c:Grp):(ku c).Pairwise (· < ·):=by
 unfold ku vF;exact List.Pairwise.filter _ List.pairwise_lt_range
theorem zdT{Gs:List Grp}(h:xz Gs)(s:Nat):s∈Gs.flatMap vq ↔ ∃ i j t,vQ Gs i j t s:=by
 have hin : ∀ c,xV c → ∀ j,j∈ku c↔j<8 ∧ ∃ t,c.1[j]? = some t∧t<128:=fun c hc j=>by
  exact Azjm0
 constructor
 ·intro hs;obtain⟨c,hc,hs⟩:=ZX.1 hs;obtain⟨j,hj,rfl⟩:=zz.1 hs;obtain⟨i,hi⟩:=ur hc;have hl:i<Gs.length:=(zE.1 hi).1;have e:zn Gs i=c:=by have:=uj hl;rw[hi]at this;cases this;rfl
  obtain⟨hj8,t,ht,ht2⟩:=(hin c (h.grp c hc) j).1 hj;exact⟨i,j,t,hl,hj8,by rw[e];exact ht,ht2,by unfold zT;rw[e]⟩
 ·rintro⟨i,j,t,hf⟩;refine ZX.2 ⟨zn Gs i,yl (uj hf.hi),zz.2 ⟨j,(hin _ (h.at hf.hi) j).2 ⟨hf.hj,t,hf.tag,hf.full⟩,hf.slot⟩⟩
theorem Uo{Gs:List Grp}{i:Nat}(h:xz Gs)(hi:i<Gs.length){j:Nat}(hj:j∈ku (zn Gs i)) : ∃ t,vQ Gs i j t ((zn Gs i).2.getD j 0):=by
 obtain⟨h8,t,ht,ht2⟩:=(zfQ (h.at hi) j).1 hj;exact⟨t,hi,h8,ht,ht2,rfl⟩
theorem yG.nodup{H:Nat→Nat}{S:Nat→Prop}{Gs:List Grp}(h:yG H S Gs):(Gs.flatMap vq).Nodup:=by
 unfold List.Nodup;rw[List.pairwise_flatMap];constructor
 ·intro c hc;obtain⟨i,hi⟩:=ur hc;have hl:i<Gs.length:=(zE.1 hi).1;have e:zn Gs i=c:=by have:=uj hl;rw[hi]at this;cases this;rfl
  unfold vq;rw[uQ];refine(zib c).imp_of_mem (fun {a b} ha hb hab => ?_);intro e2;rw[← e]at ha hb e2;obtain⟨t1,h1⟩:=Uo h.ok hl ha;obtain⟨t2,h2⟩:=Uo h.ok hl hb;have:=(h.uniq _ _ _ _ _ _ _ h1 (e2 ▸ h2)).2;omega
 ·rw[VU];intro i j hi hj hij x hx y hy e;have ei:zn Gs i=Gs[i]:=by have:=uj hi;rw[zL hi]at this;exact(kL this).symm
  have ej:zn Gs j=Gs[j]:=by have:=uj hj;rw[zL hj]at this;exact(kL this).symm
  obtain⟨a,ha,rfl⟩:=zz.1 hx;obtain⟨b,hb,rfl⟩:=zz.1 hy;rw[← ei]at ha e;rw[← ej]at hb e;obtain⟨t1,h1⟩:=Uo h.ok hi ha;obtain⟨t2,h2⟩:=Uo h.ok hj hb;have:=(h.uniq _ _ _ _ _ _ _ h1 (e ▸ h2)).1;omega
theorem zc8{H:Nat→Nat} : ∀(L:List Nat) (o:List Grp) (S:Nat→Prop),yG H S o→(∀ s∈L,s≤4294967295 ∧ ¬ S s)→L.Nodup→zD o+L.length≤8*o.length →
  yG H (fun s=>S s∨s∈L) (L.foldl (uF H) o)∧zD (L.foldl (uF H) o)=zD o+L.length∧(L.foldl (uF H) o).length=o.length∧yj (L.foldl (uF H) o)≤yj o
 | [],o,S,h,_,_,_=>⟨h.of_iff (by simp),rfl,rfl,zI _⟩
 | s::L,o,S,h,hs,hn,hr=>by
  obtain⟨hs1,hs2⟩:=hs s (by simp);obtain⟨o',ho⟩ : ∃ o',vK o (H s) s=some o':=by
   cases hc:vK o (H s) s with
   | some o'=>exact⟨o',rfl⟩
   | none =>
    have:=(zbv h.ok _ _).1 hc;simp only[List.length_cons]at hr;omega
  have e:uF H o s=o':=by unfold uF;rw[ho];rfl
  obtain⟨c1,c2,c3,c4⟩:=Jy h.ok hs1 ho;have hi:=h.ins hs1 hs2 ho;simp only[List.foldl_cons,e];simp only[List.length_cons]at hr ⊢;obtain⟨k1,k2,k3,k4⟩:=zc8 L o' _ hi (fun x hx=>⟨(hs x (by simp[hx])).1,fun hx2=>by
   rcases hx2 with rfl | hx2
   ·exact(yO.1 hn).1 hx
   ·exact(hs x (by simp[hx])).2 hx2⟩) (yO.1 hn).2 (by omega)
  refine⟨k1.of_iff (fun x => ?_),by omega,by omega,by omega⟩;simp only[List.mem_cons];constructor
  ·rintro((h | h) | h)
   ·exact .inr (.inl h)
   ·exact .inl h
   ·exact .inr (.inr h)
  ·rintro(h | h | h)
   ·exact .inl (.inr h)
   ·exact .inl (.inl h)
   ·exact .inr h
theorem yG.rehash{H:Nat→Nat}{S:Nat→Prop}{Gs:List Grp}(h:yG H S Gs){g:Nat}(hg:Pow g)(hu:zD Gs≤8*g) :
  yG H S (Yc H g Gs)∧zD (Yc H g Gs)=zD Gs∧(Yc H g Gs).length=g∧yj (Yc H g Gs)=0:=by
 have hm : ∀ s,s∈Gs.flatMap vq↔S s:=fun s=>(zdT h.ok s).trans (h.mem s).symm
 have hlt : ∀ s∈Gs.flatMap vq,s≤4294967295:=by
  intro s hs;obtain⟨c,hc,hs⟩:=ZX.1 hs;exact zie (h.ok.grp c hc) s hs
 obtain⟨k1,k2,k3,k4⟩:=zc8 (Gs.flatMap vq) (xr g) (fun _=>False) (newG_holds H hg) (fun s hs=>⟨hlt s hs,fun h=>h⟩) h.nodup (by rw[zc2 h.ok,VH,Uw];omega);unfold Yc;rw[VH,zc2 h.ok]at k2;rw[Uw]at k3;rw[zaP]at k4;exact⟨k1.of_iff (fun s=>by simp[hm]),by omega,k3,by omega⟩
theorem YR(a b:ByteArray):(a==b)=true↔a=b:=by
 cases a;cases b
 rename_i x y
 show(x==y)=true↔_
 simp
def uk(L:List (Option Ent))(s:Nat):Prop := ∃ e,L[s]? = some (some e)
def yf(seed:Nat)(same:Bool)(L:List (Option Ent))(s:Nat):Nat:=ky seed same (yI L s)
theorem Zp{L:List (Option Ent)}{s:Nat}{e:Ent}(h:L[s]? = some (some e)):yI L s=e.key:=by unfold yI;rw[h]
theorem zfk(a b:ByteArray):(a.toList==b.toList)=(a==b):=by
 rw[Bool.eq_iff_iff,YR,beq_iff_eq,ByteArray.toList_eq,ByteArray.toList_eq];exact⟨fun h=>ByteArray.ext (Array.toList_inj.1 h),fun h=>by rw[h]⟩
def YK(L:List (Option Ent)):Prop := ∀(s t:Nat) (e f:Ent),L[s]? = some (some e)→L[t]? = some (some f)→e.key=f.key→s=t
def isK(key:ByteArray)(o:Option Ent):Bool:=match o with
 | some e=>e.key==key
 | none=>false
def yV(L:List (Option Ent))(key:ByteArray):Option Nat:=L.findIdx? (isK key)
theorem Kl{key:ByteArray}{o:Option Ent}:isK key o=true ↔ ∃ e,o=some e∧e.key=key:=by
 cases o with
 | none=>simp[isK]
 | some e=>simp[isK,YR]
theorem VA{L:List (Option Ent)}{key:ByteArray}{s:Nat}(h:yV L key=some s) : ∃ e:Ent,L[s]? = some (some e)∧e.key=key:=by
 unfold yV at h;obtain⟨hl,hp,_⟩:=UQ.1 h;obtain⟨e,he,hk⟩:=Kl.1 hp;exact⟨e,by rw[zL hl,he],hk⟩
theorem Q5{L:List (Option Ent)}{key:ByteArray}(h:yV L key=none) : ∀(s:Nat) (e:Ent),L[s]? = some (some e)→e.key≠key:=by
 unfold yV at h;rw[UE]at h;intro s e hs hk;have:=h _ (yl hs);rw[Kl.2 ⟨e,rfl,hk⟩]at this
 cases this
theorem zgK{L:List (Option Ent)}(hk:YK L){s:Nat}{e:Ent}(h:L[s]? = some (some e)):yV L e.key=some s:=by
 cases hf:yV L e.key with
 | none=>exact absurd rfl (Q5 hf s e h)
 | some t =>
  obtain⟨f,h1,h2⟩:=VA hf;rw[hk t s f e h1 h h2]
theorem zi9{L:List (Option Ent)}{key:ByteArray}(h : ∀(s:Nat) (e:Ent),L[s]? = some (some e)→e.key≠key):yV L key=none:=by
 cases hf:yV L key with
 | none=>rfl
 | some t =>
  obtain⟨f,h1,h2⟩:=VA hf;exact absurd h2 (h t f h1)
theorem yG.congr{H H':Nat→Nat}{S:Nat→Prop}{Gs:List Grp}(h:yG H S Gs)(he : ∀ s,S s→H s=H' s):yG H' S Gs :=
 ⟨h.ok,fun i j t s hf=>by rw[← he s ((h.mem s).2 ⟨i,j,t,hf⟩)];exact h.tag i j t s hf,fun i j t s hf=>by rw[← he s ((h.mem s).2 ⟨i,j,t,hf⟩)];exact h.reach i j t s hf,h.uniq,h.mem⟩
structure vW(seed:Nat)(same:Bool)(L:List (Option Ent))(Gs:List Grp):Prop where
 holds:yG (yf seed same L) (uk L) Gs
 keys:YK L
 used:zD Gs=zZ L
theorem zcL{n:Nat}:XZ n<18446744073709551616:=by
 have h1:j6 n<2 ^ 64:=zc6 n;exact qL h1 (jB (Y0 _ _) h1)
theorem UX(seed:Nat)(same:Bool)(L:List (Option Ent))(s:Nat):yf seed same L s<18446744073709551616:=zcL
theorem zaG{H:Nat→Nat}{S:Nat→Prop}{Gs:List Grp}(h:yG H S Gs){sum:Nat}{x:Nat × Nat}(hx:x∈xC Gs sum):S (zT Gs x):=(h.mem _).2 ⟨_,_,_,Ve h.ok hx⟩
theorem vW.find{seed:Nat}{same:Bool}{L:List (Option Ent)}{Gs:List Grp}(h:vW seed same L Gs){w w':World}{D:Nat→Prop}{p:Nat}{sv:Value}{key:ByteArray}{C:TypeId→Prop}{J:List Nat→World→Prop}{e:Ending}
  (hp:JH w D p sv Gs (ky seed same key) (fun _ s=>yI L s==key) C J e w') :
  e=.returned (.tuple (match yV L key with | some s=>#[.int .u32 s,.int .i64 0] | none=>#[.int .u32 0,.int .i64 9])):=by
 obtain⟨_,_,⟨a,x,post,h1,h2,h3,h4,h5⟩ | ⟨h1,h2,h3⟩⟩:=hp
 ·have hx:x∈xC Gs (ky seed same key):=by rw[h1];simp
  obtain⟨f,hf⟩:=zaG h.holds hx;have hk:f.key=key:=by
   have:(yI L (zT Gs x)==key)=true:=h3;rw[Zp hf]at this;exact(YR _ _).1 this
  have:=zgK h.keys hf;rw[hk]at this;rw[this];exact h4
 ·have:yV L key=none:=by
   refine zi9 (fun s f hs hk => ?_);obtain⟨i,j,hm,hF⟩:=h.holds.find_some (s:=s) ⟨f,hs⟩;have e1:yf seed same L s=ky seed same key:=by unfold yf;rw[Zp hs,hk]
   rw[e1]at hm;unfold ui at hm;have hx:=Zx hm;have:=VR h1 _ (zz.2 ⟨_,hx,rfl⟩);rw[hF.slot,Zp hs,hk,(YR key key).2 rfl]at this
   cases this
  rw[this];exact h2
theorem JU : ∀ {Gs:List Grp},(∀ c∈Gs,xV c)→zD Gs+yj Gs≤8*Gs.length
 | [],_=>by simp[zD,yj]
 | c::Gs,h=>by
  have h1:=JU (Gs:=Gs) (fun c hc=>h c (by simp[hc]));have h2 : ∀ l:List Nat,l.countP (· < 128)+l.countP (· == 254)≤l.length:=by
   intro l
   induction l with
   | nil=>simp
   | cons a l ih =>
    simp only[List.countP_cons,List.length_cons];by_cases c1:a<128
    ·have:(a==254)=false:=by simp;omega
     simp[c1,this]at *;omega
    ·by_cases c2:(a==254)=true
     ·simp[c1,c2]at *;omega
     ·simp[c1,c2]at *;omega
  have h3:=h2 c.1;rw[(h c (by simp)).ctl.1]at h3;unfold zD yj at *;simp only[List.map_cons,List.sum_cons,List.length_cons];omega
theorem Pow.dbl{g:Nat}(h:Pow g)(hlt:g<1048576):Pow (2*g):=by
 obtain⟨k,hk,rfl⟩:=h;refine⟨k+1,?_,by rw[Zn];omega⟩;have:k≠20:=by rintro rfl;omega
 omega
def doG(H:Nat→Nat)(x:Nat × Bool)(Gs:List Grp):List Grp:=if x.2 then Yc H x.1 Gs else Gs
theorem zdv{Gs:List Grp}(h:xz Gs)(hl:zD Gs≤4194304) : ∃ x,jJ Gs.length (zD Gs) (yj Gs)=some x∧Pow x.1∧zD Gs<8*x.1∧(x.2=false→x.1=Gs.length):=by
 have hp:=h.pow;have h0:=hp.pos;have h1:=hp.le;unfold jJ;split
 ·exact⟨_,rfl,hp,by show _<8*Gs.length;omega,fun _=>rfl⟩
 ·split
  ·exact⟨_,rfl,hp,by show _<8*Gs.length;omega,by simp⟩
  ·have h2:=zcM h;split
   ·rename_i h3;exact⟨_,rfl,hp.dbl h3,by show _<8*(2*Gs.length);omega,by simp⟩
   ·have h4:Gs.length=1048576:=by omega
    rw[zk (by omega)];exact⟨_,rfl,hp,by show _<8*Gs.length;omega,by simp⟩
theorem yG.do{H:Nat→Nat}{S:Nat→Prop}{Gs:List Grp}(h:yG H S Gs){x:Nat × Bool}(hx:Pow x.1)(hu:zD Gs≤8*x.1)(hn:x.2=false→x.1=Gs.length) :
  yG H S (doG H x Gs)∧zD (doG H x Gs)=zD Gs∧(doG H x Gs).length=x.1:=by
 unfold doG
 cases hb:x.2 with
 | false=>exact⟨h,rfl,(hn hb).symm⟩
 | true =>
  obtain⟨h1,h2,h3,_⟩:=h.rehash hx hu;exact⟨h1,h2,h3⟩
def qA(H:Nat→Nat)(Gs:List Grp)(s:Nat):List Grp:=uF H (doG H ((jJ Gs.length (zD Gs) (yj Gs)).getD (0,false)) Gs) s
theorem yG.put{H:Nat→Nat}{S:Nat→Prop}{Gs:List Grp}(h:yG H S Gs)(hl:zD Gs≤4194304){s:Nat}(hs:s≤4294967295)(hn : ¬ S s) :
  ∃ x,jJ Gs.length (zD Gs) (yj Gs)=some x∧Pow x.1∧zD Gs≤8*x.1∧(x.2=false→x.1=Gs.length)∧yG H S (doG H x Gs)∧vK (doG H x Gs) (H s) s=some (qA H Gs s) ∧
   yG H (fun y=>y=s∨S y) (qA H Gs s)∧zD (qA H Gs s)=zD Gs+1:=by
 obtain⟨x,h1,h2,h3,h4⟩:=zdv h.ok hl;obtain⟨k1,k2,k3⟩:=h.do h2 (Zk h3) h4;have hm : ∃ o,vK (doG H x Gs) (H s) s=some o:=by
  cases e:vK (doG H x Gs) (H s) s with
  | some o=>exact⟨o,rfl⟩
  | none =>
   have:=(zbv k1.ok _ _).1 e;rw[k2,k3]at this;omega
 obtain⟨o,ho⟩:=hm;have e:qA H Gs s=o:=by
  unfold qA uF;rw[h1];simp[ho]
 rw[e];refine⟨x,h1,h2,Zk h3,h4,k1,ho,k1.ins hs hn ho,?_⟩;rw[(Jy k1.ok hs ho).1,k2]
theorem zkz(L:List (Option Ent))(o:Option Ent){s:Nat}(h:s<L.length):yI (L++[o]) s=yI L s:=by
 unfold yI;rw[us h]
theorem Vn{L:List (Option Ent)}{s:Nat}(h:uk L s):s<L.length:=by
 obtain⟨e,h⟩:=h;exact(zE.1 h).1
theorem zdm(L:List (Option Ent))(x:Ent)(s:Nat):uk (L++[some x]) s↔s=L.length∨uk L s:=by
 constructor
 ·rintro⟨e,h⟩;rcases qV s L.length with hl | hl | hl
  ·rw[us hl]at h;exact .inr ⟨e,h⟩
  ·exact .inl hl
  ·rw[xK (by simp;omega)]at h;cases h
 ·rintro(rfl | h)
  ·exact⟨x,by simp⟩
  ·obtain⟨e,he⟩:=id h;exact⟨e,by rw[us (Vn h)];exact he⟩
theorem zkG{L:List (Option Ent)}(h:YK L){x:Ent}(hx:yV L x.key=none):YK (L++[some x]):=by
 have hn:=Q5 hx;have hc : ∀ s e,(L++[some x])[s]? = some (some e)→(s<L.length∧L[s]? = some (some e))∨(s=L.length∧e=x):=by
  intro s e hs;rcases qV s L.length with hl | hl | hl
  ·rw[us hl]at hs;exact .inl ⟨hl,hs⟩
  ·subst hl;simp at hs;exact .inr ⟨rfl,hs.symm⟩
  ·rw[xK (by simp;omega)]at hs;cases hs
 intro s t e f hs ht hk;rcases hc s e hs with⟨h1,h2⟩ | ⟨h1,h2⟩<;>rcases hc t f ht with⟨h3,h4⟩ | ⟨h3,h4⟩
 ·exact h s t e f h2 h4 hk
 ·subst h4;exact absurd hk (hn s e h2)
 ·subst h2;exact absurd hk.symm (hn t f h4)
 ·omega
theorem zky(L:List (Option Ent))(x:Ent):zZ (L++[some x])=zZ L+1:=by unfold zZ;simp
theorem Kx(L:List (Option Ent)):zZ L≤L.length:=VV
theorem vW.insert{seed:Nat}{same:Bool}{L:List (Option Ent)}{Gs:List Grp}(h:vW seed same L Gs){x:Ent}(hx:yV L x.key=none)(hl:L.length≤4194304) :
  yG (yf seed same (L++[some x])) (uk L) Gs∧vW seed same (L++[some x]) (qA (yf seed same (L++[some x])) Gs L.length):=by
 have h1:yG (yf seed same (L++[some x])) (uk L) Gs:=h.holds.congr (fun s hs=>by unfold yf;rw[zkz _ _ (Vn hs)]);have h0:=Kx L;obtain⟨y,k1,k2,k3,k4,k5,k6,k7,k8⟩:=h1.put (by rw[h.used];omega) (s:=L.length) (by omega) (fun c=>by have:=Vn c;omega);exact⟨h1,k7.of_iff (fun s=>(zdm L x s).symm),zkG h.keys hx,by rw[k8,h.used,zky]⟩
theorem vW.new(seed:Nat)(same:Bool):vW seed same [] (xr 1) :=
 ⟨(newG_holds _ ⟨0,by decide,rfl⟩).of_iff (fun s=>⟨fun h=>h.elim,fun⟨e,h⟩=>by simp at h⟩),fun s t e f h=>by simp at h,by rw[VH];rfl⟩
end
section
open Go.RowKit Go.Shelf
variable{Fo:Nat→Prop}
theorem Az26g {P:Prop}(h:P:=by
 generalize w.heap.size=b at *;obtain⟨hb_0,hb_1,hb_f,hb_l,H_hb⟩:=cr2 hb;clear hb
 go_wp2_with (first
   | (go_at_call 243;refine(HF.out _).mono ?_;rintro e w' ⟨rfl,rfl⟩)
   | (go_at_call 242;refine(HM.out _).mono ?_;rintro e w' ⟨rfl,rfl⟩))
 go_ret;exact⟨rfl,HP.out⟩):P:=h
theorem Qw(seed:Nat)(same:Bool)(hs:seed<18446744073709551616)(key:ByteArray)(hk:key.size≤140737488355328)(w:World) :
    Calls prog 175 #[.agg #[.int .u64 seed,.bool same],.string key] w fun e w'=>e=.returned (.int .u64 (ky seed same key:Nat))∧zc w w':=by
  have hp:zc w (w.alloc (.cells #[.int .u64 seed,.bool same] 178)):=(Mod.refl _ w).alloc _;have hb:=zj (w:=w) (o:=(.cells #[.int .u64 seed,.bool same] 178 (0,0))) rfl;have HP:=za hp;obtain⟨res,hres⟩:=zf (ky seed same key);rw[hres];unfold ky at hres;have HR:=za hres;clear hp hres
  cases same with
  | true =>
    have hr:=HR.out;simp only[if_true]at hr;have HF:=za (fun W=>zb3 seed hs ⟨#[]⟩ (by decide) W);have HM:=za (fun W=>zde seed hs W);have e0:kn seed (⟨#[]⟩:ByteArray).data.toList=seed:=rfl;have e1:kn seed []=seed:=rfl;rw[e1]at hr;rw[e0]at HF;subst hr;clear HR e0 e1;go_enter func175,ntmps175;go_upto_region 1 with fail
    generalize w.alloc (.cells #[.int .u64 seed,.bool true] 178)=W1 at *;exact Az26g
  | false =>
    have hr:=HR.out;simp only[Bool.false_eq_true,if_false]at hr;have hq:=Jb hs key.data.toList;have HF:=za (fun W=>zb3 seed hs key hk W);have HM:=za (fun W=>zde _ hq W);subst hr;clear HR;generalize kn seed key.data.toList=q at *;go_enter func175,ntmps175;go_upto_region 1 with fail
    generalize w.alloc (.cells #[.int .u64 seed,.bool false] 178)=W1 at *;exact Az26g
abbrev xt(d:Nat):Value := .pointer (some ⟨d,0,none⟩)
structure zY(Fo:Nat→Prop)(w:World)(d q p:Nat)(sv:Value)(Dl:Nat→Prop)(seed:Nat)(same:Bool)(L:List (Option Ent))(Gs:List Grp):Prop where
 box:w.heap[d]? = some (.cells #[.pointer (some ⟨q,0,none⟩),.int .u64 seed,.bool same,.pointer (some ⟨p,0,none⟩)] 203 (0,0))
 log:yg Fo w Dl q L
 ix:yk w (fun k=>k=p∨sv.ownBlock=some k) p sv Gs
 sd:seed<18446744073709551616
section
variable{w w':World}{d q p:Nat}{sv:Value}{Dl:Nat→Prop}{seed:Nat}{same:Bool}{L:List (Option Ent)}{Gs:List Grp}
theorem zY.pure(h:zY Fo w d q p sv Dl seed same L Gs)(hp:zc w w'):zY Fo w' d q p sv Dl seed same L Gs :=
 ⟨hp.heap (fun h=>h) h.box,h.log.pure hp,h.ix.pure hp,h.sd⟩
def j3(d:Nat)(Dl:Nat→Prop)(p:Nat)(sv:Value)(k:Nat):Prop:=k=d∨Dl k∨k=p∨sv.ownBlock=some k
theorem zY.types(h:zY Fo w d q p sv Dl seed same L Gs){k:Nat}(hk:j3 d Dl p sv k){cs:Array Value}{T:TypeId}{fz:Nat × Nat}(e:w.heap[k]? = some (.cells cs T fz)) :
  T=203∨T=356∨T=141∨T=351∨T=354:=by
 rcases hk with rfl | hk | rfl | hk
 ·rw[h.box]at e;cases e;exact .inl rfl
 ·rcases h.log.types hk e with e | e
  ·exact .inr (.inl e)
  ·exact .inr (.inr (.inl e))
 ·rw[h.ix.box]at e;cases e;exact .inr (.inr (.inr (.inl rfl)))
 ·obtain⟨cc,e2⟩:=yc h.ix.row hk;rw[e2]at e;cases e;exact .inr (.inr (.inr (.inr rfl)))
theorem zY.lt(h:zY Fo w d q p sv Dl seed same L Gs){k:Nat}(hk:j3 d Dl p sv k):k<w.heap.size:=by
 rcases hk with rfl | hk | rfl | hk
 ·exact zm h.box
 ·exact h.log.lt hk
 ·exact zm h.ix.box
 ·exact vY h.ix.row hk
theorem zY.frame{S:Nat→Prop}(h:zY Fo w d q p sv Dl seed same L Gs)(hm:Mod S w w')(hD : ∀ k,j3 d Dl p sv k → ¬ S k)(hS : ∀ k,k<w.heap.size→S k → ∀ cs fz,w.heap[k]? ≠ some (.cells cs 5 fz)):zY Fo w' d q p sv Dl seed same L Gs :=
 ⟨hm.heap (hD d (.inl rfl)) h.box,h.log.frame hm (fun k hk=>hD k (.inr (.inl hk))) hS,h.ix.mod hm (fun k hk=>hD k (.inr (.inr hk))),h.sd⟩
theorem zY.frameF{S:Nat→Prop}(h:zY Fo w d q p sv Dl seed same L Gs)(hm:Mod S w w')(hD : ∀ k,j3 d Dl p sv k → ¬ S k)(hS : ∀ k,k<w.heap.size→S k→Fo k ∨ ∀ cs fz,w.heap[k]? ≠ some (.cells cs 5 fz)):zY Fo w' d q p sv Dl seed same L Gs :=
 ⟨hm.heap (hD d (.inl rfl)) h.box,h.log.frameF hm (fun k hk=>hD k (.inr (.inl hk))) hS,h.ix.mod hm (fun k hk=>hD k (.inr (.inr hk))),h.sd⟩
theorem zY.refo{Fo':Nat→Prop}(h:zY Fo w d q p sv Dl seed same L Gs)(hm:zc w w')(h1 : ∀ k,Fo' k→Fo k∨w.heap.size≤k)(h2 : ∀ k,Fo' k→k<w'.heap.size):zY Fo' w' d q p sv Dl seed same L Gs :=
 ⟨hm.heap (fun h=>h) h.box,h.log.refo hm h1 h2,h.ix.pure hm,h.sd⟩
theorem zY.nd(h:zY Fo w d q p sv Dl seed same L Gs) : ¬ Dl d:=fun hk=>by
 rcases h.log.types hk h.box with e | e<;>cases e
theorem zY.npd(h:zY Fo w d q p sv Dl seed same L Gs):p≠d:=fun e=>by
 have h1:=h.ix.box;rw[e,h.box]at h1;cases h1
theorem zY.nsd(h:zY Fo w d q p sv Dl seed same L Gs):sv.ownBlock≠some d:=fun e=>by
 obtain⟨cc,e2⟩:=yc h.ix.row e;rw[h.box]at e2;cases e2
theorem zY.nlp(h:zY Fo w d q p sv Dl seed same L Gs) : ∀ k,Dl k → ¬ (k=p∨sv.ownBlock=some k):=by
 rintro k hk (rfl | e)
 ·rcases h.log.types hk h.ix.box with e | e<;>cases e
 ·obtain⟨cc,e2⟩:=yc h.ix.row e;rcases h.log.types hk e2 with e | e<;>cases e
end
theorem zhG{w:World}{D:Nat→Prop}{q:Nat}{L:List (Option Ent)}(h:yg Fo w D q L)(s:Nat):(yI L s).size≤250:=by
 unfold yI;split
 ·rename_i e he;exact(h.ok.ent e (yl he)).k1
 ·decide
theorem zcf{w:World}{D:Nat→Prop}{q:Nat}{L:List (Option Ent)}(h:yg Fo w D q L)(s:Nat)(hs:s≤4294967295) :
  Calls prog 177 #[.agg #[.pointer (some ⟨q,0,none⟩)],.int .u32 s] w fun e w'=>e=.returned (.string (yI L s))∧zc w w':=by
 have hp:zc w (w.alloc (.cells #[.pointer (some ⟨q,0,none⟩)] 200)):=(Mod.refl _ w).alloc _;have hb:=zj (w:=w) (o:=(.cells #[.pointer (some ⟨q,0,none⟩)] 200 (0,0))) rfl;have HK:=za (zcr (h.pure hp) s hs);have HP:=za hp;clear h hp;go_enter func177,ntmps177;go_upto_region 1 with fail
 generalize w.alloc (.cells #[.pointer (some ⟨q,0,none⟩)] 200)=W1 at *;generalize w.heap.size=b at *;obtain⟨hb_0,hb_f,hb_l,H_hb⟩:=cr1 hb;clear hb
 go_wp2_with (go_at_call 213;refine HK.out.mono ?_;rintro e w' ⟨rfl,rfl⟩)
 go_ret;exact⟨rfl,HP.out⟩
theorem Zv{w:World}{d q p:Nat}{sv:Value}{Dl:Nat→Prop}{seed:Nat}{same:Bool}{L:List (Option Ent)}{Gs:List Grp}(h:zY Fo w d q p sv Dl seed same L Gs) :
  Calls prog 112 #[xt d] w fun e w'=>e=.returned (.bool false)∧w=w':=by
 have hb:=h.box;clear h;obtain⟨hb_0,hb_1,hb_2,hb_3,hb_f,hb_l,H_hb⟩:=cr4 hb;clear hb;go_enter func112,ntmps112;go_wp2;go_ret;exact⟨rfl,rfl⟩
theorem KM{w:World}{d q p:Nat}{sv:Value}{Dl:Nat→Prop}{seed:Nat}{same:Bool}{L:List (Option Ent)}{Gs:List Grp}(h:zY Fo w d q p sv Dl seed same L Gs)(s:Nat)(hs:s≤4294967295) :
    Calls prog 215 #[xt d,.int .u32 s] w fun e w'=>e=.returned (.int .u64 (yf seed same L s:Nat))∧zc w w':=by
  have HK:=za (fun W (hW:zc w W)=>zcf (h.log.pure hW) s hs);have HH:=za (fun W=>Qw seed same h.sd (yI L s) (by have:=zhG h.log s;omega) W);have e1:ky seed same (yI L s)=yf seed same L s:=rfl;rw[e1]at HH;have hb:=h.box;clear h e1;generalize yf seed same L s=r at *;obtain⟨hb_0,hb_1,hb_2,hb_3,hb_f,hb_l,H_hb⟩:=cr4 hb;clear hb;have hf:=hb_f;go_enter func215,ntmps215;go_upto_region 1 with fail
  go_region_held3 (fun w'=>w'.cell? ⟨d,0,none⟩=some (.pointer (some ⟨q,0,none⟩))∧w'.cell? ⟨d,1,none⟩=some (.int .u64 seed)∧w'.cell? ⟨d,2,none⟩=some (.bool same))
    (first | exact⟨hb_0,hb_1,hb_2⟩ | exact⟨hp1.cell (fun h=>h) hb_0,hp1.cell (fun h=>h) hb_1,hp1.cell (fun h=>h) hb_2⟩ | exact⟨(hp1.trans hp2).cell (fun h=>h) hb_0,(hp1.trans hp2).cell (fun h=>h) hb_1,(hp1.trans hp2).cell (fun h=>h) hb_2⟩)
    (first
      | (go_at_call 177;refine(HK.out _ (by exact yx)).mono ?_;rintro e w1 ⟨rfl,hp1⟩)
      | (go_at_call 175;refine(HH.out _).mono ?_;rintro e w2 ⟨rfl,hp2⟩))
  go_wp2;go_ret;exact⟨rfl,(Mod.of_drew hp1).trans hp2⟩
end
section
open Go.RowKit Go.Shelf
variable{Fo:Nat→Prop}
section
variable{w:World}{d q p:Nat}{sv:Value}{Dl:Nat→Prop}{seed:Nat}{same:Bool}{L:List (Option Ent)}{Gs:List Grp}
def K8(w:World)(x:Nat × Bool)(e:Ending)(w':World):Prop :=
 e=.returned (.tuple #[.agg #[.int .i64 (x.1:Nat),.bool x.2],.int .i64 0])∧zc w w'
theorem zc4(h:zY Fo w d q p sv Dl seed same L Gs){x:Nat × Bool}(hx:jJ Gs.length (zD Gs) (yj Gs)=some x):Calls prog 194 #[xt d] w (K8 w x):=by
  have hpow:=h.ix.ok.pow;have hle:=JU h.ix.ok.grp;have HX:=za h.ix;have HG:=za (fun W=>zjn hpow hle W);rw[hx]at HG;dsimp only[zab]at HG;have hb:=h.box;have hp0:zc w (w.alloc (.cells #[.int .i64 0,.bool false] 293)):=(Mod.refl _ w).alloc _;have h2:=zj (w:=w) (o := .cells #[.int .i64 0,.bool false] 293 (0,0)) rfl;have hbb:=hp0.heap (fun h=>h) hb;have HP:=za hp0;replace HX:=za (HX.out.pure hp0);have HBX:=za hb;clear h hx hpow hle hp0 hb;obtain⟨x1,x2⟩:=x;dsimp only at HG;go_enter func194,ntmps194;go_upto_region 1 with fail
  generalize w.alloc (.cells #[.int .i64 0,.bool false] 293)=W1 at *;obtain⟨b,hbe⟩:=zf w.heap.size;rw[hbe]at h2 ⊢;have HB:=za hbe;clear hbe;have hdb:d≠b:=by have:=zm HBX.out;have:=HB.out;omega
  obtain⟨hbb_0,hbb_1,hbb_2,hbb_3,hbb_f,hbb_l,H_hbb⟩:=cr4 hbb;clear hbb;obtain⟨h2_0,h2_1,h2_f,h2_l,H_h2⟩:=cr2 h2;clear h2
  go_region_held3 (fun w'=>w'.cell? ⟨d,3,none⟩=some (.pointer (some ⟨p,0,none⟩)))
    (first | exact hbb_3 | exact hp1.cell (fun h=>h) hbb_3 | exact(Mod.set2 b 0 1 _ _).cell (fun e=>hdb e) (hp1.cell (fun h=>h) hbb_3))
    (first
      | (go_at_call 206;refine zq (Jl (HX.out.pure (by exact yx))) ?_;rintro e w1 ⟨rfl,rfl⟩)
      | (go_at_call 218;refine zq (zaj (HX.out.pure (by exact yx))) ?_;rintro e w1 ⟨rfl,rfl⟩)
      | (go_at_call 207;refine zq (JQ (HX.out.pure (by exact yx))) ?_;rintro e w1 ⟨rfl,rfl⟩)
      | (go_at_call 254;refine(HG.out _).mono ?_;rintro e w1 ⟨rfl,hp1⟩;have k0:=hp1.cell (fun h=>h) h2_0;have k1:=hp1.cell (fun h=>h) h2_1;have kf : ∀ j,w1.frozen? ⟨b,j,none⟩=false:=(fun j=>(hp1.cells.2 b j h2_l).trans (h2_f j));have kl:b<w1.heap.size:=hp1.lt h2_l))
  go_wp2;obtain⟨f1,y0,y1⟩:=jD (v0 := .int .i64 x1) (v1 := .bool x2) ((Mod.of_drew hp1).heap (fun h=>h) H_h2.out) (HP.out.trans (Mod.of_drew hp1)) (by have:=HB.out;omega) rfl;obtain⟨Y,hY⟩:=zf ((w1.setCell ⟨b,0,none⟩ (.int .i64 x1)).setCell ⟨b,1,none⟩ (.bool x2));rw[hY]at f1 y0 y1 ⊢;exact zN (v := .tuple #[.agg #[.int .i64 x1,.bool x2],.int .i64 0]) (by simp[results,results194,go_sem,y0,y1]) rfl ⟨rfl,f1⟩
theorem zhv(h:zY Fo w d q p sv Dl seed same L Gs):UG prog 215 #[xt d] #[] (yf seed same L) (fun _=>True) (fun W=>zc w W) w :=
 ⟨enters_of func215 (by kernel_rfl) rfl,fun s W hs _ hJ=>by
  have:=(yB (n:=0)).2 (KM (h.pure hJ) s hs);simpa using this,fun s=>UX seed same L s,fun A B hJ hm=>hJ.then hm (fun i hi e=>by omega),Mod.refl _ _⟩
def VD(w:World)(p:Nat)(sv:Value)(p2:Nat)(sv2:Value):Prop:=(p2=p∧sv2=sv)∨(w.heap.size≤p2 ∧ ∀ k,sv2.ownBlock=some k→w.heap.size≤k)
def zen(Fo:Nat→Prop)(w:World)(d q p:Nat)(sv:Value)(Dl:Nat→Prop)(seed:Nat)(same:Bool)(L:List (Option Ent))(Gs:List Grp)(x:Nat × Bool)(e:Ending)(w':World):Prop :=
 ∃ v p2 sv2,e=.returned v∧zY Fo w' d q p2 sv2 Dl seed same L (doG (yf seed same L) x Gs)∧Mod (fun k=>k=d) w w'∧VD w p sv p2 sv2
theorem zY.reindex{w w1:World}{p2:Nat}{sv2:Value}{Gs2:List Grp}(h:zY Fo w d q p sv Dl seed same L Gs)(hp:zc w w1)(hx:yk w1 (fun k=>k=p2∨sv2.ownBlock=some k) p2 sv2 Gs2){Y:World}(hY:w1.setCell ⟨d,3,none⟩ (.pointer (some ⟨p2,0,none⟩))=Y) :
  zY Fo Y d q p2 sv2 Dl seed same L Gs2∧Mod (fun k=>k=d) w Y:=by
 subst hY;have h1:=h.pure hp;have hm:Mod (fun k=>k=d) w1 (w1.setCell ⟨d,3,none⟩ (.pointer (some ⟨p2,0,none⟩))):=Mod.set1 _ _ _;refine⟨⟨?_,h1.log.frame hm (fun k hk e=>by subst e;exact h1.nd hk) (fun k _ e cs fz e2=>by subst e;rw[h1.box]at e2;cases e2),hx.mod hm (fun k hk e => ?_),h.sd⟩,(Mod.of_pure hp).trans hm⟩
 ·have:=zW (j:=3) (v := .pointer (some ⟨p2,0,none⟩)) h1.box;simpa using this
 ·subst e;rcases hk with e | e
  ·have h2:=hx.box;rw[← e,h1.box]at h2;cases h2
  ·obtain⟨cc,e2⟩:=yc hx.row e;rw[h1.box]at e2;cases e2
theorem zbk(h:zY Fo w d q p sv Dl seed same L Gs)(x:Nat × Bool)(hx:x.2=true→Pow x.1∧zD Gs≤8*x.1):Calls prog 219 #[xt d,.agg #[.int .i64 (x.1:Nat),.bool x.2]] w (zen Fo w d q p sv Dl seed same L Gs x):=by
  obtain⟨x1,x2⟩:=x;have hp0:zc w (w.alloc (.cells #[.int .i64 x1,.bool x2] 293)):=(Mod.refl _ w).alloc _;have h2:=zj (w:=w) (o := .cells #[.int .i64 x1,.bool x2] 293 (0,0)) rfl;have HM:=za h
  cases x2 with
  | false =>
    have HP:=za hp0;clear h hx hp0;go_enter func219,ntmps219;go_upto_region 1 with fail
    generalize w.alloc (.cells #[.int .i64 x1,.bool false] 293)=W1 at *;generalize w.heap.size=b at *;obtain⟨h2_0,h2_1,h2_f,h2_l,H_h2⟩:=cr2 h2;clear h2;go_wp2;refine zN (v := .tuple #[]) (by simp[results,results219,go_sem]) rfl ?_;exact⟨_,p,sv,rfl,HM.out.pure HP.out,Mod.of_pure HP.out,.inl ⟨rfl,rfl⟩⟩
  | true =>
    obtain⟨k1,k2⟩:=hx rfl;have HR:=za (fun(W:World) (hW:zc w W)=>zdL (h.pure hW).ix x1 k1 k2 (zhv (h.pure hW)) (fun _ _=>trivial));have HP:=za hp0;have hb:=hp0.heap (fun h=>h) h.box;clear h hx hp0 k1 k2;go_enter func219,ntmps219;go_upto_region 1 with fail
    generalize hW1:w.alloc (.cells #[.int .i64 x1,.bool true] 293)=W1 at *;clear hW1;obtain⟨b,hbe⟩:=zf w.heap.size;rw[hbe]at h2 ⊢;have HB:=za hbe;clear hbe;obtain⟨hb_0,hb_1,hb_2,hb_3,hb_f,hb_l,H_hb⟩:=cr4 hb;clear hb;obtain⟨h2_0,h2_1,h2_f,h2_l,H_h2⟩:=cr2 h2;clear h2;go_upto_region 3 with fail
    go_region_held3 (fun w'=>w'.cell? ⟨d,3,none⟩=some (.pointer (some ⟨p,0,none⟩))∧w'.cell? ⟨b,0,none⟩=some (.int .i64 x1))
      (first | exact⟨hb_3,h2_0⟩ | exact⟨hp1.cell (fun h=>h) hb_3,hp1.cell (fun h=>h) h2_0⟩)
      (first
        | (go_at_call 280;refine(HR.out _ (by have:=HP.out;exact yx)).mono ?_;rintro e w1 ⟨p2,sv2,rfl,hix,hp1,hl2,hs2,_,_⟩;have k3:=hp1.cell (fun h=>h) hb_3;have kf : ∀ j,w1.frozen? ⟨d,j,none⟩=false:=(fun j=>(hp1.cells.2 d j hb_l).trans (hb_f j));have kl:d<w1.heap.size:=hp1.lt hb_l))
    go_wp2;have hpw:=HP.out.trans (Mod.of_drew hp1);obtain⟨g1,g2⟩:=HM.out.reindex hpw hix rfl;refine zN (v := .tuple #[]) (by simp[results,results219,go_sem]) rfl ?_;have hl:w.heap.size≤W1.heap.size:=HP.out.size;exact⟨_,p2,sv2,rfl,g1,g2,.inr ⟨zH hl hl2,fun k hk=>zH hl (hs2 k hk)⟩⟩
def zjA(Fo:Nat→Prop)(w:World)(d q p:Nat)(sv:Value)(Dl:Nat→Prop)(seed:Nat)(same:Bool)(L:List (Option Ent))(Gs2:List Grp)(e:Ending)(w':World):Prop :=
 ∃ p2 sv2,e=.returned (.int .i64 0)∧zY Fo w' d q p2 sv2 Dl seed same L Gs2∧Mod (fun k=>k=d∨k=p∨sv.ownBlock=some k) w w'∧VD w p sv p2 sv2
theorem zg9{w w3 w4 w5:World}{Gs1 Gs2:List Grp}{p2:Nat}{sv2:Value}(h:zY Fo w3 d q p2 sv2 Dl seed same L Gs1)(h4:zc w3 w4)(hx:yk w5 (fun k=>k=p2∨sv2.ownBlock=some k) p2 sv2 Gs2)(h5:Mod (fun k=>k=p2∨sv2.ownBlock=some k) w4 w5)
  (hm:Mod (fun k=>k=d) w w3) (hs:VD w p sv p2 sv2):zY Fo w5 d q p2 sv2 Dl seed same L Gs2∧Mod (fun k=>k=d∨k=p∨sv.ownBlock=some k) w w5:=by
 have h1:=h.pure h4;refine⟨⟨h5.heap (fun hk => ?_) h1.box,h1.log.frame h5 (fun k hk e=>h1.nlp k hk e) (fun k _ e cs fz e2 => ?_),hx,h.sd⟩,?_⟩
 ·rcases hk with e | e
  ·exact h1.npd e.symm
  ·exact h1.nsd e
 ·rcases e with rfl | e
  ·rw[h1.ix.box]at e2;cases e2
  ·obtain⟨cc,e3⟩:=yc h1.ix.row e;rw[e3]at e2;cases e2
 ·have hm4:=hm.then h4 (fun _ _ h=>h.elim);refine Mod.trans' hm4 h5 (fun i _ e => .inl e) (fun i hi e => ?_);rcases hs with⟨rfl,rfl⟩ | ⟨g1,g2⟩
  ·exact .inr e
  ·rcases e with rfl | e
   ·omega
   ·have:=g2 _ e;omega
theorem zeY(h:zY Fo w d q p sv Dl seed same L Gs){x:Nat × Bool}(hx:jJ Gs.length (zD Gs) (yj Gs)=some x)(hp:Pow x.1)(hu:zD Gs≤8*x.1){s:Nat}(hs:s≤4294967295){Gs2:List Grp}
    (hi:vK (doG (yf seed same L) x Gs) (yf seed same L s) s=some Gs2):Calls prog 197 #[xt d,.int .u32 s] w (zjA Fo w d q p sv Dl seed same L Gs2):=by
  have HPl:=za (zc4 h hx);have HDo:=za (fun(W:World) (hW:zc w W)=>zbk (h.pure hW) x (fun _=>⟨hp,hu⟩));have HH:=za h;have HI:=za hi;have hsl:=UX seed same L s;obtain⟨hh,hhe⟩:=zf (yf seed same L s);have HS:=za (fun(W:World) (p2:Nat) (sv2:Value) (Gs1:List Grp) (hW:zY Fo W d q p2 sv2 Dl seed same L Gs1)=>KM hW s hs);rw[hhe]at HI hsl HS;have HHE:=za hhe;obtain⟨x1,x2⟩:=x;clear h hx hp hu hi hhe;unfold K8 at HPl;dsimp only at HPl HDo HI;go_enter func197,ntmps197;go_upto_region 2 with(go_at_call 194;refine HPl.out.mono ?_;rintro e w1 ⟨rfl,hp1⟩)
  have hpa:zc w1 (w1.alloc (.cells #[.int .i64 x1,.bool x2] 293)):=(Mod.refl _ w1).alloc _;have h5:=zj (w:=w1) (o := .cells #[.int .i64 x1,.bool x2] 293 (0,0)) rfl;have HP:=za (hp1.trans hpa);clear hp1 hpa HPl;generalize w1.alloc (.cells #[.int .i64 x1,.bool x2] 293)=W2 at *;generalize w1.heap.size=b5 at *;obtain⟨h5_0,h5_1,h5_f,h5_l,H_h5⟩:=cr2 h5;clear h5;go_upto_region 5 with(go_at_call 219;refine(HDo.out _ HP.out).mono ?_;rintro e w3 ⟨v,p2,sv2,rfl,hm3,hm,hsx⟩)
  have hsx':VD w p sv p2 sv2:=by
    have:=HP.out.size;rcases hsx with h | ⟨g1,g2⟩
    · exact .inl h
    · exact .inr ⟨by omega,fun k hk=>by have:=g2 k hk;omega⟩
  have hmw:Mod (fun k=>k=d) w w3:=(Mod.of_pure HP.out).trans hm;have HM3:=za hm3;have HMW:=za hmw;have HSX:=za hsx';have hb:=hm3.box;clear h5_0 h5_1 h5_f h5_l;clear hm3 hm hsx hsx' hmw H_h5;generalize hGd:doG (yf seed same L) (x1,x2) Gs=Gs1 at *;clear hGd;obtain⟨hb_0,hb_1,hb_2,hb_3,hb_f,hb_l,H_hb⟩:=cr4 hb;clear hb;have HIN:=za (fun(W:World) (hW:zc w3 W)=>zdh (HM3.out.ix.pure hW) hh s hsl hs)
  go_region_held3 (fun w'=>w'.cell? ⟨d,3,none⟩=some (.pointer (some ⟨p2,0,none⟩)))
    (first | exact hb_3 | exact hp1.cell (fun h=>h) hb_3 | exact hm5.cell (fun e=>e.elim (fun e=>HM3.out.npd e.symm) (fun e=>HM3.out.nsd e)) (hp1.cell (fun h=>h) hb_3))
    (first
      | (go_at_call 215;refine zq (HS.out _ p2 sv2 Gs1 (HM3.out.pure (by exact yx))) ?_;rintro e w4 ⟨rfl,hp1⟩)
      | (go_at_call 255;refine(HIN.out _ (by exact yx)).mono ?_;rintro e w5 hq;unfold Yl at hq;rw[HI.out]at hq;obtain⟨rfl,hx5,hm5⟩:=hq))
  go_wp2;go_ret;obtain⟨g1,g2⟩:=zg9 HM3.out (Mod.of_drew hp1) hx5 hm5 HMW.out HSX.out;exact⟨p2,sv2,rfl,g1,g2,HSX.out⟩
end
end
section
open Go.RowKit Go.Shelf
variable{Fo:Nat→Prop}
section
variable{w:World}{d q p:Nat}{sv:Value}{Dl:Nat→Prop}{seed:Nat}{same:Bool}{L:List (Option Ent)}{Gs:List Grp}
theorem zi3(h:zY Fo w d q p sv Dl seed same L Gs){b b1:Nat}{key:ByteArray}(hb0:w.heap[b]? = some (.cells #[xt d] 127 (0,0)))(hb1:w.heap[b1]? = some (.cells #[.string key] 9 (0,0)))(s:Nat)(hs:s≤4294967295) :
    Calls prog 176 #[.int .u32 s,.pointer (some ⟨b,0,none⟩),.pointer (some ⟨b1,0,none⟩)] w fun e w'=>e=.returned (.bool (yI L s==key))∧zc w w':=by
  have HK:=za (fun W (hW:zc w W)=>zcf (h.log.pure hW) s hs);have hb:=h.box;clear h;generalize yI L s=ks at *;obtain⟨hb_0,hb_1,hb_2,hb_3,hb_f,hb_l,H_hb⟩:=cr4 hb;clear hb;obtain⟨hb0_0,hb0_f,hb0_l,H_hb0⟩:=cr1 hb0;clear hb0;obtain⟨hb1_0,hb1_f,hb1_l,H_hb1⟩:=cr1 hb1;clear hb1;go_enter func176,ntmps176;go_upto_region 1 with fail
  go_region_held3 (fun w'=>w'.cell? ⟨d,0,none⟩=some (.pointer (some ⟨q,0,none⟩))∧w'.cell? ⟨b,0,none⟩=some (.pointer (some ⟨d,0,none⟩))∧w'.cell? ⟨b1,0,none⟩=some (.string key))
    (first | exact⟨hb_0,hb0_0,hb1_0⟩ | exact⟨hp1.cell (fun h=>h) hb_0,hp1.cell (fun h=>h) hb0_0,hp1.cell (fun h=>h) hb1_0⟩)
    (first
      | (go_at_call 177;refine(HK.out _ (by exact yx)).mono ?_;rintro e w1 ⟨rfl,hp1⟩))
  go_wp2;go_ret;exact⟨by rw[← zfk];rfl,Mod.of_drew hp1⟩
def uP(L:List (Option Ent))(key:ByteArray):Nat × Nat:=match yV L key with
 | some s=>(s,0)
 | none=>(0,9)
def ZU(w:World)(L:List (Option Ent))(key:ByteArray)(e:Ending)(w':World):Prop :=
 e=.returned (.tuple #[.int .u32 ((uP L key).1:Nat),.int .i64 ((uP L key).2:Nat)])∧zc w w'
theorem zcA(h:zY Fo w d q p sv Dl seed same L Gs)(hk:vW seed same L Gs)(key:ByteArray)(hkey:key.size≤140737488355328):Calls prog 111 #[xt d,.string key] w (ZU w L key):=by
  have hp0:zc w ((w.alloc (.cells #[.pointer (some ⟨d,0,none⟩)] 127)).alloc (.cells #[.string key] 9)):=((Mod.refl _ w).alloc _).alloc _;have z2:=zG (o := .cells #[.string key] 9) (zj (w:=w) (o := .cells #[.pointer (some ⟨d,0,none⟩)] 127 (0,0)) rfl);have z3:=zj (w:=w.alloc (.cells #[.pointer (some ⟨d,0,none⟩)] 127)) (o := .cells #[.string key] 9 (0,0)) (n:=w.heap.size+1) (by simp);have HP:=za hp0;have HM:=za (h.pure hp0);have HZ:=za (Zv (h.pure hp0));have HSum:=za (fun W=>Qw seed same h.sd key hkey W);have hb:=(h.pure hp0).box;have HKE:=za hk;have hsl:ky seed same key<18446744073709551616:=zcL;clear h hk hp0;go_enter func111,ntmps111;go_upto_region 1 with fail
  generalize((w.alloc (.cells #[.pointer (some ⟨d,0,none⟩)] 127)).alloc (.cells #[.string key] 9))=W1 at *;obtain⟨b,hbe⟩:=zf w.heap.size;rw[hbe]at z2 z3 ⊢;have HB:=za hbe;clear hbe;have HSame:=za (fun(W:World) (hW:zc W1 W)=>(⟨enters_of func176 (by kernel_rfl) rfl,fun pre s W' hs hJ=>by
      have:=(yB (n:=0)).2 (zi3 (HM.out.pure hJ) (hJ.heap (fun h=>h) z2) (hJ.heap (fun h=>h) z3) s hs);exact this.mono (fun e w' ⟨h1,h2⟩=>⟨h1,hJ.trans h2,xj.of_pure h2⟩),fun pre A B hJ hm=>hJ.then hm (fun i hi hs=>by have:=hs.1;have:=hW.size;omega),fun _ h=>h.elim,hW⟩ :
    uw prog 176 #[.pointer (some ⟨b,0,none⟩),.pointer (some ⟨b+1,0,none⟩)] (fun _ s=>yI L s==key) (fun _=>False) (fun _ W'=>zc W1 W') W))
  have HF:=za (fun(W:World) (hW:zc W1 W)=>zjf (HM.out.ix.pure hW) _ hsl (HSame.out W hW));obtain⟨hh,hhe⟩:=zf (ky seed same key);rw[hhe]at HF HSum hsl;have HHE:=za hhe;clear hhe HSame;obtain⟨hb_0,hb_1,hb_2,hb_3,hb_f,hb_l,H_hb⟩:=cr4 hb;clear hb;obtain⟨z2_0,z2_f,z2_l,H_z2⟩:=cr1 z2;clear z2;obtain⟨z3_0,z3_f,z3_l,H_z3⟩:=cr1 z3;clear z3;go_upto_region 3 with(go_at_call 112;refine HZ.out.mono ?_;rintro e w' ⟨rfl,rfl⟩)
  go_region_held3 (fun w'=>w'.cell? ⟨d,3,none⟩=some (.pointer (some ⟨p,0,none⟩))∧w'.cell? ⟨d,1,none⟩=some (.int .u64 seed)∧w'.cell? ⟨d,2,none⟩=some (.bool same)∧w'.cell? ⟨b,0,none⟩=some (.pointer (some ⟨d,0,none⟩))∧w'.cell? ⟨b+1,0,none⟩=some (.string key))
    (first | exact⟨hb_3,hb_1,hb_2,z2_0,z3_0⟩ | exact⟨hp1.cell (fun h=>h) hb_3,hp1.cell (fun h=>h) hb_1,hp1.cell (fun h=>h) hb_2,hp1.cell (fun h=>h) z2_0,hp1.cell (fun h=>h) z3_0⟩ | exact⟨(hp1.trans hp2).cell (fun h=>h) hb_3,(hp1.trans hp2).cell (fun h=>h) hb_1,(hp1.trans hp2).cell (fun h=>h) hb_2,(hp1.trans hp2).cell (fun h=>h) z2_0,(hp1.trans hp2).cell (fun h=>h) z3_0⟩)
    (first
      | (go_at_call 175;refine(HSum.out _).mono ?_;rintro e w1 ⟨rfl,hp1⟩)
      | (go_at_call 174;refine(HF.out _ (by exact yx)).mono ?_;rintro e w2 hq;have he:=HKE.out.find (by rw[HHE.out];exact hq);have hp2:zc w1 w2:=Mod.mono hq.1 (fun k _ ⟨_,_,_,_,hf⟩=>hf);have he2:e=.returned (.tuple #[.int .u32 ((uP L key).1:Nat),.int .i64 ((uP L key).2:Nat)]):=(by rw[he];unfold uP;cases yV L key<;>rfl);clear hq he;subst he2))
  go_wp2
  all_goals
    go_ret2;exact⟨rfl,HP.out.trans ((Mod.of_drew hp1).trans hp2)⟩
def yb(Fo:Nat→Prop)(w:World)(D:Nat→Prop)(d seed:Nat)(same:Bool)(L:List (Option Ent))(Gs:List Grp):Prop :=
 ∃ q p sv Dl,zY Fo w d q p sv Dl seed same L Gs∧vW seed same L Gs ∧ ∀ k,D k↔j3 d Dl p sv k
section
variable{w w':World}{D S:Nat→Prop}{d seed:Nat}{same:Bool}{L:List (Option Ent)}{Gs:List Grp}
theorem yb.pure(h:yb Fo w D d seed same L Gs)(hp:zc w w'):yb Fo w' D d seed same L Gs:=by
 obtain⟨q,p,sv,Dl,h1,h2,h3⟩:=h;exact⟨q,p,sv,Dl,h1.pure hp,h2,h3⟩
theorem yb.lt(h:yb Fo w D d seed same L Gs){k:Nat}(hk:D k):k<w.heap.size:=by
 obtain⟨q,p,sv,Dl,h1,h2,h3⟩:=h;exact h1.lt ((h3 k).1 hk)
theorem yb.types(h:yb Fo w D d seed same L Gs){k:Nat}(hk:D k){cs:Array Value}{T:TypeId}{fz:Nat × Nat}(e:w.heap[k]? = some (.cells cs T fz)) :
  T=203∨T=356∨T=141∨T=351∨T=354:=by
 obtain⟨q,p,sv,Dl,h1,h2,h3⟩:=h;exact h1.types ((h3 k).1 hk) e
theorem yb.frame(h:yb Fo w D d seed same L Gs)(hm:Mod S w w')(hD : ∀ k,D k → ¬ S k)(hS : ∀ k,k<w.heap.size→S k → ∀ cs fz,w.heap[k]? ≠ some (.cells cs 5 fz)):yb Fo w' D d seed same L Gs:=by
 obtain⟨q,p,sv,Dl,h1,h2,h3⟩:=h;exact⟨q,p,sv,Dl,h1.frame hm (fun k hk=>hD k ((h3 k).2 hk)) hS,h2,h3⟩
theorem yb.flt(h:yb Fo w D d seed same L Gs) : ∀ k,Fo k→k<w.heap.size:=by
 obtain⟨q,p,sv,Dl,h1,h2,h3⟩:=h;exact h1.log.flt
theorem yb.frameF(h:yb Fo w D d seed same L Gs)(hm:Mod S w w')(hD : ∀ k,D k → ¬ S k)(hS : ∀ k,k<w.heap.size→S k→Fo k ∨ ∀ cs fz,w.heap[k]? ≠ some (.cells cs 5 fz)):yb Fo w' D d seed same L Gs:=by
 obtain⟨q,p,sv,Dl,h1,h2,h3⟩:=h;exact⟨q,p,sv,Dl,h1.frameF hm (fun k hk=>hD k ((h3 k).2 hk)) hS,h2,h3⟩
theorem yb.refo{Fo':Nat→Prop}(h:yb Fo w D d seed same L Gs)(hm:zc w w')(h1 : ∀ k,Fo' k→Fo k∨w.heap.size≤k)(h2 : ∀ k,Fo' k→k<w'.heap.size):yb Fo' w' D d seed same L Gs:=by
 obtain⟨q,p,sv,Dl,h3,h4,h5⟩:=h;exact⟨q,p,sv,Dl,h3.refo hm h1 h2,h4,h5⟩
theorem yb.sd(h:yb Fo w D d seed same L Gs):seed<18446744073709551616:=by
 obtain⟨q,p,sv,Dl,h1,h2,h3⟩:=h;exact h1.sd
theorem yb.ok(h:yb Fo w D d seed same L Gs):Vk L:=by
 obtain⟨q,p,sv,Dl,h1,h2,h3⟩:=h;exact h1.log.ok
theorem yb.keeps(h:yb Fo w D d seed same L Gs):vW seed same L Gs:=by
 obtain⟨q,p,sv,Dl,h1,h2,h3⟩:=h;exact h2
theorem Uq(h:yb Fo w D d seed same L Gs)(key:ByteArray)(hkey:key.size≤140737488355328):Calls prog 111 #[xt d,.string key] w (ZU w L key):=by
 obtain⟨q,p,sv,Dl,h1,h2,h3⟩:=h;exact zcA h1 h2 key hkey
def zig(Fo:Nat→Prop)(w:World)(seed:Nat)(same:Bool)(e:Ending)(w':World):Prop :=
 ∃ d D,e=.returned (xt d)∧yb Fo w' D d seed same [] (xr 1)∧zc w w' ∧ ∀ k,D k→w.heap.size≤k
theorem zkV(seed:Nat)(same:Bool)(hs:seed<18446744073709551616)(w:World)(hFo : ∀ k,Fo k→k<w.heap.size):Calls prog 100 #[.agg #[.int .u64 seed,.bool same]] w (zig Fo w seed same):=by
  have hp0:zc w (w.alloc (.cells #[.int .u64 seed,.bool same] 178)):=(Mod.refl _ w).alloc _;have z1:=zj (w:=w) (o := .cells #[.int .u64 seed,.bool same] 178 (0,0)) rfl;have HN:=za (fun W=>zav 1 W ⟨0,by decide,rfl⟩);have HL:=za (fun W (hW:w.heap.size≤W.heap.size)=>zjV (Fo:=Fo) W (fun k hk=>ve (hFo k hk) hW));have HP:=za hp0;clear hp0 hFo;go_enter func100,ntmps100;go_upto_region 1 with fail
  generalize w.alloc (.cells #[.int .u64 seed,.bool same] 178)=W1 at *;obtain⟨b,hbe⟩:=zf w.heap.size;rw[hbe]at z1 ⊢;have HB:=za hbe;clear hbe;go_upto_region 2 with(go_at_call 170;refine(HN.out _).mono ?_;rintro e w2 ⟨p,sv,rfl,hix,hp2,hl2,hs2⟩)
  have zz1:=hp2.heap (fun h=>h) z1;have HIX:=za hix;clear hix;obtain⟨zz1_0,zz1_1,zz1_f,zz1_l,H_zz1⟩:=cr2 zz1;clear zz1
  go_region_held3 (fun w'=>w'.cell? ⟨b,0,none⟩=some (.int .u64 seed)∧w'.cell? ⟨b,1,none⟩=some (.bool same))
    (first | exact⟨zz1_0,zz1_1⟩ | exact⟨hp3.cell (fun h=>h) zz1_0,hp3.cell (fun h=>h) zz1_1⟩ | exact⟨(hp3.alloc _).cell (fun h=>h) zz1_0,(hp3.alloc _).cell (fun h=>h) zz1_1⟩)
    (first
      | (go_at_call 171;refine(HL.out _ (by have h1:=HP.out.size;have h2:=hp2.size;simp at h1 h2 ⊢;omega)).mono ?_;rintro e w3 ⟨rfl,hlog,hp3,hlt3⟩;dsimp only[Zc]at *))
  go_wp2;go_ret;have hp3':zc w2 w3:=Mod.of_drew hp3;have hq:=zj (w:=w3) (o := .cells #[.pointer (some ⟨w2.heap.size,0,none⟩),.int .u64 seed,.bool same,.pointer (some ⟨p,0,none⟩)] 203 (0,0)) rfl;have hpq:zc w3 (w3.alloc (.cells #[.pointer (some ⟨w2.heap.size,0,none⟩),.int .u64 seed,.bool same,.pointer (some ⟨p,0,none⟩)] 203)):=(Mod.refl _ w3).alloc _;have hw:w.heap.size≤W1.heap.size:=HP.out.size;have hw2:W1.heap.size≤w2.heap.size:=hp2.size;have hw3:w2.heap.size≤w3.heap.size:=hp3'.size;refine⟨w3.heap.size,j3 w3.heap.size (fun k=>k=w2.heap.size) p sv,rfl,⟨w2.heap.size,p,sv,fun k=>k=w2.heap.size,⟨hq,hlog.pure hpq,HIX.out.pure (hp3'.trans hpq),hs⟩,vW.new seed same,fun _=>vP⟩,(HP.out.trans hp2).trans (hp3'.trans hpq),?_⟩;rintro k (rfl | rfl | rfl | e)
  · omega
  · omega
  · omega
  · have:=hs2 k e;omega
end
end
end
section
open Go.RowKit Go.Shelf
variable{Fo:Nat→Prop}
section
variable{w w':World}{D S:Nat→Prop}{d seed:Nat}{same:Bool}{L:List (Option Ent)}{Gs:List Grp}
theorem zk2{q:Nat}{Dl:Nat→Prop}(h:yg Fo w Dl q L):Calls prog 195 #[.agg #[.pointer (some ⟨q,0,none⟩)]] w fun e w'=>e=.returned (.bool (decide (4194304≤(L.length:Int))))∧zc w w':=by
 have hp:zc w (w.alloc (.cells #[.pointer (some ⟨q,0,none⟩)] 200)):=(Mod.refl _ w).alloc _;have hb:=zj (w:=w) (o:=(.cells #[.pointer (some ⟨q,0,none⟩)] 200 (0,0))) rfl;have HK:=za (zct (h.pure hp));have HP:=za hp;clear h hp;go_enter func195,ntmps195;go_upto_region 1 with fail
 generalize w.alloc (.cells #[.pointer (some ⟨q,0,none⟩)] 200)=W1 at *;generalize w.heap.size=b at *;obtain⟨hb_0,hb_f,hb_l,H_hb⟩:=cr1 hb;clear hb
 go_wp2_with (go_at_call 205;refine HK.out.mono ?_;rintro e w' ⟨rfl,rfl⟩)
 go_ret;exact⟨rfl,HP.out⟩
def Qn(Fo:Nat→Prop)(w:World)(D:Nat→Prop)(d seed:Nat)(same:Bool)(L:List (Option Ent))(Gs:List Grp)(x:Ent)(e:Ending)(w':World):Prop :=
 e=.returned (.tuple #[.int .u32 L.length,.int .i64 0]) ∧ ∃ D',yb Fo w' D' d seed same (L++[some x]) (qA (yf seed same (L++[some x])) Gs L.length)∧Mod D w w'∧uc D D' w
theorem Jw{q p:Nat}{sv:Value}{Dl Dl2:Nat→Prop}{w2 w3:World}{L2:List (Option Ent)}(h:zY Fo w2 d q p sv Dl seed same L Gs)(hl:yg Fo w3 Dl2 q L2)(hm:Mod Dl w2 w3):zY Fo w3 d q p sv Dl2 seed same L2 Gs :=
 ⟨hm.heap h.nd h.box,hl,h.ix.mod hm (fun k hk e=>h.nlp k e hk),h.sd⟩
theorem ziR(h:yb Fo w D d seed same L Gs)(x:Ent)(hok:x.Ok)(hL:L.length<4194304)(hf:yV L x.key=none)(a:Option Addr)(n c:Nat)(hx:zo w (.slice a n c) 1 (zQ x.val)) :
    Calls prog 128 #[xt d,.agg #[.string x.key,.slice a n c,.int .u64 x.dl,.int .u64 x.birth]] w (Qn Fo w D d seed same L Gs x):=by
  obtain⟨q,p,sv,Dl,h1,h2,h3⟩:=h;have HH:=za h1;have HK:=za h2;have HD:=za h3;have HX:=za hx;have HO:=za hok;have hp0:zc w (w.alloc (.cells #[.string x.key,.slice a n c,.int .u64 x.dl,.int .u64 x.birth] 141)):=(Mod.refl _ w).alloc _;have z3:=zj (w:=w) (o := .cells #[.string x.key,.slice a n c,.int .u64 x.dl,.int .u64 x.birth] 141 (0,0)) rfl;have HP:=za hp0;have HZ:=za (Zv (h1.pure hp0));have hn:n≤65536:=by have:=jH hx;rw[kG]at this;have:=hok.v1;omega
  have hb:(x.birth==0)=false:=by have:=hok.b0;simp;omega
  have HN:=za (QR x.key a n c x.dl x.birth (zQ x.val) _ (hx.frame hp0 (fun _ _ h=>h)) hn hok.k0 hok.k1 hb);have HFd:=za (fun(W:World) (hW:zc w W)=>zcA (h1.pure hW) h2 x.key (by have:=hok.k1;omega));obtain⟨i1,i2⟩:=h2.insert hf (by omega);obtain⟨y,k1,k2,k3,k4,k5,k6,k7,k8⟩:=i1.put (by rw[h2.used];have:=Kx L;omega) (s:=L.length) (by omega) (fun c=>by have:=Vn c;omega);have HPl:=za (fun(W:World) (hW:zc w W)=>zc4 (h1.pure hW) k1);have HFu:=za (fun(W:World) (hW:zc w W)=>zk2 (h1.log.pure hW));have HApp:=za (fun(W:World) (hW:zc w W) (a2:Option Addr) (n2 c2:Nat) (hr:zo W (.slice a2 n2 c2) 1 (zQ x.val))=>zhQ (h1.log.pure hW) hL x hok a2 n2 c2 hr);have HPut:=za (fun(W:World) (Dl2:Nat→Prop) (hW:zY Fo W d q p sv Dl2 seed same (L++[some x]) Gs)=>zeY hW k1 k2 k3 (s:=L.length) (by omega) k6);have HI2:=za i2;have e1:uP L x.key=(0,9):=by unfold uP;rw[hf]
  unfold ZU K8 at *;rw[e1]at HFd;dsimp only at HFd;have hfull:decide ((4194304:Int)≤(L.length:Int))=false:=zR (by omega);rw[hfull]at HFu;obtain⟨y1,y2⟩:=y;dsimp only at HPl;unfold zbq at HApp;clear h1 h2 h3 hx hok hp0 hn hb i1 i2 k1 k2 k3 k4 k5 k6 k7 k8 e1 hf hfull;go_enter func128,ntmps128;go_upto_region 1 with fail
  generalize w.alloc (.cells #[.string x.key,.slice a n c,.int .u64 x.dl,.int .u64 x.birth] 141)=W1 at *;obtain⟨b3,hb3⟩:=zf w.heap.size;rw[hb3]at z3 ⊢;have HB3:=za hb3;clear hb3;obtain⟨z3_0,z3_1,z3_2,z3_3,z3_f,z3_l,H_z3⟩:=cr4 z3;clear z3;go_upto_region 4 with(first
    | (go_at_call 112;refine HZ.out.mono ?_;rintro e w' ⟨rfl,rfl⟩)
    | (go_at_call 193;refine HN.out.mono ?_;rintro e w2 ⟨a2,n2,c2,rfl,hr2,hf2,hp2⟩))
  have hpo:zc w2 (w2.alloc (.cells #[.string x.key,.slice a2 n2 c2,.int .u64 x.dl,.int .u64 x.birth] 141)):=(Mod.refl _ w2).alloc _;have z6:=zj (w:=w2) (o := .cells #[.string x.key,.slice a2 n2 c2,.int .u64 x.dl,.int .u64 x.birth] 141 (0,0)) rfl;have HR:=za (zy (ZJ hr2) hpo (fun _ _ h=>h));have zz3:=(hp2.trans hpo).heap (fun h=>h) H_z3.out;replace HP:=za ((HP.out.trans hp2).trans hpo);have hb6:b3<w2.heap.size:=ve z3_l hp2.size;clear z3_0 z3_1 z3_2 z3_3 z3_f z3_l;clear H_z3 hr2 hf2 hp2 hpo HN HZ;generalize w2.alloc (.cells #[.string x.key,.slice a2 n2 c2,.int .u64 x.dl,.int .u64 x.birth] 141)=W3 at *;generalize w2.heap.size=b6 at *;obtain⟨zz3_0,zz3_1,zz3_2,zz3_3,zz3_f,zz3_l,H_zz3⟩:=cr4 zz3;clear zz3;obtain⟨z6_0,z6_1,z6_2,z6_3,z6_f,z6_l,H_z6⟩:=cr4 z6;clear z6;go_upto_region 9 with(go_at_call 111;refine(HFd.out _ HP.out).mono ?_;rintro e w4 ⟨rfl,hp4⟩)
  go_upto_region 10 with(go_at_call 194;refine(HPl.out _ (HP.out.trans hp4)).mono ?_;rintro e w5 ⟨rfl,hp5⟩)
  have hp6:zc w5 (w5.alloc (.cells #[.int .i64 y1,.bool y2] 293)):=(Mod.refl _ w5).alloc _;have hp36:=(hp4.trans hp5).trans hp6;have zz6:=hp36.heap (fun h=>h) H_z6.out;replace HR:=za (zy HR.out hp36 (fun _ _ h=>h));replace HP:=za (HP.out.trans hp36);clear zz3_0 zz3_1 zz3_2 zz3_3 zz3_f zz3_l;clear z6_0 z6_1 z6_2 z6_3 z6_f z6_l;clear H_zz3 H_z6 hp4 hp5 hp6 hp36 HFd HPl;generalize w5.alloc (.cells #[.int .i64 y1,.bool y2] 293)=W6 at *;obtain⟨b10,hb10⟩:=zf w5.heap.size;rw[hb10];clear hb10;have hb:=(HH.out.pure HP.out).box;obtain⟨hb_0,hb_1,hb_2,hb_3,hb_f,hb_l,H_hb⟩:=cr4 hb;clear hb;obtain⟨zz6_0,zz6_1,zz6_2,zz6_3,zz6_f,zz6_l,H_zz6⟩:=cr4 zz6;clear zz6;go_upto_region 12 with(go_at_call 195;refine(HFu.out _ HP.out).mono ?_;rintro e w7 ⟨rfl,hp7⟩)
  have k0:=hp7.cell (fun h=>h) hb_0;have k1:=hp7.cell (fun h=>h) zz6_0;have k2:=hp7.cell (fun h=>h) zz6_1;have k3:=hp7.cell (fun h=>h) zz6_2;have k4:=hp7.cell (fun h=>h) zz6_3;replace HR:=za (yq.read (zy HR.out hp7 (fun _ _ h=>h)) (jn _));replace HP:=za (HP.out.trans hp7);have HA:=za (fun(W:World) (hW:zc w7 W)=>HApp.out W (HP.out.trans hW) a2 n2 c2 (HR.out.frame hW (fun _ _ h=>h)));have nD : ∀ k,Dl k→k<w.heap.size:=fun k hk=>HH.out.log.lt hk
  have hwb:w.heap.size=b3:=HB3.out;have ND:=za nD;clear nD;clear hb_0 hb_1 hb_2 hb_3 hb_f hb_l;clear zz6_0 zz6_1 zz6_2 zz6_3 zz6_f zz6_l;clear H_hb H_zz6 hp7 HApp HFu
  go_region_held3 (fun w'=>w'.cell? ⟨d,0,none⟩=some (.pointer (some ⟨q,0,none⟩))∧w'.cell? ⟨b6,0,none⟩=some (.string x.key)∧w'.cell? ⟨b6,1,none⟩=some (.slice a2 n2 c2)∧w'.cell? ⟨b6,2,none⟩=some (.int .u64 x.dl)∧w'.cell? ⟨b6,3,none⟩=some (.int .u64 x.birth))
    (first | exact⟨k0,k1,k2,k3,k4⟩ | exact⟨hm8.cell HH.out.nd k0,hm8.cell (fun e=>by have:=ND.out _ e;dsimp only at this;omega) k1,hm8.cell (fun e=>by have:=ND.out _ e;dsimp only at this;omega) k2,hm8.cell (fun e=>by have:=ND.out _ e;dsimp only at this;omega) k3,hm8.cell (fun e=>by have:=ND.out _ e;dsimp only at this;omega) k4⟩)
    (first
      | (go_at_call 196;refine(HA.out _ (by exact yx)).mono ?_;rintro e w8 ⟨rfl,Dl2,hl8,hm8,hg8⟩))
  have hm8':Mod Dl w7 w8:=Mod.of_drew hm8;have HM8:=za (Jw (HH.out.pure HP.out) hl8 hm8');have hP8:Mod Dl w w8:=(Mod.of_pure HP.out).trans hm8';have HM:=za hP8;have HG8:=za hg8;have HL8:=za hl8;clear hm8 hm8' hP8 hg8 hl8 k0 k1 k2 k3 k4
  go_wp2_with (go_at_call 197;refine(HPut.out _ _ HM8.out).mono ?_;rintro e w9 ⟨p2,sv2,rfl,hm9,hmod9,hsx9⟩)
  go_ret2;have h78:w.heap.size≤w8.heap.size:=HM.out.size;refine⟨rfl,j3 d Dl2 p2 sv2,⟨q,p2,sv2,Dl2,hm9,HI2.out,fun _=>vP⟩,?_,?_⟩
  · refine HM.out.trans' hmod9 (fun i _ hi=>(HD.out i).2 (.inr (.inl hi))) (fun i _ hi=>(HD.out i).2 ?_)
    rcases hi with e | e | e
    · exact .inl e
    · exact .inr (.inr (.inl e))
    · exact .inr (.inr (.inr e))
  · have hg9 : ∀ k,Dl2 k→Dl k∨w.heap.size≤k:=fun k hk=>by
      rcases HG8.out k hk with e | e
      · exact .inl e
      · exact .inr (by have:=HP.out.size;simp at e;omega)
    rintro k (e | e | e | e)
    · exact .inl ((HD.out k).2 (.inl e))
    · rcases hg9 k e with e | e
      · exact .inl ((HD.out k).2 (.inr (.inl e)))
      · exact .inr e
    · rcases hsx9 with⟨g1,g2⟩ | ⟨g1,g2⟩
      · exact .inl ((HD.out k).2 (.inr (.inr (.inl (e.trans g1)))))
      · exact .inr (by omega)
    · rcases hsx9 with⟨g1,g2⟩ | ⟨g1,g2⟩
      · exact .inl ((HD.out k).2 (.inr (.inr (.inr (g2 ▸ e)))))
      · exact .inr (by have:=g2 _ e;omega)
end
end
section
open Go.RowKit Go.Shelf
variable{Fo:Nat→Prop}
theorem zek{L:List (Option Ent)}{s t:Nat}(h:t≠s):yI (L.set s none) t=yI L t:=by
 unfold yI;rw[yy (fun e=>h e.symm)]
theorem J2(L:List (Option Ent))(s t:Nat):uk (L.set s none) t↔t≠s∧uk L t:=by
 unfold uk;by_cases h:t=s
 ·subst h;simp only[ne_eq,not_true_eq_false,false_and,iff_false];rintro⟨e,he⟩;rw[Xr]at he;simp at he
 ·rw[yy (fun e=>h e.symm)];simp[h]
theorem ziy{L:List (Option Ent)}(h:YK L)(s:Nat):YK (L.set s none):=by
 intro a b e f ha hb hk;have h1:=(J2 L s a).1 ⟨e,ha⟩;have h2:=(J2 L s b).1 ⟨f,hb⟩;rw[yy (fun e=>h1.1 e.symm)]at ha;rw[yy (fun e=>h2.1 e.symm)]at hb;exact h a b e f ha hb hk
theorem VN : ∀ {L:List (Option Ent)} {s:Nat} {x:Ent},L[s]? = some (some x)→zZ (L.set s none)+1=zZ L
 | [],s,x,h=>by simp at h
 | o::L,0,x,h=>by
  simp at h;subst h;simp[zZ]
 | o::L,s+1,x,h=>by
  have:=VN (L:=L) (s:=s) (x:=x) (by simpa using h);simp only[List.set_cons_succ,zZ,List.countP_cons]at this ⊢;omega
def uD(H:Nat→Nat)(Gs:List Grp)(s:Nat):List Grp:=match ui Gs (H s) (fun x=>x==s)with
 | some x=>vU Gs x.1 x.2
 | none=>Gs
def Yw(H H':Nat→Nat)(Gs:List Grp)(s:Nat):List Grp:=doG H' (uy (uD H Gs s).length (zD (uD H Gs s))) (uD H Gs s)
theorem vW.remove{seed:Nat}{same:Bool}{L:List (Option Ent)}{Gs:List Grp}(h:vW seed same L Gs){s:Nat}{x:Ent}(hx:L[s]? = some (some x)) :
  (∃ i j,ui Gs (yf seed same L s) (fun y=>y==s)=some (i,j)∧uD (yf seed same L) Gs s=vU Gs i j)∧xz (uD (yf seed same L) Gs s) ∧
   ((uy (uD (yf seed same L) Gs s).length (zD (uD (yf seed same L) Gs s))).2=true→Pow (uy (uD (yf seed same L) Gs s).length (zD (uD (yf seed same L) Gs s))).1∧zD (uD (yf seed same L) Gs s)≤8*(uy (uD (yf seed same L) Gs s).length (zD (uD (yf seed same L) Gs s))).1) ∧
   vW seed same (L.set s none) (Yw (yf seed same L) (yf seed same (L.set s none)) Gs s):=by
 obtain⟨i,j,h1,h2⟩:=h.holds.find_some (s:=s) ⟨x,hx⟩;have ht:uD (yf seed same L) Gs s=vU Gs i j:=by unfold uD;rw[h1]
 obtain⟨c1,c2,c3⟩:=Kd h.holds.ok h2;have h3:=h.holds.del h2;have h4:yG (yf seed same (L.set s none)) (uk (L.set s none)) (vU Gs i j) :=
  (h3.congr (fun t ht=>by unfold yf;rw[zek ht.1])).of_iff (fun t=>(J2 L s t).symm)
 unfold Yw;rw[ht];obtain⟨p1,p2,p3⟩:=zj1 (g:=(vU Gs i j).length) (live:=zD (vU Gs i j)) c3.pow;have hle:=zcM c3;have hu:zD (vU Gs i j)≤8*(uy (vU Gs i j).length (zD (vU Gs i j))).1:=by
  cases hb:(uy (vU Gs i j).length (zD (vU Gs i j))).2 with
  | true=>exact Zk (p2 hb)
  | false=>rw[p3 hb];exact hle
 obtain⟨k1,k2,k3⟩:=h4.do p1 hu p3;refine⟨⟨i,j,h1,rfl⟩,c3,fun _=>⟨p1,hu⟩,k1,ziy h.keys s,?_⟩;rw[k2];have:=VN hx;have:=h.used;omega
theorem Jr{X Y:World}{b:Nat}{u0 u1 u2 u3 v0 v1 v2 v3:Value}{T:TypeId}(h:X.heap[b]? = some (.cells #[u0,u1,u2,u3] T (0,0)))
  (hY:(((X.setCell ⟨b,0,none⟩ v0).setCell ⟨b,1,none⟩ v1).setCell ⟨b,2,none⟩ v2).setCell ⟨b,3,none⟩ v3=Y):Mod (fun k=>k=b) X Y∧Y.heap[b]? = some (.cells #[v0,v1,v2,v3] T (0,0)):=by
 subst hY;refine⟨((((Mod.set1 b 0 v0).trans (Mod.set1 b 1 v1)).trans (Mod.set1 b 2 v2)).trans (Mod.set1 b 3 v3)),?_⟩;have h1:=zW (j:=0) (v:=v0) h;have h2:=zW (j:=1) (v:=v1) h1;have h3:=zW (j:=2) (v:=v2) h2;have h4:=zW (j:=3) (v:=v3) h3;simpa using h4
section
variable{w w':World}{D S:Nat→Prop}{d seed:Nat}{same:Bool}{L:List (Option Ent)}{Gs:List Grp}
def zh2(Fo:Nat→Prop)(w:World)(D:Nat→Prop)(d seed:Nat)(same:Bool)(L:List (Option Ent))(Gs:List Grp)(s:Nat)(x:Ent)(e:Ending)(w':World):Prop :=
 ∃ a n c,e=.returned (.tuple #[.agg #[.string x.key,.slice a n c,.int .u64 x.dl,.int .u64 x.birth],.int .i64 0])∧yq w' (.slice a n c) (zQ x.val)∧vf w (.slice a n c) ∧
  ∃ D',yb Fo w' D' d seed same (L.set s none) (Yw (yf seed same L) (yf seed same (L.set s none)) Gs s)∧Mod D w w'∧uc D D' w
end
end
section
open Go.RowKit Go.Shelf
variable{Fo:Nat→Prop}
attribute [local go_sem] Oper.semAt_some
structure Part(seed:Nat)(same:Bool)(L:List (Option Ent))(S:Nat→Prop)(Gs:List Grp):Prop where
 holds:yG (yf seed same L) S Gs
 sub : ∀ s,S s→uk L s
 uniq : ∀ s t,S s→S t→yI L s=yI L t→s=t
def zfx(L:List (Option Ent))(S:Nat→Prop)(key:ByteArray)(r:Nat × Nat):Prop :=
 (∃ s,S s∧yI L s=key∧r=(s,0))∨((∀ s,S s→yI L s≠key)∧r=(0,9))
theorem Part.find{seed:Nat}{same:Bool}{L:List (Option Ent)}{S:Nat→Prop}{Gs:List Grp}(h:Part seed same L S Gs){w w':World}{D:Nat→Prop}{p:Nat}{sv:Value}{key:ByteArray}{C:TypeId→Prop}{J:List Nat→World→Prop}{e:Ending}
  (hp:JH w D p sv Gs (ky seed same key) (fun _ s=>yI L s==key) C J e w') : ∃ r,zfx L S key r∧e=.returned (.tuple #[.int .u32 (r.1:Nat),.int .i64 (r.2:Nat)]):=by
 obtain⟨_,_,⟨a,x,post,h1,h2,h3,h4,h5⟩ | ⟨h1,h2,h3⟩⟩:=hp
 ·have hx:x∈xC Gs (ky seed same key):=by rw[h1];simp
  have hS:=zaG h.holds hx;have hk:(yI L (zT Gs x)==key)=true:=h3;exact⟨(zT Gs x,0),.inl ⟨_,hS,(YR _ _).1 hk,rfl⟩,h4⟩
 ·refine⟨(0,9),.inr ⟨fun s hs hk => ?_,rfl⟩,h2⟩;obtain⟨i,j,hm,hF⟩:=h.holds.find_some (s:=s) hs;have e1:yf seed same L s=ky seed same key:=by unfold yf;rw[hk]
  rw[e1]at hm;unfold ui at hm;have hx:=Zx hm;have:=VR h1 _ (zz.2 ⟨_,hx,rfl⟩);rw[hF.slot,hk,(YR key key).2 rfl]at this
  cases this
theorem Part.keeps{seed:Nat}{same:Bool}{L:List (Option Ent)}{S:Nat→Prop}{Gs:List Grp}(h:Part seed same L S Gs)(hS : ∀ s,S s↔uk L s)(hu:zD Gs=zZ L):vW seed same L Gs :=
 ⟨h.holds.of_iff hS,fun s t e f h1 h2 hk=>h.uniq s t ((hS s).2 ⟨e,h1⟩) ((hS t).2 ⟨f,h2⟩) (by rw[Zp h1,Zp h2,hk]),hu⟩
section
variable{w:World}{d q p:Nat}{sv:Value}{Dl:Nat→Prop}{seed:Nat}{same:Bool}{L:List (Option Ent)}{Gs:List Grp}
theorem zgE(L:List (Option Ent)) : ∀ i,((jt i L).map Prod.fst).Pairwise (· < ·):=by
 induction L with
 | nil=>intro i;simp[jt]
 | cons o L ih =>
  intro i
  cases o with
  | none=>exact ih (i+1)
  | some e =>
   simp only[jt,List.map_cons,List.pairwise_cons];refine⟨fun y hy => ?_,ih (i+1)⟩;obtain⟨g,hg,rfl⟩:=zz.1 hy;have:=(zc3 hg).1;omega
def qU(pre:List (Nat × Ent))(s:Nat):Prop:=s∈pre.map Prod.fst
def ofM(seed:Nat)(same:Bool)(L:List (Option Ent))(pre:List (Nat × Ent)):List Grp:=(pre.map Prod.fst).foldl (qA (yf seed same L)) (xr 1)
theorem zkO(seed:Nat)(same:Bool)(L:List (Option Ent))(pre:List (Nat × Ent))(g:Nat × Ent):ofM seed same L (pre++[g])=qA (yf seed same L) (ofM seed same L pre) g.1:=by
 unfold ofM;rw[vh,XE];rfl
theorem Part.put{L:List (Option Ent)}{pre:List (Nat × Ent)}{g:Nat × Ent}{post:List (Nat × Ent)}(h:Part seed same L (qU pre) (ofM seed same L pre))(hu:zD (ofM seed same L pre)=pre.length)(hl:live L=pre++g::post)(hlen:L.length≤4194304)
  (hn : ∀ s,qU pre s→yI L s≠g.2.key) :
  Part seed same L (qU (pre++[g])) (ofM seed same L (pre++[g]))∧zD (ofM seed same L (pre++[g]))=(pre++[g]).length∧g.1≤4294967295 ∧
   ∃ x,jJ (ofM seed same L pre).length (zD (ofM seed same L pre)) (yj (ofM seed same L pre))=some x∧Pow x.1∧zD (ofM seed same L pre)≤8*x.1∧vK (doG (yf seed same L) x (ofM seed same L pre)) (yf seed same L g.1) g.1=some (ofM seed same L (pre++[g])):=by
 have hup:=zgE L 0;rw[show jt 0 L=live L from rfl,hl,vh,qG,qd]at hup;have hnot : ¬ qU pre g.1:=fun hs=>by have:=hup.2.2 _ hs g.1 (by simp);omega
 have hg:L[g.1]? = some (some g.2):=zeE (by rw[hl];simp);have hlt:=(zE.1 hg).1;have hpl:pre.length≤4194304:=by have:=zf6 L;rw[hl]at this;simp at this;omega
 obtain⟨x,k1,k2,k3,k4,k5,k6,k7,k8⟩:=h.holds.put (by rw[hu];exact hpl) (s:=g.1) (by omega) hnot;rw[zkO];have hiff : ∀ s,qU (pre++[g]) s↔s=g.1∨qU pre s:=fun s=>by unfold qU;simp[or_comm]
 refine⟨⟨k7.of_iff (fun s=>(hiff s).symm),fun s hs => ?_,fun s t hs ht hk => ?_⟩,by rw[k8,hu];simp,by omega,x,k1,k2,k3,k6⟩
 ·rcases(hiff s).1 hs with rfl | hs
  ·exact⟨g.2,hg⟩
  ·exact h.sub s hs
 ·rcases(hiff s).1 hs with rfl | hs<;>rcases(hiff t).1 ht with rfl | ht
  ·rfl
  ·rw[Zp hg]at hk;exact absurd hk.symm (hn t ht)
  ·rw[Zp hg]at hk;exact absurd hk (hn s hs)
  ·exact h.uniq s t hs ht hk
end
end
section
open Go.RowKit Go.Shelf
variable{Fo:Nat→Prop}
attribute [local go_sem] Oper.semAt_some
theorem yg.quiet'{N:Nat}{A B:World}{D:Nat→Prop}{p:Nat}{L:List (Option Ent)}(h:yg Fo A D p L)(hq:zB N A B):yg Fo B D p L:=by
 obtain⟨sv,M,rfl,h⟩:=h;exact(h.quiet hq).toAt
section
variable{w w':World}{d q p:Nat}{sv:Value}{Dl:Nat→Prop}{seed:Nat}{same:Bool}{L:List (Option Ent)}{Gs:List Grp}
theorem zY.quiet{N:Nat}{A B:World}(h:zY Fo A d q p sv Dl seed same L Gs)(hq:zB N A B):zY Fo B d q p sv Dl seed same L Gs :=
 ⟨hq.cells h.box,h.log.quiet' hq,h.ix.quiet hq,h.sd⟩
end
structure Qf(Fo:Nat→Prop)(w:World)(d q:Nat)(Dl:Nat→Prop)(seed:Nat)(same:Bool)(L:List (Option Ent))(It:Nat→Prop)(b4 b5 b7:Nat)(pre:List xJ)(W:World):Prop where
 r4:W.heap[b4]? = some (.cells #[.pointer none] 127 (0,0))
 r5:W.heap[b5]? = some (.cells #[.int .i64 0] 24 (0,0))
 r7:W.heap[b7]? = some (.cells #[.pointer (some ⟨d,0,none⟩)] 127 (0,0))
 mem : ∃ p sv,zY Fo W d q p sv Dl seed same L (ofM seed same L (pre.map uJ))∧w.heap.size≤p∧(∀ k,sv.ownBlock=some k→w.heap.size≤k) ∧ ¬ It p ∧ ∀ k,sv.ownBlock=some k → ¬ It k
 part:Part seed same L (qU (pre.map uJ)) (ofM seed same L (pre.map uJ))
 used:zD (ofM seed same L (pre.map uJ))=pre.length
 pu:zc w W
theorem Qf.quiet{w:World}{d q:Nat}{Dl:Nat→Prop}{seed:Nat}{same:Bool}{L:List (Option Ent)}{It:Nat→Prop}{b4 b5 b7:Nat}{pre:List xJ}{A B:World}(h:Qf Fo w d q Dl seed same L It b4 b5 b7 pre A){N:Nat}(hN:w.heap.size≤N)(hq:zB N A B):Qf Fo w d q Dl seed same L It b4 b5 b7 pre B:=by
 obtain⟨p,sv,h1,h2⟩:=h.mem;exact⟨hq.cells h.r4,hq.cells h.r5,hq.cells h.r7,⟨p,sv,h1.quiet hq,h2⟩,h.part,h.used,hq.mod h.pu hN⟩
end
end Go.Proofs.YtdohbogbnheakaaGreatDoor
