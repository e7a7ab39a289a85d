/- Lemmas and contracts of functions. No condition. -/
import Derived.Test.YtdohbogbnheakaaGreatDoorJPfBoth4810
namespace Go.Proofs.YtdohbogbnheakaaGreatDoor
open _root_.Go.Proofs.Tryz
set_option maxRecDepth 100000
set_option maxHeartbeats 20000000
set_option linter.all false
section
open Go.RowKit Go.Shelf
theorem zeP : ∀ a b c d e f g i:Bool,(vJ (zJ [a,b,c,d,e,f,g,i])).length=[a,b,c,d,e,f,g,i].countP id:=by decide +kernel
theorem zkP{c:Grp}(h:xY c):(kp c).length=c.1.countP (· < 128):=by
 obtain⟨x0,x1,x2,x3,x4,x5,x6,x7,e⟩:=jI h.ctl.1;unfold kp;rw[e];simp only[List.map_cons,List.map_nil];rw[zeP];simp only[List.countP_cons,List.countP_nil,id]
theorem zbB{Gs:List Grp}(h:xF Gs):(Gs.flatMap vy).length=zD Gs:=by
 unfold zD;rw[List.length_flatMap]
 congr 1
 refine uA (fun c hc => ?_);unfold vy;rw[yq,zkP (h.grp c hc)]
theorem Azbgf {P:Prop}(h:P:=by
 unfold kp;rw[Kr (by simp[hc.ctl.1])];simp only[List.mem_filter,List.mem_range,List.getD_eq_getElem?_getD,List.getElem?_map]
 cases c.1[j]? <;> simp):P:=h
theorem zfL{c:Grp}(hc:xY c)(j:Nat):j∈kp c↔j<8 ∧ ∃ t,c.1[j]? = some t∧t<128:=by
 exact Azbgf
theorem zgJ(c:Grp):(kp c).Pairwise (· < ·):=by
 unfold kp vJ;exact List.Pairwise.filter _ List.pairwise_lt_range
theorem zdA{Gs:List Grp}(h:xF Gs)(s:Nat):s∈Gs.flatMap vy ↔ ∃ i j t,vP Gs i j t s:=by
 have hin : ∀ c,xY c → ∀ j,j∈kp c↔j<8 ∧ ∃ t,c.1[j]? = some t∧t<128:=fun c hc j=>by
  exact Azbgf
 constructor
 ·intro hs;obtain⟨c,hc,hs⟩:=Zu.1 hs;obtain⟨j,hj,rfl⟩:=zy.1 hs;obtain⟨i,hi⟩:=ug hc;have hl:i<Gs.length:=(zE.1 hi).1;have e:zn Gs i=c:=by have:=uu hl;rw[hi]at this;cases this;rfl
  obtain⟨hj8,t,ht,ht2⟩:=(hin c (h.grp c hc) j).1 hj;exact⟨i,j,t,hl,hj8,by rw[e];exact ht,ht2,by unfold zQ;rw[e]⟩
 ·rintro⟨i,j,t,hf⟩;refine Zu.2 ⟨zn Gs i,yl (uu hf.hi),zy.2 ⟨j,(hin _ (h.at hf.hi) j).2 ⟨hf.hj,t,hf.tag,hf.full⟩,hf.slot⟩⟩
theorem Ul{Gs:List Grp}{i:Nat}(h:xF Gs)(hi:i<Gs.length){j:Nat}(hj:j∈kp (zn Gs i)) : ∃ t,vP Gs i j t ((zn Gs i).2.getD j 0):=by
 obtain⟨h8,t,ht,ht2⟩:=(zfL (h.at hi) j).1 hj;exact⟨t,hi,h8,ht,ht2,rfl⟩
theorem yF.nodup{H:Nat→Nat}{S:Nat→Prop}{Gs:List Grp}(h:yF H S Gs):(Gs.flatMap vy).Nodup:=by
 unfold List.Nodup;rw[List.pairwise_flatMap];constructor
 ·intro c hc;obtain⟨i,hi⟩:=ug hc;have hl:i<Gs.length:=(zE.1 hi).1;have e:zn Gs i=c:=by have:=uu hl;rw[hi]at this;cases this;rfl
  unfold vy;rw[uY];refine(zgJ c).imp_of_mem (fun {a b} ha hb hab => ?_);intro e2;rw[← e]at ha hb e2;obtain⟨t1,h1⟩:=Ul h.ok hl ha;obtain⟨t2,h2⟩:=Ul h.ok hl hb;have:=(h.uniq _ _ _ _ _ _ _ h1 (e2 ▸ h2)).2;omega
 ·rw[Vq];intro i j hi hj hij x hx y hy e;have ei:zn Gs i=Gs[i]:=by have:=uu hi;rw[zL hi]at this;exact(uD this).symm
  have ej:zn Gs j=Gs[j]:=by have:=uu hj;rw[zL hj]at this;exact(uD this).symm
  obtain⟨a,ha,rfl⟩:=zy.1 hx;obtain⟨b,hb,rfl⟩:=zy.1 hy;rw[← ei]at ha e;rw[← ej]at hb e;obtain⟨t1,h1⟩:=Ul h.ok hi ha;obtain⟨t2,h2⟩:=Ul h.ok hj hb;have:=(h.uniq _ _ _ _ _ _ _ h1 (e ▸ h2)).1;omega
theorem zcD{H:Nat→Nat} : ∀(L:List Nat) (o:List Grp) (S:Nat→Prop),yF H S o→(∀ s∈L,s≤4294967295 ∧ ¬ S s)→L.Nodup→zD o+L.length≤8*o.length →
  yF H (fun s=>S s∨s∈L) (L.foldl (uJ H) o)∧zD (L.foldl (uJ H) o)=zD o+L.length∧(L.foldl (uJ H) o).length=o.length∧yf (L.foldl (uJ H) o)≤yf o
 | [],o,S,h,_,_,_=>⟨h.of_iff (by simp),rfl,rfl,zH _⟩
 | s::L,o,S,h,hs,hn,hr=>by
  obtain⟨hs1,hs2⟩:=hs s (by simp);obtain⟨o',ho⟩ : ∃ o',vK o (H s) s=some o':=by
   cases hc:vK o (H s) s with
   | some o'=>exact⟨o',rfl⟩
   | none =>
    have:=(zaQ h.ok _ _).1 hc;simp only[List.length_cons]at hr;omega
  have e:uJ H o s=o':=by unfold uJ;rw[ho];rfl
  obtain⟨c1,c2,c3,c4⟩:=UI h.ok hs1 ho;have hi:=h.ins hs1 hs2 ho;simp only[List.foldl_cons,e];simp only[List.length_cons]at hr ⊢;obtain⟨k1,k2,k3,k4⟩:=zcD L o' _ hi (fun x hx=>⟨(hs x (by simp[hx])).1,fun hx2=>by
   rcases hx2 with rfl | hx2
   ·exact(yS.1 hn).1 hx
   ·exact(hs x (by simp[hx])).2 hx2⟩) (yS.1 hn).2 (by omega)
  refine⟨k1.of_iff (fun x => ?_),by omega,by omega,by omega⟩;simp only[List.mem_cons];constructor
  ·rintro((h | h) | h)
   ·exact .inr (.inl h)
   ·exact .inl h
   ·exact .inr (.inr h)
  ·rintro(h | h | h)
   ·exact .inl (.inr h)
   ·exact .inl (.inl h)
   ·exact .inr h
theorem yF.rehash{H:Nat→Nat}{S:Nat→Prop}{Gs:List Grp}(h:yF H S Gs){g:Nat}(hg:Pow g)(hu:zD Gs≤8*g) :
  yF H S (Yj H g Gs)∧zD (Yj H g Gs)=zD Gs∧(Yj H g Gs).length=g∧yf (Yj H g Gs)=0:=by
 have hm : ∀ s,s∈Gs.flatMap vy↔S s:=fun s=>(zdA h.ok s).trans (h.mem s).symm
 have hlt : ∀ s∈Gs.flatMap vy,s≤4294967295:=by
  intro s hs;obtain⟨c,hc,hs⟩:=Zu.1 hs;exact zkL (h.ok.grp c hc) s hs
 obtain⟨k1,k2,k3,k4⟩:=zcD (Gs.flatMap vy) (xr g) (fun _=>False) (newG_holds H hg) (fun s hs=>⟨hlt s hs,fun h=>h⟩) h.nodup (by rw[zbB h.ok,Vt,VS];omega);unfold Yj;rw[Vt,zbB h.ok]at k2;rw[VS]at k3;rw[za9]at k4;exact⟨k1.of_iff (fun s=>by simp[hm]),by omega,k3,by omega⟩
theorem Yw(a b:ByteArray):(a==b)=true↔a=b:=by
 cases a;cases b
 rename_i x y
 show(x==y)=true↔_
 simp
def us(L:List (Option Ent))(s:Nat):Prop := ∃ e,L[s]? = some (some e)
def yd(seed:Nat)(same:Bool)(L:List (Option Ent))(s:Nat):Nat:=kO seed same (yJ L s)
theorem Yl{L:List (Option Ent)}{s:Nat}{e:Ent}(h:L[s]? = some (some e)):yJ L s=e.key:=by unfold yJ;rw[h]
theorem zig(a b:ByteArray):(a.toList==b.toList)=(a==b):=by
 rw[Bool.eq_iff_iff,Yw,beq_iff_eq,ByteArray.toList_eq,ByteArray.toList_eq];exact⟨fun h=>ByteArray.ext (Array.toList_inj.1 h),fun h=>by rw[h]⟩
def YP(L:List (Option Ent)):Prop := ∀(s t:Nat) (e f:Ent),L[s]? = some (some e)→L[t]? = some (some f)→e.key=f.key→s=t
def isK(key:ByteArray)(o:Option Ent):Bool:=match o with
 | some e=>e.key==key
 | none=>false
def yT(L:List (Option Ent))(key:ByteArray):Option Nat:=L.findIdx? (isK key)
theorem Kh{key:ByteArray}{o:Option Ent}:isK key o=true ↔ ∃ e,o=some e∧e.key=key:=by
 cases o with
 | none=>simp[isK]
 | some e=>simp[isK,Yw]
theorem Vw{L:List (Option Ent)}{key:ByteArray}{s:Nat}(h:yT L key=some s) : ∃ e:Ent,L[s]? = some (some e)∧e.key=key:=by
 unfold yT at h;obtain⟨hl,hp,_⟩:=KA.1 h;obtain⟨e,he,hk⟩:=Kh.1 hp;exact⟨e,by rw[zL hl,he],hk⟩
theorem QM{L:List (Option Ent)}{key:ByteArray}(h:yT L key=none) : ∀(s:Nat) (e:Ent),L[s]? = some (some e)→e.key≠key:=by
 unfold yT at h;rw[VV]at h;intro s e hs hk;have:=h _ (yl hs);rw[Kh.2 ⟨e,rfl,hk⟩]at this
 cases this
theorem zfO{L:List (Option Ent)}(hk:YP L){s:Nat}{e:Ent}(h:L[s]? = some (some e)):yT L e.key=some s:=by
 cases hf:yT L e.key with
 | none=>exact absurd rfl (QM hf s e h)
 | some t =>
  obtain⟨f,h1,h2⟩:=Vw hf;rw[hk t s f e h1 h h2]
theorem zlk{L:List (Option Ent)}{key:ByteArray}(h : ∀(s:Nat) (e:Ent),L[s]? = some (some e)→e.key≠key):yT L key=none:=by
 cases hf:yT L key with
 | none=>rfl
 | some t =>
  obtain⟨f,h1,h2⟩:=Vw hf;exact absurd h2 (h t f h1)
theorem yF.congr{H H':Nat→Nat}{S:Nat→Prop}{Gs:List Grp}(h:yF H S Gs)(he : ∀ s,S s→H s=H' s):yF H' S Gs :=
 ⟨h.ok,fun i j t s hf=>by rw[← he s ((h.mem s).2 ⟨i,j,t,hf⟩)];exact h.tag i j t s hf,fun i j t s hf=>by rw[← he s ((h.mem s).2 ⟨i,j,t,hf⟩)];exact h.reach i j t s hf,h.uniq,h.mem⟩
structure uc(seed:Nat)(same:Bool)(L:List (Option Ent))(Gs:List Grp):Prop where
 holds:yF (yd seed same L) (us L) Gs
 keys:YP L
 used:zD Gs=zX L
theorem zbJ{n:Nat}:Xv n<18446744073709551616:=by
 have h1:jL n<2 ^ 64:=zbe n;exact qO h1 (j6 (YD _ _) h1)
theorem Jh(seed:Nat)(same:Bool)(L:List (Option Ent))(s:Nat):yd seed same L s<18446744073709551616:=zbJ
theorem zac{H:Nat→Nat}{S:Nat→Prop}{Gs:List Grp}(h:yF H S Gs){sum:Nat}{x:Nat × Nat}(hx:x∈xI Gs sum):S (zQ Gs x):=(h.mem _).2 ⟨_,_,_,VI h.ok hx⟩
theorem uc.find{seed:Nat}{same:Bool}{L:List (Option Ent)}{Gs:List Grp}(h:uc seed same L Gs){w w':World}{D:Nat→Prop}{p:Nat}{sv:Value}{key:ByteArray}{C:TypeId→Prop}{J:List Nat→World→Prop}{e:Ending}
  (hp:K7 w D p sv Gs (kO seed same key) (fun _ s=>yJ L s==key) C J e w') :
  e=.returned (.tuple (match yT L key with | some s=>#[.int .u32 s,.int .i64 0] | none=>#[.int .u32 0,.int .i64 9])):=by
 obtain⟨_,_,⟨a,x,post,h1,h2,h3,h4,h5⟩ | ⟨h1,h2,h3⟩⟩:=hp
 ·have hx:x∈xI Gs (kO seed same key):=by rw[h1];simp
  obtain⟨f,hf⟩:=zac h.holds hx;have hk:f.key=key:=by
   have:(yJ L (zQ Gs x)==key)=true:=h3;rw[Yl hf]at this;exact(Yw _ _).1 this
  have:=zfO h.keys hf;rw[hk]at this;rw[this];exact h4
 ·have:yT L key=none:=by
   refine zlk (fun s f hs hk => ?_);obtain⟨i,j,hm,hF⟩:=h.holds.find_some (s:=s) ⟨f,hs⟩;have e1:yd seed same L s=kO seed same key:=by unfold yd;rw[Yl hs,hk]
   rw[e1]at hm;unfold ue at hm;have hx:=ZH hm;have:=Vh h1 _ (zy.2 ⟨_,hx,rfl⟩);rw[hF.slot,Yl hs,hk,(Yw key key).2 rfl]at this
   cases this
  rw[this];exact h2
theorem JF : ∀ {Gs:List Grp},(∀ c∈Gs,xY c)→zD Gs+yf Gs≤8*Gs.length
 | [],_=>by simp[zD,yf]
 | c::Gs,h=>by
  have h1:=JF (Gs:=Gs) (fun c hc=>h c (by simp[hc]));have h2 : ∀ l:List Nat,l.countP (· < 128)+l.countP (· == 254)≤l.length:=by
   intro l
   induction l with
   | nil=>simp
   | cons a l ih =>
    simp only[List.countP_cons,List.length_cons];by_cases c1:a<128
    ·have:(a==254)=false:=by simp;omega
     simp[c1,this]at *;omega
    ·by_cases c2:(a==254)=true
     ·simp[c1,c2]at *;omega
     ·simp[c1,c2]at *;omega
  have h3:=h2 c.1;rw[(h c (by simp)).ctl.1]at h3;unfold zD yf at *;simp only[List.map_cons,List.sum_cons,List.length_cons];omega
theorem Pow.dbl{g:Nat}(h:Pow g)(hlt:g<1048576):Pow (2*g):=by
 obtain⟨k,hk,rfl⟩:=h;refine⟨k+1,?_,by rw[Zt];omega⟩;have:k≠20:=by rintro rfl;omega
 omega
def doG(H:Nat→Nat)(x:Nat × Bool)(Gs:List Grp):List Grp:=if x.2 then Yj H x.1 Gs else Gs
theorem zeC{Gs:List Grp}(h:xF Gs)(hl:zD Gs≤4194304) : ∃ x,jW Gs.length (zD Gs) (yf Gs)=some x∧Pow x.1∧zD Gs<8*x.1∧(x.2=false→x.1=Gs.length):=by
 have hp:=h.pow;have h0:=hp.pos;have h1:=hp.le;unfold jW;split
 ·exact⟨_,rfl,hp,by show _<8*Gs.length;omega,fun _=>rfl⟩
 ·split
  ·exact⟨_,rfl,hp,by show _<8*Gs.length;omega,by simp⟩
  ·have h2:=Qq h;split
   ·rename_i h3;exact⟨_,rfl,hp.dbl h3,by show _<8*(2*Gs.length);omega,by simp⟩
   ·have h4:Gs.length=1048576:=by omega
    rw[zh (by omega)];exact⟨_,rfl,hp,by show _<8*Gs.length;omega,by simp⟩
theorem yF.do{H:Nat→Nat}{S:Nat→Prop}{Gs:List Grp}(h:yF H S Gs){x:Nat × Bool}(hx:Pow x.1)(hu:zD Gs≤8*x.1)(hn:x.2=false→x.1=Gs.length) :
  yF H S (doG H x Gs)∧zD (doG H x Gs)=zD Gs∧(doG H x Gs).length=x.1:=by
 unfold doG
 cases hb:x.2 with
 | false=>exact⟨h,rfl,(hn hb).symm⟩
 | true =>
  obtain⟨h1,h2,h3,_⟩:=h.rehash hx hu;exact⟨h1,h2,h3⟩
def qt(H:Nat→Nat)(Gs:List Grp)(s:Nat):List Grp:=uJ H (doG H ((jW Gs.length (zD Gs) (yf Gs)).getD (0,false)) Gs) s
theorem yF.put{H:Nat→Nat}{S:Nat→Prop}{Gs:List Grp}(h:yF H S Gs)(hl:zD Gs≤4194304){s:Nat}(hs:s≤4294967295)(hn : ¬ S s) :
  ∃ x,jW Gs.length (zD Gs) (yf Gs)=some x∧Pow x.1∧zD Gs≤8*x.1∧(x.2=false→x.1=Gs.length)∧yF H S (doG H x Gs)∧vK (doG H x Gs) (H s) s=some (qt H Gs s) ∧
   yF H (fun y=>y=s∨S y) (qt H Gs s)∧zD (qt H Gs s)=zD Gs+1:=by
 obtain⟨x,h1,h2,h3,h4⟩:=zeC h.ok hl;obtain⟨k1,k2,k3⟩:=h.do h2 (qY h3) h4;have hm : ∃ o,vK (doG H x Gs) (H s) s=some o:=by
  cases e:vK (doG H x Gs) (H s) s with
  | some o=>exact⟨o,rfl⟩
  | none =>
   have:=(zaQ k1.ok _ _).1 e;rw[k2,k3]at this;omega
 obtain⟨o,ho⟩:=hm;have e:qt H Gs s=o:=by
  unfold qt uJ;rw[h1];simp[ho]
 rw[e];refine⟨x,h1,h2,qY h3,h4,k1,ho,k1.ins hs hn ho,?_⟩;rw[(UI k1.ok hs ho).1,k2]
theorem zes(L:List (Option Ent))(o:Option Ent){s:Nat}(h:s<L.length):yJ (L++[o]) s=yJ L s:=by
 unfold yJ;rw[uB h]
theorem VT{L:List (Option Ent)}{s:Nat}(h:us L s):s<L.length:=by
 obtain⟨e,h⟩:=h;exact(zE.1 h).1
theorem ziZ(L:List (Option Ent))(x:Ent)(s:Nat):us (L++[some x]) s↔s=L.length∨us L s:=by
 constructor
 ·rintro⟨e,h⟩;rcases Zo s L.length with hl | hl | hl
  ·rw[uB hl]at h;exact .inr ⟨e,h⟩
  ·exact .inl hl
  ·rw[xK (by simp;omega)]at h;cases h
 ·rintro(rfl | h)
  ·exact⟨x,by simp⟩
  ·obtain⟨e,he⟩:=id h;exact⟨e,by rw[uB (VT h)];exact he⟩
theorem zh8{L:List (Option Ent)}(h:YP L){x:Ent}(hx:yT L x.key=none):YP (L++[some x]):=by
 have hn:=QM hx;have hc : ∀ s e,(L++[some x])[s]? = some (some e)→(s<L.length∧L[s]? = some (some e))∨(s=L.length∧e=x):=by
  intro s e hs;rcases Zo s L.length with hl | hl | hl
  ·rw[uB hl]at hs;exact .inl ⟨hl,hs⟩
  ·subst hl;simp at hs;exact .inr ⟨rfl,hs.symm⟩
  ·rw[xK (by simp;omega)]at hs;cases hs
 intro s t e f hs ht hk;rcases hc s e hs with⟨h1,h2⟩ | ⟨h1,h2⟩<;>rcases hc t f ht with⟨h3,h4⟩ | ⟨h3,h4⟩
 ·exact h s t e f h2 h4 hk
 ·subst h4;exact absurd hk (hn s e h2)
 ·subst h2;exact absurd hk.symm (hn t f h4)
 ·omega
theorem zfs(L:List (Option Ent))(x:Ent):zX (L++[some x])=zX L+1:=by unfold zX;simp
theorem Jo(L:List (Option Ent)):zX L≤L.length:=Vl
theorem uc.insert{seed:Nat}{same:Bool}{L:List (Option Ent)}{Gs:List Grp}(h:uc seed same L Gs){x:Ent}(hx:yT L x.key=none)(hl:L.length≤4194304) :
  yF (yd seed same (L++[some x])) (us L) Gs∧uc seed same (L++[some x]) (qt (yd seed same (L++[some x])) Gs L.length):=by
 have h1:yF (yd seed same (L++[some x])) (us L) Gs:=h.holds.congr (fun s hs=>by unfold yd;rw[zes _ _ (VT hs)]);have h0:=Jo L;obtain⟨y,k1,k2,k3,k4,k5,k6,k7,k8⟩:=h1.put (by rw[h.used];omega) (s:=L.length) (by omega) (fun c=>by have:=VT c;omega);exact⟨h1,k7.of_iff (fun s=>(ziZ L x s).symm),zh8 h.keys hx,by rw[k8,h.used,zfs]⟩
theorem uc.new(seed:Nat)(same:Bool):uc seed same [] (xr 1) :=
 ⟨(newG_holds _ ⟨0,by decide,rfl⟩).of_iff (fun s=>⟨fun h=>h.elim,fun⟨e,h⟩=>by simp at h⟩),fun s t e f h=>by simp at h,by rw[Vt];rfl⟩
end
section
open Go.RowKit Go.Shelf
variable{Fo:Nat→Prop}
theorem Az26g {P:Prop}(h:P:=by
 generalize w.heap.size=b at *;obtain⟨hb_0,hb_1,hb_f,hb_l,H_hb⟩:=cr2 hb;clear hb
 go_wp2_with (first
   | (go_at_call 243;refine(HF.out _).mono ?_;rintro e w' ⟨rfl,rfl⟩)
   | (go_at_call 242;refine(HM.out _).mono ?_;rintro e w' ⟨rfl,rfl⟩))
 go_ret;exact⟨rfl,HP.out⟩):P:=h
theorem Qh(seed:Nat)(same:Bool)(hs:seed<18446744073709551616)(key:ByteArray)(hk:key.size≤140737488355328)(w:World) :
    Calls prog 175 #[.agg #[.int .u64 seed,.bool same],.string key] w fun e w'=>e=.returned (.int .u64 (kO seed same key:Nat))∧zb w w':=by
  have hp:zb w (w.alloc (.cells #[.int .u64 seed,.bool same] 178)):=(Mod.refl _ w).alloc _;have hb:=zi (w:=w) (o:=(.cells #[.int .u64 seed,.bool same] 178 (0,0))) rfl;have HP:=za hp;obtain⟨res,hres⟩:=zc (kO seed same key);rw[hres];unfold kO at hres;have HR:=za hres;clear hp hres
  cases same with
  | true =>
    have hr:=HR.out;simp only[if_true]at hr;have HF:=za (fun W=>zaM seed hs ⟨#[]⟩ (by decide) W);have HM:=za (fun W=>zcA seed hs W);have e0:kq seed (⟨#[]⟩:ByteArray).data.toList=seed:=rfl;have e1:kq seed []=seed:=rfl;rw[e1]at hr;rw[e0]at HF;subst hr;clear HR e0 e1;go_enter func175,ntmps175;go_upto_region 1 with fail
    generalize w.alloc (.cells #[.int .u64 seed,.bool true] 178)=W1 at *;exact Az26g
  | false =>
    have hr:=HR.out;simp only[Bool.false_eq_true,if_false]at hr;have hq:=U4 hs key.data.toList;have HF:=za (fun W=>zaM seed hs key hk W);have HM:=za (fun W=>zcA _ hq W);subst hr;clear HR;generalize kq seed key.data.toList=q at *;go_enter func175,ntmps175;go_upto_region 1 with fail
    generalize w.alloc (.cells #[.int .u64 seed,.bool false] 178)=W1 at *;exact Az26g
abbrev xA(d:Nat):Value := .pointer (some ⟨d,0,none⟩)
structure zY(Fo:Nat→Prop)(w:World)(d q p:Nat)(sv:Value)(Dl:Nat→Prop)(seed:Nat)(same:Bool)(L:List (Option Ent))(Gs:List Grp):Prop where
 box:w.heap[d]? = some (.cells #[.pointer (some ⟨q,0,none⟩),.int .u64 seed,.bool same,.pointer (some ⟨p,0,none⟩)] 203 (0,0))
 log:yc Fo w Dl q L
 ix:yh w (fun k=>k=p∨sv.ownBlock=some k) p sv Gs
 sd:seed<18446744073709551616
section
variable{w w':World}{d q p:Nat}{sv:Value}{Dl:Nat→Prop}{seed:Nat}{same:Bool}{L:List (Option Ent)}{Gs:List Grp}
theorem zY.pure(h:zY Fo w d q p sv Dl seed same L Gs)(hp:zb w w'):zY Fo w' d q p sv Dl seed same L Gs :=
 ⟨hp.heap (fun h=>h) h.box,h.log.pure hp,h.ix.pure hp,h.sd⟩
def j9(d:Nat)(Dl:Nat→Prop)(p:Nat)(sv:Value)(k:Nat):Prop:=k=d∨Dl k∨k=p∨sv.ownBlock=some k
theorem zY.types(h:zY Fo w d q p sv Dl seed same L Gs){k:Nat}(hk:j9 d Dl p sv k){cs:Array Value}{T:TypeId}{fz:Nat × Nat}(e:w.heap[k]? = some (.cells cs T fz)) :
  T=203∨T=356∨T=141∨T=351∨T=354:=by
 rcases hk with rfl | hk | rfl | hk
 ·rw[h.box]at e;cases e;exact .inl rfl
 ·rcases h.log.types hk e with e | e
  ·exact .inr (.inl e)
  ·exact .inr (.inr (.inl e))
 ·rw[h.ix.box]at e;cases e;exact .inr (.inr (.inr (.inl rfl)))
 ·obtain⟨cc,e2⟩:=yk h.ix.row hk;rw[e2]at e;cases e;exact .inr (.inr (.inr (.inr rfl)))
theorem zY.lt(h:zY Fo w d q p sv Dl seed same L Gs){k:Nat}(hk:j9 d Dl p sv k):k<w.heap.size:=by
 rcases hk with rfl | hk | rfl | hk
 ·exact zl h.box
 ·exact h.log.lt hk
 ·exact zl h.ix.box
 ·exact uq h.ix.row hk
theorem zY.frame{S:Nat→Prop}(h:zY Fo w d q p sv Dl seed same L Gs)(hm:Mod S w w')(hD : ∀ k,j9 d Dl p sv k → ¬ S k)(hS : ∀ k,k<w.heap.size→S k → ∀ cs fz,w.heap[k]? ≠ some (.cells cs 5 fz)):zY Fo w' d q p sv Dl seed same L Gs :=
 ⟨hm.heap (hD d (.inl rfl)) h.box,h.log.frame hm (fun k hk=>hD k (.inr (.inl hk))) hS,h.ix.mod hm (fun k hk=>hD k (.inr (.inr hk))),h.sd⟩
theorem zY.frameF{S:Nat→Prop}(h:zY Fo w d q p sv Dl seed same L Gs)(hm:Mod S w w')(hD : ∀ k,j9 d Dl p sv k → ¬ S k)(hS : ∀ k,k<w.heap.size→S k→Fo k ∨ ∀ cs fz,w.heap[k]? ≠ some (.cells cs 5 fz)):zY Fo w' d q p sv Dl seed same L Gs :=
 ⟨hm.heap (hD d (.inl rfl)) h.box,h.log.frameF hm (fun k hk=>hD k (.inr (.inl hk))) hS,h.ix.mod hm (fun k hk=>hD k (.inr (.inr hk))),h.sd⟩
theorem zY.refo{Fo':Nat→Prop}(h:zY Fo w d q p sv Dl seed same L Gs)(hm:zb w w')(h1 : ∀ k,Fo' k→Fo k∨w.heap.size≤k)(h2 : ∀ k,Fo' k→k<w'.heap.size):zY Fo' w' d q p sv Dl seed same L Gs :=
 ⟨hm.heap (fun h=>h) h.box,h.log.refo hm h1 h2,h.ix.pure hm,h.sd⟩
theorem zY.nd(h:zY Fo w d q p sv Dl seed same L Gs) : ¬ Dl d:=fun hk=>by
 rcases h.log.types hk h.box with e | e<;>cases e
theorem zY.npd(h:zY Fo w d q p sv Dl seed same L Gs):p≠d:=fun e=>by
 have h1:=h.ix.box;rw[e,h.box]at h1;cases h1
theorem zY.nsd(h:zY Fo w d q p sv Dl seed same L Gs):sv.ownBlock≠some d:=fun e=>by
 obtain⟨cc,e2⟩:=yk h.ix.row e;rw[h.box]at e2;cases e2
theorem zY.nlp(h:zY Fo w d q p sv Dl seed same L Gs) : ∀ k,Dl k → ¬ (k=p∨sv.ownBlock=some k):=by
 rintro k hk (rfl | e)
 ·rcases h.log.types hk h.ix.box with e | e<;>cases e
 ·obtain⟨cc,e2⟩:=yk h.ix.row e;rcases h.log.types hk e2 with e | e<;>cases e
end
theorem zdI{w:World}{D:Nat→Prop}{q:Nat}{L:List (Option Ent)}(h:yc Fo w D q L)(s:Nat):(yJ L s).size≤250:=by
 unfold yJ;split
 ·rename_i e he;exact(h.ok.ent e (yl he)).k1
 ·decide
theorem Qo{w:World}{D:Nat→Prop}{q:Nat}{L:List (Option Ent)}(h:yc Fo w D q L)(s:Nat)(hs:s≤4294967295) :
  Calls prog 177 #[.agg #[.pointer (some ⟨q,0,none⟩)],.int .u32 s] w fun e w'=>e=.returned (.string (yJ L s))∧zb w w':=by
 have hp:zb w (w.alloc (.cells #[.pointer (some ⟨q,0,none⟩)] 200)):=(Mod.refl _ w).alloc _;have hb:=zi (w:=w) (o:=(.cells #[.pointer (some ⟨q,0,none⟩)] 200 (0,0))) rfl;have HK:=za (zbO (h.pure hp) s hs);have HP:=za hp;clear h hp;go_enter func177,ntmps177;go_upto_region 1 with fail
 generalize w.alloc (.cells #[.pointer (some ⟨q,0,none⟩)] 200)=W1 at *;generalize w.heap.size=b at *;obtain⟨hb_0,hb_f,hb_l,H_hb⟩:=cr1 hb;clear hb
 go_wp2_with (go_at_call 213;refine HK.out.mono ?_;rintro e w' ⟨rfl,rfl⟩)
 go_ret;exact⟨rfl,HP.out⟩
theorem ZM{w:World}{d q p:Nat}{sv:Value}{Dl:Nat→Prop}{seed:Nat}{same:Bool}{L:List (Option Ent)}{Gs:List Grp}(h:zY Fo w d q p sv Dl seed same L Gs) :
  Calls prog 112 #[xA d] w fun e w'=>e=.returned (.bool false)∧w=w':=by
 have hb:=h.box;clear h;obtain⟨hb_0,hb_1,hb_2,hb_3,hb_f,hb_l,H_hb⟩:=cr4 hb;clear hb;go_enter func112,ntmps112;go_wp2;go_ret;exact⟨rfl,rfl⟩
theorem Jg{w:World}{d q p:Nat}{sv:Value}{Dl:Nat→Prop}{seed:Nat}{same:Bool}{L:List (Option Ent)}{Gs:List Grp}(h:zY Fo w d q p sv Dl seed same L Gs)(s:Nat)(hs:s≤4294967295) :
    Calls prog 215 #[xA d,.int .u32 s] w fun e w'=>e=.returned (.int .u64 (yd seed same L s:Nat))∧zb w w':=by
  have HK:=za (fun W (hW:zb w W)=>Qo (h.log.pure hW) s hs);have HH:=za (fun W=>Qh seed same h.sd (yJ L s) (by have:=zdI h.log s;omega) W);have e1:kO seed same (yJ L s)=yd seed same L s:=rfl;rw[e1]at HH;have hb:=h.box;clear h e1;generalize yd seed same L s=r at *;obtain⟨hb_0,hb_1,hb_2,hb_3,hb_f,hb_l,H_hb⟩:=cr4 hb;clear hb;have hf:=hb_f;go_enter func215,ntmps215;go_upto_region 1 with fail
  go_region_held3 (fun w'=>w'.cell? ⟨d,0,none⟩=some (.pointer (some ⟨q,0,none⟩))∧w'.cell? ⟨d,1,none⟩=some (.int .u64 seed)∧w'.cell? ⟨d,2,none⟩=some (.bool same))
    (first | exact⟨hb_0,hb_1,hb_2⟩ | exact⟨hp1.cell (fun h=>h) hb_0,hp1.cell (fun h=>h) hb_1,hp1.cell (fun h=>h) hb_2⟩ | exact⟨(hp1.trans hp2).cell (fun h=>h) hb_0,(hp1.trans hp2).cell (fun h=>h) hb_1,(hp1.trans hp2).cell (fun h=>h) hb_2⟩)
    (first
      | (go_at_call 177;refine(HK.out _ (by exact yZ)).mono ?_;rintro e w1 ⟨rfl,hp1⟩)
      | (go_at_call 175;refine(HH.out _).mono ?_;rintro e w2 ⟨rfl,hp2⟩))
  go_wp2;go_ret;exact⟨rfl,(Mod.of_drew hp1).trans hp2⟩
end
section
open Go.RowKit Go.Shelf
variable{Fo:Nat→Prop}
section
variable{w:World}{d q p:Nat}{sv:Value}{Dl:Nat→Prop}{seed:Nat}{same:Bool}{L:List (Option Ent)}{Gs:List Grp}
def Kg(w:World)(x:Nat × Bool)(e:Ending)(w':World):Prop :=
 e=.returned (.tuple #[.agg #[.int .i64 (x.1:Nat),.bool x.2],.int .i64 0])∧zb w w'
theorem zan(h:zY Fo w d q p sv Dl seed same L Gs){x:Nat × Bool}(hx:jW Gs.length (zD Gs) (yf Gs)=some x):Calls prog 194 #[xA d] w (Kg w x):=by
  have hpow:=h.ix.ok.pow;have hle:=JF h.ix.ok.grp;have HX:=za h.ix;have HG:=za (fun W=>zg9 hpow hle W);rw[hx]at HG;dsimp only[zdn]at HG;have hb:=h.box;have hp0:zb w (w.alloc (.cells #[.int .i64 0,.bool false] 293)):=(Mod.refl _ w).alloc _;have h2:=zi (w:=w) (o := .cells #[.int .i64 0,.bool false] 293 (0,0)) rfl;have hbb:=hp0.heap (fun h=>h) hb;have HP:=za hp0;replace HX:=za (HX.out.pure hp0);have HBX:=za hb;clear h hx hpow hle hp0 hb;obtain⟨x1,x2⟩:=x;dsimp only at HG;go_enter func194,ntmps194;go_upto_region 1 with fail
  generalize w.alloc (.cells #[.int .i64 0,.bool false] 293)=W1 at *;obtain⟨b,hbe⟩:=zc w.heap.size;rw[hbe]at h2 ⊢;have HB:=za hbe;clear hbe;have hdb:d≠b:=by have:=zl HBX.out;have:=HB.out;omega
  obtain⟨hbb_0,hbb_1,hbb_2,hbb_3,hbb_f,hbb_l,H_hbb⟩:=cr4 hbb;clear hbb;obtain⟨h2_0,h2_1,h2_f,h2_l,H_h2⟩:=cr2 h2;clear h2
  go_region_held3 (fun w'=>w'.cell? ⟨d,3,none⟩=some (.pointer (some ⟨p,0,none⟩)))
    (first | exact hbb_3 | exact hp1.cell (fun h=>h) hbb_3 | exact(Mod.set2 b 0 1 _ _).cell (fun e=>hdb e) (hp1.cell (fun h=>h) hbb_3))
    (first
      | (go_at_call 206;refine zm (KZ (HX.out.pure (by exact yZ))) ?_;rintro e w1 ⟨rfl,rfl⟩)
      | (go_at_call 218;refine zm (zaU (HX.out.pure (by exact yZ))) ?_;rintro e w1 ⟨rfl,rfl⟩)
      | (go_at_call 207;refine zm (Kw (HX.out.pure (by exact yZ))) ?_;rintro e w1 ⟨rfl,rfl⟩)
      | (go_at_call 254;refine(HG.out _).mono ?_;rintro e w1 ⟨rfl,hp1⟩;have k0:=hp1.cell (fun h=>h) h2_0;have k1:=hp1.cell (fun h=>h) h2_1;have kf : ∀ j,w1.frozen? ⟨b,j,none⟩=false:=(fun j=>(hp1.cells.2 b j h2_l).trans (h2_f j));have kl:b<w1.heap.size:=hp1.lt h2_l))
  go_wp2;obtain⟨f1,y0,y1⟩:=j4 (v0 := .int .i64 x1) (v1 := .bool x2) ((Mod.of_drew hp1).heap (fun h=>h) H_h2.out) (HP.out.trans (Mod.of_drew hp1)) (by have:=HB.out;omega) rfl;obtain⟨Y,hY⟩:=zc ((w1.setCell ⟨b,0,none⟩ (.int .i64 x1)).setCell ⟨b,1,none⟩ (.bool x2));rw[hY]at f1 y0 y1 ⊢;exact zO (v := .tuple #[.agg #[.int .i64 x1,.bool x2],.int .i64 0]) (by simp[results,results194,go_sem,y0,y1]) rfl ⟨rfl,f1⟩
theorem zgI(h:zY Fo w d q p sv Dl seed same L Gs):Vr prog 215 #[xA d] #[] (yd seed same L) (fun _=>True) (fun W=>zb w W) w :=
 ⟨enters_of func215 (by kernel_rfl) rfl,fun s W hs _ hJ=>by
  have:=(yD (n:=0)).2 (Jg (h.pure hJ) s hs);simpa using this,fun s=>Jh seed same L s,fun A B hJ hm=>hJ.then hm (fun i hi e=>by omega),Mod.refl _ _⟩
def V4(w:World)(p:Nat)(sv:Value)(p2:Nat)(sv2:Value):Prop:=(p2=p∧sv2=sv)∨(w.heap.size≤p2 ∧ ∀ k,sv2.ownBlock=some k→w.heap.size≤k)
def zkp(Fo:Nat→Prop)(w:World)(d q p:Nat)(sv:Value)(Dl:Nat→Prop)(seed:Nat)(same:Bool)(L:List (Option Ent))(Gs:List Grp)(x:Nat × Bool)(e:Ending)(w':World):Prop :=
 ∃ v p2 sv2,e=.returned v∧zY Fo w' d q p2 sv2 Dl seed same L (doG (yd seed same L) x Gs)∧Mod (fun k=>k=d) w w'∧V4 w p sv p2 sv2
theorem zY.reindex{w w1:World}{p2:Nat}{sv2:Value}{Gs2:List Grp}(h:zY Fo w d q p sv Dl seed same L Gs)(hp:zb w w1)(hx:yh w1 (fun k=>k=p2∨sv2.ownBlock=some k) p2 sv2 Gs2){Y:World}(hY:w1.setCell ⟨d,3,none⟩ (.pointer (some ⟨p2,0,none⟩))=Y) :
  zY Fo Y d q p2 sv2 Dl seed same L Gs2∧Mod (fun k=>k=d) w Y:=by
 subst hY;have h1:=h.pure hp;have hm:Mod (fun k=>k=d) w1 (w1.setCell ⟨d,3,none⟩ (.pointer (some ⟨p2,0,none⟩))):=Mod.set1 _ _ _;refine⟨⟨?_,h1.log.frame hm (fun k hk e=>by subst e;exact h1.nd hk) (fun k _ e cs fz e2=>by subst e;rw[h1.box]at e2;cases e2),hx.mod hm (fun k hk e => ?_),h.sd⟩,(Mod.of_pure hp).trans hm⟩
 ·have:=uh (j:=3) (v := .pointer (some ⟨p2,0,none⟩)) h1.box;simpa using this
 ·subst e;rcases hk with e | e
  ·have h2:=hx.box;rw[← e,h1.box]at h2;cases h2
  ·obtain⟨cc,e2⟩:=yk hx.row e;rw[h1.box]at e2;cases e2
theorem zby(h:zY Fo w d q p sv Dl seed same L Gs)(x:Nat × Bool)(hx:x.2=true→Pow x.1∧zD Gs≤8*x.1):Calls prog 219 #[xA d,.agg #[.int .i64 (x.1:Nat),.bool x.2]] w (zkp Fo w d q p sv Dl seed same L Gs x):=by
  obtain⟨x1,x2⟩:=x;have hp0:zb w (w.alloc (.cells #[.int .i64 x1,.bool x2] 293)):=(Mod.refl _ w).alloc _;have h2:=zi (w:=w) (o := .cells #[.int .i64 x1,.bool x2] 293 (0,0)) rfl;have HM:=za h
  cases x2 with
  | false =>
    have HP:=za hp0;clear h hx hp0;go_enter func219,ntmps219;go_upto_region 1 with fail
    generalize w.alloc (.cells #[.int .i64 x1,.bool false] 293)=W1 at *;generalize w.heap.size=b at *;obtain⟨h2_0,h2_1,h2_f,h2_l,H_h2⟩:=cr2 h2;clear h2;go_wp2;refine zO (v := .tuple #[]) (by simp[results,results219,go_sem]) rfl ?_;exact⟨_,p,sv,rfl,HM.out.pure HP.out,Mod.of_pure HP.out,.inl ⟨rfl,rfl⟩⟩
  | true =>
    obtain⟨k1,k2⟩:=hx rfl;have HR:=za (fun(W:World) (hW:zb w W)=>ziR (h.pure hW).ix x1 k1 k2 (zgI (h.pure hW)) (fun _ _=>trivial));have HP:=za hp0;have hb:=hp0.heap (fun h=>h) h.box;clear h hx hp0 k1 k2;go_enter func219,ntmps219;go_upto_region 1 with fail
    generalize hW1:w.alloc (.cells #[.int .i64 x1,.bool true] 293)=W1 at *;clear hW1;obtain⟨b,hbe⟩:=zc w.heap.size;rw[hbe]at h2 ⊢;have HB:=za hbe;clear hbe;obtain⟨hb_0,hb_1,hb_2,hb_3,hb_f,hb_l,H_hb⟩:=cr4 hb;clear hb;obtain⟨h2_0,h2_1,h2_f,h2_l,H_h2⟩:=cr2 h2;clear h2;go_upto_region 3 with fail
    go_region_held3 (fun w'=>w'.cell? ⟨d,3,none⟩=some (.pointer (some ⟨p,0,none⟩))∧w'.cell? ⟨b,0,none⟩=some (.int .i64 x1))
      (first | exact⟨hb_3,h2_0⟩ | exact⟨hp1.cell (fun h=>h) hb_3,hp1.cell (fun h=>h) h2_0⟩)
      (first
        | (go_at_call 280;refine(HR.out _ (by have:=HP.out;exact yZ)).mono ?_;rintro e w1 ⟨p2,sv2,rfl,hix,hp1,hl2,hs2,_,_⟩;have k3:=hp1.cell (fun h=>h) hb_3;have kf : ∀ j,w1.frozen? ⟨d,j,none⟩=false:=(fun j=>(hp1.cells.2 d j hb_l).trans (hb_f j));have kl:d<w1.heap.size:=hp1.lt hb_l))
    go_wp2;have hpw:=HP.out.trans (Mod.of_drew hp1);obtain⟨g1,g2⟩:=HM.out.reindex hpw hix rfl;refine zO (v := .tuple #[]) (by simp[results,results219,go_sem]) rfl ?_;have hl:w.heap.size≤W1.heap.size:=HP.out.size;exact⟨_,p2,sv2,rfl,g1,g2,.inr ⟨zF hl hl2,fun k hk=>zF hl (hs2 k hk)⟩⟩
def zkN(Fo:Nat→Prop)(w:World)(d q p:Nat)(sv:Value)(Dl:Nat→Prop)(seed:Nat)(same:Bool)(L:List (Option Ent))(Gs2:List Grp)(e:Ending)(w':World):Prop :=
 ∃ p2 sv2,e=.returned (.int .i64 0)∧zY Fo w' d q p2 sv2 Dl seed same L Gs2∧Mod (fun k=>k=d∨k=p∨sv.ownBlock=some k) w w'∧V4 w p sv p2 sv2
theorem zhF{w w3 w4 w5:World}{Gs1 Gs2:List Grp}{p2:Nat}{sv2:Value}(h:zY Fo w3 d q p2 sv2 Dl seed same L Gs1)(h4:zb w3 w4)(hx:yh w5 (fun k=>k=p2∨sv2.ownBlock=some k) p2 sv2 Gs2)(h5:Mod (fun k=>k=p2∨sv2.ownBlock=some k) w4 w5)
  (hm:Mod (fun k=>k=d) w w3) (hs:V4 w p sv p2 sv2):zY Fo w5 d q p2 sv2 Dl seed same L Gs2∧Mod (fun k=>k=d∨k=p∨sv.ownBlock=some k) w w5:=by
 have h1:=h.pure h4;refine⟨⟨h5.heap (fun hk => ?_) h1.box,h1.log.frame h5 (fun k hk e=>h1.nlp k hk e) (fun k _ e cs fz e2 => ?_),hx,h.sd⟩,?_⟩
 ·rcases hk with e | e
  ·exact h1.npd e.symm
  ·exact h1.nsd e
 ·rcases e with rfl | e
  ·rw[h1.ix.box]at e2;cases e2
  ·obtain⟨cc,e3⟩:=yk h1.ix.row e;rw[e3]at e2;cases e2
 ·have hm4:=hm.then h4 (fun _ _ h=>h.elim);refine Mod.trans' hm4 h5 (fun i _ e => .inl e) (fun i hi e => ?_);rcases hs with⟨rfl,rfl⟩ | ⟨g1,g2⟩
  ·exact .inr e
  ·rcases e with rfl | e
   ·omega
   ·have:=g2 _ e;omega
theorem zi5(h:zY Fo w d q p sv Dl seed same L Gs){x:Nat × Bool}(hx:jW Gs.length (zD Gs) (yf Gs)=some x)(hp:Pow x.1)(hu:zD Gs≤8*x.1){s:Nat}(hs:s≤4294967295){Gs2:List Grp}
    (hi:vK (doG (yd seed same L) x Gs) (yd seed same L s) s=some Gs2):Calls prog 197 #[xA d,.int .u32 s] w (zkN Fo w d q p sv Dl seed same L Gs2):=by
  have HPl:=za (zan h hx);have HDo:=za (fun(W:World) (hW:zb w W)=>zby (h.pure hW) x (fun _=>⟨hp,hu⟩));have HH:=za h;have HI:=za hi;have hsl:=Jh seed same L s;obtain⟨hh,hhe⟩:=zc (yd seed same L s);have HS:=za (fun(W:World) (p2:Nat) (sv2:Value) (Gs1:List Grp) (hW:zY Fo W d q p2 sv2 Dl seed same L Gs1)=>Jg hW s hs);rw[hhe]at HI hsl HS;have HHE:=za hhe;obtain⟨x1,x2⟩:=x;clear h hx hp hu hi hhe;unfold Kg at HPl;dsimp only at HPl HDo HI;go_enter func197,ntmps197;go_upto_region 2 with(go_at_call 194;refine HPl.out.mono ?_;rintro e w1 ⟨rfl,hp1⟩)
  have hpa:zb w1 (w1.alloc (.cells #[.int .i64 x1,.bool x2] 293)):=(Mod.refl _ w1).alloc _;have h5:=zi (w:=w1) (o := .cells #[.int .i64 x1,.bool x2] 293 (0,0)) rfl;have HP:=za (hp1.trans hpa);clear hp1 hpa HPl;generalize w1.alloc (.cells #[.int .i64 x1,.bool x2] 293)=W2 at *;generalize w1.heap.size=b5 at *;obtain⟨h5_0,h5_1,h5_f,h5_l,H_h5⟩:=cr2 h5;clear h5;go_upto_region 5 with(go_at_call 219;refine(HDo.out _ HP.out).mono ?_;rintro e w3 ⟨v,p2,sv2,rfl,hm3,hm,hsx⟩)
  have hsx':V4 w p sv p2 sv2:=by
    have:=HP.out.size;rcases hsx with h | ⟨g1,g2⟩
    · exact .inl h
    · exact .inr ⟨by omega,fun k hk=>by have:=g2 k hk;omega⟩
  have hmw:Mod (fun k=>k=d) w w3:=(Mod.of_pure HP.out).trans hm;have HM3:=za hm3;have HMW:=za hmw;have HSX:=za hsx';have hb:=hm3.box;clear h5_0 h5_1 h5_f h5_l;clear hm3 hm hsx hsx' hmw H_h5;generalize hGd:doG (yd seed same L) (x1,x2) Gs=Gs1 at *;clear hGd;obtain⟨hb_0,hb_1,hb_2,hb_3,hb_f,hb_l,H_hb⟩:=cr4 hb;clear hb;have HIN:=za (fun(W:World) (hW:zb w3 W)=>zas (HM3.out.ix.pure hW) hh s hsl hs)
  go_region_held3 (fun w'=>w'.cell? ⟨d,3,none⟩=some (.pointer (some ⟨p2,0,none⟩)))
    (first | exact hb_3 | exact hp1.cell (fun h=>h) hb_3 | exact hm5.cell (fun e=>e.elim (fun e=>HM3.out.npd e.symm) (fun e=>HM3.out.nsd e)) (hp1.cell (fun h=>h) hb_3))
    (first
      | (go_at_call 215;refine zm (HS.out _ p2 sv2 Gs1 (HM3.out.pure (by exact yZ))) ?_;rintro e w4 ⟨rfl,hp1⟩)
      | (go_at_call 255;refine(HIN.out _ (by exact yZ)).mono ?_;rintro e w5 hq;unfold Y3 at hq;rw[HI.out]at hq;obtain⟨rfl,hx5,hm5⟩:=hq))
  go_wp2;go_ret;obtain⟨g1,g2⟩:=zhF HM3.out (Mod.of_drew hp1) hx5 hm5 HMW.out HSX.out;exact⟨p2,sv2,rfl,g1,g2,HSX.out⟩
end
end
section
open Go.RowKit Go.Shelf
variable{Fo:Nat→Prop}
section
variable{w:World}{d q p:Nat}{sv:Value}{Dl:Nat→Prop}{seed:Nat}{same:Bool}{L:List (Option Ent)}{Gs:List Grp}
theorem zjV(h:zY Fo w d q p sv Dl seed same L Gs){b b1:Nat}{key:ByteArray}(hb0:w.heap[b]? = some (.cells #[xA d] 127 (0,0)))(hb1:w.heap[b1]? = some (.cells #[.string key] 9 (0,0)))(s:Nat)(hs:s≤4294967295) :
    Calls prog 176 #[.int .u32 s,.pointer (some ⟨b,0,none⟩),.pointer (some ⟨b1,0,none⟩)] w fun e w'=>e=.returned (.bool (yJ L s==key))∧zb w w':=by
  have HK:=za (fun W (hW:zb w W)=>Qo (h.log.pure hW) s hs);have hb:=h.box;clear h;generalize yJ L s=ks at *;obtain⟨hb_0,hb_1,hb_2,hb_3,hb_f,hb_l,H_hb⟩:=cr4 hb;clear hb;obtain⟨hb0_0,hb0_f,hb0_l,H_hb0⟩:=cr1 hb0;clear hb0;obtain⟨hb1_0,hb1_f,hb1_l,H_hb1⟩:=cr1 hb1;clear hb1;go_enter func176,ntmps176;go_upto_region 1 with fail
  go_region_held3 (fun w'=>w'.cell? ⟨d,0,none⟩=some (.pointer (some ⟨q,0,none⟩))∧w'.cell? ⟨b,0,none⟩=some (.pointer (some ⟨d,0,none⟩))∧w'.cell? ⟨b1,0,none⟩=some (.string key))
    (first | exact⟨hb_0,hb0_0,hb1_0⟩ | exact⟨hp1.cell (fun h=>h) hb_0,hp1.cell (fun h=>h) hb0_0,hp1.cell (fun h=>h) hb1_0⟩)
    (first
      | (go_at_call 177;refine(HK.out _ (by exact yZ)).mono ?_;rintro e w1 ⟨rfl,hp1⟩))
  go_wp2;go_ret;exact⟨by rw[← zig];rfl,Mod.of_drew hp1⟩
def uS(L:List (Option Ent))(key:ByteArray):Nat × Nat:=match yT L key with
 | some s=>(s,0)
 | none=>(0,9)
def ZF(w:World)(L:List (Option Ent))(key:ByteArray)(e:Ending)(w':World):Prop :=
 e=.returned (.tuple #[.int .u32 ((uS L key).1:Nat),.int .i64 ((uS L key).2:Nat)])∧zb w w'
theorem Q2(h:zY Fo w d q p sv Dl seed same L Gs)(hk:uc seed same L Gs)(key:ByteArray)(hkey:key.size≤140737488355328):Calls prog 111 #[xA d,.string key] w (ZF w L key):=by
  have hp0:zb w ((w.alloc (.cells #[.pointer (some ⟨d,0,none⟩)] 127)).alloc (.cells #[.string key] 9)):=((Mod.refl _ w).alloc _).alloc _;have z2:=zG (o := .cells #[.string key] 9) (zi (w:=w) (o := .cells #[.pointer (some ⟨d,0,none⟩)] 127 (0,0)) rfl);have z3:=zi (w:=w.alloc (.cells #[.pointer (some ⟨d,0,none⟩)] 127)) (o := .cells #[.string key] 9 (0,0)) (n:=w.heap.size+1) (by simp);have HP:=za hp0;have HM:=za (h.pure hp0);have HZ:=za (ZM (h.pure hp0));have HSum:=za (fun W=>Qh seed same h.sd key hkey W);have hb:=(h.pure hp0).box;have HKE:=za hk;have hsl:kO seed same key<18446744073709551616:=zbJ;clear h hk hp0;go_enter func111,ntmps111;go_upto_region 1 with fail
  generalize((w.alloc (.cells #[.pointer (some ⟨d,0,none⟩)] 127)).alloc (.cells #[.string key] 9))=W1 at *;obtain⟨b,hbe⟩:=zc w.heap.size;rw[hbe]at z2 z3 ⊢;have HB:=za hbe;clear hbe;have HSame:=za (fun(W:World) (hW:zb W1 W)=>(⟨enters_of func176 (by kernel_rfl) rfl,fun pre s W' hs hJ=>by
      have:=(yD (n:=0)).2 (zjV (HM.out.pure hJ) (hJ.heap (fun h=>h) z2) (hJ.heap (fun h=>h) z3) s hs);exact this.mono (fun e w' ⟨h1,h2⟩=>⟨h1,hJ.trans h2,xj.of_pure h2⟩),fun pre A B hJ hm=>hJ.then hm (fun i hi hs=>by have:=hs.1;have:=hW.size;omega),fun _ h=>h.elim,hW⟩ :
    uG prog 176 #[.pointer (some ⟨b,0,none⟩),.pointer (some ⟨b+1,0,none⟩)] (fun _ s=>yJ L s==key) (fun _=>False) (fun _ W'=>zb W1 W') W))
  have HF:=za (fun(W:World) (hW:zb W1 W)=>zi8 (HM.out.ix.pure hW) _ hsl (HSame.out W hW));obtain⟨hh,hhe⟩:=zc (kO seed same key);rw[hhe]at HF HSum hsl;have HHE:=za hhe;clear hhe HSame;obtain⟨hb_0,hb_1,hb_2,hb_3,hb_f,hb_l,H_hb⟩:=cr4 hb;clear hb;obtain⟨z2_0,z2_f,z2_l,H_z2⟩:=cr1 z2;clear z2;obtain⟨z3_0,z3_f,z3_l,H_z3⟩:=cr1 z3;clear z3;go_upto_region 3 with(go_at_call 112;refine HZ.out.mono ?_;rintro e w' ⟨rfl,rfl⟩)
  go_region_held3 (fun w'=>w'.cell? ⟨d,3,none⟩=some (.pointer (some ⟨p,0,none⟩))∧w'.cell? ⟨d,1,none⟩=some (.int .u64 seed)∧w'.cell? ⟨d,2,none⟩=some (.bool same)∧w'.cell? ⟨b,0,none⟩=some (.pointer (some ⟨d,0,none⟩))∧w'.cell? ⟨b+1,0,none⟩=some (.string key))
    (first | exact⟨hb_3,hb_1,hb_2,z2_0,z3_0⟩ | exact⟨hp1.cell (fun h=>h) hb_3,hp1.cell (fun h=>h) hb_1,hp1.cell (fun h=>h) hb_2,hp1.cell (fun h=>h) z2_0,hp1.cell (fun h=>h) z3_0⟩ | exact⟨(hp1.trans hp2).cell (fun h=>h) hb_3,(hp1.trans hp2).cell (fun h=>h) hb_1,(hp1.trans hp2).cell (fun h=>h) hb_2,(hp1.trans hp2).cell (fun h=>h) z2_0,(hp1.trans hp2).cell (fun h=>h) z3_0⟩)
    (first
      | (go_at_call 175;refine(HSum.out _).mono ?_;rintro e w1 ⟨rfl,hp1⟩)
      | (go_at_call 174;refine(HF.out _ (by exact yZ)).mono ?_;rintro e w2 hq;have he:=HKE.out.find (by rw[HHE.out];exact hq);have hp2:zb w1 w2:=Mod.mono hq.1 (fun k _ ⟨_,_,_,_,hf⟩=>hf);have he2:e=.returned (.tuple #[.int .u32 ((uS L key).1:Nat),.int .i64 ((uS L key).2:Nat)]):=(by rw[he];unfold uS;cases yT L key<;>rfl);clear hq he;subst he2))
  go_wp2
  all_goals
    go_ret2;exact⟨rfl,HP.out.trans ((Mod.of_drew hp1).trans hp2)⟩
def zZ(Fo:Nat→Prop)(w:World)(D:Nat→Prop)(d seed:Nat)(same:Bool)(L:List (Option Ent))(Gs:List Grp):Prop :=
 ∃ q p sv Dl,zY Fo w d q p sv Dl seed same L Gs∧uc seed same L Gs ∧ ∀ k,D k↔j9 d Dl p sv k
section
variable{w w':World}{D S:Nat→Prop}{d seed:Nat}{same:Bool}{L:List (Option Ent)}{Gs:List Grp}
theorem zZ.pure(h:zZ Fo w D d seed same L Gs)(hp:zb w w'):zZ Fo w' D d seed same L Gs:=by
 obtain⟨q,p,sv,Dl,h1,h2,h3⟩:=h;exact⟨q,p,sv,Dl,h1.pure hp,h2,h3⟩
theorem zZ.lt(h:zZ Fo w D d seed same L Gs){k:Nat}(hk:D k):k<w.heap.size:=by
 obtain⟨q,p,sv,Dl,h1,h2,h3⟩:=h;exact h1.lt ((h3 k).1 hk)
theorem zZ.types(h:zZ Fo w D d seed same L Gs){k:Nat}(hk:D k){cs:Array Value}{T:TypeId}{fz:Nat × Nat}(e:w.heap[k]? = some (.cells cs T fz)) :
  T=203∨T=356∨T=141∨T=351∨T=354:=by
 obtain⟨q,p,sv,Dl,h1,h2,h3⟩:=h;exact h1.types ((h3 k).1 hk) e
theorem zZ.frame(h:zZ Fo w D d seed same L Gs)(hm:Mod S w w')(hD : ∀ k,D k → ¬ S k)(hS : ∀ k,k<w.heap.size→S k → ∀ cs fz,w.heap[k]? ≠ some (.cells cs 5 fz)):zZ Fo w' D d seed same L Gs:=by
 obtain⟨q,p,sv,Dl,h1,h2,h3⟩:=h;exact⟨q,p,sv,Dl,h1.frame hm (fun k hk=>hD k ((h3 k).2 hk)) hS,h2,h3⟩
theorem zZ.flt(h:zZ Fo w D d seed same L Gs) : ∀ k,Fo k→k<w.heap.size:=by
 obtain⟨q,p,sv,Dl,h1,h2,h3⟩:=h;exact h1.log.flt
theorem zZ.frameF(h:zZ Fo w D d seed same L Gs)(hm:Mod S w w')(hD : ∀ k,D k → ¬ S k)(hS : ∀ k,k<w.heap.size→S k→Fo k ∨ ∀ cs fz,w.heap[k]? ≠ some (.cells cs 5 fz)):zZ Fo w' D d seed same L Gs:=by
 obtain⟨q,p,sv,Dl,h1,h2,h3⟩:=h;exact⟨q,p,sv,Dl,h1.frameF hm (fun k hk=>hD k ((h3 k).2 hk)) hS,h2,h3⟩
theorem zZ.refo{Fo':Nat→Prop}(h:zZ Fo w D d seed same L Gs)(hm:zb w w')(h1 : ∀ k,Fo' k→Fo k∨w.heap.size≤k)(h2 : ∀ k,Fo' k→k<w'.heap.size):zZ Fo' w' D d seed same L Gs:=by
 obtain⟨q,p,sv,Dl,h3,h4,h5⟩:=h;exact⟨q,p,sv,Dl,h3.refo hm h1 h2,h4,h5⟩
theorem zZ.sd(h:zZ Fo w D d seed same L Gs):seed<18446744073709551616:=by
 obtain⟨q,p,sv,Dl,h1,h2,h3⟩:=h;exact h1.sd
theorem zZ.ok(h:zZ Fo w D d seed same L Gs):Uo L:=by
 obtain⟨q,p,sv,Dl,h1,h2,h3⟩:=h;exact h1.log.ok
theorem zZ.keeps(h:zZ Fo w D d seed same L Gs):uc seed same L Gs:=by
 obtain⟨q,p,sv,Dl,h1,h2,h3⟩:=h;exact h2
theorem Um(h:zZ Fo w D d seed same L Gs)(key:ByteArray)(hkey:key.size≤140737488355328):Calls prog 111 #[xA d,.string key] w (ZF w L key):=by
 obtain⟨q,p,sv,Dl,h1,h2,h3⟩:=h;exact Q2 h1 h2 key hkey
def zf7(Fo:Nat→Prop)(w:World)(seed:Nat)(same:Bool)(e:Ending)(w':World):Prop :=
 ∃ d D,e=.returned (xA d)∧zZ Fo w' D d seed same [] (xr 1)∧zb w w' ∧ ∀ k,D k→w.heap.size≤k
theorem zgc(seed:Nat)(same:Bool)(hs:seed<18446744073709551616)(w:World)(hFo : ∀ k,Fo k→k<w.heap.size):Calls prog 100 #[.agg #[.int .u64 seed,.bool same]] w (zf7 Fo w seed same):=by
  have hp0:zb w (w.alloc (.cells #[.int .u64 seed,.bool same] 178)):=(Mod.refl _ w).alloc _;have z1:=zi (w:=w) (o := .cells #[.int .u64 seed,.bool same] 178 (0,0)) rfl;have HN:=za (fun W=>Qj 1 W ⟨0,by decide,rfl⟩);have HL:=za (fun W (hW:w.heap.size≤W.heap.size)=>zk5 (Fo:=Fo) W (fun k hk=>ve (hFo k hk) hW));have HP:=za hp0;clear hp0 hFo;go_enter func100,ntmps100;go_upto_region 1 with fail
  generalize w.alloc (.cells #[.int .u64 seed,.bool same] 178)=W1 at *;obtain⟨b,hbe⟩:=zc w.heap.size;rw[hbe]at z1 ⊢;have HB:=za hbe;clear hbe;go_upto_region 2 with(go_at_call 170;refine(HN.out _).mono ?_;rintro e w2 ⟨p,sv,rfl,hix,hp2,hl2,hs2⟩)
  have zz1:=hp2.heap (fun h=>h) z1;have HIX:=za hix;clear hix;obtain⟨zz1_0,zz1_1,zz1_f,zz1_l,H_zz1⟩:=cr2 zz1;clear zz1
  go_region_held3 (fun w'=>w'.cell? ⟨b,0,none⟩=some (.int .u64 seed)∧w'.cell? ⟨b,1,none⟩=some (.bool same))
    (first | exact⟨zz1_0,zz1_1⟩ | exact⟨hp3.cell (fun h=>h) zz1_0,hp3.cell (fun h=>h) zz1_1⟩ | exact⟨(hp3.alloc _).cell (fun h=>h) zz1_0,(hp3.alloc _).cell (fun h=>h) zz1_1⟩)
    (first
      | (go_at_call 171;refine(HL.out _ (by have h1:=HP.out.size;have h2:=hp2.size;simp at h1 h2 ⊢;omega)).mono ?_;rintro e w3 ⟨rfl,hlog,hp3,hlt3⟩;dsimp only[Zn]at *))
  go_wp2;go_ret;have hp3':zb w2 w3:=Mod.of_drew hp3;have hq:=zi (w:=w3) (o := .cells #[.pointer (some ⟨w2.heap.size,0,none⟩),.int .u64 seed,.bool same,.pointer (some ⟨p,0,none⟩)] 203 (0,0)) rfl;have hpq:zb w3 (w3.alloc (.cells #[.pointer (some ⟨w2.heap.size,0,none⟩),.int .u64 seed,.bool same,.pointer (some ⟨p,0,none⟩)] 203)):=(Mod.refl _ w3).alloc _;have hw:w.heap.size≤W1.heap.size:=HP.out.size;have hw2:W1.heap.size≤w2.heap.size:=hp2.size;have hw3:w2.heap.size≤w3.heap.size:=hp3'.size;refine⟨w3.heap.size,j9 w3.heap.size (fun k=>k=w2.heap.size) p sv,rfl,⟨w2.heap.size,p,sv,fun k=>k=w2.heap.size,⟨hq,hlog.pure hpq,HIX.out.pure (hp3'.trans hpq),hs⟩,uc.new seed same,fun _=>vR⟩,(HP.out.trans hp2).trans (hp3'.trans hpq),?_⟩;rintro k (rfl | rfl | rfl | e)
  · omega
  · omega
  · omega
  · have:=hs2 k e;omega
end
end
end
section
open Go.RowKit Go.Shelf
variable{Fo:Nat→Prop}
section
variable{w w':World}{D S:Nat→Prop}{d seed:Nat}{same:Bool}{L:List (Option Ent)}{Gs:List Grp}
theorem zk8{q:Nat}{Dl:Nat→Prop}(h:yc Fo w Dl q L):Calls prog 195 #[.agg #[.pointer (some ⟨q,0,none⟩)]] w fun e w'=>e=.returned (.bool (decide (4194304≤(L.length:Int))))∧zb w w':=by
 have hp:zb w (w.alloc (.cells #[.pointer (some ⟨q,0,none⟩)] 200)):=(Mod.refl _ w).alloc _;have hb:=zi (w:=w) (o:=(.cells #[.pointer (some ⟨q,0,none⟩)] 200 (0,0))) rfl;have HK:=za (zcI (h.pure hp));have HP:=za hp;clear h hp;go_enter func195,ntmps195;go_upto_region 1 with fail
 generalize w.alloc (.cells #[.pointer (some ⟨q,0,none⟩)] 200)=W1 at *;generalize w.heap.size=b at *;obtain⟨hb_0,hb_f,hb_l,H_hb⟩:=cr1 hb;clear hb
 go_wp2_with (go_at_call 205;refine HK.out.mono ?_;rintro e w' ⟨rfl,rfl⟩)
 go_ret;exact⟨rfl,HP.out⟩
def zbT(Fo:Nat→Prop)(w:World)(D:Nat→Prop)(d seed:Nat)(same:Bool)(L:List (Option Ent))(Gs:List Grp)(x:Ent)(e:Ending)(w':World):Prop :=
 e=.returned (.tuple #[.int .u32 L.length,.int .i64 0]) ∧ ∃ D',zZ Fo w' D' d seed same (L++[some x]) (qt (yd seed same (L++[some x])) Gs L.length)∧Mod D w w'∧vU D D' w
theorem Jz{q p:Nat}{sv:Value}{Dl Dl2:Nat→Prop}{w2 w3:World}{L2:List (Option Ent)}(h:zY Fo w2 d q p sv Dl seed same L Gs)(hl:yc Fo w3 Dl2 q L2)(hm:Mod Dl w2 w3):zY Fo w3 d q p sv Dl2 seed same L2 Gs :=
 ⟨hm.heap h.nd h.box,hl,h.ix.mod hm (fun k hk e=>h.nlp k e hk),h.sd⟩
theorem zer(h:zZ Fo w D d seed same L Gs)(x:Ent)(hok:x.Ok)(hL:L.length<4194304)(hf:yT L x.key=none)(a:Option Addr)(n c:Nat)(hx:zq w (.slice a n c) 1 (zM x.val)) :
    Calls prog 128 #[xA d,.agg #[.string x.key,.slice a n c,.int .u64 x.dl,.int .u64 x.birth]] w (zbT Fo w D d seed same L Gs x):=by
  obtain⟨q,p,sv,Dl,h1,h2,h3⟩:=h;have HH:=za h1;have HK:=za h2;have HD:=za h3;have HX:=za hx;have HO:=za hok;have hp0:zb w (w.alloc (.cells #[.string x.key,.slice a n c,.int .u64 x.dl,.int .u64 x.birth] 141)):=(Mod.refl _ w).alloc _;have z3:=zi (w:=w) (o := .cells #[.string x.key,.slice a n c,.int .u64 x.dl,.int .u64 x.birth] 141 (0,0)) rfl;have HP:=za hp0;have HZ:=za (ZM (h1.pure hp0));have hn:n≤65536:=by have:=jJ hx;rw[kD]at this;have:=hok.v1;omega
  have hb:(x.birth==0)=false:=by have:=hok.b0;simp;omega
  have HN:=za (zcJ x.key a n c x.dl x.birth (zM x.val) _ (hx.frame hp0 (fun _ _ h=>h)) hn hok.k0 hok.k1 hb);have HFd:=za (fun(W:World) (hW:zb w W)=>Q2 (h1.pure hW) h2 x.key (by have:=hok.k1;omega));obtain⟨i1,i2⟩:=h2.insert hf (by omega);obtain⟨y,k1,k2,k3,k4,k5,k6,k7,k8⟩:=i1.put (by rw[h2.used];have:=Jo L;omega) (s:=L.length) (by omega) (fun c=>by have:=VT c;omega);have HPl:=za (fun(W:World) (hW:zb w W)=>zan (h1.pure hW) k1);have HFu:=za (fun(W:World) (hW:zb w W)=>zk8 (h1.log.pure hW));have HApp:=za (fun(W:World) (hW:zb w W) (a2:Option Addr) (n2 c2:Nat) (hr:zq W (.slice a2 n2 c2) 1 (zM x.val))=>zkV (h1.log.pure hW) hL x hok a2 n2 c2 hr);have HPut:=za (fun(W:World) (Dl2:Nat→Prop) (hW:zY Fo W d q p sv Dl2 seed same (L++[some x]) Gs)=>zi5 hW k1 k2 k3 (s:=L.length) (by omega) k6);have HI2:=za i2;have e1:uS L x.key=(0,9):=by unfold uS;rw[hf]
  unfold ZF Kg at *;rw[e1]at HFd;dsimp only at HFd;have hfull:decide ((4194304:Int)≤(L.length:Int))=false:=zT (by omega);rw[hfull]at HFu;obtain⟨y1,y2⟩:=y;dsimp only at HPl;unfold zaC at HApp;clear h1 h2 h3 hx hok hp0 hn hb i1 i2 k1 k2 k3 k4 k5 k6 k7 k8 e1 hf hfull;go_enter func128,ntmps128;go_upto_region 1 with fail
  generalize w.alloc (.cells #[.string x.key,.slice a n c,.int .u64 x.dl,.int .u64 x.birth] 141)=W1 at *;obtain⟨b3,hb3⟩:=zc w.heap.size;rw[hb3]at z3 ⊢;have HB3:=za hb3;clear hb3;obtain⟨z3_0,z3_1,z3_2,z3_3,z3_f,z3_l,H_z3⟩:=cr4 z3;clear z3;go_upto_region 4 with(first
    | (go_at_call 112;refine HZ.out.mono ?_;rintro e w' ⟨rfl,rfl⟩)
    | (go_at_call 193;refine HN.out.mono ?_;rintro e w2 ⟨a2,n2,c2,rfl,hr2,hf2,hp2⟩))
  have hpo:zb w2 (w2.alloc (.cells #[.string x.key,.slice a2 n2 c2,.int .u64 x.dl,.int .u64 x.birth] 141)):=(Mod.refl _ w2).alloc _;have z6:=zi (w:=w2) (o := .cells #[.string x.key,.slice a2 n2 c2,.int .u64 x.dl,.int .u64 x.birth] 141 (0,0)) rfl;have HR:=za (zC (YN hr2) hpo (fun _ _ h=>h));have zz3:=(hp2.trans hpo).heap (fun h=>h) H_z3.out;replace HP:=za ((HP.out.trans hp2).trans hpo);have hb6:b3<w2.heap.size:=ve z3_l hp2.size;clear z3_0 z3_1 z3_2 z3_3 z3_f z3_l;clear H_z3 hr2 hf2 hp2 hpo HN HZ;generalize w2.alloc (.cells #[.string x.key,.slice a2 n2 c2,.int .u64 x.dl,.int .u64 x.birth] 141)=W3 at *;generalize w2.heap.size=b6 at *;obtain⟨zz3_0,zz3_1,zz3_2,zz3_3,zz3_f,zz3_l,H_zz3⟩:=cr4 zz3;clear zz3;obtain⟨z6_0,z6_1,z6_2,z6_3,z6_f,z6_l,H_z6⟩:=cr4 z6;clear z6;go_upto_region 9 with(go_at_call 111;refine(HFd.out _ HP.out).mono ?_;rintro e w4 ⟨rfl,hp4⟩)
  go_upto_region 10 with(go_at_call 194;refine(HPl.out _ (HP.out.trans hp4)).mono ?_;rintro e w5 ⟨rfl,hp5⟩)
  have hp6:zb w5 (w5.alloc (.cells #[.int .i64 y1,.bool y2] 293)):=(Mod.refl _ w5).alloc _;have hp36:=(hp4.trans hp5).trans hp6;have zz6:=hp36.heap (fun h=>h) H_z6.out;replace HR:=za (zC HR.out hp36 (fun _ _ h=>h));replace HP:=za (HP.out.trans hp36);clear zz3_0 zz3_1 zz3_2 zz3_3 zz3_f zz3_l;clear z6_0 z6_1 z6_2 z6_3 z6_f z6_l;clear H_zz3 H_z6 hp4 hp5 hp6 hp36 HFd HPl;generalize w5.alloc (.cells #[.int .i64 y1,.bool y2] 293)=W6 at *;obtain⟨b10,hb10⟩:=zc w5.heap.size;rw[hb10];clear hb10;have hb:=(HH.out.pure HP.out).box;obtain⟨hb_0,hb_1,hb_2,hb_3,hb_f,hb_l,H_hb⟩:=cr4 hb;clear hb;obtain⟨zz6_0,zz6_1,zz6_2,zz6_3,zz6_f,zz6_l,H_zz6⟩:=cr4 zz6;clear zz6;go_upto_region 12 with(go_at_call 195;refine(HFu.out _ HP.out).mono ?_;rintro e w7 ⟨rfl,hp7⟩)
  have k0:=hp7.cell (fun h=>h) hb_0;have k1:=hp7.cell (fun h=>h) zz6_0;have k2:=hp7.cell (fun h=>h) zz6_1;have k3:=hp7.cell (fun h=>h) zz6_2;have k4:=hp7.cell (fun h=>h) zz6_3;replace HR:=za (yw.read (zC HR.out hp7 (fun _ _ h=>h)) (Zg _));replace HP:=za (HP.out.trans hp7);have HA:=za (fun(W:World) (hW:zb w7 W)=>HApp.out W (HP.out.trans hW) a2 n2 c2 (HR.out.frame hW (fun _ _ h=>h)));have nD : ∀ k,Dl k→k<w.heap.size:=fun k hk=>HH.out.log.lt hk
  have hwb:w.heap.size=b3:=HB3.out;have ND:=za nD;clear nD;clear hb_0 hb_1 hb_2 hb_3 hb_f hb_l;clear zz6_0 zz6_1 zz6_2 zz6_3 zz6_f zz6_l;clear H_hb H_zz6 hp7 HApp HFu
  go_region_held3 (fun w'=>w'.cell? ⟨d,0,none⟩=some (.pointer (some ⟨q,0,none⟩))∧w'.cell? ⟨b6,0,none⟩=some (.string x.key)∧w'.cell? ⟨b6,1,none⟩=some (.slice a2 n2 c2)∧w'.cell? ⟨b6,2,none⟩=some (.int .u64 x.dl)∧w'.cell? ⟨b6,3,none⟩=some (.int .u64 x.birth))
    (first | exact⟨k0,k1,k2,k3,k4⟩ | exact⟨hm8.cell HH.out.nd k0,hm8.cell (fun e=>by have:=ND.out _ e;dsimp only at this;omega) k1,hm8.cell (fun e=>by have:=ND.out _ e;dsimp only at this;omega) k2,hm8.cell (fun e=>by have:=ND.out _ e;dsimp only at this;omega) k3,hm8.cell (fun e=>by have:=ND.out _ e;dsimp only at this;omega) k4⟩)
    (first
      | (go_at_call 196;refine(HA.out _ (by exact yZ)).mono ?_;rintro e w8 ⟨rfl,Dl2,hl8,hm8,hg8⟩))
  have hm8':Mod Dl w7 w8:=Mod.of_drew hm8;have HM8:=za (Jz (HH.out.pure HP.out) hl8 hm8');have hP8:Mod Dl w w8:=(Mod.of_pure HP.out).trans hm8';have HM:=za hP8;have HG8:=za hg8;have HL8:=za hl8;clear hm8 hm8' hP8 hg8 hl8 k0 k1 k2 k3 k4
  go_wp2_with (go_at_call 197;refine(HPut.out _ _ HM8.out).mono ?_;rintro e w9 ⟨p2,sv2,rfl,hm9,hmod9,hsx9⟩)
  go_ret2;have h78:w.heap.size≤w8.heap.size:=HM.out.size;refine⟨rfl,j9 d Dl2 p2 sv2,⟨q,p2,sv2,Dl2,hm9,HI2.out,fun _=>vR⟩,?_,?_⟩
  · refine HM.out.trans' hmod9 (fun i _ hi=>(HD.out i).2 (.inr (.inl hi))) (fun i _ hi=>(HD.out i).2 ?_)
    rcases hi with e | e | e
    · exact .inl e
    · exact .inr (.inr (.inl e))
    · exact .inr (.inr (.inr e))
  · have hg9 : ∀ k,Dl2 k→Dl k∨w.heap.size≤k:=fun k hk=>by
      rcases HG8.out k hk with e | e
      · exact .inl e
      · exact .inr (by have:=HP.out.size;simp at e;omega)
    rintro k (e | e | e | e)
    · exact .inl ((HD.out k).2 (.inl e))
    · rcases hg9 k e with e | e
      · exact .inl ((HD.out k).2 (.inr (.inl e)))
      · exact .inr e
    · rcases hsx9 with⟨g1,g2⟩ | ⟨g1,g2⟩
      · exact .inl ((HD.out k).2 (.inr (.inr (.inl (e.trans g1)))))
      · exact .inr (by omega)
    · rcases hsx9 with⟨g1,g2⟩ | ⟨g1,g2⟩
      · exact .inl ((HD.out k).2 (.inr (.inr (.inr (g2 ▸ e)))))
      · exact .inr (by have:=g2 _ e;omega)
end
end
section
open Go.RowKit Go.Shelf
variable{Fo:Nat→Prop}
attribute [local go_sem] Oper.semAt_some
structure Part(seed:Nat)(same:Bool)(L:List (Option Ent))(S:Nat→Prop)(Gs:List Grp):Prop where
 holds:yF (yd seed same L) S Gs
 sub : ∀ s,S s→us L s
 uniq : ∀ s t,S s→S t→yJ L s=yJ L t→s=t
def zfI(L:List (Option Ent))(S:Nat→Prop)(key:ByteArray)(r:Nat × Nat):Prop :=
 (∃ s,S s∧yJ L s=key∧r=(s,0))∨((∀ s,S s→yJ L s≠key)∧r=(0,9))
theorem Part.find{seed:Nat}{same:Bool}{L:List (Option Ent)}{S:Nat→Prop}{Gs:List Grp}(h:Part seed same L S Gs){w w':World}{D:Nat→Prop}{p:Nat}{sv:Value}{key:ByteArray}{C:TypeId→Prop}{J:List Nat→World→Prop}{e:Ending}
  (hp:K7 w D p sv Gs (kO seed same key) (fun _ s=>yJ L s==key) C J e w') : ∃ r,zfI L S key r∧e=.returned (.tuple #[.int .u32 (r.1:Nat),.int .i64 (r.2:Nat)]):=by
 obtain⟨_,_,⟨a,x,post,h1,h2,h3,h4,h5⟩ | ⟨h1,h2,h3⟩⟩:=hp
 ·have hx:x∈xI Gs (kO seed same key):=by rw[h1];simp
  have hS:=zac h.holds hx;have hk:(yJ L (zQ Gs x)==key)=true:=h3;exact⟨(zQ Gs x,0),.inl ⟨_,hS,(Yw _ _).1 hk,rfl⟩,h4⟩
 ·refine⟨(0,9),.inr ⟨fun s hs hk => ?_,rfl⟩,h2⟩;obtain⟨i,j,hm,hF⟩:=h.holds.find_some (s:=s) hs;have e1:yd seed same L s=kO seed same key:=by unfold yd;rw[hk]
  rw[e1]at hm;unfold ue at hm;have hx:=ZH hm;have:=Vh h1 _ (zy.2 ⟨_,hx,rfl⟩);rw[hF.slot,hk,(Yw key key).2 rfl]at this
  cases this
theorem Part.keeps{seed:Nat}{same:Bool}{L:List (Option Ent)}{S:Nat→Prop}{Gs:List Grp}(h:Part seed same L S Gs)(hS : ∀ s,S s↔us L s)(hu:zD Gs=zX L):uc seed same L Gs :=
 ⟨h.holds.of_iff hS,fun s t e f h1 h2 hk=>h.uniq s t ((hS s).2 ⟨e,h1⟩) ((hS t).2 ⟨f,h2⟩) (by rw[Yl h1,Yl h2,hk]),hu⟩
section
variable{w:World}{d q p:Nat}{sv:Value}{Dl:Nat→Prop}{seed:Nat}{same:Bool}{L:List (Option Ent)}{Gs:List Grp}
theorem zjx(L:List (Option Ent)) : ∀ i,((jk i L).map Prod.fst).Pairwise (· < ·):=by
 induction L with
 | nil=>intro i;simp[jk]
 | cons o L ih =>
  intro i
  cases o with
  | none=>exact ih (i+1)
  | some e =>
   simp only[jk,List.map_cons,List.pairwise_cons];refine⟨fun y hy => ?_,ih (i+1)⟩;obtain⟨g,hg,rfl⟩:=zy.1 hy;have:=(Qd hg).1;omega
def qV(pre:List (Nat × Ent))(s:Nat):Prop:=s∈pre.map Prod.fst
def ofM(seed:Nat)(same:Bool)(L:List (Option Ent))(pre:List (Nat × Ent)):List Grp:=(pre.map Prod.fst).foldl (qt (yd seed same L)) (xr 1)
theorem zgO(seed:Nat)(same:Bool)(L:List (Option Ent))(pre:List (Nat × Ent))(g:Nat × Ent):ofM seed same L (pre++[g])=qt (yd seed same L) (ofM seed same L pre) g.1:=by
 unfold ofM;rw[vz,XN];rfl
theorem Part.put{L:List (Option Ent)}{pre:List (Nat × Ent)}{g:Nat × Ent}{post:List (Nat × Ent)}(h:Part seed same L (qV pre) (ofM seed same L pre))(hu:zD (ofM seed same L pre)=pre.length)(hl:live L=pre++g::post)(hlen:L.length≤4194304)
  (hn : ∀ s,qV pre s→yJ L s≠g.2.key) :
  Part seed same L (qV (pre++[g])) (ofM seed same L (pre++[g]))∧zD (ofM seed same L (pre++[g]))=(pre++[g]).length∧g.1≤4294967295 ∧
   ∃ x,jW (ofM seed same L pre).length (zD (ofM seed same L pre)) (yf (ofM seed same L pre))=some x∧Pow x.1∧zD (ofM seed same L pre)≤8*x.1∧vK (doG (yd seed same L) x (ofM seed same L pre)) (yd seed same L g.1) g.1=some (ofM seed same L (pre++[g])):=by
 have hup:=zjx L 0;rw[show jk 0 L=live L from rfl,hl,vz,qZ,qn]at hup;have hnot : ¬ qV pre g.1:=fun hs=>by have:=hup.2.2 _ hs g.1 (by simp);omega
 have hg:L[g.1]? = some (some g.2):=zeM (by rw[hl];simp);have hlt:=(zE.1 hg).1;have hpl:pre.length≤4194304:=by have:=ze5 L;rw[hl]at this;simp at this;omega
 obtain⟨x,k1,k2,k3,k4,k5,k6,k7,k8⟩:=h.holds.put (by rw[hu];exact hpl) (s:=g.1) (by omega) hnot;rw[zgO];have hiff : ∀ s,qV (pre++[g]) s↔s=g.1∨qV pre s:=fun s=>by unfold qV;simp[or_comm]
 refine⟨⟨k7.of_iff (fun s=>(hiff s).symm),fun s hs => ?_,fun s t hs ht hk => ?_⟩,by rw[k8,hu];simp,by omega,x,k1,k2,k3,k6⟩
 ·rcases(hiff s).1 hs with rfl | hs
  ·exact⟨g.2,hg⟩
  ·exact h.sub s hs
 ·rcases(hiff s).1 hs with rfl | hs<;>rcases(hiff t).1 ht with rfl | ht
  ·rfl
  ·rw[Yl hg]at hk;exact absurd hk.symm (hn t ht)
  ·rw[Yl hg]at hk;exact absurd hk (hn s hs)
  ·exact h.uniq s t hs ht hk
end
end
section
open Go.RowKit Go.Shelf
variable{Fo:Nat→Prop}
attribute [local go_sem] Oper.semAt_some
theorem yc.quiet'{N:Nat}{A B:World}{D:Nat→Prop}{p:Nat}{L:List (Option Ent)}(h:yc Fo A D p L)(hq:zA N A B):yc Fo B D p L:=by
 obtain⟨sv,M,rfl,h⟩:=h;exact(h.quiet hq).toAt
section
variable{w w':World}{d q p:Nat}{sv:Value}{Dl:Nat→Prop}{seed:Nat}{same:Bool}{L:List (Option Ent)}{Gs:List Grp}
theorem zY.quiet{N:Nat}{A B:World}(h:zY Fo A d q p sv Dl seed same L Gs)(hq:zA N A B):zY Fo B d q p sv Dl seed same L Gs :=
 ⟨hq.cells h.box,h.log.quiet' hq,h.ix.quiet hq,h.sd⟩
end
structure KK(Fo:Nat→Prop)(w:World)(d q:Nat)(Dl:Nat→Prop)(seed:Nat)(same:Bool)(L:List (Option Ent))(It:Nat→Prop)(b4 b5 b7:Nat)(pre:List xN)(W:World):Prop where
 r4:W.heap[b4]? = some (.cells #[.pointer none] 127 (0,0))
 r5:W.heap[b5]? = some (.cells #[.int .i64 0] 24 (0,0))
 r7:W.heap[b7]? = some (.cells #[.pointer (some ⟨d,0,none⟩)] 127 (0,0))
 mem : ∃ p sv,zY Fo W d q p sv Dl seed same L (ofM seed same L (pre.map uX))∧w.heap.size≤p∧(∀ k,sv.ownBlock=some k→w.heap.size≤k) ∧ ¬ It p ∧ ∀ k,sv.ownBlock=some k → ¬ It k
 part:Part seed same L (qV (pre.map uX)) (ofM seed same L (pre.map uX))
 used:zD (ofM seed same L (pre.map uX))=pre.length
 pu:zb w W
theorem KK.quiet{w:World}{d q:Nat}{Dl:Nat→Prop}{seed:Nat}{same:Bool}{L:List (Option Ent)}{It:Nat→Prop}{b4 b5 b7:Nat}{pre:List xN}{A B:World}(h:KK Fo w d q Dl seed same L It b4 b5 b7 pre A){N:Nat}(hN:w.heap.size≤N)(hq:zA N A B):KK Fo w d q Dl seed same L It b4 b5 b7 pre B:=by
 obtain⟨p,sv,h1,h2⟩:=h.mem;exact⟨hq.cells h.r4,hq.cells h.r5,hq.cells h.r7,⟨p,sv,h1.quiet hq,h2⟩,h.part,h.used,hq.mod h.pu hN⟩
end
section
open Go.RowKit Go.Shelf
variable{Fo:Nat→Prop}
theorem zfa{L:List (Option Ent)}{s t:Nat}(h:t≠s):yJ (L.set s none) t=yJ L t:=by
 unfold yJ;rw[yt (fun e=>h e.symm)]
theorem JK(L:List (Option Ent))(s t:Nat):us (L.set s none) t↔t≠s∧us L t:=by
 unfold us;by_cases h:t=s
 ·subst h;simp only[ne_eq,not_true_eq_false,false_and,iff_false];rintro⟨e,he⟩;rw[Xb]at he;simp at he
 ·rw[yt (fun e=>h e.symm)];simp[h]
theorem zlh{L:List (Option Ent)}(h:YP L)(s:Nat):YP (L.set s none):=by
 intro a b e f ha hb hk;have h1:=(JK L s a).1 ⟨e,ha⟩;have h2:=(JK L s b).1 ⟨f,hb⟩;rw[yt (fun e=>h1.1 e.symm)]at ha;rw[yt (fun e=>h2.1 e.symm)]at hb;exact h a b e f ha hb hk
theorem Vo : ∀ {L:List (Option Ent)} {s:Nat} {x:Ent},L[s]? = some (some x)→zX (L.set s none)+1=zX L
 | [],s,x,h=>by simp at h
 | o::L,0,x,h=>by
  simp at h;subst h;simp[zX]
 | o::L,s+1,x,h=>by
  have:=Vo (L:=L) (s:=s) (x:=x) (by simpa using h);simp only[List.set_cons_succ,zX,List.countP_cons]at this ⊢;omega
def uz(H:Nat→Nat)(Gs:List Grp)(s:Nat):List Grp:=match ue Gs (H s) (fun x=>x==s)with
 | some x=>vT Gs x.1 x.2
 | none=>Gs
def Y7(H H':Nat→Nat)(Gs:List Grp)(s:Nat):List Grp:=doG H' (uK (uz H Gs s).length (zD (uz H Gs s))) (uz H Gs s)
theorem uc.remove{seed:Nat}{same:Bool}{L:List (Option Ent)}{Gs:List Grp}(h:uc seed same L Gs){s:Nat}{x:Ent}(hx:L[s]? = some (some x)) :
  (∃ i j,ue Gs (yd seed same L s) (fun y=>y==s)=some (i,j)∧uz (yd seed same L) Gs s=vT Gs i j)∧xF (uz (yd seed same L) Gs s) ∧
   ((uK (uz (yd seed same L) Gs s).length (zD (uz (yd seed same L) Gs s))).2=true→Pow (uK (uz (yd seed same L) Gs s).length (zD (uz (yd seed same L) Gs s))).1∧zD (uz (yd seed same L) Gs s)≤8*(uK (uz (yd seed same L) Gs s).length (zD (uz (yd seed same L) Gs s))).1) ∧
   uc seed same (L.set s none) (Y7 (yd seed same L) (yd seed same (L.set s none)) Gs s):=by
 obtain⟨i,j,h1,h2⟩:=h.holds.find_some (s:=s) ⟨x,hx⟩;have ht:uz (yd seed same L) Gs s=vT Gs i j:=by unfold uz;rw[h1]
 obtain⟨c1,c2,c3⟩:=UY h.holds.ok h2;have h3:=h.holds.del h2;have h4:yF (yd seed same (L.set s none)) (us (L.set s none)) (vT Gs i j) :=
  (h3.congr (fun t ht=>by unfold yd;rw[zfa ht.1])).of_iff (fun t=>(JK L s t).symm)
 unfold Y7;rw[ht];obtain⟨p1,p2,p3⟩:=zd7 (g:=(vT Gs i j).length) (live:=zD (vT Gs i j)) c3.pow;have hle:=Qq c3;have hu:zD (vT Gs i j)≤8*(uK (vT Gs i j).length (zD (vT Gs i j))).1:=by
  cases hb:(uK (vT Gs i j).length (zD (vT Gs i j))).2 with
  | true=>exact qY (p2 hb)
  | false=>rw[p3 hb];exact hle
 obtain⟨k1,k2,k3⟩:=h4.do p1 hu p3;refine⟨⟨i,j,h1,rfl⟩,c3,fun _=>⟨p1,hu⟩,k1,zlh h.keys s,?_⟩;rw[k2];have:=Vo hx;have:=h.used;omega
theorem UC{X Y:World}{b:Nat}{u0 u1 u2 u3 v0 v1 v2 v3:Value}{T:TypeId}(h:X.heap[b]? = some (.cells #[u0,u1,u2,u3] T (0,0)))
  (hY:(((X.setCell ⟨b,0,none⟩ v0).setCell ⟨b,1,none⟩ v1).setCell ⟨b,2,none⟩ v2).setCell ⟨b,3,none⟩ v3=Y):Mod (fun k=>k=b) X Y∧Y.heap[b]? = some (.cells #[v0,v1,v2,v3] T (0,0)):=by
 subst hY;refine⟨((((Mod.set1 b 0 v0).trans (Mod.set1 b 1 v1)).trans (Mod.set1 b 2 v2)).trans (Mod.set1 b 3 v3)),?_⟩;have h1:=uh (j:=0) (v:=v0) h;have h2:=uh (j:=1) (v:=v1) h1;have h3:=uh (j:=2) (v:=v2) h2;have h4:=uh (j:=3) (v:=v3) h3;simpa using h4
section
variable{w w':World}{D S:Nat→Prop}{d seed:Nat}{same:Bool}{L:List (Option Ent)}{Gs:List Grp}
def zht(Fo:Nat→Prop)(w:World)(D:Nat→Prop)(d seed:Nat)(same:Bool)(L:List (Option Ent))(Gs:List Grp)(s:Nat)(x:Ent)(e:Ending)(w':World):Prop :=
 ∃ a n c,e=.returned (.tuple #[.agg #[.string x.key,.slice a n c,.int .u64 x.dl,.int .u64 x.birth],.int .i64 0])∧yw w' (.slice a n c) (zM x.val)∧vi w (.slice a n c) ∧
  ∃ D',zZ Fo w' D' d seed same (L.set s none) (Y7 (yd seed same L) (yd seed same (L.set s none)) Gs s)∧Mod D w w'∧vU D D' w
end
end
end Go.Proofs.YtdohbogbnheakaaGreatDoor
