/- Lemmas and contracts of functions. No condition. -/
import Derived.Test.YtdohbogbnheakaaGreatDoorJPfBoth4028
import Derived.Laws.IdiomStrings
import Derived.Lib.SlBytesConst
namespace Go.Proofs.YtdohbogbnheakaaGreatDoor
open _root_.Go.Proofs.Tryz
set_option maxRecDepth 100000
set_option maxHeartbeats 20000000
set_option linter.all false
section
open Go.RowKit Go.Shelf Go.Maps
def uf(l:List UInt8):ByteArray:=⟨l.toArray⟩
theorem zix{er:Int}{i:Nat}{n:Nat}{v:Value} : ∀ {l:List (Nat × Value)} (_:l[i]? = some (n,v)),(ftC er l)[i*3]? = some (.int .i64 n)∧(ftC er l)[i*3+1]? = some v∧(ftC er l)[i*3+2]? = some (.int .i64 er):=by
 induction i with
 | zero =>
  intro l h
  cases l with
  | nil=>cases h
  | cons p l=>cases h;exact⟨rfl,rfl,rfl⟩
 | succ i ih =>
  intro l h
  cases l with
  | nil=>cases h
  | cons p l =>
   have h9:=ih (l:=l) (by simpa using h);have e:ftC er (p::l)=[.int .i64 p.1,p.2,.int .i64 er]++ftC er l:=rfl;rw[e];refine⟨?_,?_,?_⟩
   ·rw[show(i+1)*3=i*3+3 by omega];simpa using h9.1
   ·rw[show(i+1)*3+1=i*3+1+3 by omega];simpa using h9.2.1
   ·rw[show(i+1)*3+2=i*3+2+3 by omega];simpa using h9.2.2
theorem zeR(vs:List UInt8)(W:World) : ∃ C c,(convert 9 32 (.string (uf vs))).run prog W=.ok (.slice (some ⟨W.heap.size,0,none⟩) vs.length c) (W.drew.alloc (.cells C 5 (C.size,C.size+1)))∧zo (W.drew.alloc (.cells C 5 (C.size,C.size+1))) (.slice (some ⟨W.heap.size,0,none⟩) vs.length c) 1 (zQ vs)∧kx (W.drew.alloc (.cells C 5 (C.size,C.size+1))) (.slice (some ⟨W.heap.size,0,none⟩) vs.length c):=by
 have h:=run_bytes_of_string (P:=prog) W 9 32 5 (uf vs) underlying9 underlying32 underlying5;have hs:(uf vs).size=vs.length:=by unfold uf;simp[ByteArray.size]
 rw[hs]at h;refine⟨_,_,h,⟨_,_,_,rfl,by rw[kG,jW],jn vs,(fun e=>by cases e),fun ad e j u hu => ?_⟩,fun g hg => ?_⟩
 ·cases e
  have hz:=zj (w:=W.drew) (o := .cells (bytesRow (uf vs) (grownCap W vs.length 0 5)) 5 ((bytesRow (uf vs) (grownCap W vs.length 0 5)).size,(bytesRow (uf vs) (grownCap W vs.length 0 5)).size+1)) rfl;have hj:(bytesRow (uf vs) (grownCap W vs.length 0 5))[j]? = some u:=by
   unfold bytesRow uf;unfold zQ at hu;have hl:j<vs.length:=by
    have:=(zE.1 hu).1;simpa using this
   rw[Vl (by simpa using hl)];simp;simpa using hu
  rw[Addr.add_lit,qn];exact(zi _ _ j _ _ _ hz).trans hj
 ·unfold vE at hg;dsimp only at hg;split at hg
  ·cases hg
  ·cases hg;exact⟨_,_,zj rfl⟩
section
variable{w w' w1 w2 w0:World}{q p m1 last:Nat}{X X':List Ld}{D1 D1':DataW Unit}{S D0:Nat→Prop}{t t' t1 t2:Bst}
theorem UU{P:World→Prop}{pv:Value}{tt:Nat}{who kd ld:Int}{key:ByteArray}{vs:List UInt8}(hP : ∀ W W',P W→zc W W'→P W')(h:Calls prog 10 #[pv,.int .u64 tt,.string key,.int .i64 who] w fun e w' => ∃ a n c,e=FA kd (.slice a n c) ld 0∧zo w' (.slice a n c) 1 (zQ vs)∧P w') :
  Calls prog 29 #[pv,.int .u64 tt,.string key,.int .i64 who,.int .i64 kd,.string (uf vs),.int .i64 ld] w fun e w'=>e=.returned (.bool true)∧P w':=by
 have H:=za h;have HP:=za hP;unfold uf;clear h hP;go_enter func29,ntmps29;go_upto_region 2 with(go_at_call 10;refine H.out.mono ?_;rintro e w1 ⟨a,n,c,rfl,hr,hP⟩)
 have hal:zc w1 (w1.alloc (.cells #[.int .i64 kd,.slice a n c,.int .i64 ld] 34)):=(Mod.refl _ _).alloc _;have z:=zj (w:=w1) (o := .cells #[.int .i64 kd,.slice a n c,.int .i64 ld] 34 (0,0)) rfl;have k1:=zcD vs (hr.frame hal (fun _ _ e=>e));have hP2:=za (HP.out _ _ hP hal);clear hr hP hal;generalize w1.alloc (.cells #[.int .i64 kd,.slice a n c,.int .i64 ld] 34)=w2 at *;generalize w1.heap.size=b at *;obtain⟨z_0,z_1,z_2,z_f,z_l,H_z⟩:=cr3 z;clear z;go_wp2;go_ret;exact⟨by simp,hP2.out⟩
theorem zg3(h:FeR w0 D0 q p m1 last X D1 t w){tt ttl num who blk:Nat}{key:ByteArray}{wv:Value}{ws:List Nat}{off:Bool}{vs:List UInt8}{C:Array Value}(hx:(⟨num,key,who,wv,ws,off,blk⟩:Ld)∈X)(hC:C.toList=vm (who::ws))(hvn:vs.length≤65536)(ht:tt≤18446744073709551615)(hs:U5 t off key vs vs.length tt ttl t2) :
  Calls prog 30 #[lkP q,.int .u64 tt,.int .i64 num,.string (uf vs),.int .u64 ttl,.slice (some ⟨w.heap.size,0,none⟩) (ws.length+1) (ws.length+1)] (w.alloc (.cells C 3)) fun e w'=>e=.returned (.bool true)∧FeP w0 q p m1 last (vr X num) (vA t2) w':=by
 have hal:zc w (w.alloc (.cells C 3)):=(Mod.refl _ w).alloc _;have hzw:=zj (w:=w) (o := .cells C 3 (0,0)) rfl;have hg0 : ¬ D0 w.heap.size ∧ ¬ w.heap.size=m1:=⟨fun e=>by have:=h.ca.lt e;omega,fun e=>by have:=h.fe.lt (k:=m1) (.inr (.inl rfl));omega⟩;obtain⟨r1,r2,r3,r4,r5,r6⟩:=h.fe.rng _ hx;dsimp only at r5;have h1:=h.pure hal;obtain⟨CB,cb,hcv,hrd,hby⟩:=zeR vs (w.alloc (.cells C 3));have hal2:zc (w.alloc (.cells C 3)) ((w.alloc (.cells C 3)).drew.alloc (.cells CB 5 (CB.size,CB.size+1))):=((Mod.refl _ _).drew).alloc _;have HE:=za (ze1 (h1.pure hal2) hx hrd hby hvn ht hs);have HZ:=za (hal2.heap (fun e=>e) hzw);have HG0:=za hg0;have HC:=za hC;have HR5:=za r5;clear h h1 hrd hby hx hvn ht hs hal hal2 hzw hg0 hC r1 r2 r3 r4 r5 r6;unfold uf at hcv ⊢;generalize w.alloc (.cells C 3)=W1 at *;generalize w.heap.size=gw at *;go_enter func30,ntmps30;go_upto_region 5 with(go_at_call 11;refine HE.out.mono ?_;rintro e w5 ⟨v,rfl,⟨a,c,l,rfl,hrow,hl,hv⟩,hF,hm⟩)
 have hzw5:=hm.heap (fun e=>e.elim HG0.out.1 HG0.out.2) HZ.out;obtain⟨g,c',e',_,_,hc,_⟩:=uO hrow (by omega)
 cases e'
 have HZ5:=za hzw5;have HCl:=za hc;have HL:=za hl;have HV:=za hv;have HF:=za hF;clear HE hcv hzw5 hc hl hv hF hm hrow HZ HG0;go_loopw [15] (fun v15 wr => ∃ i:Nat,v15=.int .i64 (i:Nat)∧i≤ws.length+1∧zc w5 wr) (fun v15 _=>ws.length+1-(intOf v15).toNat)
 case atStart=>exact⟨0,rfl,yi _,Mod.refl _ _⟩
 case round =>
  obtain⟨i,rfl,hi,hp⟩:=hrel;have hwl:=HR5.out;have wi:IntKind.i64.wrap ((i:Int)+1)=(i:Int)+1:=zt _ (by omega);have HP:=za hp;clear hp;by_cases hlt:i<ws.length+1
  ·have hlt':(i:Int)<(ws.length:Int)+1:=by omega
   have i0:(0:Int)≤(i:Int):=by omega
   have hll:l.length=ws.length+1:=by have:=congrArg List.length HL.out;simpa using this
   obtain⟨⟨nm,val⟩,hp⟩ : ∃ p,l[i]? = some p:=⟨_,zL (by omega)⟩;obtain⟨f0,f1,f2⟩:=zix (er:=0) hp;have hcw:C[i]? = some (.int .i64 nm):=by
    have e1:C[i]? = C.toList[i]?:=by simp
    rw[e1,HC.out,← HL.out];unfold vm;simp[hp]
   obtain⟨va,vn,vc,rfl,_⟩:=yq.read (HV.out _ (yl hp)) (jn vs);have k1:=fun W (hW:zc w5 W)=>zcD vs ((yq.read (HV.out _ (yl hp)) (jn vs)).frame hW (fun _ _ e=>e))
   have c0:=HP.out.cell (fun e=>e) (HCl.out _ _ f0);have c1:=HP.out.cell (fun e=>e) (HCl.out _ _ f1);have c2:=HP.out.cell (fun e=>e) (HCl.out _ _ f2);have c3:=HP.out.cell (fun e=>e) ((zi w5 gw i _ _ (0,0) HZ5.out).trans hcw);have K1:=za (k1 wr.drew HP.out.drew);clear hp hll hcw f0 f1 f2 k1;go_upto_region 7 with fail
   refine rHd (S:=fun Y=>Y=wr.drew) rfl (fun h_ => ?_);refine hTk 0 ?_;refine hTk 1 ?_;refine hTk 2 ?_;refine hTk 3 ?_;refine hLd 4 ?_;refine hTk 5 ?_;refine hTk 6 ?_;refine hTk 7 ?_;refine hLd 8 ?_;refine hTk 9 ?_;refine hTk 10 ?_;refine hTk 11 ?_;refine hTk 12 ?_;refine hTk 13 ?_;refine hTk 14 ?_;refine hLd 15 ?_
   (refine kJ (i:=16) (v := ?_) rfl (by kernel_rfl) (by kernel_rfl) (by kernel_rfl) (fun _ _ _ h=>h) (Or.inl ⟨by rfl,?_⟩) h_ ?_;rotate_left 1;focus(intro w hS;obtain rfl:=hS;go_simp;rw[K1.out];rfl);try simp only[Act.put,List.getElem_toArray,List.getElem_cons_zero,List.getElem_cons_succ,List.setIfInBounds_toArray,List.set_cons_zero,List.set_cons_succ])
   refine hTk 17 ?_;refine hTk 18 ?_;refine hTk 19 ?_;refine hTk 20 ?_;refine hTk 21 ?_;refine hTk 22 ?_;refine hTk 23 ?_;refine hTk 24 ?_;refine hLd 25 ?_;refine hTk 26 ?_;refine hTk 27 ?_;refine hDn ?_;clear h_;go_wp2;go_roundw
   ·exact⟨i+1,by first | rfl | go_num,hlt,HP.out.drew⟩
   ·simp[intOf];omega
  ·obtain rfl:i=ws.length+1:=by omega
   go_wp2;go_ret;exact⟨rfl,by obtain⟨D9,D8,h9⟩:=HF.out;exact⟨D9,D8,h9.pure HP.out⟩⟩
end
structure LdA where
 num:Nat
 key:ByteArray
 who:Nat
 ws:List Nat
 off:Bool
def Ld.ab(x:Ld):LdA:=⟨x.num,x.key,x.who,x.ws,x.off⟩
def FeS(w0:World)(q p m1 last:Nat)(L:List LdA)(t:Bst)(w:World):Prop := ∃ X:List Ld,X.map Ld.ab=L∧FeP w0 q p m1 last X t w
section
variable{w w' w1 w2 w0:World}{q p m1 last:Nat}{L:List LdA}{t t' t1 t2:Bst}
theorem FeS.pure(h:FeS w0 q p m1 last L t w)(hp:zc w w'):FeS w0 q p m1 last L t w':=by
 obtain⟨X,hX,h⟩:=h;exact⟨X,hX,h.pure hp⟩
theorem FeS.one{a:LdA}(h:FeS w0 q p m1 last [a] t w) : ∃ wv blk,FeP w0 q p m1 last [⟨a.num,a.key,a.who,wv,a.ws,a.off,blk⟩] t w:=by
 obtain⟨X,hX,h⟩:=h
 cases X with
 | nil=>cases hX
 | cons x X =>
  cases X with
  | nil =>
   obtain⟨x1,x2,x3,x4,x5,x6,x7⟩:=x;simp only[List.map_cons,List.map_nil,Ld.ab]at hX
   cases hX
   exact⟨_,_,h⟩
  | cons _ _=>simp at hX
theorem FeS.nil(h:FeS w0 q p m1 last [] t w):FeP w0 q p m1 last [] t w:=by
 obtain⟨X,hX,h⟩:=h
 cases X with
 | nil=>exact h
 | cons _ _=>cases hX
def U4(x:LdA)(n:Nat):Prop:=x.who=n∨n∈x.ws
theorem Kv(h:FeS w0 q p m1 last L t w){tt who:Nat}{key:ByteArray}(ht:tt≤18446744073709551615)(hw:who≤1000)(hk:key.size≤1000)(hv:xy key.size=true)(hno : ∀ x∈L,¬ U4 x who∧x.key≠key)(hr:uT key t=0)(hl:um (yW t tt) key=none)(hL:L.length<64)(hlast:last+1≤100000)(ht1:vA (jm t tt)=t1) :
  Calls prog 29 #[lkP q,.int .u64 tt,.string key,.int .i64 who,.int .i64 2,.string (uf []),.int .i64 ((last+1:Nat):Int)] w fun e w'=>e=.returned (.bool true)∧FeS w0 q p m1 (last+1) (⟨last+1,key,who,[],false⟩::L) t1 w':=by
 refine UU (fun _ _ h hp=>FeS.pure h hp) ?_;obtain⟨X,rfl,h⟩:=h;refine VM h ht hw hk hv (.inr ⟨fun x hx=>(hno _ (zz.2 ⟨x,hx,rfl⟩)).1,hr,.inr ⟨hl,.inr ⟨fun x hx=>(hno _ (zz.2 ⟨x,hx,rfl⟩)).2,.inr ⟨by simpa using hL,hlast,fun W b hW => ?_⟩⟩⟩⟩);exact⟨none,0,0,rfl,JB _,_,rfl,ht1 ▸ hW⟩
theorem zaC{a:LdA}(h:FeS w0 q p m1 last [a] t w){tt who:Nat}(ht:tt≤18446744073709551615)(hw:who≤1000)(hk:a.key.size≤1000)(hv:xy a.key.size=true)(hno : ¬ U4 a who)(hr:uT a.key t=0)(hl:um (yW t tt) a.key=none)(hL:a.ws.length<1000)(ht1:vA (jm t tt)=t1) :
  Calls prog 29 #[lkP q,.int .u64 tt,.string a.key,.int .i64 who,.int .i64 3,.string (uf []),.int .i64 a.num] w fun e w'=>e=.returned (.bool true)∧FeS w0 q p m1 last [⟨a.num,a.key,a.who,a.ws++[who],a.off⟩] t1 w':=by
 refine UU (fun _ _ h hp=>FeS.pure h hp) ?_;obtain⟨wv,blk,h⟩:=h.one;refine VM h ht hw hk hv (.inr ⟨(fun x hx=>by rw[zF.1 hx];exact hno),hr,.inr ⟨hl,.inl ⟨_,rfl,rfl,hL,fun W b hW => ?_⟩⟩⟩);exact⟨none,0,0,rfl,JB _,_,rfl,ht1 ▸ hW⟩
theorem zgT(h:FeS w0 q p m1 last [] t w){tt who:Nat}{x:CE}(ht:tt≤18446744073709551615)(hw:who≤1000)(hk:x.key.size≤1000)(hv:xy x.key.size=true)(hr:uT x.key t=0)(hl:um (yW t tt) x.key=some x)(ht1:vA (vO (qv (yW t tt) x.birth x.cost) 0)=t1) :
  Calls prog 29 #[lkP q,.int .u64 tt,.string x.key,.int .i64 who,.int .i64 1,.string (uf x.val),.int .i64 0] w fun e w'=>e=.returned (.bool true)∧FeS w0 q p m1 last [] t1 w':=by
 refine UU (fun _ _ h hp=>FeS.pure h hp) ?_;refine VM h.nil ht hw hk hv (.inr ⟨(fun x hx=>by cases hx),hr,.inl ⟨x,hl,fun W a n c hb hW => ?_⟩⟩);exact⟨a,n,c,rfl,yq.read hb (jn _),_,rfl,ht1 ▸ hW⟩
theorem zhO(h:FeS w0 q p m1 last L t w){tt who:Nat}{key:ByteArray}(ht:tt≤18446744073709551615)(hw:who≤1000)(hk:key.size≤1000)(hv:xy key.size=true)(hb : ∃ x∈L,U4 x who) :
  Calls prog 10 #[lkP q,.int .u64 tt,.string key,.int .i64 who] w fun e w'=>e=FA 0 (.slice none 0 0) 0 11∧FeS w0 q p m1 last L t w':=by
 obtain⟨X,rfl,h⟩:=h;obtain⟨x,hx,hb⟩:=hb;obtain⟨y,hy,rfl⟩:=zz.1 hx;exact VM h ht hw hk hv (.inl ⟨⟨y,hy,hb⟩,fun W hW=>⟨rfl,_,rfl,hW⟩⟩)
theorem zjI{a:LdA}(h:FeS w0 q p m1 last [a] t w){n:Nat}(hn:n≤1000)(hno : ¬ n∈a.ws):Calls prog 14 #[lkP q,.int .i64 a.num,.int .i64 n] w fun e w'=>e=.returned (.int .i64 9)∧FeS w0 q p m1 last [a] t w':=by
 obtain⟨wv,blk,h⟩:=h.one;refine(zhV h (zF.2 rfl) hn hno).mono ?_;rintro e w' ⟨rfl,h⟩;exact⟨rfl,_,rfl,h⟩
theorem zgJ{num who a b:Nat}{key:ByteArray}{off:Bool}(h:FeS w0 q p m1 last [⟨num,key,who,[a,b],off⟩] t w):Calls prog 14 #[lkP q,.int .i64 num,.int .i64 a] w fun e w'=>e=.returned (.int .i64 0)∧FeS w0 q p m1 last [⟨num,key,who,[b],off⟩] t w':=by
 obtain⟨wv,blk,h⟩:=h.one;refine(zih h).mono ?_;rintro e w' ⟨rfl,wv,h⟩;exact⟨rfl,_,rfl,h⟩
theorem zhj{a:LdA}(h:FeS w0 q p m1 last [a] t w){tt:Nat}(ht:tt≤18446744073709551615)(hr:uT a.key t=0){was:Bool}(ht1:Xu t tt a.key=(was,t1))(ht2:vA t1=t2) :
  Calls prog 13 #[lkP q,.int .u64 tt,.string a.key] w fun e w'=>e=.returned (.tuple #[.bool was,.int .i64 0])∧FeS w0 q p m1 last [⟨a.num,a.key,a.who,a.ws,true⟩] t2 w':=by
 obtain⟨wv,blk,h⟩:=h.one;refine(zeB h ht hr ht1).mono ?_;rintro e w' ⟨rfl,h⟩;exact⟨rfl,_,rfl,ht2 ▸ h⟩
theorem zbX(a:LdA)(wv:Value)(blk:Nat):vr [⟨a.num,a.key,a.who,wv,a.ws,a.off,blk⟩] a.num=[]:=by unfold vr;simp
theorem zfb{a:LdA}(h:FeS w0 q p m1 last [a] t w){tt:Nat}{code:Int}(hc:0<code)(ht:tt≤18446744073709551615)(hr:vj t=0)(ht1:vA (jm t tt)=t1) :
  Calls prog 12 #[lkP q,.int .u64 tt,.int .i64 a.num,.int .i64 code] w fun e w' => ∃ v,e=.returned (.tuple #[v,.int .i64 0])∧Zj w' a.who a.ws code [] v∧FeS w0 q p m1 last [] t1 w':=by
 obtain⟨wv,blk,h⟩:=h.one;refine(zeW h (zF.2 rfl) hc ht hr rfl).mono ?_;rintro e w' ⟨v,rfl,ho,h⟩;rw[zbX]at h;exact⟨v,rfl,ho,_,rfl,ht1 ▸ h⟩
theorem zkH(h:FeS w0 q p m1 last [] t w){tt ttl vn vc:Nat}{va:Option Addr}{ld:Int} :
  Calls prog 11 #[lkP q,.int .u64 tt,.int .i64 ld,.slice va vn vc,.int .u64 ttl] w fun e w'=>e=.returned (.tuple #[.slice none 0 0,.int .i64 9])∧FeP w0 q p m1 last [] t w'∧zc w w' :=
 zjt h.nil (fun x hx=>by cases hx)
theorem za6{a:LdA}(h:FeS w0 q p m1 last [a] t w){tt ttl m:Nat}{vs:List UInt8}{C:Array Value}(hm:a.ws.length+1=m)(hC:C.toList=vm (a.who::a.ws))(hvn:vs.length≤65536)(ht:tt≤18446744073709551615)(hs:U5 t a.off a.key vs vs.length tt ttl t1)(ht2:vA t1=t2) :
  Calls prog 30 #[lkP q,.int .u64 tt,.int .i64 a.num,.string (uf vs),.int .u64 ttl,.slice (some ⟨w.heap.size,0,none⟩) m m] (w.alloc (.cells C 3)) fun e w'=>e=.returned (.bool true)∧FeS w0 q p m1 last [] t2 w':=by
 subst hm;obtain⟨wv,blk,D0,D1,h⟩:=h.one;refine(zg3 h (zF.2 rfl) hC hvn ht hs).mono ?_;rintro e w' ⟨rfl,h⟩;rw[zbX]at h;exact⟨rfl,_,rfl,ht2 ▸ h⟩
end
end
section
open Go.RowKit Go.Shelf
def xfk:CE:=⟨⟨#[107]⟩,[118],12,1⟩
def fk0(now births:Nat):Bst:=⟨⟨2,1000,0,0,false⟩,now,births,[],[],[],[]⟩
def fk1(now:Nat):Bst:=⟨⟨2,1000,0,0,false⟩,now,1,[xfk],[⟨1,50⟩],[],[]⟩
theorem ziC(w:World):Calls prog 9 #[] w fun e w'=>e=.returned (.agg #[.int .i64 2,.int .i64 1000,.int .i64 0,.int .u64 0,.bool false])∧zc w w':=by
 go_enter func9,ntmps9;go_wp2;exact zN (v := .agg #[.int .i64 2,.int .i64 1000,.int .i64 0,.int .u64 0,.bool false]) (by simp[results,results9,go_sem]) rfl ⟨rfl,(Mod.refl _ w).alloc _⟩
theorem zgC(w:World)(hT:xA w):Calls prog 8 #[.agg #[.int .i64 2,.int .i64 1000,.int .i64 0,.int .u64 0,.bool false]] w fun e w' => ∃ q p m1,e=.returned (.tuple #[lkP q,.int .i64 0])∧FeS w q p m1 0 [] (fk0 0 0) w':=by
 refine(zkU w hT (c0:=2) (b0:=1000) (s0:=0) ⟨by decide,by decide,by decide,by decide,by decide,by decide⟩ (by decide)).mono ?_;rintro e w' ⟨q,p,m1,rfl,h⟩;exact⟨q,p,m1,rfl,[],rfl,h⟩
theorem zdu{w:World}{a:Option Addr}{c:Nat}{l:List (Nat × Value)}(hrow:w.ownsRow 0 42 3 (.slice a 1 c) 1 (ftC 8 l))(hl:l.map Prod.fst=[4])(hv : ∀ z∈l,yq w z.2 (zQ [])) : ∃ g va vc,a=some ⟨g,0,none⟩∧w.cell? ⟨g,0,none⟩=some (.int .i64 4)∧w.cell? ⟨g,1,none⟩=some (.slice va 0 vc)∧w.cell? ⟨g,2,none⟩=some (.int .i64 8):=by
 obtain⟨g,c',e',_,_,hc,_⟩:=uO hrow (by decide)
 cases e'
 cases l with
 | nil=>cases hl
 | cons p l =>
  cases l with
  | cons _ _=>simp at hl
  | nil =>
   obtain⟨n,v⟩:=p;obtain rfl:n=4:=by simpa using hl
   obtain⟨va,vn,vc,rfl,hz,_⟩:=yq.read (hv _ (zF.2 rfl)) (jn []);obtain rfl:vn=0:=by
    have:(zQ []).length=0:=rfl;omega
   exact⟨g,va,vc,rfl,hc 0 _ rfl,hc 1 _ rfl,hc 2 _ rfl⟩
theorem zeZ(w:World)(hT:xA w):Calls prog 7 #[] w fun e w'=>e=.returned (.bool true)∧zc w w':=by
  have HN:=za (fun(W:World) (hW:zc w W)=>zgC W (hT.pure hW));have hcv:=fun(W:World) (C:Array Value) (n c:Nat)=>Go.Lib.run_convert_bytes_const (P:=prog) W 32 5 C n c underlying32 underlying5
  clear hT;have T1:True:=trivial;have T2:True:=trivial;have T3:True:=trivial;have T4:True:=trivial;have T5:True:=trivial;have T6:True:=trivial;have T7:True:=trivial;have T8:True:=trivial;have T9:True:=trivial;have T10:True:=trivial;have T11:True:=trivial;have T12:True:=trivial;have T13:True:=trivial;have T14:True:=trivial;have T15:True:=trivial;go_enter func7,ntmps7
  go_wp2_with (first
    | (go_at_call 9;refine zq (ziC _) ?_;rintro e wB ⟨rfl,hpB⟩)
    | (go_at_call 8;refine(HN.out _ hpB).mono ?_;rintro e w1 ⟨q,p,m1,rfl,hk⟩;have HK:Hid (FeS wB q p m1 0 [] (fk0 0 0) w1):=za hk;clear hk)
    | (go_at_call 29;clear T1;refine zq (Kv HK.out (tt:=0) (who:=1) (key:=⟨#[107]⟩) (t1:=fk0 0 0) (by decide) (by decide) (by decide) (by kernel_rfl) (fun x hx=>by cases hx) (by kernel_rfl) (by kernel_rfl) (by decide) (by decide) (by kernel_rfl)) ?_;rintro e w' ⟨rfl,hk⟩;replace HK:Hid (FeS wB q p m1 1 [⟨1,⟨#[107]⟩,1,[],false⟩] (fk0 0 0) w'):=za hk;clear hk)
    | (go_at_call 29;clear T2;refine zq (zaC HK.out (a:=(⟨1,⟨#[107]⟩,1,[],false⟩:LdA)) (tt:=0) (who:=2) (t1:=fk0 0 0) (by decide) (by decide) (by decide) (by kernel_rfl) (show ¬ (1=2∨2∈([]:List Nat)) by decide) (by kernel_rfl) (by kernel_rfl) (by decide) (by kernel_rfl)) ?_;rintro e w' ⟨rfl,hk⟩;replace HK:Hid (FeS wB q p m1 1 [⟨1,⟨#[107]⟩,1,[2],false⟩] (fk0 0 0) w'):=za hk;clear hk)
    | (go_at_call 29;clear T3;refine zq (zaC HK.out (a:=(⟨1,⟨#[107]⟩,1,[2],false⟩:LdA)) (tt:=1) (who:=3) (t1:=fk0 1 0) (by decide) (by decide) (by decide) (by kernel_rfl) (show ¬ (1=3∨3∈([2]:List Nat)) by decide) (by kernel_rfl) (by kernel_rfl) (by decide) (by kernel_rfl)) ?_;rintro e w' ⟨rfl,hk⟩;replace HK:Hid (FeS wB q p m1 1 [⟨1,⟨#[107]⟩,1,[2,3],false⟩] (fk0 1 0) w'):=za hk;clear hk)
    | (go_at_call 10;clear T4;refine zq (zhO HK.out (tt:=1) (who:=2) (key:=⟨#[106]⟩) (by decide) (by decide) (by decide) (by kernel_rfl) ⟨_,zF.2 rfl,show(1=2∨2∈([2,3]:List Nat)) by decide⟩) ?_;rintro e w' ⟨rfl,hk⟩;replace HK:Hid (FeS wB q p m1 1 [⟨1,⟨#[107]⟩,1,[2,3],false⟩] (fk0 1 0) w'):=za hk;clear hk)
    | (go_at_call 14;clear T5;refine zq (zjI HK.out (a:=(⟨1,⟨#[107]⟩,1,[2,3],false⟩:LdA)) (n:=1) (by decide) (show ¬ 1∈([2,3]:List Nat) by decide)) ?_;rintro e w' ⟨rfl,hk⟩;replace HK:Hid (FeS wB q p m1 1 [⟨1,⟨#[107]⟩,1,[2,3],false⟩] (fk0 1 0) w'):=za hk;clear hk)
    | (go_at_call 14;clear T6;refine zq (zgJ HK.out (num:=1) (a:=2) (b:=3)) ?_;rintro e w' ⟨rfl,hk⟩;replace HK:Hid (FeS wB q p m1 1 [⟨1,⟨#[107]⟩,1,[3],false⟩] (fk0 1 0) w'):=za hk;clear hk)
    | (go_at_call 30;clear T7;refine zq (za6 HK.out (a:=(⟨1,⟨#[107]⟩,1,[3],false⟩:LdA)) (tt:=2) (ttl:=10) (m:=2) (vs:=[118]) (t1:=fk1 2) (t2:=fk1 2) rfl rfl (by decide) (by decide) (.inr (.inl ⟨rfl,(by kernel_rfl),(by kernel_rfl),(by kernel_rfl)⟩)) (by kernel_rfl)) ?_;rintro e w' ⟨rfl,hk⟩;replace HK:Hid (FeS wB q p m1 1 [] (fk1 2) w'):=za hk;clear hk)
    | (go_at_call 29;clear T8;refine zq (zgT HK.out (tt:=3) (who:=1) (x:=xfk) (t1:=fk1 3) (by decide) (by decide) (by decide) (by kernel_rfl) (by kernel_rfl) (by kernel_rfl) (by kernel_rfl)) ?_;rintro e w' ⟨rfl,hk⟩;replace HK:Hid (FeS wB q p m1 1 [] (fk1 3) w'):=za hk;clear hk)
    | (go_at_call 29;clear T9;refine zq (Kv HK.out (tt:=12) (who:=4) (key:=⟨#[107]⟩) (t1:=fk0 12 1) (by decide) (by decide) (by decide) (by kernel_rfl) (fun x hx=>by cases hx) (by kernel_rfl) (by kernel_rfl) (by decide) (by decide) (by kernel_rfl)) ?_;rintro e w' ⟨rfl,hk⟩;replace HK:Hid (FeS wB q p m1 2 [⟨2,⟨#[107]⟩,4,[],false⟩] (fk0 12 1) w'):=za hk;clear hk)
    | (go_at_call 13;clear T10;refine zq (zhj HK.out (a:=(⟨2,⟨#[107]⟩,4,[],false⟩:LdA)) (tt:=12) (was:=false) (t1:=fk0 12 1) (t2:=fk0 12 1) (by decide) (by kernel_rfl) (by kernel_rfl) (by kernel_rfl)) ?_;rintro e w' ⟨rfl,hk⟩;replace HK:Hid (FeS wB q p m1 2 [⟨2,⟨#[107]⟩,4,[],true⟩] (fk0 12 1) w'):=za hk;clear hk)
    | (go_at_call 30;clear T11;refine zq (za6 HK.out (a:=(⟨2,⟨#[107]⟩,4,[],true⟩:LdA)) (tt:=13) (ttl:=0) (m:=1) (vs:=[119]) (t1:=fk0 12 1) (t2:=fk0 12 1) rfl rfl (by decide) (by decide) (.inl ⟨rfl,rfl⟩) (by kernel_rfl)) ?_;rintro e w' ⟨rfl,hk⟩;replace HK:Hid (FeS wB q p m1 2 [] (fk0 12 1) w'):=za hk;clear hk)
    | (go_at_call 29;clear T12;refine zq (Kv HK.out (tt:=13) (who:=4) (key:=⟨#[107]⟩) (t1:=fk0 13 1) (by decide) (by decide) (by decide) (by kernel_rfl) (fun x hx=>by cases hx) (by kernel_rfl) (by kernel_rfl) (by decide) (by decide) (by kernel_rfl)) ?_;rintro e w' ⟨rfl,hk⟩;replace HK:Hid (FeS wB q p m1 3 [⟨3,⟨#[107]⟩,4,[],false⟩] (fk0 13 1) w'):=za hk;clear hk)
    | (go_at_call 12;clear T13;refine zq (zfb HK.out (a:=(⟨3,⟨#[107]⟩,4,[],false⟩:LdA)) (tt:=14) (code:=8) (t1:=fk0 14 1) (by decide) (by decide) (by kernel_rfl) (by kernel_rfl)) ?_;rintro e wF ⟨v,rfl,⟨a,c,l,rfl,hrow,hl,hv⟩,hk⟩;replace HK:Hid (FeS wB q p m1 3 [] (fk0 14 1) wF):=za hk;clear hk;obtain⟨g,va,vc,rfl,f0,f1,f2⟩:=zdu hrow hl hv;clear hrow hl hv)
    | (go_at_call 11;clear T14;refine zq (zkH (HK.out.pure (by exact UW))) ?_;rintro e w' ⟨rfl,hk,hp⟩;replace HK:Hid (FeP wB q p m1 3 [] (fk0 14 1) w'):=za hk;have hq:zc wF w':=Mod.trans (by exact UW) hp;have y0:=hq.cell (fun e=>e) f0;have y1:=hq.cell (fun e=>e) f1;have y2:=hq.cell (fun e=>e) f2;clear hk hp hq f0 f1 f2)
    | (go_at_call 15;clear T15;refine zq (zkc HK.out) ?_;rintro e w9 ⟨rfl,hp9⟩))
  go_ret;exact⟨by simp,hpB.trans hp9⟩
end
end Go.Proofs.YtdohbogbnheakaaGreatDoor
