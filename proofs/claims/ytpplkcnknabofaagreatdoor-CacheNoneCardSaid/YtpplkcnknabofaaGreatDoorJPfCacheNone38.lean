/- Lemmas and contracts of functions. No condition. -/
import Derived.Test.YtpplkcnknabofaaGreatDoorJPfCacheNone34
import Derived.Test.YtpplkcnknabofaaGreatDoorJPfCacheNone37
import Derived.Test.YtpplkcnknabofaaGreatDoorJPfCacheNone35
import Derived.Test.YtpplkcnknabofaaGreatDoorJPfCacheNone32
import Derived.Test.YtpplkcnknabofaaGreatDoorJPfCacheNone15
namespace Go.Proofs.YtpplkcnknabofaaGreatDoor
open _root_.Go.Proofs.Tryz
set_option maxRecDepth 100000
set_option maxHeartbeats 20000000
set_option linter.all false
section
open Go.RowKit
section
variable{w w':World}{D:Nat→Prop}{p now tt:Nat}{L:List Td}
def zct(now tt:Nat):Int:=if tt<now then 3 else 0
def YS(now tt:Nat)(L:List Td):List Td:=if now<tt then Yn tt L else[]
def Ui(now tt:Nat):Nat:=if now<tt then tt else now
def Un(now tt:Nat)(L:List Td):List Td:=if now<tt then JY tt L else L
theorem yn.advAny(h:yn w D p now L)(hT:xy w)(h0 : ¬ D 0)(ht:tt<18446744073709551616) :
  Calls prog 247 #[lkP p,.int .u64 tt] w fun e w' => ∃ a c,e=.returned (.tuple #[.slice a (YS now tt L).length c,.int .i64 (zct now tt)])∧qj w' a c (YS now tt L)∧(∃ D',yn w' D' p (Ui now tt) (Un now tt L)∧yi D D' w ∧ ∀ g,(Value.slice a (YS now tt L).length c).ownBlock=some g → ¬ D' g∧w.heap.size≤g)∧Mod D w w':=by
 unfold zct YS Ui Un;by_cases hn:now<tt
 ·rw[zk hn,zk hn,zk hn,zh (by omega)];exact h.adv hT h0 hn ht
 ·rw[zh hn,zh hn,zh hn];refine(h.adv_no (tt:=tt) (by omega)).mono ?_;rintro e w' ⟨rfl,rfl⟩;exact⟨none,0,rfl,vj _ _ _ _,⟨D,h,yi.refl _ _,fun g hg=>by cases hg⟩,Mod.refl _ _⟩
theorem yn.count(h:yn w D p now L):L.length≤4194304:=by
 obtain⟨ws,bm,bb,Ds,Dm,Db,Lss,h1,h2,h3⟩:=h;exact h2.count
structure qo(w:World)(D:Nat→Prop)(p now:Nat)(L:List Td):Prop where
 at_:yn w D p now L
 tab:xy w
 off : ¬ D 0
theorem qo.frame{S:Nat→Prop}(h:qo w D p now L)(hm:Mod S w w')(hd : ∀ k,D k → ¬ S k)(h0 : ¬ S 0):qo w' D p now L:=⟨h.at_.frame hm hd,h.tab.mod hm h0,h.off⟩
theorem qo.pure(h:qo w D p now L)(hm:zb w w'):qo w' D p now L:=h.frame hm (fun _ _ h=>h) (fun h=>h)
theorem qo.next{D':Nat→Prop}{now':Nat}{L':List Td}(h:qo w D p now L)(hc:yn w' D' p now' L')(hg:yi D D' w)(hm:Mod D w w'):qo w' D' p now' L' :=
 ⟨hc,h.tab.mod hm h.off,fun e=>by
  rcases hg 0 e with e | e
  ·exact h.off e
  ·have:=h.tab.lt;omega⟩
end
end
section
section
variable{M M' L A:List Td}{x y:Td}{s now tt b dl:Nat}
theorem YV(h:M.Pairwise bef):(yl M).Pairwise bef:=h.filter _
theorem Z9:x∈yl M↔x∈M∧x.dl≠18446744073709551615:=by unfold yl;simp
theorem U8:yl (x::M)=if x.dl≠18446744073709551615 then x::yl M else yl M:=by
 unfold yl;rw[k9];simp
theorem zdh(h:M.Perm M'):(yl M).Perm (yl M'):=h.filter _
theorem zeR(h:M.Pairwise bef)(hb : ∀ y∈M,y.birth≠x.birth):yl (xW M x)=if x.dl=18446744073709551615 then yl M else xW (yl M) x:=by
 have h1:(yl (xW M x)).Perm (yl (x::M)):=zdh qr;have h2:=YV (Xx h hb);rw[U8]at h1;by_cases e:x.dl=18446744073709551615
 ·rw[zk e];rw[zh (by omega)]at h1;exact ZR h2 (YV h) h1
 ·rw[zh e];rw[zk e]at h1;exact ZR h2 (Xx (YV h) (fun y hy=>hb y (Z9.1 hy).1)) (h1.trans qr.symm)
def jx(M:List Td)(s:Nat):List Td:=if xO M s then Zd M s else M
theorem zhp(h:M.Pairwise bef)(hu : ∀ x∈M,∀ y∈M,x.slot=y.slot→x=y)(hp:M.Perm (x::M'))(hx:x.slot<4194304)(h':M'.Pairwise bef):vB (yl M) x.slot=yl M':=by
 have hxM:x∈M:=hp.mem_iff.2 ym;have h1:=zdh hp;rw[U8]at h1;have h2:=YV h;have h3:=YV h';by_cases e:x.dl=18446744073709551615
 ·rw[zh (by omega)]at h1;have hn:xO (yl M) x.slot=false:=by
   cases hh:xO (yl M) x.slot with
   | false=>rfl
   | true =>
    obtain⟨y,hy,e2⟩:=uH.1 hh;obtain⟨k1,k2⟩:=Z9.1 hy;rw[hu y k1 x hxM e2]at k2;exact absurd e k2
  unfold vB;rw[Y3 hx (Vp hn)];dsimp only;rw[zh (by decide)];exact ZR h2 h3 h1
 ·rw[zk e]at h1;have hxT:x∈yl M:=Z9.2 ⟨hxM,e⟩;have hh:xO (yl M) x.slot=true:=uH.2 ⟨x,hxT,rfl⟩;obtain⟨z,k1,k2,k3,k4⟩:=Ul (VM.2 hh);have hz:z=x:=hu z (Z9.1 (yd k1)).1 x hxM k2;subst hz;unfold vB;rw[Xo hx k3];dsimp only;rw[zk rfl];have h5:=k4.symm.trans h1;exact ZR (ZH h2) h3 ((List.perm_cons _).1 h5)
theorem yN.out(h:yN now M)(hp:M.Perm (x::M'))(h':M'.Pairwise bef):yN now M'∧(∀ y,y∈M'↔y∈M∧y.slot≠x.slot)∧(∀ y,y∈M'↔y∈M∧y.birth≠x.birth)∧M'.length+1=M.length:=by
 have hx:x∈M:=hp.mem_iff.2 ym;have hsub : ∀ y∈M',y∈M:=fun y hy=>hp.mem_iff.2 (yB _ hy)
 have hndM:M.Nodup:=h.ord.imp (fun {a b} k e=>by subst e;exact Xb k k);have hnd:=hp.nodup_iff.1 hndM;have hxn:x∉M':=(xe.1 hnd).1;refine⟨⟨h',fun a ha b hb=>h.slots a (hsub a ha) b (hsub b hb),fun a ha b hb=>h.births a (hsub a ha) b (hsub b hb),fun a ha=>h.rng a (hsub a ha)⟩,fun y=>⟨fun hy=>⟨hsub y hy,fun e=>hxn (by rw[← h.slots y (hsub y hy) x hx e];exact hy)⟩,fun⟨hy,hn⟩ => ?_⟩,fun y=>⟨fun hy=>⟨hsub y hy,fun e=>hxn (by rw[← h.births y (hsub y hy) x hx e];exact hy)⟩,fun⟨hy,hn⟩ => ?_⟩,by have:=hp.length_eq;simp at this;omega⟩
 ·rcases yu.1 (hp.mem_iff.1 hy)with rfl | k
  ·exact absurd rfl hn
  ·exact k
 ·rcases yu.1 (hp.mem_iff.1 hy)with rfl | k
  ·exact absurd rfl hn
  ·exact k
theorem yN.put(h:yN now M)(h1 : ∀ y∈M,y.slot≠x.slot)(h2 : ∀ y∈M,y.birth≠x.birth)(hr:x.slot<4194304∧(now<x.dl∨x.dl=18446744073709551615)∧x.dl≤18446744073709551615∧0<x.birth∧x.birth≤18446744073709551615):yN now (xW M x):=by
 refine⟨Xx h.ord h2,fun a ha b hb e => ?_,fun a ha b hb e => ?_,fun a ha => ?_⟩
 ·rcases Zw.1 ha with k1 | k1<;>rcases Zw.1 hb with k2 | k2
  ·rw[k1,k2]
  ·rw[k1]at e;exact absurd e.symm (h1 b k2)
  ·rw[k2]at e;exact absurd e (h1 a k1)
  ·exact h.slots a k1 b k2 e
 ·rcases Zw.1 ha with k1 | k1<;>rcases Zw.1 hb with k2 | k2
  ·rw[k1,k2]
  ·rw[k1]at e;exact absurd e.symm (h2 b k2)
  ·rw[k2]at e;exact absurd e (h2 a k1)
  ·exact h.births a k1 b k2 e
 ·rcases Zw.1 ha with rfl | ha
  ·exact hr
  ·exact h.rng a ha
def j9(M:List Td)(s b:Nat):Bool:=M.any (fun y=>(y.slot==s) != (y.birth==b))
def kq(now:Nat)(M:List Td)(s dl b:Nat):Int:=if s<4194304∧b≠0 then(if dl≤now∧dl≠18446744073709551615 then 3 else if j9 M s b then 11 else 0)else 2
def u9(now:Nat)(M:List Td)(s dl b:Nat):List Td:=if kq now M s dl b=0 then xW (jx M s) ⟨s,dl,b⟩else M
theorem XG:j9 M s b=true ↔ ∃ y∈M,(y.slot=s∧y.birth≠b)∨(y.slot≠s∧y.birth=b):=by
 unfold j9;rw[List.any_eq_true];constructor
 ·rintro⟨y,hy,e⟩;refine⟨y,hy,?_⟩;by_cases h1:y.slot=s
  ·by_cases h2:y.birth=b
   ·rw[h1,h2]at e;simp at e
   ·exact .inl ⟨h1,h2⟩
  ·by_cases h2:y.birth=b
   ·exact .inr ⟨h1,h2⟩
   ·rw[uE.2 h1,uE.2 h2]at e;cases e
 ·rintro⟨y,hy,e⟩;refine⟨y,hy,?_⟩;rcases e with⟨h1,h2⟩ | ⟨h1,h2⟩
  ·rw[h1,uE.2 h2];simp
  ·rw[h2,uE.2 h1];simp
theorem Km{p:Td→Bool}(hp : ∀ a b,bef a b→p b=true→p a=true) : ∀ {A:List Td},A.Pairwise bef→A.takeWhile p=A.filter p∧A.dropWhile p=A.filter (fun x => !p x)
 | [],_=>⟨rfl,rfl⟩
 | a::A,h=>by
  obtain⟨h1,h2⟩:=ko.1 h;obtain⟨i1,i2⟩:=Km hp h2;by_cases e:p a=true
  ·simp only[List.takeWhile_cons,List.dropWhile_cons,List.filter_cons,e,if_true,i1,i2];simp
  ·have h0 : ∀ y∈A,p y=false:=fun y hy=>by
    cases hy2:p y with
    | false=>rfl
    | true=>exact absurd (hp a y (h1 y hy) hy2) e
   have f1:A.filter p=[]:=Yr.2 (fun y hy=>by rw[h0 y hy];decide);have f2:A.filter (fun x => !p x)=A:=jf.2 (fun y hy=>by rw[h0 y hy];rfl);simp only[Bool.not_eq_true]at e;simp[List.takeWhile_cons,List.dropWhile_cons,List.filter_cons,e,f1,f2]
def jc(tt:Nat)(x:Td):Bool:=decide (x.dl≤tt)&&decide (x.dl≠18446744073709551615)
def ud(tt:Nat)(M:List Td):List Td:=M.takeWhile (jc tt)
def jq(tt:Nat)(M:List Td):List Td:=M.dropWhile (jc tt)
theorem zak(ht:tt≤18446744073709551615)(h:M.Pairwise bef):ud tt M=M.filter (jc tt)∧jq tt M=M.filter (fun x => !jc tt x):=by
 unfold ud jq;refine Km (fun a b hab h => ?_) h;unfold jc at *;unfold bef at hab;simp at *;omega
theorem zdx{A:List Td}(h:A.Pairwise bef):A.takeWhile (fun x=>decide (x.dl≤tt))=A.filter (fun x=>decide (x.dl≤tt))∧A.dropWhile (fun x=>decide (x.dl≤tt))=A.filter (fun x => !decide (x.dl≤tt)) :=
 Km (fun a b hab h=>by unfold bef at hab;simp at *;omega) h
theorem yN.exp(h:yN now M)(hn:now≤tt)(ht:tt≤18446744073709551615):YS now tt (yl M)=ud tt M∧Un now tt (yl M)=yl (jq tt M)∧Ui now tt=tt∧yN tt (jq tt M):=by
 obtain⟨e1,e2⟩:=zak ht h.ord;have hs:=YV h.ord;have hD:yN tt (jq tt M):=by
  have hsub : ∀ y∈jq tt M,y∈M:=fun y hy=>(List.dropWhile_sublist _).subset hy
  refine⟨h.ord.sublist (List.dropWhile_sublist _),fun a ha b hb=>h.slots a (hsub a ha) b (hsub b hb),fun a ha b hb=>h.births a (hsub a ha) b (hsub b hb),fun a ha => ?_⟩;obtain⟨r1,r2,r3,r4,r5⟩:=h.rng a (hsub a ha);rw[e2]at ha;have:=(qT.1 ha).2;unfold jc at this;simp at this;exact⟨r1,by omega,r3,r4,r5⟩
 refine⟨?_,?_,?_,hD⟩
 ·unfold YS;by_cases c:now<tt
  ·rw[zk c];unfold Yn;rw[(zdx hs).1,e1];unfold yl;rw[Uz]
   rfl
  ·rw[zh c,e1]
   symm
   rw[Yr];intro x hx;have:=(h.rng x hx).2.1;unfold jc;simp;omega
 ·unfold Un;by_cases c:now<tt
  ·rw[zk c];unfold JY;rw[(zdx hs).2,e2];unfold yl;rw[Uz,Uz];refine XK (fun x hx => ?_);unfold jc;by_cases c1:x.dl≤tt<;>by_cases c2:x.dl=18446744073709551615<;>simp[c1,c2]
  ·rw[zh c,e2];unfold yl;rw[Uz];refine XK (fun x hx => ?_);have:=(h.rng x hx).2.1;unfold jc;by_cases c1:x.dl≤tt<;>by_cases c2:x.dl=18446744073709551615<;>simp[c1,c2];omega
 ·unfold Ui;split<;>omega
theorem ze2(h:yN now M):qv (yl M)=qv M:=by
 cases M with
 | nil=>rfl
 | cons x M =>
  rw[U8];by_cases e:x.dl=18446744073709551615
  ·rw[zh (by omega)];have:yl M=[]:=by
    unfold yl;rw[Yr];intro y hy;have h1:=(ko.1 h.ord).1 y hy;have h2:=(h.rng y (yB _ hy)).2.2.1;unfold bef at h1;simp;omega
   rw[this];exact e.symm
  ·rw[zk e]
   rfl
def Yi(tv:List Nat):List Td→List Td→Option (List Td)
 | acc,[]=>some acc
 | acc,x::xs=>match tv[x.slot]? with
  | some t=>if t<4194304∧xO acc t=false then Yi tv (acc++[⟨t,x.dl,x.birth⟩]) xs else none
  | none=>none
def uk(M:List Td):List (Nat × Nat):=M.map (fun x=>(x.dl,x.birth))
theorem ziM{A B:List Td}(h:uk A=uk B)(hs:A.Pairwise bef):B.Pairwise bef:=by
 have h1:(uk A).Pairwise (fun a b=>a.1<b.1∨a.1=b.1∧a.2<b.2):=by
  unfold uk;rw[uO];exact hs
 rw[h]at h1;unfold uk at h1;rw[uO]at h1;exact h1
theorem zgC{A B:List Td}(h:uk A=uk B){x:Td}(hx:x∈B) : ∃ y∈A,y.dl=x.dl∧y.birth=x.birth:=by
 have:(x.dl,x.birth)∈uk B:=zI.2 ⟨x,hx,rfl⟩;rw[← h]at this;obtain⟨y,hy,e⟩:=zI.1 this;injection e with e1 e2
 exact⟨y,hy,e1,e2⟩
end
end
section
open Go.RowKit Go.Shelf
section
variable{w w':World}{D:Nat→Prop}{p now q bb bs:Nat}{Dc:Nat→Prop}{Db Ds:DataW Unit}{M L:List Td}
theorem zcq(h:yM w D p now q bb bs Dc Db Ds M L){x:Td}{M':List Td}(hx:x∈M)(hs:x.slot≤4294967295)(hb:x.birth≤18446744073709551615)(hM : ∀ y,y∈M'↔y∈M∧y.slot≠x.slot)(hM2 : ∀ y,y∈M'↔y∈M∧y.birth≠x.birth)(hl:M'.length+1=M.length) :
  Calls prog 163 #[lkP p,tdV x] w fun e w'=>e=.returned (.tuple #[])∧(∃ D' Dc' Db' Ds',yM w' D' p now q bb bs Dc' Db' Ds' M' (vB L x.slot)∧yi D D' w)∧Mod D w w':=by
 have hal:zb w (w.alloc (.cells #[.int .u32 x.slot,.int .u64 x.dl,.int .u64 x.birth] 226)):=(Mod.refl _ w).alloc _;have h3:=zi (w:=w) (o := .cells #[.int .u32 x.slot,.int .u64 x.dl,.int .u64 x.birth] 226 (0,0)) rfl;have hD3 : ¬ D w.heap.size:=h.off0 (zG _);have HC:=za (h.pure hal);have HCn:=za (((h.pure hal).pure ((Mod.refl _ _).drew:zb _ (w.alloc (.cells #[.int .u32 x.slot,.int .u64 x.dl,.int .u64 x.birth] 226)).drew)).cas.cancel hs);have HX:=za hx;have HM:=za hM;have HM2:=za hM2;have HAL:=za hal;have HDD:=za h.dd;have hsz:w.heap.size≤(w.alloc (.cells #[.int .u32 x.slot,.int .u64 x.dl,.int .u64 x.birth] 226)).heap.size:=hal.size;obtain⟨ne1,ne2,ne3⟩:=h.ne;clear h hx hM hM2 hal;unfold tdV;go_enter func163,ntmps163;go_upto_region 1 with fail
 generalize w.alloc (.cells #[.int .u32 x.slot,.int .u64 x.dl,.int .u64 x.birth] 226)=W1 at *;obtain⟨b3,hb3⟩:=zc w.heap.size;rw[hb3]at h3 hD3 ⊢;clear hb3;obtain⟨c0,c1,c2⟩:=HC.out.cells;have H3:=za h3;obtain⟨h3_0,h3_1,h3_2,h3_f,h3_l,H_h3⟩:=cr3 h3;clear h3
 go_still_tail 6,(by kernel_rfl)
 go_upto_region 2 with(go_at_call 238;refine HCn.out.mono ?_;rintro e w2 ⟨rfl,⟨Dc2,hc2,hg2⟩,hm2⟩)
 have hm2':Mod Dc W1 w2:=Mod.of_drew hm2;have hg2':yi Dc Dc2 W1:=hg2;obtain⟨D2,hD2,hgD⟩:=HC.out.cascade hc2 hg2' hm2';have n3:b3≠p∧b3≠bb∧b3≠bs ∧ ¬ Dc b3:=⟨fun e=>hD3 ((HDD.out b3).2 (.inl e)),fun e=>hD3 ((HDD.out b3).2 (.inr (.inl e))),fun e=>hD3 ((HDD.out b3).2 (.inr (.inr (.inl e)))),fun e=>hD3 ((HDD.out b3).2 (.inr (.inr (.inr e))))⟩;have h32:=hm2'.heap n3.2.2.2 H3.out;have HD2:=za hD2;have HGD:=za hgD;have HM2':=za (hm2'.mono (fun k _ hk=>(HDD.out k).2 (.inr (.inr (.inr hk)))):Mod D W1 w2);have H32:=za h32;clear h3_0 h3_1 h3_2 h3_f h3_l;clear H_h3 hm2 hm2' hg2 hg2' hD2 hgD hc2 HCn c0 c1 c2;obtain⟨c0,c1,c2⟩:=HD2.out.cells;obtain⟨h32_0,h32_1,h32_2,h32_f,h32_l,H_h32⟩:=cr3 h32;clear h32
 go_still_tail 6,(by kernel_rfl)
 go_upto_region 3 with(at_delete;refine Yp _ rfl _ _ 173 22 rfl 114 kr underlying173 qD bb M.length Db rfl HD2.out.births.own.drew (.int .u64 x.birth) (kB x.birth) rfl (qS hb) ?_;intro w3 ho3 ht3;go_frame)
 have hm3:Mod (fun k=>k=bb) w2 w3:=Mod.of_drew (Mod.of_grown ht3.grown (fun k e _=>by cases e;rfl));have hN3:=HD2.out.births.del HX.out HM2.out hl ho3;have hbx3:=hm3.heap (fun e=>ne1 e) HD2.out.box;have hT3:=HD2.out.slots.mod hm3 (fun e=>ne3 e.symm);have hc3:=HD2.out.cas.frame hm3 (fun k hk e=>HD2.out.nbb (e ▸ hk));have h33:=hm3.heap n3.2.1 H32.out;have HM3:=za hm3;have HN3:=za hN3;have HBX3:=za hbx3;have HT3:=za hT3;have HC3:=za hc3;have H33:=za h33;clear h32_0 h32_1 h32_2 h32_f h32_l;clear H_h32 c0 c1 c2 ho3 ht3 hm3 hN3 hT3 hc3;have c0:w3.cell? ⟨p,0,none⟩=some (lkP q):=by rw[zf _ _ 0 _ _ _ hbx3];rfl
 have c2:w3.cell? ⟨p,2,none⟩=some (.map (some bs)):=by rw[zf _ _ 2 _ _ _ hbx3];rfl
 clear hbx3;obtain⟨h33_0,h33_1,h33_2,h33_f,h33_l,H_h33⟩:=cr3 h33;clear h33
 go_still_tail 6,(by kernel_rfl)
 go_wp2_with (at_delete;refine Yp _ rfl _ _ 213 114 rfl 226 vk underlying213 kv bs M.length Ds rfl HT3.out.own.drew (.int .u32 x.slot) (kS x.slot) rfl (uv hs) ?_;intro w4 ho4 ht4;go_frame)
 have hm4:Mod (fun k=>k=bs) w3 w4:=Mod.of_drew (Mod.of_grown ht4.grown (fun k e _=>by cases e;rfl));have hT4:=HT3.out.del HX.out HM.out hl ho4;have hfin:yM w4 D2 p now q bb bs Dc2 (Db.del (kB x.birth)) (Ds.del (kS x.slot)) M' (vB L x.slot):=⟨hm4.heap (fun e=>ne2 e) HBX3.out,HC3.out.frame hm4 (fun k hk e=>HD2.out.nbs (e ▸ hk)),HN3.out.mod hm4 (fun e=>ne3 e),hT4,HD2.out.np,HD2.out.nbb,HD2.out.nbs,HD2.out.ne,HD2.out.dd⟩;have hmo:Mod D w w4:=((HAL.out.mono (fun _ _ h=>h.elim):Mod D w W1).trans HM2'.out).trans ((HM3.out.mono (fun k _ hk=>by rw[hk];exact(HDD.out bb).2 (.inr (.inl rfl))):Mod D w2 w3).trans (hm4.mono (fun k _ hk=>by rw[hk];exact(HDD.out bs).2 (.inr (.inr (.inl rfl))))))
 go_end0
 exact⟨rfl,⟨_,_,_,_,hfin,fun k hk=>by
  rcases HGD.out k hk with e | e
  ·exact .inl e
  ·exact .inr (zH HAL.out.size e)⟩,hmo⟩
end
section
variable{w w':World}{D:Nat→Prop}{p now q bb bs:Nat}{Dc:Nat→Prop}{Db Ds:DataW Unit}{M L:List Td}
theorem yN.nd(h:yN now M):M.Nodup:=h.ord.imp (fun {a b} k e=>by subst e;exact Xb k k)
theorem yN.count(h:yN now M):M.length≤4194304:=by
 have h1:(M.map (fun x=>x.slot)).Nodup:=by
  unfold List.Nodup;rw[uO];exact List.Pairwise.imp_of_mem (fun {a b} ha hb hne e=>hne (h.slots a ha b hb e)) h.nd
 have:=qJ (N:=4194304) h1 (fun s hs=>by
  obtain⟨x,hx,rfl⟩:=zI.1 hs;exact(h.rng x hx).1)
 simpa using this
theorem yN.sub(h:yN now M){M2:List Td}(hn:M2.Nodup)(hs : ∀ x∈M2,x∈M):M2.length≤4194304:=by
 have h1:(M2.map (fun x=>x.slot)).Nodup:=by
  unfold List.Nodup;rw[uO];exact List.Pairwise.imp_of_mem (fun {a b} ha hb hne e=>hne (h.slots a (hs a ha) b (hs b hb) e)) hn
 have:=qJ (N:=4194304) h1 (fun s hx=>by
  obtain⟨x,k,rfl⟩:=zI.1 hx;exact(h.rng x (hs x k)).1)
 simpa using this
end
section
variable{w w':World}{D:Nat→Prop}{p now q bb bs:Nat}{Dc:Nat→Prop}{Db Ds:DataW Unit}{M L:List Td}
def yb(w:World)(D:Nat→Prop)(p now:Nat)(M:List Td):Prop :=
 ∃ q bb bs Dc Db Ds,yM w D p now q bb bs Dc Db Ds M (yl M)∧yN now M
theorem yb.frame{S:Nat→Prop}(h:yb w D p now M)(hm:Mod S w w')(hd : ∀ k,D k → ¬ S k):yb w' D p now M:=by
 obtain⟨q,bb,bs,Dc,Db,Ds,h1,h2⟩:=h;exact⟨q,bb,bs,Dc,Db,Ds,h1.frame hm hd,h2⟩
theorem yb.pure(h:yb w D p now M)(hm:zb w w'):yb w' D p now M:=h.frame hm (fun _ _ h=>h)
theorem yb.lt(h:yb w D p now M){k:Nat}(hk:D k):k<w.heap.size:=by
 obtain⟨q,bb,bs,Dc,Db,Ds,h1,h2⟩:=h;exact h1.lt hk
theorem yb.self(h:yb w D p now M):D p:=by
 obtain⟨q,bb,bs,Dc,Db,Ds,h1,h2⟩:=h;exact(h1.dd p).2 (.inl rfl)
theorem yb.law(h:yb w D p now M):yN now M:=by
 obtain⟨q,bb,bs,Dc,Db,Ds,h1,h2⟩:=h;exact h2
theorem yb.now64(h:yb w D p now M):now<18446744073709551616:=by
 obtain⟨q,bb,bs,Dc,Db,Ds,h1,h2⟩:=h;exact h1.cas.now64
theorem yN.nil(now:Nat):yN now []:=⟨List.Pairwise.nil,(fun x hx=>by cases hx),(fun x hx=>by cases hx),(fun x hx=>by cases hx)⟩
theorem zfJ(w:World){now:Nat}(hn:now<18446744073709551616):Calls prog 140 #[.int .u64 now] w fun e w' => ∃ p D,e=.returned (lkP p)∧yb w' D p now []∧zb w w' ∧ ∀ k,D k→w.heap.size≤k:=by
 have HN:=za (fun W=>zhP W hn);have hmm := @run_makeMap prog;go_enter func140,ntmps140
 go_wp2_with (go_at_call 225;refine(HN.out _).mono ?_;rintro e w1 ⟨q,Dc,rfl,hc,hp,hf⟩)
 have a1:zb w1 (w1.alloc (.map #[] 0)):=(Mod.refl _ w1).alloc _;have a2:zb (w1.alloc (.map #[] 0)) ((w1.alloc (.map #[] 0)).alloc (.map #[] 0)):=(Mod.refl _ _).alloc _;have hs1:(w1.alloc (.map #[] 0)).heap.size=w1.heap.size+1:=by simp
 have hs2:((w1.alloc (.map #[] 0)).alloc (.map #[] 0)).heap.size=w1.heap.size+2:=by simp
 have t1:=xU.new w1;have t2:=yL.new (w1.alloc (.map #[] 0));rw[hs1]at t2;have a3:zb ((w1.alloc (.map #[] 0)).alloc (.map #[] 0)) (((w1.alloc (.map #[] 0)).alloc (.map #[] 0)).alloc (.cells #[lkP q,.map (some w1.heap.size),.map (some (w1.heap.size+1))] 215)):=(Mod.refl _ _).alloc _;have hlt:=fun k (hk:Dc k)=>hc.lt hk
 have hsz:=hp.size;have hfin:yb (((w1.alloc (.map #[] 0)).alloc (.map #[] 0)).alloc (.cells #[lkP q,.map (some w1.heap.size),.map (some (w1.heap.size+1))] 215)) (fun k=>k=w1.heap.size+2∨k=w1.heap.size∨k=w1.heap.size+1∨Dc k) (w1.heap.size+2) now [] :=
  ⟨q,w1.heap.size,w1.heap.size+1,Dc,_,_,⟨zi hs2.symm,((hc.pure a1).pure a2).pure a3,(t1.mod a2 (fun h=>h)).mod a3 (fun h=>h),t2.mod a3 (fun h=>h),fun e=>by have:=hlt _ e;omega,fun e=>by have:=hlt _ e;omega,fun e=>by have:=hlt _ e;omega,⟨by omega,by omega,by omega⟩,fun k=>vE⟩,yN.nil _⟩
 have hpp:=((hp.trans a1).trans a2).trans a3;go_ret;refine⟨w1.heap.size+2,_,rfl,hfin,hpp,fun k hk => ?_⟩;rcases hk with rfl | rfl | rfl | e
 ·omega
 ·omega
 ·omega
 ·exact hf k e
end
section
variable{w w':World}{D:Nat→Prop}{p now q bb bs:Nat}{Dc:Nat→Prop}{Db Ds:DataW Unit}{M M' L:List Td}{x:Td}
theorem xU.perm{b:Nat}{A:DataW Unit}(h:xU w b M A)(hp:M.Perm M'):xU w b M' A :=
 ⟨by rw[← hp.length_eq];exact h.own,fun x hx=>h.at_ x (hp.mem_iff.2 hx),fun s hs=>by obtain⟨x,hx,e⟩:=h.has s hs;exact⟨x,hp.mem_iff.1 hx,e⟩,by rw[← hp.length_eq];exact h.size⟩
theorem yM.perm(h:yM w D p now q bb bs Dc Db Ds M L)(hp:M.Perm M'):yM w D p now q bb bs Dc Db Ds M' L :=
 ⟨h.box,h.cas,h.births.perm hp,h.slots.perm hp,h.np,h.nbb,h.nbs,h.ne,h.dd⟩
theorem yb.drop(h:yb w D p now M)(hp:M.Perm (x::M'))(hs:M'.Pairwise bef) :
  Calls prog 163 #[lkP p,tdV x] w fun e w'=>e=.returned (.tuple #[])∧(∃ D',yb w' D' p now M'∧yi D D' w)∧Mod D w w':=by
 obtain⟨q,bb,bs,Dc,Db,Ds,h1,h2⟩:=h;obtain⟨k1,k2,k3,k4⟩:=h2.out hp hs;have hx:x∈M:=hp.mem_iff.2 ym;obtain⟨r1,r2,r3,r4,r5⟩:=h2.rng x hx;refine(zcq h1 hx (by omega) r5 k2 k3 k4).mono ?_;rintro e w' ⟨rfl,⟨D',Dc',Db',Ds',hD,hg⟩,hm⟩;rw[zhp h2.ord h2.slots hp r1 hs]at hD;exact⟨rfl,⟨D',⟨q,bb,bs,_,_,_,hD,k1⟩,hg⟩,hm⟩
theorem yb.put(h:yb w D p now M)(h1 : ∀ y∈M,y.slot≠x.slot)(h2 : ∀ y∈M,y.birth≠x.birth)(hr:x.slot<4194304∧(now<x.dl∨x.dl=18446744073709551615)∧x.dl≤18446744073709551615∧0<x.birth∧x.birth≤18446744073709551615) :
  Calls prog 164 #[lkP p,tdV x] w fun e w'=>e=.returned (.tuple #[])∧(∃ D',yb w' D' p now (xW M x)∧yi D D' w)∧Mod D w w':=by
 obtain⟨q,bb,bs,Dc,Db,Ds,k1,k2⟩:=h;obtain⟨r1,r2,r3,r4,r5⟩:=hr;have hc:=k2.count;have e1:=zeR (x:=x) k2.ord h2;have hMl:M.length<maxLen:=by unfold maxLen;omega
 by_cases hd:x.dl=18446744073709551615
 ·rw[zk hd]at e1;refine(zj8 k1 r1 hd r5 h1 h2 hMl).mono ?_;rintro e w' ⟨rfl,⟨Db',Ds',hD⟩,hm⟩;exact⟨rfl,⟨D,⟨q,bb,bs,_,_,_,by rw[e1];exact hD.perm qr.symm,k2.put h1 h2 ⟨r1,r2,r3,r4,r5⟩⟩,yi.refl _ _⟩,hm⟩
 ·rw[zh hd]at e1;have hsc:jH now (yl M) x=0:=by
   have a1:kL now x=0:=by
    unfold kL atE;rw[zk r1,zh (by omega),zk r1];rw[zh (by omega),zh (by omega)]
   have a2:(xO (yl M) x.slot||Yx (yl M) x.birth)=false:=by
    rw[Bool.or_eq_false_iff];constructor
    ·cases hh:xO (yl M) x.slot with
     | false=>rfl
     | true=>obtain⟨y,hy,e⟩:=uH.1 hh;exact absurd e (h1 y (Z9.1 hy).1)
    ·cases hh:Yx (yl M) x.birth with
     | false=>rfl
     | true=>obtain⟨y,hy,e⟩:=Kx.1 hh;exact absurd e (h2 y (Z9.1 hy).1)
   unfold jH;rw[zk a1,a2]
   rfl
  have hl:Yq now (yl M) x=xW (yl M) x:=by unfold Yq;rw[zk hsc]
  refine(zmg k1 r1 (by omega) r5 h1 h2 hMl (by have:=(qg (p:=fun x:Td=>decide (x.dl≠18446744073709551615)) (l:=M)).length_le;unfold yl;unfold maxLen;omega)).mono ?_;rintro e w' ⟨rfl,⟨D',Dc',Db',Ds',hD,hg⟩,hm⟩;rw[hl]at hD;exact⟨rfl,⟨D',⟨q,bb,bs,_,_,_,by rw[e1];exact hD.perm qr.symm,k2.put h1 h2 ⟨r1,r2,r3,r4,r5⟩⟩,hg⟩,hm⟩
end
section
variable{w w':World}{D:Nat→Prop}{p now q bb bs:Nat}{Dc:Nat→Prop}{Db Ds:DataW Unit}{M M' L:List Td}{x:Td}
theorem Mod.of_pure'{S:Nat→Prop}(h:zb w w'):Mod S w w':=h.mono (fun _ _ h=>h.elim)
theorem yb.remove(h:yb w D p now M){s:Nat}(h32:s≤4294967295) :
  Calls prog 167 #[lkP p,.int .u32 s] w fun e w'=>e=.returned (.int .i64 (getTd M s).2)∧(∃ D',yb w' D' p now (vB M s)∧yi D D' w)∧Mod D w w':=by
 have h':=h;obtain⟨q,bb,bs,Dc,Db,Ds,h1,h2⟩:=h;have HC:=za (XE h1 h32);obtain⟨c0,c1,c2⟩:=h1.cells;by_cases hs:s<4194304
 ·rw[zk hs]at HC;rcases VF M s with⟨_,hh,x,e1,rfl,_,e3,e4⟩ | ⟨hno,er,e1,e2⟩
  ·have hx:x∈M:=e4.mem_iff.2 ym;have hlk:=h1.slots.look hx (by omega);unfold vB;rw[e1];dsimp only;rw[zk rfl];unfold tdV at hlk;have hal:zb w (w.alloc (.cells #[.int .u32 x.slot,.int .u64 x.dl,.int .u64 x.birth] 226)):=(Mod.refl _ w).alloc _;have h8:=zi (w:=w) (o := .cells #[.int .u32 x.slot,.int .u64 x.dl,.int .u64 x.birth] 226 (0,0)) rfl;have hdr:=fun W (hW:zb (w.alloc (.cells #[.int .u32 x.slot,.int .u64 x.dl,.int .u64 x.birth] 226)) W)=>((h'.pure hal).pure hW).drop e4 (ZH h2.ord)
   unfold tdV at hdr;have HDr:=za hdr;have HAL:=za hal;have H8:=za h8;clear h' h1 h2 hx e1 e3 e4 h32 hs hal h8 hdr c0 c1;go_enter func167,ntmps167;go_upto_region 7 with(go_at_call 152;refine HC.out.mono ?_;rintro e w' ⟨rfl,rfl⟩)
   have h8:=H8.out;generalize w.alloc (.cells #[.int .u32 x.slot,.int .u64 x.dl,.int .u64 x.birth] 226)=W1 at *;generalize w.heap.size=b8 at *;clear c2 hlk;obtain⟨h8_0,h8_1,h8_2,h8_f,h8_l,H_h8⟩:=cr3 h8;clear h8;go_upto_region 8 with(go_at_call 163;refine zm (HDr.out _ (by first | exact Mod.refl _ _ | exact(Mod.refl _ _).drew)) ?_;rintro e w2 ⟨rfl,⟨D',hD,hg⟩,hm⟩)
   have hm0:Mod D w w2:=(Mod.of_pure' HAL.out:Mod D w W1).trans (by first | exact hm | exact Mod.of_drew hm);have hg0:yi D D' w:=fun k hk=>by
    rcases hg k hk with e | e
    ·exact .inl e
    ·have e':W1.heap.size≤k:=e;exact .inr (zH HAL.out.size e')
   have HD:=za hD;have HM0:=za hm0;have HG0:=za hg0;clear hm hg hD hm0 hg0;go_wp2;exact zK (v := .int .i64 0) (by simp[results,results167,go_sem]) rfl ⟨rfl,⟨D',HD.out,HG0.out⟩,HM0.out⟩
  ·have hh:xO M s=false:=by
    rcases hno with e | e
    ·exact absurd hs e
    ·exact e
   have hlk:=h1.slots.look_no (s:=s) (by omega) (fun y hy e=>by rw[uH.2 ⟨y,hy,e⟩]at hh;cases hh);unfold vB;rw[Y3 hs (Vp hh)];dsimp only;rw[zh (by decide)];unfold tdV at hlk;have HAL:Hid (zb w (w.alloc (.cells #[.int .u32 0,.int .u64 0,.int .u64 0] 226))):=za ((Mod.refl _ w).alloc _);have HF:=za h';clear h' h1 h2 hno e1 e2 hh h32 hs c0 c1;go_enter func167,ntmps167
   go_wp2_with (go_at_call 152;refine HC.out.mono ?_;rintro e w' ⟨rfl,rfl⟩)
   have hal:=HAL.out;refine zK (v := .int .i64 9) (by simp[results,results167,go_sem]) rfl ⟨rfl,⟨D,HF.out.pure hal,yi.refl _ _⟩,Mod.of_pure' hal⟩
 ·rw[zh hs]at HC;unfold vB;rw[Ut hs];dsimp only;rw[zh (by decide)];have HF:=za h';clear h' h1 h2 h32 hs c0 c1 c2;go_enter func167,ntmps167
  go_wp2_with (go_at_call 152;refine HC.out.mono ?_;rintro e w' ⟨rfl,rfl⟩)
  refine zK (v := .int .i64 2) (by simp[results,results167,go_sem]) rfl ⟨rfl,⟨D,HF.out,yi.refl _ _⟩,Mod.refl _ _⟩
end
section
variable{w w':World}{D:Nat→Prop}{p now q bb bs:Nat}{Dc:Nat→Prop}{Db Ds:DataW Unit}{M M' L:List Td}{x:Td}
theorem Az1g7 {P:Prop}(h:P:=by
 have HF:=za hfin;have HM:=za hm0;have HG:=za hg0;clear hfin hm0 hg0;go_wp2;exact zK (v := .int .i64 0) (by simp[results,results80,go_sem]) rfl ⟨rfl,⟨_,HF.out,HG.out⟩,HM.out⟩):P:=h
theorem Azxfd {P:Prop}(h:P:=by
 rcases hv with hd | ⟨hd,hn⟩
 · exact .inl (by simp;omega)
 · exact .inr ⟨by simp;omega,zQ (by omega),zQ (by omega)⟩):P:=h
theorem zlt(h:yb w D p now M){s dl b:Nat}(hs:s<4194304)(hb0:b≠0)(hb:b≤18446744073709551615)(hd:dl≤18446744073709551615)(hv:dl=18446744073709551615∨(dl≠18446744073709551615∧now<dl))(hc : ∀ z∈M,z.slot≠s)(hc2 : ∀ y∈M,y.birth≠b) :
    Calls prog 80 #[lkP p,.int .u32 s,.int .u64 dl,.int .u64 b] w fun e w'=>e=.returned (.int .i64 0)∧(∃ D',yb w' D' p now (xW (jx M s) ⟨s,dl,b⟩)∧yi D D' w)∧Mod D w w':=by
  have h':=h;obtain⟨q,bb,bs,Dc,Db,Ds,h1,h2⟩:=h;have HC:=za (XE h1 (by omega:s≤4294967295));rw[zk hs]at HC;have h32:s≤4294967295:=by omega
  have hr:now<dl∨dl=18446744073709551615:=by omega
  have e0:((b:Int)==0)=false:=by simp;omega
  have hv2:((dl:Int) != 18446744073709551615)=false∨(((dl:Int) != 18446744073709551615)=true∧decide ((dl:Int)≤(now:Int))=false∧decide (dl≤now)=false):=by
    exact Azxfd
  have hls:=h1.slots.look_no (s:=s) h32 hc;have hlb:=((h1.pure ((Mod.refl _ w).alloc (.cells #[.int .u32 0,.int .u64 0,.int .u64 0] 226):zb w _)).births).look_no hb hc2;unfold tdV at hls;have hnb:xO M s=false:=by
    cases hh:xO M s with
    | false=>rfl
    | true=>obtain⟨y,hy,e⟩:=uH.1 hh;exact absurd e (hc y hy)
  rw[show jx M s=M by unfold jx;rw[hnb];rfl];have hal:zb w (w.alloc (.cells #[.int .u32 0,.int .u64 0,.int .u64 0] 226)):=(Mod.refl _ w).alloc _;have h8:=zi (w:=w) (o := .cells #[.int .u32 0,.int .u64 0,.int .u64 0] 226 (0,0)) rfl;have HCas:=za (fun W (hW:zb (w.alloc (.cells #[.int .u32 0,.int .u64 0,.int .u64 0] 226)) W)=>((h1.pure hal).pure hW).cas.now_);have HN:=za (fun W (hW:zb (w.alloc (.cells #[.int .u32 0,.int .u64 0,.int .u64 0] 226)) W)=>Kl ((h1.pure hal).pure hW));obtain⟨c0,c1,c2⟩:=h1.cells;obtain⟨a0,a1,a2⟩:=(h1.pure hal).cells;have HAL:=za hal;have H8:=za h8;have hpu:=fun W (hW:zb (w.alloc (.cells #[.int .u32 0,.int .u64 0,.int .u64 0] 226)) W)=>((h'.pure hal).pure hW).put (x:=⟨s,dl,b⟩) hc hc2 ⟨hs,hr,by show dl≤_;omega,by show 0<b;omega,hb⟩
  unfold tdV at hpu;have HPu:=za hpu;clear hpu hc hc2 hnb;clear hb0 hb hd hv hr;clear h' h1 h2 hal h8 h32 hs;rcases hv2 with e1 | ⟨e1,e2,e2n⟩
  all_goals
    go_enter func80,ntmps80;go_upto_region 5 with(go_at_call 152;refine HC.out.mono ?_;rintro e w' ⟨rfl,rfl⟩)
    have h8:=H8.out;generalize w.alloc (.cells #[.int .u32 0,.int .u64 0,.int .u64 0] 226)=W1 at *;generalize w.heap.size=b8 at *;clear c0 c1 c2 hls;obtain⟨h8_0,h8_1,h8_2,h8_f,h8_l,H_h8⟩:=cr3 h8;clear h8;have HN2:=za (fun W (hW:zb W1 W)=>HCas.out W hW);go_upto_region 15 with(first
      | (go_at_call 153;refine(HN2.out _ (Mod.refl _ _)).mono ?_;rintro e w' ⟨rfl,rfl⟩)
      | (go_at_call 164;refine zm (HPu.out _ (by first | exact Mod.refl _ _ | exact(Mod.refl _ _).drew)) ?_;rintro e w2 ⟨rfl,⟨D',hfin,hg⟩,hm⟩))
    have hm0:Mod D w w2:=(Mod.of_pure' HAL.out:Mod D w W1).trans (by first | exact hm | exact Mod.of_drew hm);have hg0:yi D D' w:=fun k hk=>by
      rcases hg k hk with e | e
      · exact .inl e
      · have e':W1.heap.size≤k:=e
        exact .inr (zH HAL.out.size e')
    clear hm hg;exact Az1g7
theorem zkP(h:yb w D p now M){s dl b:Nat}(hs:s<4194304)(hb0:b≠0)(hb:b≤18446744073709551615)(hd:dl≤18446744073709551615)(hv:dl=18446744073709551615∨(dl≠18446744073709551615∧now<dl))(hc : ∃ z∈M,z.slot=s∧z.birth=b) :
    Calls prog 80 #[lkP p,.int .u32 s,.int .u64 dl,.int .u64 b] w fun e w'=>e=.returned (.int .i64 0)∧(∃ D',yb w' D' p now (xW (jx M s) ⟨s,dl,b⟩)∧yi D D' w)∧Mod D w w':=by
  have h':=h;obtain⟨q,bb,bs,Dc,Db,Ds,h1,h2⟩:=h;have HC:=za (XE h1 (by omega:s≤4294967295));rw[zk hs]at HC;have h32:s≤4294967295:=by omega
  have hr:now<dl∨dl=18446744073709551615:=by omega
  have e0:((b:Int)==0)=false:=by simp;omega
  have hv2:((dl:Int) != 18446744073709551615)=false∨(((dl:Int) != 18446744073709551615)=true∧decide ((dl:Int)≤(now:Int))=false∧decide (dl≤now)=false):=by
    exact Azxfd
  obtain⟨z,hz,hzs,hzb⟩:=hc;subst hzs hzb;have hls:=h1.slots.look hz h32;have hlb:=((h1.pure ((Mod.refl _ w).alloc (.cells #[.int .u32 z.slot,.int .u64 z.dl,.int .u64 z.birth] 226):zb w _)).births).look hz hb;unfold tdV at hls;have hh:xO M z.slot=true:=uH.2 ⟨z,hz,rfl⟩;obtain⟨z',k1,k2,k3,k4⟩:=Ul (VM.2 hh);have hzz:z'=z:=h2.slots z' (yd k1) z hz k2;rw[hzz]at k4;obtain⟨_,n1,n2,_⟩:=h2.out k4 (ZH h2.ord);have hso:(Zd M z.slot).Pairwise bef:=ZH h2.ord;rw[show jx M z.slot=Zd M z.slot by unfold jx;rw[hh];rfl];have hal:zb w (w.alloc (.cells #[.int .u32 z.slot,.int .u64 z.dl,.int .u64 z.birth] 226)):=(Mod.refl _ w).alloc _;have h8:=zi (w:=w) (o := .cells #[.int .u32 z.slot,.int .u64 z.dl,.int .u64 z.birth] 226 (0,0)) rfl;have HCas:=za (fun W (hW:zb (w.alloc (.cells #[.int .u32 z.slot,.int .u64 z.dl,.int .u64 z.birth] 226)) W)=>((h1.pure hal).pure hW).cas.now_);have HN:=za (fun W (hW:zb (w.alloc (.cells #[.int .u32 z.slot,.int .u64 z.dl,.int .u64 z.birth] 226)) W)=>Kl ((h1.pure hal).pure hW));obtain⟨c0,c1,c2⟩:=h1.cells;obtain⟨a0,a1,a2⟩:=(h1.pure hal).cells;have HAL:=za hal;have H8:=za h8;have hdr:=fun W (hW:zb (w.alloc (.cells #[.int .u32 z.slot,.int .u64 z.dl,.int .u64 z.birth] 226)) W)=>((h'.pure hal).pure hW).drop k4 hso
  have hpu:=fun W D1 (hD:yb W D1 p now (Zd M z.slot))=>hD.put (x:=⟨z.slot,dl,z.birth⟩) (fun y hy=>((n1 y).1 hy).2) (fun y hy=>((n2 y).1 hy).2) ⟨hs,hr,by show dl≤_;omega,by show 0<z.birth;omega,hb⟩
  unfold tdV at hpu hdr;have HPu:=za hpu;have HDr:=za hdr;clear hpu hdr hz hh k1 k2 k3 k4 hzz n1 n2 hso;clear hb0 hb hd hv hr;clear h' h1 h2 hal h8 h32 hs;rcases hv2 with e1 | ⟨e1,e2,e2n⟩
  all_goals
    go_enter func80,ntmps80;go_upto_region 5 with(go_at_call 152;refine HC.out.mono ?_;rintro e w' ⟨rfl,rfl⟩)
    have h8:=H8.out;generalize w.alloc (.cells #[.int .u32 z.slot,.int .u64 z.dl,.int .u64 z.birth] 226)=W1 at *;generalize w.heap.size=b8 at *;clear c0 c1 c2 hls;obtain⟨h8_0,h8_1,h8_2,h8_f,h8_l,H_h8⟩:=cr3 h8;clear h8;have HN2:=za (fun W (hW:zb W1 W)=>HCas.out W hW);go_upto_region 14 with(first
      | (go_at_call 153;refine(HN2.out _ (Mod.refl _ _)).mono ?_;rintro e w' ⟨rfl,rfl⟩)
      | (go_at_call 163;refine zm (HDr.out _ (by first | exact Mod.refl _ _ | exact(Mod.refl _ _).drew)) ?_;rintro e w2 ⟨rfl,⟨D1,hD1,hg1⟩,hm1⟩))
    have hm1':Mod D w w2:=(Mod.of_pure' HAL.out:Mod D w W1).trans (by first | exact hm1 | exact Mod.of_drew hm1);have hg1':yi D D1 w:=fun k hk=>by
      rcases hg1 k hk with e | e
      · exact .inl e
      · have e':W1.heap.size≤k:=e
        exact .inr (zH HAL.out.size e')
    have HD1:=za hD1;have HM1:=za hm1';have HG1:=za hg1';have HPv:=za (fun W (hW:zb w2 W)=>HPu.out W D1 (hD1.pure hW));clear hD1 hm1 hg1 hm1' hg1';go_upto_region 15 with(go_at_call 164;refine zm (HPv.out _ (by first | exact Mod.refl _ _ | exact(Mod.refl _ _).drew)) ?_;rintro e w3 ⟨rfl,⟨D',hfin,hg⟩,hm⟩)
    have hsz:=HM1.out.size;have hm0:Mod D w w3:=HM1.out.trans' (by first | exact hm | exact Mod.of_drew hm) (fun _ _ h=>h) (fun k hk h=>by
      rcases HG1.out k h with e | e
      · exact e
      · omega)
    have hg0:yi D D' w:=fun k hk=>by
      rcases hg k hk with e | e
      · exact HG1.out k e
      · have e':w2.heap.size≤k:=e
        exact .inr (zH hsz e')
    clear hm hg hsz;exact Az1g7
theorem yb.set(h:yb w D p now M){s dl b:Nat}(h32:s≤4294967295)(hd:dl≤18446744073709551615)(hb:b≤18446744073709551615)(h0:kq now M s dl b=0) :
  Calls prog 80 #[lkP p,.int .u32 s,.int .u64 dl,.int .u64 b] w fun e w'=>e=.returned (.int .i64 (kq now M s dl b))∧(∃ D',yb w' D' p now (u9 now M s dl b)∧yi D D' w)∧Mod D w w':=by
 have hs:s<4194304∧b≠0:=Classical.byContradiction (fun c=>by unfold kq at h0;rw[zh c]at h0;exact absurd h0 (by decide));have hr : ¬ (dl≤now∧dl≠18446744073709551615):=fun c=>by unfold kq at h0;rw[zk hs,zk c]at h0;exact absurd h0 (by decide)
 have hy : ¬ j9 M s b=true:=fun c=>by unfold kq at h0;rw[zk hs,zh hr,zk c]at h0;exact absurd h0 (by decide)
 unfold u9;rw[h0,zk rfl];have hnb : ∀ y∈M,(y.slot=s↔y.birth=b):=fun y hy1=>by
  refine⟨fun e => ?_,fun e => ?_⟩
  ·apply Classical.byContradiction;intro e2;exact hy (XG.2 ⟨y,hy1,.inl ⟨e,e2⟩⟩)
  ·apply Classical.byContradiction;intro e2;exact hy (XG.2 ⟨y,hy1,.inr ⟨e2,e⟩⟩)
 by_cases c : ∃ z∈M,z.slot=s
 ·obtain⟨z,hz,e⟩:=c;exact zkP h hs.1 hs.2 hb hd (by omega) ⟨z,hz,e,(hnb z hz).1 e⟩
 ·exact zlt h hs.1 hs.2 hb hd (by omega) (fun z hz e=>c ⟨z,hz,e⟩) (fun z hz e=>c ⟨z,hz,(hnb z hz).2 e⟩)
end
theorem zlI(a b:Nat)(w:World):Calls prog 148 #[.int .u64 a,.int .u64 b] w fun e w'=>e=.returned (.int .u64 (max a b:Nat))∧w=w':=by
 by_cases h:a≤b
 ·rw[Nat.max_eq_right h];have e1:max (a:Int) (b:Int)=(b:Int):=by omega
  go_enter func148,ntmps148
  go_wp2_with fail
  all_goals
   refine zK (v := .int .u64 b) ?_ rfl ⟨rfl,rfl⟩;simp[results,results148,go_sem]
   try omega
 ·rw[Nat.max_eq_left (by omega)];have e1:max (a:Int) (b:Int)=(a:Int):=by omega
  go_enter func148,ntmps148
  go_wp2_with fail
  all_goals
   refine zK (v := .int .u64 a) ?_ rfl ⟨rfl,rfl⟩;simp[results,results148,go_sem]
   try omega
section
variable{w w':World}{D:Nat→Prop}{p now q bb bs:Nat}{Dc:Nat→Prop}{Db Ds:DataW Unit}{M M' L:List Td}{x:Td}
structure ExI(w wr:World)(D:Nat→Prop)(p tt:Nat)(q bb bs:Nat)(E R:List Td)(a:Option Addr)(c:Nat)(D':Nat→Prop)(j:Nat):Prop where
 mem : ∃ Dc Db Ds,yM wr D' p tt q bb bs Dc Db Ds (E.drop j++R) (yl R)
 grew:yi D D' w
 row:qj wr a c E
 off : ∀ g,(Value.slice a E.length c).ownBlock=some g → ¬ D' g∧w.heap.size≤g
 mod:Mod D w wr
theorem yb.expire(h:yb w D p now M)(hT:xy w)(h0 : ¬ D 0){t0:Nat}(ht0:t0≤18446744073709551615) :
  Calls prog 169 #[lkP p,.int .u64 t0] w fun e w' => ∃ a c,e=.returned (.slice a (ud (max now t0) M).length c)∧qj w' a c (ud (max now t0) M) ∧
   (∃ D',yb w' D' p (max now t0) (jq (max now t0) M)∧yi D D' w ∧ ∀ g,(Value.slice a (ud (max now t0) M).length c).ownBlock=some g → ¬ D' g∧w.heap.size≤g)∧Mod D w w':=by
 have hnow:=h.now64;obtain⟨q,bb,bs,Dc,Db,Ds,h1,h2⟩:=h;obtain⟨tt,htt⟩:=zc (max now t0);have hEf:=fun W=>zlI now t0 W
 rw[htt]at hEf ⊢;have hnt:now≤tt:=by omega
 have ht:tt≤18446744073709551615:=by omega
 obtain⟨k1,k2,k3,k4⟩:=h2.exp hnt ht;have HCk:=za (Qi h1);obtain⟨c0,c1,c2⟩:=h1.cells;have hD1:zb w w.drew:=(Mod.refl _ w).drew;have HNw:=za ((h1.pure hD1).cas.now_);have hAd:=(h1.pure hD1).cas.advAny hT (fun e=>h0 ((h1.dd 0).2 (.inr (.inr (.inr e))))) (by omega:tt<18446744073709551616);rw[k1,k2,k3]at hAd;have HAd:=za hAd;have HEf:=za hEf;have hsp:ud tt M++jq tt M=M:=List.takeWhile_append_dropWhile;obtain⟨E,hE⟩:=zc (ud tt M);obtain⟨R,hR⟩:=zc (jq tt M);rw[hE,hR]at hsp;rw[hR]at k4;rw[hE,hR]at HAd;rw[hE,hR];have hcnt:E.length≤4194304:=by have:=h2.count;rw[← hsp,zR]at this;omega
 have HC:=za h1;have HL:=za h2;have HR:=za k4;have HSp:=za hsp;clear h1 h2 k1 k2 k3 k4 hAd hEf hE hR hT hnow ht0 hnt ht hsp c1 c2 htt;go_enter func169,ntmps169;go_upto_region 3 with(go_at_call 152;refine HCk.out.mono ?_;rintro e w' ⟨rfl,rfl⟩)
 refine rHd (S:=fun u=>u.cell? ⟨p,0,none⟩=some (lkP q)) c0 (fun h_ => ?_);refine hTk 0 ?_;refine hTk 1 ?_;refine hTk 2 ?_;refine hLd 3 ?_;refine hTk 4 ?_;refine hTk 5 ?_;refine hTk 6 ?_;refine hLd 7 ?_;refine hTk 9 ?_;have d0:w.drew.cell? ⟨p,0,none⟩=some (lkP q):=c0
 (refine hSt 8 (fun K hK => ?_);go_simp;refine HNw.out.mono ?_;rintro e w2 ⟨rfl,rfl⟩;refine hK.out _ _ ?_ (fun h_ => ?_);(· exact d0);clear hK K;refine clA ?_)
 (refine hSt 10 (fun K hK => ?_);go_simp;refine(HEf.out _).mono ?_;rintro e w2 ⟨rfl,rfl⟩;refine hK.out _ _ ?_ (fun h_ => ?_);(· exact d0);clear hK K;refine clA ?_)
 (refine hSt 11 (fun K hK => ?_);go_simp;refine HAd.out.mono ?_;rintro e w2 ⟨a,c,rfl,hrow,⟨Dc2,hc2,hg2,hoff⟩,hm2⟩;refine hK.out _ _ ?_ (fun h_ => ?_);(· exact(hm2.cell (a:=⟨p,0,none⟩) HC.out.np d0));clear hK K;refine clA ?_)
 refine hTk 12 ?_;refine hTk 13 ?_;refine hTk 14 ?_;refine hTk 15 ?_;refine hTk 16 ?_;refine hDn ?_;clear h_;have hm2':Mod Dc w w2:=Mod.of_drew hm2;have hg2':yi Dc Dc2 w:=hg2;obtain⟨D2,hD2,hgD⟩:=HC.out.cascade hc2 hg2' hm2';have hlt:=fun k (hk:D k)=>HC.out.lt hk
 have hoff2 : ∀ g,(Value.slice a E.length c).ownBlock=some g → ¬ D2 g∧w.heap.size≤g:=fun g hg=>by
  obtain⟨o1,o2⟩:=hoff g hg;have o2':w.heap.size≤g:=o2;refine⟨fun k => ?_,o2'⟩;rcases(hD2.dd g).1 k with e | e | e | e
  ·have:=hlt p ((HC.out.dd p).2 (.inl rfl));omega
  ·have:=hlt bb ((HC.out.dd bb).2 (.inr (.inl rfl)));omega
  ·have:=hlt bs ((HC.out.dd bs).2 (.inr (.inr (.inl rfl))));omega
  ·exact o1 e
 have hI:ExI w w2 D p tt q bb bs E R a c D2 0:=⟨⟨_,_,_,by rw[List.drop_zero,HSp.out];exact hD2⟩,hgD,hrow,hoff2,hm2'.mono (fun k _ hk=>(HC.out.dd k).2 (.inr (.inr (.inr hk))))⟩;have HI0:=za hI;clear hrow hc2 hg2 hoff hm2 hm2' hg2' hD2 hgD hoff2 hI d0 c0 HAd HEf HNw hlt;obtain⟨n,hn⟩:=zc E.length;rw[hn]at hcnt ⊢;have HN:=za hn;clear hn;go_upto_region 5 with fail
 go_loopw [29] (fun v29 wr => ∃(j:Nat) (D':Nat→Prop),v29=.int .i64 (j:Nat)∧j≤n∧ExI w wr D p tt q bb bs E R a c D' j) (fun v29 _=>n-(intOf v29).toNat)
 case atStart=>exact⟨0,D2,rfl,yh _,HI0.out⟩
 case round =>
  obtain⟨j,D',rfl,hjn,hI⟩:=hrel;have HI:=za hI;obtain⟨Dc',Db',Ds',hM⟩:=hI.mem;by_cases hlt2:j<n
  ·have hlt':(j:Int)<(n:Int):=by omega
   have j0':(0:Int)≤(j:Int):=by omega
   have wj:IntKind.i64.wrap ((j:Int)+1)=(j:Int)+1:=zt _ (by omega);obtain⟨x,hx⟩ : ∃ x,E[j]? = some x:=⟨_,zN (by rw[HN.out];exact hlt2)⟩;have hdr:E.drop j=x::E.drop (j+1):=by
    have hjl:j<E.length:=by rw[HN.out];exact hlt2
    rw[kU hjl];rw[zN hjl]at hx;injection hx with hx
    rw[hx]
   rw[hdr]at hM;obtain⟨ad0,had,z0,z1,z2⟩:=QU hI.row.rd hx;have hsub:(x::E.drop (j+1)++R).Sublist M:=by
    rw[← HSp.out,← hdr];exact List.Sublist.append_right (List.drop_sublist _ _) _
   have hxM:x∈M:=hsub.subset (by simp);have hLs:yN now (x::E.drop (j+1)++R):=⟨HL.out.ord.sublist hsub,fun a ha b hb=>HL.out.slots a (hsub.subset ha) b (hsub.subset hb),fun a ha b hb=>HL.out.births a (hsub.subset ha) b (hsub.subset hb),fun a ha=>HL.out.rng a (hsub.subset ha)⟩;obtain⟨_,n1,n2,n3⟩:=hLs.out (x:=x) (M':=E.drop (j+1)++R) (List.Perm.refl _) (ko.1 hLs.ord).2;obtain⟨r1,r2,r3,r4,r5⟩:=HL.out.rng x hxM;have hcan:vB (yl R) x.slot=yl R:=by
    have hb:xO (yl R) x.slot=false:=by
     cases hh:xO (yl R) x.slot with
     | false=>rfl
     | true =>
      obtain⟨y,hy,e⟩:=uH.1 hh;exact absurd e ((n1 y).1 (xC _ (Z9.1 hy).1)).2
    unfold vB;rw[Y3 r1 (Vp hb)];dsimp only;rw[zh (by decide)]
   have hal:zb wr (wr.alloc (.cells #[.int .u32 x.slot,.int .u64 x.dl,.int .u64 x.birth] 226)):=(Mod.refl _ wr).alloc _;have h8:=zi (w:=wr) (o := .cells #[.int .u32 x.slot,.int .u64 x.dl,.int .u64 x.birth] 226 (0,0)) rfl;have hdp:=fun W (hW:zb (wr.alloc (.cells #[.int .u32 x.slot,.int .u64 x.dl,.int .u64 x.birth] 226)) W)=>zcq ((hM.pure hal).pure hW) (x:=x) (M':=E.drop (j+1)++R) (by simp) (by omega) r5 n1 n2 n3
   rw[hcan]at hdp;unfold tdV at hdp;subst had;have HDp:=za hdp;have HAL:=za hal;clear hM hI hdr hsub hxM hLs n1 n2 n3 hcan hdp hal hx;go_upto_region 7 with fail
   generalize wr.alloc (.cells #[.int .u32 x.slot,.int .u64 x.dl,.int .u64 x.birth] 226)=W3 at *;obtain⟨b8,hb8⟩:=zc wr.heap.size;rw[hb8]at h8 ⊢;have HB8:=za hb8;clear hb8 z0 z1 z2;obtain⟨h8_0,h8_1,h8_2,h8_f,h8_l,H_h8⟩:=cr3 h8;clear h8;go_upto_region 8 with(go_at_call 163;refine zm (HDp.out _ (by first | exact Mod.refl _ _ | exact(Mod.refl _ _).drew)) ?_;rintro e w5 ⟨rfl,⟨D3,Dc3,Db3,Ds3,hM3,hg3⟩,hm3⟩)
   have hm5:Mod D' wr w5:=(Mod.of_pure' HAL.out).trans (by first | exact hm3 | exact Mod.of_drew hm3);have hsw:=HI.out.mod.size;have hg5 : ∀ k,D3 k→D' k∨wr.heap.size≤k:=fun k hk=>by
    rcases hg3 k hk with e | e
    ·exact .inl e
    ·have e':W3.heap.size≤k:=e;exact .inr (zH HAL.out.size e')
   have hrl : ∀ g,(Value.slice (some ad0) E.length c).ownBlock=some g→g<wr.heap.size:=fun g hg=>vh HI.out.row hg
   have hI5:ExI w w5 D p tt q bb bs E R (some ad0) c D3 (j+1):=⟨⟨_,_,_,hM3⟩,fun k hk=>(by
     rcases hg5 k hk with e | e
     ·exact HI.out.grew k e
     ·exact .inr (zH hsw e)),zy HI.out.row hm5 (fun g hg=>(HI.out.off g hg).1),fun g hg=>⟨fun hk=>(by
     rcases hg5 g hk with e | e
     ·exact(HI.out.off g hg).1 e
     ·have:=hrl g hg;omega),(HI.out.off g hg).2⟩,HI.out.mod.trans' hm5 (fun _ _ h=>h) (fun k hk h=>(by
     rcases HI.out.grew k h with e | e
     ·exact e
     ·omega))⟩
   have HI5:=za hI5;clear hm3 hg3 hM3 hm5 hg5 hsw hrl hI5;go_wp2;go_roundw
   case rel=>exact⟨j+1,D3,by go_num,hlt2,HI5.out⟩
   case measure=>simp[intOf];omega
  ·have e:j=n:=by omega
   subst e;have hd0:E.drop j=[]:=ZP (by rw[HN.out];exact zG _);rw[hd0,YM]at hM;have hF:yb wr D' p tt R:=⟨_,_,_,_,_,_,hM,HR.out⟩;have HF:=za hF;clear hM hI hd0 hF;go_wp2;refine zK (v := .slice a j c) (by simp[results,results169,go_sem]) rfl ⟨a,c,by rw[HN.out],HI.out.row,⟨D',HF.out,HI.out.grew,fun g hg=>HI.out.off g hg⟩,HI.out.mod⟩
end
section
variable{w w':World}{D:Nat→Prop}{p now q bb bs:Nat}{Dc:Nat→Prop}{Db Ds:DataW Unit}{M M' L acc:List Td}{x:Td}{tv:List Nat}
def QC(tv:List Nat)(M:List Td):Int:=if (Yi tv [] M).isSome then 0 else 2
def zaw(tv:List Nat)(M:List Td):List Td:=(Yi tv [] M).getD M
structure RnP(now:Nat)(M:List Td)(tv:List Nat)(acc:List Td)(j:Nat):Prop where
 key:uk acc=uk (M.take j)
 law:yN now acc
 rest:Yi tv [] M=Yi tv acc (M.drop j)
theorem RnP.start(h:yN now M):RnP now M tv [] 0:=⟨rfl,yN.nil _,rfl⟩
theorem zaY(A B:List Td):uk (A++B)=uk A++uk B:=by unfold uk;simp
theorem RnP.next{j t:Nat}(h:RnP now M tv acc j)(hM:yN now M)(hx:M[j]? = some x)(ht:tv[x.slot]? = some t)(h4:t<4194304)(hb:xO acc t=false) :
  RnP now M tv (acc++[⟨t,x.dl,x.birth⟩]) (j+1)∧xW acc ⟨t,x.dl,x.birth⟩=acc++[⟨t,x.dl,x.birth⟩]∧(∀ y∈acc,y.slot≠t)∧(∀ y∈acc,y.birth≠x.birth)∧yN now (acc++[⟨t,x.dl,x.birth⟩]):=by
 have hj:j<M.length:=(zF.1 hx).1;have hxe:M[j]=x:=(zF.1 hx).2;have htk:M.take (j+1)=M.take j++[x]:=by rw[List.take_succ_eq_append_getElem hj,hxe]
 have hdr:M.drop j=x::M.drop (j+1):=by rw[kU hj,hxe]
 have hk:uk (acc++[⟨t,x.dl,x.birth⟩])=uk (M.take (j+1)):=by rw[htk,zaY,zaY,h.key];rfl
 have hs:=ziM hk.symm (hM.ord.sublist (List.take_sublist _ _));have n1 : ∀ y∈acc,y.slot≠t:=fun y hy e=>by rw[uH.2 ⟨y,hy,e⟩]at hb;cases hb
 have n2 : ∀ y∈acc,y.birth≠x.birth:=fun y hy e=>by
  have h1:=(j5.1 hs).2.2 y hy ⟨t,x.dl,x.birth⟩ (by simp);obtain⟨z,hz,e1,e2⟩:=zgC h.key.symm hy;have hzM:=(List.take_sublist _ _).subset hz;have hzx:z=x:=hM.births z hzM x (yd hx) (by rw[e2,e]);unfold bef at h1;rw[← e1,hzx]at h1;simp at h1;omega
 obtain⟨r1,r2,r3,r4,r5⟩:=hM.rng x (yd hx);have hp:=h.law.put (x:=⟨t,x.dl,x.birth⟩) n1 n2 ⟨h4,r2,r3,r4,r5⟩;have hpe:xW acc ⟨t,x.dl,x.birth⟩=acc++[⟨t,x.dl,x.birth⟩]:=ZR hp.ord hs (qr.trans (Qc _ _).symm);refine⟨⟨hk,by rw[← hpe];exact hp,?_⟩,hpe,n1,n2,by rw[← hpe];exact hp⟩;rw[h.rest,hdr]
 conv=>lhs;unfold Yi
 rw[ht];simp only;rw[zk ⟨h4,hb⟩]
theorem RnP.fin(h:RnP now M tv acc M.length):QC tv M=0∧zaw tv M=acc:=by
 have:Yi tv [] M=some acc:=by
  rw[h.rest,List.drop_length]
  rfl
 unfold QC zaw;rw[this];exact⟨rfl,rfl⟩
theorem yb.over{D2:Nat→Prop}{p2:Nat}(h:yb w D p now M)(h2:yb w D2 p2 now M')(hd : ∀ k,D k → ¬ D2 k) :
  ∃ q2 b2 s2,(w.cell? ⟨p2,0,none⟩=some (lkP q2)∧w.cell? ⟨p2,1,none⟩=some (.map (some b2))∧w.cell? ⟨p2,2,none⟩=some (.map (some s2))) ∧
   (∃ v0 v1 v2,w.heap[p]? = some (.cells #[v0,v1,v2] 215 (0,0))∧w.heap[p2]? = some (.cells #[lkP q2,.map (some b2),.map (some s2)] 215 (0,0))) ∧
   ∃ D',yb (((w.setCell ⟨p,0,none⟩ (lkP q2)).setCell ⟨p,1,none⟩ (.map (some b2))).setCell ⟨p,2,none⟩ (.map (some s2))) D' p now M'∧(∀ k,D' k→D k∨D2 k) ∧
    Mod (fun k=>k=p) w (((w.setCell ⟨p,0,none⟩ (lkP q2)).setCell ⟨p,1,none⟩ (.map (some b2))).setCell ⟨p,2,none⟩ (.map (some s2))):=by
 obtain⟨q,bb,bs,Dc,Db,Ds,h1,_⟩:=h;obtain⟨q2,b2,s2,Dc2,Db2,Ds2,k1,k2⟩:=h2;have hp:D p:=(h1.dd p).2 (.inl rfl);have np : ¬ D2 p:=hd p hp;have hm:Mod (fun k=>k=p) w (((w.setCell ⟨p,0,none⟩ (lkP q2)).setCell ⟨p,1,none⟩ (.map (some b2))).setCell ⟨p,2,none⟩ (.map (some s2))):=(((Mod.refl (fun k=>k=p) w).setCell (p:=⟨p,0,none⟩) (fun _=>rfl) _).setCell (p:=⟨p,1,none⟩) (fun _=>rfl) _).setCell (p:=⟨p,2,none⟩) (fun _=>rfl) _;have a1:p≠b2:=fun e=>np (e ▸ (k1.dd b2).2 (.inr (.inl rfl)))
 have a2:p≠s2:=fun e=>np (e ▸ (k1.dd s2).2 (.inr (.inr (.inl rfl))))
 have a3 : ¬ Dc2 p:=fun e=>np ((k1.dd p).2 (.inr (.inr (.inr e))))
 refine⟨q2,b2,s2,k1.cells,⟨_,_,_,h1.box,k1.box⟩,fun k=>k=p∨k=b2∨k=s2∨Dc2 k,⟨q2,b2,s2,Dc2,Db2,Ds2,⟨zb1 h1.box,k1.cas.frame hm (fun k hk e=>a3 (e ▸ hk)),k1.births.mod hm (fun e=>a1 e.symm),k1.slots.mod hm (fun e=>a2 e.symm),a3,k1.nbb,k1.nbs,⟨a1,a2,k1.ne.2.2⟩,fun k=>vE⟩,k2⟩,fun k hk => ?_,hm⟩;rcases hk with rfl | rfl | rfl | e
 ·exact .inl hp
 ·exact .inr ((k1.dd k).2 (.inr (.inl rfl)))
 ·exact .inr ((k1.dd k).2 (.inr (.inr (.inl rfl))))
 ·exact .inr ((k1.dd k).2 (.inr (.inr (.inr e))))
end
section
variable{w w':World}{D:Nat→Prop}{p now q bb bs:Nat}{Dc:Nat→Prop}{Db Ds:DataW Unit}{M M' L acc:List Td}{x:Td}{tv:List Nat}
theorem yb.mem(h:yb w D p now M) : ∃ q bb bs Dc Db Ds,yM w D p now q bb bs Dc Db Ds M (yl M):=by
 obtain⟨q,bb,bs,Dc,Db,Ds,h1,h2⟩:=h;exact⟨q,bb,bs,Dc,Db,Ds,h1⟩
end
end
section
open Go.RowKit
structure CaB where
 p:Nat
 d:Nat
 c:Nat
 o:Nat
 u:Nat
 t:Nat
 v:Nat
 Dd:Nat→Prop
 Do:Nat→Prop
 Dt:Nat→Prop
 ns:List EvN
 Gs:List Grp
 cl:Nat→Nat
structure CaS where
 cfg:Cfg
 L:List (Option CE)
 births:Nat
 lim:Int
 A:List Wt
 B:List Wt
 mc:Nat
 mb:Nat
 U:Bu
 now:Nat
 M:List Td
 evs:List Ev
def zB(L:List (Option CE)):List (Option Ent):=L.map (fun o=>o.map CE.ent)
def CaB.D(b:CaB)(k:Nat):Prop:=k=b.p∨b.Dd k∨k=b.c∨b.Do k∨k=b.u∨b.Dt k∨evD b.v b.ns k
structure CaB.Sep(b:CaB):Prop where
 p:b.cl b.p=1
 d : ∀ k,b.Dd k→b.cl k=2
 c:b.cl b.c=3
 o : ∀ k,b.Do k→b.cl k=4
 u:b.cl b.u=5
 t : ∀ k,b.Dt k→b.cl k=6
 v : ∀ k,evD b.v b.ns k→b.cl k=7
 z:b.cl 0=0
structure zo(Fo:Nat→Prop)(w:World)(b:CaB)(s:CaS):Prop where
 box:w.heap[b.p]? = some (.cells #[yY b.d,jw b.c,lkP b.o,buP b.u,lkP b.t,lkP b.v,.int .i64 s.cfg.count,.int .i64 s.cfg.bytes,.int .i64 s.cfg.prot,.int .u64 s.cfg.seed,.bool s.cfg.same] 85 (0,0))
 dict:zW (fun k=>Fo k∨b.D k) w b.Dd b.d s.cfg.seed s.cfg.same (zB s.L) b.Gs
 ctr:Ctr w b.c s.births
 order:xl w b.Do b.o s.lim s.A s.B
 used:yQ w b.u s.mc s.mb s.U
 due:yb w b.Dt b.t s.now s.M
 ev:xM (fun k=>Fo k∨b.D k) w b.v b.ns
 evs:qY b.ns=s.evs
 sep:b.Sep
 tab:xy w
def ve(w:World)(cl:Nat→Nat)(n:Nat)(k:Nat):Nat:=if k<w.heap.size then cl k else n
theorem Zk{w:World}{cl:Nat→Nat}{n k:Nat}(h:k<w.heap.size):ve w cl n k=cl k:=zk h
theorem Uy{w:World}{cl:Nat→Nat}{n k:Nat}(h:w.heap.size≤k):ve w cl n k=n:=zh (by omega)
section
variable{Fo S:Nat→Prop}{w w':World}{b:CaB}{s:CaS}
theorem zo.lt(h:zo Fo w b s){k:Nat}(hk:b.D k):k<w.heap.size:=by
 rcases hk with rfl | e | rfl | e | rfl | e | e
 ·exact zl h.box
 ·exact h.dict.lt e
 ·exact zl h.ctr
 ·exact h.order.lt e
 ·exact zl h.used.box
 ·exact h.due.lt e
 ·exact h.ev.lt e
theorem zo.pos(h:zo Fo w b s):0<w.heap.size:=h.tab.lt
theorem zo.pure(h:zo Fo w b s)(hp:zb w w'):zo Fo w' b s :=
 ⟨hp.heap (fun h=>h) h.box,h.dict.pure hp,h.ctr.pure hp,h.order.pure hp,h.used.pure hp,h.due.pure hp,(by obtain⟨k0,k1,k2,k3,k4,k5,h⟩:=h.ev;exact⟨k0,k1,k2,k3,k4,k5,h.pure hp⟩),h.evs,h.sep,h.tab.pure hp⟩
theorem zo.less{Fo':Nat→Prop}(h:zo Fo w b s)(h1 : ∀ k,Fo' k→Fo k):zo Fo' w b s :=
 ⟨h.box,h.dict.less (fun k hk=>hk.imp (h1 k) (fun h=>h)),h.ctr,h.order,h.used,h.due,h.ev.less (fun k hk=>hk.imp (h1 k) (fun h=>h)),h.evs,h.sep,h.tab⟩
theorem zo.foreign(h:zo Fo w b s)(hm:Mod S w w')(hd : ∀ k,b.D k → ¬ S k)(hS : ∀ k,k<w.heap.size→S k→Fo k)(h0 : ¬ S 0):zo Fo w' b s :=
 ⟨hm.heap (hd _ (.inl rfl)) h.box,h.dict.frameF hm (fun k hk=>hd k (.inr (.inl hk))) (fun k hk hs => .inl (.inl (hS k hk hs))),hm.heap (hd _ (.inr (.inr (.inl rfl)))) h.ctr,h.order.frame hm (fun k hk=>hd k (.inr (.inr (.inr (.inl hk))))),h.used.frame hm (hd _ (.inr (.inr (.inr (.inr (.inl rfl)))))),h.due.frame hm (fun k hk=>hd k (.inr (.inr (.inr (.inr (.inr (.inl hk))))))),
  (by obtain⟨k0,k1,k2,k3,k4,k5,h1⟩:=h.ev;exact⟨k0,k1,k2,k3,k4,k5,h1.frameF hm (fun k hk=>hd k (.inr (.inr (.inr (.inr (.inr (.inr hk))))))) (fun k hk hs => .inl (.inl (hS k hk hs)))⟩),h.evs,h.sep,h.tab.mod hm h0⟩
end
section
variable{Fo S:Nat→Prop}{w w':World}{b:CaB}{s:CaS}
structure zex(F':Nat→Prop)(w':World)(b:CaB)(s:CaS)(j:Nat):Prop where
 box:j≠1→w'.heap[b.p]? = some (.cells #[yY b.d,jw b.c,lkP b.o,buP b.u,lkP b.t,lkP b.v,.int .i64 s.cfg.count,.int .i64 s.cfg.bytes,.int .i64 s.cfg.prot,.int .u64 s.cfg.seed,.bool s.cfg.same] 85 (0,0))
 dict:j≠2→zW F' w' b.Dd b.d s.cfg.seed s.cfg.same (zB s.L) b.Gs
 ctr:j≠3→Ctr w' b.c s.births
 order:j≠4→xl w' b.Do b.o s.lim s.A s.B
 used:j≠5→yQ w' b.u s.mc s.mb s.U
 due:j≠6→yb w' b.Dt b.t s.now s.M
 ev:j≠7→xM F' w' b.v b.ns
 tab:xy w'
theorem zo.rest(h:zo Fo w b s){j:Nat}(hm:Mod S w w')(hj:j≠0)(hS : ∀ k,k<w.heap.size→S k→b.cl k=j∧b.D k){F':Nat→Prop}(h1 : ∀ k,F' k→(Fo k∨b.D k)∨w.heap.size≤k)(h2 : ∀ k,F' k→k<w'.heap.size):zex F' w' b s j:=by
 have no : ∀ k,b.D k→b.cl k≠j → ¬ S k:=fun k hk hc hs=>hc (hS k (h.lt hk) hs).1
 refine⟨fun hn=>hm.heap (no b.p (.inl rfl) (by rw[h.sep.p];omega)) h.box,fun hn=>h.dict.frameR hm (fun k hk=>no k (.inr (.inl hk)) (by rw[h.sep.d k hk];omega)) (fun k hk hs => .inr (hS k hk hs).2) h1 h2,fun hn=>hm.heap (no b.c (.inr (.inr (.inl rfl))) (by rw[h.sep.c];omega)) h.ctr,
  fun hn=>h.order.frame hm (fun k hk=>no k (.inr (.inr (.inr (.inl hk)))) (by rw[h.sep.o k hk];omega)),fun hn=>h.used.frame hm (no b.u (.inr (.inr (.inr (.inr (.inl rfl))))) (by rw[h.sep.u];omega)),
  fun hn=>h.due.frame hm (fun k hk=>no k (.inr (.inr (.inr (.inr (.inr (.inl hk)))))) (by rw[h.sep.t k hk];omega)),fun hn=>h.ev.frameR hm (fun k hk=>no k (.inr (.inr (.inr (.inr (.inr (.inr hk)))))) (by rw[h.sep.v k hk];omega)) (fun k hk hs => .inr (hS k hk hs).2) h1 h2,
  h.tab.mod hm (fun hs=>by have:=(hS 0 h.pos hs).1;rw[h.sep.z]at this;omega)⟩
theorem zo.flt(h:zo Fo w b s){k:Nat}(hk:Fo k):k<w.heap.size:=h.dict.flt _ (.inl hk)
theorem CaB.Sep.grow(h:b.Sep)(hl : ∀ k,b.D k→k<w.heap.size)(h0:0<w.heap.size){j:Nat}{Dd' Do' Dt':Nat→Prop}{ns':List EvN}(gd : ∀ k,Dd' k→b.Dd k∨w.heap.size≤k∧j=2)(go : ∀ k,Do' k→b.Do k∨w.heap.size≤k∧j=4)(gt : ∀ k,Dt' k→b.Dt k∨w.heap.size≤k∧j=6)(gv : ∀ k,evD b.v ns' k→evD b.v b.ns k∨w.heap.size≤k∧j=7){Gs':List Grp} :
  CaB.Sep {b with Dd:=Dd',Do:=Do',Dt:=Dt',ns:=ns',Gs:=Gs',cl:=ve w b.cl j}:=by
 refine⟨?_,fun k hk => ?_,?_,fun k hk => ?_,?_,fun k hk => ?_,fun k hk => ?_,?_⟩
 ·show ve w b.cl j b.p=1
  rw[Zk (hl _ (.inl rfl)),h.p]
 ·show ve w b.cl j k=2
  rcases gd k hk with e | ⟨e,ej⟩
  ·rw[Zk (hl _ (.inr (.inl e))),h.d k e]
  ·rw[Uy e,ej]
 ·show ve w b.cl j b.c=3
  rw[Zk (hl _ (.inr (.inr (.inl rfl)))),h.c]
 ·show ve w b.cl j k=4
  rcases go k hk with e | ⟨e,ej⟩
  ·rw[Zk (hl _ (.inr (.inr (.inr (.inl e))))),h.o k e]
  ·rw[Uy e,ej]
 ·show ve w b.cl j b.u=5
  rw[Zk (hl _ (.inr (.inr (.inr (.inr (.inl rfl)))))),h.u]
 ·show ve w b.cl j k=6
  rcases gt k hk with e | ⟨e,ej⟩
  ·rw[Zk (hl _ (.inr (.inr (.inr (.inr (.inr (.inl e))))))),h.t k e]
  ·rw[Uy e,ej]
 ·show ve w b.cl j k=7
  rcases gv k hk with e | ⟨e,ej⟩
  ·rw[Zk (hl _ (.inr (.inr (.inr (.inr (.inr (.inr e))))))),h.v k e]
  ·rw[Uy e,ej]
 ·show ve w b.cl j 0=0
  rw[Zk h0,h.z]
theorem zo.putDict(h:zo Fo w b s){Dd':Nat→Prop}{Gs':List Grp}{L':List (Option CE)}(hd:zW (fun k=>Fo k∨b.D k) w' Dd' b.d s.cfg.seed s.cfg.same (zB L') Gs')(hm:Mod b.Dd w w')(hg:vU b.Dd Dd' w):zo Fo w' {b with Dd:=Dd',Gs:=Gs',cl:=ve w b.cl 2} {s with L:=L'}:=by
 obtain⟨b',hb'⟩ : ∃ b',{b with Dd:=Dd',Gs:=Gs',cl:=ve w b.cl 2}=b':=⟨_,rfl⟩;have hDn : ∀ k,b'.D k→b.D k∨w.heap.size≤k:=fun k hk=>by
  subst hb';rcases hk with e | e | e | e | e | e | e
  ·exact .inl (.inl e)
  ·exact(hg k e).imp (fun e=>(.inr (.inl e))) (fun e=>e)
  ·exact .inl (.inr (.inr (.inl e)))
  ·exact .inl (.inr (.inr (.inr (.inl e))))
  ·exact .inl (.inr (.inr (.inr (.inr (.inl e)))))
  ·exact .inl (.inr (.inr (.inr (.inr (.inr (.inl e))))))
  ·exact .inl (.inr (.inr (.inr (.inr (.inr (.inr e))))))
 have hDl : ∀ k,b'.D k→k<w'.heap.size:=fun k hk=>by
  subst hb';rcases hk with e | e | e | e | e | e | e
  ·exact hm.lt (h.lt (.inl e))
  ·exact hd.lt e
  ·exact hm.lt (h.lt (.inr (.inr (.inl e))))
  ·exact hm.lt (h.lt (.inr (.inr (.inr (.inl e)))))
  ·exact hm.lt (h.lt (.inr (.inr (.inr (.inr (.inl e))))))
  ·exact hm.lt (h.lt (.inr (.inr (.inr (.inr (.inr (.inl e)))))))
  ·exact hm.lt (h.lt (.inr (.inr (.inr (.inr (.inr (.inr e)))))))
 have hr:=h.rest (j:=2) hm (by decide) (fun k _ hs=>⟨h.sep.d k hs,(.inr (.inl hs))⟩) (F':=fun k=>Fo k∨b'.D k) (fun k hk=>hk.elim (fun e => .inl (.inl e)) (fun e=>(hDn k e).imp .inr (fun e=>e))) (fun k hk=>hk.elim (fun e=>hm.lt (h.flt e)) (hDl k));have hd2:=hd.add (T:=Dd') (fun k hk=>hd.holds hk);have hd3:=hd2.less (Fo':=fun k=>Fo k∨b'.D k) (fun k hk=>by
  rcases hk with e | e
  ·exact .inl (.inl e)
  ·subst hb';rcases e with e | e | e | e | e | e | e
   ·exact .inl (.inr (.inl e))
   ·exact .inr e
   ·exact .inl (.inr (.inr (.inr (.inl e))))
   ·exact .inl (.inr (.inr (.inr (.inr (.inl e)))))
   ·exact .inl (.inr (.inr (.inr (.inr (.inr (.inl e))))))
   ·exact .inl (.inr (.inr (.inr (.inr (.inr (.inr (.inl e)))))))
   ·exact .inl (.inr (.inr (.inr (.inr (.inr (.inr (.inr e))))))))
 have hsep:=h.sep.grow (w:=w) (fun k hk=>h.lt hk) h.pos (j:=2) (fun k hk=>(hg k hk).imp (fun e=>e) (fun e=>⟨e,rfl⟩)) (fun k hk => .inl hk) (fun k hk => .inl hk) (fun k hk => .inl hk) (Gs':=Gs');subst hb';exact⟨hr.box (by decide),hd3,hr.ctr (by decide),hr.order (by decide),hr.used (by decide),hr.due (by decide),hr.ev (by decide),h.evs,hsep,hr.tab⟩
theorem zo.putOrder(h:zo Fo w b s){Do':Nat→Prop}{lim':Int}{A' B':List Wt}(hd:xl w' Do' b.o lim' A' B')(hm:Mod b.Do w w')(hg : ∀ k,Do' k→b.Do k∨w.heap.size≤k):zo Fo w' {b with Do:=Do',cl:=ve w b.cl 4} {s with lim:=lim',A:=A',B:=B'}:=by
 obtain⟨b',hb'⟩ : ∃ b',{b with Do:=Do',cl:=ve w b.cl 4}=b':=⟨_,rfl⟩;have hDn : ∀ k,b'.D k→b.D k∨w.heap.size≤k:=fun k hk=>by
  subst hb';rcases hk with e | e | e | e | e | e | e
  ·exact .inl (.inl e)
  ·exact .inl (.inr (.inl e))
  ·exact .inl (.inr (.inr (.inl e)))
  ·exact(hg k e).imp (fun e=>(.inr (.inr (.inr (.inl e))))) (fun e=>e)
  ·exact .inl (.inr (.inr (.inr (.inr (.inl e)))))
  ·exact .inl (.inr (.inr (.inr (.inr (.inr (.inl e))))))
  ·exact .inl (.inr (.inr (.inr (.inr (.inr (.inr e))))))
 have hDl : ∀ k,b'.D k→k<w'.heap.size:=fun k hk=>by
  subst hb';rcases hk with e | e | e | e | e | e | e
  ·exact hm.lt (h.lt (.inl e))
  ·exact hm.lt (h.lt (.inr (.inl e)))
  ·exact hm.lt (h.lt (.inr (.inr (.inl e))))
  ·exact hd.lt e
  ·exact hm.lt (h.lt (.inr (.inr (.inr (.inr (.inl e))))))
  ·exact hm.lt (h.lt (.inr (.inr (.inr (.inr (.inr (.inl e)))))))
  ·exact hm.lt (h.lt (.inr (.inr (.inr (.inr (.inr (.inr e)))))))
 have hr:=h.rest (j:=4) hm (by decide) (fun k _ hs=>⟨h.sep.o k hs,(.inr (.inr (.inr (.inl hs))))⟩) (F':=fun k=>Fo k∨b'.D k) (fun k hk=>hk.elim (fun e => .inl (.inl e)) (fun e=>(hDn k e).imp .inr (fun e=>e))) (fun k hk=>hk.elim (fun e=>hm.lt (h.flt e)) (hDl k));have hsep:=h.sep.grow (w:=w) (fun k hk=>h.lt hk) h.pos (j:=4) (fun k hk => .inl hk) (fun k hk=>(hg k hk).imp (fun e=>e) (fun e=>⟨e,rfl⟩)) (fun k hk => .inl hk) (fun k hk => .inl hk) (Gs':=b.Gs);subst hb';exact⟨hr.box (by decide),hr.dict (by decide),hr.ctr (by decide),hd,hr.used (by decide),hr.due (by decide),hr.ev (by decide),h.evs,hsep,hr.tab⟩
theorem zo.putDue(h:zo Fo w b s){Dt':Nat→Prop}{now':Nat}{M':List Td}(hd:yb w' Dt' b.t now' M')(hm:Mod b.Dt w w')(hg : ∀ k,Dt' k→b.Dt k∨w.heap.size≤k):zo Fo w' {b with Dt:=Dt',cl:=ve w b.cl 6} {s with now:=now',M:=M'}:=by
 obtain⟨b',hb'⟩ : ∃ b',{b with Dt:=Dt',cl:=ve w b.cl 6}=b':=⟨_,rfl⟩;have hDn : ∀ k,b'.D k→b.D k∨w.heap.size≤k:=fun k hk=>by
  subst hb';rcases hk with e | e | e | e | e | e | e
  ·exact .inl (.inl e)
  ·exact .inl (.inr (.inl e))
  ·exact .inl (.inr (.inr (.inl e)))
  ·exact .inl (.inr (.inr (.inr (.inl e))))
  ·exact .inl (.inr (.inr (.inr (.inr (.inl e)))))
  ·exact(hg k e).imp (fun e=>(.inr (.inr (.inr (.inr (.inr (.inl e))))))) (fun e=>e)
  ·exact .inl (.inr (.inr (.inr (.inr (.inr (.inr e))))))
 have hDl : ∀ k,b'.D k→k<w'.heap.size:=fun k hk=>by
  subst hb';rcases hk with e | e | e | e | e | e | e
  ·exact hm.lt (h.lt (.inl e))
  ·exact hm.lt (h.lt (.inr (.inl e)))
  ·exact hm.lt (h.lt (.inr (.inr (.inl e))))
  ·exact hm.lt (h.lt (.inr (.inr (.inr (.inl e)))))
  ·exact hm.lt (h.lt (.inr (.inr (.inr (.inr (.inl e))))))
  ·exact hd.lt e
  ·exact hm.lt (h.lt (.inr (.inr (.inr (.inr (.inr (.inr e)))))))
 have hr:=h.rest (j:=6) hm (by decide) (fun k _ hs=>⟨h.sep.t k hs,(.inr (.inr (.inr (.inr (.inr (.inl hs))))))⟩) (F':=fun k=>Fo k∨b'.D k) (fun k hk=>hk.elim (fun e => .inl (.inl e)) (fun e=>(hDn k e).imp .inr (fun e=>e))) (fun k hk=>hk.elim (fun e=>hm.lt (h.flt e)) (hDl k));have hsep:=h.sep.grow (w:=w) (fun k hk=>h.lt hk) h.pos (j:=6) (fun k hk => .inl hk) (fun k hk => .inl hk) (fun k hk=>(hg k hk).imp (fun e=>e) (fun e=>⟨e,rfl⟩)) (fun k hk => .inl hk) (Gs':=b.Gs);subst hb';exact⟨hr.box (by decide),hr.dict (by decide),hr.ctr (by decide),hr.order (by decide),hr.used (by decide),hd,hr.ev (by decide),h.evs,hsep,hr.tab⟩
theorem zo.putEv(h:zo Fo w b s){ns':List EvN}{evs':List Ev}(hd:xM (fun k=>Fo k∨b.D k) w' b.v ns')(he:qY ns'=evs')(hm:Mod (evD b.v b.ns) w w')(hg : ∀ k,evD b.v ns' k→evD b.v b.ns k∨w.heap.size≤k):zo Fo w' {b with ns:=ns',cl:=ve w b.cl 7} {s with evs:=evs'}:=by
 obtain⟨b',hb'⟩ : ∃ b',{b with ns:=ns',cl:=ve w b.cl 7}=b':=⟨_,rfl⟩;have hDn : ∀ k,b'.D k→b.D k∨w.heap.size≤k:=fun k hk=>by
  subst hb';rcases hk with e | e | e | e | e | e | e
  ·exact .inl (.inl e)
  ·exact .inl (.inr (.inl e))
  ·exact .inl (.inr (.inr (.inl e)))
  ·exact .inl (.inr (.inr (.inr (.inl e))))
  ·exact .inl (.inr (.inr (.inr (.inr (.inl e)))))
  ·exact .inl (.inr (.inr (.inr (.inr (.inr (.inl e))))))
  ·exact(hg k e).imp (fun e=>(.inr (.inr (.inr (.inr (.inr (.inr e))))))) (fun e=>e)
 have hDl : ∀ k,b'.D k→k<w'.heap.size:=fun k hk=>by
  subst hb';rcases hk with e | e | e | e | e | e | e
  ·exact hm.lt (h.lt (.inl e))
  ·exact hm.lt (h.lt (.inr (.inl e)))
  ·exact hm.lt (h.lt (.inr (.inr (.inl e))))
  ·exact hm.lt (h.lt (.inr (.inr (.inr (.inl e)))))
  ·exact hm.lt (h.lt (.inr (.inr (.inr (.inr (.inl e))))))
  ·exact hm.lt (h.lt (.inr (.inr (.inr (.inr (.inr (.inl e)))))))
  ·exact hd.lt e
 have hr:=h.rest (j:=7) hm (by decide) (fun k _ hs=>⟨h.sep.v k hs,(.inr (.inr (.inr (.inr (.inr (.inr hs))))))⟩) (F':=fun k=>Fo k∨b'.D k) (fun k hk=>hk.elim (fun e => .inl (.inl e)) (fun e=>(hDn k e).imp .inr (fun e=>e))) (fun k hk=>hk.elim (fun e=>hm.lt (h.flt e)) (hDl k));have hd2:=hd.add (T:=evD b.v ns') (fun k hk=>hd.holds hk);have hd3:=hd2.less (Fo':=fun k=>Fo k∨b'.D k) (fun k hk=>by
  rcases hk with e | e
  ·exact .inl (.inl e)
  ·subst hb';rcases e with e | e | e | e | e | e | e
   ·exact .inl (.inr (.inl e))
   ·exact .inl (.inr (.inr (.inl e)))
   ·exact .inl (.inr (.inr (.inr (.inl e))))
   ·exact .inl (.inr (.inr (.inr (.inr (.inl e)))))
   ·exact .inl (.inr (.inr (.inr (.inr (.inr (.inl e))))))
   ·exact .inl (.inr (.inr (.inr (.inr (.inr (.inr (.inl e)))))))
   ·exact .inr e)
 have hsep:=h.sep.grow (w:=w) (fun k hk=>h.lt hk) h.pos (j:=7) (fun k hk => .inl hk) (fun k hk => .inl hk) (fun k hk => .inl hk) (fun k hk=>(hg k hk).imp (fun e=>e) (fun e=>⟨e,rfl⟩)) (Gs':=b.Gs);subst hb';exact⟨hr.box (by decide),hr.dict (by decide),hr.ctr (by decide),hr.order (by decide),hr.used (by decide),hr.due (by decide),hd3,he,hsep,hr.tab⟩
theorem zo.putCtr(h:zo Fo w b s){n:Nat}(hd:Ctr w' b.c n)(hm:Mod (fun k=>k=b.c) w w'):zo Fo w' b {s with births:=n}:=by
 have hr:=h.rest (j:=3) hm (by decide) (fun k _ hs=>⟨by subst hs;exact h.sep.c,(.inr (.inr (.inl hs)))⟩) (F':=fun k=>Fo k∨b.D k) (fun k hk => .inl hk) (fun k hk=>hm.lt (hk.elim (fun e=>h.flt e) (fun e=>h.lt e)));exact⟨hr.box (by decide),hr.dict (by decide),hd,hr.order (by decide),hr.used (by decide),hr.due (by decide),hr.ev (by decide),h.evs,h.sep,hr.tab⟩
theorem zo.putUsed(h:zo Fo w b s){mc' mb':Nat}{U':Bu}(hd:yQ w' b.u mc' mb' U')(hm:Mod (fun k=>k=b.u) w w'):zo Fo w' b {s with mc:=mc',mb:=mb',U:=U'}:=by
 have hr:=h.rest (j:=5) hm (by decide) (fun k _ hs=>⟨by subst hs;exact h.sep.u,(.inr (.inr (.inr (.inr (.inl hs)))))⟩) (F':=fun k=>Fo k∨b.D k) (fun k hk => .inl hk) (fun k hk=>hm.lt (hk.elim (fun e=>h.flt e) (fun e=>h.lt e)));exact⟨hr.box (by decide),hr.dict (by decide),hr.ctr (by decide),hr.order (by decide),hd,hr.due (by decide),hr.ev (by decide),h.evs,h.sep,hr.tab⟩
structure zr(w w':World)(b b':CaB):Prop where
 p:b'.p=b.p
 mod:Mod b.D w w'
 grew : ∀ k,b'.D k→b.D k∨w.heap.size≤k
theorem zr.trans{w2:World}{b1 b2:CaB}(h:zr w w' b b1)(k:zr w' w2 b1 b2):zr w w2 b b2 :=
 ⟨k.p.trans h.p,Mod.trans' h.mod k.mod (fun _ _ h=>h) (fun i hi e=>(h.grew i e).elim (fun e=>e) (fun e=>by omega)),fun i e=>(k.grew i e).elim (fun e=>h.grew i e) (fun e => .inr (zH h.mod.size e))⟩
theorem zr.pure(h:zb w w'):zr w w' b b:=⟨rfl,Mod.of_pure h,fun _ h => .inl h⟩
theorem zr.size{b':CaB}(h:zr w w' b b'):w.heap.size≤w'.heap.size:=h.mod.size
theorem zr.ofDict{Dd':Nat→Prop}{Gs':List Grp}(hm:Mod (b.Dd) w w')(hg : ∀ k,(Dd') k→(b.Dd) k∨w.heap.size≤k):zr w w' b {b with Dd:=Dd',Gs:=Gs',cl:=ve w b.cl 2}:=⟨rfl,hm.mono (fun _ _ hs=>(.inr (.inl hs))),fun k hk=>by
  rcases hk with e | e | e | e | e | e | e
  ·exact .inl ((.inl e))
  ·exact(hg k e).imp (fun e=>(.inr (.inl e))) (fun e=>e)
  ·exact .inl ((.inr (.inr (.inl e))))
  ·exact .inl ((.inr (.inr (.inr (.inl e)))))
  ·exact .inl ((.inr (.inr (.inr (.inr (.inl e))))))
  ·exact .inl ((.inr (.inr (.inr (.inr (.inr (.inl e)))))))
  ·exact .inl ((.inr (.inr (.inr (.inr (.inr (.inr e)))))))⟩
theorem zr.ofOrder{Do':Nat→Prop}(hm:Mod (b.Do) w w')(hg : ∀ k,(Do') k→(b.Do) k∨w.heap.size≤k):zr w w' b {b with Do:=Do',cl:=ve w b.cl 4}:=⟨rfl,hm.mono (fun _ _ hs=>(.inr (.inr (.inr (.inl hs))))),fun k hk=>by
  rcases hk with e | e | e | e | e | e | e
  ·exact .inl ((.inl e))
  ·exact .inl ((.inr (.inl e)))
  ·exact .inl ((.inr (.inr (.inl e))))
  ·exact(hg k e).imp (fun e=>(.inr (.inr (.inr (.inl e))))) (fun e=>e)
  ·exact .inl ((.inr (.inr (.inr (.inr (.inl e))))))
  ·exact .inl ((.inr (.inr (.inr (.inr (.inr (.inl e)))))))
  ·exact .inl ((.inr (.inr (.inr (.inr (.inr (.inr e)))))))⟩
theorem zr.ofDue{Dt':Nat→Prop}(hm:Mod (b.Dt) w w')(hg : ∀ k,(Dt') k→(b.Dt) k∨w.heap.size≤k):zr w w' b {b with Dt:=Dt',cl:=ve w b.cl 6}:=⟨rfl,hm.mono (fun _ _ hs=>(.inr (.inr (.inr (.inr (.inr (.inl hs))))))),fun k hk=>by
  rcases hk with e | e | e | e | e | e | e
  ·exact .inl ((.inl e))
  ·exact .inl ((.inr (.inl e)))
  ·exact .inl ((.inr (.inr (.inl e))))
  ·exact .inl ((.inr (.inr (.inr (.inl e)))))
  ·exact .inl ((.inr (.inr (.inr (.inr (.inl e))))))
  ·exact(hg k e).imp (fun e=>(.inr (.inr (.inr (.inr (.inr (.inl e))))))) (fun e=>e)
  ·exact .inl ((.inr (.inr (.inr (.inr (.inr (.inr e)))))))⟩
theorem zr.ofEv{ns':List EvN}(hm:Mod (evD b.v b.ns) w w')(hg : ∀ k,(evD b.v ns') k→(evD b.v b.ns) k∨w.heap.size≤k):zr w w' b {b with ns:=ns',cl:=ve w b.cl 7}:=⟨rfl,hm.mono (fun _ _ hs=>(.inr (.inr (.inr (.inr (.inr (.inr hs))))))),fun k hk=>by
  rcases hk with e | e | e | e | e | e | e
  ·exact .inl ((.inl e))
  ·exact .inl ((.inr (.inl e)))
  ·exact .inl ((.inr (.inr (.inl e))))
  ·exact .inl ((.inr (.inr (.inr (.inl e)))))
  ·exact .inl ((.inr (.inr (.inr (.inr (.inl e))))))
  ·exact .inl ((.inr (.inr (.inr (.inr (.inr (.inl e)))))))
  ·exact(hg k e).imp (fun e=>(.inr (.inr (.inr (.inr (.inr (.inr e))))))) (fun e=>e)⟩
theorem zr.ofCtr(hm:Mod (fun k=>k=b.c) w w'):zr w w' b b:=⟨rfl,hm.mono (fun _ _ hs=>(.inr (.inr (.inl hs)))),fun _ h => .inl h⟩
theorem zr.ofUsed(hm:Mod (fun k=>k=b.u) w w'):zr w w' b b:=⟨rfl,hm.mono (fun _ _ hs=>(.inr (.inr (.inr (.inr (.inl hs)))))),fun _ h => .inl h⟩
end
end
section
open Go.RowKit Go.Shelf
section
variable{Fo:Nat→Prop}{w w':World}{b:CaB}{s:CaS}
theorem Azfsx {P:Prop}(h:P:=by
 obtain⟨hb_0,hb_1,hb_2,hb_3,hb_4,hb_5,hb_6,hb_7,hb_8,hb_9,hb_10,hb_f,hb_l,H_hb⟩:=yE hb;clear hb;go_enter func61,ntmps61;go_wp2;go_ret;exact⟨rfl,rfl⟩):P:=h
theorem kG(h:zo Fo w b s):Calls prog 61 #[lkP b.p] w fun e w'=>e=.returned (.bool false)∧w=w':=by
 have hb:=h.box;clear h;exact Azfsx
theorem zlc(w:World):Calls prog 61 #[.pointer none] w fun e w'=>e=.returned (.bool true)∧w=w':=by
 go_enter func61,ntmps61;go_wp2;go_ret;exact⟨rfl,rfl⟩
abbrev ceV(x:CE)(v:Value):Value := .agg #[.string x.key,v,.int .u64 x.dl,.int .u64 x.birth]
theorem yb.nowOk{D:Nat→Prop}{p now:Nat}{M:List Td}(h:yb w D p now M):Calls prog 69 #[lkP p] w fun e w'=>e=.returned (.int .u64 now)∧w=w':=by
 obtain⟨q,bb,bs,Dc,Db,Ds,h1,_⟩:=h;exact Kl h1
def TlS(p v t bx:Nat)(key:ByteArray)(vv:Value)(dl birth:Nat)(X:World):Prop :=
 X.cell? ⟨p,5,none⟩=some (lkP v)∧X.cell? ⟨p,4,none⟩=some (lkP t)∧X.cell? ⟨bx,0,none⟩=some (.string key)∧X.cell? ⟨bx,1,none⟩=some vv∧X.cell? ⟨bx,2,none⟩=some (.int .u64 dl)∧X.cell? ⟨bx,3,none⟩=some (.int .u64 birth)
def Zi(Fo:Nat→Prop)(w:World)(b:CaB)(s:CaS)(e:Ending)(w':World):Prop:=e=.returned (.tuple #[]) ∧ ∃ b',zo Fo w' b' s∧zr w w' b b'
theorem zdz(h:zo Fo w b s){x:Ev}(hx:x.Ok)(htm:x.tm=s.now)(hlen:s.evs.length<1048576){a:Option Addr}{n c:Nat}(hv:zn w (.slice a n c) 1 (zJ x.e.val)) :
  Calls prog 150 #[lkP b.p,.int .i64 x.kind,ceV x.e (.slice a n c)] w (Zi Fo w b {s with evs:=s.evs++[x]}):=by
 have hp0:zb w (w.alloc (.cells #[.string x.e.key,.slice a n c,.int .u64 x.e.dl,.int .u64 x.e.birth] 57)):=(Mod.refl _ w).alloc _;have hbx:=zi (w:=w) (o := .cells #[.string x.e.key,.slice a n c,.int .u64 x.e.dl,.int .u64 x.e.birth] 57 (0,0)) rfl;have HH:=za (h.pure hp0);have HP:=za hp0;have HV:=za (hv.frame hp0 (fun _ _ h=>h));have hb:=(h.pure hp0).box;have HL:=za hlen;have HX:=za hx;have HTM:=za htm;have HLT:=za (fun k (hk:b.D k)=>h.lt hk);clear h hv hp0 hlen hx htm;go_enter func150,ntmps150;go_upto_region 1 with fail
 generalize w.alloc (.cells #[.string x.e.key,.slice a n c,.int .u64 x.e.dl,.int .u64 x.e.birth] 57)=W1 at *;obtain⟨bx,hbe⟩:=zc w.heap.size;rw[hbe]at hbx HLT ⊢;have HBE:=za hbe;clear hbe;have HB1:=za hb;have HB2:=za hbx;have HS:=za (fun(X:World) (hX:zb W1 X)=>(⟨zf X b.p 5 _ _ (0,0) (hX.heap (fun h=>h) hb),zf X b.p 4 _ _ (0,0) (hX.heap (fun h=>h) hb),zf X bx 0 _ _ (0,0) (hX.heap (fun h=>h) hbx),zf X bx 1 _ _ (0,0) (hX.heap (fun h=>h) hbx),zf X bx 2 _ _ (0,0) (hX.heap (fun h=>h) hbx),zf X bx 3 _ _ (0,0) (hX.heap (fun h=>h) hbx)⟩:TlS b.p b.v b.t bx x.e.key (.slice a n c) x.e.dl x.e.birth X));have HNo:=za (HH.out.due.pure ((Mod.refl (fun _=>False) W1).drew)).nowOk;have HAd:=za (zgA ((HH.out.pure (Mod.refl (fun _=>False) W1).drew).ev) HX.out (by have:=congrArg List.length HH.out.evs;unfold qY at this;rw[yt]at this;have:=HL.out;omega) (HV.out.frame ((Mod.refl (fun _=>False) W1).drew) (fun _ _ h=>h)));rw[HTM.out]at HAd;clear hb hbx;refine rHd (S:=TlS b.p b.v b.t bx x.e.key (.slice a n c) x.e.dl x.e.birth) (HS.out _ (Mod.refl _ _).drew) (fun h_ => ?_);refine hTk 0 ?_;refine hTk 1 ?_;refine hTk 2 ?_;refine hTk 3 ?_;refine hLd 4 ?_;refine hTk 5 ?_;refine hTk 6 ?_;refine hLd 7 ?_;refine hTk 8 ?_;refine hLd 9 ?_;refine hTk 10 ?_;refine hLd 11 ?_;refine hTk 12 ?_;refine hLd 13 ?_;refine hTk 14 ?_;refine hTk 15 ?_;refine hTk 16 ?_;refine hTk 17 ?_;refine hLd 18 ?_
 (refine hSt 19 (fun K hK => ?_);go_simp;refine HNo.out.mono ?_;rintro e u1 ⟨rfl,rfl⟩;refine hK.out _ _ ?_ (fun h_ => ?_);(· exact h_);clear hK K;refine clA ?_)
 refine hTk 20 ?_
 (refine hSt 21 (fun K hK => ?_);go_simp;refine HAd.out.mono ?_;rintro e u2 ⟨rfl,blk,vv,hev,hge,hfr,hme⟩;refine hK.out _ _ ?_ (fun h_ => ?_);(· exact⟨hme.cell (a:=⟨b.p,5,none⟩) (fun e=>by have e2:b.cl b.p=7:=HH.out.sep.v _ e;rw[HH.out.sep.p]at e2;cases e2) h_.1,hme.cell (a:=⟨b.p,4,none⟩) (fun e=>by have e2:b.cl b.p=7:=HH.out.sep.v _ e;rw[HH.out.sep.p]at e2;cases e2) h_.2.1,hme.cell (a:=⟨bx,0,none⟩) (fun e=>by have:bx<bx:=HLT.out bx (.inr (.inr (.inr (.inr (.inr (.inr e))))));omega) h_.2.2.1,hme.cell (a:=⟨bx,1,none⟩) (fun e=>by have:bx<bx:=HLT.out bx (.inr (.inr (.inr (.inr (.inr (.inr e))))));omega) h_.2.2.2.1,hme.cell (a:=⟨bx,2,none⟩) (fun e=>by have:bx<bx:=HLT.out bx (.inr (.inr (.inr (.inr (.inr (.inr e))))));omega) h_.2.2.2.2.1,hme.cell (a:=⟨bx,3,none⟩) (fun e=>by have:bx<bx:=HLT.out bx (.inr (.inr (.inr (.inr (.inr (.inr e))))));omega) h_.2.2.2.2.2⟩);clear hK K;refine clA ?_)
 refine hDn ?_;clear h_;have hev2:qY (b.ns++[(blk,x,vv)])=s.evs++[x]:=by rw[← HH.out.evs];simp[qY]
 have hgr : ∀ k,evD b.v (b.ns++[(blk,x,vv)]) k→evD b.v b.ns k∨W1.heap.size≤k:=fun k hk=>by
  rcases hk with e | ⟨n,hn,e⟩
  ·exact .inl (.inl e)
  ·rcases yF.1 hn with hn | hn
   ·exact .inl (.inr ⟨n,hn,e⟩)
   ·rw[xh.1 hn]at e;exact .inr (by rw[← e];exact hge)
 have hmw:Mod (evD b.v b.ns) W1 u2:=Mod.trans' ((Mod.refl (fun _=>False) W1).drew) hme (fun _ _ h=>h.elim) (fun _ _ h=>h);have HC:=za (HH.out.putEv hev hev2 hmw hgr);have HT:=za ((zr.pure HP.out).trans (zr.ofEv hmw hgr));clear hev hge hfr hme hev2 hgr hmw;go_wp2
 go_end0
 exact⟨rfl,_,HC.out,HT.out⟩
end
def Bu.rem(U:Bu)(g c:Nat):Bu:=if g=0 then {U with c0:=U.c0-1,s0:=U.s0-c}else {U with c1:=U.c1-1,s1:=U.s1-c}
theorem zjO(L:List (Option CE))(i:Nat):zB (L.set i none)=(zB L).set i none:=by unfold zB;rw[YZ];rfl
theorem qH{L:List (Option CE)}{i:Nat}{x:CE}(h:L[i]? = some (some x)):(zB L)[i]? = some (some x.ent):=by unfold zB;rw[yw,h];rfl
section
variable{Fo:Nat→Prop}{w w':World}{b:CaB}{s:CaS}
theorem zdu{u mc mb:Nat}{U:Bu}(h:yQ w u mc mb U){g:Nat}(hg:g≤1){c:Nat}(hc:c≤1099511627776)(hh:U.holds g c) :
  Calls prog 161 #[buP u,.int .i64 g,.int .i64 c] w fun e w'=>e=.returned (.int .i64 0)∧yQ w' u mc mb (U.rem g c)∧Mod (fun k=>k=u) w w':=by
 obtain rfl | rfl:g=0∨g=1:=by omega
 ·exact zl7 h hc hh
 ·exact zcv h hc hh
structure LvF(w:World)(p k c1 c2:Nat):Prop where
 b1:w.heap[c1]? = some (.cells #[lkP p] 30 (0,0))
 b2:w.heap[c2]? = some (.cells #[.int .i64 k] 131 (0,0))
abbrev lvV(c1 c2:Nat):Value := .func (.func 165) #[] #[.pointer (some ⟨c1,0,none⟩),.pointer (some ⟨c2,0,none⟩)]
theorem LvF.mod{p k c1 c2:Nat}{S:Nat→Prop}(h:LvF w p k c1 c2)(hm:Mod S w w')(h1 : ¬ S c1)(h2 : ¬ S c2):LvF w' p k c1 c2:=⟨hm.heap h1 h.b1,hm.heap h2 h.b2⟩
theorem XJ(p k:Nat)(w:World):Calls prog 81 #[lkP p,.int .i64 k] w fun e w'=>e=.returned (lvV w.heap.size (w.heap.size+1))∧LvF w' p k w.heap.size (w.heap.size+1)∧zb w w':=by
 have h1:=zz (o := .cells #[.int .i64 k] 131) (zi (w:=w) (o := .cells #[lkP p] 30 (0,0)) rfl);have h2:=zi (w:=w.alloc (.cells #[lkP p] 30)) (o := .cells #[.int .i64 k] 131 (0,0)) (n:=w.heap.size+1) (by simp);go_enter func81,ntmps81;go_wp2;go_ret;exact⟨rfl,⟨h1,h2⟩,((Mod.refl _ w).alloc _).alloc _⟩
def lvS(s:CaS)(k:Nat)(x:CE)(y:Wt):CaS :=
 {s with A:=zw s.A y.slot,B:=zw s.B y.slot,U:=s.U.rem (gOf s.B y.slot) y.cost,M:=vB s.M y.slot,L:=s.L.set y.slot none,evs:=s.evs++[⟨k,x,s.now⟩]}
theorem zr.nd{b':CaB}(h:zr w w' b b'){k:Nat}(hk : ¬ b.D k)(hl:k<w.heap.size) : ¬ b'.D k:=fun e=>(h.grew k e).elim hk (fun e=>by omega)
theorem zbT(B:List Wt)(s:Nat):gOf B s≤1:=by unfold gOf;split<;>omega
theorem zis(h:zo Fo w b s){k c1 c2:Nat}(hf:LvF w b.p k c1 c2)(n1 : ¬ b.D c1)(n2 : ¬ b.D c2){x:CE}{y:Wt}(hx:s.L[y.slot]? = some (some x))(hy:y∈s.A++s.B)(hev:Ev.Ok ⟨k,x,s.now⟩)(hlen:s.evs.length<1048576)(hh:s.U.holds (gOf s.B y.slot) y.cost) :
    Calls prog 165 #[.int .u32 y.slot,.pointer (some ⟨c1,0,none⟩),.pointer (some ⟨c2,0,none⟩)] w (Zi Fo w b (lvS s k x y)):=by
  have hrg:=h.order.law.rng y hy;have HOf:=za (Xd h.order hy);have HRm:=za (zli h.order hy);have HH:=za h;have HF:=za hf;have HX:=za hx;have HEV:=za hev;have HLE:=za hlen;have HHh:=za hh;have HRG:=za hrg;have N1:=za n1;have N2:=za n2;have L1:=za (zl hf.b1);have L2:=za (zl hf.b2);have hb:=h.box;have hc1:=hf.b1;clear h hf hx hev hlen hh hrg n1 n2 hy;obtain⟨g,hg⟩:=zc (gOf s.B y.slot);rw[hg]at HOf HHh;have HG:=za hg;have HGL:Hid (g≤1):=za (by rw[← hg];exact zbT _ _);clear hg;obtain⟨sl,hsl⟩:=zc y.slot;obtain⟨co,hco⟩:=zc y.cost;rw[hsl]at HOf HRm HX HG HRG ⊢;rw[hco]at HOf HHh HRG;have HSL:=za hsl;have HCO:=za hco;clear hsl hco;obtain⟨hb_0,hb_1,hb_2,hb_3,hb_4,hb_5,hb_6,hb_7,hb_8,hb_9,hb_10,hb_f,hb_l,H_hb⟩:=yE hb;clear hb;obtain⟨hc1_0,hc1_f,hc1_l,H_hc1⟩:=cr1 hc1;clear hc1;go_enter func165,ntmps165;go_upto_region 2 with(first
    | (go_at_call 75;refine HOf.out.mono ?_;rintro e w' ⟨rfl,rfl⟩)
    | (go_at_call 166;refine HRm.out.mono ?_;rintro e w1 ⟨rfl,hr1,hm1⟩))
  clear hb_0 hb_1 hb_2 hb_3 hb_4 hb_5 hb_6 hb_7 hb_8 hb_9 hb_10 hb_f hb_l;clear hc1_0 hc1_f hc1_l;clear H_hb H_hc1;obtain⟨b1,C1,T1⟩ : ∃ b1,zo Fo w1 b1 {s with A:=zw s.A sl,B:=zw s.B sl}∧zr w w1 b b1:=⟨_,HH.out.putOrder hr1 hm1 (fun _ h => .inl h),zr.ofOrder hm1 (fun _ h => .inl h)⟩;have HBr:=za (zdu C1.used HGL.out (by have:=HRG.out;omega) HHh.out);have hb1:=C1.box;rw[T1.p]at hb1;have hc1:=HF.out.b1;have hc1:=T1.mod.heap N1.out hc1;have HC1:=za C1;have HT1:=za T1;clear hr1 hm1 C1 T1;obtain⟨hb1_0,hb1_1,hb1_2,hb1_3,hb1_4,hb1_5,hb1_6,hb1_7,hb1_8,hb1_9,hb1_10,hb1_f,hb1_l,H_hb1⟩:=yE hb1;clear hb1;obtain⟨hc1_0,hc1_f,hc1_l,H_hc1⟩:=cr1 hc1;clear hc1;go_upto_region 3 with(go_at_call 161;refine HBr.out.mono ?_;rintro e w2 ⟨rfl,hr2,hm2⟩)
  clear hb1_0 hb1_1 hb1_2 hb1_3 hb1_4 hb1_5 hb1_6 hb1_7 hb1_8 hb1_9 hb1_10 hb1_f hb1_l;clear hc1_0 hc1_f hc1_l;clear H_hb1 H_hc1;obtain⟨b2,C2,T2⟩ : ∃ b2,zo Fo w2 b2 {s with A:=zw s.A sl,B:=zw s.B sl,U:=s.U.rem g co}∧zr w w2 b b2:=⟨_,HC1.out.putUsed hr2 hm2,HT1.out.trans (zr.ofUsed hm2)⟩;have HDr:=za (C2.due.remove (s:=sl) (by have:=HRG.out;omega));have hb2:=C2.box;rw[T2.p]at hb2;have hc1:=T2.mod.heap N1.out HF.out.b1;have HC2:=za C2;have HT2:=za T2;clear hr2 hm2 C2 T2 HC1 HT1 HBr;obtain⟨hb2_0,hb2_1,hb2_2,hb2_3,hb2_4,hb2_5,hb2_6,hb2_7,hb2_8,hb2_9,hb2_10,hb2_f,hb2_l,H_hb2⟩:=yE hb2;clear hb2;obtain⟨hc1_0,hc1_f,hc1_l,H_hc1⟩:=cr1 hc1;clear hc1;go_upto_region 4 with(go_at_call 167;refine HDr.out.mono ?_;rintro e w3 ⟨rfl,⟨D3,hr3,hg3⟩,hm3⟩)
  clear hb2_0 hb2_1 hb2_2 hb2_3 hb2_4 hb2_5 hb2_6 hb2_7 hb2_8 hb2_9 hb2_10 hb2_f hb2_l;clear hc1_0 hc1_f hc1_l;clear H_hb2 H_hc1;obtain⟨b3,C3,T3⟩ : ∃ b3,zo Fo w3 b3 {s with A:=zw s.A sl,B:=zw s.B sl,U:=s.U.rem g co,M:=vB s.M sl}∧zr w w3 b b3:=⟨_,HC2.out.putDue hr3 hm3 hg3,HT2.out.trans (zr.ofDue hm3 hg3)⟩;have HRe:=za (zi3 C3.dict (s:=sl) (x:=x.ent) (qH HX.out));have hb3:=C3.box;rw[T3.p]at hb3;have hc1:=T3.mod.heap N1.out HF.out.b1;have HC3:=za C3;have HT3:=za T3;clear hr3 hg3 hm3 C3 T3 HC2 HT2 HDr;obtain⟨hb3_0,hb3_1,hb3_2,hb3_3,hb3_4,hb3_5,hb3_6,hb3_7,hb3_8,hb3_9,hb3_10,hb3_f,hb3_l,H_hb3⟩:=yE hb3;clear hb3;obtain⟨hc1_0,hc1_f,hc1_l,H_hc1⟩:=cr1 hc1;clear hc1;go_upto_region 5 with(go_at_call 168;refine HRe.out.mono ?_;rintro e w4 ⟨va,vn,vc,rfl,hby,hfr,D4,hr4,hm4,hg4⟩)
  clear hb3_0 hb3_1 hb3_2 hb3_3 hb3_4 hb3_5 hb3_6 hb3_7 hb3_8 hb3_9 hb3_10 hb3_f hb3_l;clear hc1_0 hc1_f hc1_l;clear H_hb3 H_hc1;rw[← zjO]at hr4;obtain⟨b4,C4,T4⟩ : ∃ b4,zo Fo w4 b4 {s with A:=zw s.A sl,B:=zw s.B sl,U:=s.U.rem g co,M:=vB s.M sl,L:=s.L.set sl none}∧zr w w4 b b4:=⟨_,HC3.out.putDict (L':=s.L.set sl none) hr4 hm4 hg4,HT3.out.trans (zr.ofDict hm4 hg4)⟩;have hal:zb w4 (w4.alloc (.cells #[.string x.key,.slice va vn vc,.int .u64 x.dl,.int .u64 x.birth] 57)):=(Mod.refl _ w4).alloc _;have hbx:=zi (w:=w4) (o := .cells #[.string x.key,.slice va vn vc,.int .u64 x.dl,.int .u64 x.birth] 57 (0,0)) rfl;have hf5:=(HF.out.mod T4.mod N1.out N2.out).mod hal (fun h=>h) (fun h=>h);have HTe:=za (zdz (C4.pure hal) (x:=⟨k,x,s.now⟩) HEV.out rfl HLE.out ((yv.read hby (kO x.val)).frame hal (fun _ _ h=>h)));have T5:=T4.trans (zr.pure hal);rw[T5.p]at HTe;have HT5:=za T5;generalize w4.alloc (.cells #[.string x.key,.slice va vn vc,.int .u64 x.dl,.int .u64 x.birth] 57)=W5 at *;generalize w4.heap.size=bx at *;have g1:=hf5.b1;have g2:=hf5.b2;clear hal hr4 hm4 hg4 C4 T4 HC3 HT3 hby hfr hf5 T5;obtain⟨g1_0,g1_f,g1_l,H_g1⟩:=cr1 g1;clear g1;obtain⟨g2_0,g2_f,g2_l,H_g2⟩:=cr1 g2;clear g2;obtain⟨hbx_0,hbx_1,hbx_2,hbx_3,hbx_f,hbx_l,H_hbx⟩:=cr4 hbx;clear hbx
  go_wp2_with (go_at_call 150;refine HTe.out.mono ?_;rintro e w6 ⟨rfl,b6,C6,T6⟩)
  go_end0
  refine⟨rfl,b6,?_,HT5.out.trans T6⟩;unfold lvS;rw[HSL.out,HCO.out,HG.out];exact C6
end
def Bu.of(A B:List Wt):Bu:=⟨A.length,zv A,B.length,zv B⟩
theorem zjV{L:List Wt}{k:Nat}{x:Wt}(h:L[k]? = some x):zv (L.take (k+1))=zv (L.take k)+x.cost:=by
 rw[ua,h,vF];simp[zv]
theorem zlj{L:List Wt}{k:Nat}{x:Wt}(h:L[k]? = some x):zv (L.drop k)=x.cost+zv (L.drop (k+1)):=by
 obtain⟨h1,h2⟩:=zF.1 h;rw[kU h1,h2,uZ]
theorem Aztpt {P:Prop}(h:P:=by
 cases a with
 | none =>
  have:=h0 rfl;have:=(zF.1 hu).1;omega
 | some ad=>exact⟨ad,rfl,hc ad rfl _ _ hu⟩):P:=h
theorem K7{w:World}{a:Option Addr}{n c:Nat}{L:List Nat}(h:zn w (.slice a n c) 1 (zU L)){j:Nat}{x:Nat}(hx:L[j]? = some x) : ∃ ad,a=some ad∧w.cell? (ad.add j)=some (.int .u32 x):=by
 obtain⟨a',n',c',e,hl,_,h0,hc⟩:=h;injection e with e1 e2 e3
 subst e1 e2 e3;have hu:(zU L)[j]? = some (.int .u32 x):=by unfold zU;rw[yw,hx];rfl
 exact Aztpt
section
variable{Fo:Nat→Prop}{w w':World}{b:CaB}{s:CaS}
theorem zmp(h:zo Fo w b s){ys:List Wt}{a:Option Addr}{n c:Nat}(hr:zn w (.slice a n c) 1 (zU (zA ys)))(hn:ys.length=n)(hnd : ∀ g,um (.slice a n c)=some g → ¬ b.D g)
    (hys : ∀ y∈ys,y∈s.A++s.B) {c0 s0 nB sB:Nat} (hU:s.U=⟨c0,s0,nB+n,sB+zv ys⟩) (hz:nB=0→sB=0) (h1:c0+n≤2097152) (h2:s0+zv ys≤2305843009213693952) :
    Calls prog 89 #[lkP b.p,.slice a n c] w (Zi Fo w b {s with U:=⟨c0+n,s0+zv ys,nB,sB⟩}):=by
  have HH:=za h;have HR:=za hr;have HN:=za hn;have HND:=za hnd;have HY:=za hys;have HU:=za hU;have HZ:=za hz;have H1:=za h1;have H2:=za h2;have hn4:Hid (n≤2097152):=za (by omega);clear h hr hn hnd hys hU hz h1 h2;go_enter func89,ntmps89;go_upto_region 1 with fail
  go_loopw [11] (fun v11 wr => ∃(k:Nat) (b':CaB),v11=.int .i64 (k:Nat)∧k≤n∧zo Fo wr b' {s with U:=⟨c0+k,s0+zv (ys.take k),nB+(n-k),sB+zv (ys.drop k)⟩}∧zr w wr b b') (fun v11 _=>n-(intOf v11).toNat)
  case atStart=>exact⟨0,b,rfl,yh _,by
    have h9:=HH.out;have e:({s with U:=⟨c0+0,s0+zv (ys.take 0),nB+(n-0),sB+zv (ys.drop 0)⟩}:CaS)=s:=by
      have:=HU.out
      cases s
      simp at this ⊢;rw[this];simp[j8]
    rw[e];exact h9,zr.pure (Mod.refl _ _)⟩
  case round =>
    obtain⟨k,b',rfl,hk,hC,hT⟩:=hrel;have HC:=za hC;have HT:=za hT;clear hC hT;by_cases hlt:k<n
    · have hlt':(k:Int)<(n:Int):=by omega
      have k0:(0:Int)≤(k:Int):=by omega
      have wk:IntKind.i64.wrap ((k:Int)+1)=(k:Int)+1:=zt _ (by have:=hn4.out;omega);obtain⟨y,hy⟩ : ∃ y,ys[k]? = some y:=⟨_,zN (by rw[HN.out];exact hlt)⟩;have hsy:(zA ys)[k]? = some y.slot:=by unfold zA;rw[yw,hy];rfl
      obtain⟨ad,had,z0⟩:=K7 (HR.out.frame HT.out.mod HND.out) hsy;subst had;have hmem:=HY.out y (yd hy);have ht:=zjV hy;have hd:=zlj hy;have HOf:=za (Xd HC.out.order hmem);have hrg:=HC.out.order.law.rng y hmem;have hcs:zv (ys.take k)+(y.cost+zv (ys.drop (k+1)))=zv ys:=by
        rw[← hd,← vF,Yy]
      have HM:=za (zhj HC.out.used (c:=y.cost) hrg.2 (by show c0+k+1≤2097152;have:=H1.out;omega) (by show s0+zv (ys.take k)+y.cost≤_;have:=H2.out;omega) (by
        show Bu.holds ⟨c0+k,s0+zv (ys.take k),nB+(n-k),sB+zv (ys.drop k)⟩ 1 y.cost
        unfold Bu.holds Bu.cnt Bu.sum;simp only[Nat.one_ne_zero,if_false];rw[hd];by_cases e:nB+(n-k)=1
        · have e1:nB=0:=by omega
          have e2:k+1=n:=by omega
          have e3:=HZ.out e1;have e4:ys.drop (k+1)=[]:=ZP (by rw[HN.out];omega);rw[e4,j8];exact .inr ⟨e,by omega⟩
        · exact .inl ⟨by omega,by omega⟩))
      have hb:=HC.out.box;rw[HT.out.p]at hb;obtain⟨sl,hsl⟩:=zc y.slot;obtain⟨co,hco⟩:=zc y.cost;have HCO:=za hco;have HTS:=za ht;have HDS:=za hd;rw[hsl]at z0 HOf;rw[hco]at HOf HM;clear hy hsy hmem ht hd hrg hcs hsl hco;obtain⟨g,hg⟩:=zc (gOf s.B sl);dsimp only at HOf;rw[hg]at HOf;clear hg;obtain⟨hb_0,hb_1,hb_2,hb_3,hb_4,hb_5,hb_6,hb_7,hb_8,hb_9,hb_10,hb_f,hb_l,H_hb⟩:=yE hb;clear hb;go_upto_region 5 with(first
        | (go_at_call 75;refine HOf.out.mono ?_;rintro e w' ⟨rfl,rfl⟩)
        | (go_at_call 176;refine HM.out.mono ?_;rintro e w2 ⟨rfl,hr2,hm2⟩))
      clear hb_0 hb_1 hb_2 hb_3 hb_4 hb_5 hb_6 hb_7 hb_8 hb_9 hb_10 hb_f hb_l;clear H_hb;have HC2:=za (HC.out.putUsed hr2 hm2);have HT2:=za (HT.out.trans (zr.ofUsed hm2));clear hr2 hm2;go_wp2;go_roundw
      case rel =>
        refine⟨k+1,b',by first | rfl | simp,hlt,?_,HT2.out⟩;have e1:(⟨c0+(k+1),s0+zv (ys.take (k+1)),nB+(n-(k+1)),sB+zv (ys.drop (k+1))⟩:Bu)=⟨c0+k+1,s0+zv (ys.take k)+co,nB+(n-k)-1,sB+zv (ys.drop k)-co⟩:=by
          have:=HTS.out;have:=HDS.out;have:=HCO.out
          congr 1<;>omega
        rw[e1];exact HC2.out
      case measure=>simp[intOf];omega
    · have hlt' : ¬ (k:Int)<(n:Int):=by omega
      obtain rfl:k=n:=by omega
      go_wp2
      go_end0
      refine⟨rfl,b',?_,HT.out⟩;have h9:=HC.out;rw[kM (by rw[HN.out];exact zG _),ZP (by rw[HN.out];exact zG _),j8,ZD,XR,XR]at h9;exact h9
end
end
end Go.Proofs.YtpplkcnknabofaaGreatDoor
