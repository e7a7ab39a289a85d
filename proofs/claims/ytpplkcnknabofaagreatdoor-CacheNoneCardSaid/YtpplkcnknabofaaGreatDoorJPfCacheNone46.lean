/- Lemmas and contracts of functions. No condition. -/
import Derived.Test.YtpplkcnknabofaaGreatDoorJPfCacheNone32
import Derived.Test.YtpplkcnknabofaaGreatDoorJPfCacheNone34
import Derived.Test.YtpplkcnknabofaaGreatDoorJPfCacheNone35
import Derived.Test.YtpplkcnknabofaaGreatDoorJPfCacheNone36
namespace Go.Proofs.YtpplkcnknabofaaGreatDoor
open _root_.Go.Proofs.Tryz
set_option maxRecDepth 100000
set_option maxHeartbeats 20000000
set_option linter.all false
section
open Go.RowKit Go.Shelf
def ku:Nat→Nat→List UInt8
 | 0,_=>[]
 | f+1,n=>if n<10 then[UInt8.ofNat (48+n)]else ku f (n/10)++[UInt8.ofNat (48+n%10)]
def JB(n:Nat):List UInt8:=ku 20 n
theorem Vj : ∀ f n:Nat,(ku f n).length≤f
 | 0,_=>zG _
 | f+1,n=>by
  unfold ku;split
  ·simp
  ·rw[zR];have:=Vj f (n/10)
   show _+1≤_
   omega
def yp(l:List UInt8):ByteArray:=⟨l.toArray⟩
theorem zhe(a b:List UInt8):yp a++yp b=yp (a++b):=by
 unfold yp;apply ByteArray.ext;simp
section
variable{w:World}
theorem K4(x:UInt8):zn (w.alloc (.cells #[.int .u8 (x.toNat:Nat)] 5)) (.slice (some ⟨w.heap.size,0,none⟩) 1 1) 1 (zJ [x]):=by
 have h:zJ [x]=[.int .u8 (x.toNat:Nat)]:=rfl;rw[h];exact zn.of_block 1 1 1 (zi rfl) (by rfl) (by simp[Value.oneCell'])
theorem Azup2 {P:Prop}(h:P:=by
 refine hTk 9 ?_;refine hTk 10 ?_;refine hDn ?_;clear h_;go_wp2;go_ret;exact⟨rfl,HPW.out⟩):P:=h
theorem Qd : ∀(f n:Nat) (w:World),n<10 ^ f→n<18446744073709551616→0<f→f≤1000→Calls prog 97 #[.int .u64 n] w fun e w'=>e=.returned (.string (yp (ku f n)))∧zb w w'
 | 0,_,_,_,_,h,_=>by omega
 | f+1,n,w,hn,h64,_,hf1=>by
  by_cases c:n<10
  ·have e9:ku (f+1) n=[UInt8.ofNat (48+n)]:=by rw[ku,zk c]
   rw[e9];have d1:(n:Int)<10:=by omega
   have w1:IntKind.u64.wrap (48+(n:Int))=48+(n:Int):=by simp[IntKind.wrap,IntKind.signed,IntKind.bits];omega
   have w2:IntKind.u8.wrap (48+(n:Int))=48+(n:Int):=by simp[IntKind.wrap,IntKind.signed,IntKind.bits];omega
   obtain⟨x,hx,e3⟩ : ∃ x:UInt8,UInt8.ofNat (48+n)=x∧(48+(n:Int))=(x.toNat:Nat):=⟨_,rfl,by
    have:(UInt8.ofNat (48+n)).toNat=48+n:=by simp;omega
    rw[this];omega⟩
   rw[hx];have k1:=qk (w:=w.alloc (.cells #[.int .u8 (x.toNat:Nat)] 5)) [x] (K4 _);rw[← e3]at k1;have hp:zb w (w.alloc (.cells #[.int .u8 (48+(n:Int))] 5)):=(Mod.refl _ w).alloc _;clear hn h64 e9 e3 hx;go_enter func97,ntmps97;go_wp2;go_ret;exact⟨rfl,hp⟩
  ·have e9:ku (f+1) n=ku f (n/10)++[UInt8.ofNat (48+n%10)]:=by rw[ku,zh c]
   rw[e9];have hf0:0<f:=by
    rcases Nat.eq_zero_or_pos f with rfl | h
    ·simp at hn;omega
    ·exact h
   have hpw:(10:Nat) ^ (f+1)=10 ^ f*10:=jY 10 f;have hq10:n/10<10 ^ f:=by omega
   have hq64:n/10<18446744073709551616:=by omega
   have ih:=fun W=>Qd f (n/10) W hq10 hq64 hf0 (by omega)
   obtain⟨q,hq⟩:=zc (n/10);obtain⟨r,hr⟩:=zc (n%10);have hrl:r<10:=by omega
   have d1 : ¬ (n:Int)<10:=by omega
   have eq:(n:Int)/10=(q:Nat):=by omega
   have er:(n:Int)%10=(r:Nat):=by omega
   have w1:IntKind.u64.wrap (48+(r:Int))=48+(r:Int):=by simp[IntKind.wrap,IntKind.signed,IntKind.bits];omega
   have w2:IntKind.u8.wrap (48+(r:Int))=48+(r:Int):=by simp[IntKind.wrap,IntKind.signed,IntKind.bits];omega
   have w3:IntKind.u64.wrap (q:Int)=q:=by simp[IntKind.wrap,IntKind.signed,IntKind.bits];omega
   have w4:IntKind.u64.wrap (r:Int)=r:=by simp[IntKind.wrap,IntKind.signed,IntKind.bits];omega
   have t1:Int.tdiv (n:Int) 10=(q:Nat):=by rw[Up (by omega)];exact eq
   have t2:Int.tmod (n:Int) 10=(r:Nat):=by rw[Int.tmod_eq_emod_of_nonneg (by omega)];exact er
   rw[hq]at ih ⊢;rw[hr];obtain⟨x,hx,e3⟩ : ∃ x:UInt8,UInt8.ofNat (48+r)=x∧(48+(r:Int))=(x.toNat:Nat):=⟨_,rfl,by
    have:(UInt8.ofNat (48+r)).toNat=48+r:=by simp;omega
    rw[this];omega⟩
   rw[hx,← zhe];have k1:=fun W:World=>qk (w:=W.alloc (.cells #[.int .u8 (x.toNat:Nat)] 5)) [x] (K4 _)
   rw[← e3]at k1;have KB:=fun W:World=>K4 (w:=W) x
   rw[← e3]at KB;have IH:=za ih;obtain⟨L,hL⟩:=zc (yp (ku f q));rw[hL]at IH ⊢;have hls : ¬ 9223372036854775807<L.size+1:=by
    have h1:=Vj f q;have h2:L.size=(ku f q).length:=by rw[← hL];rfl
    omega
   clear hn h64 e9 e3 hx ih hpw hq10 hq64 hf0 hq hr hL eq er hrl c hf1;go_enter func97,ntmps97;go_upto_region 3 with fail
   refine rHd (S:=fun _=>True) trivial (fun h_ => ?_);refine hTk 0 ?_;refine hTk 1 ?_;refine hTk 3 ?_;refine hTk 4 ?_;refine hTk 5 ?_;refine hTk 6 ?_;refine vI (rs:=[2,7]) (by kernel_rfl) (by simp) ?_;refine xE rfl (fun K1 hK1 => ?_) (xE rfl (fun K1 hK1 => ?_) vM)
   ·go_simp;refine(IH.out _).mono ?_;rintro e u1 ⟨rfl,hq1⟩;refine hK1.out _ _ trivial (fun h_ => ?_);clear hK1 K1;refine clA ?_;have kk:=k1 u1;have hpw:zb w (u1.alloc (.cells #[.int .u8 (48+(r:Int))] 5)):=((Mod.refl (fun _=>False) w).drew.trans hq1).alloc _;have HPW:=za hpw
    (refine hSt 7 (fun K hK => ?_);go_simp;refine hK.out _ _ ?_ (fun h_ => ?_);(· trivial);clear hK K;refine clA ?_)
    (refine hSt 8 (fun K hK => ?_);go_simp;refine hK.out _ _ ?_ (fun h_ => ?_);(· trivial);clear hK K;refine clA ?_)
    clear kk hpw hq1;exact Azup2
   ·go_simp;refine hK1.out _ _ trivial (fun h_ => ?_);clear hK1 K1;refine clA ?_;have hal:zb w (w.alloc (.cells #[.int .u8 (48+(r:Int))] 5)).drew:=((Mod.refl _ w).alloc _).drew;have hz:=zi (w:=w) (o := .cells #[.int .u8 (48+(r:Int))] 5 (0,0)) rfl;refine vI (rs:=[2,8]) (by kernel_rfl) (by simp) ?_;refine xE rfl (fun K1 hK1 => ?_) (xE rfl (fun K1 hK1 => ?_) vM)
    ·go_simp;refine(IH.out _).mono ?_;rintro e u1 ⟨rfl,hq1⟩;refine hK1.out _ _ trivial (fun h_ => ?_);clear hK1 K1;refine clA ?_;have kk:(convert 34 9 (.slice (some ⟨w.heap.size,0,none⟩) 1 1)).run prog u1=.ok (.string ⟨[x].toArray⟩) u1:=qk [x] ((KB w).frame ((((Mod.refl (fun _=>False) _).drew).trans hq1)) (fun _ _ h=>h));have HPW:=za (hal.trans hq1)
     (refine hSt 8 (fun K hK => ?_);go_simp;refine hK.out _ _ ?_ (fun h_ => ?_);(· trivial);clear hK K;refine clA ?_)
     clear kk hal hq1 hz;exact Azup2
    ·have kk:=k1 w;have kk2:(convert 34 9 (.slice (some ⟨w.heap.size,0,none⟩) 1 1)).run prog (w.alloc (.cells #[.int .u8 (48+(r:Int))] 5)).drew=.ok (.string ⟨[x].toArray⟩) (w.alloc (.cells #[.int .u8 (48+(r:Int))] 5)).drew:=qk [x] ((KB w).frame ((Mod.refl (fun _=>False) _).drew) (fun _ _ h=>h));go_simp;refine hK1.out _ _ trivial (fun h_ => ?_);clear hK1 K1 kk kk2;refine clA ?_
     (refine hSt 2 (fun K hK => ?_);go_simp;refine(IH.out _).mono ?_;rintro e u1 ⟨rfl,hq1⟩;refine hK.out _ _ ?_ (fun h_ => ?_);(· trivial);clear hK K;refine clA ?_)
     have HPW:=za (hal.trans hq1);clear hal hq1 hz;exact Azup2
end
def Zr(t:Nat):List UInt8:=if t=18446744073709551615 then[110,101,118,101,114]else JB t
section
variable{w w':World}
theorem zaD(t:Nat)(ht:t≤18446744073709551615)(w:World):Calls prog 219 #[.int .u64 t] w fun e w'=>e=.returned (.string (yp (Zr t)))∧zb w w':=by
 have HD:=za (fun W=>Qd 20 t W (by omega) (by omega) (by omega) (by omega));unfold Zr;by_cases c:t=18446744073709551615
 ·subst c;rw[zk rfl];clear HD ht;go_enter func219,ntmps219;go_wp2;go_ret;exact⟨rfl,Mod.refl _ _⟩
 ·rw[zh c];have h2:((t:Int)==18446744073709551615)=false:=by rw[uE];omega
  clear c ht;go_enter func219,ntmps219
  go_wp2_with (go_at_call 97;refine(HD.out _).mono ?_;rintro e w' ⟨rfl,hp⟩)
  go_ret;exact⟨rfl,hp⟩
def Xn:Nat→List UInt8
 | 1=>[101,120,112,105,114,101,100]
 | 2=>[101,118,105,99,116,101,100]
 | 3=>[114,101,112,108,97,99,101,100]
 | 4=>[100,101,108,101,116,101,100]
 | 5=>[99,108,101,97,114,101,100]
 | _=>[]
theorem ziB{k:Nat}(hk:1≤k∧k≤5)(w:World):Calls prog 220 #[.int .i64 k] w fun e w'=>e=.returned (.string (yp (Xn k)))∧zb w w':=by
 obtain rfl | rfl | rfl | rfl | rfl:k=1∨k=2∨k=3∨k=4∨k=5:=by omega
 all_goals
  go_enter func220,ntmps220
  go_wp2_with go_in
  go_ret;exact⟨rfl,(Mod.refl _ _).alloc _⟩
def zaK(n:Nat):UInt8:=if n<10 then UInt8.ofNat (48+n)else UInt8.ofNat (87+n)
def xP(l:List UInt8):List UInt8:=if l=[]then[45]else l.flatMap (fun x=>[zaK (x.toNat/16),zaK (x.toNat%16)])
abbrev zj4(x a b:UInt8)(y c d i j:Int):Prop :=
 (x=97∧a=54∧b=49∧y=97∧c=54∧d=49∧i=6∧j=1) ∨
 (x=98∧a=54∧b=50∧y=98∧c=54∧d=50∧i=6∧j=2) ∨
 (x=99∧a=54∧b=51∧y=99∧c=54∧d=51∧i=6∧j=3) ∨
 (x=119∧a=55∧b=55∧y=119∧c=55∧d=55∧i=7∧j=7) ∨
 (x=120∧a=55∧b=56∧y=120∧c=55∧d=56∧i=7∧j=8) ∨
 (x=121∧a=55∧b=57∧y=121∧c=55∧d=57∧i=7∧j=9) ∨
 (x=122∧a=55∧b=97∧y=122∧c=55∧d=97∧i=7∧j=10)
theorem Yf{x a b:UInt8}{y c d i j:Int}(h:zj4 x a b y c d i j)(w:World):Calls prog 221 #[.string ⟨#[x]⟩] w fun e w'=>e=.returned (.string (yp (xP [x])))∧zb w w':=by
 obtain⟨i0,hi,iz0,iz1,iz2⟩:=xn KV;have e9:yp (xP [x])=yp [a,b]:=by
  rcases h with⟨rfl,rfl,rfl,rfl,rfl,rfl,rfl,rfl⟩ | ⟨rfl,rfl,rfl,rfl,rfl,rfl,rfl,rfl⟩ | ⟨rfl,rfl,rfl,rfl,rfl,rfl,rfl,rfl⟩ | ⟨rfl,rfl,rfl,rfl,rfl,rfl,rfl,rfl⟩ | ⟨rfl,rfl,rfl,rfl,rfl,rfl,rfl,rfl⟩ | ⟨rfl,rfl,rfl,rfl,rfl,rfl,rfl,rfl⟩ | ⟨rfl,rfl,rfl,rfl,rfl,rfl,rfl,rfl⟩<;>decide +kernel
 have hv : ∀ W:World,zn (W.alloc (.cells #[.int .u8 c,.int .u8 d] 5)) (.slice (some ⟨W.heap.size,0,none⟩) 2 2) 1 (zJ [a,b]):=by
  intro W;rcases h with⟨rfl,rfl,rfl,rfl,rfl,rfl,rfl,rfl⟩ | ⟨rfl,rfl,rfl,rfl,rfl,rfl,rfl,rfl⟩ | ⟨rfl,rfl,rfl,rfl,rfl,rfl,rfl,rfl⟩ | ⟨rfl,rfl,rfl,rfl,rfl,rfl,rfl,rfl⟩ | ⟨rfl,rfl,rfl,rfl,rfl,rfl,rfl,rfl⟩ | ⟨rfl,rfl,rfl,rfl,rfl,rfl,rfl,rfl⟩ | ⟨rfl,rfl,rfl,rfl,rfl,rfl,rfl,rfl⟩<;>exact zn.of_block 2 2 1 (zi rfl) (by rfl) (by simp[Value.oneCell'])
 rw[e9];clear e9;obtain⟨L,hL⟩:=zc ([a,b]);have hl:L.length=2:=by rw[← hL];rfl
 obtain⟨Y,hY⟩ : ∃ Y,Y=y:=⟨_,rfl⟩;obtain⟨C,hC⟩ : ∃ C,C=c:=⟨_,rfl⟩;obtain⟨E,hE⟩ : ∃ E,E=d:=⟨_,rfl⟩;obtain⟨I,hI⟩ : ∃ I,I=i:=⟨_,rfl⟩;obtain⟨J,hJ⟩ : ∃ J,J=j:=⟨_,rfl⟩;rw[hL,← hC,← hE]at hv;rw[hL];have HV:=za hv;have HL:=za hl;clear hv hL hl;rcases h with⟨rfl,rfl,rfl,rfl,rfl,rfl,rfl,rfl⟩ | ⟨rfl,rfl,rfl,rfl,rfl,rfl,rfl,rfl⟩ | ⟨rfl,rfl,rfl,rfl,rfl,rfl,rfl,rfl⟩ | ⟨rfl,rfl,rfl,rfl,rfl,rfl,rfl,rfl⟩ | ⟨rfl,rfl,rfl,rfl,rfl,rfl,rfl,rfl⟩ | ⟨rfl,rfl,rfl,rfl,rfl,rfl,rfl,rfl⟩ | ⟨rfl,rfl,rfl,rfl,rfl,rfl,rfl,rfl⟩
 all_goals
  have HY:=za hY;have HC:=za hC;have HE:=za hE;have HI:=za hI;have HJ:=za hJ;clear hY hC hE hI hJ;go_enter func221,ntmps221;go_upto_region 5 with fail
  go_loopw [3,4] (fun v3 v4 wr=>(v3=.slice none 0 0∧v4=.int .i64 0∧zb w wr)∨(∃ a c,v3=.slice a 2 c∧v4=.int .i64 1∧zn wr (.slice a 2 c) 1 (zJ L)∧zb w wr)) (fun _ v4 _=>1-(intOf v4).toNat)
  case atStart=>exact .inl ⟨rfl,rfl,Mod.refl _ _⟩
  case round =>
   rcases hrel with⟨rfl,rfl,hp⟩ | ⟨a,c,rfl,rfl,hrd,hp⟩
   ·have HP:=za hp;clear hp;go_upto_region 7 with fail
    refine rHd (S:=fun _=>True) trivial (fun h_ => ?_);refine hTk 0 ?_;refine hTk 1 ?_;refine hTk 2 ?_
    (refine Y0 3 (.int .u8 Y) ?_ (hy:=Or.inl ⟨by rfl,by(intro w;simp only[HY.out];go_simp;try rfl)⟩))
    (refine Y0 4 (.int .u8 I) ?_ (hy:=Or.inl ⟨by rfl,by(intro w;simp only[HY.out,HI.out];go_simp;try rfl)⟩))
    (refine Y0 5 (.int .u8 C) ?_ (hy:=Or.inl ⟨by rfl,by(intro w;simp only[HI.out,HC.out];go_simp;try rfl)⟩))
    refine hTk 6 ?_;refine hTk 7 ?_
    (refine Y0 8 (.int .u8 Y) ?_ (hy:=Or.inl ⟨by rfl,by(intro w;simp only[HY.out];go_simp;try rfl)⟩))
    (refine Y0 9 (.int .u8 J) ?_ (hy:=Or.inl ⟨by rfl,by(intro w;simp only[HY.out,HJ.out];go_simp;try rfl)⟩))
    (refine Y0 10 (.int .u8 E) ?_ (hy:=Or.inl ⟨by rfl,by(intro w;simp only[HJ.out,HE.out];go_simp;try rfl)⟩))
    (refine hSt 11 (fun K hK => ?_);go_simp;refine hK.out _ _ ?_ (fun h_ => ?_);(· trivial);clear hK K;refine clA ?_)
    have hR:=(HV.out wr).frame ((Mod.refl (fun _=>False) _).drew) (fun _ _ h=>h);refine vI (rs:=[12]) (by kernel_rfl) (by simp) ?_;refine xE rfl (fun K2 hK2 => ?_) vM;refine XQ _ (by rfl) _ _ 34 (by rfl) 5 i0 _ 1 1 underlying34 hi iz0 iz1 iz2 rfl (by decide) (.slice none 0 0) 0 [] (by rfl) (vj _ _ _ _) _ (zJ L) 2 (by rfl) hR (by rw[uP,HL.out]) (by unfold maxLen;omega) (by omega) ?_;intro a7 c7 w5 hr7 hg7 hb7;refine hK2.out _ _ trivial (fun h_ => ?_);clear hK2 K2;refine clA ?_;refine hTk 13 ?_;refine hDn ?_;clear h_;have hp5:=HP.out.trans ((((Mod.refl (fun _=>False) _).drew).alloc _).then (Mod.of_grown (S:=fun _=>False) hg7 (fun k e _=>by cases e)) (fun _ _ h=>h));have hrd:=zn.of_owns hr7 (fun u hu=>by have hu2:u∈zJ L:=hu;exact kO _ u hu2);have HP5:=za hp5;have HRD:=za hrd;clear hp5 hrd hr7 hg7 hb7;go_wp2;go_roundw
    case rel=>exact .inr ⟨a7,c7,rfl,rfl,HRD.out,HP5.out⟩
    case measure=>simp[intOf]
   ·have k1:=qk L hrd;have HP:=za hp;clear hp hrd;go_wp2;go_ret;exact⟨rfl,HP.out⟩
theorem zdG(w:World):Calls prog 221 #[.string ⟨#[97]⟩] w fun e w'=>e=.returned (.string (yp (xP [97])))∧zb w w':=Yf (y:=97) (c:=54) (d:=49) (i:=6) (j:=1) (a:=54) (b:=49) (by decide) w
theorem zfG(w:World):Calls prog 221 #[.string ⟨#[98]⟩] w fun e w'=>e=.returned (.string (yp (xP [98])))∧zb w w':=Yf (y:=98) (c:=54) (d:=50) (i:=6) (j:=2) (a:=54) (b:=50) (by decide) w
theorem zf5(w:World):Calls prog 221 #[.string ⟨#[99]⟩] w fun e w'=>e=.returned (.string (yp (xP [99])))∧zb w w':=Yf (y:=99) (c:=54) (d:=51) (i:=6) (j:=3) (a:=54) (b:=51) (by decide) w
theorem zkc(w:World):Calls prog 221 #[.string ⟨#[119]⟩] w fun e w'=>e=.returned (.string (yp (xP [119])))∧zb w w':=Yf (y:=119) (c:=55) (d:=55) (i:=7) (j:=7) (a:=55) (b:=55) (by decide) w
theorem zkF(w:World):Calls prog 221 #[.string ⟨#[120]⟩] w fun e w'=>e=.returned (.string (yp (xP [120])))∧zb w w':=Yf (y:=120) (c:=55) (d:=56) (i:=7) (j:=8) (a:=55) (b:=56) (by decide) w
theorem zmh(w:World):Calls prog 221 #[.string ⟨#[121]⟩] w fun e w'=>e=.returned (.string (yp (xP [121])))∧zb w w':=Yf (y:=121) (c:=55) (d:=57) (i:=7) (j:=9) (a:=55) (b:=57) (by decide) w
theorem zeu(w:World):Calls prog 221 #[.string ⟨#[122]⟩] w fun e w'=>e=.returned (.string (yp (xP [122])))∧zb w w':=Yf (y:=122) (c:=55) (d:=97) (i:=7) (j:=10) (a:=55) (b:=97) (by decide) w
end
section
variable{w w':World}
def sp:ByteArray:=⟨#[32]⟩
def Zp(x:Ev)(A5 A6:List UInt8):ByteArray:=yp (Zr x.tm)++sp++yp (Xn x.kind)++sp++yp (JB x.e.birth)++sp++yp (Zr x.e.dl)++sp++yp A5++sp++yp A6
def TxS(bx:Nat)(x:Ev)(v:Value)(Y:World):Prop:=Y.cell? ⟨bx,0,none⟩=some (.int .i64 x.kind)∧Y.cell? ⟨bx,1,none⟩=some (.string x.e.key)∧Y.cell? ⟨bx,2,none⟩=some v∧Y.cell? ⟨bx,3,none⟩=some (.int .u64 x.e.birth)∧Y.cell? ⟨bx,4,none⟩=some (.int .u64 x.e.dl)∧Y.cell? ⟨bx,5,none⟩=some (.int .u64 x.tm)∧(convert 34 9 v).run prog Y=.ok (.string (yp x.e.val)) Y
theorem Qv(t:Nat):(Zr t).length≤20:=by unfold Zr;split;(· decide);(· exact Vj 20 t)
theorem zlT(k:Nat):(Xn k).length≤20:=by unfold Xn;split<;>decide
theorem zfe(x:Ev)(hx:x.Ok){a:Option Addr}{n c:Nat}{A5 A6:List UInt8}(hv:zn w (.slice a n c) 1 (zJ x.e.val))(h5 : ∀ W,Calls prog 221 #[.string x.e.key] W fun e w'=>e=.returned (.string (yp A5))∧zb W w')(h6 : ∀ W,Calls prog 221 #[.string (yp x.e.val)] W fun e w'=>e=.returned (.string (yp A6))∧zb W w')(l5:A5.length≤1000)(l6:A6.length≤1000) :
  Calls prog 133 #[evV x.kind x.e.key (.slice a n c) x.e.birth x.e.dl x.tm] w fun e w'=>e=.returned (.string (Zp x A5 A6))∧zb w w':=by
 have HT1:=za (fun W=>zaD x.tm hx.tm W);have HW:=za (fun W=>ziB hx.kd W);have HD:=za (fun W=>Qd 20 x.e.birth W (by have:=hx.e.b1;omega) (by have:=hx.e.b1;omega) (by omega) (by omega));have HT4:=za (fun W=>zaD x.e.dl hx.e.d1 W);have H5:=za h5;have H6:=za h6;have z1:=Qv x.tm;have z2:=zlT x.kind;have z3:=Vj 20 x.e.birth;have z4:=Qv x.e.dl;unfold Zp JB;obtain⟨T1,e1,y1⟩ : ∃ T,yp (Zr x.tm)=T∧T.size≤20:=⟨_,rfl,z1⟩;obtain⟨T2,e2,y2⟩ : ∃ T,yp (Xn x.kind)=T∧T.size≤20:=⟨_,rfl,z2⟩;obtain⟨T3,e3,y3⟩ : ∃ T,yp (ku 20 x.e.birth)=T∧T.size≤20:=⟨_,rfl,z3⟩;obtain⟨T4,e4,y4⟩ : ∃ T,yp (Zr x.e.dl)=T∧T.size≤20:=⟨_,rfl,z4⟩;obtain⟨T5,e5,y5⟩ : ∃ T,yp A5=T∧T.size≤1000:=⟨_,rfl,l5⟩;obtain⟨T6,e6,y6⟩ : ∃ T,yp A6=T∧T.size≤1000:=⟨_,rfl,l6⟩;rw[e1]at HT1;rw[e2]at HW;rw[e3]at HD;rw[e4]at HT4;rw[e5]at H5;rw[e6]at H6;rw[e1,e2,e3,e4,e5,e6];have hal:zb w (w.alloc (.cells #[.int .i64 x.kind,.string x.e.key,.slice a n c,.int .u64 x.e.birth,.int .u64 x.e.dl,.int .u64 x.tm] 148)):=(Mod.refl _ w).alloc _;have hz:=zi (w:=w) (o := .cells #[.int .i64 x.kind,.string x.e.key,.slice a n c,.int .u64 x.e.birth,.int .u64 x.e.dl,.int .u64 x.tm] 148 (0,0)) rfl;have HV:=za (hv.frame hal (fun _ _ h=>h));have HAL:=za hal;unfold sp;clear e1 e2 e3 e4 e5 e6 z1 z2 z3 z4 h5 h6 l5 l6 hx hv hal;go_enter func133,ntmps133;go_upto_region 1 with fail
 generalize w.alloc (.cells #[.int .i64 x.kind,.string x.e.key,.slice a n c,.int .u64 x.e.birth,.int .u64 x.e.dl,.int .u64 x.tm] 148)=W1 at *;generalize w.heap.size=bx at hz ⊢;have HS:=za (fun(Y:World) (hY:zb W1 Y)=>(⟨zf Y bx 0 _ _ (0,0) (hY.heap (fun h=>h) hz),zf Y bx 1 _ _ (0,0) (hY.heap (fun h=>h) hz),zf Y bx 2 _ _ (0,0) (hY.heap (fun h=>h) hz),zf Y bx 3 _ _ (0,0) (hY.heap (fun h=>h) hz),zf Y bx 4 _ _ (0,0) (hY.heap (fun h=>h) hz),zf Y bx 5 _ _ (0,0) (hY.heap (fun h=>h) hz),qk x.e.val (HV.out.frame hY (fun _ _ h=>h))⟩:TxS bx x (.slice a n c) Y));have HD1:=za ((Mod.refl (fun _=>False) W1).drew);clear hz;refine rHd (S:=TxS bx x (.slice a n c)) (HS.out _ HD1.out) (fun h_ => ?_);refine hTk 0 ?_;refine hTk 4 ?_;refine hTk 9 ?_;refine hTk 14 ?_;refine hTk 19 ?_;refine hTk 24 ?_;refine hLd 1 ?_;refine hLd 5 ?_;refine hLd 10 ?_;refine hLd 15 ?_;refine hLd 20 ?_;refine hLd 25 ?_;refine hLd 26 ?_
 (refine hSt 2 (fun K hK => ?_);go_simp;refine(HT1.out _).mono ?_;rintro e u1 ⟨rfl,q1⟩;refine hK.out _ _ ?_ (fun h_ => ?_);(· exact HS.out _ ((HD1.out).trans q1));clear hK K;refine clA ?_)
 (refine jU 3 ?_)
 (refine hSt 6 (fun K hK => ?_);go_simp;refine(HW.out _).mono ?_;rintro e u2 ⟨rfl,q2⟩;refine hK.out _ _ ?_ (fun h_ => ?_);(· exact HS.out _ (((HD1.out).trans q1).trans q2));clear hK K;refine clA ?_)
 (refine jU 7 ?_)
 (refine jU 8 ?_)
 (refine hSt 11 (fun K hK => ?_);go_simp;refine(HD.out _).mono ?_;rintro e u3 ⟨rfl,q3⟩;refine hK.out _ _ ?_ (fun h_ => ?_);(· exact HS.out _ ((((HD1.out).trans q1).trans q2).trans q3));clear hK K;refine clA ?_)
 (refine jU 12 ?_)
 (refine jU 13 ?_)
 (refine hSt 16 (fun K hK => ?_);go_simp;refine(HT4.out _).mono ?_;rintro e u4 ⟨rfl,q4⟩;refine hK.out _ _ ?_ (fun h_ => ?_);(· exact HS.out _ (((((HD1.out).trans q1).trans q2).trans q3).trans q4));clear hK K;refine clA ?_)
 (refine jU 17 ?_)
 (refine jU 18 ?_)
 (refine hSt 21 (fun K hK => ?_);go_simp;refine(H5.out _).mono ?_;rintro e u5 ⟨rfl,q5⟩;refine hK.out _ _ ?_ (fun h_ => ?_);(· exact HS.out _ ((((((HD1.out).trans q1).trans q2).trans q3).trans q4).trans q5));clear hK K;refine clA ?_)
 (refine jU 22 ?_)
 (refine jU 23 ?_)
 (refine hSt 27 (fun K hK => ?_);go_simp;refine(H6.out _).mono ?_;rintro e u6 ⟨rfl,q6⟩;refine hK.out _ _ ?_ (fun h_ => ?_);(· exact HS.out _ (((((((HD1.out).trans q1).trans q2).trans q3).trans q4).trans q5).trans q6));clear hK K;refine clA ?_)
 (refine jU 28 ?_)
 refine hTk 29 ?_;refine hDn ?_;clear h_;have HPW:=za (HAL.out.trans (((((((HD1.out).trans q1).trans q2).trans q3).trans q4).trans q5).trans q6));clear y1 y2 y3 y4 y5 y6;go_wp2;go_ret;exact⟨rfl,HPW.out⟩
theorem zja(d t:Nat)(w:World):Calls prog 28 #[.int .u64 d,.int .u64 t] w fun e w'=>e=.returned (.bool (kE d t))∧w=w':=by
 unfold kE;by_cases h:d=18446744073709551615
 ·subst h;go_enter func28,ntmps28;go_wp2;go_ret;exact⟨by simp,rfl⟩
 ·have h':((d:Int) != 18446744073709551615)=true:=by simp;omega
  by_cases h2:d≤t
  ·have h3:(d:Int)≤(t:Int):=by omega
   go_enter func28,ntmps28;go_wp2;go_ret;exact⟨by simp[h,h2],rfl⟩
  ·have h3 : ¬ (d:Int)≤(t:Int):=by omega
   go_enter func28,ntmps28;go_wp2;go_ret;exact⟨by simp[h,h2],rfl⟩
theorem zjo(k:Int)(key:ByteArray)(a:Option Addr)(n c b d t:Nat)(w:World):Calls prog 179 #[evV k key (.slice a n c) b d t] w fun e w'=>e=.returned (.agg #[.string key,.slice a n c,.int .u64 d,.int .u64 b])∧zb w w':=by
 have hp0:zb w ((w.alloc (.cells #[.int .i64 k,.string key,.slice a n c,.int .u64 b,.int .u64 d,.int .u64 t] 148)).alloc (.cells #[.string ⟨#[]⟩,.slice none 0 0,.int .u64 0,.int .u64 0] 57)):=((Mod.refl _ w).alloc _).alloc _;have h1:=zz (o := .cells #[.string ⟨#[]⟩,.slice none 0 0,.int .u64 0,.int .u64 0] 57) (zi (w:=w) (o := .cells #[.int .i64 k,.string key,.slice a n c,.int .u64 b,.int .u64 d,.int .u64 t] 148 (0,0)) rfl);have h2:=zi (w:=w.alloc (.cells #[.int .i64 k,.string key,.slice a n c,.int .u64 b,.int .u64 d,.int .u64 t] 148)) (o := .cells #[.string ⟨#[]⟩,.slice none 0 0,.int .u64 0,.int .u64 0] 57 (0,0)) (n:=w.heap.size+1) (by simp);have HP:=za hp0;clear hp0;go_enter func179,ntmps179;go_upto_region 1 with fail
 generalize(w.alloc (.cells #[.int .i64 k,.string key,.slice a n c,.int .u64 b,.int .u64 d,.int .u64 t] 148)).alloc (.cells #[.string ⟨#[]⟩,.slice none 0 0,.int .u64 0,.int .u64 0] 57)=W1 at *;obtain⟨q,hq⟩:=zc w.heap.size;rw[hq]at h1 h2 ⊢;have H2:=za h2;obtain⟨h1_0,h1_1,h1_2,h1_3,h1_4,h1_5,h1_f,h1_l,H_h1⟩:=cr6 h1;clear h1;obtain⟨h2_0,h2_1,h2_2,h2_3,h2_f,h2_l,H_h2⟩:=cr4 h2;clear h2;go_wp2;obtain⟨Y,hY⟩:=zc ((((W1.setCell ⟨q+1,0,none⟩ (.string key)).setCell ⟨q+1,1,none⟩ (.slice a n c)).setCell ⟨q+1,2,none⟩ (.int .u64 d)).setCell ⟨q+1,3,none⟩ (.int .u64 b));obtain⟨g1,g2⟩:=qy H2.out hY;rw[hY];obtain⟨g2_0,g2_1,g2_2,g2_3,g2_f,g2_l,H_g2⟩:=cr4 g2;clear g2;exact zK (v := .agg #[.string key,.slice a n c,.int .u64 d,.int .u64 b]) (by simp[results,results179,go_sem,g2_0,g2_1,g2_2,g2_3]) rfl ⟨rfl,HP.out.then g1 (fun i hi e=>by omega)⟩
theorem zjZ(key:ByteArray)(a:Option Addr)(n c b d:Nat)(h0:0<key.size)(h1:key.size≤250)(h2:n≤65536)(h3:0<b)(w:World):Calls prog 128 #[.agg #[.string key,.slice a n c,.int .u64 d,.int .u64 b]] w fun e w'=>e=.returned (.bool true)∧zb w w':=by
 have hp0:zb w (w.alloc (.cells #[.string key,.slice a n c,.int .u64 d,.int .u64 b] 57)):=(Mod.refl _ w).alloc _;have d0:(1:Int)≤(key.size:Int):=by omega
 have d1:(key.size:Int)≤250:=by omega
 have d2:(n:Int)≤65536:=by omega
 have d3:(1:Int)≤(b:Int):=by omega
 have hz:=zi (w:=w) (o := .cells #[.string key,.slice a n c,.int .u64 d,.int .u64 b] 57 (0,0)) rfl;have HP:=za hp0;clear hp0;go_enter func128,ntmps128;go_upto_region 1 with fail
 generalize w.alloc (.cells #[.string key,.slice a n c,.int .u64 d,.int .u64 b] 57)=W1 at *;generalize w.heap.size=q at hz ⊢;obtain⟨hz_0,hz_1,hz_2,hz_3,hz_f,hz_l,H_hz⟩:=cr4 hz;clear hz;go_wp2;go_ret;exact⟨rfl,HP.out⟩
def VaS(bx:Nat)(x:Ev)(v:Value)(Y:World):Prop:=Y.cell? ⟨bx,0,none⟩=some (.int .i64 x.kind)∧Y.cell? ⟨bx,1,none⟩=some (.string x.e.key)∧Y.cell? ⟨bx,2,none⟩=some v∧Y.cell? ⟨bx,3,none⟩=some (.int .u64 x.e.birth)∧Y.cell? ⟨bx,4,none⟩=some (.int .u64 x.e.dl)∧Y.cell? ⟨bx,5,none⟩=some (.int .u64 x.tm)
theorem zk2(x:Ev)(hx:x.Ok){a:Option Addr}{n c:Nat}(hn:n=x.e.val.length) :
  Calls prog 95 #[evV x.kind x.e.key (.slice a n c) x.e.birth x.e.dl x.tm] w fun e w'=>e=.returned (.bool true)∧zb w w':=by
 have HOf:=za (fun W=>zjo (x.kind:Int) x.e.key a n c x.e.birth x.e.dl x.tm W);have HEn:=za (fun W=>zjZ x.e.key a n c x.e.birth x.e.dl hx.e.k0 hx.e.k1 (by have:=hx.e.v1;omega) hx.e.b0 W);have HDu:=za (fun W=>zja x.e.dl x.tm W);rw[hx.du]at HDu;have d0:(1:Int)≤(x.kind:Int):=by have:=hx.kd;omega
 have d1:(x.kind:Int)≤5:=by have:=hx.kd;omega
 have d2:((x.kind:Int)==1)=(x.kind==1):=by
  by_cases c:x.kind=1
  ·rw[c];rfl
  ·rw[uE.2 c,uE.2 (by omega)]
 obtain⟨kb,hkb⟩:=zc ((x.kind==1));rw[hkb]at HDu d2;have hal:zb w (w.alloc (.cells #[.int .i64 x.kind,.string x.e.key,.slice a n c,.int .u64 x.e.birth,.int .u64 x.e.dl,.int .u64 x.tm] 148)):=(Mod.refl _ w).alloc _;have hz:=zi (w:=w) (o := .cells #[.int .i64 x.kind,.string x.e.key,.slice a n c,.int .u64 x.e.birth,.int .u64 x.e.dl,.int .u64 x.tm] 148 (0,0)) rfl;have HAL:=za hal;clear hx hal hkb hn;go_enter func95,ntmps95;go_upto_region 1 with fail
 generalize w.alloc (.cells #[.int .i64 x.kind,.string x.e.key,.slice a n c,.int .u64 x.e.birth,.int .u64 x.e.dl,.int .u64 x.tm] 148)=W1 at *;generalize w.heap.size=bx at hz ⊢;have HS:=za (fun(Y:World) (hY:zb W1 Y)=>(⟨zf Y bx 0 _ _ (0,0) (hY.heap (fun h=>h) hz),zf Y bx 1 _ _ (0,0) (hY.heap (fun h=>h) hz),zf Y bx 2 _ _ (0,0) (hY.heap (fun h=>h) hz),zf Y bx 3 _ _ (0,0) (hY.heap (fun h=>h) hz),zf Y bx 4 _ _ (0,0) (hY.heap (fun h=>h) hz),zf Y bx 5 _ _ (0,0) (hY.heap (fun h=>h) hz)⟩:VaS bx x (.slice a n c) Y));have HD1:=za ((Mod.refl (fun _=>False) W1).drew);clear hz;refine rHd (S:=VaS bx x (.slice a n c)) (HS.out _ HD1.out) (fun h_ => ?_);refine hTk 0 ?_;refine hLd 1 ?_;refine hTk 2 ?_;refine hTk 3 ?_;refine hTk 4 ?_;refine hLd 5 ?_;refine hTk 6 ?_;refine hTk 7 ?_;refine hTk 8 ?_;refine hLd 9 ?_
 (refine hSt 10 (fun K hK => ?_);go_simp;refine(HOf.out _).mono ?_;rintro e u1 ⟨rfl,q1⟩;refine hK.out _ _ ?_ (fun h_ => ?_);(· exact HS.out _ (HD1.out.trans q1));clear hK K;refine clA ?_)
 (refine hSt 11 (fun K hK => ?_);go_simp;refine(HEn.out _).mono ?_;rintro e u2 ⟨rfl,q2⟩;refine hK.out _ _ ?_ (fun h_ => ?_);(· exact HS.out _ ((HD1.out.trans q1).trans q2));clear hK K;refine clA ?_)
 refine hTk 12 ?_;refine hTk 13 ?_;refine hTk 14 ?_;refine hLd 15 ?_;refine hTk 16 ?_;refine hLd 17 ?_;refine hTk 19 ?_;refine hLd 20 ?_;refine hTk 21 ?_
 (refine hSt 18 (fun K hK => ?_);go_simp;refine(HDu.out _).mono ?_;rintro e u3 ⟨rfl,rfl⟩;refine hK.out _ _ ?_ (fun h_ => ?_);(· exact HS.out _ ((HD1.out.trans q1).trans q2));clear hK K;refine clA ?_)
 refine hTk 22 ?_;refine hTk 23 ?_;refine hTk 24 ?_;refine hDn ?_;clear h_;have HPW:=za (HAL.out.trans ((HD1.out.trans q1).trans q2));go_wp2;go_ret;exact⟨rfl,HPW.out⟩
end
end
end Go.Proofs.YtpplkcnknabofaaGreatDoor
