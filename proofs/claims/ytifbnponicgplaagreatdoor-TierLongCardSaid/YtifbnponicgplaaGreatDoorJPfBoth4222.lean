/- Lemmas and contracts of functions. No condition. -/
import Derived.Test.YtifbnponicgplaaGreatDoorJPfBoth4221
import Derived.Deep.Strs
import Derived.Lib.SmallJoins
import Derived.ChangeArms
import Derived.Test.YtifbnponicgplaaGreatDoorJPfBoth4220
namespace Go.Proofs.YtifbnponicgplaaGreatDoor
open _root_.Go.Proofs.Tryz
set_option maxRecDepth 100000
set_option maxHeartbeats 20000000
set_option linter.all false
section
open Go.ChangeShapes Go.WideShapes Go.ChangeAt Go.RowKit Go.Deep Go.Joins
theorem zhx{α:Type}{cs:Array α}(h:cs.size=5) : ∃ c0 c1 c2 c3 c4,cs=#[c0,c1,c2,c3,c4]:=by
 obtain⟨l⟩:=cs
 match l,h with
 | [c0,c1,c2,c3,c4],_=>exact⟨c0,c1,c2,c3,c4,rfl⟩
theorem zkK{H:Type}{enc:TypeId × Value→H}{P:Program}{w:World}{base:Nat}{spare:Nat→Bool}{held:Bool}{t:TypeId}{f0 f1 f2 f3 f4:Field}{fuel:Nat}{cs:List Value}{x:DataW H × List MemPlace}(ht:P.underlying t=some (.struct #[f0,f1,f2,f3,f4]))(h:DataW.trod enc P w base spare held fuel t cs=some x) :
  ∃ y0 y1 y2 y3 y4 n,DataW.trod enc P w base spare held n f0.type ((cs.drop f0.offset).take (P.cellsOf f0.type))=some y0 ∧
   DataW.trod enc P w base spare held n f1.type ((cs.drop f1.offset).take (P.cellsOf f1.type))=some y1∧DataW.trod enc P w base spare held n f2.type ((cs.drop f2.offset).take (P.cellsOf f2.type))=some y2 ∧
   DataW.trod enc P w base spare held n f3.type ((cs.drop f3.offset).take (P.cellsOf f3.type))=some y3∧DataW.trod enc P w base spare held n f4.type ((cs.drop f4.offset).take (P.cellsOf f4.type))=some y4:=by
 obtain⟨xs,n,_,rfl,hl,hlen,hf⟩:=DataW.trod_struct ht h
 match xs,hlen with
 | [y0,y1,y2,y3,y4],_=>exact⟨y0,y1,y2,y3,y4,n,by simpa using hf 0 f0 rfl,by simpa using hf 1 f1 rfl,by simpa using hf 2 f2 rfl,by simpa using hf 3 f3 rfl,by simpa using hf 4 f4 rfl⟩
theorem zjh{H:Type}{enc:TypeId × Value→H}{W:World}{base:Nat}{sp:Nat→Bool}{held:Bool}{r:Reach}{b0:Nat}{v:Value}{d:DataW H}{p:List MemPlace}(hv:Value.okWide prog W r b0 40 v)(h:DataW.Trod enc prog W base sp held 40 v d p) :
  ∃(what:Int) (T N:Nat) (key:ByteArray) (a:Option Addr) (n c:Nat),v=.agg #[.int .i64 what,.int .u64 T,.int .u64 N,.string key,.slice a n c]∧T<18446744073709551616∧N<18446744073709551616∧key.size≤9223372036854775807∧n≤9223372036854775807:=by
 obtain⟨cs,rfl,hsz⟩:=okWide_struct underlying40 hv;obtain⟨fuel,hf⟩:=h;have e5:(prog).cellsOf 40=5:=by kernel_rfl
 rw[e5]at hsz;obtain⟨c0,c1,c2,c3,c4,rfl⟩:=zhx hsz;obtain⟨y0,y1,y2,y3,y4,n,t0,t1,t2,t3,t4⟩:=zkK underlying40 hf;have k0:(prog).cellsOf 3=1:=by kernel_rfl
 have k1:(prog).cellsOf 33=1:=by kernel_rfl
 have k2:(prog).cellsOf 9=1:=by kernel_rfl
 have k3:(prog).cellsOf 34=1:=by kernel_rfl
 simp only[k0,k1,k2,k3,Value.cells,List.drop,List.take]at t0 t1 t2 t3 t4;obtain⟨z0,f0,_,_⟩:=JY underlying3 t0;obtain⟨z1,f1,_,w1⟩:=JY underlying33 t1;obtain⟨z2,f2,_,w2⟩:=JY underlying33 t2;obtain⟨s,es,_,hs⟩:=DataW.trod_string underlying9 t3
 cases f0;cases f1;cases f2;cases es
 have g1:=zdx _ w1;have g2:=zdx _ w2;have s1:((z1.toNat:Nat):Int)=z1:=Yk g1.1;have s2:((z2.toNat:Nat):Int)=z2:=Yk g2.1;have hm:maxLen≤9223372036854775807:=by decide
 rcases open_slice underlying34 t4 with⟨h0,_⟩ | ⟨a,len,cap,m,n',D,Pl,h0,_,hl,hc,_⟩
 ·cases h0
  exact⟨z0,z1.toNat,z2.toNat,s,none,0,0,by rw[s1,s2],by omega,by omega,zF hs hm,by omega⟩
 ·cases h0
  exact⟨z0,z1.toNat,z2.toNat,s,some a,len,cap,by rw[s1,s2],by omega,by omega,zF hs hm,by omega⟩
end
section
open Go.RowKit Go.Shelf
theorem Az5nf {P:Prop}(h:P:=by
 go_enter func4,ntmps4
 go_wp2_with (go_at_call 5;refine(HKn.out _ A1.out).mono ?_;rintro e w' ⟨rfl,hp⟩)
 have hpp:=A1.out.trans hp;exact zR (v := .bool true) (by simp[results,results4,go_sem]) rfl ⟨rfl,hpp⟩):P:=h
theorem zeV(w:World)(hT:xb w)(what:Int)(T:Nat)(_:T<18446744073709551616)(N:Nat)(_:N<18446744073709551616)(key:ByteArray)(hk:key.size≤9223372036854775807)(a:Option Addr)(n c:Nat)(hn:n≤9223372036854775807) :
    Calls prog 4 #[.agg #[.int .i64 what,.int .u64 T,.int .u64 N,.string key,.slice a n c]] w fun e w'=>e=.returned (.bool true)∧zb w w':=by
  have x1:=zk (w:=w) (o := .cells #[.int .i64 what,.int .u64 T,.int .u64 N,.string key,.slice a n c] 40 (0,0)) rfl;have a1:zb w (w.alloc (.cells #[.int .i64 what,.int .u64 T,.int .u64 N,.string key,.slice a n c] 40)):=(Mod.refl _ _).alloc _;have X1:=za x1;have A1:=za a1;have HKn:=za (fun(W:World) (hW:zb w W)=>zaG W (hT.pure hW));clear a1 hT;obtain⟨x1_0,x1_1,x1_2,x1_3,x1_4,x1_f,x1_l,H_x1⟩:=cr5 x1;clear x1;by_cases hb:key.size≤100∧n≤100
  case neg =>
    by_cases hb1:100<key.size
    · have hb1':(100:Int)<(key.size:Int):=by omega
      exact Az5nf
    · have hb1' : ¬ (100:Int)<(key.size:Int):=by omega
      have hb2':(100:Int)<(n:Int):=by omega
      exact Az5nf
  case pos =>
    have hb1 : ¬ (100:Int)<(key.size:Int):=by omega
    have hb2 : ¬ (100:Int)<(n:Int):=by omega
    clear hb;go_enter func4,ntmps4;go_upto_region 3 with fail
    clear x1_0 x1_1 x1_2 x1_3 x1_4 x1_f x1_l;clear H_x1;generalize(w.alloc (.cells #[.int .i64 what,.int .u64 T,.int .u64 N,.string key,.slice a n c] 40))=W at *;generalize w.heap.size=q0 at X1 ⊢;have z1:=zk (w:=W) (o := .cells #[.bool false,.bool false,.pointer none,.pointer none,.slice none 0 0] 45 (0,0)) rfl;have z2:=zk (w:=(W.alloc (.cells #[.bool false,.bool false,.pointer none,.pointer none,.slice none 0 0] 45))) (o := .cells #[.pointer none,lkP W.heap.size] 23 (0,0)) (n:=W.heap.size+1) (by simp);have b2:zb (W.alloc (.cells #[.bool false,.bool false,.pointer none,.pointer none,.slice none 0 0] 45)) ((W.alloc (.cells #[.bool false,.bool false,.pointer none,.pointer none,.slice none 0 0] 45)).alloc (.cells #[.pointer none,lkP W.heap.size] 23)):=(Mod.refl _ _).alloc _;have b1:zb W (W.alloc (.cells #[.bool false,.bool false,.pointer none,.pointer none,.slice none 0 0] 45)):=(Mod.refl _ _).alloc _;have Z1:=za (b2.heap (fun h=>h) z1);have Z2:=za z2;have B1:=za (b1.trans b2);clear b1 b2 z1 z2;go_upto_region 4 with fail
    generalize((W.alloc (.cells #[.bool false,.bool false,.pointer none,.pointer none,.slice none 0 0] 45)).alloc (.cells #[.pointer none,lkP W.heap.size] 23))=V at *;generalize W.heap.size=q1 at *;have HZ:=za (zkX Z1.out);have Z:Hid (∀ Y,zb V Y→Y.cell? ⟨q0,1,none⟩=some (.int .u64 T)∧Y.cell? ⟨q0,2,none⟩=some (.int .u64 N)∧Y.cell? ⟨q0,3,none⟩=some (.string key)∧Y.cell? ⟨q0,4,none⟩=some (.slice a n c)):=za (fun Y hY=>by
      have h9:=hY.heap (fun h=>h) (B1.out.heap (fun h=>h) X1.out);exact⟨zi Y q0 1 _ _ (0,0) h9,zi Y q0 2 _ _ (0,0) h9,zi Y q0 3 _ _ (0,0) h9,zi Y q0 4 _ _ (0,0) h9⟩)
    go_loopw [27] (fun v27 wr => ∃ i:Nat,v27=.int .i64 (i:Nat)∧i≤2∧zb V wr) (fun v27 _=>2-(intOf v27).toNat)
    case atStart=>exact⟨0,rfl,yq _,Mod.refl _ _⟩
    case round =>
      obtain⟨i,rfl,hi2,hp⟩:=hrel;by_cases hlt:i<2
      · have hlt':(i:Int)<2:=by omega
        have i0:(0:Int)≤(i:Int):=by omega
        have wi:IntKind.i64.wrap ((i:Int)+1)=(i:Int)+1:=zt _ (by omega);obtain⟨o,hv,hn⟩ : ∃ o,wr.cell? ⟨q1+1,i,none⟩=some (.pointer o)∧zmw wr o:=by
          rcases(show i=0∨i=1 by omega)with rfl | rfl
          · exact⟨none,by rw[zi wr _ 0 _ _ (0,0) (hp.heap (fun h=>h) Z2.out)];rfl,zit wr⟩
          · exact⟨some ⟨q1,0,none⟩,by rw[zi wr _ 1 _ _ (0,0) (hp.heap (fun h=>h) Z2.out)];rfl,HZ.out.pure hp⟩
        have HN:=za hn;have HP:=za hp;clear hn hp;obtain⟨y1,y2,y3,y4⟩:=Z.out _ HP.out
        go_wp2_with (first
          | (go_at_call 8;refine zq (zgY HN.out T key) ?_;rintro e w' ⟨rfl,rfl⟩)
          | (go_at_call 9;refine zq (zly HN.out T key) ?_;rintro e w' ⟨rfl,rfl⟩)
          | (go_at_call 10;refine zq (zg8 HN.out) ?_;rintro e w' ⟨rfl,rfl⟩)
          | (go_at_call 7;refine zq (zhC HN.out T key a n c N) ?_;rintro e w' ⟨rfl,rfl⟩)
          | (go_at_call 11;refine zq (zig HN.out T) ?_;rintro e w' ⟨rfl,rfl⟩)
          | (go_at_call 12;refine zq (zfK HN.out) ?_;rintro e w' ⟨rfl,rfl⟩)
          | (go_at_call 13;refine zq (zeU HN.out) ?_;rintro e w' ⟨rfl,rfl⟩))
        go_roundw
        case rel=>exact⟨i+1,by go_num,hlt,HP.out⟩
        case measure=>simp[intOf];omega
      · have e:i=2:=by omega
        subst e;have HP:=za (A1.out.trans (B1.out.trans hp));clear hp
        go_wp2_with (go_at_call 5;refine(HKn.out _ HP.out).mono ?_;rintro e w' ⟨rfl,hp⟩)
        have hpp:=HP.out.trans hp;exact zR (v := .bool true) (by simp[results,results4,go_sem]) rfl ⟨rfl,hpp⟩
end
end Go.Proofs.YtifbnponicgplaaGreatDoor
