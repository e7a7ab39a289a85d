/- Lemmas and contracts of functions. No condition. -/
import Derived.Test.YtdohbogbnheakaaGreatDoorJPfBoth406
import Derived.Deep.Strs
import Derived.Deep.Slices
import Derived.Lib.SmallJoins
import Derived.ChangeArms
import Derived.Test.YtdohbogbnheakaaGreatDoorJPfBoth407
namespace Go.Proofs.YtdohbogbnheakaaGreatDoor
open _root_.Go.Proofs.Tryz
set_option maxRecDepth 100000
set_option maxHeartbeats 20000000
set_option linter.all false
section
open Go.ChangeShapes Go.WideShapes Go.ChangeAt Go.RowKit Go.Deep Go.Joins
theorem zi8{α:Type}{cs:Array α}(h:cs.size=8) : ∃ c0 c1 c2 c3 c4 c5 c6 c7,cs=#[c0,c1,c2,c3,c4,c5,c6,c7]:=by
 obtain⟨l⟩:=cs
 match l,h with
 | [c0,c1,c2,c3,c4,c5,c6,c7],_=>exact⟨c0,c1,c2,c3,c4,c5,c6,c7,rfl⟩
theorem zfe{H:Type}{enc:TypeId × Value→H}{P:Program}{w:World}{base:Nat}{spare:Nat→Bool}{held:Bool}{t:TypeId}{f0 f1 f2 f3 f4 f5 f6 f7:Field}{fuel:Nat}{cs:List Value}{x:DataW H × List MemPlace}(ht:P.underlying t=some (.struct #[f0,f1,f2,f3,f4,f5,f6,f7]))(h:DataW.trod enc P w base spare held fuel t cs=some x) :
  ∃ y0 y1 y2 y3 y4 y5 y6 y7 n,DataW.trod enc P w base spare held n f0.type ((cs.drop f0.offset).take (P.cellsOf f0.type))=some y0∧DataW.trod enc P w base spare held n f1.type ((cs.drop f1.offset).take (P.cellsOf f1.type))=some y1∧DataW.trod enc P w base spare held n f2.type ((cs.drop f2.offset).take (P.cellsOf f2.type))=some y2∧DataW.trod enc P w base spare held n f3.type ((cs.drop f3.offset).take (P.cellsOf f3.type))=some y3∧DataW.trod enc P w base spare held n f4.type ((cs.drop f4.offset).take (P.cellsOf f4.type))=some y4∧DataW.trod enc P w base spare held n f5.type ((cs.drop f5.offset).take (P.cellsOf f5.type))=some y5∧DataW.trod enc P w base spare held n f6.type ((cs.drop f6.offset).take (P.cellsOf f6.type))=some y6∧DataW.trod enc P w base spare held n f7.type ((cs.drop f7.offset).take (P.cellsOf f7.type))=some y7:=by
 obtain⟨xs,n,_,rfl,hl,hlen,hf⟩:=DataW.trod_struct ht h
 match xs,hlen with
 | [y0,y1,y2,y3,y4,y5,y6,y7],_=>exact⟨y0,y1,y2,y3,y4,y5,y6,y7,n,by simpa using hf 0 f0 rfl,by simpa using hf 1 f1 rfl,by simpa using hf 2 f2 rfl,by simpa using hf 3 f3 rfl,by simpa using hf 4 f4 rfl,by simpa using hf 5 f5 rfl,by simpa using hf 6 f6 rfl,by simpa using hf 7 f7 rfl⟩
theorem zic{H:Type}{enc:TypeId × Value→H}{W:World}{base:Nat}{sp:Nat→Bool}{held:Bool}{r:Reach}{b0:Nat}{v:Value}{d:DataW H}{p:List MemPlace}(hv:Value.okWide prog W r b0 45 v)(h:DataW.Trod enc prog W base sp held 45 v d p) :
  ∃(what who load:Int) (T N:Nat) (key:ByteArray) (a:Option Addr) (n c:Nat) (code:Int),v=.agg #[.int .i64 what,.int .i64 who,.int .i64 load,.int .u64 T,.int .u64 N,.string key,.slice a n c,.int .i64 code]∧T<18446744073709551616∧N<18446744073709551616∧key.size≤9223372036854775807∧n≤9223372036854775807:=by
 obtain⟨cs,rfl,hsz⟩:=okWide_struct underlying45 hv;obtain⟨fuel,hf⟩:=h;have e5:(prog).cellsOf 45=8:=by kernel_rfl
 rw[e5]at hsz;obtain⟨c0,c1,c2,c3,c4,c5,c6,c7,rfl⟩:=zi8 hsz;obtain⟨y0,y1,y2,y3,y4,y5,y6,y7,n,t0,t9,t8,t1,t2,t3,t4,t7⟩:=zfe underlying45 hf;have k0:(prog).cellsOf 3=1:=by kernel_rfl
 have k1:(prog).cellsOf 37=1:=by kernel_rfl
 have k2:(prog).cellsOf 9=1:=by kernel_rfl
 have k4:(prog).cellsOf 24=1:=by kernel_rfl
 have k3:(prog).cellsOf 32=1:=by kernel_rfl
 simp only[k0,k1,k2,k3,k4,Value.cells,List.drop,List.take]at t0 t9 t8 t1 t2 t3 t4 t7;obtain⟨z0,f0,_,_⟩:=Yn underlying3 t0;obtain⟨z9,f9,_,_⟩:=Yn underlying3 t9;obtain⟨z8,f8,_,_⟩:=Yn underlying3 t8;obtain⟨z7,f7,_,_⟩:=Yn underlying24 t7;obtain⟨z1,f1,_,w1⟩:=Yn underlying37 t1;obtain⟨z2,f2,_,w2⟩:=Yn underlying37 t2;obtain⟨s,es,_,hs⟩:=DataW.trod_string underlying9 t3
 cases f0;cases f9;cases f8;cases f7;cases f1;cases f2;cases es
 have g1:=zah _ w1;have g2:=zah _ w2;have s1:((z1.toNat:Nat):Int)=z1:=Yx g1.1;have s2:((z2.toNat:Nat):Int)=z2:=Yx g2.1;have hm:maxLen≤9223372036854775807:=by decide
 rcases open_slice underlying32 t4 with⟨h0,_⟩ | ⟨a,len,cap,m,n',D,Pl,h0,_,hl,hc,_⟩
 ·cases h0
  exact⟨z0,z9,z8,z1.toNat,z2.toNat,s,none,0,0,z7,by rw[s1,s2],by omega,by omega,zH hs hm,by omega⟩
 ·cases h0
  exact⟨z0,z9,z8,z1.toNat,z2.toNat,s,some a,len,cap,z7,by rw[s1,s2],by omega,by omega,zH hs hm,by omega⟩
end
section
open Go
theorem zeI:Rows.fetchNoneRow.wfByText (OpenSpec.ofChange Rows.fetchNoneSpec)=true:=by kernel_rfl
theorem zfa:Tryz.pinned.checked.prog.mainIs=some (Rows.fetchNoneCard.stood.harness.1,Rows.fetchNoneCard.stood.harness.2.toList):=by kernel_rfl
theorem zk0:Tryz.pinned.checked.prog.funcNamed Rows.fetchNoneRow.func=some 4:=by kernel_rfl
theorem zfH:([45].all fun u => !prog.wantsStandIn u)=true:=by kernel_rfl
theorem zhz:false=Rows.fetchNoneRow.goesBy Tryz.pinned.checked.prog:=by
 have hs:Rows.fetchNoneRow.start=.entering:=rfl;unfold OpenClaim.goesBy Program.goesAt Program.goesFrom;rw[hs]
 cases Tryz.pinned.checked.prog.funcNamed Rows.fetchNoneRow.func with
 | none=>rfl
 | some f=>simp only[Option.any_some,zfY zfU f];rfl
theorem ziP:true=Tryz.pinned.checked.prog.looks []:=by kernel_rfl
end
end Go.Proofs.YtdohbogbnheakaaGreatDoor
