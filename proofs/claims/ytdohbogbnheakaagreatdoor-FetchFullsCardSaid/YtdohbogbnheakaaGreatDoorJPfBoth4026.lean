/- Lemmas and contracts of functions. No condition. -/
import Derived.RangeFuncFrom
import Derived.Maps.OwnIn
import Derived.RangeFuncSeq
import Derived.Test.YtdohbogbnheakaaGreatDoorJPfBoth4023
namespace Go.Proofs.YtdohbogbnheakaaGreatDoor
open _root_.Go.Proofs.Tryz
set_option maxRecDepth 100000
set_option maxHeartbeats 20000000
set_option linter.all false
section
open Go.RowKit Go.Shelf Go.Maps
@[go_sem] theorem zlH (w : World) (r : Option Nat) : (binOp .eql 47 (.map r) (.map none)).run prog w=.ok (.bool r.isNone) w := run_eql_map_nil w _ _ _ r underlying47
theorem zbx{k:Value}{kl:Lit}(h:keyOf prog 9 k=some kl) : ∃ s,k=.string s∧kl=xc s∧s.size≤9223372036854775807:=by
 rw[keyOf_string underlying9]at h
 cases k<;>simp[mapKey,underlying9]at h
 rename_i s;exact⟨s,rfl,h.2.symm,h.1⟩
theorem zi4{a b:ByteArray}:(xc a).sameKey (xc b)=decide (a=b):=by
 by_cases e:a=b
 ·subst e;rw[WideAt.sameKey_self (zcY a)];simp
 ·have h:(xc a).sameKey (xc b)=false:=by
   cases hs:(xc a).sameKey (xc b)with
   | false=>rfl
   | true=>exact absurd (Yz (WideAt.sameKey_eq hs)) e
  rw[h];simp[e]
abbrev InL(X:List Ld) := {x:Ld // x∈X}
def Vm{X:List Ld}(x:InL X):Array Value:=#[lkP x.1.blk]
def zhd(X:List Ld)(xs:List (InL X)):Prop := ∀ x,x∈X → ∃ y∈xs,y.1=x
section
variable{w w' w0:World}{q p m1 last:Nat}{X X':List Ld}{D1 D1':DataW Unit}{S D0:Nat→Prop}{t t':Bst}
theorem FeM.came(h:FeM w q p m1 last X D1){s:ByteArray}{c:Option Nat}{kl:Lit}{y:DataW Unit × List MemPlace}(hk:keyOf prog 9 (.string s)=some kl)(hv:xB.R (xB.V c)=some y)(hat : ∀ zd,D1.atKey kl zd=y.1) : ∃ z∈X,s=z.key∧c=some z.blk∧kl=xc z.key:=by
 obtain⟨s',e1,rfl,_⟩:=zbx hk
 cases e1
 obtain⟨z,hz,e2⟩:=h.loads.has _ (Maps.has_true_of_atKey hat);obtain⟨z0,hz0,rfl⟩:=zz.1 hz;have e3:=Yz e2;have h1:=h.loads.at_ _ hz y.1;dsimp only at h1;rw[e3,hat]at h1;rw[xB.rd]at hv;injection hv with hv
 rw[← hv]at h1;exact⟨z0,hz0,e3.symm,xB.inj _ _ h1,by rw[e3]⟩
theorem Azaff {P:Prop}(h:P:=by
 obtain⟨hb_0,hb_1,hb_2,hb_f,hb_l,H_hb⟩:=cr3 hb;clear hb;go_enter func32,ntmps32;go_wp2;go_ret;exact⟨rfl,rfl⟩):P:=h
theorem Zf(h:FeM w q p m1 last X D1):Calls prog 32 #[lkP q] w fun e w'=>e=.returned (.bool false)∧w=w':=by
 have hb:=h.box;clear h;exact Azaff
theorem Qi{n:Nat}(hn:n≤1000)(w:World):Calls prog 34 #[.int .i64 n] w fun e w'=>e=.returned (.bool true)∧w=w':=by
 have h1:(n:Int)≥0:=by omega
 have h2:(n:Int)≤1000:=by omega
 go_enter func34,ntmps34;go_wp2;go_ret;exact⟨by simp[h2],rfl⟩
theorem JY(h:FeM w q p m1 last X D1):Calls prog 35 #[lkP q] w fun e w'=>e=.returned (.func (.func 105) #[] #[lkP w.heap.size])∧w'=w.alloc (.cells #[.map (some m1)] 47):=by
 have hb:=h.box;clear h;obtain⟨hb_0,hb_1,hb_2,hb_f,hb_l,H_hb⟩:=cr3 hb;clear hb;have HV:Hid (Calls prog 68 #[.map (some m1)] w fun e w'=>e=.returned (.func (.func 105) #[] #[lkP w.heap.size])∧w'=w.alloc (.cells #[.map (some m1)] 47)):=za (by
  clear hb_0 hb_1 hb_2 hb_f hb_l H_hb;go_enter func68,ntmps68;go_wp2;go_ret;exact⟨rfl,rfl⟩)
 go_enter func35,ntmps35
 go_wp2_with (go_at_call 68;refine HV.out.mono ?_;rintro e w' ⟨rfl,rfl⟩)
 go_ret;exact⟨rfl,rfl⟩
theorem Kz(h:FeM w q p m1 last X D1){Bm:Nat}(hm:w.heap[Bm]? = some (.cells #[.map (some m1)] 47 (0,0))) :
    SeqStopsK Fence.wide 1 prog 105 #[lkP Bm] Vm KeepsWalks (zhd X) (fun _=>True) X.length w:=by
  intro l J Jx W hW hJ hJx hY h0;have hp:=Mod.of_below (S:=fun _=>False) hW;have hF:=h.mod hp (fun _ _ e=>e);have hc:W.cell? ⟨Bm,0,none⟩=some (.map (some m1)):=zi W Bm 0 _ _ _ (hp.heap (fun e=>e) hm);have hown:=hF.loads.own;have hsz:=hF.loads.size;unfold jr at hown hsz;rw[yn]at hown hsz;have HF:=za hF;clear hF h hm hW hp;refine callsIn_of_wp func105 rfl trivial ?_ rfl;simp only[ntmps105,List.size_toArray,List.length_cons,List.length_nil,Nat.reduceAdd,Nat.reduceSub,Array.replicate_succ,Array.replicate_zero,List.push_toArray,List.append_toArray,List.nil_append,List.cons_append]
  gi_wp2_with (first
    | (gi_at_range;refine wpListIn_range_own _ rfl _ 47 rfl 9 92 kX underlying47 _ m1 X.length D1 rfl hown ?_;intro w1 hrg1 hg1 hs1)
    | gi_in)
  go_frame
  gi_loopw [4] (fun _ wr => ∃(left:Lit→Bool) (cnt:Nat) (ps:List (InL X)),wr.ranges prog 9 xB.R m1 W.heap.size X.length D1 left cnt∧ps.length+cnt≤X.length∧(∀ x∈X,left (xc x.key)=true ∨ ∃ y∈ps,y.1=x)∧J ps wr) (fun _ wr=>wr.rangeLeft m1 W.heap.size)
  case atStart =>
    exact⟨_,_,[],hrg1,by simp[hsz],fun x hx => .inl (HF.out.loads.has_mem (x:=(xc x.key,some x.blk)) (zz.2 ⟨x,hx,rfl⟩)),hJ [] W w1 none h0 hg1 (fun r e=>by cases e)⟩
  case round =>
    obtain⟨left,cnt,ps,hrg,hcs,hL,hJs⟩:=hrel
    gi_wp2_with (first
      | (gi_at_next;refine wpListIn_next_ranges (α:=ByteArray) (β:=Option Nat) _ rfl _ rfl 9 kX xB.R Value.string xB.V (fun key kl hk=>by obtain⟨s,e,_⟩:=zbx hk;exact⟨s,e⟩) (fun v y hv=>by obtain⟨c,e,_⟩:=xB.inv _ _ hv;exact⟨c,e⟩) m1 W.heap.size X.length _ _ _ rfl hrg ?_ ?_)
      | gi_in)
    · intro hc0 hl0
      gi_wp2
      go_end0
      exact⟨⟨_,rfl⟩,.inl ⟨ps,fun x hx=>(hL x hx).resolve_left (by rw[hl0];simp),hJs⟩⟩
    · intro s c kl yd yp w2 cnt2 hkey hlk hv hat hrg2 hlt hg2 hs2 hen
      obtain⟨z,hz,rfl,rfl,rfl⟩:=HF.out.came (y:=(yd,yp)) hkey hv hat;have hJ2:J ps w2:=hJ ps wr w2 (some W.heap.size) hJs hg2 (fun r e=>by cases e;exact⟨zI _,hrg.iter_walk⟩);obtain⟨fn,tmps,assign,body,hy,hR⟩:=hY ps ⟨z,hz⟩ w2 hJ2 (by omega);dsimp only[Vm]at hy;simp only[xB]at hen ⊢;clear hs2;gi_wp2;refine hR.mono ?_;have hL2 : ∀ x∈X,(left (xc x.key) && !(xc x.key).sameKey (xc z.key))=true ∨ ∃ y∈ps++[(⟨z,hz⟩:InL X)],y.1=x:=fun x hx=>by
        rw[zi4];by_cases e:x.key=z.key
        · exact .inr ⟨⟨z,hz⟩,yz.2 (.inr (by simp)),(HF.out.k1 x hx z hz e).symm⟩
        · rcases hL x hx with h9 | h9
          · exact .inl (by simp[h9,e])
          · obtain⟨y,hy,e9⟩:=h9
            exact .inr ⟨y,yz.2 (.inl hy),e9⟩
      rintro e W3 (⟨rfl,hJ3,hk3⟩ | ⟨rfl,hJx3⟩)
      · gi_wp2
        have hrg3:=hrg2.of_walks hk3;go_roundw
        case rel=>exact⟨_,cnt2,ps++[(⟨z,hz⟩:InL X)],hrg3,by simp;omega,hL2,hJ3⟩
        case measure=>rw[hrg3.left_eq,hrg.left_eq];exact hlt
      · gi_wp2
        refine zN (results_none rfl _ _ _) rfl ?_;exact⟨⟨_,rfl⟩,.inr ⟨_,trivial,hJx3⟩⟩
end
end
section
open Go.RowKit Go.Shelf
def km(w:World)(o:Option Addr):Prop := ∀ Y,zc w Y→Calls prog 32 #[.pointer o] Y fun e w'=>e=.returned (.bool true)∧Y=w'
section
variable{w w':World}{o:Option Addr}
theorem km.pure(h:km w o)(hp:zc w w'):km w' o:=fun Y hY=>h Y (hp.trans hY)
theorem zfW(w:World):km w none:=fun Y _=>by
 go_enter func32,ntmps32;go_wp2;go_ret;exact⟨rfl,rfl⟩
theorem zh6{q:Nat}(h:w.heap[q]? = some (.cells #[.pointer none,.map none,.int .i64 0] 49 (0,0))):km w (some ⟨q,0,none⟩):=fun Y hY=>by
 have hb:=hY.heap (fun h=>h) h;clear h hY;exact Azaff
theorem zhb(h:km w o)(t:Nat)(key:ByteArray)(who:Int):Calls prog 10 #[.pointer o,.int .u64 t,.string key,.int .i64 who] w fun e w'=>e=.returned (.tuple #[.agg #[.int .i64 0,.slice none 0 0,.int .i64 0],.int .i64 1])∧zc w w':=by
 have HN:=za h;clear h
 go_enter_defers func10,ntmps10
 go_wp2_with (go_at_call 32;refine zq (HN.out _ ((((Mod.refl _ _).alloc _).alloc _).alloc _)) ?_;rintro e w' ⟨rfl,rfl⟩)
 exact⟨.tuple #[.agg #[.int .i64 0,.slice none 0 0,.int .i64 0],.int .i64 1],by simp[results,results10,go_sem],rfl,((((Mod.refl _ _).alloc _).alloc _).alloc _)⟩
theorem zfs(h:km w o)(t:Nat)(ld:Int)(a:Option Addr)(n c ttl:Nat):Calls prog 11 #[.pointer o,.int .u64 t,.int .i64 ld,.slice a n c,.int .u64 ttl] w fun e w'=>e=.returned (.tuple #[.slice none 0 0,.int .i64 1])∧zc w w':=by
 have HN:=za h;clear h
 go_enter_defers func11,ntmps11
 go_wp2_with (go_at_call 32;refine zq (HN.out _ ((Mod.refl _ _).alloc _)) ?_;rintro e w' ⟨rfl,rfl⟩)
 exact⟨.tuple #[.slice none 0 0,.int .i64 1],by simp[results,results11,go_sem],rfl,((Mod.refl _ _).alloc _)⟩
theorem ziN(h:km w o)(t:Nat)(ld code:Int):Calls prog 12 #[.pointer o,.int .u64 t,.int .i64 ld,.int .i64 code] w fun e w'=>e=.returned (.tuple #[.slice none 0 0,.int .i64 1])∧zc w w':=by
 have HN:=za h;clear h
 go_enter_defers func12,ntmps12
 go_wp2_with (go_at_call 32;refine zq (HN.out _ ((Mod.refl _ _).alloc _)) ?_;rintro e w' ⟨rfl,rfl⟩)
 exact⟨.tuple #[.slice none 0 0,.int .i64 1],by simp[results,results12,go_sem],rfl,((Mod.refl _ _).alloc _)⟩
theorem Az4zo {P:Prop}(h:P:=by
 go_wp2_with (go_at_call 32;refine(HN.out _ (Mod.refl _ _)).mono ?_;rintro e w' ⟨rfl,rfl⟩)
 go_ret;exact⟨rfl,Mod.refl _ _⟩):P:=h
theorem zeM(h:km w o)(ld who:Int):Calls prog 14 #[.pointer o,.int .i64 ld,.int .i64 who] w fun e w'=>e=.returned (.int .i64 1)∧zc w w':=by
 have HN:=za h;clear h;go_enter func14,ntmps14;exact Az4zo
theorem zlh(h:km w o)(t:Nat)(key:ByteArray):Calls prog 13 #[.pointer o,.int .u64 t,.string key] w fun e w'=>e=.returned (.tuple #[.bool false,.int .i64 1])∧zc w w':=by
 have HN:=za h;clear h
 go_enter_defers func13,ntmps13
 go_wp2_with (go_at_call 32;refine(HN.out _ (Mod.refl _ _)).mono ?_;rintro e w' ⟨rfl,rfl⟩)
 exact⟨.tuple #[.bool false,.int .i64 1],by simp[results,results13,go_sem],rfl,Mod.refl _ _⟩
theorem zgG(h:km w o):Calls prog 15 #[.pointer o] w fun e w'=>e=.returned (.slice none 0 0)∧zc w w':=by
 have HN:=za h;clear h;go_enter func15,ntmps15;exact Az4zo
theorem zdO(h:km w o):Calls prog 16 #[.pointer o] w fun e w'=>e=.returned (.pointer none)∧zc w w':=by
 have HN:=za h;clear h;go_enter func16,ntmps16;exact Az4zo
theorem zfS(h:km w o):Calls prog 17 #[.pointer o] w fun e w'=>e=.returned (.pointer none)∧zc w w':=by
 have HN:=za h;clear h;go_enter func17,ntmps17;exact Az4zo
end
end
section
open Go.RowKit Go.Shelf Go.Maps
attribute [local go_sem] Oper.semAt_some
section
variable{w w' w0:World}{q p m1 last:Nat}{X X':List Ld}{D1 D1':DataW Unit}{S D0:Nat→Prop}{t t':Bst}
theorem Km{β:Type}{w3:World}(Q:β→Prop):OwnFrom w3.heap.size (fun s W=>zc w3 W∧Q s):=fun s A B row hs hg hr =>
 ⟨hs.1.then (Mod.of_grown (S:=fun k=>w3.heap.size≤k) hg (fun k e _=>(hr k e).1)) (fun k hk e=>by omega),hs.2⟩
def FdI(X:List Ld)(n:Int)(W3:World)(pre:List (InL X))(W:World):Prop:=zc W3 W ∧ ∀ y∈pre,(y.1.num:Int)≠n
def FdX(X:List Ld)(n:Int)(c4:Nat)(W3:World)(c:Code)(_:List (InL X))(W:World):Prop:=c=.ret∧Mod (fun k=>k=c4) W3 W ∧ ∃ x∈X,(x.num:Int)=n∧W.heap[c4]? = some (.cells #[lkP x.blk] 92 (0,0))
theorem zaF{w W3 W:World}{c4 lb:Nat}{v:Value}{T:TypeId}(hp:zc w W3)(hc:w.heap.size≤c4)(hl:c4<W3.heap.size)(hm:Mod (fun k=>k=c4) W3 W)(hv:W.heap[c4]? = some (.cells #[v] T (0,0)))(hlb:W3.heap.size≤lb) :
  (W.putObj lb (.deferred none)).cell? ⟨c4,0,none⟩=some v∧zc w (W.putObj lb (.deferred none)):=by
 have m2:Mod (fun k=>k=lb) W (W.putObj lb (.deferred none)):=⟨rfl,rfl,rfl,by simp,fun k _ hn=>World.putObj_heap_other (fun e=>hn e)⟩;refine⟨zi _ _ 0 _ _ _ (m2.heap (fun e=>by omega) hv),(hp.then hm (fun k hk e=>by omega)).then m2 (fun k hk e=>by have:=hp.size;omega)⟩
theorem zcb(h:FeM w q p m1 last X D1)(n:Int):Calls prog 39 #[lkP q,.int .i64 n] w fun e w'=>((∃ x∈X,(x.num:Int)=n∧e=.returned (lkP x.blk))∨((∀ x∈X,(x.num:Int)≠n)∧e=.returned (.pointer none)))∧zc w w':=by
 have hp1:zc w ((w.alloc (.cells #[.int .i64 n] 3)).alloc (.cells #[.pointer none] 92)):=((Mod.refl _ w).alloc (.cells #[.int .i64 n] 3)).alloc (.cells #[.pointer none] 92);have z3:=zG (w:=w.alloc (.cells #[.int .i64 n] 3)) (o := .cells #[.pointer none] 92) (zj (w:=w) (o := .cells #[.int .i64 n] 3 (0,0)) rfl);have z4:=zj (w:=w.alloc (.cells #[.int .i64 n] 3)) (o := .cells #[.pointer none] 92 (0,0)) (n:=w.heap.size+1) (by simp);have HH:=za h;have Z3:=za z3;have Z4:=za z4;have HP1:=za hp1;clear h z3 z4 hp1
 (refine(yB (n:=0)).1 (callsIn_of_wp_marks func39 rfl trivial (vy.2 ?_) rfl);simp only[ntmps39,List.size_toArray,List.length_cons,List.length_nil,Nat.reduceAdd,Nat.reduceSub,Array.replicate_succ,Array.replicate_zero,List.push_toArray,List.append_toArray,List.nil_append,List.cons_append])
 go_upto_region 1 with fail
 generalize(w.alloc (.cells #[.int .i64 n] 3)).alloc (.cells #[.pointer none] 92)=W2 at *;have hF2:=HH.out.mod HP1.out (fun _ _ e=>e);have HA:=za (JY hF2);have hal:zc W2 (W2.alloc (.cells #[.map (some m1)] 47)):=(Mod.refl _ _).alloc _;have HF3:=za (hF2.mod hal (fun _ _ e=>e));have HBm:=za (zj (w:=W2) (o := .cells #[.map (some m1)] 47 (0,0)) rfl);have Z3':=za (hal.heap (fun e=>e) Z3.out);have Z4':=za (hal.heap (fun e=>e) Z4.out);have HP3:=za (HP1.out.trans hal);clear hF2 hal
 go_wp2_with (go_at_call 35;refine HA.out.mono ?_;rintro e w' ⟨rfl,rfl⟩)
 clear HA HP1 Z3 Z4;generalize W2.alloc (.cells #[.map (some m1)] 47)=W3 at *;generalize W2.heap.size=Bm at *;obtain⟨c3,hc3⟩:=zf w.heap.size;rw[hc3]at Z3' Z4' ⊢;have HC3:=za hc3;clear hc3;have hlt4:c3+1<W3.heap.size:=zm Z4'.out;refine(vy (n:=2)).1 (wpIn_rangeFunc_ownF (n:=2) rfl (by decide) (gf:=105) (lb:=#[lkP Bm]) rfl trivial (enters_of func105 (by kernel_rfl) rfl) (Kz HF3.out HBm.out) (fun h k=>h.trans k) (fun W l o o' _ hl _ hw=>KeepsWalks.putObj o' hl hw) (Below.refl _ _) (fun _=>rfl) (FdI X n W3) (FdX X n (c3+1) W3) ?hI ?hIx ?h0 (fun y => {tmps:=#[lkP q,.int .i64 n,undef,lkP c3,lkP (c3+1),lkP y.1.blk,lkP q,.func (.func 105) #[] #[lkP Bm],lkP y.1.blk,undef,undef,undef,undef,undef,undef,undef],defers:=[]}) ?assign ?body ?done ?stop)
 case hI=>exact Km _
 case hIx =>
  rintro c s A B row ⟨h1,h2,x,hx,hn,hc⟩ hg hr;have hm:=Mod.of_grown (S:=fun k=>W3.heap.size≤k) hg (fun k e _=>(hr k e).1);exact⟨h1,h2.then hm (fun k hk e=>by omega),x,hx,hn,hm.heap (fun e=>by omega) hc⟩
 case h0=>exact⟨Mod.refl _ _,fun y hy=>by cases hy⟩
 case assign =>
  intro l x W K hK;dsimp only[Vm];gi_wp2;exact hK
 case body =>
  rintro l pre ⟨x,hx⟩ W ⟨hp,hno⟩ _;have hxb:=(HF3.out.mod hp (fun _ _ e=>e)).each x hx;have hz3:=hp.heap (fun e=>e) Z3'.out;have hz4:=hp.heap (fun e=>e) Z4'.out;unfold ldC at hxb;have HP:=za hp;have HNo:=za hno;have HZ4:=za hz4;clear hp hno hz4;dsimp only;obtain⟨hxb_0,hxb_1,hxb_2,hxb_3,hxb_4,hxb_f,hxb_l,H_hxb⟩:=cr5 hxb;clear hxb;obtain⟨hz3_0,hz3_f,hz3_l,H_hz3⟩:=cr1 hz3;clear hz3;gi_wp2;refine Ud (fun Y=>Y.cell? ⟨x.blk,0,none⟩=some (.int .i64 x.num)∧Y.cell? ⟨c3,0,none⟩=some (.int .i64 n)) (by kernel_rfl) (by kernel_rfl) ?hL ⟨hxb_0,hz3_0⟩ (fun h_ => ?_)
  case hL=>rintro⟨a,w,h⟩;exact h
  refine hTk 0 ?_;refine hTk 1 ?_;refine hTk 2 ?_;refine hLd 3 ?_;refine hLd 4 ?_;have hz4:=HZ4.out;obtain⟨hz4_0,hz4_f,hz4_l,H_hz4⟩:=cr1 hz4;clear hz4;by_cases e:(x.num:Int)=n
  ·(refine hTk 5 ?_)
   refine hDn ?_;clear h_;gi_wp2;have hmm:Mod (fun k=>k=c3+1) W3 ((W.setCell ⟨c3+1,0,none⟩ (lkP x.blk)).drew):=(Mod.setCell (S:=fun k=>k=c3+1) (p:=⟨c3+1,0,none⟩) (HP.out.mono (fun _ _ e=>e.elim)) (fun _=>rfl) (lkP x.blk)).drew;exact⟨(KeepsOthers.setCell _ _ _).trans (KeepsOthers.drew _),rfl,hmm,x,hx,e,zW HZ4.out⟩
  ·(refine hTk 5 ?_)
   refine hDn ?_;clear h_;gi_wp2;exact⟨KeepsOthers.drew _,(KeepsOthers.drew _).walks,HP.out.drew,fun y hy=>(yz.1 hy).elim (HNo.out y) (fun c=>by rw[zF.1 c];exact e)⟩
 case done =>
  rintro lb xs W hlb hall ⟨hp,hno⟩ hK;have hz4:=hp.heap (fun e=>e) Z4'.out;have HK:=za hK;have HLB:=za hlb;have HP:=za hp;clear hK hlb hp;obtain⟨hz4_0,hz4_f,hz4_l,H_hz4⟩:=cr1 hz4;clear hz4;go_wp2;have hmm:Mod (fun k=>k=c3+1) W3 (W.setCell ⟨c3+1,0,none⟩ (.pointer none)):=Mod.setCell (S:=fun k=>k=c3+1) (p:=⟨c3+1,0,none⟩) (HP.out.mono (fun _ _ e=>e.elim)) (fun _=>rfl) (.pointer none);have hk5:=(Mod.set1 (w:=W) (c3+1) 0 (.pointer none)).heap (k:=lb) (fun e=>by have:=HLB.out;have e':lb=c3+1:=e;omega) HK.out;obtain⟨g1,g2⟩:=zaF (w:=w) HP3.out (by have:=HC3.out;omega) hlt4 hmm (zW H_hz4.out) HLB.out;refine jy (v := .pointer none) hk5 (by simp[results,results39,go_sem,g1]) ⟨.inr ⟨fun x hx => ?_,rfl⟩,g2⟩;obtain⟨y,hy,rfl⟩:=hall x hx;exact hno y hy
 case stop =>
  rintro lb c pre W hlb _ ⟨rfl,hm,x,hx,hn,hc⟩ hK;obtain⟨g1,g2⟩:=zaF (w:=w) HP3.out (by have:=HC3.out;omega) hlt4 hm hc hlb;have HG1:=za g1;have HG2:=za g2;have HX:=za hx;have HK:=za hK;have HN:=za hn;clear g1 g2 hx hK hn hc hm;dsimp only;gi_wp2;refine jy (v:=lkP x.blk) HK.out (by simp[results,results39,go_sem,HG1.out]) ⟨.inl ⟨x,HX.out,HN.out,rfl⟩,HG2.out⟩
end
end
section
open Go.RowKit Go.Shelf Go.Maps
def vr(X:List Ld)(n:Nat):List Ld:=X.filter fun y=>decide (y.num≠n)
section
variable{w w' w1 w2 w0:World}{q p m1 last:Nat}{X X':List Ld}{D1 D1':DataW Unit}{S D0:Nat→Prop}{t t':Bst}
theorem V5{n:Nat}{y:Ld}:y∈vr X n↔y∈X∧y.num≠n:=by unfold vr;simp[List.mem_filter]
theorem FeD.sub(hs : ∀ y,y∈X'→y∈X){k:Nat}(h:FeD q m1 X' k):FeD q m1 X k:=by
 rcases h with e | e | ⟨y,hy,e⟩ | ⟨y,hy,e⟩
 ·exact .inl e
 ·exact .inr (.inl e)
 ·exact .inr (.inr (.inl ⟨y,hs y hy,e⟩))
 ·exact .inr (.inr (.inr ⟨y,hs y hy,e⟩))
theorem FeM.drop(h:FeM w q p m1 last X D1){x:Ld}(hx:x∈X){n1:Nat}(o1:w1.ownsMap prog 9 xB.R m1 n1 (D1.del (xc x.key)))(hm:Mod (fun k=>k=m1) w w1):FeM w1 q p m1 last (vr X x.num) (D1.del (xc x.key)):=by
 have hin : ∀ y,y∈vr X x.num↔y∈X∧y≠x:=fun y=>by
  rw[V5];exact⟨fun c=>⟨c.1,fun e=>c.2 (by rw[e])⟩,fun c=>⟨c.1,fun e=>c.2 (h.k2 y c.1 x hx e)⟩⟩
 have hnd:(vr X x.num).Nodup:=h.nd.sublist jL;have hp:X.Perm (x::vr X x.num):=(List.perm_ext_iff_of_nodup h.nd (yO.2 ⟨fun c=>((hin x).1 c).2 rfl,hnd⟩)).2 (fun y=>by
  rw[zO,hin];constructor
  ·intro hy;by_cases e:y=x
   ·exact .inl e
   ·exact .inr ⟨hy,e⟩
  ·rintro(rfl | ⟨hy,_⟩)
   ·exact hx
   ·exact hy)
 have hl:=hp.length_eq;rw[kz]at hl;have hsub : ∀ y,y∈vr X x.num→y∈X:=fun y hy=>(V5.1 hy).1
 refine⟨hm.heap h.nq1 h.box,yX.del (M':=jr (vr X x.num)) h.loads kX (x:=some x.blk) (zz.2 ⟨x,hx,rfl⟩) (fun y => ?_) (by unfold jr;rw[yn,yn];omega) o1,fun y hy=>hm.heap (h.nb1 (hsub y hy)) (h.each y (hsub y hy)),fun y hy=>zy (h.wait y (hsub y hy)) hm (fun g hg=>(h.nwq (hsub y hy) hg).2.1),fun y hy z hz=>h.wsep y (hsub y hy) z (hsub z hz),fun y hy z hz=>h.k1 y (hsub y hy) z (hsub z hz),fun y hy z hz=>h.k2 y (hsub y hy) z (hsub z hz),hnd,fun y hy=>h.rng y (hsub y hy),by have:=h.len;omega,h.last⟩;unfold jr;constructor
 ·intro hy;obtain⟨z,hz,rfl⟩:=zz.1 hy;obtain⟨z1,z2⟩:=(hin z).1 hz;exact⟨zz.2 ⟨z,z1,rfl⟩,fun c=>z2 (h.k1 z z1 x hx (Yz c))⟩
 ·rintro⟨hy,hne⟩;obtain⟨z,hz,rfl⟩:=zz.1 hy;exact zz.2 ⟨z,(hin z).2 ⟨hz,fun c=>hne (by rw[c])⟩,rfl⟩
theorem FeM.add{last':Nat}(h:FeM w q p m1 last X D1){x:Ld}(hb:w2.heap[q]? = some (.cells (feC p m1 last') 49 (0,0)))(hll:last≤last'∧last'≤100000)(hx:w2.heap[x.blk]? = some (.cells (ldC x) 94 (0,0)))(hxw:x.wv=.slice none 0 0∧x.ws=[])(hxr:(∀ y∈X,y.num≠x.num)∧0<x.num∧x.num≤last'∧x.key.size≤1000∧x.who≤1000)(hn : ∀ y∈X,y.key≠x.key)(hle:X.length<1000)
  (h1:yX xB 9 w2 m1 (jr (x::X)) D1') (hm:Mod S w w2) (hS : ∀ k,FeD q m1 X k→k≠q→k≠m1 → ¬ S k):FeM w2 q p m1 last' (x::X) D1':=by
 have hxo:x.wv.ownBlock=none:=by rw[hxw.1];rfl
 refine⟨hb,h1,fun y hy => ?_,fun y hy => ?_,fun y hy z hz b e1 e2 => ?_,fun y hy z hz e => ?_,fun y hy z hz e => ?_,yO.2 ⟨fun c=>hn x c rfl,h.nd⟩,fun y hy => ?_,by rw[kz];omega,hll.2⟩
 ·rcases zO.1 hy with rfl | hy
  ·exact hx
  ·exact hm.heap (hS _ (.inr (.inr (.inl ⟨y,hy,rfl⟩))) (h.nbq hy) (h.nb1 hy)) (h.each y hy)
 ·rcases zO.1 hy with rfl | hy
  ·unfold Yd;rw[hxw.1,hxw.2];exact vJ _ _ _ _
  ·exact zy (h.wait y hy) hm (fun g hg=>hS _ (.inr (.inr (.inr ⟨y,hy,hg⟩))) (h.nwq hy hg).1 (h.nwq hy hg).2.1)
 ·rcases zO.1 hy with rfl | hy'
  ·rw[hxo]at e1;cases e1
  ·rcases zO.1 hz with rfl | hz'
   ·rw[hxo]at e2;cases e2
   ·exact h.wsep y hy' z hz' b e1 e2
 ·rcases zO.1 hy with rfl | hy'
  ·rcases zO.1 hz with rfl | hz'
   ·rfl
   ·exact absurd e.symm (hn z hz')
  ·rcases zO.1 hz with rfl | hz'
   ·exact absurd e (hn y hy')
   ·exact h.k1 y hy' z hz' e
 ·rcases zO.1 hy with rfl | hy'
  ·rcases zO.1 hz with rfl | hz'
   ·rfl
   ·exact absurd e.symm (hxr.1 z hz')
  ·rcases zO.1 hz with rfl | hz'
   ·exact absurd e (hxr.1 y hy')
   ·exact h.k2 y hy' z hz' e
 ·rcases zO.1 hy with rfl | hy'
  ·obtain⟨a,b,c,d,e⟩:=hxr;refine⟨b,c,d,e,by rw[hxw.2];simp,by rw[hxw.2];simp⟩
  ·obtain⟨a,b,c⟩:=h.rng y hy';exact⟨a,by omega,c⟩
theorem FeM.turn{x x':Ld}(h:FeM w q p m1 last [x] D1)(e1:x'.num=x.num)(e2:x'.key=x.key)(e3:x'.who=x.who)(e4:x'.blk=x.blk)(he:w'.heap[x.blk]? = some (.cells (ldC x') 94 (0,0)))(hw:Yd w' x')(hr:x'.ws.length≤1000 ∧ ∀ n∈x'.ws,n≤1000)(hm:Mod S w w')(hq : ¬ S q)(h1 : ¬ S m1):FeM w' q p m1 last [x'] D1:=by
 have h0:=h.rng x (zF.2 rfl);refine⟨hm.heap hq h.box,?_,fun y hy => ?_,fun y hy => ?_,fun y hy z hz _ _ _ => ?_,fun y hy z hz _ => ?_,fun y hy z hz _ => ?_,by simp,fun y hy => ?_,by simp,h.last⟩
 ·have:=h.loads.mod hm h1;unfold jr at this ⊢;rw[List.map_singleton]at this ⊢;rw[e2,e4];exact this
 ·rw[zF.1 hy,e4];exact he
 ·rw[zF.1 hy];exact hw
 ·rw[zF.1 hy,zF.1 hz]
 ·rw[zF.1 hy,zF.1 hz]
 ·rw[zF.1 hy,zF.1 hz]
 ·rw[zF.1 hy,e1,e2,e3];exact⟨h0.1,h0.2.1,h0.2.2.1,h0.2.2.2.1,hr.1,hr.2⟩
end
theorem zkU(w:World)(hT:xA w){c0 b0 s0:Nat}(hc:(⟨c0,b0,0,s0,false⟩:Cfg).ok)(hs:s0<18446744073709551616) :
  Calls prog 8 #[.agg #[.int .i64 c0,.int .i64 b0,.int .i64 0,.int .u64 s0,.bool false]] w fun e w' => ∃ q p m1,e=.returned (.tuple #[lkP q,.int .i64 0])∧FeP w q p m1 0 [] (J4 ⟨c0,b0,0,s0,false⟩) w':=by
 have hal:zc w (w.alloc (.cells #[.int .i64 c0,.int .i64 b0,.int .i64 0,.int .u64 s0,.bool false] 29)):=(Mod.refl _ w).alloc _;have z:=zj (w:=w) (o := .cells #[.int .i64 c0,.int .i64 b0,.int .i64 0,.int .u64 s0,.bool false] 29 (0,0)) rfl;have HN:=za (zhk (Fo:=NoF) hc hs _ (hT.pure hal) (fun k hk=>hk.elim));have HP:=za hal;have HPos:=za hT.lt;have hmm := @run_makeMap prog;clear hal hT hc hs;dsimp only[Cfg.v]at HN;go_enter func8,ntmps8;go_upto_region 1 with fail
 generalize w.alloc (.cells #[.int .i64 c0,.int .i64 b0,.int .i64 0,.int .u64 s0,.bool false] 29)=W1 at *;generalize w.heap.size=r at z ⊢;obtain⟨z_0,z_1,z_2,z_3,z_4,z_f,z_l,H_z⟩:=cr5 z;clear z
 go_wp2_with (go_at_call 31;refine HN.out.mono ?_;rintro e w1 ⟨p,D0,rfl,hC,hp1,hD⟩)
 have a1:zc w1 (w1.alloc (.map #[] 0)):=(Mod.refl _ w1).alloc _;have hs1:(w1.alloc (.map #[] 0)).heap.size=w1.heap.size+1:=by simp
 have t1:=yX.new xB 9 w1;have a3:zc (w1.alloc (.map #[] 0)) ((w1.alloc (.map #[] 0)).alloc (.cells (feC p w1.heap.size 0) 49)):=(Mod.refl _ _).alloc _;have hlt:=fun k (hk:D0 k)=>hC.lt hk
 have hsz:=hp1.size;have hsz0:=HP.out.size;have hfin:FeR w D0 (w1.heap.size+1) p w1.heap.size 0 [] (.map []) (J4 ⟨c0,b0,0,s0,false⟩) ((w1.alloc (.map #[] 0)).alloc (.cells (feC p w1.heap.size 0) 49)):=by
  have hle : ∀ k,FeD (w1.heap.size+1) w1.heap.size [] k→w1.heap.size≤k:=fun k hk=>by
   rcases hk with e | e | ⟨y,hy,_⟩ | ⟨y,hy,_⟩
   ·omega
   ·omega
   ·cases hy
   ·cases hy
  exact⟨(hC.pure a1).pure a3,⟨zj hs1.symm,t1.mod a3 (fun h=>h),fun x hx=>(by cases hx),fun x hx=>(by cases hx),fun x hx=>(by cases hx),fun x hx=>(by cases hx),fun x hx=>(by cases hx),jf,fun x hx=>(by cases hx),yi _,yi _⟩,fun k hk e=>(by have:=hlt k hk;have:=hle k e;omega),fun k hk=>zH hsz0 (hD k hk),fun k hk=>(by have:=hle k hk;omega),(HP.out.trans hp1).trans (a1.trans a3),HPos.out⟩
 go_ret2;exact⟨w1.heap.size+1,p,w1.heap.size,rfl,D0,_,hfin⟩
end
section
open Go.RowKit Go.Shelf
def XD(ws:List Nat)(n:Nat)(r:Int):Prop:=(r = -1 ∧ ¬ n∈ws) ∨ ∃ i:Nat,r=i∧ws[i]? = some n ∧ ∀ j,j<i→ws[j]? ≠ some n
theorem KB{w:World}{v:Value}{ws:List Nat}(h:zo w v 1 (vm ws))(n:Nat)(hl:ws.length≤1000):Calls prog 48 #[v,.int .i64 n] w fun e w' => ∃ r,e=.returned (.int .i64 r)∧XD ws n r∧w=w':=by
 obtain⟨a,m,c,rfl,hlen,_,hnil,hcell⟩:=h;have hm:m=ws.length:=by unfold vm at hlen;rw[yn]at hlen;omega
 subst hm;have HC:=za hcell;have HN:=za hnil;clear hlen hnil hcell;go_enter func48,ntmps48;go_upto_region 2 with fail
 go_loopw [8] (fun v8 wr => ∃ i:Nat,v8=.int .i64 (i:Nat)∧i≤ws.length∧(∀ j,j<i→ws[j]? ≠ some n)∧wr=w) (fun v8 _=>ws.length-(intOf v8).toNat)
 case atStart=>exact⟨0,rfl,yi _,fun j hj=>by omega,rfl⟩
 case round =>
  obtain⟨i,rfl,hi,hno,rfl⟩:=hrel;have HNo:=za hno;clear hno;have i0:(0:Int)≤(i:Int):=by omega
  have wi:IntKind.i64.wrap ((i:Int)+1)=(i:Int)+1:=zt _ (by omega);by_cases hlt:i<ws.length
  ·have hlt':(i:Int)<(ws.length:Int):=by omega
   obtain⟨x,hx⟩ : ∃ x,ws[i]? = some x:=⟨_,zL hlt⟩
   cases a with
   | none=>exact absurd (HN.out rfl) (by omega)
   | some ad =>
    have c0:=HC.out ad rfl i (.int .i64 x) (by unfold vm;rw[yC,hx];rfl);have HX:=za hx;clear hx;by_cases e:n=x
    ·subst e;go_wp2;go_ret;exact⟨_,rfl,.inr ⟨i,rfl,HX.out,HNo.out⟩,rfl⟩
    ·have e' : ¬ (n:Int)=(x:Int):=fun c9=>e (kH.1 c9)
     go_wp2;go_roundw
     case rel =>
      refine⟨i+1,by go_num,hlt,fun j hj => ?_,by trivial⟩;by_cases c9:j=i
      ·subst c9;rw[HX.out];exact fun c8=>e (kL c8).symm
      ·exact HNo.out j (by omega)
     case measure=>simp[intOf];omega
  ·obtain rfl:i=ws.length:=by omega
   go_wp2;go_ret;refine⟨_,rfl,.inl ⟨rfl,fun hm => ?_⟩,rfl⟩;obtain⟨j,hj,e⟩:=List.mem_iff_getElem.1 hm;exact HNo.out j hj (by rw[zL hj,e])
theorem zdG{w:World}{v:Value}{ws:List Nat}(h:zo w v 1 (vm ws))(n:Nat)(hl:ws.length≤1000):Calls prog 36 #[v,.int .i64 n] w fun e w'=>e=.returned (.bool (decide (n∈ws)))∧w=w':=by
 have HI:=za (KB h n hl);clear h;go_enter func36,ntmps36
 go_wp2_with (go_at_call 48;refine HI.out.mono ?_;rintro e w' ⟨r,rfl,hr,rfl⟩)
 go_ret;refine⟨?_,rfl⟩;rcases hr with⟨rfl,hn⟩ | ⟨i,rfl,hi,_⟩
 ·simp[hn]
 ·simp[List.mem_of_getElem? hi]
end
section
open Go.RowKit Go.Shelf Go.Maps
theorem zeu:(prog.info? 42).map (fun i=>(i.zero,i.size,i.bytes))=some (some (.agg #[.int .i64 0,.slice none 0 0,.int .i64 0]),3,40):=by kernel_rfl
def ftC(er:Int)(l:List (Nat × Value)):List Value:=l.flatMap fun p=>[.int .i64 p.1,p.2,.int .i64 er]
theorem ze6(er:Int)(l:List (Nat × Value))(n:Nat)(v:Value):ftC er (l++[(n,v)])=ftC er l++[.int .i64 n,v,.int .i64 er]:=by unfold ftC;simp
def KT(gf:Nat)(lb:Array Value)(er:Int)(vs:List UInt8)(S:Nat→Prop)(w:World):Prop :=
 ∀(W:World) (n:Nat),Mod S w W→Calls prog gf (#[.int .i64 n]++lb) W fun e W' => ∃ va vn vc,e=.returned (.agg #[.int .i64 n,.slice va vn vc,.int .i64 er])∧yq W' (.slice va vn vc) (zQ vs)∧zc W W'
section
variable{w w' w1 w2 w0:World}{q p m1 last:Nat}{X X':List Ld}{D1 D1':DataW Unit}{S D0:Nat→Prop}{t t':Bst}
def GvI(w:World)(m1:Nat)(who:Nat)(ws:List Nat)(er:Int)(vs:List UInt8)(i:Nat)(v:Value)(wr:World):Prop :=
 i≤ws.length∧Mod (fun k=>k=m1) w wr ∧ ∃ a c l,v=.slice a (i+1) c∧wr.ownsRow 0 42 3 (.slice a (i+1) c) (i+1) (ftC er l)∧l.map Prod.fst=who::ws.take i∧(∀ z∈l,yq wr z.2 (zQ vs)) ∧ ∀ g,(Value.slice a (i+1) c).ownBlock=some g→w.heap.size≤g
theorem XJ(h:FeM w q p m1 last X D1){x:Ld}(hx:x∈X){gf:Nat}{lb:Array Value}{er:Int}{vs:List UInt8}(he : ∀ args W,(callFunc gf args).run prog W=.ok (.enter gf args) W)(hG:KT gf lb er vs (fun k=>k=m1) w) :
    Calls prog 42 #[lkP q,lkP x.blk,.func (.func gf) #[] lb] w fun e w' => ∃ v,e=.returned v∧GvI w m1 x.who x.ws er vs x.ws.length v w'∧FeM w' q p m1 last (vr X x.num) (D1.del (xc x.key)):=by
  obtain⟨num,key,who,wv,ws,off,blk⟩:=x;obtain⟨r1,r2,r3,r4,r5,r6⟩:=h.rng _ hx;have hdr:zc w w.drew:=(Mod.refl _ w).drew;dsimp only at r3 r5 ⊢;obtain⟨w1,e1,o1,t1⟩:=(h.loads.mod hdr (fun e=>e)).own.drop kX underlying47 (ZS (s:=key) (by omega)) 0;have hm1:Mod (fun k=>k=m1) w w1:=Mod.of_drew (Mod.of_grown t1.grown (fun k e _=>by cases e;rfl));have hD:=h.drop hx o1 hm1;have hb:=h.box;have hxb:=h.each _ hx;have hlt : ∀ k,k=m1→k<w.heap.size:=fun k e=>h.lt (.inr (.inl e))
  have hwt : ∀ W,Mod (fun k=>k=m1) w W→zo W wv 1 (vm ws):=fun W hm=>zo.of_owns (zy (h.wait _ hx) hm (fun g hg=>(h.nwq hx hg).2.1)) (fun u hu=>by unfold vm at hu;obtain⟨n,_,rfl⟩:=zz.1 hu;rfl)
  have hwe : ∀ W,Mod (fun k=>k=m1) w W→W.heap[blk]? = some (.cells (ldC ⟨num,key,who,wv,ws,off,blk⟩) 94 (0,0)):=fun W hm=>hm.heap (h.nb1 hx) hxb
  unfold ldC at hxb hwe;dsimp only at hxb hwe hD;obtain⟨wa,wn,wc,rfl,hwl,_⟩:=hwt w (Mod.refl _ _);have hwn:wn=ws.length:=by unfold vm at hwl;rw[yn]at hwl;omega
  subst hwn;have HG:=za hG;have HM1:=za hm1;have HD:=za hD;have HWT:=za hwt;have HWE:=za hwe;have HLT:=za hlt;have HDL:=za (fun k (hk:FeD q m1 (vr X num) k)=>h.lt (FeD.sub (fun y hy=>(V5.1 hy).1) hk));have H1:=za (show ∀ ty,(Builtin.delete_ #[47,9] ty #[.map (some m1),.string key]).run prog w.drew=.ok (.tuple #[]) w1 from fun ty=>e1);clear hwt hG hm1 hD hwe o1 t1 hdr r1 r2 r3 r4 r6 h hx hwl e1 hlt;obtain⟨hb_0,hb_1,hb_2,hb_f,hb_l,H_hb⟩:=cr3 hb;clear hb;obtain⟨hxb_0,hxb_1,hxb_2,hxb_3,hxb_4,hxb_f,hxb_l,H_hxb⟩:=cr5 hxb;clear hxb;obtain⟨j0,hj,jz0,jz1,jz2⟩:=xG zeu;go_enter func42,ntmps42;go_upto_region 1 with fail
  go_still_tail 8,(by kernel_rfl)
  go_upto_region 2 with(at_delete;refine JI _ rfl _ _ _ _ rfl rfl rfl H1.out ?_;go_frame)
  clear hb_0 hb_1 hb_2 hb_f hb_l;clear hxb_0 hxb_1 hxb_2 hxb_3 hxb_4 hxb_f hxb_l;clear H_hb H_hxb H1;have hx1:=HWE.out w1 HM1.out;obtain⟨hx1_0,hx1_1,hx1_2,hx1_3,hx1_4,hx1_f,hx1_l,H_hx1⟩:=cr5 hx1;clear hx1;have HC1:=za (HG.out w1 who HM1.out);go_wp2;refine HC1.out.mono ?_;rintro e w2 ⟨va,vn,vc,rfl,hv2,hp2⟩;have hm2:Mod (fun k=>k=m1) w w2:=HM1.out.trans (hp2.mono (fun _ _ e=>e.elim));have hx2:=HWE.out w2 hm2;have HM2:=za hm2;have HV2:=za hv2;have HP2:=za hp2;clear hx1_0 hx1_1 hx1_2 hx1_3 hx1_4 hx1_f hx1_l;clear H_hx1 HC1 hv2 hm2 hp2;obtain⟨hx2_0,hx2_1,hx2_2,hx2_3,hx2_4,hx2_f,hx2_l,H_hx2⟩:=cr5 hx2;clear hx2;go_upto_region 4 with fail
  have a3:zc w2 (w2.alloc (.cells #[.int .i64 who,.slice va vn vc,.int .i64 er] 42)):=(Mod.refl _ _).alloc _;have z3:=zj (w:=w2) (o := .cells #[.int .i64 who,.slice va vn vc,.int .i64 er] 42 (0,0)) rfl;have hst:GvI w m1 who ws er vs 0 (.slice (some ⟨w2.heap.size,0,none⟩) 1 1) (w2.alloc (.cells #[.int .i64 who,.slice va vn vc,.int .i64 er] 42)) :=
    ⟨yi _,HM2.out.trans (a3.mono (fun _ _ e=>e.elim)),_,_,[(who,.slice va vn vc)],rfl,⟨rfl,.inr ⟨w2.heap.size,1,_,rfl,yi _,z3,zI _,by unfold maxLen;omega,rfl,rfl⟩⟩,rfl,fun z hz=>by
      rw[zF.1 hz];exact YH HV2.out a3 (fun k hk=>hk.elim),fun g hg=>by
      cases hg
      exact HM2.out.size⟩
  have HST:=za hst;have HP23:=za (HP2.out.trans a3);clear hst a3 z3;generalize w2.alloc (.cells #[.int .i64 who,.slice va vn vc,.int .i64 er] 42)=w3 at *;have HD3:=za (HD.out.mod HP23.out (fun _ _ e=>e));clear HP2 HV2 HM2 hx2_0 hx2_1 hx2_2 hx2_3 hx2_4 hx2_f hx2_l H_hx2 HD HP23;go_loopw [7,30] (fun v7 v30 wr => ∃ i:Nat,v30=.int .i64 (i:Nat)∧GvI w m1 who ws er vs i v7 wr∧FeM wr q p m1 last (vr X num) (D1.del (xc key))) (fun _ v30 _=>ws.length-(intOf v30).toNat)
  case atStart=>exact⟨0,rfl,HST.out,HD3.out⟩
  case round =>
    obtain⟨i,rfl,⟨hi,hm,a,c,l,rfl,hrow,hl,hv,hoff⟩,hF⟩:=hrel;have wi:IntKind.i64.wrap ((i:Int)+1)=(i:Int)+1:=zt _ (by omega);have HM:=za hm;have HRow:=za hrow;have HLl:=za hl;have HV:=za hv;have HOff:=za hoff;have HF:=za hF;clear hm hrow hl hv hoff hF HST HD3;by_cases hlt:i<ws.length
    · have hlt':(i:Int)<(ws.length:Int):=by omega
      have i0:(0:Int)≤(i:Int):=by omega
      obtain⟨n,hn⟩ : ∃ n,ws[i]? = some n:=⟨_,zL hlt⟩;obtain⟨_,_,_,e0,_,_,hnil,hcell⟩:=HWT.out wr HM.out
      cases e0
      cases wa with
      | none=>exact absurd (hnil rfl) (by omega)
      | some ad =>
        have c0:=hcell ad rfl i (.int .i64 n) (by unfold vm;rw[yC,hn];rfl);have HCr:=za (HG.out wr n HM.out);have HN:=za hn;clear hn hnil hcell;go_wp2;refine HCr.out.mono ?_;rintro e w4 ⟨va,vn,vc,rfl,hv4,hp4⟩;have HV4:=za hv4;have HP4:=za hp4;have hrow4:=zy HRow.out hp4 (fun _ _ e=>e);have HR4:=za (zy hrow4 ((Mod.refl (fun _=>False) w4).alloc (.cells #[.int .i64 n,.slice va vn vc,.int .i64 er] 42)) (fun _ _ e=>e));clear hv4 hp4 HCr c0 hrow4
        go_wp2_with (first
          | (at_builtin;refine uK _ rfl _ _ 38 rfl 42 j0 _ 3 40 underlying38 hj jz0 jz1 jz2 rfl (by decide) (.slice a (i+1) c) (i+1) _ rfl HR4.out _ [.int .i64 n,.slice va vn vc,.int .i64 er] 1 rfl (zo.of_block 1 1 3 (zj rfl) (by rfl) (by simp[Value.oneCell'])) rfl (by unfold maxLen;omega) (by omega) ?_;intro a8 c8 w6 hr8 hg8 hb8)
          | go_in)
        have m5:Mod (fun k=>(Value.slice a (i+1) c).ownBlock=some k) w4 w6:=((Mod.refl _ w4).alloc _).then (Mod.of_grown (S:=fun k=>(Value.slice a (i+1) c).ownBlock=some k) hg8 (fun k e _=>e)) (fun _ _ h=>h);have m6:Mod (fun k=>(Value.slice a (i+1) c).ownBlock=some k) wr w6:=(HP4.out.mono (fun _ _ e=>e.elim)).trans m5;have hnb : ∀ k,(Value.slice a (i+1) c).ownBlock=some k→xU wr k:=fun k e=>by obtain⟨cur,e2⟩:=yc HRow.out e;exact vd e2 (by decide)
        have hnb4 : ∀ k,(Value.slice a (i+1) c).ownBlock=some k→xU w4 k:=fun k e=>by obtain⟨cur,e2⟩:=yc (zy HRow.out HP4.out (fun _ _ e=>e)) e;exact vd e2 (by decide)
        go_roundw
        case rel =>
          refine⟨i+1,by first | rfl | go_num,⟨hlt,HM.out.then m6 (fun k hk e=>(by have:=HOff.out k e;omega)),a8,c8,l++[(n,.slice va vn vc)],rfl,?_,?_,fun z hz => ?_,fun g hg => ?_⟩,HF.out.mod m6 (fun k hk e=>(by have:=HOff.out k e;have:=HDL.out k hk;omega))⟩
          · rw[ze6];exact hr8
          · rw[vh,HLl.out,uE,HN.out];rfl
          · rcases yz.1 hz with h9 | h9
            · exact YH (HV.out z h9) m6 hnb
            · rw[zF.1 h9];exact YH HV4.out m5 hnb4
          · rcases hb8 with e | e
            · rw[e]at hg;exact HOff.out g hg
            · rw[e]at hg
              cases hg
              have h1:=HP4.out.size;have h2:=HM.out.size;simp;omega
        case measure=>simp[intOf];omega
    · obtain rfl:i=ws.length:=by omega
      go_wp2;refine zN (v := .slice a (ws.length+1) c) (by simp[results,results42,go_sem]) rfl ⟨_,rfl,⟨zI _,HM.out,a,c,l,rfl,HRow.out,HLl.out,HV.out,HOff.out⟩,HF.out⟩
end
def Zj(w:World)(who:Nat)(ws:List Nat)(er:Int)(vs:List UInt8)(v:Value):Prop :=
 ∃ a c l,v=.slice a (ws.length+1) c∧w.ownsRow 0 42 3 (.slice a (ws.length+1) c) (ws.length+1) (ftC er l)∧l.map Prod.fst=who::ws ∧ ∀ z∈l,yq w z.2 (zQ vs)
section
variable{w w' w1 w2 w0:World}{q p m1 last:Nat}{X X':List Ld}{D1 D1':DataW Unit}{S D0:Nat→Prop}{t t':Bst}{who:Nat}{ws:List Nat}{er:Int}{vs:List UInt8}{v:Value}
theorem GvI.out(h:GvI w m1 who ws er vs ws.length v w'):Zj w' who ws er vs v∧Mod (fun k=>k=m1) w w' ∧ ∀ g,v.ownBlock=some g→w.heap.size≤g:=by
 obtain⟨_,hm,a,c,l,rfl,h1,h2,h3,h4⟩:=h;rw[List.take_length]at h2;exact⟨⟨a,c,l,rfl,h1,h2,h3⟩,hm,h4⟩
theorem Zj.mod(h:Zj w who ws er vs v)(hm:Mod S w w')(hg : ∀ g,v.ownBlock=some g → ¬ S g)(hS : ∀ k,S k→xU w k):Zj w' who ws er vs v:=by
 obtain⟨a,c,l,rfl,h1,h2,h3⟩:=h;exact⟨a,c,l,rfl,zy h1 hm hg,h2,fun z hz=>YH (h3 z hz) hm hS⟩
theorem FeR.drain(h:FeR w0 D0 q p m1 last X D1 t w):CallsD prog 37 #[lkP p] .returning w fun e u' w'=>u'=.returning∧(∃ v,e=.returned v)∧Mod D0 w w'∧FeP w0 q p m1 last X (vA t) w':=by
 refine(h.ca.drainD .returning).mono ?_;rintro e u' w' ⟨rfl,hv,hg⟩;obtain⟨D',hR⟩:=h.cago hg;obtain⟨_,_,hm,_⟩:=hg;exact⟨rfl,hv,hm,D',_,hR⟩
theorem FeR.cago2(h:FeR w0 D0 q p m1 last X D1 t w)(hg:vD NoF w D0 p t' w') : ∃ D0',FeR w0 D0' q p m1 last X D1 t' w'∧Mod D0 w w' ∧ ∀ k,D0' k→D0 k∨w.heap.size≤k:=by
 obtain⟨D',hc,hm,hgr⟩:=hg;refine⟨D',⟨hc,h.fe.mod hm (fun k hk e=>h.ap k e hk),fun k hk hl => ?_,fun k hk => ?_,h.ge,h.pu.then hm (fun k hk e=>by have:=h.gd k e;omega),h.po⟩,hm,hgr⟩
 ·rcases hgr k hk with e | e
  ·exact h.ap k e hl
  ·have:=h.fe.lt hl;omega
 ·rcases hgr k hk with e | e
  ·exact h.gd k e
  ·exact zH h.pu.size e
theorem FeR.gone{n:Nat}(h:FeR w0 D0 q p m1 last X D1 t w)(hm:Mod (fun k=>k=m1) w w')(hF:FeM w' q p m1 last (vr X n) D1'):FeR w0 D0 q p m1 last (vr X n) D1' t w' :=
 h.to hm hF (fun k hk e=>h.ap k hk (.inr (.inl e))) (fun k _ e=>h.fe.nob (.inr (.inl e))) (fun k e=>h.ge k (.inr (.inl e))) (fun k hk => .inl (FeD.sub (fun y hy=>(V5.1 hy).1) hk))
theorem Vo(h:FeM w q p m1 last X D1){x:Ld}(hx:x∈X):Calls prog 39 #[lkP q,.int .i64 x.num] w fun e w'=>e=.returned (lkP x.blk)∧zc w w':=by
 refine(zcb h x.num).mono ?_;rintro e w' ⟨⟨y,hy,e1,rfl⟩ | ⟨hn,_⟩,hp⟩
 ·rw[h.k2 y hy x hx (kH.1 e1)];exact⟨rfl,hp⟩
 ·exact absurd rfl (hn x hx)
theorem zez(h:FeM w q p m1 last X D1){n:Int}(hn : ∀ x∈X,(x.num:Int)≠n):Calls prog 39 #[lkP q,.int .i64 n] w fun e w'=>e=.returned (.pointer none)∧zc w w':=by
 refine(zcb h n).mono ?_;rintro e w' ⟨⟨y,hy,e1,rfl⟩ | ⟨_,rfl⟩,hp⟩
 ·exact absurd e1 (hn y hy)
 ·exact⟨rfl,hp⟩
theorem V2{c8 vn vc:Nat}{va:Option Addr}(h8:w.heap[c8]? = some (.cells #[.slice va vn vc] 32 (0,0)))(hv:zo w (.slice va vn vc) 1 (zQ vs))(hn:vn≤100000)(hn8 : ¬ S c8)(hS : ∀ g,vE (.slice va vn vc)=some g → ¬ S g):KT 43 #[lkP c8] 0 vs S w:=by
 intro W n hW;have h8n:=zG (o := .cells #[.int .i64 0,.slice none 0 0,.int .i64 0] 42) (hW.heap hn8 h8);have z3:=zj (w:=W) (o := .cells #[.int .i64 0,.slice none 0 0,.int .i64 0] 42 (0,0)) rfl;have hal:zc W (W.alloc (.cells #[.int .i64 0,.slice none 0 0,.int .i64 0] 42)):=(Mod.refl _ W).alloc _;have HC:=za (Vh va vn vc (zQ vs) _ ((hv.frame hW hS).frame hal (fun _ _ e=>e)) (by omega));have Z3:=za z3;have HAL:=za hal;clear h8 hv hn8 hS hW hal;generalize w.heap.size=r0 at *;go_enter func43,ntmps43;go_upto_region 1 with fail
 generalize W.alloc (.cells #[.int .i64 0,.slice none 0 0,.int .i64 0] 42)=W1 at *;obtain⟨c3,hc3⟩:=zf W.heap.size;rw[hc3]at Z3 z3 ⊢;have HC3:=za hc3;clear hc3 z3;obtain⟨h8n_0,h8n_f,h8n_l,H_h8n⟩:=cr1 h8n;clear h8n
 go_wp2_with (go_at_call 44;refine HC.out.mono ?_;rintro e w2 ⟨a',n',c',rfl,hr,hf,hp⟩;have z3:=hp.heap (fun e=>e) Z3.out;have HR:=za hr;have HPP:=za hp;have HZ:=za z3;clear hr hp hf;obtain⟨z3_0,z3_1,z3_2,z3_f,z3_l,H_z3⟩:=cr3 z3;clear z3)
 have hm:Mod (fun k=>k=c3) w2 (((w2.setCell ⟨c3,0,none⟩ (.int .i64 n)).setCell ⟨c3,1,none⟩ (.slice a' n' c')).setCell ⟨c3,2,none⟩ (.int .i64 0)):=((Mod.set1 c3 0 _).trans (Mod.set1 c3 1 _)).trans (Mod.set1 c3 2 _);have y3:=zW (j:=2) (v := .int .i64 0) (zW (j:=1) (v := .slice a' n' c') (zW (j:=0) (v := .int .i64 n) HZ.out));have hnb : ∀ k,k=c3→xU w2 k:=fun k e=>by subst e;exact vd HZ.out (by decide)
 clear z3_0 z3_1 z3_2 z3_f z3_l H_z3;generalize((w2.setCell ⟨c3,0,none⟩ (.int .i64 n)).setCell ⟨c3,1,none⟩ (.slice a' n' c')).setCell ⟨c3,2,none⟩ (.int .i64 0)=w5 at *;simp at y3;obtain⟨y3_0,y3_1,y3_2,y3_f,y3_l,H_y3⟩:=cr3 y3;clear y3;exact zN (v := .agg #[.int .i64 n,.slice a' n' c',.int .i64 0]) (by simp[results,results43,go_sem,y3_0,y3_1,y3_2]) rfl ⟨a',n',c',rfl,YH (ZJ HR.out) hm hnb,(HAL.out.trans HPP.out).then hm (fun k hk e=>by have:=HC3.out;omega)⟩
theorem zf3{c7:Nat}{er:Int}(h8:w.heap[c7]? = some (.cells #[.int .i64 er] 24 (0,0)))(hn8 : ¬ S c7):KT 46 #[lkP c7] er [] S w:=by
 intro W n hW;have h8n:=zG (o := .cells #[.int .i64 0,.slice none 0 0,.int .i64 0] 42) (hW.heap hn8 h8);have z3:=zj (w:=W) (o := .cells #[.int .i64 0,.slice none 0 0,.int .i64 0] 42 (0,0)) rfl;have hal:zc W (W.alloc (.cells #[.int .i64 0,.slice none 0 0,.int .i64 0] 42)):=(Mod.refl _ W).alloc _;have Z3:=za z3;have HAL:=za hal;clear h8 hn8 hW hal z3;go_enter func46,ntmps46;go_upto_region 1 with fail
 generalize W.alloc (.cells #[.int .i64 0,.slice none 0 0,.int .i64 0] 42)=w2 at *;obtain⟨c3,hc3⟩:=zf W.heap.size;rw[hc3]at Z3 ⊢;have HC3:=za hc3;clear hc3;have z3:=Z3.out;obtain⟨h8n_0,h8n_f,h8n_l,H_h8n⟩:=cr1 h8n;clear h8n;obtain⟨z3_0,z3_1,z3_2,z3_f,z3_l,H_z3⟩:=cr3 z3;clear z3;go_wp2;have hm:Mod (fun k=>k=c3) w2 (((w2.setCell ⟨c3,0,none⟩ (.int .i64 n)).setCell ⟨c3,1,none⟩ (.slice none 0 0)).setCell ⟨c3,2,none⟩ (.int .i64 er)):=((Mod.set1 c3 0 _).trans (Mod.set1 c3 1 _)).trans (Mod.set1 c3 2 _);have y3:=zW (j:=2) (v := .int .i64 er) (zW (j:=1) (v := .slice none 0 0) (zW (j:=0) (v := .int .i64 n) Z3.out));clear z3_0 z3_1 z3_2 z3_f z3_l H_z3 h8n_0 h8n_f h8n_l H_h8n;generalize((w2.setCell ⟨c3,0,none⟩ (.int .i64 n)).setCell ⟨c3,1,none⟩ (.slice none 0 0)).setCell ⟨c3,2,none⟩ (.int .i64 er)=w5 at *;simp at y3;obtain⟨y3_0,y3_1,y3_2,y3_f,y3_l,H_y3⟩:=cr3 y3;clear y3;exact zN (v := .agg #[.int .i64 n,.slice none 0 0,.int .i64 er]) (by simp[results,results46,go_sem,y3_0,y3_1,y3_2]) rfl ⟨none,0,0,rfl,vJ _ _ _ _,HAL.out.then hm (fun k hk e=>by have:=HC3.out;omega)⟩
end
end
end Go.Proofs.YtdohbogbnheakaaGreatDoor
