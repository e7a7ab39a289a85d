/- Lemmas and contracts of functions. No condition. -/
import Derived.Test.YtpplkcnknabofaaGreatDoorJPfCacheNone3
import Derived.StillTailTactics
namespace Go.Proofs.YtpplkcnknabofaaGreatDoor
open _root_.Go.Proofs.Tryz
set_option maxRecDepth 100000
set_option maxHeartbeats 20000000
set_option linter.all false
section
open Go.RowKit Go.Shelf
def uo(j t s:Nat)(c:Grp):Grp:=(c.1.set j t,c.2.set j s)
def yz(Gs:List Grp)(i j t s:Nat):List Grp:=Gs.modify i (uo j t s)
theorem jB(Gs:List Grp)(i j t s:Nat):(yz Gs i j t s).length=Gs.length:=by simp[yz]
theorem YD{Gs:List Grp}{i j t s:Nat}(hi:i<Gs.length)(k:Nat):zq (yz Gs i j t s) k=if k=i then uo j t s (zq Gs i)else zq Gs k:=by
 unfold zq yz;rw[vS,Ju];by_cases h:k=i
 ·subst h;rw[zk rfl,vS,zN hi];simp
 ·rw[zh h,vS];have : ¬ i=k:=fun e=>h e.symm
  simp[this]
theorem xY.put{c:Grp}(h:xY c){j t s:Nat}(ht:t<128∨t=128∨t=254)(hs:s≤4294967295):xY (uo j t s c):=by
 refine⟨⟨by simp[uo,h.ctl.1],fun x hx => ?_⟩,by simp[uo,h.len],fun x hx => ?_⟩
 ·rcases jS hx with h' | rfl
  ·exact h.ctl.2 x h'
  ·exact ht
 ·rcases jS hx with h' | rfl
  ·exact h.lt x h'
  ·exact hs
theorem xB.put{Gs:List Grp}(h:xB Gs){i j t s:Nat}(ht:t<128∨t=128∨t=254)(hs:s≤4294967295):xB (yz Gs i j t s):=by
 refine⟨by rw[jB];exact h.pow,fun c hc => ?_⟩;obtain⟨k,hk⟩:=ug hc;unfold yz at hk;rw[Ju]at hk
 cases hg:Gs[k]? with
 | none=>rw[hg]at hk;simp at hk
 | some c0 =>
  have h0:=h.grp c0 (yd hg);rw[hg]at hk;by_cases e:i=k
  ·simp[e]at hk;rw[← hk];exact h0.put ht hs
  ·simp[e]at hk;rw[← hk];exact h0
theorem KS{α:Type}(F:α→Nat)(g:α→α) : ∀(L:List α) (i:Nat) (a:α),L[i]? = some a→((L.modify i g).map F).sum+F a=(L.map F).sum+F (g a)
 | [],_,_,h=>by simp at h
 | b::L,0,a,h=>by simp at h;subst h;simp;omega
 | b::L,i+1,a,h=>by
  have:=KS F g L i a (by simpa using h);simp only[List.modify_succ_cons,List.map_cons,List.sum_cons];omega
theorem KO(p:Nat→Bool)(t:Nat) : ∀(l:List Nat) (j a:Nat),l[j]? = some a→(l.set j t).countP p+(p a).toNat=l.countP p+(p t).toNat
 | [],_,_,h=>by simp at h
 | b::l,0,a,h=>by
  simp at h;subst h;simp only[List.set_cons_zero,List.countP_cons]
  cases p b<;>cases p t<;>simp
 | b::l,j+1,a,h=>by
  have:=KO p t l j a (by simpa using h);simp only[List.set_cons_succ,List.countP_cons];omega
theorem VY{Gs:List Grp}{i j t s a:Nat}(hi:i<Gs.length)(ha:(zq Gs i).1[j]? = some a):zE (yz Gs i j t s)+(decide (a<128)).toNat=zE Gs+(decide (t<128)).toNat:=by
 have h1:=KS (fun c:Grp=>c.1.countP (· < 128)) (uo j t s) Gs i (zq Gs i) (uf hi);have h2:=KO (fun x=>decide (x<128)) t (zq Gs i).1 j a ha;unfold zE yz;simp only[uo]at h1 h2 ⊢;omega
theorem UE{Gs:List Grp}{i j t s a:Nat}(hi:i<Gs.length)(ha:(zq Gs i).1[j]? = some a):ye (yz Gs i j t s)+(a==254).toNat=ye Gs+(t==254).toNat:=by
 have h1:=KS (fun c:Grp=>c.1.countP (· == 254)) (uo j t s) Gs i (zq Gs i) (uf hi);have h2:=KO (fun x=>x==254) t (zq Gs i).1 j a ha;unfold ye yz;simp only[uo]at h1 h2 ⊢;omega
theorem X5(p:Nat→Bool) : ∀ {Gs:List Grp},(∀ c∈Gs,xY c)→(Gs.map (fun c=>c.1.countP p)).sum≤8*Gs.length
 | [],_=>by simp
 | c::Gs,h=>by
  have h1:=X5 p (Gs:=Gs) (fun c hc=>h c (by simp[hc]));have h2:c.1.countP p≤c.1.length:=Uq;rw[(h c (by simp)).ctl.1]at h2;simp only[List.map_cons,List.sum_cons,List.length_cons];omega
theorem xB.used_le{Gs:List Grp}(h:xB Gs):zE Gs≤8388608:=by have:=X5 (· < 128) h.grp;have:=h.pow.le;unfold zE;omega
theorem xB.tomb_le{Gs:List Grp}(h:xB Gs):ye Gs≤8388608:=by have:=X5 (· == 254) h.grp;have:=h.pow.le;unfold ye;omega
theorem zl4{c:Grp}(h:xY c){j t s:Nat}(hj:j<8):yO (uo j t s c)=((yO c).set 0 (.int .u64 (zC (c.1.set j t)))).set (j+1) (.int .u32 (s:Int)):=by
 unfold yO uo;simp only[List.set_cons_zero,List.set_cons_succ]
 congr 1
 apply uF;intro k;rw[Xz];simp only[List.getElem?_map,List.length_map,List.length_range];by_cases hk:k<8
 ·rw[qt hk];simp only[Option.map_some];by_cases e:j=k
  ·subst e;simp[h.len,hj]
  ·simp[e,List.getD_eq_getElem?_getD,List.getElem?_set]
 ·have:(List.range 8)[k]? = none:=by simp;omega
  rw[this];by_cases e:j=k
  ·omega
  ·simp[e]
theorem zgu{Gs:List Grp}{i j t s:Nat}(h:xY (zq Gs i))(hi:i<Gs.length)(hj:j<8) :
  ((Gs.flatMap yO).set (i*9+0) (.int .u64 (zC ((zq Gs i).1.set j t)))).set (i*9+(j+1)) (.int .u32 (s:Int))=(yz Gs i j t s).flatMap yO:=by
 have hR : ∀ r∈Gs.map yO,r.length=9:=fun r hr=>by obtain⟨c,_,rfl⟩:=zI.1 hr;exact qW c
 rw[List.flatMap_def,Yk 9 0 (by omega) _ _ hR,Yk 9 (j+1) (by omega) _ _ (Zx hR i 0 _),List.flatMap_def]
 congr 1
 apply uF;intro k;unfold yz;simp only[List.getElem?_modify,List.getElem?_map];by_cases e:i=k
 ·subst e;rw[uf hi];simp only[if_pos];exact congrArg some (zl4 h hj).symm
 ·simp[e]
theorem zbi{Gs:List Grp}{i j t s:Nat}(h:xY (zq Gs i))(hi:i<Gs.length)(hj:j<8)(u:Value)(hu:u=.int .u64 (zC ((zq Gs i).1.set j t))) :
  ((Gs.flatMap yO).set (i*9) u).set (i*9+1+j) (.int .u32 (s:Int))=(yz Gs i j t s).flatMap yO:=by
 subst hu;have:=zgu (t:=t) (s:=s) h hi hj
 rwa [XR,show i*9+(j+1)=i*9+1+j by omega]at this
def UF(l:List Int):List Value:=l.map (Value.int .i64)
theorem zca{w:World}{a:Option Addr}{c:Nat}{l:List Int}{most:Int}(h:zn w (.slice a l.length c) 1 (UF l))(hl : ∀ z∈l,0≤z∧z≤most)(hn:l.length≤8) :
  Calls prog 339 #[.int .i64 most,.slice a l.length c] w fun e w'=>e=.returned (.int .i64 0)∧w=w':=by
 have HR:=za h;have HL:=za hl;clear h hl;obtain⟨n,hn'⟩ : ∃ n,l.length=n:=⟨_,rfl⟩;rw[hn']at HR hn ⊢;have HN:=za hn';clear hn';have wn:IntKind.i64.wrap (n:Int)=n:=zt _ (by omega);go_enter func339,ntmps339;go_upto_region 2 with fail
 go_loopw [9] (fun v9 wr => ∃ i,v9=.int .i64 (i:Nat)∧i≤n∧wr=w) (fun v9 _=>n-(intOf v9).toNat)
 case atStart=>exact⟨0,rfl,yh _,rfl⟩
 case round =>
  obtain⟨i,rfl,hi,rfl⟩:=hrel;by_cases hlt:i<n
  ·have hlt':(i:Int)<(n:Int):=by omega
   obtain⟨z,hz⟩ : ∃ z,l[i]? = some z:=⟨_,zN (by have:=HN.out;omega)⟩;obtain⟨h1,h2⟩:=HL.out z (yd hz);obtain⟨a',n',c',e,_,_,h0,hc⟩:=HR.out
   cases e
   obtain⟨ad,rfl⟩ : ∃ ad,a=some ad:=by
    cases a with
    | none=>have:=h0 rfl;omega
    | some ad=>exact⟨ad,rfl⟩
   have c0:=hc ad rfl i (.int .i64 z) (by unfold UF;rw[yw,hz];rfl);clear hc h0 hz;have wi:IntKind.i64.wrap ((i:Int)+1)=(i:Int)+1:=zt _ (by omega);have d1:decide (z<0)=false:=by simp;omega
   have d2:decide (most<z)=false:=by simp;omega
   go_wp2;go_roundw
   case rel=>exact⟨i+1,by go_num,hlt,trivial⟩
   case measure=>simp[intOf];omega
  ·have hlt':(n:Int)≤(i:Int):=by omega
   go_wp2;go_ret;exact⟨rfl,rfl⟩
theorem zcP{g live tombs:Nat}(hg:Pow g)(h:live+tombs≤8*g)(w:World):Calls prog 293 #[.int .i64 g,.int .i64 live,.int .i64 tombs] w fun e w'=>e=.returned (.int .i64 0)∧zb w w':=by
  have hg1:=hg.le;have HV:=za (fun W=>K0 g W hg);have w8:IntKind.i64.wrap ((g:Int)*8)=(g:Int)*8:=zt _ (by omega);have wl:IntKind.i64.wrap ((live:Int)+(tombs:Int))=(live:Int)+(tombs:Int):=zt _ (by omega);have h1:=zi (w:=w) (o := .cells #[.int .i64 live,.int .i64 tombs] 3 (0,0)) rfl;have hp1:zb w (w.alloc (.cells #[.int .i64 live,.int .i64 tombs] 3)):=(Mod.refl _ w).alloc _;have HW1:=za (zca (a:=some ⟨w.heap.size,0,none⟩) (c:=2) (l:=[(live:Int),(tombs:Int)]) (most:=(g:Int)*8) (zn.of_block 2 2 1 h1 (by rfl) (by simp[UF,Value.oneCell'])) (by simp;omega) (by simp));have HP1:=za hp1;clear h1 hp1 hg;simp only[List.length_cons,List.length_nil,Nat.zero_add,Nat.reduceAdd]at HW1;go_enter func293,ntmps293;go_upto_region 5 with(first
    | (go_at_call 276;refine(HV.out _).mono ?_;rintro e w' ⟨rfl,rfl⟩)
    | (go_at_call 339;refine HW1.out.mono ?_;rintro e w' ⟨rfl,rfl⟩))
  generalize w.alloc (.cells #[.int .i64 live,.int .i64 tombs] 3)=w1 at *;have h2:=zi (w:=w1) (o := .cells #[.int .i64 ((live:Int)+(tombs:Int))] 3 (0,0)) rfl;have HW2:=za (zca (a:=some ⟨w1.heap.size,0,none⟩) (c:=1) (l:=[(live:Int)+(tombs:Int)]) (most:=(g:Int)*8) (zn.of_block 1 1 1 h2 (by rfl) (by simp[UF,Value.oneCell'])) (by simp;omega) (by simp));clear h2 HW1;simp only[List.length_cons,List.length_nil,Nat.zero_add,Nat.reduceAdd]at HW2
  go_wp2_with (go_at_call 339;refine HW2.out.mono ?_;rintro e w' ⟨rfl,rfl⟩)
  go_ret;exact⟨rfl,HP1.out.alloc _⟩
theorem zk6{g:Nat}(hg:Pow g)(w:World):Calls prog 316 #[.int .i64 g] w fun e w'=>e=.returned (.int .i64 (7*(g:Int)))∧w=w':=by
 have hg1:=hg.le;have w7:IntKind.i64.wrap (7*(g:Int))=7*(g:Int):=zt _ (by omega);clear hg;go_enter func316,ntmps316;go_wp2;go_ret;exact⟨rfl,rfl⟩
theorem jR{w X Y:World}{b6:Nat}{u0 u1 v0 v1:Value}{T:TypeId}(h6:X.heap[b6]? = some (.cells #[u0,u1] T (0,0)))(hp:zb w X)(hb:w.heap.size≤b6)(hY:(X.setCell ⟨b6,0,none⟩ v0).setCell ⟨b6,1,none⟩ v1=Y):zb w Y∧Y.cell? ⟨b6,0,none⟩=some v0∧Y.cell? ⟨b6,1,none⟩=some v1:=by
 have m2:=zbO (v0:=v0) (v1:=v1) h6;have hmm:Mod (fun i=>i=b6) X ((X.setCell ⟨b6,0,none⟩ v0).setCell ⟨b6,1,none⟩ v1):=Mod.set2 b6 0 1 _ _;rw[hY]at m2 hmm;exact⟨hp.then hmm (fun i hi e=>by omega),zf _ b6 0 _ _ _ m2,zf _ b6 1 _ _ _ m2⟩
def jF(g live tombs:Nat):Option (Nat × Bool) :=
 if live+tombs<7*g then some (g,false)else if 2*live≤7*g then some (g,true)else if g<1048576 then some (2*g,true)else if live<7*g then some (g,true)else none
def zdH(o:Option (Nat × Bool)):Value:=match o with
 | some x => .tuple #[.agg #[.int .i64 (x.1:Nat),.bool x.2],.int .i64 0]
 | none => .tuple #[.agg #[.int .i64 0,.bool false],.int .i64 7]
theorem Az55r {P:Prop}(h:P:=by
 go_wp2;obtain⟨f1,x0,x1⟩:=jR (v0 := .int .i64 g) (v1 := .bool true) H_h6b.out HP2.out hb6 rfl;obtain⟨Y,hY⟩:=zc ((wc.setCell ⟨b6,0,none⟩ (.int .i64 g)).setCell ⟨b6,1,none⟩ (.bool true));rw[hY]at f1 x0 x1 ⊢;exact zK (v := .tuple #[.agg #[.int .i64 g,.bool true],.int .i64 0]) (by simp[results,results270,go_sem,x0,x1]) rfl ⟨rfl,f1⟩):P:=h
theorem zeN{g live tombs:Nat}(hg:Pow g)(h:live+tombs≤8*g)(w:World):Calls prog 270 #[.int .i64 g,.int .i64 live,.int .i64 tombs] w fun e w'=>e=.returned (zdH (jF g live tombs))∧zb w w':=by
  have hg1:=hg.le;have HC:=za (fun W=>zcP hg h W);have HLm:=za (fun W=>zk6 hg W);have wl:IntKind.i64.wrap ((live:Int)+(tombs:Int))=(live:Int)+(tombs:Int):=zt _ (by omega);have w2:IntKind.i64.wrap (2*(live:Int))=2*(live:Int):=zt _ (by omega);have wg:IntKind.i64.wrap (2*(g:Int))=2*(g:Int):=zt _ (by omega);obtain⟨r,hr⟩:=zc (jF g live tombs);rw[hr];unfold jF at hr;have HRr:=za hr;clear hr hg;go_enter func270,ntmps270;go_upto_region 5 with(first
    | (go_at_call 293;refine(HC.out _).mono ?_;rintro e w1 ⟨rfl,hp1⟩)
    | (go_at_call 316;refine(HLm.out _).mono ?_;rintro e w' ⟨rfl,rfl⟩))
  have hp0:zb w (w.alloc (.cells #[.int .i64 0,.bool false] 271)):=(Mod.refl _ w).alloc _;have h6:=hp1.heap (fun h=>h) (zi (w:=w) (o := .cells #[.int .i64 0,.bool false] 271 (0,0)) rfl);have HP:=za (hp0.trans hp1);have hle:=hp0.size;clear hp0 hp1 HC HLm;obtain⟨b6,hb6⟩:=zc w.heap.size;rw[hb6]at h6 ⊢;have HB6:=za hb6;have hlt6:=zl h6;have H6:=za h6;clear hb6 hle;obtain⟨rb,hrb⟩:=zc (decide (7*(g:Int)≤(live:Int)+(tombs:Int)));have h10:=zi (w:=w1) (o := .cells #[.int .i64 g,.bool rb] 271 (0,0)) rfl;have hp10:zb w1 (w1.alloc (.cells #[.int .i64 g,.bool rb] 271)):=(Mod.refl _ w1).alloc _;have h6b:=hp10.heap (fun h=>h) h6;have HP2:=za (HP.out.trans hp10);have hne:w1.heap.size≠b6:=by omega
  clear hp10 H6 h6;have HRB:=za hrb;have hsz:w.heap.size≤w1.heap.size:=Mod.size HP.out;clear HP
  go_cut [9,10,6,0,1] (fun v9 v10 v6 v0 v1 wx=>v9=.int .i64 (7*(g:Int))∧v10=.pointer (some ⟨w1.heap.size,0,none⟩)∧v6=.pointer (some ⟨b6,0,none⟩)∧v0=.int .i64 g∧v1=.int .i64 live∧wx=w1.alloc (.cells #[.int .i64 g,.bool rb] 271))
  case first =>
    cases rb with
    | true =>
      have:=of_decide_eq_true hrb;go_wp2
      go_meet
      exact⟨rfl,rfl,rfl,rfl,rfl,rfl⟩
    | false =>
      have:=of_decide_eq_false hrb;go_wp2
      go_meet
      exact⟨rfl,rfl,rfl,rfl,rfl,rfl⟩
  case rest =>
    obtain⟨rfl,rfl,rfl,rfl,rfl,hwc⟩:=hcut;rw[← hwc]at h10 h6b HP2;clear hwc hrb;generalize w1.heap.size=b10 at *;have hb6:w.heap.size≤b6:=by have:=HB6.out;omega
    obtain⟨h10_0,h10_1,h10_f,h10_l,H_h10⟩:=cr2 h10;clear h10;obtain⟨h6b_0,h6b_1,h6b_f,h6b_l,H_h6b⟩:=cr2 h6b;clear h6b;have hr:=HRr.out;have hrb:=HRB.out;clear HRr HRB;by_cases c1:live+tombs<7*g
    · rw[zk c1]at hr
      have e1:rb=false:=by rw[← hrb];exact zQ (by omega)
      subst hr e1;clear hrb;go_wp2;obtain⟨f1,x0,x1⟩:=jR (v0 := .int .i64 g) (v1 := .bool false) H_h6b.out HP2.out hb6 rfl;obtain⟨Y,hY⟩:=zc ((wc.setCell ⟨b6,0,none⟩ (.int .i64 g)).setCell ⟨b6,1,none⟩ (.bool false));rw[hY]at f1 x0 x1 ⊢;exact zK (v := .tuple #[.agg #[.int .i64 g,.bool false],.int .i64 0]) (by simp[results,results270,go_sem,x0,x1]) rfl ⟨rfl,f1⟩
    · rw[zh c1]at hr
      have e1:rb=true:=by rw[← hrb];exact zL (by omega)
      subst e1;clear hrb;by_cases c2:2*live≤7*g
      · rw[zk c2]at hr
        subst hr;have c2':2*(live:Int)≤7*(g:Int):=by omega
        exact Az55r
      · rw[zh c2]at hr
        have d2:decide (2*(live:Int)≤7*(g:Int))=false:=zQ (by omega);by_cases c3:g<1048576
        · rw[zk c3]at hr
          subst hr;have d3:decide ((g:Int)<1048576)=true:=zL (by omega);clear c1 c2 c3;go_wp2;have h6x:=(Mod.set1 (w:=wc) b10 0 (.int .i64 (2*(g:Int)))).heap (fun e=>hne e.symm) H_h6b.out;have hpx:zb w (wc.setCell ⟨b10,0,none⟩ (.int .i64 (2*(g:Int)))):=HP2.out.then (Mod.set1 b10 0 _) (fun i hi e=>by omega);obtain⟨f1,x0,x1⟩:=jR (v0 := .int .i64 (2*(g:Int))) (v1 := .bool true) h6x hpx hb6 rfl;obtain⟨Y,hY⟩:=zc (((wc.setCell ⟨b10,0,none⟩ (.int .i64 (2*(g:Int)))).setCell ⟨b6,0,none⟩ (.int .i64 (2*(g:Int)))).setCell ⟨b6,1,none⟩ (.bool true));rw[hY]at f1 x0 x1 ⊢;exact zK (v := .tuple #[.agg #[.int .i64 (2*(g:Int)),.bool true],.int .i64 0]) (by simp[results,results270,go_sem,x0,x1]) rfl ⟨rfl,f1⟩
        · rw[zh c3]at hr
          have d3:decide ((g:Int)<1048576)=false:=zQ (by omega);by_cases c4:live<7*g
          · rw[zk c4]at hr
            subst hr;have d4:decide ((live:Int)<7*(g:Int))=true:=zL (by omega);clear c1 c2 c3 c4;exact Az55r
          · rw[zh c4]at hr
            subst hr;have d4:decide ((live:Int)<7*(g:Int))=false:=zQ (by omega);clear c1 c2 c3 c4;go_wp2;obtain⟨f1,x0,x1⟩:=jR (v0 := .int .i64 0) (v1 := .bool false) H_h6b.out HP2.out hb6 rfl;obtain⟨Y,hY⟩:=zc ((wc.setCell ⟨b6,0,none⟩ (.int .i64 0)).setCell ⟨b6,1,none⟩ (.bool false));rw[hY]at f1 x0 x1 ⊢;exact zK (v := .tuple #[.agg #[.int .i64 0,.bool false],.int .i64 7]) (by simp[results,results270,go_sem,x0,x1]) rfl ⟨rfl,f1⟩
end
section
open Go.RowKit Go.Shelf
variable{Fo:Nat→Prop}
attribute [local go_sem] Oper.semAt_some
def xR:Nat→List (Option Ent)→List (Nat × Ent)
 | _,[]=>[]
 | i,none::L=>xR (i+1) L
 | i,some e::L=>(i,e)::xR (i+1) L
def live(L:List (Option Ent)):List (Nat × Ent):=xR 0 L
theorem zkR(L:List (Option Ent)) : ∀ i,(xR i L).length≤L.length:=by
 induction L with
 | nil=>intro i;simp[xR]
 | cons o L ih=>intro i;cases o<;>simp[xR]<;>have:=ih (i+1)<;>omega
theorem KC(L:List (Option Ent)):(live L).length≤L.length:=zkR L 0
theorem zcO{α:Type}{L:List α}{n:Nat}{a:α}(h:L[n]? = some a):L.drop n=a::L.drop (n+1):=by
 obtain⟨hlt,rfl⟩:=zF.1 h;exact kU hlt
theorem zj5{M:List (Option Ent × Value)}{n:Nat}{v:Value}(h:M[n]? = some (none,v)):xR n ((M.map Prod.fst).drop n)=xR (n+1) ((M.map Prod.fst).drop (n+1)):=by
 rw[zcO (L:=M.map Prod.fst) (n:=n) (a:=none) (by simp[h])]
 rfl
theorem zaR{M:List (Option Ent × Value)}{n:Nat}{x:Ent}{v:Value}(h:M[n]? = some (some x,v)):xR n ((M.map Prod.fst).drop n)=(n,x)::xR (n+1) ((M.map Prod.fst).drop (n+1)):=by
 rw[zcO (L:=M.map Prod.fst) (n:=n) (a:=some x) (by simp[h])]
 rfl
theorem zdI{L:List (Option Ent)} : ∀ {i:Nat} {g:Nat × Ent},g∈xR i L→i≤g.1∧L[g.1-i]? = some (some g.2):=by
 induction L with
 | nil=>intro i g h;cases h
 | cons o L ih =>
  intro i g h
  cases o with
  | none =>
   obtain⟨h1,h2⟩:=ih (i:=i+1) h;refine⟨by omega,?_⟩;rw[show g.1-i=(g.1-(i+1))+1 by omega];simpa using h2
  | some e =>
   rcases yu.1 h with rfl | h
   ·simp
   ·obtain⟨h1,h2⟩:=ih (i:=i+1) h;refine⟨by omega,?_⟩;rw[show g.1-i=(g.1-(i+1))+1 by omega];simpa using h2
theorem zar{L:List (Option Ent)}{g:Nat × Ent}(h:g∈live L):L[g.1]? = some (some g.2):=by simpa using(zdI h).2
abbrev xr:=Nat × Ent × Value
abbrev Uv(g:xr):Array Value:=#[.int .u32 g.1,.agg #[.string g.2.1.key,g.2.2,.int .u64 g.2.1.dl,.int .u64 g.2.1.birth]]
def vd(g:xr):Nat × Ent:=(g.1,g.2.1)
def Xj(N:Nat)(L:List (Option Ent))(pre:List xr)(x:xr)(W:World):Prop :=
 (∃ post,live L=pre.map vd++vd x::post)∧yv W x.2.2 (zJ x.2.1.val) ∧ ∀ k,x.2.2.ownBlock=some k→N≤k
def qL(B:Nat)(sv:Value)(M:List (Option Ent × Value))(k:Nat):Prop:=k=B∨sv.ownBlock=some k ∨ ∃ e v,(some e,v)∈M∧v.ownBlock=some k
structure jt(w:World)(B:Nat)(sv:Value)(M:List (Option Ent × Value)):Prop where
 box:w.heap[B]? = some (.cells #[sv] 37 (0,0))
 row:w.ownsRow 0 57 4 sv M.length (M.flatMap xj)
 vals : ∀ e v,(some e,v)∈M→yv w v (zJ e.val)
 ok:V0 (M.map Prod.fst)
theorem jt.keeps{w w':World}{B:Nat}{sv:Value}{M:List (Option Ent × Value)}(h:jt w B sv M)(hk:yS (qL B sv M) w w'):jt w' B sv M:=by
 refine⟨?_,?_,fun e v hm => ?_,h.ok⟩
 ·exact(hk.2 B (.inl rfl) (zl h.box)).trans h.box
 ·exact U4 h.row (fun g hg hlt=>hk.2 g (.inr (.inl hg)) hlt)
 ·exact U4 (h.vals e v hm) (fun g hg hlt=>hk.2 g (.inr (.inr ⟨e,v,hm,hg⟩)) hlt)
theorem jt.slot{w:World}{B:Nat}{sv:Value}{M:List (Option Ent × Value)}(h:jt w B sv M){i:Nat}{m:Option Ent × Value}(hi:M[i]? = some m) :
  ∃ g c,sv=.slice (some ⟨g,0,none⟩) M.length c∧g<w.heap.size∧(∀ j u,(xj m)[j]? = some u→w.cell? ⟨g,i*4+j,none⟩=some u):=by
 have hlt:i<M.length:=(zF.1 hi).1;obtain⟨g,c,rfl,_,hg,hc,hf,_⟩:=kt h.row (by omega);refine⟨g,c,rfl,hg,fun j u hu=>hc _ _ ?_⟩;have hj:j<4:=by rw[← jN m];exact(zF.1 hu).1
 rw[uX xj 4 jN j hj,hi];exact hu
def UY(J:List xr→World→Prop)(N B:Nat)(sv:Value)(M:List (Option Ent × Value))(k:Value)(wr:World):Prop :=
 ∃(n:Nat) (pre:List xr),n≤M.length∧k=.int .i64 n∧J pre wr∧jt wr B sv M∧live (M.map Prod.fst)=pre.map vd++xR n ((M.map Prod.fst).drop n)∧N≤wr.heap.size
theorem zS.quiet{N:Nat}{A B:World}{D:Nat→Prop}{p:Nat}{sv:Value}{M:List (Option Ent × Value)}(h:zS Fo A D p sv M)(hq:zx N A B):zS Fo B D p sv M :=
 ⟨hq.cells h.box,hq.owns h.row,fun e v hv=>hq.owns (h.vals e v hv),h.dd,h.ok,h.off,fun k hk=>x9 (h.flt k hk) (Mod.size hq)⟩
theorem Xj.quiet{N N':Nat}{L:List (Option Ent)}{pre:List xr}{x:xr}{A B:World}(h:Xj N L pre x A)(hq:zx N' A B):Xj N L pre x B:=⟨h.1,hq.owns h.2.1,h.2.2⟩
theorem zbW{w:World}{B:Nat}{sv:Value}{M:List (Option Ent × Value)}(h:jt w B sv M)(N:Nat)(hN:N≤w.heap.size) :
  qq prog 228 #[.pointer (some ⟨B,0,none⟩)] Uv (qL B sv M) (Xj N (M.map Prod.fst)) (fun xs=>xs.map vd=live (M.map Prod.fst)) w:=by
 intro l J Jx W hW hJ hJx hY h0;have hA:=h.keeps (yS.of_pure hW);obtain⟨a,c,rfl,_⟩:=uN h.row;have hlen:=h.ok.len;rw[yt]at hlen;have hB:=zf W B 0 _ _ _ hA.box;simp at hB;have HA:=za hA;have HY:=za hY;have HJ:=za hJ;have HN:Hid (N≤W.heap.size):=zH hN hW.size;clear hA hY hJ hJx h hW;refine callsIn_of_wp func228 rfl trivial ?_ rfl;simp only[ntmps228,List.size_toArray,List.length_cons,List.length_nil,Nat.reduceAdd,Nat.reduceSub,Array.replicate_succ,Array.replicate_zero,List.push_toArray,List.append_toArray,List.nil_append,List.cons_append];gi_wp2
 gi_loopw [3,4,7] (fun i b k wr=>UY J N B (.slice a M.length c) M k wr)
  (fun _ _ k _=>M.length-(intOf k).toNat)
 case atStart=>exact⟨0,[],yh _,rfl,h0,HA.out,by simp[live],HN⟩
 case round =>
  obtain⟨n,pre,hn,rfl,hJs,hI,hl,hNw⟩:=hrel;by_cases hlt:n<M.length
  ·have he:=zN hlt;generalize M[n]=m at he;obtain⟨o,v⟩:=m;obtain⟨g,c',hsv,hg,hc⟩:=hI.slot he
   cases hsv
   have hn0:(0:Int)≤(n:Int):=by omega
   have hn1:(n:Int)<(M.length:Int):=by omega
   have hn2:n≤4194304:=by omega
   cases o with
   | none =>
    have s0:wr.cell? ⟨g,n*4,none⟩=_:=hc 0 _ rfl;have s1:=hc 1 _ rfl;have s2:=hc 2 _ rfl;have s3:=hc 3 _ rfl;have HI:=za hI;have HL:=za hl;have HJS:=za hJs;have HNW:=za hNw;clear hc hI hl hJs hNw;gi_wp2;go_roundw
    case rel =>
     have hP:zb wr (wr.alloc (.cells #[.string ⟨#[]⟩,.slice none 0 0,.int .u64 0,.int .u64 0] 57)):=(Mod.refl _ wr).alloc _;unfold UY;exact⟨n+1,pre,by omega,by go_num,HJ.out _ _ _ HJS.out hP,HI.out.keeps (yS.of_pure hP),by rw[HL.out,zj5 he],by have:=HNW.out;simp;omega⟩
    case measure=>simp[intOf];omega
   | some x =>
    have s0:wr.cell? ⟨g,n*4,none⟩=_:=hc 0 _ rfl;have s1:=hc 1 _ rfl;have s2:=hc 2 _ rfl;have s3:=hc 3 _ rfl;have hx:=(hI.vals x v (yd he)).read (kO _);have hok:=hI.ok.ent x (zI.2 ⟨_,yd he,rfl⟩);obtain⟨va,vn,vc,rfl,hvl,_⟩:=id hx;have hvn:vn≤140737488355328:=by have:=hok.v1;rw[uP]at hvl;omega
    have hb:(x.birth==0)=false:=by have:=hok.b0;simp;omega
    have hb2:(x.birth != 0)=true:=by have:=hok.b0;simp;omega
    have hP:zb wr (wr.alloc (.cells #[.string x.key,.slice va vn vc,.int .u64 x.dl,.int .u64 x.birth] 57)):=(Mod.refl _ wr).alloc _;have HX:=za (hx.frame hP (fun _ _ h=>h));have HI:=za hI;have HL:=za hl;have HJS:=za hJs;have HNW:=za hNw;have HP:=za hP;have HOK:=za hok;clear hc hI hl hJs hNw hx hvl hP hok;have HPR:=za (fun(w1:World) (v':Value) (hp:zb wr w1) (hr:yv w1 v' (zJ x.val)) (hf : ∀ k,v'.ownBlock=some k→N≤k) =>
     HY.out pre (n,x,v') w1 (HJ.out _ _ _ HJS.out hp) ⟨⟨_,by rw[HL.out,zaR he];rfl⟩,hr,hf⟩)
    gi_wp2_with (gi_at_call 63;refine(yy.2 (VS x.key va vn vc _ _ _ _ HX.out hvn)).mono ?_;rintro e w1 ⟨a',n',c'',rfl,hr,hfr,hp⟩;obtain⟨fn,tmps,assign,body,hy,hR⟩:=HPR.out w1 (.slice a' n' c'') (HP.out.trans hp) (ZJ hr) (fun k e=>(by have:=hfr k e;have:=HNW.out;simp at *;omega));dsimp only[Uv]at hy;have hRR:=za hR;clear hR)
    refine hRR.out.mono ?_;rintro e W' (⟨rfl,hJ',hk⟩ | ⟨rfl,hJx'⟩)
    ·have HJ':=za hJ';have HK:=za hk;clear hJ' hk;gi_wp2;go_roundw
     case rel =>
      unfold UY;exact⟨n+1,pre++[(n,x,.slice a' n' c'')],by omega,by go_num,HJ'.out,(HI.out.keeps (yS.of_pure (HP.out.trans hp))).keeps HK.out,by rw[HL.out,zaR he];simp[vd],by have:=HNW.out;have:=HK.out.1;have:=(HP.out.trans hp).size;omega⟩
     case measure=>simp[intOf];omega
    ·gi_wp2;exact Azrgr
  ·have hend:M.length=n:=by omega
   have hge:(M.length:Int)≤(n:Int):=by omega
   have HI:=za hI;have HL:=za hl;have HJS:=za hJs;clear hI hl hJs;have HE:=za hend;clear hend;gi_wp2
   go_end0
   refine⟨⟨_,rfl⟩,.inl ⟨pre,?_,HJS.out⟩⟩;rw[HL.out,← HE.out,List.drop_eq_nil_of_le (by simp)];simp[xR]
def zgL(w:World)(M:List (Option Ent × Value))(e:Ending)(w':World):Prop :=
 ∃ B a c,e=.returned (.func (.func 228) #[] #[.pointer (some ⟨B,0,none⟩)])∧jt w' B (.slice a M.length c) M∧zb w w'∧w.heap.size≤B∧xi w (.slice a M.length c)
theorem zhn{w:World}{D:Nat→Prop}{p:Nat}{sv:Value}{M:List (Option Ent × Value)}(h:zS Fo w D p sv M) :
    Calls prog 143 #[.pointer (some ⟨p,0,none⟩)] w (zgL w M):=by
  obtain⟨c0,c1,c2,cf⟩:=h.cells;obtain⟨a,c,rfl,_⟩:=uN h.row;have hP:zb w (w.alloc (.cells #[.slice none 0 0] 37)):=(Mod.refl _ w).alloc _;have HR:=za ((h.pure hP).read);have HL:=za h;have hn:M.length≤4294967295:=by have:=h.ok.len;rw[yt]at this;omega
  have hlp:p<w.heap.size:=zl h.box;have hlp1:p<w.heap.size+1:=by omega
  clear h hP;go_enter func143,ntmps143
  go_wp2_with (first
    | (go_at_call 226;refine zm (Ze p true _ (by simpa[go_sem,hlp]using c0)) ?_;rintro e w' ⟨rfl,rfl⟩)
    | (go_at_call 227;refine zm (zbS a M.length c _ _ HR.out hn) ?_;rintro e w1 ⟨a',n',c',rfl,hr,hf,hp⟩;obtain⟨hpc,hpf⟩:=hp.cells))
  go_ret;obtain rfl:=zdK hr (by decide) (YW xj 4 jN M);have hq:=hp.heap (fun h=>h) (zi (w:=w) (o := .cells #[.slice none 0 0] 37 (0,0)) rfl);have hm:Mod (fun k=>k=w.heap.size) w1 (w1.setCell ⟨w.heap.size,0,none⟩ (.slice a' M.length c')):=(Mod.refl (fun k=>k=w.heap.size) w1).setCell (p:=⟨w.heap.size,0,none⟩) (fun _=>rfl) _;have hall:zb w (w1.setCell ⟨w.heap.size,0,none⟩ (.slice a' M.length c')):=by
    exact xb
  refine⟨w.heap.size,a',c',rfl,⟨zP w1 _ 0 _ _ _ hq,zy hr hm (fun g e h => ?_),fun e v hv=>zy (HL.out.vals e v hv) hall (fun _ _ h=>h),HL.out.ok⟩,hall,zG _,fun g e => ?_⟩
  · have:=hf g e;simp at this;omega
  · have:=hf g e;simp at this;omega
end
section
open Go.RowKit
@[go_sem] theorem zmB (w : World) (a : Option Addr) (n c : Nat) : (binOp .eql 394 (.slice a n c) (.slice none 0 0)).run prog w=.ok (.bool a.isNone) w :=
 Lib.run_eql_slice_nil w _ _ a n c 0 0 underlying394
abbrev lkP(p:Nat):Value := .pointer (some ⟨p,0,none⟩)
theorem X6(n:Nat)(h:n<4294967296):IntKind.u32.wrap (n:Int)=n:=by simp[IntKind.wrap,IntKind.signed,IntKind.bits];omega
section
variable{w w':World}{p gF gL cF cL N:Nat}{Ls:List (List Nat)}{F:List Nd}
theorem Xt(h:xm w p gF gL cF cL N Ls F):Calls prog 380 #[lkP p] w fun e w'=>e=.returned (.bool false)∧w=w':=by
 have hb:=h.box;clear h;obtain⟨hb_0,hb_1,hb_2,hb_f,hb_l,H_hb⟩:=cr3 hb;clear hb;go_enter func380,ntmps380;go_wp2;go_ret;exact⟨rfl,rfl⟩
theorem Azx2n {P:Prop}(h:P:=by
 go_wp2_with (go_at_call 380;refine HN.out.mono ?_;rintro e w' ⟨rfl,rfl⟩)
 go_ret;exact⟨rfl,rfl⟩):P:=h
theorem Uj(h:xm w p gF gL cF cL N Ls F){k:Nat}(hk:k<Ls.length):Calls prog 350 #[lkP p,.int .i64 k] w fun e w'=>e=.returned (.int .i64 0)∧w=w':=by
 have hb:=h.box;have HN:=za (Xt h);have hm:=h.hm;obtain⟨H,hH⟩:=zc Ls.length;rw[hH]at hb hm hk;clear h hH;obtain⟨hb_0,hb_1,hb_2,hb_f,hb_l,H_hb⟩:=cr3 hb;clear hb;have d1:decide ((k:Int)<0)=false:=zQ (by omega);have d2:decide ((H:Int)≤(k:Int))=false:=zQ (by omega);have d3:decide (H≤k)=false:=zQ (by omega);have wH:IntKind.i64.wrap (H:Int)=H:=zt _ (by omega);go_enter func350,ntmps350;exact Azx2n
theorem Azuaq {P:Prop}(h:P:=by
 have wn:IntKind.i64.wrap (n:Int)=n:=zt _ (by omega);go_enter func364,ntmps364;exact Azx2n):P:=h
theorem zcB(h:xm w p gF gL cF cL N Ls F){n:Nat}(hn:n<N):Calls prog 364 #[lkP p,.int .u32 n] w fun e w'=>e=.returned (.int .i64 0)∧w=w':=by
 have hb:=h.box;have HN:=za (Xt h);have hm:=h.nm;clear h;obtain⟨hb_0,hb_1,hb_2,hb_f,hb_l,H_hb⟩:=cr3 hb;clear hb;have d2:decide ((N:Int)≤(n:Int))=false:=zQ (by omega);have d3:decide (N≤n)=false:=zQ (by omega);exact Azuaq
theorem zjW(h:xm w p gF gL cF cL N Ls F){n:Nat}(hn:N≤n)(h32:n≤4294967295):Calls prog 364 #[lkP p,.int .u32 n] w fun e w'=>e=.returned (.int .i64 2)∧w=w':=by
 have hb:=h.box;have HN:=za (Xt h);clear h;obtain⟨hb_0,hb_1,hb_2,hb_f,hb_l,H_hb⟩:=cr3 hb;clear hb;have d2:decide ((N:Int)≤(n:Int))=true:=zL (by omega);have d3:decide (N≤n)=true:=zL (by omega);exact Azuaq
def inE(N:Nat)(F:List Nd)(n:Nat):Int:=if n<N then(if (nd F n).ow=0 then 9 else 0)else 2
theorem Azurd {P:Prop}(h:P:=by
 go_enter func329,ntmps329
 go_wp2_with (go_at_call 364;refine HN.out.mono ?_;rintro e w' ⟨rfl,rfl⟩)
 go_ret;exact⟨rfl,rfl⟩):P:=h
theorem QM(h:xm w p gF gL cF cL N Ls F){n:Nat}(h32:n≤4294967295):Calls prog 329 #[lkP p,.int .u32 n] w fun e w'=>e=.returned (.int .i64 (inE N F n))∧w=w':=by
 have hb:=h.box;by_cases hn:n<N
 ·have HN:=za (zcB h hn);have hlt:n<F.length:=by rw[h.ok.len];omega
  obtain⟨c0,c1,c2⟩:=h.at_ hlt;unfold inE;rw[zk hn];have hl:F.length≤4198400:=by rw[h.ok.len];have:=h.nm;have:=h.hm;omega
  have d1:decide (n<F.length)=true:=zL hlt;have hlt':(n:Int)<(F.length:Int):=by omega
  have hn0:(0:Int)≤(n:Int):=by omega
  clear h c0 c1;generalize(nd F n).ow=o at *;obtain⟨hb_0,hb_1,hb_2,hb_f,hb_l,H_hb⟩:=cr3 hb;clear hb;by_cases ho:o=0
  ·subst ho;exact Azurd
  ·rw[zh ho];have e1:((o:Int)==0)=false:=by simp;omega
   exact Azurd
 ·have HN:=za (zjW h (by omega) h32);unfold inE;rw[zh hn];clear h hb;exact Azurd
theorem Ks(h:xm w p gF gL cF cL N Ls F){k:Nat}(hk:k≤4096):Calls prog 325 #[.int .i64 k,lkP p] w fun e w'=>e=.returned (.int .u32 (N+k:Nat))∧w=w':=by
 have hb:=h.box;have hm:=h.nm;clear h;obtain⟨hb_0,hb_1,hb_2,hb_f,hb_l,H_hb⟩:=cr3 hb;clear hb;have ws:IntKind.i64.wrap ((N:Int)+(k:Int))=(N:Int)+(k:Int):=zt _ (by omega);have wu:IntKind.u32.wrap ((N:Int)+(k:Int))=(N:Int)+(k:Int):=by simp[IntKind.wrap,IntKind.signed,IntKind.bits];omega
 have wk:IntKind.i64.wrap (k:Int)=k:=zt _ (by omega);go_enter func325,ntmps325;go_wp2;go_ret;exact⟨by go_num,rfl⟩
end
end
section
open Go.RowKit Go.Shelf
def Yj(h:Nat)(b:UInt8):Nat:=(h ^^^ b.toNat)*1099511628211%18446744073709551616
def kh(h:Nat)(l:List UInt8):Nat:=l.foldl Yj h
theorem zhg{α β:Type}(f:β→α→β)(h:β)(l:List α){i:Nat}{b:α}(hb:l[i]? = some b):(l.take (i+1)).foldl f h=f ((l.take i).foldl f h) b:=by
 rw[ua,hb,YQ]
 rfl
theorem zfo(h:Nat)(l:List UInt8){i:Nat}{b:UInt8}(hb:l[i]? = some b):kh h (l.take (i+1))=Yj (kh h (l.take i)) b:=by
 unfold kh;exact zhg Yj h l hb
theorem zdp(h:Nat)(b:UInt8):Yj h b<18446744073709551616:=vr _ (by decide)
theorem UZ{h:Nat}(hh:h<18446744073709551616) : ∀ l:List UInt8,kh h l<18446744073709551616
 | []=>hh
 | b::l=>UZ (zdp h b) l
def jA(w:Nat):Nat:=5*(w ^^^ (w/536870912))%18446744073709551616
def XY(w:Nat):Nat:=jA w ^^^ (jA w/4294967296)
theorem zaJ(w:Nat):jA w<18446744073709551616:=vr _ (by decide)
def kp(seed:Nat)(same:Bool)(key:ByteArray):Nat:=XY (kh seed (if same then[]else key.data.toList))
theorem zaU(h:Nat)(hh:h<18446744073709551616)(key:ByteArray)(hk:key.size≤140737488355328)(w:World):Calls prog 281 #[.int .u64 h,.string key] w fun e w'=>e=.returned (.int .u64 (kh h key.data.toList:Nat))∧w=w':=by
 obtain⟨n,hn⟩:=zc key.size;have HN:=za hn;have hn2:n≤140737488355328:=by omega
 obtain⟨res,hres⟩:=zc (kh h key.data.toList);rw[hres];clear hk;have wn:IntKind.i64.wrap (n:Int)=n:=zt _ (by omega);go_enter func281,ntmps281;go_upto_region 2 with fail
 go_loopw [0,8] (fun v0 v8 wr => ∃ i,v0=.int .u64 (kh h (key.data.toList.take i):Nat)∧v8=.int .i64 (i:Nat)∧i≤n∧wr=w) (fun _ v8 _=>n-(intOf v8).toNat)
 case atStart=>exact⟨0,by rw[List.take_zero,kh,List.foldl_nil],rfl,yh _,rfl⟩
 case round =>
  obtain⟨i,rfl,rfl,hi,rfl⟩:=hrel;have hlen:key.data.toList.length=n:=by rw[← hn];rfl
  by_cases hlt:i<n
  ·have hlt':(i:Int)<(n:Int):=by omega
   obtain⟨b,hb⟩ : ∃ b,key.data.toList[i]? = some b:=⟨_,zN (by omega)⟩;have htk:=zfo h key.data.toList hb;have hq:=UZ hh (key.data.toList.take i);have hq2:=zdp (kh h (key.data.toList.take i)) b;have HTK:=za htk;clear htk;generalize kh h (key.data.toList.take i)=q at *;have wi:IntKind.i64.wrap ((i:Int)+1)=(i:Int)+1:=zt _ (by omega);have hki:i<key.size:=by omega
   have hkb:(key[i]'hki).toNat=b.toNat:=by
    have:=zF.1 hb;obtain⟨h1,h2⟩:=this;rw[← h2];exact congrArg UInt8.toNat rfl
   have hb256:b.toNat<256:=UInt8.toNat_lt b;have e1:IntKind.u64.wrap (b.toNat:Int)=(b.toNat:Int):=uJ _ (by omega);have e2:bits .xor .u64 (q:Int) (b.toNat:Int)=((q ^^^ b.toNat:Nat):Int):=Yo _ _ hq (by omega);have e3:IntKind.u64.wrap (((q ^^^ b.toNat:Nat):Int)*1099511628211)=((Yj q b:Nat):Int):=by
    unfold Yj;rw[← Ka];simp
   generalize Yj q b=r at *;generalize q ^^^ b.toNat=xx at *;clear hb;generalize b.toNat=kb at *;clear hh hq hq2;go_upto_region 5 with fail
   go_wp2;go_roundw
   case rel=>exact⟨i+1,by rw[HTK.out],by go_num,hlt,trivial⟩
   case measure=>simp[intOf];omega
  ·have hlt':(n:Int)≤(i:Int):=by omega
   have htk:key.data.toList.take i=key.data.toList:=kM (by omega);rw[htk,hres];go_wp2;go_ret;exact⟨rfl,rfl⟩
theorem zbg(n:Nat)(hn:n<18446744073709551616)(w:World):Calls prog 280 #[.int .u64 n] w fun e w'=>e=.returned (.int .u64 (XY n:Nat))∧w=w':=by
 have h29:n/536870912<18446744073709551616:=jO (YP _ _) hn;have e1:bits .xor .u64 (n:Int) ((n:Int)/536870912)=((n ^^^ (n/536870912):Nat):Int):=Yo _ _ hn h29;have e2:IntKind.u64.wrap (5*((n ^^^ (n/536870912):Nat):Int))=((jA n:Nat):Int):=by
  unfold jA;rw[← Ka];simp
 have h5:=zaJ n;have h32:jA n/4294967296<18446744073709551616:=jO (YP _ _) h5;have e3:bits .xor .u64 ((jA n:Nat):Int) (((jA n:Nat):Int)/4294967296)=((XY n:Nat):Int):=Yo _ _ h5 h32;generalize XY n=r at *;generalize jA n=q at *;generalize n ^^^ (n/536870912)=z at *;have n0:(0:Int)≤n:=by omega
 have q0:(0:Int)≤q:=by omega
 go_enter func280,ntmps280;go_wp2;go_ret;exact⟨by simp[*],rfl⟩
end
section
open Go.RowKit Go.Shelf
variable{Fo:Nat→Prop}
abbrev jj(p:Nat):Value := .pointer (some ⟨p,0,none⟩)
abbrev JW(x:Ent)(v:Value):Value := .agg #[.string x.key,v,.int .u64 x.dl,.int .u64 x.birth]
theorem zS.toAt{w:World}{D:Nat→Prop}{p:Nat}{sv:Value}{M:List (Option Ent × Value)}(h:zS Fo w D p sv M):zY Fo w D p (M.map Prod.fst):=⟨sv,M,rfl,h⟩
theorem zY.pure{w w':World}{D:Nat→Prop}{p:Nat}{L:List (Option Ent)}(h:zY Fo w D p L)(hm:zb w w'):zY Fo w' D p L:=by
 obtain⟨sv,M,rfl,h⟩:=h;exact(h.pure hm).toAt
theorem zY.lt{w:World}{D:Nat→Prop}{p:Nat}{L:List (Option Ent)}(h:zY Fo w D p L){k:Nat}(hk:D k):k<w.heap.size:=by
 obtain⟨sv,M,rfl,h⟩:=h;exact h.lt hk
theorem zY.ok{w:World}{D:Nat→Prop}{p:Nat}{L:List (Option Ent)}(h:zY Fo w D p L):V0 L:=by
 obtain⟨sv,M,rfl,h⟩:=h;exact h.ok
theorem zY.types{w:World}{D:Nat→Prop}{p:Nat}{L:List (Option Ent)}(h:zY Fo w D p L){k:Nat}(hk:D k){cs:Array Value}{T:TypeId}{fz:Nat × Nat}(e:w.heap[k]? = some (.cells cs T fz)):T=287∨T=57:=by
 obtain⟨sv,M,rfl,h⟩:=h;rcases(h.dd k).1 hk with rfl | e'
 ·rw[h.box]at e;cases e;exact .inl rfl
 ·obtain⟨c,e2⟩:=yg h.row e';rw[e2]at e;cases e;exact .inr rfl
theorem zY.frame{w w':World}{D S:Nat→Prop}{p:Nat}{L:List (Option Ent)}(h:zY Fo w D p L)(hm:Mod S w w')(hD : ∀ k,D k → ¬ S k)(hS : ∀ k,k<w.heap.size→S k → ∀ cs fz,w.heap[k]? ≠ some (.cells cs 5 fz)):zY Fo w' D p L:=by
 obtain⟨sv,M,rfl,h⟩:=h;exact(h.frame hm hD hS).toAt
theorem zY.flt{w:World}{D:Nat→Prop}{p:Nat}{L:List (Option Ent)}(h:zY Fo w D p L) : ∀ k,Fo k→k<w.heap.size:=by
 obtain⟨sv,M,rfl,h⟩:=h;exact h.flt
theorem zY.frameF{w w':World}{D S:Nat→Prop}{p:Nat}{L:List (Option Ent)}(h:zY Fo w D p L)(hm:Mod S w w')(hD : ∀ k,D k → ¬ S k)(hS : ∀ k,k<w.heap.size→S k→Fo k ∨ ∀ cs fz,w.heap[k]? ≠ some (.cells cs 5 fz)):zY Fo w' D p L:=by
 obtain⟨sv,M,rfl,h⟩:=h;exact(h.frameF hm hD hS).toAt
theorem zY.refo{w w':World}{Fo' D:Nat→Prop}{p:Nat}{L:List (Option Ent)}(h:zY Fo w D p L)(hm:zb w w')(h1 : ∀ k,Fo' k→Fo k∨w.heap.size≤k)(h2 : ∀ k,Fo' k→k<w'.heap.size):zY Fo' w' D p L:=by
 obtain⟨sv,M,rfl,h⟩:=h;exact(h.refo hm h1 h2).toAt
theorem zY.beside{w w':World}{D S:Nat→Prop}{p q:Nat}{L K:List (Option Ent)}(h:zY Fo w D p L)(k:zY Fo w S q K)(hm:Mod S w w')(hD : ∀ k,D k → ¬ S k):zY Fo w' D p L :=
 h.frame hm hD (fun i _ hi cs fz e=>by rcases k.types hi e with e | e<;>cases e)
theorem zY.owns{w w':World}{S:Nat→Prop}{q:Nat}{K:List (Option Ent)}(h:zY Fo w S q K)(hm:Mod S w w'){T k n:Nat}{v:Value}{xs:List Value}(ho:w.ownsRow 0 T k v n xs)(h1:T≠287)(h2:T≠57):w'.ownsRow 0 T k v n xs :=
 zy ho hm (fun g hg hs=>by
  obtain⟨c,e⟩:=yg ho hg;rcases h.types hs e with e | e
  ·exact h1 e
  ·exact h2 e)
theorem zY.box{w w':World}{S:Nat→Prop}{q:Nat}{K:List (Option Ent)}(h:zY Fo w S q K)(hm:Mod S w w'){b:Nat}{cs:Array Value}{T:TypeId}{fz:Nat × Nat}(hb:w.heap[b]? = some (.cells cs T fz))(h1:T≠287)(h2:T≠57):w'.heap[b]? = some (.cells cs T fz) :=
 hm.heap (fun hs=>by rcases h.types hs hb with e | e;exact h1 e;exact h2 e) hb
def zlO(Fo:Nat→Prop)(w:World)(e:Ending)(w':World):Prop:=e=.returned (jj w.heap.size)∧zY Fo w' (fun k=>k=w.heap.size) w.heap.size []∧zb w w'∧w.heap.size<w'.heap.size
theorem zhO(w:World)(hFo : ∀ k,Fo k→k<w.heap.size):Calls prog 224 #[] w (zlO Fo w):=by
 refine zm (zmj w) ?_;rintro e w' ⟨rfl,rfl⟩;exact⟨rfl,(zeJ (fun k hk=>by have:=hFo k hk;simp;omega) (zi rfl)).toAt,(Mod.refl _ _).alloc _,by simp⟩
def zda(Fo:Nat→Prop)(w:World)(D:Nat→Prop)(p:Nat)(L:List (Option Ent))(x:Ent)(e:Ending)(w':World):Prop :=
 e=.returned (.tuple #[.int .u32 L.length,.int .i64 0]) ∧ ∃ D',zY Fo w' D' p (L++[some x])∧Mod D w w'∧vU D D' w
theorem zia{w:World}{D:Nat→Prop}{p:Nat}{L:List (Option Ent)}(h:zY Fo w D p L)(hL:L.length<4194304)(x:Ent)(hok:x.Ok)(a:Option Addr)(n c:Nat)(hx:zn w (.slice a n c) 1 (zJ x.val)) :
  Calls prog 212 #[jj p,JW x (.slice a n c)] w (zda Fo w D p L x):=by
 obtain⟨sv,M,rfl,h⟩:=h;rw[yt]at hL;refine zm (zhZ h hL x hok a n c hx) ?_;rintro e w' ⟨rfl,D',sv',v',h1,h2,h3⟩;refine⟨by rw[yt],D',?_,h2,h3⟩;have:=h1.toAt;rw[xK]at this;exact this
def zl0(Fo:Nat→Prop)(w:World)(D:Nat→Prop)(p i:Nat)(L:List (Option Ent))(x:Ent)(e:Ending)(w':World):Prop :=
 ∃ a n c,e=.returned (.tuple #[JW x (.slice a n c),.int .i64 0])∧yv w' (.slice a n c) (zJ x.val)∧xi w (.slice a n c)∧zY Fo w' D p (L.set i none)∧Mod D w w'
theorem zji{w:World}{D:Nat→Prop}{p:Nat}{L:List (Option Ent)}(h:zY Fo w D p L)(i:Nat)(x:Ent)(hi:L[i]? = some (some x)) :
  Calls prog 243 #[jj p,.int .u32 i] w (zl0 Fo w D p i L x):=by
 obtain⟨sv,M,rfl,h⟩:=h;rw[yw]at hi
 cases hm:M[i]? with
 | none=>rw[hm]at hi;cases hi
 | some m =>
  obtain⟨o,v⟩:=m;rw[hm]at hi
  cases hi
  refine zm (zjA h hm) ?_;rintro e w' ⟨a,n,c,rfl,h1,h2,h3,h4⟩;refine⟨a,n,c,rfl,h1,h2,?_,h4⟩;have:=h3.toAt;rw[YZ]at this;exact this
theorem zce{w:World}{D:Nat→Prop}{p:Nat}{L:List (Option Ent)}(h:zY Fo w D p L):Calls prog 184 #[jj p] w fun e w'=>e=.returned (.int .i64 L.length)∧w=w':=by
 obtain⟨sv,M,rfl,h⟩:=h;rw[yt];exact zg2 h
theorem zi9{w:World}{D:Nat→Prop}{p:Nat}{L:List (Option Ent)}(h:zY Fo w D p L):Calls prog 180 #[jj p] w fun e w'=>e=.returned (.int .i64 (zV L))∧w=w':=by
 obtain⟨sv,M,rfl,h⟩:=h;exact zic h
def yI(L:List (Option Ent))(s:Nat):ByteArray:=match L[s]? with
 | some (some e)=>e.key
 | _=>⟨#[]⟩
def X7(L:List (Option Ent))(s:Nat):Bool:=match L[s]? with
 | some (some _)=>true
 | _=>false
def noL(L:List (Option Ent))(s:Nat):Int:=if X7 L s then 0 else 9
theorem zbz{w:World}{D:Nat→Prop}{p:Nat}{L:List (Option Ent)}(h:zY Fo w D p L)(i:Nat)(hu:i≤4294967295) :
  Calls prog 240 #[jj p,.int .u32 i] w fun e w'=>e=.returned (.tuple #[.string (yI L i),.int .i64 (noL L i)])∧w=w':=by
 obtain⟨sv,M,rfl,h⟩:=h
 cases hi:Zf M i with
 | none =>
  have HA:=za (h.miss hu hi);have e1:yI (M.map Prod.fst) i=⟨#[]⟩∧noL (M.map Prod.fst) i=9:=by
   unfold noL X7 yI;unfold Zf at hi;rw[yw]
   cases hm:M[i]? with
   | none=>simp
   | some m =>
    obtain⟨o,v⟩:=m;rw[hm]at hi;have:o=none:=by simpa using hi
    subst this;simp
  rw[e1.1,e1.2];clear e1 hi h;go_enter func240,ntmps240
  go_wp2_with (go_at_call 234;refine(HA.out _ (Mod.refl _ _)).mono ?_;rintro e w' ⟨rfl,rfl⟩)
  go_ret2;exact⟨rfl,rfl⟩
 | some x =>
  obtain⟨v,hm⟩ : ∃ v,M[i]? = some (some x,v):=by
   unfold Zf at hi
   cases hm:M[i]? with
   | none=>rw[hm]at hi;cases hi
   | some m =>
    obtain⟨o,v⟩:=m;rw[hm]at hi;have:o=some x:=by simpa using hi
    subst this;exact⟨v,rfl⟩
  have e1:yI (M.map Prod.fst) i=x.key∧noL (M.map Prod.fst) i=0:=by
   unfold noL X7 yI;rw[yw,hm];simp
  rw[e1.1,e1.2];clear e1 hi;obtain⟨g,c,rfl,hg,ng,hlt,hn,hc,hf⟩:=h.slot hm;obtain⟨c0,c1,c2,cf⟩:=h.cells;have hok:=h.ok.ent x (zI.2 ⟨_,yd hm,rfl⟩);have hb:(x.birth==0)=false:=by have:=hok.b0;simp;omega
  have s0:w.cell? ⟨g,i*4,none⟩=_:=hc 0 _ rfl;have s3:=hc 3 _ rfl;clear h hc hok;go_enter func240,ntmps240
  go_wp2_with (go_at_call 234;refine zm (V4 p g _ c i x.birth _ c0 c1 hlt hn s3 hb) ?_;rintro e w' ⟨rfl,rfl⟩)
  go_ret2;exact⟨rfl,rfl⟩
def UM(w:World)(L:List (Option Ent))(i:Nat)(e:Ending)(w':World):Prop :=
 match L[i]? with
 | some (some x) => ∃ a n c,e=.returned (.tuple #[.agg #[.string x.key,.slice a n c,.int .u64 x.dl,.int .u64 x.birth],.int .i64 0])∧yv w' (.slice a n c) (zJ x.val)∧xi w (.slice a n c)∧zb w w'
 | _=>e=.returned (.tuple #[.agg #[.string ⟨#[]⟩,.slice none 0 0,.int .u64 0,.int .u64 0],.int .i64 9])∧zb w w'
theorem zep{w:World}{D:Nat→Prop}{p:Nat}{L:List (Option Ent)}(h:zY Fo w D p L)(i:Nat)(hu:i≤4294967295) :
  Calls prog 157 #[jj p,.int .u32 i] w (UM w L i):=by
 obtain⟨sv,M,rfl,h⟩:=h;unfold UM;rw[yw]
 cases hm:M[i]? with
 | none =>
  refine zm (zcw h hu (by unfold Zf;rw[hm];rfl)) ?_;intro e w' he;exact he
 | some m =>
  obtain⟨o,v⟩:=m
  cases o with
  | none =>
   refine zm (zcw h hu (by unfold Zf;rw[hm];rfl)) ?_;intro e w' he;exact he
  | some x=>exact zh2 h hm
def zaN(Fo:Nat→Prop)(w:World)(L:List (Option Ent))(e:Ending)(w':World):Prop :=
 ∃ q D',e=.returned (jj q)∧zY Fo w' D' q L∧zb w w' ∧ ∀ k,D' k→w.heap.size≤k
theorem zeU{w:World}{D:Nat→Prop}{p:Nat}{L:List (Option Ent)}(h:zY Fo w D p L):Calls prog 309 #[jj p] w (zaN Fo w L):=by
 obtain⟨sv,M,rfl,h⟩:=h;refine zm (zhE h) ?_;rintro e w' ⟨q,sv',D',rfl,h1,h2,h3⟩;exact⟨q,D',rfl,h1.toAt,h2,h3⟩
def Kw(w:World)(L:List (Option Ent))(e:Ending)(w':World):Prop :=
 ∃ M B a c,M.map Prod.fst=L∧e=.returned (.func (.func 228) #[] #[.pointer (some ⟨B,0,none⟩)])∧jt w' B (.slice a M.length c) M∧zb w w'∧w.heap.size≤B∧xi w (.slice a M.length c)
theorem zfH{w:World}{D:Nat→Prop}{p:Nat}{L:List (Option Ent)}(h:zY Fo w D p L):Calls prog 143 #[jj p] w (Kw w L):=by
 obtain⟨sv,M,rfl,h⟩:=h;refine zm (zhn h) ?_;rintro e w' ⟨B,a,c,h1,h2,h3,h4,h5⟩;exact⟨M,B,a,c,rfl,h1,h2,h3,h4,h5⟩
end
section
open Go.RowKit
theorem ZM{w:World}{gF:Nat}{F:List Nd}{T:TypeId}(h:w.heap[gF]? = some (.cells (xp F).toArray T (0,0))){i j:Nat}{u:Value}{m:Nd}(hi:i<F.length)(hj:j<3)(he:(ndC (nd F i)).set j u=ndC m) :
  (w.setCell ⟨gF,i*3+j,none⟩ u).heap[gF]? = some (.cells (xp (F.set i m)).toArray T (0,0)):=by
 rw[zP w gF _ _ T u h]
 congr 2
 rw[YB,zcX hi hj he]
theorem za8{F:List Nd}{i:Nat}(hi:i<F.length)(m:Nd):nd (F.set i m) i=m:=by rw[ZS hi,zk rfl]
theorem Jo{w:World}{gF:Nat}{F:List Nd}{T:TypeId}(h:w.heap[gF]? = some (.cells (xp F).toArray T (0,0))){i:Nat}(hi:i<F.length)(a b c:Nat) :
  (((w.setCell ⟨gF,i*3,none⟩ (.int .u32 a)).setCell ⟨gF,i*3+1,none⟩ (.int .u32 b)).setCell ⟨gF,i*3+2,none⟩ (.int .u32 c)).heap[gF]? = some (.cells (xp (F.set i ⟨a,b,c⟩)).toArray T (0,0)):=by
 have h1:=ZM h (j:=0) (u := .int .u32 a) (m:=⟨a,(nd F i).nx,(nd F i).ow⟩) hi (by decide) rfl;have h2:=ZM h1 (i:=i) (j:=1) (u := .int .u32 b) (m:=⟨a,b,(nd F i).ow⟩) (by simpa using hi) (by decide) (by rw[za8 hi];rfl);have h3:=ZM h2 (i:=i) (j:=2) (u := .int .u32 c) (m:=⟨a,b,c⟩) (by simpa using hi) (by decide) (by rw[za8 (by simpa using hi)];rfl);simpa using h3
theorem kx{X:World}{b o b2 o2:Nat}{u v:Value}(h:X.cell? ⟨b,o,none⟩=some v)(hne:b2≠b∨o2≠o):(X.setCell ⟨b2,o2,none⟩ u).cell? ⟨b,o,none⟩=some v:=by
 rw[YL (h:=fun e=>by injection e with e1 e2;rcases hne with h | h<;>contradiction)];exact h
theorem Z6{w:World}{gF:Nat}{F:List Nd}{T:TypeId}(h:w.heap[gF]? = some (.cells (xp F).toArray T (0,0))){i:Nat}(hi:i<F.length) :
  w.cell? ⟨gF,i*3,none⟩=some (.int .u32 (nd F i).pv)∧w.cell? ⟨gF,i*3+1,none⟩=some (.int .u32 (nd F i).nx)∧w.cell? ⟨gF,i*3+2,none⟩=some (.int .u32 (nd F i).ow):=by
 have g:=fun j=>zf w gF j _ _ (0,0) h
 exact Az3d1
theorem zkZ{w:World}{gF:Nat}{F:List Nd}{T:TypeId}{n o b kk:Nat}(hb:(nd F o).pv=b)(hk:(nd F o).ow=kk)(h:w.heap[gF]? = some (.cells (xp (F.set n ⟨b,o,kk⟩)).toArray T (0,0)))(hbF:b<F.length)(hoF:o<F.length) :
  ((w.setCell ⟨gF,b*3+1,none⟩ (.int .u32 n)).setCell ⟨gF,o*3,none⟩ (.int .u32 n)).heap[gF]? = some (.cells (xp (uW F n o)).toArray T (0,0)):=by
 subst hb hk;have h1:=ZM h (i:=(nd F o).pv) (j:=1) (u := .int .u32 n) (m:=⟨(nd (F.set n ⟨(nd F o).pv,o,(nd F o).ow⟩) (nd F o).pv).pv,n,(nd (F.set n ⟨(nd F o).pv,o,(nd F o).ow⟩) (nd F o).pv).ow⟩) (by simpa using hbF) (by decide) rfl;exact ZM h1 (i:=o) (j:=0) (u := .int .u32 n) (by simpa using hoF) (by decide) rfl
section
variable{w w':World}{p gF gL cF cL N:Nat}{Ls:List (List Nat)}{F:List Nd}
theorem zez(h:xm w p gF gL cF cL N Ls F){n o k:Nat}(hn:n<N)(ho:o<F.length)(how:(nd F o).ow=k+1)(hb:(nd F o).pv<F.length)(hbn:(nd F o).pv≠n)(hon:o≠n){l:List Nat}(hl:Ls[k]? = some l) :
  Calls prog 381 #[lkP p,.int .u32 n,.int .u32 o] w fun e w'=>e=.returned (.tuple #[])∧w'.heap[gF]? = some (.cells (xp (uW F n o)).toArray 401 (0,0))∧w'.heap[gL]? = some (.cells ((vY Ls).set k (.int .i64 ((l.length+1:Nat):Int))).toArray 3 (0,0))∧Mod (fun b=>b=gF∨b=gL) w w':=by
 have hbx:=h.box;have hF:F.length≤4198400:=by rw[h.ok.len];have:=h.nm;have:=h.hm;omega
 have hnF:n<F.length:=by rw[h.ok.len];omega
 obtain⟨c0,c1,c2⟩:=h.at_ ho;rw[how]at c2;obtain⟨q0,q1,q2⟩:=h.at_ hnF;obtain⟨f1,f2,f3⟩:=h.free;obtain⟨ne1,ne2,ne3⟩:=h.ne;have HFL:=za h.fld;have HLN:=za h.len;have hk2:k<Ls.length:=(zF.1 hl).1;have hkb:k<4096:=by have:=h.hm;omega
 have HNX:=za (fun(X:World) (hX:X.heap[gL]? = some (.cells (vY Ls).toArray 3 (0,0)))=>(show X.cell? ⟨gL,k,none⟩=some (.int .i64 (l.length:Nat)) by rw[zf X gL k _ _ (0,0) hX,vw];exact Ki hl));have hll:l.length≤N:=h.ok.short hl;have hN:=h.nm;obtain⟨b,hbe⟩:=zc ((nd F o).pv);rw[hbe]at c0 hb hbn;obtain⟨FL,hFL⟩:=zc F.length;rw[hFL]at hbx hF hnF hb ho;have HBX:=za hbx;clear h hbx;have hbx:=HBX.out;have dn:decide (n<FL)=true:=zL hnF;have do':decide (o<FL)=true:=zL ho;have db:decide (b<FL)=true:=zL hb;have HBE:=za hbe;have HFLe:=za hFL;have HOW:=za how;clear hbe hFL how;obtain⟨hbx_0,hbx_1,hbx_2,hbx_f,hbx_l,H_hbx⟩:=cr3 hbx;clear hbx;have g0:=f1 (n*3);have g1:=f1 (n*3+1);have g2:=f1 (n*3+2);obtain⟨kk,hkk⟩:=zc (k+1);rw[hkk]at c2 HOW;have wk:IntKind.u32.wrap ((kk:Int)-1)=(k:Int):=by rw[← hkk,show((k+1:Nat):Int)-1=(k:Int) by omega];exact X6 k (by omega)
 clear hkk;go_enter func381,ntmps381;go_upto_region 1 with fail
 go_region_held3 (fun w'=>w'.cell? ⟨p,0,none⟩=some (.slice (some ⟨gF,0,none⟩) FL cF)∧w'.cell? ⟨gF,o*3+2,none⟩=some (.int .u32 kk))
  (first | exact⟨hbx_0,c2⟩ | exact⟨kx (kx (kx hbx_0 (.inl ne1.symm)) (.inl ne1.symm)) (.inl ne1.symm),kx (kx (kx c2 (.inr (by omega))) (.inr (by omega))) (.inr (by omega))⟩) (fail)
 have hm1:Mod (fun b=>b=gF) w (((w.setCell ⟨gF,n*3,none⟩ (.int .u32 b)).setCell ⟨gF,n*3+1,none⟩ (.int .u32 o)).setCell ⟨gF,n*3+2,none⟩ (.int .u32 kk)).drew :=
  ((((Mod.refl (fun b=>b=gF) w).setCell (p:=⟨gF,n*3,none⟩) (fun _=>rfl) _).setCell (p:=⟨gF,n*3+1,none⟩) (fun _=>rfl) _).setCell (p:=⟨gF,n*3+2,none⟩) (fun _=>rfl) _).drew
 have hf1:(((w.setCell ⟨gF,n*3,none⟩ (.int .u32 b)).setCell ⟨gF,n*3+1,none⟩ (.int .u32 o)).setCell ⟨gF,n*3+2,none⟩ (.int .u32 kk)).drew.heap[gF]? = _:=Jo HFL.out (i:=n) (by rw[HFLe.out];exact hnF) b o kk;generalize(((w.setCell ⟨gF,n*3,none⟩ (.int .u32 b)).setCell ⟨gF,n*3+1,none⟩ (.int .u32 o)).setCell ⟨gF,n*3+2,none⟩ (.int .u32 kk)).drew=X1 at hm1 hf1 ⊢;have hbx1:=hm1.heap (fun e=>ne1 e) HBX.out;have hln1:=hm1.heap (fun e=>ne3 e.symm) HLN.out;clear hbx_0 hbx_1 hbx_2 hbx_f hbx_l;clear H_hbx c0 c1 c2 q0 q1 q2 f1 f2 f3 g0 g1 g2;have HF1:=za hf1;have HL1:=za hln1;have HM1:=za hm1;have HB1:=za hbx1;obtain⟨r0,r1,r2⟩:=Z6 hf1 (i:=b) (by simp;rw[HFLe.out];exact hb);obtain⟨s0,s1,s2⟩:=Z6 hf1 (i:=o) (by simp;rw[HFLe.out];exact ho);have g0:=yP X1 gF (b*3+1) _ _ hf1;have g1:=yP X1 gF (o*3) _ _ hf1;have hX:gF<X1.heap.size:=zl hf1;clear hf1 hln1 hm1;obtain⟨hbx1_0,hbx1_1,hbx1_2,hbx1_f,hbx1_l,H_hbx1⟩:=cr3 hbx1;clear hbx1;go_upto_region 2 with fail
 go_region_held3 (fun w'=>w'.cell? ⟨p,0,none⟩=some (.slice (some ⟨gF,0,none⟩) FL cF))
  (first | exact hbx1_0 | exact kx hbx1_0 (.inl ne1.symm) | exact kx (kx hbx1_0 (.inl ne1.symm)) (.inl ne1.symm)) (fail)
 have hm2:Mod (fun b=>b=gF) X1 ((X1.setCell ⟨gF,b*3+1,none⟩ (.int .u32 n)).setCell ⟨gF,o*3,none⟩ (.int .u32 n)).drew :=
  (((Mod.refl (fun b=>b=gF) X1).setCell (p:=⟨gF,b*3+1,none⟩) (fun _=>rfl) _).setCell (p:=⟨gF,o*3,none⟩) (fun _=>rfl) _).drew
 have hf2:((X1.setCell ⟨gF,b*3+1,none⟩ (.int .u32 n)).setCell ⟨gF,o*3,none⟩ (.int .u32 n)).drew.heap[gF]? = _:=zkZ HBE.out HOW.out HF1.out (by rw[HFLe.out];exact hb) (by rw[HFLe.out];exact ho);generalize((X1.setCell ⟨gF,b*3+1,none⟩ (.int .u32 n)).setCell ⟨gF,o*3,none⟩ (.int .u32 n)).drew=X2 at hm2 hf2 ⊢;have hbx2:=hm2.heap (fun e=>ne1 e) HB1.out;have hln2:=hm2.heap (fun e=>ne3 e.symm) HL1.out;have hl9:=HNX.out _ hln2;have hput:=(Qq (F:=F) (n:=n) (o:=o) (by rw[HFLe.out];exact hnF) (by rw[HFLe.out];exact ho) (by rw[HBE.out,HFLe.out];exact hb) (by rw[HBE.out];exact hbn) hon n).2.2;rw[zk rfl,HOW.out]at hput;obtain⟨q0,q1,q2⟩:=Z6 hf2 (i:=n) (by rw[Qo,HFLe.out];exact hnF);rw[hput]at q2;clear hbx1_0 hbx1_1 hbx1_2 hbx1_f hbx1_l;clear H_hbx1 r0 r1 r2 s0 s1 s2 g0 g1 hput q0 q1 hX;have g0:=yP X2 gL k _ _ hln2;have HM:=za ((HM1.out.trans hm2).mono (fun _ _ h=>Or.inl h):Mod (fun b=>b=gF∨b=gL) w X2);have HF2:=za hf2;have HL2:=za hln2;have hX2:gL<X2.heap.size:=zl hln2;clear hm2 hf2 hln2;have dk:decide (k<Ls.length)=true:=zL hk2;have wl:IntKind.i64.wrap ((l.length:Int)+1)=(l.length:Int)+1:=zt _ (by omega);obtain⟨hbx2_0,hbx2_1,hbx2_2,hbx2_f,hbx2_l,H_hbx2⟩:=cr3 hbx2;clear hbx2;go_upto_region 3 with fail
 go_still_tail 17,(by kernel_rfl)
 go_wp2;have e1:(X2.setCell ⟨gL,k,none⟩ (.int .i64 ((l.length:Int)+1))).heap[gF]? = _:=yT HF2.out ne3;have e2:(X2.setCell ⟨gL,k,none⟩ (.int .i64 ((l.length:Int)+1))).heap[gL]? = _:=zP X2 gL k _ _ (.int .i64 ((l.length:Int)+1)) HL2.out;rw[YB]at e2;have e3:=HM.out.setCell (p:=⟨gL,k,none⟩) (fun _ => .inr rfl) (.int .i64 ((l.length:Int)+1))
 go_end0
 exact⟨rfl,e1,e2,e3.drew⟩
end
def inL(Ls:List (List Nat))(n:Nat):Prop := ∃(k:Nat) (l:List Nat),Ls[k]? = some l∧n∈l
section
variable{w w':World}{p gF gL cF cL N:Nat}{Ls:List (List Nat)}{F:List Nd}{D:Nat→Prop}
theorem xI.free0(h:xI N Ls F){n:Nat}(hn:n<N)(hf : ¬ inL Ls n):(nd F n).ow=0:=by
 by_cases h0:(nd F n).ow=0
 ·exact h0
 ·obtain⟨k,l,h1,h2,_⟩:=h.free n hn h0;exact absurd ⟨k,l,h1,h2⟩ hf
theorem zkO(h:xm w p gF gL cF cL N Ls F){n k:Nat}{l:List Nat}(hn:n<N)(hl:Ls[k]? = some l)(hf : ¬ inL Ls n) :
    Calls prog 362 #[lkP p,.int .i64 k,.int .u32 n,.bool false] w fun e w'=>e=.returned (.int .i64 0)∧xm w' p gF gL cF cL N (Ls.set k (l++[n])) (uW F n (N+k))∧Mod (fun b=>b=gF∨b=gL) w w':=by
  have h0:=h.ok.free0 hn hf;obtain⟨a1,a2,a3,a4,a5,a6⟩:=h.ok.back hn h0 hl;have hk:k<Ls.length:=(zF.1 hl).1;have hk4:k≤4096:=by have:=h.hm;omega
  have HP:=za (zez h hn a3 a2 a4 a5 a6 hl);have HLi:=za (Uj h hk);have HNo:=za (zcB h hn);have HRi:=za (Ks h hk4);have hb:=h.box;obtain⟨FL,hFL⟩:=zc F.length;have hnF:n<FL:=by rw[← hFL,h.ok.len];omega
  obtain⟨c0,c1,c2⟩:=h.at_ (i:=n) (by rw[hFL];exact hnF);rw[h0]at c2;rw[hFL]at hb;have dn:decide (n<FL)=true:=zL hnF;have hend : ∀(w':World),w'.heap[gF]? = some (.cells (xp (uW F n (N+k))).toArray 401 (0,0))→w'.heap[gL]? = some (.cells ((vY Ls).set k (.int .i64 ((l.length+1:Nat):Int))).toArray 3 (0,0))→Mod (fun b=>b=gF∨b=gL) w w'→xm w' p gF gL cF cL N (Ls.set k (l++[n])) (uW F n (N+k)):=fun w' g1 g2 g3=>by
    obtain⟨n1,n2,n3⟩:=h.ne;refine⟨?_,g1,?_,a1,h.n1,h.nm,by rw[xH];exact h.hm⟩
    · rw[Qo,xH];exact g3.heap (fun e=>by rcases e with e | e;exact n1 e;exact n2 e) h.box
    · rw[← zdL,zR];exact g2
  have HE:=za hend;have hFb:FL≤4198400:=by rw[← hFL,h.ok.len];have:=h.nm;have:=h.hm;omega
  clear h hend hFL a1 a2 a3 a4 a5 a6 c0 c1 hl hf h0;obtain⟨hb_0,hb_1,hb_2,hb_f,hb_l,H_hb⟩:=cr3 hb;clear hb;go_enter func362,ntmps362
  go_wp2_with (first
    | (go_at_call 350;refine HLi.out.mono ?_;rintro e w' ⟨rfl,rfl⟩)
    | (go_at_call 364;refine HNo.out.mono ?_;rintro e w' ⟨rfl,rfl⟩)
    | (go_at_call 325;refine HRi.out.mono ?_;rintro e w' ⟨rfl,rfl⟩)
    | (go_at_call 381;refine HP.out.mono ?_;rintro e w2 ⟨rfl,q1,q2,q3⟩))
  go_ret;exact⟨rfl,HE.out _ q1 q2 q3,q3⟩
theorem JO(h:yk w D p N Ls){n k:Nat}{l:List Nat}(hn:n<N)(hl:Ls[k]? = some l)(hf : ¬ inL Ls n) :
  Calls prog 324 #[lkP p,.int .i64 k,.int .u32 n] w fun e w'=>e=.returned (.int .i64 0)∧yk w' D p N (Ls.set k (l++[n]))∧Mod D w w':=by
 obtain⟨gF,gL,cF,cL,F,h1,h2⟩:=h;have HA:=za (zkO h1 hn hl hf);have H2:=za h2;clear h1 h2 hl hf hn;go_enter func324,ntmps324
 go_wp2_with (go_at_call 362;refine HA.out.mono ?_;rintro e w2 ⟨rfl,q1,q2⟩)
 go_ret;exact⟨rfl,⟨gF,gL,cF,cL,_,q1,H2.out⟩,q2.mono (fun k _ hk=>(H2.out k).2 (.inr hk))⟩
def KZ(Ls:List (List Nat))(n:Nat)(e:Ending):Prop:=(∃(k:Nat) (l:List Nat),Ls[k]? = some l∧n∈l∧e=.returned (.tuple #[.int .i64 k,.int .i64 0]))∨(¬ inL Ls n ∧ ∃ er:Int,er≠0∧e=.returned (.tuple #[.int .i64 0,.int .i64 er]))
theorem zcE(h:yk w D p N Ls){n:Nat}(h32:n≤4294967295):Calls prog 282 #[lkP p,.int .u32 n] w fun e w'=>KZ Ls n e∧w=w':=by
 obtain⟨gF,gL,cF,cL,F,h,h2⟩:=h;have HI:=za (QM h h32);have hb:=h.box;by_cases hn:n<N∧(nd F n).ow≠0
 ·obtain⟨k,l,hl,hm,how⟩:=h.ok.free n hn.1 hn.2;have e0:inE N F n=0:=by unfold inE;rw[zk hn.1,zh hn.2]
  rw[e0]at HI;obtain⟨FL,hFL⟩:=zc F.length;have hnF:n<FL:=by rw[← hFL,h.ok.len];omega
  obtain⟨c0,c1,c2⟩:=h.at_ (i:=n) (by rw[hFL];exact hnF);rw[how]at c2;rw[hFL]at hb;have dn:decide (n<FL)=true:=zL hnF;have hk:k<Ls.length:=(zF.1 hl).1;have hk4:k<4096:=by have:=h.hm;omega
  have HE:Hid (KZ Ls n (.returned (.tuple #[.int .i64 k,.int .i64 0]))):=za (Or.inl ⟨k,l,hl,hm,rfl⟩);obtain⟨kk,hkk⟩:=zc (k+1);rw[hkk]at c2;have wk:IntKind.i64.wrap ((kk:Int)-1)=(k:Int):=by rw[show(kk:Int)-1=(k:Int) by omega];exact zt _ (by omega)
  have wkk:IntKind.i64.wrap (kk:Int)=(kk:Int):=zt _ (by omega);clear h c0 c1 hl hm hn how e0 hFL hkk h2;obtain⟨hb_0,hb_1,hb_2,hb_f,hb_l,H_hb⟩:=cr3 hb;clear hb;go_enter func282,ntmps282
  go_wp2_with (go_at_call 329;refine HI.out.mono ?_;rintro e w' ⟨rfl,rfl⟩)
  go_ret2;exact⟨HE.out,rfl⟩
 ·have hni : ¬ inL Ls n:=fun⟨k,l,hl,hm⟩=>by
   have:=h.ok.own k l hl n hm;exact hn ⟨this.1,by omega⟩
  have e0:inE N F n≠0:=by
   unfold inE;split
   ·rename_i h1;have:(nd F n).ow=0:=by
     by_cases h0:(nd F n).ow=0
     ·exact h0
     ·exact absurd ⟨h1,h0⟩ hn
    rw[zk this];decide
   ·decide
  have HE : ∀ er,er≠0→KZ Ls n (.returned (.tuple #[.int .i64 0,.int .i64 er])):=fun er he=>Or.inr ⟨hni,er,he,rfl⟩
  have HE2:=za (HE _ e0);obtain⟨er,her⟩:=zc (inE N F n);rw[her]at HI HE2 e0;have b0:(er==0)=false:=by simpa using e0
  have b1:(er != 0)=true:=by simpa using e0
  clear h h2 hn HE her hni hb e0;go_enter func282,ntmps282
  go_wp2_with (go_at_call 329;refine HI.out.mono ?_;rintro e w' ⟨rfl,rfl⟩)
  go_ret2;exact⟨HE2.out,rfl⟩
theorem QA(h:yk w D p N Ls){k:Nat}{l:List Nat}(hl:Ls[k]? = some l):Calls prog 304 #[lkP p,.int .i64 k] w fun e w'=>e=.returned (.int .i64 l.length)∧w=w':=by
 obtain⟨gF,gL,cF,cL,F,h,h2⟩:=h;have hk:k<Ls.length:=(zF.1 hl).1;have HLi:=za (Uj h hk);have hb:=h.box;have hc:=h.lenAt hl;obtain⟨H,hH⟩:=zc Ls.length;rw[hH]at hb hk;have hm:=h.hm;rw[hH]at hm;have dn:decide (k<H)=true:=zL hk;clear h h2 hl hH;generalize l.length=n at *;obtain⟨hb_0,hb_1,hb_2,hb_f,hb_l,H_hb⟩:=cr3 hb;clear hb;go_enter func304,ntmps304
 go_wp2_with (go_at_call 350;refine HLi.out.mono ?_;rintro e w' ⟨rfl,rfl⟩)
 go_ret;exact⟨rfl,rfl⟩
theorem zbI(h:yk w D p N Ls):Calls prog 359 #[lkP p] w fun e w'=>e=.returned (.int .i64 N)∧w=w':=by
 obtain⟨gF,gL,cF,cL,F,h,h2⟩:=h;have HN:=za (Xt h);have hb:=h.box;clear h h2;obtain⟨hb_0,hb_1,hb_2,hb_f,hb_l,H_hb⟩:=cr3 hb;clear hb;go_enter func359,ntmps359;exact Azx2n
end
end
section
open Go.RowKit Go.Shelf
def yR(n:Nat):Nat:=if n=0 then 0 else Nat.log2 n+1
theorem Q9(n:Nat):n<2 ^ yR n:=by
 unfold yR;split
 ·rename_i h;subst h;decide
 ·exact Nat.lt_log2_self
theorem JE{n k:Nat}(h:n<2 ^ k):yR n≤k:=by
 unfold yR;split
 ·exact yh _
 ·rename_i h0;exact(Nat.log2_lt h0).2 h
theorem ZL{n j:Nat}(h:2 ^ j≤n):yR n=yR (n/2 ^ j)+j:=by
 have hp:=Nat.pow_pos (n:=j) (show 0<2 by decide);have h0:n≠0:=by omega
 have h1:n/2 ^ j≠0:=by have:=Nat.div_pos h hp;omega
 have e:n.log2=(n/2 ^ j).log2+j:=by
  have h2:(n/2 ^ j)<2 ^ ((n/2 ^ j).log2+1):=Nat.lt_log2_self;have h3:2 ^ (n/2 ^ j).log2≤n/2 ^ j:=Nat.log2_self_le h1;have h4:2 ^ ((n/2 ^ j).log2+j)≤n:=by
   rw[Nat.pow_add];have:=Xk (2 ^ j) h3;exact zH this (Nat.div_mul_le_self n _)
  have h5:n<2 ^ ((n/2 ^ j).log2+j+1):=by
   have h6:=Nat.lt_mul_of_div_lt h2 hp;rw[show(n/2 ^ j).log2+j+1=j+((n/2 ^ j).log2+1) by omega,Nat.pow_add];rw[Nat.mul_comm];exact h6
  have h7:n.log2<(n/2 ^ j).log2+j+1:=(Nat.log2_lt h0).2 h5;have h8 : ¬ n.log2<(n/2 ^ j).log2+j:=fun h=>by have:=(Nat.log2_lt h0).1 h;omega
  omega
 unfold yR;rw[zh h0,zh h1,e];omega
theorem zlU(s:ByteArray)(hs:s.size=256)(h : ∀ k (hk:k<256),wrap64 ((s[k]'(by omega)).toNat:Int)=yR k)(m:Nat)(hm:m<256)(hms:m<s.size):wrap64 ((s[m]'hms).toNat:Int)=yR m:=h m hm
theorem qN(y:Int)(s:ByteArray)(hs:s.size=256)(h : ∀ k (hk:k<256),wrap64 ((s[k]'(by omega)).toNat:Int)=yR k)(m:Nat)(hm:m<256)(hms:m<s.size)(n:Nat)(hb:(yR n:Int)=y+yR m)(h0:0≤y∧y≤100) :
  wrap64 (y+wrap64 ((s[m]'hms).toNat:Int))=(yR n:Int):=by
 rw[zlU s hs h m hm hms,← hb];have:yR m≤8:=JE (by omega);exact IntWalk.wrap64_in _ (by omega)
theorem zfu(s:ByteArray)(hs:s.size=256)(h : ∀ k (hk:k<256),wrap64 ((s[k]'(by omega)).toNat:Int)=yR k)(m:Nat)(hm:m<256)(hms:m<s.size):wrap64 (wrap64 ((s[m]'hms).toNat:Int))=(yR m:Int):=by
 have:=qN 0 s hs h m hm hms m (by omega) (by omega)
 rwa [Int.zero_add]at this
theorem zaW(n:Nat)(hn:n<4294967296)(w:World):Calls prog 331 #[.int .u64 n] w fun e w'=>e=.returned (.int .i64 (yR n))∧w=w':=by
 have d0:decide (4294967296≤(n:Int))=false:=zQ (by omega);have n0:(0:Int)≤n:=by omega
 by_cases c1:65536≤n
 ·have d1:decide (65536≤(n:Int))=true:=zL (by omega);have hb:=ZL (n:=n) (j:=16) c1;obtain⟨k,hk⟩:=zc (n/2 ^ 16);have e1:(n:Int)/65536=(k:Int):=by omega
  have hk2:k<65536:=by omega
  rw[hk]at hb;have k0:(0:Int)≤k:=by omega
  by_cases c2:256≤k
  ·have d2:decide (256≤(k:Int))=true:=zL (by omega);have hb2:=ZL (n:=k) (j:=8) c2;obtain⟨m,hm⟩:=zc (k/2 ^ 8);have e2:(k:Int)/256=(m:Int):=by omega
   have hm2:m<256:=by omega
   rw[hm]at hb2;have m0:(0:Int)≤m:=by omega
   have m1:(m:Int)<256:=by omega
   have w8:IntKind.u8.wrap (m:Int)=m:=by simp[IntKind.wrap,IntKind.signed,IntKind.bits];omega
   go_enter func331,ntmps331;go_wp2;go_ret;exact⟨congrArg (fun x=>Ending.returned (.int .i64 x)) (qN 24 _ (by decide) (by decide +kernel) m hm2 _ n (by omega) (by omega)),rfl⟩
  ·have d2:decide (256≤(k:Int))=false:=zQ (by omega);have m1:(k:Int)<256:=by omega
   have w8:IntKind.u8.wrap (k:Int)=k:=by simp[IntKind.wrap,IntKind.signed,IntKind.bits];omega
   go_enter func331,ntmps331;go_wp2;go_ret;exact⟨congrArg (fun x=>Ending.returned (.int .i64 x)) (qN 16 _ (by decide) (by decide +kernel) k (by omega) _ n (by omega) (by omega)),rfl⟩
 ·have d1:decide (65536≤(n:Int))=false:=zQ (by omega);by_cases c2:256≤n
  ·have d2:decide (256≤(n:Int))=true:=zL (by omega);have hb2:=ZL (n:=n) (j:=8) c2;obtain⟨m,hm⟩:=zc (n/2 ^ 8);have e2:(n:Int)/256=(m:Int):=by omega
   have hm2:m<256:=by omega
   rw[hm]at hb2;have m0:(0:Int)≤m:=by omega
   have m1:(m:Int)<256:=by omega
   have w8:IntKind.u8.wrap (m:Int)=m:=by simp[IntKind.wrap,IntKind.signed,IntKind.bits];omega
   go_enter func331,ntmps331;go_wp2;go_ret;exact⟨congrArg (fun x=>Ending.returned (.int .i64 x)) (qN 8 _ (by decide) (by decide +kernel) m hm2 _ n (by omega) (by omega)),rfl⟩
  ·have d2:decide (256≤(n:Int))=false:=zQ (by omega);have m1:(n:Int)<256:=by omega
   have w8:IntKind.u8.wrap (n:Int)=n:=by simp[IntKind.wrap,IntKind.signed,IntKind.bits];omega
   go_enter func331,ntmps331;go_wp2;go_ret;exact⟨congrArg (fun x=>Ending.returned (.int .i64 x)) (zfu _ (by decide) (by decide +kernel) n (by omega) _),rfl⟩
theorem zij(n:Nat)(hn:n<4294967296)(w:World):Calls prog 343 #[.int .u64 n] w fun e w'=>e=.returned (.int .i64 (yR n))∧w=w':=by
 have HL:=za (fun W=>zaW n hn W);go_enter func343,ntmps343
 go_wp2_with (go_at_call 331;refine(HL.out _).mono ?_;rintro e w' ⟨rfl,rfl⟩)
 go_ret;exact⟨rfl,rfl⟩
theorem zdU(n:Nat)(h1:1≤n)(hn:n≤1073741824)(w:World):Calls prog 340 #[.int .i64 n] w fun e w'=>e=.returned (.int .i64 (2 ^ yR (n-1):Nat))∧w=w':=by
 have HL:=za (fun W=>zij (n-1) (by omega) W);have e1:IntKind.i64.wrap ((n:Int)-1)=((n-1:Nat):Int):=by rw[zt _ (by omega)];omega
 have e2:IntKind.u64.wrap ((n-1:Nat):Int)=((n-1:Nat):Int):=uJ _ (by omega);have hb:yR (n-1)≤30:=JE (by omega);have b0:(0:Int)≤(yR (n-1):Int):=by omega
 generalize n-1=m at *;generalize yR m=k at *;go_enter func340,ntmps340
 go_wp2_with (go_at_call 343;refine(HL.out _).mono ?_;rintro e w' ⟨rfl,rfl⟩)
 go_ret;refine⟨?_,rfl⟩;have hk:2 ^ k≤2 ^ 30:=Yd (by decide) hb;have e3:(2:Int) ^ k=((2 ^ k:Nat):Int):=by simp
 have e4:wrap64 ((2:Int) ^ k)=((2 ^ k:Nat):Int):=by rw[e3];exact jV _ (by omega)
 exact congrArg (fun x=>Ending.returned (.int .i64 x)) e4
def jy(live:Nat):Nat:=2 ^ yR (4*live+15)
theorem zaT(live:Nat):4*live+16≤jy live:=by have:=Q9 (4*live+15);unfold jy;omega
theorem zjL{live:Nat}(hlt:jy live<8388608) : ∃ k,k≤19∧jy live=8*2 ^ k:=by
 have h1:=zaT live;unfold jy at h1 hlt ⊢;obtain⟨b,hb⟩:=zc (yR (4*live+15));rw[hb]at h1 hlt ⊢;have h3:3≤b:=by
  by_cases c:3≤b
  ·exact c
  ·have:2 ^ b≤2 ^ 2:=Yd (by decide) (by omega);omega
 have h23:b<23:=by
  by_cases c:b<23
  ·exact c
  ·have:2 ^ 23≤2 ^ b:=Yd (by decide) (by omega);omega
 refine⟨b-3,by omega,?_⟩;rw[show b=3+(b-3) by omega,Nat.pow_add];simp
theorem zmo(live:Nat)(hn:live≤7340032)(w:World):Calls prog 294 #[.int .i64 live] w fun e w'=>e=.returned (.int .i64 (jy live))∧w=w':=by
 have HL:=za (fun W=>zdU (4*live+16) (by omega) (by omega) W);have e0:4*live+16-1=4*live+15:=by omega
 rw[e0]at HL;have e1:IntKind.i64.wrap (4*(live:Int))=4*(live:Int):=zt _ (by omega);have e2:IntKind.i64.wrap (4*(live:Int)+16)=((4*live+16:Nat):Int):=by rw[zt _ (by omega)];omega
 unfold jy;generalize 4*live+16=z at *;generalize 2 ^ yR (4*live+15)=r at *;go_enter func294,ntmps294
 go_wp2_with (go_at_call 340;refine(HL.out _).mono ?_;rintro e w' ⟨rfl,rfl⟩)
 go_ret;exact⟨rfl,rfl⟩
def uA(g live:Nat):Nat × Bool:=if live≤7340032∧jy live<8*g then(jy live/8,true)else(g,false)
def zde(w:World)(x:Nat × Bool)(e:Ending)(w':World):Prop:=e=.returned (.tuple #[.agg #[.int .i64 (x.1:Nat),.bool x.2],.int .i64 0])∧zb w w'
theorem zfN{g live:Nat}(hg:Pow g):Pow (uA g live).1∧((uA g live).2=true→live<8*(uA g live).1)∧((uA g live).2=false→(uA g live).1=g):=by
 have hle:=hg.le;unfold uA;split
 ·rename_i h;obtain⟨k,hk,e⟩:=zjL (live:=live) (by omega);have h1:=zaT live;rw[e,show 8*2 ^ k/8=2 ^ k by omega];refine⟨⟨k,by omega,rfl⟩,fun _ => ?_,by simp⟩;dsimp only;omega
 ·exact⟨hg,by simp,fun _=>rfl⟩
theorem Azjqv {P:Prop}(h:P:=by
 obtain⟨f1,x0,x1⟩:=jR (v0 := .int .i64 g) (v1 := .bool false) H_hh6.out HP.out (by have:=HB6.out;omega) rfl;obtain⟨Y,hY⟩:=zc ((w1.setCell ⟨b6,0,none⟩ (.int .i64 g)).setCell ⟨b6,1,none⟩ (.bool false));rw[hY]at f1 x0 x1 ⊢;rw[← HR.out];exact zK (v := .tuple #[.agg #[.int .i64 g,.bool false],.int .i64 0]) (by simp[results,results244,go_sem,x0,x1]) rfl ⟨rfl,f1⟩):P:=h
theorem zfA{g live tombs:Nat}(hg:Pow g)(h:live+tombs≤8*g)(w:World):Calls prog 244 #[.int .i64 g,.int .i64 live,.int .i64 tombs] w (zde w (uA g live)):=by
 have hg1:=hg.le;have HC:=za (fun W=>zcP hg h W);have wg:IntKind.i64.wrap ((g:Int)*8)=(g:Int)*8:=zt _ (by omega);obtain⟨r,hr⟩:=zc (uA g live);rw[hr];unfold uA at hr;have hp0:zb w (w.alloc (.cells #[.int .i64 0,.bool false] 271)):=(Mod.refl _ w).alloc _;have h6:=zi (w:=w) (o := .cells #[.int .i64 0,.bool false] 271 (0,0)) rfl;have HP:=za hp0;by_cases c1:live≤7340032
 ·have d1:decide ((live:Int)≤7340032)=true:=zL (by omega);have HB:=za (fun W=>zmo live c1 W);obtain⟨bm,hbm⟩:=zc (jy live);rw[hbm]at HB hr;by_cases c2:bm<8*g
  ·have d2:decide ((bm:Int)<(g:Int)*8)=true:=zL (by omega);rw[zk ⟨c1,c2⟩]at hr;obtain⟨q,hq⟩:=zc (bm/8);have e8:wrap64 ((bm:Int)/8)=(q:Int):=by
    rw[show(bm:Int)/8=(q:Int) by omega];exact jV _ (by omega)
   rw[hq]at hr;have HR:=za hr;clear hr hp0 hg h c1 c2 hbm;go_enter func244,ntmps244;go_upto_region 1 with fail
   generalize w.alloc (.cells #[.int .i64 0,.bool false] 271)=W1 at *;obtain⟨b6,hb6⟩:=zc w.heap.size;rw[hb6]at h6 ⊢;have HB6:=za hb6;clear hb6;go_upto_region 2 with(go_at_call 293;refine(HC.out _).mono ?_;rintro e w1 ⟨rfl,hp1⟩)
   have hh6:=hp1.heap (fun h=>h) h6;replace HP:=za (HP.out.trans hp1);clear hp1 h6;obtain⟨hh6_0,hh6_1,hh6_f,hh6_l,H_hh6⟩:=cr2 hh6;clear hh6
   go_wp2_with (go_at_call 294;refine(HB.out _).mono ?_;rintro e w' ⟨rfl,rfl⟩)
   obtain⟨f1,x0,x1⟩:=jR (v0 := .int .i64 q) (v1 := .bool true) H_hh6.out HP.out (by have:=HB6.out;omega) rfl;obtain⟨Y,hY⟩:=zc ((w1.setCell ⟨b6,0,none⟩ (.int .i64 q)).setCell ⟨b6,1,none⟩ (.bool true));rw[hY]at f1 x0 x1 ⊢;rw[← HR.out];exact zK (v := .tuple #[.agg #[.int .i64 q,.bool true],.int .i64 0]) (by simp[results,results244,go_sem,x0,x1]) rfl ⟨rfl,f1⟩
  ·have d2:decide ((bm:Int)<(g:Int)*8)=false:=zQ (by omega);rw[zh (fun h=>c2 h.2)]at hr;have HR:=za hr;clear hr hp0 hg h c1 c2 hbm;go_enter func244,ntmps244;go_upto_region 1 with fail
   generalize w.alloc (.cells #[.int .i64 0,.bool false] 271)=W1 at *;obtain⟨b6,hb6⟩:=zc w.heap.size;rw[hb6]at h6 ⊢;have HB6:=za hb6;clear hb6;go_upto_region 2 with(go_at_call 293;refine(HC.out _).mono ?_;rintro e w1 ⟨rfl,hp1⟩)
   have hh6:=hp1.heap (fun h=>h) h6;replace HP:=za (HP.out.trans hp1);clear hp1 h6;obtain⟨hh6_0,hh6_1,hh6_f,hh6_l,H_hh6⟩:=cr2 hh6;clear hh6
   go_wp2_with (go_at_call 294;refine(HB.out _).mono ?_;rintro e w' ⟨rfl,rfl⟩)
   exact Azjqv
 ·have d1:decide ((live:Int)≤7340032)=false:=zQ (by omega);rw[zh (fun h=>c1 h.1)]at hr;have HR:=za hr;clear hr hp0 hg h c1;go_enter func244,ntmps244;go_upto_region 1 with fail
  generalize w.alloc (.cells #[.int .i64 0,.bool false] 271)=W1 at *;obtain⟨b6,hb6⟩:=zc w.heap.size;rw[hb6]at h6 ⊢;have HB6:=za hb6;clear hb6;go_upto_region 2 with(go_at_call 293;refine(HC.out _).mono ?_;rintro e w1 ⟨rfl,hp1⟩)
  have hh6:=hp1.heap (fun h=>h) h6;replace HP:=za (HP.out.trans hp1);clear hp1 h6;obtain⟨hh6_0,hh6_1,hh6_f,hh6_l,H_hh6⟩:=cr2 hh6;clear hh6;go_wp2;exact Azjqv
end
section
open Go.RowKit
theorem zmu{w:World}{gF:Nat}{F:List Nd}{T:TypeId}{n a b:Nat}(ha:(nd F n).pv=a)(hb:(nd F n).nx=b)(h:w.heap[gF]? = some (.cells (xp F).toArray T (0,0)))(haF:a<F.length)(hbF:b<F.length) :
  ((w.setCell ⟨gF,a*3+1,none⟩ (.int .u32 b)).setCell ⟨gF,b*3,none⟩ (.int .u32 a)).heap[gF]? = some (.cells (xp ((F.set a ⟨(nd F a).pv,b,(nd F a).ow⟩).set b ⟨a,(nd (F.set a ⟨(nd F a).pv,b,(nd F a).ow⟩) b).nx,(nd (F.set a ⟨(nd F a).pv,b,(nd F a).ow⟩) b).ow⟩)).toArray T (0,0)):=by
 have h1:=ZM h (i:=a) (j:=1) (u := .int .u32 b) (m:=⟨(nd F a).pv,b,(nd F a).ow⟩) haF (by decide) rfl;exact ZM h1 (i:=b) (j:=0) (u := .int .u32 a) (by simpa using hbF) (by decide) rfl
def UD(p b6:Nat)(v0 v1 u0 u1:Value)(w':World):Prop:=w'.cell? ⟨p,0,none⟩=some v0∧w'.cell? ⟨p,2,none⟩=some v1∧w'.cell? ⟨b6,0,none⟩=some u0∧w'.cell? ⟨b6,1,none⟩=some u1
theorem UD.set{p b6 g i:Nat}{v0 v1 u0 u1 v:Value}{X:World}(h:UD p b6 v0 v1 u0 u1 X)(h1:g≠p)(h2:g≠b6):UD p b6 v0 v1 u0 u1 (X.setCell ⟨g,i,none⟩ v) :=
 ⟨kx h.1 (.inl h1),kx h.2.1 (.inl h1),kx h.2.2.1 (.inl h2),kx h.2.2.2 (.inl h2)⟩
section
variable{w w':World}{p gF gL cF cL N:Nat}{Ls:List (List Nat)}{F:List Nd}{D:Nat→Prop}
theorem zkn(h:xm w p gF gL cF cL N Ls F){n k:Nat}{l:List Nat}(hl:Ls[k]? = some l)(hm:n∈l) :
  Calls prog 330 #[lkP p,.int .u32 n] w fun e w'=>e=.returned (.int .i64 0)∧xm w' p gF gL cF cL N (Ls.set k (l.erase n)) (ky F n)∧Mod (fun b=>b=gF∨b=gL) w w':=by
 obtain⟨a1,hn,how,haF,hbF,han,hbn⟩:=h.ok.cut hl hm;have hk:k<Ls.length:=(zF.1 hl).1;have hk4:k<4096:=by have:=h.hm;omega
 have hnF:n<F.length:=by rw[h.ok.len];omega
 have h32:n≤4294967295:=by have:=h.nm;omega
 have HI:=QM h h32;have e0:inE N F n=0:=by unfold inE;rw[zk hn,zh (by omega)]
 rw[e0]at HI;have HI:=za HI;have hll:l.length≤N:=h.ok.short hl;have hl0:0<l.length:=Uw hm;have hnm:=h.nm;have hend : ∀(w':World),w'.heap[gF]? = some (.cells (xp (ky F n)).toArray 401 (0,0))→w'.heap[gL]? = some (.cells ((vY Ls).set k (.int .i64 ((l.length-1:Nat):Int))).toArray 3 (0,0))→Mod (fun b=>b=gF∨b=gL) w w'→xm w' p gF gL cF cL N (Ls.set k (l.erase n)) (ky F n):=fun w' g1 g2 g3=>by
  obtain⟨n1,n2,n3⟩:=h.ne;refine⟨?_,g1,?_,a1,h.n1,h.nm,by rw[xH];exact h.hm⟩
  ·rw[zdF,xH];exact g3.heap (fun e=>by rcases e with e | e;exact n1 e;exact n2 e) h.box
  ·rw[← zdL,List.length_erase_of_mem hm];exact g2
 have HE:=za hend;have hFb:F.length≤4198400:=by rw[h.ok.len];have:=h.hm;omega
 obtain⟨c0,c1,c2⟩:=h.at_ hnF;rw[how]at c2;obtain⟨ne1,ne2,ne3⟩:=h.ne;have HFL:=za h.fld;have HLN:=za h.len;have HNX:=za (fun(X:World) (hX:X.heap[gL]? = some (.cells (vY Ls).toArray 3 (0,0)))=>(show X.cell? ⟨gL,k,none⟩=some (.int .i64 (l.length:Nat)) by rw[zf X gL k _ _ (0,0) hX,vw];exact Ki hl));have hbx:=h.box;have hp6:p<w.heap.size:=zl hbx;have hg6:gF<w.heap.size:=zl h.fld;have hL6:gL<w.heap.size:=zl h.len;obtain⟨FL,hFL⟩:=zc F.length;obtain⟨a,ha⟩:=zc ((nd F n).pv);obtain⟨b,hb⟩:=zc ((nd F n).nx);rw[ha]at haF han c0;rw[hb]at hbF hbn c1;rw[hFL]at hbx hFb hnF haF hbF;have HBX:=za hbx;have HA:=za ha;have HB:=za hb;have HFLe:=za hFL;have HOW:=za how;clear h hend hFL a1 hl hm ha hb how e0 hbx;have hbx:=HBX.out;obtain⟨kk,hkk⟩:=zc (k+1);rw[hkk]at c2 HOW;have wk:IntKind.u32.wrap ((kk:Int)-1)=(k:Int):=by rw[← hkk,show((k+1:Nat):Int)-1=(k:Int) by omega];exact X6 k (by omega)
 have dn:decide (n<FL)=true:=zL hnF;have da:decide (a<FL)=true:=zL haF;have db:decide (b<FL)=true:=zL hbF;clear hkk;obtain⟨hbx_0,hbx_1,hbx_2,hbx_f,hbx_l,H_hbx⟩:=cr3 hbx;clear hbx;go_enter func330,ntmps330;go_upto_region 5 with(go_at_call 329;refine HI.out.mono ?_;rintro e w' ⟨rfl,rfl⟩)
 have hal:zb w (w.alloc (.cells #[.int .u32 a,.int .u32 b,.int .u32 kk] 401)):=(Mod.refl _ w).alloc _;have h6:=zi (w:=w) (o := .cells #[.int .u32 a,.int .u32 b,.int .u32 kk] 401 (0,0)) rfl;have hbx0:=hal.heap (fun h=>h) HBX.out;have hf0:=hal.heap (fun h=>h) HFL.out;have hl0':=hal.heap (fun h=>h) HLN.out;have n6:gF≠w.heap.size:=by omega
 have n6L:gL≠w.heap.size:=by omega
 have HM0:=za hal;clear hbx_0 hbx_1 hbx_2 hbx_f hbx_l;clear H_hbx c0 c1 c2 hal hp6 hg6 hL6;generalize w.alloc (.cells #[.int .u32 a,.int .u32 b,.int .u32 kk] 401)=X0 at *;generalize w.heap.size=b6 at *;have HF0:=za hf0;have HL0:=za hl0';have HBX0:=za hbx0;have H60:=za h6;obtain⟨r0,r1,r2⟩:=Z6 hf0 (i:=a) (by rw[HFLe.out];exact haF);obtain⟨s0,s1,s2⟩:=Z6 hf0 (i:=b) (by rw[HFLe.out];exact hbF);have g0:=yP X0 gF (a*3+1) _ _ hf0;have g1:=yP X0 gF (b*3) _ _ hf0;have hX:gF<X0.heap.size:=zl hf0;clear hf0 hl0';obtain⟨hbx0_0,hbx0_1,hbx0_2,hbx0_f,hbx0_l,H_hbx0⟩:=cr3 hbx0;clear hbx0;obtain⟨h6_0,h6_1,h6_2,h6_f,h6_l,H_h6⟩:=cr3 h6;clear h6;have HS:Hid (UD p b6 (.slice (some ⟨gF,0,none⟩) FL cF) (.slice (some ⟨gL,0,none⟩) Ls.length cL) (.int .u32 a) (.int .u32 b) X0):=za ⟨hbx0_0,hbx0_2,h6_0,h6_1⟩;go_upto_region 5 with fail
 go_region_held3 (fun w'=>w'.cell? ⟨p,0,none⟩=some (.slice (some ⟨gF,0,none⟩) FL cF)∧w'.cell? ⟨p,2,none⟩=some (.slice (some ⟨gL,0,none⟩) Ls.length cL)∧w'.cell? ⟨b6,0,none⟩=some (.int .u32 a)∧w'.cell? ⟨b6,1,none⟩=some (.int .u32 b))
  (first | exact HS.out | exact HS.out.set ne1.symm n6 | exact(HS.out.set ne1.symm n6).set ne1.symm n6) (fail)
 have hm2:Mod (fun b=>b=gF) X0 ((X0.setCell ⟨gF,a*3+1,none⟩ (.int .u32 b)).setCell ⟨gF,b*3,none⟩ (.int .u32 a)).drew :=
  (((Mod.refl (fun b=>b=gF) X0).setCell (p:=⟨gF,a*3+1,none⟩) (fun _=>rfl) _).setCell (p:=⟨gF,b*3,none⟩) (fun _=>rfl) _).drew
 have hf2:((X0.setCell ⟨gF,a*3+1,none⟩ (.int .u32 b)).setCell ⟨gF,b*3,none⟩ (.int .u32 a)).drew.heap[gF]? = _:=zmu HA.out HB.out HF0.out (by rw[HFLe.out];exact haF) (by rw[HFLe.out];exact hbF);generalize((X0.setCell ⟨gF,a*3+1,none⟩ (.int .u32 b)).setCell ⟨gF,b*3,none⟩ (.int .u32 a)).drew=X2 at hm2 hf2 ⊢;have hbx2:=hm2.heap (fun e=>ne1 e) HBX0.out;have hln2:=hm2.heap (fun e=>ne3 e.symm) HL0.out;have h62:=hm2.heap (fun e=>n6 e.symm) H60.out;have hl9:=HNX.out _ hln2;clear hbx0_0 hbx0_1 hbx0_2 hbx0_f hbx0_l;clear h6_0 h6_1 h6_2 h6_f h6_l;clear H_hbx0 H_h6 r0 r1 r2 s0 s1 s2 g0 g1 hX HS;have g0:=yP X2 gL k _ _ hln2;have HM:=za ((HM0.out.mono (fun _ _ h=>h.elim)).trans (hm2.mono (fun _ _ h=>Or.inl h)):Mod (fun b=>b=gF∨b=gL) w X2);have HF2:=za hf2;have HL2:=za hln2;have hX2:gL<X2.heap.size:=zl hln2;have hX3:gF<X2.heap.size:=zl hf2;clear hm2 hf2 hln2;have dk:decide (k<Ls.length)=true:=zL hk;have wl:IntKind.i64.wrap ((l.length:Int)-1)=(l.length:Int)-1:=zt _ (by omega);obtain⟨hbx2_0,hbx2_1,hbx2_2,hbx2_f,hbx2_l,H_hbx2⟩:=cr3 hbx2;clear hbx2;obtain⟨h62_0,h62_1,h62_2,h62_f,h62_l,H_h62⟩:=cr3 h62;clear h62;go_upto_region 6 with fail
 go_still_tail 11,(by kernel_rfl)
 go_upto_region 7 with fail
 have e1:(X2.setCell ⟨gL,k,none⟩ (.int .i64 ((l.length:Int)-1))).drew.heap[gF]? = _:=yT HF2.out ne3;have e2:(X2.setCell ⟨gL,k,none⟩ (.int .i64 ((l.length:Int)-1))).drew.heap[gL]? = _:=zP X2 gL k _ _ (.int .i64 ((l.length:Int)-1)) HL2.out;rw[YB,show((l.length:Int)-1)=((l.length-1:Nat):Int) by omega]at e2;rw[show((l.length:Int)-1)=((l.length-1:Nat):Int) by omega]at e1;have e3:=(HM.out.setCell (p:=⟨gL,k,none⟩) (fun _ => .inr rfl) (.int .i64 ((l.length-1:Nat):Int))).drew;have e4:(X2.setCell ⟨gL,k,none⟩ (.int .i64 ((l.length-1:Nat):Int))).drew.heap[p]? = _:=yT H_hbx2.out ne2;rw[show((l.length:Int)-1)=((l.length-1:Nat):Int) by omega];clear hbx2_0 hbx2_1 hbx2_2 hbx2_f hbx2_l;clear h62_0 h62_1 h62_2 h62_f h62_l;clear H_hbx2 H_h62 wl dk hl9 g0 hX2 hX3;generalize(X2.setCell ⟨gL,k,none⟩ (.int .i64 ((l.length-1:Nat):Int))).drew=X3 at e1 e2 e3 e4 ⊢;obtain⟨q0,q1,q2⟩:=Z6 e1 (i:=n) (by simp;rw[HFLe.out];exact hnF);have g0:=yP X3 gF (n*3) _ _ e1;have g1:=yP X3 gF (n*3+1) _ _ e1;have g2:=yP X3 gF (n*3+2) _ _ e1;have hX3:gF<X3.heap.size:=zl e1;have HE1:=za e1;have HE2:=za e2;have HE3:=za e3;have hfin:=Jo e1 (i:=n) (by simp;rw[HFLe.out];exact hnF) 0 0 0;have HFIN:=za hfin;clear e1 e2 e3 hfin;obtain⟨e4_0,e4_1,e4_2,e4_f,e4_l,H_e4⟩:=cr3 e4;clear e4;go_wp2;have r1:=HFIN.out;have r2:=yT (v := .int .u32 0) (yT (v := .int .u32 0) (yT (a:=⟨gF,n*3,none⟩) (v := .int .u32 0) HE2.out (fun e=>ne3 e.symm)) (a:=⟨gF,n*3+1,none⟩) (fun e=>ne3 e.symm)) (a:=⟨gF,n*3+2,none⟩) (fun e=>ne3 e.symm);have r3:=((HE3.out.setCell (p:=⟨gF,n*3,none⟩) (fun _ => .inl rfl) (.int .u32 0)).setCell (p:=⟨gF,n*3+1,none⟩) (fun _ => .inl rfl) (.int .u32 0)).setCell (p:=⟨gF,n*3+2,none⟩) (fun _ => .inl rfl) (.int .u32 0);go_ret;refine⟨rfl,HE.out _ ?_ r2 r3,r3⟩;unfold ky;rw[HA.out,HB.out];exact r1
theorem zai(h:yk w D p N Ls){n k:Nat}{l:List Nat}(hl:Ls[k]? = some l)(hm:n∈l) :
  Calls prog 330 #[lkP p,.int .u32 n] w fun e w'=>e=.returned (.int .i64 0)∧yk w' D p N (Ls.set k (l.erase n))∧Mod D w w':=by
 obtain⟨gF,gL,cF,cL,F,h1,h2⟩:=h;refine(zkn h1 hl hm).mono ?_;rintro e w' ⟨he,q1,q2⟩;exact⟨he,⟨gF,gL,cF,cL,_,q1,h2⟩,q2.mono (fun k _ hk=>(h2 k).2 (.inr hk))⟩
end
end
end Go.Proofs.YtpplkcnknabofaaGreatDoor
