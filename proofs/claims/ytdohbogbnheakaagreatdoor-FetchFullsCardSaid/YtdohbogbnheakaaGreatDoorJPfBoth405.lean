/- Lemmas and contracts of functions. No condition. -/
import Derived.StillTailTactics
import Derived.Test.YtdohbogbnheakaaGreatDoorJPfBoth404
import Derived.OwnWalk
namespace Go.Proofs.YtdohbogbnheakaaGreatDoor
open _root_.Go.Proofs.Tryz
set_option maxRecDepth 100000
set_option maxHeartbeats 20000000
set_option linter.all false
section
open Go.RowKit
@[go_sem] theorem zlU (w : World) (a : Option Addr) (n c : Nat) : (binOp .eql 401 (.slice a n c) (.slice none 0 0)).run prog w=.ok (.bool a.isNone) w :=
 Lib.run_eql_slice_nil w _ _ a n c 0 0 underlying401
abbrev lkP(p:Nat):Value := .pointer (some ⟨p,0,none⟩)
theorem Xt(n:Nat)(h:n<4294967296):IntKind.u32.wrap (n:Int)=n:=by simp[IntKind.wrap,IntKind.signed,IntKind.bits];omega
section
variable{w w':World}{p gF gL cF cL N:Nat}{Ls:List (List Nat)}{F:List Nd}
theorem X5(h:xf w p gF gL cF cL N Ls F):Calls prog 364 #[lkP p] w fun e w'=>e=.returned (.bool false)∧w=w':=by
 have hb:=h.box;clear h;obtain⟨hb_0,hb_1,hb_2,hb_f,hb_l,H_hb⟩:=cr3 hb;clear hb;go_enter func364,ntmps364;go_wp2;go_ret;exact⟨rfl,rfl⟩
theorem Az477 {P:Prop}(h:P:=by
 go_wp2_with (go_at_call 364;refine HN.out.mono ?_;rintro e w' ⟨rfl,rfl⟩)
 go_ret;exact⟨rfl,rfl⟩):P:=h
theorem VO(h:xf w p gF gL cF cL N Ls F){k:Nat}(hk:k<Ls.length):Calls prog 341 #[lkP p,.int .i64 k] w fun e w'=>e=.returned (.int .i64 0)∧w=w':=by
 have hb:=h.box;have HN:=za (X5 h);have hm:=h.hm;obtain⟨H,hH⟩:=zf Ls.length;rw[hH]at hb hm hk;clear h hH;obtain⟨hb_0,hb_1,hb_2,hb_f,hb_l,H_hb⟩:=cr3 hb;clear hb;have d1:decide ((k:Int)<0)=false:=zR (by omega);have d2:decide ((H:Int)≤(k:Int))=false:=zR (by omega);have d3:decide (H≤k)=false:=zR (by omega);have wH:IntKind.i64.wrap (H:Int)=H:=zt _ (by omega);go_enter func341,ntmps341;exact Az477
theorem Azj3n {P:Prop}(h:P:=by
 have wn:IntKind.i64.wrap (n:Int)=n:=zt _ (by omega);go_enter func336,ntmps336;exact Az477):P:=h
theorem zbs(h:xf w p gF gL cF cL N Ls F){n:Nat}(hn:n<N):Calls prog 336 #[lkP p,.int .u32 n] w fun e w'=>e=.returned (.int .i64 0)∧w=w':=by
 have hb:=h.box;have HN:=za (X5 h);have hm:=h.nm;clear h;obtain⟨hb_0,hb_1,hb_2,hb_f,hb_l,H_hb⟩:=cr3 hb;clear hb;have d2:decide ((N:Int)≤(n:Int))=false:=zR (by omega);have d3:decide (N≤n)=false:=zR (by omega);exact Azj3n
theorem zjl(h:xf w p gF gL cF cL N Ls F){n:Nat}(hn:N≤n)(h32:n≤4294967295):Calls prog 336 #[lkP p,.int .u32 n] w fun e w'=>e=.returned (.int .i64 2)∧w=w':=by
 have hb:=h.box;have HN:=za (X5 h);clear h;obtain⟨hb_0,hb_1,hb_2,hb_f,hb_l,H_hb⟩:=cr3 hb;clear hb;have d2:decide ((N:Int)≤(n:Int))=true:=zP (by omega);have d3:decide (N≤n)=true:=zP (by omega);exact Azj3n
def inE(N:Nat)(F:List Nd)(n:Nat):Int:=if n<N then(if (nd F n).ow=0 then 9 else 0)else 2
theorem Az7ro {P:Prop}(h:P:=by
 go_enter func294,ntmps294
 go_wp2_with (go_at_call 336;refine HN.out.mono ?_;rintro e w' ⟨rfl,rfl⟩)
 go_ret;exact⟨rfl,rfl⟩):P:=h
theorem zcC(h:xf w p gF gL cF cL N Ls F){n:Nat}(h32:n≤4294967295):Calls prog 294 #[lkP p,.int .u32 n] w fun e w'=>e=.returned (.int .i64 (inE N F n))∧w=w':=by
 have hb:=h.box;by_cases hn:n<N
 ·have HN:=za (zbs h hn);have hlt:n<F.length:=by rw[h.ok.len];omega
  obtain⟨c0,c1,c2⟩:=h.at_ hlt;unfold inE;rw[zk hn];have hl:F.length≤4198400:=by rw[h.ok.len];have:=h.nm;have:=h.hm;omega
  have d1:decide (n<F.length)=true:=zP hlt;have hlt':(n:Int)<(F.length:Int):=by omega
  have hn0:(0:Int)≤(n:Int):=by omega
  clear h c0 c1;generalize(nd F n).ow=o at *;obtain⟨hb_0,hb_1,hb_2,hb_f,hb_l,H_hb⟩:=cr3 hb;clear hb;by_cases ho:o=0
  ·subst ho;exact Az7ro
  ·rw[zh ho];have e1:((o:Int)==0)=false:=by simp;omega
   exact Az7ro
 ·have HN:=za (zjl h (by omega) h32);unfold inE;rw[zh hn];clear h hb;exact Az7ro
theorem J9(h:xf w p gF gL cF cL N Ls F){k:Nat}(hk:k≤4096):Calls prog 287 #[.int .i64 k,lkP p] w fun e w'=>e=.returned (.int .u32 (N+k:Nat))∧w=w':=by
 have hb:=h.box;have hm:=h.nm;clear h;obtain⟨hb_0,hb_1,hb_2,hb_f,hb_l,H_hb⟩:=cr3 hb;clear hb;have ws:IntKind.i64.wrap ((N:Int)+(k:Int))=(N:Int)+(k:Int):=zt _ (by omega);have wu:IntKind.u32.wrap ((N:Int)+(k:Int))=(N:Int)+(k:Int):=by simp[IntKind.wrap,IntKind.signed,IntKind.bits];omega
 have wk:IntKind.i64.wrap (k:Int)=k:=zt _ (by omega);go_enter func287,ntmps287;go_wp2;go_ret;exact⟨by go_num,rfl⟩
end
end
section
open Go.RowKit Go.Shelf
def VG(l:List Int):List Value:=l.map (Value.int .i64)
theorem zaD{w:World}{a:Option Addr}{c:Nat}{l:List Int}{most:Int}(h:zo w (.slice a l.length c) 1 (VG l))(hl : ∀ z∈l,0≤z∧z≤most)(hn:l.length≤8) :
  Calls prog 328 #[.int .i64 most,.slice a l.length c] w fun e w'=>e=.returned (.int .i64 0)∧w=w':=by
 have HR:=za h;have HL:=za hl;clear h hl;obtain⟨n,hn'⟩ : ∃ n,l.length=n:=⟨_,rfl⟩;rw[hn']at HR hn ⊢;have HN:=za hn';clear hn';have wn:IntKind.i64.wrap (n:Int)=n:=zt _ (by omega);go_enter func328,ntmps328;go_upto_region 2 with fail
 go_loopw [9] (fun v9 wr => ∃ i,v9=.int .i64 (i:Nat)∧i≤n∧wr=w) (fun v9 _=>n-(intOf v9).toNat)
 case atStart=>exact⟨0,rfl,yi _,rfl⟩
 case round =>
  obtain⟨i,rfl,hi,rfl⟩:=hrel;by_cases hlt:i<n
  ·have hlt':(i:Int)<(n:Int):=by omega
   obtain⟨z,hz⟩ : ∃ z,l[i]? = some z:=⟨_,zL (by have:=HN.out;omega)⟩;obtain⟨h1,h2⟩:=HL.out z (yl hz);obtain⟨a',n',c',e,_,_,h0,hc⟩:=HR.out
   cases e
   obtain⟨ad,rfl⟩ : ∃ ad,a=some ad:=by
    cases a with
    | none=>have:=h0 rfl;omega
    | some ad=>exact⟨ad,rfl⟩
   have c0:=hc ad rfl i (.int .i64 z) (by unfold VG;rw[yC,hz];rfl);clear hc h0 hz;have wi:IntKind.i64.wrap ((i:Int)+1)=(i:Int)+1:=zt _ (by omega);have d1:decide (z<0)=false:=by simp;omega
   have d2:decide (most<z)=false:=by simp;omega
   go_wp2;go_roundw
   case rel=>exact⟨i+1,by go_num,hlt,trivial⟩
   case measure=>simp[intOf];omega
  ·have hlt':(n:Int)≤(i:Int):=by omega
   go_wp2;go_ret;exact⟨rfl,rfl⟩
theorem Qr{g live tombs:Nat}(hg:Pow g)(h:live+tombs≤8*g)(w:World):Calls prog 278 #[.int .i64 g,.int .i64 live,.int .i64 tombs] w fun e w'=>e=.returned (.int .i64 0)∧zc w w':=by
  have hg1:=hg.le;have HV:=za (fun W=>K6 g W hg);have w8:IntKind.i64.wrap ((g:Int)*8)=(g:Int)*8:=zt _ (by omega);have wl:IntKind.i64.wrap ((live:Int)+(tombs:Int))=(live:Int)+(tombs:Int):=zt _ (by omega);have h1:=zj (w:=w) (o := .cells #[.int .i64 live,.int .i64 tombs] 3 (0,0)) rfl;have hp1:zc w (w.alloc (.cells #[.int .i64 live,.int .i64 tombs] 3)):=(Mod.refl _ w).alloc _;have HW1:=za (zaD (a:=some ⟨w.heap.size,0,none⟩) (c:=2) (l:=[(live:Int),(tombs:Int)]) (most:=(g:Int)*8) (zo.of_block 2 2 1 h1 (by rfl) (by simp[VG,Value.oneCell'])) (by simp;omega) (by simp));have HP1:=za hp1;clear h1 hp1 hg;simp only[List.length_cons,List.length_nil,Nat.zero_add,Nat.reduceAdd]at HW1;go_enter func278,ntmps278;go_upto_region 5 with(first
    | (go_at_call 236;refine(HV.out _).mono ?_;rintro e w' ⟨rfl,rfl⟩)
    | (go_at_call 328;refine HW1.out.mono ?_;rintro e w' ⟨rfl,rfl⟩))
  generalize w.alloc (.cells #[.int .i64 live,.int .i64 tombs] 3)=w1 at *;have h2:=zj (w:=w1) (o := .cells #[.int .i64 ((live:Int)+(tombs:Int))] 3 (0,0)) rfl;have HW2:=za (zaD (a:=some ⟨w1.heap.size,0,none⟩) (c:=1) (l:=[(live:Int)+(tombs:Int)]) (most:=(g:Int)*8) (zo.of_block 1 1 1 h2 (by rfl) (by simp[VG,Value.oneCell'])) (by simp;omega) (by simp));clear h2 HW1;simp only[List.length_cons,List.length_nil,Nat.zero_add,Nat.reduceAdd]at HW2
  go_wp2_with (go_at_call 328;refine HW2.out.mono ?_;rintro e w' ⟨rfl,rfl⟩)
  go_ret;exact⟨rfl,HP1.out.alloc _⟩
theorem zjw{g:Nat}(hg:Pow g)(w:World):Calls prog 304 #[.int .i64 g] w fun e w'=>e=.returned (.int .i64 (7*(g:Int)))∧w=w':=by
 have hg1:=hg.le;have w7:IntKind.i64.wrap (7*(g:Int))=7*(g:Int):=zt _ (by omega);clear hg;go_enter func304,ntmps304;go_wp2;go_ret;exact⟨rfl,rfl⟩
theorem jD{w X Y:World}{b6:Nat}{u0 u1 v0 v1:Value}{T:TypeId}(h6:X.heap[b6]? = some (.cells #[u0,u1] T (0,0)))(hp:zc w X)(hb:w.heap.size≤b6)(hY:(X.setCell ⟨b6,0,none⟩ v0).setCell ⟨b6,1,none⟩ v1=Y):zc w Y∧Y.cell? ⟨b6,0,none⟩=some v0∧Y.cell? ⟨b6,1,none⟩=some v1:=by
 have m2:=QK (v0:=v0) (v1:=v1) h6;have hmm:Mod (fun i=>i=b6) X ((X.setCell ⟨b6,0,none⟩ v0).setCell ⟨b6,1,none⟩ v1):=Mod.set2 b6 0 1 _ _;rw[hY]at m2 hmm;exact⟨hp.then hmm (fun i hi e=>by omega),zi _ b6 0 _ _ _ m2,zi _ b6 1 _ _ _ m2⟩
def jJ(g live tombs:Nat):Option (Nat × Bool) :=
 if live+tombs<7*g then some (g,false)else if 2*live≤7*g then some (g,true)else if g<1048576 then some (2*g,true)else if live<7*g then some (g,true)else none
def zab(o:Option (Nat × Bool)):Value:=match o with
 | some x => .tuple #[.agg #[.int .i64 (x.1:Nat),.bool x.2],.int .i64 0]
 | none => .tuple #[.agg #[.int .i64 0,.bool false],.int .i64 7]
theorem Az8xh {P:Prop}(h:P:=by
 go_wp2;obtain⟨f1,x0,x1⟩:=jD (v0 := .int .i64 g) (v1 := .bool true) H_h6b.out HP2.out hb6 rfl;obtain⟨Y,hY⟩:=zf ((wc.setCell ⟨b6,0,none⟩ (.int .i64 g)).setCell ⟨b6,1,none⟩ (.bool true));rw[hY]at f1 x0 x1 ⊢;exact zN (v := .tuple #[.agg #[.int .i64 g,.bool true],.int .i64 0]) (by simp[results,results254,go_sem,x0,x1]) rfl ⟨rfl,f1⟩):P:=h
theorem zjn{g live tombs:Nat}(hg:Pow g)(h:live+tombs≤8*g)(w:World):Calls prog 254 #[.int .i64 g,.int .i64 live,.int .i64 tombs] w fun e w'=>e=.returned (zab (jJ g live tombs))∧zc w w':=by
  have hg1:=hg.le;have HC:=za (fun W=>Qr hg h W);have HLm:=za (fun W=>zjw hg W);have wl:IntKind.i64.wrap ((live:Int)+(tombs:Int))=(live:Int)+(tombs:Int):=zt _ (by omega);have w2:IntKind.i64.wrap (2*(live:Int))=2*(live:Int):=zt _ (by omega);have wg:IntKind.i64.wrap (2*(g:Int))=2*(g:Int):=zt _ (by omega);obtain⟨r,hr⟩:=zf (jJ g live tombs);rw[hr];unfold jJ at hr;have HRr:=za hr;clear hr hg;go_enter func254,ntmps254;go_upto_region 5 with(first
    | (go_at_call 278;refine(HC.out _).mono ?_;rintro e w1 ⟨rfl,hp1⟩)
    | (go_at_call 304;refine(HLm.out _).mono ?_;rintro e w' ⟨rfl,rfl⟩))
  have hp0:zc w (w.alloc (.cells #[.int .i64 0,.bool false] 293)):=(Mod.refl _ w).alloc _;have h6:=hp1.heap (fun h=>h) (zj (w:=w) (o := .cells #[.int .i64 0,.bool false] 293 (0,0)) rfl);have HP:=za (hp0.trans hp1);have hle:=hp0.size;clear hp0 hp1 HC HLm;obtain⟨b6,hb6⟩:=zf w.heap.size;rw[hb6]at h6 ⊢;have HB6:=za hb6;have hlt6:=zm h6;have H6:=za h6;clear hb6 hle;obtain⟨rb,hrb⟩:=zf (decide (7*(g:Int)≤(live:Int)+(tombs:Int)));have h10:=zj (w:=w1) (o := .cells #[.int .i64 g,.bool rb] 293 (0,0)) rfl;have hp10:zc w1 (w1.alloc (.cells #[.int .i64 g,.bool rb] 293)):=(Mod.refl _ w1).alloc _;have h6b:=hp10.heap (fun h=>h) h6;have HP2:=za (HP.out.trans hp10);have hne:w1.heap.size≠b6:=by omega
  clear hp10 H6 h6;have HRB:=za hrb;have hsz:w.heap.size≤w1.heap.size:=Mod.size HP.out;clear HP
  go_cut [9,10,6,0,1] (fun v9 v10 v6 v0 v1 wx=>v9=.int .i64 (7*(g:Int))∧v10=.pointer (some ⟨w1.heap.size,0,none⟩)∧v6=.pointer (some ⟨b6,0,none⟩)∧v0=.int .i64 g∧v1=.int .i64 live∧wx=w1.alloc (.cells #[.int .i64 g,.bool rb] 293))
  case first =>
    cases rb with
    | true =>
      have:=of_decide_eq_true hrb;go_wp2
      go_meet
      exact⟨rfl,rfl,rfl,rfl,rfl,rfl⟩
    | false =>
      have:=of_decide_eq_false hrb;go_wp2
      go_meet
      exact⟨rfl,rfl,rfl,rfl,rfl,rfl⟩
  case rest =>
    obtain⟨rfl,rfl,rfl,rfl,rfl,hwc⟩:=hcut;rw[← hwc]at h10 h6b HP2;clear hwc hrb;generalize w1.heap.size=b10 at *;have hb6:w.heap.size≤b6:=by have:=HB6.out;omega
    obtain⟨h10_0,h10_1,h10_f,h10_l,H_h10⟩:=cr2 h10;clear h10;obtain⟨h6b_0,h6b_1,h6b_f,h6b_l,H_h6b⟩:=cr2 h6b;clear h6b;have hr:=HRr.out;have hrb:=HRB.out;clear HRr HRB;by_cases c1:live+tombs<7*g
    · rw[zk c1]at hr
      have e1:rb=false:=by rw[← hrb];exact zR (by omega)
      subst hr e1;clear hrb;go_wp2;obtain⟨f1,x0,x1⟩:=jD (v0 := .int .i64 g) (v1 := .bool false) H_h6b.out HP2.out hb6 rfl;obtain⟨Y,hY⟩:=zf ((wc.setCell ⟨b6,0,none⟩ (.int .i64 g)).setCell ⟨b6,1,none⟩ (.bool false));rw[hY]at f1 x0 x1 ⊢;exact zN (v := .tuple #[.agg #[.int .i64 g,.bool false],.int .i64 0]) (by simp[results,results254,go_sem,x0,x1]) rfl ⟨rfl,f1⟩
    · rw[zh c1]at hr
      have e1:rb=true:=by rw[← hrb];exact zP (by omega)
      subst e1;clear hrb;by_cases c2:2*live≤7*g
      · rw[zk c2]at hr
        subst hr;have c2':2*(live:Int)≤7*(g:Int):=by omega
        exact Az8xh
      · rw[zh c2]at hr
        have d2:decide (2*(live:Int)≤7*(g:Int))=false:=zR (by omega);by_cases c3:g<1048576
        · rw[zk c3]at hr
          subst hr;have d3:decide ((g:Int)<1048576)=true:=zP (by omega);clear c1 c2 c3;go_wp2;have h6x:=(Mod.set1 (w:=wc) b10 0 (.int .i64 (2*(g:Int)))).heap (fun e=>hne e.symm) H_h6b.out;have hpx:zc w (wc.setCell ⟨b10,0,none⟩ (.int .i64 (2*(g:Int)))):=HP2.out.then (Mod.set1 b10 0 _) (fun i hi e=>by omega);obtain⟨f1,x0,x1⟩:=jD (v0 := .int .i64 (2*(g:Int))) (v1 := .bool true) h6x hpx hb6 rfl;obtain⟨Y,hY⟩:=zf (((wc.setCell ⟨b10,0,none⟩ (.int .i64 (2*(g:Int)))).setCell ⟨b6,0,none⟩ (.int .i64 (2*(g:Int)))).setCell ⟨b6,1,none⟩ (.bool true));rw[hY]at f1 x0 x1 ⊢;exact zN (v := .tuple #[.agg #[.int .i64 (2*(g:Int)),.bool true],.int .i64 0]) (by simp[results,results254,go_sem,x0,x1]) rfl ⟨rfl,f1⟩
        · rw[zh c3]at hr
          have d3:decide ((g:Int)<1048576)=false:=zR (by omega);by_cases c4:live<7*g
          · rw[zk c4]at hr
            subst hr;have d4:decide ((live:Int)<7*(g:Int))=true:=zP (by omega);clear c1 c2 c3 c4;exact Az8xh
          · rw[zh c4]at hr
            subst hr;have d4:decide ((live:Int)<7*(g:Int))=false:=zR (by omega);clear c1 c2 c3 c4;go_wp2;obtain⟨f1,x0,x1⟩:=jD (v0 := .int .i64 0) (v1 := .bool false) H_h6b.out HP2.out hb6 rfl;obtain⟨Y,hY⟩:=zf ((wc.setCell ⟨b6,0,none⟩ (.int .i64 0)).setCell ⟨b6,1,none⟩ (.bool false));rw[hY]at f1 x0 x1 ⊢;exact zN (v := .tuple #[.agg #[.int .i64 0,.bool false],.int .i64 7]) (by simp[results,results254,go_sem,x0,x1]) rfl ⟨rfl,f1⟩
def uz(j t s:Nat)(c:Grp):Grp:=(c.1.set j t,c.2.set j s)
def yD(Gs:List Grp)(i j t s:Nat):List Grp:=Gs.modify i (uz j t s)
theorem jS(Gs:List Grp)(i j t s:Nat):(yD Gs i j t s).length=Gs.length:=by simp[yD]
theorem Y5{Gs:List Grp}{i j t s:Nat}(hi:i<Gs.length)(k:Nat):zn (yD Gs i j t s) k=if k=i then uz j t s (zn Gs i)else zn Gs k:=by
 unfold zn yD;rw[ua,Kj];by_cases h:k=i
 ·subst h;rw[zk rfl,ua,zL hi];simp
 ·rw[zh h,ua];have : ¬ i=k:=fun e=>h e.symm
  simp[this]
theorem xV.put{c:Grp}(h:xV c){j t s:Nat}(ht:t<128∨t=128∨t=254)(hs:s≤4294967295):xV (uz j t s c):=by
 refine⟨⟨by simp[uz,h.ctl.1],fun x hx => ?_⟩,by simp[uz,h.len],fun x hx => ?_⟩
 ·rcases jI hx with h' | rfl
  ·exact h.ctl.2 x h'
  ·exact ht
 ·rcases jI hx with h' | rfl
  ·exact h.lt x h'
  ·exact hs
theorem xz.put{Gs:List Grp}(h:xz Gs){i j t s:Nat}(ht:t<128∨t=128∨t=254)(hs:s≤4294967295):xz (yD Gs i j t s):=by
 refine⟨by rw[jS];exact h.pow,fun c hc => ?_⟩;obtain⟨k,hk⟩:=ur hc;unfold yD at hk;rw[Kj]at hk
 cases hg:Gs[k]? with
 | none=>rw[hg]at hk;simp at hk
 | some c0 =>
  have h0:=h.grp c0 (yl hg);rw[hg]at hk;by_cases e:i=k
  ·simp[e]at hk;rw[← hk];exact h0.put ht hs
  ·simp[e]at hk;rw[← hk];exact h0
theorem U1{α:Type}(F:α→Nat)(g:α→α) : ∀(L:List α) (i:Nat) (a:α),L[i]? = some a→((L.modify i g).map F).sum+F a=(L.map F).sum+F (g a)
 | [],_,_,h=>by simp at h
 | b::L,0,a,h=>by simp at h;subst h;simp;omega
 | b::L,i+1,a,h=>by
  have:=U1 F g L i a (by simpa using h);simp only[List.modify_succ_cons,List.map_cons,List.sum_cons];omega
theorem Jq(p:Nat→Bool)(t:Nat) : ∀(l:List Nat) (j a:Nat),l[j]? = some a→(l.set j t).countP p+(p a).toNat=l.countP p+(p t).toNat
 | [],_,_,h=>by simp at h
 | b::l,0,a,h=>by
  simp at h;subst h;simp only[List.set_cons_zero,List.countP_cons]
  cases p b<;>cases p t<;>simp
 | b::l,j+1,a,h=>by
  have:=Jq p t l j a (by simpa using h);simp only[List.set_cons_succ,List.countP_cons];omega
theorem Uv{Gs:List Grp}{i j t s a:Nat}(hi:i<Gs.length)(ha:(zn Gs i).1[j]? = some a):zD (yD Gs i j t s)+(decide (a<128)).toNat=zD Gs+(decide (t<128)).toNat:=by
 have h1:=U1 (fun c:Grp=>c.1.countP (· < 128)) (uz j t s) Gs i (zn Gs i) (uj hi);have h2:=Jq (fun x=>decide (x<128)) t (zn Gs i).1 j a ha;unfold zD yD;simp only[uz]at h1 h2 ⊢;omega
theorem Vf{Gs:List Grp}{i j t s a:Nat}(hi:i<Gs.length)(ha:(zn Gs i).1[j]? = some a):yj (yD Gs i j t s)+(a==254).toNat=yj Gs+(t==254).toNat:=by
 have h1:=U1 (fun c:Grp=>c.1.countP (· == 254)) (uz j t s) Gs i (zn Gs i) (uj hi);have h2:=Jq (fun x=>x==254) t (zn Gs i).1 j a ha;unfold yj yD;simp only[uz]at h1 h2 ⊢;omega
theorem XO(p:Nat→Bool) : ∀ {Gs:List Grp},(∀ c∈Gs,xV c)→(Gs.map (fun c=>c.1.countP p)).sum≤8*Gs.length
 | [],_=>by simp
 | c::Gs,h=>by
  have h1:=XO p (Gs:=Gs) (fun c hc=>h c (by simp[hc]));have h2:c.1.countP p≤c.1.length:=VV;rw[(h c (by simp)).ctl.1]at h2;simp only[List.map_cons,List.sum_cons,List.length_cons];omega
theorem xz.used_le{Gs:List Grp}(h:xz Gs):zD Gs≤8388608:=by have:=XO (· < 128) h.grp;have:=h.pow.le;unfold zD;omega
theorem xz.tomb_le{Gs:List Grp}(h:xz Gs):yj Gs≤8388608:=by have:=XO (· == 254) h.grp;have:=h.pow.le;unfold yj;omega
theorem zgM{c:Grp}(h:xV c){j t s:Nat}(hj:j<8):yR (uz j t s c)=((yR c).set 0 (.int .u64 (zC (c.1.set j t)))).set (j+1) (.int .u32 (s:Int)):=by
 unfold yR uz;simp only[List.set_cons_zero,List.set_cons_succ]
 congr 1
 apply uv;intro k;rw[Xr];simp only[List.getElem?_map,List.length_map,List.length_range];by_cases hk:k<8
 ·rw[qw hk];simp only[Option.map_some];by_cases e:j=k
  ·subst e;simp[h.len,hj]
  ·simp[e,List.getD_eq_getElem?_getD,List.getElem?_set]
 ·have:(List.range 8)[k]? = none:=by simp;omega
  rw[this];by_cases e:j=k
  ·omega
  ·simp[e]
theorem zeS{Gs:List Grp}{i j t s:Nat}(h:xV (zn Gs i))(hi:i<Gs.length)(hj:j<8) :
  ((Gs.flatMap yR).set (i*9+0) (.int .u64 (zC ((zn Gs i).1.set j t)))).set (i*9+(j+1)) (.int .u32 (s:Int))=(yD Gs i j t s).flatMap yR:=by
 have hR : ∀ r∈Gs.map yR,r.length=9:=fun r hr=>by obtain⟨c,_,rfl⟩:=zz.1 hr;exact qW c
 rw[List.flatMap_def,ZA 9 0 (by omega) _ _ hR,ZA 9 (j+1) (by omega) _ _ (ZC hR i 0 _),List.flatMap_def]
 congr 1
 apply uv;intro k;unfold yD;simp only[List.getElem?_modify,List.getElem?_map];by_cases e:i=k
 ·subst e;rw[uj hi];simp only[if_pos];exact congrArg some (zgM h hj).symm
 ·simp[e]
theorem Q3{Gs:List Grp}{i j t s:Nat}(h:xV (zn Gs i))(hi:i<Gs.length)(hj:j<8)(u:Value)(hu:u=.int .u64 (zC ((zn Gs i).1.set j t))) :
  ((Gs.flatMap yR).set (i*9) u).set (i*9+1+j) (.int .u32 (s:Int))=(yD Gs i j t s).flatMap yR:=by
 subst hu;have:=zeS (t:=t) (s:=s) h hi hj
 rwa [Xp,show i*9+(j+1)=i*9+1+j by omega]at this
end
section
open Go.RowKit Go.Shelf
attribute [local go_sem] Oper.semAt_some
theorem Ye{w:World}{p:Nat}{a:Option Addr}{n c:Nat}(hc:w.cell? ⟨p,0,none⟩=some (.slice a n c))(hn:0<n)(hn2:n≤1048576) :
  Calls prog 240 #[.pointer (some ⟨p,0,none⟩)] w fun e w'=>e=.returned (.bool false)∧w=w':=by
 have h0:((n:Int)==0)=false:=by simp;omega
 have wn:IntKind.i64.wrap (n:Int)=n:=zt _ (by omega);go_enter func240,ntmps240;go_wp2;go_ret;exact⟨rfl,rfl⟩
def xO(c:Grp):Nat:=c.1.findIdx (fun x=>decide (128≤x))
def kK(Gs:List Grp)(tag slot:Nat):List Nat→Option (List Grp)
 | []=>none
 | i::r=>if xO (zn Gs i)=8 then kK Gs tag slot r else some (yD Gs i (xO (zn Gs i)) tag slot)
def vK(Gs:List Grp)(sum slot:Nat):Option (List Grp):=kK Gs (sum%128) slot (xS (sum/128) Gs.length)
theorem Ug{Gs:List Grp}{tag slot:Nat} : ∀(pre post:List Nat),(∀ k∈pre,xO (zn Gs k)=8)→kK Gs tag slot (pre++post)=kK Gs tag slot post
 | [],_,_=>rfl
 | k::pre,post,h=>by
  simp only[List.cons_append,kK];rw[zk (h k (by simp)),Ug pre post (fun k' h'=>h k' (by simp[h']))]
theorem JE{l:List Nat}(h:j8 l){j:Nat}(hj:l.findIdx (fun x=>decide (128≤x))=j)(hj8:j<8):l[j]? = some 128∨l[j]? = some 254:=by
 have hlt:l.findIdx (fun x=>decide (128≤x))<l.length:=by rw[hj,h.1];exact hj8
 have h1:=List.findIdx_getElem (w:=hlt);subst hj;have h2:=h.2 _ (List.getElem_mem hlt);rw[zL hlt];have h3:=of_decide_eq_true h1;rcases h2 with h2 | h2 | h2
 ·omega
 ·exact .inl (by rw[h2])
 ·exact .inr (by rw[h2])
structure InS(w:World)(D:Nat→Prop)(p:Nat)(sv:Value)(Gs:List Grp)(sum slot:Nat)(b:Nat)(W:World):Prop where
 pu:zc w W
 wb:w.heap.size≤b
 h3:W.heap[b]? = some (.cells #[.pointer (some ⟨p,0,none⟩)] 201 (0,0))
 h4:W.heap[b+1]? = some (.cells #[.int .u64 sum] 27 (0,0))
 h5:W.heap[b+1+1]? = some (.cells #[.int .u32 slot] 143 (0,0))
 h6:W.heap[b+1+1+1]? = some (.cells #[.int .i64 0] 24 (0,0))
 ix:yk W D p sv Gs
section
variable{w:World}{D:Nat→Prop}{p:Nat}{sv:Value}{Gs:List Grp}{sum slot:Nat}{b:Nat}
theorem InS.pure{A B:World}(h:InS w D p sv Gs sum slot b A)(hq:zc A B):InS w D p sv Gs sum slot b B :=
 ⟨h.pu.trans hq,h.wb,hq.heap (fun h=>h) h.h3,hq.heap (fun h=>h) h.h4,hq.heap (fun h=>h) h.h5,hq.heap (fun h=>h) h.h6,h.ix.pure hq⟩
theorem InS.quiet{N:Nat}(hN:w.heap.size≤N){A B:World}(h:InS w D p sv Gs sum slot b A)(hq:zB N A B):InS w D p sv Gs sum slot b B :=
 ⟨hq.mod h.pu hN,h.wb,hq.cells h.h3,hq.cells h.h4,hq.cells h.h5,hq.cells h.h6,h.ix.quiet hq⟩
theorem InS.new(h:yk w D p sv Gs) :
  InS w D p sv Gs sum slot w.heap.size ((((w.alloc (.cells #[.pointer (some ⟨p,0,none⟩)] 201)).alloc (.cells #[.int .u64 sum] 27)).alloc (.cells #[.int .u32 slot] 143)).alloc (.cells #[.int .i64 0] 24)):=by
 have hp:zc w ((((w.alloc (.cells #[.pointer (some ⟨p,0,none⟩)] 201)).alloc (.cells #[.int .u64 sum] 27)).alloc (.cells #[.int .u32 slot] 143)).alloc (.cells #[.int .i64 0] 24)):=by(repeat'(first | (with_reducible exact Mod.refl _ _) | (with_reducible refine Mod.alloc ?_ _) | (with_reducible refine Mod.drew ?_) | (with_reducible refine Mod.drewN ?_ _) | (with_reducible refine Mod.setCell ?_ ?_ _) | (refine Mod.then ?_ (by with_reducible assumption) ?_)))
 refine⟨hp,zI _,?_,?_,?_,?_,h.pure hp⟩
 ·exact zG (zG (zG (zj rfl)))
 ·exact zG (zG (zj (by simp)))
 ·exact zG (zj (by simp))
 ·exact zj (by simp)
structure InO(w:World)(D:Nat→Prop)(p:Nat)(sv:Value)(Gs:List Grp)(sum slot:Nat)(b:Nat)(B1 B2 B3 N:Nat)(pre:List Nat)(W:World):Prop where
 fs:InS w D p sv Gs sum slot b W
 it:ut W B1 B2 B3 (sum/128) Gs.length
 fl : ∀ k∈pre,xO (zn Gs k)=8
 sz:N≤W.heap.size
theorem InO.quiet{B1 B2 B3 M N:Nat}(hN:w.heap.size≤N){pre:List Nat}{X Y:World}(h:InO w D p sv Gs sum slot b B1 B2 B3 M pre X)(hq:zB N X Y):InO w D p sv Gs sum slot b B1 B2 B3 M pre Y :=
 ⟨h.fs.quiet hN hq,⟨hq.cells h.it.many,hq.cells h.it.part,hq.cells h.it.grps⟩,h.fl,zH h.sz (Mod.size hq)⟩
def InR(w:World)(D:Nat→Prop)(p:Nat)(sv:Value)(Gs:List Grp)(sum slot:Nat)(b:Nat)(W:World):Prop :=
 ∃ Gs',vK Gs sum slot=some Gs'∧Mod D w W∧w.heap.size≤b∧W.heap[b+1+1+1]? = some (.cells #[.int .i64 0] 24 (0,0))∧yk W D p sv Gs'
theorem InR.quiet{N:Nat}(hN:w.heap.size≤N){X Y:World}(h:InR w D p sv Gs sum slot b X)(hq:zB N X Y):InR w D p sv Gs sum slot b Y:=by
 obtain⟨Gs',h1,h2,h3,h4,h5⟩:=h;exact⟨Gs',h1,hq.mod h2 hN,h3,hq.cells h4,h5.quiet hq⟩
theorem zbS{W2 Wx W3 W4:World}{B c i j tag z:Nat}{t1:Int}(h:InS w D p (.slice (some ⟨B,0,none⟩) Gs.length c) Gs sum slot b W2)(hx:Mod (fun k=>k=p) W2 Wx)
  (hbx:Wx.heap[p]? = some (.cells #[.slice (some ⟨B,0,none⟩) Gs.length c,.int .i64 (zD Gs),.int .i64 t1] 351 (0,0)))
  (hi:i<Gs.length) (hj:j<8) (ht1:t1=yj (yD Gs i j tag slot)) (htag:tag<128) (hsl:slot≤4294967295) (hz:zC ((zn Gs i).1.set j tag)=z) (hu:zD (yD Gs i j tag slot)=zD Gs+1)
  (h3:Mod (fun k=>k=B) Wx W3) (h3r:W3.ownsRow 0 354 9 (.slice (some ⟨B,0,none⟩) Gs.length c) Gs.length (((Gs.flatMap yR).set (i*9) (.int .u64 z)).set (i*9+1+j) (.int .u32 slot)))
  (hW4:(W3.setCell ⟨p,1,none⟩ (.int .i64 ((zD Gs:Int)+1))).setCell ⟨b+1+1+1,0,none⟩ (.int .i64 0)=W4) :
  yk W4 D p (.slice (some ⟨B,0,none⟩) Gs.length c) (yD Gs i j tag slot)∧Mod D w W4∧W4.heap[b+1+1+1]? = some (.cells #[.int .i64 0] 24 (0,0))∧Mod (fun k=>k=p∨k=B∨k=b+1+1+1) W2 W4:=by
 subst hW4;have nB : ∀(k:Nat) (cs:Array Value) (T:TypeId),W2.heap[k]? = some (.cells cs T (0,0))→T≠354→k≠B:=fun k cs T hk hT e=>by
  obtain⟨cc,e2⟩:=yc h.ix.row (g:=B) rfl;rw[e,e2]at hk;cases hk;exact hT rfl
 have hpB:=nB _ _ _ h.ix.box (by decide);have h6B:=nB _ _ _ h.h6 (by decide);have h6p:b+1+1+1≠p:=fun e=>by have:=h.h6;rw[e,h.ix.box]at this;cases this
 have hDp:D p:=(h.ix.dd p).2 (.inl rfl);have hDB:D B:=(h.ix.dd B).2 (.inr rfl);have hm4:Mod (fun k=>k=p∨k=b+1+1+1) W3 ((W3.setCell ⟨p,1,none⟩ (.int .i64 ((zD Gs:Int)+1))).setCell ⟨b+1+1+1,0,none⟩ (.int .i64 0)) :=
  ((Mod.refl _ W3).setCell (p:=⟨p,1,none⟩) (fun _ => .inl rfl) _).setCell (p:=⟨b+1+1+1,0,none⟩) (fun _ => .inr rfl) _
 have hall:Mod (fun k=>k=p∨k=B∨k=b+1+1+1) W2 ((W3.setCell ⟨p,1,none⟩ (.int .i64 ((zD Gs:Int)+1))).setCell ⟨b+1+1+1,0,none⟩ (.int .i64 0)) :=
  ((hx.mono (fun k _ e => .inl e):Mod (fun k=>k=p∨k=B∨k=b+1+1+1) W2 Wx).then h3 (fun k _ e => .inr (.inl e))).then hm4 (fun k _ e=>e.elim .inl (fun e => .inr (.inr e)))
 have hb3:=h3.heap hpB hbx;refine⟨⟨?_,?_,h.ix.dd,h.ix.ok.put (.inl htag) hsl⟩,?_,?_,hall⟩
 ·rw[hu,← ht1];refine xm ?_ (fun e=>h6p e.symm);have:=zW (j:=1) (v := .int .i64 ((zD Gs:Int)+1)) hb3;simpa using this
 ·rw[jS,← Q3 (t:=tag) (s:=slot) (h.ix.ok.at hi) hi hj (.int .u64 z) (by rw[hz])];exact zy h3r hm4 (fun g hg e=>by
   have:B=g:=by simpa[Value.ownBlock]using hg
   subst this;rcases e with e | e
   ·exact hpB e.symm
   ·exact h6B e.symm)
 ·have hwb:=h.wb;refine(Mod.of_pure h.pu:Mod D w W2).then hall (fun k hk e => ?_);rcases e with rfl | rfl | rfl
  ·exact hDp
  ·exact hDB
  ·omega
 ·exact zW (j:=0) (xm (h3.heap h6B (hx.heap h6p h.h6)) h6p)
end
def Yl(w:World)(D:Nat→Prop)(p:Nat)(sv:Value)(Gs:List Grp)(sum slot:Nat)(e:Ending)(w':World):Prop :=
 match vK Gs sum slot with
 | some Gs'=>e=.returned (.int .i64 0)∧yk w' D p sv Gs'∧Mod D w w'
 | none=>e=.returned (.int .i64 7)∧yk w' D p sv Gs∧Mod D w w'
theorem Azrrc {P:Prop}(h:P:=by
 (refine iSt 8 (fun K hK => ?_);go_simp;(refine(yB.2 (zset.out _)).mono ?_;rintro e w' ⟨rfl,rfl⟩);refine hK _ _ ?_;clear hK K)
 (refine iTk 9 ?_)
 (refine iTk 10 ?_)
 (refine iTk 11 ?_)
 (refine iTk 12 ?_)
 (refine iTk 13 ?_)
 (refine iSt 14 (fun K hK => ?_);go_simp;skip;refine hK _ _ ?_;clear hK K)
 refine wpAnyIn_done (by kernel_rfl) ?_ _
 gi_wp2_with fail
 refine Met.intro (hJc _ _ ?_)
 repeat apply Exists.intro
 exact⟨rfl,rfl⟩):P:=h
theorem Az75b {P:Prop}(h:P:=by
 (refine iSt 7 (fun K hK => ?_);go_simp;(refine(yB.2 (ztag.out _)).mono ?_;rintro e w' ⟨rfl,rfl⟩);refine hK _ _ ?_;clear hK K)
 exact Azrrc):P:=h
theorem Azq9e {P:Prop}(h:P:=by
 have np : ∀ {k:Nat} {cs:Array Value} {T:TypeId},W2.heap[k]? = some (.cells cs T (0,0))→T≠351→k≠p:=fun hk hT e=>by
   have:=HI.out.fs.ix.box;rw[e,this]at hk;cases hk;exact hT rfl
 have z4:=HX.out.heap (np HI.out.fs.h4 (by decide)) HI.out.fs.h4;have hrx:=zy HI.out.fs.ix.row HX.out (fun g hg e=>by
   obtain⟨cc,e2⟩:=yc HI.out.fs.ix.row hg;rw[e,HI.out.fs.ix.box]at e2;cases e2)
 obtain⟨B2,c2,hsv2,_,hBx,hcx,hfx,_⟩:=uO hrx HG.out.pos
 cases hsv2
 have zgx:Wx.cell? ⟨B,i*9,none⟩=some (.int .u64 (zC (zn Gs i).1)):=by
   have:=uW yR 9 qW 0 (by omega) Gs i;rw[uj hil]at this;exact hcx _ _ this
 have HRX:=za hrx;clear hcx hrx;obtain⟨z4_0,z4_f,z4_l,H_z4⟩:=cr1 z4;clear z4
 gi_cut []from 57 (fun wc=>wc=Wx.drew.drew.setCell ⟨B,i*9,none⟩ (.int .u64 z))
 case first =>
   rename_i Jc Kc hJc hKc;refine XK (by kernel_rfl) (by kernel_rfl) ?_
   (refine iTk 0 ?_)
   (refine iTk 1 ?_)
   (refine iTk 2 ?_)
   (refine iTk 3 ?_)
   (refine iTk 5 ?_)
   refine wpAnyIn_ready (rs:=[4,6]) (by kernel_rfl) (by simp) ?_;refine AllReadyIn.cons rfl (fun K hK => ?_) (AllReadyIn.cons rfl (fun K hK => ?_) AllReadyIn.nil)
   · go_simp
     refine hK _ _ ?_;clear hK K
     (refine iSt 6 (fun K hK => ?_);go_simp;skip;refine hK _ _ ?_;clear hK K)
     exact Az75b
   · go_simp
     refine hK _ _ ?_;clear hK K;refine wpAnyIn_ready (rs:=[4,7]) (by kernel_rfl) (by simp) ?_;refine AllReadyIn.cons rfl (fun K hK => ?_) (AllReadyIn.cons rfl (fun K hK => ?_) AllReadyIn.nil)
     · go_simp
       refine hK _ _ ?_;clear hK K;exact Az75b
     · go_simp
       refine(yB.2 (ztag.out _)).mono ?_;rintro e w' ⟨rfl,rfl⟩;refine hK _ _ ?_;clear hK K
       (refine iSt 4 (fun K hK => ?_);go_simp;skip;refine hK _ _ ?_;clear hK K)
       exact Azrrc
 case rest =>
   subst hcut;have hm1:Mod (fun k=>k=B) Wx (Wx.drew.drew.setCell ⟨B,i*9,none⟩ (.int .u64 z)):=Mod.of_drew (Mod.of_drew (Mod.set1 B (i*9) _));have nB : ∀ {k:Nat} {cs:Array Value} {T:TypeId},W2.heap[k]? = some (.cells cs T (0,0))→T≠354→k≠B:=fun hk hT e=>by
     obtain⟨cc,e2⟩:=yc HI.out.fs.ix.row (g:=B) rfl;rw[e,e2]at hk;cases hk;exact hT rfl
   have z5:=hm1.heap (nB HI.out.fs.h5 (by decide)) (HX.out.heap (np HI.out.fs.h5 (by decide)) HI.out.fs.h5);have hr1:(Wx.drew.drew.setCell ⟨B,i*9,none⟩ (.int .u64 z)).ownsRow 0 354 9 (.slice (some ⟨B,0,none⟩) Gs.length c) Gs.length ((Gs.flatMap yR).set (i*9) (.int .u64 z)) :=
     uR (zy HRX.out (Mod.drew (Mod.drew (Mod.refl (fun _=>False) Wx))) (fun _ _ h=>h)) (i*9) (.int .u64 z) (by omega)
   obtain⟨B3',c3,hsv3,_,hB3',hc3,hf3,_⟩:=uO hr1 HG.out.pos
   cases hsv3
   have hl9:i*9+1+j<((Gs.flatMap yR).set (i*9) (.int .u64 z)).length:=by rw[hr1.1];omega
   have zs0 : ∃ u,(Wx.drew.drew.setCell ⟨B,i*9,none⟩ (.int .u64 z)).cell? ⟨B,i*9+1+j,none⟩=some u:=⟨_,hc3 _ _ (zL hl9)⟩;obtain⟨u0,zs⟩:=zs0;clear hc3 hl9;have HR1:=za hr1;have HM1:=za hm1;clear z4_0 z4_f z4_l;clear H_z4 hm1 hr1 zgx hfx;generalize Wx.drew.drew.setCell ⟨B,i*9,none⟩ (.int .u64 z)=W5 at *;obtain⟨z5_0,z5_f,z5_l,H_z5⟩:=cr1 z5;clear z5;gi_upto_region 12 with fail
   gi_cut []from 71 (fun wc=>wc=W5.drew.setCell ⟨B,i*9+1+j,none⟩ (.int .u32 slot))
   case first =>
     rename_i Jc Kc hJc hKc;refine XK (by kernel_rfl) (by kernel_rfl) ?_
     (refine iTk 0 ?_)
     (refine iTk 1 ?_)
     (refine iTk 3 ?_)
     (refine iTk 4 ?_)
     (refine iSt 2 (fun K hK => ?_);go_simp;skip;refine hK _ _ ?_;clear hK K)
     (refine iTk 5 ?_)
     (refine iSt 6 (fun K hK => ?_);go_simp;skip;refine hK _ _ ?_;clear hK K)
     refine wpAnyIn_done (by kernel_rfl) ?_ _
     gi_wp2_with fail
     refine Met.intro (hJc _ _ ?_)
     repeat apply Exists.intro
     exact⟨rfl,rfl⟩
   case rest =>
     subst hcut;have hm2:Mod (fun k=>k=B) Wx (W5.drew.setCell ⟨B,i*9+1+j,none⟩ (.int .u32 slot)):=HM1.out.trans (Mod.of_drew (Mod.set1 B (i*9+1+j) _));have hr2:=uR (zy HR1.out (Mod.drew (Mod.refl (fun _=>False) W5)) (fun _ _ h=>h)) (i*9+1+j) (.int .u32 slot) (by omega);have z3:=hm2.heap (nB HI.out.fs.h3 (by decide)) (HX.out.heap (np HI.out.fs.h3 (by decide)) HI.out.fs.h3);have zp:=hm2.heap (nB HI.out.fs.ix.box (by decide)) HBX.out;have z6:=hm2.heap (nB HI.out.fs.h6 (by decide)) (HX.out.heap (np HI.out.fs.h6 (by decide)) HI.out.fs.h6);have HE:=za (zbS HI.out.fs HX.out HBX.out hil hj8 ht1.out htl hslot hz hu1 hm2 hr2 rfl);clear z5_0 z5_f z5_l;clear H_z5 hm2 hr2 zs hf3;generalize W5.drew.setCell ⟨B,i*9+1+j,none⟩ (.int .u32 slot)=W6 at *;obtain⟨z3_0,z3_f,z3_l,H_z3⟩:=cr1 z3;clear z3;obtain⟨zp_0,zp_1,zp_2,zp_f,zp_l,H_zp⟩:=cr3 zp;clear zp;obtain⟨z6_0,z6_f,z6_l,H_z6⟩:=cr1 z6;clear z6;have wu:IntKind.i64.wrap ((zD Gs:Int)+1)=(zD Gs:Int)+1:=zt _ (by omega);gi_wp2;obtain⟨E1,E2,E3,E4⟩:=HE.out;refine⟨xl.of_mod E4 (fun k _ hk o ho => ?_),rfl,_,?_,E2,HI.out.fs.wb,E3,E1⟩
     · rcases hk with e | e | e
       · rw[e,HI.out.fs.ix.box]at ho;cases ho;rfl
       · obtain⟨cc,e2⟩:=yc HI.out.fs.ix.row (g:=B) rfl
         rw[e,e2]at ho;cases ho;rfl
       · rw[e,HI.out.fs.h6]at ho;cases ho;rfl
     · unfold vK
       rw[hpart,HPO.out,Ug pre (i::post) HI.out.fl,htg];simp only[kK];rw[zh (by rw[hj];omega),hj]):P:=h
theorem zdh{w:World}{D:Nat→Prop}{p:Nat}{sv:Value}{Gs:List Grp}(h:yk w D p sv Gs)(sum slot:Nat)(hsum:sum<18446744073709551616)(hslot:slot≤4294967295) :
    Calls prog 255 #[.pointer (some ⟨p,0,none⟩),.int .u64 sum,.int .u32 slot] w (Yl w D p sv Gs sum slot):=by
  have hlp:p<w.heap.size:=zm h.box;obtain⟨B,c,rfl,hc,hB,hDB,hBf,hcells⟩:=h.at;have hfs:=InS.new (sum:=sum) (slot:=slot) h;have HF:=za hfs;have HC:=za hcells;clear hfs hcells hBf hc
  (refine(yB (n:=0)).1 (callsIn_of_wp_marks func255 rfl trivial (vy.2 ?_) rfl);simp only[ntmps255,List.size_toArray,List.length_cons,List.length_nil,Nat.reduceAdd,Nat.reduceSub,Array.replicate_succ,Array.replicate_zero,List.push_toArray,List.append_toArray,List.nil_append,List.cons_append])
  go_upto_region 1 with fail
  generalize(((w.alloc (.cells #[.pointer (some ⟨p,0,none⟩)] 201)).alloc (.cells #[.int .u64 sum] 27)).alloc (.cells #[.int .u32 slot] 143)).alloc (.cells #[.int .i64 0] 24)=W1 at HF ⊢;have hws:=HF.out.wb;generalize w.heap.size=b at HF ⊢;have z3:=HF.out.h3;have z4:=HF.out.h4;have zp:=HF.out.ix.box;obtain⟨z3_0,z3_f,z3_l,H_z3⟩:=cr1 z3;clear z3;obtain⟨z4_0,z4_f,z4_l,H_z4⟩:=cr1 z4;clear z4;obtain⟨zp_0,zp_1,zp_2,zp_f,zp_l,H_zp⟩:=cr3 zp;clear zp;have HG:=za HF.out.ix.ok.pow;have wg:IntKind.i64.wrap (Gs.length:Int)=Gs.length:=zt _ (by have:=HG.out.le;omega);have HZ:=za (fun W (hW:W.cell? ⟨p,0,none⟩=_)=>Ye (w:=W) (c:=c) (a:=some ⟨B,0,none⟩) hW HG.out.pos HG.out.le);have HPart:=za (fun W=>za9 sum W hsum);have HAll:=za (fun W=>za4 (sum/128) Gs.length W HG.out);obtain⟨part,hpart⟩:=zf (sum/128);rw[hpart]at HPart HAll;go_upto_region 3 with(go_at_call 240;refine(HZ.out _ zp_0).mono ?_;rintro e w' ⟨rfl,rfl⟩)
  go_region_held3 (fun w'=>w'.cell? ⟨b,0,none⟩=some (.pointer (some ⟨p,0,none⟩))∧w'.cell? ⟨b+1,0,none⟩=some (.int .u64 sum)∧w'.cell? ⟨p,0,none⟩=some (.slice (some ⟨B,0,none⟩) Gs.length c))
    (first | go_keep | exact⟨hp2.cell (fun h=>h) z3_0,hp2.cell (fun h=>h) z4_0,hp2.cell (fun h=>h) zp_0⟩)
    (first
      | (go_at_call 290;(with_reducible refine(HPart.out _).mono ?_);rintro e w' ⟨rfl,rfl⟩)
      | (go_at_call 289;(with_reducible refine(HAll.out _).mono ?_);rintro e w2 ⟨B1,B2,B3,rfl,hit,hp2,hB1,hB2,hB3⟩))
  have hpw:zc W1 w2:=hp2.of_drew;have hfo:InO w D p (.slice (some ⟨B,0,none⟩) Gs.length c) Gs sum slot b B1 B2 B3 w2.heap.size [] w2:=by
    refine⟨HF.out.pure hpw,by rw[hpart];exact hit,by simp,zI _⟩
  have hItlt : ∀ k,qN B1 B2 B3 k→k<w2.heap.size:=by
    exact Azwe9
  have hw2:w.heap.size≤w2.heap.size:=zH HF.out.pu.size hpw.size;have hpl:part<144115188075855872:=by omega
  have HO:=za hfo;clear z3_0 z3_f z3_l;clear z4_0 z4_f z4_l;clear zp_0 zp_1 zp_2 zp_f zp_l;clear H_z3 H_z4 H_zp HF hfo HPart HAll HZ hp2 hpw hB1 hB2 hB3;go_wp2;refine vy.1 (XV (gf:=333) (lb:=#[.pointer (some ⟨B1,0,none⟩),.pointer (some ⟨B2,0,none⟩),.pointer (some ⟨B3,0,none⟩)]) rfl (enters_of func333 (by kernel_rfl) rfl) (It:=qN B1 B2 B3) (zbg hit HG.out hpl) hItlt (fun _=>rfl)
    (fun pre W=>InO w D p (.slice (some ⟨B,0,none⟩) Gs.length c) Gs sum slot b B1 B2 B3 w2.heap.size pre W) (fun cd _ W=>cd=.ret∧InR w D p (.slice (some ⟨B,0,none⟩) Gs.length c) Gs sum slot b W) ?hI ?hIx HO.out ?round ?done ?stop)
  case hI=>exact fun pre X Y h hq=>h.quiet hw2 hq
  case hIx=>exact fun cd pre X Y h hq=>⟨h.1,h.2.quiet hw2 hq⟩
  case stop =>
    rintro l cd pre W hl ⟨rfl,h1⟩ hK;obtain⟨Gs',g1,g2,g3,g4,g5⟩:=h1.quiet hw2 (zB.putObj (.deferred none) hl hK rfl);have y6:=zi _ _ 0 _ _ _ g4;simp at y6;refine vy.2 ?_;go_wp2;exact jy (v := .int .i64 0) hK (by simp[results,results255,go_sem,y6]) (by unfold Yl;rw[g1];exact⟨rfl,g5,g2⟩)
  case done =>
    rintro l xs W hl hS hI hK;have hS':xs=xS part Gs.length:=hS;have hn:vK Gs sum slot=none:=by
      unfold vK;rw[hpart,← hS'];have:=Ug (Gs:=Gs) (tag:=sum%128) (slot:=slot) xs [] hI.fl;rw[jb]at this;exact this
    have z6:=hI.fs.h6;have HI:=za hI;have hwb:=hI.fs.wb;clear hI HO hit hItlt;obtain⟨z6_0,z6_f,z6_l,H_z6⟩:=cr1 z6;clear z6;go_wp2;have hm:Mod (fun k=>k=b+1+1+1) W (W.setCell ⟨b+1+1+1,0,none⟩ (.int .i64 7)):=Mod.set1 _ _ _;have hk:=hm.heap (by intro e;subst e;rw[H_z6.out]at hK;cases hK) hK;have hq:zB w2.heap.size _ _:=zB.putObj (.deferred none) hl hk rfl;have y6:=zi _ _ 0 _ _ _ (hq.cells (zW (j:=0) (v := .int .i64 7) H_z6.out));simp at y6;refine jy (v := .int .i64 7) hk (by simp[results,results255,go_sem,y6]) ?_;unfold Yl;rw[hn];refine⟨rfl,(HI.out.fs.ix.mod hm (fun k hk e => ?_)).quiet hq,hq.mod (Mod.mono ((Mod.of_pure HI.out.fs.pu).then hm (fun i hi e=>by omega):Mod (fun _=>False) w _) (fun _ _ h=>h.elim)) hw2⟩;subst e;rcases(HI.out.fs.ix.dd _).1 hk with e | e
    · rw[e,HI.out.fs.ix.box]at H_z6;cases H_z6.out
    · obtain⟨cc,e2⟩:=yc HI.out.fs.ix.row e
      rw[e2]at H_z6;cases H_z6.out
  case round =>
    rintro l pre i W K hI hG hK;obtain⟨post,hpost⟩:=hG;have hil:i<Gs.length:=by
      exact Azazb
    dsimp only[qE];have HI:=za hI;have HK:=za hK;have HPO:=za hpost;clear hI hK HO hit hpost;gi_wp2;refine HK.out _ _ (Mod.refl _ _) (fun l' W2 hl hr hq => ?_);replace HI:=za (HI.out.quiet hw2 hq);clear HK hq W hr;have z3:=HI.out.fs.h3;have zp:=HI.out.fs.ix.box;obtain⟨z3_0,z3_f,z3_l,H_z3⟩:=cr1 z3;clear z3;obtain⟨zp_0,zp_1,zp_2,zp_f,zp_l,H_zp⟩:=cr3 zp;clear zp;have hi0:(0:Int)≤i:=by omega
    have hi1:(i:Int)<Gs.length:=by omega
    have hgl:=HG.out.le;obtain⟨B',c',hsv,_,hB',hDB',hBf',hcells'⟩:=HI.out.fs.ix.at
    cases hsv
    have zg:=(hcells' i hil).1;have hgo:=za (HI.out.fs.ix.ok.at hil);have hff:xO (zn Gs i)=jq (zJ ((zn Gs i).1.map (fun x=>decide (128≤x)))):=by
      rw[zdS (by rw[yn];exact hgo.out.ctl.1)];unfold xO;rw[List.findIdx_map]
      rfl
    have hml:zJ ((zn Gs i).1.map (fun x=>decide (128≤x)))<256:=jp (by rw[yn];exact hgo.out.ctl.1);have zfr:=za (fun W=>zbV hgo.out.ctl W);have zfi:=za (fun W=>zae _ W hml);have hfl:=zgt _ hml;rw[← hff]at zfi hfl;have HFF:=za hff;clear hcells' hff hml;generalize zJ ((zn Gs i).1.map (fun x=>decide (128≤x)))=m at *;obtain⟨j,hj⟩:=zf (xO (zn Gs i));rw[hj]at zfi hfl;by_cases h8:j=8
    · subst h8
      gi_wp2_with (first
        | (gi_at_call 306;refine ki (CallsIn.inRound l' (yB.2 (zfr.out _))) ?_;rintro e w' ⟨rfl,rfl⟩)
        | (gi_at_call 305;refine ki (CallsIn.inRound l' (yB.2 (zfi.out _))) ?_;rintro e w' ⟨rfl,rfl⟩))
      refine⟨fun _ _ _ h _=>h,⟨zI _,fun _ _ _=>rfl⟩,⟨HI.out.fs,HI.out.it,?_,HI.out.sz⟩⟩;intro k hk;rcases yz.1 hk with hk | hk
      · exact HI.out.fl k hk
      · have:k=i:=by simpa using hk
        rw[this];exact hj
    · have hj8:j<8:=by omega
      have hj0:(0:Int)≤j:=by omega
      have hj1:(j:Int)<8:=by omega
      have hj2:(j:Int)≤8:=by omega
      have hjn:((j:Int)==8)=false:=by simp;omega
      have hbit:=za2 (p:=(zn Gs i).1.map (· == 128)) (by rw[yn];exact hgo.out.ctl.1) j hj8;have hmz:zJ ((zn Gs i).1.map (· == 128))<256:=jp (by rw[yn];exact hgo.out.ctl.1);have hcj:=JE hgo.out.ctl hj hj8;have zem:=za (fun W=>XP hgo.out.ctl.bytes W);have hgd:((zn Gs i).1.map (· == 128)).getD j false=decide ((zn Gs i).1[j]? = some 128):=by
        rw[ua,yC];rcases hcj with e | e<;>simp[e]
      rw[hgd]at hbit;generalize zJ ((zn Gs i).1.map (· == 128))=me at *;have hme:me/2 ^ j<256:=jB (Y0 _ _) hmz;have hb1:=Jz _ 1 hme (by omega);rw[hbit]at hb1;rw[Int.natCast_ediv,Int.natCast_pow]at hb1;have hus:=HI.out.fs.ix.ok.used_le;have htm:=HI.out.fs.ix.ok.tomb_le;obtain⟨tag,htg⟩:=zf (sum%128);have htl:tag<128:=by omega
      have ztag:=za (fun W=>zcW sum W hsum);rw[htg]at ztag;have zset:=za (fun W=>zld hgo.out.ctl j tag W hj8 htl);obtain⟨z,hz⟩:=zf (zC ((zn Gs i).1.set j tag));rw[hz]at zset;have hu0:=fun a ha=>Uv (Gs:=Gs) (i:=i) (j:=j) (t:=tag) (s:=slot) (a:=a) hil ha
      have ht0:=fun a ha=>Vf (Gs:=Gs) (i:=i) (j:=j) (t:=tag) (s:=slot) (a:=a) hil ha
      have htd:(decide (tag<128)).toNat=1:=by simp[htl]
      have hte0:(tag==254)=false:=by simp;omega
      have hte:(tag==254).toNat=0:=by rw[hte0];rfl
      rw[htd]at hu0;rw[hte]at ht0;rcases hcj with hcj | hcj
      · have hb2:bits .and .u8 ((me:Int)/2 ^ j) 1=1:=by simpa[hcj]using hb1
        gi_upto_region 11 with(first
          | (gi_at_call 306;refine ki (CallsIn.inRound l' (yB.2 (zfr.out _))) ?_;rintro e w' ⟨rfl,rfl⟩)
          | (gi_at_call 305;refine ki (CallsIn.inRound l' (yB.2 (zfi.out _))) ?_;rintro e w' ⟨rfl,rfl⟩)
          | (gi_at_call 277;refine ki (CallsIn.inRound l' (yB.2 (zem.out _))) ?_;rintro e w' ⟨rfl,rfl⟩))
        have hu1:zD (yD Gs i j tag slot)=zD Gs+1:=by simpa using hu0 128 hcj
        have ht2:yj (yD Gs i j tag slot)=yj Gs:=by simpa using ht0 128 hcj
        clear z3_0 z3_f z3_l;clear zp_0 zp_1 zp_2 zp_f zp_l;clear H_z3 H_zp zg;obtain⟨Wx,hWx⟩ : ∃ Wx,Wx=W2:=⟨_,rfl⟩;have HX:Hid (Mod (fun k=>k=p) W2 Wx):=hWx ▸ Mod.refl _ W2;have HBX:Hid (Wx.heap[p]? = _):=hWx ▸ HI.out.fs.ix.box;have ht1:Hid ((yj Gs:Int)=yj (yD Gs i j tag slot)):=by show((yj Gs:Int)=yj (yD Gs i j tag slot));rw[ht2]
        clear ht2;rw[← hWx];clear hWx;exact Azq9e
      · have hb2:bits .and .u8 ((me:Int)/2 ^ j) 1=0:=by simpa[hcj]using hb1
        gi_upto_region 11 with(first
          | (gi_at_call 306;refine ki (CallsIn.inRound l' (yB.2 (zfr.out _))) ?_;rintro e w' ⟨rfl,rfl⟩)
          | (gi_at_call 305;refine ki (CallsIn.inRound l' (yB.2 (zfi.out _))) ?_;rintro e w' ⟨rfl,rfl⟩)
          | (gi_at_call 277;refine ki (CallsIn.inRound l' (yB.2 (zem.out _))) ?_;rintro e w' ⟨rfl,rfl⟩))
        have hu1:zD (yD Gs i j tag slot)=zD Gs+1:=by simpa using hu0 254 hcj
        have ht2:yj (yD Gs i j tag slot)+1=yj Gs:=by simpa using ht0 254 hcj
        have HX:Hid (Mod (fun k=>k=p) W2 (W2.setCell ⟨p,2,none⟩ (.int .i64 ((yj Gs:Int)-1)))):=Mod.set1 _ _ _;have hbx0:=zW (j:=2) (v := .int .i64 ((yj Gs:Int)-1)) HI.out.fs.ix.box;simp at hbx0;have HBX:=za hbx0;clear hbx0;have ht1:Hid ((yj Gs:Int)-1=yj (yD Gs i j tag slot)):=by show((yj Gs:Int)-1=yj (yD Gs i j tag slot));omega
        clear ht2;clear z3_0 z3_f z3_l;clear zp_0 zp_1 zp_2 zp_f zp_l;clear H_z3 H_zp zg;generalize W2.setCell ⟨p,2,none⟩ (.int .i64 ((yj Gs:Int)-1))=Wx at *;exact Azq9e
end
section
open Go.RowKit Go.Shelf
theorem Az2qq {P:Prop}(h:P:=by
 go_wp2_with (go_at_call 240;refine(HZ.out zp_0).mono ?_;rintro e w' ⟨rfl,rfl⟩)
 go_ret;exact⟨rfl,rfl⟩):P:=h
theorem zaj{w:World}{D:Nat→Prop}{p:Nat}{sv:Value}{Gs:List Grp}(h:yk w D p sv Gs):Calls prog 218 #[.pointer (some ⟨p,0,none⟩)] w fun e w'=>e=.returned (.int .i64 (zD Gs))∧w=w':=by
 obtain⟨B,c,rfl,hc,hB,hDB,hBf,hcells⟩:=h.at;have zp:=h.box;have HZ:=za (fun(hW:w.cell? ⟨p,0,none⟩=_)=>Ye (w:=w) (c:=c) (a:=some ⟨B,0,none⟩) hW h.ok.pow.pos h.ok.pow.le);clear hcells h;obtain⟨zp_0,zp_1,zp_2,zp_f,zp_l,H_zp⟩:=cr3 zp;clear zp;go_enter func218,ntmps218;exact Az2qq
theorem JQ{w:World}{D:Nat→Prop}{p:Nat}{sv:Value}{Gs:List Grp}(h:yk w D p sv Gs):Calls prog 207 #[.pointer (some ⟨p,0,none⟩)] w fun e w'=>e=.returned (.int .i64 (yj Gs))∧w=w':=by
 obtain⟨B,c,rfl,hc,hB,hDB,hBf,hcells⟩:=h.at;have zp:=h.box;have HZ:=za (fun(hW:w.cell? ⟨p,0,none⟩=_)=>Ye (w:=w) (c:=c) (a:=some ⟨B,0,none⟩) hW h.ok.pow.pos h.ok.pow.le);clear hcells h;obtain⟨zp_0,zp_1,zp_2,zp_f,zp_l,H_zp⟩:=cr3 zp;clear zp;go_enter func207,ntmps207;exact Az2qq
theorem Jl{w:World}{D:Nat→Prop}{p:Nat}{sv:Value}{Gs:List Grp}(h:yk w D p sv Gs):Calls prog 206 #[.pointer (some ⟨p,0,none⟩)] w fun e w'=>e=.returned (.int .i64 Gs.length)∧w=w':=by
 obtain⟨B,c,rfl,hc,hB,hDB,hBf,hcells⟩:=h.at;have zp:=h.box;have HZ:=za (fun(hW:w.cell? ⟨p,0,none⟩=_)=>Ye (w:=w) (c:=c) (a:=some ⟨B,0,none⟩) hW h.ok.pow.pos h.ok.pow.le);have wg:IntKind.i64.wrap (Gs.length:Int)=Gs.length:=zt _ (by have:=h.ok.pow.le;omega);clear hcells h;obtain⟨zp_0,zp_1,zp_2,zp_f,zp_l,H_zp⟩:=cr3 zp;clear zp;go_enter func206,ntmps206;exact Az2qq
theorem zkY{w:World}{B0 x:Nat}(hb:w.heap[B0]? = some (.cells #[.int .u32 x] 143 (0,0)))(s:Nat)(hs:s≤4294967295)(hx:x≤4294967295) :
  Calls prog 275 #[.int .u32 s,.pointer (some ⟨B0,0,none⟩)] w fun e w'=>e=.returned (.bool (s==x))∧w=w':=by
 obtain⟨hb_0,hb_f,hb_l,H_hb⟩:=cr1 hb;clear hb;have hs0:(s:Int)≤4294967295:=by omega
 have hx0:(x:Int)≤4294967295:=by omega
 have e:((s:Int)==(x:Int))=(s==x):=by rw[Bool.eq_iff_iff];simp;omega
 go_enter func275,ntmps275;go_wp2;go_ret;exact⟨rfl,rfl⟩
theorem zee{gf B0:Nat}{g:Nat→Bool}{w:World}{cs:Array Value}{T:TypeId}(he : ∀ args w,(callFunc gf args).run prog w=.ok (.enter gf args) w)(hB:B0<w.heap.size)
  (hb:w.heap[B0]? = some (.cells cs T (0,0)))
  (hc : ∀(W:World) (s:Nat),s≤4294967295→W.heap[B0]? = some (.cells cs T (0,0))→Calls prog gf #[.int .u32 s,.pointer (some ⟨B0,0,none⟩)] W fun e w'=>e=.returned (.bool (g s))∧W=w') :
  uw prog gf #[.pointer (some ⟨B0,0,none⟩)] (fun _ s=>g s) (fun _=>False) (fun _ W=>W.heap[B0]? = some (.cells cs T (0,0))) w :=
 ⟨he,fun pre s W hs hJ=>(yB.2 (hc W s hs hJ)).mono (fun e w' ⟨h1,h2⟩=>by subst h2;exact⟨h1,hJ,xj.refl _ _⟩),fun pre A B hJ hm=>hm.heap (fun hk=>by have:=hk.1;omega) hJ,fun _ h=>h.elim,hb⟩
def ui(Gs:List Grp)(sum:Nat)(g:Nat→Bool):Option (Nat × Nat):=(xC Gs sum).find? (fun x=>g (zT Gs x))
def Vb(w:World)(D:Nat→Prop)(p:Nat)(sv:Value)(Gs:List Grp)(sum:Nat)(g:Nat→Bool)(B:Nat)(e:Ending)(w':World):Prop :=
 zc w w'∧yk w' D p sv Gs ∧
 match ui Gs sum g with
 | some x=>x.1<Gs.length∧x.2<8∧x∈xC Gs sum∧g (zT Gs x)=true∧e=.returned (.tuple #[.pointer (some ⟨B,x.1*9,none⟩),.int .i64 x.2,.int .i64 0])
 | none=>e=.returned (.tuple #[.pointer none,.int .i64 0,.int .i64 9])
theorem VR{g:Nat→Bool}{xs:List Nat}(h:ko (fun _ s=>g s) xs) : ∀ x∈xs,g x=false:=fun x hx=>by
 obtain⟨a,c,rfl⟩:=List.append_of_mem hx;exact h a x c rfl
theorem zhT{w w':World}{D:Nat→Prop}{p:Nat}{sv:Value}{Gs:List Grp}{sum:Nat}{g:Nat→Bool}{J:List Nat→World→Prop}{B:Nat}{e:Ending}(h:KJ w D p sv Gs sum (fun _ s=>g s) (fun _=>False) J B e w'):Vb w D p sv Gs sum g B e w':=by
 obtain⟨h1,h2,h3⟩:=h;refine⟨Mod.mono h1 (fun k _ ⟨_,_,_,_,hf⟩=>hf),h2,?_⟩;rcases h3 with⟨a,x,post,hs,hf,hg,hi,hj,he,_⟩ | ⟨hf,he,_⟩
 ·have:ui Gs sum g=some x:=by
   unfold ui;rw[hs,List.find?_append,qm.2 (fun y hy=>by
    have:=VR hf (zT Gs y) (zz.2 ⟨y,hy,rfl⟩);simp[this])]
   simp[hg]
  rw[this];exact⟨hi,hj,by rw[hs];simp,hg,he⟩
 ·have:ui Gs sum g=none:=by
   unfold ui;exact qm.2 (fun y hy=>by
    have:=VR hf (zT Gs y) (zz.2 ⟨y,hy,rfl⟩);simp[this])
  rw[this];exact he
def ja:Grp:=([128,128,128,128,128,128,128,128],[0,0,0,0,0,0,0,0])
def jO:Grp:=([0,0,0,0,0,0,0,0],[0,0,0,0,0,0,0,0])
def xr(g:Nat):List Grp:=List.replicate g ja
theorem zku:xV ja:=⟨⟨rfl,by decide⟩,rfl,by decide⟩
theorem Uw(g:Nat):(xr g).length=g:=vx
theorem zaT{g:Nat}(hg:Pow g):xz (xr g):=⟨by rw[Uw];exact hg,fun c hc=>by rw[(List.mem_replicate.1 hc).2];exact zku⟩
theorem VH(g:Nat):zD (xr g)=0:=by
 unfold zD xr;rw[List.map_replicate,show ja.1.countP (· < 128)=0 from by decide];simp
theorem zaP(g:Nat):yj (xr g)=0:=by
 unfold yj xr;rw[List.map_replicate,show ja.1.countP (· == 254)=0 from by decide];simp
def kq(g i:Nat):List Grp:=List.replicate i ja++List.replicate (g-i) jO
theorem zge{g i:Nat}(h:i≤g):(kq g i).length=g:=by unfold kq;simp;omega
theorem zkx(g:Nat):kq g g=xr g:=by unfold kq xr;simp
theorem zgi(g:Nat):(madeCells #[.int .u64 0,.int .u32 0,.int .u32 0,.int .u32 0,.int .u32 0,.int .u32 0,.int .u32 0,.int .u32 0,.int .u32 0] (g*9)).toList=(kq g 0).flatMap yR:=by
 have e:yR jO=[.int .u64 0,.int .u32 0,.int .u32 0,.int .u32 0,.int .u32 0,.int .u32 0,.int .u32 0,.int .u32 0,.int .u32 0]:=rfl;unfold madeCells kq;simp only[List.replicate_zero,List.nil_append,Nat.sub_zero];apply uv;intro k;by_cases hk:k<g*9
 ·have h1:=uW yR 9 qW (k%9) (by omega) (List.replicate g jO) (k/9);rw[show k/9*9+k%9=k by omega]at h1;have h2:(List.replicate g jO)[k/9]? = some jO:=by rw[vX,zk (by omega)]
  rw[h2]at h1;rw[h1]
  show _=(yR jO)[k%9]?
  rw[e];rw[zL (by simpa using hk)];simp;have:k%9<9:=vp _ (by decide);generalize k%9=r at *;have:r=0∨r=1∨r=2∨r=3∨r=4∨r=5∨r=6∨r=7∨r=8:=by omega
  rcases this with rfl | rfl | rfl | rfl | rfl | rfl | rfl | rfl | rfl<;>rfl
 ·rw[xK (by simpa using hk),xK];have : ∀ r∈(List.replicate g jO),(yR r).length=9:=fun r _=>qW r
  rw[List.length_flatMap,uu this];simp;omega
theorem Q8{g i:Nat}(h:i<g):((kq g i).flatMap yR).set (i*9) (.int .u64 (zC [128,128,128,128,128,128,128,128]))=(kq g (i+1)).flatMap yR:=by
 have e1:kq g i=List.replicate i ja++jO::List.replicate (g-(i+1)) jO:=by
  unfold kq;rw[show g-i=g-(i+1)+1 by omega,Yf]
 have e2:kq g (i+1)=List.replicate i ja++ja::List.replicate (g-(i+1)) jO:=by
  unfold kq;rw[List.replicate_succ',vM];rfl
 rw[e1,e2,ZL,ZL,qJ,qJ];have hl:((List.replicate i ja).flatMap yR).length=i*9:=by
  rw[List.length_flatMap,uu (fun r _=>qW r)];simp
 rw[Xy _ _ (by omega),hl,YJ]
 rfl
theorem zhn:(prog.info? 354).map (fun i=>(i.zero,i.size,i.bytes))=some (some (.agg #[.int .u64 0,.int .u32 0,.int .u32 0,.int .u32 0,.int .u32 0,.int .u32 0,.int .u32 0,.int .u32 0,.int .u32 0]),9,40):=by kernel_rfl
def zdI(w:World)(g:Nat)(e:Ending)(w':World):Prop :=
 ∃ p sv,e=.returned (.tuple #[.pointer (some ⟨p,0,none⟩),.int .i64 0])∧yk w' (fun k=>k=p∨sv.ownBlock=some k) p sv (xr g)∧zc w w'∧w.heap.size≤p ∧ ∀ k,sv.ownBlock=some k→w.heap.size≤k
structure Uh(w:World)(g p i:Nat)(W:World):Prop where
 pu:zc w W
 box:W.heap[p]? = some (.cells #[.slice (some ⟨w.heap.size,0,none⟩) g g,.int .i64 0,.int .i64 0] 351 (0,0))
 row:W.ownsRow 0 354 9 (.slice (some ⟨w.heap.size,0,none⟩) g g) g ((kq g i).flatMap yR)
 wp:w.heap.size≤p
theorem Uh.step{w:World}{g p i:Nat}{W W' W'':World}(h:Uh w g p i W)(hi:i<g)(hp:p≠w.heap.size)(hW:zc W W')(e:W'.setCell ⟨w.heap.size,i*9,none⟩ (.int .u64 (zC [128,128,128,128,128,128,128,128]:Nat))=W''):Uh w g p (i+1) W'':=by
 subst e;have hm:Mod (fun k=>k=w.heap.size) W' (W'.setCell ⟨w.heap.size,i*9,none⟩ (.int .u64 (zC [128,128,128,128,128,128,128,128]:Nat))):=Mod.set1 _ _ _;refine⟨(h.pu.trans hW).then hm (fun k hk e=>by omega),hm.heap hp (hW.heap (fun h=>h) h.box),?_,h.wp⟩;have:=uR (zy h.row hW (fun _ _ h=>h)) (i*9) (.int .u64 (zC [128,128,128,128,128,128,128,128]:Nat)) (by omega)
 rwa [Q8 hi]at this
theorem zav(g:Nat)(w:World)(hg:Pow g):Calls prog 170 #[.int .i64 g] w (zdI w g):=by
 have hg0:=hg.pos;have hg1:=hg.le;have HV:=za (fun W=>K6 g W hg);have HB:=za (fun W=>zhP W);obtain⟨i0,hi,hz0,hz1,hz2⟩:=xG zhn;go_enter func170,ntmps170;go_upto_region 3 with(go_at_call 236;refine(HV.out _).mono ?_;rintro e w' ⟨rfl,rfl⟩)
 go_upto_region 4 with(at_make;refine wpList_make_full _ rfl _ _ 349 rfl 0 354 i0 _ 9 underlying349 hi hz0 hz1 .i64 .i64 _ _ g rfl rfl rfl rfl (by rw[hz2];omega) (by unfold maxLen;omega) (yi _) ?_;intro w1 hown hgrow)
 have hpw:zc w (w1.alloc (.cells #[.slice (some ⟨w.heap.size,0,none⟩) g g,.int .i64 0,.int .i64 0] 351)):=(Mod.of_grown hgrow (fun k e _=>by cases e)).alloc _;have hown2:=zy hown ((Mod.refl (fun _=>False) w1).alloc (.cells #[.slice (some ⟨w.heap.size,0,none⟩) g g,.int .i64 0,.int .i64 0] 351)) (fun _ _ h=>h);have hbox:(w1.alloc (.cells #[.slice (some ⟨w.heap.size,0,none⟩) g g,.int .i64 0,.int .i64 0] 351)).heap[w1.heap.size]? = some (.cells #[.slice (some ⟨w.heap.size,0,none⟩) g g,.int .i64 0,.int .i64 0] 351 (0,0)):=zj rfl;have hw1:w.heap.size<w1.heap.size:=by
  obtain⟨B',c',hsv,_,hB',_⟩:=uO hown hg0
  cases hsv
  exact hB'
 rw[show(Value.agg #[.int .u64 0,.int .u32 0,.int .u32 0,.int .u32 0,.int .u32 0,.int .u32 0,.int .u32 0,.int .u32 0,.int .u32 0]).cells=#[.int .u64 0,.int .u32 0,.int .u32 0,.int .u32 0,.int .u32 0,.int .u32 0,.int .u32 0,.int .u32 0,.int .u32 0]from rfl,zgi]at hown2;clear hown hgrow hi hz0 hz1 hz2;generalize w1.alloc (.cells #[.slice (some ⟨w.heap.size,0,none⟩) g g,.int .i64 0,.int .i64 0] 351)=W2 at *;have hwp:w.heap.size≤w1.heap.size:=Zk hw1;generalize w1.heap.size=p at *;have zp:=hbox;have HPW:=za hpw;have HO:=za hown2;have HX:=za hbox;clear hpw hown2 hbox;have wg:IntKind.i64.wrap (g:Int)=g:=zt _ (by omega);obtain⟨zp_0,zp_1,zp_2,zp_f,zp_l,H_zp⟩:=cr3 zp;clear zp;go_upto_region 5 with fail
 go_loopw [18] (fun k wr => ∃ i,k=.int .i64 (i:Nat)∧i≤g∧Uh w g p i wr) (fun k _=>g-(intOf k).toNat)
 case atStart=>exact⟨0,rfl,yi _,HPW.out,HX.out,HO.out,hwp⟩
 case round =>
  obtain⟨i,rfl,hi,hinv⟩:=hrel;have zp:=hinv.box;have HI:=za hinv;clear zp_0 zp_1 zp_2 zp_f zp_l;clear H_zp hinv;obtain⟨zp_0,zp_1,zp_2,zp_f,zp_l,H_zp⟩:=cr3 zp;clear zp;by_cases hlt:i<g
  ·have hlt':(i:Int)<(g:Int):=by omega
   have hl:(kq g i).length=g:=zge hi;obtain⟨B',c',hsv,_,hB',hcc,hf',_⟩:=uO HI.out.row hg0
   cases hsv
   have zg0 : ∃ u,wr.cell? ⟨w.heap.size,i*9,none⟩=some u:=by
    have h1:=HI.out.row.1;exact⟨_,hcc (i*9) _ (zL (by rw[h1];omega))⟩
   obtain⟨u0,zg⟩:=zg0;have HS:=za (Q8 hlt);clear hcc;go_upto_region 7 with fail
   go_region_law ((go_simp;go_at_call 237;refine(HB.out _).mono ?_;rintro e w' ⟨rfl,rfl⟩))
   all_goals
    have hst:=HI.out.step hlt (by omega) (Mod.refl (fun _=>False) wr).drew rfl;have HST:=za hst;clear hst;go_wp2;go_roundw
    case rel=>exact⟨i+1,by go_num,by omega,HST.out⟩
    case measure=>simp[intOf];omega
  ·have hlt':(g:Int)≤(i:Int):=by omega
   have e:i=g:=by omega
   subst e;go_wp2;exact zN (v := .tuple #[.pointer (some ⟨p,0,none⟩),.int .i64 0]) (by simp[results,results170,go_sem]) rfl
    ⟨p,.slice (some ⟨w.heap.size,0,none⟩) i i,rfl,⟨by rw[VH,zaP];exact HI.out.box,by rw[Uw,← zkx];exact HI.out.row,fun k=>vP,zaT hg⟩,HI.out.pu,HI.out.wp,fun k hk=>by simp[Value.ownBlock]at hk;omega⟩
theorem zco(i:Nat):2*(i*(i+1)/2)=i*(i+1):=by
 rcases Nat.mod_two_eq_zero_or_one i with h | h
 ·have:i*(i+1)%2=0:=by simp[Nat.mul_mod,h]
  omega
 ·have:i*(i+1)%2=0:=by simp[Nat.mul_mod,Nat.add_mod,h]
  omega
theorem zhm{a i i':Nat}(h:i'+i+1=2*a):i'*(i'+1)/2+a*(2*i+1)=2*(a*a)+i*(i+1)/2:=by
 have h1:=zco i;have h2:=zco i';have e1:2*(a*(2*i+1))=(i'+i+1)*(2*i+1):=by rw[h,Nat.mul_assoc]
 have e2:2*(2*(a*a))=(i'+i+1)*(i'+i+1):=by rw[h];simp only[Nat.mul_assoc,Nat.mul_left_comm]
 have c:i'*i=i*i':=Nat.mul_comm _ _;simp only[Nat.mul_add,Nat.add_mul,Nat.mul_one,Nat.one_mul]at *;have c1:i'*(2*i)=2*(i*i'):=by rw[Nat.mul_left_comm,c]
 have c2:i*(2*i)=2*(i*i):=by rw[Nat.mul_left_comm]
 omega
theorem zaZ(part:Nat) : ∀(k t:Nat),t<2 ^ k → ∃ i,i<2 ^ k∧(part+i*(i+1)/2)%2 ^ k=t
 | 0,t,h=>⟨0,by decide,by simp at h;subst h;simp[Nat.mod_one]⟩
 | k+1,t,h=>by
  obtain⟨i,hi,e⟩:=zaZ part k (t%2 ^ k) (vp _ (Nat.pow_pos (by decide)));have hp:2 ^ (k+1)=2 ^ k*2:=Zn 2 k;have hf := @zhm (2 ^ k) i (2*2 ^ k-1-i) (by omega);generalize 2 ^ k=a at *;rw[hp]at h ⊢;have hm:(part+i*(i+1)/2)%(a*2)=t∨(part+i*(i+1)/2)%(a*2)+a=t∨(part+i*(i+1)/2)%(a*2)=t+a:=by
   have h1:=Nat.mod_mul_right_mod (part+i*(i+1)/2) a 2;rw[e]at h1;have h2:(part+i*(i+1)/2)%(a*2)<a*2:=vp _ (by omega);generalize(part+i*(i+1)/2)%(a*2)=y at *;have hy:y=y%a∨y=y%a+a:=by
    by_cases c:y<a
    ·left;rw[xY c]
    ·right;rw[Nat.mod_eq_sub_mod (by omega),xY (by omega)];omega
   have ht:t=t%a∨t=t%a+a:=by
    by_cases c:t<a
    ·left;rw[xY c]
    ·right;rw[Nat.mod_eq_sub_mod (by omega),xY (by omega)];omega
   omega
  by_cases hd:(part+i*(i+1)/2)%(a*2)=t
  ·exact⟨i,by omega,hd⟩
  ·refine⟨2*a-1-i,by omega,?_⟩;generalize(2*a-1-i)*(2*a-1-i+1)/2=u at *;have hz:(part+i*(i+1)/2)%(a*2)+a=t∨(part+i*(i+1)/2)%(a*2)=t+a:=by
    rcases hm with h | h | h
    ·exact absurd h hd
    ·exact .inl h
    ·exact .inr h
   generalize hT:i*(i+1)/2=T at *
   -- part + u + a*(2i+1) = part + T + 2a*a
   have h3:part+u+a+(a*2)*i=part+T+(a*2)*a:=by
    have e1:a*(2*i+1)=a*2*i+a:=by rw[Nat.mul_add,jW,Nat.mul_assoc]
    have e2:a*2*a=2*(a*a):=by rw[Nat.mul_comm a 2,Nat.mul_assoc]
    omega
   have h4:(part+u+a)%(a*2)=(part+T)%(a*2):=by
    have:=congrArg (· % (a*2)) h3;simpa[Nat.add_mul_mod_self_left]using this
   have h5:=Nat.div_add_mod (part+u) (a*2);have h6:(part+u)%(a*2)<a*2:=vp _ (by omega);generalize(part+u)%(a*2)=v at *;rw[← h5,Nat.add_assoc,Nat.mul_add_mod_self_left]at h4;generalize(part+T)%(a*2)=y at *;by_cases c:v+a<a*2
   ·rw[xY c]at h4;omega
   ·rw[Nat.mod_eq_sub_mod (by omega),xY (by omega)]at h4;omega
theorem zeO{g:Nat}(hg:Pow g)(part:Nat){i:Nat}(hi:i<g):i∈xS part g:=by
 obtain⟨k,_,rfl⟩:=hg;obtain⟨n,hn,e⟩:=zaZ part k i hi;exact zz.2 ⟨n,ZZ.2 hn,e⟩
theorem XX{g:Nat}(hg:0<g)(part:Nat){i:Nat}(hi:i∈xS part g):i<g:=by
 obtain⟨n,_,rfl⟩:=zz.1 hi;exact vp _ hg
structure vQ(Gs:List Grp)(i j t s:Nat):Prop where
 hi:i<Gs.length
 hj:j<8
 tag:(zn Gs i).1[j]? = some t
 full:t<128
 slot:zT Gs (i,j)=s
theorem za8{c:Grp}(h:xV c)(tag j:Nat):j∈k9 c tag↔j<8∧c.1[j]? = some tag:=by
 unfold k9;rw[JL (by simp[h.ctl.1])];simp only[List.mem_filter,List.mem_range,List.getD_eq_getElem?_getD,List.getElem?_map]
 cases c.1[j]? <;> simp
theorem zaU{Gs:List Grp}{tag:Nat} : ∀ {L:List Nat} {x:Nat × Nat},x∈jk Gs tag L→x.1∈L∧x.2∈k9 (zn Gs x.1) tag
 | [],_,h=>by simp[jk]at h
 | i::r,x,h=>by
  simp only[jk,List.mem_append,List.mem_map]at h;rcases h with⟨j,hj,rfl⟩ | h
  ·exact⟨by simp,hj⟩
  ·split at h
   ·simp at h
   ·have:=zaU h;exact⟨by simp[this.1],this.2⟩
theorem Ve{Gs:List Grp}(h:xz Gs){sum:Nat}{x:Nat × Nat}(hx:x∈xC Gs sum):vQ Gs x.1 x.2 (sum%128) (zT Gs x):=by
 obtain⟨h1,h2⟩:=zaU hx;have hi:=XX h.pow.pos _ h1;obtain⟨h3,h4⟩:=(za8 (h.at hi) _ _).1 h2;exact⟨hi,h3,h4,vp _ (by decide),rfl⟩
theorem zdH{Gs:List Grp}(h:xz Gs){sum i j s:Nat}(hf:vQ Gs i j (sum%128) s){pre post:List Nat}(hp:xS (sum/128) Gs.length=pre++i::post)(hb : ∀ k∈pre,vS (zn Gs k)=false):(i,j)∈xC Gs sum:=by
 unfold xC;rw[hp,Ui pre i post hb];simp only[List.mem_append,List.mem_map];exact .inr (.inl ⟨j,(za8 (h.at hf.hi) _ _).2 ⟨hf.hj,hf.tag⟩,rfl⟩)
structure yG(H:Nat→Nat)(S:Nat→Prop)(Gs:List Grp):Prop where
 ok:xz Gs
 tag : ∀ i j t s,vQ Gs i j t s→t=H s%128
 reach : ∀ i j t s,vQ Gs i j t s → ∃ pre post,xS (H s/128) Gs.length=pre++i::post ∧ ∀ k∈pre,vS (zn Gs k)=false
 uniq : ∀ i j t i' j' t' s,vQ Gs i j t s→vQ Gs i' j' t' s→i=i'∧j=j'
 mem : ∀ s,S s ↔ ∃ i j t,vQ Gs i j t s
theorem yG.of_iff{H:Nat→Nat}{S S':Nat→Prop}{Gs:List Grp}(h:yG H S Gs)(hs : ∀ s,S s↔S' s):yG H S' Gs :=
 ⟨h.ok,h.tag,h.reach,h.uniq,fun s=>(hs s).symm.trans (h.mem s)⟩
section
variable{H:Nat→Nat}{S:Nat→Prop}{Gs:List Grp}
theorem yG.find_none(h:yG H S Gs){s:Nat}(hs : ¬ S s):ui Gs (H s) (fun x=>x==s)=none:=by
 unfold ui;refine qm.2 (fun x hx => ?_);intro e;have e':zT Gs x=s:=by simpa using e
 exact hs ((h.mem s).2 ⟨_,_,_,e' ▸ Ve h.ok hx⟩)
theorem yG.find_some(h:yG H S Gs){s:Nat}(hs:S s) : ∃ i j,ui Gs (H s) (fun x=>x==s)=some (i,j)∧vQ Gs i j (H s%128) s:=by
 obtain⟨i,j,t,hf⟩:=(h.mem s).1 hs;have ht:=h.tag _ _ _ _ hf;subst ht;obtain⟨pre,post,hp,hb⟩:=h.reach _ _ _ _ hf;have hm:=zdH h.ok hf hp hb;unfold ui
 cases hc:(xC Gs (H s)).find? (fun x=>zT Gs x==s)with
 | none =>
  have:=qm.1 hc _ hm;rw[hf.slot]at this;simp at this
 | some x =>
  have h1:=Vv hc;have h2:=Ve h.ok (Zx hc);have h3:zT Gs x=s:=by simpa using h1
  exact⟨x.1,x.2,rfl,h3 ▸ h2⟩
theorem zb1{i j t s:Nat}(hi:i<Gs.length)(hg:xV (zn Gs i))(hj:j<8)(i' j' t' s':Nat) :
  vQ (yD Gs i j t s) i' j' t' s'↔(i'=i∧j'=j∧t'=t∧t<128∧s'=s)∨(¬ (i'=i∧j'=j)∧vQ Gs i' j' t' s'):=by
 have hl1:j<(zn Gs i).1.length:=by rw[hg.ctl.1];exact hj
 have hl2:j<(zn Gs i).2.length:=by rw[hg.len];exact hj
 constructor
 ·rintro⟨h1,h2,h3,h4,h5⟩;rw[jS]at h1;unfold zT at h5;rw[Y5 hi]at h3 h5;dsimp only at h5;by_cases e:i'=i
  ·rw[zk e]at h3 h5;unfold uz at h3 h5;dsimp only at h3 h5;by_cases ej:j'=j
   ·subst ej;rw[yv hl1]at h3;rw[ua,yv hl2]at h5
    cases h3
    exact .inl ⟨e,rfl,rfl,h4,by simpa using h5.symm⟩
   ·rw[yy (fun c=>ej c.symm)]at h3;rw[ua,yy (fun c=>ej c.symm)]at h5;refine .inr ⟨fun c=>ej c.2,⟨h1,h2,by rw[e];exact h3,h4,?_⟩⟩;unfold zT;dsimp only;rw[e,ua];exact h5
  ·rw[zh e]at h3 h5;exact .inr ⟨fun c=>e c.1,⟨h1,h2,h3,h4,h5⟩⟩
 ·rintro(⟨rfl,rfl,rfl,h4,rfl⟩ | ⟨hn,h1,h2,h3,h4,h5⟩)
  ·refine⟨by rw[jS];exact hi,hj,?_,h4,?_⟩
   ·rw[Y5 hi,zk rfl];exact yv hl1
   ·unfold zT;dsimp only;rw[Y5 hi,zk rfl,ua];unfold uz;dsimp only;rw[yv hl2]
    rfl
  ·refine⟨by rw[jS];exact h1,h2,?_,h4,?_⟩
   ·rw[Y5 hi];by_cases e:i'=i
    ·rw[zk e];unfold uz;dsimp only;rw[yy (fun c=>hn ⟨e,c.symm⟩),← e];exact h3
    ·rw[zh e];exact h3
   ·unfold zT at h5 ⊢;dsimp only at h5 ⊢;rw[Y5 hi];by_cases e:i'=i
    ·rw[zk e];unfold uz;dsimp only;rw[ua,yy (fun c=>hn ⟨e,c.symm⟩),← e,← ua];exact h5
    ·rw[zh e];exact h5
theorem zca{i j t s k:Nat}(hi:i<Gs.length)(ht:t=128→vS (zn Gs i)=true)(hb:vS (zn Gs k)=false):vS (zn (yD Gs i j t s) k)=false:=by
 rw[Y5 hi];by_cases e:k=i
 ·subst e;rw[zk rfl];unfold vS uz at *;dsimp only;rw[List.any_eq_false]at hb ⊢;intro x hx;rcases jI hx with h | rfl
  ·exact hb x h
  ·intro c;have:=ht (by simpa using c);rw[List.any_eq_true]at this;obtain⟨y,hy,hy2⟩:=this;exact hb y hy hy2
 ·rw[zh e];exact hb
theorem KN{tag slot:Nat} : ∀ {L:List Nat} {Gs':List Grp},kK Gs tag slot L=some Gs' →
  ∃ pre i post,L=pre++i::post∧(∀ k∈pre,xO (zn Gs k)=8)∧xO (zn Gs i)≠8∧Gs'=yD Gs i (xO (zn Gs i)) tag slot
 | [],_,h=>by simp[kK]at h
 | i::r,Gs',h=>by
  unfold kK at h;by_cases e:xO (zn Gs i)=8
  ·rw[zk e]at h;obtain⟨pre,i',post,rfl,h2,h3,h4⟩:=KN h;exact⟨i::pre,i',post,rfl,fun k hk=>by
    rcases zO.1 hk with rfl | hk
    ·exact e
    ·exact h2 k hk,h3,h4⟩
  ·rw[zh e]at h
   cases h
   exact⟨[],i,r,rfl,by simp,e,rfl⟩
theorem zas{tag slot:Nat} : ∀ {L:List Nat},kK Gs tag slot L=none ↔ ∀ k∈L,xO (zn Gs k)=8
 | []=>by simp[kK]
 | i::r=>by
  unfold kK;by_cases e:xO (zn Gs i)=8
  ·rw[zk e,zas];simp[e]
  ·rw[zh e];simp[e]
theorem zbi{c:Grp}(h:xV c)(hf:xO c≠8):xO c<8:=by
 have:xO c≤c.1.length:=List.findIdx_le_length;rw[h.ctl.1]at this;omega
theorem JC{c:Grp}(h:xV c):xO c=8 ↔ ∀ x∈c.1,x<128:=by
 unfold xO;rw[← h.ctl.1,List.findIdx_eq_length];simp
theorem zjK{c:Grp}(h:xV c)(hf:xO c=8):vS c=false:=by
 unfold vS;rw[List.any_eq_false];intro x hx;have:=(JC h).1 hf x hx;simp;omega
theorem Jy{sum slot:Nat}{Gs':List Grp}(h:xz Gs)(hs:slot≤4294967295)(he:vK Gs sum slot=some Gs'):zD Gs'=zD Gs+1∧Gs'.length=Gs.length∧xz Gs'∧yj Gs'≤yj Gs:=by
 obtain⟨pre,i,post,hp,hpre,hf,rfl⟩:=KN he;have hi:i<Gs.length:=XX h.pow.pos (sum/128) (by rw[hp];simp);have hg:=h.at hi;have hj:=zbi hg hf;have h128:=JE hg.ctl rfl hj;have ht:sum%128<128:=vp _ (by decide);refine⟨?_,jS ..,h.put (.inl ht) hs,?_⟩
 ·unfold xO;rcases h128 with e | e
  ·simpa[ht]using Uv (t:=sum%128) (s:=slot) hi e
  ·simpa[ht]using Uv (t:=sum%128) (s:=slot) hi e
 ·have n254:(sum%128==254)=false:=by simp;omega
  rcases h128 with e | e
  ·have:=Vf (t:=sum%128) (s:=slot) hi e;rw[n254]at this;simp at this;unfold xO at *;omega
  ·have:=Vf (t:=sum%128) (s:=slot) hi e;rw[n254]at this;simp at this;unfold xO at *;omega
theorem yG.ins(h:yG H S Gs){s:Nat}(hs:s≤4294967295)(hn : ¬ S s){Gs':List Grp}(he:vK Gs (H s) s=some Gs'):yG H (fun x=>x=s∨S x) Gs':=by
 have hok:=(Jy h.ok hs he).2.2.1;obtain⟨pre,i,post,hp,hpre,hf,rfl⟩:=KN he;have hi:i<Gs.length:=XX h.ok.pow.pos (H s/128) (by rw[hp];simp);have hg:=h.ok.at hi;have hj:=zbi hg hf;have ht:H s%128<128:=vp _ (by decide);have hfull:=fun i' j' t' s'=>zb1 (t:=H s%128) (s:=s) hi hg hj i' j' t' s'
 have hbl:=fun k=>zca (j:=xO (zn Gs i)) (t:=H s%128) (s:=s) (k:=k) hi (fun c=>by omega)
 have hpr : ∀ k∈pre,vS (zn Gs k)=false:=fun k hk=>zjK (h.ok.at (XX h.ok.pow.pos (H s/128) (by rw[hp];simp[hk]))) (hpre k hk)
 refine⟨hok,?_,?_,?_,?_⟩
 ·intro i' j' t' s' hF;rcases(hfull _ _ _ _).1 hF with⟨_,_,rfl,_,rfl⟩ | ⟨_,hF⟩
  ·rfl
  ·exact h.tag _ _ _ _ hF
 ·intro i' j' t' s' hF;rw[jS];rcases(hfull _ _ _ _).1 hF with⟨rfl,_,rfl,_,rfl⟩ | ⟨_,hF⟩
  ·exact⟨pre,post,hp,fun k hk=>hbl k (hpr k hk)⟩
  ·obtain⟨pre',post',h1,h2⟩:=h.reach _ _ _ _ hF;exact⟨pre',post',h1,fun k hk=>hbl k (h2 k hk)⟩
 ·intro i1 j1 t1 i2 j2 t2 s' hF1 hF2;rcases(hfull _ _ _ _).1 hF1 with⟨a1,a2,a3,_,a4⟩ | ⟨_,hG1⟩<;>rcases(hfull _ _ _ _).1 hF2 with⟨b1,b2,b3,_,b4⟩ | ⟨_,hG2⟩
  ·exact⟨a1.trans b1.symm,a2.trans b2.symm⟩
  ·exact absurd ((h.mem _).2 ⟨_,_,_,a4 ▸ hG2⟩) hn
  ·exact absurd ((h.mem _).2 ⟨_,_,_,b4 ▸ hG1⟩) hn
  ·exact h.uniq _ _ _ _ _ _ _ hG1 hG2
 ·intro x;constructor
  ·rintro(rfl | hx)
   ·exact⟨_,_,_,(hfull _ _ _ _).2 (.inl ⟨rfl,rfl,rfl,ht,rfl⟩)⟩
   ·obtain⟨i',j',t',hF⟩:=(h.mem x).1 hx;refine⟨i',j',t',(hfull _ _ _ _).2 (.inr ⟨?_,hF⟩)⟩;rintro⟨rfl,rfl⟩;have h128:=JE hg.ctl rfl hj;have:=hF.full;rcases h128 with e | e
    ·have:=hF.tag;unfold xO at this;rw[e]at this;cases this;omega
    ·have:=hF.tag;unfold xO at this;rw[e]at this;cases this;omega
  ·rintro⟨i',j',t',hF⟩;rcases(hfull _ _ _ _).1 hF with⟨_,_,_,_,rfl⟩ | ⟨_,hF⟩
   ·exact .inl rfl
   ·exact .inr ((h.mem _).2 ⟨_,_,_,hF⟩)
def vU(Gs:List Grp)(i j:Nat):List Grp:=yD Gs i j (yL (zn Gs i).1) 0
theorem zeD{l:List Nat}(h:yL l=128):l.any (· == 128)=true:=by
 unfold yL at h;split at h
 ·assumption
 ·cases h
theorem UC(l:List Nat):yL l=128∨yL l=254:=by unfold yL;split<;>simp
theorem Kd(h:xz Gs){i j t s:Nat}(hf:vQ Gs i j t s):zD (vU Gs i j)+1=zD Gs∧(vU Gs i j).length=Gs.length∧xz (vU Gs i j):=by
 have h1:=Uv (t:=yL (zn Gs i).1) (s:=0) hf.hi hf.tag;have h2:=UC (zn Gs i).1;have h3:decide (yL (zn Gs i).1<128)=false:=by simp;omega
 rw[h3]at h1;refine⟨?_,jS ..,h.put (.inr h2) (by omega)⟩;unfold vU;simpa[hf.full]using h1
theorem yG.del(h:yG H S Gs){i j t s:Nat}(hf:vQ Gs i j t s):yG H (fun x=>x≠s∧S x) (vU Gs i j):=by
 have hok:=(Kd h.ok hf).2.2;have hfull:=fun i' j' t' s'=>zb1 (t:=yL (zn Gs i).1) (s:=0) hf.hi (h.ok.at hf.hi) hf.hj i' j' t' s'
 have hbl:=fun k=>zca (j:=j) (t:=yL (zn Gs i).1) (s:=0) (k:=k) hf.hi (fun c=>zeD c)
 have h2:=UC (zn Gs i).1;have back : ∀ i' j' t' s',vQ (vU Gs i j) i' j' t' s' → ¬ (i'=i∧j'=j)∧vQ Gs i' j' t' s':=fun i' j' t' s' hF=>by
  rcases(hfull _ _ _ _).1 hF with⟨_,_,_,h128,_⟩ | hF
  ·omega
  ·exact hF
 refine⟨hok,fun i' j' t' s' hF=>h.tag _ _ _ _ (back _ _ _ _ hF).2,fun i' j' t' s' hF => ?_,fun i1 j1 t1 i2 j2 t2 s' hF1 hF2=>h.uniq _ _ _ _ _ _ _ (back _ _ _ _ hF1).2 (back _ _ _ _ hF2).2,fun x => ?_⟩
 ·obtain⟨pre',post',h3,h4⟩:=h.reach _ _ _ _ (back _ _ _ _ hF).2;unfold vU;rw[jS];exact⟨pre',post',h3,fun k hk=>hbl k (h4 k hk)⟩
 ·constructor
  ·rintro⟨hx,hS⟩;obtain⟨i',j',t',hF⟩:=(h.mem x).1 hS;refine⟨i',j',t',(hfull _ _ _ _).2 (.inr ⟨?_,hF⟩)⟩;rintro⟨rfl,rfl⟩;have e1:=hF.slot;have e2:=hf.slot;exact hx (e1.symm.trans e2)
  ·rintro⟨i',j',t',hF⟩;obtain⟨hne,hF⟩:=back _ _ _ _ hF;refine⟨?_,(h.mem x).2 ⟨_,_,_,hF⟩⟩;rintro rfl;exact hne (h.uniq _ _ _ _ _ _ _ hF hf)
theorem zbY{p:Nat→Bool} : ∀ {Gs:List Grp},(∀ c∈Gs,xV c)→((Gs.map (fun c=>c.1.countP p)).sum=8*Gs.length ↔ ∀ c∈Gs,∀ x∈c.1,p x=true)
 | [],_=>by simp
 | c::Gs,h=>by
  have h1:=zbY (p:=p) (Gs:=Gs) (fun c hc=>h c (by simp[hc]));have h2:c.1.countP p≤c.1.length:=VV;have h3:=XO p (Gs:=Gs) (fun c hc=>h c (by simp[hc]));have h4:c.1.countP p=c.1.length ↔ ∀ x∈c.1,p x=true:=List.countP_eq_length;rw[(h c (by simp)).ctl.1]at h2 h4;simp only[List.map_cons,List.sum_cons,List.length_cons,List.forall_mem_cons];rw[← h1,← h4];omega
theorem zbv(h:xz Gs)(sum slot:Nat):vK Gs sum slot=none↔zD Gs=8*Gs.length:=by
 unfold vK;rw[zas];unfold zD;rw[zbY h.grp];constructor
 ·intro hk c hc x hx;obtain⟨i,hi⟩:=ur hc;have hl:i<Gs.length:=(zE.1 hi).1;have e:zn Gs i=c:=by have:=uj hl;rw[hi]at this;cases this;rfl
  have:=(JC (h.at hl)).1 (hk i (zeO h.pow _ hl));rw[e]at this;simpa using this x hx
 ·intro hk i hi;have hl:=XX h.pow.pos _ hi;refine(JC (h.at hl)).2 (fun x hx => ?_);simpa using hk _ (yl (uj hl)) x hx
theorem zcM(h:xz Gs):zD Gs≤8*Gs.length:=XO _ h.grp
end
theorem ze0{g i:Nat}(hi:i<g):zn (xr g) i=ja:=by
 unfold zn xr;rw[ua];simp[hi]
theorem UI{g i j t s:Nat} : ¬ vQ (xr g) i j t s:=fun h=>by
 have hi:i<g:=by have:=h.hi;simpa[xr]using this
 have h1:=h.tag;rw[ze0 hi]at h1;have:=yl h1;have h2 : ∀ x∈ja.1,x=128:=by decide
 have:=h2 _ this;have:=h.full;omega
theorem newG_holds(H:Nat→Nat){g:Nat}(hg:Pow g):yG H (fun _=>False) (xr g) :=
 ⟨zaT hg,fun _ _ _ _ h=>absurd h UI,fun _ _ _ _ h=>absurd h UI,fun _ _ _ _ _ _ _ h=>absurd h UI,fun _=>⟨fun h=>h.elim,fun⟨_,_,_,h⟩=>UI h⟩⟩
theorem ze3{w:World}{D:Nat→Prop}{p:Nat}{sv:Value}{Gs:List Grp}(h:yk w D p sv Gs)(sum:Nat)(hsum:sum<18446744073709551616){gf:Nat}{lb:Array Value}{g:Nat→Bool}{J:List Nat→World→Prop}
  (hs:uw prog gf lb (fun _ s=>g s) (fun _=>False) J w) {B c:Nat} (hsv:sv=.slice (some ⟨B,0,none⟩) Gs.length c) :
  Calls prog 241 #[.pointer (some ⟨p,0,none⟩),.int .u64 sum,.func (.func gf) #[] lb] w (Vb w D p sv Gs sum g B) :=
 (zcH h sum hsum hs).mono (fun e w' ⟨B',c',e1,hp⟩=>by
  rw[hsv]at e1
  cases e1
  exact zhT hp)
theorem zkk{W2 W3 W5:World}{D:Nat→Prop}{p B c i j t s:Nat}{Gs:List Grp}{n' t':Int}(h:yk W2 D p (.slice (some ⟨B,0,none⟩) Gs.length c) Gs)(hi:i<Gs.length)(hj:j<8)
  (ht:t<128∨t=128∨t=254) (hsl:s≤4294967295) (hu:n'=zD (yD Gs i j t s)) (hu2:t'=yj (yD Gs i j t s)) (h3:Mod (fun k=>k=B) W2 W3)
  (h3r:W3.ownsRow 0 354 9 (.slice (some ⟨B,0,none⟩) Gs.length c) Gs.length (((Gs.flatMap yR).set (i*9) (.int .u64 (zC ((zn Gs i).1.set j t)))).set (i*9+1+j) (.int .u32 s)))
  (h5:Mod (fun k=>k=p) W3 W5) (h5b:W5.heap[p]? = some (.cells #[.slice (some ⟨B,0,none⟩) Gs.length c,.int .i64 n',.int .i64 t'] 351 (0,0))) :
  yk W5 D p (.slice (some ⟨B,0,none⟩) Gs.length c) (yD Gs i j t s)∧Mod D W2 W5:=by
 have hpB:p≠B:=fun e=>by
  obtain⟨cc,e2⟩:=yc h.row (g:=B) rfl;have:=h.box;rw[e,e2]at this;cases this
 refine⟨⟨?_,?_,h.dd,h.ok.put ht hsl⟩,?_⟩
 ·rw[h5b,hu,hu2]
 ·rw[jS,← Q3 (t:=t) (s:=s) (h.ok.at hi) hi hj _ rfl];exact zy h3r h5 (fun g hg e=>by
   have:B=g:=by simpa[Value.ownBlock]using hg
   exact hpB (e.symm.trans this.symm))
 ·exact(h3.mono (fun k _ e=>by subst e;exact(h.dd k).2 (.inr rfl)):Mod D W2 W3).then h5 (fun k _ e=>by subst e;exact(h.dd k).2 (.inl rfl))
def JH(w:World)(D:Nat→Prop)(p:Nat)(sv:Value)(Gs:List Grp)(sum:Nat)(f:List Nat→Nat→Bool)(C:TypeId→Prop)(J:List Nat→World→Prop)(e:Ending)(w':World):Prop :=
  xj C w w'∧yk w' D p sv Gs ∧
  ((∃ a x post,xC Gs sum=a++x::post∧ko f (a.map (zT Gs))∧f (a.map (zT Gs)) (zT Gs x)=true ∧
    e=.returned (.tuple #[.int .u32 (zT Gs x),.int .i64 0])∧J ((a++[x]).map (zT Gs)) w') ∨
   (ko f ((xC Gs sum).map (zT Gs))∧e=.returned (.tuple #[.int .u32 0,.int .i64 9])∧J ((xC Gs sum).map (zT Gs)) w'))
theorem zbc{P:Program}(w:World)(d:Nat)(t:TypeId){ps rs:Array TypeId}{v:Bool}(fn:Fn)(fi ca:Array Value)(h:P.underlying t=some (.func ps rs v)):(Op.equalIn (d+1) t (.func fn fi ca) .nilFunc).run P w=.ok false w:=by
 simp[Op.equalIn,run_underlying h]
@[go_sem] theorem zlJ (w : World) (fn : Fn) (fi ca : Array Value) : (binOp .eql 279 (.func fn fi ca) .nilFunc).run prog w=.ok (.bool false) w := by
 simp only[binOp];simp[Op.equal,Op.maxDepth,zbc w 9999 _ fn fi ca underlying279]
theorem zjf{w:World}{D:Nat→Prop}{p:Nat}{sv:Value}{Gs:List Grp}(h:yk w D p sv Gs)(sum:Nat)(hsum:sum<18446744073709551616){gf:Nat}{lb:Array Value}{f:List Nat→Nat→Bool}{C:TypeId→Prop}{J:List Nat→World→Prop}
  (hs:uw prog gf lb f C J w) :
  Calls prog 174 #[.pointer (some ⟨p,0,none⟩),.int .u64 sum,.func (.func gf) #[] lb] w (JH w D p sv Gs sum f C J):=by
 have HF:=za (zcH h sum hsum hs);obtain⟨B,c,rfl,hc,hB,hDB,hBf,hcells⟩:=h.at;have zp:=h.box;have HZ:=za (fun(hW:w.cell? ⟨p,0,none⟩=_)=>Ye (w:=w) (c:=c) (a:=some ⟨B,0,none⟩) hW h.ok.pow.pos h.ok.pow.le);clear hcells h hs hBf;obtain⟨zp_0,zp_1,zp_2,zp_f,zp_l,H_zp⟩:=cr3 zp;clear zp;go_enter func174,ntmps174;go_upto_region 3 with(go_at_call 240;refine(HZ.out zp_0).mono ?_;rintro e w' ⟨rfl,rfl⟩)
 go_upto_region 5 with fail
 go_upto_region 6 with(go_at_call 241;refine HF.out.mono ?_;rintro e w2 ⟨B',c',hsv,hm,hix,⟨a,x,post,h1,h2,h3,h4,h5,rfl,h7⟩ | ⟨h1,rfl,h7⟩⟩)
 ·obtain⟨B3,c3,hsv3,_,hB3,hDB3,hBf3,hcells3⟩:=hix.at
  cases hsv3
  have zs:=(hcells3 x.1 h4).2 x.2 h5;rw[show x.1*9+(x.2+1)=x.1*9+1+x.2 by omega]at zs;have x0:(0:Int)≤x.2:=by omega
  have x1:(x.2:Int)<8:=by omega
  have HP:=za (And.intro h1 (And.intro h2 (And.intro h3 (And.intro h7 (And.intro hm hix)))));have e6:zT Gs x=(zn Gs x.1).2.getD x.2 0:=rfl;rw[← e6]at zs;clear h1 h2 h3 h7 hcells3 hm hix e6;obtain⟨sx,hsx⟩:=zf (zT Gs x);rw[hsx]at zs;go_wp2;rw[← hsx];exact zN (v := .tuple #[.int .u32 (zT Gs x),.int .i64 0]) (by simp[results,results174,go_sem]) rfl ⟨HP.out.2.2.2.2.1,HP.out.2.2.2.2.2,.inl ⟨a,x,post,HP.out.1,HP.out.2.1,HP.out.2.2.1,rfl,HP.out.2.2.2.1⟩⟩
 ·have HP:=za (And.intro h1 (And.intro h7 (And.intro hm hix)));clear h1 h7 hm hix;go_wp2;exact zN (v := .tuple #[.int .u32 0,.int .i64 9]) (by simp[results,results174,go_sem]) rfl ⟨HP.out.2.2.1,HP.out.2.2.2,.inr ⟨HP.out.1,rfl,HP.out.2.1⟩⟩
theorem zgs{w w':World}{D:Nat→Prop}{p:Nat}{sv:Value}{Gs:List Grp}{sum:Nat}{g:Nat→Bool}{B:Nat}{e:Ending}(h:Vb w D p sv Gs sum g B e w'){i j:Nat}(hf:ui Gs sum g=some (i,j)) :
  e=.returned (.tuple #[.pointer (some ⟨B,i*9,none⟩),.int .i64 j,.int .i64 0])∧zc w w'∧yk w' D p sv Gs∧vQ Gs i j (sum%128) (zT Gs (i,j)):=by
 obtain⟨h1,h2,h3⟩:=h;rw[hf]at h3;exact⟨h3.2.2.2.2,h1,h2,Ve h2.ok h3.2.2.1⟩
theorem zg7{w w':World}{D:Nat→Prop}{p:Nat}{sv:Value}{Gs:List Grp}{sum:Nat}{g:Nat→Bool}{B:Nat}{e:Ending}(h:Vb w D p sv Gs sum g B e w')(hf:ui Gs sum g=none) :
  e=.returned (.tuple #[.pointer none,.int .i64 0,.int .i64 9])∧zc w w'∧yk w' D p sv Gs:=by
 obtain⟨h1,h2,h3⟩:=h;rw[hf]at h3;exact⟨h3,h1,h2⟩
theorem zjJ{Gs:List Grp}(h:xz Gs){i j t s:Nat}(hf:vQ Gs i j t s) :
  (zJ (((zn Gs i).1.set j (yL (zn Gs i).1)).map (· == 128))=0∧yj (yD Gs i j (yL (zn Gs i).1) 0)=yj Gs+1) ∨
  (1≤zJ (((zn Gs i).1.set j (yL (zn Gs i).1)).map (· == 128))∧yj (yD Gs i j (yL (zn Gs i).1) 0)=yj Gs):=by
 have hg:=h.at hf.hi;have h2:=Vf (t:=yL (zn Gs i).1) (s:=0) hf.hi hf.tag;have n254:(t==254)=false:=by simp;have:=hf.full;omega
 rw[n254]at h2;have h3:=Je (p:=((zn Gs i).1.set j (yL (zn Gs i).1)).map (· == 128)) (by simp[hg.ctl.1]);have hlj:j<(zn Gs i).1.length:=by rw[hg.ctl.1];exact hf.hj
 by_cases hb:(zn Gs i).1.any (· == 128)=true
 ·have he:yL (zn Gs i).1=128:=by unfold yL;rw[zk hb]
  rw[he]at h2 h3 ⊢
  right
  refine⟨?_,by simpa using h2⟩;have : ¬ (zJ (((zn Gs i).1.set j 128).map (· == 128))=0):=by
   intro c;rw[c]at h3;have h4:(((zn Gs i).1.set j 128).map (· == 128)).any id=false:=by simpa using h3
   rw[List.any_eq_false]at h4;have hm:(128:Nat)∈(zn Gs i).1.set j 128:=yl (i:=j) (yv hlj);exact h4 true (zz.2 ⟨128,hm,rfl⟩) rfl
  omega
 ·have he:yL (zn Gs i).1=254:=by unfold yL;rw[zh hb]
  rw[he]at h2 h3 ⊢
  left
  refine⟨?_,by simpa using h2⟩;have h5:(((zn Gs i).1.set j 254).map (· == 128)).any id=false:=by
   rw[List.any_eq_false];intro x hx c;obtain⟨y,hy,rfl⟩:=zz.1 hx;rcases jI hy with h6 | rfl
   ·exact hb (List.any_eq_true.2 ⟨y,h6,by simpa using c⟩)
   ·simp at c
  rw[h5]at h3;simpa using h3
def XN(w:World)(D:Nat→Prop)(p:Nat)(sv:Value)(Gs:List Grp)(sum slot:Nat)(e:Ending)(w':World):Prop :=
 match ui Gs sum (fun x=>x==slot)with
 | some x=>e=.returned (.int .i64 0)∧yk w' D p sv (yD Gs x.1 x.2 (yL (zn Gs x.1).1) 0)∧Mod D w w'
 | none=>e=.returned (.int .i64 9)∧yk w' D p sv Gs∧Mod D w w'
theorem zj3{w:World}{D:Nat→Prop}{p:Nat}{sv:Value}{Gs:List Grp}(h:yk w D p sv Gs)(sum slot:Nat)(hsum:sum<18446744073709551616)(hslot:slot≤4294967295) :
  Calls prog 214 #[.pointer (some ⟨p,0,none⟩),.int .u64 sum,.int .u32 slot] w (XN w D p sv Gs sum slot):=by
 have hlp:p<w.heap.size:=zm h.box;obtain⟨B,c,rfl,hc,hB,hDB,hBf,hcells⟩:=h.at;have hp1:zc w (w.alloc (.cells #[.int .u32 slot] 143)):=(Mod.refl _ w).alloc _;have hix:=h.pure hp1;have hbx:=zj (w:=w) (o:=(.cells #[.int .u32 slot] 143 (0,0))) rfl;go_enter func214,ntmps214;go_upto_region 1 with fail
 generalize w.alloc (.cells #[.int .u32 slot] 143)=W1 at *;have hwb:w.heap.size<W1.heap.size:=zm hbx;generalize w.heap.size=b at *;have HF:=za (ze3 hix sum hsum (zee (enters_of func275 (by kernel_rfl) rfl) hwb hbx (fun W s hs hW=>zkY (x:=slot) hW s hs hslot)) rfl);have zp:=hix.box;have HZ:=za (fun(hW:W1.cell? ⟨p,0,none⟩=_)=>Ye (w:=W1) (c:=c) (a:=some ⟨B,0,none⟩) hW h.ok.pow.pos h.ok.pow.le);clear hcells hBf hbx;obtain⟨zp_0,zp_1,zp_2,zp_f,zp_l,H_zp⟩:=cr3 zp;clear zp;go_upto_region 3 with(go_at_call 240;refine(HZ.out zp_0).mono ?_;rintro e w' ⟨rfl,rfl⟩)
 rcases hfm:ui Gs sum (fun x=>x==slot)with _ | ⟨i,j⟩
 ·go_wp2_with (go_at_call 241;refine HF.out.mono ?_;rintro e w2 hfp;obtain⟨rfl,hpu,hix2⟩:=zg7 hfp hfm;clear hfp)
  go_ret;unfold XN;rw[hfm];exact⟨rfl,hix2,.of_pure (hp1.trans hpu)⟩
 ·go_upto_region 6 with(go_at_call 241;refine HF.out.mono ?_;rintro e w2 hfp;obtain⟨rfl,hpu,hix2,hfull⟩:=zgs hfp hfm;clear hfp)
  have HM:=za hfm;have HI:=za hix2;have HP:=za (hp1.trans hpu);have HFL:=za hfull;clear hfm hix hp1 hpu HF HZ;clear zp_0 zp_1 zp_2 zp_f zp_l;clear H_zp;have hi:=hfull.hi;have hj:=hfull.hj;obtain⟨B3,c3,hsv3,_,hB3,hDB3,hBf3,hcells3⟩:=hix2.at
  cases hsv3
  have zg:=(hcells3 i hi).1;have hg:=hix2.ok.at hi;have HE:=za (fun W=>zfO hg.ctl j _ W hfull.tag hfull.full);have x0:(0:Int)≤j:=by omega
  have x1:(j:Int)<8:=by omega
  clear hcells3 hix2 hfull;go_upto_region 7 with(go_at_call 276;refine(HE.out _).mono ?_;rintro e w3 ⟨rfl,rfl⟩)
  have hbytes:vk ((zn Gs i).1.set j (yL (zn Gs i).1)):=(hg.put (j:=j) (t:=yL (zn Gs i).1) (s:=0) (.inr (UC _)) (by omega)).ctl.bytes;have HEm:=za (fun W=>XP hbytes W);have HLaw:=za (zjJ HI.out.ok HFL.out);have HUs:=za (Kd HI.out.ok HFL.out).1;obtain⟨z,hz⟩:=zf (zC ((zn Gs i).1.set j (yL (zn Gs i).1)));obtain⟨m,hmk⟩:=zf (zJ (((zn Gs i).1.set j (yL (zn Gs i).1)).map (· == 128)));rw[hz,hmk]at HEm;rw[hmk]at HLaw;rw[hz];have hm1:Mod (fun k=>k=B) w2 ((w2.setCell ⟨B,i*9,none⟩ (.int .u64 z)).drew):=(Mod.set1 B (i*9) _).drew;have hr1:((w2.setCell ⟨B,i*9,none⟩ (.int .u64 z)).drew).ownsRow 0 354 9 (.slice (some ⟨B,0,none⟩) Gs.length c) Gs.length ((Gs.flatMap yR).set (i*9) (.int .u64 z)) :=
   zy (uR HI.out.row (i*9) (.int .u64 z) (by omega)) (Mod.drew (Mod.refl (fun _=>False) _)) (fun _ _ h=>h)
  have hlen:0<Gs.length:=by omega
  obtain⟨B4,c4,hsv4,_,hB4,hc4,hf4,_⟩:=uO hr1 hlen
  cases hsv4
  have hl9:i*9+1+j<((Gs.flatMap yR).set (i*9) (.int .u64 z)).length:=by rw[hr1.1];omega
  have zs0 : ∃ u,((w2.setCell ⟨B,i*9,none⟩ (.int .u64 z)).drew).cell? ⟨B,i*9+1+j,none⟩=some u:=⟨_,hc4 _ _ (zL hl9)⟩;obtain⟨u0,zs⟩:=zs0;have HM1:=za hm1;have HR1:=za hr1;clear hc4 hl9 hm1 hr1 HE hbytes;generalize(w2.setCell ⟨B,i*9,none⟩ (.int .u64 z)).drew=W4 at *;go_upto_region 8 with fail
  have hm2:Mod (fun k=>k=B) w2 (W4.setCell ⟨B,i*9+1+j,none⟩ (.int .u32 0)):=HM1.out.trans (Mod.set1 B (i*9+1+j) _);have hr2:=uR HR1.out (i*9+1+j) (.int .u32 0) (by omega);have hpB:p≠B:=fun e=>by
   obtain⟨cc,e2⟩:=yc HI.out.row (g:=B) rfl;have:=HI.out.box;rw[e,e2]at this;cases this
  have zp:=hm2.heap hpB HI.out.box;have HM2:=za hm2;have HR2:=za hr2;clear hm2 hr2 zs hf4 HM1 HR1;generalize W4.setCell ⟨B,i*9+1+j,none⟩ (.int .u32 0)=W5 at *;have hul:=HI.out.ok.used_le;have htl:=HI.out.ok.tomb_le;obtain⟨zp_0,zp_1,zp_2,zp_f,zp_l,H_zp⟩:=cr3 zp;clear zp;obtain⟨un,hun⟩ : ∃ un,zD Gs=un+1:=⟨zD Gs-1,by have:=HUs.out;omega⟩;rw[hun]at zp_1 hul;have wu:IntKind.i64.wrap (((un+1:Nat):Int)-1)=(un:Int):=by rw[show(((un+1:Nat):Int)-1)=(un:Int) by omega];exact zt _ (by omega)
  have HUN:=za hun;clear hun;go_upto_region 9 with fail
  have hm3:Mod (fun k=>k=p) W5 (W5.setCell ⟨p,1,none⟩ (.int .i64 un)):=Mod.set1 p 1 _;have hr3:=zy HR2.out hm3 (fun g hg e=>hpB (by
   have:B=g:=by simpa[Value.ownBlock]using hg
   exact e.symm.trans this.symm))
  have zp2:=zW (j:=1) (v := .int .i64 un) H_zp.out;simp at zp2;obtain⟨B6,c6,hsv6,_,hB6,hc6,hf6,_⟩:=uO hr3 hlen
  cases hsv6
  have zg:(W5.setCell ⟨p,1,none⟩ (.int .i64 un)).cell? ⟨B,i*9,none⟩=some (.int .u64 z):=by
   refine hc6 _ _ ?_;rw[yy (by omega),yv];have:=HI.out.row.1;omega
  have HM3:=za hm3;clear hm3 hr3 hc6 hBf3;clear zp_0 zp_1 zp_2 zp_f zp_l;clear H_zp;generalize W5.setCell ⟨p,1,none⟩ (.int .i64 un)=W6 at *;obtain⟨zp2_0,zp2_1,zp2_2,zp2_f,zp2_l,H_zp2⟩:=cr3 zp2;clear zp2;have hml:m≤255:=by rw[← hmk];have:=jp (p:=((zn Gs i).1.set j (yL (zn Gs i).1)).map (· == 128)) (by simp[hg.ctl.1]);omega
  have HMK:=za hmk;have HZ:=za hz;clear hmk hz;have fin : ∀(W7:World) (t':Int),Mod (fun k=>k=p) W6 W7→W7.heap[p]? = some (.cells #[.slice (some ⟨B,0,none⟩) Gs.length c,.int .i64 un,.int .i64 t'] 351 (0,0))→t'=yj (yD Gs i j (yL (zn Gs i).1) 0)→XN w D p (.slice (some ⟨B,0,none⟩) Gs.length c) Gs sum slot (.returned (.int .i64 0)) W7:=fun W7 t' h7 hb7 ht'=>by
   unfold XN;rw[HM.out];have h1:(un:Int)=zD (yD Gs i j (yL (zn Gs i).1) 0):=by
    have e1:zD (yD Gs i j (yL (zn Gs i).1) 0)+1=zD Gs:=HUs.out;have e2:=HUN.out;omega
   obtain⟨k1,k2⟩:=zkk (n':=un) (t':=t') HI.out hi hj (.inr (UC _)) (by omega) h1 ht' HM2.out (by rw[HZ.out];exact HR2.out) (HM3.out.trans h7) hb7;exact⟨rfl,k1,(Mod.of_pure HP.out:Mod D w w2).trans k2⟩
  have FIN:=za fin;clear fin;rcases HLaw.out with⟨hm0,htm⟩ | ⟨hm0,htm⟩
  ·subst hm0;have HTM:=za htm;clear htm HLaw HUs;obtain⟨tn,htn⟩:=zf (yj Gs);rw[htn]at zp2_2 htl;have wt:IntKind.i64.wrap ((tn:Int)+1)=(tn:Int)+1:=zt _ (by omega);have HTN:=za htn;clear htn
   go_wp2_with (go_at_call 277;refine(HEm.out _).mono ?_;rintro e w' ⟨rfl,rfl⟩)
   go_ret;refine FIN.out _ ((tn:Int)+1) (Mod.set1 p 2 _) ?_ ?_
   ·have:=zW (j:=2) (v := .int .i64 ((tn:Int)+1)) H_zp2.out;simpa using this
   ·have:=HTM.out;have:=HTN.out;omega
  ·have HTM:=za htm;clear htm HLaw HUs;have hm1:(1:Int)≤m:=by omega
   have hm2:((m:Int)==0)=false:=by simp;omega
   go_wp2_with (go_at_call 277;refine(HEm.out _).mono ?_;rintro e w' ⟨rfl,rfl⟩)
   go_ret;exact FIN.out _ (yj Gs) (Mod.refl _ _) H_zp2.out (by have:=HTM.out;omega)
end
section
open Go.RowKit Go.Shelf
attribute [local go_sem] Oper.semAt_some
def ku(c:Grp):List Nat:=vF (zJ (c.1.map (fun x=>decide (x<128))))
def vq(c:Grp):List Nat:=(ku c).map (fun j=>c.2.getD j 0)
def uF(H:Nat→Nat)(o:List Grp)(s:Nat):List Grp:=(vK o (H s) s).getD o
def Yc(H:Nat→Nat)(g:Nat)(Gs:List Grp):List Grp:=(Gs.flatMap vq).foldl (uF H) (xr g)
structure UG(P:Program)(gf:Nat)(fb lb:Array Value)(H:Nat→Nat)(S:Nat→Prop)(J:World→Prop)(w:World):Prop where
 enters : ∀ args w,(callFunc gf args).run P w=.ok (.enter gf args) w
 call : ∀(s:Nat) W,s≤4294967295→S s→J W→CallsIn Fence.wide 0 P gf (fb.push (.int .u32 s)++lb) W fun e w'=>e=.returned (.int .u64 (H s))∧zc W w'
 lt : ∀ s,H s<18446744073709551616
 keep : ∀ A B,J A→Mod (fun k=>w.heap.size≤k) A B→J B
 start:J w
theorem zie{c:Grp}(h:xV c) : ∀ s∈vq c,s≤4294967295:=by
 intro s hs;obtain⟨j,_,rfl⟩:=zz.1 hs;exact h.slot j
structure RhO(w:World)(D:Nat→Prop)(p:Nat)(sv:Value)(Gs:List Grp)(gf:Nat)(fb lb:Array Value)(J:World→Prop)(b5 b8 p2:Nat)(sv2:Value)(o:List Grp)(ls:List Nat)(W:World):Prop where
 pu:zc w W
 h5:W.heap[b5]? = some (.cells #[.func (.func gf) fb lb] 323 (0,0))
 h8:W.heap[b8]? = some (.cells #[.pointer (some ⟨p2,0,none⟩)] 201 (0,0))
 ix:yk W D p sv Gs
 out:yk W (fun k=>k=p2∨sv2.ownBlock=some k) p2 sv2 o
 j:J W
 mks : ∀ l∈ls,W.heap[l]? = some (.deferred (some []))
section
variable{w:World}{D:Nat→Prop}{p:Nat}{sv:Value}{Gs:List Grp}{gf:Nat}{fb lb:Array Value}{H:Nat→Nat}{S:Nat→Prop}{J:World→Prop}{b5 b8 p2:Nat}{sv2:Value}{o:List Grp}{ls:List Nat}
theorem RhO.pure(hs:UG prog gf fb lb H S J w){A B:World}(h:RhO w D p sv Gs gf fb lb J b5 b8 p2 sv2 o ls A)(hq:zc A B):RhO w D p sv Gs gf fb lb J b5 b8 p2 sv2 o ls B :=
 ⟨h.pu.trans hq,hq.heap (fun h=>h) h.h5,hq.heap (fun h=>h) h.h8,h.ix.pure hq,h.out.pure hq,hs.keep _ _ h.j (Mod.of_pure hq),fun l hl=>hq.heap (fun h=>h) (h.mks l hl)⟩
theorem RhO.quiet(hs:UG prog gf fb lb H S J w){N:Nat}(hN:w.heap.size≤N)(hls : ∀ l∈ls,l<N){A B:World}(h:RhO w D p sv Gs gf fb lb J b5 b8 p2 sv2 o ls A)(hq:zB N A B):RhO w D p sv Gs gf fb lb J b5 b8 p2 sv2 o ls B :=
 ⟨hq.mod h.pu hN,hq.cells h.h5,hq.cells h.h8,h.ix.quiet hq,h.out.quiet hq,hs.keep _ _ h.j (Mod.mono hq (fun k _ hk=>by have:=hk.1;omega)),fun l hl=>Mod.heap hq (fun hk=>by have:=hk.1;have:=hls l hl;omega) (h.mks l hl)⟩
end
theorem zeU{H:Nat→Nat}{w w':World}{D:Nat→Prop}{p:Nat}{sv:Value}{o:List Grp}{s hh:Nat}{e:Ending}(hh0:H s=hh)(h:Yl w D p sv o hh s e w') : ∃ z,e=.returned (.int .i64 z)∧yk w' D p sv (uF H o s)∧Mod D w w':=by
 subst hh0;unfold Yl at h;unfold uF
 cases hm:vK o (H s) s with
 | none=>rw[hm]at h;exact⟨_,h.1,h.2.1,h.2.2⟩
 | some o'=>rw[hm]at h;exact⟨_,h.1,h.2.1,h.2.2⟩
structure RhI(w:World)(D:Nat→Prop)(p:Nat)(sv:Value)(Gs:List Grp)(gf:Nat)(fb lb:Array Value)(J:World→Prop)(b5 b8 p2:Nat)(sv2:Value)(o:List Grp)(ls:List Nat)(H:Nat→Nat)(q:Grp)(b11 BL m:Nat)(pre:List Nat)(W:World):Prop where
 ro:RhO w D p sv Gs gf fb lb J b5 b8 p2 sv2 ((pre.map (fun j=>q.2.getD j 0)).foldl (uF H) o) ls W
 bx:W.heap[b11]? = some (.cells #[.int .u64 (zC q.1:Nat),.int .u32 (q.2[0]?.getD 0:Nat),.int .u32 (q.2[1]?.getD 0:Nat),.int .u32 (q.2[2]?.getD 0:Nat),.int .u32 (q.2[3]?.getD 0:Nat),.int .u32 (q.2[4]?.getD 0:Nat),.int .u32 (q.2[5]?.getD 0:Nat),.int .u32 (q.2[6]?.getD 0:Nat),.int .u32 (q.2[7]?.getD 0:Nat)] 354 (0,0))
 la:qs W BL m
@[go_sem] theorem zlr (w : World) (fn : Fn) (fi ca : Array Value) : (binOp .eql 323 (.func fn fi ca) .nilFunc).run prog w=.ok (.bool false) w := by
 simp only[binOp];simp[Op.equal,Op.maxDepth,zbc w 9999 _ fn fi ca underlying323]
theorem zdL{w:World}{D:Nat→Prop}{p:Nat}{sv:Value}{Gs:List Grp}(h:yk w D p sv Gs)(g:Nat)(hg:Pow g)(hu:zD Gs≤8*g){gf:Nat}{fb lb:Array Value}{H:Nat→Nat}{S:Nat→Prop}{J:World→Prop}
    (hs:UG prog gf fb lb H S J w) (hS : ∀ s∈Gs.flatMap vq,S s) :
    Calls prog 280 #[.pointer (some ⟨p,0,none⟩),.int .i64 g,.func (.func gf) fb lb] w (fun e w' => ∃ p2 sv2,e=.returned (.tuple #[.pointer (some ⟨p2,0,none⟩),.int .i64 0]) ∧
      yk w' (fun k=>k=p2∨sv2.ownBlock=some k) p2 sv2 (Yc H g Gs)∧zc w w'∧w.heap.size≤p2∧(∀ k,sv2.ownBlock=some k→w.heap.size≤k)∧yk w' D p sv Gs∧J w'):=by
  have hp:zc w (w.alloc (.cells #[.func (.func gf) fb lb] 323)):=(Mod.refl _ w).alloc _;have hb5:=zj (w:=w) (o:=(.cells #[.func (.func gf) fb lb] 323 (0,0))) rfl;obtain⟨B,c,rfl,hc,hB,hDB,hBf,hcells⟩:=h.at;have zp:=hp.heap (fun h=>h) h.box;have hgl:=h.ok.pow.le;have hgl1:=h.ok.pow.pos;have HZ:=za (fun(W:World) (hW:W.cell? ⟨p,0,none⟩=_)=>Ye (w:=W) (c:=c) (a:=some ⟨B,0,none⟩) hW h.ok.pow.pos h.ok.pow.le);have HN:=za (fun W=>zav g W hg);have HX:=za h;have HS:=za hs;have HSS:=za hS;have HP:=za hp;clear hcells h hBf hp hs hS
  (refine(yB (n:=0)).1 (callsIn_of_wp_marks func280 rfl trivial (vy.2 ?_) rfl);simp only[ntmps280,List.size_toArray,List.length_cons,List.length_nil,Nat.reduceAdd,Nat.reduceSub,Array.replicate_succ,Array.replicate_zero,List.push_toArray,List.append_toArray,List.nil_append,List.cons_append])
  go_upto_region 1 with fail
  generalize w.alloc (.cells #[.func (.func gf) fb lb] 323)=W1 at *;obtain⟨b5,hb5e⟩:=zf w.heap.size;rw[hb5e]at hb5 ⊢;obtain⟨zp_0,zp_1,zp_2,zp_f,zp_l,H_zp⟩:=cr3 zp;clear zp;go_upto_region 3 with(go_at_call 240;refine(HZ.out _ zp_0).mono ?_;rintro e w' ⟨rfl,rfl⟩)
  go_upto_region 4 with(go_at_call 170;refine(HN.out _).mono ?_;rintro e w2 ⟨p2,sv2,rfl,hix2,hp2,hl2,hs2⟩)
  have hp3:zc w2 (w2.alloc (.cells #[.pointer (some ⟨p2,0,none⟩)] 201)):=(Mod.refl _ w2).alloc _;have z8:=zj (w:=w2) (o:=(.cells #[.pointer (some ⟨p2,0,none⟩)] 201 (0,0))) rfl;have hb8:w.heap.size≤w2.heap.size:=zH HP.out.size hp2.size;have z5:=(hp2.trans hp3).heap (fun h=>h) hb5;have zp2:=(hp2.trans hp3).heap (fun h=>h) H_zp.out;have HO:=za (RhO.mk (J:=J) (ls:=[]) ((HP.out.trans hp2).trans hp3) z5 z8 (HX.out.pure ((HP.out.trans hp2).trans hp3)) (hix2.pure hp3) (HS.out.keep _ _ HS.out.start (Mod.of_pure ((HP.out.trans hp2).trans hp3))) (by simp));have hw1:w.heap.size≤W1.heap.size:=HP.out.size;have hlp2:w.heap.size≤p2:=zH hw1 hl2;have hls2 : ∀ k,sv2.ownBlock=some k→w.heap.size≤k:=fun k hk=>zH hw1 (hs2 k hk)
  have HL2:=za hls2;clear zp_0 zp_1 zp_2 zp_f zp_l;clear H_zp HZ HN hix2 hp2 hp3 hb5 hl2 hs2 hls2 HP;generalize w2.alloc (.cells #[.pointer (some ⟨p2,0,none⟩)] 201)=W3 at *;obtain⟨b8,hb8e⟩:=zf w2.heap.size;rw[hb8e]at HO z8 hb8 ⊢;clear hb8e hw1;have hgu:g≤1048576:=hg.le;have w8:IntKind.i64.wrap ((g:Int)*8)=(g:Int)*8:=zt _ (by omega);have hu':(zD Gs:Int)≤(g:Int)*8:=by omega
  have wg:IntKind.i64.wrap (Gs.length:Int)=Gs.length:=zt _ (by omega);obtain⟨z5_0,z5_f,z5_l,H_z5⟩:=cr1 z5;clear z5;obtain⟨z8_0,z8_f,z8_l,H_z8⟩:=cr1 z8;clear z8;obtain⟨zp2_0,zp2_1,zp2_2,zp2_f,zp2_l,H_zp2⟩:=cr3 zp2;clear zp2;go_upto_region 11 with fail
  refine wp_loop (fun a' wr => ∃(i:Nat) (ls:List Nat) (u11 u12 u41 u42 u43 u44 u45 u46 u47 u48 u49 u50 u51 u52 u53 u54 u55 u56 u57 u58 u59 u60 u61:Value),i≤Gs.length∧RhO w D p (.slice (some ⟨B,0,none⟩) Gs.length c) Gs gf fb lb J b5 b8 p2 sv2 (((Gs.take i).flatMap vq).foldl (uF H) (xr g)) ls wr∧ls.Nodup∧(∀ l∈ls,w.heap.size≤l)∧a' = {tmps:=#[.pointer (some ⟨p,0,none⟩),.int .i64 g,.func (.func gf) fb lb,undef,undef,.pointer (some ⟨b5,0,none⟩),.pointer none,.int .i64 0,.pointer (some ⟨b8,0,none⟩),.int .i64 0,undef,u11,u12,.pointer (some ⟨p,0,none⟩),.bool false,.tuple #[.pointer (some ⟨p2,0,none⟩),.int .i64 0],.int .i64 g,.tuple #[.pointer (some ⟨p2,0,none⟩),.int .i64 0],.pointer (some ⟨p2,0,none⟩),.int .i64 0,.bool false,.int .i64 0,.bool false,undef,.bool false,.func (.func gf) fb lb,.bool false,.bool (decide ((g:Int)*8<(zD Gs:Int))),.pointer (some ⟨p,0,none⟩),.pointer (some ⟨p,0,none⟩),.pointer (some ⟨p,1,none⟩),.int .i64 (zD Gs),.int .i64 g,.int .i64 ((g:Int)*8),.bool (decide ((g:Int)*8<(zD Gs:Int))),.pointer (some ⟨p,0,none⟩),.pointer (some ⟨p,0,none⟩),.pointer (some ⟨p,0,none⟩),.slice (some ⟨B,0,none⟩) Gs.length c,.int .i64 Gs.length,.int .i64 (i:Nat),u41,u42,u43,u44,u45,u46,u47,u48,u49,u50,u51,u52,u53,u54,u55,u56,u57,u58,u59,u60,u61,undef],defers:=zbb ls}) (fun a' _=>Gs.length-(intOf (a'.tmps.getD 40 undef)).toNat) ?_ ?_
  · refine⟨0,[],undef,undef,undef,undef,undef,undef,undef,undef,undef,undef,undef,undef,undef,undef,undef,undef,undef,undef,undef,undef,undef,undef,undef,yi _,?_,jf,by simp,rfl⟩
    simpa using HO.out
  · rintro a' wr ⟨i,ls,u11,u12,u41,u42,u43,u44,u45,u46,u47,u48,u49,u50,u51,u52,u53,u54,u55,u56,u57,u58,u59,u60,u61,hi,hro,hnd,hlsw,rfl⟩
    have HR:=za hro;have HND:=za hnd;have HLW:=za hlsw;clear z5_0 z5_f z5_l;clear z8_0 z8_f z8_l;clear zp2_0 zp2_1 zp2_2 zp2_f zp2_l;clear H_z5 H_z8 H_zp2 hro hnd hlsw HO;by_cases hlt:i<Gs.length
    · have hlt':(i:Int)<(Gs.length:Int):=by omega
      obtain⟨B3,c3,hsv3,_,hB3,hDB3,hBf3,hcells3⟩:=HR.out.ix.at
      cases hsv3
      obtain⟨zg,zsl⟩:=hcells3 i hlt;have z0:=zsl 0 (by omega);have z1:=zsl 1 (by omega);have z2:=zsl 2 (by omega);have z3:=zsl 3 (by omega);have z4:=zsl 4 (by omega);have z5:=zsl 5 (by omega);have z6:=zsl 6 (by omega);have z7:=zsl 7 (by omega);have HG:=za (HR.out.ix.ok.at hlt);clear hcells3 zsl;obtain⟨q,hq⟩:=zf (zn Gs i);rw[hq]at zg z0 z1 z2 z3 z4 z5 z6 z7 HG;have HGG:=za hq;clear hq;go_upto_region 13 with fail
      have hp7:zc wr (wr.alloc (.cells #[.int .u64 (zC q.1:Nat),.int .u32 (q.2[0]?.getD 0:Nat),.int .u32 (q.2[1]?.getD 0:Nat),.int .u32 (q.2[2]?.getD 0:Nat),.int .u32 (q.2[3]?.getD 0:Nat),.int .u32 (q.2[4]?.getD 0:Nat),.int .u32 (q.2[5]?.getD 0:Nat),.int .u32 (q.2[6]?.getD 0:Nat),.int .u32 (q.2[7]?.getD 0:Nat)] 354)):=(Mod.refl _ wr).alloc _;have h7:=zj (w:=wr) (o := .cells #[.int .u64 (zC q.1:Nat),.int .u32 (q.2[0]?.getD 0:Nat),.int .u32 (q.2[1]?.getD 0:Nat),.int .u32 (q.2[2]?.getD 0:Nat),.int .u32 (q.2[3]?.getD 0:Nat),.int .u32 (q.2[4]?.getD 0:Nat),.int .u32 (q.2[5]?.getD 0:Nat),.int .u32 (q.2[6]?.getD 0:Nat),.int .u32 (q.2[7]?.getD 0:Nat)] 354 (0,0)) rfl;have HFU:=za (fun W=>JV HG.out.ctl.bytes W);obtain⟨m,hm⟩:=zf (zJ (q.1.map (fun x=>decide (x<128))));rw[hm]at HFU;have hml:m<256:=by rw[← hm];exact jp (by rw[yn];exact HG.out.ctl.1)
      have HLA:=za (fun W=>zb5 m W);have HM:=za hm;have HR7:=za (HR.out.pure HS.out hp7);have hn11 : ∀ k,(k=p2∨sv2.ownBlock=some k)→k≠wr.heap.size:=by
        rintro k (rfl | hk) e
        · have:=zm HR.out.out.box;omega
        · obtain⟨_,e2⟩:=yc HR.out.out.row hk
          have:=zm e2;omega
      have HN11:=za hn11;have hlsr : ∀ l∈ls,l<wr.heap.size:=fun l hl=>(uX.1 (HR.out.mks l hl)).1
      have hs7:wr.heap.size<(wr.alloc (.cells #[.int .u64 (zC q.1:Nat),.int .u32 (q.2[0]?.getD 0:Nat),.int .u32 (q.2[1]?.getD 0:Nat),.int .u32 (q.2[2]?.getD 0:Nat),.int .u32 (q.2[3]?.getD 0:Nat),.int .u32 (q.2[4]?.getD 0:Nat),.int .u32 (q.2[5]?.getD 0:Nat),.int .u32 (q.2[6]?.getD 0:Nat),.int .u32 (q.2[7]?.getD 0:Nat)] 354)).heap.size:=zm h7;have HLSR:=za hlsr;clear z0 z1 z2 z3 z4 z5 z6 z7 zg hp7 hm hn11 hlsr hBf3;generalize wr.alloc (.cells #[.int .u64 (zC q.1:Nat),.int .u32 (q.2[0]?.getD 0:Nat),.int .u32 (q.2[1]?.getD 0:Nat),.int .u32 (q.2[2]?.getD 0:Nat),.int .u32 (q.2[3]?.getD 0:Nat),.int .u32 (q.2[4]?.getD 0:Nat),.int .u32 (q.2[5]?.getD 0:Nat),.int .u32 (q.2[6]?.getD 0:Nat),.int .u32 (q.2[7]?.getD 0:Nat)] 354)=W7 at *;obtain⟨b11,hb11⟩:=zf wr.heap.size;rw[hb11]at h7 hs7 HN11 HLSR ⊢;clear hb11;have H7:=za h7;obtain⟨h7_0,h7_1,h7_2,h7_3,h7_4,h7_5,h7_6,h7_7,h7_8,h7_f,h7_l,H_h7⟩:=cr9 h7;clear h7
      go_wp2_with (first
        | (go_at_call 325;refine(HFU.out _).mono ?_;rintro e w' ⟨rfl,rfl⟩)
        | (go_at_call 291;refine(HLA.out _).mono ?_;rintro e w4 ⟨BL,rfl,hla,hp4,hBL⟩))
      have hb11w:b11<w4.heap.size:=ve hs7 hp4.size;have hw4:w.heap.size≤w4.heap.size:=zH HR7.out.pu.size hp4.size;have HI0:Hid (RhI w D p (.slice (some ⟨B,0,none⟩) Gs.length c) Gs gf fb lb J b5 b8 p2 sv2 (((Gs.take i).flatMap vq).foldl (uF H) (xr g)) ls H q b11 BL m [] w4):=⟨HR7.out.pure HS.out hp4,hp4.heap (fun h=>h) H_h7.out,hla⟩;have hBlt:BL<w4.heap.size:=zm hla.set;have HLA4:=za hla;clear h7_0 h7_1 h7_2 h7_3 h7_4 h7_5 h7_6 h7_7 h7_8 h7_f h7_l;clear H_h7 H7 hp4 hla HR7 HFU HLA;refine vy.1 (XV (gf:=335) (lb:=#[.pointer (some ⟨BL,0,none⟩)]) rfl (enters_of func335 (by kernel_rfl) rfl) (It:=fun k=>k=BL) (zcB HLA4.out hml) (fun k hk=>by rw[hk];exact hBlt) (fun _=>rfl)
        (fun pre W=>RhI w D p (.slice (some ⟨B,0,none⟩) Gs.length c) Gs gf fb lb J b5 b8 p2 sv2 (((Gs.take i).flatMap vq).foldl (uF H) (xr g)) ls H q b11 BL m pre W) (fun _ _ _=>False) ?hI ?hIx HI0.out ?round ?done ?stop)
      case hI=>exact fun pre X Y h hq=>⟨h.ro.quiet HS.out hw4 (fun l hl=>by have:=HLSR.out l hl;omega) hq,hq.cells h.bx,⟨hq.cells h.la.set⟩⟩
      case hIx=>exact fun _ _ _ _ h _=>h
      case stop=>exact fun _ _ _ _ _ h=>h.elim
      case done =>
        rintro l xs W hl hSx hI hK;have hxs:xs=vF m:=hSx;have HIx:=za hI;have HKx:=za hK;clear hI hK HI0 HLA4;go_wp2;refine⟨⟨i+1,l::ls,_,_,_,_,_,_,_,_,_,_,_,_,_,_,_,_,_,_,_,_,_,_,_,hlt,?_,yO.2 ⟨fun h => ?_,HND.out⟩,fun l' hl' => ?_,rfl⟩,?_⟩
        · have e1:(Gs.take (i+1)).flatMap vq=(Gs.take i).flatMap vq++vq q:=by
            rw[uE,uj hlt,HGG.out];simp
          have e2:vq q=xs.map (fun j=>q.2.getD j 0):=by unfold vq ku;rw[HM.out,hxs]
          rw[e1,XE,e2];have:=HIx.out.ro;exact⟨this.pu,this.h5,this.h8,this.ix,this.out,this.j,fun l' hl'=>by
            rcases zO.1 hl' with rfl | h
            · exact HKx.out
            · exact this.mks l' h⟩
        · have:=HLSR.out l h;omega
        · rcases zO.1 hl' with rfl | h
          · omega
          · exact HLW.out l' h
        · simp[intOf];omega
      case round =>
        rintro l pre j W K hI hGx hK;obtain⟨post,hpost⟩:=hGx;dsimp only[qE];have hjm:j∈ku q:=by
          unfold ku;rw[HM.out,hpost];simp
        have hj8:j<8:=by
          have:=hjm;unfold ku vF at this;exact ZZ.1 (qT.1 this).1
        have HI:=za hI;have HK:=za hK;have HJM:=za hjm;clear hI hK HI0 HLA4 hpost hjm;gi_wp2;refine HK.out _ _ (Mod.refl _ _) (fun l' W2 hl hr hq => ?_);have HI2:Hid (RhI w D p (.slice (some ⟨B,0,none⟩) Gs.length c) Gs gf fb lb J b5 b8 p2 sv2 (((Gs.take i).flatMap vq).foldl (uF H) (xr g)) ls H q b11 BL m pre W2):=⟨HI.out.ro.quiet HS.out hw4 (fun l hl=>by have:=HLSR.out l hl;omega) hq,hq.cells HI.out.bx,⟨hq.cells HI.out.la.set⟩⟩;clear HK HI hq hr;gi_upto_region 15 with fail
        obtain⟨sl,hsl⟩:=zf (q.2.getD j 0);have hsl1:sl≤4294967295:=by rw[← hsl];exact HG.out.slot j
        have hsl2:S sl:=by
          refine HSS.out sl (ZX.2 ⟨q,?_,?_⟩)
          · rw[← HGG.out];exact yl (uj hlt)
          · rw[← hsl];exact zz.2 ⟨j,HJM.out,rfl⟩
        have c8:=zi W2 b8 0 _ _ _ HI2.out.ro.h8;have c5:=zi W2 b5 0 _ _ _ HI2.out.ro.h5;have c11:W2.cell? ⟨b11,1+j,none⟩=some (.int .u32 sl):=by
          have hv:(#[.int .u64 (zC q.1:Nat),.int .u32 (q.2[0]?.getD 0:Nat),.int .u32 (q.2[1]?.getD 0:Nat),.int .u32 (q.2[2]?.getD 0:Nat),.int .u32 (q.2[3]?.getD 0:Nat),.int .u32 (q.2[4]?.getD 0:Nat),.int .u32 (q.2[5]?.getD 0:Nat),.int .u32 (q.2[6]?.getD 0:Nat),.int .u32 (q.2[7]?.getD 0:Nat)]:Array Value)[1+j]? = some (.int .u32 (q.2.getD j 0:Nat)):=by
            have:j=0∨j=1∨j=2∨j=3∨j=4∨j=5∨j=6∨j=7:=by omega
            rcases this with rfl | rfl | rfl | rfl | rfl | rfl | rfl | rfl<;>rfl
          rw[hsl]at hv;have:=World.news_of_block HI2.out.bx (1+j) (.int .u32 sl) (by rw[YW];exact hv);simpa[Addr.add]using this
        simp at c8 c5;have x0:(0:Int)≤j:=by omega
        have x1:(j:Int)<8:=by omega
        refine Ud (fun X=>X.cell? ⟨b8,0,none⟩=some (.pointer (some ⟨p2,0,none⟩))∧X.cell? ⟨b5,0,none⟩=some (.func (.func gf) fb lb)∧X.cell? ⟨b11,1+j,none⟩=some (.int .u32 sl)) (by kernel_rfl) (by kernel_rfl) ?hL ⟨c8,c5,c11⟩ (fun h_ => ?_)
        case hL=>rintro⟨a,w,h⟩;exact h
        refine hTk 2 ?_;refine hTk 3 ?_;refine hTk 4 ?_;refine hTk 7 ?_;refine hTk 8 ?_;refine hTk 9 ?_;refine hLd 0 ?_;refine hLd 1 ?_;refine hLd 5 ?_;refine hLd 10 ?_;have hen:=HS.out.enters;have hcall:=za (yB.1 (HS.out.call sl W2.drew hsl1 hsl2 (HS.out.keep _ _ HI2.out.ro.j (Mod.drew (Mod.refl _ W2)))));obtain⟨hh,hhe⟩:=zf (H sl);have hhl:hh<18446744073709551616:=by rw[← hhe];exact HS.out.lt sl
        rw[hhe]at hcall
        (refine hSt 6 (fun K hK => ?_);go_simp;refine zq hcall.out ?_;rintro e X1 ⟨rfl,hp1⟩;refine hK.out _ _ ?_ (fun h_ => ?_);(· exact⟨hp1.cell (fun h=>h) c8,hp1.cell (fun h=>h) c5,hp1.cell (fun h=>h) c11⟩);clear hK K)
        have hpx:zc W2 X1:=Mod.of_drew hp1;have hrx:=HI2.out.ro.pure HS.out hpx;have HIN:=za (zdh hrx.out hh sl hhl hsl1);have d2 : ∀ k cs T,W2.heap[k]? = some (.cells cs T (0,0))→T≠351→T≠354 → ¬ (k=p2∨sv2.ownBlock=some k):=by
          rintro k cs T hk t1 t2 (rfl | e)
          · have:=HI2.out.ro.out.box;rw[hk]at this;cases this;exact t1 rfl
          · obtain⟨cc,e2⟩:=yc HI2.out.ro.out.row e
            rw[hk]at e2;cases e2;exact t2 rfl
        have n8:=d2 _ _ _ HI2.out.ro.h8 (by decide) (by decide);have n5:=d2 _ _ _ HI2.out.ro.h5 (by decide) (by decide);have nL:=d2 _ _ _ HI2.out.la.set (by decide) (by decide);have n11 : ¬ (b11=p2∨sv2.ownBlock=some b11):=fun e=>HN11.out b11 e rfl
        have HD2:=za d2;have HRX:=za hrx;have HPX:=za hpx;clear d2 hrx hpx
        (refine hSt 11 (fun K hK => ?_);go_simp;refine HIN.out.mono ?_;rintro e X2 hq;obtain⟨z,rfl,hix2,hm2⟩:=zeU (H:=H) hhe hq;clear hq;refine hK.out _ _ ?_ (fun h_ => ?_);(· exact⟨hm2.cell n8 (hp1.cell (fun h=>h) c8),hm2.cell n5 (hp1.cell (fun h=>h) c5),hm2.cell n11 (hp1.cell (fun h=>h) c11)⟩);clear hK K)
        refine hDn ?_;have hm02:Mod (fun k=>k=p2∨sv2.ownBlock=some k) W2 X2:=(Mod.of_pure HPX.out:Mod (fun k=>k=p2∨sv2.ownBlock=some k) W2 X1).trans hm2;refine⟨xl.of_mod hm02 (fun k _ hk o ho => ?_),⟨hm02.size,?_⟩,?_⟩
        · rcases hk with rfl | e
          · rw[HI2.out.ro.out.box]at ho;cases ho;rfl
          · obtain⟨cc,e2⟩:=yc HI2.out.ro.out.row e
            rw[e2]at ho;cases ho;rfl
        · rintro k rfl hk
          exact hm02.block _ hk nL
        · have hd2w : ∀ k,(k=p2∨sv2.ownBlock=some k)→w.heap.size≤k:=by
            rintro k (rfl | e)
            · exact hlp2
            · exact HL2.out k e
          have hDw : ∀ k,D k→k<w.heap.size:=by
            intro k hk;rcases(HX.out.dd k).1 hk with rfl | e
            · exact zm HX.out.box
            · obtain⟨cc,e2⟩:=yc HX.out.row e
              exact zm e2
          refine⟨⟨HI2.out.ro.pu.then hm02 (fun k hk hd=>by have:=hd2w k hd;omega),hm02.heap n5 HI2.out.ro.h5,hm02.heap n8 HI2.out.ro.h8,HI2.out.ro.ix.mod hm02 (fun k hk hd=>by have:=hd2w k hd;have:=hDw k hk;omega),?_,HS.out.keep _ _ HI2.out.ro.j (Mod.mono hm02 (fun k _ hd=>hd2w k hd)),fun l hl=>hm02.heap ?_ (HI2.out.ro.mks l hl)⟩,hm02.heap n11 HI2.out.bx,⟨hm02.heap nL HI2.out.la.set⟩⟩
          · rw[vh,XE,qG,hsl]
            exact hix2
          · rintro(e | e)
            · have:=HI2.out.ro.mks l hl;rw[e,HI2.out.ro.out.box]at this;cases this
            · obtain⟨cc,e2⟩:=yc HI2.out.ro.out.row e
              have:=HI2.out.ro.mks l hl;rw[e2]at this;cases this
    · have hlt':(Gs.length:Int)≤(i:Int):=by omega
      have e:Gs.length=i:=by omega
      subst e;have z8:=HR.out.h8;obtain⟨z8_0,z8_f,z8_l,H_z8⟩:=cr1 z8;clear z8;go_wp2;refine Q9 (N:=w.heap.size) (v := .tuple #[.pointer (some ⟨p2,0,none⟩),.int .i64 0]) HR.out.mks HND.out HLW.out (fun W'=>by simp[results,results280,go_sem]) (fun W' hq => ?_);have hf:(Gs.take Gs.length)=Gs:=List.take_length;have hout:=HR.out.out;rw[hf]at hout;exact⟨p2,sv2,rfl,hout.quiet hq,hq.mod HR.out.pu (zI _),hlp2,HL2.out,HR.out.ix.quiet hq,HS.out.keep _ _ HR.out.j (Mod.mono hq (fun k _ hk=>hk.1))⟩
end
end Go.Proofs.YtdohbogbnheakaaGreatDoor
