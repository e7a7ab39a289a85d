/- Lemmas and contracts of functions. No condition. -/
import Derived.WalkKit
import Derived.WalkSpells
import Derived.WalkLawsBesides
import Derived.Outline
import Derived.Lib.Hide
import Derived.Deep.AppendLies
import Derived.Deep.AppendSrc
import Derived.Deep.RegionHeld3
import Derived.BigQuiet
import Derived.Deep.DeepCutAuto
import Derived.Deep.RegionLaw
import Derived.Deep.QuietTactic
import Derived.Test.YtifbnponicgplaaGreatDoorProg
import Derived.Handy
namespace Go.Proofs.YtifbnponicgplaaGreatDoor
open _root_.Go.Proofs.Tryz
set_option maxRecDepth 100000
set_option maxHeartbeats 20000000
set_option linter.all false
section
open Go.RowKit
theorem za{p:Prop}(h:p):Hid p:=h
theorem zf{α:Sort _}(a:α) : ∃ x,a=x:=⟨a,rfl⟩
abbrev zi := @cell_of_row
abbrev zE := @List.getElem?_eq_some_iff
abbrev zm := @lt_of_block
abbrev zO := @List.getElem?_eq_getElem
abbrev zt := @IntWalk.i64_in
abbrev zq := @Calls.mono
abbrev zT := @List.length_append
abbrev zh := @if_neg
abbrev zX := @heap_setCell_same
abbrev ym := @List.mem_of_getElem?
abbrev yt := @List.getElem?_set_self
abbrev zU := @decide_eq_false
abbrev zQ := @decide_eq_true
abbrev zj := @if_pos
abbrev zF := @Nat.le_trans
abbrev Yh := @List.setIfInBounds_toArray
abbrev zI := @List.mem_map
abbrev yw := @List.getElem?_set_ne
abbrev zN := @Nat.le_refl
abbrev yz := @List.getElem?_map
abbrev yD := @List.mem_cons_self
abbrev zR := @bodyPost_ret
abbrev yE := @List.mem_cons_of_mem
abbrev ZR := @List.set_cons_succ
abbrev yH := @List.length_map
abbrev vM := @List.getD_eq_getElem?_getD
abbrev zfe := @List.set_cons_zero
abbrev xF := @List.mem_append_right
abbrev yI := @List.mem_append
abbrev xc := @List.mem_singleton
abbrev qu := @List.length_cons
abbrev yS := @frozen_of_row
abbrev xM := @List.getElem?_eq_none
abbrev yx := @List.mem_cons
abbrev xQ := @List.mem_append_left
abbrev yq := @Nat.zero_le
abbrev yZ := @List.nodup_cons
abbrev vz := @List.length_replicate
abbrev xy := @List.nodup_append
abbrev vU := @List.getElem?_replicate
abbrev uw := @List.getElem?_append_left
abbrev zma := @List.getElem_cons_zero
abbrev zmk := @List.getElem_cons_succ
abbrev vh := @Nat.lt_of_lt_of_le
abbrev xC := @List.length_set
abbrev kr := @Array.getElem?_eq_some_iff
abbrev vr := @List.map_append
abbrev yB := @callsIn_wide
abbrev xS := @Nat.mod_eq_of_lt
abbrev zl0 := @List.getElem_toArray
abbrev uk := @List.getElem?_of_mem
abbrev vK := @List.getElem?_toArray
abbrev vV := @World.ownsRow_nil
abbrev vL := @List.append_assoc
abbrev ue := @AllReadyH.cons
abbrev Yp := @List.nil_append
abbrev uI := @List.map_congr_left
abbrev kQ := @beq_eq_false_iff_ne
abbrev zdV := @List.cons_append
abbrev jn := @List.getElem?_append_right
abbrev kh := @List.pairwise_cons
abbrev ut := @BitVec.toNat_ofNat
abbrev uH := @List.take_add_one
abbrev jK := @List.drop_eq_getElem_cons
abbrev qJ := @List.map_cons
abbrev uF := @List.ext_getElem?
abbrev xB := @info_parts
abbrev jX := @List.take_of_length_le
abbrev qk := @List.eq_nil_of_length_eq_zero
abbrev uU := @List.pairwise_map
abbrev jS := @List.mem_or_eq_of_mem_set
abbrev zmr := @List.length_nil
abbrev zme := @Array.replicate_zero
abbrev zms := @Array.replicate_succ
abbrev zmg := @List.append_toArray
abbrev qN := @Array.getElem?_eq_getElem
abbrev jh := @List.filter_cons
abbrev zl2 := @List.size_toArray
abbrev qE := @List.flatMap_cons
abbrev kw := @AllReadyH.nil
abbrev jo := @List.filter_eq_self
abbrev zl4 := @List.push_toArray
abbrev ZU := @List.mem_of_find?_eq_some
abbrev qj := @List.find?_eq_none
abbrev uY := @wpAnyH_ready
abbrev qe := @List.getElem?_range
abbrev Yk := @Int.toNat_of_nonneg
abbrev Yd := @Nat.testBit_two_pow_mul_add
abbrev vi := @Nat.mod_lt
abbrev j6 := @List.pairwise_append
abbrev jm := @Nat.lt_of_le_of_lt
abbrev j4 := @List.getElem?_take
abbrev kZ := @wpAnyH_take
abbrev jt := @List.append_nil
abbrev ku := @CallsIn.mono
abbrev XB := @List.getElem?_cons_succ
abbrev qF := @Nat.eq_of_testBit_eq
abbrev ZP := @Nat.div_div_eq_div_mul
abbrev Zp := @List.drop_of_length_le
abbrev ZO := @List.replicate_succ
abbrev qn := @List.filter_sublist
abbrev kH := @wpIn_wide
abbrev qY := @List.mem_filter
abbrev Yg := @World.cell?_setCell_other
abbrev qS := @Nat.xor_lt_two_pow
abbrev Zi := @List.length_take
abbrev ZM := @Nat.zero_add
abbrev qX := @List.map_map
abbrev ZS := @Nat.pow_le_pow_right
abbrev jR := @List.nodup_nil
abbrev YE := @World.block_lt_of_cell?
abbrev Ze := @Nat.or_lt_two_pow
abbrev qO := @Nat.lt_trichotomy
abbrev vZ := @Option.some.inj
abbrev qU := @wp_region_held_drew
abbrev ZQ := @List.flatMap_append
abbrev Yv := @List.filter_eq_nil_iff
abbrev zl8 := @run_underlying
abbrev ZZ := @List.mem_range
abbrev Yl := @List.take_append_drop
abbrev YV := @Array.getElem?_toList
abbrev xZ := @Iff.rfl
abbrev YQ := @Array.getElem?_range
abbrev XN := @List.getElem?_set
abbrev qP := @Nat.pow_succ
abbrev YM := @List.take_succ_cons
abbrev UG := @Nat.and_two_pow_sub_one_eq_mod
abbrev Zr := @List.mem_flatten
abbrev Zb := @List.mem_flatMap
abbrev je := @Nat.mul_one
abbrev Xz := @World.frozen?_of_block
abbrev zmn := @MapKept.run_setObj_map
abbrev zmj := @MapKept.run_getObj_map
abbrev YN := @List.filter_append
abbrev ZG := @and_congr_right
abbrev XO := @List.set_append_right
abbrev Yw := @wpList_delete_own
abbrev Yt := @List.foldl_append
abbrev Uh := @List.flatten_cons
abbrev Qa := @Int.tdiv_eq_ediv_of_nonneg
abbrev XS := @wpList_mapUpdate_own
abbrev Xd := @Nat.mul_le_mul_right
abbrev zlX := @List.countP_cons
abbrev qZ := @Nat.le_of_lt
abbrev UH := @List.pairwise_iff_getElem
abbrev Ua := @List.findIdx?_eq_none_iff
abbrev ZD := @Int.ofNat_inj
abbrev Y2 := @Nat.div_le_self
abbrev XF := @World.ownsMap_made
abbrev Jf := @List.findIdx?_eq_some_iff_getElem
abbrev Uw := @List.takeWhile_sublist
abbrev Uv := @List.length_pos_of_mem
abbrev Xs := @List.filter_congr
abbrev Z0 := @getElem!_pos
abbrev Y9 := @Nat.sub_self
abbrev XC := @Nat.add_zero
abbrev Y1 := @List.map_set
abbrev Vf := @World.cell?_alloc_new
abbrev UQ := @List.countP_le_length
abbrev Zz := @Maps.size_put
abbrev Un := @List.mem_of_getLast?
abbrev Js := @List.getElem?_modify
abbrev Vk := @List.find?_some
abbrev Vp := @Array.toList_modify
abbrev JS := @List.perm_append_singleton
abbrev Qb := @Array.getElem?_append_left
abbrev Vw := @List.filter_filter
abbrev JY := @DataW.trod_int
structure Mod(S:Nat→Prop)(w w':World):Prop where
 os:w'.os=w.os
 tape:w'.tape=w.tape
 output:w'.output=w.output
 size:w.heap.size≤w'.heap.size
 block : ∀ k,k<w.heap.size → ¬ S k→w'.heap[k]? = w.heap[k]?
abbrev zb(w w':World):Prop:=Mod (fun _=>False) w w'
theorem Mod.refl(S:Nat→Prop)(w:World):Mod S w w:=⟨rfl,rfl,rfl,zN _,fun _ _ _=>rfl⟩
theorem Mod.mono{S S':Nat→Prop}{w w':World}(h:Mod S w w')(hs : ∀ k,k<w.heap.size→S k→S' k):Mod S' w w' :=
 ⟨h.os,h.tape,h.output,h.size,fun k hk hn=>h.block k hk (fun hx=>hn (hs k hk hx))⟩
theorem Mod.trans'{S T U:Nat→Prop}{a b c:World}(h:Mod S a b)(k:Mod T b c)(hs : ∀ i,i<a.heap.size→S i→U i)(ht : ∀ i,i<a.heap.size→T i→U i):Mod U a c :=
 ⟨k.os.trans h.os,k.tape.trans h.tape,k.output.trans h.output,zF h.size k.size,fun i hi hn =>
  (k.block i (vh hi h.size) (fun hx=>hn (ht i hi hx))).trans (h.block i hi (fun hx=>hn (hs i hi hx)))⟩
theorem Mod.trans{S:Nat→Prop}{a b c:World}(h:Mod S a b)(k:Mod S b c):Mod S a c:=h.trans' k (fun _ _ h=>h) (fun _ _ h=>h)
theorem Mod.of_pure{S:Nat→Prop}{w w':World}(h:zb w w'):Mod S w w':=h.mono (fun _ _ h=>h.elim)
theorem Mod.of_grown{S:Nat→Prop}{w w':World}{row:Option Nat}(h:w.grownBy w' row)(hs : ∀ k,row=some k→k<w.heap.size→S k):Mod S w w' :=
 ⟨h.os,h.tape,h.output,h.size,fun k hk hn=>h.block k hk (fun e=>hn (hs k e.symm hk))⟩
theorem Mod.below{S:Nat→Prop}{w w':World}(h:Mod S w w')(hs : ∀ k,k<w.heap.size → ¬ S k):Below w.heap.size w w':=⟨h.os,h.tape,h.output,h.size,fun k hk=>h.block k hk (hs k hk)⟩
theorem Mod.alloc{S:Nat→Prop}{a w:World}(h:Mod S a w)(o:Obj):Mod S a (w.alloc o) :=
 ⟨h.os,h.tape,h.output,zF h.size (by simp),fun k hk hn=>(Below.heap_alloc w o k (vh hk h.size)).trans (h.block k hk hn)⟩
theorem Mod.drew{S:Nat→Prop}{a w:World}(h:Mod S a w):Mod S a w.drew:=⟨h.os,h.tape,h.output,h.size,h.block⟩
theorem Mod.of_drew{S:Nat→Prop}{w w':World}(h:Mod S w.drew w'):Mod S w w':=⟨h.os,h.tape,h.output,h.size,h.block⟩
theorem Mod.drewN{S:Nat→Prop}{a w:World}(h:Mod S a w)(n:Nat):Mod S a (w.drewN n):=⟨h.os,h.tape,h.output,h.size,h.block⟩
theorem Mod.setCell{S:Nat→Prop}{a w:World}(h:Mod S a w){p:Addr}(hp:p.block<a.heap.size→S p.block)(u:Value):Mod S a (w.setCell p u) :=
 ⟨h.os,h.tape,h.output,by simpa[World.setCell]using h.size,fun k hk hn=>(Below.heap_setCell w p u k (fun e=>by subst e;exact hn (hp hk))).trans (h.block k hk hn)⟩
theorem Mod.then{S T:Nat→Prop}{a b c:World}(h:Mod S a b)(k:Mod T b c)(ht : ∀ i,i<a.heap.size→T i→S i):Mod S a c:=h.trans' k (fun _ _ h=>h) ht
theorem Mod.cells{W w1:World}(h:zb W w1):(∀ b o,b<W.heap.size→w1.cell? ⟨b,o,none⟩=W.cell? ⟨b,o,none⟩)∧(∀ b o,b<W.heap.size→w1.frozen? ⟨b,o,none⟩=W.frozen? ⟨b,o,none⟩) :=
 ⟨fun b o hb=>World.cell?_of_block (w:=W) (a:=⟨b,o,none⟩) (h.block b hb (fun h=>h)),fun b o hb=>Xz (w:=W) (a:=⟨b,o,none⟩) (h.block b hb (fun h=>h))⟩
theorem Mod.cell{S:Nat→Prop}{w w':World}(h:Mod S w w'){a:Addr}{v:Value}(hn : ¬ S a.block)(hc:w.cell? a=some v):w'.cell? a=some v :=
 (World.cell?_of_block (w:=w) (h.block a.block (YE w a hc) hn)).trans hc
theorem Mod.heap{S:Nat→Prop}{w w':World}(h:Mod S w w'){k:Nat}{o:Obj}(hn : ¬ S k)(hc:w.heap[k]? = some o):w'.heap[k]? = some o :=
 (h.block k (zm hc) hn).trans hc
theorem Mod.lt{S:Nat→Prop}{w w':World}(h:Mod S w w'){k:Nat}(hk:k<w.heap.size):k<w'.heap.size:=vh hk h.size
theorem zk{w:World}{o:Obj}{n:Nat}(hn:n=w.heap.size):(w.alloc o).heap[n]? = some o:=by subst hn;exact heap_alloc_new w o
theorem zK{w:World}{o x:Obj}{n:Nat}(h:w.heap[n]? = some x):(w.alloc o).heap[n]? = some x:=by
 rw[Below.heap_alloc w o n (zm h)];exact h
theorem xp{w:World}{a:Addr}{v:Value}{x:Obj}{n:Nat}(h:w.heap[n]? = some x)(hn:n≠a.block):(w.setCell a v).heap[n]? = some x:=by
 rw[heap_setCell_other w a n v hn];exact h
theorem Mod.box{S:Nat→Prop}{W w1:World}(h:Mod S W w1){b:Nat}{cs:Array Value}{T:TypeId}(hb:W.heap[b]? = some (.cells cs T (0,0)))(hn : ¬ S b) :
  (∀ i,w1.cell? ⟨b,i,none⟩=cs[i]?)∧(∀ i,w1.frozen? ⟨b,i,none⟩=false):=by
 have:=h.heap hn hb;exact⟨fun i=>zi w1 b i cs T (0,0) this,fun i=>yS w1 b i cs T this⟩
theorem jT(n:Nat)(h:n≤9223372036854775807):wrap64 (n:Int)=n:=IntWalk.wrap64_in _ (by omega)
theorem zkB(n:Nat)(h:n≤4294967295):wrap64 (n:Int)%4294967296=n:=by rw[jT n (by omega)];omega
def zr(w:World)(v:Value)(k:Nat)(xs:List Value):Prop :=
 ∃(a:Option Addr) (n c:Nat),v=.slice a n c∧xs.length=n*k∧(∀ u∈xs,u.oneCell'=true)∧(a=none→n=0) ∧ ∀ ad,a=some ad → ∀ j u,xs[j]? = some u→w.cell? (ad.add j)=some u
theorem zr.nil(w:World)(k:Nat):zr w (.slice none 0 0) k []:=⟨none,0,0,rfl,by simp,by simp,fun _=>rfl,fun _ h=>by cases h⟩
def ui:Value→Option Nat
 | .slice (some a) n _=>if n=0 then none else some a.block
 | _=>none
theorem U9{v:Value}{g:Nat}(h:ui v=some g):v.ownBlock=some g:=by
 unfold ui at h;split at h
 ·split at h
  ·cases h
  ·exact h
 ·cases h
theorem zdc(ad:Addr)(j:Nat):(ad.add j).block=ad.block:=by unfold Addr.add;split<;>rfl
theorem zr.frame{w w':World}{v:Value}{k:Nat}{xs:List Value}{S:Nat→Prop}(h:zr w v k xs)(hm:Mod S w w')(hn : ∀ g,ui v=some g → ¬ S g):zr w' v k xs:=by
 obtain⟨a,n,c,rfl,hl,h1,h0,hc⟩:=h;refine⟨a,n,c,rfl,hl,h1,h0,fun ad ha j u hu => ?_⟩;refine hm.cell ?_ (hc ad ha j u hu);rw[zdc];refine hn ad.block ?_;subst ha;have:n≠0:=by
  rintro rfl;have:xs=[]:=qk (by simpa using hl);subst this
  cases hu
 simp[ui,this]
theorem zr.lt{w:World}{v:Value}{k:Nat}{xs:List Value}(h:zr w v k xs)(hk:0<k){g:Nat}(hg:ui v=some g):g<w.heap.size:=by
 obtain⟨a,n,c,rfl,hl,h1,h0,hc⟩:=h
 cases a with
 | none=>cases hg
 | some ad =>
  simp only[ui]at hg;split at hg
  ·cases hg
  ·cases hg
   have hp:0<xs.length:=by rw[hl];exact Nat.mul_pos (by omega) hk
   have:=YE w _ (hc ad rfl 0 _ (zO hp))
   rwa [zdc]at this
theorem zr.of_owns{w:World}{e:TypeId}{k:Nat}{v:Value}{n:Nat}{xs:List Value}(h:w.ownsRow 0 e k v n xs)(h1 : ∀ u∈xs,u.oneCell'=true):zr w v k xs:=by
 obtain⟨hl,hv⟩:=h;rcases hv with⟨rfl,rfl⟩ | ⟨g,cap,cur,rfl,hb,hg,hnc,hcm,hcs,ht⟩
 ·have:xs=[]:=qk (by simpa using hl);subst this;exact zr.nil w k
 ·have hown:w.ownsRow 0 e k (.slice (some ⟨g,0,none⟩) n cap) n xs:=⟨hl,.inr ⟨g,cap,cur,rfl,hb,hg,hnc,hcm,hcs,ht⟩⟩;exact⟨some ⟨g,0,none⟩,n,cap,rfl,hl,h1,(fun h=>by cases h),fun ad ha j u hu=>by cases ha;exact hown.cells rfl j u hu⟩
theorem uO{α β:Type}(f:α→List β)(k:Nat)(hf : ∀ a,(f a).length=k)(j:Nat)(hj:j<k) : ∀(M:List α) (i:Nat),(M.flatMap f)[i*k+j]? = (M[i]?).bind fun m=>(f m)[j]?
 | [],i=>by simp
 | a::M,0=>by
  simp only[List.flatMap_cons,Nat.zero_mul,Nat.zero_add,List.getElem?_cons_zero,Option.bind_some];rw[uw (by rw[hf];exact hj)]
 | a::M,i+1=>by
  have e:(i+1)*k+j=(f a).length+(i*k+j):=by rw[hf,Nat.add_mul];omega
  simp only[List.flatMap_cons,List.getElem?_cons_succ];rw[e,jn (Nat.le_add_right _ _),Nat.add_sub_cancel_left];exact uO f k hf j hj M i
theorem Yo{α β:Type}(f:α→List β)(k:Nat)(hf : ∀ a,(f a).length=k) : ∀(M:List α),(M.flatMap f).length=M.length*k
 | []=>by simp
 | a::M=>by simp only[List.flatMap_cons,List.length_append,hf,Yo f k hf M,List.length_cons,Nat.add_mul];omega
theorem jc{w:World}{T k:Nat}{v:Value}{n:Nat}{xs:List Value}(h:w.ownsRow 0 T k v n xs) : ∃ a c,v=.slice a n c∧n≤c:=by
 rcases h.2 with⟨rfl,rfl⟩ | ⟨g,cap,cur,rfl,_,_,hnc,_⟩
 ·exact⟨none,0,rfl,zN _⟩
 ·exact⟨_,_,rfl,hnc⟩
theorem ko{w:World}{T k:Nat}{v:Value}{n:Nat}{xs:List Value}(h:w.ownsRow 0 T k v n xs)(hn:0<n) :
  ∃ g c,v=.slice (some ⟨g,0,none⟩) n c∧n≤c∧g<w.heap.size∧(∀ j u,xs[j]? = some u→w.cell? ⟨g,j,none⟩=some u)∧(∀ j,w.frozen? ⟨g,j,none⟩=false) ∧ ∃ cur,w.heap[g]? = some (.cells cur T (0,0))∧cur.size=c*k∧cur.toList.take (n*k)=xs∧c≤maxLen:=by
 obtain⟨hl,hv⟩:=h;rcases hv with⟨_,h0⟩ | ⟨g,cap,cur,rfl,hb,hg,hnc,hm,hcs,ht⟩
 ·omega
 ·refine⟨g,cap,rfl,hnc,zm hg,fun j u hu => ?_,fun j=>yS w g j cur T hg,cur,hg,hcs,ht,hm⟩;rw[zi w g j cur T (0,0) hg];rw[← ht,j4]at hu;split at hu
  ·simpa using hu
  ·cases hu
theorem Qg{w w':World}{T k:Nat}{v:Value}{n:Nat}{xs:List Value}(h:w.ownsRow 0 T k v n xs)(hn : ∀ g,v.ownBlock=some g→g<w.heap.size→w'.heap[g]? = w.heap[g]?):w'.ownsRow 0 T k v n xs:=by
 refine⟨h.1,?_⟩;rcases h.2 with h2 | ⟨g,cap,cur,rfl,hb,hg,rest⟩
 ·exact .inl h2
 ·exact .inr ⟨g,cap,cur,rfl,hb,(hn g rfl (zm hg)).trans hg,rest⟩
theorem zz{w w':World}{T k:Nat}{v:Value}{n:Nat}{xs:List Value}{S:Nat→Prop}(h:w.ownsRow 0 T k v n xs)(hm:Mod S w w')(hn : ∀ g,v.ownBlock=some g → ¬ S g):w'.ownsRow 0 T k v n xs:=by
 refine⟨h.1,?_⟩;rcases h.2 with h2 | ⟨g,cap,cur,rfl,hb,hg,rest⟩
 ·exact .inl h2
 ·exact .inr ⟨g,cap,cur,rfl,hb,hm.heap (hn g rfl) hg,rest⟩
theorem yd{w:World}{T k:Nat}{v:Value}{n:Nat}{xs:List Value}(h:w.ownsRow 0 T k v n xs){g:Nat}(hg:v.ownBlock=some g) : ∃ cur,w.heap[g]? = some (.cells cur T (0,0)):=by
 rcases h.2 with⟨rfl,_⟩ | ⟨g',cap,cur,rfl,_,hb,_⟩
 ·cases hg
 ·cases hg;exact⟨cur,hb⟩
theorem xV{w:World}{T k:Nat}{v:Value}{n:Nat}{xs:List Value}(h:w.ownsRow 0 T k v n xs){g:Nat}(hg:v.ownBlock=some g):g<w.heap.size:=(h.lt g hg).2
theorem zez{w:World}{T T' k k':Nat}{v v':Value}{n n':Nat}{xs xs':List Value}(h:w.ownsRow 0 T k v n xs)(h':w.ownsRow 0 T' k' v' n' xs')(hT:T≠T'){g:Nat}(hg:v.ownBlock=some g):v'.ownBlock≠some g:=by
 intro hg';obtain⟨c,e⟩:=yd h hg;obtain⟨c',e'⟩:=yd h' hg';rw[e]at e'
 cases e'
 exact hT rfl
theorem zr.of_block{w:World}{B:Nat}{cs:Array Value}{T:TypeId}{fr:Nat × Nat}(n c k:Nat)(hb:w.heap[B]? = some (.cells cs T fr))(hl:cs.toList.length=n*k)(h1 : ∀ u∈cs.toList,u.oneCell'=true) :
  zr w (.slice (some ⟨B,0,none⟩) n c) k cs.toList :=
 ⟨some ⟨B,0,none⟩,n,c,rfl,hl,h1,(fun h=>by cases h),fun ad ha j u hu=>by cases ha;exact World.news_of_block hb j u hu⟩
theorem uT{w:World}{T k g n c:Nat}{xs:List Value}(h:w.ownsRow 0 T k (.slice (some ⟨g,0,none⟩) n c) n xs)(j:Nat)(u:Value)(hj:j<n*k) :
  (w.setCell ⟨g,j,none⟩ u).ownsRow 0 T k (.slice (some ⟨g,0,none⟩) n c) n (xs.set j u):=by
 obtain⟨hl,hv⟩:=h;refine⟨by rw[xC];exact hl,.inr ?_⟩;rcases hv with⟨hv,_⟩ | ⟨g',cap,cur,hv,hb,hg,hnc,hm,hcs,ht⟩
 ·cases hv
 ·cases hv
  refine⟨g,c,cur.setIfInBounds j u,rfl,hb,zX w g j cur T u hg,hnc,hm,by rw[Array.size_setIfInBounds];exact hcs,?_⟩;rw[Array.toList_setIfInBounds,List.take_set,ht]
theorem Zt(k j:Nat)(hj:j<k)(u:Value) : ∀(R:List (List Value)) (_ : ∀ r∈R,r.length=k) (i:Nat),R.flatten.set (i*k+j) u=(R.modify i (fun r=>r.set j u)).flatten
 | [],_,i=>by simp
 | r::R,hR,0=>by
  simp only[Nat.zero_mul,Nat.zero_add,List.flatten_cons,List.modify_zero_cons];rw[List.set_append_left _ _ (by rw[hR r (by simp)];exact hj)]
 | r::R,hR,i+1=>by
  have hr:r.length=k:=hR r (by simp);simp only[List.flatten_cons,List.modify_succ_cons];rw[XO _ _ (by rw[hr,Nat.add_mul];omega)];have e:(i+1)*k+j-r.length=i*k+j:=by rw[hr,Nat.add_mul];omega
  rw[e,Zt k j hj u R (fun r h=>hR r (by simp[h])) i]
theorem ZY{R:List (List Value)}{k:Nat}(hR : ∀ r∈R,r.length=k)(i j:Nat)(u:Value) : ∀ r∈R.modify i (fun r=>r.set j u),r.length=k:=by
 intro r hr;obtain⟨n,hn⟩:=List.mem_iff_getElem?.1 hr;rw[Js]at hn
 cases h:R[n]? with
 | none=>simp[h]at hn
 | some r0 =>
  have h0:=hR r0 (ym h);simp only[h,Option.map_some]at hn;split at hn<;>(cases hn;simp[h0])
theorem zcQ{α:Type}(f:α→List Value)(h:List Value→List Value)(m':α) : ∀(M:List α) (i:Nat) (m:α),M[i]? = some m→h (f m)=f m'→(M.map f).modify i h=(M.set i m').map f
 | [],i,m,hi,_=>by simp at hi
 | a::M,0,m,hi,hm=>by simp at hi;subst hi;simp[hm]
 | a::M,i+1,m,hi,hm=>by
  have:=zcQ f h m' M i m (by simpa using hi) hm;simp only[List.map_cons,List.modify_succ_cons,List.set_cons_succ,this]
section
variable{P:Program}(w:World)
theorem zdE(t ty e:TypeId)(i:TypeInfo)(z:Value)(k bytes:Nat)(ht:P.underlying t=some (.slice e))(hi:P.info? e=some i)(hz:i.zero=some z)
  (hsize:i.size=k) (hby:i.bytes=bytes) (hzs:z.cells.size=k) (hsz:0<k)
  (v:Value) (n:Nat) (xs:List Value) (hown:w.ownsRow 0 e k v n xs) (x:Value) (ys:List Value) (m:Nat) (hx:zr w x k ys) (hm:ys.length=m*k)
  (h63:n+m≤maxLen) (hbytes:(n+m)*bytes≤140737488355328) :
  ∃ a' c' w',(Builtin.append_ #[t,t] ty #[v,x]).run P w=.ok (.slice a' (n+m) c') w'∧w'.ownsRow 0 e k (.slice a' (n+m) c') (n+m) (xs++ys)∧w.grownBy w' v.ownBlock∧((Value.slice a' (n+m) c').ownBlock=v.ownBlock∨(Value.slice a' (n+m) c').ownBlock=some w.heap.size):=by
 suffices hs : ∃ v' w',(Builtin.append_ #[t,t] ty #[v,x]).run P w=.ok v' w'∧w'.ownsRow 0 e k v' (n+m) (xs++ys)∧w.grownBy w' v.ownBlock∧(v'.ownBlock=v.ownBlock∨v'.ownBlock=some w.heap.size) by
  obtain⟨v',w',r1,r2,r3,r4⟩:=hs;obtain⟨a',c',rfl,_⟩:=jc r2;exact⟨a',c',w',r1,r2,r3,r4⟩
 obtain⟨a,m',c,rfl,hl,h1,h0,hc⟩:=hx;have em:m'=m:=Nat.eq_of_mul_eq_mul_right hsz (hl.symm.trans hm);subst em
 cases a with
 | some ad =>
  obtain⟨v',w',r1,r2,r3,_,r5⟩:=run_append_own_at (P:=P) w 0 t ty e i z k bytes ht hi hz hsize hby hzs hsz v n xs hown ad m' c ys hl (fun j u hu=>hc ad rfl j u hu) h1 h63 hbytes (yq _);exact⟨v',w',r1,r2,r3,r5⟩
 | none =>
  have hm0:=h0 rfl;subst hm0;have hy:ys=[]:=qk (by simpa using hl);subst hy;refine⟨v,w,?_,by simpa using hown,⟨rfl,rfl,rfl,zN _,fun _ _ _=>rfl⟩,.inl rfl⟩;rcases hown.2 with⟨rfl,rfl⟩ | ⟨g,cap,cur,rfl,_,hg,hnc,_⟩
  ·simp[Builtin.append_,run_underlying ht,sizeOf,typeInfo,hi,Builtin.lenOf,Builtin.firstCells,loadCells,loadCellsFrom]
  ·simp[Builtin.append_,run_underlying ht,sizeOf,typeInfo,hi,Builtin.lenOf,Builtin.firstCells,hnc,storeCells]
theorem zaL{o:Oper}{a:Act}{K:Act→World→Prop}{Q:Exit→Act→World→Prop}(s x:Operand)(t:TypeId)
  (ho:o.op=.call {callee := .builtin .append,args:=#[s,x],argTypes:=#[t,t]})
  (e:TypeId) (i:TypeInfo) (z:Value) (k bytes:Nat) (ht:P.underlying t=some (.slice e)) (hi:P.info? e=some i) (hz:i.zero=some z)
  (hsize:i.size=k) (hby:i.bytes=bytes) (hzs:z.cells.size=k) (hsz:0<k)
  (v:Value) (n:Nat) (xs:List Value) (hs:a.eval s=v) (hown:w.ownsRow 0 e k v n xs) (xv:Value) (ys:List Value) (m:Nat) (hxv:a.eval x=xv) (hx:zr w xv k ys) (hm:ys.length=m*k)
  (h63:n+m≤maxLen) (hbytes:(n+m)*bytes≤140737488355328)
  (h : ∀ a' c' w',w'.ownsRow 0 e k (.slice a' (n+m) c') (n+m) (xs++ys)→w.grownBy w' v.ownBlock→((Value.slice a' (n+m) c').ownBlock=v.ownBlock∨(Value.slice a' (n+m) c').ownBlock=some w.heap.size)→K (a.put o.dst (.slice a' (n+m) c')) w'):o.wp P a w K Q:=by
 obtain⟨a',c',w',hr,h2,h3,h4⟩:=zdE (P:=P) w t o.type e i z k bytes ht hi hz hsize hby hzs hsz v n xs hown xv ys m hx hm h63 hbytes;unfold Oper.wp execOp;simp only[ho,resolve,invoke,builtin,Sem.run_bind,Sem.run_pure,Result.andThen_ok,List.map_toArray,List.map_cons,List.map_nil,hs,hxv,hr];exact h a' c' w' h2 h3 h4
theorem uX{ops:Array Oper}{rest:List Oper}{o:Oper}{a:Act}{Q:Exit→Act→World→Prop}(hgd:o.guard=none)(s x:Operand)(t:TypeId)
  (ho:o.op=.call {callee := .builtin .append,args:=#[s,x],argTypes:=#[t,t]})
  (e:TypeId) (i:TypeInfo) (z:Value) (k bytes:Nat) (ht:P.underlying t=some (.slice e)) (hi:P.info? e=some i) (hz:i.zero=some z)
  (hsize:i.size=k) (hby:i.bytes=bytes) (hzs:z.cells.size=k) (hsz:0<k)
  (v:Value) (n:Nat) (xs:List Value) (hs:a.eval s=v) (hown:w.ownsRow 0 e k v n xs) (xv:Value) (ys:List Value) (m:Nat) (hxv:a.eval x=xv) (hx:zr w xv k ys) (hm:ys.length=m*k)
  (h63:n+m≤maxLen) (hbytes:(n+m)*bytes≤140737488355328)
  (h : ∀ a' c' w',w'.ownsRow 0 e k (.slice a' (n+m) c') (n+m) (xs++ys)→w.grownBy w' v.ownBlock→((Value.slice a' (n+m) c').ownBlock=v.ownBlock∨(Value.slice a' (n+m) c').ownBlock=some w.heap.size)→wpList P ops Q rest (a.put o.dst (.slice a' (n+m) c')) w'):wpList P ops Q (o::rest) a w :=
 wpList_plain hgd fun _ hK=>zaL w s x t ho e i z k bytes ht hi hz hsize hby hzs hsz v n xs hs hown xv ys m hxv hx hm h63 hbytes fun a' c' w' h2 h3 h4=>hK _ _ (h a' c' w' h2 h3 h4)
theorem YI{ops:Array Oper}{o:Oper}{a:Act}{K:Act→World→Prop}{Q:Exit→Act→World→Prop}{E:Prop}(hgd:o.guard=none)(s x:Operand)(t:TypeId)
  (ho:o.op=.call {callee := .builtin .append,args:=#[s,x],argTypes:=#[t,t]})
  (e:TypeId) (i:TypeInfo) (z:Value) (k bytes:Nat) (ht:P.underlying t=some (.slice e)) (hi:P.info? e=some i) (hz:i.zero=some z)
  (hsize:i.size=k) (hby:i.bytes=bytes) (hzs:z.cells.size=k) (hsz:0<k)
  (v:Value) (n:Nat) (xs:List Value) (hs:a.eval s=v) (hown:w.ownsRow 0 e k v n xs) (xv:Value) (ys:List Value) (m:Nat) (hxv:a.eval x=xv) (hx:zr w xv k ys) (hm:ys.length=m*k)
  (h63:n+m≤maxLen) (hbytes:(n+m)*bytes≤140737488355328)
  (h : ∀ a' c' w',w'.ownsRow 0 e k (.slice a' (n+m) c') (n+m) (xs++ys)→w.grownBy w' v.ownBlock→((Value.slice a' (n+m) c').ownBlock=v.ownBlock∨(Value.slice a' (n+m) c').ownBlock=some w.heap.size)→K (a.put o.dst (.slice a' (n+m) c')) w') :
  if Region.wanted o (yielded ops a.tmps)=true then Oper.wp P o a w K Q else E:=by
 have hw:Region.wanted o (yielded ops a.tmps)=true:=by simp[Region.wanted,hgd]
 rw[zj hw];exact zaL w s x t ho e i z k bytes ht hi hz hsize hby hzs hsz v n xs hs hown xv ys m hxv hx hm h63 hbytes h
end
def zC:List Nat→Nat
 | []=>0
 | b::l=>256*zC l+b
def zM:List Bool→Nat
 | []=>0
 | b::l=>2*zM l+b.toNat
def vj(l:List Nat):Prop:=l.length=8 ∧ ∀ c∈l,c<256
theorem zf0(f:Nat→Nat→Nat)(g:Bool→Bool→Bool)(hf : ∀ a b i,(f a b).testBit i=g (a.testBit i) (b.testBit i))(hlt : ∀ a b,a<2 ^ 8→b<2 ^ 8→f a b<2 ^ 8)(a b x y:Nat)(ha:a<256)(hb:b<256) :
  f (256*x+a) (256*y+b)=256*f x y+f a b:=by
 apply qF;intro i;have e:(256:Nat)=2 ^ 8:=rfl;rw[hf,e,Yd x ha i,Yd y hb i,Yd (f x y) (hlt a b ha hb) i];split<;>rw[hf]
theorem VT(f:Nat→Nat→Nat)(g:Bool→Bool→Bool)(h00:f 0 0=0)(hf : ∀ a b i,(f a b).testBit i=g (a.testBit i) (b.testBit i))(hlt : ∀ a b,a<2 ^ 8→b<2 ^ 8→f a b<2 ^ 8)(s t:Nat→Nat) :
  ∀ l:List Nat,(∀ c∈l,s c<256)→(∀ c∈l,t c<256)→f (zC (l.map s)) (zC (l.map t))=zC (l.map (fun c=>f (s c) (t c)))
 | [],_,_=>h00
 | c::l,hs,ht=>by
  simp only[List.map_cons,zC];rw[zf0 f g hf hlt _ _ _ _ (hs c (by simp)) (ht c (by simp)),VT f g h00 hf hlt s t l (fun c h=>hs c (by simp[h])) (fun c h=>ht c (by simp[h]))]
theorem zaf(s t:Nat→Nat)(l:List Nat)(hs : ∀ c∈l,s c<256)(ht : ∀ c∈l,t c<256):zC (l.map s) ^^^ zC (l.map t)=zC (l.map (fun c=>s c ^^^ t c)) :=
 VT (· ^^^ ·) Bool.xor rfl Nat.testBit_xor (fun _ _=>qS) s t l hs ht
theorem KH(s t:Nat→Nat)(l:List Nat)(hs : ∀ c∈l,s c<256)(ht : ∀ c∈l,t c<256):zC (l.map s) &&& zC (l.map t)=zC (l.map (fun c=>s c &&& t c)) :=
 VT (· &&& ·) and rfl Nat.testBit_and (fun a b ha _=>jm Nat.and_le_left ha) s t l hs ht
theorem Kf(s t:Nat→Nat)(l:List Nat)(hs : ∀ c∈l,s c<256)(ht : ∀ c∈l,t c<256):zC (l.map s) ||| zC (l.map t)=zC (l.map (fun c=>s c ||| t c)) :=
 VT (· ||| ·) or rfl Nat.testBit_or (fun _ _=>Ze) s t l hs ht
theorem QF(s t:Nat→Nat) : ∀ l:List Nat,zC (l.map s)+zC (l.map t)=zC (l.map (fun c=>s c+t c))
 | []=>rfl
 | c::l=>by simp only[List.map_cons,zC];rw[← QF s t l];omega
theorem QK : ∀ l:List Nat,(∀ c∈l,c<256)→zC l<256 ^ l.length
 | [],_=>by simp[zC]
 | c::l,h=>by
  have h1:=QK l (fun c hc=>h c (by simp[hc]));have h2:=h c (by simp);simp only[zC,List.length_cons,Nat.pow_succ];omega
theorem vj.lt{l:List Nat}(h:vj l):zC l<18446744073709551616:=by have:=QK l h.2;rw[h.1]at this;simpa using this
theorem vj.map{l:List Nat}(h:vj l){s:Nat→Nat}(hs : ∀ c,c<256→s c<256):vj (l.map s):=⟨by simp[h.1],fun c hc=>by obtain⟨a,ha,rfl⟩:=zI.1 hc;exact hs a (h.2 a ha)⟩
theorem Vs(k:Nat){l:List Nat}(h:l.length=8):zC (l.map (fun _=>k))=72340172838076673*k:=by
 have:l.map (fun _=>k)=[k,k,k,k,k,k,k,k]:=by
  rw[show(fun _:Nat=>k)=Function.const Nat k from rfl,List.map_const,h];rfl
 rw[this];simp only[zC];omega
theorem vj.eight{l:List Nat}(h:vj l) : ∃ a b c d e f g i,l=[a,b,c,d,e,f,g,i]:=by
 obtain⟨hl,_⟩:=h
 match l,hl with
 | [a,b,c,d,e,f,g,i],_=>exact⟨a,b,c,d,e,f,g,i,rfl⟩
theorem j5{α:Type}{l:List α}(hl:l.length=8) : ∃ a b c d e f g i,l=[a,b,c,d,e,f,g,i]:=by
 match l,hl with
 | [a,b,c,d,e,f,g,i],_=>exact⟨a,b,c,d,e,f,g,i,rfl⟩
theorem zky : ∀ x<256,255 ^^^ ((((x &&& 127)+127) ||| x) ||| 127)=if x=0 then 128 else 0:=by decide +kernel
theorem zfA{a b:Nat}(h:a ^^^ b=0):a=b:=by
 apply qF;intro i;have:(a ^^^ b).testBit i=false:=by rw[h];simp
 rw[Nat.testBit_xor]at this
 cases ha:a.testBit i<;>cases hb:b.testBit i<;>simp[ha,hb]at this<;>rfl
theorem zgj{l:List Nat}(h:vj l)(b:Nat)(hb:b<256) :
  18446744073709551615 ^^^ (((((zC l ^^^ (72340172838076673*b)) &&& 9187201950435737471)+9187201950435737471) ||| (zC l ^^^ (72340172838076673*b))) ||| 9187201950435737471) =
   zC (l.map (fun c=>if c=b then 128 else 0)):=by
 have hx : ∀ c∈l,c ^^^ b<256:=fun c hc=>qS (n:=8) (h.2 c hc) hb
 have ha : ∀ c∈l,(c ^^^ b) &&& 127<128:=fun c hc=>by have:(c ^^^ b) &&& 127≤127:=Nat.and_le_right;omega
 have h1:zC l ^^^ (72340172838076673*b)=zC (l.map (fun c=>c ^^^ b)):=by
  have:=zaf id (fun _=>b) l (by simpa using h.2) (fun _ _=>hb)
  rwa [Vs b h.1,List.map_id]at this
 have k127:(9187201950435737471:Nat)=zC (l.map (fun _=>127)):=by rw[Vs 127 h.1]
 have k255:(18446744073709551615:Nat)=zC (l.map (fun _=>255)):=by rw[Vs 255 h.1]
 rw[h1,k127,k255,KH _ _ _ hx (fun _ _=>by omega),QF,Kf _ _ _ (fun c hc=>by have:=ha c hc;omega) hx,
  Kf _ _ _ (fun c hc=>Ze (n:=8) (by have:=ha c hc;omega) (hx c hc)) (fun _ _=>by omega),
  zaf _ _ _ (fun _ _=>by omega) (fun c hc=>Ze (n:=8) (Ze (n:=8) (by have:=ha c hc;omega) (hx c hc)) (by omega))]
 congr 1
 apply uI;intro c hc;rw[zky _ (hx c hc)];by_cases e:c=b
 ·subst e;simp
 ·rw[zh e,zh (fun h=>e (zfA h))]
theorem zjj{l:List Nat}(h:vj l)(b:Nat)(hb:b<256) :
  (((zC l ^^^ (72340172838076673*b)) &&& 9187201950435737471)+9187201950435737471)<18446744073709551616:=by
 have:(zC l ^^^ (72340172838076673*b)) &&& 9187201950435737471≤9187201950435737471:=Nat.and_le_right;omega
theorem ziM{l:List Nat}(p:Nat→Bool):l.map (fun c=>if p c then 128 else 0)=(l.map p).map (fun b=>if b then 128 else 0):=by
 rw[qX];rfl
theorem zf2 : ∀ a b c d e f g i:Bool,(zC ([a,b,c,d,e,f,g,i].map (fun b=>if b then 128 else 0))/128*72624976668147840%18446744073709551616)/72057594037927936%256=zM [a,b,c,d,e,f,g,i]:=by decide +kernel
theorem Q2{p:List Bool}(h:p.length=8):(zC (p.map (fun b=>if b then 128 else 0))/128*72624976668147840%18446744073709551616)/72057594037927936%256=zM p:=by
 obtain⟨a,b,c,d,e,f,g,i,rfl⟩:=j5 h;exact zf2 a b c d e f g i
theorem zih{l:List Nat}(h:vj l):zC l &&& 9259542123273814144=zC (l.map (fun c=>if decide (128≤c)then 128 else 0)):=by
 have k:(9259542123273814144:Nat)=zC (l.map (fun _=>128)):=by rw[Vs 128 h.1]
 have:=KH id (fun _=>128) l (by simpa using h.2) (fun _ _=>by omega);rw[List.map_id]at this;rw[k,this]
 congr 1
 apply uI;intro c hc;have : ∀ c<256,c &&& 128=if decide (128≤c)then 128 else 0:=by decide +kernel
 exact this c (h.2 c hc)
theorem uG(n:Nat)(h:n<18446744073709551616):IntKind.u64.wrap (n:Int)=n:=by
 simp[IntKind.wrap,IntKind.signed,IntKind.bits];omega
theorem JR(n:Nat)(h:n<256):IntKind.u8.wrap (n:Int)=n:=by
 simp[IntKind.wrap,IntKind.signed,IntKind.bits];omega
theorem us(k:Nat)(n:Nat):BitVec.ofInt k (n:Int)=BitVec.ofNat k n:=by
 apply BitVec.eq_of_toNat_eq;simp[BitVec.toNat_ofInt]
theorem Yn(a b:Nat)(ha:a<18446744073709551616)(hb:b<18446744073709551616):bits .xor .u64 (a:Int) (b:Int)=((a ^^^ b:Nat):Int):=by
 have h:a ^^^ b<2 ^ 64:=qS ha hb
 show IntKind.u64.wrap (((BitVec.ofInt 64 (a:Int) ^^^ BitVec.ofInt 64 (b:Int)).toNat:Nat):Int)=_
 rw[us,us];rw[BitVec.toNat_xor,ut,ut,xS (by omega),xS (by omega)];exact uG _ (by omega)
theorem XI(a b:Nat)(ha:a<18446744073709551616)(hb:b<18446744073709551616):bits .and .u64 (a:Int) (b:Int)=((a &&& b:Nat):Int):=by
 have h:a &&& b<2 ^ 64:=Nat.and_lt_two_pow _ hb
 show IntKind.u64.wrap (((BitVec.ofInt 64 (a:Int) &&& BitVec.ofInt 64 (b:Int)).toNat:Nat):Int)=_
 rw[us,us];rw[BitVec.toNat_and,ut,ut,xS (by omega),xS (by omega)];exact uG _ (by omega)
theorem VO(a b:Nat)(ha:a<18446744073709551616)(hb:b<18446744073709551616):bits .or .u64 (a:Int) (b:Int)=((a ||| b:Nat):Int):=by
 have h:a ||| b<2 ^ 64:=Ze ha hb
 show IntKind.u64.wrap (((BitVec.ofInt 64 (a:Int) ||| BitVec.ofInt 64 (b:Int)).toNat:Nat):Int)=_
 rw[us,us];rw[BitVec.toNat_or,ut,ut,xS (by omega),xS (by omega)];exact uG _ (by omega)
theorem zbJ(a b:Nat)(ha:a<256)(hb:b<256):bits .or .u8 (a:Int) (b:Int)=((a ||| b:Nat):Int):=by
 have h:a ||| b<2 ^ 8:=Ze ha hb
 show IntKind.u8.wrap (((BitVec.ofInt 8 (a:Int) ||| BitVec.ofInt 8 (b:Int)).toNat:Nat):Int)=_
 rw[us,us];rw[BitVec.toNat_or,ut,ut,xS (by omega),xS (by omega)];exact JR _ (by omega)
theorem KP(a b:Nat)(ha:a<256)(hb:b<256):bits .and .u8 (a:Int) (b:Int)=((a &&& b:Nat):Int):=by
 have h:a &&& b<2 ^ 8:=Nat.and_lt_two_pow _ hb
 show IntKind.u8.wrap (((BitVec.ofInt 8 (a:Int) &&& BitVec.ofInt 8 (b:Int)).toNat:Nat):Int)=_
 rw[us,us];rw[BitVec.toNat_and,ut,ut,xS (by omega),xS (by omega)];exact JR _ (by omega)
theorem ze9(a b:Nat)(ha:a<256)(hb:b<256):bits .xor .u8 (a:Int) (b:Int)=((a ^^^ b:Nat):Int):=by
 have h:a ^^^ b<2 ^ 8:=qS ha hb
 show IntKind.u8.wrap (((BitVec.ofInt 8 (a:Int) ^^^ BitVec.ofInt 8 (b:Int)).toNat:Nat):Int)=_
 rw[us,us];rw[BitVec.toNat_xor,ut,ut,xS (by omega),xS (by omega)];exact JR _ (by omega)
theorem KN(a b c:Nat)(ha:a<18446744073709551616)(hb:b<18446744073709551616)(hc:c=18446744073709551615-b):bits .andNot .u64 (a:Int) (b:Int)=((a &&& c:Nat):Int):=by
 subst hc;have h:a &&& (18446744073709551615-b)<2 ^ 64:=jm Nat.and_le_left ha
 show IntKind.u64.wrap (((BitVec.ofInt 64 (a:Int) &&& ~~~ BitVec.ofInt 64 (b:Int)).toNat:Nat):Int)=_
 rw[us,us];rw[BitVec.toNat_and,BitVec.toNat_not,ut,ut,xS (a:=a) (by omega),xS (a:=b) (by omega)];exact uG _ (by simpa using h)
theorem zhX:(if IntKind.u64.signed=true then(-1:Int)else IntKind.u64.max)=((18446744073709551615:Nat):Int):=by decide
theorem zhO:(if IntKind.u8.signed=true then(-1:Int)else IntKind.u8.max)=((255:Nat):Int):=by decide
theorem jA{p:List Bool}(h:p.length=8):zM p<256:=by
 obtain⟨a,b,c,d,e,f,g,i,rfl⟩:=j5 h;have : ∀ a b c d e f g i:Bool,zM [a,b,c,d,e,f,g,i]<256:=by decide +kernel
 exact this ..
theorem zhK{p:List Bool}(h:p.length=8):255 ^^^ zM p=zM (p.map not):=by
 obtain⟨a,b,c,d,e,f,g,i,rfl⟩:=j5 h;have : ∀ a b c d e f g i:Bool,255 ^^^ zM [a,b,c,d,e,f,g,i]=zM ([a,b,c,d,e,f,g,i].map not):=by decide +kernel
 exact this ..
theorem J5{p:List Bool}(h:p.length=8):decide (zM p=0) = !p.any id:=by
 obtain⟨a,b,c,d,e,f,g,i,rfl⟩:=j5 h;have : ∀ a b c d e f g i:Bool,decide (zM [a,b,c,d,e,f,g,i]=0) = !([a,b,c,d,e,f,g,i].any id):=by decide +kernel
 exact this ..
theorem zhm{p:List Bool}(h:p.length=8):decide (zM p=255)=p.all id:=by
 obtain⟨a,b,c,d,e,f,g,i,rfl⟩:=j5 h;have : ∀ a b c d e f g i:Bool,decide (zM [a,b,c,d,e,f,g,i]=255)=([a,b,c,d,e,f,g,i].all id):=by decide +kernel
 exact this ..
theorem zaR{p:List Bool}(h:p.length=8)(j:Nat)(hj:j<8):zM p/2 ^ j &&& 1=(p.getD j false).toNat:=by
 obtain⟨a,b,c,d,e,f,g,i,rfl⟩:=j5 h;have : ∀ a b c d e f g i:Bool,∀ j<8,zM [a,b,c,d,e,f,g,i]/2 ^ j &&& 1=([a,b,c,d,e,f,g,i].getD j false).toNat:=by decide +kernel
 exact this _ _ _ _ _ _ _ _ j hj
theorem Kt : ∀(l:List Nat) (s t:Nat→Bool),zM (l.map s) ||| zM (l.map t)=zM (l.map (fun c=>s c||t c))
 | [],_,_=>by simp[zM]
 | c::l,s,t=>by
  simp only[List.map_cons,zM];rw[← Kt l s t];apply qF;intro i;have hb : ∀ b:Bool,b.toNat<2 ^ 1:=fun b=>by cases b<;>decide
  have e : ∀(x:Nat) (b:Bool),2*x+b.toNat=2 ^ 1*x+b.toNat:=fun _ _=>rfl
  rw[Nat.testBit_or,e,e,e,Yd _ (hb _),Yd _ (hb _),Yd _ (hb _)];split
  ·have:i=0:=by omega
   subst this
   cases s c<;>cases t c<;>rfl
  ·rw[Nat.testBit_or]
def vI(m:Nat):List Nat:=(List.range 8).filter m.testBit
def jq(m:Nat):Nat:=(vI m).headD 8
theorem KI{p:List Bool}(h:p.length=8):vI (zM p)=(List.range 8).filter (fun i=>p.getD i false):=by
 obtain⟨a,b,c,d,e,f,g,i,rfl⟩:=j5 h;have : ∀ a b c d e f g i:Bool,vI (zM [a,b,c,d,e,f,g,i])=(List.range 8).filter (fun j=>[a,b,c,d,e,f,g,i].getD j false):=by decide +kernel
 exact this ..
theorem zlR : ∀ m<256,m≠0→vI m=jq m::vI (m &&& (m-1))∧jq m<8∧m &&& (m-1)<m:=by decide +kernel
theorem zlD : ∀ m<256,jq m≤8:=by decide +kernel
theorem zg9:vI 0=[]:=by decide
theorem zlU{p:List Bool}(h:p.length=8):jq (zM p)=p.findIdx id:=by
 obtain⟨a,b,c,d,e,f,g,i,rfl⟩:=j5 h;have : ∀ a b c d e f g i:Bool,jq (zM [a,b,c,d,e,f,g,i])=[a,b,c,d,e,f,g,i].findIdx id:=by decide +kernel
 exact this ..
theorem QM{l:List Nat}(h:l.length=8):zC l=zC ((List.range 8).map (fun i=>l.getD i 0)):=by
 obtain⟨a,b,c,d,e,f,g,i,rfl⟩:=j5 h
 rfl
theorem zkZ : ∀ j<8,18446744073709551615-255*2 ^ (8*j)=zC ((List.range 8).map (fun i=>if i=j then 0 else 255)):=by decide +kernel
theorem zfV(b:Nat) : ∀ j<8,b*2 ^ (8*j)=zC ((List.range 8).map (fun i=>if i=j then b else 0)):=by
 intro j hj;have:j=0∨j=1∨j=2∨j=3∨j=4∨j=5∨j=6∨j=7:=by omega
 rcases this with rfl | rfl | rfl | rfl | rfl | rfl | rfl | rfl<;>simp[List.range_succ,zC]<;>omega
theorem ziW{l:List Nat}(h:vj l)(j b:Nat)(hj:j<8)(hb:b<256):(zC l &&& (18446744073709551615-255*2 ^ (8*j))) ||| b*2 ^ (8*j)=zC (l.set j b):=by
 have hg : ∀ i,l.getD i 0<256:=fun i=>by
  rw[vM]
  cases hi:l[i]? with
  | none=>simp
  | some c=>exact h.2 c (ym hi)
 rw[zkZ j hj,zfV b j hj,QM h.1,KH _ _ _ (fun i _=>hg i) (fun i _=>by split<;>omega),
  Kf _ _ _ (fun i _=>jm Nat.and_le_left (hg i)) (fun i _=>by split<;>omega),QM (l:=l.set j b) (by simp[h.1])]
 congr 1
 apply uI;intro i hi;have hi:i<8:=by simpa using hi
 have h255 : ∀ c<256,c &&& 255=c:=by decide +kernel
 simp only[List.getD_eq_getElem?_getD,List.getElem?_set];by_cases e:i=j
 ·subst e;simp[h.1,hj]
 ·rw[zh e,zh e,zh (fun x=>e x.symm),Nat.or_zero,h255 _ (by have:=hg i;rwa [vM]at this)]
theorem JP(n:Nat):IntKind.u64.wrap (n:Int)=((n%18446744073709551616:Nat):Int):=by
 simp[IntKind.wrap,IntKind.signed,IntKind.bits]
theorem zcr(b r:Nat)(W:World)(hb:b<256)(hr:72340172838076673*b=r):Calls prog 204 #[.int .u8 b] W fun e w'=>e=.returned (.int .u64 r)∧W=w':=by
 subst hr;have h0:(0:Int)≤b:=by omega
 have h1:(b:Int)≤255:=by omega
 go_enter func204,ntmps204;go_wp2;go_ret;exact⟨by simp,rfl⟩
theorem zaH(z m:Nat)(W:World)(hz:z<18446744073709551616)(hm:z/128*72624976668147840%18446744073709551616/72057594037927936%256=m) :
  Calls prog 277 #[.int .u64 z] W fun e w'=>e=.returned (.int .u8 m)∧W=w':=by
 have h0:(0:Int)≤z:=by omega
 have h1:(z:Int)≤18446744073709551615:=by omega
 go_enter func277,ntmps277;go_wp2;go_ret;refine⟨?_,rfl⟩;have e:IntKind.u64.wrap ((z:Int)/128*72624976668147840)/72057594037927936%256=(m:Int):=by
  rw[show(z:Int)/128*72624976668147840=((z/128*72624976668147840:Nat):Int) by simp,JP,← hm];simp
 simp only[e]
 rfl
theorem Ks{l:List Nat}(h:vj l)(b:Nat)(W:World)(hb:b<256):Calls prog 235 #[.int .u64 (zC l),.int .u8 b] W fun e w'=>e=.returned (.int .u8 (zM (l.map (· == b))))∧W=w':=by
 have hl:=h.lt;have hs:=zjj h b hb;have em:=zgj h b hb;have hr:72340172838076673*b<18446744073709551616:=by omega
 have hb0:vj (l.map (fun c=>if c=b then 128 else 0)):=h.map (fun c _=>by split<;>omega);have hg:=Q2 (p:=l.map (· == b)) (by simp[h.1]);have hc:l.map (fun c=>if c=b then 128 else 0)=(l.map (· == b)).map (fun b=>if b then 128 else 0):=by rw[qX];apply uI;intro c _;simp
 rw[← hc]at hg;have hz:=hb0.lt;generalize zC l=w at *;generalize zM (l.map (· == b))=m at *;generalize zC (l.map (fun c=>if c=b then 128 else 0))=z at *;generalize hrb:72340172838076673*b=r at *;have hx:w ^^^ r<18446744073709551616:=qS (n:=64) hl hr;have e1:=Yn w r hl hr;generalize w ^^^ r=x at *;have e2:bits .and .u64 (x:Int) 9187201950435737471=((x &&& 9187201950435737471:Nat):Int):=XI x 9187201950435737471 hx (by omega);generalize x &&& 9187201950435737471=y at *;have ew:IntKind.u64.wrap ((y:Int)+9187201950435737471)=((y+9187201950435737471:Nat):Int):=uG _ hs;generalize y+9187201950435737471=u at *;have e3:=VO u x hs hx;have ho:u ||| x<18446744073709551616:=Ze (n:=64) hs hx
 generalize u ||| x=v at *
 have e4:bits .or .u64 (v:Int) 9187201950435737471=((v ||| 9187201950435737471:Nat):Int):=VO v 9187201950435737471 ho (by omega);have hv:v ||| 9187201950435737471<18446744073709551616:=Ze (n:=64) ho (by omega)
 generalize v ||| 9187201950435737471=t at *
 have e5:bits .xor .u64 (if IntKind.u64.signed=true then(-1:Int)else IntKind.u64.max) (t:Int)=(z:Int):=by
  rw[zhX,Yn _ _ (by omega) hv,em]
 go_enter func235,ntmps235
 go_wp2_with (first | (go_at_call 204;refine zq (zcr b r _ hb hrb) ?_;rintro e w' ⟨rfl,rfl⟩) | (go_at_call 277;go_must (refine zq (zaH z m _ hz hg) ?_);rintro e w' ⟨rfl,rfl⟩))
 go_ret;exact⟨rfl,rfl⟩
theorem zeu{l:List Nat}(h:vj l)(W:World):Calls prog 276 #[.int .u64 (zC l)] W fun e w'=>e=.returned (.int .u8 (zM (l.map (fun c=>decide (128≤c)))))∧W=w':=by
 have hl:=h.lt;have hw:=zih h;have hz:vj (l.map (fun c=>if decide (128≤c)then 128 else 0)):=h.map (fun c _=>by split<;>omega);have hg:=Q2 (p:=l.map (fun c=>decide (128≤c))) (by simp[h.1]);rw[← ziM (fun c=>decide (128≤c))]at hg;have hz:=hz.lt;have e1:bits .andNot .u64 (zC l:Int) 9187201950435737471=_:=KN (zC l) 9187201950435737471 9259542123273814144 hl (by omega) rfl;rw[hw]at e1;generalize zC l=w at *;generalize zM (l.map (fun c=>decide (128≤c)))=m at *;generalize zC (l.map (fun c=>if decide (128≤c)then 128 else 0))=z at *;go_enter func276,ntmps276
 go_wp2_with (go_at_call 277;go_must (refine zq (zaH z m _ hz hg) ?_);rintro e w' ⟨rfl,rfl⟩)
 go_ret;exact⟨rfl,rfl⟩
theorem zlt(s:ByteArray)(hs:s.size=256)(h : ∀ k (hk:k<256),wrap64 ((s[k]'(by omega)).toNat:Int)=jq k)(m:Nat)(hm:m<256)(hms:m<s.size):wrap64 ((s[m]'hms).toNat:Int)=jq m:=h m hm
theorem zkw(m:Nat)(W:World)(hm:m<256):Calls prog 285 #[.int .u8 m] W fun e w'=>e=.returned (.int .i64 (jq m))∧W=w':=by
 have h0:(0:Int)≤m:=by omega
 have h1:(m:Int)≤255:=by omega
 have h2:(m:Int)<256:=by omega
 go_enter func285,ntmps285;go_wp2;go_ret;exact⟨congrArg (fun x=>Ending.returned (.int .i64 x)) (zlt _ (by decide) (by decide +kernel) m hm _),rfl⟩
theorem zcO(m:Nat)(W:World)(hm:m<256):Calls prog 245 #[.int .u8 m] W fun e w'=>e=.returned (.int .i64 (jq m))∧W=w':=by
 go_enter func245,ntmps245
 go_wp2_with (go_at_call 285;go_must (refine zq (zkw m _ hm) ?_);rintro e w' ⟨rfl,rfl⟩)
 go_ret;exact⟨rfl,rfl⟩
theorem zac(j:Nat)(hj:j<8)(b:Nat)(hb:b<256):b*2 ^ (8*j)<18446744073709551616:=by
 have:2 ^ (8*j)≤2 ^ 56:=ZS (by decide) (by omega);have:b*2 ^ (8*j)≤255*2 ^ 56:=Nat.mul_le_mul (by omega) this;omega
theorem zbb{l:List Nat}(h:vj l)(j b:Nat)(W:World)(hj:j<8)(hb:b<256):Calls prog 234 #[.int .u64 (zC l),.int .i64 j,.int .u8 b] W fun e w'=>e=.returned (.tuple #[.int .u64 (zC (l.set j b)),.int .i64 0])∧w'=W.drew:=by
 have hl:=h.lt;have hw:=ziW h j b hj hb;have h0:(0:Int)≤j:=by omega
 have h1:(j:Int)<8:=by omega
 have h2 : ¬ ((8:Int)≤j):=by omega
 have hb0:(0:Int)≤b:=by omega
 have hb1:(b:Int)≤255:=by omega
 have k0:(0:Int)≤8*(j:Int):=by omega
 have k1:8*(j:Int)≤64:=by omega
 have k2:wrap64 (8*(j:Int))=8*(j:Int):=IntWalk.wrap64_in _ (by omega);have s0:=zac j hj 255 (by omega);have s1:=zac j hj b hb;have e1:IntKind.u64.wrap (255*2 ^ (8*j))=((255*2 ^ (8*j):Nat):Int):=by rw[← uG _ s0];simp
 have e2:IntKind.u64.wrap ((b:Int)*2 ^ (8*j))=((b*2 ^ (8*j):Nat):Int):=by rw[← uG _ s1];simp
 generalize b*2 ^ (8*j)=t at *;generalize 255*2 ^ (8*j)=s at *;generalize zC (l.set j b)=z at *;generalize zC l=w at *;have e3:=KN w s _ hl s0 rfl;have hx:w &&& (18446744073709551615-s)<18446744073709551616:=jm Nat.and_le_left hl;generalize w &&& (18446744073709551615-s)=x at *;have e4:=VO x t hx s1;rw[hw]at e4;go_enter func234,ntmps234;go_wp2
 go_region
 go_wp2;go_ret2;exact⟨rfl,rfl⟩
def qh(l:List Nat):Prop:=l.length=8 ∧ ∀ c∈l,c<128∨c=128∨c=254
theorem qh.bytes{l:List Nat}(h:qh l):vj l:=⟨h.1,fun c hc=>by have:=h.2 c hc;omega⟩
theorem zhJ(W:World):Calls prog 159 #[] W fun e w'=>e=.returned (.int .u64 (zC [128,128,128,128,128,128,128,128]:Nat))∧W=w':=by
 have hq:=zcr 128 (zC [128,128,128,128,128,128,128,128]) W (by omega) (by rfl);generalize zC [128,128,128,128,128,128,128,128]=z at *;go_enter func159,ntmps159
 go_wp2_with (go_at_call 204;go_must (refine zq hq ?_);rintro e w' ⟨rfl,rfl⟩)
 go_ret;exact⟨rfl,rfl⟩
theorem zgh{l:List Nat}(h:vj l)(b:Nat)(W:World)(hb:b<128):Calls prog 227 #[.int .u64 (zC l),.int .u8 b] W fun e w'=>e=.returned (.int .u8 (zM (l.map (· == b))))∧W=w':=by
 have h1 : ¬ ((127:Int)<b):=by omega
 go_enter func227,ntmps227
 go_wp2_with (go_at_call 235;go_must (refine zq (Ks h b _ (by omega)) ?_);rintro e w' ⟨rfl,rfl⟩)
 go_ret;exact⟨rfl,rfl⟩
theorem X5{l:List Nat}(h:vj l)(W:World):Calls prog 185 #[.int .u64 (zC l)] W fun e w'=>e=.returned (.int .u8 (zM (l.map (· == 128))))∧W=w':=by
 go_enter func185,ntmps185
 go_wp2_with (go_at_call 235;go_must (refine zq (Ks h 128 _ (by omega)) ?_);rintro e w' ⟨rfl,rfl⟩)
 go_ret;exact⟨rfl,rfl⟩
theorem zdM{l:List Nat}(h:qh l)(W:World):Calls prog 246 #[.int .u64 (zC l)] W fun e w'=>e=.returned (.int .u8 (zM (l.map (fun c=>decide (128≤c)))))∧W=w':=by
 have e1:=zbJ (zM (l.map (· == 128))) (zM (l.map (· == 254))) (jA (by simp[h.1])) (jA (by simp[h.1]));rw[Kt]at e1;have e2:l.map (fun c=>c==128||c==254)=l.map (fun c=>decide (128≤c)):=uI (fun c hc=>by have:=h.2 c hc;rw[Bool.eq_iff_iff];simp;omega);rw[e2]at e1;go_enter func246,ntmps246
 go_wp2_with (first | (go_at_call 185;go_must (refine zq (X5 h.bytes _) ?_);rintro e w' ⟨rfl,rfl⟩) | (go_at_call 235;go_must (refine zq (Ks h.bytes 254 _ (by omega)) ?_);rintro e w' ⟨rfl,rfl⟩))
 go_ret;exact⟨rfl,rfl⟩
theorem Jz{l:List Nat}(h:vj l)(W:World):Calls prog 233 #[.int .u64 (zC l)] W fun e w'=>e=.returned (.int .u8 (zM (l.map (fun c=>decide (c<128)))))∧W=w':=by
 have hm:zM (l.map (fun c=>decide (128≤c)))<256:=jA (by simp[h.1]);have e0:=zhK (p:=l.map (fun c=>decide (128≤c))) (by simp[h.1]);rw[qX,show(not ∘ fun c=>decide (128≤c))=(fun c:Nat=>decide (c<128)) by funext c;simp only[Function.comp];rw[Bool.eq_iff_iff];simp]at e0;have e1:bits .xor .u8 (if IntKind.u8.signed=true then(-1:Int)else IntKind.u8.max) (zM (l.map (fun c=>decide (128≤c))):Int)=(zM (l.map (fun c=>decide (c<128))):Int):=by rw[zhO,ze9 _ _ (by omega) hm,e0]
 have hq:=zeu h W;generalize zM (l.map (fun c=>decide (128≤c)))=m at *;generalize zM (l.map (fun c=>decide (c<128)))=z at *;go_enter func233,ntmps233
 go_wp2_with (go_at_call 276;go_must (refine zq hq ?_);rintro e w' ⟨rfl,rfl⟩)
 go_ret;exact⟨rfl,rfl⟩
theorem zix{l:List Nat}(h:qh l)(W:World):Calls prog 275 #[.int .u64 (zC l)] W fun e w'=>e=.returned (.bool true)∧W=w':=by
 have h1:=zdM h W;have h2:=Jz h.bytes W;have e1:=zbJ (zM (l.map (fun c=>decide (128≤c)))) (zM (l.map (fun c=>decide (c<128)))) (jA (by simp[h.1])) (jA (by simp[h.1]));rw[Kt]at e1;have e2:zM (l.map (fun c=>decide (128≤c)||decide (c<128)))=255:=by
  have:=zhm (p:=l.map (fun c=>decide (128≤c)||decide (c<128))) (by simp[h.1]);rw[show(l.map (fun c=>decide (128≤c)||decide (c<128))).all id=true by simp[List.all_map];intro c _;omega]at this;exact of_decide_eq_true this
 rw[e2]at e1;generalize zM (l.map (fun c=>decide (128≤c)))=m at *;generalize zM (l.map (fun c=>decide (c<128)))=z at *;go_enter func275,ntmps275
 go_wp2_with (first | (go_at_call 246;go_must (refine zq h1 ?_);rintro e w' ⟨rfl,rfl⟩) | (go_at_call 233;go_must (refine zq h2 ?_);rintro e w' ⟨rfl,rfl⟩))
 go_ret;exact⟨rfl,rfl⟩
theorem zc0{l:List Nat}(h:qh l)(j:Nat)(W:World)(hj:j<8):Calls prog 232 #[.int .u64 (zC l),.int .i64 j] W fun e w'=>e=.returned (.int .i64 0)∧W=w':=by
 have hq:=zix h W;have h0:(0:Int)≤j:=by omega
 have h1:(j:Int)<8:=by omega
 have h2 : ¬ ((8:Int)≤j):=by omega
 generalize zC l=w at *;go_enter func232,ntmps232
 go_wp2_with (go_at_call 275;go_must (refine zq hq ?_);rintro e w' ⟨rfl,rfl⟩)
 go_ret;exact⟨rfl,rfl⟩
theorem zhz{l:List Nat}(h:qh l)(j b:Nat)(W:World)(hj:j<8)(hb:b<128):Calls prog 247 #[.int .u64 (zC l),.int .i64 j,.int .u8 b] W fun e w'=>e=.returned (.tuple #[.int .u64 (zC (l.set j b)),.int .i64 0])∧w'=W.drew:=by
 have hq:=zc0 h j W hj;have hw:=zbb h.bytes j b W hj (by omega);have h1 : ¬ ((127:Int)<b):=by omega
 generalize zC (l.set j b)=z at *;generalize zC l=w at *;go_enter func247,ntmps247
 go_wp2_with (first | (go_at_call 232;go_must (refine zq hq ?_);rintro e w' ⟨rfl,rfl⟩) | (go_at_call 234;go_must (refine zq hw ?_);rintro e w' ⟨rfl,rfl⟩))
 go_ret2;exact⟨rfl,rfl⟩
def yF(l:List Nat):Nat:=if l.any (· == 128)then 128 else 254
theorem Az9wc {P:Prop}(h:P:=by
 go_wp2_with (first | (go_at_call 232;go_must (refine zq hq ?_);rintro e w' ⟨rfl,rfl⟩) | (go_at_call 185;go_must (refine zq he ?_);rintro e w' ⟨rfl,rfl⟩) | (go_at_call 233;go_must (refine zq hf ?_);rintro e w' ⟨rfl,rfl⟩) | (go_at_call 234;go_must (refine zq hw ?_);rintro e w' ⟨rfl,rfl⟩))
 go_ret2;exact⟨rfl,rfl⟩):P:=h
theorem zeW{l:List Nat}(h:qh l)(j c:Nat)(W:World)(hj:l[j]? = some c)(hc:c<128):Calls prog 184 #[.int .u64 (zC l),.int .i64 j] W fun e w'=>e=.returned (.tuple #[.int .u64 (zC (l.set j (yF l))),.int .i64 0])∧w'=W.drew:=by
 have hj8:j<8:=by have:=(zE.1 hj).1;have:=h.1;omega
 have hq:=zc0 h j W hj8;have hw:=zbb h.bytes j (yF l) W hj8 (by unfold yF;split<;>omega);have he:=X5 h.bytes W;have hf:=Jz h.bytes W;have hz:=J5 (p:=l.map (· == 128)) (by simp[h.1]);have hlt:=jA (p:=l.map (fun c=>decide (c<128))) (by simp[h.1]);have hb:=zaR (p:=l.map (fun c=>decide (c<128))) (by simp[h.1]) j hj8;rw[show(l.map (fun c=>decide (c<128))).getD j false=true by simp[List.getD_eq_getElem?_getD,hj,hc]]at hb;have hd:zM (l.map (fun c=>decide (c<128)))/2 ^ j<256:=jm (Y2 _ _) hlt;have e1:bits .and .u8 ((zM (l.map (fun c=>decide (c<128))):Int)/2 ^ j) 1=1:=by
  have:=KP _ 1 hd (by omega);rw[hb]at this;simpa using this
 have k0:(0:Int)≤j:=by omega
 have k1:(j:Int)≤8:=by omega
 generalize zM (l.map (fun c=>decide (c<128)))=f at *;rw[show(l.map (· == 128)).any id=l.any (· == 128) by simp[List.any_map]]at hz;generalize zC (l.set j (yF l))=z at *;generalize zC l=w at *;unfold yF at hw
 cases ha:l.any (· == 128)with
 | true =>
  rw[ha]at hz hw;have hz:zM (l.map (· == 128))≠0:=by simpa using hz
  generalize zM (l.map (· == 128))=m at *;have hz2:((m:Int)==0)=false:=by simp[hz]
  go_enter func184,ntmps184;exact Az9wc
 | false =>
  rw[ha]at hz hw;have hz:zM (l.map (· == 128))=0:=by simpa using hz
  rw[hz]at he;go_enter func184,ntmps184;exact Az9wc
end
end Go.Proofs.YtifbnponicgplaaGreatDoor
