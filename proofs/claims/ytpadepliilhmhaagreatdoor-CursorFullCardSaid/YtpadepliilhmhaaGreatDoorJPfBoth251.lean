/- Lemmas and contracts of functions. No condition. -/
import Derived.WalkKit
import Derived.WalkSpells
import Derived.WalkLawsBesides
import Derived.Outline
import Derived.Lib.Hide
import Derived.Deep.AppendLies
import Derived.Deep.AppendSrc
import Derived.Deep.RegionHeld3
import Derived.BigQuiet
import Derived.Deep.DeepCutAuto
import Derived.Deep.RegionLaw
import Derived.Deep.QuietTactic
import Derived.Test.YtpadepliilhmhaaGreatDoorProg
import Derived.Handy
namespace Go.Proofs.YtpadepliilhmhaaGreatDoor
open _root_.Go.Proofs.Tryz
set_option maxRecDepth 100000
set_option maxHeartbeats 20000000
set_option linter.all false
section
open Go.RowKit
theorem za{p:Prop}(h:p):Hid p:=h
theorem zc{α:Sort _}(a:α) : ∃ x,a=x:=⟨a,rfl⟩
abbrev zj := @cell_of_row
abbrev zC := @List.getElem?_eq_some_iff
abbrev zl := @lt_of_block
abbrev zQ := @List.getElem?_eq_getElem
abbrev zo := @IntWalk.i64_in
abbrev zm := @Calls.mono
abbrev zN := @List.length_append
abbrev zf := @if_neg
abbrev zT := @heap_setCell_same
abbrev yh := @List.mem_of_getElem?
abbrev yj := @List.getElem?_set_self
abbrev zO := @decide_eq_false
abbrev zK := @decide_eq_true
abbrev zh := @if_pos
abbrev zJ := @Nat.le_trans
abbrev jX := @List.setIfInBounds_toArray
abbrev zD := @List.mem_map
abbrev yq := @List.getElem?_set_ne
abbrev zH := @Nat.le_refl
abbrev yu := @List.getElem?_map
abbrev yt := @List.mem_cons_self
abbrev zM := @bodyPost_ret
abbrev yv := @List.mem_cons_of_mem
abbrev jH := @List.set_cons_succ
abbrev yB := @List.length_map
abbrev vF := @List.getD_eq_getElem?_getD
abbrev JY := @List.set_cons_zero
abbrev xA := @List.mem_append_right
abbrev yz := @List.mem_append
abbrev xa := @List.mem_singleton
abbrev jV := @List.length_cons
abbrev yP := @frozen_of_row
abbrev xu := @List.getElem?_eq_none
abbrev yp := @List.mem_cons
abbrev xE := @List.mem_append_left
abbrev yk := @Nat.zero_le
abbrev yX := @List.nodup_cons
abbrev x9 := @List.length_replicate
abbrev xq := @List.nodup_append
abbrev vz := @List.getElem?_replicate
abbrev uc := @List.getElem?_append_left
abbrev zlc := @List.getElem_cons_zero
abbrev zk2 := @List.getElem_cons_succ
abbrev xV := @Nat.lt_of_lt_of_le
abbrev xp := @List.length_set
abbrev uI := @Array.getElem?_eq_some_iff
abbrev xT := @List.map_append
abbrev yl := @callsIn_wide
abbrev xB := @Nat.mod_eq_of_lt
abbrev zkY := @List.getElem_toArray
abbrev vV := @List.getElem?_of_mem
abbrev vf := @List.getElem?_toArray
abbrev vD := @World.ownsRow_nil
abbrev vr := @List.append_assoc
abbrev vS := @AllReadyH.cons
abbrev Yh := @List.nil_append
abbrev ui := @List.map_congr_left
abbrev kr := @beq_eq_false_iff_ne
abbrev zbA := @List.cons_append
abbrev kK := @List.getElem?_append_right
abbrev uj := @List.pairwise_cons
abbrev us := @BitVec.toNat_ofNat
abbrev uB := @List.take_add_one
abbrev ja := @List.drop_eq_getElem_cons
abbrev qF := @List.map_cons
abbrev vX := @List.ext_getElem?
abbrev xy := @info_parts
abbrev qh := @List.take_of_length_le
abbrev jY := @List.eq_nil_of_length_eq_zero
abbrev uw := @List.pairwise_map
abbrev jo := @List.mem_or_eq_of_mem_set
abbrev zlj := @List.length_nil
abbrev zlf := @Array.replicate_zero
abbrev zlw := @Array.replicate_succ
abbrev zkP := @List.append_toArray
abbrev qC := @Array.getElem?_eq_getElem
abbrev kL := @List.filter_cons
abbrev zln := @List.size_toArray
abbrev qp := @List.flatMap_cons
abbrev uW := @AllReadyH.nil
abbrev kV := @List.filter_eq_self
abbrev zkX := @List.push_toArray
abbrev qk := @List.mem_of_find?_eq_some
abbrev kY := @List.find?_eq_none
abbrev ki := @wpAnyH_ready
abbrev jb := @List.getElem?_range
abbrev Vs := @Int.toNat_of_nonneg
abbrev ZO := @Nat.testBit_two_pow_mul_add
abbrev xY := @Nat.mod_lt
abbrev ku := @List.pairwise_append
abbrev kG := @Nat.lt_of_le_of_lt
abbrev jh := @List.getElem?_take
abbrev kp := @wpAnyH_take
abbrev kQ := @List.append_nil
abbrev uD := @CallsIn.mono
abbrev Zz := @List.getElem?_cons_succ
abbrev qN := @Nat.eq_of_testBit_eq
abbrev Zo := @Nat.div_div_eq_div_mul
abbrev ZK := @List.drop_of_length_le
abbrev Ze := @List.replicate_succ
abbrev j7 := @List.filter_sublist
abbrev vW := @wpIn_wide
abbrev qn := @List.mem_filter
abbrev Z6 := @World.cell?_setCell_other
abbrev qy := @Nat.xor_lt_two_pow
abbrev jL := @List.length_take
abbrev jJ := @Nat.zero_add
abbrev Zf := @List.map_map
abbrev Zb := @Nat.pow_le_pow_right
abbrev j8 := @List.nodup_nil
abbrev Yf := @World.block_lt_of_cell?
abbrev qM := @Nat.or_lt_two_pow
abbrev qs := @Nat.lt_trichotomy
abbrev YA := @Option.some.inj
abbrev jM := @wp_region_held_drew
abbrev ZW := @List.flatMap_append
abbrev Yl := @List.filter_eq_nil_iff
abbrev zlq := @run_underlying
abbrev j5 := @List.mem_range
abbrev Z7 := @List.take_append_drop
abbrev YH := @Array.getElem?_toList
abbrev vg := @Iff.rfl
abbrev Yk := @Array.getElem?_range
abbrev Z5 := @List.getElem?_set
abbrev qi := @Nat.pow_succ
abbrev Ym := @List.take_succ_cons
abbrev Vm := @Nat.and_two_pow_sub_one_eq_mod
abbrev qZ := @List.mem_flatten
abbrev Zh := @List.mem_flatMap
abbrev j3 := @Nat.mul_one
abbrev Y1 := @World.frozen?_of_block
abbrev zk1 := @MapKept.run_setObj_map
abbrev zkZ := @MapKept.run_getObj_map
abbrev qY := @List.filter_append
abbrev ZB := @and_congr_right
abbrev Xw := @List.set_append_right
abbrev ZZ := @wpList_delete_own
abbrev Zl := @List.foldl_append
abbrev XD := @List.flatten_cons
abbrev Ue := @Int.tdiv_eq_ediv_of_nonneg
abbrev YV := @wpList_mapUpdate_own
abbrev YN := @Nat.mul_le_mul_right
abbrev zli := @List.countP_cons
abbrev qI := @Nat.le_of_lt
abbrev XP := @List.pairwise_iff_getElem
abbrev XY := @List.findIdx?_eq_none_iff
abbrev ZA := @Int.ofNat_inj
abbrev Zk := @Nat.div_le_self
abbrev YM := @World.ownsMap_made
abbrev VY := @List.findIdx?_eq_some_iff_getElem
abbrev Vi := @List.takeWhile_sublist
abbrev U6 := @List.length_pos_of_mem
abbrev Xu := @List.filter_congr
abbrev Zy := @getElem!_pos
abbrev YD := @Nat.sub_self
abbrev YU := @Nat.add_zero
abbrev Yg := @List.map_set
abbrev Vd := @World.cell?_alloc_new
abbrev VE := @List.countP_le_length
abbrev Zc := @Maps.size_put
abbrev Vv := @List.mem_of_getLast?
abbrev V7 := @List.getElem?_modify
abbrev Y9 := @List.find?_some
abbrev X5 := @Array.toList_modify
abbrev Kl := @List.perm_append_singleton
abbrev UW := @Array.getElem?_append_left
abbrev VO := @List.filter_filter
abbrev zlo := @DataW.trod_int
structure Mod(S:Nat→Prop)(w w':World):Prop where
 os:w'.os=w.os
 tape:w'.tape=w.tape
 output:w'.output=w.output
 size:w.heap.size≤w'.heap.size
 block : ∀ k,k<w.heap.size → ¬ S k→w'.heap[k]? = w.heap[k]?
abbrev zb(w w':World):Prop:=Mod (fun _=>False) w w'
theorem Mod.refl(S:Nat→Prop)(w:World):Mod S w w:=⟨rfl,rfl,rfl,zH _,fun _ _ _=>rfl⟩
theorem Mod.mono{S S':Nat→Prop}{w w':World}(h:Mod S w w')(hs : ∀ k,k<w.heap.size→S k→S' k):Mod S' w w' :=
 ⟨h.os,h.tape,h.output,h.size,fun k hk hn=>h.block k hk (fun hx=>hn (hs k hk hx))⟩
theorem Mod.trans'{S T U:Nat→Prop}{a b c:World}(h:Mod S a b)(k:Mod T b c)(hs : ∀ i,i<a.heap.size→S i→U i)(ht : ∀ i,i<a.heap.size→T i→U i):Mod U a c :=
 ⟨k.os.trans h.os,k.tape.trans h.tape,k.output.trans h.output,zJ h.size k.size,fun i hi hn =>
  (k.block i (xV hi h.size) (fun hx=>hn (ht i hi hx))).trans (h.block i hi (fun hx=>hn (hs i hi hx)))⟩
theorem Mod.trans{S:Nat→Prop}{a b c:World}(h:Mod S a b)(k:Mod S b c):Mod S a c:=h.trans' k (fun _ _ h=>h) (fun _ _ h=>h)
theorem Mod.of_pure{S:Nat→Prop}{w w':World}(h:zb w w'):Mod S w w':=h.mono (fun _ _ h=>h.elim)
theorem Mod.of_grown{S:Nat→Prop}{w w':World}{row:Option Nat}(h:w.grownBy w' row)(hs : ∀ k,row=some k→k<w.heap.size→S k):Mod S w w' :=
 ⟨h.os,h.tape,h.output,h.size,fun k hk hn=>h.block k hk (fun e=>hn (hs k e.symm hk))⟩
theorem Mod.below{S:Nat→Prop}{w w':World}(h:Mod S w w')(hs : ∀ k,k<w.heap.size → ¬ S k):Below w.heap.size w w':=⟨h.os,h.tape,h.output,h.size,fun k hk=>h.block k hk (hs k hk)⟩
theorem Mod.alloc{S:Nat→Prop}{a w:World}(h:Mod S a w)(o:Obj):Mod S a (w.alloc o) :=
 ⟨h.os,h.tape,h.output,zJ h.size (by simp),fun k hk hn=>(Below.heap_alloc w o k (xV hk h.size)).trans (h.block k hk hn)⟩
theorem Mod.drew{S:Nat→Prop}{a w:World}(h:Mod S a w):Mod S a w.drew:=⟨h.os,h.tape,h.output,h.size,h.block⟩
theorem Mod.of_drew{S:Nat→Prop}{w w':World}(h:Mod S w.drew w'):Mod S w w':=⟨h.os,h.tape,h.output,h.size,h.block⟩
theorem Mod.drewN{S:Nat→Prop}{a w:World}(h:Mod S a w)(n:Nat):Mod S a (w.drewN n):=⟨h.os,h.tape,h.output,h.size,h.block⟩
theorem Mod.setCell{S:Nat→Prop}{a w:World}(h:Mod S a w){p:Addr}(hp:p.block<a.heap.size→S p.block)(u:Value):Mod S a (w.setCell p u) :=
 ⟨h.os,h.tape,h.output,by simpa[World.setCell]using h.size,fun k hk hn=>(Below.heap_setCell w p u k (fun e=>by subst e;exact hn (hp hk))).trans (h.block k hk hn)⟩
theorem Mod.then{S T:Nat→Prop}{a b c:World}(h:Mod S a b)(k:Mod T b c)(ht : ∀ i,i<a.heap.size→T i→S i):Mod S a c:=h.trans' k (fun _ _ h=>h) ht
theorem Mod.cells{W w1:World}(h:zb W w1):(∀ b o,b<W.heap.size→w1.cell? ⟨b,o,none⟩=W.cell? ⟨b,o,none⟩)∧(∀ b o,b<W.heap.size→w1.frozen? ⟨b,o,none⟩=W.frozen? ⟨b,o,none⟩) :=
 ⟨fun b o hb=>World.cell?_of_block (w:=W) (a:=⟨b,o,none⟩) (h.block b hb (fun h=>h)),fun b o hb=>Y1 (w:=W) (a:=⟨b,o,none⟩) (h.block b hb (fun h=>h))⟩
theorem Mod.cell{S:Nat→Prop}{w w':World}(h:Mod S w w'){a:Addr}{v:Value}(hn : ¬ S a.block)(hc:w.cell? a=some v):w'.cell? a=some v :=
 (World.cell?_of_block (w:=w) (h.block a.block (Yf w a hc) hn)).trans hc
theorem Mod.heap{S:Nat→Prop}{w w':World}(h:Mod S w w'){k:Nat}{o:Obj}(hn : ¬ S k)(hc:w.heap[k]? = some o):w'.heap[k]? = some o :=
 (h.block k (zl hc) hn).trans hc
theorem Mod.lt{S:Nat→Prop}{w w':World}(h:Mod S w w'){k:Nat}(hk:k<w.heap.size):k<w'.heap.size:=xV hk h.size
theorem zi{w:World}{o:Obj}{n:Nat}(hn:n=w.heap.size):(w.alloc o).heap[n]? = some o:=by subst hn;exact heap_alloc_new w o
theorem zL{w:World}{o x:Obj}{n:Nat}(h:w.heap[n]? = some x):(w.alloc o).heap[n]? = some x:=by
 rw[Below.heap_alloc w o n (zl h)];exact h
theorem yQ{w:World}{a:Addr}{v:Value}{x:Obj}{n:Nat}(h:w.heap[n]? = some x)(hn:n≠a.block):(w.setCell a v).heap[n]? = some x:=by
 rw[heap_setCell_other w a n v hn];exact h
theorem Mod.box{S:Nat→Prop}{W w1:World}(h:Mod S W w1){b:Nat}{cs:Array Value}{T:TypeId}(hb:W.heap[b]? = some (.cells cs T (0,0)))(hn : ¬ S b) :
  (∀ i,w1.cell? ⟨b,i,none⟩=cs[i]?)∧(∀ i,w1.frozen? ⟨b,i,none⟩=false):=by
 have:=h.heap hn hb;exact⟨fun i=>zj w1 b i cs T (0,0) this,fun i=>yP w1 b i cs T this⟩
theorem jg(n:Nat)(h:n≤9223372036854775807):wrap64 (n:Int)=n:=IntWalk.wrap64_in _ (by omega)
theorem zdj(n:Nat)(h:n≤4294967295):wrap64 (n:Int)%4294967296=n:=by rw[jg n (by omega)];omega
def zn(w:World)(v:Value)(k:Nat)(xs:List Value):Prop :=
 ∃(a:Option Addr) (n c:Nat),v=.slice a n c∧xs.length=n*k∧(∀ u∈xs,u.oneCell'=true)∧(a=none→n=0) ∧ ∀ ad,a=some ad → ∀ j u,xs[j]? = some u→w.cell? (ad.add j)=some u
theorem zn.nil(w:World)(k:Nat):zn w (.slice none 0 0) k []:=⟨none,0,0,rfl,by simp,by simp,fun _=>rfl,fun _ h=>by cases h⟩
def uJ:Value→Option Nat
 | .slice (some a) n _=>if n=0 then none else some a.block
 | _=>none
theorem Q2{v:Value}{g:Nat}(h:uJ v=some g):v.ownBlock=some g:=by
 unfold uJ at h;split at h
 ·split at h
  ·cases h
  ·exact h
 ·cases h
theorem Q9(ad:Addr)(j:Nat):(ad.add j).block=ad.block:=by unfold Addr.add;split<;>rfl
theorem zn.frame{w w':World}{v:Value}{k:Nat}{xs:List Value}{S:Nat→Prop}(h:zn w v k xs)(hm:Mod S w w')(hn : ∀ g,uJ v=some g → ¬ S g):zn w' v k xs:=by
 obtain⟨a,n,c,rfl,hl,h1,h0,hc⟩:=h;refine⟨a,n,c,rfl,hl,h1,h0,fun ad ha j u hu => ?_⟩;refine hm.cell ?_ (hc ad ha j u hu);rw[Q9];refine hn ad.block ?_;subst ha;have:n≠0:=by
  rintro rfl;have:xs=[]:=jY (by simpa using hl);subst this
  cases hu
 simp[uJ,this]
theorem zn.lt{w:World}{v:Value}{k:Nat}{xs:List Value}(h:zn w v k xs)(hk:0<k){g:Nat}(hg:uJ v=some g):g<w.heap.size:=by
 obtain⟨a,n,c,rfl,hl,h1,h0,hc⟩:=h
 cases a with
 | none=>cases hg
 | some ad =>
  simp only[uJ]at hg;split at hg
  ·cases hg
  ·cases hg
   have hp:0<xs.length:=by rw[hl];exact Nat.mul_pos (by omega) hk
   have:=Yf w _ (hc ad rfl 0 _ (zQ hp))
   rwa [Q9]at this
theorem zn.of_owns{w:World}{e:TypeId}{k:Nat}{v:Value}{n:Nat}{xs:List Value}(h:w.ownsRow 0 e k v n xs)(h1 : ∀ u∈xs,u.oneCell'=true):zn w v k xs:=by
 obtain⟨hl,hv⟩:=h;rcases hv with⟨rfl,rfl⟩ | ⟨g,cap,cur,rfl,hb,hg,hnc,hcm,hcs,ht⟩
 ·have:xs=[]:=jY (by simpa using hl);subst this;exact zn.nil w k
 ·have hown:w.ownsRow 0 e k (.slice (some ⟨g,0,none⟩) n cap) n xs:=⟨hl,.inr ⟨g,cap,cur,rfl,hb,hg,hnc,hcm,hcs,ht⟩⟩;exact⟨some ⟨g,0,none⟩,n,cap,rfl,hl,h1,(fun h=>by cases h),fun ad ha j u hu=>by cases ha;exact hown.cells rfl j u hu⟩
theorem uL{α β:Type}(f:α→List β)(k:Nat)(hf : ∀ a,(f a).length=k)(j:Nat)(hj:j<k) : ∀(M:List α) (i:Nat),(M.flatMap f)[i*k+j]? = (M[i]?).bind fun m=>(f m)[j]?
 | [],i=>by simp
 | a::M,0=>by
  simp only[List.flatMap_cons,Nat.zero_mul,Nat.zero_add,List.getElem?_cons_zero,Option.bind_some];rw[uc (by rw[hf];exact hj)]
 | a::M,i+1=>by
  have e:(i+1)*k+j=(f a).length+(i*k+j):=by rw[hf,Nat.add_mul];omega
  simp only[List.flatMap_cons,List.getElem?_cons_succ];rw[e,kK (Nat.le_add_right _ _),Nat.add_sub_cancel_left];exact uL f k hf j hj M i
theorem ZQ{α β:Type}(f:α→List β)(k:Nat)(hf : ∀ a,(f a).length=k) : ∀(M:List α),(M.flatMap f).length=M.length*k
 | []=>by simp
 | a::M=>by simp only[List.flatMap_cons,List.length_append,hf,ZQ f k hf M,List.length_cons,Nat.add_mul];omega
theorem kx{w:World}{T k:Nat}{v:Value}{n:Nat}{xs:List Value}(h:w.ownsRow 0 T k v n xs) : ∃ a c,v=.slice a n c∧n≤c:=by
 rcases h.2 with⟨rfl,rfl⟩ | ⟨g,cap,cur,rfl,_,_,hnc,_⟩
 ·exact⟨none,0,rfl,zH _⟩
 ·exact⟨_,_,rfl,hnc⟩
theorem kh{w:World}{T k:Nat}{v:Value}{n:Nat}{xs:List Value}(h:w.ownsRow 0 T k v n xs)(hn:0<n) :
  ∃ g c,v=.slice (some ⟨g,0,none⟩) n c∧n≤c∧g<w.heap.size∧(∀ j u,xs[j]? = some u→w.cell? ⟨g,j,none⟩=some u)∧(∀ j,w.frozen? ⟨g,j,none⟩=false) ∧ ∃ cur,w.heap[g]? = some (.cells cur T (0,0))∧cur.size=c*k∧cur.toList.take (n*k)=xs∧c≤maxLen:=by
 obtain⟨hl,hv⟩:=h;rcases hv with⟨_,h0⟩ | ⟨g,cap,cur,rfl,hb,hg,hnc,hm,hcs,ht⟩
 ·omega
 ·refine⟨g,cap,rfl,hnc,zl hg,fun j u hu => ?_,fun j=>yP w g j cur T hg,cur,hg,hcs,ht,hm⟩;rw[zj w g j cur T (0,0) hg];rw[← ht,jh]at hu;split at hu
  ·simpa using hu
  ·cases hu
theorem KJ{w w':World}{T k:Nat}{v:Value}{n:Nat}{xs:List Value}(h:w.ownsRow 0 T k v n xs)(hn : ∀ g,v.ownBlock=some g→g<w.heap.size→w'.heap[g]? = w.heap[g]?):w'.ownsRow 0 T k v n xs:=by
 refine⟨h.1,?_⟩;rcases h.2 with h2 | ⟨g,cap,cur,rfl,hb,hg,rest⟩
 ·exact .inl h2
 ·exact .inr ⟨g,cap,cur,rfl,hb,(hn g rfl (zl hg)).trans hg,rest⟩
theorem zA{w w':World}{T k:Nat}{v:Value}{n:Nat}{xs:List Value}{S:Nat→Prop}(h:w.ownsRow 0 T k v n xs)(hm:Mod S w w')(hn : ∀ g,v.ownBlock=some g → ¬ S g):w'.ownsRow 0 T k v n xs:=by
 refine⟨h.1,?_⟩;rcases h.2 with h2 | ⟨g,cap,cur,rfl,hb,hg,rest⟩
 ·exact .inl h2
 ·exact .inr ⟨g,cap,cur,rfl,hb,hm.heap (hn g rfl) hg,rest⟩
theorem ym{w:World}{T k:Nat}{v:Value}{n:Nat}{xs:List Value}(h:w.ownsRow 0 T k v n xs){g:Nat}(hg:v.ownBlock=some g) : ∃ cur,w.heap[g]? = some (.cells cur T (0,0)):=by
 rcases h.2 with⟨rfl,_⟩ | ⟨g',cap,cur,rfl,_,hb,_⟩
 ·cases hg
 ·cases hg;exact⟨cur,hb⟩
theorem ua{w:World}{T k:Nat}{v:Value}{n:Nat}{xs:List Value}(h:w.ownsRow 0 T k v n xs){g:Nat}(hg:v.ownBlock=some g):g<w.heap.size:=(h.lt g hg).2
theorem ziz{w:World}{T T' k k':Nat}{v v':Value}{n n':Nat}{xs xs':List Value}(h:w.ownsRow 0 T k v n xs)(h':w.ownsRow 0 T' k' v' n' xs')(hT:T≠T'){g:Nat}(hg:v.ownBlock=some g):v'.ownBlock≠some g:=by
 intro hg';obtain⟨c,e⟩:=ym h hg;obtain⟨c',e'⟩:=ym h' hg';rw[e]at e'
 cases e'
 exact hT rfl
theorem Qg{w:World}{T k:Nat}{v:Value}{n m:Nat}{xs:List Value}(h:w.ownsRow 0 T k v n xs)(hk:0<k)(hm:xs.length=m*k):n=m:=Nat.eq_of_mul_eq_mul_right hk (h.1.symm.trans hm)
theorem zn.of_block{w:World}{B:Nat}{cs:Array Value}{T:TypeId}{fr:Nat × Nat}(n c k:Nat)(hb:w.heap[B]? = some (.cells cs T fr))(hl:cs.toList.length=n*k)(h1 : ∀ u∈cs.toList,u.oneCell'=true) :
  zn w (.slice (some ⟨B,0,none⟩) n c) k cs.toList :=
 ⟨some ⟨B,0,none⟩,n,c,rfl,hl,h1,(fun h=>by cases h),fun ad ha j u hu=>by cases ha;exact World.news_of_block hb j u hu⟩
theorem uz{w:World}{T k g n c:Nat}{xs:List Value}(h:w.ownsRow 0 T k (.slice (some ⟨g,0,none⟩) n c) n xs)(j:Nat)(u:Value)(hj:j<n*k) :
  (w.setCell ⟨g,j,none⟩ u).ownsRow 0 T k (.slice (some ⟨g,0,none⟩) n c) n (xs.set j u):=by
 obtain⟨hl,hv⟩:=h;refine⟨by rw[xp];exact hl,.inr ?_⟩;rcases hv with⟨hv,_⟩ | ⟨g',cap,cur,hv,hb,hg,hnc,hm,hcs,ht⟩
 ·cases hv
 ·cases hv
  refine⟨g,c,cur.setIfInBounds j u,rfl,hb,zT w g j cur T u hg,hnc,hm,by rw[Array.size_setIfInBounds];exact hcs,?_⟩;rw[Array.toList_setIfInBounds,List.take_set,ht]
theorem ZL(k j:Nat)(hj:j<k)(u:Value) : ∀(R:List (List Value)) (_ : ∀ r∈R,r.length=k) (i:Nat),R.flatten.set (i*k+j) u=(R.modify i (fun r=>r.set j u)).flatten
 | [],_,i=>by simp
 | r::R,hR,0=>by
  simp only[Nat.zero_mul,Nat.zero_add,List.flatten_cons,List.modify_zero_cons];rw[List.set_append_left _ _ (by rw[hR r (by simp)];exact hj)]
 | r::R,hR,i+1=>by
  have hr:r.length=k:=hR r (by simp);simp only[List.flatten_cons,List.modify_succ_cons];rw[Xw _ _ (by rw[hr,Nat.add_mul];omega)];have e:(i+1)*k+j-r.length=i*k+j:=by rw[hr,Nat.add_mul];omega
  rw[e,ZL k j hj u R (fun r h=>hR r (by simp[h])) i]
theorem Zd{R:List (List Value)}{k:Nat}(hR : ∀ r∈R,r.length=k)(i j:Nat)(u:Value) : ∀ r∈R.modify i (fun r=>r.set j u),r.length=k:=by
 intro r hr;obtain⟨n,hn⟩:=List.mem_iff_getElem?.1 hr;rw[V7]at hn
 cases h:R[n]? with
 | none=>simp[h]at hn
 | some r0 =>
  have h0:=hR r0 (yh h);simp only[h,Option.map_some]at hn;split at hn<;>(cases hn;simp[h0])
theorem zaI{α:Type}(f:α→List Value)(h:List Value→List Value)(m':α) : ∀(M:List α) (i:Nat) (m:α),M[i]? = some m→h (f m)=f m'→(M.map f).modify i h=(M.set i m').map f
 | [],i,m,hi,_=>by simp at hi
 | a::M,0,m,hi,hm=>by simp at hi;subst hi;simp[hm]
 | a::M,i+1,m,hi,hm=>by
  have:=zaI f h m' M i m (by simpa using hi) hm;simp only[List.map_cons,List.modify_succ_cons,List.set_cons_succ,this]
section
variable{P:Program}(w:World)
theorem Qv(t ty e:TypeId)(i:TypeInfo)(z:Value)(k bytes:Nat)(ht:P.underlying t=some (.slice e))(hi:P.info? e=some i)(hz:i.zero=some z)
  (hsize:i.size=k) (hby:i.bytes=bytes) (hzs:z.cells.size=k) (hsz:0<k)
  (v:Value) (n:Nat) (xs:List Value) (hown:w.ownsRow 0 e k v n xs) (x:Value) (ys:List Value) (m:Nat) (hx:zn w x k ys) (hm:ys.length=m*k)
  (h63:n+m≤maxLen) (hbytes:(n+m)*bytes≤140737488355328) :
  ∃ a' c' w',(Builtin.append_ #[t,t] ty #[v,x]).run P w=.ok (.slice a' (n+m) c') w'∧w'.ownsRow 0 e k (.slice a' (n+m) c') (n+m) (xs++ys)∧w.grownBy w' v.ownBlock∧((Value.slice a' (n+m) c').ownBlock=v.ownBlock∨(Value.slice a' (n+m) c').ownBlock=some w.heap.size):=by
 suffices hs : ∃ v' w',(Builtin.append_ #[t,t] ty #[v,x]).run P w=.ok v' w'∧w'.ownsRow 0 e k v' (n+m) (xs++ys)∧w.grownBy w' v.ownBlock∧(v'.ownBlock=v.ownBlock∨v'.ownBlock=some w.heap.size) by
  obtain⟨v',w',r1,r2,r3,r4⟩:=hs;obtain⟨a',c',rfl,_⟩:=kx r2;exact⟨a',c',w',r1,r2,r3,r4⟩
 obtain⟨a,m',c,rfl,hl,h1,h0,hc⟩:=hx;have em:m'=m:=Nat.eq_of_mul_eq_mul_right hsz (hl.symm.trans hm);subst em
 cases a with
 | some ad =>
  obtain⟨v',w',r1,r2,r3,_,r5⟩:=run_append_own_at (P:=P) w 0 t ty e i z k bytes ht hi hz hsize hby hzs hsz v n xs hown ad m' c ys hl (fun j u hu=>hc ad rfl j u hu) h1 h63 hbytes (yk _);exact⟨v',w',r1,r2,r3,r5⟩
 | none =>
  have hm0:=h0 rfl;subst hm0;have hy:ys=[]:=jY (by simpa using hl);subst hy;refine⟨v,w,?_,by simpa using hown,⟨rfl,rfl,rfl,zH _,fun _ _ _=>rfl⟩,.inl rfl⟩;rcases hown.2 with⟨rfl,rfl⟩ | ⟨g,cap,cur,rfl,_,hg,hnc,_⟩
  ·simp[Builtin.append_,run_underlying ht,sizeOf,typeInfo,hi,Builtin.lenOf,Builtin.firstCells,loadCells,loadCellsFrom]
  ·simp[Builtin.append_,run_underlying ht,sizeOf,typeInfo,hi,Builtin.lenOf,Builtin.firstCells,hnc,storeCells]
theorem QN{o:Oper}{a:Act}{K:Act→World→Prop}{Q:Exit→Act→World→Prop}(s x:Operand)(t:TypeId)
  (ho:o.op=.call {callee := .builtin .append,args:=#[s,x],argTypes:=#[t,t]})
  (e:TypeId) (i:TypeInfo) (z:Value) (k bytes:Nat) (ht:P.underlying t=some (.slice e)) (hi:P.info? e=some i) (hz:i.zero=some z)
  (hsize:i.size=k) (hby:i.bytes=bytes) (hzs:z.cells.size=k) (hsz:0<k)
  (v:Value) (n:Nat) (xs:List Value) (hs:a.eval s=v) (hown:w.ownsRow 0 e k v n xs) (xv:Value) (ys:List Value) (m:Nat) (hxv:a.eval x=xv) (hx:zn w xv k ys) (hm:ys.length=m*k)
  (h63:n+m≤maxLen) (hbytes:(n+m)*bytes≤140737488355328)
  (h : ∀ a' c' w',w'.ownsRow 0 e k (.slice a' (n+m) c') (n+m) (xs++ys)→w.grownBy w' v.ownBlock→((Value.slice a' (n+m) c').ownBlock=v.ownBlock∨(Value.slice a' (n+m) c').ownBlock=some w.heap.size)→K (a.put o.dst (.slice a' (n+m) c')) w'):o.wp P a w K Q:=by
 obtain⟨a',c',w',hr,h2,h3,h4⟩:=Qv (P:=P) w t o.type e i z k bytes ht hi hz hsize hby hzs hsz v n xs hown xv ys m hx hm h63 hbytes;unfold Oper.wp execOp;simp only[ho,resolve,invoke,builtin,Sem.run_bind,Sem.run_pure,Result.andThen_ok,List.map_toArray,List.map_cons,List.map_nil,hs,hxv,hr];exact h a' c' w' h2 h3 h4
theorem uE{ops:Array Oper}{rest:List Oper}{o:Oper}{a:Act}{Q:Exit→Act→World→Prop}(hgd:o.guard=none)(s x:Operand)(t:TypeId)
  (ho:o.op=.call {callee := .builtin .append,args:=#[s,x],argTypes:=#[t,t]})
  (e:TypeId) (i:TypeInfo) (z:Value) (k bytes:Nat) (ht:P.underlying t=some (.slice e)) (hi:P.info? e=some i) (hz:i.zero=some z)
  (hsize:i.size=k) (hby:i.bytes=bytes) (hzs:z.cells.size=k) (hsz:0<k)
  (v:Value) (n:Nat) (xs:List Value) (hs:a.eval s=v) (hown:w.ownsRow 0 e k v n xs) (xv:Value) (ys:List Value) (m:Nat) (hxv:a.eval x=xv) (hx:zn w xv k ys) (hm:ys.length=m*k)
  (h63:n+m≤maxLen) (hbytes:(n+m)*bytes≤140737488355328)
  (h : ∀ a' c' w',w'.ownsRow 0 e k (.slice a' (n+m) c') (n+m) (xs++ys)→w.grownBy w' v.ownBlock→((Value.slice a' (n+m) c').ownBlock=v.ownBlock∨(Value.slice a' (n+m) c').ownBlock=some w.heap.size)→wpList P ops Q rest (a.put o.dst (.slice a' (n+m) c')) w'):wpList P ops Q (o::rest) a w :=
 wpList_plain hgd fun _ hK=>QN w s x t ho e i z k bytes ht hi hz hsize hby hzs hsz v n xs hs hown xv ys m hxv hx hm h63 hbytes fun a' c' w' h2 h3 h4=>hK _ _ (h a' c' w' h2 h3 h4)
theorem Vn{ops:Array Oper}{o:Oper}{a:Act}{K:Act→World→Prop}{Q:Exit→Act→World→Prop}{E:Prop}(hgd:o.guard=none)(s x:Operand)(t:TypeId)
  (ho:o.op=.call {callee := .builtin .append,args:=#[s,x],argTypes:=#[t,t]})
  (e:TypeId) (i:TypeInfo) (z:Value) (k bytes:Nat) (ht:P.underlying t=some (.slice e)) (hi:P.info? e=some i) (hz:i.zero=some z)
  (hsize:i.size=k) (hby:i.bytes=bytes) (hzs:z.cells.size=k) (hsz:0<k)
  (v:Value) (n:Nat) (xs:List Value) (hs:a.eval s=v) (hown:w.ownsRow 0 e k v n xs) (xv:Value) (ys:List Value) (m:Nat) (hxv:a.eval x=xv) (hx:zn w xv k ys) (hm:ys.length=m*k)
  (h63:n+m≤maxLen) (hbytes:(n+m)*bytes≤140737488355328)
  (h : ∀ a' c' w',w'.ownsRow 0 e k (.slice a' (n+m) c') (n+m) (xs++ys)→w.grownBy w' v.ownBlock→((Value.slice a' (n+m) c').ownBlock=v.ownBlock∨(Value.slice a' (n+m) c').ownBlock=some w.heap.size)→K (a.put o.dst (.slice a' (n+m) c')) w') :
  if Region.wanted o (yielded ops a.tmps)=true then Oper.wp P o a w K Q else E:=by
 have hw:Region.wanted o (yielded ops a.tmps)=true:=by simp[Region.wanted,hgd]
 rw[zh hw];exact QN w s x t ho e i z k bytes ht hi hz hsize hby hzs hsz v n xs hs hown xv ys m hxv hx hm h63 hbytes h
end
def zz:List Nat→Nat
 | []=>0
 | b::l=>256*zz l+b
def zI:List Bool→Nat
 | []=>0
 | b::l=>2*zI l+b.toNat
def xW(l:List Nat):Prop:=l.length=8 ∧ ∀ c∈l,c<256
theorem zky(f:Nat→Nat→Nat)(g:Bool→Bool→Bool)(hf : ∀ a b i,(f a b).testBit i=g (a.testBit i) (b.testBit i))(hlt : ∀ a b,a<2 ^ 8→b<2 ^ 8→f a b<2 ^ 8)(a b x y:Nat)(ha:a<256)(hb:b<256) :
  f (256*x+a) (256*y+b)=256*f x y+f a b:=by
 apply qN;intro i;have e:(256:Nat)=2 ^ 8:=rfl;rw[hf,e,ZO x ha i,ZO y hb i,ZO (f x y) (hlt a b ha hb) i];split<;>rw[hf]
theorem XB(f:Nat→Nat→Nat)(g:Bool→Bool→Bool)(h00:f 0 0=0)(hf : ∀ a b i,(f a b).testBit i=g (a.testBit i) (b.testBit i))(hlt : ∀ a b,a<2 ^ 8→b<2 ^ 8→f a b<2 ^ 8)(s t:Nat→Nat) :
  ∀ l:List Nat,(∀ c∈l,s c<256)→(∀ c∈l,t c<256)→f (zz (l.map s)) (zz (l.map t))=zz (l.map (fun c=>f (s c) (t c)))
 | [],_,_=>h00
 | c::l,hs,ht=>by
  simp only[List.map_cons,zz];rw[zky f g hf hlt _ _ _ _ (hs c (by simp)) (ht c (by simp)),XB f g h00 hf hlt s t l (fun c h=>hs c (by simp[h])) (fun c h=>ht c (by simp[h]))]
theorem zcy(s t:Nat→Nat)(l:List Nat)(hs : ∀ c∈l,s c<256)(ht : ∀ c∈l,t c<256):zz (l.map s) ^^^ zz (l.map t)=zz (l.map (fun c=>s c ^^^ t c)) :=
 XB (· ^^^ ·) Bool.xor rfl Nat.testBit_xor (fun _ _=>qy) s t l hs ht
theorem KX(s t:Nat→Nat)(l:List Nat)(hs : ∀ c∈l,s c<256)(ht : ∀ c∈l,t c<256):zz (l.map s) &&& zz (l.map t)=zz (l.map (fun c=>s c &&& t c)) :=
 XB (· &&& ·) and rfl Nat.testBit_and (fun a b ha _=>kG Nat.and_le_left ha) s t l hs ht
theorem Ub(s t:Nat→Nat)(l:List Nat)(hs : ∀ c∈l,s c<256)(ht : ∀ c∈l,t c<256):zz (l.map s) ||| zz (l.map t)=zz (l.map (fun c=>s c ||| t c)) :=
 XB (· ||| ·) or rfl Nat.testBit_or (fun _ _=>qM) s t l hs ht
theorem zab(s t:Nat→Nat) : ∀ l:List Nat,zz (l.map s)+zz (l.map t)=zz (l.map (fun c=>s c+t c))
 | []=>rfl
 | c::l=>by simp only[List.map_cons,zz];rw[← zab s t l];omega
theorem Q3 : ∀ l:List Nat,(∀ c∈l,c<256)→zz l<256 ^ l.length
 | [],_=>by simp[zz]
 | c::l,h=>by
  have h1:=Q3 l (fun c hc=>h c (by simp[hc]));have h2:=h c (by simp);simp only[zz,List.length_cons,Nat.pow_succ];omega
theorem xW.lt{l:List Nat}(h:xW l):zz l<18446744073709551616:=by have:=Q3 l h.2;rw[h.1]at this;simpa using this
theorem xW.map{l:List Nat}(h:xW l){s:Nat→Nat}(hs : ∀ c,c<256→s c<256):xW (l.map s):=⟨by simp[h.1],fun c hc=>by obtain⟨a,ha,rfl⟩:=zD.1 hc;exact hs a (h.2 a ha)⟩
theorem VT(k:Nat){l:List Nat}(h:l.length=8):zz (l.map (fun _=>k))=72340172838076673*k:=by
 have:l.map (fun _=>k)=[k,k,k,k,k,k,k,k]:=by
  rw[show(fun _:Nat=>k)=Function.const Nat k from rfl,List.map_const,h];rfl
 rw[this];simp only[zz];omega
theorem xW.eight{l:List Nat}(h:xW l) : ∃ a b c d e f g i,l=[a,b,c,d,e,f,g,i]:=by
 obtain⟨hl,_⟩:=h
 match l,hl with
 | [a,b,c,d,e,f,g,i],_=>exact⟨a,b,c,d,e,f,g,i,rfl⟩
theorem jt{α:Type}{l:List α}(hl:l.length=8) : ∃ a b c d e f g i,l=[a,b,c,d,e,f,g,i]:=by
 match l,hl with
 | [a,b,c,d,e,f,g,i],_=>exact⟨a,b,c,d,e,f,g,i,rfl⟩
theorem zc8 : ∀ x<256,255 ^^^ ((((x &&& 127)+127) ||| x) ||| 127)=if x=0 then 128 else 0:=by decide +kernel
theorem zhI{a b:Nat}(h:a ^^^ b=0):a=b:=by
 apply qN;intro i;have:(a ^^^ b).testBit i=false:=by rw[h];simp
 rw[Nat.testBit_xor]at this
 cases ha:a.testBit i<;>cases hb:b.testBit i<;>simp[ha,hb]at this<;>rfl
theorem zkp{l:List Nat}(h:xW l)(b:Nat)(hb:b<256) :
  18446744073709551615 ^^^ (((((zz l ^^^ (72340172838076673*b)) &&& 9187201950435737471)+9187201950435737471) ||| (zz l ^^^ (72340172838076673*b))) ||| 9187201950435737471) =
   zz (l.map (fun c=>if c=b then 128 else 0)):=by
 have hx : ∀ c∈l,c ^^^ b<256:=fun c hc=>qy (n:=8) (h.2 c hc) hb
 have ha : ∀ c∈l,(c ^^^ b) &&& 127<128:=fun c hc=>by have:(c ^^^ b) &&& 127≤127:=Nat.and_le_right;omega
 have h1:zz l ^^^ (72340172838076673*b)=zz (l.map (fun c=>c ^^^ b)):=by
  have:=zcy id (fun _=>b) l (by simpa using h.2) (fun _ _=>hb)
  rwa [VT b h.1,List.map_id]at this
 have k127:(9187201950435737471:Nat)=zz (l.map (fun _=>127)):=by rw[VT 127 h.1]
 have k255:(18446744073709551615:Nat)=zz (l.map (fun _=>255)):=by rw[VT 255 h.1]
 rw[h1,k127,k255,KX _ _ _ hx (fun _ _=>by omega),zab,Ub _ _ _ (fun c hc=>by have:=ha c hc;omega) hx,
  Ub _ _ _ (fun c hc=>qM (n:=8) (by have:=ha c hc;omega) (hx c hc)) (fun _ _=>by omega),
  zcy _ _ _ (fun _ _=>by omega) (fun c hc=>qM (n:=8) (qM (n:=8) (by have:=ha c hc;omega) (hx c hc)) (by omega))]
 congr 1
 apply ui;intro c hc;rw[zc8 _ (hx c hc)];by_cases e:c=b
 ·subst e;simp
 ·rw[zf e,zf (fun h=>e (zhI h))]
theorem zki{l:List Nat}(h:xW l)(b:Nat)(hb:b<256) :
  (((zz l ^^^ (72340172838076673*b)) &&& 9187201950435737471)+9187201950435737471)<18446744073709551616:=by
 have:(zz l ^^^ (72340172838076673*b)) &&& 9187201950435737471≤9187201950435737471:=Nat.and_le_right;omega
theorem zez{l:List Nat}(p:Nat→Bool):l.map (fun c=>if p c then 128 else 0)=(l.map p).map (fun b=>if b then 128 else 0):=by
 rw[Zf];rfl
theorem zfe : ∀ a b c d e f g i:Bool,(zz ([a,b,c,d,e,f,g,i].map (fun b=>if b then 128 else 0))/128*72624976668147840%18446744073709551616)/72057594037927936%256=zI [a,b,c,d,e,f,g,i]:=by decide +kernel
theorem QW{p:List Bool}(h:p.length=8):(zz (p.map (fun b=>if b then 128 else 0))/128*72624976668147840%18446744073709551616)/72057594037927936%256=zI p:=by
 obtain⟨a,b,c,d,e,f,g,i,rfl⟩:=jt h;exact zfe a b c d e f g i
theorem zev{l:List Nat}(h:xW l):zz l &&& 9259542123273814144=zz (l.map (fun c=>if decide (128≤c)then 128 else 0)):=by
 have k:(9259542123273814144:Nat)=zz (l.map (fun _=>128)):=by rw[VT 128 h.1]
 have:=KX id (fun _=>128) l (by simpa using h.2) (fun _ _=>by omega);rw[List.map_id]at this;rw[k,this]
 congr 1
 apply ui;intro c hc;have : ∀ c<256,c &&& 128=if decide (128≤c)then 128 else 0:=by decide +kernel
 exact this c (h.2 c hc)
theorem vJ(n:Nat)(h:n<18446744073709551616):IntKind.u64.wrap (n:Int)=n:=by
 simp[IntKind.wrap,IntKind.signed,IntKind.bits];omega
theorem KS(n:Nat)(h:n<256):IntKind.u8.wrap (n:Int)=n:=by
 simp[IntKind.wrap,IntKind.signed,IntKind.bits];omega
theorem uq(k:Nat)(n:Nat):BitVec.ofInt k (n:Int)=BitVec.ofNat k n:=by
 apply BitVec.eq_of_toNat_eq;simp[BitVec.toNat_ofInt]
theorem Yp(a b:Nat)(ha:a<18446744073709551616)(hb:b<18446744073709551616):bits .xor .u64 (a:Int) (b:Int)=((a ^^^ b:Nat):Int):=by
 have h:a ^^^ b<2 ^ 64:=qy ha hb
 show IntKind.u64.wrap (((BitVec.ofInt 64 (a:Int) ^^^ BitVec.ofInt 64 (b:Int)).toNat:Nat):Int)=_
 rw[uq,uq];rw[BitVec.toNat_xor,us,us,xB (by omega),xB (by omega)];exact vJ _ (by omega)
theorem Yw(a b:Nat)(ha:a<18446744073709551616)(hb:b<18446744073709551616):bits .and .u64 (a:Int) (b:Int)=((a &&& b:Nat):Int):=by
 have h:a &&& b<2 ^ 64:=Nat.and_lt_two_pow _ hb
 show IntKind.u64.wrap (((BitVec.ofInt 64 (a:Int) &&& BitVec.ofInt 64 (b:Int)).toNat:Nat):Int)=_
 rw[uq,uq];rw[BitVec.toNat_and,us,us,xB (by omega),xB (by omega)];exact vJ _ (by omega)
theorem Xh(a b:Nat)(ha:a<18446744073709551616)(hb:b<18446744073709551616):bits .or .u64 (a:Int) (b:Int)=((a ||| b:Nat):Int):=by
 have h:a ||| b<2 ^ 64:=qM ha hb
 show IntKind.u64.wrap (((BitVec.ofInt 64 (a:Int) ||| BitVec.ofInt 64 (b:Int)).toNat:Nat):Int)=_
 rw[uq,uq];rw[BitVec.toNat_or,us,us,xB (by omega),xB (by omega)];exact vJ _ (by omega)
theorem zca(a b:Nat)(ha:a<256)(hb:b<256):bits .or .u8 (a:Int) (b:Int)=((a ||| b:Nat):Int):=by
 have h:a ||| b<2 ^ 8:=qM ha hb
 show IntKind.u8.wrap (((BitVec.ofInt 8 (a:Int) ||| BitVec.ofInt 8 (b:Int)).toNat:Nat):Int)=_
 rw[uq,uq];rw[BitVec.toNat_or,us,us,xB (by omega),xB (by omega)];exact KS _ (by omega)
theorem V1(a b:Nat)(ha:a<256)(hb:b<256):bits .and .u8 (a:Int) (b:Int)=((a &&& b:Nat):Int):=by
 have h:a &&& b<2 ^ 8:=Nat.and_lt_two_pow _ hb
 show IntKind.u8.wrap (((BitVec.ofInt 8 (a:Int) &&& BitVec.ofInt 8 (b:Int)).toNat:Nat):Int)=_
 rw[uq,uq];rw[BitVec.toNat_and,us,us,xB (by omega),xB (by omega)];exact KS _ (by omega)
theorem zfx(a b:Nat)(ha:a<256)(hb:b<256):bits .xor .u8 (a:Int) (b:Int)=((a ^^^ b:Nat):Int):=by
 have h:a ^^^ b<2 ^ 8:=qy ha hb
 show IntKind.u8.wrap (((BitVec.ofInt 8 (a:Int) ^^^ BitVec.ofInt 8 (b:Int)).toNat:Nat):Int)=_
 rw[uq,uq];rw[BitVec.toNat_xor,us,us,xB (by omega),xB (by omega)];exact KS _ (by omega)
theorem Vo(a b c:Nat)(ha:a<18446744073709551616)(hb:b<18446744073709551616)(hc:c=18446744073709551615-b):bits .andNot .u64 (a:Int) (b:Int)=((a &&& c:Nat):Int):=by
 subst hc;have h:a &&& (18446744073709551615-b)<2 ^ 64:=kG Nat.and_le_left ha
 show IntKind.u64.wrap (((BitVec.ofInt 64 (a:Int) &&& ~~~ BitVec.ofInt 64 (b:Int)).toNat:Nat):Int)=_
 rw[uq,uq];rw[BitVec.toNat_and,BitVec.toNat_not,us,us,xB (a:=a) (by omega),xB (a:=b) (by omega)];exact vJ _ (by simpa using h)
theorem zgb:(if IntKind.u64.signed=true then(-1:Int)else IntKind.u64.max)=((18446744073709551615:Nat):Int):=by decide
theorem zkb:(if IntKind.u8.signed=true then(-1:Int)else IntKind.u8.max)=((255:Nat):Int):=by decide
theorem kE{p:List Bool}(h:p.length=8):zI p<256:=by
 obtain⟨a,b,c,d,e,f,g,i,rfl⟩:=jt h;have : ∀ a b c d e f g i:Bool,zI [a,b,c,d,e,f,g,i]<256:=by decide +kernel
 exact this ..
theorem ziG{p:List Bool}(h:p.length=8):255 ^^^ zI p=zI (p.map not):=by
 obtain⟨a,b,c,d,e,f,g,i,rfl⟩:=jt h;have : ∀ a b c d e f g i:Bool,255 ^^^ zI [a,b,c,d,e,f,g,i]=zI ([a,b,c,d,e,f,g,i].map not):=by decide +kernel
 exact this ..
theorem UU{p:List Bool}(h:p.length=8):decide (zI p=0) = !p.any id:=by
 obtain⟨a,b,c,d,e,f,g,i,rfl⟩:=jt h;have : ∀ a b c d e f g i:Bool,decide (zI [a,b,c,d,e,f,g,i]=0) = !([a,b,c,d,e,f,g,i].any id):=by decide +kernel
 exact this ..
theorem zjA{p:List Bool}(h:p.length=8):decide (zI p=255)=p.all id:=by
 obtain⟨a,b,c,d,e,f,g,i,rfl⟩:=jt h;have : ∀ a b c d e f g i:Bool,decide (zI [a,b,c,d,e,f,g,i]=255)=([a,b,c,d,e,f,g,i].all id):=by decide +kernel
 exact this ..
theorem Qj{p:List Bool}(h:p.length=8)(j:Nat)(hj:j<8):zI p/2 ^ j &&& 1=(p.getD j false).toNat:=by
 obtain⟨a,b,c,d,e,f,g,i,rfl⟩:=jt h;have : ∀ a b c d e f g i:Bool,∀ j<8,zI [a,b,c,d,e,f,g,i]/2 ^ j &&& 1=([a,b,c,d,e,f,g,i].getD j false).toNat:=by decide +kernel
 exact this _ _ _ _ _ _ _ _ j hj
theorem Kk : ∀(l:List Nat) (s t:Nat→Bool),zI (l.map s) ||| zI (l.map t)=zI (l.map (fun c=>s c||t c))
 | [],_,_=>by simp[zI]
 | c::l,s,t=>by
  simp only[List.map_cons,zI];rw[← Kk l s t];apply qN;intro i;have hb : ∀ b:Bool,b.toNat<2 ^ 1:=fun b=>by cases b<;>decide
  have e : ∀(x:Nat) (b:Bool),2*x+b.toNat=2 ^ 1*x+b.toNat:=fun _ _=>rfl
  rw[Nat.testBit_or,e,e,e,ZO _ (hb _),ZO _ (hb _),ZO _ (hb _)];split
  ·have:i=0:=by omega
   subst this
   cases s c<;>cases t c<;>rfl
  ·rw[Nat.testBit_or]
def vx(m:Nat):List Nat:=(List.range 8).filter m.testBit
def kO(m:Nat):Nat:=(vx m).headD 8
theorem Jo{p:List Bool}(h:p.length=8):vx (zI p)=(List.range 8).filter (fun i=>p.getD i false):=by
 obtain⟨a,b,c,d,e,f,g,i,rfl⟩:=jt h;have : ∀ a b c d e f g i:Bool,vx (zI [a,b,c,d,e,f,g,i])=(List.range 8).filter (fun j=>[a,b,c,d,e,f,g,i].getD j false):=by decide +kernel
 exact this ..
theorem zdw : ∀ m<256,m≠0→vx m=kO m::vx (m &&& (m-1))∧kO m<8∧m &&& (m-1)<m:=by decide +kernel
theorem ze2 : ∀ m<256,kO m≤8:=by decide +kernel
theorem zib:vx 0=[]:=by decide
theorem zhG{p:List Bool}(h:p.length=8):kO (zI p)=p.findIdx id:=by
 obtain⟨a,b,c,d,e,f,g,i,rfl⟩:=jt h;have : ∀ a b c d e f g i:Bool,kO (zI [a,b,c,d,e,f,g,i])=[a,b,c,d,e,f,g,i].findIdx id:=by decide +kernel
 exact this ..
theorem zcf{l:List Nat}(h:l.length=8):zz l=zz ((List.range 8).map (fun i=>l.getD i 0)):=by
 obtain⟨a,b,c,d,e,f,g,i,rfl⟩:=jt h
 rfl
theorem zgW : ∀ j<8,18446744073709551615-255*2 ^ (8*j)=zz ((List.range 8).map (fun i=>if i=j then 0 else 255)):=by decide +kernel
theorem zgi(b:Nat) : ∀ j<8,b*2 ^ (8*j)=zz ((List.range 8).map (fun i=>if i=j then b else 0)):=by
 intro j hj;have:j=0∨j=1∨j=2∨j=3∨j=4∨j=5∨j=6∨j=7:=by omega
 rcases this with rfl | rfl | rfl | rfl | rfl | rfl | rfl | rfl<;>simp[List.range_succ,zz]<;>omega
theorem ziw{l:List Nat}(h:xW l)(j b:Nat)(hj:j<8)(hb:b<256):(zz l &&& (18446744073709551615-255*2 ^ (8*j))) ||| b*2 ^ (8*j)=zz (l.set j b):=by
 have hg : ∀ i,l.getD i 0<256:=fun i=>by
  rw[vF]
  cases hi:l[i]? with
  | none=>simp
  | some c=>exact h.2 c (yh hi)
 rw[zgW j hj,zgi b j hj,zcf h.1,KX _ _ _ (fun i _=>hg i) (fun i _=>by split<;>omega),
  Ub _ _ _ (fun i _=>kG Nat.and_le_left (hg i)) (fun i _=>by split<;>omega),zcf (l:=l.set j b) (by simp[h.1])]
 congr 1
 apply ui;intro i hi;have hi:i<8:=by simpa using hi
 have h255 : ∀ c<256,c &&& 255=c:=by decide +kernel
 simp only[List.getD_eq_getElem?_getD,List.getElem?_set];by_cases e:i=j
 ·subst e;simp[h.1,hj]
 ·rw[zf e,zf e,zf (fun x=>e x.symm),Nat.or_zero,h255 _ (by have:=hg i;rwa [vF]at this)]
theorem Jl(n:Nat):IntKind.u64.wrap (n:Int)=((n%18446744073709551616:Nat):Int):=by
 simp[IntKind.wrap,IntKind.signed,IntKind.bits]
theorem JK(b r:Nat)(W:World)(hb:b<256)(hr:72340172838076673*b=r):Calls prog 234 #[.int .u8 b] W fun e w'=>e=.returned (.int .u64 r)∧W=w':=by
 subst hr;have h0:(0:Int)≤b:=by omega
 have h1:(b:Int)≤255:=by omega
 go_enter func234,ntmps234;go_wp2;go_ret;exact⟨by simp,rfl⟩
theorem zbX(z m:Nat)(W:World)(hz:z<18446744073709551616)(hm:z/128*72624976668147840%18446744073709551616/72057594037927936%256=m) :
  Calls prog 279 #[.int .u64 z] W fun e w'=>e=.returned (.int .u8 m)∧W=w':=by
 have h0:(0:Int)≤z:=by omega
 have h1:(z:Int)≤18446744073709551615:=by omega
 go_enter func279,ntmps279;go_wp2;go_ret;refine⟨?_,rfl⟩;have e:IntKind.u64.wrap ((z:Int)/128*72624976668147840)/72057594037927936%256=(m:Int):=by
  rw[show(z:Int)/128*72624976668147840=((z/128*72624976668147840:Nat):Int) by simp,Jl,← hm];simp
 simp only[e]
 rfl
theorem Ki{l:List Nat}(h:xW l)(b:Nat)(W:World)(hb:b<256):Calls prog 242 #[.int .u64 (zz l),.int .u8 b] W fun e w'=>e=.returned (.int .u8 (zI (l.map (· == b))))∧W=w':=by
 have hl:=h.lt;have hs:=zki h b hb;have em:=zkp h b hb;have hr:72340172838076673*b<18446744073709551616:=by omega
 have hb0:xW (l.map (fun c=>if c=b then 128 else 0)):=h.map (fun c _=>by split<;>omega);have hg:=QW (p:=l.map (· == b)) (by simp[h.1]);have hc:l.map (fun c=>if c=b then 128 else 0)=(l.map (· == b)).map (fun b=>if b then 128 else 0):=by rw[Zf];apply ui;intro c _;simp
 rw[← hc]at hg;have hz:=hb0.lt;generalize zz l=w at *;generalize zI (l.map (· == b))=m at *;generalize zz (l.map (fun c=>if c=b then 128 else 0))=z at *;generalize hrb:72340172838076673*b=r at *;have hx:w ^^^ r<18446744073709551616:=qy (n:=64) hl hr;have e1:=Yp w r hl hr;generalize w ^^^ r=x at *;have e2:bits .and .u64 (x:Int) 9187201950435737471=((x &&& 9187201950435737471:Nat):Int):=Yw x 9187201950435737471 hx (by omega);generalize x &&& 9187201950435737471=y at *;have ew:IntKind.u64.wrap ((y:Int)+9187201950435737471)=((y+9187201950435737471:Nat):Int):=vJ _ hs;generalize y+9187201950435737471=u at *;have e3:=Xh u x hs hx;have ho:u ||| x<18446744073709551616:=qM (n:=64) hs hx
 generalize u ||| x=v at *
 have e4:bits .or .u64 (v:Int) 9187201950435737471=((v ||| 9187201950435737471:Nat):Int):=Xh v 9187201950435737471 ho (by omega);have hv:v ||| 9187201950435737471<18446744073709551616:=qM (n:=64) ho (by omega)
 generalize v ||| 9187201950435737471=t at *
 have e5:bits .xor .u64 (if IntKind.u64.signed=true then(-1:Int)else IntKind.u64.max) (t:Int)=(z:Int):=by
  rw[zgb,Yp _ _ (by omega) hv,em]
 go_enter func242,ntmps242
 go_wp2_with (first | (go_at_call 234;refine zm (JK b r _ hb hrb) ?_;rintro e w' ⟨rfl,rfl⟩) | (go_at_call 279;go_must (refine zm (zbX z m _ hz hg) ?_);rintro e w' ⟨rfl,rfl⟩))
 go_ret;exact⟨rfl,rfl⟩
theorem zf3{l:List Nat}(h:xW l)(W:World):Calls prog 300 #[.int .u64 (zz l)] W fun e w'=>e=.returned (.int .u8 (zI (l.map (fun c=>decide (128≤c)))))∧W=w':=by
 have hl:=h.lt;have hw:=zev h;have hz:xW (l.map (fun c=>if decide (128≤c)then 128 else 0)):=h.map (fun c _=>by split<;>omega);have hg:=QW (p:=l.map (fun c=>decide (128≤c))) (by simp[h.1]);rw[← zez (fun c=>decide (128≤c))]at hg;have hz:=hz.lt;have e1:bits .andNot .u64 (zz l:Int) 9187201950435737471=_:=Vo (zz l) 9187201950435737471 9259542123273814144 hl (by omega) rfl;rw[hw]at e1;generalize zz l=w at *;generalize zI (l.map (fun c=>decide (128≤c)))=m at *;generalize zz (l.map (fun c=>if decide (128≤c)then 128 else 0))=z at *;go_enter func300,ntmps300
 go_wp2_with (go_at_call 279;go_must (refine zm (zbX z m _ hz hg) ?_);rintro e w' ⟨rfl,rfl⟩)
 go_ret;exact⟨rfl,rfl⟩
theorem zjO(s:ByteArray)(hs:s.size=256)(h : ∀ k (hk:k<256),wrap64 ((s[k]'(by omega)).toNat:Int)=kO k)(m:Nat)(hm:m<256)(hms:m<s.size):wrap64 ((s[m]'hms).toNat:Int)=kO m:=h m hm
theorem zdm(m:Nat)(W:World)(hm:m<256):Calls prog 272 #[.int .u8 m] W fun e w'=>e=.returned (.int .i64 (kO m))∧W=w':=by
 have h0:(0:Int)≤m:=by omega
 have h1:(m:Int)≤255:=by omega
 have h2:(m:Int)<256:=by omega
 go_enter func272,ntmps272;go_wp2;go_ret;exact⟨congrArg (fun x=>Ending.returned (.int .i64 x)) (zjO _ (by decide) (by decide +kernel) m hm _),rfl⟩
theorem zcs(m:Nat)(W:World)(hm:m<256):Calls prog 228 #[.int .u8 m] W fun e w'=>e=.returned (.int .i64 (kO m))∧W=w':=by
 go_enter func228,ntmps228
 go_wp2_with (go_at_call 272;go_must (refine zm (zdm m _ hm) ?_);rintro e w' ⟨rfl,rfl⟩)
 go_ret;exact⟨rfl,rfl⟩
theorem zbw(j:Nat)(hj:j<8)(b:Nat)(hb:b<256):b*2 ^ (8*j)<18446744073709551616:=by
 have:2 ^ (8*j)≤2 ^ 56:=Zb (by decide) (by omega);have:b*2 ^ (8*j)≤255*2 ^ 56:=Nat.mul_le_mul (by omega) this;omega
theorem za8{l:List Nat}(h:xW l)(j b:Nat)(W:World)(hj:j<8)(hb:b<256):Calls prog 274 #[.int .u64 (zz l),.int .i64 j,.int .u8 b] W fun e w'=>e=.returned (.tuple #[.int .u64 (zz (l.set j b)),.int .i64 0])∧w'=W.drew:=by
 have hl:=h.lt;have hw:=ziw h j b hj hb;have h0:(0:Int)≤j:=by omega
 have h1:(j:Int)<8:=by omega
 have h2 : ¬ ((8:Int)≤j):=by omega
 have hb0:(0:Int)≤b:=by omega
 have hb1:(b:Int)≤255:=by omega
 have k0:(0:Int)≤8*(j:Int):=by omega
 have k1:8*(j:Int)≤64:=by omega
 have k2:wrap64 (8*(j:Int))=8*(j:Int):=IntWalk.wrap64_in _ (by omega);have s0:=zbw j hj 255 (by omega);have s1:=zbw j hj b hb;have e1:IntKind.u64.wrap (255*2 ^ (8*j))=((255*2 ^ (8*j):Nat):Int):=by rw[← vJ _ s0];simp
 have e2:IntKind.u64.wrap ((b:Int)*2 ^ (8*j))=((b*2 ^ (8*j):Nat):Int):=by rw[← vJ _ s1];simp
 generalize b*2 ^ (8*j)=t at *;generalize 255*2 ^ (8*j)=s at *;generalize zz (l.set j b)=z at *;generalize zz l=w at *;have e3:=Vo w s _ hl s0 rfl;have hx:w &&& (18446744073709551615-s)<18446744073709551616:=kG Nat.and_le_left hl;generalize w &&& (18446744073709551615-s)=x at *;have e4:=Xh x t hx s1;rw[hw]at e4;go_enter func274,ntmps274;go_wp2
 go_region
 go_wp2;go_ret2;exact⟨rfl,rfl⟩
def jW(l:List Nat):Prop:=l.length=8 ∧ ∀ c∈l,c<128∨c=128∨c=254
theorem jW.bytes{l:List Nat}(h:jW l):xW l:=⟨h.1,fun c hc=>by have:=h.2 c hc;omega⟩
theorem zeR(W:World):Calls prog 182 #[] W fun e w'=>e=.returned (.int .u64 (zz [128,128,128,128,128,128,128,128]:Nat))∧W=w':=by
 have hq:=JK 128 (zz [128,128,128,128,128,128,128,128]) W (by omega) (by rfl);generalize zz [128,128,128,128,128,128,128,128]=z at *;go_enter func182,ntmps182
 go_wp2_with (go_at_call 234;go_must (refine zm hq ?_);rintro e w' ⟨rfl,rfl⟩)
 go_ret;exact⟨rfl,rfl⟩
theorem zdc{l:List Nat}(h:xW l)(b:Nat)(W:World)(hb:b<128):Calls prog 192 #[.int .u64 (zz l),.int .u8 b] W fun e w'=>e=.returned (.int .u8 (zI (l.map (· == b))))∧W=w':=by
 have h1 : ¬ ((127:Int)<b):=by omega
 go_enter func192,ntmps192
 go_wp2_with (go_at_call 242;go_must (refine zm (Ki h b _ (by omega)) ?_);rintro e w' ⟨rfl,rfl⟩)
 go_ret;exact⟨rfl,rfl⟩
theorem Xm{l:List Nat}(h:xW l)(W:World):Calls prog 194 #[.int .u64 (zz l)] W fun e w'=>e=.returned (.int .u8 (zI (l.map (· == 128))))∧W=w':=by
 go_enter func194,ntmps194
 go_wp2_with (go_at_call 242;go_must (refine zm (Ki h 128 _ (by omega)) ?_);rintro e w' ⟨rfl,rfl⟩)
 go_ret;exact⟨rfl,rfl⟩
theorem JU{l:List Nat}(h:jW l)(W:World):Calls prog 229 #[.int .u64 (zz l)] W fun e w'=>e=.returned (.int .u8 (zI (l.map (fun c=>decide (128≤c)))))∧W=w':=by
 have e1:=zca (zI (l.map (· == 128))) (zI (l.map (· == 254))) (kE (by simp[h.1])) (kE (by simp[h.1]));rw[Kk]at e1;have e2:l.map (fun c=>c==128||c==254)=l.map (fun c=>decide (128≤c)):=ui (fun c hc=>by have:=h.2 c hc;rw[Bool.eq_iff_iff];simp;omega);rw[e2]at e1;go_enter func229,ntmps229
 go_wp2_with (first | (go_at_call 194;go_must (refine zm (Xm h.bytes _) ?_);rintro e w' ⟨rfl,rfl⟩) | (go_at_call 242;go_must (refine zm (Ki h.bytes 254 _ (by omega)) ?_);rintro e w' ⟨rfl,rfl⟩))
 go_ret;exact⟨rfl,rfl⟩
theorem Jk{l:List Nat}(h:xW l)(W:World):Calls prog 271 #[.int .u64 (zz l)] W fun e w'=>e=.returned (.int .u8 (zI (l.map (fun c=>decide (c<128)))))∧W=w':=by
 have hm:zI (l.map (fun c=>decide (128≤c)))<256:=kE (by simp[h.1]);have e0:=ziG (p:=l.map (fun c=>decide (128≤c))) (by simp[h.1]);rw[Zf,show(not ∘ fun c=>decide (128≤c))=(fun c:Nat=>decide (c<128)) by funext c;simp only[Function.comp];rw[Bool.eq_iff_iff];simp]at e0;have e1:bits .xor .u8 (if IntKind.u8.signed=true then(-1:Int)else IntKind.u8.max) (zI (l.map (fun c=>decide (128≤c))):Int)=(zI (l.map (fun c=>decide (c<128))):Int):=by rw[zkb,zfx _ _ (by omega) hm,e0]
 have hq:=zf3 h W;generalize zI (l.map (fun c=>decide (128≤c)))=m at *;generalize zI (l.map (fun c=>decide (c<128)))=z at *;go_enter func271,ntmps271
 go_wp2_with (go_at_call 300;go_must (refine zm hq ?_);rintro e w' ⟨rfl,rfl⟩)
 go_ret;exact⟨rfl,rfl⟩
theorem zeU{l:List Nat}(h:jW l)(W:World):Calls prog 301 #[.int .u64 (zz l)] W fun e w'=>e=.returned (.bool true)∧W=w':=by
 have h1:=JU h W;have h2:=Jk h.bytes W;have e1:=zca (zI (l.map (fun c=>decide (128≤c)))) (zI (l.map (fun c=>decide (c<128)))) (kE (by simp[h.1])) (kE (by simp[h.1]));rw[Kk]at e1;have e2:zI (l.map (fun c=>decide (128≤c)||decide (c<128)))=255:=by
  have:=zjA (p:=l.map (fun c=>decide (128≤c)||decide (c<128))) (by simp[h.1]);rw[show(l.map (fun c=>decide (128≤c)||decide (c<128))).all id=true by simp[List.all_map];intro c _;omega]at this;exact of_decide_eq_true this
 rw[e2]at e1;generalize zI (l.map (fun c=>decide (128≤c)))=m at *;generalize zI (l.map (fun c=>decide (c<128)))=z at *;go_enter func301,ntmps301
 go_wp2_with (first | (go_at_call 229;go_must (refine zm h1 ?_);rintro e w' ⟨rfl,rfl⟩) | (go_at_call 271;go_must (refine zm h2 ?_);rintro e w' ⟨rfl,rfl⟩))
 go_ret;exact⟨rfl,rfl⟩
theorem za0{l:List Nat}(h:jW l)(j:Nat)(W:World)(hj:j<8):Calls prog 273 #[.int .u64 (zz l),.int .i64 j] W fun e w'=>e=.returned (.int .i64 0)∧W=w':=by
 have hq:=zeU h W;have h0:(0:Int)≤j:=by omega
 have h1:(j:Int)<8:=by omega
 have h2 : ¬ ((8:Int)≤j):=by omega
 generalize zz l=w at *;go_enter func273,ntmps273
 go_wp2_with (go_at_call 301;go_must (refine zm hq ?_);rintro e w' ⟨rfl,rfl⟩)
 go_ret;exact⟨rfl,rfl⟩
theorem zge{l:List Nat}(h:jW l)(j b:Nat)(W:World)(hj:j<8)(hb:b<128):Calls prog 230 #[.int .u64 (zz l),.int .i64 j,.int .u8 b] W fun e w'=>e=.returned (.tuple #[.int .u64 (zz (l.set j b)),.int .i64 0])∧w'=W.drew:=by
 have hq:=za0 h j W hj;have hw:=za8 h.bytes j b W hj (by omega);have h1 : ¬ ((127:Int)<b):=by omega
 generalize zz (l.set j b)=z at *;generalize zz l=w at *;go_enter func230,ntmps230
 go_wp2_with (first | (go_at_call 273;go_must (refine zm hq ?_);rintro e w' ⟨rfl,rfl⟩) | (go_at_call 274;go_must (refine zm hw ?_);rintro e w' ⟨rfl,rfl⟩))
 go_ret2;exact⟨rfl,rfl⟩
def yF(l:List Nat):Nat:=if l.any (· == 128)then 128 else 254
theorem Az2aw {P:Prop}(h:P:=by
 go_wp2_with (first | (go_at_call 273;go_must (refine zm hq ?_);rintro e w' ⟨rfl,rfl⟩) | (go_at_call 194;go_must (refine zm he ?_);rintro e w' ⟨rfl,rfl⟩) | (go_at_call 271;go_must (refine zm hf ?_);rintro e w' ⟨rfl,rfl⟩) | (go_at_call 274;go_must (refine zm hw ?_);rintro e w' ⟨rfl,rfl⟩))
 go_ret2;exact⟨rfl,rfl⟩):P:=h
theorem ziI{l:List Nat}(h:jW l)(j c:Nat)(W:World)(hj:l[j]? = some c)(hc:c<128):Calls prog 244 #[.int .u64 (zz l),.int .i64 j] W fun e w'=>e=.returned (.tuple #[.int .u64 (zz (l.set j (yF l))),.int .i64 0])∧w'=W.drew:=by
 have hj8:j<8:=by have:=(zC.1 hj).1;have:=h.1;omega
 have hq:=za0 h j W hj8;have hw:=za8 h.bytes j (yF l) W hj8 (by unfold yF;split<;>omega);have he:=Xm h.bytes W;have hf:=Jk h.bytes W;have hz:=UU (p:=l.map (· == 128)) (by simp[h.1]);have hlt:=kE (p:=l.map (fun c=>decide (c<128))) (by simp[h.1]);have hb:=Qj (p:=l.map (fun c=>decide (c<128))) (by simp[h.1]) j hj8;rw[show(l.map (fun c=>decide (c<128))).getD j false=true by simp[List.getD_eq_getElem?_getD,hj,hc]]at hb;have hd:zI (l.map (fun c=>decide (c<128)))/2 ^ j<256:=kG (Zk _ _) hlt;have e1:bits .and .u8 ((zI (l.map (fun c=>decide (c<128))):Int)/2 ^ j) 1=1:=by
  have:=V1 _ 1 hd (by omega);rw[hb]at this;simpa using this
 have k0:(0:Int)≤j:=by omega
 have k1:(j:Int)≤8:=by omega
 generalize zI (l.map (fun c=>decide (c<128)))=f at *;rw[show(l.map (· == 128)).any id=l.any (· == 128) by simp[List.any_map]]at hz;generalize zz (l.set j (yF l))=z at *;generalize zz l=w at *;unfold yF at hw
 cases ha:l.any (· == 128)with
 | true =>
  rw[ha]at hz hw;have hz:zI (l.map (· == 128))≠0:=by simpa using hz
  generalize zI (l.map (· == 128))=m at *;have hz2:((m:Int)==0)=false:=by simp[hz]
  go_enter func244,ntmps244;exact Az2aw
 | false =>
  rw[ha]at hz hw;have hz:zI (l.map (· == 128))=0:=by simpa using hz
  rw[hz]at he;go_enter func244,ntmps244;exact Az2aw
end
end Go.Proofs.YtpadepliilhmhaaGreatDoor
