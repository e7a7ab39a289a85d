/- Lemmas and contracts of functions. No condition. -/
import Derived.WalkKit
import Derived.WalkSpells
import Derived.WalkLawsBesides
import Derived.Outline
import Derived.Lib.Hide
import Derived.Deep.AppendLies
import Derived.Deep.AppendSrc
import Derived.Deep.RegionHeld3
import Derived.BigQuiet
import Derived.Deep.DeepCutAuto
import Derived.Deep.RegionLaw
import Derived.Deep.QuietTactic
import Derived.Test.YtpplkcnknabofaaGreatDoorProg
import Derived.Handy
namespace Go.Proofs.YtpplkcnknabofaaGreatDoor
open _root_.Go.Proofs.Tryz
set_option maxRecDepth 100000
set_option maxHeartbeats 20000000
set_option linter.all false
section
open Go.RowKit
theorem za{p:Prop}(h:p):Hid p:=h
theorem zc{α:Sort _}(a:α) : ∃ x,a=x:=⟨a,rfl⟩
abbrev zf := @cell_of_row
abbrev zF := @List.getElem?_eq_some_iff
abbrev zl := @lt_of_block
abbrev zN := @List.getElem?_eq_getElem
abbrev zt := @IntWalk.i64_in
abbrev zm := @Calls.mono
abbrev zR := @List.length_append
abbrev zh := @if_neg
abbrev zP := @heap_setCell_same
abbrev yd := @List.mem_of_getElem?
abbrev yo := @List.getElem?_set_self
abbrev zQ := @decide_eq_false
abbrev zL := @decide_eq_true
abbrev zk := @if_pos
abbrev zH := @Nat.le_trans
abbrev YB := @List.setIfInBounds_toArray
abbrev zI := @List.mem_map
abbrev yx := @List.getElem?_set_ne
abbrev zG := @Nat.le_refl
abbrev yw := @List.getElem?_map
abbrev ym := @List.mem_cons_self
abbrev zK := @bodyPost_ret
abbrev yB := @List.mem_cons_of_mem
abbrev ZO := @List.set_cons_succ
abbrev yt := @List.length_map
abbrev vS := @List.getD_eq_getElem?_getD
abbrev zhr := @List.set_cons_zero
abbrev xC := @List.mem_append_right
abbrev yF := @List.mem_append
abbrev xh := @List.mem_singleton
abbrev qz := @List.length_cons
abbrev yP := @frozen_of_row
abbrev xN := @List.getElem?_eq_none
abbrev yu := @List.mem_cons
abbrev xQ := @List.mem_append_left
abbrev yh := @Nat.zero_le
abbrev xe := @List.nodup_cons
abbrev vu := @List.length_replicate
abbrev xD := @List.nodup_append
abbrev vW := @List.getElem?_replicate
abbrev ur := @List.getElem?_append_left
abbrev zmP := @List.getElem_cons_zero
abbrev zmR := @List.getElem_cons_succ
abbrev x9 := @Nat.lt_of_lt_of_le
abbrev xH := @List.length_set
abbrev uY := @Array.getElem?_eq_some_iff
abbrev xK := @List.map_append
abbrev yy := @callsIn_wide
abbrev xZ := @Nat.mod_eq_of_lt
abbrev zmy := @List.getElem_toArray
abbrev ug := @List.getElem?_of_mem
abbrev vw := @List.getElem?_toArray
abbrev vj := @World.ownsRow_nil
abbrev vH := @List.append_assoc
abbrev xE := @AllReadyH.cons
abbrev YM := @List.nil_append
abbrev uc := @List.map_congr_left
abbrev uE := @beq_eq_false_iff_ne
abbrev zcH := @List.cons_append
abbrev ji := @List.getElem?_append_right
abbrev ko := @List.pairwise_cons
abbrev ux := @BitVec.toNat_ofNat
abbrev ua := @List.take_add_one
abbrev kU := @List.drop_eq_getElem_cons
abbrev Zh := @List.map_cons
abbrev uF := @List.ext_getElem?
abbrev xn := @info_parts
abbrev kM := @List.take_of_length_le
abbrev qx := @List.eq_nil_of_length_eq_zero
abbrev uO := @List.pairwise_map
abbrev jS := @List.mem_or_eq_of_mem_set
abbrev zmD := @List.length_nil
abbrev zmz := @Array.replicate_zero
abbrev zmA := @Array.replicate_succ
abbrev zmK := @List.append_toArray
abbrev qn := @Array.getElem?_eq_getElem
abbrev k9 := @List.filter_cons
abbrev zmO := @List.size_toArray
abbrev qX := @List.flatMap_cons
abbrev vM := @AllReadyH.nil
abbrev jf := @List.filter_eq_self
abbrev zmW := @List.push_toArray
abbrev Zo := @List.mem_of_find?_eq_some
abbrev jb := @List.find?_eq_none
abbrev vI := @wpAnyH_ready
abbrev qt := @List.getElem?_range
abbrev Y7 := @Int.toNat_of_nonneg
abbrev Yc := @Nat.testBit_two_pow_mul_add
abbrev vr := @Nat.mod_lt
abbrev j5 := @List.pairwise_append
abbrev jO := @Nat.lt_of_le_of_lt
abbrev jT := @List.getElem?_take
abbrev kC := @wpAnyH_take
abbrev jm := @List.append_nil
abbrev ki := @CallsIn.mono
abbrev YE := @List.getElem?_cons_succ
abbrev Zm := @Nat.eq_of_testBit_eq
abbrev Yg := @Nat.div_div_eq_div_mul
abbrev ZP := @List.drop_of_length_le
abbrev ZN := @List.replicate_succ
abbrev qg := @List.filter_sublist
abbrev vQ := @wpIn_wide
abbrev qT := @List.mem_filter
abbrev YL := @World.cell?_setCell_other
abbrev Za := @Nat.xor_lt_two_pow
abbrev Zn := @List.length_take
abbrev ZV := @Nat.zero_add
abbrev jh := @List.map_map
abbrev Yd := @Nat.pow_le_pow_right
abbrev jv := @List.nodup_nil
abbrev YT := @World.block_lt_of_cell?
abbrev Zj := @Nat.or_lt_two_pow
abbrev qU := @Nat.lt_trichotomy
abbrev qQ := @Option.some.inj
abbrev qO := @wp_region_held_drew
abbrev ZW := @List.flatMap_append
abbrev Yr := @List.filter_eq_nil_iff
abbrev zmQ := @run_underlying
abbrev Z7 := @List.mem_range
abbrev Yy := @List.take_append_drop
abbrev YA := @Array.getElem?_toList
abbrev vE := @Iff.rfl
abbrev Y6 := @Array.getElem?_range
abbrev Xz := @List.getElem?_set
abbrev jY := @Nat.pow_succ
abbrev YF := @List.take_succ_cons
abbrev VX := @Nat.and_two_pow_sub_one_eq_mod
abbrev ZK := @List.mem_flatten
abbrev ZG := @List.mem_flatMap
abbrev qh := @Nat.mul_one
abbrev Xs := @World.frozen?_of_block
abbrev zmN := @MapKept.run_setObj_map
abbrev zmC := @MapKept.run_getObj_map
abbrev Ym := @List.filter_append
abbrev ZC := @and_congr_right
abbrev XC := @List.set_append_right
abbrev Yp := @wpList_delete_own
abbrev YQ := @List.foldl_append
abbrev Vt := @List.flatten_cons
abbrev Up := @Int.tdiv_eq_ediv_of_nonneg
abbrev Xc := @wpList_mapUpdate_own
abbrev Xk := @Nat.mul_le_mul_right
abbrev zmF := @List.countP_cons
abbrev Zq := @Nat.le_of_lt
abbrev V8 := @List.pairwise_iff_getElem
abbrev Vm := @List.findIdx?_eq_none_iff
abbrev ZE := @Int.ofNat_inj
abbrev YP := @Nat.div_le_self
abbrev XV := @World.ownsMap_made
abbrev Je := @List.findIdx?_eq_some_iff_getElem
abbrev VV := @List.takeWhile_sublist
abbrev Uw := @List.length_pos_of_mem
abbrev XK := @List.filter_congr
abbrev Zy := @getElem!_pos
abbrev ZD := @Nat.sub_self
abbrev XR := @Nat.add_zero
abbrev YZ := @List.map_set
abbrev VA := @World.cell?_alloc_new
abbrev Uq := @List.countP_le_length
abbrev Zz := @Maps.size_put
abbrev VI := @List.mem_of_getLast?
abbrev Ju := @List.getElem?_modify
abbrev Xe := @List.find?_some
abbrev Vn := @Array.toList_modify
abbrev Qc := @List.perm_append_singleton
abbrev KA := @Array.getElem?_append_left
abbrev Uz := @List.filter_filter
abbrev XL := @DataW.trod_int
structure Mod(S:Nat→Prop)(w w':World):Prop where
 os:w'.os=w.os
 tape:w'.tape=w.tape
 output:w'.output=w.output
 size:w.heap.size≤w'.heap.size
 block : ∀ k,k<w.heap.size → ¬ S k→w'.heap[k]? = w.heap[k]?
abbrev zb(w w':World):Prop:=Mod (fun _=>False) w w'
theorem Mod.refl(S:Nat→Prop)(w:World):Mod S w w:=⟨rfl,rfl,rfl,zG _,fun _ _ _=>rfl⟩
theorem Mod.mono{S S':Nat→Prop}{w w':World}(h:Mod S w w')(hs : ∀ k,k<w.heap.size→S k→S' k):Mod S' w w' :=
 ⟨h.os,h.tape,h.output,h.size,fun k hk hn=>h.block k hk (fun hx=>hn (hs k hk hx))⟩
theorem Mod.trans'{S T U:Nat→Prop}{a b c:World}(h:Mod S a b)(k:Mod T b c)(hs : ∀ i,i<a.heap.size→S i→U i)(ht : ∀ i,i<a.heap.size→T i→U i):Mod U a c :=
 ⟨k.os.trans h.os,k.tape.trans h.tape,k.output.trans h.output,zH h.size k.size,fun i hi hn =>
  (k.block i (x9 hi h.size) (fun hx=>hn (ht i hi hx))).trans (h.block i hi (fun hx=>hn (hs i hi hx)))⟩
theorem Mod.trans{S:Nat→Prop}{a b c:World}(h:Mod S a b)(k:Mod S b c):Mod S a c:=h.trans' k (fun _ _ h=>h) (fun _ _ h=>h)
theorem Mod.of_pure{S:Nat→Prop}{w w':World}(h:zb w w'):Mod S w w':=h.mono (fun _ _ h=>h.elim)
theorem Mod.of_grown{S:Nat→Prop}{w w':World}{row:Option Nat}(h:w.grownBy w' row)(hs : ∀ k,row=some k→k<w.heap.size→S k):Mod S w w' :=
 ⟨h.os,h.tape,h.output,h.size,fun k hk hn=>h.block k hk (fun e=>hn (hs k e.symm hk))⟩
theorem Mod.below{S:Nat→Prop}{w w':World}(h:Mod S w w')(hs : ∀ k,k<w.heap.size → ¬ S k):Below w.heap.size w w':=⟨h.os,h.tape,h.output,h.size,fun k hk=>h.block k hk (hs k hk)⟩
theorem Mod.alloc{S:Nat→Prop}{a w:World}(h:Mod S a w)(o:Obj):Mod S a (w.alloc o) :=
 ⟨h.os,h.tape,h.output,zH h.size (by simp),fun k hk hn=>(Below.heap_alloc w o k (x9 hk h.size)).trans (h.block k hk hn)⟩
theorem Mod.drew{S:Nat→Prop}{a w:World}(h:Mod S a w):Mod S a w.drew:=⟨h.os,h.tape,h.output,h.size,h.block⟩
theorem Mod.of_drew{S:Nat→Prop}{w w':World}(h:Mod S w.drew w'):Mod S w w':=⟨h.os,h.tape,h.output,h.size,h.block⟩
theorem Mod.drewN{S:Nat→Prop}{a w:World}(h:Mod S a w)(n:Nat):Mod S a (w.drewN n):=⟨h.os,h.tape,h.output,h.size,h.block⟩
theorem Mod.setCell{S:Nat→Prop}{a w:World}(h:Mod S a w){p:Addr}(hp:p.block<a.heap.size→S p.block)(u:Value):Mod S a (w.setCell p u) :=
 ⟨h.os,h.tape,h.output,by simpa[World.setCell]using h.size,fun k hk hn=>(Below.heap_setCell w p u k (fun e=>by subst e;exact hn (hp hk))).trans (h.block k hk hn)⟩
theorem Mod.then{S T:Nat→Prop}{a b c:World}(h:Mod S a b)(k:Mod T b c)(ht : ∀ i,i<a.heap.size→T i→S i):Mod S a c:=h.trans' k (fun _ _ h=>h) ht
theorem Mod.cells{W w1:World}(h:zb W w1):(∀ b o,b<W.heap.size→w1.cell? ⟨b,o,none⟩=W.cell? ⟨b,o,none⟩)∧(∀ b o,b<W.heap.size→w1.frozen? ⟨b,o,none⟩=W.frozen? ⟨b,o,none⟩) :=
 ⟨fun b o hb=>World.cell?_of_block (w:=W) (a:=⟨b,o,none⟩) (h.block b hb (fun h=>h)),fun b o hb=>Xs (w:=W) (a:=⟨b,o,none⟩) (h.block b hb (fun h=>h))⟩
theorem Mod.cell{S:Nat→Prop}{w w':World}(h:Mod S w w'){a:Addr}{v:Value}(hn : ¬ S a.block)(hc:w.cell? a=some v):w'.cell? a=some v :=
 (World.cell?_of_block (w:=w) (h.block a.block (YT w a hc) hn)).trans hc
theorem Mod.heap{S:Nat→Prop}{w w':World}(h:Mod S w w'){k:Nat}{o:Obj}(hn : ¬ S k)(hc:w.heap[k]? = some o):w'.heap[k]? = some o :=
 (h.block k (zl hc) hn).trans hc
theorem Mod.lt{S:Nat→Prop}{w w':World}(h:Mod S w w'){k:Nat}(hk:k<w.heap.size):k<w'.heap.size:=x9 hk h.size
theorem zi{w:World}{o:Obj}{n:Nat}(hn:n=w.heap.size):(w.alloc o).heap[n]? = some o:=by subst hn;exact heap_alloc_new w o
theorem zz{w:World}{o x:Obj}{n:Nat}(h:w.heap[n]? = some x):(w.alloc o).heap[n]? = some x:=by
 rw[Below.heap_alloc w o n (zl h)];exact h
theorem yT{w:World}{a:Addr}{v:Value}{x:Obj}{n:Nat}(h:w.heap[n]? = some x)(hn:n≠a.block):(w.setCell a v).heap[n]? = some x:=by
 rw[heap_setCell_other w a n v hn];exact h
theorem Mod.box{S:Nat→Prop}{W w1:World}(h:Mod S W w1){b:Nat}{cs:Array Value}{T:TypeId}(hb:W.heap[b]? = some (.cells cs T (0,0)))(hn : ¬ S b) :
  (∀ i,w1.cell? ⟨b,i,none⟩=cs[i]?)∧(∀ i,w1.frozen? ⟨b,i,none⟩=false):=by
 have:=h.heap hn hb;exact⟨fun i=>zf w1 b i cs T (0,0) this,fun i=>yP w1 b i cs T this⟩
theorem jV(n:Nat)(h:n≤9223372036854775807):wrap64 (n:Int)=n:=IntWalk.wrap64_in _ (by omega)
theorem zhY(n:Nat)(h:n≤4294967295):wrap64 (n:Int)%4294967296=n:=by rw[jV n (by omega)];omega
def zn(w:World)(v:Value)(k:Nat)(xs:List Value):Prop :=
 ∃(a:Option Addr) (n c:Nat),v=.slice a n c∧xs.length=n*k∧(∀ u∈xs,u.oneCell'=true)∧(a=none→n=0) ∧ ∀ ad,a=some ad → ∀ j u,xs[j]? = some u→w.cell? (ad.add j)=some u
theorem zn.nil(w:World)(k:Nat):zn w (.slice none 0 0) k []:=⟨none,0,0,rfl,by simp,by simp,fun _=>rfl,fun _ h=>by cases h⟩
def um:Value→Option Nat
 | .slice (some a) n _=>if n=0 then none else some a.block
 | _=>none
theorem zbo{v:Value}{g:Nat}(h:um v=some g):v.ownBlock=some g:=by
 unfold um at h;split at h
 ·split at h
  ·cases h
  ·exact h
 ·cases h
theorem zcQ(ad:Addr)(j:Nat):(ad.add j).block=ad.block:=by unfold Addr.add;split<;>rfl
theorem zn.frame{w w':World}{v:Value}{k:Nat}{xs:List Value}{S:Nat→Prop}(h:zn w v k xs)(hm:Mod S w w')(hn : ∀ g,um v=some g → ¬ S g):zn w' v k xs:=by
 obtain⟨a,n,c,rfl,hl,h1,h0,hc⟩:=h;refine⟨a,n,c,rfl,hl,h1,h0,fun ad ha j u hu => ?_⟩;refine hm.cell ?_ (hc ad ha j u hu);rw[zcQ];refine hn ad.block ?_;subst ha;have:n≠0:=by
  rintro rfl;have:xs=[]:=qx (by simpa using hl);subst this
  cases hu
 simp[um,this]
theorem zn.lt{w:World}{v:Value}{k:Nat}{xs:List Value}(h:zn w v k xs)(hk:0<k){g:Nat}(hg:um v=some g):g<w.heap.size:=by
 obtain⟨a,n,c,rfl,hl,h1,h0,hc⟩:=h
 cases a with
 | none=>cases hg
 | some ad =>
  simp only[um]at hg;split at hg
  ·cases hg
  ·cases hg
   have hp:0<xs.length:=by rw[hl];exact Nat.mul_pos (by omega) hk
   have:=YT w _ (hc ad rfl 0 _ (zN hp))
   rwa [zcQ]at this
theorem zn.of_owns{w:World}{e:TypeId}{k:Nat}{v:Value}{n:Nat}{xs:List Value}(h:w.ownsRow 0 e k v n xs)(h1 : ∀ u∈xs,u.oneCell'=true):zn w v k xs:=by
 obtain⟨hl,hv⟩:=h;rcases hv with⟨rfl,rfl⟩ | ⟨g,cap,cur,rfl,hb,hg,hnc,hcm,hcs,ht⟩
 ·have:xs=[]:=qx (by simpa using hl);subst this;exact zn.nil w k
 ·have hown:w.ownsRow 0 e k (.slice (some ⟨g,0,none⟩) n cap) n xs:=⟨hl,.inr ⟨g,cap,cur,rfl,hb,hg,hnc,hcm,hcs,ht⟩⟩;exact⟨some ⟨g,0,none⟩,n,cap,rfl,hl,h1,(fun h=>by cases h),fun ad ha j u hu=>by cases ha;exact hown.cells rfl j u hu⟩
theorem uX{α β:Type}(f:α→List β)(k:Nat)(hf : ∀ a,(f a).length=k)(j:Nat)(hj:j<k) : ∀(M:List α) (i:Nat),(M.flatMap f)[i*k+j]? = (M[i]?).bind fun m=>(f m)[j]?
 | [],i=>by simp
 | a::M,0=>by
  simp only[List.flatMap_cons,Nat.zero_mul,Nat.zero_add,List.getElem?_cons_zero,Option.bind_some];rw[ur (by rw[hf];exact hj)]
 | a::M,i+1=>by
  have e:(i+1)*k+j=(f a).length+(i*k+j):=by rw[hf,Nat.add_mul];omega
  simp only[List.flatMap_cons,List.getElem?_cons_succ];rw[e,ji (Nat.le_add_right _ _),Nat.add_sub_cancel_left];exact uX f k hf j hj M i
theorem YW{α β:Type}(f:α→List β)(k:Nat)(hf : ∀ a,(f a).length=k) : ∀(M:List α),(M.flatMap f).length=M.length*k
 | []=>by simp
 | a::M=>by simp only[List.flatMap_cons,List.length_append,hf,YW f k hf M,List.length_cons,Nat.add_mul];omega
theorem uN{w:World}{T k:Nat}{v:Value}{n:Nat}{xs:List Value}(h:w.ownsRow 0 T k v n xs) : ∃ a c,v=.slice a n c∧n≤c:=by
 rcases h.2 with⟨rfl,rfl⟩ | ⟨g,cap,cur,rfl,_,_,hnc,_⟩
 ·exact⟨none,0,rfl,zG _⟩
 ·exact⟨_,_,rfl,hnc⟩
theorem kt{w:World}{T k:Nat}{v:Value}{n:Nat}{xs:List Value}(h:w.ownsRow 0 T k v n xs)(hn:0<n) :
  ∃ g c,v=.slice (some ⟨g,0,none⟩) n c∧n≤c∧g<w.heap.size∧(∀ j u,xs[j]? = some u→w.cell? ⟨g,j,none⟩=some u)∧(∀ j,w.frozen? ⟨g,j,none⟩=false) ∧ ∃ cur,w.heap[g]? = some (.cells cur T (0,0))∧cur.size=c*k∧cur.toList.take (n*k)=xs∧c≤maxLen:=by
 obtain⟨hl,hv⟩:=h;rcases hv with⟨_,h0⟩ | ⟨g,cap,cur,rfl,hb,hg,hnc,hm,hcs,ht⟩
 ·omega
 ·refine⟨g,cap,rfl,hnc,zl hg,fun j u hu => ?_,fun j=>yP w g j cur T hg,cur,hg,hcs,ht,hm⟩;rw[zf w g j cur T (0,0) hg];rw[← ht,jT]at hu;split at hu
  ·simpa using hu
  ·cases hu
theorem U4{w w':World}{T k:Nat}{v:Value}{n:Nat}{xs:List Value}(h:w.ownsRow 0 T k v n xs)(hn : ∀ g,v.ownBlock=some g→g<w.heap.size→w'.heap[g]? = w.heap[g]?):w'.ownsRow 0 T k v n xs:=by
 refine⟨h.1,?_⟩;rcases h.2 with h2 | ⟨g,cap,cur,rfl,hb,hg,rest⟩
 ·exact .inl h2
 ·exact .inr ⟨g,cap,cur,rfl,hb,(hn g rfl (zl hg)).trans hg,rest⟩
theorem zy{w w':World}{T k:Nat}{v:Value}{n:Nat}{xs:List Value}{S:Nat→Prop}(h:w.ownsRow 0 T k v n xs)(hm:Mod S w w')(hn : ∀ g,v.ownBlock=some g → ¬ S g):w'.ownsRow 0 T k v n xs:=by
 refine⟨h.1,?_⟩;rcases h.2 with h2 | ⟨g,cap,cur,rfl,hb,hg,rest⟩
 ·exact .inl h2
 ·exact .inr ⟨g,cap,cur,rfl,hb,hm.heap (hn g rfl) hg,rest⟩
theorem yg{w:World}{T k:Nat}{v:Value}{n:Nat}{xs:List Value}(h:w.ownsRow 0 T k v n xs){g:Nat}(hg:v.ownBlock=some g) : ∃ cur,w.heap[g]? = some (.cells cur T (0,0)):=by
 rcases h.2 with⟨rfl,_⟩ | ⟨g',cap,cur,rfl,_,hb,_⟩
 ·cases hg
 ·cases hg;exact⟨cur,hb⟩
theorem vh{w:World}{T k:Nat}{v:Value}{n:Nat}{xs:List Value}(h:w.ownsRow 0 T k v n xs){g:Nat}(hg:v.ownBlock=some g):g<w.heap.size:=(h.lt g hg).2
theorem ziC{w:World}{T T' k k':Nat}{v v':Value}{n n':Nat}{xs xs':List Value}(h:w.ownsRow 0 T k v n xs)(h':w.ownsRow 0 T' k' v' n' xs')(hT:T≠T'){g:Nat}(hg:v.ownBlock=some g):v'.ownBlock≠some g:=by
 intro hg';obtain⟨c,e⟩:=yg h hg;obtain⟨c',e'⟩:=yg h' hg';rw[e]at e'
 cases e'
 exact hT rfl
theorem zdK{w:World}{T k:Nat}{v:Value}{n m:Nat}{xs:List Value}(h:w.ownsRow 0 T k v n xs)(hk:0<k)(hm:xs.length=m*k):n=m:=Nat.eq_of_mul_eq_mul_right hk (h.1.symm.trans hm)
theorem zn.of_block{w:World}{B:Nat}{cs:Array Value}{T:TypeId}{fr:Nat × Nat}(n c k:Nat)(hb:w.heap[B]? = some (.cells cs T fr))(hl:cs.toList.length=n*k)(h1 : ∀ u∈cs.toList,u.oneCell'=true) :
  zn w (.slice (some ⟨B,0,none⟩) n c) k cs.toList :=
 ⟨some ⟨B,0,none⟩,n,c,rfl,hl,h1,(fun h=>by cases h),fun ad ha j u hu=>by cases ha;exact World.news_of_block hb j u hu⟩
theorem uT{w:World}{T k g n c:Nat}{xs:List Value}(h:w.ownsRow 0 T k (.slice (some ⟨g,0,none⟩) n c) n xs)(j:Nat)(u:Value)(hj:j<n*k) :
  (w.setCell ⟨g,j,none⟩ u).ownsRow 0 T k (.slice (some ⟨g,0,none⟩) n c) n (xs.set j u):=by
 obtain⟨hl,hv⟩:=h;refine⟨by rw[xH];exact hl,.inr ?_⟩;rcases hv with⟨hv,_⟩ | ⟨g',cap,cur,hv,hb,hg,hnc,hm,hcs,ht⟩
 ·cases hv
 ·cases hv
  refine⟨g,c,cur.setIfInBounds j u,rfl,hb,zP w g j cur T u hg,hnc,hm,by rw[Array.size_setIfInBounds];exact hcs,?_⟩;rw[Array.toList_setIfInBounds,List.take_set,ht]
theorem Yk(k j:Nat)(hj:j<k)(u:Value) : ∀(R:List (List Value)) (_ : ∀ r∈R,r.length=k) (i:Nat),R.flatten.set (i*k+j) u=(R.modify i (fun r=>r.set j u)).flatten
 | [],_,i=>by simp
 | r::R,hR,0=>by
  simp only[Nat.zero_mul,Nat.zero_add,List.flatten_cons,List.modify_zero_cons];rw[List.set_append_left _ _ (by rw[hR r (by simp)];exact hj)]
 | r::R,hR,i+1=>by
  have hr:r.length=k:=hR r (by simp);simp only[List.flatten_cons,List.modify_succ_cons];rw[XC _ _ (by rw[hr,Nat.add_mul];omega)];have e:(i+1)*k+j-r.length=i*k+j:=by rw[hr,Nat.add_mul];omega
  rw[e,Yk k j hj u R (fun r h=>hR r (by simp[h])) i]
theorem Zx{R:List (List Value)}{k:Nat}(hR : ∀ r∈R,r.length=k)(i j:Nat)(u:Value) : ∀ r∈R.modify i (fun r=>r.set j u),r.length=k:=by
 intro r hr;obtain⟨n,hn⟩:=List.mem_iff_getElem?.1 hr;rw[Ju]at hn
 cases h:R[n]? with
 | none=>simp[h]at hn
 | some r0 =>
  have h0:=hR r0 (yd h);simp only[h,Option.map_some]at hn;split at hn<;>(cases hn;simp[h0])
theorem zcA{α:Type}(f:α→List Value)(h:List Value→List Value)(m':α) : ∀(M:List α) (i:Nat) (m:α),M[i]? = some m→h (f m)=f m'→(M.map f).modify i h=(M.set i m').map f
 | [],i,m,hi,_=>by simp at hi
 | a::M,0,m,hi,hm=>by simp at hi;subst hi;simp[hm]
 | a::M,i+1,m,hi,hm=>by
  have:=zcA f h m' M i m (by simpa using hi) hm;simp only[List.map_cons,List.modify_succ_cons,List.set_cons_succ,this]
section
variable{P:Program}(w:World)
theorem za1(t ty e:TypeId)(i:TypeInfo)(z:Value)(k bytes:Nat)(ht:P.underlying t=some (.slice e))(hi:P.info? e=some i)(hz:i.zero=some z)
  (hsize:i.size=k) (hby:i.bytes=bytes) (hzs:z.cells.size=k) (hsz:0<k)
  (v:Value) (n:Nat) (xs:List Value) (hown:w.ownsRow 0 e k v n xs) (x:Value) (ys:List Value) (m:Nat) (hx:zn w x k ys) (hm:ys.length=m*k)
  (h63:n+m≤maxLen) (hbytes:(n+m)*bytes≤140737488355328) :
  ∃ a' c' w',(Builtin.append_ #[t,t] ty #[v,x]).run P w=.ok (.slice a' (n+m) c') w'∧w'.ownsRow 0 e k (.slice a' (n+m) c') (n+m) (xs++ys)∧w.grownBy w' v.ownBlock∧((Value.slice a' (n+m) c').ownBlock=v.ownBlock∨(Value.slice a' (n+m) c').ownBlock=some w.heap.size):=by
 suffices hs : ∃ v' w',(Builtin.append_ #[t,t] ty #[v,x]).run P w=.ok v' w'∧w'.ownsRow 0 e k v' (n+m) (xs++ys)∧w.grownBy w' v.ownBlock∧(v'.ownBlock=v.ownBlock∨v'.ownBlock=some w.heap.size) by
  obtain⟨v',w',r1,r2,r3,r4⟩:=hs;obtain⟨a',c',rfl,_⟩:=uN r2;exact⟨a',c',w',r1,r2,r3,r4⟩
 obtain⟨a,m',c,rfl,hl,h1,h0,hc⟩:=hx;have em:m'=m:=Nat.eq_of_mul_eq_mul_right hsz (hl.symm.trans hm);subst em
 cases a with
 | some ad =>
  obtain⟨v',w',r1,r2,r3,_,r5⟩:=run_append_own_at (P:=P) w 0 t ty e i z k bytes ht hi hz hsize hby hzs hsz v n xs hown ad m' c ys hl (fun j u hu=>hc ad rfl j u hu) h1 h63 hbytes (yh _);exact⟨v',w',r1,r2,r3,r5⟩
 | none =>
  have hm0:=h0 rfl;subst hm0;have hy:ys=[]:=qx (by simpa using hl);subst hy;refine⟨v,w,?_,by simpa using hown,⟨rfl,rfl,rfl,zG _,fun _ _ _=>rfl⟩,.inl rfl⟩;rcases hown.2 with⟨rfl,rfl⟩ | ⟨g,cap,cur,rfl,_,hg,hnc,_⟩
  ·simp[Builtin.append_,run_underlying ht,sizeOf,typeInfo,hi,Builtin.lenOf,Builtin.firstCells,loadCells,loadCellsFrom]
  ·simp[Builtin.append_,run_underlying ht,sizeOf,typeInfo,hi,Builtin.lenOf,Builtin.firstCells,hnc,storeCells]
theorem zcx{o:Oper}{a:Act}{K:Act→World→Prop}{Q:Exit→Act→World→Prop}(s x:Operand)(t:TypeId)
  (ho:o.op=.call {callee := .builtin .append,args:=#[s,x],argTypes:=#[t,t]})
  (e:TypeId) (i:TypeInfo) (z:Value) (k bytes:Nat) (ht:P.underlying t=some (.slice e)) (hi:P.info? e=some i) (hz:i.zero=some z)
  (hsize:i.size=k) (hby:i.bytes=bytes) (hzs:z.cells.size=k) (hsz:0<k)
  (v:Value) (n:Nat) (xs:List Value) (hs:a.eval s=v) (hown:w.ownsRow 0 e k v n xs) (xv:Value) (ys:List Value) (m:Nat) (hxv:a.eval x=xv) (hx:zn w xv k ys) (hm:ys.length=m*k)
  (h63:n+m≤maxLen) (hbytes:(n+m)*bytes≤140737488355328)
  (h : ∀ a' c' w',w'.ownsRow 0 e k (.slice a' (n+m) c') (n+m) (xs++ys)→w.grownBy w' v.ownBlock→((Value.slice a' (n+m) c').ownBlock=v.ownBlock∨(Value.slice a' (n+m) c').ownBlock=some w.heap.size)→K (a.put o.dst (.slice a' (n+m) c')) w'):o.wp P a w K Q:=by
 obtain⟨a',c',w',hr,h2,h3,h4⟩:=za1 (P:=P) w t o.type e i z k bytes ht hi hz hsize hby hzs hsz v n xs hown xv ys m hx hm h63 hbytes;unfold Oper.wp execOp;simp only[ho,resolve,invoke,builtin,Sem.run_bind,Sem.run_pure,Result.andThen_ok,List.map_toArray,List.map_cons,List.map_nil,hs,hxv,hr];exact h a' c' w' h2 h3 h4
theorem ul{ops:Array Oper}{rest:List Oper}{o:Oper}{a:Act}{Q:Exit→Act→World→Prop}(hgd:o.guard=none)(s x:Operand)(t:TypeId)
  (ho:o.op=.call {callee := .builtin .append,args:=#[s,x],argTypes:=#[t,t]})
  (e:TypeId) (i:TypeInfo) (z:Value) (k bytes:Nat) (ht:P.underlying t=some (.slice e)) (hi:P.info? e=some i) (hz:i.zero=some z)
  (hsize:i.size=k) (hby:i.bytes=bytes) (hzs:z.cells.size=k) (hsz:0<k)
  (v:Value) (n:Nat) (xs:List Value) (hs:a.eval s=v) (hown:w.ownsRow 0 e k v n xs) (xv:Value) (ys:List Value) (m:Nat) (hxv:a.eval x=xv) (hx:zn w xv k ys) (hm:ys.length=m*k)
  (h63:n+m≤maxLen) (hbytes:(n+m)*bytes≤140737488355328)
  (h : ∀ a' c' w',w'.ownsRow 0 e k (.slice a' (n+m) c') (n+m) (xs++ys)→w.grownBy w' v.ownBlock→((Value.slice a' (n+m) c').ownBlock=v.ownBlock∨(Value.slice a' (n+m) c').ownBlock=some w.heap.size)→wpList P ops Q rest (a.put o.dst (.slice a' (n+m) c')) w'):wpList P ops Q (o::rest) a w :=
 wpList_plain hgd fun _ hK=>zcx w s x t ho e i z k bytes ht hi hz hsize hby hzs hsz v n xs hs hown xv ys m hxv hx hm h63 hbytes fun a' c' w' h2 h3 h4=>hK _ _ (h a' c' w' h2 h3 h4)
theorem XQ{ops:Array Oper}{o:Oper}{a:Act}{K:Act→World→Prop}{Q:Exit→Act→World→Prop}{E:Prop}(hgd:o.guard=none)(s x:Operand)(t:TypeId)
  (ho:o.op=.call {callee := .builtin .append,args:=#[s,x],argTypes:=#[t,t]})
  (e:TypeId) (i:TypeInfo) (z:Value) (k bytes:Nat) (ht:P.underlying t=some (.slice e)) (hi:P.info? e=some i) (hz:i.zero=some z)
  (hsize:i.size=k) (hby:i.bytes=bytes) (hzs:z.cells.size=k) (hsz:0<k)
  (v:Value) (n:Nat) (xs:List Value) (hs:a.eval s=v) (hown:w.ownsRow 0 e k v n xs) (xv:Value) (ys:List Value) (m:Nat) (hxv:a.eval x=xv) (hx:zn w xv k ys) (hm:ys.length=m*k)
  (h63:n+m≤maxLen) (hbytes:(n+m)*bytes≤140737488355328)
  (h : ∀ a' c' w',w'.ownsRow 0 e k (.slice a' (n+m) c') (n+m) (xs++ys)→w.grownBy w' v.ownBlock→((Value.slice a' (n+m) c').ownBlock=v.ownBlock∨(Value.slice a' (n+m) c').ownBlock=some w.heap.size)→K (a.put o.dst (.slice a' (n+m) c')) w') :
  if Region.wanted o (yielded ops a.tmps)=true then Oper.wp P o a w K Q else E:=by
 have hw:Region.wanted o (yielded ops a.tmps)=true:=by simp[Region.wanted,hgd]
 rw[zk hw];exact zcx w s x t ho e i z k bytes ht hi hz hsize hby hzs hsz v n xs hs hown xv ys m hxv hx hm h63 hbytes h
end
def zC:List Nat→Nat
 | []=>0
 | b::l=>256*zC l+b
def zM:List Bool→Nat
 | []=>0
 | b::l=>2*zM l+b.toNat
def vp(l:List Nat):Prop:=l.length=8 ∧ ∀ c∈l,c<256
theorem zhH(f:Nat→Nat→Nat)(g:Bool→Bool→Bool)(hf : ∀ a b i,(f a b).testBit i=g (a.testBit i) (b.testBit i))(hlt : ∀ a b,a<2 ^ 8→b<2 ^ 8→f a b<2 ^ 8)(a b x y:Nat)(ha:a<256)(hb:b<256) :
  f (256*x+a) (256*y+b)=256*f x y+f a b:=by
 apply Zm;intro i;have e:(256:Nat)=2 ^ 8:=rfl;rw[hf,e,Yc x ha i,Yc y hb i,Yc (f x y) (hlt a b ha hb) i];split<;>rw[hf]
theorem V7(f:Nat→Nat→Nat)(g:Bool→Bool→Bool)(h00:f 0 0=0)(hf : ∀ a b i,(f a b).testBit i=g (a.testBit i) (b.testBit i))(hlt : ∀ a b,a<2 ^ 8→b<2 ^ 8→f a b<2 ^ 8)(s t:Nat→Nat) :
  ∀ l:List Nat,(∀ c∈l,s c<256)→(∀ c∈l,t c<256)→f (zC (l.map s)) (zC (l.map t))=zC (l.map (fun c=>f (s c) (t c)))
 | [],_,_=>h00
 | c::l,hs,ht=>by
  simp only[List.map_cons,zC];rw[zhH f g hf hlt _ _ _ _ (hs c (by simp)) (ht c (by simp)),V7 f g h00 hf hlt s t l (fun c h=>hs c (by simp[h])) (fun c h=>ht c (by simp[h]))]
theorem zcL(s t:Nat→Nat)(l:List Nat)(hs : ∀ c∈l,s c<256)(ht : ∀ c∈l,t c<256):zC (l.map s) ^^^ zC (l.map t)=zC (l.map (fun c=>s c ^^^ t c)) :=
 V7 (· ^^^ ·) Bool.xor rfl Nat.testBit_xor (fun _ _=>Za) s t l hs ht
theorem Jw(s t:Nat→Nat)(l:List Nat)(hs : ∀ c∈l,s c<256)(ht : ∀ c∈l,t c<256):zC (l.map s) &&& zC (l.map t)=zC (l.map (fun c=>s c &&& t c)) :=
 V7 (· &&& ·) and rfl Nat.testBit_and (fun a b ha _=>jO Nat.and_le_left ha) s t l hs ht
theorem Kq(s t:Nat→Nat)(l:List Nat)(hs : ∀ c∈l,s c<256)(ht : ∀ c∈l,t c<256):zC (l.map s) ||| zC (l.map t)=zC (l.map (fun c=>s c ||| t c)) :=
 V7 (· ||| ·) or rfl Nat.testBit_or (fun _ _=>Zj) s t l hs ht
theorem zb0(s t:Nat→Nat) : ∀ l:List Nat,zC (l.map s)+zC (l.map t)=zC (l.map (fun c=>s c+t c))
 | []=>rfl
 | c::l=>by simp only[List.map_cons,zC];rw[← zb0 s t l];omega
theorem zb9 : ∀ l:List Nat,(∀ c∈l,c<256)→zC l<256 ^ l.length
 | [],_=>by simp[zC]
 | c::l,h=>by
  have h1:=zb9 l (fun c hc=>h c (by simp[hc]));have h2:=h c (by simp);simp only[zC,List.length_cons,Nat.pow_succ];omega
theorem vp.lt{l:List Nat}(h:vp l):zC l<18446744073709551616:=by have:=zb9 l h.2;rw[h.1]at this;simpa using this
theorem vp.map{l:List Nat}(h:vp l){s:Nat→Nat}(hs : ∀ c,c<256→s c<256):vp (l.map s):=⟨by simp[h.1],fun c hc=>by obtain⟨a,ha,rfl⟩:=zI.1 hc;exact hs a (h.2 a ha)⟩
theorem VP(k:Nat){l:List Nat}(h:l.length=8):zC (l.map (fun _=>k))=72340172838076673*k:=by
 have:l.map (fun _=>k)=[k,k,k,k,k,k,k,k]:=by
  rw[show(fun _:Nat=>k)=Function.const Nat k from rfl,List.map_const,h];rfl
 rw[this];simp only[zC];omega
theorem vp.eight{l:List Nat}(h:vp l) : ∃ a b c d e f g i,l=[a,b,c,d,e,f,g,i]:=by
 obtain⟨hl,_⟩:=h
 match l,hl with
 | [a,b,c,d,e,f,g,i],_=>exact⟨a,b,c,d,e,f,g,i,rfl⟩
theorem jD{α:Type}{l:List α}(hl:l.length=8) : ∃ a b c d e f g i,l=[a,b,c,d,e,f,g,i]:=by
 match l,hl with
 | [a,b,c,d,e,f,g,i],_=>exact⟨a,b,c,d,e,f,g,i,rfl⟩
theorem zhS : ∀ x<256,255 ^^^ ((((x &&& 127)+127) ||| x) ||| 127)=if x=0 then 128 else 0:=by decide +kernel
theorem zd2{a b:Nat}(h:a ^^^ b=0):a=b:=by
 apply Zm;intro i;have:(a ^^^ b).testBit i=false:=by rw[h];simp
 rw[Nat.testBit_xor]at this
 cases ha:a.testBit i<;>cases hb:b.testBit i<;>simp[ha,hb]at this<;>rfl
theorem zeB{l:List Nat}(h:vp l)(b:Nat)(hb:b<256) :
  18446744073709551615 ^^^ (((((zC l ^^^ (72340172838076673*b)) &&& 9187201950435737471)+9187201950435737471) ||| (zC l ^^^ (72340172838076673*b))) ||| 9187201950435737471) =
   zC (l.map (fun c=>if c=b then 128 else 0)):=by
 have hx : ∀ c∈l,c ^^^ b<256:=fun c hc=>Za (n:=8) (h.2 c hc) hb
 have ha : ∀ c∈l,(c ^^^ b) &&& 127<128:=fun c hc=>by have:(c ^^^ b) &&& 127≤127:=Nat.and_le_right;omega
 have h1:zC l ^^^ (72340172838076673*b)=zC (l.map (fun c=>c ^^^ b)):=by
  have:=zcL id (fun _=>b) l (by simpa using h.2) (fun _ _=>hb)
  rwa [VP b h.1,List.map_id]at this
 have k127:(9187201950435737471:Nat)=zC (l.map (fun _=>127)):=by rw[VP 127 h.1]
 have k255:(18446744073709551615:Nat)=zC (l.map (fun _=>255)):=by rw[VP 255 h.1]
 rw[h1,k127,k255,Jw _ _ _ hx (fun _ _=>by omega),zb0,Kq _ _ _ (fun c hc=>by have:=ha c hc;omega) hx,
  Kq _ _ _ (fun c hc=>Zj (n:=8) (by have:=ha c hc;omega) (hx c hc)) (fun _ _=>by omega),
  zcL _ _ _ (fun _ _=>by omega) (fun c hc=>Zj (n:=8) (Zj (n:=8) (by have:=ha c hc;omega) (hx c hc)) (by omega))]
 congr 1
 apply uc;intro c hc;rw[zhS _ (hx c hc)];by_cases e:c=b
 ·subst e;simp
 ·rw[zh e,zh (fun h=>e (zd2 h))]
theorem ziz{l:List Nat}(h:vp l)(b:Nat)(hb:b<256) :
  (((zC l ^^^ (72340172838076673*b)) &&& 9187201950435737471)+9187201950435737471)<18446744073709551616:=by
 have:(zC l ^^^ (72340172838076673*b)) &&& 9187201950435737471≤9187201950435737471:=Nat.and_le_right;omega
theorem zfv{l:List Nat}(p:Nat→Bool):l.map (fun c=>if p c then 128 else 0)=(l.map p).map (fun b=>if b then 128 else 0):=by
 rw[jh];rfl
theorem zgh : ∀ a b c d e f g i:Bool,(zC ([a,b,c,d,e,f,g,i].map (fun b=>if b then 128 else 0))/128*72624976668147840%18446744073709551616)/72057594037927936%256=zM [a,b,c,d,e,f,g,i]:=by decide +kernel
theorem Qt{p:List Bool}(h:p.length=8):(zC (p.map (fun b=>if b then 128 else 0))/128*72624976668147840%18446744073709551616)/72057594037927936%256=zM p:=by
 obtain⟨a,b,c,d,e,f,g,i,rfl⟩:=jD h;exact zgh a b c d e f g i
theorem zlY{l:List Nat}(h:vp l):zC l &&& 9259542123273814144=zC (l.map (fun c=>if decide (128≤c)then 128 else 0)):=by
 have k:(9259542123273814144:Nat)=zC (l.map (fun _=>128)):=by rw[VP 128 h.1]
 have:=Jw id (fun _=>128) l (by simpa using h.2) (fun _ _=>by omega);rw[List.map_id]at this;rw[k,this]
 congr 1
 apply uc;intro c hc;have : ∀ c<256,c &&& 128=if decide (128≤c)then 128 else 0:=by decide +kernel
 exact this c (h.2 c hc)
theorem uJ(n:Nat)(h:n<18446744073709551616):IntKind.u64.wrap (n:Int)=n:=by
 simp[IntKind.wrap,IntKind.signed,IntKind.bits];omega
theorem Jh(n:Nat)(h:n<256):IntKind.u8.wrap (n:Int)=n:=by
 simp[IntKind.wrap,IntKind.signed,IntKind.bits];omega
theorem uC(k:Nat)(n:Nat):BitVec.ofInt k (n:Int)=BitVec.ofNat k n:=by
 apply BitVec.eq_of_toNat_eq;simp[BitVec.toNat_ofInt]
theorem Yo(a b:Nat)(ha:a<18446744073709551616)(hb:b<18446744073709551616):bits .xor .u64 (a:Int) (b:Int)=((a ^^^ b:Nat):Int):=by
 have h:a ^^^ b<2 ^ 64:=Za ha hb
 show IntKind.u64.wrap (((BitVec.ofInt 64 (a:Int) ^^^ BitVec.ofInt 64 (b:Int)).toNat:Nat):Int)=_
 rw[uC,uC];rw[BitVec.toNat_xor,ux,ux,xZ (by omega),xZ (by omega)];exact uJ _ (by omega)
theorem XA(a b:Nat)(ha:a<18446744073709551616)(hb:b<18446744073709551616):bits .and .u64 (a:Int) (b:Int)=((a &&& b:Nat):Int):=by
 have h:a &&& b<2 ^ 64:=Nat.and_lt_two_pow _ hb
 show IntKind.u64.wrap (((BitVec.ofInt 64 (a:Int) &&& BitVec.ofInt 64 (b:Int)).toNat:Nat):Int)=_
 rw[uC,uC];rw[BitVec.toNat_and,ux,ux,xZ (by omega),xZ (by omega)];exact uJ _ (by omega)
theorem VJ(a b:Nat)(ha:a<18446744073709551616)(hb:b<18446744073709551616):bits .or .u64 (a:Int) (b:Int)=((a ||| b:Nat):Int):=by
 have h:a ||| b<2 ^ 64:=Zj ha hb
 show IntKind.u64.wrap (((BitVec.ofInt 64 (a:Int) ||| BitVec.ofInt 64 (b:Int)).toNat:Nat):Int)=_
 rw[uC,uC];rw[BitVec.toNat_or,ux,ux,xZ (by omega),xZ (by omega)];exact uJ _ (by omega)
theorem QV(a b:Nat)(ha:a<256)(hb:b<256):bits .or .u8 (a:Int) (b:Int)=((a ||| b:Nat):Int):=by
 have h:a ||| b<2 ^ 8:=Zj ha hb
 show IntKind.u8.wrap (((BitVec.ofInt 8 (a:Int) ||| BitVec.ofInt 8 (b:Int)).toNat:Nat):Int)=_
 rw[uC,uC];rw[BitVec.toNat_or,ux,ux,xZ (by omega),xZ (by omega)];exact Jh _ (by omega)
theorem UL(a b:Nat)(ha:a<256)(hb:b<256):bits .and .u8 (a:Int) (b:Int)=((a &&& b:Nat):Int):=by
 have h:a &&& b<2 ^ 8:=Nat.and_lt_two_pow _ hb
 show IntKind.u8.wrap (((BitVec.ofInt 8 (a:Int) &&& BitVec.ofInt 8 (b:Int)).toNat:Nat):Int)=_
 rw[uC,uC];rw[BitVec.toNat_and,ux,ux,xZ (by omega),xZ (by omega)];exact Jh _ (by omega)
theorem zfs(a b:Nat)(ha:a<256)(hb:b<256):bits .xor .u8 (a:Int) (b:Int)=((a ^^^ b:Nat):Int):=by
 have h:a ^^^ b<2 ^ 8:=Za ha hb
 show IntKind.u8.wrap (((BitVec.ofInt 8 (a:Int) ^^^ BitVec.ofInt 8 (b:Int)).toNat:Nat):Int)=_
 rw[uC,uC];rw[BitVec.toNat_xor,ux,ux,xZ (by omega),xZ (by omega)];exact Jh _ (by omega)
theorem Qn(a b c:Nat)(ha:a<18446744073709551616)(hb:b<18446744073709551616)(hc:c=18446744073709551615-b):bits .andNot .u64 (a:Int) (b:Int)=((a &&& c:Nat):Int):=by
 subst hc;have h:a &&& (18446744073709551615-b)<2 ^ 64:=jO Nat.and_le_left ha
 show IntKind.u64.wrap (((BitVec.ofInt 64 (a:Int) &&& ~~~ BitVec.ofInt 64 (b:Int)).toNat:Nat):Int)=_
 rw[uC,uC];rw[BitVec.toNat_and,BitVec.toNat_not,ux,ux,xZ (a:=a) (by omega),xZ (a:=b) (by omega)];exact uJ _ (by simpa using h)
theorem zio:(if IntKind.u64.signed=true then(-1:Int)else IntKind.u64.max)=((18446744073709551615:Nat):Int):=by decide
theorem zhm:(if IntKind.u8.signed=true then(-1:Int)else IntKind.u8.max)=((255:Nat):Int):=by decide
theorem jn{p:List Bool}(h:p.length=8):zM p<256:=by
 obtain⟨a,b,c,d,e,f,g,i,rfl⟩:=jD h;have : ∀ a b c d e f g i:Bool,zM [a,b,c,d,e,f,g,i]<256:=by decide +kernel
 exact this ..
theorem zj6{p:List Bool}(h:p.length=8):255 ^^^ zM p=zM (p.map not):=by
 obtain⟨a,b,c,d,e,f,g,i,rfl⟩:=jD h;have : ∀ a b c d e f g i:Bool,255 ^^^ zM [a,b,c,d,e,f,g,i]=zM ([a,b,c,d,e,f,g,i].map not):=by decide +kernel
 exact this ..
theorem JC{p:List Bool}(h:p.length=8):decide (zM p=0) = !p.any id:=by
 obtain⟨a,b,c,d,e,f,g,i,rfl⟩:=jD h;have : ∀ a b c d e f g i:Bool,decide (zM [a,b,c,d,e,f,g,i]=0) = !([a,b,c,d,e,f,g,i].any id):=by decide +kernel
 exact this ..
theorem zlQ{p:List Bool}(h:p.length=8):decide (zM p=255)=p.all id:=by
 obtain⟨a,b,c,d,e,f,g,i,rfl⟩:=jD h;have : ∀ a b c d e f g i:Bool,decide (zM [a,b,c,d,e,f,g,i]=255)=([a,b,c,d,e,f,g,i].all id):=by decide +kernel
 exact this ..
theorem Qs{p:List Bool}(h:p.length=8)(j:Nat)(hj:j<8):zM p/2 ^ j &&& 1=(p.getD j false).toNat:=by
 obtain⟨a,b,c,d,e,f,g,i,rfl⟩:=jD h;have : ∀ a b c d e f g i:Bool,∀ j<8,zM [a,b,c,d,e,f,g,i]/2 ^ j &&& 1=([a,b,c,d,e,f,g,i].getD j false).toNat:=by decide +kernel
 exact this _ _ _ _ _ _ _ _ j hj
theorem KW : ∀(l:List Nat) (s t:Nat→Bool),zM (l.map s) ||| zM (l.map t)=zM (l.map (fun c=>s c||t c))
 | [],_,_=>by simp[zM]
 | c::l,s,t=>by
  simp only[List.map_cons,zM];rw[← KW l s t];apply Zm;intro i;have hb : ∀ b:Bool,b.toNat<2 ^ 1:=fun b=>by cases b<;>decide
  have e : ∀(x:Nat) (b:Bool),2*x+b.toNat=2 ^ 1*x+b.toNat:=fun _ _=>rfl
  rw[Nat.testBit_or,e,e,e,Yc _ (hb _),Yc _ (hb _),Yc _ (hb _)];split
  ·have:i=0:=by omega
   subst this
   cases s c<;>cases t c<;>rfl
  ·rw[Nat.testBit_or]
def vJ(m:Nat):List Nat:=(List.range 8).filter m.testBit
def jk(m:Nat):Nat:=(vJ m).headD 8
theorem Jz{p:List Bool}(h:p.length=8):vJ (zM p)=(List.range 8).filter (fun i=>p.getD i false):=by
 obtain⟨a,b,c,d,e,f,g,i,rfl⟩:=jD h;have : ∀ a b c d e f g i:Bool,vJ (zM [a,b,c,d,e,f,g,i])=(List.range 8).filter (fun j=>[a,b,c,d,e,f,g,i].getD j false):=by decide +kernel
 exact this ..
theorem zhd : ∀ m<256,m≠0→vJ m=jk m::vJ (m &&& (m-1))∧jk m<8∧m &&& (m-1)<m:=by decide +kernel
theorem zgK : ∀ m<256,jk m≤8:=by decide +kernel
theorem zg7:vJ 0=[]:=by decide
theorem zgm{p:List Bool}(h:p.length=8):jk (zM p)=p.findIdx id:=by
 obtain⟨a,b,c,d,e,f,g,i,rfl⟩:=jD h;have : ∀ a b c d e f g i:Bool,jk (zM [a,b,c,d,e,f,g,i])=[a,b,c,d,e,f,g,i].findIdx id:=by decide +kernel
 exact this ..
theorem zc6{l:List Nat}(h:l.length=8):zC l=zC ((List.range 8).map (fun i=>l.getD i 0)):=by
 obtain⟨a,b,c,d,e,f,g,i,rfl⟩:=jD h
 rfl
theorem zd5 : ∀ j<8,18446744073709551615-255*2 ^ (8*j)=zC ((List.range 8).map (fun i=>if i=j then 0 else 255)):=by decide +kernel
theorem zjS(b:Nat) : ∀ j<8,b*2 ^ (8*j)=zC ((List.range 8).map (fun i=>if i=j then b else 0)):=by
 intro j hj;have:j=0∨j=1∨j=2∨j=3∨j=4∨j=5∨j=6∨j=7:=by omega
 rcases this with rfl | rfl | rfl | rfl | rfl | rfl | rfl | rfl<;>simp[List.range_succ,zC]<;>omega
theorem zkq{l:List Nat}(h:vp l)(j b:Nat)(hj:j<8)(hb:b<256):(zC l &&& (18446744073709551615-255*2 ^ (8*j))) ||| b*2 ^ (8*j)=zC (l.set j b):=by
 have hg : ∀ i,l.getD i 0<256:=fun i=>by
  rw[vS]
  cases hi:l[i]? with
  | none=>simp
  | some c=>exact h.2 c (yd hi)
 rw[zd5 j hj,zjS b j hj,zc6 h.1,Jw _ _ _ (fun i _=>hg i) (fun i _=>by split<;>omega),
  Kq _ _ _ (fun i _=>jO Nat.and_le_left (hg i)) (fun i _=>by split<;>omega),zc6 (l:=l.set j b) (by simp[h.1])]
 congr 1
 apply uc;intro i hi;have hi:i<8:=by simpa using hi
 have h255 : ∀ c<256,c &&& 255=c:=by decide +kernel
 simp only[List.getD_eq_getElem?_getD,List.getElem?_set];by_cases e:i=j
 ·subst e;simp[h.1,hj]
 ·rw[zh e,zh e,zh (fun x=>e x.symm),Nat.or_zero,h255 _ (by have:=hg i;rwa [vS]at this)]
theorem Ka(n:Nat):IntKind.u64.wrap (n:Int)=((n%18446744073709551616:Nat):Int):=by
 simp[IntKind.wrap,IntKind.signed,IntKind.bits]
theorem QR(b r:Nat)(W:World)(hb:b<256)(hr:72340172838076673*b=r):Calls prog 326 #[.int .u8 b] W fun e w'=>e=.returned (.int .u64 r)∧W=w':=by
 subst hr;have h0:(0:Int)≤b:=by omega
 have h1:(b:Int)≤255:=by omega
 go_enter func326,ntmps326;go_wp2;go_ret;exact⟨by simp,rfl⟩
theorem zcp(z m:Nat)(W:World)(hz:z<18446744073709551616)(hm:z/128*72624976668147840%18446744073709551616/72057594037927936%256=m) :
  Calls prog 369 #[.int .u64 z] W fun e w'=>e=.returned (.int .u8 m)∧W=w':=by
 have h0:(0:Int)≤z:=by omega
 have h1:(z:Int)≤18446744073709551615:=by omega
 go_enter func369,ntmps369;go_wp2;go_ret;refine⟨?_,rfl⟩;have e:IntKind.u64.wrap ((z:Int)/128*72624976668147840)/72057594037927936%256=(m:Int):=by
  rw[show(z:Int)/128*72624976668147840=((z/128*72624976668147840:Nat):Int) by simp,Ka,← hm];simp
 simp only[e]
 rfl
theorem KE{l:List Nat}(h:vp l)(b:Nat)(W:World)(hb:b<256):Calls prog 338 #[.int .u64 (zC l),.int .u8 b] W fun e w'=>e=.returned (.int .u8 (zM (l.map (· == b))))∧W=w':=by
 have hl:=h.lt;have hs:=ziz h b hb;have em:=zeB h b hb;have hr:72340172838076673*b<18446744073709551616:=by omega
 have hb0:vp (l.map (fun c=>if c=b then 128 else 0)):=h.map (fun c _=>by split<;>omega);have hg:=Qt (p:=l.map (· == b)) (by simp[h.1]);have hc:l.map (fun c=>if c=b then 128 else 0)=(l.map (· == b)).map (fun b=>if b then 128 else 0):=by rw[jh];apply uc;intro c _;simp
 rw[← hc]at hg;have hz:=hb0.lt;generalize zC l=w at *;generalize zM (l.map (· == b))=m at *;generalize zC (l.map (fun c=>if c=b then 128 else 0))=z at *;generalize hrb:72340172838076673*b=r at *;have hx:w ^^^ r<18446744073709551616:=Za (n:=64) hl hr;have e1:=Yo w r hl hr;generalize w ^^^ r=x at *;have e2:bits .and .u64 (x:Int) 9187201950435737471=((x &&& 9187201950435737471:Nat):Int):=XA x 9187201950435737471 hx (by omega);generalize x &&& 9187201950435737471=y at *;have ew:IntKind.u64.wrap ((y:Int)+9187201950435737471)=((y+9187201950435737471:Nat):Int):=uJ _ hs;generalize y+9187201950435737471=u at *;have e3:=VJ u x hs hx;have ho:u ||| x<18446744073709551616:=Zj (n:=64) hs hx
 generalize u ||| x=v at *
 have e4:bits .or .u64 (v:Int) 9187201950435737471=((v ||| 9187201950435737471:Nat):Int):=VJ v 9187201950435737471 ho (by omega);have hv:v ||| 9187201950435737471<18446744073709551616:=Zj (n:=64) ho (by omega)
 generalize v ||| 9187201950435737471=t at *
 have e5:bits .xor .u64 (if IntKind.u64.signed=true then(-1:Int)else IntKind.u64.max) (t:Int)=(z:Int):=by
  rw[zio,Yo _ _ (by omega) hv,em]
 go_enter func338,ntmps338
 go_wp2_with (first | (go_at_call 326;refine zm (QR b r _ hb hrb) ?_;rintro e w' ⟨rfl,rfl⟩) | (go_at_call 369;go_must (refine zm (zcp z m _ hz hg) ?_);rintro e w' ⟨rfl,rfl⟩))
 go_ret;exact⟨rfl,rfl⟩
theorem zjh{l:List Nat}(h:vp l)(W:World):Calls prog 368 #[.int .u64 (zC l)] W fun e w'=>e=.returned (.int .u8 (zM (l.map (fun c=>decide (128≤c)))))∧W=w':=by
 have hl:=h.lt;have hw:=zlY h;have hz:vp (l.map (fun c=>if decide (128≤c)then 128 else 0)):=h.map (fun c _=>by split<;>omega);have hg:=Qt (p:=l.map (fun c=>decide (128≤c))) (by simp[h.1]);rw[← zfv (fun c=>decide (128≤c))]at hg;have hz:=hz.lt;have e1:bits .andNot .u64 (zC l:Int) 9187201950435737471=_:=Qn (zC l) 9187201950435737471 9259542123273814144 hl (by omega) rfl;rw[hw]at e1;generalize zC l=w at *;generalize zM (l.map (fun c=>decide (128≤c)))=m at *;generalize zC (l.map (fun c=>if decide (128≤c)then 128 else 0))=z at *;go_enter func368,ntmps368
 go_wp2_with (go_at_call 369;go_must (refine zm (zcp z m _ hz hg) ?_);rintro e w' ⟨rfl,rfl⟩)
 go_ret;exact⟨rfl,rfl⟩
theorem zeP(s:ByteArray)(hs:s.size=256)(h : ∀ k (hk:k<256),wrap64 ((s[k]'(by omega)).toNat:Int)=jk k)(m:Nat)(hm:m<256)(hms:m<s.size):wrap64 ((s[m]'hms).toNat:Int)=jk m:=h m hm
theorem zjr(m:Nat)(W:World)(hm:m<256):Calls prog 358 #[.int .u8 m] W fun e w'=>e=.returned (.int .i64 (jk m))∧W=w':=by
 have h0:(0:Int)≤m:=by omega
 have h1:(m:Int)≤255:=by omega
 have h2:(m:Int)<256:=by omega
 go_enter func358,ntmps358;go_wp2;go_ret;exact⟨congrArg (fun x=>Ending.returned (.int .i64 x)) (zeP _ (by decide) (by decide +kernel) m hm _),rfl⟩
theorem zag(m:Nat)(W:World)(hm:m<256):Calls prog 319 #[.int .u8 m] W fun e w'=>e=.returned (.int .i64 (jk m))∧W=w':=by
 go_enter func319,ntmps319
 go_wp2_with (go_at_call 358;go_must (refine zm (zjr m _ hm) ?_);rintro e w' ⟨rfl,rfl⟩)
 go_ret;exact⟨rfl,rfl⟩
theorem zbh(j:Nat)(hj:j<8)(b:Nat)(hb:b<256):b*2 ^ (8*j)<18446744073709551616:=by
 have:2 ^ (8*j)≤2 ^ 56:=Yd (by decide) (by omega);have:b*2 ^ (8*j)≤255*2 ^ 56:=Nat.mul_le_mul (by omega) this;omega
theorem zaZ{l:List Nat}(h:vp l)(j b:Nat)(W:World)(hj:j<8)(hb:b<256):Calls prog 337 #[.int .u64 (zC l),.int .i64 j,.int .u8 b] W fun e w'=>e=.returned (.tuple #[.int .u64 (zC (l.set j b)),.int .i64 0])∧w'=W.drew:=by
 have hl:=h.lt;have hw:=zkq h j b hj hb;have h0:(0:Int)≤j:=by omega
 have h1:(j:Int)<8:=by omega
 have h2 : ¬ ((8:Int)≤j):=by omega
 have hb0:(0:Int)≤b:=by omega
 have hb1:(b:Int)≤255:=by omega
 have k0:(0:Int)≤8*(j:Int):=by omega
 have k1:8*(j:Int)≤64:=by omega
 have k2:wrap64 (8*(j:Int))=8*(j:Int):=IntWalk.wrap64_in _ (by omega);have s0:=zbh j hj 255 (by omega);have s1:=zbh j hj b hb;have e1:IntKind.u64.wrap (255*2 ^ (8*j))=((255*2 ^ (8*j):Nat):Int):=by rw[← uJ _ s0];simp
 have e2:IntKind.u64.wrap ((b:Int)*2 ^ (8*j))=((b*2 ^ (8*j):Nat):Int):=by rw[← uJ _ s1];simp
 generalize b*2 ^ (8*j)=t at *;generalize 255*2 ^ (8*j)=s at *;generalize zC (l.set j b)=z at *;generalize zC l=w at *;have e3:=Qn w s _ hl s0 rfl;have hx:w &&& (18446744073709551615-s)<18446744073709551616:=jO Nat.and_le_left hl;generalize w &&& (18446744073709551615-s)=x at *;have e4:=VJ x t hx s1;rw[hw]at e4;go_enter func337,ntmps337;go_wp2
 go_region
 go_wp2;go_ret2;exact⟨rfl,rfl⟩
def j4(l:List Nat):Prop:=l.length=8 ∧ ∀ c∈l,c<128∨c=128∨c=254
theorem j4.bytes{l:List Nat}(h:j4 l):vp l:=⟨h.1,fun c hc=>by have:=h.2 c hc;omega⟩
theorem zkI(W:World):Calls prog 277 #[] W fun e w'=>e=.returned (.int .u64 (zC [128,128,128,128,128,128,128,128]:Nat))∧W=w':=by
 have hq:=QR 128 (zC [128,128,128,128,128,128,128,128]) W (by omega) (by rfl);generalize zC [128,128,128,128,128,128,128,128]=z at *;go_enter func277,ntmps277
 go_wp2_with (go_at_call 326;go_must (refine zm hq ?_);rintro e w' ⟨rfl,rfl⟩)
 go_ret;exact⟨rfl,rfl⟩
theorem zka{l:List Nat}(h:vp l)(b:Nat)(W:World)(hb:b<128):Calls prog 328 #[.int .u64 (zC l),.int .u8 b] W fun e w'=>e=.returned (.int .u8 (zM (l.map (· == b))))∧W=w':=by
 have h1 : ¬ ((127:Int)<b):=by omega
 go_enter func328,ntmps328
 go_wp2_with (go_at_call 338;go_must (refine zm (KE h b _ (by omega)) ?_);rintro e w' ⟨rfl,rfl⟩)
 go_ret;exact⟨rfl,rfl⟩
theorem Xm{l:List Nat}(h:vp l)(W:World):Calls prog 292 #[.int .u64 (zC l)] W fun e w'=>e=.returned (.int .u8 (zM (l.map (· == 128))))∧W=w':=by
 go_enter func292,ntmps292
 go_wp2_with (go_at_call 338;go_must (refine zm (KE h 128 _ (by omega)) ?_);rintro e w' ⟨rfl,rfl⟩)
 go_ret;exact⟨rfl,rfl⟩
theorem zcY{l:List Nat}(h:j4 l)(W:World):Calls prog 320 #[.int .u64 (zC l)] W fun e w'=>e=.returned (.int .u8 (zM (l.map (fun c=>decide (128≤c)))))∧W=w':=by
 have e1:=QV (zM (l.map (· == 128))) (zM (l.map (· == 254))) (jn (by simp[h.1])) (jn (by simp[h.1]));rw[KW]at e1;have e2:l.map (fun c=>c==128||c==254)=l.map (fun c=>decide (128≤c)):=uc (fun c hc=>by have:=h.2 c hc;rw[Bool.eq_iff_iff];simp;omega);rw[e2]at e1;go_enter func320,ntmps320
 go_wp2_with (first | (go_at_call 292;go_must (refine zm (Xm h.bytes _) ?_);rintro e w' ⟨rfl,rfl⟩) | (go_at_call 338;go_must (refine zm (KE h.bytes 254 _ (by omega)) ?_);rintro e w' ⟨rfl,rfl⟩))
 go_ret;exact⟨rfl,rfl⟩
theorem JR{l:List Nat}(h:vp l)(W:World):Calls prog 336 #[.int .u64 (zC l)] W fun e w'=>e=.returned (.int .u8 (zM (l.map (fun c=>decide (c<128)))))∧W=w':=by
 have hm:zM (l.map (fun c=>decide (128≤c)))<256:=jn (by simp[h.1]);have e0:=zj6 (p:=l.map (fun c=>decide (128≤c))) (by simp[h.1]);rw[jh,show(not ∘ fun c=>decide (128≤c))=(fun c:Nat=>decide (c<128)) by funext c;simp only[Function.comp];rw[Bool.eq_iff_iff];simp]at e0;have e1:bits .xor .u8 (if IntKind.u8.signed=true then(-1:Int)else IntKind.u8.max) (zM (l.map (fun c=>decide (128≤c))):Int)=(zM (l.map (fun c=>decide (c<128))):Int):=by rw[zhm,zfs _ _ (by omega) hm,e0]
 have hq:=zjh h W;generalize zM (l.map (fun c=>decide (128≤c)))=m at *;generalize zM (l.map (fun c=>decide (c<128)))=z at *;go_enter func336,ntmps336
 go_wp2_with (go_at_call 368;go_must (refine zm hq ?_);rintro e w' ⟨rfl,rfl⟩)
 go_ret;exact⟨rfl,rfl⟩
theorem zlr{l:List Nat}(h:j4 l)(W:World):Calls prog 367 #[.int .u64 (zC l)] W fun e w'=>e=.returned (.bool true)∧W=w':=by
 have h1:=zcY h W;have h2:=JR h.bytes W;have e1:=QV (zM (l.map (fun c=>decide (128≤c)))) (zM (l.map (fun c=>decide (c<128)))) (jn (by simp[h.1])) (jn (by simp[h.1]));rw[KW]at e1;have e2:zM (l.map (fun c=>decide (128≤c)||decide (c<128)))=255:=by
  have:=zlQ (p:=l.map (fun c=>decide (128≤c)||decide (c<128))) (by simp[h.1]);rw[show(l.map (fun c=>decide (128≤c)||decide (c<128))).all id=true by simp[List.all_map];intro c _;omega]at this;exact of_decide_eq_true this
 rw[e2]at e1;generalize zM (l.map (fun c=>decide (128≤c)))=m at *;generalize zM (l.map (fun c=>decide (c<128)))=z at *;go_enter func367,ntmps367
 go_wp2_with (first | (go_at_call 320;go_must (refine zm h1 ?_);rintro e w' ⟨rfl,rfl⟩) | (go_at_call 336;go_must (refine zm h2 ?_);rintro e w' ⟨rfl,rfl⟩))
 go_ret;exact⟨rfl,rfl⟩
theorem zcN{l:List Nat}(h:j4 l)(j:Nat)(W:World)(hj:j<8):Calls prog 335 #[.int .u64 (zC l),.int .i64 j] W fun e w'=>e=.returned (.int .i64 0)∧W=w':=by
 have hq:=zlr h W;have h0:(0:Int)≤j:=by omega
 have h1:(j:Int)<8:=by omega
 have h2 : ¬ ((8:Int)≤j):=by omega
 generalize zC l=w at *;go_enter func335,ntmps335
 go_wp2_with (go_at_call 367;go_must (refine zm hq ?_);rintro e w' ⟨rfl,rfl⟩)
 go_ret;exact⟨rfl,rfl⟩
theorem zfC{l:List Nat}(h:j4 l)(j b:Nat)(W:World)(hj:j<8)(hb:b<128):Calls prog 321 #[.int .u64 (zC l),.int .i64 j,.int .u8 b] W fun e w'=>e=.returned (.tuple #[.int .u64 (zC (l.set j b)),.int .i64 0])∧w'=W.drew:=by
 have hq:=zcN h j W hj;have hw:=zaZ h.bytes j b W hj (by omega);have h1 : ¬ ((127:Int)<b):=by omega
 generalize zC (l.set j b)=z at *;generalize zC l=w at *;go_enter func321,ntmps321
 go_wp2_with (first | (go_at_call 335;go_must (refine zm hq ?_);rintro e w' ⟨rfl,rfl⟩) | (go_at_call 337;go_must (refine zm hw ?_);rintro e w' ⟨rfl,rfl⟩))
 go_ret2;exact⟨rfl,rfl⟩
def yG(l:List Nat):Nat:=if l.any (· == 128)then 128 else 254
theorem Azm57 {P:Prop}(h:P:=by
 go_wp2_with (first | (go_at_call 335;go_must (refine zm hq ?_);rintro e w' ⟨rfl,rfl⟩) | (go_at_call 292;go_must (refine zm he ?_);rintro e w' ⟨rfl,rfl⟩) | (go_at_call 336;go_must (refine zm hf ?_);rintro e w' ⟨rfl,rfl⟩) | (go_at_call 337;go_must (refine zm hw ?_);rintro e w' ⟨rfl,rfl⟩))
 go_ret2;exact⟨rfl,rfl⟩):P:=h
theorem zj1{l:List Nat}(h:j4 l)(j c:Nat)(W:World)(hj:l[j]? = some c)(hc:c<128):Calls prog 291 #[.int .u64 (zC l),.int .i64 j] W fun e w'=>e=.returned (.tuple #[.int .u64 (zC (l.set j (yG l))),.int .i64 0])∧w'=W.drew:=by
 have hj8:j<8:=by have:=(zF.1 hj).1;have:=h.1;omega
 have hq:=zcN h j W hj8;have hw:=zaZ h.bytes j (yG l) W hj8 (by unfold yG;split<;>omega);have he:=Xm h.bytes W;have hf:=JR h.bytes W;have hz:=JC (p:=l.map (· == 128)) (by simp[h.1]);have hlt:=jn (p:=l.map (fun c=>decide (c<128))) (by simp[h.1]);have hb:=Qs (p:=l.map (fun c=>decide (c<128))) (by simp[h.1]) j hj8;rw[show(l.map (fun c=>decide (c<128))).getD j false=true by simp[List.getD_eq_getElem?_getD,hj,hc]]at hb;have hd:zM (l.map (fun c=>decide (c<128)))/2 ^ j<256:=jO (YP _ _) hlt;have e1:bits .and .u8 ((zM (l.map (fun c=>decide (c<128))):Int)/2 ^ j) 1=1:=by
  have:=UL _ 1 hd (by omega);rw[hb]at this;simpa using this
 have k0:(0:Int)≤j:=by omega
 have k1:(j:Int)≤8:=by omega
 generalize zM (l.map (fun c=>decide (c<128)))=f at *;rw[show(l.map (· == 128)).any id=l.any (· == 128) by simp[List.any_map]]at hz;generalize zC (l.set j (yG l))=z at *;generalize zC l=w at *;unfold yG at hw
 cases ha:l.any (· == 128)with
 | true =>
  rw[ha]at hz hw;have hz:zM (l.map (· == 128))≠0:=by simpa using hz
  generalize zM (l.map (· == 128))=m at *;have hz2:((m:Int)==0)=false:=by simp[hz]
  go_enter func291,ntmps291;exact Azm57
 | false =>
  rw[ha]at hz hw;have hz:zM (l.map (· == 128))=0:=by simpa using hz
  rw[hz]at he;go_enter func291,ntmps291;exact Azm57
end
end Go.Proofs.YtpplkcnknabofaaGreatDoor
