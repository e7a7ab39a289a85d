/- Lemmas and contracts of functions. No condition. -/
import Derived.WalkKit
import Derived.WalkSpells
import Derived.WalkLawsBesides
import Derived.Outline
import Derived.Lib.Hide
import Derived.Deep.AppendLies
import Derived.Deep.AppendSrc
import Derived.Deep.RegionHeld3
import Derived.BigQuiet
import Derived.Deep.DeepCutAuto
import Derived.Deep.RegionLaw
import Derived.Deep.QuietTactic
import Derived.Test.YtdohbogbnheakaaGreatDoorProg
import Derived.Handy
namespace Go.Proofs.YtdohbogbnheakaaGreatDoor
open _root_.Go.Proofs.Tryz
set_option maxRecDepth 100000
set_option maxHeartbeats 20000000
set_option linter.all false
section
open Go.RowKit
theorem za{p:Prop}(h:p):Hid p:=h
theorem zf{α:Sort _}(a:α) : ∃ x,a=x:=⟨a,rfl⟩
abbrev zi := @cell_of_row
abbrev zE := @List.getElem?_eq_some_iff
abbrev zm := @lt_of_block
abbrev zL := @List.getElem?_eq_getElem
abbrev zt := @IntWalk.i64_in
abbrev zq := @Calls.mono
abbrev zV := @List.length_append
abbrev zh := @if_neg
abbrev ya := @heap_setCell_same
abbrev yl := @List.mem_of_getElem?
abbrev yv := @List.getElem?_set_self
abbrev zR := @decide_eq_false
abbrev zP := @decide_eq_true
abbrev zk := @if_pos
abbrev zH := @Nat.le_trans
abbrev YO := @List.setIfInBounds_toArray
abbrev zz := @List.mem_map
abbrev yy := @List.getElem?_set_ne
abbrev zI := @Nat.le_refl
abbrev yC := @List.getElem?_map
abbrev yE := @List.mem_cons_self
abbrev zN := @bodyPost_ret
abbrev yH := @List.mem_cons_of_mem
abbrev ZF := @List.set_cons_succ
abbrev yn := @List.length_map
abbrev ua := @List.getD_eq_getElem?_getD
abbrev zea := @List.set_cons_zero
abbrev xM := @List.mem_append_right
abbrev yz := @List.mem_append
abbrev zF := @List.mem_singleton
abbrev kz := @List.length_cons
abbrev yU := @frozen_of_row
abbrev xK := @List.getElem?_eq_none
abbrev zO := @List.mem_cons
abbrev xT := @List.mem_append_left
abbrev yi := @Nat.zero_le
abbrev yO := @List.nodup_cons
abbrev vx := @List.length_replicate
abbrev xD := @List.nodup_append
abbrev vX := @List.getElem?_replicate
abbrev us := @List.getElem?_append_left
abbrev zlK := @List.getElem_cons_zero
abbrev zlu := @List.getElem_cons_succ
abbrev ve := @Nat.lt_of_lt_of_le
abbrev xF := @List.length_set
abbrev uX := @Array.getElem?_eq_some_iff
abbrev vh := @List.map_append
abbrev yB := @callsIn_wide
abbrev xY := @Nat.mod_eq_of_lt
abbrev zlt := @List.getElem_toArray
abbrev ur := @List.getElem?_of_mem
abbrev vI := @List.getElem?_toArray
abbrev vJ := @World.ownsRow_nil
abbrev vM := @List.append_assoc
abbrev vR := @AllReadyH.cons
abbrev Yt := @List.nil_append
abbrev uu := @List.map_congr_left
abbrev uY := @beq_eq_false_iff_ne
abbrev zbt := @List.cons_append
abbrev jh := @List.getElem?_append_right
abbrev kp := @List.pairwise_cons
abbrev ux := @BitVec.toNat_ofNat
abbrev uE := @List.take_add_one
abbrev jQ := @List.drop_eq_getElem_cons
abbrev qG := @List.map_cons
abbrev uv := @List.ext_getElem?
abbrev xG := @info_parts
abbrev qp := @List.take_of_length_le
abbrev jU := @List.eq_nil_of_length_eq_zero
abbrev uQ := @List.pairwise_map
abbrev jI := @List.mem_or_eq_of_mem_set
abbrev zlw := @List.length_nil
abbrev zlD := @Array.replicate_zero
abbrev zlp := @Array.replicate_succ
abbrev zlN := @List.append_toArray
abbrev qY := @Array.getElem?_eq_getElem
abbrev je := @List.filter_cons
abbrev zlz := @List.size_toArray
abbrev qJ := @List.flatMap_cons
abbrev uM := @AllReadyH.nil
abbrev ju := @List.filter_eq_self
abbrev zlA := @List.push_toArray
abbrev Zx := @List.mem_of_find?_eq_some
abbrev qm := @List.find?_eq_none
abbrev uN := @wpAnyH_ready
abbrev qw := @List.getElem?_range
abbrev Yx := @Int.toNat_of_nonneg
abbrev ZH := @Nat.testBit_two_pow_mul_add
abbrev vp := @Nat.mod_lt
abbrev qd := @List.pairwise_append
abbrev jB := @Nat.lt_of_le_of_lt
abbrev j7 := @List.getElem?_take
abbrev kJ := @wpAnyH_take
abbrev jb := @List.append_nil
abbrev ki := @CallsIn.mono
abbrev XT := @List.getElem?_cons_succ
abbrev Zb := @Nat.eq_of_testBit_eq
abbrev Zy := @Nat.div_div_eq_div_mul
abbrev Zw := @List.drop_of_length_le
abbrev Yf := @List.replicate_succ
abbrev jL := @List.filter_sublist
abbrev vy := @wpIn_wide
abbrev qT := @List.mem_filter
abbrev Yq := @World.cell?_setCell_other
abbrev qL := @Nat.xor_lt_two_pow
abbrev qX := @List.length_take
abbrev qn := @Nat.zero_add
abbrev jP := @List.map_map
abbrev Zt := @Nat.pow_le_pow_right
abbrev jf := @List.nodup_nil
abbrev YE := @World.block_lt_of_cell?
abbrev Ze := @Nat.or_lt_two_pow
abbrev qV := @Nat.lt_trichotomy
abbrev kL := @Option.some.inj
abbrev jE := @wp_region_held_drew
abbrev ZL := @List.flatMap_append
abbrev YV := @List.filter_eq_nil_iff
abbrev zlO := @run_underlying
abbrev ZZ := @List.mem_range
abbrev Y2 := @List.take_append_drop
abbrev YW := @Array.getElem?_toList
abbrev vP := @Iff.rfl
abbrev Ym := @Array.getElem?_range
abbrev Xr := @List.getElem?_set
abbrev Zn := @Nat.pow_succ
abbrev YB := @List.take_succ_cons
abbrev Ul := @Nat.and_two_pow_sub_one_eq_mod
abbrev ZM := @List.mem_flatten
abbrev ZX := @List.mem_flatMap
abbrev jW := @Nat.mul_one
abbrev Xc := @World.frozen?_of_block
abbrev zlT := @MapKept.run_setObj_map
abbrev zlB := @MapKept.run_getObj_map
abbrev YI := @List.filter_append
abbrev Zr := @and_congr_right
abbrev Xy := @List.set_append_right
abbrev Yo := @wpList_delete_own
abbrev XE := @List.foldl_append
abbrev VP := @List.flatten_cons
abbrev Jn := @Int.tdiv_eq_ediv_of_nonneg
abbrev Xk := @wpList_mapUpdate_own
abbrev Xn := @Nat.mul_le_mul_right
abbrev zlC := @List.countP_cons
abbrev Zk := @Nat.le_of_lt
abbrev VU := @List.pairwise_iff_getElem
abbrev UE := @List.findIdx?_eq_none_iff
abbrev kH := @Int.ofNat_inj
abbrev Y0 := @Nat.div_le_self
abbrev YZ := @World.ownsMap_made
abbrev UQ := @List.findIdx?_eq_some_iff_getElem
abbrev Um := @List.takeWhile_sublist
abbrev Us := @List.length_pos_of_mem
abbrev XS := @List.filter_congr
abbrev ZP := @getElem!_pos
abbrev YJ := @Nat.sub_self
abbrev Xp := @Nat.add_zero
abbrev YM := @List.map_set
abbrev Ux := @World.cell?_alloc_new
abbrev VV := @List.countP_le_length
abbrev Zd := @Maps.size_put
abbrev Ua := @List.mem_of_getLast?
abbrev Kj := @List.getElem?_modify
abbrev Vv := @List.find?_some
abbrev Vg := @Array.toList_modify
abbrev K0 := @List.perm_append_singleton
abbrev Vl := @Array.getElem?_append_left
abbrev UF := @List.filter_filter
abbrev Yn := @DataW.trod_int
structure Mod(S:Nat→Prop)(w w':World):Prop where
 os:w'.os=w.os
 tape:w'.tape=w.tape
 output:w'.output=w.output
 size:w.heap.size≤w'.heap.size
 block : ∀ k,k<w.heap.size → ¬ S k→w'.heap[k]? = w.heap[k]?
abbrev zc(w w':World):Prop:=Mod (fun _=>False) w w'
theorem Mod.refl(S:Nat→Prop)(w:World):Mod S w w:=⟨rfl,rfl,rfl,zI _,fun _ _ _=>rfl⟩
theorem Mod.mono{S S':Nat→Prop}{w w':World}(h:Mod S w w')(hs : ∀ k,k<w.heap.size→S k→S' k):Mod S' w w' :=
 ⟨h.os,h.tape,h.output,h.size,fun k hk hn=>h.block k hk (fun hx=>hn (hs k hk hx))⟩
theorem Mod.trans'{S T U:Nat→Prop}{a b c:World}(h:Mod S a b)(k:Mod T b c)(hs : ∀ i,i<a.heap.size→S i→U i)(ht : ∀ i,i<a.heap.size→T i→U i):Mod U a c :=
 ⟨k.os.trans h.os,k.tape.trans h.tape,k.output.trans h.output,zH h.size k.size,fun i hi hn =>
  (k.block i (ve hi h.size) (fun hx=>hn (ht i hi hx))).trans (h.block i hi (fun hx=>hn (hs i hi hx)))⟩
theorem Mod.trans{S:Nat→Prop}{a b c:World}(h:Mod S a b)(k:Mod S b c):Mod S a c:=h.trans' k (fun _ _ h=>h) (fun _ _ h=>h)
theorem Mod.of_pure{S:Nat→Prop}{w w':World}(h:zc w w'):Mod S w w':=h.mono (fun _ _ h=>h.elim)
theorem Mod.of_grown{S:Nat→Prop}{w w':World}{row:Option Nat}(h:w.grownBy w' row)(hs : ∀ k,row=some k→k<w.heap.size→S k):Mod S w w' :=
 ⟨h.os,h.tape,h.output,h.size,fun k hk hn=>h.block k hk (fun e=>hn (hs k e.symm hk))⟩
theorem Mod.of_below{S:Nat→Prop}{w w':World}(h:Below w.heap.size w w'):Mod S w w':=⟨h.os,h.tape,h.output,h.size,fun k hk _=>h.block k hk⟩
theorem Mod.below{S:Nat→Prop}{w w':World}(h:Mod S w w')(hs : ∀ k,k<w.heap.size → ¬ S k):Below w.heap.size w w':=⟨h.os,h.tape,h.output,h.size,fun k hk=>h.block k hk (hs k hk)⟩
theorem Mod.alloc{S:Nat→Prop}{a w:World}(h:Mod S a w)(o:Obj):Mod S a (w.alloc o) :=
 ⟨h.os,h.tape,h.output,zH h.size (by simp),fun k hk hn=>(Below.heap_alloc w o k (ve hk h.size)).trans (h.block k hk hn)⟩
theorem Mod.drew{S:Nat→Prop}{a w:World}(h:Mod S a w):Mod S a w.drew:=⟨h.os,h.tape,h.output,h.size,h.block⟩
theorem Mod.of_drew{S:Nat→Prop}{w w':World}(h:Mod S w.drew w'):Mod S w w':=⟨h.os,h.tape,h.output,h.size,h.block⟩
theorem Mod.drewN{S:Nat→Prop}{a w:World}(h:Mod S a w)(n:Nat):Mod S a (w.drewN n):=⟨h.os,h.tape,h.output,h.size,h.block⟩
theorem Mod.setCell{S:Nat→Prop}{a w:World}(h:Mod S a w){p:Addr}(hp:p.block<a.heap.size→S p.block)(u:Value):Mod S a (w.setCell p u) :=
 ⟨h.os,h.tape,h.output,by simpa[World.setCell]using h.size,fun k hk hn=>(Below.heap_setCell w p u k (fun e=>by subst e;exact hn (hp hk))).trans (h.block k hk hn)⟩
theorem Mod.then{S T:Nat→Prop}{a b c:World}(h:Mod S a b)(k:Mod T b c)(ht : ∀ i,i<a.heap.size→T i→S i):Mod S a c:=h.trans' k (fun _ _ h=>h) ht
theorem Mod.cells{W w1:World}(h:zc W w1):(∀ b o,b<W.heap.size→w1.cell? ⟨b,o,none⟩=W.cell? ⟨b,o,none⟩)∧(∀ b o,b<W.heap.size→w1.frozen? ⟨b,o,none⟩=W.frozen? ⟨b,o,none⟩) :=
 ⟨fun b o hb=>World.cell?_of_block (w:=W) (a:=⟨b,o,none⟩) (h.block b hb (fun h=>h)),fun b o hb=>Xc (w:=W) (a:=⟨b,o,none⟩) (h.block b hb (fun h=>h))⟩
theorem Mod.cell{S:Nat→Prop}{w w':World}(h:Mod S w w'){a:Addr}{v:Value}(hn : ¬ S a.block)(hc:w.cell? a=some v):w'.cell? a=some v :=
 (World.cell?_of_block (w:=w) (h.block a.block (YE w a hc) hn)).trans hc
theorem Mod.heap{S:Nat→Prop}{w w':World}(h:Mod S w w'){k:Nat}{o:Obj}(hn : ¬ S k)(hc:w.heap[k]? = some o):w'.heap[k]? = some o :=
 (h.block k (zm hc) hn).trans hc
theorem Mod.lt{S:Nat→Prop}{w w':World}(h:Mod S w w'){k:Nat}(hk:k<w.heap.size):k<w'.heap.size:=ve hk h.size
theorem zj{w:World}{o:Obj}{n:Nat}(hn:n=w.heap.size):(w.alloc o).heap[n]? = some o:=by subst hn;exact heap_alloc_new w o
theorem zG{w:World}{o x:Obj}{n:Nat}(h:w.heap[n]? = some x):(w.alloc o).heap[n]? = some x:=by
 rw[Below.heap_alloc w o n (zm h)];exact h
theorem xm{w:World}{a:Addr}{v:Value}{x:Obj}{n:Nat}(h:w.heap[n]? = some x)(hn:n≠a.block):(w.setCell a v).heap[n]? = some x:=by
 rw[heap_setCell_other w a n v hn];exact h
theorem Mod.box{S:Nat→Prop}{W w1:World}(h:Mod S W w1){b:Nat}{cs:Array Value}{T:TypeId}(hb:W.heap[b]? = some (.cells cs T (0,0)))(hn : ¬ S b) :
  (∀ i,w1.cell? ⟨b,i,none⟩=cs[i]?)∧(∀ i,w1.frozen? ⟨b,i,none⟩=false):=by
 have:=h.heap hn hb;exact⟨fun i=>zi w1 b i cs T (0,0) this,fun i=>yU w1 b i cs T this⟩
theorem jA(n:Nat)(h:n≤9223372036854775807):wrap64 (n:Int)=n:=IntWalk.wrap64_in _ (by omega)
theorem zjO(n:Nat)(h:n≤4294967295):wrap64 (n:Int)%4294967296=n:=by rw[jA n (by omega)];omega
def zo(w:World)(v:Value)(k:Nat)(xs:List Value):Prop :=
 ∃(a:Option Addr) (n c:Nat),v=.slice a n c∧xs.length=n*k∧(∀ u∈xs,u.oneCell'=true)∧(a=none→n=0) ∧ ∀ ad,a=some ad → ∀ j u,xs[j]? = some u→w.cell? (ad.add j)=some u
theorem zo.nil(w:World)(k:Nat):zo w (.slice none 0 0) k []:=⟨none,0,0,rfl,by simp,by simp,fun _=>rfl,fun _ h=>by cases h⟩
def vE:Value→Option Nat
 | .slice (some a) n _=>if n=0 then none else some a.block
 | _=>none
theorem zcq{v:Value}{g:Nat}(h:vE v=some g):v.ownBlock=some g:=by
 unfold vE at h;split at h
 ·split at h
  ·cases h
  ·exact h
 ·cases h
theorem JX(ad:Addr)(j:Nat):(ad.add j).block=ad.block:=by unfold Addr.add;split<;>rfl
theorem zo.frame{w w':World}{v:Value}{k:Nat}{xs:List Value}{S:Nat→Prop}(h:zo w v k xs)(hm:Mod S w w')(hn : ∀ g,vE v=some g → ¬ S g):zo w' v k xs:=by
 obtain⟨a,n,c,rfl,hl,h1,h0,hc⟩:=h;refine⟨a,n,c,rfl,hl,h1,h0,fun ad ha j u hu => ?_⟩;refine hm.cell ?_ (hc ad ha j u hu);rw[JX];refine hn ad.block ?_;subst ha;have:n≠0:=by
  rintro rfl;have:xs=[]:=jU (by simpa using hl);subst this
  cases hu
 simp[vE,this]
theorem zo.lt{w:World}{v:Value}{k:Nat}{xs:List Value}(h:zo w v k xs)(hk:0<k){g:Nat}(hg:vE v=some g):g<w.heap.size:=by
 obtain⟨a,n,c,rfl,hl,h1,h0,hc⟩:=h
 cases a with
 | none=>cases hg
 | some ad =>
  simp only[vE]at hg;split at hg
  ·cases hg
  ·cases hg
   have hp:0<xs.length:=by rw[hl];exact Nat.mul_pos (by omega) hk
   have:=YE w _ (hc ad rfl 0 _ (zL hp))
   rwa [JX]at this
theorem zo.of_owns{w:World}{e:TypeId}{k:Nat}{v:Value}{n:Nat}{xs:List Value}(h:w.ownsRow 0 e k v n xs)(h1 : ∀ u∈xs,u.oneCell'=true):zo w v k xs:=by
 obtain⟨hl,hv⟩:=h;rcases hv with⟨rfl,rfl⟩ | ⟨g,cap,cur,rfl,hb,hg,hnc,hcm,hcs,ht⟩
 ·have:xs=[]:=jU (by simpa using hl);subst this;exact zo.nil w k
 ·have hown:w.ownsRow 0 e k (.slice (some ⟨g,0,none⟩) n cap) n xs:=⟨hl,.inr ⟨g,cap,cur,rfl,hb,hg,hnc,hcm,hcs,ht⟩⟩;exact⟨some ⟨g,0,none⟩,n,cap,rfl,hl,h1,(fun h=>by cases h),fun ad ha j u hu=>by cases ha;exact hown.cells rfl j u hu⟩
theorem uW{α β:Type}(f:α→List β)(k:Nat)(hf : ∀ a,(f a).length=k)(j:Nat)(hj:j<k) : ∀(M:List α) (i:Nat),(M.flatMap f)[i*k+j]? = (M[i]?).bind fun m=>(f m)[j]?
 | [],i=>by simp
 | a::M,0=>by
  simp only[List.flatMap_cons,Nat.zero_mul,Nat.zero_add,List.getElem?_cons_zero,Option.bind_some];rw[us (by rw[hf];exact hj)]
 | a::M,i+1=>by
  have e:(i+1)*k+j=(f a).length+(i*k+j):=by rw[hf,Nat.add_mul];omega
  simp only[List.flatMap_cons,List.getElem?_cons_succ];rw[e,jh (Nat.le_add_right _ _),Nat.add_sub_cancel_left];exact uW f k hf j hj M i
theorem X7{α β:Type}(f:α→List β)(k:Nat)(hf : ∀ a,(f a).length=k) : ∀(M:List α),(M.flatMap f).length=M.length*k
 | []=>by simp
 | a::M=>by simp only[List.flatMap_cons,List.length_append,hf,X7 f k hf M,List.length_cons,Nat.add_mul];omega
theorem qr{w:World}{T k:Nat}{v:Value}{n:Nat}{xs:List Value}(h:w.ownsRow 0 T k v n xs) : ∃ a c,v=.slice a n c∧n≤c:=by
 rcases h.2 with⟨rfl,rfl⟩ | ⟨g,cap,cur,rfl,_,_,hnc,_⟩
 ·exact⟨none,0,rfl,zI _⟩
 ·exact⟨_,_,rfl,hnc⟩
theorem uO{w:World}{T k:Nat}{v:Value}{n:Nat}{xs:List Value}(h:w.ownsRow 0 T k v n xs)(hn:0<n) :
  ∃ g c,v=.slice (some ⟨g,0,none⟩) n c∧n≤c∧g<w.heap.size∧(∀ j u,xs[j]? = some u→w.cell? ⟨g,j,none⟩=some u)∧(∀ j,w.frozen? ⟨g,j,none⟩=false) ∧ ∃ cur,w.heap[g]? = some (.cells cur T (0,0))∧cur.size=c*k∧cur.toList.take (n*k)=xs∧c≤maxLen:=by
 obtain⟨hl,hv⟩:=h;rcases hv with⟨_,h0⟩ | ⟨g,cap,cur,rfl,hb,hg,hnc,hm,hcs,ht⟩
 ·omega
 ·refine⟨g,cap,rfl,hnc,zm hg,fun j u hu => ?_,fun j=>yU w g j cur T hg,cur,hg,hcs,ht,hm⟩;rw[zi w g j cur T (0,0) hg];rw[← ht,j7]at hu;split at hu
  ·simpa using hu
  ·cases hu
theorem KI{w w':World}{T k:Nat}{v:Value}{n:Nat}{xs:List Value}(h:w.ownsRow 0 T k v n xs)(hn : ∀ g,v.ownBlock=some g→g<w.heap.size→w'.heap[g]? = w.heap[g]?):w'.ownsRow 0 T k v n xs:=by
 refine⟨h.1,?_⟩;rcases h.2 with h2 | ⟨g,cap,cur,rfl,hb,hg,rest⟩
 ·exact .inl h2
 ·exact .inr ⟨g,cap,cur,rfl,hb,(hn g rfl (zm hg)).trans hg,rest⟩
theorem zy{w w':World}{T k:Nat}{v:Value}{n:Nat}{xs:List Value}{S:Nat→Prop}(h:w.ownsRow 0 T k v n xs)(hm:Mod S w w')(hn : ∀ g,v.ownBlock=some g → ¬ S g):w'.ownsRow 0 T k v n xs:=by
 refine⟨h.1,?_⟩;rcases h.2 with h2 | ⟨g,cap,cur,rfl,hb,hg,rest⟩
 ·exact .inl h2
 ·exact .inr ⟨g,cap,cur,rfl,hb,hm.heap (hn g rfl) hg,rest⟩
theorem yc{w:World}{T k:Nat}{v:Value}{n:Nat}{xs:List Value}(h:w.ownsRow 0 T k v n xs){g:Nat}(hg:v.ownBlock=some g) : ∃ cur,w.heap[g]? = some (.cells cur T (0,0)):=by
 rcases h.2 with⟨rfl,_⟩ | ⟨g',cap,cur,rfl,_,hb,_⟩
 ·cases hg
 ·cases hg;exact⟨cur,hb⟩
theorem vY{w:World}{T k:Nat}{v:Value}{n:Nat}{xs:List Value}(h:w.ownsRow 0 T k v n xs){g:Nat}(hg:v.ownBlock=some g):g<w.heap.size:=(h.lt g hg).2
theorem zjh{w:World}{T T' k k':Nat}{v v':Value}{n n':Nat}{xs xs':List Value}(h:w.ownsRow 0 T k v n xs)(h':w.ownsRow 0 T' k' v' n' xs')(hT:T≠T'){g:Nat}(hg:v.ownBlock=some g):v'.ownBlock≠some g:=by
 intro hg';obtain⟨c,e⟩:=yc h hg;obtain⟨c',e'⟩:=yc h' hg';rw[e]at e'
 cases e'
 exact hT rfl
theorem zo.of_block{w:World}{B:Nat}{cs:Array Value}{T:TypeId}{fr:Nat × Nat}(n c k:Nat)(hb:w.heap[B]? = some (.cells cs T fr))(hl:cs.toList.length=n*k)(h1 : ∀ u∈cs.toList,u.oneCell'=true) :
  zo w (.slice (some ⟨B,0,none⟩) n c) k cs.toList :=
 ⟨some ⟨B,0,none⟩,n,c,rfl,hl,h1,(fun h=>by cases h),fun ad ha j u hu=>by cases ha;exact World.news_of_block hb j u hu⟩
theorem uR{w:World}{T k g n c:Nat}{xs:List Value}(h:w.ownsRow 0 T k (.slice (some ⟨g,0,none⟩) n c) n xs)(j:Nat)(u:Value)(hj:j<n*k) :
  (w.setCell ⟨g,j,none⟩ u).ownsRow 0 T k (.slice (some ⟨g,0,none⟩) n c) n (xs.set j u):=by
 obtain⟨hl,hv⟩:=h;refine⟨by rw[xF];exact hl,.inr ?_⟩;rcases hv with⟨hv,_⟩ | ⟨g',cap,cur,hv,hb,hg,hnc,hm,hcs,ht⟩
 ·cases hv
 ·cases hv
  refine⟨g,c,cur.setIfInBounds j u,rfl,hb,ya w g j cur T u hg,hnc,hm,by rw[Array.size_setIfInBounds];exact hcs,?_⟩;rw[Array.toList_setIfInBounds,List.take_set,ht]
theorem ZA(k j:Nat)(hj:j<k)(u:Value) : ∀(R:List (List Value)) (_ : ∀ r∈R,r.length=k) (i:Nat),R.flatten.set (i*k+j) u=(R.modify i (fun r=>r.set j u)).flatten
 | [],_,i=>by simp
 | r::R,hR,0=>by
  simp only[Nat.zero_mul,Nat.zero_add,List.flatten_cons,List.modify_zero_cons];rw[List.set_append_left _ _ (by rw[hR r (by simp)];exact hj)]
 | r::R,hR,i+1=>by
  have hr:r.length=k:=hR r (by simp);simp only[List.flatten_cons,List.modify_succ_cons];rw[Xy _ _ (by rw[hr,Nat.add_mul];omega)];have e:(i+1)*k+j-r.length=i*k+j:=by rw[hr,Nat.add_mul];omega
  rw[e,ZA k j hj u R (fun r h=>hR r (by simp[h])) i]
theorem ZC{R:List (List Value)}{k:Nat}(hR : ∀ r∈R,r.length=k)(i j:Nat)(u:Value) : ∀ r∈R.modify i (fun r=>r.set j u),r.length=k:=by
 intro r hr;obtain⟨n,hn⟩:=List.mem_iff_getElem?.1 hr;rw[Kj]at hn
 cases h:R[n]? with
 | none=>simp[h]at hn
 | some r0 =>
  have h0:=hR r0 (yl h);simp only[h,Option.map_some]at hn;split at hn<;>(cases hn;simp[h0])
theorem zch{α:Type}(f:α→List Value)(h:List Value→List Value)(m':α) : ∀(M:List α) (i:Nat) (m:α),M[i]? = some m→h (f m)=f m'→(M.map f).modify i h=(M.set i m').map f
 | [],i,m,hi,_=>by simp at hi
 | a::M,0,m,hi,hm=>by simp at hi;subst hi;simp[hm]
 | a::M,i+1,m,hi,hm=>by
  have:=zch f h m' M i m (by simpa using hi) hm;simp only[List.map_cons,List.modify_succ_cons,List.set_cons_succ,this]
section
variable{P:Program}(w:World)
theorem zaf(t ty e:TypeId)(i:TypeInfo)(z:Value)(k bytes:Nat)(ht:P.underlying t=some (.slice e))(hi:P.info? e=some i)(hz:i.zero=some z)
  (hsize:i.size=k) (hby:i.bytes=bytes) (hzs:z.cells.size=k) (hsz:0<k)
  (v:Value) (n:Nat) (xs:List Value) (hown:w.ownsRow 0 e k v n xs) (x:Value) (ys:List Value) (m:Nat) (hx:zo w x k ys) (hm:ys.length=m*k)
  (h63:n+m≤maxLen) (hbytes:(n+m)*bytes≤140737488355328) :
  ∃ a' c' w',(Builtin.append_ #[t,t] ty #[v,x]).run P w=.ok (.slice a' (n+m) c') w'∧w'.ownsRow 0 e k (.slice a' (n+m) c') (n+m) (xs++ys)∧w.grownBy w' v.ownBlock∧((Value.slice a' (n+m) c').ownBlock=v.ownBlock∨(Value.slice a' (n+m) c').ownBlock=some w.heap.size):=by
 suffices hs : ∃ v' w',(Builtin.append_ #[t,t] ty #[v,x]).run P w=.ok v' w'∧w'.ownsRow 0 e k v' (n+m) (xs++ys)∧w.grownBy w' v.ownBlock∧(v'.ownBlock=v.ownBlock∨v'.ownBlock=some w.heap.size) by
  obtain⟨v',w',r1,r2,r3,r4⟩:=hs;obtain⟨a',c',rfl,_⟩:=qr r2;exact⟨a',c',w',r1,r2,r3,r4⟩
 obtain⟨a,m',c,rfl,hl,h1,h0,hc⟩:=hx;have em:m'=m:=Nat.eq_of_mul_eq_mul_right hsz (hl.symm.trans hm);subst em
 cases a with
 | some ad =>
  obtain⟨v',w',r1,r2,r3,_,r5⟩:=run_append_own_at (P:=P) w 0 t ty e i z k bytes ht hi hz hsize hby hzs hsz v n xs hown ad m' c ys hl (fun j u hu=>hc ad rfl j u hu) h1 h63 hbytes (yi _);exact⟨v',w',r1,r2,r3,r5⟩
 | none =>
  have hm0:=h0 rfl;subst hm0;have hy:ys=[]:=jU (by simpa using hl);subst hy;refine⟨v,w,?_,by simpa using hown,⟨rfl,rfl,rfl,zI _,fun _ _ _=>rfl⟩,.inl rfl⟩;rcases hown.2 with⟨rfl,rfl⟩ | ⟨g,cap,cur,rfl,_,hg,hnc,_⟩
  ·simp[Builtin.append_,run_underlying ht,sizeOf,typeInfo,hi,Builtin.lenOf,Builtin.firstCells,loadCells,loadCellsFrom]
  ·simp[Builtin.append_,run_underlying ht,sizeOf,typeInfo,hi,Builtin.lenOf,Builtin.firstCells,hnc,storeCells]
theorem Q4{o:Oper}{a:Act}{K:Act→World→Prop}{Q:Exit→Act→World→Prop}(s x:Operand)(t:TypeId)
  (ho:o.op=.call {callee := .builtin .append,args:=#[s,x],argTypes:=#[t,t]})
  (e:TypeId) (i:TypeInfo) (z:Value) (k bytes:Nat) (ht:P.underlying t=some (.slice e)) (hi:P.info? e=some i) (hz:i.zero=some z)
  (hsize:i.size=k) (hby:i.bytes=bytes) (hzs:z.cells.size=k) (hsz:0<k)
  (v:Value) (n:Nat) (xs:List Value) (hs:a.eval s=v) (hown:w.ownsRow 0 e k v n xs) (xv:Value) (ys:List Value) (m:Nat) (hxv:a.eval x=xv) (hx:zo w xv k ys) (hm:ys.length=m*k)
  (h63:n+m≤maxLen) (hbytes:(n+m)*bytes≤140737488355328)
  (h : ∀ a' c' w',w'.ownsRow 0 e k (.slice a' (n+m) c') (n+m) (xs++ys)→w.grownBy w' v.ownBlock→((Value.slice a' (n+m) c').ownBlock=v.ownBlock∨(Value.slice a' (n+m) c').ownBlock=some w.heap.size)→K (a.put o.dst (.slice a' (n+m) c')) w'):o.wp P a w K Q:=by
 obtain⟨a',c',w',hr,h2,h3,h4⟩:=zaf (P:=P) w t o.type e i z k bytes ht hi hz hsize hby hzs hsz v n xs hown xv ys m hx hm h63 hbytes;unfold Oper.wp execOp;simp only[ho,resolve,invoke,builtin,Sem.run_bind,Sem.run_pure,Result.andThen_ok,List.map_toArray,List.map_cons,List.map_nil,hs,hxv,hr];exact h a' c' w' h2 h3 h4
theorem uK{ops:Array Oper}{rest:List Oper}{o:Oper}{a:Act}{Q:Exit→Act→World→Prop}(hgd:o.guard=none)(s x:Operand)(t:TypeId)
  (ho:o.op=.call {callee := .builtin .append,args:=#[s,x],argTypes:=#[t,t]})
  (e:TypeId) (i:TypeInfo) (z:Value) (k bytes:Nat) (ht:P.underlying t=some (.slice e)) (hi:P.info? e=some i) (hz:i.zero=some z)
  (hsize:i.size=k) (hby:i.bytes=bytes) (hzs:z.cells.size=k) (hsz:0<k)
  (v:Value) (n:Nat) (xs:List Value) (hs:a.eval s=v) (hown:w.ownsRow 0 e k v n xs) (xv:Value) (ys:List Value) (m:Nat) (hxv:a.eval x=xv) (hx:zo w xv k ys) (hm:ys.length=m*k)
  (h63:n+m≤maxLen) (hbytes:(n+m)*bytes≤140737488355328)
  (h : ∀ a' c' w',w'.ownsRow 0 e k (.slice a' (n+m) c') (n+m) (xs++ys)→w.grownBy w' v.ownBlock→((Value.slice a' (n+m) c').ownBlock=v.ownBlock∨(Value.slice a' (n+m) c').ownBlock=some w.heap.size)→wpList P ops Q rest (a.put o.dst (.slice a' (n+m) c')) w'):wpList P ops Q (o::rest) a w :=
 wpList_plain hgd fun _ hK=>Q4 w s x t ho e i z k bytes ht hi hz hsize hby hzs hsz v n xs hs hown xv ys m hxv hx hm h63 hbytes fun a' c' w' h2 h3 h4=>hK _ _ (h a' c' w' h2 h3 h4)
theorem XU{ops:Array Oper}{o:Oper}{a:Act}{K:Act→World→Prop}{Q:Exit→Act→World→Prop}{E:Prop}(hgd:o.guard=none)(s x:Operand)(t:TypeId)
  (ho:o.op=.call {callee := .builtin .append,args:=#[s,x],argTypes:=#[t,t]})
  (e:TypeId) (i:TypeInfo) (z:Value) (k bytes:Nat) (ht:P.underlying t=some (.slice e)) (hi:P.info? e=some i) (hz:i.zero=some z)
  (hsize:i.size=k) (hby:i.bytes=bytes) (hzs:z.cells.size=k) (hsz:0<k)
  (v:Value) (n:Nat) (xs:List Value) (hs:a.eval s=v) (hown:w.ownsRow 0 e k v n xs) (xv:Value) (ys:List Value) (m:Nat) (hxv:a.eval x=xv) (hx:zo w xv k ys) (hm:ys.length=m*k)
  (h63:n+m≤maxLen) (hbytes:(n+m)*bytes≤140737488355328)
  (h : ∀ a' c' w',w'.ownsRow 0 e k (.slice a' (n+m) c') (n+m) (xs++ys)→w.grownBy w' v.ownBlock→((Value.slice a' (n+m) c').ownBlock=v.ownBlock∨(Value.slice a' (n+m) c').ownBlock=some w.heap.size)→K (a.put o.dst (.slice a' (n+m) c')) w') :
  if Region.wanted o (yielded ops a.tmps)=true then Oper.wp P o a w K Q else E:=by
 have hw:Region.wanted o (yielded ops a.tmps)=true:=by simp[Region.wanted,hgd]
 rw[zk hw];exact Q4 w s x t ho e i z k bytes ht hi hz hsize hby hzs hsz v n xs hs hown xv ys m hxv hx hm h63 hbytes h
end
def zC:List Nat→Nat
 | []=>0
 | b::l=>256*zC l+b
def zJ:List Bool→Nat
 | []=>0
 | b::l=>2*zJ l+b.toNat
def vk(l:List Nat):Prop:=l.length=8 ∧ ∀ c∈l,c<256
theorem zgg(f:Nat→Nat→Nat)(g:Bool→Bool→Bool)(hf : ∀ a b i,(f a b).testBit i=g (a.testBit i) (b.testBit i))(hlt : ∀ a b,a<2 ^ 8→b<2 ^ 8→f a b<2 ^ 8)(a b x y:Nat)(ha:a<256)(hb:b<256) :
  f (256*x+a) (256*y+b)=256*f x y+f a b:=by
 apply Zb;intro i;have e:(256:Nat)=2 ^ 8:=rfl;rw[hf,e,ZH x ha i,ZH y hb i,ZH (f x y) (hlt a b ha hb) i];split<;>rw[hf]
theorem Vu(f:Nat→Nat→Nat)(g:Bool→Bool→Bool)(h00:f 0 0=0)(hf : ∀ a b i,(f a b).testBit i=g (a.testBit i) (b.testBit i))(hlt : ∀ a b,a<2 ^ 8→b<2 ^ 8→f a b<2 ^ 8)(s t:Nat→Nat) :
  ∀ l:List Nat,(∀ c∈l,s c<256)→(∀ c∈l,t c<256)→f (zC (l.map s)) (zC (l.map t))=zC (l.map (fun c=>f (s c) (t c)))
 | [],_,_=>h00
 | c::l,hs,ht=>by
  simp only[List.map_cons,zC];rw[zgg f g hf hlt _ _ _ _ (hs c (by simp)) (ht c (by simp)),Vu f g h00 hf hlt s t l (fun c h=>hs c (by simp[h])) (fun c h=>ht c (by simp[h]))]
theorem zbM(s t:Nat→Nat)(l:List Nat)(hs : ∀ c∈l,s c<256)(ht : ∀ c∈l,t c<256):zC (l.map s) ^^^ zC (l.map t)=zC (l.map (fun c=>s c ^^^ t c)) :=
 Vu (· ^^^ ·) Bool.xor rfl Nat.testBit_xor (fun _ _=>qL) s t l hs ht
theorem Qg(s t:Nat→Nat)(l:List Nat)(hs : ∀ c∈l,s c<256)(ht : ∀ c∈l,t c<256):zC (l.map s) &&& zC (l.map t)=zC (l.map (fun c=>s c &&& t c)) :=
 Vu (· &&& ·) and rfl Nat.testBit_and (fun a b ha _=>jB Nat.and_le_left ha) s t l hs ht
theorem K7(s t:Nat→Nat)(l:List Nat)(hs : ∀ c∈l,s c<256)(ht : ∀ c∈l,t c<256):zC (l.map s) ||| zC (l.map t)=zC (l.map (fun c=>s c ||| t c)) :=
 Vu (· ||| ·) or rfl Nat.testBit_or (fun _ _=>Ze) s t l hs ht
theorem zdk(s t:Nat→Nat) : ∀ l:List Nat,zC (l.map s)+zC (l.map t)=zC (l.map (fun c=>s c+t c))
 | []=>rfl
 | c::l=>by simp only[List.map_cons,zC];rw[← zdk s t l];omega
theorem zbQ : ∀ l:List Nat,(∀ c∈l,c<256)→zC l<256 ^ l.length
 | [],_=>by simp[zC]
 | c::l,h=>by
  have h1:=zbQ l (fun c hc=>h c (by simp[hc]));have h2:=h c (by simp);simp only[zC,List.length_cons,Nat.pow_succ];omega
theorem vk.lt{l:List Nat}(h:vk l):zC l<18446744073709551616:=by have:=zbQ l h.2;rw[h.1]at this;simpa using this
theorem vk.map{l:List Nat}(h:vk l){s:Nat→Nat}(hs : ∀ c,c<256→s c<256):vk (l.map s):=⟨by simp[h.1],fun c hc=>by obtain⟨a,ha,rfl⟩:=zz.1 hc;exact hs a (h.2 a ha)⟩
theorem UA(k:Nat){l:List Nat}(h:l.length=8):zC (l.map (fun _=>k))=72340172838076673*k:=by
 have:l.map (fun _=>k)=[k,k,k,k,k,k,k,k]:=by
  rw[show(fun _:Nat=>k)=Function.const Nat k from rfl,List.map_const,h];rfl
 rw[this];simp only[zC];omega
theorem vk.eight{l:List Nat}(h:vk l) : ∃ a b c d e f g i,l=[a,b,c,d,e,f,g,i]:=by
 obtain⟨hl,_⟩:=h
 match l,hl with
 | [a,b,c,d,e,f,g,i],_=>exact⟨a,b,c,d,e,f,g,i,rfl⟩
theorem jZ{α:Type}{l:List α}(hl:l.length=8) : ∃ a b c d e f g i,l=[a,b,c,d,e,f,g,i]:=by
 match l,hl with
 | [a,b,c,d,e,f,g,i],_=>exact⟨a,b,c,d,e,f,g,i,rfl⟩
theorem zkq : ∀ x<256,255 ^^^ ((((x &&& 127)+127) ||| x) ||| 127)=if x=0 then 128 else 0:=by decide +kernel
theorem zei{a b:Nat}(h:a ^^^ b=0):a=b:=by
 apply Zb;intro i;have:(a ^^^ b).testBit i=false:=by rw[h];simp
 rw[Nat.testBit_xor]at this
 cases ha:a.testBit i<;>cases hb:b.testBit i<;>simp[ha,hb]at this<;>rfl
theorem ziz{l:List Nat}(h:vk l)(b:Nat)(hb:b<256) :
  18446744073709551615 ^^^ (((((zC l ^^^ (72340172838076673*b)) &&& 9187201950435737471)+9187201950435737471) ||| (zC l ^^^ (72340172838076673*b))) ||| 9187201950435737471) =
   zC (l.map (fun c=>if c=b then 128 else 0)):=by
 have hx : ∀ c∈l,c ^^^ b<256:=fun c hc=>qL (n:=8) (h.2 c hc) hb
 have ha : ∀ c∈l,(c ^^^ b) &&& 127<128:=fun c hc=>by have:(c ^^^ b) &&& 127≤127:=Nat.and_le_right;omega
 have h1:zC l ^^^ (72340172838076673*b)=zC (l.map (fun c=>c ^^^ b)):=by
  have:=zbM id (fun _=>b) l (by simpa using h.2) (fun _ _=>hb)
  rwa [UA b h.1,List.map_id]at this
 have k127:(9187201950435737471:Nat)=zC (l.map (fun _=>127)):=by rw[UA 127 h.1]
 have k255:(18446744073709551615:Nat)=zC (l.map (fun _=>255)):=by rw[UA 255 h.1]
 rw[h1,k127,k255,Qg _ _ _ hx (fun _ _=>by omega),zdk,K7 _ _ _ (fun c hc=>by have:=ha c hc;omega) hx,
  K7 _ _ _ (fun c hc=>Ze (n:=8) (by have:=ha c hc;omega) (hx c hc)) (fun _ _=>by omega),
  zbM _ _ _ (fun _ _=>by omega) (fun c hc=>Ze (n:=8) (Ze (n:=8) (by have:=ha c hc;omega) (hx c hc)) (by omega))]
 congr 1
 apply uu;intro c hc;rw[zkq _ (hx c hc)];by_cases e:c=b
 ·subst e;simp
 ·rw[zh e,zh (fun h=>e (zei h))]
theorem zgI{l:List Nat}(h:vk l)(b:Nat)(hb:b<256) :
  (((zC l ^^^ (72340172838076673*b)) &&& 9187201950435737471)+9187201950435737471)<18446744073709551616:=by
 have:(zC l ^^^ (72340172838076673*b)) &&& 9187201950435737471≤9187201950435737471:=Nat.and_le_right;omega
theorem ze7{l:List Nat}(p:Nat→Bool):l.map (fun c=>if p c then 128 else 0)=(l.map p).map (fun b=>if b then 128 else 0):=by
 rw[jP];rfl
theorem zil : ∀ a b c d e f g i:Bool,(zC ([a,b,c,d,e,f,g,i].map (fun b=>if b then 128 else 0))/128*72624976668147840%18446744073709551616)/72057594037927936%256=zJ [a,b,c,d,e,f,g,i]:=by decide +kernel
theorem QL{p:List Bool}(h:p.length=8):(zC (p.map (fun b=>if b then 128 else 0))/128*72624976668147840%18446744073709551616)/72057594037927936%256=zJ p:=by
 obtain⟨a,b,c,d,e,f,g,i,rfl⟩:=jZ h;exact zil a b c d e f g i
theorem zh3{l:List Nat}(h:vk l):zC l &&& 9259542123273814144=zC (l.map (fun c=>if decide (128≤c)then 128 else 0)):=by
 have k:(9259542123273814144:Nat)=zC (l.map (fun _=>128)):=by rw[UA 128 h.1]
 have:=Qg id (fun _=>128) l (by simpa using h.2) (fun _ _=>by omega);rw[List.map_id]at this;rw[k,this]
 congr 1
 apply uu;intro c hc;have : ∀ c<256,c &&& 128=if decide (128≤c)then 128 else 0:=by decide +kernel
 exact this c (h.2 c hc)
theorem kr(n:Nat)(h:n<18446744073709551616):IntKind.u64.wrap (n:Int)=n:=by
 simp[IntKind.wrap,IntKind.signed,IntKind.bits];omega
theorem Qd(n:Nat)(h:n<256):IntKind.u8.wrap (n:Int)=n:=by
 simp[IntKind.wrap,IntKind.signed,IntKind.bits];omega
theorem uC(k:Nat)(n:Nat):BitVec.ofInt k (n:Int)=BitVec.ofNat k n:=by
 apply BitVec.eq_of_toNat_eq;simp[BitVec.toNat_ofInt]
theorem YG(a b:Nat)(ha:a<18446744073709551616)(hb:b<18446744073709551616):bits .xor .u64 (a:Int) (b:Int)=((a ^^^ b:Nat):Int):=by
 have h:a ^^^ b<2 ^ 64:=qL ha hb
 show IntKind.u64.wrap (((BitVec.ofInt 64 (a:Int) ^^^ BitVec.ofInt 64 (b:Int)).toNat:Nat):Int)=_
 rw[uC,uC];rw[BitVec.toNat_xor,ux,ux,xY (by omega),xY (by omega)];exact kr _ (by omega)
theorem Xh(a b:Nat)(ha:a<18446744073709551616)(hb:b<18446744073709551616):bits .and .u64 (a:Int) (b:Int)=((a &&& b:Nat):Int):=by
 have h:a &&& b<2 ^ 64:=Nat.and_lt_two_pow _ hb
 show IntKind.u64.wrap (((BitVec.ofInt 64 (a:Int) &&& BitVec.ofInt 64 (b:Int)).toNat:Nat):Int)=_
 rw[uC,uC];rw[BitVec.toNat_and,ux,ux,xY (by omega),xY (by omega)];exact kr _ (by omega)
theorem VW(a b:Nat)(ha:a<18446744073709551616)(hb:b<18446744073709551616):bits .or .u64 (a:Int) (b:Int)=((a ||| b:Nat):Int):=by
 have h:a ||| b<2 ^ 64:=Ze ha hb
 show IntKind.u64.wrap (((BitVec.ofInt 64 (a:Int) ||| BitVec.ofInt 64 (b:Int)).toNat:Nat):Int)=_
 rw[uC,uC];rw[BitVec.toNat_or,ux,ux,xY (by omega),xY (by omega)];exact kr _ (by omega)
theorem zc0(a b:Nat)(ha:a<256)(hb:b<256):bits .or .u8 (a:Int) (b:Int)=((a ||| b:Nat):Int):=by
 have h:a ||| b<2 ^ 8:=Ze ha hb
 show IntKind.u8.wrap (((BitVec.ofInt 8 (a:Int) ||| BitVec.ofInt 8 (b:Int)).toNat:Nat):Int)=_
 rw[uC,uC];rw[BitVec.toNat_or,ux,ux,xY (by omega),xY (by omega)];exact Qd _ (by omega)
theorem Jz(a b:Nat)(ha:a<256)(hb:b<256):bits .and .u8 (a:Int) (b:Int)=((a &&& b:Nat):Int):=by
 have h:a &&& b<2 ^ 8:=Nat.and_lt_two_pow _ hb
 show IntKind.u8.wrap (((BitVec.ofInt 8 (a:Int) &&& BitVec.ofInt 8 (b:Int)).toNat:Nat):Int)=_
 rw[uC,uC];rw[BitVec.toNat_and,ux,ux,xY (by omega),xY (by omega)];exact Qd _ (by omega)
theorem zgU(a b:Nat)(ha:a<256)(hb:b<256):bits .xor .u8 (a:Int) (b:Int)=((a ^^^ b:Nat):Int):=by
 have h:a ^^^ b<2 ^ 8:=qL ha hb
 show IntKind.u8.wrap (((BitVec.ofInt 8 (a:Int) ^^^ BitVec.ofInt 8 (b:Int)).toNat:Nat):Int)=_
 rw[uC,uC];rw[BitVec.toNat_xor,ux,ux,xY (by omega),xY (by omega)];exact Qd _ (by omega)
theorem Kr(a b c:Nat)(ha:a<18446744073709551616)(hb:b<18446744073709551616)(hc:c=18446744073709551615-b):bits .andNot .u64 (a:Int) (b:Int)=((a &&& c:Nat):Int):=by
 subst hc;have h:a &&& (18446744073709551615-b)<2 ^ 64:=jB Nat.and_le_left ha
 show IntKind.u64.wrap (((BitVec.ofInt 64 (a:Int) &&& ~~~ BitVec.ofInt 64 (b:Int)).toNat:Nat):Int)=_
 rw[uC,uC];rw[BitVec.toNat_and,BitVec.toNat_not,ux,ux,xY (a:=a) (by omega),xY (a:=b) (by omega)];exact kr _ (by simpa using h)
theorem zgZ:(if IntKind.u64.signed=true then(-1:Int)else IntKind.u64.max)=((18446744073709551615:Nat):Int):=by decide
theorem zjE:(if IntKind.u8.signed=true then(-1:Int)else IntKind.u8.max)=((255:Nat):Int):=by decide
theorem jp{p:List Bool}(h:p.length=8):zJ p<256:=by
 obtain⟨a,b,c,d,e,f,g,i,rfl⟩:=jZ h;have : ∀ a b c d e f g i:Bool,zJ [a,b,c,d,e,f,g,i]<256:=by decide +kernel
 exact this ..
theorem zjx{p:List Bool}(h:p.length=8):255 ^^^ zJ p=zJ (p.map not):=by
 obtain⟨a,b,c,d,e,f,g,i,rfl⟩:=jZ h;have : ∀ a b c d e f g i:Bool,255 ^^^ zJ [a,b,c,d,e,f,g,i]=zJ ([a,b,c,d,e,f,g,i].map not):=by decide +kernel
 exact this ..
theorem Je{p:List Bool}(h:p.length=8):decide (zJ p=0) = !p.any id:=by
 obtain⟨a,b,c,d,e,f,g,i,rfl⟩:=jZ h;have : ∀ a b c d e f g i:Bool,decide (zJ [a,b,c,d,e,f,g,i]=0) = !([a,b,c,d,e,f,g,i].any id):=by decide +kernel
 exact this ..
theorem zli{p:List Bool}(h:p.length=8):decide (zJ p=255)=p.all id:=by
 obtain⟨a,b,c,d,e,f,g,i,rfl⟩:=jZ h;have : ∀ a b c d e f g i:Bool,decide (zJ [a,b,c,d,e,f,g,i]=255)=([a,b,c,d,e,f,g,i].all id):=by decide +kernel
 exact this ..
theorem za2{p:List Bool}(h:p.length=8)(j:Nat)(hj:j<8):zJ p/2 ^ j &&& 1=(p.getD j false).toNat:=by
 obtain⟨a,b,c,d,e,f,g,i,rfl⟩:=jZ h;have : ∀ a b c d e f g i:Bool,∀ j<8,zJ [a,b,c,d,e,f,g,i]/2 ^ j &&& 1=([a,b,c,d,e,f,g,i].getD j false).toNat:=by decide +kernel
 exact this _ _ _ _ _ _ _ _ j hj
theorem JN : ∀(l:List Nat) (s t:Nat→Bool),zJ (l.map s) ||| zJ (l.map t)=zJ (l.map (fun c=>s c||t c))
 | [],_,_=>by simp[zJ]
 | c::l,s,t=>by
  simp only[List.map_cons,zJ];rw[← JN l s t];apply Zb;intro i;have hb : ∀ b:Bool,b.toNat<2 ^ 1:=fun b=>by cases b<;>decide
  have e : ∀(x:Nat) (b:Bool),2*x+b.toNat=2 ^ 1*x+b.toNat:=fun _ _=>rfl
  rw[Nat.testBit_or,e,e,e,ZH _ (hb _),ZH _ (hb _),ZH _ (hb _)];split
  ·have:i=0:=by omega
   subst this
   cases s c<;>cases t c<;>rfl
  ·rw[Nat.testBit_or]
def vF(m:Nat):List Nat:=(List.range 8).filter m.testBit
def jq(m:Nat):Nat:=(vF m).headD 8
theorem JL{p:List Bool}(h:p.length=8):vF (zJ p)=(List.range 8).filter (fun i=>p.getD i false):=by
 obtain⟨a,b,c,d,e,f,g,i,rfl⟩:=jZ h;have : ∀ a b c d e f g i:Bool,vF (zJ [a,b,c,d,e,f,g,i])=(List.range 8).filter (fun j=>[a,b,c,d,e,f,g,i].getD j false):=by decide +kernel
 exact this ..
theorem zf9 : ∀ m<256,m≠0→vF m=jq m::vF (m &&& (m-1))∧jq m<8∧m &&& (m-1)<m:=by decide +kernel
theorem zgt : ∀ m<256,jq m≤8:=by decide +kernel
theorem zd4:vF 0=[]:=by decide
theorem zdS{p:List Bool}(h:p.length=8):jq (zJ p)=p.findIdx id:=by
 obtain⟨a,b,c,d,e,f,g,i,rfl⟩:=jZ h;have : ∀ a b c d e f g i:Bool,jq (zJ [a,b,c,d,e,f,g,i])=[a,b,c,d,e,f,g,i].findIdx id:=by decide +kernel
 exact this ..
theorem zbp{l:List Nat}(h:l.length=8):zC l=zC ((List.range 8).map (fun i=>l.getD i 0)):=by
 obtain⟨a,b,c,d,e,f,g,i,rfl⟩:=jZ h
 rfl
theorem zkd : ∀ j<8,18446744073709551615-255*2 ^ (8*j)=zC ((List.range 8).map (fun i=>if i=j then 0 else 255)):=by decide +kernel
theorem zkN(b:Nat) : ∀ j<8,b*2 ^ (8*j)=zC ((List.range 8).map (fun i=>if i=j then b else 0)):=by
 intro j hj;have:j=0∨j=1∨j=2∨j=3∨j=4∨j=5∨j=6∨j=7:=by omega
 rcases this with rfl | rfl | rfl | rfl | rfl | rfl | rfl | rfl<;>simp[List.range_succ,zC]<;>omega
theorem zlc{l:List Nat}(h:vk l)(j b:Nat)(hj:j<8)(hb:b<256):(zC l &&& (18446744073709551615-255*2 ^ (8*j))) ||| b*2 ^ (8*j)=zC (l.set j b):=by
 have hg : ∀ i,l.getD i 0<256:=fun i=>by
  rw[ua]
  cases hi:l[i]? with
  | none=>simp
  | some c=>exact h.2 c (yl hi)
 rw[zkd j hj,zkN b j hj,zbp h.1,Qg _ _ _ (fun i _=>hg i) (fun i _=>by split<;>omega),
  K7 _ _ _ (fun i _=>jB Nat.and_le_left (hg i)) (fun i _=>by split<;>omega),zbp (l:=l.set j b) (by simp[h.1])]
 congr 1
 apply uu;intro i hi;have hi:i<8:=by simpa using hi
 have h255 : ∀ c<256,c &&& 255=c:=by decide +kernel
 simp only[List.getD_eq_getElem?_getD,List.getElem?_set];by_cases e:i=j
 ·subst e;simp[h.1,hj]
 ·rw[zh e,zh e,zh (fun x=>e x.symm),Nat.or_zero,h255 _ (by have:=hg i;rwa [ua]at this)]
theorem Qe(n:Nat):IntKind.u64.wrap (n:Int)=((n%18446744073709551616:Nat):Int):=by
 simp[IntKind.wrap,IntKind.signed,IntKind.bits]
theorem zbK(b r:Nat)(W:World)(hb:b<256)(hr:72340172838076673*b=r):Calls prog 288 #[.int .u8 b] W fun e w'=>e=.returned (.int .u64 r)∧W=w':=by
 subst hr;have h0:(0:Int)≤b:=by omega
 have h1:(b:Int)≤255:=by omega
 go_enter func288,ntmps288;go_wp2;go_ret;exact⟨by simp,rfl⟩
theorem zba(z m:Nat)(W:World)(hz:z<18446744073709551616)(hm:z/128*72624976668147840%18446744073709551616/72057594037927936%256=m) :
  Calls prog 363 #[.int .u64 z] W fun e w'=>e=.returned (.int .u8 m)∧W=w':=by
 have h0:(0:Int)≤z:=by omega
 have h1:(z:Int)≤18446744073709551615:=by omega
 go_enter func363,ntmps363;go_wp2;go_ret;refine⟨?_,rfl⟩;have e:IntKind.u64.wrap ((z:Int)/128*72624976668147840)/72057594037927936%256=(m:Int):=by
  rw[show(z:Int)/128*72624976668147840=((z/128*72624976668147840:Nat):Int) by simp,Qe,← hm];simp
 simp only[e]
 rfl
theorem J1{l:List Nat}(h:vk l)(b:Nat)(W:World)(hb:b<256):Calls prog 327 #[.int .u64 (zC l),.int .u8 b] W fun e w'=>e=.returned (.int .u8 (zJ (l.map (· == b))))∧W=w':=by
 have hl:=h.lt;have hs:=zgI h b hb;have em:=ziz h b hb;have hr:72340172838076673*b<18446744073709551616:=by omega
 have hb0:vk (l.map (fun c=>if c=b then 128 else 0)):=h.map (fun c _=>by split<;>omega);have hg:=QL (p:=l.map (· == b)) (by simp[h.1]);have hc:l.map (fun c=>if c=b then 128 else 0)=(l.map (· == b)).map (fun b=>if b then 128 else 0):=by rw[jP];apply uu;intro c _;simp
 rw[← hc]at hg;have hz:=hb0.lt;generalize zC l=w at *;generalize zJ (l.map (· == b))=m at *;generalize zC (l.map (fun c=>if c=b then 128 else 0))=z at *;generalize hrb:72340172838076673*b=r at *;have hx:w ^^^ r<18446744073709551616:=qL (n:=64) hl hr;have e1:=YG w r hl hr;generalize w ^^^ r=x at *;have e2:bits .and .u64 (x:Int) 9187201950435737471=((x &&& 9187201950435737471:Nat):Int):=Xh x 9187201950435737471 hx (by omega);generalize x &&& 9187201950435737471=y at *;have ew:IntKind.u64.wrap ((y:Int)+9187201950435737471)=((y+9187201950435737471:Nat):Int):=kr _ hs;generalize y+9187201950435737471=u at *;have e3:=VW u x hs hx;have ho:u ||| x<18446744073709551616:=Ze (n:=64) hs hx
 generalize u ||| x=v at *
 have e4:bits .or .u64 (v:Int) 9187201950435737471=((v ||| 9187201950435737471:Nat):Int):=VW v 9187201950435737471 ho (by omega);have hv:v ||| 9187201950435737471<18446744073709551616:=Ze (n:=64) ho (by omega)
 generalize v ||| 9187201950435737471=t at *
 have e5:bits .xor .u64 (if IntKind.u64.signed=true then(-1:Int)else IntKind.u64.max) (t:Int)=(z:Int):=by
  rw[zgZ,YG _ _ (by omega) hv,em]
 go_enter func327,ntmps327
 go_wp2_with (first | (go_at_call 288;refine zq (zbK b r _ hb hrb) ?_;rintro e w' ⟨rfl,rfl⟩) | (go_at_call 363;go_must (refine zq (zba z m _ hz hg) ?_);rintro e w' ⟨rfl,rfl⟩))
 go_ret;exact⟨rfl,rfl⟩
theorem zht{l:List Nat}(h:vk l)(W:World):Calls prog 362 #[.int .u64 (zC l)] W fun e w'=>e=.returned (.int .u8 (zJ (l.map (fun c=>decide (128≤c)))))∧W=w':=by
 have hl:=h.lt;have hw:=zh3 h;have hz:vk (l.map (fun c=>if decide (128≤c)then 128 else 0)):=h.map (fun c _=>by split<;>omega);have hg:=QL (p:=l.map (fun c=>decide (128≤c))) (by simp[h.1]);rw[← ze7 (fun c=>decide (128≤c))]at hg;have hz:=hz.lt;have e1:bits .andNot .u64 (zC l:Int) 9187201950435737471=_:=Kr (zC l) 9187201950435737471 9259542123273814144 hl (by omega) rfl;rw[hw]at e1;generalize zC l=w at *;generalize zJ (l.map (fun c=>decide (128≤c)))=m at *;generalize zC (l.map (fun c=>if decide (128≤c)then 128 else 0))=z at *;go_enter func362,ntmps362
 go_wp2_with (go_at_call 363;go_must (refine zq (zba z m _ hz hg) ?_);rintro e w' ⟨rfl,rfl⟩)
 go_ret;exact⟨rfl,rfl⟩
theorem zfm(s:ByteArray)(hs:s.size=256)(h : ∀ k (hk:k<256),wrap64 ((s[k]'(by omega)).toNat:Int)=jq k)(m:Nat)(hm:m<256)(hms:m<s.size):wrap64 ((s[m]'hms).toNat:Int)=jq m:=h m hm
theorem zdX(m:Nat)(W:World)(hm:m<256):Calls prog 345 #[.int .u8 m] W fun e w'=>e=.returned (.int .i64 (jq m))∧W=w':=by
 have h0:(0:Int)≤m:=by omega
 have h1:(m:Int)≤255:=by omega
 have h2:(m:Int)<256:=by omega
 go_enter func345,ntmps345;go_wp2;go_ret;exact⟨congrArg (fun x=>Ending.returned (.int .i64 x)) (zfm _ (by decide) (by decide +kernel) m hm _),rfl⟩
theorem zae(m:Nat)(W:World)(hm:m<256):Calls prog 305 #[.int .u8 m] W fun e w'=>e=.returned (.int .i64 (jq m))∧W=w':=by
 go_enter func305,ntmps305
 go_wp2_with (go_at_call 345;go_must (refine zq (zdX m _ hm) ?_);rintro e w' ⟨rfl,rfl⟩)
 go_ret;exact⟨rfl,rfl⟩
theorem zc1(j:Nat)(hj:j<8)(b:Nat)(hb:b<256):b*2 ^ (8*j)<18446744073709551616:=by
 have:2 ^ (8*j)≤2 ^ 56:=Zt (by decide) (by omega);have:b*2 ^ (8*j)≤255*2 ^ 56:=Nat.mul_le_mul (by omega) this;omega
theorem zb7{l:List Nat}(h:vk l)(j b:Nat)(W:World)(hj:j<8)(hb:b<256):Calls prog 326 #[.int .u64 (zC l),.int .i64 j,.int .u8 b] W fun e w'=>e=.returned (.tuple #[.int .u64 (zC (l.set j b)),.int .i64 0])∧w'=W.drew:=by
 have hl:=h.lt;have hw:=zlc h j b hj hb;have h0:(0:Int)≤j:=by omega
 have h1:(j:Int)<8:=by omega
 have h2 : ¬ ((8:Int)≤j):=by omega
 have hb0:(0:Int)≤b:=by omega
 have hb1:(b:Int)≤255:=by omega
 have k0:(0:Int)≤8*(j:Int):=by omega
 have k1:8*(j:Int)≤64:=by omega
 have k2:wrap64 (8*(j:Int))=8*(j:Int):=IntWalk.wrap64_in _ (by omega);have s0:=zc1 j hj 255 (by omega);have s1:=zc1 j hj b hb;have e1:IntKind.u64.wrap (255*2 ^ (8*j))=((255*2 ^ (8*j):Nat):Int):=by rw[← kr _ s0];simp
 have e2:IntKind.u64.wrap ((b:Int)*2 ^ (8*j))=((b*2 ^ (8*j):Nat):Int):=by rw[← kr _ s1];simp
 generalize b*2 ^ (8*j)=t at *;generalize 255*2 ^ (8*j)=s at *;generalize zC (l.set j b)=z at *;generalize zC l=w at *;have e3:=Kr w s _ hl s0 rfl;have hx:w &&& (18446744073709551615-s)<18446744073709551616:=jB Nat.and_le_left hl;generalize w &&& (18446744073709551615-s)=x at *;have e4:=VW x t hx s1;rw[hw]at e4;go_enter func326,ntmps326;go_wp2
 go_region
 go_wp2;go_ret2;exact⟨rfl,rfl⟩
def j8(l:List Nat):Prop:=l.length=8 ∧ ∀ c∈l,c<128∨c=128∨c=254
theorem j8.bytes{l:List Nat}(h:j8 l):vk l:=⟨h.1,fun c hc=>by have:=h.2 c hc;omega⟩
theorem zhP(W:World):Calls prog 237 #[] W fun e w'=>e=.returned (.int .u64 (zC [128,128,128,128,128,128,128,128]:Nat))∧W=w':=by
 have hq:=zbK 128 (zC [128,128,128,128,128,128,128,128]) W (by omega) (by rfl);generalize zC [128,128,128,128,128,128,128,128]=z at *;go_enter func237,ntmps237
 go_wp2_with (go_at_call 288;go_must (refine zq hq ?_);rintro e w' ⟨rfl,rfl⟩)
 go_ret;exact⟨rfl,rfl⟩
theorem zj9{l:List Nat}(h:vk l)(b:Nat)(W:World)(hb:b<128):Calls prog 292 #[.int .u64 (zC l),.int .u8 b] W fun e w'=>e=.returned (.int .u8 (zJ (l.map (· == b))))∧W=w':=by
 have h1 : ¬ ((127:Int)<b):=by omega
 go_enter func292,ntmps292
 go_wp2_with (go_at_call 327;go_must (refine zq (J1 h b _ (by omega)) ?_);rintro e w' ⟨rfl,rfl⟩)
 go_ret;exact⟨rfl,rfl⟩
theorem XP{l:List Nat}(h:vk l)(W:World):Calls prog 277 #[.int .u64 (zC l)] W fun e w'=>e=.returned (.int .u8 (zJ (l.map (· == 128))))∧W=w':=by
 go_enter func277,ntmps277
 go_wp2_with (go_at_call 327;go_must (refine zq (J1 h 128 _ (by omega)) ?_);rintro e w' ⟨rfl,rfl⟩)
 go_ret;exact⟨rfl,rfl⟩
theorem zbV{l:List Nat}(h:j8 l)(W:World):Calls prog 306 #[.int .u64 (zC l)] W fun e w'=>e=.returned (.int .u8 (zJ (l.map (fun c=>decide (128≤c)))))∧W=w':=by
 have e1:=zc0 (zJ (l.map (· == 128))) (zJ (l.map (· == 254))) (jp (by simp[h.1])) (jp (by simp[h.1]));rw[JN]at e1;have e2:l.map (fun c=>c==128||c==254)=l.map (fun c=>decide (128≤c)):=uu (fun c hc=>by have:=h.2 c hc;rw[Bool.eq_iff_iff];simp;omega);rw[e2]at e1;go_enter func306,ntmps306
 go_wp2_with (first | (go_at_call 277;go_must (refine zq (XP h.bytes _) ?_);rintro e w' ⟨rfl,rfl⟩) | (go_at_call 327;go_must (refine zq (J1 h.bytes 254 _ (by omega)) ?_);rintro e w' ⟨rfl,rfl⟩))
 go_ret;exact⟨rfl,rfl⟩
theorem JV{l:List Nat}(h:vk l)(W:World):Calls prog 325 #[.int .u64 (zC l)] W fun e w'=>e=.returned (.int .u8 (zJ (l.map (fun c=>decide (c<128)))))∧W=w':=by
 have hm:zJ (l.map (fun c=>decide (128≤c)))<256:=jp (by simp[h.1]);have e0:=zjx (p:=l.map (fun c=>decide (128≤c))) (by simp[h.1]);rw[jP,show(not ∘ fun c=>decide (128≤c))=(fun c:Nat=>decide (c<128)) by funext c;simp only[Function.comp];rw[Bool.eq_iff_iff];simp]at e0;have e1:bits .xor .u8 (if IntKind.u8.signed=true then(-1:Int)else IntKind.u8.max) (zJ (l.map (fun c=>decide (128≤c))):Int)=(zJ (l.map (fun c=>decide (c<128))):Int):=by rw[zjE,zgU _ _ (by omega) hm,e0]
 have hq:=zht h W;generalize zJ (l.map (fun c=>decide (128≤c)))=m at *;generalize zJ (l.map (fun c=>decide (c<128)))=z at *;go_enter func325,ntmps325
 go_wp2_with (go_at_call 362;go_must (refine zq hq ?_);rintro e w' ⟨rfl,rfl⟩)
 go_ret;exact⟨rfl,rfl⟩
theorem zdU{l:List Nat}(h:j8 l)(W:World):Calls prog 361 #[.int .u64 (zC l)] W fun e w'=>e=.returned (.bool true)∧W=w':=by
 have h1:=zbV h W;have h2:=JV h.bytes W;have e1:=zc0 (zJ (l.map (fun c=>decide (128≤c)))) (zJ (l.map (fun c=>decide (c<128)))) (jp (by simp[h.1])) (jp (by simp[h.1]));rw[JN]at e1;have e2:zJ (l.map (fun c=>decide (128≤c)||decide (c<128)))=255:=by
  have:=zli (p:=l.map (fun c=>decide (128≤c)||decide (c<128))) (by simp[h.1]);rw[show(l.map (fun c=>decide (128≤c)||decide (c<128))).all id=true by simp[List.all_map];intro c _;omega]at this;exact of_decide_eq_true this
 rw[e2]at e1;generalize zJ (l.map (fun c=>decide (128≤c)))=m at *;generalize zJ (l.map (fun c=>decide (c<128)))=z at *;go_enter func361,ntmps361
 go_wp2_with (first | (go_at_call 306;go_must (refine zq h1 ?_);rintro e w' ⟨rfl,rfl⟩) | (go_at_call 325;go_must (refine zq h2 ?_);rintro e w' ⟨rfl,rfl⟩))
 go_ret;exact⟨rfl,rfl⟩
theorem zaY{l:List Nat}(h:j8 l)(j:Nat)(W:World)(hj:j<8):Calls prog 324 #[.int .u64 (zC l),.int .i64 j] W fun e w'=>e=.returned (.int .i64 0)∧W=w':=by
 have hq:=zdU h W;have h0:(0:Int)≤j:=by omega
 have h1:(j:Int)<8:=by omega
 have h2 : ¬ ((8:Int)≤j):=by omega
 generalize zC l=w at *;go_enter func324,ntmps324
 go_wp2_with (go_at_call 361;go_must (refine zq hq ?_);rintro e w' ⟨rfl,rfl⟩)
 go_ret;exact⟨rfl,rfl⟩
theorem zld{l:List Nat}(h:j8 l)(j b:Nat)(W:World)(hj:j<8)(hb:b<128):Calls prog 307 #[.int .u64 (zC l),.int .i64 j,.int .u8 b] W fun e w'=>e=.returned (.tuple #[.int .u64 (zC (l.set j b)),.int .i64 0])∧w'=W.drew:=by
 have hq:=zaY h j W hj;have hw:=zb7 h.bytes j b W hj (by omega);have h1 : ¬ ((127:Int)<b):=by omega
 generalize zC (l.set j b)=z at *;generalize zC l=w at *;go_enter func307,ntmps307
 go_wp2_with (first | (go_at_call 324;go_must (refine zq hq ?_);rintro e w' ⟨rfl,rfl⟩) | (go_at_call 326;go_must (refine zq hw ?_);rintro e w' ⟨rfl,rfl⟩))
 go_ret2;exact⟨rfl,rfl⟩
def yL(l:List Nat):Nat:=if l.any (· == 128)then 128 else 254
theorem Azhy3 {P:Prop}(h:P:=by
 go_wp2_with (first | (go_at_call 324;go_must (refine zq hq ?_);rintro e w' ⟨rfl,rfl⟩) | (go_at_call 277;go_must (refine zq he ?_);rintro e w' ⟨rfl,rfl⟩) | (go_at_call 325;go_must (refine zq hf ?_);rintro e w' ⟨rfl,rfl⟩) | (go_at_call 326;go_must (refine zq hw ?_);rintro e w' ⟨rfl,rfl⟩))
 go_ret2;exact⟨rfl,rfl⟩):P:=h
theorem zfO{l:List Nat}(h:j8 l)(j c:Nat)(W:World)(hj:l[j]? = some c)(hc:c<128):Calls prog 276 #[.int .u64 (zC l),.int .i64 j] W fun e w'=>e=.returned (.tuple #[.int .u64 (zC (l.set j (yL l))),.int .i64 0])∧w'=W.drew:=by
 have hj8:j<8:=by have:=(zE.1 hj).1;have:=h.1;omega
 have hq:=zaY h j W hj8;have hw:=zb7 h.bytes j (yL l) W hj8 (by unfold yL;split<;>omega);have he:=XP h.bytes W;have hf:=JV h.bytes W;have hz:=Je (p:=l.map (· == 128)) (by simp[h.1]);have hlt:=jp (p:=l.map (fun c=>decide (c<128))) (by simp[h.1]);have hb:=za2 (p:=l.map (fun c=>decide (c<128))) (by simp[h.1]) j hj8;rw[show(l.map (fun c=>decide (c<128))).getD j false=true by simp[List.getD_eq_getElem?_getD,hj,hc]]at hb;have hd:zJ (l.map (fun c=>decide (c<128)))/2 ^ j<256:=jB (Y0 _ _) hlt;have e1:bits .and .u8 ((zJ (l.map (fun c=>decide (c<128))):Int)/2 ^ j) 1=1:=by
  have:=Jz _ 1 hd (by omega);rw[hb]at this;simpa using this
 have k0:(0:Int)≤j:=by omega
 have k1:(j:Int)≤8:=by omega
 generalize zJ (l.map (fun c=>decide (c<128)))=f at *;rw[show(l.map (· == 128)).any id=l.any (· == 128) by simp[List.any_map]]at hz;generalize zC (l.set j (yL l))=z at *;generalize zC l=w at *;unfold yL at hw
 cases ha:l.any (· == 128)with
 | true =>
  rw[ha]at hz hw;have hz:zJ (l.map (· == 128))≠0:=by simpa using hz
  generalize zJ (l.map (· == 128))=m at *;have hz2:((m:Int)==0)=false:=by simp[hz]
  go_enter func276,ntmps276;exact Azhy3
 | false =>
  rw[ha]at hz hw;have hz:zJ (l.map (· == 128))=0:=by simpa using hz
  rw[hz]at he;go_enter func276,ntmps276;exact Azhy3
end
end Go.Proofs.YtdohbogbnheakaaGreatDoor
