/- Lemmas and contracts of functions. No condition. -/
import Derived.Test.YtpplkcnknabofaaGreatDoorJPfCacheNone47
namespace Go.Proofs.YtpplkcnknabofaaGreatDoor
open _root_.Go.Proofs.Tryz
set_option maxRecDepth 100000
set_option maxHeartbeats 20000000
set_option linter.all false
section
open Go.RowKit Go.Shelf
section
variable{w w':World}
theorem zbc{q:Nat}{what T N cnt byt:Int}{key:ByteArray}{a:Option Addr}{n c:Nat}(h:w.heap[q]? = some (.cells #[.int .i64 what,.int .u64 T,.string key,.slice a n c,.int .u64 N,.int .i64 cnt,.int .i64 byt] 36 (0,0))) :
  Calls prog 11 #[.slice (some ⟨q,0,none⟩) 1 1,.int .i64 1] w fun e w'=>e=.returned (.bool (decide (key.size≤300∧n≤300)))∧w=w':=by
 have Z:=za h;clear h;obtain⟨fb,hfb⟩:=zc (decide (key.size≤300∧n≤300));rw[hfb];have HB:=za hfb;clear hfb;go_enter func11,ntmps11;go_upto_region 2 with fail
 go_loopw [5] (fun v5 wr=>(v5=.int .i64 0∨(v5=.int .i64 1∧key.size≤300∧n≤300))∧w=wr) (fun v5 _=>1-(intOf v5).toNat)
 case atStart=>exact⟨.inl rfl,rfl⟩
 case round =>
  obtain⟨hv,rfl⟩:=hrel;rcases hv with rfl | ⟨rfl,hk,hn⟩
  ·have hz:=Z.out;obtain⟨hz_0,hz_1,hz_2,hz_3,hz_4,hz_5,hz_6,hz_f,hz_l,H_hz⟩:=cr7 hz;clear hz;by_cases c1:300<key.size
   ·have c1':(300:Int)<(key.size:Int):=by omega
    obtain rfl:fb=false:=by rw[← HB.out];exact zQ (by omega)
    clear c1;go_wp2;go_ret;exact⟨rfl,rfl⟩
   ·have c1' : ¬ (300:Int)<(key.size:Int):=by omega
    by_cases c2:300<n
    ·have c2':(300:Int)<(n:Int):=by omega
     obtain rfl:fb=false:=by rw[← HB.out];exact zQ (by omega)
     clear c1 c2;go_wp2;go_ret;exact⟨rfl,rfl⟩
    ·have c2' : ¬ (300:Int)<(n:Int):=by omega
     have H1:=za c1;have H2:=za c2;clear c1 c2;go_wp2;go_roundw
     case rel=>exact⟨.inr ⟨rfl,Nat.not_lt.1 H1.out,Nat.not_lt.1 H2.out⟩,by trivial⟩
     case measure=>simp[intOf]
  ·have HK:=za hk;have HN:=za hn;obtain rfl:fb=true:=by rw[← HB.out];exact zL ⟨hk,hn⟩
   clear hk hn;go_wp2;go_ret;exact⟨by simp,rfl⟩
def ce0:CE:=⟨⟨#[]⟩,[],0,0⟩
variable{o:Option Addr}
theorem zlM(h:NoC w o)(t:Nat){key:ByteArray}(hk:key.size≤140737488355328):Calls prog 41 #[.pointer o,.int .u64 t,.string key,.string ⟨#[]⟩,.bool false,.int .i64 1] w fun e w'=>e=.returned (.bool true)∧zb w w' :=
 zcM (P:=fun W=>zb w W) (vs:=[]) ((zkh h t hk).mono (by rintro e W ⟨rfl,hq⟩;exact⟨none,0,0,rfl,zn.nil _ _,hq⟩))
theorem Azqpr {P:Prop}(h:P:=by
 rintro e W ⟨rfl,hq⟩;exact⟨none,0,0,rfl,zn.nil _ _,zn.nil _ _,hq.size,fun q _ h2=>hq.block q h2 (fun h=>h),hY.trans hq⟩):P:=h
theorem zf9(h:NoC w o)(t:Nat){key:ByteArray}(hk:key.size≤140737488355328):Calls prog 36 #[.pointer o,.int .u64 t,.string key,jE,.bool false,.int .i64 1] w fun e w'=>e=.returned (.bool true)∧zb w w':=by
 refine zcs (P:=fun W=>zb w W) (x:=ce0) (a2:=none) (n2:=0) (c2:=0) (fun _ _ h1 h2=>h1.trans h2) (fun Y hY => ?_);refine(zh0 (h.pure hY) t hk).mono ?_;exact Azqpr
theorem zig(h:NoC w o)(t above:Nat):Calls prog 44 #[.pointer o,.int .u64 t,.int .u64 above,jE,.bool false,.int .i64 1] w fun e w'=>e=.returned (.bool true)∧zb w w':=by
 refine zaC (P:=fun W=>zb w W) (x:=ce0) (a2:=none) (n2:=0) (c2:=0) (fun _ _ h1 h2=>h1.trans h2) (fun Y hY => ?_);refine(ziU (h.pure hY) t above).mono ?_;exact Azqpr
theorem ze1(h:NoC w o)(t ttl:Nat){key:ByteArray}(hk:key.size≤140737488355328):Calls prog 42 #[.pointer o,.int .u64 t,.string key,.int .u64 ttl,.bool false,.int .i64 1] w fun e w'=>e=.returned (.bool true)∧zb w w' :=
 zbC (P:=fun W=>zb w W) (ze6 h t ttl hk)
theorem zdQ(h:NoC w o)(t:Nat){key:ByteArray}(hk:key.size≤140737488355328):Calls prog 32 #[.pointer o,.int .u64 t,.string key,.bool false,.int .i64 1] w fun e w'=>e=.returned (.bool true)∧zb w w' :=
 zc0 (P:=fun W=>zb w W) (zfl h t hk)
theorem zho(h:NoC w o)(t:Nat):Calls prog 37 #[.pointer o,.int .u64 t,.int .i64 0,.int .i64 1] w fun e w'=>e=.returned (.bool true)∧zb w w' :=
 zci (P:=fun W=>zb w W) (zeM h t)
end
end
end Go.Proofs.YtpplkcnknabofaaGreatDoor
