/- Lemmas and contracts of functions. No condition. -/
import Derived.Test.YtpplkcnknabofaaGreatDoorJPfCacheNone43
namespace Go.Proofs.YtpplkcnknabofaaGreatDoor
open _root_.Go.Proofs.Tryz
set_option maxRecDepth 100000
set_option maxHeartbeats 20000000
set_option linter.all false
section
open Go.RowKit Go.Shelf
section
variable{Fo S:Nat→Prop}{w w':World}{b:CaB}{s:CaS}{p cost q0 q4:Nat}{key:ByteArray}{f v:Value}
def SnS(p d q0:Nat)(key:ByteArray)(v:Value)(Y:World):Prop:=Y.cell? ⟨q0,0,none⟩=some (lkP p)∧Y.cell? ⟨p,0,none⟩=some (yY d)∧Y.cell? ⟨q0+1,0,none⟩=some (.string key)∧Y.cell? ⟨q0+2,0,none⟩=some v
theorem zg6(h:zo Fo w b s)(hi:CaI NoP s){gf:Nat}{lf:Array Value}{a:Option Addr}{n c:Nat}(hc:StC w b.p key (.func (.func gf) #[] lf) (.slice a n c) cost q0 q4)(hnc:StN b.D q0 q4){vs:List UInt8}(hv:zn w (.slice a n c) 1 (zJ vs))(hvn : ∀ g,um (.slice a n c)=some g → ¬ b.D g)(hk0:0<key.size)(hk:key.size≤250)(hvl:vs.length≤65536)(hf:yH (zB s.L) key=none)(hcost:cost=key.size+vs.length+48){dl:Nat}(hdl:dl≤18446744073709551615)(hd:s.now<dl∨dl=18446744073709551615)(hn:(s.A++s.B).length≤1048576)(hl:s.L.length<4194304)(hb:s.births<18446744073709551615)
  (hr:kq s.now s.M s.L.length dl (s.births+1)=0)
  (eg : ∀ args w,(callFunc gf args).run prog w=.ok (.enter gf args) w) (hF : ∀ W,zb w W→Calls prog gf lf W (fun e w'=>e=.returned (.int .u64 dl)∧zb W w')) :
  Calls prog 149 (stA q0 q4) w (zc2 Fo w b s.L.length (jd s ⟨key,vs,dl,s.births+1⟩)):=by
 subst hcost;have hfv:uK (zB s.L) key=(0,9):=by unfold uK;rw[hf]
 have HFi:=za (fun(Y:World) (hY:zb w Y)=>VT (h.dict.pure hY) key (by omega));unfold ZQ at HFi;rw[hfv]at HFi;have hlE:(zB s.L).length=s.L.length:=by unfold zB;rw[yt]
 have hsn:s.L.length∉zA (s.A++s.B):=fun e=>by
  obtain⟨y,hy,e2⟩:=zI.1 e;obtain⟨q,h1,_⟩:=(hi.ab y).1 hy;have:=(zF.1 h1).1;omega
 have hsum:zv (s.A++s.B)≤1152922604118474752:=by
  have k3:zv (s.A++s.B)≤(s.A++s.B).length*1099511627776:=XD (fun x hx=>(hi.sg.rng x hx).2);have k4:(s.A++s.B).length*1099511627776≤1048576*1099511627776:=Xk _ hn;omega
 have HH:=za h;have HCC:=za hc;have HNC:=za hnc;have HV:=za hv;have HVN:=za hvn;have HVL:=za hvl;have HF:=za hF;have HFN:=za hf;have HU:=za hi.U;have HNN:=za hn;have HD64:=za hdl;have HK0:=za hk0;have HK:=za hk;have HL:=za hl;have HBB:=za hb;have HLE:=za hlE;have HSN:=za hsn;have HSU:=za hsum;have HR:=za hr;have HS:=za (fun(Y:World) (hY:zb w Y)=>(⟨zf Y q0 0 _ _ (0,0) (hY.heap (fun h=>h) hc.z0),zf Y b.p 0 _ _ (0,0) (hY.heap (fun h=>h) h.box),zf Y (q0+1) 0 _ _ (0,0) (hY.heap (fun h=>h) hc.z1)⟩:FdS b.p b.d q0 key Y));obtain⟨co,hco⟩:=zc (key.size+vs.length+48);have HCO:=za hco;rw[hco]at HCC;obtain⟨nb,hnb⟩:=zc (s.births+1);have HNB:=za hnb;obtain⟨sl,hsl⟩:=zc s.L.length;have HSL:=za hsl;rw[hnb,hsl]at HR;rw[hsl]at HLE HSN HL;rw[hnb,hsl];clear h hi hc hnc hv hvn hvl hk hk0 hf hdl hd hn hF hfv hco hnb hl hb hlE hsn hsum hr hsl;go_enter func149,ntmps149;go_upto_region 1 with fail
 refine rHd (S:=FdS b.p b.d q0 key) (HS.out _ (Mod.refl _ _).drew) (fun h_ => ?_);refine hLd 0 ?_;refine hTk 1 ?_;refine hTk 2 ?_;refine hTk 3 ?_;refine hLd 4 ?_;refine hLd 5 ?_
 (refine hSt 6 (fun K hK => ?_);go_simp;refine zm (HFi.out _ (Mod.refl _ _).drew) ?_;rintro e u1 ⟨rfl,hq1⟩;refine hK.out _ _ ?_ (fun h_ => ?_);(· exact HS.out _ ((Mod.refl (fun _=>False) w).drew.trans hq1));clear hK K;refine clA ?_)
 refine hTk 7 ?_;refine hTk 8 ?_;refine hTk 9 ?_;refine hTk 10 ?_;refine hTk 11 ?_;refine hDn ?_;clear h_;have hp1:zb w u1:=(Mod.refl (fun _=>False) w).drew.trans hq1;have HP1:=za hp1;have z3:=hp1.heap (fun h=>h) HCC.out.z3;have HFu:=za (HF.out _ hp1);clear hq1 hp1 HFi HS;obtain⟨z3_0,z3_f,z3_l,H_z3⟩:=cr1 z3;clear z3;go_upto_region 3 with(go_at_fn gf;refine HFu.out.mono ?_;rintro e u2 ⟨rfl,hp2⟩)
 clear z3_0 z3_f z3_l;clear H_z3;have HP2:=za (HP1.out.trans hp2);clear hp2 HP1 HFu HF;have z0:=HP2.out.heap (fun h=>h) HCC.out.z0;have C2:=HH.out.pure HP2.out;have hb2:=C2.box;have hnx:=zlX C2.ctr (by have:=HBB.out;omega);have e1:nxV s.births=(nb,0):=by unfold nxV;rw[zh (by have:=HBB.out;omega),HNB.out]
 have e2:nxS s.births=nb:=by unfold nxS;rw[zh (by have:=HBB.out;omega),HNB.out]
 unfold Ji at hnx;rw[e1,e2]at hnx;have HNx:=za hnx;have HC2:=za C2;clear C2 hnx e1 e2;obtain⟨hb2_0,hb2_1,hb2_2,hb2_3,hb2_4,hb2_5,hb2_6,hb2_7,hb2_8,hb2_9,hb2_10,hb2_f,hb2_l,H_hb2⟩:=yE hb2;clear hb2;obtain⟨z0_0,z0_f,z0_l,H_z0⟩:=cr1 z0;clear z0;go_upto_region 11 with(go_at_call 151;refine HNx.out.mono ?_;rintro e w3 ⟨rfl,hr3,hm3⟩)
 clear hb2_0 hb2_1 hb2_2 hb2_3 hb2_4 hb2_5 hb2_6 hb2_7 hb2_8 hb2_9 hb2_10 hb2_f hb2_l;clear z0_0 z0_f z0_l;clear H_hb2 H_z0;obtain⟨b3,C3,T3⟩ : ∃ b3,zo Fo w3 b3 {s with births:=nb}∧zr u2 w3 b b3:=⟨_,HC2.out.putCtr hr3 hm3,zr.ofCtr hm3⟩;have HCC3:=za ((HCC.out.pure HP2.out).mod T3.mod HNC.out);have HNC3:=za (HNC.out.to T3 (HCC.out.pure HP2.out));have hv2:=HV.out.frame HP2.out (fun _ _ h=>h);have HVN3:=za (fun g hg=>T3.nd (HVN.out g hg) (hv2.lt (by decide) hg));have HV3:=za (hv2.frame T3.mod HVN.out);have HC3:=za C3;have HT3:=za T3;clear hr3 hm3 C3 T3 HNx HC2 hv2
 -- the entry is laid in
 have hp4:zb w3 w3.drew:=(Mod.refl (fun _=>False) w3).drew;have hin:=ziX (HC3.out.pure hp4).dict (CE.ent ⟨key,vs,dl,nb⟩) ⟨HK0.out,HK.out,HVL.out,by have:=HNB.out;show(0:Int)<(nb:Int);omega⟩ (by rw[HLE.out];exact HL.out) HFN.out a n c (HV3.out.frame hp4 (fun _ _ h=>h));have e5:zB s.L++[some (CE.ent ⟨key,vs,dl,nb⟩)]=zB (s.L++[some ⟨key,vs,dl,nb⟩]):=by unfold zB;rw[xK];rfl
 unfold zdi at hin;dsimp only at hin;rw[HLE.out,e5]at hin;have HIN:=za hin;have hb3:=(HC3.out.pure hp4).box;rw[HT3.out.p]at hb3;have HS2:=za (⟨zf w3.drew q0 0 _ _ (0,0) (hp4.heap (fun h=>h) HCC3.out.z0),zf w3.drew b.p 0 _ _ (0,0) hb3,zf w3.drew (q0+1) 0 _ _ (0,0) (hp4.heap (fun h=>h) HCC3.out.z1),zf w3.drew (q0+2) 0 _ _ (0,0) (hp4.heap (fun h=>h) HCC3.out.z2)⟩:SnS b.p b3.d q0 key (.slice a n c) w3.drew);clear hin e5 hb3 hp4;refine rHd (S:=SnS b.p b3.d q0 key (.slice a n c)) HS2.out (fun h_ => ?_);refine hLd 0 ?_;refine hTk 1 ?_;refine hTk 2 ?_;refine hTk 3 ?_;refine hLd 4 ?_;refine hLd 5 ?_;refine hLd 6 ?_;refine hTk 7 ?_;refine hTk 8 ?_;refine hTk 9 ?_
 (refine hSt 10 (fun K hK => ?_);go_simp;refine HIN.out.mono ?_;rintro e u5 ⟨rfl,D5,hr5,hm5,hg5⟩;refine hK.out _ _ ?_ (fun h_ => ?_);(· exact⟨hm5.cell (a:=⟨q0,0,none⟩) (fun e=>HNC3.out.z0 (.inr (.inl e))) h_.1,hm5.cell (a:=⟨b.p,0,none⟩) (fun e=>by have e2:b3.cl b.p=2:=HC3.out.sep.d _ e;rw[← HT3.out.p,HC3.out.sep.p]at e2;cases e2) h_.2.1,hm5.cell (a:=⟨q0+1,0,none⟩) (fun e=>HNC3.out.z1 (.inr (.inl e))) h_.2.2.1,hm5.cell (a:=⟨q0+2,0,none⟩) (fun e=>HNC3.out.z2 (.inr (.inl e))) h_.2.2.2⟩);clear hK K;refine clA ?_)
 refine hTk 11 ?_;refine hTk 12 ?_;refine hTk 13 ?_;refine hTk 14 ?_;refine hDn ?_;clear h_;have hm5':Mod b3.Dd w3 u5:=Mod.trans' ((Mod.refl (fun _=>False) w3).drew) hm5 (fun _ _ h=>h.elim) (fun _ _ h=>h);obtain⟨b5,C5,T5⟩ : ∃ b5,zo Fo u5 b5 {s with births:=nb,L:=s.L++[some ⟨key,vs,dl,nb⟩]}∧zr w3 u5 b3 b5:=⟨_,HC3.out.putDict (L':=s.L++[some ⟨key,vs,dl,nb⟩]) hr5 hm5' hg5,zr.ofDict hm5' hg5⟩;have HTT5:=za (HT3.out.trans T5);have HCC5:=za (HCC3.out.mod T5.mod HNC3.out);have HNC5:=za (HNC3.out.to T5 HCC3.out);have hb64:nb≤18446744073709551615:=by have:=HNB.out;have:=HBB.out;omega
 have HDS:=za (C5.due.set (s:=sl) (dl:=dl) (b:=nb) (by have:=HL.out;omega) HD64.out hb64 HR.out);have hb5:=C5.box;rw[HTT5.out.p]at hb5;have z0:=HCC5.out.z0;have HC5:=za C5;clear hr5 hm5 hm5' hg5 C5 T5 HIN HS2 HC3 HV3 HVN3 HCC3 HNC3 hb64;obtain⟨hb5_0,hb5_1,hb5_2,hb5_3,hb5_4,hb5_5,hb5_6,hb5_7,hb5_8,hb5_9,hb5_10,hb5_f,hb5_l,H_hb5⟩:=yE hb5;clear hb5;obtain⟨z0_0,z0_f,z0_l,H_z0⟩:=cr1 z0;clear z0;go_upto_region 13 with(go_at_call 80;refine HDS.out.mono ?_;rintro e u6 ⟨rfl,⟨D6,hr6,hg6⟩,hm6⟩)
 clear hb5_0 hb5_1 hb5_2 hb5_3 hb5_4 hb5_5 hb5_6 hb5_7 hb5_8 hb5_9 hb5_10 hb5_f hb5_l;clear z0_0 z0_f z0_l;clear H_hb5 H_z0;obtain⟨b6,C6,T6⟩ : ∃ b6,zo Fo u6 b6 {s with births:=nb,L:=s.L++[some ⟨key,vs,dl,nb⟩],M:=u9 s.now s.M sl dl nb}∧zr u5 u6 b5 b6:=⟨_,HC5.out.putDue hr6 hm6 hg6,zr.ofDue hm6 hg6⟩;have HTT6:=za (HTT5.out.trans T6);have HCC6:=za (HCC5.out.mod T6.mod HNC5.out);have HNC6:=za (HNC5.out.to T6 HCC5.out);have HC6:=za C6;clear hr6 hg6 hm6 C6 T6 HDS HC5 HCC5 HNC5
 -- the order
 have hco2:co≤1099511627776:=by have:=HCO.out;have:=HK.out;have:=HVL.out;omega
 have HCO2:=za hco2;have hp7:zb u6 u6.drew:=(Mod.refl (fun _=>False) u6).drew;have HAd:=za (zj2 (HC6.out.pure hp7).order (x:=⟨sl,co⟩) HL.out hco2 HSN.out);have hb6:=(HC6.out.pure hp7).box;rw[HTT6.out.p]at hb6;have HS7:=za (⟨zf u6.drew q0 0 _ _ (0,0) (hp7.heap (fun h=>h) HCC6.out.z0),zf u6.drew b.p 2 _ _ (0,0) hb6,zf u6.drew q4 0 _ _ (0,0) (hp7.heap (fun h=>h) HCC6.out.z4)⟩:TcS b.p q0 2 q4 0 (lkP b6.o) (.int .i64 co) u6.drew);clear hb6 hp7 hco2;refine rHd (S:=TcS b.p q0 2 q4 0 (lkP b6.o) (.int .i64 co)) HS7.out (fun h_ => ?_);refine hLd 0 ?_;refine hTk 1 ?_;refine hTk 2 ?_;refine hTk 3 ?_;refine hLd 4 ?_;refine hTk 5 ?_;refine hLd 6 ?_
 (refine hSt 7 (fun K hK => ?_);go_simp;refine HAd.out.mono ?_;rintro e u7 ⟨rfl,⟨D7,hr7,hg7⟩,hm7⟩;refine hK.out _ _ ?_ (fun h_ => ?_);(· exact⟨hm7.cell (a:=⟨q0,0,none⟩) (fun e=>HNC6.out.z0 (.inr (.inr (.inr (.inl e))))) h_.1,hm7.cell (a:=⟨b.p,2,none⟩) (fun e=>by have e2:b6.cl b.p=4:=HC6.out.sep.o _ e;rw[← HTT6.out.p,HC6.out.sep.p]at e2;cases e2) h_.2.1,hm7.cell (a:=⟨q4,0,none⟩) (fun e=>HNC6.out.z4 (.inr (.inr (.inr (.inl e))))) h_.2.2⟩);clear hK K;refine clA ?_)
 refine hDn ?_;clear h_;have hm7':Mod b6.Do u6 u7:=Mod.trans' ((Mod.refl (fun _=>False) u6).drew) hm7 (fun _ _ h=>h.elim) (fun _ _ h=>h);obtain⟨b7,C7,T7⟩ : ∃ b7,zo Fo u7 b7 {s with births:=nb,L:=s.L++[some ⟨key,vs,dl,nb⟩],M:=u9 s.now s.M sl dl nb,A:=s.A++[⟨sl,co⟩]}∧zr u6 u7 b6 b7:=⟨_,HC6.out.putOrder hr7 hm7' hg7,zr.ofOrder hm7' hg7⟩;have HTT7:=za (HTT6.out.trans T7);have HCC7:=za (HCC6.out.mod T7.mod HNC6.out);have HNC7:=za (HNC6.out.to T7 HCC6.out);have HC7:=za C7;clear hr7 hg7 hm7 hm7' C7 T7 HAd HS7 HC6 HCC6 HNC6;go_upto_region 14 with fail
 have hp8:zb u7 u7.drew:=(Mod.refl (fun _=>False) u7).drew;have hbu:=(HC7.out.pure hp8).used;dsimp only at hbu;rw[HU.out]at hbu;have HBa:=za (zcS hbu (tg:=0) (x:=⟨sl,co⟩) (by omega) HCO2.out (by have:=HNN.out;omega) HSU.out);have hb7:=(HC7.out.pure hp8).box;rw[HTT7.out.p]at hb7;have HS8:=za (⟨zf u7.drew q0 0 _ _ (0,0) (hp8.heap (fun h=>h) HCC7.out.z0),zf u7.drew b.p 3 _ _ (0,0) hb7,zf u7.drew q4 0 _ _ (0,0) (hp8.heap (fun h=>h) HCC7.out.z4)⟩:TcS b.p q0 3 q4 0 (buP b7.u) (.int .i64 co) u7.drew);clear hb7 hp8 hbu;refine rHd (S:=TcS b.p q0 3 q4 0 (buP b7.u) (.int .i64 co)) HS8.out (fun h_ => ?_);refine hLd 0 ?_;refine hTk 1 ?_;refine hTk 2 ?_;refine hTk 3 ?_;refine hLd 4 ?_;refine hLd 5 ?_
 (refine hSt 6 (fun K hK => ?_);go_simp;refine HBa.out.mono ?_;rintro e u8 ⟨rfl,hr8,hm8⟩;refine hK.out _ _ ?_ (fun h_ => ?_);(· exact⟨hm8.cell (a:=⟨q0,0,none⟩) (fun e=>HNC7.out.z0 (.inr (.inr (.inr (.inr (.inl e)))))) h_.1,hm8.cell (a:=⟨b.p,3,none⟩) (fun e=>by have e3:b.p=b7.u:=e;have e2:=HC7.out.sep.u;rw[← e3,← HTT7.out.p,HC7.out.sep.p]at e2;cases e2) h_.2.1,hm8.cell (a:=⟨q4,0,none⟩) (fun e=>HNC7.out.z4 (.inr (.inr (.inr (.inr (.inl e)))))) h_.2.2⟩);clear hK K;refine clA ?_)
 refine hDn ?_;clear h_;have hm8':Mod (fun k=>k=b7.u) u7 u8:=Mod.trans' ((Mod.refl (fun _=>False) u7).drew) hm8 (fun _ _ h=>h.elim) (fun _ _ h=>h);have HC8:=za (HC7.out.putUsed hr8 hm8');have HT8:=za (HTT7.out.trans (zr.ofUsed hm8'));clear hr8 hm8 hm8' HC7 HCC7 HNC7;go_wp2;go_ret;refine⟨rfl,b7,?_,(zr.pure HP2.out).trans HT8.out⟩;unfold jd;have ez:(⟨key,vs,dl,nb⟩:CE).cost=co:=HCO.out;rw[ez,HSL.out];exact HC8.out
end
section
variable{Fo S:Nat→Prop}{w w':World}{b:CaB}{s:CaS}{p cost q0 q4:Nat}{key:ByteArray}
def kK(cost:Nat)(bytes:Int):Int:=if (cost:Int)≤bytes then 0 else 12
theorem zbb(cost:Nat)(bytes:Int)(W:World):Calls prog 77 #[.bool (decide ((cost:Int)≤bytes)),.int .i64 12] W fun e w'=>e=.returned (.int .i64 (kK cost bytes))∧W=w':=by
 have h:=Vy (decide ((cost:Int)≤bytes)) 12 W;have e:(if decide ((cost:Int)≤bytes)=true then(0:Int)else 12)=kK cost bytes:=by
  unfold kK;by_cases c:(cost:Int)≤bytes
  ·rw[zk c,zk (by simpa using c)]
  ·rw[zh c,zh (by simpa using c)]
 rw[e]at h;exact h
def setE(s:CaS)(ks n:Nat):Int:=yW [vi ks n 1,kK (uh ks n) s.cfg.bytes,yU s]
def SeS(p q0 q4 cost:Nat)(bytes:Int)(Y:World):Prop:=Y.cell? ⟨q0,0,none⟩=some (lkP p)∧Y.cell? ⟨q4,0,none⟩=some (.int .i64 cost)∧Y.cell? ⟨p,7,none⟩=some (.int .i64 bytes)
def Ky(Fo:Nat→Prop)(w:World)(b:CaB)(s':CaS)(e:Ending)(w':World):Prop:=e=.returned (.int .i64 0) ∧ ∃ b',zo Fo w' b' s'∧zr w w' b b'
theorem zhi(h:zo Fo w b s)(t:Nat){gf:Nat}{lf:Array Value}(hev:s.evs.length≤1048576)(hk:key.size≤140737488355328){a:Option Addr}{n c:Nat}(hn:n≤140737488355328){er:Int}(he:setE s key.size n=er)(h0:er≠0) :
  Calls prog 65 #[lkP b.p,.int .u64 t,.string key,.slice a n c,.func (.func gf) #[] lf] w fun e w'=>e=.returned (.int .i64 er)∧zb w w':=by
 have hp0:zb w ((((w.alloc (.cells #[lkP b.p] 30)).alloc (.cells #[.string key] 9)).alloc (.cells #[.slice a n c] 34)).alloc (.cells #[.func (.func gf) #[] lf] 59)):=((((Mod.refl _ w).alloc _).alloc _).alloc _).alloc _;have hb0:=zz (o := .cells #[.func (.func gf) #[] lf] 59) (zz (o := .cells #[.slice a n c] 34) (zz (o := .cells #[.string key] 9) (zi (w:=w) (o := .cells #[lkP b.p] 30 (0,0)) rfl)));have hb1:=zz (o := .cells #[.func (.func gf) #[] lf] 59) (zz (o := .cells #[.slice a n c] 34) (zi (w:=w.alloc (.cells #[lkP b.p] 30)) (o := .cells #[.string key] 9 (0,0)) (n:=w.heap.size+1) (by simp)));have hb2:=zz (o := .cells #[.func (.func gf) #[] lf] 59) (zi (w:=(w.alloc (.cells #[lkP b.p] 30)).alloc (.cells #[.string key] 9)) (o := .cells #[.slice a n c] 34 (0,0)) (n:=w.heap.size+2) (by simp));have HCo:=za (fun W=>JP key a n c W hk hn);obtain⟨co,hco⟩:=zc (uh key.size n);obtain⟨ee,hee⟩:=zc (vi key.size n 1);obtain⟨be,hbe⟩:=zc (kK co s.cfg.bytes);rw[hco,hee]at HCo;unfold setE at he;rw[hco,hee,hbe]at he;have HBg:=za (fun W=>zbb co s.cfg.bytes W);rw[hbe]at HBg;have hc:=Qb h ee be hev;rw[he]at hc;have HC:=za hc;have HN:=za (fun(Y:World) (hY:zb w Y)=>kG (h.pure hY));have HBX:=za (fun(Y:World) (hY:zb w Y)=>zf Y b.p 7 _ _ (0,0) (hY.heap (fun h=>h) h.box));have hne:(er != 0)=true:=by simpa using h0
 obtain⟨by_,hby⟩:=zc s.cfg.bytes;rw[hby]at HBg HBX;obtain⟨bb,hbb⟩:=zc (decide ((co:Int)≤by_));rw[hbb]at HBg;clear h hev hc he h0 hco hee hbe hk hn hby;go_enter func65,ntmps65;go_upto_region 1 with fail
 generalize(((w.alloc (.cells #[lkP b.p] 30)).alloc (.cells #[.string key] 9)).alloc (.cells #[.slice a n c] 34)).alloc (.cells #[.func (.func gf) #[] lf] 59)=W1 at *;obtain⟨n0,hn0⟩:=zc w.heap.size;rw[hn0]at hb0 hb1 hb2 ⊢;rw[show n0+1+1=n0+2 from rfl];clear hn0;have HB0:=za hb0;have HP0:=za hp0;clear hb0 hp0;obtain⟨hb1_0,hb1_f,hb1_l,H_hb1⟩:=cr1 hb1;clear hb1;obtain⟨hb2_0,hb2_f,hb2_l,H_hb2⟩:=cr1 hb2;clear hb2;go_upto_region 2 with(go_at_call 124;refine(HCo.out _).mono ?_;rintro e w2 ⟨rfl,hp2⟩)
 clear hb1_0 hb1_f hb1_l;clear hb2_0 hb2_f hb2_l;clear H_hb1 H_hb2;have hal:zb w2 (w2.alloc (.cells #[.int .i64 co] 3)):=(Mod.refl _ w2).alloc _;have hbc:=zi (w:=w2) (o := .cells #[.int .i64 co] 3 (0,0)) rfl;have hp3:=hp2.trans hal;generalize w2.alloc (.cells #[.int .i64 co] 3)=W3 at *;obtain⟨q4,hq4⟩:=zc w2.heap.size;rw[hq4]at hbc ⊢;clear hq4 hal;have HP3:=za (HP0.out.trans hp3);have HS:=za (fun(Y:World) (hY:zb W3 Y)=>(⟨zf Y n0 0 _ _ (0,0) (hY.heap (fun h=>h) (hp3.heap (fun h=>h) HB0.out)),zf Y q4 0 _ _ (0,0) (hY.heap (fun h=>h) hbc),HBX.out Y (HP3.out.trans hY)⟩:SeS b.p n0 q4 co by_ Y));have hd3:zb W3 W3.drew:=(Mod.refl (fun _=>False) W3).drew;have HD3:=za hd3;clear hbc hp2 hp3 hd3;refine rHd (S:=SeS b.p n0 q4 co by_) (HS.out _ HD3.out) (fun h_ => ?_);refine hLd 0 ?_;refine hTk 1 ?_;refine hLd 2 ?_
 (refine hSt 3 (fun K hK => ?_);go_simp;refine(HN.out _ (HP3.out.trans HD3.out)).mono ?_;rintro e u1 ⟨rfl,rfl⟩;refine hK.out _ _ ?_ (fun h_ => ?_);(· exact HS.out _ HD3.out);clear hK K;refine clA ?_)
 refine hTk 4 ?_;refine hLd 5 ?_;refine hLd 6 ?_;refine hTk 7 ?_;refine hTk 8 ?_;refine hTk 9 ?_;refine hLd 10 ?_;refine hTk 11 ?_;refine hTk 12 ?_
 (refine hSt 13 (fun K hK => ?_);go_simp;(try rw[hbb]);refine(HBg.out _).mono ?_;rintro e u1 ⟨rfl,rfl⟩;refine hK.out _ _ ?_ (fun h_ => ?_);(· exact HS.out _ HD3.out);clear hK K;refine clA ?_)
 (refine hSt 14 (fun K hK => ?_);go_simp;refine hK.out _ _ ?_ (fun h_ => ?_);(· exact HS.out _ (HD3.out.trans ((Mod.refl _ _).alloc _)));clear hK K;refine clA ?_)
 (refine hSt 15 (fun K hK => ?_);go_simp;refine(HC.out _ (HP3.out.trans HD3.out)).mono ?_;rintro e u2 ⟨rfl,hq2⟩;refine hK.out _ _ ?_ (fun h_ => ?_);(· exact HS.out _ (HD3.out.trans hq2));clear hK K;refine clA ?_)
 refine hTk 16 ?_;refine hDn ?_;clear h_;have HP5:=za (HP3.out.trans (HD3.out.trans hq2));clear hq2 HC HS;go_wp2;go_ret;exact⟨rfl,HP5.out⟩
theorem zab(h:zo Fo w b s)(t:Nat){gf:Nat}{lf:Array Value}(hev:s.evs.length≤1048576)(hk:key.size≤140737488355328){a:Option Addr}{n c:Nat}(hn:n≤140737488355328)(he:setE s key.size n=0)(hbt:s.births<18446744073709551615){s9:CaS}
    (hR : ∀(Y:World) (q0 q4:Nat),zb w Y→StC Y b.p key (.func (.func gf) #[] lf) (.slice a n c) (uh key.size n) q0 q4→w.heap.size≤q0→w.heap.size≤q4→Calls prog 82 #[lkP b.p,.int .u64 t,.func (.func 149) #[] (stA q0 q4)] Y (Zi Fo Y b s9)) :
    Calls prog 65 #[lkP b.p,.int .u64 t,.string key,.slice a n c,.func (.func gf) #[] lf] w (Ky Fo w b s9):=by
  have hp0:zb w ((((w.alloc (.cells #[lkP b.p] 30)).alloc (.cells #[.string key] 9)).alloc (.cells #[.slice a n c] 34)).alloc (.cells #[.func (.func gf) #[] lf] 59)):=((((Mod.refl _ w).alloc _).alloc _).alloc _).alloc _;have hb0:=zz (o := .cells #[.func (.func gf) #[] lf] 59) (zz (o := .cells #[.slice a n c] 34) (zz (o := .cells #[.string key] 9) (zi (w:=w) (o := .cells #[lkP b.p] 30 (0,0)) rfl)));have hb1:=zz (o := .cells #[.func (.func gf) #[] lf] 59) (zz (o := .cells #[.slice a n c] 34) (zi (w:=w.alloc (.cells #[lkP b.p] 30)) (o := .cells #[.string key] 9 (0,0)) (n:=w.heap.size+1) (by simp)));have hb2:=zz (o := .cells #[.func (.func gf) #[] lf] 59) (zi (w:=(w.alloc (.cells #[lkP b.p] 30)).alloc (.cells #[.string key] 9)) (o := .cells #[.slice a n c] 34 (0,0)) (n:=w.heap.size+2) (by simp));have hb3:=zi (w:=((w.alloc (.cells #[lkP b.p] 30)).alloc (.cells #[.string key] 9)).alloc (.cells #[.slice a n c] 34)) (o := .cells #[.func (.func gf) #[] lf] 59 (0,0)) (n:=w.heap.size+3) (by simp);have HCo:=za (fun W=>JP key a n c W hk hn);have HRn:=za hR;obtain⟨co,hco⟩:=zc (uh key.size n);obtain⟨ee,hee⟩:=zc (vi key.size n 1);obtain⟨be,hbe⟩:=zc (kK co s.cfg.bytes);rw[hco,hee]at HCo;rw[hco]at HRn;unfold setE at he;rw[hco,hee,hbe]at he;have HBg:=za (fun W=>zbb co s.cfg.bytes W);rw[hbe]at HBg;have hc:=Qb h ee be hev;rw[he]at hc;have HC:=za hc;have HN:=za (fun(Y:World) (hY:zb w Y)=>kG (h.pure hY));have HBX:=za (fun(Y:World) (hY:zb w Y)=>zf Y b.p 7 _ _ (0,0) (hY.heap (fun h=>h) h.box));have HLa:=za (fun(Y:World) (hY:zb w Y)=>zbE (h.pure hY).ctr);have HBo:=za (fun(Y:World) (hY:zb w Y)=>hY.heap (fun h=>h) h.box);obtain⟨by_,hby⟩:=zc s.cfg.bytes;rw[hby]at HBg HBX;obtain⟨bb,hbb⟩:=zc (decide ((co:Int)≤by_));rw[hbb]at HBg;obtain⟨nb,hnb⟩:=zc s.births;rw[hnb]at HLa hbt;have hne:((nb:Int)==18446744073709551615)=false:=by rw[uE];omega
  clear h hev hc he hco hee hbe hk hn hby hbt hR hnb;go_enter func65,ntmps65;go_upto_region 1 with fail
  generalize(((w.alloc (.cells #[lkP b.p] 30)).alloc (.cells #[.string key] 9)).alloc (.cells #[.slice a n c] 34)).alloc (.cells #[.func (.func gf) #[] lf] 59)=W1 at *;obtain⟨n0,hn0⟩:=zc w.heap.size;have HN0:=za hn0;rw[hn0]at hb0 hb1 hb2 hb3 ⊢;rw[show n0+1+1=n0+2 from rfl];clear hn0;have HB0:=za hb0;have HP0:=za hp0;have HB1:=za hb1;have HB2:=za hb2;have HB3:=za hb3;clear hb0 hp0 hb3;obtain⟨hb1_0,hb1_f,hb1_l,H_hb1⟩:=cr1 hb1;clear hb1;obtain⟨hb2_0,hb2_f,hb2_l,H_hb2⟩:=cr1 hb2;clear hb2;go_upto_region 2 with(go_at_call 124;refine(HCo.out _).mono ?_;rintro e w2 ⟨rfl,hp2⟩)
  clear hb1_0 hb1_f hb1_l;clear hb2_0 hb2_f hb2_l;clear H_hb1 H_hb2;have hal:zb w2 (w2.alloc (.cells #[.int .i64 co] 3)):=(Mod.refl _ w2).alloc _;have hbc:=zi (w:=w2) (o := .cells #[.int .i64 co] 3 (0,0)) rfl;have hp3:=hp2.trans hal;generalize w2.alloc (.cells #[.int .i64 co] 3)=W3 at *;obtain⟨q4,hq4⟩:=zc w2.heap.size;have HQ4:=za (show n0≤q4 by have:=(HP0.out.trans hp2).size;have:=HN0.out;omega);rw[hq4]at hbc ⊢;clear hq4 hal;have HP3:=za (HP0.out.trans hp3);have HSt:=za (⟨hp3.heap (fun h=>h) HB0.out,hp3.heap (fun h=>h) HB1.out,hp3.heap (fun h=>h) HB2.out,hp3.heap (fun h=>h) HB3.out,hbc⟩:StC W3 b.p key (.func (.func gf) #[] lf) (.slice a n c) co n0 q4);have HS:=za (fun(Y:World) (hY:zb W3 Y)=>(⟨zf Y n0 0 _ _ (0,0) (hY.heap (fun h=>h) (hp3.heap (fun h=>h) HB0.out)),zf Y q4 0 _ _ (0,0) (hY.heap (fun h=>h) hbc),HBX.out Y (HP3.out.trans hY)⟩:SeS b.p n0 q4 co by_ Y));have hd3:zb W3 W3.drew:=(Mod.refl (fun _=>False) W3).drew;have HD3:=za hd3;clear hbc hp2 hp3 hd3 HB1 HB2 HB3;refine rHd (S:=SeS b.p n0 q4 co by_) (HS.out _ HD3.out) (fun h_ => ?_);refine hLd 0 ?_;refine hTk 1 ?_;refine hLd 2 ?_
  (refine hSt 3 (fun K hK => ?_);go_simp;refine(HN.out _ (HP3.out.trans HD3.out)).mono ?_;rintro e u1 ⟨rfl,rfl⟩;refine hK.out _ _ ?_ (fun h_ => ?_);(· exact HS.out _ HD3.out);clear hK K;refine clA ?_)
  refine hTk 4 ?_;refine hLd 5 ?_;refine hLd 6 ?_;refine hTk 7 ?_;refine hTk 8 ?_;refine hTk 9 ?_;refine hLd 10 ?_;refine hTk 11 ?_;refine hTk 12 ?_
  (refine hSt 13 (fun K hK => ?_);go_simp;(try rw[hbb]);refine(HBg.out _).mono ?_;rintro e u1 ⟨rfl,rfl⟩;refine hK.out _ _ ?_ (fun h_ => ?_);(· exact HS.out _ HD3.out);clear hK K;refine clA ?_)
  (refine hSt 14 (fun K hK => ?_);go_simp;refine hK.out _ _ ?_ (fun h_ => ?_);(· exact HS.out _ (HD3.out.trans ((Mod.refl _ _).alloc _)));clear hK K;refine clA ?_)
  (refine hSt 15 (fun K hK => ?_);go_simp;refine(HC.out _ (HP3.out.trans HD3.out)).mono ?_;rintro e u2 ⟨rfl,hq2⟩;refine hK.out _ _ ?_ (fun h_ => ?_);(· exact HS.out _ (HD3.out.trans hq2));clear hK K;refine clA ?_)
  refine hTk 16 ?_;refine hDn ?_;clear h_;have hp4:zb W3 u2:=HD3.out.trans hq2;have HP5:=za (HP3.out.trans hp4);have z0:=hp4.heap (fun h=>h) HSt.out.z0;have hb5:=HBo.out _ HP5.out;have HLa5:=za (HLa.out _ HP5.out);have HRn5:=za (HRn.out u2 n0 q4 HP5.out (HSt.out.pure hp4) (Nat.le_of_eq HN0.out) (by have:=HN0.out;have:=HQ4.out;omega));clear hq2 HC HS hp4 HRn;obtain⟨z0_0,z0_f,z0_l,H_z0⟩:=cr1 z0;clear z0;obtain⟨hb5_0,hb5_1,hb5_2,hb5_3,hb5_4,hb5_5,hb5_6,hb5_7,hb5_8,hb5_9,hb5_10,hb5_f,hb5_l,H_hb5⟩:=yE hb5;clear hb5
  go_wp2_with (first
    | (go_at_call 64;refine HLa5.out.mono ?_;rintro e w6 ⟨rfl,rfl⟩)
    | (go_at_call 82;refine HRn5.out.mono ?_;rintro e w7 ⟨rfl,b7,C7,T7⟩))
  go_ret;exact⟨rfl,b7,C7,(zr.pure HP5.out).trans T7⟩
theorem Az1d3 {P:Prop}(h:P:=by
 rintro e w' ⟨rfl,b2,k1,k2⟩;exact⟨_,_,b2,fun _=>True,rfl,k1,k2.toX,hR,trivial,fun _ _ _ _ _ _=>trivial,fun _ _=>⟨rfl,rfl⟩⟩):P:=h
theorem zkC(h:zo Fo w b s){t:Nat}(ht:t≤18446744073709551615)(hev:s.evs.length≤1048576){gf:Nat}{lf:Array Value}{a:Option Addr}{n c:Nat}(he:setE s key.size n=0)(hbt:s.births<18446744073709551615)(hlv:xz 1 (tmS s t) (yD s t))(hi:CaI NoP (zj s t)){vs:List UInt8}(hv:zn w (.slice a n c) 1 (zJ vs))(hvn : ∀ g,um (.slice a n c)=some g → ¬ b.D g)(hk0:0<key.size)(hk:key.size≤250)(hvl:vs.length≤65536)(hco:uh key.size n=key.size+vs.length+48)(hf:yH (zB (zj s t).L) key=none){dl:Nat}(hdl:dl≤18446744073709551615)(hd:(zj s t).now<dl∨dl=18446744073709551615)(hn:((zj s t).A++(zj s t).B).length≤1048576)(hl:(zj s t).L.length<4194304)(hbs:(zj s t).births=s.births)(hr:kq (zj s t).now (zj s t).M (zj s t).L.length dl ((zj s t).births+1)=0)(hR:xX (jd (zj s t) ⟨key,vs,dl,(zj s t).births+1⟩) (zj s t).L.length)
  (eg : ∀ args w,(callFunc gf args).run prog w=.ok (.enter gf args) w) (hF : ∀ W b1,zo Fo W b1 (zj s t)→zr w W b b1→Calls prog gf lf W (fun e w'=>e=.returned (.int .u64 dl)∧zb W w')) :
  Calls prog 65 #[lkP b.p,.int .u64 t,.string key,.slice a n c,.func (.func gf) #[] lf] w (Ky Fo w b (pkS (evS (jd (zj s t) ⟨key,vs,dl,(zj s t).births+1⟩) (zj s t).L.length))):=by
 have hnl:n=vs.length:=by have:=jo hv;rw[uP]at this;omega
 refine zab h t hev (by omega) (by omega) he hbt (fun Y q0 q4 hY hSt l0 l4 => ?_);have hnn:StN b.D q0 q4:=⟨fun e=>by have:=h.lt e;omega,fun e=>by have:=h.lt e;omega,fun e=>by have:=h.lt e;omega,fun e=>by have:=h.lt e;omega,fun e=>by have:=h.lt e;omega⟩;refine(YO (h.pure hY) ht hlv (X:=fun _=>False) (fun k hk=>hk.elim) (enters_of func149 (by kernel_rfl) rfl) (QE:=fun keep s2 _=>keep=(zj s t).L.length∧s2=jd (zj s t) ⟨key,vs,dl,(zj s t).births+1⟩) (fun W b1 hC hT => ?_)).mono ?_
 ·have hT0:zr w W b b1:=(zr.pure hY).trans hT;refine(zg6 hC hi (key:=key) (hc:=by rw[hT.p];exact hSt.mod hT.mod hnn) (hnn.to hT hSt) ((hv.frame hY (fun _ _ h=>h)).frame hT.mod hvn) (fun g hg=>hT0.nd (hvn g hg) (hv.lt (by decide) hg)) hk0 hk hvl hf hco hdl hd hn hl (by rw[hbs];exact hbt) hr eg (fun Z hZ=>hF Z b1 (hC.pure hZ) (hT0.trans (zr.pure hZ)))).mono ?_;exact Az1d3
 ·rintro e w' ⟨rfl,keep,s2,b',hC,hT,rfl,rfl⟩;exact⟨rfl,b',hC,hT.none⟩
theorem zjY(h:zo Fo w b s){t:Nat}(ht:t≤18446744073709551615)(hev:s.evs.length≤1048576){gf:Nat}{lf:Array Value}{a:Option Addr}{n c:Nat}(he:setE s key.size n=0)(hbt:s.births<18446744073709551615)(hlv:xz 1 (tmS s t) (yD s t))(hi:CaI NoP (zj s t)){vs:List UInt8}(hv:zn w (.slice a n c) 1 (zJ vs))(hvn : ∀ g,um (.slice a n c)=some g → ¬ b.D g)(hk:key.size≤250)(hvl:vs.length≤65536)(hco:uh key.size n=key.size+vs.length+48){sl:Nat}{x:CE}(hf:yH (zB (zj s t).L) key=some sl)(hx:(zj s t).L[sl]? = some (some x))(hkx:x.key=key){dl:Nat}(hdl:dl≤18446744073709551615)(hd:(zj s t).now<dl∨dl=18446744073709551615)(hee:(zj s t).evs.length<1048576)(hn:((zj s t).A++(zj s t).B).length≤1048577)(hR:xX (js (zj s t) sl x ⟨key,vs,dl,x.birth⟩) sl)
  (eg : ∀ args w,(callFunc gf args).run prog w=.ok (.enter gf args) w) (hF : ∀ W b1,zo Fo W b1 (zj s t)→zr w W b b1→Calls prog gf lf W (fun e w'=>e=.returned (.int .u64 dl)∧zb W w')) :
  Calls prog 65 #[lkP b.p,.int .u64 t,.string key,.slice a n c,.func (.func gf) #[] lf] w (Ky Fo w b (pkS (evS (js (zj s t) sl x ⟨key,vs,dl,x.birth⟩) sl))):=by
 have hnl:n=vs.length:=by have:=jo hv;rw[uP]at this;omega
 refine zab h t hev (by omega) (by omega) he hbt (fun Y q0 q4 hY hSt l0 l4 => ?_);have hnn:StN b.D q0 q4:=⟨fun e=>by have:=h.lt e;omega,fun e=>by have:=h.lt e;omega,fun e=>by have:=h.lt e;omega,fun e=>by have:=h.lt e;omega,fun e=>by have:=h.lt e;omega⟩;refine(YO (h.pure hY) ht hlv (X:=fun _=>False) (fun k hk=>hk.elim) (enters_of func149 (by kernel_rfl) rfl) (QE:=fun keep s2 _=>keep=sl∧s2=js (zj s t) sl x ⟨key,vs,dl,x.birth⟩) (fun W b1 hC hT => ?_)).mono ?_
 ·have hT0:zr w W b b1:=(zr.pure hY).trans hT;refine(zhM hC hi (key:=key) (hc:=by rw[hT.p];exact hSt.mod hT.mod hnn) (hnn.to hT hSt) ((hv.frame hY (fun _ _ h=>h)).frame hT.mod hvn) (fun g hg=>hT0.nd (hvn g hg) (hv.lt (by decide) hg)) hvl (by omega) hf hx hkx hco hdl hd hee hn eg (fun Z hZ=>hF Z b1 (hC.pure hZ) (hT0.trans (zr.pure hZ)))).mono ?_;exact Az1d3
 ·rintro e w' ⟨rfl,keep,s2,b',hC,hT,rfl,rfl⟩;exact⟨rfl,b',hC,hT.none⟩
end
section
variable{Fo:Nat→Prop}{w w':World}{b:CaB}{s:CaS}{D:Nat→Prop}{p:Nat}{t:Bst}
theorem zlF(W:World):Calls prog 66 #[] W fun e w'=>e=.returned (.int .u64 (18446744073709551615:Nat))∧zb W w':=by
 go_enter func66,ntmps66;go_wp2;go_ret;exact⟨rfl,Mod.refl _ _⟩
theorem ze7(h:zo Fo w b s){c1 ttl:Nat}(h1:w.heap[c1]? = some (.cells #[lkP b.p] 30 (0,0)))(h2:w.heap[c1+1]? = some (.cells #[.int .u64 ttl] 33 (0,0)))(hn:s.now≤18446744073709551615)(ht:ttl≤18446744073709551615) :
  Calls prog 67 #[.pointer (some ⟨c1,0,none⟩),.pointer (some ⟨c1+1,0,none⟩)] w fun e w'=>e=.returned (.int .u64 (yZ s.now ttl:Nat))∧zb w w':=by
 have HAD:=za (fun W=>zax hn ht W);obtain⟨dl,hdl⟩:=zc (yZ s.now ttl);rw[hdl]at HAD ⊢;have HS1:=za (⟨zf w.drew c1 0 _ _ (0,0) h1,zf w.drew b.p 4 _ _ (0,0) h.box,zf w.drew (c1+1) 0 _ _ (0,0) h2⟩:TcS b.p c1 4 (c1+1) 0 (lkP b.t) (.int .u64 ttl) w.drew);have HNo:=za (h.due.pure ((Mod.refl (fun _=>False) w).drew)).nowOk;clear h h1 h2 hn ht hdl;go_enter func67,ntmps67;go_upto_region 1 with fail
 refine rHd (S:=TcS b.p c1 4 (c1+1) 0 (lkP b.t) (.int .u64 ttl)) HS1.out (fun h_ => ?_);refine hLd 0 ?_;refine hTk 1 ?_;refine hTk 2 ?_;refine hTk 3 ?_;refine hLd 4 ?_;refine hLd 6 ?_
 (refine hSt 5 (fun K hK => ?_);go_simp;refine HNo.out.mono ?_;rintro e u1 ⟨rfl,rfl⟩;refine hK.out _ _ ?_ (fun h_ => ?_);(· exact h_);clear hK K;refine clA ?_)
 (refine hSt 7 (fun K hK => ?_);go_simp;refine(HAD.out _).mono ?_;rintro e u2 ⟨rfl,rfl⟩;refine hK.out _ _ ?_ (fun h_ => ?_);(· exact h_);clear hK K;refine clA ?_)
 refine hTk 8 ?_;refine hDn ?_;clear h_;go_wp2;go_ret;exact⟨rfl,(Mod.refl _ _).drew⟩
def jW(t:Bst)(ks n:Nat):Int:=yW [vi ks n 1,kK (uh ks n) t.cfg.bytes,xf t]
def jQ(t:Bst)(tt:Nat)(key:ByteArray)(vs:List UInt8)(dl:Nat→Nat):Bst:=match uG (yX t tt) key with
 | some x=>vP (Zg {yX t tt with evs:=(yX t tt).evs++[⟨3,x,(yX t tt).now⟩]} ⟨key,vs,dl (yX t tt).now,x.birth⟩) x.birth
 | none=>vP (U7 (yX t tt) ⟨key,vs,dl (yX t tt).now,(yX t tt).births+1⟩) ((yX t tt).births+1)
theorem zmf{ks n:Nat}(h:jW t ks n=0):vi ks n 1=0∧kK (uh ks n) t.cfg.bytes=0∧xf t=0:=by
 unfold jW at h;have e:yW [vi ks n 1,kK (uh ks n) t.cfg.bytes,xf t]=if vi ks n 1=0 then(if kK (uh ks n) t.cfg.bytes=0 then(if xf t=0 then 0 else xf t)else kK (uh ks n) t.cfg.bytes)else vi ks n 1:=rfl
 rw[e]at h;by_cases c:vi ks n 1=0
 ·rw[zk c]at h;by_cases c2:kK (uh ks n) t.cfg.bytes=0
  ·rw[zk c2]at h;by_cases c3:xf t=0
   ·exact⟨c,c2,c3⟩
   ·rw[zh c3]at h;exact absurd h c3
  ·rw[zh c2]at h;exact absurd h c2
 ·rw[zh c]at h;exact absurd h c
theorem zkj{ks n:Nat}(h:vi ks n 1=0):0<ks∧ks≤250∧n≤65536:=by
 unfold vi xL at h;by_cases c:0<ks∧ks≤250
 ·refine⟨c.1,c.2,?_⟩;simp[c.1,c.2]at h;omega
 ·exfalso;simp at h;split at h
  ·cases h
  ·rename_i c2;simp at c2;omega
theorem CaI.finK(h:CaI NoP s){keep:Nat}{z:CE}(hz:s.L[keep]? = some (some z))(hn:s.evs.length+(zu s.L).length≤1048577){t2:Bst}(ht:zD s=t2) :
  xX s keep∧CaI NoP (pkS (evS s keep))∧zD (pkS (evS s keep))=vP t2 z.birth∧(pkS (evS s keep)).L.length≤2*(zu (pkS (evS s keep)).L).length+16∧(pkS (evS s keep)).evs.length≤1048576∧(pkS (evS s keep)).evs.length+(zu (pkS (evS s keep)).L).length≤1048577:=by
 subst ht;have hb:=h.bornIff hz;rw[vT hz]at hb;obtain⟨h1,h2,h3,h4,h5⟩:=h.run (keep:=keep) (keepN:=z.birth) hb (.inr ⟨hn,z.cost,(h.ab ⟨keep,z.cost⟩).2 ⟨z,hz,rfl⟩⟩);obtain⟨k1,_,_⟩:=zay (t:=zD s) h.inc z.birth;rw[← h3]at k1;have k2:(pkS (evS s keep)).evs.length+(zu (pkS (evS s keep)).L).length=s.evs.length+(zu s.L).length:=k1;have k3:=Uw (h5 z hz);exact⟨h1,h2,h3,h4,by omega,by omega⟩
theorem zdD(t:Bst)(z:CE):(Zg t z).E.length=t.E.length∧(Zg t z).evs=t.evs:=⟨by unfold Zg YR;simp,rfl⟩
theorem zO.setC(h:zO Fo w D p t){tt:Nat}(ht:tt≤18446744073709551615){gf:Nat}{lf:Array Value}{key:ByteArray}{a:Option Addr}{n c:Nat}(hr:jW t key.size n=0)(hbt:t.births<16){vs:List UInt8}(hv:zn w (.slice a n c) 1 (zJ vs))(hvn : ∀ g,um (.slice a n c)=some g → ¬ D g){dl:Nat→Nat}(hdl:dl (max t.now tt)≤18446744073709551615)(hd:max t.now tt<dl (max t.now tt)∨dl (max t.now tt)=18446744073709551615)
  (eg : ∀ args w,(callFunc gf args).run prog w=.ok (.enter gf args) w) (hF : ∀ W b1 s1,zo Fo W b1 s1→b1.p=p→s1.now=max t.now tt→Mod D w W→Calls prog gf lf W (fun e w'=>e=.returned (.int .u64 (dl (max t.now tt):Nat))∧zb W w')) :
  Calls prog 65 #[lkP p,.int .u64 tt,.string key,.slice a n c,.func (.func gf) #[] lf] w fun e w'=>e=.returned (.int .i64 0)∧uq Fo w D p (jQ t tt key vs dl) w':=by
 obtain⟨b,s,h1,h2,rfl,rfl,rfl,h3,h4,h5⟩:=h;obtain⟨he1,he2,hr0⟩:=zmf hr;obtain⟨hk0,hk,hn6⟩:=zkj he1;have hnl:n=vs.length:=by have:=jo hv;rw[uP]at this;omega
 obtain⟨k1,k2,k3⟩:=h2.exp ht (kF hr0);obtain⟨hsum,hlive⟩:=h2.exp_sum ht hr0;have hnow:(zj s tt).now=max s.now tt:=by
  have e:=congrArg Bst.now k3;exact e.trans (XN (t:=zD s) h2.inc tt).2.2.2.1
 have hbirths:(zj s tt).births=s.births:=by
  have e:=congrArg Bst.births k3;exact e.trans (XN (t:=zD s) h2.inc tt).2.2.2.2.2
 have hseE:setE s key.size n=0:=by
  unfold setE;rw[kV];exact hr
 have hco:uh key.size n=key.size+vs.length+48:=by unfold uh;rw[zk he1,hnl]
 have hlen2:(zj s tt).L.length=s.L.length:=by
  have : ∀(l:List Nat) (q:CaS),(yJ 1 q l).L.length=q.L.length:=by
   intro l
   induction l with
   | nil=>intro q;rfl
   | cons y l ih=>intro q;exact(ih (xk 1 q y)).trans zdw.2.2.2.2.2.2
  exact this _ _
 have hll:(zu s.L).length≤1048576:=by have:=kF hr0;omega
 have hF' : ∀ W b1,zo Fo W b1 (zj s tt)→zr w W b b1→Calls prog gf lf W (fun e w'=>e=.returned (.int .u64 (dl (max s.now tt):Nat))∧zb W w'):=fun W b1 hC hT=>hF W b1 _ hC hT.p hnow hT.mod
 unfold jQ;rw[← k3]
 cases hl:uG (zD (zj s tt)) key with
 | none =>
  obtain⟨f1,f2⟩:=k2.find_none hl;have hz:(CE.Ok ⟨key,vs,dl (max s.now tt),(zj s tt).births+1⟩):=⟨hk0,hk,by show vs.length≤_;omega,hdl,Nat.succ_pos _,by show(zj s tt).births+1≤_;rw[hbirths];have:(zD s).births<16:=hbt;show s.births+1≤_;have e:(zD s).births=s.births:=rfl;omega⟩;obtain⟨n1,n2,n3⟩:=k2.new (z:=⟨key,vs,dl (max s.now tt),(zj s tt).births+1⟩) rfl hz f2 (by rw[hnow];exact hd) (by rw[hbirths];exact hbt);have hget:(jd (zj s tt) ⟨key,vs,dl (max s.now tt),(zj s tt).births+1⟩).L[(zj s tt).L.length]? = some (some ⟨key,vs,dl (max s.now tt),(zj s tt).births+1⟩):=by
   show((zj s tt).L++[_])[(zj s tt).L.length]? = _
   simp
  have hs2:(jd (zj s tt) ⟨key,vs,dl (max s.now tt),(zj s tt).births+1⟩).evs.length+(zu (jd (zj s tt) ⟨key,vs,dl (max s.now tt),(zj s tt).births+1⟩).L).length≤1048577:=by
   show(zj s tt).evs.length+(zu ((zj s tt).L++[_])).length≤_
   rw[XI,zR]
   show _+(_+1)≤_
   omega
  obtain⟨q1,q2⟩:=n1.finK hget hs2 n2;refine(zkC h1 ht h4 hseE (x9 (show s.births<16 from hbt) (by decide)) k1 k2 hv hvn hk0 hk (by omega) hco f1 hdl (by rw[hnow];exact hd) (by rw[k2.lenAB];omega) (by rw[hlen2];omega) hbirths n3 q1 eg hF').mono ?_;rintro e w' ⟨rfl,b',hC,hT⟩;refine⟨rfl,?_⟩;have hn9:(zD (zj s tt)).now=max s.now tt:=hnow;dsimp only;rw[hn9];exact zO.of hC hT q2
 | some x =>
  obtain⟨sl,f1,f2,f3⟩:=k2.find_some hl;have hxm:=xJ.2 ⟨_,f2⟩;have hxo:=(k2.ok x hxm).1;have ht1:=k2.tell (v:=⟨3,x,(zj s tt).now⟩) (k2.evOk (by decide) hxm) rfl (k2.ok x hxm).2;have hlp:0<(zu (zj s tt).L).length:=Uw hxm;obtain⟨n1,n2,n3⟩:=ht1.hit (z:=⟨key,vs,dl (max s.now tt),x.birth⟩) f2 rfl f3.symm ⟨hk0,hk,by show vs.length≤_;omega,hdl,hxo.b0,hxo.b1⟩ (by rw[hnow];exact hd);have hget:(js (zj s tt) sl x ⟨key,vs,dl (max s.now tt),x.birth⟩).L[sl]? = some (some ⟨key,vs,dl (max s.now tt),x.birth⟩):=by
   show((zj s tt).L.set sl _)[sl]? = _
   rw[yo (zF.1 f2).1]
  have hs2:(js (zj s tt) sl x ⟨key,vs,dl (max s.now tt),x.birth⟩).evs.length+(zu (js (zj s tt) sl x ⟨key,vs,dl (max s.now tt),x.birth⟩).L).length≤1048577:=by
   have e1:(zu (js (zj s tt) sl x ⟨key,vs,dl (max s.now tt),x.birth⟩).L).length=(zu (zj s tt).L).length:=by
    have e:=congrArg Bst.E n2;have e2:=congrArg List.length e;exact e2.trans (zdD _ _).1
   rw[e1]
   show((zj s tt).evs++[_]).length+_≤_
   rw[zR]
   show _+1+_≤_
   omega
  have n2':zD (js (zj s tt) sl x ⟨key,vs,dl (max s.now tt),x.birth⟩)=Zg {zD (zj s tt)with evs:=(zD (zj s tt)).evs++[⟨3,x,(zD (zj s tt)).now⟩]} ⟨key,vs,dl (max s.now tt),x.birth⟩:=n2;have n1':CaI NoP (js (zj s tt) sl x ⟨key,vs,dl (max s.now tt),x.birth⟩):=n1;obtain⟨q1,q2⟩:=n1'.finK hget hs2 n2';refine(zjY h1 ht h4 hseE (x9 (show s.births<16 from hbt) (by decide)) k1 k2 hv hvn hk (by omega) hco f1 f2 f3 hdl (by rw[hnow];exact hd) (by omega) (by rw[k2.lenAB];omega) q1 eg hF').mono ?_;rintro e w' ⟨rfl,b',hC,hT⟩;refine⟨rfl,?_⟩;have hn9:(zD (zj s tt)).now=max s.now tt:=hnow;dsimp only;rw[show dl (zD (zj s tt)).now=dl (max s.now tt)from congrArg dl hn9];exact zO.of hC hT q2
theorem zO.setCErr(h:zO Fo w D p t)(tt:Nat){gf:Nat}{lf:Array Value}{key:ByteArray}(hk:key.size≤140737488355328){a:Option Addr}{n c:Nat}(hn:n≤140737488355328){er:Int}(he:jW t key.size n=er)(h0:er≠0) :
  Calls prog 65 #[lkP p,.int .u64 tt,.string key,.slice a n c,.func (.func gf) #[] lf] w fun e w'=>e=.returned (.int .i64 er)∧zb w w':=by
 obtain⟨b,s,h1,h2,rfl,rfl,rfl,h3,h4,h5⟩:=h;refine zhi h1 tt h4 hk hn (by unfold setE;rw[kV];exact he) h0
theorem Azmud {P:Prop}(h:P:=by
 go_enter func16,ntmps16
 go_wp2_with (go_at_call 65;refine HC.out.mono ?_;rintro e w1 ⟨rfl,hg⟩)
 go_ret;exact⟨rfl,hg⟩):P:=h
theorem zO.Set(h:zO Fo w D p t){tt:Nat}(ht:tt≤18446744073709551615){key:ByteArray}{a:Option Addr}{n c:Nat}(hr:jW t key.size n=0)(hbt:t.births<16){vs:List UInt8}(hv:zn w (.slice a n c) 1 (zJ vs))(hvn : ∀ g,um (.slice a n c)=some g → ¬ D g) :
  Calls prog 16 #[lkP p,.int .u64 tt,.string key,.slice a n c] w fun e w'=>e=.returned (.int .i64 0)∧uq Fo w D p (jQ t tt key vs (fun _=>18446744073709551615)) w':=by
 have HC:=za (h.setC ht (gf:=66) (lf:=#[]) hr hbt hv hvn (dl:=fun _=>18446744073709551615) (zG _) (.inr rfl) (enters_of func66 (by kernel_rfl) rfl) (fun W _ _ _ _ _ _=>zlF W));clear h hr hbt hv hvn;exact Azmud
theorem zO.SetErr(h:zO Fo w D p t)(tt:Nat){key:ByteArray}(hk:key.size≤140737488355328){a:Option Addr}{n c:Nat}(hn:n≤140737488355328){er:Int}(he:jW t key.size n=er)(h0:er≠0) :
  Calls prog 16 #[lkP p,.int .u64 tt,.string key,.slice a n c] w fun e w'=>e=.returned (.int .i64 er)∧zb w w':=by
 have HC:=za (h.setCErr tt (gf:=66) (lf:=#[]) hk hn he h0 (a:=a) (c:=c));clear h he h0 hk hn;exact Azmud
theorem zO.none_(h:zO Fo w D p t):Calls prog 61 #[lkP p] w fun e w'=>e=.returned (.bool false)∧w=w':=by
 obtain⟨b,s,h1,h2,rfl,rfl,rfl,_⟩:=h;exact kG h1
theorem zO.SetTTL(h:zO Fo w D p t){tt ttl:Nat}(ht:tt≤18446744073709551615)(hl:ttl≤18446744073709551615)(hl0:0<ttl){key:ByteArray}{a:Option Addr}{n c:Nat}(hr:jW t key.size n=0)(hbt:t.births<16){vs:List UInt8}(hv:zn w (.slice a n c) 1 (zJ vs))(hvn : ∀ g,um (.slice a n c)=some g → ¬ D g)(hn64:t.now≤18446744073709551615) :
    Calls prog 17 #[lkP p,.int .u64 tt,.string key,.slice a n c,.int .u64 ttl] w fun e w'=>e=.returned (.int .i64 0)∧uq Fo w D p (jQ t tt key vs (fun q=>yZ q ttl)) w':=by
  have hp0:zb w ((w.alloc (.cells #[lkP p] 30)).alloc (.cells #[.int .u64 ttl] 33)):=((Mod.refl _ w).alloc _).alloc _;have hb1:=zz (o := .cells #[.int .u64 ttl] 33) (zi (w:=w) (o := .cells #[lkP p] 30 (0,0)) rfl);have hb2:=zi (w:=w.alloc (.cells #[lkP p] 30)) (o := .cells #[.int .u64 ttl] 33 (0,0)) (n:=w.heap.size+1) (by simp);have hlt:=fun k (hk:D k)=>h.lt hk
  have HN:=za (h.pure hp0).none_;have HC:=za ((h.pure hp0).setC ht (gf:=67) (lf:=#[.pointer (some ⟨w.heap.size,0,none⟩),.pointer (some ⟨w.heap.size+1,0,none⟩)]) hr hbt (hv.frame hp0 (fun _ _ h=>h)) hvn (dl:=fun q=>yZ q ttl) (by show yZ _ _≤_;unfold yZ;split<;>omega) (by show _<yZ _ _∨yZ _ _=_;unfold yZ;split<;>omega) (enters_of func67 (by kernel_rfl) rfl) (fun W b1 s1 hC hp1 hn1 hm=>by
    have:=ze7 hC (c1:=w.heap.size) (ttl:=ttl) (by rw[hp1];exact hm.heap (fun e=>by have:=hlt _ e;omega) hb1) (hm.heap (fun e=>by have:=hlt _ e;omega) hb2) (by rw[hn1];omega) hl;rw[hn1]at this;exact this))
  have HP:=za hp0;have hne:((ttl:Int)==0)=false:=by rw[uE];omega
  clear h hr hbt hv hvn hp0 hlt hl0 hl ht hn64;go_enter func17,ntmps17;go_upto_region 1 with fail
  generalize(w.alloc (.cells #[lkP p] 30)).alloc (.cells #[.int .u64 ttl] 33)=W1 at *;obtain⟨n0,hn0⟩:=zc w.heap.size;rw[hn0]at hb1 hb2 HC ⊢;clear hn0;obtain⟨hb1_0,hb1_f,hb1_l,H_hb1⟩:=cr1 hb1;clear hb1;obtain⟨hb2_0,hb2_f,hb2_l,H_hb2⟩:=cr1 hb2;clear hb2
  go_wp2_with (first
    | (go_at_call 61;refine HN.out.mono ?_;rintro e w' ⟨rfl,rfl⟩)
    | (go_at_call 65;refine HC.out.mono ?_;rintro e w1 ⟨rfl,hg⟩))
  go_ret;obtain⟨D2,g1,g2,g3⟩:=hg;exact⟨rfl,D2,g1,Mod.trans' HP.out g2 (fun _ _ e=>e.elim) (fun _ _ e=>e),fun k hk=>(g3 k hk).imp (fun e=>e) (fun e=>zH HP.out.size e)⟩
end
section
variable{Fo:Nat→Prop}{w w':World}{b:CaB}{s:CaS}{D:Nat→Prop}{p:Nat}{t:Bst}
def zaX(o:Option CE):List UInt8:=(o.map CE.val).getD []
def Xh(t:Bst)(tt:Nat)(key:ByteArray):Option CE × Bst:=match uG (yX t tt) key with
 | some x=>(some x,vP (YR (yX t tt) x.birth x.cost) 0)
 | none=>(none,uj t tt)
def zke(Fo:Nat→Prop)(w:World)(D:Nat→Prop)(p:Nat)(r:Option CE × Bst)(e:Ending)(w':World):Prop :=
 ∃ a n c,e=.returned (.tuple #[.slice a n c,.bool r.1.isSome,.int .i64 0])∧zn w' (.slice a n c) 1 (zJ (zaX r.1))∧uq Fo w D p r.2 w'
theorem KT(w:World):zn w (.slice none 0 0) 1 (zJ []):=⟨none,0,0,rfl,rfl,by decide,fun _=>rfl,fun a h=>by cases h⟩
theorem CaI.exp_frame(h:CaI NoP s){tt:Nat}(ht:tt≤18446744073709551615)(hr:xf (zD s)=0):(zj s tt).now=max s.now tt∧(zj s tt).births=s.births∧((zj s tt).A++(zj s tt).B).length≤1048576:=by
 obtain⟨k1,k2,k3⟩:=h.exp ht (kF hr);obtain⟨hsum,hlive⟩:=h.exp_sum ht hr;have:=kF hr;refine⟨?_,?_,by rw[k2.lenAB];omega⟩
 ·have e:=congrArg Bst.now k3;exact e.trans (XN (t:=zD s) h.inc tt).2.2.2.1
 ·have e:=congrArg Bst.births k3;exact e.trans (XN (t:=zD s) h.inc tt).2.2.2.2.2
theorem zO.get(h:zO Fo w D p t){tt:Nat}(ht:tt≤18446744073709551615){key:ByteArray}(hk:key.size≤140737488355328)(hr:qM key t=0) :
  Calls prog 18 #[lkP p,.int .u64 tt,.string key] w (zke Fo w D p (Xh t tt key)):=by
 obtain⟨hkE,hr⟩:=Ke hr;obtain⟨b,s,h1,h2,rfl,rfl,rfl,h3,h4,h5⟩:=h;obtain⟨k1,k2,k3⟩:=h2.exp ht (kF hr);have hn:=(h2.exp_sum ht hr).1;obtain⟨_,_,hab⟩:=h2.exp_frame ht hr;unfold Xh;rw[← k3]
 cases hl:uG (zD (zj s tt)) key with
 | none =>
  obtain⟨q1,q2⟩:=k2.fin hn k3;refine(zkQ h1 ht h4 ((kV s).trans hr) k1 hk hkE (k2.find_none hl).1 q1).mono ?_;rintro e w' ⟨rfl,b',hC,hT⟩;exact⟨none,0,0,rfl,KT _,zO.of hC hT q2⟩
 | some x =>
  obtain⟨sl,f1,f2,f3⟩:=k2.find_some hl;obtain⟨u1,u2⟩:=k2.use f2;have e9:zu (us (zj s tt) ⟨sl,x.cost⟩).L=zu (zj s tt).L:=rfl;have e8:(us (zj s tt) ⟨sl,x.cost⟩).evs=(zj s tt).evs:=rfl;obtain⟨q1,q2⟩:=u1.fin (by rw[e8,e9];exact hn) u2;refine(zif h1 ht h4 ((kV s).trans hr) k1 hk hkE f1 f2 ((k2.ab ⟨sl,x.cost⟩).2 ⟨x,f2,rfl⟩) k2.U k2.cfg k2.lim (by omega) q1).mono ?_;rintro e w' ⟨a,n,c,rfl,hby,hfr,b',hC,hT⟩;exact⟨a,n,c,rfl,yv.read hby (kO _),zO.of hC hT q2⟩
theorem zO.peekHit(h:zO Fo w D p t){tt:Nat}(ht:tt≤18446744073709551615){key:ByteArray}(hk:key.size≤140737488355328)(hr:qM key t=0){x:CE}(hx:uG (yX t tt) key=some x) :
  Calls prog 102 #[lkP p,.int .u64 tt,.string key] w fun e w' => ∃ a n c,e=.returned (.tuple #[ceV x (.slice a n c),.bool true,.int .i64 0])∧yv w' (.slice a n c) (zJ x.val)∧xi w (.slice a n c)∧uq Fo w D p (uj t tt) w':=by
 obtain⟨hkE,hr⟩:=Ke hr;obtain⟨b,s,h1,h2,rfl,rfl,rfl,h3,h4,h5⟩:=h;obtain⟨k1,k2,k3⟩:=h2.exp ht (kF hr);have hn:=(h2.exp_sum ht hr).1;rw[← k3]at hx;obtain⟨sl,f1,f2,f3⟩:=k2.find_some hx;obtain⟨q1,q2⟩:=k2.fin hn k3;refine(zkS h1 ht h4 ((kV s).trans hr) k1 hk hkE (by have:=k2.sl_lt f2;omega) f1 f2 q1).mono ?_;rintro e w' ⟨a,n,c,rfl,hby,hfr,b',hC,hT⟩;exact⟨a,n,c,rfl,hby,hfr,zO.of hC hT q2⟩
def VG(key:ByteArray)(ttl:Nat)(t:Bst):Int:=yW [vq key,uV ttl,xf t]
theorem zkM{key:ByteArray}{ttl:Nat}(h:VG key ttl t=0):xf t=0:=by
 unfold VG at h;have e:yW [vq key,uV ttl,xf t]=if vq key=0 then(if uV ttl=0 then(if xf t=0 then 0 else xf t)else uV ttl)else vq key:=rfl
 rw[e]at h;by_cases c:vq key=0
 ·rw[zk c]at h;by_cases c2:uV ttl=0
  ·rw[zk c2]at h;by_cases c3:xf t=0
   ·exact c3
   ·rw[zh c3]at h;exact absurd h c3
  ·rw[zh c2]at h;exact absurd h c2
 ·rw[zh c]at h;exact absurd h c
def XW(t:Bst)(tt:Nat)(key:ByteArray)(ttl:Nat):Bool × Bst:=match uG (yX t tt) key with
 | some x=>(true,vP (Zg (yX t tt) ⟨x.key,x.val,yZ (yX t tt).now ttl,x.birth⟩) 0)
 | none=>(false,uj t tt)
theorem zO.touch(h:zO Fo w D p t){tt ttl:Nat}(ht:tt≤18446744073709551615)(htl:ttl≤18446744073709551615){key:ByteArray}(hk:key.size≤140737488355328)(hr:VG key ttl t=0)(h0:0<ttl) :
  Calls prog 19 #[lkP p,.int .u64 tt,.string key,.int .u64 ttl] w fun e w'=>e=.returned (.tuple #[.bool (XW t tt key ttl).1,.int .i64 0])∧uq Fo w D p (XW t tt key ttl).2 w':=by
 have hr0:=zkM hr;obtain⟨b,s,h1,h2,rfl,rfl,rfl,h3,h4,h5⟩:=h;obtain⟨k1,k2,k3⟩:=h2.exp ht (kF hr0);have hn:=(h2.exp_sum ht hr0).1;obtain⟨hnow,_,hab⟩:=h2.exp_frame ht hr0;have he:yW [vq key,uV ttl,yU s]=0:=by rw[kV];exact hr
 unfold XW;rw[← k3]
 cases hl:uG (zD (zj s tt)) key with
 | none =>
  obtain⟨q1,q2⟩:=k2.fin hn k3;refine(zeO h1 ht h4 k1 hk he (k2.find_none hl).1 q1).mono ?_;rintro e w' ⟨rfl,b',hC,hT⟩;exact⟨rfl,zO.of hC hT q2⟩
 | some x =>
  obtain⟨sl,f1,f2,f3⟩:=k2.find_some hl;have hxo:=(k2.ok x (xJ.2 ⟨_,f2⟩)).1;have h64:=k2.now64;have hd:(zj s tt).now<yZ (zj s tt).now ttl∨yZ (zj s tt).now ttl=18446744073709551615:=by unfold yZ;split<;>omega
  have hd1:yZ (zj s tt).now ttl≤18446744073709551615:=by unfold yZ;split<;>omega
  obtain⟨u1,u2,_⟩:=k2.hit (z:=⟨x.key,x.val,yZ (zj s tt).now ttl,x.birth⟩) f2 rfl rfl ⟨hxo.k0,hxo.k1,hxo.v1,hd1,hxo.b0,hxo.b1⟩ hd;have e1:(zu (kW (zj s tt) sl ⟨x.key,x.val,yZ (zj s tt).now ttl,x.birth⟩).L).length=(zu (zj s tt).L).length:=by
   have e:=congrArg Bst.E u2;have e2:=congrArg List.length e;exact e2.trans (zdD _ _).1
  have e8:(kW (zj s tt) sl ⟨x.key,x.val,yZ (zj s tt).now ttl,x.birth⟩).evs=(zj s tt).evs:=rfl;obtain⟨q1,q2⟩:=u1.fin (by rw[e8,e1];exact hn) u2;refine(zlq h1 ht htl h4 k1 hk he k2 f1 f2 hd (by omega) q1).mono ?_;rintro e w' ⟨rfl,b',hC,hT⟩;exact⟨rfl,zO.of hC hT q2⟩
end
end
end Go.Proofs.YtpplkcnknabofaaGreatDoor
