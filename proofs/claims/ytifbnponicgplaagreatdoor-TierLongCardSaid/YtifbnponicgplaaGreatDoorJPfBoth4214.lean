/- Lemmas and contracts of functions. No condition. -/
import Derived.Test.YtifbnponicgplaaGreatDoorJPfBoth4210
namespace Go.Proofs.YtifbnponicgplaaGreatDoor
open _root_.Go.Proofs.Tryz
set_option maxRecDepth 100000
set_option maxHeartbeats 20000000
set_option linter.all false
section
open Go.RowKit Go.Shelf
variable{Fo:Nat→Prop}
section
variable{w w':World}{D S:Nat→Prop}{d seed:Nat}{same:Bool}{L:List (Option Ent)}{Gs:List Grp}
theorem ya.unindex{q p:Nat}{sv:Value}{Dl:Nat→Prop}{w2:World}{Gs2:List Grp}(h:ya Fo w d q p sv Dl seed same L Gs)(hx:yk w2 (fun k=>k=p∨sv.ownBlock=some k) p sv Gs2)(hm:Mod (fun k=>k=p∨sv.ownBlock=some k) w w2):ya Fo w2 d q p sv Dl seed same L Gs2:=by
 refine⟨hm.heap (fun hk => ?_) h.box,h.log.frame hm (fun k hk e=>h.nlp k hk e) (fun k _ e cs fz e2 => ?_),hx,h.sd⟩
 ·rcases hk with e | e
  ·exact h.npd e.symm
  ·exact h.nsd e
 ·rcases e with rfl | e
  ·rw[h.ix.box]at e2;cases e2
  ·obtain⟨cc,e3⟩:=yd h.ix.row e;rw[e3]at e2;cases e2
theorem zf6(h:yc Fo w D d seed same L Gs){s:Nat}{x:Ent}(hx:L[s]? = some (some x)):Calls prog 79 #[xr d,.int .u32 s] w (zd7 Fo w D d seed same L Gs s x):=by
  obtain⟨q,p,sv,Dl,h1,h2,h3⟩:=h;have hsl:s<L.length:=(zE.1 hx).1;have hs:s≤4294967295:=by have:=h1.log.ok.len;omega
  obtain⟨⟨i,j,k1,k2⟩,k3,k4,k5⟩:=h2.remove hx;have hsum:=U8 seed same L s;have HH:=za h1;have HD:=za h3;have HKE:=za k5;have HX:=za hx;have hp0:zb w (w.alloc (.cells #[.string ⟨#[]⟩,.slice none 0 0,.int .u64 0,.int .u64 0] 70)):=(Mod.refl _ w).alloc _;have z4:=zk (w:=w) (o := .cells #[.string ⟨#[]⟩,.slice none 0 0,.int .u64 0,.int .u64 0] 70 (0,0)) rfl;have HZ:=za (ZL (h1.pure hp0));have HK:=za (zdv (h1.log.pure hp0) s hs);have e1:noL L s=0:=by unfold noL V2;rw[hx];rfl
  rw[e1]at HK;have hb:=(h1.pure hp0).box;have HP:=za hp0;have hdb:d<w.heap.size:=zm h1.box;have HSum:=za (fun(W:World) (hW:zb w W)=>UZ (h1.pure hW) s hs);obtain⟨hh,hhe⟩:=zf (yh seed same L s);have HIR:=za (fun(W:World) (hW:zb w W)=>zkn (h1.ix.pure hW) hh s (hhe ▸ hsum) hs);rw[hhe]at HSum k1;unfold XT at HIR;rw[k1]at HIR;dsimp only at HIR;have e2:yy Gs i j (yF (zn Gs i).1) 0=uu (yh seed same L) Gs s:=k2.symm;rw[e2]at HIR;unfold YG at HKE;obtain⟨G1,hG1⟩:=zf (uu (yh seed same L) Gs s);rw[hG1]at HIR HKE k3 k4;have HG1:=za hG1;obtain⟨pl,hpl⟩:=zf (uC G1.length (zD G1));rw[hpl]at HKE k4;have HGR:=za (fun W=>ziP k3.pow (Qj k3.grp) W);rw[hpl]at HGR;have HPL:=za hpl;have HK4:=za k4;unfold zaq at HGR;obtain⟨pl1,pl2⟩:=pl;dsimp only at HGR;clear h1 h2 h3 hp0 e1 e2 hx k1 k2 k3 k4 k5 hhe hsum hG1 hpl;generalize yL L s=ks at *;go_enter func79,ntmps79;go_upto_region 1 with fail
  generalize w.alloc (.cells #[.string ⟨#[]⟩,.slice none 0 0,.int .u64 0,.int .u64 0] 70)=W1 at *;obtain⟨b4,hb4⟩:=zf w.heap.size;rw[hb4]at z4 hdb ⊢;have HB:=za hb4;clear hb4;have Z4:=za z4;clear z4;obtain⟨hb_0,hb_1,hb_2,hb_3,hb_f,hb_l,H_hb⟩:=cr4 hb;clear hb;go_upto_region 6 with(first
    | (go_at_call 81;refine HZ.out.mono ?_;rintro e w' ⟨rfl,rfl⟩)
    | (go_at_call 128;refine HK.out.mono ?_;rintro e w' ⟨rfl,rfl⟩))
  go_region_held3 (fun w'=>w'.cell? ⟨d,3,none⟩=some (.pointer (some ⟨p,0,none⟩)))
    (first | exact hb_3 | exact hp1.cell (fun h=>h) hb_3 | exact hm2.cell (fun e=>e.elim (fun e=>HH.out.npd e.symm) (fun e=>HH.out.nsd e)) (hp1.cell (fun h=>h) hb_3))
    (first
      | (go_at_call 130;refine(HSum.out _ (by have:=HP.out;exact y9)).mono ?_;rintro e w1 ⟨rfl,hp1⟩)
      | (go_at_call 129;refine(HIR.out _ (by have:=HP.out;exact y9)).mono ?_;rintro e w2 ⟨rfl,hx2,hm2⟩))
  have hpw1:zb w w1:=HP.out.trans (Mod.of_drew hp1);have hb4w:w.heap.size=b4:=HB.out;have hMw:Mod D w w2:=(Mod.of_pure (S:=D) hpw1).then hm2 (fun k _ hk=>(HD.out k).2 (hk.elim (fun e => .inr (.inr (.inl e))) (fun e => .inr (.inr (.inr e)))));have hlow : ∀ k,k=p∨sv.ownBlock=some k→k<w.heap.size:=fun k hk=>HH.out.lt (hk.elim (fun e => .inr (.inr (.inl e))) (fun e => .inr (.inr (.inr e))))
  have HM2:=za ((HH.out.pure hpw1).unindex hx2 hm2);replace Z4:=za (hm2.heap (fun hk=>by have:=hlow _ hk;omega) ((Mod.of_drew hp1).heap (fun h=>h) Z4.out));have HMW:=za hMw;have hb4l:b4<w2.heap.size:=zm Z4.out;have hb:=HM2.out.box;have HRm:=za (zew HM2.out.log s x HX.out);clear hx2 hm2 hp1 hpw1 hMw hlow;clear hb_0 hb_1 hb_2 hb_3 hb_f hb_l H_hb;obtain⟨hb_0,hb_1,hb_2,hb_3,hb_f,hb_l,H_hb⟩:=cr4 hb;clear hb;go_upto_region 8 with(go_at_call 131;refine HRm.out.mono ?_;rintro e w3 ⟨a,n,c,rfl,hby,hfr,hl3,hm3⟩;dsimp only[Jv]at *)
  have hpo:zb w3 (w3.alloc (.cells #[.string x.key,.slice a n c,.int .u64 x.dl,.int .u64 x.birth] 70)):=(Mod.refl _ w3).alloc _;have z8:=zk (w:=w3) (o := .cells #[.string x.key,.slice a n c,.int .u64 x.dl,.int .u64 x.birth] 70 (0,0)) rfl;have hdl : ∀ k,Dl k→k<w.heap.size:=fun k hk=>HH.out.log.lt hk
  have HM4:=za ((KW HM2.out hl3 hm3).pure hpo);replace Z4:=za (hpo.heap (fun h=>h) (hm3.heap (fun hk=>by have:=hdl _ hk;omega) Z4.out));have h2w:w.heap.size≤w2.heap.size:=HMW.out.size;replace HMW:=za ((HMW.out.then hm3 (fun k _ hk=>(HD.out k).2 (.inr (.inl hk)))).then hpo (fun _ _ h=>h.elim));have HBY:=za (zz hby hpo (fun _ _ h=>h));have HFR:Hid (xK w (.slice a n c)):=fun g e=>by have:=hfr g e;omega
  have h23:w2.heap.size≤w3.heap.size:=hm3.size;clear hb_0 hb_1 hb_2 hb_3 hb_f hb_l;clear H_hb hby hfr hl3 hm3 hpo HM2 HRm HSum HIR HK HZ;generalize hW4:w3.alloc (.cells #[.string x.key,.slice a n c,.int .u64 x.dl,.int .u64 x.birth] 70)=W4 at *;clear hW4;obtain⟨b8,hb8⟩:=zf w3.heap.size;rw[hb8]at z8 h23 ⊢;have Z8:=za z8;have hb8l:b8<W4.heap.size:=zm z8;clear hb8 z8;have hb:=HM4.out.box;obtain⟨hb_0,hb_1,hb_2,hb_3,hb_f,hb_l,H_hb⟩:=cr4 hb;clear hb;have hal:=fun o=>(Mod.refl (fun _=>False) W4).alloc o
  go_cut [0,4,8,9,10,11] (fun v0 v4 v8 v9 v10 v11 wx=>v0=.pointer (some ⟨d,0,none⟩)∧v4=.pointer (some ⟨b4,0,none⟩)∧v8=.pointer (some ⟨b8,0,none⟩)∧v9=.int .i64 0∧v11=.int .i64 0 ∧
    ∃ b10,v10=.pointer (some ⟨b10,0,none⟩)∧wx.heap[b10]? = some (.cells #[.int .i64 pl1,.bool pl2] 224 (0,0))∧zb W4 wx)
  case first =>
    go_region_held3 (fun w'=>w'.cell? ⟨d,3,none⟩=some (.pointer (some ⟨p,0,none⟩)))
      (first | exact hb_3 | exact(hal _).cell (fun h=>h) hb_3 | exact hp5.cell (fun h=>h) hb_3 | exact hp5.cell (fun h=>h) ((hal _).cell (fun h=>h) hb_3) | exact(hp5.alloc _).cell (fun h=>h) hb_3 | exact((Mod.set2 _ _ _ _ _).cell (fun e=>hdb5 e) ((hp5.alloc _).cell (fun h=>h) hb_3)) | exact((Mod.set2 _ _ _ _ _).cell (fun e=>hdb4 e) (hp5.cell (fun h=>h) ((hal _).cell (fun h=>h) hb_3))))
      (first
        | (go_at_call 133;(with_reducible refine zq (Jn (HM4.out.ix.pure (by first | exact Mod.refl _ _ | exact Mod.drew (Mod.refl _ _) | exact hal _ | exact Mod.drew (hal _)))) ?_);rintro e w1 ⟨rfl,rfl⟩)
        | (go_at_call 134;(with_reducible refine zq (za2 (HM4.out.ix.pure (by first | exact Mod.refl _ _ | exact Mod.drew (Mod.refl _ _) | exact hal _ | exact Mod.drew (hal _)))) ?_);rintro e w1 ⟨rfl,rfl⟩)
        | (go_at_call 135;(with_reducible refine zq (Kq (HM4.out.ix.pure (by first | exact Mod.refl _ _ | exact Mod.drew (Mod.refl _ _) | exact hal _ | exact Mod.drew (hal _)))) ?_);rintro e w1 ⟨rfl,rfl⟩)
        | (go_at_call 132;refine(HGR.out _).mono ?_;rintro e w5 ⟨rfl,hp5⟩;have hdb5:d≠w5.heap.size:=(by have:=hp5.size;have:=hb_l;simp at *;omega);have hdb4:d≠W4.heap.size:=(by have:=hb_l;omega);(first | (have qb:w5.heap[W4.heap.size]? = some (.cells #[.int .i64 0,.bool false] 224 (0,0)):=hp5.heap (fun h=>h) (zk (w:=W4) (o := .cells #[.int .i64 0,.bool false] 224 (0,0)) rfl);have q0:=zi _ _ 0 _ _ _ qb;have q1:=zi _ _ 1 _ _ _ qb;have qf:=(fun j=>yS _ _ j _ _ qb);have ql:=zm qb;simp at q0 q1;have QB:=za qb;clear qb) | skip)))
    all_goals
      try go_wp2
      go_meet
      refine⟨rfl,rfl,rfl,rfl,rfl,_,rfl,?_,?_⟩
      · first | exact zk rfl | exact zc3 QB.out
      · first | exact(Mod.of_drew hp5).alloc _ | exact(Mod.trans (Mod.drew (hal _)) hp5).then (Mod.set2 _ 0 1 _ _) (fun i hi e=>by omega)
  case rest =>
    obtain⟨rfl,rfl,rfl,rfl,rfl,b10,rfl,hb10,hpc⟩:=hcut;have hbw:=HB.out;have hb4':w.heap.size≤b4:=by omega
    have HM6:=za (HM4.out.pure hpc);replace Z4:=za (hpc.heap (fun h=>h) Z4.out);replace Z8:=za (hpc.heap (fun h=>h) Z8.out);replace HMW:=za (HMW.out.then hpc (fun _ _ h=>h.elim));replace HBY:=za (zz HBY.out hpc (fun _ _ h=>h));have hW4:w.heap.size≤W4.heap.size:=by omega
    clear hb_0 hb_1 hb_2 hb_3 hb_f hb_l;clear H_hb HM4 hal HGR hbw;have hdb8:d≠b8:=by omega
    have HDo:=za (zby HM6.out (pl1,pl2) HK4.out);dsimp only at HDo;obtain⟨hb10_0,hb10_1,hb10_f,hb10_l,H_hb10⟩:=cr2 hb10;clear hb10;go_upto_region 11 with(go_at_call 136;refine HDo.out.mono ?_;rintro e w7 ⟨v7,p2,sv2,rfl,hm7,hmod7,hsx7⟩)
    have y4:=hmod7.heap (by omega) Z4.out;have y8:=hmod7.heap (fun e=>hdb8 e.symm) Z8.out;have HBY7:=za (kT HBY.out hmod7 (fun k _ e cs fz e2=>by subst e;rw[HM6.out.box]at e2;cases e2));have HM7:=za hm7;have HMod7:=za hmod7;have HSX7:=za hsx7;clear hm7 hmod7 hsx7;have Y4:=za y4;obtain⟨y4_0,y4_1,y4_2,y4_3,y4_f,y4_l,H_y4⟩:=cr4 y4;clear y4;obtain⟨y8_0,y8_1,y8_2,y8_3,y8_f,y8_l,H_y8⟩:=cr4 y8;clear y8;go_wp2;obtain⟨Y,hY⟩:=zf ((((w7.setCell ⟨b4,0,none⟩ (.string x.key)).setCell ⟨b4,1,none⟩ (.slice a n c)).setCell ⟨b4,2,none⟩ (.int .u64 x.dl)).setCell ⟨b4,3,none⟩ (.int .u64 x.birth));obtain⟨g1,g2⟩:=Xa Y4.out hY;rw[hY];have x0:=zi _ _ 0 _ _ _ g2;have x1:=zi _ _ 1 _ _ _ g2;have x2:=zi _ _ 2 _ _ _ g2;have x3:=zi _ _ 3 _ _ _ g2;simp at x0 x1 x2 x3;have hn4 : ∀ k,jO d Dl p2 sv2 k → ¬ k=b4:=fun k hk e=>by
      subst e;rcases hk with e | e | e | e
      · omega
      · have:=hdl _ e;omega
      · have h1:=HM7.out.ix.box;rw[← e,Y4.out]at h1;cases h1
      · obtain⟨cc,e2⟩:=yd HM7.out.ix.row e
        rw[Y4.out]at e2;cases e2
    have hrem:YG (yh seed same L) (yh seed same (L.set s none)) Gs s=doG (yh seed same (L.set s none)) (pl1,pl2) G1:=by unfold YG;rw[HG1.out,HPL.out]
    refine zR (v := .tuple #[.agg #[.string x.key,.slice a n c,.int .u64 x.dl,.int .u64 x.birth],.int .i64 0]) (by simp[results,results79,go_sem,x0,x1,x2,x3]) rfl ⟨a,n,c,rfl,?_,HFR.out,jO d Dl p2 sv2,⟨q,p2,sv2,Dl,?_,?_,fun _=>xZ⟩,?_,?_⟩
    · exact kT HBY7.out g1 (fun k _ e cs fz e2=>by subst e;rw[Y4.out]at e2;cases e2)
    · rw[hrem]
      exact HM7.out.frame g1 hn4 (fun k _ e cs fz e2=>by subst e;rw[Y4.out]at e2;cases e2)
    · rw[hrem]
      exact HKE.out
    · refine(HMW.out.then HMod7.out (fun k _ e=>(HD.out k).2 (.inl e))).then g1 (fun k hk e=>by omega)
    · have hw6:w.heap.size≤wc.heap.size:=HMW.out.size
      rintro k (e | e | e | e)
      · exact .inl ((HD.out k).2 (.inl e))
      · exact .inl ((HD.out k).2 (.inr (.inl e)))
      · rcases HSX7.out with⟨h1,h2⟩ | ⟨h1,h2⟩
        · exact .inl ((HD.out k).2 (.inr (.inr (.inl (e.trans h1)))))
        · exact .inr (by omega)
      · rcases HSX7.out with⟨h1,h2⟩ | ⟨h1,h2⟩
        · exact .inl ((HD.out k).2 (.inr (.inr (.inr (h2 ▸ e)))))
        · exact .inr (by have:=h2 _ e;omega)
end
end
end Go.Proofs.YtifbnponicgplaaGreatDoor
