/- The statement ZabPlays: the walk. -/
import Derived.Carry
import Derived.Test.YthmpmgknnibljaaGreatSv16
import Derived.Test.YthmpmgknnibljaaGreatSv17
namespace Go.Proofs.YthmpmgknnibljaaGreat
open Go.Proofs.Tryz
set_option maxRecDepth 100000
set_option maxHeartbeats 12800000
open Go Go.RowKit
attribute [local go_sem ↓] Go.wp_at_zero Go.wp_at_succ
variable {w:World} {o:Own}
theorem GN.only {w':World} {o':Own} {D M pz ps pd K B Y:Nat} {y:Aj} (h:GN w o D M pz ps pd K B y) (hY:Y ≠ 0) (hD:Y<D) (s:aj (ak Y) w o w' o'):GN w' o' D M pz ps pd K B y:=by
 have ht:=h.tags;obtain ⟨z,h1,h2,h3⟩:=h;exact ⟨z,h1.step s (fun t (e:t=Y)=>⟨aP,by unfold InN;omega⟩),h2,h3⟩
theorem Aj.AgP {B:Nat} {z:Aj} (h:NOk B z) (f:Int) (l:List UInt8):EH (z.Gj f l).2:=by
 unfold Gj;split
 ·exact EH.nil
 ·split
  ·exact EH.nil
  ·rename_i m hg;exact (dX h (VH hg) _ (Nat.le_refl _)).2.1
theorem AaA.EG {v:Value} {ts:DX} (h:AaA w o v ts) {n:Nat} (hn:ts.length=n):∃ a c,v = .slice a n c:=by
 rw [<-hn];exact h.form
theorem AgA (a b:Int) {v:Value} {l:List Eo} (h:Ii w o v l) :
  Calls prog 8 #[.int .i64 a, .int .i64 b,v] w (XL ai w o fun v _ _=>v = .bool true):=by
 obtain ⟨M, -,hM⟩:=EZ o 0 w.heap.size;obtain ⟨Y,hYM⟩:∃ Y,Y=M+1:=⟨_,rfl⟩;obtain ⟨D,hD⟩:∃ D,D=M+2:=⟨_,rfl⟩;have hMD:M<D:=aP
 have hYD:Y<D:=aP
 have hMY:M<Y:=aP
 have hD0:D ≠ 0:=aP
 have hY0:Y ≠ 0:=aP
 obtain ⟨aa,ac,rfl⟩:=h.form;obtain ⟨N,hN⟩:=az (l.length);have hc:=OA h;rw [hN] at hc h ⊢;go_enter func8,ntmps8;go_wp2_with fail;refine hc.mono ?_;rintro ex W1 ⟨v,o1,rfl,hs,r,rfl,hr⟩
 cases r
 ·have hst:=hs.LW (M:=M)
  by_cases b1:b<1
  ·have hc:=Ael a b aP W1 o1 D hD0;clear hs h hr hYM hD hYD hMY hY0;go_wp2_with fail;refine hc.mono ?_;rintro ex W2 ⟨v,o2,rfl,hs,pd,ps,rfl⟩;have hst:=hst.trans (hs.mono (FP hMD));have hc:=KD W2 o2;clear hs;go_wp2_with fail;refine hc.mono ?_;rintro ex W3 ⟨v,o3,rfl,hs,rfl⟩;have hst:=Bv hst hs;clear hs hc;go_wp2_with fail;go_ret;exact ⟨_,_,rfl,hst.Hm hM,rfl⟩
  by_cases b2:3<b
  ·have hc:=Ael a b aP W1 o1 D hD0;clear hs h hr hYM hD hYD hMY hY0;go_wp2_with fail;refine hc.mono ?_;rintro ex W2 ⟨v,o2,rfl,hs,pd,ps,rfl⟩;have hst:=hst.trans (hs.mono (FP hMD));have hc:=KD W2 o2;clear hs;go_wp2_with fail;refine hc.mono ?_;rintro ex W3 ⟨v,o3,rfl,hs,rfl⟩;have hst:=Bv hst hs;clear hs hc;go_wp2_with fail;go_ret;exact ⟨_,_,rfl,hst.Hm hM,rfl⟩
  by_cases b3:a<0
  ·have hc:=Ael a b aP W1 o1 D hD0;clear hs h hr hYM hD hYD hMY hY0;go_wp2_with fail;refine hc.mono ?_;rintro ex W2 ⟨v,o2,rfl,hs,pd,ps,rfl⟩;have hst:=hst.trans (hs.mono (FP hMD));have hc:=KD W2 o2;clear hs;go_wp2_with fail;refine hc.mono ?_;rintro ex W3 ⟨v,o3,rfl,hs,rfl⟩;have hst:=Bv hst hs;clear hs hc;go_wp2_with fail;go_ret;exact ⟨_,_,rfl,hst.Hm hM,rfl⟩
  by_cases b4:b<=a
  ·have hc:=Ael a b aP W1 o1 D hD0;clear hs h hr hYM hD hYD hMY hY0;go_wp2_with fail;refine hc.mono ?_;rintro ex W2 ⟨v,o2,rfl,hs,pd,ps,rfl⟩;have hst:=hst.trans (hs.mono (FP hMD));have hc:=KD W2 o2;clear hs;go_wp2_with fail;refine hc.mono ?_;rintro ex W3 ⟨v,o3,rfl,hs,rfl⟩;have hst:=Bv hst hs;clear hs hc;go_wp2_with fail;go_ret;exact ⟨_,_,rfl,hst.Hm hM,rfl⟩
  obtain ⟨ix,rfl⟩:∃ i:Nat,a=(i:Int):=⟨a.toNat,aP⟩;obtain ⟨sz,rfl⟩:∃ i:Nat,b=(i:Int):=⟨b.toNat,aP⟩;have hs3:1<=sz/\sz<=3:=aP
  have hi3:ix<sz:=aP
  have hr:=hr rfl;have hAc:=ae h;have hc:=IJ ix sz W1 o1 D hD0 hs3.1 hs3.2 hi3;have BaF:=ae hr;clear hs h hr;go_wp2_with fail;refine hc.mono ?_;rintro ex W2 ⟨v,o2,rfl,hs,pd,ps,pz,rfl,hg⟩;have hst2:=ae (hst.trans (hs.mono (FP hMD)));have hg2:=ae hg;have hc:=AkQ Y ix sz W2 o2;clear hs hst hg;go_wp2_with fail;refine hc.mono ?_;rintro ex W3 ⟨v,o3,rfl,hs,p,rfl,hr⟩;have hg0:=aa3 (hg2.out.step0 hs) hr (Bv hst2.out hs);clear hs hr hst2 hg2 hc;go_wp2_with fail
  go_loopw [8,9,10,11,12] (fun sv zv ev yv i wr=>∃ (k:Nat) (oj:Own) (y:Aj) (Mx ps pz p:Nat),k<=N/\i = .int .i64 k/\sv = .pointer ps/\zv = .pointer pz/\ev = .int .i64 0/\yv = .pointer p/\D<=Mx/\GN wr oj D Mx pz ps pd (6*k) (DU (l.take k)) y/\AaB wr oj Y p y/\(y.id=ix/\y.n=sz/\y.waited<=k)/\aj (EN M) w o wr oj) (fun _ _ _ _ i _=>N - (intOf i).toNat)
  case atStart=>exact ⟨0,o3,_,D,ps,pz,p,Nat.zero_le _,rfl,rfl,rfl,rfl,rfl,Nat.le_refl _,by simpa [DU] using hg0.out.1,hg0.out.2.1,⟨rfl,rfl,Nat.le_refl _⟩,hg0.out.2.2⟩
  case round =>
   clear hg0;obtain ⟨k,oj,y,Mx,ps,pz,p,hk,rfl,rfl,rfl,rfl,rfl,hDx,hg,hrf,hy,hst⟩:=hrel
   by_cases hlt:k<N
   ·have AbY:(0:Int)<=(k:Int)/\(k:Int)<(N:Int):=aP
    obtain ⟨x,hx⟩:∃ x,l[k]?=some x:=⟨_,List.getElem?_eq_getElem (by rw [hN];exact hlt)⟩;obtain ⟨ab,Bbs,lv,bw,rfl,hrg,hln,hbw,hwf,hab,hoa⟩:=(hAc.out.step hst (by show ¬ M<0;omega)).at hx;obtain ⟨hfn,hfa,hfs⟩:=BaF.out;obtain ⟨q1,q2,q3⟩:=hfa x (List.mem_of_getElem? hx);have hz1:=UA hx;have hz2:=Pq l (k+1);obtain ⟨la,lc,rfl⟩:=hln.form;obtain ⟨ba,bc,rfl⟩:=Aq hbw;have AeF:=ae (show (Instr.loadAt 48 (.pointer (some (aW ab (Bbs+k*9))))).run prog wr = .ok (.agg (FH x (.slice la x.m.ls.length lc) (.slice ba x.b.length bc)).toArray) wr from kE hrg rfl);obtain ⟨xb,Wz,V1,p1,hal,hso,hs1,hx1⟩:=jY (x:=x) (lv := .slice la x.m.ls.length lc) (bv := .slice ba x.b.length bc) wr oj ⟨_,_,_,rfl⟩ ⟨_,_,_,rfl⟩;have hst1:=Bv hst hs1;have hg1:=hg.step0 hs1;have hr1:=hrf.step hs1 id id;have AfZ:=hln.step hs1 id;have hb1:=hbw.step hs1 id;have nI:¬ InN D Mx Y/\¬ InN D Mx 0:=by unfold InN;omega
    have nO0:¬ ak Y 0:=fun h=>hY0 h.symm;have aY:∀ k,ak Y k->EN M k:=fun k (h:k=Y)=>(show M<k by omega);have nA0:¬ EN M 0:=by show ¬ M<0;omega
    have hok:=ae hg1.nok;obtain ⟨r5,hr5⟩:∃ r5:Nat,x.k % 5=r5:=⟨_,rfl⟩;have hdI:(x.k:Int) % 5=(r5:Int):=aP
    have cK:V1.cell? xb=some (.int .u8 (x.k:Int)):=hx1.1 0 _ rfl;have Adh:=ae hal;have Aaz:=ae hso;clear hrg hln hbw hab hoa hs1 hg hst hal hso hrf
    go_upto_if 72 with (first
     | ((with_reducible apply Bo);exact AeF.out;simp only [Act.put,lsa,lsz,lss])
     | ((with_reducible apply AU);exact Adh.out;simp only [Act.put,lsa,lsz,lss])
     | ((with_reducible apply AC);exact Aaz.out;simp only [Act.put]))
    refine jV ?_;intro K hK
    go_cut [8,9,10,11,71,72] (fun sv zv ev yv _ _ wx=>∃ (ox:Own) (y2:Aj) (Mx2 ps2 pz2 p2:Nat),sv = .pointer ps2/\zv = .pointer pz2/\ev = .int .i64 0/\yv = .pointer p2/\D<=Mx2/\GN wx ox D Mx2 pz2 ps2 pd (6*(k+1)) (DU (l.take (k+1))) y2/\AaB wx ox Y p2 y2/\(y2.id=ix/\y2.n=sz/\y2.waited<=k+1)/\aj (EN M) w o wx ox)
    case first =>
     rcases (show r5=0 \/ r5=1 \/ r5=2 \/ r5=3 \/ r5=4 by omega) with c5 | c5 | c5 | c5 | c5
     ·have e0:((r5:Int) == 0)=true:=by rw [c5];rfl
      have hc:=KE hg1 aP aP aP (Prod.eta _).symm;obtain ⟨N1,hN1⟩:=az ((Ed y.tick.2).length);obtain ⟨N2,hN2⟩:=az (y.tick.2.length);have Akg:=ae hr1;have AoE:=ae hst1;clear cK hx1 AfZ hb1 hr1 hst1;go_wp2_with fail;refine hc.mono ?_;rintro ex w3 ⟨v,o3,rfl,hs,ho,hg3⟩;obtain ⟨xa,xc,rfl⟩:=ho.EG hN1;have hc:=AhG (Akg.out.step hs nI.1 nI.2) hY0 hok.out aP;have hA:=aa3 hg3 ho (jG hMD hDx AoE.out hs);clear hs ho hg3 Akg AoE hg1;go_wp2_with fail;refine hc.mono ?_;rintro ex w4 ⟨v,o4,rfl,hs,ht,hr4⟩;obtain ⟨ua,uc,rfl⟩:=ht.EG hN2;have hc:=AfG (hA.out.2.1.step hs nO0) ht (Aj.dA hok.out).2.1;have hB:=aa3 (hA.out.1.only hY0 hYD hs) hr4 (hA.out.2.2.trans (hs.mono aY));clear hs ht hr4 hA;go_wp2_with fail;refine hc.mono ?_;rintro ex w5 ⟨v,o5,rfl,hs,rfl⟩;have hg9:=hB.out.1.step0 hs;have hr9:=hB.out.2.1.step hs id id;have wL:=Bv hB.out.2.2 hs;clear hs hc;have hF:=aa4 (hg9.mono (K':=6*(k+1)) (B':=DU (l.take (k+1))) aP aP) hr9 (Aj.ZA y) (wL);clear hg9 hr9 wL;go_wp2_with fail;go_meet
      case rel=>exact ⟨o5,_,Mx,ps,pz,p,rfl,rfl,rfl,rfl,hDx,hF.out.1,hF.out.2.1,⟨hF.out.2.2.1.1.trans hy.1,hF.out.2.2.1.2.1.trans hy.2.1,by have:=hF.out.2.2.1.2.2;have:=hy.2.2;omega⟩,hF.out.2.2.2⟩
     ·have e0:((r5:Int) == 0)=false:=by rw [c5];rfl
      have e1:((r5:Int) == 1)=true:=by rw [c5];rfl
      have AoQ:=ae (show (Instr.loadAt 46 (.pointer (some (aW xb 2)))).run prog V1 = .ok (QK x.m (.slice la x.m.ls.length lc)) V1 from Ip (show V1.rangeAt xb 2 (EQ x.m (.slice la x.m.ls.length lc)) from ER hx1.1 2 6) rfl);have hc:=XF x.m AfZ q3;have hbl:=Ju q3;have hpl:=UF x.m;have hlen:x.m.put.length<=1000000:=aP
      have AyG:=ae hx1;have hA:=aa3 hg1 hr1 hst1;clear cK hx1 hg1 hr1 hst1 hb1
      go_wp2_with (first
       | ((with_reducible apply Bo);exact AoQ.out;simp only [Act.put,lsa,lsz,lss]))
      refine hc.mono ?_;rintro ex w5 ⟨v,o5,rfl,hs,bv,er,rfl,hb⟩;have hx5:=ae (AyG.out.step hs id);obtain ⟨PL,hPL⟩:=az (x.m.put.length);obtain ⟨ya,yc,rfl⟩:=Aq hb;rw [hPL] at hb ⊢;have hG5:=aa4 (hA.out.1.step0 hs) (hA.out.2.1.step hs id id) hb (Bv hA.out.2.2 hs);obtain ⟨N1,hN1⟩:=az ((Ed (y.Gj x.src x.m.put).2).length);obtain ⟨N2,hN2⟩:=az ((y.Gj x.src x.m.put).2.length);have hSf:=ae (fun (U:World) (q:Own) (s:aj (EN M) w5 o5 U q)=>(show U.cell? (aW xb 1)=some (.int .i64 x.src) from (hx5.out.step s nA0).1 1 _ rfl));have hS:=hSf.out w5.drew o5 (aj.refl (EN M) w5 o5).drew;clear hs hb AfZ AoQ hA hc;go_wp2_with fail;refine Aa (fun w'=>w'.cell? (aW xb 1)=some (.int .i64 x.src)) (fun _=>true) bf hS (fun hHeld => ?_);have hJ:aj (EN M) w5 o5 w5.drew o5:=(aj.refl (EN M) w5 o5).drew;refine tq 0 (h:=tq 1 (h:=tq 2 (h:=tq 3 (h:=tq 5 (h:=tq 6 (h:=tq 7 (h:=tq 8 (h:=tO 4 (h:=?_)))))))));go_wp2_with fail;refine (Fz (hG5.out.1.step0 (aj.refl ai w5 o5).drew) aP x.src (hG5.out.2.2.1.step (aj.refl ai w5 o5).drew id) hlen (AP x.m.ls) (Ia x.m) aP (Prod.eta _).symm).mono ?_;rintro ex U1 ⟨v,q1,rfl,hs,ho1,hg6⟩;obtain ⟨xa,xc,rfl⟩:=ho1.EG hN1;have hr6:=(hG5.out.2.1.step (aj.refl ai w5 o5).drew id id).step hs nI.1 nI.2;have hb6:=(hG5.out.2.2.1.step (aj.refl ai w5 o5).drew id).step hs nI.2;have hJ:=hJ.trans (hs.mono (kG hMD hDx));clear hs;go_wp2_with fail;have hHeld:=hSf.out _ _ hJ;refine ⟨fun _=>hHeld, ?_⟩;refine tO 9 (h:=?_);go_wp2_with fail;refine (AgJ hr6 hY0 hok.out x.src hb6 hlen).mono ?_;rintro ex U2 ⟨v,q2,rfl,hs,ht2,yU⟩;obtain ⟨ua,uc,rfl⟩:=ht2.EG hN2;have hg7:=hg6.only hY0 hYD hs;have ho2:=ho1.step hs nO0;have hJ:=hJ.trans (hs.mono aY);clear hs;go_wp2_with fail;have hHeld:=hSf.out _ _ hJ;refine ⟨fun _=>hHeld, ?_⟩;refine tO 10 (h:=?_);go_wp2_with fail;refine (AfG ho2 ht2 (Aj.AgP hok.out x.src x.m.put)).mono ?_;rintro ex U3 ⟨v,q3,rfl,hs,rfl⟩;have hg8:=hg7.step0 hs;have vU:=yU.step hs id id;have hJ:=hJ.trans (hs.LW);clear hs;go_wp2_with fail;have hHeld:=hSf.out _ _ hJ;refine ⟨fun _=>hHeld, ?_⟩;refine tq 11 (h:=tD (h:=?_));clear hHeld hS ho1 hr6 hb6 hg6 hg7 ho2 ht2 yU;have hF:=aa4 (hg8.mono (K':=6*(k+1)) (B':=DU (l.take (k+1))) aP aP) vU (Aj.RI y x.src x.m.put) (hG5.out.2.2.2.trans hJ);clear hg8 vU hJ;go_wp2_with fail;go_meet
      case rel=>exact ⟨q3,_,Mx,ps,pz,p,rfl,rfl,rfl,rfl,hDx,hF.out.1,hF.out.2.1,⟨hF.out.2.2.1.1.trans hy.1,hF.out.2.2.1.2.1.trans hy.2.1,by have:=hF.out.2.2.1.2.2;have:=hy.2.2;omega⟩,hF.out.2.2.2⟩
     ·have e0:((r5:Int) == 0)=false:=by rw [c5];rfl
      have e1:((r5:Int) == 1)=false:=by rw [c5];rfl
      have e2:((r5:Int) == 2)=true:=by rw [c5];rfl
      have hlen:x.b.length<=1000000:=aP
      have hx5:=ae hx1;have hG5:=aa4 hg1 hr1 hb1 hst1;obtain ⟨N1,hN1⟩:=az ((Ed (y.Gj x.src x.b).2).length);obtain ⟨N2,hN2⟩:=az ((y.Gj x.src x.b).2.length);have hSf:=ae (fun (U:World) (q:Own) (s:aj (EN M) V1 p1 U q)=>(show U.cell? (aW xb 1)=some (.int .i64 x.src)/\U.cell? (aW xb 8)=some (.slice ba x.b.length bc) from aI ((hx5.out.step s nA0).1 1 _ rfl) ((hx5.out.step s nA0).1 8 _ rfl)));have hS:=hSf.out V1.drew p1 (aj.refl (EN M) V1 p1).drew;clear cK hx1 AfZ hb1 hg1 hr1 hst1;go_wp2_with fail;refine Aa (fun w'=>w'.cell? (aW xb 1)=some (.int .i64 x.src)/\w'.cell? (aW xb 8)=some (.slice ba x.b.length bc)) (fun _=>true) bf hS (fun hHeld => ?_);have hJ:aj (EN M) V1 p1 V1.drew p1:=(aj.refl (EN M) V1 p1).drew;refine tq 0 (h:=tq 1 (h:=tq 2 (h:=tq 3 (h:=tq 4 (h:=tq 6 (h:=tq 7 (h:=tq 8 (h:=tq 9 (h:=tq 10 (h:=tO 5 (h:=?_)))))))))));go_wp2_with fail;refine (Fz (hG5.out.1.step0 (aj.refl ai V1 p1).drew) aP x.src (hG5.out.2.2.1.step (aj.refl ai V1 p1).drew id) hlen x.b.length (fun m h=>jU h) aP (Prod.eta _).symm).mono ?_;rintro ex U1 ⟨v,q1,rfl,hs,ho1,hg6⟩;obtain ⟨xa,xc,rfl⟩:=ho1.EG hN1;have hr6:=(hG5.out.2.1.step (aj.refl ai V1 p1).drew id id).step hs nI.1 nI.2;have hb6:=(hG5.out.2.2.1.step (aj.refl ai V1 p1).drew id).step hs nI.2;have hJ:=hJ.trans (hs.mono (kG hMD hDx));clear hs;go_wp2_with fail;have hHeld:=hSf.out _ _ hJ;refine ⟨fun _=>hHeld, ?_⟩;refine tO 11 (h:=?_);go_wp2_with fail;refine (AgJ hr6 hY0 hok.out x.src hb6 hlen).mono ?_;rintro ex U2 ⟨v,q2,rfl,hs,ht2,yU⟩;obtain ⟨ua,uc,rfl⟩:=ht2.EG hN2;have hg7:=hg6.only hY0 hYD hs;have ho2:=ho1.step hs nO0;have hJ:=hJ.trans (hs.mono aY);clear hs;go_wp2_with fail;have hHeld:=hSf.out _ _ hJ;refine ⟨fun _=>hHeld, ?_⟩;refine tO 12 (h:=?_);go_wp2_with fail;refine (AfG ho2 ht2 (Aj.AgP hok.out x.src x.b)).mono ?_;rintro ex U3 ⟨v,q3,rfl,hs,rfl⟩;have hg8:=hg7.step0 hs;have vU:=yU.step hs id id;have hJ:=hJ.trans (hs.LW);clear hs;go_wp2_with fail;have hHeld:=hSf.out _ _ hJ;refine ⟨fun _=>hHeld, ?_⟩;refine tq 13 (h:=tD (h:=?_));clear hHeld hS ho1 hr6 hb6 hg6 hg7 ho2 ht2 yU;have hF:=aa4 (hg8.mono (K':=6*(k+1)) (B':=DU (l.take (k+1))) aP aP) vU (Aj.RI y x.src x.b) (hG5.out.2.2.2.trans hJ);clear hg8 vU hJ;go_wp2_with fail;go_meet
      case rel=>exact ⟨q3,_,Mx,ps,pz,p,rfl,rfl,rfl,rfl,hDx,hF.out.1,hF.out.2.1,⟨hF.out.2.2.1.1.trans hy.1,hF.out.2.2.1.2.1.trans hy.2.1,by have:=hF.out.2.2.1.2.2;have:=hy.2.2;omega⟩,hF.out.2.2.2⟩
     ·have e0:((r5:Int) == 0)=false:=by rw [c5];rfl
      have e1:((r5:Int) == 1)=false:=by rw [c5];rfl
      have e2:((r5:Int) == 2)=false:=by rw [c5];rfl
      have e3:((r5:Int) == 3)=true:=by rw [c5];rfl
      have hlen:x.b.length<=1000000:=aP
      have hx5:=ae hx1;have hG5:=aa4 hg1 hr1 hb1 hst1;obtain ⟨E1,hE1⟩:=az ((y.BL x.b).2);have hSf:=ae (fun (U:World) (q:Own) (s:aj (EN M) V1 p1 U q)=>(show U.cell? (aW xb 8)=some (.slice ba x.b.length bc) from (hx5.out.step s nA0).1 8 _ rfl));have hS:=hSf.out V1.drew p1 (aj.refl (EN M) V1 p1).drew;clear cK hx1 AfZ hb1 hg1 hr1 hst1;go_wp2_with fail;refine Aa (fun w'=>w'.cell? (aW xb 8)=some (.slice ba x.b.length bc)) (fun _=>true) bf hS (fun hHeld => ?_);have hJ:aj (EN M) V1 p1 V1.drew p1:=(aj.refl (EN M) V1 p1).drew;refine tq 0 (h:=tq 1 (h:=tq 2 (h:=tq 4 (h:=tq 5 (h:=tq 6 (h:=tO 3 (h:=?_)))))));go_wp2_with fail;refine (Gs (hG5.out.1.step0 (aj.refl ai V1 p1).drew) aP (hG5.out.2.2.1.step (aj.refl ai V1 p1).drew id) aP (Prod.eta _).symm).mono ?_;rintro ex U1 ⟨v,q1,rfl,hs,rfl,hg6⟩;rw [hE1];have hr6:=(hG5.out.2.1.step (aj.refl ai V1 p1).drew id id).step hs nI.1 nI.2;have hb6:=(hG5.out.2.2.1.step (aj.refl ai V1 p1).drew id).step hs nI.2;have hJ:=hJ.trans (hs.mono (kG hMD hDx));clear hs;go_wp2_with fail;have hHeld:=hSf.out _ _ hJ;refine ⟨fun _=>hHeld, ?_⟩;refine tO 7 (h:=?_);go_wp2_with fail;refine (AfK hr6 hY0 hok.out hb6 hlen).mono ?_;rintro ex U2 ⟨v,q2,rfl,hs,rfl,vU⟩;rw [hE1];have hg8:=hg6.only hY0 hYD hs;have hJ:=hJ.trans (hs.mono aY);clear hs;go_wp2_with fail;have hHeld:=hSf.out _ _ hJ;refine ⟨fun _=>hHeld, ?_⟩;refine tq 8 (h:=tD (h:=?_));clear hHeld hS hr6 hb6 hg6;have hF:=aa4 (hg8.mono (K':=6*(k+1)) (B':=DU (l.take (k+1))) aP aP) vU (Aj.jR y x.b) (hG5.out.2.2.2.trans hJ);clear hg8 vU hJ;go_wp2_with fail;go_meet
      case rel=>exact ⟨q2,_,Mx,ps,pz,p,rfl,rfl,rfl,rfl,hDx,hF.out.1,hF.out.2.1,⟨hF.out.2.2.1.1.trans hy.1,hF.out.2.2.1.2.1.trans hy.2.1,by have:=hF.out.2.2.1.2.2;have:=hy.2.2;omega⟩,hF.out.2.2.2⟩
     ·have e0:((r5:Int) == 0)=false:=by rw [c5];rfl
      have e1:((r5:Int) == 1)=false:=by rw [c5];rfl
      have e2:((r5:Int) == 2)=false:=by rw [c5];rfl
      have e3:((r5:Int) == 3)=false:=by rw [c5];rfl
      have e4:((r5:Int) == 4)=true:=by rw [c5];rfl
      obtain ⟨z,hz,hz2,hzy⟩:=hg1;have hsp:=hz2.sp;have htk:z.s.kept=y.k:=by rw [<-hzy];rfl
      have hdd:({ z with s:={ z.s with d:=z.s.d.kill } }:Am).dead=true:=by
       show (z.s.dead || true)=true;rw [Bool.or_true]
      have nD:¬ ak D Y/\¬ ak D 0:=⟨fun (h:Y=D)=>aP,fun (h:0=D)=>aP⟩;have nX:¬ EN (Mx+4) Y/\¬ EN (Mx+4) 0:=⟨fun (h:Mx+4<Y)=>aP,fun (h:Mx+4<0)=>aP⟩;have aD:∀ k,ak D k->EN M k:=fun k (h:k=D)=>(show M<k by omega);have aX:∀ k,EN (Mx+4) k->EN M k:=fun k (h:Mx+4<k)=>(show M<k by omega);have hnH:=aa4 nD nX aD aX;have hpH:=aa3 hsp htk hdd;have hc:=jX hz.store.dsk;have hA:=aa2 hr1 hst1;have hzH:=ae hz;clear cK hx1 AfZ hb1 hr1 hst1 hz2 hzy hz hsp htk hdd nD nX aD aX nO0 aY nA0 nI;go_wp2_with fail;refine hc.mono ?_;rintro ex w3 ⟨v,o3,rfl,hs,rfl,hd⟩;have hz3:=ae (hzH.out.under hs hd);have hA3:=aa2 (hA.out.1.step hs hnH.out.1.1 hnH.out.1.2) (hA.out.2.trans (hs.mono hnH.out.2.2.1));have hc:=FI hz3.out;rw [hpH.out.2.2] at hc;clear hs hd hA hzH;go_wp2_with fail;refine hc.mono ?_;rintro ex w' ⟨rfl,rfl⟩;have hc:=AjW hz3.out hpH.out.2.2;go_wp2_with fail;refine hc.mono ?_;rintro ex w4 ⟨v,o4,rfl,hs,rfl⟩;have st4:aj ai w4 o4 (w4.alloc (.cells #[.int .u8 1] 5)) (Ak o4 w4.heap.size (0,0)):=(aj.refl ai w4 o4).alloc _ _;have hs4:=hs.trans st4;have hz5:=hz3.out.step0 hs4;have hA5:=aa2 (hA3.out.1.step hs4 id id) (Bv hA3.out.2 hs4);have hc:=dJ hz5 hpH.out.2.2 (some ⟨w4.heap.size,0,none⟩) 1 1;have hd5:=ae hz5.store.dsk;clear hs st4 hs4 hz5 hz3 hA3;go_wp2_with fail;refine hc.mono ?_;rintro ex w' ⟨rfl,rfl⟩;have hc:=jZ hpH.out.1 hD0 hd5.out none 0;clear hd5;go_wp2_with fail;refine hc.mono ?_;rintro ex w6 ⟨v,o6,rfl,hs,rfl,hd⟩;have hA6:=aa2 (hA5.out.1.step hs hnH.out.1.1 hnH.out.1.2) (hA5.out.2.trans (hs.mono hnH.out.2.2.1));have hc:=jO hpH.out.1 aP (Mx+4) aP hD0 hd;clear hs hd hA5;go_wp2_with fail;refine hc.mono ?_;rintro ex w7 ⟨v,o7,rfl,hs,ps3,rfl,hsa⟩;have hA7:=aa2 (hA6.out.1.step hs hnH.out.2.1.1 hnH.out.2.1.2) (hA6.out.2.trans (hs.mono hnH.out.2.2.2));have Ale:({ z.s with d:={ z.s.d with left := -1 } }:AZ).kept=y.k:=hpH.out.2.1;have hc:=Xa (B:=DU (l.take k)) hpH.out.1.jH (M:=Mx+4) ⟨aP,hD0⟩ hsa hs3.1 hs3.2 hi3 (by rw [Ale];exact hok.out.ls) (by rw [Ale];exact hok.out.cp) (by rw [Ale];exact hok.out.pt);rw [Ale] at hc;clear hs hsa Ale hA6;go_wp2_with fail;refine hc.mono ?_;rintro ex w8 ⟨v,o8,rfl,hs,pz3,rfl,hg8⟩;have hA8:=aa3 (hA7.out.1.step hs id id) (Bv hA7.out.2 hs) hg8;have hc:=AiH Y hA8.out.1;clear hs hA7 hg8;go_wp2_with fail;refine hc.mono ?_;rintro ex w9 ⟨v,o9,rfl,hs,p3,rfl,hr9⟩;rw [hy.1,hy.2.1] at hr9;have hF:=aa3 ((hA8.out.2.2.step0 hs).mono (K':=6*(k+1)) (B':=DU (l.take (k+1))) aP aP) hr9 (Bv hA8.out.2.1 hs);clear hs hr9 hA8 hc;go_wp2_with fail;go_meet
      case rel=>exact ⟨o9,Aj.new ix sz y.k,Mx+4,ps3,pz3,p3,rfl,rfl,rfl,rfl,aP,hF.out.1,hF.out.2.1,⟨rfl,rfl,Nat.zero_le _⟩,hF.out.2.2⟩
    case rest =>
     obtain ⟨ox,y2,Mx2,ps2,pz2,p2,rfl,rfl,rfl,rfl,BaI,hg2,hr2,hy2,hst2⟩:=hcut;have hc:=alike_any hg2 aP hr2;have hA:=aa3 hg2 hr2 hst2;clear hx1 cK AfZ hb1 hg1 hst1 hr1 AeF Adh Aaz hg2 hr2 hst2;go_wp2_with fail;refine hc.mono ?_;rintro ex w9 ⟨v,o9,rfl,hs,rfl⟩;have hF:=aa3 (hA.out.1.step0 hs) (hA.out.2.1.step hs id id) (Bv hA.out.2.2 hs);clear hs hA hc;go_wp2_with fail;go_roundw
     case rel=>exact ⟨k+1,o9,y2,Mx2,ps2,pz2,p2,aP,by go_num,rfl,rfl,rfl,rfl,BaI,hF.out.1,hF.out.2.1,hy2,hF.out.2.2⟩
     case measure=>simp [intOf];omega
   ·obtain rfl:k=N:=aP
    have hc:=KD wr oj;go_wp2_with fail;refine hc.mono ?_;rintro ex w9 ⟨v,o9,rfl,hs,rfl⟩;have hst:=Bv hst hs;clear hs hc;go_wp2_with fail;go_ret;exact ⟨_,_,rfl,hst.Hm hM,rfl⟩
 ·have hst:=hs;clear hs hr h;go_wp2_with fail;go_ret;exact ⟨_,o1,rfl,hst,rfl⟩

end Go.Proofs.YthmpmgknnibljaaGreat
