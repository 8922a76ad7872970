/- Contract of zab's hearAppend. -/
import Derived.Outline
import Derived.Deep.Upon
import Derived.Test.YtffkdillijmamaaGreatGk9
import Derived.Test.YtffkdillijmamaaGreatGk11
namespace Go.Proofs.YtffkdillijmamaaGreat
open Go.Proofs.Tryz
set_option maxRecDepth 100000
set_option maxHeartbeats 12800000
open Go Go.RowKit
attribute [local go_sem ↓] Go.wp_at_zero Go.wp_at_succ
section
variable {w:World} {o:Own} {D M pz ps pd K B base:Nat} {z:Am}
theorem PZ (h:Bc w o D M pz ps pd z) (hp:Am.NP K B z) (hK:K+600<65536) (src:Nat) (m:BG) (hm:m.May) (hB:B+AP m.ls<=90000) {lv:Value} (hl:Lines w o base lv m.ls) :
  Calls prog 153 #[.pointer (some ⟨pz,0,none⟩), .int .i64 (src:Int),Ea m lv] w (XL (KC D M) w o fun v w' o'=>Dn w' o' v (Ed (z.BF src m).2)/\Bc w' o' D M pz ps pd (z.BF src m).1):=by
 obtain ⟨R,hR⟩:∃ R,z.BF src m=R:=⟨_,rfl⟩;rw [hR];unfold Am.BF at hR;obtain ⟨la,lc,hlv⟩:=hl.form;obtain ⟨n,hn⟩:∃ n,m.ls.length=n:=⟨_,rfl⟩;rw [hn] at hlv;subst hlv;have hn3:z.n<=3:=hp.ok.n3;have hn1:1<=z.n:=hp.ok.n1;have hls:En B z.s.kept.lines:=hp.ok.ls;have hsm:=En.small hls (by omega);have s1:=(aj.refl ai w o).alloc (.cells (Bf m (.slice la n lc)).toArray 150) (0,0);have gI:=heap_alloc_new w (.cells (Bf m (.slice la n lc)).toArray 150);have mo1:=Au o w.heap.size (0,0);generalize Ak o w.heap.size (0,0)=o1 at *;obtain ⟨W1,hW1⟩:∃ W1,w.alloc (.cells (Bf m (.slice la n lc)).toArray 150)=W1:=⟨_,rfl⟩;rw [hW1] at s1 gI;have hbx:(Instr.box 150 (Ea m (.slice la n lc))).run prog w = .ok (.pointer (some ⟨w.heap.size,0,none⟩)) W1:=by rw [<-hW1];kernel_rfl
 obtain ⟨mb,hmb⟩:∃ b,w.heap.size=b:=⟨_,rfl⟩;rw [hmb] at gI mo1 hbx;have h1:=h.step0 s1;have hl1:=hl.step s1 id;obtain ⟨-, -,e2, -⟩:=h1.cell;unfold Ea at hbx ⊢;have xH:=ae hbx;have hkp:=ae (DJ h1.store hsm);have hA:=ae (aI s1 (aI gI (aI mo1 (aI h1 hl1))));have hPH:=ae hp;have hmH:=ae hm;have hI:=ae (aI hn3 (aI hn1 (aI hls hsm)));have hnH:=ae hn;clear s1 gI mo1 h1 hl1 hW1 hmb hbx h hl hp hm hn3 hn1 hls hsm hn;go_enter func153,ntmps153
 go_wp2_with ((with_reducible apply BM);exact xH.out;simp only [Act.put,GL,DL,lss])
 refine hkp.out.mono ?_;rintro ex w2 ⟨v2,o2,rfl,hs2,lk,rfl,hlk,rfl⟩;obtain ⟨ka,kc,rfl⟩:=hlk.form;obtain ⟨L,hL⟩:∃ L,z.s.kept.lines.length=L:=⟨_,rfl⟩;have kal:=AB (P:=prog) w2 37 _ OZ;have kst:=MX w2 z.s.kept.promised z.s.kept.current ka L kc;have k3:=(aj.refl ai w2 (ext W1 o1)).alloc (.cells (BR z.s.kept.promised z.s.kept.current (.slice ka L kc)).toArray 37) (0,0);have kb3:=heap_alloc_new w2 (.cells (BR z.s.kept.promised z.s.kept.current (.slice ka L kc)).toArray 37);have ko3:=Au (ext W1 o1) w2.heap.size (0,0);generalize Ak (ext W1 o1) w2.heap.size (0,0)=o3 at *;obtain ⟨W3,hW3⟩:∃ W3,w2.alloc (.cells (BR z.s.kept.promised z.s.kept.current (.slice ka L kc)).toArray 37)=W3:=⟨_,rfl⟩;rw [hW3] at kst k3 kb3;obtain ⟨kb,hkb⟩:∃ b,w2.heap.size=b:=⟨_,rfl⟩;rw [hkb] at kal kst kb3 ko3;obtain ⟨s1,gI,mo1,h1,hl1⟩:=hA.out;have k13:=hs2.trans k3;have h3:=h1.step0 k13;have mb3:=(k13.block _ (au gI) id).trans gI;have mo3:=(k13.own _ (au gI)).trans mo1;have hl3:=hl1.step k13 id;have Ade:=(hlk.step k3 id).low (Nat.zero_le _);have st3:=s1.trans k13;rw [hL] at Ade;obtain ⟨m0,m1,m2,m3,m4,m5⟩:=Gt mb3;have kc0:=ag kb3 0;have kc1:=ag kb3 1;have kc2:=ag kb3 2;simp only [BR,ay,ax] at kc0 kc1 kc2;have how:=ae (PM h3 hI.out.2.1 hI.out.1 src m.e);have hQ:=ae (aI st3 (aI mb3 (aI mo3 (aI h3 (aI hl3 (aI kb3 (aI ko3 Ade)))))));have AiS:=ae kal;have AiR:=ae kst;rw [hL];clear hs2 hlk kal kst k3 kb3 ko3 hW3 hkb s1 gI mo1 h1 hl1 k13 h3 mb3 mo3 hl3 Ade st3 hkp e2
 go_wp2_with (first
  | ((with_reducible apply AU);exact AiS.out;simp only [Act.put,GL,DL,lss])
  | ((with_reducible apply AC);exact AiR.out;simp only [Act.put]))
 refine how.out.mono ?_;rintro ex w' ⟨rfl,rfl⟩
 cases ho:z.BN.owns src m.e with
 | false =>
  rw [ho] at hR;simp only [Bool.not_false,if_true] at hR;have KI:=ae hR;clear ho hR;go_wp2_with fail;go_ret;refine ⟨_,o3,rfl,hQ.out.1.mono (fun _ h=>h.elim), ?_, ?_⟩
  ·rw [<-KI.out];exact Dn.nil _ _
  ·rw [<-KI.out];exact hQ.out.2.2.2.1
 | true =>
  rw [ho] at hR;simp only [Bool.not_true,Bool.false_eq_true,if_false] at hR;clear ho;have hpt:z.s.kept.promised.toNat<=281474976710656:=hPH.out.ok.pt
  by_cases hle:m.e.toNat<z.s.kept.promised.toNat
  ·rw [if_pos hle] at hR;have KI:=ae hR;have Ama:(m.e.toNat:Int)<(z.s.kept.promised.toNat:Int):=by omega
   have hrf:=ae (Lt hQ.out.2.2.2.1 hI.out.2.2.2 (by have:=hmH.out.e1;omega) hpt src);clear hR;go_wp2_with fail;refine hrf.out.mono ?_;rintro ex w4 ⟨v4,o4,rfl,hs4,hou⟩;have hF:=ae (aI (hQ.out.1.trans hs4) (aI hou (hQ.out.2.2.2.1.step0 hs4)));obtain ⟨xa,xc,rfl⟩:=hou.form;clear hs4 hou hrf;go_wp2_with fail;go_ret;refine ⟨_,o4,rfl,hF.out.1.mono (fun _ h=>h.elim), ?_, ?_⟩
   ·rw [<-KI.out];exact hF.out.2.1
   ·rw [<-KI.out];exact hF.out.2.2
  ·rw [if_neg hle] at hR;have Ama:¬ (m.e.toNat:Int)<(z.s.kept.promised.toNat:Int):=by omega
   by_cases hpc:z.s.kept.promised ≠ m.e \/ z.s.kept.current ≠ m.e
   ·rw [if_pos hpc] at hR;have KI:=ae hR;clear hR
    by_cases hp1:z.s.kept.promised=m.e
    ·have hcI:¬ (z.s.kept.current.toNat:Int)=(m.e.toNat:Int):=fun h=>(hpc.resolve_left (fun h=>h hp1)) (BitVec.eq_of_toNat_eq (by omega));have hpI:(z.s.kept.promised.toNat:Int)=(m.e.toNat:Int):=by rw [hp1]
     clear hpc hp1;go_wp2_with fail;go_ret;refine ⟨_,o3,rfl,hQ.out.1.mono (fun _ h=>h.elim), ?_, ?_⟩
     ·rw [<-KI.out];exact Dn.nil _ _
     ·rw [<-KI.out];exact hQ.out.2.2.2.1
    ·have hpI:¬ (z.s.kept.promised.toNat:Int)=(m.e.toNat:Int):=fun h=>hp1 (BitVec.eq_of_toNat_eq (by omega));clear hpc hp1;go_wp2_with fail;go_ret;refine ⟨_,o3,rfl,hQ.out.1.mono (fun _ h=>h.elim), ?_, ?_⟩
     ·rw [<-KI.out];exact Dn.nil _ _
     ·rw [<-KI.out];exact hQ.out.2.2.2.1
   ·rw [if_neg hpc] at hR;have hpI:(z.s.kept.promised.toNat:Int)=(m.e.toNat:Int):=by
     by_cases h:z.s.kept.promised=m.e
     ·rw [h]
     ·exact absurd (.inl h) hpc
    have hcI:(z.s.kept.current.toNat:Int)=(m.e.toNat:Int):=by
     by_cases h:z.s.kept.current=m.e
     ·rw [h]
     ·exact absurd (.inr h) hpc
    clear hpc;have hfo:=ae (FD hQ.out.2.2.2.1);rw [hL] at hR;go_wp2_with fail;refine hfo.out.mono ?_;rintro ex W7 ⟨v7,o7,rfl,hs7,rfl,hn7⟩;have n4:¬ ak (M+4) 0:=fun h=>by unfold ak at h;omega
    obtain ⟨st3,mb3,mo3,h3,hl3,kb3,ko3,Ade⟩:=hQ.out;have mb7:=(hs7.block mb (au mb3) (by rw [mo3];exact n4)).trans mb3;have kb7:=(hs7.block kb (au kb3) (by rw [ko3];exact n4)).trans kb3;have mo7:(o7 mb).1=0:=by rw [hs7.own mb (au mb3),mo3]
    have wY:=hl3.step hs7 n4;have st7:=(st3.mono (T':=KC D M) (fun _ h=>h.elim)).trans (hs7.mono (T':=KC D M) (fun k h=>(show KC D M k by cases h;exact KC.own)));obtain ⟨m0',m1',m2',m3',m4',m5'⟩:=Gt mb7;have k2':=ag kb7 2;simp only [BR,ay,ax] at k2';have haI:(0:Int)<=(m.at':Int)/\(m.at':Int)<=256:=by have:=hmH.out.a1;omega
    have hLI:(0:Int)<=(L:Int)/\(L:Int)<=256:=by have:=hI.out.2.2.1.n;omega
    have hnI:(0:Int)<=(n:Int)/\(n:Int)<=256:=by have:=hmH.out.n1;have:=hnH.out;omega
    have hG7:=ae (aI st7 (aI hn7 (aI mb7 (aI mo7 wY))));clear hs7 hn7 st3 mb3 mo3 h3 hl3 kb3 ko3 Ade mb7 kb7 mo7 wY st7 hfo m0 m1 m2 m3 m4 m5 kc0 kc1 kc2
    by_cases hat:L<m.at'
    ·rw [if_pos hat] at hR;have KI:=ae hR;have AzY:(L:Int)<(m.at':Int):=by omega
     clear hR;go_wp2_with fail;go_ret;refine ⟨_,o7,rfl,hG7.out.1, ?_, ?_⟩
     ·rw [<-KI.out];exact Dn.nil _ _
     ·rw [<-KI.out];exact hG7.out.2.1
    ·rw [if_neg hat] at hR;have AzY:¬ (L:Int)<(m.at':Int):=by omega
     obtain ⟨xi,hxi⟩:∃ k,min n (L - m.at')=k:=⟨_,rfl⟩;have Aup:min (n:Int) ((L:Int) - (m.at':Int))=(xi:Int):=by omega
     have hxn:xi<=m.ls.length:=by rw [hnH.out];omega
     have hdr:m.ls.drop (L - m.at')=m.ls.drop xi:=by
      by_cases hc:L - m.at'<=n
      ·rw [show xi=L - m.at' by omega]
      ·rw [List.drop_eq_nil_of_le (by rw [hnH.out];omega),List.drop_eq_nil_of_le (by rw [hnH.out];omega)]
     rw [hdr] at hR;obtain ⟨sv,hrun,hSL⟩:=Oz hG7.out.2.2.2.2 xi hxn;obtain ⟨more,hmo⟩:∃ l,m.ls.drop xi=l:=⟨_,rfl⟩;rw [hmo] at hSL hR;obtain ⟨sa,sc,rfl⟩:=hSL.form;obtain ⟨r,hr⟩:∃ k,more.length=k:=⟨_,rfl⟩;rw [hr] at hrun;have hrI:(0:Int)<=(r:Int)/\(r:Int)<=256:=by
      have:more.length<=m.ls.length:=by rw [<-hmo,List.length_drop];omega
      rw [hr,hnH.out] at this;omega
     have Aax:=ae hrun;have Aro:=ae hSL;have Aqs:=ae hmo;have tN:=ae hr;clear hrun hSL hdr hxn hxi
     by_cases hmz:more=[]
     ·rw [if_pos hmz] at hR;have hr0:r=0:=by rw [<-hr,hmz];rfl
      subst hr0;have KI:=ae hR;clear hR hr hmo
      go_wp2_with ((with_reducible apply FM);exact Aax.out _;simp only [Act.put,GL,DL,lss])
      clear m0' m1' m2' m3' m4' m5' k2' Aup;obtain ⟨Zc,hZc⟩:∃ Zc,z.follow=Zc:=⟨_,rfl⟩;obtain ⟨WE,hWE⟩:∃ WE,W7=WE:=⟨_,rfl⟩;obtain ⟨oE,hoE⟩:∃ oE,o7=oE:=⟨_,rfl⟩;have hzc:Zc.Ag=z.Ag:=by rw [<-hZc];rfl
      have hzs:Zc.s=z.s:=by rw [<-hZc];rfl
      have hE:=ae (aI hG7.out.1 (aI hG7.out.2.1 (aI hG7.out.2.2.1 hG7.out.2.2.2.1)));rw [hZc] at KI hE;rw [<-hL] at KI;rw [<-hzs] at KI;have hKL:=ae (aI hI.out.2.2.2 hI.out.2.2.1.n);rw [<-hzs] at hKL;subst hWE;subst hoE;clear hG7 Aro Aax Aqs tN hZc hzs;obtain ⟨V,hV⟩:∃ V,W7.drew=V:=⟨_,rfl⟩;have dr:aj ai W7 o7 V o7:=by rw [<-hV];exact (aj.refl ai W7 o7).drew
      have hNV:=hE.out.2.1.step0 dr;have mbV:=(dr.block _ (au hE.out.2.2.1) id).trans hE.out.2.2.1;obtain ⟨-, -,e2, -, -,e6⟩:=hNV.cell;rw [hzc] at e6;have q4:V.cell? ⟨mb,4,none⟩=some (.int .i64 (m.com:Int)):=ag mbV 4;have hS:=aI e6 (aI q4 e2);rw [<-hV] at hS;have Amd:=ae (DJ hNV.store hKL.out.1);have hEV:=ae (aI (hE.out.1.trans (dr.mono (T':=KC D M) (fun _ h=>h.elim))) (aI hNV mbV));obtain ⟨KLn,AmC⟩:∃ k,Zc.s.kept.lines.length=k:=⟨_,rfl⟩;have Amn:(0:Int)<=(z.Ag:Int)/\(z.Ag:Int)<=256:=by
       have h1:z.Ag<=z.s.kept.lines.length:=hPH.out.ok.co;have:=hI.out.2.2.1.n;omega
      have AzN:(0:Int)<=(m.com:Int)/\(m.com:Int)<=256:=by have:=hmH.out.o1;omega
      have Azx:(0:Int)<=(KLn:Int)/\(KLn:Int)<=256:=by have:=hKL.out.2;omega
      have hx1:min (m.com:Int) (KLn:Int)=((min m.com KLn:Nat):Int):=by omega
      obtain ⟨mn,hmn⟩:∃ k,min m.com KLn=k:=⟨_,rfl⟩;rw [hmn] at hx1;have hx2:max (z.Ag:Int) (mn:Int)=((max z.Ag mn:Nat):Int):=by omega
      have Agg:=ae AmC;have AlQ:=ae hmn;clear dr hNV mbV e2 e6 q4 AmC hmn;refine Aa (fun w'=>w'.cell? ⟨pz,6,none⟩=some (.int .i64 (z.Ag:Int))/\w'.cell? ⟨mb,4,none⟩=some (.int .i64 (m.com:Int))/\w'.cell? ⟨pz,2,none⟩=some (.pointer (some ⟨ps,0,none⟩))) (fun i=>decide (i<18)) (by kernel_rfl) hS (fun hHeld => ?_);rw [hV] at hHeld ⊢;clear hV hS;refine tq 0 (h:=tq 1 (h:=tq 2 (h:=tq 3 (h:=tq 4 (h:=tq 5 (h:=tq 6 (h:=tq 7 (h:=tq 8 (h:=tq 9 (h:=tq 10 (h:=tO 11 (h:=?_))))))))))));go_wp2_with fail;refine Amd.out.mono ?_;rintro ex W9 ⟨v9,o9,rfl,hs9,lk9,rfl,AhZ,rfl⟩;obtain ⟨k9a,k9c,rfl⟩:=AhZ.form;rw [Agg.out];have hN9:=hEV.out.2.1.step0 hs9;have mb9:=(hs9.block _ (au hEV.out.2.2) id).trans hEV.out.2.2;have mo9:(ext V o7 mb).1=0:=by rw [hs9.own _ (au hEV.out.2.2)];exact hE.out.2.2.2
      obtain ⟨-, -,e2, -, -,e6⟩:=hN9.cell;rw [hzc] at e6;have q4:W9.cell? ⟨mb,4,none⟩=some (.int .i64 (m.com:Int)):=ag mb9 4;have hS9:=aI e6 (aI q4 e2);have f6:=hN9.free 6;obtain ⟨hcm,kcm⟩:=hN9.Ag (max z.Ag mn);have n4:¬ ak (M+4) 0:=fun h=>by unfold ak at h;omega
      have AkV:=(kcm.block mb (au mb9) (by rw [mo9];exact n4)).trans mb9;have c10:=ag AkV 1;simp only [Bf,ay,ax] at c10;have hak:=ae (OY (D:=D) hcm hKL.out.2 hKL.out.1 m.e hmH.out.e1 hmH.out.e2 src);have Afd:=ae (aI ((hEV.out.1.trans (hs9.mono (T':=KC D M) (fun _ h=>h.elim))).trans (kcm.mono (T':=KC D M) (fun k h=>(show KC D M k by cases h;exact KC.own)))) hcm);have hfk:=fun W=>He W (.int .u64 (Zc.s.kept.promised.toNat:Int)) (.int .u64 (Zc.s.kept.current.toNat:Int)) (.slice k9a KLn k9c);unfold Dy;clear hs9 AhZ hN9 mb9 mo9 hcm kcm n4 AkV Amd hHeld;go_wp2_with fail;refine ⟨fun _=>hS9, ?_⟩;refine tq 12 (h:=tq 13 (h:=tq 14 (h:=tq 15 (h:=tO 16 (h:=?_)))));go_wp2_with fail;refine ⟨fun _=>hS9, ?_⟩;refine tq 17 (h:=tO 18 (h:=?_));go_wp2_with fail;refine ⟨fun h=>by simp at h, ?_⟩;refine tD (h:=?_);clear e6 q4 e2 f6 hx1 hx2 hfk;go_wp2_with fail;refine hak.out.mono ?_;rintro ex W11 ⟨v11,o11,rfl,hs11,hou⟩;have hF:=ae (aI (Afd.out.1.trans (hs11.mono (fun _ h=>h.elim))) (aI hou (Afd.out.2.step0 hs11)));obtain ⟨xa,xc,rfl⟩:=hou.form;clear hs11 hou hak;go_wp2_with fail;go_ret;refine ⟨_,o11,rfl,hF.out.1, ?_, ?_⟩
      ·rw [<-KI.out,Agg.out,AlQ.out];exact hF.out.2.1
      ·rw [<-KI.out,Agg.out,AlQ.out];exact hF.out.2.2
     ·rw [if_neg hmz] at hR;have hr1:0<r:=by
       rw [<-hr];exact List.length_pos_iff.2 hmz
      have hrp:(0:Int)<(r:Int):=by omega
      have hbm:AP more<=AP m.ls:=by rw [<-hmo];exact FN _ _
      have Auo:small more:=by
       have h1:=hmH.out.small;have h2:=FN m.ls xi;rw [hmo] at h2;have h3:more.length<=m.ls.length:=by rw [<-hmo,List.length_drop];omega
       refine ⟨Nat.le_trans h3 h1.1, ?_⟩;rw [Ej];have:=h1.2;rw [Ej] at this;omega
      have Afm:small (z.s.kept.lines++more):=by
       have h1:=hI.out.2.2.1;have h4:more.length<=m.ls.length:=by rw [<-hmo,List.length_drop];omega
       have h5:=hmH.out.n1;refine ⟨by rw [List.length_append];have:=h1.n;omega, ?_⟩;rw [Ej,List.length_append,DV];have:=h1.n;have:=h1.b;omega
      have hap:=Ob hG7.out.2.1.tags hG7.out.2.1.store hPH.out.sp Aro.out Auo hI.out.2.2.2 (.inl Afm);have hfit:=Jy hPH.out.sp hK hPH.out.kok more;obtain ⟨Q,hQQ⟩:∃ Q,z.s.append more=Q:=⟨_,rfl⟩;have hQs:z.follow.s=z.s:=rfl;rw [hQs] at hap;simp only [hQQ] at hap hfit hR;rw [hr] at hap;have xK:=ae hap;obtain ⟨-, -,e2, -⟩:=hG7.out.2.1.cell;clear hap hbm Auo Afm hr hr1 hmo hmz
      rcases hfit with ⟨s',er,hf2,hf1⟩ | ⟨hf0,s',hf2,hf3,hf4⟩
      ·subst hf2;have hz1:(er == 0)=false:=by simpa using hf1
       have hz2:(er != 0)=true:=by simpa using hf1
       rw [if_neg (show ¬ (s',er).2=0 from hf1)] at hR;have KI:=ae hR;clear hR
       go_wp2_with ((with_reducible apply FM);exact Aax.out _;simp only [Act.put,GL,DL,lss])
       refine xK.out.mono ?_;rintro ex W8 ⟨v8,o8,rfl,hs8,rfl,Aft⟩;have hF:=ae (aI (hG7.out.1.trans (hs8.mono KC.in4)) (hG7.out.2.1.restore hs8 Aft));clear hs8 Aft xK m0' m1' m2' m3' m4' m5' k2' e2;go_wp2_with fail;go_ret;refine ⟨_,o8,rfl,hF.out.1, ?_, ?_⟩
       ·rw [<-KI.out];exact Dn.nil _ _
       ·rw [<-KI.out];exact hF.out.2
      ·subst hf2;rw [if_pos rfl] at hR;have KI:=ae hR;clear hR
       go_wp2_with ((with_reducible apply FM);exact Aax.out _;simp only [Act.put,GL,DL,lss])
       refine xK.out.mono ?_;rintro ex W8 ⟨v8,o8,rfl,hs8,rfl,Aft⟩;have n0:=n04 hG7.out.2.1.tags;obtain ⟨Zc,hZc⟩:∃ Zc,({ z.follow with s:=s' }:Am)=Zc:=⟨_,rfl⟩;have hzc:Zc.Ag=z.Ag:=by rw [<-hZc];rfl
       have hzs:Zc.s=s':=by rw [<-hZc]
       have hE:=ae (aI (hG7.out.1.trans (hs8.mono KC.in4)) (aI (hG7.out.2.1.restore hs8 Aft) (aI ((hs8.block mb (au hG7.out.2.2.1) (by rw [hG7.out.2.2.2.1];exact n0)).trans hG7.out.2.2.1) (show (o8 mb).1=0 by rw [hs8.own mb (au hG7.out.2.2.1)];exact hG7.out.2.2.2.1))));have hle2:=Si hf0;have hkA:=Ih hf0;have hkl:s'.kept.lines=z.s.kept.lines++more:=by rw [hf4,hkA]
       have hKL:Hid (small Zc.s.kept.lines/\Zc.s.kept.lines.length<=256):=by
        refine ae ?_;rw [hzs,hkl];have h1:=hI.out.2.2.1;have hbm:AP more<=AP m.ls:=by rw [<-Aqs.out];exact FN _ _
        refine ⟨⟨by rw [List.length_append];omega, ?_⟩,by rw [List.length_append];omega⟩;rw [Ej,List.length_append,DV];have:=h1.b;omega
       rw [<-hzs] at KI;have hZe:∀ c,({ id:=z.follow.id,n:=z.follow.n,s:=Zc.s,BB:=z.follow.BB,waited:=z.follow.waited,seen:=z.follow.seen,Ag:=c }:Am)={ Zc with Ag:=c }:=by intro c;rw [<-hZc]
       have Ajo:Hid ((({ Zc with Ag:=max z.Ag (min m.com Zc.s.kept.lines.length) }:Am),({ Zc with Ag:=max z.Ag (min m.com Zc.s.kept.lines.length) }:Am).BN.ack src m.e)=R):=by
        refine ae ?_;rw [<-KI.out, <-hZc]
       rw [hZc] at hE;clear KI;have KI:=Ajo;clear Ajo hs8 Aft xK m0' m1' m2' m3' m4' m5' k2' e2 Aup hle2 hkA hkl hZe hZc hzs hf4 n0 Aro Aax Aqs tN hG7;go_wp2_with fail;obtain ⟨V,hV⟩:∃ V,W8.drew=V:=⟨_,rfl⟩;have dr:aj ai W8 o8 V o8:=by rw [<-hV];exact (aj.refl ai W8 o8).drew
       have hNV:=hE.out.2.1.step0 dr;have mbV:=(dr.block _ (au hE.out.2.2.1) id).trans hE.out.2.2.1;obtain ⟨-, -,e2, -, -,e6⟩:=hNV.cell;rw [hzc] at e6;have q4:V.cell? ⟨mb,4,none⟩=some (.int .i64 (m.com:Int)):=ag mbV 4;have hS:=aI e6 (aI q4 e2);rw [<-hV] at hS;have Amd:=ae (DJ hNV.store hKL.out.1);have hEV:=ae (aI (hE.out.1.trans (dr.mono (T':=KC D M) (fun _ h=>h.elim))) (aI hNV mbV));obtain ⟨KLn,AmC⟩:∃ k,Zc.s.kept.lines.length=k:=⟨_,rfl⟩;have Amn:(0:Int)<=(z.Ag:Int)/\(z.Ag:Int)<=256:=by
        have h1:z.Ag<=z.s.kept.lines.length:=hPH.out.ok.co;have:=hI.out.2.2.1.n;omega
       have AzN:(0:Int)<=(m.com:Int)/\(m.com:Int)<=256:=by have:=hmH.out.o1;omega
       have Azx:(0:Int)<=(KLn:Int)/\(KLn:Int)<=256:=by have:=hKL.out.2;omega
       have hx1:min (m.com:Int) (KLn:Int)=((min m.com KLn:Nat):Int):=by omega
       obtain ⟨mn,hmn⟩:∃ k,min m.com KLn=k:=⟨_,rfl⟩;rw [hmn] at hx1;have hx2:max (z.Ag:Int) (mn:Int)=((max z.Ag mn:Nat):Int):=by omega
       have Agg:=ae AmC;have AlQ:=ae hmn;clear dr hNV mbV e2 e6 q4 AmC hmn;refine Aa (fun w'=>w'.cell? ⟨pz,6,none⟩=some (.int .i64 (z.Ag:Int))/\w'.cell? ⟨mb,4,none⟩=some (.int .i64 (m.com:Int))/\w'.cell? ⟨pz,2,none⟩=some (.pointer (some ⟨ps,0,none⟩))) (fun i=>decide (i<18)) (by kernel_rfl) hS (fun hHeld => ?_);rw [hV] at hHeld ⊢;clear hV hS;refine tq 0 (h:=tq 1 (h:=tq 2 (h:=tq 3 (h:=tq 4 (h:=tq 5 (h:=tq 6 (h:=tq 7 (h:=tq 8 (h:=tq 9 (h:=tq 10 (h:=tO 11 (h:=?_))))))))))));go_wp2_with fail;refine Amd.out.mono ?_;rintro ex W9 ⟨v9,o9,rfl,hs9,lk9,rfl,AhZ,rfl⟩;obtain ⟨k9a,k9c,rfl⟩:=AhZ.form;rw [Agg.out];have hN9:=hEV.out.2.1.step0 hs9;have mb9:=(hs9.block _ (au hEV.out.2.2) id).trans hEV.out.2.2;have mo9:(ext V o8 mb).1=0:=by rw [hs9.own _ (au hEV.out.2.2)];exact hE.out.2.2.2
       obtain ⟨-, -,e2, -, -,e6⟩:=hN9.cell;rw [hzc] at e6;have q4:W9.cell? ⟨mb,4,none⟩=some (.int .i64 (m.com:Int)):=ag mb9 4;have hS9:=aI e6 (aI q4 e2);have f6:=hN9.free 6;obtain ⟨hcm,kcm⟩:=hN9.Ag (max z.Ag mn);have n4:¬ ak (M+4) 0:=fun h=>by unfold ak at h;omega
       have AkV:=(kcm.block mb (au mb9) (by rw [mo9];exact n4)).trans mb9;have c10:=ag AkV 1;simp only [Bf,ay,ax] at c10;have hak:=ae (OY (D:=D) hcm hKL.out.2 hKL.out.1 m.e hmH.out.e1 hmH.out.e2 src);have Afd:=ae (aI ((hEV.out.1.trans (hs9.mono (T':=KC D M) (fun _ h=>h.elim))).trans (kcm.mono (T':=KC D M) (fun k h=>(show KC D M k by cases h;exact KC.own)))) hcm);have hfk:=fun W=>He W (.int .u64 (Zc.s.kept.promised.toNat:Int)) (.int .u64 (Zc.s.kept.current.toNat:Int)) (.slice k9a KLn k9c);unfold Dy;clear hs9 AhZ hN9 mb9 mo9 hcm kcm n4 AkV Amd hHeld;go_wp2_with fail;refine ⟨fun _=>hS9, ?_⟩;refine tq 12 (h:=tq 13 (h:=tq 14 (h:=tq 15 (h:=tO 16 (h:=?_)))));go_wp2_with fail;refine ⟨fun _=>hS9, ?_⟩;refine tq 17 (h:=tO 18 (h:=?_));go_wp2_with fail;refine ⟨fun h=>by simp at h, ?_⟩;refine tD (h:=?_);clear e6 q4 e2 f6 hx1 hx2 hfk;go_wp2_with fail;refine hak.out.mono ?_;rintro ex W11 ⟨v11,o11,rfl,hs11,hou⟩;have hF:=ae (aI (Afd.out.1.trans (hs11.mono (fun _ h=>h.elim))) (aI hou (Afd.out.2.step0 hs11)));obtain ⟨xa,xc,rfl⟩:=hou.form;clear hs11 hou hak;go_wp2_with fail;go_ret;refine ⟨_,o11,rfl,hF.out.1, ?_, ?_⟩
       ·rw [<-KI.out,Agg.out,AlQ.out];exact hF.out.2.1
       ·rw [<-KI.out,Agg.out,AlQ.out];exact hF.out.2.2
end
theorem EI {w:World} {b:Nat} (hb:w.heap[b]?=some HY) (k:Nat) (f:Nat) (hf:(k=1/\f=149) \/ (k=2/\f=150) \/ (k=3/\f=151) \/ (k=4/\f=152) \/ (k=5/\f=153) \/ (k=6/\f=154)) :
  (Instr.lookup 158 (.map (some b)) (.int .u8 (k:Int)) false).run prog w = .ok (.func (.func f) #[] #[]) w:=by
 have hck:∀ k:Int,(Instr.checkKey false 10000 5 (.int .u8 k)).run prog w = .ok () w:=fun k=>by
  unfold Instr.checkKey;simp [run_underlying underlying5]
 unfold HY at hb
 rcases hf with ⟨rfl,rfl⟩ | ⟨rfl,rfl⟩ | ⟨rfl,rfl⟩ | ⟨rfl,rfl⟩ | ⟨rfl,rfl⟩ | ⟨rfl,rfl⟩
 all_goals
  simp only [Instr.lookup,Sem.run_bind,run_underlying underlying158,Result.andThen_ok,MapKept.run_getObj_map hb,Sem.run_pure,Instr.findKey,run_underlying underlying5];simp [Instr.findNow,Instr.sameNow,hck]
section
variable {w:World} {o:Own} {D M pz ps pd K B base:Nat} {z:Am}
theorem YU (hp:Am.NP K B z) (hK:K+600<65536) (src:Nat) (hsrc:src<z.n) (m:BG) (hm:m.May) (hB:B+AP m.ls<=90000) :
  ∃ f,(∀ (W:World) (b:Nat),W.heap[b]?=some HY->(Instr.lookup 158 (.map (some b)) (.int .u8 (m.k:Int)) false).run prog W = .ok (.func (.func f) #[] #[]) W) /\
   (∀ (args:Array Value) (x:World),(callFunc f args).run prog x = .ok (.enter f args) x) /\
   ∀ (w:World) (o:Own) (base:Nat) (lv:Value),Bc w o D M pz ps pd z->Lines w o base lv m.ls->Calls prog f #[.pointer (some ⟨pz,0,none⟩), .int .i64 (src:Int),Ea m lv] w (XL (KC D M) w o fun v w' o'=>Dn w' o' v (Ed (z.Ec src m).2)/\Bc w' o' D M pz ps pd (z.Ec src m).1):=by
 have h6:=hm.k6;have h1:=hm.k1;have hB':B<=90000:=by omega
 have hmb:AP m.ls<=90000:=by omega
 by_cases k1:m.k=1
 ·refine ⟨149,fun W b hb=>EI hb _ _ (.inl ⟨k1,rfl⟩),Tryz.call149,fun w o base lv h hl => ?_⟩;have e:z.Ec src m=z.BK src m:=by unfold Am.Ec;rw [if_pos k1]
  rw [e];exact QQ h hp hK hB' src m hm hl
 ·by_cases k2:m.k=2
  ·refine ⟨150,fun W b hb=>EI hb _ _ (.inr (.inl ⟨k2,rfl⟩)),Tryz.call150,fun w o base lv h hl => ?_⟩;have e:z.Ec src m=z.Bj src m:=by unfold Am.Ec;rw [if_neg k1,if_pos k2]
   rw [e];exact OM h hp hK src hsrc m hm hB hl
  ·by_cases k3:m.k=3
   ·refine ⟨151,fun W b hb=>EI hb _ _ (.inr (.inr (.inl ⟨k3,rfl⟩))),Tryz.call151,fun w o base lv h hl => ?_⟩;have e:z.Ec src m=z.Cj m:=by unfold Am.Ec;rw [if_neg k1,if_neg k2,if_pos k3]
    rw [e];exact PX h hp hB' src m hm hl
   ·by_cases k4:m.k=4
    ·refine ⟨152,fun W b hb=>EI hb _ _ (.inr (.inr (.inr (.inl ⟨k4,rfl⟩)))),Tryz.call152,fun w o base lv h hl => ?_⟩;have e:z.Ec src m=z.BD src m:=by unfold Am.Ec;rw [if_neg k1,if_neg k2,if_neg k3,if_pos k4]
     rw [e];exact QR h hp hK hB' src m hm hmb hl
    ·by_cases k5:m.k=5
     ·refine ⟨153,fun W b hb=>EI hb _ _ (.inr (.inr (.inr (.inr (.inl ⟨k5,rfl⟩))))),Tryz.call153,fun w o base lv h hl => ?_⟩;have e:z.Ec src m=z.BF src m:=by unfold Am.Ec;rw [if_neg k1,if_neg k2,if_neg k3,if_neg k4,if_pos k5]
      rw [e];exact PZ h hp hK src m hm hB hl
     ·have k6:m.k=6:=by omega
      refine ⟨154,fun W b hb=>EI hb _ _ (.inr (.inr (.inr (.inr (.inr ⟨k6,rfl⟩))))),Tryz.call154,fun w o base lv h hl => ?_⟩;have e:z.Ec src m=z.CJ src m:=by unfold Am.Ec;rw [if_neg k1,if_neg k2,if_neg k3,if_neg k4,if_neg k5]
      rw [e];exact VA h hp hB' src hsrc m hm hl
theorem bC (h:Bc w o D M pz ps pd z) (hp:Am.NP K B z) (hK:K+600<65536) (src:Nat) (hsrc:src<z.n) (hid:src ≠ z.id) {bv:Value} {l:List UInt8} (hb:Bytes w o bv l) (hl:l.length<=1000000) {m:BG} (hg:Jn l=some m) (hB:B+AP m.ls<=90000) :
  Calls prog 57 #[.pointer (some ⟨pz,0,none⟩), .int .i64 (src:Int),bv] w (XL (KC D M) w o fun v w' o'=>Dn w' o' v (Ed (z.hear src m).2)/\Bc w' o' D M pz ps pd (z.hear src m).1):=by
 have hm:=VH hg;have hdd:=FI h;have hdl:z.dead=false:=hp.sp.dead;rw [hdl] at hdd;have AbE:=ae hdd;have hge:=ae (Ug hb hl);obtain ⟨c0,c1, -⟩:=h.cell;obtain ⟨ba,bc,rfl⟩:=Aq hb;have i1:decide ((src:Int)<0)=false:=decide_eq_false (by omega);have i2:decide (z.n<=src)=false:=decide_eq_false (by omega);have i3:((src:Int) == (z.id:Int))=false:=by
  have:¬ (src:Int)=(z.id:Int):=by omega
  simpa using this
 have hse:z.seen.toNat<=281474976710656:=hp.ok.se;have hmx:=Vl z.seen m.e;obtain ⟨a,ha⟩:∃ a,Fj z.seen m.e=a:=⟨_,rfl⟩;rw [ha] at hmx;have Aun:max (z.seen.toNat:Int) (m.e.toNat:Int)=(a.toNat:Int):=by omega
 have hok:=hp.ok;have hnp:Am.NP K B ({ z with seen:=a }:Am):=⟨hp.sp,⟨⟨hok.n1,hok.n3,hok.id,hok.ls,hok.cp,hok.pt,(by show a.toNat<=_;have:=hm.e2;omega),hok.co⟩,hok.ro⟩⟩;obtain ⟨fk,hlk,hcall,hkk⟩:=YU (D:=D) (M:=M) (pz:=pz) (ps:=ps) (pd:=pd) hnp hK src hsrc m hm hB;have hR:z.hear src m=({ z with seen:=a }:Am).Ec src m:=by rw [<-ha];rfl
 rw [hR];obtain ⟨n,hn⟩:∃ n,m.ls.length=n:=⟨_,rfl⟩;have hH:=ae (aI h hm);have Aga:=ae hlk;have hkH:=ae hkk;have WV:=ae hcall;have AlP:=ae Aun;clear h hdd hb hdl hp hm hse hmx Aun hok hnp hlk hkk hR ha hcall;go_enter func57,ntmps57;go_wp2_with fail;refine AbE.out.mono ?_;rintro e w' ⟨rfl,rfl⟩;go_wp2_with fail;refine hge.out.mono ?_;rintro e w1 ⟨v1,o1,rfl,hs1,AeZ⟩;obtain ⟨lv,rfl,hlv⟩:=AeZ.1 m hg;obtain ⟨la,lc,hlf⟩:=hlv.form;rw [hn] at hlf;subst hlf;have mal:=ae (AB (P:=prog) w1 150 _ Oa);have mst:=KN w1 m la n lc;have k2:=(aj.refl ai w1 o1).alloc (.cells (Bf m (.slice la n lc)).toArray 150) (0,0);have mb2:=heap_alloc_new w1 (.cells (Bf m (.slice la n lc)).toArray 150);have mo2:=Au o1 w1.heap.size (0,0);generalize Ak o1 w1.heap.size (0,0)=o2 at *;obtain ⟨W2,hW2⟩:∃ W2,w1.alloc (.cells (Bf m (.slice la n lc)).toArray 150)=W2:=⟨_,rfl⟩;rw [hW2] at mst k2 mb2;obtain ⟨mb,hmb⟩:∃ b,w1.heap.size=b:=⟨_,rfl⟩;rw [hmb] at mal mst mb2 mo2;unfold DI at mst;have Anw:=ae mst;obtain ⟨V,hV⟩:∃ V,W2.drew=V:=⟨_,rfl⟩;have kV:aj ai w1 o1 V o2:=by rw [<-hV];exact k2.drew
 have hNV:=(hH.out.1.step0 hs1).step0 kV;have mbV:V.heap[mb]?=some (.cells (Bf m (.slice la n lc)).toArray 150 (0,0)):=by rw [<-hV];exact mb2
 obtain ⟨-, -, -, -,e5, -⟩:=hNV.cell;have f5:=hNV.free 5;have hS6:=aI e5 (show V.cell? ⟨mb,1,none⟩=some (.int .u64 (m.e.toNat:Int)) from ag mbV 1);rw [<-hV] at hS6;obtain ⟨hsn,ksn⟩:=hNV.seen a;have n4:¬ ak (M+4) 0:=fun h=>by unfold ak at h;omega
 obtain ⟨V7,hV7⟩:∃ V7,(V.setCell ⟨pz,5,none⟩ (.int .u64 (a.toNat:Int))).drew=V7:=⟨_,rfl⟩;have k7:aj (ak (M+4)) V o2 V7 o2:=by rw [<-hV7];exact ksn.drew
 have hN7:Bc V7 o2 D M pz ps pd { z with seen:=a }:=by rw [<-hV7];exact hsn.step0 (aj.refl ai _ o2).drew
 have mb7:=(k7.block mb (au mbV) (by rw [mo2];exact n4)).trans mbV;have wY:=(hlv.step kV id).step k7 n4;have hcc:∀ W O,aj ai V7 o2 W O->W.cell? ⟨mb,0,none⟩=some (.int .u8 (m.k:Int))/\W.cell? ⟨mb,1,none⟩=some (.int .u64 (m.e.toNat:Int))/\W.cell? ⟨mb,2,none⟩=some (.int .u64 (m.c.toNat:Int))/\W.cell? ⟨mb,3,none⟩=some (.int .i64 (m.at':Int))/\W.cell? ⟨mb,4,none⟩=some (.int .i64 (m.com:Int))/\W.cell? ⟨mb,5,none⟩=some (.slice la n lc):=fun W O hJ=>Gt ((hJ.block mb (au mb7) id).trans mb7);have AzP:=ae hcc;have hS7:=hcc V7 o2 (aj.refl _ _ _);rw [<-hV7] at hS7;have hG:=ae (aI (((hs1.trans kV).mono (T':=KC D M) (fun _ h=>h.elim)).trans (k7.mono (T':=KC D M) (fun k h=>(show KC D M k by cases h;exact KC.own)))) (aI hN7 (aI wY (aI mb7 mo2))));have Ayq:=ae mal;unfold Ea;clear hs1 AeZ hge hlv mst k2 mb2 mo2 hW2 hmb kV hNV mbV hsn ksn n4 k7 hN7 mb7 wY hcc mal;have hkd:=ae (YQ V7 o2);unfold Bf at Anw
 go_wp2_with (first
  | ((with_reducible apply AU);exact Ayq.out;simp only [Act.put,GL,DL,lss])
  | ((with_reducible apply AC);exact Anw.out;simp only [Act.put]))
 refine Aa (fun w'=>w'.cell? ⟨pz,5,none⟩=some (.int .u64 (z.seen.toNat:Int))/\w'.cell? ⟨mb,1,none⟩=some (.int .u64 (m.e.toNat:Int))) (fun i=>decide (i<10)) (by kernel_rfl) hS6 (fun hHeld => ?_);rw [hV] at hHeld ⊢;clear hV hS6;refine tq 0 (h:=tq 1 (h:=tq 2 (h:=tq 3 (h:=tq 4 (h:=tq 5 (h:=tq 6 (h:=tv 7 (.int .u64 (a.toNat:Int)) (hy:=fun w hSw=>by (try dsimp only at hSw);go_simp;exact AlP.out) (h:=tO 8 (h:=?_)))))))));go_wp2_with fail;refine ⟨fun _=>hHeld, ?_⟩;refine tq 9 (h:=tO 10 (h:=?_));go_wp2_with fail;refine ⟨fun h=>by simp at h, ?_⟩;refine tD (h:=?_);clear e5 f5;go_wp2_with fail;refine Aa (fun w'=>w'.cell? ⟨mb,0,none⟩=some (.int .u8 (m.k:Int))/\w'.cell? ⟨mb,1,none⟩=some (.int .u64 (m.e.toNat:Int))/\w'.cell? ⟨mb,2,none⟩=some (.int .u64 (m.c.toNat:Int))/\w'.cell? ⟨mb,3,none⟩=some (.int .i64 (m.at':Int))/\w'.cell? ⟨mb,4,none⟩=some (.int .i64 (m.com:Int))/\w'.cell? ⟨mb,5,none⟩=some (.slice la n lc)) (fun _=>true) (by kernel_rfl) hS7 (fun hHeld => ?_);rw [hV7] at hHeld ⊢;clear hV7 hS7;refine tq 1 (h:=tq 2 (h:=tq 4 (h:=tq 5 (h:=tq 6 (h:=tO 0 (h:=?_))))));go_wp2_with fail;refine hkd.out.mono ?_;rintro ex W8 ⟨v8,o8,rfl,hs8,hb,rfl,hhm⟩;have hS8:=AzP.out W8 o8 hs8;have hlr:=ae (Aga.out W8 hb hhm);have hcl:=WV.out;have hfin:=hkH.out W8 o8 w.heap.size (.slice la n lc) (hG.out.2.1.step0 hs8) (hG.out.2.2.1.step hs8 id);unfold Ea at hfin;have Aac:=ae hfin;have hG8:=ae (aI (hG.out.1.trans (hs8.mono (T':=KC D M) (fun _ h=>h.elim))) (aI ((hs8.block mb (au hG.out.2.2.2.1) id).trans hG.out.2.2.2.1) ((hs8.own mb (au hG.out.2.2.2.1)).trans hG.out.2.2.2.2)));clear hs8 hhm hkd hHeld hfin;go_wp2_with fail;refine ⟨fun _=>hS8, ?_⟩;refine tO 3 (h:=?_);refine DN hlr.out ?_;simp only [Act.put,GL,DL,lss];go_wp2_with fail;refine ⟨fun _=>hS8, ?_⟩;refine tO 7 (h:=?_);go_wp2_with fail;refine Aac.out.mono ?_;rintro ex W9 ⟨v9,o9,rfl,hs9,hou,hn9⟩;have hF:=ae (aI (hG8.out.1.trans hs9) (aI hou hn9));have hS9:=Gt ((hs9.block mb (au hG8.out.2.1) (by rw [hG8.out.2.2];exact KC.zero hn9.tags.2)).trans hG8.out.2.1);obtain ⟨ya,yc,rfl⟩:=hou.form;clear hs9 hou hn9 Aac;go_wp2_with fail;refine ⟨fun _=>hS9, ?_⟩;refine tq 8 (h:=tD (h:=?_));clear hS9;go_wp2_with fail;go_ret;exact ⟨_,o9,rfl,hF.out.1,hF.out.2.1,hF.out.2.2⟩
end
theorem gW (w:World) (p:Option Addr):(Instr.typeAssert (.iface 135 (.pointer p)) 138 135 false).run prog w = .ok (.pointer p) w:=by kernel_rfl
theorem LV (w:World) (e:Int) (bv:Value):(Instr.buildSlice 35 1 #[(0, .agg #[.int .u64 e,bv])]).run prog w = .ok (.slice (some ⟨w.heap.size,0,none⟩) 1 1) (w.alloc (.cells [.int .u64 e,bv].toArray 41)):=
 Dv w 35 41 [.int .u64 0, .slice none 0 0] (.agg #[.int .u64 e,bv]) [.int .u64 e,bv] underlying35 (by kernel_rfl) rfl (by simp) (by simp) rfl
theorem NM {w:World} {o:Own} {bv:Value} {e:BitVec 64} {b:List UInt8} (h:Bytes w o bv b) :
  Lines (w.alloc (.cells [.int .u64 (e.toNat:Int),bv].toArray 41)) (Ak o w.heap.size (0,0)) 0 (.slice (some ⟨w.heap.size,0,none⟩) 1 1) [⟨e,b⟩]:=by
 have hs:=(aj.refl ai w o).alloc (.cells [.int .u64 (e.toNat:Int),bv].toArray 41) (0,0);refine ⟨[.int .u64 (e.toNat:Int),bv], .inr ⟨w.heap.size,0,1,rfl,by simp,by decide,by rw [Au],by simp, ?_⟩,sW.single ⟨e,b⟩ (h.step hs id),CV.zero _,fun u _=>CV.zero u⟩;exact AV (heap_alloc_new w _)
section
variable {w:World} {o:Own} {D M pz ps pd K B:Nat} {z:Am}
theorem dJ (h:Bc w o D M pz ps pd z) (hd:z.dead=true) (la:Option Addr) (ln lc:Nat):Calls prog 47 #[.pointer (some ⟨pz,0,none⟩), .slice la ln lc] w fun e w'=>e = .returned (.int .i64 9)/\w=w':=by
 have hdd:=FI h;rw [hd] at hdd;have AbE:=ae hdd;clear h hd hdd;go_enter func47,ntmps47;go_wp2_with fail;refine AbE.out.mono ?_;rintro e w' ⟨rfl,rfl⟩;go_wp2_with fail;go_ret;exact ⟨rfl,rfl⟩
theorem UW (h:Bc w o D M pz ps pd z) (hp:Am.NP K B z) (hK:K+600<65536) {bv:Value} {l:List UInt8} (hb:Bytes w o bv l) (hB:B+l.length<=90000) :
  Calls prog 47 #[.pointer (some ⟨pz,0,none⟩),bv] w (XL (KC D M) w o fun v w' o'=>v = .int .i64 (z.BL l).2/\Bc w' o' D M pz ps pd (z.BL l).1):=by
 have hdd:=FI h;have hdl:z.dead=false:=hp.sp.dead;rw [hdl] at hdd;have AbE:=ae hdd;obtain ⟨R,hR⟩:∃ R,z.BL l=R:=⟨_,rfl⟩;rw [hR];obtain ⟨ba,bc,rfl⟩:=Aq hb;obtain ⟨n,hn⟩:∃ n,l.length=n:=⟨_,rfl⟩;have hnI:(0:Int)<=(n:Int)/\(n:Int)<=90000:=by omega
 rw [hn];unfold Am.BL at hR;rw [hn] at hR;have hH:=ae h
 by_cases hlen:n=0 \/ 4096<n
 ·rw [if_pos hlen] at hR;have KI:=ae hR;clear hdd hdl hR h hp hb hn
  by_cases h0:n=0
  ·subst h0;clear hlen;go_enter func47,ntmps47;go_wp2_with fail;refine AbE.out.mono ?_;rintro e w' ⟨rfl,rfl⟩;go_wp2_with fail;go_ret;exact ⟨_,o,rfl,aj.refl _ _ _,by rw [<-KI.out];rfl,by rw [<-KI.out];exact hH.out⟩
  ·have h1:((n:Int) == 0)=false:=by
    have:¬ (n:Int)=0:=by omega
    simpa using this
   have h2:(4096:Int)<(n:Int):=by omega
   clear hlen;go_enter func47,ntmps47;go_wp2_with fail;refine AbE.out.mono ?_;rintro e w' ⟨rfl,rfl⟩;go_wp2_with fail;go_ret;exact ⟨_,o,rfl,aj.refl _ _ _,by rw [<-KI.out];rfl,by rw [<-KI.out];exact hH.out⟩
 ·rw [if_neg hlen] at hR;have h1:((n:Int) == 0)=false:=by
   have:¬ (n:Int)=0:=by omega
   simpa using this
  have h2:decide ((4096:Int)<(n:Int))=false:=decide_eq_false (by omega);have hle:=RF h
  cases hL:z.BN.OD with
  | false =>
   rw [hL] at hle;have AnV:=ae hle;have hR2:(z,(64:Int))=R:=by
    rw [<-hR];have hL':(match z.BB with | .leads _ _ _ r=>r | _=>false)=false:=hL
    cases hrr:z.BB with
    | follows=>rfl
    | stands a b=>rfl
    | leads a b c r =>
     rw [hrr] at hL';simp only at hL';subst hL';rfl
   have KI:=ae hR2;clear hdd hdl hR hR2 h hp hb hn hlen hle hL;go_enter func47,ntmps47;go_wp2_with fail;refine AbE.out.mono ?_;rintro e w' ⟨rfl,rfl⟩;go_wp2_with fail;refine AnV.out.mono ?_;rintro e w' ⟨rfl,rfl⟩;go_wp2_with fail;go_ret;exact ⟨_,o,rfl,aj.refl _ _ _,by rw [<-KI.out];rfl,by rw [<-KI.out];exact hH.out⟩
  | true =>
   rw [hL] at hle;have AnV:=ae hle;obtain ⟨mine,nR,base,hrr⟩:∃ mine nR base,z.BB = .leads mine nR base true:=by
    have hL':(match z.BB with | .leads _ _ _ r=>r | _=>false)=true:=hL
    cases hrr:z.BB with
    | follows=>rw [hrr] at hL';cases hL'
    | stands a b=>rw [hrr] at hL';cases hL'
    | leads a b c r =>
     rw [hrr] at hL';simp only at hL';subst hL';exact ⟨a,b,c,rfl⟩
   rw [hrr] at hR;simp only at hR;have hls:En B z.s.kept.lines:=hp.ok.ls;have hsm:=En.small hls (by omega);have hkp:=ae (DJ h.store hsm);obtain ⟨L,hLL⟩:∃ L,z.s.kept.lines.length=L:=⟨_,rfl⟩;rw [hLL] at hR;have hLI:(0:Int)<=(L:Int)/\(L:Int)<=256:=by have:=hls.n;omega
   obtain ⟨-, -,c2, -⟩:=h.cell
   by_cases hfull:256<=L
   ·rw [if_pos hfull] at hR;have KI:=ae hR;have hfI:(256:Int)<=(L:Int):=by omega
    have Akq:=ae hLL;clear hdd hdl hR h hp hb hn hlen hle hL hrr hls hsm hLL;go_enter func47,ntmps47;go_wp2_with fail;refine AbE.out.mono ?_;rintro e w' ⟨rfl,rfl⟩;go_wp2_with fail;refine AnV.out.mono ?_;rintro e w' ⟨rfl,rfl⟩;go_wp2_with fail;refine hkp.out.mono ?_;rintro e w1 ⟨v1,o1,rfl,hs1,lk,rfl,hlk,rfl⟩;obtain ⟨ka,kc,rfl⟩:=hlk.form;have hfk:=fun W=>He W (.int .u64 (z.s.kept.promised.toNat:Int)) (.int .u64 (z.s.kept.current.toNat:Int)) (.slice ka L kc);have hF:=ae (aI hs1 (hH.out.step0 hs1));rw [Akq.out];unfold Dy;clear hs1 hlk hkp;go_wp2_with fail;go_ret;exact ⟨_,_,rfl,hF.out.1.mono (fun _ h=>h.elim),by rw [<-KI.out];rfl,by rw [<-KI.out];exact hF.out.2⟩
   ·rw [if_neg hfull] at hR;have hfI:¬ (256:Int)<=(L:Int):=by omega
    have yS:=hp.ok.ro;rw [show z.BN.BB=z.BB from rfl,hrr] at yS;obtain ⟨-,hml,AeM⟩:=yS;have hml:nR.length=z.n:=hml;have AeM:∀ x ∈ nR, -1<=x/\x<=(z.s.kept.lines.length:Int):=AeM;have hn3:z.n<=3:=hp.ok.n3;have hn1:1<=z.n:=hp.ok.n1;have hid:z.id<z.n:=hp.ok.id;have hco:z.Ag<=z.s.kept.lines.length:=hp.ok.co;have hl0:AP [⟨mine,l⟩]=l.length:=by simp [AP]
    have hlb:=hls.b;have hn0:0<n/\n<=4096:=by omega
    have hfit:=Jy hp.sp hK hp.kok [⟨mine,l⟩];have AnH:small [⟨mine,l⟩]:=by
     refine ⟨by simp, ?_⟩;rw [Ej,hl0];simp only [List.length_singleton];omega
    have Afm:small (z.s.kept.lines++[⟨mine,l⟩]):=by
     refine ⟨by simp only [List.length_append,List.length_singleton];omega, ?_⟩;rw [Ej,DV,hl0];simp only [List.length_append,List.length_singleton];omega
    obtain ⟨p,hln⟩:=h.leads hrr;have Akk:=ae hln;rw [hn] at hb;have xZ:=ae hb;have hPH:=ae hp.sp;have hI:=ae (aI hml (aI AeM (aI hn3 (aI hn1 (aI hid (aI hco (aI hsm (aI AnH Afm))))))));have Akq:=ae hLL;have AeO:=ae hfit;have AtA:=ae hrr;clear hdd hdl h hp hb hn hlen hle hL hrr hls hsm hml AeM hn3 hn1 hid hco hl0 hlb AnH Afm hln hfit hLL hfull;go_enter func47,ntmps47;go_wp2_with fail;refine AbE.out.mono ?_;rintro e w' ⟨rfl,rfl⟩;go_wp2_with fail;refine AnV.out.mono ?_;rintro e w' ⟨rfl,rfl⟩;go_wp2_with fail;refine hkp.out.mono ?_;rintro e w1 ⟨v1,o1,rfl,hs1,lk,rfl,hlk,rfl⟩;obtain ⟨ka,kc,rfl⟩:=hlk.form;have hfk:=fun W=>He W (.int .u64 (z.s.kept.promised.toNat:Int)) (.int .u64 (z.s.kept.current.toNat:Int)) (.slice ka L kc);rw [Akq.out];unfold Dy;obtain ⟨o1,ho1⟩:∃ O,ext w o=O:=⟨_,rfl⟩;rw [ho1] at hs1;have AfZ:=Akk.out.step hs1 (fun t (h:ai t)=>False.elim h);have hb1:=xZ.out.step hs1 id;have e3:=AfZ.2.1.cells.1.2.2.2.1;have hta:=gW w1 (some ⟨p,0,none⟩);obtain ⟨V,hV⟩:∃ V,w1.drew=V:=⟨_,rfl⟩;have k1:aj ai w1 o1 V o1:=by rw [<-hV];exact (aj.refl ai w1 o1).drew
    have zX:=AfZ.step k1 (fun t (h:ai t)=>False.elim h);have hb2:=hb1.step k1 id;obtain ⟨W2,hW2⟩:∃ W,V.alloc (.cells [.int .u64 (mine.toNat:Int), .slice ba n bc].toArray 41)=W:=⟨_,rfl⟩;have hbs:(Instr.buildSlice 35 1 #[(0, .agg #[.int .u64 (mine.toNat:Int), .slice ba n bc])]).run prog V = .ok (.slice (some ⟨V.heap.size,0,none⟩) 1 1) W2:=by rw [<-hW2];exact LV V _ _
    have hlo:Lines W2 (Ak o1 V.heap.size (0,0)) 0 (.slice (some ⟨V.heap.size,0,none⟩) 1 1) [⟨mine,l⟩]:=by rw [<-hW2];exact NM hb2
    have k2:aj ai V o1 W2 (Ak o1 V.heap.size (0,0)):=by rw [<-hW2];exact (aj.refl ai V o1).alloc _ _
    have AlY:=zX.step k2 (fun t (h:ai t)=>False.elim h);have hcl:∀ (W:World) (O:Own) (y:Am),GV W O D M pz ps pd p y mine nR base true->(W.cell? ⟨pz,2,none⟩=some (.pointer (some ⟨ps,0,none⟩))/\W.cell? ⟨p,0,none⟩=some (.int .u64 (mine.toNat:Int))):=by
     intro W O y hW;obtain ⟨-,hb',⟨b,cap,hp1, -⟩, -⟩:=hW;have e2:=hb'.cells.1.2.2.1;have g1:=ag hp1 0;simp only [ay] at g1;exact ⟨e2,g1⟩
    have hS:w1.drew.cell? ⟨pz,2,none⟩=some (.pointer (some ⟨ps,0,none⟩))/\w1.drew.cell? ⟨p,0,none⟩=some (.int .u64 (mine.toNat:Int)):=by rw [hV];exact hcl V _ _ zX
    have hS3:=hcl W2 _ _ AlY;have xG:=ae hcl;have hap:=ae (Ob AlY.1 AlY.2.2.2 hPH.out hlo hI.out.2.2.2.2.2.2.2.1 hI.out.2.2.2.2.2.2.1 (.inl hI.out.2.2.2.2.2.2.2.2));have hF:=ae (aI (hs1.trans (k1.trans k2)) AlY);have AaP:=ae hbs;obtain ⟨Q,hQQ⟩:∃ Q,z.s.append [⟨mine,l⟩]=Q:=⟨_,rfl⟩;rw [hQQ] at hap hR AeO;obtain ⟨vb,hvb⟩:∃ k,V.heap.size=k:=⟨_,rfl⟩;rw [hvb] at hap AaP hF;clear hs1 hlk hkp AfZ hb1 k1 zX hb2 hlo k2 AlY hcl hbs hW2;have KI:=ae hR;clear hR;go_wp2_with fail;refine Aa (fun w'=>w'.cell? ⟨pz,2,none⟩=some (.pointer (some ⟨ps,0,none⟩))/\w'.cell? ⟨p,0,none⟩=some (.int .u64 (mine.toNat:Int))) (fun _=>true) (by kernel_rfl) hS (fun hHeld => ?_);rw [hV] at hHeld ⊢;clear hS hV;refine tq 0 (h:=tq 1 (h:=tq 2 (h:=tq 3 (h:=tq 4 (h:=tq 5 (h:=tq 6 (h:=tq 7 (h:=tq 8 (h:=tq 9 (h:=tO 10 (h:=?_)))))))))));refine BO #[(0, .agg #[.int .u64 (mine.toNat:Int), .slice ba n bc])] rfl AaP.out ?_;refine ⟨fun _=>hS3, ?_⟩;refine tO 11 (h:=?_);go_wp2_with fail;refine hap.out.mono ?_;rintro ex W4 ⟨v4,o4,rfl,hs4,rfl,pX⟩;obtain ⟨Akr,hb3,AuG,hst3⟩:=hF.out.2;have Aes:GV W4 o4 D M pz ps pd p { z with s:=Q.1 } mine nR base true:=⟨Akr,hb3.step hs4 (KC.WZ Akr.1 Akr.2),AuG.step hs4 (KC.WZ Akr.1 Akr.2),pX⟩;have hS4:=xG.out W4 _ _ Aes;have hG:=ae (aI ((hF.out.1.mono (T':=KC D M) (fun _ (h:ai _)=>False.elim h)).trans (hs4.mono KC.in4)) Aes);clear hs4 pX Akr hb3 AuG hst3 Aes hHeld;go_wp2_with fail;refine ⟨fun _=>hS4, ?_⟩;refine tq 12 (h:=tD (h:=?_))
    rcases AeO.out with ⟨s',er,hf2,hf1⟩ | ⟨hf0,s',hf2,hf3,hf4⟩
    ·subst hf2;have hz1:(er == 0)=false:=by simpa using hf1
     have hz2:(er != 0)=true:=by simpa using hf1
     clear hap AeO hS3 hS4 hfk e3 hta;go_wp2_with fail;go_ret;have hR:=KI.out;rw [if_neg (show ¬ (s',er).2=0 from hf1)] at hR;refine ⟨_,o4,rfl,hG.out.1, ?_, ?_⟩
     ·rw [<-hR];rfl
     ·rw [<-hR, <-AtA.out];exact hG.out.2.node AtA.out
    ·subst hf2;have hR:=KI.out;rw [if_pos rfl] at hR;obtain ⟨hml,AeM,hn3,hn1,hid,hco,hsm,AnH,Afm⟩:=hI.out;have hkl:s'.kept.lines=z.s.kept.lines++[⟨mine,l⟩]:=by rw [hf4,Ih hf0]
     have hLL:=Akq.out;have hcnt:=ae (count_any hG.out.2 (show small s'.kept.lines by rw [hkl];exact Afm) (show s'.kept.lines.length<=256 by rw [hkl,List.length_append,List.length_singleton];omega) (by rw [hml];exact hn1) (by rw [hml];exact hn3) (show z.id<nR.length by rw [hml];exact hid) (by intro x hx;have:=AeM x hx;omega) (show z.Ag<=256 by omega));have Ajo:=ae hR;clear hap AeO hS3 hS4 hfk e3 hta hR KI hml AeM hn3 hn1 hid hco hsm AnH Afm hkl hLL hI hf0 hf3 hf4;go_wp2_with fail;refine hcnt.out.mono ?_;rintro ex W5 ⟨v5,o5,rfl,hs5,rfl,r,hr5,AuC⟩;have hE:=ae (aI (hG.out.1.trans (hs5.mono (T':=KC D M) (fun k h=>(show KC D M k by cases h;exact KC.own)))) (AuC.node hr5));clear hs5 hr5 AuC hcnt;go_wp2_with fail;go_ret;refine ⟨_,o5,rfl,hE.out.1, ?_, ?_⟩
     ·rw [<-Ajo.out];rfl
     ·rw [<-Ajo.out];exact hE.out.2
end
structure Aci where
 src:Nat
 dst:Nat
 b:List UInt8
structure GN where
 n:Nat
 l:List Aci
 cut:List (Nat × Nat × Bool)
namespace GN
def linked (g:GN) (a b:Int):Bool:=decide (0<=a) && decide (a<(g.n:Int)) && decide (0<=b) && decide (b<(g.n:Int)) && decide (a ≠ b)
def cutAt (c:List (Nat × Nat × Bool)) (a b:Nat):Bool:=match c.find? (fun e=>e.1 == a && e.2.1 == b) with
 | some e=>e.2.2
 | none=>false
def cuts (g:GN) (a b:Nat):Bool:=cutAt g.cut (min a b) (max a b)
def Awx (c:List (Nat × Nat × Bool)) (a b:Nat) (v:Bool):List (Nat × Nat × Bool):=
 match c.findIdx? (fun e=>e.1 == a && e.2.1 == b) with
 | some k=>c.set k (a,b,v)
 | none=>c++[(a,b,v)]
def turn (g:GN) (a b:Int) (v:Bool):GN × Int:=
 if g.linked a b then ({ g with cut:=Awx g.cut (min a.toNat b.toNat) (max a.toNat b.toNat) v },0) else (g,1)
def send (g:GN) (x:Aci):GN × Int:=
 if !g.linked x.src x.dst || decide (2097152<x.b.length) then (g,1) else if 4096<=g.l.length then (g,4) else ({ g with l:=g.l++[x] },0)
def may (g:GN) (k:Int):Int:=if k<0 \/ (g.l.length:Int)<=k then 1 else 0
def without (g:GN) (k:Nat):GN:={ g with l:=g.l.take k++g.l.drop (k+1) }
end GN
def Aaa (x:Aci) (bv:Value):List Value:=[.int .i64 0, .int .i64 (x.src:Int), .int .i64 0, .int .i64 (x.dst:Int),bv]
def AaG (w:World) (o:Own) (cs:List Value) (ls:List Aci):Prop:=
 cs.length=5*ls.length/\∀ i x,ls[i]?=some x->∃ bv,(cs.drop (5*i)).take 5=Aaa x bv/\Bytes w o bv x.b
def AaQ (a b:Nat):Value := .agg #[.int .i64 0, .int .i64 (a:Int), .int .i64 0, .int .i64 (b:Int)]
def Aas (j:Nat):List (Nat × Nat × Bool)->List MapEntry
 | []=>[]
 | x :: r=>⟨AaQ x.1 x.2.1, .bool x.2.2,j⟩ :: Aas (j+1) r
def AaF (w:World) (o:Own) (t:Nat × Nat) (lv:Value) (n:Nat) (xs:List Value):Prop:=
 xs.length=5*n/\((lv = .slice none 0 0/\n=0) \/ ∃ g cap cur,lv = .slice (some ⟨g,0,none⟩) n cap/\w.heap[g]?=some (.cells (List.toArray cur) 104 (0,0))/\n<=cap/\cap<=maxLen/\5*cap<=cur.length/\cur.take (5*n)=xs/\o g=t)
theorem AaF.step {T:Nat->Prop} {w w':World} {o o':Own} {t:Nat × Nat} {lv:Value} {n:Nat} {xs:List Value} (h:AaF w o t lv n xs) (s:aj T w o w' o') (ht:¬ T t.1):AaF w' o' t lv n xs:=by
 refine ⟨h.1, ?_⟩
 rcases h.2 with h | ⟨g,cap,cur,h1,h2,h3,h4,h5,h6,h7⟩
 ·exact .inl h
 ·exact .inr ⟨g,cap,cur,h1,(s.block g (au h2) (by rw [h7];exact ht)).trans h2,h3,h4,h5,h6,(s.own g (au h2)).trans h7⟩
theorem AaF.keep {w w':World} {o o':Own} {t:Nat × Nat} {lv:Value} {n:Nat} {xs:List Value} (h:AaF w o t lv n xs) (hk:∀ k,k<w.heap.size->o k=t->w'.heap[k]?=w.heap[k]?/\o' k=o k):AaF w' o' t lv n xs:=by
 refine ⟨h.1, ?_⟩
 rcases h.2 with h | ⟨g,cap,cur,h1,h2,h3,h4,h5,h6,h7⟩
 ·exact .inl h
 ·exact .inr ⟨g,cap,cur,h1,(hk g (au h2) h7).1.trans h2,h3,h4,h5,h6,(hk g (au h2) h7).2.trans h7⟩
theorem AaF.form {w:World} {o:Own} {t:Nat × Nat} {lv:Value} {n:Nat} {xs:List Value} (h:AaF w o t lv n xs):∃ la lc,lv = .slice la n lc:=by
 rcases h.2 with ⟨rfl,rfl⟩ | ⟨g,cap,cur,rfl, -⟩
 ·exact ⟨_,_,rfl⟩
 ·exact ⟨_,_,rfl⟩
def KL (w:World) (o:Own) (N p:Nat) (g:GN):Prop:=
 ∃ sv lv mb cs,w.heap[p]?=some (.cells [sv,lv, .map (some mb)].toArray 126 (0,0))/\o p=(N,0)/\sH w o sv 1 [.int .i64 (g.n:Int)] /\
  AaF w o (N,1) lv g.l.length cs/\AaG w o cs g.l /\
  w.heap[mb]?=some (.map (Aas 0 g.cut).toArray g.cut.length)/\o mb=(N,2)
section
variable {T:Nat->Prop} {w w':World} {o o':Own} {N p:Nat} {g:GN}
theorem AaG.step {cs:List Value} {ls:List Aci} (h:AaG w o cs ls) (s:aj T w o w' o') (h0:¬ T 0):AaG w' o' cs ls:=
 ⟨h.1,fun i x hx=>by obtain ⟨bv,h1,h2⟩:=h.2 i x hx;exact ⟨bv,h1,h2.step s h0⟩⟩
theorem AaG.nil (w:World) (o:Own):AaG w o [] []:=⟨rfl,fun i x hx=>by simp at hx⟩
theorem AaG.snoc {cs:List Value} {ls:List Aci} (h:AaG w o cs ls) {x:Aci} {bv:Value} (hb:Bytes w o bv x.b):AaG w o (cs++Aaa x bv) (ls++[x]):=by
 obtain ⟨h1,h2⟩:=h;refine ⟨by simp [h1,Aaa];omega,fun i y hy => ?_⟩
 by_cases hi:i<ls.length
 ·rw [List.getElem?_append_left hi] at hy;obtain ⟨bv,h3,h4⟩:=h2 i y hy;exact ⟨bv,by rw [List.drop_append_of_le_length (by omega),List.take_append_of_le_length (by rw [List.length_drop];omega)];exact h3,h4⟩
 ·have hl:i=ls.length:=by
   have:=(List.getElem?_eq_some_iff.1 hy).1;simp at this;omega
  subst hl;simp at hy;subst hy;exact ⟨bv,by rw [<-h1,List.drop_left];rfl,hb⟩
theorem AaG.take {cs:List Value} {ls:List Aci} (h:AaG w o cs ls) (k:Nat):AaG w o (cs.take (5*k)) (ls.take k):=by
 obtain ⟨h1,h2⟩:=h;refine ⟨by simp [h1] <;> omega,fun i x hx => ?_⟩
 have hi:i<k/\ls[i]?=some x:=by
  rw [List.getElem?_take] at hx;split at hx <;> simp_all
 obtain ⟨bv,h3,h4⟩:=h2 i x hi.2;exact ⟨bv,by rw [List.drop_take,List.take_take, <-h3,Nat.min_eq_left (by omega)],h4⟩
theorem AaG.drop {cs:List Value} {ls:List Aci} (h:AaG w o cs ls) (k:Nat):AaG w o (cs.drop (5*k)) (ls.drop k):=by
 obtain ⟨h1,h2⟩:=h;refine ⟨by simp [h1] <;> omega,fun i x hx => ?_⟩
 rw [List.getElem?_drop] at hx;obtain ⟨bv,h3,h4⟩:=h2 _ x hx;exact ⟨bv,by rw [List.drop_drop, <-h3,Nat.mul_add],h4⟩
theorem AaG.append {c1 c2:List Value} {l1 l2:List Aci} (h1:AaG w o c1 l1) (h2:AaG w o c2 l2):AaG w o (c1++c2) (l1++l2):=by
 refine ⟨by simp [h1.1,h2.1];omega,fun i x hx => ?_⟩
 by_cases hi:i<l1.length
 ·rw [List.getElem?_append_left hi] at hx;obtain ⟨bv,h3,h4⟩:=h1.2 i x hx;exact ⟨bv,by rw [List.drop_append_of_le_length (by rw [h1.1];omega),List.take_append_of_le_length (by rw [List.length_drop,h1.1];omega)];exact h3,h4⟩
 ·rw [List.getElem?_append_right (by omega)] at hx;obtain ⟨bv,h3,h4⟩:=h2.2 _ x hx;exact ⟨bv,by rw [List.drop_append,List.drop_of_length_le (by rw [h1.1];omega),List.nil_append,h1.1, <-h3, <-Nat.mul_sub],h4⟩
theorem KL.step (h:KL w o N p g) (s:aj T w o w' o') (hN:¬ T N) (h0:¬ T 0):KL w' o' N p g:=by
 obtain ⟨sv,lv,mb,cs,h1,h2,h3,h4,h6,h7,h8⟩:=h;have l1:=au h1;have l7:=au h7;exact ⟨sv,lv,mb,cs,(s.block _ l1 (by rw [h2];exact hN)).trans h1,(s.own _ l1).trans h2,h3.step s h0,h4.step s hN,h6.step s h0,(s.block _ l7 (by rw [h8];exact hN)).trans h7,(s.own _ l7).trans h8⟩
theorem KL.cells (h:KL w o N p g):∃ sv la lc mb,w.cell? ⟨p,0,none⟩=some sv/\w.cell? ⟨p,1,none⟩=some (.slice la g.l.length lc)/\w.cell? ⟨p,2,none⟩=some (.map (some mb))/\(∀ i,w.frozen? ⟨p,i,none⟩=false)/\p<w.heap.size:=by
 obtain ⟨sv,lv,mb,cs,h1,h2,h3,h4, -⟩:=h;have c:=ag h1;obtain ⟨la,lc,rfl⟩:=h4.form;exact ⟨sv,la,lc,mb,c 0,c 1,c 2,fun i=>Ap h1 i,au h1⟩
end
section
variable {w:World} {o:Own} {N p:Nat} {g:GN}
theorem Akh (h:KL w o N p g) (k:Int):Calls prog 100 #[.pointer (some ⟨p,0,none⟩), .int .i64 k] w fun e w'=>e = .returned (.int .i64 (g.may k))/\w=w':=by
 obtain ⟨sv,la,lc,mb,c0,c1,c2,hf,hl⟩:=h.cells;unfold GN.may;clear h
 by_cases h1:k<0
 ·go_enter func100,ntmps100
  go_wp2
  go_ret;exact ⟨rfl,rfl⟩
 ·by_cases h2:(g.l.length:Int)<=k
  ·go_enter func100,ntmps100
   go_wp2
   go_ret;exact ⟨rfl,rfl⟩
  ·have h3:¬ k ≥ (g.l.length:Int):=h2;go_enter func100,ntmps100
   go_wp2
   go_ret;exact ⟨rfl,rfl⟩
theorem iI (h:KL w o N p g) (x:Int):Calls prog 190 #[.pointer (some ⟨p,0,none⟩), .agg #[.int .i64 0, .int .i64 x]] w (XL ai w o fun v _ _=>v = .bool (decide (0<=x) && decide (x<(g.n:Int)))):=by
 have st:=(aj.refl ai w o).alloc (.cells #[.int .i64 0, .int .i64 x] 102) (0,0);obtain ⟨sv,lv,mb,cs,h1,h2,h3,h4,h6,h7,h8⟩:=h.step st id id;obtain ⟨sa,sc,rfl⟩:=Aq h3;obtain ⟨sb,so,rfl,cs0, -, -⟩:=h3.cell 0 rfl;have c0:=ag h1 0;have b0:=ag (heap_alloc_new w (.cells [.int .i64 0, .int .i64 x].toArray 102)) 0;have b1:=ag (heap_alloc_new w (.cells [.int .i64 0, .int .i64 x].toArray 102)) 1;simp only [ay,ax] at c0 b0 b1;rw [Nat.add_zero] at cs0;clear h h1 h2 h3 h4 h6 h7 h8;have stH:=ae st;clear st;obtain ⟨n,hn⟩:∃ n,g.n=n:=⟨_,rfl⟩;rw [hn] at cs0 ⊢;clear hn;have hS:=aI b0 (aI b1 (aI c0 cs0));clear b0 b1 c0 cs0
 by_cases hx:x<0
 ·have hx1:decide (x ≥ 0)=false:=by simpa using hx
  go_enter func190,ntmps190
  go_wp2
  refine Aa (fun w'=>w'.cell? ⟨w.heap.size,0,none⟩=some (.int .i64 0)/\w'.cell? ⟨w.heap.size,1,none⟩=some (.int .i64 x)/\w'.cell? ⟨p,0,none⟩=some (.slice (some ⟨sb,so,none⟩) 1 sc)/\w'.cell? ⟨sb,so,none⟩=some (.int .i64 (n:Int))) (fun _=>true) (by kernel_rfl) hS (fun hHeld => ?_);refine tq 0 (h:=tq 1 (h:=tq 2 (h:=tq 3 (h:=tq 4 (h:=tq 5 (h:=tq 6 (h:=tq 7 (h:=tq 8 (h:=tq 9 (h:=tq 10 (h:=tq 11 (h:=tq 12 (h:=tq 13 (h:=?_))))))))))))));refine tq 14 (h:=tq 15 (h:=tq 16 (h:=tq 17 (h:=tq 18 (h:=ts 19 (h:=ts 20 (h:=ts 21 (h:=ts 22 (h:=ts 23 (h:=ts 24 (h:=ts 25 (h:=ts 26 (h:=ts 27 (h:=?_))))))))))))));refine ts 28 (h:=ts 29 (h:=tq 30 (h:=tq 31 (h:=tD (h:=?_)))))
  go_wp2
  go_ret;exact ⟨_,_,rfl,stH.out.drew,by simp;omega⟩
 ·have hx1:decide (x ≥ 0)=true:=by simpa using hx
  go_enter func190,ntmps190
  go_wp2
  refine Aa (fun w'=>w'.cell? ⟨w.heap.size,0,none⟩=some (.int .i64 0)/\w'.cell? ⟨w.heap.size,1,none⟩=some (.int .i64 x)/\w'.cell? ⟨p,0,none⟩=some (.slice (some ⟨sb,so,none⟩) 1 sc)/\w'.cell? ⟨sb,so,none⟩=some (.int .i64 (n:Int))) (fun _=>true) (by kernel_rfl) hS (fun hHeld => ?_);refine tq 0 (h:=tq 1 (h:=tq 2 (h:=tq 3 (h:=tq 4 (h:=tq 5 (h:=tq 6 (h:=tq 7 (h:=tq 8 (h:=tq 9 (h:=tq 10 (h:=tq 11 (h:=tq 12 (h:=tq 13 (h:=?_))))))))))))));refine tq 14 (h:=tq 15 (h:=tq 16 (h:=tq 17 (h:=tq 18 (h:=tq 19 (h:=tq 20 (h:=tq 21 (h:=tq 22 (h:=tq 23 (h:=tq 24 (h:=tq 25 (h:=tq 26 (h:=tq 27 (h:=?_))))))))))))));refine tq 28 (h:=tq 29 (h:=tq 30 (h:=tq 31 (h:=tD (h:=?_)))))
  go_wp2
  go_ret;exact ⟨_,_,rfl,stH.out.drew,by simp;omega⟩
end
def AeS (a b:Int):Value := .agg #[.int .i64 0, .int .i64 (min a b), .int .i64 0, .int .i64 (max a b)]
section
variable {w:World} {o:Own} {N p:Nat} {g:GN}
theorem WU:(prog.info? 195).map (·.size)=some 4:=by kernel_rfl
theorem AfA (h:KL w o N p g) (a b:Int):Calls prog 135 #[.pointer (some ⟨p,0,none⟩), .agg #[.int .i64 0, .int .i64 a], .agg #[.int .i64 0, .int .i64 b]] w (XL ai w o fun v _ _=>v = .tuple #[AeS a b, .bool (g.linked a b)]):=by
 have hlk:∀ x y:Int,(x=a/\y=b \/ x=b/\y=a)->g.linked a b=(decide (0<=x) && decide (x<(g.n:Int)) && (decide (0<=y) && decide (y<(g.n:Int))) && decide (x ≠ y)):=by
  intro x y hxy;unfold GN.linked
  rcases hxy with ⟨rfl,rfl⟩ | ⟨rfl,rfl⟩
  ·simp [Bool.and_assoc]
  ·rw [Bool.eq_iff_iff];simp;omega
 by_cases hba:b<a
 ·have hmn:min a b=b:=by omega
  have hmx:max a b=a:=by omega
  have hl:=hlk b a (by simp);rw [hl];clear hl hlk
  by_cases hA:(decide (0<=b) && decide (b<(g.n:Int)))=false
  ·have hA1:=hA;go_enter func135,ntmps135
   go_wp2
   obtain ⟨W,oW,hW,⟨hst, -⟩,h1,h2,h3⟩:=Ajp w o (.cells #[.int .i64 0, .int .i64 b] 102) (.cells #[.int .i64 0, .int .i64 a] 102) (.cells #[.int .i64 0, .int .i64 0, .int .i64 0, .int .i64 0] 195);rw [hW];have hN:=ae (h.step hst id id);have hSf:=ae (fun (U:World) (q:Own) (s:aj ai W oW U q)=>(show (U.cell? ⟨w.heap.size,0,none⟩=some (.int .i64 0)/\U.cell? ⟨w.heap.size,1,none⟩=some (.int .i64 b))/\U.cell? ⟨w.heap.size+1,0,none⟩=some (.int .i64 0)/\U.cell? ⟨w.heap.size+1,1,none⟩=some (.int .i64 a) from ⟨⟨(h1.step s id).cell 0,(h1.step s id).cell 1⟩,(h2.step s id).cell 0,(h2.step s id).cell 1⟩));have hG:=ae (aI hst h3);have hS:=hSf.out W.drew oW (aj.refl ai W oW).drew;clear hW hst h1 h2 h3 h;refine Aa (fun w'=>(w'.cell? ⟨w.heap.size,0,none⟩=some (.int .i64 0)/\w'.cell? ⟨w.heap.size,1,none⟩=some (.int .i64 b))/\w'.cell? ⟨w.heap.size+1,0,none⟩=some (.int .i64 0)/\w'.cell? ⟨w.heap.size+1,1,none⟩=some (.int .i64 a)) (fun _=>true) (by kernel_rfl) hS (fun hHeld => ?_);refine tq 0 (h:=tq 1 (h:=tq 2 (h:=tq 3 (h:=tq 4 (h:=tO 5 (h:=?_))))));go_wp2_with fail;refine (iI (hN.out.step (aj.refl ai W oW).drew id id) b).mono ?_;rintro e W5 ⟨v5,o5,rfl,hs5,rfl⟩;have hS5:=hSf.out W5 o5 ((aj.refl ai W oW).drew.trans hs5);have hc5:=ae ((aj.refl ai W oW).drew.trans hs5);clear hs5;go_wp2_with fail;refine ⟨fun _=>hS5, ?_⟩;refine tq 6 (h:=ts 7 (h:=ts 8 (h:=ts 9 (h:=tq 10 (h:=tq 11 (h:=ts 12 (h:=ts 13 (h:=ts 14 (h:=tq 15 (h:=tO 16 (h:=?_)))))))))));obtain ⟨V,hV,AdF,hb16,AaV, -⟩:=(hG.out.2.step hc5.out id).store (P:=prog) (ty:=195) (vs:=[.int .i64 0, .int .i64 b, .int .i64 0, .int .i64 a]) (hG.out.1.trans hc5.out) (by omega) rfl WU rfl;have hVH:=ae hV;have hE:=ae (aI AdF hb16);have AvW:(V.cell? ⟨w.heap.size,0,none⟩=some (.int .i64 0)/\V.cell? ⟨w.heap.size,1,none⟩=some (.int .i64 b))/\V.cell? ⟨w.heap.size+1,0,none⟩=some (.int .i64 0)/\V.cell? ⟨w.heap.size+1,1,none⟩=some (.int .i64 a):=by
    have e1:=AaV w.heap.size (by omega);have e2:=AaV (w.heap.size+1) (by omega);have q:=hSf.out W5 o5 hc5.out;exact ⟨⟨(World.cell?_of_block e1).trans q.1.1,(World.cell?_of_block e1).trans q.1.2⟩,(World.cell?_of_block e2).trans q.2.1,(World.cell?_of_block e2).trans q.2.2⟩
   clear hV AdF hb16 AaV hHeld
   go_wp2_with ((with_reducible apply AC);exact hVH.out;simp only [Act.put])
   refine ⟨fun _=>AvW, ?_⟩;refine tq 17 (h:=tD (h:=?_));clear AvW
   go_wp2
   refine bodyPost_ret (Eg rfl _ _ (w.heap.size+1+1) 195 _ (0,0) _ rfl hE.out.2.1 underlying195 rfl WU) rfl ?_;exact ⟨_,_,rfl,hE.out.1,by unfold AeS;rw [hmn,hmx];simp [hA]⟩
  ·have hA:(decide (0<=b) && decide (b<(g.n:Int)))=true:=by simpa using hA
   by_cases hB:(decide (0<=a) && decide (a<(g.n:Int)))=false
   ·have hB1:=hB;go_enter func135,ntmps135
    go_wp2
    obtain ⟨W,oW,hW,⟨hst, -⟩,h1,h2,h3⟩:=Ajp w o (.cells #[.int .i64 0, .int .i64 b] 102) (.cells #[.int .i64 0, .int .i64 a] 102) (.cells #[.int .i64 0, .int .i64 0, .int .i64 0, .int .i64 0] 195);rw [hW];have hN:=ae (h.step hst id id);have hSf:=ae (fun (U:World) (q:Own) (s:aj ai W oW U q)=>(show (U.cell? ⟨w.heap.size,0,none⟩=some (.int .i64 0)/\U.cell? ⟨w.heap.size,1,none⟩=some (.int .i64 b))/\U.cell? ⟨w.heap.size+1,0,none⟩=some (.int .i64 0)/\U.cell? ⟨w.heap.size+1,1,none⟩=some (.int .i64 a) from ⟨⟨(h1.step s id).cell 0,(h1.step s id).cell 1⟩,(h2.step s id).cell 0,(h2.step s id).cell 1⟩));have hG:=ae (aI hst h3);have hS:=hSf.out W.drew oW (aj.refl ai W oW).drew;clear hW hst h1 h2 h3 h;refine Aa (fun w'=>(w'.cell? ⟨w.heap.size,0,none⟩=some (.int .i64 0)/\w'.cell? ⟨w.heap.size,1,none⟩=some (.int .i64 b))/\w'.cell? ⟨w.heap.size+1,0,none⟩=some (.int .i64 0)/\w'.cell? ⟨w.heap.size+1,1,none⟩=some (.int .i64 a)) (fun _=>true) (by kernel_rfl) hS (fun hHeld => ?_);refine tq 0 (h:=tq 1 (h:=tq 2 (h:=tq 3 (h:=tq 4 (h:=tO 5 (h:=?_))))));go_wp2_with fail;refine (iI (hN.out.step (aj.refl ai W oW).drew id id) b).mono ?_;rintro e W5 ⟨v5,o5,rfl,hs5,rfl⟩;have hS5:=hSf.out W5 o5 ((aj.refl ai W oW).drew.trans hs5);have hc5:=ae ((aj.refl ai W oW).drew.trans hs5);clear hs5;go_wp2_with fail;refine ⟨fun _=>hS5, ?_⟩;refine tq 6 (h:=tq 7 (h:=tq 8 (h:=tO 9 (h:=?_))));go_wp2_with fail;refine (iI (hN.out.step hc5.out id id) a).mono ?_;rintro e W9 ⟨v9,o9,rfl,hs9,rfl⟩;have hS9:=hSf.out W9 o9 (hc5.out.trans hs9);have hc9:=ae (hc5.out.trans hs9);clear hs9;go_wp2_with fail;refine ⟨fun _=>hS9, ?_⟩;refine tq 10 (h:=tq 11 (h:=ts 12 (h:=ts 13 (h:=ts 14 (h:=tq 15 (h:=tO 16 (h:=?_)))))));obtain ⟨V,hV,AdF,hb16,AaV, -⟩:=(hG.out.2.step hc9.out id).store (P:=prog) (ty:=195) (vs:=[.int .i64 0, .int .i64 b, .int .i64 0, .int .i64 a]) (hG.out.1.trans hc9.out) (by omega) rfl WU rfl;have hVH:=ae hV;have hE:=ae (aI AdF hb16);have AvW:(V.cell? ⟨w.heap.size,0,none⟩=some (.int .i64 0)/\V.cell? ⟨w.heap.size,1,none⟩=some (.int .i64 b))/\V.cell? ⟨w.heap.size+1,0,none⟩=some (.int .i64 0)/\V.cell? ⟨w.heap.size+1,1,none⟩=some (.int .i64 a):=by
     have e1:=AaV w.heap.size (by omega);have e2:=AaV (w.heap.size+1) (by omega);have q:=hSf.out W9 o9 hc9.out;exact ⟨⟨(World.cell?_of_block e1).trans q.1.1,(World.cell?_of_block e1).trans q.1.2⟩,(World.cell?_of_block e2).trans q.2.1,(World.cell?_of_block e2).trans q.2.2⟩
    clear hV AdF hb16 AaV hHeld
    go_wp2_with ((with_reducible apply AC);exact hVH.out;simp only [Act.put])
    refine ⟨fun _=>AvW, ?_⟩;refine tq 17 (h:=tD (h:=?_));clear AvW
    go_wp2
    refine bodyPost_ret (Eg rfl _ _ (w.heap.size+1+1) 195 _ (0,0) _ rfl hE.out.2.1 underlying195 rfl WU) rfl ?_;exact ⟨_,_,rfl,hE.out.1,by unfold AeS;rw [hmn,hmx];simp [hA,hB]⟩
   ·have hB:(decide (0<=a) && decide (a<(g.n:Int)))=true:=by simpa using hB
    go_enter func135,ntmps135
    go_wp2
    obtain ⟨W,oW,hW,⟨hst, -⟩,h1,h2,h3⟩:=Ajp w o (.cells #[.int .i64 0, .int .i64 b] 102) (.cells #[.int .i64 0, .int .i64 a] 102) (.cells #[.int .i64 0, .int .i64 0, .int .i64 0, .int .i64 0] 195);rw [hW];have hN:=ae (h.step hst id id);have hSf:=ae (fun (U:World) (q:Own) (s:aj ai W oW U q)=>(show (U.cell? ⟨w.heap.size,0,none⟩=some (.int .i64 0)/\U.cell? ⟨w.heap.size,1,none⟩=some (.int .i64 b))/\U.cell? ⟨w.heap.size+1,0,none⟩=some (.int .i64 0)/\U.cell? ⟨w.heap.size+1,1,none⟩=some (.int .i64 a) from ⟨⟨(h1.step s id).cell 0,(h1.step s id).cell 1⟩,(h2.step s id).cell 0,(h2.step s id).cell 1⟩));have hG:=ae (aI hst h3);have hS:=hSf.out W.drew oW (aj.refl ai W oW).drew;clear hW hst h1 h2 h3 h;refine Aa (fun w'=>(w'.cell? ⟨w.heap.size,0,none⟩=some (.int .i64 0)/\w'.cell? ⟨w.heap.size,1,none⟩=some (.int .i64 b))/\w'.cell? ⟨w.heap.size+1,0,none⟩=some (.int .i64 0)/\w'.cell? ⟨w.heap.size+1,1,none⟩=some (.int .i64 a)) (fun _=>true) (by kernel_rfl) hS (fun hHeld => ?_);refine tq 0 (h:=tq 1 (h:=tq 2 (h:=tq 3 (h:=tq 4 (h:=tO 5 (h:=?_))))));go_wp2_with fail;refine (iI (hN.out.step (aj.refl ai W oW).drew id id) b).mono ?_;rintro e W5 ⟨v5,o5,rfl,hs5,rfl⟩;have hS5:=hSf.out W5 o5 ((aj.refl ai W oW).drew.trans hs5);have hc5:=ae ((aj.refl ai W oW).drew.trans hs5);clear hs5;go_wp2_with fail;refine ⟨fun _=>hS5, ?_⟩;refine tq 6 (h:=tq 7 (h:=tq 8 (h:=tO 9 (h:=?_))));go_wp2_with fail;refine (iI (hN.out.step hc5.out id id) a).mono ?_;rintro e W9 ⟨v9,o9,rfl,hs9,rfl⟩;have hS9:=hSf.out W9 o9 (hc5.out.trans hs9);have hc9:=ae (hc5.out.trans hs9);clear hs9;go_wp2_with fail;refine ⟨fun _=>hS9, ?_⟩;refine tq 10 (h:=tq 11 (h:=tq 12 (h:=tq 13 (h:=tv 14 (.bool (decide (b ≠ a))) (hy:=fun w hSw=>by (try dsimp only at hSw);go_simp;first | done | (split <;> simp_all)) (h:=tq 15 (h:=tO 16 (h:=?_)))))))
    obtain ⟨V,hV,AdF,hb16,AaV, -⟩:=(hG.out.2.step hc9.out id).store (P:=prog) (ty:=195) (vs:=[.int .i64 0, .int .i64 b, .int .i64 0, .int .i64 a]) (hG.out.1.trans hc9.out) (by omega) rfl WU rfl;have hVH:=ae hV;have hE:=ae (aI AdF hb16);have AvW:(V.cell? ⟨w.heap.size,0,none⟩=some (.int .i64 0)/\V.cell? ⟨w.heap.size,1,none⟩=some (.int .i64 b))/\V.cell? ⟨w.heap.size+1,0,none⟩=some (.int .i64 0)/\V.cell? ⟨w.heap.size+1,1,none⟩=some (.int .i64 a):=by
     have e1:=AaV w.heap.size (by omega);have e2:=AaV (w.heap.size+1) (by omega);have q:=hSf.out W9 o9 hc9.out;exact ⟨⟨(World.cell?_of_block e1).trans q.1.1,(World.cell?_of_block e1).trans q.1.2⟩,(World.cell?_of_block e2).trans q.2.1,(World.cell?_of_block e2).trans q.2.2⟩
    clear hV AdF hb16 AaV hHeld
    go_wp2_with ((with_reducible apply AC);exact hVH.out;simp only [Act.put])
    refine ⟨fun _=>AvW, ?_⟩;refine tq 17 (h:=tD (h:=?_));clear AvW
    go_wp2
    refine bodyPost_ret (Eg rfl _ _ (w.heap.size+1+1) 195 _ (0,0) _ rfl hE.out.2.1 underlying195 rfl WU) rfl ?_;exact ⟨_,_,rfl,hE.out.1,by unfold AeS;rw [hmn,hmx];simp [hA,hB]⟩
 ·have hmn:min a b=a:=by omega
  have hmx:max a b=b:=by omega
  have hl:=hlk a b (by simp);rw [hl];clear hl hlk
  by_cases hA:(decide (0<=a) && decide (a<(g.n:Int)))=false
  ·have hA1:=hA;go_enter func135,ntmps135
   go_wp2
   obtain ⟨W,oW,hW,⟨hst, -⟩,h1,h2,h3⟩:=Ajp w o (.cells #[.int .i64 0, .int .i64 a] 102) (.cells #[.int .i64 0, .int .i64 b] 102) (.cells #[.int .i64 0, .int .i64 0, .int .i64 0, .int .i64 0] 195);rw [hW];have hN:=ae (h.step hst id id);have hSf:=ae (fun (U:World) (q:Own) (s:aj ai W oW U q)=>(show (U.cell? ⟨w.heap.size,0,none⟩=some (.int .i64 0)/\U.cell? ⟨w.heap.size,1,none⟩=some (.int .i64 a))/\U.cell? ⟨w.heap.size+1,0,none⟩=some (.int .i64 0)/\U.cell? ⟨w.heap.size+1,1,none⟩=some (.int .i64 b) from ⟨⟨(h1.step s id).cell 0,(h1.step s id).cell 1⟩,(h2.step s id).cell 0,(h2.step s id).cell 1⟩));have hG:=ae (aI hst h3);have hS:=hSf.out W.drew oW (aj.refl ai W oW).drew;clear hW hst h1 h2 h3 h;refine Aa (fun w'=>(w'.cell? ⟨w.heap.size,0,none⟩=some (.int .i64 0)/\w'.cell? ⟨w.heap.size,1,none⟩=some (.int .i64 a))/\w'.cell? ⟨w.heap.size+1,0,none⟩=some (.int .i64 0)/\w'.cell? ⟨w.heap.size+1,1,none⟩=some (.int .i64 b)) (fun _=>true) (by kernel_rfl) hS (fun hHeld => ?_);refine tq 0 (h:=tq 1 (h:=tq 2 (h:=tq 3 (h:=tq 4 (h:=tO 5 (h:=?_))))));go_wp2_with fail;refine (iI (hN.out.step (aj.refl ai W oW).drew id id) a).mono ?_;rintro e W5 ⟨v5,o5,rfl,hs5,rfl⟩;have hS5:=hSf.out W5 o5 ((aj.refl ai W oW).drew.trans hs5);have hc5:=ae ((aj.refl ai W oW).drew.trans hs5);clear hs5;go_wp2_with fail;refine ⟨fun _=>hS5, ?_⟩;refine tq 6 (h:=ts 7 (h:=ts 8 (h:=ts 9 (h:=tq 10 (h:=tq 11 (h:=ts 12 (h:=ts 13 (h:=ts 14 (h:=tq 15 (h:=tO 16 (h:=?_)))))))))));obtain ⟨V,hV,AdF,hb16,AaV, -⟩:=(hG.out.2.step hc5.out id).store (P:=prog) (ty:=195) (vs:=[.int .i64 0, .int .i64 a, .int .i64 0, .int .i64 b]) (hG.out.1.trans hc5.out) (by omega) rfl WU rfl;have hVH:=ae hV;have hE:=ae (aI AdF hb16);have AvW:(V.cell? ⟨w.heap.size,0,none⟩=some (.int .i64 0)/\V.cell? ⟨w.heap.size,1,none⟩=some (.int .i64 a))/\V.cell? ⟨w.heap.size+1,0,none⟩=some (.int .i64 0)/\V.cell? ⟨w.heap.size+1,1,none⟩=some (.int .i64 b):=by
    have e1:=AaV w.heap.size (by omega);have e2:=AaV (w.heap.size+1) (by omega);have q:=hSf.out W5 o5 hc5.out;exact ⟨⟨(World.cell?_of_block e1).trans q.1.1,(World.cell?_of_block e1).trans q.1.2⟩,(World.cell?_of_block e2).trans q.2.1,(World.cell?_of_block e2).trans q.2.2⟩
   clear hV AdF hb16 AaV hHeld
   go_wp2_with ((with_reducible apply AC);exact hVH.out;simp only [Act.put])
   refine ⟨fun _=>AvW, ?_⟩;refine tq 17 (h:=tD (h:=?_));clear AvW
   go_wp2
   refine bodyPost_ret (Eg rfl _ _ (w.heap.size+1+1) 195 _ (0,0) _ rfl hE.out.2.1 underlying195 rfl WU) rfl ?_;exact ⟨_,_,rfl,hE.out.1,by unfold AeS;rw [hmn,hmx];simp [hA]⟩
  ·have hA:(decide (0<=a) && decide (a<(g.n:Int)))=true:=by simpa using hA
   by_cases hB:(decide (0<=b) && decide (b<(g.n:Int)))=false
   ·have hB1:=hB;go_enter func135,ntmps135
    go_wp2
    obtain ⟨W,oW,hW,⟨hst, -⟩,h1,h2,h3⟩:=Ajp w o (.cells #[.int .i64 0, .int .i64 a] 102) (.cells #[.int .i64 0, .int .i64 b] 102) (.cells #[.int .i64 0, .int .i64 0, .int .i64 0, .int .i64 0] 195);rw [hW];have hN:=ae (h.step hst id id);have hSf:=ae (fun (U:World) (q:Own) (s:aj ai W oW U q)=>(show (U.cell? ⟨w.heap.size,0,none⟩=some (.int .i64 0)/\U.cell? ⟨w.heap.size,1,none⟩=some (.int .i64 a))/\U.cell? ⟨w.heap.size+1,0,none⟩=some (.int .i64 0)/\U.cell? ⟨w.heap.size+1,1,none⟩=some (.int .i64 b) from ⟨⟨(h1.step s id).cell 0,(h1.step s id).cell 1⟩,(h2.step s id).cell 0,(h2.step s id).cell 1⟩));have hG:=ae (aI hst h3);have hS:=hSf.out W.drew oW (aj.refl ai W oW).drew;clear hW hst h1 h2 h3 h;refine Aa (fun w'=>(w'.cell? ⟨w.heap.size,0,none⟩=some (.int .i64 0)/\w'.cell? ⟨w.heap.size,1,none⟩=some (.int .i64 a))/\w'.cell? ⟨w.heap.size+1,0,none⟩=some (.int .i64 0)/\w'.cell? ⟨w.heap.size+1,1,none⟩=some (.int .i64 b)) (fun _=>true) (by kernel_rfl) hS (fun hHeld => ?_);refine tq 0 (h:=tq 1 (h:=tq 2 (h:=tq 3 (h:=tq 4 (h:=tO 5 (h:=?_))))));go_wp2_with fail;refine (iI (hN.out.step (aj.refl ai W oW).drew id id) a).mono ?_;rintro e W5 ⟨v5,o5,rfl,hs5,rfl⟩;have hS5:=hSf.out W5 o5 ((aj.refl ai W oW).drew.trans hs5);have hc5:=ae ((aj.refl ai W oW).drew.trans hs5);clear hs5;go_wp2_with fail;refine ⟨fun _=>hS5, ?_⟩;refine tq 6 (h:=tq 7 (h:=tq 8 (h:=tO 9 (h:=?_))));go_wp2_with fail;refine (iI (hN.out.step hc5.out id id) b).mono ?_;rintro e W9 ⟨v9,o9,rfl,hs9,rfl⟩;have hS9:=hSf.out W9 o9 (hc5.out.trans hs9);have hc9:=ae (hc5.out.trans hs9);clear hs9;go_wp2_with fail;refine ⟨fun _=>hS9, ?_⟩;refine tq 10 (h:=tq 11 (h:=ts 12 (h:=ts 13 (h:=ts 14 (h:=tq 15 (h:=tO 16 (h:=?_)))))));obtain ⟨V,hV,AdF,hb16,AaV, -⟩:=(hG.out.2.step hc9.out id).store (P:=prog) (ty:=195) (vs:=[.int .i64 0, .int .i64 a, .int .i64 0, .int .i64 b]) (hG.out.1.trans hc9.out) (by omega) rfl WU rfl;have hVH:=ae hV;have hE:=ae (aI AdF hb16);have AvW:(V.cell? ⟨w.heap.size,0,none⟩=some (.int .i64 0)/\V.cell? ⟨w.heap.size,1,none⟩=some (.int .i64 a))/\V.cell? ⟨w.heap.size+1,0,none⟩=some (.int .i64 0)/\V.cell? ⟨w.heap.size+1,1,none⟩=some (.int .i64 b):=by
     have e1:=AaV w.heap.size (by omega);have e2:=AaV (w.heap.size+1) (by omega);have q:=hSf.out W9 o9 hc9.out;exact ⟨⟨(World.cell?_of_block e1).trans q.1.1,(World.cell?_of_block e1).trans q.1.2⟩,(World.cell?_of_block e2).trans q.2.1,(World.cell?_of_block e2).trans q.2.2⟩
    clear hV AdF hb16 AaV hHeld
    go_wp2_with ((with_reducible apply AC);exact hVH.out;simp only [Act.put])
    refine ⟨fun _=>AvW, ?_⟩;refine tq 17 (h:=tD (h:=?_));clear AvW
    go_wp2
    refine bodyPost_ret (Eg rfl _ _ (w.heap.size+1+1) 195 _ (0,0) _ rfl hE.out.2.1 underlying195 rfl WU) rfl ?_;exact ⟨_,_,rfl,hE.out.1,by unfold AeS;rw [hmn,hmx];simp [hA,hB]⟩
   ·have hB:(decide (0<=b) && decide (b<(g.n:Int)))=true:=by simpa using hB
    go_enter func135,ntmps135
    go_wp2
    obtain ⟨W,oW,hW,⟨hst, -⟩,h1,h2,h3⟩:=Ajp w o (.cells #[.int .i64 0, .int .i64 a] 102) (.cells #[.int .i64 0, .int .i64 b] 102) (.cells #[.int .i64 0, .int .i64 0, .int .i64 0, .int .i64 0] 195);rw [hW];have hN:=ae (h.step hst id id);have hSf:=ae (fun (U:World) (q:Own) (s:aj ai W oW U q)=>(show (U.cell? ⟨w.heap.size,0,none⟩=some (.int .i64 0)/\U.cell? ⟨w.heap.size,1,none⟩=some (.int .i64 a))/\U.cell? ⟨w.heap.size+1,0,none⟩=some (.int .i64 0)/\U.cell? ⟨w.heap.size+1,1,none⟩=some (.int .i64 b) from ⟨⟨(h1.step s id).cell 0,(h1.step s id).cell 1⟩,(h2.step s id).cell 0,(h2.step s id).cell 1⟩));have hG:=ae (aI hst h3);have hS:=hSf.out W.drew oW (aj.refl ai W oW).drew;clear hW hst h1 h2 h3 h;refine Aa (fun w'=>(w'.cell? ⟨w.heap.size,0,none⟩=some (.int .i64 0)/\w'.cell? ⟨w.heap.size,1,none⟩=some (.int .i64 a))/\w'.cell? ⟨w.heap.size+1,0,none⟩=some (.int .i64 0)/\w'.cell? ⟨w.heap.size+1,1,none⟩=some (.int .i64 b)) (fun _=>true) (by kernel_rfl) hS (fun hHeld => ?_);refine tq 0 (h:=tq 1 (h:=tq 2 (h:=tq 3 (h:=tq 4 (h:=tO 5 (h:=?_))))));go_wp2_with fail;refine (iI (hN.out.step (aj.refl ai W oW).drew id id) a).mono ?_;rintro e W5 ⟨v5,o5,rfl,hs5,rfl⟩;have hS5:=hSf.out W5 o5 ((aj.refl ai W oW).drew.trans hs5);have hc5:=ae ((aj.refl ai W oW).drew.trans hs5);clear hs5;go_wp2_with fail;refine ⟨fun _=>hS5, ?_⟩;refine tq 6 (h:=tq 7 (h:=tq 8 (h:=tO 9 (h:=?_))));go_wp2_with fail;refine (iI (hN.out.step hc5.out id id) b).mono ?_;rintro e W9 ⟨v9,o9,rfl,hs9,rfl⟩;have hS9:=hSf.out W9 o9 (hc5.out.trans hs9);have hc9:=ae (hc5.out.trans hs9);clear hs9;go_wp2_with fail;refine ⟨fun _=>hS9, ?_⟩;refine tq 10 (h:=tq 11 (h:=tq 12 (h:=tq 13 (h:=tv 14 (.bool (decide (a ≠ b))) (hy:=fun w hSw=>by (try dsimp only at hSw);go_simp;first | done | (split <;> simp_all)) (h:=tq 15 (h:=tO 16 (h:=?_)))))))
    obtain ⟨V,hV,AdF,hb16,AaV, -⟩:=(hG.out.2.step hc9.out id).store (P:=prog) (ty:=195) (vs:=[.int .i64 0, .int .i64 a, .int .i64 0, .int .i64 b]) (hG.out.1.trans hc9.out) (by omega) rfl WU rfl;have hVH:=ae hV;have hE:=ae (aI AdF hb16);have AvW:(V.cell? ⟨w.heap.size,0,none⟩=some (.int .i64 0)/\V.cell? ⟨w.heap.size,1,none⟩=some (.int .i64 a))/\V.cell? ⟨w.heap.size+1,0,none⟩=some (.int .i64 0)/\V.cell? ⟨w.heap.size+1,1,none⟩=some (.int .i64 b):=by
     have e1:=AaV w.heap.size (by omega);have e2:=AaV (w.heap.size+1) (by omega);have q:=hSf.out W9 o9 hc9.out;exact ⟨⟨(World.cell?_of_block e1).trans q.1.1,(World.cell?_of_block e1).trans q.1.2⟩,(World.cell?_of_block e2).trans q.2.1,(World.cell?_of_block e2).trans q.2.2⟩
    clear hV AdF hb16 AaV hHeld
    go_wp2_with ((with_reducible apply AC);exact hVH.out;simp only [Act.put])
    refine ⟨fun _=>AvW, ?_⟩;refine tq 17 (h:=tD (h:=?_));clear AvW
    go_wp2
    refine bodyPost_ret (Eg rfl _ _ (w.heap.size+1+1) 195 _ (0,0) _ rfl hE.out.2.1 underlying195 rfl WU) rfl ?_;exact ⟨_,_,rfl,hE.out.1,by unfold AeS;rw [hmn,hmx];simp [hA,hB]⟩
end
theorem AwZ (d:Nat) (x y:Int) (w:World):(Op.equalIn (d+1) 3 (.int .i64 x) (.int .i64 y)).run prog w = .ok (x == y) w:=by
 have hu:=run_underlying (w:=w) underlying3;rw [Op.equalIn];simp [hu]
theorem AsY (d:Nat) (x y:Int) (w:World):(Op.equalIn (d+2) 102 (.agg #[.int .i64 0, .int .i64 x]) (.agg #[.int .i64 0, .int .i64 y])).run prog w = .ok (x == y) w:=by
 have hu:=run_underlying (w:=w) underlying102;have p0:∀ a b:Value,(part 3 #[a,b] 0).run prog w = .ok a w:=fun _ _=>by kernel_rfl
 have p1:∀ a b:Value,(part 3 #[a,b] 1).run prog w = .ok b w:=fun _ _=>by kernel_rfl
 have hh:prog.stoodInHeld 102=false:=by kernel_rfl
 rw [Op.equalIn];cases h:x == y <;> simp [hu,p0,p1,AwZ,h,hh]
theorem AjO (a b c d:Nat) (w:World):(Op.equal 195 (AaQ a b) (AaQ c d)).run prog w = .ok (a == c && b == d) w:=by
 have hu:=run_underlying (w:=w) underlying195;have p0:∀ a b c d:Value,(part 102 #[a,b,c,d] 0).run prog w = .ok (.agg #[a,b]) w:=fun _ _ _ _=>by kernel_rfl
 have p1:∀ a b c d:Value,(part 102 #[a,b,c,d] 2).run prog w = .ok (.agg #[c,d]) w:=fun _ _ _ _=>by kernel_rfl
 have hs:(sizeOf 102).run prog w = .ok 2 w:=by kernel_rfl
 have e1:(a == c)=((a:Int) == (c:Int)):=by rw [Bool.eq_iff_iff];simp;omega
 have e2:(b == d)=((b:Int) == (d:Int)):=by rw [Bool.eq_iff_iff];simp;omega
 rw [e1,e2];unfold AaQ Op.equal Op.maxDepth;rw [Op.equalIn];cases h:(a:Int) == (c:Int) <;> cases h2:(b:Int) == (d:Int) <;> simp [hu,p0,p1,hs,AsY 9997,h,h2,show List.range' 0 2=[0,1] from rfl]
theorem Ark (a b:Nat) (e:Bool) (w:World):(Instr.checkKey e 10000 195 (AaQ a b)).run prog w = .ok () w:=by kernel_rfl
def Bcv (c:List (Nat × Nat × Bool)) (a b:Nat):Option Nat:=c.findIdx? fun e=>e.1 == a && e.2.1 == b
theorem AkB (a b:Nat) (w:World):∀ (c:List (Nat × Nat × Bool)) (j i:Nat),(Instr.findAsking 195 (AaQ a b) (Aas j c) i).run prog w =
  .ok (match c.findIdx? (fun e=>e.1 == a && e.2.1 == b) with | some k=>some (i+k, .bool ((c.getD k (0,0,false)).2.2)) | none=>none) w
 | [],_,_=>rfl
 | x :: r,j,i=>by
  have h:=AkB a b w r (j+1) (i+1);have he:(a == x.1 && b == x.2.1)=(x.1 == a && x.2.1 == b):=by rw [Bool.eq_iff_iff];simp;omega
  rw [Aas,Instr.findAsking];simp only [Sem.run_bind,AjO,Result.andThen_ok,he,List.findIdx?_cons]
  cases hx:(x.1 == a && x.2.1 == b)
  ·simp only [Bool.false_eq_true,if_false,h]
   cases r.findIdx? (fun e=>e.1 == a && e.2.1 == b) with
   | none=>rfl
   | some k=>simp [Nat.add_assoc,Nat.add_comm 1 k]
  ·simp
theorem Aph (c:List (Nat × Nat × Bool)) (a b:Nat):GN.cutAt c a b=match c.findIdx? (fun e=>e.1 == a && e.2.1 == b) with | some k=>(c.getD k (0,0,false)).2.2 | none=>false:=by
 unfold GN.cutAt
 induction c with
 | nil=>rfl
 | cons x r ih =>
  rw [List.find?_cons,List.findIdx?_cons]
  cases hx:(x.1 == a && x.2.1 == b)
  ·simp only [Bool.false_eq_true,if_false,ih]
   cases r.findIdx? (fun e=>e.1 == a && e.2.1 == b) with
   | none=>rfl
   | some k=>simp
  ·simp
section
variable {w:World} {mb n:Nat} {c:List (Nat × Nat × Bool)}
theorem run_findKey (a b:Nat) (w:World):(Instr.findKey 195 (AaQ a b) (Aas 0 c)).run prog w =
  .ok (match c.findIdx? (fun e=>e.1 == a && e.2.1 == b) with | some k=>some (k, .bool ((c.getD k (0,0,false)).2.2)) | none=>none) w:=by
 have hu:=run_underlying (w:=w) underlying195;have h:=AkB a b w c 0 0;have hn:∀ c:List (Nat × Nat × Bool),Instr.findNow (.array 2 102) (AaQ a b) (Aas 0 c) 0=if c=[] then some none else none:=by
  intro c;cases c with
  | nil=>rfl
  | cons x r=>simp [Aas,Instr.findNow,Instr.sameNow,AaQ]
 unfold Instr.findKey;simp only [Sem.run_bind,hu,Result.andThen_ok,hn]
 cases hc:c with
 | nil=>simp
 | cons x r =>
  rw [if_neg (by simp)];simp only [Nat.zero_add] at h;rw [hc] at h;exact h
theorem AjS (hb:w.heap[mb]?=some (.map (Aas 0 c).toArray n)) (a b:Nat) :
  (Instr.lookup 124 (.map (some mb)) (AaQ a b) false).run prog w = .ok (.bool (GN.cutAt c a b)) w:=by
 have hz:(zeroValue 4).run prog w = .ok (.bool false) w:=by kernel_rfl
 rw [Aph];simp only [Instr.lookup,Sem.run_bind,run_underlying underlying124,Result.andThen_ok,MapKept.run_getObj_map hb,Sem.run_pure,Ark,run_findKey]
 cases c.findIdx? (fun e=>e.1 == a && e.2.1 == b) with
 | none=>simp [hz]
 | some k=>simp
theorem Ahk (a b:Nat) (v:Bool):∀ (c:List (Nat × Nat × Bool)) (j k:Nat),Aas j (c.set k (a,b,v))=(Aas j c).modify k fun e=>{ e with key:=AaQ a b,val := .bool v }
 | [],_,_=>by simp [Aas]
 | x :: r,j,0=>by simp [Aas]
 | x :: r,j,k+1=>by simp [Aas,Ahk a b v r (j+1) k]
theorem Aep (y:Nat × Nat × Bool):∀ (c:List (Nat × Nat × Bool)) (j:Nat),Aas j (c++[y])=Aas j c++[⟨AaQ y.1 y.2.1, .bool y.2.2,j+c.length⟩]
 | [],j=>by simp [Aas]
 | x :: r,j=>by simp [Aas,Aep y r (j+1),Nat.add_assoc,Nat.add_comm 1]
theorem AeC (hb:w.heap[mb]?=some (.map (Aas 0 c).toArray c.length)) (a b:Nat) (v:Bool) :
  (Instr.mapUpdate 124 (.map (some mb)) (AaQ a b) (.bool v)).run prog w = .ok () (DR w mb (.map (Aas 0 (GN.Awx c a b v)).toArray (GN.Awx c a b v).length)):=by
 have hk:∀ w:World,(Instr.keyThatStays (AaQ a b) (AaQ a b)).run prog w = .ok (AaQ a b) w:=fun w=>by
  unfold Instr.keyThatStays;rw [if_pos (by unfold AaQ;simp [Instr.sameBits])];rfl
 simp only [Instr.mapUpdate,Sem.run_bind,run_underlying underlying124,Result.andThen_ok,MapKept.run_getObj_map hb,Ark,run_findKey,GN.Awx]
 cases hf:c.findIdx? (fun e=>e.1 == a && e.2.1 == b) with
 | none =>
  simp only [MapKept.run_setObj_map _ hb,Aep];simp [DR]
 | some k =>
  have hold:((((Aas 0 c).toArray[k]?).map (·.key)).getD (AaQ a b))=AaQ a b:=by
   obtain ⟨hlt,hp, -⟩:=List.findIdx?_eq_some_iff_getElem.1 hf;have hg:∀ (c:List (Nat × Nat × Bool)) (j k:Nat) (h:k<c.length),(Aas j c)[k]?=some ⟨AaQ c[k].1 c[k].2.1, .bool c[k].2.2,j+k⟩:=by
    intro c
    induction c with
    | nil=>intro j k h;simp at h
    | cons x r ih=>intro j k h;cases k with
     | zero=>simp [Aas]
     | succ k=>simp only [Aas,ax,List.getElem_cons_succ];rw [ih];simp [Nat.add_assoc,Nat.add_comm 1];simpa using h
   simp only [List.getElem?_toArray,hg c 0 k hlt];simp only [Bool.and_eq_true,beq_iff_eq] at hp;simp [hp]
  simp only [Sem.run_bind,hold,hk,Result.andThen_ok,MapKept.run_setObj_map _ hb,Ahk];simp [DR]
end
theorem Ais (a b:Nat):AeS a b=AaQ (min a b) (max a b):=by
 unfold AeS AaQ;rw [show min (a:Int) (b:Int)=((min a b:Nat):Int) by omega,show max (a:Int) (b:Int)=((max a b:Nat):Int) by omega]
theorem AcP (g:GN) {a b:Nat} (ha:a<g.n) (hb:b<g.n) (hab:a ≠ b):g.linked a b=true:=by
 unfold GN.linked;simp;omega
section
variable {w:World} {o:Own} {N p:Nat} {g:GN}
theorem Aom (h:KL w o N p g) {a b:Nat} (ha:a<g.n) (hb:b<g.n) (hab:a ≠ b):Calls prog 101 #[.pointer (some ⟨p,0,none⟩), .agg #[.int .i64 0, .int .i64 (a:Int)], .agg #[.int .i64 0, .int .i64 (b:Int)]] w (XL ai w o fun v _ _=>v = .bool (g.cuts a b)):=by
 obtain ⟨W,oW,hW,⟨hst,hsz⟩, -⟩:=Ajq w o (.cells #[.int .i64 0, .int .i64 (a:Int)] 102) (.cells #[.int .i64 0, .int .i64 (b:Int)] 102);have hl:=ae (AfA (h.step hst id id) a b);have hH:=ae (h.step hst id id);have Abe:=ae hst;have XX:=ae hW;clear hst hsz hW h;go_enter func101,ntmps101;go_wp2_with fail;rw [XX.out];refine hl.out.mono ?_;rintro e W1 ⟨v1,o1,rfl,hs1,rfl⟩;rw [Ais,AcP g ha hb hab];unfold AaQ;obtain ⟨x,hx⟩:∃ x,min a b=x:=⟨_,rfl⟩;obtain ⟨y,hy⟩:∃ y,max a b=y:=⟨_,rfl⟩;rw [hx,hy];obtain ⟨W2,o2,hW2,⟨hs2, -⟩,hb2⟩:=AaC W1 o1 (.cells #[.int .i64 0, .int .i64 (x:Int), .int .i64 0, .int .i64 (y:Int)] 195);obtain ⟨sv,lv,mb,cs,h1, -, -, -, -,h7, -⟩:=(hH.out.step hs1 id id).step hs2 id id;have c2:=ag h1 2;have c3:=hb2.cell 0;have c4:=hb2.cell 1;have c5:=hb2.cell 2;have c6:=hb2.cell 3;simp only [ay,ax] at c2 c3 c4 c5 c6;have hS:=aI (show W2.drew.heap[mb]?=_ from h7) (aI c2 (aI c3 (aI c4 (aI c5 c6))));have hF:=ae ((Abe.out.trans hs1).trans hs2);have hc:g.cuts a b=GN.cutAt g.cut x y:=by unfold GN.cuts;rw [hx,hy]
 have WV:=ae hc;have xO:=ae hW2;clear hs1 hs2 hb2 h1 h7 c2 c3 c4 c5 c6 hc hx hy hW2;go_wp2_with fail;rw [xO.out];refine Aa (fun w'=>w'.heap[mb]?=some (.map (Aas 0 g.cut).toArray g.cut.length)/\w'.cell? ⟨p,2,none⟩=some (.map (some mb))/\w'.cell? ⟨W1.heap.size,0,none⟩=some (.int .i64 0)/\w'.cell? ⟨W1.heap.size,1,none⟩=some (.int .i64 (x:Int))/\w'.cell? ⟨W1.heap.size,2,none⟩=some (.int .i64 0)/\w'.cell? ⟨W1.heap.size,3,none⟩=some (.int .i64 (y:Int))) (fun _=>true) (by kernel_rfl) hS (fun hHeld => ?_);refine tq 0 (h:=tq 1 (h:=tq 2 (h:=tq 3 (h:=tq 4 (h:=tq 5 (h:=tq 6 (h:=tv 7 (.bool (GN.cutAt g.cut x y)) (hy:=fun w hSw=>by (try dsimp only at hSw);go_simp;rw [show (Value.agg #[.int .i64 0, .int .i64 (x:Int), .int .i64 0, .int .i64 (y:Int)])=AaQ x y from rfl,AjS hSw.1];rfl) (h:=tq 8 (h:=tq 9 (h:=tD (h:=?_)))))))))))
 go_wp2
 go_ret;exact ⟨_,_,rfl,hF.out.drew,by rw [WV.out];rfl⟩
theorem KL.put (h:KL w o N p g) (hN:N ≠ 0) (a b:Nat) (v:Bool):∃ mb V,w.cell? ⟨p,2,none⟩=some (.map (some mb))/\w.heap[mb]?=some (.map (Aas 0 g.cut).toArray g.cut.length) /\
  (Instr.mapUpdate 124 (.map (some mb)) (AaQ a b) (.bool v)).run prog w = .ok () V/\aj (ak N) w o V o/\KL V o N p { g with cut:=GN.Awx g.cut a b v }:=by
 obtain ⟨sv,lv,mb,cs,h1,h2,h3,h4,h6,h7,h8⟩:=h;have hs:=(aj.refl (ak N) w o).DR mb (.map (Aas 0 (GN.Awx g.cut a b v)).toArray (GN.Awx g.cut a b v).length) (.inl (by rw [h8];rfl));have h0:¬ ak N 0:=fun e=>hN e.symm;have hmp:mb ≠ p:=by rintro rfl;rw [h8] at h2;cases h2
 refine ⟨mb,_,ag h1 2,h7,AeC h7 a b v,hs,sv,lv,mb,cs,(JS hmp).trans h1,h2,h3.step hs h0,h4.keep (fun k _ hk=>⟨JS (by rintro rfl;rw [h8] at hk;cases hk),rfl⟩),h6.step hs h0,Ot (au h7),h8⟩
theorem AjI (h:KL w o N p g) (hN:N ≠ 0) (a b:Int) (v:Bool):Calls prog 108 #[.pointer (some ⟨p,0,none⟩), .agg #[.int .i64 0, .int .i64 a], .agg #[.int .i64 0, .int .i64 b], .bool v] w (XL (ak N) w o fun r w' o'=>r = .int .i64 (g.turn a b v).2/\KL w' o' N p (g.turn a b v).1):=by
 obtain ⟨W,oW,hW,⟨hst,hsz⟩, -⟩:=Ajq w o (.cells #[.int .i64 0, .int .i64 a] 102) (.cells #[.int .i64 0, .int .i64 b] 102);have hl:=ae (AfA (h.step hst id id) a b);have hH:=ae (h.step hst id id);have Abe:=ae (hst.mono (T':=ak N) fun _ h=>h.elim);have XX:=ae hW;clear hst hsz hW h;unfold GN.turn
 cases hlk:g.linked a b with
 | false =>
  rw [hlk] at hl;go_enter func108,ntmps108;go_wp2_with fail;rw [XX.out];refine hl.out.mono ?_;rintro e W1 ⟨v1,o1,rfl,hs1,rfl⟩;unfold AeS;obtain ⟨W2,o2,hW2,⟨hs2, -⟩, -⟩:=AaC W1 o1 (.cells #[.int .i64 0, .int .i64 (min a b), .int .i64 0, .int .i64 (max a b)] 195);have hF:=ae (aI (Abe.out.trans ((hs1.trans hs2).mono fun _ h=>h.elim)) ((hH.out.step hs1 id id).step hs2 id id));have xO:=ae hW2;clear hs1 hs2 hW2
  go_wp2
  go_ret;rw [xO.out];exact ⟨_,_,rfl,hF.out.1,rfl,hF.out.2⟩
 | true =>
  obtain ⟨a,rfl⟩:∃ n:Nat,a=n:=⟨a.toNat,by unfold GN.linked at hlk;simp at hlk;omega⟩;obtain ⟨b,rfl⟩:∃ n:Nat,b=n:=⟨b.toNat,by unfold GN.linked at hlk;simp at hlk;omega⟩;rw [hlk,Ais] at hl;simp only [if_true,Int.toNat_natCast];obtain ⟨x,hx⟩:∃ x,min a b=x:=⟨_,rfl⟩;obtain ⟨y,hy⟩:∃ y,max a b=y:=⟨_,rfl⟩;rw [hx,hy] at hl ⊢;unfold AaQ at hl;clear hlk hx hy;go_enter func108,ntmps108;go_wp2_with fail;rw [XX.out];refine hl.out.mono ?_;rintro e W1 ⟨v1,o1,rfl,hs1,rfl⟩;obtain ⟨W2,o2,hW2,⟨hs2, -⟩,hb2⟩:=AaC W1 o1 (.cells #[.int .i64 0, .int .i64 (x:Int), .int .i64 0, .int .i64 (y:Int)] 195);have dr:aj ai W2 o2 W2.drew o2:=(aj.refl ai W2 o2).drew;obtain ⟨mb,V,c2,h7,hrun,hsV,hnV⟩:=(((hH.out.step hs1 id id).step hs2 id id).step dr id id).put hN x y v;have c3:=hb2.cell 0;have c4:=hb2.cell 1;have c5:=hb2.cell 2;have c6:=hb2.cell 3;simp only [ay,ax] at c3 c4 c5 c6;have hS:=aI c2 (aI (show W2.drew.cell? _=_ from c3) (aI c4 (aI c5 c6)));have hF:=ae (aI ((Abe.out.trans (((hs1.trans hs2).trans dr).mono fun _ h=>h.elim)).trans hsV) hnV);have tN:=ae hrun;have xO:=ae hW2;clear hs1 hs2 hb2 h7 c2 c3 c4 c5 c6 hW2 hrun hsV hnV dr;go_wp2_with fail;rw [xO.out];refine Aa (fun w'=>w'.cell? ⟨p,2,none⟩=some (.map (some mb))/\w'.cell? ⟨W1.heap.size,0,none⟩=some (.int .i64 0)/\w'.cell? ⟨W1.heap.size,1,none⟩=some (.int .i64 (x:Int))/\w'.cell? ⟨W1.heap.size,2,none⟩=some (.int .i64 0)/\w'.cell? ⟨W1.heap.size,3,none⟩=some (.int .i64 (y:Int))) (fun i=>decide (i<6)) (by kernel_rfl) hS (fun hHeld => ?_);refine tq 0 (h:=tq 1 (h:=tq 2 (h:=tq 3 (h:=tq 4 (h:=tq 5 (h:=tO 6 (h:=?_)))))));refine QO tN.out ?_;go_wp2_with fail;refine ⟨fun h=>by simp at h, ?_⟩;refine tD (h:=?_)
  go_wp2
  go_ret;exact ⟨_,_,rfl,hF.out.1,rfl,hF.out.2⟩
theorem AkG (h:KL w o N p g) (hN:N ≠ 0) (a b:Int):Calls prog 66 #[.pointer (some ⟨p,0,none⟩), .agg #[.int .i64 0, .int .i64 a], .agg #[.int .i64 0, .int .i64 b]] w (XL (ak N) w o fun r w' o'=>r = .int .i64 (g.turn a b true).2/\KL w' o' N p (g.turn a b true).1):=by
 obtain ⟨W,oW,hW,⟨hst, -⟩, -⟩:=Ajq w o (.cells #[.int .i64 0, .int .i64 a] 102) (.cells #[.int .i64 0, .int .i64 b] 102);have XX:=ae hW;clear hW;have h:=ae (AjI (h.step hst id id) hN a b true);have Abe:=ae (hst.mono (T':=ak N) fun _ h=>h.elim);clear hst;go_enter func66,ntmps66;go_wp2_with fail;rw [XX.out];refine h.out.mono ?_;rintro e W1 ⟨v1,o1,rfl,hs1,rfl,hn1⟩;have hn:=ae (aI (Abe.out.trans hs1) hn1);clear hs1 hn1;go_wp2_with fail;go_ret;exact ⟨_,o1,rfl,hn.out.1,rfl,hn.out.2⟩
end
theorem vI:(prog.info? 104).map (·.size)=some 5:=by kernel_rfl
theorem Akv:(prog.info? 104).map (fun i=>(i.zero.map (fun z=>z.cells.toList),i.size,i.bytes))=some (some [.int .i64 0, .int .i64 0, .int .i64 0, .int .i64 0, .slice none 0 0],5,56):=by kernel_rfl
theorem AbQ {P:Program} {fn:Func} {p:Tmp} {ty:TypeId} (h:fn.results = #[.cell p ty]) (tmps:Array Value) (w:World) (g:Nat) (t:TypeId) (cs:Array Value) (fr:Nat × Nat) (d:TypeDesc)
  (hp:tmps.getD p undef = .pointer (some ⟨g,0,none⟩)) (hg:w.heap[g]?=some (.cells cs t fr))
  (hu:P.underlying ty=some d) (hd:(match d with | .struct _ | .array _ _=>true | _=>false)=true) (hi:(P.info? ty).map (·.size)=some cs.size) :
  (results fn tmps).run P w = .ok (.agg cs) w:=by
 rw [Array.getD_eq_getD_getElem?] at hp;simp [results,h,hp,asAddr,run_loadVar_row w g t ty cs fr d hg hu hd hi]
section
variable {w:World} {o:Own} {N p:Nat} {g:GN}
theorem AaF.app {lv:Value} {n:Nat} {xs:List Value} (h:AaF w o (N,1) lv n xs) (a:Addr) (m c:Nat) (news:List Value) (hl:news.length=5*m) (hn:∀ j v,news[j]?=some v->w.cell? (a.add j)=some v) (h1:∀ u ∈ news,u.oneCell'=true) (hm:0<m) (hb:n+m<=100000) :
  ∃ gr cap V oV,(Builtin.append_ #[31,31] 31 #[lv, .slice (some a) m c]).run prog w = .ok (.slice (some ⟨gr,0,none⟩) (n+m) cap) V/\aj (ak N) w o V oV/\AaF V oV (N,1) (.slice (some ⟨gr,0,none⟩) (n+m) cap) (n+m) (xs++news) /\
   (∀ k,k<w.heap.size->o k ≠ (N,1)->V.heap[k]?=w.heap[k]?/\oV k=o k)/\(∀ g' c j,lv = .slice (some ⟨g',0,none⟩) n c->j<5*n->V.cell? ⟨g',j,none⟩=w.cell? ⟨g',j,none⟩):=by
 obtain ⟨i,z,hq,hz,e2,e3,e4⟩:=TQ Akv;have new:∀ cap,n+m<=cap->cap<=maxLen->∀ V:World,V=w.drew.alloc (.cells ((xs.toArray++news.toArray)++Builtin.zeroCells z.cells (cap - (n+m))) 104) ->
   aj (ak N) w o V (Ak o w.heap.size (N,1))/\AaF V (Ak o w.heap.size (N,1)) (N,1) (.slice (some ⟨w.heap.size,0,none⟩) (n+m) cap) (n+m) (xs++news)/\(∀ k,k<w.heap.size->o k ≠ (N,1)->V.heap[k]?=w.heap[k]?/\Ak o w.heap.size (N,1) k=o k):=by
  intro cap h2 h3 V hV;subst hV;have s:=((aj.refl (ak N) w o).drew).alloc (.cells ((xs.toArray++news.toArray)++Builtin.zeroCells z.cells (cap - (n+m))) 104) (N,1);have hx:=h.1;have hz5:z.cells.size=5:=by rw [e4] at *;rfl
  refine ⟨s,⟨by rw [List.length_append,hx,hl];omega, .inr ⟨w.heap.size,cap,xs++news++(Builtin.zeroCells z.cells (cap - (n+m))).toList,rfl, ?_,h2,h3, ?_, ?_,Au _ _ _⟩⟩,fun k hk _=>⟨Below.heap_alloc w.drew _ k hk,BI _ _ (by omega)⟩⟩
  ·refine (heap_alloc_new w.drew _).trans ?_;simp
  ·simp only [List.length_append,Array.length_toList,size_zeroCells,hx,hl,hz5];omega
  ·rw [List.take_append_of_le_length (by rw [List.length_append,hx,hl];omega),List.take_of_length_le (by rw [List.length_append,hx,hl];omega)]
 have hnl:news.length=m*i.size:=by rw [hl,e2,Nat.mul_comm]
 have hby:∀ k,k<=100000->k*i.bytes<=140737488355328:=fun k hk=>by rw [e3];omega
 have gc:=grownCap_ge w (n+m)
 rcases h.2 with ⟨rfl,rfl⟩ | ⟨g',cap,cur,rfl,h2,h3,h4,h5,h6,h7⟩
 ·have hx:xs=[]:=List.eq_nil_of_length_eq_zero h.1;have hrun:=run_append_nil (P:=prog) (w:=w) 31 31 104 i z underlying31 hq hz a m c news hnl hn hm (by omega) (by have:=hby m (by omega);omega);obtain ⟨p1,p2,p3⟩:=new (grownCap w m 0 104) (by have:=grownCap_ge w m 0 104;omega) (grownCap_le_maxLen w m 0 104 (by unfold maxLen;omega)) _ rfl;rw [hx] at p1 p2 p3 ⊢;have e0:(([]:List Value).toArray++news.toArray)=news.toArray:=by simp
  rw [e0] at p1 p2 p3;simp only [Nat.zero_add] at p1 p2 p3 hrun ⊢;exact ⟨_,_,_,_,hrun,p1,p2,p3,fun g' c j e=>by cases e⟩
 ·have hx:=h.1
  by_cases hr:n+m<=cap
  ·have hg:=au h2;have hrun:=run_append_room_cells (P:=prog) w 31 31 104 i underlying31 hq g' 0 n cap a m c news hnl hn h1 hr
    (fun j hj=>(Dh h2 (0+n*i.size) news.length (by rw [e2,hl];omega) j hj).1) (fun j hj=>Ap h2 _)
   have hb2:=BP g' 104 news (0+n*i.size) w cur h2 (by rw [e2,hl];omega);refine ⟨_,_,_,o,hrun,(aj.refl (ak N) w o).setCells _ _ _ (.inl (by rw [h7];rfl)),⟨by rw [List.length_append,hx,hl];omega, .inr ⟨g',cap,_,rfl,hb2,hr,h4, ?_, ?_,h7⟩⟩,fun k _ hk=>⟨ah _ _ _ _ _ (by rintro rfl;exact hk h7),rfl⟩,fun g2 c j e hj => ?_⟩
   ·simp only [List.length_append,List.length_take,List.length_drop,e2,hl];omega
   ·rw [e2,Nat.zero_add,show n*5=5*n by omega,h6,List.take_append_of_le_length (by rw [List.length_append,hx,hl];omega),List.take_of_length_le (by rw [List.length_append,hx,hl];omega)]
   ·simp only [Value.slice.injEq,Option.some.injEq,Addr.mk.injEq] at e;obtain ⟨⟨rfl, -⟩, -⟩:=e;exact World.cell?_setCells_out g' _ _ _ _ (fun _ _ => .inl (by show j<0+n*i.size;rw [e2];omega))
  ·have hold:∀ j v,xs[j]?=some v->w.cell? ((⟨g',0,none⟩:Addr).add j)=some v:=by
    intro j v hj;rw [Addr.add_lit,ag h2];rw [<-h6,List.getElem?_take] at hj;split at hj
    ·simpa using hj
    ·cases hj
   have hrun:=run_append_grow (P:=prog) (w:=w) 31 31 104 i z underlying31 hq hz ⟨g',0,none⟩ n cap xs (by rw [hx,e2,Nat.mul_comm]) hold a m c news hnl hn (by omega) (by omega) (growslice_fits (by omega) (hby _ (by omega)));obtain ⟨p1,p2,p3⟩:=new (grownCap w (n+m) cap 104) (grownCap_ge w (n+m) cap 104) (grownCap_le_maxLen w (n+m) cap 104 (by unfold maxLen;omega)) _ rfl;exact ⟨_,_,_,_,hrun,p1,p2,p3,fun g2 c j e _=>by
    simp only [Value.slice.injEq,Option.some.injEq,Addr.mk.injEq] at e;obtain ⟨⟨rfl, -⟩, -⟩:=e;exact World.cell?_of_block (a:=⟨g',j,none⟩) (Below.heap_alloc w.drew _ g' (au h2))⟩
theorem KL.AkY {sv lv:Value} {mb cap m:Nat} {cs:List Value} {V:World} {oV:Own} {l':List Aci} (hN:N ≠ 0) (e1:w.heap[p]?=some (.cells [sv,lv, .map (some mb)].toArray 126 (0,0))) (e2:o p=(N,0)) (e3:sH w o sv 1 [.int .i64 (g.n:Int)])
  (e7:w.heap[mb]?=some (.map (Aas 0 g.cut).toArray g.cut.length)) (e8:o mb=(N,2)) (hs:aj (ak N) w o V oV) {la:Option Addr} (hrow:AaF V oV (N,1) (.slice la m cap) m cs)
  (hold:∀ k,k<w.heap.size->o k ≠ (N,1)->V.heap[k]?=w.heap[k]?/\oV k=o k) (hl:l'.length=m) (hc:AaG w o cs l') :
  V.cell? ⟨p,1,none⟩=some lv/\V.frozen? ⟨p,1,none⟩=false/\aj (ak N) w o V oV/\aj (ak N) w o (V.setCell ⟨p,1,none⟩ (.slice la m cap)) oV/\KL (V.setCell ⟨p,1,none⟩ (.slice la m cap)) oV N p { g with l:=l' }:=by
 have q1:=hold p (au e1) (by rw [e2];simp);have q7:=hold mb (au e7) (by rw [e8];simp);have b1:=q1.1.trans e1;have hpm:p ≠ mb:=by rintro rfl;rw [e8] at e2;simp at e2
 have h0:¬ ak N 0:=fun e=>hN e.symm;have hs2:aj (ak N) w o (V.setCell ⟨p,1,none⟩ (.slice la m cap)) oV:=hs.setCell _ (.inl (by show ak N (oV p).1;rw [q1.2,e2];rfl));refine ⟨ag b1 1,Ap b1 1,hs,hs2,sv, .slice la m cap,mb,cs,Ai (i:=1) _ b1,q1.2.trans e2,e3.step hs2 h0, ?_,hc.step hs2 h0, ?_,q7.2.trans e8⟩
 ·show AaF _ _ _ _ l'.length _;rw [hl];exact hrow.keep fun k _ hk=>⟨Below.heap_setCell _ _ _ _ (by rintro rfl;rw [q1.2,e2] at hk;simp at hk),rfl⟩
 ·rw [Below.heap_setCell _ _ _ _ (Ne.symm hpm)];exact q7.1.trans e7
theorem KL.push' (h:KL w o N p g) (hN:N ≠ 0) (hl:g.l.length<=99000) {x:Aci} {bv:Value} (hb:Bytes w o bv x.b) (h1:bv.oneCell'=true) {nb:Nat} (hnb:At0 w o nb (.cells (Aaa x bv).toArray 104 (0,0))) :
  ∃ la lc gr cap V oV,w.cell? ⟨p,1,none⟩=some (.slice la g.l.length lc)/\(Builtin.append_ #[31,31] 31 #[.slice la g.l.length lc, .slice (some ⟨nb,0,none⟩) 1 1]).run prog w = .ok (.slice (some ⟨gr,0,none⟩) (g.l.length+1) cap) V /\
   V.cell? ⟨p,1,none⟩=some (.slice la g.l.length lc)/\V.frozen? ⟨p,1,none⟩=false/\aj (ak N) w o V oV/\aj (ak N) w o (V.setCell ⟨p,1,none⟩ (.slice (some ⟨gr,0,none⟩) (g.l.length+1) cap)) oV /\
   KL (V.setCell ⟨p,1,none⟩ (.slice (some ⟨gr,0,none⟩) (g.l.length+1) cap)) oV N p { g with l:=g.l++[x] }/\(∀ gb j,la=some ⟨gb,0,none⟩->j<5*g.l.length->V.cell? ⟨gb,j,none⟩=w.cell? ⟨gb,j,none⟩):=by
 obtain ⟨sv,lv,mb,cs,e1,e2,e3,e4,e6,e7,e8⟩:=h;obtain ⟨la,lc,rfl⟩:=e4.form;obtain ⟨gr,cap,V,oV,hrun,hs,hrow,hold,hcl⟩:=e4.app ⟨nb,0,none⟩ 1 1 (Aaa x bv) rfl (fun j v hj=>by rw [Addr.add_lit];exact AV hnb.1 j v hj) (by intro u hu;simp only [Aaa,List.mem_cons,List.not_mem_nil,or_false] at hu;rcases hu with rfl | rfl | rfl | rfl | rfl;all_goals first | rfl | exact h1) (by omega) (by omega)
 have hrp:=e6.snoc hb;obtain ⟨a1,a2,a3,a4,a5⟩:=KL.AkY hN e1 e2 e3 e7 e8 hs hrow hold (show (g.l++[x]).length=g.l.length+1 by simp) hrp;exact ⟨la,lc,gr,cap,V,oV,ag e1 1,hrun,a1,a2,a3,a4,a5,fun gb j e hj=>hcl gb lc j (by rw [e]) hj⟩
theorem KL.push (h:KL w o N p g) (hN:N ≠ 0) (hl:g.l.length<=99000) {x:Aci} {bv:Value} (hb:Bytes w o bv x.b) (h1:bv.oneCell'=true) {nb:Nat} (hnb:At0 w o nb (.cells (Aaa x bv).toArray 104 (0,0))) :
  ∃ la lc gr cap V oV,w.cell? ⟨p,1,none⟩=some (.slice la g.l.length lc)/\(Builtin.append_ #[31,31] 31 #[.slice la g.l.length lc, .slice (some ⟨nb,0,none⟩) 1 1]).run prog w = .ok (.slice (some ⟨gr,0,none⟩) (g.l.length+1) cap) V /\
   V.cell? ⟨p,1,none⟩=some (.slice la g.l.length lc)/\V.frozen? ⟨p,1,none⟩=false/\aj (ak N) w o V oV/\aj (ak N) w o (V.setCell ⟨p,1,none⟩ (.slice (some ⟨gr,0,none⟩) (g.l.length+1) cap)) oV /\
   KL (V.setCell ⟨p,1,none⟩ (.slice (some ⟨gr,0,none⟩) (g.l.length+1) cap)) oV N p { g with l:=g.l++[x] }:=by
 obtain ⟨la,lc,gr,cap,V,oV,a0,a1,a2,a3,a4,a5,a6, -⟩:=h.push' hN hl hb h1 hnb;exact ⟨la,lc,gr,cap,V,oV,a0,a1,a2,a3,a4,a5,a6⟩
theorem Aqc (x:Aci) {bv:Value} (hb:Bytes w o bv x.b) (hl:x.b.length<=4000000):Calls prog 99 #[.agg (Aaa x bv).toArray] w (XL ai w o fun v w' o'=>∃ bv',v = .agg (Aaa x bv').toArray/\Bytes w' o' bv' x.b/\bv'.oneCell'=true):=by
 obtain ⟨s,d,b⟩:=x;obtain ⟨ba,bc,rfl⟩:=Aq hb;unfold Aaa;obtain ⟨W,oW,hW,⟨hst,hsz⟩,hb1,hb2⟩:=Ajq w o (.cells #[.int .i64 0, .int .i64 (s:Int), .int .i64 0, .int .i64 (d:Int), .slice ba b.length bc] 104) (.cells #[.int .i64 0, .int .i64 0, .int .i64 0, .int .i64 0, .slice none 0 0] 104);have hc:=ae (clone_any (hb.step hst id) hl);have XX:=ae hW;have c4:=hb1.cell 4;simp only [ay,ax] at c4;rw [<-hW] at c4;have hG:=ae (aI hst (aI hb1 hb2));clear hst hb1 hb2 hW hb hl;go_enter func99,ntmps99;go_wp2_with fail;rw [XX.out];refine hc.out.mono ?_;rintro e W1 ⟨v1,o1,rfl,hs1,hn1⟩;obtain ⟨va,vc,rfl⟩:=Aq hn1.bytes;obtain ⟨hg1,hg2,hg3⟩:=hG.out;have hb1:=hg2.step hs1 id;have hb2:=hg3.step hs1 id;have f4:=Ap hb1.1 4;have c4':=hb1.cell 4;simp only [ay,ax] at c4';have s0:=hg1.trans hs1;have s1:=s0.setCell (a:=⟨w.heap.size,4,none⟩) (.slice va b.length vc) (.inr (Nat.le_refl _));have hb1':At0 (W1.setCell ⟨w.heap.size,4,none⟩ (.slice va b.length vc)) o1 w.heap.size (.cells [.int .i64 0, .int .i64 (s:Int), .int .i64 0, .int .i64 (d:Int), .slice va b.length vc].toArray 104 (0,0)):=⟨Ai (i:=4) _ hb1.1,hb1.2⟩;have hb2':At0 (W1.setCell ⟨w.heap.size,4,none⟩ (.slice va b.length vc)) o1 (w.heap.size+1) (.cells [.int .i64 0, .int .i64 0, .int .i64 0, .int .i64 0, .slice none 0 0].toArray 104 (0,0)):=
  ⟨(Below.heap_setCell _ _ _ _ (by simp)).trans hb2.1,hb2.2⟩
 obtain ⟨V0,hV0⟩:∃ V,W1.setCell ⟨w.heap.size,4,none⟩ (.slice va b.length vc)=V:=⟨_,rfl⟩;rw [hV0] at hb1' hb2' s1;obtain ⟨V,hV,hsV,hbV,hoV, -⟩:=hb2'.store (P:=prog) (ty:=104) (vs:=[.int .i64 0, .int .i64 (s:Int), .int .i64 0, .int .i64 (d:Int), .slice va b.length vc]) s1 (by omega) rfl vI rfl;have hnV:Ew W V o1 (.slice va b.length vc) b:=⟨Ci hn1.1 fun k hk=>by
  have:=(hn1.1.lt k hk).1;rw [hoV k (by omega), <-hV0];exact Below.heap_setCell _ _ _ _ (by simp;omega),hn1.2⟩
 have d0:=hb1'.cell 0;have d1:=hb1'.cell 1;have d2:=hb1'.cell 2;have d3:=hb1'.cell 3;have d4:=hb1'.cell 4;simp only [ay,ax] at d0 d1 d2 d3 d4;have hF:=ae (aI hsV (aI hbV hnV.bytes));have hVH:=ae hV;clear hg1 hg2 hg3 hb1 hb2 s0 s1 hb1' hb2' hV hsV hbV hoV hnV hs1 hn1
 go_wp2_with ((with_reducible apply AC);exact hVH.out;simp only [Act.put])
 refine bodyPost_ret (AbQ rfl _ _ (w.heap.size+1) 104 _ (0,0) _ rfl hF.out.2.1.1 underlying104 rfl vI) rfl ?_;exact ⟨_,o1,rfl,hF.out.1, .slice va b.length vc,rfl,hF.out.2.2,rfl⟩
end
theorem Api (w:World) (a b c d:Value) (la:Option Addr) (ln lc:Nat):(Instr.buildSlice 31 1 #[(0, .agg #[a,b,c,d, .slice la ln lc])]).run prog w = .ok (.slice (some ⟨w.heap.size,0,none⟩) 1 1) (w.alloc (.cells #[a,b,c,d, .slice la ln lc] 104)):=by kernel_rfl
section
variable {w:World} {o:Own} {N p:Nat} {g:GN}
theorem Aok (h:KL w o N p g) (hN:N ≠ 0) (hlen:g.l.length<=4096) (x:Aci) (hs:x.src<g.n) (hd:x.dst<g.n) (hsd:x.src ≠ x.dst) {bv:Value} (hb:Bytes w o bv x.b) (hbl:x.b.length<=2097152) :
  Calls prog 95 #[.pointer (some ⟨p,0,none⟩), .agg (Aaa x bv).toArray] w (XL (ak N) w o fun r w' o'=>r = .int .i64 (g.send x).2/\KL w' o' N p (g.send x).1):=by
 have hE:g.send x=if 4096<=g.l.length then (g,4) else ({ g with l:=g.l++[x] },0):=by
  unfold GN.send;rw [AcP g hs hd hsd,show decide (2097152<x.b.length)=false by simpa using hbl];rfl
 obtain ⟨R,hR⟩:∃ R,g.send x=R:=⟨_,rfl⟩;rw [hR];rw [hE] at hR;have KI:=ae hR;clear hR hE;obtain ⟨s,d,b⟩:=x;obtain ⟨ba,bc,rfl⟩:=Aq hb;have hlk:=AcP g hs hd hsd;simp only at hs hd hsd hbl hlk;unfold Aaa;obtain ⟨W,oW,hW,⟨hst,hsz⟩,hb1⟩:=AaC w o (.cells #[.int .i64 0, .int .i64 (s:Int), .int .i64 0, .int .i64 (d:Int), .slice ba b.length bc] 104);have hl:=AfA (h.step hst id id) s d;rw [hlk,Ais] at hl;unfold AaQ at hl;obtain ⟨y,hy⟩:∃ y,min s d=y:=⟨_,rfl⟩;obtain ⟨z,hz⟩:∃ z,max s d=z:=⟨_,rfl⟩;rw [hy,hz] at hl;have hlH:=ae hl;have XX:=ae hW;have hG:=ae (aI (h.step hst id id) (aI (hst.mono (T':=ak N) fun _ h=>h.elim) (aI hb1 (hb.step hst id))));clear hst hW hb hl h hlk hy hz hs hd hsd hb1;go_enter func95,ntmps95;go_wp2_with fail;rw [XX.out];refine hlH.out.mono ?_;rintro e W1 ⟨v1,o1,rfl,hs1,rfl⟩;obtain ⟨W2,o2,hW2,⟨hs2, -⟩, -⟩:=AaC W1 o1 (.cells #[.int .i64 0, .int .i64 (y:Int), .int .i64 0, .int .i64 (z:Int)] 195);have hK:=ae (aI ((hG.out.1.step hs1 id id).step hs2 id id) (aI (hG.out.2.1.trans ((hs1.trans hs2).mono fun _ h=>h.elim)) (aI ((hG.out.2.2.1.step hs1 id).step hs2 id) ((hG.out.2.2.2.step hs1 id).step hs2 id))));obtain ⟨sv,la,lc,mb,c0,c1,c2,hf,hpl⟩:=hK.out.1.cells;have d4:=hK.out.2.2.1.cell 4;simp only [ay,ax] at d4;have xO:=ae hW2;rw [<-hW2] at c1 d4;clear hs1 hs2 hW2 c0 c2 hf hpl
 by_cases hfull:4096<=g.l.length
 ·go_wp2
  go_ret;have hR:=KI.out;rw [if_pos hfull] at hR;subst hR;rw [xO.out];exact ⟨_,o2,rfl,hK.out.2.1,rfl,hK.out.1⟩
 ·go_wp2_with fail;rw [xO.out];have dr:aj ai W2 o2 W2.drew o2:=(aj.refl ai W2 o2).drew;obtain ⟨sv,lv,mb,cs,e1,e2,e3,e4, -⟩:=hK.out.1;obtain ⟨la,lc,rfl⟩:=e4.form;have hSf:=ae (fun (U:World) (q:Own) (s':aj ai W2 o2 U q)=>(show U.cell? ⟨p,1,none⟩=some (.slice la g.l.length lc)/\U.cell? ⟨w.heap.size,0,none⟩=some (.int .i64 0)/\U.cell? ⟨w.heap.size,1,none⟩=some (.int .i64 (s:Int))/\U.cell? ⟨w.heap.size,2,none⟩=some (.int .i64 0)/\U.cell? ⟨w.heap.size,3,none⟩=some (.int .i64 (d:Int))/\U.cell? ⟨w.heap.size,4,none⟩=some (.slice ba b.length bc) from
   ⟨ag ((s'.block p (au e1) id).trans e1) 1,(hK.out.2.2.1.step s' id).cell 0,(hK.out.2.2.1.step s' id).cell 1,(hK.out.2.2.1.step s' id).cell 2,(hK.out.2.2.1.step s' id).cell 3,(hK.out.2.2.1.step s' id).cell 4⟩))
  have hS:=hSf.out W2.drew o2 dr;have how:=ae (Aqc ⟨s,d,b⟩ (hK.out.2.2.2.step dr id) (by show b.length<=_;omega));have drH:=ae dr;clear e1 e2 e3 e4 dr c1 d4;refine Aa (fun w'=>w'.cell? ⟨p,1,none⟩=some (.slice la g.l.length lc)/\w'.cell? ⟨w.heap.size,0,none⟩=some (.int .i64 0)/\w'.cell? ⟨w.heap.size,1,none⟩=some (.int .i64 (s:Int))/\w'.cell? ⟨w.heap.size,2,none⟩=some (.int .i64 0)/\w'.cell? ⟨w.heap.size,3,none⟩=some (.int .i64 (d:Int))/\w'.cell? ⟨w.heap.size,4,none⟩=some (.slice ba b.length bc)) (fun i=>decide (i<9)) (by kernel_rfl) hS (fun hHeld => ?_);refine tq 0 (h:=tq 1 (h:=tq 2 (h:=tq 3 (h:=tq 4 (h:=tq 5 (h:=tO 6 (h:=?_)))))));go_wp2_with fail;refine how.out.mono ?_;rintro e W3 ⟨v3,o3,rfl,hs3,bv',rfl,hb3,h13⟩;obtain ⟨va,vc,rfl⟩:=Aq hb3;have hS3:=hSf.out W3 o3 (drH.out.trans hs3);have hD:=ae (aI (drH.out.trans hs3) (aI hb3 h13));unfold Aaa;clear hs3 hb3 h13;go_wp2_with fail;refine ⟨fun _=>hS3, ?_⟩;refine tO 7 (h:=?_);obtain ⟨W4,o4,hW4,⟨hs4, -⟩,hb4⟩:=AaC W3 o3 (.cells #[.int .i64 0, .int .i64 (s:Int), .int .i64 0, .int .i64 (d:Int), .slice va b.length vc] 104);have pX:=hD.out.1.trans hs4;have hS4:=hSf.out W4 o4 pX;obtain ⟨la',lc',gr,cap,V,oV,q1,hrun,q2,q3,hs0,hsV,hnV⟩:=(hK.out.1.step pX id id).push hN (by omega) (x:=⟨s,d,b⟩) (hD.out.2.1.step hs4 id) rfl hb4;have q4:=hS4.1.symm.trans q1;simp only [Option.some.injEq,Value.slice.injEq] at q4;obtain ⟨rfl, -,rfl⟩:=q4;have hNo:¬ ak N 0:=fun e=>hN e.symm;have hbV:=(hK.out.2.2.1.step pX id).step hs0 hNo;have hS8:=aI q2 (aI (hbV.cell 0) (aI (hbV.cell 1) (aI (hbV.cell 2) (aI (hbV.cell 3) (hbV.cell 4)))));simp only [ay,ax] at hS8;have hX:=ae (aI (hK.out.2.1.trans (pX.mono fun _ h=>h.elim)) (aI hsV hnV));have hbs:=Api W3 (.int .i64 0) (.int .i64 (s:Int)) (.int .i64 0) (.int .i64 (d:Int)) va b.length vc;rw [hW4] at hbs;have AaP:=ae hbs;have Aax:=ae hrun;clear hs4 hb4 pX q1 hs0 hNo hbV hsV hnV hbs hW4 hrun hHeld
  go_wp2_with ((with_reducible apply BO #[(0, .agg #[.int .i64 0, .int .i64 (s:Int), .int .i64 0, .int .i64 (d:Int), .slice va b.length vc])] rfl);exact AaP.out;simp only [Act.put,GL,DL,lss])
  refine ⟨fun _=>hS4, ?_⟩;refine tO 8 (h:=?_)
  go_wp2_with ((with_reducible apply Bl);exact Aax.out;simp only [Act.put,GL,DL,lss])
  refine ⟨fun _=>hS8, ?_⟩;refine tO 9 (h:=?_);go_wp2_with fail;refine ⟨fun h=>by simp at h, ?_⟩;refine tO 10 (h:=?_);go_wp2_with fail;refine ⟨fun h=>by simp at h, ?_⟩;refine tO 11 (h:=?_);go_wp2_with fail;refine ⟨fun h=>by simp at h, ?_⟩;refine tD (h:=?_)
  go_wp2
  go_ret;have hR:=KI.out;rw [if_neg hfull] at hR;subst hR;exact ⟨_,oV,rfl,hX.out.1.trans hX.out.2.1,rfl,hX.out.2.2⟩
end
section
variable {w:World} {o:Own} {N p:Nat} {g:GN}
theorem AaG.one {cs:List Value} {ls:List Aci} (h:AaG w o cs ls):∀ u ∈ cs,u.oneCell'=true:=by
 intro u hu;obtain ⟨j,hj,rfl⟩:=List.mem_iff_getElem.1 hu;have hi:j / 5<ls.length:=by have:=h.1;omega
 obtain ⟨bv,h3,h4⟩:=h.2 (j / 5) ls[j / 5] (List.getElem?_eq_getElem hi);obtain ⟨ba,bc,rfl⟩:=Aq h4;have hm:(Aaa ls[j / 5] (.slice ba ls[j / 5].b.length bc))[j % 5]?=some cs[j]:=by
  rw [<-h3,List.getElem?_take,if_pos (by omega),List.getElem?_drop,show 5*(j / 5)+j % 5=j by omega,List.getElem?_eq_getElem hj]
 have:=List.mem_of_getElem? hm;simp only [Aaa,List.mem_cons,List.not_mem_nil,or_false] at this
 rcases this with e | e | e | e | e <;> (rw [e];rfl)
theorem Anb (w:World):(sizeOf (prog.elem 31)).run prog w = .ok 5 w:=by kernel_rfl
theorem KL.Axg (h:KL w o N p g) (hN:N ≠ 0) (hl:g.l.length<=99000) (k:Nat) (hk:k<g.l.length) :
  ∃ la lc v1 v2 la' cap V oV,w.cell? ⟨p,1,none⟩=some (.slice la g.l.length lc)/\(∀ W,(Instr.sliceAt 31 (.slice la g.l.length lc) none (some (.int .i64 (k:Int))) (some (.int .i64 (k:Int)))).run prog W = .ok v1 W) /\
   (∀ W,(Instr.sliceAt 31 (.slice la g.l.length lc) (some (.int .i64 ((k:Int)+1))) none none).run prog W = .ok v2 W) /\
   (Builtin.append_ #[31,31] 31 #[v1,v2]).run prog w = .ok (.slice la' (g.l.length - 1) cap) V /\
   V.cell? ⟨p,1,none⟩=some (.slice la g.l.length lc)/\V.frozen? ⟨p,1,none⟩=false/\aj (ak N) w o V oV/\aj (ak N) w o (V.setCell ⟨p,1,none⟩ (.slice la' (g.l.length - 1) cap)) oV /\
   KL (V.setCell ⟨p,1,none⟩ (.slice la' (g.l.length - 1) cap)) oV N p (g.without k):=by
 obtain ⟨sv,lv,mb,cs,e1,e2,e3,e4,e6,e7,e8⟩:=h
 rcases e4.2 with ⟨-,h0⟩ | ⟨g',cap,cur,rfl,h2,h3,h4,h5,h6,h7⟩
 ·omega
 have hu:prog.underlying 31=some (.slice (prog.elem 31)):=by kernel_rfl
 have hcl:=e4.1;have r1:∀ W,(Instr.sliceAt 31 (.slice (some ⟨g',0,none⟩) g.l.length cap) none (some (.int .i64 (k:Int))) (some (.int .i64 (k:Int)))).run prog W = .ok (.slice (some ⟨g',0,none⟩) k k) W:=by
  intro W;rw [run_sliceAt_slice _ _ _ _ _ _ hu,run_slice_hm W 31 _ g.l.length cap hu .i64 .i64 k k (by omega) (by omega) (by omega),Anb];simp [sliced,Addr.add]
 have r2:∃ a2 c2,(∀ W,(Instr.sliceAt 31 (.slice (some ⟨g',0,none⟩) g.l.length cap) (some (.int .i64 ((k:Int)+1))) none none).run prog W = .ok (.slice a2 (g.l.length - (k+1)) c2) W)/\(k+1<g.l.length->a2=some ⟨g',5*(k+1),none⟩):=by
  refine ⟨if cap=k+1 then some ⟨g',0,none⟩ else (some ⟨g',0,none⟩:Option Addr).map (·.add ((k+1)*5)),cap - (k+1),fun W => ?_, ?_⟩
  ·rw [run_sliceAt_slice _ _ _ _ _ _ hu,run_slice_l W 31 _ g.l.length cap hu .i64 ((k:Int)+1) (by omega) (by omega),Anb];simp only [Result.andThen_ok,sliced,show ((k:Int)+1).toNat=k+1 by omega]
  ·intro hk2;rw [if_neg (by omega)];simp [Addr.add,Nat.mul_comm]
 obtain ⟨a2,c2,r2,r3⟩:=r2;have hpre:AaF w o (N,1) (.slice (some ⟨g',0,none⟩) k k) k (cs.take (5*k)):=
  ⟨by rw [List.length_take,hcl];omega, .inr ⟨g',k,cur,rfl,h2,Nat.le_refl _,by omega,by omega,by rw [<-h6,List.take_take,Nat.min_eq_left (by omega)],h7⟩⟩
 have hlc:AaG w o (cs.take (5*k)++cs.drop (5*(k+1))) (g.l.take k++g.l.drop (k+1)):=(e6.take k).append (e6.drop (k+1));have hll:(g.l.take k++g.l.drop (k+1)).length=g.l.length - 1:=by simp;omega
 by_cases hk2:k+1<g.l.length
 ·have ha2:=r3 hk2;subst ha2;obtain ⟨gr,cp,V,oV,hrun,hs,hrow,hold, -⟩:=hpre.app ⟨g',5*(k+1),none⟩ (g.l.length - (k+1)) c2 (cs.drop (5*(k+1))) (by rw [List.length_drop,hcl];omega)
   (fun j v hj=>by
    rw [Addr.add_mid,ag h2];rw [List.getElem?_drop, <-h6,List.getElem?_take] at hj;split at hj
    ·exact hj
    ·cases hj) (fun u hu=>e6.one u (List.mem_of_mem_drop hu)) (by omega) (by omega)
  rw [show k+(g.l.length - (k+1))=g.l.length - 1 by omega] at hrun hrow;exact ⟨_,_,_,_,_,_,V,oV,ag e1 1,r1,r2,hrun,KL.AkY hN e1 e2 e3 e7 e8 hs hrow hold hll hlc⟩
 ·have hm0:g.l.length - (k+1)=0:=by omega
  have hkl:g.l.length - 1=k:=by omega
  obtain ⟨i,z,hq,hz,i2,i3,i4⟩:=TQ Akv;have hsrc:Src prog i.size 31 (.slice a2 0 c2) 0 [] w:=by
   cases a2 with
   | none=>exact Src.ofNil w underlying31 c2
   | some a=>exact Src.ofSlice w underlying31 a 0 c2 [] (by simp) (by simp) (by simp)
  have hrun:=run_append_nothing (P:=prog) w 31 31 31 104 i underlying31 hq (some ⟨g',0,none⟩) k k (Nat.le_refl _) _ hsrc;rw [hm0] at r2;have hd:cs.drop (5*(k+1))=[]:=List.drop_of_length_le (by rw [hcl];omega);rw [hd,List.append_nil] at hlc;rw [hkl] at hll ⊢;exact ⟨_,_,_,_,_,_,w,o,ag e1 1,r1,r2,hrun,KL.AkY hN e1 e2 e3 e7 e8 (aj.refl _ _ _) hpre (fun _ _ _=>⟨rfl,rfl⟩) hll hlc⟩
theorem KL.letter (h:KL w o N p g) (k:Nat) (hk:k<g.l.length):∃ gb lc bv,w.cell? ⟨p,1,none⟩=some (.slice (some ⟨gb,0,none⟩) g.l.length lc)/\Bytes w o bv g.l[k].b/\w.rangeAt gb (k*5) (Aaa g.l[k] bv)/\(o gb).1=N/\gb<w.heap.size:=by
 obtain ⟨sv,lv,mb,cs,e1,e2,e3,e4,e6,e7,e8⟩:=h
 rcases e4.2 with ⟨-,h0⟩ | ⟨g',cap,cur,rfl,h2,h3,h4,h5,h6,h7⟩
 ·omega
 obtain ⟨bv,h8,h9⟩:=e6.2 k g.l[k] (List.getElem?_eq_getElem hk);refine ⟨g',cap,bv,ag e1 1,h9, ?_,by rw [h7],au h2⟩;have:=BU h2 (k*5) 5;rw [Nat.mul_comm k 5] at this ⊢;rw [<-h8, <-h6,List.drop_take,List.take_take,Nat.min_eq_left (by omega)];exact this
theorem Aqh (h:KL w o N p g) (hN:N ≠ 0) (hl:g.l.length<=99000) (k:Nat) (hk:k<g.l.length) :
  Calls prog 102 #[.pointer (some ⟨p,0,none⟩), .int .i64 (k:Int)] w (XL (ak N) w o fun r w' o'=>∃ bv,r = .agg (Aaa g.l[k] bv).toArray/\Bytes w' o' bv g.l[k].b/\KL w' o' N p (g.without k)):=by
 obtain ⟨W,oW,hW,⟨hst, -⟩,hb1⟩:=Akp w o (.cells #[.int .i64 0, .int .i64 0, .int .i64 0, .int .i64 0, .slice none 0 0] 104) (N+1,0);obtain ⟨gb,lc,bv,c1,hbv,hr,hgo,hgl⟩:=(h.step hst id id).letter k hk;obtain ⟨x,hx⟩:∃ x,g.l[k]=x:=⟨_,rfl⟩;rw [hx] at hbv hr ⊢;obtain ⟨s,d,b⟩:=x;obtain ⟨ba,bc,rfl⟩:=Aq hbv;have l0:=hr 0 _ rfl;have l1:=hr 1 _ rfl;have l2:=hr 2 _ rfl;have l3:=hr 3 _ rfl;have l4:=hr 4 _ rfl;have hkI:(k:Int)<(g.l.length:Int):=by omega
 rw [Nat.add_zero] at l0;unfold Aaa;obtain ⟨W2,o2,hW2,⟨hst2, -⟩,hb2⟩:=AaC W oW (.cells #[.int .i64 0, .int .i64 (s:Int), .int .i64 0, .int .i64 (d:Int), .slice ba b.length bc] 104);have dr:aj ai W2 o2 W2.drew o2:=(aj.refl ai W2 o2).drew;obtain ⟨la,lc',v1,v2,la',cap,V,oV,q1,r1,r2,hrun,q2,q3,hs0,hs1,hn1⟩:=(((h.step hst id id).step hst2 id id).step dr id id).Axg hN hl k hk;have hNo:¬ ak N 0:=fun e=>hN e.symm;have hE:=ae (aI ((hst.trans (hst2.trans dr)).mono (T':=ak N) fun _ h=>h.elim) (aI hs1 (aI hn1 (aI (((hb1.step hst2 id).step dr id).step hs1 (by show ¬ N+1=N;omega)) (aI (((hb2.step dr id)).step hs1 hNo) ((((hbv.step hst2 id)).step dr id).step hs1 hNo))))));have hsz:=hst.size;have AwR:W.heap.size=w.heap.size+1:=by rw [<-hW];simp
 have XX:=ae hW;have xO:=ae hW2;have r1H:=ae r1;have r2H:=ae r2;have tN:=ae hrun;rw [<-hW] at c1 l0 l1 l2 l3 l4;rw [AwR] at hE;clear hW hb1 hbv hr h hst hst2 hb2 dr hW2 r1 r2 hrun hs0 hs1 hn1 hNo hsz hx;go_enter func102,ntmps102;go_wp2_with fail;rw [XX.out,xO.out];refine Aa (fun w'=>w'.cell? ⟨p,1,none⟩=some (.slice la g.l.length lc')) (fun i=>decide (i<16)) (by kernel_rfl) q1 (fun hHeld => ?_);refine tq 0 (h:=tq 1 (h:=tq 2 (h:=tq 3 (h:=tq 4 (h:=tq 5 (h:=tq 6 (h:=?_)))))));refine Dt (i:=7) (v:=v1) rfl (by kernel_rfl) (fun _ _ _ h=>h) (Or.inl ⟨by rfl,fun w hSw => ?_⟩) (by assumption) ?_
 ·refine AdB _ _ _ _ _ rfl ?_;exact r1H.out w
 simp only [Act.put,GL,DL,lss];refine tq 8 (h:=tq 9 (h:=tq 10 (h:=tq 11 (h:=tq 12 (h:=tv 13 (.int .i64 ((k:Int)+1)) (hy:=fun w hSw=>by (try dsimp only at hSw);go_simp;first | done | exact wrap_i64 (by omega) (by omega)) (h:=?_))))))
 refine Dt (i:=14) (v:=v2) rfl (by kernel_rfl) (fun _ _ _ h=>h) (Or.inl ⟨by rfl,fun w hSw => ?_⟩) (by assumption) ?_
 ·refine AdB _ _ _ _ _ rfl ?_;exact r2H.out w
 simp only [Act.put,GL,DL,lss];refine tO 15 (h:=?_)
 go_wp2_with ((with_reducible apply Bl);exact tN.out;simp only [Act.put,GL,DL,lss])
 refine ⟨fun _=>q2, ?_⟩;refine tO 16 (h:=?_);go_wp2_with fail;refine ⟨fun h=>by simp at h, ?_⟩;refine tO 17 (h:=?_);go_wp2_with fail;refine ⟨fun h=>by simp at h, ?_⟩;refine tO 18 (h:=?_);go_wp2_with fail;refine ⟨fun h=>by simp at h, ?_⟩;refine tD (h:=?_);obtain ⟨z1,z2,z3,z4,z5,z6⟩:=hE.out;obtain ⟨VV,hVV⟩:∃ VV,V.setCell ⟨p,1,none⟩ (.slice la' (g.l.length - 1) cap)=VV:=⟨_,rfl⟩;rw [hVV] at z2 z3 z4 z5 z6;have m0:=z5.cell 0;have m1:=z5.cell 1;have m2:=z5.cell 2;have m3:=z5.cell 3;have m4:=z5.cell 4;simp only [ay,ax] at m0 m1 m2 m3 m4;obtain ⟨X,hX,hsX,hkX,hbX⟩:=z4.store (P:=prog) (ty:=104) (vs:=[.int .i64 0, .int .i64 (s:Int), .int .i64 0, .int .i64 (d:Int), .slice ba b.length bc]) rfl vI rfl;have hF:=ae (aI (hkX (z1.trans z2) (Nat.le_refl _)) (aI hbX (aI (z6.step hsX (by show ¬ 0=N+1;omega)) (z3.step hsX (by show ¬ N=N+1;omega) (by show ¬ 0=N+1;omega)))));have hXH:=ae hX;clear hX hsX hkX hbX z1 z2 z3 z4 z5 z6;rw [hVV]
 go_wp2_with ((with_reducible apply AC);exact hXH.out;simp only [Act.put])
 refine bodyPost_ret (AbQ rfl _ _ w.heap.size 104 _ (0,0) _ rfl hF.out.2.1.1 underlying104 rfl vI) rfl ?_;exact ⟨_,oV,rfl,hF.out.1, .slice ba b.length bc,rfl,hF.out.2.2.1,hF.out.2.2.2⟩
end

end Go.Proofs.YtffkdillijmamaaGreat
