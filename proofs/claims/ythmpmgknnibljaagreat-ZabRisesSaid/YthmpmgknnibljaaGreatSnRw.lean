/- The statement ZabRises: the walk. -/
import Derived.Deep.DeepCutAuto
import Derived.Carry
import Derived.Test.YthmpmgknnibljaaGreatSn8
import Derived.Test.YthmpmgknnibljaaGreatSn12
import Derived.Test.YthmpmgknnibljaaGreatSn13
import Derived.Test.YthmpmgknnibljaaGreatSnP
namespace Go.Proofs.YthmpmgknnibljaaGreat
set_option maxRecDepth 100000
set_option maxHeartbeats 12800000
open Go Go.RowKit
attribute [local go_sem ↓] Go.wp_at_zero Go.wp_at_succ
theorem jV {P:Program} {c:Code} {a:Act} {w:World} {Q:Exit→Act→World→Prop} (h:∀ K:Act→World→Prop,(∀ a w,Q .normal a w→K a w)→c.wp P (Exit.then K Q) a w):c.wp P Q a w:=
 Code.wp_mono (fun e a w he=>by cases e <;> exact he) (h (Q .normal) (fun _ _ h=>h))
def kC:List Value:=[.int .u8 0, .int .i64 0, .int .u8 0, .int .u64 0, .int .u64 0, .int .i64 0, .int .i64 0, .slice none 0 0, .slice none 0 0]
theorem jY {x:Eo} {lv bv:Value} (w:World) (o:Own) (h:∃ a n k,lv = .slice a n k) (g:∃ a n k,bv = .slice a n k) :
  ∃ b Wz W2 o2,(Instr.alloc 48 true (.tuple #[])).run Tryz.prog w = .ok (.pointer (some ⟨b,0,none⟩)) Wz∧(Instr.storeAt 48 (.pointer (some ⟨b,0,none⟩)) (.agg (FH x lv bv).toArray)).run Tryz.prog Wz = .ok () W2∧Step Nobody w o W2 o2∧Wp W2 o2 b 0 (FH x lv bv):=by
 obtain ⟨a,n,k,rfl⟩:=h
 obtain ⟨a',n',k',rfl⟩:=g
 exact RD (t:=48) (zs:=kC) (vs:=FH x (.slice a n k) (.slice a' n' k')) (by kernel_rfl) (by kernel_rfl) rfl rfl w o
theorem kE {w:World} {b off:Nat} {cs:List Value} (hr:w.rangeAt b off cs) (hl:cs.length = 9):(Instr.loadAt 48 (.pointer (some ⟨b,off,none⟩))).run Tryz.prog w = .ok (.agg cs.toArray) w:=by
 simp only [Instr.loadAt,Instr.sureAddr,Sem.run_bind,Sem.run_pure,Result.andThen_ok]
 exact run_loadVar_mid w b off 48 cs _ hr Tryz.underlying48 rfl (by rw [hl];kernel_rfl)
theorem kG {M D Mx:Nat} (h:M < D) (hx:D ≤ Mx):∀ k,InN D Mx k→EN M k:=fun k hk=>by unfold InN at hk;show M < k;omega
theorem jG {M D Mx:Nat} {w w1 w2:World} {o o1 o2:Own} (h:M < D) (hx:D ≤ Mx) (s:Step (EN M) w o w1 o1) (s2:Step (InN D Mx) w1 o1 w2 o2):Step (EN M) w o w2 o2:=s.trans (s2.mono (kG h hx))
theorem Aj.jJ {B:Nat} {z:Aj} (h:NOk B z) (f:Int) (l:List UInt8):EY z.k (z.Gj f l).1.k:=by
 unfold Gj
 split
 ·exact EY.refl _
 ·split
  ·exact EY.refl _
  ·rename_i m hg
   exact (dX h (VH hg) _ (Nat.le_refl _)).2.2
theorem jK {w:World} {o:Own} (id n:Nat) (hid:id < 256) (hn:n < 256) {v:Value} {l:List Eo} (h:Ii w o v l) :
  Calls Tryz.prog 9 #[.int .u8 (id:Int), .int .u8 (n:Int),v] w (Ret Nobody w o fun v _ _=>v = .bool true):=by
 obtain ⟨M, -,hM⟩:=EZ o 0 w.heap.size
 obtain ⟨D,hD⟩:∃ D,D = M + 1:=⟨_,rfl⟩
 have hMD:M < D:=by omega
 have hD0:D ≠ 0:=by omega
 obtain ⟨aa,ac,rfl⟩:=h.form
 obtain ⟨N,hN⟩:∃ N,l.length = N:=⟨_,rfl⟩
 have hc:=OA h
 obtain ⟨sz,hsz⟩:∃ s,1 + n % 3 = s:=⟨_,rfl⟩
 obtain ⟨ix,hix⟩:∃ i,id % sz = i:=⟨_,rfl⟩
 have hs3:1 ≤ sz∧sz ≤ 3:=by omega
 have hi3:ix < sz:=by rw [←hix];exact Nat.mod_lt _ (by omega)
 have m1:1 + (n:Int) % 3 = (sz:Int):=by omega
 have m2:(id:Int) % (sz:Int) = (ix:Int):=by rw [←hix];rfl
 have hszI:(1:Int) ≤ (sz:Int)∧(sz:Int) ≤ 3:=by omega
 rw [hN] at hc h ⊢
 go_enter Tryz.func9,Tryz.ntmps9
 go_wp2_with fail
 refine hc.mono ?_;rintro ex W1 ⟨v,o1,rfl,hs,r,rfl,hr⟩
 cases r
 ·have hst:=hs.LW (M:=M)
  have hr:=hr rfl
  have hAc:=hidden h
  have hc:=IJ ix sz W1 o1 D hD0 hs3.1 hs3.2 hi3
  have hFew:=hidden hr
  clear hs h hr hsz hix
  go_wp2_with fail
  refine hc.mono ?_;rintro ex W2 ⟨v,o2,rfl,hs,pd,ps,pz,rfl,hg⟩
  have hst:=hst.trans (hs.mono (FP hMD))
  have hg0:=hidden (And.intro hg hst)
  clear hg hst hs hc
  go_wp2_with fail
  go_loopw [9,10,11,12,13,14] (fun sv zv ev pv cv i wr=>∃ (k:Nat) (oj:Own) (y:Aj) (Mx ps pz p c:Nat),k ≤ N∧i = .int .i64 k∧sv = .pointer (some ⟨ps,0,none⟩)∧zv = .pointer (some ⟨pz,0,none⟩)∧ev = .int .i64 0∧pv = .int .u64 (p:Int)∧cv = .int .u64 (c:Int)∧(p ≤ y.k.promised.toNat∧c ≤ y.k.current.toNat∧D ≤ Mx)∧GN wr oj D Mx pz ps pd (6 * k) (DU (l.take k)) y∧(y.id = ix∧y.n = sz∧y.waited ≤ k)∧Step (EN M) w o wr oj) (fun _ _ _ _ _ i _=>N - (intOf i).toNat)
  case atStart=>exact ⟨0,o2,_,D,ps,pz,0,0,Nat.zero_le _,rfl,rfl,rfl,rfl,rfl,rfl,⟨Nat.zero_le _,Nat.zero_le _,Nat.le_refl _⟩,by simpa [DU] using hg0.out.1,⟨rfl,rfl,Nat.le_refl _⟩,hg0.out.2⟩
  case round =>
   clear hg0
   obtain ⟨k,oj,y,Mx,ps,pz,p,c,hk,rfl,rfl,rfl,rfl,rfl,rfl,hpc,hg,hy,hst⟩:=hrel
   by_cases hlt:k < N
   ·have hltI:(0:Int) ≤ (k:Int)∧(k:Int) < (N:Int):=by omega
    obtain ⟨x,hx⟩:∃ x,l[k]? = some x:=⟨_,List.getElem?_eq_getElem (by rw [hN];exact hlt)⟩
    obtain ⟨ab,aoff,lv,bw,rfl,hrg,hln,hbw,hwf,hab,hoa⟩:=(hAc.out.step hst (by show ¬ M < 0;omega)).at hx
    obtain ⟨hfn,hfa,hfs⟩:=hFew.out
    obtain ⟨q1,q2,q3⟩:=hfa x (List.mem_of_getElem? hx)
    have hz1:=UA hx
    have hz2:=Pq l (k + 1)
    obtain ⟨la,lc,rfl⟩:=hln.form
    obtain ⟨ba,bc,rfl⟩:=Aq hbw
    have hldH:=hidden (show (Instr.loadAt 48 (.pointer (some ⟨ab,aoff + k * 9,none⟩))).run Tryz.prog wr = .ok (.agg (FH x (.slice la x.m.ls.length lc) (.slice ba x.b.length bc)).toArray) wr from kE hrg rfl)
    obtain ⟨xb,Wz,V1,p1,hal,hso,hs1,hx1⟩:=jY (x:=x) (lv := .slice la x.m.ls.length lc) (bv := .slice ba x.b.length bc) wr oj ⟨_,_,_,rfl⟩ ⟨_,_,_,rfl⟩
    have hst1:=Bv hst hs1
    have hg1:=hg.step0 hs1
    have hln1:=hln.step hs1 (fun h=>h)
    have hb1:=hbw.step hs1 (fun h=>h)
    obtain ⟨r5,hr5⟩:∃ r5:Nat,x.k % 5 = r5:=⟨_,rfl⟩
    have hdI:(x.k:Int) % 5 = (r5:Int):=by omega
    have cK:V1.cell? ⟨xb,0,none⟩ = some (.int .u8 (x.k:Int)):=hx1.1 0 _ rfl
    have halH:=hidden hal
    have hsoH:=hidden hso
    clear hrg hln hbw hab hoa hs1 hg hst hal hso
    go_upto_if 58 with (first
     | ((with_reducible apply Bo);exact hldH.out;simp only [Act.put,lsa,lsz,lss])
     | ((with_reducible apply AU);exact halH.out;simp only [Act.put,lsa,lsz,lss])
     | ((with_reducible apply AC);exact hsoH.out;simp only [Act.put]))
    refine jV ?_
    intro K hK
    go_cut [9,10,11,57,58] (fun sv zv ev _ _ wx=>∃ (ox:Own) (y2:Aj) (Mx2 ps2 pz2:Nat),sv = .pointer (some ⟨ps2,0,none⟩)∧zv = .pointer (some ⟨pz2,0,none⟩)∧ev = .int .i64 0∧D ≤ Mx2∧EY y.k y2.k∧GN wx ox D Mx2 pz2 ps2 pd (6 * (k + 1)) (DU (l.take (k + 1))) y2∧(y2.id = ix∧y2.n = sz∧y2.waited ≤ k + 1)∧Step (EN M) w o wx ox)
    case first =>
     rcases (show r5 = 0 ∨ r5 = 1 ∨ r5 = 2 ∨ r5 = 3 ∨ r5 = 4 by omega) with c5 | c5 | c5 | c5 | c5
     ·have e0:((r5:Int) == 0) = true:=by rw [c5];rfl
      have hc:=KE hg1 (by omega) (by omega) (by omega) (Prod.eta _).symm
      have hst8:=hst1
      clear cK hx1 hln1 hb1
      go_wp2_with fail
      refine hc.mono ?_;rintro ex w3 ⟨v3,o3,rfl,hs, -,hg9⟩
      have hst9:=jG hMD hpc.2.2 hst8 hs
      have hF:=hidden (And.intro ((Aj.dA hg1.nok).2.2) (And.intro (hg9.mono (K':=6 * (k + 1)) (B':=DU (l.take (k + 1))) (by omega) (by omega)) (And.intro (Aj.ZA y) hst9)))
      clear hs hg9 hst9 hc
      go_wp2_with fail
      go_meet
      case rel=>exact ⟨o3,_,Mx,ps,pz,rfl,rfl,rfl,hpc.2.2,hF.out.1,hF.out.2.1,⟨hF.out.2.2.1.1.trans hy.1,hF.out.2.2.1.2.1.trans hy.2.1,by have:=hF.out.2.2.1.2.2;have:=hy.2.2;omega⟩,hF.out.2.2.2⟩
     ·have e0:((r5:Int) == 0) = false:=by rw [c5];rfl
      have e1:((r5:Int) == 1) = true:=by rw [c5];rfl
      have hmldH:=hidden (show (Instr.loadAt 46 (.pointer (some ⟨xb,2,none⟩))).run Tryz.prog V1 = .ok (QK x.m (.slice la x.m.ls.length lc)) V1 from Ip (show V1.rangeAt xb 2 (EQ x.m (.slice la x.m.ls.length lc)) from ER hx1.1 2 6) rfl)
      have hc:=XF x.m hln1 q3
      have hbl:=Ju q3
      have hpl:=UF x.m
      have hx1H:=hidden hx1
      clear cK hx1
      go_wp2_with (first
       | ((with_reducible apply Bo);exact hmldH.out;simp only [Act.put,lsa,lsz,lss]))
      refine hc.mono ?_;rintro ex w5 ⟨v,o5,rfl,hs,bv,er,rfl,hb⟩
      have hst8:=Bv hst1 hs
      have hg5:=hg1.step0 hs
      have hF5:w5.cell? ⟨xb,1,none⟩ = some (.int .i64 x.src):=(hx1H.out.step hs (fun h=>h)).1 1 _ rfl
      have hc:=Fz hg5 (by omega) x.src hb (by omega) (AP x.m.ls) (Ia x.m) (by omega) (Prod.eta _).symm
      obtain ⟨ya,yc,rfl⟩:=Aq hb
      clear hs hb hln1 hb1 hmldH
      go_wp2_with fail
      refine hc.mono ?_;rintro ex w3 ⟨v3,o3,rfl,hs, -,hg9⟩
      have hst9:=jG hMD hpc.2.2 hst8 hs
      have hF:=hidden (And.intro (Aj.jJ hg5.nok x.src x.m.put) (And.intro (hg9.mono (K':=6 * (k + 1)) (B':=DU (l.take (k + 1))) (by omega) (by omega)) (And.intro (Aj.RI y x.src x.m.put) hst9)))
      clear hs hg9 hst9 hc
      go_wp2_with fail
      go_meet
      case rel=>exact ⟨o3,_,Mx,ps,pz,rfl,rfl,rfl,hpc.2.2,hF.out.1,hF.out.2.1,⟨hF.out.2.2.1.1.trans hy.1,hF.out.2.2.1.2.1.trans hy.2.1,by have:=hF.out.2.2.1.2.2;have:=hy.2.2;omega⟩,hF.out.2.2.2⟩
     ·have e0:((r5:Int) == 0) = false:=by rw [c5];rfl
      have e1:((r5:Int) == 1) = false:=by rw [c5];rfl
      have e2:((r5:Int) == 2) = true:=by rw [c5];rfl
      have hF5:V1.cell? ⟨xb,1,none⟩ = some (.int .i64 x.src):=hx1.1 1 _ rfl
      have hG5:V1.cell? ⟨xb,8,none⟩ = some (.slice ba x.b.length bc):=hx1.1 8 _ rfl
      have hc:=Fz hg1 (by omega) x.src hb1 (by omega) x.b.length (fun m h=>jU h) (by omega) (Prod.eta _).symm
      have hst8:=hst1
      clear cK hx1 hln1 hb1
      go_wp2_with fail
      refine hc.mono ?_;rintro ex w3 ⟨v3,o3,rfl,hs, -,hg9⟩
      have hst9:=jG hMD hpc.2.2 hst8 hs
      have hF:=hidden (And.intro (Aj.jJ hg1.nok x.src x.b) (And.intro (hg9.mono (K':=6 * (k + 1)) (B':=DU (l.take (k + 1))) (by omega) (by omega)) (And.intro (Aj.RI y x.src x.b) hst9)))
      clear hs hg9 hst9 hc
      go_wp2_with fail
      go_meet
      case rel=>exact ⟨o3,_,Mx,ps,pz,rfl,rfl,rfl,hpc.2.2,hF.out.1,hF.out.2.1,⟨hF.out.2.2.1.1.trans hy.1,hF.out.2.2.1.2.1.trans hy.2.1,by have:=hF.out.2.2.1.2.2;have:=hy.2.2;omega⟩,hF.out.2.2.2⟩
     ·have e0:((r5:Int) == 0) = false:=by rw [c5];rfl
      have e1:((r5:Int) == 1) = false:=by rw [c5];rfl
      have e2:((r5:Int) == 2) = false:=by rw [c5];rfl
      have e3:((r5:Int) == 3) = true:=by rw [c5];rfl
      have hG5:V1.cell? ⟨xb,8,none⟩ = some (.slice ba x.b.length bc):=hx1.1 8 _ rfl
      have hc:=Gs hg1 (by omega) hb1 (by omega) (Prod.eta _).symm
      have hst8:=hst1
      clear cK hx1 hln1 hb1
      go_wp2_with fail
      refine hc.mono ?_;rintro ex w3 ⟨v3,o3,rfl,hs,rfl,hg9⟩
      have hst9:=jG hMD hpc.2.2 hst8 hs
      have hF:=hidden (And.intro ((Aj.WU hg1.nok x.b).2) (And.intro (hg9.mono (K':=6 * (k + 1)) (B':=DU (l.take (k + 1))) (by omega) (by omega)) (And.intro (Aj.jR y x.b) hst9)))
      clear hs hg9 hst9 hc
      go_wp2_with fail
      go_meet
      case rel=>exact ⟨o3,_,Mx,ps,pz,rfl,rfl,rfl,hpc.2.2,hF.out.1,hF.out.2.1,⟨hF.out.2.2.1.1.trans hy.1,hF.out.2.2.1.2.1.trans hy.2.1,by have:=hF.out.2.2.1.2.2;have:=hy.2.2;omega⟩,hF.out.2.2.2⟩
     ·have e0:((r5:Int) == 0) = false:=by rw [c5];rfl
      have e1:((r5:Int) == 1) = false:=by rw [c5];rfl
      have e2:((r5:Int) == 2) = false:=by rw [c5];rfl
      have e3:((r5:Int) == 3) = false:=by rw [c5];rfl
      have e4:((r5:Int) == 4) = true:=by rw [c5];rfl
      have hc:=Qc hg1 (by omega)
      obtain ⟨Lk,hLk⟩:∃ n,y.k.lines.length = n:=⟨_,rfl⟩
      have hok:=hidden hg1.nok
      clear cK hx1 hln1 hb1
      go_wp2_with fail
      refine hc.mono ?_;rintro ex w3 ⟨v,o3,rfl,hs,lk,rfl,hl⟩
      obtain ⟨ka,kc,rfl⟩:=hl.EG hLk
      obtain ⟨kb,Wk,V4,p4,hal,hso,hs4,hk4⟩:=LK (p:=y.k.promised) (c:=y.k.current) (lv := .slice ka Lk kc) w3 o3 ⟨_,_,_,rfl⟩
      have hg4:=(hg1.step0 hs).step0 hs4
      have hst4:=hidden (Bv (Bv hst1 hs) hs4)
      have hl4H:=hidden ((hl.step hs4 (fun h=>h)).low (Nat.zero_le _))
      have hk4H:=hidden hk4
      obtain ⟨t,hSP,htk,hd⟩:=hg4.disk
      have hc:=jX hd
      have halH:=hidden hal
      have hsoH:=hidden hso
      have nD:¬ Only D 0:=fun (h:0 = D)=>hD0 h.symm
      have nA:¬ EN (Mx + 4) 0:=by show ¬ Mx + 4 < 0;omega
      have hnD:=hidden (And.intro nD nA)
      have aD:∀ k,Only D k→EN M k:=fun k (h:k = D)=>(show M < k by omega)
      have haD:=hidden (And.intro aD (show ∀ k,EN (Mx + 4) k→EN M k from fun k (h:Mx + 4 < k)=>(show M < k by have:=hpc.2.2;omega)))
      clear hs hs4 hl hk4 hal hso hg4 hd nD nA aD hg1 hst1
      go_wp2_with (first
       | ((with_reducible apply AU);exact halH.out;simp only [Act.put,lsa,lsz,lss])
       | ((with_reducible apply AC);exact hsoH.out;simp only [Act.put]))
      refine hc.mono ?_;rintro ex w5 ⟨v,o5,rfl,hs,rfl,hd⟩
      have hst5:=hidden (hst4.out.trans (hs.mono haD.out.1))
      have hl5H:=hidden (hl4H.out.step hs hnD.out.1)
      have hk5H:=hidden (hk4H.out.step hs hnD.out.1)
      have hc:=jZ hSP hD0 hd none 0
      clear hs hst4 hl4H hk4H hd
      go_wp2_with fail
      refine hc.mono ?_;rintro ex w6 ⟨v,o6,rfl,hs,rfl,hd⟩
      have hst6:=hidden (hst5.out.trans (hs.mono haD.out.1))
      have hl6H:=hidden (hl5H.out.step hs hnD.out.1)
      have hk6H:=hidden (hk5H.out.step hs hnD.out.1)
      have hc:=jO hSP (by omega) (Mx + 4) (by have:=hpc.2.2;omega) hD0 hd
      clear hs hst5 hl5H hk5H hd
      go_wp2_with fail
      refine hc.mono ?_;rintro ex w7 ⟨v,o7,rfl,hs,ps3,rfl,hsa⟩
      have hst7:=hidden (hst6.out.trans (hs.mono haD.out.2))
      have hl7H:=hidden (hl6H.out.step hs hnD.out.2)
      have hk7H:=hidden (hk6H.out.step hs hnD.out.2)
      have htk2:({ t with d:={ t.d with left := -1 } }:AZ).kept = y.k:=htk
      have hc:=Xa (B:=DU (l.take k)) hSP.jH (M:=Mx + 4) ⟨by have:=hpc.2.2;omega,hD0⟩ hsa hs3.1 hs3.2 hi3 (by rw [htk2];exact hok.out.ls) (by rw [htk2];exact hok.out.cp) (by rw [htk2];exact hok.out.pt)
      rw [htk2] at hc
      clear hs hst6 hl6H hk6H hsa htk2 htk
      go_wp2_with fail
      refine hc.mono ?_;rintro ex w8 ⟨v,o8,rfl,hs,pz3,rfl,hg8⟩
      have hst8:=hidden (Bv hst7.out hs)
      have hl8H:=hidden (hl7H.out.step hs (fun h=>h))
      have hk8H:=hidden (hk7H.out.step hs (fun h=>h))
      have hc:=Qc hg8 (by omega)
      clear hs hst7 hl7H hk7H hSP
      go_wp2_with fail
      refine hc.mono ?_;rintro ex wb ⟨v,ob,rfl,hs,lk,rfl,hl⟩
      obtain ⟨xa,xc,rfl⟩:=hl.EG hLk
      obtain ⟨yb,Wx,Vb,pb,hal,hso,hsb,hyb⟩:=LK (p:=y.k.promised) (c:=y.k.current) (lv := .slice xa Lk xc) wb ob ⟨_,_,_,rfl⟩
      have hs78:=hs.trans hsb
      have hgb:=hg8.step0 hs78
      have hstb:=hidden (Bv hst8.out hs78)
      have hkb:=hk8H.out.step hs78 (fun h=>h)
      have d0:Vb.cell? ⟨kb,0,none⟩ = some (.int .u64 (y.k.promised.toNat:Int)):=hkb.1 0 _ rfl
      have d1:Vb.cell? ⟨kb,1,none⟩ = some (.int .u64 (y.k.current.toNat:Int)):=hkb.1 1 _ rfl
      have d2:Vb.cell? ⟨kb,2,none⟩ = some (.slice ka Lk kc):=hkb.1 2 _ rfl
      have f0:Vb.cell? ⟨yb,0,none⟩ = some (.int .u64 (y.k.promised.toNat:Int)):=hyb.1 0 _ rfl
      have f1:Vb.cell? ⟨yb,1,none⟩ = some (.int .u64 (y.k.current.toNat:Int)):=hyb.1 1 _ rfl
      have f2:Vb.cell? ⟨yb,2,none⟩ = some (.slice xa Lk xc):=hyb.1 2 _ rfl
      have hlim:Lk ≤ 1000000:=by rw [←hLk];have:=hok.out.ls.n;omega
      have hc:=Oh ((hl.step hsb (fun h=>h)).low (Nat.zero_le _)) (hl8H.out.step hs78 (fun h=>h)) (by show y.k.lines.length ≤ 1000000;rw [hLk];exact hlim)
      have halH:=hidden hal
      have hsoH:=hidden hso
      clear hs hsb hs78 hal hso hl hg8 hst8 hkb hyb hl8H hk8H
      go_wp2_with (first
       | ((with_reducible apply AU);exact halH.out;simp only [Act.put,lsa,lsz,lss])
       | ((with_reducible apply AC);exact hsoH.out;simp only [Act.put]))
      refine hc.mono ?_;rintro ex wc ⟨v,oc,rfl,hs,rfl⟩
      have hgc:=hgb.step0 hs
      have hstc:=hidden (Bv hstb.out hs)
      have hc:=ED hgc (by omega) (ls:=[]) rfl
      clear hs hgb hstb d0 d1 d2 f0 f1 f2
      go_wp2_with fail
      refine hc.mono ?_;rintro ex wd ⟨v,od,rfl,hs,hl⟩
      obtain ⟨za,zc,rfl⟩:=hl.EG (n:=0) rfl
      have hgd:=hgc.step0 hs
      have hstd:=hidden (Bv hstc.out hs)
      have hc:=IR hgd (b:=false) rfl
      clear hs hl hgc hstc
      go_wp2_with fail
      refine hc.mono ?_;rintro ex w' ⟨rfl,rfl⟩
      have hF:=hidden (And.intro (hgd.mono (K':=6 * (k + 1)) (B':=DU (l.take (k + 1))) (by omega) (by omega)) hstd.out)
      clear hgd hstd hc
      go_wp2_with fail
      go_meet
      case rel=>exact ⟨od,Aj.new ix sz y.k,Mx + 4,ps3,pz3,rfl,rfl,rfl,by have:=hpc.2.2;omega,EY.refl _,hF.out.1,⟨rfl,rfl,Nat.zero_le _⟩,hF.out.2⟩
    case rest =>
     obtain ⟨ox,y2,Mx2,ps2,pz2,rfl,rfl,rfl,hDx,hri,hg2,hy2,hst2⟩:=hcut
     have hc:=Qc hg2 (by omega)
     obtain ⟨Lk,hLk⟩:∃ n,y2.k.lines.length = n:=⟨_,rfl⟩
     obtain ⟨P,hP⟩:∃ n,y2.k.promised.toNat = n:=⟨_,rfl⟩
     obtain ⟨C,hC⟩:∃ n,y2.k.current.toNat = n:=⟨_,rfl⟩
     obtain ⟨Lc,hLc⟩:∃ n,y2.Ag = n:=⟨_,rfl⟩
     have hnum:(p:Int) ≤ (P:Int)∧(c:Int) ≤ (C:Int)∧(C:Int) ≤ (P:Int)∧(Lc:Int) ≤ (Lk:Int)∧(0:Int) ≤ (Lc:Int):=by
      have h1:=hri.1
      have h2:=hri.2
      have h3:=hg2.nok.cp
      have h4:=hg2.nok.co
      omega
     have hnumH:=hidden hnum
     have hlim:Lk ≤ 1000000:=by rw [←hLk];have:=hg2.nok.ls.n;omega
     clear hx1 cK hln1 hb1 hg1 hst1 hldH halH hsoH hnum hri
     go_wp2_with fail
     refine hc.mono ?_;rintro ex w3 ⟨v,o3,rfl,hs,lk,rfl,hl⟩
     obtain ⟨ka,kc,rfl⟩:=hl.EG hLk
     obtain ⟨kb,Wk,V4,p4,hal,hso,hs4,hk4⟩:=LK (p:=y2.k.promised) (c:=y2.k.current) (lv := .slice ka Lk kc) w3 o3 ⟨_,_,_,rfl⟩
     have hg4:=(hg2.step0 hs).step0 hs4
     have hst4:=hidden (Bv (Bv hst2 hs) hs4)
     have hl4H:=hidden ((hl.step hs4 (fun h=>h)).low (Nat.zero_le _))
     have hk4H:=hidden hk4
     have hc:=ED hg4 (by omega) rfl
     have halH:=hidden hal
     have hsoH:=hidden hso
     clear hs hs4 hl hk4 hal hso hg2 hst2
     go_wp2_with (first
      | ((with_reducible apply AU);exact halH.out;simp only [Act.put,lsa,lsz,lss])
      | ((with_reducible apply AC);exact hsoH.out;simp only [Act.put]))
     refine hc.mono ?_;rintro ex w5 ⟨v,o5,rfl,hs,hm⟩
     have hmL:(y2.k.lines.take y2.Ag).length = Lc:=by rw [List.length_take,hLc,hLk];have:=hnumH.out;omega
     obtain ⟨ma,mc,rfl⟩:=hm.EG hmL
     obtain ⟨V,hV⟩:∃ V,w5.drew = V:=⟨_,rfl⟩
     have kV:Step Nobody w5 o5 V o5:=by rw [←hV];exact (Step.refl Nobody w5 o5).drew
     have hsV:=hs.trans kV
     have hgV:=hg4.step0 hsV
     have hstV:=hidden (Bv hst4.out hsV)
     have hlV:=hl4H.out.step hsV (fun h=>h)
     have hkV:=hk4H.out.step hsV (fun h=>h)
     have hmVH:=hidden ((hm.step kV (fun h=>h)).low (Nat.zero_le _))
     have hSof:∀ W O,Step Nobody V o5 W O→W.cell? ⟨kb,0,none⟩ = some (.int .u64 (P:Int))∧W.cell? ⟨kb,1,none⟩ = some (.int .u64 (C:Int))∧W.cell? ⟨kb,2,none⟩ = some (.slice ka Lk kc):=by
      intro W O hJ
      have h:=(hkV.step hJ (fun h=>h)).1
      have h0:=h 0 _ rfl
      have h1:=h 1 _ rfl
      rw [hP] at h0
      rw [hC] at h1
      exact ⟨h0,h1,h 2 _ rfl⟩
     have hSH:=hidden hSof
     have hS:=hSof V o5 (Step.refl _ _ _)
     have hep:=hidden (VO hgV (by omega) (e:=(P:Int)) (by rw [hP]))
     have hF:=hidden (And.intro hgV (And.intro hstV.out hlV))
     rw [←hV] at hS
     clear hs kV hsV hgV hstV hlV hkV hSof hg4 hst4 hl4H hk4H hm hc halH hsoH
     have hnum:=hnumH.out
     go_wp2_with fail
     refine Aa (fun w'=>w'.cell? ⟨kb,0,none⟩ = some (.int .u64 (P:Int))∧w'.cell? ⟨kb,1,none⟩ = some (.int .u64 (C:Int))∧w'.cell? ⟨kb,2,none⟩ = some (.slice ka Lk kc)) (fun _=>true) (by kernel_rfl) hS (fun hHeld => ?_)
     rw [hV] at hHeld ⊢
     clear hS hV
     refine tq 0 ?_
     refine tq 1 ?_
     refine tq 2 ?_
     refine tv 3 (.bool false) (hy:=fun w hSw=>by (try dsimp only at hSw);go_simp <;> omega) (h := ?_)
     refine tq 4 ?_
     refine tq 5 ?_
     refine tq 6 ?_
     refine tq 7 ?_
     refine tv 8 (.bool false) (hy:=fun w hSw=>by (try dsimp only at hSw);go_simp <;> omega) (h := ?_)
     refine tq 9 ?_
     refine tq 10 ?_
     refine tq 11 ?_
     refine tq 12 ?_
     refine tq 13 ?_
     refine tq 14 ?_
     refine tv 15 (.bool false) (hy:=fun w hSw=>by (try dsimp only at hSw);go_simp <;> omega) (h := ?_)
     refine tq 16 ?_
     refine tq 17 ?_
     refine tq 18 ?_
     refine tq 20 ?_
     refine tq 21 ?_
     refine Ac (i:=19) rfl (by kernel_rfl) ?_
     go_wp2_with fail
     refine hep.out.mono ?_;rintro e' wE ⟨vE,oE,rfl,hsE,rfl⟩
     have hS:=hSH.out _ _ hsE
     have hsEH:=hidden hsE
     clear hsE hHeld
     go_wp2_with fail
     refine ⟨fun _=>hS, ?_⟩
     refine tv 22 (.bool false) (hy:=fun w hSw=>by (try dsimp only at hSw);go_simp <;> omega) (h := ?_)
     refine tq 23 ?_
     refine tq 24 ?_
     refine tq 25 ?_
     refine tq 26 ?_
     refine tq 27 ?_
     refine tq 28 ?_
     refine tq 29 ?_
     refine tv 30 (.bool false) (hy:=fun w hSw=>by (try dsimp only at hSw);go_simp <;> omega) (h := ?_)
     refine tq 31 ?_
     refine tq 32 ?_
     refine tq 33 ?_
     refine tq 34 ?_
     refine tq 35 ?_
     refine tq 36 ?_
     refine tq 37 ?_
     refine Ac (i:=38) rfl (by kernel_rfl) ?_
     obtain ⟨sv,hsr,hsl⟩:=TI (hF.out.2.2.step hsEH.out (fun h=>h)) Lc (by rw [hLk];omega)
     rw [←hLc] at hsl
     go_wp2_with fail
     refine ⟨fun _=>hS, ?_⟩
     refine Ac (i:=39) rfl (by kernel_rfl) ?_
     obtain ⟨hgV,hstV,hlV⟩:=hF.out
     have hc:=Oh (hmVH.out.step hsEH.out (fun h=>h)) hsl (by rw [hmL];omega)
     go_wp2_with fail
     refine hc.mono ?_;rintro e' wF ⟨vF,oF,rfl,hsF,rfl⟩
     have hS2:=hSH.out _ _ (hsEH.out.trans hsF)
     have hsFH:=hidden (hsEH.out.trans hsF)
     clear hsF hS hc
     go_wp2_with fail
     refine ⟨fun _=>hS2, ?_⟩
     refine tq 40 ?_
     refine tq 41 ?_
     refine Ae (by kernel_rfl) ?_ _
     obtain ⟨g0,g1, -⟩:=hS2
     have hR:=hidden (And.intro (hF.out.1.step0 hsFH.out) (Bv hF.out.2.1 hsFH.out))
     clear hsFH hsEH hF hsr hsl hSH hmVH hep hnum
     go_wp2_with fail
     go_roundw
     case rel=>exact ⟨k + 1,oF,y2,Mx2,ps2,pz2,P,C,by omega,by go_num,rfl,rfl,rfl,rfl,rfl,⟨by omega,by omega,hDx⟩,hR.out.1,hy2,hR.out.2⟩
     case measure=>simp [intOf];omega
   ·obtain rfl:k = N:=by omega
    have hc:=KD wr oj
    go_wp2_with fail
    refine hc.mono ?_;rintro ex w5 ⟨v,o5,rfl,hs,rfl⟩
    have hst:=Bv hst hs
    clear hs hc hg
    go_wp2_with fail
    go_ret
    exact ⟨_,_,rfl,hst.Hm hM,rfl⟩
 ·clear hr hc h
  go_wp2_with fail
  go_ret
  exact ⟨_,_,rfl,hs,rfl⟩

end Go.Proofs.YthmpmgknnibljaaGreat
