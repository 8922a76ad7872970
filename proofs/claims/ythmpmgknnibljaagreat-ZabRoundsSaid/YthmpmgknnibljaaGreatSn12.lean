/- Contract of zab's Tick. -/
import Derived.Test.YthmpmgknnibljaaGreatRows
import Derived.Test.YthmpmgknnibljaaGreatSn1
import Derived.Test.YthmpmgknnibljaaGreatSn4
import Derived.Test.YthmpmgknnibljaaGreatSn5
import Derived.Test.YthmpmgknnibljaaGreatSn7
import Derived.Test.YthmpmgknnibljaaGreatSn9
import Derived.Test.YthmpmgknnibljaaGreatSn10
import Derived.Test.YthmpmgknnibljaaGreatSn11
namespace Go.Proofs.YthmpmgknnibljaaGreat
set_option maxRecDepth 100000
set_option maxHeartbeats 12800000
open Go Go.RowKit
attribute [local go_sem ↓] Go.wp_at_zero Go.wp_at_succ
theorem Zz (w:World) (o:Own):Calls Tryz.prog 19 #[.pointer none] w (Ret Nobody w o fun v _ _=>v = .slice none 0 0):=by
 have st:=hidden ((Step.refl Nobody w o).alloc (.cells #[.pointer none] 30) (0,0))
 go_enter Tryz.func19,Tryz.ntmps19
 go_wp2
 go_ret
 exact ⟨_,_,rfl,st.out,rfl⟩
theorem ZB {w:World} {o:Own} {D M pz ps pd K B:Nat} {z:Am} (h:Bc w o D M pz ps pd z) (hp:Am.NP K B z) (hK:K + 606 < 65536) (hB:B ≤ 90000) (hw:z.waited ≤ 1000000) :
  Calls Tryz.prog 19 #[.pointer (some ⟨pz,0,none⟩)] w (Ret (InN D M) w o fun v w' o'=>Dn w' o' v (Ed z.tick.2)∧Bc w' o' D M pz ps pd z.tick.1):=by
 have hn3:z.n ≤ 3:=hp.ok.n3
 have hls:En B z.s.kept.lines:=hp.ok.ls
 have hsm:=En.small hls (by omega)
 have hco:z.Ag ≤ z.s.kept.lines.length:=hp.ok.co
 have st1:=(Step.refl Nobody w o).alloc (.cells [Value.pointer (some ⟨pz,0,none⟩)].toArray 30) (0,0)
 have zb1:=heap_alloc_new w (.cells [Value.pointer (some ⟨pz,0,none⟩)].toArray 30)
 have zo1:=Au o w.heap.size (0,0)
 generalize Ak o w.heap.size (0,0) = o1 at *
 obtain ⟨W1,hW1⟩:∃ W1,w.alloc (.cells [Value.pointer (some ⟨pz,0,none⟩)].toArray 30) = W1:=⟨_,rfl⟩
 rw [hW1] at st1 zb1
 have hbx:(Instr.box 30 (.pointer (some ⟨pz,0,none⟩))).run Tryz.prog w = .ok (.pointer (some ⟨w.heap.size,0,none⟩)) W1:=by rw [←hW1];kernel_rfl
 obtain ⟨zb,hzb⟩:∃ b,w.heap.size = b:=⟨_,rfl⟩
 rw [hzb] at zb1 zo1 hbx
 have h1:=h.step0 st1
 have hdd:=FI h1
 have hdl:z.dead = false:=hp.sp.dead
 rw [hdl] at hdd
 have hddH:=hidden hdd
 have hbxH:=hidden hbx
 have cz:=cell_of_block zb1 0
 simp only [List.getElem?_cons_zero] at cz
 have hPH:=hidden hp
 obtain ⟨R,hR⟩:∃ R,z.tick = R:=⟨_,rfl⟩
 rw [hR]
 have hstH:=hidden (And.intro st1 (And.intro zb1 zo1))
 have hlsH:=hidden (And.intro hls (And.intro hsm hco))
 clear hbx hdd hdl hW1 hzb h hp st1 zb1 zo1 hls hsm hco
 obtain ⟨hDM,rv,hb,hr,hs⟩:=id h1
 obtain ⟨⟨c0,c1,c2,c3,c4,c5,c6⟩,hfr, -⟩:=hb.cells
 have f4:=hfr 4
 cases hrr:z.BB with
 | leads mine mat base ready =>
  rw [hrr] at hr
  obtain ⟨p,rfl,hl⟩:=hr
  have hta:=ZH W1 (some ⟨p,0,none⟩)
  have k2:=(Step.refl Nobody W1 o1).alloc (.cells [Value.pointer (some ⟨p,0,none⟩)].toArray 87) (0,0)
  have vb2:=heap_alloc_new W1 (.cells [Value.pointer (some ⟨p,0,none⟩)].toArray 87)
  generalize Ak o1 W1.heap.size (0,0) = o2 at *
  have zb2:=(k2.block _ (lt_of_block hstH.out.2.1) (fun h=>h)).trans hstH.out.2.1
  have cz2:=cell_of_block zb2 0
  obtain ⟨⟨-, -,d2, -⟩, -⟩:=(hb.step k2 (fun h=>h)).cells
  simp only [List.getElem?_cons_zero] at cz2
  have hkp:=hidden (DJ (hs.step0 k2) hlsH.out.2.1)
  have hln:GV W1 o1 D M pz ps pd p z mine mat base ready:=⟨hDM,hb,hl,hs⟩
  have hG:=hidden (And.intro (hstH.out.1.trans k2) (And.intro vb2 (And.intro zb2 (hln.step k2 (fun t h=>h.elim)))))
  obtain ⟨vl,hvl⟩:∃ b,W1.heap.size = b:=⟨_,rfl⟩
  clear hb hl hs hfr c0 c1 c4 c5 c6 f4 k2 vb2 zb2 hln h1
  go_enter Tryz.func19,Tryz.ntmps19
  go_wp2_with ((with_reducible apply BM);exact hbxH.out;simp only [Act.put,lsa,lsz,lss])
  refine hddH.out.mono ?_;rintro e w' ⟨rfl,rfl⟩
  go_wp2_with fail
  refine hkp.out.mono ?_;rintro e w3 ⟨v3,o3,rfl,hs3,lv,rfl,hlv,rfl⟩
  obtain ⟨la,lc,rfl⟩:=hlv.form
  obtain ⟨L,hL⟩:∃ L,z.s.kept.lines.length = L:=⟨_,rfl⟩
  obtain ⟨st2,vb2,zb2,hln2⟩:=hG.out
  have hfk:=fun W=>He W (.int .u64 (z.s.kept.promised.toNat:Int)) (.int .u64 (z.s.kept.current.toNat:Int)) (.slice la L lc)
  have k4:=hs3.alloc (.cells [Value.slice la L lc].toArray 32) (0,0)
  have kk4:=(Step.refl Nobody w3 (ext (W1.alloc (.cells [Value.pointer (some ⟨p,0,none⟩)].toArray 87)) o2)).alloc (.cells [Value.slice la L lc].toArray 32) (0,0)
  have lb4:=heap_alloc_new w3 (.cells [Value.slice la L lc].toArray 32)
  have vb4:=(k4.block _ (lt_of_block vb2) (fun h=>h)).trans vb2
  have zb4:=(k4.block _ (lt_of_block zb2) (fun h=>h)).trans zb2
  have hln4:=hln2.step k4 (fun t h=>h.elim)
  have hlv4:=(hlv.step kk4 (fun h=>h)).low (Nat.zero_le _)
  have st4:=st2.trans k4
  have cz4:=cell_of_block zb4 0
  simp only [List.getElem?_cons_zero] at cz4
  rw [hvl] at vb4
  rw [hL] at hlv4
  have hro:=hPH.out.ok.ro
  rw [show z.BN.BB = z.BB from rfl,hrr] at hro
  obtain ⟨hmine,hml,hmb⟩:=hro
  have hml':mat.length = z.n:=hml
  have hot:=LH (hln4.node hrr) hn3 45 #[.pointer (some ⟨vl,0,none⟩), .pointer (some ⟨w3.heap.size,0,none⟩), .pointer (some ⟨zb,0,none⟩)] (Ph mine mat z.Ag z.s.kept.lines) Tryz.call45
   (fun w1 o1 hs i hi _=>Ye (hln4.step hs (fun t h=>h.elim)) ((hs.block _ (lt_of_block vb4) (fun h=>h)).trans vb4) ((hs.block _ (lt_of_block lb4) (fun h=>h)).trans lb4) (hlv4.step hs (fun h=>h)) ((hs.block _ (lt_of_block zb4) (fun h=>h)).trans zb4) i (by rw [hml'];exact hi) (by rw [hml'];exact hn3) hmb hlsH.out.1.n (by have:=hlsH.out.1.n;have:=hlsH.out.2.2;omega))
   (fun i hi _=>by
    unfold Ph
    have hx:mat.getD i 0 ∈ mat:=by
     have hil:i < mat.length:=by rw [hml'];exact hi
     rw [List.getD_eq_getElem?_getD,List.getElem?_eq_getElem hil];exact List.getElem_mem hil
    have hb:=hmb _ hx
    have hl256:=hlsH.out.1.n
    have hk:z.BN.k = z.s.kept:=rfl
    rw [hk] at hb
    split
    ·exact Aj.KO hmine.1 hmine.2 hlsH.out.1
    ·exact Aj.PS hmine.1 hmine.2 (by omega) (by have:=hlsH.out.2.2;omega) (hlsH.out.1.drop _))
  have hotH:=hidden hot
  have hF4:=hidden (And.intro st4 (hln4.node hrr))
  rw [hL]
  unfold Dy
  clear hs3 hlv st2 vb2 zb2 hln2 k4 kk4 lb4 vb4 zb4 hln4 hlv4 st4 hmine hml hmb hml' hot hkp cz2 d2 cz c2 c3
  go_wp2_with fail
  refine hotH.out.mono ?_;rintro e w5 ⟨v5,o5,rfl,hs5,hou⟩
  have hF:=hidden (And.intro (hF4.out.1.trans hs5) (And.intro hou (hF4.out.2.step0 hs5)))
  obtain ⟨xa,xc,rfl⟩:=hou.form
  have hR2:z.tick = (z,z.BN.others (Ph mine mat z.Ag z.s.kept.lines)):=by unfold Am.tick;rw [hrr];rfl
  clear hs5 hou hotH
  go_wp2_with fail
  go_ret
  refine ⟨_,o5,rfl,hF.out.1.mono (fun _ h=>h.elim), ?_, ?_⟩
  ·rw [←hR,hR2];exact hF.out.2.1
  ·rw [←hR,hR2];exact hF.out.2.2
 | follows =>
  rw [hrr] at hr
  obtain rfl:rv = .iface 115 (.agg #[]):=hr
  have hta:=ZI W1
  have hR2:R = if 3 + 2 * z.id < z.waited + 1 then ({ z with waited:=z.waited + 1 }:Am).stand else (({ z with waited:=z.waited + 1 }:Am),[]):=by
   rw [←hR];unfold Am.tick;rw [hrr]
  obtain ⟨wn,hwn⟩:∃ n,z.waited + 1 = n:=⟨_,rfl⟩
  rw [hwn] at hR2
  have hwI:(z.waited:Int) + 1 = (wn:Int):=by omega
  have hwI2:(0:Int) ≤ (z.waited:Int)∧(z.waited:Int) ≤ 1000000:=by omega
  have hid:z.id < z.n:=hPH.out.ok.id
  have hidI:(0:Int) ≤ (z.id:Int)∧(z.id:Int) ≤ 2:=by omega
  have b2:=Ai (i:=4) (.int .i64 (wn:Int)) hb.1
  have k2:=(Step.refl (Only (M + 4)) W1 o1).setCell (a:=⟨pz,4,none⟩) (.int .i64 (wn:Int)) (.inl (by show (o1 pz).1 = _;rw [hb.2]))
  have hzp:zb ≠ pz:=fun h=>by have:=hb.2;rw [←h,hstH.out.2.2] at this;cases this
  have zb2:=(Below.heap_setCell W1 ⟨pz,4,none⟩ (.int .i64 (wn:Int)) zb hzp).trans hstH.out.2.1
  have n4:¬ Only (M + 4) 0:=fun h=>by unfold Only at h;omega
  have hn2:Bc (W1.setCell ⟨pz,4,none⟩ (.int .i64 (wn:Int))) o1 D M pz ps pd ({ z with waited:=wn }:Am):=by
   refine ⟨hDM,_,⟨b2,hb.2⟩, ?_,hs.step k2 (InN.self hDM.1)⟩
   show IE _ _ _ _ z.BB
   rw [hrr]
   rfl
  have hnp2:Am.NP K B ({ z with waited:=wn }:Am):=⟨hPH.out.sp,⟨⟨hPH.out.ok.n1,hPH.out.ok.n3,hPH.out.ok.id,hPH.out.ok.ls,hPH.out.ok.cp,hPH.out.ok.pt,hPH.out.ok.se,hPH.out.ok.co⟩,hPH.out.ok.ro⟩⟩
  have dr:Step Nobody (W1.setCell ⟨pz,4,none⟩ (.int .i64 (wn:Int))) o1 (W1.setCell ⟨pz,4,none⟩ (.int .i64 (wn:Int))).drew o1:=(Step.refl Nobody _ o1).drew
  have hst:=hidden (Rn (hn2.step0 dr) hnp2 hK hB)
  have hn3':=hn2.step0 dr
  have e1:=cell_of_block (w:=(W1.setCell ⟨pz,4,none⟩ (.int .i64 (wn:Int))).drew) zb2 0
  have e2:=cell_of_block (w:=(W1.setCell ⟨pz,4,none⟩ (.int .i64 (wn:Int))).drew) b2 4
  have e3:=cell_of_block (w:=(W1.setCell ⟨pz,4,none⟩ (.int .i64 (wn:Int))).drew) b2 0
  simp only [List.getElem?_cons_zero] at e1
  have hS:=And.intro e1 (And.intro (show _ = some (Value.int .i64 (wn:Int)) from e2) (show _ = some (Value.int .i64 (z.id:Int)) from e3))
  have hF2:=hidden (And.intro ((hstH.out.1.mono (T':=InN D M) (fun _ h=>h.elim)).trans ((k2.mono (fun k h=>(show InN D M k by cases h;exact InN.own))).trans (dr.mono (fun _ h=>h.elim)))) hn3')
  have hR2H:=hidden hR2
  clear hb hs hfr c0 c1 c2 c5 c6 b2 k2 zb2 hn2 hnp2 dr hn3' e1 e2 e3 hR2 hwn hid h1 hR hrr
  go_enter Tryz.func19,Tryz.ntmps19
  go_wp2_with ((with_reducible apply BM);exact hbxH.out;simp only [Act.put,lsa,lsz,lss])
  refine hddH.out.mono ?_;rintro e w' ⟨rfl,rfl⟩
  have hw1:IntKind.i64.wrap (2 * (z.id:Int)) = 2 * (z.id:Int):=by simp [IntKind.wrap,IntKind.bits,IntKind.signed];omega
  have hw2:IntKind.i64.wrap (3 + 2 * (z.id:Int)) = 3 + 2 * (z.id:Int):=by simp [IntKind.wrap,IntKind.bits,IntKind.signed];omega
  by_cases hgt:3 + 2 * z.id < wn
  ·have hgI:(3:Int) + 2 * (z.id:Int) < (wn:Int):=by omega
   rw [if_pos hgt] at hR2H
   go_wp2_with fail
   refine Aa (fun w'=>w'.cell? ⟨zb,0,none⟩ = some (.pointer (some ⟨pz,0,none⟩))∧w'.cell? ⟨pz,4,none⟩ = some (.int .i64 (wn:Int))∧w'.cell? ⟨pz,0,none⟩ = some (.int .i64 (z.id:Int))) (fun _=>true) (by kernel_rfl) hS (fun hHeld => ?_)
   refine tq 0 ?_
   refine tq 1 ?_
   refine tq 2 ?_
   refine tq 3 ?_
   refine tq 4 ?_
   refine tq 5 ?_
   refine tq 6 ?_
   refine tq 7 ?_
   refine tq 8 ?_
   refine tq 9 ?_
   refine tq 10 ?_
   refine Ae (by kernel_rfl) ?_ _
   obtain ⟨e1,e2,e3⟩:=hS
   clear hHeld hw1 hw2
   go_wp2_with fail
   refine hst.out.mono ?_;rintro e w5 ⟨v5,o5,rfl,hs5,hou,hn5⟩
   have hF:=hidden (And.intro (hF2.out.1.trans hs5) (And.intro hou hn5))
   obtain ⟨xa,xc,rfl⟩:=hou.form
   clear hs5 hou hn5 hst
   go_wp2_with fail
   go_ret
   exact ⟨_,o5,rfl,hF.out.1,by rw [hR2H.out];exact hF.out.2.1,by rw [hR2H.out];exact hF.out.2.2⟩
  ·have hgI:decide ((3:Int) + 2 * (z.id:Int) < (wn:Int)) = false:=decide_eq_false (by omega)
   rw [if_neg hgt] at hR2H
   go_wp2_with fail
   refine Aa (fun w'=>w'.cell? ⟨zb,0,none⟩ = some (.pointer (some ⟨pz,0,none⟩))∧w'.cell? ⟨pz,4,none⟩ = some (.int .i64 (wn:Int))∧w'.cell? ⟨pz,0,none⟩ = some (.int .i64 (z.id:Int))) (fun _=>true) (by kernel_rfl) hS (fun hHeld => ?_)
   refine tq 0 ?_
   refine tq 1 ?_
   refine tq 2 ?_
   refine tq 3 ?_
   refine tq 4 ?_
   refine tq 5 ?_
   refine tq 6 ?_
   refine tq 7 ?_
   refine tq 8 ?_
   refine tq 9 ?_
   refine tq 10 ?_
   refine Ae (by kernel_rfl) ?_ _
   clear hHeld hS hst hw1 hw2
   go_wp2_with fail
   go_ret
   exact ⟨_,o1,rfl,hF2.out.1,by rw [hR2H.out];exact Dn.nil _ _,by rw [hR2H.out];exact hF2.out.2⟩
 | stands mine has =>
  rw [hrr] at hr
  obtain ⟨p,rfl,hst0⟩:=hr
  have hta:=ZG W1 (some ⟨p,0,none⟩)
  have hR2:R = if 3 + 2 * z.id < z.waited + 1 then ({ z with waited:=z.waited + 1 }:Am).stand else (({ z with waited:=z.waited + 1 }:Am),[]):=by
   rw [←hR];unfold Am.tick;rw [hrr]
  obtain ⟨wn,hwn⟩:∃ n,z.waited + 1 = n:=⟨_,rfl⟩
  rw [hwn] at hR2
  have hwI:(z.waited:Int) + 1 = (wn:Int):=by omega
  have hwI2:(0:Int) ≤ (z.waited:Int)∧(z.waited:Int) ≤ 1000000:=by omega
  have hid:z.id < z.n:=hPH.out.ok.id
  have hidI:(0:Int) ≤ (z.id:Int)∧(z.id:Int) ≤ 2:=by omega
  have b2:=Ai (i:=4) (.int .i64 (wn:Int)) hb.1
  have k2:=(Step.refl (Only (M + 4)) W1 o1).setCell (a:=⟨pz,4,none⟩) (.int .i64 (wn:Int)) (.inl (by show (o1 pz).1 = _;rw [hb.2]))
  have hzp:zb ≠ pz:=fun h=>by have:=hb.2;rw [←h,hstH.out.2.2] at this;cases this
  have zb2:=(Below.heap_setCell W1 ⟨pz,4,none⟩ (.int .i64 (wn:Int)) zb hzp).trans hstH.out.2.1
  have n4:¬ Only (M + 4) 0:=fun h=>by unfold Only at h;omega
  have hn2:Bc (W1.setCell ⟨pz,4,none⟩ (.int .i64 (wn:Int))) o1 D M pz ps pd ({ z with waited:=wn }:Am):=by
   refine ⟨hDM,_,⟨b2,hb.2⟩, ?_,hs.step k2 (InN.self hDM.1)⟩
   show IE _ _ _ _ z.BB
   rw [hrr]
   obtain ⟨mb,q1,q2,q3⟩:=hst0
   have hpp:p ≠ pz:=fun h=>by have:=hb.2;rw [←h,q2] at this;cases this
   have hmb:mb ≠ pz:=fun h=>by have:=hb.2;rw [←h,q3.choose_spec.2.1] at this;cases this
   refine ⟨p,rfl,mb,(Below.heap_setCell W1 ⟨pz,4,none⟩ (.int .i64 (wn:Int)) p hpp).trans q1,q2, ?_⟩
   obtain ⟨es,g1,g2,g3,g4,g5⟩:=q3
   exact ⟨es,(Below.heap_setCell W1 ⟨pz,4,none⟩ (.int .i64 (wn:Int)) mb hmb).trans g1,g2,g3,fun x hx=>by obtain ⟨ls,y1,y2⟩:=g4 x hx;exact ⟨ls,y1,y2.step k2 n4⟩,g5⟩
  have hnp2:Am.NP K B ({ z with waited:=wn }:Am):=⟨hPH.out.sp,⟨⟨hPH.out.ok.n1,hPH.out.ok.n3,hPH.out.ok.id,hPH.out.ok.ls,hPH.out.ok.cp,hPH.out.ok.pt,hPH.out.ok.se,hPH.out.ok.co⟩,hPH.out.ok.ro⟩⟩
  have dr:Step Nobody (W1.setCell ⟨pz,4,none⟩ (.int .i64 (wn:Int))) o1 (W1.setCell ⟨pz,4,none⟩ (.int .i64 (wn:Int))).drew o1:=(Step.refl Nobody _ o1).drew
  have hst:=hidden (Rn (hn2.step0 dr) hnp2 hK hB)
  have hn3':=hn2.step0 dr
  have e1:=cell_of_block (w:=(W1.setCell ⟨pz,4,none⟩ (.int .i64 (wn:Int))).drew) zb2 0
  have e2:=cell_of_block (w:=(W1.setCell ⟨pz,4,none⟩ (.int .i64 (wn:Int))).drew) b2 4
  have e3:=cell_of_block (w:=(W1.setCell ⟨pz,4,none⟩ (.int .i64 (wn:Int))).drew) b2 0
  simp only [List.getElem?_cons_zero] at e1
  have hS:=And.intro e1 (And.intro (show _ = some (Value.int .i64 (wn:Int)) from e2) (show _ = some (Value.int .i64 (z.id:Int)) from e3))
  have hF2:=hidden (And.intro ((hstH.out.1.mono (T':=InN D M) (fun _ h=>h.elim)).trans ((k2.mono (fun k h=>(show InN D M k by cases h;exact InN.own))).trans (dr.mono (fun _ h=>h.elim)))) hn3')
  have hR2H:=hidden hR2
  clear hb hst0 hs hfr c0 c1 c2 c5 c6 b2 k2 zb2 hn2 hnp2 dr hn3' e1 e2 e3 hR2 hwn hid h1 hR hrr
  go_enter Tryz.func19,Tryz.ntmps19
  go_wp2_with ((with_reducible apply BM);exact hbxH.out;simp only [Act.put,lsa,lsz,lss])
  refine hddH.out.mono ?_;rintro e w' ⟨rfl,rfl⟩
  have hw1:IntKind.i64.wrap (2 * (z.id:Int)) = 2 * (z.id:Int):=by simp [IntKind.wrap,IntKind.bits,IntKind.signed];omega
  have hw2:IntKind.i64.wrap (3 + 2 * (z.id:Int)) = 3 + 2 * (z.id:Int):=by simp [IntKind.wrap,IntKind.bits,IntKind.signed];omega
  by_cases hgt:3 + 2 * z.id < wn
  ·have hgI:(3:Int) + 2 * (z.id:Int) < (wn:Int):=by omega
   rw [if_pos hgt] at hR2H
   go_wp2_with fail
   refine Aa (fun w'=>w'.cell? ⟨zb,0,none⟩ = some (.pointer (some ⟨pz,0,none⟩))∧w'.cell? ⟨pz,4,none⟩ = some (.int .i64 (wn:Int))∧w'.cell? ⟨pz,0,none⟩ = some (.int .i64 (z.id:Int))) (fun _=>true) (by kernel_rfl) hS (fun hHeld => ?_)
   refine tq 0 ?_
   refine tq 1 ?_
   refine tq 2 ?_
   refine tq 3 ?_
   refine tq 4 ?_
   refine tq 5 ?_
   refine tq 6 ?_
   refine tq 7 ?_
   refine tq 8 ?_
   refine tq 9 ?_
   refine tq 10 ?_
   refine Ae (by kernel_rfl) ?_ _
   obtain ⟨e1,e2,e3⟩:=hS
   clear hHeld hw1 hw2
   go_wp2_with fail
   refine hst.out.mono ?_;rintro e w5 ⟨v5,o5,rfl,hs5,hou,hn5⟩
   have hF:=hidden (And.intro (hF2.out.1.trans hs5) (And.intro hou hn5))
   obtain ⟨xa,xc,rfl⟩:=hou.form
   clear hs5 hou hn5 hst
   go_wp2_with fail
   go_ret
   exact ⟨_,o5,rfl,hF.out.1,by rw [hR2H.out];exact hF.out.2.1,by rw [hR2H.out];exact hF.out.2.2⟩
  ·have hgI:decide ((3:Int) + 2 * (z.id:Int) < (wn:Int)) = false:=decide_eq_false (by omega)
   rw [if_neg hgt] at hR2H
   go_wp2_with fail
   refine Aa (fun w'=>w'.cell? ⟨zb,0,none⟩ = some (.pointer (some ⟨pz,0,none⟩))∧w'.cell? ⟨pz,4,none⟩ = some (.int .i64 (wn:Int))∧w'.cell? ⟨pz,0,none⟩ = some (.int .i64 (z.id:Int))) (fun _=>true) (by kernel_rfl) hS (fun hHeld => ?_)
   refine tq 0 ?_
   refine tq 1 ?_
   refine tq 2 ?_
   refine tq 3 ?_
   refine tq 4 ?_
   refine tq 5 ?_
   refine tq 6 ?_
   refine tq 7 ?_
   refine tq 8 ?_
   refine tq 9 ?_
   refine tq 10 ?_
   refine Ae (by kernel_rfl) ?_ _
   clear hHeld hS hst hw1 hw2
   go_wp2_with fail
   go_ret
   exact ⟨_,o1,rfl,hF2.out.1,by rw [hR2H.out];exact Dn.nil _ _,by rw [hR2H.out];exact hF2.out.2⟩
theorem Xf {w:World} {p:Nat} {mine:BitVec 64} (h:w.cell? ⟨p,0,none⟩ = some (.int .u64 (mine.toNat:Int))):Calls Tryz.prog 239 #[.pointer (some ⟨p,0,none⟩)] w fun e w'=>e = .returned (.int .u64 (mine.toNat:Int))∧w = w':=by
 go_enter Tryz.func239,Tryz.ntmps239
 go_wp2_with fail
 go_ret
 exact ⟨rfl,rfl⟩
theorem WP {w:World} {p:Nat} {mine:BitVec 64} (h:w.cell? ⟨p,0,none⟩ = some (.int .u64 (mine.toNat:Int))):Calls Tryz.prog 242 #[.pointer (some ⟨p,0,none⟩)] w fun e w'=>e = .returned (.int .u64 (mine.toNat:Int))∧w = w':=by
 go_enter Tryz.func242,Tryz.ntmps242
 go_wp2_with fail
 go_ret
 exact ⟨rfl,rfl⟩
section
variable {w:World} {o:Own} {D M pz ps pd K B base:Nat} {z:Am}
theorem PX (h:Bc w o D M pz ps pd z) (hp:Am.NP K B z) (hB:B ≤ 90000) (src:Nat) (m:BG) (_hm:m.May) {lv:Value} (hl:Lines w o base lv m.ls) :
  Calls Tryz.prog 101 #[.pointer (some ⟨pz,0,none⟩), .int .i64 (src:Int),Ea m lv] w (Ret (InN D M) w o fun v w' o'=>Dn w' o' v (Ed (z.Cj m).2)∧Bc w' o' D M pz ps pd (z.Cj m).1):=by
 obtain ⟨R,hR⟩:∃ R,z.Cj m = R:=⟨_,rfl⟩
 rw [hR]
 unfold Am.Cj at hR
 obtain ⟨la,lc,hlv⟩:=hl.form
 obtain ⟨n,hn⟩:∃ n,m.ls.length = n:=⟨_,rfl⟩
 rw [hn] at hlv
 subst hlv
 have hn3:z.n ≤ 3:=hp.ok.n3
 have hn1:1 ≤ z.n:=hp.ok.n1
 have hls:En B z.s.kept.lines:=hp.ok.ls
 have hsm:=En.small hls (by omega)
 have s1:=(Step.refl Nobody w o).alloc (.cells (Bf m (.slice la n lc)).toArray 46) (0,0)
 have mb1:=heap_alloc_new w (.cells (Bf m (.slice la n lc)).toArray 46)
 have mo1:=Au o w.heap.size (0,0)
 generalize Ak o w.heap.size (0,0) = o1 at *
 obtain ⟨W1,hW1⟩:∃ W1,w.alloc (.cells (Bf m (.slice la n lc)).toArray 46) = W1:=⟨_,rfl⟩
 rw [hW1] at s1 mb1
 have hbx:(Instr.box 46 (Ea m (.slice la n lc))).run Tryz.prog w = .ok (.pointer (some ⟨w.heap.size,0,none⟩)) W1:=by rw [←hW1];kernel_rfl
 obtain ⟨mb,hmb⟩:∃ b,w.heap.size = b:=⟨_,rfl⟩
 rw [hmb] at mb1 mo1 hbx
 have h1:=h.step0 s1
 have hl1:=hl.step s1 (fun h=>h)
 obtain ⟨-, -,e2, -⟩:=h1.cell
 unfold Ea at hbx ⊢
 have hbxH:=hidden hbx
 obtain ⟨hDM,rv,hb,hro,hst⟩:=id h1
 have hfm:z.BN.follows = (match z.BB with | .follows=>true | _=>false):=rfl
 have hmm:z.BN.mine = (match z.BB with | .follows=>0 | .stands e _=>e | .leads e _ _ _=>e):=rfl
 cases hrr:z.BB with
 | follows =>
  rw [hrr] at hro hfm hmm
  obtain rfl:rv = .iface 115 (.agg #[]):=hro
  have hta:=gZ W1
  have c3:=hb.cells.1.2.2.2.1
  have k2:=(Step.refl Nobody W1 o1).alloc (.cells [].toArray 115) (0,0)
  generalize Ak o1 W1.heap.size (0,0) = o2 at *
  obtain ⟨V,hV⟩:∃ V,(W1.alloc (.cells [].toArray 115)).drew = V:=⟨_,rfl⟩
  have kV:Step Nobody W1 o1 V o2:=by rw [←hV];exact k2.drew
  have hN:=h1.step0 kV
  have mbV:=(kV.block mb (lt_of_block mb1) (fun h=>h)).trans mb1
  have hbV:=hb.step kV (fun h=>h)
  have hS:V.cell? ⟨mb,1,none⟩ = some (.int .u64 (m.e.toNat:Int)):=cell_of_block mbV 1
  rw [←hV] at hS
  have hR2:(z,[]) = R:=by rw [←hR,hfm];rfl
  have hRH:=hidden hR2
  have hF:=hidden (And.intro (s1.trans kV) hN)
  clear hb hst hl1 s1 mb1 mo1 hW1 hmb hbx e2 hls hsm hn3 hn1 k2 kV hN mbV hbV h1 hrr hR hR2 hfm hmm
  go_enter Tryz.func101,Tryz.ntmps101
  go_wp2_with ((with_reducible apply BM);exact hbxH.out;simp only [Act.put,lsa,lsz,lss])
  refine Aa (fun w'=>w'.cell? ⟨mb,1,none⟩ = some (.int .u64 (m.e.toNat:Int))) (fun _=>true) (by kernel_rfl) hS (fun hHeld => ?_)
  rw [hV] at hHeld ⊢
  clear hV hS
  refine tq 0 ?_
  refine tq 1 ?_
  refine tq 2 ?_
  refine ts 3 ?_
  refine ts 4 ?_
  refine ts 5 ?_
  refine ts 6 ?_
  refine ts 7 ?_
  refine ts 8 ?_
  refine ts 9 ?_
  refine ts 10 ?_
  refine tq 11 ?_
  refine Ae (by kernel_rfl) ?_ _
  clear hHeld
  go_wp2_with fail
  go_ret
  refine ⟨_,o2,rfl,hF.out.1.mono (fun _ h=>h.elim), ?_, ?_⟩
  ·rw [←hRH.out];exact Dn.nil _ _
  ·rw [←hRH.out];exact hF.out.2
 | stands mine has =>
  rw [hrr] at hro hfm hmm
  obtain ⟨p,rfl,mk,hp1,hpo,hha⟩:=hro
  have hta:=gX W1 (some ⟨p,0,none⟩)
  have c3:=hb.cells.1.2.2.2.1
  have k2:=(Step.refl Nobody W1 o1).alloc (.cells [].toArray 115) (0,0)
  generalize Ak o1 W1.heap.size (0,0) = o2 at *
  obtain ⟨V,hV⟩:∃ V,(W1.alloc (.cells [].toArray 115)).drew = V:=⟨_,rfl⟩
  have kV:Step Nobody W1 o1 V o2:=by rw [←hV];exact k2.drew
  have hN:=h1.step0 kV
  have mbV:=(kV.block mb (lt_of_block mb1) (fun h=>h)).trans mb1
  have hbV:=hb.step kV (fun h=>h)
  have p0:=cell_of_block ((kV.block p (lt_of_block hp1) (fun h=>h)).trans hp1) 0
  simp only [List.getElem?_cons_zero] at p0
  have hS:=And.intro (show V.cell? ⟨mb,1,none⟩ = some (.int .u64 (m.e.toNat:Int)) from cell_of_block mbV 1) (And.intro hbV.cells.1.2.2.2.1 p0)
  have hep:=hidden (WP p0)
  rw [←hV] at hS
  have hR2:(if mine.toNat < m.e.toNat then z.follow else z,[]) = R:=by
   rw [←hR,hfm,hmm]
   by_cases h:mine.toNat < m.e.toNat <;> simp [h]
  have hF:=hidden (And.intro (s1.trans kV) hN)
  have hfo:=hidden (FD hN)
  clear hb hst hl1 s1 mb1 mo1 hW1 hmb hbx e2 hls hsm hn3 hn1 k2 kV hN mbV hbV h1 hrr hR hfm hmm p0 hp1 hpo hha
  by_cases hlt:mine.toNat < m.e.toNat
  ·rw [if_pos hlt] at hR2
   have hRH:=hidden hR2
   have hltI:(mine.toNat:Int) < (m.e.toNat:Int):=by omega
   clear hR2
   go_enter Tryz.func101,Tryz.ntmps101
   go_wp2_with ((with_reducible apply BM);exact hbxH.out;simp only [Act.put,lsa,lsz,lss])
   refine Aa (fun w'=>w'.cell? ⟨mb,1,none⟩ = some (.int .u64 (m.e.toNat:Int))∧w'.cell? ⟨pz,3,none⟩ = some (.iface 151 (.pointer (some ⟨p,0,none⟩)))∧w'.cell? ⟨p,0,none⟩ = some (.int .u64 (mine.toNat:Int))) (fun _=>true) (by kernel_rfl) hS (fun hHeld => ?_)
   rw [hV] at hHeld ⊢
   clear hV hS
   refine tq 0 ?_
   refine tq 1 ?_
   refine tq 2 ?_
   refine tq 3 ?_
   refine tq 4 ?_
   refine tq 5 ?_
   refine tq 6 ?_
   refine tq 7 ?_
   refine tq 8 ?_
   refine Ac (i:=9) rfl (by kernel_rfl) ?_
   go_wp2_with fail
   generalize hg:Sem.run Tryz.prog (method _ _ _ _) V = res
   have hres:res = .ok (242, .pointer (some ⟨p,0,none⟩)) V:=by rw [←hg];kernel_rfl
   rw [hres]
   clear hg hres
   go_wp2_with fail
   refine hep.out.mono ?_;rintro ex w' ⟨rfl,rfl⟩
   go_wp2_with fail
   refine ⟨fun _=>hHeld, ?_⟩
   refine tq 10 ?_
   refine tq 11 ?_
   refine Ae (by kernel_rfl) ?_ _
   clear hHeld
   go_wp2_with fail
   refine hfo.out.mono ?_;rintro ex W7 ⟨v7,o7,rfl,hs7,rfl,hn7⟩
   have hF7:=hidden (And.intro ((hF.out.1.mono (T':=InN D M) (fun _ h=>h.elim)).trans (hs7.mono (T':=InN D M) (fun k h=>(show InN D M k by cases h;exact InN.own)))) hn7)
   clear hs7 hn7
   go_wp2_with fail
   go_ret
   refine ⟨_,o7,rfl,hF7.out.1, ?_, ?_⟩
   ·rw [←hRH.out];exact Dn.nil _ _
   ·rw [←hRH.out];exact hF7.out.2
  ·rw [if_neg hlt] at hR2
   have hRH:=hidden hR2
   have hltI:¬ (mine.toNat:Int) < (m.e.toNat:Int):=by omega
   clear hR2 hfo
   go_enter Tryz.func101,Tryz.ntmps101
   go_wp2_with ((with_reducible apply BM);exact hbxH.out;simp only [Act.put,lsa,lsz,lss])
   refine Aa (fun w'=>w'.cell? ⟨mb,1,none⟩ = some (.int .u64 (m.e.toNat:Int))∧w'.cell? ⟨pz,3,none⟩ = some (.iface 151 (.pointer (some ⟨p,0,none⟩)))∧w'.cell? ⟨p,0,none⟩ = some (.int .u64 (mine.toNat:Int))) (fun _=>true) (by kernel_rfl) hS (fun hHeld => ?_)
   rw [hV] at hHeld ⊢
   clear hV hS
   refine tq 0 ?_
   refine tq 1 ?_
   refine tq 2 ?_
   refine tq 3 ?_
   refine tq 4 ?_
   refine tq 5 ?_
   refine tq 6 ?_
   refine tq 7 ?_
   refine tq 8 ?_
   refine Ac (i:=9) rfl (by kernel_rfl) ?_
   go_wp2_with fail
   generalize hg:Sem.run Tryz.prog (method _ _ _ _) V = res
   have hres:res = .ok (242, .pointer (some ⟨p,0,none⟩)) V:=by rw [←hg];kernel_rfl
   rw [hres]
   clear hg hres
   go_wp2_with fail
   refine hep.out.mono ?_;rintro ex w' ⟨rfl,rfl⟩
   go_wp2_with fail
   refine ⟨fun _=>hHeld, ?_⟩
   refine tq 10 ?_
   refine tq 11 ?_
   refine Ae (by kernel_rfl) ?_ _
   clear hHeld
   go_wp2_with fail
   go_ret
   refine ⟨_,o2,rfl,hF.out.1.mono (fun _ h=>h.elim), ?_, ?_⟩
   ·rw [←hRH.out];exact Dn.nil _ _
   ·rw [←hRH.out];exact hF.out.2
 | leads mine mat base2 ready =>
  rw [hrr] at hro hfm hmm
  obtain ⟨p,rfl,bk,cap,hp1,hpo,hha⟩:=hro
  have hta:=gY W1 (some ⟨p,0,none⟩)
  have c3:=hb.cells.1.2.2.2.1
  have k2:=(Step.refl Nobody W1 o1).alloc (.cells [].toArray 115) (0,0)
  generalize Ak o1 W1.heap.size (0,0) = o2 at *
  obtain ⟨V,hV⟩:∃ V,(W1.alloc (.cells [].toArray 115)).drew = V:=⟨_,rfl⟩
  have kV:Step Nobody W1 o1 V o2:=by rw [←hV];exact k2.drew
  have hN:=h1.step0 kV
  have mbV:=(kV.block mb (lt_of_block mb1) (fun h=>h)).trans mb1
  have hbV:=hb.step kV (fun h=>h)
  have p0:=cell_of_block ((kV.block p (lt_of_block hp1) (fun h=>h)).trans hp1) 0
  simp only [List.getElem?_cons_zero] at p0
  have hS:=And.intro (show V.cell? ⟨mb,1,none⟩ = some (.int .u64 (m.e.toNat:Int)) from cell_of_block mbV 1) (And.intro hbV.cells.1.2.2.2.1 p0)
  have hep:=hidden (Xf p0)
  rw [←hV] at hS
  have hR2:(if mine.toNat < m.e.toNat then z.follow else z,[]) = R:=by
   rw [←hR,hfm,hmm]
   by_cases h:mine.toNat < m.e.toNat <;> simp [h]
  have hF:=hidden (And.intro (s1.trans kV) hN)
  have hfo:=hidden (FD hN)
  clear hb hst hl1 s1 mb1 mo1 hW1 hmb hbx e2 hls hsm hn3 hn1 k2 kV hN mbV hbV h1 hrr hR hfm hmm p0 hp1 hpo hha
  by_cases hlt:mine.toNat < m.e.toNat
  ·rw [if_pos hlt] at hR2
   have hRH:=hidden hR2
   have hltI:(mine.toNat:Int) < (m.e.toNat:Int):=by omega
   clear hR2
   go_enter Tryz.func101,Tryz.ntmps101
   go_wp2_with ((with_reducible apply BM);exact hbxH.out;simp only [Act.put,lsa,lsz,lss])
   refine Aa (fun w'=>w'.cell? ⟨mb,1,none⟩ = some (.int .u64 (m.e.toNat:Int))∧w'.cell? ⟨pz,3,none⟩ = some (.iface 87 (.pointer (some ⟨p,0,none⟩)))∧w'.cell? ⟨p,0,none⟩ = some (.int .u64 (mine.toNat:Int))) (fun _=>true) (by kernel_rfl) hS (fun hHeld => ?_)
   rw [hV] at hHeld ⊢
   clear hV hS
   refine tq 0 ?_
   refine tq 1 ?_
   refine tq 2 ?_
   refine tq 3 ?_
   refine tq 4 ?_
   refine tq 5 ?_
   refine tq 6 ?_
   refine tq 7 ?_
   refine tq 8 ?_
   refine Ac (i:=9) rfl (by kernel_rfl) ?_
   go_wp2_with fail
   generalize hg:Sem.run Tryz.prog (method _ _ _ _) V = res
   have hres:res = .ok (239, .pointer (some ⟨p,0,none⟩)) V:=by rw [←hg];kernel_rfl
   rw [hres]
   clear hg hres
   go_wp2_with fail
   refine hep.out.mono ?_;rintro ex w' ⟨rfl,rfl⟩
   go_wp2_with fail
   refine ⟨fun _=>hHeld, ?_⟩
   refine tq 10 ?_
   refine tq 11 ?_
   refine Ae (by kernel_rfl) ?_ _
   clear hHeld
   go_wp2_with fail
   refine hfo.out.mono ?_;rintro ex W7 ⟨v7,o7,rfl,hs7,rfl,hn7⟩
   have hF7:=hidden (And.intro ((hF.out.1.mono (T':=InN D M) (fun _ h=>h.elim)).trans (hs7.mono (T':=InN D M) (fun k h=>(show InN D M k by cases h;exact InN.own)))) hn7)
   clear hs7 hn7
   go_wp2_with fail
   go_ret
   refine ⟨_,o7,rfl,hF7.out.1, ?_, ?_⟩
   ·rw [←hRH.out];exact Dn.nil _ _
   ·rw [←hRH.out];exact hF7.out.2
  ·rw [if_neg hlt] at hR2
   have hRH:=hidden hR2
   have hltI:¬ (mine.toNat:Int) < (m.e.toNat:Int):=by omega
   clear hR2 hfo
   go_enter Tryz.func101,Tryz.ntmps101
   go_wp2_with ((with_reducible apply BM);exact hbxH.out;simp only [Act.put,lsa,lsz,lss])
   refine Aa (fun w'=>w'.cell? ⟨mb,1,none⟩ = some (.int .u64 (m.e.toNat:Int))∧w'.cell? ⟨pz,3,none⟩ = some (.iface 87 (.pointer (some ⟨p,0,none⟩)))∧w'.cell? ⟨p,0,none⟩ = some (.int .u64 (mine.toNat:Int))) (fun _=>true) (by kernel_rfl) hS (fun hHeld => ?_)
   rw [hV] at hHeld ⊢
   clear hV hS
   refine tq 0 ?_
   refine tq 1 ?_
   refine tq 2 ?_
   refine tq 3 ?_
   refine tq 4 ?_
   refine tq 5 ?_
   refine tq 6 ?_
   refine tq 7 ?_
   refine tq 8 ?_
   refine Ac (i:=9) rfl (by kernel_rfl) ?_
   go_wp2_with fail
   generalize hg:Sem.run Tryz.prog (method _ _ _ _) V = res
   have hres:res = .ok (239, .pointer (some ⟨p,0,none⟩)) V:=by rw [←hg];kernel_rfl
   rw [hres]
   clear hg hres
   go_wp2_with fail
   refine hep.out.mono ?_;rintro ex w' ⟨rfl,rfl⟩
   go_wp2_with fail
   refine ⟨fun _=>hHeld, ?_⟩
   refine tq 10 ?_
   refine tq 11 ?_
   refine Ae (by kernel_rfl) ?_ _
   clear hHeld
   go_wp2_with fail
   go_ret
   refine ⟨_,o2,rfl,hF.out.1.mono (fun _ h=>h.elim), ?_, ?_⟩
   ·rw [←hRH.out];exact Dn.nil _ _
   ·rw [←hRH.out];exact hF.out.2
end
section
variable {P:Program} {ops:Array Oper} {Q:Exit→Act→World→Prop} {rest:List Oper} {d:Option Nat} {ty:TypeId} {ps:String} {af:Array _} {a:Act} {w w':World}
theorem QO {m k x:Operand} {t:TypeId} (hr:(Instr.mapUpdate t (a.eval m) (a.eval k) (a.eval x)).run P w = .ok () w') (h:wpList P ops Q rest (a.put d undef) w') :
  wpList P ops Q ({ dst:=d,op := .mapUpdate t m k x,type:=ty,pos:=ps,after:=af,guard:=none } :: rest) a w:=
 wpList_plain rfl fun _ hK=>by
  unfold Oper.wp execOp
  simp only [Sem.run_bind,hr,Result.andThen_ok,Sem.run_pure]
  exact hK _ _ h
end
theorem dY {w w':World} {o o':Own} {Z mb src:Nat} {has:List (Option DT)} {es:List Ent} {c:BitVec 64} {lv:Value} {ls:List Ar} (hm:w'.heap[mb]? = some (.map (Bd 0 (es ++ [(src,c,lv)])).toArray (es ++ [(src,c,lv)]).length)) (ho:o' mb = (Z,2))
  (hn:(es.map (·.1)).Nodup) (hno:∀ x ∈ es,x.1 ≠ src) (hent:∀ x ∈ es,∃ ls,has[x.1]? = some (some (x.2.1,ls))∧Lines w o 0 x.2.2 ls) (hall:∀ i p,has[i]? = some (some p)→∃ x ∈ es,x.1 = i)
  (hst:∀ v l,Lines w o 0 v l→Lines w' o' 0 v l) (hsl:src < has.length) (hl:Lines w' o' 0 lv ls):OE w' o' Z mb (has.set src (some (c,ls))):=by
 refine ⟨es ++ [(src,c,lv)],hm,ho, ?_,fun x hx => ?_,fun i p hp => ?_⟩
 ·rw [List.map_append,List.nodup_append]
  refine ⟨hn,by simp, ?_⟩
  intro a ha b hb
  simp only [List.map_cons,List.map_nil,List.mem_singleton] at hb
  subst hb
  obtain ⟨x,hx,rfl⟩:=List.mem_map.1 ha
  exact hno x hx
 ·rcases List.mem_append.1 hx with hx | hx
  ·obtain ⟨ls',h1,h2⟩:=hent x hx
   refine ⟨ls', ?_,hst _ _ h2⟩
   rw [List.getElem?_set_ne (fun h=>hno x hx h.symm)];exact h1
  ·simp only [List.mem_singleton] at hx
   subst hx
   exact ⟨ls,by simp [hsl],hl⟩
 ·by_cases h:src = i
  ·exact ⟨_,List.mem_append_right _ (List.mem_singleton_self _),h⟩
  ·rw [List.getElem?_set_ne h] at hp
   obtain ⟨x,hx,hxi⟩:=hall i p hp
   exact ⟨x,List.mem_append_left _ hx,hxi⟩
section
variable {w:World} {o:Own} {D M pz ps pd K B base:Nat} {z:Am}
theorem Am.NP.promised (h:Am.NP K B z) {mine:BitVec 64} {has:List (Option DT)} (hr:z.BB = .stands mine has) (src:Nat) {c:BitVec 64} {ls:List Ar} (hls:En (B + AP ls) ls) :
  Am.NP K (B + AP ls) { z with BB := .stands mine (has.set src (some (c,ls))) }:=by
 have hm:=h.mono (Nat.le_refl K) (Nat.le_add_right B (AP ls))
 have hro:=hm.ok.ro
 rw [show z.BN.BB = z.BB from rfl,hr] at hro
 obtain ⟨h1,h2,⟨p,h3⟩,h4⟩:=hro
 have hok:=hm.ok
 refine ⟨hm.sp,⟨⟨hok.n1,hok.n3,hok.id,hok.ls,hok.cp,hok.pt,hok.se,hok.co⟩,h1, ?_, ?_, ?_⟩⟩
 ·rw [List.length_set];exact h2
 ·show ∃ p,(has.set src (some (c,ls)))[z.id]? = some (some p)
  by_cases he:src = z.id
  ·rw [he]
   have hl:=(List.getElem?_eq_some_iff.1 h3).1
   exact ⟨(c,ls),List.getElem?_set_self hl⟩
  ·exact ⟨p,by rw [List.getElem?_set_ne he];exact h3⟩
 ·intro q hq
  rcases List.mem_or_eq_of_mem_set hq with h | h
  ·exact h4 q h
  ·cases h;exact hls
theorem OM (h:Bc w o D M pz ps pd z) (hp:Am.NP K B z) (hK:K + 600 < 65536) (src:Nat) (hsrc:src < z.n) (m:BG) (hm:m.May) (hB:B + AP m.ls ≤ 90000) {lv:Value} (hl:Lines w o base lv m.ls) :
  Calls Tryz.prog 100 #[.pointer (some ⟨pz,0,none⟩), .int .i64 (src:Int),Ea m lv] w (Ret (InN D M) w o fun v w' o'=>Dn w' o' v (Ed (z.Bj src m).2)∧Bc w' o' D M pz ps pd (z.Bj src m).1):=by
 obtain ⟨R,hR⟩:∃ R,z.Bj src m = R:=⟨_,rfl⟩
 rw [hR]
 unfold Am.Bj at hR
 obtain ⟨la,lc,hlv⟩:=hl.form
 obtain ⟨n,hn⟩:∃ n,m.ls.length = n:=⟨_,rfl⟩
 rw [hn] at hlv
 subst hlv
 have hn3:z.n ≤ 3:=hp.ok.n3
 have hn1:1 ≤ z.n:=hp.ok.n1
 have hls:En B z.s.kept.lines:=hp.ok.ls
 have hsm:=En.small hls (by omega)
 have s1:=(Step.refl Nobody w o).alloc (.cells (Bf m (.slice la n lc)).toArray 46) (0,0)
 have mb1:=heap_alloc_new w (.cells (Bf m (.slice la n lc)).toArray 46)
 have mo1:=Au o w.heap.size (0,0)
 generalize Ak o w.heap.size (0,0) = o1 at *
 obtain ⟨W1,hW1⟩:∃ W1,w.alloc (.cells (Bf m (.slice la n lc)).toArray 46) = W1:=⟨_,rfl⟩
 rw [hW1] at s1 mb1
 have hbx:(Instr.box 46 (Ea m (.slice la n lc))).run Tryz.prog w = .ok (.pointer (some ⟨w.heap.size,0,none⟩)) W1:=by rw [←hW1];kernel_rfl
 obtain ⟨mb,hmb⟩:∃ b,w.heap.size = b:=⟨_,rfl⟩
 rw [hmb] at mb1 mo1 hbx
 have h1:=h.step0 s1
 have hl1:=hl.step s1 (fun h=>h)
 obtain ⟨-, -,e2, -⟩:=h1.cell
 unfold Ea at hbx ⊢
 have hbxH:=hidden hbx
 obtain ⟨hDM,rv,hb,hro,hst⟩:=id h1
 cases hrr:z.BB with
 | follows =>
  rw [hrr] at hR hro
  obtain rfl:rv = .iface 115 (.agg #[]):=hro
  have hta:=gV W1
  have c3:=hb.cells.1.2.2.2.1
  have hF:=hidden (And.intro s1 h1)
  have hRH:=hidden hR
  have q1:=cell_of_block (w:=W1.drew) mb1 1
  have hS0:W1.drew.cell? ⟨mb,1,none⟩ = some (.int .u64 (m.e.toNat:Int)):=q1
  clear hb hst h1 hl1 s1 mb1 mo1 hW1 hmb hbx e2 hls hsm hn3 hn1 hrr hR q1
  go_enter Tryz.func100,Tryz.ntmps100
  go_wp2_with ((with_reducible apply BM);exact hbxH.out;simp only [Act.put,lsa,lsz,lss])
  refine Aa (fun w'=>w'.cell? ⟨mb,1,none⟩ = some (.int .u64 (m.e.toNat:Int))) (fun _=>true) (by kernel_rfl) hS0 (fun hHeld => ?_)
  refine tq 0 ?_
  refine tq 1 ?_
  refine tq 2 ?_
  refine ts 3 ?_
  refine ts 4 ?_
  refine ts 5 ?_
  refine ts 6 ?_
  refine ts 7 ?_
  refine ts 8 ?_
  refine ts 9 ?_
  refine tq 10 ?_
  refine tq 11 ?_
  refine ts 12 ?_
  refine ts 13 ?_
  refine ts 14 ?_
  refine ts 15 ?_
  refine ts 16 ?_
  refine tq 17 ?_
  refine Ae (by kernel_rfl) ?_ _
  clear hHeld hS0
  go_wp2_with fail
  go_ret
  refine ⟨_,o1,rfl,hF.out.1.drew.mono (fun _ h=>h.elim), ?_, ?_⟩
  ·rw [←hRH.out];exact Dn.nil _ _
  ·rw [←hRH.out];exact hF.out.2.step0 (Step.refl Nobody W1 o1).drew
 | leads mine mat base2 ready =>
  rw [hrr] at hR hro
  obtain ⟨p,rfl,hla⟩:=hro
  clear hla
  have hta:=gU W1 (some ⟨p,0,none⟩)
  have c3:=hb.cells.1.2.2.2.1
  have hF:=hidden (And.intro s1 h1)
  have hRH:=hidden hR
  have q1:=cell_of_block (w:=W1.drew) mb1 1
  have hS0:W1.drew.cell? ⟨mb,1,none⟩ = some (.int .u64 (m.e.toNat:Int)):=q1
  clear hb hst h1 hl1 s1 mb1 mo1 hW1 hmb hbx e2 hls hsm hn3 hn1 hrr hR q1
  go_enter Tryz.func100,Tryz.ntmps100
  go_wp2_with ((with_reducible apply BM);exact hbxH.out;simp only [Act.put,lsa,lsz,lss])
  refine Aa (fun w'=>w'.cell? ⟨mb,1,none⟩ = some (.int .u64 (m.e.toNat:Int))) (fun _=>true) (by kernel_rfl) hS0 (fun hHeld => ?_)
  refine tq 0 ?_
  refine tq 1 ?_
  refine tq 2 ?_
  refine ts 3 ?_
  refine ts 4 ?_
  refine ts 5 ?_
  refine ts 6 ?_
  refine ts 7 ?_
  refine ts 8 ?_
  refine ts 9 ?_
  refine tq 10 ?_
  refine tq 11 ?_
  refine ts 12 ?_
  refine ts 13 ?_
  refine ts 14 ?_
  refine ts 15 ?_
  refine ts 16 ?_
  refine tq 17 ?_
  refine Ae (by kernel_rfl) ?_ _
  clear hHeld hS0
  go_wp2_with fail
  go_ret
  refine ⟨_,o1,rfl,hF.out.1.drew.mono (fun _ h=>h.elim), ?_, ?_⟩
  ·rw [←hRH.out];exact Dn.nil _ _
  ·rw [←hRH.out];exact hF.out.2.step0 (Step.refl Nobody W1 o1).drew
 | stands mine has =>
  rw [hrr] at hR hro
  obtain ⟨p,rfl,mk,hp1,hpo,hha⟩:=hro
  have hta:=gQ W1 (some ⟨p,0,none⟩)
  have c3:=hb.cells.1.2.2.2.1
  obtain ⟨V,hV⟩:∃ V,W1.drew = V:=⟨_,rfl⟩
  have kV:Step Nobody W1 o1 V o1:=by rw [←hV];exact (Step.refl Nobody W1 o1).drew
  have hN:=h1.step0 kV
  have mbV:=(kV.block mb (lt_of_block mb1) (fun h=>h)).trans mb1
  have p0:=cell_of_block ((kV.block p (lt_of_block hp1) (fun h=>h)).trans hp1) 0
  simp only [List.getElem?_cons_zero] at p0
  have hS:=And.intro (show V.cell? ⟨mb,1,none⟩ = some (.int .u64 (m.e.toNat:Int)) from cell_of_block mbV 1) (And.intro (show V.cell? ⟨mb,2,none⟩ = some (.int .u64 (m.c.toNat:Int)) from cell_of_block mbV 2) p0)
  rw [←hV] at hS
  have hF:=hidden (And.intro (s1.trans kV) hN)
  simp only at hR
  by_cases hme:mine = m.e
  ·have hmeI:(mine.toNat:Int) = (m.e.toNat:Int):=by rw [hme]
   by_cases hce:m.e.toNat ≤ m.c.toNat
   ·rw [if_pos (.inr hce)] at hR
    have hceI:(m.e.toNat:Int) ≤ (m.c.toNat:Int):=by omega
    have hRH:=hidden hR
    clear hb hst hl1 s1 mb1 mo1 hW1 hmb hbx e2 hls hsm hn3 hn1 kV hN mbV h1 hrr hR p0 hp1 hpo hha hme hce
    go_enter Tryz.func100,Tryz.ntmps100
    go_wp2_with ((with_reducible apply BM);exact hbxH.out;simp only [Act.put,lsa,lsz,lss])
    refine Aa (fun w'=>w'.cell? ⟨mb,1,none⟩ = some (.int .u64 (m.e.toNat:Int))∧w'.cell? ⟨mb,2,none⟩ = some (.int .u64 (m.c.toNat:Int))∧w'.cell? ⟨p,0,none⟩ = some (.int .u64 (mine.toNat:Int))) (fun _=>true) (by kernel_rfl) hS (fun hHeld => ?_)
    rw [hV] at hHeld ⊢
    clear hV hS
    refine tq 0 ?_
    refine tq 1 ?_
    refine tq 2 ?_
    refine tq 3 ?_
    refine tq 4 ?_
    refine tq 5 ?_
    refine tq 6 ?_
    refine tq 7 ?_
    refine tq 8 ?_
    refine tq 9 ?_
    refine tq 10 ?_
    refine tq 11 ?_
    refine tq 12 ?_
    refine tq 13 ?_
    refine tq 14 ?_
    refine tq 15 ?_
    refine tq 16 ?_
    refine tq 17 ?_
    refine Ae (by kernel_rfl) ?_ _
    clear hHeld
    go_wp2_with fail
    go_ret
    refine ⟨_,o1,rfl,hF.out.1.mono (fun _ h=>h.elim), ?_, ?_⟩
    ·rw [←hRH.out];exact Dn.nil _ _
    ·rw [←hRH.out];exact hF.out.2
   ·have hceI:¬ (m.e.toNat:Int) ≤ (m.c.toNat:Int):=by omega
    have hro2:=hp.ok.ro
    rw [show z.BN.BB = z.BB from rfl,hrr] at hro2
    obtain ⟨-,hhl, -, -⟩:=hro2
    have hhl:has.length = z.n:=hhl
    have hsl:src < has.length:=by rw [hhl];exact hsrc
    have hcc:∀ W O,Step Nobody V o1 W O→W.cell? ⟨p,1,none⟩ = some (.map (some mk))∧W.cell? ⟨mb,2,none⟩ = some (.int .u64 (m.c.toNat:Int))∧W.cell? ⟨mb,5,none⟩ = some (.slice la n lc):=by
     intro W O hJ
     have g1:=cell_of_block (((kV.trans hJ).block p (lt_of_block hp1) (fun h=>h)).trans hp1) 1
     simp only [List.getElem?_cons_zero,List.getElem?_cons_succ] at g1
     have g2:=(hJ.block mb (lt_of_block mbV) (fun h=>h)).trans mbV
     exact ⟨g1,cell_of_block g2 2,cell_of_block g2 5⟩
    have cV:=(hcc V o1 (Step.refl _ _ _)).1
    have hha0:=hha
    obtain ⟨es,g1,g2,g3,g4,g5⟩:=hha
    have g1V:=(kV.block mk (lt_of_block g1) (fun h=>h)).trans g1
    have g4V:∀ x ∈ es,∃ ls,has[x.1]? = some (some (x.2.1,ls))∧Lines V o1 0 x.2.2 ls:=fun x hx=>by obtain ⟨ls,a,b⟩:=g4 x hx;exact ⟨ls,a,b.step kV (fun h=>h)⟩
    have hpV:=(kV.block p (lt_of_block hp1) (fun h=>h)).trans hp1
    have hbV:=hb.step kV (fun h=>h)
    have hstV:=hst.step0 kV
    have hlV:=hl1.step kV (fun h=>h)
    have pal:=AB (P:=Tryz.prog) V 153 _ Zn
    cases hg:has.getD src none with
    | some q =>
     rw [hg] at hR
     simp only [Option.isSome_some,if_true] at hR
     have hz:({ z with BB := .stands mine has }:Am) = z:=by rw [←hrr]
     rw [if_neg (fun h=>h.elim (fun h=>h hme) hce),hz] at hR
     have hq:has[src]? = some (some q):=by
      rw [List.getD_eq_getElem?_getD,List.getElem?_eq_getElem hsl] at hg
      simp only [Option.getD_some] at hg
      rw [List.getElem?_eq_getElem hsl,hg]
     obtain ⟨x,hx,hxs⟩:=g5 src q hq
     obtain ⟨xls, -,hxL⟩:=g4V x hx
     obtain ⟨xa,xc,hxv⟩:=hxL.form
     have hlk:=SK g1V g3 hx
     rw [hxs,hxv] at hlk
     have pst:=PG V (x.2.1.toNat:Int) xa xls.length xc
     have k4:=(Step.refl Nobody V o1).alloc (.cells [.int .u64 (x.2.1.toNat:Int), .slice xa xls.length xc].toArray 153) (0,0)
     generalize Ak o1 V.heap.size (0,0) = o4 at *
     obtain ⟨W4,hW4⟩:∃ W4,V.alloc (.cells [.int .u64 (x.2.1.toNat:Int), .slice xa xls.length xc].toArray 153) = W4:=⟨_,rfl⟩
     rw [hW4] at k4 pst
     have hsn:Qx W4 o4 D M pz ps pd p z mine has:=⟨hDM,hbV.step k4 (fun h=>h),⟨mk,(k4.block p (lt_of_block hpV) (fun h=>h)).trans hpV,(k4.own p (lt_of_block hpV)).trans hpo,(hha0.step (kV.trans k4) (fun h=>h) (fun h=>h))⟩,hstV.step0 k4⟩
     have hle:=hidden (lead_any hsn hrr hp hK (by omega))
     have hF4:=hidden ((s1.trans kV).trans k4)
     have hRH:=hidden hR
     have hlkH:=hidden hlk
     have palH:=hidden pal
     have pstH:=hidden pst
     clear hb hst hl1 s1 mb1 mo1 hW1 hmb hbx e2 hls hsm hn3 hn1 kV hN mbV h1 hrr hR p0 hp1 hpo hha0 hme hce hcc g1 g2 g3 g4 g5 g1V g4V hpV hbV hstV hlV pal hlk pst k4 hW4 hsn hz hq hx hxs hxL hxv hg hhl hsl
     go_enter Tryz.func100,Tryz.ntmps100
     go_wp2_with ((with_reducible apply BM);exact hbxH.out;simp only [Act.put,lsa,lsz,lss])
     refine Aa (fun w'=>w'.cell? ⟨mb,1,none⟩ = some (.int .u64 (m.e.toNat:Int))∧w'.cell? ⟨mb,2,none⟩ = some (.int .u64 (m.c.toNat:Int))∧w'.cell? ⟨p,0,none⟩ = some (.int .u64 (mine.toNat:Int))) (fun _=>true) (by kernel_rfl) hS (fun hHeld => ?_)
     rw [hV] at hHeld ⊢
     clear hV hS
     refine tq 0 ?_
     refine tq 1 ?_
     refine tq 2 ?_
     refine tq 3 ?_
     refine tq 4 ?_
     refine tq 5 ?_
     refine tq 6 ?_
     refine tq 7 ?_
     refine tq 8 ?_
     refine tq 9 ?_
     refine tq 10 ?_
     refine tq 11 ?_
     refine tq 12 ?_
     refine tq 13 ?_
     refine tq 14 ?_
     refine tq 15 ?_
     refine tq 16 ?_
     refine tq 17 ?_
     refine Ae (by kernel_rfl) ?_ _
     clear hHeld
     go_wp2_with (first
      | ((with_reducible apply DN);exact hlkH.out;simp only [Act.put,lsa,lsz,lss])
      | ((with_reducible apply AU);exact palH.out;simp only [Act.put,lsa,lsz,lss])
      | ((with_reducible apply AC);exact pstH.out;simp only [Act.put]))
     refine hle.out.mono ?_;rintro ex W5 ⟨v5,o5,rfl,hs5,hou,hn5⟩
     have hF5:=hidden (And.intro ((hF4.out.mono (T':=InN D M) (fun _ h=>h.elim)).trans hs5) (And.intro hou hn5))
     obtain ⟨ya,yc,rfl⟩:=hou.form
     clear hs5 hou hn5 hle
     go_wp2_with fail
     go_ret
     refine ⟨_,o5,rfl,hF5.out.1, ?_, ?_⟩
     ·rw [←hRH.out];exact hF5.out.2.1
     ·rw [←hRH.out];exact hF5.out.2.2
    | none =>
     rw [hg] at hR
     simp only [Option.isSome_none,Bool.false_eq_true,if_false] at hR
     rw [if_neg (fun h=>h.elim (fun h=>h hme) hce)] at hR
     have hno:∀ x ∈ es,x.1 ≠ src:=by
      intro x hx he
      obtain ⟨ls',h1, -⟩:=g4 x hx
      rw [he] at h1
      rw [List.getD_eq_getElem?_getD,h1] at hg
      simp at hg
     have hlk:=UE g1V hno
     have pst:=PG V 0 none 0 0
     have k4:=(Step.refl Nobody V o1).alloc (.cells [.int .u64 0, .slice none 0 0].toArray 153) (0,0)
     generalize Ak o1 V.heap.size (0,0) = o4 at *
     obtain ⟨W4,hW4⟩:∃ W4,V.alloc (.cells [Value.int .u64 0, .slice none 0 0].toArray 153) = W4:=⟨_,rfl⟩
     rw [hW4] at k4 pst
     have hW4':V.alloc (.cells #[Value.int .u64 0, .slice none 0 0] 153) = W4:=hW4
     rw [hW4'] at pal
     obtain ⟨V6,hV6⟩:∃ V,W4.drew = V:=⟨_,rfl⟩
     have k6:Step Nobody V o1 V6 o4:=by rw [←hV6];exact k4.drew
     have c6:=hcc V6 o4 k6
     rw [←hV6] at c6
     have g16:=(k6.block mk (lt_of_block g1V) (fun h=>h)).trans g1V
     have g26:o4 mk = (M + 4,2):=by rw [k6.own mk (lt_of_block g1V)];exact g2
     have hput:=Md g16 hno m.c (.slice la n lc)
     have kk:=(Step.refl (Only (M + 4)) V6 o4).DR mk (.map (Bd 0 (es ++ [(src,m.c,Value.slice la n lc)])).toArray (es ++ [(src,m.c,Value.slice la n lc)]).length) (.inl (by rw [g26];rfl))
     have n4:¬ Only (M + 4) 0:=fun h=>by unfold Only at h;omega
     have hhp:OE _ o4 (M + 4) mk (has.set src (some (m.c,m.ls))):=dY (w:=V6) (o:=o4) (Ot (lt_of_block g16)) g26 g3 hno (fun x hx=>by obtain ⟨ls,a,b⟩:=g4V x hx;exact ⟨ls,a,b.step k6 (fun h=>h)⟩) (fun i p hp=>g5 i p hp) (fun v l h=>h.step kk n4) hsl ((hlV.step k6 (fun h=>h)).step kk n4 |>.low (Nat.zero_le _))
     have po6:o4 p = (M + 4,1):=(k6.own p (lt_of_block hpV)).trans hpo
     have hmp:mk ≠ p:=fun h=>by rw [h,po6] at g26;cases g26
     have hmz:mk ≠ pz:=fun h=>by have:=(hbV.step k6 (fun h=>h)).2;rw [←h,g26] at this;cases this
     have hsn:Qx (DR V6 mk (.map (Bd 0 (es ++ [(src,m.c,Value.slice la n lc)])).toArray (es ++ [(src,m.c,Value.slice la n lc)]).length)) o4 D M pz ps pd p ({ z with BB := .stands mine (has.set src (some (m.c,m.ls))) }:Am) mine (has.set src (some (m.c,m.ls))):=
      ⟨hDM,⟨(JS hmz).trans (hbV.step k6 (fun h=>h)).1,(hbV.step k6 (fun h=>h)).2⟩,⟨mk,(JS hmp).trans ((k6.block p (lt_of_block hpV) (fun h=>h)).trans hpV),po6,hhp⟩,(hstV.step0 k6).step kk (InN.self hDM.1)⟩
     obtain ⟨W7,hW7⟩:∃ x,DR V6 mk (.map (Bd 0 (es ++ [(src,m.c,Value.slice la n lc)])).toArray (es ++ [(src,m.c,Value.slice la n lc)]).length) = x:=⟨_,rfl⟩
     rw [hW7] at hput kk hsn
     have hle:=hidden (lead_any hsn rfl (hp.promised hrr src ⟨hm.n1,hm.hl,Nat.le_add_left _ _⟩) hK hB)
     have hF4:=hidden ((((s1.trans kV).trans k6).mono (T':=InN D M) (fun _ h=>h.elim)).trans (kk.mono (T':=InN D M) (fun k h=>(show InN D M k by cases h;exact InN.own))))
     have hRH:=hidden hR
     have hlkH:=hidden hlk
     have palH:=hidden pal
     have pstH:=hidden pst
     have hputH:=hidden hput
     clear hb hst hl1 s1 mb1 mo1 hW1 hmb hbx e2 hls hsm hn3 hn1 kV hN mbV h1 hrr hR p0 hp1 hpo hha0 hme hce hcc g1 g2 g3 g4 g5 g1V g4V hpV hbV hstV hlV pal hlk pst k4 hW4 hW4' hsn hg hhl hsl k6 g16 g26 hput kk n4 hhp po6 hmp hmz hno hW7
     go_enter Tryz.func100,Tryz.ntmps100
     go_wp2_with ((with_reducible apply BM);exact hbxH.out;simp only [Act.put,lsa,lsz,lss])
     refine Aa (fun w'=>w'.cell? ⟨mb,1,none⟩ = some (.int .u64 (m.e.toNat:Int))∧w'.cell? ⟨mb,2,none⟩ = some (.int .u64 (m.c.toNat:Int))∧w'.cell? ⟨p,0,none⟩ = some (.int .u64 (mine.toNat:Int))) (fun _=>true) (by kernel_rfl) hS (fun hHeld => ?_)
     rw [hV] at hHeld ⊢
     clear hV hS
     refine tq 0 ?_
     refine tq 1 ?_
     refine tq 2 ?_
     refine tq 3 ?_
     refine tq 4 ?_
     refine tq 5 ?_
     refine tq 6 ?_
     refine tq 7 ?_
     refine tq 8 ?_
     refine tq 9 ?_
     refine tq 10 ?_
     refine tq 11 ?_
     refine tq 12 ?_
     refine tq 13 ?_
     refine tq 14 ?_
     refine tq 15 ?_
     refine tq 16 ?_
     refine tq 17 ?_
     refine Ae (by kernel_rfl) ?_ _
     clear hHeld
     go_wp2_with (first
      | ((with_reducible apply DN);exact hlkH.out;simp only [Act.put,lsa,lsz,lss])
      | ((with_reducible apply AU);exact palH.out;simp only [Act.put,lsa,lsz,lss])
      | ((with_reducible apply AC);exact pstH.out;simp only [Act.put]))
     refine Aa (fun w'=>w'.cell? ⟨p,1,none⟩ = some (.map (some mk))∧w'.cell? ⟨mb,2,none⟩ = some (.int .u64 (m.c.toNat:Int))∧w'.cell? ⟨mb,5,none⟩ = some (.slice la n lc)) (fun i=>decide (i < 10)) (by kernel_rfl) c6 (fun hHeld => ?_)
     rw [hV6] at hHeld ⊢
     clear hV6 c6
     refine tq 0 ?_
     refine tq 1 ?_
     refine tq 2 ?_
     refine tq 3 ?_
     refine tq 4 ?_
     refine tq 5 ?_
     refine tq 6 ?_
     refine tq 7 ?_
     refine tq 8 ?_
     refine tq 9 ?_
     refine Ac (i:=10) rfl (by kernel_rfl) ?_
     refine QO hputH.out ?_
     go_wp2_with fail
     refine ⟨fun h=>by simp at h, ?_⟩
     refine Ae (by kernel_rfl) ?_ _
     clear cV
     go_wp2_with fail
     refine hle.out.mono ?_;rintro ex W5 ⟨v5,o5,rfl,hs5,hou,hn5⟩
     have hF5:=hidden (And.intro (hF4.out.trans hs5) (And.intro hou hn5))
     obtain ⟨ya,yc,rfl⟩:=hou.form
     clear hs5 hou hn5 hle
     go_wp2_with fail
     go_ret
     refine ⟨_,o5,rfl,hF5.out.1, ?_, ?_⟩
     ·rw [←hRH.out];exact hF5.out.2.1
     ·rw [←hRH.out];exact hF5.out.2.2
  ·rw [if_pos (.inl hme)] at hR
   have hmeI:¬ (mine.toNat:Int) = (m.e.toNat:Int):=fun h=>hme (BitVec.eq_of_toNat_eq (by omega))
   have hmeN:¬ mine.toNat = m.e.toNat:=fun h=>hme (BitVec.eq_of_toNat_eq h)
   have hRH:=hidden hR
   clear hb hst hl1 s1 mb1 mo1 hW1 hmb hbx e2 hls hsm hn3 hn1 kV hN mbV h1 hrr hR p0 hp1 hpo hha
   go_enter Tryz.func100,Tryz.ntmps100
   go_wp2_with ((with_reducible apply BM);exact hbxH.out;simp only [Act.put,lsa,lsz,lss])
   refine Aa (fun w'=>w'.cell? ⟨mb,1,none⟩ = some (.int .u64 (m.e.toNat:Int))∧w'.cell? ⟨mb,2,none⟩ = some (.int .u64 (m.c.toNat:Int))∧w'.cell? ⟨p,0,none⟩ = some (.int .u64 (mine.toNat:Int))) (fun _=>true) (by kernel_rfl) hS (fun hHeld => ?_)
   rw [hV] at hHeld ⊢
   clear hV hS
   refine tq 0 ?_
   refine tq 1 ?_
   refine tq 2 ?_
   refine tq 3 ?_
   refine tq 4 ?_
   refine tq 5 ?_
   refine tq 6 ?_
   refine tq 7 ?_
   refine tq 8 ?_
   refine tv 9 (.bool true) (hy:=fun w hSw=>by (try dsimp only at hSw);go_simp) (h := ?_)
   refine tq 10 ?_
   refine tq 11 ?_
   refine ts 12 ?_
   refine ts 13 ?_
   refine ts 14 ?_
   refine ts 15 ?_
   refine ts 16 ?_
   refine tq 17 ?_
   refine Ae (by kernel_rfl) ?_ _
   clear hHeld
   go_wp2_with fail
   go_ret
   refine ⟨_,o1,rfl,hF.out.1.mono (fun _ h=>h.elim), ?_, ?_⟩
   ·rw [←hRH.out];exact Dn.nil _ _
   ·rw [←hRH.out];exact hF.out.2
end
section
variable {w:World} {o:Own} {D M pz ps pd K B base:Nat} {z:Am}
theorem PZ (h:Bc w o D M pz ps pd z) (hp:Am.NP K B z) (hK:K + 600 < 65536) (src:Nat) (m:BG) (hm:m.May) (hB:B + AP m.ls ≤ 90000) {lv:Value} (hl:Lines w o base lv m.ls) :
  Calls Tryz.prog 103 #[.pointer (some ⟨pz,0,none⟩), .int .i64 (src:Int),Ea m lv] w (Ret (InN D M) w o fun v w' o'=>Dn w' o' v (Ed (z.BF src m).2)∧Bc w' o' D M pz ps pd (z.BF src m).1):=by
 obtain ⟨R,hR⟩:∃ R,z.BF src m = R:=⟨_,rfl⟩
 rw [hR]
 unfold Am.BF at hR
 obtain ⟨la,lc,hlv⟩:=hl.form
 obtain ⟨n,hn⟩:∃ n,m.ls.length = n:=⟨_,rfl⟩
 rw [hn] at hlv
 subst hlv
 have hn3:z.n ≤ 3:=hp.ok.n3
 have hn1:1 ≤ z.n:=hp.ok.n1
 have hls:En B z.s.kept.lines:=hp.ok.ls
 have hsm:=En.small hls (by omega)
 have s1:=(Step.refl Nobody w o).alloc (.cells (Bf m (.slice la n lc)).toArray 46) (0,0)
 have mb1:=heap_alloc_new w (.cells (Bf m (.slice la n lc)).toArray 46)
 have mo1:=Au o w.heap.size (0,0)
 generalize Ak o w.heap.size (0,0) = o1 at *
 obtain ⟨W1,hW1⟩:∃ W1,w.alloc (.cells (Bf m (.slice la n lc)).toArray 46) = W1:=⟨_,rfl⟩
 rw [hW1] at s1 mb1
 have hbx:(Instr.box 46 (Ea m (.slice la n lc))).run Tryz.prog w = .ok (.pointer (some ⟨w.heap.size,0,none⟩)) W1:=by rw [←hW1];kernel_rfl
 obtain ⟨mb,hmb⟩:∃ b,w.heap.size = b:=⟨_,rfl⟩
 rw [hmb] at mb1 mo1 hbx
 have h1:=h.step0 s1
 have hl1:=hl.step s1 (fun h=>h)
 obtain ⟨-, -,e2, -⟩:=h1.cell
 unfold Ea at hbx ⊢
 have hbxH:=hidden hbx
 have hkp:=hidden (DJ h1.store hsm)
 have hA:=hidden (And.intro s1 (And.intro mb1 (And.intro mo1 (And.intro h1 hl1))))
 have hPH:=hidden hp
 have hmH:=hidden hm
 have hI:=hidden (And.intro hn3 (And.intro hn1 (And.intro hls hsm)))
 have hnH:=hidden hn
 clear s1 mb1 mo1 h1 hl1 hW1 hmb hbx h hl hp hm hn3 hn1 hls hsm hn
 go_enter Tryz.func103,Tryz.ntmps103
 go_wp2_with ((with_reducible apply BM);exact hbxH.out;simp only [Act.put,lsa,lsz,lss])
 refine hkp.out.mono ?_;rintro ex w2 ⟨v2,o2,rfl,hs2,lk,rfl,hlk,rfl⟩
 obtain ⟨ka,kc,rfl⟩:=hlk.form
 obtain ⟨L,hL⟩:∃ L,z.s.kept.lines.length = L:=⟨_,rfl⟩
 have kal:=AB (P:=Tryz.prog) w2 55 _ OZ
 have kst:=MX w2 z.s.kept.promised z.s.kept.current ka L kc
 have k3:=(Step.refl Nobody w2 (ext W1 o1)).alloc (.cells (BR z.s.kept.promised z.s.kept.current (.slice ka L kc)).toArray 55) (0,0)
 have kb3:=heap_alloc_new w2 (.cells (BR z.s.kept.promised z.s.kept.current (.slice ka L kc)).toArray 55)
 have ko3:=Au (ext W1 o1) w2.heap.size (0,0)
 generalize Ak (ext W1 o1) w2.heap.size (0,0) = o3 at *
 obtain ⟨W3,hW3⟩:∃ W3,w2.alloc (.cells (BR z.s.kept.promised z.s.kept.current (.slice ka L kc)).toArray 55) = W3:=⟨_,rfl⟩
 rw [hW3] at kst k3 kb3
 obtain ⟨kb,hkb⟩:∃ b,w2.heap.size = b:=⟨_,rfl⟩
 rw [hkb] at kal kst kb3 ko3
 obtain ⟨s1,mb1,mo1,h1,hl1⟩:=hA.out
 have k13:=hs2.trans k3
 have h3:=h1.step0 k13
 have mb3:=(k13.block _ (lt_of_block mb1) (fun h=>h)).trans mb1
 have mo3:=(k13.own _ (lt_of_block mb1)).trans mo1
 have hl3:=hl1.step k13 (fun h=>h)
 have hlk3:=(hlk.step k3 (fun h=>h)).low (Nat.zero_le _)
 have st3:=s1.trans k13
 rw [hL] at hlk3
 obtain ⟨m0,m1,m2,m3,m4,m5⟩:=Gt mb3
 have kc0:=cell_of_block kb3 0
 have kc1:=cell_of_block kb3 1
 have kc2:=cell_of_block kb3 2
 simp only [BR,List.getElem?_cons_zero,List.getElem?_cons_succ] at kc0 kc1 kc2
 have how:=hidden (PM h3 hI.out.2.1 hI.out.1 src m.e)
 have hQ:=hidden (And.intro st3 (And.intro mb3 (And.intro mo3 (And.intro h3 (And.intro hl3 (And.intro kb3 (And.intro ko3 hlk3)))))))
 have kalH:=hidden kal
 have kstH:=hidden kst
 rw [hL]
 clear hs2 hlk kal kst k3 kb3 ko3 hW3 hkb s1 mb1 mo1 h1 hl1 k13 h3 mb3 mo3 hl3 hlk3 st3 hkp e2
 go_wp2_with (first
  | ((with_reducible apply AU);exact kalH.out;simp only [Act.put,lsa,lsz,lss])
  | ((with_reducible apply AC);exact kstH.out;simp only [Act.put]))
 refine how.out.mono ?_;rintro ex w' ⟨rfl,rfl⟩
 cases ho:z.BN.owns src m.e with
 | false =>
  rw [ho] at hR
  simp only [Bool.not_false,if_true] at hR
  have hRH:=hidden hR
  clear ho hR
  go_wp2_with fail
  go_ret
  refine ⟨_,o3,rfl,hQ.out.1.mono (fun _ h=>h.elim), ?_, ?_⟩
  ·rw [←hRH.out];exact Dn.nil _ _
  ·rw [←hRH.out];exact hQ.out.2.2.2.1
 | true =>
  rw [ho] at hR
  simp only [Bool.not_true,Bool.false_eq_true,if_false] at hR
  clear ho
  have hpt:z.s.kept.promised.toNat ≤ 281474976710656:=hPH.out.ok.pt
  by_cases hle:m.e.toNat < z.s.kept.promised.toNat
  ·rw [if_pos hle] at hR
   have hRH:=hidden hR
   have hleI:(m.e.toNat:Int) < (z.s.kept.promised.toNat:Int):=by omega
   have hrf:=hidden (Lt hQ.out.2.2.2.1 hI.out.2.2.2 (by have:=hmH.out.e1;omega) hpt src)
   clear hR
   go_wp2_with fail
   refine hrf.out.mono ?_;rintro ex w4 ⟨v4,o4,rfl,hs4,hou⟩
   have hF:=hidden (And.intro (hQ.out.1.trans hs4) (And.intro hou (hQ.out.2.2.2.1.step0 hs4)))
   obtain ⟨xa,xc,rfl⟩:=hou.form
   clear hs4 hou hrf
   go_wp2_with fail
   go_ret
   refine ⟨_,o4,rfl,hF.out.1.mono (fun _ h=>h.elim), ?_, ?_⟩
   ·rw [←hRH.out];exact hF.out.2.1
   ·rw [←hRH.out];exact hF.out.2.2
  ·rw [if_neg hle] at hR
   have hleI:¬ (m.e.toNat:Int) < (z.s.kept.promised.toNat:Int):=by omega
   by_cases hpc:z.s.kept.promised ≠ m.e ∨ z.s.kept.current ≠ m.e
   ·rw [if_pos hpc] at hR
    have hRH:=hidden hR
    clear hR
    by_cases hp1:z.s.kept.promised = m.e
    ·have hcI:¬ (z.s.kept.current.toNat:Int) = (m.e.toNat:Int):=fun h=>(hpc.resolve_left (fun h=>h hp1)) (BitVec.eq_of_toNat_eq (by omega))
     have hpI:(z.s.kept.promised.toNat:Int) = (m.e.toNat:Int):=by rw [hp1]
     clear hpc hp1
     go_wp2_with fail
     go_ret
     refine ⟨_,o3,rfl,hQ.out.1.mono (fun _ h=>h.elim), ?_, ?_⟩
     ·rw [←hRH.out];exact Dn.nil _ _
     ·rw [←hRH.out];exact hQ.out.2.2.2.1
    ·have hpI:¬ (z.s.kept.promised.toNat:Int) = (m.e.toNat:Int):=fun h=>hp1 (BitVec.eq_of_toNat_eq (by omega))
     clear hpc hp1
     go_wp2_with fail
     go_ret
     refine ⟨_,o3,rfl,hQ.out.1.mono (fun _ h=>h.elim), ?_, ?_⟩
     ·rw [←hRH.out];exact Dn.nil _ _
     ·rw [←hRH.out];exact hQ.out.2.2.2.1
   ·rw [if_neg hpc] at hR
    have hpI:(z.s.kept.promised.toNat:Int) = (m.e.toNat:Int):=by
     by_cases h:z.s.kept.promised = m.e
     ·rw [h]
     ·exact absurd (.inl h) hpc
    have hcI:(z.s.kept.current.toNat:Int) = (m.e.toNat:Int):=by
     by_cases h:z.s.kept.current = m.e
     ·rw [h]
     ·exact absurd (.inr h) hpc
    clear hpc
    have hfo:=hidden (FD hQ.out.2.2.2.1)
    rw [hL] at hR
    go_wp2_with fail
    refine hfo.out.mono ?_;rintro ex W7 ⟨v7,o7,rfl,hs7,rfl,hn7⟩
    have n4:¬ Only (M + 4) 0:=fun h=>by unfold Only at h;omega
    obtain ⟨st3,mb3,mo3,h3,hl3,kb3,ko3,hlk3⟩:=hQ.out
    have mb7:=(hs7.block mb (lt_of_block mb3) (by rw [mo3];exact n4)).trans mb3
    have kb7:=(hs7.block kb (lt_of_block kb3) (by rw [ko3];exact n4)).trans kb3
    have mo7:(o7 mb).1 = 0:=by rw [hs7.own mb (lt_of_block mb3),mo3]
    have hl7:=hl3.step hs7 n4
    have st7:=(st3.mono (T':=InN D M) (fun _ h=>h.elim)).trans (hs7.mono (T':=InN D M) (fun k h=>(show InN D M k by cases h;exact InN.own)))
    obtain ⟨m0',m1',m2',m3',m4',m5'⟩:=Gt mb7
    have k2':=cell_of_block kb7 2
    simp only [BR,List.getElem?_cons_zero,List.getElem?_cons_succ] at k2'
    have haI:(0:Int) ≤ (m.at':Int)∧(m.at':Int) ≤ 256:=by have:=hmH.out.a1;omega
    have hLI:(0:Int) ≤ (L:Int)∧(L:Int) ≤ 256:=by have:=hI.out.2.2.1.n;omega
    have hnI:(0:Int) ≤ (n:Int)∧(n:Int) ≤ 256:=by have:=hmH.out.n1;have:=hnH.out;omega
    have hG7:=hidden (And.intro st7 (And.intro hn7 (And.intro mb7 (And.intro mo7 hl7))))
    clear hs7 hn7 st3 mb3 mo3 h3 hl3 kb3 ko3 hlk3 mb7 kb7 mo7 hl7 st7 hfo m0 m1 m2 m3 m4 m5 kc0 kc1 kc2
    by_cases hat:L < m.at'
    ·rw [if_pos hat] at hR
     have hRH:=hidden hR
     have hatI:(L:Int) < (m.at':Int):=by omega
     clear hR
     go_wp2_with fail
     go_ret
     refine ⟨_,o7,rfl,hG7.out.1, ?_, ?_⟩
     ·rw [←hRH.out];exact Dn.nil _ _
     ·rw [←hRH.out];exact hG7.out.2.1
    ·rw [if_neg hat] at hR
     have hatI:¬ (L:Int) < (m.at':Int):=by omega
     obtain ⟨xi,hxi⟩:∃ k,min n (L - m.at') = k:=⟨_,rfl⟩
     have hmnI:min (n:Int) ((L:Int) - (m.at':Int)) = (xi:Int):=by omega
     have hxn:xi ≤ m.ls.length:=by rw [hnH.out];omega
     have hdr:m.ls.drop (L - m.at') = m.ls.drop xi:=by
      by_cases hc:L - m.at' ≤ n
      ·rw [show xi = L - m.at' by omega]
      ·rw [List.drop_eq_nil_of_le (by rw [hnH.out];omega),List.drop_eq_nil_of_le (by rw [hnH.out];omega)]
     rw [hdr] at hR
     obtain ⟨sv,hrun,hSL⟩:=Oz hG7.out.2.2.2.2 xi hxn
     obtain ⟨more,hmo⟩:∃ l,m.ls.drop xi = l:=⟨_,rfl⟩
     rw [hmo] at hSL hR
     obtain ⟨sa,sc,rfl⟩:=hSL.form
     obtain ⟨r,hr⟩:∃ k,more.length = k:=⟨_,rfl⟩
     rw [hr] at hrun
     have hrI:(0:Int) ≤ (r:Int)∧(r:Int) ≤ 256:=by
      have:more.length ≤ m.ls.length:=by rw [←hmo,List.length_drop];omega
      rw [hr,hnH.out] at this;omega
     have hrunH:=hidden hrun
     have hSLH:=hidden hSL
     have hmoH:=hidden hmo
     have hrH:=hidden hr
     clear hrun hSL hdr hxn hxi
     by_cases hmz:more = []
     ·rw [if_pos hmz] at hR
      have hr0:r = 0:=by rw [←hr,hmz];rfl
      subst hr0
      have hRH:=hidden hR
      clear hR hr hmo
      go_wp2_with ((with_reducible apply FM);exact hrunH.out _;simp only [Act.put,lsa,lsz,lss])
      clear m0' m1' m2' m3' m4' m5' k2' hmnI
      obtain ⟨Zc,hZc⟩:∃ Zc,z.follow = Zc:=⟨_,rfl⟩
      obtain ⟨WE,hWE⟩:∃ WE,W7 = WE:=⟨_,rfl⟩
      obtain ⟨oE,hoE⟩:∃ oE,o7 = oE:=⟨_,rfl⟩
      have hzc:Zc.Ag = z.Ag:=by rw [←hZc];rfl
      have hzs:Zc.s = z.s:=by rw [←hZc];rfl
      have hE:=hidden (And.intro hG7.out.1 (And.intro hG7.out.2.1 (And.intro hG7.out.2.2.1 hG7.out.2.2.2.1)))
      rw [hZc] at hRH hE
      rw [←hL] at hRH
      rw [←hzs] at hRH
      have hKL:=hidden (And.intro hI.out.2.2.2 hI.out.2.2.1.n)
      rw [←hzs] at hKL
      subst hWE
      subst hoE
      clear hG7 hSLH hrunH hmoH hrH hZc hzs
      obtain ⟨V,hV⟩:∃ V,W7.drew = V:=⟨_,rfl⟩
      have dr:Step Nobody W7 o7 V o7:=by rw [←hV];exact (Step.refl Nobody W7 o7).drew
      have hNV:=hE.out.2.1.step0 dr
      have mbV:=(dr.block _ (lt_of_block hE.out.2.2.1) (fun h=>h)).trans hE.out.2.2.1
      obtain ⟨-, -,e2, -, -,e6⟩:=hNV.cell
      rw [hzc] at e6
      have q4:V.cell? ⟨mb,4,none⟩ = some (.int .i64 (m.com:Int)):=cell_of_block mbV 4
      have hS:=And.intro e6 (And.intro q4 e2)
      rw [←hV] at hS
      have hkp9:=hidden (DJ hNV.store hKL.out.1)
      have hEV:=hidden (And.intro (hE.out.1.trans (dr.mono (T':=InN D M) (fun _ h=>h.elim))) (And.intro hNV mbV))
      obtain ⟨KLn,hKLn⟩:∃ k,Zc.s.kept.lines.length = k:=⟨_,rfl⟩
      have hcoI:(0:Int) ≤ (z.Ag:Int)∧(z.Ag:Int) ≤ 256:=by
       have h1:z.Ag ≤ z.s.kept.lines.length:=hPH.out.ok.co
       have:=hI.out.2.2.1.n
       omega
      have hcmI:(0:Int) ≤ (m.com:Int)∧(m.com:Int) ≤ 256:=by have:=hmH.out.o1;omega
      have hklI:(0:Int) ≤ (KLn:Int)∧(KLn:Int) ≤ 256:=by have:=hKL.out.2;omega
      have hx1:min (m.com:Int) (KLn:Int) = ((min m.com KLn:Nat):Int):=by omega
      obtain ⟨mn,hmn⟩:∃ k,min m.com KLn = k:=⟨_,rfl⟩
      rw [hmn] at hx1
      have hx2:max (z.Ag:Int) (mn:Int) = ((max z.Ag mn:Nat):Int):=by omega
      have hKLnH:=hidden hKLn
      have hmnH:=hidden hmn
      clear dr hNV mbV e2 e6 q4 hKLn hmn
      refine Aa (fun w'=>w'.cell? ⟨pz,6,none⟩ = some (.int .i64 (z.Ag:Int))∧w'.cell? ⟨mb,4,none⟩ = some (.int .i64 (m.com:Int))∧w'.cell? ⟨pz,2,none⟩ = some (.pointer (some ⟨ps,0,none⟩))) (fun i=>decide (i < 18)) (by kernel_rfl) hS (fun hHeld => ?_)
      rw [hV] at hHeld ⊢
      clear hV hS
      refine tq 0 ?_
      refine tq 1 ?_
      refine tq 2 ?_
      refine tq 3 ?_
      refine tq 4 ?_
      refine tq 5 ?_
      refine tq 6 ?_
      refine tq 7 ?_
      refine tq 8 ?_
      refine tq 9 ?_
      refine tq 10 ?_
      refine Ac (i:=11) rfl (by kernel_rfl) ?_
      go_wp2_with fail
      refine hkp9.out.mono ?_;rintro ex W9 ⟨v9,o9,rfl,hs9,lk9,rfl,hlk9,rfl⟩
      obtain ⟨k9a,k9c,rfl⟩:=hlk9.form
      rw [hKLnH.out]
      have hN9:=hEV.out.2.1.step0 hs9
      have mb9:=(hs9.block _ (lt_of_block hEV.out.2.2) (fun h=>h)).trans hEV.out.2.2
      have mo9:(ext V o7 mb).1 = 0:=by rw [hs9.own _ (lt_of_block hEV.out.2.2)];exact hE.out.2.2.2
      obtain ⟨-, -,e2, -, -,e6⟩:=hN9.cell
      rw [hzc] at e6
      have q4:W9.cell? ⟨mb,4,none⟩ = some (.int .i64 (m.com:Int)):=cell_of_block mb9 4
      have hS9:=And.intro e6 (And.intro q4 e2)
      have f6:=hN9.free 6
      obtain ⟨hcm,kcm⟩:=hN9.Ag (max z.Ag mn)
      have n4:¬ Only (M + 4) 0:=fun h=>by unfold Only at h;omega
      have mb10:=(kcm.block mb (lt_of_block mb9) (by rw [mo9];exact n4)).trans mb9
      have c10:=cell_of_block mb10 1
      simp only [Bf,List.getElem?_cons_zero,List.getElem?_cons_succ] at c10
      have hak:=hidden (OY (D:=D) hcm hKL.out.2 hKL.out.1 m.e hmH.out.e1 hmH.out.e2 src)
      have hF10:=hidden (And.intro ((hEV.out.1.trans (hs9.mono (T':=InN D M) (fun _ h=>h.elim))).trans (kcm.mono (T':=InN D M) (fun k h=>(show InN D M k by cases h;exact InN.own)))) hcm)
      have hfk:=fun W=>He W (.int .u64 (Zc.s.kept.promised.toNat:Int)) (.int .u64 (Zc.s.kept.current.toNat:Int)) (.slice k9a KLn k9c)
      unfold Dy
      clear hs9 hlk9 hN9 mb9 mo9 hcm kcm n4 mb10 hkp9 hHeld
      go_wp2_with fail
      refine ⟨fun _=>hS9, ?_⟩
      refine tq 12 ?_
      refine tq 13 ?_
      refine tq 14 ?_
      refine tq 15 ?_
      refine Ac (i:=16) rfl (by kernel_rfl) ?_
      go_wp2_with fail
      refine ⟨fun _=>hS9, ?_⟩
      refine tq 17 ?_
      refine Ac (i:=18) rfl (by kernel_rfl) ?_
      go_wp2_with fail
      refine ⟨fun h=>by simp at h, ?_⟩
      refine Ae (by kernel_rfl) ?_ _
      clear e6 q4 e2 f6 hx1 hx2 hfk
      go_wp2_with fail
      refine hak.out.mono ?_;rintro ex W11 ⟨v11,o11,rfl,hs11,hou⟩
      have hF:=hidden (And.intro (hF10.out.1.trans (hs11.mono (fun _ h=>h.elim))) (And.intro hou (hF10.out.2.step0 hs11)))
      obtain ⟨xa,xc,rfl⟩:=hou.form
      clear hs11 hou hak
      go_wp2_with fail
      go_ret
      refine ⟨_,o11,rfl,hF.out.1, ?_, ?_⟩
      ·rw [←hRH.out,hKLnH.out,hmnH.out];exact hF.out.2.1
      ·rw [←hRH.out,hKLnH.out,hmnH.out];exact hF.out.2.2
     ·rw [if_neg hmz] at hR
      have hr1:0 < r:=by
       rw [←hr];exact List.length_pos_iff.2 hmz
      have hrp:(0:Int) < (r:Int):=by omega
      have hbm:AP more ≤ AP m.ls:=by rw [←hmo];exact FN _ _
      have hmsm:small more:=by
       have h1:=hmH.out.small
       have h2:=FN m.ls xi
       rw [hmo] at h2
       have h3:more.length ≤ m.ls.length:=by rw [←hmo,List.length_drop];omega
       refine ⟨Nat.le_trans h3 h1.1, ?_⟩
       rw [Ej]
       have:=h1.2
       rw [Ej] at this
       omega
      have hjoin:small (z.s.kept.lines ++ more):=by
       have h1:=hI.out.2.2.1
       have h4:more.length ≤ m.ls.length:=by rw [←hmo,List.length_drop];omega
       have h5:=hmH.out.n1
       refine ⟨by rw [List.length_append];have:=h1.n;omega, ?_⟩
       rw [Ej,List.length_append,DV]
       have:=h1.n;have:=h1.b
       omega
      have hap:=Ob hG7.out.2.1.tags hG7.out.2.1.store hPH.out.sp hSLH.out hmsm hI.out.2.2.2 (.inl hjoin)
      have hfit:=Jy hPH.out.sp hK hPH.out.kok more (by have:=hI.out.2.2.1.b;omega)
      obtain ⟨Q,hQQ⟩:∃ Q,z.s.append more = Q:=⟨_,rfl⟩
      have hQs:z.follow.s = z.s:=rfl
      rw [hQs] at hap
      simp only [hQQ] at hap hfit hR
      rw [hr] at hap
      have hapH:=hidden hap
      obtain ⟨-, -,e2, -⟩:=hG7.out.2.1.cell
      clear hap hbm hmsm hjoin hr hr1 hmo hmz
      rcases hfit with ⟨hf1,hf2⟩ | ⟨hf0,s',hf2,hf3,hf4⟩
      ·subst hf2
       rw [if_neg (fun h=>by cases h)] at hR
       have hRH:=hidden hR
       clear hR
       go_wp2_with ((with_reducible apply FM);exact hrunH.out _;simp only [Act.put,lsa,lsz,lss])
       refine hapH.out.mono ?_;rintro ex W8 ⟨v8,o8,rfl,hs8,rfl,hst8⟩
       have hF:=hidden (And.intro (hG7.out.1.trans (hs8.mono InN.in4)) (hG7.out.2.1.restore hs8 hst8))
       clear hs8 hst8 hapH m0' m1' m2' m3' m4' m5' k2' e2
       go_wp2_with fail
       go_ret
       refine ⟨_,o8,rfl,hF.out.1, ?_, ?_⟩
       ·rw [←hRH.out];exact Dn.nil _ _
       ·rw [←hRH.out];exact hF.out.2
      ·subst hf2
       rw [if_pos rfl] at hR
       have hRH:=hidden hR
       clear hR
       go_wp2_with ((with_reducible apply FM);exact hrunH.out _;simp only [Act.put,lsa,lsz,lss])
       refine hapH.out.mono ?_;rintro ex W8 ⟨v8,o8,rfl,hs8,rfl,hst8⟩
       have n0:=n04 hG7.out.2.1.tags
       obtain ⟨Zc,hZc⟩:∃ Zc,({ z.follow with s:=s' }:Am) = Zc:=⟨_,rfl⟩
       have hzc:Zc.Ag = z.Ag:=by rw [←hZc];rfl
       have hzs:Zc.s = s':=by rw [←hZc]
       have hE:=hidden (And.intro (hG7.out.1.trans (hs8.mono InN.in4)) (And.intro (hG7.out.2.1.restore hs8 hst8) (And.intro ((hs8.block mb (lt_of_block hG7.out.2.2.1) (by rw [hG7.out.2.2.2.1];exact n0)).trans hG7.out.2.2.1) (show (o8 mb).1 = 0 by rw [hs8.own mb (lt_of_block hG7.out.2.2.1)];exact hG7.out.2.2.2.1))))
       have hle2:=Si hf0
       have hkA:=Ih hf0
       have hkl:s'.kept.lines = z.s.kept.lines ++ more:=by rw [hf4,hkA]
       have hKL:Hid (small Zc.s.kept.lines∧Zc.s.kept.lines.length ≤ 256):=by
        refine hidden ?_
        rw [hzs,hkl]
        have h1:=hI.out.2.2.1
        have hbm:AP more ≤ AP m.ls:=by rw [←hmoH.out];exact FN _ _
        refine ⟨⟨by rw [List.length_append];omega, ?_⟩,by rw [List.length_append];omega⟩
        rw [Ej,List.length_append,DV]
        have:=h1.b
        omega
       rw [←hzs] at hRH
       have hZe:∀ c,({ id:=z.follow.id,n:=z.follow.n,s:=Zc.s,BB:=z.follow.BB,waited:=z.follow.waited,seen:=z.follow.seen,Ag:=c }:Am) = { Zc with Ag:=c }:=by intro c;rw [←hZc]
       have hRH2:Hid ((({ Zc with Ag:=max z.Ag (min m.com Zc.s.kept.lines.length) }:Am),({ Zc with Ag:=max z.Ag (min m.com Zc.s.kept.lines.length) }:Am).BN.ack src m.e) = R):=by
        refine hidden ?_
        rw [←hRH.out, ←hZc]
       rw [hZc] at hE
       clear hRH
       have hRH:=hRH2
       clear hRH2 hs8 hst8 hapH m0' m1' m2' m3' m4' m5' k2' e2 hmnI hle2 hkA hkl hZe hZc hzs hf4 n0 hSLH hrunH hmoH hrH hG7
       go_wp2_with fail
       obtain ⟨V,hV⟩:∃ V,W8.drew = V:=⟨_,rfl⟩
       have dr:Step Nobody W8 o8 V o8:=by rw [←hV];exact (Step.refl Nobody W8 o8).drew
       have hNV:=hE.out.2.1.step0 dr
       have mbV:=(dr.block _ (lt_of_block hE.out.2.2.1) (fun h=>h)).trans hE.out.2.2.1
       obtain ⟨-, -,e2, -, -,e6⟩:=hNV.cell
       rw [hzc] at e6
       have q4:V.cell? ⟨mb,4,none⟩ = some (.int .i64 (m.com:Int)):=cell_of_block mbV 4
       have hS:=And.intro e6 (And.intro q4 e2)
       rw [←hV] at hS
       have hkp9:=hidden (DJ hNV.store hKL.out.1)
       have hEV:=hidden (And.intro (hE.out.1.trans (dr.mono (T':=InN D M) (fun _ h=>h.elim))) (And.intro hNV mbV))
       obtain ⟨KLn,hKLn⟩:∃ k,Zc.s.kept.lines.length = k:=⟨_,rfl⟩
       have hcoI:(0:Int) ≤ (z.Ag:Int)∧(z.Ag:Int) ≤ 256:=by
        have h1:z.Ag ≤ z.s.kept.lines.length:=hPH.out.ok.co
        have:=hI.out.2.2.1.n
        omega
       have hcmI:(0:Int) ≤ (m.com:Int)∧(m.com:Int) ≤ 256:=by have:=hmH.out.o1;omega
       have hklI:(0:Int) ≤ (KLn:Int)∧(KLn:Int) ≤ 256:=by have:=hKL.out.2;omega
       have hx1:min (m.com:Int) (KLn:Int) = ((min m.com KLn:Nat):Int):=by omega
       obtain ⟨mn,hmn⟩:∃ k,min m.com KLn = k:=⟨_,rfl⟩
       rw [hmn] at hx1
       have hx2:max (z.Ag:Int) (mn:Int) = ((max z.Ag mn:Nat):Int):=by omega
       have hKLnH:=hidden hKLn
       have hmnH:=hidden hmn
       clear dr hNV mbV e2 e6 q4 hKLn hmn
       refine Aa (fun w'=>w'.cell? ⟨pz,6,none⟩ = some (.int .i64 (z.Ag:Int))∧w'.cell? ⟨mb,4,none⟩ = some (.int .i64 (m.com:Int))∧w'.cell? ⟨pz,2,none⟩ = some (.pointer (some ⟨ps,0,none⟩))) (fun i=>decide (i < 18)) (by kernel_rfl) hS (fun hHeld => ?_)
       rw [hV] at hHeld ⊢
       clear hV hS
       refine tq 0 ?_
       refine tq 1 ?_
       refine tq 2 ?_
       refine tq 3 ?_
       refine tq 4 ?_
       refine tq 5 ?_
       refine tq 6 ?_
       refine tq 7 ?_
       refine tq 8 ?_
       refine tq 9 ?_
       refine tq 10 ?_
       refine Ac (i:=11) rfl (by kernel_rfl) ?_
       go_wp2_with fail
       refine hkp9.out.mono ?_;rintro ex W9 ⟨v9,o9,rfl,hs9,lk9,rfl,hlk9,rfl⟩
       obtain ⟨k9a,k9c,rfl⟩:=hlk9.form
       rw [hKLnH.out]
       have hN9:=hEV.out.2.1.step0 hs9
       have mb9:=(hs9.block _ (lt_of_block hEV.out.2.2) (fun h=>h)).trans hEV.out.2.2
       have mo9:(ext V o8 mb).1 = 0:=by rw [hs9.own _ (lt_of_block hEV.out.2.2)];exact hE.out.2.2.2
       obtain ⟨-, -,e2, -, -,e6⟩:=hN9.cell
       rw [hzc] at e6
       have q4:W9.cell? ⟨mb,4,none⟩ = some (.int .i64 (m.com:Int)):=cell_of_block mb9 4
       have hS9:=And.intro e6 (And.intro q4 e2)
       have f6:=hN9.free 6
       obtain ⟨hcm,kcm⟩:=hN9.Ag (max z.Ag mn)
       have n4:¬ Only (M + 4) 0:=fun h=>by unfold Only at h;omega
       have mb10:=(kcm.block mb (lt_of_block mb9) (by rw [mo9];exact n4)).trans mb9
       have c10:=cell_of_block mb10 1
       simp only [Bf,List.getElem?_cons_zero,List.getElem?_cons_succ] at c10
       have hak:=hidden (OY (D:=D) hcm hKL.out.2 hKL.out.1 m.e hmH.out.e1 hmH.out.e2 src)
       have hF10:=hidden (And.intro ((hEV.out.1.trans (hs9.mono (T':=InN D M) (fun _ h=>h.elim))).trans (kcm.mono (T':=InN D M) (fun k h=>(show InN D M k by cases h;exact InN.own)))) hcm)
       have hfk:=fun W=>He W (.int .u64 (Zc.s.kept.promised.toNat:Int)) (.int .u64 (Zc.s.kept.current.toNat:Int)) (.slice k9a KLn k9c)
       unfold Dy
       clear hs9 hlk9 hN9 mb9 mo9 hcm kcm n4 mb10 hkp9 hHeld
       go_wp2_with fail
       refine ⟨fun _=>hS9, ?_⟩
       refine tq 12 ?_
       refine tq 13 ?_
       refine tq 14 ?_
       refine tq 15 ?_
       refine Ac (i:=16) rfl (by kernel_rfl) ?_
       go_wp2_with fail
       refine ⟨fun _=>hS9, ?_⟩
       refine tq 17 ?_
       refine Ac (i:=18) rfl (by kernel_rfl) ?_
       go_wp2_with fail
       refine ⟨fun h=>by simp at h, ?_⟩
       refine Ae (by kernel_rfl) ?_ _
       clear e6 q4 e2 f6 hx1 hx2 hfk
       go_wp2_with fail
       refine hak.out.mono ?_;rintro ex W11 ⟨v11,o11,rfl,hs11,hou⟩
       have hF:=hidden (And.intro (hF10.out.1.trans (hs11.mono (fun _ h=>h.elim))) (And.intro hou (hF10.out.2.step0 hs11)))
       obtain ⟨xa,xc,rfl⟩:=hou.form
       clear hs11 hou hak
       go_wp2_with fail
       go_ret
       refine ⟨_,o11,rfl,hF.out.1, ?_, ?_⟩
       ·rw [←hRH.out,hKLnH.out,hmnH.out];exact hF.out.2.1
       ·rw [←hRH.out,hKLnH.out,hmnH.out];exact hF.out.2.2
end
theorem EI {w:World} {b:Nat} (hb:w.heap[b]? = some HY) (k:Nat) (f:Nat) (hf:(k = 1∧f = 99) ∨ (k = 2∧f = 100) ∨ (k = 3∧f = 101) ∨ (k = 4∧f = 102) ∨ (k = 5∧f = 103) ∨ (k = 6∧f = 104)) :
  (Instr.lookup 103 (.map (some b)) (.int .u8 (k:Int)) false).run Tryz.prog w = .ok (.func (.func f) #[] #[]) w:=by
 have hck:∀ k:Int,(Instr.checkKey false 10000 5 (.int .u8 k)).run Tryz.prog w = .ok () w:=fun k=>by
  unfold Instr.checkKey
  simp [run_underlying Tryz.underlying5]
 unfold HY at hb
 rcases hf with ⟨rfl,rfl⟩ | ⟨rfl,rfl⟩ | ⟨rfl,rfl⟩ | ⟨rfl,rfl⟩ | ⟨rfl,rfl⟩ | ⟨rfl,rfl⟩
 all_goals
  simp only [Instr.lookup,Sem.run_bind,run_underlying Tryz.underlying103,Result.andThen_ok,MapKept.run_getObj_map hb,Sem.run_pure,Instr.findKey,run_underlying Tryz.underlying5]
  simp [Instr.findNow,Instr.sameNow,hck]
section
variable {w:World} {o:Own} {D M pz ps pd K B base:Nat} {z:Am}
theorem YU (hp:Am.NP K B z) (hK:K + 600 < 65536) (src:Nat) (hsrc:src < z.n) (m:BG) (hm:m.May) (hB:B + AP m.ls ≤ 90000) :
  ∃ f,(∀ (W:World) (b:Nat),W.heap[b]? = some HY→(Instr.lookup 103 (.map (some b)) (.int .u8 (m.k:Int)) false).run Tryz.prog W = .ok (.func (.func f) #[] #[]) W) ∧
   (∀ (args:Array Value) (x:World),(callFunc f args).run Tryz.prog x = .ok (.enter f args) x) ∧
   ∀ (w:World) (o:Own) (base:Nat) (lv:Value),Bc w o D M pz ps pd z→Lines w o base lv m.ls→Calls Tryz.prog f #[.pointer (some ⟨pz,0,none⟩), .int .i64 (src:Int),Ea m lv] w (Ret (InN D M) w o fun v w' o'=>Dn w' o' v (Ed (z.Ec src m).2)∧Bc w' o' D M pz ps pd (z.Ec src m).1):=by
 have h6:=hm.k6
 have h1:=hm.k1
 have hB':B ≤ 90000:=by omega
 have hmb:AP m.ls ≤ 90000:=by omega
 by_cases k1:m.k = 1
 ·refine ⟨99,fun W b hb=>EI hb _ _ (.inl ⟨k1,rfl⟩),Tryz.call99,fun w o base lv h hl => ?_⟩
  have e:z.Ec src m = z.BK src m:=by unfold Am.Ec;rw [if_pos k1]
  rw [e];exact QQ h hp hK hB' src m hm hl
 ·by_cases k2:m.k = 2
  ·refine ⟨100,fun W b hb=>EI hb _ _ (.inr (.inl ⟨k2,rfl⟩)),Tryz.call100,fun w o base lv h hl => ?_⟩
   have e:z.Ec src m = z.Bj src m:=by unfold Am.Ec;rw [if_neg k1,if_pos k2]
   rw [e];exact OM h hp hK src hsrc m hm hB hl
  ·by_cases k3:m.k = 3
   ·refine ⟨101,fun W b hb=>EI hb _ _ (.inr (.inr (.inl ⟨k3,rfl⟩))),Tryz.call101,fun w o base lv h hl => ?_⟩
    have e:z.Ec src m = z.Cj m:=by unfold Am.Ec;rw [if_neg k1,if_neg k2,if_pos k3]
    rw [e];exact PX h hp hB' src m hm hl
   ·by_cases k4:m.k = 4
    ·refine ⟨102,fun W b hb=>EI hb _ _ (.inr (.inr (.inr (.inl ⟨k4,rfl⟩)))),Tryz.call102,fun w o base lv h hl => ?_⟩
     have e:z.Ec src m = z.BD src m:=by unfold Am.Ec;rw [if_neg k1,if_neg k2,if_neg k3,if_pos k4]
     rw [e];exact QR h hp hK hB' src m hm hmb hl
    ·by_cases k5:m.k = 5
     ·refine ⟨103,fun W b hb=>EI hb _ _ (.inr (.inr (.inr (.inr (.inl ⟨k5,rfl⟩))))),Tryz.call103,fun w o base lv h hl => ?_⟩
      have e:z.Ec src m = z.BF src m:=by unfold Am.Ec;rw [if_neg k1,if_neg k2,if_neg k3,if_neg k4,if_pos k5]
      rw [e];exact PZ h hp hK src m hm hB hl
     ·have k6:m.k = 6:=by omega
      refine ⟨104,fun W b hb=>EI hb _ _ (.inr (.inr (.inr (.inr (.inr ⟨k6,rfl⟩))))),Tryz.call104,fun w o base lv h hl => ?_⟩
      have e:z.Ec src m = z.CJ src m:=by unfold Am.Ec;rw [if_neg k1,if_neg k2,if_neg k3,if_neg k4,if_neg k5]
      rw [e];exact VA h hp hB' src hsrc m hm hl
theorem aW (f:Int) (la:Option Addr) (ln lc:Nat) (w:World):Calls Tryz.prog 21 #[.pointer none, .int .i64 f, .slice la ln lc] w fun e w'=>e = .returned (.slice none 0 0)∧w = w':=by
 go_enter Tryz.func21,Tryz.ntmps21
 go_wp2
 go_ret
 exact ⟨rfl,rfl⟩
theorem YS (h:Bc w o D M pz ps pd z) (hd:z.dead = true) (f:Int) (la:Option Addr) (ln lc:Nat):Calls Tryz.prog 21 #[.pointer (some ⟨pz,0,none⟩), .int .i64 f, .slice la ln lc] w fun e w'=>e = .returned (.slice none 0 0)∧w = w':=by
 have hdd:=FI h
 rw [hd] at hdd
 have hddH:=hidden hdd
 clear h hd hdd
 go_enter Tryz.func21,Tryz.ntmps21
 go_wp2_with fail
 refine hddH.out.mono ?_;rintro e w' ⟨rfl,rfl⟩
 go_wp2_with fail
 go_ret
 exact ⟨rfl,rfl⟩
theorem aY (h:Bc w o D M pz ps pd z) (hd:z.dead = false) (f:Int) (hf:f < 0 ∨ (z.n:Int) ≤ f ∨ f = (z.id:Int)) (la:Option Addr) (ln lc:Nat):Calls Tryz.prog 21 #[.pointer (some ⟨pz,0,none⟩), .int .i64 f, .slice la ln lc] w fun e w'=>e = .returned (.slice none 0 0)∧w = w':=by
 have hdd:=FI h
 rw [hd] at hdd
 have hddH:=hidden hdd
 obtain ⟨c0,c1, -⟩:=h.cell
 clear h hd hdd
 by_cases h1:f < 0
 ·clear hf
  go_enter Tryz.func21,Tryz.ntmps21
  go_wp2_with fail
  refine hddH.out.mono ?_;rintro e w' ⟨rfl,rfl⟩
  go_wp2_with fail
  go_ret
  exact ⟨rfl,rfl⟩
 ·by_cases h2:(z.n:Int) ≤ f
  ·clear hf
   go_enter Tryz.func21,Tryz.ntmps21
   go_wp2_with fail
   refine hddH.out.mono ?_;rintro e w' ⟨rfl,rfl⟩
   go_wp2_with fail
   go_ret
   exact ⟨rfl,rfl⟩
  ·have h3:f = (z.id:Int):=by omega
   subst h3
   clear hf
   go_enter Tryz.func21,Tryz.ntmps21
   go_wp2_with fail
   refine hddH.out.mono ?_;rintro e w' ⟨rfl,rfl⟩
   go_wp2_with fail
   go_ret
   exact ⟨rfl,rfl⟩
theorem YR (h:Bc w o D M pz ps pd z) (hd:z.dead = false) (src:Nat) (hsrc:src < z.n) (hid:src ≠ z.id) {bv:Value} {l:List UInt8} (hb:Bytes w o bv l) (hl:l.length ≤ 1000000) (hg:Jn l = none) :
  Calls Tryz.prog 21 #[.pointer (some ⟨pz,0,none⟩), .int .i64 (src:Int),bv] w (Ret Nobody w o fun v _w' _o'=>v = .slice none 0 0):=by
 have hdd:=FI h
 rw [hd] at hdd
 have hddH:=hidden hdd
 have hge:=hidden (Ug hb hl)
 obtain ⟨c0,c1, -⟩:=h.cell
 obtain ⟨ba,bc,rfl⟩:=Aq hb
 have i1:decide ((src:Int) < 0) = false:=decide_eq_false (by omega)
 have i2:decide (z.n ≤ src) = false:=decide_eq_false (by omega)
 have i3:((src:Int) == (z.id:Int)) = false:=by
  have:¬ (src:Int) = (z.id:Int):=by omega
  simpa using this
 clear h hd hdd hb
 go_enter Tryz.func21,Tryz.ntmps21
 go_wp2_with fail
 refine hddH.out.mono ?_;rintro e w' ⟨rfl,rfl⟩
 go_wp2_with fail
 refine hge.out.mono ?_;rintro e w1 ⟨v1,o1,rfl,hs1,hgot⟩
 obtain rfl:=hgot.2 hg
 have mal:=hidden (AB (P:=Tryz.prog) w1 46 _ Oa)
 have mst:=KN w1 ⟨0,0,0,0,0,[]⟩ none 0 0
 have hF:=hidden (hs1.alloc (.cells (Bf ⟨0,0,0,0,0,[]⟩ (.slice none 0 0)).toArray 46) (0,0))
 unfold DI at mst
 have mstH:=hidden mst
 unfold Ea
 clear hs1 hgot mst hge
 go_wp2_with (first
  | ((with_reducible apply AU);exact mal.out;simp only [Act.put,lsa,lsz,lss])
  | ((with_reducible apply AC);exact mstH.out;simp only [Act.put]))
 go_ret
 exact ⟨_,_,rfl,hF.out,rfl⟩
theorem bC (h:Bc w o D M pz ps pd z) (hp:Am.NP K B z) (hK:K + 600 < 65536) (src:Nat) (hsrc:src < z.n) (hid:src ≠ z.id) {bv:Value} {l:List UInt8} (hb:Bytes w o bv l) (hl:l.length ≤ 1000000) {m:BG} (hg:Jn l = some m) (hB:B + AP m.ls ≤ 90000) :
  Calls Tryz.prog 21 #[.pointer (some ⟨pz,0,none⟩), .int .i64 (src:Int),bv] w (Ret (InN D M) w o fun v w' o'=>Dn w' o' v (Ed (z.hear src m).2)∧Bc w' o' D M pz ps pd (z.hear src m).1):=by
 have hm:=VH hg
 have hdd:=FI h
 have hdl:z.dead = false:=hp.sp.dead
 rw [hdl] at hdd
 have hddH:=hidden hdd
 have hge:=hidden (Ug hb hl)
 obtain ⟨c0,c1, -⟩:=h.cell
 obtain ⟨ba,bc,rfl⟩:=Aq hb
 have i1:decide ((src:Int) < 0) = false:=decide_eq_false (by omega)
 have i2:decide (z.n ≤ src) = false:=decide_eq_false (by omega)
 have i3:((src:Int) == (z.id:Int)) = false:=by
  have:¬ (src:Int) = (z.id:Int):=by omega
  simpa using this
 have hse:z.seen.toNat ≤ 281474976710656:=hp.ok.se
 have hmx:=Vl z.seen m.e
 obtain ⟨a,ha⟩:∃ a,Fj z.seen m.e = a:=⟨_,rfl⟩
 rw [ha] at hmx
 have hmxI:max (z.seen.toNat:Int) (m.e.toNat:Int) = (a.toNat:Int):=by omega
 have hok:=hp.ok
 have hnp:Am.NP K B ({ z with seen:=a }:Am):=⟨hp.sp,⟨⟨hok.n1,hok.n3,hok.id,hok.ls,hok.cp,hok.pt,(by show a.toNat ≤ _;have:=hm.e2;omega),hok.co⟩,hok.ro⟩⟩
 obtain ⟨fk,hlk,hcall,hkk⟩:=YU (D:=D) (M:=M) (pz:=pz) (ps:=ps) (pd:=pd) hnp hK src hsrc m hm hB
 have hR:z.hear src m = ({ z with seen:=a }:Am).Ec src m:=by rw [←ha];rfl
 rw [hR]
 obtain ⟨n,hn⟩:∃ n,m.ls.length = n:=⟨_,rfl⟩
 have hH:=hidden (And.intro h hm)
 have hlkH:=hidden hlk
 have hkH:=hidden hkk
 have hcH:=hidden hcall
 have hmxH:=hidden hmxI
 clear h hdd hb hdl hp hm hse hmx hmxI hok hnp hlk hkk hR ha hcall
 go_enter Tryz.func21,Tryz.ntmps21
 go_wp2_with fail
 refine hddH.out.mono ?_;rintro e w' ⟨rfl,rfl⟩
 go_wp2_with fail
 refine hge.out.mono ?_;rintro e w1 ⟨v1,o1,rfl,hs1,hgot⟩
 obtain ⟨lv,rfl,hlv⟩:=hgot.1 m hg
 obtain ⟨la,lc,hlf⟩:=hlv.form
 rw [hn] at hlf
 subst hlf
 have mal:=hidden (AB (P:=Tryz.prog) w1 46 _ Oa)
 have mst:=KN w1 m la n lc
 have k2:=(Step.refl Nobody w1 o1).alloc (.cells (Bf m (.slice la n lc)).toArray 46) (0,0)
 have mb2:=heap_alloc_new w1 (.cells (Bf m (.slice la n lc)).toArray 46)
 have mo2:=Au o1 w1.heap.size (0,0)
 generalize Ak o1 w1.heap.size (0,0) = o2 at *
 obtain ⟨W2,hW2⟩:∃ W2,w1.alloc (.cells (Bf m (.slice la n lc)).toArray 46) = W2:=⟨_,rfl⟩
 rw [hW2] at mst k2 mb2
 obtain ⟨mb,hmb⟩:∃ b,w1.heap.size = b:=⟨_,rfl⟩
 rw [hmb] at mal mst mb2 mo2
 unfold DI at mst
 have mstH:=hidden mst
 obtain ⟨V,hV⟩:∃ V,W2.drew = V:=⟨_,rfl⟩
 have kV:Step Nobody w1 o1 V o2:=by rw [←hV];exact k2.drew
 have hNV:=(hH.out.1.step0 hs1).step0 kV
 have mbV:V.heap[mb]? = some (.cells (Bf m (.slice la n lc)).toArray 46 (0,0)):=by rw [←hV];exact mb2
 obtain ⟨-, -, -, -,e5, -⟩:=hNV.cell
 have f5:=hNV.free 5
 have hS6:=And.intro e5 (show V.cell? ⟨mb,1,none⟩ = some (.int .u64 (m.e.toNat:Int)) from cell_of_block mbV 1)
 rw [←hV] at hS6
 obtain ⟨hsn,ksn⟩:=hNV.seen a
 have n4:¬ Only (M + 4) 0:=fun h=>by unfold Only at h;omega
 obtain ⟨V7,hV7⟩:∃ V7,(V.setCell ⟨pz,5,none⟩ (.int .u64 (a.toNat:Int))).drew = V7:=⟨_,rfl⟩
 have k7:Step (Only (M + 4)) V o2 V7 o2:=by rw [←hV7];exact ksn.drew
 have hN7:Bc V7 o2 D M pz ps pd { z with seen:=a }:=by rw [←hV7];exact hsn.step0 (Step.refl Nobody _ o2).drew
 have mb7:=(k7.block mb (lt_of_block mbV) (by rw [mo2];exact n4)).trans mbV
 have hl7:=(hlv.step kV (fun h=>h)).step k7 n4
 have hcc:∀ W O,Step Nobody V7 o2 W O→W.cell? ⟨mb,0,none⟩ = some (.int .u8 (m.k:Int))∧W.cell? ⟨mb,1,none⟩ = some (.int .u64 (m.e.toNat:Int))∧W.cell? ⟨mb,2,none⟩ = some (.int .u64 (m.c.toNat:Int))∧W.cell? ⟨mb,3,none⟩ = some (.int .i64 (m.at':Int))∧W.cell? ⟨mb,4,none⟩ = some (.int .i64 (m.com:Int))∧W.cell? ⟨mb,5,none⟩ = some (.slice la n lc):=fun W O hJ=>Gt ((hJ.block mb (lt_of_block mb7) (fun h=>h)).trans mb7)
 have hccH:=hidden hcc
 have hS7:=hcc V7 o2 (Step.refl _ _ _)
 rw [←hV7] at hS7
 have hG:=hidden (And.intro (((hs1.trans kV).mono (T':=InN D M) (fun _ h=>h.elim)).trans (k7.mono (T':=InN D M) (fun k h=>(show InN D M k by cases h;exact InN.own)))) (And.intro hN7 (And.intro hl7 (And.intro mb7 mo2))))
 have malH:=hidden mal
 unfold Ea
 clear hs1 hgot hge hlv mst k2 mb2 mo2 hW2 hmb kV hNV mbV hsn ksn n4 k7 hN7 mb7 hl7 hcc mal
 have hkd:=hidden (YQ V7 o2)
 unfold Bf at mstH
 go_wp2_with (first
  | ((with_reducible apply AU);exact malH.out;simp only [Act.put,lsa,lsz,lss])
  | ((with_reducible apply AC);exact mstH.out;simp only [Act.put]))
 refine Aa (fun w'=>w'.cell? ⟨pz,5,none⟩ = some (.int .u64 (z.seen.toNat:Int))∧w'.cell? ⟨mb,1,none⟩ = some (.int .u64 (m.e.toNat:Int))) (fun i=>decide (i < 10)) (by kernel_rfl) hS6 (fun hHeld => ?_)
 rw [hV] at hHeld ⊢
 clear hV hS6
 refine tq 0 ?_
 refine tq 1 ?_
 refine tq 2 ?_
 refine tq 3 ?_
 refine tq 4 ?_
 refine tq 5 ?_
 refine tq 6 ?_
 refine tv 7 (.int .u64 (a.toNat:Int)) (hy:=fun w hSw=>by (try dsimp only at hSw);go_simp;exact hmxH.out) (h := ?_)
 refine Ac (i:=8) rfl (by kernel_rfl) ?_
 go_wp2_with fail
 refine ⟨fun _=>hHeld, ?_⟩
 refine tq 9 ?_
 refine Ac (i:=10) rfl (by kernel_rfl) ?_
 go_wp2_with fail
 refine ⟨fun h=>by simp at h, ?_⟩
 refine Ae (by kernel_rfl) ?_ _
 clear e5 f5
 go_wp2_with fail
 refine Aa (fun w'=>w'.cell? ⟨mb,0,none⟩ = some (.int .u8 (m.k:Int))∧w'.cell? ⟨mb,1,none⟩ = some (.int .u64 (m.e.toNat:Int))∧w'.cell? ⟨mb,2,none⟩ = some (.int .u64 (m.c.toNat:Int))∧w'.cell? ⟨mb,3,none⟩ = some (.int .i64 (m.at':Int))∧w'.cell? ⟨mb,4,none⟩ = some (.int .i64 (m.com:Int))∧w'.cell? ⟨mb,5,none⟩ = some (.slice la n lc)) (fun _=>true) (by kernel_rfl) hS7 (fun hHeld => ?_)
 rw [hV7] at hHeld ⊢
 clear hV7 hS7
 refine tq 1 ?_
 refine tq 2 ?_
 refine tq 4 ?_
 refine tq 5 ?_
 refine tq 6 ?_
 refine Ac (i:=0) rfl (by kernel_rfl) ?_
 go_wp2_with fail
 refine hkd.out.mono ?_;rintro ex W8 ⟨v8,o8,rfl,hs8,hb,rfl,hhm⟩
 have hS8:=hccH.out W8 o8 hs8
 have hlr:=hidden (hlkH.out W8 hb hhm)
 have hcl:=hcH.out
 have hfin:=hkH.out W8 o8 w.heap.size (.slice la n lc) (hG.out.2.1.step0 hs8) (hG.out.2.2.1.step hs8 (fun h=>h))
 unfold Ea at hfin
 have hfinH:=hidden hfin
 have hG8:=hidden (And.intro (hG.out.1.trans (hs8.mono (T':=InN D M) (fun _ h=>h.elim))) (And.intro ((hs8.block mb (lt_of_block hG.out.2.2.2.1) (fun h=>h)).trans hG.out.2.2.2.1) ((hs8.own mb (lt_of_block hG.out.2.2.2.1)).trans hG.out.2.2.2.2)))
 clear hs8 hhm hkd hHeld hfin
 go_wp2_with fail
 refine ⟨fun _=>hS8, ?_⟩
 refine Ac (i:=3) rfl (by kernel_rfl) ?_
 refine DN hlr.out ?_
 simp only [Act.put,lsa,lsz,lss]
 go_wp2_with fail
 refine ⟨fun _=>hS8, ?_⟩
 refine Ac (i:=7) rfl (by kernel_rfl) ?_
 go_wp2_with fail
 refine hfinH.out.mono ?_;rintro ex W9 ⟨v9,o9,rfl,hs9,hou,hn9⟩
 have hF:=hidden (And.intro (hG8.out.1.trans hs9) (And.intro hou hn9))
 have hS9:=Gt ((hs9.block mb (lt_of_block hG8.out.2.1) (by rw [hG8.out.2.2];exact InN.zero hn9.tags.2)).trans hG8.out.2.1)
 obtain ⟨ya,yc,rfl⟩:=hou.form
 clear hs9 hou hn9 hfinH
 go_wp2_with fail
 refine ⟨fun _=>hS9, ?_⟩
 refine tq 8 ?_
 refine Ae (by kernel_rfl) ?_ _
 clear hS9
 go_wp2_with fail
 go_ret
 exact ⟨_,o9,rfl,hF.out.1,hF.out.2.1,hF.out.2.2⟩
end
def Aj.Gj (y:Aj) (f:Int) (l:List UInt8):Aj × DX:=
 if f < 0 ∨ (y.n:Int) ≤ f ∨ f = (y.id:Int) then (y,[]) else match Jn l with
  | none=>(y,[])
  | some m=>y.hear f.toNat m
def GN (w:World) (o:Own) (D M pz ps pd K B:Nat) (y:Aj):Prop:=∃ z:Am,Bc w o D M pz ps pd z∧Am.NP K B z∧z.BN = y
section
variable {w w':World} {o o':Own} {D M pz ps pd K B:Nat} {y y':Aj} {ts:DX}
theorem GN.mono {K' B':Nat} (h:GN w o D M pz ps pd K B y) (hK:K ≤ K') (hB:B ≤ B'):GN w o D M pz ps pd K' B' y:=by
 obtain ⟨z,h1,h2,h3⟩:=h;exact ⟨z,h1,h2.mono hK hB,h3⟩
theorem GN.step0 (h:GN w o D M pz ps pd K B y) (s:Step Nobody w o w' o'):GN w' o' D M pz ps pd K B y:=by
 obtain ⟨z,h1,h2,h3⟩:=h;exact ⟨z,h1.step0 s,h2,h3⟩
theorem GN.nok (h:GN w o D M pz ps pd K B y):NOk B y:=by
 obtain ⟨z,h1,h2,rfl⟩:=h;exact h2.ok
theorem GN.tags (h:GN w o D M pz ps pd K B y):D ≤ M∧D ≠ 0:=by
 obtain ⟨z,h1,h2,rfl⟩:=h;exact h1.tags
theorem YW {z:Aj} (h:NOk B z) (hB:B ≤ 90000):∀ mine has,z.BB = .stands mine has→∀ p,some p ∈ has→AP p.2 ≤ 90000:=by
 intro mine has hr p hp
 have h2:=h.ro
 rw [hr] at h2
 exact Nat.le_trans (h2.2.2.2 p hp).b hB
theorem KE (h:GN w o D M pz ps pd K B y) (hK:K + 606 < 65536) (hB:B ≤ 90000) (hw:y.waited ≤ 1000000) (he:y.tick = (y',ts)) :
  Calls Tryz.prog 19 #[.pointer (some ⟨pz,0,none⟩)] w (Ret (InN D M) w o fun v w' o'=>Dn w' o' v (Ed ts)∧GN w' o' D M pz ps pd (K + 6) B y'):=by
 obtain ⟨z,h1,h2,rfl⟩:=h
 obtain ⟨p1,p2,p3⟩:=Am.WC h2.sp hK h2.kok (Nat.le_trans h2.ok.ls.b hB)
 have hok:=(Aj.dA h2.ok).1
 rw [he] at p1 p2 hok
 refine (ZB h1 h2 hK hB hw).mono ?_
 rintro e w' ⟨v,o',rfl,hs,ho,hn⟩
 rw [p2] at ho
 exact ⟨v,o',rfl,hs,ho,_,hn,⟨p3,by rw [p1];exact hok⟩,p1⟩
theorem Fz (h:GN w o D M pz ps pd K B y) (hK:K + 600 < 65536) (f:Int) {bv:Value} {l:List UInt8} (hb:Bytes w o bv l) (hl:l.length ≤ 1000000) (b:Nat) (hb2:∀ m,Jn l = some m→AP m.ls ≤ b) (hB:B + b ≤ 90000) (he:y.Gj f l = (y',ts)) :
  Calls Tryz.prog 21 #[.pointer (some ⟨pz,0,none⟩), .int .i64 f,bv] w (Ret (InN D M) w o fun v w' o'=>Dn w' o' v (Ed ts)∧GN w' o' D M pz ps pd (K + 3) (B + b) y'):=by
 obtain ⟨z,h1,h2,rfl⟩:=h
 have hdl:z.dead = false:=h2.sp.dead
 unfold Aj.Gj at he
 by_cases hf:f < 0 ∨ (z.BN.n:Int) ≤ f ∨ f = (z.BN.id:Int)
 ·rw [if_pos hf] at he
  cases he
  obtain ⟨ba,bc,rfl⟩:=Aq hb
  refine (aY h1 hdl f hf ba l.length bc).mono ?_
  rintro e w' ⟨rfl,rfl⟩
  exact ⟨_,o,rfl,Step.refl _ _ _,Dn.nil _ _,_,h1,h2.mono (by omega) (by omega),rfl⟩
 ·rw [if_neg hf] at he
  have hpn:z.BN.n = z.n:=rfl
  have hpi:z.BN.id = z.id:=rfl
  rw [hpn,hpi] at hf
  obtain ⟨s,rfl⟩:∃ s:Nat,f = s:=⟨f.toNat,by omega⟩
  cases hg:Jn l with
  | none =>
   rw [hg] at he
   simp only at he
   cases he
   refine (YR h1 hdl s (by omega) (by omega) hb hl hg).mono ?_
   rintro e w' ⟨v,o',rfl,hs,rfl⟩
   exact ⟨_,o',rfl,hs.mono (fun _ (h:Nobody _)=>False.elim h),Dn.nil _ _,_,h1.step0 hs,h2.mono (by omega) (by omega),rfl⟩
  | some m =>
   rw [hg] at he
   simp only [Int.toNat_natCast] at he
   have hbm:=hb2 m hg
   have hlb:=h2.ok.ls.b
   obtain ⟨p1,p2,p3⟩:=Am.Xk h2.sp hK h2.kok s m (by have:AP z.s.kept.lines ≤ B:=hlb;omega) (YW h2.ok (by omega))
   have hok:=(Aj.dX h2.ok (src:=s) (VH hg) b hbm).1
   rw [he] at p1 p2 hok
   refine (bC h1 h2 hK s (by omega) (by omega) hb hl hg (by omega)).mono ?_
   rintro e w' ⟨v,o',rfl,hs,ho,hn⟩
   rw [p2] at ho
   exact ⟨v,o',rfl,hs,ho,_,hn,⟨p3,by rw [p1];exact hok⟩,p1⟩
theorem Gs (h:GN w o D M pz ps pd K B y) (hK:K + 600 < 65536) {bv:Value} {l:List UInt8} (hb:Bytes w o bv l) (hB:B + l.length ≤ 90000) {e:Int} (he:y.BL l = (y',e)) :
  Calls Tryz.prog 14 #[.pointer (some ⟨pz,0,none⟩),bv] w (Ret (InN D M) w o fun v w' o'=>v = .int .i64 e∧GN w' o' D M pz ps pd (K + 3) (B + l.length) y'):=by
 obtain ⟨z,h1,h2,rfl⟩:=h
 obtain ⟨p1,p2,p3⟩:=Am.QL h2.sp hK h2.kok l (by have:AP z.s.kept.lines ≤ B:=h2.ok.ls.b;omega)
 have hok:=(Aj.WU h2.ok l).1
 rw [he] at p1 p2 hok
 refine (UW h1 h2 hK hb hB).mono ?_
 rintro e w' ⟨v,o',rfl,hs,rfl,hn⟩
 exact ⟨_,o',rfl,hs,by rw [p2],_,hn,⟨p3,by rw [p1];exact hok⟩,p1⟩
theorem IR (h:GN w o D M pz ps pd K B y) {b:Bool} (hb:y.OD = b):Calls Tryz.prog 23 #[.pointer (some ⟨pz,0,none⟩)] w fun e w'=>e = .returned (.bool b)∧w = w':=by
 obtain ⟨z,h1,h2,rfl⟩:=h
 rw [←hb];exact RF h1
theorem GN.small (h:GN w o D M pz ps pd K B y) (hB:B ≤ 90000):small y.k.lines:=En.small h.nok.ls (by omega)
theorem VO (h:GN w o D M pz ps pd K B y) (hB:B ≤ 90000) {e:Int} (hp:(y.k.promised.toNat:Int) = e):Calls Tryz.prog 16 #[.pointer (some ⟨pz,0,none⟩)] w (Ret Nobody w o fun v _ _=>v = .int .u64 e):=by
 have hsm:=h.small hB
 obtain ⟨z,h1,h2,rfl⟩:=h
 rw [←hp];exact RS h1 hsm
theorem ED (h:GN w o D M pz ps pd K B y) (hB:B ≤ 90000) {ls:List Ar} (hp:y.k.lines.take y.Ag = ls):Calls Tryz.prog 15 #[.pointer (some ⟨pz,0,none⟩)] w (Ret Nobody w o fun v w' o'=>Lines w' o' w.heap.size v ls):=by
 have hsm:=h.small hB
 have hc:=h.nok.co
 obtain ⟨z,h1,h2,rfl⟩:=h
 rw [←hp];exact QU h1 hsm hc
theorem Qc (h:GN w o D M pz ps pd K B y) (hB:B ≤ 90000):Calls Tryz.prog 22 #[.pointer (some ⟨ps,0,none⟩)] w (Ret Nobody w o fun v w' o'=>∃ lk,v = Dy y.k.promised y.k.current lk∧Lines w' o' w.heap.size lk y.k.lines):=by
 have hsm:=h.small hB
 obtain ⟨z,h1,h2,rfl⟩:=h
 refine (DJ h1.store hsm).mono ?_
 rintro e w' ⟨v,o',rfl,hs,lk,rfl,hl, -⟩
 exact ⟨_,o',rfl,hs,lk,rfl,hl⟩
end
theorem SX {fn:Func} {t u v x:Tmp} (h:fn.results = #[.tmp t, .tmp u, .tmp v, .tmp x]) (tmps:Array Value) (P:Program) (w:World) :
  (results fn tmps).run P w = .ok (.tuple #[tmps.getD t undef,tmps.getD u undef,tmps.getD v undef,tmps.getD x undef]) w:=by
 simp [results,h]
theorem GN.new {w:World} {o:Own} {D M pz ps pd id n:Nat} (h1:1 ≤ n) (h3:n ≤ 3) (hi:id < n) (h:Bc w o D M pz ps pd (Am.new id n (YJ 400))):GN w o D M pz ps pd 0 0 (Aj.new id n ⟨0,0,[]⟩):=
 ⟨_,h,⟨SP.new,Aj.TB h1 h3 hi (En.nil 0) (show (0:BitVec 64).toNat ≤ (0:BitVec 64).toNat by decide) (show (0:BitVec 64).toNat ≤ 281474976710656 by decide)⟩,rfl⟩
theorem IJ (id n:Nat) (w:World) (o:Own) (D:Nat) (hD:D ≠ 0) (h1:1 ≤ n) (h3:n ≤ 3) (hi:id < n) :
  Calls Tryz.prog 18 #[.int .i64 (id:Int), .int .i64 (n:Int)] w (Ret (EN D) w o fun v w' o'=>∃ pd ps pz,v = .tuple #[.pointer (some ⟨pd,0,none⟩), .pointer (some ⟨ps,0,none⟩), .pointer (some ⟨pz,0,none⟩), .int .i64 0]∧GN w' o' D D pz ps pd 0 0 (Aj.new id n ⟨0,0,[]⟩)):=by
 have hnew:=TB 400 w o D (by omega) (by omega)
 go_enter Tryz.func18,Tryz.ntmps18
 go_wp2_with fail
 refine hnew.mono ?_;rintro e W1 ⟨v,o1,rfl,hs1,pd, -,rfl,hd⟩
 have hop:=hidden (YG D (Nat.le_refl _) hD SP.new.sg (by omega) (by rw [SP.new.pg];omega) (t:=YJ 400) hd)
 have hst1:=hidden hs1
 clear hnew hs1 hd
 go_wp2_with fail
 refine hop.out.mono ?_;rintro e W2 ⟨v,o2,rfl,hs2,ps,rfl,ha⟩
 have hzn:=hidden (XC (M:=D) ⟨Nat.le_refl _,hD⟩ ha SP.new.dead id n h1 h3 hi)
 have hst2:=hidden ((hst1.out.mono (T':=EN D) (fun _ (h:Nobody _)=>False.elim h)).trans hs2)
 clear hop hs2 ha hst1
 go_wp2_with fail
 refine hzn.out.mono ?_;rintro e W3 ⟨v,o3,rfl,hs3,pz,rfl, -,hz⟩
 have hF:=hidden (And.intro (hst2.out.trans (hs3.mono (fun _ (h:Nobody _)=>False.elim h))) (GN.new h1 h3 hi hz))
 clear hzn hs3 hz hst2
 go_wp2_with fail
 (try simp only [Exit.inBlock,Exit.then])
 refine bodyPost_ret (SX rfl _ _ _) rfl ?_
 exact ⟨_,o3,rfl,hF.out.1,pd,ps,pz,rfl,hF.out.2⟩
theorem PR {w:World} {o:Own} {base:Nat} (m:BG) (hm:m.May) {lv:Value} (hl:Lines w o base lv m.ls) :
  Calls Tryz.prog 25 #[Ea m lv] w (Ret Nobody w o fun v w' o'=>Bytes w' o' v m.put):=by
 obtain ⟨la,lc,rfl⟩:=hl.form
 obtain ⟨n,hn⟩:∃ n,m.ls.length = n:=⟨_,rfl⟩
 rw [hn] at hl ⊢
 have s1:=(Step.refl Nobody w o).alloc (.cells [.int .u8 (m.k:Int), .int .u64 (m.e.toNat:Int), .int .u64 (m.c.toNat:Int), .int .i64 (m.at':Int), .int .i64 (m.com:Int), .slice la n lc].toArray 46) (0,0)
 have b1:=heap_alloc_new w (.cells [.int .u8 (m.k:Int), .int .u64 (m.e.toNat:Int), .int .u64 (m.c.toNat:Int), .int .i64 (m.at':Int), .int .i64 (m.com:Int), .slice la n lc].toArray 46)
 have hld:=hidden (Ip (AV b1) rfl)
 have hpt:=Ue m hm (lv := .slice la n lc) (hl.step s1 (fun h=>h))
 unfold Ea at hpt
 have hptH:=hidden hpt
 have hs1:=hidden s1
 clear hl s1 b1 hpt
 unfold Ea
 go_enter Tryz.func25,Tryz.ntmps25
 go_wp2_with (first
  | ((with_reducible apply Bo);exact hld.out;simp only [Act.put,lsa,lsz,lss]))
 refine hptH.out.mono ?_;rintro e w3 ⟨v3,o3,rfl,hs3,bv,rfl,hnb⟩
 have hF:=hidden (And.intro (hs1.out.trans hs3) hnb.bytes)
 clear hptH hs3 hnb hld hs1
 go_wp2_with fail
 go_ret
 exact ⟨_,o3,rfl,hF.out.1,hF.out.2⟩
theorem Et (w:World) (o:Own) (m:BG) (hm:m.May) (hn:m.ls = []) :
  Calls Tryz.prog 25 #[.agg #[.int .u8 (m.k:Int), .int .u64 (m.e.toNat:Int), .int .u64 (m.c.toNat:Int), .int .i64 (m.at':Int), .int .i64 (m.com:Int), .slice none 0 0]] w (Ret Nobody w o fun v w' o'=>Bytes w' o' v m.put):=by
 have h:Lines w o 0 (.slice none 0 0) m.ls:=by rw [hn];exact Lines.nil w o 0
 exact PR m hm h
theorem RH {M D:Nat} (h:M < D):∀ k,InN D D k→EN M k:=fun k hk=>by unfold InN at hk;show M < k;omega
theorem FP {M D:Nat} (h:M < D):∀ k,EN D k→EN M k:=fun k hk=>by have:D < k:=hk;show M < k;omega
theorem Aj.Fg (y:Aj) (s:Nat) (hs:s < y.n) (hi:s ≠ y.id) {m:BG} (hm:m.May):y.Gj (s:Int) m.put = y.hear s m:=by
 unfold Aj.Gj
 rw [if_neg (by omega),ET hm]
 simp
def wm1:BG:=⟨2,3,0,0,0,[]⟩
def wm2:BG:=⟨6,3,0,0,0,[]⟩
def wm3:BG:=⟨6,3,0,1,0,[]⟩
def wz0:Aj:=Aj.new 0 3 ⟨0,0,[]⟩
def wz1:Aj:=⟨0,3,⟨0,0,[]⟩, .follows,1,0,0⟩
def wz2:Aj:=⟨0,3,⟨0,0,[]⟩, .follows,2,0,0⟩
def wz3:Aj:=⟨0,3,⟨0,0,[]⟩, .follows,3,0,0⟩
def wz4:Aj:=⟨0,3,⟨3,0,[]⟩, .stands 3 [some (0,[]),none,none],0,0,0⟩
def wz5:Aj:=⟨0,3,⟨3,3,[]⟩, .leads 3 [0, -1, -1] 0 false,0,3,0⟩
def wz6:Aj:=⟨0,3,⟨3,3,[]⟩, .leads 3 [0,0, -1] 0 true,0,3,0⟩
def wz7:Aj:=⟨0,3,⟨3,3,[⟨3,[97]⟩]⟩, .leads 3 [1,0, -1] 0 true,0,3,0⟩
def wz8:Aj:=⟨0,3,⟨3,3,[⟨3,[97]⟩]⟩, .leads 3 [1,1, -1] 0 true,0,3,1⟩
theorem wt1:wz0.tick = (wz1,[]):=by kernel_rfl
theorem wt2:wz1.tick = (wz2,[]):=by kernel_rfl
theorem wt3:wz2.tick = (wz3,[]):=by kernel_rfl
theorem wt4:wz3.tick = (wz4,[(1,⟨1,3,0,0,0,[]⟩),(2,⟨1,3,0,0,0,[]⟩)]):=by kernel_rfl
theorem wt5:wz4.hear 1 wm1 = (wz5,[(1,⟨4,3,0,0,0,[]⟩),(2,⟨4,3,0,0,0,[]⟩)]):=by kernel_rfl
theorem wt6:wz5.hear 1 wm2 = (wz6,[]):=by kernel_rfl
theorem wt7:wz6.BL [97] = (wz7,0):=by kernel_rfl
theorem wt8:wz7.hear 1 wm3 = (wz8,[]):=by kernel_rfl
theorem Zx:wm1.May:=by unfold wm1;exact ⟨by decide,by decide,by decide,by decide,by decide,by decide,by decide,by decide,by decide,by decide,by decide,by decide,by decide⟩
theorem Zw:wm2.May:=by unfold wm2;exact ⟨by decide,by decide,by decide,by decide,by decide,by decide,by decide,by decide,by decide,by decide,by decide,by decide,by decide⟩
theorem Zv:wm3.May:=by unfold wm3;exact ⟨by decide,by decide,by decide,by decide,by decide,by decide,by decide,by decide,by decide,by decide,by decide,by decide,by decide⟩
theorem Dn.EG {w:World} {o:Own} {v:Value} {ts:List (Nat × List UInt8)} (h:Dn w o v ts) {n:Nat} (hn:ts.length = n):∃ a c,v = .slice a n c:=by
 rw [←hn];exact h.form
theorem Lines.EG {w:World} {o:Own} {base:Nat} {v:Value} {ls:List Ar} (h:Lines w o base v ls) {n:Nat} (hn:ls.length = n):∃ a c,v = .slice a n c:=by
 rw [←hn];exact h.form
theorem CO {M D:Nat} {w w1 w2:World} {o o1 o2:Own} (h:M < D) (s:Step (EN M) w o w1 o1) (s2:Step (InN D D) w1 o1 w2 o2):Step (EN M) w o w2 o2:=s.trans (s2.mono (RH h))
theorem Bv {M:Nat} {w w1 w2:World} {o o1 o2:Own} (s:Step (EN M) w o w1 o1) (s2:Step Nobody w1 o1 w2 o2):Step (EN M) w o w2 o2:=s.trans (s2.LW (M:=M))
theorem KD (w:World) (o:Own):Calls Tryz.prog 10 #[] w (Ret Nobody w o fun v _ _=>v = .bool true):=by
 obtain ⟨M, -,hM⟩:=EZ o 0 w.heap.size
 obtain ⟨D,hD⟩:∃ D,D = M + 1:=⟨_,rfl⟩
 have hMD:M < D:=by omega
 have hD0:D ≠ 0:=by omega
 have hop:=IJ 0 3 w o D hD0 (by omega) (by omega) (by omega)
 clear hD
 go_enter Tryz.func10,Tryz.ntmps10
 go_wp2_with fail
 refine hop.mono ?_;rintro e W1 ⟨v,o1,rfl,hs,pd,ps,pz,rfl,hg⟩
 have hst:=hs.mono (FP hMD)
 have hc:=KE hg (by omega) (by omega) (by decide) wt1
 clear hs hop hg
 go_wp2_with fail
 refine hc.mono ?_;rintro e W2 ⟨v,o2,rfl,hs,ho,hg⟩
 have hst:=CO hMD hst hs
 obtain ⟨xa1,xc1,rfl⟩:=ho.EG (n:=0) rfl
 have hc:=KE hg (by omega) (by omega) (by decide) wt2
 clear hs ho
 go_wp2_with fail
 refine hc.mono ?_;rintro e W3 ⟨v,o3,rfl,hs,ho,hg⟩
 have hst:=CO hMD hst hs
 obtain ⟨xa2,xc2,rfl⟩:=ho.EG (n:=0) rfl
 have hc:=KE hg (by omega) (by omega) (by decide) wt3
 clear hs ho
 go_wp2_with fail
 refine hc.mono ?_;rintro e W4 ⟨v,o4,rfl,hs,ho,hg⟩
 have hst:=CO hMD hst hs
 obtain ⟨xa3,xc3,rfl⟩:=ho.EG (n:=0) rfl
 have hc:=KE hg (by omega) (by omega) (by decide) wt4
 clear hs ho
 go_wp2_with fail
 refine hc.mono ?_;rintro e W5 ⟨v,o5,rfl,hs,ho,hg⟩
 have hst:=CO hMD hst hs
 obtain ⟨xa4,xc4,rfl⟩:=ho.EG (n:=2) rfl
 have hc:=VO hg (by omega) (e:=3) (by decide)
 clear hs ho
 go_wp2_with fail
 refine hc.mono ?_;rintro e W6 ⟨v,o6,rfl,hs,rfl⟩
 have hst:=Bv hst hs
 have hg:=hg.step0 hs
 have hc:=Et W6 o6 wm1 Zx rfl
 clear hs
 go_wp2_with fail
 refine hc.mono ?_;rintro e W7 ⟨v,o7,rfl,hs,hb⟩
 have hst:=Bv hst hs
 have hg:=hg.step0 hs
 have hc:=Fz hg (by omega) 1 hb (by decide) 0 (fun m hm=>by rw [ET Zx] at hm;cases hm;decide) (by omega) ((Aj.Fg _ 1 (by decide) (by decide) Zx).trans wt5)
 obtain ⟨ya6,yc6,rfl⟩:=Aq hb
 clear hs hb
 go_wp2_with fail
 refine hc.mono ?_;rintro e W8 ⟨v,o8,rfl,hs,ho,hg⟩
 have hst:=CO hMD hst hs
 obtain ⟨xa6,xc6,rfl⟩:=ho.EG (n:=2) rfl
 have hc:=Et W8 o8 wm2 Zw rfl
 clear hs ho
 go_wp2_with fail
 refine hc.mono ?_;rintro e W9 ⟨v,o9,rfl,hs,hb⟩
 have hst:=Bv hst hs
 have hg:=hg.step0 hs
 have hc:=Fz hg (by omega) 1 hb (by decide) 0 (fun m hm=>by rw [ET Zw] at hm;cases hm;decide) (by omega) ((Aj.Fg _ 1 (by decide) (by decide) Zw).trans wt6)
 obtain ⟨ya8,yc8,rfl⟩:=Aq hb
 clear hs hb
 go_wp2_with fail
 refine hc.mono ?_;rintro e W10 ⟨v,o10,rfl,hs,ho,hg⟩
 have hst:=CO hMD hst hs
 obtain ⟨xa8,xc8,rfl⟩:=ho.EG (n:=0) rfl
 have hc:=IR hg (b:=true) rfl
 clear hs ho
 go_wp2_with fail
 refine hc.mono ?_;rintro e w' ⟨rfl,rfl⟩
 have hcv:(convert 23 23 (.slice (some ⟨W10.heap.size,0,none⟩) 1 1)).run Tryz.prog (W10.alloc (.cells #[.int .u8 97] 5)) = .ok (.slice (some ⟨W10.heap.size,0,none⟩) 1 1) (W10.alloc (.cells #[.int .u8 97] 5 (1,2))):=GU W10 [.int .u8 97] 1 1
 have hb:Bytes (W10.alloc (.cells (bvs [97]).toArray 5 (1,2))) (Ak o10 W10.heap.size (0,0)) (.slice (some ⟨W10.heap.size,0,none⟩) 1 1) [97] := .inr ⟨W10.heap.size,0,1,rfl,by decide,by decide,by rw [Au],by simp,AV (heap_alloc_new W10 _)⟩
 have s:=(Step.refl Nobody W10 o10).alloc (.cells (bvs [97]).toArray 5 (1,2)) (0,0)
 have hcvE:(W10.alloc (.cells #[.int .u8 97] 5 (1,2))) = W10.alloc (.cells (bvs [97]).toArray 5 (1,2)):=rfl
 obtain ⟨V,hV⟩:∃ V,W10.alloc (.cells (bvs [97]).toArray 5 (1,2)) = V:=⟨_,rfl⟩
 obtain ⟨oV,hoV⟩:∃ O,Ak o10 W10.heap.size (0,0) = O:=⟨_,rfl⟩
 rw [hV] at hb s hcvE
 rw [hoV] at hb s
 rw [hcvE] at hcv
 have hst:=Bv hst s
 have hg:=hg.step0 s
 have hc:=Gs hg (by omega) hb (by simp) wt7
 clear hb s hcvE hV hoV
 go_wp2_with fail
 refine hc.mono ?_;rintro e W11 ⟨v,o11,rfl,hs,rfl,hg⟩
 have hst:=CO hMD hst hs
 have hc:=ED hg (by simp) (ls:=[]) rfl
 clear hs
 go_wp2_with fail
 refine hc.mono ?_;rintro e W12 ⟨v,o12,rfl,hs,hl⟩
 have hst:=Bv hst hs
 have hg:=hg.step0 hs
 obtain ⟨za,zc,rfl⟩:=hl.EG (n:=0) rfl
 have hc:=Et W12 o12 wm3 Zv rfl
 clear hs hl
 go_wp2_with fail
 refine hc.mono ?_;rintro e W13 ⟨v,o13,rfl,hs,hb⟩
 have hst:=Bv hst hs
 have hg:=hg.step0 hs
 have hc:=Fz hg (by omega) 1 hb (by decide) 0 (fun m hm=>by rw [ET Zv] at hm;cases hm;decide) (by simp) ((Aj.Fg _ 1 (by decide) (by decide) Zv).trans wt8)
 obtain ⟨ya12,yc12,rfl⟩:=Aq hb
 clear hs hb
 go_wp2_with fail
 refine hc.mono ?_;rintro e W14 ⟨v,o14,rfl,hs,ho,hg⟩
 have hst:=CO hMD hst hs
 obtain ⟨xa12,xc12,rfl⟩:=ho.EG (n:=0) rfl
 have hc:=ED hg (by simp) (ls:=[⟨3,[97]⟩]) rfl
 clear hs ho
 go_wp2_with fail
 refine hc.mono ?_;rintro e W15 ⟨v,o15,rfl,hs,hl⟩
 have hst:=Bv hst hs
 obtain ⟨za,zc,rfl⟩:=hl.EG (n:=1) rfl
 obtain ⟨b,off,bv,rfl,r0,y0, -⟩:=hl.at (i:=0) rfl
 have hcv:(convert 23 9 bv).run Tryz.prog W15 = .ok (.string ⟨#[97]⟩) W15:=CY y0
 obtain ⟨ba,bc,rfl⟩:=Aq y0
 have hcv:(convert 23 9 (.slice ba 1 bc)).run Tryz.prog W15 = .ok (.string ⟨#[97]⟩) W15:=hcv
 have d0:W15.cell? ⟨b,off + 1,none⟩ = some (.slice ba 1 bc):=r0 1 _ rfl
 have hst:=hidden hst
 clear r0 y0 hl hs hc
 go_wp2_with fail
 go_ret
 exact ⟨_,_,rfl,hst.out.Hm hM,rfl⟩
theorem Bi.dsk {w:World} {o:Own} {S A B D ps pd base:Nat} {s:AZ} (h:Bi w o S A B D ps pd base s):Bg w o D pd s.d:=by
 obtain ⟨_,_,_,_,_,_,_,_,_,_,_,hd⟩:=h;exact hd
theorem Bi.under {w w':World} {o o':Own} {S A B D ps pd base:Nat} {s:AZ} {d':Af} (ht:Qw S A B D) (h:Bi w o S A B D ps pd base s) (st:Step (Only D) w o w' o') (hd:Bg w' o' D pd d') :
  Bi w' o' S A B D ps pd base { s with d:=d' }:=by
 obtain ⟨X,Y,pa,pb,k,kv,hp,hb,hl,ha,hbb, -⟩:=h
 have hX:¬ Only D X:=by
  intro (h:X = D)
  rcases hp with ⟨rfl, -⟩ | ⟨rfl, -⟩
  ·exact ht.ad h
  ·exact ht.bd h
 have hY:¬ Only D Y:=by
  intro (h:Y = D)
  rcases hp with ⟨-,rfl⟩ | ⟨-,rfl⟩
  ·exact ht.bd h
  ·exact ht.ad h
 have h0:¬ Only D 0:=by intro (h:0 = D);exact ht.d0 h.symm
 exact ⟨X,Y,pa,pb,k,kv,hp,hb.step st (fun (h:S = D)=>ht.sd h),hl.step st h0,ha.step st hX h0,hbb.step st hY h0,hd⟩
theorem aF {D M:Nat}:∀ k,Only D k→In4 (M + 1) (M + 2) (M + 3) D k:=fun k (h:k = D) => .inr (.inr (.inr h))
theorem gK {D M:Nat} (h:D ≤ M∧D ≠ 0):Qw (M + 1) (M + 2) (M + 3) D:=⟨by omega,by omega,by omega,h.2,by omega,by omega,by omega,by omega,by omega,by omega⟩
theorem Bc.under {w w':World} {o o':Own} {D M pz ps pd:Nat} {z:Am} {d':Af} (h:Bc w o D M pz ps pd z) (st:Step (Only D) w o w' o') (hd:Bg w' o' D pd d') :
  Bc w' o' D M pz ps pd { z with s:={ z.s with d:=d' } }:=
 h.restore (st.mono aF) (h.store.under (gK h.tags) st hd)
theorem Uj {w:World} {o:Own} (a:Int) {v:Value} {l:List UInt8} (hl:Bytes w o v l) :
  Calls Tryz.prog 7 #[.int .i64 a,v] w (Ret Nobody w o fun v _ _=>v = .bool true):=by
 obtain ⟨ba,bc,rfl⟩:=Aq hl
 obtain ⟨n,hn⟩:∃ n,l.length = n:=⟨_,rfl⟩
 rw [hn] at hl ⊢
 have hnI:(0:Int) ≤ (n:Int):=by omega
 by_cases hbig:1000 < n
 ·have hbI:(1000:Int) < (n:Int):=by omega
  clear hn hl
  go_enter Tryz.func7,Tryz.ntmps7
  go_wp2_with fail
  go_ret
  exact ⟨_,o,rfl,Step.refl _ _ _,rfl⟩
 ·have hbI:¬ (1000:Int) < (n:Int):=by omega
  obtain ⟨M, -,hM⟩:=EZ o 0 w.heap.size
  obtain ⟨D,hD⟩:∃ D,D = M + 1:=⟨_,rfl⟩
  have hMD:M < D:=by omega
  have hD0:D ≠ 0:=by omega
  have hc:=Zm 0 1 w
  clear hD
  go_enter Tryz.func7,Tryz.ntmps7
  go_wp2_with fail
  refine hc.mono ?_;rintro e w' ⟨rfl,rfl⟩
  have hc:=Zz w o
  go_wp2_with fail
  refine hc.mono ?_;rintro e W1 ⟨v1,o1,rfl,hs,rfl⟩
  have hst:=hs.LW (M:=M)
  have hc:=aW a ba n bc W1
  clear hs
  go_wp2_with fail
  refine hc.mono ?_;rintro e w' ⟨rfl,rfl⟩
  have hc:=UV ba n bc W1
  go_wp2_with fail
  refine hc.mono ?_;rintro e w' ⟨rfl,rfl⟩
  have hc:=QT W1
  go_wp2_with fail
  refine hc.mono ?_;rintro e w' ⟨rfl,rfl⟩
  have hc:=YM W1
  go_wp2_with fail
  refine hc.mono ?_;rintro e w' ⟨rfl,rfl⟩
  have hc:=Zb W1
  go_wp2_with fail
  refine hc.mono ?_;rintro e w' ⟨rfl,rfl⟩
  have hc:=Ya W1
  go_wp2_with fail
  refine hc.mono ?_;rintro e w' ⟨rfl,rfl⟩
  have hc:=IJ 0 1 W1 o1 D hD0 (by omega) (by omega) (by omega)
  go_wp2_with fail
  refine hc.mono ?_;rintro e W2 ⟨v,o2,rfl,hs,pd,ps,pz,rfl,z,hz,hp, -⟩
  have hst:=hst.trans (hs.mono (FP hMD))
  have hc:=aQ hz.store.dsk
  clear hs
  go_wp2_with fail
  refine hc.mono ?_;rintro e W3 ⟨v,o3,rfl,hs,rfl,hd⟩
  have hz:=hz.under hs hd
  have hst:=hst.trans (hs.mono (fun k (h:k = D)=>(show M < k by omega)))
  have hdd:(({ z.s with d:=z.s.d.kill }:AZ).dead || ({ z.s with d:=z.s.d.kill }:AZ).d.dead) = true:=by
   show (z.s.dead || true) = true
   rw [Bool.or_true]
  have hc:=XY hz.store hdd 0 1
  clear hs hd hp
  go_wp2_with fail
  refine hc.mono ?_;rintro e w' ⟨rfl,rfl⟩
  have hc:=FI hz
  rw [show ({ z with s:={ z.s with d:=z.s.d.kill } }:Am).dead = true from hdd] at hc
  go_wp2_with fail
  refine hc.mono ?_;rintro e w' ⟨rfl,rfl⟩
  have hc:=YS hz hdd a ba n bc
  go_wp2_with fail
  refine hc.mono ?_;rintro e w' ⟨rfl,rfl⟩
  have hc:=KD W3 o3
  go_wp2_with fail
  refine hc.mono ?_;rintro e W4 ⟨v,o4,rfl,hs,rfl⟩
  have hst:=Bv hst hs
  clear hs hz hc
  go_wp2_with fail
  go_ret
  exact ⟨_,_,rfl,hst.Hm hM,rfl⟩
theorem MI:ownKnob Tryz.prog.godebug = none:=by kernel_rfl
theorem Jl:laidOutB Tryz.prog = true:=by kernel_rfl
section
variable {H:Type} {enc:TypeId × Value→H} {W:World}
theorem bytes_of_nums:∀ (l:List Int),(∀ a ∈ l,(Lit.int .u8 a).wf = true)→l.map (Value.int .u8) = bvs (l.map fun a=>UInt8.ofNat a.toNat)
 | [],_=>rfl
 | a :: r,h=>by
  have h1:=Go.bounds_u8 (h a (by simp))
  have ih:=bytes_of_nums r (fun x hx=>h x (List.mem_cons_of_mem _ hx))
  rw [List.map_cons,ih]
  have:Value.int .u8 a = bv (UInt8.ofNat a.toNat):=by
   unfold bv
   rw [UInt8.toNat_ofNat']
   congr 1;omega
  rw [this];rfl
theorem JR {fuel:Nat} {v:Value} {x:DataW H × List MemPlace} (h:DataW.trod enc Tryz.prog W 0 (fun _=>true) true fuel 23 [v] = some x):∃ l:List UInt8,Bytes W (fun _=>(0,0)) v l:=by
 obtain ⟨l,h1,h2⟩:=YA Tryz.underlying23 Tryz.underlying5 (by kernel_rfl) h
 refine ⟨l.map fun a=>UInt8.ofNat a.toNat, ?_⟩
 unfold Bytes
 rw [List.length_map, ←bytes_of_nums l h2]
 exact h1
theorem pair_cells (n:Nat) (f g:Nat→Value) (b off:Nat) (h:∀ i,i < n→W.rangeAt b (off + i * 2) [f i,g i]):W.rangeAt b off ((List.range (n * 2)).map fun j=>if j % 2 = 0 then f (j / 2) else g (j / 2)):=by
 intro j v hj
 simp only [List.getElem?_map,Option.map_eq_some_iff] at hj
 obtain ⟨j',hj',rfl⟩:=hj
 obtain ⟨hjl,hje⟩:=List.getElem?_eq_some_iff.1 hj'
 simp only [List.getElem_range] at hje
 simp only [List.length_range] at hjl
 subst hje
 have hi:j / 2 < n:=by omega
 by_cases hp:j % 2 = 0
 ·rw [if_pos hp]
  have:=h (j / 2) hi 0 _ rfl
  rwa [show off + j / 2 * 2 + 0 = off + j by omega] at this
 ·rw [if_neg hp]
  have:=h (j / 2) hi 1 _ rfl
  rwa [show off + j / 2 * 2 + 1 = off + j by omega] at this
theorem UN {fuel:Nat} {v:Value} {x:DataW H × List MemPlace} (h:DataW.trod enc Tryz.prog W 0 (fun _=>true) true fuel 32 [v] = some x):∃ l:List Ar,Lines W (fun _=>(0,0)) 0 v l:=by
 have c113:Tryz.prog.cellsOf 36 = 2:=by kernel_rfl
 have c36:Tryz.prog.cellsOf 34 = 1:=by kernel_rfl
 have c28:Tryz.prog.cellsOf 23 = 1:=by kernel_rfl
 rcases Lu Tryz.underlying32 (by omega) h with ⟨a,c,rfl⟩ | ⟨b,off,len,cap,rfl,h0,hlc,hcm,hb,hel⟩
 ·exact ⟨[],[], .inl ⟨⟨a,c,rfl⟩,rfl,rfl⟩,LnC.nil _ _,CV.zero _,by simp⟩
 ·obtain ⟨l,hl,hr⟩:=Ir (fun i (m:Ar × Value)=>W.rangeAt b (off + i * 2) [.int .u64 (m.1.e.toNat:Int),m.2]∧Bytes W (fun _=>(0,0)) m.2 m.1.b) len (fun i hi=>by
   obtain ⟨cs',k1,k2,n,y,k3⟩:=hel i (by omega)
   rw [c113] at k1 k2
   obtain ⟨xs,n',_,_,_,hxs,hf⟩:=DataW.trod_struct Tryz.underlying36 k3
   match cs',k1 with
   | [v0,v1],_ =>
    have f0:DataW.trod enc Tryz.prog W 0 (fun _=>true) true n' 34 (([v0,v1].drop 0).take (Tryz.prog.cellsOf 34)) = xs[0]?:=hf 0 _ rfl
    have f1:DataW.trod enc Tryz.prog W 0 (fun _=>true) true n' 23 (([v0,v1].drop 1).take (Tryz.prog.cellsOf 23)) = xs[1]?:=hf 1 _ rfl
    have hsz:xs.length = 2:=hxs
    simp only [c36,c28,List.drop_zero,List.take_succ_cons,List.take_zero,List.drop_succ_cons] at f0 f1
    rw [List.getElem?_eq_getElem (by omega)] at f0 f1
    obtain ⟨a0,e0,_,w0⟩:=DataW.trod_int Tryz.underlying34 f0
    obtain ⟨bs,hbs⟩:=JR f1
    simp only [List.cons.injEq,and_true] at e0
    have b0:=Go.bounds_u64 w0
    have hb0:(((BitVec.ofNat 64 a0.toNat).toNat:Nat):Int) = a0:=by rw [BitVec.toNat_ofNat];omega
    subst e0
    exact ⟨(⟨BitVec.ofNat 64 a0.toNat,bs⟩,v1),by simp only [hb0];exact k2,hbs⟩)
  have hget:∀ i (hi:i < len),l[i]? = some (l[i]'(by omega)):=fun i hi=>List.getElem?_eq_getElem (by omega)
  refine ⟨l.map Prod.fst,(List.range (len * 2)).map fun j=>if j % 2 = 0 then .int .u64 (((l.map Prod.fst).getD (j / 2) ⟨0,[]⟩).e.toNat:Int) else (l.map Prod.snd).getD (j / 2) undef, ?_,⟨by simp [hl];omega,fun i x hx => ?_⟩,CV.zero _,fun u _=>CV.zero u⟩
  ·refine .inr ⟨b,off,cap,by rw [List.length_map,hl],by rw [List.length_map];omega,hcm,rfl,hb,pair_cells len (fun i => .int .u64 (((l.map Prod.fst).getD i ⟨0,[]⟩).e.toNat:Int)) (fun i=>(l.map Prod.snd).getD i undef) b off fun i hi => ?_⟩
   have:=(hr i (by omega)).1
   simp only [List.getD_eq_getElem?_getD,List.getElem?_map,hget i hi,Option.map_some,Option.getD_some]
   exact this
  ·have hi:i < len:=by have:=(List.getElem?_eq_some_iff.1 hx).1;simp [hl] at this;exact this
   have e1:(l.map Prod.fst)[i]? = some (l[i]'(by omega)).1:=by rw [List.getElem?_map,hget i hi];rfl
   have e2:(l.map Prod.snd)[i]? = some (l[i]'(by omega)).2:=by rw [List.getElem?_map,hget i hi];rfl
   rw [e1] at hx
   cases hx
   refine ⟨?_,(l[i]'(by omega)).2, ?_,(hr i (by omega)).2⟩
   ·rw [List.getElem?_map,List.getElem?_range (by omega)]
    simp only [Option.map_some]
    rw [if_pos (by omega),show 2 * i / 2 = i by omega,List.getD_eq_getElem?_getD,e1];rfl
   ·rw [List.getElem?_map,List.getElem?_range (by omega)]
    simp only [Option.map_some]
    rw [if_neg (by omega),show (2 * i + 1) / 2 = i by omega,List.getD_eq_getElem?_getD,e2];rfl
end
theorem VD {w W:World} {v:Value} {l:List UInt8} {base:Nat} (hb:Below base w W) (hown:W.ownsRow base 5 1 v l.length (bvs l)) (hbase:base ≤ W.heap.size) {O:Own} {yv:Value} {y:List UInt8} (hy:Bytes W O yv y) (hn:l.length + y.length ≤ 100000000) :
  ∃ nv w',(Builtin.append_ #[23,23] 23 #[v,yv]).run Tryz.prog W = .ok nv w'∧w'.ownsRow base 5 1 nv (l ++ y).length (bvs (l ++ y))∧Below base w w'∧base ≤ w'.heap.size:=by
 obtain ⟨v',w',h1,h2,h3⟩:=Qu W hbase hown hy (by omega)
 refine ⟨v',w',h1,by rw [List.length_append];exact h2,hb.grown h3 hbase (fun k hk=>(hown.lt k hk).1), ?_⟩
 obtain ⟨-, -, -,hsz, -⟩:=h3
 exact Nat.le_trans hbase hsz
theorem XI {w w':World} {o:Own} {v:Value} {l:List UInt8} (h:w'.ownsRow w.heap.size 5 1 v l.length (bvs l)):Ew w w' (Qi w o (0,0)) v l:=
 ⟨h,fun k hk=>VM (h.lt k hk).1⟩
theorem WX (x:BitVec 64) (n j k:Nat) (hlt:j < n) (hk:n - 1 - j = k) :
  (bvs (List.replicate (n - j) 0 ++ be j x)).set k (.int .u8 (((x.toNat / 256 ^ j:Nat):Int) % 256)) = bvs (List.replicate (n - (j + 1)) 0 ++ beB x j :: be j x):=by
 have hv:Value.int .u8 (((x.toNat / 256 ^ j:Nat):Int) % 256) = bv (beB x j):=by
  unfold bv
  rw [←XV,BitVec.toNat_ushiftRight,Nat.shiftRight_eq_div_pow,Nat.pow_mul]
 rw [hv,show n - j = k + 1 by omega,show n - (j + 1) = k by omega,List.replicate_succ']
 unfold bvs
 rw [List.append_assoc,List.map_append,List.map_append,List.set_append_right _ _ (by simp)]
 simp
theorem EP (x:BitVec 64) (n:Nat) (hn:n ≤ 8) (w:World) (o:Own) :
  Calls Tryz.prog 48 #[.int .u64 (x.toNat:Int), .int .i64 (n:Int)] w (Ret Nobody w o fun v w' o'=>Ew w w' o' v (be n x)):=by
 have hnI:(0:Int) ≤ (n:Int)∧(n:Int) ≤ 8:=by omega
 have hmk:=PT w n (by omega)
 have st:=(Step.refl Nobody w o).alloc (.cells (bvs (List.replicate n 0)).toArray 5) (0,0)
 have hb:=heap_alloc_new w (.cells (bvs (List.replicate n 0)).toArray 5)
 have ht:=Au o w.heap.size (0,0)
 obtain ⟨W,hW⟩:∃ W,w.alloc (.cells (bvs (List.replicate n 0)).toArray 5) = W:=⟨_,rfl⟩
 obtain ⟨O,hO⟩:∃ O,Ak o w.heap.size (0,0) = O:=⟨_,rfl⟩
 rw [hW] at hmk st hb
 rw [hO] at st ht
 have hmkH:=hidden hmk
 have hstH:=hidden st
 have hbH:=hidden hb
 clear hmk st hb hW hO
 go_enter Tryz.func48,Tryz.ntmps48
 go_wp2_with ((with_reducible apply IC);exact hmkH.out;simp only [Act.put,lsa,lsz,lss])
 go_loopw [0,6] (fun y i wr=>∃ j:Nat,j ≤ n∧y = .int .u64 ((x.toNat / 256 ^ j:Nat):Int)∧i = .int .i64 ((n:Int) - 1 - j)∧Step Nobody w o wr O∧wr.heap[w.heap.size]? = some (.cells (bvs (List.replicate (n - j) 0 ++ be j x)).toArray 5 (0,0))) (fun _ i _=>(intOf i + 1).toNat)
 case atStart=>exact ⟨0,Nat.zero_le _,by simp,by simp,hstH.out,by simpa [be] using hbH.out⟩
 case round =>
  clear hmkH hstH hbH
  obtain ⟨j,hj,rfl,rfl,hst,hb⟩:=hrel
  obtain ⟨Y,hY⟩:∃ Y,x.toNat / 256 ^ j = Y:=⟨_,rfl⟩
  have hYI:(0:Int) ≤ (Y:Int)∧(Y:Int) ≤ 18446744073709551615:=by
   have h1:Y ≤ x.toNat:=by rw [←hY];exact Nat.div_le_self _ _
   have:=x.isLt
   omega
  rw [hY]
  by_cases hlt:j < n
  ·obtain ⟨k,hk⟩:∃ k,n - 1 - j = k:=⟨_,rfl⟩
   have hkI:(n:Int) - 1 - (j:Int) = (k:Int):=by omega
   have hk0:(0:Int) ≤ (k:Int)∧(k:Int) < (n:Int):=by omega
   rw [hkI]
   have c0:wr.cell? ⟨w.heap.size,k,none⟩ = some (.int .u8 0):=by
    rw [cell_of_block hb k]
    unfold bvs
    rw [List.getElem?_map,List.getElem?_append_left (by rw [List.length_replicate];omega),List.getElem?_replicate,if_pos (by omega)]
    rfl
   have f0:=Ap hb k
   have hr:=Ai (i:=k) (.int .u8 ((Y:Int) % 256)) hb
   have hset:(bvs (List.replicate (n - j) 0 ++ be j x)).set k (.int .u8 ((Y:Int) % 256)) = bvs (List.replicate (n - (j + 1)) 0 ++ be (j + 1) x):=by
    rw [TZ, ←hY]
    exact WX x n j k hlt hk
   rw [hset] at hr
   have hs:=hst.setCell (a:=⟨w.heap.size,k,none⟩) (.int .u8 ((Y:Int) % 256)) (.inr (Nat.le_refl _))
   have hF:=hidden (And.intro hs hr)
   clear hb hr hs hst hset
   go_wp2_with fail
   go_roundw
   case rel =>
    refine ⟨j + 1,by omega, ?_, ?_,hF.out.1,hF.out.2⟩
    ·rw [show x.toNat / 256 ^ (j + 1) = Y / 256 by rw [←hY,Nat.pow_succ,Nat.div_div_eq_div_mul]]
     congr 1
    ·congr 1;omega
   case measure=>simp [intOf]
  ·obtain rfl:j = n:=by omega
   have hneg:(j:Int) - 1 - (j:Int) = -1:=by omega
   rw [hneg]
   go_wp2_with fail
   go_ret
   rw [Nat.sub_self,List.replicate_zero,List.nil_append] at hb
   refine ⟨.slice (some ⟨w.heap.size,0,none⟩) j j,O,rfl,hst,⟨by rw [Bh,Nat.mul_one], .inr ⟨w.heap.size,j,(bvs (be j x)).toArray,by rw [Az],Nat.le_refl _,hb,by rw [Az];exact Nat.le_refl _,by simp only [maxLen];omega,by simp [Bh,Az],by rw [Az,List.toList_toArray,Nat.mul_one];exact List.take_of_length_le (by rw [Bh,Az];exact Nat.le_refl _)⟩⟩,fun k hk => ?_⟩
   simp only [Value.ownBlock,Option.some.injEq] at hk;subst hk;exact ht
theorem OQ {n:Nat} (h:n ≤ 100000000):((BitVec.ofNat 64 n).toNat:Int) = (n:Int):=by
 rw [BitVec.toNat_ofNat,Nat.mod_eq_of_lt (by omega)]
theorem WR {w:World} {o:Own} {v:Value} {l:List UInt8} (hl:Bytes w o v l) (hn:l.length ≤ 1000000) :
  Calls Tryz.prog 49 #[v] w (Ret Nobody w o fun v w' o'=>Ew w w' o' v (be 4 (BitVec.ofNat 64 l.length) ++ l)):=by
 obtain ⟨n,hln⟩:∃ n,l.length = n:=⟨_,rfl⟩
 have hnI:(0:Int) ≤ (n:Int)∧(n:Int) ≤ 1000000:=by omega
 have hc:=EP (BitVec.ofNat 64 n) 4 (by omega) w o
 rw [OQ (by omega)] at hc
 obtain ⟨va,vc,rfl⟩:=Aq hl
 rw [hln] at hl ⊢
 have hlH:=hidden hl
 clear hl
 go_enter Tryz.func49,Tryz.ntmps49
 go_wp2_with fail
 refine hc.mono ?_;rintro e w1 ⟨v1,o1,rfl,hs,hnb⟩
 have hy:=hlH.out.step hs (fun h=>h)
 obtain ⟨nv,w2,hrun,hown,hbl, -⟩:=VD hs.below hnb.1 hs.size hy (by rw [Az];omega)
 have hrunH:=hidden hrun
 obtain ⟨xa,xc,rfl⟩:=BA hnb.1
 clear hs hnb hy hrun hc
 go_wp2_with ((with_reducible apply Bl);exact hrunH.out;simp only [Act.put,lsa,lsz,lss])
 go_ret
 exact ⟨_,Qi w o (0,0),rfl,Step.OT hbl _,XI hown⟩

end Go.Proofs.YthmpmgknnibljaaGreat
