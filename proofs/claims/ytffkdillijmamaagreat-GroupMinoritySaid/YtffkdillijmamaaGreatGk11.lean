/- Contracts of zab: what a leader tells at a tick; Tick. -/
import Derived.Test.YtffkdillijmamaaGreatGk7
import Derived.Test.YtffkdillijmamaaGreatGk9
import Derived.Test.YtffkdillijmamaaGreatGk10
namespace Go.Proofs.YtffkdillijmamaaGreat
open Go.Proofs.Tryz
set_option maxRecDepth 100000
set_option maxHeartbeats 12800000
open Go Go.RowKit
attribute [local go_sem ↓] Go.wp_at_zero Go.wp_at_succ
theorem Oz {w:World} {o:Own} {base:Nat} {lv:Value} {ls:List Ar} (h:Lines w o base lv ls) (n:Nat) (hn:n<=ls.length) :
  ∃ v,(∀ W,(Instr.sliceAt 35 lv (some (.int .i64 (n:Int))) none none).run prog W = .ok v W)/\Lines w o base v (ls.drop n):=by
 have hu:prog.underlying 35=some (.slice (prog.elem 35)):=by kernel_rfl
 have hlt:(ls.drop n).length=ls.length - n:=by rw [List.length_drop]
 obtain ⟨cs,h1,h2,h3,h4⟩:=h
 rcases h1 with ⟨⟨a,c,rfl⟩,h0,hcs⟩ | ⟨b,off,cap,rfl,hl,hm,ho,hb,hr⟩
 ·have hn0:n=0:=by omega
  subst hn0;refine ⟨_,fun W=>by rw [run_sliceAt_slice _ _ _ _ _ _ hu,run_slice_l W 35 a 0 c hu .i64 ((0:Nat):Int) (by omega) (by omega),Po W];rfl,[], .inl ⟨⟨_,_,rfl⟩,by simp [h0],rfl⟩,by rw [List.drop_zero,List.eq_nil_of_length_eq_zero h0];exact sW.nil w o, ?_,by simp⟩;intro k hk
  cases a with
  | none=>simp [Value.ownBlock] at hk
  | some x=>exact h3 k (by revert hk;simp [Value.ownBlock,Addr.add])
 ·refine ⟨_,fun W=>by rw [run_sliceAt_slice _ _ _ _ _ _ hu,run_slice_l W 35 _ ls.length cap hu .i64 n (by omega) (by omega),Po W];rfl,cs.drop (n*2), ?_,h2.drop n, ?_,fun u hu=>h4 u (List.mem_of_mem_drop hu)⟩
  ·simp only [sliced,Int.toNat_natCast,Option.map_some,addr_add]
   by_cases hne:n=ls.length
   ·refine .inl ⟨⟨_,cap - n,by rw [hne,Nat.sub_self]⟩,by rw [hlt];omega, ?_⟩;apply List.eq_nil_of_length_eq_zero;rw [List.length_drop,h2.1];omega
   ·rw [if_neg (by omega)];refine .inr ⟨b,off+n*2,cap - n,by rw [hlt],by rw [hlt];omega,by omega,ho,hb, ?_⟩;have:=ER hr (n*2) (cs.length - n*2);rw [List.take_of_length_le (by rw [List.length_drop];exact Nat.le_refl _)] at this;exact this
  ·intro k hk;have hb3:=h3 b (by simp [Value.ownBlock])
   revert hk
   simp only [sliced,Int.toNat_natCast,Option.map_some,addr_add];split <;> (simp only [Value.ownBlock,Option.some.injEq];rintro rfl;exact hb3)
def Ph (mine:BitVec 64) (nR:List Int) (Ag:Nat) (ls:List Ar) (i:Nat):BG:=
 if nR.getD i 0<0 then ⟨4,mine,0,0,0,ls⟩ else ⟨5,mine,0,(nR.getD i 0).toNat,Ag,ls.drop (nR.getD i 0).toNat⟩
theorem Ye {w:World} {o:Own} {D M pz ps pd p vl lnb zb:Nat} {z:Am} {mine:BitVec 64} {nR:List Int} {base:Nat} {ready:Bool} (h:GV w o D M pz ps pd p z mine nR base ready) {lv:Value} {ls:List Ar}
  (hv:w.heap[vl]?=some (.cells [Value.pointer (some ⟨p,0,none⟩)].toArray 135 (0,0))) (hln:w.heap[lnb]?=some (.cells [lv].toArray 35 (0,0))) (hL:Lines w o 0 lv ls)
  (hzb:w.heap[zb]?=some (.cells [Value.pointer (some ⟨pz,0,none⟩)].toArray 91 (0,0))) (i:Nat) (hi:i<nR.length) (h3:nR.length<=3) (hm:∀ x ∈ nR, -1<=x/\x<=(ls.length:Int)) (hls:ls.length<=256) (hco:z.Ag<=256) :
  Calls prog 97 #[.int .i64 (i:Int), .pointer (some ⟨vl,0,none⟩), .pointer (some ⟨lnb,0,none⟩), .pointer (some ⟨zb,0,none⟩)] w (XL ai w o fun v w' o'=>∃ vS,v=Ea (Ph mine nR z.Ag ls i) vS/\Lines w' o' 0 vS (Ph mine nR z.Ag ls i).ls):=by
 obtain ⟨ML,hb,⟨b,cap,hp,hpo,hr,hro,hcl,hcm⟩,hs⟩:=h;obtain ⟨x,hx⟩:∃ x,nR.getD i 0=x:=⟨_,rfl⟩;have hxm:x ∈ nR:=by rw [<-hx,List.getD_eq_getElem?_getD,List.getElem?_eq_getElem hi];exact List.getElem_mem hi
 obtain ⟨hx1,hx2⟩:=hm x hxm;have htm:Ph mine nR z.Ag ls i=if x<0 then ⟨4,mine,0,0,0,ls⟩ else ⟨5,mine,0,x.toNat,z.Ag,ls.drop x.toNat⟩:=by unfold Ph;rw [hx]
 obtain ⟨n,hn⟩:∃ n,nR.length=n:=⟨_,rfl⟩;rw [hn] at hp hi h3;have hiI:(0:Int)<=(i:Int)/\(i:Int)<(n:Int)/\(n:Int)<=3:=by omega
 have al:=ae (AB (P:=prog) w 150 _ Oa);have st1:=(aj.refl ai w o).alloc (.cells DI.toArray 150) (0,0);have dr:=st1.drew;have cells:∀ W O,aj ai w o W O->W.cell? ⟨vl,0,none⟩=some (.pointer (some ⟨p,0,none⟩))/\W.cell? ⟨lnb,0,none⟩=some lv/\W.cell? ⟨zb,0,none⟩=some (.pointer (some ⟨pz,0,none⟩))/\W.cell? ⟨p,0,none⟩=some (.int .u64 (mine.toNat:Int))/\W.cell? ⟨p,1,none⟩=some (.slice (some ⟨b,0,none⟩) n cap)/\W.cell? ⟨b,i,none⟩=some (.int .i64 x)/\W.cell? ⟨pz,6,none⟩=some (.int .i64 (z.Ag:Int)):=by
  intro W O hJ;have q1:=ag ((hJ.block _ (au hv) id).trans hv) 0;have q2:=ag ((hJ.block _ (au hln) id).trans hln) 0;have q3:=ag ((hJ.block _ (au hzb) id).trans hzb) 0;have q4:=ag ((hJ.block _ (au hp) id).trans hp);have q40:=q4 0;have q41:=q4 1;have q5:=ag ((hJ.block _ (au hr) id).trans hr) i;obtain ⟨⟨-, -, -, -, -, -,c6⟩, -⟩:=(hb.step hJ id).cells;simp only [ay,ax] at q1 q2 q3 q40 q41;refine ⟨q1,q2,q3,q40,q41, ?_,c6⟩;rw [q5];have hil:i<nR.length:=by rw [hn];exact hi
  rw [List.getD_eq_getElem?_getD,List.getElem?_eq_getElem hil] at hx;simp only [Option.getD_some] at hx;simp [ivs,List.getElem?_eq_getElem hil,hx]
 obtain ⟨a1,a2,a3,a4,a5,a6,a7⟩:=cells _ _ st1;obtain ⟨d1,d2,d3,d4,d5,d6,d7⟩:=cells _ _ dr;have Amn:(0:Int)<=(z.Ag:Int)/\(z.Ag:Int)<=256:=by omega
 rw [htm];have hLH:=ae hL;unfold DI at a1 a2 a3 a4 a5 a6 a7 d1 d2 d3 d4 d5 d6 d7
 by_cases hneg:x<0
 ·rw [if_pos hneg];obtain ⟨la,lc,rfl⟩:=hL.form;have mn:=KN w.drew ⟨4,mine,0,0,0,ls⟩ la ls.length lc;unfold DI at mn;have hbm:=heap_alloc_new w (.cells (Bf ⟨4,mine,0,0,0,ls⟩ (.slice la ls.length lc)).toArray 150);have stF:=((aj.refl ai w o).drew).alloc (.cells (Bf ⟨4,mine,0,0,0,ls⟩ (.slice la ls.length lc)).toArray 150) (0,0);have hF:=ae (aI stF (hL.step stF id));have mnH:=ae mn;have Amq:=ae hbm;have hS:=aI d1 (aI d2 d4);clear ML hb hp hpo hr hro hcl hcm hs hx hxm htm hn hv hln hzb hm cells d1 d2 d3 d4 d5 d6 d7 hL stF hbm mn st1 dr;unfold Ea;go_enter func97,ntmps97
  go_wp2_with ((with_reducible apply AU);exact al.out;simp only [Act.put,GL,DL,lss])
  refine Aa (fun w'=>w'.cell? ⟨vl,0,none⟩=some (.pointer (some ⟨p,0,none⟩))/\w'.cell? ⟨lnb,0,none⟩=some (.slice la ls.length lc)/\w'.cell? ⟨p,0,none⟩=some (.int .u64 (mine.toNat:Int))) (fun i=>decide (i<6)) (by kernel_rfl) hS (fun hHeld => ?_);refine tq 0 (h:=tq 1 (h:=tq 2 (h:=tq 3 (h:=tq 4 (h:=tq 5 (h:=tO 6 (h:=?_)))))));refine AC mnH.out ?_;go_wp2_with fail;refine ⟨fun h=>by simp at h, ?_⟩;refine tD (h:=?_);go_wp2_with fail;refine bodyPost_ret (results_cell_row rfl _ _ w.heap.size 150 _ (0,0) _ rfl Amq.out underlying150 rfl FT) rfl ?_;exact ⟨_,_,rfl,hF.out.1,_,rfl,hF.out.2⟩
 ·rw [if_neg hneg];obtain ⟨xn,rfl⟩:∃ xn:Nat,x=(xn:Int):=⟨x.toNat,by omega⟩;have hxl:xn<=ls.length:=by omega
  have hxI:(0:Int)<=(xn:Int)/\(xn:Int)<=256:=by omega
  obtain ⟨sv,hrun,hSL⟩:=Oz hL xn hxl;rw [Int.toNat_natCast];obtain ⟨la,lc,rfl⟩:=hL.form;obtain ⟨sa,sc,hsv⟩:=hSL.form;obtain ⟨dl,hdl⟩:∃ n,(ls.drop xn).length=n:=⟨_,rfl⟩;rw [hdl] at hsv;subst hsv;obtain ⟨lr,hlr⟩:∃ l,ls.drop xn=l:=⟨_,rfl⟩;rw [hlr] at hSL ⊢;have mn:(Instr.storeAt 150 (.pointer (some ⟨w.heap.size,0,none⟩)) (.agg #[Value.int .u8 5, .int .u64 (mine.toNat:Int), .int .u64 0, .int .i64 (xn:Int), .int .i64 (z.Ag:Int), .slice sa dl sc])).run prog (w.alloc (.cells DI.toArray 150)).drew = .ok () (w.drew.alloc (.cells (Bf ⟨5,mine,0,xn,z.Ag,lr⟩ (.slice sa dl sc)).toArray 150)):=
   KN w.drew ⟨5,mine,0,xn,z.Ag,lr⟩ sa dl sc
  unfold DI at mn;have hbm:=heap_alloc_new w (.cells (Bf ⟨5,mine,0,xn,z.Ag,lr⟩ (.slice sa dl sc)).toArray 150);have stF:=((aj.refl ai w o).drew).alloc (.cells (Bf ⟨5,mine,0,xn,z.Ag,lr⟩ (.slice sa dl sc)).toArray 150) (0,0);have hF:=ae (aI stF (hSL.step stF id));have mnH:=ae mn;have Amq:=ae hbm;have Aax:=ae hrun;have Auj:¬ (xn:Int)<0:=by omega
  have hS:=aI d1 (aI d2 (aI d3 (aI d4 (aI d5 (aI d6 d7)))));clear ML hb hp hpo hr hro hcl hcm hs hx hxm htm hn hv hln hzb hm cells d1 d2 d3 d4 d5 d6 d7 hL stF hbm mn st1 dr hSL hrun hlr hdl;unfold Ea;go_enter func97,ntmps97
  go_wp2_with ((with_reducible apply AU);exact al.out;simp only [Act.put,GL,DL,lss])
  refine Aa (fun w'=>w'.cell? ⟨vl,0,none⟩=some (.pointer (some ⟨p,0,none⟩))/\w'.cell? ⟨lnb,0,none⟩=some (.slice la ls.length lc)/\w'.cell? ⟨zb,0,none⟩=some (.pointer (some ⟨pz,0,none⟩))/\w'.cell? ⟨p,0,none⟩=some (.int .u64 (mine.toNat:Int))/\w'.cell? ⟨p,1,none⟩=some (.slice (some ⟨b,0,none⟩) n cap)/\w'.cell? ⟨b,i,none⟩=some (.int .i64 (xn:Int))/\w'.cell? ⟨pz,6,none⟩=some (.int .i64 (z.Ag:Int))) (fun i=>decide (i<25)) (by kernel_rfl) hS (fun hHeld => ?_);refine tq 0 (h:=tq 1 (h:=tq 2 (h:=tq 3 (h:=tq 4 (h:=tq 5 (h:=tq 6 (h:=tq 7 (h:=tq 8 (h:=tq 9 (h:=tq 10 (h:=tq 11 (h:=tq 12 (h:=tq 13 (h:=?_))))))))))))));refine tq 14 (h:=tq 15 (h:=tq 16 (h:=tq 17 (h:=tq 18 (h:=tq 19 (h:=tq 20 (h:=tq 21 (h:=tq 22 (h:=tO 23 (h:=?_))))))))));refine FM (Aax.out _) ?_;simp only [Act.put,GL,DL,lss];go_wp2_with fail;refine ⟨fun _=>hHeld, ?_⟩;refine tq 24 (h:=tO 25 (h:=?_));refine AC mnH.out ?_;go_wp2_with fail;refine ⟨fun h=>by simp at h, ?_⟩;refine tD (h:=?_);go_wp2_with fail;refine bodyPost_ret (results_cell_row rfl _ _ w.heap.size 150 _ (0,0) _ rfl Amq.out underlying150 rfl FT) rfl ?_;exact ⟨_,_,rfl,hF.out.1,_,rfl,hF.out.2⟩
theorem ZB {w:World} {o:Own} {D M pz ps pd K B:Nat} {z:Am} (h:Bc w o D M pz ps pd z) (hp:Am.NP K B z) (hK:K+606<65536) (hB:B<=90000) (hw:z.waited<=1000000) :
  Calls prog 53 #[.pointer (some ⟨pz,0,none⟩)] w (XL (KC D M) w o fun v w' o'=>Dn w' o' v (Ed z.tick.2)/\Bc w' o' D M pz ps pd z.tick.1):=by
 have hn3:z.n<=3:=hp.ok.n3;have hls:En B z.s.kept.lines:=hp.ok.ls;have hsm:=En.small hls (by omega);have hco:z.Ag<=z.s.kept.lines.length:=hp.ok.co;have st1:=(aj.refl ai w o).alloc (.cells [Value.pointer (some ⟨pz,0,none⟩)].toArray 91) (0,0);have zb1:=heap_alloc_new w (.cells [Value.pointer (some ⟨pz,0,none⟩)].toArray 91);have zo1:=Au o w.heap.size (0,0);generalize Ak o w.heap.size (0,0)=o1 at *;obtain ⟨W1,hW1⟩:∃ W1,w.alloc (.cells [Value.pointer (some ⟨pz,0,none⟩)].toArray 91)=W1:=⟨_,rfl⟩;rw [hW1] at st1 zb1;have hbx:(Instr.box 91 (.pointer (some ⟨pz,0,none⟩))).run prog w = .ok (.pointer (some ⟨w.heap.size,0,none⟩)) W1:=by rw [<-hW1];kernel_rfl
 obtain ⟨zb,hzb⟩:∃ b,w.heap.size=b:=⟨_,rfl⟩;rw [hzb] at zb1 zo1 hbx;have h1:=h.step0 st1;have hdd:=FI h1;have hdl:z.dead=false:=hp.sp.dead;rw [hdl] at hdd;have AbE:=ae hdd;have xH:=ae hbx;have cz:=ag zb1 0;simp only [ay] at cz;have hPH:=ae hp;obtain ⟨R,hR⟩:∃ R,z.tick=R:=⟨_,rfl⟩;rw [hR];have Abe:=ae (aI st1 (aI zb1 zo1));have AdH:=ae (aI hls (aI hsm hco));clear hbx hdd hdl hW1 hzb h hp st1 zb1 zo1 hls hsm hco;obtain ⟨ML,rv,hb,hr,hs⟩:=id h1;obtain ⟨⟨c0,c1,c2,c3,c4,c5,c6⟩,hfr, -⟩:=hb.cells;have f4:=hfr 4
 cases hrr:z.BB with
 | leads mine nR base ready =>
  rw [hrr] at hr;obtain ⟨p,rfl,hl⟩:=hr;have hta:=ZH W1 (some ⟨p,0,none⟩);have k2:=(aj.refl ai W1 o1).alloc (.cells [Value.pointer (some ⟨p,0,none⟩)].toArray 135) (0,0);have vb2:=heap_alloc_new W1 (.cells [Value.pointer (some ⟨p,0,none⟩)].toArray 135);generalize Ak o1 W1.heap.size (0,0)=o2 at *;have zb2:=(k2.block _ (au Abe.out.2.1) id).trans Abe.out.2.1;have cz2:=ag zb2 0;obtain ⟨⟨-, -,d2, -⟩, -⟩:=(hb.step k2 id).cells;simp only [ay] at cz2;have hkp:=ae (DJ (hs.step0 k2) AdH.out.2.1);have hln:GV W1 o1 D M pz ps pd p z mine nR base ready:=⟨ML,hb,hl,hs⟩;have hG:=ae (aI (Abe.out.1.trans k2) (aI vb2 (aI zb2 (hln.step k2 (fun t h=>h.elim)))));obtain ⟨vl,hvl⟩:∃ b,W1.heap.size=b:=⟨_,rfl⟩;clear hb hl hs hfr c0 c1 c4 c5 c6 f4 k2 vb2 zb2 hln h1;go_enter func53,ntmps53
  go_wp2_with ((with_reducible apply BM);exact xH.out;simp only [Act.put,GL,DL,lss])
  refine AbE.out.mono ?_;rintro e w' ⟨rfl,rfl⟩;go_wp2_with fail;refine hkp.out.mono ?_;rintro e w3 ⟨v3,o3,rfl,hs3,lv,rfl,hlv,rfl⟩;obtain ⟨la,lc,rfl⟩:=hlv.form;obtain ⟨L,hL⟩:∃ L,z.s.kept.lines.length=L:=⟨_,rfl⟩;obtain ⟨st2,vb2,zb2,zX⟩:=hG.out;have hfk:=fun W=>He W (.int .u64 (z.s.kept.promised.toNat:Int)) (.int .u64 (z.s.kept.current.toNat:Int)) (.slice la L lc);have k4:=hs3.alloc (.cells [Value.slice la L lc].toArray 35) (0,0);have kk4:=(aj.refl ai w3 (ext (W1.alloc (.cells [Value.pointer (some ⟨p,0,none⟩)].toArray 135)) o2)).alloc (.cells [Value.slice la L lc].toArray 35) (0,0);have lb4:=heap_alloc_new w3 (.cells [Value.slice la L lc].toArray 35);have vb4:=(k4.block _ (au vb2) id).trans vb2;have zb4:=(k4.block _ (au zb2) id).trans zb2;have Aes:=zX.step k4 (fun t h=>h.elim);have Ahi:=(hlv.step kk4 id).low (Nat.zero_le _);have st4:=st2.trans k4;have cz4:=ag zb4 0;simp only [ay] at cz4;rw [hvl] at vb4;rw [hL] at Ahi;have hro:=hPH.out.ok.ro;rw [show z.BN.BB=z.BB from rfl,hrr] at hro;obtain ⟨Afl,hml,hmb⟩:=hro;have hml':nR.length=z.n:=hml;have hot:=LH (Aes.node hrr) hn3 97 #[.pointer (some ⟨vl,0,none⟩), .pointer (some ⟨w3.heap.size,0,none⟩), .pointer (some ⟨zb,0,none⟩)] (Ph mine nR z.Ag z.s.kept.lines) Tryz.call97
   (fun w1 o1 hs i hi _=>Ye (Aes.step hs (fun t h=>h.elim)) ((hs.block _ (au vb4) id).trans vb4) ((hs.block _ (au lb4) id).trans lb4) (Ahi.step hs id) ((hs.block _ (au zb4) id).trans zb4) i (by rw [hml'];exact hi) (by rw [hml'];exact hn3) hmb AdH.out.1.n (by have:=AdH.out.1.n;have:=AdH.out.2.2;omega))
   (fun i hi _=>by
    unfold Ph;have hx:nR.getD i 0 ∈ nR:=by
     have hil:i<nR.length:=by rw [hml'];exact hi
     rw [List.getD_eq_getElem?_getD,List.getElem?_eq_getElem hil];exact List.getElem_mem hil
    have hb:=hmb _ hx;have AoX:=AdH.out.1.n;have hk:z.BN.k=z.s.kept:=rfl;rw [hk] at hb;split
    ·exact Aj.KO Afl.1 Afl.2 AdH.out.1
    ·exact Aj.PS Afl.1 Afl.2 (by omega) (by have:=AdH.out.2.2;omega) (AdH.out.1.drop _))
  have AhS:=ae hot;have hF4:=ae (aI st4 (Aes.node hrr));rw [hL];unfold Dy;clear hs3 hlv st2 vb2 zb2 zX k4 kk4 lb4 vb4 zb4 Aes Ahi st4 Afl hml hmb hml' hot hkp cz2 d2 cz c2 c3;go_wp2_with fail;refine AhS.out.mono ?_;rintro e w5 ⟨v5,o5,rfl,hs5,hou⟩;have hF:=ae (aI (hF4.out.1.trans hs5) (aI hou (hF4.out.2.step0 hs5)));obtain ⟨xa,xc,rfl⟩:=hou.form;have hR2:z.tick=(z,z.BN.others (Ph mine nR z.Ag z.s.kept.lines)):=by unfold Am.tick;rw [hrr];rfl
  clear hs5 hou AhS;go_wp2_with fail;go_ret;refine ⟨_,o5,rfl,hF.out.1.mono (fun _ h=>h.elim), ?_, ?_⟩
  ·rw [<-hR,hR2];exact hF.out.2.1
  ·rw [<-hR,hR2];exact hF.out.2.2
 | follows =>
  rw [hrr] at hr;obtain rfl:rv = .iface 184 (.agg #[]):=hr;have hta:=ZI W1;have hR2:R=if 3+2*z.id<z.waited+1 then ({ z with waited:=z.waited+1 }:Am).stand else (({ z with waited:=z.waited+1 }:Am),[]):=by
   rw [<-hR];unfold Am.tick;rw [hrr]
  obtain ⟨wn,hwn⟩:∃ n,z.waited+1=n:=⟨_,rfl⟩;rw [hwn] at hR2;have hwI:(z.waited:Int)+1=(wn:Int):=by omega
  have AyJ:(0:Int)<=(z.waited:Int)/\(z.waited:Int)<=1000000:=by omega
  have hid:z.id<z.n:=hPH.out.ok.id;have AzB:(0:Int)<=(z.id:Int)/\(z.id:Int)<=2:=by omega
  have b2:=Ai (i:=4) (.int .i64 (wn:Int)) hb.1;have k2:=(aj.refl (ak (M+4)) W1 o1).setCell (a:=⟨pz,4,none⟩) (.int .i64 (wn:Int)) (.inl (by show (o1 pz).1=_;rw [hb.2]));have hzp:zb ≠ pz:=fun h=>by have:=hb.2;rw [<-h,Abe.out.2.2] at this;cases this
  have zb2:=(Below.heap_setCell W1 ⟨pz,4,none⟩ (.int .i64 (wn:Int)) zb hzp).trans Abe.out.2.1;have n4:¬ ak (M+4) 0:=fun h=>by unfold ak at h;omega
  have hn2:Bc (W1.setCell ⟨pz,4,none⟩ (.int .i64 (wn:Int))) o1 D M pz ps pd ({ z with waited:=wn }:Am):=by
   refine ⟨ML,_,⟨b2,hb.2⟩, ?_,hs.step k2 (KC.self ML.1)⟩;show IE _ _ _ _ z.BB;rw [hrr];rfl
  have AlK:Am.NP K B ({ z with waited:=wn }:Am):=⟨hPH.out.sp,⟨⟨hPH.out.ok.n1,hPH.out.ok.n3,hPH.out.ok.id,hPH.out.ok.ls,hPH.out.ok.cp,hPH.out.ok.pt,hPH.out.ok.se,hPH.out.ok.co⟩,hPH.out.ok.ro⟩⟩;have dr:aj ai (W1.setCell ⟨pz,4,none⟩ (.int .i64 (wn:Int))) o1 (W1.setCell ⟨pz,4,none⟩ (.int .i64 (wn:Int))).drew o1:=(aj.refl ai _ o1).drew;have hst:=ae (Rn (hn2.step0 dr) AlK hK hB);have AlN:=hn2.step0 dr;have e1:=ag (w:=(W1.setCell ⟨pz,4,none⟩ (.int .i64 (wn:Int))).drew) zb2 0;have e2:=ag (w:=(W1.setCell ⟨pz,4,none⟩ (.int .i64 (wn:Int))).drew) b2 4;have e3:=ag (w:=(W1.setCell ⟨pz,4,none⟩ (.int .i64 (wn:Int))).drew) b2 0;simp only [ay] at e1;have hS:=aI e1 (aI (show _=some (Value.int .i64 (wn:Int)) from e2) (show _=some (Value.int .i64 (z.id:Int)) from e3));have hF2:=ae (aI ((Abe.out.1.mono (T':=KC D M) (fun _ h=>h.elim)).trans ((k2.mono (fun k h=>(show KC D M k by cases h;exact KC.own))).trans (dr.mono (fun _ h=>h.elim)))) AlN);have Afc:=ae hR2;clear hb hs hfr c0 c1 c2 c5 c6 b2 k2 zb2 hn2 AlK dr AlN e1 e2 e3 hR2 hwn hid h1 hR hrr;go_enter func53,ntmps53
  go_wp2_with ((with_reducible apply BM);exact xH.out;simp only [Act.put,GL,DL,lss])
  refine AbE.out.mono ?_;rintro e w' ⟨rfl,rfl⟩;have hw1:IntKind.i64.wrap (2*(z.id:Int))=2*(z.id:Int):=by simp [IntKind.wrap,IntKind.bits,IntKind.signed];omega
  have hw2:IntKind.i64.wrap (3+2*(z.id:Int))=3+2*(z.id:Int):=by simp [IntKind.wrap,IntKind.bits,IntKind.signed];omega
  by_cases hgt:3+2*z.id<wn
  ·have hgI:(3:Int)+2*(z.id:Int)<(wn:Int):=by omega
   rw [if_pos hgt] at Afc;go_wp2_with fail;refine Aa (fun w'=>w'.cell? ⟨zb,0,none⟩=some (.pointer (some ⟨pz,0,none⟩))/\w'.cell? ⟨pz,4,none⟩=some (.int .i64 (wn:Int))/\w'.cell? ⟨pz,0,none⟩=some (.int .i64 (z.id:Int))) (fun _=>true) (by kernel_rfl) hS (fun hHeld => ?_);refine tq 0 (h:=tq 1 (h:=tq 2 (h:=tq 3 (h:=tq 4 (h:=tq 5 (h:=tq 6 (h:=tq 7 (h:=tq 8 (h:=tq 9 (h:=tq 10 (h:=tD (h:=?_))))))))))));obtain ⟨e1,e2,e3⟩:=hS;clear hHeld hw1 hw2;go_wp2_with fail;refine hst.out.mono ?_;rintro e w5 ⟨v5,o5,rfl,hs5,hou,hn5⟩;have hF:=ae (aI (hF2.out.1.trans hs5) (aI hou hn5));obtain ⟨xa,xc,rfl⟩:=hou.form;clear hs5 hou hn5 hst;go_wp2_with fail;go_ret;exact ⟨_,o5,rfl,hF.out.1,by rw [Afc.out];exact hF.out.2.1,by rw [Afc.out];exact hF.out.2.2⟩
  ·have hgI:decide ((3:Int)+2*(z.id:Int)<(wn:Int))=false:=decide_eq_false (by omega);rw [if_neg hgt] at Afc;go_wp2_with fail;refine Aa (fun w'=>w'.cell? ⟨zb,0,none⟩=some (.pointer (some ⟨pz,0,none⟩))/\w'.cell? ⟨pz,4,none⟩=some (.int .i64 (wn:Int))/\w'.cell? ⟨pz,0,none⟩=some (.int .i64 (z.id:Int))) (fun _=>true) (by kernel_rfl) hS (fun hHeld => ?_);refine tq 0 (h:=tq 1 (h:=tq 2 (h:=tq 3 (h:=tq 4 (h:=tq 5 (h:=tq 6 (h:=tq 7 (h:=tq 8 (h:=tq 9 (h:=tq 10 (h:=tD (h:=?_))))))))))));clear hHeld hS hst hw1 hw2;go_wp2_with fail;go_ret;exact ⟨_,o1,rfl,hF2.out.1,by rw [Afc.out];exact Dn.nil _ _,by rw [Afc.out];exact hF2.out.2⟩
 | stands mine has =>
  rw [hrr] at hr;obtain ⟨p,rfl,qH⟩:=hr;have hta:=ZG W1 (some ⟨p,0,none⟩);have hR2:R=if 3+2*z.id<z.waited+1 then ({ z with waited:=z.waited+1 }:Am).stand else (({ z with waited:=z.waited+1 }:Am),[]):=by
   rw [<-hR];unfold Am.tick;rw [hrr]
  obtain ⟨wn,hwn⟩:∃ n,z.waited+1=n:=⟨_,rfl⟩;rw [hwn] at hR2;have hwI:(z.waited:Int)+1=(wn:Int):=by omega
  have AyJ:(0:Int)<=(z.waited:Int)/\(z.waited:Int)<=1000000:=by omega
  have hid:z.id<z.n:=hPH.out.ok.id;have AzB:(0:Int)<=(z.id:Int)/\(z.id:Int)<=2:=by omega
  have b2:=Ai (i:=4) (.int .i64 (wn:Int)) hb.1;have k2:=(aj.refl (ak (M+4)) W1 o1).setCell (a:=⟨pz,4,none⟩) (.int .i64 (wn:Int)) (.inl (by show (o1 pz).1=_;rw [hb.2]));have hzp:zb ≠ pz:=fun h=>by have:=hb.2;rw [<-h,Abe.out.2.2] at this;cases this
  have zb2:=(Below.heap_setCell W1 ⟨pz,4,none⟩ (.int .i64 (wn:Int)) zb hzp).trans Abe.out.2.1;have n4:¬ ak (M+4) 0:=fun h=>by unfold ak at h;omega
  have hn2:Bc (W1.setCell ⟨pz,4,none⟩ (.int .i64 (wn:Int))) o1 D M pz ps pd ({ z with waited:=wn }:Am):=by
   refine ⟨ML,_,⟨b2,hb.2⟩, ?_,hs.step k2 (KC.self ML.1)⟩;show IE _ _ _ _ z.BB;rw [hrr];obtain ⟨mb,q1,q2,q3⟩:=qH;have hpp:p ≠ pz:=fun h=>by have:=hb.2;rw [<-h,q2] at this;cases this
   have hmb:mb ≠ pz:=fun h=>by have:=hb.2;rw [<-h,q3.choose_spec.2.1] at this;cases this
   refine ⟨p,rfl,mb,(Below.heap_setCell W1 ⟨pz,4,none⟩ (.int .i64 (wn:Int)) p hpp).trans q1,q2, ?_⟩;obtain ⟨es,g1,g2,g3,g4,g5⟩:=q3;exact ⟨es,(Below.heap_setCell W1 ⟨pz,4,none⟩ (.int .i64 (wn:Int)) mb hmb).trans g1,g2,g3,fun x hx=>by obtain ⟨ls,y1,y2⟩:=g4 x hx;exact ⟨ls,y1,y2.step k2 n4⟩,g5⟩
  have AlK:Am.NP K B ({ z with waited:=wn }:Am):=⟨hPH.out.sp,⟨⟨hPH.out.ok.n1,hPH.out.ok.n3,hPH.out.ok.id,hPH.out.ok.ls,hPH.out.ok.cp,hPH.out.ok.pt,hPH.out.ok.se,hPH.out.ok.co⟩,hPH.out.ok.ro⟩⟩;have dr:aj ai (W1.setCell ⟨pz,4,none⟩ (.int .i64 (wn:Int))) o1 (W1.setCell ⟨pz,4,none⟩ (.int .i64 (wn:Int))).drew o1:=(aj.refl ai _ o1).drew;have hst:=ae (Rn (hn2.step0 dr) AlK hK hB);have AlN:=hn2.step0 dr;have e1:=ag (w:=(W1.setCell ⟨pz,4,none⟩ (.int .i64 (wn:Int))).drew) zb2 0;have e2:=ag (w:=(W1.setCell ⟨pz,4,none⟩ (.int .i64 (wn:Int))).drew) b2 4;have e3:=ag (w:=(W1.setCell ⟨pz,4,none⟩ (.int .i64 (wn:Int))).drew) b2 0;simp only [ay] at e1;have hS:=aI e1 (aI (show _=some (Value.int .i64 (wn:Int)) from e2) (show _=some (Value.int .i64 (z.id:Int)) from e3));have hF2:=ae (aI ((Abe.out.1.mono (T':=KC D M) (fun _ h=>h.elim)).trans ((k2.mono (fun k h=>(show KC D M k by cases h;exact KC.own))).trans (dr.mono (fun _ h=>h.elim)))) AlN);have Afc:=ae hR2;clear hb qH hs hfr c0 c1 c2 c5 c6 b2 k2 zb2 hn2 AlK dr AlN e1 e2 e3 hR2 hwn hid h1 hR hrr;go_enter func53,ntmps53
  go_wp2_with ((with_reducible apply BM);exact xH.out;simp only [Act.put,GL,DL,lss])
  refine AbE.out.mono ?_;rintro e w' ⟨rfl,rfl⟩;have hw1:IntKind.i64.wrap (2*(z.id:Int))=2*(z.id:Int):=by simp [IntKind.wrap,IntKind.bits,IntKind.signed];omega
  have hw2:IntKind.i64.wrap (3+2*(z.id:Int))=3+2*(z.id:Int):=by simp [IntKind.wrap,IntKind.bits,IntKind.signed];omega
  by_cases hgt:3+2*z.id<wn
  ·have hgI:(3:Int)+2*(z.id:Int)<(wn:Int):=by omega
   rw [if_pos hgt] at Afc;go_wp2_with fail;refine Aa (fun w'=>w'.cell? ⟨zb,0,none⟩=some (.pointer (some ⟨pz,0,none⟩))/\w'.cell? ⟨pz,4,none⟩=some (.int .i64 (wn:Int))/\w'.cell? ⟨pz,0,none⟩=some (.int .i64 (z.id:Int))) (fun _=>true) (by kernel_rfl) hS (fun hHeld => ?_);refine tq 0 (h:=tq 1 (h:=tq 2 (h:=tq 3 (h:=tq 4 (h:=tq 5 (h:=tq 6 (h:=tq 7 (h:=tq 8 (h:=tq 9 (h:=tq 10 (h:=tD (h:=?_))))))))))));obtain ⟨e1,e2,e3⟩:=hS;clear hHeld hw1 hw2;go_wp2_with fail;refine hst.out.mono ?_;rintro e w5 ⟨v5,o5,rfl,hs5,hou,hn5⟩;have hF:=ae (aI (hF2.out.1.trans hs5) (aI hou hn5));obtain ⟨xa,xc,rfl⟩:=hou.form;clear hs5 hou hn5 hst;go_wp2_with fail;go_ret;exact ⟨_,o5,rfl,hF.out.1,by rw [Afc.out];exact hF.out.2.1,by rw [Afc.out];exact hF.out.2.2⟩
  ·have hgI:decide ((3:Int)+2*(z.id:Int)<(wn:Int))=false:=decide_eq_false (by omega);rw [if_neg hgt] at Afc;go_wp2_with fail;refine Aa (fun w'=>w'.cell? ⟨zb,0,none⟩=some (.pointer (some ⟨pz,0,none⟩))/\w'.cell? ⟨pz,4,none⟩=some (.int .i64 (wn:Int))/\w'.cell? ⟨pz,0,none⟩=some (.int .i64 (z.id:Int))) (fun _=>true) (by kernel_rfl) hS (fun hHeld => ?_);refine tq 0 (h:=tq 1 (h:=tq 2 (h:=tq 3 (h:=tq 4 (h:=tq 5 (h:=tq 6 (h:=tq 7 (h:=tq 8 (h:=tq 9 (h:=tq 10 (h:=tD (h:=?_))))))))))));clear hHeld hS hst hw1 hw2;go_wp2_with fail;go_ret;exact ⟨_,o1,rfl,hF2.out.1,by rw [Afc.out];exact Dn.nil _ _,by rw [Afc.out];exact hF2.out.2⟩
def New (w:World) (o:Own) (k:Nat) (W:World) (oW:Own):Prop:=aj ai w o W oW/\W.heap.size=w.heap.size+k
def At0 (W:World) (oW:Own) (b:Nat) (ob:Obj):Prop:=W.heap[b]?=some ob/\(oW b).1=0
theorem At0.step {T:Nat->Prop} {w w':World} {o o':Own} {b:Nat} {ob:Obj} (h:At0 w o b ob) (s:aj T w o w' o') (h0:¬ T 0):At0 w' o' b ob:=
 ⟨(s.block b (au h.1) (by rw [h.2];exact h0)).trans h.1,by rw [s.own b (au h.1)];exact h.2⟩
section
variable (w:World) (o:Own)
theorem AaC (a:Obj):∃ W oW,w.alloc a=W/\New w o 1 W oW/\At0 W oW w.heap.size a:=
 ⟨_,_,rfl,⟨(aj.refl ai w o).alloc a (0,0),by simp⟩,heap_alloc_new w a,by rw [Au]⟩
theorem Ajq (a b:Obj):∃ W oW,(w.alloc a).alloc b=W/\New w o 2 W oW/\At0 W oW w.heap.size a/\At0 W oW (w.heap.size+1) b:=by
 obtain ⟨W,oW,rfl,h1,h2⟩:=AaC w o a;obtain ⟨V,oV,hV,h3,h4⟩:=AaC (w.alloc a) oW b;rw [h1.2] at h4;exact ⟨V,oV,hV,⟨h1.1.trans h3.1,by rw [h3.2,h1.2]⟩,h2.step h3.1 id,h4⟩
theorem Ajp (a b c:Obj):∃ W oW,((w.alloc a).alloc b).alloc c=W/\New w o 3 W oW/\At0 W oW w.heap.size a/\At0 W oW (w.heap.size+1) b/\At0 W oW (w.heap.size+1+1) c:=by
 obtain ⟨W,oW,rfl,h1,h2,h5⟩:=Ajq w o a b;obtain ⟨V,oV,hV,h3,h4⟩:=AaC ((w.alloc a).alloc b) oW c;rw [h1.2] at h4;exact ⟨V,oV,hV,⟨h1.1.trans h3.1,by rw [h3.2,h1.2]⟩,h2.step h3.1 id,h5.step h3.1 id,h4⟩
end
theorem At0.cell {W:World} {oW:Own} {b:Nat} {cs:List Value} {E:TypeId} {fr:Nat × Nat} (h:At0 W oW b (.cells cs.toArray E fr)) (i:Nat):W.cell? ⟨b,i,none⟩=cs[i]?:=ag h.1 i
theorem At0.store {P:Program} {w W:World} {o oW:Own} {b:Nat} {cs:List Value} {E:TypeId} (h:At0 W oW b (.cells cs.toArray E (0,0))) (s:aj ai w o W oW) (hn:w.heap.size<=b) {ty:TypeId} {vs:List Value} (hl:vs.length=cs.length)
  (hi:(P.info? ty).map (·.size)=some vs.length) (h1:vs.all (·.oneCell')=true) :
  ∃ V,(Instr.storeAt ty (.pointer (some ⟨b,0,none⟩)) (.agg vs.toArray)).run P W = .ok () V/\aj ai w o V oW/\At0 V oW b (.cells vs.toArray E (0,0))/\(∀ k,k ≠ b->V.heap[k]?=W.heap[k]?)/\V.heap.size=W.heap.size:=by
 obtain ⟨h2,h3⟩:=Ba h.1 hl hi h1;exact ⟨_,h2,s.setCells b 0 vs (.inr hn),⟨h3,h.2⟩,fun k hk=>ah b vs 0 W k hk,by rw [size_setCells]⟩
def AtT (W:World) (oW:Own) (b:Nat) (ob:Obj) (t:Nat × Nat):Prop:=W.heap[b]?=some ob/\oW b=t
theorem AtT.step {T:Nat->Prop} {w w':World} {o o':Own} {b:Nat} {ob:Obj} {t:Nat × Nat} (h:AtT w o b ob t) (s:aj T w o w' o') (ht:¬ T t.1):AtT w' o' b ob t:=
 ⟨(s.block b (au h.1) (by rw [h.2];exact ht)).trans h.1,(s.own b (au h.1)).trans h.2⟩
theorem Akp (w:World) (o:Own) (a:Obj) (t:Nat × Nat):∃ W oW,w.alloc a=W/\New w o 1 W oW/\AtT W oW w.heap.size a t:=
 ⟨_,_,rfl,⟨(aj.refl ai w o).alloc a t,by simp⟩,heap_alloc_new w a,Au _ _ _⟩
theorem AtT.store {P:Program} {W:World} {oW:Own} {b:Nat} {cs:List Value} {E:TypeId} {t:Nat × Nat} (h:AtT W oW b (.cells cs.toArray E (0,0)) t) {ty:TypeId} {vs:List Value} (hl:vs.length=cs.length)
  (hi:(P.info? ty).map (·.size)=some vs.length) (h1:vs.all (·.oneCell')=true) :
  ∃ V,(Instr.storeAt ty (.pointer (some ⟨b,0,none⟩)) (.agg vs.toArray)).run P W = .ok () V/\aj (ak t.1) W oW V oW/\(∀ {T:Nat->Prop} {w:World} {o:Own},aj T w o W oW->w.heap.size<=b->aj T w o V oW)/\AtT V oW b (.cells vs.toArray E (0,0)) t:=by
 obtain ⟨h2,h3⟩:=Ba h.1 hl hi h1;exact ⟨_,h2,(aj.refl _ W oW).setCells b 0 vs (.inl (by rw [h.2];rfl)),fun s hn=>s.setCells b 0 vs (.inr hn),h3,h.2⟩
theorem Bc.cell {w:World} {o:Own} {D M pz ps pd:Nat} {z:Am} (h:Bc w o D M pz ps pd z) :
  w.cell? ⟨pz,0,none⟩=some (.int .i64 (z.id:Int))/\w.cell? ⟨pz,1,none⟩=some (.int .i64 (z.n:Int))/\w.cell? ⟨pz,2,none⟩=some (.pointer (some ⟨ps,0,none⟩))/\w.cell? ⟨pz,4,none⟩=some (.int .i64 (z.waited:Int))/\w.cell? ⟨pz,5,none⟩=some (.int .u64 (z.seen.toNat:Int))/\w.cell? ⟨pz,6,none⟩=some (.int .i64 (z.Ag:Int)):=by
 obtain ⟨-,rv,hb, -⟩:=h;obtain ⟨⟨c0,c1,c2, -,c4,c5,c6⟩, -⟩:=hb.cells;exact ⟨c0,c1,c2,c4,c5,c6⟩
theorem Bc.store {w:World} {o:Own} {D M pz ps pd:Nat} {z:Am} (h:Bc w o D M pz ps pd z):Bi w o (M+1) (M+2) (M+3) D ps pd 0 z.s:=by
 obtain ⟨-,rv, -, -,hs⟩:=h;exact hs
theorem Bc.tags {w:World} {o:Own} {D M pz ps pd:Nat} {z:Am} (h:Bc w o D M pz ps pd z):D<=M/\D ≠ 0:=h.1
theorem Bc.restore {w w':World} {o o':Own} {D M pz ps pd:Nat} {z:Am} (h:Bc w o D M pz ps pd z) (s:aj (qG (M+1) (M+2) (M+3) D) w o w' o') {s':AZ} (hs:Bi w' o' (M+1) (M+2) (M+3) D ps pd 0 s') :
  Bc w' o' D M pz ps pd { z with s:=s' }:=by
 obtain ⟨ML,rv,hb,hr, -⟩:=h;have nZ:¬ qG (M+1) (M+2) (M+3) D (M+4):=KC.WZ ML.1 ML.2;have n0:¬ qG (M+1) (M+2) (M+3) D 0:=fun h=>by unfold qG at h;have:=ML.2;omega
 exact ⟨ML,rv,hb.step s nZ,hr.step s nZ n0,hs⟩
theorem n04 {D M:Nat} (h:D<=M/\D ≠ 0):¬ qG (M+1) (M+2) (M+3) D 0:=fun h'=>by unfold qG at h';have:=h.2;omega
section
variable {w:World} {o:Own} {D M pz ps pd K B base:Nat} {z:Am}
theorem QQ (h:Bc w o D M pz ps pd z) (hp:Am.NP K B z) (hK:K+600<65536) (hB:B<=90000) (src:Nat) (m:BG) (hm:m.May) {lv:Value} (hl:Lines w o base lv m.ls) :
  Calls prog 149 #[.pointer (some ⟨pz,0,none⟩), .int .i64 (src:Int),Ea m lv] w (XL (KC D M) w o fun v w' o'=>Dn w' o' v (Ed (z.BK src m).2)/\Bc w' o' D M pz ps pd (z.BK src m).1):=by
 obtain ⟨R,hR⟩:∃ R,z.BK src m=R:=⟨_,rfl⟩;rw [hR];unfold Am.BK at hR;obtain ⟨la,lc,hlv⟩:=hl.form;obtain ⟨n,hn⟩:∃ n,m.ls.length=n:=⟨_,rfl⟩;rw [hn] at hlv;subst hlv;have hn3:z.n<=3:=hp.ok.n3;have hn1:1<=z.n:=hp.ok.n1;have hls:En B z.s.kept.lines:=hp.ok.ls;have hsm:=En.small hls (by omega);have s1:=(aj.refl ai w o).alloc (.cells (Bf m (.slice la n lc)).toArray 150) (0,0);have gI:=heap_alloc_new w (.cells (Bf m (.slice la n lc)).toArray 150);have mo1:=Au o w.heap.size (0,0);generalize Ak o w.heap.size (0,0)=o1 at *;obtain ⟨W1,hW1⟩:∃ W1,w.alloc (.cells (Bf m (.slice la n lc)).toArray 150)=W1:=⟨_,rfl⟩;rw [hW1] at s1 gI;have hbx:(Instr.box 150 (Ea m (.slice la n lc))).run prog w = .ok (.pointer (some ⟨w.heap.size,0,none⟩)) W1:=by rw [<-hW1];kernel_rfl
 obtain ⟨mb,hmb⟩:∃ b,w.heap.size=b:=⟨_,rfl⟩;rw [hmb] at gI mo1 hbx;have h1:=h.step0 s1;have hl1:=hl.step s1 id;obtain ⟨-, -,e2, -⟩:=h1.cell;unfold Ea at hbx ⊢;have xH:=ae hbx;have hkp:=ae (DJ h1.store hsm);have hA:=ae (aI s1 (aI gI (aI mo1 (aI h1 hl1))));have hPH:=ae hp;have hmH:=ae hm;have hI:=ae (aI hn3 (aI hn1 (aI hls hsm)));have hnH:=ae hn;clear s1 gI mo1 h1 hl1 hW1 hmb hbx h hl hp hm hn3 hn1 hls hsm hn;go_enter func149,ntmps149
 go_wp2_with ((with_reducible apply BM);exact xH.out;simp only [Act.put,GL,DL,lss])
 refine hkp.out.mono ?_;rintro ex w2 ⟨v2,o2,rfl,hs2,lk,rfl,hlk,rfl⟩;obtain ⟨ka,kc,rfl⟩:=hlk.form;obtain ⟨L,hL⟩:∃ L,z.s.kept.lines.length=L:=⟨_,rfl⟩;have kal:=AB (P:=prog) w2 37 _ OZ;have kst:=MX w2 z.s.kept.promised z.s.kept.current ka L kc;have k3:=(aj.refl ai w2 (ext W1 o1)).alloc (.cells (BR z.s.kept.promised z.s.kept.current (.slice ka L kc)).toArray 37) (0,0);have kb3:=heap_alloc_new w2 (.cells (BR z.s.kept.promised z.s.kept.current (.slice ka L kc)).toArray 37);have ko3:=Au (ext W1 o1) w2.heap.size (0,0);generalize Ak (ext W1 o1) w2.heap.size (0,0)=o3 at *;obtain ⟨W3,hW3⟩:∃ W3,w2.alloc (.cells (BR z.s.kept.promised z.s.kept.current (.slice ka L kc)).toArray 37)=W3:=⟨_,rfl⟩;rw [hW3] at kst k3 kb3;obtain ⟨kb,hkb⟩:∃ b,w2.heap.size=b:=⟨_,rfl⟩;rw [hkb] at kal kst kb3 ko3;obtain ⟨s1,gI,mo1,h1,hl1⟩:=hA.out;have k13:=hs2.trans k3;have h3:=h1.step0 k13;have mb3:=(k13.block _ (au gI) id).trans gI;have mo3:=(k13.own _ (au gI)).trans mo1;have hl3:=hl1.step k13 id;have Ade:=(hlk.step k3 id).low (Nat.zero_le _);have st3:=s1.trans k13;rw [hL] at Ade;obtain ⟨m0,m1,m2,m3,m4,m5⟩:=Gt mb3;have kc0:=ag kb3 0;have kc1:=ag kb3 1;have kc2:=ag kb3 2;simp only [BR,ay,ax] at kc0 kc1 kc2;have how:=ae (PM h3 hI.out.2.1 hI.out.1 src m.e);have hQ:=ae (aI st3 (aI mb3 (aI mo3 (aI h3 (aI hl3 (aI kb3 (aI ko3 Ade)))))));have AiS:=ae kal;have AiR:=ae kst;rw [hL];clear hs2 hlk kal kst k3 kb3 ko3 hW3 hkb s1 gI mo1 h1 hl1 k13 h3 mb3 mo3 hl3 Ade st3 hkp e2
 go_wp2_with (first
  | ((with_reducible apply AU);exact AiS.out;simp only [Act.put,GL,DL,lss])
  | ((with_reducible apply AC);exact AiR.out;simp only [Act.put]))
 refine how.out.mono ?_;rintro ex w' ⟨rfl,rfl⟩
 cases ho:z.BN.owns src m.e with
 | false =>
  rw [ho] at hR;simp only [Bool.not_false,if_true] at hR;have KI:=ae hR;clear ho hR;go_wp2_with fail;go_ret;refine ⟨_,o3,rfl,hQ.out.1.mono (fun _ h=>h.elim), ?_, ?_⟩
  ·rw [<-KI.out];exact Dn.nil _ _
  ·rw [<-KI.out];exact hQ.out.2.2.2.1
 | true =>
  rw [ho] at hR;simp only [Bool.not_true,Bool.false_eq_true,if_false] at hR;clear ho;have hkk:z.BN.k=z.s.kept:=rfl;have hpt:z.s.kept.promised.toNat<=281474976710656:=hPH.out.ok.pt
  by_cases hle:m.e.toNat<=z.s.kept.promised.toNat
  ·rw [if_pos hle] at hR;have KI:=ae hR;have Ama:(m.e.toNat:Int)<=(z.s.kept.promised.toNat:Int):=by omega
   have hrf:=ae (Lt hQ.out.2.2.2.1 hI.out.2.2.2 (by have:=hmH.out.e1;omega) hpt src);clear hR;go_wp2_with fail;refine hrf.out.mono ?_;rintro ex w4 ⟨v4,o4,rfl,hs4,hou⟩;have hF:=ae (aI (hQ.out.1.trans hs4) (aI hou (hQ.out.2.2.2.1.step0 hs4)));obtain ⟨xa,xc,rfl⟩:=hou.form;clear hs4 hou hrf;go_wp2_with fail;go_ret;refine ⟨_,o4,rfl,hF.out.1.mono (fun _ h=>h.elim), ?_, ?_⟩
   ·rw [<-KI.out];exact hF.out.2.1
   ·rw [<-KI.out];exact hF.out.2.2
  ·rw [if_neg hle] at hR;have Ama:¬ (m.e.toNat:Int)<=(z.s.kept.promised.toNat:Int):=by omega
   obtain ⟨st3,mb3,mo3,h3,hl3,kb3,ko3,Ade⟩:=hQ.out;have dr:aj ai W3 o3 W3.drew o3:=(aj.refl ai W3 o3).drew;have hpr:=Jb h3.tags (h3.step0 dr).store hPH.out.sp hI.out.2.2.2 m.e;obtain ⟨-, -,e2, -⟩:=(h3.step0 dr).cell;have q1:=ag (w:=W3.drew) mb3 1;have hS:=aI e2 (show W3.drew.cell? ⟨mb,1,none⟩=some (.int .u64 (m.e.toNat:Int)) from q1);have hfit:=AcS hPH.out.sp hK hPH.out.kok m.e;obtain ⟨Q,hQQ⟩:∃ Q,z.s.promise m.e=Q:=⟨_,rfl⟩;simp only [hQQ] at hpr hfit hR;have AiZ:=ae hpr;have hD3:=ae (h3.step0 dr);clear st3 mb3 mo3 h3 hl3 kb3 ko3 Ade dr hpr e2 q1;have hgo:∀ (W6:World) (o6:Own),aj (qG (M+1) (M+2) (M+3) D) W3.drew o3 W6 o6->Bi W6 o6 (M+1) (M+2) (M+3) D ps pd 0 Q.1 ->
     (W6.cell? ⟨pz,2,none⟩=some (.pointer (some ⟨ps,0,none⟩))/\W6.cell? ⟨mb,1,none⟩=some (.int .u64 (m.e.toNat:Int)))/\(W6.heap[mb]?=some (.cells (Bf m (.slice la n lc)).toArray 150 (0,0))/\W6.heap[kb]?=some (.cells (BR z.s.kept.promised z.s.kept.current (.slice ka L kc)).toArray 37 (0,0))/\(o6 mb).1=0/\(o6 kb).1=0/\Lines W6 o6 0 (.slice ka L kc) z.s.kept.lines/\aj (KC D M) w o W6 o6/\Bc W6 o6 D M pz ps pd { z with s:=Q.1 }):=by
    intro W6 o6 hs6 pW;obtain ⟨st3,mb3,mo3,h3,hl3,kb3,ko3,Ade⟩:=hQ.out;have dr:aj ai W3 o3 W3.drew o3:=(aj.refl ai W3 o3).drew;have n0:=n04 h3.tags;have mb6:=(hs6.block mb (au mb3) (by rw [mo3];exact n0)).trans mb3;have kb6:=(hs6.block kb (au kb3) (by rw [ko3];exact n0)).trans kb3;have h6:=hD3.out.restore hs6 pW;obtain ⟨-, -,e2, -⟩:=h6.cell;exact ⟨⟨e2,ag mb6 1⟩,mb6,kb6,by rw [hs6.own mb (au mb3),mo3],by rw [hs6.own kb (au kb3),ko3],(Ade.step dr id).step hs6 n0,((st3.trans dr).mono (fun _ h=>h.elim)).trans (hs6.mono KC.in4),h6⟩
   have Aab:=ae hgo;clear hgo
   rcases hfit with ⟨s',er,hf2,hf1⟩ | ⟨hf0,s',hf2,hf3,hf4⟩
   ·subst hf2;have hz1:(er == 0)=false:=by simpa using hf1
    have hz2:(er != 0)=true:=by simpa using hf1
    rw [if_neg (show ¬ (s',er).2=0 from hf1)] at hR;have KI:=ae hR;clear hR;go_wp2_with fail;clear m0 m1 m2 m3 m4 m5 kc0 kc1 kc2;refine Aa (fun w'=>w'.cell? ⟨pz,2,none⟩=some (.pointer (some ⟨ps,0,none⟩))/\w'.cell? ⟨mb,1,none⟩=some (.int .u64 (m.e.toNat:Int))) (fun _=>true) (by kernel_rfl) hS (fun hHeld => ?_);refine tq 0 (h:=tq 1 (h:=tq 2 (h:=tq 3 (h:=tq 4 (h:=tq 5 (h:=tO 6 (h:=?_)))))));go_wp2_with fail;refine AiZ.out.mono ?_;rintro ex W6 ⟨v6,o6,rfl,hs6,rfl,pW⟩;have hG6:=ae (Aab.out W6 o6 hs6 pW);have hS6:=hG6.out.1;clear hs6 pW hHeld hS;go_wp2_with fail;refine ⟨fun _=>hS6, ?_⟩;refine tq 7 (h:=tq 8 (h:=tD (h:=?_)));clear hS6;go_wp2_with fail;go_ret;refine ⟨_,o6,rfl,hG6.out.2.2.2.2.2.2.1, ?_, ?_⟩
    ·rw [<-KI.out];exact Dn.nil _ _
    ·rw [<-KI.out];exact hG6.out.2.2.2.2.2.2.2
   ·subst hf2;rw [if_pos rfl] at hR;have KI:=ae hR;clear hR;go_wp2_with fail;clear m0 m1 m2 m3 m4 m5 kc0 kc1 kc2;refine Aa (fun w'=>w'.cell? ⟨pz,2,none⟩=some (.pointer (some ⟨ps,0,none⟩))/\w'.cell? ⟨mb,1,none⟩=some (.int .u64 (m.e.toNat:Int))) (fun _=>true) (by kernel_rfl) hS (fun hHeld => ?_);refine tq 0 (h:=tq 1 (h:=tq 2 (h:=tq 3 (h:=tq 4 (h:=tq 5 (h:=tO 6 (h:=?_)))))));go_wp2_with fail;refine AiZ.out.mono ?_;rintro ex W6 ⟨v6,o6,rfl,hs6,rfl,pW⟩;have hG6:=ae (Aab.out W6 o6 hs6 pW);have hS6:=hG6.out.1;clear hs6 pW hHeld hS;go_wp2_with fail;refine ⟨fun _=>hS6, ?_⟩;refine tq 7 (h:=tq 8 (h:=tD (h:=?_)));clear hS6;have hfo:=ae (FD hG6.out.2.2.2.2.2.2.2);go_wp2_with fail;refine hfo.out.mono ?_;rintro ex W7 ⟨v7,o7,rfl,hs7,rfl,hn7⟩;obtain ⟨-,mb6,kb6,mo6,ko6,hl6,st6,h6⟩:=hG6.out;have n4:¬ ak (M+4) 0:=fun h=>by unfold ak at h;omega
    have mb7:=(hs7.block mb (au mb6) (by rw [mo6];exact n4)).trans mb6;have kb7:=(hs7.block kb (au kb6) (by rw [ko6];exact n4)).trans kb6;have q1:=ag mb7 1;have q2:=ag kb7 1;have q3:=ag kb7 2;simp only [Bf,BR,ay,ax] at q1 q2 q3;have wY:=hl6.step hs7 n4;have hok:=hPH.out.ok;have hcp:z.s.kept.current.toNat<=z.s.kept.promised.toNat:=hok.cp;have htl:=LZ (w:=W7) (o:=o7) ⟨2,m.e,z.s.kept.current,0,0,z.s.kept.lines⟩ (Aj.Ox hmH.out.e1 hmH.out.e2 (by omega) hI.out.2.2.1) wY src;unfold Ea at htl;have sO:=ae htl;have hF7:=ae (aI (st6.trans (hs7.mono (T':=KC D M) (fun k h=>(show KC D M k by cases h;exact KC.own)))) hn7);clear hs7 hn7 mb6 kb6 mo6 ko6 hl6 st6 h6 mb7 kb7 wY hok htl hfo;go_wp2_with fail;refine sO.out.mono ?_;rintro ex W8 ⟨v8,o8,rfl,hs8,bv,rfl,hby⟩;have hbs:=ae (Nq W8 (src:Int) bv);have hF8:=ae (aI ((hF7.out.1.trans (hs8.mono (fun _ h=>h.elim))).alloc (.cells [.int .i64 (src:Int),bv].toArray 146) (0,0)) (aI (PN (to:=src) hby) (hF7.out.2.step0 (hs8.alloc (.cells [.int .i64 (src:Int),bv].toArray 146) (0,0)))));obtain ⟨ba,bc,rfl⟩:=Aq hby;clear hs8 hby sO;unfold YC
    go_wp2_with ((with_reducible apply BO #[(0, .agg #[.int .i64 (src:Int), .slice ba _ bc])] rfl);exact hbs.out;simp only [Act.put,GL,DL,lss])
    go_ret;refine ⟨_,_,rfl,hF8.out.1, ?_, ?_⟩
    ·rw [<-KI.out];exact hF8.out.2.1
    ·rw [<-KI.out];exact hF8.out.2.2
end
section
variable {w:World} {o:Own} {D M pz ps pd Z:Nat}
theorem IE.iE {rv:Value} {r:Adl} (h:IE w o Z rv r) (ho:o pz=(Z,0)) (hZ:Z ≠ 0) (i:Nat) (v:Value):IE (w.setCell ⟨pz,i,none⟩ v) o Z rv r:=by
 have k:=(aj.refl (ak Z) w o).setCell (a:=⟨pz,i,none⟩) v (.inl (by show (o pz).1=_;rw [ho]));have n4:¬ ak Z 0:=fun h=>hZ h.symm;have other:∀ b t,o b=(Z,t)->t ≠ 0->(w.setCell ⟨pz,i,none⟩ v).heap[b]?=w.heap[b]?:=by
  intro b t hb ht;refine Below.heap_setCell w ⟨pz,i,none⟩ v b ?_;rintro rfl;rw [ho] at hb;cases hb;exact ht rfl
 cases r with
 | follows=>exact h
 | stands mine has =>
  obtain ⟨p,h1,mb,h2,h3,es,h4,h5,h6,h7,h8⟩:=h;exact ⟨p,h1,mb,(other p 1 h3 (by omega)).trans h2,h3,es,(other mb 2 h5 (by omega)).trans h4,h5,h6,fun x hx=>by obtain ⟨ls,a,b⟩:=h7 x hx;exact ⟨ls,a,b.step k n4⟩,h8⟩
 | leads mine nR base ready =>
  obtain ⟨p,h1,b,cap,h2,h3,h4,h5,h6⟩:=h;exact ⟨p,h1,b,cap,(other p 1 h3 (by omega)).trans h2,h3,(other b 2 h5 (by omega)).trans h4,h5,h6⟩
theorem Bc.put {z z':Am} (h:Bc w o D M pz ps pd z) (i:Nat) (v:Value) (hc:∀ rv,(IL z.id z.n ps rv z.waited z.seen z.Ag).set i v=IL z'.id z'.n ps rv z'.waited z'.seen z'.Ag) (hr:z'.BB=z.BB) (hs:z'.s=z.s) :
  Bc (w.setCell ⟨pz,i,none⟩ v) o D M pz ps pd z'/\aj (ak (M+4)) w o (w.setCell ⟨pz,i,none⟩ v) o:=by
 obtain ⟨ML,rv,hb,hro,hst⟩:=h;have k:=(aj.refl (ak (M+4)) w o).setCell (a:=⟨pz,i,none⟩) v (.inl (by show (o pz).1=_;rw [hb.2]));refine ⟨⟨ML,rv,⟨?_,hb.2⟩,by rw [hr];exact hro.iE hb.2 (by omega) i v,by rw [hs];exact hst.step k (KC.self ML.1)⟩,k⟩;have h:=Ai (i:=i) v hb.1;rw [hc rv] at h;exact h
theorem Bc.Ag {z:Am} (h:Bc w o D M pz ps pd z) (c:Nat):Bc (w.setCell ⟨pz,6,none⟩ (.int .i64 (c:Int))) o D M pz ps pd { z with Ag:=c }/\aj (ak (M+4)) w o (w.setCell ⟨pz,6,none⟩ (.int .i64 (c:Int))) o:=
 h.put 6 _ (fun _=>rfl) rfl rfl
theorem Bc.seen {z:Am} (h:Bc w o D M pz ps pd z) (e:BitVec 64):Bc (w.setCell ⟨pz,5,none⟩ (.int .u64 (e.toNat:Int))) o D M pz ps pd { z with seen:=e }/\aj (ak (M+4)) w o (w.setCell ⟨pz,5,none⟩ (.int .u64 (e.toNat:Int))) o:=
 h.put 5 _ (fun _=>rfl) rfl rfl
theorem Bc.free {z:Am} (h:Bc w o D M pz ps pd z) (i:Nat):w.frozen? ⟨pz,i,none⟩=false:=by
 obtain ⟨-,rv,hb, -⟩:=h;exact hb.cells.2.1 i
end
theorem BG.May.small {m:BG} (h:m.May):small m.ls:=⟨Nat.le_trans h.n1 (by omega),Nat.le_trans (NK h) (by omega)⟩
section
variable {w:World} {o:Own} {D M pz ps pd K B base:Nat} {z:Am}
theorem QR (h:Bc w o D M pz ps pd z) (hp:Am.NP K B z) (hK:K+600<65536) (hB:B<=90000) (src:Nat) (m:BG) (hm:m.May) (_hmb:AP m.ls<=90000) {lv:Value} (hl:Lines w o base lv m.ls) :
  Calls prog 152 #[.pointer (some ⟨pz,0,none⟩), .int .i64 (src:Int),Ea m lv] w (XL (KC D M) w o fun v w' o'=>Dn w' o' v (Ed (z.BD src m).2)/\Bc w' o' D M pz ps pd (z.BD src m).1):=by
 obtain ⟨R,hR⟩:∃ R,z.BD src m=R:=⟨_,rfl⟩;rw [hR];unfold Am.BD at hR;obtain ⟨la,lc,hlv⟩:=hl.form;obtain ⟨n,hn⟩:∃ n,m.ls.length=n:=⟨_,rfl⟩;rw [hn] at hlv;subst hlv;have hn3:z.n<=3:=hp.ok.n3;have hn1:1<=z.n:=hp.ok.n1;have hls:En B z.s.kept.lines:=hp.ok.ls;have hsm:=En.small hls (by omega);have s1:=(aj.refl ai w o).alloc (.cells (Bf m (.slice la n lc)).toArray 150) (0,0);have gI:=heap_alloc_new w (.cells (Bf m (.slice la n lc)).toArray 150);have mo1:=Au o w.heap.size (0,0);generalize Ak o w.heap.size (0,0)=o1 at *;obtain ⟨W1,hW1⟩:∃ W1,w.alloc (.cells (Bf m (.slice la n lc)).toArray 150)=W1:=⟨_,rfl⟩;rw [hW1] at s1 gI;have hbx:(Instr.box 150 (Ea m (.slice la n lc))).run prog w = .ok (.pointer (some ⟨w.heap.size,0,none⟩)) W1:=by rw [<-hW1];kernel_rfl
 obtain ⟨mb,hmb⟩:∃ b,w.heap.size=b:=⟨_,rfl⟩;rw [hmb] at gI mo1 hbx;have h1:=h.step0 s1;have hl1:=hl.step s1 id;obtain ⟨-, -,e2, -⟩:=h1.cell;unfold Ea at hbx ⊢;have xH:=ae hbx;have hkp:=ae (DJ h1.store hsm);have hA:=ae (aI s1 (aI gI (aI mo1 (aI h1 hl1))));have hPH:=ae hp;have hmH:=ae hm;have hI:=ae (aI hn3 (aI hn1 (aI hls hsm)));have hnH:=ae hn;clear s1 gI mo1 h1 hl1 hW1 hmb hbx h hl hp hm hn3 hn1 hls hsm hn;go_enter func152,ntmps152
 go_wp2_with ((with_reducible apply BM);exact xH.out;simp only [Act.put,GL,DL,lss])
 refine hkp.out.mono ?_;rintro ex w2 ⟨v2,o2,rfl,hs2,lk,rfl,hlk,rfl⟩;obtain ⟨ka,kc,rfl⟩:=hlk.form;obtain ⟨L,hL⟩:∃ L,z.s.kept.lines.length=L:=⟨_,rfl⟩;have kal:=AB (P:=prog) w2 37 _ OZ;have kst:=MX w2 z.s.kept.promised z.s.kept.current ka L kc;have k3:=(aj.refl ai w2 (ext W1 o1)).alloc (.cells (BR z.s.kept.promised z.s.kept.current (.slice ka L kc)).toArray 37) (0,0);have kb3:=heap_alloc_new w2 (.cells (BR z.s.kept.promised z.s.kept.current (.slice ka L kc)).toArray 37);have ko3:=Au (ext W1 o1) w2.heap.size (0,0);generalize Ak (ext W1 o1) w2.heap.size (0,0)=o3 at *;obtain ⟨W3,hW3⟩:∃ W3,w2.alloc (.cells (BR z.s.kept.promised z.s.kept.current (.slice ka L kc)).toArray 37)=W3:=⟨_,rfl⟩;rw [hW3] at kst k3 kb3;obtain ⟨kb,hkb⟩:∃ b,w2.heap.size=b:=⟨_,rfl⟩;rw [hkb] at kal kst kb3 ko3;obtain ⟨s1,gI,mo1,h1,hl1⟩:=hA.out;have k13:=hs2.trans k3;have h3:=h1.step0 k13;have mb3:=(k13.block _ (au gI) id).trans gI;have mo3:=(k13.own _ (au gI)).trans mo1;have hl3:=hl1.step k13 id;have Ade:=(hlk.step k3 id).low (Nat.zero_le _);have st3:=s1.trans k13;rw [hL] at Ade;obtain ⟨m0,m1,m2,m3,m4,m5⟩:=Gt mb3;have kc0:=ag kb3 0;have kc1:=ag kb3 1;have kc2:=ag kb3 2;simp only [BR,ay,ax] at kc0 kc1 kc2;have how:=ae (PM h3 hI.out.2.1 hI.out.1 src m.e);have hQ:=ae (aI st3 (aI mb3 (aI mo3 (aI h3 (aI hl3 (aI kb3 (aI ko3 Ade)))))));have AiS:=ae kal;have AiR:=ae kst;rw [hL];clear hs2 hlk kal kst k3 kb3 ko3 hW3 hkb s1 gI mo1 h1 hl1 k13 h3 mb3 mo3 hl3 Ade st3 hkp e2
 go_wp2_with (first
  | ((with_reducible apply AU);exact AiS.out;simp only [Act.put,GL,DL,lss])
  | ((with_reducible apply AC);exact AiR.out;simp only [Act.put]))
 refine how.out.mono ?_;rintro ex w' ⟨rfl,rfl⟩
 cases ho:z.BN.owns src m.e with
 | false =>
  rw [ho] at hR;simp only [Bool.not_false,if_true] at hR;have KI:=ae hR;clear ho hR;go_wp2_with fail;go_ret;refine ⟨_,o3,rfl,hQ.out.1.mono (fun _ h=>h.elim), ?_, ?_⟩
  ·rw [<-KI.out];exact Dn.nil _ _
  ·rw [<-KI.out];exact hQ.out.2.2.2.1
 | true =>
  rw [ho] at hR;simp only [Bool.not_true,Bool.false_eq_true,if_false] at hR;clear ho;have hpt:z.s.kept.promised.toNat<=281474976710656:=hPH.out.ok.pt
  by_cases hle:m.e.toNat<z.s.kept.promised.toNat
  ·rw [if_pos hle] at hR;have KI:=ae hR;have Ama:(m.e.toNat:Int)<(z.s.kept.promised.toNat:Int):=by omega
   have hrf:=ae (Lt hQ.out.2.2.2.1 hI.out.2.2.2 (by have:=hmH.out.e1;omega) hpt src);clear hR;go_wp2_with fail;refine hrf.out.mono ?_;rintro ex w4 ⟨v4,o4,rfl,hs4,hou⟩;have hF:=ae (aI (hQ.out.1.trans hs4) (aI hou (hQ.out.2.2.2.1.step0 hs4)));obtain ⟨xa,xc,rfl⟩:=hou.form;clear hs4 hou hrf;go_wp2_with fail;go_ret;refine ⟨_,o4,rfl,hF.out.1.mono (fun _ h=>h.elim), ?_, ?_⟩
   ·rw [<-KI.out];exact hF.out.2.1
   ·rw [<-KI.out];exact hF.out.2.2
  ·rw [if_neg hle] at hR;have Ama:¬ (m.e.toNat:Int)<(z.s.kept.promised.toNat:Int):=by omega
   by_cases hcu:z.s.kept.current=m.e
   ·rw [if_pos hcu] at hR;have KI:=ae hR;have hcI:(z.s.kept.current.toNat:Int)=(m.e.toNat:Int):=by rw [hcu]
    have hF6:=ae (aI (hQ.out.1.mono (T':=KC D M) (fun _ h=>h.elim)) (aI hQ.out.2.1 (show (o3 mb).1=0 by rw [hQ.out.2.2.1])));clear hR hcu;have hfo:=ae (FD hQ.out.2.2.2.1);go_wp2_with fail;refine hfo.out.mono ?_;rintro ex W7 ⟨v7,o7,rfl,hs7,rfl,hn7⟩;have n4:¬ ak (M+4) 0:=fun h=>by unfold ak at h;omega
    have mb7:=(hs7.block mb (au hF6.out.2.1) (by rw [hF6.out.2.2];exact n4)).trans hF6.out.2.1;have q1:=ag mb7 1;simp only [Bf,ay,ax] at q1;have hak:=ae (OY hn7 hI.out.2.2.1.n hI.out.2.2.2 m.e hmH.out.e1 hmH.out.e2 src);have hF7:=ae (aI (hF6.out.1.trans (hs7.mono (T':=KC D M) (fun k h=>(show KC D M k by cases h;exact KC.own)))) hn7);clear hs7 hn7 mb7 hfo;go_wp2_with fail;refine hak.out.mono ?_;rintro ex W8 ⟨v8,o8,rfl,hs8,hou⟩;have hF:=ae (aI (hF7.out.1.trans (hs8.mono (fun _ h=>h.elim))) (aI hou (hF7.out.2.step0 hs8)));obtain ⟨xa,xc,rfl⟩:=hou.form;clear hs8 hou hak;go_wp2_with fail;go_ret;refine ⟨_,o8,rfl,hF.out.1, ?_, ?_⟩
    ·rw [<-KI.out];exact hF.out.2.1
    ·rw [<-KI.out];exact hF.out.2.2
   ·rw [if_neg hcu] at hR;have hcI:¬ (z.s.kept.current.toNat:Int)=(m.e.toNat:Int):=fun h=>hcu (BitVec.eq_of_toNat_eq (by omega));obtain ⟨st3,mb3,mo3,h3,hl3,kb3,ko3,Ade⟩:=hQ.out;have dr:aj ai W3 o3 W3.drew o3:=(aj.refl ai W3 o3).drew;have had:=Pe h3.tags (h3.step0 dr).store hPH.out.sp m.e (hl3.step dr id) hmH.out.small;obtain ⟨-, -,e2, -⟩:=(h3.step0 dr).cell;have q1:=ag (w:=W3.drew) mb3 1;have q5:=ag (w:=W3.drew) mb3 5;have hS:=aI e2 (aI (show W3.drew.cell? ⟨mb,1,none⟩=some (.int .u64 (m.e.toNat:Int)) from q1) (show W3.drew.cell? ⟨mb,5,none⟩=some (.slice la n lc) from q5));have hfit:=KW hPH.out.sp hK hPH.out.kok m.e m.ls;obtain ⟨Q,hQQ⟩:∃ Q,z.s.FO m.e m.ls=Q:=⟨_,rfl⟩;simp only [hQQ] at had hfit hR;have Ako:=ae had;have hD3:=ae (h3.step0 dr);clear st3 mb3 mo3 h3 hl3 kb3 ko3 Ade dr had e2 q1 q5;have hgo:∀ (W6:World) (o6:Own),aj (qG (M+1) (M+2) (M+3) D) W3.drew o3 W6 o6->Bi W6 o6 (M+1) (M+2) (M+3) D ps pd 0 Q.1 ->
      (W6.cell? ⟨pz,2,none⟩=some (.pointer (some ⟨ps,0,none⟩))/\W6.cell? ⟨mb,1,none⟩=some (.int .u64 (m.e.toNat:Int))/\W6.cell? ⟨mb,5,none⟩=some (.slice la n lc))/\(W6.heap[mb]?=some (.cells (Bf m (.slice la n lc)).toArray 150 (0,0))/\(o6 mb).1=0/\aj (KC D M) w o W6 o6/\Bc W6 o6 D M pz ps pd { z with s:=Q.1 }):=by
     intro W6 o6 hs6 pW;obtain ⟨st3,mb3,mo3,h3,hl3,kb3,ko3,Ade⟩:=hQ.out;have dr:aj ai W3 o3 W3.drew o3:=(aj.refl ai W3 o3).drew;have n0:=n04 h3.tags;have mb6:=(hs6.block mb (au mb3) (by rw [mo3];exact n0)).trans mb3;have h6:=hD3.out.restore hs6 pW;obtain ⟨-, -,e2, -⟩:=h6.cell;exact ⟨⟨e2,ag mb6 1,ag mb6 5⟩,mb6,by rw [hs6.own mb (au mb3),mo3],((st3.trans dr).mono (fun _ h=>h.elim)).trans (hs6.mono KC.in4),h6⟩
    have Aab:=ae hgo;clear hgo
    rcases hfit with ⟨s',er,hf2,hf1⟩ | ⟨hf0,s',hf2,hf3,hf4⟩
    ·subst hf2;have hz1:(er == 0)=false:=by simpa using hf1
     have hz2:(er != 0)=true:=by simpa using hf1
     rw [if_neg (show ¬ (s',er).2=0 from hf1)] at hR;have KI:=ae hR;clear hR;go_wp2_with fail;clear m0 m1 m2 m3 m4 m5 kc0 kc1 kc2;refine Aa (fun w'=>w'.cell? ⟨pz,2,none⟩=some (.pointer (some ⟨ps,0,none⟩))/\w'.cell? ⟨mb,1,none⟩=some (.int .u64 (m.e.toNat:Int))/\w'.cell? ⟨mb,5,none⟩=some (.slice la n lc)) (fun _=>true) (by kernel_rfl) hS (fun hHeld => ?_);refine tq 0 (h:=tq 1 (h:=tq 2 (h:=tq 3 (h:=tq 4 (h:=tq 5 (h:=tq 6 (h:=tq 7 (h:=tO 8 (h:=?_)))))))));go_wp2_with fail;refine Ako.out.mono ?_;rintro ex W6 ⟨v6,o6,rfl,hs6,rfl,pW⟩;have hG6:=ae (Aab.out W6 o6 hs6 pW);have hS6:=hG6.out.1;clear hs6 pW hHeld hS;go_wp2_with fail;refine ⟨fun _=>hS6, ?_⟩;refine tq 9 (h:=tD (h:=?_));clear hS6;go_wp2_with fail;go_ret;refine ⟨_,o6,rfl,hG6.out.2.2.2.1, ?_, ?_⟩
     ·rw [<-KI.out];exact Dn.nil _ _
     ·rw [<-KI.out];exact hG6.out.2.2.2.2
    ·subst hf2;rw [if_pos rfl] at hR;have KI:=ae hR;clear hR;go_wp2_with fail;clear m0 m1 m2 m3 m4 m5 kc0 kc1 kc2;refine Aa (fun w'=>w'.cell? ⟨pz,2,none⟩=some (.pointer (some ⟨ps,0,none⟩))/\w'.cell? ⟨mb,1,none⟩=some (.int .u64 (m.e.toNat:Int))/\w'.cell? ⟨mb,5,none⟩=some (.slice la n lc)) (fun _=>true) (by kernel_rfl) hS (fun hHeld => ?_);refine tq 0 (h:=tq 1 (h:=tq 2 (h:=tq 3 (h:=tq 4 (h:=tq 5 (h:=tq 6 (h:=tq 7 (h:=tO 8 (h:=?_)))))))));go_wp2_with fail;refine Ako.out.mono ?_;rintro ex W6 ⟨v6,o6,rfl,hs6,rfl,pW⟩;have hG6:=ae (Aab.out W6 o6 hs6 pW);have hS6:=hG6.out.1;clear hs6 pW hHeld hS;go_wp2_with fail;refine ⟨fun _=>hS6, ?_⟩;refine tq 9 (h:=tD (h:=?_));clear hS6;obtain ⟨hS6,mb6,mo6,st6,h6⟩:=hG6.out;have dr:aj ai W6 o6 W6.drew o6:=(aj.refl ai W6 o6).drew;obtain ⟨V,hV⟩:∃ V,W6.drew=V:=⟨_,rfl⟩;rw [hV] at dr;have hV6:=h6.step0 dr;have mbV:=(dr.block _ (au mb6) id).trans mb6;obtain ⟨-, -, -, -, -,e6⟩:=hV6.cell;have f6:=hV6.free 6;have q5:V.cell? ⟨mb,5,none⟩=some (.slice la n lc):=ag mbV 5;obtain ⟨hcm,kcm⟩:=hV6.Ag (min z.Ag n);have n4:¬ ak (M+4) 0:=fun h=>by unfold ak at h;omega
     have hF6:=ae (aI ((st6.trans (dr.mono (T':=KC D M) (fun _ h=>h.elim))).trans (kcm.mono (T':=KC D M) (fun k h=>(show KC D M k by cases h;exact KC.own)))) (aI ((kcm.block mb (au mbV) (by rw [mo6];exact n4)).trans mbV) mo6));have AdS:=ae hcm;have hS9:=aI (show V.cell? ⟨pz,6,none⟩=some (.int .i64 (z.Ag:Int)) from e6) q5;rw [<-hV] at hS9;have hmn:min (z.Ag:Int) (n:Int)=((min z.Ag n:Nat):Int):=by omega
     have Amn:(0:Int)<=(z.Ag:Int)/\(z.Ag:Int)<=256:=by
      have h1:z.Ag<=z.s.kept.lines.length:=hPH.out.ok.co;have:=hI.out.2.2.1.n;omega
     have hnI:(0:Int)<=(n:Int)/\(n:Int)<=256:=by have:=hmH.out.n1;have:=hnH.out;omega
     have hk':s'.kept.lines=m.ls:=by rw [hf4,IZ hf0]
     have AnY:=ae hk';clear hS6 mb6 mo6 st6 h6 dr hV6 mbV hcm kcm n4 hk';go_wp2_with fail;refine Aa (fun w'=>w'.cell? ⟨pz,6,none⟩=some (.int .i64 (z.Ag:Int))/\w'.cell? ⟨mb,5,none⟩=some (.slice la n lc)) (fun i=>decide (i<11)) (by kernel_rfl) hS9 (fun hHeld => ?_);rw [hV] at hHeld ⊢;clear hV hS9;refine tq 0 (h:=tq 1 (h:=tq 2 (h:=tq 3 (h:=tq 4 (h:=tq 5 (h:=tq 6 (h:=tq 7 (h:=tq 8 (h:=tO 9 (h:=?_))))))))));go_wp2_with fail;refine ⟨fun _=>hHeld, ?_⟩;refine tq 10 (h:=tO 11 (h:=?_));go_wp2_with fail;refine ⟨fun h=>by simp at h, ?_⟩;refine tD (h:=?_);clear e6 f6 q5 hmn;have hfo:=ae (FD AdS.out);go_wp2_with fail;refine hfo.out.mono ?_;rintro ex W7 ⟨v7,o7,rfl,hs7,rfl,hn7⟩;have n4:¬ ak (M+4) 0:=fun h=>by unfold ak at h;omega
     have mb7:=(hs7.block mb (au hF6.out.2.1) (by rw [hF6.out.2.2];exact n4)).trans hF6.out.2.1;have q1:=ag mb7 1;simp only [Bf,ay,ax] at q1;have hak:=ae (OY hn7 (by show s'.kept.lines.length<=256;rw [AnY.out];exact hmH.out.n1) (by show small s'.kept.lines;rw [AnY.out];exact hmH.out.small) m.e hmH.out.e1 hmH.out.e2 src);have hF7:=ae (aI (hF6.out.1.trans (hs7.mono (T':=KC D M) (fun k h=>(show KC D M k by cases h;exact KC.own)))) hn7);clear hs7 hn7 mb7 hfo;go_wp2_with fail;refine hak.out.mono ?_;rintro ex W8 ⟨v8,o8,rfl,hs8,hou⟩;have hF:=ae (aI (hF7.out.1.trans (hs8.mono (fun _ h=>h.elim))) (aI hou (hF7.out.2.step0 hs8)));obtain ⟨xa,xc,rfl⟩:=hou.form;clear hs8 hou hak;go_wp2_with fail;go_ret;refine ⟨_,o8,rfl,hF.out.1, ?_, ?_⟩
     ·rw [<-KI.out,hnH.out];exact hF.out.2.1
     ·rw [<-KI.out,hnH.out];exact hF.out.2.2
end
section
variable (w:World) (p:Option Addr)
theorem gZ:(Instr.typeAssert (.iface 184 (.agg #[])) 138 184 true).run prog w = .ok (.tuple #[.agg #[], .bool true]) w:=by kernel_rfl
theorem gX:(Instr.typeAssert (.iface 201 (.pointer p)) 138 184 true).run prog w = .ok (.tuple #[.agg #[], .bool false]) w:=by kernel_rfl
theorem gY:(Instr.typeAssert (.iface 135 (.pointer p)) 138 184 true).run prog w = .ok (.tuple #[.agg #[], .bool false]) w:=by kernel_rfl
end
section
variable {w:World} {o:Own} {D M pz ps pd K B base:Nat} {z:Am}
theorem VA (h:Bc w o D M pz ps pd z) (hp:Am.NP K B z) (hB:B<=90000) (src:Nat) (hsrc:src<z.n) (m:BG) (hm:m.May) {lv:Value} (hl:Lines w o base lv m.ls) :
  Calls prog 154 #[.pointer (some ⟨pz,0,none⟩), .int .i64 (src:Int),Ea m lv] w (XL (KC D M) w o fun v w' o'=>Dn w' o' v (Ed (z.CJ src m).2)/\Bc w' o' D M pz ps pd (z.CJ src m).1):=by
 obtain ⟨R,hR⟩:∃ R,z.CJ src m=R:=⟨_,rfl⟩;rw [hR];unfold Am.CJ at hR;obtain ⟨la,lc,hlv⟩:=hl.form;obtain ⟨n,hn⟩:∃ n,m.ls.length=n:=⟨_,rfl⟩;rw [hn] at hlv;subst hlv;have hn3:z.n<=3:=hp.ok.n3;have hn1:1<=z.n:=hp.ok.n1;have hls:En B z.s.kept.lines:=hp.ok.ls;have hsm:=En.small hls (by omega);have s1:=(aj.refl ai w o).alloc (.cells (Bf m (.slice la n lc)).toArray 150) (0,0);have gI:=heap_alloc_new w (.cells (Bf m (.slice la n lc)).toArray 150);have mo1:=Au o w.heap.size (0,0);generalize Ak o w.heap.size (0,0)=o1 at *;obtain ⟨W1,hW1⟩:∃ W1,w.alloc (.cells (Bf m (.slice la n lc)).toArray 150)=W1:=⟨_,rfl⟩;rw [hW1] at s1 gI;have hbx:(Instr.box 150 (Ea m (.slice la n lc))).run prog w = .ok (.pointer (some ⟨w.heap.size,0,none⟩)) W1:=by rw [<-hW1];kernel_rfl
 obtain ⟨mb,hmb⟩:∃ b,w.heap.size=b:=⟨_,rfl⟩;rw [hmb] at gI mo1 hbx;have h1:=h.step0 s1;have hl1:=hl.step s1 id;obtain ⟨-, -,e2, -⟩:=h1.cell;unfold Ea at hbx ⊢;have xH:=ae hbx;obtain ⟨ML,rv,hb,hro,hst⟩:=id h1
 cases hrr:z.BB with
 | follows =>
  rw [hrr] at hR hro;obtain rfl:rv = .iface 184 (.agg #[]):=hro;have hta:=ZI W1;have c3:=hb.cells.1.2.2.2.1;have hF:=ae (aI s1 h1);have KI:=ae hR;have q1:=ag (w:=W1.drew) gI 1;have hS0:W1.drew.cell? ⟨mb,1,none⟩=some (.int .u64 (m.e.toNat:Int)):=q1;clear hb hst h1 hl1 s1 gI mo1 hW1 hmb hbx e2 hls hsm hn3 hn1 hrr hR q1;go_enter func154,ntmps154
  go_wp2_with ((with_reducible apply BM);exact xH.out;simp only [Act.put,GL,DL,lss])
  refine Aa (fun w'=>w'.cell? ⟨mb,1,none⟩=some (.int .u64 (m.e.toNat:Int))) (fun _=>true) (by kernel_rfl) hS0 (fun hHeld => ?_);refine tq 0 (h:=tq 1 (h:=ts 2 (h:=ts 3 (h:=ts 4 (h:=ts 5 (h:=ts 6 (h:=ts 7 (h:=ts 8 (h:=tq 9 (h:=tD (h:=?_)))))))))));clear hHeld hS0;go_wp2_with fail;go_ret;refine ⟨_,o1,rfl,hF.out.1.drew.mono (fun _ h=>h.elim), ?_, ?_⟩
  ·rw [<-KI.out];exact Dn.nil _ _
  ·rw [<-KI.out];exact hF.out.2.step0 (aj.refl ai W1 o1).drew
 | stands mine has =>
  rw [hrr] at hR hro;obtain ⟨p,rfl,hsa⟩:=hro;clear hsa;have hta:=ZG W1 (some ⟨p,0,none⟩);have c3:=hb.cells.1.2.2.2.1;have hF:=ae (aI s1 h1);have KI:=ae hR;have q1:=ag (w:=W1.drew) gI 1;have hS0:W1.drew.cell? ⟨mb,1,none⟩=some (.int .u64 (m.e.toNat:Int)):=q1;clear hb hst h1 hl1 s1 gI mo1 hW1 hmb hbx e2 hls hsm hn3 hn1 hrr hR q1;go_enter func154,ntmps154
  go_wp2_with ((with_reducible apply BM);exact xH.out;simp only [Act.put,GL,DL,lss])
  refine Aa (fun w'=>w'.cell? ⟨mb,1,none⟩=some (.int .u64 (m.e.toNat:Int))) (fun _=>true) (by kernel_rfl) hS0 (fun hHeld => ?_);refine tq 0 (h:=tq 1 (h:=ts 2 (h:=ts 3 (h:=ts 4 (h:=ts 5 (h:=ts 6 (h:=ts 7 (h:=ts 8 (h:=tq 9 (h:=tD (h:=?_)))))))))));clear hHeld hS0;go_wp2_with fail;go_ret;refine ⟨_,o1,rfl,hF.out.1.drew.mono (fun _ h=>h.elim), ?_, ?_⟩
  ·rw [<-KI.out];exact Dn.nil _ _
  ·rw [<-KI.out];exact hF.out.2.step0 (aj.refl ai W1 o1).drew
 | leads mine nR base ready =>
  rw [hrr] at hR hro;obtain ⟨p,rfl,hla⟩:=hro;have hln:GV W1 o1 D M pz ps pd p z mine nR base ready:=⟨ML,hb,hla,hst⟩;have yS:=hp.ok.ro;rw [show z.BN.BB=z.BB from rfl,hrr] at yS;obtain ⟨-,hml,AeM⟩:=yS;have hml:nR.length=z.n:=hml;have AeM:∀ x ∈ nR, -1<=x/\x<=(z.s.kept.lines.length:Int):=AeM;obtain ⟨b,cap,hp1,hpo,hr,wR,hcl,hcm⟩:=hla;have hta:=ZH W1 (some ⟨p,0,none⟩);have c3:=hb.cells.1.2.2.2.1;have q1:=ag (w:=W1.drew) gI 1;have p0:=ag (w:=W1.drew) hp1 0;simp only [ay] at p0;have hS2:=aI (show W1.drew.cell? ⟨mb,1,none⟩=some (.int .u64 (m.e.toNat:Int)) from q1) p0;simp only at hR
  by_cases hme:mine=m.e
  ·rw [if_pos hme] at hR;have Aqv:(mine.toNat:Int)=(m.e.toNat:Int):=by rw [hme]
   obtain ⟨V,hV⟩:∃ V,W1.drew=V:=⟨_,rfl⟩;obtain ⟨V2,hV2⟩:∃ V2,V.drew=V2:=⟨_,rfl⟩;have k1:aj ai W1 o1 V2 o1:=by rw [<-hV2, <-hV];exact (aj.refl ai W1 o1).drew.drew
   have zX:=hln.step k1 (fun t h=>h.elim);have mb2:=(k1.block mb (au gI) id).trans gI;have st2:=s1.trans k1;obtain ⟨x,hx⟩:∃ x,nR.getD src 0=x:=⟨_,rfl⟩;obtain ⟨nn,hnn⟩:∃ k,nR.length=k:=⟨_,rfl⟩;have hsl:src<nR.length:=by rw [hml];exact hsrc
   have hcell:∀ (W:World) (O:Own),aj ai V2 o1 W O->(W.cell? ⟨mb,1,none⟩=some (.int .u64 (m.e.toNat:Int))/\W.cell? ⟨mb,3,none⟩=some (.int .i64 (m.at':Int))/\W.cell? ⟨pz,2,none⟩=some (.pointer (some ⟨ps,0,none⟩))/\W.cell? ⟨p,1,none⟩=some (.slice (some ⟨b,0,none⟩) nn cap)/\W.cell? ⟨b,src,none⟩=some (.int .i64 x)):=by
    intro W O hJ;have Aut:=(hJ.block mb (au mb2) id).trans mb2;have hk:=k1.trans hJ;have e2:=(hb.step hk id).cells.1.2.2.1;have g1:=ag ((hk.block p (au hp1) id).trans hp1) 1;simp only [ay,ax] at g1;rw [hnn] at g1;have g2:=ag ((hk.block b (au hr) id).trans hr) src;refine ⟨ag Aut 1,ag Aut 3,e2,g1, ?_⟩;rw [g2];rw [List.getD_eq_getElem?_getD,List.getElem?_eq_getElem hsl] at hx;simp only [Option.getD_some] at hx;simp [ivs,List.getElem?_eq_getElem hsl,hx]
   have hkp:=ae (DJ (hst.step0 k1) hsm);obtain ⟨L,hL⟩:∃ L,z.s.kept.lines.length=L:=⟨_,rfl⟩;obtain ⟨mn,hmn⟩:∃ k,min m.at' L=k:=⟨_,rfl⟩;have hx1:min (m.at':Int) (L:Int)=(mn:Int):=by omega
   obtain ⟨y,hy⟩:∃ y,max x (mn:Int)=y:=⟨_,rfl⟩;have hR2:(z.count m.e (nR.set src y) base ready,[])=R:=by rw [<-hR,hx,hL,hmn,hy,hme]
   have hxm:x ∈ nR:=by rw [<-hx,List.getD_eq_getElem?_getD,List.getElem?_eq_getElem hsl];exact List.getElem_mem hsl
   have hxb:=AeM x hxm;have AoX:=hls.n;have hmc:∀ u ∈ nR.set src y, -1<=u/\u<=256:=by
    intro u hu
    rcases List.mem_or_eq_of_mem_set hu with h | h
    ·have:=AeM u h;omega
    ·rw [h, <-hy];omega
   have KI:=ae hR2;have WV:=ae hcell;have hS3:=hcell V2 o1 (aj.refl _ _ _);have hS1:V.cell? ⟨mb,1,none⟩=some (.int .u64 (m.e.toNat:Int))/\V.cell? ⟨p,0,none⟩=some (.int .u64 (mine.toNat:Int)):=by rw [<-hV];exact hS2
   have hHH:=ae (aI zX (aI mb2 st2));have BcB:(0:Int)<=(src:Int)/\(src:Int)<(nn:Int):=by omega
   have hKK:=ae (aI hml (aI hsl (aI hnn (aI hmc (aI hn1 (aI hn3 (aI hls hsm)))))));have hco:z.Ag<=z.s.kept.lines.length:=hp.ok.co;have hid:z.id<z.n:=hp.ok.id;have hKC:=ae (aI hco hid);have hLH:=ae hL;have BaJ:=ae ML;have haI:(0:Int)<=(m.at':Int)/\(m.at':Int)<=256:=by have:=hm.a1;omega
   have hLI:(0:Int)<=(L:Int)/\(L:Int)<=256:=by omega
   have hxI : -1<=x/\x<=256:=by omega
   rw [<-hV2] at hS3;have Azn:=ae hme;clear hb hst h1 hl1 s1 gI mo1 hW1 hmb hbx e2 hls hsm hn3 hn1 hrr hR q1 p0 hln hp1 hpo hr wR hcl hcm hme AeM hml hcell k1 zX mb2 st2 hx hnn hsl hmn hR2 hxm hxb AoX hmc hco hid hL ML;go_enter func154,ntmps154
   go_wp2_with ((with_reducible apply BM);exact xH.out;simp only [Act.put,GL,DL,lss])
   refine Aa (fun w'=>w'.cell? ⟨mb,1,none⟩=some (.int .u64 (m.e.toNat:Int))/\w'.cell? ⟨p,0,none⟩=some (.int .u64 (mine.toNat:Int))) (fun _=>true) (by kernel_rfl) hS2 (fun hHeld => ?_);rw [hV] at hHeld ⊢;refine tq 0 (h:=tq 1 (h:=tq 2 (h:=tq 3 (h:=tq 4 (h:=tq 5 (h:=tq 6 (h:=tq 7 (h:=tq 8 (h:=tq 9 (h:=tD (h:=?_)))))))))));clear hHeld hS2 hS1 hV;go_wp2_with fail;refine Aa (fun w'=>w'.cell? ⟨mb,1,none⟩=some (.int .u64 (m.e.toNat:Int))/\w'.cell? ⟨mb,3,none⟩=some (.int .i64 (m.at':Int))/\w'.cell? ⟨pz,2,none⟩=some (.pointer (some ⟨ps,0,none⟩))/\w'.cell? ⟨p,1,none⟩=some (.slice (some ⟨b,0,none⟩) nn cap)/\w'.cell? ⟨b,src,none⟩=some (.int .i64 x)) (fun i=>decide (i<24)) (by kernel_rfl) hS3 (fun hHeld => ?_);rw [hV2] at hHeld ⊢;clear hV2 hS3;refine tq 0 (h:=tq 1 (h:=tq 2 (h:=tq 3 (h:=tq 4 (h:=tq 5 (h:=tq 6 (h:=tq 7 (h:=tq 8 (h:=tq 9 (h:=tq 10 (h:=tq 11 (h:=tq 12 (h:=tq 13 (h:=?_))))))))))))));refine tq 14 (h:=tq 15 (h:=tq 16 (h:=tq 17 (h:=tO 18 (h:=?_)))));go_wp2_with fail;refine hkp.out.mono ?_;rintro ex W9 ⟨v9,o9,rfl,hs9,lk9,rfl,AhZ,rfl⟩;obtain ⟨k9a,k9c,rfl⟩:=AhZ.form;rw [hLH.out];obtain ⟨zX,mb2,st2⟩:=hHH.out;have Akl:=zX.step hs9 (fun t h=>h.elim);obtain ⟨Arw,hb9,⟨b',cap',hp9,AnL,hr9,AlA,Avk,Avj⟩,wL⟩:=Akl;have hS9:=WV.out W9 _ hs9;have e1:=ag hp9 1;simp only [ay,ax] at e1;rw [hS9.2.2.2.1] at e1;simp only [Option.some.injEq,Value.slice.injEq,Addr.mk.injEq,and_true] at e1;obtain ⟨rfl, -,rfl⟩:=e1;have kst:=(aj.refl (ak (M+4)) W9 (ext V2 o1)).setCell (a:=⟨b,src,none⟩) (.int .i64 y) (.inl (by show (ext V2 o1 b).1=_;rw [AlA]));have AeD:=Ai (i:=src) (.int .i64 y) hr9;rw [XP] at AeD;have hpb:p ≠ b:=fun h=>by rw [h,AlA] at AnL;cases AnL
   have hzb:pz ≠ b:=fun h=>by have:=hb9.2;rw [h,AlA] at this;cases this
   have AeW:=(Below.heap_setCell W9 ⟨b,src,none⟩ (.int .i64 y) p hpb).trans hp9;have AgE:GK (W9.setCell ⟨b,src,none⟩ (.int .i64 y)) (ext V2 o1) (M+4) pz ps (.iface 135 (.pointer (some ⟨p,0,none⟩))) z:=⟨(Below.heap_setCell W9 ⟨b,src,none⟩ (.int .i64 y) pz hzb).trans hb9.1,hb9.2⟩;have AfY:GV (W9.setCell ⟨b,src,none⟩ (.int .i64 y)) (ext V2 o1) D M pz ps pd p z mine (nR.set src y) base ready:=⟨Arw,AgE,⟨b,cap,by rw [List.length_set];exact AeW,AnL,AeD,AlA,by rw [List.length_set];exact Avk,Avj⟩,wL.step kst (KC.self Arw.1)⟩;obtain ⟨hml,hsl,hnn,hmc,hn1,hn3,hls,hsm⟩:=hKK.out;have hcnt:=ae (count_any AfY hsm hls.n (by rw [List.length_set];omega) (by rw [List.length_set];omega) (by rw [List.length_set,hml];exact hKC.out.2) hmc (by have:=hKC.out.1;have:=hls.n;omega));have fb:=Ap hr9 src;have cb:=hS9.2.2.2.2;have Afd:=ae ((st2.trans hs9).mono (T':=KC D M) (fun _ h=>h.elim) |>.trans (kst.mono (T':=KC D M) (fun k h=>(show KC D M k by cases h;exact KC.own))));have hfk:=fun W=>He W (.int .u64 (z.s.kept.promised.toNat:Int)) (.int .u64 (z.s.kept.current.toNat:Int)) (.slice k9a L k9c);unfold Dy;clear hs9 AhZ zX mb2 st2 Arw hb9 hp9 AnL hr9 AlA Avk Avj wL kst AeD hpb hzb AeW AgE AfY hml hsl hnn hmc hn1 hn3 hls hsm hkp hHeld;go_wp2_with fail;refine ⟨fun _=>hS9, ?_⟩;refine tq 19 (h:=tq 20 (h:=tq 21 (h:=tq 22 (h:=tq 23 (h:=tO 24 (h:=?_))))));go_wp2_with fail;refine ⟨fun h=>by simp at h, ?_⟩;refine tD (h:=?_);clear cb fb hfk;go_wp2_with fail;refine hcnt.out.mono ?_;rintro ex W11 ⟨v11,o11,rfl,hs11,rfl,r,AiY,AoU⟩;have hF:=ae (aI (Afd.out.trans (hs11.mono (T':=KC D M) (fun k h=>(show KC D M k by cases h;exact KC.own)))) (AoU.node AiY));clear hs11 AiY AoU hcnt;go_wp2_with fail;go_ret;refine ⟨_,o11,rfl,hF.out.1, ?_, ?_⟩
   ·rw [<-KI.out];exact Dn.nil _ _
   ·rw [<-KI.out];have h:=hF.out.2;rw [Azn.out] at h;exact h
  ·rw [if_neg hme] at hR;have Aqv:¬ (mine.toNat:Int)=(m.e.toNat:Int):=fun h=>hme (BitVec.eq_of_toNat_eq (by omega));have hF:=ae (aI s1 h1);have KI:=ae hR;clear hb hst h1 hl1 s1 gI mo1 hW1 hmb hbx e2 hls hsm hn3 hn1 hrr hR q1 p0 hln hp1 hpo hr wR hcl hcm hme AeM hml;go_enter func154,ntmps154
   go_wp2_with ((with_reducible apply BM);exact xH.out;simp only [Act.put,GL,DL,lss])
   refine Aa (fun w'=>w'.cell? ⟨mb,1,none⟩=some (.int .u64 (m.e.toNat:Int))/\w'.cell? ⟨p,0,none⟩=some (.int .u64 (mine.toNat:Int))) (fun _=>true) (by kernel_rfl) hS2 (fun hHeld => ?_);refine tq 0 (h:=tq 1 (h:=tq 2 (h:=tq 3 (h:=tq 4 (h:=tq 5 (h:=tq 6 (h:=tq 7 (h:=tq 8 (h:=tq 9 (h:=tD (h:=?_)))))))))));clear hHeld hS2;go_wp2_with fail;go_ret;refine ⟨_,o1,rfl,hF.out.1.drew.mono (fun _ h=>h.elim), ?_, ?_⟩
   ·rw [<-KI.out];exact Dn.nil _ _
   ·rw [<-KI.out];exact hF.out.2.step0 (aj.refl ai W1 o1).drew
end
theorem Xf {w:World} {p:Nat} {mine:BitVec 64} (h:w.cell? ⟨p,0,none⟩=some (.int .u64 (mine.toNat:Int))):Calls prog 311 #[.pointer (some ⟨p,0,none⟩)] w fun e w'=>e = .returned (.int .u64 (mine.toNat:Int))/\w=w':=by
 go_enter func311,ntmps311;go_wp2_with fail;go_ret;exact ⟨rfl,rfl⟩
theorem WP {w:World} {p:Nat} {mine:BitVec 64} (h:w.cell? ⟨p,0,none⟩=some (.int .u64 (mine.toNat:Int))):Calls prog 313 #[.pointer (some ⟨p,0,none⟩)] w fun e w'=>e = .returned (.int .u64 (mine.toNat:Int))/\w=w':=by
 go_enter func313,ntmps313;go_wp2_with fail;go_ret;exact ⟨rfl,rfl⟩
section
variable {w:World} {o:Own} {D M pz ps pd K B base:Nat} {z:Am}
theorem PX (h:Bc w o D M pz ps pd z) (hp:Am.NP K B z) (hB:B<=90000) (src:Nat) (m:BG) (_hm:m.May) {lv:Value} (hl:Lines w o base lv m.ls) :
  Calls prog 151 #[.pointer (some ⟨pz,0,none⟩), .int .i64 (src:Int),Ea m lv] w (XL (KC D M) w o fun v w' o'=>Dn w' o' v (Ed (z.Cj m).2)/\Bc w' o' D M pz ps pd (z.Cj m).1):=by
 obtain ⟨R,hR⟩:∃ R,z.Cj m=R:=⟨_,rfl⟩;rw [hR];unfold Am.Cj at hR;obtain ⟨la,lc,hlv⟩:=hl.form;obtain ⟨n,hn⟩:∃ n,m.ls.length=n:=⟨_,rfl⟩;rw [hn] at hlv;subst hlv;have hn3:z.n<=3:=hp.ok.n3;have hn1:1<=z.n:=hp.ok.n1;have hls:En B z.s.kept.lines:=hp.ok.ls;have hsm:=En.small hls (by omega);have s1:=(aj.refl ai w o).alloc (.cells (Bf m (.slice la n lc)).toArray 150) (0,0);have gI:=heap_alloc_new w (.cells (Bf m (.slice la n lc)).toArray 150);have mo1:=Au o w.heap.size (0,0);generalize Ak o w.heap.size (0,0)=o1 at *;obtain ⟨W1,hW1⟩:∃ W1,w.alloc (.cells (Bf m (.slice la n lc)).toArray 150)=W1:=⟨_,rfl⟩;rw [hW1] at s1 gI;have hbx:(Instr.box 150 (Ea m (.slice la n lc))).run prog w = .ok (.pointer (some ⟨w.heap.size,0,none⟩)) W1:=by rw [<-hW1];kernel_rfl
 obtain ⟨mb,hmb⟩:∃ b,w.heap.size=b:=⟨_,rfl⟩;rw [hmb] at gI mo1 hbx;have h1:=h.step0 s1;have hl1:=hl.step s1 id;obtain ⟨-, -,e2, -⟩:=h1.cell;unfold Ea at hbx ⊢;have xH:=ae hbx;obtain ⟨ML,rv,hb,hro,hst⟩:=id h1;have hfm:z.BN.follows=(match z.BB with | .follows=>true | _=>false):=rfl
 have hmm:z.BN.mine=(match z.BB with | .follows=>0 | .stands e _=>e | .leads e _ _ _=>e):=rfl
 cases hrr:z.BB with
 | follows =>
  rw [hrr] at hro hfm hmm;obtain rfl:rv = .iface 184 (.agg #[]):=hro;have hta:=gZ W1;have c3:=hb.cells.1.2.2.2.1;have k2:=(aj.refl ai W1 o1).alloc (.cells [].toArray 184) (0,0);generalize Ak o1 W1.heap.size (0,0)=o2 at *;obtain ⟨V,hV⟩:∃ V,(W1.alloc (.cells [].toArray 184)).drew=V:=⟨_,rfl⟩;have kV:aj ai W1 o1 V o2:=by rw [<-hV];exact k2.drew
  have hN:=h1.step0 kV;have mbV:=(kV.block mb (au gI) id).trans gI;have hbV:=hb.step kV id;have hS:V.cell? ⟨mb,1,none⟩=some (.int .u64 (m.e.toNat:Int)):=ag mbV 1;rw [<-hV] at hS;have hR2:(z,[])=R:=by rw [<-hR,hfm];rfl
  have KI:=ae hR2;have hF:=ae (aI (s1.trans kV) hN);clear hb hst hl1 s1 gI mo1 hW1 hmb hbx e2 hls hsm hn3 hn1 k2 kV hN mbV hbV h1 hrr hR hR2 hfm hmm;go_enter func151,ntmps151
  go_wp2_with ((with_reducible apply BM);exact xH.out;simp only [Act.put,GL,DL,lss])
  refine Aa (fun w'=>w'.cell? ⟨mb,1,none⟩=some (.int .u64 (m.e.toNat:Int))) (fun _=>true) (by kernel_rfl) hS (fun hHeld => ?_);rw [hV] at hHeld ⊢;clear hV hS;refine tq 0 (h:=tq 1 (h:=tq 2 (h:=ts 3 (h:=ts 4 (h:=ts 5 (h:=ts 6 (h:=ts 7 (h:=ts 8 (h:=ts 9 (h:=ts 10 (h:=tq 11 (h:=tD (h:=?_)))))))))))));clear hHeld;go_wp2_with fail;go_ret;refine ⟨_,o2,rfl,hF.out.1.mono (fun _ h=>h.elim), ?_, ?_⟩
  ·rw [<-KI.out];exact Dn.nil _ _
  ·rw [<-KI.out];exact hF.out.2
 | stands mine has =>
  rw [hrr] at hro hfm hmm;obtain ⟨p,rfl,mk,hp1,hpo,hha⟩:=hro;have hta:=gX W1 (some ⟨p,0,none⟩);have c3:=hb.cells.1.2.2.2.1;have k2:=(aj.refl ai W1 o1).alloc (.cells [].toArray 184) (0,0);generalize Ak o1 W1.heap.size (0,0)=o2 at *;obtain ⟨V,hV⟩:∃ V,(W1.alloc (.cells [].toArray 184)).drew=V:=⟨_,rfl⟩;have kV:aj ai W1 o1 V o2:=by rw [<-hV];exact k2.drew
  have hN:=h1.step0 kV;have mbV:=(kV.block mb (au gI) id).trans gI;have hbV:=hb.step kV id;have p0:=ag ((kV.block p (au hp1) id).trans hp1) 0;simp only [ay] at p0;have hS:=aI (show V.cell? ⟨mb,1,none⟩=some (.int .u64 (m.e.toNat:Int)) from ag mbV 1) (aI hbV.cells.1.2.2.2.1 p0);have hep:=ae (WP p0);rw [<-hV] at hS;have hR2:(if mine.toNat<m.e.toNat then z.follow else z,[])=R:=by
   rw [<-hR,hfm,hmm]
   by_cases h:mine.toNat<m.e.toNat <;> simp [h]
  have hF:=ae (aI (s1.trans kV) hN);have hfo:=ae (FD hN);clear hb hst hl1 s1 gI mo1 hW1 hmb hbx e2 hls hsm hn3 hn1 k2 kV hN mbV hbV h1 hrr hR hfm hmm p0 hp1 hpo hha
  by_cases hlt:mine.toNat<m.e.toNat
  ·rw [if_pos hlt] at hR2;have KI:=ae hR2;have AbY:(mine.toNat:Int)<(m.e.toNat:Int):=by omega
   clear hR2;go_enter func151,ntmps151
   go_wp2_with ((with_reducible apply BM);exact xH.out;simp only [Act.put,GL,DL,lss])
   refine Aa (fun w'=>w'.cell? ⟨mb,1,none⟩=some (.int .u64 (m.e.toNat:Int))/\w'.cell? ⟨pz,3,none⟩=some (.iface 201 (.pointer (some ⟨p,0,none⟩)))/\w'.cell? ⟨p,0,none⟩=some (.int .u64 (mine.toNat:Int))) (fun _=>true) (by kernel_rfl) hS (fun hHeld => ?_);rw [hV] at hHeld ⊢;clear hV hS;refine tq 0 (h:=tq 1 (h:=tq 2 (h:=tq 3 (h:=tq 4 (h:=tq 5 (h:=tq 6 (h:=tq 7 (h:=tq 8 (h:=tO 9 (h:=?_))))))))));go_wp2_with fail;generalize hg:Sem.run prog (method _ _ _ _) V=res;have hres:res = .ok (313, .pointer (some ⟨p,0,none⟩)) V:=by rw [<-hg];kernel_rfl
   rw [hres];clear hg hres;go_wp2_with fail;refine hep.out.mono ?_;rintro ex w' ⟨rfl,rfl⟩;go_wp2_with fail;refine ⟨fun _=>hHeld, ?_⟩;refine tq 10 (h:=tq 11 (h:=tD (h:=?_)));clear hHeld;go_wp2_with fail;refine hfo.out.mono ?_;rintro ex W7 ⟨v7,o7,rfl,hs7,rfl,hn7⟩;have hF7:=ae (aI ((hF.out.1.mono (T':=KC D M) (fun _ h=>h.elim)).trans (hs7.mono (T':=KC D M) (fun k h=>(show KC D M k by cases h;exact KC.own)))) hn7);clear hs7 hn7;go_wp2_with fail;go_ret;refine ⟨_,o7,rfl,hF7.out.1, ?_, ?_⟩
   ·rw [<-KI.out];exact Dn.nil _ _
   ·rw [<-KI.out];exact hF7.out.2
  ·rw [if_neg hlt] at hR2;have KI:=ae hR2;have AbY:¬ (mine.toNat:Int)<(m.e.toNat:Int):=by omega
   clear hR2 hfo;go_enter func151,ntmps151
   go_wp2_with ((with_reducible apply BM);exact xH.out;simp only [Act.put,GL,DL,lss])
   refine Aa (fun w'=>w'.cell? ⟨mb,1,none⟩=some (.int .u64 (m.e.toNat:Int))/\w'.cell? ⟨pz,3,none⟩=some (.iface 201 (.pointer (some ⟨p,0,none⟩)))/\w'.cell? ⟨p,0,none⟩=some (.int .u64 (mine.toNat:Int))) (fun _=>true) (by kernel_rfl) hS (fun hHeld => ?_);rw [hV] at hHeld ⊢;clear hV hS;refine tq 0 (h:=tq 1 (h:=tq 2 (h:=tq 3 (h:=tq 4 (h:=tq 5 (h:=tq 6 (h:=tq 7 (h:=tq 8 (h:=tO 9 (h:=?_))))))))));go_wp2_with fail;generalize hg:Sem.run prog (method _ _ _ _) V=res;have hres:res = .ok (313, .pointer (some ⟨p,0,none⟩)) V:=by rw [<-hg];kernel_rfl
   rw [hres];clear hg hres;go_wp2_with fail;refine hep.out.mono ?_;rintro ex w' ⟨rfl,rfl⟩;go_wp2_with fail;refine ⟨fun _=>hHeld, ?_⟩;refine tq 10 (h:=tq 11 (h:=tD (h:=?_)));clear hHeld;go_wp2_with fail;go_ret;refine ⟨_,o2,rfl,hF.out.1.mono (fun _ h=>h.elim), ?_, ?_⟩
   ·rw [<-KI.out];exact Dn.nil _ _
   ·rw [<-KI.out];exact hF.out.2
 | leads mine nR Awz ready =>
  rw [hrr] at hro hfm hmm;obtain ⟨p,rfl,bk,cap,hp1,hpo,hha⟩:=hro;have hta:=gY W1 (some ⟨p,0,none⟩);have c3:=hb.cells.1.2.2.2.1;have k2:=(aj.refl ai W1 o1).alloc (.cells [].toArray 184) (0,0);generalize Ak o1 W1.heap.size (0,0)=o2 at *;obtain ⟨V,hV⟩:∃ V,(W1.alloc (.cells [].toArray 184)).drew=V:=⟨_,rfl⟩;have kV:aj ai W1 o1 V o2:=by rw [<-hV];exact k2.drew
  have hN:=h1.step0 kV;have mbV:=(kV.block mb (au gI) id).trans gI;have hbV:=hb.step kV id;have p0:=ag ((kV.block p (au hp1) id).trans hp1) 0;simp only [ay] at p0;have hS:=aI (show V.cell? ⟨mb,1,none⟩=some (.int .u64 (m.e.toNat:Int)) from ag mbV 1) (aI hbV.cells.1.2.2.2.1 p0);have hep:=ae (Xf p0);rw [<-hV] at hS;have hR2:(if mine.toNat<m.e.toNat then z.follow else z,[])=R:=by
   rw [<-hR,hfm,hmm]
   by_cases h:mine.toNat<m.e.toNat <;> simp [h]
  have hF:=ae (aI (s1.trans kV) hN);have hfo:=ae (FD hN);clear hb hst hl1 s1 gI mo1 hW1 hmb hbx e2 hls hsm hn3 hn1 k2 kV hN mbV hbV h1 hrr hR hfm hmm p0 hp1 hpo hha
  by_cases hlt:mine.toNat<m.e.toNat
  ·rw [if_pos hlt] at hR2;have KI:=ae hR2;have AbY:(mine.toNat:Int)<(m.e.toNat:Int):=by omega
   clear hR2;go_enter func151,ntmps151
   go_wp2_with ((with_reducible apply BM);exact xH.out;simp only [Act.put,GL,DL,lss])
   refine Aa (fun w'=>w'.cell? ⟨mb,1,none⟩=some (.int .u64 (m.e.toNat:Int))/\w'.cell? ⟨pz,3,none⟩=some (.iface 135 (.pointer (some ⟨p,0,none⟩)))/\w'.cell? ⟨p,0,none⟩=some (.int .u64 (mine.toNat:Int))) (fun _=>true) (by kernel_rfl) hS (fun hHeld => ?_);rw [hV] at hHeld ⊢;clear hV hS;refine tq 0 (h:=tq 1 (h:=tq 2 (h:=tq 3 (h:=tq 4 (h:=tq 5 (h:=tq 6 (h:=tq 7 (h:=tq 8 (h:=tO 9 (h:=?_))))))))));go_wp2_with fail;generalize hg:Sem.run prog (method _ _ _ _) V=res;have hres:res = .ok (311, .pointer (some ⟨p,0,none⟩)) V:=by rw [<-hg];kernel_rfl
   rw [hres];clear hg hres;go_wp2_with fail;refine hep.out.mono ?_;rintro ex w' ⟨rfl,rfl⟩;go_wp2_with fail;refine ⟨fun _=>hHeld, ?_⟩;refine tq 10 (h:=tq 11 (h:=tD (h:=?_)));clear hHeld;go_wp2_with fail;refine hfo.out.mono ?_;rintro ex W7 ⟨v7,o7,rfl,hs7,rfl,hn7⟩;have hF7:=ae (aI ((hF.out.1.mono (T':=KC D M) (fun _ h=>h.elim)).trans (hs7.mono (T':=KC D M) (fun k h=>(show KC D M k by cases h;exact KC.own)))) hn7);clear hs7 hn7;go_wp2_with fail;go_ret;refine ⟨_,o7,rfl,hF7.out.1, ?_, ?_⟩
   ·rw [<-KI.out];exact Dn.nil _ _
   ·rw [<-KI.out];exact hF7.out.2
  ·rw [if_neg hlt] at hR2;have KI:=ae hR2;have AbY:¬ (mine.toNat:Int)<(m.e.toNat:Int):=by omega
   clear hR2 hfo;go_enter func151,ntmps151
   go_wp2_with ((with_reducible apply BM);exact xH.out;simp only [Act.put,GL,DL,lss])
   refine Aa (fun w'=>w'.cell? ⟨mb,1,none⟩=some (.int .u64 (m.e.toNat:Int))/\w'.cell? ⟨pz,3,none⟩=some (.iface 135 (.pointer (some ⟨p,0,none⟩)))/\w'.cell? ⟨p,0,none⟩=some (.int .u64 (mine.toNat:Int))) (fun _=>true) (by kernel_rfl) hS (fun hHeld => ?_);rw [hV] at hHeld ⊢;clear hV hS;refine tq 0 (h:=tq 1 (h:=tq 2 (h:=tq 3 (h:=tq 4 (h:=tq 5 (h:=tq 6 (h:=tq 7 (h:=tq 8 (h:=tO 9 (h:=?_))))))))));go_wp2_with fail;generalize hg:Sem.run prog (method _ _ _ _) V=res;have hres:res = .ok (311, .pointer (some ⟨p,0,none⟩)) V:=by rw [<-hg];kernel_rfl
   rw [hres];clear hg hres;go_wp2_with fail;refine hep.out.mono ?_;rintro ex w' ⟨rfl,rfl⟩;go_wp2_with fail;refine ⟨fun _=>hHeld, ?_⟩;refine tq 10 (h:=tq 11 (h:=tD (h:=?_)));clear hHeld;go_wp2_with fail;go_ret;refine ⟨_,o2,rfl,hF.out.1.mono (fun _ h=>h.elim), ?_, ?_⟩
   ·rw [<-KI.out];exact Dn.nil _ _
   ·rw [<-KI.out];exact hF.out.2
end
section
variable {P:Program} {ops:Array Oper} {Q:Exit->Act->World->Prop} {rest:List Oper} {d:Option Nat} {ty:TypeId} {ps:String} {af:Array _} {a:Act} {w w':World}
theorem QO {m k x:Operand} {t:TypeId} (hr:(Instr.mapUpdate t (a.eval m) (a.eval k) (a.eval x)).run P w = .ok () w') (h:wpList P ops Q rest (a.put d undef) w') :
  wpList P ops Q ({ dst:=d,op := .mapUpdate t m k x,type:=ty,pos:=ps,after:=af,guard:=none } :: rest) a w:=
 wpList_plain rfl fun _ hK=>by
  unfold Oper.wp execOp;simp only [Sem.run_bind,hr,Result.andThen_ok,Sem.run_pure];exact hK _ _ h
end
theorem dY {w w':World} {o o':Own} {Z mb src:Nat} {has:List (Option DT)} {es:List Ent} {c:BitVec 64} {lv:Value} {ls:List Ar} (hm:w'.heap[mb]?=some (.map (Bd 0 (es++[(src,c,lv)])).toArray (es++[(src,c,lv)]).length)) (ho:o' mb=(Z,2))
  (hn:(es.map (·.1)).Nodup) (hno:∀ x ∈ es,x.1 ≠ src) (hent:∀ x ∈ es,∃ ls,has[x.1]?=some (some (x.2.1,ls))/\Lines w o 0 x.2.2 ls) (hall:∀ i p,has[i]?=some (some p)->∃ x ∈ es,x.1=i)
  (hst:∀ v l,Lines w o 0 v l->Lines w' o' 0 v l) (hsl:src<has.length) (hl:Lines w' o' 0 lv ls):OE w' o' Z mb (has.set src (some (c,ls))):=by
 refine ⟨es++[(src,c,lv)],hm,ho, ?_,fun x hx => ?_,fun i p hp => ?_⟩
 ·rw [List.map_append,List.nodup_append];refine ⟨hn,by simp, ?_⟩;intro a ha b hb;simp only [List.map_cons,List.map_nil,List.mem_singleton] at hb;subst hb;obtain ⟨x,hx,rfl⟩:=List.mem_map.1 ha;exact hno x hx
 ·rcases List.mem_append.1 hx with hx | hx
  ·obtain ⟨ls',h1,h2⟩:=hent x hx;refine ⟨ls', ?_,hst _ _ h2⟩;rw [List.getElem?_set_ne (fun h=>hno x hx h.symm)];exact h1
  ·simp only [List.mem_singleton] at hx;subst hx;exact ⟨ls,by simp [hsl],hl⟩
 ·by_cases h:src=i
  ·exact ⟨_,List.mem_append_right _ (List.mem_singleton_self _),h⟩
  ·rw [List.getElem?_set_ne h] at hp;obtain ⟨x,hx,hxi⟩:=hall i p hp;exact ⟨x,List.mem_append_left _ hx,hxi⟩
section
variable {w:World} {o:Own} {D M pz ps pd K B base:Nat} {z:Am}
theorem Am.NP.promised (h:Am.NP K B z) {mine:BitVec 64} {has:List (Option DT)} (hr:z.BB = .stands mine has) (src:Nat) {c:BitVec 64} {ls:List Ar} (hls:En (B+AP ls) ls) :
  Am.NP K (B+AP ls) { z with BB := .stands mine (has.set src (some (c,ls))) }:=by
 have hm:=h.mono (Nat.le_refl K) (Nat.le_add_right B (AP ls));have hro:=hm.ok.ro;rw [show z.BN.BB=z.BB from rfl,hr] at hro;obtain ⟨h1,h2,⟨p,h3⟩,h4⟩:=hro;have hok:=hm.ok;refine ⟨hm.sp,⟨⟨hok.n1,hok.n3,hok.id,hok.ls,hok.cp,hok.pt,hok.se,hok.co⟩,h1, ?_, ?_, ?_⟩⟩
 ·rw [List.length_set];exact h2
 ·show ∃ p,(has.set src (some (c,ls)))[z.id]?=some (some p)
  by_cases he:src=z.id
  ·rw [he];have hl:=(List.getElem?_eq_some_iff.1 h3).1;exact ⟨(c,ls),List.getElem?_set_self hl⟩
  ·exact ⟨p,by rw [List.getElem?_set_ne he];exact h3⟩
 ·intro q hq
  rcases List.mem_or_eq_of_mem_set hq with h | h
  ·exact h4 q h
  ·cases h;exact hls
theorem OM (h:Bc w o D M pz ps pd z) (hp:Am.NP K B z) (hK:K+600<65536) (src:Nat) (hsrc:src<z.n) (m:BG) (hm:m.May) (hB:B+AP m.ls<=90000) {lv:Value} (hl:Lines w o base lv m.ls) :
  Calls prog 150 #[.pointer (some ⟨pz,0,none⟩), .int .i64 (src:Int),Ea m lv] w (XL (KC D M) w o fun v w' o'=>Dn w' o' v (Ed (z.Bj src m).2)/\Bc w' o' D M pz ps pd (z.Bj src m).1):=by
 obtain ⟨R,hR⟩:∃ R,z.Bj src m=R:=⟨_,rfl⟩;rw [hR];unfold Am.Bj at hR;obtain ⟨la,lc,hlv⟩:=hl.form;obtain ⟨n,hn⟩:∃ n,m.ls.length=n:=⟨_,rfl⟩;rw [hn] at hlv;subst hlv;have hn3:z.n<=3:=hp.ok.n3;have hn1:1<=z.n:=hp.ok.n1;have hls:En B z.s.kept.lines:=hp.ok.ls;have hsm:=En.small hls (by omega);have s1:=(aj.refl ai w o).alloc (.cells (Bf m (.slice la n lc)).toArray 150) (0,0);have gI:=heap_alloc_new w (.cells (Bf m (.slice la n lc)).toArray 150);have mo1:=Au o w.heap.size (0,0);generalize Ak o w.heap.size (0,0)=o1 at *;obtain ⟨W1,hW1⟩:∃ W1,w.alloc (.cells (Bf m (.slice la n lc)).toArray 150)=W1:=⟨_,rfl⟩;rw [hW1] at s1 gI;have hbx:(Instr.box 150 (Ea m (.slice la n lc))).run prog w = .ok (.pointer (some ⟨w.heap.size,0,none⟩)) W1:=by rw [<-hW1];kernel_rfl
 obtain ⟨mb,hmb⟩:∃ b,w.heap.size=b:=⟨_,rfl⟩;rw [hmb] at gI mo1 hbx;have h1:=h.step0 s1;have hl1:=hl.step s1 id;obtain ⟨-, -,e2, -⟩:=h1.cell;unfold Ea at hbx ⊢;have xH:=ae hbx;obtain ⟨ML,rv,hb,hro,hst⟩:=id h1
 cases hrr:z.BB with
 | follows =>
  rw [hrr] at hR hro;obtain rfl:rv = .iface 184 (.agg #[]):=hro;have hta:=gV W1;have c3:=hb.cells.1.2.2.2.1;have hF:=ae (aI s1 h1);have KI:=ae hR;have q1:=ag (w:=W1.drew) gI 1;have hS0:W1.drew.cell? ⟨mb,1,none⟩=some (.int .u64 (m.e.toNat:Int)):=q1;clear hb hst h1 hl1 s1 gI mo1 hW1 hmb hbx e2 hls hsm hn3 hn1 hrr hR q1;go_enter func150,ntmps150
  go_wp2_with ((with_reducible apply BM);exact xH.out;simp only [Act.put,GL,DL,lss])
  refine Aa (fun w'=>w'.cell? ⟨mb,1,none⟩=some (.int .u64 (m.e.toNat:Int))) (fun _=>true) (by kernel_rfl) hS0 (fun hHeld => ?_);refine tq 0 (h:=tq 1 (h:=tq 2 (h:=ts 3 (h:=ts 4 (h:=ts 5 (h:=ts 6 (h:=ts 7 (h:=ts 8 (h:=ts 9 (h:=tq 10 (h:=tq 11 (h:=ts 12 (h:=ts 13 (h:=?_))))))))))))));refine ts 14 (h:=ts 15 (h:=ts 16 (h:=tq 17 (h:=tD (h:=?_)))));clear hHeld hS0;go_wp2_with fail;go_ret;refine ⟨_,o1,rfl,hF.out.1.drew.mono (fun _ h=>h.elim), ?_, ?_⟩
  ·rw [<-KI.out];exact Dn.nil _ _
  ·rw [<-KI.out];exact hF.out.2.step0 (aj.refl ai W1 o1).drew
 | leads mine nR Awz ready =>
  rw [hrr] at hR hro;obtain ⟨p,rfl,hla⟩:=hro;clear hla;have hta:=gU W1 (some ⟨p,0,none⟩);have c3:=hb.cells.1.2.2.2.1;have hF:=ae (aI s1 h1);have KI:=ae hR;have q1:=ag (w:=W1.drew) gI 1;have hS0:W1.drew.cell? ⟨mb,1,none⟩=some (.int .u64 (m.e.toNat:Int)):=q1;clear hb hst h1 hl1 s1 gI mo1 hW1 hmb hbx e2 hls hsm hn3 hn1 hrr hR q1;go_enter func150,ntmps150
  go_wp2_with ((with_reducible apply BM);exact xH.out;simp only [Act.put,GL,DL,lss])
  refine Aa (fun w'=>w'.cell? ⟨mb,1,none⟩=some (.int .u64 (m.e.toNat:Int))) (fun _=>true) (by kernel_rfl) hS0 (fun hHeld => ?_);refine tq 0 (h:=tq 1 (h:=tq 2 (h:=ts 3 (h:=ts 4 (h:=ts 5 (h:=ts 6 (h:=ts 7 (h:=ts 8 (h:=ts 9 (h:=tq 10 (h:=tq 11 (h:=ts 12 (h:=ts 13 (h:=?_))))))))))))));refine ts 14 (h:=ts 15 (h:=ts 16 (h:=tq 17 (h:=tD (h:=?_)))));clear hHeld hS0;go_wp2_with fail;go_ret;refine ⟨_,o1,rfl,hF.out.1.drew.mono (fun _ h=>h.elim), ?_, ?_⟩
  ·rw [<-KI.out];exact Dn.nil _ _
  ·rw [<-KI.out];exact hF.out.2.step0 (aj.refl ai W1 o1).drew
 | stands mine has =>
  rw [hrr] at hR hro;obtain ⟨p,rfl,mk,hp1,hpo,hha⟩:=hro;have hta:=gQ W1 (some ⟨p,0,none⟩);have c3:=hb.cells.1.2.2.2.1;obtain ⟨V,hV⟩:∃ V,W1.drew=V:=⟨_,rfl⟩;have kV:aj ai W1 o1 V o1:=by rw [<-hV];exact (aj.refl ai W1 o1).drew
  have hN:=h1.step0 kV;have mbV:=(kV.block mb (au gI) id).trans gI;have p0:=ag ((kV.block p (au hp1) id).trans hp1) 0;simp only [ay] at p0;have hS:=aI (show V.cell? ⟨mb,1,none⟩=some (.int .u64 (m.e.toNat:Int)) from ag mbV 1) (aI (show V.cell? ⟨mb,2,none⟩=some (.int .u64 (m.c.toNat:Int)) from ag mbV 2) p0);rw [<-hV] at hS;have hF:=ae (aI (s1.trans kV) hN);simp only at hR
  by_cases hme:mine=m.e
  ·have Aqv:(mine.toNat:Int)=(m.e.toNat:Int):=by rw [hme]
   by_cases hce:m.e.toNat<=m.c.toNat
   ·rw [if_pos (.inr hce)] at hR;have AzO:(m.e.toNat:Int)<=(m.c.toNat:Int):=by omega
    have KI:=ae hR;clear hb hst hl1 s1 gI mo1 hW1 hmb hbx e2 hls hsm hn3 hn1 kV hN mbV h1 hrr hR p0 hp1 hpo hha hme hce;go_enter func150,ntmps150
    go_wp2_with ((with_reducible apply BM);exact xH.out;simp only [Act.put,GL,DL,lss])
    refine Aa (fun w'=>w'.cell? ⟨mb,1,none⟩=some (.int .u64 (m.e.toNat:Int))/\w'.cell? ⟨mb,2,none⟩=some (.int .u64 (m.c.toNat:Int))/\w'.cell? ⟨p,0,none⟩=some (.int .u64 (mine.toNat:Int))) (fun _=>true) (by kernel_rfl) hS (fun hHeld => ?_);rw [hV] at hHeld ⊢;clear hV hS;refine tq 0 (h:=tq 1 (h:=tq 2 (h:=tq 3 (h:=tq 4 (h:=tq 5 (h:=tq 6 (h:=tq 7 (h:=tq 8 (h:=tq 9 (h:=tq 10 (h:=tq 11 (h:=tq 12 (h:=tq 13 (h:=?_))))))))))))));refine tq 14 (h:=tq 15 (h:=tq 16 (h:=tq 17 (h:=tD (h:=?_)))));clear hHeld;go_wp2_with fail;go_ret;refine ⟨_,o1,rfl,hF.out.1.mono (fun _ h=>h.elim), ?_, ?_⟩
    ·rw [<-KI.out];exact Dn.nil _ _
    ·rw [<-KI.out];exact hF.out.2
   ·have AzO:¬ (m.e.toNat:Int)<=(m.c.toNat:Int):=by omega
    have yS:=hp.ok.ro;rw [show z.BN.BB=z.BB from rfl,hrr] at yS;obtain ⟨-,hhl, -, -⟩:=yS;have hhl:has.length=z.n:=hhl;have hsl:src<has.length:=by rw [hhl];exact hsrc
    have hcc:∀ W O,aj ai V o1 W O->W.cell? ⟨p,1,none⟩=some (.map (some mk))/\W.cell? ⟨mb,2,none⟩=some (.int .u64 (m.c.toNat:Int))/\W.cell? ⟨mb,5,none⟩=some (.slice la n lc):=by
     intro W O hJ;have g1:=ag (((kV.trans hJ).block p (au hp1) id).trans hp1) 1;simp only [ay,ax] at g1;have g2:=(hJ.block mb (au mbV) id).trans mbV;exact ⟨g1,ag g2 2,ag g2 5⟩
    have cV:=(hcc V o1 (aj.refl _ _ _)).1;have AqM:=hha;obtain ⟨es,g1,g2,g3,g4,g5⟩:=hha;have g1V:=(kV.block mk (au g1) id).trans g1;have g4V:∀ x ∈ es,∃ ls,has[x.1]?=some (some (x.2.1,ls))/\Lines V o1 0 x.2.2 ls:=fun x hx=>by obtain ⟨ls,a,b⟩:=g4 x hx;exact ⟨ls,a,b.step kV id⟩
    have hpV:=(kV.block p (au hp1) id).trans hp1;have hbV:=hb.step kV id;have AnG:=hst.step0 kV;have hlV:=hl1.step kV id;have pal:=AB (P:=prog) V 203 _ Zn
    cases hg:has.getD src none with
    | some q =>
     rw [hg] at hR;simp only [Option.isSome_some,if_true] at hR;have hz:({ z with BB := .stands mine has }:Am)=z:=by rw [<-hrr]
     rw [if_neg (fun h=>h.elim (fun h=>h hme) hce),hz] at hR;have hq:has[src]?=some (some q):=by
      rw [List.getD_eq_getElem?_getD,List.getElem?_eq_getElem hsl] at hg;simp only [Option.getD_some] at hg;rw [List.getElem?_eq_getElem hsl,hg]
     obtain ⟨x,hx,hxs⟩:=g5 src q hq;obtain ⟨xls, -,hxL⟩:=g4V x hx;obtain ⟨xa,xc,hxv⟩:=hxL.form;have hlk:=SK g1V g3 hx;rw [hxs,hxv] at hlk;have pst:=Agu V (x.2.1.toNat:Int) xa xls.length xc;have k4:=(aj.refl ai V o1).alloc (.cells [.int .u64 (x.2.1.toNat:Int), .slice xa xls.length xc].toArray 203) (0,0);generalize Ak o1 V.heap.size (0,0)=o4 at *;obtain ⟨W4,hW4⟩:∃ W4,V.alloc (.cells [.int .u64 (x.2.1.toNat:Int), .slice xa xls.length xc].toArray 203)=W4:=⟨_,rfl⟩;rw [hW4] at k4 pst;have hsn:Qx W4 o4 D M pz ps pd p z mine has:=⟨ML,hbV.step k4 id,⟨mk,(k4.block p (au hpV) id).trans hpV,(k4.own p (au hpV)).trans hpo,(AqM.step (kV.trans k4) id id)⟩,AnG.step0 k4⟩;have hle:=ae (lead_any hsn hrr hp hK (by omega));have hF4:=ae ((s1.trans kV).trans k4);have KI:=ae hR;have Aga:=ae hlk;have AiM:=ae pal;have AiJ:=ae pst;clear hb hst hl1 s1 gI mo1 hW1 hmb hbx e2 hls hsm hn3 hn1 kV hN mbV h1 hrr hR p0 hp1 hpo AqM hme hce hcc g1 g2 g3 g4 g5 g1V g4V hpV hbV AnG hlV pal hlk pst k4 hW4 hsn hz hq hx hxs hxL hxv hg hhl hsl;go_enter func150,ntmps150
     go_wp2_with ((with_reducible apply BM);exact xH.out;simp only [Act.put,GL,DL,lss])
     refine Aa (fun w'=>w'.cell? ⟨mb,1,none⟩=some (.int .u64 (m.e.toNat:Int))/\w'.cell? ⟨mb,2,none⟩=some (.int .u64 (m.c.toNat:Int))/\w'.cell? ⟨p,0,none⟩=some (.int .u64 (mine.toNat:Int))) (fun _=>true) (by kernel_rfl) hS (fun hHeld => ?_);rw [hV] at hHeld ⊢;clear hV hS;refine tq 0 (h:=tq 1 (h:=tq 2 (h:=tq 3 (h:=tq 4 (h:=tq 5 (h:=tq 6 (h:=tq 7 (h:=tq 8 (h:=tq 9 (h:=tq 10 (h:=tq 11 (h:=tq 12 (h:=tq 13 (h:=?_))))))))))))));refine tq 14 (h:=tq 15 (h:=tq 16 (h:=tq 17 (h:=tD (h:=?_)))));clear hHeld
     go_wp2_with (first
      | ((with_reducible apply DN);exact Aga.out;simp only [Act.put,GL,DL,lss])
      | ((with_reducible apply AU);exact AiM.out;simp only [Act.put,GL,DL,lss])
      | ((with_reducible apply AC);exact AiJ.out;simp only [Act.put]))
     refine hle.out.mono ?_;rintro ex W5 ⟨v5,o5,rfl,hs5,hou,hn5⟩;have hF5:=ae (aI ((hF4.out.mono (T':=KC D M) (fun _ h=>h.elim)).trans hs5) (aI hou hn5));obtain ⟨ya,yc,rfl⟩:=hou.form;clear hs5 hou hn5 hle;go_wp2_with fail;go_ret;refine ⟨_,o5,rfl,hF5.out.1, ?_, ?_⟩
     ·rw [<-KI.out];exact hF5.out.2.1
     ·rw [<-KI.out];exact hF5.out.2.2
    | none =>
     rw [hg] at hR;simp only [Option.isSome_none,Bool.false_eq_true,if_false] at hR;rw [if_neg (fun h=>h.elim (fun h=>h hme) hce)] at hR;have hno:∀ x ∈ es,x.1 ≠ src:=by
      intro x hx he;obtain ⟨ls',h1, -⟩:=g4 x hx;rw [he] at h1;rw [List.getD_eq_getElem?_getD,h1] at hg;simp at hg
     have hlk:=UE g1V hno;have pst:=Agu V 0 none 0 0;have k4:=(aj.refl ai V o1).alloc (.cells [.int .u64 0, .slice none 0 0].toArray 203) (0,0);generalize Ak o1 V.heap.size (0,0)=o4 at *;obtain ⟨W4,hW4⟩:∃ W4,V.alloc (.cells [Value.int .u64 0, .slice none 0 0].toArray 203)=W4:=⟨_,rfl⟩;rw [hW4] at k4 pst;have Amw:V.alloc (.cells #[Value.int .u64 0, .slice none 0 0] 203)=W4:=hW4;rw [Amw] at pal;obtain ⟨V6,hV6⟩:∃ V,W4.drew=V:=⟨_,rfl⟩;have k6:aj ai V o1 V6 o4:=by rw [<-hV6];exact k4.drew
     have c6:=hcc V6 o4 k6;rw [<-hV6] at c6;have g16:=(k6.block mk (au g1V) id).trans g1V;have g26:o4 mk=(M+4,2):=by rw [k6.own mk (au g1V)];exact g2
     have hput:=Md g16 hno m.c (.slice la n lc);have kk:=(aj.refl (ak (M+4)) V6 o4).DR mk (.map (Bd 0 (es++[(src,m.c,Value.slice la n lc)])).toArray (es++[(src,m.c,Value.slice la n lc)]).length) (.inl (by rw [g26];rfl));have n4:¬ ak (M+4) 0:=fun h=>by unfold ak at h;omega
     have hhp:OE _ o4 (M+4) mk (has.set src (some (m.c,m.ls))):=dY (w:=V6) (o:=o4) (Ot (au g16)) g26 g3 hno (fun x hx=>by obtain ⟨ls,a,b⟩:=g4V x hx;exact ⟨ls,a,b.step k6 id⟩) (fun i p hp=>g5 i p hp) (fun v l h=>h.step kk n4) hsl ((hlV.step k6 id).step kk n4 |>.low (Nat.zero_le _));have po6:o4 p=(M+4,1):=(k6.own p (au hpV)).trans hpo;have hmp:mk ≠ p:=fun h=>by rw [h,po6] at g26;cases g26
     have hmz:mk ≠ pz:=fun h=>by have:=(hbV.step k6 id).2;rw [<-h,g26] at this;cases this
     have hsn:Qx (DR V6 mk (.map (Bd 0 (es++[(src,m.c,Value.slice la n lc)])).toArray (es++[(src,m.c,Value.slice la n lc)]).length)) o4 D M pz ps pd p ({ z with BB := .stands mine (has.set src (some (m.c,m.ls))) }:Am) mine (has.set src (some (m.c,m.ls))):=
      ⟨ML,⟨(JS hmz).trans (hbV.step k6 id).1,(hbV.step k6 id).2⟩,⟨mk,(JS hmp).trans ((k6.block p (au hpV) id).trans hpV),po6,hhp⟩,(AnG.step0 k6).step kk (KC.self ML.1)⟩
     obtain ⟨W7,hW7⟩:∃ x,DR V6 mk (.map (Bd 0 (es++[(src,m.c,Value.slice la n lc)])).toArray (es++[(src,m.c,Value.slice la n lc)]).length)=x:=⟨_,rfl⟩;rw [hW7] at hput kk hsn;have hle:=ae (lead_any hsn rfl (hp.promised hrr src ⟨hm.n1,hm.hl,Nat.le_add_left _ _⟩) hK hB);have hF4:=ae ((((s1.trans kV).trans k6).mono (T':=KC D M) (fun _ h=>h.elim)).trans (kk.mono (T':=KC D M) (fun k h=>(show KC D M k by cases h;exact KC.own))));have KI:=ae hR;have Aga:=ae hlk;have AiM:=ae pal;have AiJ:=ae pst;have AtV:=ae hput;clear hb hst hl1 s1 gI mo1 hW1 hmb hbx e2 hls hsm hn3 hn1 kV hN mbV h1 hrr hR p0 hp1 hpo AqM hme hce hcc g1 g2 g3 g4 g5 g1V g4V hpV hbV AnG hlV pal hlk pst k4 hW4 Amw hsn hg hhl hsl k6 g16 g26 hput kk n4 hhp po6 hmp hmz hno hW7;go_enter func150,ntmps150
     go_wp2_with ((with_reducible apply BM);exact xH.out;simp only [Act.put,GL,DL,lss])
     refine Aa (fun w'=>w'.cell? ⟨mb,1,none⟩=some (.int .u64 (m.e.toNat:Int))/\w'.cell? ⟨mb,2,none⟩=some (.int .u64 (m.c.toNat:Int))/\w'.cell? ⟨p,0,none⟩=some (.int .u64 (mine.toNat:Int))) (fun _=>true) (by kernel_rfl) hS (fun hHeld => ?_);rw [hV] at hHeld ⊢;clear hV hS;refine tq 0 (h:=tq 1 (h:=tq 2 (h:=tq 3 (h:=tq 4 (h:=tq 5 (h:=tq 6 (h:=tq 7 (h:=tq 8 (h:=tq 9 (h:=tq 10 (h:=tq 11 (h:=tq 12 (h:=tq 13 (h:=?_))))))))))))));refine tq 14 (h:=tq 15 (h:=tq 16 (h:=tq 17 (h:=tD (h:=?_)))));clear hHeld
     go_wp2_with (first
      | ((with_reducible apply DN);exact Aga.out;simp only [Act.put,GL,DL,lss])
      | ((with_reducible apply AU);exact AiM.out;simp only [Act.put,GL,DL,lss])
      | ((with_reducible apply AC);exact AiJ.out;simp only [Act.put]))
     refine Aa (fun w'=>w'.cell? ⟨p,1,none⟩=some (.map (some mk))/\w'.cell? ⟨mb,2,none⟩=some (.int .u64 (m.c.toNat:Int))/\w'.cell? ⟨mb,5,none⟩=some (.slice la n lc)) (fun i=>decide (i<10)) (by kernel_rfl) c6 (fun hHeld => ?_);rw [hV6] at hHeld ⊢;clear hV6 c6;refine tq 0 (h:=tq 1 (h:=tq 2 (h:=tq 3 (h:=tq 4 (h:=tq 5 (h:=tq 6 (h:=tq 7 (h:=tq 8 (h:=tq 9 (h:=tO 10 (h:=?_)))))))))));refine QO AtV.out ?_;go_wp2_with fail;refine ⟨fun h=>by simp at h, ?_⟩;refine tD (h:=?_);clear cV;go_wp2_with fail;refine hle.out.mono ?_;rintro ex W5 ⟨v5,o5,rfl,hs5,hou,hn5⟩;have hF5:=ae (aI (hF4.out.trans hs5) (aI hou hn5));obtain ⟨ya,yc,rfl⟩:=hou.form;clear hs5 hou hn5 hle;go_wp2_with fail;go_ret;refine ⟨_,o5,rfl,hF5.out.1, ?_, ?_⟩
     ·rw [<-KI.out];exact hF5.out.2.1
     ·rw [<-KI.out];exact hF5.out.2.2
  ·rw [if_pos (.inl hme)] at hR;have Aqv:¬ (mine.toNat:Int)=(m.e.toNat:Int):=fun h=>hme (BitVec.eq_of_toNat_eq (by omega));have Bfm:¬ mine.toNat=m.e.toNat:=fun h=>hme (BitVec.eq_of_toNat_eq h);have KI:=ae hR;clear hb hst hl1 s1 gI mo1 hW1 hmb hbx e2 hls hsm hn3 hn1 kV hN mbV h1 hrr hR p0 hp1 hpo hha;go_enter func150,ntmps150
   go_wp2_with ((with_reducible apply BM);exact xH.out;simp only [Act.put,GL,DL,lss])
   refine Aa (fun w'=>w'.cell? ⟨mb,1,none⟩=some (.int .u64 (m.e.toNat:Int))/\w'.cell? ⟨mb,2,none⟩=some (.int .u64 (m.c.toNat:Int))/\w'.cell? ⟨p,0,none⟩=some (.int .u64 (mine.toNat:Int))) (fun _=>true) (by kernel_rfl) hS (fun hHeld => ?_);rw [hV] at hHeld ⊢;clear hV hS;refine tq 0 (h:=tq 1 (h:=tq 2 (h:=tq 3 (h:=tq 4 (h:=tq 5 (h:=tq 6 (h:=tq 7 (h:=tq 8 (h:=tg 9 (.bool true) (h:=tq 10 (h:=tq 11 (h:=ts 12 (h:=ts 13 (h:=?_))))))))))))));refine ts 14 (h:=ts 15 (h:=ts 16 (h:=tq 17 (h:=tD (h:=?_)))));clear hHeld;go_wp2_with fail;go_ret;refine ⟨_,o1,rfl,hF.out.1.mono (fun _ h=>h.elim), ?_, ?_⟩
   ·rw [<-KI.out];exact Dn.nil _ _
   ·rw [<-KI.out];exact hF.out.2
end

end Go.Proofs.YtffkdillijmamaaGreat
