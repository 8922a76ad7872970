/- Contract of zab's count. -/
import Derived.Test.YthmpmgknnibljaaGreatSv8
namespace Go.Proofs.YthmpmgknnibljaaGreat
open Go.Proofs.Tryz
set_option maxRecDepth 100000
set_option maxHeartbeats 12800000
open Go Go.RowKit
attribute [local go_sem ↓] Go.wp_at_zero Go.wp_at_succ
variable {w w':World} {o o':Own} {B D K M Y b base p pd ps pz:Nat} {z:Am} {mine:BitVec 64} {nR:List Int} {ready:Bool} {s:AZ} {ls:List Ar} {lv:Value} {m:BG}
def GV (w:World) (o:Own) (D M pz ps pd p:Nat) (z:Am) (mine:BitVec 64) (nR:List Int) (base:Nat) (ready:Bool):Prop:=
 (D<=M/\D ≠ 0)/\GK w o (M+4) pz ps (.iface 87 (.pointer p)) z/\Nw w o (M+4) p mine nR base ready/\Bi w o (M+1) (M+2) (M+3) D ps pd 0 z.s
theorem GV.node (h:GV w o D M pz ps pd p z mine nR base ready) (hr:z.BB = .leads mine nR base ready):Bc w o D M pz ps pd z:=
 ⟨h.1,_,h.2.1,by rw [hr];exact ⟨p,rfl,h.2.2.1⟩,h.2.2.2⟩
theorem Bc.leads (h:Bc w o D M pz ps pd z) (hr:z.BB = .leads mine nR base ready):∃ p,GV w o D M pz ps pd p z mine nR base ready:=by
 obtain ⟨h1,rv,h2,h3,h4⟩:=h;rw [hr] at h3;obtain ⟨p,rfl,h3⟩:=h3;exact ⟨p,h1,h2,h3,h4⟩
theorem GV.step {T:Nat->Prop} (h:GV w o D M pz ps pd p z mine nR base ready) (s:aj T w o w' o') (hT:∀ t,T t->t ≠ 0/\¬ InN D M t):GV w' o' D M pz ps pd p z mine nR base ready:=by
 obtain ⟨h1,h2,h3,h4⟩:=h;have hZ:¬ T (M+4):=fun h=>(hT _ h).2 InN.own;exact ⟨h1,h2.step s hZ,h3.step s hZ,h4.step s fun t ht=>⟨(hT t ht).1,fun h=>(hT t ht).2 (InN.in4 t h)⟩⟩
theorem XP (l:List Int) (i:Nat) (x:Int):(ivs l).set i (.int .i64 x)=ivs (l.set i x):=by simp [ivs]
def fG (mine:BitVec 64) (b n cap base:Nat) (ready:Bool):List Value:=[(mine:aV), .slice b n cap, (base:aV), .bool ready]
def countOf (z:Am) (nR:List Int) (base:Nat):Am:=if (base:Int)<=CW nR then { z with Ag:=max z.Ag (CW nR).toNat } else z
theorem count_any (h:GV w o D M pz ps pd p z mine nR base ready) (hsm:small z.s.kept.lines) (hkl:z.s.kept.lines.length<=256)
  (h1:1<=nR.length) (h3:nR.length<=3) (hid:z.id<nR.length) (hmb:∀ x ∈ nR, -1<=x/\x<=256) (hco:z.Ag<=256) :
  Calls prog 42 #[.pointer pz, .pointer p] w (XL (ak (M+4)) w o fun v w' o'=>v = .tuple #[]/\∃ r,(z.count mine nR base ready).BB = .leads mine (nR.set z.id z.s.kept.lines.length) base r/\GV w' o' D M pz ps pd p (z.count mine nR base ready) mine (nR.set z.id z.s.kept.lines.length) base r):=by
 obtain ⟨hDM,hb,hl,hs⟩:=h;obtain ⟨b,cap,hp,hpo,hr,hro,hcl,hcm⟩:=hl;obtain ⟨L,hL⟩:=az (z.s.kept.lines.length);obtain ⟨n,hn⟩:=az (nR.length);have hdr:aj ai w o w.drew o:=(aj.refl ai w o).drew;have hkp:=ae (DJ (hs.step0 hdr) hsm);have hb1:=hb.step hdr id;obtain ⟨⟨c0, -,c2, -⟩, -⟩:=hb1.cells;have hpd:w.drew.heap[p]?=_:=hp;have cl1:=ag hpd 1;simp only [ay,ax] at cl1;have hS:=aI c0 (aI c2 cl1);have idI:(0:Int)<=(z.id:Int)/\(z.id:Int)<(n:Int):=aP
 have idN:z.id<n:=aP
 have hH:=aa6 hb hs hp hpo hr hro;have hA:=aa3 hDM hcl hcm;have hB:=aa5 hmb hco hkl h1 h3;have hnH:=ae hn;have hLH:=ae hL;rw [hn] at hS;clear hDM hb hs hp hpo hr hro hcl hcm hb1 c0 c2 hpd cl1 hmb hco hkl h1 h3 hn hL hsm hid;go_enter func42,ntmps42;go_wp2_with fail;refine Aa (fun w'=>w'.cell? pz=some (z.id:aV)/\w'.cell? (aW pz 2)=some (.pointer ps)/\w'.cell? (aW p 1)=some (.slice b n cap)) (fun i=>decide (i<16)) bf hS (fun hHeld => ?_);refine tq 0 (h:=tq 1 (h:=tq 2 (h:=tq 3 (h:=tq 4 (h:=tq 5 (h:=tq 6 (h:=tq 7 (h:=tq 8 (h:=tq 9 (h:=tq 10 (h:=tq 11 (h:=tO 12 (h:=?_)))))))))))));go_wp2_with fail;refine hkp.out.mono ?_;rintro e w1 ⟨v1,o1,rfl,hs1,lv,rfl,hlv,rfl⟩;have hs1:=hdr.trans hs1;obtain ⟨hb,hs,hp,hpo,hr,hro⟩:=hH.out;obtain ⟨⟨d0, -,d2, -⟩, -⟩:=(hb.step hs1 id).cells;have hp1:=(hs1.block p (au hp) id).trans hp;have hr1:=(hs1.block b (au hr) id).trans hr;have e1:=ag hp1 1;simp only [ay,ax] at e1;rw [hnH.out] at e1;have hS1:=aI d0 (aI d2 e1);have hfr:=Ap hr1 z.id;have hce:w1.cell? (aW b z.id)=some (.int .i64 (nR.getD z.id 0)):=by
  rw [ag hr1];have hlt:z.id<nR.length:=by rw [hnH.out];exact idN
  simp [ivs,List.getD_eq_getElem?_getD,List.getElem?_eq_getElem hlt]
 obtain ⟨la,lc,rfl⟩:=hlv.form;rw [hLH.out];have hfk:=fun W=>He W (z.s.kept.promised:aV) (z.s.kept.current:aV) (.slice la L lc);have qJ:=ae hs1;clear hs1 hlv d0 d2 e1 hHeld hb hs hp hpo hr hro hp1 hr1;unfold Dy;go_wp2_with fail;refine ⟨fun _=>hS1, ?_⟩;refine tq 13 (h:=tq 14 (h:=tq 15 (h:=tO 16 (h:=?_))));go_wp2_with fail;refine ⟨fun h=>by simp at h, ?_⟩;refine tD (h:=?_);have hs1:=qJ.out;obtain ⟨hb,hs,hp,hpo,hr,hro⟩:=hH.out;have hp1:=(hs1.block p (au hp) id).trans hp;have hr1:=(hs1.block b (au hr) id).trans hr;have op1:=(hs1.own p (au hp)).trans hpo;have ob1:=(hs1.own b (au hr)).trans hro;have hb1:=hb.step hs1 id;have Aty:=hs.step0 hs1;have hpb:p ≠ b:=fun h=>by rw [h,ob1] at op1;cases op1
 have hzb:pz ≠ b:=fun h=>by have:=hb1.2;rw [h,ob1] at this;cases this
 have hzp:pz ≠ p:=fun h=>by have:=hb1.2;rw [h,op1] at this;cases this
 have hDM:=hA.out.1;have hs2:=(hs1.only (M+4)).setCell (a:=(aW b z.id)) (L:aV) (.inl (by show (ext w.drew o b).1=_;rw [ob1]));have hk2:=(aj.refl (ak (M+4)) w1 (ext w.drew o)).setCell (a:=(aW b z.id)) (L:aV) (.inl (by show (ext w.drew o b).1=_;rw [ob1]));have hr2:=Ai (i:=z.id) (L:aV) hr1;rw [XP] at hr2;have hp2:=(Below.heap_setCell w1 (aW b z.id) (L:aV) p hpb).trans hp1;have hb2:GK (w1.setCell (aW b z.id) (L:aV)) (ext w.drew o) (M+4) pz ps (.iface 87 (.pointer p)) z:=⟨(Below.heap_setCell w1 (aW b z.id) (L:aV) pz hzb).trans hb1.1,hb1.2⟩;have Ahb:=Aty.step hk2 (InN.self hDM.1);obtain ⟨W2,hW2⟩:=az (w1.setCell (aW b z.id) (L:aV));rw [hW2] at hs2 hr2 hp2 hb2 Ahb ⊢;have hml:(nR.set z.id (L:Int)).length=n:=by rw [List.length_set];exact hnH.out
 have hcm:=VZ (w:=W2) (o:=ext w.drew o) (cap:=cap) (AV hr2) (by rw [hml];have:=hB.out.2.2.2;have:=hnH.out;omega) (by rw [hml];have:=hB.out.2.2.2;have:=hnH.out;omega);rw [hml] at hcm;have AdS:=ae hcm;have e1:=ag hp2 1;simp only [ay,ax] at e1;rw [hnH.out] at e1;have hlc:CW (nR.set z.id (L:Int))<=256:=by
  refine Qo (fun y hy => ?_) aP
  rcases List.mem_or_eq_of_mem_set hy with h | h
  ·exact (hB.out.1 y h).2
  ·rw [h];have:=hB.out.2.2.1;have:=hLH.out;omega
 have hcnt:z.count mine nR base ready=if (base:Int)<=CW (nR.set z.id (L:Int)) then { z with BB := .leads mine (nR.set z.id (L:Int)) base true,Ag:=max z.Ag (CW (nR.set z.id (L:Int))).toNat } else { z with BB := .leads mine (nR.set z.id (L:Int)) base ready }:=by rw [<-hLH.out];rfl
 obtain ⟨m2,hm2⟩:=az (nR.set z.id (L:Int));rw [hm2] at AdS hlc hr2 hml hcnt;have Aey:=ae hcnt;have AnS:=ae hm2;have Amn:(0:Int)<=(z.Ag:Int)/\(z.Ag:Int)<=256:=by have:=hB.out.2.1;omega
 have hX:=aa7 hs2 hr2 hp2 hb2 Ahb op1 ob1;have AnP:=ae hml;have hne:=aa3 hpb hzb hzp;obtain ⟨C,hC⟩:=az (CW m2);rw [hC] at AdS hlc Aey;clear hs1 qJ hb hs hp hpo hr hro hp1 hr1 op1 ob1 hb1 Aty hpb hzb hzp hs2 hk2 hr2 hp2 hb2 Ahb hW2 hml hcm hcnt hS1 hfr hce hfk
 by_cases hcmp:(base:Int)<=C
 ·rw [if_pos hcmp] at Aey;go_wp2_with fail;refine AdS.out.mono ?_;rintro e w3 ⟨v3,o3,rfl,hs3,rfl⟩;obtain ⟨hs2,hr2,hp2,hb2,Ahb,op2,ob2⟩:=hX.out;have hp3:=(hs3.block p (au hp2) id).trans hp2;have hr3:=(hs3.block b (au hr2) id).trans hr2;have op3:=(hs3.own p (au hp2)).trans op2;have ob3:=(hs3.own b (au hr2)).trans ob2;have hb3:=hb2.step hs3 id;have Alu:=Ahb.step0 hs3;have st3:=hs2.trans (hs3.only (M+4));have e2:=ag hp3 2;simp only [ay,ax] at e2;have f3:=Ap hp3 3;have e3:=ag hp3 3;simp only [ay,ax] at e3;obtain ⟨⟨-, -, -, -, -, -,c6⟩,hfr, -⟩:=hb3.cells;have f6:=hfr 6;obtain ⟨cn,rfl⟩:∃ cn:Nat,C=(cn:Int):=⟨C.toNat,aP⟩;have hmx:max (z.Ag:Int) (cn:Int)=((max z.Ag cn:Nat):Int):=aP
  have hnI:(0:Int)<=(cn:Int)/\(cn:Int)<=256:=aP
  have st4:=(st3.setCell (a:=(aW p 3)) (.bool true) (.inl (by show (o3 p).1=_;rw [op3]))).setCell (a:=(aW pz 6)) (.int .i64 ((max z.Ag cn:Nat):Int)) (.inl (by show (o3 pz).1=_;rw [hb3.2]));have k4:=((aj.refl (ak (M+4)) w3 o3).setCell (a:=(aW p 3)) (.bool true) (.inl (by show (o3 p).1=_;rw [op3]))).setCell (a:=(aW pz 6)) (.int .i64 ((max z.Ag cn:Nat):Int)) (.inl (by show (o3 pz).1=_;rw [hb3.2]));have hp4:=(Below.heap_setCell (w3.setCell (aW p 3) (.bool true)) (aW pz 6) (.int .i64 ((max z.Ag cn:Nat):Int)) p (fun h=>hne.out.2.2 h.symm)).trans (Ai (i:=3) (.bool true) hp3);have hr4:=(Below.heap_setCell (w3.setCell (aW p 3) (.bool true)) (aW pz 6) (.int .i64 ((max z.Ag cn:Nat):Int)) b (fun h=>hne.out.2.1 h.symm)).trans ((Below.heap_setCell w3 (aW p 3) (.bool true) b (fun h=>hne.out.1 h.symm)).trans hr3);have hb4:=Ai (i:=6) (.int .i64 ((max z.Ag cn:Nat):Int)) ((Below.heap_setCell w3 (aW p 3) (.bool true) pz hne.out.2.2).trans hb3.1);have hF:=ae (aI st4 (show GV _ o3 D M pz ps pd p { z with BB := .leads mine m2 base true,Ag:=max z.Ag (cn:Int).toNat } mine m2 base true from
   ⟨hA.out.1,⟨hb4,hb3.2⟩,⟨b,cap,by rw [AnP.out, <-hnH.out];exact hp4,op3,hr4,ob3,by rw [AnP.out, <-hnH.out];exact hA.out.2.1,hA.out.2.2⟩,Alu.step k4 (InN.self hA.out.1.1)⟩))
  clear hs2 hr2 hp2 hb2 Ahb op2 ob2 hs3 hp3 hr3 op3 ob3 hb3 Alu st3 st4 k4 hp4 hr4 hb4 hfr AdS hX;go_wp2_with fail
  go_end0
  refine ⟨_,o3,rfl,hF.out.1,rfl,true, ?_, ?_⟩
  ·rw [hLH.out,Aey.out,AnS.out]
  ·rw [hLH.out,Aey.out,AnS.out];exact hF.out.2
 ·rw [if_neg hcmp] at Aey;go_wp2_with fail;refine AdS.out.mono ?_;rintro e w3 ⟨v3,o3,rfl,hs3,rfl⟩;obtain ⟨hs2,hr2,hp2,hb2,Ahb,op2,ob2⟩:=hX.out;have hp3:=(hs3.block p (au hp2) id).trans hp2;have hr3:=(hs3.block b (au hr2) id).trans hr2;have op3:=(hs3.own p (au hp2)).trans op2;have ob3:=(hs3.own b (au hr2)).trans ob2;have hb3:=hb2.step hs3 id;have Alu:=Ahb.step0 hs3;have st3:=hs2.trans (hs3.only (M+4));have e2:=ag hp3 2;simp only [ay,ax] at e2;have hF:=ae (aI st3 (show GV w3 o3 D M pz ps pd p { z with BB := .leads mine m2 base ready } mine m2 base ready from
   ⟨hA.out.1,hb3,⟨b,cap,by rw [AnP.out, <-hnH.out];exact hp3,op3,hr3,ob3,by rw [AnP.out, <-hnH.out];exact hA.out.2.1,hA.out.2.2⟩,Alu⟩))
  clear hs2 hr2 hp2 hb2 Ahb op2 ob2 hs3 hp3 hr3 op3 ob3 hb3 Alu st3 AdS hX;go_wp2_with fail
  go_end0
  refine ⟨_,o3,rfl,hF.out.1,rfl,ready, ?_, ?_⟩
  ·rw [hLH.out,Aey.out,AnS.out]
  ·rw [hLH.out,Aey.out,AnS.out];exact hF.out.2
theorem jL {d:Af} (hd:d.dead=false) (hr:d.row=[]) (Bz:List Int):d.kill.BJ Bz={ d with left := -1 }:=by
 obtain ⟨p,r,l,dd⟩:=d;simp only at hd hr;subst hd hr;rfl
theorem Ad.Good.jH {l:Ad} {d:Af} (h:Ad.Good K (l,d)) (n:Int) (hn : -1<=n/\n<=9223372036854775807):Ad.Good K (l,{ d with left:=n }):=by
 obtain ⟨h1,h2,⟨h3,h4,h5,h6⟩,h7⟩:=h;refine ⟨h1,h2,⟨h3,h4,h5, ?_⟩,h7⟩;obtain ⟨q1,q2,q3,q4,q5,q6⟩:=h6;exact ⟨q1,q2,q3,q4,hn.1,hn.2⟩
theorem SG.jH {H:Nat} (h:SG K H s) (n:Int) (hn : -1<=n/\n<=9223372036854775807):SG K H { s with d:={ s.d with left:=n } }:=
 ⟨h.live,Ad.Good.jH h.gc n hn,Ad.Good.jH h.go n hn,h.pg,h.h4,h.VC,h.len,h.nc,h.no,h.fst,h.rc,h.ro,h.Wl⟩
theorem YG {H:Nat} {t:AZ} (Mx:Nat) (hDx:D<=Mx) (hD0:D ≠ 0) (hg:SG K H t) (hK:K<65536) (hn:t.d.pages.length<=400) (hD:Bg w o D pd t.d) :
  Calls prog 37 #[.pointer pd] w (XL (EN Mx) w o fun v w' o'=>∃ ps:Nat,v = .tuple #[.pointer ps, .int .i64 0]/\Bi w' o' (Mx+1) (Mx+2) (Mx+3) D ps pd 0 t):=by
 obtain ⟨g0,g1,k0,k1,h0,h1,he⟩:=hg.reopen;have hnew:=hg.newest hK;have h4:=hg.h4;have hl:=hg.len;refine (Yn (S:=Mx+1) (A:=Mx+2) (B:=Mx+3) (Y:=Mx+4) (by simp;omega) hD hg.dd (by rw [hg.row];simp) aP hn hl hnew.1 hnew.2 h0 h1).mono ?_;rintro e w' ⟨v,o',rfl,hs,ps, -,rfl,hat⟩;rw [he] at hat;exact ⟨_,o',rfl,hs.mono (fun k hk=>by rcases hk with rfl | rfl | rfl <;> (show Mx<_;omega)),ps,rfl,hat.low (Nat.zero_le _)⟩
structure SP (K:Nat) (s:AZ):Prop where
 sg:SG K 200 s
 up:s.d.left<0
 pg:s.d.pages.length=400
theorem SP.mono {K':Nat} (h:SP K s) (hK:K<=K'):SP K' s:=⟨h.sg.mono hK,h.up,h.pg⟩
theorem SP.dead (h:SP K s):(s.dead || s.d.dead)=false:=by rw [h.sg.live,h.sg.dd];rfl
theorem SP.new:SP 0 (YJ 400):=⟨dL (n:=400) aP aP,by show (-1:Int)<0;omega,by show (Af.new 400).pages.length=400;unfold Af.new;rw [List.length_replicate]⟩
theorem SP.jH (h:SP K s):SP K { s with d:={ s.d with left := -1 } }:=⟨h.sg.jH (-1) aP,by show (-1:Int)<0;omega,h.pg⟩
theorem Aht (h:SP K s) (hK:K+600<65536) (hk:KOk s.kept) (a:bW) (hb:AP (s.kept.next a).1.lines<=90000) :
  ((s.kept.next a).2=1/\s.act a=(s,1)) \/ ((s.kept.next a).2=0/\∃ s',s.act a=(s',0)/\SP (K+3) s'/\s'.kept=(s.kept.next a).1):=by
 rcases AZ.Zk h.sg hK hk a with ⟨h1,h2,h3⟩ | ⟨h0,s',h1,h2,h3,h4,h5⟩ | ⟨h0,h1,h2⟩ | ⟨-, -,h1, -⟩
 ·exact .inl ⟨h1,h3⟩
 ·exact .inr ⟨h0,s',h1,⟨h2,h5 h.up,h4.trans h.pg⟩,h3⟩
 ·have h3:=h2 400 aP;have h4:=(hk.next a).n;unfold AX.fits bH at h3;simp only [decide_eq_false_iff_not] at h3;omega
 ·have:=h.up;omega
theorem AcS (h:SP K s) (hK:K+600<65536) (hk:KOk s.kept) (hb:AP s.kept.lines<=90000) (e:BitVec 64) :
  ((s.kept.CQ e).2=1/\s.promise e=(s,1)) \/ ((s.kept.CQ e).2=0/\∃ s',s.promise e=(s',0)/\SP (K+3) s'/\s'.kept=(s.kept.CQ e).1):=by
 refine Aht h hK hk ⟨0,e,[]⟩ ?_;show AP (s.kept.CQ e).1.lines<=90000;unfold AX.CQ;split <;> exact hb
theorem KW (h:SP K s) (hK:K+600<65536) (hk:KOk s.kept) (e:BitVec 64) (ls:List Ar) (hb:AP s.kept.lines<=90000) (hb2:AP ls<=90000) :
  ((s.kept.Ee e ls).2=1/\s.FO e ls=(s,1)) \/ ((s.kept.Ee e ls).2=0/\∃ s',s.FO e ls=(s',0)/\SP (K+3) s'/\s'.kept=(s.kept.Ee e ls).1):=by
 refine Aht h hK hk ⟨1,e,ls⟩ ?_;show AP (s.kept.Ee e ls).1.lines<=90000;unfold AX.Ee;split
 ·exact hb2
 ·exact hb
theorem Jy (h:SP K s) (hK:K+600<65536) (hk:KOk s.kept) (ls:List Ar) (hb:AP s.kept.lines+AP ls<=90000) :
  ((s.kept.Cm ls).2=1/\s.append ls=(s,1)) \/ ((s.kept.Cm ls).2=0/\∃ s',s.append ls=(s',0)/\SP (K+3) s'/\s'.kept=(s.kept.Cm ls).1):=by
 refine Aht h hK hk ⟨2,0,ls⟩ ?_;show AP (s.kept.Cm ls).1.lines<=90000;unfold AX.Cm;split
 ·show AP (s.kept.lines++ls)<=90000;rw [DV];exact hb
 ·show AP s.kept.lines<=90000;omega
namespace Am
structure NP (K B:Nat) (z:Am):Prop where
 sp:SP K z.s
 ok:NOk B z.BN
theorem NP.mono {K' B':Nat} (h:NP K B z) (hK:K<=K') (hB:B<=B'):NP K' B' z:=⟨h.sp.mono hK,h.ok.mono hB⟩
theorem NP.kok (h:NP K B z):KOk z.s.kept:=h.ok.toN0.kok
theorem LG (z:Am) (mine:BitVec 64) (nR:List Int) (base:Nat) (ready:Bool):(z.count mine nR base ready).BN=z.BN.count mine nR base ready/\(z.count mine nR base ready).s=z.s:=by
 unfold count Aj.count;simp only;split
 ·rename_i h;rw [if_pos (show (base:Int)<=CW (nR.set z.BN.id z.BN.k.lines.length) from h)];exact ⟨rfl,rfl⟩
 ·rename_i h;rw [if_neg (show ¬ (base:Int)<=CW (nR.set z.BN.id z.BN.k.lines.length) from h)];exact ⟨rfl,rfl⟩
def Plain (K:Nat) (r:Am × DX) (q:Aj × DX):Prop:=r.1.BN=q.1/\r.2=q.2/\SP K r.1.s
theorem PV (h:SP K z.s) (hK:K+600<65536) (hk:KOk z.s.kept) (hb:AP z.s.kept.lines<=90000) (mine:BitVec 64) (has:List (Option (BitVec 64 × List Ar))) (hbs:∀ p,some p ∈ has->AP p.2<=90000) :
  Plain (K+3) (z.lead mine has) (z.BN.lead mine has):=by
 unfold lead Aj.lead
 by_cases hq:2*(has.filter Option.isSome).length<=z.n
 ·rw [if_pos hq,if_pos (show 2*(has.filter Option.isSome).length<=z.BN.n from hq)];exact ⟨rfl,rfl,h.mono aP⟩
 ·rw [if_neg hq,if_neg (show ¬ 2*(has.filter Option.isSome).length<=z.BN.n from hq)]
  cases hbp:Qr has with
  | none=>exact ⟨rfl,rfl,h.mono aP⟩
  | some p =>
   have hp:some p ∈ has:=by
    rcases NZ has none p hbp with h | h
    ·simp at h
    ·exact h
   simp only;have hkk:z.BN.k=z.s.kept:=rfl;rw [hkk]
   rcases KW h hK hk mine p.2 hb (hbs p hp) with ⟨h1,h2⟩ | ⟨h1,s',h2,h3,h4⟩
   ·rw [h1,h2];exact ⟨rfl,rfl,h.mono aP⟩
   ·rw [h1,h2,if_pos rfl,if_pos rfl, <-h4];obtain ⟨c1,c2⟩:=LG ({ z with s:=s',Ag:=min z.Ag p.2.length }:Am) mine (List.replicate z.n (-1)) p.2.length false;exact ⟨c1,rfl,by show SP _ (Am.count _ _ _ _ _).s;rw [c2];exact h3⟩
theorem Uu (h:SP K z.s) (hK:K+606<65536) (hk:KOk z.s.kept) (hb:AP z.s.kept.lines<=90000):Plain (K+6) z.stand z.BN.stand:=by
 unfold stand Aj.stand;have hkk:z.BN.k=z.s.kept:=rfl;have e1:z.BN.seen=z.seen:=rfl;have e2:z.BN.id=z.id:=rfl;have e3:z.BN.n=z.n:=rfl;simp only;rw [hkk,e1,e2,e3];generalize PQ (Fj z.s.kept.promised z.seen) z.id z.n=e
 by_cases he:e=0
 ·rw [if_pos he,if_pos he];exact ⟨rfl,rfl,h.mono aP⟩
 ·rw [if_neg he,if_neg he]
  rcases AcS h aP hk hb e with ⟨h1,h2⟩ | ⟨h1,s',h2,h3,h4⟩
  ·rw [h1,h2];exact ⟨rfl,rfl,h.mono aP⟩
  ·rw [h1,h2,if_pos rfl,if_pos rfl, <-h4];have hl:s'.kept.lines=z.s.kept.lines:=by rw [h4,GM h1]
   have hk':KOk s'.kept:=⟨by rw [hl];exact hk.n,by rw [hl];exact hk.b⟩;have:=PV (z:={ z with s:=s',BB := .stands e ((List.replicate z.n none).set z.id (some (z.s.kept.current,z.s.kept.lines))),waited:=0 }) h3 aP hk' (by show AP s'.kept.lines<=90000;rw [hl];exact hb) e ((List.replicate z.n none).set z.id (some (z.s.kept.current,z.s.kept.lines))) (fun p hp=>by
    rcases List.mem_or_eq_of_mem_set hp with hx | hx
    ·have:=List.eq_of_mem_replicate hx;simp at this
    ·simp only [Option.some.injEq] at hx;subst hx;exact hb)
   obtain ⟨p1,p2,p3⟩:=this;refine ⟨p1, ?_,p3⟩;show _++_=_++_;rw [p2];rfl
theorem WC (h:SP K z.s) (hK:K+606<65536) (hk:KOk z.s.kept) (hb:AP z.s.kept.lines<=90000):Plain (K+6) z.tick z.BN.tick:=by
 have key:∀ z:Am,SP K z.s->KOk z.s.kept->AP z.s.kept.lines<=90000 ->
   Plain (K+6) (if 3+2*z.id<z.waited+1 then ({ z with waited:=z.waited+1 }:Am).stand else (({ z with waited:=z.waited+1 }:Am),[])) (if 3+2*z.BN.id<z.BN.waited+1 then ({ z.BN with waited:=z.BN.waited+1 }:Aj).stand else (({ z.BN with waited:=z.BN.waited+1 }:Aj),[])):=by
  intro z h hk hb
  by_cases hw:3+2*z.id<z.waited+1
  ·rw [if_pos hw,if_pos (show 3+2*z.BN.id<z.BN.waited+1 from hw)];exact Uu (z:={ z with waited:=z.waited+1 }) h hK hk hb
  ·rw [if_neg hw,if_neg (show ¬ 3+2*z.BN.id<z.BN.waited+1 from hw)];exact ⟨rfl,rfl,h.mono aP⟩
 obtain ⟨id,n,s,BB,waited,seen,Ag⟩:=z
 cases BB with
 | follows=>exact key _ h hk hb
 | stands a b=>exact key _ h hk hb
 | leads mine nR base ready=>exact ⟨rfl,rfl,h.mono aP⟩
theorem Xk (h:SP K z.s) (hK:K+600<65536) (hk:KOk z.s.kept) (src:Nat) (m:BG) (hb:AP z.s.kept.lines+AP m.ls<=90000) (hbs:∀ mine has,z.BB = .stands mine has->∀ p,some p ∈ has->AP p.2<=90000) :
  Plain (K+3) (z.hear src m) (z.BN.hear src m):=by
 rw [Aj.MZ];unfold hear;have hy:({ z.BN with seen:=Fj z.BN.seen m.e }:Aj)=({ z with seen:=Fj z.seen m.e }:Am).BN:=rfl;rw [hy];have h':SP K ({ z with seen:=Fj z.seen m.e }:Am).s:=h;have hk':KOk ({ z with seen:=Fj z.seen m.e }:Am).s.kept:=hk;have hb':AP ({ z with seen:=Fj z.seen m.e }:Am).s.kept.lines+AP m.ls<=90000:=hb;have hbs':∀ mine has,({ z with seen:=Fj z.seen m.e }:Am).BB = .stands mine has->∀ p,some p ∈ has->AP p.2<=90000:=hbs;generalize ({ z with seen:=Fj z.seen m.e }:Am)=y at *;clear h hk hb hbs hy;have hkk:y.BN.k=y.s.kept:=rfl;have stay:Plain (K+3) (y,[]) (y.BN,[]):=⟨rfl,rfl,h'.mono aP⟩;unfold Ec Aj.Ec;split
 ·unfold BK Aj.BK;rw [hkk];split
  ·exact stay
  split
  ·exact ⟨rfl,rfl,h'.mono aP⟩
  rcases AcS h' hK hk' aP m.e with ⟨h1,h2⟩ | ⟨h1,s',h2,h3,h4⟩
  ·rw [h1,h2];exact stay
  ·rw [h1,h2,if_pos rfl,if_pos rfl, <-h4];exact ⟨rfl,rfl,h3⟩
 split
 ·unfold Bj Aj.Bj;have hr:y.BN.BB=y.BB:=rfl;rw [hr]
  cases hrr:y.BB with
  | follows=>exact stay
  | leads a b c d=>exact stay
  | stands mine has =>
   show Plain (K+3) (if mine ≠ m.e \/ m.e.toNat<=m.c.toNat then _ else _) (if mine ≠ m.e \/ m.e.toNat<=m.c.toNat then _ else _)
   split
   ·exact stay
   ·have hall:∀ p,some p ∈ (if (has.getD src none).isSome then has else has.set src (some (m.c,m.ls)))->AP p.2<=90000:=by
     intro p hp;split at hp
     ·exact hbs' mine has hrr p hp
     ·rcases List.mem_or_eq_of_mem_set hp with hx | hx
      ·exact hbs' mine has hrr p hx
      ·simp only [Option.some.injEq] at hx;subst hx;show AP m.ls<=90000;omega
    generalize (if (has.getD src none).isSome then has else has.set src (some (m.c,m.ls)))=uJ at *
    exact PV (z:={ y with BB := .stands mine uJ }) h' hK hk' (by show AP y.s.kept.lines<=90000;omega) mine uJ hall
 split
 ·unfold Cj Aj.Cj;split <;> exact ⟨rfl,rfl,h'.mono aP⟩
 split
 ·unfold BD Aj.BD;rw [hkk];split
  ·exact stay
  split
  ·exact ⟨rfl,rfl,h'.mono aP⟩
  split
  ·exact ⟨rfl,rfl,h'.mono aP⟩
  rcases KW h' hK hk' m.e m.ls aP aP with ⟨h1,h2⟩ | ⟨h1,s',h2,h3,h4⟩
  ·rw [h1,h2];exact stay
  ·rw [h1,h2,if_pos rfl,if_pos rfl, <-h4];exact ⟨rfl,rfl,h3⟩
 split
 ·unfold BF Aj.BF;rw [hkk];split
  ·exact stay
  split
  ·exact ⟨rfl,rfl,h'.mono aP⟩
  split
  ·exact stay
  simp only;split
  ·exact ⟨rfl,rfl,h'.mono aP⟩
  split
  ·exact ⟨rfl,rfl,h'.mono aP⟩
  have hd:=FN m.ls (y.s.kept.lines.length - m.at')
  rcases Jy h' hK hk' (m.ls.drop (y.s.kept.lines.length - m.at')) aP with ⟨h1,h2⟩ | ⟨h1,s',h2,h3,h4⟩
  ·rw [h1,h2];exact ⟨rfl,rfl,h'.mono aP⟩
  ·rw [h1,h2,if_pos rfl,if_pos rfl, <-h4];exact ⟨rfl,rfl,h3⟩
 ·unfold CJ Aj.CJ;have hr:y.BN.BB=y.BB:=rfl;rw [hr]
  cases hrr:y.BB with
  | follows=>exact stay
  | stands a b=>exact stay
  | leads mine nR base ready =>
   simp only;split
   ·obtain ⟨c1,c2⟩:=LG y mine (nR.set src (max (nR.getD src 0) (min m.at' y.s.kept.lines.length:Nat))) base ready;exact ⟨c1,rfl,by show SP _ (Am.count _ _ _ _ _).s;rw [c2];exact h'.mono aP⟩
   ·exact stay
theorem QL (h:SP K z.s) (hK:K+600<65536) (hk:KOk z.s.kept) (b:List UInt8) (hb:AP z.s.kept.lines+b.length<=90000) :
  (z.BL b).1.BN=(z.BN.BL b).1/\(z.BL b).2=(z.BN.BL b).2/\SP (K+3) (z.BL b).1.s:=by
 obtain ⟨id,n,s,BB,waited,seen,Ag⟩:=z;have h':SP (K+3) s:=h.mono aP
 by_cases hbl:b.length=0 \/ 4096<b.length
 ·unfold BL Aj.BL;rw [if_pos hbl,if_pos hbl];exact ⟨rfl,rfl,h'⟩
 cases BB with
 | follows=>unfold BL Aj.BL;rw [if_neg hbl,if_neg hbl];exact ⟨rfl,rfl,h'⟩
 | stands a c=>unfold BL Aj.BL;rw [if_neg hbl,if_neg hbl];exact ⟨rfl,rfl,h'⟩
 | leads mine nR base ready =>
  cases ready with
  | false=>unfold BL Aj.BL;rw [if_neg hbl,if_neg hbl];exact ⟨rfl,rfl,h'⟩
  | true =>
   have p1:(⟨id,n,s, .leads mine nR base true,waited,seen,Ag⟩:Am).BL b=(if 256<=s.kept.lines.length then (⟨id,n,s, .leads mine nR base true,waited,seen,Ag⟩,4) else
     if (s.append [⟨mine,b⟩]).2=0 then ((⟨id,n,(s.append [⟨mine,b⟩]).1, .leads mine nR base true,waited,seen,Ag⟩:Am).count mine nR base true,0) else (⟨id,n,(s.append [⟨mine,b⟩]).1, .leads mine nR base true,waited,seen,Ag⟩,(s.append [⟨mine,b⟩]).2)):=by
    unfold BL;rw [if_neg hbl]
   have p2:(⟨id,n,s.kept, .leads mine nR base true,waited,seen,Ag⟩:Aj).BL b=(if 256<=s.kept.lines.length then (⟨id,n,s.kept, .leads mine nR base true,waited,seen,Ag⟩,4) else
     if (s.kept.Cm [⟨mine,b⟩]).2=0 then ((⟨id,n,(s.kept.Cm [⟨mine,b⟩]).1, .leads mine nR base true,waited,seen,Ag⟩:Aj).count mine nR base true,0) else (⟨id,n,s.kept, .leads mine nR base true,waited,seen,Ag⟩,(s.kept.Cm [⟨mine,b⟩]).2)):=by
    unfold Aj.BL;rw [if_neg hbl]
   show (Am.BL _ b).1.BN=(Aj.BL ⟨id,n,s.kept, .leads mine nR base true,waited,seen,Ag⟩ b).1/\(Am.BL _ b).2=(Aj.BL ⟨id,n,s.kept, .leads mine nR base true,waited,seen,Ag⟩ b).2/\_;rw [p1,p2]
   by_cases hf:256<=s.kept.lines.length
   ·rw [if_pos hf,if_pos hf];exact ⟨rfl,rfl,h'⟩
   rw [if_neg hf,if_neg hf]
   rcases Jy (s:=s) h hK hk [⟨mine,b⟩] (by simpa [AP] using hb) with ⟨h1,h2⟩ | ⟨h1,s',h2,h3,h4⟩
   ·rw [h1,h2,if_neg (by show ¬ (1:Int)=0;decide),if_neg bz];exact ⟨rfl,rfl,h'⟩
   ·rw [h1,h2,if_pos rfl,if_pos rfl, <-h4];obtain ⟨c1,c2⟩:=LG (⟨id,n,s', .leads mine nR base true,waited,seen,Ag⟩:Am) mine nR base true;refine ⟨c1,rfl, ?_⟩;show SP (K+3) (Am.count ⟨id,n,s', .leads mine nR base true,waited,seen,Ag⟩ mine nR base true).s;rw [c2];exact h3
end Am
theorem En.small (h:En B ls) (hB:B<=100000):small ls:=by
 refine ⟨Nat.le_trans h.n aP, ?_⟩;rw [Ej];have:=h.n;have:=h.b;omega
theorem ZF (h:D<=M/\D ≠ 0):Qw (M+1) (M+2) (M+3) D:=by
 obtain ⟨h1,h2⟩:=h
 constructor <;> omega
section
variable {w:World} {o:Own} {D M ps pd K B:Nat} {s:AZ}
def Ahu (D M ps pd:Nat) (Q:AZ × Int) (v:Value) (w':World) (o':Own):Prop:=v = .int .i64 Q.2/\Bi w' o' (M+1) (M+2) (M+3) D ps pd 0 Q.1
theorem Wrote.zero {nb:Nat} {Q:AZ × Int} {v:Value} (h:Wrote (M+1) (M+2) (M+3) D ps pd 0 nb Q v w' o'):Ahu D M ps pd Q v w' o':=⟨h.1,h.2.low (Nat.zero_le _)⟩
theorem Jb (hDM:D<=M/\D ≠ 0) (h:Bi w o (M+1) (M+2) (M+3) D ps pd 0 s) (hp:SP K s) (hsm:small s.kept.lines) (e:BitVec 64) :
  Calls prog 26 #[.pointer ps, (e:aV)] w (XL (qG (M+1) (M+2) (M+3) D) w o fun v w' o'=>Ahu D M ps pd (s.promise e) v w' o'):=by
 refine (SA (ZF hDM) h (by rw [hp.sg.row];simp) ?_ hsm e).mono ?_
 ·have:=hp.sg.pg;omega
 ·rintro e w' ⟨v,o',rfl,hs,hw⟩;exact ⟨v,o',rfl,hs,hw.zero⟩
theorem Pe (hDM:D<=M/\D ≠ 0) (h:Bi w o (M+1) (M+2) (M+3) D ps pd 0 s) (hp:SP K s) (e:BitVec 64) {Aed:Nat} (hl:Lines w o Aed lv ls) (hls:small ls) :
  Calls prog 145 #[.pointer ps, (e:aV),lv] w (XL (qG (M+1) (M+2) (M+3) D) w o fun v w' o'=>Ahu D M ps pd (s.FO e ls) v w' o'):=by
 refine (WQ (ZF hDM) h (by rw [hp.sg.row];simp) ?_ e lv ls hl hls.1 (fun _=>hls)).mono ?_
 ·have:=hp.sg.pg;omega
 ·rintro e w' ⟨v,o',rfl,hs,hw⟩;exact ⟨v,o',rfl,hs,hw.zero⟩
theorem Ob (hDM:D<=M/\D ≠ 0) (h:Bi w o (M+1) (M+2) (M+3) D ps pd 0 s) (hp:SP K s) {Aed:Nat} (hl:Lines w o Aed lv ls) (hls:small ls) (hk:small s.kept.lines) (hkl:small (s.kept.lines++ls) \/ 1000<s.kept.lines.length+ls.length) :
  Calls prog 41 #[.pointer ps,lv] w (XL (qG (M+1) (M+2) (M+3) D) w o fun v w' o'=>Ahu D M ps pd (s.append ls) v w' o'):=by
 refine (UD (ZF hDM) h (by rw [hp.sg.row];simp) ?_ lv ls hl hls.1 hk.1 (fun ha=>⟨hls,hk, ?_⟩)).mono ?_
 ·have:=hp.sg.pg;omega
 ·rcases hkl with h | h
  ·exact h
  ·unfold AX.Eu at ha;simp only [Bool.and_eq_true,decide_eq_true_eq] at ha;omega
 ·rintro e w' ⟨v,o',rfl,hs,hw⟩;exact ⟨v,o',rfl,hs,hw.zero⟩
end
abbrev DT:=BitVec 64 × List Ar
def BC (j:Nat):List (Option DT)->List (Nat × DT)
 | []=>[]
 | none :: r=>BC (j+1) r
 | some p :: r=>(j,p) :: BC (j+1) r
theorem KF:∀ (l:List (Option DT)) (j:Nat),(BC j l).length=(l.filter Option.isSome).length
 | [],_=>rfl
 | none :: r,j=>by simpa [BC] using KF r (j+1)
 | some p :: r,j=>by simpa [BC] using KF r (j+1)
theorem Fa:∀ (l:List (Option DT)) (j i:Nat) (p:DT),(i,p) ∈ BC j l ↔ ∃ k,i=j+k/\l[k]?=some (some p)
 | [],_,_,_=>by simp [BC]
 | none :: r,j,i,p=>by
  rw [show BC j (none :: r)=BC (j+1) r from rfl,Fa r (j+1) i p]
  constructor
  ·rintro ⟨k,rfl,h⟩;exact ⟨k+1,aP,h⟩
  ·rintro ⟨k,rfl,h⟩
   cases k with
   | zero=>simp at h
   | succ k=>exact ⟨k,aP,h⟩
 | some q :: r,j,i,p=>by
  rw [show BC j (some q :: r)=(j,q) :: BC (j+1) r from rfl,List.mem_cons,Fa r (j+1) i p]
  constructor
  ·rintro (h | ⟨k,rfl,h⟩)
   ·cases h;exact ⟨0,aP,rfl⟩
   ·exact ⟨k+1,aP,h⟩
  ·rintro ⟨k,rfl,h⟩
   cases k with
   | zero=>simp at h;subst h;exact .inl rfl
   | succ k=>exact .inr ⟨k,aP,h⟩
theorem Mc:∀ (l:List (Option DT)) (j:Nat),((BC j l).map (·.1)).Pairwise (· < ·)
 | [],_=>by simp [BC]
 | none :: r,j=>Mc r (j+1)
 | some p :: r,j=>by
  rw [show BC j (some p :: r)=(j,p) :: BC (j+1) r from rfl,List.map_cons,List.pairwise_cons];refine ⟨fun i hi => ?_,Mc r (j+1)⟩;obtain ⟨x,hx,rfl⟩:=List.mem_map.1 hi;obtain ⟨k,h, -⟩:=(Fa r (j+1) x.1 x.2).1 hx;show j<x.1;omega
theorem Ll:∀ (l:List (Option DT)) (j:Nat) (b:Option DT),l.foldl EW b=(BC j l).foldl (fun b x=>EW b (some x.2)) b
 | [],_,_=>rfl
 | none :: r,j,b=>by
  rw [List.foldl_cons,show BC j (none :: r)=BC (j+1) r from rfl, <-Ll r (j+1)];rfl
 | some p :: r,j,b=>by
  rw [List.foldl_cons,show BC j (some p :: r)=(j,p) :: BC (j+1) r from rfl,List.foldl_cons,Ll r (j+1)]
theorem WN {Z mb:Nat} {has:List (Option DT)} (h:OE w o Z mb has) :
  ∃ es:List Ent,(w.heap[mb]?=some (.map (Bd 0 es).toArray es.length)/\o mb=(Z,2))/\(es.map (·.1)).Nodup/\(∀ x ∈ es,x.1<has.length)/\es.length=(has.filter Option.isSome).length /\
   (∀ q:List Nat,q.Perm (es.map (·.1))->q.Pairwise (· <= ·)->q=(BC 0 has).map (·.1))/\(∀ i p,(i,p) ∈ BC 0 has->∃ x ∈ es,x.1=i/\x.2.1=p.1/\Lines w o 0 x.2.2 p.2)/\∀ x ∈ es,∃ ls,has[x.1]?=some (some (x.2.1,ls))/\Lines w o 0 x.2.2 ls:=by
 obtain ⟨es,h1,h2,h3,h4,h5⟩:=h;have hm:∀ i,i ∈ es.map (·.1) ↔ i ∈ (BC 0 has).map (·.1):=by
  intro i
  constructor
  ·intro hi;obtain ⟨x,hx,rfl⟩:=List.mem_map.1 hi;obtain ⟨ls,hl, -⟩:=h4 x hx;exact List.mem_map.2 ⟨(x.1,(x.2.1,ls)),(Fa has 0 _ _).2 ⟨x.1,aP,hl⟩,rfl⟩
  ·intro hi;obtain ⟨x,hx,rfl⟩:=List.mem_map.1 hi;obtain ⟨k,hk,hl⟩:=(Fa has 0 x.1 x.2).1 hx;obtain ⟨y,hy,hyx⟩:=h5 k x.2 hl;exact List.mem_map.2 ⟨y,hy,by show y.1=x.1;omega⟩
 have hnd:((BC 0 has).map (·.1)).Nodup:=(Mc has 0).imp (fun h=>aP);have hp:(es.map (·.1)).Perm ((BC 0 has).map (·.1)):=(List.perm_ext_iff_of_nodup h3 hnd).2 hm;refine ⟨es,⟨h1,h2⟩,h3,fun x hx => ?_, ?_,fun q hq hs => ?_,fun i p hip => ?_,h4⟩
 ·obtain ⟨ls,hl, -⟩:=h4 x hx;exact (List.getElem?_eq_some_iff.1 hl).1
 ·have:=hp.length_eq;rw [List.length_map,List.length_map,KF] at this;exact this
 ·refine List.Perm.eq_of_pairwise (le:=fun a b:Nat=>a<=b) (fun a b _ _ h1 h2=>aP) hs ((Mc has 0).imp (fun h=>aP)) (hq.trans hp)
 ·obtain ⟨k,hk,hl⟩:=(Fa has 0 i p).1 hip;obtain ⟨y,hy,hyx⟩:=h5 k p hl;obtain ⟨ls,hl2,hL⟩:=h4 y hy;rw [hyx,hl] at hl2;simp only [Option.some.injEq] at hl2;subst hl2;exact ⟨y,hy,aP,rfl,hL⟩
def JA (w:World) (o:Own) (b:Option DT) (pv:Option Addr):Prop:=
 match b with
 | none=>pv=none
 | some p=>∃ pp lv,pv=some ⟨pp,0,none⟩/\w.heap[pp]?=some (.cells [(p.1:aV),lv].toArray 153 (0,0))/\(o pp).1=0/\Lines w o 0 lv p.2
theorem JA.step {T:Nat->Prop} {b:Option DT} {pv:Option Addr} (h:JA w o b pv) (s:aj T w o w' o') (h0:¬ T 0):JA w' o' b pv:=by
 cases b with
 | none=>exact h
 | some p =>
  obtain ⟨pp,lv,h1,h2,h3,h4⟩:=h;have hl:=au h2;exact ⟨pp,lv,h1,by rw [s.block pp hl (by rw [h3];exact h0)];exact h2,by rw [s.own pp hl];exact h3,h4.step s h0⟩
def Qx (w:World) (o:Own) (D M pz ps pd p:Nat) (z:Am) (mine:BitVec 64) (has:List (Option DT)):Prop:=
 (D<=M/\D ≠ 0)/\GK w o (M+4) pz ps (.iface 151 (.pointer p)) z/\KA w o (M+4) p mine has/\Bi w o (M+1) (M+2) (M+3) D ps pd 0 z.s
theorem Qx.node {has:List (Option DT)} (h:Qx w o D M pz ps pd p z mine has) (hr:z.BB = .stands mine has):Bc w o D M pz ps pd z:=
 ⟨h.1,_,h.2.1,by rw [hr];exact ⟨p,rfl,h.2.2.1⟩,h.2.2.2⟩
def Ea (m:BG) (lv:Value):Value := .agg #[.int .u8 (m.k:Int), (m.e:aV), (m.c:aV), (m.at':aV), (m.com:aV),lv]
def Bf (m:BG) (lv:Value):List Value:=[.int .u8 (m.k:Int), (m.e:aV), (m.c:aV), (m.at':aV), (m.com:aV),lv]
def IU:Obj := .map #[⟨.int .u8 1, .agg #[.bool false, .bool false, .bool false, .bool false],0⟩,⟨.int .u8 2, .agg #[.bool true, .bool false, .bool false, .bool true],1⟩,⟨.int .u8 3, .agg #[.bool false, .bool false, .bool false, .bool false],2⟩,⟨.int .u8 4, .agg #[.bool false, .bool false, .bool false, .bool true],3⟩,⟨.int .u8 5, .agg #[.bool false, .bool true, .bool true, .bool true],4⟩,⟨.int .u8 6, .agg #[.bool false, .bool true, .bool false, .bool false],5⟩] 6
def HY:Obj := .map #[⟨.int .u8 1, .func (.func 99) #[] #[],0⟩,⟨.int .u8 2, .func (.func 100) #[] #[],1⟩,⟨.int .u8 3, .func (.func 101) #[] #[],2⟩,⟨.int .u8 4, .func (.func 102) #[] #[],3⟩,⟨.int .u8 5, .func (.func 103) #[] #[],4⟩,⟨.int .u8 6, .func (.func 104) #[] #[],5⟩] 6
theorem JB (t e:TypeId) (_ht:prog.underlying t=some (.map 5 e)) (w:World):(Instr.makeMap t none).run prog w = .ok (.map (some w.heap.size)) (w.alloc (.map #[] 0)):=by
 simp only [Instr.makeMap,Sem.run_bind];rfl
theorem CU (t e:TypeId) (ht:prog.underlying t=some (.map 5 e)) (w:World) (es:Array MapEntry) (clock:Nat) (k:Int) (v:Value) (hf:Instr.findNow (.int .u8) (.int .u8 k) es.toList 0=some none) :
  (Instr.mapUpdate t (.map (some w.heap.size)) (.int .u8 k) v).run prog (w.alloc (.map es clock)) = .ok () (w.alloc (.map (es.push ⟨.int .u8 k,v,clock⟩) (clock+1))):=by
 have hb:(w.alloc (.map es clock)).heap[w.heap.size]?=some (.map es clock):=heap_alloc_new w _;have hck:(Instr.checkKey false 10000 5 (.int .u8 k)).run prog (w.alloc (.map es clock)) = .ok () (w.alloc (.map es clock)):=by
  unfold Instr.checkKey;simp [run_underlying underlying5]
 have hfk:(Instr.findKey 5 (.int .u8 k) es.toList).run prog (w.alloc (.map es clock)) = .ok none (w.alloc (.map es clock)):=by
  simp [Instr.findKey,run_underlying underlying5,hf]
 simp only [Instr.mapUpdate,Sem.run_bind,run_underlying ht,Result.andThen_ok,MapKept.run_getObj_map hb,hck,hfk,MapKept.run_setObj_map _ hb];rw [OC]
def Dl (k:Nat):Bool × Bool × Bool × Bool:=(decide (k=2),decide (k=5 \/ k=6),decide (k=5),decide (k=2 \/ k=4 \/ k=5))
def kindOk (k:Nat):Bool:=decide (1<=k/\k<=6)
def Ku (k:Nat):List Value:=[.bool (Dl k).1, .bool (Dl k).2.1, .bool (Dl k).2.2.1, .bool (Dl k).2.2.2]
theorem IB (hb:w.heap[b]?=some IU) (k:Nat) :
  (Instr.lookup 221 (.map (some b)) (.int .u8 (k:Int)) true).run prog w = .ok (.tuple #[.agg (Ku k).toArray, .bool (kindOk k)]) w:=by
 have hck:∀ k:Int,(Instr.checkKey false 10000 5 (.int .u8 k)).run prog w = .ok () w:=fun k=>by
  unfold Instr.checkKey;simp [run_underlying underlying5]
 have hz:(zeroValue 219).run prog w = .ok (.agg #[.bool false, .bool false, .bool false, .bool false]) w:=bf
 unfold IU at hb
 by_cases h:k=1 \/ k=2 \/ k=3 \/ k=4 \/ k=5 \/ k=6
 ·rcases h with rfl | rfl | rfl | rfl | rfl | rfl
  all_goals
   simp only [Instr.lookup,Sem.run_bind,run_underlying underlying221,Result.andThen_ok,MapKept.run_getObj_map hb,Sem.run_pure,Instr.findKey,run_underlying underlying5];simp [Instr.findNow,Instr.sameNow,hck,Ku,Dl,kindOk]
 ·have h1:¬ (1:Int)=k:=aP
  have h2:¬ (2:Int)=k:=aP
  have h3:¬ (3:Int)=k:=aP
  have h4:¬ (4:Int)=k:=aP
  have h5:¬ (5:Int)=k:=aP
  have h6:¬ (6:Int)=k:=aP
  have g1:¬ (k:Int)=1:=aP
  have g2:¬ (k:Int)=2:=aP
  have g3:¬ (k:Int)=3:=aP
  have g4:¬ (k:Int)=4:=aP
  have g5:¬ (k:Int)=5:=aP
  have g6:¬ (k:Int)=6:=aP
  have q1:((k:Int) == 1)=false:=by simp;omega
  have q2:((k:Int) == 2)=false:=by simp;omega
  have q3:((k:Int) == 3)=false:=by simp;omega
  have q4:((k:Int) == 4)=false:=by simp;omega
  have q5:((k:Int) == 5)=false:=by simp;omega
  have q6:((k:Int) == 6)=false:=by simp;omega
  have e1:Ku k=[.bool false, .bool false, .bool false, .bool false]:=by
   unfold Ku Dl;simp only [show ¬ k=2 by omega,show ¬ k=5 by omega,show ¬ k=6 by omega,show ¬ k=4 by omega,decide_false,false_or]
  have e2:kindOk k=false:=by unfold kindOk;simp only [decide_eq_false_iff_not];omega
  rw [e1,e2];simp only [Instr.lookup,Sem.run_bind,run_underlying underlying221,Result.andThen_ok,MapKept.run_getObj_map hb,Sem.run_pure,Instr.findKey,run_underlying underlying5];simp [Instr.findNow,Instr.sameNow,hck,q1,q2,q3,q4,q5,q6]
theorem RG (w:World) (o:Own):Calls prog 154 #[] w (XL ai w o fun v w' _o'=>∃ b,v = .map (some b)/\w'.heap[b]?=some IU):=by
 have hm0:=ae (JB 221 _ underlying221 w);have hm1:=ae (CU 221 _ underlying221 w #[] 0 1 (.agg #[.bool false, .bool false, .bool false, .bool false]) rfl);have hm2:=ae (CU 221 _ underlying221 w #[⟨.int .u8 1, .agg #[.bool false, .bool false, .bool false, .bool false],0⟩] 1 2 (.agg #[.bool true, .bool false, .bool false, .bool true]) rfl);have hm3:=ae (CU 221 _ underlying221 w #[⟨.int .u8 1, .agg #[.bool false, .bool false, .bool false, .bool false],0⟩,⟨.int .u8 2, .agg #[.bool true, .bool false, .bool false, .bool true],1⟩] 2 3 (.agg #[.bool false, .bool false, .bool false, .bool false]) rfl);have hm4:=ae (CU 221 _ underlying221 w #[⟨.int .u8 1, .agg #[.bool false, .bool false, .bool false, .bool false],0⟩,⟨.int .u8 2, .agg #[.bool true, .bool false, .bool false, .bool true],1⟩,⟨.int .u8 3, .agg #[.bool false, .bool false, .bool false, .bool false],2⟩] 3 4 (.agg #[.bool false, .bool false, .bool false, .bool true]) rfl);have hm5:=ae (CU 221 _ underlying221 w #[⟨.int .u8 1, .agg #[.bool false, .bool false, .bool false, .bool false],0⟩,⟨.int .u8 2, .agg #[.bool true, .bool false, .bool false, .bool true],1⟩,⟨.int .u8 3, .agg #[.bool false, .bool false, .bool false, .bool false],2⟩,⟨.int .u8 4, .agg #[.bool false, .bool false, .bool false, .bool true],3⟩] 4 5 (.agg #[.bool false, .bool true, .bool true, .bool true]) rfl);have hm6:=ae (CU 221 _ underlying221 w #[⟨.int .u8 1, .agg #[.bool false, .bool false, .bool false, .bool false],0⟩,⟨.int .u8 2, .agg #[.bool true, .bool false, .bool false, .bool true],1⟩,⟨.int .u8 3, .agg #[.bool false, .bool false, .bool false, .bool false],2⟩,⟨.int .u8 4, .agg #[.bool false, .bool false, .bool false, .bool true],3⟩,⟨.int .u8 5, .agg #[.bool false, .bool true, .bool true, .bool true],4⟩] 5 6 (.agg #[.bool false, .bool true, .bool false, .bool false]) rfl);have s1:=(aj.refl ai w o).alloc IU (0,0);have hb:(w.alloc IU).heap[w.heap.size]?=some IU:=heap_alloc_new _ _;have hF:=aa2 s1 hb;clear s1 hb;go_enter func154,ntmps154
 go_wp2_with (first
  | ((with_reducible apply Iq);exact hm0.out;simp only [Act.put,lsa,lsz,lss])
  | ((with_reducible apply Ji);(first | exact hm1.out | exact hm2.out | exact hm3.out | exact hm4.out | exact hm5.out | exact hm6.out);simp only [Act.put]))
 go_ret;exact ⟨_,_,rfl,hF.out.1,_,rfl,hF.out.2⟩
theorem YQ (w:World) (o:Own):Calls prog 51 #[] w (XL ai w o fun v w' _o'=>∃ b,v = .map (some b)/\w'.heap[b]?=some HY):=by
 have hm0:=ae (JB 103 _ underlying103 w);have hm1:=ae (CU 103 _ underlying103 w #[] 0 1 (.func (.func 99) #[] #[]) rfl);have hm2:=ae (CU 103 _ underlying103 w #[⟨.int .u8 1, .func (.func 99) #[] #[],0⟩] 1 2 (.func (.func 100) #[] #[]) rfl);have hm3:=ae (CU 103 _ underlying103 w #[⟨.int .u8 1, .func (.func 99) #[] #[],0⟩,⟨.int .u8 2, .func (.func 100) #[] #[],1⟩] 2 3 (.func (.func 101) #[] #[]) rfl);have hm4:=ae (CU 103 _ underlying103 w #[⟨.int .u8 1, .func (.func 99) #[] #[],0⟩,⟨.int .u8 2, .func (.func 100) #[] #[],1⟩,⟨.int .u8 3, .func (.func 101) #[] #[],2⟩] 3 4 (.func (.func 102) #[] #[]) rfl);have hm5:=ae (CU 103 _ underlying103 w #[⟨.int .u8 1, .func (.func 99) #[] #[],0⟩,⟨.int .u8 2, .func (.func 100) #[] #[],1⟩,⟨.int .u8 3, .func (.func 101) #[] #[],2⟩,⟨.int .u8 4, .func (.func 102) #[] #[],3⟩] 4 5 (.func (.func 103) #[] #[]) rfl);have hm6:=ae (CU 103 _ underlying103 w #[⟨.int .u8 1, .func (.func 99) #[] #[],0⟩,⟨.int .u8 2, .func (.func 100) #[] #[],1⟩,⟨.int .u8 3, .func (.func 101) #[] #[],2⟩,⟨.int .u8 4, .func (.func 102) #[] #[],3⟩,⟨.int .u8 5, .func (.func 103) #[] #[],4⟩] 5 6 (.func (.func 104) #[] #[]) rfl);have s1:=(aj.refl ai w o).alloc HY (0,0);have hb:(w.alloc HY).heap[w.heap.size]?=some HY:=heap_alloc_new _ _;have hF:=aa2 s1 hb;clear s1 hb;go_enter func51,ntmps51
 go_wp2_with (first
  | ((with_reducible apply Iq);exact hm0.out;simp only [Act.put,lsa,lsz,lss])
  | ((with_reducible apply Ji);(first | exact hm1.out | exact hm2.out | exact hm3.out | exact hm4.out | exact hm5.out | exact hm6.out);simp only [Act.put]))
 go_ret;exact ⟨_,_,rfl,hF.out.1,_,rfl,hF.out.2⟩
def Dz (n:Nat) (has:Bool):Bool:=decide (n=0) || (has && decide (n<=256))
theorem Du (n:Nat) (has:Bool) (w:World):Calls prog 156 #[(n:aV), .bool has] w fun e w'=>e = .returned (.bool (Dz n has))/\w=w':=by
 by_cases h0:n=0
 ·subst h0;go_enter func156,ntmps156
  go_wp2
  go_ret;exact ⟨rfl,rfl⟩
 ·have e0:((n:Int) == 0)=false:=by simp;omega
  have h1:(0:Int)<(n:Int):=aP
  cases has with
  | false =>
   have hu:=ae (show Dz n false=false by simp [Dz,h0]);go_enter func156,ntmps156
   go_wp2
   go_ret;exact ⟨by rw [hu.out];rfl,rfl⟩
  | true =>
   by_cases h2:n<=256
   ·have h2I:(n:Int)<=256:=aP
    have hu:=ae (show Dz n true=true by simp [Dz,h2]);clear h0 h2;go_enter func156,ntmps156
    go_wp2
    go_ret;exact ⟨by rw [hu.out];rfl,rfl⟩
   ·have h2I:¬ (n:Int)<=256:=aP
    have hu:=ae (show Dz n true=false by simp [Dz,h2];omega);clear h0 h2;go_enter func156,ntmps156
    go_wp2
    go_ret;exact ⟨by rw [hu.out];rfl,rfl⟩
def TE (m:BG):Bool:=
 kindOk m.k && (decide (1<=m.e.toNat) && (decide (m.e.toNat<=281474976710656) && ((decide (m.c.toNat=0) || ((Dl m.k).1 && decide (m.c.toNat<=m.e.toNat))) && (Dz m.at' (Dl m.k).2.1 && (Dz m.com (Dl m.k).2.2.1 && (Dz m.ls.length (Dl m.k).2.2.2 && !m.ls.any (badL Ho)))))))
theorem Wh {x:Ar}:badL Ho x=false ↔ x.may:=by
 have ht:Ho.toNat=281474976710656:=bz
 unfold badL Ar.may;rw [ht];simp only [Bool.or_eq_false_iff,decide_eq_false_iff_not];omega
theorem XJ (h:m.May):TE m=true:=by
 have hk1:=h.k1;have hk6:=h.k6;have he1:=h.e1;have he2:=h.e2;have hc1:=h.c1;have ha1:=h.a1;have ho1:=h.o1;have hn1:=h.n1;have hb:m.ls.any (badL Ho)=false:=by
  rw [List.any_eq_false];intro x hx;rw [Wh.2 (h.hl x hx)]
  decide
 have hc0:m.k ≠ 2->m.c.toNat=0:=fun hk=>by rw [h.kc hk];rfl
 have hl0:m.k ≠ 2->m.k ≠ 4->m.k ≠ 5->m.ls.length=0:=fun h2 h4 h5=>by rw [h.kl h2 h4 h5];rfl
 have hka:=h.ka;have hko:=h.ko;unfold TE Dz Dl kindOk;rw [hb];simp only [Bool.and_eq_true,Bool.or_eq_true,decide_eq_true_eq,Bool.not_false]
 by_cases h2:m.k=2
 ·have:=hko aP;have:=hka aP aP;refine ⟨aP,he1,he2, .inr ⟨h2,hc1⟩,aP,aP,aP,trivial⟩
 ·have hcz:=hc0 h2
  by_cases h4:m.k=4
  ·have:=hko aP;have:=hka aP aP;refine ⟨aP,he1,he2, .inl hcz,aP,aP,aP,trivial⟩
  ·by_cases h5:m.k=5
   ·refine ⟨aP,he1,he2, .inl hcz,aP,aP,aP,trivial⟩
   ·have:=hl0 h2 h4 h5;have:=hko h5
    by_cases h6:m.k=6
    ·refine ⟨aP,he1,he2, .inl hcz,aP,aP,aP,trivial⟩
    ·have:=hka h5 h6;refine ⟨aP,he1,he2, .inl hcz,aP,aP,aP,trivial⟩
theorem dK (h:TE m=true):m.May:=by
 unfold TE Dz Dl kindOk at h;simp only [Bool.and_eq_true,Bool.or_eq_true,decide_eq_true_eq,Bool.not_eq_true'] at h;obtain ⟨h1,h2,h3,h4,h5,h6,h7,h8⟩:=h;refine ⟨aP,aP,h2,h3,aP,aP,aP,aP,fun x hx=>Wh.1 ?_,fun hk => ?_,fun hk=>aP,fun h5 h6=>aP,fun h2 h4 h5 => ?_⟩
 ·rw [List.any_eq_false] at h8;have:=h8 x hx
  simpa using this
 ·apply BitVec.eq_of_toNat_eq;have:m.c.toNat=0:=aP
  rw [this];rfl
 ·apply List.eq_nil_of_length_eq_zero;omega
theorem aJ (x:Ar) (bv:Value) (hb:Bytes w o bv x.b) :
  Calls prog 155 #[.agg #[(x.e:aV),bv]] w (XL ai w o fun v _ _=>v = .bool (badL Ho x)):=by
 obtain ⟨ba,bc,rfl⟩:=Aq hb;have s1:=(aj.refl ai w o).alloc (.cells #[(x.e:aV), .slice ba x.b.length bc] 36) (0,0);have b1:(w.alloc (.cells #[(x.e:aV), .slice ba x.b.length bc] 36)).heap[w.heap.size]?=some (.cells [(x.e:aV), .slice ba x.b.length bc].toArray 36 (0,0)):=heap_alloc_new w _;have c0:=ag b1 0;have c1:=ag b1 1;simp only [ay,ax] at c0 c1;have hsH:=ae s1;have ht:Ho.toNat=281474976710656:=bz
 have hu:badL Ho x=(decide (x.e.toNat<1) || decide (281474976710656<x.e.toNat) || decide (x.b.length<1) || decide (4096<x.b.length)):=by unfold badL;rw [ht]
 have huH:=ae hu;have he:=x.e.isLt;generalize x.b.length=bl at *;generalize x.e.toNat=xe at *;clear s1 b1 hb hu ht
 by_cases h1:xe<1
 ·have h1I:(xe:Int)<1:=aP
  go_enter func155,ntmps155;go_wp2_with fail;go_ret;exact ⟨_,_,rfl,hsH.out,by rw [huH.out];simp [h1]⟩
 ·have h1I:¬ (xe:Int)<1:=aP
  by_cases h2:281474976710656<xe
  ·have h2I:(281474976710656:Int)<(xe:Int):=aP
   go_enter func155,ntmps155;go_wp2_with fail;go_ret;exact ⟨_,_,rfl,hsH.out,by rw [huH.out];simp [h1,h2]⟩
  ·have h2I:¬ (281474976710656:Int)<(xe:Int):=aP
   by_cases h3:bl<1
   ·have h3I:(bl:Int)<1:=aP
    go_enter func155,ntmps155;go_wp2_with fail;go_ret;exact ⟨_,_,rfl,hsH.out,by rw [huH.out];simp [h1,h2,h3]⟩
   ·have h3I:¬ (bl:Int)<1:=aP
    go_enter func155,ntmps155;go_wp2_with fail;go_ret;exact ⟨_,_,rfl,hsH.out,by
     rw [huH.out]
     by_cases h4:4096<bl
     ·have h4I:(4096:Int)<(bl:Int):=aP
      simp [h1,h2,h3,h4,h4I]
     ·have h4I:¬ (4096:Int)<(bl:Int):=aP
      simp [h1,h2,h3,h4,h4I]⟩
theorem Zo:((prog.info? 219).bind (·.zero)).map (·.cells)=some #[.bool false, .bool false, .bool false, .bool false]:=bf
def jD (w:World) (b kb:Nat) (m:BG) (lv:Value) (h1 h2 h3 h4:Bool):Prop:=
 w.heap[b]?=some (.cells (Bf m lv).toArray 46 (0,0))/\w.heap[kb]?=some (.cells [.bool h1, .bool h2, .bool h3, .bool h4].toArray 219 (0,0))
theorem Uf (m:BG) (hl:Lines w o base lv m.ls) (hn:m.ls.length<=100000) :
  Calls prog 98 #[Ea m lv] w (XL ai w o fun v _ _=>v = .bool (TE m)):=by
 obtain ⟨la,lc,rfl⟩:=hl.form;have hu:TE m=(kindOk m.k && (decide (1<=m.e.toNat) && (decide (m.e.toNat<=281474976710656) && ((decide (m.c.toNat=0) || ((Dl m.k).1 && decide (m.c.toNat<=m.e.toNat))) && (Dz m.at' (Dl m.k).2.1 && (Dz m.com (Dl m.k).2.2.1 && (Dz m.ls.length (Dl m.k).2.2.2 && !m.ls.any (badL Ho)))))))):=rfl;have hcells:Ku m.k=[.bool (Dl m.k).1, .bool (Dl m.k).2.1, .bool (Dl m.k).2.2.1, .bool (Dl m.k).2.2.2]:=rfl;generalize (Dl m.k).1=h1 at *;generalize (Dl m.k).2.1=h2 at *;generalize (Dl m.k).2.2.1=h3 at *;generalize (Dl m.k).2.2.2=h4 at *;have hs1:=(aj.refl ai w o).alloc (.cells [.int .u8 (m.k:Int), (m.e:aV), (m.c:aV), (m.at':aV), (m.com:aV), .slice la m.ls.length lc].toArray 46) (0,0);have hb1:=ae (heap_alloc_new w (.cells [.int .u8 (m.k:Int), (m.e:aV), (m.c:aV), (m.at':aV), (m.com:aV), .slice la m.ls.length lc].toArray 46));obtain ⟨W1,hW1⟩:=az (w.alloc (.cells [.int .u8 (m.k:Int), (m.e:aV), (m.c:aV), (m.at':aV), (m.com:aV), .slice la m.ls.length lc].toArray 46));rw [hW1] at hs1 hb1;generalize Ak o w.heap.size (0,0)=o1 at *;have hl1:=ae (hl.step hs1 id);have hs1:=ae hs1;have hS1:W1.drew.cell? w.heap.size=some (.int .u8 (m.k:Int)):=ag hb1.out 0;have huH:=ae hu;have hcells:=ae hcells;have uM:=ae hW1;have hnH:=ae hn;clear hu hW1 hl hn;unfold Ea;go_enter func98,ntmps98;go_wp2_with fail;rw [uM.out];refine Jd (fun a0 a' w'=>∃ (g:Nat) (o':Own) (y1 y2 y3 y4 y5 y6 y7:Value),a'=Act.puts a0 [8,9,10,11,7,12,13,3,4] [y1,y2,y3,y4,y5,y6,y7, .pointer g, .bool (kindOk m.k)]/\w'.heap[g]?=some (.cells [Value.bool h1, .bool h2, .bool h3, .bool h4].toArray 219 (0,0))/\w'.heap[w.heap.size]?=some (.cells [.int .u8 (m.k:Int), (m.e:aV), (m.c:aV), (m.at':aV), (m.com:aV), .slice la m.ls.length lc].toArray 46 (0,0))/\aj ai W1 o1 w' o') ?_ ?_
 ·refine Aa (fun w'=>w'.cell? w.heap.size=some (.int .u8 (m.k:Int))) (fun _=>true) bf hS1 (fun hHeld => ?_);have hB:=hb1.out;have hJ:aj ai W1 o1 W1.drew o1:=(aj.refl ai W1 o1).drew
  replace hB:W1.drew.heap[w.heap.size]?=_:=hB
  obtain ⟨V,hV⟩:=az (W1.drew);rw [hV] at hHeld hB hJ ⊢;clear hV;refine tn 1 (h:=tn 2 (h:=?_));refine Gm (i:=0) (j:=7) rfl rfl bf ?_ ?_
  ·go_wp2_with fail;refine (RG V o1).mono ?_;rintro e v2 ⟨x2,p2,rfl,hs2,kb,rfl,hkm⟩;have hB:=hs2.di hB id;have hJ:=hJ.trans hs2;have hS2:=ag (i:=0) hB;clear hs2;go_wp2_with fail;refine ⟨fun _=>hS2, ?_⟩;refine Gm (i:=3) (j:=7) rfl rfl bf ?_ ?_
   ·have hlk:=ae (IB hkm m.k);rw [hcells.out] at hlk;refine DN hlk.out ?_;refine wpList_nil ?_;simp only [Act.put,lsa,lsz,lss];refine ⟨fun _=>hS2, ?_⟩;refine tn 4 (h:=tn 5 (h:=tn 6 (h:=tO 7 (h:=?_))));have hal:=ae (AB (P:=prog) v2 219 _ Zo);have sA:=(aj.refl ai v2 p2).alloc (.cells #[.bool false, .bool false, .bool false, .bool false] 219) (0,0);have hgz:(v2.alloc (.cells #[.bool false, .bool false, .bool false, .bool false] 219)).heap[v2.heap.size]?=some (.cells [.bool false, .bool false, .bool false, .bool false].toArray 219 (0,0)):=heap_alloc_new v2 _;have hgw:=hJ.size;refine AU hal.out ?_;refine wpList_nil ?_;obtain ⟨v3,hw2⟩:=az (v2.alloc (.cells #[.bool false, .bool false, .bool false, .bool false] 219));obtain ⟨p3,ho2⟩:=az (Ak p2 v2.heap.size (0,0));rw [hw2] at hgz sA ⊢;rw [ho2] at sA;obtain ⟨g,hg⟩:=az (v2.heap.size);rw [hg] at hgz hgw ⊢;have hkm:=sA.di hkm id;have hB:=sA.di hB id;have hJ:=hJ.trans sA;have hS3:=ag (i:=0) hB;clear hal hw2 ho2 hg sA;simp only [Act.put,lsa,lsz,lss];refine ⟨fun _=>hS3, ?_⟩;refine tO 8 (h:=?_);obtain ⟨hso,hsb⟩:=Ba (P:=prog) (ty:=219) (vs:=[Value.bool h1, .bool h2, .bool h3, .bool h4]) hgz rfl bf rfl;have hne:w.heap.size ≠ g:=by have:=au hb1.out;omega
    have hB:=(ah _ [Value.bool h1, .bool h2, .bool h3, .bool h4] 0 v3 _ hne).trans hB;have hJ:=hJ.setCells g 0 [Value.bool h1, .bool h2, .bool h3, .bool h4] (.inr hgw);have hS4:=ag (i:=0) hB;refine AC hso ?_;refine wpList_nil ?_;simp only [Act.put];refine ⟨fun _=>hS4, ?_⟩;refine tn 9 (h:=tD (h:=?_));exact ⟨rfl,g,p3, .map (some kb), .pointer w.heap.size, .int .u8 (m.k:Int), .tuple #[.agg #[.bool h1, .bool h2, .bool h3, .bool h4], .bool (kindOk m.k)], .tuple #[.agg #[.bool h1, .bool h2, .bool h3, .bool h4], .bool (kindOk m.k)], .agg #[.bool h1, .bool h2, .bool h3, .bool h4], .bool (kindOk m.k),by simp only [Act.puts,Act.put,lsa,lsz,lss],hsb,hB,hJ⟩
   ·have hal:=ae (AB (P:=prog) v2 219 _ Zo);have sA:=(aj.refl ai v2 p2).alloc (.cells #[.bool false, .bool false, .bool false, .bool false] 219) (0,0);have hgz:(v2.alloc (.cells #[.bool false, .bool false, .bool false, .bool false] 219)).heap[v2.heap.size]?=some (.cells [.bool false, .bool false, .bool false, .bool false].toArray 219 (0,0)):=heap_alloc_new v2 _;have hgw:=hJ.size;refine AU hal.out ?_;refine wpList_nil ?_;obtain ⟨v3,hw2⟩:=az (v2.alloc (.cells #[.bool false, .bool false, .bool false, .bool false] 219));obtain ⟨p3,ho2⟩:=az (Ak p2 v2.heap.size (0,0));rw [hw2] at hgz sA ⊢;rw [ho2] at sA;obtain ⟨g,hg⟩:=az (v2.heap.size);rw [hg] at hgz hgw ⊢;have hkm:=sA.di hkm id;have hB:=sA.di hB id;have hJ:=hJ.trans sA;have hS3:=ag (i:=0) hB;clear hal hw2 ho2 hg sA;simp only [Act.put,lsa,lsz,lss];refine ⟨fun _=>hS3, ?_⟩;refine tO 3 (h:=?_);have hlk:=ae (IB hkm m.k);rw [hcells.out] at hlk;refine DN hlk.out ?_;refine wpList_nil ?_;simp only [Act.put,lsa,lsz,lss];refine ⟨fun _=>hS3, ?_⟩;refine tn 4 (h:=tn 5 (h:=tn 6 (h:=tO 8 (h:=?_))));obtain ⟨hso,hsb⟩:=Ba (P:=prog) (ty:=219) (vs:=[Value.bool h1, .bool h2, .bool h3, .bool h4]) hgz rfl bf rfl;have hne:w.heap.size ≠ g:=by have:=au hb1.out;omega
    have hB:=(ah _ [Value.bool h1, .bool h2, .bool h3, .bool h4] 0 v3 _ hne).trans hB;have hJ:=hJ.setCells g 0 [Value.bool h1, .bool h2, .bool h3, .bool h4] (.inr hgw);have hS4:=ag (i:=0) hB;refine AC hso ?_;refine wpList_nil ?_;simp only [Act.put];refine ⟨fun _=>hS4, ?_⟩;refine tn 9 (h:=tD (h:=?_));exact ⟨rfl,g,p3, .map (some kb), .pointer w.heap.size, .int .u8 (m.k:Int), .tuple #[.agg #[.bool h1, .bool h2, .bool h3, .bool h4], .bool (kindOk m.k)], .tuple #[.agg #[.bool h1, .bool h2, .bool h3, .bool h4], .bool (kindOk m.k)], .agg #[.bool h1, .bool h2, .bool h3, .bool h4], .bool (kindOk m.k),by simp only [Act.puts,Act.put,lsa,lsz,lss],hsb,hB,hJ⟩
  ·have hal:=ae (AB (P:=prog) V 219 _ Zo);have sA:=(aj.refl ai V o1).alloc (.cells #[.bool false, .bool false, .bool false, .bool false] 219) (0,0);have hgz:(V.alloc (.cells #[.bool false, .bool false, .bool false, .bool false] 219)).heap[V.heap.size]?=some (.cells [.bool false, .bool false, .bool false, .bool false].toArray 219 (0,0)):=heap_alloc_new V _;have hgw:=hJ.size;refine AU hal.out ?_;refine wpList_nil ?_;obtain ⟨v2,hw2⟩:=az (V.alloc (.cells #[.bool false, .bool false, .bool false, .bool false] 219));obtain ⟨p2,ho2⟩:=az (Ak o1 V.heap.size (0,0));rw [hw2] at hgz sA ⊢;rw [ho2] at sA;obtain ⟨g,hg⟩:=az (V.heap.size);rw [hg] at hgz hgw ⊢;have hB:=sA.di hB id;have hJ:=hJ.trans sA;have hS2:=ag (i:=0) hB;clear hal hw2 ho2 hg sA;simp only [Act.put,lsa,lsz,lss];refine ⟨fun _=>hS2, ?_⟩;refine tO 0 (h:=?_);go_wp2_with fail;refine (RG v2 p2).mono ?_;rintro e v3 ⟨x3,p3,rfl,hs3,kb,rfl,hkm⟩;have hgz:=hs3.di hgz id;have hB:=hs3.di hB id;have hJ:=hJ.trans hs3;have hS3:=ag (i:=0) hB;clear hs3;go_wp2_with fail;refine ⟨fun _=>hS3, ?_⟩;refine tO 3 (h:=?_);have hlk:=ae (IB hkm m.k);rw [hcells.out] at hlk;refine DN hlk.out ?_;refine wpList_nil ?_;simp only [Act.put,lsa,lsz,lss];refine ⟨fun _=>hS3, ?_⟩;refine tn 4 (h:=tn 5 (h:=tn 6 (h:=tO 8 (h:=?_))));obtain ⟨hso,hsb⟩:=Ba (P:=prog) (ty:=219) (vs:=[Value.bool h1, .bool h2, .bool h3, .bool h4]) hgz rfl bf rfl;have hne:w.heap.size ≠ g:=by have:=au hb1.out;omega
   have hB:=(ah _ [Value.bool h1, .bool h2, .bool h3, .bool h4] 0 v3 _ hne).trans hB;have hJ:=hJ.setCells g 0 [Value.bool h1, .bool h2, .bool h3, .bool h4] (.inr hgw);have hS4:=ag (i:=0) hB;refine AC hso ?_;refine wpList_nil ?_;simp only [Act.put];refine ⟨fun _=>hS4, ?_⟩;refine tn 9 (h:=tD (h:=?_));exact ⟨rfl,g,p3, .map (some kb), .pointer w.heap.size, .int .u8 (m.k:Int), .tuple #[.agg #[.bool h1, .bool h2, .bool h3, .bool h4], .bool (kindOk m.k)], .tuple #[.agg #[.bool h1, .bool h2, .bool h3, .bool h4], .bool (kindOk m.k)], .agg #[.bool h1, .bool h2, .bool h3, .bool h4], .bool (kindOk m.k),by simp only [Act.puts,Act.put,lsa,lsz,lss],hsb,hB,hJ⟩
 rintro a4 W4 ⟨g,o4,y1,y2,y3,y4,y5,y6,y7,rfl,d4,b4,hs4⟩;simp only [Act.puts,Act.put,lsa,lsz,lss];clear hcells;have hl4:=hl1.out.step hs4 id;have stF:=ae (hs1.out.trans hs4);have hct:=ae (Jt hl4 hnH.out 155 #[] (badL Ho) Tryz.call155 (fun w1 o1 st x bv _ hby=>aJ x bv hby));have c1:=ag (i:=1) b4;have c2:=ag (i:=2) b4;have c3:=ag (i:=3) b4;have c4:=ag (i:=4) b4;have c5:=ag (i:=5) b4;have d0:=ag (i:=0) d4;have d1:=ag (i:=1) d4;have d2:=ag (i:=2) d4;have d3:=ag (i:=3) d4;simp only [ay,ax] at c1 c2 c3 c4 c5 d0 d1 d2 d3;have hce:=m.c.isLt;have hee:=m.e.isLt;clear b4 d4 hs4 hb1 hl1 hs1 hS1 uM hl4;generalize m.e.toNat=e at *;generalize m.c.toNat=c at *
 cases hok:kindOk m.k with
 | false =>
  go_wp2_with (first
   | (go_at_call 156;refine (Du _ _ _).mono ?_;rintro e' w' ⟨rfl,rfl⟩)
   | (go_at_call 83;refine hct.out.mono ?_;rintro e' w' ⟨v',o',rfl,hs',rfl⟩))
  go_ret;exact ⟨_,o4,rfl,stF.out,by rw [huH.out];simp [hok]⟩
 | true =>
  by_cases he1:1<=e
  ·have AzL:(1:Int)<=(e:Int):=aP
   by_cases he2:e<=281474976710656
   ·have AzK:(e:Int)<=281474976710656:=aP
    by_cases hc0:c=0
    ·have AzS:((c:Int) == 0)=true:=by simp [hc0]
     have Aoa:=ae hc0;clear hc0
     cases w0:Dz m.at' h2 with
     | false =>
      go_wp2_with (first
       | (go_at_call 156;refine (Du _ _ _).mono ?_;rintro e' w' ⟨rfl,rfl⟩)
       | (go_at_call 83;refine hct.out.mono ?_;rintro e' w' ⟨v',o',rfl,hs',rfl⟩))
      go_ret;exact ⟨_,o4,rfl,stF.out,by rw [huH.out];simp [hok,he1,he2,Aoa.out,w0]⟩
     | true =>
      cases w1:Dz m.com h3 with
      | false =>
       go_wp2_with (first
        | (go_at_call 156;refine (Du _ _ _).mono ?_;rintro e' w' ⟨rfl,rfl⟩)
        | (go_at_call 83;refine hct.out.mono ?_;rintro e' w' ⟨v',o',rfl,hs',rfl⟩))
       go_ret;exact ⟨_,o4,rfl,stF.out,by rw [huH.out];simp [hok,he1,he2,Aoa.out,w0,w1]⟩
      | true =>
       cases w2:Dz m.ls.length h4 with
       | false =>
        go_wp2_with (first
         | (go_at_call 156;refine (Du _ _ _).mono ?_;rintro e' w' ⟨rfl,rfl⟩)
         | (go_at_call 83;refine hct.out.mono ?_;rintro e' w' ⟨v',o',rfl,hs',rfl⟩))
        go_ret;exact ⟨_,o4,rfl,stF.out,by rw [huH.out];simp [hok,he1,he2,Aoa.out,w0,w1,w2]⟩
       | true =>
        go_wp2_with (first
         | (go_at_call 156;refine (Du _ _ _).mono ?_;rintro e' w' ⟨rfl,rfl⟩)
         | (go_at_call 83;refine hct.out.mono ?_;rintro e' w' ⟨v',o',rfl,hs',rfl⟩))
        go_ret;exact ⟨_,_,rfl,stF.out.trans hs',by rw [huH.out];simp [hok,he1,he2,Aoa.out,w0,w1,w2]⟩
    ·have AzS:((c:Int) == 0)=false:=by simp [hc0]
     cases h1 with
     | false =>
      go_wp2_with (first
       | (go_at_call 156;refine (Du _ _ _).mono ?_;rintro e' w' ⟨rfl,rfl⟩)
       | (go_at_call 83;refine hct.out.mono ?_;rintro e' w' ⟨v',o',rfl,hs',rfl⟩))
      go_ret;exact ⟨_,o4,rfl,stF.out,by rw [huH.out];simp [hok,he1,he2,hc0]⟩
     | true =>
      by_cases Amo:c<=e
      ·have Avm:(c:Int)<=(e:Int):=aP
       cases w0:Dz m.at' h2 with
       | false =>
        go_wp2_with (first
         | (go_at_call 156;refine (Du _ _ _).mono ?_;rintro e' w' ⟨rfl,rfl⟩)
         | (go_at_call 83;refine hct.out.mono ?_;rintro e' w' ⟨v',o',rfl,hs',rfl⟩))
        go_ret;exact ⟨_,o4,rfl,stF.out,by rw [huH.out];simp [hok,he1,he2,hc0,Amo,w0]⟩
       | true =>
        cases w1:Dz m.com h3 with
        | false =>
         go_wp2_with (first
          | (go_at_call 156;refine (Du _ _ _).mono ?_;rintro e' w' ⟨rfl,rfl⟩)
          | (go_at_call 83;refine hct.out.mono ?_;rintro e' w' ⟨v',o',rfl,hs',rfl⟩))
         go_ret;exact ⟨_,o4,rfl,stF.out,by rw [huH.out];simp [hok,he1,he2,hc0,Amo,w0,w1]⟩
        | true =>
         cases w2:Dz m.ls.length h4 with
         | false =>
          go_wp2_with (first
           | (go_at_call 156;refine (Du _ _ _).mono ?_;rintro e' w' ⟨rfl,rfl⟩)
           | (go_at_call 83;refine hct.out.mono ?_;rintro e' w' ⟨v',o',rfl,hs',rfl⟩))
          go_ret;exact ⟨_,o4,rfl,stF.out,by rw [huH.out];simp [hok,he1,he2,hc0,Amo,w0,w1,w2]⟩
         | true =>
          go_wp2_with (first
           | (go_at_call 156;refine (Du _ _ _).mono ?_;rintro e' w' ⟨rfl,rfl⟩)
           | (go_at_call 83;refine hct.out.mono ?_;rintro e' w' ⟨v',o',rfl,hs',rfl⟩))
          go_ret;exact ⟨_,_,rfl,stF.out.trans hs',by rw [huH.out];simp [hok,he1,he2,hc0,Amo,w0,w1,w2]⟩
      ·have Avm:¬ (c:Int)<=(e:Int):=aP
       go_wp2_with (first
        | (go_at_call 156;refine (Du _ _ _).mono ?_;rintro e' w' ⟨rfl,rfl⟩)
        | (go_at_call 83;refine hct.out.mono ?_;rintro e' w' ⟨v',o',rfl,hs',rfl⟩))
       go_ret;exact ⟨_,o4,rfl,stF.out,by rw [huH.out];simp [hok,he1,he2,hc0,Amo]⟩
   ·have AzK:¬ (e:Int)<=281474976710656:=aP
    go_wp2_with (first
     | (go_at_call 156;refine (Du _ _ _).mono ?_;rintro e' w' ⟨rfl,rfl⟩)
     | (go_at_call 83;refine hct.out.mono ?_;rintro e' w' ⟨v',o',rfl,hs',rfl⟩))
    go_ret;exact ⟨_,o4,rfl,stF.out,by rw [huH.out];simp [hok,he1,he2]⟩
  ·have AzL:¬ (1:Int)<=(e:Int):=aP
   go_wp2_with (first
    | (go_at_call 156;refine (Du _ _ _).mono ?_;rintro e' w' ⟨rfl,rfl⟩)
    | (go_at_call 83;refine hct.out.mono ?_;rintro e' w' ⟨v',o',rfl,hs',rfl⟩))
   go_ret;exact ⟨_,o4,rfl,stF.out,by rw [huH.out];simp [hok,he1]⟩
def Yd (l:List (BitVec 64)):List Value:=l.map fun x => .int .u64 (x.toNat:Int)
theorem fU (w:World) (a b c d e:Int):(Instr.buildSlice 165 5 #[(0, .int .u64 a),(1, .int .u64 b),(2, .int .u64 c),(3, .int .u64 d),(4, .int .u64 e)]).run prog w = .ok (.slice w.heap.size 5 5) (w.alloc (.cells #[.int .u64 a, .int .u64 b, .int .u64 c, .int .u64 d, .int .u64 e] 34)):=bf
theorem NK (h:m.May):(encs m.ls).length<=1060000:=by
 rw [Ej];have h1:=h.n1;have h2:=Ze (ls:=m.ls) (fun x hx=>(h.hl x hx).2.2);omega
theorem Ip {off:Nat} {cs:List Value} (hr:w.rangeAt b off cs) (hl:cs.length=6):(Instr.loadAt 46 (.pointer (some (aW b off)))).run prog w = .ok (.agg cs.toArray) w:=by
 simp only [Instr.loadAt,Instr.sureAddr,Sem.run_bind,Sem.run_pure,Result.andThen_ok]
 match cs,hl with
 | [a,b',c,d,e,g],_=>exact run_loadVar_mid w b off 46 [a,b',c,d,e,g] _ hr underlying46 rfl bf
theorem Ue (m:BG) (hm:m.May) (hl:Lines w o base lv m.ls) :
  Calls prog 53 #[Ea m lv] w (XL ai w o fun v w' o'=>∃ bv,v = .tuple #[bv, .int .i64 0]/\Ew w w' o' bv m.put):=by
 have hlen:=NK hm;have hn1:=hm.n1;obtain ⟨la,lc,rfl⟩:=hl.form;obtain ⟨n,hn⟩:=az (m.ls.length);have hmB:=XJ hm;have ha1:(0:Int)<=(m.at':Int)/\(m.at':Int)<=256:=by have:=hm.a1;omega
 have ho1:(0:Int)<=(m.com:Int)/\(m.com:Int)<=256:=by have:=hm.o1;omega
 have hnI:(0:Int)<=(n:Int)/\(n:Int)<=256:=aP
 have hkI:(0:Int)<=(m.k:Int)/\(m.k:Int)<=6:=by have:=hm.k6;omega
 have hk8:(UInt8.ofNat m.k).toNat=m.k:=by rw [UInt8.toNat_ofNat',Nat.mod_eq_of_lt (by have:=hm.k6;omega)]
 have ea:((BitVec.ofNat 64 m.at').toNat:Int)=(m.at':Int):=by rw [BitVec.toNat_ofNat,Nat.mod_eq_of_lt (by have:=hm.a1;omega)]
 have eo:((BitVec.ofNat 64 m.com).toNat:Int)=(m.com:Int):=by rw [BitVec.toNat_ofNat,Nat.mod_eq_of_lt (by have:=hm.o1;omega)]
 have en:((BitVec.ofNat 64 n).toNat:Int)=(n:Int):=by rw [BitVec.toNat_ofNat,Nat.mod_eq_of_lt aP]
 rw [hn] at hl ⊢;have hs1:=(aj.refl ai w o).alloc (.cells [.int .u8 (m.k:Int), (m.e:aV), (m.c:aV), (m.at':aV), (m.com:aV), .slice la n lc].toArray 46) (0,0);have hb1:=heap_alloc_new w (.cells [.int .u8 (m.k:Int), (m.e:aV), (m.c:aV), (m.at':aV), (m.com:aV), .slice la n lc].toArray 46);obtain ⟨W1,hW1⟩:=az (w.alloc (.cells [.int .u8 (m.k:Int), (m.e:aV), (m.c:aV), (m.at':aV), (m.com:aV), .slice la n lc].toArray 46));rw [hW1] at hs1 hb1;generalize Ak o w.heap.size (0,0)=o1 at *;have hl1:=hl.step hs1 id;have oZ:=ae (Ip (AV hb1) rfl);have hmy:=Uf m (lv := .slice la n lc) hl1 aP;rw [hmB] at hmy;have Aqr:=ae hmy;have uM:=ae hW1;have hbl:=ae (au hb1);have xZ:=ae hb1;have qJ:=ae hs1;have hlH:=ae hl1;have hnH:=ae hn;have rD:=ae hlen;have Bfl:=ae hn1;have Azz:=ae hk8;have hva:=aa3 ea eo en;clear hl hs1 hb1 hW1 hl1 hmB hm hlen hk8 ea eo en hmy hn hn1;unfold Ea at Aqr ⊢;go_enter func53,ntmps53
 go_wp2_with ((with_reducible apply Bo);rw [uM.out];exact oZ.out;simp only [Act.put,lsa,lsz,lss])
 refine Aqr.out.mono ?_;rintro e W2 ⟨v2,o2,rfl,hs2,rfl⟩;have hb2:=(hs2.block _ hbl.out id).trans xZ.out;have hl2:=ae (hlH.out.step hs2 id);have st2:=ae (qJ.out.trans hs2);have c0:=ag (i:=0) hb2;simp only [ay] at c0;have Arb:=ae hb2;have hby:=IG (Bytes.nil W2 o2) bu (UInt8.ofNat m.k);rw [Azz.out] at hby;have AbN:=ae hby;clear Aqr hby hs2 hb2 hlH qJ xZ oZ uM;go_wp2_with fail;refine AbN.out.mono ?_;rintro e W3 ⟨v3,o3,rfl,hs3,zO⟩;have hb3:=hs3.di Arb.out id;have hl3:=ae (hl2.out.step hs3 id);have st3:=st2.out.trans hs3;have c1:=ag (i:=1) hb3;have c2:=ag (i:=2) hb3;have c3:=ag (i:=3) hb3;have c4:=ag (i:=4) hb3;have c5:=ag (i:=5) hb3;simp only [ay,ax] at c1 c2 c3 c4 c5;obtain ⟨vals,AjC⟩:=az ([m.e,m.c,BitVec.ofNat 64 m.at',BitVec.ofNat 64 m.com,BitVec.ofNat 64 n]);have hbs:=fU W3 (m.e.toNat:Int) (m.c.toNat:Int) (m.at':Int) (m.com:Int) (n:Int);have hu : #[(m.e:aV), (m.c:aV), .int .u64 (m.at':Int), .int .u64 (m.com:Int), .int .u64 (n:Int)]=(Yd vals).toArray:=by
  rw [<-AjC, <-hva.out.1, <-hva.out.2.1, <-hva.out.2.2];rfl
 rw [hu] at hbs;have hvl:vals.length=5:=by rw [<-AjC];rfl
 have hsb:=(aj.refl ai W3 o3).alloc (.cells (Yd vals).toArray 34) (0,0);have hgb:(W3.alloc (.cells (Yd vals).toArray 34)).heap[W3.heap.size]?=some (.cells (Yd vals).toArray 34 (0,0)):=heap_alloc_new W3 _;have Aby:=((zO.low (st2.out.size)).step hsb id);have st4:=st3.trans hsb;have hb4:=ae (hsb.di hb3 id);have hl4:=ae (hl3.out.step hsb id);obtain ⟨W4,hW4⟩:=az (W3.alloc (.cells (Yd vals).toArray 34));rw [hW4] at hbs hgb Aby st4 hb4 hl4;obtain ⟨gb,Ava⟩:=az (W3.heap.size);rw [Ava] at hbs hgb Aby st4 hl4;generalize Ak o3 gb (0,0)=o4 at *;have AaP:=ae hbs;have AuZ:=ae hgb;have Ald:=ae AjC;have Alc:=ae hvl;have Aby:Ew w W4 o4 v3 (UInt8.ofNat m.k :: (vals.take 0).flatMap (be 8)):=Aby;clear hsb hbs hgb hu hs3 hb3 hW4 Ava st3 zO AjC hvl Arb hl2 hl3 AbN c0 st2
 go_wp2_with ((with_reducible apply BO #[(0, .int .u64 (m.e.toNat:Int)),(1, .int .u64 (m.c.toNat:Int)),(2, .int .u64 (m.at':Int)),(3, .int .u64 (m.com:Int)),(4, .int .u64 (n:Int))] rfl);exact AaP.out;simp only [Act.put,lsa,lsz,lss])
 clear AaP c1 c2 c3 c4 c5
 go_loopw [4,31] (fun bv i wr=>∃ (k:Nat) (oj:Own),k<=5/\i = .int .i64 k/\aj ai W4 o4 wr oj/\Ew w wr oj bv (UInt8.ofNat m.k :: (vals.take k).flatMap (be 8))) (fun _ i _=>5 - (intOf i).toNat)
 case atStart=>exact ⟨0,o4,aP,rfl,aj.refl _ _ _,Aby⟩
 case round =>
  clear Aby;obtain ⟨k,oj,hk,rfl,hst,hnb⟩:=hrel;have Abe:=ae hst
  by_cases hlt:k<5
  ·obtain ⟨x,hx⟩:∃ x,vals[k]?=some x:=⟨_,List.getElem?_eq_getElem (by rw [Alc.out];exact hlt)⟩;have hgr:=hst.di AuZ.out id;have cg:wr.cell? (aW gb k)=some (x:aV):=by
    rw [ag hgr];simp [Yd,hx]
   have hsn:=ae (show (vals.take (k+1)).flatMap (be 8)=(vals.take k).flatMap (be 8)++be 8 x by rw [List.take_add_one,hx];simp);have hlk:((vals.take k).flatMap (be 8)).length<=40:=by
    have:∀ l:List (BitVec 64),(l.flatMap (be 8)).length=8*l.length:=fun l=>by
     induction l with
     | nil=>rfl
     | cons a r ih=>simp only [List.flatMap_cons,List.length_append,Az,ih,List.length_cons];omega
    rw [this,List.length_take];omega
   have hwu:=ae (Ef hnb.bytes (by simp only [List.length_cons];omega) x);have AyP:=ae hst.size;clear hx hgr hlk hst hnb;go_wp2_with fail;refine hwu.out.mono ?_;rintro e W5 ⟨v5,o5,rfl,hs5,AhT⟩;have hF:=aa2 (Abe.out.trans hs5) ((AhT.low (Nat.le_trans st4.size AyP.out)).congr (l':=UInt8.ofNat m.k :: (vals.take (k+1)).flatMap (be 8)) (by rw [hsn.out];rfl));clear hs5 AhT hwu;go_wp2_with fail;go_roundw
   case rel=>exact ⟨k+1,o5,aP,by go_num,hF.out.1,hF.out.2⟩
   case measure=>simp [intOf];omega
  ·obtain rfl:k=5:=aP
   have hb5:=hst.di hb4.out id;have c5:=ag (i:=5) hb5;simp only [ay,ax] at c5;obtain ⟨P,hP⟩:=az (UInt8.ofNat m.k :: (vals.take 5).flatMap (be 8));rw [hP] at hnb;have hPl:P.length<=41:=by rw [<-hP, <-Ald.out];simp [Az]
   have hfin:m.put=P++encs m.ls:=by
    rw [<-hP, <-Ald.out, <-hnH.out];simp [BG.put,GR]
   have hl5:=ae (hl4.out.step hst id);have st5:=ae (st4.trans hst);have vK:=ae hPl;have Aac:=ae hfin;have pR:=ae (show m.ls.take n=m.ls from List.take_of_length_le (by rw [hnH.out];exact Nat.le_refl _));have h5I:¬ ((5:Nat):Int)<5:=aP
   clear hst Abe hb5 hP hPl hfin hb4 hl4 hlt hk;go_wp2_with fail;obtain ⟨w5,hw5⟩:=az (wr);rw [hw5] at hnb hl5 st5 c5 ⊢;clear hw5
   go_loopw [4,42] (fun bv i wr=>∃ (k:Nat) (oz:Own),k<=n/\i = .int .i64 k/\aj ai w5 oj wr oz/\Ew w wr oz bv (P++encs (m.ls.take k))) (fun _ i _=>n - (intOf i).toNat)
   case atStart=>exact ⟨0,oj,aP,rfl,aj.refl _ _ _,hnb.congr (by simp [encs])⟩
   case round =>
    clear hnb;obtain ⟨k,oz,hk,rfl,hst,hnb⟩:=hrel
    by_cases hlt:k<n
    ·obtain ⟨x,hx⟩:∃ x,m.ls[k]?=some x:=⟨_,List.getElem?_eq_getElem (by rw [hnH.out];exact hlt)⟩;obtain ⟨b,off,xv,hab,hrg,hby, -, -, -⟩:=(hl5.out.step hst id).at hx;subst hab;have hld:=ae (TG hrg);have hal:=ae (AB (P:=prog) wr 36 _ eY);have hsw:=Be wr #[.int .u64 0, .slice none 0 0] 36 [(x.e:aV),xv] rfl;have h1c:[(x.e:aV),xv].all (·.oneCell')=true:=by obtain ⟨xa,xc,rfl⟩:=Aq hby;rfl
     obtain ⟨hso, -⟩:=Ba (P:=prog) (ty:=36) (vs:=[(x.e:aV),xv]) (heap_alloc_new wr (.cells [.int .u64 0, .slice none 0 0].toArray 36)) rfl bf h1c;rw [hsw] at hso;have Aaz:=ae hso;have hsa:=(aj.refl ai wr oz).alloc (.cells [(x.e:aV),xv].toArray 36) (0,0);have hab:(wr.alloc (.cells [(x.e:aV),xv].toArray 36)).heap[wr.heap.size]?=some (.cells [(x.e:aV),xv].toArray 36 (0,0)):=heap_alloc_new wr _;have hby:=hby.step hsa id;have hnb:=hnb.step hsa id;have hst:=hst.trans hsa;have Aba:=hst.size;obtain ⟨ab,xM⟩:=az (wr.heap.size);obtain ⟨W1,hW1⟩:=az (wr.alloc (.cells [(x.e:aV),xv].toArray 36));rw [hW1] at Aaz hab hby hnb hst Aba;rw [xM] at hab hby hnb hst;generalize Ak oz ab (0,0)=O1 at *;have hsn:encs (m.ls.take (k+1))=encs (m.ls.take k)++x.enc:=by rw [List.take_add_one,hx];exact KU _ _
     have hle:=Hf m.ls (k+1);rw [hsn,List.length_append,Jj] at hle;have hle2:P.length+(encs (m.ls.take k)).length+12+x.b.length<=1100000:=by have:=vK.out;have:=rD.out;omega
     obtain ⟨pre,hpre⟩:=az (P++encs (m.ls.take k));have yY:pre.length=P.length+(encs (m.ls.take k)).length:=by rw [<-hpre,List.length_append]
     rw [hpre] at hnb;have AbN:=ae hby;have Aar:=ae xM;have Ave:=ae (show P++encs (m.ls.take (k+1))=pre++x.enc by rw [hsn, <-hpre,List.append_assoc]);have AlZ:=ae (show pre.length+12+x.b.length<=1100000 by omega);clear hsw hso hrg hsa xM hW1 hsn hle hle2 hpre yY h1c hby hx c5;have c0:W1.cell? ab=some (x.e:aV):=ag hab 0;have c1:W1.cell? (aW ab 1)=some xv:=ag hab 1
     go_wp2_with (first
      | ((with_reducible apply Bo);exact hld.out;simp only [Act.put,lsa,lsz,lss])
      | ((with_reducible apply AU);exact hal.out;simp only [Act.put,lsa,lsz,lss])
      | ((with_reducible apply AC);exact Aaz.out;simp only [Act.put]))
     rw [Aar.out];clear hld hal Aaz Aar;refine Aa (fun w'=>w'.cell? ab=some (x.e:aV)/\w'.cell? (aW ab 1)=some xv) (fun _=>true) bf ⟨c0,c1⟩ (fun hHeld => ?_);refine tq 0 (h:=tq 1 (h:=tq 2 (h:=tq 4 (h:=tq 5 (h:=tO 3 (h:=?_))))));go_wp2_with fail;have hdr:=(aj.refl ai W1 O1).drew;refine (Ef (hnb.step hdr id).bytes (by have:=AlZ.out;omega) x.e).mono ?_;rintro e w2 ⟨v2,o2,rfl,hs2,zQ⟩;have hs2:=hdr.trans hs2;have uK:=(hs2.block ab (au hab) id).trans hab;have hS2:=aI (ag (i:=0) uK) (ag (i:=1) uK);have AbO:=ae (AbN.out.step hs2 id);have hst:=hst.trans hs2;clear hs2 hdr hHeld;go_wp2_with fail;refine ⟨fun _=>hS2, ?_⟩;refine tO 6 (h:=?_);go_wp2_with fail;refine (QZ zQ.bytes AbO.out (by rw [List.length_append,Az];have:=AlZ.out;omega) (by have:=AlZ.out;omega)).mono ?_;rintro e w3 ⟨v3,o3,rfl,hs3,zO⟩;have xN:=(hs3.block ab (au uK) id).trans uK;have hS3:=aI (ag (i:=0) xN) (ag (i:=1) xN);have Azi:=(zO.low (Nat.le_trans st5.out.size hst.size)).congr (l':=P++encs (m.ls.take (k+1))) (by rw [Ave.out];simp [Ar.enc]);have hst:=hst.trans hs3;clear hs3 zO zQ hS2;go_wp2_with fail;refine ⟨fun _=>hS3, ?_⟩;refine tq 7 (h:=tD (h:=?_));clear hS3 hab uK xN c0 c1 hnb;go_wp2_with fail;go_roundw
     case rel=>exact ⟨k+1,o3,aP,by go_num,hst,Azi⟩
     case measure=>simp [intOf];omega
    ·obtain rfl:n=k:=aP
     rw [pR.out] at hnb;have hnb:=hnb.congr Aac.out.symm;go_wp2_with fail
     go_ret2
     exact ⟨_,oz,rfl,st5.out.trans hst,_,rfl,hnb⟩
def Jn (l:List UInt8):Option BG:=if (QN l).2.done=0 then if TE (QN l).1=true then some (QN l).1 else none else none
theorem ET (h:m.May):Jn m.put=some m:=by
 unfold Jn;rw [aH h];rw [if_pos (by rfl),if_pos (XJ h)]
theorem VH {l:List UInt8} (h:Jn l=some m):m.May:=by
 unfold Jn at h;split at h
 ·split at h
  ·rename_i h2;cases h;exact dK h2
  ·cases h
 ·cases h
def iL (base:Nat) (g:Option BG) (r:Value) (w':World) (o':Own):Prop:=
 (∀ m,g=some m->∃ lv,r = .tuple #[Ea m lv, .int .i64 0]/\Lines w' o' base lv m.ls)/\(g=none->r = .tuple #[Ea ⟨0,0,0,0,0,[]⟩ (.slice none 0 0), .int .i64 2])
theorem Oa:((prog.info? 46).bind (·.zero)).map (·.cells)=some #[.int .u8 0, .int .u64 0, .int .u64 0, .int .i64 0, .int .i64 0, .slice none 0 0]:=bf
theorem FT:(prog.info? 46).map (·.size)=some 6:=bf
def DI:List Value:=[.int .u8 0, .int .u64 0, .int .u64 0, .int .i64 0, .int .i64 0, .slice none 0 0]
def QY (w:World) (o:Own) (Y b:Nat) (m:BG) (lv:Value):Prop:=w.heap[b]?=some (.cells (Bf m lv).toArray 46 (0,0))/\o b=(Y,0)
theorem QY.step {T:Nat->Prop} (h:QY w o Y b m lv) (s:aj T w o w' o') (hY:¬ T Y):QY w' o' Y b m lv:=by
 have hl:=au h.1;exact ⟨by rw [s.block b hl (by rw [h.2];exact hY)];exact h.1,by rw [s.own b hl];exact h.2⟩
theorem QY.c5 (h:QY w o Y b m lv):w.cell? (aW b 5)=some lv:=ag h.1 5
theorem Gt {E:TypeId} {fr:Nat × Nat} (h:w.heap[b]?=some (.cells (Bf m lv).toArray E fr)) :
  w.cell? b=some (.int .u8 (m.k:Int))/\w.cell? (aW b 1)=some (m.e:aV)/\w.cell? (aW b 2)=some (m.c:aV)/\w.cell? (aW b 3)=some (m.at':aV)/\w.cell? (aW b 4)=some (m.com:aV)/\w.cell? (aW b 5)=some lv:=by
 have c:=ag h;exact ⟨c 0,c 1,c 2,c 3,c 4,c 5⟩
theorem QY.free (h:QY w o Y b m lv) (i:Nat):w.frozen? (aW b i)=false:=Ap h.1 i
theorem Zf (w:World) (e:Int) (bv:Value):(Instr.buildSlice 32 1 #[(0, .agg #[.int .u64 e,bv])]).run prog w = .ok (.slice w.heap.size 1 1) (w.alloc (.cells [.int .u64 e,bv].toArray 36)):=
 Dv w 32 36 [.int .u64 0, .slice none 0 0] (.agg #[.int .u64 e,bv]) [.int .u64 e,bv] underlying32 bf rfl bu bu rfl
theorem Ug {v:Value} {l:List UInt8} (h:Bytes w o v l) (hl:l.length<=1000000) :
  Calls prog 50 #[v] w (XL ai w o fun r w' o'=>iL w.heap.size (Jn l) r w' o'):=by
 obtain ⟨M, -,hM⟩:=EZ o 0 w.heap.size;have hg:Jn l=if (QN l).2.done=0 then if TE (QN l).1=true then some (QN l).1 else none else none:=rfl
 have l0:=oQ.EC 1 (oQ.mk l false);have hR:QN l=(⟨((oQ.mk l false).num 1).1.toNat % 256,(((oQ.mk l false).num 1).2.num 8).1,((((oQ.mk l false).num 1).2.num 8).2.num 8).1,(((((oQ.mk l false).num 1).2.num 8).2.num 8).2.count 256).1,((((((oQ.mk l false).num 1).2.num 8).2.num 8).2.count 256).2.count 256).1,((((((oQ.mk l false).num 1).2.num 8).2.num 8).2.count 256).2.count 256).2.lines.1⟩,((((((oQ.mk l false).num 1).2.num 8).2.num 8).2.count 256).2.count 256).2.lines.2):=rfl;obtain ⟨q0,h0⟩:=az ((oQ.mk l false).num 1);rw [h0] at hR l0;have l1:=oQ.EC 8 q0.2;obtain ⟨q1,h1⟩:=az (q0.2.num 8);rw [h1] at hR l1;have l2:=oQ.EC 8 q1.2;obtain ⟨q2,h2⟩:=az (q1.2.num 8);rw [h2] at hR l2;have l3:=oQ.IW 256 q2.2;obtain ⟨q3,h3⟩:=az (q2.2.count 256);rw [h3] at hR l3;have l4:=oQ.IW 256 q3.2;obtain ⟨q4,h4⟩:=az (q3.2.count 256);rw [h4] at hR l4;have l5:=oQ.IW 256 q4.2;have hln:q4.2.lines=Ce (q4.2.count 256).1 (q4.2.count 256).2:=rfl;obtain ⟨q5,h5⟩:=az (q4.2.count 256);rw [h5] at hln l5;rw [hln] at hR;obtain ⟨kb,hkb⟩:=az (q0.1.toNat % 256);rw [hkb] at hR;have hll:(oQ.mk l false).b.length<=1000000:=hl;have b0:q0.2.b.length<=1000000:=aP
 have b1:q1.2.b.length<=1000000:=aP
 have b2:q2.2.b.length<=1000000:=aP
 have b3:q3.2.b.length<=1000000:=aP
 have b4:q4.2.b.length<=1000000:=aP
 have b5:q5.2.b.length<=1000000:=aP
 obtain ⟨N,hN⟩:=az (q5.1);rw [hN] at hR l5;have hNI:(0:Int)<=(N:Int)/\(N:Int)<=256:=aP
 obtain ⟨MM,hMM⟩:∃ f:List Ar->BG,∀ ls,f ls=⟨kb,q1.1,q2.1,q3.1,q4.1,ls⟩:=⟨_,fun _=>rfl⟩;have hmr:QN l=(MM (Ce N q5.2).1,(Ce N q5.2).2):=by rw [hR,hMM]
 rw [hmr] at hg;have hgH:=ae hg;have hMH:=ae hM;have AmB:=ae hMM;have hB:=aa7 hll b0 b1 b2 b3 b4 b5;have hE:=aa8 h0 h1 h2 h3 h4 h5 hN hkb;clear hg hM hR hln hmr hMM l0 l1 l2 l3 l4 l5 b0 b1 b2 b3 b4 b5 h0 h1 h2 h3 h4 h5 hN hkb;have st0:aj (EN M) w o (w.alloc (.cells DI.toArray 46)) (Ak o w.heap.size (M+3,1)):=((aj.refl ai w o).LW).alloc _ _;have b0:=heap_alloc_new w (.cells DI.toArray 46);have hal:=ae (AB (P:=prog) w 46 _ Oa);have hb1:=h.step ((aj.refl ai w o).alloc (.cells DI.toArray 46) (M+3,1)) id;have t0:=Au o w.heap.size (M+3,1);have z0:(w.alloc (.cells DI.toArray 46)).heap.size=w.heap.size+1:=bu
 unfold DI at st0 b0 hb1 z0;obtain ⟨W0,hW0⟩:=az (w.alloc (.cells [Value.int .u8 0, .int .u64 0, .int .u64 0, .int .i64 0, .int .i64 0, .slice none 0 0].toArray 46));rw [hW0] at st0 b0 hb1 z0;generalize Ak o w.heap.size (M+3,1)=o0 at *;have hn:=ae (NH (M+1) hb1 hl);have hW0':w.alloc (.cells #[Value.int .u8 0, .int .u64 0, .int .u64 0, .int .i64 0, .int .i64 0, .slice none 0 0] 46)=W0:=hW0;rw [hW0'] at hal;have hH:=aa3 st0 b0 t0;obtain ⟨va,vc,rfl⟩:=Aq h;clear h hb1 st0 b0 t0 z0 hW0 hW0' hll hl;go_enter func50,ntmps50
 go_wp2_with ((with_reducible apply AU);exact hal.out;simp only [Act.put,lsa,lsz,lss])
 refine hn.out.mono ?_;rintro e w1 ⟨v1,o1,rfl,hs1,p,hp,rfl,hr1⟩;obtain ⟨h0,h1,h2,h3,h4,h5,hN,hkb⟩:=hE.out;obtain ⟨hll,b0,b1,b2,b3,b4,b5⟩:=hB.out;have st1:=hH.out.1.trans (hs1.LW);have bl1:=hs1.di hH.out.2.1 id;have t1:=(hs1.own _ (au hH.out.2.1)).trans hH.out.2.2;have nZ:M+1 ≠ 0:=aP
 have aZ:∀ k,ak (M+1) k->EN M k:=fun k h=>by unfold ak at h;unfold EN;omega
 have nT:¬ ak (M+1) (M+3):=fun h=>by unfold ak at h;omega
 have hc:=NI hr1 nZ hll;rw [h0,hkb] at hc;have hcH:=ae hc;have hP:=aa3 st1 bl1 t1;clear hc hs1 hr1 st1 bl1 t1 h0 h1 h2 h3 h4 h5 hN hkb hll b0 b1 b2 b3 b4 b5 hn hal;go_wp2_with fail;refine hcH.out.mono ?_;rintro e w2 ⟨v2,o2,rfl,hs2,rfl,hr2⟩;obtain ⟨stp,blp,tp⟩:=hP.out;have hP:=aa3 (stp.trans (hs2.mono aZ)) (hs2.di blp (by rw [tp];exact nT)) ((hs2.own _ (au blp)).trans tp);obtain ⟨h0,h1,h2,h3,h4,h5,hN,hkb⟩:=hE.out;obtain ⟨hll,b0,b1,b2,b3,b4,b5⟩:=hB.out;have hcH:=ae (show _ from by have hc:=EJ hr2 nZ b0;rw [h1] at hc;exact hc);clear hr2;clear hs2 stp blp tp h0 h1 h2 h3 h4 h5 hN hkb hll b0 b1 b2 b3 b4 b5;go_wp2_with fail;refine hcH.out.mono ?_;rintro e w3 ⟨v3,o3,rfl,hs3,rfl,hr3⟩;obtain ⟨stp,blp,tp⟩:=hP.out;have hP:=aa3 (stp.trans (hs3.mono aZ)) (hs3.di blp (by rw [tp];exact nT)) ((hs3.own _ (au blp)).trans tp);obtain ⟨h0,h1,h2,h3,h4,h5,hN,hkb⟩:=hE.out;obtain ⟨hll,b0,b1,b2,b3,b4,b5⟩:=hB.out;have hcH:=ae (show _ from by have hc:=EJ hr3 nZ b1;rw [h2] at hc;exact hc);clear hr3;clear hs3 stp blp tp h0 h1 h2 h3 h4 h5 hN hkb hll b0 b1 b2 b3 b4 b5;go_wp2_with fail;refine hcH.out.mono ?_;rintro e w4 ⟨v4,o4,rfl,hs4,rfl,hr4⟩;obtain ⟨stp,blp,tp⟩:=hP.out;have hP:=aa3 (stp.trans (hs4.mono aZ)) (hs4.di blp (by rw [tp];exact nT)) ((hs4.own _ (au blp)).trans tp);obtain ⟨h0,h1,h2,h3,h4,h5,hN,hkb⟩:=hE.out;obtain ⟨hll,b0,b1,b2,b3,b4,b5⟩:=hB.out;have hcH:=ae (show _ from by have hc:=Je hr4 nZ b2 256 aP;rw [h3] at hc;exact hc);clear hr4;clear hs4 stp blp tp h0 h1 h2 h3 h4 h5 hN hkb hll b0 b1 b2 b3 b4 b5;go_wp2_with fail;refine hcH.out.mono ?_;rintro e w5 ⟨v5,o5,rfl,hs5,rfl,hr5⟩;obtain ⟨stp,blp,tp⟩:=hP.out;have hP:=aa3 (stp.trans (hs5.mono aZ)) (hs5.di blp (by rw [tp];exact nT)) ((hs5.own _ (au blp)).trans tp);obtain ⟨h0,h1,h2,h3,h4,h5,hN,hkb⟩:=hE.out;obtain ⟨hll,b0,b1,b2,b3,b4,b5⟩:=hB.out;have hcH:=ae (show _ from by have hc:=Je hr5 nZ b3 256 aP;rw [h4] at hc;exact hc);clear hr5;clear hs5 stp blp tp h0 h1 h2 h3 h4 h5 hN hkb hll b0 b1 b2 b3 b4 b5;go_wp2_with fail;refine hcH.out.mono ?_;rintro e w6 ⟨v6,o6,rfl,hs6,rfl,hr6⟩;obtain ⟨stp,blp,tp⟩:=hP.out;obtain ⟨h0,h1,h2,h3,h4,h5,hN,hkb⟩:=hE.out;obtain ⟨hll,b0,b1,b2,b3,b4,b5⟩:=hB.out;have bl6:=hs6.di blp (by rw [tp];exact nT);have t6:=(hs6.own _ (au blp)).trans tp;have st6:=stp.trans (hs6.mono aZ);have hal2:=AB (P:=prog) w6 46 _ Oa;have hst2:=(Ba (P:=prog) (ty:=46) (vs:=[.int .u8 (kb:Int), (q1.1:aV), (q2.1:aV), (q3.1:aV), (q4.1:aV), .slice none 0 0]) (heap_alloc_new w6 (.cells [Value.int .u8 0, .int .u64 0, .int .u64 0, .int .i64 0, .int .i64 0, .slice none 0 0].toArray 46)) rfl FT rfl).1;rw [Be w6 [Value.int .u8 0, .int .u64 0, .int .u64 0, .int .i64 0, .int .i64 0, .slice none 0 0].toArray 46 [.int .u8 (kb:Int), (q1.1:aV), (q2.1:aV), (q3.1:aV), (q4.1:aV), .slice none 0 0] rfl] at hst2;have st7:=st6.alloc (.cells [.int .u8 (kb:Int), (q1.1:aV), (q2.1:aV), (q3.1:aV), (q4.1:aV), .slice none 0 0].toArray 46) (M+3,0);have k7:=(aj.refl ai w6 o6).alloc (.cells [.int .u8 (kb:Int), (q1.1:aV), (q2.1:aV), (q3.1:aV), (q4.1:aV), .slice none 0 0].toArray 46) (M+3,0);have mb7:QY _ _ (M+3) w6.heap.size (MM []) (.slice none 0 0):=⟨by rw [AmB.out];exact heap_alloc_new w6 (.cells [.int .u8 (kb:Int), (q1.1:aV), (q2.1:aV), (q3.1:aV), (q4.1:aV), .slice none 0 0].toArray 46),Au o6 w6.heap.size (M+3,0)⟩;have bl7:=k7.di bl6 id;have t7:=(k7.own _ (au bl6)).trans t6;have r7:=hr6.step k7 id id;have Akj:w.heap.size<w6.heap.size:=au bl6;obtain ⟨W7,hW7⟩:=az (w6.alloc (.cells [Value.int .u8 (kb:Int), (q1.1:aV), (q2.1:aV), (q3.1:aV), (q4.1:aV), .slice none 0 0].toArray 46));rw [hW7] at hst2 st7 k7 mb7 bl7 r7;generalize Ak o6 w6.heap.size (M+3,0)=o7 at *;obtain ⟨Wz,hWz⟩:=az (w6.alloc (.cells #[Value.int .u8 0, .int .u64 0, .int .u64 0, .int .i64 0, .int .i64 0, .slice none 0 0] 46));rw [hWz] at hal2;have AvL:w6.alloc (.cells [Value.int .u8 0, .int .u64 0, .int .u64 0, .int .i64 0, .int .i64 0, .slice none 0 0].toArray 46)=Wz:=hWz;rw [AvL] at hst2;have hcH:=ae (show _ from by have hc:=Je r7 nZ b4 256 aP;rw [h5,hN] at hc;exact hc);have Amu:=ae hal2;have Alm:=ae hst2;obtain ⟨mb,hmb⟩:=az (w6.heap.size);rw [hmb] at Amu Alm mb7 Akj;have hP:=aa5 st7 bl7 t7 mb7 Akj;clear hs6 stp blp tp hr6 h0 h1 h2 h3 h4 h5 hN hkb hll b0 b1 b2 b3 b4 b5 hal2 hst2 st7 k7 mb7 bl7 t7 r7 bl6 t6 st6 hW7 hWz AvL hmb Akj
 go_wp2_with (first
  | ((with_reducible apply AU);exact Amu.out;simp only [Act.put,lsa,lsz,lss])
  | ((with_reducible apply AC);exact Alm.out;simp only [Act.put]))
 refine hcH.out.mono ?_;rintro e w8 ⟨v8,o8,rfl,hs8,rfl,vU⟩;obtain ⟨stp,blp,tp,mbp,hlt⟩:=hP.out;have hP:=aa5 (stp.trans (hs8.mono aZ)) (hs8.di blp (by rw [tp];exact nT)) ((hs8.own _ (au blp)).trans tp) (mbp.step hs8 nT) vU;clear stp blp tp mbp hs8 vU hcH Amu Alm;have Azq:=ae hlt;clear hlt;go_wp2_with fail;have nX:M+2 ≠ 0:=aP
 have nXT:¬ ak (M+2) (M+3):=fun h=>by unfold ak at h;omega
 have nXZ:¬ ak (M+2) (M+1):=fun h=>by unfold ak at h;omega
 have nZX:¬ ak (M+1) (M+2):=fun h=>by unfold ak at h;omega
 have nTX:¬ ak (M+3) (M+2):=fun h=>by unfold ak at h;omega
 have nTZ:¬ ak (M+3) (M+1):=fun h=>by unfold ak at h;omega
 have aX:∀ k,ak (M+2) k->EN M k:=fun k h=>by unfold ak at h;unfold EN;omega
 have n10:¬ ak (M+1) 0:=fun h=>by unfold ak at h;omega
 have n20:¬ ak (M+2) 0:=fun h=>by unfold ak at h;omega
 have n30:¬ ak (M+3) 0:=fun h=>by unfold ak at h;omega
 have hNs:=ae (aI nX (aI nXT (aI nXZ (aI nZX (aI nTX (aI nTZ (aI aX (aI n10 (aI n20 n30)))))))));have hZs:=aa3 nZ aZ nT;clear nX nXT nXZ nZX nTX nTZ aX n10 n20 n30 nZ aZ nT
 go_loopw [21] (fun i wr=>∃ (k:Nat) (oj:Own) (lv:Value),k<=N/\i = .int .i64 k/\aj (EN M) w o wr oj/\wr.heap[w.heap.size]?=some (.cells [Value.int .u8 0, .int .u64 0, .int .u64 0, .int .i64 0, .int .i64 0, .slice none 0 0].toArray 46 (0,0))/\oj w.heap.size=(M+3,1)/\QY wr oj (M+3) mb (MM (Ce k q5.2).1) lv/\Ep wr oj (M+1) p (Ce k q5.2).2/\Gh wr oj (w.heap.size+1) (M+2,0) lv (Ce k q5.2).1) (fun i _=>N - (intOf i).toNat)
 case atStart=>exact ⟨0,o8, .slice none 0 0,aP,rfl,hP.out.1,hP.out.2.1,hP.out.2.2.1,hP.out.2.2.2.1,hP.out.2.2.2.2,Gh.nil _ _ _ _⟩
 case round =>
  clear hP;obtain ⟨k,oj,lv,hk,rfl,hst,hbl,htg,hmb,hrd,hrow⟩:=hrel;obtain ⟨hlk,hln⟩:=NG k q5.2
  by_cases hlt:k<N
  ·obtain ⟨nZ,aZ,nT⟩:=hZs.out;have dr:aj ai wr oj wr.drew oj:=(aj.refl ai wr oj).drew;have hu:=ae (EJ (hrd.step dr id id) nZ (by have:=hB.out.2.2.2.2.2.2;omega));have hlm:((Ce k q5.2).2.num 8).2.b.length<=1000000:=by have:=oQ.EC 8 (Ce k q5.2).2;have:=hB.out.2.2.2.2.2.2;omega
   have hsn:Ce (k+1) q5.2=((Ce k q5.2).1++[⟨((Ce k q5.2).2.num 8).1,((Ce k q5.2).2.num 8).2.text.1⟩],((Ce k q5.2).2.num 8).2.text.2):=rfl;obtain ⟨E,hE2⟩:=az (((Ce k q5.2).2.num 8).1);rw [hE2] at hu hsn;generalize ((Ce k q5.2).2.num 8).2=m8 at *;obtain ⟨ra,rc,rfl⟩:=hrow.form;have hS:wr.drew.cell? (aW mb 5)=some (.slice ra (Ce k q5.2).1.length rc):=hmb.c5;have hR:=aa5 (hst.drew) hbl htg (hmb.step dr id) (hrow.step dr id id);have hL:=aa3 hlm hln hsn;rw [hln] at hS;clear hst hbl htg hmb hrd hrow hlk hlm hln hsn hE2 dr nZ aZ nT;go_wp2_with fail;refine Aa (fun w'=>w'.cell? (aW mb 5)=some (.slice ra k rc)) (fun i=>decide (i<10)) bf hS (fun hHeld => ?_);refine tq 0 (h:=tq 1 (h:=tq 2 (h:=tq 4 (h:=tO 3 (h:=?_)))));go_wp2_with fail;refine hu.out.mono ?_;rintro e w2 ⟨v2,o2,rfl,hs2,rfl,hr2⟩;obtain ⟨nZ,aZ,nT⟩:=hZs.out;obtain ⟨nX,nXT,nXZ,nZX,nTX,nTZ,aX,n10,n20,n30⟩:=hNs.out;obtain ⟨hst,hbl,htg,hmb,hrow⟩:=hR.out;have hS2:w2.cell? (aW mb 5)=some (.slice ra k rc):=by have:=(hmb.step hs2 nT).c5;rw [hL.out.2.1] at this;exact this
   have hR2:=aa5 (hst.trans (hs2.mono aZ)) (hs2.di hbl (by rw [htg];exact nT)) ((hs2.own _ (au hbl)).trans htg) (hmb.step hs2 nT) (hrow.step hs2 nZX n10);have ht:=ae (Rq hr2 nZ hL.out.1);clear hs2 hr2 hst hbl htg hmb hrow hu hR nZ aZ nT nX nXT nXZ nZX nTX nTZ aX n10 n20 n30 hHeld;go_wp2_with fail;refine ⟨fun _=>hS2, ?_⟩;refine tO 5 (h:=?_);go_wp2_with fail;refine ht.out.mono ?_;rintro e w3 ⟨v3,o3,rfl,hs3,⟨hb3,hf3⟩,hr3⟩;obtain ⟨nZ,aZ,nT⟩:=hZs.out;obtain ⟨nX,nXT,nXZ,nZX,nTX,nTZ,aX,n10,n20,n30⟩:=hNs.out;obtain ⟨hst,hbl,htg,hmb,hrow⟩:=hR2.out;have hS3:w3.cell? (aW mb 5)=some (.slice ra k rc):=by have:=(hmb.step hs3 nT).c5;rw [hL.out.2.1] at this;exact this
   have hR3:=aa8 (hst.trans (hs3.mono aZ)) (hs3.di hbl (by rw [htg];exact nT)) ((hs3.own _ (au hbl)).trans htg) (hmb.step hs3 nT) (hrow.step hs3 nZX n10) hb3 (hf3.low hst.size) hr3;have hbs:=Zf w3 (E.toNat:Int) v3;have hsa:=(aj.refl ai w3 o3).alloc (.cells [(E:aV),v3].toArray 36) (0,0);have hnb:=heap_alloc_new w3 (.cells [(E:aV),v3].toArray 36);obtain ⟨w4,hw4⟩:=az (w3.alloc (.cells [(E:aV),v3].toArray 36));rw [hw4] at hbs hsa hnb;generalize Ak o3 w3.heap.size (0,0)=o4 at *;have hS4:w4.cell? (aW mb 5)=some (.slice ra k rc):=by have:=((hmb.step hs3 nT).step hsa id).c5;rw [hL.out.2.1] at this;exact this
   obtain ⟨nv,w5,o5,hrun,tK,hs5,hgr,ho5⟩:=((hrow.step hs3 nZX n10).step hsa id id).append nX (Nat.le_trans (au hbl) (Nat.le_trans hs3.size hsa.size)) (AV hnb) (sW.single ⟨E,m8.text.1⟩ (hb3.step hsa id)) (fun u hu=>by
    simp only [List.mem_cons,List.not_mem_nil,or_false] at hu;rcases hu with rfl | rfl
    ·exact CV.int _ _ _
    ·exact hf3.low (au hbl)) bu (by rw [hL.out.2.1,List.length_singleton];omega) (c:=1)
   simp only [List.length_singleton] at hrun;rw [hL.out.2.1] at hrun;obtain ⟨na,nc,rfl⟩:=tK.form;have hl1:((Ce k q5.2).1++([⟨E,m8.text.1⟩]:List Ar)).length=k+1:=by rw [List.length_append,hL.out.2.1];rfl
   have Ajc:=(((hmb.step hs3 nT).step hsa id)).step hs5 nXT;have hS5:w5.cell? (aW mb 5)=some (.slice ra k rc):=by have:=Ajc.c5;rw [hL.out.2.1] at this;exact this
   have f5:=Ajc.free 5;have Avv:=(hs5.block _ (Nat.lt_of_lt_of_le (Nat.lt_of_lt_of_le (au hbl) hs3.size) hsa.size) (by rw [hsa.own _ (Nat.lt_of_lt_of_le (au hbl) hs3.size),hs3.own _ (au hbl),htg];exact nXT)).trans ((hsa.block _ (Nat.lt_of_lt_of_le (au hbl) hs3.size) id).trans (hs3.di hbl (by rw [htg];exact nT)));have Atp:=(hs5.own _ (Nat.lt_of_lt_of_le (Nat.lt_of_lt_of_le (au hbl) hs3.size) hsa.size)).trans ((hsa.own _ (Nat.lt_of_lt_of_le (au hbl) hs3.size)).trans ((hs3.own _ (au hbl)).trans htg));have st5:=((hst.trans (hs3.mono aZ)).trans hsa.LW).trans (hs5.mono aX);have AlC:=(hr3.step hsa id id).step hs5 nXZ n20;rw [hl1] at hrun;have Aax:=ae hrun;have bM5:QY (w5.setCell (aW mb 5) (.slice na (k+1) nc)) o5 (M+3) mb (MM (Ce (k+1) q5.2).1) (.slice na (k+1) nc):=by
    refine ⟨?_,Ajc.2⟩;have h:=Ai (i:=5) (.slice na (k+1) nc) Ajc.1;rw [h,AmB.out,AmB.out];rfl
   have sF:=st5.setCell (a:=(aW mb 5)) (.slice na (k+1) nc) (.inl (by show EN M (o5 mb).1;rw [Ajc.2];unfold EN;omega));have sK:=(aj.refl (ak (M+3)) w5 o5).setCell (a:=(aW mb 5)) (.slice na (k+1) nc) (.inl (by show (o5 mb).1=_;rw [Ajc.2]));have AoG:Gh (w5.setCell (aW mb 5) (.slice na (k+1) nc)) o5 (w.heap.size+1) (M+2,0) (.slice na (k+1) nc) (Ce (k+1) q5.2).1:=by
    rw [hL.out.2.2];rw [hl1] at tK;exact tK.step sK nTX n30
   have AtI:Ep (w5.setCell (aW mb 5) (.slice na (k+1) nc)) o5 (M+1) p (Ce (k+1) q5.2).2:=by
    rw [hL.out.2.2];exact AlC.step sK nTZ n30
   have Avu:=(Below.heap_setCell w5 (aW mb 5) (.slice na (k+1) nc) w.heap.size (by have:=Azq.out;show w.heap.size ≠ mb;omega)).trans Avv;have hF:=aa6 sF Avu Atp bM5 AtI AoG;have AaP:=ae hbs;obtain ⟨ba,bc,rfl⟩:=Aq hb3;clear hs3 hr3 hst hbl htg hmb hrow hb3 hf3 hR2 hS2 ht hbs hsa hnb hrun tK hs5 hgr ho5 hl1 Ajc Avv Atp st5 AlC bM5 sF sK AoG AtI Avu nZ aZ nT nX nXT nXZ nZX nTX nTZ aX n10 n20 n30;go_wp2_with fail;refine ⟨fun _=>hS3, ?_⟩;refine tq 6 (h:=tO 7 (h:=?_));refine BO #[(0, .agg #[(E:aV), .slice ba m8.text.1.length bc])] rfl AaP.out ?_;simp only [Act.put,lsa,lsz,lss];go_wp2_with fail;refine ⟨fun _=>hS4, ?_⟩;refine tO 8 (h:=?_)
   with_reducible apply Bl
   exact Aax.out;simp only [Act.put,lsa,lsz,lss];go_wp2_with fail;refine ⟨fun _=>hS5, ?_⟩;refine tq 9 (h:=tO 10 (h:=?_));go_wp2_with fail;refine ⟨fun h=>by simp at h, ?_⟩;refine tD (h:=?_);go_wp2_with fail;go_roundw
   case rel=>exact ⟨k+1,o5,_,aP,by go_num,hF.out.1,hF.out.2.1,hF.out.2.2.1,hF.out.2.2.2.1,hF.out.2.2.2.2.1,hF.out.2.2.2.2.2⟩
   case measure=>simp [intOf];omega
  ·have hkN:k=N:=aP
   subst hkN;have hd:=ae (II hrd);have hdv:((Ce k q5.2).2).done=0 \/ ((Ce k q5.2).2).done=2:=by
    unfold oQ.done;split
    ·exact .inr rfl
    ·exact .inl rfl
   obtain ⟨m,hm⟩:=az (MM (Ce k q5.2).1);have AgC:m.ls=(Ce k q5.2).1:=by rw [<-hm,AmB.out]
   have hLn:Lines wr (Ak (ext w o) w.heap.size (M+3,1)) (w.heap.size+1) lv m.ls:=by
    rw [AgC];refine hrow.lines (fun j hj => ?_);rw [BI _ _ aP];unfold ext;rw [if_neg aP]
   have st:aj ai w o wr (Ak (ext w o) w.heap.size (M+3,1)):=(hst.Hm hMH.out).Me _ (fun j hj=>by rw [BI _ _ aP];exact if_pos hj);have hto:=Au (ext w o) w.heap.size (M+3,1);have hmB:=hmb.1;rw [hm] at hmB;have hgt:=hgH.out;rw [hm] at hgt;obtain ⟨dn,hdn⟩:=az (((Ce k q5.2).2).done);simp only [hdn] at hd hdv hgt;have Ahj:=ae hgt;generalize Ak (ext w o) w.heap.size (M+3,1)=oE at *;have hld:=Ip (AV hmB) rfl;have AlO:=ae (Uf m hLn (by rw [AgC,hln];omega));have AbT:=ae hbl;have Aqx:=ae hmB;have AeF:=ae hld;have BaB:=ae hLn;have stH:=ae st;have ApR:=ae hto;obtain ⟨ra,rc,rfl⟩:=hLn.form;clear hst hbl htg hmb hrd hrow hlk hln hgt hgH hm AgC hLn st hto hmB hld hE hB AmB;have nT0:¬ ak (M+3) 0:=fun h=>by unfold ak at h;omega
   have hbad:∀ (W:World) (oW:Own),aj ai w o W oW->W.heap[w.heap.size]?=some (.cells [Value.int .u8 0, .int .u64 0, .int .u64 0, .int .i64 0, .int .i64 0, .slice none 0 0].toArray 46 (0,0))->oW w.heap.size=(M+3,1)->∀ vs:List Value,vs.length=6->vs.all (·.oneCell')=true ->
     (Instr.storeAt 46 (.pointer w.heap.size) (.agg vs.toArray)).run prog W = .ok () (W.setCells w.heap.size 0 vs)/\(W.setCells w.heap.size 0 vs).heap[w.heap.size]?=some (.cells vs.toArray 46 (0,0))/\aj ai w o (W.setCells w.heap.size 0 vs) oW/\aj (ak (M+3)) W oW (W.setCells w.heap.size 0 vs) oW:=by
    intro W oW h1 h2 h3 vs h4 h5;obtain ⟨g1,g2⟩:=Ba (P:=prog) (ty:=46) (vs:=vs) h2 (by rw [h4];rfl) (by rw [h4];exact FT) h5;exact ⟨g1,g2,h1.setCells _ _ _ (.inr (Nat.le_refl _)),(aj.refl _ W oW).setCells _ _ _ (.inl (by rw [h3];rfl))⟩
   have AcU:=ae hbad;clear hbad;unfold Ea at AlO;obtain ⟨c0,c1,c2,c3,c4,c5⟩:=Gt Aqx.out;have hz:∀ (W:World) (oW:Own) e,Jn l=none->iL w.heap.size (Jn l) (.tuple #[.agg #[Value.int .u8 0, .int .u64 0, .int .u64 0, .int .i64 0, .int .i64 0, .slice none 0 0], .int .i64 2]) W oW \/ e:=by
    intro W oW e h;rw [h];exact .inl ⟨fun m h=>by (cases h),fun _=>rfl⟩
   have hzH:=ae hz;clear hz;rcases hdv with rfl | rfl
   ·rw [if_pos rfl] at Ahj
    cases hmay:TE m with
    | true =>
     rw [hmay] at AlO Ahj;rw [if_pos rfl] at Ahj;clear hmay;go_wp2_with fail;refine hd.out.mono ?_;rintro e w2 ⟨rfl,rfl⟩;go_wp2_with fail;refine AlO.out.mono ?_;rintro e w2 ⟨v2,o2,rfl,hs2,rfl⟩;have hb2:=hs2.di AbT.out id;have ho2:=(hs2.own _ (au AbT.out)).trans ApR.out;have hm2:=hs2.di Aqx.out id;have zZ:=ae (Ip (AV hm2) rfl);obtain ⟨g1,g2,g3,g4⟩:=AcU.out w2 o2 (stH.out.trans hs2) hb2 ho2 (Bf m (.slice ra m.ls.length rc)) rfl rfl;have g1H:=ae g1;have g2H:=ae g2;have hF:=aa2 g3 ((BaB.out.step hs2 id).step g4 nT0);clear hs2 hb2 ho2 hm2 g1 g2 g3 g4 c0 c1 c2 c3 c4 c5;unfold Bf at zZ g1H g2H
     go_wp2_with (first
      | ((with_reducible apply Bo);exact zZ.out;simp only [Act.put,lsa,lsz,lss])
      | ((with_reducible apply AC);exact g1H.out;simp only [Act.put]))
     refine bodyPost_ret (Eg rfl _ _ w.heap.size 46 _ (0,0) _ rfl g2H.out underlying46 rfl FT) rfl ?_;exact ⟨_,o2,rfl,hF.out.1,by rw [Ahj.out];exact ⟨fun m' h=>by cases h;exact ⟨_,rfl,hF.out.2.low aP⟩,fun h=>by cases h⟩⟩
    | false =>
     rw [hmay] at AlO Ahj;rw [if_neg bz] at Ahj;clear hmay;go_wp2_with fail;refine hd.out.mono ?_;rintro e w2 ⟨rfl,rfl⟩;go_wp2_with fail;refine AlO.out.mono ?_;rintro e w2 ⟨v2,o2,rfl,hs2,rfl⟩;have hb2:=hs2.di AbT.out id;have ho2:=(hs2.own _ (au AbT.out)).trans ApR.out;obtain ⟨g1,g2,g3,g4⟩:=AcU.out w2 o2 (stH.out.trans hs2) hb2 ho2 [Value.int .u8 0, .int .u64 0, .int .u64 0, .int .i64 0, .int .i64 0, .slice none 0 0] rfl rfl;have g1H:=ae g1;have g2H:=ae g2;have g3H:=ae g3;clear hs2 hb2 ho2 g1 g2 g3 g4 c0 c1 c2 c3 c4 c5
     go_wp2_with ((with_reducible apply AC);exact g1H.out;simp only [Act.put])
     refine bodyPost_ret (Eg rfl _ _ w.heap.size 46 _ (0,0) _ rfl g2H.out underlying46 rfl FT) rfl ?_;exact ⟨_,o2,rfl,g3H.out,(hzH.out _ _ False Ahj.out).resolve_right id⟩
   ·rw [if_neg bz] at Ahj;clear c0 c1 c2 c3 c4 c5;go_wp2_with fail;refine hd.out.mono ?_;rintro e w2 ⟨rfl,rfl⟩;obtain ⟨g1,g2,g3,g4⟩:=AcU.out wr oE stH.out AbT.out ApR.out [Value.int .u8 0, .int .u64 0, .int .u64 0, .int .i64 0, .int .i64 0, .slice none 0 0] rfl rfl;have g1H:=ae g1;have g2H:=ae g2;have g3H:=ae g3;clear g1 g2 g3 g4
    go_wp2_with ((with_reducible apply AC);exact g1H.out;simp only [Act.put])
    refine bodyPost_ret (Eg rfl _ _ w.heap.size 46 _ (0,0) _ rfl g2H.out underlying46 rfl FT) rfl ?_;exact ⟨_,oE,rfl,g3H.out,(hzH.out _ _ False Ahj.out).resolve_right id⟩
theorem KN (w:World) (m:BG) (la:Option Addr) (ln lc:Nat) :
  (Instr.storeAt 46 (.pointer w.heap.size) (.agg (Bf m (.slice la ln lc)).toArray)).run prog (w.alloc (.cells DI.toArray 46)) = .ok () (w.alloc (.cells (Bf m (.slice la ln lc)).toArray 46)):=by
 have h:=(Ba (P:=prog) (ty:=46) (vs:=Bf m (.slice la ln lc)) (heap_alloc_new w (.cells DI.toArray 46)) rfl FT rfl).1;rw [Be w DI.toArray 46 (Bf m (.slice la ln lc)) rfl] at h;exact h
theorem YP {vl bb lb:Nat} {p:DT} {rest:List Value} (i:Nat)
  (hv:w.heap[vl]?=some (.cells #[.pointer lb] 87 (0,0))) (hl:w.heap[lb]?=some (.cells ((mine:aV) :: rest).toArray 91 (0,0)))
  {pv:Option Addr} (hb:w.heap[bb]?=some (.cells #[.pointer pv] 206 (0,0))) (hp:JA w o (some p) pv) :
  Calls prog 148 #[(i:aV), .pointer vl, .pointer bb] w (XL ai w o fun v w' o'=>∃ lv,v=Ea ⟨4,mine,0,0,0,p.2⟩ lv/\Lines w' o' 0 lv p.2):=by
 obtain ⟨pp,lv,rfl,hpp,hpo,hL⟩:=hp;have al:=ae (AB (P:=prog) w 46 _ Oa);have st1:=(aj.refl ai w o).alloc (.cells DI.toArray 46) (0,0);obtain ⟨la,lc,rfl⟩:=hL.form;have mn:=KN w.drew ⟨4,mine,0,0,0,p.2⟩ la p.2.length lc;unfold DI at st1 mn;have dr:=st1.drew;have c1:=ag (cs:=[_]) (dr.di hv id) 0;have c2:=ag (dr.di hl id) 0;have c3:=ag (cs:=[_]) (dr.di hb id) 0;have c4:=ag (dr.di hpp id) 1;simp only [ay,ax] at c1 c2 c3 c4;have hS:=aI c1 (aI c2 (aI c3 c4));have hbm:=heap_alloc_new w (.cells (Bf ⟨4,mine,0,0,0,p.2⟩ (.slice la p.2.length lc)).toArray 46);have stF:=((aj.refl ai w o).drew).alloc (.cells (Bf ⟨4,mine,0,0,0,p.2⟩ (.slice la p.2.length lc)).toArray 46) (0,0);have hF:=aa2 stF (hL.step stF id);have mnH:=ae mn;have Amq:=ae hbm;clear st1 mn dr c1 c2 c3 c4 hv hl hb hpp hpo hL hbm stF;unfold Ea;go_enter func148,ntmps148
 go_wp2_with ((with_reducible apply AU);exact al.out;simp only [Act.put,lsa,lsz,lss])
 refine Aa (fun w'=>w'.cell? vl=some (.pointer lb)/\w'.cell? lb=some (mine:aV)/\w'.cell? bb=some (.pointer pp)/\w'.cell? (aW pp 1)=some (.slice la p.2.length lc)) (fun i=>decide (i<9)) bf hS (fun hHeld => ?_);refine tq 0 (h:=tq 1 (h:=tq 2 (h:=tq 3 (h:=tq 4 (h:=tq 5 (h:=tq 6 (h:=tq 7 (h:=tq 8 (h:=tO 9 (h:=?_))))))))));refine AC mnH.out ?_;go_wp2_with fail;refine ⟨fun h=>by simp at h, ?_⟩;refine tD (h:=?_);go_wp2_with fail;refine bodyPost_ret (results_cell_row rfl _ _ w.heap.size 46 _ (0,0) _ rfl Amq.out underlying46 rfl FT) rfl ?_;exact ⟨_,_,rfl,hF.out.1,_,rfl,hF.out.2⟩

end Go.Proofs.YthmpmgknnibljaaGreat
