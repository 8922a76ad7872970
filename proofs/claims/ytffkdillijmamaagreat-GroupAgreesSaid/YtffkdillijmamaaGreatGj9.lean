/- Contract of zab's count. -/
import Derived.Test.YtffkdillijmamaaGreatGj6
import Derived.Test.YtffkdillijmamaaGreatGj7
import Derived.Test.YtffkdillijmamaaGreatGj8
namespace Go.Proofs.YtffkdillijmamaaGreat
open Go.Proofs.Tryz
set_option maxRecDepth 100000
set_option maxHeartbeats 12800000
open Go Go.RowKit
attribute [local go_sem ↓] Go.wp_at_zero Go.wp_at_succ
def GV (w:World) (o:Own) (D M pz ps pd p:Nat) (z:Am) (mine:BitVec 64) (nR:List Int) (base:Nat) (ready:Bool):Prop:=
 (D<=M/\D ≠ 0)/\GK w o (M+4) pz ps (.iface 135 (.pointer (some ⟨p,0,none⟩))) z/\Nw w o (M+4) p mine nR base ready/\Bi w o (M+1) (M+2) (M+3) D ps pd 0 z.s
theorem GV.node {w:World}{o:Own}{D M pz ps pd p:Nat}{z:Am}{mine:BitVec 64}{nR:List Int}{base:Nat}{ready:Bool}(h:GV w o D M pz ps pd p z mine nR base ready) (q:z.BB = .leads mine nR base ready):Bc w o D M pz ps pd z:=
 ⟨h.1,_,h.2.1,by rw [q];exact ⟨p,rfl,h.2.2.1⟩,h.2.2.2⟩
theorem Bc.leads {w:World}{o:Own}{D M pz ps pd:Nat}{z:Am}{mine:BitVec 64}{nR:List Int}{base:Nat}{ready:Bool}(h:Bc w o D M pz ps pd z) (r:z.BB = .leads mine nR base ready):∃ p,GV w o D M pz ps pd p z mine nR base ready:=by
 obtain ⟨u,F,E,q,h4⟩:=h;rw [r] at q;obtain ⟨p,rfl,q⟩:=q;exact ⟨p,u,E,q,h4⟩
theorem GV.step {T:Nat->Prop}{w w':World}{o o':Own}{D M pz ps pd p:Nat}{z:Am}{mine:BitVec 64}{nR:List Int}{base:Nat}{ready:Bool}(h:GV w o D M pz ps pd p z mine nR base ready) (s:aj T w o w' o') (q:∀ t,T t->t ≠ 0/\¬ KC D M t):GV w' o' D M pz ps pd p z mine nR base ready:=by
 obtain ⟨E,F,J,h4⟩:=h;have r:¬ T (M+4):=fun h=>(q _ h).2 KC.own;exact ⟨E,F.step s r,J.step s r,h4.step s fun t u=>⟨(q t u).1,fun h=>(q t u).2 (KC.in4 t h)⟩⟩
theorem XP (l:List Int) (i:Nat) (x:Int):(ivs l).set i (.int .i64 x)=ivs (l.set i x):=by simp [ivs]
def fG (mine:BitVec 64) (b n cap base:Nat) (ready:Bool):List Value:=[.int .u64 (mine.toNat:Int), .slice (some ⟨b,0,none⟩) n cap, .int .i64 (base:Int), .bool ready]
def countOf (z:Am) (nR:List Int) (base:Nat):Am:=if (base:Int)<=CW nR then { z with Ag:=max z.Ag (CW nR).toNat } else z
theorem count_any {w:World}{o:Own}{D M pz ps pd p:Nat}{z:Am}{mine:BitVec 64}{nR:List Int}{base:Nat}{ready:Bool}(h:GV w o D M pz ps pd p z mine nR base ready) (e6:small z.s.kept.lines) (e7:z.s.kept.lines.length<=256)
  (h1:1<=nR.length) (h3:nR.length<=3) (g7:z.id<nR.length) (e8:∀ x ∈ nR, -1<=x/\x<=256) (e9:z.Ag<=256) :
  Calls prog 93 #[.pointer (some ⟨pz,0,none⟩), .pointer (some ⟨p,0,none⟩)] w (XL (ak (M+4)) w o fun v w' o'=>v = .tuple #[]/\∃ r,(z.count mine nR base ready).BB = .leads mine (nR.set z.id z.s.kept.lines.length) base r/\GV w' o' D M pz ps pd p (z.count mine nR base ready) mine (nR.set z.id z.s.kept.lines.length) base r):=by
 obtain ⟨ML,hb,hl,hs⟩:=h;obtain ⟨b,cap,hp,a8,O,a9,f0,b4⟩:=hl;obtain ⟨L,hL⟩:=az (z.s.kept.lines.length);obtain ⟨n,hn⟩:=az (nR.length);have d8:aj ai w o w.drew o:=(aj.refl ai w o).drew;have g8:=ae (DJ (hs.step0 d8) e6);have a7:=hb.step d8 id;obtain ⟨⟨c0, -,c2, -⟩, -⟩:=a7.cells;have f1:w.drew.heap[p]?=_:=hp;have d9:=ag f1 1;simp only [ay,ax] at d9;have hS:=aI c0 (aI c2 d9);have h8:(0:Int)<=(z.id:Int)/\(z.id:Int)<(n:Int):=om
 have g9:z.id<n:=om
 have hH:=ae (aI hb (aI hs (aI hp (aI a8 (aI O a9)))));have hA:=ae (aI ML (aI f0 b4));have hB:=ae (aI e8 (aI e9 (aI e7 (aI h1 h3))));have U:=ae hn;have b1:=ae hL;rw [hn] at hS;clear ML hb hs hp a8 O a9 f0 b4 a7 c0 c2 f1 d9 e8 e9 e7 h1 h3 hn hL e6 g7;go_enter func93,ntmps93;go_wp2_with fail;refine Aa (fun w'=>w'.cell? ⟨pz,0,none⟩=some (.int .i64 (z.id:Int))/\w'.cell? ⟨pz,2,none⟩=some (.pointer (some ⟨ps,0,none⟩))/\w'.cell? ⟨p,1,none⟩=some (.slice (some ⟨b,0,none⟩) n cap)) (fun i=>decide (i<16)) (by kernel_rfl) hS (fun h2 => ?_);refine tq 0 (h:=tq 1 (h:=tq 2 (h:=tq 3 (h:=tq 4 (h:=tq 5 (h:=tq 6 (h:=tq 7 (h:=tq 8 (h:=tq 9 (h:=tq 10 (h:=tq 11 (h:=tO 12 (h:=?_)))))))))))));go_wp2_with fail;refine g8.out.mono ?_;rintro e w1 ⟨v1,o1,rfl,u,lv,rfl,f2,rfl⟩;have u:=d8.trans u;obtain ⟨hb,hs,hp,a8,O,a9⟩:=hH.out;obtain ⟨⟨d0, -,d2, -⟩, -⟩:=(hb.step u id).cells;have b9:=(u.block p (au hp) id).trans hp;have b5:=(u.block b (au O) id).trans O;have e1:=ag b9 1;simp only [ay,ax] at e1;rw [U.out] at e1;have f4:=aI d0 (aI d2 e1);have d4:=Ap b5 z.id;have h5:w1.cell? ⟨b,z.id,none⟩=some (.int .i64 (nR.getD z.id 0)):=by
  rw [ag b5];have h6:z.id<nR.length:=by rw [U.out];exact g9
  simp [ivs,List.getD_eq_getElem?_getD,List.getElem?_eq_getElem h6]
 obtain ⟨la,lc,rfl⟩:=f2.form;rw [b1.out];have h7:=fun W=>He W (.int .u64 (z.s.kept.promised.toNat:Int)) (.int .u64 (z.s.kept.current.toNat:Int)) (.slice la L lc);have qJ:=ae u;clear u f2 d0 d2 e1 h2 hb hs hp a8 O a9 b9 b5;unfold Dy;go_wp2_with fail;refine ⟨fun _=>f4, ?_⟩;refine tq 13 (h:=tq 14 (h:=tq 15 (h:=tO 16 (h:=?_))));go_wp2_with fail;refine ⟨fun h=>by simp at h, ?_⟩;refine tD (h:=?_);have u:=qJ.out;obtain ⟨hb,hs,hp,a8,O,a9⟩:=hH.out;have b9:=(u.block p (au hp) id).trans hp;have b5:=(u.block b (au O) id).trans O;have c3:=(u.own p (au hp)).trans a8;have b6:=(u.own b (au O)).trans a9;have a7:=hb.step u id;have f5:=hs.step0 u;have e0:p ≠ b:=fun h=>by rw [h,b6] at c3;cases c3
 have e4:pz ≠ b:=fun h=>by have:=a7.2;rw [h,b6] at this;cases this
 have f7:pz ≠ p:=fun h=>by have:=a7.2;rw [h,c3] at this;cases this
 have ML:=hA.out.1;have a2:=(u.only (M+4)).setCell (a:=⟨b,z.id,none⟩) (.int .i64 (L:Int)) (.inl (by show (ext w.drew o b).1=_;rw [b6]));have f8:=(aj.refl (ak (M+4)) w1 (ext w.drew o)).setCell (a:=⟨b,z.id,none⟩) (.int .i64 (L:Int)) (.inl (by show (ext w.drew o b).1=_;rw [b6]));have E:=Ai (i:=z.id) (.int .i64 (L:Int)) b5;rw [XP] at E;have F:=(Below.heap_setCell w1 ⟨b,z.id,none⟩ (.int .i64 (L:Int)) p e0).trans b9;have a3:GK (w1.setCell ⟨b,z.id,none⟩ (.int .i64 (L:Int))) (ext w.drew o) (M+4) pz ps (.iface 135 (.pointer (some ⟨p,0,none⟩))) z:=⟨(Below.heap_setCell w1 ⟨b,z.id,none⟩ (.int .i64 (L:Int)) pz e4).trans a7.1,a7.2⟩;have a4:=f5.step f8 (KC.self ML.1);obtain ⟨W2,f9⟩:=az (w1.setCell ⟨b,z.id,none⟩ (.int .i64 (L:Int)));rw [f9] at a2 E F a3 a4 ⊢;have b7:(nR.set z.id (L:Int)).length=n:=by rw [List.length_set];exact U.out
 have b4:=VZ (w:=W2) (o:=ext w.drew o) (cap:=cap) (AV E) (by rw [b7];have:=hB.out.2.2.2;have:=U.out;omega) (by rw [b7];have:=hB.out.2.2.2;have:=U.out;omega);rw [b7] at b4;have b8:=ae b4;have e1:=ag F 1;simp only [ay,ax] at e1;rw [U.out] at e1;have g0:CW (nR.set z.id (L:Int))<=256:=by
  refine Qo (fun y hy => ?_) om
  rcases List.mem_or_eq_of_mem_set hy with h | h
  ·exact (hB.out.1 y h).2
  ·rw [h];have:=hB.out.2.2.1;have:=b1.out;omega
 have e5:z.count mine nR base ready=if (base:Int)<=CW (nR.set z.id (L:Int)) then { z with BB := .leads mine (nR.set z.id (L:Int)) base true,Ag:=max z.Ag (CW (nR.set z.id (L:Int))).toNat } else { z with BB := .leads mine (nR.set z.id (L:Int)) base ready }:=by rw [<-b1.out];rfl
 obtain ⟨m2,g1⟩:=az (nR.set z.id (L:Int));rw [g1] at b8 g0 E b7 e5;have b2:=ae e5;have d5:=ae g1;have h9:(0:Int)<=(z.Ag:Int)/\(z.Ag:Int)<=256:=by have:=hB.out.2.1;omega
 have hX:=ae (aI a2 (aI E (aI F (aI a3 (aI a4 (aI c3 b6))))));have d6:=ae b7;have d7:=ae (aI e0 (aI e4 f7));obtain ⟨C,hC⟩:=az (CW m2);rw [hC] at b8 g0 b2;clear u qJ hb hs hp a8 O a9 b9 b5 c3 b6 a7 f5 e0 e4 f7 a2 f8 E F a3 a4 f9 b7 b4 e5 f4 d4 h5 h7
 by_cases g2:(base:Int)<=C
 ·rw [if_pos g2] at b2;go_wp2_with fail;refine b8.out.mono ?_;rintro e w3 ⟨v3,Y,rfl,q,rfl⟩;obtain ⟨a2,E,F,a3,a4,c4,c7⟩:=hX.out;have a5:=(q.block p (au F) id).trans F;have c8:=(q.block b (au E) id).trans E;have b3:=(q.own p (au F)).trans c4;have c9:=(q.own b (au E)).trans c7;have a6:=a3.step q id;have d1:=a4.step0 q;have d3:=a2.trans (q.only (M+4));have e2:=ag a5 2;simp only [ay,ax] at e2;have f3:=Ap a5 3;have e3:=ag a5 3;simp only [ay,ax] at e3;obtain ⟨⟨-, -, -, -, -, -,c6⟩,d4, -⟩:=a6.cells;have f6:=d4 6;obtain ⟨J,rfl⟩:∃ J:Nat,C=(J:Int):=⟨C.toNat,om⟩;have i0:max (z.Ag:Int) (J:Int)=((max z.Ag J:Nat):Int):=om
  have i1:(0:Int)<=(J:Int)/\(J:Int)<=256:=om
  have g3:=(d3.setCell (a:=⟨p,3,none⟩) (.bool true) (.inl (by show (Y p).1=_;rw [b3]))).setCell (a:=⟨pz,6,none⟩) (.int .i64 ((max z.Ag J:Nat):Int)) (.inl (by show (Y pz).1=_;rw [a6.2]));have k4:=((aj.refl (ak (M+4)) w3 Y).setCell (a:=⟨p,3,none⟩) (.bool true) (.inl (by show (Y p).1=_;rw [b3]))).setCell (a:=⟨pz,6,none⟩) (.int .i64 ((max z.Ag J:Nat):Int)) (.inl (by show (Y pz).1=_;rw [a6.2]));have g4:=(Below.heap_setCell (w3.setCell ⟨p,3,none⟩ (.bool true)) ⟨pz,6,none⟩ (.int .i64 ((max z.Ag J:Nat):Int)) p (fun h=>d7.out.2.2 h.symm)).trans (Ai (i:=3) (.bool true) a5);have g5:=(Below.heap_setCell (w3.setCell ⟨p,3,none⟩ (.bool true)) ⟨pz,6,none⟩ (.int .i64 ((max z.Ag J:Nat):Int)) b (fun h=>d7.out.2.1 h.symm)).trans ((Below.heap_setCell w3 ⟨p,3,none⟩ (.bool true) b (fun h=>d7.out.1 h.symm)).trans c8);have g6:=Ai (i:=6) (.int .i64 ((max z.Ag J:Nat):Int)) ((Below.heap_setCell w3 ⟨p,3,none⟩ (.bool true) pz d7.out.2.2).trans a6.1);have hF:=ae (aI g3 (show GV _ Y D M pz ps pd p { z with BB := .leads mine m2 base true,Ag:=max z.Ag (J:Int).toNat } mine m2 base true from
   ⟨hA.out.1,⟨g6,a6.2⟩,⟨b,cap,by rw [d6.out, <-U.out];exact g4,b3,g5,c9,by rw [d6.out, <-U.out];exact hA.out.2.1,hA.out.2.2⟩,d1.step k4 (KC.self hA.out.1.1)⟩))
  clear a2 E F a3 a4 c4 c7 q a5 c8 b3 c9 a6 d1 d3 g3 k4 g4 g5 g6 d4 b8 hX;go_wp2_with fail
  go_end0
  refine ⟨_,Y,rfl,hF.out.1,rfl,true, ?_, ?_⟩
  ·rw [b1.out,b2.out,d5.out]
  ·rw [b1.out,b2.out,d5.out];exact hF.out.2
 ·rw [if_neg g2] at b2;go_wp2_with fail;refine b8.out.mono ?_;rintro e w3 ⟨v3,Y,rfl,q,rfl⟩;obtain ⟨a2,E,F,a3,a4,c4,c7⟩:=hX.out;have a5:=(q.block p (au F) id).trans F;have c8:=(q.block b (au E) id).trans E;have b3:=(q.own p (au F)).trans c4;have c9:=(q.own b (au E)).trans c7;have a6:=a3.step q id;have d1:=a4.step0 q;have d3:=a2.trans (q.only (M+4));have e2:=ag a5 2;simp only [ay,ax] at e2;have hF:=ae (aI d3 (show GV w3 Y D M pz ps pd p { z with BB := .leads mine m2 base ready } mine m2 base ready from
   ⟨hA.out.1,a6,⟨b,cap,by rw [d6.out, <-U.out];exact a5,b3,c8,c9,by rw [d6.out, <-U.out];exact hA.out.2.1,hA.out.2.2⟩,d1⟩))
  clear a2 E F a3 a4 c4 c7 q a5 c8 b3 c9 a6 d1 d3 b8 hX;go_wp2_with fail
  go_end0
  refine ⟨_,Y,rfl,hF.out.1,rfl,ready, ?_, ?_⟩
  ·rw [b1.out,b2.out,d5.out]
  ·rw [b1.out,b2.out,d5.out];exact hF.out.2
theorem jL {d:Af}(q:d.dead=false) (u:d.row=[]) (Bz:List Int):d.kill.BJ Bz={ d with left := -1 }:=by
 obtain ⟨p,r,l,dd⟩:=d;simp only at q u;subst q u;rfl
theorem Ags {d:Af}(q:d.dead=false) (u:d.row=[]) (Bz:List Int):d.BJ Bz={ d with left := -1 }:=by
 obtain ⟨p,r,l,dd⟩:=d;simp only at q u;subst q u;rfl
theorem Ad.Good.jH {K:Nat}{l:Ad}{d:Af}(h:Ad.Good K (l,d)) (n:Int) (hn : -1<=n/\n<=9223372036854775807):Ad.Good K (l,{ d with left:=n }):=by
 obtain ⟨q,r,⟨u,h4,E,F⟩,J⟩:=h;refine ⟨q,r,⟨u,h4,E, ?_⟩,J⟩;obtain ⟨O,U,W,Y,q5,q6⟩:=F;exact ⟨O,U,W,Y,hn.1,hn.2⟩
theorem SG.jH {K H:Nat}{s:AZ}(h:SG K H s) (n:Int) (hn : -1<=n/\n<=9223372036854775807):SG K H { s with d:={ s.d with left:=n } }:=
 ⟨h.live,Ad.Good.jH h.gc n hn,Ad.Good.jH h.go n hn,h.pg,h.h4,h.VC,h.len,h.nc,h.no,h.fst,h.rc,h.ro,h.Wl⟩
theorem YG {w:World}{o:Own}{D pd K H:Nat}{t:AZ}(Mx:Nat) (a2:D<=Mx) (a3:D ≠ 0) (q:SG K H t) (E:K<65536) (hn:t.d.pages.length<=400) (F:Bg w o D pd t.d) :
  Calls prog 90 #[.pointer (some ⟨pd,0,none⟩)] w (XL (EN Mx) w o fun v w' o'=>∃ ps,v = .tuple #[.pointer (some ⟨ps,0,none⟩), .int .i64 0]/\Bi w' o' (Mx+1) (Mx+2) (Mx+3) D ps pd 0 t):=by
 obtain ⟨g0,g1,k0,k1,h0,J,O⟩:=q.reopen;have r:=q.newest E;have h4:=q.h4;have hl:=q.len;refine (Yn (S:=Mx+1) (A:=Mx+2) (B:=Mx+3) (Y:=Mx+4) (by simp;omega) F q.dd (by rw [q.row];simp) om hn hl r.1 r.2 h0 J).mono ?_;rintro e w' ⟨v,o',rfl,U,ps, -,rfl,u⟩;rw [O] at u;exact ⟨_,o',rfl,U.mono (fun k W=>by rcases W with rfl | rfl | rfl <;> (show Mx<_;omega)),ps,rfl,u.low (Nat.zero_le _)⟩
structure SP (K:Nat) (s:AZ):Prop where
 sg:SG K s.pages s
theorem SP.mono {K K':Nat}{s:AZ}(h:SP K s) (q:K<=K'):SP K' s:=⟨h.sg.mono q⟩
theorem SP.dead {K:Nat}{s:AZ}(h:SP K s):(s.dead || s.d.dead)=false:=by rw [h.sg.live,h.sg.dd];rfl
theorem SP.of {K H:Nat}{s:AZ}(h:SG K H s):SP K s:=⟨by rw [h.pg];exact h⟩
theorem SP.new {n:Nat}(q:8<=n) (h4:n<=400):SP 0 (YJ n) := .of (dL q om)
theorem Aht {K:Nat}{s:AZ}(h:SP K s) (F:K+600<65536) (J:KOk s.kept) (a:bW) :
  (∃ q er,s.act a=(q,er)/\er ≠ 0) \/ ((s.kept.next a).2=0/\∃ q,s.act a=(q,0)/\SP (K+3) q/\q.kept=(s.kept.next a).1):=by
 rcases AZ.Zk h.sg F J a with ⟨r,u,E⟩ | ⟨h0,q,r,u,E,h4,O⟩ | ⟨h0,r,u⟩ | ⟨-, -, -,q,r, -⟩
 ·exact .inl ⟨_,_,E,by decide⟩
 ·exact .inr ⟨h0,q,r, .of u,E⟩
 ·exact .inl ⟨_,_,r,by decide⟩
 ·exact .inl ⟨_,_,r,by decide⟩
theorem AcS {K:Nat}{s:AZ}(h:SP K s) (r:K+600<65536) (u:KOk s.kept) (e:BitVec 64) :
  (∃ q er,s.promise e=(q,er)/\er ≠ 0) \/ ((s.kept.CQ e).2=0/\∃ q,s.promise e=(q,0)/\SP (K+3) q/\q.kept=(s.kept.CQ e).1):=
 Aht h r u ⟨0,e,[]⟩
theorem KW {K:Nat}{s:AZ}(h:SP K s) (r:K+600<65536) (u:KOk s.kept) (e:BitVec 64) (ls:List Ar) :
  (∃ q er,s.FO e ls=(q,er)/\er ≠ 0) \/ ((s.kept.Ee e ls).2=0/\∃ q,s.FO e ls=(q,0)/\SP (K+3) q/\q.kept=(s.kept.Ee e ls).1):=
 Aht h r u ⟨1,e,ls⟩
theorem Jy {K:Nat}{s:AZ}(h:SP K s) (r:K+600<65536) (u:KOk s.kept) (ls:List Ar) :
  (∃ q er,s.append ls=(q,er)/\er ≠ 0) \/ ((s.kept.Cm ls).2=0/\∃ q,s.append ls=(q,0)/\SP (K+3) q/\q.kept=(s.kept.Cm ls).1):=
 Aht h r u ⟨2,0,ls⟩
structure SU (C K:Nat) (s:AZ):Prop where
 sp:SP K s
 up:s.d.left<0
 room:C+4200<=480*(s.pages - 1)
 top:s.pages<=199
theorem SU.mono {C K K':Nat}{s:AZ}(h:SU C K s) (q:K<=K'):SU C K' s:=⟨h.sp.mono q,h.up,h.room,h.top⟩
theorem AgQ {C K:Nat}{s:AZ}(h:SU C K s) (J:K+600<65536) (F:KOk s.kept) (a:bW) (hb:AP (s.kept.next a).1.lines<=C) :
  ((s.kept.next a).2=1/\s.act a=(s,1)) \/ ((s.kept.next a).2=0/\∃ u,s.act a=(u,0)/\SU C (K+3) u/\u.kept=(s.kept.next a).1):=by
 have O:=h.room
 rcases AZ.Zk h.sp.sg J F a with ⟨E,q,r⟩ | ⟨h0,u,E,q,r,h4,U⟩ | ⟨h0,E,q⟩ | ⟨-, -,E, -⟩
 ·exact .inl ⟨E,r⟩
 ·exact .inr ⟨h0,u,E,⟨.of q,U h.up,by rw [q.pg];exact O,by rw [q.pg];exact h.top⟩,r⟩
 ·have r:=q (2*s.pages) om;have h4:=(F.next a).n;unfold AX.fits bH at r;simp only [decide_eq_false_iff_not] at r;omega
 ·have:=h.up;omega
theorem AeH {C K:Nat}{s:AZ}(h:SU C K s) (r:K+600<65536) (u:KOk s.kept) (hb:AP s.kept.lines<=C) (e:BitVec 64) :
  ((s.kept.CQ e).2=1/\s.promise e=(s,1)) \/ ((s.kept.CQ e).2=0/\∃ q,s.promise e=(q,0)/\SU C (K+3) q/\q.kept=(s.kept.CQ e).1):=by
 refine AgQ h r u ⟨0,e,[]⟩ ?_;show AP (s.kept.CQ e).1.lines<=C;unfold AX.CQ;split <;> exact hb
theorem AgL {C K:Nat}{s:AZ}(h:SU C K s) (r:K+600<65536) (u:KOk s.kept) (e:BitVec 64) (ls:List Ar) (hb:AP s.kept.lines<=C) (E:AP ls<=C) :
  ((s.kept.Ee e ls).2=1/\s.FO e ls=(s,1)) \/ ((s.kept.Ee e ls).2=0/\∃ q,s.FO e ls=(q,0)/\SU C (K+3) q/\q.kept=(s.kept.Ee e ls).1):=by
 refine AgQ h r u ⟨1,e,ls⟩ ?_;show AP (s.kept.Ee e ls).1.lines<=C;unfold AX.Ee;split
 ·exact E
 ·exact hb
theorem AfU {C K:Nat}{s:AZ}(h:SU C K s) (r:K+600<65536) (u:KOk s.kept) (ls:List Ar) (hb:AP s.kept.lines+AP ls<=C) :
  ((s.kept.Cm ls).2=1/\s.append ls=(s,1)) \/ ((s.kept.Cm ls).2=0/\∃ q,s.append ls=(q,0)/\SU C (K+3) q/\q.kept=(s.kept.Cm ls).1):=by
 refine AgQ h r u ⟨2,0,ls⟩ ?_;show AP (s.kept.Cm ls).1.lines<=C;unfold AX.Cm;split
 ·show AP (s.kept.lines++ls)<=C;rw [DV];exact hb
 ·show AP s.kept.lines<=C;omega
namespace Am
structure NP (K B:Nat) (z:Am):Prop where
 sp:SP K z.s
 ok:NOk B z.BN
theorem NP.mono {K K' B B':Nat}{z:Am}(h:NP K B z) (q:K<=K') (r:B<=B'):NP K' B' z:=⟨h.sp.mono q,h.ok.mono r⟩
theorem NP.kok {K B:Nat}{z:Am}(h:NP K B z):KOk z.s.kept:=h.ok.toN0.kok
theorem LG (z:Am) (mine:BitVec 64) (nR:List Int) (base:Nat) (ready:Bool):(z.count mine nR base ready).BN=z.BN.count mine nR base ready/\(z.count mine nR base ready).s=z.s:=by
 unfold count Aj.count;simp only;split
 ·rename_i h;rw [if_pos (show (base:Int)<=CW (nR.set z.BN.id z.BN.k.lines.length) from h)];exact ⟨rfl,rfl⟩
 ·rename_i h;rw [if_neg (show ¬ (base:Int)<=CW (nR.set z.BN.id z.BN.k.lines.length) from h)];exact ⟨rfl,rfl⟩
def Plain (C K:Nat) (r:Am × DX) (q:Aj × DX):Prop:=r.1.BN=q.1/\r.2=q.2/\SU C K r.1.s
theorem PV {C K:Nat}{z:Am}(h:SU C K z.s) (u:K+600<65536) (E:KOk z.s.kept) (hb:AP z.s.kept.lines<=C) (mine:BitVec 64) (has:List (Option (BitVec 64 × List Ar))) (F:∀ p,some p ∈ has->AP p.2<=C) :
  Plain C (K+3) (z.lead mine has) (z.BN.lead mine has):=by
 unfold lead Aj.lead
 by_cases hq:2*(has.filter Option.isSome).length<=z.n
 ·rw [if_pos hq,if_pos (show 2*(has.filter Option.isSome).length<=z.BN.n from hq)];exact ⟨rfl,rfl,h.mono om⟩
 ·rw [if_neg hq,if_neg (show ¬ 2*(has.filter Option.isSome).length<=z.BN.n from hq)]
  cases J:Qr has with
  | none=>exact ⟨rfl,rfl,h.mono om⟩
  | some p =>
   have hp:some p ∈ has:=by
    rcases NZ has none p J with h | h
    ·simp at h
    ·exact h
   simp only;have O:z.BN.k=z.s.kept:=rfl;rw [O]
   rcases AgL h u E mine p.2 hb (F p hp) with ⟨q,r⟩ | ⟨q,U,r,W,h4⟩
   ·rw [q,r];exact ⟨rfl,rfl,h.mono om⟩
   ·rw [q,r,if_pos rfl,if_pos rfl, <-h4];obtain ⟨c1,c2⟩:=LG ({ z with s:=U,Ag:=min z.Ag p.2.length }:Am) mine (List.replicate z.n (-1)) p.2.length false;exact ⟨c1,rfl,by show SU C _ (Am.count _ _ _ _ _).s;rw [c2];exact W⟩
theorem Uu {C K:Nat}{z:Am}(h:SU C K z.s) (hK:K+606<65536) (F:KOk z.s.kept) (hb:AP z.s.kept.lines<=C):Plain C (K+6) z.stand z.BN.stand:=by
 unfold stand Aj.stand;have O:z.BN.k=z.s.kept:=rfl;have e1:z.BN.seen=z.seen:=rfl;have e2:z.BN.id=z.id:=rfl;have U:z.BN.n=z.n:=rfl;simp only;rw [O,e1,e2,U];generalize PQ (Fj z.s.kept.promised z.seen) z.id z.n=e
 by_cases q:e=0
 ·rw [if_pos q,if_pos q];exact ⟨rfl,rfl,h.mono om⟩
 ·rw [if_neg q,if_neg q]
  rcases AeH h om F hb e with ⟨r,J⟩ | ⟨r,u,J,W,h4⟩
  ·rw [r,J];exact ⟨rfl,rfl,h.mono om⟩
  ·rw [r,J,if_pos rfl,if_pos rfl, <-h4];have hl:u.kept.lines=z.s.kept.lines:=by rw [h4,GM r]
   have Y:KOk u.kept:=⟨by rw [hl];exact F.n,by rw [hl];exact F.b⟩;have:=PV (z:={ z with s:=u,BB := .stands e ((List.replicate z.n none).set z.id (some (z.s.kept.current,z.s.kept.lines))),waited:=0 }) W om Y (by show AP u.kept.lines<=C;rw [hl];exact hb) e ((List.replicate z.n none).set z.id (some (z.s.kept.current,z.s.kept.lines))) (fun p hp=>by
    rcases List.mem_or_eq_of_mem_set hp with E | E
    ·have:=List.eq_of_mem_replicate E;simp at this
    ·simp only [Option.some.injEq] at E;subst E;exact hb)
   obtain ⟨p1,p2,p3⟩:=this;refine ⟨p1, ?_,p3⟩;show _++_=_++_;rw [p2];rfl
theorem WC {C K:Nat}{z:Am}(h:SU C K z.s) (E:K+606<65536) (q:KOk z.s.kept) (hb:AP z.s.kept.lines<=C):Plain C (K+6) z.tick z.BN.tick:=by
 have u:∀ z:Am,SU C K z.s->KOk z.s.kept->AP z.s.kept.lines<=C ->
   Plain C (K+6) (if 3+2*z.id<z.waited+1 then ({ z with waited:=z.waited+1 }:Am).stand else (({ z with waited:=z.waited+1 }:Am),[])) (if 3+2*z.BN.id<z.BN.waited+1 then ({ z.BN with waited:=z.BN.waited+1 }:Aj).stand else (({ z.BN with waited:=z.BN.waited+1 }:Aj),[])):=by
  intro z h q hb
  by_cases r:3+2*z.id<z.waited+1
  ·rw [if_pos r,if_pos (show 3+2*z.BN.id<z.BN.waited+1 from r)];exact Uu (z:={ z with waited:=z.waited+1 }) h E q hb
  ·rw [if_neg r,if_neg (show ¬ 3+2*z.BN.id<z.BN.waited+1 from r)];exact ⟨rfl,rfl,h.mono om⟩
 obtain ⟨id,n,s,BB,waited,seen,Ag⟩:=z
 cases BB with
 | follows=>exact u _ h q hb
 | stands a b=>exact u _ h q hb
 | leads mine nR base ready=>exact ⟨rfl,rfl,h.mono om⟩
theorem Xk {C K:Nat}{z:Am}(h:SU C K z.s) (J:K+600<65536) (hk:KOk z.s.kept) (src:Nat) (m:BG) (hb:AP z.s.kept.lines+AP m.ls<=C) (a3:∀ mine has,z.BB = .stands mine has->∀ p,some p ∈ has->AP p.2<=C) :
  Plain C (K+3) (z.hear src m) (z.BN.hear src m):=by
 rw [Aj.MZ];unfold hear;have hy:({ z.BN with seen:=Fj z.BN.seen m.e }:Aj)=({ z with seen:=Fj z.seen m.e }:Am).BN:=rfl;rw [hy];have q:SU C K ({ z with seen:=Fj z.seen m.e }:Am).s:=h;have O:KOk ({ z with seen:=Fj z.seen m.e }:Am).s.kept:=hk;have a6:AP ({ z with seen:=Fj z.seen m.e }:Am).s.kept.lines+AP m.ls<=C:=hb;have a4:∀ mine has,({ z with seen:=Fj z.seen m.e }:Am).BB = .stands mine has->∀ p,some p ∈ has->AP p.2<=C:=a3;generalize ({ z with seen:=Fj z.seen m.e }:Am)=y at *;clear h hk hb a3 hy;have W:y.BN.k=y.s.kept:=rfl;have r:Plain C (K+3) (y,[]) (y.BN,[]):=⟨rfl,rfl,q.mono om⟩;unfold Ec Aj.Ec;split
 ·unfold BK Aj.BK;rw [W];split
  ·exact r
  split
  ·exact ⟨rfl,rfl,q.mono om⟩
  rcases AeH q J O om m.e with ⟨u,E⟩ | ⟨u,s',E,F,h4⟩
  ·rw [u,E];exact r
  ·rw [u,E,if_pos rfl,if_pos rfl, <-h4];exact ⟨rfl,rfl,F⟩
 split
 ·unfold Bj Aj.Bj;have Y:y.BN.BB=y.BB:=rfl;rw [Y]
  cases a2:y.BB with
  | follows=>exact r
  | leads a b c d=>exact r
  | stands mine has =>
   show Plain C (K+3) (if mine ≠ m.e \/ m.e.toNat<=m.c.toNat then _ else _) (if mine ≠ m.e \/ m.e.toNat<=m.c.toNat then _ else _)
   split
   ·exact r
   ·have a5:∀ p,some p ∈ (if (has.getD src none).isSome then has else has.set src (some (m.c,m.ls)))->AP p.2<=C:=by
     intro p hp;split at hp
     ·exact a4 mine has a2 p hp
     ·rcases List.mem_or_eq_of_mem_set hp with U | U
      ·exact a4 mine has a2 p U
      ·simp only [Option.some.injEq] at U;subst U;show AP m.ls<=C;omega
    generalize (if (has.getD src none).isSome then has else has.set src (some (m.c,m.ls)))=uJ at *
    exact PV (z:={ y with BB := .stands mine uJ }) q J O (by show AP y.s.kept.lines<=C;omega) mine uJ a5
 split
 ·unfold Cj Aj.Cj;split <;> exact ⟨rfl,rfl,q.mono om⟩
 split
 ·unfold BD Aj.BD;rw [W];split
  ·exact r
  split
  ·exact ⟨rfl,rfl,q.mono om⟩
  split
  ·exact ⟨rfl,rfl,q.mono om⟩
  rcases AgL q J O m.e m.ls om om with ⟨u,E⟩ | ⟨u,s',E,F,h4⟩
  ·rw [u,E];exact r
  ·rw [u,E,if_pos rfl,if_pos rfl, <-h4];exact ⟨rfl,rfl,F⟩
 split
 ·unfold BF Aj.BF;rw [W];split
  ·exact r
  split
  ·exact ⟨rfl,rfl,q.mono om⟩
  split
  ·exact r
  simp only;split
  ·exact ⟨rfl,rfl,q.mono om⟩
  split
  ·exact ⟨rfl,rfl,q.mono om⟩
  have hd:=FN m.ls (y.s.kept.lines.length - m.at')
  rcases AfU q J O (m.ls.drop (y.s.kept.lines.length - m.at')) om with ⟨u,E⟩ | ⟨u,s',E,F,h4⟩
  ·rw [u,E];exact ⟨rfl,rfl,q.mono om⟩
  ·rw [u,E,if_pos rfl,if_pos rfl, <-h4];exact ⟨rfl,rfl,F⟩
 ·unfold CJ Aj.CJ;have Y:y.BN.BB=y.BB:=rfl;rw [Y]
  cases a2:y.BB with
  | follows=>exact r
  | stands a b=>exact r
  | leads mine nR base ready =>
   simp only;split
   ·obtain ⟨c1,c2⟩:=LG y mine (nR.set src (max (nR.getD src 0) (min m.at' y.s.kept.lines.length:Nat))) base ready;exact ⟨c1,rfl,by show SU C _ (Am.count _ _ _ _ _).s;rw [c2];exact q.mono om⟩
   ·exact r
theorem QL {C K:Nat}{z:Am}(h:SU C K z.s) (O:K+600<65536) (U:KOk z.s.kept) (b:List UInt8) (hb:AP z.s.kept.lines+b.length<=C) :
  (z.BL b).1.BN=(z.BN.BL b).1/\(z.BL b).2=(z.BN.BL b).2/\SU C (K+3) (z.BL b).1.s:=by
 obtain ⟨id,n,s,BB,waited,seen,Ag⟩:=z;have r:SU C (K+3) s:=h.mono om
 by_cases q:b.length=0 \/ 4096<b.length
 ·unfold BL Aj.BL;rw [if_pos q,if_pos q];exact ⟨rfl,rfl,r⟩
 cases BB with
 | follows=>unfold BL Aj.BL;rw [if_neg q,if_neg q];exact ⟨rfl,rfl,r⟩
 | stands a c=>unfold BL Aj.BL;rw [if_neg q,if_neg q];exact ⟨rfl,rfl,r⟩
 | leads mine nR base ready =>
  cases ready with
  | false=>unfold BL Aj.BL;rw [if_neg q,if_neg q];exact ⟨rfl,rfl,r⟩
  | true =>
   have W:(⟨id,n,s, .leads mine nR base true,waited,seen,Ag⟩:Am).BL b=(if 256<=s.kept.lines.length then (⟨id,n,s, .leads mine nR base true,waited,seen,Ag⟩,4) else
     if (s.append [⟨mine,b⟩]).2=0 then ((⟨id,n,(s.append [⟨mine,b⟩]).1, .leads mine nR base true,waited,seen,Ag⟩:Am).count mine nR base true,0) else (⟨id,n,(s.append [⟨mine,b⟩]).1, .leads mine nR base true,waited,seen,Ag⟩,(s.append [⟨mine,b⟩]).2)):=by
    unfold BL;rw [if_neg q]
   have Y:(⟨id,n,s.kept, .leads mine nR base true,waited,seen,Ag⟩:Aj).BL b=(if 256<=s.kept.lines.length then (⟨id,n,s.kept, .leads mine nR base true,waited,seen,Ag⟩,4) else
     if (s.kept.Cm [⟨mine,b⟩]).2=0 then ((⟨id,n,(s.kept.Cm [⟨mine,b⟩]).1, .leads mine nR base true,waited,seen,Ag⟩:Aj).count mine nR base true,0) else (⟨id,n,s.kept, .leads mine nR base true,waited,seen,Ag⟩,(s.kept.Cm [⟨mine,b⟩]).2)):=by
    unfold Aj.BL;rw [if_neg q]
   show (Am.BL _ b).1.BN=(Aj.BL ⟨id,n,s.kept, .leads mine nR base true,waited,seen,Ag⟩ b).1/\(Am.BL _ b).2=(Aj.BL ⟨id,n,s.kept, .leads mine nR base true,waited,seen,Ag⟩ b).2/\_;rw [W,Y]
   by_cases u:256<=s.kept.lines.length
   ·rw [if_pos u,if_pos u];exact ⟨rfl,rfl,r⟩
   rw [if_neg u,if_neg u]
   rcases AfU (s:=s) h O U [⟨mine,b⟩] (by simpa [AP] using hb) with ⟨E,F⟩ | ⟨E,J,F,h3,h4⟩
   ·rw [E,F,if_neg (by show ¬ (1:Int)=0;decide),if_neg (by decide)];exact ⟨rfl,rfl,r⟩
   ·rw [E,F,if_pos rfl,if_pos rfl, <-h4];obtain ⟨c1,c2⟩:=LG (⟨id,n,J, .leads mine nR base true,waited,seen,Ag⟩:Am) mine nR base true;refine ⟨c1,rfl, ?_⟩;show SU C (K+3) (Am.count ⟨id,n,J, .leads mine nR base true,waited,seen,Ag⟩ mine nR base true).s;rw [c2];exact h3
end Am
theorem En.small {B:Nat}{ls:List Ar}(h:En B ls) (q:B<=100000):small ls:=by
 refine ⟨Nat.le_trans h.n om, ?_⟩;rw [Ej];have:=h.n;have:=h.b;omega
theorem ZF {D M:Nat}(h:D<=M/\D ≠ 0):Qw (M+1) (M+2) (M+3) D:=by
 obtain ⟨q,r⟩:=h
 constructor <;> omega
section
variable {w:World}{o:Own}{D M ps pd K B:Nat}{s:AZ}
def Ahu (D M ps pd:Nat) (Q:AZ × Int) (v:Value) (w':World) (o':Own):Prop:=v = .int .i64 Q.2/\Bi w' o' (M+1) (M+2) (M+3) D ps pd 0 Q.1
theorem Wrote.zero {q:Nat}{Q:AZ × Int}{v:Value}{w':World}{o':Own}(h:Wrote (M+1) (M+2) (M+3) D ps pd 0 q Q v w' o'):Ahu D M ps pd Q v w' o':=⟨h.1,h.2.low (Nat.zero_le _)⟩
theorem Jb (q:D<=M/\D ≠ 0) (h:Bi w o (M+1) (M+2) (M+3) D ps pd 0 s) (hp:SP K s) (r:small s.kept.lines) (e:BitVec 64) :
  Calls prog 138 #[.pointer (some ⟨ps,0,none⟩), .int .u64 (e.toNat:Int)] w (XL (qG (M+1) (M+2) (M+3) D) w o fun v w' o'=>Ahu D M ps pd (s.promise e) v w' o'):=by
 refine (SA (ZF q) h (by rw [hp.sg.row];simp) ?_ r e).mono ?_
 ·have:=hp.sg.h4;have:=hp.sg.VC;omega
 ·rintro e w' ⟨v,o',rfl,u,E⟩;exact ⟨v,o',rfl,u,E.zero⟩
theorem Awf (r:D<=M/\D ≠ 0) (h:Bi w o (M+1) (M+2) (M+3) D ps pd 0 s) (hp:SP K s) (e:BitVec 64) {u:Nat}{lv:Value}{ls:List Ar}(hl:Lines w o u lv ls) (q:small ls) :
  Calls prog 197 #[.pointer (some ⟨ps,0,none⟩), .int .u64 (e.toNat:Int),lv] w (XL (qG (M+1) (M+2) (M+3) D) w o fun v w' o'=>Ahu D M ps pd (s.FO e ls) v w' o'):=by
 refine (WQ (ZF r) h (by rw [hp.sg.row];simp) ?_ e lv ls hl q.1 (fun _=>q)).mono ?_
 ·have:=hp.sg.h4;have:=hp.sg.VC;omega
 ·rintro e w' ⟨v,o',rfl,E,F⟩;exact ⟨v,o',rfl,E,F.zero⟩
theorem Ob (E:D<=M/\D ≠ 0) (h:Bi w o (M+1) (M+2) (M+3) D ps pd 0 s) (hp:SP K s) {F:Nat}{lv:Value}{ls:List Ar}(hl:Lines w o F lv ls) (q:small ls) (r:small s.kept.lines) (J:small (s.kept.lines++ls) \/ 1000<s.kept.lines.length+ls.length) :
  Calls prog 92 #[.pointer (some ⟨ps,0,none⟩),lv] w (XL (qG (M+1) (M+2) (M+3) D) w o fun v w' o'=>Ahu D M ps pd (s.append ls) v w' o'):=by
 refine (UD (ZF E) h (by rw [hp.sg.row];simp) ?_ lv ls hl q.1 r.1 (fun u=>⟨q,r, ?_⟩)).mono ?_
 ·have:=hp.sg.h4;have:=hp.sg.VC;omega
 ·rcases J with h | h
  ·exact h
  ·unfold AX.Eu at u;simp only [Bool.and_eq_true,decide_eq_true_eq] at u;omega
 ·rintro e w' ⟨v,o',rfl,O,U⟩;exact ⟨v,o',rfl,O,U.zero⟩
end
abbrev DT:=BitVec 64 × List Ar
def BC (j:Nat):List (Option DT)->List (Nat × DT)
 | []=>[]
 | none :: r=>BC (j+1) r
 | some p :: r=>(j,p) :: BC (j+1) r
theorem KF:∀ (l:List (Option DT)) (j:Nat),(BC j l).length=(l.filter Option.isSome).length
 | [],_=>rfl
 | none :: r,j=>by simpa [BC] using KF r (j+1)
 | some p :: r,j=>by simpa [BC] using KF r (j+1)
theorem Fa:∀ (l:List (Option DT)) (j i:Nat) (p:DT),(i,p) ∈ BC j l ↔ ∃ k,i=j+k/\l[k]?=some (some p)
 | [],_,_,_=>by simp [BC]
 | none :: r,j,i,p=>by
  rw [show BC j (none :: r)=BC (j+1) r from rfl,Fa r (j+1) i p]
  constructor
  ·rintro ⟨k,rfl,h⟩;exact ⟨k+1,om,h⟩
  ·rintro ⟨k,rfl,h⟩
   cases k with
   | zero=>simp at h
   | succ k=>exact ⟨k,om,h⟩
 | some q :: r,j,i,p=>by
  rw [show BC j (some q :: r)=(j,q) :: BC (j+1) r from rfl,List.mem_cons,Fa r (j+1) i p]
  constructor
  ·rintro (h | ⟨k,rfl,h⟩)
   ·cases h;exact ⟨0,om,rfl⟩
   ·exact ⟨k+1,om,h⟩
  ·rintro ⟨k,rfl,h⟩
   cases k with
   | zero=>simp at h;subst h;exact .inl rfl
   | succ k=>exact .inr ⟨k,om,h⟩
theorem Mc:∀ (l:List (Option DT)) (j:Nat),((BC j l).map (·.1)).Pairwise (· < ·)
 | [],_=>by simp [BC]
 | none :: r,j=>Mc r (j+1)
 | some p :: r,j=>by
  rw [show BC j (some p :: r)=(j,p) :: BC (j+1) r from rfl,List.map_cons,List.pairwise_cons];refine ⟨fun i q => ?_,Mc r (j+1)⟩;obtain ⟨x,u,rfl⟩:=List.mem_map.1 q;obtain ⟨k,h, -⟩:=(Fa r (j+1) x.1 x.2).1 u;show j<x.1;omega
theorem Ll:∀ (l:List (Option DT)) (j:Nat) (b:Option DT),l.foldl EW b=(BC j l).foldl (fun b x=>EW b (some x.2)) b
 | [],_,_=>rfl
 | none :: r,j,b=>by
  rw [List.foldl_cons,show BC j (none :: r)=BC (j+1) r from rfl, <-Ll r (j+1)];rfl
 | some p :: r,j,b=>by
  rw [List.foldl_cons,show BC j (some p :: r)=(j,p) :: BC (j+1) r from rfl,List.foldl_cons,Ll r (j+1)]
theorem WN {w:World}{o:Own}{Z mb:Nat}{has:List (Option DT)}(h:OE w o Z mb has) :
  ∃ es:List Ent,(w.heap[mb]?=some (.map (Bd 0 es).toArray es.length)/\o mb=(Z,2))/\(es.map (·.1)).Nodup/\(∀ x ∈ es,x.1<has.length)/\es.length=(has.filter Option.isSome).length /\
   (∀ q:List Nat,q.Perm (es.map (·.1))->q.Pairwise (· <= ·)->q=(BC 0 has).map (·.1))/\(∀ i p,(i,p) ∈ BC 0 has->∃ x ∈ es,x.1=i/\x.2.1=p.1/\Lines w o 0 x.2.2 p.2)/\∀ x ∈ es,∃ ls,has[x.1]?=some (some (x.2.1,ls))/\Lines w o 0 x.2.2 ls:=by
 obtain ⟨es,J,O,U,h4,W⟩:=h;have hm:∀ i,i ∈ es.map (·.1) ↔ i ∈ (BC 0 has).map (·.1):=by
  intro i
  constructor
  ·intro E;obtain ⟨x,r,rfl⟩:=List.mem_map.1 E;obtain ⟨ls,hl, -⟩:=h4 x r;exact List.mem_map.2 ⟨(x.1,(x.2.1,ls)),(Fa has 0 _ _).2 ⟨x.1,om,hl⟩,rfl⟩
  ·intro E;obtain ⟨x,r,rfl⟩:=List.mem_map.1 E;obtain ⟨k,hk,hl⟩:=(Fa has 0 x.1 x.2).1 r;obtain ⟨y,u,Y⟩:=W k x.2 hl;exact List.mem_map.2 ⟨y,u,by show y.1=x.1;omega⟩
 have a2:((BC 0 has).map (·.1)).Nodup:=(Mc has 0).imp (fun h=>om);have hp:(es.map (·.1)).Perm ((BC 0 has).map (·.1)):=(List.perm_ext_iff_of_nodup U a2).2 hm;refine ⟨es,⟨J,O⟩,U,fun x r => ?_, ?_,fun q hq hs => ?_,fun i p a3 => ?_,h4⟩
 ·obtain ⟨ls,hl, -⟩:=h4 x r;exact (List.getElem?_eq_some_iff.1 hl).1
 ·have:=hp.length_eq;rw [List.length_map,List.length_map,KF] at this;exact this
 ·refine List.Perm.eq_of_pairwise (le:=fun a b:Nat=>a<=b) (fun a b _ _ J O=>om) hs ((Mc has 0).imp (fun h=>om)) (hq.trans hp)
 ·obtain ⟨k,hk,hl⟩:=(Fa has 0 i p).1 a3;obtain ⟨y,u,Y⟩:=W k p hl;obtain ⟨ls,F,hL⟩:=h4 y u;rw [Y,hl] at F;simp only [Option.some.injEq] at F;subst F;exact ⟨y,u,om,rfl,hL⟩
def JA (w:World) (o:Own) (b:Option DT) (pv:Option Addr):Prop:=
 match b with
 | none=>pv=none
 | some p=>∃ pp lv,pv=some ⟨pp,0,none⟩/\w.heap[pp]?=some (.cells [.int .u64 (p.1.toNat:Int),lv].toArray 203 (0,0))/\(o pp).1=0/\Lines w o 0 lv p.2
theorem JA.step {T:Nat->Prop}{w w':World}{o o':Own}{b:Option DT}{r:Option Addr}(h:JA w o b r) (s:aj T w o w' o') (h0:¬ T 0):JA w' o' b r:=by
 cases b with
 | none=>exact h
 | some p =>
  obtain ⟨q,F,J,u,E,h4⟩:=h;have hl:=au u;exact ⟨q,F,J,by rw [s.block q hl (by rw [E];exact h0)];exact u,by rw [s.own q hl];exact E,h4.step s h0⟩
def Qx (w:World) (o:Own) (D M pz ps pd p:Nat) (z:Am) (mine:BitVec 64) (has:List (Option DT)):Prop:=
 (D<=M/\D ≠ 0)/\GK w o (M+4) pz ps (.iface 201 (.pointer (some ⟨p,0,none⟩))) z/\KA w o (M+4) p mine has/\Bi w o (M+1) (M+2) (M+3) D ps pd 0 z.s
theorem Qx.node {w:World}{o:Own}{D M pz ps pd p:Nat}{z:Am}{mine:BitVec 64}{has:List (Option DT)}(h:Qx w o D M pz ps pd p z mine has) (q:z.BB = .stands mine has):Bc w o D M pz ps pd z:=
 ⟨h.1,_,h.2.1,by rw [q];exact ⟨p,rfl,h.2.2.1⟩,h.2.2.2⟩
def Ea (m:BG) (lv:Value):Value := .agg #[.int .u8 (m.k:Int), .int .u64 (m.e.toNat:Int), .int .u64 (m.c.toNat:Int), .int .i64 (m.at':Int), .int .i64 (m.com:Int),lv]
def Bf (m:BG) (lv:Value):List Value:=[.int .u8 (m.k:Int), .int .u64 (m.e.toNat:Int), .int .u64 (m.c.toNat:Int), .int .i64 (m.at':Int), .int .i64 (m.com:Int),lv]
def IU:Obj := .map #[⟨.int .u8 1, .agg #[.bool false, .bool false, .bool false, .bool false],0⟩,⟨.int .u8 2, .agg #[.bool true, .bool false, .bool false, .bool true],1⟩,⟨.int .u8 3, .agg #[.bool false, .bool false, .bool false, .bool false],2⟩,⟨.int .u8 4, .agg #[.bool false, .bool false, .bool false, .bool true],3⟩,⟨.int .u8 5, .agg #[.bool false, .bool true, .bool true, .bool true],4⟩,⟨.int .u8 6, .agg #[.bool false, .bool true, .bool false, .bool false],5⟩] 6
def HY:Obj := .map #[⟨.int .u8 1, .func (.func 149) #[] #[],0⟩,⟨.int .u8 2, .func (.func 150) #[] #[],1⟩,⟨.int .u8 3, .func (.func 151) #[] #[],2⟩,⟨.int .u8 4, .func (.func 152) #[] #[],3⟩,⟨.int .u8 5, .func (.func 153) #[] #[],4⟩,⟨.int .u8 6, .func (.func 154) #[] #[],5⟩] 6
theorem JB (t e:TypeId) (_q:prog.underlying t=some (.map 5 e)) (w:World):(Instr.makeMap t none).run prog w = .ok (.map (some w.heap.size)) (w.alloc (.map #[] 0)):=by
 simp only [Instr.makeMap,Sem.run_bind];rfl
theorem CU (t e:TypeId) (r:prog.underlying t=some (.map 5 e)) (w:World) (es:Array MapEntry) (q:Nat) (k:Int) (v:Value) (u:Instr.findNow (.int .u8) (.int .u8 k) es.toList 0=some none) :
  (Instr.mapUpdate t (.map (some w.heap.size)) (.int .u8 k) v).run prog (w.alloc (.map es q)) = .ok () (w.alloc (.map (es.push ⟨.int .u8 k,v,q⟩) (q+1))):=by
 have hb:(w.alloc (.map es q)).heap[w.heap.size]?=some (.map es q):=heap_alloc_new w _;have E:(Instr.checkKey false 10000 5 (.int .u8 k)).run prog (w.alloc (.map es q)) = .ok () (w.alloc (.map es q)):=by
  unfold Instr.checkKey;simp [run_underlying underlying5]
 have F:(Instr.findKey 5 (.int .u8 k) es.toList).run prog (w.alloc (.map es q)) = .ok none (w.alloc (.map es q)):=by
  simp [Instr.findKey,run_underlying underlying5,u]
 simp only [Instr.mapUpdate,Sem.run_bind,run_underlying r,Result.andThen_ok,MapKept.run_getObj_map hb,E,F,MapKept.run_setObj_map _ hb];rw [OC]
def Dl (k:Nat):Bool × Bool × Bool × Bool:=(decide (k=2),decide (k=5 \/ k=6),decide (k=5),decide (k=2 \/ k=4 \/ k=5))
def kindOk (k:Nat):Bool:=decide (1<=k/\k<=6)
def Ku (k:Nat):List Value:=[.bool (Dl k).1, .bool (Dl k).2.1, .bool (Dl k).2.2.1, .bool (Dl k).2.2.2]
theorem IB {w:World}{b:Nat}(hb:w.heap[b]?=some IU) (k:Nat) :
  (Instr.lookup 273 (.map (some b)) (.int .u8 (k:Int)) true).run prog w = .ok (.tuple #[.agg (Ku k).toArray, .bool (kindOk k)]) w:=by
 have q:∀ k:Int,(Instr.checkKey false 10000 5 (.int .u8 k)).run prog w = .ok () w:=fun k=>by
  unfold Instr.checkKey;simp [run_underlying underlying5]
 have U:(zeroValue 271).run prog w = .ok (.agg #[.bool false, .bool false, .bool false, .bool false]) w:=by kernel_rfl
 unfold IU at hb
 by_cases h:k=1 \/ k=2 \/ k=3 \/ k=4 \/ k=5 \/ k=6
 ·rcases h with rfl | rfl | rfl | rfl | rfl | rfl
  all_goals
   simp only [Instr.lookup,Sem.run_bind,run_underlying underlying273,Result.andThen_ok,MapKept.run_getObj_map hb,Sem.run_pure,Instr.findKey,run_underlying underlying5];simp [Instr.findNow,Instr.sameNow,q,Ku,Dl,kindOk]
 ·have W:¬ (1:Int)=k:=om
  have Y:¬ (2:Int)=k:=om
  have h3:¬ (3:Int)=k:=om
  have h4:¬ (4:Int)=k:=om
  have h5:¬ (5:Int)=k:=om
  have h6:¬ (6:Int)=k:=om
  have g1:¬ (k:Int)=1:=om
  have g2:¬ (k:Int)=2:=om
  have g3:¬ (k:Int)=3:=om
  have g4:¬ (k:Int)=4:=om
  have g5:¬ (k:Int)=5:=om
  have g6:¬ (k:Int)=6:=om
  have r:((k:Int) == 1)=false:=by simp;omega
  have u:((k:Int) == 2)=false:=by simp;omega
  have E:((k:Int) == 3)=false:=by simp;omega
  have F:((k:Int) == 4)=false:=by simp;omega
  have J:((k:Int) == 5)=false:=by simp;omega
  have O:((k:Int) == 6)=false:=by simp;omega
  have e1:Ku k=[.bool false, .bool false, .bool false, .bool false]:=by
   unfold Ku Dl;simp only [show ¬ k=2 by omega,show ¬ k=5 by omega,show ¬ k=6 by omega,show ¬ k=4 by omega,decide_false,false_or]
  have e2:kindOk k=false:=by unfold kindOk;simp only [decide_eq_false_iff_not];omega
  rw [e1,e2];simp only [Instr.lookup,Sem.run_bind,run_underlying underlying273,Result.andThen_ok,MapKept.run_getObj_map hb,Sem.run_pure,Instr.findKey,run_underlying underlying5];simp [Instr.findNow,Instr.sameNow,q,r,u,E,F,J,O]
theorem RG (w:World) (o:Own):Calls prog 206 #[] w (XL ai w o fun v w' _Y=>∃ b,v = .map (some b)/\w'.heap[b]?=some IU):=by
 have u:=ae (JB 273 _ underlying273 w);have E:=ae (CU 273 _ underlying273 w #[] 0 1 (.agg #[.bool false, .bool false, .bool false, .bool false]) rfl);have F:=ae (CU 273 _ underlying273 w #[⟨.int .u8 1, .agg #[.bool false, .bool false, .bool false, .bool false],0⟩] 1 2 (.agg #[.bool true, .bool false, .bool false, .bool true]) rfl);have J:=ae (CU 273 _ underlying273 w #[⟨.int .u8 1, .agg #[.bool false, .bool false, .bool false, .bool false],0⟩,⟨.int .u8 2, .agg #[.bool true, .bool false, .bool false, .bool true],1⟩] 2 3 (.agg #[.bool false, .bool false, .bool false, .bool false]) rfl);have O:=ae (CU 273 _ underlying273 w #[⟨.int .u8 1, .agg #[.bool false, .bool false, .bool false, .bool false],0⟩,⟨.int .u8 2, .agg #[.bool true, .bool false, .bool false, .bool true],1⟩,⟨.int .u8 3, .agg #[.bool false, .bool false, .bool false, .bool false],2⟩] 3 4 (.agg #[.bool false, .bool false, .bool false, .bool true]) rfl);have U:=ae (CU 273 _ underlying273 w #[⟨.int .u8 1, .agg #[.bool false, .bool false, .bool false, .bool false],0⟩,⟨.int .u8 2, .agg #[.bool true, .bool false, .bool false, .bool true],1⟩,⟨.int .u8 3, .agg #[.bool false, .bool false, .bool false, .bool false],2⟩,⟨.int .u8 4, .agg #[.bool false, .bool false, .bool false, .bool true],3⟩] 4 5 (.agg #[.bool false, .bool true, .bool true, .bool true]) rfl);have W:=ae (CU 273 _ underlying273 w #[⟨.int .u8 1, .agg #[.bool false, .bool false, .bool false, .bool false],0⟩,⟨.int .u8 2, .agg #[.bool true, .bool false, .bool false, .bool true],1⟩,⟨.int .u8 3, .agg #[.bool false, .bool false, .bool false, .bool false],2⟩,⟨.int .u8 4, .agg #[.bool false, .bool false, .bool false, .bool true],3⟩,⟨.int .u8 5, .agg #[.bool false, .bool true, .bool true, .bool true],4⟩] 5 6 (.agg #[.bool false, .bool true, .bool false, .bool false]) rfl);have q:=(aj.refl ai w o).alloc IU (0,0);have hb:(w.alloc IU).heap[w.heap.size]?=some IU:=heap_alloc_new _ _;have r:=ae (aI q hb);clear q hb;go_enter func206,ntmps206
 go_wp2_with (first
  | ((with_reducible apply Iq);exact u.out;simp only [Act.put,GL,DL,lss])
  | ((with_reducible apply Ji);(first | exact E.out | exact F.out | exact J.out | exact O.out | exact U.out | exact W.out);simp only [Act.put]))
 go_ret;exact ⟨_,_,rfl,r.out.1,_,rfl,r.out.2⟩
theorem YQ (w:World) (o:Own):Calls prog 104 #[] w (XL ai w o fun v w' _Y=>∃ b,v = .map (some b)/\w'.heap[b]?=some HY):=by
 have u:=ae (JB 158 _ underlying158 w);have E:=ae (CU 158 _ underlying158 w #[] 0 1 (.func (.func 149) #[] #[]) rfl);have F:=ae (CU 158 _ underlying158 w #[⟨.int .u8 1, .func (.func 149) #[] #[],0⟩] 1 2 (.func (.func 150) #[] #[]) rfl);have J:=ae (CU 158 _ underlying158 w #[⟨.int .u8 1, .func (.func 149) #[] #[],0⟩,⟨.int .u8 2, .func (.func 150) #[] #[],1⟩] 2 3 (.func (.func 151) #[] #[]) rfl);have O:=ae (CU 158 _ underlying158 w #[⟨.int .u8 1, .func (.func 149) #[] #[],0⟩,⟨.int .u8 2, .func (.func 150) #[] #[],1⟩,⟨.int .u8 3, .func (.func 151) #[] #[],2⟩] 3 4 (.func (.func 152) #[] #[]) rfl);have U:=ae (CU 158 _ underlying158 w #[⟨.int .u8 1, .func (.func 149) #[] #[],0⟩,⟨.int .u8 2, .func (.func 150) #[] #[],1⟩,⟨.int .u8 3, .func (.func 151) #[] #[],2⟩,⟨.int .u8 4, .func (.func 152) #[] #[],3⟩] 4 5 (.func (.func 153) #[] #[]) rfl);have W:=ae (CU 158 _ underlying158 w #[⟨.int .u8 1, .func (.func 149) #[] #[],0⟩,⟨.int .u8 2, .func (.func 150) #[] #[],1⟩,⟨.int .u8 3, .func (.func 151) #[] #[],2⟩,⟨.int .u8 4, .func (.func 152) #[] #[],3⟩,⟨.int .u8 5, .func (.func 153) #[] #[],4⟩] 5 6 (.func (.func 154) #[] #[]) rfl);have q:=(aj.refl ai w o).alloc HY (0,0);have hb:(w.alloc HY).heap[w.heap.size]?=some HY:=heap_alloc_new _ _;have r:=ae (aI q hb);clear q hb;go_enter func104,ntmps104
 go_wp2_with (first
  | ((with_reducible apply Iq);exact u.out;simp only [Act.put,GL,DL,lss])
  | ((with_reducible apply Ji);(first | exact E.out | exact F.out | exact J.out | exact O.out | exact U.out | exact W.out);simp only [Act.put]))
 go_ret;exact ⟨_,_,rfl,r.out.1,_,rfl,r.out.2⟩
def Dz (n:Nat) (has:Bool):Bool:=decide (n=0) || (has && decide (n<=256))
theorem Du (n:Nat) (has:Bool) (w:World):Calls prog 208 #[.int .i64 (n:Int), .bool has] w fun e w'=>e = .returned (.bool (Dz n has))/\w=w':=by
 by_cases h0:n=0
 ·subst h0;go_enter func208,ntmps208
  go_wp2
  go_ret;exact ⟨rfl,rfl⟩
 ·have E:((n:Int) == 0)=false:=by simp;omega
  have F:(0:Int)<(n:Int):=om
  cases has with
  | false =>
   have q:=ae (show Dz n false=false by simp [Dz,h0]);go_enter func208,ntmps208
   go_wp2
   go_ret;exact ⟨by rw [q.out];rfl,rfl⟩
  | true =>
   by_cases r:n<=256
   ·have u:(n:Int)<=256:=om
    have q:=ae (show Dz n true=true by simp [Dz,r]);clear h0 r;go_enter func208,ntmps208
    go_wp2
    go_ret;exact ⟨by rw [q.out];rfl,rfl⟩
   ·have u:¬ (n:Int)<=256:=om
    have q:=ae (show Dz n true=false by simp [Dz,r];omega);clear h0 r;go_enter func208,ntmps208
    go_wp2
    go_ret;exact ⟨by rw [q.out];rfl,rfl⟩
def TE (m:BG):Bool:=
 kindOk m.k && (decide (1<=m.e.toNat) && (decide (m.e.toNat<=281474976710656) && ((decide (m.c.toNat=0) || ((Dl m.k).1 && decide (m.c.toNat<=m.e.toNat))) && (Dz m.at' (Dl m.k).2.1 && (Dz m.com (Dl m.k).2.2.1 && (Dz m.ls.length (Dl m.k).2.2.2 && !m.ls.any (badL Ho)))))))
theorem Wh {x:Ar}:badL Ho x=false ↔ x.may:=by
 have q:Ho.toNat=281474976710656:=by decide
 unfold badL Ar.may;rw [q];simp only [Bool.or_eq_false_iff,decide_eq_false_iff_not];omega
theorem XJ {m:BG}(h:m.May):TE m=true:=by
 have a3:=h.k1;have a4:=h.k6;have q:=h.e1;have r:=h.e2;have U:=h.c1;have a5:=h.a1;have a6:=h.o1;have a7:=h.n1;have hb:m.ls.any (badL Ho)=false:=by
  rw [List.any_eq_false];intro x W;rw [Wh.2 (h.hl x W)]
  decide
 have Y:m.k ≠ 2->m.c.toNat=0:=fun hk=>by rw [h.kc hk];rfl
 have a2:m.k ≠ 2->m.k ≠ 4->m.k ≠ 5->m.ls.length=0:=fun u h4 E=>by rw [h.kl u h4 E];rfl
 have J:=h.ka;have O:=h.ko;unfold TE Dz Dl kindOk;rw [hb];simp only [Bool.and_eq_true,Bool.or_eq_true,decide_eq_true_eq,Bool.not_false]
 by_cases u:m.k=2
 ·have:=O om;have:=J om om;refine ⟨om,q,r, .inr ⟨u,U⟩,om,om,om,trivial⟩
 ·have F:=Y u
  by_cases h4:m.k=4
  ·have:=O om;have:=J om om;refine ⟨om,q,r, .inl F,om,om,om,trivial⟩
  ·by_cases E:m.k=5
   ·refine ⟨om,q,r, .inl F,om,om,om,trivial⟩
   ·have:=a2 u h4 E;have:=O E
    by_cases h6:m.k=6
    ·refine ⟨om,q,r, .inl F,om,om,om,trivial⟩
    ·have:=J E h6;refine ⟨om,q,r, .inl F,om,om,om,trivial⟩
theorem dK {m:BG}(h:TE m=true):m.May:=by
 unfold TE Dz Dl kindOk at h;simp only [Bool.and_eq_true,Bool.or_eq_true,decide_eq_true_eq,Bool.not_eq_true'] at h;obtain ⟨U,q,E,h4,r,F,W,u⟩:=h;refine ⟨om,om,q,E,om,om,om,om,fun x J=>Wh.1 ?_,fun O => ?_,fun O=>om,fun r F=>om,fun q h4 r => ?_⟩
 ·rw [List.any_eq_false] at u;have:=u x J
  simpa using this
 ·apply BitVec.eq_of_toNat_eq;have:m.c.toNat=0:=om
  rw [this];rfl
 ·apply List.eq_nil_of_length_eq_zero;omega
theorem aJ {w:World}{o:Own}(x:Ar) (bv:Value) (hb:Bytes w o bv x.b) :
  Calls prog 207 #[.agg #[.int .u64 (x.e.toNat:Int),bv]] w (XL ai w o fun v _ _=>v = .bool (badL Ho x)):=by
 obtain ⟨O,U,rfl⟩:=Aq hb;have s1:=(aj.refl ai w o).alloc (.cells #[.int .u64 (x.e.toNat:Int), .slice O x.b.length U] 41) (0,0);have W:(w.alloc (.cells #[.int .u64 (x.e.toNat:Int), .slice O x.b.length U] 41)).heap[w.heap.size]?=some (.cells [.int .u64 (x.e.toNat:Int), .slice O x.b.length U].toArray 41 (0,0)):=heap_alloc_new w _;have c0:=ag W 0;have c1:=ag W 1;simp only [ay,ax] at c0 c1;have E:=ae s1;have ht:Ho.toNat=281474976710656:=by decide
 have hu:badL Ho x=(decide (x.e.toNat<1) || decide (281474976710656<x.e.toNat) || decide (x.b.length<1) || decide (4096<x.b.length)):=by unfold badL;rw [ht]
 have F:=ae hu;have he:=x.e.isLt;generalize x.b.length=q at *;generalize x.e.toNat=r at *;clear s1 W hb hu ht
 by_cases u:r<1
 ·have a3:(r:Int)<1:=om
  go_enter func207,ntmps207;go_wp2_with fail;go_ret;exact ⟨_,_,rfl,E.out,by rw [F.out];simp [u]⟩
 ·have a3:¬ (r:Int)<1:=om
  by_cases J:281474976710656<r
  ·have a4:(281474976710656:Int)<(r:Int):=om
   go_enter func207,ntmps207;go_wp2_with fail;go_ret;exact ⟨_,_,rfl,E.out,by rw [F.out];simp [u,J]⟩
  ·have a4:¬ (281474976710656:Int)<(r:Int):=om
   by_cases Y:q<1
   ·have a5:(q:Int)<1:=om
    go_enter func207,ntmps207;go_wp2_with fail;go_ret;exact ⟨_,_,rfl,E.out,by rw [F.out];simp [u,J,Y]⟩
   ·have a5:¬ (q:Int)<1:=om
    go_enter func207,ntmps207;go_wp2_with fail;go_ret;exact ⟨_,_,rfl,E.out,by
     rw [F.out]
     by_cases h4:4096<q
     ·have a2:(4096:Int)<(q:Int):=om
      simp [u,J,Y,h4,a2]
     ·have a2:¬ (4096:Int)<(q:Int):=om
      simp [u,J,Y,h4,a2]⟩
theorem Zo:((prog.info? 271).bind (·.zero)).map (·.cells)=some #[.bool false, .bool false, .bool false, .bool false]:=by kernel_rfl
def jD (w:World) (b kb:Nat) (m:BG) (lv:Value) (h1 h2 h3 h4:Bool):Prop:=
 w.heap[b]?=some (.cells (Bf m lv).toArray 150 (0,0))/\w.heap[kb]?=some (.cells [.bool h1, .bool h2, .bool h3, .bool h4].toArray 271 (0,0))
theorem Uf {w:World}{o:Own}{base:Nat}(m:BG) {lv:Value}(hl:Lines w o base lv m.ls) (hn:m.ls.length<=100000) :
  Calls prog 148 #[Ea m lv] w (XL ai w o fun v _ _=>v = .bool (TE m)):=by
 obtain ⟨la,lc,rfl⟩:=hl.form;have hu:TE m=(kindOk m.k && (decide (1<=m.e.toNat) && (decide (m.e.toNat<=281474976710656) && ((decide (m.c.toNat=0) || ((Dl m.k).1 && decide (m.c.toNat<=m.e.toNat))) && (Dz m.at' (Dl m.k).2.1 && (Dz m.com (Dl m.k).2.2.1 && (Dz m.ls.length (Dl m.k).2.2.2 && !m.ls.any (badL Ho)))))))):=rfl;have b9:Ku m.k=[.bool (Dl m.k).1, .bool (Dl m.k).2.1, .bool (Dl m.k).2.2.1, .bool (Dl m.k).2.2.2]:=rfl;generalize (Dl m.k).1=F at *;generalize (Dl m.k).2.1=u at *;generalize (Dl m.k).2.2.1=E at *;generalize (Dl m.k).2.2.2=h4 at *;have c0:=(aj.refl ai w o).alloc (.cells [.int .u8 (m.k:Int), .int .u64 (m.e.toNat:Int), .int .u64 (m.c.toNat:Int), .int .i64 (m.at':Int), .int .i64 (m.com:Int), .slice la m.ls.length lc].toArray 150) (0,0);have b7:=ae (heap_alloc_new w (.cells [.int .u8 (m.k:Int), .int .u64 (m.e.toNat:Int), .int .u64 (m.c.toNat:Int), .int .i64 (m.at':Int), .int .i64 (m.com:Int), .slice la m.ls.length lc].toArray 150));obtain ⟨W1,d9⟩:=az (w.alloc (.cells [.int .u8 (m.k:Int), .int .u64 (m.e.toNat:Int), .int .u64 (m.c.toNat:Int), .int .i64 (m.at':Int), .int .i64 (m.com:Int), .slice la m.ls.length lc].toArray 150));rw [d9] at c0 b7;generalize Ak o w.heap.size (0,0)=o1 at *;have e4:=ae (hl.step c0 id);have c0:=ae c0;have e5:W1.drew.cell? ⟨w.heap.size,0,none⟩=some (.int .u8 (m.k:Int)):=ag b7.out 0;have Y:=ae hu;have b9:=ae b9;have uM:=ae d9;have e7:=ae hn;clear hu d9 hl hn;unfold Ea;go_enter func148,ntmps148;go_wp2_with fail;rw [uM.out];refine Jd (fun a0 a' w'=>∃ (g:Nat) (o':Own) (y1 y2 y3 y4 y5 y6 y7:Value),a'=Act.puts a0 [8,9,10,11,7,12,13,3,4] [y1,y2,y3,y4,y5,y6,y7, .pointer (some ⟨g,0,none⟩), .bool (kindOk m.k)]/\w'.heap[g]?=some (.cells [Value.bool F, .bool u, .bool E, .bool h4].toArray 271 (0,0))/\w'.heap[w.heap.size]?=some (.cells [.int .u8 (m.k:Int), .int .u64 (m.e.toNat:Int), .int .u64 (m.c.toNat:Int), .int .i64 (m.at':Int), .int .i64 (m.com:Int), .slice la m.ls.length lc].toArray 150 (0,0))/\aj ai W1 o1 w' o') ?_ ?_
 ·refine Aa (fun w'=>w'.cell? ⟨w.heap.size,0,none⟩=some (.int .u8 (m.k:Int))) (fun _=>true) (by kernel_rfl) e5 (fun e8 => ?_);have q:=b7.out;have r:aj ai W1 o1 W1.drew o1:=(aj.refl ai W1 o1).drew
  replace q:W1.drew.heap[w.heap.size]?=_:=q
  obtain ⟨V,hV⟩:=az (W1.drew);rw [hV] at e8 q r ⊢;clear hV;refine tn 1 (h:=tn 2 (h:=?_));refine Gm (i:=0) (j:=7) rfl rfl (by kernel_rfl) ?_ ?_
  ·go_wp2_with fail;refine (RG V o1).mono ?_;rintro e O ⟨x2,p2,rfl,e0,kb,rfl,a8⟩;have q:=(e0.block _ (au q) id).trans q;have r:=r.trans e0;have d6:=ag (i:=0) q;clear e0;go_wp2_with fail;refine ⟨fun _=>d6, ?_⟩;refine Gm (i:=3) (j:=7) rfl rfl (by kernel_rfl) ?_ ?_
   ·have b1:=ae (IB a8 m.k);rw [b9.out] at b1;refine DN b1.out ?_;refine wpList_nil ?_;simp only [Act.put,GL,DL,lss];refine ⟨fun _=>d6, ?_⟩;refine tn 4 (h:=tn 5 (h:=tn 6 (h:=tO 7 (h:=?_))));have b2:=ae (AB (P:=prog) O 271 _ Zo);have J:=(aj.refl ai O p2).alloc (.cells #[.bool false, .bool false, .bool false, .bool false] 271) (0,0);have U:(O.alloc (.cells #[.bool false, .bool false, .bool false, .bool false] 271)).heap[O.heap.size]?=some (.cells [.bool false, .bool false, .bool false, .bool false].toArray 271 (0,0)):=heap_alloc_new O _;have b3:=r.size;refine AU b2.out ?_;refine wpList_nil ?_;obtain ⟨v3,b5⟩:=az (O.alloc (.cells #[.bool false, .bool false, .bool false, .bool false] 271));obtain ⟨p3,b6⟩:=az (Ak p2 O.heap.size (0,0));rw [b5] at U J ⊢;rw [b6] at J;obtain ⟨g,hg⟩:=az (O.heap.size);rw [hg] at U b3 ⊢;have a8:=(J.block _ (au a8) id).trans a8;have q:=(J.block _ (au q) id).trans q;have r:=r.trans J;have b8:=ag (i:=0) q;clear b2 b5 b6 hg J;simp only [Act.put,GL,DL,lss];refine ⟨fun _=>b8, ?_⟩;refine tO 8 (h:=?_);obtain ⟨c6,c7⟩:=Ba (P:=prog) (ty:=271) (vs:=[Value.bool F, .bool u, .bool E, .bool h4]) U rfl (by kernel_rfl) rfl;have c8:w.heap.size ≠ g:=by have:=au b7.out;omega
    have q:=(ah _ [Value.bool F, .bool u, .bool E, .bool h4] 0 v3 _ c8).trans q;have r:=r.setCells g 0 [Value.bool F, .bool u, .bool E, .bool h4] (.inr b3);have c9:=ag (i:=0) q;refine AC c6 ?_;refine wpList_nil ?_;simp only [Act.put];refine ⟨fun _=>c9, ?_⟩;refine tn 9 (h:=tD (h:=?_));exact ⟨rfl,g,p3, .map (some kb), .pointer (some ⟨w.heap.size,0,none⟩), .int .u8 (m.k:Int), .tuple #[.agg #[.bool F, .bool u, .bool E, .bool h4], .bool (kindOk m.k)], .tuple #[.agg #[.bool F, .bool u, .bool E, .bool h4], .bool (kindOk m.k)], .agg #[.bool F, .bool u, .bool E, .bool h4], .bool (kindOk m.k),by simp only [Act.puts,Act.put,GL,DL,lss],c7,q,r⟩
   ·have b2:=ae (AB (P:=prog) O 271 _ Zo);have J:=(aj.refl ai O p2).alloc (.cells #[.bool false, .bool false, .bool false, .bool false] 271) (0,0);have U:(O.alloc (.cells #[.bool false, .bool false, .bool false, .bool false] 271)).heap[O.heap.size]?=some (.cells [.bool false, .bool false, .bool false, .bool false].toArray 271 (0,0)):=heap_alloc_new O _;have b3:=r.size;refine AU b2.out ?_;refine wpList_nil ?_;obtain ⟨v3,b5⟩:=az (O.alloc (.cells #[.bool false, .bool false, .bool false, .bool false] 271));obtain ⟨p3,b6⟩:=az (Ak p2 O.heap.size (0,0));rw [b5] at U J ⊢;rw [b6] at J;obtain ⟨g,hg⟩:=az (O.heap.size);rw [hg] at U b3 ⊢;have a8:=(J.block _ (au a8) id).trans a8;have q:=(J.block _ (au q) id).trans q;have r:=r.trans J;have b8:=ag (i:=0) q;clear b2 b5 b6 hg J;simp only [Act.put,GL,DL,lss];refine ⟨fun _=>b8, ?_⟩;refine tO 3 (h:=?_);have b1:=ae (IB a8 m.k);rw [b9.out] at b1;refine DN b1.out ?_;refine wpList_nil ?_;simp only [Act.put,GL,DL,lss];refine ⟨fun _=>b8, ?_⟩;refine tn 4 (h:=tn 5 (h:=tn 6 (h:=tO 8 (h:=?_))));obtain ⟨c6,c7⟩:=Ba (P:=prog) (ty:=271) (vs:=[Value.bool F, .bool u, .bool E, .bool h4]) U rfl (by kernel_rfl) rfl;have c8:w.heap.size ≠ g:=by have:=au b7.out;omega
    have q:=(ah _ [Value.bool F, .bool u, .bool E, .bool h4] 0 v3 _ c8).trans q;have r:=r.setCells g 0 [Value.bool F, .bool u, .bool E, .bool h4] (.inr b3);have c9:=ag (i:=0) q;refine AC c6 ?_;refine wpList_nil ?_;simp only [Act.put];refine ⟨fun _=>c9, ?_⟩;refine tn 9 (h:=tD (h:=?_));exact ⟨rfl,g,p3, .map (some kb), .pointer (some ⟨w.heap.size,0,none⟩), .int .u8 (m.k:Int), .tuple #[.agg #[.bool F, .bool u, .bool E, .bool h4], .bool (kindOk m.k)], .tuple #[.agg #[.bool F, .bool u, .bool E, .bool h4], .bool (kindOk m.k)], .agg #[.bool F, .bool u, .bool E, .bool h4], .bool (kindOk m.k),by simp only [Act.puts,Act.put,GL,DL,lss],c7,q,r⟩
  ·have b2:=ae (AB (P:=prog) V 271 _ Zo);have J:=(aj.refl ai V o1).alloc (.cells #[.bool false, .bool false, .bool false, .bool false] 271) (0,0);have U:(V.alloc (.cells #[.bool false, .bool false, .bool false, .bool false] 271)).heap[V.heap.size]?=some (.cells [.bool false, .bool false, .bool false, .bool false].toArray 271 (0,0)):=heap_alloc_new V _;have b3:=r.size;refine AU b2.out ?_;refine wpList_nil ?_;obtain ⟨O,b5⟩:=az (V.alloc (.cells #[.bool false, .bool false, .bool false, .bool false] 271));obtain ⟨p2,b6⟩:=az (Ak o1 V.heap.size (0,0));rw [b5] at U J ⊢;rw [b6] at J;obtain ⟨g,hg⟩:=az (V.heap.size);rw [hg] at U b3 ⊢;have q:=(J.block _ (au q) id).trans q;have r:=r.trans J;have d6:=ag (i:=0) q;clear b2 b5 b6 hg J;simp only [Act.put,GL,DL,lss];refine ⟨fun _=>d6, ?_⟩;refine tO 0 (h:=?_);go_wp2_with fail;refine (RG O p2).mono ?_;rintro e v3 ⟨x3,p3,rfl,d7,kb,rfl,a8⟩;have U:=(d7.block _ (au U) id).trans U;have q:=(d7.block _ (au q) id).trans q;have r:=r.trans d7;have b8:=ag (i:=0) q;clear d7;go_wp2_with fail;refine ⟨fun _=>b8, ?_⟩;refine tO 3 (h:=?_);have b1:=ae (IB a8 m.k);rw [b9.out] at b1;refine DN b1.out ?_;refine wpList_nil ?_;simp only [Act.put,GL,DL,lss];refine ⟨fun _=>b8, ?_⟩;refine tn 4 (h:=tn 5 (h:=tn 6 (h:=tO 8 (h:=?_))));obtain ⟨c6,c7⟩:=Ba (P:=prog) (ty:=271) (vs:=[Value.bool F, .bool u, .bool E, .bool h4]) U rfl (by kernel_rfl) rfl;have c8:w.heap.size ≠ g:=by have:=au b7.out;omega
   have q:=(ah _ [Value.bool F, .bool u, .bool E, .bool h4] 0 v3 _ c8).trans q;have r:=r.setCells g 0 [Value.bool F, .bool u, .bool E, .bool h4] (.inr b3);have c9:=ag (i:=0) q;refine AC c6 ?_;refine wpList_nil ?_;simp only [Act.put];refine ⟨fun _=>c9, ?_⟩;refine tn 9 (h:=tD (h:=?_));exact ⟨rfl,g,p3, .map (some kb), .pointer (some ⟨w.heap.size,0,none⟩), .int .u8 (m.k:Int), .tuple #[.agg #[.bool F, .bool u, .bool E, .bool h4], .bool (kindOk m.k)], .tuple #[.agg #[.bool F, .bool u, .bool E, .bool h4], .bool (kindOk m.k)], .agg #[.bool F, .bool u, .bool E, .bool h4], .bool (kindOk m.k),by simp only [Act.puts,Act.put,GL,DL,lss],c7,q,r⟩
 rintro a4 W4 ⟨g,o4,y1,y2,y3,y4,y5,y6,y7,rfl,d4,b4,e3⟩;simp only [Act.puts,Act.put,GL,DL,lss];clear b9;have e6:=e4.out.step e3 id;have a2:=ae (c0.out.trans e3);have a3:=ae (Jt e6 e7.out 207 #[] (badL Ho) Tryz.call207 (fun w1 o1 st x bv _ e9=>aJ x bv e9));have c1:=ag (i:=1) b4;have c2:=ag (i:=2) b4;have c3:=ag (i:=3) b4;have c4:=ag (i:=4) b4;have c5:=ag (i:=5) b4;have d0:=ag (i:=0) d4;have d1:=ag (i:=1) d4;have d2:=ag (i:=2) d4;have d3:=ag (i:=3) d4;simp only [ay,ax] at c1 c2 c3 c4 c5 d0 d1 d2 d3;have f4:=m.c.isLt;have f5:=m.e.isLt;clear b4 d4 e3 b7 e4 c0 e5 uM e6;generalize m.e.toNat=e at *;generalize m.c.toNat=c at *
 cases a5:kindOk m.k with
 | false =>
  go_wp2_with (first
   | (go_at_call 208;refine (Du _ _ _).mono ?_;rintro e' w' ⟨rfl,rfl⟩)
   | (go_at_call 129;refine a3.out.mono ?_;rintro e' w' ⟨v',o',rfl,W,rfl⟩))
  go_ret;exact ⟨_,o4,rfl,a2.out,by rw [Y.out];simp [a5]⟩
 | true =>
  by_cases a6:1<=e
  ·have f0:(1:Int)<=(e:Int):=om
   by_cases a7:e<=281474976710656
   ·have f1:(e:Int)<=281474976710656:=om
    by_cases a9:c=0
    ·have f2:((c:Int) == 0)=true:=by simp [a9]
     have d8:=ae a9;clear a9
     cases w0:Dz m.at' u with
     | false =>
      go_wp2_with (first
       | (go_at_call 208;refine (Du _ _ _).mono ?_;rintro e' w' ⟨rfl,rfl⟩)
       | (go_at_call 129;refine a3.out.mono ?_;rintro e' w' ⟨v',o',rfl,W,rfl⟩))
      go_ret;exact ⟨_,o4,rfl,a2.out,by rw [Y.out];simp [a5,a6,a7,d8.out,w0]⟩
     | true =>
      cases w1:Dz m.com E with
      | false =>
       go_wp2_with (first
        | (go_at_call 208;refine (Du _ _ _).mono ?_;rintro e' w' ⟨rfl,rfl⟩)
        | (go_at_call 129;refine a3.out.mono ?_;rintro e' w' ⟨v',o',rfl,W,rfl⟩))
       go_ret;exact ⟨_,o4,rfl,a2.out,by rw [Y.out];simp [a5,a6,a7,d8.out,w0,w1]⟩
      | true =>
       cases w2:Dz m.ls.length h4 with
       | false =>
        go_wp2_with (first
         | (go_at_call 208;refine (Du _ _ _).mono ?_;rintro e' w' ⟨rfl,rfl⟩)
         | (go_at_call 129;refine a3.out.mono ?_;rintro e' w' ⟨v',o',rfl,W,rfl⟩))
        go_ret;exact ⟨_,o4,rfl,a2.out,by rw [Y.out];simp [a5,a6,a7,d8.out,w0,w1,w2]⟩
       | true =>
        go_wp2_with (first
         | (go_at_call 208;refine (Du _ _ _).mono ?_;rintro e' w' ⟨rfl,rfl⟩)
         | (go_at_call 129;refine a3.out.mono ?_;rintro e' w' ⟨v',o',rfl,W,rfl⟩))
        go_ret;exact ⟨_,_,rfl,a2.out.trans W,by rw [Y.out];simp [a5,a6,a7,d8.out,w0,w1,w2]⟩
    ·have f2:((c:Int) == 0)=false:=by simp [a9]
     cases F with
     | false =>
      go_wp2_with (first
       | (go_at_call 208;refine (Du _ _ _).mono ?_;rintro e' w' ⟨rfl,rfl⟩)
       | (go_at_call 129;refine a3.out.mono ?_;rintro e' w' ⟨v',o',rfl,W,rfl⟩))
      go_ret;exact ⟨_,o4,rfl,a2.out,by rw [Y.out];simp [a5,a6,a7,a9]⟩
     | true =>
      by_cases d5:c<=e
      ·have f3:(c:Int)<=(e:Int):=om
       cases w0:Dz m.at' u with
       | false =>
        go_wp2_with (first
         | (go_at_call 208;refine (Du _ _ _).mono ?_;rintro e' w' ⟨rfl,rfl⟩)
         | (go_at_call 129;refine a3.out.mono ?_;rintro e' w' ⟨v',o',rfl,W,rfl⟩))
        go_ret;exact ⟨_,o4,rfl,a2.out,by rw [Y.out];simp [a5,a6,a7,a9,d5,w0]⟩
       | true =>
        cases w1:Dz m.com E with
        | false =>
         go_wp2_with (first
          | (go_at_call 208;refine (Du _ _ _).mono ?_;rintro e' w' ⟨rfl,rfl⟩)
          | (go_at_call 129;refine a3.out.mono ?_;rintro e' w' ⟨v',o',rfl,W,rfl⟩))
         go_ret;exact ⟨_,o4,rfl,a2.out,by rw [Y.out];simp [a5,a6,a7,a9,d5,w0,w1]⟩
        | true =>
         cases w2:Dz m.ls.length h4 with
         | false =>
          go_wp2_with (first
           | (go_at_call 208;refine (Du _ _ _).mono ?_;rintro e' w' ⟨rfl,rfl⟩)
           | (go_at_call 129;refine a3.out.mono ?_;rintro e' w' ⟨v',o',rfl,W,rfl⟩))
          go_ret;exact ⟨_,o4,rfl,a2.out,by rw [Y.out];simp [a5,a6,a7,a9,d5,w0,w1,w2]⟩
         | true =>
          go_wp2_with (first
           | (go_at_call 208;refine (Du _ _ _).mono ?_;rintro e' w' ⟨rfl,rfl⟩)
           | (go_at_call 129;refine a3.out.mono ?_;rintro e' w' ⟨v',o',rfl,W,rfl⟩))
          go_ret;exact ⟨_,_,rfl,a2.out.trans W,by rw [Y.out];simp [a5,a6,a7,a9,d5,w0,w1,w2]⟩
      ·have f3:¬ (c:Int)<=(e:Int):=om
       go_wp2_with (first
        | (go_at_call 208;refine (Du _ _ _).mono ?_;rintro e' w' ⟨rfl,rfl⟩)
        | (go_at_call 129;refine a3.out.mono ?_;rintro e' w' ⟨v',o',rfl,W,rfl⟩))
       go_ret;exact ⟨_,o4,rfl,a2.out,by rw [Y.out];simp [a5,a6,a7,a9,d5]⟩
   ·have f1:¬ (e:Int)<=281474976710656:=om
    go_wp2_with (first
     | (go_at_call 208;refine (Du _ _ _).mono ?_;rintro e' w' ⟨rfl,rfl⟩)
     | (go_at_call 129;refine a3.out.mono ?_;rintro e' w' ⟨v',o',rfl,W,rfl⟩))
    go_ret;exact ⟨_,o4,rfl,a2.out,by rw [Y.out];simp [a5,a6,a7]⟩
  ·have f0:¬ (1:Int)<=(e:Int):=om
   go_wp2_with (first
    | (go_at_call 208;refine (Du _ _ _).mono ?_;rintro e' w' ⟨rfl,rfl⟩)
    | (go_at_call 129;refine a3.out.mono ?_;rintro e' w' ⟨v',o',rfl,W,rfl⟩))
   go_ret;exact ⟨_,o4,rfl,a2.out,by rw [Y.out];simp [a5,a6]⟩
def Yd (l:List (BitVec 64)):List Value:=l.map fun x => .int .u64 (x.toNat:Int)
theorem fU (w:World) (a b c d e:Int):(Instr.buildSlice 297 5 #[(0, .int .u64 a),(1, .int .u64 b),(2, .int .u64 c),(3, .int .u64 d),(4, .int .u64 e)]).run prog w = .ok (.slice (some ⟨w.heap.size,0,none⟩) 5 5) (w.alloc (.cells #[.int .u64 a, .int .u64 b, .int .u64 c, .int .u64 d, .int .u64 e] 34)):=by kernel_rfl
theorem NK {m:BG}(h:m.May):(encs m.ls).length<=1060000:=by
 rw [Ej];have r:=h.n1;have u:=Ze (ls:=m.ls) (fun x q=>(h.hl x q).2.2);omega
theorem Ip {w:World}{b off:Nat}{cs:List Value}(q:w.rangeAt b off cs) (hl:cs.length=6):(Instr.loadAt 150 (.pointer (some ⟨b,off,none⟩))).run prog w = .ok (.agg cs.toArray) w:=by
 simp only [Instr.loadAt,Instr.sureAddr,Sem.run_bind,Sem.run_pure,Result.andThen_ok]
 match cs,hl with
 | [a,b',c,d,e,g],_=>exact run_loadVar_mid w b off 150 [a,b',c,d,e,g] _ q underlying150 rfl (by kernel_rfl)
theorem Ue {w:World}{o:Own}{base:Nat}(m:BG) (hm:m.May) {lv:Value}(hl:Lines w o base lv m.ls) :
  Calls prog 191 #[Ea m lv] w (XL ai w o fun v w' o'=>∃ bv,v = .tuple #[bv, .int .i64 0]/\Ew w w' o' bv m.put):=by
 have b8:=NK hm;have hn1:=hm.n1;obtain ⟨la,lc,rfl⟩:=hl.form;obtain ⟨n,hn⟩:=az (m.ls.length);have hmB:=XJ hm;have e8:(0:Int)<=(m.at':Int)/\(m.at':Int)<=256:=by have:=hm.a1;omega
 have ho1:(0:Int)<=(m.com:Int)/\(m.com:Int)<=256:=by have:=hm.o1;omega
 have hnI:(0:Int)<=(n:Int)/\(n:Int)<=256:=om
 have e9:(0:Int)<=(m.k:Int)/\(m.k:Int)<=6:=by have:=hm.k6;omega
 have hk8:(UInt8.ofNat m.k).toNat=m.k:=by rw [UInt8.toNat_ofNat',Nat.mod_eq_of_lt (by have:=hm.k6;omega)]
 have ea:((BitVec.ofNat 64 m.at').toNat:Int)=(m.at':Int):=by rw [BitVec.toNat_ofNat,Nat.mod_eq_of_lt (by have:=hm.a1;omega)]
 have eo:((BitVec.ofNat 64 m.com).toNat:Int)=(m.com:Int):=by rw [BitVec.toNat_ofNat,Nat.mod_eq_of_lt (by have:=hm.o1;omega)]
 have en:((BitVec.ofNat 64 n).toNat:Int)=(n:Int):=by rw [BitVec.toNat_ofNat,Nat.mod_eq_of_lt om]
 rw [hn] at hl ⊢;have a2:=(aj.refl ai w o).alloc (.cells [.int .u8 (m.k:Int), .int .u64 (m.e.toNat:Int), .int .u64 (m.c.toNat:Int), .int .i64 (m.at':Int), .int .i64 (m.com:Int), .slice la n lc].toArray 150) (0,0);have hb1:=heap_alloc_new w (.cells [.int .u8 (m.k:Int), .int .u64 (m.e.toNat:Int), .int .u64 (m.c.toNat:Int), .int .i64 (m.at':Int), .int .i64 (m.com:Int), .slice la n lc].toArray 150);obtain ⟨W1,U⟩:=az (w.alloc (.cells [.int .u8 (m.k:Int), .int .u64 (m.e.toNat:Int), .int .u64 (m.c.toNat:Int), .int .i64 (m.at':Int), .int .i64 (m.com:Int), .slice la n lc].toArray 150));rw [U] at a2 hb1;generalize Ak o w.heap.size (0,0)=o1 at *;have hl1:=hl.step a2 id;have b9:=ae (Ip (AV hb1) rfl);have b2:=Uf m (lv := .slice la n lc) hl1 om;rw [hmB] at b2;have b3:=ae b2;have uM:=ae U;have e0:=ae (au hb1);have xZ:=ae hb1;have qJ:=ae a2;have c6:=ae hl1;have b4:=ae hn;have rD:=ae b8;have Bfl:=ae hn1;have e3:=ae hk8;have b5:=ae (aI ea (aI eo en));clear hl a2 hb1 U hl1 hmB hm b8 hk8 ea eo en b2 hn hn1;unfold Ea at b3 ⊢;go_enter func191,ntmps191
 go_wp2_with ((with_reducible apply Bo);rw [uM.out];exact b9.out;simp only [Act.put,GL,DL,lss])
 refine b3.out.mono ?_;rintro e W2 ⟨v2,o2,rfl,hs2,rfl⟩;have b6:=(hs2.block _ e0.out id).trans xZ.out;have c7:=ae (c6.out.step hs2 id);have b7:=ae (qJ.out.trans hs2);have c0:=ag (i:=0) b6;simp only [ay] at c0;have Arb:=ae b6;have F:=IG (Bytes.nil W2 o2) (by simp) (UInt8.ofNat m.k);rw [e3.out] at F;have a3:=ae F;clear b3 F hs2 b6 c6 qJ xZ b9 uM;go_wp2_with fail;refine a3.out.mono ?_;rintro e W3 ⟨v3,o3,rfl,O,zO⟩;have hb3:=(O.block _ (au Arb.out) id).trans Arb.out;have hl3:=ae (c7.out.step O id);have st3:=b7.out.trans O;have c1:=ag (i:=1) hb3;have c2:=ag (i:=2) hb3;have c3:=ag (i:=3) hb3;have c4:=ag (i:=4) hb3;have c5:=ag (i:=5) hb3;simp only [ay,ax] at c1 c2 c3 c4 c5;obtain ⟨E,a4⟩:=az ([m.e,m.c,BitVec.ofNat 64 m.at',BitVec.ofNat 64 m.com,BitVec.ofNat 64 n]);have hbs:=fU W3 (m.e.toNat:Int) (m.c.toNat:Int) (m.at':Int) (m.com:Int) (n:Int);have hu : #[Value.int .u64 (m.e.toNat:Int), .int .u64 (m.c.toNat:Int), .int .u64 (m.at':Int), .int .u64 (m.com:Int), .int .u64 (n:Int)]=(Yd E).toArray:=by
  rw [<-a4, <-b5.out.1, <-b5.out.2.1, <-b5.out.2.2];rfl
 rw [hu] at hbs;have hvl:E.length=5:=by rw [<-a4];rfl
 have hsb:=(aj.refl ai W3 o3).alloc (.cells (Yd E).toArray 34) (0,0);have hgb:(W3.alloc (.cells (Yd E).toArray 34)).heap[W3.heap.size]?=some (.cells (Yd E).toArray 34 (0,0)):=heap_alloc_new W3 _;have W:=((zO.low (b7.out.size)).step hsb id);have a5:=st3.trans hsb;have a6:=ae ((hsb.block _ (au hb3) id).trans hb3);have a7:=ae (hl3.out.step hsb id);obtain ⟨W4,hW4⟩:=az (W3.alloc (.cells (Yd E).toArray 34));rw [hW4] at hbs hgb W a5 a6 a7;obtain ⟨gb,c8⟩:=az (W3.heap.size);rw [c8] at hbs hgb W a5 a7;generalize Ak o3 gb (0,0)=o4 at *;have c9:=ae hbs;have AuZ:=ae hgb;have Ald:=ae a4;have e4:=ae hvl;have W:Ew w W4 o4 v3 (UInt8.ofNat m.k :: (E.take 0).flatMap (be 8)):=W;clear hsb hbs hgb hu O hb3 hW4 c8 st3 zO a4 hvl Arb c7 hl3 a3 c0 b7
 go_wp2_with ((with_reducible apply BO #[(0, .int .u64 (m.e.toNat:Int)),(1, .int .u64 (m.c.toNat:Int)),(2, .int .u64 (m.at':Int)),(3, .int .u64 (m.com:Int)),(4, .int .u64 (n:Int))] rfl);exact c9.out;simp only [Act.put,GL,DL,lss])
 clear c9 c1 c2 c3 c4 c5
 go_loopw [4,31] (fun bv i wr=>∃ (k:Nat) (oj:Own),k<=5/\i = .int .i64 k/\aj ai W4 o4 wr oj/\Ew w wr oj bv (UInt8.ofNat m.k :: (E.take k).flatMap (be 8))) (fun _ i _=>5 - (intOf i).toNat)
 case atStart=>exact ⟨0,o4,om,rfl,aj.refl _ _ _,W⟩
 case round =>
  clear W;obtain ⟨k,oj,hk,rfl,q,u⟩:=hrel;have Abe:=ae q
  by_cases a8:k<5
  ·obtain ⟨x,hx⟩:∃ x,E[k]?=some x:=⟨_,List.getElem?_eq_getElem (by rw [e4.out];exact a8)⟩;have d1:=(q.block _ (au AuZ.out) id).trans AuZ.out;have cg:wr.cell? ⟨gb,k,none⟩=some (.int .u64 (x.toNat:Int)):=by
    rw [ag d1];simp [Yd,hx]
   have Y:=ae (show (E.take (k+1)).flatMap (be 8)=(E.take k).flatMap (be 8)++be 8 x by rw [List.take_add_one,hx];simp);have hlk:((E.take k).flatMap (be 8)).length<=40:=by
    have:∀ l:List (BitVec 64),(l.flatMap (be 8)).length=8*l.length:=fun l=>by
     induction l with
     | nil=>rfl
     | cons a r ih=>simp only [List.flatMap_cons,List.length_append,Az,ih,List.length_cons];omega
    rw [this,List.length_take];omega
   have hwu:=ae (Ef u.bytes (by simp only [List.length_cons];omega) x);have e5:=ae q.size;clear hx d1 hlk q u;go_wp2_with fail;refine hwu.out.mono ?_;rintro e W5 ⟨v5,o5,rfl,hs5,AhT⟩;have hF:=ae (aI (Abe.out.trans hs5) ((AhT.low (Nat.le_trans a5.size e5.out)).congr (l':=UInt8.ofNat m.k :: (E.take (k+1)).flatMap (be 8)) (by rw [Y.out];rfl)));clear hs5 AhT hwu;go_wp2_with fail;go_roundw
   case rel=>exact ⟨k+1,o5,om,by go_num,hF.out.1,hF.out.2⟩
   case measure=>simp [intOf];omega
  ·obtain rfl:k=5:=om
   have hb5:=(q.block _ (au a6.out) id).trans a6.out;have c5:=ag (i:=5) hb5;simp only [ay,ax] at c5;obtain ⟨P,hP⟩:=az (UInt8.ofNat m.k :: (E.take 5).flatMap (be 8));rw [hP] at u;have hPl:P.length<=41:=by rw [<-hP, <-Ald.out];simp [Az]
   have d3:m.put=P++encs m.ls:=by
    rw [<-hP, <-Ald.out, <-b4.out];simp [BG.put,GR]
   have hl5:=ae (a7.out.step q id);have st5:=ae (a5.trans q);have vK:=ae hPl;have Aac:=ae d3;have pR:=ae (show m.ls.take n=m.ls from List.take_of_length_le (by rw [b4.out];exact Nat.le_refl _));have h5I:¬ ((5:Nat):Int)<5:=om
   clear q Abe hb5 hP hPl d3 a6 a7 a8 hk;go_wp2_with fail;obtain ⟨w5,d4⟩:=az (wr);rw [d4] at u hl5 st5 c5 ⊢;clear d4
   go_loopw [4,42] (fun bv i wr=>∃ (k:Nat) (oz:Own),k<=n/\i = .int .i64 k/\aj ai w5 oj wr oz/\Ew w wr oz bv (P++encs (m.ls.take k))) (fun _ i _=>n - (intOf i).toNat)
   case atStart=>exact ⟨0,oj,om,rfl,aj.refl _ _ _,u.congr (by simp [encs])⟩
   case round =>
    clear u;obtain ⟨k,oz,hk,rfl,q,u⟩:=hrel
    by_cases a8:k<n
    ·obtain ⟨x,hx⟩:∃ x,m.ls[k]?=some x:=⟨_,List.getElem?_eq_getElem (by rw [b4.out];exact a8)⟩;obtain ⟨b,off,J,hab,hrg,F, -, -, -⟩:=(hl5.out.step q id).at hx;subst hab;have hld:=ae (TG hrg);have d5:=ae (AB (P:=prog) wr 41 _ eY);have hsw:=Be wr #[.int .u64 0, .slice none 0 0] 41 [.int .u64 (x.e.toNat:Int),J] rfl;have d6:[Value.int .u64 (x.e.toNat:Int),J].all (·.oneCell')=true:=by obtain ⟨xa,xc,rfl⟩:=Aq F;rfl
     obtain ⟨hso, -⟩:=Ba (P:=prog) (ty:=41) (vs:=[.int .u64 (x.e.toNat:Int),J]) (heap_alloc_new wr (.cells [.int .u64 0, .slice none 0 0].toArray 41)) rfl (by kernel_rfl) d6;rw [hsw] at hso;have Aaz:=ae hso;have a9:=(aj.refl ai wr oz).alloc (.cells [Value.int .u64 (x.e.toNat:Int),J].toArray 41) (0,0);have hab:(wr.alloc (.cells [Value.int .u64 (x.e.toNat:Int),J].toArray 41)).heap[wr.heap.size]?=some (.cells [Value.int .u64 (x.e.toNat:Int),J].toArray 41 (0,0)):=heap_alloc_new wr _;have F:=F.step a9 id;have u:=u.step a9 id;have q:=q.trans a9;have e6:=q.size;obtain ⟨ab,xM⟩:=az (wr.heap.size);obtain ⟨W1,U⟩:=az (wr.alloc (.cells [Value.int .u64 (x.e.toNat:Int),J].toArray 41));rw [U] at Aaz hab F u q e6;rw [xM] at hab F u q;generalize Ak oz ab (0,0)=O1 at *;have Y:encs (m.ls.take (k+1))=encs (m.ls.take k)++x.enc:=by rw [List.take_add_one,hx];exact KU _ _
     have d7:=Hf m.ls (k+1);rw [Y,List.length_append,Jj] at d7;have hle2:P.length+(encs (m.ls.take k)).length+12+x.b.length<=1100000:=by have:=vK.out;have:=rD.out;omega
     obtain ⟨pre,b1⟩:=az (P++encs (m.ls.take k));have yY:pre.length=P.length+(encs (m.ls.take k)).length:=by rw [<-b1,List.length_append]
     rw [b1] at u;have a3:=ae F;have d8:=ae xM;have Ave:=ae (show P++encs (m.ls.take (k+1))=pre++x.enc by rw [Y, <-b1,List.append_assoc]);have AlZ:=ae (show pre.length+12+x.b.length<=1100000 by omega);clear hsw hso hrg a9 xM U Y d7 hle2 b1 yY d6 F hx c5;have c0:W1.cell? ⟨ab,0,none⟩=some (.int .u64 (x.e.toNat:Int)):=ag hab 0;have c1:W1.cell? ⟨ab,1,none⟩=some J:=ag hab 1
     go_wp2_with (first
      | ((with_reducible apply Bo);exact hld.out;simp only [Act.put,GL,DL,lss])
      | ((with_reducible apply AU);exact d5.out;simp only [Act.put,GL,DL,lss])
      | ((with_reducible apply AC);exact Aaz.out;simp only [Act.put]))
     rw [d8.out];clear hld d5 Aaz d8;refine Aa (fun w'=>w'.cell? ⟨ab,0,none⟩=some (.int .u64 (x.e.toNat:Int))/\w'.cell? ⟨ab,1,none⟩=some J) (fun _=>true) (by kernel_rfl) ⟨c0,c1⟩ (fun e7 => ?_);refine tq 0 (h:=tq 1 (h:=tq 2 (h:=tq 4 (h:=tq 5 (h:=tO 3 (h:=?_))))));go_wp2_with fail;have hdr:=(aj.refl ai W1 O1).drew;refine (Ef (u.step hdr id).bytes (by have:=AlZ.out;omega) x.e).mono ?_;rintro e w2 ⟨v2,o2,rfl,hs2,zQ⟩;have hs2:=hdr.trans hs2;have uK:=(hs2.block ab (au hab) id).trans hab;have d9:=aI (ag (i:=0) uK) (ag (i:=1) uK);have AbO:=ae (a3.out.step hs2 id);have q:=q.trans hs2;clear hs2 hdr e7;go_wp2_with fail;refine ⟨fun _=>d9, ?_⟩;refine tO 6 (h:=?_);go_wp2_with fail;refine (QZ zQ.bytes AbO.out (by rw [List.length_append,Az];have:=AlZ.out;omega) (by have:=AlZ.out;omega)).mono ?_;rintro e w3 ⟨v3,o3,rfl,O,zO⟩;have xN:=(O.block ab (au uK) id).trans uK;have hS3:=aI (ag (i:=0) xN) (ag (i:=1) xN);have Azi:=(zO.low (Nat.le_trans st5.out.size q.size)).congr (l':=P++encs (m.ls.take (k+1))) (by rw [Ave.out];simp [Ar.enc]);have q:=q.trans O;clear O zO zQ d9;go_wp2_with fail;refine ⟨fun _=>hS3, ?_⟩;refine tq 7 (h:=tD (h:=?_));clear hS3 hab uK xN c0 c1 u;go_wp2_with fail;go_roundw
     case rel=>exact ⟨k+1,o3,om,by go_num,q,Azi⟩
     case measure=>simp [intOf];omega
    ·obtain rfl:n=k:=om
     rw [pR.out] at u;have u:=u.congr Aac.out.symm;go_wp2_with fail
     go_ret2
     exact ⟨_,oz,rfl,st5.out.trans q,_,rfl,u⟩
def Jn (l:List UInt8):Option BG:=if (QN l).2.done=0 then if TE (QN l).1=true then some (QN l).1 else none else none
theorem ET {m:BG}(h:m.May):Jn m.put=some m:=by
 unfold Jn;rw [aH h];rw [if_pos (by rfl),if_pos (XJ h)]
theorem VH {l:List UInt8}{m:BG}(h:Jn l=some m):m.May:=by
 unfold Jn at h;split at h
 ·split at h
  ·rename_i h2;cases h;exact dK h2
  ·cases h
 ·cases h
def iL (base:Nat) (g:Option BG) (r:Value) (w':World) (o':Own):Prop:=
 (∀ m,g=some m->∃ lv,r = .tuple #[Ea m lv, .int .i64 0]/\Lines w' o' base lv m.ls)/\(g=none->r = .tuple #[Ea ⟨0,0,0,0,0,[]⟩ (.slice none 0 0), .int .i64 2])
theorem Oa:((prog.info? 150).bind (·.zero)).map (·.cells)=some #[.int .u8 0, .int .u64 0, .int .u64 0, .int .i64 0, .int .i64 0, .slice none 0 0]:=by kernel_rfl
theorem FT:(prog.info? 150).map (·.size)=some 6:=by kernel_rfl
def DI:List Value:=[.int .u8 0, .int .u64 0, .int .u64 0, .int .i64 0, .int .i64 0, .slice none 0 0]
def QY (w:World) (o:Own) (Y b:Nat) (m:BG) (lv:Value):Prop:=w.heap[b]?=some (.cells (Bf m lv).toArray 150 (0,0))/\o b=(Y,0)
theorem QY.step {T:Nat->Prop}{w w':World}{o o':Own}{Y b:Nat}{m:BG}{lv:Value}(h:QY w o Y b m lv) (s:aj T w o w' o') (q:¬ T Y):QY w' o' Y b m lv:=by
 have hl:=au h.1;exact ⟨by rw [s.block b hl (by rw [h.2];exact q)];exact h.1,by rw [s.own b hl];exact h.2⟩
theorem QY.c5 {w:World}{o:Own}{Y b:Nat}{m:BG}{lv:Value}(h:QY w o Y b m lv):w.cell? ⟨b,5,none⟩=some lv:=ag h.1 5
theorem Gt {w:World}{b:Nat}{m:BG}{lv:Value}{E:TypeId}{fr:Nat × Nat}(h:w.heap[b]?=some (.cells (Bf m lv).toArray E fr)) :
  w.cell? ⟨b,0,none⟩=some (.int .u8 (m.k:Int))/\w.cell? ⟨b,1,none⟩=some (.int .u64 (m.e.toNat:Int))/\w.cell? ⟨b,2,none⟩=some (.int .u64 (m.c.toNat:Int))/\w.cell? ⟨b,3,none⟩=some (.int .i64 (m.at':Int))/\w.cell? ⟨b,4,none⟩=some (.int .i64 (m.com:Int))/\w.cell? ⟨b,5,none⟩=some lv:=by
 have c:=ag h;exact ⟨c 0,c 1,c 2,c 3,c 4,c 5⟩
theorem QY.free {w:World}{o:Own}{Y b:Nat}{m:BG}{lv:Value}(h:QY w o Y b m lv) (i:Nat):w.frozen? ⟨b,i,none⟩=false:=Ap h.1 i
theorem Zf (w:World) (e:Int) (bv:Value):(Instr.buildSlice 35 1 #[(0, .agg #[.int .u64 e,bv])]).run prog w = .ok (.slice (some ⟨w.heap.size,0,none⟩) 1 1) (w.alloc (.cells [.int .u64 e,bv].toArray 41)):=
 Dv w 35 41 [.int .u64 0, .slice none 0 0] (.agg #[.int .u64 e,bv]) [.int .u64 e,bv] underlying35 (by kernel_rfl) rfl (by simp) (by simp) rfl
theorem Ug {w:World}{o:Own}{v:Value}{l:List UInt8}(h:Bytes w o v l) (hl:l.length<=1000000) :
  Calls prog 103 #[v] w (XL ai w o fun r w' o'=>iL w.heap.size (Jn l) r w' o'):=by
 obtain ⟨M, -,hM⟩:=EZ o 0 w.heap.size;have hg:Jn l=if (QN l).2.done=0 then if TE (QN l).1=true then some (QN l).1 else none else none:=rfl
 have l0:=oQ.EC 1 (oQ.mk l false);have hR:QN l=(⟨((oQ.mk l false).num 1).1.toNat % 256,(((oQ.mk l false).num 1).2.num 8).1,((((oQ.mk l false).num 1).2.num 8).2.num 8).1,(((((oQ.mk l false).num 1).2.num 8).2.num 8).2.count 256).1,((((((oQ.mk l false).num 1).2.num 8).2.num 8).2.count 256).2.count 256).1,((((((oQ.mk l false).num 1).2.num 8).2.num 8).2.count 256).2.count 256).2.lines.1⟩,((((((oQ.mk l false).num 1).2.num 8).2.num 8).2.count 256).2.count 256).2.lines.2):=rfl;obtain ⟨q0,h0⟩:=az ((oQ.mk l false).num 1);rw [h0] at hR l0;have l1:=oQ.EC 8 q0.2;obtain ⟨q1,h1⟩:=az (q0.2.num 8);rw [h1] at hR l1;have l2:=oQ.EC 8 q1.2;obtain ⟨q2,h2⟩:=az (q1.2.num 8);rw [h2] at hR l2;have l3:=oQ.IW 256 q2.2;obtain ⟨q3,h3⟩:=az (q2.2.count 256);rw [h3] at hR l3;have l4:=oQ.IW 256 q3.2;obtain ⟨q4,h4⟩:=az (q3.2.count 256);rw [h4] at hR l4;have l5:=oQ.IW 256 q4.2;have b7:q4.2.lines=Ce (q4.2.count 256).1 (q4.2.count 256).2:=rfl;obtain ⟨F,h5⟩:=az (q4.2.count 256);rw [h5] at b7 l5;rw [b7] at hR;obtain ⟨kb,a4⟩:=az (q0.1.toNat % 256);rw [a4] at hR;have a5:(oQ.mk l false).b.length<=1000000:=hl;have b0:q0.2.b.length<=1000000:=om
 have b1:q1.2.b.length<=1000000:=om
 have b2:q2.2.b.length<=1000000:=om
 have b3:q3.2.b.length<=1000000:=om
 have b4:q4.2.b.length<=1000000:=om
 have b5:F.2.b.length<=1000000:=om
 obtain ⟨N,hN⟩:=az (F.1);rw [hN] at hR l5;have s1:(0:Int)<=(N:Int)/\(N:Int)<=256:=om
 obtain ⟨MM,g8⟩:∃ f:List Ar->BG,∀ ls,f ls=⟨kb,q1.1,q2.1,q3.1,q4.1,ls⟩:=⟨_,fun _=>rfl⟩;have j7:QN l=(MM (Ce N F.2).1,(Ce N F.2).2):=by rw [hR,g8]
 rw [j7] at hg;have j8:=ae hg;have p8:=ae hM;have e0:=ae g8;have hB:=ae (aI a5 (aI b0 (aI b1 (aI b2 (aI b3 (aI b4 b5))))));have hE:=ae (aI h0 (aI h1 (aI h2 (aI h3 (aI h4 (aI h5 (aI hN a4)))))));clear hg hM hR b7 j7 g8 l0 l1 l2 l3 l4 l5 b0 b1 b2 b3 b4 b5 h0 h1 h2 h3 h4 h5 hN a4;have f1:aj (EN M) w o (w.alloc (.cells DI.toArray 150)) (Ak o w.heap.size (M+3,1)):=((aj.refl ai w o).LW).alloc _ _;have b0:=heap_alloc_new w (.cells DI.toArray 150);have g9:=ae (AB (P:=prog) w 150 _ Oa);have f2:=h.step ((aj.refl ai w o).alloc (.cells DI.toArray 150) (M+3,1)) id;have t0:=Au o w.heap.size (M+3,1);have z0:(w.alloc (.cells DI.toArray 150)).heap.size=w.heap.size+1:=by simp
 unfold DI at f1 b0 f2 z0;obtain ⟨W0,h6⟩:=az (w.alloc (.cells [Value.int .u8 0, .int .u64 0, .int .u64 0, .int .i64 0, .int .i64 0, .slice none 0 0].toArray 150));rw [h6] at f1 b0 f2 z0;generalize Ak o w.heap.size (M+3,1)=o0 at *;have hn:=ae (NH (M+1) f2 hl);have j9:w.alloc (.cells #[Value.int .u8 0, .int .u64 0, .int .u64 0, .int .i64 0, .int .i64 0, .slice none 0 0] 150)=W0:=h6;rw [j9] at g9;have hH:=ae (aI f1 (aI b0 t0));obtain ⟨va,vc,rfl⟩:=Aq h;clear h f2 f1 b0 t0 z0 h6 j9 a5 hl;go_enter func103,ntmps103
 go_wp2_with ((with_reducible apply AU);exact g9.out;simp only [Act.put,GL,DL,lss])
 refine hn.out.mono ?_;rintro e w1 ⟨v1,o1,rfl,f3,p,hp,rfl,k3⟩;obtain ⟨h0,h1,h2,h3,h4,h5,hN,a4⟩:=hE.out;obtain ⟨a5,b0,b1,b2,b3,b4,b5⟩:=hB.out;have k8:=hH.out.1.trans (f3.LW);have k9:=(f3.block _ (au hH.out.2.1) id).trans hH.out.2.1;have t1:=(f3.own _ (au hH.out.2.1)).trans hH.out.2.2;have nZ:M+1 ≠ 0:=om
 have aZ:∀ k,ak (M+1) k->EN M k:=fun k h=>by unfold ak at h;unfold EN;omega
 have U:¬ ak (M+1) (M+3):=fun h=>by unfold ak at h;omega
 have hc:=NI k3 nZ a5;rw [h0,a4] at hc;have WV:=ae hc;have hP:=ae (aI k8 (aI k9 t1));clear hc f3 k3 k8 k9 t1 h0 h1 h2 h3 h4 h5 hN a4 a5 b0 b1 b2 b3 b4 b5 hn g9;go_wp2_with fail;refine WV.out.mono ?_;rintro e w2 ⟨v2,o2,rfl,Y,rfl,e3⟩;obtain ⟨a3,q,tp⟩:=hP.out;have hP:=ae (aI (a3.trans (Y.mono aZ)) (aI ((Y.block _ (au q) (by rw [tp];exact U)).trans q) ((Y.own _ (au q)).trans tp)));obtain ⟨h0,h1,h2,h3,h4,h5,hN,a4⟩:=hE.out;obtain ⟨a5,b0,b1,b2,b3,b4,b5⟩:=hB.out;have WV:=ae (show _ from by have hc:=EJ e3 nZ b0;rw [h1] at hc;exact hc);clear e3;clear Y a3 q tp h0 h1 h2 h3 h4 h5 hN a4 a5 b0 b1 b2 b3 b4 b5;go_wp2_with fail;refine WV.out.mono ?_;rintro e w3 ⟨v3,o3,rfl,J,rfl,d7⟩;obtain ⟨a3,q,tp⟩:=hP.out;have hP:=ae (aI (a3.trans (J.mono aZ)) (aI ((J.block _ (au q) (by rw [tp];exact U)).trans q) ((J.own _ (au q)).trans tp)));obtain ⟨h0,h1,h2,h3,h4,h5,hN,a4⟩:=hE.out;obtain ⟨a5,b0,b1,b2,b3,b4,b5⟩:=hB.out;have WV:=ae (show _ from by have hc:=EJ d7 nZ b1;rw [h2] at hc;exact hc);clear d7;clear J a3 q tp h0 h1 h2 h3 h4 h5 hN a4 a5 b0 b1 b2 b3 b4 b5;go_wp2_with fail;refine WV.out.mono ?_;rintro e w4 ⟨v4,o4,rfl,f4,rfl,l6⟩;obtain ⟨a3,q,tp⟩:=hP.out;have hP:=ae (aI (a3.trans (f4.mono aZ)) (aI ((f4.block _ (au q) (by rw [tp];exact U)).trans q) ((f4.own _ (au q)).trans tp)));obtain ⟨h0,h1,h2,h3,h4,h5,hN,a4⟩:=hE.out;obtain ⟨a5,b0,b1,b2,b3,b4,b5⟩:=hB.out;have WV:=ae (show _ from by have hc:=Je l6 nZ b2 256 om;rw [h3] at hc;exact hc);clear l6;clear f4 a3 q tp h0 h1 h2 h3 h4 h5 hN a4 a5 b0 b1 b2 b3 b4 b5;go_wp2_with fail;refine WV.out.mono ?_;rintro e w5 ⟨v5,o5,rfl,b6,rfl,l7⟩;obtain ⟨a3,q,tp⟩:=hP.out;have hP:=ae (aI (a3.trans (b6.mono aZ)) (aI ((b6.block _ (au q) (by rw [tp];exact U)).trans q) ((b6.own _ (au q)).trans tp)));obtain ⟨h0,h1,h2,h3,h4,h5,hN,a4⟩:=hE.out;obtain ⟨a5,b0,b1,b2,b3,b4,b5⟩:=hB.out;have WV:=ae (show _ from by have hc:=Je l7 nZ b3 256 om;rw [h4] at hc;exact hc);clear l7;clear b6 a3 q tp h0 h1 h2 h3 h4 h5 hN a4 a5 b0 b1 b2 b3 b4 b5;go_wp2_with fail;refine WV.out.mono ?_;rintro e w6 ⟨v6,o6,rfl,f6,rfl,l8⟩;obtain ⟨a3,q,tp⟩:=hP.out;obtain ⟨h0,h1,h2,h3,h4,h5,hN,a4⟩:=hE.out;obtain ⟨a5,b0,b1,b2,b3,b4,b5⟩:=hB.out;have e4:=(f6.block _ (au q) (by rw [tp];exact U)).trans q;have t6:=(f6.own _ (au q)).trans tp;have l9:=a3.trans (f6.mono aZ);have h7:=AB (P:=prog) w6 150 _ Oa;have e5:=(Ba (P:=prog) (ty:=150) (vs:=[.int .u8 (kb:Int), .int .u64 (q1.1.toNat:Int), .int .u64 (q2.1.toNat:Int), .int .i64 (q3.1:Int), .int .i64 (q4.1:Int), .slice none 0 0]) (heap_alloc_new w6 (.cells [Value.int .u8 0, .int .u64 0, .int .u64 0, .int .i64 0, .int .i64 0, .slice none 0 0].toArray 150)) rfl FT rfl).1;rw [Be w6 [Value.int .u8 0, .int .u64 0, .int .u64 0, .int .i64 0, .int .i64 0, .slice none 0 0].toArray 150 [.int .u8 (kb:Int), .int .u64 (q1.1.toNat:Int), .int .u64 (q2.1.toNat:Int), .int .i64 (q3.1:Int), .int .i64 (q4.1:Int), .slice none 0 0] rfl] at e5;have h8:=l9.alloc (.cells [.int .u8 (kb:Int), .int .u64 (q1.1.toNat:Int), .int .u64 (q2.1.toNat:Int), .int .i64 (q3.1:Int), .int .i64 (q4.1:Int), .slice none 0 0].toArray 150) (M+3,0);have k7:=(aj.refl ai w6 o6).alloc (.cells [.int .u8 (kb:Int), .int .u64 (q1.1.toNat:Int), .int .u64 (q2.1.toNat:Int), .int .i64 (q3.1:Int), .int .i64 (q4.1:Int), .slice none 0 0].toArray 150) (M+3,0);have f7:QY _ _ (M+3) w6.heap.size (MM []) (.slice none 0 0):=⟨by rw [e0.out];exact heap_alloc_new w6 (.cells [.int .u8 (kb:Int), .int .u64 (q1.1.toNat:Int), .int .u64 (q2.1.toNat:Int), .int .i64 (q3.1:Int), .int .i64 (q4.1:Int), .slice none 0 0].toArray 150),Au o6 w6.heap.size (M+3,0)⟩;have h9:=(k7.block _ (au e4) id).trans e4;have t7:=(k7.own _ (au e4)).trans t6;have r7:=l8.step k7 id id;have i0:w.heap.size<w6.heap.size:=au e4;obtain ⟨W7,m0⟩:=az (w6.alloc (.cells [Value.int .u8 (kb:Int), .int .u64 (q1.1.toNat:Int), .int .u64 (q2.1.toNat:Int), .int .i64 (q3.1:Int), .int .i64 (q4.1:Int), .slice none 0 0].toArray 150));rw [m0] at e5 h8 k7 f7 h9 r7;generalize Ak o6 w6.heap.size (M+3,0)=o7 at *;obtain ⟨Wz,i1⟩:=az (w6.alloc (.cells #[Value.int .u8 0, .int .u64 0, .int .u64 0, .int .i64 0, .int .i64 0, .slice none 0 0] 150));rw [i1] at h7;have m1:w6.alloc (.cells [Value.int .u8 0, .int .u64 0, .int .u64 0, .int .i64 0, .int .i64 0, .slice none 0 0].toArray 150)=Wz:=i1;rw [m1] at e5;have WV:=ae (show _ from by have hc:=Je r7 nZ b4 256 om;rw [h5,hN] at hc;exact hc);have i2:=ae h7;have i3:=ae e5;obtain ⟨mb,a2⟩:=az (w6.heap.size);rw [a2] at i2 i3 f7 i0;have hP:=ae (aI h8 (aI h9 (aI t7 (aI f7 i0))));clear f6 a3 q tp l8 h0 h1 h2 h3 h4 h5 hN a4 a5 b0 b1 b2 b3 b4 b5 h7 e5 h8 k7 f7 h9 t7 r7 e4 t6 l9 m0 i1 m1 a2 i0
 go_wp2_with (first
  | ((with_reducible apply AU);exact i2.out;simp only [Act.put,GL,DL,lss])
  | ((with_reducible apply AC);exact i3.out;simp only [Act.put]))
 refine WV.out.mono ?_;rintro e w8 ⟨v8,o8,rfl,e6,rfl,vU⟩;obtain ⟨a3,q,tp,m2,i4⟩:=hP.out;have hP:=ae (aI (a3.trans (e6.mono aZ)) (aI ((e6.block _ (au q) (by rw [tp];exact U)).trans q) (aI ((e6.own _ (au q)).trans tp) (aI (m2.step e6 U) vU))));clear a3 q tp m2 e6 vU WV i2 i3;have p9:=ae i4;clear i4;go_wp2_with fail;have nX:M+2 ≠ 0:=om
 have c7:¬ ak (M+2) (M+3):=fun h=>by unfold ak at h;omega
 have c9:¬ ak (M+2) (M+1):=fun h=>by unfold ak at h;omega
 have b8:¬ ak (M+1) (M+2):=fun h=>by unfold ak at h;omega
 have d1:¬ ak (M+3) (M+2):=fun h=>by unfold ak at h;omega
 have d3:¬ ak (M+3) (M+1):=fun h=>by unfold ak at h;omega
 have aX:∀ k,ak (M+2) k->EN M k:=fun k h=>by unfold ak at h;unfold EN;omega
 have b9:¬ ak (M+1) 0:=fun h=>by unfold ak at h;omega
 have d4:¬ ak (M+2) 0:=fun h=>by unfold ak at h;omega
 have c8:¬ ak (M+3) 0:=fun h=>by unfold ak at h;omega
 have m5:=ae (aI nX (aI c7 (aI c9 (aI b8 (aI d1 (aI d3 (aI aX (aI b9 (aI d4 c8)))))))));have i5:=ae (aI nZ (aI aZ U));clear nX c7 c9 b8 d1 d3 aX b9 d4 c8 nZ aZ U
 go_loopw [21] (fun i wr=>∃ (k:Nat) (oj:Own) (lv:Value),k<=N/\i = .int .i64 k/\aj (EN M) w o wr oj/\wr.heap[w.heap.size]?=some (.cells [Value.int .u8 0, .int .u64 0, .int .u64 0, .int .i64 0, .int .i64 0, .slice none 0 0].toArray 150 (0,0))/\oj w.heap.size=(M+3,1)/\QY wr oj (M+3) mb (MM (Ce k F.2).1) lv/\Ep wr oj (M+1) p (Ce k F.2).2/\ArG wr oj (w.heap.size+1) (M+2,0) lv (Ce k F.2).1) (fun i _=>N - (intOf i).toNat)
 case atStart=>exact ⟨0,o8, .slice none 0 0,om,rfl,hP.out.1,hP.out.2.1,hP.out.2.2.1,hP.out.2.2.2.1,hP.out.2.2.2.2,ArG.nil _ _ _ _⟩
 case round =>
  clear hP;obtain ⟨k,oj,lv,hk,rfl,a8,O,a6,a2,f8,a9⟩:=hrel;obtain ⟨m6,b7⟩:=NG k F.2
  by_cases i4:k<N
  ·obtain ⟨nZ,aZ,U⟩:=i5.out;have dr:aj ai wr oj wr.drew oj:=(aj.refl ai wr oj).drew;have hu:=ae (EJ (f8.step dr id id) nZ (by have:=hB.out.2.2.2.2.2.2;omega));have m7:((Ce k F.2).2.num 8).2.b.length<=1000000:=by have:=oQ.EC 8 (Ce k F.2).2;have:=hB.out.2.2.2.2.2.2;omega
   have i6:Ce (k+1) F.2=((Ce k F.2).1++[⟨((Ce k F.2).2.num 8).1,((Ce k F.2).2.num 8).2.text.1⟩],((Ce k F.2).2.num 8).2.text.2):=rfl;obtain ⟨E,m9⟩:=az (((Ce k F.2).2.num 8).1);rw [m9] at hu i6;generalize ((Ce k F.2).2.num 8).2=m8 at *;obtain ⟨ra,rc,rfl⟩:=a9.form;have hS:wr.drew.cell? ⟨mb,5,none⟩=some (.slice ra (Ce k F.2).1.length rc):=a2.c5;have hR:=ae (aI (a8.drew) (aI O (aI a6 (aI (a2.step dr id) (a9.step dr id id)))));have hL:=ae (aI m7 (aI b7 i6));rw [b7] at hS;clear a8 O a6 a2 f8 a9 m6 m7 b7 i6 m9 dr nZ aZ U;go_wp2_with fail;refine Aa (fun w'=>w'.cell? ⟨mb,5,none⟩=some (.slice ra k rc)) (fun i=>decide (i<10)) (by kernel_rfl) hS (fun q6 => ?_);refine tq 0 (h:=tq 1 (h:=tq 2 (h:=tq 4 (h:=tO 3 (h:=?_)))));go_wp2_with fail;refine hu.out.mono ?_;rintro e w2 ⟨v2,o2,rfl,Y,rfl,e3⟩;obtain ⟨nZ,aZ,U⟩:=i5.out;obtain ⟨nX,c7,c9,b8,d1,d3,aX,b9,d4,c8⟩:=m5.out;obtain ⟨a8,O,a6,a2,a9⟩:=hR.out;have n0:w2.cell? ⟨mb,5,none⟩=some (.slice ra k rc):=by have:=(a2.step Y U).c5;rw [hL.out.2.1] at this;exact this
   have n4:=ae (aI (a8.trans (Y.mono aZ)) (aI ((Y.block _ (au O) (by rw [a6];exact U)).trans O) (aI ((Y.own _ (au O)).trans a6) (aI (a2.step Y U) (a9.step Y b8 b9)))));have ht:=ae (Rq e3 nZ hL.out.1);clear Y e3 a8 O a6 a2 a9 hu hR nZ aZ U nX c7 c9 b8 d1 d3 aX b9 d4 c8 q6;go_wp2_with fail;refine ⟨fun _=>n0, ?_⟩;refine tO 5 (h:=?_);go_wp2_with fail;refine ht.out.mono ?_;rintro e w3 ⟨v3,o3,rfl,J,⟨f9,i7⟩,d7⟩;obtain ⟨nZ,aZ,U⟩:=i5.out;obtain ⟨nX,c7,c9,b8,d1,d3,aX,b9,d4,c8⟩:=m5.out;obtain ⟨a8,O,a6,a2,a9⟩:=n4.out;have q7:w3.cell? ⟨mb,5,none⟩=some (.slice ra k rc):=by have:=(a2.step J U).c5;rw [hL.out.2.1] at this;exact this
   have s2:=ae (aI (a8.trans (J.mono aZ)) (aI ((J.block _ (au O) (by rw [a6];exact U)).trans O) (aI ((J.own _ (au O)).trans a6) (aI (a2.step J U) (aI (a9.step J b8 b9) (aI f9 (aI (i7.low a8.size) d7)))))));have i8:=Zf w3 (E.toNat:Int) v3;have a7:=(aj.refl ai w3 o3).alloc (.cells [.int .u64 (E.toNat:Int),v3].toArray 41) (0,0);have i9:=heap_alloc_new w3 (.cells [.int .u64 (E.toNat:Int),v3].toArray 41);obtain ⟨w4,q8⟩:=az (w3.alloc (.cells [.int .u64 (E.toNat:Int),v3].toArray 41));rw [q8] at i8 a7 i9;generalize Ak o3 w3.heap.size (0,0)=o4 at *;have q9:w4.cell? ⟨mb,5,none⟩=some (.slice ra k rc):=by have:=((a2.step J U).step a7 id).c5;rw [hL.out.2.1] at this;exact this
   obtain ⟨nv,w5,o5,e7,tK,b6,r0,r1⟩:=((a9.step J b8 b9).step a7 id id).append nX (Nat.le_trans (au O) (Nat.le_trans J.size a7.size)) (AV i9) (sW.single ⟨E,m8.text.1⟩ (f9.step a7 id)) (fun u hu=>by
    simp only [List.mem_cons,List.not_mem_nil,or_false] at hu;rcases hu with rfl | rfl
    ·exact CV.int _ _ _
    ·exact i7.low (au O)) (by simp) (by rw [hL.out.2.1,List.length_singleton];omega) (c:=1)
   simp only [List.length_singleton] at e7;rw [hL.out.2.1] at e7;obtain ⟨na,nc,rfl⟩:=tK.form;have j0:((Ce k F.2).1++([⟨E,m8.text.1⟩]:List Ar)).length=k+1:=by rw [List.length_append,hL.out.2.1];rfl
   have d5:=(((a2.step J U).step a7 id)).step b6 c7;have r2:w5.cell? ⟨mb,5,none⟩=some (.slice ra k rc):=by have:=d5.c5;rw [hL.out.2.1] at this;exact this
   have f5:=d5.free 5;have n5:=(b6.block _ (Nat.lt_of_lt_of_le (Nat.lt_of_lt_of_le (au O) J.size) a7.size) (by rw [a7.own _ (Nat.lt_of_lt_of_le (au O) J.size),J.own _ (au O),a6];exact c7)).trans ((a7.block _ (Nat.lt_of_lt_of_le (au O) J.size) id).trans ((J.block _ (au O) (by rw [a6];exact U)).trans O));have n6:=(b6.own _ (Nat.lt_of_lt_of_le (Nat.lt_of_lt_of_le (au O) J.size) a7.size)).trans ((a7.own _ (Nat.lt_of_lt_of_le (au O) J.size)).trans ((J.own _ (au O)).trans a6));have n7:=((a8.trans (J.mono aZ)).trans a7.LW).trans (b6.mono aX);have n8:=(d7.step a7 id id).step b6 c9 d4;rw [j0] at e7;have r3:=ae e7;have n9:QY (w5.setCell ⟨mb,5,none⟩ (.slice na (k+1) nc)) o5 (M+3) mb (MM (Ce (k+1) F.2).1) (.slice na (k+1) nc):=by
    refine ⟨?_,d5.2⟩;have h:=Ai (i:=5) (.slice na (k+1) nc) d5.1;rw [h,e0.out,e0.out];rfl
   have sF:=n7.setCell (a:=⟨mb,5,none⟩) (.slice na (k+1) nc) (.inl (by show EN M (o5 mb).1;rw [d5.2];unfold EN;omega));have sK:=(aj.refl (ak (M+3)) w5 o5).setCell (a:=⟨mb,5,none⟩) (.slice na (k+1) nc) (.inl (by show (o5 mb).1=_;rw [d5.2]));have o9:ArG (w5.setCell ⟨mb,5,none⟩ (.slice na (k+1) nc)) o5 (w.heap.size+1) (M+2,0) (.slice na (k+1) nc) (Ce (k+1) F.2).1:=by
    rw [hL.out.2.2];rw [j0] at tK;exact tK.step sK d1 c8
   have p0:Ep (w5.setCell ⟨mb,5,none⟩ (.slice na (k+1) nc)) o5 (M+1) p (Ce (k+1) F.2).2:=by
    rw [hL.out.2.2];exact n8.step sK d3 c8
   have p1:=(Below.heap_setCell w5 ⟨mb,5,none⟩ (.slice na (k+1) nc) w.heap.size (by have:=p9.out;show w.heap.size ≠ mb;omega)).trans n5;have hF:=ae (aI sF (aI p1 (aI n6 (aI n9 (aI p0 o9)))));have r4:=ae i8;obtain ⟨ba,bc,rfl⟩:=Aq f9;clear J d7 a8 O a6 a2 a9 f9 i7 n4 n0 ht i8 a7 i9 e7 tK b6 r0 r1 j0 d5 n5 n6 n7 n8 n9 sF sK o9 p0 p1 nZ aZ U nX c7 c9 b8 d1 d3 aX b9 d4 c8;go_wp2_with fail;refine ⟨fun _=>q7, ?_⟩;refine tq 6 (h:=tO 7 (h:=?_));refine BO #[(0, .agg #[.int .u64 (E.toNat:Int), .slice ba m8.text.1.length bc])] rfl r4.out ?_;simp only [Act.put,GL,DL,lss];go_wp2_with fail;refine ⟨fun _=>q9, ?_⟩;refine tO 8 (h:=?_)
   with_reducible apply Bl
   exact r3.out;simp only [Act.put,GL,DL,lss];go_wp2_with fail;refine ⟨fun _=>r2, ?_⟩;refine tq 9 (h:=tO 10 (h:=?_));go_wp2_with fail;refine ⟨fun h=>by simp at h, ?_⟩;refine tD (h:=?_);go_wp2_with fail;go_roundw
   case rel=>exact ⟨k+1,o5,_,om,by go_num,hF.out.1,hF.out.2.1,hF.out.2.2.1,hF.out.2.2.2.1,hF.out.2.2.2.2.1,hF.out.2.2.2.2.2⟩
   case measure=>simp [intOf];omega
  ·have r5:k=N:=om
   subst r5;have hd:=ae (II f8);have p2:((Ce k F.2).2).done=0 \/ ((Ce k F.2).2).done=2:=by
    unfold oQ.done;split
    ·exact .inr rfl
    ·exact .inl rfl
   obtain ⟨m,hm⟩:=az (MM (Ce k F.2).1);have j1:m.ls=(Ce k F.2).1:=by rw [<-hm,e0.out]
   have g0:Lines wr (Ak (ext w o) w.heap.size (M+3,1)) (w.heap.size+1) lv m.ls:=by
    rw [j1];refine a9.lines (fun j hj => ?_);rw [BI _ _ om];unfold ext;rw [if_neg om]
   have st:aj ai w o wr (Ak (ext w o) w.heap.size (M+3,1)):=(a8.Hm p8.out).Me _ (fun j hj=>by rw [BI _ _ om];exact if_pos hj);have p3:=Au (ext w o) w.heap.size (M+3,1);have g5:=a2.1;rw [hm] at g5;have g6:=j8.out;rw [hm] at g6;obtain ⟨dn,r6⟩:=az (((Ce k F.2).2).done);simp only [r6] at hd p2 g6;have c6:=ae g6;generalize Ak (ext w o) w.heap.size (M+3,1)=oE at *;have p4:=Ip (AV g5) rfl;have e8:=ae (Uf m g0 (by rw [j1,b7];omega));have d6:=ae O;have j2:=ae g5;have s4:=ae p4;have r8:=ae g0;have j3:=ae st;have j4:=ae p3;obtain ⟨ra,rc,rfl⟩:=g0.form;clear a8 O a6 a2 f8 a9 m6 b7 g6 j8 hm j1 g0 st p3 g5 p4 hE hB e0;have r9:¬ ak (M+3) 0:=fun h=>by unfold ak at h;omega
   have p5:∀ (W:World) (oW:Own),aj ai w o W oW->W.heap[w.heap.size]?=some (.cells [Value.int .u8 0, .int .u64 0, .int .u64 0, .int .i64 0, .int .i64 0, .slice none 0 0].toArray 150 (0,0))->oW w.heap.size=(M+3,1)->∀ vs:List Value,vs.length=6->vs.all (·.oneCell')=true ->
     (Instr.storeAt 150 (.pointer (some ⟨w.heap.size,0,none⟩)) (.agg vs.toArray)).run prog W = .ok () (W.setCells w.heap.size 0 vs)/\(W.setCells w.heap.size 0 vs).heap[w.heap.size]?=some (.cells vs.toArray 150 (0,0))/\aj ai w o (W.setCells w.heap.size 0 vs) oW/\aj (ak (M+3)) W oW (W.setCells w.heap.size 0 vs) oW:=by
    intro W oW h1 h2 h3 vs h4 h5;obtain ⟨g1,g2⟩:=Ba (P:=prog) (ty:=150) (vs:=vs) h2 (by rw [h4];rfl) (by rw [h4];exact FT) h5;exact ⟨g1,g2,h1.setCells _ _ _ (.inr (Nat.le_refl _)),(aj.refl _ W oW).setCells _ _ _ (.inl (by rw [h3];rfl))⟩
   have j5:=ae p5;clear p5;unfold Ea at e8;obtain ⟨c0,c1,c2,c3,c4,c5⟩:=Gt j2.out;have hz:∀ (W:World) (oW:Own) e,Jn l=none->iL w.heap.size (Jn l) (.tuple #[.agg #[Value.int .u8 0, .int .u64 0, .int .u64 0, .int .i64 0, .int .i64 0, .slice none 0 0], .int .i64 2]) W oW \/ e:=by
    intro W oW e h;rw [h];exact .inl ⟨fun m h=>by (cases h),fun _=>rfl⟩
   have p6:=ae hz;clear hz;rcases p2 with rfl | rfl
   ·rw [if_pos rfl] at c6
    cases g7:TE m with
    | true =>
     rw [g7] at e8 c6;rw [if_pos rfl] at c6;clear g7;go_wp2_with fail;refine hd.out.mono ?_;rintro e w2 ⟨rfl,rfl⟩;go_wp2_with fail;refine e8.out.mono ?_;rintro e w2 ⟨v2,o2,rfl,Y,rfl⟩;have e9:=(Y.block _ (au d6.out) id).trans d6.out;have f0:=(Y.own _ (au d6.out)).trans j4.out;have p7:=(Y.block _ (au j2.out) id).trans j2.out;have zZ:=ae (Ip (AV p7) rfl);obtain ⟨g1,g2,g3,g4⟩:=j5.out w2 o2 (j3.out.trans Y) e9 f0 (Bf m (.slice ra m.ls.length rc)) rfl rfl;have d8:=ae g1;have d9:=ae g2;have hF:=ae (aI g3 ((r8.out.step Y id).step g4 r9));clear Y e9 f0 p7 g1 g2 g3 g4 c0 c1 c2 c3 c4 c5;unfold Bf at zZ d8 d9
     go_wp2_with (first
      | ((with_reducible apply Bo);exact zZ.out;simp only [Act.put,GL,DL,lss])
      | ((with_reducible apply AC);exact d8.out;simp only [Act.put]))
     refine bodyPost_ret (Eg rfl _ _ w.heap.size 150 _ (0,0) _ rfl d9.out underlying150 rfl FT) rfl ?_;exact ⟨_,o2,rfl,hF.out.1,by rw [c6.out];exact ⟨fun m' h=>by cases h;exact ⟨_,rfl,hF.out.2.low om⟩,fun h=>by cases h⟩⟩
    | false =>
     rw [g7] at e8 c6;rw [if_neg (by decide)] at c6;clear g7;go_wp2_with fail;refine hd.out.mono ?_;rintro e w2 ⟨rfl,rfl⟩;go_wp2_with fail;refine e8.out.mono ?_;rintro e w2 ⟨v2,o2,rfl,Y,rfl⟩;have e9:=(Y.block _ (au d6.out) id).trans d6.out;have f0:=(Y.own _ (au d6.out)).trans j4.out;obtain ⟨g1,g2,g3,g4⟩:=j5.out w2 o2 (j3.out.trans Y) e9 f0 [Value.int .u8 0, .int .u64 0, .int .u64 0, .int .i64 0, .int .i64 0, .slice none 0 0] rfl rfl;have d8:=ae g1;have d9:=ae g2;have j6:=ae g3;clear Y e9 f0 g1 g2 g3 g4 c0 c1 c2 c3 c4 c5
     go_wp2_with ((with_reducible apply AC);exact d8.out;simp only [Act.put])
     refine bodyPost_ret (Eg rfl _ _ w.heap.size 150 _ (0,0) _ rfl d9.out underlying150 rfl FT) rfl ?_;exact ⟨_,o2,rfl,j6.out,(p6.out _ _ False c6.out).resolve_right id⟩
   ·rw [if_neg (by decide)] at c6;clear c0 c1 c2 c3 c4 c5;go_wp2_with fail;refine hd.out.mono ?_;rintro e w2 ⟨rfl,rfl⟩;obtain ⟨g1,g2,g3,g4⟩:=j5.out wr oE j3.out d6.out j4.out [Value.int .u8 0, .int .u64 0, .int .u64 0, .int .i64 0, .int .i64 0, .slice none 0 0] rfl rfl;have d8:=ae g1;have d9:=ae g2;have j6:=ae g3;clear g1 g2 g3 g4
    go_wp2_with ((with_reducible apply AC);exact d8.out;simp only [Act.put])
    refine bodyPost_ret (Eg rfl _ _ w.heap.size 150 _ (0,0) _ rfl d9.out underlying150 rfl FT) rfl ?_;exact ⟨_,oE,rfl,j6.out,(p6.out _ _ False c6.out).resolve_right id⟩
theorem KN (w:World) (m:BG) (q:Option Addr) (r u:Nat) :
  (Instr.storeAt 150 (.pointer (some ⟨w.heap.size,0,none⟩)) (.agg (Bf m (.slice q r u)).toArray)).run prog (w.alloc (.cells DI.toArray 150)) = .ok () (w.alloc (.cells (Bf m (.slice q r u)).toArray 150)):=by
 have h:=(Ba (P:=prog) (ty:=150) (vs:=Bf m (.slice q r u)) (heap_alloc_new w (.cells DI.toArray 150)) rfl FT rfl).1;rw [Be w DI.toArray 150 (Bf m (.slice q r u)) rfl] at h;exact h
theorem YP {w:World}{o:Own}{E bb lb:Nat}{mine:BitVec 64}{p:DT}{rest:List Value}(i:Nat)
  (hv:w.heap[E]?=some (.cells #[.pointer (some ⟨lb,0,none⟩)] 135 (0,0))) (hl:w.heap[lb]?=some (.cells ((.int .u64 (mine.toNat:Int)) :: rest).toArray 142 (0,0)))
  {pv:Option Addr} (hb:w.heap[bb]?=some (.cells #[.pointer pv] 258 (0,0))) (hp:JA w o (some p) pv) :
  Calls prog 200 #[.int .i64 (i:Int), .pointer (some ⟨E,0,none⟩), .pointer (some ⟨bb,0,none⟩)] w (XL ai w o fun v w' o'=>∃ lv,v=Ea ⟨4,mine,0,0,0,p.2⟩ lv/\Lines w' o' 0 lv p.2):=by
 obtain ⟨pp,lv,rfl,F,a4,J⟩:=hp;have al:=ae (AB (P:=prog) w 150 _ Oa);have O:=(aj.refl ai w o).alloc (.cells DI.toArray 150) (0,0);obtain ⟨r,u,rfl⟩:=J.form;have U:=KN w.drew ⟨4,mine,0,0,0,p.2⟩ r p.2.length u;unfold DI at O U;have q:=O.drew;have c1:=ag (cs:=[_]) ((q.block _ (au hv) id).trans hv) 0;have c2:=ag ((q.block _ (au hl) id).trans hl) 0;have W:=ag (cs:=[_]) ((q.block _ (au hb) id).trans hb) 0;have Y:=ag ((q.block _ (au F) id).trans F) 1;simp only [ay,ax] at c1 c2 W Y;have hS:=aI c1 (aI c2 (aI W Y));have a3:=heap_alloc_new w (.cells (Bf ⟨4,mine,0,0,0,p.2⟩ (.slice r p.2.length u)).toArray 150);have a2:=((aj.refl ai w o).drew).alloc (.cells (Bf ⟨4,mine,0,0,0,p.2⟩ (.slice r p.2.length u)).toArray 150) (0,0);have hF:=ae (aI a2 (J.step a2 id));have a5:=ae U;have a6:=ae a3;clear O U q c1 c2 W Y hv hl hb F a4 J a3 a2;unfold Ea;go_enter func200,ntmps200
 go_wp2_with ((with_reducible apply AU);exact al.out;simp only [Act.put,GL,DL,lss])
 refine Aa (fun w'=>w'.cell? ⟨E,0,none⟩=some (.pointer (some ⟨lb,0,none⟩))/\w'.cell? ⟨lb,0,none⟩=some (.int .u64 (mine.toNat:Int))/\w'.cell? ⟨bb,0,none⟩=some (.pointer (some ⟨pp,0,none⟩))/\w'.cell? ⟨pp,1,none⟩=some (.slice r p.2.length u)) (fun i=>decide (i<9)) (by kernel_rfl) hS (fun a7 => ?_);refine tq 0 (h:=tq 1 (h:=tq 2 (h:=tq 3 (h:=tq 4 (h:=tq 5 (h:=tq 6 (h:=tq 7 (h:=tq 8 (h:=tO 9 (h:=?_))))))))));refine AC a5.out ?_;go_wp2_with fail;refine ⟨fun h=>by simp at h, ?_⟩;refine tD (h:=?_);go_wp2_with fail;refine bodyPost_ret (results_cell_row rfl _ _ w.heap.size 150 _ (0,0) _ rfl a6.out underlying150 rfl FT) rfl ?_;exact ⟨_,_,rfl,hF.out.1,_,rfl,hF.out.2⟩

end Go.Proofs.YtffkdillijmamaaGreat
