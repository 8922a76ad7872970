/- Contract of zab's hearPromise. -/
import Derived.Test.YtffkdillijmamaaGreatGj11
namespace Go.Proofs.YtffkdillijmamaaGreat
open Go.Proofs.Tryz
set_option maxRecDepth 100000
set_option maxHeartbeats 12800000
open Go Go.RowKit
attribute [local go_sem ↓] Go.wp_at_zero Go.wp_at_succ
section
variable {P:Program}{ops:Array Oper}{Q:Exit->Act->World->Prop}{rest:List Oper}{d:Option Nat}{ty:TypeId}{ps:String}{af:Array _}{a:Act}{w w':World}
theorem QO {m k x:Operand}{t:TypeId}(q:(Instr.mapUpdate t (a.eval m) (a.eval k) (a.eval x)).run P w = .ok () w') (h:wpList P ops Q rest (a.put d undef) w') :
  wpList P ops Q ({ dst:=d,op := .mapUpdate t m k x,type:=ty,pos:=ps,after:=af,guard:=none } :: rest) a w:=
 wpList_plain rfl fun _ r=>by
  unfold Oper.wp execOp;simp only [Sem.run_bind,q,Result.andThen_ok,Sem.run_pure];exact r _ _ h
end
theorem dY {w w':World}{o o':Own}{Z mb src:Nat}{has:List (Option DT)}{es:List Ent}{c:BitVec 64}{lv:Value}{ls:List Ar}(u:w'.heap[mb]?=some (.map (Bd 0 (es++[(src,c,lv)])).toArray (es++[(src,c,lv)]).length)) (E:o' mb=(Z,2))
  (hn:(es.map (·.1)).Nodup) (r:∀ x ∈ es,x.1 ≠ src) (F:∀ x ∈ es,∃ ls,has[x.1]?=some (some (x.2.1,ls))/\Lines w o 0 x.2.2 ls) (J:∀ i p,has[i]?=some (some p)->∃ x ∈ es,x.1=i)
  (O:∀ v l,Lines w o 0 v l->Lines w' o' 0 v l) (U:src<has.length) (hl:Lines w' o' 0 lv ls):OE w' o' Z mb (has.set src (some (c,ls))):=by
 refine ⟨es++[(src,c,lv)],u,E, ?_,fun x q=>?_,fun i p hp=>?_⟩
 ·rw [List.map_append,List.nodup_append];refine ⟨hn,by simp, ?_⟩;intro a W b hb;simp only [List.map_cons,List.map_nil,List.mem_singleton] at hb;subst hb;obtain ⟨x,q,rfl⟩:=List.mem_map.1 W;exact r x q
 ·rcases List.mem_append.1 q with q | q
  ·obtain ⟨Y,h1,h2⟩:=F x q;refine ⟨Y, ?_,O _ _ h2⟩;rw [List.getElem?_set_ne (fun h=>r x q h.symm)];exact h1
  ·simp only [List.mem_singleton] at q;subst q;exact ⟨ls,by simp [U],hl⟩
 ·by_cases h:src=i
  ·exact ⟨_,List.mem_append_right _ (List.mem_singleton_self _),h⟩
  ·rw [List.getElem?_set_ne h] at hp;obtain ⟨x,q,a2⟩:=J i p hp;exact ⟨x,List.mem_append_left _ q,a2⟩
section
variable {w:World}{o:Own}{D M pz ps pd K B base:Nat}{z:Am}
theorem Am.NP.promised (h:Am.NP K B z){mine:BitVec 64}{has:List (Option DT)}(O:z.BB = .stands mine has) (src:Nat){c:BitVec 64}{ls:List Ar}(U:En (B+AP ls) ls) :
  Am.NP K (B+AP ls) { z with BB := .stands mine (has.set src (some (c,ls))) }:=by
 have u:=h.mono (Nat.le_refl K) (Nat.le_add_right B (AP ls));have E:=u.ok.ro;rw [show z.BN.BB=z.BB from rfl,O] at E;obtain ⟨W,Y,⟨p,F⟩,h4⟩:=E;have r:=u.ok;refine ⟨u.sp,⟨⟨r.n1,r.n3,r.id,r.ls,r.cp,r.pt,r.se,r.co⟩,W, ?_, ?_, ?_⟩⟩
 ·rw [List.length_set];exact Y
 ·show ∃ p,(has.set src (some (c,ls)))[z.id]?=some (some p)
  by_cases J:src=z.id
  ·rw [J];have hl:=(List.getElem?_eq_some_iff.1 F).1;exact ⟨(c,ls),List.getElem?_set_self hl⟩
  ·exact ⟨p,by rw [List.getElem?_set_ne J];exact F⟩
 ·intro q hq
  rcases List.mem_or_eq_of_mem_set hq with h | h
  ·exact h4 q h
  ·cases h;exact U
theorem OM (h:Bc w o D M pz ps pd z) (hp:Am.NP K B z) (hK:K+600<65536) (src:Nat) (i0:src<z.n) (m:BG) (hm:m.May) (hB:B+AP m.ls<=90000){lv:Value}(hl:Lines w o base lv m.ls) :
  Calls prog 150 #[.pointer (some ⟨pz,0,none⟩), .int .i64 (src:Int),Ea m lv] w (XL (KC D M) w o fun v w' o'=>Dn w' o' v (Ed (z.Bj src m).2)/\Bc w' o' D M pz ps pd (z.Bj src m).1):=by
 obtain ⟨R,r⟩:=az (z.Bj src m);rw [r];unfold Am.Bj at r;obtain ⟨la,lc,g7⟩:=hl.form;obtain ⟨n,hn⟩:=az (m.ls.length);rw [hn] at g7;subst g7;have b9:z.n<=3:=hp.ok.n3;have c0:1<=z.n:=hp.ok.n1;have a9:En B z.s.kept.lines:=hp.ok.ls;have c4:=En.small a9 om;have U:=(aj.refl ai w o).alloc (.cells (Bf m (.slice la n lc)).toArray 150) (0,0);have gI:=heap_alloc_new w (.cells (Bf m (.slice la n lc)).toArray 150);have b1:=Au o w.heap.size (0,0);generalize Ak o w.heap.size (0,0)=o1 at *;obtain ⟨W1,a6⟩:=az (w.alloc (.cells (Bf m (.slice la n lc)).toArray 150));rw [a6] at U gI;have a4:(Instr.box 150 (Ea m (.slice la n lc))).run prog w = .ok (.pointer (some ⟨w.heap.size,0,none⟩)) W1:=by rw [<-a6];kernel_rfl
 obtain ⟨u,b2⟩:=az (w.heap.size);rw [b2] at gI b1 a4;have Y:=h.step0 U;have b3:=hl.step U id;obtain ⟨-, -,e2,-⟩:=Y.cell;unfold Ea at a4 ⊢;have xH:=ae a4;obtain ⟨ML,rv,hb,c7,b4⟩:=id Y
 cases a2:z.BB with
 | follows =>
  rw [a2] at r c7;obtain rfl:rv = .iface 184 (.agg #[]):=c7;have g8:=gV W1;have c3:=hb.cells.1.2.2.2.1;have hF:=ae (aI U Y);have F:=ae r;have q1:=ag (w:=W1.drew) gI 1;have d7:W1.drew.cell? ⟨u,1,none⟩=some (.int .u64 (m.e.toNat:Int)):=q1;clear hb b4 Y b3 U gI b1 a6 b2 a4 e2 a9 c4 b9 c0 a2 r q1;go_enter func150,ntmps150
  go_wp2_with ((with_reducible apply BM);exact xH.out;simp only [Act.put,GL,DL,lss])
  refine Aa (fun w'=>w'.cell? ⟨u,1,none⟩=some (.int .u64 (m.e.toNat:Int))) (fun _=>true) (by kernel_rfl) d7 (fun J=>?_);refine tq 0 (h:=tq 1 (h:=tq 2 (h:=ts 3 (h:=ts 4 (h:=ts 5 (h:=ts 6 (h:=ts 7 (h:=ts 8 (h:=ts 9 (h:=tq 10 (h:=tq 11 (h:=ts 12 (h:=ts 13 (h:=?_))))))))))))));refine ts 14 (h:=ts 15 (h:=ts 16 (h:=tq 17 (h:=tD (h:=?_)))));clear J d7;go_wp2_with fail;go_ret;refine ⟨_,o1,rfl,hF.out.1.drew.mono (fun _ h=>h.elim), ?_, ?_⟩
  ·rw [<-F.out];exact Dn.nil _ _
  ·rw [<-F.out];exact hF.out.2.step0 (aj.refl ai W1 o1).drew
 | leads mine nR i5 ready =>
  rw [a2] at r c7;obtain ⟨p,rfl,i1⟩:=c7;clear i1;have g8:=gU W1 (some ⟨p,0,none⟩);have c3:=hb.cells.1.2.2.2.1;have hF:=ae (aI U Y);have F:=ae r;have q1:=ag (w:=W1.drew) gI 1;have d7:W1.drew.cell? ⟨u,1,none⟩=some (.int .u64 (m.e.toNat:Int)):=q1;clear hb b4 Y b3 U gI b1 a6 b2 a4 e2 a9 c4 b9 c0 a2 r q1;go_enter func150,ntmps150
  go_wp2_with ((with_reducible apply BM);exact xH.out;simp only [Act.put,GL,DL,lss])
  refine Aa (fun w'=>w'.cell? ⟨u,1,none⟩=some (.int .u64 (m.e.toNat:Int))) (fun _=>true) (by kernel_rfl) d7 (fun J=>?_);refine tq 0 (h:=tq 1 (h:=tq 2 (h:=ts 3 (h:=ts 4 (h:=ts 5 (h:=ts 6 (h:=ts 7 (h:=ts 8 (h:=ts 9 (h:=tq 10 (h:=tq 11 (h:=ts 12 (h:=ts 13 (h:=?_))))))))))))));refine ts 14 (h:=ts 15 (h:=ts 16 (h:=tq 17 (h:=tD (h:=?_)))));clear J d7;go_wp2_with fail;go_ret;refine ⟨_,o1,rfl,hF.out.1.drew.mono (fun _ h=>h.elim), ?_, ?_⟩
  ·rw [<-F.out];exact Dn.nil _ _
  ·rw [<-F.out];exact hF.out.2.step0 (aj.refl ai W1 o1).drew
 | stands mine has =>
  rw [a2] at r c7;obtain ⟨p,rfl,mk,a3,c8,e6⟩:=c7;have g8:=gQ W1 (some ⟨p,0,none⟩);have c3:=hb.cells.1.2.2.2.1;obtain ⟨V,hV⟩:=az (W1.drew);have E:aj ai W1 o1 V o1:=by rw [<-hV];exact (aj.refl ai W1 o1).drew
  have hN:=Y.step0 E;have a7:=(E.block u (au gI) id).trans gI;have p0:=ag ((E.block p (au a3) id).trans a3) 0;simp only [ay] at p0;have hS:=aI (show V.cell? ⟨u,1,none⟩=some (.int .u64 (m.e.toNat:Int)) from ag a7 1) (aI (show V.cell? ⟨u,2,none⟩=some (.int .u64 (m.c.toNat:Int)) from ag a7 2) p0);rw [<-hV] at hS;have hF:=ae (aI (U.trans E) hN);simp only at r
  by_cases a5:mine=m.e
  ·have i2:(mine.toNat:Int)=(m.e.toNat:Int):=by rw [a5]
   by_cases c9:m.e.toNat<=m.c.toNat
   ·rw [if_pos (.inr c9)] at r;have i3:(m.e.toNat:Int)<=(m.c.toNat:Int):=om
    have F:=ae r;clear hb b4 b3 U gI b1 a6 b2 a4 e2 a9 c4 b9 c0 E hN a7 Y a2 r p0 a3 c8 e6 a5 c9;go_enter func150,ntmps150
    go_wp2_with ((with_reducible apply BM);exact xH.out;simp only [Act.put,GL,DL,lss])
    refine Aa (fun w'=>w'.cell? ⟨u,1,none⟩=some (.int .u64 (m.e.toNat:Int))/\w'.cell? ⟨u,2,none⟩=some (.int .u64 (m.c.toNat:Int))/\w'.cell? ⟨p,0,none⟩=some (.int .u64 (mine.toNat:Int))) (fun _=>true) (by kernel_rfl) hS (fun J=>?_);rw [hV] at J ⊢;clear hV hS;refine tq 0 (h:=tq 1 (h:=tq 2 (h:=tq 3 (h:=tq 4 (h:=tq 5 (h:=tq 6 (h:=tq 7 (h:=tq 8 (h:=tq 9 (h:=tq 10 (h:=tq 11 (h:=tq 12 (h:=tq 13 (h:=?_))))))))))))));refine tq 14 (h:=tq 15 (h:=tq 16 (h:=tq 17 (h:=tD (h:=?_)))));clear J;go_wp2_with fail;go_ret;refine ⟨_,o1,rfl,hF.out.1.mono (fun _ h=>h.elim), ?_, ?_⟩
    ·rw [<-F.out];exact Dn.nil _ _
    ·rw [<-F.out];exact hF.out.2
   ·have i3:¬ (m.e.toNat:Int)<=(m.c.toNat:Int):=om
    have yS:=hp.ok.ro;rw [show z.BN.BB=z.BB from rfl,a2] at yS;obtain ⟨-,d8, -,-⟩:=yS;have d8:has.length=z.n:=d8;have d9:src<has.length:=by rw [d8];exact i0
    have e7:∀ W O,aj ai V o1 W O->W.cell? ⟨p,1,none⟩=some (.map (some mk))/\W.cell? ⟨u,2,none⟩=some (.int .u64 (m.c.toNat:Int))/\W.cell? ⟨u,5,none⟩=some (.slice la n lc):=by
     intro W O hJ;have g1:=ag (((E.trans hJ).block p (au a3) id).trans a3) 1;simp only [ay,ax] at g1;have g2:=(hJ.block u (au a7) id).trans a7;exact ⟨g1,ag g2 2,ag g2 5⟩
    have cV:=(e7 V o1 (aj.refl _ _ _)).1;have f2:=e6;obtain ⟨es,g1,g2,g3,g4,g5⟩:=e6;have b5:=(E.block mk (au g1) id).trans g1;have e8:∀ x ∈ es,∃ ls,has[x.1]?=some (some (x.2.1,ls))/\Lines V o1 0 x.2.2 ls:=fun x hx=>by obtain ⟨ls,a,b⟩:=g4 x hx;exact ⟨ls,a,b.step E id⟩
    have a8:=(E.block p (au a3) id).trans a3;have d1:=hb.step E id;have e9:=b4.step0 E;have f3:=b3.step E id;have e0:=AB (P:=prog) V 203 _ Zn
    cases hg:has.getD src none with
    | some q =>
     rw [hg] at r;simp only [Option.isSome_some,if_true] at r;have hz:({ z with BB := .stands mine has }:Am)=z:=by rw [<-a2]
     rw [if_neg (fun h=>h.elim (fun h=>h a5) c9),hz] at r;have hq:has[src]?=some (some q):=by
      rw [List.getD_eq_getElem?_getD,List.getElem?_eq_getElem d9] at hg;simp only [Option.getD_some] at hg;rw [List.getElem?_eq_getElem d9,hg]
     obtain ⟨x,hx,g9⟩:=g5 src q hq;obtain ⟨f4, -,h2⟩:=e8 x hx;obtain ⟨xa,xc,h3⟩:=h2.form;have d3:=SK b5 g3 hx;rw [g9,h3] at d3;have b6:=Agu V (x.2.1.toNat:Int) xa f4.length xc;have k4:=(aj.refl ai V o1).alloc (.cells [.int .u64 (x.2.1.toNat:Int), .slice xa f4.length xc].toArray 203) (0,0);generalize Ak o1 V.heap.size (0,0)=o4 at *;obtain ⟨W4,d4⟩:=az (V.alloc (.cells [.int .u64 (x.2.1.toNat:Int), .slice xa f4.length xc].toArray 203));rw [d4] at k4 b6;have d5:Qx W4 o4 D M pz ps pd p z mine has:=⟨ML,d1.step k4 id,⟨mk,(k4.block p (au a8) id).trans a8,(k4.own p (au a8)).trans c8,(f2.step (E.trans k4) id id)⟩,e9.step0 k4⟩;have e3:=ae (lead_any d5 a2 hp hK om);have f5:=ae ((U.trans E).trans k4);have F:=ae r;have f6:=ae d3;have f7:=ae e0;have f8:=ae b6;clear hb b4 b3 U gI b1 a6 b2 a4 e2 a9 c4 b9 c0 E hN a7 Y a2 r p0 a3 c8 f2 a5 c9 e7 g1 g2 g3 g4 g5 b5 e8 a8 d1 e9 f3 e0 d3 b6 k4 d4 d5 hz hq hx g9 h2 h3 hg d8 d9;go_enter func150,ntmps150
     go_wp2_with ((with_reducible apply BM);exact xH.out;simp only [Act.put,GL,DL,lss])
     refine Aa (fun w'=>w'.cell? ⟨u,1,none⟩=some (.int .u64 (m.e.toNat:Int))/\w'.cell? ⟨u,2,none⟩=some (.int .u64 (m.c.toNat:Int))/\w'.cell? ⟨p,0,none⟩=some (.int .u64 (mine.toNat:Int))) (fun _=>true) (by kernel_rfl) hS (fun J=>?_);rw [hV] at J ⊢;clear hV hS;refine tq 0 (h:=tq 1 (h:=tq 2 (h:=tq 3 (h:=tq 4 (h:=tq 5 (h:=tq 6 (h:=tq 7 (h:=tq 8 (h:=tq 9 (h:=tq 10 (h:=tq 11 (h:=tq 12 (h:=tq 13 (h:=?_))))))))))))));refine tq 14 (h:=tq 15 (h:=tq 16 (h:=tq 17 (h:=tD (h:=?_)))));clear J
     go_wp2_with (first
      | ((with_reducible apply DN);exact f6.out;simp only [Act.put,GL,DL,lss])
      | ((with_reducible apply AU);exact f7.out;simp only [Act.put,GL,DL,lss])
      | ((with_reducible apply AC);exact f8.out;simp only [Act.put]))
     refine e3.out.mono ?_;rintro ex W5 ⟨v5,o5,rfl,e4,b7,e5⟩;have b8:=ae (aI ((f5.out.mono (T':=KC D M) (fun _ h=>h.elim)).trans e4) (aI b7 e5));obtain ⟨ya,yc,rfl⟩:=b7.form;clear e4 b7 e5 e3;go_wp2_with fail;go_ret;refine ⟨_,o5,rfl,b8.out.1, ?_, ?_⟩
     ·rw [<-F.out];exact b8.out.2.1
     ·rw [<-F.out];exact b8.out.2.2
    | none =>
     rw [hg] at r;simp only [Option.isSome_none,Bool.false_eq_true,if_false] at r;rw [if_neg (fun h=>h.elim (fun h=>h a5) c9)] at r;have f0:∀ x ∈ es,x.1 ≠ src:=by
      intro x hx he;obtain ⟨i6,Y,-⟩:=g4 x hx;rw [he] at Y;rw [List.getD_eq_getElem?_getD,Y] at hg;simp at hg
     have d3:=UE b5 f0;have b6:=Agu V 0 none 0 0;have k4:=(aj.refl ai V o1).alloc (.cells [.int .u64 0, .slice none 0 0].toArray 203) (0,0);generalize Ak o1 V.heap.size (0,0)=o4 at *;obtain ⟨W4,d4⟩:=az (V.alloc (.cells [Value.int .u64 0, .slice none 0 0].toArray 203));rw [d4] at k4 b6;have h5:V.alloc (.cells #[Value.int .u64 0, .slice none 0 0] 203)=W4:=d4;rw [h5] at e0;obtain ⟨V6,f1⟩:=az (W4.drew);have k6:aj ai V o1 V6 o4:=by rw [<-f1];exact k4.drew
     have c6:=e7 V6 o4 k6;rw [<-f1] at c6;have f9:=(k6.block mk (au b5) id).trans b5;have d6:o4 mk=(M+4,2):=by rw [k6.own mk (au b5)];exact g2
     have g0:=Md f9 f0 m.c (.slice la n lc);have kk:=(aj.refl (ak (M+4)) V6 o4).DR mk (.map (Bd 0 (es++[(src,m.c,Value.slice la n lc)])).toArray (es++[(src,m.c,Value.slice la n lc)]).length) (.inl (by rw [d6];rfl));have n4:¬ ak (M+4) 0:=fun h=>by unfold ak at h;omega
     have h6:OE _ o4 (M+4) mk (has.set src (some (m.c,m.ls))):=dY (w:=V6) (o:=o4) (Ot (au f9)) d6 g3 f0 (fun x hx=>by obtain ⟨ls,a,b⟩:=e8 x hx;exact ⟨ls,a,b.step k6 id⟩) (fun i p hp=>g5 i p hp) (fun v l h=>h.step kk n4) d9 ((f3.step k6 id).step kk n4 |>.low (Nat.zero_le _));have g6:o4 p=(M+4,1):=(k6.own p (au a8)).trans c8;have h7:mk ≠ p:=fun h=>by rw [h,g6] at d6;cases d6
     have h8:mk ≠ pz:=fun h=>by have:=(d1.step k6 id).2;rw [<-h,d6] at this;cases this
     have d5:Qx (DR V6 mk (.map (Bd 0 (es++[(src,m.c,Value.slice la n lc)])).toArray (es++[(src,m.c,Value.slice la n lc)]).length)) o4 D M pz ps pd p ({ z with BB := .stands mine (has.set src (some (m.c,m.ls))) }:Am) mine (has.set src (some (m.c,m.ls))):=
      ⟨ML,⟨(JS h8).trans (d1.step k6 id).1,(d1.step k6 id).2⟩,⟨mk,(JS h7).trans ((k6.block p (au a8) id).trans a8),g6,h6⟩,(e9.step0 k6).step kk (KC.self ML.1)⟩
     obtain ⟨W7,h9⟩:=az (DR V6 mk (.map (Bd 0 (es++[(src,m.c,Value.slice la n lc)])).toArray (es++[(src,m.c,Value.slice la n lc)]).length));rw [h9] at g0 kk d5;have e3:=ae (lead_any d5 rfl (hp.promised a2 src ⟨hm.n1,hm.hl,Nat.le_add_left _ _⟩) hK hB);have f5:=ae ((((U.trans E).trans k6).mono (T':=KC D M) (fun _ h=>h.elim)).trans (kk.mono (T':=KC D M) (fun k h=>(show KC D M k by cases h;exact KC.own))));have F:=ae r;have f6:=ae d3;have f7:=ae e0;have f8:=ae b6;have i4:=ae g0;clear hb b4 b3 U gI b1 a6 b2 a4 e2 a9 c4 b9 c0 E hN a7 Y a2 r p0 a3 c8 f2 a5 c9 e7 g1 g2 g3 g4 g5 b5 e8 a8 d1 e9 f3 e0 d3 b6 k4 d4 h5 d5 hg d8 d9 k6 f9 d6 g0 kk n4 h6 g6 h7 h8 f0 h9;go_enter func150,ntmps150
     go_wp2_with ((with_reducible apply BM);exact xH.out;simp only [Act.put,GL,DL,lss])
     refine Aa (fun w'=>w'.cell? ⟨u,1,none⟩=some (.int .u64 (m.e.toNat:Int))/\w'.cell? ⟨u,2,none⟩=some (.int .u64 (m.c.toNat:Int))/\w'.cell? ⟨p,0,none⟩=some (.int .u64 (mine.toNat:Int))) (fun _=>true) (by kernel_rfl) hS (fun J=>?_);rw [hV] at J ⊢;clear hV hS;refine tq 0 (h:=tq 1 (h:=tq 2 (h:=tq 3 (h:=tq 4 (h:=tq 5 (h:=tq 6 (h:=tq 7 (h:=tq 8 (h:=tq 9 (h:=tq 10 (h:=tq 11 (h:=tq 12 (h:=tq 13 (h:=?_))))))))))))));refine tq 14 (h:=tq 15 (h:=tq 16 (h:=tq 17 (h:=tD (h:=?_)))));clear J
     go_wp2_with (first
      | ((with_reducible apply DN);exact f6.out;simp only [Act.put,GL,DL,lss])
      | ((with_reducible apply AU);exact f7.out;simp only [Act.put,GL,DL,lss])
      | ((with_reducible apply AC);exact f8.out;simp only [Act.put]))
     refine Aa (fun w'=>w'.cell? ⟨p,1,none⟩=some (.map (some mk))/\w'.cell? ⟨u,2,none⟩=some (.int .u64 (m.c.toNat:Int))/\w'.cell? ⟨u,5,none⟩=some (.slice la n lc)) (fun i=>decide (i<10)) (by kernel_rfl) c6 (fun J=>?_);rw [f1] at J ⊢;clear f1 c6;refine tq 0 (h:=tq 1 (h:=tq 2 (h:=tq 3 (h:=tq 4 (h:=tq 5 (h:=tq 6 (h:=tq 7 (h:=tq 8 (h:=tq 9 (h:=tO 10 (h:=?_)))))))))));refine QO i4.out ?_;go_wp2_with fail;refine ⟨fun h=>by simp at h, ?_⟩;refine tD (h:=?_);clear cV;go_wp2_with fail;refine e3.out.mono ?_;rintro ex W5 ⟨v5,o5,rfl,e4,b7,e5⟩;have b8:=ae (aI (f5.out.trans e4) (aI b7 e5));obtain ⟨ya,yc,rfl⟩:=b7.form;clear e4 b7 e5 e3;go_wp2_with fail;go_ret;refine ⟨_,o5,rfl,b8.out.1, ?_, ?_⟩
     ·rw [<-F.out];exact b8.out.2.1
     ·rw [<-F.out];exact b8.out.2.2
  ·rw [if_pos (.inl a5)] at r;have i2:¬ (mine.toNat:Int)=(m.e.toNat:Int):=fun h=>a5 (BitVec.eq_of_toNat_eq om);have i7:¬ mine.toNat=m.e.toNat:=fun h=>a5 (BitVec.eq_of_toNat_eq h);have F:=ae r;clear hb b4 b3 U gI b1 a6 b2 a4 e2 a9 c4 b9 c0 E hN a7 Y a2 r p0 a3 c8 e6;go_enter func150,ntmps150
   go_wp2_with ((with_reducible apply BM);exact xH.out;simp only [Act.put,GL,DL,lss])
   refine Aa (fun w'=>w'.cell? ⟨u,1,none⟩=some (.int .u64 (m.e.toNat:Int))/\w'.cell? ⟨u,2,none⟩=some (.int .u64 (m.c.toNat:Int))/\w'.cell? ⟨p,0,none⟩=some (.int .u64 (mine.toNat:Int))) (fun _=>true) (by kernel_rfl) hS (fun J=>?_);rw [hV] at J ⊢;clear hV hS;refine tq 0 (h:=tq 1 (h:=tq 2 (h:=tq 3 (h:=tq 4 (h:=tq 5 (h:=tq 6 (h:=tq 7 (h:=tq 8 (h:=tg 9 (.bool true) (h:=tq 10 (h:=tq 11 (h:=ts 12 (h:=ts 13 (h:=?_))))))))))))));refine ts 14 (h:=ts 15 (h:=ts 16 (h:=tq 17 (h:=tD (h:=?_)))));clear J;go_wp2_with fail;go_ret;refine ⟨_,o1,rfl,hF.out.1.mono (fun _ h=>h.elim), ?_, ?_⟩
   ·rw [<-F.out];exact Dn.nil _ _
   ·rw [<-F.out];exact hF.out.2
end
section
variable {w:World}{o:Own}{D M pz ps pd K B base:Nat}{z:Am}
theorem PZ (h:Bc w o D M pz ps pd z) (hp:Am.NP K B z) (hK:K+600<65536) (src:Nat) (m:BG) (hm:m.May) (hB:B+AP m.ls<=90000){lv:Value}(hl:Lines w o base lv m.ls) :
  Calls prog 153 #[.pointer (some ⟨pz,0,none⟩), .int .i64 (src:Int),Ea m lv] w (XL (KC D M) w o fun v w' o'=>Dn w' o' v (Ed (z.BF src m).2)/\Bc w' o' D M pz ps pd (z.BF src m).1):=by
 obtain ⟨R,q⟩:=az (z.BF src m);rw [q];unfold Am.BF at q;obtain ⟨la,lc,j6⟩:=hl.form;obtain ⟨n,hn⟩:=az (m.ls.length);rw [hn] at j6;subst j6;have j7:z.n<=3:=hp.ok.n3;have j8:1<=z.n:=hp.ok.n1;have g6:En B z.s.kept.lines:=hp.ok.ls;have g7:=En.small g6 om;have s1:=(aj.refl ai w o).alloc (.cells (Bf m (.slice la n lc)).toArray 150) (0,0);have gI:=heap_alloc_new w (.cells (Bf m (.slice la n lc)).toArray 150);have c8:=Au o w.heap.size (0,0);generalize Ak o w.heap.size (0,0)=o1 at *;obtain ⟨W1,g8⟩:=az (w.alloc (.cells (Bf m (.slice la n lc)).toArray 150));rw [g8] at s1 gI;have g2:(Instr.box 150 (Ea m (.slice la n lc))).run prog w = .ok (.pointer (some ⟨w.heap.size,0,none⟩)) W1:=by rw [<-g8];kernel_rfl
 obtain ⟨O,j9⟩:=az (w.heap.size);rw [j9] at gI c8 g2;have J:=h.step0 s1;have d6:=hl.step s1 id;obtain ⟨-, -,e2,-⟩:=J.cell;unfold Ea at g2 ⊢;have xH:=ae g2;have k7:=ae (DJ J.store g7);have hA:=ae (aI s1 (aI gI (aI c8 (aI J d6))));have c9:=ae hp;have a3:=ae hm;have hI:=ae (aI j7 (aI j8 (aI g6 g7)));have d7:=ae hn;clear s1 gI c8 J d6 g8 j9 g2 h hl hp hm j7 j8 g6 g7 hn;go_enter func153,ntmps153
 go_wp2_with ((with_reducible apply BM);exact xH.out;simp only [Act.put,GL,DL,lss])
 refine k7.out.mono ?_;rintro ex w2 ⟨v2,o2,rfl,k8,lk,rfl,g9,rfl⟩;obtain ⟨ka,kc,rfl⟩:=g9.form;obtain ⟨L,hL⟩:=az (z.s.kept.lines.length);have h6:=AB (P:=prog) w2 37 _ OZ;have g3:=MX w2 z.s.kept.promised z.s.kept.current ka L kc;have k3:=(aj.refl ai w2 (ext W1 o1)).alloc (.cells (BR z.s.kept.promised z.s.kept.current (.slice ka L kc)).toArray 37) (0,0);have a4:=heap_alloc_new w2 (.cells (BR z.s.kept.promised z.s.kept.current (.slice ka L kc)).toArray 37);have d1:=Au (ext W1 o1) w2.heap.size (0,0);generalize Ak (ext W1 o1) w2.heap.size (0,0)=o3 at *;obtain ⟨W3,k9⟩:=az (w2.alloc (.cells (BR z.s.kept.promised z.s.kept.current (.slice ka L kc)).toArray 37));rw [k9] at g3 k3 a4;obtain ⟨kb,l0⟩:=az (w2.heap.size);rw [l0] at h6 g3 a4 d1;obtain ⟨s1,gI,c8,J,d6⟩:=hA.out;have d3:=k8.trans k3;have h3:=J.step0 d3;have b6:=(d3.block _ (au gI) id).trans gI;have d4:=(d3.own _ (au gI)).trans c8;have d8:=d6.step d3 id;have d9:=(g9.step k3 id).low (Nat.zero_le _);have e0:=s1.trans d3;rw [hL] at d9;obtain ⟨m0,m1,m2,m3,m4,m5⟩:=Gt b6;have l1:=ag a4 0;have l2:=ag a4 1;have l3:=ag a4 2;simp only [BR,ay,ax] at l1 l2 l3;have p3:=ae (PM h3 hI.out.2.1 hI.out.1 src m.e);have hQ:=ae (aI e0 (aI b6 (aI d4 (aI h3 (aI d8 (aI a4 (aI d1 d9)))))));have p4:=ae h6;have p5:=ae g3;rw [hL];clear k8 g9 h6 g3 k3 a4 d1 k9 l0 s1 gI c8 J d6 d3 h3 b6 d4 d8 d9 e0 k7 e2
 go_wp2_with (first
  | ((with_reducible apply AU);exact p4.out;simp only [Act.put,GL,DL,lss])
  | ((with_reducible apply AC);exact p5.out;simp only [Act.put]))
 refine p3.out.mono ?_;rintro ex w' ⟨rfl,rfl⟩
 cases ho:z.BN.owns src m.e with
 | false =>
  rw [ho] at q;simp only [Bool.not_false,if_true] at q;have u:=ae q;clear ho q;go_wp2_with fail;go_ret;refine ⟨_,o3,rfl,hQ.out.1.mono (fun _ h=>h.elim), ?_, ?_⟩
  ·rw [<-u.out];exact Dn.nil _ _
  ·rw [<-u.out];exact hQ.out.2.2.2.1
 | true =>
  rw [ho] at q;simp only [Bool.not_true,Bool.false_eq_true,if_false] at q;clear ho;have p6:z.s.kept.promised.toNat<=281474976710656:=c9.out.ok.pt
  by_cases l4:m.e.toNat<z.s.kept.promised.toNat
  ·rw [if_pos l4] at q;have u:=ae q;have p7:(m.e.toNat:Int)<(z.s.kept.promised.toNat:Int):=om
   have l5:=ae (Lt hQ.out.2.2.2.1 hI.out.2.2.2 (by have:=a3.out.e1;omega) p6 src);clear q;go_wp2_with fail;refine l5.out.mono ?_;rintro ex w4 ⟨v4,o4,rfl,h7,a5⟩;have Y:=ae (aI (hQ.out.1.trans h7) (aI a5 (hQ.out.2.2.2.1.step0 h7)));obtain ⟨xa,xc,rfl⟩:=a5.form;clear h7 a5 l5;go_wp2_with fail;go_ret;refine ⟨_,o4,rfl,Y.out.1.mono (fun _ h=>h.elim), ?_, ?_⟩
   ·rw [<-u.out];exact Y.out.2.1
   ·rw [<-u.out];exact Y.out.2.2
  ·rw [if_neg l4] at q;have p7:¬ (m.e.toNat:Int)<(z.s.kept.promised.toNat:Int):=om
   by_cases b7:z.s.kept.promised ≠ m.e \/ z.s.kept.current ≠ m.e
   ·rw [if_pos b7] at q;have u:=ae q;clear q
    by_cases e3:z.s.kept.promised=m.e
    ·have p8:¬ (z.s.kept.current.toNat:Int)=(m.e.toNat:Int):=fun h=>(b7.resolve_left (fun h=>h e3)) (BitVec.eq_of_toNat_eq om);have l6:(z.s.kept.promised.toNat:Int)=(m.e.toNat:Int):=by rw [e3]
     clear b7 e3;go_wp2_with fail;go_ret;refine ⟨_,o3,rfl,hQ.out.1.mono (fun _ h=>h.elim), ?_, ?_⟩
     ·rw [<-u.out];exact Dn.nil _ _
     ·rw [<-u.out];exact hQ.out.2.2.2.1
    ·have l6:¬ (z.s.kept.promised.toNat:Int)=(m.e.toNat:Int):=fun h=>e3 (BitVec.eq_of_toNat_eq om);clear b7 e3;go_wp2_with fail;go_ret;refine ⟨_,o3,rfl,hQ.out.1.mono (fun _ h=>h.elim), ?_, ?_⟩
     ·rw [<-u.out];exact Dn.nil _ _
     ·rw [<-u.out];exact hQ.out.2.2.2.1
   ·rw [if_neg b7] at q;have l6:(z.s.kept.promised.toNat:Int)=(m.e.toNat:Int):=by
     by_cases h:z.s.kept.promised=m.e
     ·rw [h]
     ·exact absurd (.inl h) b7
    have p8:(z.s.kept.current.toNat:Int)=(m.e.toNat:Int):=by
     by_cases h:z.s.kept.current=m.e
     ·rw [h]
     ·exact absurd (.inr h) b7
    clear b7;have l7:=ae (FD hQ.out.2.2.2.1);rw [hL] at q;go_wp2_with fail;refine l7.out.mono ?_;rintro ex W7 ⟨v7,o7,rfl,d5,rfl,l8⟩;have n4:¬ ak (M+4) 0:=fun h=>by unfold ak at h;omega
    obtain ⟨e0,b6,d4,h3,d8,a4,d1,d9⟩:=hQ.out;have h8:=(d5.block O (au b6) (by rw [d4];exact n4)).trans b6;have l9:=(d5.block kb (au a4) (by rw [d1];exact n4)).trans a4;have m6:(o7 O).1=0:=by rw [d5.own O (au b6),d4]
    have wY:=d8.step d5 n4;have m7:=(e0.mono (T':=KC D M) (fun _ h=>h.elim)).trans (d5.mono (T':=KC D M) (fun k h=>(show KC D M k by cases h;exact KC.own)));obtain ⟨h9,i0,i1,i2,i3,i4⟩:=Gt h8;have g4:=ag l9 2;simp only [BR,ay,ax] at g4;have r6:(0:Int)<=(m.at':Int)/\(m.at':Int)<=256:=by have:=a3.out.a1;omega
    have r7:(0:Int)<=(L:Int)/\(L:Int)<=256:=by have:=hI.out.2.2.1.n;omega
    have r8:(0:Int)<=(n:Int)/\(n:Int)<=256:=by have:=a3.out.n1;have:=d7.out;omega
    have E:=ae (aI m7 (aI l8 (aI h8 (aI m6 wY))));clear d5 l8 e0 b6 d4 h3 d8 a4 d1 d9 h8 l9 m6 wY m7 l7 m0 m1 m2 m3 m4 m5 l1 l2 l3
    by_cases m8:L<m.at'
    ·rw [if_pos m8] at q;have u:=ae q;have p9:(L:Int)<(m.at':Int):=om
     clear q;go_wp2_with fail;go_ret;refine ⟨_,o7,rfl,E.out.1, ?_, ?_⟩
     ·rw [<-u.out];exact Dn.nil _ _
     ·rw [<-u.out];exact E.out.2.1
    ·rw [if_neg m8] at q;have p9:¬ (L:Int)<(m.at':Int):=om
     obtain ⟨xi,q0⟩:=az (min n (L - m.at'));have m9:min (n:Int) ((L:Int) - (m.at':Int))=(xi:Int):=om
     have n5:xi<=m.ls.length:=by rw [d7.out];omega
     have n6:m.ls.drop (L - m.at')=m.ls.drop xi:=by
      by_cases hc:L - m.at'<=n
      ·rw [show xi=L - m.at' by omega]
      ·rw [List.drop_eq_nil_of_le (by rw [d7.out];omega),List.drop_eq_nil_of_le (by rw [d7.out];omega)]
     rw [n6] at q;obtain ⟨sv,i5,g5⟩:=Oz E.out.2.2.2.2 xi n5;obtain ⟨more,b1⟩:=az (m.ls.drop xi);rw [b1] at g5 q;obtain ⟨sa,sc,rfl⟩:=g5.form;obtain ⟨r,hr⟩:=az (more.length);rw [hr] at i5;have r9:(0:Int)<=(r:Int)/\(r:Int)<=256:=by
      have:more.length<=m.ls.length:=by rw [<-b1,List.length_drop];omega
      rw [hr,d7.out] at this;omega
     have e4:=ae i5;have i6:=ae g5;have i7:=ae b1;have tN:=ae hr;clear i5 g5 n6 n5 q0
     by_cases e5:more=[]
     ·rw [if_pos e5] at q;have q1:r=0:=by rw [<-hr,e5];rfl
      subst q1;have u:=ae q;clear q hr b1
      go_wp2_with ((with_reducible apply FM);exact e4.out _;simp only [Act.put,GL,DL,lss])
      clear h9 i0 i1 i2 i3 i4 g4 m9;obtain ⟨F,a6⟩:=az (z.follow);obtain ⟨WE,q2⟩:=az (W7);obtain ⟨oE,q3⟩:=az (o7);have e7:F.Ag=z.Ag:=by rw [<-a6];rfl
      have b8:F.s=z.s:=by rw [<-a6];rfl
      have hE:=ae (aI E.out.1 (aI E.out.2.1 (aI E.out.2.2.1 E.out.2.2.2.1)));rw [a6] at u hE;rw [<-hL] at u;rw [<-b8] at u;have a9:=ae (aI hI.out.2.2.2 hI.out.2.2.1.n);rw [<-b8] at a9;subst q2;subst q3;clear E i6 e4 i7 tN a6 b8;obtain ⟨V,hV⟩:=az (W7.drew);have dr:aj ai W7 o7 V o7:=by rw [<-hV];exact (aj.refl ai W7 o7).drew
      have b2:=hE.out.2.1.step0 dr;have b9:=(dr.block _ (au hE.out.2.2.1) id).trans hE.out.2.2.1;obtain ⟨-, -,e2, -, -,U⟩:=b2.cell;rw [e7] at U;have q4:V.cell? ⟨O,4,none⟩=some (.int .i64 (m.com:Int)):=ag b9 4;have hS:=aI U (aI q4 e2);rw [<-hV] at hS;have e8:=ae (DJ b2.store a9.out.1);have a7:=ae (aI (hE.out.1.trans (dr.mono (T':=KC D M) (fun _ h=>h.elim))) (aI b2 b9));obtain ⟨a2,e9⟩:=az (F.s.kept.lines.length);have q5:(0:Int)<=(z.Ag:Int)/\(z.Ag:Int)<=256:=by
       have J:z.Ag<=z.s.kept.lines.length:=c9.out.ok.co;have:=hI.out.2.2.1.n;omega
      have q6:(0:Int)<=(m.com:Int)/\(m.com:Int)<=256:=by have:=a3.out.o1;omega
      have q7:(0:Int)<=(a2:Int)/\(a2:Int)<=256:=by have:=a9.out.2;omega
      have f0:min (m.com:Int) (a2:Int)=((min m.com a2:Nat):Int):=om
      obtain ⟨mn,c0⟩:=az (min m.com a2);rw [c0] at f0;have i8:max (z.Ag:Int) (mn:Int)=((max z.Ag mn:Nat):Int):=om
      have c3:=ae e9;have f1:=ae c0;clear dr b2 b9 e2 U q4 e9 c0;refine Aa (fun w'=>w'.cell? ⟨pz,6,none⟩=some (.int .i64 (z.Ag:Int))/\w'.cell? ⟨O,4,none⟩=some (.int .i64 (m.com:Int))/\w'.cell? ⟨pz,2,none⟩=some (.pointer (some ⟨ps,0,none⟩))) (fun i=>decide (i<18)) (by kernel_rfl) hS (fun f2=>?_);rw [hV] at f2 ⊢;clear hV hS;refine tq 0 (h:=tq 1 (h:=tq 2 (h:=tq 3 (h:=tq 4 (h:=tq 5 (h:=tq 6 (h:=tq 7 (h:=tq 8 (h:=tq 9 (h:=tq 10 (h:=tO 11 (h:=?_))))))))))));go_wp2_with fail;refine e8.out.mono ?_;rintro ex W9 ⟨v9,o9,rfl,a8,q8,rfl,f3,rfl⟩;obtain ⟨i9,j0,rfl⟩:=f3.form;rw [c3.out];have b3:=a7.out.2.1.step0 a8;have b4:=(a8.block _ (au a7.out.2.2) id).trans a7.out.2.2;have f4:(ext V o7 O).1=0:=by rw [a8.own _ (au a7.out.2.2)];exact hE.out.2.2.2
      obtain ⟨-, -,e2, -, -,U⟩:=b3.cell;rw [e7] at U;have q4:W9.cell? ⟨O,4,none⟩=some (.int .i64 (m.com:Int)):=ag b4 4;have f5:=aI U (aI q4 e2);have f6:=b3.free 6;obtain ⟨c4,c6⟩:=b3.Ag (max z.Ag mn);have n4:¬ ak (M+4) 0:=fun h=>by unfold ak at h;omega
      have f7:=(c6.block O (au b4) (by rw [f4];exact n4)).trans b4;have j1:=ag f7 1;simp only [Bf,ay,ax] at j1;have f8:=ae (OY (D:=D) c4 a9.out.2 a9.out.1 m.e a3.out.e1 a3.out.e2 src);have f9:=ae (aI ((a7.out.1.trans (a8.mono (T':=KC D M) (fun _ h=>h.elim))).trans (c6.mono (T':=KC D M) (fun k h=>(show KC D M k by cases h;exact KC.own)))) c4);have j2:=fun W=>He W (.int .u64 (F.s.kept.promised.toNat:Int)) (.int .u64 (F.s.kept.current.toNat:Int)) (.slice i9 a2 j0);unfold Dy;clear a8 f3 b3 b4 f4 c4 c6 n4 f7 e8 f2;go_wp2_with fail;refine ⟨fun _=>f5, ?_⟩;refine tq 12 (h:=tq 13 (h:=tq 14 (h:=tq 15 (h:=tO 16 (h:=?_)))));go_wp2_with fail;refine ⟨fun _=>f5, ?_⟩;refine tq 17 (h:=tO 18 (h:=?_));go_wp2_with fail;refine ⟨fun h=>by simp at h, ?_⟩;refine tD (h:=?_);clear U q4 e2 f6 f0 i8 j2;go_wp2_with fail;refine f8.out.mono ?_;rintro ex q9 ⟨r0,j3,rfl,c7,a5⟩;have Y:=ae (aI (f9.out.1.trans (c7.mono (fun _ h=>h.elim))) (aI a5 (f9.out.2.step0 c7)));obtain ⟨xa,xc,rfl⟩:=a5.form;clear c7 a5 f8;go_wp2_with fail;go_ret;refine ⟨_,j3,rfl,Y.out.1, ?_, ?_⟩
      ·rw [<-u.out,c3.out,f1.out];exact Y.out.2.1
      ·rw [<-u.out,c3.out,f1.out];exact Y.out.2.2
     ·rw [if_neg e5] at q;have r1:0<r:=by
       rw [<-hr];exact List.length_pos_iff.2 e5
      have s2:(0:Int)<(r:Int):=om
      have n7:AP more<=AP m.ls:=by rw [<-b1];exact FN _ _
      have n8:small more:=by
       have J:=a3.out.small;have h2:=FN m.ls xi;rw [b1] at h2;have h3:more.length<=m.ls.length:=by rw [<-b1,List.length_drop];omega
       refine ⟨Nat.le_trans h3 J.1, ?_⟩;rw [Ej];have:=J.2;rw [Ej] at this;omega
      have n9:small (z.s.kept.lines++more):=by
       have J:=hI.out.2.2.1;have h4:more.length<=m.ls.length:=by rw [<-b1,List.length_drop];omega
       have h5:=a3.out.n1;refine ⟨by rw [List.length_append];have:=J.n;omega, ?_⟩;rw [Ej,List.length_append,DV];have:=J.n;have:=J.b;omega
      have g0:=Ob E.out.2.1.tags E.out.2.1.store c9.out.sp i6.out n8 hI.out.2.2.2 (.inl n9);have o0:=Jy c9.out.sp hK c9.out.kok more;obtain ⟨Q,r2⟩:=az (z.s.append more);have r3:z.follow.s=z.s:=rfl;rw [r3] at g0;simp only [r2] at g0 o0 q;rw [hr] at g0;have xK:=ae g0;obtain ⟨-, -,e2,-⟩:=E.out.2.1.cell;clear g0 n7 n8 n9 hr r1 b1 e5
      rcases o0 with ⟨s',er,j4,j5⟩ | ⟨o5,s',j4,s4,o6⟩
      ·subst j4;have s6:(er == 0)=false:=by simpa using j5
       have s7:(er != 0)=true:=by simpa using j5
       rw [if_neg (show ¬ (s',er).2=0 from j5)] at q;have u:=ae q;clear q
       go_wp2_with ((with_reducible apply FM);exact e4.out _;simp only [Act.put,GL,DL,lss])
       refine xK.out.mono ?_;rintro ex W8 ⟨v8,o8,rfl,b5,rfl,g1⟩;have Y:=ae (aI (E.out.1.trans (b5.mono KC.in4)) (E.out.2.1.restore b5 g1));clear b5 g1 xK h9 i0 i1 i2 i3 i4 g4 e2;go_wp2_with fail;go_ret;refine ⟨_,o8,rfl,Y.out.1, ?_, ?_⟩
       ·rw [<-u.out];exact Dn.nil _ _
       ·rw [<-u.out];exact Y.out.2
      ·subst j4;rw [if_pos rfl] at q;have u:=ae q;clear q
       go_wp2_with ((with_reducible apply FM);exact e4.out _;simp only [Act.put,GL,DL,lss])
       refine xK.out.mono ?_;rintro ex W8 ⟨v8,o8,rfl,b5,rfl,g1⟩;have n0:=n04 E.out.2.1.tags;obtain ⟨F,a6⟩:=az (({ z.follow with s:=s' }:Am));have e7:F.Ag=z.Ag:=by rw [<-a6];rfl
       have b8:F.s=s':=by rw [<-a6]
       have hE:=ae (aI (E.out.1.trans (b5.mono KC.in4)) (aI (E.out.2.1.restore b5 g1) (aI ((b5.block O (au E.out.2.2.1) (by rw [E.out.2.2.2.1];exact n0)).trans E.out.2.2.1) (show (o8 O).1=0 by rw [b5.own O (au E.out.2.2.1)];exact E.out.2.2.2.1))));have r4:=Si o5;have p0:=Ih o5;have p1:s'.kept.lines=z.s.kept.lines++more:=by rw [o6,p0]
       have a9:Hid (small F.s.kept.lines/\F.s.kept.lines.length<=256):=by
        refine ae ?_;rw [b8,p1];have J:=hI.out.2.2.1;have n7:AP more<=AP m.ls:=by rw [<-i7.out];exact FN _ _
        refine ⟨⟨by rw [List.length_append];omega, ?_⟩,by rw [List.length_append];omega⟩;rw [Ej,List.length_append,DV];have:=J.b;omega
       rw [<-b8] at u;have r5:∀ c,({ id:=z.follow.id,n:=z.follow.n,s:=F.s,BB:=z.follow.BB,waited:=z.follow.waited,seen:=z.follow.seen,Ag:=c }:Am)={ F with Ag:=c }:=by intro c;rw [<-a6]
       have p2:Hid ((({ F with Ag:=max z.Ag (min m.com F.s.kept.lines.length) }:Am),({ F with Ag:=max z.Ag (min m.com F.s.kept.lines.length) }:Am).BN.ack src m.e)=R):=by
        refine ae ?_;rw [<-u.out, <-a6]
       rw [a6] at hE;clear u;have u:=p2;clear p2 b5 g1 xK h9 i0 i1 i2 i3 i4 g4 e2 m9 r4 p0 p1 r5 a6 b8 o6 n0 i6 e4 i7 tN E;go_wp2_with fail;obtain ⟨V,hV⟩:=az (W8.drew);have dr:aj ai W8 o8 V o8:=by rw [<-hV];exact (aj.refl ai W8 o8).drew
       have b2:=hE.out.2.1.step0 dr;have b9:=(dr.block _ (au hE.out.2.2.1) id).trans hE.out.2.2.1;obtain ⟨-, -,e2, -, -,U⟩:=b2.cell;rw [e7] at U;have q4:V.cell? ⟨O,4,none⟩=some (.int .i64 (m.com:Int)):=ag b9 4;have hS:=aI U (aI q4 e2);rw [<-hV] at hS;have e8:=ae (DJ b2.store a9.out.1);have a7:=ae (aI (hE.out.1.trans (dr.mono (T':=KC D M) (fun _ h=>h.elim))) (aI b2 b9));obtain ⟨a2,e9⟩:=az (F.s.kept.lines.length);have q5:(0:Int)<=(z.Ag:Int)/\(z.Ag:Int)<=256:=by
        have J:z.Ag<=z.s.kept.lines.length:=c9.out.ok.co;have:=hI.out.2.2.1.n;omega
       have q6:(0:Int)<=(m.com:Int)/\(m.com:Int)<=256:=by have:=a3.out.o1;omega
       have q7:(0:Int)<=(a2:Int)/\(a2:Int)<=256:=by have:=a9.out.2;omega
       have f0:min (m.com:Int) (a2:Int)=((min m.com a2:Nat):Int):=om
       obtain ⟨mn,c0⟩:=az (min m.com a2);rw [c0] at f0;have i8:max (z.Ag:Int) (mn:Int)=((max z.Ag mn:Nat):Int):=om
       have c3:=ae e9;have f1:=ae c0;clear dr b2 b9 e2 U q4 e9 c0;refine Aa (fun w'=>w'.cell? ⟨pz,6,none⟩=some (.int .i64 (z.Ag:Int))/\w'.cell? ⟨O,4,none⟩=some (.int .i64 (m.com:Int))/\w'.cell? ⟨pz,2,none⟩=some (.pointer (some ⟨ps,0,none⟩))) (fun i=>decide (i<18)) (by kernel_rfl) hS (fun f2=>?_);rw [hV] at f2 ⊢;clear hV hS;refine tq 0 (h:=tq 1 (h:=tq 2 (h:=tq 3 (h:=tq 4 (h:=tq 5 (h:=tq 6 (h:=tq 7 (h:=tq 8 (h:=tq 9 (h:=tq 10 (h:=tO 11 (h:=?_))))))))))));go_wp2_with fail;refine e8.out.mono ?_;rintro ex W9 ⟨v9,o9,rfl,a8,q8,rfl,f3,rfl⟩;obtain ⟨i9,j0,rfl⟩:=f3.form;rw [c3.out];have b3:=a7.out.2.1.step0 a8;have b4:=(a8.block _ (au a7.out.2.2) id).trans a7.out.2.2;have f4:(ext V o8 O).1=0:=by rw [a8.own _ (au a7.out.2.2)];exact hE.out.2.2.2
       obtain ⟨-, -,e2, -, -,U⟩:=b3.cell;rw [e7] at U;have q4:W9.cell? ⟨O,4,none⟩=some (.int .i64 (m.com:Int)):=ag b4 4;have f5:=aI U (aI q4 e2);have f6:=b3.free 6;obtain ⟨c4,c6⟩:=b3.Ag (max z.Ag mn);have n4:¬ ak (M+4) 0:=fun h=>by unfold ak at h;omega
       have f7:=(c6.block O (au b4) (by rw [f4];exact n4)).trans b4;have j1:=ag f7 1;simp only [Bf,ay,ax] at j1;have f8:=ae (OY (D:=D) c4 a9.out.2 a9.out.1 m.e a3.out.e1 a3.out.e2 src);have f9:=ae (aI ((a7.out.1.trans (a8.mono (T':=KC D M) (fun _ h=>h.elim))).trans (c6.mono (T':=KC D M) (fun k h=>(show KC D M k by cases h;exact KC.own)))) c4);have j2:=fun W=>He W (.int .u64 (F.s.kept.promised.toNat:Int)) (.int .u64 (F.s.kept.current.toNat:Int)) (.slice i9 a2 j0);unfold Dy;clear a8 f3 b3 b4 f4 c4 c6 n4 f7 e8 f2;go_wp2_with fail;refine ⟨fun _=>f5, ?_⟩;refine tq 12 (h:=tq 13 (h:=tq 14 (h:=tq 15 (h:=tO 16 (h:=?_)))));go_wp2_with fail;refine ⟨fun _=>f5, ?_⟩;refine tq 17 (h:=tO 18 (h:=?_));go_wp2_with fail;refine ⟨fun h=>by simp at h, ?_⟩;refine tD (h:=?_);clear U q4 e2 f6 f0 i8 j2;go_wp2_with fail;refine f8.out.mono ?_;rintro ex q9 ⟨r0,j3,rfl,c7,a5⟩;have Y:=ae (aI (f9.out.1.trans (c7.mono (fun _ h=>h.elim))) (aI a5 (f9.out.2.step0 c7)));obtain ⟨xa,xc,rfl⟩:=a5.form;clear c7 a5 f8;go_wp2_with fail;go_ret;refine ⟨_,j3,rfl,Y.out.1, ?_, ?_⟩
       ·rw [<-u.out,c3.out,f1.out];exact Y.out.2.1
       ·rw [<-u.out,c3.out,f1.out];exact Y.out.2.2
end
theorem EI {w:World}{b:Nat}(hb:w.heap[b]?=some HY) (k:Nat) (f:Nat) (q:(k=1/\f=149) \/ (k=2/\f=150) \/ (k=3/\f=151) \/ (k=4/\f=152) \/ (k=5/\f=153) \/ (k=6/\f=154)) :
  (Instr.lookup 158 (.map (some b)) (.int .u8 (k:Int)) false).run prog w = .ok (.func (.func f) #[] #[]) w:=by
 have r:∀ k:Int,(Instr.checkKey false 10000 5 (.int .u8 k)).run prog w = .ok () w:=fun k=>by
  unfold Instr.checkKey;simp [run_underlying underlying5]
 unfold HY at hb
 rcases q with ⟨rfl,rfl⟩ | ⟨rfl,rfl⟩ | ⟨rfl,rfl⟩ | ⟨rfl,rfl⟩ | ⟨rfl,rfl⟩ | ⟨rfl,rfl⟩
 all_goals
  simp only [Instr.lookup,Sem.run_bind,run_underlying underlying158,Result.andThen_ok,MapKept.run_getObj_map hb,Sem.run_pure,Instr.findKey,run_underlying underlying5];simp [Instr.findNow,Instr.sameNow,r]
section
variable {w:World}{o:Own}{D M pz ps pd K B base:Nat}{z:Am}
theorem YU (hp:Am.NP K B z) (u:K+600<65536) (src:Nat) (F:src<z.n) (m:BG) (q:m.May) (J:B+AP m.ls<=90000) :
  ∃ f,(∀ (W:World) (b:Nat),W.heap[b]?=some HY->(Instr.lookup 158 (.map (some b)) (.int .u8 (m.k:Int)) false).run prog W = .ok (.func (.func f) #[] #[]) W) /\
   (∀ (args:Array Value) (x:World),(callFunc f args).run prog x = .ok (.enter f args) x) /\
   ∀ (w:World) (o:Own) (base:Nat) (lv:Value),Bc w o D M pz ps pd z->Lines w o base lv m.ls->Calls prog f #[.pointer (some ⟨pz,0,none⟩), .int .i64 (src:Int),Ea m lv] w (XL (KC D M) w o fun v w' o'=>Dn w' o' v (Ed (z.Ec src m).2)/\Bc w' o' D M pz ps pd (z.Ec src m).1):=by
 have U:=q.k6;have Y:=q.k1;have E:B<=90000:=om
 have O:AP m.ls<=90000:=om
 by_cases k1:m.k=1
 ·refine ⟨149,fun W b hb=>EI hb _ _ (.inl ⟨k1,rfl⟩),Tryz.call149,fun w o base lv h hl=>?_⟩;have e:z.Ec src m=z.BK src m:=by unfold Am.Ec;rw [if_pos k1]
  rw [e];exact QQ h hp u E src m q hl
 ·by_cases k2:m.k=2
  ·refine ⟨150,fun W b hb=>EI hb _ _ (.inr (.inl ⟨k2,rfl⟩)),Tryz.call150,fun w o base lv h hl=>?_⟩;have e:z.Ec src m=z.Bj src m:=by unfold Am.Ec;rw [if_neg k1,if_pos k2]
   rw [e];exact OM h hp u src F m q J hl
  ·by_cases r:m.k=3
   ·refine ⟨151,fun W b hb=>EI hb _ _ (.inr (.inr (.inl ⟨r,rfl⟩))),Tryz.call151,fun w o base lv h hl=>?_⟩;have e:z.Ec src m=z.Cj m:=by unfold Am.Ec;rw [if_neg k1,if_neg k2,if_pos r]
    rw [e];exact PX h hp E src m q hl
   ·by_cases k4:m.k=4
    ·refine ⟨152,fun W b hb=>EI hb _ _ (.inr (.inr (.inr (.inl ⟨k4,rfl⟩)))),Tryz.call152,fun w o base lv h hl=>?_⟩;have e:z.Ec src m=z.BD src m:=by unfold Am.Ec;rw [if_neg k1,if_neg k2,if_neg r,if_pos k4]
     rw [e];exact QR h hp u E src m q O hl
    ·by_cases k5:m.k=5
     ·refine ⟨153,fun W b hb=>EI hb _ _ (.inr (.inr (.inr (.inr (.inl ⟨k5,rfl⟩))))),Tryz.call153,fun w o base lv h hl=>?_⟩;have e:z.Ec src m=z.BF src m:=by unfold Am.Ec;rw [if_neg k1,if_neg k2,if_neg r,if_neg k4,if_pos k5]
      rw [e];exact PZ h hp u src m q J hl
     ·have k6:m.k=6:=om
      refine ⟨154,fun W b hb=>EI hb _ _ (.inr (.inr (.inr (.inr (.inr ⟨k6,rfl⟩))))),Tryz.call154,fun w o base lv h hl=>?_⟩;have e:z.Ec src m=z.CJ src m:=by unfold Am.Ec;rw [if_neg k1,if_neg k2,if_neg r,if_neg k4,if_neg k5]
      rw [e];exact VA h hp E src F m q hl
theorem bC (h:Bc w o D M pz ps pd z) (hp:Am.NP K B z) (hK:K+600<65536) (src:Nat) (f3:src<z.n) (g4:src ≠ z.id){bv:Value}{l:List UInt8}(hb:Bytes w o bv l) (hl:l.length<=1000000){m:BG}(hg:Jn l=some m) (hB:B+AP m.ls<=90000) :
  Calls prog 57 #[.pointer (some ⟨pz,0,none⟩), .int .i64 (src:Int),bv] w (XL (KC D M) w o fun v w' o'=>Dn w' o' v (Ed (z.hear src m).2)/\Bc w' o' D M pz ps pd (z.hear src m).1):=by
 have hm:=VH hg;have b2:=FI h;have c7:z.dead=false:=hp.sp.dead;rw [c7] at b2;have f4:=ae b2;have c8:=ae (Ug hb hl);obtain ⟨c0,c1,-⟩:=h.cell;obtain ⟨ba,bc,rfl⟩:=Aq hb;have i1:decide ((src:Int)<0)=false:=decide_eq_false om;have i2:decide (z.n<=src)=false:=decide_eq_false om;have i3:((src:Int) == (z.id:Int))=false:=by
  have:¬ (src:Int)=(z.id:Int):=om
  simpa using this
 have f6:z.seen.toNat<=281474976710656:=hp.ok.se;have c9:=Vl z.seen m.e;obtain ⟨a,ha⟩:=az (Fj z.seen m.e);rw [ha] at c9;have d1:max (z.seen.toNat:Int) (m.e.toNat:Int)=(a.toNat:Int):=om
 have r:=hp.ok;have d3:Am.NP K B ({ z with seen:=a }:Am):=⟨hp.sp,⟨⟨r.n1,r.n3,r.id,r.ls,r.cp,r.pt,(by show a.toNat<=_;have:=hm.e2;omega),r.co⟩,r.ro⟩⟩;obtain ⟨fk,d4,d5,d6⟩:=YU (D:=D) (M:=M) (pz:=pz) (ps:=ps) (pd:=pd) d3 hK src f3 m hm hB;have hR:z.hear src m=({ z with seen:=a }:Am).Ec src m:=by rw [<-ha];rfl
 rw [hR];obtain ⟨n,hn⟩:=az (m.ls.length);have hH:=ae (aI h hm);have f7:=ae d4;have f8:=ae d6;have WV:=ae d5;have f9:=ae d1;clear h b2 hb c7 hp hm f6 c9 d1 r d3 d4 d6 hR ha d5;go_enter func57,ntmps57;go_wp2_with fail;refine f4.out.mono ?_;rintro e w' ⟨rfl,rfl⟩;go_wp2_with fail;refine c8.out.mono ?_;rintro e u ⟨v1,o1,rfl,b3,d7⟩;obtain ⟨lv,rfl,b4⟩:=d7.1 m hg;obtain ⟨E,F,d8⟩:=b4.form;rw [hn] at d8;subst d8;have b5:=ae (AB (P:=prog) u 150 _ Oa);have a2:=KN u m E n F;have k2:=(aj.refl ai u o1).alloc (.cells (Bf m (.slice E n F)).toArray 150) (0,0);have a5:=heap_alloc_new u (.cells (Bf m (.slice E n F)).toArray 150);have a6:=Au o1 u.heap.size (0,0);generalize Ak o1 u.heap.size (0,0)=J at *;obtain ⟨W2,d9⟩:=az (u.alloc (.cells (Bf m (.slice E n F)).toArray 150));rw [d9] at a2 k2 a5;obtain ⟨q,e0⟩:=az (u.heap.size);rw [e0] at b5 a2 a5 a6;unfold DI at a2;have e3:=ae a2;obtain ⟨V,hV⟩:=az (W2.drew);have kV:aj ai u o1 V J:=by rw [<-hV];exact k2.drew
 have a7:=(hH.out.1.step0 b3).step0 kV;have a8:V.heap[q]?=some (.cells (Bf m (.slice E n F)).toArray 150 (0,0)):=by rw [<-hV];exact a5
 obtain ⟨-, -, -, -,e5,-⟩:=a7.cell;have f5:=a7.free 5;have b6:=aI e5 (show V.cell? ⟨q,1,none⟩=some (.int .u64 (m.e.toNat:Int)) from ag a8 1);rw [<-hV] at b6;obtain ⟨e4,e6⟩:=a7.seen a;have n4:¬ ak (M+4) 0:=fun h=>by unfold ak at h;omega
 obtain ⟨V7,a3⟩:=az ((V.setCell ⟨pz,5,none⟩ (.int .u64 (a.toNat:Int))).drew);have k7:aj (ak (M+4)) V J V7 J:=by rw [<-a3];exact e6.drew
 have e7:Bc V7 J D M pz ps pd { z with seen:=a }:=by rw [<-a3];exact e4.step0 (aj.refl ai _ J).drew
 have a9:=(k7.block q (au a8) (by rw [a6];exact n4)).trans a8;have wY:=(b4.step kV id).step k7 n4;have b7:∀ W O,aj ai V7 J W O->W.cell? ⟨q,0,none⟩=some (.int .u8 (m.k:Int))/\W.cell? ⟨q,1,none⟩=some (.int .u64 (m.e.toNat:Int))/\W.cell? ⟨q,2,none⟩=some (.int .u64 (m.c.toNat:Int))/\W.cell? ⟨q,3,none⟩=some (.int .i64 (m.at':Int))/\W.cell? ⟨q,4,none⟩=some (.int .i64 (m.com:Int))/\W.cell? ⟨q,5,none⟩=some (.slice E n F):=fun W O hJ=>Gt ((hJ.block q (au a9) id).trans a9);have g0:=ae b7;have b8:=b7 V7 J (aj.refl _ _ _);rw [<-a3] at b8;have U:=ae (aI (((b3.trans kV).mono (T':=KC D M) (fun _ h=>h.elim)).trans (k7.mono (T':=KC D M) (fun k h=>(show KC D M k by cases h;exact KC.own)))) (aI e7 (aI wY (aI a9 a6))));have g1:=ae b5;unfold Ea;clear b3 d7 c8 b4 a2 k2 a5 a6 d9 e0 kV a7 a8 e4 e6 n4 k7 e7 a9 wY b7 b5;have e8:=ae (YQ V7 J);unfold Bf at e3
 go_wp2_with (first
  | ((with_reducible apply AU);exact g1.out;simp only [Act.put,GL,DL,lss])
  | ((with_reducible apply AC);exact e3.out;simp only [Act.put]))
 refine Aa (fun w'=>w'.cell? ⟨pz,5,none⟩=some (.int .u64 (z.seen.toNat:Int))/\w'.cell? ⟨q,1,none⟩=some (.int .u64 (m.e.toNat:Int))) (fun i=>decide (i<10)) (by kernel_rfl) b6 (fun a4=>?_);rw [hV] at a4 ⊢;clear hV b6;refine tq 0 (h:=tq 1 (h:=tq 2 (h:=tq 3 (h:=tq 4 (h:=tq 5 (h:=tq 6 (h:=tv 7 (.int .u64 (a.toNat:Int)) (hy:=fun w g2=>by (try dsimp only at g2);go_simp;exact f9.out) (h:=tO 8 (h:=?_)))))))));go_wp2_with fail;refine ⟨fun _=>a4, ?_⟩;refine tq 9 (h:=tO 10 (h:=?_));go_wp2_with fail;refine ⟨fun h=>by simp at h, ?_⟩;refine tD (h:=?_);clear e5 f5;go_wp2_with fail;refine Aa (fun w'=>w'.cell? ⟨q,0,none⟩=some (.int .u8 (m.k:Int))/\w'.cell? ⟨q,1,none⟩=some (.int .u64 (m.e.toNat:Int))/\w'.cell? ⟨q,2,none⟩=some (.int .u64 (m.c.toNat:Int))/\w'.cell? ⟨q,3,none⟩=some (.int .i64 (m.at':Int))/\w'.cell? ⟨q,4,none⟩=some (.int .i64 (m.com:Int))/\w'.cell? ⟨q,5,none⟩=some (.slice E n F)) (fun _=>true) (by kernel_rfl) b8 (fun a4=>?_);rw [a3] at a4 ⊢;clear a3 b8;refine tq 1 (h:=tq 2 (h:=tq 4 (h:=tq 5 (h:=tq 6 (h:=tO 0 (h:=?_))))));go_wp2_with fail;refine e8.out.mono ?_;rintro ex W8 ⟨v8,o8,rfl,Y,hb,rfl,e9⟩;have f0:=g0.out W8 o8 Y;have g3:=ae (f7.out W8 hb e9);have g5:=WV.out;have b9:=f8.out W8 o8 w.heap.size (.slice E n F) (U.out.2.1.step0 Y) (U.out.2.2.1.step Y id);unfold Ea at b9;have f1:=ae b9;have b1:=ae (aI (U.out.1.trans (Y.mono (T':=KC D M) (fun _ h=>h.elim))) (aI ((Y.block q (au U.out.2.2.2.1) id).trans U.out.2.2.2.1) ((Y.own q (au U.out.2.2.2.1)).trans U.out.2.2.2.2)));clear Y e9 e8 a4 b9;go_wp2_with fail;refine ⟨fun _=>f0, ?_⟩;refine tO 3 (h:=?_);refine DN g3.out ?_;simp only [Act.put,GL,DL,lss];go_wp2_with fail;refine ⟨fun _=>f0, ?_⟩;refine tO 7 (h:=?_);go_wp2_with fail;refine f1.out.mono ?_;rintro ex W9 ⟨v9,o9,rfl,c3,c4,c6⟩;have hF:=ae (aI (b1.out.1.trans c3) (aI c4 c6));have f2:=Gt ((c3.block q (au b1.out.2.1) (by rw [b1.out.2.2];exact KC.zero c6.tags.2)).trans b1.out.2.1);obtain ⟨ya,yc,rfl⟩:=c4.form;clear c3 c4 c6 f1;go_wp2_with fail;refine ⟨fun _=>f2, ?_⟩;refine tq 8 (h:=tD (h:=?_));clear f2;go_wp2_with fail;go_ret;exact ⟨_,o9,rfl,hF.out.1,hF.out.2.1,hF.out.2.2⟩
end
theorem gW (w:World) (p:Option Addr):(Instr.typeAssert (.iface 135 (.pointer p)) 138 135 false).run prog w = .ok (.pointer p) w:=by kernel_rfl
theorem LV (w:World) (e:Int) (bv:Value):(Instr.buildSlice 35 1 #[(0, .agg #[.int .u64 e,bv])]).run prog w = .ok (.slice (some ⟨w.heap.size,0,none⟩) 1 1) (w.alloc (.cells [.int .u64 e,bv].toArray 41)):=
 Dv w 35 41 [.int .u64 0, .slice none 0 0] (.agg #[.int .u64 e,bv]) [.int .u64 e,bv] underlying35 (by kernel_rfl) rfl (by simp) (by simp) rfl
theorem NM {w:World}{o:Own}{bv:Value}{e:BitVec 64}{b:List UInt8}(h:Bytes w o bv b) :
  Lines (w.alloc (.cells [.int .u64 (e.toNat:Int),bv].toArray 41)) (Ak o w.heap.size (0,0)) 0 (.slice (some ⟨w.heap.size,0,none⟩) 1 1) [⟨e,b⟩]:=by
 have q:=(aj.refl ai w o).alloc (.cells [.int .u64 (e.toNat:Int),bv].toArray 41) (0,0);refine ⟨[.int .u64 (e.toNat:Int),bv], .inr ⟨w.heap.size,0,1,rfl,by simp,by decide,by rw [Au],by simp, ?_⟩,sW.single ⟨e,b⟩ (h.step q id),CV.zero _,fun u _=>CV.zero u⟩;exact AV (heap_alloc_new w _)
section
variable {w:World}{o:Own}{D M pz ps pd K B:Nat}{z:Am}
theorem dJ (h:Bc w o D M pz ps pd z) (r:z.dead=true) (u:Option Addr) (E F:Nat):Calls prog 47 #[.pointer (some ⟨pz,0,none⟩), .slice u E F] w fun e w'=>e = .returned (.int .i64 9)/\w=w':=by
 have q:=FI h;rw [r] at q;have J:=ae q;clear h r q;go_enter func47,ntmps47;go_wp2_with fail;refine J.out.mono ?_;rintro e w' ⟨rfl,rfl⟩;go_wp2_with fail;go_ret;exact ⟨rfl,rfl⟩
theorem UW (h:Bc w o D M pz ps pd z) (hp:Am.NP K B z) (hK:K+600<65536){bv:Value}{l:List UInt8}(hb:Bytes w o bv l) (hB:B+l.length<=90000) :
  Calls prog 47 #[.pointer (some ⟨pz,0,none⟩),bv] w (XL (KC D M) w o fun v w' o'=>v = .int .i64 (z.BL l).2/\Bc w' o' D M pz ps pd (z.BL l).1):=by
 have a5:=FI h;have a8:z.dead=false:=hp.sp.dead;rw [a8] at a5;have a9:=ae a5;obtain ⟨R,q⟩:=az (z.BL l);rw [q];obtain ⟨ba,bc,rfl⟩:=Aq hb;obtain ⟨n,hn⟩:=az (l.length);have i2:(0:Int)<=(n:Int)/\(n:Int)<=90000:=om
 rw [hn];unfold Am.BL at q;rw [hn] at q;have hH:=ae h
 by_cases Y:n=0 \/ 4096<n
 ·rw [if_pos Y] at q;have u:=ae q;clear a5 a8 q h hp hb hn
  by_cases h0:n=0
  ·subst h0;clear Y;go_enter func47,ntmps47;go_wp2_with fail;refine a9.out.mono ?_;rintro e w' ⟨rfl,rfl⟩;go_wp2_with fail;go_ret;exact ⟨_,o,rfl,aj.refl _ _ _,by rw [<-u.out];rfl,by rw [<-u.out];exact hH.out⟩
  ·have h1:((n:Int) == 0)=false:=by
    have:¬ (n:Int)=0:=om
    simpa using this
   have h2:(4096:Int)<(n:Int):=om
   clear Y;go_enter func47,ntmps47;go_wp2_with fail;refine a9.out.mono ?_;rintro e w' ⟨rfl,rfl⟩;go_wp2_with fail;go_ret;exact ⟨_,o,rfl,aj.refl _ _ _,by rw [<-u.out];rfl,by rw [<-u.out];exact hH.out⟩
 ·rw [if_neg Y] at q;have h1:((n:Int) == 0)=false:=by
   have:¬ (n:Int)=0:=om
   simpa using this
  have h2:decide ((4096:Int)<(n:Int))=false:=decide_eq_false om;have a2:=RF h
  cases hL:z.BN.OD with
  | false =>
   rw [hL] at a2;have b9:=ae a2;have e6:(z,(64:Int))=R:=by
    rw [<-q];have F:(match z.BB with | .leads _ _ _ r=>r | _=>false)=false:=hL
    cases E:z.BB with
    | follows=>rfl
    | stands a b=>rfl
    | leads a b c r =>
     rw [E] at F;simp only at F;subst F;rfl
   have u:=ae e6;clear a5 a8 q e6 h hp hb hn Y a2 hL;go_enter func47,ntmps47;go_wp2_with fail;refine a9.out.mono ?_;rintro e w' ⟨rfl,rfl⟩;go_wp2_with fail;refine b9.out.mono ?_;rintro e w' ⟨rfl,rfl⟩;go_wp2_with fail;go_ret;exact ⟨_,o,rfl,aj.refl _ _ _,by rw [<-u.out];rfl,by rw [<-u.out];exact hH.out⟩
  | true =>
   rw [hL] at a2;have b9:=ae a2;obtain ⟨mine,nR,base,E⟩:∃ mine nR base,z.BB = .leads mine nR base true:=by
    have F:(match z.BB with | .leads _ _ _ r=>r | _=>false)=true:=hL
    cases E:z.BB with
    | follows=>rw [E] at F;cases F
    | stands a b=>rw [E] at F;cases F
    | leads a b c r =>
     rw [E] at F;simp only at F;subst F;exact ⟨a,b,c,rfl⟩
   rw [E] at q;simp only at q;have b1:En B z.s.kept.lines:=hp.ok.ls;have a6:=En.small b1 om;have c0:=ae (DJ h.store a6);obtain ⟨L,a3⟩:=az (z.s.kept.lines.length);rw [a3] at q;have i3:(0:Int)<=(L:Int)/\(L:Int)<=256:=by have:=b1.n;omega
   obtain ⟨-, -,c2,-⟩:=h.cell
   by_cases d3:256<=L
   ·rw [if_pos d3] at q;have u:=ae q;have g7:(256:Int)<=(L:Int):=om
    have c3:=ae a3;clear a5 a8 q h hp hb hn Y a2 hL E b1 a6 a3;go_enter func47,ntmps47;go_wp2_with fail;refine a9.out.mono ?_;rintro e w' ⟨rfl,rfl⟩;go_wp2_with fail;refine b9.out.mono ?_;rintro e w' ⟨rfl,rfl⟩;go_wp2_with fail;refine c0.out.mono ?_;rintro e w1 ⟨v1,o1,rfl,J,lk,rfl,b2,rfl⟩;obtain ⟨ka,kc,rfl⟩:=b2.form;have d4:=fun W=>He W (.int .u64 (z.s.kept.promised.toNat:Int)) (.int .u64 (z.s.kept.current.toNat:Int)) (.slice ka L kc);have hF:=ae (aI J (hH.out.step0 J));rw [c3.out];unfold Dy;clear J b2 c0;go_wp2_with fail;go_ret;exact ⟨_,_,rfl,hF.out.1.mono (fun _ h=>h.elim),by rw [<-u.out];rfl,by rw [<-u.out];exact hF.out.2⟩
   ·rw [if_neg d3] at q;have g7:¬ (256:Int)<=(L:Int):=om
    have yS:=hp.ok.ro;rw [show z.BN.BB=z.BB from rfl,E] at yS;obtain ⟨-,U,a4⟩:=yS;have U:nR.length=z.n:=U;have a4:∀ x ∈ nR, -1<=x/\x<=(z.s.kept.lines.length:Int):=a4;have b3:z.n<=3:=hp.ok.n3;have b4:1<=z.n:=hp.ok.n1;have b5:z.id<z.n:=hp.ok.id;have c4:z.Ag<=z.s.kept.lines.length:=hp.ok.co;have d5:AP [⟨mine,l⟩]=l.length:=by simp [AP]
    have g8:=b1.b;have i4:0<n/\n<=4096:=om
    have e7:=Jy hp.sp hK hp.kok [⟨mine,l⟩];have c6:small [⟨mine,l⟩]:=by
     refine ⟨by simp, ?_⟩;rw [Ej,d5];simp only [List.length_singleton];omega
    have b6:small (z.s.kept.lines++[⟨mine,l⟩]):=by
     refine ⟨by simp only [List.length_append,List.length_singleton];omega, ?_⟩;rw [Ej,DV,d5];simp only [List.length_append,List.length_singleton];omega
    obtain ⟨p,e8⟩:=h.leads E;have g9:=ae e8;rw [hn] at hb;have xZ:=ae hb;have h3:=ae hp.sp;have hI:=ae (aI U (aI a4 (aI b3 (aI b4 (aI b5 (aI c4 (aI a6 (aI c6 b6))))))));have c3:=ae a3;have c7:=ae e7;have e9:=ae E;clear a5 a8 h hp hb hn Y a2 hL E b1 a6 U a4 b3 b4 b5 c4 d5 g8 c6 b6 e8 e7 a3 d3;go_enter func47,ntmps47;go_wp2_with fail;refine a9.out.mono ?_;rintro e w' ⟨rfl,rfl⟩;go_wp2_with fail;refine b9.out.mono ?_;rintro e w' ⟨rfl,rfl⟩;go_wp2_with fail;refine c0.out.mono ?_;rintro e w1 ⟨v1,o1,rfl,J,lk,rfl,b2,rfl⟩;obtain ⟨ka,kc,rfl⟩:=b2.form;have d4:=fun W=>He W (.int .u64 (z.s.kept.promised.toNat:Int)) (.int .u64 (z.s.kept.current.toNat:Int)) (.slice ka L kc);rw [c3.out];unfold Dy;obtain ⟨o1,h5⟩:=az (ext w o);rw [h5] at J;have d6:=g9.out.step J (fun t (h:ai t)=>False.elim h);have f0:=xZ.out.step J id;have e3:=d6.2.1.cells.1.2.2.2.1;have f1:=gW w1 (some ⟨p,0,none⟩);obtain ⟨V,hV⟩:=az (w1.drew);have k1:aj ai w1 o1 V o1:=by rw [<-hV];exact (aj.refl ai w1 o1).drew
    have zX:=d6.step k1 (fun t (h:ai t)=>False.elim h);have f2:=f0.step k1 id;obtain ⟨W2,c8⟩:=az (V.alloc (.cells [.int .u64 (mine.toNat:Int), .slice ba n bc].toArray 41));have f3:(Instr.buildSlice 35 1 #[(0, .agg #[.int .u64 (mine.toNat:Int), .slice ba n bc])]).run prog V = .ok (.slice (some ⟨V.heap.size,0,none⟩) 1 1) W2:=by rw [<-c8];exact LV V _ _
    have f4:Lines W2 (Ak o1 V.heap.size (0,0)) 0 (.slice (some ⟨V.heap.size,0,none⟩) 1 1) [⟨mine,l⟩]:=by rw [<-c8];exact NM f2
    have k2:aj ai V o1 W2 (Ak o1 V.heap.size (0,0)):=by rw [<-c8];exact (aj.refl ai V o1).alloc _ _
    have b7:=zX.step k2 (fun t (h:ai t)=>False.elim h);have c9:∀ (W:World) (O:Own) (y:Am),GV W O D M pz ps pd p y mine nR base true->(W.cell? ⟨pz,2,none⟩=some (.pointer (some ⟨ps,0,none⟩))/\W.cell? ⟨p,0,none⟩=some (.int .u64 (mine.toNat:Int))):=by
     intro W O y hW;obtain ⟨-,h6,⟨b,cap,h7,-⟩,-⟩:=hW;have e2:=h6.cells.1.2.2.1;have g1:=ag h7 0;simp only [ay] at g1;exact ⟨e2,g1⟩
    have hS:w1.drew.cell? ⟨pz,2,none⟩=some (.pointer (some ⟨ps,0,none⟩))/\w1.drew.cell? ⟨p,0,none⟩=some (.int .u64 (mine.toNat:Int)):=by rw [hV];exact c9 V _ _ zX
    have d7:=c9 W2 _ _ b7;have xG:=ae c9;have b8:=ae (Ob b7.1 b7.2.2.2 h3.out f4 hI.out.2.2.2.2.2.2.2.1 hI.out.2.2.2.2.2.2.1 (.inl hI.out.2.2.2.2.2.2.2.2));have hF:=ae (aI (J.trans (k1.trans k2)) b7);have f5:=ae f3;obtain ⟨Q,h8⟩:=az (z.s.append [⟨mine,l⟩]);rw [h8] at b8 q c7;obtain ⟨vb,h9⟩:=az (V.heap.size);rw [h9] at b8 f5 hF;clear J b2 c0 d6 f0 k1 zX f2 f4 k2 b7 c9 f3 c8;have u:=ae q;clear q;go_wp2_with fail;refine Aa (fun w'=>w'.cell? ⟨pz,2,none⟩=some (.pointer (some ⟨ps,0,none⟩))/\w'.cell? ⟨p,0,none⟩=some (.int .u64 (mine.toNat:Int))) (fun _=>true) (by kernel_rfl) hS (fun f6=>?_);rw [hV] at f6 ⊢;clear hS hV;refine tq 0 (h:=tq 1 (h:=tq 2 (h:=tq 3 (h:=tq 4 (h:=tq 5 (h:=tq 6 (h:=tq 7 (h:=tq 8 (h:=tq 9 (h:=tO 10 (h:=?_)))))))))));refine BO #[(0, .agg #[.int .u64 (mine.toNat:Int), .slice ba n bc])] rfl f5.out ?_;refine ⟨fun _=>d7, ?_⟩;refine tO 11 (h:=?_);go_wp2_with fail;refine b8.out.mono ?_;rintro ex W4 ⟨v4,o4,rfl,d1,rfl,pX⟩;obtain ⟨a7,f7,f8,i0⟩:=hF.out.2;have d8:GV W4 o4 D M pz ps pd p { z with s:=Q.1 } mine nR base true:=⟨a7,f7.step d1 (KC.WZ a7.1 a7.2),f8.step d1 (KC.WZ a7.1 a7.2),pX⟩;have d9:=xG.out W4 _ _ d8;have hG:=ae (aI ((hF.out.1.mono (T':=KC D M) (fun _ (h:ai _)=>False.elim h)).trans (d1.mono KC.in4)) d8);clear d1 pX a7 f7 f8 i0 d8 f6;go_wp2_with fail;refine ⟨fun _=>d9, ?_⟩;refine tq 12 (h:=tD (h:=?_))
    rcases c7.out with ⟨s',er,e0,e4⟩ | ⟨f9,s',e0,i1,g0⟩
    ·subst e0;have i5:(er == 0)=false:=by simpa using e4
     have i6:(er != 0)=true:=by simpa using e4
     clear b8 c7 d7 d9 d4 e3 f1;go_wp2_with fail;go_ret;have q:=u.out;rw [if_neg (show ¬ (s',er).2=0 from e4)] at q;refine ⟨_,o4,rfl,hG.out.1, ?_, ?_⟩
     ·rw [<-q];rfl
     ·rw [<-q, <-e9.out];exact hG.out.2.node e9.out
    ·subst e0;have q:=u.out;rw [if_pos rfl] at q;obtain ⟨U,a4,b3,b4,b5,c4,a6,c6,b6⟩:=hI.out;have e5:s'.kept.lines=z.s.kept.lines++[⟨mine,l⟩]:=by rw [g0,Ih f9]
     have a3:=c3.out;have g2:=ae (count_any hG.out.2 (show small s'.kept.lines by rw [e5];exact b6) (show s'.kept.lines.length<=256 by rw [e5,List.length_append,List.length_singleton];omega) (by rw [U];exact b4) (by rw [U];exact b3) (show z.id<nR.length by rw [U];exact b5) (by intro x hx;have:=a4 x hx;omega) (show z.Ag<=256 by omega));have g3:=ae q;clear b8 c7 d7 d9 d4 e3 f1 q u U a4 b3 b4 b5 c4 a6 c6 b6 e5 a3 hI f9 i1 g0;go_wp2_with fail;refine g2.out.mono ?_;rintro ex W5 ⟨v5,o5,rfl,g4,rfl,r,g5,g6⟩;have hE:=ae (aI (hG.out.1.trans (g4.mono (T':=KC D M) (fun k h=>(show KC D M k by cases h;exact KC.own)))) (g6.node g5));clear g4 g5 g6 g2;go_wp2_with fail;go_ret;refine ⟨_,o5,rfl,hE.out.1, ?_, ?_⟩
     ·rw [<-g3.out];rfl
     ·rw [<-g3.out];exact hE.out.2
end
structure Aci where
 src:Nat
 dst:Nat
 b:List UInt8
structure GN where
 n:Nat
 l:List Aci
 cut:List (Nat × Nat × Bool)
namespace GN
def linked (g:GN) (a b:Int):Bool:=decide (0<=a) && decide (a<(g.n:Int)) && decide (0<=b) && decide (b<(g.n:Int)) && decide (a ≠ b)
def cutAt (c:List (Nat × Nat × Bool)) (a b:Nat):Bool:=match c.find? (fun e=>e.1 == a && e.2.1 == b) with
 | some e=>e.2.2
 | none=>false
def cuts (g:GN) (a b:Nat):Bool:=cutAt g.cut (min a b) (max a b)
def Awx (c:List (Nat × Nat × Bool)) (a b:Nat) (v:Bool):List (Nat × Nat × Bool):=
 match c.findIdx? (fun e=>e.1 == a && e.2.1 == b) with
 | some k=>c.set k (a,b,v)
 | none=>c++[(a,b,v)]
def turn (g:GN) (a b:Int) (v:Bool):GN × Int:=
 if g.linked a b then ({ g with cut:=Awx g.cut (min a.toNat b.toNat) (max a.toNat b.toNat) v },0) else (g,1)
def send (g:GN) (x:Aci):GN × Int:=
 if !g.linked x.src x.dst || decide (2097152<x.b.length) then (g,1) else if 4096<=g.l.length then (g,4) else ({ g with l:=g.l++[x] },0)
def may (g:GN) (k:Int):Int:=if k<0 \/ (g.l.length:Int)<=k then 1 else 0
def without (g:GN) (k:Nat):GN:={ g with l:=g.l.take k++g.l.drop (k+1) }
end GN
def Aaa (x:Aci) (bv:Value):List Value:=[.int .i64 0, .int .i64 (x.src:Int), .int .i64 0, .int .i64 (x.dst:Int),bv]
def AaG (w:World) (o:Own) (cs:List Value) (ls:List Aci):Prop:=
 cs.length=5*ls.length/\∀ i x,ls[i]?=some x->∃ bv,(cs.drop (5*i)).take 5=Aaa x bv/\Bytes w o bv x.b
def AaQ (a b:Nat):Value := .agg #[.int .i64 0, .int .i64 (a:Int), .int .i64 0, .int .i64 (b:Int)]
def Aas (j:Nat):List (Nat × Nat × Bool)->List MapEntry
 | []=>[]
 | x :: r=>⟨AaQ x.1 x.2.1, .bool x.2.2,j⟩ :: Aas (j+1) r
def AaF (w:World) (o:Own) (t:Nat × Nat) (lv:Value) (n:Nat) (xs:List Value):Prop:=
 xs.length=5*n/\((lv = .slice none 0 0/\n=0) \/ ∃ g cap cur,lv = .slice (some ⟨g,0,none⟩) n cap/\w.heap[g]?=some (.cells (List.toArray cur) 104 (0,0))/\n<=cap/\cap<=maxLen/\5*cap<=cur.length/\cur.take (5*n)=xs/\o g=t)
theorem AaF.step {T:Nat->Prop}{w w':World}{o o':Own}{t:Nat × Nat}{lv:Value}{n:Nat}{xs:List Value}(h:AaF w o t lv n xs) (s:aj T w o w' o') (u:¬ T t.1):AaF w' o' t lv n xs:=by
 refine ⟨h.1, ?_⟩
 rcases h.2 with h | ⟨g,cap,cur,E,q,F,h4,J,O,r⟩
 ·exact .inl h
 ·exact .inr ⟨g,cap,cur,E,(s.block g (au q) (by rw [r];exact u)).trans q,F,h4,J,O,(s.own g (au q)).trans r⟩
theorem AaF.keep {w w':World}{o o':Own}{t:Nat × Nat}{lv:Value}{n:Nat}{xs:List Value}(h:AaF w o t lv n xs) (u:∀ k,k<w.heap.size->o k=t->w'.heap[k]?=w.heap[k]?/\o' k=o k):AaF w' o' t lv n xs:=by
 refine ⟨h.1, ?_⟩
 rcases h.2 with h | ⟨g,cap,cur,E,q,F,h4,J,O,r⟩
 ·exact .inl h
 ·exact .inr ⟨g,cap,cur,E,(u g (au q) r).1.trans q,F,h4,J,O,(u g (au q) r).2.trans r⟩
theorem AaF.form {w:World}{o:Own}{t:Nat × Nat}{lv:Value}{n:Nat}{xs:List Value}(h:AaF w o t lv n xs):∃ q r,lv = .slice q n r:=by
 rcases h.2 with ⟨rfl,rfl⟩ | ⟨g,cap,cur,rfl,-⟩
 ·exact ⟨_,_,rfl⟩
 ·exact ⟨_,_,rfl⟩
def sV (w:World) (o:Own) (N p:Nat) (g:GN):Prop:=
 ∃ sv lv mb cs,w.heap[p]?=some (.cells [sv,lv, .map (some mb)].toArray 126 (0,0))/\o p=(N,0)/\sH w o sv 1 [.int .i64 (g.n:Int)] /\
  AaF w o (N,1) lv g.l.length cs/\AaG w o cs g.l /\
  w.heap[mb]?=some (.map (Aas 0 g.cut).toArray g.cut.length)/\o mb=(N,2)
section
variable {T:Nat->Prop}{w w':World}{o o':Own}{N p:Nat}{g:GN}
theorem AaG.step {cs:List Value}{ls:List Aci}(h:AaG w o cs ls) (s:aj T w o w' o') (h0:¬ T 0):AaG w' o' cs ls:=
 ⟨h.1,fun i x q=>by obtain ⟨bv,r,u⟩:=h.2 i x q;exact ⟨bv,r,u.step s h0⟩⟩
theorem AaG.nil (w:World) (o:Own):AaG w o [] []:=⟨rfl,fun i x q=>by simp at q⟩
theorem AaG.snoc {cs:List Value}{ls:List Aci}(h:AaG w o cs ls){x:Aci}{bv:Value}(hb:Bytes w o bv x.b):AaG w o (cs++Aaa x bv) (ls++[x]):=by
 obtain ⟨r,u⟩:=h;refine ⟨by simp [r,Aaa];omega,fun i y q=>?_⟩
 by_cases E:i<ls.length
 ·rw [List.getElem?_append_left E] at q;obtain ⟨bv,F,h4⟩:=u i y q;exact ⟨bv,by rw [List.drop_append_of_le_length om,List.take_append_of_le_length (by rw [List.length_drop];omega)];exact F,h4⟩
 ·have hl:i=ls.length:=by
   have:=(List.getElem?_eq_some_iff.1 q).1;simp at this;omega
  subst hl;simp at q;subst q;exact ⟨bv,by rw [<-r,List.drop_left];rfl,hb⟩
theorem AaG.take {cs:List Value}{ls:List Aci}(h:AaG w o cs ls) (k:Nat):AaG w o (cs.take (5*k)) (ls.take k):=by
 obtain ⟨r,u⟩:=h;refine ⟨by simp [r] <;> omega,fun i x q=>?_⟩
 have E:i<k/\ls[i]?=some x:=by
  rw [List.getElem?_take] at q;split at q <;> simp_all
 obtain ⟨bv,F,h4⟩:=u i x E.2;exact ⟨bv,by rw [List.drop_take,List.take_take, <-F,Nat.min_eq_left om],h4⟩
theorem AaG.drop {cs:List Value}{ls:List Aci}(h:AaG w o cs ls) (k:Nat):AaG w o (cs.drop (5*k)) (ls.drop k):=by
 obtain ⟨r,u⟩:=h;refine ⟨by simp [r] <;> omega,fun i x q=>?_⟩
 rw [List.getElem?_drop] at q;obtain ⟨bv,E,h4⟩:=u _ x q;exact ⟨bv,by rw [List.drop_drop, <-E,Nat.mul_add],h4⟩
theorem AaG.append {c1 c2:List Value}{u F:List Aci}(q:AaG w o c1 u) (J:AaG w o c2 F):AaG w o (c1++c2) (u++F):=by
 refine ⟨by simp [q.1,J.1];omega,fun i x r=>?_⟩
 by_cases O:i<u.length
 ·rw [List.getElem?_append_left O] at r;obtain ⟨bv,E,h4⟩:=q.2 i x r;exact ⟨bv,by rw [List.drop_append_of_le_length (by rw [q.1];omega),List.take_append_of_le_length (by rw [List.length_drop,q.1];omega)];exact E,h4⟩
 ·rw [List.getElem?_append_right om] at r;obtain ⟨bv,E,h4⟩:=J.2 _ x r;exact ⟨bv,by rw [List.drop_append,List.drop_of_length_le (by rw [q.1];omega),List.nil_append,q.1, <-E, <-Nat.mul_sub],h4⟩
theorem sV.step (h:sV w o N p g) (s:aj T w o w' o') (hN:¬ T N) (h0:¬ T 0):sV w' o' N p g:=by
 obtain ⟨O,U,W,Y,q,r,h3,h4,h6,u,E⟩:=h;have F:=au q;have J:=au u;exact ⟨O,U,W,Y,(s.block _ F (by rw [r];exact hN)).trans q,(s.own _ F).trans r,h3.step s h0,h4.step s hN,h6.step s h0,(s.block _ J (by rw [E];exact hN)).trans u,(s.own _ J).trans E⟩
theorem sV.cells (h:sV w o N p g):∃ sv q r mb,w.cell? ⟨p,0,none⟩=some sv/\w.cell? ⟨p,1,none⟩=some (.slice q g.l.length r)/\w.cell? ⟨p,2,none⟩=some (.map (some mb))/\(∀ i,w.frozen? ⟨p,i,none⟩=false)/\p<w.heap.size:=by
 obtain ⟨sv,E,mb,F,u,J,O,h4,-⟩:=h;have c:=ag u;obtain ⟨q,r,rfl⟩:=h4.form;exact ⟨sv,q,r,mb,c 0,c 1,c 2,fun i=>Ap u i,au u⟩
end
section
variable {w:World}{o:Own}{N p:Nat}{g:GN}
theorem Akh (h:sV w o N p g) (k:Int):Calls prog 100 #[.pointer (some ⟨p,0,none⟩), .int .i64 k] w fun e w'=>e = .returned (.int .i64 (g.may k))/\w=w':=by
 obtain ⟨r,u,E,F,J,c1,c2,O,hl⟩:=h.cells;unfold GN.may;clear h
 by_cases U:k<0
 ·go_enter func100,ntmps100
  go_wp2
  go_ret;exact ⟨rfl,rfl⟩
 ·by_cases q:(g.l.length:Int)<=k
  ·go_enter func100,ntmps100
   go_wp2
   go_ret;exact ⟨rfl,rfl⟩
  ·have W:¬ k ≥ (g.l.length:Int):=q;go_enter func100,ntmps100
   go_wp2
   go_ret;exact ⟨rfl,rfl⟩
theorem iI (h:sV w o N p g) (x:Int):Calls prog 190 #[.pointer (some ⟨p,0,none⟩), .agg #[.int .i64 0, .int .i64 x]] w (XL ai w o fun v _ _=>v = .bool (decide (0<=x) && decide (x<(g.n:Int)))):=by
 have st:=(aj.refl ai w o).alloc (.cells #[.int .i64 0, .int .i64 x] 102) (0,0);obtain ⟨sv,lv,mb,cs,J,h2,u,h4,h6,h7,h8⟩:=h.step st id id;obtain ⟨sa,O,rfl⟩:=Aq u;obtain ⟨sb,q,rfl,r, -,-⟩:=u.cell 0 rfl;have E:=ag J 0;have b0:=ag (heap_alloc_new w (.cells [.int .i64 0, .int .i64 x].toArray 102)) 0;have F:=ag (heap_alloc_new w (.cells [.int .i64 0, .int .i64 x].toArray 102)) 1;simp only [ay,ax] at E b0 F;rw [Nat.add_zero] at r;clear h J h2 u h4 h6 h7 h8;have U:=ae st;clear st;obtain ⟨n,hn⟩:=az (g.n);rw [hn] at r ⊢;clear hn;have W:=aI b0 (aI F (aI E r));clear b0 F E r
 by_cases Y:x<0
 ·have a2:decide (x ≥ 0)=false:=by simpa using Y
  go_enter func190,ntmps190
  go_wp2
  refine Aa (fun w'=>w'.cell? ⟨w.heap.size,0,none⟩=some (.int .i64 0)/\w'.cell? ⟨w.heap.size,1,none⟩=some (.int .i64 x)/\w'.cell? ⟨p,0,none⟩=some (.slice (some ⟨sb,q,none⟩) 1 O)/\w'.cell? ⟨sb,q,none⟩=some (.int .i64 (n:Int))) (fun _=>true) (by kernel_rfl) W (fun a3=>?_);refine tq 0 (h:=tq 1 (h:=tq 2 (h:=tq 3 (h:=tq 4 (h:=tq 5 (h:=tq 6 (h:=tq 7 (h:=tq 8 (h:=tq 9 (h:=tq 10 (h:=tq 11 (h:=tq 12 (h:=tq 13 (h:=?_))))))))))))));refine tq 14 (h:=tq 15 (h:=tq 16 (h:=tq 17 (h:=tq 18 (h:=ts 19 (h:=ts 20 (h:=ts 21 (h:=ts 22 (h:=ts 23 (h:=ts 24 (h:=ts 25 (h:=ts 26 (h:=ts 27 (h:=?_))))))))))))));refine ts 28 (h:=ts 29 (h:=tq 30 (h:=tq 31 (h:=tD (h:=?_)))))
  go_wp2
  go_ret;exact ⟨_,_,rfl,U.out.drew,by simp;omega⟩
 ·have a2:decide (x ≥ 0)=true:=by simpa using Y
  go_enter func190,ntmps190
  go_wp2
  refine Aa (fun w'=>w'.cell? ⟨w.heap.size,0,none⟩=some (.int .i64 0)/\w'.cell? ⟨w.heap.size,1,none⟩=some (.int .i64 x)/\w'.cell? ⟨p,0,none⟩=some (.slice (some ⟨sb,q,none⟩) 1 O)/\w'.cell? ⟨sb,q,none⟩=some (.int .i64 (n:Int))) (fun _=>true) (by kernel_rfl) W (fun a3=>?_);refine tq 0 (h:=tq 1 (h:=tq 2 (h:=tq 3 (h:=tq 4 (h:=tq 5 (h:=tq 6 (h:=tq 7 (h:=tq 8 (h:=tq 9 (h:=tq 10 (h:=tq 11 (h:=tq 12 (h:=tq 13 (h:=?_))))))))))))));refine tq 14 (h:=tq 15 (h:=tq 16 (h:=tq 17 (h:=tq 18 (h:=tq 19 (h:=tq 20 (h:=tq 21 (h:=tq 22 (h:=tq 23 (h:=tq 24 (h:=tq 25 (h:=tq 26 (h:=tq 27 (h:=?_))))))))))))));refine tq 28 (h:=tq 29 (h:=tq 30 (h:=tq 31 (h:=tD (h:=?_)))))
  go_wp2
  go_ret;exact ⟨_,_,rfl,U.out.drew,by simp;omega⟩
end
def AeS (a b:Int):Value := .agg #[.int .i64 0, .int .i64 (min a b), .int .i64 0, .int .i64 (max a b)]
section
variable {w:World}{o:Own}{N p:Nat}{g:GN}
theorem WU:(prog.info? 195).map (·.size)=some 4:=by kernel_rfl
theorem AfA (h:sV w o N p g) (a b:Int):Calls prog 135 #[.pointer (some ⟨p,0,none⟩), .agg #[.int .i64 0, .int .i64 a], .agg #[.int .i64 0, .int .i64 b]] w (XL ai w o fun v _ _=>v = .tuple #[AeS a b, .bool (g.linked a b)]):=by
 have b5:∀ x y:Int,(x=a/\y=b \/ x=b/\y=a)->g.linked a b=(decide (0<=x) && decide (x<(g.n:Int)) && (decide (0<=y) && decide (y<(g.n:Int))) && decide (x ≠ y)):=by
  intro x y b7;unfold GN.linked
  rcases b7 with ⟨rfl,rfl⟩ | ⟨rfl,rfl⟩
  ·simp [Bool.and_assoc]
  ·rw [Bool.eq_iff_iff];simp;omega
 by_cases c0:b<a
 ·have b2:min a b=b:=om
  have b3:max a b=a:=om
  have hl:=b5 b a (by simp);rw [hl];clear hl b5
  by_cases hA:(decide (0<=b) && decide (b<(g.n:Int)))=false
  ·have b8:=hA;go_enter func135,ntmps135
   go_wp2
   obtain ⟨W,r,hW,⟨E,-⟩,F,J,h3⟩:=Ajp w o (.cells #[.int .i64 0, .int .i64 b] 102) (.cells #[.int .i64 0, .int .i64 a] 102) (.cells #[.int .i64 0, .int .i64 0, .int .i64 0, .int .i64 0] 195);rw [hW];have hN:=ae (h.step E id id);have u:=ae (fun (U:World) (q:Own) (s:aj ai W r U q)=>(show (U.cell? ⟨w.heap.size,0,none⟩=some (.int .i64 0)/\U.cell? ⟨w.heap.size,1,none⟩=some (.int .i64 b))/\U.cell? ⟨w.heap.size+1,0,none⟩=some (.int .i64 0)/\U.cell? ⟨w.heap.size+1,1,none⟩=some (.int .i64 a) from ⟨⟨(F.step s id).cell 0,(F.step s id).cell 1⟩,(J.step s id).cell 0,(J.step s id).cell 1⟩));have hG:=ae (aI E h3);have hS:=u.out W.drew r (aj.refl ai W r).drew;clear hW E F J h3 h;refine Aa (fun w'=>(w'.cell? ⟨w.heap.size,0,none⟩=some (.int .i64 0)/\w'.cell? ⟨w.heap.size,1,none⟩=some (.int .i64 b))/\w'.cell? ⟨w.heap.size+1,0,none⟩=some (.int .i64 0)/\w'.cell? ⟨w.heap.size+1,1,none⟩=some (.int .i64 a)) (fun _=>true) (by kernel_rfl) hS (fun a8=>?_);refine tq 0 (h:=tq 1 (h:=tq 2 (h:=tq 3 (h:=tq 4 (h:=tO 5 (h:=?_))))));go_wp2_with fail;refine (iI (hN.out.step (aj.refl ai W r).drew id id) b).mono ?_;rintro e W5 ⟨v5,o5,rfl,O,rfl⟩;have a9:=u.out W5 o5 ((aj.refl ai W r).drew.trans O);have Y:=ae ((aj.refl ai W r).drew.trans O);clear O;go_wp2_with fail;refine ⟨fun _=>a9, ?_⟩;refine tq 6 (h:=ts 7 (h:=ts 8 (h:=ts 9 (h:=tq 10 (h:=tq 11 (h:=ts 12 (h:=ts 13 (h:=ts 14 (h:=tq 15 (h:=tO 16 (h:=?_)))))))))));obtain ⟨V,hV,a3,a4,a2,-⟩:=(hG.out.2.step Y.out id).store (P:=prog) (ty:=195) (vs:=[.int .i64 0, .int .i64 b, .int .i64 0, .int .i64 a]) (hG.out.1.trans Y.out) om rfl WU rfl;have b1:=ae hV;have hE:=ae (aI a3 a4);have a5:(V.cell? ⟨w.heap.size,0,none⟩=some (.int .i64 0)/\V.cell? ⟨w.heap.size,1,none⟩=some (.int .i64 b))/\V.cell? ⟨w.heap.size+1,0,none⟩=some (.int .i64 0)/\V.cell? ⟨w.heap.size+1,1,none⟩=some (.int .i64 a):=by
    have e1:=a2 w.heap.size om;have e2:=a2 (w.heap.size+1) om;have q:=u.out W5 o5 Y.out;exact ⟨⟨(World.cell?_of_block e1).trans q.1.1,(World.cell?_of_block e1).trans q.1.2⟩,(World.cell?_of_block e2).trans q.2.1,(World.cell?_of_block e2).trans q.2.2⟩
   clear hV a3 a4 a2 a8
   go_wp2_with ((with_reducible apply AC);exact b1.out;simp only [Act.put])
   refine ⟨fun _=>a5, ?_⟩;refine tq 17 (h:=tD (h:=?_));clear a5
   go_wp2
   refine bodyPost_ret (Eg rfl _ _ (w.heap.size+1+1) 195 _ (0,0) _ rfl hE.out.2.1 underlying195 rfl WU) rfl ?_;exact ⟨_,_,rfl,hE.out.1,by unfold AeS;rw [b2,b3];simp [hA]⟩
  ·have hA:(decide (0<=b) && decide (b<(g.n:Int)))=true:=by simpa using hA
   by_cases hB:(decide (0<=a) && decide (a<(g.n:Int)))=false
   ·have b9:=hB;go_enter func135,ntmps135
    go_wp2
    obtain ⟨W,r,hW,⟨E,-⟩,F,J,h3⟩:=Ajp w o (.cells #[.int .i64 0, .int .i64 b] 102) (.cells #[.int .i64 0, .int .i64 a] 102) (.cells #[.int .i64 0, .int .i64 0, .int .i64 0, .int .i64 0] 195);rw [hW];have hN:=ae (h.step E id id);have u:=ae (fun (U:World) (q:Own) (s:aj ai W r U q)=>(show (U.cell? ⟨w.heap.size,0,none⟩=some (.int .i64 0)/\U.cell? ⟨w.heap.size,1,none⟩=some (.int .i64 b))/\U.cell? ⟨w.heap.size+1,0,none⟩=some (.int .i64 0)/\U.cell? ⟨w.heap.size+1,1,none⟩=some (.int .i64 a) from ⟨⟨(F.step s id).cell 0,(F.step s id).cell 1⟩,(J.step s id).cell 0,(J.step s id).cell 1⟩));have hG:=ae (aI E h3);have hS:=u.out W.drew r (aj.refl ai W r).drew;clear hW E F J h3 h;refine Aa (fun w'=>(w'.cell? ⟨w.heap.size,0,none⟩=some (.int .i64 0)/\w'.cell? ⟨w.heap.size,1,none⟩=some (.int .i64 b))/\w'.cell? ⟨w.heap.size+1,0,none⟩=some (.int .i64 0)/\w'.cell? ⟨w.heap.size+1,1,none⟩=some (.int .i64 a)) (fun _=>true) (by kernel_rfl) hS (fun a8=>?_);refine tq 0 (h:=tq 1 (h:=tq 2 (h:=tq 3 (h:=tq 4 (h:=tO 5 (h:=?_))))));go_wp2_with fail;refine (iI (hN.out.step (aj.refl ai W r).drew id id) b).mono ?_;rintro e W5 ⟨v5,o5,rfl,O,rfl⟩;have a9:=u.out W5 o5 ((aj.refl ai W r).drew.trans O);have Y:=ae ((aj.refl ai W r).drew.trans O);clear O;go_wp2_with fail;refine ⟨fun _=>a9, ?_⟩;refine tq 6 (h:=tq 7 (h:=tq 8 (h:=tO 9 (h:=?_))));go_wp2_with fail;refine (iI (hN.out.step Y.out id id) a).mono ?_;rintro e W9 ⟨v9,o9,rfl,a6,rfl⟩;have b4:=u.out W9 o9 (Y.out.trans a6);have a7:=ae (Y.out.trans a6);clear a6;go_wp2_with fail;refine ⟨fun _=>b4, ?_⟩;refine tq 10 (h:=tq 11 (h:=ts 12 (h:=ts 13 (h:=ts 14 (h:=tq 15 (h:=tO 16 (h:=?_)))))));obtain ⟨V,hV,a3,a4,a2,-⟩:=(hG.out.2.step a7.out id).store (P:=prog) (ty:=195) (vs:=[.int .i64 0, .int .i64 b, .int .i64 0, .int .i64 a]) (hG.out.1.trans a7.out) om rfl WU rfl;have b1:=ae hV;have hE:=ae (aI a3 a4);have a5:(V.cell? ⟨w.heap.size,0,none⟩=some (.int .i64 0)/\V.cell? ⟨w.heap.size,1,none⟩=some (.int .i64 b))/\V.cell? ⟨w.heap.size+1,0,none⟩=some (.int .i64 0)/\V.cell? ⟨w.heap.size+1,1,none⟩=some (.int .i64 a):=by
     have e1:=a2 w.heap.size om;have e2:=a2 (w.heap.size+1) om;have q:=u.out W9 o9 a7.out;exact ⟨⟨(World.cell?_of_block e1).trans q.1.1,(World.cell?_of_block e1).trans q.1.2⟩,(World.cell?_of_block e2).trans q.2.1,(World.cell?_of_block e2).trans q.2.2⟩
    clear hV a3 a4 a2 a8
    go_wp2_with ((with_reducible apply AC);exact b1.out;simp only [Act.put])
    refine ⟨fun _=>a5, ?_⟩;refine tq 17 (h:=tD (h:=?_));clear a5
    go_wp2
    refine bodyPost_ret (Eg rfl _ _ (w.heap.size+1+1) 195 _ (0,0) _ rfl hE.out.2.1 underlying195 rfl WU) rfl ?_;exact ⟨_,_,rfl,hE.out.1,by unfold AeS;rw [b2,b3];simp [hA,hB]⟩
   ·have hB:(decide (0<=a) && decide (a<(g.n:Int)))=true:=by simpa using hB
    go_enter func135,ntmps135
    go_wp2
    obtain ⟨W,r,hW,⟨E,-⟩,F,J,h3⟩:=Ajp w o (.cells #[.int .i64 0, .int .i64 b] 102) (.cells #[.int .i64 0, .int .i64 a] 102) (.cells #[.int .i64 0, .int .i64 0, .int .i64 0, .int .i64 0] 195);rw [hW];have hN:=ae (h.step E id id);have u:=ae (fun (U:World) (q:Own) (s:aj ai W r U q)=>(show (U.cell? ⟨w.heap.size,0,none⟩=some (.int .i64 0)/\U.cell? ⟨w.heap.size,1,none⟩=some (.int .i64 b))/\U.cell? ⟨w.heap.size+1,0,none⟩=some (.int .i64 0)/\U.cell? ⟨w.heap.size+1,1,none⟩=some (.int .i64 a) from ⟨⟨(F.step s id).cell 0,(F.step s id).cell 1⟩,(J.step s id).cell 0,(J.step s id).cell 1⟩));have hG:=ae (aI E h3);have hS:=u.out W.drew r (aj.refl ai W r).drew;clear hW E F J h3 h;refine Aa (fun w'=>(w'.cell? ⟨w.heap.size,0,none⟩=some (.int .i64 0)/\w'.cell? ⟨w.heap.size,1,none⟩=some (.int .i64 b))/\w'.cell? ⟨w.heap.size+1,0,none⟩=some (.int .i64 0)/\w'.cell? ⟨w.heap.size+1,1,none⟩=some (.int .i64 a)) (fun _=>true) (by kernel_rfl) hS (fun a8=>?_);refine tq 0 (h:=tq 1 (h:=tq 2 (h:=tq 3 (h:=tq 4 (h:=tO 5 (h:=?_))))));go_wp2_with fail;refine (iI (hN.out.step (aj.refl ai W r).drew id id) b).mono ?_;rintro e W5 ⟨v5,o5,rfl,O,rfl⟩;have a9:=u.out W5 o5 ((aj.refl ai W r).drew.trans O);have Y:=ae ((aj.refl ai W r).drew.trans O);clear O;go_wp2_with fail;refine ⟨fun _=>a9, ?_⟩;refine tq 6 (h:=tq 7 (h:=tq 8 (h:=tO 9 (h:=?_))));go_wp2_with fail;refine (iI (hN.out.step Y.out id id) a).mono ?_;rintro e W9 ⟨v9,o9,rfl,a6,rfl⟩;have b4:=u.out W9 o9 (Y.out.trans a6);have a7:=ae (Y.out.trans a6);clear a6;go_wp2_with fail;refine ⟨fun _=>b4, ?_⟩;refine tq 10 (h:=tq 11 (h:=tq 12 (h:=tq 13 (h:=tv 14 (.bool (decide (b ≠ a))) (hy:=fun w b6=>by (try dsimp only at b6);go_simp;first | done | (split <;> simp_all)) (h:=tq 15 (h:=tO 16 (h:=?_)))))))
    obtain ⟨V,hV,a3,a4,a2,-⟩:=(hG.out.2.step a7.out id).store (P:=prog) (ty:=195) (vs:=[.int .i64 0, .int .i64 b, .int .i64 0, .int .i64 a]) (hG.out.1.trans a7.out) om rfl WU rfl;have b1:=ae hV;have hE:=ae (aI a3 a4);have a5:(V.cell? ⟨w.heap.size,0,none⟩=some (.int .i64 0)/\V.cell? ⟨w.heap.size,1,none⟩=some (.int .i64 b))/\V.cell? ⟨w.heap.size+1,0,none⟩=some (.int .i64 0)/\V.cell? ⟨w.heap.size+1,1,none⟩=some (.int .i64 a):=by
     have e1:=a2 w.heap.size om;have e2:=a2 (w.heap.size+1) om;have q:=u.out W9 o9 a7.out;exact ⟨⟨(World.cell?_of_block e1).trans q.1.1,(World.cell?_of_block e1).trans q.1.2⟩,(World.cell?_of_block e2).trans q.2.1,(World.cell?_of_block e2).trans q.2.2⟩
    clear hV a3 a4 a2 a8
    go_wp2_with ((with_reducible apply AC);exact b1.out;simp only [Act.put])
    refine ⟨fun _=>a5, ?_⟩;refine tq 17 (h:=tD (h:=?_));clear a5
    go_wp2
    refine bodyPost_ret (Eg rfl _ _ (w.heap.size+1+1) 195 _ (0,0) _ rfl hE.out.2.1 underlying195 rfl WU) rfl ?_;exact ⟨_,_,rfl,hE.out.1,by unfold AeS;rw [b2,b3];simp [hA,hB]⟩
 ·have b2:min a b=a:=om
  have b3:max a b=b:=om
  have hl:=b5 a b (by simp);rw [hl];clear hl b5
  by_cases hA:(decide (0<=a) && decide (a<(g.n:Int)))=false
  ·have b8:=hA;go_enter func135,ntmps135
   go_wp2
   obtain ⟨W,r,hW,⟨E,-⟩,F,J,h3⟩:=Ajp w o (.cells #[.int .i64 0, .int .i64 a] 102) (.cells #[.int .i64 0, .int .i64 b] 102) (.cells #[.int .i64 0, .int .i64 0, .int .i64 0, .int .i64 0] 195);rw [hW];have hN:=ae (h.step E id id);have u:=ae (fun (U:World) (q:Own) (s:aj ai W r U q)=>(show (U.cell? ⟨w.heap.size,0,none⟩=some (.int .i64 0)/\U.cell? ⟨w.heap.size,1,none⟩=some (.int .i64 a))/\U.cell? ⟨w.heap.size+1,0,none⟩=some (.int .i64 0)/\U.cell? ⟨w.heap.size+1,1,none⟩=some (.int .i64 b) from ⟨⟨(F.step s id).cell 0,(F.step s id).cell 1⟩,(J.step s id).cell 0,(J.step s id).cell 1⟩));have hG:=ae (aI E h3);have hS:=u.out W.drew r (aj.refl ai W r).drew;clear hW E F J h3 h;refine Aa (fun w'=>(w'.cell? ⟨w.heap.size,0,none⟩=some (.int .i64 0)/\w'.cell? ⟨w.heap.size,1,none⟩=some (.int .i64 a))/\w'.cell? ⟨w.heap.size+1,0,none⟩=some (.int .i64 0)/\w'.cell? ⟨w.heap.size+1,1,none⟩=some (.int .i64 b)) (fun _=>true) (by kernel_rfl) hS (fun a8=>?_);refine tq 0 (h:=tq 1 (h:=tq 2 (h:=tq 3 (h:=tq 4 (h:=tO 5 (h:=?_))))));go_wp2_with fail;refine (iI (hN.out.step (aj.refl ai W r).drew id id) a).mono ?_;rintro e W5 ⟨v5,o5,rfl,O,rfl⟩;have a9:=u.out W5 o5 ((aj.refl ai W r).drew.trans O);have Y:=ae ((aj.refl ai W r).drew.trans O);clear O;go_wp2_with fail;refine ⟨fun _=>a9, ?_⟩;refine tq 6 (h:=ts 7 (h:=ts 8 (h:=ts 9 (h:=tq 10 (h:=tq 11 (h:=ts 12 (h:=ts 13 (h:=ts 14 (h:=tq 15 (h:=tO 16 (h:=?_)))))))))));obtain ⟨V,hV,a3,a4,a2,-⟩:=(hG.out.2.step Y.out id).store (P:=prog) (ty:=195) (vs:=[.int .i64 0, .int .i64 a, .int .i64 0, .int .i64 b]) (hG.out.1.trans Y.out) om rfl WU rfl;have b1:=ae hV;have hE:=ae (aI a3 a4);have a5:(V.cell? ⟨w.heap.size,0,none⟩=some (.int .i64 0)/\V.cell? ⟨w.heap.size,1,none⟩=some (.int .i64 a))/\V.cell? ⟨w.heap.size+1,0,none⟩=some (.int .i64 0)/\V.cell? ⟨w.heap.size+1,1,none⟩=some (.int .i64 b):=by
    have e1:=a2 w.heap.size om;have e2:=a2 (w.heap.size+1) om;have q:=u.out W5 o5 Y.out;exact ⟨⟨(World.cell?_of_block e1).trans q.1.1,(World.cell?_of_block e1).trans q.1.2⟩,(World.cell?_of_block e2).trans q.2.1,(World.cell?_of_block e2).trans q.2.2⟩
   clear hV a3 a4 a2 a8
   go_wp2_with ((with_reducible apply AC);exact b1.out;simp only [Act.put])
   refine ⟨fun _=>a5, ?_⟩;refine tq 17 (h:=tD (h:=?_));clear a5
   go_wp2
   refine bodyPost_ret (Eg rfl _ _ (w.heap.size+1+1) 195 _ (0,0) _ rfl hE.out.2.1 underlying195 rfl WU) rfl ?_;exact ⟨_,_,rfl,hE.out.1,by unfold AeS;rw [b2,b3];simp [hA]⟩
  ·have hA:(decide (0<=a) && decide (a<(g.n:Int)))=true:=by simpa using hA
   by_cases hB:(decide (0<=b) && decide (b<(g.n:Int)))=false
   ·have b9:=hB;go_enter func135,ntmps135
    go_wp2
    obtain ⟨W,r,hW,⟨E,-⟩,F,J,h3⟩:=Ajp w o (.cells #[.int .i64 0, .int .i64 a] 102) (.cells #[.int .i64 0, .int .i64 b] 102) (.cells #[.int .i64 0, .int .i64 0, .int .i64 0, .int .i64 0] 195);rw [hW];have hN:=ae (h.step E id id);have u:=ae (fun (U:World) (q:Own) (s:aj ai W r U q)=>(show (U.cell? ⟨w.heap.size,0,none⟩=some (.int .i64 0)/\U.cell? ⟨w.heap.size,1,none⟩=some (.int .i64 a))/\U.cell? ⟨w.heap.size+1,0,none⟩=some (.int .i64 0)/\U.cell? ⟨w.heap.size+1,1,none⟩=some (.int .i64 b) from ⟨⟨(F.step s id).cell 0,(F.step s id).cell 1⟩,(J.step s id).cell 0,(J.step s id).cell 1⟩));have hG:=ae (aI E h3);have hS:=u.out W.drew r (aj.refl ai W r).drew;clear hW E F J h3 h;refine Aa (fun w'=>(w'.cell? ⟨w.heap.size,0,none⟩=some (.int .i64 0)/\w'.cell? ⟨w.heap.size,1,none⟩=some (.int .i64 a))/\w'.cell? ⟨w.heap.size+1,0,none⟩=some (.int .i64 0)/\w'.cell? ⟨w.heap.size+1,1,none⟩=some (.int .i64 b)) (fun _=>true) (by kernel_rfl) hS (fun a8=>?_);refine tq 0 (h:=tq 1 (h:=tq 2 (h:=tq 3 (h:=tq 4 (h:=tO 5 (h:=?_))))));go_wp2_with fail;refine (iI (hN.out.step (aj.refl ai W r).drew id id) a).mono ?_;rintro e W5 ⟨v5,o5,rfl,O,rfl⟩;have a9:=u.out W5 o5 ((aj.refl ai W r).drew.trans O);have Y:=ae ((aj.refl ai W r).drew.trans O);clear O;go_wp2_with fail;refine ⟨fun _=>a9, ?_⟩;refine tq 6 (h:=tq 7 (h:=tq 8 (h:=tO 9 (h:=?_))));go_wp2_with fail;refine (iI (hN.out.step Y.out id id) b).mono ?_;rintro e W9 ⟨v9,o9,rfl,a6,rfl⟩;have b4:=u.out W9 o9 (Y.out.trans a6);have a7:=ae (Y.out.trans a6);clear a6;go_wp2_with fail;refine ⟨fun _=>b4, ?_⟩;refine tq 10 (h:=tq 11 (h:=ts 12 (h:=ts 13 (h:=ts 14 (h:=tq 15 (h:=tO 16 (h:=?_)))))));obtain ⟨V,hV,a3,a4,a2,-⟩:=(hG.out.2.step a7.out id).store (P:=prog) (ty:=195) (vs:=[.int .i64 0, .int .i64 a, .int .i64 0, .int .i64 b]) (hG.out.1.trans a7.out) om rfl WU rfl;have b1:=ae hV;have hE:=ae (aI a3 a4);have a5:(V.cell? ⟨w.heap.size,0,none⟩=some (.int .i64 0)/\V.cell? ⟨w.heap.size,1,none⟩=some (.int .i64 a))/\V.cell? ⟨w.heap.size+1,0,none⟩=some (.int .i64 0)/\V.cell? ⟨w.heap.size+1,1,none⟩=some (.int .i64 b):=by
     have e1:=a2 w.heap.size om;have e2:=a2 (w.heap.size+1) om;have q:=u.out W9 o9 a7.out;exact ⟨⟨(World.cell?_of_block e1).trans q.1.1,(World.cell?_of_block e1).trans q.1.2⟩,(World.cell?_of_block e2).trans q.2.1,(World.cell?_of_block e2).trans q.2.2⟩
    clear hV a3 a4 a2 a8
    go_wp2_with ((with_reducible apply AC);exact b1.out;simp only [Act.put])
    refine ⟨fun _=>a5, ?_⟩;refine tq 17 (h:=tD (h:=?_));clear a5
    go_wp2
    refine bodyPost_ret (Eg rfl _ _ (w.heap.size+1+1) 195 _ (0,0) _ rfl hE.out.2.1 underlying195 rfl WU) rfl ?_;exact ⟨_,_,rfl,hE.out.1,by unfold AeS;rw [b2,b3];simp [hA,hB]⟩
   ·have hB:(decide (0<=b) && decide (b<(g.n:Int)))=true:=by simpa using hB
    go_enter func135,ntmps135
    go_wp2
    obtain ⟨W,r,hW,⟨E,-⟩,F,J,h3⟩:=Ajp w o (.cells #[.int .i64 0, .int .i64 a] 102) (.cells #[.int .i64 0, .int .i64 b] 102) (.cells #[.int .i64 0, .int .i64 0, .int .i64 0, .int .i64 0] 195);rw [hW];have hN:=ae (h.step E id id);have u:=ae (fun (U:World) (q:Own) (s:aj ai W r U q)=>(show (U.cell? ⟨w.heap.size,0,none⟩=some (.int .i64 0)/\U.cell? ⟨w.heap.size,1,none⟩=some (.int .i64 a))/\U.cell? ⟨w.heap.size+1,0,none⟩=some (.int .i64 0)/\U.cell? ⟨w.heap.size+1,1,none⟩=some (.int .i64 b) from ⟨⟨(F.step s id).cell 0,(F.step s id).cell 1⟩,(J.step s id).cell 0,(J.step s id).cell 1⟩));have hG:=ae (aI E h3);have hS:=u.out W.drew r (aj.refl ai W r).drew;clear hW E F J h3 h;refine Aa (fun w'=>(w'.cell? ⟨w.heap.size,0,none⟩=some (.int .i64 0)/\w'.cell? ⟨w.heap.size,1,none⟩=some (.int .i64 a))/\w'.cell? ⟨w.heap.size+1,0,none⟩=some (.int .i64 0)/\w'.cell? ⟨w.heap.size+1,1,none⟩=some (.int .i64 b)) (fun _=>true) (by kernel_rfl) hS (fun a8=>?_);refine tq 0 (h:=tq 1 (h:=tq 2 (h:=tq 3 (h:=tq 4 (h:=tO 5 (h:=?_))))));go_wp2_with fail;refine (iI (hN.out.step (aj.refl ai W r).drew id id) a).mono ?_;rintro e W5 ⟨v5,o5,rfl,O,rfl⟩;have a9:=u.out W5 o5 ((aj.refl ai W r).drew.trans O);have Y:=ae ((aj.refl ai W r).drew.trans O);clear O;go_wp2_with fail;refine ⟨fun _=>a9, ?_⟩;refine tq 6 (h:=tq 7 (h:=tq 8 (h:=tO 9 (h:=?_))));go_wp2_with fail;refine (iI (hN.out.step Y.out id id) b).mono ?_;rintro e W9 ⟨v9,o9,rfl,a6,rfl⟩;have b4:=u.out W9 o9 (Y.out.trans a6);have a7:=ae (Y.out.trans a6);clear a6;go_wp2_with fail;refine ⟨fun _=>b4, ?_⟩;refine tq 10 (h:=tq 11 (h:=tq 12 (h:=tq 13 (h:=tv 14 (.bool (decide (a ≠ b))) (hy:=fun w b6=>by (try dsimp only at b6);go_simp;first | done | (split <;> simp_all)) (h:=tq 15 (h:=tO 16 (h:=?_)))))))
    obtain ⟨V,hV,a3,a4,a2,-⟩:=(hG.out.2.step a7.out id).store (P:=prog) (ty:=195) (vs:=[.int .i64 0, .int .i64 a, .int .i64 0, .int .i64 b]) (hG.out.1.trans a7.out) om rfl WU rfl;have b1:=ae hV;have hE:=ae (aI a3 a4);have a5:(V.cell? ⟨w.heap.size,0,none⟩=some (.int .i64 0)/\V.cell? ⟨w.heap.size,1,none⟩=some (.int .i64 a))/\V.cell? ⟨w.heap.size+1,0,none⟩=some (.int .i64 0)/\V.cell? ⟨w.heap.size+1,1,none⟩=some (.int .i64 b):=by
     have e1:=a2 w.heap.size om;have e2:=a2 (w.heap.size+1) om;have q:=u.out W9 o9 a7.out;exact ⟨⟨(World.cell?_of_block e1).trans q.1.1,(World.cell?_of_block e1).trans q.1.2⟩,(World.cell?_of_block e2).trans q.2.1,(World.cell?_of_block e2).trans q.2.2⟩
    clear hV a3 a4 a2 a8
    go_wp2_with ((with_reducible apply AC);exact b1.out;simp only [Act.put])
    refine ⟨fun _=>a5, ?_⟩;refine tq 17 (h:=tD (h:=?_));clear a5
    go_wp2
    refine bodyPost_ret (Eg rfl _ _ (w.heap.size+1+1) 195 _ (0,0) _ rfl hE.out.2.1 underlying195 rfl WU) rfl ?_;exact ⟨_,_,rfl,hE.out.1,by unfold AeS;rw [b2,b3];simp [hA,hB]⟩
end
theorem AwZ (d:Nat) (x y:Int) (w:World):(Op.equalIn (d+1) 3 (.int .i64 x) (.int .i64 y)).run prog w = .ok (x == y) w:=by
 have q:=run_underlying (w:=w) underlying3;rw [Op.equalIn];simp [q]
theorem AsY (d:Nat) (x y:Int) (w:World):(Op.equalIn (d+2) 102 (.agg #[.int .i64 0, .int .i64 x]) (.agg #[.int .i64 0, .int .i64 y])).run prog w = .ok (x == y) w:=by
 have q:=run_underlying (w:=w) underlying102;have r:∀ a b:Value,(part 3 #[a,b] 0).run prog w = .ok a w:=fun _ _=>by kernel_rfl
 have u:∀ a b:Value,(part 3 #[a,b] 1).run prog w = .ok b w:=fun _ _=>by kernel_rfl
 have E:prog.stoodInHeld 102=false:=by kernel_rfl
 rw [Op.equalIn];cases h:x == y <;> simp [q,r,u,AwZ,h,E]
theorem AjO (a b c d:Nat) (w:World):(Op.equal 195 (AaQ a b) (AaQ c d)).run prog w = .ok (a == c && b == d) w:=by
 have q:=run_underlying (w:=w) underlying195;have r:∀ a b c d:Value,(part 102 #[a,b,c,d] 0).run prog w = .ok (.agg #[a,b]) w:=fun _ _ _ _=>by kernel_rfl
 have u:∀ a b c d:Value,(part 102 #[a,b,c,d] 2).run prog w = .ok (.agg #[c,d]) w:=fun _ _ _ _=>by kernel_rfl
 have E:(sizeOf 102).run prog w = .ok 2 w:=by kernel_rfl
 have e1:(a == c)=((a:Int) == (c:Int)):=by rw [Bool.eq_iff_iff];simp;omega
 have e2:(b == d)=((b:Int) == (d:Int)):=by rw [Bool.eq_iff_iff];simp;omega
 rw [e1,e2];unfold AaQ Op.equal Op.maxDepth;rw [Op.equalIn];cases h:(a:Int) == (c:Int) <;> cases F:(b:Int) == (d:Int) <;> simp [q,r,u,E,AsY 9997,h,F,show List.range' 0 2=[0,1] from rfl]
theorem Ark (a b:Nat) (e:Bool) (w:World):(Instr.checkKey e 10000 195 (AaQ a b)).run prog w = .ok () w:=by kernel_rfl
def Bcv (c:List (Nat × Nat × Bool)) (a b:Nat):Option Nat:=c.findIdx? fun e=>e.1 == a && e.2.1 == b
theorem AkB (a b:Nat) (w:World):∀ (c:List (Nat × Nat × Bool)) (j i:Nat),(Instr.findAsking 195 (AaQ a b) (Aas j c) i).run prog w =
  .ok (match c.findIdx? (fun e=>e.1 == a && e.2.1 == b) with | some k=>some (i+k, .bool ((c.getD k (0,0,false)).2.2)) | none=>none) w
 | [],_,_=>rfl
 | x :: r,j,i=>by
  have h:=AkB a b w r (j+1) (i+1);have q:(a == x.1 && b == x.2.1)=(x.1 == a && x.2.1 == b):=by rw [Bool.eq_iff_iff];simp;omega
  rw [Aas,Instr.findAsking];simp only [Sem.run_bind,AjO,Result.andThen_ok,q,List.findIdx?_cons]
  cases u:(x.1 == a && x.2.1 == b)
  ·simp only [Bool.false_eq_true,if_false,h]
   cases r.findIdx? (fun e=>e.1 == a && e.2.1 == b) with
   | none=>rfl
   | some k=>simp [Nat.add_assoc,Nat.add_comm 1 k]
  ·simp
theorem Aph (c:List (Nat × Nat × Bool)) (a b:Nat):GN.cutAt c a b=match c.findIdx? (fun e=>e.1 == a && e.2.1 == b) with | some k=>(c.getD k (0,0,false)).2.2 | none=>false:=by
 unfold GN.cutAt
 induction c with
 | nil=>rfl
 | cons x r q =>
  rw [List.find?_cons,List.findIdx?_cons]
  cases u:(x.1 == a && x.2.1 == b)
  ·simp only [Bool.false_eq_true,if_false,q]
   cases r.findIdx? (fun e=>e.1 == a && e.2.1 == b) with
   | none=>rfl
   | some k=>simp
  ·simp
section
variable {w:World}{mb n:Nat}{c:List (Nat × Nat × Bool)}
theorem run_findKey (a b:Nat) (w:World):(Instr.findKey 195 (AaQ a b) (Aas 0 c)).run prog w =
  .ok (match c.findIdx? (fun e=>e.1 == a && e.2.1 == b) with | some k=>some (k, .bool ((c.getD k (0,0,false)).2.2)) | none=>none) w:=by
 have q:=run_underlying (w:=w) underlying195;have h:=AkB a b w c 0 0;have hn:∀ c:List (Nat × Nat × Bool),Instr.findNow (.array 2 102) (AaQ a b) (Aas 0 c) 0=if c=[] then some none else none:=by
  intro c;cases c with
  | nil=>rfl
  | cons x r=>simp [Aas,Instr.findNow,Instr.sameNow,AaQ]
 unfold Instr.findKey;simp only [Sem.run_bind,q,Result.andThen_ok,hn]
 cases hc:c with
 | nil=>simp
 | cons x r =>
  rw [if_neg (by simp)];simp only [Nat.zero_add] at h;rw [hc] at h;exact h
theorem AjS (hb:w.heap[mb]?=some (.map (Aas 0 c).toArray n)) (a b:Nat) :
  (Instr.lookup 124 (.map (some mb)) (AaQ a b) false).run prog w = .ok (.bool (GN.cutAt c a b)) w:=by
 have q:(zeroValue 4).run prog w = .ok (.bool false) w:=by kernel_rfl
 rw [Aph];simp only [Instr.lookup,Sem.run_bind,run_underlying underlying124,Result.andThen_ok,MapKept.run_getObj_map hb,Sem.run_pure,Ark,run_findKey]
 cases c.findIdx? (fun e=>e.1 == a && e.2.1 == b) with
 | none=>simp [q]
 | some k=>simp
theorem Ahk (a b:Nat) (v:Bool):∀ (c:List (Nat × Nat × Bool)) (j k:Nat),Aas j (c.set k (a,b,v))=(Aas j c).modify k fun e=>{ e with key:=AaQ a b,val := .bool v }
 | [],_,_=>by simp [Aas]
 | x :: r,j,0=>by simp [Aas]
 | x :: r,j,k+1=>by simp [Aas,Ahk a b v r (j+1) k]
theorem Aep (y:Nat × Nat × Bool):∀ (c:List (Nat × Nat × Bool)) (j:Nat),Aas j (c++[y])=Aas j c++[⟨AaQ y.1 y.2.1, .bool y.2.2,j+c.length⟩]
 | [],j=>by simp [Aas]
 | x :: r,j=>by simp [Aas,Aep y r (j+1),Nat.add_assoc,Nat.add_comm 1]
theorem AeC (hb:w.heap[mb]?=some (.map (Aas 0 c).toArray c.length)) (a b:Nat) (v:Bool) :
  (Instr.mapUpdate 124 (.map (some mb)) (AaQ a b) (.bool v)).run prog w = .ok () (DR w mb (.map (Aas 0 (GN.Awx c a b v)).toArray (GN.Awx c a b v).length)):=by
 have q:∀ w:World,(Instr.keyThatStays (AaQ a b) (AaQ a b)).run prog w = .ok (AaQ a b) w:=fun w=>by
  unfold Instr.keyThatStays;rw [if_pos (by unfold AaQ;simp [Instr.sameBits])];rfl
 simp only [Instr.mapUpdate,Sem.run_bind,run_underlying underlying124,Result.andThen_ok,MapKept.run_getObj_map hb,Ark,run_findKey,GN.Awx]
 cases u:c.findIdx? (fun e=>e.1 == a && e.2.1 == b) with
 | none =>
  simp only [MapKept.run_setObj_map _ hb,Aep];simp [DR]
 | some k =>
  have hold:((((Aas 0 c).toArray[k]?).map (·.key)).getD (AaQ a b))=AaQ a b:=by
   obtain ⟨E,hp,-⟩:=List.findIdx?_eq_some_iff_getElem.1 u;have F:∀ (c:List (Nat × Nat × Bool)) (j k:Nat) (h:k<c.length),(Aas j c)[k]?=some ⟨AaQ c[k].1 c[k].2.1, .bool c[k].2.2,j+k⟩:=by
    intro c
    induction c with
    | nil=>intro j k h;simp at h
    | cons x r J=>intro j k h;cases k with
     | zero=>simp [Aas]
     | succ k=>simp only [Aas,ax,List.getElem_cons_succ];rw [J];simp [Nat.add_assoc,Nat.add_comm 1];simpa using h
   simp only [List.getElem?_toArray,F c 0 k E];simp only [Bool.and_eq_true,beq_iff_eq] at hp;simp [hp]
  simp only [Sem.run_bind,hold,q,Result.andThen_ok,MapKept.run_setObj_map _ hb,Ahk];simp [DR]
end
theorem Ais (a b:Nat):AeS a b=AaQ (min a b) (max a b):=by
 unfold AeS AaQ;rw [show min (a:Int) (b:Int)=((min a b:Nat):Int) by omega,show max (a:Int) (b:Int)=((max a b:Nat):Int) by omega]
theorem AcP (g:GN){a b:Nat}(q:a<g.n) (hb:b<g.n) (r:a ≠ b):g.linked a b=true:=by
 unfold GN.linked;simp;omega
section
variable {w:World}{o:Own}{N p:Nat}{g:GN}
theorem Aom (h:sV w o N p g){a b:Nat}(ha:a<g.n) (hb:b<g.n) (a4:a ≠ b):Calls prog 101 #[.pointer (some ⟨p,0,none⟩), .agg #[.int .i64 0, .int .i64 (a:Int)], .agg #[.int .i64 0, .int .i64 (b:Int)]] w (XL ai w o fun v _ _=>v = .bool (g.cuts a b)):=by
 obtain ⟨W,oW,hW,⟨u,a5⟩,-⟩:=Ajq w o (.cells #[.int .i64 0, .int .i64 (a:Int)] 102) (.cells #[.int .i64 0, .int .i64 (b:Int)] 102);have hl:=ae (AfA (h.step u id id) a b);have hH:=ae (h.step u id id);have a6:=ae u;have XX:=ae hW;clear u a5 hW h;go_enter func101,ntmps101;go_wp2_with fail;rw [XX.out];refine hl.out.mono ?_;rintro e q ⟨v1,o1,rfl,E,rfl⟩;rw [Ais,AcP g ha hb a4];unfold AaQ;obtain ⟨x,F⟩:=az (min a b);obtain ⟨y,hy⟩:=az (max a b);rw [F,hy];obtain ⟨W2,o2,a2,⟨J,-⟩,r⟩:=AaC q o1 (.cells #[.int .i64 0, .int .i64 (x:Int), .int .i64 0, .int .i64 (y:Int)] 195);obtain ⟨sv,lv,O,cs,h1, -, -, -, -,h7,-⟩:=(hH.out.step E id id).step J id id;have c2:=ag h1 2;have U:=r.cell 0;have Y:=r.cell 1;have c5:=r.cell 2;have c6:=r.cell 3;simp only [ay,ax] at c2 U Y c5 c6;have hS:=aI (show W2.drew.heap[O]?=_ from h7) (aI c2 (aI U (aI Y (aI c5 c6))));have hF:=ae ((a6.out.trans E).trans J);have hc:g.cuts a b=GN.cutAt g.cut x y:=by unfold GN.cuts;rw [F,hy]
 have WV:=ae hc;have xO:=ae a2;clear E J r h1 h7 c2 U Y c5 c6 hc F hy a2;go_wp2_with fail;rw [xO.out];refine Aa (fun w'=>w'.heap[O]?=some (.map (Aas 0 g.cut).toArray g.cut.length)/\w'.cell? ⟨p,2,none⟩=some (.map (some O))/\w'.cell? ⟨q.heap.size,0,none⟩=some (.int .i64 0)/\w'.cell? ⟨q.heap.size,1,none⟩=some (.int .i64 (x:Int))/\w'.cell? ⟨q.heap.size,2,none⟩=some (.int .i64 0)/\w'.cell? ⟨q.heap.size,3,none⟩=some (.int .i64 (y:Int))) (fun _=>true) (by kernel_rfl) hS (fun a7=>?_);refine tq 0 (h:=tq 1 (h:=tq 2 (h:=tq 3 (h:=tq 4 (h:=tq 5 (h:=tq 6 (h:=tv 7 (.bool (GN.cutAt g.cut x y)) (hy:=fun w a3=>by (try dsimp only at a3);go_simp;rw [show (Value.agg #[.int .i64 0, .int .i64 (x:Int), .int .i64 0, .int .i64 (y:Int)])=AaQ x y from rfl,AjS a3.1];rfl) (h:=tq 8 (h:=tq 9 (h:=tD (h:=?_)))))))))))
 go_wp2
 go_ret;exact ⟨_,_,rfl,hF.out.drew,by rw [WV.out];rfl⟩
theorem sV.put (h:sV w o N p g) (hN:N ≠ 0) (a b:Nat) (v:Bool):∃ mb V,w.cell? ⟨p,2,none⟩=some (.map (some mb))/\w.heap[mb]?=some (.map (Aas 0 g.cut).toArray g.cut.length) /\
  (Instr.mapUpdate 124 (.map (some mb)) (AaQ a b) (.bool v)).run prog w = .ok () V/\aj (ak N) w o V o/\sV V o N p { g with cut:=GN.Awx g.cut a b v }:=by
 obtain ⟨O,U,mb,W,F,r,Y,h4,h6,u,q⟩:=h;have E:=(aj.refl (ak N) w o).DR mb (.map (Aas 0 (GN.Awx g.cut a b v)).toArray (GN.Awx g.cut a b v).length) (.inl (by rw [q];rfl));have h0:¬ ak N 0:=fun e=>hN e.symm;have a2:mb ≠ p:=by rintro rfl;rw [q] at r;cases r
 refine ⟨mb,_,ag F 2,u,AeC u a b v,E,O,U,mb,W,(JS a2).trans F,r,Y.step E h0,h4.keep (fun k _ J=>⟨JS (by rintro rfl;rw [q] at J;cases J),rfl⟩),h6.step E h0,Ot (au u),q⟩
theorem AjI (h:sV w o N p g) (hN:N ≠ 0) (a b:Int) (v:Bool):Calls prog 108 #[.pointer (some ⟨p,0,none⟩), .agg #[.int .i64 0, .int .i64 a], .agg #[.int .i64 0, .int .i64 b], .bool v] w (XL (ak N) w o fun r w' o'=>r = .int .i64 (g.turn a b v).2/\sV w' o' N p (g.turn a b v).1):=by
 obtain ⟨W,oW,hW,⟨a2,a7⟩,-⟩:=Ajq w o (.cells #[.int .i64 0, .int .i64 a] 102) (.cells #[.int .i64 0, .int .i64 b] 102);have hl:=ae (AfA (h.step a2 id id) a b);have hH:=ae (h.step a2 id id);have a3:=ae (a2.mono (T':=ak N) fun _ h=>h.elim);have XX:=ae hW;clear a2 a7 hW h;unfold GN.turn
 cases q:g.linked a b with
 | false =>
  rw [q] at hl;go_enter func108,ntmps108;go_wp2_with fail;rw [XX.out];refine hl.out.mono ?_;rintro e u ⟨v1,o1,rfl,E,rfl⟩;unfold AeS;obtain ⟨J,o2,O,⟨F,-⟩,-⟩:=AaC u o1 (.cells #[.int .i64 0, .int .i64 (min a b), .int .i64 0, .int .i64 (max a b)] 195);have U:=ae (aI (a3.out.trans ((E.trans F).mono fun _ h=>h.elim)) ((hH.out.step E id id).step F id id));have xO:=ae O;clear E F O
  go_wp2
  go_ret;rw [xO.out];exact ⟨_,_,rfl,U.out.1,rfl,U.out.2⟩
 | true =>
  obtain ⟨a,rfl⟩:∃ n:Nat,a=n:=⟨a.toNat,by unfold GN.linked at q;simp at q;omega⟩;obtain ⟨b,rfl⟩:∃ n:Nat,b=n:=⟨b.toNat,by unfold GN.linked at q;simp at q;omega⟩;rw [q,Ais] at hl;simp only [if_true,Int.toNat_natCast];obtain ⟨x,hx⟩:=az (min a b);obtain ⟨y,hy⟩:=az (max a b);rw [hx,hy] at hl ⊢;unfold AaQ at hl;clear q hx hy;go_enter func108,ntmps108;go_wp2_with fail;rw [XX.out];refine hl.out.mono ?_;rintro e u ⟨v1,o1,rfl,E,rfl⟩;obtain ⟨J,o2,O,⟨F,-⟩,Y⟩:=AaC u o1 (.cells #[.int .i64 0, .int .i64 (x:Int), .int .i64 0, .int .i64 (y:Int)] 195);have dr:aj ai J o2 J.drew o2:=(aj.refl ai J o2).drew;obtain ⟨mb,V,c2,h7,a4,a5,a6⟩:=(((hH.out.step E id id).step F id id).step dr id id).put hN x y v;have c3:=Y.cell 0;have c4:=Y.cell 1;have c5:=Y.cell 2;have c6:=Y.cell 3;simp only [ay,ax] at c3 c4 c5 c6;have hS:=aI c2 (aI (show J.drew.cell? _=_ from c3) (aI c4 (aI c5 c6)));have U:=ae (aI ((a3.out.trans (((E.trans F).trans dr).mono fun _ h=>h.elim)).trans a5) a6);have tN:=ae a4;have xO:=ae O;clear E F Y h7 c2 c3 c4 c5 c6 O a4 a5 a6 dr;go_wp2_with fail;rw [xO.out];refine Aa (fun w'=>w'.cell? ⟨p,2,none⟩=some (.map (some mb))/\w'.cell? ⟨u.heap.size,0,none⟩=some (.int .i64 0)/\w'.cell? ⟨u.heap.size,1,none⟩=some (.int .i64 (x:Int))/\w'.cell? ⟨u.heap.size,2,none⟩=some (.int .i64 0)/\w'.cell? ⟨u.heap.size,3,none⟩=some (.int .i64 (y:Int))) (fun i=>decide (i<6)) (by kernel_rfl) hS (fun a8=>?_);refine tq 0 (h:=tq 1 (h:=tq 2 (h:=tq 3 (h:=tq 4 (h:=tq 5 (h:=tO 6 (h:=?_)))))));refine QO tN.out ?_;go_wp2_with fail;refine ⟨fun h=>by simp at h, ?_⟩;refine tD (h:=?_)
  go_wp2
  go_ret;exact ⟨_,_,rfl,U.out.1,rfl,U.out.2⟩
theorem AkG (h:sV w o N p g) (hN:N ≠ 0) (a b:Int):Calls prog 66 #[.pointer (some ⟨p,0,none⟩), .agg #[.int .i64 0, .int .i64 a], .agg #[.int .i64 0, .int .i64 b]] w (XL (ak N) w o fun r w' o'=>r = .int .i64 (g.turn a b true).2/\sV w' o' N p (g.turn a b true).1):=by
 obtain ⟨W,U,u,⟨q,-⟩,-⟩:=Ajq w o (.cells #[.int .i64 0, .int .i64 a] 102) (.cells #[.int .i64 0, .int .i64 b] 102);have J:=ae u;clear u;have h:=ae (AjI (h.step q id id) hN a b true);have O:=ae (q.mono (T':=ak N) fun _ h=>h.elim);clear q;go_enter func66,ntmps66;go_wp2_with fail;rw [J.out];refine h.out.mono ?_;rintro e Y ⟨v1,o1,rfl,E,rfl,F⟩;have hn:=ae (aI (O.out.trans E) F);clear E F;go_wp2_with fail;go_ret;exact ⟨_,o1,rfl,hn.out.1,rfl,hn.out.2⟩
theorem Axz (h:sV w o N p g) (hN:N ≠ 0) (a b:Int):Calls prog 84 #[.pointer (some ⟨p,0,none⟩), .agg #[.int .i64 0, .int .i64 a], .agg #[.int .i64 0, .int .i64 b]] w (XL (ak N) w o fun r w' o'=>r = .int .i64 (g.turn a b false).2/\sV w' o' N p (g.turn a b false).1):=by
 obtain ⟨W,U,u,⟨q,-⟩,-⟩:=Ajq w o (.cells #[.int .i64 0, .int .i64 a] 102) (.cells #[.int .i64 0, .int .i64 b] 102);have J:=ae u;clear u;have h:=ae (AjI (h.step q id id) hN a b false);have O:=ae (q.mono (T':=ak N) fun _ h=>h.elim);clear q;go_enter func84,ntmps84;go_wp2_with fail;rw [J.out];refine h.out.mono ?_;rintro e Y ⟨v1,o1,rfl,E,rfl,F⟩;have hn:=ae (aI (O.out.trans E) F);clear E F;go_wp2_with fail;go_ret;exact ⟨_,o1,rfl,hn.out.1,rfl,hn.out.2⟩
end

end Go.Proofs.YtffkdillijmamaaGreat
