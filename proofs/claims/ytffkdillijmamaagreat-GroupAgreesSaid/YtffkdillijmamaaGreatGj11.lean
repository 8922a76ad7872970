/- Contract of zab's stand. -/
import Derived.Test.YtffkdillijmamaaGreatGj9
import Derived.Test.YtffkdillijmamaaGreatGj10
namespace Go.Proofs.YtffkdillijmamaaGreat
open Go.Proofs.Tryz
set_option maxRecDepth 100000
set_option maxHeartbeats 12800000
open Go Go.RowKit
attribute [local go_sem ↓] Go.wp_at_zero Go.wp_at_succ
theorem Vl (a b:BitVec 64):(Fj a b).toNat=max a.toNat b.toNat:=by
 unfold Fj;split <;> omega
theorem YI {a:BitVec 64}{id n:Nat}(q:a.toNat<=281474976710656) (r:1<=n) (u:n<=3) (_E:id<n):(PQ a id n).toNat=a.toNat+1+(id+n - (a.toNat+1) % n) % n:=by
 unfold PQ;rw [if_neg om,BitVec.toNat_ofNat];have:=Nat.mod_lt (id+n - (a.toNat+1) % n) (show 0<n by omega);rw [Nat.mod_eq_of_lt om]
theorem Rn {w:World}{o:Own}{D M pz ps pd K B:Nat}{z:Am}(h:Bc w o D M pz ps pd z) (hp:Am.NP K B z) (hK:K+606<65536) (hB:B<=90000) :
  Calls prog 98 #[.pointer (some ⟨pz,0,none⟩)] w (XL (KC D M) w o fun v w' o'=>Dn w' o' v (Ed z.stand.2)/\Bc w' o' D M pz ps pd z.stand.1):=by
 have g4:z.n<=3:=hp.ok.n3;have g5:1<=z.n:=hp.ok.n1;have g6:z.id<z.n:=hp.ok.id;have r1:z.s.kept.promised.toNat<=281474976710656:=hp.ok.pt;have r2:z.seen.toNat<=281474976710656:=hp.ok.se;have i1:En B z.s.kept.lines:=hp.ok.ls;have i2:=En.small i1 om;have ha:=Vl z.s.kept.promised z.seen;obtain ⟨a,i3⟩:=az (Fj z.s.kept.promised z.seen);rw [i3] at ha;have e4:a.toNat<=281474976710656:=om
 have i4:=YI e4 g5 g4 g6;obtain ⟨e,he⟩:=az (PQ a z.id z.n);rw [he] at i4;have g7:1<=e.toNat:=om
 have l7:z.stand=if (z.s.promise e).2=0 then
   ((({ z with s:=(z.s.promise e).1,BB := .stands e ((List.replicate z.n none).set z.id (some (z.s.kept.current,z.s.kept.lines))),waited:=0 }:Am).lead e ((List.replicate z.n none).set z.id (some (z.s.kept.current,z.s.kept.lines)))).1,(z.BN.others fun _=>⟨1,e,0,0,0,[]⟩)++(({ z with s:=(z.s.promise e).1,BB := .stands e ((List.replicate z.n none).set z.id (some (z.s.kept.current,z.s.kept.lines))),waited:=0 }:Am).lead e ((List.replicate z.n none).set z.id (some (z.s.kept.current,z.s.kept.lines)))).2)
  else ({ z with s:=(z.s.promise e).1 },[]):=by
  unfold Am.stand;simp only [i3,he];rw [if_neg (fun h=>by rw [h] at g7;exact absurd g7 (by decide))]
 obtain ⟨R,hR⟩:=az (z.stand);rw [hR];rw [l7] at hR;have i5:=aG a.toNat z.id z.n e4 g5 g4 g6;rw [<-i4] at i5;obtain ⟨u,rv,hb,hr,hs⟩:=h;obtain ⟨⟨-, -,c2, -⟩, -⟩:=hb.cells;have l8:=ae (DJ hs i2);have l9:max (z.s.kept.promised.toNat:Int) (z.seen.toNat:Int)=(a.toNat:Int):=om
 have t4:((e.toNat:Int) == 0)=false:=by
  have:¬ (e.toNat:Int)=0:=om
  simpa using this
 have hH:=ae (aI u (aI hb (aI hr hs)));have m0:=AcS hp.sp om hp.kok e;have g8:=ae m0;have m1:=ae i5;have hP:=ae (aI hp (aI i1 (aI i2 g7)));have KI:=ae hR;have r3:=ae l9;have hI:=ae (aI g5 (aI g4 g6));clear u hb hr hs m0 i5 hp i1 i2 g7 hR l7 i4 he i3 ha e4 r1 r2 g4 g5 g6 l9;go_enter func98,ntmps98;go_wp2_with fail;refine l8.out.mono ?_;rintro ex w1 ⟨v1,o1,rfl,m2,lv,rfl,hl,rfl⟩;obtain ⟨la,lc,rfl⟩:=hl.form;obtain ⟨L,hL⟩:=az (z.s.kept.lines.length);have i6:=AB (P:=prog) w1 37 _ OZ;have g9:=MX w1 z.s.kept.promised z.s.kept.current la L lc;have k2:=(aj.refl ai w1 (ext w o)).alloc (.cells (BR z.s.kept.promised z.s.kept.current (.slice la L lc)).toArray 37) (0,0);have e8:=heap_alloc_new w1 (.cells (BR z.s.kept.promised z.s.kept.current (.slice la L lc)).toArray 37);have i7:=Au (ext w o) w1.heap.size (0,0);generalize Ak (ext w o) w1.heap.size (0,0)=o2 at *;obtain ⟨W2,m5⟩:=az (w1.alloc (.cells (BR z.s.kept.promised z.s.kept.current (.slice la L lc)).toArray 37));rw [m5] at g9 k2 e8;obtain ⟨J,m6⟩:=az (w1.heap.size);rw [m6] at i6 g9 e8 i7;obtain ⟨V,hV⟩:=az (W2.drew);have kV:aj ai W2 o2 V o2:=by rw [<-hV];exact (aj.refl ai W2 o2).drew
 have e5:=(m2.trans k2).trans kV;have c0:=(kV.block _ (au e8) id).trans e8;have e6:=(hl.step (k2.trans kV) id).low (Nat.zero_le _);rw [hL] at e6;have d7:∀ W O,aj ai V o2 W O->W.cell? ⟨J,0,none⟩=some (.int .u64 (z.s.kept.promised.toNat:Int))/\W.cell? ⟨pz,5,none⟩=some (.int .u64 (z.seen.toNat:Int))/\W.cell? ⟨pz,0,none⟩=some (.int .i64 (z.id:Int))/\W.cell? ⟨pz,1,none⟩=some (.int .i64 (z.n:Int)):=by
  intro W O q;obtain ⟨⟨d0,d1, -, -, -,d5, -⟩, -⟩:=(hH.out.2.1.step (e5.trans q) id).cells;have dk:=ag ((q.block _ (au c0) id).trans c0) 0;simp only [BR,ay] at dk;exact ⟨dk,d5,d0,d1⟩
 have b6:=ae d7;have i8:=d7 V o2 (aj.refl _ _ _);rw [<-hV] at i8;have m7:=ae (aI e5 (aI c0 (aI e6 (i7))));have r4:=ae i6;have r5:=ae g9;rw [hL];clear m2 hl i6 g9 k2 e8 i7 m5 m6 kV e5 c0 e6 d7 l8 c2
 go_wp2_with (first
  | ((with_reducible apply AU);exact r4.out;simp only [Act.put,GL,DL,lss])
  | ((with_reducible apply AC);exact r5.out;simp only [Act.put]))
 refine Jd (fun a0 a' w'=>∃ (r:Nat) (oF:Own) (y1 y2 y3 y4 y5 y6 y7 y8 y9 e9 f0 f1 f2 f5 m8 m9:Value),a'=Act.puts a0 [12,13,14,15,16,17,18,19,20,21,22,23,24,25,26,27,4] [y1,y2,y3,y4,y5,y6,y7,y8,y9,e9,f0,f1,f2,f5,m8,m9, .pointer (some ⟨r,0,none⟩)]/\V.heap.size<=r/\w'.heap[r]?=some (.cells [Value.int .u64 (e.toNat:Int)].toArray 34 (0,0))/\(oF r).1=0/\aj ai V o2 w' oF) ?_ ?_
 ·refine Aa (fun w'=>w'.cell? ⟨J,0,none⟩=some (.int .u64 (z.s.kept.promised.toNat:Int))/\w'.cell? ⟨pz,5,none⟩=some (.int .u64 (z.seen.toNat:Int))/\w'.cell? ⟨pz,0,none⟩=some (.int .i64 (z.id:Int))/\w'.cell? ⟨pz,1,none⟩=some (.int .i64 (z.n:Int))) (fun _=>true) (by kernel_rfl) i8 (fun d4 => ?_);rw [hV] at d4 ⊢;have q:aj ai V o2 V o2:=aj.refl _ _ _;refine tn 0 (h:=tn 1 (h:=tn 2 (h:=tn 3 (h:=tn 4 (h:=tn 5 (h:=tv 6 (.int .u64 (a.toNat:Int)) (hy:=fun w r6=>by (try dsimp only at r6);go_simp;exact r3.out) (hQ:=by exact fun _ _ _ h=>nomatch h.1) (h:=tn 7 (h:=tn 8 (h:=tn 9 (h:=tn 10 (h:=tn 11 (h:=tn 12 (h:=tn 13 (h:=?_))))))))))))));refine tn 14 (h:=?_);refine Gm (i:=15) (j:=16) rfl rfl (by kernel_rfl) ?_ ?_
  ·go_wp2_with fail;refine (m1.out _).mono ?_;rintro e' w' ⟨rfl,rfl⟩;go_wp2_with fail;refine ⟨fun _=>d4, ?_⟩;refine tO 16 (h:=?_);obtain ⟨r,b2⟩:=az (V.heap.size);have f6:V.heap.size<=r:=by rw [<-b2];exact q.size
   have b3:=(aj.refl ai V o2).alloc (.cells [Value.int .u64 0].toArray 34) (0,0);have Y:=heap_alloc_new V (.cells [Value.int .u64 0].toArray 34);have f7:=Au o2 V.heap.size (0,0);obtain ⟨d8,E⟩:=az (V.alloc (.cells [Value.int .u64 0].toArray 34));obtain ⟨e7,a8⟩:=az (Ak o2 V.heap.size (0,0));rw [E,a8] at b3;rw [a8,b2] at f7;rw [E,b2] at Y;have a2:(Instr.alloc 34 true (.tuple #[])).run prog V = .ok (.pointer (some ⟨r,0,none⟩)) d8:=by rw [<-E, <-b2];kernel_rfl
   have c6:=ae a2;have q:=q.trans b3;have hS:=b6.out _ _ q;clear a2 b3 E a8 b2;refine AU c6.out ?_;refine wpList_nil ?_;simp only [Act.put,GL,DL,lss];refine ⟨fun _=>hS, ?_⟩;refine tO 17 (h:=?_);have i9:=ag Y 0;have r7:=Ap Y 0;simp only [ay] at i9;have q:=q.setCell (a:=⟨r,0,none⟩) (.int .u64 (e.toNat:Int)) (.inr f6);have Y:=Ai (i:=0) (.int .u64 (e.toNat:Int)) Y;have hS:=b6.out _ _ q;go_wp2_with fail;refine ⟨fun _=>hS, ?_⟩;refine tD (h:=?_);exact ⟨rfl,r,e7, .pointer (some ⟨J,0,none⟩), .int .u64 (z.s.kept.promised.toNat:Int), .pointer (some ⟨pz,0,none⟩), .pointer (some ⟨pz,0,none⟩), .pointer (some ⟨pz,5,none⟩), .int .u64 (z.seen.toNat:Int), .int .u64 (a.toNat:Int), .pointer (some ⟨pz,0,none⟩), .pointer (some ⟨pz,0,none⟩), .pointer (some ⟨pz,0,none⟩), .int .i64 (z.id:Int), .pointer (some ⟨pz,0,none⟩), .pointer (some ⟨pz,0,none⟩), .pointer (some ⟨pz,1,none⟩), .int .i64 (z.n:Int), .int .u64 (e.toNat:Int),by simp only [Act.puts,Act.put,GL,DL,lss],f6,Y,by rw [f7],q⟩
  ·obtain ⟨r,b2⟩:=az (V.heap.size);have f6:V.heap.size<=r:=by rw [<-b2];exact q.size
   have b3:=(aj.refl ai V o2).alloc (.cells [Value.int .u64 0].toArray 34) (0,0);have Y:=heap_alloc_new V (.cells [Value.int .u64 0].toArray 34);have f7:=Au o2 V.heap.size (0,0);obtain ⟨d8,E⟩:=az (V.alloc (.cells [Value.int .u64 0].toArray 34));obtain ⟨e7,a8⟩:=az (Ak o2 V.heap.size (0,0));rw [E,a8] at b3;rw [a8,b2] at f7;rw [E,b2] at Y;have a2:(Instr.alloc 34 true (.tuple #[])).run prog V = .ok (.pointer (some ⟨r,0,none⟩)) d8:=by rw [<-E, <-b2];kernel_rfl
   have c6:=ae a2;have q:=q.trans b3;have hS:=b6.out _ _ q;clear a2 b3 E a8 b2;refine AU c6.out ?_;refine wpList_nil ?_;simp only [Act.put,GL,DL,lss];refine ⟨fun _=>hS, ?_⟩;refine tO 15 (h:=?_);go_wp2_with fail;refine (m1.out _).mono ?_;rintro e' w' ⟨rfl,rfl⟩;go_wp2_with fail;refine ⟨fun _=>hS, ?_⟩;refine tO 17 (h:=?_);have i9:=ag Y 0;have r7:=Ap Y 0;simp only [ay] at i9;have q:=q.setCell (a:=⟨r,0,none⟩) (.int .u64 (e.toNat:Int)) (.inr f6);have Y:=Ai (i:=0) (.int .u64 (e.toNat:Int)) Y;have hS:=b6.out _ _ q;go_wp2_with fail;refine ⟨fun _=>hS, ?_⟩;refine tD (h:=?_);exact ⟨rfl,r,e7, .pointer (some ⟨J,0,none⟩), .int .u64 (z.s.kept.promised.toNat:Int), .pointer (some ⟨pz,0,none⟩), .pointer (some ⟨pz,0,none⟩), .pointer (some ⟨pz,5,none⟩), .int .u64 (z.seen.toNat:Int), .int .u64 (a.toNat:Int), .pointer (some ⟨pz,0,none⟩), .pointer (some ⟨pz,0,none⟩), .pointer (some ⟨pz,0,none⟩), .int .i64 (z.id:Int), .pointer (some ⟨pz,0,none⟩), .pointer (some ⟨pz,0,none⟩), .pointer (some ⟨pz,1,none⟩), .int .i64 (z.n:Int), .int .u64 (e.toNat:Int),by simp only [Act.puts,Act.put,GL,DL,lss],f6,Y,by rw [f7],q⟩
 rintro a3 W3 ⟨r,o3,y1,y2,y3,y4,y5,y6,y7,y8,y9,e9,f0,f1,f2,f5,m8,m9,rfl,r8,Y,n5,f8⟩;simp only [Act.puts,Act.put,GL,DL,lss];clear i8 hV;obtain ⟨e5,c0,e6,n6⟩:=m7.out;have n7:=e5.trans f8;have n8:=(f8.block _ (au c0) id).trans c0;have n9:(o3 J).1=0:=by rw [f8.own J (au c0),n6]
 have o0:=e6.step f8 id;have dr:aj ai W3 o3 W3.drew o3:=(aj.refl ai W3 o3).drew;have a6:=n7.trans dr;obtain ⟨⟨-, -,c2, -⟩, -⟩:=(hH.out.2.1.step a6 id).cells;have ce:=ag (w:=W3.drew) Y 0;simp only [ay] at ce;have o4:=aI ce c2;have j0:=Jb hH.out.1 (hH.out.2.2.2.step0 a6) hP.out.1.sp hP.out.2.2.1 e;have hG:=ae (aI a6 (aI (show W3.drew.heap[J]?=_ from n8) (aI (o0.step dr id) (aI (show W3.drew.heap[r]?=_ from Y) (aI n5 n9)))));clear e5 c0 e6 n6 n7 n8 n9 o0 dr a6 c2 ce Y n5 f8 r8 b6 m7;obtain ⟨Q,hQ⟩:=az (z.s.promise e);simp only [hQ] at j0 g8 KI;have o5:=ae j0;clear j0
 rcases g8.out with ⟨s',er,j1,j2⟩ | ⟨o8,s',j1,r9,s1⟩
 ·subst j1;have t5:(er == 0)=false:=by simpa using j2
  have t6:(er != 0)=true:=by simpa using j2
  rw [if_neg (show ¬ (s',er).2=0 from j2)] at KI;clear g8;go_wp2_with fail;refine Aa (fun w'=>w'.cell? ⟨r,0,none⟩=some (.int .u64 (e.toNat:Int))/\w'.cell? ⟨pz,2,none⟩=some (.pointer (some ⟨ps,0,none⟩))) (fun _=>true) (by kernel_rfl) o4 (fun d4 => ?_);refine tq 0 (h:=tq 1 (h:=tq 2 (h:=tq 3 (h:=tq 4 (h:=tq 5 (h:=tq 6 (h:=tq 7 (h:=tO 8 (h:=?_)))))))));go_wp2_with fail;refine o5.out.mono ?_;rintro e' W6 ⟨v6,o6,rfl,U,rfl,pW⟩;obtain ⟨a6,c7,f9,c8,d9,e0⟩:=hG.out;obtain ⟨u,hb,hr,hs⟩:=hH.out;have nZ:¬ qG (M+1) (M+2) (M+3) D (M+4):=KC.WZ u.1 u.2;have n0:¬ qG (M+1) (M+2) (M+3) D 0:=fun h=>by unfold qG at h;have:=u.2;omega
  have a4:=(hb.step a6 id).step U nZ;have b4:=(hr.step a6 id id).step U nZ n0;have b5:=(U.block J (au c7) (by rw [e0];exact n0)).trans c7;have a5:=(U.block r (au c8) (by rw [d9];exact n0)).trans c8;have b7:(o6 r).1=0:=by rw [U.own r (au c8)];exact d9
  have c9:(o6 J).1=0:=by rw [U.own J (au c7)];exact e0
  have b9:=f9.step U n0;have a9:=(a6.mono (fun _ h=>h.elim)).trans (U.mono KC.in4);obtain ⟨⟨-, -,c2, -⟩, -⟩:=a4.cells;have ce:=ag a5 0;simp only [ay] at ce;have g0:=aI ce c2;have h1:=ae (aI a9 (aI a4 (aI b4 (aI b5 (aI a5 (aI b7 (aI c9 (aI b9 (aI pW u)))))))));clear U pW a6 c7 f9 c8 d9 e0 u hb hr hs nZ n0 a4 b4 b5 a5 b7 c9 b9 a9 c2 ce d4;go_wp2_with fail;refine ⟨fun _=>g0, ?_⟩;refine tq 9 (h:=tq 10 (h:=tD (h:=?_)));clear g0;go_wp2_with fail;go_ret;obtain ⟨a9,a4,b4, -, -, -, -, -,pW,u⟩:=h1.out;refine ⟨_,o6,rfl,a9,by rw [<-KI.out];exact Dn.nil _ _, ?_⟩;rw [<-KI.out];exact ⟨u,rv,a4,b4,pW⟩
 ·subst j1;rw [if_pos rfl] at KI;clear g8;go_wp2_with fail;refine Aa (fun w'=>w'.cell? ⟨r,0,none⟩=some (.int .u64 (e.toNat:Int))/\w'.cell? ⟨pz,2,none⟩=some (.pointer (some ⟨ps,0,none⟩))) (fun _=>true) (by kernel_rfl) o4 (fun d4 => ?_);refine tq 0 (h:=tq 1 (h:=tq 2 (h:=tq 3 (h:=tq 4 (h:=tq 5 (h:=tq 6 (h:=tq 7 (h:=tO 8 (h:=?_)))))))));go_wp2_with fail;refine o5.out.mono ?_;rintro e' W6 ⟨v6,o6,rfl,U,rfl,pW⟩;obtain ⟨a6,c7,f9,c8,d9,e0⟩:=hG.out;obtain ⟨u,hb,hr,hs⟩:=hH.out;have nZ:¬ qG (M+1) (M+2) (M+3) D (M+4):=KC.WZ u.1 u.2;have n0:¬ qG (M+1) (M+2) (M+3) D 0:=fun h=>by unfold qG at h;have:=u.2;omega
  have a4:=(hb.step a6 id).step U nZ;have b4:=(hr.step a6 id id).step U nZ n0;have b5:=(U.block J (au c7) (by rw [e0];exact n0)).trans c7;have a5:=(U.block r (au c8) (by rw [d9];exact n0)).trans c8;have b7:(o6 r).1=0:=by rw [U.own r (au c8)];exact d9
  have c9:(o6 J).1=0:=by rw [U.own J (au c7)];exact e0
  have b9:=f9.step U n0;have a9:=(a6.mono (fun _ h=>h.elim)).trans (U.mono KC.in4);obtain ⟨⟨-, -,c2, -⟩, -⟩:=a4.cells;have ce:=ag a5 0;simp only [ay] at ce;have g0:=aI ce c2;have h1:=ae (aI a9 (aI a4 (aI b4 (aI b5 (aI a5 (aI b7 (aI c9 (aI b9 (aI pW u)))))))));clear U pW a6 c7 f9 c8 d9 e0 u hb hr hs nZ n0 a4 b4 b5 a5 b7 c9 b9 a9 c2 ce d4;go_wp2_with fail;refine ⟨fun _=>g0, ?_⟩;refine tq 9 (h:=tq 10 (h:=tD (h:=?_)));clear g0;go_wp2_with fail;obtain ⟨a9,a4,b4,b5,a5,b7,c9,b9,pW,u⟩:=h1.out;obtain ⟨F,h2⟩:=az (W6.drew);have kD:aj ai W6 o6 F o6:=by rw [<-h2];exact (aj.refl ai W6 o6).drew
  have d7:∀ W O,aj ai F o6 W O->W.cell? ⟨r,0,none⟩=some (.int .u64 (e.toNat:Int))/\W.cell? ⟨pz,0,none⟩=some (.int .i64 (z.id:Int))/\W.cell? ⟨J,1,none⟩=some (.int .u64 (z.s.kept.current.toNat:Int))/\W.cell? ⟨J,2,none⟩=some (.slice la L lc):=by
   intro W O q;have q:=kD.trans q;obtain ⟨⟨d0, -⟩, -⟩:=(a4.step q id).cells;have de:=ag ((q.block _ (au a5) id).trans a5) 0;have dk:=ag ((q.block _ (au b5) id).trans b5);have p0:=dk 1;have p1:=dk 2;simp only [BR,ay,ax] at de p0 p1;exact ⟨de,d0,p0,p1⟩
  have b6:=ae d7;have j3:=d7 F o6 (aj.refl _ _ _);rw [<-h2] at j3;have h3:w.heap.size<=F.heap.size:=Nat.le_trans a9.size kD.size;have s2:=ae (aI kD h3);clear a9 a4 b4 b5 a5 b7 c9 b9 pW u kD d7 h3;refine Jd (fun a0 a' w'=>∃ (mk sb:Nat) (oF:Own) (y1 y2 y3 y4 y5 y6 y7 y8 y9 e9 f0 f1 f2 f5:Value),a'=Act.puts a0 [39,40,41,42,43,44,45,46,47,48,49,50,51,52,5] [y1,y2,y3,y4,y5,y6,y7,y8,y9,e9,f0,f1,f2,f5, .pointer (some ⟨sb,0,none⟩)]/\F.heap.size<=mk/\F.heap.size<=sb/\mk ≠ sb/\w'.heap[mk]?=some (.map (Bd 0 [(z.id,z.s.kept.current,Value.slice la L lc)]).toArray 1)/\w'.heap[sb]?=some (.cells [Value.int .u64 (e.toNat:Int), .map (some mk)].toArray 206 (0,0))/\aj ai F o6 w' oF) ?_ ?_
  ·refine Aa (fun w'=>w'.cell? ⟨r,0,none⟩=some (.int .u64 (e.toNat:Int))/\w'.cell? ⟨pz,0,none⟩=some (.int .i64 (z.id:Int))/\w'.cell? ⟨J,1,none⟩=some (.int .u64 (z.s.kept.current.toNat:Int))/\w'.cell? ⟨J,2,none⟩=some (.slice la L lc)) (fun _=>true) (by kernel_rfl) j3 (fun d4 => ?_);rw [h2] at d4 ⊢;have q:aj ai F o6 F o6:=aj.refl _ _ _;refine tn 0 (h:=tn 2 (h:=tn 3 (h:=tn 4 (h:=tn 5 (h:=tn 6 (h:=tn 7 (h:=tn 8 (h:=tn 9 (h:=tn 10 (h:=tO 1 (h:=?_)))))))))));obtain ⟨mk,h5⟩:=az (F.heap.size);have p2:F.heap.size<=mk:=by rw [<-h5];exact q.size
   have b3:=(aj.refl ai F o6).alloc (.map (Bd 0 []).toArray 0) (0,0);have j4:(F.alloc (.map (Bd 0 []).toArray 0)).heap[F.heap.size]?=some (.map (Bd 0 []).toArray 0):=heap_alloc_new F (.map (Bd 0 []).toArray 0);obtain ⟨d8,E⟩:=az (F.alloc (.map (Bd 0 []).toArray 0));obtain ⟨e7,a8⟩:=az (Ak o6 F.heap.size (0,0));rw [E,a8] at b3;rw [E,h5] at j4;have a2:(Instr.makeMap 204 none).run prog F = .ok (.map (some mk)) d8:=by rw [<-E, <-h5];exact QF F
   have c6:=ae a2;have b1:=j4;have q:=q.trans b3;have hS:=b6.out _ _ q;clear a2 j4 b3 E a8 h5;refine Iq c6.out ?_;refine wpList_nil ?_;simp only [Act.put,GL,DL,lss];refine ⟨fun _=>hS, ?_⟩;refine tO 11 (h:=?_);have a2:=Md (es:=[]) b1 (k:=z.id) (fun x hx=>by simp at hx) z.s.kept.current (.slice la L lc);simp only [List.nil_append,List.length_singleton] at a2;have p3:=au b1;have q:=q.DR mk (.map (Bd 0 [(z.id,z.s.kept.current,Value.slice la L lc)]).toArray 1) (.inr p2);have b1:=Ot (w:=d8) (mb:=mk) (ob := .map (Bd 0 [(z.id,z.s.kept.current,Value.slice la L lc)]).toArray 1) p3;obtain ⟨d6,E⟩:=az ((DR d8 mk (.map (Bd 0 [(z.id,z.s.kept.current,Value.slice la L lc)]).toArray 1)));rw [E] at a2 q b1;have c6:=ae a2;have hS:=b6.out _ _ q;clear a2 E p3;refine Ji c6.out ?_;refine wpList_nil ?_;simp only [Act.put];refine ⟨fun _=>hS, ?_⟩;refine tn 12 (h:=tn 13 (h:=tO 14 (h:=?_)));obtain ⟨sb,g1⟩:=az (d6.heap.size);have s4:F.heap.size<=sb:=by rw [<-g1];exact q.size
   have s6:mk ≠ sb:=by have:=au b1;rw [<-g1];omega
   have h6:=(aj.refl ai d6 e7).alloc (.cells [Value.int .u64 (e.toNat:Int), .map (some mk)].toArray 206) (0,0);have j5:(d6.alloc (.cells [Value.int .u64 (e.toNat:Int), .map (some mk)].toArray 206)).heap[d6.heap.size]?=some (.cells [Value.int .u64 (e.toNat:Int), .map (some mk)].toArray 206 (0,0)):=heap_alloc_new d6 (.cells [Value.int .u64 (e.toNat:Int), .map (some mk)].toArray 206);obtain ⟨s7,E⟩:=az (d6.alloc (.cells [Value.int .u64 (e.toNat:Int), .map (some mk)].toArray 206));obtain ⟨s8,a8⟩:=az (Ak e7 d6.heap.size (0,0));rw [E,a8] at h6;rw [E,g1] at j5;have a2:(Instr.box 206 (.agg #[Value.int .u64 (e.toNat:Int), .map (some mk)])).run prog d6 = .ok (.pointer (some ⟨sb,0,none⟩)) s7:=by rw [<-E, <-g1];kernel_rfl
   have c6:=ae a2;have b1:=(h6.block _ (au b1) id).trans b1;have h7:=j5;have q:=q.trans h6;have hS:=b6.out _ _ q;clear a2 j5 h6 E a8 g1;refine BM c6.out ?_;refine wpList_nil ?_;simp only [Act.put,GL,DL,lss];refine ⟨fun _=>hS, ?_⟩;refine tn 15 (h:=tD (h:=?_));exact ⟨rfl,mk,sb,s8, .int .u64 (e.toNat:Int), .map (some mk), .pointer (some ⟨pz,0,none⟩), .pointer (some ⟨pz,0,none⟩), .pointer (some ⟨pz,0,none⟩), .int .i64 (z.id:Int), .pointer (some ⟨J,1,none⟩), .int .u64 (z.s.kept.current.toNat:Int), .pointer (some ⟨J,2,none⟩), .slice la L lc, .agg #[Value.int .u64 (z.s.kept.current.toNat:Int), .slice la L lc], .map (some mk), .agg #[Value.int .u64 (e.toNat:Int), .map (some mk)], .pointer (some ⟨sb,0,none⟩),by simp only [Act.puts,Act.put,GL,DL,lss],p2,s4,s6,b1,h7,q⟩
  rintro a7 W7 ⟨mk,sb,o7,y1,y2,y3,y4,y5,y6,y7,y8,y9,e9,f0,f1,f2,f5,rfl,s9,t0,p4,b1,h7,j6⟩;simp only [Act.puts,Act.put,GL,DL,lss];clear j3 h2 b6;obtain ⟨oG,i0⟩:∃ oG:Own,oG=fun k=>if k=sb then (M+4,1) else if k=mk then (M+4,2) else o7 k:=⟨_,rfl⟩
  have q:aj ai F o6 W7 oG:=j6.Me oG (fun k hk=>by rw [i0];show (if k=sb then _ else if k=mk then _ else _)=_;rw [if_neg om,if_neg om];exact j6.own k hk)
  have p5:oG sb=(M+4,1):=by rw [i0];exact if_pos rfl
  have p6:oG mk=(M+4,2):=by rw [i0];show (if mk=sb then _ else if mk=mk then _ else _)=_;rw [if_neg p4,if_pos rfl]
  obtain ⟨a9,a4,b4,b5,a5,b7,c9,b9,pW,u⟩:=h1.out;obtain ⟨kD,h3⟩:=s2.out;have k7:=kD.trans q;have e3:=a4.step k7 id;have p7:=(k7.block r (au a5) id).trans a5;have j7:(oG r).1=0:=by rw [k7.own r (au a5)];exact b7
  have wY:=b9.step k7 id;have qF:=pW.step0 k7;have p8:=a9.trans (k7.mono (fun _ h=>h.elim));have t1:pz<F.heap.size:=Nat.lt_of_lt_of_le (au a4.1) kD.size;have j8:sb ≠ pz:=om
  have j9:mk ≠ pz:=om
  have k3:r ≠ pz:=fun h=>by rw [h,e3.2] at j7;exact absurd j7 (by simp)
  have p9:=Ai (i:=3) (.iface 201 (.pointer (some ⟨sb,0,none⟩))) e3.1;have b8:=Ai (i:=4) (.int .i64 0) p9;have q0:=(Below.heap_setCell (W7.setCell ⟨pz,3,none⟩ (.iface 201 (.pointer (some ⟨sb,0,none⟩)))) ⟨pz,4,none⟩ (.int .i64 0) sb j8).trans ((Below.heap_setCell W7 ⟨pz,3,none⟩ (.iface 201 (.pointer (some ⟨sb,0,none⟩))) sb j8).trans h7);have q1:=(Below.heap_setCell (W7.setCell ⟨pz,3,none⟩ (.iface 201 (.pointer (some ⟨sb,0,none⟩)))) ⟨pz,4,none⟩ (.int .i64 0) mk j9).trans ((Below.heap_setCell W7 ⟨pz,3,none⟩ (.iface 201 (.pointer (some ⟨sb,0,none⟩))) mk j9).trans b1);have k9:=(Below.heap_setCell (W7.setCell ⟨pz,3,none⟩ (.iface 201 (.pointer (some ⟨sb,0,none⟩)))) ⟨pz,4,none⟩ (.int .i64 0) r k3).trans ((Below.heap_setCell W7 ⟨pz,3,none⟩ (.iface 201 (.pointer (some ⟨sb,0,none⟩))) r k3).trans p7);have k8:=((aj.refl (ak (M+4)) W7 oG).setCell (a:=⟨pz,3,none⟩) (.iface 201 (.pointer (some ⟨sb,0,none⟩))) (.inl (by show (oG pz).1=_;rw [e3.2]))).setCell (a:=⟨pz,4,none⟩) (.int .i64 0) (.inl (by show (oG pz).1=_;rw [e3.2]));have n4:¬ ak (M+4) 0:=fun h=>by unfold ak at h;omega
  have q2:=wY.step k8 n4;have q3:Lines _ oG 0 (.slice la L lc) z.s.kept.lines:=q2;have d3:Qx _ oG D M pz ps pd sb ({ z with s:=s',BB := .stands e ((List.replicate z.n none).set z.id (some (z.s.kept.current,z.s.kept.lines))),waited:=0 }:Am) e ((List.replicate z.n none).set z.id (some (z.s.kept.current,z.s.kept.lines))):=
   ⟨u,⟨b8,e3.2⟩,⟨mk,q0,p5,dZ q1 p6 hI.out.2.2 q3⟩,qF.step k8 (KC.self u.1)⟩
  have g2:=p8.trans (k8.mono (fun k h=>by cases h;exact KC.own));obtain ⟨⟨-, -, -,c3,c4, -⟩,l0, -⟩:=e3.cells;have f3:=l0 3;have f4:=l0 4;have q4:=Am.NP.stands hP.out.1 r9 o8 s1 hP.out.2.2.2 0;have l1:=LH (d3.node rfl) hI.out.2.1 139 #[.pointer (some ⟨r,0,none⟩)] (fun _=>⟨1,e,0,0,0,[]⟩) Tryz.call139 (fun w1 o1 hs i _ _=>WI i ((hs.block _ (au k9) id).trans k9)) (fun i _ _=>Aj.Rz hP.out.2.2.2 (Jf o8).2);rw [Ov (a:=({ z with s:=s',BB := .stands e ((List.replicate z.n none).set z.id (some (z.s.kept.current,z.s.kept.lines))),waited:=0 }:Am).BN) (b:=z.BN) rfl rfl] at l1;have q5:=ae l1;have h8:=ae (aI g2 d3);have t2:=ae q4;have e4:=Am.Xg (z:=({ z with s:=s',BB := .stands e ((List.replicate z.n none).set z.id (some (z.s.kept.current,z.s.kept.lines))),waited:=0 }:Am)) (e:=e) (x:=(z.s.kept.current,z.s.kept.lines)) hI.out.2.2;have q6:=ae e4;clear a9 a4 b4 b5 a5 b7 c9 b9 pW u kD h3 k7 e3 p7 j7 wY qF p8 t1 j8 j9 k3 p9 b8 q0 q1 k9 k8 n4 q2 q3 d3 g2 l0 q4 l1 e4 q j6 i0 p5 p6 b1 h7 p4 s9 t0;go_wp2_with fail;refine q5.out.mono ?_;rintro e' w9 ⟨v9,o9,rfl,g3,l2⟩;obtain ⟨g2,d3⟩:=h8.out;have q7:Qx w9 o9 D M pz ps pd sb _ e _:=⟨d3.1,d3.2.1.step g3 id,d3.2.2.1.step g3 id id,d3.2.2.2.step0 g3⟩;have q8:=ae (lead_any q7 rfl t2.out om hB);have h9:=ae (aI (g2.trans (g3.mono (fun _ h=>h.elim))) l2);obtain ⟨xa,xc,rfl⟩:=l2.form;clear g3 l2 q5 d3 q7 g2 c3 c4 f3 f4;go_wp2_with fail;refine q8.out.mono ?_;rintro e' t7 ⟨t8,t3,rfl,l3,l4,q9⟩;rw [q6.out] at l4;obtain ⟨ya,yc,rfl⟩:=l4.form;have n0:¬ KC D M 0:=KC.zero hH.out.1.2;have l5:=h9.out.2.step l3 n0;have r0:=OJ l5 (by
   have t9:(z.BN.others fun _=>(⟨1,e,0,0,0,[]⟩:BG)).length<=z.n:=by
    unfold Aj.others;rw [List.length_map];exact Nat.le_trans (List.length_filter_le _ _) (by rw [List.length_range];exact Nat.le_refl _)
   have:=hI.out.2.1;unfold Ed;rw [List.length_map];omega) (a':=ya) (c':=yc)
  have xK:=ae r0;have l6:=ae (aI (h9.out.1.trans l3) (aI l5 q9));clear l3 l4 q9 l5 r0 q8
  go_wp2_with ((with_reducible apply Bl);exact xK.out;simp only [Act.put,GL,DL,lss])
  go_ret;refine ⟨_,t3,rfl,l6.out.1, ?_, ?_⟩
  ·rw [<-KI.out];show Dn _ _ _ (Ed (_++_));rw [q6.out,List.append_nil];exact l6.out.2.1
  ·rw [<-KI.out];exact l6.out.2.2
theorem Oz {w:World}{o:Own}{base:Nat}{lv:Value}{ls:List Ar}(h:Lines w o base lv ls) (n:Nat) (hn:n<=ls.length) :
  ∃ v,(∀ W,(Instr.sliceAt 35 lv (some (.int .i64 (n:Int))) none none).run prog W = .ok v W)/\Lines w o base v (ls.drop n):=by
 have q:prog.underlying 35=some (.slice (prog.elem 35)):=by kernel_rfl
 have E:(ls.drop n).length=ls.length - n:=by rw [List.length_drop]
 obtain ⟨F,U,J,O,h4⟩:=h
 rcases U with ⟨⟨a,c,rfl⟩,h0,a5⟩ | ⟨b,off,cap,rfl,hl,hm,Y,hb,hr⟩
 ·have a2:n=0:=om
  subst a2;refine ⟨_,fun W=>by rw [run_sliceAt_slice _ _ _ _ _ _ q,run_slice_l W 35 a 0 c q .i64 ((0:Nat):Int) om om,Po W];rfl,[], .inl ⟨⟨_,_,rfl⟩,by simp [h0],rfl⟩,by rw [List.drop_zero,List.eq_nil_of_length_eq_zero h0];exact sW.nil w o, ?_,by simp⟩;intro k r
  cases a with
  | none=>simp [Value.ownBlock] at r
  | some x=>exact O k (by revert r;simp [Value.ownBlock,Addr.add])
 ·refine ⟨_,fun W=>by rw [run_sliceAt_slice _ _ _ _ _ _ q,run_slice_l W 35 _ ls.length cap q .i64 n om om,Po W];rfl,F.drop (n*2), ?_,J.drop n, ?_,fun u q=>h4 u (List.mem_of_mem_drop q)⟩
  ·simp only [sliced,Int.toNat_natCast,Option.map_some,addr_add]
   by_cases a3:n=ls.length
   ·refine .inl ⟨⟨_,cap - n,by rw [a3,Nat.sub_self]⟩,by rw [E];omega, ?_⟩;apply List.eq_nil_of_length_eq_zero;rw [List.length_drop,J.1];omega
   ·rw [if_neg om];refine .inr ⟨b,off+n*2,cap - n,by rw [E],by rw [E];omega,om,Y,hb, ?_⟩;have:=ER hr (n*2) (F.length - n*2);rw [List.take_of_length_le (by rw [List.length_drop];exact Nat.le_refl _)] at this;exact this
  ·intro k r;have a4:=O b (by simp [Value.ownBlock])
   revert r
   simp only [sliced,Int.toNat_natCast,Option.map_some,addr_add];split <;> (simp only [Value.ownBlock,Option.some.injEq];rintro rfl;exact a4)
def Ph (mine:BitVec 64) (nR:List Int) (Ag:Nat) (ls:List Ar) (i:Nat):BG:=
 if nR.getD i 0<0 then ⟨4,mine,0,0,0,ls⟩ else ⟨5,mine,0,(nR.getD i 0).toNat,Ag,ls.drop (nR.getD i 0).toNat⟩
theorem Ye {w:World}{o:Own}{D M pz ps pd p vl a8 zb:Nat}{z:Am}{mine:BitVec 64}{nR:List Int}{base:Nat}{ready:Bool}(h:GV w o D M pz ps pd p z mine nR base ready) {lv:Value}{ls:List Ar}
  (hv:w.heap[vl]?=some (.cells [Value.pointer (some ⟨p,0,none⟩)].toArray 135 (0,0))) (b1:w.heap[a8]?=some (.cells [lv].toArray 35 (0,0))) (r:Lines w o 0 lv ls)
  (b2:w.heap[zb]?=some (.cells [Value.pointer (some ⟨pz,0,none⟩)].toArray 91 (0,0))) (i:Nat) (hi:i<nR.length) (h3:nR.length<=3) (hm:∀ x ∈ nR, -1<=x/\x<=(ls.length:Int)) (e8:ls.length<=256) (e9:z.Ag<=256) :
  Calls prog 97 #[.int .i64 (i:Int), .pointer (some ⟨vl,0,none⟩), .pointer (some ⟨a8,0,none⟩), .pointer (some ⟨zb,0,none⟩)] w (XL ai w o fun v w' o'=>∃ vS,v=Ea (Ph mine nR z.Ag ls i) vS/\Lines w' o' 0 vS (Ph mine nR z.Ag ls i).ls):=by
 obtain ⟨ML,hb,⟨b,cap,hp,b9,hr,c0,c3,c4⟩,hs⟩:=h;obtain ⟨x,u⟩:=az (nR.getD i 0);have b5:x ∈ nR:=by rw [<-u,List.getD_eq_getElem?_getD,List.getElem?_eq_getElem hi];exact List.getElem_mem hi
 obtain ⟨f0,f1⟩:=hm x b5;have b6:Ph mine nR z.Ag ls i=if x<0 then ⟨4,mine,0,0,0,ls⟩ else ⟨5,mine,0,x.toNat,z.Ag,ls.drop x.toNat⟩:=by unfold Ph;rw [u]
 obtain ⟨n,hn⟩:=az (nR.length);rw [hn] at hp hi h3;have f2:(0:Int)<=(i:Int)/\(i:Int)<(n:Int)/\(n:Int)<=3:=om
 have al:=ae (AB (P:=prog) w 150 _ Oa);have b3:=(aj.refl ai w o).alloc (.cells DI.toArray 150) (0,0);have dr:=b3.drew;have cells:∀ W O,aj ai w o W O->W.cell? ⟨vl,0,none⟩=some (.pointer (some ⟨p,0,none⟩))/\W.cell? ⟨a8,0,none⟩=some lv/\W.cell? ⟨zb,0,none⟩=some (.pointer (some ⟨pz,0,none⟩))/\W.cell? ⟨p,0,none⟩=some (.int .u64 (mine.toNat:Int))/\W.cell? ⟨p,1,none⟩=some (.slice (some ⟨b,0,none⟩) n cap)/\W.cell? ⟨b,i,none⟩=some (.int .i64 x)/\W.cell? ⟨pz,6,none⟩=some (.int .i64 (z.Ag:Int)):=by
  intro W O J;have q1:=ag ((J.block _ (au hv) id).trans hv) 0;have q2:=ag ((J.block _ (au b1) id).trans b1) 0;have q3:=ag ((J.block _ (au b2) id).trans b2) 0;have q4:=ag ((J.block _ (au hp) id).trans hp);have c7:=q4 0;have c8:=q4 1;have q5:=ag ((J.block _ (au hr) id).trans hr) i;obtain ⟨⟨-, -, -, -, -, -,c6⟩, -⟩:=(hb.step J id).cells;simp only [ay,ax] at q1 q2 q3 c7 c8;refine ⟨q1,q2,q3,c7,c8, ?_,c6⟩;rw [q5];have c9:i<nR.length:=by rw [hn];exact hi
  rw [List.getD_eq_getElem?_getD,List.getElem?_eq_getElem c9] at u;simp only [Option.getD_some] at u;simp [ivs,List.getElem?_eq_getElem c9,u]
 obtain ⟨a1,a2,a3,a4,a5,a6,a7⟩:=cells _ _ b3;obtain ⟨d1,d2,d3,d4,d5,d6,d7⟩:=cells _ _ dr;have f3:(0:Int)<=(z.Ag:Int)/\(z.Ag:Int)<=256:=om
 rw [b6];have f4:=ae r;unfold DI at a1 a2 a3 a4 a5 a6 a7 d1 d2 d3 d4 d5 d6 d7
 by_cases d8:x<0
 ·rw [if_pos d8];obtain ⟨U,Y,rfl⟩:=r.form;have E:=KN w.drew ⟨4,mine,0,0,0,ls⟩ U ls.length Y;unfold DI at E;have a9:=heap_alloc_new w (.cells (Bf ⟨4,mine,0,0,0,ls⟩ (.slice U ls.length Y)).toArray 150);have F:=((aj.refl ai w o).drew).alloc (.cells (Bf ⟨4,mine,0,0,0,ls⟩ (.slice U ls.length Y)).toArray 150) (0,0);have hF:=ae (aI F (r.step F id));have b7:=ae E;have b8:=ae a9;have hS:=aI d1 (aI d2 d4);clear ML hb hp b9 hr c0 c3 c4 hs u b5 b6 hn hv b1 b2 hm cells d1 d2 d3 d4 d5 d6 d7 r F a9 E b3 dr;unfold Ea;go_enter func97,ntmps97
  go_wp2_with ((with_reducible apply AU);exact al.out;simp only [Act.put,GL,DL,lss])
  refine Aa (fun w'=>w'.cell? ⟨vl,0,none⟩=some (.pointer (some ⟨p,0,none⟩))/\w'.cell? ⟨a8,0,none⟩=some (.slice U ls.length Y)/\w'.cell? ⟨p,0,none⟩=some (.int .u64 (mine.toNat:Int))) (fun i=>decide (i<6)) (by kernel_rfl) hS (fun d9 => ?_);refine tq 0 (h:=tq 1 (h:=tq 2 (h:=tq 3 (h:=tq 4 (h:=tq 5 (h:=tO 6 (h:=?_)))))));refine AC b7.out ?_;go_wp2_with fail;refine ⟨fun h=>by simp at h, ?_⟩;refine tD (h:=?_);go_wp2_with fail;refine bodyPost_ret (results_cell_row rfl _ _ w.heap.size 150 _ (0,0) _ rfl b8.out underlying150 rfl FT) rfl ?_;exact ⟨_,_,rfl,hF.out.1,_,rfl,hF.out.2⟩
 ·rw [if_neg d8];obtain ⟨q,rfl⟩:∃ q:Nat,x=(q:Int):=⟨x.toNat,om⟩;have e6:q<=ls.length:=om
  have f5:(0:Int)<=(q:Int)/\(q:Int)<=256:=om
  obtain ⟨sv,e0,b4⟩:=Oz r q e6;rw [Int.toNat_natCast];obtain ⟨U,Y,rfl⟩:=r.form;obtain ⟨sa,sc,e3⟩:=b4.form;obtain ⟨dl,e4⟩:=az ((ls.drop q).length);rw [e4] at e3;subst e3;obtain ⟨lr,e5⟩:=az (ls.drop q);rw [e5] at b4 ⊢;have E:(Instr.storeAt 150 (.pointer (some ⟨w.heap.size,0,none⟩)) (.agg #[Value.int .u8 5, .int .u64 (mine.toNat:Int), .int .u64 0, .int .i64 (q:Int), .int .i64 (z.Ag:Int), .slice sa dl sc])).run prog (w.alloc (.cells DI.toArray 150)).drew = .ok () (w.drew.alloc (.cells (Bf ⟨5,mine,0,q,z.Ag,lr⟩ (.slice sa dl sc)).toArray 150)):=
   KN w.drew ⟨5,mine,0,q,z.Ag,lr⟩ sa dl sc
  unfold DI at E;have a9:=heap_alloc_new w (.cells (Bf ⟨5,mine,0,q,z.Ag,lr⟩ (.slice sa dl sc)).toArray 150);have F:=((aj.refl ai w o).drew).alloc (.cells (Bf ⟨5,mine,0,q,z.Ag,lr⟩ (.slice sa dl sc)).toArray 150) (0,0);have hF:=ae (aI F (b4.step F id));have b7:=ae E;have b8:=ae a9;have e7:=ae e0;have f6:¬ (q:Int)<0:=om
  have hS:=aI d1 (aI d2 (aI d3 (aI d4 (aI d5 (aI d6 d7)))));clear ML hb hp b9 hr c0 c3 c4 hs u b5 b6 hn hv b1 b2 hm cells d1 d2 d3 d4 d5 d6 d7 r F a9 E b3 dr b4 e0 e5 e4;unfold Ea;go_enter func97,ntmps97
  go_wp2_with ((with_reducible apply AU);exact al.out;simp only [Act.put,GL,DL,lss])
  refine Aa (fun w'=>w'.cell? ⟨vl,0,none⟩=some (.pointer (some ⟨p,0,none⟩))/\w'.cell? ⟨a8,0,none⟩=some (.slice U ls.length Y)/\w'.cell? ⟨zb,0,none⟩=some (.pointer (some ⟨pz,0,none⟩))/\w'.cell? ⟨p,0,none⟩=some (.int .u64 (mine.toNat:Int))/\w'.cell? ⟨p,1,none⟩=some (.slice (some ⟨b,0,none⟩) n cap)/\w'.cell? ⟨b,i,none⟩=some (.int .i64 (q:Int))/\w'.cell? ⟨pz,6,none⟩=some (.int .i64 (z.Ag:Int))) (fun i=>decide (i<25)) (by kernel_rfl) hS (fun d9 => ?_);refine tq 0 (h:=tq 1 (h:=tq 2 (h:=tq 3 (h:=tq 4 (h:=tq 5 (h:=tq 6 (h:=tq 7 (h:=tq 8 (h:=tq 9 (h:=tq 10 (h:=tq 11 (h:=tq 12 (h:=tq 13 (h:=?_))))))))))))));refine tq 14 (h:=tq 15 (h:=tq 16 (h:=tq 17 (h:=tq 18 (h:=tq 19 (h:=tq 20 (h:=tq 21 (h:=tq 22 (h:=tO 23 (h:=?_))))))))));refine FM (e7.out _) ?_;simp only [Act.put,GL,DL,lss];go_wp2_with fail;refine ⟨fun _=>d9, ?_⟩;refine tq 24 (h:=tO 25 (h:=?_));refine AC b7.out ?_;go_wp2_with fail;refine ⟨fun h=>by simp at h, ?_⟩;refine tD (h:=?_);go_wp2_with fail;refine bodyPost_ret (results_cell_row rfl _ _ w.heap.size 150 _ (0,0) _ rfl b8.out underlying150 rfl FT) rfl ?_;exact ⟨_,_,rfl,hF.out.1,_,rfl,hF.out.2⟩
theorem ZB {w:World}{o:Own}{D M pz ps pd K B:Nat}{z:Am}(h:Bc w o D M pz ps pd z) (hp:Am.NP K B z) (hK:K+606<65536) (hB:B<=90000) (hw:z.waited<=1000000) :
  Calls prog 53 #[.pointer (some ⟨pz,0,none⟩)] w (XL (KC D M) w o fun v w' o'=>Dn w' o' v (Ed z.tick.2)/\Bc w' o' D M pz ps pd z.tick.1):=by
 have f3:z.n<=3:=hp.ok.n3;have d8:En B z.s.kept.lines:=hp.ok.ls;have f5:=En.small d8 om;have f6:z.Ag<=z.s.kept.lines.length:=hp.ok.co;have d1:=(aj.refl ai w o).alloc (.cells [Value.pointer (some ⟨pz,0,none⟩)].toArray 91) (0,0);have b3:=heap_alloc_new w (.cells [Value.pointer (some ⟨pz,0,none⟩)].toArray 91);have d9:=Au o w.heap.size (0,0);generalize Ak o w.heap.size (0,0)=o1 at *;obtain ⟨r,e0⟩:=az (w.alloc (.cells [Value.pointer (some ⟨pz,0,none⟩)].toArray 91));rw [e0] at d1 b3;have e4:(Instr.box 91 (.pointer (some ⟨pz,0,none⟩))).run prog w = .ok (.pointer (some ⟨w.heap.size,0,none⟩)) r:=by rw [<-e0];kernel_rfl
 obtain ⟨zb,f7⟩:=az (w.heap.size);rw [f7] at b3 d9 e4;have h1:=h.step0 d1;have e5:=FI h1;have f8:z.dead=false:=hp.sp.dead;rw [f8] at e5;have e6:=ae e5;have xH:=ae e4;have cz:=ag b3 0;simp only [ay] at cz;have u:=ae hp;obtain ⟨R,hR⟩:=az (z.tick);rw [hR];have a3:=ae (aI d1 (aI b3 d9));have a5:=ae (aI d8 (aI f5 f6));clear e4 e5 f8 e0 f7 h hp d1 b3 d9 d8 f5 f6;obtain ⟨ML,rv,hb,hr,E⟩:=id h1;obtain ⟨⟨c0,c1,c2,c3,c4,c5,c6⟩,d3, -⟩:=hb.cells;have f4:=d3 4
 cases F:z.BB with
 | leads mine nR base ready =>
  rw [F] at hr;obtain ⟨p,rfl,hl⟩:=hr;have f9:=ZH r (some ⟨p,0,none⟩);have k2:=(aj.refl ai r o1).alloc (.cells [Value.pointer (some ⟨p,0,none⟩)].toArray 135) (0,0);have b1:=heap_alloc_new r (.cells [Value.pointer (some ⟨p,0,none⟩)].toArray 135);generalize Ak o1 r.heap.size (0,0)=o2 at *;have J:=(k2.block _ (au a3.out.2.1) id).trans a3.out.2.1;have g0:=ag J 0;obtain ⟨⟨-, -,d2, -⟩, -⟩:=(hb.step k2 id).cells;simp only [ay] at g0;have g6:=ae (DJ (E.step0 k2) a5.out.2.1);have g7:GV r o1 D M pz ps pd p z mine nR base ready:=⟨ML,hb,hl,E⟩;have hG:=ae (aI (a3.out.1.trans k2) (aI b1 (aI J (g7.step k2 (fun t h=>h.elim)))));obtain ⟨vl,i1⟩:=az (r.heap.size);clear hb hl E d3 c0 c1 c4 c5 c6 f4 k2 b1 J g7 h1;go_enter func53,ntmps53
  go_wp2_with ((with_reducible apply BM);exact xH.out;simp only [Act.put,GL,DL,lss])
  refine e6.out.mono ?_;rintro e w' ⟨rfl,rfl⟩;go_wp2_with fail;refine g6.out.mono ?_;rintro e w3 ⟨v3,o3,rfl,g8,lv,rfl,e7,rfl⟩;obtain ⟨la,lc,rfl⟩:=e7.form;obtain ⟨L,hL⟩:=az (z.s.kept.lines.length);obtain ⟨g9,b1,J,zX⟩:=hG.out;have i7:=fun W=>He W (.int .u64 (z.s.kept.promised.toNat:Int)) (.int .u64 (z.s.kept.current.toNat:Int)) (.slice la L lc);have k4:=g8.alloc (.cells [Value.slice la L lc].toArray 35) (0,0);have h2:=(aj.refl ai w3 (ext (r.alloc (.cells [Value.pointer (some ⟨p,0,none⟩)].toArray 135)) o2)).alloc (.cells [Value.slice la L lc].toArray 35) (0,0);have e8:=heap_alloc_new w3 (.cells [Value.slice la L lc].toArray 35);have d4:=(k4.block _ (au b1) id).trans b1;have d5:=(k4.block _ (au J) id).trans J;have d6:=zX.step k4 (fun t h=>h.elim);have e9:=(e7.step h2 id).low (Nat.zero_le _);have h3:=g9.trans k4;have i2:=ag d5 0;simp only [ay] at i2;rw [i1] at d4;rw [hL] at e9;have h5:=u.out.ok.ro;rw [show z.BN.BB=z.BB from rfl,F] at h5;obtain ⟨b4,h6,b5⟩:=h5;have d7:nR.length=z.n:=h6;have h7:=LH (d6.node F) f3 97 #[.pointer (some ⟨vl,0,none⟩), .pointer (some ⟨w3.heap.size,0,none⟩), .pointer (some ⟨zb,0,none⟩)] (Ph mine nR z.Ag z.s.kept.lines) Tryz.call97
   (fun w1 o1 E i hi _=>Ye (d6.step E (fun t h=>h.elim)) ((E.block _ (au d4) id).trans d4) ((E.block _ (au e8) id).trans e8) (e9.step E id) ((E.block _ (au d5) id).trans d5) i (by rw [d7];exact hi) (by rw [d7];exact f3) b5 a5.out.1.n (by have:=a5.out.1.n;have:=a5.out.2.2;omega))
   (fun i hi _=>by
    unfold Ph;have hx:nR.getD i 0 ∈ nR:=by
     have h8:i<nR.length:=by rw [d7];exact hi
     rw [List.getD_eq_getElem?_getD,List.getElem?_eq_getElem h8];exact List.getElem_mem h8
    have hb:=b5 _ hx;have i8:=a5.out.1.n;have hk:z.BN.k=z.s.kept:=rfl;rw [hk] at hb;split
    ·exact Aj.KO b4.1 b4.2 a5.out.1
    ·exact Aj.PS b4.1 b4.2 om (by have:=a5.out.2.2;omega) (a5.out.1.drop _))
  have h9:=ae h7;have i0:=ae (aI h3 (d6.node F));rw [hL];unfold Dy;clear g8 e7 g9 b1 J zX k4 h2 e8 d4 d5 d6 e9 h3 b4 h6 b5 d7 h7 g6 g0 d2 cz c2 c3;go_wp2_with fail;refine h9.out.mono ?_;rintro e w5 ⟨v5,o5,rfl,a4,U⟩;have Y:=ae (aI (i0.out.1.trans a4) (aI U (i0.out.2.step0 a4)));obtain ⟨xa,xc,rfl⟩:=U.form;have a2:z.tick=(z,z.BN.others (Ph mine nR z.Ag z.s.kept.lines)):=by unfold Am.tick;rw [F];rfl
  clear a4 U h9;go_wp2_with fail;go_ret;refine ⟨_,o5,rfl,Y.out.1.mono (fun _ h=>h.elim), ?_, ?_⟩
  ·rw [<-hR,a2];exact Y.out.2.1
  ·rw [<-hR,a2];exact Y.out.2.2
 | follows =>
  rw [F] at hr;obtain rfl:rv = .iface 184 (.agg #[]):=hr;have f9:=ZI r;have a2:R=if 3+2*z.id<z.waited+1 then ({ z with waited:=z.waited+1 }:Am).stand else (({ z with waited:=z.waited+1 }:Am),[]):=by
   rw [<-hR];unfold Am.tick;rw [F]
  obtain ⟨q,b6⟩:=az (z.waited+1);rw [b6] at a2;have i3:(z.waited:Int)+1=(q:Int):=om
  have i4:(0:Int)<=(z.waited:Int)/\(z.waited:Int)<=1000000:=om
  have f0:z.id<z.n:=u.out.ok.id;have i5:(0:Int)<=(z.id:Int)/\(z.id:Int)<=2:=om
  have b2:=Ai (i:=4) (.int .i64 (q:Int)) hb.1;have k2:=(aj.refl (ak (M+4)) r o1).setCell (a:=⟨pz,4,none⟩) (.int .i64 (q:Int)) (.inl (by show (o1 pz).1=_;rw [hb.2]));have f1:zb ≠ pz:=fun h=>by have:=hb.2;rw [<-h,a3.out.2.2] at this;cases this
  have J:=(Below.heap_setCell r ⟨pz,4,none⟩ (.int .i64 (q:Int)) zb f1).trans a3.out.2.1;have n4:¬ ak (M+4) 0:=fun h=>by unfold ak at h;omega
  have a6:Bc (r.setCell ⟨pz,4,none⟩ (.int .i64 (q:Int))) o1 D M pz ps pd ({ z with waited:=q }:Am):=by
   refine ⟨ML,_,⟨b2,hb.2⟩, ?_,E.step k2 (KC.self ML.1)⟩;show IE _ _ _ _ z.BB;rw [F];rfl
  have b7:Am.NP K B ({ z with waited:=q }:Am):=⟨u.out.sp,⟨⟨u.out.ok.n1,u.out.ok.n3,u.out.ok.id,u.out.ok.ls,u.out.ok.cp,u.out.ok.pt,u.out.ok.se,u.out.ok.co⟩,u.out.ok.ro⟩⟩;have dr:aj ai (r.setCell ⟨pz,4,none⟩ (.int .i64 (q:Int))) o1 (r.setCell ⟨pz,4,none⟩ (.int .i64 (q:Int))).drew o1:=(aj.refl ai _ o1).drew;have a7:=ae (Rn (a6.step0 dr) b7 hK hB);have b8:=a6.step0 dr;have e1:=ag (w:=(r.setCell ⟨pz,4,none⟩ (.int .i64 (q:Int))).drew) J 0;have e2:=ag (w:=(r.setCell ⟨pz,4,none⟩ (.int .i64 (q:Int))).drew) b2 4;have e3:=ag (w:=(r.setCell ⟨pz,4,none⟩ (.int .i64 (q:Int))).drew) b2 0;simp only [ay] at e1;have hS:=aI e1 (aI (show _=some (Value.int .i64 (q:Int)) from e2) (show _=some (Value.int .i64 (z.id:Int)) from e3));have a8:=ae (aI ((a3.out.1.mono (T':=KC D M) (fun _ h=>h.elim)).trans ((k2.mono (fun k h=>(show KC D M k by cases h;exact KC.own))).trans (dr.mono (fun _ h=>h.elim)))) b8);have O:=ae a2;clear hb E d3 c0 c1 c2 c5 c6 b2 k2 J a6 b7 dr b8 e1 e2 e3 a2 b6 f0 h1 hR F;go_enter func53,ntmps53
  go_wp2_with ((with_reducible apply BM);exact xH.out;simp only [Act.put,GL,DL,lss])
  refine e6.out.mono ?_;rintro e w' ⟨rfl,rfl⟩;have b9:IntKind.i64.wrap (2*(z.id:Int))=2*(z.id:Int):=by simp [IntKind.wrap,IntKind.bits,IntKind.signed];omega
  have c7:IntKind.i64.wrap (3+2*(z.id:Int))=3+2*(z.id:Int):=by simp [IntKind.wrap,IntKind.bits,IntKind.signed];omega
  by_cases c8:3+2*z.id<q
  ·have f2:(3:Int)+2*(z.id:Int)<(q:Int):=om
   rw [if_pos c8] at O;go_wp2_with fail;refine Aa (fun w'=>w'.cell? ⟨zb,0,none⟩=some (.pointer (some ⟨pz,0,none⟩))/\w'.cell? ⟨pz,4,none⟩=some (.int .i64 (q:Int))/\w'.cell? ⟨pz,0,none⟩=some (.int .i64 (z.id:Int))) (fun _=>true) (by kernel_rfl) hS (fun a9 => ?_);refine tq 0 (h:=tq 1 (h:=tq 2 (h:=tq 3 (h:=tq 4 (h:=tq 5 (h:=tq 6 (h:=tq 7 (h:=tq 8 (h:=tq 9 (h:=tq 10 (h:=tD (h:=?_))))))))))));obtain ⟨e1,e2,e3⟩:=hS;clear a9 b9 c7;go_wp2_with fail;refine a7.out.mono ?_;rintro e w5 ⟨v5,o5,rfl,a4,U,c9⟩;have Y:=ae (aI (a8.out.1.trans a4) (aI U c9));obtain ⟨xa,xc,rfl⟩:=U.form;clear a4 U c9 a7;go_wp2_with fail;go_ret;exact ⟨_,o5,rfl,Y.out.1,by rw [O.out];exact Y.out.2.1,by rw [O.out];exact Y.out.2.2⟩
  ·have f2:decide ((3:Int)+2*(z.id:Int)<(q:Int))=false:=decide_eq_false om;rw [if_neg c8] at O;go_wp2_with fail;refine Aa (fun w'=>w'.cell? ⟨zb,0,none⟩=some (.pointer (some ⟨pz,0,none⟩))/\w'.cell? ⟨pz,4,none⟩=some (.int .i64 (q:Int))/\w'.cell? ⟨pz,0,none⟩=some (.int .i64 (z.id:Int))) (fun _=>true) (by kernel_rfl) hS (fun a9 => ?_);refine tq 0 (h:=tq 1 (h:=tq 2 (h:=tq 3 (h:=tq 4 (h:=tq 5 (h:=tq 6 (h:=tq 7 (h:=tq 8 (h:=tq 9 (h:=tq 10 (h:=tD (h:=?_))))))))))));clear a9 hS a7 b9 c7;go_wp2_with fail;go_ret;exact ⟨_,o1,rfl,a8.out.1,by rw [O.out];exact Dn.nil _ _,by rw [O.out];exact a8.out.2⟩
 | stands mine has =>
  rw [F] at hr;obtain ⟨p,rfl,qH⟩:=hr;have f9:=ZG r (some ⟨p,0,none⟩);have a2:R=if 3+2*z.id<z.waited+1 then ({ z with waited:=z.waited+1 }:Am).stand else (({ z with waited:=z.waited+1 }:Am),[]):=by
   rw [<-hR];unfold Am.tick;rw [F]
  obtain ⟨q,b6⟩:=az (z.waited+1);rw [b6] at a2;have i3:(z.waited:Int)+1=(q:Int):=om
  have i4:(0:Int)<=(z.waited:Int)/\(z.waited:Int)<=1000000:=om
  have f0:z.id<z.n:=u.out.ok.id;have i5:(0:Int)<=(z.id:Int)/\(z.id:Int)<=2:=om
  have b2:=Ai (i:=4) (.int .i64 (q:Int)) hb.1;have k2:=(aj.refl (ak (M+4)) r o1).setCell (a:=⟨pz,4,none⟩) (.int .i64 (q:Int)) (.inl (by show (o1 pz).1=_;rw [hb.2]));have f1:zb ≠ pz:=fun h=>by have:=hb.2;rw [<-h,a3.out.2.2] at this;cases this
  have J:=(Below.heap_setCell r ⟨pz,4,none⟩ (.int .i64 (q:Int)) zb f1).trans a3.out.2.1;have n4:¬ ak (M+4) 0:=fun h=>by unfold ak at h;omega
  have a6:Bc (r.setCell ⟨pz,4,none⟩ (.int .i64 (q:Int))) o1 D M pz ps pd ({ z with waited:=q }:Am):=by
   refine ⟨ML,_,⟨b2,hb.2⟩, ?_,E.step k2 (KC.self ML.1)⟩;show IE _ _ _ _ z.BB;rw [F];obtain ⟨mb,q1,q2,q3⟩:=qH;have i6:p ≠ pz:=fun h=>by have:=hb.2;rw [<-h,q2] at this;cases this
   have b5:mb ≠ pz:=fun h=>by have:=hb.2;rw [<-h,q3.choose_spec.2.1] at this;cases this
   refine ⟨p,rfl,mb,(Below.heap_setCell r ⟨pz,4,none⟩ (.int .i64 (q:Int)) p i6).trans q1,q2, ?_⟩;obtain ⟨es,g1,g2,g3,g4,g5⟩:=q3;exact ⟨es,(Below.heap_setCell r ⟨pz,4,none⟩ (.int .i64 (q:Int)) mb b5).trans g1,g2,g3,fun x hx=>by obtain ⟨ls,y1,y2⟩:=g4 x hx;exact ⟨ls,y1,y2.step k2 n4⟩,g5⟩
  have b7:Am.NP K B ({ z with waited:=q }:Am):=⟨u.out.sp,⟨⟨u.out.ok.n1,u.out.ok.n3,u.out.ok.id,u.out.ok.ls,u.out.ok.cp,u.out.ok.pt,u.out.ok.se,u.out.ok.co⟩,u.out.ok.ro⟩⟩;have dr:aj ai (r.setCell ⟨pz,4,none⟩ (.int .i64 (q:Int))) o1 (r.setCell ⟨pz,4,none⟩ (.int .i64 (q:Int))).drew o1:=(aj.refl ai _ o1).drew;have a7:=ae (Rn (a6.step0 dr) b7 hK hB);have b8:=a6.step0 dr;have e1:=ag (w:=(r.setCell ⟨pz,4,none⟩ (.int .i64 (q:Int))).drew) J 0;have e2:=ag (w:=(r.setCell ⟨pz,4,none⟩ (.int .i64 (q:Int))).drew) b2 4;have e3:=ag (w:=(r.setCell ⟨pz,4,none⟩ (.int .i64 (q:Int))).drew) b2 0;simp only [ay] at e1;have hS:=aI e1 (aI (show _=some (Value.int .i64 (q:Int)) from e2) (show _=some (Value.int .i64 (z.id:Int)) from e3));have a8:=ae (aI ((a3.out.1.mono (T':=KC D M) (fun _ h=>h.elim)).trans ((k2.mono (fun k h=>(show KC D M k by cases h;exact KC.own))).trans (dr.mono (fun _ h=>h.elim)))) b8);have O:=ae a2;clear hb qH E d3 c0 c1 c2 c5 c6 b2 k2 J a6 b7 dr b8 e1 e2 e3 a2 b6 f0 h1 hR F;go_enter func53,ntmps53
  go_wp2_with ((with_reducible apply BM);exact xH.out;simp only [Act.put,GL,DL,lss])
  refine e6.out.mono ?_;rintro e w' ⟨rfl,rfl⟩;have b9:IntKind.i64.wrap (2*(z.id:Int))=2*(z.id:Int):=by simp [IntKind.wrap,IntKind.bits,IntKind.signed];omega
  have c7:IntKind.i64.wrap (3+2*(z.id:Int))=3+2*(z.id:Int):=by simp [IntKind.wrap,IntKind.bits,IntKind.signed];omega
  by_cases c8:3+2*z.id<q
  ·have f2:(3:Int)+2*(z.id:Int)<(q:Int):=om
   rw [if_pos c8] at O;go_wp2_with fail;refine Aa (fun w'=>w'.cell? ⟨zb,0,none⟩=some (.pointer (some ⟨pz,0,none⟩))/\w'.cell? ⟨pz,4,none⟩=some (.int .i64 (q:Int))/\w'.cell? ⟨pz,0,none⟩=some (.int .i64 (z.id:Int))) (fun _=>true) (by kernel_rfl) hS (fun a9 => ?_);refine tq 0 (h:=tq 1 (h:=tq 2 (h:=tq 3 (h:=tq 4 (h:=tq 5 (h:=tq 6 (h:=tq 7 (h:=tq 8 (h:=tq 9 (h:=tq 10 (h:=tD (h:=?_))))))))))));obtain ⟨e1,e2,e3⟩:=hS;clear a9 b9 c7;go_wp2_with fail;refine a7.out.mono ?_;rintro e w5 ⟨v5,o5,rfl,a4,U,c9⟩;have Y:=ae (aI (a8.out.1.trans a4) (aI U c9));obtain ⟨xa,xc,rfl⟩:=U.form;clear a4 U c9 a7;go_wp2_with fail;go_ret;exact ⟨_,o5,rfl,Y.out.1,by rw [O.out];exact Y.out.2.1,by rw [O.out];exact Y.out.2.2⟩
  ·have f2:decide ((3:Int)+2*(z.id:Int)<(q:Int))=false:=decide_eq_false om;rw [if_neg c8] at O;go_wp2_with fail;refine Aa (fun w'=>w'.cell? ⟨zb,0,none⟩=some (.pointer (some ⟨pz,0,none⟩))/\w'.cell? ⟨pz,4,none⟩=some (.int .i64 (q:Int))/\w'.cell? ⟨pz,0,none⟩=some (.int .i64 (z.id:Int))) (fun _=>true) (by kernel_rfl) hS (fun a9 => ?_);refine tq 0 (h:=tq 1 (h:=tq 2 (h:=tq 3 (h:=tq 4 (h:=tq 5 (h:=tq 6 (h:=tq 7 (h:=tq 8 (h:=tq 9 (h:=tq 10 (h:=tD (h:=?_))))))))))));clear a9 hS a7 b9 c7;go_wp2_with fail;go_ret;exact ⟨_,o1,rfl,a8.out.1,by rw [O.out];exact Dn.nil _ _,by rw [O.out];exact a8.out.2⟩
def New (w:World) (o:Own) (k:Nat) (W:World) (oW:Own):Prop:=aj ai w o W oW/\W.heap.size=w.heap.size+k
def At0 (W:World) (oW:Own) (b:Nat) (ob:Obj):Prop:=W.heap[b]?=some ob/\(oW b).1=0
theorem At0.step {T:Nat->Prop}{w w':World}{o o':Own}{b:Nat}{ob:Obj}(h:At0 w o b ob) (s:aj T w o w' o') (h0:¬ T 0):At0 w' o' b ob:=
 ⟨(s.block b (au h.1) (by rw [h.2];exact h0)).trans h.1,by rw [s.own b (au h.1)];exact h.2⟩
section
variable (w:World) (o:Own)
theorem AaC (a:Obj):∃ W q,w.alloc a=W/\New w o 1 W q/\At0 W q w.heap.size a:=
 ⟨_,_,rfl,⟨(aj.refl ai w o).alloc a (0,0),by simp⟩,heap_alloc_new w a,by rw [Au]⟩
theorem Ajq (a b:Obj):∃ W q,(w.alloc a).alloc b=W/\New w o 2 W q/\At0 W q w.heap.size a/\At0 W q (w.heap.size+1) b:=by
 obtain ⟨W,q,rfl,r,E⟩:=AaC w o a;obtain ⟨V,oV,F,u,h4⟩:=AaC (w.alloc a) q b;rw [r.2] at h4;exact ⟨V,oV,F,⟨r.1.trans u.1,by rw [u.2,r.2]⟩,E.step u.1 id,h4⟩
theorem Ajp (a b c:Obj):∃ W q,((w.alloc a).alloc b).alloc c=W/\New w o 3 W q/\At0 W q w.heap.size a/\At0 W q (w.heap.size+1) b/\At0 W q (w.heap.size+1+1) c:=by
 obtain ⟨W,q,rfl,u,E,F⟩:=Ajq w o a b;obtain ⟨V,oV,J,r,h4⟩:=AaC ((w.alloc a).alloc b) q c;rw [u.2] at h4;exact ⟨V,oV,J,⟨u.1.trans r.1,by rw [r.2,u.2]⟩,E.step r.1 id,F.step r.1 id,h4⟩
end
theorem At0.cell {W:World}{q:Own}{b:Nat}{cs:List Value}{E:TypeId}{fr:Nat × Nat}(h:At0 W q b (.cells cs.toArray E fr)) (i:Nat):W.cell? ⟨b,i,none⟩=cs[i]?:=ag h.1 i
theorem At0.store {P:Program}{w W:World}{o q:Own}{b:Nat}{cs:List Value}{E:TypeId}(h:At0 W q b (.cells cs.toArray E (0,0))) (s:aj ai w o W q) (hn:w.heap.size<=b) {ty:TypeId}{vs:List Value}(hl:vs.length=cs.length)
  (hi:(P.info? ty).map (·.size)=some vs.length) (r:vs.all (·.oneCell')=true) :
  ∃ V,(Instr.storeAt ty (.pointer (some ⟨b,0,none⟩)) (.agg vs.toArray)).run P W = .ok () V/\aj ai w o V q/\At0 V q b (.cells vs.toArray E (0,0))/\(∀ k,k ≠ b->V.heap[k]?=W.heap[k]?)/\V.heap.size=W.heap.size:=by
 obtain ⟨u,F⟩:=Ba h.1 hl hi r;exact ⟨_,u,s.setCells b 0 vs (.inr hn),⟨F,h.2⟩,fun k J=>ah b vs 0 W k J,by rw [size_setCells]⟩
def AtT (W:World) (oW:Own) (b:Nat) (ob:Obj) (t:Nat × Nat):Prop:=W.heap[b]?=some ob/\oW b=t
theorem AtT.step {T:Nat->Prop}{w w':World}{o o':Own}{b:Nat}{ob:Obj}{t:Nat × Nat}(h:AtT w o b ob t) (s:aj T w o w' o') (q:¬ T t.1):AtT w' o' b ob t:=
 ⟨(s.block b (au h.1) (by rw [h.2];exact q)).trans h.1,(s.own b (au h.1)).trans h.2⟩
theorem Akp (w:World) (o:Own) (a:Obj) (t:Nat × Nat):∃ W q,w.alloc a=W/\New w o 1 W q/\AtT W q w.heap.size a t:=
 ⟨_,_,rfl,⟨(aj.refl ai w o).alloc a t,by simp⟩,heap_alloc_new w a,Au _ _ _⟩
theorem AtT.store {P:Program}{W:World}{q:Own}{b:Nat}{cs:List Value}{E:TypeId}{t:Nat × Nat}(h:AtT W q b (.cells cs.toArray E (0,0)) t) {ty:TypeId}{vs:List Value}(hl:vs.length=cs.length)
  (hi:(P.info? ty).map (·.size)=some vs.length) (r:vs.all (·.oneCell')=true) :
  ∃ V,(Instr.storeAt ty (.pointer (some ⟨b,0,none⟩)) (.agg vs.toArray)).run P W = .ok () V/\aj (ak t.1) W q V q/\(∀ {T:Nat->Prop}{w:World}{o:Own},aj T w o W q->w.heap.size<=b->aj T w o V q)/\AtT V q b (.cells vs.toArray E (0,0)) t:=by
 obtain ⟨u,F⟩:=Ba h.1 hl hi r;exact ⟨_,u,(aj.refl _ W q).setCells b 0 vs (.inl (by rw [h.2];rfl)),fun s hn=>s.setCells b 0 vs (.inr hn),F,h.2⟩
theorem Bc.cell {w:World}{o:Own}{D M pz ps pd:Nat}{z:Am}(h:Bc w o D M pz ps pd z) :
  w.cell? ⟨pz,0,none⟩=some (.int .i64 (z.id:Int))/\w.cell? ⟨pz,1,none⟩=some (.int .i64 (z.n:Int))/\w.cell? ⟨pz,2,none⟩=some (.pointer (some ⟨ps,0,none⟩))/\w.cell? ⟨pz,4,none⟩=some (.int .i64 (z.waited:Int))/\w.cell? ⟨pz,5,none⟩=some (.int .u64 (z.seen.toNat:Int))/\w.cell? ⟨pz,6,none⟩=some (.int .i64 (z.Ag:Int)):=by
 obtain ⟨-,E,hb, -⟩:=h;obtain ⟨⟨q,c1,c2, -,r,c5,u⟩, -⟩:=hb.cells;exact ⟨q,c1,c2,r,c5,u⟩
theorem Bc.store {w:World}{o:Own}{D M pz ps pd:Nat}{z:Am}(h:Bc w o D M pz ps pd z):Bi w o (M+1) (M+2) (M+3) D ps pd 0 z.s:=by
 obtain ⟨-,r, -, -,q⟩:=h;exact q
theorem Bc.tags {w:World}{o:Own}{D M pz ps pd:Nat}{z:Am}(h:Bc w o D M pz ps pd z):D<=M/\D ≠ 0:=h.1
theorem Bc.restore {w w':World}{o o':Own}{D M pz ps pd:Nat}{z:Am}(h:Bc w o D M pz ps pd z) (s:aj (qG (M+1) (M+2) (M+3) D) w o w' o') {r:AZ}(E:Bi w' o' (M+1) (M+2) (M+3) D ps pd 0 r) :
  Bc w' o' D M pz ps pd { z with s:=r }:=by
 obtain ⟨q,F,hb,J, -⟩:=h;have u:¬ qG (M+1) (M+2) (M+3) D (M+4):=KC.WZ q.1 q.2;have O:¬ qG (M+1) (M+2) (M+3) D 0:=fun h=>by unfold qG at h;have:=q.2;omega
 exact ⟨q,F,hb.step s u,J.step s u O,E⟩
theorem n04 {D M:Nat}(h:D<=M/\D ≠ 0):¬ qG (M+1) (M+2) (M+3) D 0:=fun q=>by unfold qG at q;have:=h.2;omega
section
variable {w:World}{o:Own}{D M pz ps pd K B base:Nat}{z:Am}
theorem QQ (h:Bc w o D M pz ps pd z) (hp:Am.NP K B z) (hK:K+600<65536) (hB:B<=90000) (src:Nat) (m:BG) (hm:m.May) {lv:Value}(hl:Lines w o base lv m.ls) :
  Calls prog 149 #[.pointer (some ⟨pz,0,none⟩), .int .i64 (src:Int),Ea m lv] w (XL (KC D M) w o fun v w' o'=>Dn w' o' v (Ed (z.BK src m).2)/\Bc w' o' D M pz ps pd (z.BK src m).1):=by
 obtain ⟨R,q⟩:=az (z.BK src m);rw [q];unfold Am.BK at q;obtain ⟨la,lc,e6⟩:=hl.form;obtain ⟨n,hn⟩:=az (m.ls.length);rw [hn] at e6;subst e6;have e7:z.n<=3:=hp.ok.n3;have e8:1<=z.n:=hp.ok.n1;have b9:En B z.s.kept.lines:=hp.ok.ls;have c0:=En.small b9 om;have s1:=(aj.refl ai w o).alloc (.cells (Bf m (.slice la n lc)).toArray 150) (0,0);have W:=heap_alloc_new w (.cells (Bf m (.slice la n lc)).toArray 150);have a6:=Au o w.heap.size (0,0);generalize Ak o w.heap.size (0,0)=o1 at *;obtain ⟨W1,c3⟩:=az (w.alloc (.cells (Bf m (.slice la n lc)).toArray 150));rw [c3] at s1 W;have b7:(Instr.box 150 (Ea m (.slice la n lc))).run prog w = .ok (.pointer (some ⟨w.heap.size,0,none⟩)) W1:=by rw [<-c3];kernel_rfl
 obtain ⟨Y,e9⟩:=az (w.heap.size);rw [e9] at W a6 b7;have h1:=h.step0 s1;have b1:=hl.step s1 id;obtain ⟨-, -,e2, -⟩:=h1.cell;unfold Ea at b7 ⊢;have xH:=ae b7;have f0:=ae (DJ h1.store c0);have hA:=ae (aI s1 (aI W (aI a6 (aI h1 b1))));have b2:=ae hp;have c4:=ae hm;have hI:=ae (aI e7 (aI e8 (aI b9 c0)));have i2:=ae hn;clear s1 W a6 h1 b1 c3 e9 b7 h hl hp hm e7 e8 b9 c0 hn;go_enter func149,ntmps149
 go_wp2_with ((with_reducible apply BM);exact xH.out;simp only [Act.put,GL,DL,lss])
 refine f0.out.mono ?_;rintro ex w2 ⟨v2,o2,rfl,f1,lk,rfl,c6,rfl⟩;obtain ⟨ka,kc,rfl⟩:=c6.form;obtain ⟨L,hL⟩:=az (z.s.kept.lines.length);have c7:=AB (P:=prog) w2 37 _ OZ;have b8:=MX w2 z.s.kept.promised z.s.kept.current ka L kc;have k3:=(aj.refl ai w2 (ext W1 o1)).alloc (.cells (BR z.s.kept.promised z.s.kept.current (.slice ka L kc)).toArray 37) (0,0);have u:=heap_alloc_new w2 (.cells (BR z.s.kept.promised z.s.kept.current (.slice ka L kc)).toArray 37);have a2:=Au (ext W1 o1) w2.heap.size (0,0);generalize Ak (ext W1 o1) w2.heap.size (0,0)=o3 at *;obtain ⟨W3,f2⟩:=az (w2.alloc (.cells (BR z.s.kept.promised z.s.kept.current (.slice ka L kc)).toArray 37));rw [f2] at b8 k3 u;obtain ⟨kb,f3⟩:=az (w2.heap.size);rw [f3] at c7 b8 u a2;obtain ⟨s1,W,a6,h1,b1⟩:=hA.out;have a7:=f1.trans k3;have J:=h1.step0 a7;have U:=(a7.block _ (au W) id).trans W;have a3:=(a7.own _ (au W)).trans a6;have b3:=b1.step a7 id;have a4:=(c6.step k3 id).low (Nat.zero_le _);have a8:=s1.trans a7;rw [hL] at a4;obtain ⟨m0,m1,m2,m3,m4,m5⟩:=Gt U;have c8:=ag u 0;have c9:=ag u 1;have d1:=ag u 2;simp only [BR,ay,ax] at c8 c9 d1;have g9:=ae (PM J hI.out.2.1 hI.out.1 src m.e);have hQ:=ae (aI a8 (aI U (aI a3 (aI J (aI b3 (aI u (aI a2 a4)))))));have h2:=ae c7;have h5:=ae b8;rw [hL];clear f1 c6 c7 b8 k3 u a2 f2 f3 s1 W a6 h1 b1 a7 J U a3 b3 a4 a8 f0 e2
 go_wp2_with (first
  | ((with_reducible apply AU);exact h2.out;simp only [Act.put,GL,DL,lss])
  | ((with_reducible apply AC);exact h5.out;simp only [Act.put]))
 refine g9.out.mono ?_;rintro ex w' ⟨rfl,rfl⟩
 cases ho:z.BN.owns src m.e with
 | false =>
  rw [ho] at q;simp only [Bool.not_false,if_true] at q;have O:=ae q;clear ho q;go_wp2_with fail;go_ret;refine ⟨_,o3,rfl,hQ.out.1.mono (fun _ h=>h.elim), ?_, ?_⟩
  ·rw [<-O.out];exact Dn.nil _ _
  ·rw [<-O.out];exact hQ.out.2.2.2.1
 | true =>
  rw [ho] at q;simp only [Bool.not_true,Bool.false_eq_true,if_false] at q;clear ho;have i3:z.BN.k=z.s.kept:=rfl;have h7:z.s.kept.promised.toNat<=281474976710656:=b2.out.ok.pt
  by_cases f4:m.e.toNat<=z.s.kept.promised.toNat
  ·rw [if_pos f4] at q;have O:=ae q;have h8:(m.e.toNat:Int)<=(z.s.kept.promised.toNat:Int):=om
   have f5:=ae (Lt hQ.out.2.2.2.1 hI.out.2.2.2 (by have:=c4.out.e1;omega) h7 src);clear q;go_wp2_with fail;refine f5.out.mono ?_;rintro ex w4 ⟨v4,o4,rfl,d3,d4⟩;have hF:=ae (aI (hQ.out.1.trans d3) (aI d4 (hQ.out.2.2.2.1.step0 d3)));obtain ⟨xa,xc,rfl⟩:=d4.form;clear d3 d4 f5;go_wp2_with fail;go_ret;refine ⟨_,o4,rfl,hF.out.1.mono (fun _ h=>h.elim), ?_, ?_⟩
   ·rw [<-O.out];exact hF.out.2.1
   ·rw [<-O.out];exact hF.out.2.2
  ·rw [if_neg f4] at q;have h8:¬ (m.e.toNat:Int)<=(z.s.kept.promised.toNat:Int):=om
   obtain ⟨a8,U,a3,J,b3,u,a2,a4⟩:=hQ.out;have dr:aj ai W3 o3 W3.drew o3:=(aj.refl ai W3 o3).drew;have d5:=Jb J.tags (J.step0 dr).store b2.out.sp hI.out.2.2.2 m.e;obtain ⟨-, -,e2, -⟩:=(J.step0 dr).cell;have q1:=ag (w:=W3.drew) U 1;have hS:=aI e2 (show W3.drew.cell? ⟨Y,1,none⟩=some (.int .u64 (m.e.toNat:Int)) from q1);have f6:=AcS b2.out.sp hK b2.out.kok m.e;obtain ⟨Q,h9⟩:=az (z.s.promise m.e);simp only [h9] at d5 f6 q;have f7:=ae d5;have i0:=ae (J.step0 dr);clear a8 U a3 J b3 u a2 a4 dr d5 e2 q1;have f8:∀ (r:World) (E:Own),aj (qG (M+1) (M+2) (M+3) D) W3.drew o3 r E->Bi r E (M+1) (M+2) (M+3) D ps pd 0 Q.1 ->
     (r.cell? ⟨pz,2,none⟩=some (.pointer (some ⟨ps,0,none⟩))/\r.cell? ⟨Y,1,none⟩=some (.int .u64 (m.e.toNat:Int)))/\(r.heap[Y]?=some (.cells (Bf m (.slice la n lc)).toArray 150 (0,0))/\r.heap[kb]?=some (.cells (BR z.s.kept.promised z.s.kept.current (.slice ka L kc)).toArray 37 (0,0))/\(E Y).1=0/\(E kb).1=0/\Lines r E 0 (.slice ka L kc) z.s.kept.lines/\aj (KC D M) w o r E/\Bc r E D M pz ps pd { z with s:=Q.1 }):=by
    intro r E F pW;obtain ⟨a8,U,a3,J,b3,u,a2,a4⟩:=hQ.out;have dr:aj ai W3 o3 W3.drew o3:=(aj.refl ai W3 o3).drew;have n0:=n04 J.tags;have a9:=(F.block Y (au U) (by rw [a3];exact n0)).trans U;have b4:=(F.block kb (au u) (by rw [a2];exact n0)).trans u;have h6:=i0.out.restore F pW;obtain ⟨-, -,e2, -⟩:=h6.cell;exact ⟨⟨e2,ag a9 1⟩,a9,b4,by rw [F.own Y (au U),a3],by rw [F.own kb (au u),a2],(a4.step dr id).step F n0,((a8.trans dr).mono (fun _ h=>h.elim)).trans (F.mono KC.in4),h6⟩
   have f9:=ae f8;clear f8
   rcases f6 with ⟨s',er,d6,d7⟩ | ⟨i4,s',d6,i5,i6⟩
   ·subst d6;have i7:(er == 0)=false:=by simpa using d7
    have i8:(er != 0)=true:=by simpa using d7
    rw [if_neg (show ¬ (s',er).2=0 from d7)] at q;have O:=ae q;clear q;go_wp2_with fail;clear m0 m1 m2 m3 m4 m5 c8 c9 d1;refine Aa (fun w'=>w'.cell? ⟨pz,2,none⟩=some (.pointer (some ⟨ps,0,none⟩))/\w'.cell? ⟨Y,1,none⟩=some (.int .u64 (m.e.toNat:Int))) (fun _=>true) (by kernel_rfl) hS (fun d8 => ?_);refine tq 0 (h:=tq 1 (h:=tq 2 (h:=tq 3 (h:=tq 4 (h:=tq 5 (h:=tO 6 (h:=?_)))))));go_wp2_with fail;refine f7.out.mono ?_;rintro ex r ⟨v6,E,rfl,F,rfl,pW⟩;have a5:=ae (f9.out r E F pW);have b5:=a5.out.1;clear F pW d8 hS;go_wp2_with fail;refine ⟨fun _=>b5, ?_⟩;refine tq 7 (h:=tq 8 (h:=tD (h:=?_)));clear b5;go_wp2_with fail;go_ret;refine ⟨_,E,rfl,a5.out.2.2.2.2.2.2.1, ?_, ?_⟩
    ·rw [<-O.out];exact Dn.nil _ _
    ·rw [<-O.out];exact a5.out.2.2.2.2.2.2.2
   ·subst d6;rw [if_pos rfl] at q;have O:=ae q;clear q;go_wp2_with fail;clear m0 m1 m2 m3 m4 m5 c8 c9 d1;refine Aa (fun w'=>w'.cell? ⟨pz,2,none⟩=some (.pointer (some ⟨ps,0,none⟩))/\w'.cell? ⟨Y,1,none⟩=some (.int .u64 (m.e.toNat:Int))) (fun _=>true) (by kernel_rfl) hS (fun d8 => ?_);refine tq 0 (h:=tq 1 (h:=tq 2 (h:=tq 3 (h:=tq 4 (h:=tq 5 (h:=tO 6 (h:=?_)))))));go_wp2_with fail;refine f7.out.mono ?_;rintro ex r ⟨v6,E,rfl,F,rfl,pW⟩;have a5:=ae (f9.out r E F pW);have b5:=a5.out.1;clear F pW d8 hS;go_wp2_with fail;refine ⟨fun _=>b5, ?_⟩;refine tq 7 (h:=tq 8 (h:=tD (h:=?_)));clear b5;have g0:=ae (FD a5.out.2.2.2.2.2.2.2);go_wp2_with fail;refine g0.out.mono ?_;rintro ex W7 ⟨v7,o7,rfl,b6,rfl,g1⟩;obtain ⟨-,a9,b4,g2,g3,g4,g5,h6⟩:=a5.out;have n4:¬ ak (M+4) 0:=fun h=>by unfold ak at h;omega
    have g6:=(b6.block Y (au a9) (by rw [g2];exact n4)).trans a9;have d9:=(b6.block kb (au b4) (by rw [g3];exact n4)).trans b4;have q1:=ag g6 1;have q2:=ag d9 1;have q3:=ag d9 2;simp only [Bf,BR,ay,ax] at q1 q2 q3;have wY:=g4.step b6 n4;have g7:=b2.out.ok;have i9:z.s.kept.current.toNat<=z.s.kept.promised.toNat:=g7.cp;have e0:=LZ (w:=W7) (o:=o7) ⟨2,m.e,z.s.kept.current,0,0,z.s.kept.lines⟩ (Aj.Ox c4.out.e1 c4.out.e2 om hI.out.2.2.1) wY src;unfold Ea at e0;have sO:=ae e0;have g8:=ae (aI (g5.trans (b6.mono (T':=KC D M) (fun k h=>(show KC D M k by cases h;exact KC.own)))) g1);clear b6 g1 a9 b4 g2 g3 g4 g5 h6 g6 d9 wY g7 e0 g0;go_wp2_with fail;refine sO.out.mono ?_;rintro ex W8 ⟨v8,o8,rfl,e3,bv,rfl,e4⟩;have i1:=ae (Nq W8 (src:Int) bv);have e5:=ae (aI ((g8.out.1.trans (e3.mono (fun _ h=>h.elim))).alloc (.cells [.int .i64 (src:Int),bv].toArray 146) (0,0)) (aI (PN (to:=src) e4) (g8.out.2.step0 (e3.alloc (.cells [.int .i64 (src:Int),bv].toArray 146) (0,0)))));obtain ⟨ba,bc,rfl⟩:=Aq e4;clear e3 e4 sO;unfold YC
    go_wp2_with ((with_reducible apply BO #[(0, .agg #[.int .i64 (src:Int), .slice ba _ bc])] rfl);exact i1.out;simp only [Act.put,GL,DL,lss])
    go_ret;refine ⟨_,_,rfl,e5.out.1, ?_, ?_⟩
    ·rw [<-O.out];exact e5.out.2.1
    ·rw [<-O.out];exact e5.out.2.2
end
section
variable {w:World}{o:Own}{D M pz ps pd Z:Nat}
theorem IE.iE {rv:Value}{r:Adl}(h:IE w o Z rv r) (O:o pz=(Z,0)) (W:Z ≠ 0) (i:Nat) (v:Value):IE (w.setCell ⟨pz,i,none⟩ v) o Z rv r:=by
 have k:=(aj.refl (ak Z) w o).setCell (a:=⟨pz,i,none⟩) v (.inl (by show (o pz).1=_;rw [O]));have Y:¬ ak Z 0:=fun h=>W h.symm;have other:∀ b t,o b=(Z,t)->t ≠ 0->(w.setCell ⟨pz,i,none⟩ v).heap[b]?=w.heap[b]?:=by
  intro b t hb ht;refine Below.heap_setCell w ⟨pz,i,none⟩ v b ?_;rintro rfl;rw [O] at hb;cases hb;exact ht rfl
 cases r with
 | follows=>exact h
 | stands mine has =>
  obtain ⟨p,E,U,F,q,es,h4,u,J,h7,h8⟩:=h;exact ⟨p,E,U,(other p 1 q om).trans F,q,es,(other U 2 u om).trans h4,u,J,fun x hx=>by obtain ⟨ls,a,b⟩:=h7 x hx;exact ⟨ls,a,b.step k Y⟩,h8⟩
 | leads mine nR base ready =>
  obtain ⟨p,E,b,cap,F,q,h4,u,J⟩:=h;exact ⟨p,E,b,cap,(other p 1 q om).trans F,q,(other b 2 u om).trans h4,u,J⟩
theorem Bc.put {z z':Am}(h:Bc w o D M pz ps pd z) (i:Nat) (v:Value) (hc:∀ rv,(IL z.id z.n ps rv z.waited z.seen z.Ag).set i v=IL z'.id z'.n ps rv z'.waited z'.seen z'.Ag) (r:z'.BB=z.BB) (u:z'.s=z.s) :
  Bc (w.setCell ⟨pz,i,none⟩ v) o D M pz ps pd z'/\aj (ak (M+4)) w o (w.setCell ⟨pz,i,none⟩ v) o:=by
 obtain ⟨q,rv,hb,E,F⟩:=h;have k:=(aj.refl (ak (M+4)) w o).setCell (a:=⟨pz,i,none⟩) v (.inl (by show (o pz).1=_;rw [hb.2]));refine ⟨⟨q,rv,⟨?_,hb.2⟩,by rw [r];exact E.iE hb.2 om i v,by rw [u];exact F.step k (KC.self q.1)⟩,k⟩;have h:=Ai (i:=i) v hb.1;rw [hc rv] at h;exact h
theorem Bc.Ag {z:Am}(h:Bc w o D M pz ps pd z) (c:Nat):Bc (w.setCell ⟨pz,6,none⟩ (.int .i64 (c:Int))) o D M pz ps pd { z with Ag:=c }/\aj (ak (M+4)) w o (w.setCell ⟨pz,6,none⟩ (.int .i64 (c:Int))) o:=
 h.put 6 _ (fun _=>rfl) rfl rfl
theorem Bc.seen {z:Am}(h:Bc w o D M pz ps pd z) (e:BitVec 64):Bc (w.setCell ⟨pz,5,none⟩ (.int .u64 (e.toNat:Int))) o D M pz ps pd { z with seen:=e }/\aj (ak (M+4)) w o (w.setCell ⟨pz,5,none⟩ (.int .u64 (e.toNat:Int))) o:=
 h.put 5 _ (fun _=>rfl) rfl rfl
theorem Bc.free {z:Am}(h:Bc w o D M pz ps pd z) (i:Nat):w.frozen? ⟨pz,i,none⟩=false:=by
 obtain ⟨-,q,hb, -⟩:=h;exact hb.cells.2.1 i
end
theorem BG.May.small {m:BG}(h:m.May):small m.ls:=⟨Nat.le_trans h.n1 om,Nat.le_trans (NK h) om⟩
section
variable {w:World}{o:Own}{D M pz ps pd K B base:Nat}{z:Am}
theorem QR (h:Bc w o D M pz ps pd z) (hp:Am.NP K B z) (hK:K+600<65536) (hB:B<=90000) (src:Nat) (m:BG) (hm:m.May) (_j4:AP m.ls<=90000) {lv:Value}(hl:Lines w o base lv m.ls) :
  Calls prog 152 #[.pointer (some ⟨pz,0,none⟩), .int .i64 (src:Int),Ea m lv] w (XL (KC D M) w o fun v w' o'=>Dn w' o' v (Ed (z.BD src m).2)/\Bc w' o' D M pz ps pd (z.BD src m).1):=by
 obtain ⟨R,q⟩:=az (z.BD src m);rw [q];unfold Am.BD at q;obtain ⟨O,U,f9⟩:=hl.form;obtain ⟨n,hn⟩:=az (m.ls.length);rw [hn] at f9;subst f9;have g0:z.n<=3:=hp.ok.n3;have g1:1<=z.n:=hp.ok.n1;have d9:En B z.s.kept.lines:=hp.ok.ls;have e0:=En.small d9 om;have s1:=(aj.refl ai w o).alloc (.cells (Bf m (.slice O n U)).toArray 150) (0,0);have gI:=heap_alloc_new w (.cells (Bf m (.slice O n U)).toArray 150);have b5:=Au o w.heap.size (0,0);generalize Ak o w.heap.size (0,0)=o1 at *;obtain ⟨W1,e3⟩:=az (w.alloc (.cells (Bf m (.slice O n U)).toArray 150));rw [e3] at s1 gI;have d5:(Instr.box 150 (Ea m (.slice O n U))).run prog w = .ok (.pointer (some ⟨w.heap.size,0,none⟩)) W1:=by rw [<-e3];kernel_rfl
 obtain ⟨r,g2⟩:=az (w.heap.size);rw [g2] at gI b5 d5;have h1:=h.step0 s1;have c6:=hl.step s1 id;obtain ⟨-, -,e2, -⟩:=h1.cell;unfold Ea at d5 ⊢;have xH:=ae d5;have g3:=ae (DJ h1.store e0);have hA:=ae (aI s1 (aI gI (aI b5 (aI h1 c6))));have c7:=ae hp;have a6:=ae hm;have hI:=ae (aI g0 (aI g1 (aI d9 e0)));have e4:=ae hn;clear s1 gI b5 h1 c6 e3 g2 d5 h hl hp hm g0 g1 d9 e0 hn;go_enter func152,ntmps152
 go_wp2_with ((with_reducible apply BM);exact xH.out;simp only [Act.put,GL,DL,lss])
 refine g3.out.mono ?_;rintro ex w2 ⟨v2,o2,rfl,g4,lk,rfl,e5,rfl⟩;obtain ⟨ka,kc,rfl⟩:=e5.form;obtain ⟨L,hL⟩:=az (z.s.kept.lines.length);have e7:=AB (P:=prog) w2 37 _ OZ;have d6:=MX w2 z.s.kept.promised z.s.kept.current ka L kc;have k3:=(aj.refl ai w2 (ext W1 o1)).alloc (.cells (BR z.s.kept.promised z.s.kept.current (.slice ka L kc)).toArray 37) (0,0);have a4:=heap_alloc_new w2 (.cells (BR z.s.kept.promised z.s.kept.current (.slice ka L kc)).toArray 37);have b6:=Au (ext W1 o1) w2.heap.size (0,0);generalize Ak (ext W1 o1) w2.heap.size (0,0)=o3 at *;obtain ⟨W,g5⟩:=az (w2.alloc (.cells (BR z.s.kept.promised z.s.kept.current (.slice ka L kc)).toArray 37));rw [g5] at d6 k3 a4;obtain ⟨kb,g6⟩:=az (w2.heap.size);rw [g6] at e7 d6 a4 b6;obtain ⟨s1,gI,b5,h1,c6⟩:=hA.out;have b7:=g4.trans k3;have Y:=h1.step0 b7;have a2:=(b7.block _ (au gI) id).trans gI;have a8:=(b7.own _ (au gI)).trans b5;have b8:=c6.step b7 id;have b9:=(e5.step k3 id).low (Nat.zero_le _);have c0:=s1.trans b7;rw [hL] at b9;obtain ⟨m0,m1,m2,m3,m4,m5⟩:=Gt a2;have e8:=ag a4 0;have e9:=ag a4 1;have f0:=ag a4 2;simp only [BR,ay,ax] at e8 e9 f0;have i2:=ae (PM Y hI.out.2.1 hI.out.1 src m.e);have hQ:=ae (aI c0 (aI a2 (aI a8 (aI Y (aI b8 (aI a4 (aI b6 b9)))))));have i3:=ae e7;have i4:=ae d6;rw [hL];clear g4 e5 e7 d6 k3 a4 b6 g5 g6 s1 gI b5 h1 c6 b7 Y a2 a8 b8 b9 c0 g3 e2
 go_wp2_with (first
  | ((with_reducible apply AU);exact i3.out;simp only [Act.put,GL,DL,lss])
  | ((with_reducible apply AC);exact i4.out;simp only [Act.put]))
 refine i2.out.mono ?_;rintro ex w' ⟨rfl,rfl⟩
 cases ho:z.BN.owns src m.e with
 | false =>
  rw [ho] at q;simp only [Bool.not_false,if_true] at q;have E:=ae q;clear ho q;go_wp2_with fail;go_ret;refine ⟨_,o3,rfl,hQ.out.1.mono (fun _ h=>h.elim), ?_, ?_⟩
  ·rw [<-E.out];exact Dn.nil _ _
  ·rw [<-E.out];exact hQ.out.2.2.2.1
 | true =>
  rw [ho] at q;simp only [Bool.not_true,Bool.false_eq_true,if_false] at q;clear ho;have i5:z.s.kept.promised.toNat<=281474976710656:=c7.out.ok.pt
  by_cases g7:m.e.toNat<z.s.kept.promised.toNat
  ·rw [if_pos g7] at q;have E:=ae q;have i6:(m.e.toNat:Int)<(z.s.kept.promised.toNat:Int):=om
   have g8:=ae (Lt hQ.out.2.2.2.1 hI.out.2.2.2 (by have:=a6.out.e1;omega) i5 src);clear q;go_wp2_with fail;refine g8.out.mono ?_;rintro ex w4 ⟨v4,o4,rfl,f1,a3⟩;have hF:=ae (aI (hQ.out.1.trans f1) (aI a3 (hQ.out.2.2.2.1.step0 f1)));obtain ⟨xa,xc,rfl⟩:=a3.form;clear f1 a3 g8;go_wp2_with fail;go_ret;refine ⟨_,o4,rfl,hF.out.1.mono (fun _ h=>h.elim), ?_, ?_⟩
   ·rw [<-E.out];exact hF.out.2.1
   ·rw [<-E.out];exact hF.out.2.2
  ·rw [if_neg g7] at q;have i6:¬ (m.e.toNat:Int)<(z.s.kept.promised.toNat:Int):=om
   by_cases c8:z.s.kept.current=m.e
   ·rw [if_pos c8] at q;have E:=ae q;have i7:(z.s.kept.current.toNat:Int)=(m.e.toNat:Int):=by rw [c8]
    have a7:=ae (aI (hQ.out.1.mono (T':=KC D M) (fun _ h=>h.elim)) (aI hQ.out.2.1 (show (o3 r).1=0 by rw [hQ.out.2.2.1])));clear q c8;have c9:=ae (FD hQ.out.2.2.2.1);go_wp2_with fail;refine c9.out.mono ?_;rintro ex W7 ⟨v7,o7,rfl,a9,rfl,b1⟩;have n4:¬ ak (M+4) 0:=fun h=>by unfold ak at h;omega
    have d1:=(a9.block r (au a7.out.2.1) (by rw [a7.out.2.2];exact n4)).trans a7.out.2.1;have q1:=ag d1 1;simp only [Bf,ay,ax] at q1;have d3:=ae (OY b1 hI.out.2.2.1.n hI.out.2.2.2 m.e a6.out.e1 a6.out.e2 src);have d4:=ae (aI (a7.out.1.trans (a9.mono (T':=KC D M) (fun k h=>(show KC D M k by cases h;exact KC.own)))) b1);clear a9 b1 d1 c9;go_wp2_with fail;refine d3.out.mono ?_;rintro ex W8 ⟨v8,o8,rfl,b2,a3⟩;have hF:=ae (aI (d4.out.1.trans (b2.mono (fun _ h=>h.elim))) (aI a3 (d4.out.2.step0 b2)));obtain ⟨xa,xc,rfl⟩:=a3.form;clear b2 a3 d3;go_wp2_with fail;go_ret;refine ⟨_,o8,rfl,hF.out.1, ?_, ?_⟩
    ·rw [<-E.out];exact hF.out.2.1
    ·rw [<-E.out];exact hF.out.2.2
   ·rw [if_neg c8] at q;have i7:¬ (z.s.kept.current.toNat:Int)=(m.e.toNat:Int):=fun h=>c8 (BitVec.eq_of_toNat_eq om);obtain ⟨c0,a2,a8,Y,b8,a4,b6,b9⟩:=hQ.out;have J:aj ai W o3 W.drew o3:=(aj.refl ai W o3).drew;have f2:=Awf Y.tags (Y.step0 J).store c7.out.sp m.e (b8.step J id) a6.out.small;obtain ⟨-, -,e2, -⟩:=(Y.step0 J).cell;have q1:=ag (w:=W.drew) a2 1;have q5:=ag (w:=W.drew) a2 5;have hS:=aI e2 (aI (show W.drew.cell? ⟨r,1,none⟩=some (.int .u64 (m.e.toNat:Int)) from q1) (show W.drew.cell? ⟨r,5,none⟩=some (.slice O n U) from q5));have g9:=KW c7.out.sp hK c7.out.kok m.e m.ls;obtain ⟨Q,i8⟩:=az (z.s.FO m.e m.ls);simp only [i8] at f2 g9 q;have h2:=ae f2;have i9:=ae (Y.step0 J);clear c0 a2 a8 Y b8 a4 b6 b9 J f2 e2 q1 q5;have h5:∀ (u:World) (F:Own),aj (qG (M+1) (M+2) (M+3) D) W.drew o3 u F->Bi u F (M+1) (M+2) (M+3) D ps pd 0 Q.1 ->
      (u.cell? ⟨pz,2,none⟩=some (.pointer (some ⟨ps,0,none⟩))/\u.cell? ⟨r,1,none⟩=some (.int .u64 (m.e.toNat:Int))/\u.cell? ⟨r,5,none⟩=some (.slice O n U))/\(u.heap[r]?=some (.cells (Bf m (.slice O n U)).toArray 150 (0,0))/\(F r).1=0/\aj (KC D M) w o u F/\Bc u F D M pz ps pd { z with s:=Q.1 }):=by
     intro u F a5 pW;obtain ⟨c0,a2,a8,Y,b8,a4,b6,b9⟩:=hQ.out;have J:aj ai W o3 W.drew o3:=(aj.refl ai W o3).drew;have n0:=n04 Y.tags;have b3:=(a5.block r (au a2) (by rw [a8];exact n0)).trans a2;have h6:=i9.out.restore a5 pW;obtain ⟨-, -,e2, -⟩:=h6.cell;exact ⟨⟨e2,ag b3 1,ag b3 5⟩,b3,by rw [a5.own r (au a2),a8],((c0.trans J).mono (fun _ h=>h.elim)).trans (a5.mono KC.in4),h6⟩
    have h7:=ae h5;clear h5
    rcases g9 with ⟨s',er,f3,f4⟩ | ⟨j0,s',f3,j5,j1⟩
    ·subst f3;have j6:(er == 0)=false:=by simpa using f4
     have j7:(er != 0)=true:=by simpa using f4
     rw [if_neg (show ¬ (s',er).2=0 from f4)] at q;have E:=ae q;clear q;go_wp2_with fail;clear m0 m1 m2 m3 m4 m5 e8 e9 f0;refine Aa (fun w'=>w'.cell? ⟨pz,2,none⟩=some (.pointer (some ⟨ps,0,none⟩))/\w'.cell? ⟨r,1,none⟩=some (.int .u64 (m.e.toNat:Int))/\w'.cell? ⟨r,5,none⟩=some (.slice O n U)) (fun _=>true) (by kernel_rfl) hS (fun c3 => ?_);refine tq 0 (h:=tq 1 (h:=tq 2 (h:=tq 3 (h:=tq 4 (h:=tq 5 (h:=tq 6 (h:=tq 7 (h:=tO 8 (h:=?_)))))))));go_wp2_with fail;refine h2.out.mono ?_;rintro ex u ⟨v6,F,rfl,a5,rfl,pW⟩;have c4:=ae (h7.out u F a5 pW);have b4:=c4.out.1;clear a5 pW c3 hS;go_wp2_with fail;refine ⟨fun _=>b4, ?_⟩;refine tq 9 (h:=tD (h:=?_));clear b4;go_wp2_with fail;go_ret;refine ⟨_,F,rfl,c4.out.2.2.2.1, ?_, ?_⟩
     ·rw [<-E.out];exact Dn.nil _ _
     ·rw [<-E.out];exact c4.out.2.2.2.2
    ·subst f3;rw [if_pos rfl] at q;have E:=ae q;clear q;go_wp2_with fail;clear m0 m1 m2 m3 m4 m5 e8 e9 f0;refine Aa (fun w'=>w'.cell? ⟨pz,2,none⟩=some (.pointer (some ⟨ps,0,none⟩))/\w'.cell? ⟨r,1,none⟩=some (.int .u64 (m.e.toNat:Int))/\w'.cell? ⟨r,5,none⟩=some (.slice O n U)) (fun _=>true) (by kernel_rfl) hS (fun c3 => ?_);refine tq 0 (h:=tq 1 (h:=tq 2 (h:=tq 3 (h:=tq 4 (h:=tq 5 (h:=tq 6 (h:=tq 7 (h:=tO 8 (h:=?_)))))))));go_wp2_with fail;refine h2.out.mono ?_;rintro ex u ⟨v6,F,rfl,a5,rfl,pW⟩;have c4:=ae (h7.out u F a5 pW);have b4:=c4.out.1;clear a5 pW c3 hS;go_wp2_with fail;refine ⟨fun _=>b4, ?_⟩;refine tq 9 (h:=tD (h:=?_));clear b4;obtain ⟨b4,b3,f5,h8,h6⟩:=c4.out;have J:aj ai u F u.drew F:=(aj.refl ai u F).drew;obtain ⟨V,hV⟩:=az (u.drew);rw [hV] at J;have d7:=h6.step0 J;have d8:=(J.block _ (au b3) id).trans b3;obtain ⟨-, -, -, -, -,e6⟩:=d7.cell;have f6:=d7.free 6;have q5:V.cell? ⟨r,5,none⟩=some (.slice O n U):=ag d8 5;obtain ⟨h9,f7⟩:=d7.Ag (min z.Ag n);have n4:¬ ak (M+4) 0:=fun h=>by unfold ak at h;omega
     have a7:=ae (aI ((h8.trans (J.mono (T':=KC D M) (fun _ h=>h.elim))).trans (f7.mono (T':=KC D M) (fun k h=>(show KC D M k by cases h;exact KC.own)))) (aI ((f7.block r (au d8) (by rw [f5];exact n4)).trans d8) f5));have j2:=ae h9;have f8:=aI (show V.cell? ⟨pz,6,none⟩=some (.int .i64 (z.Ag:Int)) from e6) q5;rw [<-hV] at f8;have j3:min (z.Ag:Int) (n:Int)=((min z.Ag n:Nat):Int):=om
     have j8:(0:Int)<=(z.Ag:Int)/\(z.Ag:Int)<=256:=by
      have h1:z.Ag<=z.s.kept.lines.length:=c7.out.ok.co;have:=hI.out.2.2.1.n;omega
     have j9:(0:Int)<=(n:Int)/\(n:Int)<=256:=by have:=a6.out.n1;have:=e4.out;omega
     have i0:s'.kept.lines=m.ls:=by rw [j1,IZ j0]
     have i1:=ae i0;clear b4 b3 f5 h8 h6 J d7 d8 h9 f7 n4 i0;go_wp2_with fail;refine Aa (fun w'=>w'.cell? ⟨pz,6,none⟩=some (.int .i64 (z.Ag:Int))/\w'.cell? ⟨r,5,none⟩=some (.slice O n U)) (fun i=>decide (i<11)) (by kernel_rfl) f8 (fun c3 => ?_);rw [hV] at c3 ⊢;clear hV f8;refine tq 0 (h:=tq 1 (h:=tq 2 (h:=tq 3 (h:=tq 4 (h:=tq 5 (h:=tq 6 (h:=tq 7 (h:=tq 8 (h:=tO 9 (h:=?_))))))))));go_wp2_with fail;refine ⟨fun _=>c3, ?_⟩;refine tq 10 (h:=tO 11 (h:=?_));go_wp2_with fail;refine ⟨fun h=>by simp at h, ?_⟩;refine tD (h:=?_);clear e6 f6 q5 j3;have c9:=ae (FD j2.out);go_wp2_with fail;refine c9.out.mono ?_;rintro ex W7 ⟨v7,o7,rfl,a9,rfl,b1⟩;have n4:¬ ak (M+4) 0:=fun h=>by unfold ak at h;omega
     have d1:=(a9.block r (au a7.out.2.1) (by rw [a7.out.2.2];exact n4)).trans a7.out.2.1;have q1:=ag d1 1;simp only [Bf,ay,ax] at q1;have d3:=ae (OY b1 (by show s'.kept.lines.length<=256;rw [i1.out];exact a6.out.n1) (by show small s'.kept.lines;rw [i1.out];exact a6.out.small) m.e a6.out.e1 a6.out.e2 src);have d4:=ae (aI (a7.out.1.trans (a9.mono (T':=KC D M) (fun k h=>(show KC D M k by cases h;exact KC.own)))) b1);clear a9 b1 d1 c9;go_wp2_with fail;refine d3.out.mono ?_;rintro ex W8 ⟨v8,o8,rfl,b2,a3⟩;have hF:=ae (aI (d4.out.1.trans (b2.mono (fun _ h=>h.elim))) (aI a3 (d4.out.2.step0 b2)));obtain ⟨xa,xc,rfl⟩:=a3.form;clear b2 a3 d3;go_wp2_with fail;go_ret;refine ⟨_,o8,rfl,hF.out.1, ?_, ?_⟩
     ·rw [<-E.out,e4.out];exact hF.out.2.1
     ·rw [<-E.out,e4.out];exact hF.out.2.2
end
section
variable (w:World) (p:Option Addr)
theorem gZ:(Instr.typeAssert (.iface 184 (.agg #[])) 138 184 true).run prog w = .ok (.tuple #[.agg #[], .bool true]) w:=by kernel_rfl
theorem gX:(Instr.typeAssert (.iface 201 (.pointer p)) 138 184 true).run prog w = .ok (.tuple #[.agg #[], .bool false]) w:=by kernel_rfl
theorem gY:(Instr.typeAssert (.iface 135 (.pointer p)) 138 184 true).run prog w = .ok (.tuple #[.agg #[], .bool false]) w:=by kernel_rfl
end
section
variable {w:World}{o:Own}{D M pz ps pd K B base:Nat}{z:Am}
theorem VA (h:Bc w o D M pz ps pd z) (hp:Am.NP K B z) (hB:B<=90000) (src:Nat) (h9:src<z.n) (m:BG) (hm:m.May) {lv:Value}(hl:Lines w o base lv m.ls) :
  Calls prog 154 #[.pointer (some ⟨pz,0,none⟩), .int .i64 (src:Int),Ea m lv] w (XL (KC D M) w o fun v w' o'=>Dn w' o' v (Ed (z.CJ src m).2)/\Bc w' o' D M pz ps pd (z.CJ src m).1):=by
 obtain ⟨R,E⟩:=az (z.CJ src m);rw [E];unfold Am.CJ at E;obtain ⟨la,lc,e8⟩:=hl.form;obtain ⟨n,hn⟩:=az (m.ls.length);rw [hn] at e8;subst e8;have a8:z.n<=3:=hp.ok.n3;have a9:1<=z.n:=hp.ok.n1;have J:En B z.s.kept.lines:=hp.ok.ls;have a3:=En.small J om;have U:=(aj.refl ai w o).alloc (.cells (Bf m (.slice la n lc)).toArray 150) (0,0);have Y:=heap_alloc_new w (.cells (Bf m (.slice la n lc)).toArray 150);have b7:=Au o w.heap.size (0,0);generalize Ak o w.heap.size (0,0)=o1 at *;obtain ⟨q,b2⟩:=az (w.alloc (.cells (Bf m (.slice la n lc)).toArray 150));rw [b2] at U Y;have b1:(Instr.box 150 (Ea m (.slice la n lc))).run prog w = .ok (.pointer (some ⟨w.heap.size,0,none⟩)) q:=by rw [<-b2];kernel_rfl
 obtain ⟨F,b8⟩:=az (w.heap.size);rw [b8] at Y b7 b1;have h1:=h.step0 U;have d1:=hl.step U id;obtain ⟨-, -,e2, -⟩:=h1.cell;unfold Ea at b1 ⊢;have xH:=ae b1;obtain ⟨ML,rv,hb,b3,b4⟩:=id h1
 cases a5:z.BB with
 | follows =>
  rw [a5] at E b3;obtain rfl:rv = .iface 184 (.agg #[]):=b3;have e9:=ZI q;have c3:=hb.cells.1.2.2.2.1;have hF:=ae (aI U h1);have KI:=ae E;have q1:=ag (w:=q.drew) Y 1;have b9:q.drew.cell? ⟨F,1,none⟩=some (.int .u64 (m.e.toNat:Int)):=q1;clear hb b4 h1 d1 U Y b7 b2 b8 b1 e2 J a3 a8 a9 a5 E q1;go_enter func154,ntmps154
  go_wp2_with ((with_reducible apply BM);exact xH.out;simp only [Act.put,GL,DL,lss])
  refine Aa (fun w'=>w'.cell? ⟨F,1,none⟩=some (.int .u64 (m.e.toNat:Int))) (fun _=>true) (by kernel_rfl) b9 (fun a2 => ?_);refine tq 0 (h:=tq 1 (h:=ts 2 (h:=ts 3 (h:=ts 4 (h:=ts 5 (h:=ts 6 (h:=ts 7 (h:=ts 8 (h:=tq 9 (h:=tD (h:=?_)))))))))));clear a2 b9;go_wp2_with fail;go_ret;refine ⟨_,o1,rfl,hF.out.1.drew.mono (fun _ h=>h.elim), ?_, ?_⟩
  ·rw [<-KI.out];exact Dn.nil _ _
  ·rw [<-KI.out];exact hF.out.2.step0 (aj.refl ai q o1).drew
 | stands mine has =>
  rw [a5] at E b3;obtain ⟨p,rfl,i0⟩:=b3;clear i0;have e9:=ZG q (some ⟨p,0,none⟩);have c3:=hb.cells.1.2.2.2.1;have hF:=ae (aI U h1);have KI:=ae E;have q1:=ag (w:=q.drew) Y 1;have b9:q.drew.cell? ⟨F,1,none⟩=some (.int .u64 (m.e.toNat:Int)):=q1;clear hb b4 h1 d1 U Y b7 b2 b8 b1 e2 J a3 a8 a9 a5 E q1;go_enter func154,ntmps154
  go_wp2_with ((with_reducible apply BM);exact xH.out;simp only [Act.put,GL,DL,lss])
  refine Aa (fun w'=>w'.cell? ⟨F,1,none⟩=some (.int .u64 (m.e.toNat:Int))) (fun _=>true) (by kernel_rfl) b9 (fun a2 => ?_);refine tq 0 (h:=tq 1 (h:=ts 2 (h:=ts 3 (h:=ts 4 (h:=ts 5 (h:=ts 6 (h:=ts 7 (h:=ts 8 (h:=tq 9 (h:=tD (h:=?_)))))))))));clear a2 b9;go_wp2_with fail;go_ret;refine ⟨_,o1,rfl,hF.out.1.drew.mono (fun _ h=>h.elim), ?_, ?_⟩
  ·rw [<-KI.out];exact Dn.nil _ _
  ·rw [<-KI.out];exact hF.out.2.step0 (aj.refl ai q o1).drew
 | leads mine nR base ready =>
  rw [a5] at E b3;obtain ⟨p,rfl,f0⟩:=b3;have d7:GV q o1 D M pz ps pd p z mine nR base ready:=⟨ML,hb,f0,b4⟩;have yS:=hp.ok.ro;rw [show z.BN.BB=z.BB from rfl,a5] at yS;obtain ⟨-,a4,b5⟩:=yS;have a4:nR.length=z.n:=a4;have b5:∀ x ∈ nR, -1<=x/\x<=(z.s.kept.lines.length:Int):=b5;obtain ⟨b,cap,c0,f1,hr,wR,f2,f3⟩:=f0;have e9:=ZH q (some ⟨p,0,none⟩);have c3:=hb.cells.1.2.2.2.1;have q1:=ag (w:=q.drew) Y 1;have p0:=ag (w:=q.drew) c0 0;simp only [ay] at p0;have c4:=aI (show q.drew.cell? ⟨F,1,none⟩=some (.int .u64 (m.e.toNat:Int)) from q1) p0;simp only at E
  by_cases a6:mine=m.e
  ·rw [if_pos a6] at E;have i1:(mine.toNat:Int)=(m.e.toNat:Int):=by rw [a6]
   obtain ⟨V,hV⟩:=az (q.drew);obtain ⟨V2,d3⟩:=az (V.drew);have k1:aj ai q o1 V2 o1:=by rw [<-d3, <-hV];exact (aj.refl ai q o1).drew.drew
   have zX:=d7.step k1 (fun t h=>h.elim);have b6:=(k1.block F (au Y) id).trans Y;have c6:=U.trans k1;obtain ⟨x,hx⟩:=az (nR.getD src 0);obtain ⟨nn,c7⟩:=az (nR.length);have a7:src<nR.length:=by rw [a4];exact h9
   have d8:∀ (W:World) (O:Own),aj ai V2 o1 W O->(W.cell? ⟨F,1,none⟩=some (.int .u64 (m.e.toNat:Int))/\W.cell? ⟨F,3,none⟩=some (.int .i64 (m.at':Int))/\W.cell? ⟨pz,2,none⟩=some (.pointer (some ⟨ps,0,none⟩))/\W.cell? ⟨p,1,none⟩=some (.slice (some ⟨b,0,none⟩) nn cap)/\W.cell? ⟨b,src,none⟩=some (.int .i64 x)):=by
    intro W O hJ;have f4:=(hJ.block F (au b6) id).trans b6;have hk:=k1.trans hJ;have e2:=(hb.step hk id).cells.1.2.2.1;have g1:=ag ((hk.block p (au c0) id).trans c0) 1;simp only [ay,ax] at g1;rw [c7] at g1;have g2:=ag ((hk.block b (au hr) id).trans hr) src;refine ⟨ag f4 1,ag f4 3,e2,g1, ?_⟩;rw [g2];rw [List.getD_eq_getElem?_getD,List.getElem?_eq_getElem a7] at hx;simp only [Option.getD_some] at hx;simp [ivs,List.getElem?_eq_getElem a7,hx]
   have f5:=ae (DJ (b4.step0 k1) a3);obtain ⟨L,hL⟩:=az (z.s.kept.lines.length);obtain ⟨mn,f6⟩:=az (min m.at' L);have j5:min (m.at':Int) (L:Int)=(mn:Int):=om
   obtain ⟨y,hy⟩:=az (max x (mn:Int));have f7:(z.count m.e (nR.set src y) base ready,[])=R:=by rw [<-E,hx,hL,f6,hy,a6]
   have f8:x ∈ nR:=by rw [<-hx,List.getD_eq_getElem?_getD,List.getElem?_eq_getElem a7];exact List.getElem_mem a7
   have i2:=b5 x f8;have i3:=J.n;have c8:∀ u ∈ nR.set src y, -1<=u/\u<=256:=by
    intro u hu
    rcases List.mem_or_eq_of_mem_set hu with h | h
    ·have:=b5 u h;omega
    ·rw [h, <-hy];omega
   have KI:=ae f7;have WV:=ae d8;have d9:=d8 V2 o1 (aj.refl _ _ _);have i4:V.cell? ⟨F,1,none⟩=some (.int .u64 (m.e.toNat:Int))/\V.cell? ⟨p,0,none⟩=some (.int .u64 (mine.toNat:Int)):=by rw [<-hV];exact c4
   have i5:=ae (aI zX (aI b6 c6));have j6:(0:Int)<=(src:Int)/\(src:Int)<(nn:Int):=om
   have i6:=ae (aI a4 (aI a7 (aI c7 (aI c8 (aI a9 (aI a8 (aI J a3)))))));have f9:z.Ag<=z.s.kept.lines.length:=hp.ok.co;have g0:z.id<z.n:=hp.ok.id;have g3:=ae (aI f9 g0);have i7:=ae hL;have j7:=ae ML;have j8:(0:Int)<=(m.at':Int)/\(m.at':Int)<=256:=by have:=hm.a1;omega
   have j9:(0:Int)<=(L:Int)/\(L:Int)<=256:=om
   have k3 : -1<=x/\x<=256:=om
   rw [<-d3] at d9;have i8:=ae a6;clear hb b4 h1 d1 U Y b7 b2 b8 b1 e2 J a3 a8 a9 a5 E q1 p0 d7 c0 f1 hr wR f2 f3 a6 b5 a4 d8 k1 zX b6 c6 hx c7 a7 f6 f7 f8 i2 i3 c8 f9 g0 hL ML;go_enter func154,ntmps154
   go_wp2_with ((with_reducible apply BM);exact xH.out;simp only [Act.put,GL,DL,lss])
   refine Aa (fun w'=>w'.cell? ⟨F,1,none⟩=some (.int .u64 (m.e.toNat:Int))/\w'.cell? ⟨p,0,none⟩=some (.int .u64 (mine.toNat:Int))) (fun _=>true) (by kernel_rfl) c4 (fun a2 => ?_);rw [hV] at a2 ⊢;refine tq 0 (h:=tq 1 (h:=tq 2 (h:=tq 3 (h:=tq 4 (h:=tq 5 (h:=tq 6 (h:=tq 7 (h:=tq 8 (h:=tq 9 (h:=tD (h:=?_)))))))))));clear a2 c4 i4 hV;go_wp2_with fail;refine Aa (fun w'=>w'.cell? ⟨F,1,none⟩=some (.int .u64 (m.e.toNat:Int))/\w'.cell? ⟨F,3,none⟩=some (.int .i64 (m.at':Int))/\w'.cell? ⟨pz,2,none⟩=some (.pointer (some ⟨ps,0,none⟩))/\w'.cell? ⟨p,1,none⟩=some (.slice (some ⟨b,0,none⟩) nn cap)/\w'.cell? ⟨b,src,none⟩=some (.int .i64 x)) (fun i=>decide (i<24)) (by kernel_rfl) d9 (fun a2 => ?_);rw [d3] at a2 ⊢;clear d3 d9;refine tq 0 (h:=tq 1 (h:=tq 2 (h:=tq 3 (h:=tq 4 (h:=tq 5 (h:=tq 6 (h:=tq 7 (h:=tq 8 (h:=tq 9 (h:=tq 10 (h:=tq 11 (h:=tq 12 (h:=tq 13 (h:=?_))))))))))))));refine tq 14 (h:=tq 15 (h:=tq 16 (h:=tq 17 (h:=tO 18 (h:=?_)))));go_wp2_with fail;refine f5.out.mono ?_;rintro ex W9 ⟨v9,o9,rfl,d4,k7,rfl,g4,rfl⟩;obtain ⟨i9,j0,rfl⟩:=g4.form;rw [i7.out];obtain ⟨zX,b6,c6⟩:=i5.out;have j1:=zX.step d4 (fun t h=>h.elim);obtain ⟨e0,d5,⟨b',k8,e3,d6,e4,c9,g5,g6⟩,wL⟩:=j1;have e5:=WV.out W9 _ d4;have e1:=ag e3 1;simp only [ay,ax] at e1;rw [e5.2.2.2.1] at e1;simp only [Option.some.injEq,Value.slice.injEq,Addr.mk.injEq,and_true] at e1;obtain ⟨rfl, -,rfl⟩:=e1;have e6:=(aj.refl (ak (M+4)) W9 (ext V2 o1)).setCell (a:=⟨b,src,none⟩) (.int .i64 y) (.inl (by show (ext V2 o1 b).1=_;rw [c9]));have e7:=Ai (i:=src) (.int .i64 y) e4;rw [XP] at e7;have g7:p ≠ b:=fun h=>by rw [h,c9] at d6;cases d6
   have g8:pz ≠ b:=fun h=>by have:=d5.2;rw [h,c9] at this;cases this
   have g9:=(Below.heap_setCell W9 ⟨b,src,none⟩ (.int .i64 y) p g7).trans e3;have h2:GK (W9.setCell ⟨b,src,none⟩ (.int .i64 y)) (ext V2 o1) (M+4) pz ps (.iface 135 (.pointer (some ⟨p,0,none⟩))) z:=⟨(Below.heap_setCell W9 ⟨b,src,none⟩ (.int .i64 y) pz g8).trans d5.1,d5.2⟩;have h3:GV (W9.setCell ⟨b,src,none⟩ (.int .i64 y)) (ext V2 o1) D M pz ps pd p z mine (nR.set src y) base ready:=⟨e0,h2,⟨b,cap,by rw [List.length_set];exact g9,d6,e7,c9,by rw [List.length_set];exact g5,g6⟩,wL.step e6 (KC.self e0.1)⟩;obtain ⟨a4,a7,c7,c8,a9,a8,J,a3⟩:=i6.out;have h5:=ae (count_any h3 a3 J.n (by rw [List.length_set];omega) (by rw [List.length_set];omega) (by rw [List.length_set,a4];exact g3.out.2) c8 (by have:=g3.out.1;have:=J.n;omega));have fb:=Ap e4 src;have cb:=e5.2.2.2.2;have j2:=ae ((c6.trans d4).mono (T':=KC D M) (fun _ h=>h.elim) |>.trans (e6.mono (T':=KC D M) (fun k h=>(show KC D M k by cases h;exact KC.own))));have j3:=fun W=>He W (.int .u64 (z.s.kept.promised.toNat:Int)) (.int .u64 (z.s.kept.current.toNat:Int)) (.slice i9 L j0);unfold Dy;clear d4 g4 zX b6 c6 e0 d5 e3 d6 e4 c9 g5 g6 wL e6 e7 g7 g8 g9 h2 h3 a4 a7 c7 c8 a9 a8 J a3 f5 a2;go_wp2_with fail;refine ⟨fun _=>e5, ?_⟩;refine tq 19 (h:=tq 20 (h:=tq 21 (h:=tq 22 (h:=tq 23 (h:=tO 24 (h:=?_))))));go_wp2_with fail;refine ⟨fun h=>by simp at h, ?_⟩;refine tD (h:=?_);clear cb fb j3;go_wp2_with fail;refine h5.out.mono ?_;rintro ex k9 ⟨l0,j4,rfl,h6,rfl,r,h7,h8⟩;have hF:=ae (aI (j2.out.trans (h6.mono (T':=KC D M) (fun k h=>(show KC D M k by cases h;exact KC.own)))) (h8.node h7));clear h6 h7 h8 h5;go_wp2_with fail;go_ret;refine ⟨_,j4,rfl,hF.out.1, ?_, ?_⟩
   ·rw [<-KI.out];exact Dn.nil _ _
   ·rw [<-KI.out];have h:=hF.out.2;rw [i8.out] at h;exact h
  ·rw [if_neg a6] at E;have i1:¬ (mine.toNat:Int)=(m.e.toNat:Int):=fun h=>a6 (BitVec.eq_of_toNat_eq om);have hF:=ae (aI U h1);have KI:=ae E;clear hb b4 h1 d1 U Y b7 b2 b8 b1 e2 J a3 a8 a9 a5 E q1 p0 d7 c0 f1 hr wR f2 f3 a6 b5 a4;go_enter func154,ntmps154
   go_wp2_with ((with_reducible apply BM);exact xH.out;simp only [Act.put,GL,DL,lss])
   refine Aa (fun w'=>w'.cell? ⟨F,1,none⟩=some (.int .u64 (m.e.toNat:Int))/\w'.cell? ⟨p,0,none⟩=some (.int .u64 (mine.toNat:Int))) (fun _=>true) (by kernel_rfl) c4 (fun a2 => ?_);refine tq 0 (h:=tq 1 (h:=tq 2 (h:=tq 3 (h:=tq 4 (h:=tq 5 (h:=tq 6 (h:=tq 7 (h:=tq 8 (h:=tq 9 (h:=tD (h:=?_)))))))))));clear a2 c4;go_wp2_with fail;go_ret;refine ⟨_,o1,rfl,hF.out.1.drew.mono (fun _ h=>h.elim), ?_, ?_⟩
   ·rw [<-KI.out];exact Dn.nil _ _
   ·rw [<-KI.out];exact hF.out.2.step0 (aj.refl ai q o1).drew
end
theorem Xf {w:World}{p:Nat}{mine:BitVec 64}(h:w.cell? ⟨p,0,none⟩=some (.int .u64 (mine.toNat:Int))):Calls prog 311 #[.pointer (some ⟨p,0,none⟩)] w fun e w'=>e = .returned (.int .u64 (mine.toNat:Int))/\w=w':=by
 go_enter func311,ntmps311;go_wp2_with fail;go_ret;exact ⟨rfl,rfl⟩
theorem WP {w:World}{p:Nat}{mine:BitVec 64}(h:w.cell? ⟨p,0,none⟩=some (.int .u64 (mine.toNat:Int))):Calls prog 313 #[.pointer (some ⟨p,0,none⟩)] w fun e w'=>e = .returned (.int .u64 (mine.toNat:Int))/\w=w':=by
 go_enter func313,ntmps313;go_wp2_with fail;go_ret;exact ⟨rfl,rfl⟩
section
variable {w:World}{o:Own}{D M pz ps pd K B base:Nat}{z:Am}
theorem PX (h:Bc w o D M pz ps pd z) (hp:Am.NP K B z) (hB:B<=90000) (src:Nat) (m:BG) (_d9:m.May) {lv:Value}(hl:Lines w o base lv m.ls) :
  Calls prog 151 #[.pointer (some ⟨pz,0,none⟩), .int .i64 (src:Int),Ea m lv] w (XL (KC D M) w o fun v w' o'=>Dn w' o' v (Ed (z.Cj m).2)/\Bc w' o' D M pz ps pd (z.Cj m).1):=by
 obtain ⟨R,hR⟩:=az (z.Cj m);rw [hR];unfold Am.Cj at hR;obtain ⟨la,lc,d7⟩:=hl.form;obtain ⟨n,hn⟩:=az (m.ls.length);rw [hn] at d7;subst d7;have c7:z.n<=3:=hp.ok.n3;have c8:1<=z.n:=hp.ok.n1;have c0:En B z.s.kept.lines:=hp.ok.ls;have c9:=En.small c0 om;have s1:=(aj.refl ai w o).alloc (.cells (Bf m (.slice la n lc)).toArray 150) (0,0);have U:=heap_alloc_new w (.cells (Bf m (.slice la n lc)).toArray 150);have c4:=Au o w.heap.size (0,0);generalize Ak o w.heap.size (0,0)=o1 at *;obtain ⟨E,b3⟩:=az (w.alloc (.cells (Bf m (.slice la n lc)).toArray 150));rw [b3] at s1 U;have a9:(Instr.box 150 (Ea m (.slice la n lc))).run prog w = .ok (.pointer (some ⟨w.heap.size,0,none⟩)) E:=by rw [<-b3];kernel_rfl
 obtain ⟨W,c6⟩:=az (w.heap.size);rw [c6] at U c4 a9;have h1:=h.step0 s1;have d1:=hl.step s1 id;obtain ⟨-, -,e2, -⟩:=h1.cell;unfold Ea at a9 ⊢;have xH:=ae a9;obtain ⟨ML,rv,hb,b1,d3⟩:=id h1;have a3:z.BN.follows=(match z.BB with | .follows=>true | _=>false):=rfl
 have a4:z.BN.mine=(match z.BB with | .follows=>0 | .stands e _=>e | .leads e _ _ _=>e):=rfl
 cases b2:z.BB with
 | follows =>
  rw [b2] at b1 a3 a4;obtain rfl:rv = .iface 184 (.agg #[]):=b1;have d8:=gZ E;have c3:=hb.cells.1.2.2.2.1;have k2:=(aj.refl ai E o1).alloc (.cells [].toArray 184) (0,0);generalize Ak o1 E.heap.size (0,0)=o2 at *;obtain ⟨V,r⟩:=az ((E.alloc (.cells [].toArray 184)).drew);have q:aj ai E o1 V o2:=by rw [<-r];exact k2.drew
  have hN:=h1.step0 q;have a5:=(q.block W (au U) id).trans U;have a6:=hb.step q id;have J:V.cell? ⟨W,1,none⟩=some (.int .u64 (m.e.toNat:Int)):=ag a5 1;rw [<-r] at J;have F:(z,[])=R:=by rw [<-hR,a3];rfl
  have O:=ae F;have hF:=ae (aI (s1.trans q) hN);clear hb d3 d1 s1 U c4 b3 c6 a9 e2 c0 c9 c7 c8 k2 q hN a5 a6 h1 b2 hR F a3 a4;go_enter func151,ntmps151
  go_wp2_with ((with_reducible apply BM);exact xH.out;simp only [Act.put,GL,DL,lss])
  refine Aa (fun w'=>w'.cell? ⟨W,1,none⟩=some (.int .u64 (m.e.toNat:Int))) (fun _=>true) (by kernel_rfl) J (fun u => ?_);rw [r] at u ⊢;clear r J;refine tq 0 (h:=tq 1 (h:=tq 2 (h:=ts 3 (h:=ts 4 (h:=ts 5 (h:=ts 6 (h:=ts 7 (h:=ts 8 (h:=ts 9 (h:=ts 10 (h:=tq 11 (h:=tD (h:=?_)))))))))))));clear u;go_wp2_with fail;go_ret;refine ⟨_,o2,rfl,hF.out.1.mono (fun _ h=>h.elim), ?_, ?_⟩
  ·rw [<-O.out];exact Dn.nil _ _
  ·rw [<-O.out];exact hF.out.2
 | stands mine has =>
  rw [b2] at b1 a3 a4;obtain ⟨p,rfl,mk,a7,d4,d5⟩:=b1;have d8:=gX E (some ⟨p,0,none⟩);have c3:=hb.cells.1.2.2.2.1;have k2:=(aj.refl ai E o1).alloc (.cells [].toArray 184) (0,0);generalize Ak o1 E.heap.size (0,0)=o2 at *;obtain ⟨V,r⟩:=az ((E.alloc (.cells [].toArray 184)).drew);have q:aj ai E o1 V o2:=by rw [<-r];exact k2.drew
  have hN:=h1.step0 q;have a5:=(q.block W (au U) id).trans U;have a6:=hb.step q id;have p0:=ag ((q.block p (au a7) id).trans a7) 0;simp only [ay] at p0;have J:=aI (show V.cell? ⟨W,1,none⟩=some (.int .u64 (m.e.toNat:Int)) from ag a5 1) (aI a6.cells.1.2.2.2.1 p0);have b4:=ae (WP p0);rw [<-r] at J;have F:(if mine.toNat<m.e.toNat then z.follow else z,[])=R:=by
   rw [<-hR,a3,a4]
   by_cases h:mine.toNat<m.e.toNat <;> simp [h]
  have hF:=ae (aI (s1.trans q) hN);have b5:=ae (FD hN);clear hb d3 d1 s1 U c4 b3 c6 a9 e2 c0 c9 c7 c8 k2 q hN a5 a6 h1 b2 hR a3 a4 p0 a7 d4 d5
  by_cases b6:mine.toNat<m.e.toNat
  ·rw [if_pos b6] at F;have O:=ae F;have d6:(mine.toNat:Int)<(m.e.toNat:Int):=om
   clear F;go_enter func151,ntmps151
   go_wp2_with ((with_reducible apply BM);exact xH.out;simp only [Act.put,GL,DL,lss])
   refine Aa (fun w'=>w'.cell? ⟨W,1,none⟩=some (.int .u64 (m.e.toNat:Int))/\w'.cell? ⟨pz,3,none⟩=some (.iface 201 (.pointer (some ⟨p,0,none⟩)))/\w'.cell? ⟨p,0,none⟩=some (.int .u64 (mine.toNat:Int))) (fun _=>true) (by kernel_rfl) J (fun u => ?_);rw [r] at u ⊢;clear r J;refine tq 0 (h:=tq 1 (h:=tq 2 (h:=tq 3 (h:=tq 4 (h:=tq 5 (h:=tq 6 (h:=tq 7 (h:=tq 8 (h:=tO 9 (h:=?_))))))))));go_wp2_with fail;generalize Y:Sem.run prog (method _ _ _ _) V=a8;have a2:a8 = .ok (313, .pointer (some ⟨p,0,none⟩)) V:=by rw [<-Y];kernel_rfl
   rw [a2];clear Y a2;go_wp2_with fail;refine b4.out.mono ?_;rintro ex w' ⟨rfl,rfl⟩;go_wp2_with fail;refine ⟨fun _=>u, ?_⟩;refine tq 10 (h:=tq 11 (h:=tD (h:=?_)));clear u;go_wp2_with fail;refine b5.out.mono ?_;rintro ex W7 ⟨v7,o7,rfl,b7,rfl,b8⟩;have b9:=ae (aI ((hF.out.1.mono (T':=KC D M) (fun _ h=>h.elim)).trans (b7.mono (T':=KC D M) (fun k h=>(show KC D M k by cases h;exact KC.own)))) b8);clear b7 b8;go_wp2_with fail;go_ret;refine ⟨_,o7,rfl,b9.out.1, ?_, ?_⟩
   ·rw [<-O.out];exact Dn.nil _ _
   ·rw [<-O.out];exact b9.out.2
  ·rw [if_neg b6] at F;have O:=ae F;have d6:¬ (mine.toNat:Int)<(m.e.toNat:Int):=om
   clear F b5;go_enter func151,ntmps151
   go_wp2_with ((with_reducible apply BM);exact xH.out;simp only [Act.put,GL,DL,lss])
   refine Aa (fun w'=>w'.cell? ⟨W,1,none⟩=some (.int .u64 (m.e.toNat:Int))/\w'.cell? ⟨pz,3,none⟩=some (.iface 201 (.pointer (some ⟨p,0,none⟩)))/\w'.cell? ⟨p,0,none⟩=some (.int .u64 (mine.toNat:Int))) (fun _=>true) (by kernel_rfl) J (fun u => ?_);rw [r] at u ⊢;clear r J;refine tq 0 (h:=tq 1 (h:=tq 2 (h:=tq 3 (h:=tq 4 (h:=tq 5 (h:=tq 6 (h:=tq 7 (h:=tq 8 (h:=tO 9 (h:=?_))))))))));go_wp2_with fail;generalize Y:Sem.run prog (method _ _ _ _) V=a8;have a2:a8 = .ok (313, .pointer (some ⟨p,0,none⟩)) V:=by rw [<-Y];kernel_rfl
   rw [a2];clear Y a2;go_wp2_with fail;refine b4.out.mono ?_;rintro ex w' ⟨rfl,rfl⟩;go_wp2_with fail;refine ⟨fun _=>u, ?_⟩;refine tq 10 (h:=tq 11 (h:=tD (h:=?_)));clear u;go_wp2_with fail;go_ret;refine ⟨_,o2,rfl,hF.out.1.mono (fun _ h=>h.elim), ?_, ?_⟩
   ·rw [<-O.out];exact Dn.nil _ _
   ·rw [<-O.out];exact hF.out.2
 | leads mine nR e0 ready =>
  rw [b2] at b1 a3 a4;obtain ⟨p,rfl,bk,cap,a7,d4,d5⟩:=b1;have d8:=gY E (some ⟨p,0,none⟩);have c3:=hb.cells.1.2.2.2.1;have k2:=(aj.refl ai E o1).alloc (.cells [].toArray 184) (0,0);generalize Ak o1 E.heap.size (0,0)=o2 at *;obtain ⟨V,r⟩:=az ((E.alloc (.cells [].toArray 184)).drew);have q:aj ai E o1 V o2:=by rw [<-r];exact k2.drew
  have hN:=h1.step0 q;have a5:=(q.block W (au U) id).trans U;have a6:=hb.step q id;have p0:=ag ((q.block p (au a7) id).trans a7) 0;simp only [ay] at p0;have J:=aI (show V.cell? ⟨W,1,none⟩=some (.int .u64 (m.e.toNat:Int)) from ag a5 1) (aI a6.cells.1.2.2.2.1 p0);have b4:=ae (Xf p0);rw [<-r] at J;have F:(if mine.toNat<m.e.toNat then z.follow else z,[])=R:=by
   rw [<-hR,a3,a4]
   by_cases h:mine.toNat<m.e.toNat <;> simp [h]
  have hF:=ae (aI (s1.trans q) hN);have b5:=ae (FD hN);clear hb d3 d1 s1 U c4 b3 c6 a9 e2 c0 c9 c7 c8 k2 q hN a5 a6 h1 b2 hR a3 a4 p0 a7 d4 d5
  by_cases b6:mine.toNat<m.e.toNat
  ·rw [if_pos b6] at F;have O:=ae F;have d6:(mine.toNat:Int)<(m.e.toNat:Int):=om
   clear F;go_enter func151,ntmps151
   go_wp2_with ((with_reducible apply BM);exact xH.out;simp only [Act.put,GL,DL,lss])
   refine Aa (fun w'=>w'.cell? ⟨W,1,none⟩=some (.int .u64 (m.e.toNat:Int))/\w'.cell? ⟨pz,3,none⟩=some (.iface 135 (.pointer (some ⟨p,0,none⟩)))/\w'.cell? ⟨p,0,none⟩=some (.int .u64 (mine.toNat:Int))) (fun _=>true) (by kernel_rfl) J (fun u => ?_);rw [r] at u ⊢;clear r J;refine tq 0 (h:=tq 1 (h:=tq 2 (h:=tq 3 (h:=tq 4 (h:=tq 5 (h:=tq 6 (h:=tq 7 (h:=tq 8 (h:=tO 9 (h:=?_))))))))));go_wp2_with fail;generalize Y:Sem.run prog (method _ _ _ _) V=a8;have a2:a8 = .ok (311, .pointer (some ⟨p,0,none⟩)) V:=by rw [<-Y];kernel_rfl
   rw [a2];clear Y a2;go_wp2_with fail;refine b4.out.mono ?_;rintro ex w' ⟨rfl,rfl⟩;go_wp2_with fail;refine ⟨fun _=>u, ?_⟩;refine tq 10 (h:=tq 11 (h:=tD (h:=?_)));clear u;go_wp2_with fail;refine b5.out.mono ?_;rintro ex W7 ⟨v7,o7,rfl,b7,rfl,b8⟩;have b9:=ae (aI ((hF.out.1.mono (T':=KC D M) (fun _ h=>h.elim)).trans (b7.mono (T':=KC D M) (fun k h=>(show KC D M k by cases h;exact KC.own)))) b8);clear b7 b8;go_wp2_with fail;go_ret;refine ⟨_,o7,rfl,b9.out.1, ?_, ?_⟩
   ·rw [<-O.out];exact Dn.nil _ _
   ·rw [<-O.out];exact b9.out.2
  ·rw [if_neg b6] at F;have O:=ae F;have d6:¬ (mine.toNat:Int)<(m.e.toNat:Int):=om
   clear F b5;go_enter func151,ntmps151
   go_wp2_with ((with_reducible apply BM);exact xH.out;simp only [Act.put,GL,DL,lss])
   refine Aa (fun w'=>w'.cell? ⟨W,1,none⟩=some (.int .u64 (m.e.toNat:Int))/\w'.cell? ⟨pz,3,none⟩=some (.iface 135 (.pointer (some ⟨p,0,none⟩)))/\w'.cell? ⟨p,0,none⟩=some (.int .u64 (mine.toNat:Int))) (fun _=>true) (by kernel_rfl) J (fun u => ?_);rw [r] at u ⊢;clear r J;refine tq 0 (h:=tq 1 (h:=tq 2 (h:=tq 3 (h:=tq 4 (h:=tq 5 (h:=tq 6 (h:=tq 7 (h:=tq 8 (h:=tO 9 (h:=?_))))))))));go_wp2_with fail;generalize Y:Sem.run prog (method _ _ _ _) V=a8;have a2:a8 = .ok (311, .pointer (some ⟨p,0,none⟩)) V:=by rw [<-Y];kernel_rfl
   rw [a2];clear Y a2;go_wp2_with fail;refine b4.out.mono ?_;rintro ex w' ⟨rfl,rfl⟩;go_wp2_with fail;refine ⟨fun _=>u, ?_⟩;refine tq 10 (h:=tq 11 (h:=tD (h:=?_)));clear u;go_wp2_with fail;go_ret;refine ⟨_,o2,rfl,hF.out.1.mono (fun _ h=>h.elim), ?_, ?_⟩
   ·rw [<-O.out];exact Dn.nil _ _
   ·rw [<-O.out];exact hF.out.2
end

end Go.Proofs.YtffkdillijmamaaGreat
