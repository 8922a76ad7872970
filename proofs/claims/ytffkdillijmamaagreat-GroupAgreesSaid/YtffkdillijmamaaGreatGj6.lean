/- Contract of the store's write: a record, or, if there is no room, all anew in the other area. -/
import Derived.Test.YtffkdillijmamaaGreatGj5
namespace Go.Proofs.YtffkdillijmamaaGreat
open Go.Proofs.Tryz
set_option maxRecDepth 100000
set_option maxHeartbeats 12800000
open Go Go.RowKit
attribute [local go_sem ↓] Go.wp_at_zero Go.wp_at_succ
theorem Ri (S:BitVec 64):IntKind.u64.wrap ((S.toNat:Int)+1)=((S+1#64).toNat:Int):=by
 rw [BitVec.toNat_add];simp [IntKind.wrap,IntKind.bits,IntKind.signed]
theorem Rh (S:BitVec 64):((S.toNat:Int)+1) % 18446744073709551616=((S+1#64).toNat:Int):=by
 rw [BitVec.toNat_add];simp
def AZ.write (rec:List UInt8) (now:AX) (s:AZ):AZ × Int:=
 if 0<s.age.toNat/\rec.length<=s.cur.room then
  if (Ad.Ag rec (s.cur,s.d)).2 ≠ 0 then ({ s with cur:=(Ad.Ag rec (s.cur,s.d)).1.1,d:=(Ad.Ag rec (s.cur,s.d)).1.2,dead:=true },9)
  else ({ s with cur:=(Ad.Ag rec (s.cur,s.d)).1.1,d:=(Ad.Ag rec (s.cur,s.d)).1.2,kept:=now },0)
 else if 480*(s.pages - 1)<(IY (s.age+1#64) now.promised now.current now.lines).length then (s,4)
 else if (Ad.reset (s.Us,s.d)).2 ≠ 0 then ({ s with Us:=(Ad.reset (s.Us,s.d)).1.1,d:=(Ad.reset (s.Us,s.d)).1.2,dead:=true },9)
 else if (Ad.Ag (IY (s.age+1#64) now.promised now.current now.lines) (Ad.reset (s.Us,s.d)).1).2 ≠ 0 then
  ({ s with Us:=(Ad.Ag (IY (s.age+1#64) now.promised now.current now.lines) (Ad.reset (s.Us,s.d)).1).1.1,d:=(Ad.Ag (IY (s.age+1#64) now.promised now.current now.lines) (Ad.reset (s.Us,s.d)).1).1.2,dead:=true },9)
 else ({ s with cur:=(Ad.Ag (IY (s.age+1#64) now.promised now.current now.lines) (Ad.reset (s.Us,s.d)).1).1.1,Us:=s.cur,d:=(Ad.Ag (IY (s.age+1#64) now.promised now.current now.lines) (Ad.reset (s.Us,s.d)).1).1.2,age:=s.age+1#64,kept:=now },0)
theorem Ad.Yy (s:Ad × Af):(Ad.reset s).1.2.row.length<=s.2.row.length+1:=by
 have h:=(Ad.RJ s).2;unfold Ad.reset Ad.alive;split
 ·exact Nat.le_succ _
 ·unfold Ad.steps;split
  ·exact h
  ·unfold Ad.steps;simp only [Ad.Hr,ne_eq,not_true_eq_false,if_false,Ad.steps];exact h
def Wrote (S A B D ps pd base nb:Nat) (Q:AZ × Int) (v:Value) (w':World) (o':Own):Prop:=v = .int .i64 Q.2/\Bi w' o' S A B D ps pd (if Q.2=0 then nb else base) Q.1
structure Qw (S A B D:Nat):Prop where
 s0:S ≠ 0
 a0:A ≠ 0
 b0:B ≠ 0
 d0:D ≠ 0
 sa:S ≠ A
 sb:S ≠ B
 sd:S ≠ D
 ab:A ≠ B
 ad:A ≠ D
 bd:B ≠ D
theorem Qw.perm {S A B D X Y:Nat}(h:Qw S A B D) (hp:(X=A/\Y=B) \/ (X=B/\Y=A)):Qw S X Y D:=by
 obtain ⟨q,r,u,h4,E,F,J,O,U,W⟩:=h
 rcases hp with ⟨rfl,rfl⟩ | ⟨rfl,rfl⟩
 ·exact ⟨q,r,u,h4,E,F,J,O,U,W⟩
 ·exact ⟨q,u,r,h4,F,E,J,fun h=>O h.symm,W,U⟩
theorem qG.perm {S A B D X Y t:Nat}(hp:(X=A/\Y=B) \/ (X=B/\Y=A)) (h:qG S X Y D t):qG S A B D t:=by
 rcases hp with ⟨rfl,rfl⟩ | ⟨rfl,rfl⟩
 ·exact h
 ·rcases h with h | h | h | h
  ·exact .inl h
  ·exact .inr (.inr (.inl h))
  ·exact .inr (.inl h)
  ·exact .inr (.inr (.inr h))
section
variable {w:World}{o:Own}{S ps pd pa pb k:Nat}{kv:Value}{s:AZ}
theorem DF.DC (h:DF w o S ps pd pa pb k kv s) (i:Nat) (v:Value):aj (ak S) w o (w.setCell ⟨ps,i,none⟩ v) o:=by
 obtain ⟨r,u,E,F,q⟩:=h;exact (aj.refl _ w o).setCell v (.inl (by show (o ps).1=S;rw [q]))
theorem DF.Ik (h:DF w o S ps pd pa pb k kv s) (b:Bool):DF (w.setCell ⟨ps,9,none⟩ (.bool b)) o S ps pd pa pb k kv { s with dead:=b }:=by
 obtain ⟨q,r,u,E,F⟩:=h;exact ⟨q,r,Ai (i:=9) _ u,E,F⟩
theorem DF.swap (h:DF w o S ps pd pa pb k kv s) (age:BitVec 64):DF ((w.setCell ⟨ps,4,none⟩ (.int .i64 ((1 - k:Nat):Int))).setCell ⟨ps,5,none⟩ (.int .u64 (age.toNat:Int))) o S ps pd pb pa (1 - k) kv { s with age:=age }:=by
 obtain ⟨q,r,u,E,F⟩:=h;refine ⟨q,r,Ai (i:=5) _ (Ai (i:=4) _ u), ?_,F⟩
 rcases E with ⟨rfl,rfl,rfl⟩ | ⟨rfl,rfl,rfl⟩
 ·exact .inr ⟨rfl,rfl,rfl⟩
 ·exact .inl ⟨rfl,rfl,rfl⟩
theorem DF.SI (h:DF w o S ps pd pa pb k kv s) (q:AX) (nv:Value) (E:∃ a n c,nv = .slice a n c) :
  DF (w.setCells ps 6 [.int .u64 (q.promised.toNat:Int), .int .u64 (q.current.toNat:Int),nv]) o S ps pd pa pb k nv { s with kept:=q } /\
  (Instr.storeAt 37 (.pointer (some ⟨ps,6,none⟩)) (Dy q.promised q.current nv)).run prog w = .ok () (w.setCells ps 6 [.int .u64 (q.promised.toNat:Int), .int .u64 (q.current.toNat:Int),nv]) /\
  aj (ak S) w o (w.setCells ps 6 [.int .u64 (q.promised.toNat:Int), .int .u64 (q.current.toNat:Int),nv]) o:=by
 obtain ⟨F,J,r,O,u⟩:=h;refine ⟨⟨F,J, ?_,O,u⟩, ?_,(aj.refl (ak S) w o).setCells ps 6 _ (.inl (by rw [u];rfl))⟩
 ·exact BP ps 165 _ 6 w _ r (by simp [storeCells])
 ·exact run_storeAt_mid w ps 6 37 #[.int .u64 (q.promised.toNat:Int), .int .u64 (q.current.toNat:Int),nv] (Dh r 6 3 (by simp [storeCells])) Ij (by obtain ⟨a,n,c,rfl⟩:=E;simp [Value.oneCell'])
end
theorem Lj {w:World}{o:Own}{S A B D ps pd base nb:Nat}{s:AZ}(ht:Qw S A B D) (h:Bi w o S A B D ps pd base s) (n4:s.d.row.length<=600000) (n5:1<=s.pages/\s.pages<=4096) (rv:Value) (b6:List UInt8) (hr:Bytes w o rv b6) (j0:capLe rv) (h2:1<=b6.length) (h3:b6.length<=4000000)
  (r:AX) (nv:Value) (tY:Lines w o nb nv r.lines) (j1:small r.lines) :
  Calls prog 131 #[.pointer (some ⟨ps,0,none⟩),rv,Dy r.promised r.current nv] w (XL (qG S A B D) w o fun v w' o'=>Wrote S A B D ps pd base nb (s.write b6 r) v w' o'):=by
 obtain ⟨X,Y,pa,pb,k,kv,hp,hb,h5,f7,h6,hd⟩:=h;have j2:∀ t,qG S X Y D t->qG S A B D t:=fun t=>qG.perm hp;have U:=ht.perm hp;clear ht
 suffices H:Calls prog 131 #[.pointer (some ⟨ps,0,none⟩),rv,Dy r.promised r.current nv] w (XL (qG S X Y D) w o fun v w' o'=>Wrote S X Y D ps pd base nb (s.write b6 r) v w' o') by
  refine H.mono ?_;rintro e w' ⟨v,o',rfl,k7,hv,X',Y',k8,k9,k',l0,j3,l3⟩;refine ⟨v,o',rfl,k7.mono j2,hv,X',Y',k8,k9,k',l0, ?_,l3⟩
  rcases hp with ⟨rfl,rfl⟩ | ⟨rfl,rfl⟩
  ·exact j3
  ·exact j3.symm
 clear j2 hp A B;obtain ⟨na,nc,rfl⟩:=tY.form;obtain ⟨ra,rc,rfl⟩:=Aq hr;have h7:¬ In X D 0:=fun h=>by rcases h with h | h;exact U.a0 h.symm;exact U.d0 h.symm
 have qU:¬ In Y D 0:=fun h=>by rcases h with h | h;exact U.b0 h.symm;exact U.d0 h.symm
 have j4:¬ In X D S:=fun h=>by rcases h with h | h;exact U.sa h;exact U.sd h
 have h8:¬ In Y D S:=fun h=>by rcases h with h | h;exact U.sb h;exact U.sd h
 have l4:¬ In X D Y:=fun h=>by rcases h with h | h;exact U.ab h.symm;exact U.bd h
 have h9:¬ In Y D X:=fun h=>by rcases h with h | h;exact U.ab h;exact U.ad h
 have J:¬ ak S 0:=fun h=>U.s0 h.symm;have uS:¬ ak S X:=fun h=>U.sa h.symm;have uQ:¬ ak S Y:=fun h=>U.sb h.symm;have uT:¬ ak S D:=fun h=>U.sd h.symm;have mX:∀ t,In X D t->qG S X Y D t:=fun t h=>by rcases h with h | h;exact .inr (.inl h);exact .inr (.inr (.inr h))
 have mY:∀ t,In Y D t->qG S X Y D t:=fun t h=>by rcases h with h | h;exact .inr (.inr (.inl h));exact .inr (.inr (.inr h))
 have mS:∀ t,ak S t->qG S X Y D t:=fun t h => .inl h
 replace mX:=ae mX
 replace mY:=ae mY
 replace mS:=ae mS
 replace U:=ae U
 have nn:∀ t,¬ ai t:=fun _ h=>h;obtain ⟨n1,l5⟩:=az (r.lines.length);have s1:=(aj.refl ai w o).alloc (.cells #[.int .u64 (r.promised.toNat:Int), .int .u64 (r.current.toNat:Int), .slice na r.lines.length nc] 37) (0,0);have b1:(w.alloc (.cells #[.int .u64 (r.promised.toNat:Int), .int .u64 (r.current.toNat:Int), .slice na r.lines.length nc] 37)).heap[w.heap.size]?=some (.cells [.int .u64 (r.promised.toNat:Int), .int .u64 (r.current.toNat:Int), .slice na r.lines.length nc].toArray 37 (0,0)):=heap_alloc_new w _;have t1:Ak o w.heap.size (0,0) w.heap.size=(0,0):=Au _ _ _;obtain ⟨bx,i2⟩:=az (w.heap.size);obtain ⟨W1,i3⟩:=az (w.alloc (.cells #[.int .u64 (r.promised.toNat:Int), .int .u64 (r.current.toNat:Int), .slice na r.lines.length nc] 37));rw [i3] at s1 b1;rw [i2] at s1 b1 t1;generalize Ak o bx (0,0)=o1 at *
 replace hb:=hb.step s1 (nn _)
 replace h5:=h5.step s1 (nn _)
 replace f7:=f7.step s1 (nn _) (nn _)
 replace h6:=h6.step s1 (nn _) (nn _)
 replace hd:=hd.step s1 (nn _)
 replace hr:=hr.step s1 (nn _)
 replace tY:=tY.step s1 (nn _)
 obtain ⟨⟨c0,c3,c4,c5, -, -, -,c9⟩,⟨cA,cB⟩,n6,n7,b8,l6, -⟩:=hb.cells;have n8:(k:Int)<2:=om
 have qK:=ae (UI f7);obtain ⟨RM,i0⟩:=az (s.cur.room);rw [i0] at qK;obtain ⟨Q,hQ⟩:=az (s.write b6 r);have vJ:=ae hQ;have f8:=ae i0;have xZ:=ae hb;have wZ:=ae h5;have sS:=ae f7;have wX:=ae h6;have i4:=ae hd;have tN:=ae hr;have qY:=ae tY;have qJ:=ae s1;have uM:=ae i3;have xH:=ae i2;have sQ:=ae j1;have n9:(RM:Int)<=960000:=by
  have:=f7.wf;rw [<-i0];unfold Ad.room;obtain ⟨g1,g2,g3,g4,g5,g6,g7⟩:=this;omega
 rw [hQ];obtain ⟨R,hR⟩:=az (b6.length);have KI:=ae hR;rw [hR] at h2 h3 j0 ⊢;have o0:(1:Int)<=(R:Int)/\(R:Int)<=4000000:=om
 have j5:(Ad.reset (s.Us,s.d)).1.2.row.length<=700000:=by have:=Ad.Yy (s.Us,s.d);simp only at this;omega
 have pM:=ae j5;have sU:=ae (aI c5 (aI c4 cA));clear hb h5 f7 h6 hd hr tY s1 i3 i2 j1 hQ i0 hR j5 cA cB c0 c3 c4 c5 c9 l5 n1;rw [KI.out] at tN;unfold Dy
 by_cases l7:0<s.age.toNat
 ·have l8:(0:Int)<(s.age.toNat:Int):=om
  by_cases l9:R<=RM
  ·have wO:(R:Int)<=(RM:Int):=om
   have o7:(0:Int)<(RM:Int):=om
   clear h2 h3;go_enter func131,ntmps131;go_wp2_with fail;rw [uM.out];refine Aa (fun w'=>w'.cell? ⟨ps,5,none⟩=some (.int .u64 (s.age.toNat:Int))/\w'.cell? ⟨ps,4,none⟩=some (.int .i64 (k:Int))/\w'.cell? ⟨ps,1+k,none⟩=some (.pointer (some ⟨pa,0,none⟩))) (fun _=>true) (by kernel_rfl) sU.out (fun b5 => ?_);refine tq 0 (h:=tq 1 (h:=tq 2 (h:=tq 3 (h:=tw 4 (.bool true) (h:=tq 5 (h:=tq 6 (h:=tq 7 (h:=tq 8 (h:=tq 9 (h:=tq 10 (h:=tq 11 (h:=tq 12 (h:=tq 13 (h:=?_))))))))))))));refine tq 14 (h:=tq 15 (h:=tq 16 (h:=tO 17 (h:=?_))));go_wp2_with fail;have b9:=(aj.refl ai W1 o1).drew;refine (SV (sS.out.step b9 (nn _) (nn _)) RM f8.out).mono ?_;rintro e w2 ⟨v2,o2,rfl,f9,rfl⟩;have f9:aj ai W1 o1 w2 o2:=b9.trans f9;have j6:w2.cell? ⟨ps,5,none⟩=some (.int .u64 (s.age.toNat:Int))/\w2.cell? ⟨ps,4,none⟩=some (.int .i64 (k:Int))/\w2.cell? ⟨ps,1+k,none⟩=some (.pointer (some ⟨pa,0,none⟩)):=by
    obtain ⟨k1,k2,k3⟩:=sU.out;have hb:=fun (i:Nat) (v:Value) (hc:(W1).cell? ⟨ps,i,none⟩=some v)=>(World.cell?_of_block (w:=W1) (w':=w2) (a:=⟨ps,i,none⟩) (f9.block ps b8 (nn _))).trans hc;exact ⟨hb _ _ k1,hb _ _ k2,hb _ _ k3⟩
   go_wp2_with fail;refine ⟨fun _=>j6, ?_⟩;refine tw 18 (.bool true) (h:=tw 19 (.bool true) (h:=tq 20 (h:=tq 21 (h:=tq 22 (h:=tq 23 (h:=tq 24 (h:=tq 25 (h:=tq 26 (h:=tq 27 (h:=tq 28 (h:=tq 29 (h:=tO 30 (h:=?_)))))))))))));go_wp2_with fail;refine (SV (sS.out.step f9 (nn _) (nn _)) RM f8.out).mono ?_;rintro e w3 ⟨v3,o3,rfl,a2,rfl⟩;have a2:aj ai W1 o1 w3 o3:=f9.trans a2;have b2:w3.cell? ⟨ps,5,none⟩=some (.int .u64 (s.age.toNat:Int))/\w3.cell? ⟨ps,4,none⟩=some (.int .i64 (k:Int))/\w3.cell? ⟨ps,1+k,none⟩=some (.pointer (some ⟨pa,0,none⟩)):=by
    obtain ⟨k1,k2,k3⟩:=sU.out;have hb:=fun (i:Nat) (v:Value) (hc:(W1).cell? ⟨ps,i,none⟩=some v)=>(World.cell?_of_block (w:=W1) (w':=w3) (a:=⟨ps,i,none⟩) (a2.block ps b8 (nn _))).trans hc;exact ⟨hb _ _ k1,hb _ _ k2,hb _ _ k3⟩
   go_wp2_with fail;refine ⟨fun _=>b2, ?_⟩;refine tw 31 (.bool true) (h:=tw 32 (.bool true) (h:=tD (h:=?_)));have rO:ps<w3.heap.size:=Nat.lt_of_lt_of_le b8 a2.size;have m0:(o3 ps).1=S:=by rw [a2.own ps b8];exact l6
   have pV:=(a2.block bx (au b1) (nn _)).trans b1;have m1:=(a2.own bx (au b1)).trans t1;have zY:LD w3 o3 X D pa pd (s.cur,s.d):=⟨sS.out.step a2 (nn _) (nn _),i4.out.step a2 (nn _)⟩;have j7:=tN.out.step a2 (nn _);obtain ⟨⟨⟨l',d'⟩,e⟩,hC⟩:∃ q,Ad.Ag b6 (s.cur,s.d)=q:=⟨_,rfl⟩;have d7:=ae (fun (W:World) (O:Own) (st:aj ai w3 o3 W O)=>NW U.out.a0 U.out.d0 U.out.ad (zY.step st (nn _) (nn _) (nn _)) (by show s.d.row.length<=_;omega) b6 _ (j7.step st (nn _)) j0 (by rw [KI.out];omega) hC);have E:Q=if e ≠ 0 then ({ s with cur:=l',d:=d',dead:=true },9) else ({ s with cur:=l',d:=d',kept:=r },0):=by
    rw [<-vJ.out];unfold AZ.write;rw [hC,if_pos ⟨l7,by rw [KI.out,f8.out];exact l9⟩]
   replace E:=ae E
   have qH:=ae ((qJ.out.trans a2).mono (T':=qG S X Y D) (fun _ h=>h.elim));clear j6 b5 zY j7 hC qK f9;go_wp2_with fail;refine Aa (fun w'=>w'.cell? ⟨ps,5,none⟩=some (.int .u64 (s.age.toNat:Int))/\w'.cell? ⟨ps,4,none⟩=some (.int .i64 (k:Int))/\w'.cell? ⟨ps,1+k,none⟩=some (.pointer (some ⟨pa,0,none⟩))) (fun _=>true) (by kernel_rfl) b2 (fun b5 => ?_);refine tq 0 (h:=tq 1 (h:=tq 2 (h:=tq 3 (h:=tq 4 (h:=tq 5 (h:=tq 6 (h:=tq 7 (h:=tq 8 (h:=tq 9 (h:=tO 10 (h:=?_)))))))))));go_wp2_with fail;have b9:=(aj.refl ai w3 o3).drew;refine (d7.out _ o3 b9).mono ?_;rintro e1 w4 ⟨v4,o4,rfl,F,rfl,b7⟩;have F:aj (In X D) w3 o3 w4 o4:=b9.uV.trans F;have j8:w4.cell? ⟨ps,5,none⟩=some (.int .u64 (s.age.toNat:Int))/\w4.cell? ⟨ps,4,none⟩=some (.int .i64 (k:Int))/\w4.cell? ⟨ps,1+k,none⟩=some (.pointer (some ⟨pa,0,none⟩)):=by
    obtain ⟨k1,k2,k3⟩:=b2;have hb:=fun (i:Nat) (v:Value) (hc:(w3).cell? ⟨ps,i,none⟩=some v)=>(World.cell?_of_block (w:=w3) (w':=w4) (a:=⟨ps,i,none⟩) (F.block ps rO (by rw [m0];exact j4))).trans hc;exact ⟨hb _ _ k1,hb _ _ k2,hb _ _ k3⟩
   clear b5 d7;go_wp2_with fail;refine ⟨fun _=>j8, ?_⟩;refine tq 11 (h:=tD (h:=?_));have a9:=(xZ.out.step a2 (nn _)).step F j4;have qB:=(wZ.out.step a2 (nn _)).step F h7;have pU:=(wX.out.step a2 (nn _) (nn _)).step F l4 h7;have c6:=(qY.out.step a2 (nn _)).step F h7;have qC:=(F.block bx (au pV) (by rw [m1];exact h7)).trans pV;have a3:=ae (qH.out.trans (F.mono mX.out));clear j8 b2 F a2
   by_cases he:e=0
   ·subst he;have E:Hid (Q=({ s with cur:=l',d:=d',kept:=r },0)):=ae (by rw [E.out];rfl);have e0:=ae (show (Instr.loadAt 37 (.pointer (some ⟨w.heap.size,0,none⟩))).run prog w4 = .ok (.agg #[.int .u64 (r.promised.toNat:Int), .int .u64 (r.current.toNat:Int), .slice na r.lines.length nc]) w4 from IM (AV (by rw [xH.out];exact qC)));obtain ⟨d8,d9,u⟩:=a9.SI r (.slice na r.lines.length nc) ⟨_,_,_,rfl⟩;have e3:=ae (show (Instr.storeAt 37 (.pointer (some ⟨ps,6,none⟩)) (.agg #[.int .u64 (r.promised.toNat:Int), .int .u64 (r.current.toNat:Int), .slice na r.lines.length nc])).run prog w4 = .ok () _ from d9);have hF:=ae (show Bi (w4.setCells ps 6 [.int .u64 (r.promised.toNat:Int), .int .u64 (r.current.toNat:Int), .slice na r.lines.length nc]) o4 S X Y D ps pd nb Q.1 from by rw [E.out];exact ⟨X,Y,pa,pb,k,_, .inl ⟨rfl,rfl⟩,d8,c6.step u J,b7.1.step u uS J,pU.step u uQ J,b7.2.step u uT⟩);have a5:=ae (a3.out.trans (u.mono mS.out));have pG:=ae (show Q.2=0 by rw [E.out]);clear d8 d9 u
    go_wp2_with (first
     | ((with_reducible apply Bo);exact e0.out;simp only [Act.put,GL,DL,lss])
     | ((with_reducible apply AC);exact e3.out;simp only [Act.put]))
    go_ret;exact ⟨_,o4,rfl,a5.out,by rw [pG.out];rfl,by (rw [if_pos pG.out];exact hF.out)⟩
   ·have E:Hid (Q=({ s with cur:=l',d:=d',dead:=true },9)):=ae (by rw [E.out,if_pos he]);have i1:(e == 0)=false:=by simpa using he
    obtain ⟨⟨-, -, -, -, -, -, -,c9⟩, -,pF, -⟩:=a9.cells;have pF:=pF 9;have b3:=a9.Ik true;have u:=a9.DC 9 (.bool true);have hF:=ae (show Bi (w4.setCell ⟨ps,9,none⟩ (.bool true)) o4 S X Y D ps pd base Q.1 from by rw [E.out];exact ⟨X,Y,pa,pb,k,kv, .inl ⟨rfl,rfl⟩,b3,qB.step u J,b7.1.step u uS J,pU.step u uQ J,b7.2.step u uT⟩);have a5:=ae (a3.out.trans (u.mono mS.out));have pG:=ae (show Q.2=9 by rw [E.out]);clear b3 u;go_wp2_with fail;go_ret;exact ⟨_,o4,rfl,a5.out,by rw [pG.out];rfl,by (rw [if_neg (by rw [pG.out];omega)];exact hF.out)⟩
  ·have wO:¬ (R:Int)<=(RM:Int):=om
   have g0:¬ (0<s.age.toNat/\b6.length<=s.cur.room):=by rw [KI.out,f8.out];omega
   obtain ⟨j,hj⟩:=az (1 - k);have m2:(1:Int) - (k:Int)=(j:Int):=om
   have m5:(j:Int)<2:=om
   obtain ⟨AE,vP⟩:=az (IY (s.age+1#64) r.promised r.current r.lines);have e6:=ae (fun (W:World) (O:Own) (st:aj ai W1 o1 W O)=>AjQ (qY.out.step st (nn _)) (by have:=sQ.out.1;omega) (by have:=sQ.out.2;omega) (p:=r.promised) (c:=r.current) (s.age+1#64));rw [vP] at e6;have uO:AE.length<=1400000:=by
    rw [<-vP];have:=sQ.out.2;simp [IY,GR,Az];omega
   have yJ:=Ri s.age;obtain ⟨AL,xR⟩:=az (AE.length);rw [xR] at uO;have m6:(0:Int)<=(AL:Int)/\(AL:Int)<=1400000:=om
   have m7:(1:Int)<=(s.pages:Int)/\(s.pages:Int)<=4096:=om
   have uP:=ae vP;have qR:=ae xR;have tZ:=ae g0;have xB:=ae hj;clear h2 h3 qK vP xR g0 uO hj;go_enter func131,ntmps131;go_wp2_with fail;rw [uM.out];refine Aa (fun w'=>w'.cell? ⟨ps,5,none⟩=some (.int .u64 (s.age.toNat:Int))/\w'.cell? ⟨ps,4,none⟩=some (.int .i64 (k:Int))/\w'.cell? ⟨ps,1+k,none⟩=some (.pointer (some ⟨pa,0,none⟩))) (fun _=>true) (by kernel_rfl) sU.out (fun b5 => ?_);refine tq 0 (h:=tq 1 (h:=tq 2 (h:=tq 3 (h:=tw 4 (.bool true) (h:=tq 5 (h:=tq 6 (h:=tq 7 (h:=tq 8 (h:=tq 9 (h:=tq 10 (h:=tq 11 (h:=tq 12 (h:=tq 13 (h:=?_))))))))))))));refine tq 14 (h:=tq 15 (h:=tq 16 (h:=tO 17 (h:=?_))));go_wp2_with fail;have b9:=(aj.refl ai W1 o1).drew;refine (SV (sS.out.step b9 (nn _) (nn _)) RM f8.out).mono ?_;rintro e w3 ⟨v3,o3,rfl,a2,rfl⟩;have a2:aj ai W1 o1 w3 o3:=b9.trans a2;have b2:w3.cell? ⟨ps,5,none⟩=some (.int .u64 (s.age.toNat:Int))/\w3.cell? ⟨ps,4,none⟩=some (.int .i64 (k:Int))/\w3.cell? ⟨ps,1+k,none⟩=some (.pointer (some ⟨pa,0,none⟩)):=by
    obtain ⟨k1,k2,k3⟩:=sU.out;have hb:=fun (i:Nat) (v:Value) (hc:(W1).cell? ⟨ps,i,none⟩=some v)=>(World.cell?_of_block (w:=W1) (w':=w3) (a:=⟨ps,i,none⟩) (a2.block ps b8 (nn _))).trans hc;exact ⟨hb _ _ k1,hb _ _ k2,hb _ _ k3⟩
   clear b5 b9;go_wp2_with fail;refine ⟨fun _=>b2, ?_⟩;refine tw 18 (.bool false) (h:=tw 19 (.bool false) (h:=tq 20 (h:=ts 21 (h:=ts 22 (h:=ts 23 (h:=ts 24 (h:=ts 25 (h:=ts 26 (h:=ts 27 (h:=ts 28 (h:=ts 29 (h:=ts 30 (h:=ts 31 (h:=?_))))))))))))));refine tw 32 (.bool false) (h:=tD (h:=?_));have rO:ps<w3.heap.size:=Nat.lt_of_lt_of_le b8 a2.size;have pV:=(a2.block bx (au b1) (nn _)).trans b1;have i5:=b2.2.1;have e7:=ae (aI pV b2.1);clear b2;rw [xH.out];go_wp2_with fail;refine Aa (fun w'=>w'.heap[bx]?=some (.cells [.int .u64 (r.promised.toNat:Int), .int .u64 (r.current.toNat:Int), .slice na r.lines.length nc].toArray 37 (0,0))/\w'.cell? ⟨ps,5,none⟩=some (.int .u64 (s.age.toNat:Int))) (fun _=>true) (by kernel_rfl) e7.out (fun b5 => ?_);refine Dt (i:=0) (v := .agg #[.int .u64 (r.promised.toNat:Int), .int .u64 (r.current.toNat:Int), .slice na r.lines.length nc]) rfl (by kernel_rfl) (fun _ _ _ h=>h) (yieldsIf_load_mid rfl 37 (.tmp 5) rfl bx 0 rfl [.int .u64 (r.promised.toNat:Int), .int .u64 (r.current.toNat:Int), .slice na r.lines.length nc] _ (fun w h=>AV h.1) underlying37 rfl (by kernel_rfl)) (by assumption) ?_;simp only [Act.put,GL,DL,lss];refine tq 1 (h:=tq 2 (h:=tq 3 (h:=tq 4 (h:=tv 5 (.int .u64 ((s.age+1#64).toNat:Int)) (hy:=fun w i6=>by (try dsimp only at i6);go_simp;first | done | exact yJ | rw [yJ]) (h:=tO 6 (h:=?_))))))
   go_wp2_with fail;refine (e6.out _ o3 a2.drew).mono ?_;rintro e w4 ⟨v4,o4,rfl,F,e8⟩;have F:aj ai w3 o3 w4 o4:=(aj.refl ai w3 o3).drew.trans F;have qC:=(F.block bx (au pV) (nn _)).trans pV;have g8:=aI qC (show w4.cell? ⟨ps,5,none⟩=some (.int .u64 (s.age.toNat:Int)) by rw [World.cell?_of_block (w:=w3) (a:=⟨ps,5,none⟩) (F.block ps rO (nn _))];exact e7.out.2);have rE:=e8.cap;have c7:=e8.bytes;obtain ⟨aa,ac,rfl⟩:=Aq c7;rw [qR.out] at c7 rE ⊢;clear b5 e8;go_wp2_with fail;refine ⟨fun _=>g8, ?_⟩;refine tq 7 (h:=tD (h:=?_));have F:aj ai W1 o1 w4 o4:=a2.trans F;have qH:=ae ((qJ.out.trans F).mono (T':=qG S X Y D) (fun _ h=>h.elim));have a9:=xZ.out.step F (nn _);have qB:=wZ.out.step F (nn _);have qP:=sS.out.step F (nn _) (nn _);have pU:=wX.out.step F (nn _) (nn _);have c8:=i4.out.step F (nn _);have c6:=qY.out.step F (nn _);have tH:=(F.own bx (au b1)).trans t1;obtain ⟨⟨-,d3,d4,d5, -, -, -, -⟩,⟨-,dB⟩, -⟩:=a9.cells;rw [xB.out] at dB;clear g8 e7 a2 i5 e6 pV rO
   by_cases g9:480*(s.pages - 1)<AL
   ·have i7:(480:Int)*((s.pages:Int) - 1)<(AL:Int):=om
    have E:Hid (Q=(s,4)):=ae (by rw [<-vJ.out];unfold AZ.write;rw [if_neg tZ.out,uP.out,qR.out,if_pos g9]);have hF:=ae (show Bi w4 o4 S X Y D ps pd base Q.1 from by rw [E.out];exact ⟨X,Y,pa,pb,k,kv, .inl ⟨rfl,rfl⟩,a9,qB,qP,pU,c8⟩);have pG:=ae (show Q.2=4 by rw [E.out]);clear a9 qB qP pU c8 c6;go_wp2_with fail;go_ret;exact ⟨_,o4,rfl,qH.out,by rw [pG.out];rfl,by rw [if_neg (by rw [pG.out];omega)];exact hF.out⟩
   ·have i7:¬ (480:Int)*((s.pages:Int) - 1)<(AL:Int):=om
    have b7:LD w4 o4 Y D pb pd (s.Us,s.d):=⟨pU,c8⟩;obtain ⟨⟨⟨l1,d1⟩,e1⟩,vO⟩:∃ q,Ad.reset (s.Us,s.d)=q:=⟨_,rfl⟩;have tK:d1.row.length<=700000:=by have:=pM.out;rw [vO] at this;exact this
    have h1:=ae (UK U.out.b0 U.out.d0 U.out.bd b7 (by show s.d.row.length<=_;omega) vO);have E:Q=if e1 ≠ 0 then ({ s with Us:=l1,d:=d1,dead:=true },9) else if (Ad.Ag AE (l1,d1)).2 ≠ 0 then ({ s with Us:=(Ad.Ag AE (l1,d1)).1.1,d:=(Ad.Ag AE (l1,d1)).1.2,dead:=true },9)
      else ({ s with cur:=(Ad.Ag AE (l1,d1)).1.1,Us:=s.cur,d:=(Ad.Ag AE (l1,d1)).1.2,age:=s.age+1#64,kept:=r },0):=by
     rw [<-vJ.out];unfold AZ.write;rw [if_neg tZ.out,uP.out,qR.out,if_neg g9,vO]
    replace E:=ae E
    clear pU c8 b7 vO;go_wp2_with fail;refine h1.out.mono ?_;rintro e w5 ⟨v5,o5,rfl,a4,rfl,qO⟩;have m8:ps<w4.heap.size:=Nat.lt_of_lt_of_le b8 F.size;have b4:=a9.step a4 h8;have rW:=qB.step a4 qU;have rU:=qP.step a4 h9 qU;have rC:=c6.step a4 qU;have uH:=c7.step a4 qU;have e9:=(a4.block bx (au qC) (by rw [tH];exact qU)).trans qC;have tC:=(a4.own bx (au qC)).trans tH;have a3:=ae (qH.out.trans (a4.mono mY.out));obtain ⟨⟨-, -,e4,e5, -, -, -, -⟩,⟨-,eB⟩,ef, -⟩:=b4.cells;rw [xB.out] at eB;clear a9 qB qP c6 c7 h1 a4 F d3 d4 d5 dB
    by_cases f0:e1=0
    ·subst f0;obtain ⟨⟨⟨l2,d2⟩,e2⟩,f1⟩:∃ q,Ad.Ag AE (l1,d1)=q:=⟨_,rfl⟩;have d7:=ae (NW U.out.b0 U.out.d0 U.out.bd qO tK AE _ uH rE (by rw [qR.out];omega) f1);have E:Q=if e2 ≠ 0 then ({ s with Us:=l2,d:=d2,dead:=true },9) else ({ s with cur:=l2,Us:=s.cur,d:=d2,age:=s.age+1#64,kept:=r },0):=by
      have:=E.out;rw [f1] at this;exact this
     replace E:=ae E
     clear qO uH f1 e4 e5;go_wp2_with fail;refine d7.out.mono ?_;rintro e w6 ⟨v6,o6,rfl,a6,rfl,qN⟩;have a7:=b4.step a6 h8;have rV:=rW.step a6 qU;have rQ:=rU.step a6 h9 qU;have qZ:=rC.step a6 qU;have sD:=(a6.block bx (au e9) (by rw [tC];exact qU)).trans e9;have i8:=(a6.own bx (au e9)).trans tC;have a3:=ae (a3.out.trans (a6.mono mY.out));obtain ⟨⟨-, -,f4,f5, -, -, -, -⟩, -,ff, -⟩:=a7.cells;clear b4 rW rU rC d7 a6 eB ef
     by_cases f2:e2=0
     ·subst f2;have E:Hid (Q=({ s with cur:=l2,Us:=s.cur,d:=d2,age:=s.age+1#64,kept:=r },0)):=ae (by rw [E.out];rfl);have d6:=a7.swap (s.age+1#64);have g1:=a7.DC 4 (.int .i64 ((1 - k:Nat):Int));have a8:aj (ak S) w6 o6 ((w6.setCell ⟨ps,4,none⟩ (.int .i64 ((1 - k:Nat):Int))).setCell ⟨ps,5,none⟩ (.int .u64 ((s.age+1#64).toNat:Int))) o6:=g1.setCell (a:=⟨ps,5,none⟩) _ (.inl (by obtain ⟨_,_,_,_,q3⟩:=a7;show (o6 ps).1=S;rw [q3]));rw [xB.out] at d6 a8;have rZ:=(a8.block bx (au sD) (by rw [i8];exact J)).trans sD;have uD:=rV.step a8 J;have rP:=rQ.step a8 uS J;have f3:=qZ.step a8 J;have qM:=qN.step a8 uQ uT J;have a3:=ae (a3.out.trans (a8.mono mS.out));have m9:=ff 4;have n0:=ff 5;obtain ⟨w7,f6⟩:=az ((w6.setCell ⟨ps,4,none⟩ (.int .i64 (j:Int))).setCell ⟨ps,5,none⟩ (.int .u64 ((s.age+1#64).toNat:Int)));rw [f6] at d6 rZ uD rP f3 qM a3;clear a7 rV rQ qZ qN g1 a8 ff sD;have e0:=ae (show (Instr.loadAt 37 (.pointer (some ⟨bx,0,none⟩))).run prog w7 = .ok (.agg #[.int .u64 (r.promised.toNat:Int), .int .u64 (r.current.toNat:Int), .slice na r.lines.length nc]) w7 from IM (AV (by exact rZ)));obtain ⟨d8,d9,u⟩:=d6.SI r (.slice na r.lines.length nc) ⟨_,_,_,rfl⟩;have e3:=ae (show (Instr.storeAt 37 (.pointer (some ⟨ps,6,none⟩)) (.agg #[.int .u64 (r.promised.toNat:Int), .int .u64 (r.current.toNat:Int), .slice na r.lines.length nc])).run prog w7 = .ok () _ from d9);have hF:=ae (show Bi (w7.setCells ps 6 [.int .u64 (r.promised.toNat:Int), .int .u64 (r.current.toNat:Int), .slice na r.lines.length nc]) o6 S X Y D ps pd nb Q.1 from by rw [E.out];exact ⟨Y,X,pb,pa,j,_, .inr ⟨rfl,rfl⟩,d8,f3.step u J,qM.1.step u uQ J,rP.step u uS J,qM.2.step u uT⟩);have a5:=ae (a3.out.trans (u.mono mS.out));have pG:=ae (show Q.2=0 by rw [E.out]);clear d8 d9 u uD rP f3 qM d6;have wG:=ae (show (w6.setCell ⟨ps,4,none⟩ (.int .i64 (j:Int))).setCell ⟨ps,5,none⟩ (.int .u64 (((s.age.toNat:Int)+1) % 18446744073709551616))=w7 by rw [Rh];exact f6);clear f6;rw [<-wG.out] at e0 e3 hF a5
      go_wp2_with (first
       | ((with_reducible apply Bo);exact e0.out;simp only [Act.put,GL,DL,lss])
       | ((with_reducible apply AC);exact e3.out;simp only [Act.put]))
      go_ret;exact ⟨_,o6,rfl,a5.out,by rw [pG.out];rfl,by (rw [if_pos pG.out];exact hF.out)⟩
     ·have E:Hid (Q=({ s with Us:=l2,d:=d2,dead:=true },9)):=ae (by rw [E.out,if_pos f2]);have i1:(e2 == 0)=false:=by simpa using f2
      obtain ⟨⟨-, -, -, -, -, -, -,c9⟩, -,pF, -⟩:=a7.cells;have pF:=pF 9;have b3:=a7.Ik true;have u:=a7.DC 9 (.bool true);have hF:=ae (show Bi (w6.setCell ⟨ps,9,none⟩ (.bool true)) o6 S X Y D ps pd base Q.1 from by rw [E.out];exact ⟨X,Y,pa,pb,k,kv, .inl ⟨rfl,rfl⟩,b3,rV.step u J,rQ.step u uS J,qN.1.step u uQ J,qN.2.step u uT⟩);have a5:=ae (a3.out.trans (u.mono mS.out));have pG:=ae (show Q.2=9 by rw [E.out]);clear b3 u;go_wp2_with fail;go_ret;exact ⟨_,o6,rfl,a5.out,by rw [pG.out];rfl,by (rw [if_neg (by rw [pG.out];omega)];exact hF.out)⟩
    ·have E:Hid (Q=({ s with Us:=l1,d:=d1,dead:=true },9)):=ae (by rw [E.out,if_pos f0]);have i1:(e1 == 0)=false:=by simpa using f0
     obtain ⟨⟨-, -, -, -, -, -, -,c9⟩, -,pF, -⟩:=b4.cells;have pF:=pF 9;have b3:=b4.Ik true;have u:=b4.DC 9 (.bool true);have hF:=ae (show Bi (w5.setCell ⟨ps,9,none⟩ (.bool true)) o5 S X Y D ps pd base Q.1 from by rw [E.out];exact ⟨X,Y,pa,pb,k,kv, .inl ⟨rfl,rfl⟩,b3,rW.step u J,rU.step u uS J,qO.1.step u uQ J,qO.2.step u uT⟩);have a5:=ae (a3.out.trans (u.mono mS.out));have pG:=ae (show Q.2=9 by rw [E.out]);clear b3 u;go_wp2_with fail;go_ret;exact ⟨_,o5,rfl,a5.out,by rw [pG.out];rfl,by (rw [if_neg (by rw [pG.out];omega)];exact hF.out)⟩
 ·have l8:¬ (0:Int)<(s.age.toNat:Int):=om
  have g0:¬ (0<s.age.toNat/\b6.length<=s.cur.room):=by rw [KI.out,f8.out];omega
  obtain ⟨j,hj⟩:=az (1 - k);have m2:(1:Int) - (k:Int)=(j:Int):=om
  have m5:(j:Int)<2:=om
  obtain ⟨AE,vP⟩:=az (IY (s.age+1#64) r.promised r.current r.lines);have e6:=ae (fun (W:World) (O:Own) (st:aj ai W1 o1 W O)=>AjQ (qY.out.step st (nn _)) (by have:=sQ.out.1;omega) (by have:=sQ.out.2;omega) (p:=r.promised) (c:=r.current) (s.age+1#64));rw [vP] at e6;have uO:AE.length<=1400000:=by
   rw [<-vP];have:=sQ.out.2;simp [IY,GR,Az];omega
  have yJ:=Ri s.age;obtain ⟨AL,xR⟩:=az (AE.length);rw [xR] at uO;have m6:(0:Int)<=(AL:Int)/\(AL:Int)<=1400000:=om
  have m7:(1:Int)<=(s.pages:Int)/\(s.pages:Int)<=4096:=om
  have uP:=ae vP;have qR:=ae xR;have tZ:=ae g0;have xB:=ae hj;clear h2 h3 qK vP xR g0 uO hj;go_enter func131,ntmps131;go_wp2_with fail;rw [uM.out];refine Aa (fun w'=>w'.cell? ⟨ps,5,none⟩=some (.int .u64 (s.age.toNat:Int))/\w'.cell? ⟨ps,4,none⟩=some (.int .i64 (k:Int))/\w'.cell? ⟨ps,1+k,none⟩=some (.pointer (some ⟨pa,0,none⟩))) (fun _=>true) (by kernel_rfl) sU.out (fun b5 => ?_);refine tq 0 (h:=tq 1 (h:=tq 2 (h:=tq 3 (h:=tw 4 (.bool false) (h:=tq 5 (h:=ts 6 (h:=ts 7 (h:=ts 8 (h:=ts 9 (h:=ts 10 (h:=ts 11 (h:=ts 12 (h:=ts 13 (h:=?_))))))))))))));refine ts 14 (h:=ts 15 (h:=ts 16 (h:=ts 17 (h:=ts 18 (h:=tw 19 (.bool false) (h:=tq 20 (h:=ts 21 (h:=ts 22 (h:=ts 23 (h:=ts 24 (h:=ts 25 (h:=ts 26 (h:=ts 27 (h:=?_))))))))))))));refine ts 28 (h:=ts 29 (h:=ts 30 (h:=ts 31 (h:=tw 32 (.bool false) (h:=tD (h:=?_))))));obtain ⟨w3,i9⟩:=az (W1.drew);obtain ⟨o3,j9⟩:=az (o1);have a2:aj ai W1 o1 w3 o3:=by rw [<-i9, <-j9];exact (aj.refl ai W1 o1).drew
  have b2:=b5;rw [i9] at b2 ⊢;clear i9 j9 b5;have rO:ps<w3.heap.size:=Nat.lt_of_lt_of_le b8 a2.size;have pV:=(a2.block bx (au b1) (nn _)).trans b1;have i5:=b2.2.1;have e7:=ae (aI pV b2.1);clear b2;rw [xH.out];go_wp2_with fail;refine Aa (fun w'=>w'.heap[bx]?=some (.cells [.int .u64 (r.promised.toNat:Int), .int .u64 (r.current.toNat:Int), .slice na r.lines.length nc].toArray 37 (0,0))/\w'.cell? ⟨ps,5,none⟩=some (.int .u64 (s.age.toNat:Int))) (fun _=>true) (by kernel_rfl) e7.out (fun b5 => ?_);refine Dt (i:=0) (v := .agg #[.int .u64 (r.promised.toNat:Int), .int .u64 (r.current.toNat:Int), .slice na r.lines.length nc]) rfl (by kernel_rfl) (fun _ _ _ h=>h) (yieldsIf_load_mid rfl 37 (.tmp 5) rfl bx 0 rfl [.int .u64 (r.promised.toNat:Int), .int .u64 (r.current.toNat:Int), .slice na r.lines.length nc] _ (fun w h=>AV h.1) underlying37 rfl (by kernel_rfl)) (by assumption) ?_;simp only [Act.put,GL,DL,lss];refine tq 1 (h:=tq 2 (h:=tq 3 (h:=tq 4 (h:=tv 5 (.int .u64 ((s.age+1#64).toNat:Int)) (hy:=fun w i6=>by (try dsimp only at i6);go_simp;first | done | exact yJ | rw [yJ]) (h:=tO 6 (h:=?_))))))
  go_wp2_with fail;refine (e6.out _ o3 a2.drew).mono ?_;rintro e w4 ⟨v4,o4,rfl,F,e8⟩;have F:aj ai w3 o3 w4 o4:=(aj.refl ai w3 o3).drew.trans F;have qC:=(F.block bx (au pV) (nn _)).trans pV;have g8:=aI qC (show w4.cell? ⟨ps,5,none⟩=some (.int .u64 (s.age.toNat:Int)) by rw [World.cell?_of_block (w:=w3) (a:=⟨ps,5,none⟩) (F.block ps rO (nn _))];exact e7.out.2);have rE:=e8.cap;have c7:=e8.bytes;obtain ⟨aa,ac,rfl⟩:=Aq c7;rw [qR.out] at c7 rE ⊢;clear b5 e8;go_wp2_with fail;refine ⟨fun _=>g8, ?_⟩;refine tq 7 (h:=tD (h:=?_));have F:aj ai W1 o1 w4 o4:=a2.trans F;have qH:=ae ((qJ.out.trans F).mono (T':=qG S X Y D) (fun _ h=>h.elim));have a9:=xZ.out.step F (nn _);have qB:=wZ.out.step F (nn _);have qP:=sS.out.step F (nn _) (nn _);have pU:=wX.out.step F (nn _) (nn _);have c8:=i4.out.step F (nn _);have c6:=qY.out.step F (nn _);have tH:=(F.own bx (au b1)).trans t1;obtain ⟨⟨-,d3,d4,d5, -, -, -, -⟩,⟨-,dB⟩, -⟩:=a9.cells;rw [xB.out] at dB;clear g8 e7 a2 i5 e6 pV rO
  by_cases g9:480*(s.pages - 1)<AL
  ·have i7:(480:Int)*((s.pages:Int) - 1)<(AL:Int):=om
   have E:Hid (Q=(s,4)):=ae (by rw [<-vJ.out];unfold AZ.write;rw [if_neg tZ.out,uP.out,qR.out,if_pos g9]);have hF:=ae (show Bi w4 o4 S X Y D ps pd base Q.1 from by rw [E.out];exact ⟨X,Y,pa,pb,k,kv, .inl ⟨rfl,rfl⟩,a9,qB,qP,pU,c8⟩);have pG:=ae (show Q.2=4 by rw [E.out]);clear a9 qB qP pU c8 c6;go_wp2_with fail;go_ret;exact ⟨_,o4,rfl,qH.out,by rw [pG.out];rfl,by rw [if_neg (by rw [pG.out];omega)];exact hF.out⟩
  ·have i7:¬ (480:Int)*((s.pages:Int) - 1)<(AL:Int):=om
   have b7:LD w4 o4 Y D pb pd (s.Us,s.d):=⟨pU,c8⟩;obtain ⟨⟨⟨l1,d1⟩,e1⟩,vO⟩:∃ q,Ad.reset (s.Us,s.d)=q:=⟨_,rfl⟩;have tK:d1.row.length<=700000:=by have:=pM.out;rw [vO] at this;exact this
   have h1:=ae (UK U.out.b0 U.out.d0 U.out.bd b7 (by show s.d.row.length<=_;omega) vO);have E:Q=if e1 ≠ 0 then ({ s with Us:=l1,d:=d1,dead:=true },9) else if (Ad.Ag AE (l1,d1)).2 ≠ 0 then ({ s with Us:=(Ad.Ag AE (l1,d1)).1.1,d:=(Ad.Ag AE (l1,d1)).1.2,dead:=true },9)
     else ({ s with cur:=(Ad.Ag AE (l1,d1)).1.1,Us:=s.cur,d:=(Ad.Ag AE (l1,d1)).1.2,age:=s.age+1#64,kept:=r },0):=by
    rw [<-vJ.out];unfold AZ.write;rw [if_neg tZ.out,uP.out,qR.out,if_neg g9,vO]
   replace E:=ae E
   clear pU c8 b7 vO;go_wp2_with fail;refine h1.out.mono ?_;rintro e w5 ⟨v5,o5,rfl,a4,rfl,qO⟩;have m8:ps<w4.heap.size:=Nat.lt_of_lt_of_le b8 F.size;have b4:=a9.step a4 h8;have rW:=qB.step a4 qU;have rU:=qP.step a4 h9 qU;have rC:=c6.step a4 qU;have uH:=c7.step a4 qU;have e9:=(a4.block bx (au qC) (by rw [tH];exact qU)).trans qC;have tC:=(a4.own bx (au qC)).trans tH;have a3:=ae (qH.out.trans (a4.mono mY.out));obtain ⟨⟨-, -,e4,e5, -, -, -, -⟩,⟨-,eB⟩,ef, -⟩:=b4.cells;rw [xB.out] at eB;clear a9 qB qP c6 c7 h1 a4 F d3 d4 d5 dB
   by_cases f0:e1=0
   ·subst f0;obtain ⟨⟨⟨l2,d2⟩,e2⟩,f1⟩:∃ q,Ad.Ag AE (l1,d1)=q:=⟨_,rfl⟩;have d7:=ae (NW U.out.b0 U.out.d0 U.out.bd qO tK AE _ uH rE (by rw [qR.out];omega) f1);have E:Q=if e2 ≠ 0 then ({ s with Us:=l2,d:=d2,dead:=true },9) else ({ s with cur:=l2,Us:=s.cur,d:=d2,age:=s.age+1#64,kept:=r },0):=by
     have:=E.out;rw [f1] at this;exact this
    replace E:=ae E
    clear qO uH f1 e4 e5;go_wp2_with fail;refine d7.out.mono ?_;rintro e w6 ⟨v6,o6,rfl,a6,rfl,qN⟩;have a7:=b4.step a6 h8;have rV:=rW.step a6 qU;have rQ:=rU.step a6 h9 qU;have qZ:=rC.step a6 qU;have sD:=(a6.block bx (au e9) (by rw [tC];exact qU)).trans e9;have i8:=(a6.own bx (au e9)).trans tC;have a3:=ae (a3.out.trans (a6.mono mY.out));obtain ⟨⟨-, -,f4,f5, -, -, -, -⟩, -,ff, -⟩:=a7.cells;clear b4 rW rU rC d7 a6 eB ef
    by_cases f2:e2=0
    ·subst f2;have E:Hid (Q=({ s with cur:=l2,Us:=s.cur,d:=d2,age:=s.age+1#64,kept:=r },0)):=ae (by rw [E.out];rfl);have d6:=a7.swap (s.age+1#64);have g1:=a7.DC 4 (.int .i64 ((1 - k:Nat):Int));have a8:aj (ak S) w6 o6 ((w6.setCell ⟨ps,4,none⟩ (.int .i64 ((1 - k:Nat):Int))).setCell ⟨ps,5,none⟩ (.int .u64 ((s.age+1#64).toNat:Int))) o6:=g1.setCell (a:=⟨ps,5,none⟩) _ (.inl (by obtain ⟨_,_,_,_,q3⟩:=a7;show (o6 ps).1=S;rw [q3]));rw [xB.out] at d6 a8;have rZ:=(a8.block bx (au sD) (by rw [i8];exact J)).trans sD;have uD:=rV.step a8 J;have rP:=rQ.step a8 uS J;have f3:=qZ.step a8 J;have qM:=qN.step a8 uQ uT J;have a3:=ae (a3.out.trans (a8.mono mS.out));have m9:=ff 4;have n0:=ff 5;obtain ⟨w7,f6⟩:=az ((w6.setCell ⟨ps,4,none⟩ (.int .i64 (j:Int))).setCell ⟨ps,5,none⟩ (.int .u64 ((s.age+1#64).toNat:Int)));rw [f6] at d6 rZ uD rP f3 qM a3;clear a7 rV rQ qZ qN g1 a8 ff sD;have e0:=ae (show (Instr.loadAt 37 (.pointer (some ⟨bx,0,none⟩))).run prog w7 = .ok (.agg #[.int .u64 (r.promised.toNat:Int), .int .u64 (r.current.toNat:Int), .slice na r.lines.length nc]) w7 from IM (AV (by exact rZ)));obtain ⟨d8,d9,u⟩:=d6.SI r (.slice na r.lines.length nc) ⟨_,_,_,rfl⟩;have e3:=ae (show (Instr.storeAt 37 (.pointer (some ⟨ps,6,none⟩)) (.agg #[.int .u64 (r.promised.toNat:Int), .int .u64 (r.current.toNat:Int), .slice na r.lines.length nc])).run prog w7 = .ok () _ from d9);have hF:=ae (show Bi (w7.setCells ps 6 [.int .u64 (r.promised.toNat:Int), .int .u64 (r.current.toNat:Int), .slice na r.lines.length nc]) o6 S X Y D ps pd nb Q.1 from by rw [E.out];exact ⟨Y,X,pb,pa,j,_, .inr ⟨rfl,rfl⟩,d8,f3.step u J,qM.1.step u uQ J,rP.step u uS J,qM.2.step u uT⟩);have a5:=ae (a3.out.trans (u.mono mS.out));have pG:=ae (show Q.2=0 by rw [E.out]);clear d8 d9 u uD rP f3 qM d6;have wG:=ae (show (w6.setCell ⟨ps,4,none⟩ (.int .i64 (j:Int))).setCell ⟨ps,5,none⟩ (.int .u64 (((s.age.toNat:Int)+1) % 18446744073709551616))=w7 by rw [Rh];exact f6);clear f6;rw [<-wG.out] at e0 e3 hF a5
     go_wp2_with (first
      | ((with_reducible apply Bo);exact e0.out;simp only [Act.put,GL,DL,lss])
      | ((with_reducible apply AC);exact e3.out;simp only [Act.put]))
     go_ret;exact ⟨_,o6,rfl,a5.out,by rw [pG.out];rfl,by (rw [if_pos pG.out];exact hF.out)⟩
    ·have E:Hid (Q=({ s with Us:=l2,d:=d2,dead:=true },9)):=ae (by rw [E.out,if_pos f2]);have i1:(e2 == 0)=false:=by simpa using f2
     obtain ⟨⟨-, -, -, -, -, -, -,c9⟩, -,pF, -⟩:=a7.cells;have pF:=pF 9;have b3:=a7.Ik true;have u:=a7.DC 9 (.bool true);have hF:=ae (show Bi (w6.setCell ⟨ps,9,none⟩ (.bool true)) o6 S X Y D ps pd base Q.1 from by rw [E.out];exact ⟨X,Y,pa,pb,k,kv, .inl ⟨rfl,rfl⟩,b3,rV.step u J,rQ.step u uS J,qN.1.step u uQ J,qN.2.step u uT⟩);have a5:=ae (a3.out.trans (u.mono mS.out));have pG:=ae (show Q.2=9 by rw [E.out]);clear b3 u;go_wp2_with fail;go_ret;exact ⟨_,o6,rfl,a5.out,by rw [pG.out];rfl,by (rw [if_neg (by rw [pG.out];omega)];exact hF.out)⟩
   ·have E:Hid (Q=({ s with Us:=l1,d:=d1,dead:=true },9)):=ae (by rw [E.out,if_pos f0]);have i1:(e1 == 0)=false:=by simpa using f0
    obtain ⟨⟨-, -, -, -, -, -, -,c9⟩, -,pF, -⟩:=b4.cells;have pF:=pF 9;have b3:=b4.Ik true;have u:=b4.DC 9 (.bool true);have hF:=ae (show Bi (w5.setCell ⟨ps,9,none⟩ (.bool true)) o5 S X Y D ps pd base Q.1 from by rw [E.out];exact ⟨X,Y,pa,pb,k,kv, .inl ⟨rfl,rfl⟩,b3,rW.step u J,rU.step u uS J,qO.1.step u uQ J,qO.2.step u uT⟩);have a5:=ae (a3.out.trans (u.mono mS.out));have pG:=ae (show Q.2=9 by rw [E.out]);clear b3 u;go_wp2_with fail;go_ret;exact ⟨_,o5,rfl,a5.out,by rw [pG.out];rfl,by (rw [if_neg (by rw [pG.out];omega)];exact hF.out)⟩
theorem Qb (w:World) (n:Nat) (hn:n<=100000):grownCap w n 0 41<=maxLen:=grownCap_le_maxLen w n 0 41 (by simp only [maxLen];omega)
theorem YX (n:Nat) (hn:n<=100000) (w:World):Calls prog 179 #[.slice none 0 0, .int .i64 (n:Int)] w fun e w'=>∃ v,e = .returned v/\w.grownBy w' none/\w'.ownsRow w.heap.size 41 2 v 0 []:=by
 by_cases h0:n=0
 ·subst h0;go_enter func179,ntmps179;go_wp2_with fail;go_ret;exact ⟨_,rfl,⟨rfl,rfl,rfl,Nat.le_refl _,fun _ _ _=>rfl⟩,World.ownsRow_nil _ _ _ _⟩
 ·obtain ⟨i,z,hq,F,e2,r,J⟩:=TQ TR;have hold:(Builtin.firstCells i.size 0 (.slice none 0 0)).run prog w.drew = .ok ([]:List Value).toArray w.drew:=run_firstCells_none w.drew i.size 0 0 0;have u:=Lib.run_append_grow_zeros (P:=prog) w 35 3 35 41 i z .i64 .i64 underlying35 underlying3 hq F none 0 0 [] hold n om om om om (by rw [r];omega)
   (by rw [r];rw [nextslicecap_zero om];omega)
  rw [Nat.zero_add] at u;have hG:=grownCap_ge w n 0 41;have E:=Qb w n hn;have O:(([]:List Value).toArray++Builtin.zeroCells z.cells n++Builtin.zeroCells z.cells (grownCap w n 0 41 - n)).size=grownCap w n 0 41*2:=by
   have U:z.cells.size=2:=by rw [J];rfl
   simp only [Array.size_append,List.size_toArray,List.length_nil,size_zeroCells,U];omega
  have Y:=World.ownsRow_made (e:=41) (size:=2) (base:=w.heap.size) w.drew _ _ (Nat.le_refl _) E O;have q:=World.grownBy_alloc w.drew (.cells (([]:List Value).toArray++Builtin.zeroCells z.cells n++Builtin.zeroCells z.cells (grownCap w n 0 41 - n)) 41) none;generalize a2:grownCap w n 0 41=G at *;generalize hW:w.drew.alloc (.cells (([]:List Value).toArray++Builtin.zeroCells z.cells n++Builtin.zeroCells z.cells (G - n)) 41)=W at *;have a3:=ae u;have a4:(G:Int)<=9223372036854775807:=by simp only [maxLen] at E;omega
  have a5:0<(n:Int):=om
  clear u hold O a2 hW hq F e2 r J E;go_enter func179,ntmps179
  go_wp2_with ((with_reducible apply Bl);exact a3.out;simp only [Act.put,GL,DL,lss])
  go_ret;exact ⟨_,rfl,⟨q.os,q.tape,q.output,q.size,q.block⟩,Y⟩
theorem VU {w:World}{o:Own}{v:Value}{vs:List Value}{ns:List Nat}{css:List (List Value)}(hv:sH w o v vs.length vs)
  (hr:∀ k,k<vs.length->∃ x n cs,vs[k]?=some x/\ns[k]?=some n/\css[k]?=some cs/\sH w o x n cs/\cs.length=n*2/\∀ u ∈ cs,u.oneCell'=true)
  (d1:ns.length=vs.length) (d3:css.length=vs.length) (b5:∀ k,(ns.take k).sum<=100000) (e4:vs.length<=1000000) :
  Calls prog 130 #[v] w (XL ai w o fun v w' o'=>w'.ownsRow w.heap.size 41 2 v ns.sum css.flatten/\o'=ext w o):=by
 obtain ⟨a,c,rfl⟩:=Aq hv;have b6:∀ k n cs,ns[k]?=some n->css[k]?=some cs->(ns.take (k+1)).sum=(ns.take k).sum+n/\(css.take (k+1)).flatten=(css.take k).flatten++cs:=fun k n cs h1 h2=>by
  rw [List.take_add_one,h1,List.take_add_one,h2];simp
 have b7:ns.take vs.length=ns/\css.take vs.length=css:=⟨List.take_of_length_le om,List.take_of_length_le om⟩;have pR:=ae b7;have tN:=ae hr;have uZ:=ae b6;have U:=ae b5;clear b7 hr d1 d3 b6 b5;generalize d4:vs.length=m at *;clear d4;obtain ⟨q,b8⟩:∃ q:Nat->Nat,∀ k,q k=(ns.take k).sum:=⟨_,fun _=>rfl⟩;have E:=ae b8;clear b8;go_enter func130,ntmps130;go_wp2_with fail
 go_loop [3,11] (fun n i=>∃ k:Nat,k<=m/\i = .int .i64 k/\n = .int .i64 (q k:Int)) (fun _ i=>m - (intOf i).toNat)
 case atStart=>exact ⟨0,Nat.zero_le _,rfl,by rw [E.out];rfl⟩
 case round =>
  obtain ⟨k,J,rfl,rfl⟩:=hrel
  by_cases W:k<m
  ·obtain ⟨x,n,cs,Y,hn,a2,a3, -, -⟩:=tN.out k W;obtain ⟨b,off,rfl,hc,b9,d5⟩:=hv.cell k Y;obtain ⟨xa,xc,rfl⟩:=Aq a3;have c0:(q (k+1):Int)=(q k:Int)+(n:Int):=by rw [E.out,E.out,(uZ.out k n cs hn a2).1];omega
   have a7:q (k+1)<=100000:=by rw [E.out];exact U.out (k+1)
   have e5:q k<=100000:=by rw [E.out];exact U.out k
   have rD:=ae c0;have c3:(q k:Int)+(n:Int)<=100000:=om
   clear c0 a7 Y hn a2 a3 hv tN uZ pR;generalize q k=N at *;go_wp2_with fail
   go_round
   case rel=>exact ⟨k+1,W,by go_num,by rw [rD.out]⟩
   case measure=>simp [intOf];omega
  ·obtain rfl:m=k:=om
   have hg:=YX (q m) (by rw [E.out];exact U.out m) w;go_wp2_with fail;refine hg.mono ?_;rintro e w1 ⟨v1,rfl,a4,a8⟩;have r:Below w.heap.size w w1:=⟨a4.os,a4.tape,a4.output,a4.size,fun k J=>a4.block k J (by simp)⟩;clear hg;obtain ⟨a1,c1,rfl⟩:=BA a8;go_wp2_with fail
   go_loopw [6,27] (fun out i wr=>∃ k:Nat,k<=m/\i = .int .i64 k/\wr.ownsRow w.heap.size 41 2 out (q k) (css.take k).flatten/\Below w.heap.size w wr) (fun _ i _=>m - (intOf i).toNat)
   case atStart=>exact ⟨0,Nat.zero_le _,rfl,by rw [E.out];simpa using a8,r⟩
   case round =>
    clear a8 r a4;obtain ⟨k,J,rfl,F,r⟩:=hrel
    by_cases W:k<m
    ·obtain ⟨x,n,cs,Y,hn,a2,a3,a9,b1⟩:=tN.out k W;obtain ⟨b,off,rfl,hc,b9,d5⟩:=hv.cell k Y;have e6:wr.cell? ⟨b,off+k,none⟩=some x:=by rw [World.cell?_of_block (a:=⟨b,off+k,none⟩) (r.block b b9)];exact hc
     obtain ⟨O,a6⟩:=uZ.out k n cs hn a2;rw [<-E.out, <-E.out] at O;have a7:q (k+1)<=100000:=by rw [E.out];exact U.out (k+1)
     have d6:=r.size;obtain ⟨oa,oc,rfl⟩:=BA F;have b2:q k<=oc/\oc<=maxLen:=by
      rcases F.2 with ⟨h1,h2⟩ | ⟨g,cap,cur,h1,_,_,h2,h3,_⟩
      ·simp only [Value.slice.injEq] at h1;omega
      ·simp only [Value.slice.injEq] at h1;omega
     by_cases c4:n=0
     ·subst c4;have d7:cs=[]:=List.eq_nil_of_length_eq_zero om;subst d7;obtain ⟨xa,xc,rfl⟩:=Aq a3;rw [List.append_nil] at a6;rw [Nat.add_zero] at O;have c6:=CB (P:=prog) wr 35 35 41 2 underlying35 (by kernel_rfl) oa xa (q k) oc xc b2.1 om;have xK:=ae c6;have c7:=ae (aI O a6);have a5:=ae F;clear c6 O a6 F Y hn a2 a3 hv tN uZ pR a7 b2 b1 a9 U E
      go_wp2_with ((with_reducible apply Bl);exact xK.out;simp only [Act.put,GL,DL,lss])
      go_roundw
      case rel=>exact ⟨k+1,W,by go_num,by rw [c7.out.1,c7.out.2];exact a5.out,r⟩
      case measure=>simp [intOf];omega
     ·rcases a3 with ⟨_,h0,_⟩ | ⟨xb,wB,yD,rfl,e7,e8,e9,d8,c8⟩
      ·exact absurd h0 c4
      ·have yH:wr.rangeAt xb wB cs:=Cf c8 (r.block xb d8);obtain ⟨g,cap,w3,b3,b4,d9,e0,f0⟩:=DD (P:=prog) wr 35 35 41 underlying35 TR rfl om (base:=w.heap.size) d6 _ (q k) _ F xb wB n yD cs a9 yH b1 om om om;have c3:Below w.heap.size w w3:=r.grown d9 r.size (fun k J=>(F.lt k J).1);rw [<-O, <-a6] at b4;rw [<-O] at b3;have e3:=ae b3;have a5:=ae b4;clear b3 b4 F O a6 Y hn a2 hv tN uZ pR a7 b2 b1 a9 c8 yH e0 U E
       go_wp2_with ((with_reducible apply Bl);exact e3.out;simp only [Act.put,GL,DL,lss])
       go_roundw
       case rel=>exact ⟨k+1,W,by go_num,a5.out,c3⟩
       case measure=>simp [intOf];omega
    ·obtain rfl:m=k:=om
     have c9:q m=ns.sum:=by rw [E.out,pR.out.1]
     rw [pR.out.2,c9] at F;have a5:=ae F;clear c9 F;obtain ⟨oa,oc,rfl⟩:=BA a5.out;go_wp2_with fail;go_ret;exact ⟨_,ext w o,rfl,⟨r.os,r.tape,r.output,r.size,fun k J=>if_pos J,fun k J _=>r.block k J⟩,a5.out,rfl⟩
def AZ.promise (e:BitVec 64) (s:AZ):AZ × Int:=
 if s.dead || s.d.dead then (s,9) else if s.kept.EK e then s.write (2 :: be 8 e) { s.kept with promised:=e } else (s,1)
def AZ.FO (e:BitVec 64) (ls:List Ar) (s:AZ):AZ × Int:=
 if s.dead || s.d.dead then (s,9) else if s.kept.Gg e ls then s.write (3 :: (be 8 e++GR ls)) ⟨e,e,ls⟩ else (s,1)
def AZ.append (ls:List Ar) (s:AZ):AZ × Int:=
 if s.dead || s.d.dead then (s,9) else if s.kept.Eu ls then s.write (4 :: GR ls) { s.kept with lines:=s.kept.lines++ls } else (s,1)
theorem Wrote.same {w:World}{o:Own}{S A B D ps pd base q:Nat}{s:AZ}{v:Value}{e:Int}(h:Bi w o S A B D ps pd base s) (hv:v = .int .i64 e) (r:e ≠ 0):Wrote S A B D ps pd base q (s,e) v w o:=
 ⟨hv,by rw [if_neg r];exact h⟩
theorem Bi.box {w:World}{o:Own}{S A B D ps pd base:Nat}{s:AZ}(h:Bi w o S A B D ps pd base s) :
  ∃ kv,Lines w o base kv s.kept.lines/\w.rangeAt ps 6 [.int .u64 (s.kept.promised.toNat:Int), .int .u64 (s.kept.current.toNat:Int),kv]:=by
 obtain ⟨X,Y,r,u,k,kv, -,hb,hl, -, -, -⟩:=h;obtain ⟨-, -, -, -, -, -,q⟩:=hb.cells;exact ⟨kv,hl,q⟩
theorem Tv {S A B D:Nat}:∀ t,ak (S+A+B+D+1) t->t ≠ 0/\¬ qG S A B D t:=fun t h=>by
 change t=_ at h
 subst h;exact ⟨om,fun h=>by rcases h with h | h | h | h <;> omega⟩
theorem aU {S A B D:Nat}(q:Qw S A B D):¬ qG S A B D 0:=fun h=>by
 rcases h with h | h | h | h
 ·exact q.s0 h.symm
 ·exact q.a0 h.symm
 ·exact q.b0 h.symm
 ·exact q.d0 h.symm
theorem SA {w:World}{o:Own}{S A B D ps pd base:Nat}{s:AZ}(ht:Qw S A B D) (h:Bi w o S A B D ps pd base s) (e0:s.d.row.length<=600000) (e3:1<=s.pages/\s.pages<=4096) (e4:small s.kept.lines) (e:BitVec 64) :
  Calls prog 138 #[.pointer (some ⟨ps,0,none⟩), .int .u64 (e.toNat:Int)] w (XL (qG S A B D) w o fun v w' o'=>Wrote S A B D ps pd base w.heap.size (s.promise e) v w' o'):=by
 have i3:∀ (fn:Fn) (first cap:Array Value) (w:World),(Instr.makeFunc fn first cap).run prog w = .ok (.func fn first cap) w:=fun _ _ _ _=>rfl
 have s1:=(aj.refl ai w o).alloc (.cells #[.pointer (some ⟨ps,0,none⟩)] 92) (0,0);have bs:=Box.new w o 92 (.pointer (some ⟨ps,0,none⟩));have z1:(w.alloc (.cells #[.pointer (some ⟨ps,0,none⟩)] 92)).heap.size=w.heap.size+1:=by simp
 have s2:=(aj.refl ai (w.alloc (.cells #[.pointer (some ⟨ps,0,none⟩)] 92)) (Ak o w.heap.size (0,0))).alloc (.cells #[.int .u64 (e.toNat:Int)] 34) (0,0);have yB:=Box.new (w.alloc (.cells #[.pointer (some ⟨ps,0,none⟩)] 92)) (Ak o w.heap.size (0,0)) 34 (.int .u64 (e.toNat:Int));rw [z1] at s2 yB
 replace bs:=bs.step s2 id
 have a6:=s1.trans s2
 replace h:=h.step0 a6
 have g9:w.heap.size<=((w.alloc (.cells #[.pointer (some ⟨ps,0,none⟩)] 92)).alloc (.cells #[.int .u64 (e.toNat:Int)] 34)).heap.size:=a6.size;have b6:=TD h 193 #[.pointer (some ⟨w.heap.size+1,0,none⟩), .pointer (some ⟨w.heap.size,0,none⟩)] (s.kept.EK e) Tryz.call193 (Tf h e _ _ yB bs);obtain ⟨W2,b7⟩:=az ((w.alloc (.cells #[.pointer (some ⟨ps,0,none⟩)] 92)).alloc (.cells #[.int .u64 (e.toNat:Int)] 34));rw [b7] at a6 h bs yB b6 g9;generalize Ak (Ak o w.heap.size (0,0)) (w.heap.size+1) (0,0)=o2 at *;obtain ⟨Q,r⟩:=az (s.promise e);have vJ:=ae r;rw [r];unfold AZ.promise at r;have xO:=ae b7;have J:=ae (aI h (aI bs (aI yB a6)));have cs:=bs.cell;have ce:=yB.cell;have nD:=ae ht;have pM:=ae (aI e0 (aI e3 e4));have Y:=ae b6;have e5:=ae (aU ht);clear h bs yB a6 s1 s2 b7 z1 ht e0 e3 e4 b6 vJ
 by_cases hd:(s.dead || s.d.dead)=true
 ·rw [if_pos hd] at r Y;have hF:=ae (show Wrote S A B D ps pd base w.heap.size Q (.int .i64 9) W2 o2 from by rw [<-r];exact Wrote.same J.out.1 rfl om);have b8:=ae (show ∀ E q,aj ai W2 o2 E q->Wrote S A B D ps pd base w.heap.size Q (.int .i64 9) E q from fun E q st=>by rw [<-r];exact Wrote.same (J.out.1.step0 st) rfl om);clear r;go_enter func138,ntmps138;go_wp2_with fail;rw [xO.out];refine Y.out.mono ?_;rintro e1 E ⟨v3,q,rfl,F,rfl⟩;go_wp2_with fail;go_ret;exact ⟨_,q,rfl,((J.out.2.2.2.trans F).mono (fun _ h=>h.elim)),b8.out E q F⟩
 ·rw [if_neg hd] at r Y
  by_cases a3:s.kept.EK e=true
  ·rw [if_pos a3] at r;rw [if_pos a3] at Y;have vJ:=ae r;clear r hd a3;go_enter func138,ntmps138;go_wp2_with fail;rw [xO.out];refine Y.out.mono ?_;rintro e1 E ⟨v3,q,rfl,F,rfl⟩;have h3:=J.out.1.step0 F;have b9:=J.out.2.1.step F id;have e6:=J.out.2.2.1.step F id;have c0:=J.out.2.2.2.trans F;obtain ⟨kv,e7,e9⟩:=h3.box;have f0:=ae (IM e9);have f1:=ae (Tj (p:=s.kept.promised) (c:=s.kept.current) e7 (by have:=pM.out.2.2.1;omega) (fun x hx=>by have:=KG pM.out.2.2 x hx;omega));have h1:=b9.cell;clear cs ce e7 e9 F Y
   go_wp2_with ((with_reducible apply Bo);exact f0.out;simp only [Act.put,GL,DL,lss])
   refine f1.out.mono ?_;rintro e1 O ⟨v4,o4,rfl,a4,lv,rfl,a5,rfl⟩;have h4:=h3.step0 a4;have c3:=b9.step a4 id;have c4:=e6.step a4 id;have b2:=c0.trans a4;have a5:=a5.low c0.size;obtain ⟨o4,f2⟩:=az (ext E q);rw [f2] at a4 a5 h4 c3 c4 b2;obtain ⟨U,W,rfl⟩:=a5.form;obtain ⟨N,hN⟩:∃ N,N=S+A+B+D+1:=⟨_,rfl⟩;have f3:=ae (AB (P:=prog) O 37 _ LX);have f4:=Be O #[.int .u64 0, .int .u64 0, .slice none 0 0] 37 [.int .u64 (s.kept.promised.toNat:Int), .int .u64 (s.kept.current.toNat:Int), .slice U s.kept.lines.length W] rfl;obtain ⟨c6, -⟩:=Ba (P:=prog) (ty:=37) (vs:=[.int .u64 (s.kept.promised.toNat:Int), .int .u64 (s.kept.current.toNat:Int), .slice U s.kept.lines.length W]) (heap_alloc_new O (.cells [.int .u64 0, .int .u64 0, .slice none 0 0].toArray 37)) rfl (by kernel_rfl) rfl;rw [f4] at c6;have c7:=ae c6;have sN:=(aj.refl ai O o4).alloc (.cells [.int .u64 (s.kept.promised.toNat:Int), .int .u64 (s.kept.current.toNat:Int), .slice U s.kept.lines.length W].toArray 37) (N,0);have bn:=heap_alloc_new O (.cells [.int .u64 (s.kept.promised.toNat:Int), .int .u64 (s.kept.current.toNat:Int), .slice U s.kept.lines.length W].toArray 37);have tn:Ak o4 O.heap.size (N,0) O.heap.size=(N,0):=Au _ _ _;obtain ⟨u,a7⟩:=az (O.heap.size);have h2:w.heap.size<=u:=by rw [<-a7];exact b2.size
   obtain ⟨w5,c8⟩:=az (O.alloc (.cells [.int .u64 (s.kept.promised.toNat:Int), .int .u64 (s.kept.current.toNat:Int), .slice U s.kept.lines.length W].toArray 37));rw [c8] at sN bn c7;rw [a7] at sN bn tn;generalize Ak o4 u (N,0)=o5 at *;have h5:=h4.step0 sN;have f5:=c3.step sN id;have c9:=c4.step sN id;have f6:=a5.step sN id;have f7:=b2.trans sN;have h7:=ae a7;have i4:=ae c8;have h8:=c9.cell;have f8:w5.cell? ⟨u,0,none⟩=some (.int .u64 (s.kept.promised.toNat:Int)):=ag bn 0;have f9:=Ap bn 0;have a8:=(aj.refl (ak N) w5 o5).setCell (a:=⟨u,0,none⟩) (.int .u64 (e.toNat:Int)) (.inl (by show (o5 u).1=N;rw [tn]));have yA:=Ai (i:=0) (.int .u64 (e.toNat:Int)) bn;simp only [DL] at yA;have d1:¬ ak N 0:=fun h=>by change 0=N at h;omega
   have h6:=h5.step a8 (by rw [hN];exact Tv);have d3:=f5.step a8 d1;have d4:=c9.step a8 d1;have g0:=f6.step a8 d1;have g1:=f7.setCell (a:=⟨u,0,none⟩) (.int .u64 (e.toNat:Int)) (.inr h2);obtain ⟨w6,d5⟩:=az (w5.setCell ⟨u,0,none⟩ (.int .u64 (e.toNat:Int)));rw [d5] at yA h6 d3 d4 g0 g1;have h9:=ae d5;rw [<-a7] at f8 f9;clear a7 c8 d5 f4 c6 a8 h5 f5 c9 f6 f7 h4 c3 c4 a5 b2 h3 b9 e6 c0 a4 f2 f0 f1 sN h1 bn
   go_wp2_with (first
    | ((with_reducible apply AU);exact f3.out;simp only [Act.put,GL,DL,lss])
    | ((with_reducible apply AC);exact c7.out;simp only [Act.put]))
   rw [h7.out,h9.out];have g2:=aI d3.cell (aI d4.cell yA);clear f8 f9 h8 f3 c7;refine Aa (fun w'=>w'.cell? ⟨w.heap.size,0,none⟩=some (.pointer (some ⟨ps,0,none⟩))/\w'.cell? ⟨w.heap.size+1,0,none⟩=some (.int .u64 (e.toNat:Int))/\w'.heap[u]?=some (.cells [.int .u64 (e.toNat:Int), .int .u64 (s.kept.current.toNat:Int), .slice U s.kept.lines.length W].toArray 37 (0,0))) (fun _=>true) (by kernel_rfl) g2 (fun i0 => ?_);refine tq 0 (h:=tq 2 (h:=?_));refine Dt (i:=4) (v := .agg [.int .u64 (e.toNat:Int), .int .u64 (s.kept.current.toNat:Int), .slice U s.kept.lines.length W].toArray) rfl (by kernel_rfl) (fun _ _ _ h=>h) (yieldsIf_load_mid rfl 37 (.tmp 6) rfl u 0 rfl [.int .u64 (e.toNat:Int), .int .u64 (s.kept.current.toNat:Int), .slice U s.kept.lines.length W] _ (fun w h=>AV h.2.2) underlying37 rfl (by kernel_rfl)) (by assumption) ?_;simp only [Act.put,GL,DL,lss];refine tO 1 (h:=?_);go_wp2_with fail;refine (IG (Bytes.nil _ o5) (by simp) 2).mono ?_;rintro e1 w7 ⟨v7,o7,rfl,a2,zN⟩;have a2:aj ai w6 o5 w7 o7:=(aj.refl ai w6 o5).drew.trans a2;have b3:=(a2.block u (au yA) id).trans yA;have d6:=d3.step a2 id;have d7:=d4.step a2 id;have g3:=aI d6.cell (aI d7.cell b3);clear i0;go_wp2_with fail;refine ⟨fun _=>g3, ?_⟩;refine tO 3 (h:=?_);go_wp2_with fail;refine (Ef zN.bytes (by simp) e).mono ?_;rintro e1 w8 ⟨v8,o8,rfl,a9,zM⟩;have b4:=(a9.block u (au b3) id).trans b3;have d8:=d6.step a9 id;have d9:=d7.step a9 id;have g4:=aI d8.cell (aI d9.cell b4);have vC:=a2.trans a9;have g5:=ae (Lj nD.out (h6.step0 vC) pM.out.1 pM.out.2.1 v8 (2 :: be 8 e) (zM.congr (l':=2 :: be 8 e) (by simp)).bytes zM.cap (by simp) (by simp [Az]) { s.kept with promised:=e } (.slice U s.kept.lines.length W) (g0.step vC id) pM.out.2.2);have i1:=ae (g1.trans vC);clear g3 a2 a9 zN d6 d7 b3;go_wp2_with fail;refine ⟨fun _=>g4, ?_⟩;refine tO 5 (h:=?_);go_wp2_with fail;refine g5.out.mono ?_;rintro e1 w9 ⟨v9,o9,rfl,b1,b5⟩;have g6:=(b1.block u (au b4) (by
    have e8:o8 u=(N,0):=by rw [vC.own u (au yA)];exact tn
    rw [e8];exact (Tv N hN).2)).trans b4
   have g7:=aI (d8.step b1 e5.out).cell (aI (d9.step b1 e5.out).cell g6);rw [vJ.out] at b5;obtain ⟨rfl,g8⟩:=b5;have b5:=ae (show Wrote S A B D ps pd base w.heap.size Q (.int .i64 Q.2) w9 o9 from ⟨rfl,g8⟩);have i2:=ae ((i1.out.mono (T':=qG S A B D) (fun _ h=>h.elim)).trans b1);clear b1 g5 g8 g4 d8 d9 b4;go_wp2_with fail;refine ⟨fun _=>g7, ?_⟩;refine tq 6 (h:=tD (h:=?_));clear g7 g6 g2;go_wp2_with fail;go_ret;exact ⟨_,o9,rfl,i2.out,b5.out⟩
  ·rw [if_neg a3] at r;rw [if_neg a3] at Y;have b8:=ae (show ∀ E q,aj ai W2 o2 E q->Wrote S A B D ps pd base w.heap.size Q (.int .i64 1) E q from fun E q st=>by rw [<-r];exact Wrote.same (J.out.1.step0 st) rfl om);clear r hd a3;go_enter func138,ntmps138;go_wp2_with fail;rw [xO.out];refine Y.out.mono ?_;rintro e1 E ⟨v3,q,rfl,F,rfl⟩;go_wp2_with fail;go_ret;exact ⟨_,q,rfl,((J.out.2.2.2.trans F).mono (fun _ h=>h.elim)),b8.out E q F⟩
theorem Lines.src {w:World}{o:Own}{base:Nat}{v:Value}{ls:List Ar}(h:Lines w o base v ls):∃ cs,sH w o v ls.length cs/\cs.length=ls.length*2/\(∀ u ∈ cs,u.oneCell'=true)/\sW w o cs ls:=by
 obtain ⟨cs,r,q, -, -⟩:=h;exact ⟨cs,r,by rw [q.1];omega,q.one,q⟩
theorem AkC {w:World}{o:Own}{v:Value}{F J:Value}{b1 b2:Nat}{q r:List Ar}(hv:sH w o v 2 [F,J]) (h1:Lines w o b1 F q) (h2:Lines w o b2 J r) (hn:q.length+r.length<=100000) :
  Calls prog 130 #[v] w (XL ai w o fun U w' o'=>Lines w' o' 0 U (q++r)):=by
 obtain ⟨c1,s1,k1,Y,e1⟩:=h1.src;obtain ⟨c2,s2,k2,O,e2⟩:=h2.src;refine (VU (vs:=[F,J]) (ns:=[q.length,r.length]) (css:=[c1,c2]) hv ?_ rfl rfl ?_ (by simp)).mono ?_
 ·intro k hk
  match k,hk with
  | 0,_=>exact ⟨F,_,c1,rfl,rfl,rfl,s1,k1,Y⟩
  | 1,_=>exact ⟨J,_,c2,rfl,rfl,rfl,s2,k2,O⟩
 ·intro k
  match k with
  | 0=>simp
  | 1=>simp;omega
  | k+2=>simp;omega
 ·rintro e w' ⟨U,o',rfl,hs,W,rfl⟩;refine ⟨U,_,rfl,hs,c1++c2, ?_,(e1.append e2).step hs id,CV.zero _,fun u _=>CV.zero u⟩;simp only [List.sum_cons,List.sum_nil,Nat.add_zero,List.flatten_cons,List.flatten_nil,List.append_nil] at W;rw [List.length_append]
  rcases W.2 with ⟨rfl,h0⟩ | ⟨g,cap,cur,rfl,Y,O,q3,q4,q5,q6⟩
  ·refine .inl ⟨⟨none,0,rfl⟩,h0, ?_⟩;apply List.eq_nil_of_length_eq_zero;rw [W.1,h0]
  ·refine .inr ⟨g,0,cap,rfl,q3,q4,by unfold ext;rw [if_neg om],au O, ?_⟩;have:=BU (w:=w') (b:=g) (cs:=cur.toList) (E:=41) (fr:=(0,0)) (by simpa using O) 0 ((q.length+r.length)*2);rw [List.drop_zero,q6] at this;exact this
theorem dF (w:World) (o:Own) (q r:Value) (t:TypeId):sH (w.alloc (.cells #[q,r] t)) (Ak o w.heap.size (0,0)) (.slice (some ⟨w.heap.size,0,none⟩) 2 2) 2 [q,r]:=
 .inr ⟨w.heap.size,0,2,rfl,om,by simp [maxLen],by rw [Au],by simp,AV (heap_alloc_new w _)⟩
theorem WQ {w:World}{o:Own}{S A B D ps pd base f5:Nat}{s:AZ}(ht:Qw S A B D) (h:Bi w o S A B D ps pd base s) (b8:s.d.row.length<=600000) (b9:1<=s.pages/\s.pages<=4096) (e:BitVec 64) (lv:Value) (ls:List Ar) (hl:Lines w o f5 lv ls) (g5:ls.length<=1000) (c0:s.kept.Gg e ls=true->small ls) :
  Calls prog 197 #[.pointer (some ⟨ps,0,none⟩), .int .u64 (e.toNat:Int),lv] w (XL (qG S A B D) w o fun v w' o'=>Wrote S A B D ps pd base w.heap.size (s.FO e ls) v w' o'):=by
 have g6:∀ (fn:Fn) (first cap:Array Value) (w:World),(Instr.makeFunc fn first cap).run prog w = .ok (.func fn first cap) w:=fun _ _ _ _=>rfl
 obtain ⟨la,lc,rfl⟩:=hl.form;have s1:=(aj.refl ai w o).alloc (.cells #[.pointer (some ⟨ps,0,none⟩)] 92) (0,0);have O:=Box.new w o 92 (.pointer (some ⟨ps,0,none⟩));have z1:(w.alloc (.cells #[.pointer (some ⟨ps,0,none⟩)] 92)).heap.size=w.heap.size+1:=by simp
 have s2:=(aj.refl ai (w.alloc (.cells #[.pointer (some ⟨ps,0,none⟩)] 92)) (Ak o w.heap.size (0,0))).alloc (.cells #[.int .u64 (e.toNat:Int)] 34) (0,0);have U:=Box.new (w.alloc (.cells #[.pointer (some ⟨ps,0,none⟩)] 92)) (Ak o w.heap.size (0,0)) 34 (.int .u64 (e.toNat:Int));have z2:((w.alloc (.cells #[.pointer (some ⟨ps,0,none⟩)] 92)).alloc (.cells #[.int .u64 (e.toNat:Int)] 34)).heap.size=w.heap.size+1+1:=by simp
 rw [z1] at s2 U;have s3:=(aj.refl ai ((w.alloc (.cells #[.pointer (some ⟨ps,0,none⟩)] 92)).alloc (.cells #[.int .u64 (e.toNat:Int)] 34)) (Ak (Ak o w.heap.size (0,0)) (w.heap.size+1) (0,0))).alloc (.cells #[.slice la ls.length lc] 35) (0,0);have bl:=Box.new ((w.alloc (.cells #[.pointer (some ⟨ps,0,none⟩)] 92)).alloc (.cells #[.int .u64 (e.toNat:Int)] 34)) (Ak (Ak o w.heap.size (0,0)) (w.heap.size+1) (0,0)) 35 (.slice la ls.length lc);rw [z2] at s3 bl
 replace O:=(O.step s2 id).step s3 id
 replace U:=U.step s3 id
 have a4:=(s1.trans s2).trans s3
 replace h:=h.step0 a4
 replace hl:=hl.step a4 id
 have a9:=TD h 247 #[.pointer (some ⟨w.heap.size+1,0,none⟩), .pointer (some ⟨w.heap.size,0,none⟩), .pointer (some ⟨w.heap.size+1+1,0,none⟩)] (s.kept.Gg e ls) Tryz.call247 (XA h e _ _ _ _ _ ls U O bl hl om);obtain ⟨W2,b1⟩:=az (((w.alloc (.cells #[.pointer (some ⟨ps,0,none⟩)] 92)).alloc (.cells #[.int .u64 (e.toNat:Int)] 34)).alloc (.cells #[.slice la ls.length lc] 35));rw [b1] at a4 h O U bl a9 hl;generalize Ak (Ak (Ak o w.heap.size (0,0)) (w.heap.size+1) (0,0)) (w.heap.size+1+1) (0,0)=o2 at *;obtain ⟨Q,E⟩:=az (s.FO e ls);rw [E];unfold AZ.FO at E;have xO:=ae b1;have Y:=ae (aI h (aI O (aI U bl)));have b2:=ae a4;have cs:=O.cell;have f6:=ae hl;have nD:=ae ht;have F:=ae (aI b8 (aI b9 c0));have J:=ae a9;have b3:=ae (aU ht);clear h O U bl a4 s1 s2 s3 b1 z1 z2 ht b8 b9 c0 a9 hl
 by_cases hd:(s.dead || s.d.dead)=true
 ·rw [if_pos hd] at E J;have b4:=ae (show ∀ r q,aj ai W2 o2 r q->Wrote S A B D ps pd base w.heap.size Q (.int .i64 9) r q from fun r q st=>by rw [<-E];exact Wrote.same (Y.out.1.step0 st) rfl om);clear E;go_enter func197,ntmps197;go_wp2_with fail;rw [xO.out];refine J.out.mono ?_;rintro e1 r ⟨v3,q,rfl,u,rfl⟩;go_wp2_with fail;go_ret;exact ⟨_,q,rfl,((b2.out.trans u).mono (fun _ h=>h.elim)),b4.out r q u⟩
 ·rw [if_neg hd] at E J
  by_cases W:s.kept.Gg e ls=true
  ·rw [if_pos W] at E;rw [if_pos W] at J;have F:=ae (aI F.out.1 (aI F.out.2.1 (F.out.2.2 W)));have vJ:=ae E;clear E hd W;go_enter func197,ntmps197;go_wp2_with fail;rw [xO.out];refine J.out.mono ?_;rintro e1 r ⟨v3,q,rfl,u,rfl⟩;have h3:=Y.out.1.step0 u;have c3:=Y.out.2.1.step u id;have c4:=Y.out.2.2.1.step u id;have c6:=Y.out.2.2.2.step u id;have c7:=f6.out.step u id;have c8:=b2.out.trans u;have hS:=aI c3.cell (aI c4.cell c6.cell);clear cs u J;go_wp2_with fail;refine Aa (fun w'=>w'.cell? ⟨w.heap.size,0,none⟩=some (.pointer (some ⟨ps,0,none⟩))/\w'.cell? ⟨w.heap.size+1,0,none⟩=some (.int .u64 (e.toNat:Int))/\w'.cell? ⟨w.heap.size+1+1,0,none⟩=some (.slice la ls.length lc)) (fun _=>true) (by kernel_rfl) hS (fun f7 => ?_);refine tq 0 (h:=tq 2 (h:=tq 4 (h:=tq 6 (h:=tq 7 (h:=tq 8 (h:=tq 9 (h:=tO 1 (h:=?_))))))));go_wp2_with fail;refine (IG (Bytes.nil _ q) (by simp) 3).mono ?_;rintro e1 w4 ⟨v4,o4,rfl,a2,f8⟩;have a2:aj ai r q w4 o4:=(aj.refl ai r q).drew.trans a2;have c9:=c3.step a2 id;have d1:=c4.step a2 id;have d3:=c6.step a2 id;have d4:=aI c9.cell (aI d1.cell d3.cell);clear f7;go_wp2_with fail;refine ⟨fun _=>d4, ?_⟩;refine tO 3 (h:=?_);go_wp2_with fail;refine (Ef f8.bytes (by simp) e).mono ?_;rintro e1 w5 ⟨v5,o5,rfl,a6,f9⟩;have d5:=c9.step a6 id;have d6:=d1.step a6 id;have d7:=d3.step a6 id;have d8:=aI d5.cell (aI d6.cell d7.cell);clear d4;go_wp2_with fail;refine ⟨fun _=>d8, ?_⟩;refine tO 5 (h:=?_);go_wp2_with fail;have d9:=a2.trans a6;refine (Lm f9.bytes (c7.step d9 id) (by simp [Az];have:=F.out.2.2.2;omega) (by have:=F.out.2.2.1;omega)).mono ?_;rintro e1 w6 ⟨v6,o6,rfl,a7,e0⟩;have e3:=d5.step a7 id;have e4:=d6.step a7 id;have e5:=d7.step a7 id;have e6:=aI e3.cell (aI e4.cell e5.cell);have b5:=d9.trans a7;have g0:=c7.step b5 id;have b6:=ae (Tj (p:=e) (c:=e) g0 (by have:=F.out.2.2.1;omega) (fun x hx=>by have:=KG F.out.2.2 x hx;omega));unfold Dy at b6;clear d8;go_wp2_with fail;refine ⟨fun _=>e6, ?_⟩;refine tO 10 (h:=?_);go_wp2_with fail;refine b6.out.mono ?_;rintro e1 w7 ⟨v7,o7,rfl,a3,g1,rfl,wY,rfl⟩;obtain ⟨o7,e7⟩:=az (ext w6 o6);rw [e7] at a3 wY;have e8:=e3.step a3 id;have e9:=e4.step a3 id;have f0:=e5.step a3 id;have f1:=aI e8.cell (aI e9.cell f0.cell);have f2:=b5.trans a3;have g2:w.heap.size<=w6.heap.size:=(c8.trans b5).size;have b7:=ae (Lj nD.out (h3.step0 f2) F.out.1 F.out.2.1 v6 (3 :: (be 8 e++GR ls)) ((e0.congr (l':=3 :: (be 8 e++GR ls)) (by simp)).step a3 id).bytes e0.cap (by simp) (by simp [GR,Az];have:=F.out.2.2.2;omega) ⟨e,e,ls⟩ g1 (wY.low g2) F.out.2.2);unfold Dy at b7;have g3:=ae (c8.trans f2);clear e6 b6 e7;go_wp2_with fail;refine ⟨fun _=>f1, ?_⟩;refine tO 11 (h:=?_);go_wp2_with fail;refine b7.out.mono ?_;rintro e1 w9 ⟨v9,o9,rfl,a5,a8⟩;have f3:=aI (e8.step a5 b3.out).cell (aI (e9.step a5 b3.out).cell (f0.step a5 b3.out).cell);rw [vJ.out] at a8;obtain ⟨rfl,f4⟩:=a8;have a8:=ae (show Wrote S A B D ps pd base w.heap.size Q (.int .i64 Q.2) w9 o9 from ⟨rfl,f4⟩);have g4:=ae ((g3.out.mono (T':=qG S A B D) (fun _ h=>h.elim)).trans a5);clear a5 b7 f4 f1;go_wp2_with fail;refine ⟨fun _=>f3, ?_⟩;refine tq 12 (h:=tD (h:=?_));clear f3 hS;go_wp2_with fail;go_ret;exact ⟨_,o9,rfl,g4.out,a8.out⟩
  ·rw [if_neg W] at E;rw [if_neg W] at J;clear hd W;have b4:=ae (show ∀ r q,aj ai W2 o2 r q->Wrote S A B D ps pd base w.heap.size Q (.int .i64 1) r q from fun r q st=>by rw [<-E];exact Wrote.same (Y.out.1.step0 st) rfl om);clear E;go_enter func197,ntmps197;go_wp2_with fail;rw [xO.out];refine J.out.mono ?_;rintro e1 r ⟨v3,q,rfl,u,rfl⟩;go_wp2_with fail;go_ret;exact ⟨_,q,rfl,((b2.out.trans u).mono (fun _ h=>h.elim)),b4.out r q u⟩
theorem UD {w:World}{o:Own}{S A B D ps pd base j8:Nat}{s:AZ}(ht:Qw S A B D) (h:Bi w o S A B D ps pd base s) (e7:s.d.row.length<=600000) (e8:1<=s.pages/\s.pages<=4096) (lv:Value) (ls:List Ar) (hl:Lines w o j8 lv ls) (m7:ls.length<=1000) (j9:s.kept.lines.length<=1000) (e9:s.kept.Eu ls=true->small ls/\small s.kept.lines/\small (s.kept.lines++ls)) :
  Calls prog 92 #[.pointer (some ⟨ps,0,none⟩),lv] w (XL (qG S A B D) w o fun v w' o'=>Wrote S A B D ps pd base w.heap.size (s.append ls) v w' o'):=by
 have m8:∀ (fn:Fn) (first cap:Array Value) (w:World),(Instr.makeFunc fn first cap).run prog w = .ok (.func fn first cap) w:=fun _ _ _ _=>rfl
 obtain ⟨la,lc,rfl⟩:=hl.form;have s1:=(aj.refl ai w o).alloc (.cells #[.pointer (some ⟨ps,0,none⟩)] 92) (0,0);have bs:=Box.new w o 92 (.pointer (some ⟨ps,0,none⟩));have z1:(w.alloc (.cells #[.pointer (some ⟨ps,0,none⟩)] 92)).heap.size=w.heap.size+1:=by simp
 have s2:=(aj.refl ai (w.alloc (.cells #[.pointer (some ⟨ps,0,none⟩)] 92)) (Ak o w.heap.size (0,0))).alloc (.cells #[.slice la ls.length lc] 35) (0,0);have bl:=Box.new (w.alloc (.cells #[.pointer (some ⟨ps,0,none⟩)] 92)) (Ak o w.heap.size (0,0)) 35 (.slice la ls.length lc);rw [z1] at s2 bl
 replace bs:=bs.step s2 id
 have a8:=s1.trans s2
 replace h:=h.step0 a8
 replace hl:=hl.step a8 id
 have b8:=TD h 126 #[.pointer (some ⟨w.heap.size,0,none⟩), .pointer (some ⟨w.heap.size+1,0,none⟩)] (s.kept.Eu ls) Tryz.call126 (Wj h _ _ _ _ ls bs bl hl om j9);obtain ⟨W2,b9⟩:=az ((w.alloc (.cells #[.pointer (some ⟨ps,0,none⟩)] 92)).alloc (.cells #[.slice la ls.length lc] 35));rw [b9] at a8 h bs bl b8 hl;generalize Ak (Ak o w.heap.size (0,0)) (w.heap.size+1) (0,0)=o2 at *;obtain ⟨Q,E⟩:=az (s.append ls);rw [E];unfold AZ.append at E;have xO:=ae b9;have hH:=ae (aI h (aI bs bl));have c0:=ae a8;have cs:=bs.cell;have k3:=ae hl;have nD:=ae ht;have u:=ae (aI e7 (aI e8 e9));have Y:=ae b8;have f0:=ae (aU ht);clear h bs bl a8 s1 s2 b9 z1 ht e7 e8 e9 b8 hl
 by_cases hd:(s.dead || s.d.dead)=true
 ·rw [if_pos hd] at E Y;have c3:=ae (show ∀ q r,aj ai W2 o2 q r->Wrote S A B D ps pd base w.heap.size Q (.int .i64 9) q r from fun q r st=>by rw [<-E];exact Wrote.same (hH.out.1.step0 st) rfl om);clear E;go_enter func92,ntmps92;go_wp2_with fail;rw [xO.out];refine Y.out.mono ?_;rintro e1 q ⟨v3,r,rfl,F,rfl⟩;go_wp2_with fail;go_ret;exact ⟨_,r,rfl,((c0.out.trans F).mono (fun _ h=>h.elim)),c3.out q r F⟩
 ·rw [if_neg hd] at E Y
  by_cases a3:s.kept.Eu ls=true
  ·rw [if_pos a3] at E;rw [if_pos a3] at Y;have u:=ae (aI u.out.1 (aI u.out.2.1 (u.out.2.2 a3)));have vJ:=ae E;clear E hd a3;go_enter func92,ntmps92;go_wp2_with fail;rw [xO.out];refine Y.out.mono ?_;rintro e1 q ⟨v3,r,rfl,F,rfl⟩;have h3:=hH.out.1.step0 F;have c4:=hH.out.2.1.step F id;have f1:=hH.out.2.2.step F id;have f2:=k3.out.step F id;have c6:=c0.out.trans F;obtain ⟨kv,c7,f3⟩:=h3.box;obtain ⟨ka,kc,rfl⟩:=c7.form;have f4:=ae (OV f3);have k7:=c4.cell;obtain ⟨N,hN⟩:∃ N,N=S+A+B+D+1:=⟨_,rfl⟩;have f5:=ae (AB (P:=prog) q 37 _ LX);have f6:=Be q #[.int .u64 0, .int .u64 0, .slice none 0 0] 37 [.int .u64 (s.kept.promised.toNat:Int), .int .u64 (s.kept.current.toNat:Int), .slice ka s.kept.lines.length kc] rfl;obtain ⟨c8, -⟩:=Ba (P:=prog) (ty:=37) (vs:=[.int .u64 (s.kept.promised.toNat:Int), .int .u64 (s.kept.current.toNat:Int), .slice ka s.kept.lines.length kc]) (heap_alloc_new q (.cells [.int .u64 0, .int .u64 0, .slice none 0 0].toArray 37)) rfl (by kernel_rfl) rfl;rw [f6] at c8;have c9:=ae c8;have sN:=(aj.refl ai q r).alloc (.cells [.int .u64 (s.kept.promised.toNat:Int), .int .u64 (s.kept.current.toNat:Int), .slice ka s.kept.lines.length kc].toArray 37) (N,0);have bn:=heap_alloc_new q (.cells [.int .u64 (s.kept.promised.toNat:Int), .int .u64 (s.kept.current.toNat:Int), .slice ka s.kept.lines.length kc].toArray 37);have tn:Ak r q.heap.size (N,0) q.heap.size=(N,0):=Au _ _ _;have k8:w.heap.size<=q.heap.size:=c6.size;obtain ⟨w5,f7⟩:=az (q.alloc (.cells [.int .u64 (s.kept.promised.toNat:Int), .int .u64 (s.kept.current.toNat:Int), .slice ka s.kept.lines.length kc].toArray 37));rw [f7] at sN bn c9;generalize Ak r q.heap.size (N,0)=o5 at *;have h5:=h3.step0 sN;have f8:=c4.step sN id;have d1:=f1.step sN id;have d3:=f2.step sN id;have rW:=c7.step sN id;have f9:=c6.trans sN;have k9:w5.cell? ⟨q.heap.size,2,none⟩=some (.slice ka s.kept.lines.length kc):=ag bn 2;have l0:=d1.cell;have U:=(aj.refl ai w5 o5).alloc (.cells #[.slice ka s.kept.lines.length kc, .slice la ls.length lc] 35) (0,0);have g0:=dF w5 o5 (.slice ka s.kept.lines.length kc) (.slice la ls.length lc) 35;have g1:=ae (AkC g0 (rW.step U id) (d3.step U id) (by have:=u.out.2.2.2.2.1;rw [List.length_append] at this;omega));have yA:=(U.block q.heap.size (au bn) id).trans bn;have g2:=(U.own q.heap.size (au bn)).trans tn;have h6:=h5.step0 U;have g3:=f8.step U id;have g4:=d1.step U id;have g5:=d3.step U id;have g6:=f9.trans U;clear f3 c7 f6 c8 f7 sN bn tn h5 f8 d1 d3 rW f9 U g0 h3 c4 f1 f2 Y cs;generalize l1:Ak o5 w5.heap.size (0,0)=o6 at *;clear l1
   go_wp2_with (first
    | ((with_reducible apply Bo);exact f4.out;simp only [Act.put,GL,DL,lss])
    | ((with_reducible apply AU);exact f5.out;simp only [Act.put,GL,DL,lss])
    | ((with_reducible apply AC);exact c9.out;simp only [Act.put]))
   refine g1.out.mono ?_;rintro e1 w7 ⟨v7,o7,rfl,a2,wY⟩;obtain ⟨J,b2⟩:=az (q.heap.size);have a9:=(a2.block _ (au yA) id).trans yA;have d4:=(a2.own _ (au yA)).trans g2;rw [b2] at a9 d4;have h7:=h6.step0 a2;have g7:=g3.step a2 id;have g8:=g4.step a2 id;have g9:=g5.step a2 id;have h1:=g6.trans a2;have a6:=(aj.refl (ak N) w7 o7).setCell (a:=⟨J,2,none⟩) v7 (.inl (by show (o7 J).1=N;rw [d4]));have a4:=Ai (i:=2) v7 a9;simp only [DL,lss] at a4;have b3:¬ ak N 0:=fun h=>by change 0=N at h;omega
   have h8:=h7.step a6 (by rw [hN];exact Tv);have d5:=g7.step a6 b3;have d6:=g8.step a6 b3;have h2:=g9.step a6 b3;have b4:=wY.step a6 b3;have d7:=h1.setCell (a:=⟨J,2,none⟩) v7 (.inr (by rw [<-b2];exact k8));have m9:w7.cell? ⟨J,2,none⟩=some (.slice ka s.kept.lines.length kc):=ag a9 2;have n0:=Ap a9 2;obtain ⟨w8,d8⟩:=az (w7.setCell ⟨J,2,none⟩ v7);rw [d8] at a4 h8 d5 d6 h2 b4 d7;have l2:=ae b2;have h9:=ae d8;rw [l2.out];obtain ⟨va,vc,rfl⟩:=b4.form;have b5:=ae (fun (W:World) (O:Own) (st:aj ai w8 o7 W O)=>Tj (p:=s.kept.promised) (c:=s.kept.current) (b4.step st id) (by have:=u.out.2.2.2.2.1;omega) (fun x hx=>by have:=KG u.out.2.2.2.2 x hx;omega));unfold Dy at b5;obtain ⟨LL,i0⟩:=az ((s.kept.lines++ls).length);rw [i0] at b5 a4 h9;clear b2 d8 a6 h7 g7 g8 g9 h1 h6 g3 g4 g5 g6 a2 wY yA g2 k9 l0 g1 f4 f5 c9 k7 a9 F c6 b4;rw [i0];have i1:=aI d5.cell (aI d6.cell a4);go_wp2_with fail;rw [h9.out];refine Aa (fun w'=>w'.cell? ⟨w.heap.size,0,none⟩=some (.pointer (some ⟨ps,0,none⟩))/\w'.cell? ⟨w.heap.size+1,0,none⟩=some (.slice la ls.length lc)/\w'.heap[J]?=some (.cells [.int .u64 (s.kept.promised.toNat:Int), .int .u64 (s.kept.current.toNat:Int), .slice va LL vc].toArray 37 (0,0))) (fun _=>true) (by kernel_rfl) i1 (fun l3 => ?_);refine tq 0 (h:=tq 2 (h:=?_));refine Dt (i:=4) (v := .agg [.int .u64 (s.kept.promised.toNat:Int), .int .u64 (s.kept.current.toNat:Int), .slice va LL vc].toArray) rfl (by kernel_rfl) (fun _ _ _ h=>h) (yieldsIf_load_mid rfl 37 (.tmp 6) rfl J 0 rfl [.int .u64 (s.kept.promised.toNat:Int), .int .u64 (s.kept.current.toNat:Int), .slice va LL vc] _ (fun w h=>AV h.2.2) underlying37 rfl (by kernel_rfl)) (by assumption) ?_;simp only [Act.put,GL,DL,lss];refine tO 1 (h:=?_);go_wp2_with fail;refine (IG (Bytes.nil _ o7) (by simp) 4).mono ?_;rintro e1 w9 ⟨v9,o9,rfl,a5,l4⟩;have a5:aj ai w8 o7 w9 o9:=(aj.refl ai w8 o7).drew.trans a5;have i2:=d5.step a5 id;have i3:=d6.step a5 id;have d9:=(a5.block J (au a4) id).trans a4;have i4:=aI i2.cell (aI i3.cell d9);clear l3;go_wp2_with fail;refine ⟨fun _=>i4, ?_⟩;refine tO 3 (h:=?_);go_wp2_with fail;refine (Lm l4.bytes (h2.step a5 id) (by simp;have:=u.out.2.2.1.2;omega) (by have:=u.out.2.2.1.1;omega)).mono ?_;rintro e1 i5 ⟨l5,l6,rfl,b6,i6⟩;have i7:=i2.step b6 id;have i8:=i3.step b6 id;have e0:=(b6.block J (au d9) id).trans d9;have i9:=aI i7.cell (aI i8.cell e0);have e3:=a5.trans b6;clear i4;go_wp2_with fail;refine ⟨fun _=>i9, ?_⟩;refine tO 5 (h:=?_);go_wp2_with fail;refine (b5.out _ _ e3).mono ?_;rintro e1 n4 ⟨n5,l7,rfl,a7,l8,rfl,j0,rfl⟩;obtain ⟨l7,j1⟩:=az (ext i5 l6);rw [j1] at a7 j0;have j2:=i7.step a7 id;have j3:=i8.step a7 id;have e4:=(a7.block J (au e0) id).trans e0;have j4:=aI j2.cell (aI j3.cell e4);have e5:=e3.trans a7;have l9:w.heap.size<=i5.heap.size:=(d7.trans e3).size;have e6:=ae (Lj nD.out (h8.step0 e5) u.out.1 u.out.2.1 l5 (4 :: GR ls) ((i6.congr (l':=4 :: GR ls) (by simp)).step a7 id).bytes i6.cap (by simp) (by simp [GR,Az];have:=u.out.2.2.1.2;omega) { s.kept with lines:=s.kept.lines++ls } l8 (j0.low l9) u.out.2.2.2.2);unfold Dy at e6;have m0:=ae (d7.trans e5);have m1:=ae ((e5.own J (au a4)).trans d4);clear i9 b5 j1;go_wp2_with fail;refine ⟨fun _=>j4, ?_⟩;refine tO 6 (h:=?_);go_wp2_with fail;refine e6.out.mono ?_;rintro e1 m2 ⟨n6,j5,rfl,b1,b7⟩;have m5:=(b1.block J (au e4) (by rw [m1.out];exact (Tv N hN).2)).trans e4;have j6:=aI (j2.step b1 f0.out).cell (aI (j3.step b1 f0.out).cell m5);rw [vJ.out] at b7;obtain ⟨rfl,j7⟩:=b7;have b7:=ae (show Wrote S A B D ps pd base w.heap.size Q (.int .i64 Q.2) m2 j5 from ⟨rfl,j7⟩);have m6:=ae ((m0.out.mono (T':=qG S A B D) (fun _ h=>h.elim)).trans b1);clear b1 e6 j7 j4;go_wp2_with fail;refine ⟨fun _=>j6, ?_⟩;refine tq 7 (h:=tD (h:=?_));clear j6 i1;go_wp2_with fail;go_ret;exact ⟨_,j5,rfl,m6.out,b7.out⟩
  ·rw [if_neg a3] at E;rw [if_neg a3] at Y;clear hd a3;have c3:=ae (show ∀ q r,aj ai W2 o2 q r->Wrote S A B D ps pd base w.heap.size Q (.int .i64 1) q r from fun q r st=>by rw [<-E];exact Wrote.same (hH.out.1.step0 st) rfl om);clear E;go_enter func92,ntmps92;go_wp2_with fail;rw [xO.out];refine Y.out.mono ?_;rintro e1 q ⟨v3,r,rfl,F,rfl⟩;go_wp2_with fail;go_ret;exact ⟨_,r,rfl,((c0.out.trans F).mono (fun _ h=>h.elim)),c3.out q r F⟩
structure oQ where
 b:List UInt8
 bad:Bool
namespace oQ
def take (n:Nat) (m:oQ):Option (List UInt8) × oQ:=
 if m.bad then (none,m) else if m.b.length<n then (none,{ m with bad:=true }) else (some (m.b.take n),{ m with b:=m.b.drop n })
def num (n:Nat) (m:oQ):BitVec 64 × oQ:=(((m.take n).1.map Go.Proofs.YtffkdillijmamaaGreat.num).getD 0,(m.take n).2)
def txt (n:Nat) (m:oQ):List UInt8 × oQ:=((m.take n).1.getD [],(m.take n).2)
def text (m:oQ):List UInt8 × oQ:=(m.num 4).2.txt (m.num 4).1.toNat
def count (most:Nat) (m:oQ):Nat × oQ:=if most<(m.num 8).1.toNat then (0,{ (m.num 8).2 with bad:=true }) else ((m.num 8).1.toNat,(m.num 8).2)
def done (m:oQ):Int:=if m.bad || decide (0<m.b.length) then 2 else 0
end oQ
def Ep (w:World) (o:Own) (Z p:Nat) (m:oQ):Prop:=
 ∃ bv,w.heap[p]?=some (.cells #[bv, .bool m.bad] 267 (0,0))/\o p=(Z,0)/\Bytes w o bv m.b
theorem Ep.step {T:Nat->Prop}{w w':World}{o o':Own}{Z p:Nat}{m:oQ}(h:Ep w o Z p m) (s:aj T w o w' o') (u:¬ T Z) (h0:¬ T 0):Ep w' o' Z p m:=by
 obtain ⟨bv,q,r,E⟩:=h;have hl:=au q;exact ⟨bv,by rw [s.block p hl (by rw [r];exact u)];exact q,by rw [s.own p hl];exact r,E.step s h0⟩
theorem addr_add (b off k:Nat):(⟨b,off,none⟩:Addr).add k=⟨b,off+k,none⟩:=Addr.add_mid b off k
theorem Nl {w:World}{o:Own}{bv:Value}{l:List UInt8}(h:Bytes w o bv l) (n:Nat) (hn:n<=l.length) :
  ∃ v,(Instr.sliceAt 29 bv none (some (.int .u64 (n:Int))) (some (.int .u64 (n:Int)))).run prog w = .ok v w/\Bytes w o v (l.take n):=by
 have q:prog.underlying 29=some (.slice (prog.elem 29)):=by kernel_rfl
 have u:(sizeOf (prog.elem 29)).run prog w = .ok 1 w:=by
  have:prog.elem 29=5:=by kernel_rfl
  rw [this];have E:(prog.info? 5).map (·.size)=some 1:=by kernel_rfl
  cases hq:prog.info? 5 with
  | none=>simp [hq] at E
  | some i=>simp [hq] at E;simp [sizeOf,typeInfo,hq,E]
 rcases h with ⟨⟨a,c,rfl⟩,h0,_⟩ | ⟨b,off,cap,rfl,hl,O,F,hb,J⟩
 ·have r:n=0:=om
  subst r;refine ⟨_, ?_, .inl ⟨⟨a,0,rfl⟩,by simp,by simp⟩⟩;rw [run_sliceAt_slice _ _ _ _ _ _ q,run_slice_hm w 29 a 0 c q .u64 .u64 ((0:Nat):Int) ((0:Nat):Int) om om om,u];rfl
 ·by_cases r:n=0
  ·subst r;refine ⟨_, ?_, .inl ⟨⟨some ⟨b,off,none⟩,0,rfl⟩,by simp,by simp⟩⟩;rw [run_sliceAt_slice _ _ _ _ _ _ q,run_slice_hm w 29 _ l.length cap q .u64 .u64 ((0:Nat):Int) ((0:Nat):Int) om om om,u];rfl
  ·refine ⟨.slice (some ⟨b,off,none⟩) n n, ?_, .inr ⟨b,off,n,by rw [List.length_take,Nat.min_eq_left hn],by rw [List.length_take];omega,om,F,hb, ?_⟩⟩
   ·rw [run_sliceAt_slice _ _ _ _ _ _ q,run_slice_hm w 29 _ l.length cap q .u64 .u64 n n om om om,u];simp only [Result.andThen_ok,sliced,Int.toNat_natCast,Nat.sub_zero,if_neg r,Option.map_some,addr_add,Nat.zero_mul,Nat.add_zero]
   ·rw [<-Ky];exact ER J 0 n
theorem Qp {w:World}{o:Own}{bv:Value}{l:List UInt8}(h:Bytes w o bv l) (n:Nat) (hn:n<=l.length) :
  ∃ v,(Instr.sliceAt 29 bv (some (.int .u64 (n:Int))) none none).run prog w = .ok v w/\Bytes w o v (l.drop n):=by
 have q:prog.underlying 29=some (.slice (prog.elem 29)):=by kernel_rfl
 have r:(sizeOf (prog.elem 29)).run prog w = .ok 1 w:=by
  have:prog.elem 29=5:=by kernel_rfl
  rw [this];have u:(prog.info? 5).map (·.size)=some 1:=by kernel_rfl
  cases hq:prog.info? 5 with
  | none=>simp [hq] at u
  | some i=>simp [hq] at u;simp [sizeOf,typeInfo,hq,u]
 rcases h with ⟨⟨a,c,rfl⟩,h0,_⟩ | ⟨b,off,cap,rfl,hl,O,F,hb,J⟩
 ·have E:n=0:=om
  subst E;refine ⟨_, ?_, .inl ⟨⟨if c=0 then a else a.map (·.add (0*1)),c - 0,rfl⟩,by simpa using h0,by rw [List.eq_nil_of_length_eq_zero h0];rfl⟩⟩
  rw [run_sliceAt_slice _ _ _ _ _ _ q,run_slice_l w 29 a 0 c q .u64 ((0:Nat):Int) om om,r];rfl
 ·by_cases E:n=l.length
  ·refine ⟨.slice (if cap=n then some ⟨b,off,none⟩ else some ⟨b,off+n,none⟩) 0 (cap - n), ?_, .inl ⟨⟨_,_,rfl⟩,by simp;omega,by rw [List.drop_eq_nil_of_le om];rfl⟩⟩
   rw [run_sliceAt_slice _ _ _ _ _ _ q,run_slice_l w 29 _ l.length cap q .u64 n om om,r];simp only [Result.andThen_ok,sliced,Int.toNat_natCast,Option.map_some,addr_add,Nat.mul_one];rw [E,Nat.sub_self]
  ·refine ⟨.slice (some ⟨b,off+n,none⟩) (l.length - n) (cap - n), ?_, .inr ⟨b,off+n,cap - n,by rw [List.length_drop],by rw [List.length_drop];omega,om,F,hb, ?_⟩⟩
   ·rw [run_sliceAt_slice _ _ _ _ _ _ q,run_slice_l w 29 _ l.length cap q .u64 n om om,r];simp only [Result.andThen_ok,sliced,Int.toNat_natCast,Option.map_some,addr_add,Nat.mul_one];rw [if_neg om]
   ·have:=ER J n (l.length - n);rw [List.take_of_length_le (by rw [List.length_drop,Bh];omega),Np] at this;exact this
theorem NH {w:World}{o:Own}{v:Value}{l:List UInt8}(Z:Nat) (h:Bytes w o v l) (hl:l.length<=1000000) :
  Calls prog 142 #[v] w (XL ai w o fun v w' o'=>∃ p,w.heap.size<=p/\v = .pointer (some ⟨p,0,none⟩)/\Ep w' o' Z p ⟨l,false⟩):=by
 have hc:=ae (clone_any h om);clear h;go_enter func142,ntmps142;go_wp2_with fail;refine hc.out.mono ?_;rintro e q ⟨r,o1,rfl,u,E⟩;have F:=u.alloc (.cells #[r, .bool false] 267) (Z,0);have J:Ep (q.alloc (.cells #[r, .bool false] 267)) (Ak o1 q.heap.size (Z,0)) Z q.heap.size ⟨l,false⟩:=
  ⟨r,heap_alloc_new q _,Au _ _ _,E.bytes.step ((aj.refl ai q o1).alloc _ (Z,0)) id⟩
 have O:=ae (aI F J);have U:=u.size;obtain ⟨a,c,hv⟩:=Aq E.bytes;subst hv;clear F J E u;go_wp2_with fail;go_ret;exact ⟨_,_,rfl,O.out.1,q.heap.size,U,rfl,O.out.2⟩
theorem WA {w:World}{o:Own}{v:Value}{l:List UInt8}(h:Bytes w o v l) (Y:l.length<=1000000) :
  Calls prog 202 #[v] w fun e w'=>e = .returned (.int .u64 ((num l).toNat:Int))/\w=w':=by
 obtain ⟨a,c,hv⟩:=Aq h;have E:∀ i (q:i<l.length),∃ b off,a=some ⟨b,off,none⟩/\w.cell? ⟨b,off+i,none⟩=some (.int .u8 ((l[i].toNat:Int))):=by
  intro i q
  rcases h.cases with ⟨_,rfl⟩ | ⟨b,off,cap,r,hl,hm,ho,hb,J⟩
  ·simp at q
  ·rw [hv] at r;simp only [Value.slice.injEq] at r;refine ⟨b,off,r.1,J i _ ?_⟩;rw [OW,List.getElem?_eq_getElem q];rfl
 subst hv;clear h;go_enter func202,ntmps202;go_wp2_with fail
 go_loop [3,8] (fun n i=>∃ k:Nat,k<=l.length/\i = .int .i64 k/\n = .int .u64 ((num (l.take k)).toNat:Int)) (fun _ i=>l.length - (intOf i).toNat)
 case atStart=>exact ⟨0,Nat.zero_le _,rfl,rfl⟩
 case round =>
  obtain ⟨k,hk,rfl,rfl⟩:=hrel
  by_cases u:k<l.length
  ·obtain ⟨b,off,rfl,hc⟩:=E k u;have F:num (l.take (k+1))=(num (l.take k) <<< 8) ||| BitVec.ofNat 64 l[k].toNat:=by
    rw [List.take_succ_eq_append_getElem u,Ve]
   have O:=ae F;clear F E;generalize U:l[k]=cc at *;clear U;go_wp2_with fail
   go_round
   case rel=>exact ⟨k+1,u,by go_num,by rw [O.out, <-Nr, <-NC, <-wrap_u8]⟩
   case measure=>simp [intOf];omega
  ·have W:k=l.length:=om
   subst W;rw [List.take_length];go_wp2_with fail;go_ret;exact ⟨rfl,rfl⟩
theorem Xv {w:World}{o:Own}{v:Value}{l:List UInt8}(h:Bytes w o v l) (u:l.length<=1000000):Calls prog 205 #[v] w (XL ai w o fun v w' o'=>Ew w w' o' v l):=by
 have hc:=ae (clone_any h om);clear h;go_enter func205,ntmps205;go_wp2_with fail;refine hc.out.mono ?_;rintro e E ⟨F,o1,rfl,q,r⟩;go_wp2_with fail;go_ret;exact ⟨_,o1,rfl,q,r⟩
theorem NF {w:World}{o:Own}{Z p:Nat}{m:oQ}(h:Ep w o Z p m) (hZ:Z ≠ 0) (hm:m.b.length<=1000000) (n:Nat) (hn:n<=8) :
  Calls prog 201 #[.pointer (some ⟨p,0,none⟩), .int .u64 (n:Int), .func (.func 202) #[] #[]] w (XL (ak Z) w o fun v w' o'=>v = .int .u64 ((m.num n).1.toNat:Int)/\Ep w' o' Z p (m.num n).2):=by
 obtain ⟨bv,r,u,E⟩:=h;obtain ⟨L,O⟩:=az (m.b.length);have a9:(0:Int)<=(n:Int)/\(n:Int)<=8:=om
 have b1:(0:Int)<=(L:Int)/\(L:Int)<=1000000:=om
 have Y:w.cell? ⟨p,0,none⟩=some bv:=ag (cs:=[_,_]) r 0;have c1:w.cell? ⟨p,1,none⟩=some (.bool m.bad):=ag (cs:=[_,_]) r 1;have f0:w.frozen? ⟨p,0,none⟩=false:=Ap (cs:=[_,_]) r 0;have f1:w.frozen? ⟨p,1,none⟩=false:=Ap (cs:=[_,_]) r 1;have b2:=Tryz.call202;obtain ⟨q,hq⟩:=az (m.take n);have yV:=ae hq;unfold oQ.num;rw [hq];unfold oQ.take at hq;have h0:¬ ak Z 0:=fun h=>hZ h.symm;have hH:=ae (aI r (aI u E));obtain ⟨ba,bc,rfl⟩:=Aq E
 cases hb:m.bad with
 | true =>
  rw [hb] at c1;rw [if_pos hb] at hq;have F:=ae (show q.1=none/\Ep w o Z p q.2 from by rw [<-hq];exact ⟨rfl,_,r,u,E⟩);clear hq r u E hb;go_enter func201,ntmps201;go_wp2_with fail;go_ret;exact ⟨_,o,rfl,aj.refl _ _ _,by rw [F.out.1];rfl,F.out.2⟩
 | false =>
  rw [hb] at c1;rw [if_neg (by rw [hb];simp)] at hq
  by_cases b3:L<n
  ·rw [if_pos om] at hq;have a7:(L:Int)<(n:Int):=om
   have J:=(aj.refl (ak Z) w o).setCell (a:=⟨p,1,none⟩) (.bool true) (.inl (by show (o p).1=Z;rw [u]));have F:=ae (show q.1=none/\Ep (w.setCell ⟨p,1,none⟩ (.bool true)) o Z p q.2 from by rw [<-hq];exact ⟨rfl,_,Ai (cs:=[_,_]) (i:=1) _ r,u,E.step J h0⟩);have U:=ae J;rw [O] at Y;clear hq r u E hb J hH;go_enter func201,ntmps201;go_wp2_with fail;go_ret;exact ⟨_,o,rfl,U.out,by rw [F.out.1];rfl,F.out.2⟩
  ·rw [if_neg om] at hq;have a7:¬ (L:Int)<(n:Int):=om
   obtain ⟨v1,r1,a3⟩:=Nl E n om;obtain ⟨v2,r2,W⟩:=Qp E n om;obtain ⟨a2,d2,e2⟩:=Aq W;rw [List.length_drop,O] at e2;obtain ⟨L2,a4⟩:=az (L - n);rw [a4] at e2;subst e2;clear a4;have J:=(aj.refl (ak Z) w o).setCell (a:=⟨p,0,none⟩) (.slice a2 L2 d2) (.inl (by show (o p).1=Z;rw [u]));have F:=ae (show q.1=some (m.b.take n)/\Ep (w.setCell ⟨p,0,none⟩ (.slice a2 L2 d2)) o Z p q.2 from by rw [<-hq];exact ⟨rfl,_,Ai (cs:=[_,_]) (i:=0) _ r,u,W.step J h0⟩);have a8:=ae (WA (a3.step J h0) (by rw [List.length_take];omega));have U:=ae J;have a5:=ae r1;have a6:=ae r2;rw [O] at Y a5 a6;clear hq r u E hb J r1 r2 a3 W hH;go_enter func201,ntmps201
   go_wp2_with ((with_reducible apply FM);(first | exact a5.out | exact a6.out);simp only [Act.put,GL,DL,lss])
   refine a8.out.mono ?_;rintro e w3 ⟨rfl,rfl⟩;go_wp2_with fail;go_ret;exact ⟨_,o,rfl,U.out,by rw [F.out.1];rfl,F.out.2⟩
theorem Yr {w:World}{o:Own}{Z p:Nat}{m:oQ}(h:Ep w o Z p m) (hZ:Z ≠ 0) (hm:m.b.length<=1000000) (n:Nat) (hn:n<=4294967295) :
  Calls prog 204 #[.pointer (some ⟨p,0,none⟩), .int .u64 (n:Int), .func (.func 205) #[] #[]] w (XL (ak Z) w o fun v w' o'=>(Bytes w' o' v (m.txt n).1/\CV w.heap.size v)/\Ep w' o' Z p (m.txt n).2):=by
 obtain ⟨bv,r,u,E⟩:=h;obtain ⟨L,U⟩:=az (m.b.length);have b2:(0:Int)<=(n:Int)/\(n:Int)<=4294967295:=om
 have b3:(0:Int)<=(L:Int)/\(L:Int)<=1000000:=om
 have Y:w.cell? ⟨p,0,none⟩=some bv:=ag (cs:=[_,_]) r 0;have c1:w.cell? ⟨p,1,none⟩=some (.bool m.bad):=ag (cs:=[_,_]) r 1;have f0:w.frozen? ⟨p,0,none⟩=false:=Ap (cs:=[_,_]) r 0;have f1:w.frozen? ⟨p,1,none⟩=false:=Ap (cs:=[_,_]) r 1;have b4:=Tryz.call205;obtain ⟨q,hq⟩:=az (m.take n);have yV:=ae hq;unfold oQ.txt;rw [hq];unfold oQ.take at hq;have h0:¬ ak Z 0:=fun h=>hZ h.symm;have hH:=ae (aI r (aI u E));obtain ⟨ba,bc,rfl⟩:=Aq E
 cases hb:m.bad with
 | true =>
  rw [hb] at c1;rw [if_pos hb] at hq;have F:=ae (show q.1=none/\Ep w o Z p q.2 from by rw [<-hq];exact ⟨rfl,_,r,u,E⟩);clear hq r u E hb;go_enter func204,ntmps204;go_wp2_with fail;go_ret;exact ⟨_,o,rfl,aj.refl _ _ _,by rw [F.out.1];exact ⟨Bytes.nil _ _,CV.nil _ _ _⟩,F.out.2⟩
 | false =>
  rw [hb] at c1;rw [if_neg (by rw [hb];simp)] at hq
  by_cases b5:L<n
  ·rw [if_pos om] at hq;have a9:(L:Int)<(n:Int):=om
   have J:=(aj.refl (ak Z) w o).setCell (a:=⟨p,1,none⟩) (.bool true) (.inl (by show (o p).1=Z;rw [u]));have F:=ae (show q.1=none/\Ep (w.setCell ⟨p,1,none⟩ (.bool true)) o Z p q.2 from by rw [<-hq];exact ⟨rfl,_,Ai (cs:=[_,_]) (i:=1) _ r,u,E.step J h0⟩);have O:=ae J;rw [U] at Y;clear hq r u E hb J hH;go_enter func204,ntmps204;go_wp2_with fail;go_ret;exact ⟨_,o,rfl,O.out,by rw [F.out.1];exact ⟨Bytes.nil _ _,CV.nil _ _ _⟩,F.out.2⟩
  ·rw [if_neg om] at hq;have a9:¬ (L:Int)<(n:Int):=om
   obtain ⟨v1,r1,a3⟩:=Nl E n om;obtain ⟨v2,r2,W⟩:=Qp E n om;obtain ⟨a2,d2,e2⟩:=Aq W;rw [List.length_drop,U] at e2;obtain ⟨L2,a4⟩:=az (L - n);rw [a4] at e2;subst e2;clear a4;have J:=(aj.refl (ak Z) w o).setCell (a:=⟨p,0,none⟩) (.slice a2 L2 d2) (.inl (by show (o p).1=Z;rw [u]));have F:=ae (show q.1=some (m.b.take n)/\Ep (w.setCell ⟨p,0,none⟩ (.slice a2 L2 d2)) o Z p q.2 from by rw [<-hq];exact ⟨rfl,_,Ai (cs:=[_,_]) (i:=0) _ r,u,W.step J h0⟩);have b1:=ae (Xv (a3.step J h0) (by rw [List.length_take];omega));have O:=ae J;have a5:=ae r1;have a6:=ae r2;rw [U] at Y a5 a6;clear hq r u E hb J r1 r2 a3 W hH;go_enter func204,ntmps204
   go_wp2_with ((with_reducible apply FM);(first | exact a5.out | exact a6.out);simp only [Act.put,GL,DL,lss])
   refine b1.out.mono ?_;rintro e w3 ⟨v3,o3,rfl,a7,a8⟩;go_wp2_with fail;go_ret;exact ⟨_,o3,rfl,O.out.trans (a7.only Z),by rw [F.out.1];exact ⟨a8.bytes,a8.fresh.low (by have:=O.out.size;omega)⟩,F.out.2.step a7 id id⟩
theorem oQ.EC (n:Nat) (m:oQ):(m.num n).2.b.length<=m.b.length:=by
 unfold oQ.num oQ.take;split
 ·exact Nat.le_refl _
 ·split
  ·exact Nat.le_refl _
  ·show (m.b.drop n).length<=_;rw [List.length_drop];omega
theorem oQ.cZ (n:Nat) (m:oQ):(m.txt n).2.b.length<=m.b.length/\(m.txt n).1.length<=m.b.length:=by
 unfold oQ.txt oQ.take;split
 ·exact ⟨Nat.le_refl _,by simp⟩
 ·split
  ·exact ⟨Nat.le_refl _,by simp⟩
  ·refine ⟨?_, ?_⟩
   ·show (m.b.drop n).length<=_;rw [List.length_drop];omega
   ·show (m.b.take n).length<=_;rw [List.length_take];omega
theorem oQ.EL {n:Nat}(hn:n<=8) (m:oQ):(m.num n).1.toNat<256 ^ n \/ (m.num n).1=0:=by
 unfold oQ.num oQ.take;split
 ·exact .inr rfl
 ·split
  ·exact .inr rfl
  ·rename_i h1 h2
   left
   show (Go.Proofs.YtffkdillijmamaaGreat.num (m.b.take n)).toNat<_;have hl:(m.b.take n).length=n:=by rw [List.length_take];omega
   rw [Go.Proofs.YtffkdillijmamaaGreat.EL om];have:=Jg (m.b.take n);rw [hl] at this;exact this
section
variable {w:World}{o:Own}{Z p:Nat}{m:oQ}
theorem NI (h:Ep w o Z p m) (E:Z ≠ 0) (F:m.b.length<=1000000) :
  Calls prog 143 #[.pointer (some ⟨p,0,none⟩)] w (XL (ak Z) w o fun v w' o'=>v = .int .u8 (((m.num 1).1.toNat % 256:Nat):Int)/\Ep w' o' Z p (m.num 1).2):=by
 have hc:=ae (NF h E F 1 om);have q:=oQ.EL (n:=1) om m;have r:(m.num 1).1.toNat<256:=by
  rcases q with q | q
  ·simpa using q
  ·rw [q];decide
 have O:(0:Int)<=((m.num 1).1.toNat:Int)/\((m.num 1).1.toNat:Int)<256:=om
 have u:(m.num 1).1.toNat % 256=(m.num 1).1.toNat:=Nat.mod_eq_of_lt r;rw [u];clear q h u r;go_enter func143,ntmps143;go_wp2_with fail;refine hc.out.mono ?_;rintro e U ⟨W,o1,rfl,q,rfl,J⟩;go_wp2_with fail;go_ret;exact ⟨_,o1,rfl,q,rfl,J⟩
theorem EJ (h:Ep w o Z p m) (q:Z ≠ 0) (r:m.b.length<=1000000) :
  Calls prog 144 #[.pointer (some ⟨p,0,none⟩)] w (XL (ak Z) w o fun v w' o'=>v = .int .u64 ((m.num 8).1.toNat:Int)/\Ep w' o' Z p (m.num 8).2):=by
 have hc:=ae (NF h q r 8 om);clear h;go_enter func144,ntmps144;go_wp2_with fail;refine hc.out.mono ?_;rintro e F ⟨J,o1,rfl,u,rfl,E⟩;go_wp2_with fail;go_ret;exact ⟨_,o1,rfl,u,rfl,E⟩
theorem Rq (h:Ep w o Z p m) (u:Z ≠ 0) (F:m.b.length<=1000000) :
  Calls prog 146 #[.pointer (some ⟨p,0,none⟩)] w (XL (ak Z) w o fun v w' o'=>(Bytes w' o' v m.text.1/\CV w.heap.size v)/\Ep w' o' Z p m.text.2):=by
 have hc:=ae (NF h u F 4 om);have q:=oQ.EL (n:=4) om m;have J:(m.num 4).1.toNat<=4294967295:=by
  rcases q with q | q
  ·have:(256:Nat) ^ 4=4294967296:=by decide
   omega
  ·rw [q];decide
 have U:=oQ.EC 4 m;have E:=ae (fun (W:World) (O:Own) (r:Ep W O Z p (m.num 4).2)=>Yr r u om (m.num 4).1.toNat J);clear q h U;unfold oQ.text;generalize (m.num 4).1.toNat=n4 at *;generalize (m.num 4).2=m4 at *;go_enter func146,ntmps146;go_wp2_with fail;refine hc.out.mono ?_;rintro e w1 ⟨v1,o1,rfl,q,rfl,r⟩;have Y:=ae (E.out _ _ r);have a2:=q.size;clear hc E;go_wp2_with fail;refine Y.out.mono ?_;rintro e w2 ⟨v2,o2,rfl,a3,⟨hb,hf⟩,a4⟩;go_wp2_with fail;go_ret;exact ⟨_,o2,rfl,q.trans a3,⟨hb,hf.low a2⟩,a4⟩
theorem aB (h:Ep w o Z p m) (F:Z ≠ 0) :
  Calls prog 203 #[.pointer (some ⟨p,0,none⟩)] w (XL (ak Z) w o fun v w' o'=>v = .tuple #[]/\Ep w' o' Z p { m with bad:=true }):=by
 obtain ⟨bv,q,r,E⟩:=h;have c1:w.cell? ⟨p,1,none⟩=some (.bool m.bad):=ag (cs:=[_,_]) q 1;have U:w.frozen? ⟨p,1,none⟩=false:=Ap (cs:=[_,_]) q 1;have u:=(aj.refl (ak Z) w o).setCell (a:=⟨p,1,none⟩) (.bool true) (.inl (by show (o p).1=Z;rw [r]));have J:=ae (show Ep (w.setCell ⟨p,1,none⟩ (.bool true)) o Z p { m with bad:=true } from ⟨_,Ai (cs:=[_,_]) (i:=1) _ q,r,E.step u (fun h=>F h.symm)⟩);have O:=ae u;clear q r E u;go_enter func203,ntmps203;go_wp2_with fail
 first | go_end0 | refine bodyPost_ret (results_none rfl _ _ _) rfl ?_
 exact ⟨_,o,rfl,O.out,rfl,J.out⟩
theorem Je (h:Ep w o Z p m) (O:Z ≠ 0) (U:m.b.length<=1000000) (r:Nat) (a5:r<=1000000) :
  Calls prog 145 #[.pointer (some ⟨p,0,none⟩), .int .i64 (r:Int)] w (XL (ak Z) w o fun v w' o'=>v = .int .i64 ((m.count r).1:Int)/\Ep w' o' Z p (m.count r).2):=by
 have hc:=ae (EJ h O U);have W:=(m.num 8).1.isLt;obtain ⟨q,hq⟩:=az (m.count r);rw [hq];unfold oQ.count at hq;generalize (m.num 8).1.toNat=u at *;generalize (m.num 8).2=m8 at *;have a6:(0:Int)<=(u:Int)/\(u:Int)<18446744073709551616:=om
 have a7:(0:Int)<=(r:Int)/\(r:Int)<=1000000:=om
 clear h W
 by_cases hb:r<u
 ·rw [if_pos hb] at hq;have Y:(r:Int)<(u:Int):=om
  have E:=ae hq;clear hq;go_enter func145,ntmps145;go_wp2_with fail;refine hc.out.mono ?_;rintro e w1 ⟨v1,o1,rfl,F,rfl,J⟩;have a2:=ae (aB J O);clear hc;go_wp2_with fail;refine a2.out.mono ?_;rintro e w2 ⟨v2,o2,rfl,a3,rfl,a4⟩;go_wp2_with fail;go_ret;exact ⟨_,o2,rfl,F.trans a3,by rw [<-E.out];rfl,by rw [<-E.out];exact a4⟩
 ·rw [if_neg hb] at hq;have Y:¬ (r:Int)<(u:Int):=om
  have a8:(u:Int)<=1000000:=om
  have E:=ae hq;clear hq;go_enter func145,ntmps145;go_wp2_with fail;refine hc.out.mono ?_;rintro e w1 ⟨v1,o1,rfl,F,rfl,J⟩;clear hc;go_wp2_with fail;go_ret;exact ⟨_,o1,rfl,F,by rw [<-E.out];rfl,by rw [<-E.out];exact J⟩
theorem II (h:Ep w o Z p m):Calls prog 147 #[.pointer (some ⟨p,0,none⟩)] w fun e w'=>e = .returned (.int .i64 m.done)/\w=w':=by
 obtain ⟨bv,u,F,E⟩:=h;have O:w.cell? ⟨p,0,none⟩=some bv:=ag (cs:=[_,_]) u 0;have c1:w.cell? ⟨p,1,none⟩=some (.bool m.bad):=ag (cs:=[_,_]) u 1;obtain ⟨U,W,rfl⟩:=Aq E;obtain ⟨D,q⟩:=az (m.done);rw [q];unfold oQ.done at q;generalize m.b.length=L at *;clear u F E
 cases hb:m.bad with
 | true =>
  rw [hb] at c1 q;have r:=ae q;clear q hb;go_enter func147,ntmps147;go_wp2_with fail;go_ret;exact ⟨by rw [<-r.out];rfl,rfl⟩
 | false =>
  rw [hb] at c1 q
  by_cases hl:0<L
  ·have J:(0:Int)<(L:Int):=om
   have r:=ae (show D=2 by rw [<-q];simp [hl]);clear q hb hl;go_enter func147,ntmps147;go_wp2_with fail;go_ret;exact ⟨by rw [r.out];rfl,rfl⟩
  ·have J:¬ (0:Int)<(L:Int):=om
   have r:=ae (show D=0 by rw [<-q];simp [hl]);clear q hb hl;go_enter func147,ntmps147;go_wp2_with fail;go_ret;exact ⟨by rw [r.out];rfl,rfl⟩
end
def Ce:Nat->oQ->List Ar × oQ
 | 0,m=>([],m)
 | k+1,m=>((Ce k m).1++[⟨((Ce k m).2.num 8).1,((Ce k m).2.num 8).2.text.1⟩],((Ce k m).2.num 8).2.text.2)
def oQ.lines (m:oQ):List Ar × oQ:=Ce (m.count 256).1 (m.count 256).2
theorem oQ.ZE (m:oQ):m.text.2.b.length<=m.b.length:=by
 unfold oQ.text;have q:=oQ.EC 4 m;have r:=(oQ.cZ (m.num 4).1.toNat (m.num 4).2).1;omega
theorem NG (k:Nat) (m:oQ):(Ce k m).2.b.length<=m.b.length/\(Ce k m).1.length=k:=by
 induction k with
 | zero=>exact ⟨Nat.le_refl _,rfl⟩
 | succ k q =>
  have r:=oQ.EC 8 (Ce k m).2;have u:=oQ.ZE ((Ce k m).2.num 8).2;refine ⟨?_,by simp [Ce,q.2]⟩;show ((Ce k m).2.num 8).2.text.2.b.length<=_;omega
theorem oQ.IW (q:Nat) (m:oQ):(m.count q).2.b.length<=m.b.length/\(m.count q).1<=q:=by
 have r:=oQ.EC 8 m;unfold oQ.count;split
 ·exact ⟨r,Nat.zero_le _⟩
 ·rename_i h;exact ⟨r,by show (m.num 8).1.toNat<=q;omega⟩
def ArG (w:World) (o:Own) (base:Nat) (t:Nat × Nat) (v:Value) (ls:List Ar):Prop:=
 ∃ cs,w.ownsRow base 41 2 v ls.length cs/\(∀ g,v.ownBlock=some g->o g=t)/\sW w o cs ls/\∀ u ∈ cs,CV base u
theorem ArG.nil (w:World) (o:Own) (base:Nat) (t:Nat × Nat):ArG w o base t (.slice none 0 0) []:=⟨[],World.ownsRow_nil _ _ _ _,fun g q=>by simp [Value.ownBlock] at q,sW.nil w o,by simp⟩
theorem ArG.step {T:Nat->Prop}{w w':World}{o o':Own}{base:Nat}{t:Nat × Nat}{v:Value}{ls:List Ar}(h:ArG w o base t v ls) (s:aj T w o w' o') (F:¬ T t.1) (h0:¬ T 0):ArG w' o' base t v ls:=by
 obtain ⟨J,q,r,O,h4⟩:=h;exact ⟨J,Ci q fun k u=>s.block k (q.lt k u).2 (by rw [r k u];exact F),fun g E=>by rw [s.own g (q.lt g E).2];exact r g E,O.step s h0,h4⟩
theorem ArG.form {w:World}{o:Own}{base:Nat}{t:Nat × Nat}{v:Value}{ls:List Ar}(h:ArG w o base t v ls):∃ a c,v = .slice a ls.length c:=by
 obtain ⟨r,q, -⟩:=h;exact BA q
theorem ArG.lines {w:World}{o o':Own}{base:Nat}{t:Nat × Nat}{v:Value}{ls:List Ar}(h:ArG w o base t v ls) (r:∀ k,base<=k->(o' k).1=0):Lines w o' base v ls:=by
 obtain ⟨cs,q,h2,u,h4⟩:=h;have J:CV base v:=CV.own q (Nat.le_refl _);refine ⟨cs, ?_,⟨u.1,fun i x O => ?_⟩,J,h4⟩
 ·rcases q.2 with ⟨rfl,h0⟩ | ⟨g,cap,cur,rfl,U,F,W,Y,q5,q6⟩
  ·refine .inl ⟨⟨none,0,rfl⟩,h0, ?_⟩;apply List.eq_nil_of_length_eq_zero;rw [q.1,h0]
  ·refine .inr ⟨g,0,cap,rfl,W,Y,r g U,au F, ?_⟩;have:=BU (w:=w) (b:=g) (cs:=cur.toList) (E:=41) (fr:=(0,0)) (by simpa using F) 0 (ls.length*2);rw [List.drop_zero,q6] at this;exact this
 ·obtain ⟨a,bv,b,c⟩:=u.2 i x O;exact ⟨a,bv,b,c.retag (h4 bv (List.mem_of_getElem? b)) r⟩
theorem ArG.append {W:World}{o:Own}{base X:Nat}{v:Value}{J r:List Ar}(h:ArG W o base (X,0) v J) (hX:X ≠ 0) (a4:base<=W.heap.size) {sb U c:Nat}{E:List Value}(hr:W.rangeAt sb U E) (Y:sW W o E r) (hf:∀ u ∈ E,CV base u) (a5:0<r.length) (hn:J.length+r.length<=100000) :
  ∃ nv w' o',(Builtin.append_ #[35,35] 35 #[v, .slice (some ⟨sb,U,none⟩) r.length c]).run prog W = .ok nv w'/\ArG w' o' base (X,0) nv (J++r)/\aj (ak X) W o w' o'/\W.grownBy w' v.ownBlock/\(∀ k,o' k=o k \/ (W.heap.size<=k/\o' k=(X,0))):=by
 obtain ⟨cs,h1,ht,h3,h4⟩:=h;obtain ⟨g,cap,w',a6,a7,a2,q,a8⟩:=DD (P:=prog) W 35 35 41 underlying35 TR rfl om a4 v J.length cs h1 sb U r.length c E (by rw [Y.1];omega) hr Y.one a5 om om;have hs:aj (ak X) W o w' (Ak o g (X,0)):=(aj.refl (ak X) W o).grown a2 (fun k O => .inl (by show (o k).1=X;rw [ht k O])) g (X,0) (by
  rcases q with q | q
  ·exact .inl (ht g q)
  ·exact .inr om)
 have h0:¬ ak X 0:=fun h=>hX h.symm;refine ⟨_,w',_,a6,⟨cs++E,by rw [List.length_append];exact a7,fun k O => ?_,(h3.append Y).step hs h0,fun u F => ?_⟩,hs,a2,fun k => ?_⟩
 ·simp only [Value.ownBlock,Option.some.injEq] at O;subst O;exact Au _ _ _
 ·rcases List.mem_append.1 F with F | F
  ·exact h4 u F
  ·exact hf u F
 ·by_cases a3:k=g
  ·subst a3;rw [Au]
   rcases q with q | q
   ·exact .inl (ht k q).symm
   ·exact .inr ⟨om,rfl⟩
  ·exact .inl (BI _ _ a3)
theorem TY (w:World) (e:Int) (bv:Value):(Instr.buildSlice 35 1 #[(0, .agg #[.int .u64 e,bv])]).run prog w = .ok (.slice (some ⟨w.heap.size,0,none⟩) 1 1) (w.alloc (.cells [.int .u64 e,bv].toArray 41)):=
 Dv w 35 41 [.int .u64 0, .slice none 0 0] (.agg #[.int .u64 e,bv]) [.int .u64 e,bv] underlying35 (by kernel_rfl) rfl (by simp) (by simp) rfl
theorem JP {w:World}{o:Own}{Z p X:Nat}{m:oQ}(h:Ep w o Z p m) (Y:Z ≠ 0) (hX:X ≠ 0) (a3:X ≠ Z) (hm:m.b.length<=1000000) :
  Calls prog 176 #[.pointer (some ⟨p,0,none⟩)] w (XL (ak Z) w o fun v w' o'=>ArG w' o' w.heap.size (X,0) v m.lines.1/\Ep w' o' Z p m.lines.2):=by
 have hc:=ae (Je h Y hm 256 om);have d6:=oQ.IW 256 m;unfold oQ.lines;generalize (m.count 256).1=N at *;generalize (m.count 256).2=q at *;have b5:q.b.length<=1000000:=om
 have e0:(0:Int)<=(N:Int)/\(N:Int)<=256:=om
 clear h d6 hm;go_enter func176,ntmps176;go_wp2_with fail;refine hc.out.mono ?_;rintro e w1 ⟨v1,o1,rfl,hs,rfl,hr⟩;have WV:=ae b5;clear hc b5;go_wp2_with fail
 go_loopw [3,6] (fun out i wr=>∃ (k:Nat) (oj:Own),k<=N/\i = .int .i64 k/\ArG wr oj w.heap.size (X,0) out (Ce k q).1/\Ep wr oj Z p (Ce k q).2/\aj (ak Z) w o wr oj) (fun _ i _=>N - (intOf i).toNat)
 case atStart=>exact ⟨0,o1,om,rfl,ArG.nil _ _ _ _,hr,hs⟩
 case round =>
  clear hr hs;obtain ⟨k,oj,hk,rfl,J,a4,a5⟩:=hrel;obtain ⟨d7,a2⟩:=NG k q
  by_cases e3:k<N
  ·have O:=ae (EJ a4 Y (by have:=WV.out;omega));have b6:((Ce k q).2.num 8).2.b.length<=1000000:=by have:=oQ.EC 8 (Ce k q).2;have:=WV.out;omega
   have b7:Ce (k+1) q=((Ce k q).1++[⟨((Ce k q).2.num 8).1,((Ce k q).2.num 8).2.text.1⟩],((Ce k q).2.num 8).2.text.2):=rfl;have uZ:=ae b7;have pM:=ae J;have d8:=ae b6;have b8:=ae a2;obtain ⟨E,hE⟩:=az (((Ce k q).2.num 8).1);rw [hE] at O uZ;generalize ((Ce k q).2.num 8).2=m8 at *;obtain ⟨ra,rc,rfl⟩:=J.form;rw [a2] at pM ⊢;clear a4 b7 b6 J a2 d7 hE;go_wp2_with fail;refine O.out.mono ?_;rintro e w2 ⟨v2,o2,rfl,a6,rfl,b9⟩;have a7:=a5.trans a6;have c0:=pM.out.step a6 (fun h=>a3 h) (fun h=>Y h.symm);have ht:=ae (Rq b9 Y d8.out);clear O b9 a6 a5;go_wp2_with fail;refine ht.out.mono ?_;rintro e U ⟨v3,o3,rfl,a8,⟨a9,c3⟩,c4⟩;have b1:=a7.trans a8;have b2:=c0.step a8 (fun h=>a3 h) (fun h=>Y h.symm);have c6:=ae (TY U (E.toNat:Int) v3);have F:=(aj.refl ai U o3).alloc (.cells [.int .u64 (E.toNat:Int),v3].toArray 41) (0,0);have b3:(U.alloc (.cells [.int .u64 (E.toNat:Int),v3].toArray 41)).heap[U.heap.size]?=some (.cells [.int .u64 (E.toNat:Int),v3].toArray 41 (0,0)):=heap_alloc_new U _;obtain ⟨w4,c7⟩:=az (U.alloc (.cells [.int .u64 (E.toNat:Int),v3].toArray 41));rw [c7] at c6 F b3;have c8:w.heap.size<=w4.heap.size:=Nat.le_trans b1.size F.size;obtain ⟨nv,w5,o5,b4,tK,c9,W,d1⟩:=(b2.step F id id).append hX c8 (AV b3) (sW.single ⟨E,m8.text.1⟩ (a9.step F id)) (fun u O=>by
    simp only [List.mem_cons,List.not_mem_nil,or_false] at O;rcases O with rfl | rfl
    ·exact CV.int _ _ _
    ·exact c3.low a7.size) (by simp) (by rw [b8.out,List.length_singleton];omega) (c:=1)
   simp only [List.length_singleton] at b4;have d3:=ae b4;have d4:=(c4.step F id id).step c9 (fun h=>a3 h.symm) (fun h=>hX h.symm);have d9:aj (ak Z) w o w5 o5:=by
    have r:=b1.trans (F.only Z);refine ⟨W.os.trans r.os,W.tape.trans r.tape,W.output.trans r.output,Nat.le_trans r.size W.size,fun k hk => ?_,fun k hk hT => ?_⟩
    ·rcases d1 k with h | ⟨h,_⟩
     ·rw [h];exact r.own k hk
     ·have:=r.size;omega
    ·rw [W.block k (Nat.lt_of_lt_of_le hk r.size) ?_]
     ·exact r.block k hk hT
     ·intro hx;obtain ⟨cs,q1, -⟩:=b2;have:=(q1.lt k hx.symm).1;omega
   obtain ⟨na,nc,rfl⟩:=tK.form;have hF:=ae (show ArG w5 o5 w.heap.size (X,0) _ (Ce (k+1) q).1/\Ep w5 o5 Z p (Ce (k+1) q).2 from by rw [uZ.out];exact ⟨tK,d4⟩);have d5:((Ce k q).1++([⟨E,m8.text.1⟩]:List Ar)).length=k+1:=by rw [List.length_append,b8.out];rfl
   rw [d5] at d3 hF;obtain ⟨ba,bc,rfl⟩:=Aq a9;clear b4 tK d4 c9 W d1 F b3 c7 b2 c0 a7 b1 a8 a9 c3 c4 ht c8 d5
   go_wp2_with (first
    | ((with_reducible apply BO #[(0, .agg #[.int .u64 (E.toNat:Int), .slice ba m8.text.1.length bc])] rfl);exact c6.out;simp only [Act.put,GL,DL,lss])
    | ((with_reducible apply Bl);exact d3.out;simp only [Act.put,GL,DL,lss]))
   go_roundw
   case rel=>exact ⟨k+1,o5,om,by go_num,hF.out.1,hF.out.2,d9⟩
   case measure=>simp [intOf];omega
  ·obtain rfl:N=k:=om
   obtain ⟨ra,rc,rfl⟩:=J.form;rw [a2] at J ⊢;go_wp2_with fail;go_ret;exact ⟨_,oj,rfl,a5,J,a4⟩

end Go.Proofs.YtffkdillijmamaaGreat
