/- Contract of the store's write: a record, or, if there is no room, all anew in the other area. -/
import Derived.Test.YtffkdillijmamaaGreatGn5
namespace Go.Proofs.YtffkdillijmamaaGreat
open Go.Proofs.Tryz
set_option maxRecDepth 100000
set_option maxHeartbeats 12800000
open Go Go.RowKit
attribute [local go_sem ↓] Go.wp_at_zero Go.wp_at_succ
theorem Ri (S:BitVec 64):IntKind.u64.wrap ((S.toNat:Int)+1)=((S+1#64).toNat:Int):=by
 rw [BitVec.toNat_add]
 simp [IntKind.wrap,IntKind.bits,IntKind.signed]
theorem Rh (S:BitVec 64):((S.toNat:Int)+1) % 18446744073709551616=((S+1#64).toNat:Int):=by
 rw [BitVec.toNat_add];simp
def AZ.write (rec:List UInt8) (now:AX) (s:AZ):AZ × Int:=
 if 0<s.age.toNat∧rec.length ≤ s.cur.room then
  if (Ad.Ag rec (s.cur,s.d)).2 ≠ 0 then ({ s with cur:=(Ad.Ag rec (s.cur,s.d)).1.1,d:=(Ad.Ag rec (s.cur,s.d)).1.2,dead:=true },9)
  else ({ s with cur:=(Ad.Ag rec (s.cur,s.d)).1.1,d:=(Ad.Ag rec (s.cur,s.d)).1.2,kept:=now },0)
 else if 480*(s.pages - 1)<(IY (s.age+1#64) now.promised now.current now.lines).length then (s,4)
 else if (Ad.reset (s.Us,s.d)).2 ≠ 0 then ({ s with Us:=(Ad.reset (s.Us,s.d)).1.1,d:=(Ad.reset (s.Us,s.d)).1.2,dead:=true },9)
 else if (Ad.Ag (IY (s.age+1#64) now.promised now.current now.lines) (Ad.reset (s.Us,s.d)).1).2 ≠ 0 then
  ({ s with Us:=(Ad.Ag (IY (s.age+1#64) now.promised now.current now.lines) (Ad.reset (s.Us,s.d)).1).1.1,d:=(Ad.Ag (IY (s.age+1#64) now.promised now.current now.lines) (Ad.reset (s.Us,s.d)).1).1.2,dead:=true },9)
 else ({ s with cur:=(Ad.Ag (IY (s.age+1#64) now.promised now.current now.lines) (Ad.reset (s.Us,s.d)).1).1.1,Us:=s.cur,d:=(Ad.Ag (IY (s.age+1#64) now.promised now.current now.lines) (Ad.reset (s.Us,s.d)).1).1.2,age:=s.age+1#64,kept:=now },0)
theorem Ad.Yy (s:Ad × Af):(Ad.reset s).1.2.row.length ≤ s.2.row.length+1:=by
 have h:=(Ad.RJ s).2
 unfold Ad.reset Ad.alive
 split
 ·exact Nat.le_succ _
 ·unfold Ad.steps
  split
  ·exact h
  ·unfold Ad.steps
   simp only [Ad.Hr,ne_eq,not_true_eq_false,if_false,Ad.steps]
   exact h
def Wrote (S A B D ps pd base nb:Nat) (Q:AZ × Int) (v:Value) (w':World) (o':Own):Prop:=v = .int .i64 Q.2∧Bi w' o' S A B D ps pd (if Q.2=0 then nb else base) Q.1
structure Qw (S A B D:Nat):Prop where
 s0:S ≠ 0
 a0:A ≠ 0
 b0:B ≠ 0
 d0:D ≠ 0
 sa:S ≠ A
 sb:S ≠ B
 sd:S ≠ D
 ab:A ≠ B
 ad:A ≠ D
 bd:B ≠ D
theorem Qw.perm {S A B D X Y:Nat} (h:Qw S A B D) (hp:(X=A∧Y=B) ∨ (X=B∧Y=A)):Qw S X Y D:=by
 obtain ⟨h1,h2,h3,h4,h5,h6,h7,h8,h9,h10⟩:=h
 rcases hp with ⟨rfl,rfl⟩ | ⟨rfl,rfl⟩
 ·exact ⟨h1,h2,h3,h4,h5,h6,h7,h8,h9,h10⟩
 ·exact ⟨h1,h3,h2,h4,h6,h5,h7,fun h=>h8 h.symm,h10,h9⟩
theorem qG.perm {S A B D X Y t:Nat} (hp:(X=A∧Y=B) ∨ (X=B∧Y=A)) (h:qG S X Y D t):qG S A B D t:=by
 rcases hp with ⟨rfl,rfl⟩ | ⟨rfl,rfl⟩
 ·exact h
 ·rcases h with h | h | h | h
  ·exact .inl h
  ·exact .inr (.inr (.inl h))
  ·exact .inr (.inl h)
  ·exact .inr (.inr (.inr h))
section
variable {w:World} {o:Own} {S ps pd pa pb k:Nat} {kv:Value} {s:AZ}
theorem DF.DC (h:DF w o S ps pd pa pb k kv s) (i:Nat) (v:Value):Step (Only S) w o (w.setCell ⟨ps,i,none⟩ v) o:=by
 obtain ⟨x1,x2,h1,h2,h3⟩:=h
 exact (Step.refl _ w o).setCell v (.inl (by show (o ps).1=S;rw [h3]))
theorem DF.Ik (h:DF w o S ps pd pa pb k kv s) (b:Bool):DF (w.setCell ⟨ps,9,none⟩ (.bool b)) o S ps pd pa pb k kv { s with dead:=b }:=by
 obtain ⟨x1,x2,h1,h2,h3⟩:=h
 exact ⟨x1,x2,Ai (i:=9) _ h1,h2,h3⟩
theorem DF.swap (h:DF w o S ps pd pa pb k kv s) (age:BitVec 64):DF ((w.setCell ⟨ps,4,none⟩ (.int .i64 ((1 - k:Nat):Int))).setCell ⟨ps,5,none⟩ (.int .u64 (age.toNat:Int))) o S ps pd pb pa (1 - k) kv { s with age:=age }:=by
 obtain ⟨x1,x2,h1,h2,h3⟩:=h
 refine ⟨x1,x2,Ai (i:=5) _ (Ai (i:=4) _ h1), ?_,h3⟩
 rcases h2 with ⟨rfl,rfl,rfl⟩ | ⟨rfl,rfl,rfl⟩
 ·exact .inr ⟨rfl,rfl,rfl⟩
 ·exact .inl ⟨rfl,rfl,rfl⟩
theorem DF.SI (h:DF w o S ps pd pa pb k kv s) (now:AX) (nv:Value) (h1c:∃ a n c,nv = .slice a n c) :
  DF (w.setCells ps 6 [.int .u64 (now.promised.toNat:Int), .int .u64 (now.current.toNat:Int),nv]) o S ps pd pa pb k nv { s with kept:=now } ∧
  (Instr.storeAt 37 (.pointer (some ⟨ps,6,none⟩)) (Dy now.promised now.current nv)).run prog w = .ok () (w.setCells ps 6 [.int .u64 (now.promised.toNat:Int), .int .u64 (now.current.toNat:Int),nv]) ∧
  Step (Only S) w o (w.setCells ps 6 [.int .u64 (now.promised.toNat:Int), .int .u64 (now.current.toNat:Int),nv]) o:=by
 obtain ⟨x1,x2,h1,h2,h3⟩:=h
 refine ⟨⟨x1,x2, ?_,h2,h3⟩, ?_,(Step.refl (Only S) w o).setCells ps 6 _ (.inl (by rw [h3];rfl))⟩
 ·exact BP ps 165 _ 6 w _ h1 (by simp [storeCells])
 ·exact run_storeAt_mid w ps 6 37 #[.int .u64 (now.promised.toNat:Int), .int .u64 (now.current.toNat:Int),nv] (Dh h1 6 3 (by simp [storeCells])) Ij (by obtain ⟨a,n,c,rfl⟩:=h1c;simp [Value.oneCell'])
end
theorem Lj {w:World} {o:Own} {S A B D ps pd base nb:Nat} {s:AZ} (ht:Qw S A B D) (h:Bi w o S A B D ps pd base s) (hrow:s.d.row.length ≤ 600000) (hpg:1 ≤ s.pages∧s.pages ≤ 4096) (rv:Value) (rec:List UInt8) (hr:Bytes w o rv rec) (hcap:capLe rv) (hr1:1 ≤ rec.length) (hr2:rec.length ≤ 4000000)
  (now:AX) (nv:Value) (tY:Lines w o nb nv now.lines) (hsm:small now.lines) :
  Calls prog 131 #[.pointer (some ⟨ps,0,none⟩),rv,Dy now.promised now.current nv] w (XL (qG S A B D) w o fun v w' o'=>Wrote S A B D ps pd base nb (s.write rec now) v w' o'):=by
 obtain ⟨X,Y,pa,pb,k,kv,hp,hb,hkl,hla,hlb,hd⟩:=h
 have hmono:∀ t,qG S X Y D t→qG S A B D t:=fun t=>qG.perm hp
 have hT:=ht.perm hp
 clear ht
 suffices H:Calls prog 131 #[.pointer (some ⟨ps,0,none⟩),rv,Dy now.promised now.current nv] w (XL (qG S X Y D) w o fun v w' o'=>Wrote S X Y D ps pd base nb (s.write rec now) v w' o') by
  refine H.mono ?_
  rintro e w' ⟨v,o',rfl,hst,hv,X',Y',pa',pb',k',kv',hp',rest⟩
  refine ⟨v,o',rfl,hst.mono hmono,hv,X',Y',pa',pb',k',kv', ?_,rest⟩
  rcases hp with ⟨rfl,rfl⟩ | ⟨rfl,rfl⟩
  ·exact hp'
  ·exact hp'.symm
 clear hmono hp A B
 obtain ⟨na,nc,rfl⟩:=tY.form
 obtain ⟨ra,rc,rfl⟩:=Aq hr
 have nX0:¬ In X D 0:=fun h=>by rcases h with h | h;exact hT.a0 h.symm;exact hT.d0 h.symm
 have qU:¬ In Y D 0:=fun h=>by rcases h with h | h;exact hT.b0 h.symm;exact hT.d0 h.symm
 have nXS:¬ In X D S:=fun h=>by rcases h with h | h;exact hT.sa h;exact hT.sd h
 have nYS:¬ In Y D S:=fun h=>by rcases h with h | h;exact hT.sb h;exact hT.sd h
 have nXY:¬ In X D Y:=fun h=>by rcases h with h | h;exact hT.ab h.symm;exact hT.bd h
 have nYX:¬ In Y D X:=fun h=>by rcases h with h | h;exact hT.ab h;exact hT.ad h
 have nS0:¬ Only S 0:=fun h=>hT.s0 h.symm
 have uS:¬ Only S X:=fun h=>hT.sa h.symm
 have uQ:¬ Only S Y:=fun h=>hT.sb h.symm
 have uT:¬ Only S D:=fun h=>hT.sd h.symm
 have mX:∀ t,In X D t→qG S X Y D t:=fun t h=>by rcases h with h | h;exact .inr (.inl h);exact .inr (.inr (.inr h))
 have mY:∀ t,In Y D t→qG S X Y D t:=fun t h=>by rcases h with h | h;exact .inr (.inr (.inl h));exact .inr (.inr (.inr h))
 have mS:∀ t,Only S t→qG S X Y D t:=fun t h => .inl h
 replace mX:=hidden mX
 replace mY:=hidden mY
 replace mS:=hidden mS
 replace hT:=hidden hT
 have nn:∀ t,¬ Nobody t:=fun _ h=>h
 obtain ⟨n1,hn1⟩:∃ n1,now.lines.length=n1:=⟨_,rfl⟩
 have s1:=(Step.refl Nobody w o).alloc (.cells #[.int .u64 (now.promised.toNat:Int), .int .u64 (now.current.toNat:Int), .slice na now.lines.length nc] 37) (0,0)
 have b1:(w.alloc (.cells #[.int .u64 (now.promised.toNat:Int), .int .u64 (now.current.toNat:Int), .slice na now.lines.length nc] 37)).heap[w.heap.size]?=some (.cells [.int .u64 (now.promised.toNat:Int), .int .u64 (now.current.toNat:Int), .slice na now.lines.length nc].toArray 37 (0,0)):=heap_alloc_new w _
 have t1:Ak o w.heap.size (0,0) w.heap.size=(0,0):=Au _ _ _
 obtain ⟨bx,hbx⟩:∃ bx,w.heap.size=bx:=⟨_,rfl⟩
 obtain ⟨W1,hW1⟩:∃ W1,w.alloc (.cells #[.int .u64 (now.promised.toNat:Int), .int .u64 (now.current.toNat:Int), .slice na now.lines.length nc] 37)=W1:=⟨_,rfl⟩
 rw [hW1] at s1 b1
 rw [hbx] at s1 b1 t1
 generalize Ak o bx (0,0)=o1 at *
 replace hb:=hb.step s1 (nn _)
 replace hkl:=hkl.step s1 (nn _)
 replace hla:=hla.step s1 (nn _) (nn _)
 replace hlb:=hlb.step s1 (nn _) (nn _)
 replace hd:=hd.step s1 (nn _)
 replace hr:=hr.step s1 (nn _)
 replace tY:=tY.step s1 (nn _)
 obtain ⟨⟨c0,c3,c4,c5, -, -, -,c9⟩,⟨cA,cB⟩,hfz,hk1,hpl,hpo, -⟩:=hb.cells
 have hkI:(k:Int)<2:=by omega
 have qK:=hidden (UI hla)
 obtain ⟨RM,hRM⟩:∃ RM,s.cur.room=RM:=⟨_,rfl⟩
 rw [hRM] at qK
 obtain ⟨Q,hQ⟩:∃ Q,s.write rec now=Q:=⟨_,rfl⟩
 have vJ:=hidden hQ
 have sV:=hidden hRM
 have xZ:=hidden hb
 have wZ:=hidden hkl
 have sS:=hidden hla
 have wX:=hidden hlb
 have hdH:=hidden hd
 have tN:=hidden hr
 have qY:=hidden tY
 have qJ:=hidden s1
 have uM:=hidden hW1
 have xH:=hidden hbx
 have sQ:=hidden hsm
 have AdX:(RM:Int) ≤ 960000:=by
  have:=hla.wf;rw [←hRM];unfold Ad.room;obtain ⟨g1,g2,g3,g4,g5,g6,g7⟩:=this;omega
 rw [hQ]
 obtain ⟨R,hR⟩:∃ R,rec.length=R:=⟨_,rfl⟩
 have KI:=hidden hR
 rw [hR] at hr1 hr2 hcap ⊢
 have hRI:(1:Int) ≤ (R:Int)∧(R:Int) ≤ 4000000:=by omega
 have hrow2:(Ad.reset (s.Us,s.d)).1.2.row.length ≤ 700000:=by have:=Ad.Yy (s.Us,s.d);simp only at this;omega
 have pM:=hidden hrow2
 have sU:=hidden (aI c5 (aI c4 cA))
 clear hb hkl hla hlb hd hr tY s1 hW1 hbx hsm hQ hRM hR hrow2 cA cB c0 c3 c4 c5 c9 hn1 n1
 rw [KI.out] at tN
 unfold Dy
 by_cases AbV:0<s.age.toNat
 ·have Aaq:(0:Int)<(s.age.toNat:Int):=by omega
  by_cases hroom:R ≤ RM
  ·have wO:(R:Int) ≤ (RM:Int):=by omega
   have Abj:(0:Int)<(RM:Int):=by omega
   clear hr1 hr2
   go_enter func131,ntmps131
   go_wp2_with fail
   rw [uM.out]
   refine Aa (fun w'=>w'.cell? ⟨ps,5,none⟩=some (.int .u64 (s.age.toNat:Int))∧w'.cell? ⟨ps,4,none⟩=some (.int .i64 (k:Int))∧w'.cell? ⟨ps,1+k,none⟩=some (.pointer (some ⟨pa,0,none⟩))) (fun _=>true) (by kernel_rfl) sU.out (fun hHeld => ?_)
   refine tq 0 (h:=tq 1 (h:=tq 2 (h:=tq 3 (h:=tw 4 (.bool true) (h:=tq 5 (h:=tq 6 (h:=tq 7 (h:=tq 8 (h:=tq 9 (h:=tq 10 (h:=tq 11 (h:=tq 12 (h:=tq 13 (h:=?_))))))))))))))
   refine tq 14 (h:=tq 15 (h:=tq 16 (h:=tO 17 (h:=?_))))
   go_wp2_with fail
   have hdr:=(Step.refl Nobody W1 o1).drew
   refine (SV (sS.out.step hdr (nn _) (nn _)) RM sV.out).mono ?_;rintro e w2 ⟨v2,o2,rfl,hs2,rfl⟩
   have hs2:Step Nobody W1 o1 w2 o2:=hdr.trans hs2
   have hS2:w2.cell? ⟨ps,5,none⟩=some (.int .u64 (s.age.toNat:Int))∧w2.cell? ⟨ps,4,none⟩=some (.int .i64 (k:Int))∧w2.cell? ⟨ps,1+k,none⟩=some (.pointer (some ⟨pa,0,none⟩)):=by
    obtain ⟨k1,k2,k3⟩:=sU.out
    have hb:=fun (i:Nat) (v:Value) (hc:(W1).cell? ⟨ps,i,none⟩=some v)=>(World.cell?_of_block (w:=W1) (w':=w2) (a:=⟨ps,i,none⟩) (hs2.block ps hpl (nn _))).trans hc
    exact ⟨hb _ _ k1,hb _ _ k2,hb _ _ k3⟩
   go_wp2_with fail
   refine ⟨fun _=>hS2, ?_⟩
   refine tw 18 (.bool true) (h:=tw 19 (.bool true) (h:=tq 20 (h:=tq 21 (h:=tq 22 (h:=tq 23 (h:=tq 24 (h:=tq 25 (h:=tq 26 (h:=tq 27 (h:=tq 28 (h:=tq 29 (h:=tO 30 (h:=?_)))))))))))))
   go_wp2_with fail
   refine (SV (sS.out.step hs2 (nn _) (nn _)) RM sV.out).mono ?_;rintro e w3 ⟨v3,o3,rfl,hs3,rfl⟩
   have hs3:Step Nobody W1 o1 w3 o3:=hs2.trans hs3
   have hS3:w3.cell? ⟨ps,5,none⟩=some (.int .u64 (s.age.toNat:Int))∧w3.cell? ⟨ps,4,none⟩=some (.int .i64 (k:Int))∧w3.cell? ⟨ps,1+k,none⟩=some (.pointer (some ⟨pa,0,none⟩)):=by
    obtain ⟨k1,k2,k3⟩:=sU.out
    have hb:=fun (i:Nat) (v:Value) (hc:(W1).cell? ⟨ps,i,none⟩=some v)=>(World.cell?_of_block (w:=W1) (w':=w3) (a:=⟨ps,i,none⟩) (hs3.block ps hpl (nn _))).trans hc
    exact ⟨hb _ _ k1,hb _ _ k2,hb _ _ k3⟩
   go_wp2_with fail
   refine ⟨fun _=>hS3, ?_⟩
   refine tw 31 (.bool true) (h:=tw 32 (.bool true) (h:=tD (h:=?_)))
   have rO:ps<w3.heap.size:=Nat.lt_of_lt_of_le hpl hs3.size
   have Abn:(o3 ps).1=S:=by rw [hs3.own ps hpl];exact hpo
   have pV:=(hs3.block bx (lt_of_block b1) (nn _)).trans b1
   have AaZ:=(hs3.own bx (lt_of_block b1)).trans t1
   have zY:LD w3 o3 X D pa pd (s.cur,s.d):=⟨sS.out.step hs3 (nn _) (nn _),hdH.out.step hs3 (nn _)⟩
   have hr3:=tN.out.step hs3 (nn _)
   obtain ⟨⟨⟨l',d'⟩,e⟩,hC⟩:∃ q,Ad.Ag rec (s.cur,s.d)=q:=⟨_,rfl⟩
   have hcm:=hidden (fun (W:World) (O:Own) (st:Step Nobody w3 o3 W O)=>NW hT.out.a0 hT.out.d0 hT.out.ad (zY.step st (nn _) (nn _) (nn _)) (by show s.d.row.length ≤ _;omega) rec _ (hr3.step st (nn _)) hcap (by rw [KI.out];omega) hC)
   have hQ2:Q=if e ≠ 0 then ({ s with cur:=l',d:=d',dead:=true },9) else ({ s with cur:=l',d:=d',kept:=now },0):=by
    rw [←vJ.out];unfold AZ.write;rw [hC,if_pos ⟨AbV,by rw [KI.out,sV.out];exact hroom⟩]
   replace hQ2:=hidden hQ2
   have qH:=hidden ((qJ.out.trans hs3).mono (T':=qG S X Y D) (fun _ h=>h.elim))
   clear hS2 hHeld zY hr3 hC qK hs2
   go_wp2_with fail
   refine Aa (fun w'=>w'.cell? ⟨ps,5,none⟩=some (.int .u64 (s.age.toNat:Int))∧w'.cell? ⟨ps,4,none⟩=some (.int .i64 (k:Int))∧w'.cell? ⟨ps,1+k,none⟩=some (.pointer (some ⟨pa,0,none⟩))) (fun _=>true) (by kernel_rfl) hS3 (fun hHeld => ?_)
   refine tq 0 (h:=tq 1 (h:=tq 2 (h:=tq 3 (h:=tq 4 (h:=tq 5 (h:=tq 6 (h:=tq 7 (h:=tq 8 (h:=tq 9 (h:=tO 10 (h:=?_)))))))))))
   go_wp2_with fail
   have hdr:=(Step.refl Nobody w3 o3).drew
   refine (hcm.out _ o3 hdr).mono ?_;rintro e1 w4 ⟨v4,o4,rfl,hs4,rfl,Ada⟩
   have hs4:Step (In X D) w3 o3 w4 o4:=hdr.uV.trans hs4
   have hS4:w4.cell? ⟨ps,5,none⟩=some (.int .u64 (s.age.toNat:Int))∧w4.cell? ⟨ps,4,none⟩=some (.int .i64 (k:Int))∧w4.cell? ⟨ps,1+k,none⟩=some (.pointer (some ⟨pa,0,none⟩)):=by
    obtain ⟨k1,k2,k3⟩:=hS3
    have hb:=fun (i:Nat) (v:Value) (hc:(w3).cell? ⟨ps,i,none⟩=some v)=>(World.cell?_of_block (w:=w3) (w':=w4) (a:=⟨ps,i,none⟩) (hs4.block ps rO (by rw [Abn];exact nXS))).trans hc
    exact ⟨hb _ _ k1,hb _ _ k2,hb _ _ k3⟩
   clear hHeld hcm
   go_wp2_with fail
   refine ⟨fun _=>hS4, ?_⟩
   refine tq 11 (h:=tD (h:=?_))
   have hb4:=(xZ.out.step hs3 (nn _)).step hs4 nXS
   have qB:=(wZ.out.step hs3 (nn _)).step hs4 nX0
   have pU:=(wX.out.step hs3 (nn _) (nn _)).step hs4 nXY nX0
   have AeL:=(qY.out.step hs3 (nn _)).step hs4 nX0
   have qC:=(hs4.block bx (lt_of_block pV) (by rw [AaZ];exact nX0)).trans pV
   have AcG:=hidden (qH.out.trans (hs4.mono mX.out))
   clear hS4 hS3 hs4 hs3
   by_cases he:e=0
   ·subst he
    have hQ2:Hid (Q=({ s with cur:=l',d:=d',kept:=now },0)):=hidden (by rw [hQ2.out];rfl)
    have hlo:=hidden (show (Instr.loadAt 37 (.pointer (some ⟨w.heap.size,0,none⟩))).run prog w4 = .ok (.agg #[.int .u64 (now.promised.toNat:Int), .int .u64 (now.current.toNat:Int), .slice na now.lines.length nc]) w4 from IM (AV (by rw [xH.out];exact qC)))
    obtain ⟨hbN,hso,AaI⟩:=hb4.SI now (.slice na now.lines.length nc) ⟨_,_,_,rfl⟩
    have Aaz:=hidden (show (Instr.storeAt 37 (.pointer (some ⟨ps,6,none⟩)) (.agg #[.int .u64 (now.promised.toNat:Int), .int .u64 (now.current.toNat:Int), .slice na now.lines.length nc])).run prog w4 = .ok () _ from hso)
    have hF:=hidden (show Bi (w4.setCells ps 6 [.int .u64 (now.promised.toNat:Int), .int .u64 (now.current.toNat:Int), .slice na now.lines.length nc]) o4 S X Y D ps pd nb Q.1 from by rw [hQ2.out];exact ⟨X,Y,pa,pb,k,_, .inl ⟨rfl,rfl⟩,hbN,AeL.step AaI nS0,Ada.1.step AaI uS nS0,pU.step AaI uQ nS0,Ada.2.step AaI uT⟩)
    have AaM:=hidden (AcG.out.trans (AaI.mono mS.out))
    have pG:=hidden (show Q.2=0 by rw [hQ2.out])
    clear hbN hso AaI
    go_wp2_with (first
     | ((with_reducible apply Bo);exact hlo.out;simp only [Act.put,GL,DL,lss])
     | ((with_reducible apply AC);exact Aaz.out;simp only [Act.put]))
    go_ret
    exact ⟨_,o4,rfl,AaM.out,by rw [pG.out];rfl,by (rw [if_pos pG.out];exact hF.out)⟩
   ·have hQ2:Hid (Q=({ s with cur:=l',d:=d',dead:=true },9)):=hidden (by rw [hQ2.out,if_pos he])
    have heI:(e == 0)=false:=by simpa using he
    obtain ⟨⟨-, -, -, -, -, -, -,c9⟩, -,pF, -⟩:=hb4.cells
    have pF:=pF 9
    have hbD:=hb4.Ik true
    have AaI:=hb4.DC 9 (.bool true)
    have hF:=hidden (show Bi (w4.setCell ⟨ps,9,none⟩ (.bool true)) o4 S X Y D ps pd base Q.1 from by rw [hQ2.out];exact ⟨X,Y,pa,pb,k,kv, .inl ⟨rfl,rfl⟩,hbD,qB.step AaI nS0,Ada.1.step AaI uS nS0,pU.step AaI uQ nS0,Ada.2.step AaI uT⟩)
    have AaM:=hidden (AcG.out.trans (AaI.mono mS.out))
    have pG:=hidden (show Q.2=9 by rw [hQ2.out])
    clear hbD AaI
    go_wp2_with fail
    go_ret
    exact ⟨_,o4,rfl,AaM.out,by rw [pG.out];rfl,by (rw [if_neg (by rw [pG.out];omega)];exact hF.out)⟩
  ·have wO:¬ (R:Int) ≤ (RM:Int):=by omega
   have hno:¬ (0<s.age.toNat∧rec.length ≤ s.cur.room):=by rw [KI.out,sV.out];omega
   obtain ⟨j,hj⟩:∃ j,1 - k=j:=⟨_,rfl⟩
   have hjI:(1:Int) - (k:Int)=(j:Int):=by omega
   have hj2:(j:Int)<2:=by omega
   obtain ⟨AE,vP⟩:∃ AE,IY (s.age+1#64) now.promised now.current now.lines=AE:=⟨_,rfl⟩
   have hall:=hidden (fun (W:World) (O:Own) (st:Step Nobody W1 o1 W O)=>AjQ (qY.out.step st (nn _)) (by have:=sQ.out.1;omega) (by have:=sQ.out.2;omega) (p:=now.promised) (c:=now.current) (s.age+1#64))
   rw [vP] at hall
   have uO:AE.length ≤ 1400000:=by
    rw [←vP]
    have:=sQ.out.2
    simp [IY,GR,Az];omega
   have yJ:=Ri s.age
   obtain ⟨AL,xR⟩:∃ AL,AE.length=AL:=⟨_,rfl⟩
   rw [xR] at uO
   have AbZ:(0:Int) ≤ (AL:Int)∧(AL:Int) ≤ 1400000:=by omega
   have Abs:(1:Int) ≤ (s.pages:Int)∧(s.pages:Int) ≤ 4096:=by omega
   have uP:=hidden vP
   have qR:=hidden xR
   have tZ:=hidden hno
   have xB:=hidden hj
   clear hr1 hr2 qK vP xR hno uO hj
   go_enter func131,ntmps131
   go_wp2_with fail
   rw [uM.out]
   refine Aa (fun w'=>w'.cell? ⟨ps,5,none⟩=some (.int .u64 (s.age.toNat:Int))∧w'.cell? ⟨ps,4,none⟩=some (.int .i64 (k:Int))∧w'.cell? ⟨ps,1+k,none⟩=some (.pointer (some ⟨pa,0,none⟩))) (fun _=>true) (by kernel_rfl) sU.out (fun hHeld => ?_)
   refine tq 0 (h:=tq 1 (h:=tq 2 (h:=tq 3 (h:=tw 4 (.bool true) (h:=tq 5 (h:=tq 6 (h:=tq 7 (h:=tq 8 (h:=tq 9 (h:=tq 10 (h:=tq 11 (h:=tq 12 (h:=tq 13 (h:=?_))))))))))))))
   refine tq 14 (h:=tq 15 (h:=tq 16 (h:=tO 17 (h:=?_))))
   go_wp2_with fail
   have hdr:=(Step.refl Nobody W1 o1).drew
   refine (SV (sS.out.step hdr (nn _) (nn _)) RM sV.out).mono ?_;rintro e w3 ⟨v3,o3,rfl,hs3,rfl⟩
   have hs3:Step Nobody W1 o1 w3 o3:=hdr.trans hs3
   have hS3:w3.cell? ⟨ps,5,none⟩=some (.int .u64 (s.age.toNat:Int))∧w3.cell? ⟨ps,4,none⟩=some (.int .i64 (k:Int))∧w3.cell? ⟨ps,1+k,none⟩=some (.pointer (some ⟨pa,0,none⟩)):=by
    obtain ⟨k1,k2,k3⟩:=sU.out
    have hb:=fun (i:Nat) (v:Value) (hc:(W1).cell? ⟨ps,i,none⟩=some v)=>(World.cell?_of_block (w:=W1) (w':=w3) (a:=⟨ps,i,none⟩) (hs3.block ps hpl (nn _))).trans hc
    exact ⟨hb _ _ k1,hb _ _ k2,hb _ _ k3⟩
   clear hHeld hdr
   go_wp2_with fail
   refine ⟨fun _=>hS3, ?_⟩
   refine tw 18 (.bool false) (h:=tw 19 (.bool false) (h:=tq 20 (h:=ts 21 (h:=ts 22 (h:=ts 23 (h:=ts 24 (h:=ts 25 (h:=ts 26 (h:=ts 27 (h:=ts 28 (h:=ts 29 (h:=ts 30 (h:=ts 31 (h:=?_))))))))))))))
   refine tw 32 (.bool false) (h:=tD (h:=?_))
   have rO:ps<w3.heap.size:=Nat.lt_of_lt_of_le hpl hs3.size
   have pV:=(hs3.block bx (lt_of_block b1) (nn _)).trans b1
   have c43:=hS3.2.1
   have hS5:=hidden (aI pV hS3.1)
   clear hS3
   rw [xH.out]
   go_wp2_with fail
   refine Aa (fun w'=>w'.heap[bx]?=some (.cells [.int .u64 (now.promised.toNat:Int), .int .u64 (now.current.toNat:Int), .slice na now.lines.length nc].toArray 37 (0,0))∧w'.cell? ⟨ps,5,none⟩=some (.int .u64 (s.age.toNat:Int))) (fun _=>true) (by kernel_rfl) hS5.out (fun hHeld => ?_)
   refine Dt (i:=0) (v := .agg #[.int .u64 (now.promised.toNat:Int), .int .u64 (now.current.toNat:Int), .slice na now.lines.length nc]) rfl (by kernel_rfl) (fun _ _ _ h=>h) (yieldsIf_load_mid rfl 37 (.tmp 5) rfl bx 0 rfl [.int .u64 (now.promised.toNat:Int), .int .u64 (now.current.toNat:Int), .slice na now.lines.length nc] _ (fun w h=>AV h.1) underlying37 rfl (by kernel_rfl)) (by assumption) ?_
   simp only [Act.put,GL,DL,lss]
   refine tq 1 (h:=tq 2 (h:=tq 3 (h:=tq 4 (h:=tv 5 (.int .u64 ((s.age+1#64).toNat:Int)) (hy:=fun w hSw=>by (try dsimp only at hSw);go_simp;first | done | exact yJ | rw [yJ]) (h:=tO 6 (h:=?_))))))
   go_wp2_with fail
   refine (hall.out _ o3 hs3.drew).mono ?_;rintro e w4 ⟨v4,o4,rfl,hs4,hnb⟩
   have hs4:Step Nobody w3 o3 w4 o4:=(Step.refl Nobody w3 o3).drew.trans hs4
   have qC:=(hs4.block bx (lt_of_block pV) (nn _)).trans pV
   have hS6:=aI qC (show w4.cell? ⟨ps,5,none⟩=some (.int .u64 (s.age.toNat:Int)) by rw [World.cell?_of_block (w:=w3) (a:=⟨ps,5,none⟩) (hs4.block ps rO (nn _))];exact hS5.out.2)
   have rE:=hnb.cap
   have hby:=hnb.bytes
   obtain ⟨aa,ac,rfl⟩:=Aq hby
   rw [qR.out] at hby rE ⊢
   clear hHeld hnb
   go_wp2_with fail
   refine ⟨fun _=>hS6, ?_⟩
   refine tq 7 (h:=tD (h:=?_))
   have hs4:Step Nobody W1 o1 w4 o4:=hs3.trans hs4
   have qH:=hidden ((qJ.out.trans hs4).mono (T':=qG S X Y D) (fun _ h=>h.elim))
   have hb4:=xZ.out.step hs4 (nn _)
   have qB:=wZ.out.step hs4 (nn _)
   have qP:=sS.out.step hs4 (nn _) (nn _)
   have pU:=wX.out.step hs4 (nn _) (nn _)
   have hd4:=hdH.out.step hs4 (nn _)
   have AeL:=qY.out.step hs4 (nn _)
   have tH:=(hs4.own bx (lt_of_block b1)).trans t1
   obtain ⟨⟨-,d3,d4,d5, -, -, -, -⟩,⟨-,dB⟩, -⟩:=hb4.cells
   rw [xB.out] at dB
   clear hS6 hS5 hs3 c43 hall pV rO
   by_cases hfull:480*(s.pages - 1)<AL
   ·have hfI:(480:Int)*((s.pages:Int) - 1)<(AL:Int):=by omega
    have hQ2:Hid (Q=(s,4)):=hidden (by rw [←vJ.out];unfold AZ.write;rw [if_neg tZ.out,uP.out,qR.out,if_pos hfull])
    have hF:=hidden (show Bi w4 o4 S X Y D ps pd base Q.1 from by rw [hQ2.out];exact ⟨X,Y,pa,pb,k,kv, .inl ⟨rfl,rfl⟩,hb4,qB,qP,pU,hd4⟩)
    have pG:=hidden (show Q.2=4 by rw [hQ2.out])
    clear hb4 qB qP pU hd4 AeL
    go_wp2_with fail
    go_ret
    exact ⟨_,o4,rfl,qH.out,by rw [pG.out];rfl,by rw [if_neg (by rw [pG.out];omega)];exact hF.out⟩
   ·have hfI:¬ (480:Int)*((s.pages:Int) - 1)<(AL:Int):=by omega
    have Ada:LD w4 o4 Y D pb pd (s.Us,s.d):=⟨pU,hd4⟩
    obtain ⟨⟨⟨l1,d1⟩,e1⟩,vO⟩:∃ q,Ad.reset (s.Us,s.d)=q:=⟨_,rfl⟩
    have tK:d1.row.length ≤ 700000:=by have:=pM.out;rw [vO] at this;exact this
    have hrs:=hidden (UK hT.out.b0 hT.out.d0 hT.out.bd Ada (by show s.d.row.length ≤ _;omega) vO)
    have hQ2:Q=if e1 ≠ 0 then ({ s with Us:=l1,d:=d1,dead:=true },9) else if (Ad.Ag AE (l1,d1)).2 ≠ 0 then ({ s with Us:=(Ad.Ag AE (l1,d1)).1.1,d:=(Ad.Ag AE (l1,d1)).1.2,dead:=true },9)
      else ({ s with cur:=(Ad.Ag AE (l1,d1)).1.1,Us:=s.cur,d:=(Ad.Ag AE (l1,d1)).1.2,age:=s.age+1#64,kept:=now },0):=by
     rw [←vJ.out];unfold AZ.write;rw [if_neg tZ.out,uP.out,qR.out,if_neg hfull,vO]
    replace hQ2:=hidden hQ2
    clear pU hd4 Ada vO
    go_wp2_with fail
    refine hrs.out.mono ?_;rintro e w5 ⟨v5,o5,rfl,hs5,rfl,qO⟩
    have Abr:ps<w4.heap.size:=Nat.lt_of_lt_of_le hpl hs4.size
    have hb5:=hb4.step hs5 nYS
    have rW:=qB.step hs5 qU
    have rU:=qP.step hs5 nYX qU
    have rC:=AeL.step hs5 qU
    have uH:=hby.step hs5 qU
    have Ajj:=(hs5.block bx (lt_of_block qC) (by rw [tH];exact qU)).trans qC
    have tC:=(hs5.own bx (lt_of_block qC)).trans tH
    have AcG:=hidden (qH.out.trans (hs5.mono mY.out))
    obtain ⟨⟨-, -,e4,e5, -, -, -, -⟩,⟨-,eB⟩,ef, -⟩:=hb5.cells
    rw [xB.out] at eB
    clear hb4 qB qP AeL hby hrs hs5 hs4 d3 d4 d5 dB
    by_cases he1:e1=0
    ·subst he1
     obtain ⟨⟨⟨l2,d2⟩,e2⟩,hC2⟩:∃ q,Ad.Ag AE (l1,d1)=q:=⟨_,rfl⟩
     have hcm:=hidden (NW hT.out.b0 hT.out.d0 hT.out.bd qO tK AE _ uH rE (by rw [qR.out];omega) hC2)
     have hQ2:Q=if e2 ≠ 0 then ({ s with Us:=l2,d:=d2,dead:=true },9) else ({ s with cur:=l2,Us:=s.cur,d:=d2,age:=s.age+1#64,kept:=now },0):=by
      have:=hQ2.out;rw [hC2] at this;exact this
     replace hQ2:=hidden hQ2
     clear qO uH hC2 e4 e5
     go_wp2_with fail
     refine hcm.out.mono ?_;rintro e w6 ⟨v6,o6,rfl,hs6,rfl,qN⟩
     have hb6:=hb5.step hs6 nYS
     have rV:=rW.step hs6 qU
     have rQ:=rU.step hs6 nYX qU
     have qZ:=rC.step hs6 qU
     have sD:=(hs6.block bx (lt_of_block Ajj) (by rw [tC];exact qU)).trans Ajj
     have ApP:=(hs6.own bx (lt_of_block Ajj)).trans tC
     have AcG:=hidden (AcG.out.trans (hs6.mono mY.out))
     obtain ⟨⟨-, -,f4,f5, -, -, -, -⟩, -,ff, -⟩:=hb6.cells
     clear hb5 rW rU rC hcm hs6 eB ef
     by_cases he2:e2=0
     ·subst he2
      have hQ2:Hid (Q=({ s with cur:=l2,Us:=s.cur,d:=d2,age:=s.age+1#64,kept:=now },0)):=hidden (by rw [hQ2.out];rfl)
      have hsw:=hb6.swap (s.age+1#64)
      have g1:=hb6.DC 4 (.int .i64 ((1 - k:Nat):Int))
      have Aej:Step (Only S) w6 o6 ((w6.setCell ⟨ps,4,none⟩ (.int .i64 ((1 - k:Nat):Int))).setCell ⟨ps,5,none⟩ (.int .u64 ((s.age+1#64).toNat:Int))) o6:=g1.setCell (a:=⟨ps,5,none⟩) _ (.inl (by obtain ⟨_,_,_,_,q3⟩:=hb6;show (o6 ps).1=S;rw [q3]))
      rw [xB.out] at hsw Aej
      have rZ:=(Aej.block bx (lt_of_block sD) (by rw [ApP];exact nS0)).trans sD
      have uD:=rV.step Aej nS0
      have rP:=rQ.step Aej uS nS0
      have AfW:=qZ.step Aej nS0
      have qM:=qN.step Aej uQ uT nS0
      have AcG:=hidden (AcG.out.trans (Aej.mono mS.out))
      have ff4:=ff 4
      have ff5:=ff 5
      obtain ⟨w7,hw7⟩:∃ w7,(w6.setCell ⟨ps,4,none⟩ (.int .i64 (j:Int))).setCell ⟨ps,5,none⟩ (.int .u64 ((s.age+1#64).toNat:Int))=w7:=⟨_,rfl⟩
      rw [hw7] at hsw rZ uD rP AfW qM AcG
      clear hb6 rV rQ qZ qN g1 Aej ff sD
      have hlo:=hidden (show (Instr.loadAt 37 (.pointer (some ⟨bx,0,none⟩))).run prog w7 = .ok (.agg #[.int .u64 (now.promised.toNat:Int), .int .u64 (now.current.toNat:Int), .slice na now.lines.length nc]) w7 from IM (AV (by exact rZ)))
      obtain ⟨hbN,hso,AaI⟩:=hsw.SI now (.slice na now.lines.length nc) ⟨_,_,_,rfl⟩
      have Aaz:=hidden (show (Instr.storeAt 37 (.pointer (some ⟨ps,6,none⟩)) (.agg #[.int .u64 (now.promised.toNat:Int), .int .u64 (now.current.toNat:Int), .slice na now.lines.length nc])).run prog w7 = .ok () _ from hso)
      have hF:=hidden (show Bi (w7.setCells ps 6 [.int .u64 (now.promised.toNat:Int), .int .u64 (now.current.toNat:Int), .slice na now.lines.length nc]) o6 S X Y D ps pd nb Q.1 from by rw [hQ2.out];exact ⟨Y,X,pb,pa,j,_, .inr ⟨rfl,rfl⟩,hbN,AfW.step AaI nS0,qM.1.step AaI uQ nS0,rP.step AaI uS nS0,qM.2.step AaI uT⟩)
      have AaM:=hidden (AcG.out.trans (AaI.mono mS.out))
      have pG:=hidden (show Q.2=0 by rw [hQ2.out])
      clear hbN hso AaI uD rP AfW qM hsw
      have wG:=hidden (show (w6.setCell ⟨ps,4,none⟩ (.int .i64 (j:Int))).setCell ⟨ps,5,none⟩ (.int .u64 (((s.age.toNat:Int)+1) % 18446744073709551616))=w7 by rw [Rh];exact hw7)
      clear hw7
      rw [←wG.out] at hlo Aaz hF AaM
      go_wp2_with (first
       | ((with_reducible apply Bo);exact hlo.out;simp only [Act.put,GL,DL,lss])
       | ((with_reducible apply AC);exact Aaz.out;simp only [Act.put]))
      go_ret
      exact ⟨_,o6,rfl,AaM.out,by rw [pG.out];rfl,by (rw [if_pos pG.out];exact hF.out)⟩
     ·have hQ2:Hid (Q=({ s with Us:=l2,d:=d2,dead:=true },9)):=hidden (by rw [hQ2.out,if_pos he2])
      have heI:(e2 == 0)=false:=by simpa using he2
      obtain ⟨⟨-, -, -, -, -, -, -,c9⟩, -,pF, -⟩:=hb6.cells
      have pF:=pF 9
      have hbD:=hb6.Ik true
      have AaI:=hb6.DC 9 (.bool true)
      have hF:=hidden (show Bi (w6.setCell ⟨ps,9,none⟩ (.bool true)) o6 S X Y D ps pd base Q.1 from by rw [hQ2.out];exact ⟨X,Y,pa,pb,k,kv, .inl ⟨rfl,rfl⟩,hbD,rV.step AaI nS0,rQ.step AaI uS nS0,qN.1.step AaI uQ nS0,qN.2.step AaI uT⟩)
      have AaM:=hidden (AcG.out.trans (AaI.mono mS.out))
      have pG:=hidden (show Q.2=9 by rw [hQ2.out])
      clear hbD AaI
      go_wp2_with fail
      go_ret
      exact ⟨_,o6,rfl,AaM.out,by rw [pG.out];rfl,by (rw [if_neg (by rw [pG.out];omega)];exact hF.out)⟩
    ·have hQ2:Hid (Q=({ s with Us:=l1,d:=d1,dead:=true },9)):=hidden (by rw [hQ2.out,if_pos he1])
     have heI:(e1 == 0)=false:=by simpa using he1
     obtain ⟨⟨-, -, -, -, -, -, -,c9⟩, -,pF, -⟩:=hb5.cells
     have pF:=pF 9
     have hbD:=hb5.Ik true
     have AaI:=hb5.DC 9 (.bool true)
     have hF:=hidden (show Bi (w5.setCell ⟨ps,9,none⟩ (.bool true)) o5 S X Y D ps pd base Q.1 from by rw [hQ2.out];exact ⟨X,Y,pa,pb,k,kv, .inl ⟨rfl,rfl⟩,hbD,rW.step AaI nS0,rU.step AaI uS nS0,qO.1.step AaI uQ nS0,qO.2.step AaI uT⟩)
     have AaM:=hidden (AcG.out.trans (AaI.mono mS.out))
     have pG:=hidden (show Q.2=9 by rw [hQ2.out])
     clear hbD AaI
     go_wp2_with fail
     go_ret
     exact ⟨_,o5,rfl,AaM.out,by rw [pG.out];rfl,by (rw [if_neg (by rw [pG.out];omega)];exact hF.out)⟩
 ·have Aaq:¬ (0:Int)<(s.age.toNat:Int):=by omega
  have hno:¬ (0<s.age.toNat∧rec.length ≤ s.cur.room):=by rw [KI.out,sV.out];omega
  obtain ⟨j,hj⟩:∃ j,1 - k=j:=⟨_,rfl⟩
  have hjI:(1:Int) - (k:Int)=(j:Int):=by omega
  have hj2:(j:Int)<2:=by omega
  obtain ⟨AE,vP⟩:∃ AE,IY (s.age+1#64) now.promised now.current now.lines=AE:=⟨_,rfl⟩
  have hall:=hidden (fun (W:World) (O:Own) (st:Step Nobody W1 o1 W O)=>AjQ (qY.out.step st (nn _)) (by have:=sQ.out.1;omega) (by have:=sQ.out.2;omega) (p:=now.promised) (c:=now.current) (s.age+1#64))
  rw [vP] at hall
  have uO:AE.length ≤ 1400000:=by
   rw [←vP]
   have:=sQ.out.2
   simp [IY,GR,Az];omega
  have yJ:=Ri s.age
  obtain ⟨AL,xR⟩:∃ AL,AE.length=AL:=⟨_,rfl⟩
  rw [xR] at uO
  have AbZ:(0:Int) ≤ (AL:Int)∧(AL:Int) ≤ 1400000:=by omega
  have Abs:(1:Int) ≤ (s.pages:Int)∧(s.pages:Int) ≤ 4096:=by omega
  have uP:=hidden vP
  have qR:=hidden xR
  have tZ:=hidden hno
  have xB:=hidden hj
  clear hr1 hr2 qK vP xR hno uO hj
  go_enter func131,ntmps131
  go_wp2_with fail
  rw [uM.out]
  refine Aa (fun w'=>w'.cell? ⟨ps,5,none⟩=some (.int .u64 (s.age.toNat:Int))∧w'.cell? ⟨ps,4,none⟩=some (.int .i64 (k:Int))∧w'.cell? ⟨ps,1+k,none⟩=some (.pointer (some ⟨pa,0,none⟩))) (fun _=>true) (by kernel_rfl) sU.out (fun hHeld => ?_)
  refine tq 0 (h:=tq 1 (h:=tq 2 (h:=tq 3 (h:=tw 4 (.bool false) (h:=tq 5 (h:=ts 6 (h:=ts 7 (h:=ts 8 (h:=ts 9 (h:=ts 10 (h:=ts 11 (h:=ts 12 (h:=ts 13 (h:=?_))))))))))))))
  refine ts 14 (h:=ts 15 (h:=ts 16 (h:=ts 17 (h:=ts 18 (h:=tw 19 (.bool false) (h:=tq 20 (h:=ts 21 (h:=ts 22 (h:=ts 23 (h:=ts 24 (h:=ts 25 (h:=ts 26 (h:=ts 27 (h:=?_))))))))))))))
  refine ts 28 (h:=ts 29 (h:=ts 30 (h:=ts 31 (h:=tw 32 (.bool false) (h:=tD (h:=?_))))))
  obtain ⟨w3,hw3⟩:∃ w3,W1.drew=w3:=⟨_,rfl⟩
  obtain ⟨o3,ho3⟩:∃ o3,o1=o3:=⟨_,rfl⟩
  have hs3:Step Nobody W1 o1 w3 o3:=by rw [←hw3, ←ho3];exact (Step.refl Nobody W1 o1).drew
  have hS3:=hHeld
  rw [hw3] at hS3 ⊢
  clear hw3 ho3 hHeld
  have rO:ps<w3.heap.size:=Nat.lt_of_lt_of_le hpl hs3.size
  have pV:=(hs3.block bx (lt_of_block b1) (nn _)).trans b1
  have c43:=hS3.2.1
  have hS5:=hidden (aI pV hS3.1)
  clear hS3
  rw [xH.out]
  go_wp2_with fail
  refine Aa (fun w'=>w'.heap[bx]?=some (.cells [.int .u64 (now.promised.toNat:Int), .int .u64 (now.current.toNat:Int), .slice na now.lines.length nc].toArray 37 (0,0))∧w'.cell? ⟨ps,5,none⟩=some (.int .u64 (s.age.toNat:Int))) (fun _=>true) (by kernel_rfl) hS5.out (fun hHeld => ?_)
  refine Dt (i:=0) (v := .agg #[.int .u64 (now.promised.toNat:Int), .int .u64 (now.current.toNat:Int), .slice na now.lines.length nc]) rfl (by kernel_rfl) (fun _ _ _ h=>h) (yieldsIf_load_mid rfl 37 (.tmp 5) rfl bx 0 rfl [.int .u64 (now.promised.toNat:Int), .int .u64 (now.current.toNat:Int), .slice na now.lines.length nc] _ (fun w h=>AV h.1) underlying37 rfl (by kernel_rfl)) (by assumption) ?_
  simp only [Act.put,GL,DL,lss]
  refine tq 1 (h:=tq 2 (h:=tq 3 (h:=tq 4 (h:=tv 5 (.int .u64 ((s.age+1#64).toNat:Int)) (hy:=fun w hSw=>by (try dsimp only at hSw);go_simp;first | done | exact yJ | rw [yJ]) (h:=tO 6 (h:=?_))))))
  go_wp2_with fail
  refine (hall.out _ o3 hs3.drew).mono ?_;rintro e w4 ⟨v4,o4,rfl,hs4,hnb⟩
  have hs4:Step Nobody w3 o3 w4 o4:=(Step.refl Nobody w3 o3).drew.trans hs4
  have qC:=(hs4.block bx (lt_of_block pV) (nn _)).trans pV
  have hS6:=aI qC (show w4.cell? ⟨ps,5,none⟩=some (.int .u64 (s.age.toNat:Int)) by rw [World.cell?_of_block (w:=w3) (a:=⟨ps,5,none⟩) (hs4.block ps rO (nn _))];exact hS5.out.2)
  have rE:=hnb.cap
  have hby:=hnb.bytes
  obtain ⟨aa,ac,rfl⟩:=Aq hby
  rw [qR.out] at hby rE ⊢
  clear hHeld hnb
  go_wp2_with fail
  refine ⟨fun _=>hS6, ?_⟩
  refine tq 7 (h:=tD (h:=?_))
  have hs4:Step Nobody W1 o1 w4 o4:=hs3.trans hs4
  have qH:=hidden ((qJ.out.trans hs4).mono (T':=qG S X Y D) (fun _ h=>h.elim))
  have hb4:=xZ.out.step hs4 (nn _)
  have qB:=wZ.out.step hs4 (nn _)
  have qP:=sS.out.step hs4 (nn _) (nn _)
  have pU:=wX.out.step hs4 (nn _) (nn _)
  have hd4:=hdH.out.step hs4 (nn _)
  have AeL:=qY.out.step hs4 (nn _)
  have tH:=(hs4.own bx (lt_of_block b1)).trans t1
  obtain ⟨⟨-,d3,d4,d5, -, -, -, -⟩,⟨-,dB⟩, -⟩:=hb4.cells
  rw [xB.out] at dB
  clear hS6 hS5 hs3 c43 hall pV rO
  by_cases hfull:480*(s.pages - 1)<AL
  ·have hfI:(480:Int)*((s.pages:Int) - 1)<(AL:Int):=by omega
   have hQ2:Hid (Q=(s,4)):=hidden (by rw [←vJ.out];unfold AZ.write;rw [if_neg tZ.out,uP.out,qR.out,if_pos hfull])
   have hF:=hidden (show Bi w4 o4 S X Y D ps pd base Q.1 from by rw [hQ2.out];exact ⟨X,Y,pa,pb,k,kv, .inl ⟨rfl,rfl⟩,hb4,qB,qP,pU,hd4⟩)
   have pG:=hidden (show Q.2=4 by rw [hQ2.out])
   clear hb4 qB qP pU hd4 AeL
   go_wp2_with fail
   go_ret
   exact ⟨_,o4,rfl,qH.out,by rw [pG.out];rfl,by rw [if_neg (by rw [pG.out];omega)];exact hF.out⟩
  ·have hfI:¬ (480:Int)*((s.pages:Int) - 1)<(AL:Int):=by omega
   have Ada:LD w4 o4 Y D pb pd (s.Us,s.d):=⟨pU,hd4⟩
   obtain ⟨⟨⟨l1,d1⟩,e1⟩,vO⟩:∃ q,Ad.reset (s.Us,s.d)=q:=⟨_,rfl⟩
   have tK:d1.row.length ≤ 700000:=by have:=pM.out;rw [vO] at this;exact this
   have hrs:=hidden (UK hT.out.b0 hT.out.d0 hT.out.bd Ada (by show s.d.row.length ≤ _;omega) vO)
   have hQ2:Q=if e1 ≠ 0 then ({ s with Us:=l1,d:=d1,dead:=true },9) else if (Ad.Ag AE (l1,d1)).2 ≠ 0 then ({ s with Us:=(Ad.Ag AE (l1,d1)).1.1,d:=(Ad.Ag AE (l1,d1)).1.2,dead:=true },9)
     else ({ s with cur:=(Ad.Ag AE (l1,d1)).1.1,Us:=s.cur,d:=(Ad.Ag AE (l1,d1)).1.2,age:=s.age+1#64,kept:=now },0):=by
    rw [←vJ.out];unfold AZ.write;rw [if_neg tZ.out,uP.out,qR.out,if_neg hfull,vO]
   replace hQ2:=hidden hQ2
   clear pU hd4 Ada vO
   go_wp2_with fail
   refine hrs.out.mono ?_;rintro e w5 ⟨v5,o5,rfl,hs5,rfl,qO⟩
   have Abr:ps<w4.heap.size:=Nat.lt_of_lt_of_le hpl hs4.size
   have hb5:=hb4.step hs5 nYS
   have rW:=qB.step hs5 qU
   have rU:=qP.step hs5 nYX qU
   have rC:=AeL.step hs5 qU
   have uH:=hby.step hs5 qU
   have Ajj:=(hs5.block bx (lt_of_block qC) (by rw [tH];exact qU)).trans qC
   have tC:=(hs5.own bx (lt_of_block qC)).trans tH
   have AcG:=hidden (qH.out.trans (hs5.mono mY.out))
   obtain ⟨⟨-, -,e4,e5, -, -, -, -⟩,⟨-,eB⟩,ef, -⟩:=hb5.cells
   rw [xB.out] at eB
   clear hb4 qB qP AeL hby hrs hs5 hs4 d3 d4 d5 dB
   by_cases he1:e1=0
   ·subst he1
    obtain ⟨⟨⟨l2,d2⟩,e2⟩,hC2⟩:∃ q,Ad.Ag AE (l1,d1)=q:=⟨_,rfl⟩
    have hcm:=hidden (NW hT.out.b0 hT.out.d0 hT.out.bd qO tK AE _ uH rE (by rw [qR.out];omega) hC2)
    have hQ2:Q=if e2 ≠ 0 then ({ s with Us:=l2,d:=d2,dead:=true },9) else ({ s with cur:=l2,Us:=s.cur,d:=d2,age:=s.age+1#64,kept:=now },0):=by
     have:=hQ2.out;rw [hC2] at this;exact this
    replace hQ2:=hidden hQ2
    clear qO uH hC2 e4 e5
    go_wp2_with fail
    refine hcm.out.mono ?_;rintro e w6 ⟨v6,o6,rfl,hs6,rfl,qN⟩
    have hb6:=hb5.step hs6 nYS
    have rV:=rW.step hs6 qU
    have rQ:=rU.step hs6 nYX qU
    have qZ:=rC.step hs6 qU
    have sD:=(hs6.block bx (lt_of_block Ajj) (by rw [tC];exact qU)).trans Ajj
    have ApP:=(hs6.own bx (lt_of_block Ajj)).trans tC
    have AcG:=hidden (AcG.out.trans (hs6.mono mY.out))
    obtain ⟨⟨-, -,f4,f5, -, -, -, -⟩, -,ff, -⟩:=hb6.cells
    clear hb5 rW rU rC hcm hs6 eB ef
    by_cases he2:e2=0
    ·subst he2
     have hQ2:Hid (Q=({ s with cur:=l2,Us:=s.cur,d:=d2,age:=s.age+1#64,kept:=now },0)):=hidden (by rw [hQ2.out];rfl)
     have hsw:=hb6.swap (s.age+1#64)
     have g1:=hb6.DC 4 (.int .i64 ((1 - k:Nat):Int))
     have Aej:Step (Only S) w6 o6 ((w6.setCell ⟨ps,4,none⟩ (.int .i64 ((1 - k:Nat):Int))).setCell ⟨ps,5,none⟩ (.int .u64 ((s.age+1#64).toNat:Int))) o6:=g1.setCell (a:=⟨ps,5,none⟩) _ (.inl (by obtain ⟨_,_,_,_,q3⟩:=hb6;show (o6 ps).1=S;rw [q3]))
     rw [xB.out] at hsw Aej
     have rZ:=(Aej.block bx (lt_of_block sD) (by rw [ApP];exact nS0)).trans sD
     have uD:=rV.step Aej nS0
     have rP:=rQ.step Aej uS nS0
     have AfW:=qZ.step Aej nS0
     have qM:=qN.step Aej uQ uT nS0
     have AcG:=hidden (AcG.out.trans (Aej.mono mS.out))
     have ff4:=ff 4
     have ff5:=ff 5
     obtain ⟨w7,hw7⟩:∃ w7,(w6.setCell ⟨ps,4,none⟩ (.int .i64 (j:Int))).setCell ⟨ps,5,none⟩ (.int .u64 ((s.age+1#64).toNat:Int))=w7:=⟨_,rfl⟩
     rw [hw7] at hsw rZ uD rP AfW qM AcG
     clear hb6 rV rQ qZ qN g1 Aej ff sD
     have hlo:=hidden (show (Instr.loadAt 37 (.pointer (some ⟨bx,0,none⟩))).run prog w7 = .ok (.agg #[.int .u64 (now.promised.toNat:Int), .int .u64 (now.current.toNat:Int), .slice na now.lines.length nc]) w7 from IM (AV (by exact rZ)))
     obtain ⟨hbN,hso,AaI⟩:=hsw.SI now (.slice na now.lines.length nc) ⟨_,_,_,rfl⟩
     have Aaz:=hidden (show (Instr.storeAt 37 (.pointer (some ⟨ps,6,none⟩)) (.agg #[.int .u64 (now.promised.toNat:Int), .int .u64 (now.current.toNat:Int), .slice na now.lines.length nc])).run prog w7 = .ok () _ from hso)
     have hF:=hidden (show Bi (w7.setCells ps 6 [.int .u64 (now.promised.toNat:Int), .int .u64 (now.current.toNat:Int), .slice na now.lines.length nc]) o6 S X Y D ps pd nb Q.1 from by rw [hQ2.out];exact ⟨Y,X,pb,pa,j,_, .inr ⟨rfl,rfl⟩,hbN,AfW.step AaI nS0,qM.1.step AaI uQ nS0,rP.step AaI uS nS0,qM.2.step AaI uT⟩)
     have AaM:=hidden (AcG.out.trans (AaI.mono mS.out))
     have pG:=hidden (show Q.2=0 by rw [hQ2.out])
     clear hbN hso AaI uD rP AfW qM hsw
     have wG:=hidden (show (w6.setCell ⟨ps,4,none⟩ (.int .i64 (j:Int))).setCell ⟨ps,5,none⟩ (.int .u64 (((s.age.toNat:Int)+1) % 18446744073709551616))=w7 by rw [Rh];exact hw7)
     clear hw7
     rw [←wG.out] at hlo Aaz hF AaM
     go_wp2_with (first
      | ((with_reducible apply Bo);exact hlo.out;simp only [Act.put,GL,DL,lss])
      | ((with_reducible apply AC);exact Aaz.out;simp only [Act.put]))
     go_ret
     exact ⟨_,o6,rfl,AaM.out,by rw [pG.out];rfl,by (rw [if_pos pG.out];exact hF.out)⟩
    ·have hQ2:Hid (Q=({ s with Us:=l2,d:=d2,dead:=true },9)):=hidden (by rw [hQ2.out,if_pos he2])
     have heI:(e2 == 0)=false:=by simpa using he2
     obtain ⟨⟨-, -, -, -, -, -, -,c9⟩, -,pF, -⟩:=hb6.cells
     have pF:=pF 9
     have hbD:=hb6.Ik true
     have AaI:=hb6.DC 9 (.bool true)
     have hF:=hidden (show Bi (w6.setCell ⟨ps,9,none⟩ (.bool true)) o6 S X Y D ps pd base Q.1 from by rw [hQ2.out];exact ⟨X,Y,pa,pb,k,kv, .inl ⟨rfl,rfl⟩,hbD,rV.step AaI nS0,rQ.step AaI uS nS0,qN.1.step AaI uQ nS0,qN.2.step AaI uT⟩)
     have AaM:=hidden (AcG.out.trans (AaI.mono mS.out))
     have pG:=hidden (show Q.2=9 by rw [hQ2.out])
     clear hbD AaI
     go_wp2_with fail
     go_ret
     exact ⟨_,o6,rfl,AaM.out,by rw [pG.out];rfl,by (rw [if_neg (by rw [pG.out];omega)];exact hF.out)⟩
   ·have hQ2:Hid (Q=({ s with Us:=l1,d:=d1,dead:=true },9)):=hidden (by rw [hQ2.out,if_pos he1])
    have heI:(e1 == 0)=false:=by simpa using he1
    obtain ⟨⟨-, -, -, -, -, -, -,c9⟩, -,pF, -⟩:=hb5.cells
    have pF:=pF 9
    have hbD:=hb5.Ik true
    have AaI:=hb5.DC 9 (.bool true)
    have hF:=hidden (show Bi (w5.setCell ⟨ps,9,none⟩ (.bool true)) o5 S X Y D ps pd base Q.1 from by rw [hQ2.out];exact ⟨X,Y,pa,pb,k,kv, .inl ⟨rfl,rfl⟩,hbD,rW.step AaI nS0,rU.step AaI uS nS0,qO.1.step AaI uQ nS0,qO.2.step AaI uT⟩)
    have AaM:=hidden (AcG.out.trans (AaI.mono mS.out))
    have pG:=hidden (show Q.2=9 by rw [hQ2.out])
    clear hbD AaI
    go_wp2_with fail
    go_ret
    exact ⟨_,o5,rfl,AaM.out,by rw [pG.out];rfl,by (rw [if_neg (by rw [pG.out];omega)];exact hF.out)⟩
theorem Qb (w:World) (n:Nat) (hn:n ≤ 100000):grownCap w n 0 41 ≤ maxLen:=grownCap_le_maxLen w n 0 41 (by simp only [maxLen];omega)
theorem YX (n:Nat) (hn:n ≤ 100000) (w:World):Calls prog 179 #[.slice none 0 0, .int .i64 (n:Int)] w fun e w'=>∃ v,e = .returned v∧w.grownBy w' none∧w'.ownsRow w.heap.size 41 2 v 0 []:=by
 by_cases h0:n=0
 ·subst h0
  go_enter func179,ntmps179
  go_wp2_with fail
  go_ret
  exact ⟨_,rfl,⟨rfl,rfl,rfl,Nat.le_refl _,fun _ _ _=>rfl⟩,World.ownsRow_nil _ _ _ _⟩
 ·obtain ⟨i,z,hq,hz,e2,e3,e4⟩:=TQ TR
  have hold:(Builtin.firstCells i.size 0 (.slice none 0 0)).run prog w.drew = .ok ([]:List Value).toArray w.drew:=run_firstCells_none w.drew i.size 0 0 0
  have hr:=Lib.run_append_grow_zeros (P:=prog) w 35 3 35 41 i z .i64 .i64 underlying35 underlying3 hq hz none 0 0 [] hold n (by omega) (by omega) (by omega) (by omega) (by rw [e3];omega)
   (by rw [e3];rw [nextslicecap_zero (by omega)];omega)
  rw [Nat.zero_add] at hr
  have hG:=grownCap_ge w n 0 41
  have hG2:=Qb w n hn
  have hcur:(([]:List Value).toArray++Builtin.zeroCells z.cells n++Builtin.zeroCells z.cells (grownCap w n 0 41 - n)).size=grownCap w n 0 41*2:=by
   have hz2:z.cells.size=2:=by rw [e4];rfl
   simp only [Array.size_append,List.size_toArray,List.length_nil,size_zeroCells,hz2]
   omega
  have hown:=World.ownsRow_made (e:=41) (size:=2) (base:=w.heap.size) w.drew _ _ (Nat.le_refl _) hG2 hcur
  have hgr:=World.grownBy_alloc w.drew (.cells (([]:List Value).toArray++Builtin.zeroCells z.cells n++Builtin.zeroCells z.cells (grownCap w n 0 41 - n)) 41) none
  generalize hGe:grownCap w n 0 41=G at *
  generalize hW:w.drew.alloc (.cells (([]:List Value).toArray++Builtin.zeroCells z.cells n++Builtin.zeroCells z.cells (G - n)) 41)=W at *
  have Aax:=hidden hr
  have hG3:(G:Int) ≤ 9223372036854775807:=by simp only [maxLen] at hG2;omega
  have hpos:0<(n:Int):=by omega
  clear hr hold hcur hGe hW hq hz e2 e3 e4 hG2
  go_enter func179,ntmps179
  go_wp2_with ((with_reducible apply Bl);exact Aax.out;simp only [Act.put,GL,DL,lss])
  go_ret
  exact ⟨_,rfl,⟨hgr.os,hgr.tape,hgr.output,hgr.size,hgr.block⟩,hown⟩
theorem VU {w:World} {o:Own} {v:Value} {vs:List Value} {ns:List Nat} {css:List (List Value)} (hv:sH w o v vs.length vs)
  (hr:∀ k,k<vs.length→∃ x n cs,vs[k]?=some x∧ns[k]?=some n∧css[k]?=some cs∧sH w o x n cs∧cs.length=n*2∧∀ u ∈ cs,u.oneCell'=true)
  (hns:ns.length=vs.length) (hcs:css.length=vs.length) (htot:∀ k,(ns.take k).sum ≤ 100000) (Aex:vs.length ≤ 1000000) :
  Calls prog 130 #[v] w (XL Nobody w o fun v w' o'=>w'.ownsRow w.heap.size 41 2 v ns.sum css.flatten∧o'=ext w o):=by
 obtain ⟨a,c,rfl⟩:=Aq hv
 have hsn:∀ k n cs,ns[k]?=some n→css[k]?=some cs→(ns.take (k+1)).sum=(ns.take k).sum+n∧(css.take (k+1)).flatten=(css.take k).flatten++cs:=fun k n cs h1 h2=>by
  rw [List.take_add_one,h1,List.take_add_one,h2];simp
 have hall:ns.take vs.length=ns∧css.take vs.length=css:=⟨List.take_of_length_le (by omega),List.take_of_length_le (by omega)⟩
 have pR:=hidden hall
 have tN:=hidden hr
 have uZ:=hidden hsn
 have nD:=hidden htot
 clear hall hr hns hcs hsn htot
 generalize hmm:vs.length=m at *
 clear hmm
 obtain ⟨tl,htl⟩:∃ tl:Nat→Nat,∀ k,tl k=(ns.take k).sum:=⟨_,fun _=>rfl⟩
 have sO:=hidden htl
 clear htl
 go_enter func130,ntmps130
 go_wp2_with fail
 go_loop [3,11] (fun n i=>∃ k:Nat,k ≤ m∧i = .int .i64 k∧n = .int .i64 (tl k:Int)) (fun _ i=>m - (intOf i).toNat)
 case atStart=>exact ⟨0,Nat.zero_le _,rfl,by rw [sO.out];rfl⟩
 case round =>
  obtain ⟨k,hk,rfl,rfl⟩:=hrel
  by_cases hlt:k<m
  ·obtain ⟨x,n,cs,hx,hn,hc0,hsl, -, -⟩:=tN.out k hlt
   obtain ⟨b,off,rfl,hc,hbl,hbo⟩:=hv.cell k hx
   obtain ⟨xa,xc,rfl⟩:=Aq hsl
   have hlen:(tl (k+1):Int)=(tl k:Int)+(n:Int):=by rw [sO.out,sO.out,(uZ.out k n cs hn hc0).1];omega
   have hb1:tl (k+1) ≤ 100000:=by rw [sO.out];exact nD.out (k+1)
   have hb2:tl k ≤ 100000:=by rw [sO.out];exact nD.out k
   have rD:=hidden hlen
   have hb3:(tl k:Int)+(n:Int) ≤ 100000:=by omega
   clear hlen hb1 hx hn hc0 hsl hv tN uZ pR
   generalize tl k=N at *
   go_wp2_with fail
   go_round
   case rel=>exact ⟨k+1,hlt,by go_num,by rw [rD.out]⟩
   case measure=>simp [intOf];omega
  ·obtain rfl:m=k:=by omega
   have hg:=YX (tl m) (by rw [sO.out];exact nD.out m) w
   go_wp2_with fail
   refine hg.mono ?_;rintro e w1 ⟨v1,rfl,hg1,hown1⟩
   have hbel:Below w.heap.size w w1:=⟨hg1.os,hg1.tape,hg1.output,hg1.size,fun k hk=>hg1.block k hk (by simp)⟩
   clear hg
   obtain ⟨a1,c1,rfl⟩:=BA hown1
   go_wp2_with fail
   go_loopw [6,27] (fun out i wr=>∃ k:Nat,k ≤ m∧i = .int .i64 k∧wr.ownsRow w.heap.size 41 2 out (tl k) (css.take k).flatten∧Below w.heap.size w wr) (fun _ i _=>m - (intOf i).toNat)
   case atStart=>exact ⟨0,Nat.zero_le _,rfl,by rw [sO.out];simpa using hown1,hbel⟩
   case round =>
    clear hown1 hbel hg1
    obtain ⟨k,hk,rfl,hown,hbel⟩:=hrel
    by_cases hlt:k<m
    ·obtain ⟨x,n,cs,hx,hn,hc0,hsl,hcl,hone⟩:=tN.out k hlt
     obtain ⟨b,off,rfl,hc,hbl,hbo⟩:=hv.cell k hx
     have hc2:wr.cell? ⟨b,off+k,none⟩=some x:=by rw [World.cell?_of_block (a:=⟨b,off+k,none⟩) (hbel.block b hbl)];exact hc
     obtain ⟨hs1,hs2⟩:=uZ.out k n cs hn hc0
     rw [←sO.out, ←sO.out] at hs1
     have hb1:tl (k+1) ≤ 100000:=by rw [sO.out];exact nD.out (k+1)
     have hsize:=hbel.size
     obtain ⟨oa,oc,rfl⟩:=BA hown
     have hcap:tl k ≤ oc∧oc ≤ maxLen:=by
      rcases hown.2 with ⟨h1,h2⟩ | ⟨g,cap,cur,h1,_,_,h2,h3,_⟩
      ·simp only [Value.slice.injEq] at h1;omega
      ·simp only [Value.slice.injEq] at h1;omega
     by_cases hm0:n=0
     ·subst hm0
      have hcs0:cs=[]:=List.eq_nil_of_length_eq_zero (by omega)
      subst hcs0
      obtain ⟨xa,xc,rfl⟩:=Aq hsl
      rw [List.append_nil] at hs2
      rw [Nat.add_zero] at hs1
      have hap:=CB (P:=prog) wr 35 35 41 2 underlying35 (by kernel_rfl) oa xa (tl k) oc xc hcap.1 (by omega)
      have xK:=hidden hap
      have hsH:=hidden (aI hs1 hs2)
      have hownH:=hidden hown
      clear hap hs1 hs2 hown hx hn hc0 hsl hv tN uZ pR hb1 hcap hone hcl nD sO
      go_wp2_with ((with_reducible apply Bl);exact xK.out;simp only [Act.put,GL,DL,lss])
      go_roundw
      case rel=>exact ⟨k+1,hlt,by go_num,by rw [hsH.out.1,hsH.out.2];exact hownH.out,hbel⟩
      case measure=>simp [intOf];omega
     ·rcases hsl with ⟨_,h0,_⟩ | ⟨xb,wB,yD,rfl,hxl,hxm,hxo,hxb,hxr⟩
      ·exact absurd h0 hm0
      ·have yH:wr.rangeAt xb wB cs:=Cf hxr (hbel.block xb hxb)
       obtain ⟨g,cap,w3,hrun,hown3,hgrow,hat,hlt3⟩:=DD (P:=prog) wr 35 35 41 underlying35 TR rfl (by omega) (base:=w.heap.size) hsize _ (tl k) _ hown xb wB n yD cs hcl yH hone (by omega) (by omega) (by omega)
       have hb3:Below w.heap.size w w3:=hbel.grown hgrow hbel.size (fun k hk=>(hown.lt k hk).1)
       rw [←hs1, ←hs2] at hown3
       rw [←hs1] at hrun
       have Aax:=hidden hrun
       have hownH:=hidden hown3
       clear hrun hown3 hown hs1 hs2 hx hn hc0 hv tN uZ pR hb1 hcap hone hcl hxr yH hat nD sO
       go_wp2_with ((with_reducible apply Bl);exact Aax.out;simp only [Act.put,GL,DL,lss])
       go_roundw
       case rel=>exact ⟨k+1,hlt,by go_num,hownH.out,hb3⟩
       case measure=>simp [intOf];omega
    ·obtain rfl:m=k:=by omega
     have hEq:tl m=ns.sum:=by rw [sO.out,pR.out.1]
     rw [pR.out.2,hEq] at hown
     have hownH:=hidden hown
     clear hEq hown
     obtain ⟨oa,oc,rfl⟩:=BA hownH.out
     go_wp2_with fail
     go_ret
     exact ⟨_,ext w o,rfl,⟨hbel.os,hbel.tape,hbel.output,hbel.size,fun k hk=>if_pos hk,fun k hk _=>hbel.block k hk⟩,hownH.out,rfl⟩
def AZ.promise (e:BitVec 64) (s:AZ):AZ × Int:=
 if s.dead || s.d.dead then (s,9) else if s.kept.EK e then s.write (2 :: be 8 e) { s.kept with promised:=e } else (s,1)
def AZ.FO (e:BitVec 64) (ls:List Ar) (s:AZ):AZ × Int:=
 if s.dead || s.d.dead then (s,9) else if s.kept.Gg e ls then s.write (3 :: (be 8 e++GR ls)) ⟨e,e,ls⟩ else (s,1)
def AZ.append (ls:List Ar) (s:AZ):AZ × Int:=
 if s.dead || s.d.dead then (s,9) else if s.kept.Eu ls then s.write (4 :: GR ls) { s.kept with lines:=s.kept.lines++ls } else (s,1)
theorem Wrote.same {w:World} {o:Own} {S A B D ps pd base nb:Nat} {s:AZ} {v:Value} {e:Int} (h:Bi w o S A B D ps pd base s) (hv:v = .int .i64 e) (he:e ≠ 0):Wrote S A B D ps pd base nb (s,e) v w o:=
 ⟨hv,by rw [if_neg he];exact h⟩
theorem Bi.box {w:World} {o:Own} {S A B D ps pd base:Nat} {s:AZ} (h:Bi w o S A B D ps pd base s) :
  ∃ kv,Lines w o base kv s.kept.lines∧w.rangeAt ps 6 [.int .u64 (s.kept.promised.toNat:Int), .int .u64 (s.kept.current.toNat:Int),kv]:=by
 obtain ⟨X,Y,pa,pb,k,kv, -,hb,hl, -, -, -⟩:=h
 obtain ⟨-, -, -, -, -, -,hr⟩:=hb.cells
 exact ⟨kv,hl,hr⟩
theorem Tv {S A B D:Nat}:∀ t,Only (S+A+B+D+1) t→t ≠ 0∧¬ qG S A B D t:=fun t h=>by
 change t=_ at h
 subst h
 exact ⟨by omega,fun h=>by rcases h with h | h | h | h <;> omega⟩
theorem aU {S A B D:Nat} (ht:Qw S A B D):¬ qG S A B D 0:=fun h=>by
 rcases h with h | h | h | h
 ·exact ht.s0 h.symm
 ·exact ht.a0 h.symm
 ·exact ht.b0 h.symm
 ·exact ht.d0 h.symm
theorem SA {w:World} {o:Own} {S A B D ps pd base:Nat} {s:AZ} (ht:Qw S A B D) (h:Bi w o S A B D ps pd base s) (hrow:s.d.row.length ≤ 600000) (hpg:1 ≤ s.pages∧s.pages ≤ 4096) (hsm:small s.kept.lines) (e:BitVec 64) :
  Calls prog 138 #[.pointer (some ⟨ps,0,none⟩), .int .u64 (e.toNat:Int)] w (XL (qG S A B D) w o fun v w' o'=>Wrote S A B D ps pd base w.heap.size (s.promise e) v w' o'):=by
 have hmf:∀ (fn:Fn) (first cap:Array Value) (w:World),(Instr.makeFunc fn first cap).run prog w = .ok (.func fn first cap) w:=fun _ _ _ _=>rfl
 have s1:=(Step.refl Nobody w o).alloc (.cells #[.pointer (some ⟨ps,0,none⟩)] 92) (0,0)
 have bs:=Box.new w o 92 (.pointer (some ⟨ps,0,none⟩))
 have z1:(w.alloc (.cells #[.pointer (some ⟨ps,0,none⟩)] 92)).heap.size=w.heap.size+1:=by simp
 have s2:=(Step.refl Nobody (w.alloc (.cells #[.pointer (some ⟨ps,0,none⟩)] 92)) (Ak o w.heap.size (0,0))).alloc (.cells #[.int .u64 (e.toNat:Int)] 34) (0,0)
 have yB:=Box.new (w.alloc (.cells #[.pointer (some ⟨ps,0,none⟩)] 92)) (Ak o w.heap.size (0,0)) 34 (.int .u64 (e.toNat:Int))
 rw [z1] at s2 yB
 replace bs:=bs.step s2 id
 have st2:=s1.trans s2
 replace h:=h.step0 st2
 have hsz2:w.heap.size ≤ ((w.alloc (.cells #[.pointer (some ⟨ps,0,none⟩)] 92)).alloc (.cells #[.int .u64 (e.toNat:Int)] 34)).heap.size:=st2.size
 have hmay:=TD h 193 #[.pointer (some ⟨w.heap.size+1,0,none⟩), .pointer (some ⟨w.heap.size,0,none⟩)] (s.kept.EK e) Tryz.call193 (Tf h e _ _ yB bs)
 obtain ⟨W2,hW2⟩:∃ W2,(w.alloc (.cells #[.pointer (some ⟨ps,0,none⟩)] 92)).alloc (.cells #[.int .u64 (e.toNat:Int)] 34)=W2:=⟨_,rfl⟩
 rw [hW2] at st2 h bs yB hmay hsz2
 generalize Ak (Ak o w.heap.size (0,0)) (w.heap.size+1) (0,0)=o2 at *
 obtain ⟨Q,hQ⟩:∃ Q,s.promise e=Q:=⟨_,rfl⟩
 have vJ:=hidden hQ
 rw [hQ]
 unfold AZ.promise at hQ
 have xO:=hidden hW2
 have hH:=hidden (aI h (aI bs (aI yB st2)))
 have cs:=bs.cell
 have ce:=yB.cell
 have nD:=hidden ht
 have pM:=hidden (aI hrow (aI hpg hsm))
 have pO:=hidden hmay
 have nI0:=hidden (aU ht)
 clear h bs yB st2 s1 s2 hW2 z1 ht hrow hpg hsm hmay vJ
 by_cases hd:(s.dead || s.d.dead)=true
 ·rw [if_pos hd] at hQ pO
  have hF:=hidden (show Wrote S A B D ps pd base w.heap.size Q (.int .i64 9) W2 o2 from by rw [←hQ];exact Wrote.same hH.out.1 rfl (by omega))
  have hF2:=hidden (show ∀ w3 o3,Step Nobody W2 o2 w3 o3→Wrote S A B D ps pd base w.heap.size Q (.int .i64 9) w3 o3 from fun w3 o3 st=>by rw [←hQ];exact Wrote.same (hH.out.1.step0 st) rfl (by omega))
  clear hQ
  go_enter func138,ntmps138
  go_wp2_with fail
  rw [xO.out]
  refine pO.out.mono ?_;rintro e1 w3 ⟨v3,o3,rfl,hs3,rfl⟩
  go_wp2_with fail
  go_ret
  exact ⟨_,o3,rfl,((hH.out.2.2.2.trans hs3).mono (fun _ h=>h.elim)),hF2.out w3 o3 hs3⟩
 ·rw [if_neg hd] at hQ pO
  by_cases hok:s.kept.EK e=true
  ·rw [if_pos hok] at hQ
   rw [if_pos hok] at pO
   have vJ:=hidden hQ
   clear hQ hd hok
   go_enter func138,ntmps138
   go_wp2_with fail
   rw [xO.out]
   refine pO.out.mono ?_;rintro e1 w3 ⟨v3,o3,rfl,hs3,rfl⟩
   have h3:=hH.out.1.step0 hs3
   have bs3:=hH.out.2.1.step hs3 id
   have be3:=hH.out.2.2.1.step hs3 id
   have st3:=hH.out.2.2.2.trans hs3
   obtain ⟨kv,hkl,hrg⟩:=h3.box
   have hld:=hidden (IM hrg)
   have hown:=hidden (Tj (p:=s.kept.promised) (c:=s.kept.current) hkl (by have:=pM.out.2.2.1;omega) (fun x hx=>by have:=KG pM.out.2.2 x hx;omega))
   have cs3:=bs3.cell
   clear cs ce hkl hrg hs3 pO
   go_wp2_with ((with_reducible apply Bo);exact hld.out;simp only [Act.put,GL,DL,lss])
   refine hown.out.mono ?_;rintro e1 w4 ⟨v4,o4,rfl,hs4,lv,rfl,hl4,rfl⟩
   have h4:=h3.step0 hs4
   have bs4:=bs3.step hs4 id
   have be4:=be3.step hs4 id
   have st4:=st3.trans hs4
   have hl4:=hl4.low st3.size
   obtain ⟨o4,ho4⟩:∃ o4,ext w3 o3=o4:=⟨_,rfl⟩
   rw [ho4] at hs4 hl4 h4 bs4 be4 st4
   obtain ⟨la,lc,rfl⟩:=hl4.form
   obtain ⟨N,hN⟩:∃ N,N=S+A+B+D+1:=⟨_,rfl⟩
   have hal:=hidden (AB (P:=prog) w4 37 _ LX)
   have hsw:=Be w4 #[.int .u64 0, .int .u64 0, .slice none 0 0] 37 [.int .u64 (s.kept.promised.toNat:Int), .int .u64 (s.kept.current.toNat:Int), .slice la s.kept.lines.length lc] rfl
   obtain ⟨hso, -⟩:=Ba (P:=prog) (ty:=37) (vs:=[.int .u64 (s.kept.promised.toNat:Int), .int .u64 (s.kept.current.toNat:Int), .slice la s.kept.lines.length lc]) (heap_alloc_new w4 (.cells [.int .u64 0, .int .u64 0, .slice none 0 0].toArray 37)) rfl (by kernel_rfl) rfl
   rw [hsw] at hso
   have Aaz:=hidden hso
   have sN:=(Step.refl Nobody w4 o4).alloc (.cells [.int .u64 (s.kept.promised.toNat:Int), .int .u64 (s.kept.current.toNat:Int), .slice la s.kept.lines.length lc].toArray 37) (N,0)
   have bn:=heap_alloc_new w4 (.cells [.int .u64 (s.kept.promised.toNat:Int), .int .u64 (s.kept.current.toNat:Int), .slice la s.kept.lines.length lc].toArray 37)
   have tn:Ak o4 w4.heap.size (N,0) w4.heap.size=(N,0):=Au _ _ _
   obtain ⟨nb,hnb⟩:∃ nb,w4.heap.size=nb:=⟨_,rfl⟩
   have Abw:w.heap.size ≤ nb:=by rw [←hnb];exact st4.size
   obtain ⟨w5,hw5⟩:∃ w5,w4.alloc (.cells [.int .u64 (s.kept.promised.toNat:Int), .int .u64 (s.kept.current.toNat:Int), .slice la s.kept.lines.length lc].toArray 37)=w5:=⟨_,rfl⟩
   rw [hw5] at sN bn Aaz
   rw [hnb] at sN bn tn
   generalize Ak o4 nb (N,0)=o5 at *
   have h5:=h4.step0 sN
   have bs5:=bs4.step sN id
   have be5:=be4.step sN id
   have hl5:=hl4.step sN id
   have st5:=st4.trans sN
   have Abx:=hidden hnb
   have Adx:=hidden hw5
   have ce5:=be5.cell
   have c50:w5.cell? ⟨nb,0,none⟩=some (.int .u64 (s.kept.promised.toNat:Int)):=cell_of_block bn 0
   have f50:=Ap bn 0
   have hset:=(Step.refl (Only N) w5 o5).setCell (a:=⟨nb,0,none⟩) (.int .u64 (e.toNat:Int)) (.inl (by show (o5 nb).1=N;rw [tn]))
   have yA:=Ai (i:=0) (.int .u64 (e.toNat:Int)) bn
   simp only [DL] at yA
   have nN0:¬ Only N 0:=fun h=>by change 0=N at h;omega
   have h6:=h5.step hset (by rw [hN];exact Tv)
   have bs6:=bs5.step hset nN0
   have be6:=be5.step hset nN0
   have hl6:=hl5.step hset nN0
   have st6:=st5.setCell (a:=⟨nb,0,none⟩) (.int .u64 (e.toNat:Int)) (.inr Abw)
   obtain ⟨w6,hw6⟩:∃ w6,w5.setCell ⟨nb,0,none⟩ (.int .u64 (e.toNat:Int))=w6:=⟨_,rfl⟩
   rw [hw6] at yA h6 bs6 be6 hl6 st6
   have AaY:=hidden hw6
   rw [←hnb] at c50 f50
   clear hnb hw5 hw6 hsw hso hset h5 bs5 be5 hl5 st5 h4 bs4 be4 hl4 st4 h3 bs3 be3 st3 hs4 ho4 hld hown sN cs3 bn
   go_wp2_with (first
    | ((with_reducible apply AU);exact hal.out;simp only [Act.put,GL,DL,lss])
    | ((with_reducible apply AC);exact Aaz.out;simp only [Act.put]))
   rw [Abx.out,AaY.out]
   have hS6:=aI bs6.cell (aI be6.cell yA)
   clear c50 f50 ce5 hal Aaz
   refine Aa (fun w'=>w'.cell? ⟨w.heap.size,0,none⟩=some (.pointer (some ⟨ps,0,none⟩))∧w'.cell? ⟨w.heap.size+1,0,none⟩=some (.int .u64 (e.toNat:Int))∧w'.heap[nb]?=some (.cells [.int .u64 (e.toNat:Int), .int .u64 (s.kept.current.toNat:Int), .slice la s.kept.lines.length lc].toArray 37 (0,0))) (fun _=>true) (by kernel_rfl) hS6 (fun hHeld => ?_)
   refine tq 0 (h:=tq 2 (h:=?_))
   refine Dt (i:=4) (v := .agg [.int .u64 (e.toNat:Int), .int .u64 (s.kept.current.toNat:Int), .slice la s.kept.lines.length lc].toArray) rfl (by kernel_rfl) (fun _ _ _ h=>h) (yieldsIf_load_mid rfl 37 (.tmp 6) rfl nb 0 rfl [.int .u64 (e.toNat:Int), .int .u64 (s.kept.current.toNat:Int), .slice la s.kept.lines.length lc] _ (fun w h=>AV h.2.2) underlying37 rfl (by kernel_rfl)) (by assumption) ?_
   simp only [Act.put,GL,DL,lss]
   refine tO 1 (h:=?_)
   go_wp2_with fail
   refine (IG (Bytes.nil _ o5) (by simp) 2).mono ?_;rintro e1 w7 ⟨v7,o7,rfl,hs7,zN⟩
   have hs7:Step Nobody w6 o5 w7 o7:=(Step.refl Nobody w6 o5).drew.trans hs7
   have bn7:=(hs7.block nb (lt_of_block yA) id).trans yA
   have bs7:=bs6.step hs7 id
   have be7:=be6.step hs7 id
   have hS7:=aI bs7.cell (aI be7.cell bn7)
   clear hHeld
   go_wp2_with fail
   refine ⟨fun _=>hS7, ?_⟩
   refine tO 3 (h:=?_)
   go_wp2_with fail
   refine (Ef zN.bytes (by simp) e).mono ?_;rintro e1 w8 ⟨v8,o8,rfl,hs8,zM⟩
   have bn8:=(hs8.block nb (lt_of_block bn7) id).trans bn7
   have bs8:=bs7.step hs8 id
   have be8:=be7.step hs8 id
   have hS8:=aI bs8.cell (aI be8.cell bn8)
   have vC:=hs7.trans hs8
   have hwr:=hidden (Lj nD.out (h6.step0 vC) pM.out.1 pM.out.2.1 v8 (2 :: be 8 e) (zM.congr (l':=2 :: be 8 e) (by simp)).bytes zM.cap (by simp) (by simp [Az]) { s.kept with promised:=e } (.slice la s.kept.lines.length lc) (hl6.step vC id) pM.out.2.2)
   have st8:=hidden (st6.trans vC)
   clear hS7 hs7 hs8 zN bs7 be7 bn7
   go_wp2_with fail
   refine ⟨fun _=>hS8, ?_⟩
   refine tO 5 (h:=?_)
   go_wp2_with fail
   refine hwr.out.mono ?_;rintro e1 w9 ⟨v9,o9,rfl,hs9,hwd⟩
   have bn9:=(hs9.block nb (lt_of_block bn8) (by
    have e8:o8 nb=(N,0):=by rw [vC.own nb (lt_of_block yA)];exact tn
    rw [e8];exact (Tv N hN).2)).trans bn8
   have hS9:=aI (bs8.step hs9 nI0.out).cell (aI (be8.step hs9 nI0.out).cell bn9)
   rw [vJ.out] at hwd
   obtain ⟨rfl,hwd2⟩:=hwd
   have hwd:=hidden (show Wrote S A B D ps pd base w.heap.size Q (.int .i64 Q.2) w9 o9 from ⟨rfl,hwd2⟩)
   have stF:=hidden ((st8.out.mono (T':=qG S A B D) (fun _ h=>h.elim)).trans hs9)
   clear hs9 hwr hwd2 hS8 bs8 be8 bn8
   go_wp2_with fail
   refine ⟨fun _=>hS9, ?_⟩
   refine tq 6 (h:=tD (h:=?_))
   clear hS9 bn9 hS6
   go_wp2_with fail
   go_ret
   exact ⟨_,o9,rfl,stF.out,hwd.out⟩
  ·rw [if_neg hok] at hQ
   rw [if_neg hok] at pO
   have hF2:=hidden (show ∀ w3 o3,Step Nobody W2 o2 w3 o3→Wrote S A B D ps pd base w.heap.size Q (.int .i64 1) w3 o3 from fun w3 o3 st=>by rw [←hQ];exact Wrote.same (hH.out.1.step0 st) rfl (by omega))
   clear hQ hd hok
   go_enter func138,ntmps138
   go_wp2_with fail
   rw [xO.out]
   refine pO.out.mono ?_;rintro e1 w3 ⟨v3,o3,rfl,hs3,rfl⟩
   go_wp2_with fail
   go_ret
   exact ⟨_,o3,rfl,((hH.out.2.2.2.trans hs3).mono (fun _ h=>h.elim)),hF2.out w3 o3 hs3⟩
theorem Lines.src {w:World} {o:Own} {base:Nat} {v:Value} {ls:List Ar} (h:Lines w o base v ls):∃ cs,sH w o v ls.length cs∧cs.length=ls.length*2∧(∀ u ∈ cs,u.oneCell'=true)∧sW w o cs ls:=by
 obtain ⟨cs,h1,h2, -, -⟩:=h
 exact ⟨cs,h1,by rw [h2.1];omega,h2.one,h2⟩
theorem AkC {w:World} {o:Own} {v:Value} {x1 x2:Value} {b1 b2:Nat} {l1 l2:List Ar} (hv:sH w o v 2 [x1,x2]) (h1:Lines w o b1 x1 l1) (h2:Lines w o b2 x2 l2) (hn:l1.length+l2.length ≤ 100000) :
  Calls prog 130 #[v] w (XL Nobody w o fun v' w' o'=>Lines w' o' 0 v' (l1++l2)):=by
 obtain ⟨c1,s1,k1,q1,e1⟩:=h1.src
 obtain ⟨c2,s2,k2,q2,e2⟩:=h2.src
 refine (VU (vs:=[x1,x2]) (ns:=[l1.length,l2.length]) (css:=[c1,c2]) hv ?_ rfl rfl ?_ (by simp)).mono ?_
 ·intro k hk
  match k,hk with
  | 0,_=>exact ⟨x1,_,c1,rfl,rfl,rfl,s1,k1,q1⟩
  | 1,_=>exact ⟨x2,_,c2,rfl,rfl,rfl,s2,k2,q2⟩
 ·intro k
  match k with
  | 0=>simp
  | 1=>simp;omega
  | k+2=>simp;omega
 ·rintro e w' ⟨v',o',rfl,hs,hown,rfl⟩
  refine ⟨v',_,rfl,hs,c1++c2, ?_,(e1.append e2).step hs id,CV.zero _,fun u _=>CV.zero u⟩
  simp only [List.sum_cons,List.sum_nil,Nat.add_zero,List.flatten_cons,List.flatten_nil,List.append_nil] at hown
  rw [List.length_append]
  rcases hown.2 with ⟨rfl,h0⟩ | ⟨g,cap,cur,rfl,q1,q2,q3,q4,q5,q6⟩
  ·refine .inl ⟨⟨none,0,rfl⟩,h0, ?_⟩
   apply List.eq_nil_of_length_eq_zero
   rw [hown.1,h0]
  ·refine .inr ⟨g,0,cap,rfl,q3,q4,by unfold ext;rw [if_neg (by omega)],lt_of_block q2, ?_⟩
   have:=BU (w:=w') (b:=g) (cs:=cur.toList) (E:=41) (fr:=(0,0)) (by simpa using q2) 0 ((l1.length+l2.length)*2)
   rw [List.drop_zero,q6] at this
   exact this
theorem dF (w:World) (o:Own) (x1 x2:Value) (t:TypeId):sH (w.alloc (.cells #[x1,x2] t)) (Ak o w.heap.size (0,0)) (.slice (some ⟨w.heap.size,0,none⟩) 2 2) 2 [x1,x2]:=
 .inr ⟨w.heap.size,0,2,rfl,by omega,by simp [maxLen],by rw [Au],by simp,AV (heap_alloc_new w _)⟩
theorem WQ {w:World} {o:Own} {S A B D ps pd base Aed:Nat} {s:AZ} (ht:Qw S A B D) (h:Bi w o S A B D ps pd base s) (hrow:s.d.row.length ≤ 600000) (hpg:1 ≤ s.pages∧s.pages ≤ 4096) (e:BitVec 64) (lv:Value) (ls:List Ar) (hl:Lines w o Aed lv ls) (hn1:ls.length ≤ 1000) (hsm:s.kept.Gg e ls=true→small ls) :
  Calls prog 197 #[.pointer (some ⟨ps,0,none⟩), .int .u64 (e.toNat:Int),lv] w (XL (qG S A B D) w o fun v w' o'=>Wrote S A B D ps pd base w.heap.size (s.FO e ls) v w' o'):=by
 have hmf:∀ (fn:Fn) (first cap:Array Value) (w:World),(Instr.makeFunc fn first cap).run prog w = .ok (.func fn first cap) w:=fun _ _ _ _=>rfl
 obtain ⟨la,lc,rfl⟩:=hl.form
 have s1:=(Step.refl Nobody w o).alloc (.cells #[.pointer (some ⟨ps,0,none⟩)] 92) (0,0)
 have bs:=Box.new w o 92 (.pointer (some ⟨ps,0,none⟩))
 have z1:(w.alloc (.cells #[.pointer (some ⟨ps,0,none⟩)] 92)).heap.size=w.heap.size+1:=by simp
 have s2:=(Step.refl Nobody (w.alloc (.cells #[.pointer (some ⟨ps,0,none⟩)] 92)) (Ak o w.heap.size (0,0))).alloc (.cells #[.int .u64 (e.toNat:Int)] 34) (0,0)
 have yB:=Box.new (w.alloc (.cells #[.pointer (some ⟨ps,0,none⟩)] 92)) (Ak o w.heap.size (0,0)) 34 (.int .u64 (e.toNat:Int))
 have z2:((w.alloc (.cells #[.pointer (some ⟨ps,0,none⟩)] 92)).alloc (.cells #[.int .u64 (e.toNat:Int)] 34)).heap.size=w.heap.size+1+1:=by simp
 rw [z1] at s2 yB
 have s3:=(Step.refl Nobody ((w.alloc (.cells #[.pointer (some ⟨ps,0,none⟩)] 92)).alloc (.cells #[.int .u64 (e.toNat:Int)] 34)) (Ak (Ak o w.heap.size (0,0)) (w.heap.size+1) (0,0))).alloc (.cells #[.slice la ls.length lc] 35) (0,0)
 have bl:=Box.new ((w.alloc (.cells #[.pointer (some ⟨ps,0,none⟩)] 92)).alloc (.cells #[.int .u64 (e.toNat:Int)] 34)) (Ak (Ak o w.heap.size (0,0)) (w.heap.size+1) (0,0)) 35 (.slice la ls.length lc)
 rw [z2] at s3 bl
 replace bs:=(bs.step s2 id).step s3 id
 replace yB:=yB.step s3 id
 have st2:=(s1.trans s2).trans s3
 replace h:=h.step0 st2
 replace hl:=hl.step st2 id
 have hmay:=TD h 247 #[.pointer (some ⟨w.heap.size+1,0,none⟩), .pointer (some ⟨w.heap.size,0,none⟩), .pointer (some ⟨w.heap.size+1+1,0,none⟩)] (s.kept.Gg e ls) Tryz.call247 (XA h e _ _ _ _ _ ls yB bs bl hl (by omega))
 obtain ⟨W2,hW2⟩:∃ W2,((w.alloc (.cells #[.pointer (some ⟨ps,0,none⟩)] 92)).alloc (.cells #[.int .u64 (e.toNat:Int)] 34)).alloc (.cells #[.slice la ls.length lc] 35)=W2:=⟨_,rfl⟩
 rw [hW2] at st2 h bs yB bl hmay hl
 generalize Ak (Ak (Ak o w.heap.size (0,0)) (w.heap.size+1) (0,0)) (w.heap.size+1+1) (0,0)=o2 at *
 obtain ⟨Q,hQ⟩:∃ Q,s.FO e ls=Q:=⟨_,rfl⟩
 rw [hQ]
 unfold AZ.FO at hQ
 have xO:=hidden hW2
 have hH:=hidden (aI h (aI bs (aI yB bl)))
 have hst2:=hidden st2
 have cs:=bs.cell
 have hlH:=hidden hl
 have nD:=hidden ht
 have pM:=hidden (aI hrow (aI hpg hsm))
 have pO:=hidden hmay
 have nI0:=hidden (aU ht)
 clear h bs yB bl st2 s1 s2 s3 hW2 z1 z2 ht hrow hpg hsm hmay hl
 by_cases hd:(s.dead || s.d.dead)=true
 ·rw [if_pos hd] at hQ pO
  have hF2:=hidden (show ∀ w3 o3,Step Nobody W2 o2 w3 o3→Wrote S A B D ps pd base w.heap.size Q (.int .i64 9) w3 o3 from fun w3 o3 st=>by rw [←hQ];exact Wrote.same (hH.out.1.step0 st) rfl (by omega))
  clear hQ
  go_enter func197,ntmps197
  go_wp2_with fail
  rw [xO.out]
  refine pO.out.mono ?_;rintro e1 w3 ⟨v3,o3,rfl,hs3,rfl⟩
  go_wp2_with fail
  go_ret
  exact ⟨_,o3,rfl,((hst2.out.trans hs3).mono (fun _ h=>h.elim)),hF2.out w3 o3 hs3⟩
 ·rw [if_neg hd] at hQ pO
  by_cases hok:s.kept.Gg e ls=true
  ·rw [if_pos hok] at hQ
   rw [if_pos hok] at pO
   have pM:=hidden (aI pM.out.1 (aI pM.out.2.1 (pM.out.2.2 hok)))
   have vJ:=hidden hQ
   clear hQ hd hok
   go_enter func197,ntmps197
   go_wp2_with fail
   rw [xO.out]
   refine pO.out.mono ?_;rintro e1 w3 ⟨v3,o3,rfl,hs3,rfl⟩
   have h3:=hH.out.1.step0 hs3
   have bs3:=hH.out.2.1.step hs3 id
   have be3:=hH.out.2.2.1.step hs3 id
   have bl3:=hH.out.2.2.2.step hs3 id
   have hl3:=hlH.out.step hs3 id
   have st3:=hst2.out.trans hs3
   have hS:=aI bs3.cell (aI be3.cell bl3.cell)
   clear cs hs3 pO
   go_wp2_with fail
   refine Aa (fun w'=>w'.cell? ⟨w.heap.size,0,none⟩=some (.pointer (some ⟨ps,0,none⟩))∧w'.cell? ⟨w.heap.size+1,0,none⟩=some (.int .u64 (e.toNat:Int))∧w'.cell? ⟨w.heap.size+1+1,0,none⟩=some (.slice la ls.length lc)) (fun _=>true) (by kernel_rfl) hS (fun hHeld => ?_)
   refine tq 0 (h:=tq 2 (h:=tq 4 (h:=tq 6 (h:=tq 7 (h:=tq 8 (h:=tq 9 (h:=tO 1 (h:=?_))))))))
   go_wp2_with fail
   refine (IG (Bytes.nil _ o3) (by simp) 3).mono ?_;rintro e1 w4 ⟨v4,o4,rfl,hs4,Aby⟩
   have hs4:Step Nobody w3 o3 w4 o4:=(Step.refl Nobody w3 o3).drew.trans hs4
   have bs4:=bs3.step hs4 id
   have be4:=be3.step hs4 id
   have bl4:=bl3.step hs4 id
   have hS4:=aI bs4.cell (aI be4.cell bl4.cell)
   clear hHeld
   go_wp2_with fail
   refine ⟨fun _=>hS4, ?_⟩
   refine tO 3 (h:=?_)
   go_wp2_with fail
   refine (Ef Aby.bytes (by simp) e).mono ?_;rintro e1 w5 ⟨v5,o5,rfl,hs5,AhT⟩
   have bs5:=bs4.step hs5 id
   have be5:=be4.step hs5 id
   have bl5:=bl4.step hs5 id
   have hS5:=aI bs5.cell (aI be5.cell bl5.cell)
   clear hS4
   go_wp2_with fail
   refine ⟨fun _=>hS5, ?_⟩
   refine tO 5 (h:=?_)
   go_wp2_with fail
   have AsJ:=hs4.trans hs5
   refine (Lm AhT.bytes (hl3.step AsJ id) (by simp [Az];have:=pM.out.2.2.2;omega) (by have:=pM.out.2.2.1;omega)).mono ?_;rintro e1 w6 ⟨v6,o6,rfl,hs6,Auk⟩
   have bs6:=bs5.step hs6 id
   have be6:=be5.step hs6 id
   have bl6:=bl5.step hs6 id
   have hS6:=aI bs6.cell (aI be6.cell bl6.cell)
   have Apo:=AsJ.trans hs6
   have hl6:=hl3.step Apo id
   have hown:=hidden (Tj (p:=e) (c:=e) hl6 (by have:=pM.out.2.2.1;omega) (fun x hx=>by have:=KG pM.out.2.2 x hx;omega))
   unfold Dy at hown
   clear hS5
   go_wp2_with fail
   refine ⟨fun _=>hS6, ?_⟩
   refine tO 10 (h:=?_)
   go_wp2_with fail
   refine hown.out.mono ?_;rintro e1 w7 ⟨v7,o7,rfl,hs7,lv7,rfl,wY,rfl⟩
   obtain ⟨o7,ho7⟩:∃ o7,ext w6 o6=o7:=⟨_,rfl⟩
   rw [ho7] at hs7 wY
   have bs7:=bs6.step hs7 id
   have be7:=be6.step hs7 id
   have bl7:=bl6.step hs7 id
   have hS7:=aI bs7.cell (aI be7.cell bl7.cell)
   have AsI:=Apo.trans hs7
   have Abb:w.heap.size ≤ w6.heap.size:=(st3.trans Apo).size
   have hwr:=hidden (Lj nD.out (h3.step0 AsI) pM.out.1 pM.out.2.1 v6 (3 :: (be 8 e++GR ls)) ((Auk.congr (l':=3 :: (be 8 e++GR ls)) (by simp)).step hs7 id).bytes Auk.cap (by simp) (by simp [GR,Az];have:=pM.out.2.2.2;omega) ⟨e,e,ls⟩ lv7 (wY.low Abb) pM.out.2.2)
   unfold Dy at hwr
   have stH:=hidden (st3.trans AsI)
   clear hS6 hown ho7
   go_wp2_with fail
   refine ⟨fun _=>hS7, ?_⟩
   refine tO 11 (h:=?_)
   go_wp2_with fail
   refine hwr.out.mono ?_;rintro e1 w9 ⟨v9,o9,rfl,hs9,hwd⟩
   have hS9:=aI (bs7.step hs9 nI0.out).cell (aI (be7.step hs9 nI0.out).cell (bl7.step hs9 nI0.out).cell)
   rw [vJ.out] at hwd
   obtain ⟨rfl,hwd2⟩:=hwd
   have hwd:=hidden (show Wrote S A B D ps pd base w.heap.size Q (.int .i64 Q.2) w9 o9 from ⟨rfl,hwd2⟩)
   have stF:=hidden ((stH.out.mono (T':=qG S A B D) (fun _ h=>h.elim)).trans hs9)
   clear hs9 hwr hwd2 hS7
   go_wp2_with fail
   refine ⟨fun _=>hS9, ?_⟩
   refine tq 12 (h:=tD (h:=?_))
   clear hS9 hS
   go_wp2_with fail
   go_ret
   exact ⟨_,o9,rfl,stF.out,hwd.out⟩
  ·rw [if_neg hok] at hQ
   rw [if_neg hok] at pO
   clear hd hok
   have hF2:=hidden (show ∀ w3 o3,Step Nobody W2 o2 w3 o3→Wrote S A B D ps pd base w.heap.size Q (.int .i64 1) w3 o3 from fun w3 o3 st=>by rw [←hQ];exact Wrote.same (hH.out.1.step0 st) rfl (by omega))
   clear hQ
   go_enter func197,ntmps197
   go_wp2_with fail
   rw [xO.out]
   refine pO.out.mono ?_;rintro e1 w3 ⟨v3,o3,rfl,hs3,rfl⟩
   go_wp2_with fail
   go_ret
   exact ⟨_,o3,rfl,((hst2.out.trans hs3).mono (fun _ h=>h.elim)),hF2.out w3 o3 hs3⟩
theorem UD {w:World} {o:Own} {S A B D ps pd base Aed:Nat} {s:AZ} (ht:Qw S A B D) (h:Bi w o S A B D ps pd base s) (hrow:s.d.row.length ≤ 600000) (hpg:1 ≤ s.pages∧s.pages ≤ 4096) (lv:Value) (ls:List Ar) (hl:Lines w o Aed lv ls) (hn1:ls.length ≤ 1000) (hk1:s.kept.lines.length ≤ 1000) (hsm:s.kept.Eu ls=true→small ls∧small s.kept.lines∧small (s.kept.lines++ls)) :
  Calls prog 92 #[.pointer (some ⟨ps,0,none⟩),lv] w (XL (qG S A B D) w o fun v w' o'=>Wrote S A B D ps pd base w.heap.size (s.append ls) v w' o'):=by
 have hmf:∀ (fn:Fn) (first cap:Array Value) (w:World),(Instr.makeFunc fn first cap).run prog w = .ok (.func fn first cap) w:=fun _ _ _ _=>rfl
 obtain ⟨la,lc,rfl⟩:=hl.form
 have s1:=(Step.refl Nobody w o).alloc (.cells #[.pointer (some ⟨ps,0,none⟩)] 92) (0,0)
 have bs:=Box.new w o 92 (.pointer (some ⟨ps,0,none⟩))
 have z1:(w.alloc (.cells #[.pointer (some ⟨ps,0,none⟩)] 92)).heap.size=w.heap.size+1:=by simp
 have s2:=(Step.refl Nobody (w.alloc (.cells #[.pointer (some ⟨ps,0,none⟩)] 92)) (Ak o w.heap.size (0,0))).alloc (.cells #[.slice la ls.length lc] 35) (0,0)
 have bl:=Box.new (w.alloc (.cells #[.pointer (some ⟨ps,0,none⟩)] 92)) (Ak o w.heap.size (0,0)) 35 (.slice la ls.length lc)
 rw [z1] at s2 bl
 replace bs:=bs.step s2 id
 have st2:=s1.trans s2
 replace h:=h.step0 st2
 replace hl:=hl.step st2 id
 have hmay:=TD h 126 #[.pointer (some ⟨w.heap.size,0,none⟩), .pointer (some ⟨w.heap.size+1,0,none⟩)] (s.kept.Eu ls) Tryz.call126 (Wj h _ _ _ _ ls bs bl hl (by omega) hk1)
 obtain ⟨W2,hW2⟩:∃ W2,(w.alloc (.cells #[.pointer (some ⟨ps,0,none⟩)] 92)).alloc (.cells #[.slice la ls.length lc] 35)=W2:=⟨_,rfl⟩
 rw [hW2] at st2 h bs bl hmay hl
 generalize Ak (Ak o w.heap.size (0,0)) (w.heap.size+1) (0,0)=o2 at *
 obtain ⟨Q,hQ⟩:∃ Q,s.append ls=Q:=⟨_,rfl⟩
 rw [hQ]
 unfold AZ.append at hQ
 have xO:=hidden hW2
 have hH:=hidden (aI h (aI bs bl))
 have hst2:=hidden st2
 have cs:=bs.cell
 have hlH:=hidden hl
 have nD:=hidden ht
 have pM:=hidden (aI hrow (aI hpg hsm))
 have pO:=hidden hmay
 have nI0:=hidden (aU ht)
 clear h bs bl st2 s1 s2 hW2 z1 ht hrow hpg hsm hmay hl
 by_cases hd:(s.dead || s.d.dead)=true
 ·rw [if_pos hd] at hQ pO
  have hF2:=hidden (show ∀ w3 o3,Step Nobody W2 o2 w3 o3→Wrote S A B D ps pd base w.heap.size Q (.int .i64 9) w3 o3 from fun w3 o3 st=>by rw [←hQ];exact Wrote.same (hH.out.1.step0 st) rfl (by omega))
  clear hQ
  go_enter func92,ntmps92
  go_wp2_with fail
  rw [xO.out]
  refine pO.out.mono ?_;rintro e1 w3 ⟨v3,o3,rfl,hs3,rfl⟩
  go_wp2_with fail
  go_ret
  exact ⟨_,o3,rfl,((hst2.out.trans hs3).mono (fun _ h=>h.elim)),hF2.out w3 o3 hs3⟩
 ·rw [if_neg hd] at hQ pO
  by_cases hok:s.kept.Eu ls=true
  ·rw [if_pos hok] at hQ
   rw [if_pos hok] at pO
   have pM:=hidden (aI pM.out.1 (aI pM.out.2.1 (pM.out.2.2 hok)))
   have vJ:=hidden hQ
   clear hQ hd hok
   go_enter func92,ntmps92
   go_wp2_with fail
   rw [xO.out]
   refine pO.out.mono ?_;rintro e1 w3 ⟨v3,o3,rfl,hs3,rfl⟩
   have h3:=hH.out.1.step0 hs3
   have bs3:=hH.out.2.1.step hs3 id
   have bl3:=hH.out.2.2.step hs3 id
   have hl3:=hlH.out.step hs3 id
   have st3:=hst2.out.trans hs3
   obtain ⟨kv,hkl,hrg⟩:=h3.box
   obtain ⟨ka,kc,rfl⟩:=hkl.form
   have hld:=hidden (OV hrg)
   have cs3:=bs3.cell
   obtain ⟨N,hN⟩:∃ N,N=S+A+B+D+1:=⟨_,rfl⟩
   have hal:=hidden (AB (P:=prog) w3 37 _ LX)
   have hsw:=Be w3 #[.int .u64 0, .int .u64 0, .slice none 0 0] 37 [.int .u64 (s.kept.promised.toNat:Int), .int .u64 (s.kept.current.toNat:Int), .slice ka s.kept.lines.length kc] rfl
   obtain ⟨hso, -⟩:=Ba (P:=prog) (ty:=37) (vs:=[.int .u64 (s.kept.promised.toNat:Int), .int .u64 (s.kept.current.toNat:Int), .slice ka s.kept.lines.length kc]) (heap_alloc_new w3 (.cells [.int .u64 0, .int .u64 0, .slice none 0 0].toArray 37)) rfl (by kernel_rfl) rfl
   rw [hsw] at hso
   have Aaz:=hidden hso
   have sN:=(Step.refl Nobody w3 o3).alloc (.cells [.int .u64 (s.kept.promised.toNat:Int), .int .u64 (s.kept.current.toNat:Int), .slice ka s.kept.lines.length kc].toArray 37) (N,0)
   have bn:=heap_alloc_new w3 (.cells [.int .u64 (s.kept.promised.toNat:Int), .int .u64 (s.kept.current.toNat:Int), .slice ka s.kept.lines.length kc].toArray 37)
   have tn:Ak o3 w3.heap.size (N,0) w3.heap.size=(N,0):=Au _ _ _
   have Abw:w.heap.size ≤ w3.heap.size:=st3.size
   obtain ⟨w5,hw5⟩:∃ w5,w3.alloc (.cells [.int .u64 (s.kept.promised.toNat:Int), .int .u64 (s.kept.current.toNat:Int), .slice ka s.kept.lines.length kc].toArray 37)=w5:=⟨_,rfl⟩
   rw [hw5] at sN bn Aaz
   generalize Ak o3 w3.heap.size (N,0)=o5 at *
   have h5:=h3.step0 sN
   have bs5:=bs3.step sN id
   have bl5:=bl3.step sN id
   have hl5:=hl3.step sN id
   have rW:=hkl.step sN id
   have st5:=st3.trans sN
   have c52:w5.cell? ⟨w3.heap.size,2,none⟩=some (.slice ka s.kept.lines.length kc):=cell_of_block bn 2
   have cl5:=bl5.cell
   have sR:=(Step.refl Nobody w5 o5).alloc (.cells #[.slice ka s.kept.lines.length kc, .slice la ls.length lc] 35) (0,0)
   have slR:=dF w5 o5 (.slice ka s.kept.lines.length kc) (.slice la ls.length lc) 35
   have hcc:=hidden (AkC slR (rW.step sR id) (hl5.step sR id) (by have:=pM.out.2.2.2.2.1;rw [List.length_append] at this;omega))
   have yA:=(sR.block w3.heap.size (lt_of_block bn) id).trans bn
   have tn6:=(sR.own w3.heap.size (lt_of_block bn)).trans tn
   have h6:=h5.step0 sR
   have bs6:=bs5.step sR id
   have bl6:=bl5.step sR id
   have hl6:=hl5.step sR id
   have st6:=st5.trans sR
   clear hrg hkl hsw hso hw5 sN bn tn h5 bs5 bl5 hl5 rW st5 sR slR h3 bs3 bl3 hl3 pO cs
   generalize hgR:Ak o5 w5.heap.size (0,0)=o6 at *
   clear hgR
   go_wp2_with (first
    | ((with_reducible apply Bo);exact hld.out;simp only [Act.put,GL,DL,lss])
    | ((with_reducible apply AU);exact hal.out;simp only [Act.put,GL,DL,lss])
    | ((with_reducible apply AC);exact Aaz.out;simp only [Act.put]))
   refine hcc.out.mono ?_;rintro e1 w7 ⟨v7,o7,rfl,hs7,wY⟩
   obtain ⟨nb,hnb⟩:∃ nb,w3.heap.size=nb:=⟨_,rfl⟩
   have bn7:=(hs7.block _ (lt_of_block yA) id).trans yA
   have tn7:=(hs7.own _ (lt_of_block yA)).trans tn6
   rw [hnb] at bn7 tn7
   have h7:=h6.step0 hs7
   have bs7:=bs6.step hs7 id
   have bl7:=bl6.step hs7 id
   have AuI:=hl6.step hs7 id
   have st7:=st6.trans hs7
   have hset:=(Step.refl (Only N) w7 o7).setCell (a:=⟨nb,2,none⟩) v7 (.inl (by show (o7 nb).1=N;rw [tn7]))
   have bn8:=Ai (i:=2) v7 bn7
   simp only [DL,lss] at bn8
   have nN0:¬ Only N 0:=fun h=>by change 0=N at h;omega
   have h8:=h7.step hset (by rw [hN];exact Tv)
   have bs8:=bs7.step hset nN0
   have bl8:=bl7.step hset nN0
   have hl8:=AuI.step hset nN0
   have AnT:=wY.step hset nN0
   have st8:=st7.setCell (a:=⟨nb,2,none⟩) v7 (.inr (by rw [←hnb];exact Abw))
   have c72:w7.cell? ⟨nb,2,none⟩=some (.slice ka s.kept.lines.length kc):=cell_of_block bn7 2
   have f72:=Ap bn7 2
   obtain ⟨w8,hw8⟩:∃ w8,w7.setCell ⟨nb,2,none⟩ v7=w8:=⟨_,rfl⟩
   rw [hw8] at bn8 h8 bs8 bl8 hl8 AnT st8
   have Abx:=hidden hnb
   have Atm:=hidden hw8
   rw [Abx.out]
   obtain ⟨va,vc,rfl⟩:=AnT.form
   have hown:=hidden (fun (W:World) (O:Own) (st:Step Nobody w8 o7 W O)=>Tj (p:=s.kept.promised) (c:=s.kept.current) (AnT.step st id) (by have:=pM.out.2.2.2.2.1;omega) (fun x hx=>by have:=KG pM.out.2.2.2.2 x hx;omega))
   unfold Dy at hown
   obtain ⟨LL,hLL⟩:∃ LL,(s.kept.lines++ls).length=LL:=⟨_,rfl⟩
   rw [hLL] at hown bn8 Atm
   clear hnb hw8 hset h7 bs7 bl7 AuI st7 h6 bs6 bl6 hl6 st6 hs7 wY yA tn6 c52 cl5 hcc hld hal Aaz cs3 bn7 hs3 st3 AnT
   rw [hLL]
   have hS8:=aI bs8.cell (aI bl8.cell bn8)
   go_wp2_with fail
   rw [Atm.out]
   refine Aa (fun w'=>w'.cell? ⟨w.heap.size,0,none⟩=some (.pointer (some ⟨ps,0,none⟩))∧w'.cell? ⟨w.heap.size+1,0,none⟩=some (.slice la ls.length lc)∧w'.heap[nb]?=some (.cells [.int .u64 (s.kept.promised.toNat:Int), .int .u64 (s.kept.current.toNat:Int), .slice va LL vc].toArray 37 (0,0))) (fun _=>true) (by kernel_rfl) hS8 (fun hHeld => ?_)
   refine tq 0 (h:=tq 2 (h:=?_))
   refine Dt (i:=4) (v := .agg [.int .u64 (s.kept.promised.toNat:Int), .int .u64 (s.kept.current.toNat:Int), .slice va LL vc].toArray) rfl (by kernel_rfl) (fun _ _ _ h=>h) (yieldsIf_load_mid rfl 37 (.tmp 6) rfl nb 0 rfl [.int .u64 (s.kept.promised.toNat:Int), .int .u64 (s.kept.current.toNat:Int), .slice va LL vc] _ (fun w h=>AV h.2.2) underlying37 rfl (by kernel_rfl)) (by assumption) ?_
   simp only [Act.put,GL,DL,lss]
   refine tO 1 (h:=?_)
   go_wp2_with fail
   refine (IG (Bytes.nil _ o7) (by simp) 4).mono ?_;rintro e1 w9 ⟨v9,o9,rfl,hs9,Azj⟩
   have hs9:Step Nobody w8 o7 w9 o9:=(Step.refl Nobody w8 o7).drew.trans hs9
   have bs9:=bs8.step hs9 id
   have bl9:=bl8.step hs9 id
   have bn9:=(hs9.block nb (lt_of_block bn8) id).trans bn8
   have hS9:=aI bs9.cell (aI bl9.cell bn9)
   clear hHeld
   go_wp2_with fail
   refine ⟨fun _=>hS9, ?_⟩
   refine tO 3 (h:=?_)
   go_wp2_with fail
   refine (Lm Azj.bytes (hl8.step hs9 id) (by simp;have:=pM.out.2.2.1.2;omega) (by have:=pM.out.2.2.1.1;omega)).mono ?_;rintro e1 w10 ⟨v10,o10,rfl,hs10,AoN⟩
   have Awt:=bs9.step hs10 id
   have Aww:=bl9.step hs10 id
   have ArL:=(hs10.block nb (lt_of_block bn9) id).trans bn9
   have AgF:=aI Awt.cell (aI Aww.cell ArL)
   have AkO:=hs9.trans hs10
   clear hS9
   go_wp2_with fail
   refine ⟨fun _=>AgF, ?_⟩
   refine tO 5 (h:=?_)
   go_wp2_with fail
   refine (hown.out _ _ AkO).mono ?_;rintro e1 w11 ⟨v11,o11,rfl,hs11,Ayw,rfl,AuJ,rfl⟩
   obtain ⟨o11,Auf⟩:∃ o11,ext w10 o10=o11:=⟨_,rfl⟩
   rw [Auf] at hs11 AuJ
   have Aws:=Awt.step hs11 id
   have Awv:=Aww.step hs11 id
   have ArK:=(hs11.block nb (lt_of_block ArL) id).trans ArL
   have AcA:=aI Aws.cell (aI Awv.cell ArK)
   have AkN:=AkO.trans hs11
   have Atr:w.heap.size ≤ w10.heap.size:=(st8.trans AkO).size
   have hwr:=hidden (Lj nD.out (h8.step0 AkN) pM.out.1 pM.out.2.1 v10 (4 :: GR ls) ((AoN.congr (l':=4 :: GR ls) (by simp)).step hs11 id).bytes AoN.cap (by simp) (by simp [GR,Az];have:=pM.out.2.2.1.2;omega) { s.kept with lines:=s.kept.lines++ls } Ayw (AuJ.low Atr) pM.out.2.2.2.2)
   unfold Dy at hwr
   have stH:=hidden (st8.trans AkN)
   have AxT:=hidden ((AkN.own nb (lt_of_block bn8)).trans tn7)
   clear AgF hown Auf
   go_wp2_with fail
   refine ⟨fun _=>AcA, ?_⟩
   refine tO 6 (h:=?_)
   go_wp2_with fail
   refine hwr.out.mono ?_;rintro e1 w12 ⟨v12,o12,rfl,Aly,hwd⟩
   have Bbk:=(Aly.block nb (lt_of_block ArK) (by rw [AxT.out];exact (Tv N hN).2)).trans ArK
   have Ajn:=aI (Aws.step Aly nI0.out).cell (aI (Awv.step Aly nI0.out).cell Bbk)
   rw [vJ.out] at hwd
   obtain ⟨rfl,hwd2⟩:=hwd
   have hwd:=hidden (show Wrote S A B D ps pd base w.heap.size Q (.int .i64 Q.2) w12 o12 from ⟨rfl,hwd2⟩)
   have stF:=hidden ((stH.out.mono (T':=qG S A B D) (fun _ h=>h.elim)).trans Aly)
   clear Aly hwr hwd2 AcA
   go_wp2_with fail
   refine ⟨fun _=>Ajn, ?_⟩
   refine tq 7 (h:=tD (h:=?_))
   clear Ajn hS8
   go_wp2_with fail
   go_ret
   exact ⟨_,o12,rfl,stF.out,hwd.out⟩
  ·rw [if_neg hok] at hQ
   rw [if_neg hok] at pO
   clear hd hok
   have hF2:=hidden (show ∀ w3 o3,Step Nobody W2 o2 w3 o3→Wrote S A B D ps pd base w.heap.size Q (.int .i64 1) w3 o3 from fun w3 o3 st=>by rw [←hQ];exact Wrote.same (hH.out.1.step0 st) rfl (by omega))
   clear hQ
   go_enter func92,ntmps92
   go_wp2_with fail
   rw [xO.out]
   refine pO.out.mono ?_;rintro e1 w3 ⟨v3,o3,rfl,hs3,rfl⟩
   go_wp2_with fail
   go_ret
   exact ⟨_,o3,rfl,((hst2.out.trans hs3).mono (fun _ h=>h.elim)),hF2.out w3 o3 hs3⟩
structure oQ where
 b:List UInt8
 bad:Bool
namespace oQ
def take (n:Nat) (m:oQ):Option (List UInt8) × oQ:=
 if m.bad then (none,m) else if m.b.length<n then (none,{ m with bad:=true }) else (some (m.b.take n),{ m with b:=m.b.drop n })
def num (n:Nat) (m:oQ):BitVec 64 × oQ:=(((m.take n).1.map Go.Proofs.YtffkdillijmamaaGreat.num).getD 0,(m.take n).2)
def txt (n:Nat) (m:oQ):List UInt8 × oQ:=((m.take n).1.getD [],(m.take n).2)
def text (m:oQ):List UInt8 × oQ:=(m.num 4).2.txt (m.num 4).1.toNat
def count (most:Nat) (m:oQ):Nat × oQ:=if most<(m.num 8).1.toNat then (0,{ (m.num 8).2 with bad:=true }) else ((m.num 8).1.toNat,(m.num 8).2)
def done (m:oQ):Int:=if m.bad || decide (0<m.b.length) then 2 else 0
end oQ
def Ep (w:World) (o:Own) (Z p:Nat) (m:oQ):Prop:=
 ∃ bv,w.heap[p]?=some (.cells #[bv, .bool m.bad] 267 (0,0))∧o p=(Z,0)∧Bytes w o bv m.b
theorem Ep.step {T:Nat→Prop} {w w':World} {o o':Own} {Z p:Nat} {m:oQ} (h:Ep w o Z p m) (s:Step T w o w' o') (hZ:¬ T Z) (h0:¬ T 0):Ep w' o' Z p m:=by
 obtain ⟨bv,h1,h2,h3⟩:=h
 have hl:=lt_of_block h1
 exact ⟨bv,by rw [s.block p hl (by rw [h2];exact hZ)];exact h1,by rw [s.own p hl];exact h2,h3.step s h0⟩
theorem addr_add (b off k:Nat):(⟨b,off,none⟩:Addr).add k=⟨b,off+k,none⟩:=Addr.add_mid b off k
theorem Nl {w:World} {o:Own} {bv:Value} {l:List UInt8} (h:Bytes w o bv l) (n:Nat) (hn:n ≤ l.length) :
  ∃ v,(Instr.sliceAt 29 bv none (some (.int .u64 (n:Int))) (some (.int .u64 (n:Int)))).run prog w = .ok v w∧Bytes w o v (l.take n):=by
 have hu:prog.underlying 29=some (.slice (prog.elem 29)):=by kernel_rfl
 have hsz:(sizeOf (prog.elem 29)).run prog w = .ok 1 w:=by
  have:prog.elem 29=5:=by kernel_rfl
  rw [this]
  have h5:(prog.info? 5).map (·.size)=some 1:=by kernel_rfl
  cases hq:prog.info? 5 with
  | none=>simp [hq] at h5
  | some i=>simp [hq] at h5;simp [sizeOf,typeInfo,hq,h5]
 rcases h with ⟨⟨a,c,rfl⟩,h0,_⟩ | ⟨b,off,cap,rfl,hl,hm,ho,hb,hr⟩
 ·have hn0:n=0:=by omega
  subst hn0
  refine ⟨_, ?_, .inl ⟨⟨a,0,rfl⟩,by simp,by simp⟩⟩
  rw [run_sliceAt_slice _ _ _ _ _ _ hu,run_slice_hm w 29 a 0 c hu .u64 .u64 ((0:Nat):Int) ((0:Nat):Int) (by omega) (by omega) (by omega),hsz]
  rfl
 ·by_cases hn0:n=0
  ·subst hn0
   refine ⟨_, ?_, .inl ⟨⟨some ⟨b,off,none⟩,0,rfl⟩,by simp,by simp⟩⟩
   rw [run_sliceAt_slice _ _ _ _ _ _ hu,run_slice_hm w 29 _ l.length cap hu .u64 .u64 ((0:Nat):Int) ((0:Nat):Int) (by omega) (by omega) (by omega),hsz]
   rfl
  ·refine ⟨.slice (some ⟨b,off,none⟩) n n, ?_, .inr ⟨b,off,n,by rw [List.length_take,Nat.min_eq_left hn],by rw [List.length_take];omega,by omega,ho,hb, ?_⟩⟩
   ·rw [run_sliceAt_slice _ _ _ _ _ _ hu,run_slice_hm w 29 _ l.length cap hu .u64 .u64 n n (by omega) (by omega) (by omega),hsz]
    simp only [Result.andThen_ok,sliced,Int.toNat_natCast,Nat.sub_zero,if_neg hn0,Option.map_some,addr_add,Nat.zero_mul,Nat.add_zero]
   ·rw [←Ky];exact ER hr 0 n
theorem Qp {w:World} {o:Own} {bv:Value} {l:List UInt8} (h:Bytes w o bv l) (n:Nat) (hn:n ≤ l.length) :
  ∃ v,(Instr.sliceAt 29 bv (some (.int .u64 (n:Int))) none none).run prog w = .ok v w∧Bytes w o v (l.drop n):=by
 have hu:prog.underlying 29=some (.slice (prog.elem 29)):=by kernel_rfl
 have hsz:(sizeOf (prog.elem 29)).run prog w = .ok 1 w:=by
  have:prog.elem 29=5:=by kernel_rfl
  rw [this]
  have h5:(prog.info? 5).map (·.size)=some 1:=by kernel_rfl
  cases hq:prog.info? 5 with
  | none=>simp [hq] at h5
  | some i=>simp [hq] at h5;simp [sizeOf,typeInfo,hq,h5]
 rcases h with ⟨⟨a,c,rfl⟩,h0,_⟩ | ⟨b,off,cap,rfl,hl,hm,ho,hb,hr⟩
 ·have hn0:n=0:=by omega
  subst hn0
  refine ⟨_, ?_, .inl ⟨⟨if c=0 then a else a.map (·.add (0*1)),c - 0,rfl⟩,by simpa using h0,by rw [List.eq_nil_of_length_eq_zero h0];rfl⟩⟩
  rw [run_sliceAt_slice _ _ _ _ _ _ hu,run_slice_l w 29 a 0 c hu .u64 ((0:Nat):Int) (by omega) (by omega),hsz]
  rfl
 ·by_cases hn0:n=l.length
  ·refine ⟨.slice (if cap=n then some ⟨b,off,none⟩ else some ⟨b,off+n,none⟩) 0 (cap - n), ?_, .inl ⟨⟨_,_,rfl⟩,by simp;omega,by rw [List.drop_eq_nil_of_le (by omega)];rfl⟩⟩
   rw [run_sliceAt_slice _ _ _ _ _ _ hu,run_slice_l w 29 _ l.length cap hu .u64 n (by omega) (by omega),hsz]
   simp only [Result.andThen_ok,sliced,Int.toNat_natCast,Option.map_some,addr_add,Nat.mul_one]
   rw [hn0,Nat.sub_self]
  ·refine ⟨.slice (some ⟨b,off+n,none⟩) (l.length - n) (cap - n), ?_, .inr ⟨b,off+n,cap - n,by rw [List.length_drop],by rw [List.length_drop];omega,by omega,ho,hb, ?_⟩⟩
   ·rw [run_sliceAt_slice _ _ _ _ _ _ hu,run_slice_l w 29 _ l.length cap hu .u64 n (by omega) (by omega),hsz]
    simp only [Result.andThen_ok,sliced,Int.toNat_natCast,Option.map_some,addr_add,Nat.mul_one]
    rw [if_neg (by omega)]
   ·have:=ER hr n (l.length - n)
    rw [List.take_of_length_le (by rw [List.length_drop,Bh];omega),Np] at this
    exact this
theorem NH {w:World} {o:Own} {v:Value} {l:List UInt8} (Z:Nat) (h:Bytes w o v l) (hl:l.length ≤ 1000000) :
  Calls prog 142 #[v] w (XL Nobody w o fun v w' o'=>∃ p,w.heap.size ≤ p∧v = .pointer (some ⟨p,0,none⟩)∧Ep w' o' Z p ⟨l,false⟩):=by
 have hc:=hidden (clone_any h (by omega))
 clear h
 go_enter func142,ntmps142
 go_wp2_with fail
 refine hc.out.mono ?_;rintro e w1 ⟨v1,o1,rfl,hs,hnb⟩
 have hst:=hs.alloc (.cells #[v1, .bool false] 267) (Z,0)
 have hR:Ep (w1.alloc (.cells #[v1, .bool false] 267)) (Ak o1 w1.heap.size (Z,0)) Z w1.heap.size ⟨l,false⟩:=
  ⟨v1,heap_alloc_new w1 _,Au _ _ _,hnb.bytes.step ((Step.refl Nobody w1 o1).alloc _ (Z,0)) id⟩
 have hF:=hidden (aI hst hR)
 have hsz:=hs.size
 obtain ⟨a,c,hv⟩:=Aq hnb.bytes
 subst hv
 clear hst hR hnb hs
 go_wp2_with fail
 go_ret
 exact ⟨_,_,rfl,hF.out.1,w1.heap.size,hsz,rfl,hF.out.2⟩
theorem WA {w:World} {o:Own} {v:Value} {l:List UInt8} (h:Bytes w o v l) (hll:l.length ≤ 1000000) :
  Calls prog 202 #[v] w fun e w'=>e = .returned (.int .u64 ((num l).toNat:Int))∧w=w':=by
 obtain ⟨a,c,hv⟩:=Aq h
 have hcell:∀ i (hi:i<l.length),∃ b off,a=some ⟨b,off,none⟩∧w.cell? ⟨b,off+i,none⟩=some (.int .u8 ((l[i].toNat:Int))):=by
  intro i hi
  rcases h.cases with ⟨_,rfl⟩ | ⟨b,off,cap,hv2,hl,hm,ho,hb,hr⟩
  ·simp at hi
  ·rw [hv] at hv2
   simp only [Value.slice.injEq] at hv2
   refine ⟨b,off,hv2.1,hr i _ ?_⟩
   rw [OW,List.getElem?_eq_getElem hi];rfl
 subst hv
 clear h
 go_enter func202,ntmps202
 go_wp2_with fail
 go_loop [3,8] (fun n i=>∃ k:Nat,k ≤ l.length∧i = .int .i64 k∧n = .int .u64 ((num (l.take k)).toNat:Int)) (fun _ i=>l.length - (intOf i).toNat)
 case atStart=>exact ⟨0,Nat.zero_le _,rfl,rfl⟩
 case round =>
  obtain ⟨k,hk,rfl,rfl⟩:=hrel
  by_cases hlt:k<l.length
  ·obtain ⟨b,off,rfl,hc⟩:=hcell k hlt
   have hsn:num (l.take (k+1))=(num (l.take k) <<< 8) ||| BitVec.ofNat 64 l[k].toNat:=by
    rw [List.take_succ_eq_append_getElem hlt,Ve]
   have uZ:=hidden hsn
   clear hsn hcell
   generalize hcc:l[k]=cc at *
   clear hcc
   go_wp2_with fail
   go_round
   case rel=>exact ⟨k+1,hlt,by go_num,by rw [uZ.out, ←Nr, ←NC, ←wrap_u8]⟩
   case measure=>simp [intOf];omega
  ·have hk':k=l.length:=by omega
   subst hk'
   rw [List.take_length]
   go_wp2_with fail
   go_ret
   exact ⟨rfl,rfl⟩
theorem Xv {w:World} {o:Own} {v:Value} {l:List UInt8} (h:Bytes w o v l) (hll:l.length ≤ 1000000):Calls prog 205 #[v] w (XL Nobody w o fun v w' o'=>Ew w w' o' v l):=by
 have hc:=hidden (clone_any h (by omega))
 clear h
 go_enter func205,ntmps205
 go_wp2_with fail
 refine hc.out.mono ?_;rintro e w1 ⟨v1,o1,rfl,hs,hnb⟩
 go_wp2_with fail
 go_ret
 exact ⟨_,o1,rfl,hs,hnb⟩
theorem NF {w:World} {o:Own} {Z p:Nat} {m:oQ} (h:Ep w o Z p m) (hZ:Z ≠ 0) (hm:m.b.length ≤ 1000000) (n:Nat) (hn:n ≤ 8) :
  Calls prog 201 #[.pointer (some ⟨p,0,none⟩), .int .u64 (n:Int), .func (.func 202) #[] #[]] w (XL (Only Z) w o fun v w' o'=>v = .int .u64 ((m.num n).1.toNat:Int)∧Ep w' o' Z p (m.num n).2):=by
 obtain ⟨bv,h1,h2,h3⟩:=h
 obtain ⟨L,hL⟩:∃ L,m.b.length=L:=⟨_,rfl⟩
 have hni:(0:Int) ≤ (n:Int)∧(n:Int) ≤ 8:=by omega
 have hLi:(0:Int) ≤ (L:Int)∧(L:Int) ≤ 1000000:=by omega
 have c0:w.cell? ⟨p,0,none⟩=some bv:=cell_of_block (cs:=[_,_]) h1 0
 have c1:w.cell? ⟨p,1,none⟩=some (.bool m.bad):=cell_of_block (cs:=[_,_]) h1 1
 have f0:w.frozen? ⟨p,0,none⟩=false:=Ap (cs:=[_,_]) h1 0
 have f1:w.frozen? ⟨p,1,none⟩=false:=Ap (cs:=[_,_]) h1 1
 have hck:=Tryz.call202
 obtain ⟨q,hq⟩:∃ q,m.take n=q:=⟨_,rfl⟩
 have yV:=hidden hq
 unfold oQ.num
 rw [hq]
 unfold oQ.take at hq
 have h0:¬ Only Z 0:=fun h=>hZ h.symm
 have hH:=hidden (aI h1 (aI h2 h3))
 obtain ⟨ba,bc,rfl⟩:=Aq h3
 cases hb:m.bad with
 | true =>
  rw [hb] at c1
  rw [if_pos hb] at hq
  have hF:=hidden (show q.1=none∧Ep w o Z p q.2 from by rw [←hq];exact ⟨rfl,_,h1,h2,h3⟩)
  clear hq h1 h2 h3 hb
  go_enter func201,ntmps201
  go_wp2_with fail
  go_ret
  exact ⟨_,o,rfl,Step.refl _ _ _,by rw [hF.out.1];rfl,hF.out.2⟩
 | false =>
  rw [hb] at c1
  rw [if_neg (by rw [hb];simp)] at hq
  by_cases hlt:L<n
  ·rw [if_pos (by omega)] at hq
   have AbY:(L:Int)<(n:Int):=by omega
   have hset:=(Step.refl (Only Z) w o).setCell (a:=⟨p,1,none⟩) (.bool true) (.inl (by show (o p).1=Z;rw [h2]))
   have hF:=hidden (show q.1=none∧Ep (w.setCell ⟨p,1,none⟩ (.bool true)) o Z p q.2 from by rw [←hq];exact ⟨rfl,_,Ai (cs:=[_,_]) (i:=1) _ h1,h2,h3.step hset h0⟩)
   have hsH:=hidden hset
   rw [hL] at c0
   clear hq h1 h2 h3 hb hset hH
   go_enter func201,ntmps201
   go_wp2_with fail
   go_ret
   exact ⟨_,o,rfl,hsH.out,by rw [hF.out.1];rfl,hF.out.2⟩
  ·rw [if_neg (by omega)] at hq
   have AbY:¬ (L:Int)<(n:Int):=by omega
   obtain ⟨v1,r1,hb1⟩:=Nl h3 n (by omega)
   obtain ⟨v2,r2,hb2⟩:=Qp h3 n (by omega)
   obtain ⟨a2,d2,e2⟩:=Aq hb2
   rw [List.length_drop,hL] at e2
   obtain ⟨L2,hL2⟩:∃ L2,L - n=L2:=⟨_,rfl⟩
   rw [hL2] at e2
   subst e2
   clear hL2
   have hset:=(Step.refl (Only Z) w o).setCell (a:=⟨p,0,none⟩) (.slice a2 L2 d2) (.inl (by show (o p).1=Z;rw [h2]))
   have hF:=hidden (show q.1=some (m.b.take n)∧Ep (w.setCell ⟨p,0,none⟩ (.slice a2 L2 d2)) o Z p q.2 from by rw [←hq];exact ⟨rfl,_,Ai (cs:=[_,_]) (i:=0) _ h1,h2,hb2.step hset h0⟩)
   have hcl:=hidden (WA (hb1.step hset h0) (by rw [List.length_take];omega))
   have hsH:=hidden hset
   have r1H:=hidden r1
   have r2H:=hidden r2
   rw [hL] at c0 r1H r2H
   clear hq h1 h2 h3 hb hset r1 r2 hb1 hb2 hH
   go_enter func201,ntmps201
   go_wp2_with ((with_reducible apply FM);(first | exact r1H.out | exact r2H.out);simp only [Act.put,GL,DL,lss])
   refine hcl.out.mono ?_;rintro e w3 ⟨rfl,rfl⟩
   go_wp2_with fail
   go_ret
   exact ⟨_,o,rfl,hsH.out,by rw [hF.out.1];rfl,hF.out.2⟩
theorem Yr {w:World} {o:Own} {Z p:Nat} {m:oQ} (h:Ep w o Z p m) (hZ:Z ≠ 0) (hm:m.b.length ≤ 1000000) (n:Nat) (hn:n ≤ 4294967295) :
  Calls prog 204 #[.pointer (some ⟨p,0,none⟩), .int .u64 (n:Int), .func (.func 205) #[] #[]] w (XL (Only Z) w o fun v w' o'=>(Bytes w' o' v (m.txt n).1∧CV w.heap.size v)∧Ep w' o' Z p (m.txt n).2):=by
 obtain ⟨bv,h1,h2,h3⟩:=h
 obtain ⟨L,hL⟩:∃ L,m.b.length=L:=⟨_,rfl⟩
 have hni:(0:Int) ≤ (n:Int)∧(n:Int) ≤ 4294967295:=by omega
 have hLi:(0:Int) ≤ (L:Int)∧(L:Int) ≤ 1000000:=by omega
 have c0:w.cell? ⟨p,0,none⟩=some bv:=cell_of_block (cs:=[_,_]) h1 0
 have c1:w.cell? ⟨p,1,none⟩=some (.bool m.bad):=cell_of_block (cs:=[_,_]) h1 1
 have f0:w.frozen? ⟨p,0,none⟩=false:=Ap (cs:=[_,_]) h1 0
 have f1:w.frozen? ⟨p,1,none⟩=false:=Ap (cs:=[_,_]) h1 1
 have hck:=Tryz.call205
 obtain ⟨q,hq⟩:∃ q,m.take n=q:=⟨_,rfl⟩
 have yV:=hidden hq
 unfold oQ.txt
 rw [hq]
 unfold oQ.take at hq
 have h0:¬ Only Z 0:=fun h=>hZ h.symm
 have hH:=hidden (aI h1 (aI h2 h3))
 obtain ⟨ba,bc,rfl⟩:=Aq h3
 cases hb:m.bad with
 | true =>
  rw [hb] at c1
  rw [if_pos hb] at hq
  have hF:=hidden (show q.1=none∧Ep w o Z p q.2 from by rw [←hq];exact ⟨rfl,_,h1,h2,h3⟩)
  clear hq h1 h2 h3 hb
  go_enter func204,ntmps204
  go_wp2_with fail
  go_ret
  exact ⟨_,o,rfl,Step.refl _ _ _,by rw [hF.out.1];exact ⟨Bytes.nil _ _,CV.nil _ _ _⟩,hF.out.2⟩
 | false =>
  rw [hb] at c1
  rw [if_neg (by rw [hb];simp)] at hq
  by_cases hlt:L<n
  ·rw [if_pos (by omega)] at hq
   have AbY:(L:Int)<(n:Int):=by omega
   have hset:=(Step.refl (Only Z) w o).setCell (a:=⟨p,1,none⟩) (.bool true) (.inl (by show (o p).1=Z;rw [h2]))
   have hF:=hidden (show q.1=none∧Ep (w.setCell ⟨p,1,none⟩ (.bool true)) o Z p q.2 from by rw [←hq];exact ⟨rfl,_,Ai (cs:=[_,_]) (i:=1) _ h1,h2,h3.step hset h0⟩)
   have hsH:=hidden hset
   rw [hL] at c0
   clear hq h1 h2 h3 hb hset hH
   go_enter func204,ntmps204
   go_wp2_with fail
   go_ret
   exact ⟨_,o,rfl,hsH.out,by rw [hF.out.1];exact ⟨Bytes.nil _ _,CV.nil _ _ _⟩,hF.out.2⟩
  ·rw [if_neg (by omega)] at hq
   have AbY:¬ (L:Int)<(n:Int):=by omega
   obtain ⟨v1,r1,hb1⟩:=Nl h3 n (by omega)
   obtain ⟨v2,r2,hb2⟩:=Qp h3 n (by omega)
   obtain ⟨a2,d2,e2⟩:=Aq hb2
   rw [List.length_drop,hL] at e2
   obtain ⟨L2,hL2⟩:∃ L2,L - n=L2:=⟨_,rfl⟩
   rw [hL2] at e2
   subst e2
   clear hL2
   have hset:=(Step.refl (Only Z) w o).setCell (a:=⟨p,0,none⟩) (.slice a2 L2 d2) (.inl (by show (o p).1=Z;rw [h2]))
   have hF:=hidden (show q.1=some (m.b.take n)∧Ep (w.setCell ⟨p,0,none⟩ (.slice a2 L2 d2)) o Z p q.2 from by rw [←hq];exact ⟨rfl,_,Ai (cs:=[_,_]) (i:=0) _ h1,h2,hb2.step hset h0⟩)
   have hcl:=hidden (Xv (hb1.step hset h0) (by rw [List.length_take];omega))
   have hsH:=hidden hset
   have r1H:=hidden r1
   have r2H:=hidden r2
   rw [hL] at c0 r1H r2H
   clear hq h1 h2 h3 hb hset r1 r2 hb1 hb2 hH
   go_enter func204,ntmps204
   go_wp2_with ((with_reducible apply FM);(first | exact r1H.out | exact r2H.out);simp only [Act.put,GL,DL,lss])
   refine hcl.out.mono ?_;rintro e w3 ⟨v3,o3,rfl,hs3,hnb⟩
   go_wp2_with fail
   go_ret
   exact ⟨_,o3,rfl,hsH.out.trans (hs3.only Z),by rw [hF.out.1];exact ⟨hnb.bytes,hnb.fresh.low (by have:=hsH.out.size;omega)⟩,hF.out.2.step hs3 id id⟩
theorem oQ.EC (n:Nat) (m:oQ):(m.num n).2.b.length ≤ m.b.length:=by
 unfold oQ.num oQ.take;split
 ·exact Nat.le_refl _
 ·split
  ·exact Nat.le_refl _
  ·show (m.b.drop n).length ≤ _;rw [List.length_drop];omega
theorem oQ.cZ (n:Nat) (m:oQ):(m.txt n).2.b.length ≤ m.b.length∧(m.txt n).1.length ≤ m.b.length:=by
 unfold oQ.txt oQ.take;split
 ·exact ⟨Nat.le_refl _,by simp⟩
 ·split
  ·exact ⟨Nat.le_refl _,by simp⟩
  ·refine ⟨?_, ?_⟩
   ·show (m.b.drop n).length ≤ _;rw [List.length_drop];omega
   ·show (m.b.take n).length ≤ _;rw [List.length_take];omega
theorem oQ.EL {n:Nat} (hn:n ≤ 8) (m:oQ):(m.num n).1.toNat<256 ^ n ∨ (m.num n).1=0:=by
 unfold oQ.num oQ.take;split
 ·exact .inr rfl
 ·split
  ·exact .inr rfl
  ·rename_i h1 h2
   left
   show (Go.Proofs.YtffkdillijmamaaGreat.num (m.b.take n)).toNat<_
   have hl:(m.b.take n).length=n:=by rw [List.length_take];omega
   rw [Go.Proofs.YtffkdillijmamaaGreat.EL (by omega)]
   have:=Jg (m.b.take n)
   rw [hl] at this;exact this
section
variable {w:World} {o:Own} {Z p:Nat} {m:oQ}
theorem NI (h:Ep w o Z p m) (hZ:Z ≠ 0) (hm:m.b.length ≤ 1000000) :
  Calls prog 143 #[.pointer (some ⟨p,0,none⟩)] w (XL (Only Z) w o fun v w' o'=>v = .int .u8 (((m.num 1).1.toNat % 256:Nat):Int)∧Ep w' o' Z p (m.num 1).2):=by
 have hc:=hidden (NF h hZ hm 1 (by omega))
 have hs:=oQ.EL (n:=1) (by omega) m
 have hlt:(m.num 1).1.toNat<256:=by
  rcases hs with hs | hs
  ·simpa using hs
  ·rw [hs];decide
 have hlI:(0:Int) ≤ ((m.num 1).1.toNat:Int)∧((m.num 1).1.toNat:Int)<256:=by omega
 have hmod:(m.num 1).1.toNat % 256=(m.num 1).1.toNat:=Nat.mod_eq_of_lt hlt
 rw [hmod]
 clear hs h hmod hlt
 go_enter func143,ntmps143
 go_wp2_with fail
 refine hc.out.mono ?_;rintro e w1 ⟨v1,o1,rfl,hs,rfl,hr⟩
 go_wp2_with fail
 go_ret
 exact ⟨_,o1,rfl,hs,rfl,hr⟩
theorem EJ (h:Ep w o Z p m) (hZ:Z ≠ 0) (hm:m.b.length ≤ 1000000) :
  Calls prog 144 #[.pointer (some ⟨p,0,none⟩)] w (XL (Only Z) w o fun v w' o'=>v = .int .u64 ((m.num 8).1.toNat:Int)∧Ep w' o' Z p (m.num 8).2):=by
 have hc:=hidden (NF h hZ hm 8 (by omega))
 clear h
 go_enter func144,ntmps144
 go_wp2_with fail
 refine hc.out.mono ?_;rintro e w1 ⟨v1,o1,rfl,hs,rfl,hr⟩
 go_wp2_with fail
 go_ret
 exact ⟨_,o1,rfl,hs,rfl,hr⟩
theorem Rq (h:Ep w o Z p m) (hZ:Z ≠ 0) (hm:m.b.length ≤ 1000000) :
  Calls prog 146 #[.pointer (some ⟨p,0,none⟩)] w (XL (Only Z) w o fun v w' o'=>(Bytes w' o' v m.text.1∧CV w.heap.size v)∧Ep w' o' Z p m.text.2):=by
 have hc:=hidden (NF h hZ hm 4 (by omega))
 have hs:=oQ.EL (n:=4) (by omega) m
 have hlt:(m.num 4).1.toNat ≤ 4294967295:=by
  rcases hs with hs | hs
  ·have:(256:Nat) ^ 4=4294967296:=by decide
   omega
  ·rw [hs];decide
 have hl2:=oQ.EC 4 m
 have hc2:=hidden (fun (W:World) (O:Own) (hr:Ep W O Z p (m.num 4).2)=>Yr hr hZ (by omega) (m.num 4).1.toNat hlt)
 clear hs h hl2
 unfold oQ.text
 generalize (m.num 4).1.toNat=n4 at *
 generalize (m.num 4).2=m4 at *
 go_enter func146,ntmps146
 go_wp2_with fail
 refine hc.out.mono ?_;rintro e w1 ⟨v1,o1,rfl,hs,rfl,hr⟩
 have hc3:=hidden (hc2.out _ _ hr)
 have hsz:=hs.size
 clear hc hc2
 go_wp2_with fail
 refine hc3.out.mono ?_;rintro e w2 ⟨v2,o2,rfl,hs2,⟨hb,hf⟩,hr2⟩
 go_wp2_with fail
 go_ret
 exact ⟨_,o2,rfl,hs.trans hs2,⟨hb,hf.low hsz⟩,hr2⟩
theorem aB (h:Ep w o Z p m) (hZ:Z ≠ 0) :
  Calls prog 203 #[.pointer (some ⟨p,0,none⟩)] w (XL (Only Z) w o fun v w' o'=>v = .tuple #[]∧Ep w' o' Z p { m with bad:=true }):=by
 obtain ⟨bv,h1,h2,h3⟩:=h
 have c1:w.cell? ⟨p,1,none⟩=some (.bool m.bad):=cell_of_block (cs:=[_,_]) h1 1
 have f1:w.frozen? ⟨p,1,none⟩=false:=Ap (cs:=[_,_]) h1 1
 have hset:=(Step.refl (Only Z) w o).setCell (a:=⟨p,1,none⟩) (.bool true) (.inl (by show (o p).1=Z;rw [h2]))
 have hF:=hidden (show Ep (w.setCell ⟨p,1,none⟩ (.bool true)) o Z p { m with bad:=true } from ⟨_,Ai (cs:=[_,_]) (i:=1) _ h1,h2,h3.step hset (fun h=>hZ h.symm)⟩)
 have hsH:=hidden hset
 clear h1 h2 h3 hset
 go_enter func203,ntmps203
 go_wp2_with fail
 first | go_end0 | refine bodyPost_ret (results_none rfl _ _ _) rfl ?_
 exact ⟨_,o,rfl,hsH.out,rfl,hF.out⟩
theorem Je (h:Ep w o Z p m) (hZ:Z ≠ 0) (hm:m.b.length ≤ 1000000) (most:Nat) (BcH:most ≤ 1000000) :
  Calls prog 145 #[.pointer (some ⟨p,0,none⟩), .int .i64 (most:Int)] w (XL (Only Z) w o fun v w' o'=>v = .int .i64 ((m.count most).1:Int)∧Ep w' o' Z p (m.count most).2):=by
 have hc:=hidden (EJ h hZ hm)
 have hlt:=(m.num 8).1.isLt
 obtain ⟨q,hq⟩:∃ q,m.count most=q:=⟨_,rfl⟩
 rw [hq]
 unfold oQ.count at hq
 generalize (m.num 8).1.toNat=n8 at *
 generalize (m.num 8).2=m8 at *
 have hnI:(0:Int) ≤ (n8:Int)∧(n8:Int)<18446744073709551616:=by omega
 have hmI:(0:Int) ≤ (most:Int)∧(most:Int) ≤ 1000000:=by omega
 clear h hlt
 by_cases hb:most<n8
 ·rw [if_pos hb] at hq
  have hbI:(most:Int)<(n8:Int):=by omega
  have yV:=hidden hq
  clear hq
  go_enter func145,ntmps145
  go_wp2_with fail
  refine hc.out.mono ?_;rintro e w1 ⟨v1,o1,rfl,hs,rfl,hr⟩
  have hc3:=hidden (aB hr hZ)
  clear hc
  go_wp2_with fail
  refine hc3.out.mono ?_;rintro e w2 ⟨v2,o2,rfl,hs2,rfl,hr2⟩
  go_wp2_with fail
  go_ret
  exact ⟨_,o2,rfl,hs.trans hs2,by rw [←yV.out];rfl,by rw [←yV.out];exact hr2⟩
 ·rw [if_neg hb] at hq
  have hbI:¬ (most:Int)<(n8:Int):=by omega
  have hbJ:(n8:Int) ≤ 1000000:=by omega
  have yV:=hidden hq
  clear hq
  go_enter func145,ntmps145
  go_wp2_with fail
  refine hc.out.mono ?_;rintro e w1 ⟨v1,o1,rfl,hs,rfl,hr⟩
  clear hc
  go_wp2_with fail
  go_ret
  exact ⟨_,o1,rfl,hs,by rw [←yV.out];rfl,by rw [←yV.out];exact hr⟩
theorem II (h:Ep w o Z p m):Calls prog 147 #[.pointer (some ⟨p,0,none⟩)] w fun e w'=>e = .returned (.int .i64 m.done)∧w=w':=by
 obtain ⟨bv,h1,h2,h3⟩:=h
 have c0:w.cell? ⟨p,0,none⟩=some bv:=cell_of_block (cs:=[_,_]) h1 0
 have c1:w.cell? ⟨p,1,none⟩=some (.bool m.bad):=cell_of_block (cs:=[_,_]) h1 1
 obtain ⟨ba,bc,rfl⟩:=Aq h3
 obtain ⟨D,hD⟩:∃ D,m.done=D:=⟨_,rfl⟩
 rw [hD]
 unfold oQ.done at hD
 generalize m.b.length=L at *
 clear h1 h2 h3
 cases hb:m.bad with
 | true =>
  rw [hb] at c1 hD
  have hDH:=hidden hD
  clear hD hb
  go_enter func147,ntmps147
  go_wp2_with fail
  go_ret
  exact ⟨by rw [←hDH.out];rfl,rfl⟩
 | false =>
  rw [hb] at c1 hD
  by_cases hl:0<L
  ·have hlI:(0:Int)<(L:Int):=by omega
   have hDH:=hidden (show D=2 by rw [←hD];simp [hl])
   clear hD hb hl
   go_enter func147,ntmps147
   go_wp2_with fail
   go_ret
   exact ⟨by rw [hDH.out];rfl,rfl⟩
  ·have hlI:¬ (0:Int)<(L:Int):=by omega
   have hDH:=hidden (show D=0 by rw [←hD];simp [hl])
   clear hD hb hl
   go_enter func147,ntmps147
   go_wp2_with fail
   go_ret
   exact ⟨by rw [hDH.out];rfl,rfl⟩
end
def Ce:Nat→oQ→List Ar × oQ
 | 0,m=>([],m)
 | k+1,m=>((Ce k m).1++[⟨((Ce k m).2.num 8).1,((Ce k m).2.num 8).2.text.1⟩],((Ce k m).2.num 8).2.text.2)
def oQ.lines (m:oQ):List Ar × oQ:=Ce (m.count 256).1 (m.count 256).2
theorem oQ.ZE (m:oQ):m.text.2.b.length ≤ m.b.length:=by
 unfold oQ.text
 have h1:=oQ.EC 4 m
 have h2:=(oQ.cZ (m.num 4).1.toNat (m.num 4).2).1
 omega
theorem NG (k:Nat) (m:oQ):(Ce k m).2.b.length ≤ m.b.length∧(Ce k m).1.length=k:=by
 induction k with
 | zero=>exact ⟨Nat.le_refl _,rfl⟩
 | succ k ih =>
  have h1:=oQ.EC 8 (Ce k m).2
  have h2:=oQ.ZE ((Ce k m).2.num 8).2
  refine ⟨?_,by simp [Ce,ih.2]⟩
  show ((Ce k m).2.num 8).2.text.2.b.length ≤ _
  omega
theorem oQ.IW (most:Nat) (m:oQ):(m.count most).2.b.length ≤ m.b.length∧(m.count most).1 ≤ most:=by
 have h1:=oQ.EC 8 m
 unfold oQ.count;split
 ·exact ⟨h1,Nat.zero_le _⟩
 ·rename_i h;exact ⟨h1,by show (m.num 8).1.toNat ≤ most;omega⟩
def Gh (w:World) (o:Own) (base:Nat) (t:Nat × Nat) (v:Value) (ls:List Ar):Prop:=
 ∃ cs,w.ownsRow base 41 2 v ls.length cs∧(∀ g,v.ownBlock=some g→o g=t)∧sW w o cs ls∧∀ u ∈ cs,CV base u
theorem Gh.nil (w:World) (o:Own) (base:Nat) (t:Nat × Nat):Gh w o base t (.slice none 0 0) []:=⟨[],World.ownsRow_nil _ _ _ _,fun g hg=>by simp [Value.ownBlock] at hg,sW.nil w o,by simp⟩
theorem Gh.step {T:Nat→Prop} {w w':World} {o o':Own} {base:Nat} {t:Nat × Nat} {v:Value} {ls:List Ar} (h:Gh w o base t v ls) (s:Step T w o w' o') (ht:¬ T t.1) (h0:¬ T 0):Gh w' o' base t v ls:=by
 obtain ⟨cs,h1,h2,h3,h4⟩:=h
 exact ⟨cs,Ci h1 fun k hk=>s.block k (h1.lt k hk).2 (by rw [h2 k hk];exact ht),fun g hg=>by rw [s.own g (h1.lt g hg).2];exact h2 g hg,h3.step s h0,h4⟩
theorem Gh.form {w:World} {o:Own} {base:Nat} {t:Nat × Nat} {v:Value} {ls:List Ar} (h:Gh w o base t v ls):∃ a c,v = .slice a ls.length c:=by
 obtain ⟨cs,h1, -⟩:=h;exact BA h1
theorem Gh.lines {w:World} {o o':Own} {base:Nat} {t:Nat × Nat} {v:Value} {ls:List Ar} (h:Gh w o base t v ls) (ho:∀ k,base ≤ k→(o' k).1=0):Lines w o' base v ls:=by
 obtain ⟨cs,h1,h2,h3,h4⟩:=h
 have hf:CV base v:=CV.own h1 (Nat.le_refl _)
 refine ⟨cs, ?_,⟨h3.1,fun i x hx => ?_⟩,hf,h4⟩
 ·rcases h1.2 with ⟨rfl,h0⟩ | ⟨g,cap,cur,rfl,q1,q2,q3,q4,q5,q6⟩
  ·refine .inl ⟨⟨none,0,rfl⟩,h0, ?_⟩
   apply List.eq_nil_of_length_eq_zero;rw [h1.1,h0]
  ·refine .inr ⟨g,0,cap,rfl,q3,q4,ho g q1,lt_of_block q2, ?_⟩
   have:=BU (w:=w) (b:=g) (cs:=cur.toList) (E:=41) (fr:=(0,0)) (by simpa using q2) 0 (ls.length*2)
   rw [List.drop_zero,q6] at this;exact this
 ·obtain ⟨a,bv,b,c⟩:=h3.2 i x hx
  exact ⟨a,bv,b,c.retag (h4 bv (List.mem_of_getElem? b)) ho⟩
theorem Gh.append {W:World} {o:Own} {base X:Nat} {v:Value} {l1 l2:List Ar} (h:Gh W o base (X,0) v l1) (hX:X ≠ 0) (hbase:base ≤ W.heap.size) {sb Apq c:Nat} {cs2:List Value} (hr:W.rangeAt sb Apq cs2) (h2:sW W o cs2 l2) (hf:∀ u ∈ cs2,CV base u) (hpos:0<l2.length) (hn:l1.length+l2.length ≤ 100000) :
  ∃ nv w' o',(Builtin.append_ #[35,35] 35 #[v, .slice (some ⟨sb,Apq,none⟩) l2.length c]).run prog W = .ok nv w'∧Gh w' o' base (X,0) nv (l1++l2)∧Step (Only X) W o w' o'∧W.grownBy w' v.ownBlock∧(∀ k,o' k=o k ∨ (W.heap.size ≤ k∧o' k=(X,0))):=by
 obtain ⟨cs,h1,ht,h3,h4⟩:=h
 obtain ⟨g,cap,w',hrun,hown,hgrow,hat,hlt⟩:=DD (P:=prog) W 35 35 41 underlying35 TR rfl (by omega) hbase v l1.length cs h1 sb Apq l2.length c cs2 (by rw [h2.1];omega) hr h2.one hpos (by omega) (by omega)
 have hs:Step (Only X) W o w' (Ak o g (X,0)):=(Step.refl (Only X) W o).grown hgrow (fun k hk => .inl (by show (o k).1=X;rw [ht k hk])) g (X,0) (by
  rcases hat with hat | hat
  ·exact .inl (ht g hat)
  ·exact .inr (by omega))
 have h0:¬ Only X 0:=fun h=>hX h.symm
 refine ⟨_,w',_,hrun,⟨cs++cs2,by rw [List.length_append];exact hown,fun k hk => ?_,(h3.append h2).step hs h0,fun u hu => ?_⟩,hs,hgrow,fun k => ?_⟩
 ·simp only [Value.ownBlock,Option.some.injEq] at hk;subst hk;exact Au _ _ _
 ·rcases List.mem_append.1 hu with hu | hu
  ·exact h4 u hu
  ·exact hf u hu
 ·by_cases hkg:k=g
  ·subst hkg
   rw [Au]
   rcases hat with hat | hat
   ·exact .inl (ht k hat).symm
   ·exact .inr ⟨by omega,rfl⟩
  ·exact .inl (BI _ _ hkg)
theorem TY (w:World) (e:Int) (bv:Value):(Instr.buildSlice 35 1 #[(0, .agg #[.int .u64 e,bv])]).run prog w = .ok (.slice (some ⟨w.heap.size,0,none⟩) 1 1) (w.alloc (.cells [.int .u64 e,bv].toArray 41)):=
 Dv w 35 41 [.int .u64 0, .slice none 0 0] (.agg #[.int .u64 e,bv]) [.int .u64 e,bv] underlying35 (by kernel_rfl) rfl (by simp) (by simp) rfl
theorem JP {w:World} {o:Own} {Z p X:Nat} {m:oQ} (h:Ep w o Z p m) (hZ:Z ≠ 0) (hX:X ≠ 0) (hXZ:X ≠ Z) (hm:m.b.length ≤ 1000000) :
  Calls prog 176 #[.pointer (some ⟨p,0,none⟩)] w (XL (Only Z) w o fun v w' o'=>Gh w' o' w.heap.size (X,0) v m.lines.1∧Ep w' o' Z p m.lines.2):=by
 have hc:=hidden (Je h hZ hm 256 (by omega))
 have hcl:=oQ.IW 256 m
 unfold oQ.lines
 generalize (m.count 256).1=N at *
 generalize (m.count 256).2=mc at *
 have hmc:mc.b.length ≤ 1000000:=by omega
 have hNI:(0:Int) ≤ (N:Int)∧(N:Int) ≤ 256:=by omega
 clear h hcl hm
 go_enter func176,ntmps176
 go_wp2_with fail
 refine hc.out.mono ?_;rintro e w1 ⟨v1,o1,rfl,hs,rfl,hr⟩
 have WV:=hidden hmc
 clear hc hmc
 go_wp2_with fail
 go_loopw [3,6] (fun out i wr=>∃ (k:Nat) (oj:Own),k ≤ N∧i = .int .i64 k∧Gh wr oj w.heap.size (X,0) out (Ce k mc).1∧Ep wr oj Z p (Ce k mc).2∧Step (Only Z) w o wr oj) (fun _ i _=>N - (intOf i).toNat)
 case atStart=>exact ⟨0,o1,by omega,rfl,Gh.nil _ _ _ _,hr,hs⟩
 case round =>
  clear hr hs
  obtain ⟨k,oj,hk,rfl,hrow,hrd,hst⟩:=hrel
  obtain ⟨hlk,hln⟩:=NG k mc
  by_cases hlt:k<N
  ·have hu:=hidden (EJ hrd hZ (by have:=WV.out;omega))
   have hlm:((Ce k mc).2.num 8).2.b.length ≤ 1000000:=by have:=oQ.EC 8 (Ce k mc).2;have:=WV.out;omega
   have hsn:Ce (k+1) mc=((Ce k mc).1++[⟨((Ce k mc).2.num 8).1,((Ce k mc).2.num 8).2.text.1⟩],((Ce k mc).2.num 8).2.text.2):=rfl
   have uZ:=hidden hsn
   have pM:=hidden hrow
   have Azr:=hidden hlm
   have Akk:=hidden hln
   obtain ⟨E,hE⟩:∃ E,((Ce k mc).2.num 8).1=E:=⟨_,rfl⟩
   rw [hE] at hu uZ
   generalize ((Ce k mc).2.num 8).2=m8 at *
   obtain ⟨ra,rc,rfl⟩:=hrow.form
   rw [hln] at pM ⊢
   clear hrd hsn hlm hrow hln hlk hE
   go_wp2_with fail
   refine hu.out.mono ?_;rintro e w2 ⟨v2,o2,rfl,hs2,rfl,hr2⟩
   have hst2:=hst.trans hs2
   have hrow2:=pM.out.step hs2 (fun h=>hXZ h) (fun h=>hZ h.symm)
   have ht:=hidden (Rq hr2 hZ Azr.out)
   clear hu hr2 hs2 hst
   go_wp2_with fail
   refine ht.out.mono ?_;rintro e w3 ⟨v3,o3,rfl,hs3,⟨hb3,hf3⟩,hr3⟩
   have hst3:=hst2.trans hs3
   have hrow3:=hrow2.step hs3 (fun h=>hXZ h) (fun h=>hZ h.symm)
   have hbs:=hidden (TY w3 (E.toNat:Int) v3)
   have hsa:=(Step.refl Nobody w3 o3).alloc (.cells [.int .u64 (E.toNat:Int),v3].toArray 41) (0,0)
   have hnb:(w3.alloc (.cells [.int .u64 (E.toNat:Int),v3].toArray 41)).heap[w3.heap.size]?=some (.cells [.int .u64 (E.toNat:Int),v3].toArray 41 (0,0)):=heap_alloc_new w3 _
   obtain ⟨w4,hw4⟩:∃ w4,w3.alloc (.cells [.int .u64 (E.toNat:Int),v3].toArray 41)=w4:=⟨_,rfl⟩
   rw [hw4] at hbs hsa hnb
   have hsz:w.heap.size ≤ w4.heap.size:=Nat.le_trans hst3.size hsa.size
   obtain ⟨nv,w5,o5,hrun,tK,hs5,hgr,ho5⟩:=(hrow3.step hsa id id).append hX hsz (AV hnb) (sW.single ⟨E,m8.text.1⟩ (hb3.step hsa id)) (fun u hu=>by
    simp only [List.mem_cons,List.not_mem_nil,or_false] at hu
    rcases hu with rfl | rfl
    ·exact CV.int _ _ _
    ·exact hf3.low hst2.size) (by simp) (by rw [Akk.out,List.length_singleton];omega) (c:=1)
   simp only [List.length_singleton] at hrun
   have Aax:=hidden hrun
   have AlC:=(hr3.step hsa id id).step hs5 (fun h=>hXZ h.symm) (fun h=>hX h.symm)
   have hst5:Step (Only Z) w o w5 o5:=by
    have pX:=hst3.trans (hsa.only Z)
    refine ⟨hgr.os.trans pX.os,hgr.tape.trans pX.tape,hgr.output.trans pX.output,Nat.le_trans pX.size hgr.size,fun k hk => ?_,fun k hk hT => ?_⟩
    ·rcases ho5 k with h | ⟨h,_⟩
     ·rw [h];exact pX.own k hk
     ·have:=pX.size;omega
    ·rw [hgr.block k (Nat.lt_of_lt_of_le hk pX.size) ?_]
     ·exact pX.block k hk hT
     ·intro hx
      obtain ⟨cs,q1, -⟩:=hrow3
      have:=(q1.lt k hx.symm).1
      omega
   obtain ⟨na,nc,rfl⟩:=tK.form
   have hF:=hidden (show Gh w5 o5 w.heap.size (X,0) _ (Ce (k+1) mc).1∧Ep w5 o5 Z p (Ce (k+1) mc).2 from by rw [uZ.out];exact ⟨tK,AlC⟩)
   have hl1:((Ce k mc).1++([⟨E,m8.text.1⟩]:List Ar)).length=k+1:=by rw [List.length_append,Akk.out];rfl
   rw [hl1] at Aax hF
   obtain ⟨ba,bc,rfl⟩:=Aq hb3
   clear hrun tK AlC hs5 hgr ho5 hsa hnb hw4 hrow3 hrow2 hst2 hst3 hs3 hb3 hf3 hr3 ht hsz hl1
   go_wp2_with (first
    | ((with_reducible apply BO #[(0, .agg #[.int .u64 (E.toNat:Int), .slice ba m8.text.1.length bc])] rfl);exact hbs.out;simp only [Act.put,GL,DL,lss])
    | ((with_reducible apply Bl);exact Aax.out;simp only [Act.put,GL,DL,lss]))
   go_roundw
   case rel=>exact ⟨k+1,o5,by omega,by go_num,hF.out.1,hF.out.2,hst5⟩
   case measure=>simp [intOf];omega
  ·obtain rfl:N=k:=by omega
   obtain ⟨ra,rc,rfl⟩:=hrow.form
   rw [hln] at hrow ⊢
   go_wp2_with fail
   go_ret
   exact ⟨_,oj,rfl,hst,hrow,hrd⟩

end Go.Proofs.YtffkdillijmamaaGreat
