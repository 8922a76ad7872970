/- Contracts of the store's closures: what Append asks first. -/
import Derived.Test.YthmpmgknnibljaaGreatSv5
namespace Go.Proofs.YthmpmgknnibljaaGreat
open Go.Proofs.Tryz
set_option maxRecDepth 100000
set_option maxHeartbeats 12800000
open Go Go.RowKit
attribute [local go_sem ↓] Go.wp_at_zero Go.wp_at_succ
variable {A B D S Z base p pd ps:Nat} {w:World} {o:Own} {s:AZ} {v:Value} {l:List UInt8}
section
variable {w:World} {o:Own} {S A B D ps pd base:Nat} {s:AZ}
theorem WW (h:Bi w o S A B D ps pd base s) (sb:Nat) (hs:Box w o sb 42 (.pointer ps)) (x:Ar) (bv:Value) (hbv:Bytes w o bv x.b) :
  Calls prog 81 #[.agg #[(x.e:aV),bv], .pointer sb] w (XL ai w o fun v _ _=>v = .bool (!(x.e == s.kept.current))):=by
 have s1:=(aj.refl ai w o).alloc (.cells #[(x.e:aV),bv] 36) (0,0);have hS2:=h.step0 s1;have cs:=(hs.step s1 id).cell;have b1:(w.alloc (.cells #[(x.e:aV),bv] 36)).heap[w.heap.size]? = some (.cells [(x.e:aV),bv].toArray 36 (0,0)):=heap_alloc_new w _;have c0:=ag b1 0;simp only [ay] at c0;obtain ⟨X,Y,pa,pb,k,kv, -,hb, -, -, -, -⟩:=hS2;obtain ⟨⟨-, -, -, -, -,c7, -, -⟩, -⟩:=hb.cells;have hst:=ae s1.drew;have hfin:=ae (show ((x.e.toNat:Int) != (s.kept.current.toNat:Int)) = (!(x.e == s.kept.current)) by
  by_cases hh:x.e = s.kept.current
  grind
  ·have:¬ (x.e.toNat:Int) = (s.kept.current.toNat:Int):=fun h=>hh (BitVec.eq_of_toNat_eq aP);grind)
 obtain ⟨r,hr⟩:=az ((!(x.e == s.kept.current)));rw [hr] at hfin ⊢;obtain ⟨ba,bc,rfl⟩:=Aq hbv;generalize s.kept.current.toNat = C at *;generalize x.e.toNat = E at *;generalize x.b.length = bl at *;obtain ⟨W1,hW1⟩:=az (w.alloc (.cells #[.int .u64 (E:Int), .slice ba bl bc] 36));rw [hW1] at hst cs c7 c0;have uM:=ae hW1;have hS:=aa3 c0 cs c7;clear hb b1 s1 hs h hW1 c0 cs c7 hr;go_enter func81,ntmps81;go_wp2_with fail;rw [uM.out];refine Aa (fun w'=>w'.cell? w.heap.size = some (.int .u64 (E:Int))/\w'.cell? sb = some (.pointer ps)/\w'.cell? (aW ps 7) = some (.int .u64 (C:Int))) (fun _=>true) bf hS.out (fun hHeld => ?_);refine tq 0 (h:=tq 1 (h:=tq 2 (h:=tq 3 (h:=tq 4 (h:=tq 5 (h:=tq 6 (h:=tv 7 (.bool r) (hy:=fun w hSw=>by go_simp;assumption) (h:=tq 8 (h:=tD (h:=?_))))))))));go_wp2_with fail;go_ret;exact ⟨_,_,rfl,hst.out,rfl⟩
theorem Wj (h:Bi w o S A B D ps pd base s) (sb lb Aed:Nat) (lv:Value) (ls:List Ar) (hs:Box w o sb 42 (.pointer ps)) (hlb:Box w o lb 32 lv) (hl:Lines w o Aed lv ls) (hn:ls.length <= 100000) (hk:s.kept.lines.length <= 1000) :
  Calls prog 80 #[.pointer sb, .pointer lb] w (XL ai w o fun v _ _=>v = .bool (s.kept.Eu ls)):=by
 have hgood:=ae (VG (hl.step (aj.refl ai w o).drew id) hn Ho);have htop:(Ho.toNat:Int) = 281474976710656:=bz
 rw [htop] at hgood;have hcont:=ae (show ∀ w1 o1,aj ai w o w1 o1->Calls prog 83 #[lv, .func (.func 81) #[] #[.pointer sb]] w1 (XL ai w1 o1 fun v _ _=>v = .bool (ls.any fun x => !(x.e == s.kept.current))) from fun w1 o1 st =>
  Jt (hl.step st id) hn 81 #[.pointer sb] _ Tryz.call81 (fun w2 o2 st2 x bv _ hby=>WW ((h.step0 st).step0 st2) sb ((hs.step st id).step st2 id) x bv hby))
 obtain ⟨X,Y,pa,pb,k,kv, -,hb,hkl, -, -, -⟩:=h;obtain ⟨ka,kc,rfl⟩:=hkl.form;obtain ⟨⟨-, -, -, -, -, -,c8, -⟩, -⟩:=hb.cells;have cs:=hs.cell;have cl:=hlb.cell;obtain ⟨la,lc,rfl⟩:=hl.form;unfold AX.Eu;have hst:=ae (aj.refl ai w o).drew;have hS:=aa3 cs cl c8;have hdr:=ae (show ∀ w1 o1,aj ai w.drew o w1 o1->aj ai w o w1 o1 from fun w1 o1 st=>(aj.refl ai w o).drew.trans st);obtain ⟨r,hr⟩:=az ((!ls.any (badL Ho)));obtain ⟨q,hq⟩:=az ((ls.any fun x => !(x.e == s.kept.current)));rw [hr] at hgood ⊢;rw [hq] at hcont ⊢;generalize s.kept.lines.length = K at *;generalize ls.length = N at *;have hwr:=ae (show IntKind.i64.wrap (256 - (K:Int)) = 256 - (K:Int) from wrap_i64 aP aP);clear hb hs cs c8 cl hr hl hlb htop hq hkl
 by_cases h0:0 < N
 ·have h0I:(0:Int) < (N:Int):=aP
  by_cases h1:N + K <= 256
  ·have h1I:(N:Int) <= 256 - (K:Int):=aP
   cases r with
   | true =>
    have hfin:=ae (show (decide (0 < N) && decide (N + K <= 256) && true && !q) = (!q) by simp [h0,h1]);clear h0 h1;go_enter func80,ntmps80;go_wp2_with fail;refine Aa (fun w'=>w'.cell? sb = some (.pointer ps)/\w'.cell? lb = some (.slice la N lc)/\w'.cell? (aW ps 8) = some (.slice ka K kc)) (fun _=>true) bf hS.out (fun hHeld => ?_);refine tq 0 (h:=tq 1 (h:=tw 2 (.bool true) (h:=tq 3 (h:=tq 4 (h:=tq 5 (h:=tq 6 (h:=tq 7 (h:=tq 8 (h:=tq 9 (h:=tq 10 (h:=tq 11 (h:=tv 12 (.int .i64 (256 - (K:Int))) (hy:=fun w hSw=>by (try dsimp only at hSw);go_simp;assumption) (h:=tw 13 (.bool true) (h:=?_))))))))))))));refine tw 14 (.bool true) (h:=tq 15 (h:=tq 16 (h:=tO 17 (h:=?_))));go_wp2_with fail;refine hgood.out.mono ?_;rintro e1 w1 ⟨v1,o1,rfl,hs1,rfl⟩;have hS1:w1.cell? ⟨sb,0,none⟩ = some (.pointer (some ⟨ps,0,none⟩))/\w1.cell? ⟨lb,0,none⟩ = some (.slice la N lc)/\w1.cell? ⟨ps,8,none⟩ = some (.slice ka K kc):=by
     obtain ⟨k1,k2,k3⟩:=hHeld;have hb:=fun (a:Nat) (i:Nat) (v:Value) (hc:(w.drew).cell? (aW a i) = some v)=>(World.cell?_of_block (w:=w.drew) (w':=w1) (a:=(aW a i)) (hs1.block a (World.block_lt_of_cell? (w.drew) (aW a i) (by rw [hc])) id)).trans hc;grind
    go_wp2_with fail;refine ⟨bg, ?_⟩;refine tw 18 (.bool true) (h:=tq 19 (h:=tq 20 (h:=tq 21 (h:=tO 22 (h:=?_)))));go_wp2_with fail;refine (hcont.out w1 o1 (hdr.out _ _ hs1)).mono ?_;rintro e1 w2 ⟨v2,o2,rfl,hs2,rfl⟩;have hS2:w2.cell? ⟨sb,0,none⟩ = some (.pointer (some ⟨ps,0,none⟩))/\w2.cell? ⟨lb,0,none⟩ = some (.slice la N lc)/\w2.cell? ⟨ps,8,none⟩ = some (.slice ka K kc):=by
     obtain ⟨k1,k2,k3⟩:=hS1;have hb:=fun (a:Nat) (i:Nat) (v:Value) (hc:(w1).cell? (aW a i) = some v)=>(World.cell?_of_block (w:=w1) (w':=w2) (a:=(aW a i)) (hs2.block a (World.block_lt_of_cell? (w1) (aW a i) (by rw [hc])) id)).trans hc;grind
    go_wp2_with fail;refine ⟨bg, ?_⟩;refine tg 23 (.bool (!q)) (h:=tg 24 (.bool (!q)) (h:=tq 25 (h:=tD (h:=?_))));clear hS1;clear hS2;go_wp2_with fail;go_ret;exact ⟨_,o2,rfl,(hdr.out _ _ hs1).trans hs2,by (simp;omega)⟩
   | false =>
    have hfin:=ae (show (decide (0 < N) && decide (N + K <= 256) && false && !q) = false by simp [h0,h1]);clear h0 h1;go_enter func80,ntmps80;go_wp2_with fail;refine Aa (fun w'=>w'.cell? sb = some (.pointer ps)/\w'.cell? lb = some (.slice la N lc)/\w'.cell? (aW ps 8) = some (.slice ka K kc)) (fun _=>true) bf hS.out (fun hHeld => ?_);refine tq 0 (h:=tq 1 (h:=tw 2 (.bool true) (h:=tq 3 (h:=tq 4 (h:=tq 5 (h:=tq 6 (h:=tq 7 (h:=tq 8 (h:=tq 9 (h:=tq 10 (h:=tq 11 (h:=tv 12 (.int .i64 (256 - (K:Int))) (hy:=fun w hSw=>by (try dsimp only at hSw);go_simp;assumption) (h:=tw 13 (.bool true) (h:=?_))))))))))))));refine tw 14 (.bool true) (h:=tq 15 (h:=tq 16 (h:=tO 17 (h:=?_))));go_wp2_with fail;refine hgood.out.mono ?_;rintro e1 w1 ⟨v1,o1,rfl,hs1,rfl⟩;have hS1:w1.cell? ⟨sb,0,none⟩ = some (.pointer (some ⟨ps,0,none⟩))/\w1.cell? ⟨lb,0,none⟩ = some (.slice la N lc)/\w1.cell? ⟨ps,8,none⟩ = some (.slice ka K kc):=by
     obtain ⟨k1,k2,k3⟩:=hHeld;have hb:=fun (a:Nat) (i:Nat) (v:Value) (hc:(w.drew).cell? (aW a i) = some v)=>(World.cell?_of_block (w:=w.drew) (w':=w1) (a:=(aW a i)) (hs1.block a (World.block_lt_of_cell? (w.drew) (aW a i) (by rw [hc])) id)).trans hc;grind
    go_wp2_with fail;refine ⟨bg, ?_⟩;refine tw 18 (.bool false) (h:=tq 19 (h:=ts 20 (h:=ts 21 (h:=ts 22 (h:=ts 23 (h:=tw 24 (.bool false) (h:=tq 25 (h:=tD (h:=?_)))))))));clear hS1;go_wp2_with fail;go_ret;exact ⟨_,o1,rfl,hdr.out _ _ hs1,bu⟩
  ·have h1I:¬ (N:Int) <= 256 - (K:Int):=aP
   have hfin:=ae (show (decide (0 < N) && decide (N + K <= 256) && r && !q) = false by simp [h0,h1]);clear h0 h1;go_enter func80,ntmps80;go_wp2_with fail;refine Aa (fun w'=>w'.cell? sb = some (.pointer ps)/\w'.cell? lb = some (.slice la N lc)/\w'.cell? (aW ps 8) = some (.slice ka K kc)) (fun _=>true) bf hS.out (fun hHeld => ?_);refine tq 0 (h:=tq 1 (h:=tw 2 (.bool true) (h:=tq 3 (h:=tq 4 (h:=tq 5 (h:=tq 6 (h:=tq 7 (h:=tq 8 (h:=tq 9 (h:=tq 10 (h:=tq 11 (h:=tv 12 (.int .i64 (256 - (K:Int))) (hy:=fun w hSw=>by (try dsimp only at hSw);go_simp;assumption) (h:=tw 13 (.bool false) (h:=?_))))))))))))));refine tw 14 (.bool false) (h:=tq 15 (h:=ts 16 (h:=ts 17 (h:=tw 18 (.bool false) (h:=tq 19 (h:=ts 20 (h:=ts 21 (h:=ts 22 (h:=ts 23 (h:=tw 24 (.bool false) (h:=tq 25 (h:=tD (h:=?_)))))))))))));go_wp2_with fail;go_ret;exact ⟨_,o,rfl,hst.out,by (simp;omega)⟩
 ·have h0I:¬ (0:Int) < (N:Int):=aP
  have hfin:=ae (show (decide (0 < N) && decide (N + K <= 256) && r && !q) = false by simp [h0]);clear h0;go_enter func80,ntmps80;go_wp2_with fail;refine Aa (fun w'=>w'.cell? sb = some (.pointer ps)/\w'.cell? lb = some (.slice la N lc)/\w'.cell? (aW ps 8) = some (.slice ka K kc)) (fun _=>true) bf hS.out (fun hHeld => ?_);refine tq 0 (h:=tq 1 (h:=tw 2 (.bool false) (h:=tq 3 (h:=ts 4 (h:=ts 5 (h:=ts 6 (h:=ts 7 (h:=ts 8 (h:=ts 9 (h:=ts 10 (h:=ts 11 (h:=ts 12 (h:=ts 13 (h:=?_))))))))))))));refine tw 14 (.bool false) (h:=tq 15 (h:=ts 16 (h:=ts 17 (h:=tw 18 (.bool false) (h:=tq 19 (h:=ts 20 (h:=ts 21 (h:=ts 22 (h:=ts 23 (h:=tw 24 (.bool false) (h:=tq 25 (h:=tD (h:=?_)))))))))))));go_wp2_with fail;go_ret;exact ⟨_,o,rfl,hst.out,by (simp;omega)⟩
end
theorem Ri (S:BitVec 64):IntKind.u64.wrap ((S.toNat:Int) + 1) = ((S + 1#64).toNat:Int):=by
 rfl
theorem Rh (S:BitVec 64):((S.toNat:Int) + 1) % 18446744073709551616 = ((S + 1#64).toNat:Int):=by
 rfl
def AZ.write (rec:List UInt8) (now:AX) (s:AZ):AZ × Int:=
 if 0 < s.age.toNat/\rec.length <= s.cur.room then
  if (Ad.Ag rec (s.cur,s.d)).2 ≠ 0 then ({ s with cur:=(Ad.Ag rec (s.cur,s.d)).1.1,d:=(Ad.Ag rec (s.cur,s.d)).1.2,dead:=true },9)
  else ({ s with cur:=(Ad.Ag rec (s.cur,s.d)).1.1,d:=(Ad.Ag rec (s.cur,s.d)).1.2,kept:=now },0)
 else if 480 * (s.pages - 1) < (IY (s.age + 1#64) now.promised now.current now.lines).length then (s,4)
 else if (Ad.reset (s.oth,s.d)).2 ≠ 0 then ({ s with oth:=(Ad.reset (s.oth,s.d)).1.1,d:=(Ad.reset (s.oth,s.d)).1.2,dead:=true },9)
 else if (Ad.Ag (IY (s.age + 1#64) now.promised now.current now.lines) (Ad.reset (s.oth,s.d)).1).2 ≠ 0 then
  ({ s with oth:=(Ad.Ag (IY (s.age + 1#64) now.promised now.current now.lines) (Ad.reset (s.oth,s.d)).1).1.1,d:=(Ad.Ag (IY (s.age + 1#64) now.promised now.current now.lines) (Ad.reset (s.oth,s.d)).1).1.2,dead:=true },9)
 else ({ s with cur:=(Ad.Ag (IY (s.age + 1#64) now.promised now.current now.lines) (Ad.reset (s.oth,s.d)).1).1.1,oth:=s.cur,d:=(Ad.Ag (IY (s.age + 1#64) now.promised now.current now.lines) (Ad.reset (s.oth,s.d)).1).1.2,age:=s.age + 1#64,kept:=now },0)
theorem Ad.Yy (s:Ad × Af):(Ad.reset s).1.2.row.length <= s.2.row.length + 1:=by
 have h:=(Ad.RJ s).2;unfold Ad.reset Ad.alive;split
 simp
 ·unfold Ad.steps;split
  omega
  assumption
def Wrote (S A B D ps pd base nb:Nat) (Q:AZ × Int) (v:Value) (w':World) (o':Own):Prop:=v = .int .i64 Q.2/\Bi w' o' S A B D ps pd (if Q.2 = 0 then nb else base) Q.1
structure Qw (S A B D:Nat):Prop where
 s0:S ≠ 0
 a0:A ≠ 0
 b0:B ≠ 0
 d0:D ≠ 0
 sa:S ≠ A
 sb:S ≠ B
 sd:S ≠ D
 ab:A ≠ B
 ad:A ≠ D
 bd:B ≠ D
theorem Qw.perm {X Y:Nat} (h:Qw S A B D) (hp:(X = A/\Y = B) \/ (X = B/\Y = A)):Qw S X Y D:=by
 obtain ⟨h1,h2,h3,h4,h5,h6,h7,h8,h9,h10⟩:=h
 rcases hp with ⟨rfl,rfl⟩ | ⟨rfl,rfl⟩
 ·exact ⟨h1,h2,h3,h4,h5,h6,h7,h8,h9,h10⟩
 ·exact ⟨h1,h3,h2,h4,h6,h5,h7,aP,h10,h9⟩
theorem qG.perm {X Y t:Nat} (hp:(X = A/\Y = B) \/ (X = B/\Y = A)) (h:qG S X Y D t):qG S A B D t:=by
 rcases hp with ⟨rfl,rfl⟩ | ⟨rfl,rfl⟩
 omega
 ·rcases h with h | h | h | h
  ·exact .inl h
  ·exact .inr aP
  ·exact .inr (.inl h)
  ·exact .inr aP
section
variable {w:World} {o:Own} {S ps pd pa pb k:Nat} {kv:Value} {s:AZ}
theorem DF.DC (h:DF w o S ps pd pa pb k kv s) (i:Nat) (v:Value):aj (ak S) w o (w.setCell (aW ps i) v) o:=by
 obtain ⟨x1,x2,h1,h2,h3⟩:=h;exact (aj.refl _ w o).setCell v (.inl (by show (o ps).1 = S;grind))
theorem DF.Ik (h:DF w o S ps pd pa pb k kv s) (b:Bool):DF (w.setCell (aW ps 9) (.bool b)) o S ps pd pa pb k kv { s with dead:=b }:=by
 obtain ⟨x1,x2,h1,h2,h3⟩:=h;exact ⟨x1,x2,Ai (i:=9) _ h1,h2,h3⟩
theorem DF.swap (h:DF w o S ps pd pa pb k kv s) (age:BitVec 64):DF ((w.setCell (aW ps 4) (.int .i64 ((1 - k:Nat):Int))).setCell (aW ps 5) (age:aV)) o S ps pd pb pa (1 - k) kv { s with age:=age }:=by
 obtain ⟨x1,x2,h1,h2,h3⟩:=h;refine ⟨x1,x2,Ai (i:=5) _ (Ai (i:=4) _ h1), ?_,h3⟩
 grind
theorem DF.SI (h:DF w o S ps pd pa pb k kv s) (now:AX) (nv:Value) (h1c:∃ a n c,nv = .slice a n c) :
  DF (w.setCells ps 6 [(now.promised:aV), (now.current:aV),nv]) o S ps pd pa pb k nv { s with kept:=now } /\
  (Instr.storeAt 55 (.pointer (some (aW ps 6))) (Dy now.promised now.current nv)).run prog w = .ok () (w.setCells ps 6 [(now.promised:aV), (now.current:aV),nv]) /\
  aj (ak S) w o (w.setCells ps 6 [(now.promised:aV), (now.current:aV),nv]) o:=by
 obtain ⟨x1,x2,h1,h2,h3⟩:=h;refine ⟨⟨x1,x2, ?_,h2,h3⟩, ?_,(aj.refl (ak S) w o).setCells ps 6 _ (.inl (by rw [h3];rfl))⟩
 ·exact BP ps 108 _ 6 w _ h1 (by simp [storeCells])
 ·exact run_storeAt_mid w ps 6 55 #[(now.promised:aV), (now.current:aV),nv] (Dh h1 6 3 (by simp [storeCells])) Ij (by obtain ⟨a,n,c,rfl⟩:=h1c;simp [Value.oneCell'])
end
theorem Lj {A B nb:Nat} (ht:Qw S A B D) (h:Bi w o S A B D ps pd base s) (hrow:s.d.row.length <= 600000) (hpg:1 <= s.pages/\s.pages <= 4096) (rv:Value) (rec:List UInt8) (hr:Bytes w o rv rec) (hcap:capLe rv) (hr1:1 <= rec.length) (hr2:rec.length <= 4000000)
  (now:AX) (nv:Value) (tY:Lines w o nb nv now.lines) (hsm:small now.lines) :
  Calls prog 56 #[.pointer ps,rv,Dy now.promised now.current nv] w (XL (qG S A B D) w o fun v w' o'=>Wrote S A B D ps pd base nb (s.write rec now) v w' o'):=by
 obtain ⟨X,Y,pa,pb,k,kv,hp,hb,hkl,hla,hlb,hd⟩:=h;have hmono:∀ t,qG S X Y D t->qG S A B D t:=fun t=>qG.perm hp;have hT:=ht.perm hp;clear ht
 suffices H:Calls prog 56 #[.pointer ps,rv,Dy now.promised now.current nv] w (XL (qG S X Y D) w o fun v w' o'=>Wrote S X Y D ps pd base nb (s.write rec now) v w' o') by
  refine H.mono ?_;rintro e w' ⟨v,o',rfl,hst,hv,X',Y',pa',pb',k',kv',hp',rest⟩;refine ⟨v,o',rfl,hst.mono hmono,hv,X',Y',pa',pb',k',kv', ?_,rest⟩
  omega
 clear hmono hp A B;obtain ⟨na,nc,rfl⟩:=tY.form;obtain ⟨ra,rc,rfl⟩:=Aq hr;have nX0:¬ In X D 0:=fun h=>by rcases h with h | h;exact hT.a0 h.symm;exact hT.d0 h.symm
 have qU:¬ In Y D 0:=fun h=>by rcases h with h | h;exact hT.b0 h.symm;exact hT.d0 h.symm
 have nXS:¬ In X D S:=fun h=>by rcases h with h | h;exact hT.sa h;exact hT.sd h
 have nYS:¬ In Y D S:=fun h=>by rcases h with h | h;exact hT.sb h;exact hT.sd h
 have nXY:¬ In X D Y:=fun h=>by rcases h with h | h;exact hT.ab h.symm;exact hT.bd h
 have nYX:¬ In Y D X:=fun h=>by rcases h with h | h;exact hT.ab h;exact hT.ad h
 have nS0:¬ ak S 0:=fun h=>hT.s0 h.symm;have uS:¬ ak S X:=fun h=>hT.sa h.symm;have uQ:¬ ak S Y:=fun h=>hT.sb h.symm;have uT:¬ ak S D:=fun h=>hT.sd h.symm;have mX:∀ t,In X D t->qG S X Y D t:=fun t h=>by rcases h with h | h;exact .inr (.inl h);exact .inr aP
 have mY:∀ t,In Y D t->qG S X Y D t:=fun t h=>by rcases h with h | h;exact .inr aP;exact .inr aP
 have mS:∀ t,ak S t->qG S X Y D t:=fun t h => .inl h
 replace mX:=ae mX
 replace mY:=ae mY
 replace mS:=ae mS
 replace hT:=ae hT
 have nn:∀ t,¬ ai t:=fun _ h=>h;obtain ⟨n1,hn1⟩:=az (now.lines.length);have s1:=(aj.refl ai w o).alloc (.cells #[(now.promised:aV), (now.current:aV), .slice na now.lines.length nc] 55) (0,0);have b1:(w.alloc (.cells #[(now.promised:aV), (now.current:aV), .slice na now.lines.length nc] 55)).heap[w.heap.size]? = some (.cells [(now.promised:aV), (now.current:aV), .slice na now.lines.length nc].toArray 55 (0,0)):=heap_alloc_new w _;have t1:Ak o w.heap.size (0,0) w.heap.size = (0,0):=bu;obtain ⟨bx,hbx⟩:=az (w.heap.size);obtain ⟨W1,hW1⟩:=az (w.alloc (.cells #[(now.promised:aV), (now.current:aV), .slice na now.lines.length nc] 55));rw [hW1] at s1 b1;rw [hbx] at s1 b1 t1;generalize Ak o bx (0,0) = o1 at *
 replace hb:=hb.step s1 (nn _)
 replace hkl:=hkl.step s1 (nn _)
 replace hla:=hla.step s1 (nn _) (nn _)
 replace hlb:=hlb.step s1 (nn _) (nn _)
 replace hd:=hd.step s1 (nn _)
 replace hr:=hr.step s1 (nn _)
 replace tY:=tY.step s1 (nn _)
 obtain ⟨⟨c0,c3,c4,c5, -, -, -,c9⟩,⟨cA,cB⟩,hfz,hk1,hpl,hpo, -⟩:=hb.cells;have hkI:(k:Int) < 2:=aP
 have qK:=ae (UI hla);obtain ⟨RM,hRM⟩:=az (s.cur.room);rw [hRM] at qK;obtain ⟨Q,hQ⟩:=az (s.write rec now);have vJ:=ae hQ;have sV:=ae hRM;have xZ:=ae hb;have wZ:=ae hkl;have sS:=ae hla;have wX:=ae hlb;have hdH:=ae hd;have tN:=ae hr;have qY:=ae tY;have qJ:=ae s1;have uM:=ae hW1;have xH:=ae hbx;have sQ:=ae hsm;have AdX:(RM:Int) <= 960000:=by
  have:=hla.wf;rw [<-hRM];unfold Ad.room;obtain ⟨g1,g2,g3,g4,g5,g6,g7⟩:=this;omega
 rw [hQ];obtain ⟨R,hR⟩:=az (rec.length);have hRH:=ae hR;rw [hR] at hr1 hr2 hcap ⊢;have hRI:(1:Int) <= (R:Int)/\(R:Int) <= 4000000:=aP
 have hrow2:(Ad.reset (s.oth,s.d)).1.2.row.length <= 700000:=by have:=Ad.Yy (s.oth,s.d);grind
 have pM:=ae hrow2;have sU:=aa3 c5 c4 cA;clear hb hkl hla hlb hd hr tY s1 hW1 hbx hsm hQ hRM hR hrow2 cA cB c0 c3 c4 c5 c9 hn1 n1;rw [hRH.out] at tN;unfold Dy
 by_cases AbV:0 < s.age.toNat
 ·by_cases hroom:R <= RM
  ·have wO:(R:Int) <= (RM:Int):=aP
   have Abj:(0:Int) < (RM:Int):=aP
   clear hr1 hr2;go_enter func56,ntmps56;go_wp2_with fail;rw [uM.out];refine Aa (fun w'=>w'.cell? (aW ps 5) = some (s.age:aV)/\w'.cell? (aW ps 4) = some (k:aV)/\w'.cell? (aW ps (1 + k)) = some (.pointer pa)) (fun _=>true) bf sU.out (fun hHeld => ?_);refine tq 0 (h:=tq 1 (h:=tq 2 (h:=tq 3 (h:=tw 4 (.bool true) (h:=tq 5 (h:=tq 6 (h:=tq 7 (h:=tq 8 (h:=tq 9 (h:=tq 10 (h:=tq 11 (h:=tq 12 (h:=tq 13 (h:=?_))))))))))))));refine tq 14 (h:=tq 15 (h:=tq 16 (h:=tO 17 (h:=?_))));go_wp2_with fail;have hdr:=(aj.refl ai W1 o1).drew;refine (SV (sS.out.step hdr (nn _) (nn _)) RM sV.out).mono ?_;rintro e w2 ⟨v2,o2,rfl,hs2,rfl⟩;have hs2:aj ai W1 o1 w2 o2:=hdr.trans hs2;have hS2:w2.cell? ⟨ps,5,none⟩ = some (.int .u64 (s.age.toNat:Int))/\w2.cell? ⟨ps,4,none⟩ = some (.int .i64 (k:Int))/\w2.cell? ⟨ps,1 + k,none⟩ = some (.pointer (some ⟨pa,0,none⟩)):=by
    obtain ⟨k1,k2,k3⟩:=sU.out;have hb:=fun (i:Nat) (v:Value) (hc:(W1).cell? (aW ps i) = some v)=>(World.cell?_of_block (w:=W1) (w':=w2) (a:=(aW ps i)) (hs2.block ps hpl (nn _))).trans hc;exact ⟨hb _ _ k1,hb _ _ k2,hb _ _ k3⟩
   go_wp2_with fail;refine ⟨fun _=>hS2, ?_⟩;refine tw 18 (.bool true) (h:=tw 19 (.bool true) (h:=tq 20 (h:=tq 21 (h:=tq 22 (h:=tq 23 (h:=tq 24 (h:=tq 25 (h:=tq 26 (h:=tq 27 (h:=tq 28 (h:=tq 29 (h:=tO 30 (h:=?_)))))))))))));go_wp2_with fail;refine (SV (sS.out.step hs2 (nn _) (nn _)) RM sV.out).mono ?_;rintro e w3 ⟨v3,o3,rfl,hs3,rfl⟩;have hs3:aj ai W1 o1 w3 o3:=hs2.trans hs3;have hS3:w3.cell? ⟨ps,5,none⟩ = some (.int .u64 (s.age.toNat:Int))/\w3.cell? ⟨ps,4,none⟩ = some (.int .i64 (k:Int))/\w3.cell? ⟨ps,1 + k,none⟩ = some (.pointer (some ⟨pa,0,none⟩)):=by
    obtain ⟨k1,k2,k3⟩:=sU.out;have hb:=fun (i:Nat) (v:Value) (hc:(W1).cell? (aW ps i) = some v)=>(World.cell?_of_block (w:=W1) (w':=w3) (a:=(aW ps i)) (hs3.block ps hpl (nn _))).trans hc;exact ⟨hb _ _ k1,hb _ _ k2,hb _ _ k3⟩
   go_wp2_with fail;refine ⟨fun _=>hS3, ?_⟩;refine tw 31 (.bool true) (h:=tw 32 (.bool true) (h:=tD (h:=?_)));have rO:ps < w3.heap.size:=Nat.lt_of_lt_of_le hpl hs3.size;have Abn:(o3 ps).1 = S:=by rw [hs3.own ps hpl];omega
   have pV:=(hs3.block bx (au b1) (nn _)).trans b1;have AaZ:=(hs3.own bx (au b1)).trans t1;have zY:LD w3 o3 X D pa pd (s.cur,s.d):=⟨sS.out.step hs3 (nn _) (nn _),hdH.out.step hs3 (nn _)⟩;have hr3:=tN.out.step hs3 (nn _);obtain ⟨⟨⟨l',d'⟩,e⟩,hC⟩:∃ q,Ad.Ag rec (s.cur,s.d) = q:=⟨_,rfl⟩;have hcm:=ae (fun (W:World) (O:Own) (st:aj ai w3 o3 W O)=>NW hT.out.a0 hT.out.d0 hT.out.ad (zY.step st (nn _) (nn _) (nn _)) bg rec _ (hr3.step st (nn _)) hcap (by rw [hRH.out];omega) hC);have hQ2:Q = if e ≠ 0 then ({ s with cur:=l',d:=d',dead:=true },9) else ({ s with cur:=l',d:=d',kept:=now },0):=by
    rw [<-vJ.out];unfold AZ.write;rw [hC,if_pos ⟨AbV,by rw [hRH.out,sV.out];omega⟩]
   replace hQ2:=ae hQ2
   have qH:=ae ((qJ.out.trans hs3).mono (T':=qG S X Y D) dh);clear hS2 hHeld zY hr3 hC qK hs2;go_wp2_with fail;refine Aa (fun w'=>w'.cell? (aW ps 5) = some (s.age:aV)/\w'.cell? (aW ps 4) = some (k:aV)/\w'.cell? (aW ps (1 + k)) = some (.pointer pa)) (fun _=>true) bf hS3 (fun hHeld => ?_);refine tq 0 (h:=tq 1 (h:=tq 2 (h:=tq 3 (h:=tq 4 (h:=tq 5 (h:=tq 6 (h:=tq 7 (h:=tq 8 (h:=tq 9 (h:=tO 10 (h:=?_)))))))))));go_wp2_with fail;have hdr:=(aj.refl ai w3 o3).drew;refine (hcm.out _ o3 hdr).mono ?_;rintro e1 w4 ⟨v4,o4,rfl,hs4,rfl,Ada⟩;have hs4:aj (In X D) w3 o3 w4 o4:=hdr.uV.trans hs4;have hS4:w4.cell? ⟨ps,5,none⟩ = some (.int .u64 (s.age.toNat:Int))/\w4.cell? ⟨ps,4,none⟩ = some (.int .i64 (k:Int))/\w4.cell? ⟨ps,1 + k,none⟩ = some (.pointer (some ⟨pa,0,none⟩)):=by
    obtain ⟨k1,k2,k3⟩:=hS3;have hb:=fun (i:Nat) (v:Value) (hc:(w3).cell? (aW ps i) = some v)=>(World.cell?_of_block (w:=w3) (w':=w4) (a:=(aW ps i)) (hs4.block ps rO bg)).trans hc;grind
   clear hHeld hcm;go_wp2_with fail;refine ⟨bg, ?_⟩;refine tq 11 (h:=tD (h:=?_));have hb4:=(xZ.out.step hs3 (nn _)).step hs4 nXS;have qB:=(wZ.out.step hs3 (nn _)).step hs4 nX0;have pU:=(wX.out.step hs3 (nn _) (nn _)).step hs4 nXY nX0;have AeL:=(qY.out.step hs3 (nn _)).step hs4 nX0;have qC:=(hs4.block bx (au pV) bg).trans pV;have AcG:=ae (qH.out.trans (hs4.mono mX.out));clear hS4 hS3 hs4 hs3
   by_cases he:e = 0
   ·subst he;have hQ2:Hid (Q = ({ s with cur:=l',d:=d',kept:=now },0)):=bg;have hlo:=ae (show (Instr.loadAt 55 (.pointer w.heap.size)).run prog w4 = .ok (.agg #[(now.promised:aV), (now.current:aV), .slice na now.lines.length nc]) w4 from IM (AV (by rw [xH.out];exact qC)));obtain ⟨hbN,hso,AaI⟩:=hb4.SI now (.slice na now.lines.length nc) ⟨_,_,_,rfl⟩;have Aaz:=ae (show (Instr.storeAt 55 (.pointer (some (aW ps 6))) (.agg #[(now.promised:aV), (now.current:aV), .slice na now.lines.length nc])).run prog w4 = .ok () _ from hso);have hF:=ae (show Bi (w4.setCells ps 6 [(now.promised:aV), (now.current:aV), .slice na now.lines.length nc]) o4 S X Y D ps pd nb Q.1 from by rw [hQ2.out];exact ⟨X,Y,pa,pb,k,_, bu,hbN,AeL.step AaI nS0,Ada.1.step AaI uS nS0,pU.step AaI uQ nS0,Ada.2.step AaI uT⟩);have AaM:=ae (AcG.out.trans (AaI.mono mS.out));have pG:=ae (show Q.2 = 0 by rw [hQ2.out]);clear hbN hso AaI
    go_wp2_with (first
     | ((with_reducible apply Bo);exact hlo.out;simp only [Act.put,lsa,lsz,lss])
     | ((with_reducible apply AC);exact Aaz.out;simp only [Act.put]))
    go_ret;exact ⟨_,o4,rfl,AaM.out,by rw [pG.out];rfl,by (rw [if_pos pG.out];assumption)⟩
   ·have hQ2:Hid (Q = ({ s with cur:=l',d:=d',dead:=true },9)):=bg;have heI:(e == 0) = false:=bg
    obtain ⟨⟨-, -, -, -, -, -, -,c9⟩, -,pF, -⟩:=hb4.cells;have hbD:=hb4.Ik true;have AaI:=hb4.DC 9 (.bool true);have hF:=ae (show Bi (w4.setCell (aW ps 9) (.bool true)) o4 S X Y D ps pd base Q.1 from by rw [hQ2.out];exact ⟨X,Y,pa,pb,k,kv, bu,hbD,qB.step AaI nS0,Ada.1.step AaI uS nS0,pU.step AaI uQ nS0,Ada.2.step AaI uT⟩);have AaM:=ae (AcG.out.trans (AaI.mono mS.out));have pG:=ae (show Q.2 = 9 by rw [hQ2.out]);clear hbD AaI;go_wp2_with fail;go_ret;exact ⟨_,o4,rfl,AaM.out,by rw [pG.out];rfl,by (rw [if_neg (by rw [pG.out];omega)];assumption)⟩
  ·have hno:¬ (0 < s.age.toNat/\rec.length <= s.cur.room):=by rw [hRH.out,sV.out];omega
   obtain ⟨j,hj⟩:=az (1 - k);have hjI:(1:Int) - (k:Int) = (j:Int):=aP
   have hj2:(j:Int) < 2:=aP
   obtain ⟨AE,vP⟩:=az (IY (s.age + 1#64) now.promised now.current now.lines);have hall:=ae (fun (W:World) (O:Own) (st:aj ai W1 o1 W O)=>AjQ (qY.out.step st (nn _)) (by have:=sQ.out.1;omega) (by have:=sQ.out.2;omega) (p:=now.promised) (c:=now.current) (s.age + 1#64));rw [vP] at hall;have uO:AE.length <= 1400000:=by
    rw [<-vP];have:=sQ.out.2;simp [IY,GR,Az];omega
   have yJ:=Ri s.age;obtain ⟨AL,xR⟩:=az (AE.length);rw [xR] at uO;have AbZ:(0:Int) <= (AL:Int)/\(AL:Int) <= 1400000:=aP
   have uP:=ae vP;have qR:=ae xR;have tZ:=ae hno;have xB:=ae hj;clear hr1 hr2 qK vP xR hno uO hj;go_enter func56,ntmps56;go_wp2_with fail;rw [uM.out];refine Aa (fun w'=>w'.cell? (aW ps 5) = some (s.age:aV)/\w'.cell? (aW ps 4) = some (k:aV)/\w'.cell? (aW ps (1 + k)) = some (.pointer pa)) (fun _=>true) bf sU.out (fun hHeld => ?_);refine tq 0 (h:=tq 1 (h:=tq 2 (h:=tq 3 (h:=tw 4 (.bool true) (h:=tq 5 (h:=tq 6 (h:=tq 7 (h:=tq 8 (h:=tq 9 (h:=tq 10 (h:=tq 11 (h:=tq 12 (h:=tq 13 (h:=?_))))))))))))));refine tq 14 (h:=tq 15 (h:=tq 16 (h:=tO 17 (h:=?_))));go_wp2_with fail;have hdr:=(aj.refl ai W1 o1).drew;refine (SV (sS.out.step hdr (nn _) (nn _)) RM sV.out).mono ?_;rintro e w3 ⟨v3,o3,rfl,hs3,rfl⟩;have hs3:aj ai W1 o1 w3 o3:=hdr.trans hs3;have hS3:w3.cell? ⟨ps,5,none⟩ = some (.int .u64 (s.age.toNat:Int))/\w3.cell? ⟨ps,4,none⟩ = some (.int .i64 (k:Int))/\w3.cell? ⟨ps,1 + k,none⟩ = some (.pointer (some ⟨pa,0,none⟩)):=by
    obtain ⟨k1,k2,k3⟩:=sU.out;have hb:=fun (i:Nat) (v:Value) (hc:(W1).cell? (aW ps i) = some v)=>(World.cell?_of_block (w:=W1) (w':=w3) (a:=(aW ps i)) (hs3.block ps hpl (nn _))).trans hc;exact ⟨hb _ _ k1,hb _ _ k2,hb _ _ k3⟩
   clear hHeld hdr;go_wp2_with fail;refine ⟨fun _=>hS3, ?_⟩;refine tw 18 (.bool false) (h:=tw 19 (.bool false) (h:=tq 20 (h:=ts 21 (h:=ts 22 (h:=ts 23 (h:=ts 24 (h:=ts 25 (h:=ts 26 (h:=ts 27 (h:=ts 28 (h:=ts 29 (h:=ts 30 (h:=ts 31 (h:=?_))))))))))))));refine tw 32 (.bool false) (h:=tD (h:=?_));have rO:ps < w3.heap.size:=Nat.lt_of_lt_of_le hpl hs3.size;have pV:=(hs3.block bx (au b1) (nn _)).trans b1;have c43:=hS3.2.1;have hS5:=aa2 pV hS3.1;clear hS3;rw [xH.out];go_wp2_with fail;refine Aa (fun w'=>w'.heap[bx]? = some (.cells [(now.promised:aV), (now.current:aV), .slice na now.lines.length nc].toArray 55 (0,0))/\w'.cell? (aW ps 5) = some (s.age:aV)) (fun _=>true) bf hS5.out (fun hHeld => ?_);refine Dt (i:=0) (v := .agg #[(now.promised:aV), (now.current:aV), .slice na now.lines.length nc]) rfl bf (fun _ _ _ h=>h) (yieldsIf_load_mid rfl 55 (.tmp 5) rfl bx 0 rfl [(now.promised:aV), (now.current:aV), .slice na now.lines.length nc] _ (fun w h=>AV h.1) underlying55 rfl bf) aP ?_;simp only [Act.put,lsa,lsz,lss];refine tq 1 (h:=tq 2 (h:=tq 3 (h:=tq 4 (h:=tv 5 (.int .u64 ((s.age + 1#64).toNat:Int)) (hy:=fun w hSw=>by rfl;first | done | exact yJ | rw [yJ]) (h:=tO 6 (h:=?_))))))
   go_wp2_with fail;refine (hall.out _ o3 hs3.drew).mono ?_;rintro e w4 ⟨v4,o4,rfl,hs4,hnb⟩;have hs4:aj ai w3 o3 w4 o4:=(aj.refl ai w3 o3).drew.trans hs4;have qC:=(hs4.block bx (au pV) (nn _)).trans pV;have hS6:=aI qC (show w4.cell? ⟨ps,5,none⟩ = some (.int .u64 (s.age.toNat:Int)) by rw [World.cell?_of_block (w:=w3) (a:=⟨ps,5,none⟩) (hs4.block ps rO (nn _))];exact hS5.out.2);have rE:=hnb.cap;have hby:=hnb.bytes;obtain ⟨aa,ac,rfl⟩:=Aq hby;rw [qR.out] at hby rE ⊢;clear hHeld hnb;go_wp2_with fail;refine ⟨fun _=>hS6, ?_⟩;refine tq 7 (h:=tD (h:=?_));have hs4:aj ai W1 o1 w4 o4:=hs3.trans hs4;have qH:=ae ((qJ.out.trans hs4).mono (T':=qG S X Y D) dh);have hb4:=xZ.out.step hs4 (nn _);have qB:=wZ.out.step hs4 (nn _);have qP:=sS.out.step hs4 (nn _) (nn _);have pU:=wX.out.step hs4 (nn _) (nn _);have hd4:=hdH.out.step hs4 (nn _);have AeL:=qY.out.step hs4 (nn _);have tH:=(hs4.own bx (au b1)).trans t1;obtain ⟨⟨-,d3,d4,d5, -, -, -, -⟩,⟨-,dB⟩, -⟩:=hb4.cells;rw [xB.out] at dB;clear hS6 hS5 hs3 c43 hall pV rO
   by_cases hfull:480 * (s.pages - 1) < AL
   ·have hfI:(480:Int) * ((s.pages:Int) - 1) < (AL:Int):=aP
    have hQ2:Hid (Q = (s,4)):=ae (by rw [<-vJ.out];unfold AZ.write;rw [if_neg tZ.out,uP.out,qR.out,if_pos hfull]);have hF:=ae (show Bi w4 o4 S X Y D ps pd base Q.1 from by rw [hQ2.out];exact ⟨X,Y,pa,pb,k,kv, bu,hb4,qB,qP,pU,hd4⟩);have pG:=ae (show Q.2 = 4 by rw [hQ2.out]);clear hb4 qB qP pU hd4 AeL;go_wp2_with fail;go_ret;exact ⟨_,o4,rfl,qH.out,by rw [pG.out];rfl,by rw [if_neg (by rw [pG.out];omega)];assumption⟩
   ·have hfI:¬ (480:Int) * ((s.pages:Int) - 1) < (AL:Int):=aP
    have Ada:LD w4 o4 Y D pb pd (s.oth,s.d):=⟨pU,hd4⟩;obtain ⟨⟨⟨l1,d1⟩,e1⟩,vO⟩:∃ q,Ad.reset (s.oth,s.d) = q:=⟨_,rfl⟩;have tK:d1.row.length <= 700000:=by have:=pM.out;grind
    have hrs:=ae (UK hT.out.b0 hT.out.d0 hT.out.bd Ada bg vO);have hQ2:Q = if e1 ≠ 0 then ({ s with oth:=l1,d:=d1,dead:=true },9) else if (Ad.Ag AE (l1,d1)).2 ≠ 0 then ({ s with oth:=(Ad.Ag AE (l1,d1)).1.1,d:=(Ad.Ag AE (l1,d1)).1.2,dead:=true },9)
      else ({ s with cur:=(Ad.Ag AE (l1,d1)).1.1,oth:=s.cur,d:=(Ad.Ag AE (l1,d1)).1.2,age:=s.age + 1#64,kept:=now },0):=by
     rw [<-vJ.out];unfold AZ.write;rw [if_neg tZ.out,uP.out,qR.out,if_neg hfull,vO]
    replace hQ2:=ae hQ2
    clear pU hd4 Ada vO;go_wp2_with fail;refine hrs.out.mono ?_;rintro e w5 ⟨v5,o5,rfl,hs5,rfl,qO⟩;have hb5:=hb4.step hs5 nYS;have rW:=qB.step hs5 qU;have rU:=qP.step hs5 nYX qU;have rC:=AeL.step hs5 qU;have uH:=hby.step hs5 qU;have Ajj:=(hs5.block bx (au qC) bg).trans qC;have tC:=(hs5.own bx (au qC)).trans tH;have AcG:=ae (qH.out.trans (hs5.mono mY.out));obtain ⟨⟨-, -,e4,e5, -, -, -, -⟩,⟨-,eB⟩,ef, -⟩:=hb5.cells;rw [xB.out] at eB;clear hb4 qB qP AeL hby hrs hs5 hs4 d3 d4 d5 dB
    by_cases he1:e1 = 0
    ·subst he1;obtain ⟨⟨⟨l2,d2⟩,e2⟩,hC2⟩:∃ q,Ad.Ag AE (l1,d1) = q:=⟨_,rfl⟩;have hcm:=ae (NW hT.out.b0 hT.out.d0 hT.out.bd qO tK AE _ uH rE (by rw [qR.out];omega) hC2);have hQ2:Q = if e2 ≠ 0 then ({ s with oth:=l2,d:=d2,dead:=true },9) else ({ s with cur:=l2,oth:=s.cur,d:=d2,age:=s.age + 1#64,kept:=now },0):=by
      have:=hQ2.out;grind
     replace hQ2:=ae hQ2
     clear qO uH hC2 e4 e5;go_wp2_with fail;refine hcm.out.mono ?_;rintro e w6 ⟨v6,o6,rfl,hs6,rfl,qN⟩;have hb6:=hb5.step hs6 nYS;have rV:=rW.step hs6 qU;have rQ:=rU.step hs6 nYX qU;have qZ:=rC.step hs6 qU;have sD:=(hs6.block bx (au Ajj) bg).trans Ajj;have ApP:=(hs6.own bx (au Ajj)).trans tC;have AcG:=ae (AcG.out.trans (hs6.mono mY.out));obtain ⟨⟨-, -,f4,f5, -, -, -, -⟩, -,ff, -⟩:=hb6.cells;clear hb5 rW rU rC hcm hs6 eB ef
     by_cases he2:e2 = 0
     ·subst he2;have hQ2:Hid (Q = ({ s with cur:=l2,oth:=s.cur,d:=d2,age:=s.age + 1#64,kept:=now },0)):=bg;have hsw:=hb6.swap (s.age + 1#64);have g1:=hb6.DC 4 (.int .i64 ((1 - k:Nat):Int));have Aej:aj (ak S) w6 o6 ((w6.setCell (aW ps 4) (.int .i64 ((1 - k:Nat):Int))).setCell (aW ps 5) (.int .u64 ((s.age + 1#64).toNat:Int))) o6:=g1.setCell (a:=(aW ps 5)) _ (.inl (by obtain ⟨_,_,_,_,q3⟩:=hb6;show (o6 ps).1 = S;grind));rw [xB.out] at hsw Aej;have rZ:=(Aej.block bx (au sD) bg).trans sD;have uD:=rV.step Aej nS0;have rP:=rQ.step Aej uS nS0;have AfW:=qZ.step Aej nS0;have qM:=qN.step Aej uQ uT nS0;have AcG:=ae (AcG.out.trans (Aej.mono mS.out));have ff4:=ff 4;have ff5:=ff 5;obtain ⟨w7,hw7⟩:=az ((w6.setCell (aW ps 4) (j:aV)).setCell (aW ps 5) (.int .u64 ((s.age + 1#64).toNat:Int)));rw [hw7] at hsw rZ uD rP AfW qM AcG;clear hb6 rV rQ qZ qN g1 Aej ff sD;have hlo:=ae (show (Instr.loadAt 55 (.pointer bx)).run prog w7 = .ok (.agg #[(now.promised:aV), (now.current:aV), .slice na now.lines.length nc]) w7 from IM (AV (rZ)));obtain ⟨hbN,hso,AaI⟩:=hsw.SI now (.slice na now.lines.length nc) ⟨_,_,_,rfl⟩;have Aaz:=ae (show (Instr.storeAt 55 (.pointer (some (aW ps 6))) (.agg #[(now.promised:aV), (now.current:aV), .slice na now.lines.length nc])).run prog w7 = .ok () _ from hso);have hF:=ae (show Bi (w7.setCells ps 6 [(now.promised:aV), (now.current:aV), .slice na now.lines.length nc]) o6 S X Y D ps pd nb Q.1 from by rw [hQ2.out];exact ⟨Y,X,pb,pa,j,_, bu,hbN,AfW.step AaI nS0,qM.1.step AaI uQ nS0,rP.step AaI uS nS0,qM.2.step AaI uT⟩);have AaM:=ae (AcG.out.trans (AaI.mono mS.out));have pG:=ae (show Q.2 = 0 by rw [hQ2.out]);clear hbN hso AaI uD rP AfW qM hsw;have wG:=ae (show (w6.setCell (aW ps 4) (j:aV)).setCell (aW ps 5) (.int .u64 (((s.age.toNat:Int) + 1) % 18446744073709551616)) = w7 by rw [Rh];exact hw7);clear hw7;rw [<-wG.out] at hlo Aaz hF AaM
      go_wp2_with (first
       | ((with_reducible apply Bo);exact hlo.out;simp only [Act.put,lsa,lsz,lss])
       | ((with_reducible apply AC);exact Aaz.out;simp only [Act.put]))
      go_ret;exact ⟨_,o6,rfl,AaM.out,by rw [pG.out];rfl,by (rw [if_pos pG.out];assumption)⟩
     ·have hQ2:Hid (Q = ({ s with oth:=l2,d:=d2,dead:=true },9)):=bg;have heI:(e2 == 0) = false:=bg
      obtain ⟨⟨-, -, -, -, -, -, -,c9⟩, -,pF, -⟩:=hb6.cells;have hbD:=hb6.Ik true;have AaI:=hb6.DC 9 (.bool true);have hF:=ae (show Bi (w6.setCell (aW ps 9) (.bool true)) o6 S X Y D ps pd base Q.1 from by rw [hQ2.out];exact ⟨X,Y,pa,pb,k,kv, bu,hbD,rV.step AaI nS0,rQ.step AaI uS nS0,qN.1.step AaI uQ nS0,qN.2.step AaI uT⟩);have AaM:=ae (AcG.out.trans (AaI.mono mS.out));have pG:=ae (show Q.2 = 9 by rw [hQ2.out]);clear hbD AaI;go_wp2_with fail;go_ret;exact ⟨_,o6,rfl,AaM.out,by rw [pG.out];rfl,by (rw [if_neg (by rw [pG.out];omega)];assumption)⟩
    ·have hQ2:Hid (Q = ({ s with oth:=l1,d:=d1,dead:=true },9)):=ae (by rw [hQ2.out,if_pos he1]);have heI:(e1 == 0) = false:=bg
     obtain ⟨⟨-, -, -, -, -, -, -,c9⟩, -,pF, -⟩:=hb5.cells;have hbD:=hb5.Ik true;have AaI:=hb5.DC 9 (.bool true);have hF:=ae (show Bi (w5.setCell (aW ps 9) (.bool true)) o5 S X Y D ps pd base Q.1 from by rw [hQ2.out];exact ⟨X,Y,pa,pb,k,kv, bu,hbD,rW.step AaI nS0,rU.step AaI uS nS0,qO.1.step AaI uQ nS0,qO.2.step AaI uT⟩);have AaM:=ae (AcG.out.trans (AaI.mono mS.out));have pG:=ae (show Q.2 = 9 by rw [hQ2.out]);clear hbD AaI;go_wp2_with fail;go_ret;exact ⟨_,o5,rfl,AaM.out,by rw [pG.out];rfl,by (rw [if_neg (by rw [pG.out];omega)];assumption)⟩
 ·have hno:¬ (0 < s.age.toNat/\rec.length <= s.cur.room):=aP
  obtain ⟨j,hj⟩:=az (1 - k);have hjI:(1:Int) - (k:Int) = (j:Int):=aP
  have hj2:(j:Int) < 2:=aP
  obtain ⟨AE,vP⟩:=az (IY (s.age + 1#64) now.promised now.current now.lines);have hall:=ae (fun (W:World) (O:Own) (st:aj ai W1 o1 W O)=>AjQ (qY.out.step st (nn _)) (by have:=sQ.out.1;omega) (by have:=sQ.out.2;omega) (p:=now.promised) (c:=now.current) (s.age + 1#64));rw [vP] at hall;have uO:AE.length <= 1400000:=by
   rw [<-vP];have:=sQ.out.2;simp [IY,GR,Az];omega
  have yJ:=Ri s.age;obtain ⟨AL,xR⟩:=az (AE.length);rw [xR] at uO;have AbZ:(0:Int) <= (AL:Int)/\(AL:Int) <= 1400000:=aP
  have uP:=ae vP;have qR:=ae xR;have tZ:=ae hno;have xB:=ae hj;clear hr1 hr2 qK vP xR hno uO hj;go_enter func56,ntmps56;go_wp2_with fail;rw [uM.out];refine Aa (fun w'=>w'.cell? (aW ps 5) = some (s.age:aV)/\w'.cell? (aW ps 4) = some (k:aV)/\w'.cell? (aW ps (1 + k)) = some (.pointer pa)) (fun _=>true) bf sU.out (fun hHeld => ?_);refine tq 0 (h:=tq 1 (h:=tq 2 (h:=tq 3 (h:=tw 4 (.bool false) (h:=tq 5 (h:=ts 6 (h:=ts 7 (h:=ts 8 (h:=ts 9 (h:=ts 10 (h:=ts 11 (h:=ts 12 (h:=ts 13 (h:=?_))))))))))))));refine ts 14 (h:=ts 15 (h:=ts 16 (h:=ts 17 (h:=ts 18 (h:=tw 19 (.bool false) (h:=tq 20 (h:=ts 21 (h:=ts 22 (h:=ts 23 (h:=ts 24 (h:=ts 25 (h:=ts 26 (h:=ts 27 (h:=?_))))))))))))));refine ts 28 (h:=ts 29 (h:=ts 30 (h:=ts 31 (h:=tw 32 (.bool false) (h:=tD (h:=?_))))));obtain ⟨w3,hw3⟩:=az (W1.drew);obtain ⟨o3,ho3⟩:=az (o1);have hs3:aj ai W1 o1 w3 o3:=by rw [<-hw3, <-ho3];exact (aj.refl ai W1 o1).drew
  have hS3:=hHeld;rw [hw3] at hS3 ⊢;clear hw3 ho3 hHeld;have rO:ps < w3.heap.size:=Nat.lt_of_lt_of_le hpl hs3.size;have pV:=(hs3.block bx (au b1) (nn _)).trans b1;have c43:=hS3.2.1;have hS5:=aa2 pV hS3.1;clear hS3;rw [xH.out];go_wp2_with fail;refine Aa (fun w'=>w'.heap[bx]? = some (.cells [(now.promised:aV), (now.current:aV), .slice na now.lines.length nc].toArray 55 (0,0))/\w'.cell? (aW ps 5) = some (s.age:aV)) (fun _=>true) bf hS5.out (fun hHeld => ?_);refine Dt (i:=0) (v := .agg #[(now.promised:aV), (now.current:aV), .slice na now.lines.length nc]) rfl bf (fun _ _ _ h=>h) (yieldsIf_load_mid rfl 55 (.tmp 5) rfl bx 0 rfl [(now.promised:aV), (now.current:aV), .slice na now.lines.length nc] _ (fun w h=>AV h.1) underlying55 rfl bf) aP ?_;simp only [Act.put,lsa,lsz,lss];refine tq 1 (h:=tq 2 (h:=tq 3 (h:=tq 4 (h:=tv 5 (.int .u64 ((s.age + 1#64).toNat:Int)) (hy:=fun w hSw=>by rfl;first | done | exact yJ | rw [yJ]) (h:=tO 6 (h:=?_))))))
  go_wp2_with fail;refine (hall.out _ o3 hs3.drew).mono ?_;rintro e w4 ⟨v4,o4,rfl,hs4,hnb⟩;have hs4:aj ai w3 o3 w4 o4:=(aj.refl ai w3 o3).drew.trans hs4;have qC:=(hs4.block bx (au pV) (nn _)).trans pV;have hS6:=aI qC (show w4.cell? ⟨ps,5,none⟩ = some (.int .u64 (s.age.toNat:Int)) by rw [World.cell?_of_block (w:=w3) (a:=⟨ps,5,none⟩) (hs4.block ps rO (nn _))];exact hS5.out.2);have rE:=hnb.cap;have hby:=hnb.bytes;obtain ⟨aa,ac,rfl⟩:=Aq hby;rw [qR.out] at hby rE ⊢;clear hHeld hnb;go_wp2_with fail;refine ⟨fun _=>hS6, ?_⟩;refine tq 7 (h:=tD (h:=?_));have hs4:aj ai W1 o1 w4 o4:=hs3.trans hs4;have qH:=ae ((qJ.out.trans hs4).mono (T':=qG S X Y D) dh);have hb4:=xZ.out.step hs4 (nn _);have qB:=wZ.out.step hs4 (nn _);have qP:=sS.out.step hs4 (nn _) (nn _);have pU:=wX.out.step hs4 (nn _) (nn _);have hd4:=hdH.out.step hs4 (nn _);have AeL:=qY.out.step hs4 (nn _);have tH:=(hs4.own bx (au b1)).trans t1;obtain ⟨⟨-,d3,d4,d5, -, -, -, -⟩,⟨-,dB⟩, -⟩:=hb4.cells;rw [xB.out] at dB;clear hS6 hS5 hs3 c43 hall pV rO
  by_cases hfull:480 * (s.pages - 1) < AL
  ·have hfI:(480:Int) * ((s.pages:Int) - 1) < (AL:Int):=aP
   have hQ2:Hid (Q = (s,4)):=ae (by rw [<-vJ.out];unfold AZ.write;rw [if_neg tZ.out,uP.out,qR.out,if_pos hfull]);have hF:=ae (show Bi w4 o4 S X Y D ps pd base Q.1 from by rw [hQ2.out];exact ⟨X,Y,pa,pb,k,kv, bu,hb4,qB,qP,pU,hd4⟩);have pG:=ae (show Q.2 = 4 by rw [hQ2.out]);clear hb4 qB qP pU hd4 AeL;go_wp2_with fail;go_ret;exact ⟨_,o4,rfl,qH.out,by rw [pG.out];rfl,by rw [if_neg (by rw [pG.out];omega)];assumption⟩
  ·have hfI:¬ (480:Int) * ((s.pages:Int) - 1) < (AL:Int):=aP
   have Ada:LD w4 o4 Y D pb pd (s.oth,s.d):=⟨pU,hd4⟩;obtain ⟨⟨⟨l1,d1⟩,e1⟩,vO⟩:∃ q,Ad.reset (s.oth,s.d) = q:=⟨_,rfl⟩;have tK:d1.row.length <= 700000:=by have:=pM.out;grind
   have hrs:=ae (UK hT.out.b0 hT.out.d0 hT.out.bd Ada bg vO);have hQ2:Q = if e1 ≠ 0 then ({ s with oth:=l1,d:=d1,dead:=true },9) else if (Ad.Ag AE (l1,d1)).2 ≠ 0 then ({ s with oth:=(Ad.Ag AE (l1,d1)).1.1,d:=(Ad.Ag AE (l1,d1)).1.2,dead:=true },9)
     else ({ s with cur:=(Ad.Ag AE (l1,d1)).1.1,oth:=s.cur,d:=(Ad.Ag AE (l1,d1)).1.2,age:=s.age + 1#64,kept:=now },0):=by
    rw [<-vJ.out];unfold AZ.write;rw [if_neg tZ.out,uP.out,qR.out,if_neg hfull,vO]
   replace hQ2:=ae hQ2
   clear pU hd4 Ada vO;go_wp2_with fail;refine hrs.out.mono ?_;rintro e w5 ⟨v5,o5,rfl,hs5,rfl,qO⟩;have hb5:=hb4.step hs5 nYS;have rW:=qB.step hs5 qU;have rU:=qP.step hs5 nYX qU;have rC:=AeL.step hs5 qU;have uH:=hby.step hs5 qU;have Ajj:=(hs5.block bx (au qC) bg).trans qC;have tC:=(hs5.own bx (au qC)).trans tH;have AcG:=ae (qH.out.trans (hs5.mono mY.out));obtain ⟨⟨-, -,e4,e5, -, -, -, -⟩,⟨-,eB⟩,ef, -⟩:=hb5.cells;rw [xB.out] at eB;clear hb4 qB qP AeL hby hrs hs5 hs4 d3 d4 d5 dB
   by_cases he1:e1 = 0
   ·subst he1;obtain ⟨⟨⟨l2,d2⟩,e2⟩,hC2⟩:∃ q,Ad.Ag AE (l1,d1) = q:=⟨_,rfl⟩;have hcm:=ae (NW hT.out.b0 hT.out.d0 hT.out.bd qO tK AE _ uH rE (by rw [qR.out];omega) hC2);have hQ2:Q = if e2 ≠ 0 then ({ s with oth:=l2,d:=d2,dead:=true },9) else ({ s with cur:=l2,oth:=s.cur,d:=d2,age:=s.age + 1#64,kept:=now },0):=by
     have:=hQ2.out;grind
    replace hQ2:=ae hQ2
    clear qO uH hC2 e4 e5;go_wp2_with fail;refine hcm.out.mono ?_;rintro e w6 ⟨v6,o6,rfl,hs6,rfl,qN⟩;have hb6:=hb5.step hs6 nYS;have rV:=rW.step hs6 qU;have rQ:=rU.step hs6 nYX qU;have qZ:=rC.step hs6 qU;have sD:=(hs6.block bx (au Ajj) bg).trans Ajj;have ApP:=(hs6.own bx (au Ajj)).trans tC;have AcG:=ae (AcG.out.trans (hs6.mono mY.out));obtain ⟨⟨-, -,f4,f5, -, -, -, -⟩, -,ff, -⟩:=hb6.cells;clear hb5 rW rU rC hcm hs6 eB ef
    by_cases he2:e2 = 0
    ·subst he2;have hQ2:Hid (Q = ({ s with cur:=l2,oth:=s.cur,d:=d2,age:=s.age + 1#64,kept:=now },0)):=bg;have hsw:=hb6.swap (s.age + 1#64);have g1:=hb6.DC 4 (.int .i64 ((1 - k:Nat):Int));have Aej:aj (ak S) w6 o6 ((w6.setCell (aW ps 4) (.int .i64 ((1 - k:Nat):Int))).setCell (aW ps 5) (.int .u64 ((s.age + 1#64).toNat:Int))) o6:=g1.setCell (a:=(aW ps 5)) _ (.inl (by obtain ⟨_,_,_,_,q3⟩:=hb6;show (o6 ps).1 = S;grind));rw [xB.out] at hsw Aej;have rZ:=(Aej.block bx (au sD) bg).trans sD;have uD:=rV.step Aej nS0;have rP:=rQ.step Aej uS nS0;have AfW:=qZ.step Aej nS0;have qM:=qN.step Aej uQ uT nS0;have AcG:=ae (AcG.out.trans (Aej.mono mS.out));have ff4:=ff 4;have ff5:=ff 5;obtain ⟨w7,hw7⟩:=az ((w6.setCell (aW ps 4) (j:aV)).setCell (aW ps 5) (.int .u64 ((s.age + 1#64).toNat:Int)));rw [hw7] at hsw rZ uD rP AfW qM AcG;clear hb6 rV rQ qZ qN g1 Aej ff sD;have hlo:=ae (show (Instr.loadAt 55 (.pointer bx)).run prog w7 = .ok (.agg #[(now.promised:aV), (now.current:aV), .slice na now.lines.length nc]) w7 from IM (AV (rZ)));obtain ⟨hbN,hso,AaI⟩:=hsw.SI now (.slice na now.lines.length nc) ⟨_,_,_,rfl⟩;have Aaz:=ae (show (Instr.storeAt 55 (.pointer (some (aW ps 6))) (.agg #[(now.promised:aV), (now.current:aV), .slice na now.lines.length nc])).run prog w7 = .ok () _ from hso);have hF:=ae (show Bi (w7.setCells ps 6 [(now.promised:aV), (now.current:aV), .slice na now.lines.length nc]) o6 S X Y D ps pd nb Q.1 from by rw [hQ2.out];exact ⟨Y,X,pb,pa,j,_, bu,hbN,AfW.step AaI nS0,qM.1.step AaI uQ nS0,rP.step AaI uS nS0,qM.2.step AaI uT⟩);have AaM:=ae (AcG.out.trans (AaI.mono mS.out));have pG:=ae (show Q.2 = 0 by rw [hQ2.out]);clear hbN hso AaI uD rP AfW qM hsw;have wG:=ae (show (w6.setCell (aW ps 4) (j:aV)).setCell (aW ps 5) (.int .u64 (((s.age.toNat:Int) + 1) % 18446744073709551616)) = w7 by rw [Rh];exact hw7);clear hw7;rw [<-wG.out] at hlo Aaz hF AaM
     go_wp2_with (first
      | ((with_reducible apply Bo);exact hlo.out;simp only [Act.put,lsa,lsz,lss])
      | ((with_reducible apply AC);exact Aaz.out;simp only [Act.put]))
     go_ret;exact ⟨_,o6,rfl,AaM.out,by rw [pG.out];rfl,by (rw [if_pos pG.out];assumption)⟩
    ·have hQ2:Hid (Q = ({ s with oth:=l2,d:=d2,dead:=true },9)):=bg;have heI:(e2 == 0) = false:=bg
     obtain ⟨⟨-, -, -, -, -, -, -,c9⟩, -,pF, -⟩:=hb6.cells;have hbD:=hb6.Ik true;have AaI:=hb6.DC 9 (.bool true);have hF:=ae (show Bi (w6.setCell (aW ps 9) (.bool true)) o6 S X Y D ps pd base Q.1 from by rw [hQ2.out];exact ⟨X,Y,pa,pb,k,kv, bu,hbD,rV.step AaI nS0,rQ.step AaI uS nS0,qN.1.step AaI uQ nS0,qN.2.step AaI uT⟩);have AaM:=ae (AcG.out.trans (AaI.mono mS.out));have pG:=ae (show Q.2 = 9 by rw [hQ2.out]);clear hbD AaI;go_wp2_with fail;go_ret;exact ⟨_,o6,rfl,AaM.out,by rw [pG.out];rfl,by (rw [if_neg (by rw [pG.out];omega)];assumption)⟩
   ·have hQ2:Hid (Q = ({ s with oth:=l1,d:=d1,dead:=true },9)):=ae (by rw [hQ2.out,if_pos he1]);have heI:(e1 == 0) = false:=bg
    obtain ⟨⟨-, -, -, -, -, -, -,c9⟩, -,pF, -⟩:=hb5.cells;have hbD:=hb5.Ik true;have AaI:=hb5.DC 9 (.bool true);have hF:=ae (show Bi (w5.setCell (aW ps 9) (.bool true)) o5 S X Y D ps pd base Q.1 from by rw [hQ2.out];exact ⟨X,Y,pa,pb,k,kv, bu,hbD,rW.step AaI nS0,rU.step AaI uS nS0,qO.1.step AaI uQ nS0,qO.2.step AaI uT⟩);have AaM:=ae (AcG.out.trans (AaI.mono mS.out));have pG:=ae (show Q.2 = 9 by rw [hQ2.out]);clear hbD AaI;go_wp2_with fail;go_ret;exact ⟨_,o5,rfl,AaM.out,by rw [pG.out];rfl,by (rw [if_neg (by rw [pG.out];omega)];assumption)⟩
theorem Qb (w:World) (n:Nat) (hn:n <= 100000):grownCap w n 0 36 <= maxLen:=by grind [grownCap_le_maxLen,maxLen]
theorem YX (n:Nat) (hn:n <= 100000) (w:World):Calls prog 136 #[.slice none 0 0, (n:aV)] w fun e w'=>∃ v,e = .returned v/\w.grownBy w' none/\w'.ownsRow w.heap.size 36 2 v 0 []:=by
 by_cases h0:n = 0
 ·subst h0;go_enter func136,ntmps136;go_wp2_with fail;go_ret;exact ⟨_,rfl,⟨rfl,rfl,rfl,bu,bu⟩,World.ownsRow_nil _ _ _ _⟩
 ·obtain ⟨i,z,hq,hz,e2,e3,e4⟩:=TQ TR;have hold:(Builtin.firstCells i.size 0 (.slice none 0 0)).run prog w.drew = .ok ([]:List Value).toArray w.drew:=run_firstCells_none w.drew i.size 0 0 0;have hr:=Lib.run_append_grow_zeros (P:=prog) w 32 3 32 36 i z .i64 .i64 underlying32 underlying3 hq hz none 0 0 [] hold n aP aP aP aP bg
   (by rw [e3];rw [nextslicecap_zero aP];omega)
  rw [Nat.zero_add] at hr;have hG:=grownCap_ge w n 0 36;have hG2:=Qb w n hn;have hcur:(([]:List Value).toArray ++ Builtin.zeroCells z.cells n ++ Builtin.zeroCells z.cells (grownCap w n 0 36 - n)).size = grownCap w n 0 36 * 2:=by
   grind [size_zeroCells]
  have hown:=World.ownsRow_made (e:=36) (size:=2) (base:=w.heap.size) w.drew _ _ bu hG2 hcur;have hgr:=World.grownBy_alloc w.drew (.cells (([]:List Value).toArray ++ Builtin.zeroCells z.cells n ++ Builtin.zeroCells z.cells (grownCap w n 0 36 - n)) 36) none;generalize hGe:grownCap w n 0 36 = G at *;generalize hW:w.drew.alloc (.cells (([]:List Value).toArray ++ Builtin.zeroCells z.cells n ++ Builtin.zeroCells z.cells (G - n)) 36) = W at *;have Aax:=ae hr;have hpos:0 < (n:Int):=aP
  clear hr hold hcur hGe hW hq hz e2 e3 e4 hG2;go_enter func136,ntmps136
  go_wp2_with ((with_reducible apply Bl);exact Aax.out;simp [Act.put])
  go_ret;exact ⟨_,rfl,⟨hgr.os,hgr.tape,hgr.output,hgr.size,hgr.block⟩,hown⟩
theorem VU {vs:List Value} {ns:List Nat} {css:List (List Value)} (hv:sH w o v vs.length vs)
  (hr:∀ k,k < vs.length->∃ x n cs,vs[k]? = some x/\ns[k]? = some n/\css[k]? = some cs/\sH w o x n cs/\cs.length = n * 2/\∀ u ∈ cs,u.oneCell' = true)
  (hns:ns.length = vs.length) (hcs:css.length = vs.length) (htot:∀ k,(ns.take k).sum <= 100000) (Aex:vs.length <= 1000000) :
  Calls prog 84 #[v] w (XL ai w o fun v w' o'=>w'.ownsRow w.heap.size 36 2 v ns.sum css.flatten/\o' = ext w o):=by
 obtain ⟨a,c,rfl⟩:=Aq hv;have hsn:∀ k n cs,ns[k]? = some n->css[k]? = some cs->(ns.take (k + 1)).sum = (ns.take k).sum + n/\(css.take (k + 1)).flatten = (css.take k).flatten ++ cs:=fun k n cs h1 h2=>by
  rw [List.take_add_one,h1,List.take_add_one,h2];simp
 have hall:ns.take vs.length = ns/\css.take vs.length = css:=bg;have pR:=ae hall;have tN:=ae hr;have uZ:=ae hsn;have htH:=ae htot;clear hall hr hns hcs hsn htot;generalize hmm:vs.length = m at *;clear hmm;obtain ⟨tl,htl⟩:∃ tl:Nat->Nat,∀ k,tl k = (ns.take k).sum:=⟨_,fun _=>rfl⟩;have sO:=ae htl;clear htl;go_enter func84,ntmps84;go_wp2_with fail
 go_loop [3,11] (fun n i=>∃ k:Nat,k <= m/\i = .int .i64 k/\n = .int .i64 (tl k:Int)) (fun _ i=>m - (intOf i).toNat)
 case atStart=>exact ⟨0,bu,rfl,by rw [sO.out];rfl⟩
 case round =>
  obtain ⟨k,hk,rfl,rfl⟩:=hrel
  by_cases hlt:k < m
  ·obtain ⟨x,n,cs,hx,hn,hc0,hsl, -, -⟩:=tN.out k hlt;obtain ⟨b,off,rfl,hc,hbl,hbo⟩:=hv.cell k hx;obtain ⟨xa,xc,rfl⟩:=Aq hsl;have hlen:(tl (k + 1):Int) = (tl k:Int) + (n:Int):=by rw [sO.out,sO.out,(uZ.out k n cs hn hc0).1];omega
   have hb1:tl (k + 1) <= 100000:=by rw [sO.out];exact htH.out (k + 1)
   have hb2:tl k <= 100000:=aP
   have rD:=ae hlen;have hb3:(tl k:Int) + (n:Int) <= 100000:=aP
   clear hlen hb1 hx hn hc0 hsl hv tN uZ pR;generalize tl k = N at *;go_wp2_with fail
   go_round
   case rel=>exact ⟨k + 1,hlt,by rfl,by rw [rD.out]⟩
   case measure=>simp [intOf];omega
  ·obtain rfl:m = k:=aP
   have hg:=YX (tl m) (by rw [sO.out];exact htH.out m) w;go_wp2_with fail;refine hg.mono ?_;rintro e w1 ⟨v1,rfl,hg1,hown1⟩;have hbel:Below w.heap.size w w1:=⟨hg1.os,hg1.tape,hg1.output,hg1.size,fun k hk=>hg1.block k hk bu⟩;clear hg;obtain ⟨a1,c1,rfl⟩:=BA hown1;go_wp2_with fail
   go_loopw [6,27] (fun out i wr=>∃ k:Nat,k <= m/\i = .int .i64 k/\wr.ownsRow w.heap.size 36 2 out (tl k) (css.take k).flatten/\Below w.heap.size w wr) (fun _ i _=>m - (intOf i).toNat)
   case atStart=>exact ⟨0,bu,rfl,by rw [sO.out];grind,hbel⟩
   case round =>
    clear hown1 hbel hg1;obtain ⟨k,hk,rfl,hown,hbel⟩:=hrel
    by_cases hlt:k < m
    ·obtain ⟨x,n,cs,hx,hn,hc0,hsl,hcl,hone⟩:=tN.out k hlt;obtain ⟨b,off,rfl,hc,hbl,hbo⟩:=hv.cell k hx;have hc2:wr.cell? (aW b (off + k)) = some x:=by rw [World.cell?_of_block (a:=(aW b (off + k))) (hbel.block b hbl)];omega
     obtain ⟨hs1,hs2⟩:=uZ.out k n cs hn hc0;rw [<-sO.out, <-sO.out] at hs1;have hb1:tl (k + 1) <= 100000:=by rw [sO.out];exact htH.out (k + 1)
     have hsize:=hbel.size;obtain ⟨oa,oc,rfl⟩:=BA hown;have hcap:tl k <= oc/\oc <= maxLen:=by
      rcases hown.2 with ⟨h1,h2⟩ | ⟨g,cap,cur,h1,_,_,h2,h3,_⟩
      grind
      grind
     by_cases hm0:n = 0
     ·subst hm0;have hcs0:cs = []:=List.eq_nil_of_length_eq_zero aP;subst hcs0;obtain ⟨xa,xc,rfl⟩:=Aq hsl;rw [List.append_nil] at hs2;rw [Nat.add_zero] at hs1;have hap:=CB (P:=prog) wr 32 32 36 2 underlying32 bf oa xa (tl k) oc xc hcap.1 aP;have xK:=ae hap;have hsH:=aa2 hs1 hs2;have hownH:=ae hown;clear hap hs1 hs2 hown hx hn hc0 hsl hv tN uZ pR hb1 hcap hone hcl htH sO
      go_wp2_with ((with_reducible apply Bl);exact xK.out;simp only [Act.put,lsa,lsz,lss])
      go_roundw
      case rel=>exact ⟨k + 1,hlt,by go_num,by rw [hsH.out.1,hsH.out.2];exact hownH.out,hbel⟩
      case measure=>simp [intOf];omega
     ·rcases hsl with ⟨_,h0,_⟩ | ⟨xb,wB,yD,rfl,hxl,hxm,hxo,hxb,hxr⟩
      ·exact absurd h0 hm0
      ·have yH:wr.rangeAt xb wB cs:=Cf hxr (hbel.block xb hxb);obtain ⟨g,cap,w3,hrun,hown3,hgrow,hat,hlt3⟩:=DD (P:=prog) wr 32 32 36 underlying32 TR rfl aP (base:=w.heap.size) hsize _ (tl k) _ hown xb wB n yD cs hcl yH hone aP aP aP;have hb3:Below w.heap.size w w3:=hbel.grown hgrow hbel.size (fun k hk=>(hown.lt k hk).1);rw [<-hs1, <-hs2] at hown3;rw [<-hs1] at hrun;have Aax:=ae hrun;have hownH:=ae hown3;clear hrun hown3 hown hs1 hs2 hx hn hc0 hv tN uZ pR hb1 hcap hone hcl hxr yH hat htH sO
       go_wp2_with ((with_reducible apply Bl);exact Aax.out;simp only [Act.put,lsa,lsz,lss])
       go_roundw
       case rel=>exact ⟨k + 1,hlt,by go_num,hownH.out,hb3⟩
       case measure=>simp [intOf];omega
    ·obtain rfl:m = k:=aP
     have hEq:tl m = ns.sum:=by rw [sO.out,pR.out.1]
     rw [pR.out.2,hEq] at hown;have hownH:=ae hown;clear hEq hown;obtain ⟨oa,oc,rfl⟩:=BA hownH.out;go_wp2_with fail;go_ret;exact ⟨_,ext w o,rfl,⟨hbel.os,hbel.tape,hbel.output,hbel.size,fun k hk=>if_pos hk,fun k hk _=>hbel.block k hk⟩,hownH.out,rfl⟩
def AZ.promise (e:BitVec 64) (s:AZ):AZ × Int:=
 if s.dead || s.d.dead then (s,9) else if s.kept.EK e then s.write (2 :: be 8 e) { s.kept with promised:=e } else (s,1)
def AZ.FO (e:BitVec 64) (ls:List Ar) (s:AZ):AZ × Int:=
 if s.dead || s.d.dead then (s,9) else if s.kept.Gg e ls then s.write (3 :: (be 8 e ++ GR ls)) ⟨e,e,ls⟩ else (s,1)
def AZ.append (ls:List Ar) (s:AZ):AZ × Int:=
 if s.dead || s.d.dead then (s,9) else if s.kept.Eu ls then s.write (4 :: GR ls) { s.kept with lines:=s.kept.lines ++ ls } else (s,1)
theorem Wrote.same {nb:Nat} {e:Int} (h:Bi w o S A B D ps pd base s) (hv:v = .int .i64 e) (he:e ≠ 0):Wrote S A B D ps pd base nb (s,e) v w o:=
 ⟨hv,by grind⟩
theorem Bi.box (h:Bi w o S A B D ps pd base s) :
  ∃ kv,Lines w o base kv s.kept.lines/\w.rangeAt ps 6 [(s.kept.promised:aV), (s.kept.current:aV),kv]:=by
 obtain ⟨X,Y,pa,pb,k,kv, -,hb,hl, -, -, -⟩:=h;obtain ⟨-, -, -, -, -, -,hr⟩:=hb.cells;grind
theorem Tv:∀ t,ak (S + A + B + D + 1) t->t ≠ 0/\¬ qG S A B D t:=fun t h=>by
 change t = _ at h
 exact ⟨aP,fun h=>by rcases h with h | h | h | h <;> omega⟩
theorem aU (ht:Qw S A B D):¬ qG S A B D 0:=fun h=>by
 rcases h with h | h | h | h
 ·exact ht.s0 h.symm
 ·exact ht.a0 h.symm
 ·exact ht.b0 h.symm
 ·exact ht.d0 h.symm
theorem SA (ht:Qw S A B D) (h:Bi w o S A B D ps pd base s) (hrow:s.d.row.length <= 600000) (hpg:1 <= s.pages/\s.pages <= 4096) (hsm:small s.kept.lines) (e:BitVec 64) :
  Calls prog 26 #[.pointer ps, (e:aV)] w (XL (qG S A B D) w o fun v w' o'=>Wrote S A B D ps pd base w.heap.size (s.promise e) v w' o'):=by
 have s1:=(aj.refl ai w o).alloc (.cells #[.pointer ps] 42) (0,0);have bs:=Box.new w o 42 (.pointer ps);have z1:(w.alloc (.cells #[.pointer ps] 42)).heap.size = w.heap.size + 1:=bu
 have s2:=(aj.refl ai (w.alloc (.cells #[.pointer ps] 42)) (Ak o w.heap.size (0,0))).alloc (.cells #[(e:aV)] 34) (0,0);have yB:=Box.new (w.alloc (.cells #[.pointer ps] 42)) (Ak o w.heap.size (0,0)) 34 (e:aV);rw [z1] at s2 yB
 replace bs:=bs.step s2 id
 have st2:=s1.trans s2
 replace h:=h.step0 st2
 have hsz2:w.heap.size <= ((w.alloc (.cells #[.pointer ps] 42)).alloc (.cells #[(e:aV)] 34)).heap.size:=st2.size;have hmay:=TD h 55 #[.pointer (some (aW (w.heap.size + 1) 0)), .pointer w.heap.size] (s.kept.EK e) Tryz.call55 (Tf h e _ _ yB bs);obtain ⟨W2,hW2⟩:=az ((w.alloc (.cells #[.pointer ps] 42)).alloc (.cells #[(e:aV)] 34));rw [hW2] at st2 h bs yB hmay hsz2;generalize Ak (Ak o w.heap.size (0,0)) (w.heap.size + 1) (0,0) = o2 at *;obtain ⟨Q,hQ⟩:=az (s.promise e);rw [hQ];unfold AZ.promise at hQ;have xO:=ae hW2;have hH:=aa4 h bs yB st2;have htH:=ae ht;have pM:=aa3 hrow hpg hsm;have pO:=ae hmay;have nI0:=ae (aU ht);clear h bs yB st2 s1 s2 hW2 z1 ht hrow hpg hsm hmay
 by_cases hd:(s.dead || s.d.dead) = true
 ·rw [if_pos hd] at hQ pO;have hF2:=ae (show ∀ w3 o3,aj ai W2 o2 w3 o3->Wrote S A B D ps pd base w.heap.size Q (.int .i64 9) w3 o3 from fun w3 o3 st=>by rw [<-hQ];exact Wrote.same (hH.out.1.step0 st) rfl aP);clear hQ;go_enter func26,ntmps26;go_wp2_with fail;rw [xO.out];refine pO.out.mono ?_;rintro e1 w3 ⟨v3,o3,rfl,hs3,rfl⟩;go_wp2_with fail;go_ret;exact ⟨_,o3,rfl,((hH.out.2.2.2.trans hs3).mono dh),hF2.out w3 o3 hs3⟩
 ·rw [if_neg hd] at hQ pO
  by_cases hok:s.kept.EK e = true
  ·rw [if_pos hok] at hQ;rw [if_pos hok] at pO;have vJ:=ae hQ;clear hQ hd hok;go_enter func26,ntmps26;go_wp2_with fail;rw [xO.out];refine pO.out.mono ?_;rintro e1 w3 ⟨v3,o3,rfl,hs3,rfl⟩;have h3:=hH.out.1.step0 hs3;have bs3:=hH.out.2.1.step hs3 id;have be3:=hH.out.2.2.1.step hs3 id;have st3:=hH.out.2.2.2.trans hs3;obtain ⟨kv,hkl,hrg⟩:=h3.box;have hld:=ae (IM hrg);have hown:=ae (Tj (p:=s.kept.promised) (c:=s.kept.current) hkl (by have:=pM.out.2.2.1;omega) (fun x hx=>by have:=KG pM.out.2.2 x hx;omega));have cs3:=bs3.cell;clear hkl hrg hs3 pO
   go_wp2_with ((with_reducible apply Bo);exact hld.out;simp only [Act.put,lsa,lsz,lss])
   refine hown.out.mono ?_;rintro e1 w4 ⟨v4,o4,rfl,hs4,lv,rfl,hl4,rfl⟩;have h4:=h3.step0 hs4;have bs4:=bs3.step hs4 id;have be4:=be3.step hs4 id;have st4:=st3.trans hs4;have hl4:=hl4.low st3.size;obtain ⟨o4,ho4⟩:=az (ext w3 o3);rw [ho4] at hs4 hl4 h4 bs4 be4 st4;obtain ⟨la,lc,rfl⟩:=hl4.form;obtain ⟨N,hN⟩:∃ N,N = S + A + B + D + 1:=⟨_,rfl⟩;have hal:=ae (AB (P:=prog) w4 55 _ LX);have hsw:=Be w4 #[.int .u64 0, .int .u64 0, .slice none 0 0] 55 [(s.kept.promised:aV), (s.kept.current:aV), .slice la s.kept.lines.length lc] rfl;obtain ⟨hso, -⟩:=Ba (P:=prog) (ty:=55) (vs:=[(s.kept.promised:aV), (s.kept.current:aV), .slice la s.kept.lines.length lc]) (heap_alloc_new w4 (.cells [.int .u64 0, .int .u64 0, .slice none 0 0].toArray 55)) rfl bf rfl;rw [hsw] at hso;have Aaz:=ae hso;have sN:=(aj.refl ai w4 o4).alloc (.cells [(s.kept.promised:aV), (s.kept.current:aV), .slice la s.kept.lines.length lc].toArray 55) (N,0);have bn:=heap_alloc_new w4 (.cells [(s.kept.promised:aV), (s.kept.current:aV), .slice la s.kept.lines.length lc].toArray 55);have tn:Ak o4 w4.heap.size (N,0) w4.heap.size = (N,0):=bu;obtain ⟨nb,hnb⟩:=az (w4.heap.size);have Abw:w.heap.size <= nb:=by rw [<-hnb];exact st4.size
   obtain ⟨w5,hw5⟩:=az (w4.alloc (.cells [(s.kept.promised:aV), (s.kept.current:aV), .slice la s.kept.lines.length lc].toArray 55));rw [hw5] at sN bn Aaz;rw [hnb] at sN bn tn;generalize Ak o4 nb (N,0) = o5 at *;have h5:=h4.step0 sN;have bs5:=bs4.step sN id;have be5:=be4.step sN id;have hl5:=hl4.step sN id;have st5:=st4.trans sN;have Abx:=ae hnb;have ce5:=be5.cell;have c50:w5.cell? nb = some (s.kept.promised:aV):=ag bn 0;have f50:=Ap bn 0;have hset:=(aj.refl (ak N) w5 o5).setCell (a:=nb) (e:aV) (.inl (by show (o5 nb).1 = N;grind));have yA:=Ai (i:=0) (e:aV) bn;simp only [lsz] at yA;have nN0:¬ ak N 0:=fun h=>by change 0 = N at h;omega
   have h6:=h5.step hset (by rw [hN];exact Tv);have bs6:=bs5.step hset nN0;have be6:=be5.step hset nN0;have hl6:=hl5.step hset nN0;have st6:=st5.setCell (a:=nb) (e:aV) (.inr Abw);obtain ⟨w6,hw6⟩:=az (w5.setCell nb (e:aV));rw [hw6] at yA h6 bs6 be6 hl6 st6;have AaY:=ae hw6;rw [<-hnb] at c50 f50;clear hnb hw5 hw6 hsw hso hset h5 bs5 be5 hl5 st5 h4 bs4 be4 hl4 st4 h3 bs3 be3 st3 hs4 ho4 hld hown sN cs3 bn
   go_wp2_with (first
    | ((with_reducible apply AU);exact hal.out;simp only [Act.put,lsa,lsz,lss])
    | ((with_reducible apply AC);exact Aaz.out;simp only [Act.put]))
   rw [Abx.out,AaY.out];have hS6:=aI bs6.cell (aI be6.cell yA);clear c50 f50 ce5 hal Aaz;refine Aa (fun w'=>w'.cell? w.heap.size = some (.pointer ps)/\w'.cell? (aW (w.heap.size + 1) 0) = some (e:aV)/\w'.heap[nb]? = some (.cells [(e:aV), (s.kept.current:aV), .slice la s.kept.lines.length lc].toArray 55 (0,0))) (fun _=>true) bf hS6 (fun hHeld => ?_);refine tq 0 (h:=tq 2 (h:=?_));refine Dt (i:=4) (v := .agg [(e:aV), (s.kept.current:aV), .slice la s.kept.lines.length lc].toArray) rfl bf (fun _ _ _ h=>h) (yieldsIf_load_mid rfl 55 (.tmp 6) rfl nb 0 rfl [(e:aV), (s.kept.current:aV), .slice la s.kept.lines.length lc] _ (fun w h=>AV h.2.2) underlying55 rfl bf) aP ?_;simp only [Act.put,lsa,lsz,lss];refine tO 1 (h:=?_);go_wp2_with fail;refine (IG (Bytes.nil _ o5) bu 2).mono ?_;rintro e1 w7 ⟨v7,o7,rfl,hs7,zN⟩;have hs7:aj ai w6 o5 w7 o7:=(aj.refl ai w6 o5).drew.trans hs7;have bn7:=(hs7.block nb (au yA) id).trans yA;have bs7:=bs6.step hs7 id;have be7:=be6.step hs7 id;have hS7:=aI bs7.cell (aI be7.cell bn7);clear hHeld;go_wp2_with fail;refine ⟨bg, ?_⟩;refine tO 3 (h:=?_);go_wp2_with fail;refine (Ef zN.bytes bu e).mono ?_;rintro e1 w8 ⟨v8,o8,rfl,hs8,zM⟩;have bn8:=(hs8.block nb (au bn7) id).trans bn7;have bs8:=bs7.step hs8 id;have be8:=be7.step hs8 id;have hS8:=aI bs8.cell (aI be8.cell bn8);have vC:=hs7.trans hs8;have hwr:=ae (Lj htH.out (h6.step0 vC) pM.out.1 pM.out.2.1 v8 (2 :: be 8 e) (zM.congr (l':=2 :: be 8 e) bu).bytes zM.cap bu (by simp [Az]) { s.kept with promised:=e } (.slice la s.kept.lines.length lc) (hl6.step vC id) pM.out.2.2);have st8:=ae (st6.trans vC);clear hS7 hs7 hs8 zN bs7 be7 bn7;go_wp2_with fail;refine ⟨bg, ?_⟩;refine tO 5 (h:=?_);go_wp2_with fail;refine hwr.out.mono ?_;rintro e1 w9 ⟨v9,o9,rfl,hs9,hwd⟩;have bn9:=(hs9.block nb (au bn8) (by
    have e8:o8 nb = (N,0):=by rw [vC.own nb (au yA)];omega
    rw [e8];exact (Tv N hN).2)).trans bn8
   have hS9:=aI (bs8.step hs9 nI0.out).cell (aI (be8.step hs9 nI0.out).cell bn9);rw [vJ.out] at hwd;obtain ⟨rfl,hwd2⟩:=hwd;have hwd:=ae (show Wrote S A B D ps pd base w.heap.size Q (.int .i64 Q.2) w9 o9 from ⟨rfl,hwd2⟩);have stF:=ae ((st8.out.mono (T':=qG S A B D) dh).trans hs9);clear hs9 hwr hwd2 hS8 bs8 be8 bn8;go_wp2_with fail;refine ⟨bg, ?_⟩;refine tq 6 (h:=tD (h:=?_));clear hS9 bn9 hS6;go_wp2_with fail;go_ret;exact ⟨_,o9,rfl,stF.out,hwd.out⟩
  ·rw [if_neg hok] at hQ;rw [if_neg hok] at pO;have hF2:=ae (show ∀ w3 o3,aj ai W2 o2 w3 o3->Wrote S A B D ps pd base w.heap.size Q (.int .i64 1) w3 o3 from fun w3 o3 st=>by rw [<-hQ];exact Wrote.same (hH.out.1.step0 st) rfl aP);clear hQ hd hok;go_enter func26,ntmps26;go_wp2_with fail;rw [xO.out];refine pO.out.mono ?_;rintro e1 w3 ⟨v3,o3,rfl,hs3,rfl⟩;go_wp2_with fail;go_ret;exact ⟨_,o3,rfl,((hH.out.2.2.2.trans hs3).mono dh),hF2.out w3 o3 hs3⟩
theorem Lines.src {ls:List Ar} (h:Lines w o base v ls):∃ cs,sH w o v ls.length cs/\cs.length = ls.length * 2/\(∀ u ∈ cs,u.oneCell' = true)/\sW w o cs ls:=by
 obtain ⟨cs,h1,h2, -, -⟩:=h;exact ⟨cs,h1,by rw [h2.1];omega,h2.one,h2⟩
theorem VV {x1 x2:Value} {b1 b2:Nat} {l1 l2:List Ar} (hv:sH w o v 2 [x1,x2]) (h1:Lines w o b1 x1 l1) (h2:Lines w o b2 x2 l2) (hn:l1.length + l2.length <= 100000) :
  Calls prog 84 #[v] w (XL ai w o fun v' w' o'=>Lines w' o' 0 v' (l1 ++ l2)):=by
 obtain ⟨c1,s1,k1,q1,e1⟩:=h1.src;obtain ⟨c2,s2,k2,q2,e2⟩:=h2.src;refine (VU (vs:=[x1,x2]) (ns:=[l1.length,l2.length]) (css:=[c1,c2]) hv ?_ rfl rfl ?_ bu).mono ?_
 grind
 ·intro k
  match k with
  | 0=>simp
  | 1=>grind
  | k + 2=>grind
 ·rintro e w' ⟨v',o',rfl,hs,hown,rfl⟩;refine ⟨v',_,rfl,hs,c1 ++ c2, ?_,(e1.append e2).step hs id,CV.zero _,fun u _=>CV.zero u⟩;simp only [List.sum_cons,List.sum_nil,Nat.add_zero,List.flatten_cons,List.flatten_nil,List.append_nil] at hown;rw [List.length_append]
  rcases hown.2 with ⟨rfl,h0⟩ | ⟨g,cap,cur,rfl,q1,q2,q3,q4,q5,q6⟩
  ·refine .inl ⟨bg,h0, ?_⟩;simp_all
  ·refine .inr ⟨g,0,cap,rfl,q3,q4,by unfold ext;grind,au q2, ?_⟩;have:=BU (w:=w') (b:=g) (cs:=cur.toList) (E:=36) (fr:=(0,0)) aP 0 ((l1.length + l2.length) * 2);grind
theorem dF (w:World) (o:Own) (x1 x2:Value) (t:TypeId):sH (w.alloc (.cells #[x1,x2] t)) (Ak o w.heap.size (0,0)) (.slice w.heap.size 2 2) 2 [x1,x2]:=
 .inr ⟨w.heap.size,0,2,rfl,aP,by simp [maxLen],by simp,bu,AV (heap_alloc_new w _)⟩
theorem WQ {Aed:Nat} (ht:Qw S A B D) (h:Bi w o S A B D ps pd base s) (hrow:s.d.row.length <= 600000) (hpg:1 <= s.pages/\s.pages <= 4096) (e:BitVec 64) (lv:Value) (ls:List Ar) (hl:Lines w o Aed lv ls) (hn1:ls.length <= 1000) (hsm:s.kept.Gg e ls = true->small ls) :
  Calls prog 145 #[.pointer ps, (e:aV),lv] w (XL (qG S A B D) w o fun v w' o'=>Wrote S A B D ps pd base w.heap.size (s.FO e ls) v w' o'):=by
 obtain ⟨la,lc,rfl⟩:=hl.form;have s1:=(aj.refl ai w o).alloc (.cells #[.pointer ps] 42) (0,0);have bs:=Box.new w o 42 (.pointer ps);have z1:(w.alloc (.cells #[.pointer ps] 42)).heap.size = w.heap.size + 1:=bu
 have s2:=(aj.refl ai (w.alloc (.cells #[.pointer ps] 42)) (Ak o w.heap.size (0,0))).alloc (.cells #[(e:aV)] 34) (0,0);have yB:=Box.new (w.alloc (.cells #[.pointer ps] 42)) (Ak o w.heap.size (0,0)) 34 (e:aV);have z2:((w.alloc (.cells #[.pointer ps] 42)).alloc (.cells #[(e:aV)] 34)).heap.size = w.heap.size + 1 + 1:=bu
 rw [z1] at s2 yB;have s3:=(aj.refl ai ((w.alloc (.cells #[.pointer ps] 42)).alloc (.cells #[(e:aV)] 34)) (Ak (Ak o w.heap.size (0,0)) (w.heap.size + 1) (0,0))).alloc (.cells #[.slice la ls.length lc] 32) (0,0);have bl:=Box.new ((w.alloc (.cells #[.pointer ps] 42)).alloc (.cells #[(e:aV)] 34)) (Ak (Ak o w.heap.size (0,0)) (w.heap.size + 1) (0,0)) 32 (.slice la ls.length lc);rw [z2] at s3 bl
 replace bs:=(bs.step s2 id).step s3 id
 replace yB:=yB.step s3 id
 have st2:=(s1.trans s2).trans s3
 replace h:=h.step0 st2
 replace hl:=hl.step st2 id
 have hmay:=TD h 179 #[.pointer (some (aW (w.heap.size + 1) 0)), .pointer w.heap.size, .pointer (some (aW (w.heap.size + 1 + 1) 0))] (s.kept.Gg e ls) Tryz.call179 (XA h e _ _ _ _ _ ls yB bs bl hl aP);obtain ⟨W2,hW2⟩:=az (((w.alloc (.cells #[.pointer ps] 42)).alloc (.cells #[(e:aV)] 34)).alloc (.cells #[.slice la ls.length lc] 32));rw [hW2] at st2 h bs yB bl hmay hl;generalize Ak (Ak (Ak o w.heap.size (0,0)) (w.heap.size + 1) (0,0)) (w.heap.size + 1 + 1) (0,0) = o2 at *;obtain ⟨Q,hQ⟩:=az (s.FO e ls);rw [hQ];unfold AZ.FO at hQ;have xO:=ae hW2;have hH:=aa4 h bs yB bl;have hst2:=ae st2;have hlH:=ae hl;have htH:=ae ht;have pM:=aa3 hrow hpg hsm;have pO:=ae hmay;have nI0:=ae (aU ht);clear h bs yB bl st2 s1 s2 s3 hW2 z1 z2 ht hrow hpg hsm hmay hl
 by_cases hd:(s.dead || s.d.dead) = true
 ·rw [if_pos hd] at hQ pO;have hF2:=ae (show ∀ w3 o3,aj ai W2 o2 w3 o3->Wrote S A B D ps pd base w.heap.size Q (.int .i64 9) w3 o3 from fun w3 o3 st=>by rw [<-hQ];exact Wrote.same (hH.out.1.step0 st) rfl aP);clear hQ;go_enter func145,ntmps145;go_wp2_with fail;rw [xO.out];refine pO.out.mono ?_;rintro e1 w3 ⟨v3,o3,rfl,hs3,rfl⟩;go_wp2_with fail;go_ret;exact ⟨_,o3,rfl,((hst2.out.trans hs3).mono dh),hF2.out w3 o3 hs3⟩
 ·rw [if_neg hd] at hQ pO
  by_cases hok:s.kept.Gg e ls = true
  ·rw [if_pos hok] at hQ;rw [if_pos hok] at pO;have pM:=aa3 pM.out.1 pM.out.2.1 (pM.out.2.2 hok);have vJ:=ae hQ;clear hQ hd hok;go_enter func145,ntmps145;go_wp2_with fail;rw [xO.out];refine pO.out.mono ?_;rintro e1 w3 ⟨v3,o3,rfl,hs3,rfl⟩;have h3:=hH.out.1.step0 hs3;have bs3:=hH.out.2.1.step hs3 id;have be3:=hH.out.2.2.1.step hs3 id;have bl3:=hH.out.2.2.2.step hs3 id;have hl3:=hlH.out.step hs3 id;have st3:=hst2.out.trans hs3;have hS:=aI bs3.cell (aI be3.cell bl3.cell);clear hs3 pO;go_wp2_with fail;refine Aa (fun w'=>w'.cell? w.heap.size = some (.pointer ps)/\w'.cell? (aW (w.heap.size + 1) 0) = some (e:aV)/\w'.cell? (aW (w.heap.size + 1 + 1) 0) = some (.slice la ls.length lc)) (fun _=>true) bf hS (fun hHeld => ?_);refine tq 0 (h:=tq 2 (h:=tq 4 (h:=tq 6 (h:=tq 7 (h:=tq 8 (h:=tq 9 (h:=tO 1 (h:=?_))))))));go_wp2_with fail;refine (IG (Bytes.nil _ o3) bu 3).mono ?_;rintro e1 w4 ⟨v4,o4,rfl,hs4,Aby⟩;have hs4:aj ai w3 o3 w4 o4:=(aj.refl ai w3 o3).drew.trans hs4;have bs4:=bs3.step hs4 id;have be4:=be3.step hs4 id;have bl4:=bl3.step hs4 id;have hS4:=aI bs4.cell (aI be4.cell bl4.cell);clear hHeld;go_wp2_with fail;refine ⟨bg, ?_⟩;refine tO 3 (h:=?_);go_wp2_with fail;refine (Ef Aby.bytes bu e).mono ?_;rintro e1 w5 ⟨v5,o5,rfl,hs5,AhT⟩;have bs5:=bs4.step hs5 id;have be5:=be4.step hs5 id;have bl5:=bl4.step hs5 id;have hS5:=aI bs5.cell (aI be5.cell bl5.cell);clear hS4;go_wp2_with fail;refine ⟨bg, ?_⟩;refine tO 5 (h:=?_);go_wp2_with fail;have AsJ:=hs4.trans hs5;refine (Lm AhT.bytes (hl3.step AsJ id) (by simp [Az];have:=pM.out.2.2.2;omega) aP).mono ?_;rintro e1 w6 ⟨v6,o6,rfl,hs6,Auk⟩;have bs6:=bs5.step hs6 id;have be6:=be5.step hs6 id;have bl6:=bl5.step hs6 id;have hS6:=aI bs6.cell (aI be6.cell bl6.cell);have Apo:=AsJ.trans hs6;have hl6:=hl3.step Apo id;have hown:=ae (Tj (p:=e) (c:=e) hl6 aP (fun x hx=>by have:=KG pM.out.2.2 x hx;omega));unfold Dy at hown;clear hS5;go_wp2_with fail;refine ⟨bg, ?_⟩;refine tO 10 (h:=?_);go_wp2_with fail;refine hown.out.mono ?_;rintro e1 w7 ⟨v7,o7,rfl,hs7,lv7,rfl,wY,rfl⟩;obtain ⟨o7,ho7⟩:=az (ext w6 o6);rw [ho7] at hs7 wY;have bs7:=bs6.step hs7 id;have be7:=be6.step hs7 id;have bl7:=bl6.step hs7 id;have hS7:=aI bs7.cell (aI be7.cell bl7.cell);have AsI:=Apo.trans hs7;have Abb:w.heap.size <= w6.heap.size:=(st3.trans Apo).size;have hwr:=ae (Lj htH.out (h3.step0 AsI) pM.out.1 pM.out.2.1 v6 (3 :: (be 8 e ++ GR ls)) ((Auk.congr (l':=3 :: (be 8 e ++ GR ls)) bu).step hs7 id).bytes Auk.cap bu (by simp [GR,Az];have:=pM.out.2.2.2;omega) ⟨e,e,ls⟩ lv7 (wY.low Abb) pM.out.2.2);unfold Dy at hwr;have stH:=ae (st3.trans AsI);clear hS6 hown ho7;go_wp2_with fail;refine ⟨bg, ?_⟩;refine tO 11 (h:=?_);go_wp2_with fail;refine hwr.out.mono ?_;rintro e1 w9 ⟨v9,o9,rfl,hs9,hwd⟩;have hS9:=aI (bs7.step hs9 nI0.out).cell (aI (be7.step hs9 nI0.out).cell (bl7.step hs9 nI0.out).cell);rw [vJ.out] at hwd;obtain ⟨rfl,hwd2⟩:=hwd;have hwd:=ae (show Wrote S A B D ps pd base w.heap.size Q (.int .i64 Q.2) w9 o9 from ⟨rfl,hwd2⟩);have stF:=ae ((stH.out.mono (T':=qG S A B D) dh).trans hs9);clear hs9 hwr hwd2 hS7;go_wp2_with fail;refine ⟨bg, ?_⟩;refine tq 12 (h:=tD (h:=?_));clear hS9 hS;go_wp2_with fail;go_ret;exact ⟨_,o9,rfl,stF.out,hwd.out⟩
  ·rw [if_neg hok] at hQ;rw [if_neg hok] at pO;clear hd hok;have hF2:=ae (show ∀ w3 o3,aj ai W2 o2 w3 o3->Wrote S A B D ps pd base w.heap.size Q (.int .i64 1) w3 o3 from fun w3 o3 st=>by rw [<-hQ];exact Wrote.same (hH.out.1.step0 st) rfl aP);clear hQ;go_enter func145,ntmps145;go_wp2_with fail;rw [xO.out];refine pO.out.mono ?_;rintro e1 w3 ⟨v3,o3,rfl,hs3,rfl⟩;go_wp2_with fail;go_ret;exact ⟨_,o3,rfl,((hst2.out.trans hs3).mono dh),hF2.out w3 o3 hs3⟩
theorem UD {Aed:Nat} (ht:Qw S A B D) (h:Bi w o S A B D ps pd base s) (hrow:s.d.row.length <= 600000) (hpg:1 <= s.pages/\s.pages <= 4096) (lv:Value) (ls:List Ar) (hl:Lines w o Aed lv ls) (hn1:ls.length <= 1000) (hk1:s.kept.lines.length <= 1000) (hsm:s.kept.Eu ls = true->small ls/\small s.kept.lines/\small (s.kept.lines ++ ls)) :
  Calls prog 41 #[.pointer ps,lv] w (XL (qG S A B D) w o fun v w' o'=>Wrote S A B D ps pd base w.heap.size (s.append ls) v w' o'):=by
 obtain ⟨la,lc,rfl⟩:=hl.form;have s1:=(aj.refl ai w o).alloc (.cells #[.pointer ps] 42) (0,0);have bs:=Box.new w o 42 (.pointer ps);have z1:(w.alloc (.cells #[.pointer ps] 42)).heap.size = w.heap.size + 1:=bu
 have s2:=(aj.refl ai (w.alloc (.cells #[.pointer ps] 42)) (Ak o w.heap.size (0,0))).alloc (.cells #[.slice la ls.length lc] 32) (0,0);have bl:=Box.new (w.alloc (.cells #[.pointer ps] 42)) (Ak o w.heap.size (0,0)) 32 (.slice la ls.length lc);rw [z1] at s2 bl
 replace bs:=bs.step s2 id
 have st2:=s1.trans s2
 replace h:=h.step0 st2
 replace hl:=hl.step st2 id
 have hmay:=TD h 80 #[.pointer w.heap.size, .pointer (some (aW (w.heap.size + 1) 0))] (s.kept.Eu ls) Tryz.call80 (Wj h _ _ _ _ ls bs bl hl aP hk1);obtain ⟨W2,hW2⟩:=az ((w.alloc (.cells #[.pointer ps] 42)).alloc (.cells #[.slice la ls.length lc] 32));rw [hW2] at st2 h bs bl hmay hl;generalize Ak (Ak o w.heap.size (0,0)) (w.heap.size + 1) (0,0) = o2 at *;obtain ⟨Q,hQ⟩:=az (s.append ls);rw [hQ];unfold AZ.append at hQ;have xO:=ae hW2;have hH:=aa3 h bs bl;have hst2:=ae st2;have hlH:=ae hl;have htH:=ae ht;have pM:=aa3 hrow hpg hsm;have pO:=ae hmay;have nI0:=ae (aU ht);clear h bs bl st2 s1 s2 hW2 z1 ht hrow hpg hsm hmay hl
 by_cases hd:(s.dead || s.d.dead) = true
 ·rw [if_pos hd] at hQ pO;have hF2:=ae (show ∀ w3 o3,aj ai W2 o2 w3 o3->Wrote S A B D ps pd base w.heap.size Q (.int .i64 9) w3 o3 from fun w3 o3 st=>by rw [<-hQ];exact Wrote.same (hH.out.1.step0 st) rfl aP);clear hQ;go_enter func41,ntmps41;go_wp2_with fail;rw [xO.out];refine pO.out.mono ?_;rintro e1 w3 ⟨v3,o3,rfl,hs3,rfl⟩;go_wp2_with fail;go_ret;exact ⟨_,o3,rfl,((hst2.out.trans hs3).mono dh),hF2.out w3 o3 hs3⟩
 ·rw [if_neg hd] at hQ pO
  by_cases hok:s.kept.Eu ls = true
  ·rw [if_pos hok] at hQ;rw [if_pos hok] at pO;have pM:=aa3 pM.out.1 pM.out.2.1 (pM.out.2.2 hok);have vJ:=ae hQ;clear hQ hd hok;go_enter func41,ntmps41;go_wp2_with fail;rw [xO.out];refine pO.out.mono ?_;rintro e1 w3 ⟨v3,o3,rfl,hs3,rfl⟩;have h3:=hH.out.1.step0 hs3;have bs3:=hH.out.2.1.step hs3 id;have bl3:=hH.out.2.2.step hs3 id;have hl3:=hlH.out.step hs3 id;have st3:=hst2.out.trans hs3;obtain ⟨kv,hkl,hrg⟩:=h3.box;obtain ⟨ka,kc,rfl⟩:=hkl.form;have hld:=ae (OV hrg);have cs3:=bs3.cell;obtain ⟨N,hN⟩:∃ N,N = S + A + B + D + 1:=⟨_,rfl⟩;have hal:=ae (AB (P:=prog) w3 55 _ LX);have hsw:=Be w3 #[.int .u64 0, .int .u64 0, .slice none 0 0] 55 [(s.kept.promised:aV), (s.kept.current:aV), .slice ka s.kept.lines.length kc] rfl;obtain ⟨hso, -⟩:=Ba (P:=prog) (ty:=55) (vs:=[(s.kept.promised:aV), (s.kept.current:aV), .slice ka s.kept.lines.length kc]) (heap_alloc_new w3 (.cells [.int .u64 0, .int .u64 0, .slice none 0 0].toArray 55)) rfl bf rfl;rw [hsw] at hso;have Aaz:=ae hso;have sN:=(aj.refl ai w3 o3).alloc (.cells [(s.kept.promised:aV), (s.kept.current:aV), .slice ka s.kept.lines.length kc].toArray 55) (N,0);have bn:=heap_alloc_new w3 (.cells [(s.kept.promised:aV), (s.kept.current:aV), .slice ka s.kept.lines.length kc].toArray 55);have tn:Ak o3 w3.heap.size (N,0) w3.heap.size = (N,0):=bu;have Abw:w.heap.size <= w3.heap.size:=st3.size;obtain ⟨w5,hw5⟩:=az (w3.alloc (.cells [(s.kept.promised:aV), (s.kept.current:aV), .slice ka s.kept.lines.length kc].toArray 55));rw [hw5] at sN bn Aaz;generalize Ak o3 w3.heap.size (N,0) = o5 at *;have h5:=h3.step0 sN;have bs5:=bs3.step sN id;have bl5:=bl3.step sN id;have hl5:=hl3.step sN id;have rW:=hkl.step sN id;have st5:=st3.trans sN;have c52:w5.cell? (aW w3.heap.size 2) = some (.slice ka s.kept.lines.length kc):=ag bn 2;have cl5:=bl5.cell;have sR:=(aj.refl ai w5 o5).alloc (.cells #[.slice ka s.kept.lines.length kc, .slice la ls.length lc] 32) (0,0);have slR:=dF w5 o5 (.slice ka s.kept.lines.length kc) (.slice la ls.length lc) 32;have hcc:=ae (VV slR (rW.step sR id) (hl5.step sR id) aP);have yA:=(sR.block w3.heap.size (au bn) id).trans bn;have tn6:=(sR.own w3.heap.size (au bn)).trans tn;have h6:=h5.step0 sR;have bs6:=bs5.step sR id;have bl6:=bl5.step sR id;have hl6:=hl5.step sR id;have st6:=st5.trans sR;clear hrg hkl hsw hso hw5 sN bn tn h5 bs5 bl5 hl5 rW st5 sR slR h3 bs3 bl3 hl3 pO ;generalize hgR:Ak o5 w5.heap.size (0,0) = o6 at *;clear hgR
   go_wp2_with (first
    | ((with_reducible apply Bo);exact hld.out;simp only [Act.put,lsa,lsz,lss])
    | ((with_reducible apply AU);exact hal.out;simp only [Act.put,lsa,lsz,lss])
    | ((with_reducible apply AC);exact Aaz.out;simp only [Act.put]))
   refine hcc.out.mono ?_;rintro e1 w7 ⟨v7,o7,rfl,hs7,wY⟩;obtain ⟨nb,hnb⟩:=az (w3.heap.size);have bn7:=hs7.di yA id;have tn7:=(hs7.own _ (au yA)).trans tn6;rw [hnb] at bn7 tn7;have h7:=h6.step0 hs7;have bs7:=bs6.step hs7 id;have bl7:=bl6.step hs7 id;have AuI:=hl6.step hs7 id;have st7:=st6.trans hs7;have hset:=(aj.refl (ak N) w7 o7).setCell (a:=(aW nb 2)) v7 (.inl (by show (o7 nb).1 = N;grind));have bn8:=Ai (i:=2) v7 bn7;simp only [lsz,lss] at bn8;have nN0:¬ ak N 0:=fun h=>by change 0 = N at h;omega
   have h8:=h7.step hset (by rw [hN];exact Tv);have bs8:=bs7.step hset nN0;have bl8:=bl7.step hset nN0;have hl8:=AuI.step hset nN0;have AnT:=wY.step hset nN0;have st8:=st7.setCell (a:=(aW nb 2)) v7 bg;have c72:w7.cell? (aW nb 2) = some (.slice ka s.kept.lines.length kc):=ag bn7 2;have f72:=Ap bn7 2;obtain ⟨w8,hw8⟩:=az (w7.setCell (aW nb 2) v7);rw [hw8] at bn8 h8 bs8 bl8 hl8 AnT st8;have Abx:=ae hnb;have Atm:=ae hw8;rw [Abx.out];obtain ⟨va,vc,rfl⟩:=AnT.form;have hown:=ae (fun (W:World) (O:Own) (st:aj ai w8 o7 W O)=>Tj (p:=s.kept.promised) (c:=s.kept.current) (AnT.step st id) bg (fun x hx=>by have:=KG pM.out.2.2.2.2 x hx;omega));unfold Dy at hown;obtain ⟨LL,hLL⟩:=az ((s.kept.lines ++ ls).length);rw [hLL] at hown bn8 Atm;clear hnb hw8 hset h7 bs7 bl7 AuI st7 h6 bs6 bl6 hl6 st6 hs7 wY yA tn6 c52 cl5 hcc hld hal Aaz cs3 bn7 hs3 st3 AnT;rw [hLL];have hS8:=aI bs8.cell (aI bl8.cell bn8);go_wp2_with fail;rw [Atm.out];refine Aa (fun w'=>w'.cell? w.heap.size = some (.pointer ps)/\w'.cell? (aW (w.heap.size + 1) 0) = some (.slice la ls.length lc)/\w'.heap[nb]? = some (.cells [(s.kept.promised:aV), (s.kept.current:aV), .slice va LL vc].toArray 55 (0,0))) (fun _=>true) bf hS8 (fun hHeld => ?_);refine tq 0 (h:=tq 2 (h:=?_));refine Dt (i:=4) (v := .agg [(s.kept.promised:aV), (s.kept.current:aV), .slice va LL vc].toArray) rfl bf (fun _ _ _ h=>h) (yieldsIf_load_mid rfl 55 (.tmp 6) rfl nb 0 rfl [(s.kept.promised:aV), (s.kept.current:aV), .slice va LL vc] _ (fun w h=>AV h.2.2) underlying55 rfl bf) aP ?_;simp only [Act.put,lsa,lsz,lss];refine tO 1 (h:=?_);go_wp2_with fail;refine (IG (Bytes.nil _ o7) bu 4).mono ?_;rintro e1 w9 ⟨v9,o9,rfl,hs9,Azj⟩;have hs9:aj ai w8 o7 w9 o9:=(aj.refl ai w8 o7).drew.trans hs9;have bs9:=bs8.step hs9 id;have bl9:=bl8.step hs9 id;have bn9:=(hs9.block nb (au bn8) id).trans bn8;have hS9:=aI bs9.cell (aI bl9.cell bn9);clear hHeld;go_wp2_with fail;refine ⟨bg, ?_⟩;refine tO 3 (h:=?_);go_wp2_with fail;refine (Lm Azj.bytes (hl8.step hs9 id) (by simp;have:=pM.out.2.2.1.2;omega) aP).mono ?_;rintro e1 w10 ⟨v10,o10,rfl,hs10,AoN⟩;have Awt:=bs9.step hs10 id;have Aww:=bl9.step hs10 id;have ArL:=(hs10.block nb (au bn9) id).trans bn9;have AgF:=aI Awt.cell (aI Aww.cell ArL);have AkO:=hs9.trans hs10;clear hS9;go_wp2_with fail;refine ⟨bg, ?_⟩;refine tO 5 (h:=?_);go_wp2_with fail;refine (hown.out _ _ AkO).mono ?_;rintro e1 w11 ⟨v11,o11,rfl,hs11,Ayw,rfl,AuJ,rfl⟩;obtain ⟨o11,Auf⟩:=az (ext w10 o10);rw [Auf] at hs11 AuJ;have Aws:=Awt.step hs11 id;have Awv:=Aww.step hs11 id;have ArK:=(hs11.block nb (au ArL) id).trans ArL;have AcA:=aI Aws.cell (aI Awv.cell ArK);have AkN:=AkO.trans hs11;have Atr:w.heap.size <= w10.heap.size:=(st8.trans AkO).size;have hwr:=ae (Lj htH.out (h8.step0 AkN) pM.out.1 pM.out.2.1 v10 (4 :: GR ls) ((AoN.congr (l':=4 :: GR ls) bu).step hs11 id).bytes AoN.cap bu (by simp [GR,Az];have:=pM.out.2.2.1.2;omega) { s.kept with lines:=s.kept.lines ++ ls } Ayw (AuJ.low Atr) pM.out.2.2.2.2);unfold Dy at hwr;have stH:=ae (st8.trans AkN);have AxT:=ae ((AkN.own nb (au bn8)).trans tn7);clear AgF hown Auf;go_wp2_with fail;refine ⟨bg, ?_⟩;refine tO 6 (h:=?_);go_wp2_with fail;refine hwr.out.mono ?_;rintro e1 w12 ⟨v12,o12,rfl,Aly,hwd⟩;have Bbk:=(Aly.block nb (au ArK) (by rw [AxT.out];exact (Tv N hN).2)).trans ArK;have Ajn:=aI (Aws.step Aly nI0.out).cell (aI (Awv.step Aly nI0.out).cell Bbk);rw [vJ.out] at hwd;obtain ⟨rfl,hwd2⟩:=hwd;have hwd:=ae (show Wrote S A B D ps pd base w.heap.size Q (.int .i64 Q.2) w12 o12 from ⟨rfl,hwd2⟩);have stF:=ae ((stH.out.mono (T':=qG S A B D) dh).trans Aly);clear Aly hwr hwd2 AcA;go_wp2_with fail;refine ⟨bg, ?_⟩;refine tq 7 (h:=tD (h:=?_));clear Ajn hS8;go_wp2_with fail;go_ret;exact ⟨_,o12,rfl,stF.out,hwd.out⟩
  ·rw [if_neg hok] at hQ;rw [if_neg hok] at pO;clear hd hok;have hF2:=ae (show ∀ w3 o3,aj ai W2 o2 w3 o3->Wrote S A B D ps pd base w.heap.size Q (.int .i64 1) w3 o3 from fun w3 o3 st=>by rw [<-hQ];exact Wrote.same (hH.out.1.step0 st) rfl aP);clear hQ;go_enter func41,ntmps41;go_wp2_with fail;rw [xO.out];refine pO.out.mono ?_;rintro e1 w3 ⟨v3,o3,rfl,hs3,rfl⟩;go_wp2_with fail;go_ret;exact ⟨_,o3,rfl,((hst2.out.trans hs3).mono dh),hF2.out w3 o3 hs3⟩
structure oQ where
 b:List UInt8
 bad:Bool
namespace oQ
def take (n:Nat) (m:oQ):Option (List UInt8) × oQ:=
 if m.bad then (none,m) else if m.b.length < n then (none,{ m with bad:=true }) else (some (m.b.take n),{ m with b:=m.b.drop n })
def num (n:Nat) (m:oQ):BitVec 64 × oQ:=(((m.take n).1.map Go.Proofs.YthmpmgknnibljaaGreat.num).getD 0,(m.take n).2)
def txt (n:Nat) (m:oQ):List UInt8 × oQ:=((m.take n).1.getD [],(m.take n).2)
def text (m:oQ):List UInt8 × oQ:=(m.num 4).2.txt (m.num 4).1.toNat
def count (most:Nat) (m:oQ):Nat × oQ:=if most < (m.num 8).1.toNat then (0,{ (m.num 8).2 with bad:=true }) else ((m.num 8).1.toNat,(m.num 8).2)
def done (m:oQ):Int:=if m.bad || decide (0 < m.b.length) then 2 else 0
end oQ
def Ep (w:World) (o:Own) (Z p:Nat) (m:oQ):Prop:=
 ∃ bv,w.heap[p]? = some (.cells #[bv, .bool m.bad] 215 (0,0))/\o p = (Z,0)/\Bytes w o bv m.b
theorem Ep.step {T:Nat->Prop} {w':World} {o':Own} {m:oQ} (h:Ep w o Z p m) (s:aj T w o w' o') (hZ:¬ T Z) (h0:¬ T 0):Ep w' o' Z p m:=by
 obtain ⟨bv,h1,h2,h3⟩:=h;have hl:=au h1;exact ⟨bv,by rw [s.block p hl bg];omega,by rw [s.own p hl];omega,h3.step s h0⟩
theorem addr_add (b off k:Nat):((aW b off):Addr).add k = (aW b (off + k)):=Addr.add_mid b off k
theorem Nl {bv:Value} (h:Bytes w o bv l) (n:Nat) (hn:n <= l.length) :
  ∃ v,(Instr.sliceAt 23 bv none (some (.int .u64 (n:Int))) (some (.int .u64 (n:Int)))).run prog w = .ok v w/\Bytes w o v (l.take n):=by
 have hu:prog.underlying 23 = some (.slice (prog.elem 23)):=bf
 have hsz:(sizeOf (prog.elem 23)).run prog w = .ok 1 w:=by
  rfl
 rcases h with ⟨⟨a,c,rfl⟩,h0,_⟩ | ⟨b,off,cap,rfl,hl,hm,ho,hb,hr⟩
 ·have hn0:n = 0:=aP
  subst hn0;refine ⟨_, ?_, .inl ⟨⟨a,0,rfl⟩,bu,bu⟩⟩;rfl
 ·by_cases hn0:n = 0
  ·subst hn0;refine ⟨_, ?_, .inl ⟨⟨some ⟨b,off,none⟩,0,rfl⟩,bu,bu⟩⟩;rfl
  ·refine ⟨.slice (some (aW b off)) n n, ?_, .inr ⟨b,off,n,bg,bg,aP,ho,hb, ?_⟩⟩
   ·rw [run_sliceAt_slice _ _ _ _ _ _ hu,run_slice_hm w 23 _ l.length cap hu .u64 .u64 n n aP aP aP,hsz];simp [Result.andThen_ok,sliced,Int.toNat_natCast,Nat.sub_zero,Option.map_some,addr_add,Nat.zero_mul,Nat.add_zero]
   ·rw [<-Ky];exact ER hr 0 n
theorem Qp {bv:Value} (h:Bytes w o bv l) (n:Nat) (hn:n <= l.length) :
  ∃ v,(Instr.sliceAt 23 bv (some (.int .u64 (n:Int))) none none).run prog w = .ok v w/\Bytes w o v (l.drop n):=by
 have hu:prog.underlying 23 = some (.slice (prog.elem 23)):=bf
 have hsz:(sizeOf (prog.elem 23)).run prog w = .ok 1 w:=by
  rfl
 rcases h with ⟨⟨a,c,rfl⟩,h0,_⟩ | ⟨b,off,cap,rfl,hl,hm,ho,hb,hr⟩
 ·have hn0:n = 0:=aP
  subst hn0;refine ⟨_, ?_, .inl ⟨⟨if c = 0 then a else a.map (·.add (0 * 1)),c - 0,rfl⟩,bg,bg⟩⟩
  rfl
 ·by_cases hn0:n = l.length
  ·refine ⟨.slice (if cap = n then some ⟨b,off,none⟩ else some ⟨b,off + n,none⟩) 0 (cap - n), ?_, .inl ⟨bg,bg,by simp_all⟩⟩
   rw [run_sliceAt_slice _ _ _ _ _ _ hu,run_slice_l w 23 _ l.length cap hu .u64 n aP aP,hsz];simp_all [sliced,addr_add]
  ·refine ⟨.slice (some (aW b (off + n))) (l.length - n) (cap - n), ?_, .inr ⟨b,off + n,cap - n,bu,bg,aP,ho,hb, ?_⟩⟩
   ·rw [run_sliceAt_slice _ _ _ _ _ _ hu,run_slice_l w 23 _ l.length cap hu .u64 n aP aP,hsz];simp [Result.andThen_ok,sliced,Int.toNat_natCast,Option.map_some,addr_add,Nat.mul_one];grind
   ·have:=ER hr n (l.length - n);grind [Bh,Np]
theorem NH (Z:Nat) (h:Bytes w o v l) (hl:l.length <= 1000000) :
  Calls prog 92 #[v] w (XL ai w o fun v w' o'=>∃ p:Nat,w.heap.size <= p/\v = .pointer p/\Ep w' o' Z p ⟨l,false⟩):=by
 have hc:=ae (clone_any h aP);go_enter func92,ntmps92;go_wp2_with fail;refine hc.out.mono ?_;rintro e w1 ⟨v1,o1,rfl,hs,hnb⟩;have hst:=hs.alloc (.cells #[v1, .bool false] 215) (Z,0);have hR:Ep (w1.alloc (.cells #[v1, .bool false] 215)) (Ak o1 w1.heap.size (Z,0)) Z w1.heap.size ⟨l,false⟩:=
  ⟨v1,heap_alloc_new w1 _,Au _ _ _,hnb.bytes.step ((aj.refl ai w1 o1).alloc _ (Z,0)) id⟩
 have hF:=aa2 hst hR;have hsz:=hs.size;obtain ⟨a,c,hv⟩:=Aq hnb.bytes;subst hv;go_wp2_with fail;go_ret;exact ⟨_,_,rfl,hF.out.1,w1.heap.size,hsz,rfl,hF.out.2⟩
theorem WA (h:Bytes w o v l) (hll:l.length <= 1000000) :
  Calls prog 150 #[v] w fun e w'=>e = .returned (.int .u64 ((num l).toNat:Int))/\w = w':=by
 obtain ⟨a,c,hv⟩:=Aq h;have hcell:∀ i (hi:i < l.length),∃ b:Nat,∃ off,a = some ⟨b,off,none⟩/\w.cell? (aW b (off + i)) = some (.int .u8 ((l[i].toNat:Int))):=by
  intro i hi
  rcases h.cases with ⟨_,rfl⟩ | ⟨b,off,cap,hv2,hl,hm,ho,hb,hr⟩
  grind
  ·rw [hv] at hv2;simp only [Value.slice.injEq] at hv2;refine ⟨b,off,hv2.1,hr i _ ?_⟩;rw [OW,List.getElem?_eq_getElem hi];rfl
 subst hv;clear h;go_enter func150,ntmps150;go_wp2_with fail
 go_loop [3,8] (fun n i=>∃ k:Nat,k <= l.length/\i = .int .i64 k/\n = .int .u64 ((num (l.take k)).toNat:Int)) (fun _ i=>l.length - (intOf i).toNat)
 case atStart=>exact ⟨0,bu,rfl,rfl⟩
 case round =>
  obtain ⟨k,hk,rfl,rfl⟩:=hrel
  by_cases hlt:k < l.length
  ·obtain ⟨b,off,rfl,hc⟩:=hcell k hlt;have hsn:num (l.take (k + 1)) = (num (l.take k) <<< 8) ||| BitVec.ofNat 64 l[k].toNat:=by
    rw [List.take_succ_eq_append_getElem hlt,Ve]
   have uZ:=ae hsn;clear hsn hcell;generalize hcc:l[k] = cc at *;clear hcc;go_wp2_with fail
   go_round
   case rel=>exact ⟨k + 1,hlt,by rfl,by rw [uZ.out, <-Nr, <-NC, <-wrap_u8]⟩
   case measure=>simp [intOf];omega
  ·have hk':k = l.length:=aP
   go_wp2_with fail;go_ret;simp
theorem Xv (h:Bytes w o v l) (hll:l.length <= 1000000):Calls prog 153 #[v] w (XL ai w o fun v w' o'=>Ew w w' o' v l):=by
 have hc:=ae (clone_any h aP);go_enter func153,ntmps153;go_wp2_with fail;refine hc.out.mono ?_;rintro e w1 ⟨v1,o1,rfl,hs,hnb⟩;go_wp2_with fail;go_ret;exact ⟨_,o1,rfl,hs,hnb⟩
theorem NF {m:oQ} (h:Ep w o Z p m) (hZ:Z ≠ 0) (hm:m.b.length <= 1000000) (n:Nat) (hn:n <= 8) :
  Calls prog 149 #[.pointer p, .int .u64 (n:Int), .func (.func 150) #[] #[]] w (XL (ak Z) w o fun v w' o'=>v = .int .u64 ((m.num n).1.toNat:Int)/\Ep w' o' Z p (m.num n).2):=by
 obtain ⟨bv,h1,h2,h3⟩:=h;obtain ⟨L,hL⟩:=az (m.b.length);have c0:w.cell? p = some bv:=ag (cs:=[_,_]) h1 0;have c1:w.cell? (aW p 1) = some (.bool m.bad):=ag (cs:=[_,_]) h1 1;have f0:w.frozen? p = false:=Ap (cs:=[_,_]) h1 0;have f1:w.frozen? (aW p 1) = false:=Ap (cs:=[_,_]) h1 1;have hck:=Tryz.call150;obtain ⟨q,hq⟩:=az (m.take n);unfold oQ.num;rw [hq];unfold oQ.take at hq;have h0:¬ ak Z 0:=fun h=>hZ h.symm;have hH:=aa3 h1 h2 h3;obtain ⟨ba,bc,rfl⟩:=Aq h3
 cases hb:m.bad with
 | true =>
  rw [hb] at c1;rw [if_pos hb] at hq;have hF:=ae (show q.1 = none/\Ep w o Z p q.2 from by rw [<-hq];exact ⟨rfl,_,h1,h2,h3⟩);clear hq h1 h2 h3 hb;go_enter func149,ntmps149;go_wp2_with fail;go_ret;exact ⟨_,o,rfl,aj.refl _ _ _,by rw [hF.out.1];rfl,hF.out.2⟩
 | false =>
  rw [hb] at c1;rw [if_neg bg] at hq
  by_cases hlt:L < n
  ·rw [if_pos aP] at hq;have AbY:(L:Int) < (n:Int):=aP
   have hset:=(aj.refl (ak Z) w o).setCell (a:=(aW p 1)) (.bool true) (.inl (by show (o p).1 = Z;grind));have hF:=ae (show q.1 = none/\Ep (w.setCell (aW p 1) (.bool true)) o Z p q.2 from by rw [<-hq];exact ⟨rfl,_,Ai (cs:=[_,_]) (i:=1) _ h1,h2,h3.step hset h0⟩);have hsH:=ae hset;rw [hL] at c0;clear hq h1 h2 h3 hb hset hH;go_enter func149,ntmps149;go_wp2_with fail;go_ret;exact ⟨_,o,rfl,hsH.out,by rw [hF.out.1];rfl,hF.out.2⟩
  ·rw [if_neg aP] at hq;have AbY:¬ (L:Int) < (n:Int):=aP
   obtain ⟨v1,r1,hb1⟩:=Nl h3 n aP;obtain ⟨v2,r2,hb2⟩:=Qp h3 n aP;obtain ⟨a2,d2,e2⟩:=Aq hb2;rw [List.length_drop,hL] at e2;obtain ⟨L2,hL2⟩:=az (L - n);rw [hL2] at e2;subst e2;clear hL2;have hset:=(aj.refl (ak Z) w o).setCell (a:=p) (.slice a2 L2 d2) (.inl (by show (o p).1 = Z;grind));have hF:=ae (show q.1 = some (m.b.take n)/\Ep (w.setCell p (.slice a2 L2 d2)) o Z p q.2 from by rw [<-hq];exact ⟨rfl,_,Ai (cs:=[_,_]) (i:=0) _ h1,h2,hb2.step hset h0⟩);have hcl:=ae (WA (hb1.step hset h0) bg);have hsH:=ae hset;have r1H:=ae r1;have r2H:=ae r2;rw [hL] at c0 r1H r2H;clear hq h1 h2 h3 hb hset r1 r2 hb1 hb2 hH;go_enter func149,ntmps149
   go_wp2_with ((with_reducible apply FM);(first | exact r1H.out | exact r2H.out);simp only [Act.put,lsa,lsz,lss])
   refine hcl.out.mono ?_;rintro e w3 ⟨rfl,rfl⟩;go_wp2_with fail;go_ret;exact ⟨_,o,rfl,hsH.out,by rw [hF.out.1];rfl,hF.out.2⟩
theorem Yr {m:oQ} (h:Ep w o Z p m) (hZ:Z ≠ 0) (hm:m.b.length <= 1000000) (n:Nat) (_hn:n <= 4294967295) :
  Calls prog 152 #[.pointer p, .int .u64 (n:Int), .func (.func 153) #[] #[]] w (XL (ak Z) w o fun v w' o'=>(Bytes w' o' v (m.txt n).1/\CV w.heap.size v)/\Ep w' o' Z p (m.txt n).2):=by
 obtain ⟨bv,h1,h2,h3⟩:=h;obtain ⟨L,hL⟩:=az (m.b.length);have c0:w.cell? p = some bv:=ag (cs:=[_,_]) h1 0;have c1:w.cell? (aW p 1) = some (.bool m.bad):=ag (cs:=[_,_]) h1 1;have f0:w.frozen? p = false:=Ap (cs:=[_,_]) h1 0;have f1:w.frozen? (aW p 1) = false:=Ap (cs:=[_,_]) h1 1;have hck:=Tryz.call153;obtain ⟨q,hq⟩:=az (m.take n);unfold oQ.txt;rw [hq];unfold oQ.take at hq;have h0:¬ ak Z 0:=fun h=>hZ h.symm;have hH:=aa3 h1 h2 h3;obtain ⟨ba,bc,rfl⟩:=Aq h3
 cases hb:m.bad with
 | true =>
  rw [hb] at c1;rw [if_pos hb] at hq;have hF:=ae (show q.1 = none/\Ep w o Z p q.2 from by rw [<-hq];exact ⟨rfl,_,h1,h2,h3⟩);clear hq h1 h2 h3 hb;go_enter func152,ntmps152;go_wp2_with fail;go_ret;exact ⟨_,o,rfl,aj.refl _ _ _,by rw [hF.out.1];exact ⟨Bytes.nil _ _,CV.nil _ _ _⟩,hF.out.2⟩
 | false =>
  rw [hb] at c1;rw [if_neg bg] at hq
  by_cases hlt:L < n
  ·rw [if_pos aP] at hq;have AbY:(L:Int) < (n:Int):=aP
   have hset:=(aj.refl (ak Z) w o).setCell (a:=(aW p 1)) (.bool true) (.inl (by show (o p).1 = Z;grind));have hF:=ae (show q.1 = none/\Ep (w.setCell (aW p 1) (.bool true)) o Z p q.2 from by rw [<-hq];exact ⟨rfl,_,Ai (cs:=[_,_]) (i:=1) _ h1,h2,h3.step hset h0⟩);have hsH:=ae hset;rw [hL] at c0;clear hq h1 h2 h3 hb hset hH;go_enter func152,ntmps152;go_wp2_with fail;go_ret;exact ⟨_,o,rfl,hsH.out,by rw [hF.out.1];exact ⟨Bytes.nil _ _,CV.nil _ _ _⟩,hF.out.2⟩
  ·rw [if_neg aP] at hq;have AbY:¬ (L:Int) < (n:Int):=aP
   obtain ⟨v1,r1,hb1⟩:=Nl h3 n aP;obtain ⟨v2,r2,hb2⟩:=Qp h3 n aP;obtain ⟨a2,d2,e2⟩:=Aq hb2;rw [List.length_drop,hL] at e2;obtain ⟨L2,hL2⟩:=az (L - n);rw [hL2] at e2;subst e2;clear hL2;have hset:=(aj.refl (ak Z) w o).setCell (a:=p) (.slice a2 L2 d2) (.inl (by show (o p).1 = Z;grind));have hF:=ae (show q.1 = some (m.b.take n)/\Ep (w.setCell p (.slice a2 L2 d2)) o Z p q.2 from by rw [<-hq];exact ⟨rfl,_,Ai (cs:=[_,_]) (i:=0) _ h1,h2,hb2.step hset h0⟩);have hcl:=ae (Xv (hb1.step hset h0) bg);have hsH:=ae hset;have r1H:=ae r1;have r2H:=ae r2;rw [hL] at c0 r1H r2H;clear hq h1 h2 h3 hb hset r1 r2 hb1 hb2 hH;go_enter func152,ntmps152
   go_wp2_with ((with_reducible apply FM);(first | exact r1H.out | exact r2H.out);simp only [Act.put,lsa,lsz,lss])
   refine hcl.out.mono ?_;rintro e w3 ⟨v3,o3,rfl,hs3,hnb⟩;go_wp2_with fail;go_ret;exact ⟨_,o3,rfl,hsH.out.trans (hs3.only Z),by rw [hF.out.1];exact ⟨hnb.bytes,hnb.fresh.low bu⟩,hF.out.2.step hs3 id id⟩

end Go.Proofs.YthmpmgknnibljaaGreat
