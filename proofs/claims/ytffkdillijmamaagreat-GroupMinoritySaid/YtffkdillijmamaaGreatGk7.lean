/- Contracts: what a record does to what is kept (the three method expressions); must. -/
import Derived.Defers
import Derived.Recover
import Derived.Test.YtffkdillijmamaaGreatGk5
import Derived.Test.YtffkdillijmamaaGreatGk6
namespace Go.Proofs.YtffkdillijmamaaGreat
open Go.Proofs.Tryz
set_option maxRecDepth 100000
set_option maxHeartbeats 6400000
open Go Go.RowKit
attribute [local go_sem ↓] Go.wp_at_zero Go.wp_at_succ
def AX.Ez (k:AX) (m:oQ):AX × oQ:=({ k with promised:=(m.num 8).1 },(m.num 8).2)
def AX.FW (_k:AX) (m:oQ):AX × oQ:=(⟨(m.num 8).1,(m.num 8).1,(m.num 8).2.lines.1⟩,(m.num 8).2.lines.2)
def AX.Fb (k:AX) (m:oQ):AX × oQ:=({ k with lines:=k.lines++m.lines.1 },m.lines.2)
def Ny (w:World) (o:Own) (K X kb base:Nat) (k:AX):Prop:=
 ∃ lv,w.heap[kb]?=some (.cells #[.int .u64 (k.promised.toNat:Int), .int .u64 (k.current.toNat:Int),lv] 37 (0,0))/\o kb=(K,0)/\Gh w o base (X,0) lv k.lines
theorem Ny.step {T:Nat->Prop} {w w':World} {o o':Own} {K X kb base:Nat} {k:AX} (h:Ny w o K X kb base k) (s:aj T w o w' o') (hK:¬ T K) (hX:¬ T X) (h0:¬ T 0):Ny w' o' K X kb base k:=by
 obtain ⟨lv,h1,h2,h3⟩:=h;have hl:=au h1;exact ⟨lv,by rw [s.block kb hl (by rw [h2];exact hK)];exact h1,by rw [s.own kb hl];exact h2,h3.step s hX h0⟩
structure Tg (K X Z:Nat):Prop where
 k0:K ≠ 0
 x0:X ≠ 0
 z0:Z ≠ 0
 kx:K ≠ X
 kz:K ≠ Z
 xz:X ≠ Z
def In3 (K X Z:Nat):Nat->Prop:=fun t=>t=K \/ t=X \/ t=Z
theorem oQ.KQ (m:oQ):m.lines.2.b.length<=m.b.length/\m.lines.1.length<=256:=by
 unfold oQ.lines;have h1:=oQ.IW 256 m;have h2:=NG (m.count 256).1 (m.count 256).2;omega
section
variable {w:World} {o:Own} {K X Z kb p base:Nat} {k:AX} {m:oQ}
theorem SS (ht:Tg K X Z) (h:Ny w o K X kb base k) (hr:Ep w o Z p m) (hm:m.b.length<=1000000) :
  Calls prog 173 #[.pointer (some ⟨kb,0,none⟩), .pointer (some ⟨p,0,none⟩)] w (XL (In3 K X Z) w o fun v w' o'=>v = .tuple #[]/\Ny w' o' K X kb base (k.Ez m).1/\Ep w' o' Z p (k.Ez m).2):=by
 have hu:=ae (EJ hr ht.z0 hm);have hH:=ae h;have nD:=ae ht;unfold AX.Ez;generalize (m.num 8).1=E at *;generalize (m.num 8).2=m8 at *;clear h ht hr;go_enter func173,ntmps173;go_wp2_with fail;refine hu.out.mono ?_;rintro e w1 ⟨v1,o1,rfl,hs,rfl,hr1⟩;have ht:=nD.out;obtain ⟨lv,h1,h2,h3⟩:=hH.out.step hs (fun h=>ht.kz h) (fun h=>ht.xz h) (fun h=>ht.z0 h.symm);have c0:w1.cell? ⟨kb,0,none⟩=some (.int .u64 (k.promised.toNat:Int)):=ag (cs:=[_,_,_]) h1 0;have f0:w1.frozen? ⟨kb,0,none⟩=false:=Ap (cs:=[_,_,_]) h1 0;have hset:=(aj.refl (ak K) w1 o1).setCell (a:=⟨kb,0,none⟩) (.int .u64 (E.toNat:Int)) (.inl (by show (o1 kb).1=K;rw [h2]));have hF:=ae (show Ny (w1.setCell ⟨kb,0,none⟩ (.int .u64 (E.toNat:Int))) o1 K X kb base { k with promised:=E }/\Ep (w1.setCell ⟨kb,0,none⟩ (.int .u64 (E.toNat:Int))) o1 Z p m8 from
  ⟨⟨lv,Ai (cs:=[_,_,_]) (i:=0) _ h1,h2,h3.step hset (fun h=>ht.kx h.symm) (fun h=>ht.k0 h.symm)⟩,hr1.step hset (fun h=>ht.kz h.symm) (fun h=>ht.k0 h.symm)⟩)
 have hst:=ae ((hs.mono (T':=In3 K X Z) (fun _ h => .inr (.inr h))).trans (hset.mono (fun _ h => .inl h)));clear h1 h2 h3 hset hs hr1 ht hu;go_wp2_with fail
 first | go_end0 | refine bodyPost_ret (results_none rfl _ _ _) rfl ?_
 exact ⟨_,o1,rfl,hst.out,rfl,hF.out.1,hF.out.2⟩
theorem AiI (ht:Tg K X Z) (h:Ny w o K X kb base k) (hr:Ep w o Z p m) (hm:m.b.length<=1000000) (hbase:base<=w.heap.size) :
  Calls prog 174 #[.pointer (some ⟨kb,0,none⟩), .pointer (some ⟨p,0,none⟩)] w (XL (In3 K X Z) w o fun v w' o'=>v = .tuple #[]/\Ny w' o' K X kb base (k.FW m).1/\Ep w' o' Z p (k.FW m).2):=by
 have hu:=ae (EJ hr ht.z0 hm);have hH:=ae h;have nD:=ae ht;have hm8:=oQ.EC 8 m;unfold AX.FW;generalize (m.num 8).1=E at *;generalize (m.num 8).2=m8 at *;have hmH:=ae (show m8.b.length<=1000000 by omega);clear h ht hr hm8;go_enter func174,ntmps174;go_wp2_with fail;refine hu.out.mono ?_;rintro e w1 ⟨v1,o1,rfl,hs,rfl,hr1⟩;have ht:=nD.out;obtain ⟨lv,h1,h2,h3⟩:=hH.out.step hs (fun h=>ht.kz h) (fun h=>ht.xz h) (fun h=>ht.z0 h.symm);have c0:w1.cell? ⟨kb,0,none⟩=some (.int .u64 (k.promised.toNat:Int)):=ag (cs:=[_,_,_]) h1 0;have f0:w1.frozen? ⟨kb,0,none⟩=false:=Ap (cs:=[_,_,_]) h1 0;have hset:=(aj.refl (ak K) w1 o1).setCell (a:=⟨kb,0,none⟩) (.int .u64 (E.toNat:Int)) (.inl (by show (o1 kb).1=K;rw [h2]));have h1':=Ai (cs:=[_,_,_]) (i:=0) (.int .u64 (E.toNat:Int)) h1;have hr2:=hr1.step hset (fun h=>ht.kz h.symm) (fun h=>ht.k0 h.symm);have hst:=ae ((hs.mono (T':=In3 K X Z) (fun _ h => .inr (.inr h))).trans (hset.mono (fun _ h => .inl h)));obtain ⟨w2,hw2⟩:∃ w2,w1.setCell ⟨kb,0,none⟩ (.int .u64 (E.toNat:Int))=w2:=⟨_,rfl⟩;rw [hw2] at h1' hr2 hst;have AiU:=ae hw2;have hz2:w.heap.size<=w2.heap.size:=hst.out.size;have hrl:=ae (fun (W:World) (O:Own) (st:aj ai w2 o1 W O)=>JP (X:=X) (hr2.step st id id) ht.z0 ht.x0 ht.xz hmH.out);have h2H:=ae h2;have h1H:=ae h1';have hS:=ae (show w2.cell? ⟨kb,0,none⟩=some (.int .u64 (E.toNat:Int)) from ag (cs:=[_,_,_]) h1' 0);clear h1 h2 h3 hset hs hr1 hr2 hw2 hu h1' ht hH;go_wp2_with fail;rw [AiU.out];refine Aa (fun w'=>w'.cell? ⟨kb,0,none⟩=some (.int .u64 (E.toNat:Int))) (fun _=>true) (by kernel_rfl) hS.out (fun hHeld => ?_);refine tq 0 (h:=tq 1 (h:=tq 2 (h:=tq 3 (h:=tq 4 (h:=tq 5 (h:=tq 6 (h:=tO 7 (h:=?_))))))));go_wp2_with fail;have hdr:=(aj.refl ai w2 o1).drew;refine (hrl.out _ _ hdr).mono ?_;rintro e w3 ⟨v3,o3,rfl,hs3,hrow3,hr3⟩;have hs3:aj (ak Z) w2 o1 w3 o3:=(hdr.only Z).trans hs3;have ht:=nD.out;have h13:=(hs3.block kb (au h1H.out) (by rw [h2H.out];exact fun h=>ht.kz h)).trans h1H.out;have h23:=(hs3.own kb (au h1H.out)).trans h2H.out;obtain ⟨ra,rc,rfl⟩:=hrow3.form;have hS3:w3.cell? ⟨kb,0,none⟩=some (.int .u64 (E.toNat:Int)):=ag (cs:=[_,_,_]) h13 0;have f31:w3.frozen? ⟨kb,1,none⟩=false:=Ap (cs:=[_,_,_]) h13 1;have f32:w3.frozen? ⟨kb,2,none⟩=false:=Ap (cs:=[_,_,_]) h13 2;have c31:w3.cell? ⟨kb,1,none⟩=some (.int .u64 (k.current.toNat:Int)):=ag (cs:=[_,_,_]) h13 1;have c32:w3.cell? ⟨kb,2,none⟩=some lv:=ag (cs:=[_,_,_]) h13 2;have g1:=(aj.refl (ak K) w3 o3).setCell (a:=⟨kb,1,none⟩) (.int .u64 (E.toNat:Int)) (.inl (by show (o3 kb).1=K;rw [h23]));have g2:=g1.setCell (a:=⟨kb,2,none⟩) (.slice ra m8.lines.1.length rc) (.inl (by show (o3 kb).1=K;rw [h23]));have k1:=Ai (cs:=[_,_,_]) (i:=2) (.slice ra m8.lines.1.length rc) (Ai (cs:=[_,_,_]) (i:=1) (.int .u64 (E.toNat:Int)) h13);have hlow:Gh w3 o3 base (X,0) (.slice ra m8.lines.1.length rc) m8.lines.1:=by
  obtain ⟨cs,q1,q2,q3,q4⟩:=hrow3;have hb:base<=(w2.drew).heap.size:=Nat.le_trans hbase hz2;exact ⟨cs,JX q1 hb,q2,q3,fun u hu=>(q4 u hu).low hb⟩
 have hF:=ae (show Ny ((w3.setCell ⟨kb,1,none⟩ (.int .u64 (E.toNat:Int))).setCell ⟨kb,2,none⟩ (.slice ra m8.lines.1.length rc)) o3 K X kb base ⟨E,E,m8.lines.1⟩/\Ep ((w3.setCell ⟨kb,1,none⟩ (.int .u64 (E.toNat:Int))).setCell ⟨kb,2,none⟩ (.slice ra m8.lines.1.length rc)) o3 Z p m8.lines.2 from
  ⟨⟨_,k1,h23,hlow.step g2 (fun h=>ht.kx h.symm) (fun h=>ht.k0 h.symm)⟩,hr3.step g2 (fun h=>ht.kz h.symm) (fun h=>ht.k0 h.symm)⟩)
 have AaM:=ae ((hst.out.trans (hs3.mono (fun _ h => .inr (.inr h)))).trans (g2.mono (fun _ h => .inl h)));clear hs3 hrow3 hr3 g1 g2 k1 hlow ht hrl h13 hHeld;go_wp2_with fail;refine ⟨fun _=>hS3, ?_⟩;refine tq 8 (h:=tq 9 (h:=tO 10 (h:=?_)));have AgF:(w3.setCell ⟨kb,1,none⟩ (.int .u64 (E.toNat:Int))).cell? ⟨kb,0,none⟩=some (.int .u64 (E.toNat:Int)):=by rw [World.cell?_setCell_other _ _ _ _ (by simp)];exact hS3
 go_wp2_with fail;refine ⟨fun _=>AgF, ?_⟩;refine tq 11 (h:=tq 12 (h:=tO 13 (h:=?_)));have Baq:((w3.setCell ⟨kb,1,none⟩ (.int .u64 (E.toNat:Int))).setCell ⟨kb,2,none⟩ (.slice ra m8.lines.1.length rc)).cell? ⟨kb,0,none⟩=some (.int .u64 (E.toNat:Int)):=by rw [World.cell?_setCell_other _ _ _ _ (by simp)];exact AgF
 go_wp2_with fail;refine ⟨fun _=>Baq, ?_⟩;refine tD (h:=?_);go_wp2_with fail
 first | go_end0 | refine bodyPost_ret (results_none rfl _ _ _) rfl ?_
 exact ⟨_,o3,rfl,AaM.out,rfl,hF.out.1,hF.out.2⟩
theorem Gh.source {w:World} {o:Own} {base:Nat} {t:Nat × Nat} {v:Value} {ls:List Ar} (h:Gh w o base t v ls) (h0:0<ls.length) :
  ∃ g c cs,v = .slice (some ⟨g,0,none⟩) ls.length c/\w.rangeAt g 0 cs/\sW w o cs ls/\(∀ u ∈ cs,CV base u):=by
 obtain ⟨cs,h1,h2,h3,h4⟩:=h
 rcases h1.2 with ⟨_,h⟩ | ⟨g,cap,cur,rfl,q1,q2,q3,q4,q5,q6⟩
 ·omega
 ·refine ⟨g,cap,cs,rfl, ?_,h3,h4⟩;have:=BU (w:=w) (b:=g) (cs:=cur.toList) (E:=41) (fr:=(0,0)) (by simpa using q2) 0 (ls.length*2);rw [List.drop_zero,q6] at this;exact this
theorem Gh.iK {w:World} {o:Own} {base n c:Nat} {a:Option Addr} {t:Nat × Nat} {ls:List Ar} (h:Gh w o base t (.slice a n c) ls):n<=c/\n=ls.length:=by
 obtain ⟨cs,h1,h2,h3,h4⟩:=h
 rcases h1.2 with ⟨h,h0⟩ | ⟨g,cap,cur,h,q1,q2,q3,q4,q5,q6⟩
 ·cases h;omega
 ·cases h;omega
theorem Gh.Zh {W:World} {o:Own} {base b2 X:Nat} {t2:Nat × Nat} {v v2:Value} {l1 l2:List Ar} (h:Gh W o base (X,0) v l1) (hX:X ≠ 0) (hbase:base<=W.heap.size) (h2:Gh W o b2 t2 v2 l2) (hb2:base<=b2) (hn:l1.length+l2.length<=100000) :
  ∃ nv w' o',(Builtin.append_ #[35,35] 35 #[v,v2]).run prog W = .ok nv w'/\Gh w' o' base (X,0) nv (l1++l2)/\aj (ak X) W o w' o':=by
 by_cases h0:l2.length=0
 ·have e:=List.eq_nil_of_length_eq_zero h0;subst e;obtain ⟨a,c,rfl⟩:=h.form;obtain ⟨a2,c2,rfl⟩:=h2.form;have:=h.iK.1;refine ⟨_,W,o,CB (P:=prog) W 35 35 41 2 underlying35 (by kernel_rfl) a a2 l1.length c c2 this (by simp at hn;omega),by rw [List.append_nil];exact h,aj.refl _ _ _⟩
 ·obtain ⟨g,c,cs,rfl,q1,q2,q3⟩:=h2.source (by omega);obtain ⟨nv,w',o',a1,a2,a3, -, -⟩:=h.append hX hbase q1 q2 (fun u hu=>(q3 u hu).low hb2) (by omega) hn (c:=c);exact ⟨nv,w',o',a1,a2,a3⟩
theorem UO (ht:Tg K X Z) (h:Ny w o K X kb base k) (hr:Ep w o Z p m) (hm:m.b.length<=1000000) (hbase:base<=w.heap.size) (hk:k.lines.length<=90000) :
  Calls prog 175 #[.pointer (some ⟨kb,0,none⟩), .pointer (some ⟨p,0,none⟩)] w (XL (In3 K X Z) w o fun v w' o'=>v = .tuple #[]/\Ny w' o' K X kb base (k.Fb m).1/\Ep w' o' Z p (k.Fb m).2):=by
 obtain ⟨lv,h1,h2,h3⟩:=h;obtain ⟨Y,hY⟩:∃ Y,Y=K+X+Z+1:=⟨_,rfl⟩;have hY0:Y ≠ 0:=by omega
 have hYZ:Y ≠ Z:=by omega
 have hrl:=ae (fun (W:World) (O:Own) (st:aj ai w o W O)=>JP (X:=Y) (hr.step st id id) ht.z0 hY0 hYZ hm);have hll:=m.KQ.2;have c2:w.cell? ⟨kb,2,none⟩=some lv:=ag (cs:=[_,_,_]) h1 2;have nD:=ae ht;have hH:=ae (aI h1 (aI h2 h3));have hkb:=au h1;obtain ⟨ka,kc,rfl⟩:=h3.form;unfold AX.Fb;generalize m.lines.1=LL at *;generalize m.lines.2=mL at *;clear h1 h2 h3 hr ht;go_enter func175,ntmps175;go_wp2_with fail;refine Aa (fun w'=>w'.cell? ⟨kb,2,none⟩=some (.slice ka k.lines.length kc)) (fun i=>decide (i<10)) (by kernel_rfl) c2 (fun hHeld => ?_);refine tq 0 (h:=tq 1 (h:=tq 2 (h:=tq 3 (h:=tq 4 (h:=tq 5 (h:=tO 6 (h:=?_)))))));go_wp2_with fail;have hdr:=(aj.refl ai w o).drew;refine (hrl.out _ _ hdr).mono ?_;rintro e w3 ⟨v3,o3,rfl,hs3,hrow3,hr3⟩;have hs3:aj (ak Z) w o w3 o3:=(hdr.only Z).trans hs3;have ht:=nD.out;obtain ⟨h1,h2,h3⟩:=hH.out;have h13:=(hs3.block kb hkb (by rw [h2];exact fun h=>ht.kz h)).trans h1;have h23:=(hs3.own kb hkb).trans h2;have h33:=h3.step hs3 (fun h=>ht.xz h) (fun h=>ht.z0 h.symm);have hS3:w3.cell? ⟨kb,2,none⟩=some (.slice ka k.lines.length kc):=ag (cs:=[_,_,_]) h13 2;have hz3:base<=w3.heap.size:=Nat.le_trans hbase hs3.size;obtain ⟨nv,w4,o4,hrun,hrow4,hs4⟩:=h33.Zh ht.x0 hz3 hrow3 (show base<=(w.drew).heap.size from hbase) (by omega);have Aax:=ae hrun;have h14:=(hs4.block kb (au h13) (by rw [h23];exact fun h=>ht.kx h)).trans h13;have h24:=(hs4.own kb (au h13)).trans h23;have hr4:=hr3.step hs4 (fun h=>ht.xz h.symm) (fun h=>ht.x0 h.symm);have hS4:w4.cell? ⟨kb,2,none⟩=some (.slice ka k.lines.length kc):=ag (cs:=[_,_,_]) h14 2;have f4:w4.frozen? ⟨kb,2,none⟩=false:=Ap (cs:=[_,_,_]) h14 2;obtain ⟨ra,rc,rfl⟩:=hrow3.form;obtain ⟨na,nc,rfl⟩:=hrow4.form;have g2:=(aj.refl (ak K) w4 o4).setCell (a:=⟨kb,2,none⟩) (.slice na (k.lines++LL).length nc) (.inl (by show (o4 kb).1=K;rw [h24]));have k1:=Ai (cs:=[_,_,_]) (i:=2) (.slice na (k.lines++LL).length nc) h14;have hF:=ae (show Ny (w4.setCell ⟨kb,2,none⟩ (.slice na (k.lines++LL).length nc)) o4 K X kb base { k with lines:=k.lines++LL }/\Ep (w4.setCell ⟨kb,2,none⟩ (.slice na (k.lines++LL).length nc)) o4 Z p mL from
  ⟨⟨_,k1,h24,hrow4.step g2 (fun h=>ht.kx h.symm) (fun h=>ht.k0 h.symm)⟩,hr4.step g2 (fun h=>ht.kz h.symm) (fun h=>ht.k0 h.symm)⟩)
 have AaM:=ae ((((hs3.mono (T':=In3 K X Z) (fun _ h => .inr (.inr h)))).trans (hs4.mono (fun _ h => .inr (.inl h)))).trans (g2.mono (fun _ h => .inl h)));generalize (k.lines++LL).length=NL at *;clear hs3 hrow3 hr3 hs4 hrow4 g2 k1 ht hrl h13 h14 h33 hr4 h1 h2 h3 hHeld hrun hdr;go_wp2_with fail;refine ⟨fun _=>hS3, ?_⟩;refine tO 7 (h:=?_);refine Bl Aax.out ?_;refine wpList_nil ?_;simp only [Act.put,GL,DL,lss];refine ⟨fun _=>hS4, ?_⟩;refine tO 8 (h:=?_);go_wp2_with fail;refine ⟨fun _=>hS4, ?_⟩;refine tq 9 (h:=tO 10 (h:=?_));go_wp2_with fail;refine ⟨fun h=>by simp at h, ?_⟩;refine tD (h:=?_);clear hS4 hS3 Aax;go_wp2_with fail
 first | go_end0 | refine bodyPost_ret (results_none rfl _ _ _) rfl ?_
 exact ⟨_,o4,rfl,AaM.out,rfl,hF.out.1,hF.out.2⟩
theorem Fq (w:World):Calls prog 122 #[.bool true] w fun e w'=>e = .returned (.tuple #[])/\w=w':=by
 go_enter func122,ntmps122
 go_wp2
 first | go_end0 | refine bodyPost_ret (results_none rfl _ _ _) rfl ?_
 exact ⟨rfl,rfl⟩
end
def Fh (k:AX) (b:List UInt8):Option AX:=
 let t:=(oQ.mk b false).num 1
 if t.1.toNat % 256=2 then (if (k.Ez t.2).2.done=0 then some (k.Ez t.2).1 else none)
 else if t.1.toNat % 256=3 then (if (k.FW t.2).2.done=0 then some (k.FW t.2).1 else none)
 else if t.1.toNat % 256=4 then (if (k.Fb t.2).2.done=0 then some (k.Fb t.2).1 else none)
 else none
def FV:AX->List (List UInt8)->Option AX
 | k,[]=>some k
 | k,b :: r=>match Fh k b with
  | some k'=>FV k' r
  | none=>none
def EF (b:List UInt8):Option (BitVec 64 × AX):=
 let t:=(oQ.mk b false).num 1
 let a:=t.2.num 8
 let p:=a.2.num 8
 let c:=p.2.num 8
 let l:=c.2.lines
 if t.1.toNat % 256=1/\l.2.done=0/\0<a.1.toNat then some (a.1,⟨p.1,c.1,l.1⟩) else none
def DK:List (List UInt8)->Option (BitVec 64 × AX)
 | []=>some (0,⟨0,0,[]⟩)
 | b :: r=>match EF b with
  | some (a,k)=>(FV k r).map fun k'=>(a,k')
  | none=>none
def FB:Obj := .map #[⟨.int .u8 2, .func (.func 173) #[] #[],0⟩,⟨.int .u8 3, .func (.func 174) #[] #[],1⟩,⟨.int .u8 4, .func (.func 175) #[] #[],2⟩] 3
section
variable {P:Program} {ops:Array Oper} {Q:Exit->Act->World->Prop} {rest:List Oper} {d:Option Nat} {ty:TypeId} {ps:String} {af:Array _} {a:Act} {w w':World} {v:Value}
theorem Ji {m k x:Operand} {t:TypeId} (hr:(Instr.mapUpdate t (a.eval m) (a.eval k) (a.eval x)).run P w = .ok () w') (h:wpList P ops Q rest (a.put d undef) w') :
  wpList P ops Q ({ dst:=d,op := .insert t m k x,type:=ty,pos:=ps,after:=af,guard:=none } :: rest) a w:=
 wpList_plain rfl fun _ hK=>by
  unfold Oper.wp execOp;simp only [Sem.run_bind,hr,Result.andThen_ok,Sem.run_pure];exact hK _ _ h
theorem Iq {t:TypeId} (hr:(Instr.makeMap t none).run P w = .ok v w') (h:wpList P ops Q rest (a.put d v) w') :
  wpList P ops Q ({ dst:=d,op := .makeMap t none,type:=ty,pos:=ps,after:=af,guard:=none } :: rest) a w:=
 wpList_plain rfl fun _ hK=>by
  unfold Oper.wp execOp;simp only [Option.map_none,Sem.run_bind,hr,Result.andThen_ok,Sem.run_pure];exact hK _ _ h
theorem DN {m k:Operand} {t:TypeId} {ok:Bool} (hr:(Instr.lookup t (a.eval m) (a.eval k) ok).run P w = .ok v w') (h:wpList P ops Q rest (a.put d v) w') :
  wpList P ops Q ({ dst:=d,op := .lookup t m k ok,type:=ty,pos:=ps,after:=af,guard:=none } :: rest) a w:=
 wpList_plain rfl fun _ hK=>by
  unfold Oper.wp execOp;simp only [Sem.run_bind,hr,Result.andThen_ok,Sem.run_pure];exact hK _ _ h
end
theorem OC (w:World) (o1 o2:Obj):({ (w.alloc o1) with heap:=(w.alloc o1).heap.setIfInBounds w.heap.size o2 }:World)=w.alloc o2:=by
 cases w
 simp only [World.alloc];congr 1;apply Array.ext_getElem?;intro i;simp only [Array.getElem?_setIfInBounds,Array.getElem?_push,Array.size_push];split <;> rename_i h
 ·subst h;simp
 ·have:¬ i=_:=fun h'=>h h'.symm;simp [this]
theorem SN (w:World):(Instr.makeMap 188 none).run prog w = .ok (.map (some w.heap.size)) (w.alloc (.map #[] 0)):=by
 rfl
theorem Lr (w:World) (es:Array MapEntry) (clock:Nat) (k:Int) (v:Value) (hf:Instr.findNow (.int .u8) (.int .u8 k) es.toList 0=some none) :
  (Instr.mapUpdate 245 (.map (some w.heap.size)) (.int .u8 k) v).run prog (w.alloc (.map es clock)) = .ok () (w.alloc (.map (es.push ⟨.int .u8 k,v,clock⟩) (clock+1))):=by
 have hb:(w.alloc (.map es clock)).heap[w.heap.size]?=some (.map es clock):=heap_alloc_new w _;have hck:(Instr.checkKey false 10000 5 (.int .u8 k)).run prog (w.alloc (.map es clock)) = .ok () (w.alloc (.map es clock)):=by
  unfold Instr.checkKey;simp [run_underlying underlying5]
 have hfk:(Instr.findKey 5 (.int .u8 k) es.toList).run prog (w.alloc (.map es clock)) = .ok none (w.alloc (.map es clock)):=by
  simp [Instr.findKey,run_underlying underlying5,hf]
 simp only [Instr.mapUpdate,Sem.run_bind,run_underlying underlying245,Result.andThen_ok,MapKept.run_getObj_map hb,hck,hfk,MapKept.run_setObj_map _ hb];rw [OC]
theorem JO {w:World} {b:Nat} (hb:w.heap[b]?=some FB):(∀ (f:Nat),(f=2 \/ f=3 \/ f=4)->(Instr.lookup 245 (.map (some b)) (.int .u8 (f:Int)) true).run prog w = .ok (.tuple #[.func (.func (f+171)) #[] #[], .bool true]) w):=by
 intro f hf;have hck:∀ k:Int,(Instr.checkKey false 10000 5 (.int .u8 k)).run prog w = .ok () w:=fun k=>by
  unfold Instr.checkKey;simp [run_underlying underlying5]
 unfold FB at hb;rcases hf with rfl | rfl | rfl
 all_goals
  simp only [Instr.lookup,Sem.run_bind,run_underlying underlying245,Result.andThen_ok,MapKept.run_getObj_map hb,Sem.run_pure,Instr.findKey,run_underlying underlying5];simp [Instr.findNow,Instr.sameNow,hck]
theorem JC {P:Program} {fn:Func} {p u:Tmp} {ty:TypeId} (h:fn.results = #[.tmp u, .cell p ty]) (tmps:Array Value) (w:World) (g:Nat) (t:TypeId) (cs:Array Value) (fr:Nat × Nat) (d:TypeDesc)
  (hp:tmps.getD p undef = .pointer (some ⟨g,0,none⟩)) (hg:w.heap[g]?=some (.cells cs t fr))
  (hu:P.underlying ty=some d) (hd:(match d with | .struct _ | .array _ _=>true | _=>false)=true) (hi:(P.info? ty).map (·.size)=some cs.size) :
  (results fn tmps).run P w = .ok (.tuple #[tmps.getD u undef, .agg cs]) w:=by
 rw [Array.getD_eq_getD_getElem?] at hp;unfold results;rw [h];simp [hp,asAddr,run_loadVar_row w g t ty cs fr d hg hu hd hi]
theorem Oo {k:AX} {b:List UInt8} {r:List (List UInt8)} {kf:AX} (h:FV k (b :: r)=some kf):∃ k',Fh k b=some k'/\FV k' r=some kf:=by
 unfold FV at h
 cases hk:Fh k b with
 | none=>rw [hk] at h;cases h
 | some k'=>rw [hk] at h;exact ⟨k',rfl,h⟩
theorem Uw (w:World) (o:Own) (a:Option Addr) (c:Nat):Calls prog 123 #[.slice a 0 c] w (XL ai w o fun r w' o'=>∃ lv,r = .tuple #[.int .u64 0,Dy 0 0 lv]/\Lines w' o' w.heap.size lv []/\o'=ext w o):=by
 have s1:=(aj.refl ai w o).alloc (.cells #[.int .u64 0, .int .u64 0, .slice none 0 0] 37) (0,0);have b1:(w.alloc (.cells #[.int .u64 0, .int .u64 0, .slice none 0 0] 37)).heap[w.heap.size]?=some (.cells [.int .u64 0, .int .u64 0, .slice none 0 0].toArray 37 (0,0)):=heap_alloc_new w _;have hal:=ae (AB (P:=prog) w 37 _ LX);obtain ⟨hso,hsb⟩:=Ba (P:=prog) (ty:=37) (vs:=[.int .u64 0, .int .u64 0, .slice none 0 0]) b1 rfl (by kernel_rfl) rfl;have Aaz:=ae hso;have AaM:=s1.setCells w.heap.size 0 [.int .u64 0, .int .u64 0, .slice none 0 0] (.inr (Nat.le_refl _));clear hso s1 b1;go_enter func123,ntmps123
 go_wp2_with (first
  | ((with_reducible apply AU);exact hal.out;simp only [Act.put,GL,DL,lss])
  | ((with_reducible apply AC);exact Aaz.out;simp only [Act.put]))
 refine bodyPost_ret (JC rfl _ _ w.heap.size 37 _ (0,0) _ rfl hsb underlying37 rfl Ij) rfl ?_;exact ⟨_,ext w o,rfl,AaM.Me _ (fun k hk=>if_pos hk),_,rfl,Lines.nil _ _ _,rfl⟩
theorem QJ {b:List UInt8} {age:BitVec 64} {k:AX} (h:EF b=some (age,k)) (hb:b.length<=1000000) :
  ∃ T m1 m2 P m3 C m4 L m5,(oQ.mk b false).num 1=(T,m1)/\m1.num 8=(age,m2)/\m2.num 8=(P,m3)/\m3.num 8=(C,m4)/\m4.lines=(L,m5)/\T.toNat % 256=1/\m5.done=0/\0<age.toNat/\k=⟨P,C,L⟩ /\
   m1.b.length<=1000000/\m2.b.length<=1000000/\m3.b.length<=1000000/\m4.b.length<=1000000/\L.length<=256:=by
 unfold EF at h;simp only at h;have l1:=oQ.EC 1 (oQ.mk b false);generalize h1:(oQ.mk b false).num 1=t at *;obtain ⟨T,m1⟩:=t;have l2:=oQ.EC 8 m1;simp only at h l1;generalize h2:m1.num 8=t at *;obtain ⟨A,m2⟩:=t;have l3:=oQ.EC 8 m2;simp only at h l2;generalize h3:m2.num 8=t at *;obtain ⟨P,m3⟩:=t;have l4:=oQ.EC 8 m3;simp only at h l3;generalize h4:m3.num 8=t at *;obtain ⟨C,m4⟩:=t;have l5:=oQ.KQ m4;simp only at h l4;generalize h5:m4.lines=t at *;obtain ⟨L,m5⟩:=t;simp only at h l5;split at h
 ·rename_i hc;simp only [Option.some.injEq,Prod.mk.injEq] at h;obtain ⟨rfl,rfl⟩:=h;exact ⟨T,m1,m2,P,m3,C,m4,L,m5,rfl,h2,h3,h4,h5,hc.1,hc.2.1,hc.2.2,rfl,by omega,by omega,by omega,by omega,l5.2⟩
 ·cases h
theorem Ol {k k':AX} {b:List UInt8} (h:Fh k b=some k') (hb:b.length<=1000000) :
  ∃ T m1,(oQ.mk b false).num 1=(T,m1)/\m1.b.length<=1000000/\((T.toNat % 256=2/\(k.Ez m1).2.done=0/\k'=(k.Ez m1).1) \/ (T.toNat % 256=3/\(k.FW m1).2.done=0/\k'=(k.FW m1).1) \/ (T.toNat % 256=4/\(k.Fb m1).2.done=0/\k'=(k.Fb m1).1)):=by
 unfold Fh at h;simp only at h;have l1:=oQ.EC 1 (oQ.mk b false);generalize h1:(oQ.mk b false).num 1=t at *;obtain ⟨T,m1⟩:=t;simp only at h l1;refine ⟨T,m1,rfl,by omega, ?_⟩;split at h
 ·rename_i hT;split at h
  ·rename_i hd;cases h;exact .inl ⟨hT,hd,rfl⟩
  ·cases h
 ·split at h
  ·rename_i hT;split at h
   ·rename_i hd;cases h;exact .inr (.inl ⟨hT,hd,rfl⟩)
   ·cases h
  ·split at h
   ·rename_i hT;split at h
    ·rename_i hd;cases h;exact .inr (.inr ⟨hT,hd,rfl⟩)
    ·cases h
   ·cases h
theorem SY {k k':AX} {b:List UInt8} (h:Fh k b=some k') (hb:b.length<=1000000):k'.lines.length<=k.lines.length+256:=by
 obtain ⟨T,m1, -, -,h⟩:=Ol h hb
 rcases h with ⟨-, -,rfl⟩ | ⟨-, -,rfl⟩ | ⟨-, -,rfl⟩
 ·unfold AX.Ez;simp
 ·unfold AX.FW;have:=(m1.num 8).2.KQ.2;simp only;omega
 ·unfold AX.Fb;have:=m1.KQ.2;simp only [List.length_append];omega
theorem aj.still {T:Nat->Prop} {w w':World} {o o':Own} (h:aj T w o w' o') (hT:∀ k,k<w.heap.size->¬ T (o k).1):aj ai w o w' o':=
 ⟨h.os,h.tape,h.output,h.size,h.own,fun k hk _=>h.block k hk (hT k hk)⟩
theorem Yt {w:World} {o:Own} {b off n c:Nat} {vs:List Value} (h:sH w o (.slice (some ⟨b,off,none⟩) n c) n vs) (hl:vs.length=n) (h1:1<=n) :
  ∃ a' c',(Instr.sliceAt 181 (.slice (some ⟨b,off,none⟩) n c) (some (.int .i64 1)) none none).run prog w = .ok (.slice a' (n - 1) c') w/\sH w o (.slice a' (n - 1) c') (n - 1) (vs.drop 1):=by
 have hu:prog.underlying 181=some (.slice (prog.elem 181)):=by kernel_rfl
 have hsz:(sizeOf (prog.elem 181)).run prog w = .ok 1 w:=by
  have:prog.elem 181=29:=by kernel_rfl
  rw [this];have h5:(prog.info? 29).map (·.size)=some 1:=by kernel_rfl
  cases hq:prog.info? 29 with
  | none=>simp [hq] at h5
  | some i=>simp [hq] at h5;simp [sizeOf,typeInfo,hq,h5]
 rcases h with ⟨⟨a,c,hq⟩,h0,_⟩ | ⟨b',off',cap,hq,hl',hm,ho,hb,hr⟩
 ·omega
 ·cases hq
  refine ⟨if c=1 then some ⟨b,off,none⟩ else some ⟨b,off+1,none⟩,c - 1, ?_, ?_⟩
  ·rw [run_sliceAt_slice _ _ _ _ _ _ hu,run_slice_l w 181 _ n c hu .i64 1 (by omega) (by omega),hsz];simp only [Result.andThen_ok,sliced,Option.map_some,Int.toNat_one,addr_add,Nat.mul_one]
  ·by_cases hn1:n=1
   ·subst hn1;exact .inl ⟨⟨_,_,rfl⟩,rfl,by rw [List.drop_eq_nil_of_le (by omega)]⟩
   ·rw [if_neg (by omega)];refine .inr ⟨b,off+1,c - 1,rfl,by omega,by omega,ho,hb, ?_⟩;have:=ER hr 1 (n - 1);rw [List.take_of_length_le (by rw [List.length_drop];omega)] at this;exact this
section
variable {w:World} {o:Own} {v:Value} {vs:List Value} {bs:List (List UInt8)} {age:BitVec 64} {kf:AX}
theorem Sv {b0:List UInt8} (hv:sH w o v (bs.length+1) vs) (hrb:Ey w o vs (b0 :: bs)) (hbl:∀ b ∈ b0 :: bs,b.length<=1000000) (hlen:bs.length<300) (hm:DK (b0 :: bs)=some (age,kf)) :
  Calls prog 123 #[v] w (XL ai w o fun r w' o'=>∃ lv,r = .tuple #[.int .u64 (age.toNat:Int),Dy kf.promised kf.current lv]/\Lines w' o' w.heap.size lv kf.lines/\o'=ext w o):=by
 obtain ⟨M,hM0,hM⟩:=EZ o 1 w.heap.size;have ht:Tg (M+1) (M+2) (M+3):=⟨by omega,by omega,by omega,by omega,by omega,by omega⟩;have hfr:∀ k,k<w.heap.size->¬ In3 (M+1) (M+2) (M+3) (o k).1:=fun k hk h=>by
  have:=hM k hk;unfold In3 at h;omega
 have hnY:¬ In3 (M+1) (M+2) (M+3) (M+4):=fun h=>by unfold In3 at h;omega
 have hY0:M+4 ≠ 0:=by omega
 generalize M+1=K at ht hfr hnY;generalize M+2=X at ht hfr hnY;generalize M+3=Z at ht hfr hnY;generalize M+4=Y at hnY hY0;clear hM hM0 M;have hf:∃ k,EF b0=some (age,k)/\FV k bs=some kf:=by
  simp only [DK] at hm
  cases hr:EF b0 with
  | none=>rw [hr] at hm;cases hm
  | some q =>
   obtain ⟨a,k⟩:=q;rw [hr] at hm;simp only [Option.map_eq_some_iff,Prod.mk.injEq] at hm;obtain ⟨k',h1,h2,h3⟩:=hm;subst h2 h3;exact ⟨k,rfl,h1⟩
 obtain ⟨k0,hf0,hall⟩:=hf;clear hm;obtain ⟨n,hn⟩:∃ n,bs.length+1=n:=⟨_,rfl⟩;rw [hn] at hv;obtain ⟨va,vc,rfl⟩:=Aq hv;have hvl:vs.length=n:=by rw [hrb.1, <-hn];rfl
 obtain ⟨e0,he0⟩:∃ e0,vs[0]?=some e0:=⟨_,List.getElem?_eq_getElem (by omega)⟩;have hB0:Bytes w o e0 b0:=hrb.2 0 e0 b0 he0 rfl;obtain ⟨rb,roff,rfl,hc0,Bfd,hro⟩:=hv.cell 0 he0;obtain ⟨ea,ec,rfl⟩:=Aq hB0;have s1:=(aj.refl ai w o).alloc (.cells #[.int .u64 0, .int .u64 0, .slice none 0 0] 37) (Y,0);have hal:=ae (AB (P:=prog) w 37 _ LX);have hb3:(w.alloc (.cells #[.int .u64 0, .int .u64 0, .slice none 0 0] 37)).heap[w.heap.size]?=some (.cells [.int .u64 0, .int .u64 0, .slice none 0 0].toArray 37 (0,0)):=heap_alloc_new w _;have hm0:=ae (SN (w.alloc (.cells #[.int .u64 0, .int .u64 0, .slice none 0 0] 37)));have hm1:=ae (Lr (w.alloc (.cells #[.int .u64 0, .int .u64 0, .slice none 0 0] 37)) #[] 0 2 (.func (.func 173) #[] #[]) rfl);have hm2:=ae (Lr (w.alloc (.cells #[.int .u64 0, .int .u64 0, .slice none 0 0] 37)) #[⟨.int .u8 2, .func (.func 173) #[] #[],0⟩] 1 3 (.func (.func 174) #[] #[]) rfl);have hm3:=ae (Lr (w.alloc (.cells #[.int .u64 0, .int .u64 0, .slice none 0 0] 37)) #[⟨.int .u8 2, .func (.func 173) #[] #[],0⟩,⟨.int .u8 3, .func (.func 174) #[] #[],1⟩] 2 4 (.func (.func 175) #[] #[]) rfl);have s2:=s1.alloc FB (0,0);have hmb:((w.alloc (.cells #[.int .u64 0, .int .u64 0, .slice none 0 0] 37)).alloc FB).heap[(w.alloc (.cells #[.int .u64 0, .int .u64 0, .slice none 0 0] 37)).heap.size]?=some FB:=heap_alloc_new _ _;have hmo:Ak (Ak o w.heap.size (Y,0)) (w.alloc (.cells #[.int .u64 0, .int .u64 0, .slice none 0 0] 37)).heap.size (0,0) (w.alloc (.cells #[.int .u64 0, .int .u64 0, .slice none 0 0] 37)).heap.size=(0,0):=Au _ _ _;have Akn:=(Below.heap_alloc (w.alloc (.cells #[.int .u64 0, .int .u64 0, .slice none 0 0] 37)) FB w.heap.size (by simp)).trans hb3;have AvA:Ak (Ak o w.heap.size (Y,0)) (w.alloc (.cells #[.int .u64 0, .int .u64 0, .slice none 0 0] 37)).heap.size (0,0) w.heap.size=(Y,0):=by rw [BI _ _ (by simp)];exact Au _ _ _
 generalize Ak (Ak o w.heap.size (Y,0)) (w.alloc (.cells #[.int .u64 0, .int .u64 0, .slice none 0 0] 37)).heap.size (0,0)=o2 at *;have hmv:Value.map (some (w.alloc (.cells #[.int .u64 0, .int .u64 0, .slice none 0 0] 37)).heap.size) = .map (some (w.heap.size+1)):=by simp
 have Aqw:(w.alloc (.cells #[.int .u64 0, .int .u64 0, .slice none 0 0] 37)).heap.size=w.heap.size+1:=by simp
 rw [Aqw] at hmb hmo;obtain ⟨W1,hW1⟩:∃ W1,w.alloc (.cells #[.int .u64 0, .int .u64 0, .slice none 0 0] 37)=W1:=⟨_,rfl⟩;obtain ⟨W2,hW2⟩:∃ W2,W1.alloc FB=W2:=⟨_,rfl⟩;rw [hW1] at hal hm0 hm1 hm2 hm3 s2 hmb Akn Aqw;rw [hW2] at s2 hmb Akn;rw [Aqw] at hm0 hm1 hm2 hm3;have hm3:=ae (show Sem.run prog (Instr.mapUpdate 245 (.map (some (w.heap.size+1))) (.int .u8 4) (.func (.func 175) #[] #[])) _=Result.ok () W2 from hW2 ▸ hm3.out);have hst2:=s2;have c20:=(hB0.step hst2 id);have hcell0:W2.cell? ⟨rb,roff,none⟩=some (.slice ea b0.length ec):=by
  obtain ⟨b',off',h1,h2, -, -⟩:=(hv.step hst2 id).cell 0 he0
  cases h1;exact h2
 have hnI:((n:Int) == 0)=false:=by simp;omega
 have Azk:(0:Int)<n:=by omega
 have hnew:=ae (NH Z c20 (hbl b0 (by simp)));have hvH:=ae (hv.step hst2 id);have AtJ:=ae (hrb.step hst2 id);have Abe:=ae (hst2);have AlW:=ae (aI hmb hmo);have Ams:=ae (aI Akn AvA);have nD:=ae ht;have AzH:=ae hfr;have AbT:=ae hbl;have Avf:=ae hf0;have pR:=ae hall;have Alc:=ae hvl;have hnH:=ae hn;have rD:=ae hlen;clear hv hrb c20 s1 s2 hst2 hmb hmo Akn AvA hb3 ht hfr hbl hf0 hall hB0 he0 hc0 hmv hW2 hvl hn hlen;go_enter func123,ntmps123
 go_wp2_with (first
  | ((with_reducible apply AU);exact hal.out;simp only [Act.put,GL,DL,lss])
  | ((with_reducible apply Iq);exact hm0.out;simp only [Act.put,GL,DL,lss])
  | ((with_reducible apply Ji);(first | exact hm1.out | exact hm2.out | exact hm3.out);simp only [Act.put]))
 refine hnew.out.mono ?_;rintro e w3 ⟨v3,o3,rfl,hs3,p,Azd,rfl,hr3⟩;obtain ⟨T,m1,m2,P,m3,C,m4,L,m5,q1,q2,q3,q4,q5,qT,qD,qA,rfl,n1,n2,n3,n4,nL⟩:=QJ Avf.out (AbT.out b0 (by simp));have hby:=ae (NI hr3 nD.out.z0 (AbT.out b0 (by simp)));rw [q1] at hby;simp only [qT] at hby;have st3:=ae (Abe.out.trans hs3);have qA':=ae qA;have q2H:=ae q2;have q3H:=ae q3;have q4H:=ae q4;have q5H:=ae q5;have qDH:=ae qD;clear q1 q2 q3 q4 q5 qD qT hr3 Azd hm0 hm1 hm2 hm3 hal hnew hcell0 qA;have g3:=ae (aI (hvH.out.step hs3 id) (aI (AtJ.out.step hs3 id) (aI ((hs3.block _ (au AlW.out.1) id).trans AlW.out.1) ((hs3.block _ (au Ams.out.1) id).trans Ams.out.1))));have g3o:=ae (aI ((hs3.own _ (au AlW.out.1)).trans AlW.out.2) ((hs3.own _ (au Ams.out.1)).trans Ams.out.2));clear hvH AtJ AlW Ams Abe hs3;go_wp2_with fail;refine hby.out.mono ?_;rintro e w4 ⟨v4,o4,rfl,hs4,rfl,hr4⟩;clear hby;go_wp2_with fail;refine (Fq w4).mono ?_;rintro e w4' ⟨rfl,rfl⟩;have hu:=ae (EJ hr4 nD.out.z0 n1);rw [q2H.out] at hu;clear hr4;go_wp2_with fail;refine hu.out.mono ?_;rintro e w5 ⟨v5,o5,rfl,hs5,rfl,hr5⟩;clear hu;have hu:=ae (EJ hr5 nD.out.z0 n2);rw [q3H.out] at hu;clear hr5;go_wp2_with fail;refine hu.out.mono ?_;rintro e w6 ⟨v6,o6,rfl,hs6,rfl,hr6⟩;clear hu;have hu:=ae (EJ hr6 nD.out.z0 n3);rw [q4H.out] at hu;clear hr6;go_wp2_with fail;refine hu.out.mono ?_;rintro e w7 ⟨v7,o7,rfl,hs7,rfl,yU⟩;clear hu;have hsZ:=ae (((hs4.trans hs5).trans hs6).trans hs7);clear hs4 hs5 hs6 hs7;have hal:=ae (AB (P:=prog) w7 37 _ LX);have s8:=(aj.refl ai w7 o7).alloc (.cells #[.int .u64 0, .int .u64 0, .slice none 0 0] 37) (K,0);have b8:(w7.alloc (.cells #[.int .u64 0, .int .u64 0, .slice none 0 0] 37)).heap[w7.heap.size]?=some (.cells [.int .u64 0, .int .u64 0, .slice none 0 0].toArray 37 (0,0)):=heap_alloc_new w7 _;have o8:Ak o7 w7.heap.size (K,0) w7.heap.size=(K,0):=Au _ _ _;obtain ⟨hso,hsb⟩:=Ba (P:=prog) (ty:=37) (vs:=[.int .u64 (P.toNat:Int), .int .u64 (C.toNat:Int), .slice none 0 0]) b8 rfl (by kernel_rfl) rfl;have Aaz:=ae hso;have s9:=(aj.refl (ak K) (w7.alloc (.cells #[.int .u64 0, .int .u64 0, .slice none 0 0] 37)) (Ak o7 w7.heap.size (K,0))).setCells w7.heap.size 0 [.int .u64 (P.toNat:Int), .int .u64 (C.toNat:Int), .slice none 0 0] (.inl (by show (Ak o7 w7.heap.size (K,0) w7.heap.size).1=K;rw [o8]));have hr9:=(yU.step s8 id id).step s9 (fun h=>nD.out.kz h.symm) (fun h=>nD.out.k0 h.symm);have sKZ:=ae ((s8.mono (T':=In3 K X Z) (fun _ h=>h.elim)).trans (s9.mono (fun _ h => .inl h)));have hbs:w7.heap.size<((w7.alloc (.cells #[.int .u64 0, .int .u64 0, .slice none 0 0] 37)).setCells w7.heap.size 0 [.int .u64 (P.toNat:Int), .int .u64 (C.toNat:Int), .slice none 0 0]).heap.size:=au hsb;generalize Ak o7 w7.heap.size (K,0)=o8' at *;obtain ⟨W8,hW8⟩:∃ W8,(w7.alloc (.cells #[.int .u64 0, .int .u64 0, .slice none 0 0] 37)).setCells w7.heap.size 0 [.int .u64 (P.toNat:Int), .int .u64 (C.toNat:Int), .slice none 0 0]=W8:=⟨_,rfl⟩;rw [hW8] at Aaz hsb hr9 sKZ hbs;clear hso s8 s9 yU b8 hW8;obtain ⟨kb,hkb⟩:∃ kb,w7.heap.size=kb:=⟨_,rfl⟩;rw [hkb] at Aaz hsb hbs o8 hal;have hl:=ae (JP (X:=X) hr9 nD.out.z0 nD.out.x0 nD.out.xz n4);rw [q5H.out] at hl;clear hr9
 go_wp2_with (first
  | ((with_reducible apply AU);exact hal.out;simp only [Act.put,GL,DL,lss])
  | ((with_reducible apply AC);exact Aaz.out;simp only [Act.put]))
 refine hl.out.mono ?_;rintro e w9 ⟨v9,o9,rfl,hs9,Alz,hr9⟩;have b9:=(hs9.block kb hbs (by rw [o8];exact fun h=>nD.out.kz h)).trans hsb;have k9:o9 kb=(K,0):=(hs9.own kb hbs).trans o8;obtain ⟨la,lc,rfl⟩:=Alz.form;have hset:=(aj.refl (ak K) w9 o9).setCell (a:=⟨kb,2,none⟩) (.slice la L.length lc) (.inl (by show (o9 kb).1=K;rw [k9]));have h1':=Ai (cs:=[_,_,_]) (i:=2) (.slice la L.length lc) b9;have f9:w9.frozen? ⟨kb,2,none⟩=false:=Ap (cs:=[_,_,_]) b9 2;have c9:w9.cell? ⟨kb,2,none⟩=some (.slice none 0 0):=ag (cs:=[_,_,_]) b9 2;have AeD:=hr9.step hset (fun h=>nD.out.kz h.symm) (fun h=>nD.out.k0 h.symm);have AbD:w.heap.size<=kb:=by
  have:=st3.out.size;have:=hsZ.out.size;omega
 have hkp:Ny (w9.setCell ⟨kb,2,none⟩ (.slice la L.length lc)) o9 K X kb w.heap.size ⟨P,C,L⟩:=⟨_,h1',k9,by
  obtain ⟨cs,y1,y2,y3,y4⟩:=Alz.step hset (fun h=>nD.out.kx h.symm) (fun h=>nD.out.k0 h.symm);exact ⟨cs,JX y1 (by omega),y2,y3,fun u hu=>(y4 u hu).low (by omega)⟩⟩
 have AhO:=((hsZ.out.mono (T':=In3 K X Z) (fun _ h => .inr (.inr h))).trans sKZ.out).trans ((hs9.mono (T':=In3 K X Z) (fun _ h => .inr (.inr h))).trans (hset.mono (T':=In3 K X Z) (fun _ h => .inl h)));have hn0:¬ In3 K X Z 0:=fun h=>by
  have:=nD.out.k0;have:=nD.out.x0;have:=nD.out.z0;unfold In3 at h;omega
 have AcG:=ae ((st3.out.mono (T':=In3 K X Z) (fun _ h=>h.elim)).trans AhO);have g10:=ae (show sH (w9.setCell ⟨kb,2,none⟩ (.slice la L.length lc)) o9 (.slice (some ⟨rb,roff,none⟩) n vc) n vs/\Ey (w9.setCell ⟨kb,2,none⟩ (.slice la L.length lc)) o9 vs (b0 :: bs)/\((w9.setCell ⟨kb,2,none⟩ (.slice la L.length lc)).heap[w.heap.size+1]?=some FB/\o9 (w.heap.size+1)=(0,0)) /\
   ((w9.setCell ⟨kb,2,none⟩ (.slice la L.length lc)).heap[w.heap.size]?=some (.cells #[.int .u64 0, .int .u64 0, .slice none 0 0] 37)/\o9 w.heap.size=(Y,0)) from
  ⟨g3.out.1.step AhO hn0,g3.out.2.1.step AhO hn0,⟨(AhO.block _ (au g3.out.2.2.1) (by rw [g3o.out.1];exact hn0)).trans g3.out.2.2.1,(AhO.own _ (au g3.out.2.2.1)).trans g3o.out.1⟩,
   (AhO.block _ (au g3.out.2.2.2) (by rw [g3o.out.2];exact hnY)).trans g3.out.2.2.2,(AhO.own _ (au g3.out.2.2.2)).trans g3o.out.2⟩)
 obtain ⟨W9,hW9⟩:∃ W9,w9.setCell ⟨kb,2,none⟩ (.slice la L.length lc)=W9:=⟨_,rfl⟩;rw [hW9] at AeD hkp AcG g10;have AvN:=ae hW9;have AuN:=ae hkp;have hd:=ae (II AeD);rw [qDH.out] at hd;clear hs9 Alz hr9 b9 hset h1' AeD hkp AhO hl hW9 sKZ hsb o8 hsZ g3 g3o st3;go_wp2_with fail;rw [AvN.out];refine hd.out.mono ?_;rintro e w' ⟨rfl,rfl⟩;have qAN:decide (0<age.toNat)=true:=decide_eq_true qA'.out;have Aya:(age.toNat:Int)<18446744073709551616:=by have:=age.isLt;omega
 go_wp2_with fail;refine (Fq W9).mono ?_;rintro e w' ⟨rfl,rfl⟩;clear qAN Aya;have hN:n - 1=bs.length:=by have:=hnH.out;omega
 obtain ⟨ra,rc,hsl,hrest⟩:=Yt g10.out.1 Alc.out (by omega);rw [hN] at hsl hrest;have Abf:=ae hsl;have hB:Ey W9 o9 (vs.drop 1) bs:=⟨hN ▸ (by rw [List.length_drop,Alc.out]),fun i u l hu hl=>g10.out.2.1.2 (i+1) u l (by rw [List.getElem?_drop] at hu;rw [Nat.add_comm];exact hu) (by simpa using hl)⟩;have AqT:∀ b ∈ bs,b.length<=1000000:=fun b hb=>AbT.out b (List.mem_cons_of_mem _ hb);have hNb:=rD.out;obtain ⟨us,hus⟩:∃ us,vs.drop 1=us:=⟨_,rfl⟩;rw [hus] at hB hrest;obtain ⟨N,hNN⟩:∃ N,bs.length=N:=⟨_,rfl⟩;rw [hNN] at Abf hrest hNb;have AoS:=ae g10.out.2.2;have hNI:(0:Int)<=(N:Int)/\(N:Int)<300:=by omega
 clear hsl g10 hN hus Alc hnH rD AbT hnI Azk Avf q2H q3H q4H q5H qDH hd k9
 go_wp2_with ((with_reducible apply FM);exact Abf.out;simp only [Act.put,GL,DL,lss])
 go_loopw [48] (fun i wr=>∃ (k:Nat) (oj:Own) (kk:AX),k<=N/\i = .int .i64 k/\Ny wr oj K X kb w.heap.size kk/\FV kk (bs.drop k)=some kf/\kk.lines.length<=256*(k+1)/\sH wr oj (.slice ra N rc) N us/\Ey wr oj us bs /\
  ((wr.heap[w.heap.size+1]?=some FB/\oj (w.heap.size+1)=(0,0))/\wr.heap[w.heap.size]?=some (.cells #[.int .u64 0, .int .u64 0, .slice none 0 0] 37)/\oj w.heap.size=(Y,0))/\aj (In3 K X Z) w o wr oj) (fun i _=>N - (intOf i).toNat)
 case atStart=>exact ⟨0,o9,_,by omega,rfl,AuN.out,pR.out,by simp;omega,hrest,hB,AoS.out,AcG.out⟩
 case round =>
  obtain ⟨k,oj,kk,hk,rfl,hkk,hrec,hkl,hsv,hsb,AjG,hst⟩:=hrel;clear AuN pR AoS AcG hrest hB Abf AvN hal Aaz f9 c9 W9
  by_cases hlt:k<N
  ·have AbY:(k:Int)<N:=by omega
   have Bcz:us.length=N:=by rw [hsb.1,hNN]
   obtain ⟨e0,he0⟩:∃ e0,us[k]?=some e0:=⟨_,List.getElem?_eq_getElem (by omega)⟩;obtain ⟨b,hb⟩:∃ b,bs[k]?=some b:=⟨_,List.getElem?_eq_getElem (by omega)⟩;have hBk:=hsb.2 k e0 b he0 hb;have hbl:=AqT b (List.mem_of_getElem? hb);obtain ⟨rb2,ro2,rfl,hcell, -, -⟩:=hsv.cell k he0;obtain ⟨ea2,ec2,rfl⟩:=Aq hBk;have hd1:bs.drop k=b :: bs.drop (k+1):=by
    rw [List.drop_eq_getElem_cons (by omega)];rw [List.getElem?_eq_getElem (by omega)] at hb;rw [<-Option.some.inj hb]
   rw [hd1] at hrec;obtain ⟨kk2,hone,AoI⟩:=Oo hrec;have hkl2:=SY hone hbl;obtain ⟨T,m1,hq1,hm1,hcs⟩:=Ol hone hbl;have hnew:=ae (NH Z hBk hbl);have hG:=ae (aI hsv (aI hsb AjG));have Azy:=ae hkk;have Abe:=ae hst;have Ahe:=ae AoI;have AzM:=ae hcs;have AyY:=ae hq1;have BcT:=ae AqT;clear hsv hsb AjG hkk hst AoI hcs hq1 hrec hd1 hone AqT hb he0 hBk;go_wp2_with fail;refine hnew.out.mono ?_;rintro e w2 ⟨v2,o2,rfl,hs2,p2, -,rfl,hr2⟩;have hby:=ae (NI hr2 nD.out.z0 hbl);rw [AyY.out] at hby;have ApZ:=ae (hs2.mono (T':=In3 K X Z) (fun _ h=>h.elim));have AqJ:=ae (Azy.out.step hs2 id id id);clear hnew hr2 hs2
   rcases AzM.out with ⟨hT,hd,hk'⟩ | ⟨hT,hd,hk'⟩ | ⟨hT,hd,hk'⟩
   ·simp only [hT] at hby;have hkF:=hk';have hdH:=ae hd;clear hT hd hk';go_wp2_with fail;refine hby.out.mono ?_;rintro e w3 ⟨v3,o3,rfl,hs3,rfl,hr3⟩;have Aee:=ApZ.out.trans (hs3.mono (T':=In3 K X Z) (fun _ h => .inr (.inr h)));have AhV:w3.heap[w.heap.size+1]?=some FB:=(Aee.block _ (au hG.out.2.2.1.1) (by rw [hG.out.2.2.1.2];exact hn0)).trans hG.out.2.2.1.1;have hlk:=ae (show (Instr.lookup 245 (.map (some (w.heap.size+1))) (.int .u8 2) true).run prog w3 = .ok (.tuple #[.func (.func 173) #[] #[], .bool true]) w3 from JO AhV 2 (by omega));have Aie:=AqJ.out.step hs3 (fun h=>nD.out.kz h) (fun h=>nD.out.xz h) (fun h=>nD.out.z0 h.symm);have hbz:w.heap.size<=w3.heap.size:=(Abe.out.trans Aee).size;have hcall:=ae (SS nD.out Aie hr3 hm1);have Alv:=ae Aee;clear hs3 Aee hr3 AhV Aie hby
    go_wp2_with ((with_reducible apply DN);exact hlk.out;simp only [Act.put,GL,DL,lss])
    refine (Fq w3).mono ?_;rintro e w' ⟨rfl,rfl⟩;clear hlk;go_wp2_with fail;refine hcall.out.mono ?_;rintro e w4 ⟨v4,o4,rfl,hs4,rfl,Aid,hr4⟩;have hdn:=ae (II hr4);rw [hdH.out] at hdn;have AcM:=ae (Alv.out.trans hs4);have Aic:=ae Aid;clear hcall Aid hr4 hs4;go_wp2_with fail;refine hdn.out.mono ?_;rintro e w' ⟨rfl,rfl⟩;go_wp2_with fail;refine (Fq w4).mono ?_;rintro e w' ⟨rfl,rfl⟩;go_wp2_with fail;go_roundw
    case rel =>
     refine ⟨k+1,o4,kk2,by omega,by go_num, ?_,Ahe.out,by omega,hG.out.1.step AcM.out hn0,hG.out.2.1.step AcM.out hn0,⟨⟨(AcM.out.block _ (au hG.out.2.2.1.1) (by rw [hG.out.2.2.1.2];exact hn0)).trans hG.out.2.2.1.1,(AcM.out.own _ (au hG.out.2.2.1.1)).trans hG.out.2.2.1.2⟩,
      (AcM.out.block _ (au hG.out.2.2.2.1) (by rw [hG.out.2.2.2.2];exact hnY)).trans hG.out.2.2.2.1,(AcM.out.own _ (au hG.out.2.2.2.1)).trans hG.out.2.2.2.2⟩,Abe.out.trans AcM.out⟩
     rw [hkF];exact Aic.out
    case measure=>simp [intOf];omega
   ·simp only [hT] at hby;have hkF:=hk';have hdH:=ae hd;clear hT hd hk';go_wp2_with fail;refine hby.out.mono ?_;rintro e w3 ⟨v3,o3,rfl,hs3,rfl,hr3⟩;have Aee:=ApZ.out.trans (hs3.mono (T':=In3 K X Z) (fun _ h => .inr (.inr h)));have AhV:w3.heap[w.heap.size+1]?=some FB:=(Aee.block _ (au hG.out.2.2.1.1) (by rw [hG.out.2.2.1.2];exact hn0)).trans hG.out.2.2.1.1;have hlk:=ae (show (Instr.lookup 245 (.map (some (w.heap.size+1))) (.int .u8 3) true).run prog w3 = .ok (.tuple #[.func (.func 174) #[] #[], .bool true]) w3 from JO AhV 3 (by omega));have Aie:=AqJ.out.step hs3 (fun h=>nD.out.kz h) (fun h=>nD.out.xz h) (fun h=>nD.out.z0 h.symm);have hbz:w.heap.size<=w3.heap.size:=(Abe.out.trans Aee).size;have hcall:=ae (AiI nD.out Aie hr3 hm1 hbz);have Alv:=ae Aee;clear hs3 Aee hr3 AhV Aie hby
    go_wp2_with ((with_reducible apply DN);exact hlk.out;simp only [Act.put,GL,DL,lss])
    refine (Fq w3).mono ?_;rintro e w' ⟨rfl,rfl⟩;clear hlk;go_wp2_with fail;refine hcall.out.mono ?_;rintro e w4 ⟨v4,o4,rfl,hs4,rfl,Aid,hr4⟩;have hdn:=ae (II hr4);rw [hdH.out] at hdn;have AcM:=ae (Alv.out.trans hs4);have Aic:=ae Aid;clear hcall Aid hr4 hs4;go_wp2_with fail;refine hdn.out.mono ?_;rintro e w' ⟨rfl,rfl⟩;go_wp2_with fail;refine (Fq w4).mono ?_;rintro e w' ⟨rfl,rfl⟩;go_wp2_with fail;go_roundw
    case rel =>
     refine ⟨k+1,o4,kk2,by omega,by go_num, ?_,Ahe.out,by omega,hG.out.1.step AcM.out hn0,hG.out.2.1.step AcM.out hn0,⟨⟨(AcM.out.block _ (au hG.out.2.2.1.1) (by rw [hG.out.2.2.1.2];exact hn0)).trans hG.out.2.2.1.1,(AcM.out.own _ (au hG.out.2.2.1.1)).trans hG.out.2.2.1.2⟩,
      (AcM.out.block _ (au hG.out.2.2.2.1) (by rw [hG.out.2.2.2.2];exact hnY)).trans hG.out.2.2.2.1,(AcM.out.own _ (au hG.out.2.2.2.1)).trans hG.out.2.2.2.2⟩,Abe.out.trans AcM.out⟩
     rw [hkF];exact Aic.out
    case measure=>simp [intOf];omega
   ·simp only [hT] at hby;have hkF:=hk';have hdH:=ae hd;clear hT hd hk';go_wp2_with fail;refine hby.out.mono ?_;rintro e w3 ⟨v3,o3,rfl,hs3,rfl,hr3⟩;have Aee:=ApZ.out.trans (hs3.mono (T':=In3 K X Z) (fun _ h => .inr (.inr h)));have AhV:w3.heap[w.heap.size+1]?=some FB:=(Aee.block _ (au hG.out.2.2.1.1) (by rw [hG.out.2.2.1.2];exact hn0)).trans hG.out.2.2.1.1;have hlk:=ae (show (Instr.lookup 245 (.map (some (w.heap.size+1))) (.int .u8 4) true).run prog w3 = .ok (.tuple #[.func (.func 175) #[] #[], .bool true]) w3 from JO AhV 4 (by omega));have Aie:=AqJ.out.step hs3 (fun h=>nD.out.kz h) (fun h=>nD.out.xz h) (fun h=>nD.out.z0 h.symm);have hbz:w.heap.size<=w3.heap.size:=(Abe.out.trans Aee).size;have hcall:=ae (UO nD.out Aie hr3 hm1 hbz (by omega));have Alv:=ae Aee;clear hs3 Aee hr3 AhV Aie hby
    go_wp2_with ((with_reducible apply DN);exact hlk.out;simp only [Act.put,GL,DL,lss])
    refine (Fq w3).mono ?_;rintro e w' ⟨rfl,rfl⟩;clear hlk;go_wp2_with fail;refine hcall.out.mono ?_;rintro e w4 ⟨v4,o4,rfl,hs4,rfl,Aid,hr4⟩;have hdn:=ae (II hr4);rw [hdH.out] at hdn;have AcM:=ae (Alv.out.trans hs4);have Aic:=ae Aid;clear hcall Aid hr4 hs4;go_wp2_with fail;refine hdn.out.mono ?_;rintro e w' ⟨rfl,rfl⟩;go_wp2_with fail;refine (Fq w4).mono ?_;rintro e w' ⟨rfl,rfl⟩;go_wp2_with fail;go_roundw
    case rel =>
     refine ⟨k+1,o4,kk2,by omega,by go_num, ?_,Ahe.out,by omega,hG.out.1.step AcM.out hn0,hG.out.2.1.step AcM.out hn0,⟨⟨(AcM.out.block _ (au hG.out.2.2.1.1) (by rw [hG.out.2.2.1.2];exact hn0)).trans hG.out.2.2.1.1,(AcM.out.own _ (au hG.out.2.2.1.1)).trans hG.out.2.2.1.2⟩,
      (AcM.out.block _ (au hG.out.2.2.2.1) (by rw [hG.out.2.2.2.2];exact hnY)).trans hG.out.2.2.2.1,(AcM.out.own _ (au hG.out.2.2.2.1)).trans hG.out.2.2.2.2⟩,Abe.out.trans AcM.out⟩
     rw [hkF];exact Aic.out
    case measure=>simp [intOf];omega
  ·obtain rfl:N=k:=by omega
   have hkf:kk=kf:=by
    rw [List.drop_eq_nil_of_le (by omega)] at hrec;exact Option.some.inj hrec
   subst hkf;obtain ⟨lv,hb7,ho7,wY⟩:=hkk;obtain ⟨lla,llc,rfl⟩:=wY.form;obtain ⟨hso,AyT⟩:=Ba (w:=wr.drew) (P:=prog) (ty:=37) (vs:=[.int .u64 (kk.promised.toNat:Int), .int .u64 (kk.current.toNat:Int), .slice lla kk.lines.length llc]) AjG.2.1 rfl (by kernel_rfl) rfl;have Aaz:=ae hso;have AaM:=ae ((hst.drew.setCells w.heap.size 0 [.int .u64 (kk.promised.toNat:Int), .int .u64 (kk.current.toNat:Int), .slice lla kk.lines.length llc] (.inr (Nat.le_refl _))).still AzH.out);have hset:=(aj.refl (ak Y) wr oj).drew.setCells w.heap.size 0 [.int .u64 (kk.promised.toNat:Int), .int .u64 (kk.current.toNat:Int), .slice lla kk.lines.length llc] (.inl (by show (oj w.heap.size).1=Y;rw [AjG.2.2]));have hlF:=ae (show Lines (wr.drew.setCells w.heap.size 0 [.int .u64 (kk.promised.toNat:Int), .int .u64 (kk.current.toNat:Int), .slice lla kk.lines.length llc]) (ext w o) w.heap.size (.slice lla kk.lines.length llc) kk.lines from
    (wY.step hset (fun h=>hnY (.inr (.inl h.symm))) (fun h=>hY0 h.symm)).lines (fun k hk=>by unfold ext;rw [if_neg (by omega)]))
   have hS:wr.heap[kb]?=some (.cells [.int .u64 (kk.promised.toNat:Int), .int .u64 (kk.current.toNat:Int), .slice lla kk.lines.length llc].toArray 37 (0,0)):=hb7;clear hso hb7 wY hst hset hsv hsb hrec hkl;go_wp2_with fail;refine Aa (fun w'=>w'.heap[kb]?=some (.cells [.int .u64 (kk.promised.toNat:Int), .int .u64 (kk.current.toNat:Int), .slice lla kk.lines.length llc].toArray 37 (0,0))) (fun i=>decide (i<3)) (by kernel_rfl) hS (fun hHeld => ?_);refine tq 0 (h:=?_);refine Dt (i:=1) (v := .agg [.int .u64 (kk.promised.toNat:Int), .int .u64 (kk.current.toNat:Int), .slice lla kk.lines.length llc].toArray) rfl (by kernel_rfl) (fun _ _ _ h=>h) (yieldsIf_load_mid rfl 37 (.tmp 7) rfl kb 0 rfl [.int .u64 (kk.promised.toNat:Int), .int .u64 (kk.current.toNat:Int), .slice lla kk.lines.length llc] _ (fun w h=>AV h) underlying37 rfl (by kernel_rfl)) (by assumption) ?_;simp only [Act.put,GL,DL,lss];refine tq 2 (h:=tO 3 (h:=?_));apply AC
   ·exact Aaz.out
   simp only [Act.put];go_wp2_with fail;refine ⟨fun h=>by simp at h, ?_⟩;refine tD (h:=?_);go_wp2_with fail;refine bodyPost_ret (JC rfl _ _ w.heap.size 37 _ (0,0) _ rfl AyT underlying37 rfl Ij) rfl ?_;exact ⟨_,ext w o,rfl,AaM.out.Me _ (fun k hk=>if_pos hk),_,rfl,hlF.out,rfl⟩
theorem Oe (hv:sH w o v bs.length vs) (hrb:Ey w o vs bs) (hbl:∀ b ∈ bs,b.length<=1000000) (hlen:bs.length<=300) (hm:DK bs=some (age,kf)) :
  Calls prog 123 #[v] w (XL ai w o fun r w' o'=>∃ lv,r = .tuple #[.int .u64 (age.toNat:Int),Dy kf.promised kf.current lv]/\Lines w' o' w.heap.size lv kf.lines/\o'=ext w o):=by
 cases bs with
 | nil =>
  obtain ⟨a,c,rfl⟩:=Aq hv
  cases hm
  exact Uw w o a c
 | cons b0 r=>exact Sv hv hrb hbl (by rw [List.length_cons] at hlen;omega) hm
end
theorem catch_idle (p q:Value) (w:World) :
  CallsD prog 120 #[p,q] .returning w fun e u' w'=>e = .returned (.tuple #[])/\u' = .returning/\w'=w:=by
 have hta:(Instr.typeAssert .nilIface 20 23 true).run prog w = .ok (.tuple #[.int .i64 0, .bool false]) w:=by kernel_rfl
 refine callsD_of_wpS func120 rfl fun c₀ cs hu => ?_;apply wpS_seq;apply wpS_region;simp [wpOpsS,go_sem,recoverD,hu,ntmps120,Exit.thenS,hta];apply wpS_seq;apply wpS_region;simp [wpOpsS,go_sem,Exit.thenS];refine wpS_cond (t:=false) (by simp [Act.eval,Array.replicate]) ?_;simp only [Bool.false_eq_true,if_false];refine wpS_of_wp (wp_skip ?_)
 cases c₀
 simp_all [bodyPostS,results]
section
variable {w:World} {o:Own} {D pd:Nat} {d:Af}
end
theorem Jk {P:Program} {fn:Func} {t t':Array Value} {R:Ending->World->Prop} (h:results fn t=results fn t'):∀ (ds:List Deferred) (u:FrameMode) (w:World),Leaves P fn t R ds u w->Leaves P fn t' R ds u w
 | [], .returning,w,hl=>by
  obtain ⟨v,h1,h2⟩:=hl;exact ⟨v,by rw [<-h];exact h1,h2⟩
 | [], .panicking chain,w,hl=>hl
 | [], .run,w,hl=>hl
 | d :: ds,u,w,hl=>by
  obtain ⟨h1,fv,cap,f,args,h2,h3,h4⟩:=hl;refine ⟨h1,fv,cap,f,args,h2,h3,h4.mono ?_⟩;intro e u' w' he
  cases e with
  | returned v=>exact Jk h ds _ _ he
  | panicked c=>exact Jk h ds _ _ he
  | outgrown=>exact he
theorem AQ {R:Ending->World->Prop} {c:List PanicEntry} {a:Act} {w:World} {d:Nat} {v:Value} (hd:d ≠ 2/\d ≠ 3) (h:bodyPostD prog Tryz.f90 R (.panic c) (a.put (some d) v) w):bodyPostD prog Tryz.f90 R (.panic c) a w:=by
 refine Jk ?_ _ _ _ h;have e2:(a.put (some d) v).tmps.getD 2 undef=a.tmps.getD 2 undef:=by simp [Act.put,hd.1]
 have e3:(a.put (some d) v).tmps.getD 3 undef=a.tmps.getD 3 undef:=by simp [Act.put,hd.2]
 simp only [results];simp [Act.put,Array.getElem?_setIfInBounds,hd.1,hd.2]
theorem UM {rs:List (List UInt8)} {k:AX} (h:DK rs=some (0,k)):k=⟨0,0,[]⟩:=by
 cases rs with
 | nil=>cases h;rfl
 | cons b r =>
  simp only [DK] at h
  cases hr:EF b with
  | none=>rw [hr] at h;cases h
  | some q =>
   obtain ⟨a,k'⟩:=q;rw [hr] at h;simp only [Option.map_eq_some_iff,Prod.mk.injEq] at h;obtain ⟨k2, -,rfl, -⟩:=h;unfold EF at hr;simp only at hr;split at hr
   ·rename_i hc;simp only [Option.some.injEq,Prod.mk.injEq] at hr;have:=hc.2.2;rw [hr.1] at this;simp at this
   ·cases hr
def PO (d:Af) (h:Nat) (a0 a1:Ad) (g0 g1:BitVec 64) (k0 k1:AX):AZ:=
 if g0.toNat<g1.toNat then ⟨a1,a0,d,h,g1,k1,false⟩ else ⟨a0,a1,d,h,g0,k0,false⟩
def OpenSt (w:World) (o:Own) (S A B D Y b2 ps pd base h:Nat) (d:Af) (a0 a1:Ad) (g0 g1:BitVec 64) (k0 k1:AX) (k:Nat):Prop:=
 ((w.heap[b2]?=some (.cells #[.pointer (some ⟨ps,0,none⟩)] 92 (0,0))/\o b2=(Y,0))/\(w.heap[b2+1]?=some (.cells #[.int .i64 0] 23 (0,0))/\o (b2+1)=(Y,0))/\Bg w o D pd d) /\
 ((k=0/\w.heap[ps]?=some (.cells (storeCells pd (.pointer none) (.pointer none) h 0 0 0 0 (.slice none 0 0) false).toArray 165 (0,0))/\o ps=(S,0)) \/
  (k=1/\∃ pa kv,(w.heap[ps]?=some (.cells (storeCells pd (.pointer (some ⟨pa,0,none⟩)) (.pointer none) h 0 g0 k0.promised k0.current kv false).toArray 165 (0,0))/\o ps=(S,0))/\Lines w o base kv k0.lines/\BZ w o A pa pd a0) \/
  (k=2/\Bi w o S A B D ps pd base (PO d h a0 a1 g0 g1 k0 k1)))
section
variable {w:World} {o:Own} {D pd:Nat} {d:Af}
theorem Yn {S A B Y H:Nat} {g0 g1:BitVec 64} {k0 k1:AX} (htg:[0,S,A,B,D,Y].Nodup) (hD:Bg w o D pd d) (hd:d.dead=false) (hrow:d.row.length<=1000000) (hn:8<=d.pages.length) (hn2:d.pages.length<=400) (hh:d.pages.length / 2=H)
  (hN0:Ad.newest (Ad.Aw d 0 H) ≠ BitVec.allOnes 64) (hN1:Ad.newest (Ad.Aw d H H) ≠ BitVec.allOnes 64)
  (hr0:DK (Ad.AY 0 (Ad.Aw d 0 H)).records=some (g0,k0)) (hr1:DK (Ad.AY H (Ad.Aw d H H)).records=some (g1,k1)) :
  Calls prog 90 #[.pointer (some ⟨pd,0,none⟩)] w (XL (fun t=>t=S \/ t=A \/ t=B) w o fun v w' o' =>
   ∃ ps,w.heap.size<=ps/\v = .tuple #[.pointer (some ⟨ps,0,none⟩), .int .i64 0]/\Bi w' o' S A B D ps pd w.heap.size (PO d H (Ad.AY 0 (Ad.Aw d 0 H)) (Ad.AY H (Ad.Aw d H H)) g0 g1 k0 k1)):=by
 have hmf:∀ (fn:Fn) (first cap:Array Value) (w:World),(Instr.makeFunc fn first cap).run prog w = .ok (.func fn first cap) w:=fun _ _ _ _=>rfl
 simp only [List.nodup_cons,List.mem_cons,List.not_mem_nil,or_false,not_or,List.nodup_nil,and_true,not_false_eq_true] at htg;have s1:=((aj.refl ai w o).alloc (.cells #[.pointer none] 92) (0,0)).alloc (.cells #[.int .i64 0] 23) (0,0);have hdd:=ae (Ic (hD.step s1 id));have hsz:=ae (size_any (hD.step s1 id));rw [hd] at hdd;have hnI:¬ (d.pages.length:Int)<8:=by omega
 have hwr:=ae (show ((d.pages.length:Int) / 2)=(H:Int) by omega);have t1:=(aj.refl ai w o).alloc (.cells #[.pointer (some ⟨w.heap.size+1+1,0,none⟩)] 92) (Y,0);have x1:(w.alloc (.cells #[.pointer (some ⟨w.heap.size+1+1,0,none⟩)] 92)).heap[w.heap.size]?=_:=heap_alloc_new w _;have z1:(w.alloc (.cells #[.pointer (some ⟨w.heap.size+1+1,0,none⟩)] 92)).heap.size=w.heap.size+1:=by simp
 have y1:Ak o w.heap.size (Y,0) w.heap.size=(Y,0):=Au _ _ _;obtain ⟨W1,hW1⟩:∃ W1,w.alloc (.cells #[.pointer (some ⟨w.heap.size+1+1,0,none⟩)] 92)=W1:=⟨_,rfl⟩;rw [hW1] at t1 x1 z1;generalize Ak o w.heap.size (Y,0)=o1 at *;have t2:=t1.alloc (.cells #[.int .i64 0] 23) (Y,0);have x2:(W1.alloc (.cells #[.int .i64 0] 23)).heap[W1.heap.size]?=_:=heap_alloc_new W1 _;have x12:=(Below.heap_alloc W1 (.cells #[.int .i64 0] 23) w.heap.size (by omega)).trans x1;have z2:(W1.alloc (.cells #[.int .i64 0] 23)).heap.size=w.heap.size+1+1:=by simp [z1]
 have y2:Ak o1 W1.heap.size (Y,0) W1.heap.size=(Y,0):=Au _ _ _;have y12:Ak o1 W1.heap.size (Y,0) w.heap.size=(Y,0):=by rw [BI _ _ (by omega)];exact y1
 rw [z1] at x2 y2 y12 t2;obtain ⟨W2,hW2⟩:∃ W2,W1.alloc (.cells #[.int .i64 0] 23)=W2:=⟨_,rfl⟩;rw [hW2] at t2 x2 x12 z2;generalize Ak o1 (w.heap.size+1) (Y,0)=o2 at *;have t3:=t2.alloc (.cells (storeCells pd (.pointer none) (.pointer none) H 0 0 0 0 (.slice none 0 0) false).toArray 165) (S,0);have x3:(W2.alloc (.cells (storeCells pd (.pointer none) (.pointer none) H 0 0 0 0 (.slice none 0 0) false).toArray 165)).heap[W2.heap.size]?=_:=heap_alloc_new W2 _;have x23:=(Below.heap_alloc W2 (.cells (storeCells pd (.pointer none) (.pointer none) H 0 0 0 0 (.slice none 0 0) false).toArray 165) (w.heap.size+1) (by omega)).trans x2;have x13:=(Below.heap_alloc W2 (.cells (storeCells pd (.pointer none) (.pointer none) H 0 0 0 0 (.slice none 0 0) false).toArray 165) w.heap.size (by omega)).trans x12;have y3:Ak o2 W2.heap.size (S,0) W2.heap.size=(S,0):=Au _ _ _;have y23:Ak o2 W2.heap.size (S,0) (w.heap.size+1)=(Y,0):=by rw [BI _ _ (by omega)];exact y2
 have y13:Ak o2 W2.heap.size (S,0) w.heap.size=(Y,0):=by rw [BI _ _ (by omega)];exact y12
 rw [z2] at x3 y3 y23 y13 t3;generalize Ak o2 (w.heap.size+1+1) (S,0)=o3 at *;obtain ⟨W3,hW3⟩:∃ W3,W2.alloc (.cells (storeCells pd (.pointer none) (.pointer none) H 0 0 0 0 (.slice none 0 0) false).toArray 165)=W3:=⟨_,rfl⟩;have hWW:((w.alloc (.cells #[.pointer (some ⟨w.heap.size+1+1,0,none⟩)] 92)).alloc (.cells #[.int .i64 0] 23)).alloc (.cells #[.pointer (some ⟨pd,0,none⟩), .pointer none, .pointer none, .int .i64 (H:Int), .int .i64 0, .int .u64 0, .int .u64 0, .int .u64 0, .slice none 0 0, .bool false] 165)=W3:=by rw [hW1,hW2, <-hW3];rfl
 rw [hW3] at t3 x3 x23 x13;have AvM:=ae hWW;obtain ⟨a0,ha0⟩:∃ a0,Ad.AY 0 (Ad.Aw d 0 H)=a0:=⟨_,rfl⟩;obtain ⟨a1,ha1⟩:∃ a1,Ad.AY H (Ad.Aw d H H)=a1:=⟨_,rfl⟩;rw [ha0] at hr0 ⊢;rw [ha1] at hr1 ⊢;have qH:OpenSt W3 o3 S A B D Y w.heap.size (w.heap.size+1+1) pd w.heap.size H d a0 a1 g0 g1 k0 k1 0:=⟨⟨⟨x13,y13⟩,⟨x23,y23⟩,hD.step t3 id⟩, .inl ⟨rfl,x3,y3⟩⟩;have Abe:=ae qH;have nD:=ae t3;have hDH:=ae hD;have Baz:=ae hN0;have Bay:=ae hN1;have AtO:=ae hr0;have Akg:=ae hr1;have pM:=ae hrow;have hhH:=ae hh;have AvI:=ae ha0;have AvH:=ae ha1;have AfR:=ae htg;have AbE:=ae hd;clear s1 t1 t2 t3 x1 x2 x3 x12 x23 x13 y1 y2 y3 y12 y23 y13 z1 z2 hW1 hW2 hW3 hWW qH hD hN0 hN1 hr0 hr1 hrow hh ha0 ha1 htg hd
 go_enter_defers func90,ntmps90
 go_wp2_with fail;refine hdd.out.mono ?_;rintro e w' ⟨rfl,rfl⟩;go_wp2_with fail;refine hsz.out.mono ?_;rintro e w' ⟨rfl,rfl⟩;go_wp2_with fail;refine hsz.out.mono ?_;rintro e w' ⟨rfl,rfl⟩;go_wp2_with fail;rw [hwr.out,AvM.out];clear hsz hdd hwr AvM;have hhI:(4:Int)<=(H:Int)/\(H:Int)<=200:=by have:=hhH.out;omega
 obtain ⟨ps,hps⟩:∃ ps,w.heap.size+1+1=ps:=⟨_,rfl⟩;have Aza:w.heap.size<=ps:=by omega
 rw [hps] at Abe ⊢;clear hps hnI
 go_loopw [26] (fun i wr=>∃ (k:Nat) (oj:Own),k<=2/\i = .int .i64 k/\OpenSt wr oj S A B D Y w.heap.size ps pd w.heap.size H d a0 a1 g0 g1 k0 k1 k/\aj (fun t=>t=S \/ t=A \/ t=B) w o wr oj) (fun i _=>2 - (intOf i).toNat)
 case atStart=>exact ⟨0,o3,by omega,rfl,Abe.out,nD.out.mono (fun _ h=>h.elim)⟩
 case round =>
  clear Abe nD;obtain ⟨k,oj,hk,rfl,⟨⟨⟨hb2,ho2⟩,⟨hb3,ho3⟩,hdk⟩,hcs⟩,hst⟩:=hrel;have c2:wr.cell? ⟨w.heap.size,0,none⟩=some (.pointer (some ⟨ps,0,none⟩)):=ag (cs:=[_]) hb2 0;have f2:wr.frozen? ⟨w.heap.size,0,none⟩=false:=Ap (cs:=[_]) hb2 0;have f3:wr.frozen? ⟨w.heap.size+1,0,none⟩=false:=Ap (cs:=[_]) hb3 0;have c3:wr.cell? ⟨w.heap.size+1,0,none⟩=some (.int .i64 0):=ag (cs:=[_]) hb3 0
  rcases hcs with ⟨rfl,hps,hops⟩ | ⟨rfl,pa,kv,⟨hps,hops⟩,hkv,hla⟩ | ⟨rfl,hfin⟩
  ·have cP3:wr.cell? ⟨ps,3,none⟩=some (.int .i64 (H:Int)):=ag hps 3;have wS:=au hps;have Aqj:¬ ps=w.heap.size:=by rintro rfl;rw [hops] at ho2;exact AfR.out.2.1.2.2.2 (Prod.mk.inj ho2).1
   have hG:=ae (aI (aI hb2 ho2) (aI (aI hb3 ho3) (aI hdk (aI hps hops))));have hS:=aI c2 cP3;have ApU:=ae hst
   skip
   have hop:=ae (fun (x:World) (ox:Own) (hx:aj ai wr oj x ox)=>UZ (L:=A) (D:=D) (fun h=>AfR.out.1.2.1 h.symm) (fun h=>AfR.out.1.2.2.2.1 h.symm) (fun h=>AfR.out.2.2.1.2.1 h) (hdk.step hx id) pM.out AbE.out (0:Nat) H (by have:=hhI;omega) (by have:=hhI;omega) (by have:=hhH.out;omega));clear hb2 hb3 hdk hps hst f3 c3 cP3 c2 f2;go_wp2_with fail;refine Aa (fun w'=>w'.cell? ⟨w.heap.size,0,none⟩=some (.pointer (some ⟨ps,0,none⟩))/\w'.cell? ⟨ps,3,none⟩=some (.int .i64 (H:Int))) (fun _=>true) (by kernel_rfl) hS (fun hHeld => ?_);refine tp 0 (h:=tp 1 (h:=tp 2 (h:=tp 3 (h:=tp 4 (h:=tp 5 (h:=tv 6 (.int .i64 0) (hy:=fun w hSw=>by (try dsimp only at hSw);go_simp;first | done | rfl | exact wrap_i64 (by omega) (by omega)) (hQ:=by exact fun _ _ _ h=>AQ (by decide) h) (h:=tp 7 (h:=tp 8 (h:=tp 9 (h:=tp 10 (h:=tO 11 (h:=?_))))))))))))
   go_wp2_with fail;have hdr:=(aj.refl ai wr oj).drew;refine (hop.out _ _ hdr).mono ?_;rintro e w1 ⟨v1,o1,rfl,hs1,AlI⟩;obtain ⟨pn, -,rfl,zW⟩:=AlI.2 Baz.out;rw [AvI.out] at zW;have hs1:aj (ak A) wr oj w1 o1:=(hdr.only A).trans hs1;clear AlI hHeld;have tg:=AfR.out;have u2:=(hs1.block _ (au hG.out.1.1) (by rw [hG.out.1.2];exact fun h=>tg.2.2.1.2.2 h.symm)).trans hG.out.1.1;have u3:=(hs1.block _ (au hG.out.2.1.1) (by rw [hG.out.2.1.2];exact fun h=>tg.2.2.1.2.2 h.symm)).trans hG.out.2.1.1;have up:=(hs1.block _ wS (by rw [hG.out.2.2.2.2];exact fun h=>tg.2.1.1 h)).trans hG.out.2.2.2.1;have hS1:=aI (ag (cs:=[_]) u2 0) (ag up 3);go_wp2_with fail;refine ⟨fun _=>hS1, ?_⟩;refine tp 12 (h:=tp 13 (h:=tp 14 (h:=tp 15 (h:=tp 16 (h:=tD (h:=?_))))));have z2:=(hs1.own _ (au hG.out.1.1)).trans hG.out.1.2;have z3:=(hs1.own _ (au hG.out.2.1.1)).trans hG.out.2.1.2;have zp:=(hs1.own _ wS).trans hG.out.2.2.2.2;have hd1:=hG.out.2.2.1.step hs1 (fun h=>tg.2.2.1.2.1 h.symm);have hst1:=ApU.out.trans (hs1.mono (T':=fun t=>t=S \/ t=A \/ t=B) (fun _ h => .inr (.inl h)));clear hop hs1;go_wp2_with fail;refine (Fq w1).mono ?_;rintro e w' ⟨rfl,rfl⟩;have hset:=(aj.refl (ak S) w1 o1).setCell (a:=⟨ps,1,none⟩) (.pointer (some ⟨pn,0,none⟩)) (.inl (by show (o1 ps).1=S;rw [zp]));have up2:(w1.setCell ⟨ps,1,none⟩ (.pointer (some ⟨pn,0,none⟩))).heap[ps]?=some (.cells (storeCells pd (.pointer (some ⟨pn,0,none⟩)) (.pointer none) H 0 0 0 0 (.slice none 0 0) false).toArray 165 (0,0)):=Ai (i:=1) _ up;have Aef:w.heap.size ≠ ps:=by rintro rfl;rw [zp] at z2;exact tg.2.1.2.2.2 (Prod.mk.inj z2).1
   have AhR:w.heap.size+1 ≠ ps:=by intro h;rw [h,zp] at z3;exact tg.2.1.2.2.2 (Prod.mk.inj z3).1
   have u22:=(Below.heap_setCell w1 ⟨ps,1,none⟩ (.pointer (some ⟨pn,0,none⟩)) w.heap.size Aef).trans u2;have u32:=(Below.heap_setCell w1 ⟨ps,1,none⟩ (.pointer (some ⟨pn,0,none⟩)) (w.heap.size+1) AhR).trans u3;have Aeg:=zW.step hset (fun h=>tg.2.1.1 h.symm) (fun h=>tg.1.1 h);have hd2:=hd1.step hset (fun h=>tg.2.1.2.2.1 h.symm);have hst2:=hst1.setCell (a:=⟨ps,1,none⟩) (.pointer (some ⟨pn,0,none⟩)) (.inl (by show (o1 ps).1=S \/ _;rw [zp];exact .inl rfl));have q1:=hS1.1;have q2:w1.frozen? ⟨ps,1,none⟩=false:=Ap up 1;have q3:=ag up 1;obtain ⟨W2,hw2⟩:∃ W2,w1.setCell ⟨ps,1,none⟩ (.pointer (some ⟨pn,0,none⟩))=W2:=⟨_,rfl⟩;rw [hw2] at up2 u22 u32 Aeg hd2 hst2;have AiU:=ae hw2;have Amr:=ae (Qs Aeg _ rfl);have hwf:=Aeg;obtain ⟨-, -, -, -, -, -, -,hwf⟩:=hwf;clear hset hw2 hS1 up u2 u3 zW hd1 hst1;go_wp2_with fail;rw [AiU.out];refine Amr.out.mono ?_;rintro e w3 ⟨v3,o3',rfl,hs3,vs,hown, -,hrb,hz⟩;have Alq:sH w3 o3' v3 a0.records.length vs:=XG hown (fun k hk=>by rw [hz k (hown.lt k hk).1]);have hrl:a0.records.length<=300:=by
    have h1:=hwf.2.2.2.2.1;have h2:=hwf.2.2.2.2.2.1;have h3:a0.n=H:=by rw [<-AvI.out];exact Ad.Bq _ _ _
    have:=hhI;omega
   have hrep:=Oe Alq hrb (fun b hb=>Nat.le_trans (hwf.2.2.2.2.2.2 b hb) (by omega)) hrl AtO.out;simp only [Dy] at hrep;have AhQ:=ae hrep;clear hrep Alq hown hrb hz Amr;go_wp2_with fail;refine AhQ.out.mono ?_;rintro e w4 ⟨v4,o4,rfl,hs4,lv,rfl,hl4, -⟩;clear AhQ;have s34:=hs3.trans hs4;have hal:=ae (AB (P:=prog) w4 37 _ LX);have s5a:=(aj.refl ai w4 o4).alloc (.cells #[.int .u64 0, .int .u64 0, .slice none 0 0] 37) (Y,0);have b5a:(w4.alloc (.cells #[.int .u64 0, .int .u64 0, .slice none 0 0] 37)).heap[w4.heap.size]?=some (.cells [.int .u64 0, .int .u64 0, .slice none 0 0].toArray 37 (0,0)):=heap_alloc_new w4 _;have y5a:Ak o4 w4.heap.size (Y,0) w4.heap.size=(Y,0):=Au _ _ _;obtain ⟨lla,llc,hlv⟩:=hl4.form;obtain ⟨hso,hsb⟩:=Ba (P:=prog) (ty:=37) (vs:=[.int .u64 (k0.promised.toNat:Int), .int .u64 (k0.current.toNat:Int),lv]) b5a rfl (by kernel_rfl) (by rw [hlv];rfl);have Aaz:=ae hso;have s5:=(s5a.mono (T':=ak Y) (fun _ h=>h.elim)).setCells w4.heap.size 0 [.int .u64 (k0.promised.toNat:Int), .int .u64 (k0.current.toNat:Int),lv] (.inl (by show (Ak o4 w4.heap.size (Y,0) w4.heap.size).1=Y;rw [y5a]));have hst5:=(hst2.trans (s34.mono (T':=fun t=>t=S \/ t=A \/ t=B) (fun _ h=>h.elim))).trans ((s5a.mono (T':=fun t=>t=S \/ t=A \/ t=B) (fun _ h=>h.elim)).setCells w4.heap.size 0 [.int .u64 (k0.promised.toNat:Int), .int .u64 (k0.current.toNat:Int),lv] (.inr (Nat.le_refl _)));generalize Ak o4 w4.heap.size (Y,0)=o5 at *;obtain ⟨W5,hW5⟩:∃ W5,(w4.alloc (.cells #[.int .u64 0, .int .u64 0, .slice none 0 0] 37)).setCells w4.heap.size 0 [.int .u64 (k0.promised.toNat:Int), .int .u64 (k0.current.toNat:Int),lv]=W5:=⟨_,rfl⟩;rw [hW5] at Aaz hsb s5 hst5;have e5:=(hs4.block w.heap.size (au ((hs3.block _ (au u22) id).trans u22)) id).trans ((hs3.block _ (au u22) id).trans u22);have e53:=(hs4.block (w.heap.size+1) (au ((hs3.block _ (au u32) id).trans u32)) id).trans ((hs3.block _ (au u32) id).trans u32);have e5p:=(hs4.block ps (au ((hs3.block _ (au up2) id).trans up2)) id).trans ((hs3.block _ (au up2) id).trans up2);have Ahm:∀ k,k<w4.heap.size->W5.heap[k]?=w4.heap[k]?:=fun k hk=>by
    rw [<-hW5,ah _ _ _ _ _ (by omega)];exact Below.heap_alloc _ _ _ hk
   have e5:=(Ahm _ (au e5)).trans e5;have e53:=(Ahm _ (au e53)).trans e53;have AfV:w4.heap.size ≠ ps:=by have:=au e5p;omega
   have h28:w.heap.size ≠ w4.heap.size:=by have:=hst2.size;have:=s34.size;have:=au u22;omega
   have e5p:=(Ahm _ (au e5p)).trans e5p;have Aez:=(s34.only Y).trans s5;have z25:=(Aez.own _ (au u22)).trans z2;have z35:=(Aez.own _ (au u32)).trans z3;have zp5:=(Aez.own _ (au up2)).trans zp;have AhY:=Aeg.step Aez (fun h=>tg.2.2.1.2.2 h) (fun h=>tg.1.2.2.2.2 h);have hd5:=hd2.step Aez (fun h=>tg.2.2.2.2 h);have hl5:=(hl4.step s5 (fun h=>tg.1.2.2.2.2 h)).low (Nat.le_trans hst2.size hs3.size);have hG5:=ae (aI (aI e5 z25) (aI e53 z35));have hA5:=ae (aI zp5 (aI AhY (aI hd5 (aI hl5 hst5))));have hbK:=ae hsb;have pH:=ae e5p;have c5:=ag (cs:=[_]) e5 0;have p55:W5.cell? ⟨ps,5,none⟩=some (.int .u64 0):=by simpa [storeCells] using ag e5p 5
   obtain ⟨b8,hb8⟩:∃ b8,w4.heap.size=b8:=⟨_,rfl⟩;rw [hb8] at hal Aaz hbK AfV h28;have Aki:=ae hlv;clear hlv hso s5a s5 b5a y5a hsb hst5 hW5 Ahm e5 e53 e5p Aez z25 z35 zp5 AhY hd5 hl5 hl4 s34 hs3 hs4 Aeg hd2 hst2 u22 u32 up2 z2 z3 zp q1 q2 q3 AiU W2 hb8
   by_cases hc:0<g0.toNat
   ·have hcb:decide (0<g0.toNat)=true:=decide_eq_true hc
    go_wp2_with (first
     | ((with_reducible apply AU);exact hal.out;simp only [Act.put,GL,DL,lss])
     | ((with_reducible apply AC);exact Aaz.out;simp only [Act.put]))
    have p0:(W5.drew).heap[ps]?=some (.cells (storeCells pd (.pointer (some ⟨pn,0,none⟩)) (.pointer none) H 0 0 0 0 (.slice none 0 0) false).toArray 165 (0,0)):=pH.out;have p1:=Ai (i:=4) (.int .i64 0) p0;have p2:=Ai (i:=5) (.int .u64 (g0.toNat:Int)) p1;have p3:((((W5.drew).setCell ⟨ps,4,none⟩ (.int .i64 0)).setCell ⟨ps,5,none⟩ (.int .u64 (g0.toNat:Int))).setCells ps 6 [.int .u64 (k0.promised.toNat:Int), .int .u64 (k0.current.toNat:Int),lv]).heap[ps]?=some (.cells (storeCells pd (.pointer (some ⟨pn,0,none⟩)) (.pointer none) H 0 g0 k0.promised k0.current lv false).toArray 165 (0,0)):=BP ps 165 _ 6 _ _ p2 (by simp [storeCells]);have AfS:=ae (run_storeAt_mid (P:=prog) (((W5.drew).setCell ⟨ps,4,none⟩ (.int .i64 0)).setCell ⟨ps,5,none⟩ (.int .u64 (g0.toNat:Int))) ps 6 37 #[.int .u64 (k0.promised.toNat:Int), .int .u64 (k0.current.toNat:Int),lv] (Dh p2 6 3 (by simp [storeCells])) Ij (by rw [Aki.out];simp [Value.oneCell']));have zp5:=hA5.out.1;have Acs:=(((aj.refl (ak S) W5 o5).drew.setCell (a:=⟨ps,4,none⟩) (.int .i64 0) (.inl (by show (o5 ps).1=S;rw [zp5]))).setCell (a:=⟨ps,5,none⟩) (.int .u64 (g0.toNat:Int)) (.inl (by show (o5 ps).1=S;rw [zp5]))).setCells ps 6 [.int .u64 (k0.promised.toNat:Int), .int .u64 (k0.current.toNat:Int),lv] (.inl (by show (o5 ps).1=S;rw [zp5]));have v2:=(Acs.block _ (au hG5.out.1.1) (by rw [hG5.out.1.2];exact fun h=>tg.2.1.2.2.2 h.symm)).trans hG5.out.1.1;have v3':=(Acs.block _ (au hG5.out.2.1) (by rw [hG5.out.2.2];exact fun h=>tg.2.1.2.2.2 h.symm)).trans hG5.out.2.1;have AmE:=ae (show OpenSt ((((W5.drew).setCell ⟨ps,4,none⟩ (.int .i64 0)).setCell ⟨ps,5,none⟩ (.int .u64 (g0.toNat:Int))).setCells ps 6 [.int .u64 (k0.promised.toNat:Int), .int .u64 (k0.current.toNat:Int),lv]) o5 S A B D Y w.heap.size ps pd w.heap.size H d a0 a1 g0 g1 k0 k1 1 from
     ⟨⟨⟨v2,hG5.out.1.2⟩,⟨v3',hG5.out.2.2⟩,hA5.out.2.2.1.step Acs (fun h=>tg.2.1.2.2.1 h.symm)⟩, .inr (.inl ⟨rfl,pn,lv,⟨p3,zp5⟩,hA5.out.2.2.2.1.step Acs (fun h=>tg.1.1 h),hA5.out.2.1.step Acs (fun h=>tg.2.1.1 h.symm) (fun h=>tg.1.1 h)⟩)⟩)
    have pW:=ae (hA5.out.2.2.2.2.trans (Acs.mono (T':=fun t=>t=S \/ t=A \/ t=B) (fun _ h => .inl h)));have f54:(W5.drew).frozen? ⟨ps,4,none⟩=false:=Ap p0 4;have f55:(W5.drew).frozen? ⟨ps,5,none⟩=false:=Ap p0 5;have c54:=ag p0 4;have c55:=ag p0 5;simp only [storeCells,ax,ay] at c54 c55;have d2:(W5.drew).heap[w.heap.size]?=_:=hG5.out.1.1;have d8:(W5.drew).heap[b8]?=_:=hbK.out;have d21:=(Below.heap_setCell (W5.drew) ⟨ps,4,none⟩ (.int .i64 0) w.heap.size Aef).trans d2;have d81:=(Below.heap_setCell (W5.drew) ⟨ps,4,none⟩ (.int .i64 0) b8 AfV).trans d8;have d22:=(Below.heap_setCell ((W5.drew).setCell ⟨ps,4,none⟩ (.int .i64 0)) ⟨ps,5,none⟩ (.int .u64 (g0.toNat:Int)) w.heap.size Aef).trans d21;have d82:=(Below.heap_setCell ((W5.drew).setCell ⟨ps,4,none⟩ (.int .i64 0)) ⟨ps,5,none⟩ (.int .u64 (g0.toNat:Int)) b8 AfV).trans d81;have d23:=(ah ps [.int .u64 (k0.promised.toNat:Int), .int .u64 (k0.current.toNat:Int),lv] 6 (((W5.drew).setCell ⟨ps,4,none⟩ (.int .i64 0)).setCell ⟨ps,5,none⟩ (.int .u64 (g0.toNat:Int))) w.heap.size Aef).trans d22;have d83:=(ah ps [.int .u64 (k0.promised.toNat:Int), .int .u64 (k0.current.toNat:Int),lv] 6 (((W5.drew).setCell ⟨ps,4,none⟩ (.int .i64 0)).setCell ⟨ps,5,none⟩ (.int .u64 (g0.toNat:Int))) b8 AfV).trans d82;have Ajm:W5.drew.cell? ⟨w.heap.size,0,none⟩=some (.pointer (some ⟨ps,0,none⟩))/\W5.drew.heap[b8]?=some (.cells [.int .u64 (k0.promised.toNat:Int), .int .u64 (k0.current.toNat:Int),lv].toArray 37 (0,0)):=aI c5 hbK.out;have hS8:((W5.drew).setCell ⟨ps,4,none⟩ (.int .i64 0)).cell? ⟨w.heap.size,0,none⟩=some (.pointer (some ⟨ps,0,none⟩))/\((W5.drew).setCell ⟨ps,4,none⟩ (.int .i64 0)).heap[b8]?=some (.cells [.int .u64 (k0.promised.toNat:Int), .int .u64 (k0.current.toNat:Int),lv].toArray 37 (0,0)):=aI (ag (cs:=[_]) d21 0) d81;have AcA:(((W5.drew).setCell ⟨ps,4,none⟩ (.int .i64 0)).setCell ⟨ps,5,none⟩ (.int .u64 (g0.toNat:Int))).cell? ⟨w.heap.size,0,none⟩=some (.pointer (some ⟨ps,0,none⟩))/\(((W5.drew).setCell ⟨ps,4,none⟩ (.int .i64 0)).setCell ⟨ps,5,none⟩ (.int .u64 (g0.toNat:Int))).heap[b8]?=some (.cells [.int .u64 (k0.promised.toNat:Int), .int .u64 (k0.current.toNat:Int),lv].toArray 37 (0,0)):=aI (ag (cs:=[_]) d22 0) d82;have Afb:((((W5.drew).setCell ⟨ps,4,none⟩ (.int .i64 0)).setCell ⟨ps,5,none⟩ (.int .u64 (g0.toNat:Int))).setCells ps 6 [.int .u64 (k0.promised.toNat:Int), .int .u64 (k0.current.toNat:Int),lv]).cell? ⟨w.heap.size,0,none⟩=some (.pointer (some ⟨ps,0,none⟩))/\((((W5.drew).setCell ⟨ps,4,none⟩ (.int .i64 0)).setCell ⟨ps,5,none⟩ (.int .u64 (g0.toNat:Int))).setCells ps 6 [.int .u64 (k0.promised.toNat:Int), .int .u64 (k0.current.toNat:Int),lv]).heap[b8]?=some (.cells [.int .u64 (k0.promised.toNat:Int), .int .u64 (k0.current.toNat:Int),lv].toArray 37 (0,0)):=aI (ag (cs:=[_]) d23 0) d83;clear p0 p1 p2 p3 Acs v2 v3' zp5 d2 d8 d21 d81 d22 d82 d23 d83 hcb p55 Aaz hal pH c5 Aqj Aef AhR AfV h28;obtain ⟨V,hV⟩:∃ V,W5.drew=V:=⟨_,rfl⟩;rw [hV] at AmE pW f54 f55 c54 c55 Ajm hS8 AcA Afb AfS;have Arp:=ae hS8;have AmA:=ae AcA;have Amz:=ae Afb;clear hS8 AcA Afb;refine Aa (fun w'=>w'.cell? ⟨w.heap.size,0,none⟩=some (.pointer (some ⟨ps,0,none⟩))/\w'.heap[b8]?=some (.cells [.int .u64 (k0.promised.toNat:Int), .int .u64 (k0.current.toNat:Int),lv].toArray 37 (0,0))) (fun _=>true) (by kernel_rfl) (by rw [hV];exact Ajm) (fun hHeld => ?_);clear hHeld;rw [hV];clear hV;have Ars:=Ajm;refine tp 0 (h:=tp 1 (h:=tp 2 (h:=tp 3 (h:=tp 4 (h:=?_)))));refine Dt (i:=5) (v := .agg [.int .u64 (k0.promised.toNat:Int), .int .u64 (k0.current.toNat:Int),lv].toArray) rfl (by kernel_rfl) (fun _ _ _ h=>AQ (by decide) h) (yieldsIf_load_mid rfl 37 (.tmp 8) rfl b8 0 rfl [.int .u64 (k0.promised.toNat:Int), .int .u64 (k0.current.toNat:Int),lv] _ (fun w h=>AV h.2) underlying37 rfl (by kernel_rfl)) (by assumption) ?_;simp only [Act.put,GL,DL,lss];refine tp 6 (h:=tp 7 (h:=tO 8 (h:=?_)));go_wp2_with fail;have hS8:=Arp.out
    first | refine ⟨fun _=>hS8, ?_⟩ | refine ⟨hS8.2, ?_⟩
    refine tp 9 (h:=tp 10 (h:=tO 11 (h:=?_)));go_wp2_with fail;have AcA:=AmA.out
    first | refine ⟨fun _=>AcA, ?_⟩ | refine ⟨AcA.2, ?_⟩
    refine tp 12 (h:=tp 13 (h:=tO 14 (h:=?_)));apply AC
    ·exact AfS.out
    simp only [Act.put];go_wp2_with fail;have Afb:=Amz.out
    first | refine ⟨fun _=>Afb, ?_⟩ | refine ⟨Afb.2, ?_⟩
    refine tD (h:=?_);go_wp2_with fail;go_roundw
    case rel=>exact ⟨1,o5,by omega,by first | rfl | go_num,AmE.out,pW.out⟩
    case measure=>simp [intOf]
   ·have hcb:decide (0<g0.toNat)=false:=decide_eq_false hc
    go_wp2_with (first
     | ((with_reducible apply AU);exact hal.out;simp only [Act.put,GL,DL,lss])
     | ((with_reducible apply AC);exact Aaz.out;simp only [Act.put]))
    have hg0:g0=0:=BitVec.eq_of_toNat_eq (by have:(0:BitVec 64).toNat=0:=rfl;omega);have hk0:k0=⟨0,0,[]⟩:=UM (by rw [<-hg0];exact AtO.out);refine ⟨⟨1,o5,by omega,rfl,⟨⟨⟨hG5.out.1.1,hG5.out.1.2⟩,⟨hG5.out.2.1,hG5.out.2.2⟩,hA5.out.2.2.1⟩, .inr (.inl ⟨rfl,pn, .slice none 0 0,⟨by rw [hg0,hk0];exact pH.out,hA5.out.1⟩,by rw [hk0];exact Lines.nil _ _ _,hA5.out.2.1⟩)⟩,hA5.out.2.2.2.2⟩,by simp [intOf]⟩
  ·have cP3:wr.cell? ⟨ps,3,none⟩=some (.int .i64 (H:Int)):=ag hps 3;have wS:=au hps;have Aqj:¬ ps=w.heap.size:=by rintro rfl;rw [hops] at ho2;exact AfR.out.2.1.2.2.2 (Prod.mk.inj ho2).1
   have hG:=ae (aI (aI hb2 ho2) (aI (aI hb3 ho3) (aI hdk (aI hps hops))));have hS:=aI c2 cP3;have ApU:=ae hst;have sS:=ae hla;have Azw:=ae hkv;clear hla hkv;have hop:=ae (fun (x:World) (ox:Own) (hx:aj ai wr oj x ox)=>UZ (L:=B) (D:=D) (fun h=>AfR.out.1.2.2.1 h.symm) (fun h=>AfR.out.1.2.2.2.1 h.symm) (fun h=>AfR.out.2.2.2.1.1 h) (hdk.step hx id) pM.out AbE.out (H) H (by have:=hhI;omega) (by have:=hhI;omega) (by have:=hhH.out;omega));clear hb2 hb3 hdk hps hst f3 c3 cP3 c2 f2;go_wp2_with fail;refine Aa (fun w'=>w'.cell? ⟨w.heap.size,0,none⟩=some (.pointer (some ⟨ps,0,none⟩))/\w'.cell? ⟨ps,3,none⟩=some (.int .i64 (H:Int))) (fun _=>true) (by kernel_rfl) hS (fun hHeld => ?_);refine tp 0 (h:=tp 1 (h:=tp 2 (h:=tp 3 (h:=tp 4 (h:=tp 5 (h:=tv 6 (.int .i64 (H:Int)) (hy:=fun w hSw=>by (try dsimp only at hSw);go_simp;first | done | rfl | exact wrap_i64 (by omega) (by omega)) (hQ:=by exact fun _ _ _ h=>AQ (by decide) h) (h:=tp 7 (h:=tp 8 (h:=tp 9 (h:=tp 10 (h:=tO 11 (h:=?_))))))))))))
   go_wp2_with fail;have hdr:=(aj.refl ai wr oj).drew;refine (hop.out _ _ hdr).mono ?_;rintro e w1 ⟨v1,o1,rfl,hs1,AlI⟩;obtain ⟨pn, -,rfl,zW⟩:=AlI.2 Bay.out;rw [AvH.out] at zW;have hs1:aj (ak B) wr oj w1 o1:=(hdr.only B).trans hs1;clear AlI hHeld;have tg:=AfR.out;have u2:=(hs1.block _ (au hG.out.1.1) (by rw [hG.out.1.2];exact fun h=>tg.2.2.2.1.2 h.symm)).trans hG.out.1.1;have u3:=(hs1.block _ (au hG.out.2.1.1) (by rw [hG.out.2.1.2];exact fun h=>tg.2.2.2.1.2 h.symm)).trans hG.out.2.1.1;have up:=(hs1.block _ wS (by rw [hG.out.2.2.2.2];exact fun h=>tg.2.1.2.1 h)).trans hG.out.2.2.2.1;have hS1:=aI (ag (cs:=[_]) u2 0) (ag up 3);go_wp2_with fail;refine ⟨fun _=>hS1, ?_⟩;refine tp 12 (h:=tp 13 (h:=tp 14 (h:=tp 15 (h:=tp 16 (h:=tD (h:=?_))))));have z2:=(hs1.own _ (au hG.out.1.1)).trans hG.out.1.2;have z3:=(hs1.own _ (au hG.out.2.1.1)).trans hG.out.2.1.2;have zp:=(hs1.own _ wS).trans hG.out.2.2.2.2;have hd1:=hG.out.2.2.1.step hs1 (fun h=>tg.2.2.2.1.1 h.symm);have AuH:=sS.out.step hs1 (fun h=>tg.2.2.1.1 h) (fun h=>tg.1.2.2.1 h);have AuM:=Azw.out.step hs1 (fun h=>tg.1.2.2.1 h);have hst1:=ApU.out.trans (hs1.mono (T':=fun t=>t=S \/ t=A \/ t=B) (fun _ h => .inr (.inr h)));clear hop hs1;go_wp2_with fail;refine (Fq w1).mono ?_;rintro e w' ⟨rfl,rfl⟩;have hset:=(aj.refl (ak S) w1 o1).setCell (a:=⟨ps,2,none⟩) (.pointer (some ⟨pn,0,none⟩)) (.inl (by show (o1 ps).1=S;rw [zp]));have up2:(w1.setCell ⟨ps,2,none⟩ (.pointer (some ⟨pn,0,none⟩))).heap[ps]?=some (.cells (storeCells pd (.pointer (some ⟨pa,0,none⟩)) (.pointer (some ⟨pn,0,none⟩)) H 0 g0 k0.promised k0.current kv false).toArray 165 (0,0)):=Ai (i:=2) _ up;have Aef:w.heap.size ≠ ps:=by rintro rfl;rw [zp] at z2;exact tg.2.1.2.2.2 (Prod.mk.inj z2).1
   have AhR:w.heap.size+1 ≠ ps:=by intro h;rw [h,zp] at z3;exact tg.2.1.2.2.2 (Prod.mk.inj z3).1
   have u22:=(Below.heap_setCell w1 ⟨ps,2,none⟩ (.pointer (some ⟨pn,0,none⟩)) w.heap.size Aef).trans u2;have u32:=(Below.heap_setCell w1 ⟨ps,2,none⟩ (.pointer (some ⟨pn,0,none⟩)) (w.heap.size+1) AhR).trans u3;have Aeg:=zW.step hset (fun h=>tg.2.1.2.1 h.symm) (fun h=>tg.1.1 h);have hd2:=hd1.step hset (fun h=>tg.2.1.2.2.1 h.symm);have AqF:=AuH.step hset (fun h=>tg.2.1.1 h.symm) (fun h=>tg.1.1 h);have AqI:=AuM.step hset (fun h=>tg.1.1 h);have hst2:=hst1.setCell (a:=⟨ps,2,none⟩) (.pointer (some ⟨pn,0,none⟩)) (.inl (by show (o1 ps).1=S \/ _;rw [zp];exact .inl rfl));have q1:=hS1.1;have q2:w1.frozen? ⟨ps,2,none⟩=false:=Ap up 2;have q3:=ag up 2;obtain ⟨W2,hw2⟩:∃ W2,w1.setCell ⟨ps,2,none⟩ (.pointer (some ⟨pn,0,none⟩))=W2:=⟨_,rfl⟩;rw [hw2] at up2 u22 u32 Aeg hd2 hst2 AqF AqI;have AiU:=ae hw2;have Amr:=ae (Qs Aeg _ rfl);have hwf:=Aeg;obtain ⟨-, -, -, -, -, -, -,hwf⟩:=hwf;clear hset hw2 hS1 up u2 u3 zW hd1 hst1 AuH AuM;go_wp2_with fail;rw [AiU.out];refine Amr.out.mono ?_;rintro e w3 ⟨v3,o3',rfl,hs3,vs,hown, -,hrb,hz⟩;have Alq:sH w3 o3' v3 a1.records.length vs:=XG hown (fun k hk=>by rw [hz k (hown.lt k hk).1]);have hrl:a1.records.length<=300:=by
    have h1:=hwf.2.2.2.2.1;have h2:=hwf.2.2.2.2.2.1;have h3:a1.n=H:=by rw [<-AvH.out];exact Ad.Bq _ _ _
    have:=hhI;omega
   have hrep:=Oe Alq hrb (fun b hb=>Nat.le_trans (hwf.2.2.2.2.2.2 b hb) (by omega)) hrl Akg.out;simp only [Dy] at hrep;have AhQ:=ae hrep;clear hrep Alq hown hrb hz Amr;go_wp2_with fail;refine AhQ.out.mono ?_;rintro e w4 ⟨v4,o4,rfl,hs4,lv,rfl,hl4, -⟩;clear AhQ;have s34:=hs3.trans hs4;have hal:=ae (AB (P:=prog) w4 37 _ LX);have s5a:=(aj.refl ai w4 o4).alloc (.cells #[.int .u64 0, .int .u64 0, .slice none 0 0] 37) (Y,0);have b5a:(w4.alloc (.cells #[.int .u64 0, .int .u64 0, .slice none 0 0] 37)).heap[w4.heap.size]?=some (.cells [.int .u64 0, .int .u64 0, .slice none 0 0].toArray 37 (0,0)):=heap_alloc_new w4 _;have y5a:Ak o4 w4.heap.size (Y,0) w4.heap.size=(Y,0):=Au _ _ _;obtain ⟨lla,llc,hlv⟩:=hl4.form;obtain ⟨hso,hsb⟩:=Ba (P:=prog) (ty:=37) (vs:=[.int .u64 (k1.promised.toNat:Int), .int .u64 (k1.current.toNat:Int),lv]) b5a rfl (by kernel_rfl) (by rw [hlv];rfl);have Aaz:=ae hso;have s5:=(s5a.mono (T':=ak Y) (fun _ h=>h.elim)).setCells w4.heap.size 0 [.int .u64 (k1.promised.toNat:Int), .int .u64 (k1.current.toNat:Int),lv] (.inl (by show (Ak o4 w4.heap.size (Y,0) w4.heap.size).1=Y;rw [y5a]));have hst5:=(hst2.trans (s34.mono (T':=fun t=>t=S \/ t=A \/ t=B) (fun _ h=>h.elim))).trans ((s5a.mono (T':=fun t=>t=S \/ t=A \/ t=B) (fun _ h=>h.elim)).setCells w4.heap.size 0 [.int .u64 (k1.promised.toNat:Int), .int .u64 (k1.current.toNat:Int),lv] (.inr (Nat.le_refl _)));generalize Ak o4 w4.heap.size (Y,0)=o5 at *;obtain ⟨W5,hW5⟩:∃ W5,(w4.alloc (.cells #[.int .u64 0, .int .u64 0, .slice none 0 0] 37)).setCells w4.heap.size 0 [.int .u64 (k1.promised.toNat:Int), .int .u64 (k1.current.toNat:Int),lv]=W5:=⟨_,rfl⟩;rw [hW5] at Aaz hsb s5 hst5;have e5:=(hs4.block w.heap.size (au ((hs3.block _ (au u22) id).trans u22)) id).trans ((hs3.block _ (au u22) id).trans u22);have e53:=(hs4.block (w.heap.size+1) (au ((hs3.block _ (au u32) id).trans u32)) id).trans ((hs3.block _ (au u32) id).trans u32);have e5p:=(hs4.block ps (au ((hs3.block _ (au up2) id).trans up2)) id).trans ((hs3.block _ (au up2) id).trans up2);have Ahm:∀ k,k<w4.heap.size->W5.heap[k]?=w4.heap[k]?:=fun k hk=>by
    rw [<-hW5,ah _ _ _ _ _ (by omega)];exact Below.heap_alloc _ _ _ hk
   have e5:=(Ahm _ (au e5)).trans e5;have e53:=(Ahm _ (au e53)).trans e53;have AfV:w4.heap.size ≠ ps:=by have:=au e5p;omega
   have h28:w.heap.size ≠ w4.heap.size:=by have:=hst2.size;have:=s34.size;have:=au u22;omega
   have e5p:=(Ahm _ (au e5p)).trans e5p;have Aez:=(s34.only Y).trans s5;have z25:=(Aez.own _ (au u22)).trans z2;have z35:=(Aez.own _ (au u32)).trans z3;have zp5:=(Aez.own _ (au up2)).trans zp;have AhY:=Aeg.step Aez (fun h=>tg.2.2.2.1.2 h) (fun h=>tg.1.2.2.2.2 h);have hd5:=hd2.step Aez (fun h=>tg.2.2.2.2 h);have rU:=AqF.step Aez (fun h=>tg.2.2.1.2.2 h) (fun h=>tg.1.2.2.2.2 h);have AuL:=AqI.step Aez (fun h=>tg.1.2.2.2.2 h);have hB5:=ae (aI rU AuL);have hl5:=(hl4.step s5 (fun h=>tg.1.2.2.2.2 h)).low (Nat.le_trans hst2.size hs3.size);have hG5:=ae (aI (aI e5 z25) (aI e53 z35));have hA5:=ae (aI zp5 (aI AhY (aI hd5 (aI hl5 hst5))));have hbK:=ae hsb;have pH:=ae e5p;have c5:=ag (cs:=[_]) e5 0;have p55:W5.cell? ⟨ps,5,none⟩=some (.int .u64 (g0.toNat:Int)):=by simpa [storeCells] using ag e5p 5
   obtain ⟨b8,hb8⟩:∃ b8,w4.heap.size=b8:=⟨_,rfl⟩;rw [hb8] at hal Aaz hbK AfV h28;have Aki:=ae hlv;clear hlv hso s5a s5 b5a y5a hsb hst5 hW5 Ahm e5 e53 e5p Aez z25 z35 zp5 AhY hd5 hl5 hl4 s34 hs3 hs4 Aeg hd2 hst2 u22 u32 up2 z2 z3 zp q1 q2 q3 AiU W2 hb8 rU AuL AqF AqI
   by_cases hc:g0.toNat<g1.toNat
   ·have hcb:decide (g0.toNat<g1.toNat)=true:=decide_eq_true hc
    go_wp2_with (first
     | ((with_reducible apply AU);exact hal.out;simp only [Act.put,GL,DL,lss])
     | ((with_reducible apply AC);exact Aaz.out;simp only [Act.put]))
    have p0:(W5.drew).heap[ps]?=some (.cells (storeCells pd (.pointer (some ⟨pa,0,none⟩)) (.pointer (some ⟨pn,0,none⟩)) H 0 g0 k0.promised k0.current kv false).toArray 165 (0,0)):=pH.out;have p1:=Ai (i:=4) (.int .i64 1) p0;have p2:=Ai (i:=5) (.int .u64 (g1.toNat:Int)) p1;have p3:((((W5.drew).setCell ⟨ps,4,none⟩ (.int .i64 1)).setCell ⟨ps,5,none⟩ (.int .u64 (g1.toNat:Int))).setCells ps 6 [.int .u64 (k1.promised.toNat:Int), .int .u64 (k1.current.toNat:Int),lv]).heap[ps]?=some (.cells (storeCells pd (.pointer (some ⟨pa,0,none⟩)) (.pointer (some ⟨pn,0,none⟩)) H 1 g1 k1.promised k1.current lv false).toArray 165 (0,0)):=BP ps 165 _ 6 _ _ p2 (by simp [storeCells]);have AfS:=ae (run_storeAt_mid (P:=prog) (((W5.drew).setCell ⟨ps,4,none⟩ (.int .i64 1)).setCell ⟨ps,5,none⟩ (.int .u64 (g1.toNat:Int))) ps 6 37 #[.int .u64 (k1.promised.toNat:Int), .int .u64 (k1.current.toNat:Int),lv] (Dh p2 6 3 (by simp [storeCells])) Ij (by rw [Aki.out];simp [Value.oneCell']));have zp5:=hA5.out.1;have Acs:=(((aj.refl (ak S) W5 o5).drew.setCell (a:=⟨ps,4,none⟩) (.int .i64 1) (.inl (by show (o5 ps).1=S;rw [zp5]))).setCell (a:=⟨ps,5,none⟩) (.int .u64 (g1.toNat:Int)) (.inl (by show (o5 ps).1=S;rw [zp5]))).setCells ps 6 [.int .u64 (k1.promised.toNat:Int), .int .u64 (k1.current.toNat:Int),lv] (.inl (by show (o5 ps).1=S;rw [zp5]));have v2:=(Acs.block _ (au hG5.out.1.1) (by rw [hG5.out.1.2];exact fun h=>tg.2.1.2.2.2 h.symm)).trans hG5.out.1.1;have v3':=(Acs.block _ (au hG5.out.2.1) (by rw [hG5.out.2.2];exact fun h=>tg.2.1.2.2.2 h.symm)).trans hG5.out.2.1;have AmE:=ae (show OpenSt ((((W5.drew).setCell ⟨ps,4,none⟩ (.int .i64 1)).setCell ⟨ps,5,none⟩ (.int .u64 (g1.toNat:Int))).setCells ps 6 [.int .u64 (k1.promised.toNat:Int), .int .u64 (k1.current.toNat:Int),lv]) o5 S A B D Y w.heap.size ps pd w.heap.size H d a0 a1 g0 g1 k0 k1 2 from
     ⟨⟨⟨v2,hG5.out.1.2⟩,⟨v3',hG5.out.2.2⟩,hA5.out.2.2.1.step Acs (fun h=>tg.2.1.2.2.1 h.symm)⟩, .inr (.inr ⟨rfl,by unfold PO;rw [if_pos hc];exact ⟨B,A,pn,pa,1,lv, .inr ⟨rfl,rfl⟩,⟨_,_,p3, .inr ⟨rfl,rfl,rfl⟩,zp5⟩,hA5.out.2.2.2.1.step Acs (fun h=>tg.1.1 h),hA5.out.2.1.step Acs (fun h=>tg.2.1.2.1 h.symm) (fun h=>tg.1.1 h),hB5.out.1.step Acs (fun h=>tg.2.1.1 h.symm) (fun h=>tg.1.1 h),hA5.out.2.2.1.step Acs (fun h=>tg.2.1.2.2.1 h.symm)⟩⟩)⟩)
    have pW:=ae (hA5.out.2.2.2.2.trans (Acs.mono (T':=fun t=>t=S \/ t=A \/ t=B) (fun _ h => .inl h)));have f54:(W5.drew).frozen? ⟨ps,4,none⟩=false:=Ap p0 4;have f55:(W5.drew).frozen? ⟨ps,5,none⟩=false:=Ap p0 5;have c54:=ag p0 4;have c55:=ag p0 5;simp only [storeCells,ax,ay] at c54 c55;have d2:(W5.drew).heap[w.heap.size]?=_:=hG5.out.1.1;have d8:(W5.drew).heap[b8]?=_:=hbK.out;have d21:=(Below.heap_setCell (W5.drew) ⟨ps,4,none⟩ (.int .i64 1) w.heap.size Aef).trans d2;have d81:=(Below.heap_setCell (W5.drew) ⟨ps,4,none⟩ (.int .i64 1) b8 AfV).trans d8;have d22:=(Below.heap_setCell ((W5.drew).setCell ⟨ps,4,none⟩ (.int .i64 1)) ⟨ps,5,none⟩ (.int .u64 (g1.toNat:Int)) w.heap.size Aef).trans d21;have d82:=(Below.heap_setCell ((W5.drew).setCell ⟨ps,4,none⟩ (.int .i64 1)) ⟨ps,5,none⟩ (.int .u64 (g1.toNat:Int)) b8 AfV).trans d81;have d23:=(ah ps [.int .u64 (k1.promised.toNat:Int), .int .u64 (k1.current.toNat:Int),lv] 6 (((W5.drew).setCell ⟨ps,4,none⟩ (.int .i64 1)).setCell ⟨ps,5,none⟩ (.int .u64 (g1.toNat:Int))) w.heap.size Aef).trans d22;have d83:=(ah ps [.int .u64 (k1.promised.toNat:Int), .int .u64 (k1.current.toNat:Int),lv] 6 (((W5.drew).setCell ⟨ps,4,none⟩ (.int .i64 1)).setCell ⟨ps,5,none⟩ (.int .u64 (g1.toNat:Int))) b8 AfV).trans d82;have Ajm:W5.drew.cell? ⟨w.heap.size,0,none⟩=some (.pointer (some ⟨ps,0,none⟩))/\W5.drew.heap[b8]?=some (.cells [.int .u64 (k1.promised.toNat:Int), .int .u64 (k1.current.toNat:Int),lv].toArray 37 (0,0)):=aI c5 hbK.out;have hS8:((W5.drew).setCell ⟨ps,4,none⟩ (.int .i64 1)).cell? ⟨w.heap.size,0,none⟩=some (.pointer (some ⟨ps,0,none⟩))/\((W5.drew).setCell ⟨ps,4,none⟩ (.int .i64 1)).heap[b8]?=some (.cells [.int .u64 (k1.promised.toNat:Int), .int .u64 (k1.current.toNat:Int),lv].toArray 37 (0,0)):=aI (ag (cs:=[_]) d21 0) d81;have AcA:(((W5.drew).setCell ⟨ps,4,none⟩ (.int .i64 1)).setCell ⟨ps,5,none⟩ (.int .u64 (g1.toNat:Int))).cell? ⟨w.heap.size,0,none⟩=some (.pointer (some ⟨ps,0,none⟩))/\(((W5.drew).setCell ⟨ps,4,none⟩ (.int .i64 1)).setCell ⟨ps,5,none⟩ (.int .u64 (g1.toNat:Int))).heap[b8]?=some (.cells [.int .u64 (k1.promised.toNat:Int), .int .u64 (k1.current.toNat:Int),lv].toArray 37 (0,0)):=aI (ag (cs:=[_]) d22 0) d82;have Afb:((((W5.drew).setCell ⟨ps,4,none⟩ (.int .i64 1)).setCell ⟨ps,5,none⟩ (.int .u64 (g1.toNat:Int))).setCells ps 6 [.int .u64 (k1.promised.toNat:Int), .int .u64 (k1.current.toNat:Int),lv]).cell? ⟨w.heap.size,0,none⟩=some (.pointer (some ⟨ps,0,none⟩))/\((((W5.drew).setCell ⟨ps,4,none⟩ (.int .i64 1)).setCell ⟨ps,5,none⟩ (.int .u64 (g1.toNat:Int))).setCells ps 6 [.int .u64 (k1.promised.toNat:Int), .int .u64 (k1.current.toNat:Int),lv]).heap[b8]?=some (.cells [.int .u64 (k1.promised.toNat:Int), .int .u64 (k1.current.toNat:Int),lv].toArray 37 (0,0)):=aI (ag (cs:=[_]) d23 0) d83;clear p0 p1 p2 p3 Acs v2 v3' zp5 d2 d8 d21 d81 d22 d82 d23 d83 hcb p55 Aaz hal pH c5 Aqj Aef AhR AfV h28;obtain ⟨V,hV⟩:∃ V,W5.drew=V:=⟨_,rfl⟩;rw [hV] at AmE pW f54 f55 c54 c55 Ajm hS8 AcA Afb AfS;have Arp:=ae hS8;have AmA:=ae AcA;have Amz:=ae Afb;clear hS8 AcA Afb;refine Aa (fun w'=>w'.cell? ⟨w.heap.size,0,none⟩=some (.pointer (some ⟨ps,0,none⟩))/\w'.heap[b8]?=some (.cells [.int .u64 (k1.promised.toNat:Int), .int .u64 (k1.current.toNat:Int),lv].toArray 37 (0,0))) (fun _=>true) (by kernel_rfl) (by rw [hV];exact Ajm) (fun hHeld => ?_);clear hHeld;rw [hV];clear hV;have Ars:=Ajm;refine tp 0 (h:=tp 1 (h:=tp 2 (h:=tp 3 (h:=tp 4 (h:=?_)))));refine Dt (i:=5) (v := .agg [.int .u64 (k1.promised.toNat:Int), .int .u64 (k1.current.toNat:Int),lv].toArray) rfl (by kernel_rfl) (fun _ _ _ h=>AQ (by decide) h) (yieldsIf_load_mid rfl 37 (.tmp 8) rfl b8 0 rfl [.int .u64 (k1.promised.toNat:Int), .int .u64 (k1.current.toNat:Int),lv] _ (fun w h=>AV h.2) underlying37 rfl (by kernel_rfl)) (by assumption) ?_;simp only [Act.put,GL,DL,lss];refine tp 6 (h:=tp 7 (h:=tO 8 (h:=?_)));go_wp2_with fail;have hS8:=Arp.out
    first | refine ⟨fun _=>hS8, ?_⟩ | refine ⟨hS8.2, ?_⟩
    refine tp 9 (h:=tp 10 (h:=tO 11 (h:=?_)));go_wp2_with fail;have AcA:=AmA.out
    first | refine ⟨fun _=>AcA, ?_⟩ | refine ⟨AcA.2, ?_⟩
    refine tp 12 (h:=tp 13 (h:=tO 14 (h:=?_)));apply AC
    ·exact AfS.out
    simp only [Act.put];go_wp2_with fail;have Afb:=Amz.out
    first | refine ⟨fun _=>Afb, ?_⟩ | refine ⟨Afb.2, ?_⟩
    refine tD (h:=?_);go_wp2_with fail;go_roundw
    case rel=>exact ⟨2,o5,by omega,by first | rfl | go_num,AmE.out,pW.out⟩
    case measure=>simp [intOf]
   ·have hcb:decide (g0.toNat<g1.toNat)=false:=decide_eq_false hc
    go_wp2_with (first
     | ((with_reducible apply AU);exact hal.out;simp only [Act.put,GL,DL,lss])
     | ((with_reducible apply AC);exact Aaz.out;simp only [Act.put]))
    refine ⟨⟨2,o5,by omega,rfl,⟨⟨⟨hG5.out.1.1,hG5.out.1.2⟩,⟨hG5.out.2.1,hG5.out.2.2⟩,hA5.out.2.2.1⟩, .inr (.inr ⟨rfl,by unfold PO;rw [if_neg hc];exact ⟨A,B,pa,pn,0,kv, .inl ⟨rfl,rfl⟩,⟨_,_,pH.out, .inl ⟨rfl,rfl,rfl⟩,hA5.out.1⟩,hB5.out.2,hB5.out.1,hA5.out.2.1,hA5.out.2.2.1⟩⟩)⟩,hA5.out.2.2.2.2⟩,by simp [intOf]⟩
  ·have hset:=((aj.refl (ak Y) wr oj).setCell (a:=⟨w.heap.size,0,none⟩) (.pointer (some ⟨ps,0,none⟩)) (.inl (by show (oj w.heap.size).1=Y;rw [ho2]))).setCell (a:=⟨w.heap.size+1,0,none⟩) (.int .i64 0) (.inl (by show (oj (w.heap.size+1)).1=Y;rw [ho3]));have AaM:=(hst.setCell (a:=⟨w.heap.size,0,none⟩) (.pointer (some ⟨ps,0,none⟩)) (.inr (Nat.le_refl _))).setCell (a:=⟨w.heap.size+1,0,none⟩) (.int .i64 0) (.inr (by show w.heap.size<=w.heap.size+1;omega));have hF:=ae (aI AaM (hfin.step hset (fun t ht=>by
    have:=AfR.out;subst ht;refine ⟨fun h=>this.1.2.2.2.2 h.symm,fun h => ?_⟩
    rcases h with h | h | h | h
    ·exact this.2.1.2.2.2 h.symm
    ·exact this.2.2.1.2.2 h.symm
    ·exact this.2.2.2.1.2 h.symm
    ·exact this.2.2.2.2 h.symm)))
   have e2:=Ai (cs:=[_]) (i:=0) (.pointer (some ⟨ps,0,none⟩)) hb2;have e23:=(Below.heap_setCell wr ⟨w.heap.size,0,none⟩ (.pointer (some ⟨ps,0,none⟩)) (w.heap.size+1) (by show w.heap.size+1 ≠ w.heap.size;omega)).trans hb3;have e3:=Ai (cs:=[_]) (i:=0) (.int .i64 0) e23;have e32:=(Below.heap_setCell (wr.setCell ⟨w.heap.size,0,none⟩ (.pointer (some ⟨ps,0,none⟩))) ⟨w.heap.size+1,0,none⟩ (.int .i64 0) w.heap.size (by show w.heap.size ≠ w.heap.size+1;omega)).trans e2;have k2:=ag (cs:=[_]) e32 0;have k3:=ag (cs:=[_]) e3 0;have k2H:=ae k2;have k3H:=ae k3;clear hset AaM e2 e23 e3 e32 k2 k3 hst hfin;go_wp2_with fail;refine leaves_cons (f:=120) (args := #[.pointer (some ⟨w.heap.size,0,none⟩), .pointer (some ⟨w.heap.size+1,0,none⟩)]) (by simp) (by simp [go_sem]) ?_;refine (catch_idle _ _ _).mono ?_;rintro e u' w'' ⟨rfl,rfl,rfl⟩;have k2:=k2H.out;have k3:=k3H.out;refine ⟨.tuple #[.pointer (some ⟨ps,0,none⟩), .int .i64 0],by simp [results,go_sem,k2,k3],_,oj,rfl,hF.out.1,ps,Aza,rfl,hF.out.2⟩
end
theorem oQ.Tq {n:Nat} (hn:n<=8) (S:BitVec 64) (hS:S.toNat<256 ^ n) (r:List UInt8):(oQ.mk (be n S++r) false).num n=(S,⟨r,false⟩):=by
 unfold oQ.num oQ.take;have hl:¬ (be n S++r).length<n:=by rw [List.length_append,Az];omega
 simp only [Bool.false_eq_true,if_false,if_neg hl,Option.map_some,Option.getD_some,Prod.mk.injEq,oQ.mk.injEq,and_true];rw [List.take_left' (Az n S),List.drop_left' (Az n S)];exact ⟨BitVec.eq_of_toNat_eq (NJ hn S hS),rfl⟩
theorem oQ.Hz (S:BitVec 64) (r:List UInt8):(oQ.mk (be 8 S++r) false).num 8=(S,⟨r,false⟩):=
 oQ.Tq (by omega) S (Nat.lt_of_lt_of_le S.isLt (by decide)) r
theorem oQ.JY (c:UInt8) (r:List UInt8):(oQ.mk (c :: r) false).num 1=(BitVec.ofNat 64 c.toNat,⟨r,false⟩):=by
 have hc:=c.toNat_lt;have:=oQ.Tq (n:=1) (by omega) (BitVec.ofNat 64 c.toNat) (by rw [BitVec.toNat_ofNat,Nat.mod_eq_of_lt (by omega)];omega) r;rw [bP] at this;exact this
theorem oQ.ZC (b r:List UInt8) (hb:b.length<4294967296):(oQ.mk (be 4 (BitVec.ofNat 64 b.length)++(b++r)) false).text=(b,⟨r,false⟩):=by
 have hl:(BitVec.ofNat 64 b.length).toNat=b.length:=by rw [BitVec.toNat_ofNat,Nat.mod_eq_of_lt (by omega)]
 unfold oQ.text;rw [oQ.Tq (by omega) _ (by rw [hl];omega)];simp only [hl];unfold oQ.txt oQ.take;have h2:¬ (b++r).length<b.length:=by rw [List.length_append];omega
 simp only [Bool.false_eq_true,if_false,if_neg h2,Option.getD_some,List.take_left,List.drop_left]
def Short (ls:List Ar):Prop:=∀ x ∈ ls,x.b.length<4294967296
theorem Ru (ls:List Ar) (h:Short ls) (r:List UInt8):∀ k,k<=ls.length->Ce k ⟨encs ls++r,false⟩=(ls.take k,⟨encs (ls.drop k)++r,false⟩)
 | 0,_=>by simp [Ce]
 | k+1,hk=>by
  have ih:=Ru ls h r k (by omega);have hx:ls[k]?=some ls[k]:=List.getElem?_eq_getElem (by omega);have hd:ls.drop k=ls[k] :: ls.drop (k+1):=List.drop_eq_getElem_cons (by omega);have he:encs (ls.drop k)++r=be 8 ls[k].e++(be 4 (BitVec.ofNat 64 ls[k].b.length)++(ls[k].b++(encs (ls.drop (k+1))++r))):=by
   rw [hd];unfold encs;rw [List.flatMap_cons];simp [Ar.enc]
  unfold Ce;rw [ih,he];simp only [oQ.Hz];rw [oQ.ZC _ _ (h _ (List.getElem_mem _))];simp only [Prod.mk.injEq,and_true];rw [List.take_add_one,hx];rfl
theorem KP (ls:List Ar) (h:Short ls) (hn:ls.length<=256) (r:List UInt8):(oQ.mk (GR ls++r) false).lines=(ls,⟨r,false⟩):=by
 have hl:(BitVec.ofNat 64 ls.length).toNat=ls.length:=by rw [BitVec.toNat_ofNat,Nat.mod_eq_of_lt (by omega)]
 have hc:(oQ.mk (GR ls++r) false).count 256=(ls.length,⟨encs ls++r,false⟩):=by
  unfold oQ.count GR;rw [List.append_assoc,oQ.Hz];simp only [hl];rw [if_neg (by omega)]
 unfold oQ.lines;rw [hc];simp only;rw [Ru ls h r _ (Nat.le_refl _)];simp [encs]
theorem Jp:(oQ.mk [] false).done=0:=rfl
theorem Py (k:AX) (e:BitVec 64):Fh k (2 :: be 8 e)=some { k with promised:=e }:=by
 have h:=oQ.Hz e [];rw [List.append_nil] at h;unfold Fh;simp only [oQ.JY];rw [if_pos (by decide)];unfold AX.Ez;simp only [h,Jp,if_true]
theorem Tc (k:AX) (e:BitVec 64) (ls:List Ar) (h:Short ls) (hn:ls.length<=256):Fh k (3 :: (be 8 e++GR ls))=some ⟨e,e,ls⟩:=by
 have hl:=KP ls h hn [];rw [List.append_nil] at hl;unfold Fh;simp only [oQ.JY];rw [if_neg (by decide),if_pos (by decide)];unfold AX.FW;simp only [oQ.Hz,hl,Jp,if_true]
theorem QI (k:AX) (ls:List Ar) (h:Short ls) (hn:ls.length<=256):Fh k (4 :: GR ls)=some { k with lines:=k.lines++ls }:=by
 have hl:=KP ls h hn [];rw [List.append_nil] at hl;unfold Fh;simp only [oQ.JY];rw [if_neg (by decide),if_neg (by decide),if_pos (by decide)];unfold AX.Fb;simp only [hl,Jp,if_true]
theorem Td (age p c:BitVec 64) (ls:List Ar) (ha:0<age.toNat) (h:Short ls) (hn:ls.length<=256):EF (IY age p c ls)=some (age,⟨p,c,ls⟩):=by
 have hl:=KP ls h hn [];rw [List.append_nil] at hl;unfold EF IY;simp only [oQ.JY,oQ.Hz,hl,Jp];rw [if_pos ⟨by decide,trivial,ha⟩]
theorem Om (b:List UInt8):∀ (rs:List (List UInt8)) (k kf kn:AX),FV k rs=some kf->Fh kf b=some kn->FV k (rs++[b])=some kn
 | [],k,kf,kn,h,h1=>by
  simp only [FV,Option.some.injEq] at h;subst h;simp [FV,h1]
 | x :: r,k,kf,kn,h,h1=>by
  obtain ⟨k',h2,h3⟩:=Oo h;have:=Om b r k' kf kn h3 h1;simp only [List.cons_append,FV,h2,this]
theorem Oi {rs:List (List UInt8)} {age:BitVec 64} {k kn:AX} {b:List UInt8} (h:DK rs=some (age,k)) (ha:0<age.toNat) (h1:Fh k b=some kn):DK (rs++[b])=some (age,kn):=by
 cases rs with
 | nil =>
  simp only [DK,Option.some.injEq,Prod.mk.injEq] at h;obtain ⟨rfl, -⟩:=h;simp at ha
 | cons x r =>
  change (match EF x with | some (a,k)=>(FV k r).map (fun k'=>(a,k')) | none=>none)=some (age,k) at h
  cases hf:EF x with
  | none=>rw [hf] at h;cases h
  | some y =>
   obtain ⟨a,k0⟩:=y;rw [hf] at h;simp only [Option.map_eq_some_iff,Prod.mk.injEq] at h;obtain ⟨k',h2,rfl,rfl⟩:=h;simp only [List.cons_append,DK,hf,Om b r k0 _ kn h2 h1,Option.map_some]
theorem Px {b:List UInt8} {age:BitVec 64} {k:AX} (h:EF b=some (age,k)):DK [b]=some (age,k):=by
 simp [DK,h,FV]
structure BG where
 k:Nat
 e:BitVec 64
 c:BitVec 64
 at':Nat
 com:Nat
 ls:List Ar
def Ar.may (x:Ar):Prop:=(1<=x.e.toNat/\x.e.toNat<=281474976710656)/\1<=x.b.length/\x.b.length<=4096
structure BG.May (m:BG):Prop where
 k1:1<=m.k
 k6:m.k<=6
 e1:1<=m.e.toNat
 e2:m.e.toNat<=281474976710656
 c1:m.c.toNat<=m.e.toNat
 a1:m.at'<=256
 o1:m.com<=256
 n1:m.ls.length<=256
 hl:∀ x ∈ m.ls,x.may
 kc:m.k ≠ 2->m.c=0
 ko:m.k ≠ 5->m.com=0
 ka:m.k ≠ 5->m.k ≠ 6->m.at'=0
 kl:m.k ≠ 2->m.k ≠ 4->m.k ≠ 5->m.ls=[]
instance (x:Ar):Decidable x.may:=by unfold Ar.may;infer_instance
def BG.put (m:BG):List UInt8:=
 UInt8.ofNat m.k :: (be 8 m.e++(be 8 m.c++(be 8 (BitVec.ofNat 64 m.at')++(be 8 (BitVec.ofNat 64 m.com)++GR m.ls))))
def QN (b:List UInt8):BG × oQ:=
 let r0:=(oQ.mk b false).num 1
 let r1:=r0.2.num 8
 let r2:=r1.2.num 8
 let r3:=r2.2.count 256
 let r4:=r3.2.count 256
 let r5:=r4.2.lines
 (⟨r0.1.toNat % 256,r1.1,r2.1,r3.1,r4.1,r5.1⟩,r5.2)
theorem RX (n:Nat) (hn:n<=256) (r:List UInt8):(oQ.mk (be 8 (BitVec.ofNat 64 n)++r) false).count 256=(n,⟨r,false⟩):=by
 have hl:(BitVec.ofNat 64 n).toNat=n:=by rw [BitVec.toNat_ofNat,Nat.mod_eq_of_lt (by omega)]
 unfold oQ.count;rw [oQ.Hz];simp only [hl];rw [if_neg (by omega)]
theorem Ar.may.short {ls:List Ar} (h:∀ x ∈ ls,x.may):Short ls:=fun x hx=>Nat.lt_of_le_of_lt (h x hx).2.2 (by omega)
theorem aH {m:BG} (h:m.May):QN m.put=(m,⟨[],false⟩):=by
 have hk:(UInt8.ofNat m.k).toNat=m.k:=by rw [UInt8.toNat_ofNat',Nat.mod_eq_of_lt (by have:=h.k6;omega)]
 have hl:=KP m.ls (Ar.may.short h.hl) h.n1 [];rw [List.append_nil] at hl;have hk2:(BitVec.ofNat 64 m.k).toNat % 256=m.k:=by rw [BitVec.toNat_ofNat];have:=h.k6;omega
 unfold QN BG.put;simp only [oQ.JY,oQ.Hz,RX m.at' h.a1,RX m.com h.o1,hl,hk,hk2]
structure SG (K H:Nat) (s:AZ):Prop where
 live:s.dead=false
 gc:Ad.Good K (s.cur,s.d)
 go:Ad.Good K (s.Us,s.d)
 pg:s.pages=H
 h4:4<=H
 VC:H<=200
 len:s.d.pages.length / 2=H
 nc:s.cur.n=H
 no:s.Us.n=H
 fst:(s.cur.first=0/\s.Us.first=H) \/ (s.cur.first=H/\s.Us.first=0/\0<s.age.toNat)
 rc:DK s.cur.records=some (s.age,s.kept)
 ro:∃ g k,DK s.Us.records=some (g,k)/\(g.toNat<s.age.toNat \/ g=0)
 Wl:s.age.toNat<=K
namespace SG
variable {K H:Nat} {s:AZ}
theorem dd (h:SG K H s):s.d.dead=false:=h.gc.dd
theorem row (h:SG K H s):s.d.row=[]:=h.gc.row
theorem apart (h:SG K H s):s.cur.first+s.cur.n<=s.Us.first \/ s.Us.first+s.Us.n<=s.cur.first:=by
 have h1:=h.nc;have h2:=h.no
 rcases h.fst with ⟨h3,h4⟩ | ⟨h3,h4, -⟩ <;> omega
theorem mono {K':Nat} (h:SG K H s) (hK:K<=K'):SG K' H s:=
 ⟨h.live,h.gc.mono hK,h.go.mono hK,h.pg,h.h4,h.VC,h.len,h.nc,h.no,h.fst,h.rc,h.ro,Nat.le_trans h.Wl hK⟩
end SG
theorem Good.wf' {K:Nat} {s:Ad × Af} (h:Ad.Good K s):s.2.wf:=h.fine.2.2.2
theorem Yu {n e:Nat} {l:Ad} {b:List UInt8} (hn:l.n=n) (he:l.end'=e) (h1:1<=b.length) (hr:b.length<=l.room):Ad.many b<=n - e:=by
 unfold Ad.room at hr;unfold Ad.many;rw [hn,he] at hr;omega
theorem dO {b:List UInt8} {m:Nat} (h1:1<=m) (hr:b.length<=480*m):Ad.many b<=m:=by
 unfold Ad.many;omega
theorem AZ.Ul {K H:Nat} {s:AZ} (h:SG K H s) (hK:K+600<65536) (rec:List UInt8) (now:AX) (hr:Fh s.kept rec=some now) (h1:1<=rec.length) (hs:Short now.lines) (hn:now.lines.length<=256) :
  (∃ s',s.write rec now=(s',0)/\SG (K+3) H s'/\s'.kept=now/\s'.d.pages.length=s.d.pages.length/\(s.d.left<0->s'.d.left<0)) \/
  (s.write rec now=(s,4)/\480*(H - 1)<(IY (s.age+1#64) now.promised now.current now.lines).length) \/
  (0<=s.d.left/\∃ s',s.write rec now=(s',9)/\s'.dead=true/\s'.d.dead=true/\s'.kept=s.kept/\s'.pages=H/\s'.d.row.length<=4096 /\
   ∀ Bz,∃ t,SG (K+600) H t/\t.d=s'.d.BJ Bz/\t.d.left = -1/\t.d.pages.length=s.d.pages.length/\(t.kept=s.kept \/ t.kept=now)):=by
 have hap:=h.apart;have hnc:=h.nc;have hno:=h.no;have hH:=h.h4;have Aji:=h.fst;have AbV:(s.age+1#64).toNat=s.age.toNat+1:=by
  have:=h.Wl;rw [BitVec.toNat_add];simp;omega
 have hall:=Td (s.age+1#64) now.promised now.current now.lines (by omega) hs hn;obtain ⟨AE,vP⟩:∃ AE,IY (s.age+1#64) now.promised now.current now.lines=AE:=⟨_,rfl⟩;rw [vP] at hall;obtain ⟨g,k,hro,hg⟩:=h.ro;unfold AZ.write;rw [vP]
 by_cases hc:0<s.age.toNat/\rec.length<=s.cur.room
 ·rw [if_pos hc];have hm:=Yu rfl rfl h1 hc.2
  rcases Ad.Nk h.gc (by omega) rec with ⟨hx, -⟩ | ⟨-,s',hw,hG,hrec, -,hn',hf',hO,hl⟩ | ⟨hl,s',hw, -,hd2,hrow,hn',hf',hB⟩
  ·simp only at hx;omega
  ·left
   simp only [hw,ne_eq,not_true_eq_false,if_false];simp only at hrec hn' hf' hO hl;refine ⟨_,rfl,⟨h.live,hG.mono (by omega),(Ad.Good.Us h.go hO hG.dd hG.row (Good.wf' hG) (by dsimp only;omega)).mono (by omega),h.pg,h.h4,h.VC, ?_,hn'.trans hnc,hno, ?_, ?_,⟨g,k,hro,hg⟩,by have:=h.Wl;dsimp only;omega⟩,rfl,hO.1,fun h=>by dsimp only;rw [hl h];exact h⟩
   ·show s'.2.pages.length / 2=H;rw [hO.1];exact h.len
   ·show (s'.1.first=0/\s.Us.first=H) \/ (s'.1.first=H/\s.Us.first=0/\0<s.age.toNat)
    rw [hf'];exact Aji
   ·show DK s'.1.records=some (s.age,now);rw [hrec];exact Oi h.rc hc.1 hr
  ·right;right
   refine ⟨hl,{ s with cur:=s'.1,d:=s'.2,dead:=true },by simp only [hw,ne_eq,show ¬ ((9:Int)=0) by omega,not_false_eq_true,if_true],rfl,hd2,rfl,h.pg,hrow,fun Bz => ?_⟩;have B:=hB Bz;simp only at B;have hmk:∀ kp,DK (Ad.AY s.cur.first (Ad.Aw (s'.2.BJ Bz) s.cur.first s.cur.n)).records=some (s.age,kp) ->
     SG (K+600) H ⟨Ad.AY s.cur.first (Ad.Aw (s'.2.BJ Bz) s.cur.first s.cur.n),s.Us,s'.2.BJ Bz,H,s.age,kp,false⟩:=fun kp hkp =>
    ⟨rfl,B.good.mono (by omega),(Ad.Good.Us h.go B.Us B.good.dd B.good.row (Good.wf' B.good) (by dsimp only;omega)).mono (by omega),rfl,h.h4,h.VC,
     by show (s'.2.BJ Bz).pages.length / 2=H;rw [B.Us.1];exact h.len,(Ad.JM _ _ _).trans hnc,hno,Aji,hkp,⟨g,k,hro,hg⟩,by have:=h.Wl;dsimp only;omega⟩
   rcases B.recs with hx | hx
   ·exact ⟨_,hmk s.kept (by rw [hx];exact h.rc),rfl,B.left,B.Us.1, .inl rfl⟩
   ·exact ⟨_,hmk now (by rw [hx];exact Oi h.rc hc.1 hr),rfl,B.left,B.Us.1, .inr rfl⟩
 ·rw [if_neg hc]
  by_cases hf:480*(s.pages - 1)<AE.length
  ·rw [if_pos hf];exact .inr (.inl ⟨rfl,by rw [<-h.pg];exact hf⟩)
  ·rw [if_neg hf];rw [h.pg] at hf;have hlF:s.Us.first=0 \/ 0<s.age.toNat \/ (s.cur.first=0/\s.Us.first=H):=by
    rcases Aji with h | h
    ·exact .inr (.inr h)
    ·exact .inl h.2.1
   rcases Ad.UL h.go (by omega) with ⟨s1,hw1,hG1,AoJ,Avh,hn1,hf1,hO1,hl1⟩ | ⟨hl,s',hw, -,hd2,hrow,hn',hf',hB⟩
   ·simp only at hn1 hf1 hO1 hl1;have hmm:Ad.many AE<=H - 1:=dO (by omega) (by omega)
    rcases Ad.Nk hG1 (by omega) AE with ⟨hx, -⟩ | ⟨-,s',hw,hG,hrec, -,hn',hf',hO,hl⟩ | ⟨hl,s',hw, -,hd2,hrow,hn',hf',hB⟩
    ·rw [hn1,Avh,hno] at hx;omega
    ·left
     rw [hn1,hf1] at hO;have hO2:=hO1.trans hO;refine ⟨{ s with cur:=s'.1,Us:=s.cur,d:=s'.2,age:=s.age+1#64,kept:=now }, ?_,⟨h.live,hG.mono (by omega),(Ad.Good.Us h.gc hO2 hG.dd hG.row (Good.wf' hG) (by dsimp only;omega)).mono (by omega),h.pg,h.h4,h.VC, ?_,(hn'.trans hn1).trans hno,hnc, ?_, ?_,⟨s.age,s.kept,h.rc, .inl (by dsimp only;omega)⟩,by have:=h.Wl;dsimp only;omega⟩,rfl,hO2.1,fun h => ?_⟩
     ·simp only [hw1,hw,ne_eq,not_true_eq_false,if_false]
     ·show s'.2.pages.length / 2=H;rw [hO2.1];exact h.len
     ·show (s'.1.first=0/\s.cur.first=H) \/ (s'.1.first=H/\s.cur.first=0/\0<(s.age+1#64).toNat)
      rw [hf',hf1]
      rcases Aji with h | h
      ·exact .inr ⟨h.2,h.1,by omega⟩
      ·exact .inl ⟨h.2.1,h.1⟩
     ·show DK s'.1.records=some (s.age+1#64,now);rw [hrec,AoJ];exact Px hall
     ·have e1:=hl1 h;have e2:=hl (by rw [e1];exact h);show s'.2.left<0;rw [e2,e1];exact h
    ·right;right
     have hl0:0<=s.d.left:=by
      by_cases hz:s.d.left<0
      ·rw [hl1 hz] at hl;omega
      ·omega
     refine ⟨hl0,{ s with Us:=s'.1,d:=s'.2,dead:=true },by simp only [hw1,hw,ne_eq,not_true_eq_false,if_false,show ¬ ((9:Int)=0) by omega,not_false_eq_true,if_true],rfl,hd2,rfl,h.pg,hrow,fun Bz => ?_⟩;have B:=hB Bz;rw [hn1,hf1,AoJ] at B;have hO2:=hO1.trans B.Us;have hcO:Ad.Good (K+600) (s.cur,s'.2.BJ Bz):=(Ad.Good.Us h.gc hO2 B.good.dd B.good.row (Good.wf' B.good) (by dsimp only;omega)).mono (by omega);have hlen:(s'.2.BJ Bz).pages.length / 2=H:=by rw [hO2.1];exact h.len
     rcases B.recs with hx | hx
     ·refine ⟨⟨s.cur,Ad.AY s.Us.first (Ad.Aw (s'.2.BJ Bz) s.Us.first s.Us.n),s'.2.BJ Bz,H,s.age,s.kept,false⟩,⟨rfl,hcO,B.good.mono (by omega),rfl,h.h4,h.VC,hlen,hnc,(Ad.JM _ _ _).trans hno,Aji,h.rc,⟨0,⟨0,0,[]⟩,by dsimp only;rw [hx];rfl, .inr rfl⟩,by have:=h.Wl;dsimp only;omega⟩,rfl,B.left,hO2.1, .inl rfl⟩
     ·refine ⟨⟨Ad.AY s.Us.first (Ad.Aw (s'.2.BJ Bz) s.Us.first s.Us.n),s.cur,s'.2.BJ Bz,H,s.age+1#64,now,false⟩,⟨rfl,B.good.mono (by omega),hcO,rfl,h.h4,h.VC,hlen,(Ad.JM _ _ _).trans hno,hnc, ?_,by dsimp only;rw [hx];exact Px hall,⟨s.age,s.kept,h.rc, .inl (by dsimp only;omega)⟩,by have:=h.Wl;dsimp only;omega⟩,rfl,B.left,hO2.1, .inr rfl⟩
      show (s.Us.first=0/\s.cur.first=H) \/ (s.Us.first=H/\s.cur.first=0/\0<(s.age+1#64).toNat)
      rcases Aji with h | h
      ·exact .inr ⟨h.2,h.1,by omega⟩
      ·exact .inl ⟨h.2.1,h.1⟩
   ·right;right
    refine ⟨hl,{ s with Us:=s'.1,d:=s'.2,dead:=true },by simp only [hw,ne_eq,show ¬ ((9:Int)=0) by omega,not_false_eq_true,if_true],rfl,hd2,rfl,h.pg,hrow,fun Bz => ?_⟩;have B:=hB Bz;simp only at B;refine ⟨⟨s.cur,Ad.AY s.Us.first (Ad.Aw (s'.2.BJ Bz) s.Us.first s.Us.n),s'.2.BJ Bz,H,s.age,s.kept,false⟩,⟨rfl,(Ad.Good.Us h.gc B.Us B.good.dd B.good.row (Good.wf' B.good) (by dsimp only;omega)).mono (by omega),B.good.mono (by omega),rfl,h.h4,h.VC,by show (s'.2.BJ Bz).pages.length / 2=H;rw [B.Us.1];exact h.len,hnc,(Ad.JM _ _ _).trans hno,Aji,h.rc, ?_,by have:=h.Wl;dsimp only;omega⟩,rfl,B.left,B.Us.1, .inl rfl⟩
    rcases B.recs with hx | hx
    ·exact ⟨g,k,by dsimp only;rw [hx];exact hro,hg⟩
    ·exact ⟨0,⟨0,0,[]⟩,by dsimp only;rw [hx];rfl, .inr rfl⟩
theorem SG.reopen {K H:Nat} {s:AZ} (h:SG K H s):∃ g0 g1 k0 k1,DK (Ad.AY 0 (Ad.Aw s.d 0 H)).records=some (g0,k0)/\DK (Ad.AY H (Ad.Aw s.d H H)).records=some (g1,k1) /\
  PO s.d H (Ad.AY 0 (Ad.Aw s.d 0 H)) (Ad.AY H (Ad.Aw s.d H H)) g0 g1 k0 k1=s:=by
 have hc:s.cur=Ad.AY s.cur.first (Ad.Aw s.d s.cur.first s.cur.n):=h.gc.fine.1
 have ho:s.Us=Ad.AY s.Us.first (Ad.Aw s.d s.Us.first s.Us.n):=h.go.fine.1
 rw [h.nc] at hc;rw [h.no] at ho;obtain ⟨g,k,hro,hg⟩:=h.ro;have hpg:=h.pg;have hlv:=h.live;have hrc:=h.rc
 rcases h.fst with ⟨h1,h2⟩ | ⟨h1,h2,h3⟩
 ·rw [h1] at hc;rw [h2] at ho;rw [<-hc, <-ho];refine ⟨s.age,g,s.kept,k,hrc,hro, ?_⟩;unfold PO;rw [if_neg (by
   rcases hg with hg | rfl
   ·omega
   ·simp)]
  obtain ⟨a,b,d,p,e,f,z⟩:=s;simp only at hpg hlv ⊢;subst hpg hlv;rfl
 ·rw [h1] at hc;rw [h2] at ho;rw [<-hc, <-ho];refine ⟨g,s.age,k,s.kept,hro,hrc, ?_⟩;unfold PO;rw [if_pos (by
   rcases hg with hg | rfl
   ·omega
   ·simpa using h3)]
  obtain ⟨a,b,d,p,e,f,z⟩:=s;simp only at hpg hlv ⊢;subst hpg hlv;rfl
theorem SG.newest {K H:Nat} {s:AZ} (h:SG K H s) (hK:K<65536):Ad.newest (Ad.Aw s.d 0 H) ≠ BitVec.allOnes 64/\Ad.newest (Ad.Aw s.d H H) ≠ BitVec.allOnes 64:=by
 have hc:=h.gc.newest;have ho:=h.go.newest;have kc:=h.gc.JK;have ko:=h.go.JK;simp only at hc ho kc ko;rw [h.nc] at hc;rw [h.no] at ho;have key:∀ x:BitVec 64,x.toNat<=K->x ≠ BitVec.allOnes 64:=fun x hx e=>by
  rw [e] at hx;simp at hx;omega
 rcases h.fst with ⟨h1,h2⟩ | ⟨h1,h2, -⟩
 ·rw [h1] at hc;rw [h2] at ho;exact ⟨by rw [hc];exact key _ kc,by rw [ho];exact key _ ko⟩
 ·rw [h1] at hc;rw [h2] at ho;exact ⟨by rw [ho];exact key _ ko,by rw [hc];exact key _ kc⟩
def YJ (n:Nat):AZ:=⟨Ad.raw 0 (n / 2) 0,Ad.raw (n / 2) (n / 2) 0,Af.new n,n / 2,0,⟨0,0,[]⟩,false⟩
theorem dL {n:Nat} (h8:8<=n) (Bgf:n<=401):SG 0 (n / 2) (YJ n):=
 ⟨rfl,Ad.VF (by omega) (by omega) (by omega),Ad.VF (by omega) (by omega) (by omega),rfl,by omega,by omega,by simp [YJ,Af.new],rfl,rfl, .inl ⟨rfl,rfl⟩,rfl,⟨0,⟨0,0,[]⟩,rfl, .inr rfl⟩,by simp [YJ]⟩
def AP (ls:List Ar):Nat:=(ls.map fun x=>x.b.length).sum
theorem DV (a b:List Ar):AP (a++b)=AP a+AP b:=by simp [AP]
theorem Ej (ls:List Ar):(encs ls).length=12*ls.length+AP ls:=by
 induction ls with
 | nil=>rfl
 | cons x r ih =>
  have e:encs (x :: r)=x.enc++encs r:=by simp [encs]
  rw [e,List.length_append,ih,Jj];simp only [AP,List.map_cons,List.sum_cons,List.length_cons];omega
structure KOk (k:AX):Prop where
 n:k.lines.length<=256
 b:∀ x ∈ k.lines,x.b.length<=4096
theorem Ze {ls:List Ar} (h:∀ x ∈ ls,x.b.length<=4096):AP ls<=4096*ls.length:=by
 induction ls with
 | nil=>simp [AP]
 | cons x r ih =>
  have h1:=h x (by simp);have h2:=ih (fun y hy=>h y (List.mem_cons_of_mem _ hy));simp only [AP,List.map_cons,List.sum_cons,List.length_cons] at *;omega
theorem KOk.short {k:AX} (h:KOk k):Short k.lines:=fun x hx=>by have:=h.b x hx;omega
structure bW where
 k:Nat
 e:BitVec 64
 ls:List Ar
def AZ.act (a:bW) (s:AZ):AZ × Int:=
 if a.k % 5=0 then s.promise a.e else if a.k % 5=1 then s.FO a.e a.ls else if a.k % 5=4 then (s,0) else s.append a.ls
def AX.CQ (k:AX) (e:BitVec 64):AX × Int:=if k.EK e then ({ k with promised:=e },0) else (k,1)
def AX.Ee (k:AX) (e:BitVec 64) (ls:List Ar):AX × Int:=if k.Gg e ls then (⟨e,e,ls⟩,0) else (k,1)
def AX.Cm (k:AX) (ls:List Ar):AX × Int:=if k.Eu ls then ({ k with lines:=k.lines++ls },0) else (k,1)
def AX.next (a:bW) (k:AX):AX × Int:=
 if a.k % 5=0 then k.CQ a.e else if a.k % 5=1 then k.Ee a.e a.ls else if a.k % 5=4 then (k,0) else k.Cm a.ls
def bH (ls:List Ar):Nat:=64+(16*ls.length+AP ls)
def AX.fits (k:AX) (n:Nat):Bool:=decide (bH k.lines<=480*(n / 2 - 1))
theorem Wi {top:BitVec 64} {ls:List Ar} (h:ls.any (badL top)=false):∀ x ∈ ls,x.b.length<=4096:=by
 intro x hx;have:=List.any_eq_false.1 h x hx;unfold badL at this;simp only [Bool.or_eq_true,decide_eq_true_eq,not_or] at this;omega
theorem QX {k:AX} {e:BitVec 64} {ls:List Ar} (h:k.Gg e ls=true):ls.length<=256/\∀ x ∈ ls,x.b.length<=4096:=by
 unfold AX.Gg at h;simp only [Bool.and_eq_true,decide_eq_true_eq,Bool.not_eq_true'] at h;exact ⟨h.1.2,Wi h.2⟩
theorem Ig {k:AX} {ls:List Ar} (h:k.Eu ls=true):ls.length+k.lines.length<=256/\∀ x ∈ ls,x.b.length<=4096:=by
 unfold AX.Eu at h;simp only [Bool.and_eq_true,decide_eq_true_eq,Bool.not_eq_true'] at h;exact ⟨h.1.1.2,Wi h.1.2⟩
theorem KOk.next {k:AX} (h:KOk k) (a:bW):KOk (k.next a).1:=by
 unfold AX.next AX.CQ AX.Ee AX.Cm;split
 ·split
  ·exact ⟨h.n,h.b⟩
  ·exact h
 ·split
  ·split
   ·rename_i hok;have:=QX hok;exact ⟨this.1,this.2⟩
   ·exact h
  ·split
   ·exact h
   ·split
    ·rename_i hok;have:=Ig hok;refine ⟨?_,fun x hx => ?_⟩
     ·show (k.lines++a.ls).length<=256;rw [List.length_append];omega
     ·change x ∈ k.lines++a.ls at hx
      rcases List.mem_append.1 hx with hx | hx
      ·exact h.b x hx
      ·exact this.2 x hx
    ·exact h
theorem Vp (age p c:BitVec 64) (ls:List Ar):(IY age p c ls).length=33+(12*ls.length+AP ls):=by
 unfold IY GR;simp only [List.length_cons,List.length_append,Az,Ej];omega
theorem Zi {age p c:BitVec 64} {ls:List Ar} {H n:Nat} (hH:n / 2=H) (h:480*(H - 1)<(IY age p c ls).length) {k:AX} (hk:k.lines=ls):k.fits n=false:=by
 rw [Vp] at h;unfold AX.fits bH;rw [hk,hH];apply decide_eq_false;omega
theorem AZ.Zk {K H:Nat} {s:AZ} (h:SG K H s) (hK:K+600<65536) (hk:KOk s.kept) (a:bW) :
  ((s.kept.next a).2=1/\(s.kept.next a).1=s.kept/\s.act a=(s,1)) \/
  ((s.kept.next a).2=0/\∃ s',s.act a=(s',0)/\SG (K+3) H s'/\s'.kept=(s.kept.next a).1/\s'.d.pages.length=s.d.pages.length/\(s.d.left<0->s'.d.left<0)) \/
  ((s.kept.next a).2=0/\s.act a=(s,4)/\∀ n,n / 2=H->(s.kept.next a).1.fits n=false) \/
  ((s.kept.next a).2=0/\a.k % 5 ≠ 4/\0<=s.d.left/\∃ s',s.act a=(s',9)/\s'.dead=true/\s'.d.dead=true/\s'.kept=s.kept/\s'.pages=H/\s'.d.row.length<=4096 /\
   ∀ Bz,∃ t,SG (K+600) H t/\t.d=s'.d.BJ Bz/\t.d.left = -1/\t.d.pages.length=s.d.pages.length/\(t.kept=s.kept \/ t.kept=(s.kept.next a).1)):=by
 have hok:=hk.next a;have hlv:=h.live;have hdd:=h.dd;have main:∀ rec now,Fh s.kept rec=some now->1<=rec.length->a.k % 5 ≠ 4->Short now.lines->now.lines.length<=256 ->
  ((now,(0:Int)).2=1/\(now,(0:Int)).1=s.kept/\s.write rec now=(s,1)) \/
  ((now,(0:Int)).2=0/\∃ s',s.write rec now=(s',0)/\SG (K+3) H s'/\s'.kept=(now,(0:Int)).1/\s'.d.pages.length=s.d.pages.length/\(s.d.left<0->s'.d.left<0)) \/
  ((now,(0:Int)).2=0/\s.write rec now=(s,4)/\∀ n,n / 2=H->(now,(0:Int)).1.fits n=false) \/
  ((now,(0:Int)).2=0/\a.k % 5 ≠ 4/\0<=s.d.left/\∃ s',s.write rec now=(s',9)/\s'.dead=true/\s'.d.dead=true/\s'.kept=s.kept/\s'.pages=H/\s'.d.row.length<=4096 /\
   ∀ Bz,∃ t,SG (K+600) H t/\t.d=s'.d.BJ Bz/\t.d.left = -1/\t.d.pages.length=s.d.pages.length/\(t.kept=s.kept \/ t.kept=(now,(0:Int)).1)):=by
  intro rec now hr h1 h4 hs hn
  rcases AZ.Ul h hK rec now hr h1 hs hn with hx | ⟨hx,hy⟩ | ⟨hx,hy⟩
  ·exact .inr (.inl ⟨rfl,hx⟩)
  ·exact .inr (.inr (.inl ⟨rfl,hx,fun n hn=>Zi hn hy rfl⟩))
  ·exact .inr (.inr (.inr ⟨rfl,h4,hx,hy⟩))
 by_cases h0:a.k % 5=0
 ·by_cases hp:s.kept.EK a.e=true
  ·have e1:s.kept.next a=({ s.kept with promised:=a.e },0):=by simp [AX.next,AX.CQ,h0,hp]
   have e2:s.act a=s.write (2 :: be 8 a.e) { s.kept with promised:=a.e }:=by simp [AZ.act,AZ.promise,hlv,hdd,h0,hp]
   rw [e1] at hok ⊢;rw [e2];exact main _ _ (Py s.kept a.e) (by simp) (by omega) hok.short hok.n
  ·have e1:s.kept.next a=(s.kept,1):=by simp [AX.next,AX.CQ,h0,hp]
   have e2:s.act a=(s,1):=by simp [AZ.act,AZ.promise,hlv,hdd,h0,hp]
   rw [e1,e2];exact .inl ⟨rfl,rfl,rfl⟩
 ·by_cases h1:a.k % 5=1
  ·by_cases hp:s.kept.Gg a.e a.ls=true
   ·have e1:s.kept.next a=(⟨a.e,a.e,a.ls⟩,0):=by simp [AX.next,AX.Ee,h1,hp]
    have e2:s.act a=s.write (3 :: (be 8 a.e++GR a.ls)) ⟨a.e,a.e,a.ls⟩:=by simp [AZ.act,AZ.FO,hlv,hdd,h1,hp]
    rw [e1] at hok ⊢;rw [e2];exact main _ _ (Tc s.kept a.e a.ls hok.short hok.n) (by simp) (by omega) hok.short hok.n
   ·have e1:s.kept.next a=(s.kept,1):=by simp [AX.next,AX.Ee,h1,hp]
    have e2:s.act a=(s,1):=by simp [AZ.act,AZ.FO,hlv,hdd,h1,hp]
    rw [e1,e2];exact .inl ⟨rfl,rfl,rfl⟩
  ·by_cases h4:a.k % 5=4
   ·have e1:s.kept.next a=(s.kept,0):=by simp [AX.next,h4]
    have e2:s.act a=(s,0):=by simp [AZ.act,h4]
    rw [e1,e2];exact .inr (.inl ⟨rfl,s,rfl,h.mono (by omega),rfl,rfl,fun h=>h⟩)
   ·by_cases hp:s.kept.Eu a.ls=true
    ·have e1:s.kept.next a=({ s.kept with lines:=s.kept.lines++a.ls },0):=by simp [AX.next,AX.Cm,h0,h1,h4,hp]
     have e2:s.act a=s.write (4 :: GR a.ls) { s.kept with lines:=s.kept.lines++a.ls }:=by simp [AZ.act,AZ.append,hlv,hdd,h0,h1,h4,hp]
     have hn:=hok;rw [e1] at hok ⊢;rw [e2];have hsl:Short a.ls:=fun x hx=>hok.short x (List.mem_append_right _ hx);have hnl:a.ls.length<=256:=by have:=(Ig hp).1;omega
     exact main _ _ (QI s.kept a.ls hsl hnl) (by simp) h4 hok.short hok.n
    ·have e1:s.kept.next a=(s.kept,1):=by simp [AX.next,AX.Cm,h0,h1,h4,hp]
     have e2:s.act a=(s,1):=by simp [AZ.act,AZ.append,hlv,hdd,h0,h1,h4,hp]
     rw [e1,e2];exact .inl ⟨rfl,rfl,rfl⟩

end Go.Proofs.YtffkdillijmamaaGreat
