/- Contracts: what a record does to what is kept (the three method expressions); must. -/
import Derived.Defers
import Derived.Recover
import Derived.Test.YtffkdillijmamaaGreatGj5
import Derived.Test.YtffkdillijmamaaGreatGj6
namespace Go.Proofs.YtffkdillijmamaaGreat
open Go.Proofs.Tryz
set_option maxRecDepth 100000
set_option maxHeartbeats 6400000
open Go Go.RowKit
attribute [local go_sem ↓] Go.wp_at_zero Go.wp_at_succ
def AX.Ez (k:AX) (m:oQ):AX × oQ:=({ k with promised:=(m.num 8).1 },(m.num 8).2)
def AX.FW (_k:AX) (m:oQ):AX × oQ:=(⟨(m.num 8).1,(m.num 8).1,(m.num 8).2.lines.1⟩,(m.num 8).2.lines.2)
def AX.Fb (k:AX) (m:oQ):AX × oQ:=({ k with lines:=k.lines++m.lines.1 },m.lines.2)
def Ny (w:World) (o:Own) (K X kb base:Nat) (k:AX):Prop:=
 ∃ lv,w.heap[kb]?=some (.cells #[.int .u64 (k.promised.toNat:Int), .int .u64 (k.current.toNat:Int),lv] 37 (0,0))/\o kb=(K,0)/\ArG w o base (X,0) lv k.lines
theorem Ny.step {T:Nat->Prop}{w w':World}{o o':Own}{K X kb base:Nat}{k:AX}(h:Ny w o K X kb base k) (s:aj T w o w' o') (u:¬ T K) (E:¬ T X) (h0:¬ T 0):Ny w' o' K X kb base k:=by
 obtain ⟨F,q,r,J⟩:=h;have hl:=au q;exact ⟨F,by rw [s.block kb hl (by rw [r];exact u)];exact q,by rw [s.own kb hl];exact r,J.step s E h0⟩
structure Tg (K X Z:Nat):Prop where
 k0:K ≠ 0
 x0:X ≠ 0
 z0:Z ≠ 0
 kx:K ≠ X
 kz:K ≠ Z
 xz:X ≠ Z
def In3 (K X Z:Nat):Nat->Prop:=fun t=>t=K \/ t=X \/ t=Z
theorem oQ.KQ (m:oQ):m.lines.2.b.length<=m.b.length/\m.lines.1.length<=256:=by
 unfold oQ.lines;have q:=oQ.IW 256 m;have r:=NG (m.count 256).1 (m.count 256).2;omega
section
variable {w:World}{o:Own}{K X Z kb p base:Nat}{k:AX}{m:oQ}
theorem SS (q:Tg K X Z) (h:Ny w o K X kb base k) (U:Ep w o Z p m) (hm:m.b.length<=1000000) :
  Calls prog 173 #[.pointer (some ⟨kb,0,none⟩), .pointer (some ⟨p,0,none⟩)] w (XL (In3 K X Z) w o fun v w' o'=>v = .tuple #[]/\Ny w' o' K X kb base (k.Ez m).1/\Ep w' o' Z p (k.Ez m).2):=by
 have W:=ae (EJ U q.z0 hm);have hH:=ae h;have nD:=ae q;unfold AX.Ez;generalize (m.num 8).1=E at *;generalize (m.num 8).2=m8 at *;clear h q U;go_enter func173,ntmps173;go_wp2_with fail;refine W.out.mono ?_;rintro e r ⟨v1,o1,rfl,J,rfl,Y⟩;have q:=nD.out;obtain ⟨lv,u,O,h3⟩:=hH.out.step J (fun h=>q.kz h) (fun h=>q.xz h) (fun h=>q.z0 h.symm);have c0:r.cell? ⟨kb,0,none⟩=some (.int .u64 (k.promised.toNat:Int)):=ag (cs:=[_,_,_]) u 0;have f0:r.frozen? ⟨kb,0,none⟩=false:=Ap (cs:=[_,_,_]) u 0;have F:=(aj.refl (ak K) r o1).setCell (a:=⟨kb,0,none⟩) (.int .u64 (E.toNat:Int)) (.inl (by show (o1 kb).1=K;rw [O]));have hF:=ae (show Ny (r.setCell ⟨kb,0,none⟩ (.int .u64 (E.toNat:Int))) o1 K X kb base { k with promised:=E }/\Ep (r.setCell ⟨kb,0,none⟩ (.int .u64 (E.toNat:Int))) o1 Z p m8 from
  ⟨⟨lv,Ai (cs:=[_,_,_]) (i:=0) _ u,O,h3.step F (fun h=>q.kx h.symm) (fun h=>q.k0 h.symm)⟩,Y.step F (fun h=>q.kz h.symm) (fun h=>q.k0 h.symm)⟩)
 have a2:=ae ((J.mono (T':=In3 K X Z) (fun _ h => .inr (.inr h))).trans (F.mono (fun _ h => .inl h)));clear u O h3 F J Y q W;go_wp2_with fail
 first | go_end0 | refine bodyPost_ret (results_none rfl _ _ _) rfl ?_
 exact ⟨_,o1,rfl,a2.out,rfl,hF.out.1,hF.out.2⟩
theorem AiI (q:Tg K X Z) (h:Ny w o K X kb base k) (hr:Ep w o Z p m) (hm:m.b.length<=1000000) (c3:base<=w.heap.size) :
  Calls prog 174 #[.pointer (some ⟨kb,0,none⟩), .pointer (some ⟨p,0,none⟩)] w (XL (In3 K X Z) w o fun v w' o'=>v = .tuple #[]/\Ny w' o' K X kb base (k.FW m).1/\Ep w' o' Z p (k.FW m).2):=by
 have hu:=ae (EJ hr q.z0 hm);have hH:=ae h;have nD:=ae q;have c4:=oQ.EC 8 m;unfold AX.FW;generalize (m.num 8).1=E at *;generalize (m.num 8).2=F at *;have c6:=ae (show F.b.length<=1000000 by omega);clear h q hr c4;go_enter func174,ntmps174;go_wp2_with fail;refine hu.out.mono ?_;rintro e w1 ⟨v1,o1,rfl,hs,rfl,b2⟩;have q:=nD.out;obtain ⟨lv,h1,h2,h3⟩:=hH.out.step hs (fun h=>q.kz h) (fun h=>q.xz h) (fun h=>q.z0 h.symm);have c0:w1.cell? ⟨kb,0,none⟩=some (.int .u64 (k.promised.toNat:Int)):=ag (cs:=[_,_,_]) h1 0;have f0:w1.frozen? ⟨kb,0,none⟩=false:=Ap (cs:=[_,_,_]) h1 0;have a4:=(aj.refl (ak K) w1 o1).setCell (a:=⟨kb,0,none⟩) (.int .u64 (E.toNat:Int)) (.inl (by show (o1 kb).1=K;rw [h2]));have a3:=Ai (cs:=[_,_,_]) (i:=0) (.int .u64 (E.toNat:Int)) h1;have a5:=b2.step a4 (fun h=>q.kz h.symm) (fun h=>q.k0 h.symm);have a6:=ae ((hs.mono (T':=In3 K X Z) (fun _ h => .inr (.inr h))).trans (a4.mono (fun _ h => .inl h)));obtain ⟨Y,a7⟩:=az (w1.setCell ⟨kb,0,none⟩ (.int .u64 (E.toNat:Int)));rw [a7] at a3 a5 a6;have c7:=ae a7;have c8:w.heap.size<=Y.heap.size:=a6.out.size;have b3:=ae (fun (W:World) (O:Own) (st:aj ai Y o1 W O)=>JP (X:=X) (a5.step st id id) q.z0 q.x0 q.xz c6.out);have b4:=ae h2;have a8:=ae a3;have hS:=ae (show Y.cell? ⟨kb,0,none⟩=some (.int .u64 (E.toNat:Int)) from ag (cs:=[_,_,_]) a3 0);clear h1 h2 h3 a4 hs b2 a5 a7 hu a3 q hH;go_wp2_with fail;rw [c7.out];refine Aa (fun w'=>w'.cell? ⟨kb,0,none⟩=some (.int .u64 (E.toNat:Int))) (fun _=>true) (by kernel_rfl) hS.out (fun c9 => ?_);refine tq 0 (h:=tq 1 (h:=tq 2 (h:=tq 3 (h:=tq 4 (h:=tq 5 (h:=tq 6 (h:=tO 7 (h:=?_))))))));go_wp2_with fail;have b5:=(aj.refl ai Y o1).drew;refine (b3.out _ _ b5).mono ?_;rintro e r ⟨v3,J,rfl,a2,a9,b6⟩;have a2:aj (ak Z) Y o1 r J:=(b5.only Z).trans a2;have q:=nD.out;have U:=(a2.block kb (au a8.out) (by rw [b4.out];exact fun h=>q.kz h)).trans a8.out;have b1:=(a2.own kb (au a8.out)).trans b4.out;obtain ⟨ra,rc,rfl⟩:=a9.form;have b7:r.cell? ⟨kb,0,none⟩=some (.int .u64 (E.toNat:Int)):=ag (cs:=[_,_,_]) U 0;have d4:r.frozen? ⟨kb,1,none⟩=false:=Ap (cs:=[_,_,_]) U 1;have d5:r.frozen? ⟨kb,2,none⟩=false:=Ap (cs:=[_,_,_]) U 2;have d6:r.cell? ⟨kb,1,none⟩=some (.int .u64 (k.current.toNat:Int)):=ag (cs:=[_,_,_]) U 1;have d7:r.cell? ⟨kb,2,none⟩=some lv:=ag (cs:=[_,_,_]) U 2;have g1:=(aj.refl (ak K) r J).setCell (a:=⟨kb,1,none⟩) (.int .u64 (E.toNat:Int)) (.inl (by show (J kb).1=K;rw [b1]));have g2:=g1.setCell (a:=⟨kb,2,none⟩) (.slice ra F.lines.1.length rc) (.inl (by show (J kb).1=K;rw [b1]));have k1:=Ai (cs:=[_,_,_]) (i:=2) (.slice ra F.lines.1.length rc) (Ai (cs:=[_,_,_]) (i:=1) (.int .u64 (E.toNat:Int)) U);have b8:ArG r J base (X,0) (.slice ra F.lines.1.length rc) F.lines.1:=by
  obtain ⟨cs,q1,q2,q3,q4⟩:=a9;have hb:base<=(Y.drew).heap.size:=Nat.le_trans c3 c8;exact ⟨cs,JX q1 hb,q2,q3,fun u hu=>(q4 u hu).low hb⟩
 have hF:=ae (show Ny ((r.setCell ⟨kb,1,none⟩ (.int .u64 (E.toNat:Int))).setCell ⟨kb,2,none⟩ (.slice ra F.lines.1.length rc)) J K X kb base ⟨E,E,F.lines.1⟩/\Ep ((r.setCell ⟨kb,1,none⟩ (.int .u64 (E.toNat:Int))).setCell ⟨kb,2,none⟩ (.slice ra F.lines.1.length rc)) J Z p F.lines.2 from
  ⟨⟨_,k1,b1,b8.step g2 (fun h=>q.kx h.symm) (fun h=>q.k0 h.symm)⟩,b6.step g2 (fun h=>q.kz h.symm) (fun h=>q.k0 h.symm)⟩)
 have d1:=ae ((a6.out.trans (a2.mono (fun _ h => .inr (.inr h)))).trans (g2.mono (fun _ h => .inl h)));clear a2 a9 b6 g1 g2 k1 b8 q b3 U c9;go_wp2_with fail;refine ⟨fun _=>b7, ?_⟩;refine tq 8 (h:=tq 9 (h:=tO 10 (h:=?_)));have b9:(r.setCell ⟨kb,1,none⟩ (.int .u64 (E.toNat:Int))).cell? ⟨kb,0,none⟩=some (.int .u64 (E.toNat:Int)):=by rw [World.cell?_setCell_other _ _ _ _ (by simp)];exact b7
 go_wp2_with fail;refine ⟨fun _=>b9, ?_⟩;refine tq 11 (h:=tq 12 (h:=tO 13 (h:=?_)));have d3:((r.setCell ⟨kb,1,none⟩ (.int .u64 (E.toNat:Int))).setCell ⟨kb,2,none⟩ (.slice ra F.lines.1.length rc)).cell? ⟨kb,0,none⟩=some (.int .u64 (E.toNat:Int)):=by rw [World.cell?_setCell_other _ _ _ _ (by simp)];exact b9
 go_wp2_with fail;refine ⟨fun _=>d3, ?_⟩;refine tD (h:=?_);go_wp2_with fail
 first | go_end0 | refine bodyPost_ret (results_none rfl _ _ _) rfl ?_
 exact ⟨_,J,rfl,d1.out,rfl,hF.out.1,hF.out.2⟩
theorem ArG.source {w:World}{o:Own}{base:Nat}{t:Nat × Nat}{v:Value}{ls:List Ar}(h:ArG w o base t v ls) (h0:0<ls.length) :
  ∃ g c cs,v = .slice (some ⟨g,0,none⟩) ls.length c/\w.rangeAt g 0 cs/\sW w o cs ls/\(∀ u ∈ cs,CV base u):=by
 obtain ⟨cs,q,O,r,h4⟩:=h
 rcases q.2 with ⟨_,h⟩ | ⟨g,cap,cur,rfl,U,F,W,Y,q5,J⟩
 ·omega
 ·refine ⟨g,cap,cs,rfl, ?_,r,h4⟩;have:=BU (w:=w) (b:=g) (cs:=cur.toList) (E:=41) (fr:=(0,0)) (by simpa using F) 0 (ls.length*2);rw [List.drop_zero,J] at this;exact this
theorem ArG.iK {w:World}{o:Own}{base n c:Nat}{a:Option Addr}{t:Nat × Nat}{ls:List Ar}(h:ArG w o base t (.slice a n c) ls):n<=c/\n=ls.length:=by
 obtain ⟨r,q,u,E,h4⟩:=h
 rcases q.2 with ⟨h,h0⟩ | ⟨g,cap,cur,h,F,J,O,U,W,Y⟩
 ·cases h;omega
 ·cases h;omega
theorem ArG.Zh {W:World}{o:Own}{base F X:Nat}{U:Nat × Nat}{v J:Value}{q r:List Ar}(h:ArG W o base (X,0) v q) (Y:X ≠ 0) (a4:base<=W.heap.size) (O:ArG W o F U J r) (a5:base<=F) (hn:q.length+r.length<=100000) :
  ∃ nv w' o',(Builtin.append_ #[35,35] 35 #[v,J]).run prog W = .ok nv w'/\ArG w' o' base (X,0) nv (q++r)/\aj (ak X) W o w' o':=by
 by_cases h0:r.length=0
 ·have e:=List.eq_nil_of_length_eq_zero h0;subst e;obtain ⟨a,c,rfl⟩:=h.form;obtain ⟨E,c2,rfl⟩:=O.form;have:=h.iK.1;refine ⟨_,W,o,CB (P:=prog) W 35 35 41 2 underlying35 (by kernel_rfl) a E q.length c c2 this (by simp at hn;omega),by rw [List.append_nil];exact h,aj.refl _ _ _⟩
 ·obtain ⟨g,c,cs,rfl,q1,q2,q3⟩:=O.source om;obtain ⟨nv,w',o',a1,E,a3, -, -⟩:=h.append Y a4 q1 q2 (fun u hu=>(q3 u hu).low a5) om hn (c:=c);exact ⟨nv,w',o',a1,E,a3⟩
theorem UO (q:Tg K X Z) (h:Ny w o K X kb base k) (hr:Ep w o Z p m) (hm:m.b.length<=1000000) (a8:base<=w.heap.size) (hk:k.lines.length<=90000) :
  Calls prog 175 #[.pointer (some ⟨kb,0,none⟩), .pointer (some ⟨p,0,none⟩)] w (XL (In3 K X Z) w o fun v w' o'=>v = .tuple #[]/\Ny w' o' K X kb base (k.Fb m).1/\Ep w' o' Z p (k.Fb m).2):=by
 obtain ⟨lv,u,E,F⟩:=h;obtain ⟨Y,hY⟩:∃ Y,Y=K+X+Z+1:=⟨_,rfl⟩;have c0:Y ≠ 0:=om
 have c3:Y ≠ Z:=om
 have a9:=ae (fun (W:World) (O:Own) (st:aj ai w o W O)=>JP (X:=Y) (hr.step st id id) q.z0 c0 c3 hm);have c8:=m.KQ.2;have c2:w.cell? ⟨kb,2,none⟩=some lv:=ag (cs:=[_,_,_]) u 2;have nD:=ae q;have hH:=ae (aI u (aI E F));have b1:=au u;obtain ⟨ka,kc,rfl⟩:=F.form;unfold AX.Fb;generalize m.lines.1=J at *;generalize m.lines.2=mL at *;clear u E F hr q;go_enter func175,ntmps175;go_wp2_with fail;refine Aa (fun w'=>w'.cell? ⟨kb,2,none⟩=some (.slice ka k.lines.length kc)) (fun i=>decide (i<10)) (by kernel_rfl) c2 (fun c4 => ?_);refine tq 0 (h:=tq 1 (h:=tq 2 (h:=tq 3 (h:=tq 4 (h:=tq 5 (h:=tO 6 (h:=?_)))))));go_wp2_with fail;have a4:=(aj.refl ai w o).drew;refine (a9.out _ _ a4).mono ?_;rintro e w3 ⟨v3,o3,rfl,r,a5,b2⟩;have r:aj (ak Z) w o w3 o3:=(a4.only Z).trans r;have q:=nD.out;obtain ⟨u,E,F⟩:=hH.out;have U:=(r.block kb b1 (by rw [E];exact fun h=>q.kz h)).trans u;have b3:=(r.own kb b1).trans E;have b4:=F.step r (fun h=>q.xz h) (fun h=>q.z0 h.symm);have b5:w3.cell? ⟨kb,2,none⟩=some (.slice ka k.lines.length kc):=ag (cs:=[_,_,_]) U 2;have c6:base<=w3.heap.size:=Nat.le_trans a8 r.size;obtain ⟨nv,w4,o4,b6,a6,a2⟩:=b4.Zh q.x0 c6 a5 (show base<=(w.drew).heap.size from a8) om;have b7:=ae b6;have a3:=(a2.block kb (au U) (by rw [b3];exact fun h=>q.kx h)).trans U;have b8:=(a2.own kb (au U)).trans b3;have b9:=b2.step a2 (fun h=>q.xz h.symm) (fun h=>q.x0 h.symm);have a7:w4.cell? ⟨kb,2,none⟩=some (.slice ka k.lines.length kc):=ag (cs:=[_,_,_]) a3 2;have f4:w4.frozen? ⟨kb,2,none⟩=false:=Ap (cs:=[_,_,_]) a3 2;obtain ⟨ra,rc,rfl⟩:=a5.form;obtain ⟨na,nc,rfl⟩:=a6.form;have g2:=(aj.refl (ak K) w4 o4).setCell (a:=⟨kb,2,none⟩) (.slice na (k.lines++J).length nc) (.inl (by show (o4 kb).1=K;rw [b8]));have k1:=Ai (cs:=[_,_,_]) (i:=2) (.slice na (k.lines++J).length nc) a3;have hF:=ae (show Ny (w4.setCell ⟨kb,2,none⟩ (.slice na (k.lines++J).length nc)) o4 K X kb base { k with lines:=k.lines++J }/\Ep (w4.setCell ⟨kb,2,none⟩ (.slice na (k.lines++J).length nc)) o4 Z p mL from
  ⟨⟨_,k1,b8,a6.step g2 (fun h=>q.kx h.symm) (fun h=>q.k0 h.symm)⟩,b9.step g2 (fun h=>q.kz h.symm) (fun h=>q.k0 h.symm)⟩)
 have c7:=ae ((((r.mono (T':=In3 K X Z) (fun _ h => .inr (.inr h)))).trans (a2.mono (fun _ h => .inr (.inl h)))).trans (g2.mono (fun _ h => .inl h)));generalize (k.lines++J).length=NL at *;clear r a5 b2 a2 a6 g2 k1 q a9 U a3 b4 b9 u E F c4 b6 a4;go_wp2_with fail;refine ⟨fun _=>b5, ?_⟩;refine tO 7 (h:=?_);refine Bl b7.out ?_;refine wpList_nil ?_;simp only [Act.put,GL,DL,lss];refine ⟨fun _=>a7, ?_⟩;refine tO 8 (h:=?_);go_wp2_with fail;refine ⟨fun _=>a7, ?_⟩;refine tq 9 (h:=tO 10 (h:=?_));go_wp2_with fail;refine ⟨fun h=>by simp at h, ?_⟩;refine tD (h:=?_);clear a7 b5 b7;go_wp2_with fail
 first | go_end0 | refine bodyPost_ret (results_none rfl _ _ _) rfl ?_
 exact ⟨_,o4,rfl,c7.out,rfl,hF.out.1,hF.out.2⟩
theorem Fq (w:World):Calls prog 122 #[.bool true] w fun e w'=>e = .returned (.tuple #[])/\w=w':=by
 go_enter func122,ntmps122
 go_wp2
 first | go_end0 | refine bodyPost_ret (results_none rfl _ _ _) rfl ?_
 exact ⟨rfl,rfl⟩
end
def Fh (k:AX) (b:List UInt8):Option AX:=
 let t:=(oQ.mk b false).num 1
 if t.1.toNat % 256=2 then (if (k.Ez t.2).2.done=0 then some (k.Ez t.2).1 else none)
 else if t.1.toNat % 256=3 then (if (k.FW t.2).2.done=0 then some (k.FW t.2).1 else none)
 else if t.1.toNat % 256=4 then (if (k.Fb t.2).2.done=0 then some (k.Fb t.2).1 else none)
 else none
def FV:AX->List (List UInt8)->Option AX
 | k,[]=>some k
 | k,b :: r=>match Fh k b with
  | some k'=>FV k' r
  | none=>none
def EF (b:List UInt8):Option (BitVec 64 × AX):=
 let t:=(oQ.mk b false).num 1
 let a:=t.2.num 8
 let p:=a.2.num 8
 let c:=p.2.num 8
 let l:=c.2.lines
 if t.1.toNat % 256=1/\l.2.done=0/\0<a.1.toNat then some (a.1,⟨p.1,c.1,l.1⟩) else none
def DK:List (List UInt8)->Option (BitVec 64 × AX)
 | []=>some (0,⟨0,0,[]⟩)
 | b :: r=>match EF b with
  | some (a,k)=>(FV k r).map fun k'=>(a,k')
  | none=>none
def FB:Obj := .map #[⟨.int .u8 2, .func (.func 173) #[] #[],0⟩,⟨.int .u8 3, .func (.func 174) #[] #[],1⟩,⟨.int .u8 4, .func (.func 175) #[] #[],2⟩] 3
section
variable {P:Program}{ops:Array Oper}{Q:Exit->Act->World->Prop}{rest:List Oper}{d:Option Nat}{ty:TypeId}{ps:String}{af:Array _}{a:Act}{w w':World}{v:Value}
theorem Ji {m k x:Operand}{t:TypeId}(q:(Instr.mapUpdate t (a.eval m) (a.eval k) (a.eval x)).run P w = .ok () w') (h:wpList P ops Q rest (a.put d undef) w') :
  wpList P ops Q ({ dst:=d,op := .insert t m k x,type:=ty,pos:=ps,after:=af,guard:=none } :: rest) a w:=
 wpList_plain rfl fun _ r=>by
  unfold Oper.wp execOp;simp only [Sem.run_bind,q,Result.andThen_ok,Sem.run_pure];exact r _ _ h
theorem Iq {t:TypeId}(q:(Instr.makeMap t none).run P w = .ok v w') (h:wpList P ops Q rest (a.put d v) w') :
  wpList P ops Q ({ dst:=d,op := .makeMap t none,type:=ty,pos:=ps,after:=af,guard:=none } :: rest) a w:=
 wpList_plain rfl fun _ r=>by
  unfold Oper.wp execOp;simp only [Option.map_none,Sem.run_bind,q,Result.andThen_ok,Sem.run_pure];exact r _ _ h
theorem DN {m k:Operand}{t:TypeId}{ok:Bool}(q:(Instr.lookup t (a.eval m) (a.eval k) ok).run P w = .ok v w') (h:wpList P ops Q rest (a.put d v) w') :
  wpList P ops Q ({ dst:=d,op := .lookup t m k ok,type:=ty,pos:=ps,after:=af,guard:=none } :: rest) a w:=
 wpList_plain rfl fun _ r=>by
  unfold Oper.wp execOp;simp only [Sem.run_bind,q,Result.andThen_ok,Sem.run_pure];exact r _ _ h
end
theorem OC (w:World) (o1 o2:Obj):({ (w.alloc o1) with heap:=(w.alloc o1).heap.setIfInBounds w.heap.size o2 }:World)=w.alloc o2:=by
 cases w
 simp only [World.alloc];congr 1;apply Array.ext_getElem?;intro i;simp only [Array.getElem?_setIfInBounds,Array.getElem?_push,Array.size_push];split <;> rename_i h
 ·subst h;simp
 ·have:¬ i=_:=fun q=>h q.symm;simp [this]
theorem SN (w:World):(Instr.makeMap 188 none).run prog w = .ok (.map (some w.heap.size)) (w.alloc (.map #[] 0)):=by
 rfl
theorem Lr (w:World) (es:Array MapEntry) (q:Nat) (k:Int) (v:Value) (r:Instr.findNow (.int .u8) (.int .u8 k) es.toList 0=some none) :
  (Instr.mapUpdate 245 (.map (some w.heap.size)) (.int .u8 k) v).run prog (w.alloc (.map es q)) = .ok () (w.alloc (.map (es.push ⟨.int .u8 k,v,q⟩) (q+1))):=by
 have hb:(w.alloc (.map es q)).heap[w.heap.size]?=some (.map es q):=heap_alloc_new w _;have u:(Instr.checkKey false 10000 5 (.int .u8 k)).run prog (w.alloc (.map es q)) = .ok () (w.alloc (.map es q)):=by
  unfold Instr.checkKey;simp [run_underlying underlying5]
 have E:(Instr.findKey 5 (.int .u8 k) es.toList).run prog (w.alloc (.map es q)) = .ok none (w.alloc (.map es q)):=by
  simp [Instr.findKey,run_underlying underlying5,r]
 simp only [Instr.mapUpdate,Sem.run_bind,run_underlying underlying245,Result.andThen_ok,MapKept.run_getObj_map hb,u,E,MapKept.run_setObj_map _ hb];rw [OC]
theorem JO {w:World}{b:Nat}(hb:w.heap[b]?=some FB):(∀ (f:Nat),(f=2 \/ f=3 \/ f=4)->(Instr.lookup 245 (.map (some b)) (.int .u8 (f:Int)) true).run prog w = .ok (.tuple #[.func (.func (f+171)) #[] #[], .bool true]) w):=by
 intro f q;have r:∀ k:Int,(Instr.checkKey false 10000 5 (.int .u8 k)).run prog w = .ok () w:=fun k=>by
  unfold Instr.checkKey;simp [run_underlying underlying5]
 unfold FB at hb;rcases q with rfl | rfl | rfl
 all_goals
  simp only [Instr.lookup,Sem.run_bind,run_underlying underlying245,Result.andThen_ok,MapKept.run_getObj_map hb,Sem.run_pure,Instr.findKey,run_underlying underlying5];simp [Instr.findNow,Instr.sameNow,r]
theorem JC {P:Program}{q:Func}{p u:Tmp}{ty:TypeId}(h:q.results = #[.tmp u, .cell p ty]) (tmps:Array Value) (w:World) (g:Nat) (t:TypeId) (cs:Array Value) (fr:Nat × Nat) (d:TypeDesc)
  (hp:tmps.getD p undef = .pointer (some ⟨g,0,none⟩)) (r:w.heap[g]?=some (.cells cs t fr))
  (E:P.underlying ty=some d) (F:(match d with | .struct _ | .array _ _=>true | _=>false)=true) (hi:(P.info? ty).map (·.size)=some cs.size) :
  (results q tmps).run P w = .ok (.tuple #[tmps.getD u undef, .agg cs]) w:=by
 rw [Array.getD_eq_getD_getElem?] at hp;unfold results;rw [h];simp [hp,asAddr,run_loadVar_row w g t ty cs fr d r E F hi]
theorem Oo {k:AX}{b:List UInt8}{r:List (List UInt8)}{kf:AX}(h:FV k (b :: r)=some kf):∃ q,Fh k b=some q/\FV q r=some kf:=by
 unfold FV at h
 cases u:Fh k b with
 | none=>rw [u] at h;cases h
 | some q=>rw [u] at h;exact ⟨q,rfl,h⟩
theorem Uw (w:World) (o:Own) (a:Option Addr) (c:Nat):Calls prog 123 #[.slice a 0 c] w (XL ai w o fun r w' o'=>∃ lv,r = .tuple #[.int .u64 0,Dy 0 0 lv]/\Lines w' o' w.heap.size lv []/\o'=ext w o):=by
 have q:=(aj.refl ai w o).alloc (.cells #[.int .u64 0, .int .u64 0, .slice none 0 0] 37) (0,0);have u:(w.alloc (.cells #[.int .u64 0, .int .u64 0, .slice none 0 0] 37)).heap[w.heap.size]?=some (.cells [.int .u64 0, .int .u64 0, .slice none 0 0].toArray 37 (0,0)):=heap_alloc_new w _;have F:=ae (AB (P:=prog) w 37 _ LX);obtain ⟨E,J⟩:=Ba (P:=prog) (ty:=37) (vs:=[.int .u64 0, .int .u64 0, .slice none 0 0]) u rfl (by kernel_rfl) rfl;have O:=ae E;have U:=q.setCells w.heap.size 0 [.int .u64 0, .int .u64 0, .slice none 0 0] (.inr (Nat.le_refl _));clear E q u;go_enter func123,ntmps123
 go_wp2_with (first
  | ((with_reducible apply AU);exact F.out;simp only [Act.put,GL,DL,lss])
  | ((with_reducible apply AC);exact O.out;simp only [Act.put]))
 refine bodyPost_ret (JC rfl _ _ w.heap.size 37 _ (0,0) _ rfl J underlying37 rfl Ij) rfl ?_;exact ⟨_,ext w o,rfl,U.Me _ (fun k W=>if_pos W),_,rfl,Lines.nil _ _ _,rfl⟩
theorem QJ {b:List UInt8}{age:BitVec 64}{k:AX}(h:EF b=some (age,k)) (hb:b.length<=1000000) :
  ∃ T q r P m3 C m4 L u,(oQ.mk b false).num 1=(T,q)/\q.num 8=(age,r)/\r.num 8=(P,m3)/\m3.num 8=(C,m4)/\m4.lines=(L,u)/\T.toNat % 256=1/\u.done=0/\0<age.toNat/\k=⟨P,C,L⟩ /\
   q.b.length<=1000000/\r.b.length<=1000000/\m3.b.length<=1000000/\m4.b.length<=1000000/\L.length<=256:=by
 unfold EF at h;simp only at h;have F:=oQ.EC 1 (oQ.mk b false);generalize h1:(oQ.mk b false).num 1=t at *;obtain ⟨T,q⟩:=t;have J:=oQ.EC 8 q;simp only at h F;generalize O:q.num 8=t at *;obtain ⟨A,r⟩:=t;have U:=oQ.EC 8 r;simp only at h J;generalize W:r.num 8=t at *;obtain ⟨P,m3⟩:=t;have Y:=oQ.EC 8 m3;simp only at h U;generalize h4:m3.num 8=t at *;obtain ⟨C,m4⟩:=t;have E:=oQ.KQ m4;simp only at h Y;generalize h5:m4.lines=t at *;obtain ⟨L,u⟩:=t;simp only at h E;split at h
 ·rename_i hc;simp only [Option.some.injEq,Prod.mk.injEq] at h;obtain ⟨rfl,rfl⟩:=h;exact ⟨T,q,r,P,m3,C,m4,L,u,rfl,O,W,h4,h5,hc.1,hc.2.1,hc.2.2,rfl,om,om,om,om,E.2⟩
 ·cases h
theorem Ol {k r:AX}{b:List UInt8}(h:Fh k b=some r) (hb:b.length<=1000000) :
  ∃ T q,(oQ.mk b false).num 1=(T,q)/\q.b.length<=1000000/\((T.toNat % 256=2/\(k.Ez q).2.done=0/\r=(k.Ez q).1) \/ (T.toNat % 256=3/\(k.FW q).2.done=0/\r=(k.FW q).1) \/ (T.toNat % 256=4/\(k.Fb q).2.done=0/\r=(k.Fb q).1)):=by
 unfold Fh at h;simp only at h;have u:=oQ.EC 1 (oQ.mk b false);generalize E:(oQ.mk b false).num 1=t at *;obtain ⟨T,q⟩:=t;simp only at h u;refine ⟨T,q,rfl,om, ?_⟩;split at h
 ·rename_i hT;split at h
  ·rename_i hd;cases h;exact .inl ⟨hT,hd,rfl⟩
  ·cases h
 ·split at h
  ·rename_i hT;split at h
   ·rename_i hd;cases h;exact .inr (.inl ⟨hT,hd,rfl⟩)
   ·cases h
  ·split at h
   ·rename_i hT;split at h
    ·rename_i hd;cases h;exact .inr (.inr ⟨hT,hd,rfl⟩)
    ·cases h
   ·cases h
theorem SY {k q:AX}{b:List UInt8}(h:Fh k b=some q) (hb:b.length<=1000000):q.lines.length<=k.lines.length+256:=by
 obtain ⟨T,r, -, -,h⟩:=Ol h hb
 rcases h with ⟨-, -,rfl⟩ | ⟨-, -,rfl⟩ | ⟨-, -,rfl⟩
 ·unfold AX.Ez;simp
 ·unfold AX.FW;have:=(r.num 8).2.KQ.2;simp only;omega
 ·unfold AX.Fb;have:=r.KQ.2;simp only [List.length_append];omega
theorem aj.still {T:Nat->Prop}{w w':World}{o o':Own}(h:aj T w o w' o') (r:∀ k,k<w.heap.size->¬ T (o k).1):aj ai w o w' o':=
 ⟨h.os,h.tape,h.output,h.size,h.own,fun k q _=>h.block k q (r k q)⟩
theorem Yt {w:World}{o:Own}{b off n c:Nat}{vs:List Value}(h:sH w o (.slice (some ⟨b,off,none⟩) n c) n vs) (hl:vs.length=n) (O:1<=n) :
  ∃ a' c',(Instr.sliceAt 181 (.slice (some ⟨b,off,none⟩) n c) (some (.int .i64 1)) none none).run prog w = .ok (.slice a' (n - 1) c') w/\sH w o (.slice a' (n - 1) c') (n - 1) (vs.drop 1):=by
 have r:prog.underlying 181=some (.slice (prog.elem 181)):=by kernel_rfl
 have u:(sizeOf (prog.elem 181)).run prog w = .ok 1 w:=by
  have:prog.elem 181=29:=by kernel_rfl
  rw [this];have q:(prog.info? 29).map (·.size)=some 1:=by kernel_rfl
  cases hq:prog.info? 29 with
  | none=>simp [hq] at q
  | some i=>simp [hq] at q;simp [sizeOf,typeInfo,hq,q]
 rcases h with ⟨⟨a,c,hq⟩,h0,_⟩ | ⟨b',U,cap,hq,W,Y,E,hb,F⟩
 ·omega
 ·cases hq
  refine ⟨if c=1 then some ⟨b,off,none⟩ else some ⟨b,off+1,none⟩,c - 1, ?_, ?_⟩
  ·rw [run_sliceAt_slice _ _ _ _ _ _ r,run_slice_l w 181 _ n c r .i64 1 om om,u];simp only [Result.andThen_ok,sliced,Option.map_some,Int.toNat_one,addr_add,Nat.mul_one]
  ·by_cases J:n=1
   ·subst J;exact .inl ⟨⟨_,_,rfl⟩,rfl,by rw [List.drop_eq_nil_of_le om]⟩
   ·rw [if_neg om];refine .inr ⟨b,off+1,c - 1,rfl,om,om,E,hb, ?_⟩;have:=ER F 1 (n - 1);rw [List.take_of_length_le (by rw [List.length_drop];omega)] at this;exact this
section
variable {w:World}{o:Own}{v:Value}{vs:List Value}{bs:List (List UInt8)}{age:BitVec 64}{kf:AX}
theorem Sv {b0:List UInt8}(hv:sH w o v (bs.length+1) vs) (f6:Ey w o vs (b0 :: bs)) (b4:∀ b ∈ b0 :: bs,b.length<=1000000) (j8:bs.length<300) (hm:DK (b0 :: bs)=some (age,kf)) :
  Calls prog 123 #[v] w (XL ai w o fun r w' o'=>∃ lv,r = .tuple #[.int .u64 (age.toNat:Int),Dy kf.promised kf.current lv]/\Lines w' o' w.heap.size lv kf.lines/\o'=ext w o):=by
 obtain ⟨M,q0,hM⟩:=EZ o 1 w.heap.size;have ht:Tg (M+1) (M+2) (M+3):=⟨om,om,om,om,om,om⟩;have e3:∀ k,k<w.heap.size->¬ In3 (M+1) (M+2) (M+3) (o k).1:=fun k hk h=>by
  have:=hM k hk;unfold In3 at h;omega
 have a9:¬ In3 (M+1) (M+2) (M+3) (M+4):=fun h=>by unfold In3 at h;omega
 have j9:M+4 ≠ 0:=om
 generalize M+1=K at ht e3 a9;generalize M+2=X at ht e3 a9;generalize M+3=Z at ht e3 a9;generalize M+4=Y at a9 j9;clear hM q0 M;have hf:∃ k,EF b0=some (age,k)/\FV k bs=some kf:=by
  simp only [DK] at hm
  cases hr:EF b0 with
  | none=>rw [hr] at hm;cases hm
  | some q =>
   obtain ⟨a,k⟩:=q;rw [hr] at hm;simp only [Option.map_eq_some_iff,Prod.mk.injEq] at hm;obtain ⟨k',h1,h2,h3⟩:=hm;subst h2 h3;exact ⟨k,rfl,h1⟩
 obtain ⟨k0,k3,k7⟩:=hf;clear hm;obtain ⟨n,hn⟩:=az (bs.length+1);rw [hn] at hv;obtain ⟨va,vc,rfl⟩:=Aq hv;have k8:vs.length=n:=by rw [f6.1, <-hn];rfl
 obtain ⟨e0,b5⟩:∃ e0,vs[0]?=some e0:=⟨_,List.getElem?_eq_getElem om⟩;have g9:Bytes w o e0 b0:=f6.2 0 e0 b0 b5 rfl;obtain ⟨rb,l0,rfl,q6,t4,t5⟩:=hv.cell 0 b5;obtain ⟨ea,ec,rfl⟩:=Aq g9;have s1:=(aj.refl ai w o).alloc (.cells #[.int .u64 0, .int .u64 0, .slice none 0 0] 37) (Y,0);have d3:=ae (AB (P:=prog) w 37 _ LX);have l1:(w.alloc (.cells #[.int .u64 0, .int .u64 0, .slice none 0 0] 37)).heap[w.heap.size]?=some (.cells [.int .u64 0, .int .u64 0, .slice none 0 0].toArray 37 (0,0)):=heap_alloc_new w _;have f7:=ae (SN (w.alloc (.cells #[.int .u64 0, .int .u64 0, .slice none 0 0] 37)));have b6:=ae (Lr (w.alloc (.cells #[.int .u64 0, .int .u64 0, .slice none 0 0] 37)) #[] 0 2 (.func (.func 173) #[] #[]) rfl);have f8:=ae (Lr (w.alloc (.cells #[.int .u64 0, .int .u64 0, .slice none 0 0] 37)) #[⟨.int .u8 2, .func (.func 173) #[] #[],0⟩] 1 3 (.func (.func 174) #[] #[]) rfl);have d5:=ae (Lr (w.alloc (.cells #[.int .u64 0, .int .u64 0, .slice none 0 0] 37)) #[⟨.int .u8 2, .func (.func 173) #[] #[],0⟩,⟨.int .u8 3, .func (.func 174) #[] #[],1⟩] 2 4 (.func (.func 175) #[] #[]) rfl);have s2:=s1.alloc FB (0,0);have e4:((w.alloc (.cells #[.int .u64 0, .int .u64 0, .slice none 0 0] 37)).alloc FB).heap[(w.alloc (.cells #[.int .u64 0, .int .u64 0, .slice none 0 0] 37)).heap.size]?=some FB:=heap_alloc_new _ _;have h5:Ak (Ak o w.heap.size (Y,0)) (w.alloc (.cells #[.int .u64 0, .int .u64 0, .slice none 0 0] 37)).heap.size (0,0) (w.alloc (.cells #[.int .u64 0, .int .u64 0, .slice none 0 0] 37)).heap.size=(0,0):=Au _ _ _;have g0:=(Below.heap_alloc (w.alloc (.cells #[.int .u64 0, .int .u64 0, .slice none 0 0] 37)) FB w.heap.size (by simp)).trans l1;have l2:Ak (Ak o w.heap.size (Y,0)) (w.alloc (.cells #[.int .u64 0, .int .u64 0, .slice none 0 0] 37)).heap.size (0,0) w.heap.size=(Y,0):=by rw [BI _ _ (by simp)];exact Au _ _ _
 generalize Ak (Ak o w.heap.size (Y,0)) (w.alloc (.cells #[.int .u64 0, .int .u64 0, .slice none 0 0] 37)).heap.size (0,0)=o2 at *;have q7:Value.map (some (w.alloc (.cells #[.int .u64 0, .int .u64 0, .slice none 0 0] 37)).heap.size) = .map (some (w.heap.size+1)):=by simp
 have h6:(w.alloc (.cells #[.int .u64 0, .int .u64 0, .slice none 0 0] 37)).heap.size=w.heap.size+1:=by simp
 rw [h6] at e4 h5;obtain ⟨W1,q8⟩:=az (w.alloc (.cells #[.int .u64 0, .int .u64 0, .slice none 0 0] 37));obtain ⟨W2,h7⟩:=az (W1.alloc FB);rw [q8] at d3 f7 b6 f8 d5 s2 e4 g0 h6;rw [h7] at s2 e4 g0;rw [h6] at f7 b6 f8 d5;have d5:=ae (show Sem.run prog (Instr.mapUpdate 245 (.map (some (w.heap.size+1))) (.int .u8 4) (.func (.func 175) #[] #[])) _=Result.ok () W2 from h7 ▸ d5.out);have d6:=s2;have l3:=(g9.step d6 id);have q9:W2.cell? ⟨rb,l0,none⟩=some (.slice ea b0.length ec):=by
  obtain ⟨b',t6,h1,h2, -, -⟩:=(hv.step d6 id).cell 0 b5
  cases h1;exact h2
 have r0:((n:Int) == 0)=false:=by simp;omega
 have r1:(0:Int)<n:=om
 have e5:=ae (NH Z l3 (b4 b0 (by simp)));have l4:=ae (hv.step d6 id);have l5:=ae (f6.step d6 id);have b1:=ae (d6);have e6:=ae (aI e4 h5);have e7:=ae (aI g0 l2);have J:=ae ht;have r2:=ae e3;have g1:=ae b4;have l6:=ae k3;have pR:=ae k7;have h8:=ae k8;have l7:=ae hn;have rD:=ae j8;clear hv f6 l3 s1 s2 d6 e4 h5 g0 l2 l1 ht e3 b4 k3 k7 g9 b5 q6 q7 h7 k8 hn j8;go_enter func123,ntmps123
 go_wp2_with (first
  | ((with_reducible apply AU);exact d3.out;simp only [Act.put,GL,DL,lss])
  | ((with_reducible apply Iq);exact f7.out;simp only [Act.put,GL,DL,lss])
  | ((with_reducible apply Ji);(first | exact b6.out | exact f8.out | exact d5.out);simp only [Act.put]))
 refine e5.out.mono ?_;rintro e w3 ⟨v3,o3,rfl,U,p,r3,rfl,a5⟩;obtain ⟨T,m1,m2,P,m3,C,m4,L,m5,q1,q2,q3,q4,q5,qT,qD,qA,rfl,n1,n2,n3,n4,nL⟩:=QJ l6.out (g1.out b0 (by simp));have a2:=ae (NI a5 J.out.z0 (g1.out b0 (by simp)));rw [q1] at a2;simp only [qT] at a2;have h9:=ae (b1.out.trans U);have r4:=ae qA;have l8:=ae q2;have l9:=ae q3;have m0:=ae q4;have m6:=ae q5;have m7:=ae qD;clear q1 q2 q3 q4 q5 qD qT a5 r3 f7 b6 f8 d5 d3 e5 q9 qA;have g3:=ae (aI (l4.out.step U id) (aI (l5.out.step U id) (aI ((U.block _ (au e6.out.1) id).trans e6.out.1) ((U.block _ (au e7.out.1) id).trans e7.out.1))));have e8:=ae (aI ((U.own _ (au e6.out.1)).trans e6.out.2) ((U.own _ (au e7.out.1)).trans e7.out.2));clear l4 l5 e6 e7 b1 U;go_wp2_with fail;refine a2.out.mono ?_;rintro e w4 ⟨v4,o4,rfl,a6,rfl,a7⟩;clear a2;go_wp2_with fail;refine (Fq w4).mono ?_;rintro e t7 ⟨rfl,rfl⟩;have hu:=ae (EJ a7 J.out.z0 n1);rw [l8.out] at hu;clear a7;go_wp2_with fail;refine hu.out.mono ?_;rintro e w5 ⟨v5,o5,rfl,m8,rfl,m9⟩;clear hu;have hu:=ae (EJ m9 J.out.z0 n2);rw [l9.out] at hu;clear m9;go_wp2_with fail;refine hu.out.mono ?_;rintro e w6 ⟨v6,o6,rfl,n0,rfl,n5⟩;clear hu;have hu:=ae (EJ n5 J.out.z0 n3);rw [m0.out] at hu;clear n5;go_wp2_with fail;refine hu.out.mono ?_;rintro e W ⟨v7,o7,rfl,n6,rfl,yU⟩;clear hu;have i0:=ae (((a6.trans m8).trans n0).trans n6);clear a6 m8 n0 n6;have d3:=ae (AB (P:=prog) W 37 _ LX);have s8:=(aj.refl ai W o7).alloc (.cells #[.int .u64 0, .int .u64 0, .slice none 0 0] 37) (K,0);have b8:(W.alloc (.cells #[.int .u64 0, .int .u64 0, .slice none 0 0] 37)).heap[W.heap.size]?=some (.cells [.int .u64 0, .int .u64 0, .slice none 0 0].toArray 37 (0,0)):=heap_alloc_new W _;have o8:Ak o7 W.heap.size (K,0) W.heap.size=(K,0):=Au _ _ _;obtain ⟨e9,a8⟩:=Ba (P:=prog) (ty:=37) (vs:=[.int .u64 (P.toNat:Int), .int .u64 (C.toNat:Int), .slice none 0 0]) b8 rfl (by kernel_rfl) rfl;have d7:=ae e9;have s9:=(aj.refl (ak K) (W.alloc (.cells #[.int .u64 0, .int .u64 0, .slice none 0 0] 37)) (Ak o7 W.heap.size (K,0))).setCells W.heap.size 0 [.int .u64 (P.toNat:Int), .int .u64 (C.toNat:Int), .slice none 0 0] (.inl (by show (Ak o7 W.heap.size (K,0) W.heap.size).1=K;rw [o8]));have d8:=(yU.step s8 id id).step s9 (fun h=>J.out.kz h.symm) (fun h=>J.out.k0 h.symm);have i1:=ae ((s8.mono (T':=In3 K X Z) (fun _ h=>h.elim)).trans (s9.mono (fun _ h => .inl h)));have g2:W.heap.size<((W.alloc (.cells #[.int .u64 0, .int .u64 0, .slice none 0 0] 37)).setCells W.heap.size 0 [.int .u64 (P.toNat:Int), .int .u64 (C.toNat:Int), .slice none 0 0]).heap.size:=au a8;generalize Ak o7 W.heap.size (K,0)=t8 at *;obtain ⟨W8,n7⟩:=az ((W.alloc (.cells #[.int .u64 0, .int .u64 0, .slice none 0 0] 37)).setCells W.heap.size 0 [.int .u64 (P.toNat:Int), .int .u64 (C.toNat:Int), .slice none 0 0]);rw [n7] at d7 a8 d8 i1 g2;clear e9 s8 s9 yU b8 n7;obtain ⟨kb,r5⟩:=az (W.heap.size);rw [r5] at d7 a8 g2 o8 d3;have hl:=ae (JP (X:=X) d8 J.out.z0 J.out.x0 J.out.xz n4);rw [m6.out] at hl;clear d8
 go_wp2_with (first
  | ((with_reducible apply AU);exact d3.out;simp only [Act.put,GL,DL,lss])
  | ((with_reducible apply AC);exact d7.out;simp only [Act.put]))
 refine hl.out.mono ?_;rintro e w9 ⟨v9,o9,rfl,g4,i2,d8⟩;have b9:=(g4.block kb g2 (by rw [o8];exact fun h=>J.out.kz h)).trans a8;have k9:o9 kb=(K,0):=(g4.own kb g2).trans o8;obtain ⟨la,lc,rfl⟩:=i2.form;have d4:=(aj.refl (ak K) w9 o9).setCell (a:=⟨kb,2,none⟩) (.slice la L.length lc) (.inl (by show (o9 kb).1=K;rw [k9]));have n8:=Ai (cs:=[_,_,_]) (i:=2) (.slice la L.length lc) b9;have f9:w9.frozen? ⟨kb,2,none⟩=false:=Ap (cs:=[_,_,_]) b9 2;have c9:w9.cell? ⟨kb,2,none⟩=some (.slice none 0 0):=ag (cs:=[_,_,_]) b9 2;have i3:=d8.step d4 (fun h=>J.out.kz h.symm) (fun h=>J.out.k0 h.symm);have t9:w.heap.size<=kb:=by
  have:=h9.out.size;have:=i0.out.size;omega
 have i4:Ny (w9.setCell ⟨kb,2,none⟩ (.slice la L.length lc)) o9 K X kb w.heap.size ⟨P,C,L⟩:=⟨_,n8,k9,by
  obtain ⟨cs,y1,y2,y3,y4⟩:=i2.step d4 (fun h=>J.out.kx h.symm) (fun h=>J.out.k0 h.symm);exact ⟨cs,JX y1 om,y2,y3,fun u hu=>(y4 u hu).low om⟩⟩
 have b7:=((i0.out.mono (T':=In3 K X Z) (fun _ h => .inr (.inr h))).trans i1.out).trans ((g4.mono (T':=In3 K X Z) (fun _ h => .inr (.inr h))).trans (d4.mono (T':=In3 K X Z) (fun _ h => .inl h)));have a3:¬ In3 K X Z 0:=fun h=>by
  have:=J.out.k0;have:=J.out.x0;have:=J.out.z0;unfold In3 at h;omega
 have i5:=ae ((h9.out.mono (T':=In3 K X Z) (fun _ h=>h.elim)).trans b7);have f0:=ae (show sH (w9.setCell ⟨kb,2,none⟩ (.slice la L.length lc)) o9 (.slice (some ⟨rb,l0,none⟩) n vc) n vs/\Ey (w9.setCell ⟨kb,2,none⟩ (.slice la L.length lc)) o9 vs (b0 :: bs)/\((w9.setCell ⟨kb,2,none⟩ (.slice la L.length lc)).heap[w.heap.size+1]?=some FB/\o9 (w.heap.size+1)=(0,0)) /\
   ((w9.setCell ⟨kb,2,none⟩ (.slice la L.length lc)).heap[w.heap.size]?=some (.cells #[.int .u64 0, .int .u64 0, .slice none 0 0] 37)/\o9 w.heap.size=(Y,0)) from
  ⟨g3.out.1.step b7 a3,g3.out.2.1.step b7 a3,⟨(b7.block _ (au g3.out.2.2.1) (by rw [e8.out.1];exact a3)).trans g3.out.2.2.1,(b7.own _ (au g3.out.2.2.1)).trans e8.out.1⟩,
   (b7.block _ (au g3.out.2.2.2) (by rw [e8.out.2];exact a9)).trans g3.out.2.2.2,(b7.own _ (au g3.out.2.2.2)).trans e8.out.2⟩)
 obtain ⟨W9,i6⟩:=az (w9.setCell ⟨kb,2,none⟩ (.slice la L.length lc));rw [i6] at i3 i4 i5 f0;have n9:=ae i6;have o0:=ae i4;have hd:=ae (II i3);rw [m7.out] at hd;clear g4 i2 d8 b9 d4 n8 i3 i4 b7 hl i6 i1 a8 o8 i0 g3 e8 h9;go_wp2_with fail;rw [n9.out];refine hd.out.mono ?_;rintro e w' ⟨rfl,rfl⟩;have r6:decide (0<age.toNat)=true:=decide_eq_true r4.out;have r7:(age.toNat:Int)<18446744073709551616:=by have:=age.isLt;omega
 go_wp2_with fail;refine (Fq W9).mono ?_;rintro e w' ⟨rfl,rfl⟩;clear r6 r7;have hN:n - 1=bs.length:=by have:=l7.out;omega
 obtain ⟨ra,rc,i7,f1⟩:=Yt f0.out.1 h8.out om;rw [hN] at i7 f1;have i8:=ae i7;have hB:Ey W9 o9 (vs.drop 1) bs:=⟨hN ▸ (by rw [List.length_drop,h8.out]),fun i u l hu hl=>f0.out.2.1.2 (i+1) u l (by rw [List.getElem?_drop] at hu;rw [Nat.add_comm];exact hu) (by simpa using hl)⟩;have i9:∀ b ∈ bs,b.length<=1000000:=fun b hb=>g1.out b (List.mem_cons_of_mem _ hb);have r8:=rD.out;obtain ⟨us,p0⟩:=az (vs.drop 1);rw [p0] at hB f1;obtain ⟨N,p1⟩:=az (bs.length);rw [p1] at i8 f1 r8;have p3:=ae f0.out.2.2;have u0:(0:Int)<=(N:Int)/\(N:Int)<300:=om
 clear i7 f0 hN p0 h8 l7 rD g1 r0 r1 l6 l8 l9 m0 m6 m7 hd k9
 go_wp2_with ((with_reducible apply FM);exact i8.out;simp only [Act.put,GL,DL,lss])
 go_loopw [48] (fun i wr=>∃ (k:Nat) (oj:Own) (F:AX),k<=N/\i = .int .i64 k/\Ny wr oj K X kb w.heap.size F/\FV F (bs.drop k)=some kf/\F.lines.length<=256*(k+1)/\sH wr oj (.slice ra N rc) N us/\Ey wr oj us bs /\
  ((wr.heap[w.heap.size+1]?=some FB/\oj (w.heap.size+1)=(0,0))/\wr.heap[w.heap.size]?=some (.cells #[.int .u64 0, .int .u64 0, .slice none 0 0] 37)/\oj w.heap.size=(Y,0))/\aj (In3 K X Z) w o wr oj) (fun i _=>N - (intOf i).toNat)
 case atStart=>exact ⟨0,o9,_,om,rfl,o0.out,pR.out,by simp;omega,f1,hB,p3.out,i5.out⟩
 case round =>
  obtain ⟨k,oj,F,hk,rfl,j0,d9,r9,g5,a8,g6,g7⟩:=hrel;clear o0 pR p3 i5 f1 hB i8 n9 d3 d7 f9 c9 W9
  by_cases u1:k<N
  ·have u2:(k:Int)<N:=om
   have u3:us.length=N:=by rw [a8.1,p1]
   obtain ⟨e0,b5⟩:∃ e0,us[k]?=some e0:=⟨_,List.getElem?_eq_getElem om⟩;obtain ⟨b,hb⟩:∃ b,bs[k]?=some b:=⟨_,List.getElem?_eq_getElem om⟩;have j1:=a8.2 k e0 b b5 hb;have b4:=i9 b (List.mem_of_getElem? hb);obtain ⟨u4,u5,rfl,u6, -, -⟩:=g5.cell k b5;obtain ⟨u7,u9,rfl⟩:=Aq j1;have p4:bs.drop k=b :: bs.drop (k+1):=by
    rw [List.drop_eq_getElem_cons om];rw [List.getElem?_eq_getElem om] at hb;rw [<-Option.some.inj hb]
   rw [p4] at d9;obtain ⟨j2,j3,p5⟩:=Oo d9;have v0:=SY j3 b4;obtain ⟨T,m1,p6,b6,p7⟩:=Ol j3 b4;have e5:=ae (NH Z j1 b4);have E:=ae (aI g5 (aI a8 g6));have s4:=ae j0;have b1:=ae g7;have j4:=ae p5;have s6:=ae p7;have s7:=ae p6;have v1:=ae i9;clear g5 a8 g6 j0 g7 p5 p7 p6 d9 p4 j3 i9 hb b5 j1;go_wp2_with fail;refine e5.out.mono ?_;rintro e w2 ⟨v2,o2,rfl,j5,p2, -,rfl,p8⟩;have a2:=ae (NI p8 J.out.z0 b4);rw [s7.out] at a2;have j6:=ae (j5.mono (T':=In3 K X Z) (fun _ h=>h.elim));have j7:=ae (s4.out.step j5 id id id);clear e5 p8 j5
   rcases s6.out with ⟨hT,hd,c0⟩ | ⟨hT,hd,c0⟩ | ⟨hT,hd,c0⟩
   ·simp only [hT] at a2;have f2:=c0;have f3:=ae hd;clear hT hd c0;go_wp2_with fail;refine a2.out.mono ?_;rintro e w3 ⟨v3,o3,rfl,U,rfl,a5⟩;have a4:=j6.out.trans (U.mono (T':=In3 K X Z) (fun _ h => .inr (.inr h)));have c3:w3.heap[w.heap.size+1]?=some FB:=(a4.block _ (au E.out.2.2.1.1) (by rw [E.out.2.2.1.2];exact a3)).trans E.out.2.2.1.1;have c4:=ae (show (Instr.lookup 245 (.map (some (w.heap.size+1))) (.int .u8 2) true).run prog w3 = .ok (.tuple #[.func (.func 173) #[] #[], .bool true]) w3 from JO c3 2 om);have c6:=j7.out.step U (fun h=>J.out.kz h) (fun h=>J.out.xz h) (fun h=>J.out.z0 h.symm);have g8:w.heap.size<=w3.heap.size:=(b1.out.trans a4).size;have c7:=ae (SS J.out c6 a5 b6);have f4:=ae a4;clear U a4 a5 c3 c6 a2
    go_wp2_with ((with_reducible apply DN);exact c4.out;simp only [Act.put,GL,DL,lss])
    refine (Fq w3).mono ?_;rintro e w' ⟨rfl,rfl⟩;clear c4;go_wp2_with fail;refine c7.out.mono ?_;rintro e w4 ⟨v4,o4,rfl,a6,rfl,c8,a7⟩;have d1:=ae (II a7);rw [f3.out] at d1;have O:=ae (f4.out.trans a6);have f5:=ae c8;clear c7 c8 a7 a6;go_wp2_with fail;refine d1.out.mono ?_;rintro e w' ⟨rfl,rfl⟩;go_wp2_with fail;refine (Fq w4).mono ?_;rintro e w' ⟨rfl,rfl⟩;go_wp2_with fail;go_roundw
    case rel =>
     refine ⟨k+1,o4,j2,om,by go_num, ?_,j4.out,om,E.out.1.step O.out a3,E.out.2.1.step O.out a3,⟨⟨(O.out.block _ (au E.out.2.2.1.1) (by rw [E.out.2.2.1.2];exact a3)).trans E.out.2.2.1.1,(O.out.own _ (au E.out.2.2.1.1)).trans E.out.2.2.1.2⟩,
      (O.out.block _ (au E.out.2.2.2.1) (by rw [E.out.2.2.2.2];exact a9)).trans E.out.2.2.2.1,(O.out.own _ (au E.out.2.2.2.1)).trans E.out.2.2.2.2⟩,b1.out.trans O.out⟩
     rw [f2];exact f5.out
    case measure=>simp [intOf];omega
   ·simp only [hT] at a2;have f2:=c0;have f3:=ae hd;clear hT hd c0;go_wp2_with fail;refine a2.out.mono ?_;rintro e w3 ⟨v3,o3,rfl,U,rfl,a5⟩;have a4:=j6.out.trans (U.mono (T':=In3 K X Z) (fun _ h => .inr (.inr h)));have c3:w3.heap[w.heap.size+1]?=some FB:=(a4.block _ (au E.out.2.2.1.1) (by rw [E.out.2.2.1.2];exact a3)).trans E.out.2.2.1.1;have c4:=ae (show (Instr.lookup 245 (.map (some (w.heap.size+1))) (.int .u8 3) true).run prog w3 = .ok (.tuple #[.func (.func 174) #[] #[], .bool true]) w3 from JO c3 3 om);have c6:=j7.out.step U (fun h=>J.out.kz h) (fun h=>J.out.xz h) (fun h=>J.out.z0 h.symm);have g8:w.heap.size<=w3.heap.size:=(b1.out.trans a4).size;have c7:=ae (AiI J.out c6 a5 b6 g8);have f4:=ae a4;clear U a4 a5 c3 c6 a2
    go_wp2_with ((with_reducible apply DN);exact c4.out;simp only [Act.put,GL,DL,lss])
    refine (Fq w3).mono ?_;rintro e w' ⟨rfl,rfl⟩;clear c4;go_wp2_with fail;refine c7.out.mono ?_;rintro e w4 ⟨v4,o4,rfl,a6,rfl,c8,a7⟩;have d1:=ae (II a7);rw [f3.out] at d1;have O:=ae (f4.out.trans a6);have f5:=ae c8;clear c7 c8 a7 a6;go_wp2_with fail;refine d1.out.mono ?_;rintro e w' ⟨rfl,rfl⟩;go_wp2_with fail;refine (Fq w4).mono ?_;rintro e w' ⟨rfl,rfl⟩;go_wp2_with fail;go_roundw
    case rel =>
     refine ⟨k+1,o4,j2,om,by go_num, ?_,j4.out,om,E.out.1.step O.out a3,E.out.2.1.step O.out a3,⟨⟨(O.out.block _ (au E.out.2.2.1.1) (by rw [E.out.2.2.1.2];exact a3)).trans E.out.2.2.1.1,(O.out.own _ (au E.out.2.2.1.1)).trans E.out.2.2.1.2⟩,
      (O.out.block _ (au E.out.2.2.2.1) (by rw [E.out.2.2.2.2];exact a9)).trans E.out.2.2.2.1,(O.out.own _ (au E.out.2.2.2.1)).trans E.out.2.2.2.2⟩,b1.out.trans O.out⟩
     rw [f2];exact f5.out
    case measure=>simp [intOf];omega
   ·simp only [hT] at a2;have f2:=c0;have f3:=ae hd;clear hT hd c0;go_wp2_with fail;refine a2.out.mono ?_;rintro e w3 ⟨v3,o3,rfl,U,rfl,a5⟩;have a4:=j6.out.trans (U.mono (T':=In3 K X Z) (fun _ h => .inr (.inr h)));have c3:w3.heap[w.heap.size+1]?=some FB:=(a4.block _ (au E.out.2.2.1.1) (by rw [E.out.2.2.1.2];exact a3)).trans E.out.2.2.1.1;have c4:=ae (show (Instr.lookup 245 (.map (some (w.heap.size+1))) (.int .u8 4) true).run prog w3 = .ok (.tuple #[.func (.func 175) #[] #[], .bool true]) w3 from JO c3 4 om);have c6:=j7.out.step U (fun h=>J.out.kz h) (fun h=>J.out.xz h) (fun h=>J.out.z0 h.symm);have g8:w.heap.size<=w3.heap.size:=(b1.out.trans a4).size;have c7:=ae (UO J.out c6 a5 b6 g8 om);have f4:=ae a4;clear U a4 a5 c3 c6 a2
    go_wp2_with ((with_reducible apply DN);exact c4.out;simp only [Act.put,GL,DL,lss])
    refine (Fq w3).mono ?_;rintro e w' ⟨rfl,rfl⟩;clear c4;go_wp2_with fail;refine c7.out.mono ?_;rintro e w4 ⟨v4,o4,rfl,a6,rfl,c8,a7⟩;have d1:=ae (II a7);rw [f3.out] at d1;have O:=ae (f4.out.trans a6);have f5:=ae c8;clear c7 c8 a7 a6;go_wp2_with fail;refine d1.out.mono ?_;rintro e w' ⟨rfl,rfl⟩;go_wp2_with fail;refine (Fq w4).mono ?_;rintro e w' ⟨rfl,rfl⟩;go_wp2_with fail;go_roundw
    case rel =>
     refine ⟨k+1,o4,j2,om,by go_num, ?_,j4.out,om,E.out.1.step O.out a3,E.out.2.1.step O.out a3,⟨⟨(O.out.block _ (au E.out.2.2.1.1) (by rw [E.out.2.2.1.2];exact a3)).trans E.out.2.2.1.1,(O.out.own _ (au E.out.2.2.1.1)).trans E.out.2.2.1.2⟩,
      (O.out.block _ (au E.out.2.2.2.1) (by rw [E.out.2.2.2.2];exact a9)).trans E.out.2.2.2.1,(O.out.own _ (au E.out.2.2.2.1)).trans E.out.2.2.2.2⟩,b1.out.trans O.out⟩
     rw [f2];exact f5.out
    case measure=>simp [intOf];omega
  ·obtain rfl:N=k:=om
   have t0:F=kf:=by
    rw [List.drop_eq_nil_of_le om] at d9;exact Option.some.inj d9
   subst t0;obtain ⟨lv,p9,v8,wY⟩:=j0;obtain ⟨b2,b3,rfl⟩:=wY.form;obtain ⟨e9,t1⟩:=Ba (w:=wr.drew) (P:=prog) (ty:=37) (vs:=[.int .u64 (F.promised.toNat:Int), .int .u64 (F.current.toNat:Int), .slice b2 F.lines.length b3]) g6.2.1 rfl (by kernel_rfl) rfl;have d7:=ae e9;have t2:=ae ((g7.drew.setCells w.heap.size 0 [.int .u64 (F.promised.toNat:Int), .int .u64 (F.current.toNat:Int), .slice b2 F.lines.length b3] (.inr (Nat.le_refl _))).still r2.out);have d4:=(aj.refl (ak Y) wr oj).drew.setCells w.heap.size 0 [.int .u64 (F.promised.toNat:Int), .int .u64 (F.current.toNat:Int), .slice b2 F.lines.length b3] (.inl (by show (oj w.heap.size).1=Y;rw [g6.2.2]));have t3:=ae (show Lines (wr.drew.setCells w.heap.size 0 [.int .u64 (F.promised.toNat:Int), .int .u64 (F.current.toNat:Int), .slice b2 F.lines.length b3]) (ext w o) w.heap.size (.slice b2 F.lines.length b3) F.lines from
    (wY.step d4 (fun h=>a9 (.inr (.inl h.symm))) (fun h=>j9 h.symm)).lines (fun k hk=>by unfold ext;rw [if_neg om]))
   have hS:wr.heap[kb]?=some (.cells [.int .u64 (F.promised.toNat:Int), .int .u64 (F.current.toNat:Int), .slice b2 F.lines.length b3].toArray 37 (0,0)):=p9;clear e9 p9 wY g7 d4 g5 a8 d9 r9;go_wp2_with fail;refine Aa (fun w'=>w'.heap[kb]?=some (.cells [.int .u64 (F.promised.toNat:Int), .int .u64 (F.current.toNat:Int), .slice b2 F.lines.length b3].toArray 37 (0,0))) (fun i=>decide (i<3)) (by kernel_rfl) hS (fun w0 => ?_);refine tq 0 (h:=?_);refine Dt (i:=1) (v := .agg [.int .u64 (F.promised.toNat:Int), .int .u64 (F.current.toNat:Int), .slice b2 F.lines.length b3].toArray) rfl (by kernel_rfl) (fun _ _ _ h=>h) (yieldsIf_load_mid rfl 37 (.tmp 7) rfl kb 0 rfl [.int .u64 (F.promised.toNat:Int), .int .u64 (F.current.toNat:Int), .slice b2 F.lines.length b3] _ (fun w h=>AV h) underlying37 rfl (by kernel_rfl)) (by assumption) ?_;simp only [Act.put,GL,DL,lss];refine tq 2 (h:=tO 3 (h:=?_));apply AC
   ·exact d7.out
   simp only [Act.put];go_wp2_with fail;refine ⟨fun h=>by simp at h, ?_⟩;refine tD (h:=?_);go_wp2_with fail;refine bodyPost_ret (JC rfl _ _ w.heap.size 37 _ (0,0) _ rfl t1 underlying37 rfl Ij) rfl ?_;exact ⟨_,ext w o,rfl,t2.out.Me _ (fun k hk=>if_pos hk),_,rfl,t3.out,rfl⟩
theorem Oe (hv:sH w o v bs.length vs) (u:Ey w o vs bs) (E:∀ b ∈ bs,b.length<=1000000) (F:bs.length<=300) (q:DK bs=some (age,kf)) :
  Calls prog 123 #[v] w (XL ai w o fun r w' o'=>∃ lv,r = .tuple #[.int .u64 (age.toNat:Int),Dy kf.promised kf.current lv]/\Lines w' o' w.heap.size lv kf.lines/\o'=ext w o):=by
 cases bs with
 | nil =>
  obtain ⟨a,c,rfl⟩:=Aq hv
  cases q
  exact Uw w o a c
 | cons b0 r=>exact Sv hv u E (by rw [List.length_cons] at F;omega) q
end
theorem catch_idle (p q:Value) (w:World) :
  CallsD prog 120 #[p,q] .returning w fun e r w'=>e = .returned (.tuple #[])/\r = .returning/\w'=w:=by
 have u:(Instr.typeAssert .nilIface 20 23 true).run prog w = .ok (.tuple #[.int .i64 0, .bool false]) w:=by kernel_rfl
 refine callsD_of_wpS func120 rfl fun E J F => ?_;apply wpS_seq;apply wpS_region;simp [wpOpsS,go_sem,recoverD,F,ntmps120,Exit.thenS,u];apply wpS_seq;apply wpS_region;simp [wpOpsS,go_sem,Exit.thenS];refine wpS_cond (t:=false) (by simp [Act.eval,Array.replicate]) ?_;simp only [Bool.false_eq_true,if_false];refine wpS_of_wp (wp_skip ?_)
 cases E
 simp_all [bodyPostS,results]
section
variable {w:World}{o:Own}{D pd:Nat}{d:Af}
end
theorem Jk {P:Program}{r:Func}{t O:Array Value}{R:Ending->World->Prop}(h:results r t=results r O):∀ (q:List Deferred) (u:FrameMode) (w:World),Leaves P r t R q u w->Leaves P r O R q u w
 | [], .returning,w,hl=>by
  obtain ⟨v,E,F⟩:=hl;exact ⟨v,by rw [<-h];exact E,F⟩
 | [], .panicking chain,w,hl=>hl
 | [], .run,w,hl=>hl
 | d :: q,u,w,hl=>by
  obtain ⟨E,fv,cap,f,U,F,W,h4⟩:=hl;refine ⟨E,fv,cap,f,U,F,W,h4.mono ?_⟩;intro e Y w' J
  cases e with
  | returned v=>exact Jk h q _ _ J
  | panicked c=>exact Jk h q _ _ J
  | outgrown=>exact J
theorem AQ {R:Ending->World->Prop}{c:List PanicEntry}{a:Act}{w:World}{d:Nat}{v:Value}(q:d ≠ 2/\d ≠ 3) (h:bodyPostD prog Tryz.f90 R (.panic c) (a.put (some d) v) w):bodyPostD prog Tryz.f90 R (.panic c) a w:=by
 refine Jk ?_ _ _ _ h;have e2:(a.put (some d) v).tmps.getD 2 undef=a.tmps.getD 2 undef:=by simp [Act.put,q.1]
 have r:(a.put (some d) v).tmps.getD 3 undef=a.tmps.getD 3 undef:=by simp [Act.put,q.2]
 simp only [results];simp [Act.put,Array.getElem?_setIfInBounds,q.1,q.2]
theorem UM {E:List (List UInt8)}{k:AX}(h:DK E=some (0,k)):k=⟨0,0,[]⟩:=by
 cases E with
 | nil=>cases h;rfl
 | cons b r =>
  simp only [DK] at h
  cases u:EF b with
  | none=>rw [u] at h;cases h
  | some q =>
   obtain ⟨a,F⟩:=q;rw [u] at h;simp only [Option.map_eq_some_iff,Prod.mk.injEq] at h;obtain ⟨k2, -,rfl, -⟩:=h;unfold EF at u;simp only at u;split at u
   ·rename_i hc;simp only [Option.some.injEq,Prod.mk.injEq] at u;have:=hc.2.2;rw [u.1] at this;simp at this
   ·cases u
def PO (d:Af) (h:Nat) (a0 a1:Ad) (g0 g1:BitVec 64) (k0 k1:AX):AZ:=
 if g0.toNat<g1.toNat then ⟨a1,a0,d,h,g1,k1,false⟩ else ⟨a0,a1,d,h,g0,k0,false⟩
def OpenSt (w:World) (o:Own) (S A B D Y b2 ps pd base h:Nat) (d:Af) (a0 a1:Ad) (g0 g1:BitVec 64) (k0 k1:AX) (k:Nat):Prop:=
 ((w.heap[b2]?=some (.cells #[.pointer (some ⟨ps,0,none⟩)] 92 (0,0))/\o b2=(Y,0))/\(w.heap[b2+1]?=some (.cells #[.int .i64 0] 23 (0,0))/\o (b2+1)=(Y,0))/\Bg w o D pd d) /\
 ((k=0/\w.heap[ps]?=some (.cells (storeCells pd (.pointer none) (.pointer none) h 0 0 0 0 (.slice none 0 0) false).toArray 165 (0,0))/\o ps=(S,0)) \/
  (k=1/\∃ pa kv,(w.heap[ps]?=some (.cells (storeCells pd (.pointer (some ⟨pa,0,none⟩)) (.pointer none) h 0 g0 k0.promised k0.current kv false).toArray 165 (0,0))/\o ps=(S,0))/\Lines w o base kv k0.lines/\BZ w o A pa pd a0) \/
  (k=2/\Bi w o S A B D ps pd base (PO d h a0 a1 g0 g1 k0 k1)))
section
variable {w:World}{o:Own}{D pd:Nat}{d:Af}
theorem Yn {S A B Y H:Nat}{E U:BitVec 64}{k0 k1:AX}(l2:[0,S,A,B,D,Y].Nodup) (hD:Bg w o D pd d) (hd:d.dead=false) (q0:d.row.length<=1000000) (hn:8<=d.pages.length) (u5:d.pages.length<=400) (hh:d.pages.length / 2=H)
  (q4:Ad.newest (Ad.Aw d 0 H) ≠ BitVec.allOnes 64) (q5:Ad.newest (Ad.Aw d H H) ≠ BitVec.allOnes 64)
  (l3:DK (Ad.AY 0 (Ad.Aw d 0 H)).records=some (E,k0)) (l4:DK (Ad.AY H (Ad.Aw d H H)).records=some (U,k1)) :
  Calls prog 90 #[.pointer (some ⟨pd,0,none⟩)] w (XL (fun t=>t=S \/ t=A \/ t=B) w o fun v w' o' =>
   ∃ ps,w.heap.size<=ps/\v = .tuple #[.pointer (some ⟨ps,0,none⟩), .int .i64 0]/\Bi w' o' S A B D ps pd w.heap.size (PO d H (Ad.AY 0 (Ad.Aw d 0 H)) (Ad.AY H (Ad.Aw d H H)) E U k0 k1)):=by
 have u6:∀ (fn:Fn) (first cap:Array Value) (w:World),(Instr.makeFunc fn first cap).run prog w = .ok (.func fn first cap) w:=fun _ _ _ _=>rfl
 simp only [List.nodup_cons,List.mem_cons,List.not_mem_nil,or_false,not_or,List.nodup_nil,and_true,not_false_eq_true] at l2;have s1:=((aj.refl ai w o).alloc (.cells #[.pointer none] 92) (0,0)).alloc (.cells #[.int .i64 0] 23) (0,0);have l5:=ae (Ic (hD.step s1 id));have l6:=ae (size_any (hD.step s1 id));rw [hd] at l5;have s8:¬ (d.pages.length:Int)<8:=om
 have q6:=ae (show ((d.pages.length:Int) / 2)=(H:Int) by omega);have t1:=(aj.refl ai w o).alloc (.cells #[.pointer (some ⟨w.heap.size+1+1,0,none⟩)] 92) (Y,0);have x1:(w.alloc (.cells #[.pointer (some ⟨w.heap.size+1+1,0,none⟩)] 92)).heap[w.heap.size]?=_:=heap_alloc_new w _;have z1:(w.alloc (.cells #[.pointer (some ⟨w.heap.size+1+1,0,none⟩)] 92)).heap.size=w.heap.size+1:=by simp
 have y1:Ak o w.heap.size (Y,0) w.heap.size=(Y,0):=Au _ _ _;obtain ⟨W1,l7⟩:=az (w.alloc (.cells #[.pointer (some ⟨w.heap.size+1+1,0,none⟩)] 92));rw [l7] at t1 x1 z1;generalize Ak o w.heap.size (Y,0)=o1 at *;have t2:=t1.alloc (.cells #[.int .i64 0] 23) (Y,0);have x2:(W1.alloc (.cells #[.int .i64 0] 23)).heap[W1.heap.size]?=_:=heap_alloc_new W1 _;have l8:=(Below.heap_alloc W1 (.cells #[.int .i64 0] 23) w.heap.size om).trans x1;have z2:(W1.alloc (.cells #[.int .i64 0] 23)).heap.size=w.heap.size+1+1:=by simp [z1]
 have y2:Ak o1 W1.heap.size (Y,0) W1.heap.size=(Y,0):=Au _ _ _;have l9:Ak o1 W1.heap.size (Y,0) w.heap.size=(Y,0):=by rw [BI _ _ om];exact y1
 rw [z1] at x2 y2 l9 t2;obtain ⟨W2,m0⟩:=az (W1.alloc (.cells #[.int .i64 0] 23));rw [m0] at t2 x2 l8 z2;generalize Ak o1 (w.heap.size+1) (Y,0)=o2 at *;have t3:=t2.alloc (.cells (storeCells pd (.pointer none) (.pointer none) H 0 0 0 0 (.slice none 0 0) false).toArray 165) (S,0);have x3:(W2.alloc (.cells (storeCells pd (.pointer none) (.pointer none) H 0 0 0 0 (.slice none 0 0) false).toArray 165)).heap[W2.heap.size]?=_:=heap_alloc_new W2 _;have m1:=(Below.heap_alloc W2 (.cells (storeCells pd (.pointer none) (.pointer none) H 0 0 0 0 (.slice none 0 0) false).toArray 165) (w.heap.size+1) om).trans x2;have m2:=(Below.heap_alloc W2 (.cells (storeCells pd (.pointer none) (.pointer none) H 0 0 0 0 (.slice none 0 0) false).toArray 165) w.heap.size om).trans l8;have y3:Ak o2 W2.heap.size (S,0) W2.heap.size=(S,0):=Au _ _ _;have m5:Ak o2 W2.heap.size (S,0) (w.heap.size+1)=(Y,0):=by rw [BI _ _ om];exact y2
 have m6:Ak o2 W2.heap.size (S,0) w.heap.size=(Y,0):=by rw [BI _ _ om];exact l9
 rw [z2] at x3 y3 m5 m6 t3;generalize Ak o2 (w.heap.size+1+1) (S,0)=o3 at *;obtain ⟨W3,m7⟩:=az (W2.alloc (.cells (storeCells pd (.pointer none) (.pointer none) H 0 0 0 0 (.slice none 0 0) false).toArray 165));have q7:((w.alloc (.cells #[.pointer (some ⟨w.heap.size+1+1,0,none⟩)] 92)).alloc (.cells #[.int .i64 0] 23)).alloc (.cells #[.pointer (some ⟨pd,0,none⟩), .pointer none, .pointer none, .int .i64 (H:Int), .int .i64 0, .int .u64 0, .int .u64 0, .int .u64 0, .slice none 0 0, .bool false] 165)=W3:=by rw [l7,m0, <-m7];rfl
 rw [m7] at t3 x3 m1 m2;have q8:=ae q7;obtain ⟨a0,m8⟩:=az (Ad.AY 0 (Ad.Aw d 0 H));obtain ⟨a1,m9⟩:=az (Ad.AY H (Ad.Aw d H H));rw [m8] at l3 ⊢;rw [m9] at l4 ⊢;have qH:OpenSt W3 o3 S A B D Y w.heap.size (w.heap.size+1+1) pd w.heap.size H d a0 a1 E U k0 k1 0:=⟨⟨⟨m2,m6⟩,⟨m1,m5⟩,hD.step t3 id⟩, .inl ⟨rfl,x3,y3⟩⟩;have n0:=ae qH;have nD:=ae t3;have u7:=ae hD;have s9:=ae q4;have t0:=ae q5;have q9:=ae l3;have t4:=ae l4;have pM:=ae q0;have n4:=ae hh;have r0:=ae m8;have r1:=ae m9;have b7:=ae l2;have r2:=ae hd;clear s1 t1 t2 t3 x1 x2 x3 l8 m1 m2 y1 y2 y3 l9 m5 m6 z1 z2 l7 m0 m7 q7 qH hD q4 q5 l3 l4 q0 hh m8 m9 l2 hd
 go_enter_defers func90,ntmps90
 go_wp2_with fail;refine l5.out.mono ?_;rintro e w' ⟨rfl,rfl⟩;go_wp2_with fail;refine l6.out.mono ?_;rintro e w' ⟨rfl,rfl⟩;go_wp2_with fail;refine l6.out.mono ?_;rintro e w' ⟨rfl,rfl⟩;go_wp2_with fail;rw [q6.out,q8.out];clear l6 l5 q6 q8;have g6:(4:Int)<=(H:Int)/\(H:Int)<=200:=by have:=n4.out;omega
 obtain ⟨ps,b5⟩:=az (w.heap.size+1+1);have t5:w.heap.size<=ps:=om
 rw [b5] at n0 ⊢;clear b5 s8
 go_loopw [26] (fun i wr=>∃ (k:Nat) (oj:Own),k<=2/\i = .int .i64 k/\OpenSt wr oj S A B D Y w.heap.size ps pd w.heap.size H d a0 a1 E U k0 k1 k/\aj (fun t=>t=S \/ t=A \/ t=B) w o wr oj) (fun i _=>2 - (intOf i).toNat)
 case atStart=>exact ⟨0,o3,om,rfl,n0.out,nD.out.mono (fun _ h=>h.elim)⟩
 case round =>
  clear n0 nD;obtain ⟨k,oj,hk,rfl,⟨⟨⟨d6,d7⟩,⟨d9,n5⟩,g7⟩,t6⟩,g8⟩:=hrel;have c2:wr.cell? ⟨w.heap.size,0,none⟩=some (.pointer (some ⟨ps,0,none⟩)):=ag (cs:=[_]) d6 0;have f2:wr.frozen? ⟨w.heap.size,0,none⟩=false:=Ap (cs:=[_]) d6 0;have f3:wr.frozen? ⟨w.heap.size+1,0,none⟩=false:=Ap (cs:=[_]) d9 0;have c3:wr.cell? ⟨w.heap.size+1,0,none⟩=some (.int .i64 0):=ag (cs:=[_]) d9 0
  rcases t6 with ⟨rfl,b5,g9⟩ | ⟨rfl,pa,kv,⟨b5,g9⟩,r3,r4⟩ | ⟨rfl,r5⟩
  ·have h5:wr.cell? ⟨ps,3,none⟩=some (.int .i64 (H:Int)):=ag b5 3;have wS:=au b5;have n6:¬ ps=w.heap.size:=by rintro rfl;rw [g9] at d7;exact b7.out.2.1.2.2.2 (Prod.mk.inj d7).1
   have F:=ae (aI (aI d6 d7) (aI (aI d9 n5) (aI g7 (aI b5 g9))));have hS:=aI c2 h5;have n7:=ae g8
   skip
   have h6:=ae (fun (x:World) (ox:Own) (hx:aj ai wr oj x ox)=>UZ (L:=A) (D:=D) (fun h=>b7.out.1.2.1 h.symm) (fun h=>b7.out.1.2.2.2.1 h.symm) (fun h=>b7.out.2.2.1.2.1 h) (g7.step hx id) pM.out r2.out (0:Nat) H (by have:=g6;omega) (by have:=g6;omega) (by have:=n4.out;omega));clear d6 d9 g7 b5 g8 f3 c3 h5 c2 f2;go_wp2_with fail;refine Aa (fun w'=>w'.cell? ⟨w.heap.size,0,none⟩=some (.pointer (some ⟨ps,0,none⟩))/\w'.cell? ⟨ps,3,none⟩=some (.int .i64 (H:Int))) (fun _=>true) (by kernel_rfl) hS (fun e0 => ?_);refine tp 0 (h:=tp 1 (h:=tp 2 (h:=tp 3 (h:=tp 4 (h:=tp 5 (h:=tv 6 (.int .i64 0) (hy:=fun w n8=>by (try dsimp only at n8);go_simp;first | done | rfl | exact wrap_i64 om om) (hQ:=by exact fun _ _ _ h=>AQ (by decide) h) (h:=tp 7 (h:=tp 8 (h:=tp 9 (h:=tp 10 (h:=tO 11 (h:=?_))))))))))))
   go_wp2_with fail;have h7:=(aj.refl ai wr oj).drew;refine (h6.out _ _ h7).mono ?_;rintro e w1 ⟨v1,o1,rfl,O,h8⟩;obtain ⟨W, -,rfl,zW⟩:=h8.2 s9.out;rw [r0.out] at zW;have O:aj (ak A) wr oj w1 o1:=(h7.only A).trans O;clear h8 e0;have tg:=b7.out;have u2:=(O.block _ (au F.out.1.1) (by rw [F.out.1.2];exact fun h=>tg.2.2.1.2.2 h.symm)).trans F.out.1.1;have u3:=(O.block _ (au F.out.2.1.1) (by rw [F.out.2.1.2];exact fun h=>tg.2.2.1.2.2 h.symm)).trans F.out.2.1.1;have up:=(O.block _ wS (by rw [F.out.2.2.2.2];exact fun h=>tg.2.1.1 h)).trans F.out.2.2.2.1;have e4:=aI (ag (cs:=[_]) u2 0) (ag up 3);go_wp2_with fail;refine ⟨fun _=>e4, ?_⟩;refine tp 12 (h:=tp 13 (h:=tp 14 (h:=tp 15 (h:=tp 16 (h:=tD (h:=?_))))));have z2:=(O.own _ (au F.out.1.1)).trans F.out.1.2;have z3:=(O.own _ (au F.out.2.1.1)).trans F.out.2.1.2;have zp:=(O.own _ wS).trans F.out.2.2.2.2;have h9:=F.out.2.2.1.step O (fun h=>tg.2.2.1.2.1 h.symm);have i0:=n7.out.trans (O.mono (T':=fun t=>t=S \/ t=A \/ t=B) (fun _ h => .inr (.inl h)));clear h6 O;go_wp2_with fail;refine (Fq w1).mono ?_;rintro e w' ⟨rfl,rfl⟩;have b6:=(aj.refl (ak S) w1 o1).setCell (a:=⟨ps,1,none⟩) (.pointer (some ⟨W,0,none⟩)) (.inl (by show (o1 ps).1=S;rw [zp]));have a7:(w1.setCell ⟨ps,1,none⟩ (.pointer (some ⟨W,0,none⟩))).heap[ps]?=some (.cells (storeCells pd (.pointer (some ⟨W,0,none⟩)) (.pointer none) H 0 0 0 0 (.slice none 0 0) false).toArray 165 (0,0)):=Ai (i:=1) _ up;have b9:w.heap.size ≠ ps:=by rintro rfl;rw [zp] at z2;exact tg.2.1.2.2.2 (Prod.mk.inj z2).1
   have i1:w.heap.size+1 ≠ ps:=by intro h;rw [h,zp] at z3;exact tg.2.1.2.2.2 (Prod.mk.inj z3).1
   have a4:=(Below.heap_setCell w1 ⟨ps,1,none⟩ (.pointer (some ⟨W,0,none⟩)) w.heap.size b9).trans u2;have a8:=(Below.heap_setCell w1 ⟨ps,1,none⟩ (.pointer (some ⟨W,0,none⟩)) (w.heap.size+1) i1).trans u3;have c0:=zW.step b6 (fun h=>tg.2.1.1 h.symm) (fun h=>tg.1.1 h);have e6:=h9.step b6 (fun h=>tg.2.1.2.2.1 h.symm);have c4:=i0.setCell (a:=⟨ps,1,none⟩) (.pointer (some ⟨W,0,none⟩)) (.inl (by show (o1 ps).1=S \/ _;rw [zp];exact .inl rfl));have q1:=e4.1;have q2:w1.frozen? ⟨ps,1,none⟩=false:=Ap up 1;have q3:=ag up 1;obtain ⟨W2,e7⟩:=az (w1.setCell ⟨ps,1,none⟩ (.pointer (some ⟨W,0,none⟩)));rw [e7] at a7 a4 a8 c0 e6 c4;have i2:=ae e7;have i3:=ae (Qs c0 _ rfl);have c6:=c0;obtain ⟨-, -, -, -, -, -, -,c6⟩:=c6;clear b6 e7 e4 up u2 u3 zW h9 i0;go_wp2_with fail;rw [i2.out];refine i3.out.mono ?_;rintro e w3 ⟨v3,n9,rfl,a3,vs,e8, -,i4,hz⟩;have i5:sH w3 n9 v3 a0.records.length vs:=XG e8 (fun k hk=>by rw [hz k (e8.lt k hk).1]);have o0:a0.records.length<=300:=by
    have h1:=c6.2.2.2.2.1;have h2:=c6.2.2.2.2.2.1;have h3:a0.n=H:=by rw [<-r0.out];exact Ad.Bq _ _ _
    have:=g6;omega
   have e9:=Oe i5 i4 (fun b hb=>Nat.le_trans (c6.2.2.2.2.2.2 b hb) om) o0 q9.out;simp only [Dy] at e9;have i6:=ae e9;clear e9 i5 e8 i4 hz i3;go_wp2_with fail;refine i6.out.mono ?_;rintro e u ⟨v4,o4,rfl,c7,r,rfl,f0, -⟩;clear i6;have d3:=a3.trans c7;have d4:=ae (AB (P:=prog) u 37 _ LX);have f1:=(aj.refl ai u o4).alloc (.cells #[.int .u64 0, .int .u64 0, .slice none 0 0] 37) (Y,0);have i7:(u.alloc (.cells #[.int .u64 0, .int .u64 0, .slice none 0 0] 37)).heap[u.heap.size]?=some (.cells [.int .u64 0, .int .u64 0, .slice none 0 0].toArray 37 (0,0)):=heap_alloc_new u _;have i8:Ak o4 u.heap.size (Y,0) u.heap.size=(Y,0):=Au _ _ _;obtain ⟨t7,t8,f4⟩:=f0.form;obtain ⟨i9,f5⟩:=Ba (P:=prog) (ty:=37) (vs:=[.int .u64 (k0.promised.toNat:Int), .int .u64 (k0.current.toNat:Int),r]) i7 rfl (by kernel_rfl) (by rw [f4];rfl);have c8:=ae i9;have s5:=(f1.mono (T':=ak Y) (fun _ h=>h.elim)).setCells u.heap.size 0 [.int .u64 (k0.promised.toNat:Int), .int .u64 (k0.current.toNat:Int),r] (.inl (by show (Ak o4 u.heap.size (Y,0) u.heap.size).1=Y;rw [i8]));have f6:=(c4.trans (d3.mono (T':=fun t=>t=S \/ t=A \/ t=B) (fun _ h=>h.elim))).trans ((f1.mono (T':=fun t=>t=S \/ t=A \/ t=B) (fun _ h=>h.elim)).setCells u.heap.size 0 [.int .u64 (k0.promised.toNat:Int), .int .u64 (k0.current.toNat:Int),r] (.inr (Nat.le_refl _)));generalize Ak o4 u.heap.size (Y,0)=o5 at *;obtain ⟨q,f7⟩:=az ((u.alloc (.cells #[.int .u64 0, .int .u64 0, .slice none 0 0] 37)).setCells u.heap.size 0 [.int .u64 (k0.promised.toNat:Int), .int .u64 (k0.current.toNat:Int),r]);rw [f7] at c8 f5 s5 f6;have e5:=(c7.block w.heap.size (au ((a3.block _ (au a4) id).trans a4)) id).trans ((a3.block _ (au a4) id).trans a4);have c9:=(c7.block (w.heap.size+1) (au ((a3.block _ (au a8) id).trans a8)) id).trans ((a3.block _ (au a8) id).trans a8);have a9:=(c7.block ps (au ((a3.block _ (au a7) id).trans a7)) id).trans ((a3.block _ (au a7) id).trans a7);have d5:∀ k,k<u.heap.size->q.heap[k]?=u.heap[k]?:=fun k hk=>by
    rw [<-f7,ah _ _ _ _ _ om];exact Below.heap_alloc _ _ _ hk
   have e5:=(d5 _ (au e5)).trans e5;have c9:=(d5 _ (au c9)).trans c9;have d1:u.heap.size ≠ ps:=by have:=au a9;omega
   have j0:w.heap.size ≠ u.heap.size:=by have:=c4.size;have:=d3.size;have:=au a4;omega
   have a9:=(d5 _ (au a9)).trans a9;have b1:=(d3.only Y).trans s5;have j1:=(b1.own _ (au a4)).trans z2;have j2:=(b1.own _ (au a8)).trans z3;have a5:=(b1.own _ (au a7)).trans zp;have j3:=c0.step b1 (fun h=>tg.2.2.1.2.2 h) (fun h=>tg.1.2.2.2.2 h);have j4:=e6.step b1 (fun h=>tg.2.2.2.2 h);have j5:=(f0.step s5 (fun h=>tg.1.2.2.2.2 h)).low (Nat.le_trans c4.size a3.size);have J:=ae (aI (aI e5 j1) (aI c9 j2));have a2:=ae (aI a5 (aI j3 (aI j4 (aI j5 f6))));have f8:=ae f5;have pH:=ae a9;have c5:=ag (cs:=[_]) e5 0;have o6:q.cell? ⟨ps,5,none⟩=some (.int .u64 0):=by simpa [storeCells] using ag a9 5
   obtain ⟨b8,j6⟩:=az (u.heap.size);rw [j6] at d4 c8 f8 d1 j0;have o7:=ae f4;clear f4 i9 f1 s5 i7 i8 f5 f6 f7 d5 e5 c9 a9 b1 j1 j2 a5 j3 j4 j5 f0 d3 a3 c7 c0 e6 c4 a4 a8 a7 z2 z3 zp q1 q2 q3 i2 W2 j6
   by_cases hc:0<E.toNat
   ·have j7:decide (0<E.toNat)=true:=decide_eq_true hc
    go_wp2_with (first
     | ((with_reducible apply AU);exact d4.out;simp only [Act.put,GL,DL,lss])
     | ((with_reducible apply AC);exact c8.out;simp only [Act.put]))
    have p0:(q.drew).heap[ps]?=some (.cells (storeCells pd (.pointer (some ⟨W,0,none⟩)) (.pointer none) H 0 0 0 0 (.slice none 0 0) false).toArray 165 (0,0)):=pH.out;have p1:=Ai (i:=4) (.int .i64 0) p0;have p2:=Ai (i:=5) (.int .u64 (E.toNat:Int)) p1;have p3:((((q.drew).setCell ⟨ps,4,none⟩ (.int .i64 0)).setCell ⟨ps,5,none⟩ (.int .u64 (E.toNat:Int))).setCells ps 6 [.int .u64 (k0.promised.toNat:Int), .int .u64 (k0.current.toNat:Int),r]).heap[ps]?=some (.cells (storeCells pd (.pointer (some ⟨W,0,none⟩)) (.pointer none) H 0 E k0.promised k0.current r false).toArray 165 (0,0)):=BP ps 165 _ 6 _ _ p2 (by simp [storeCells]);have j8:=ae (run_storeAt_mid (P:=prog) (((q.drew).setCell ⟨ps,4,none⟩ (.int .i64 0)).setCell ⟨ps,5,none⟩ (.int .u64 (E.toNat:Int))) ps 6 37 #[.int .u64 (k0.promised.toNat:Int), .int .u64 (k0.current.toNat:Int),r] (Dh p2 6 3 (by simp [storeCells])) Ij (by rw [o7.out];simp [Value.oneCell']));have a5:=a2.out.1;have a6:=(((aj.refl (ak S) q o5).drew.setCell (a:=⟨ps,4,none⟩) (.int .i64 0) (.inl (by show (o5 ps).1=S;rw [a5]))).setCell (a:=⟨ps,5,none⟩) (.int .u64 (E.toNat:Int)) (.inl (by show (o5 ps).1=S;rw [a5]))).setCells ps 6 [.int .u64 (k0.promised.toNat:Int), .int .u64 (k0.current.toNat:Int),r] (.inl (by show (o5 ps).1=S;rw [a5]));have v2:=(a6.block _ (au J.out.1.1) (by rw [J.out.1.2];exact fun h=>tg.2.1.2.2.2 h.symm)).trans J.out.1.1;have j9:=(a6.block _ (au J.out.2.1) (by rw [J.out.2.2];exact fun h=>tg.2.1.2.2.2 h.symm)).trans J.out.2.1;have k7:=ae (show OpenSt ((((q.drew).setCell ⟨ps,4,none⟩ (.int .i64 0)).setCell ⟨ps,5,none⟩ (.int .u64 (E.toNat:Int))).setCells ps 6 [.int .u64 (k0.promised.toNat:Int), .int .u64 (k0.current.toNat:Int),r]) o5 S A B D Y w.heap.size ps pd w.heap.size H d a0 a1 E U k0 k1 1 from
     ⟨⟨⟨v2,J.out.1.2⟩,⟨j9,J.out.2.2⟩,a2.out.2.2.1.step a6 (fun h=>tg.2.1.2.2.1 h.symm)⟩, .inr (.inl ⟨rfl,W,r,⟨p3,a5⟩,a2.out.2.2.2.1.step a6 (fun h=>tg.1.1 h),a2.out.2.1.step a6 (fun h=>tg.2.1.1 h.symm) (fun h=>tg.1.1 h)⟩)⟩)
    have pW:=ae (a2.out.2.2.2.2.trans (a6.mono (T':=fun t=>t=S \/ t=A \/ t=B) (fun _ h => .inl h)));have o8:(q.drew).frozen? ⟨ps,4,none⟩=false:=Ap p0 4;have o9:(q.drew).frozen? ⟨ps,5,none⟩=false:=Ap p0 5;have k8:=ag p0 4;have k9:=ag p0 5;simp only [storeCells,ax,ay] at k8 k9;have d2:(q.drew).heap[w.heap.size]?=_:=J.out.1.1;have d8:(q.drew).heap[b8]?=_:=f8.out;have f9:=(Below.heap_setCell (q.drew) ⟨ps,4,none⟩ (.int .i64 0) w.heap.size b9).trans d2;have g2:=(Below.heap_setCell (q.drew) ⟨ps,4,none⟩ (.int .i64 0) b8 d1).trans d8;have g3:=(Below.heap_setCell ((q.drew).setCell ⟨ps,4,none⟩ (.int .i64 0)) ⟨ps,5,none⟩ (.int .u64 (E.toNat:Int)) w.heap.size b9).trans f9;have g4:=(Below.heap_setCell ((q.drew).setCell ⟨ps,4,none⟩ (.int .i64 0)) ⟨ps,5,none⟩ (.int .u64 (E.toNat:Int)) b8 d1).trans g2;have l0:=(ah ps [.int .u64 (k0.promised.toNat:Int), .int .u64 (k0.current.toNat:Int),r] 6 (((q.drew).setCell ⟨ps,4,none⟩ (.int .i64 0)).setCell ⟨ps,5,none⟩ (.int .u64 (E.toNat:Int))) w.heap.size b9).trans g3;have l1:=(ah ps [.int .u64 (k0.promised.toNat:Int), .int .u64 (k0.current.toNat:Int),r] 6 (((q.drew).setCell ⟨ps,4,none⟩ (.int .i64 0)).setCell ⟨ps,5,none⟩ (.int .u64 (E.toNat:Int))) b8 d1).trans g4;have g5:q.drew.cell? ⟨w.heap.size,0,none⟩=some (.pointer (some ⟨ps,0,none⟩))/\q.drew.heap[b8]?=some (.cells [.int .u64 (k0.promised.toNat:Int), .int .u64 (k0.current.toNat:Int),r].toArray 37 (0,0)):=aI c5 f8.out;have b2:((q.drew).setCell ⟨ps,4,none⟩ (.int .i64 0)).cell? ⟨w.heap.size,0,none⟩=some (.pointer (some ⟨ps,0,none⟩))/\((q.drew).setCell ⟨ps,4,none⟩ (.int .i64 0)).heap[b8]?=some (.cells [.int .u64 (k0.promised.toNat:Int), .int .u64 (k0.current.toNat:Int),r].toArray 37 (0,0)):=aI (ag (cs:=[_]) f9 0) g2;have b3:(((q.drew).setCell ⟨ps,4,none⟩ (.int .i64 0)).setCell ⟨ps,5,none⟩ (.int .u64 (E.toNat:Int))).cell? ⟨w.heap.size,0,none⟩=some (.pointer (some ⟨ps,0,none⟩))/\(((q.drew).setCell ⟨ps,4,none⟩ (.int .i64 0)).setCell ⟨ps,5,none⟩ (.int .u64 (E.toNat:Int))).heap[b8]?=some (.cells [.int .u64 (k0.promised.toNat:Int), .int .u64 (k0.current.toNat:Int),r].toArray 37 (0,0)):=aI (ag (cs:=[_]) g3 0) g4;have b4:((((q.drew).setCell ⟨ps,4,none⟩ (.int .i64 0)).setCell ⟨ps,5,none⟩ (.int .u64 (E.toNat:Int))).setCells ps 6 [.int .u64 (k0.promised.toNat:Int), .int .u64 (k0.current.toNat:Int),r]).cell? ⟨w.heap.size,0,none⟩=some (.pointer (some ⟨ps,0,none⟩))/\((((q.drew).setCell ⟨ps,4,none⟩ (.int .i64 0)).setCell ⟨ps,5,none⟩ (.int .u64 (E.toNat:Int))).setCells ps 6 [.int .u64 (k0.promised.toNat:Int), .int .u64 (k0.current.toNat:Int),r]).heap[b8]?=some (.cells [.int .u64 (k0.promised.toNat:Int), .int .u64 (k0.current.toNat:Int),r].toArray 37 (0,0)):=aI (ag (cs:=[_]) l0 0) l1;clear p0 p1 p2 p3 a6 v2 j9 a5 d2 d8 f9 g2 g3 g4 l0 l1 j7 o6 c8 d4 pH c5 n6 b9 i1 d1 j0;obtain ⟨V,hV⟩:=az (q.drew);rw [hV] at k7 pW o8 o9 k8 k9 g5 b2 b3 b4 j8;have p4:=ae b2;have p5:=ae b3;have p6:=ae b4;clear b2 b3 b4;refine Aa (fun w'=>w'.cell? ⟨w.heap.size,0,none⟩=some (.pointer (some ⟨ps,0,none⟩))/\w'.heap[b8]?=some (.cells [.int .u64 (k0.promised.toNat:Int), .int .u64 (k0.current.toNat:Int),r].toArray 37 (0,0))) (fun _=>true) (by kernel_rfl) (by rw [hV];exact g5) (fun e0 => ?_);clear e0;rw [hV];clear hV;have t9:=g5;refine tp 0 (h:=tp 1 (h:=tp 2 (h:=tp 3 (h:=tp 4 (h:=?_)))));refine Dt (i:=5) (v := .agg [.int .u64 (k0.promised.toNat:Int), .int .u64 (k0.current.toNat:Int),r].toArray) rfl (by kernel_rfl) (fun _ _ _ h=>AQ (by decide) h) (yieldsIf_load_mid rfl 37 (.tmp 8) rfl b8 0 rfl [.int .u64 (k0.promised.toNat:Int), .int .u64 (k0.current.toNat:Int),r] _ (fun w h=>AV h.2) underlying37 rfl (by kernel_rfl)) (by assumption) ?_;simp only [Act.put,GL,DL,lss];refine tp 6 (h:=tp 7 (h:=tO 8 (h:=?_)));go_wp2_with fail;have b2:=p4.out
    first | refine ⟨fun _=>b2, ?_⟩ | refine ⟨b2.2, ?_⟩
    refine tp 9 (h:=tp 10 (h:=tO 11 (h:=?_)));go_wp2_with fail;have b3:=p5.out
    first | refine ⟨fun _=>b3, ?_⟩ | refine ⟨b3.2, ?_⟩
    refine tp 12 (h:=tp 13 (h:=tO 14 (h:=?_)));apply AC
    ·exact j8.out
    simp only [Act.put];go_wp2_with fail;have b4:=p6.out
    first | refine ⟨fun _=>b4, ?_⟩ | refine ⟨b4.2, ?_⟩
    refine tD (h:=?_);go_wp2_with fail;go_roundw
    case rel=>exact ⟨1,o5,om,by first | rfl | go_num,k7.out,pW.out⟩
    case measure=>simp [intOf]
   ·have j7:decide (0<E.toNat)=false:=decide_eq_false hc
    go_wp2_with (first
     | ((with_reducible apply AU);exact d4.out;simp only [Act.put,GL,DL,lss])
     | ((with_reducible apply AC);exact c8.out;simp only [Act.put]))
    have r6:E=0:=BitVec.eq_of_toNat_eq (by have:(0:BitVec 64).toNat=0:=rfl;omega);have r7:k0=⟨0,0,[]⟩:=UM (by rw [<-r6];exact q9.out);refine ⟨⟨1,o5,om,rfl,⟨⟨⟨J.out.1.1,J.out.1.2⟩,⟨J.out.2.1,J.out.2.2⟩,a2.out.2.2.1⟩, .inr (.inl ⟨rfl,W, .slice none 0 0,⟨by rw [r6,r7];exact pH.out,a2.out.1⟩,by rw [r7];exact Lines.nil _ _ _,a2.out.2.1⟩)⟩,a2.out.2.2.2.2⟩,by simp [intOf]⟩
  ·have h5:wr.cell? ⟨ps,3,none⟩=some (.int .i64 (H:Int)):=ag b5 3;have wS:=au b5;have n6:¬ ps=w.heap.size:=by rintro rfl;rw [g9] at d7;exact b7.out.2.1.2.2.2 (Prod.mk.inj d7).1
   have F:=ae (aI (aI d6 d7) (aI (aI d9 n5) (aI g7 (aI b5 g9))));have hS:=aI c2 h5;have n7:=ae g8;have sS:=ae r4;have u0:=ae r3;clear r4 r3;have h6:=ae (fun (x:World) (ox:Own) (hx:aj ai wr oj x ox)=>UZ (L:=B) (D:=D) (fun h=>b7.out.1.2.2.1 h.symm) (fun h=>b7.out.1.2.2.2.1 h.symm) (fun h=>b7.out.2.2.2.1.1 h) (g7.step hx id) pM.out r2.out (H) H (by have:=g6;omega) (by have:=g6;omega) (by have:=n4.out;omega));clear d6 d9 g7 b5 g8 f3 c3 h5 c2 f2;go_wp2_with fail;refine Aa (fun w'=>w'.cell? ⟨w.heap.size,0,none⟩=some (.pointer (some ⟨ps,0,none⟩))/\w'.cell? ⟨ps,3,none⟩=some (.int .i64 (H:Int))) (fun _=>true) (by kernel_rfl) hS (fun e0 => ?_);refine tp 0 (h:=tp 1 (h:=tp 2 (h:=tp 3 (h:=tp 4 (h:=tp 5 (h:=tv 6 (.int .i64 (H:Int)) (hy:=fun w n8=>by (try dsimp only at n8);go_simp;first | done | rfl | exact wrap_i64 om om) (hQ:=by exact fun _ _ _ h=>AQ (by decide) h) (h:=tp 7 (h:=tp 8 (h:=tp 9 (h:=tp 10 (h:=tO 11 (h:=?_))))))))))))
   go_wp2_with fail;have h7:=(aj.refl ai wr oj).drew;refine (h6.out _ _ h7).mono ?_;rintro e w1 ⟨v1,o1,rfl,O,h8⟩;obtain ⟨W, -,rfl,zW⟩:=h8.2 t0.out;rw [r1.out] at zW;have O:aj (ak B) wr oj w1 o1:=(h7.only B).trans O;clear h8 e0;have tg:=b7.out;have u2:=(O.block _ (au F.out.1.1) (by rw [F.out.1.2];exact fun h=>tg.2.2.2.1.2 h.symm)).trans F.out.1.1;have u3:=(O.block _ (au F.out.2.1.1) (by rw [F.out.2.1.2];exact fun h=>tg.2.2.2.1.2 h.symm)).trans F.out.2.1.1;have up:=(O.block _ wS (by rw [F.out.2.2.2.2];exact fun h=>tg.2.1.2.1 h)).trans F.out.2.2.2.1;have e4:=aI (ag (cs:=[_]) u2 0) (ag up 3);go_wp2_with fail;refine ⟨fun _=>e4, ?_⟩;refine tp 12 (h:=tp 13 (h:=tp 14 (h:=tp 15 (h:=tp 16 (h:=tD (h:=?_))))));have z2:=(O.own _ (au F.out.1.1)).trans F.out.1.2;have z3:=(O.own _ (au F.out.2.1.1)).trans F.out.2.1.2;have zp:=(O.own _ wS).trans F.out.2.2.2.2;have h9:=F.out.2.2.1.step O (fun h=>tg.2.2.2.1.1 h.symm);have r8:=sS.out.step O (fun h=>tg.2.2.1.1 h) (fun h=>tg.1.2.2.1 h);have r9:=u0.out.step O (fun h=>tg.1.2.2.1 h);have i0:=n7.out.trans (O.mono (T':=fun t=>t=S \/ t=A \/ t=B) (fun _ h => .inr (.inr h)));clear h6 O;go_wp2_with fail;refine (Fq w1).mono ?_;rintro e w' ⟨rfl,rfl⟩;have b6:=(aj.refl (ak S) w1 o1).setCell (a:=⟨ps,2,none⟩) (.pointer (some ⟨W,0,none⟩)) (.inl (by show (o1 ps).1=S;rw [zp]));have a7:(w1.setCell ⟨ps,2,none⟩ (.pointer (some ⟨W,0,none⟩))).heap[ps]?=some (.cells (storeCells pd (.pointer (some ⟨pa,0,none⟩)) (.pointer (some ⟨W,0,none⟩)) H 0 E k0.promised k0.current kv false).toArray 165 (0,0)):=Ai (i:=2) _ up;have b9:w.heap.size ≠ ps:=by rintro rfl;rw [zp] at z2;exact tg.2.1.2.2.2 (Prod.mk.inj z2).1
   have i1:w.heap.size+1 ≠ ps:=by intro h;rw [h,zp] at z3;exact tg.2.1.2.2.2 (Prod.mk.inj z3).1
   have a4:=(Below.heap_setCell w1 ⟨ps,2,none⟩ (.pointer (some ⟨W,0,none⟩)) w.heap.size b9).trans u2;have a8:=(Below.heap_setCell w1 ⟨ps,2,none⟩ (.pointer (some ⟨W,0,none⟩)) (w.heap.size+1) i1).trans u3;have c0:=zW.step b6 (fun h=>tg.2.1.2.1 h.symm) (fun h=>tg.1.1 h);have e6:=h9.step b6 (fun h=>tg.2.1.2.2.1 h.symm);have p7:=r8.step b6 (fun h=>tg.2.1.1 h.symm) (fun h=>tg.1.1 h);have p8:=r9.step b6 (fun h=>tg.1.1 h);have c4:=i0.setCell (a:=⟨ps,2,none⟩) (.pointer (some ⟨W,0,none⟩)) (.inl (by show (o1 ps).1=S \/ _;rw [zp];exact .inl rfl));have q1:=e4.1;have q2:w1.frozen? ⟨ps,2,none⟩=false:=Ap up 2;have q3:=ag up 2;obtain ⟨W2,e7⟩:=az (w1.setCell ⟨ps,2,none⟩ (.pointer (some ⟨W,0,none⟩)));rw [e7] at a7 a4 a8 c0 e6 c4 p7 p8;have i2:=ae e7;have i3:=ae (Qs c0 _ rfl);have c6:=c0;obtain ⟨-, -, -, -, -, -, -,c6⟩:=c6;clear b6 e7 e4 up u2 u3 zW h9 i0 r8 r9;go_wp2_with fail;rw [i2.out];refine i3.out.mono ?_;rintro e w3 ⟨v3,n9,rfl,a3,vs,e8, -,i4,hz⟩;have i5:sH w3 n9 v3 a1.records.length vs:=XG e8 (fun k hk=>by rw [hz k (e8.lt k hk).1]);have o0:a1.records.length<=300:=by
    have h1:=c6.2.2.2.2.1;have h2:=c6.2.2.2.2.2.1;have h3:a1.n=H:=by rw [<-r1.out];exact Ad.Bq _ _ _
    have:=g6;omega
   have e9:=Oe i5 i4 (fun b hb=>Nat.le_trans (c6.2.2.2.2.2.2 b hb) om) o0 t4.out;simp only [Dy] at e9;have i6:=ae e9;clear e9 i5 e8 i4 hz i3;go_wp2_with fail;refine i6.out.mono ?_;rintro e u ⟨v4,o4,rfl,c7,r,rfl,f0, -⟩;clear i6;have d3:=a3.trans c7;have d4:=ae (AB (P:=prog) u 37 _ LX);have f1:=(aj.refl ai u o4).alloc (.cells #[.int .u64 0, .int .u64 0, .slice none 0 0] 37) (Y,0);have i7:(u.alloc (.cells #[.int .u64 0, .int .u64 0, .slice none 0 0] 37)).heap[u.heap.size]?=some (.cells [.int .u64 0, .int .u64 0, .slice none 0 0].toArray 37 (0,0)):=heap_alloc_new u _;have i8:Ak o4 u.heap.size (Y,0) u.heap.size=(Y,0):=Au _ _ _;obtain ⟨t7,t8,f4⟩:=f0.form;obtain ⟨i9,f5⟩:=Ba (P:=prog) (ty:=37) (vs:=[.int .u64 (k1.promised.toNat:Int), .int .u64 (k1.current.toNat:Int),r]) i7 rfl (by kernel_rfl) (by rw [f4];rfl);have c8:=ae i9;have s5:=(f1.mono (T':=ak Y) (fun _ h=>h.elim)).setCells u.heap.size 0 [.int .u64 (k1.promised.toNat:Int), .int .u64 (k1.current.toNat:Int),r] (.inl (by show (Ak o4 u.heap.size (Y,0) u.heap.size).1=Y;rw [i8]));have f6:=(c4.trans (d3.mono (T':=fun t=>t=S \/ t=A \/ t=B) (fun _ h=>h.elim))).trans ((f1.mono (T':=fun t=>t=S \/ t=A \/ t=B) (fun _ h=>h.elim)).setCells u.heap.size 0 [.int .u64 (k1.promised.toNat:Int), .int .u64 (k1.current.toNat:Int),r] (.inr (Nat.le_refl _)));generalize Ak o4 u.heap.size (Y,0)=o5 at *;obtain ⟨q,f7⟩:=az ((u.alloc (.cells #[.int .u64 0, .int .u64 0, .slice none 0 0] 37)).setCells u.heap.size 0 [.int .u64 (k1.promised.toNat:Int), .int .u64 (k1.current.toNat:Int),r]);rw [f7] at c8 f5 s5 f6;have e5:=(c7.block w.heap.size (au ((a3.block _ (au a4) id).trans a4)) id).trans ((a3.block _ (au a4) id).trans a4);have c9:=(c7.block (w.heap.size+1) (au ((a3.block _ (au a8) id).trans a8)) id).trans ((a3.block _ (au a8) id).trans a8);have a9:=(c7.block ps (au ((a3.block _ (au a7) id).trans a7)) id).trans ((a3.block _ (au a7) id).trans a7);have d5:∀ k,k<u.heap.size->q.heap[k]?=u.heap[k]?:=fun k hk=>by
    rw [<-f7,ah _ _ _ _ _ om];exact Below.heap_alloc _ _ _ hk
   have e5:=(d5 _ (au e5)).trans e5;have c9:=(d5 _ (au c9)).trans c9;have d1:u.heap.size ≠ ps:=by have:=au a9;omega
   have j0:w.heap.size ≠ u.heap.size:=by have:=c4.size;have:=d3.size;have:=au a4;omega
   have a9:=(d5 _ (au a9)).trans a9;have b1:=(d3.only Y).trans s5;have j1:=(b1.own _ (au a4)).trans z2;have j2:=(b1.own _ (au a8)).trans z3;have a5:=(b1.own _ (au a7)).trans zp;have j3:=c0.step b1 (fun h=>tg.2.2.2.1.2 h) (fun h=>tg.1.2.2.2.2 h);have j4:=e6.step b1 (fun h=>tg.2.2.2.2 h);have rU:=p7.step b1 (fun h=>tg.2.2.1.2.2 h) (fun h=>tg.1.2.2.2.2 h);have s2:=p8.step b1 (fun h=>tg.1.2.2.2.2 h);have p9:=ae (aI rU s2);have j5:=(f0.step s5 (fun h=>tg.1.2.2.2.2 h)).low (Nat.le_trans c4.size a3.size);have J:=ae (aI (aI e5 j1) (aI c9 j2));have a2:=ae (aI a5 (aI j3 (aI j4 (aI j5 f6))));have f8:=ae f5;have pH:=ae a9;have c5:=ag (cs:=[_]) e5 0;have o6:q.cell? ⟨ps,5,none⟩=some (.int .u64 (E.toNat:Int)):=by simpa [storeCells] using ag a9 5
   obtain ⟨b8,j6⟩:=az (u.heap.size);rw [j6] at d4 c8 f8 d1 j0;have o7:=ae f4;clear f4 i9 f1 s5 i7 i8 f5 f6 f7 d5 e5 c9 a9 b1 j1 j2 a5 j3 j4 j5 f0 d3 a3 c7 c0 e6 c4 a4 a8 a7 z2 z3 zp q1 q2 q3 i2 W2 j6 rU s2 p7 p8
   by_cases hc:E.toNat<U.toNat
   ·have j7:decide (E.toNat<U.toNat)=true:=decide_eq_true hc
    go_wp2_with (first
     | ((with_reducible apply AU);exact d4.out;simp only [Act.put,GL,DL,lss])
     | ((with_reducible apply AC);exact c8.out;simp only [Act.put]))
    have p0:(q.drew).heap[ps]?=some (.cells (storeCells pd (.pointer (some ⟨pa,0,none⟩)) (.pointer (some ⟨W,0,none⟩)) H 0 E k0.promised k0.current kv false).toArray 165 (0,0)):=pH.out;have p1:=Ai (i:=4) (.int .i64 1) p0;have p2:=Ai (i:=5) (.int .u64 (U.toNat:Int)) p1;have p3:((((q.drew).setCell ⟨ps,4,none⟩ (.int .i64 1)).setCell ⟨ps,5,none⟩ (.int .u64 (U.toNat:Int))).setCells ps 6 [.int .u64 (k1.promised.toNat:Int), .int .u64 (k1.current.toNat:Int),r]).heap[ps]?=some (.cells (storeCells pd (.pointer (some ⟨pa,0,none⟩)) (.pointer (some ⟨W,0,none⟩)) H 1 U k1.promised k1.current r false).toArray 165 (0,0)):=BP ps 165 _ 6 _ _ p2 (by simp [storeCells]);have j8:=ae (run_storeAt_mid (P:=prog) (((q.drew).setCell ⟨ps,4,none⟩ (.int .i64 1)).setCell ⟨ps,5,none⟩ (.int .u64 (U.toNat:Int))) ps 6 37 #[.int .u64 (k1.promised.toNat:Int), .int .u64 (k1.current.toNat:Int),r] (Dh p2 6 3 (by simp [storeCells])) Ij (by rw [o7.out];simp [Value.oneCell']));have a5:=a2.out.1;have a6:=(((aj.refl (ak S) q o5).drew.setCell (a:=⟨ps,4,none⟩) (.int .i64 1) (.inl (by show (o5 ps).1=S;rw [a5]))).setCell (a:=⟨ps,5,none⟩) (.int .u64 (U.toNat:Int)) (.inl (by show (o5 ps).1=S;rw [a5]))).setCells ps 6 [.int .u64 (k1.promised.toNat:Int), .int .u64 (k1.current.toNat:Int),r] (.inl (by show (o5 ps).1=S;rw [a5]));have v2:=(a6.block _ (au J.out.1.1) (by rw [J.out.1.2];exact fun h=>tg.2.1.2.2.2 h.symm)).trans J.out.1.1;have j9:=(a6.block _ (au J.out.2.1) (by rw [J.out.2.2];exact fun h=>tg.2.1.2.2.2 h.symm)).trans J.out.2.1;have k7:=ae (show OpenSt ((((q.drew).setCell ⟨ps,4,none⟩ (.int .i64 1)).setCell ⟨ps,5,none⟩ (.int .u64 (U.toNat:Int))).setCells ps 6 [.int .u64 (k1.promised.toNat:Int), .int .u64 (k1.current.toNat:Int),r]) o5 S A B D Y w.heap.size ps pd w.heap.size H d a0 a1 E U k0 k1 2 from
     ⟨⟨⟨v2,J.out.1.2⟩,⟨j9,J.out.2.2⟩,a2.out.2.2.1.step a6 (fun h=>tg.2.1.2.2.1 h.symm)⟩, .inr (.inr ⟨rfl,by unfold PO;rw [if_pos hc];exact ⟨B,A,W,pa,1,r, .inr ⟨rfl,rfl⟩,⟨_,_,p3, .inr ⟨rfl,rfl,rfl⟩,a5⟩,a2.out.2.2.2.1.step a6 (fun h=>tg.1.1 h),a2.out.2.1.step a6 (fun h=>tg.2.1.2.1 h.symm) (fun h=>tg.1.1 h),p9.out.1.step a6 (fun h=>tg.2.1.1 h.symm) (fun h=>tg.1.1 h),a2.out.2.2.1.step a6 (fun h=>tg.2.1.2.2.1 h.symm)⟩⟩)⟩)
    have pW:=ae (a2.out.2.2.2.2.trans (a6.mono (T':=fun t=>t=S \/ t=A \/ t=B) (fun _ h => .inl h)));have o8:(q.drew).frozen? ⟨ps,4,none⟩=false:=Ap p0 4;have o9:(q.drew).frozen? ⟨ps,5,none⟩=false:=Ap p0 5;have k8:=ag p0 4;have k9:=ag p0 5;simp only [storeCells,ax,ay] at k8 k9;have d2:(q.drew).heap[w.heap.size]?=_:=J.out.1.1;have d8:(q.drew).heap[b8]?=_:=f8.out;have f9:=(Below.heap_setCell (q.drew) ⟨ps,4,none⟩ (.int .i64 1) w.heap.size b9).trans d2;have g2:=(Below.heap_setCell (q.drew) ⟨ps,4,none⟩ (.int .i64 1) b8 d1).trans d8;have g3:=(Below.heap_setCell ((q.drew).setCell ⟨ps,4,none⟩ (.int .i64 1)) ⟨ps,5,none⟩ (.int .u64 (U.toNat:Int)) w.heap.size b9).trans f9;have g4:=(Below.heap_setCell ((q.drew).setCell ⟨ps,4,none⟩ (.int .i64 1)) ⟨ps,5,none⟩ (.int .u64 (U.toNat:Int)) b8 d1).trans g2;have l0:=(ah ps [.int .u64 (k1.promised.toNat:Int), .int .u64 (k1.current.toNat:Int),r] 6 (((q.drew).setCell ⟨ps,4,none⟩ (.int .i64 1)).setCell ⟨ps,5,none⟩ (.int .u64 (U.toNat:Int))) w.heap.size b9).trans g3;have l1:=(ah ps [.int .u64 (k1.promised.toNat:Int), .int .u64 (k1.current.toNat:Int),r] 6 (((q.drew).setCell ⟨ps,4,none⟩ (.int .i64 1)).setCell ⟨ps,5,none⟩ (.int .u64 (U.toNat:Int))) b8 d1).trans g4;have g5:q.drew.cell? ⟨w.heap.size,0,none⟩=some (.pointer (some ⟨ps,0,none⟩))/\q.drew.heap[b8]?=some (.cells [.int .u64 (k1.promised.toNat:Int), .int .u64 (k1.current.toNat:Int),r].toArray 37 (0,0)):=aI c5 f8.out;have b2:((q.drew).setCell ⟨ps,4,none⟩ (.int .i64 1)).cell? ⟨w.heap.size,0,none⟩=some (.pointer (some ⟨ps,0,none⟩))/\((q.drew).setCell ⟨ps,4,none⟩ (.int .i64 1)).heap[b8]?=some (.cells [.int .u64 (k1.promised.toNat:Int), .int .u64 (k1.current.toNat:Int),r].toArray 37 (0,0)):=aI (ag (cs:=[_]) f9 0) g2;have b3:(((q.drew).setCell ⟨ps,4,none⟩ (.int .i64 1)).setCell ⟨ps,5,none⟩ (.int .u64 (U.toNat:Int))).cell? ⟨w.heap.size,0,none⟩=some (.pointer (some ⟨ps,0,none⟩))/\(((q.drew).setCell ⟨ps,4,none⟩ (.int .i64 1)).setCell ⟨ps,5,none⟩ (.int .u64 (U.toNat:Int))).heap[b8]?=some (.cells [.int .u64 (k1.promised.toNat:Int), .int .u64 (k1.current.toNat:Int),r].toArray 37 (0,0)):=aI (ag (cs:=[_]) g3 0) g4;have b4:((((q.drew).setCell ⟨ps,4,none⟩ (.int .i64 1)).setCell ⟨ps,5,none⟩ (.int .u64 (U.toNat:Int))).setCells ps 6 [.int .u64 (k1.promised.toNat:Int), .int .u64 (k1.current.toNat:Int),r]).cell? ⟨w.heap.size,0,none⟩=some (.pointer (some ⟨ps,0,none⟩))/\((((q.drew).setCell ⟨ps,4,none⟩ (.int .i64 1)).setCell ⟨ps,5,none⟩ (.int .u64 (U.toNat:Int))).setCells ps 6 [.int .u64 (k1.promised.toNat:Int), .int .u64 (k1.current.toNat:Int),r]).heap[b8]?=some (.cells [.int .u64 (k1.promised.toNat:Int), .int .u64 (k1.current.toNat:Int),r].toArray 37 (0,0)):=aI (ag (cs:=[_]) l0 0) l1;clear p0 p1 p2 p3 a6 v2 j9 a5 d2 d8 f9 g2 g3 g4 l0 l1 j7 o6 c8 d4 pH c5 n6 b9 i1 d1 j0;obtain ⟨V,hV⟩:=az (q.drew);rw [hV] at k7 pW o8 o9 k8 k9 g5 b2 b3 b4 j8;have p4:=ae b2;have p5:=ae b3;have p6:=ae b4;clear b2 b3 b4;refine Aa (fun w'=>w'.cell? ⟨w.heap.size,0,none⟩=some (.pointer (some ⟨ps,0,none⟩))/\w'.heap[b8]?=some (.cells [.int .u64 (k1.promised.toNat:Int), .int .u64 (k1.current.toNat:Int),r].toArray 37 (0,0))) (fun _=>true) (by kernel_rfl) (by rw [hV];exact g5) (fun e0 => ?_);clear e0;rw [hV];clear hV;have t9:=g5;refine tp 0 (h:=tp 1 (h:=tp 2 (h:=tp 3 (h:=tp 4 (h:=?_)))));refine Dt (i:=5) (v := .agg [.int .u64 (k1.promised.toNat:Int), .int .u64 (k1.current.toNat:Int),r].toArray) rfl (by kernel_rfl) (fun _ _ _ h=>AQ (by decide) h) (yieldsIf_load_mid rfl 37 (.tmp 8) rfl b8 0 rfl [.int .u64 (k1.promised.toNat:Int), .int .u64 (k1.current.toNat:Int),r] _ (fun w h=>AV h.2) underlying37 rfl (by kernel_rfl)) (by assumption) ?_;simp only [Act.put,GL,DL,lss];refine tp 6 (h:=tp 7 (h:=tO 8 (h:=?_)));go_wp2_with fail;have b2:=p4.out
    first | refine ⟨fun _=>b2, ?_⟩ | refine ⟨b2.2, ?_⟩
    refine tp 9 (h:=tp 10 (h:=tO 11 (h:=?_)));go_wp2_with fail;have b3:=p5.out
    first | refine ⟨fun _=>b3, ?_⟩ | refine ⟨b3.2, ?_⟩
    refine tp 12 (h:=tp 13 (h:=tO 14 (h:=?_)));apply AC
    ·exact j8.out
    simp only [Act.put];go_wp2_with fail;have b4:=p6.out
    first | refine ⟨fun _=>b4, ?_⟩ | refine ⟨b4.2, ?_⟩
    refine tD (h:=?_);go_wp2_with fail;go_roundw
    case rel=>exact ⟨2,o5,om,by first | rfl | go_num,k7.out,pW.out⟩
    case measure=>simp [intOf]
   ·have j7:decide (E.toNat<U.toNat)=false:=decide_eq_false hc
    go_wp2_with (first
     | ((with_reducible apply AU);exact d4.out;simp only [Act.put,GL,DL,lss])
     | ((with_reducible apply AC);exact c8.out;simp only [Act.put]))
    refine ⟨⟨2,o5,om,rfl,⟨⟨⟨J.out.1.1,J.out.1.2⟩,⟨J.out.2.1,J.out.2.2⟩,a2.out.2.2.1⟩, .inr (.inr ⟨rfl,by unfold PO;rw [if_neg hc];exact ⟨A,B,pa,W,0,kv, .inl ⟨rfl,rfl⟩,⟨_,_,pH.out, .inl ⟨rfl,rfl,rfl⟩,a2.out.1⟩,p9.out.2,p9.out.1,a2.out.2.1,a2.out.2.2.1⟩⟩)⟩,a2.out.2.2.2.2⟩,by simp [intOf]⟩
  ·have b6:=((aj.refl (ak Y) wr oj).setCell (a:=⟨w.heap.size,0,none⟩) (.pointer (some ⟨ps,0,none⟩)) (.inl (by show (oj w.heap.size).1=Y;rw [d7]))).setCell (a:=⟨w.heap.size+1,0,none⟩) (.int .i64 0) (.inl (by show (oj (w.heap.size+1)).1=Y;rw [n5]));have s4:=(g8.setCell (a:=⟨w.heap.size,0,none⟩) (.pointer (some ⟨ps,0,none⟩)) (.inr (Nat.le_refl _))).setCell (a:=⟨w.heap.size+1,0,none⟩) (.int .i64 0) (.inr (by show w.heap.size<=w.heap.size+1;omega));have hF:=ae (aI s4 (r5.step b6 (fun t ht=>by
    have:=b7.out;subst ht;refine ⟨fun h=>this.1.2.2.2.2 h.symm,fun h => ?_⟩
    rcases h with h | h | h | h
    ·exact this.2.1.2.2.2 h.symm
    ·exact this.2.2.1.2.2 h.symm
    ·exact this.2.2.2.1.2 h.symm
    ·exact this.2.2.2.2 h.symm)))
   have e2:=Ai (cs:=[_]) (i:=0) (.pointer (some ⟨ps,0,none⟩)) d6;have s6:=(Below.heap_setCell wr ⟨w.heap.size,0,none⟩ (.pointer (some ⟨ps,0,none⟩)) (w.heap.size+1) (by show w.heap.size+1 ≠ w.heap.size;omega)).trans d9;have e3:=Ai (cs:=[_]) (i:=0) (.int .i64 0) s6;have s7:=(Below.heap_setCell (wr.setCell ⟨w.heap.size,0,none⟩ (.pointer (some ⟨ps,0,none⟩))) ⟨w.heap.size+1,0,none⟩ (.int .i64 0) w.heap.size (by show w.heap.size ≠ w.heap.size+1;omega)).trans e2;have k2:=ag (cs:=[_]) s7 0;have k3:=ag (cs:=[_]) e3 0;have u1:=ae k2;have u4:=ae k3;clear b6 s4 e2 s6 e3 s7 k2 k3 g8 r5;go_wp2_with fail;refine leaves_cons (f:=120) (args := #[.pointer (some ⟨w.heap.size,0,none⟩), .pointer (some ⟨w.heap.size+1,0,none⟩)]) (by simp) (by simp [go_sem]) ?_;refine (catch_idle _ _ _).mono ?_;rintro e u' u8 ⟨rfl,rfl,rfl⟩;have k2:=u1.out;have k3:=u4.out;refine ⟨.tuple #[.pointer (some ⟨ps,0,none⟩), .int .i64 0],by simp [results,go_sem,k2,k3],_,oj,rfl,hF.out.1,ps,t5,rfl,hF.out.2⟩
end
theorem oQ.Tq {n:Nat}(hn:n<=8) (S:BitVec 64) (q:S.toNat<256 ^ n) (r:List UInt8):(oQ.mk (be n S++r) false).num n=(S,⟨r,false⟩):=by
 unfold oQ.num oQ.take;have hl:¬ (be n S++r).length<n:=by rw [List.length_append,Az];omega
 simp only [Bool.false_eq_true,if_false,if_neg hl,Option.map_some,Option.getD_some,Prod.mk.injEq,oQ.mk.injEq,and_true];rw [List.take_left' (Az n S),List.drop_left' (Az n S)];exact ⟨BitVec.eq_of_toNat_eq (NJ hn S q),rfl⟩
theorem oQ.Hz (S:BitVec 64) (r:List UInt8):(oQ.mk (be 8 S++r) false).num 8=(S,⟨r,false⟩):=
 oQ.Tq om S (Nat.lt_of_lt_of_le S.isLt (by decide)) r
theorem oQ.JY (c:UInt8) (r:List UInt8):(oQ.mk (c :: r) false).num 1=(BitVec.ofNat 64 c.toNat,⟨r,false⟩):=by
 have hc:=c.toNat_lt;have:=oQ.Tq (n:=1) om (BitVec.ofNat 64 c.toNat) (by rw [BitVec.toNat_ofNat,Nat.mod_eq_of_lt om];omega) r;rw [bP] at this;exact this
theorem oQ.ZC (b r:List UInt8) (hb:b.length<4294967296):(oQ.mk (be 4 (BitVec.ofNat 64 b.length)++(b++r)) false).text=(b,⟨r,false⟩):=by
 have hl:(BitVec.ofNat 64 b.length).toNat=b.length:=by rw [BitVec.toNat_ofNat,Nat.mod_eq_of_lt om]
 unfold oQ.text;rw [oQ.Tq om _ (by rw [hl];omega)];simp only [hl];unfold oQ.txt oQ.take;have q:¬ (b++r).length<b.length:=by rw [List.length_append];omega
 simp only [Bool.false_eq_true,if_false,if_neg q,Option.getD_some,List.take_left,List.drop_left]
def Short (ls:List Ar):Prop:=∀ x ∈ ls,x.b.length<4294967296
theorem Ru (ls:List Ar) (h:Short ls) (r:List UInt8):∀ k,k<=ls.length->Ce k ⟨encs ls++r,false⟩=(ls.take k,⟨encs (ls.drop k)++r,false⟩)
 | 0,_=>by simp [Ce]
 | k+1,hk=>by
  have q:=Ru ls h r k om;have u:ls[k]?=some ls[k]:=List.getElem?_eq_getElem om;have E:ls.drop k=ls[k] :: ls.drop (k+1):=List.drop_eq_getElem_cons om;have F:encs (ls.drop k)++r=be 8 ls[k].e++(be 4 (BitVec.ofNat 64 ls[k].b.length)++(ls[k].b++(encs (ls.drop (k+1))++r))):=by
   rw [E];unfold encs;rw [List.flatMap_cons];simp [Ar.enc]
  unfold Ce;rw [q,F];simp only [oQ.Hz];rw [oQ.ZC _ _ (h _ (List.getElem_mem _))];simp only [Prod.mk.injEq,and_true];rw [List.take_add_one,u];rfl
theorem KP (ls:List Ar) (h:Short ls) (hn:ls.length<=256) (r:List UInt8):(oQ.mk (GR ls++r) false).lines=(ls,⟨r,false⟩):=by
 have hl:(BitVec.ofNat 64 ls.length).toNat=ls.length:=by rw [BitVec.toNat_ofNat,Nat.mod_eq_of_lt om]
 have hc:(oQ.mk (GR ls++r) false).count 256=(ls.length,⟨encs ls++r,false⟩):=by
  unfold oQ.count GR;rw [List.append_assoc,oQ.Hz];simp only [hl];rw [if_neg om]
 unfold oQ.lines;rw [hc];simp only;rw [Ru ls h r _ (Nat.le_refl _)];simp [encs]
theorem Jp:(oQ.mk [] false).done=0:=rfl
theorem Py (k:AX) (e:BitVec 64):Fh k (2 :: be 8 e)=some { k with promised:=e }:=by
 have h:=oQ.Hz e [];rw [List.append_nil] at h;unfold Fh;simp only [oQ.JY];rw [if_pos (by decide)];unfold AX.Ez;simp only [h,Jp,if_true]
theorem Tc (k:AX) (e:BitVec 64) (ls:List Ar) (h:Short ls) (hn:ls.length<=256):Fh k (3 :: (be 8 e++GR ls))=some ⟨e,e,ls⟩:=by
 have hl:=KP ls h hn [];rw [List.append_nil] at hl;unfold Fh;simp only [oQ.JY];rw [if_neg (by decide),if_pos (by decide)];unfold AX.FW;simp only [oQ.Hz,hl,Jp,if_true]
theorem QI (k:AX) (ls:List Ar) (h:Short ls) (hn:ls.length<=256):Fh k (4 :: GR ls)=some { k with lines:=k.lines++ls }:=by
 have hl:=KP ls h hn [];rw [List.append_nil] at hl;unfold Fh;simp only [oQ.JY];rw [if_neg (by decide),if_neg (by decide),if_pos (by decide)];unfold AX.Fb;simp only [hl,Jp,if_true]
theorem Td (age p c:BitVec 64) (ls:List Ar) (q:0<age.toNat) (h:Short ls) (hn:ls.length<=256):EF (IY age p c ls)=some (age,⟨p,c,ls⟩):=by
 have hl:=KP ls h hn [];rw [List.append_nil] at hl;unfold EF IY;simp only [oQ.JY,oQ.Hz,hl,Jp];rw [if_pos ⟨by decide,trivial,q⟩]
theorem Om (b:List UInt8):∀ (q:List (List UInt8)) (k kf kn:AX),FV k q=some kf->Fh kf b=some kn->FV k (q++[b])=some kn
 | [],k,kf,kn,h,h1=>by
  simp only [FV,Option.some.injEq] at h;subst h;simp [FV,h1]
 | x :: r,k,kf,kn,h,h1=>by
  obtain ⟨u,E,F⟩:=Oo h;have:=Om b r u kf kn F h1;simp only [List.cons_append,FV,E,this]
theorem Oi {q:List (List UInt8)}{age:BitVec 64}{k kn:AX}{b:List UInt8}(h:DK q=some (age,k)) (F:0<age.toNat) (J:Fh k b=some kn):DK (q++[b])=some (age,kn):=by
 cases q with
 | nil =>
  simp only [DK,Option.some.injEq,Prod.mk.injEq] at h;obtain ⟨rfl, -⟩:=h;simp at F
 | cons x r =>
  change (match EF x with | some (a,k)=>(FV k r).map (fun E=>(a,E)) | none=>none)=some (age,k) at h
  cases u:EF x with
  | none=>rw [u] at h;cases h
  | some y =>
   obtain ⟨a,k0⟩:=y;rw [u] at h;simp only [Option.map_eq_some_iff,Prod.mk.injEq] at h;obtain ⟨E,O,rfl,rfl⟩:=h;simp only [List.cons_append,DK,u,Om b r k0 _ kn O J,Option.map_some]
theorem Px {b:List UInt8}{age:BitVec 64}{k:AX}(h:EF b=some (age,k)):DK [b]=some (age,k):=by
 simp [DK,h,FV]
structure BG where
 k:Nat
 e:BitVec 64
 c:BitVec 64
 at':Nat
 com:Nat
 ls:List Ar
def Ar.may (x:Ar):Prop:=(1<=x.e.toNat/\x.e.toNat<=281474976710656)/\1<=x.b.length/\x.b.length<=4096
structure BG.May (m:BG):Prop where
 k1:1<=m.k
 k6:m.k<=6
 e1:1<=m.e.toNat
 e2:m.e.toNat<=281474976710656
 c1:m.c.toNat<=m.e.toNat
 a1:m.at'<=256
 o1:m.com<=256
 n1:m.ls.length<=256
 hl:∀ x ∈ m.ls,x.may
 kc:m.k ≠ 2->m.c=0
 ko:m.k ≠ 5->m.com=0
 ka:m.k ≠ 5->m.k ≠ 6->m.at'=0
 kl:m.k ≠ 2->m.k ≠ 4->m.k ≠ 5->m.ls=[]
instance (x:Ar):Decidable x.may:=by unfold Ar.may;infer_instance
def BG.put (m:BG):List UInt8:=
 UInt8.ofNat m.k :: (be 8 m.e++(be 8 m.c++(be 8 (BitVec.ofNat 64 m.at')++(be 8 (BitVec.ofNat 64 m.com)++GR m.ls))))
def QN (b:List UInt8):BG × oQ:=
 let r0:=(oQ.mk b false).num 1
 let r1:=r0.2.num 8
 let r2:=r1.2.num 8
 let r3:=r2.2.count 256
 let r4:=r3.2.count 256
 let r5:=r4.2.lines
 (⟨r0.1.toNat % 256,r1.1,r2.1,r3.1,r4.1,r5.1⟩,r5.2)
theorem RX (n:Nat) (hn:n<=256) (r:List UInt8):(oQ.mk (be 8 (BitVec.ofNat 64 n)++r) false).count 256=(n,⟨r,false⟩):=by
 have hl:(BitVec.ofNat 64 n).toNat=n:=by rw [BitVec.toNat_ofNat,Nat.mod_eq_of_lt om]
 unfold oQ.count;rw [oQ.Hz];simp only [hl];rw [if_neg om]
theorem Ar.may.short {ls:List Ar}(h:∀ x ∈ ls,x.may):Short ls:=fun x q=>Nat.lt_of_le_of_lt (h x q).2.2 om
theorem aH {m:BG}(h:m.May):QN m.put=(m,⟨[],false⟩):=by
 have q:(UInt8.ofNat m.k).toNat=m.k:=by rw [UInt8.toNat_ofNat',Nat.mod_eq_of_lt (by have:=h.k6;omega)]
 have hl:=KP m.ls (Ar.may.short h.hl) h.n1 [];rw [List.append_nil] at hl;have r:(BitVec.ofNat 64 m.k).toNat % 256=m.k:=by rw [BitVec.toNat_ofNat];have:=h.k6;omega
 unfold QN BG.put;simp only [oQ.JY,oQ.Hz,RX m.at' h.a1,RX m.com h.o1,hl,q,r]
structure SG (K H:Nat) (s:AZ):Prop where
 live:s.dead=false
 gc:Ad.Good K (s.cur,s.d)
 go:Ad.Good K (s.Us,s.d)
 pg:s.pages=H
 h4:4<=H
 VC:H<=200
 len:s.d.pages.length / 2=H
 nc:s.cur.n=H
 no:s.Us.n=H
 fst:(s.cur.first=0/\s.Us.first=H) \/ (s.cur.first=H/\s.Us.first=0/\0<s.age.toNat)
 rc:DK s.cur.records=some (s.age,s.kept)
 ro:∃ g k,DK s.Us.records=some (g,k)/\(g.toNat<s.age.toNat \/ g=0)
 Wl:s.age.toNat<=K
namespace SG
variable {K H:Nat}{s:AZ}
theorem dd (h:SG K H s):s.d.dead=false:=h.gc.dd
theorem row (h:SG K H s):s.d.row=[]:=h.gc.row
theorem apart (h:SG K H s):s.cur.first+s.cur.n<=s.Us.first \/ s.Us.first+s.Us.n<=s.cur.first:=by
 have r:=h.nc;have u:=h.no
 rcases h.fst with ⟨q,h4⟩ | ⟨q,h4, -⟩ <;> omega
theorem mono {K':Nat}(h:SG K H s) (q:K<=K'):SG K' H s:=
 ⟨h.live,h.gc.mono q,h.go.mono q,h.pg,h.h4,h.VC,h.len,h.nc,h.no,h.fst,h.rc,h.ro,Nat.le_trans h.Wl q⟩
theorem bG (h:SG K H s) (n:Int) (hn:n<=9223372036854775807):SG K H { s with d:=s.d.bG n }:=
 ⟨h.live,Ad.Good.bG h.gc n hn,Ad.Good.bG h.go n hn,h.pg,h.h4,h.VC,by show (s.d.bG n).pages.length / 2=H;rw [Af.Axl];exact h.len,h.nc,h.no,h.fst,h.rc,h.ro,h.Wl⟩
end SG
theorem Good.wf' {K:Nat}{s:Ad × Af}(h:Ad.Good K s):s.2.wf:=h.fine.2.2.2
theorem Yu {n e:Nat}{l:Ad}{b:List UInt8}(hn:l.n=n) (r:l.end'=e) (u:1<=b.length) (q:b.length<=l.room):Ad.many b<=n - e:=by
 unfold Ad.room at q;unfold Ad.many;rw [hn,r] at q;omega
theorem dO {b:List UInt8}{m:Nat}(q:1<=m) (r:b.length<=480*m):Ad.many b<=m:=by
 unfold Ad.many;omega
theorem AZ.Ul {K H:Nat}{s:AZ}(h:SG K H s) (hK:K+600<65536) (O:List UInt8) (r:AX) (hr:Fh s.kept O=some r) (h1:1<=O.length) (hs:Short r.lines) (hn:r.lines.length<=256) :
  (∃ q,s.write O r=(q,0)/\SG (K+3) H q/\q.kept=r/\q.d.pages.length=s.d.pages.length/\(s.d.left<0->q.d.left<0)) \/
  (s.write O r=(s,4)/\480*(H - 1)<(IY (s.age+1#64) r.promised r.current r.lines).length) \/
  (0<=s.d.left/\∃ q,s.write O r=(q,9)/\q.dead=true/\q.d.dead=true/\q.kept=s.kept/\q.pages=H/\q.d.row.length<=4096 /\
   ∀ Bz,∃ t,SG (K+600) H t/\t.d=q.d.BJ Bz/\t.d.left = -1/\t.d.pages.length=s.d.pages.length/\(t.kept=s.kept \/ t.kept=r)):=by
 have c6:=h.apart;have a3:=h.nc;have U:=h.no;have hH:=h.h4;have W:=h.fst;have c7:(s.age+1#64).toNat=s.age.toNat+1:=by
  have:=h.Wl;rw [BitVec.toNat_add];simp;omega
 have a9:=Td (s.age+1#64) r.promised r.current r.lines om hs hn;obtain ⟨AE,vP⟩:=az (IY (s.age+1#64) r.promised r.current r.lines);rw [vP] at a9;obtain ⟨g,k,b1,hg⟩:=h.ro;unfold AZ.write;rw [vP]
 by_cases hc:0<s.age.toNat/\O.length<=s.cur.room
 ·rw [if_pos hc];have hm:=Yu rfl rfl h1 hc.2
  rcases Ad.Nk h.gc om O with ⟨u, -⟩ | ⟨-,q,E,F,a7, -,Y,a2,hO,hl⟩ | ⟨hl,q,E, -,a4,a5,Y,a2,hB⟩
  ·simp only at u;omega
  ·left
   simp only [E,ne_eq,not_true_eq_false,if_false];simp only at a7 Y a2 hO hl;refine ⟨_,rfl,⟨h.live,F.mono om,(Ad.Good.Us h.go hO F.dd F.row (Good.wf' F) (by dsimp only;omega)).mono om,h.pg,h.h4,h.VC, ?_,Y.trans a3,U, ?_, ?_,⟨g,k,b1,hg⟩,by have:=h.Wl;dsimp only;omega⟩,rfl,hO.1,fun h=>by dsimp only;rw [hl h];exact h⟩
   ·show q.2.pages.length / 2=H;rw [hO.1];exact h.len
   ·show (q.1.first=0/\s.Us.first=H) \/ (q.1.first=H/\s.Us.first=0/\0<s.age.toNat)
    rw [a2];exact W
   ·show DK q.1.records=some (s.age,r);rw [a7];exact Oi h.rc hc.1 hr
  ·right;right
   refine ⟨hl,{ s with cur:=q.1,d:=q.2,dead:=true },by simp only [E,ne_eq,show ¬ ((9:Int)=0) by omega,not_false_eq_true,if_true],rfl,a4,rfl,h.pg,a5,fun Bz => ?_⟩;have B:=hB Bz;simp only at B;have b4:∀ kp,DK (Ad.AY s.cur.first (Ad.Aw (q.2.BJ Bz) s.cur.first s.cur.n)).records=some (s.age,kp) ->
     SG (K+600) H ⟨Ad.AY s.cur.first (Ad.Aw (q.2.BJ Bz) s.cur.first s.cur.n),s.Us,q.2.BJ Bz,H,s.age,kp,false⟩:=fun kp b9 =>
    ⟨rfl,B.good.mono om,(Ad.Good.Us h.go B.Us B.good.dd B.good.row (Good.wf' B.good) (by dsimp only;omega)).mono om,rfl,h.h4,h.VC,
     by show (q.2.BJ Bz).pages.length / 2=H;rw [B.Us.1];exact h.len,(Ad.JM _ _ _).trans a3,U,W,b9,⟨g,k,b1,hg⟩,by have:=h.Wl;dsimp only;omega⟩
   rcases B.recs with u | u
   ·exact ⟨_,b4 s.kept (by rw [u];exact h.rc),rfl,B.left,B.Us.1, .inl rfl⟩
   ·exact ⟨_,b4 r (by rw [u];exact Oi h.rc hc.1 hr),rfl,B.left,B.Us.1, .inr rfl⟩
 ·rw [if_neg hc]
  by_cases hf:480*(s.pages - 1)<AE.length
  ·rw [if_pos hf];exact .inr (.inl ⟨rfl,by rw [<-h.pg];exact hf⟩)
  ·rw [if_neg hf];rw [h.pg] at hf;have c8:s.Us.first=0 \/ 0<s.age.toNat \/ (s.cur.first=0/\s.Us.first=H):=by
    rcases W with h | h
    ·exact .inr (.inr h)
    ·exact .inl h.2.1
   rcases Ad.UL h.go om with ⟨s1,b5,c0,b6,c3,a6,a8,b2,b3⟩ | ⟨hl,q,E, -,a4,a5,Y,a2,hB⟩
   ·simp only at a6 a8 b2 b3;have c9:Ad.many AE<=H - 1:=dO om om
    rcases Ad.Nk c0 om AE with ⟨u, -⟩ | ⟨-,q,E,F,a7, -,Y,a2,hO,hl⟩ | ⟨hl,q,E, -,a4,a5,Y,a2,hB⟩
    ·rw [a6,c3,U] at u;omega
    ·left
     rw [a6,a8] at hO;have J:=b2.trans hO;refine ⟨{ s with cur:=q.1,Us:=s.cur,d:=q.2,age:=s.age+1#64,kept:=r }, ?_,⟨h.live,F.mono om,(Ad.Good.Us h.gc J F.dd F.row (Good.wf' F) (by dsimp only;omega)).mono om,h.pg,h.h4,h.VC, ?_,(Y.trans a6).trans U,a3, ?_, ?_,⟨s.age,s.kept,h.rc, .inl (by dsimp only;omega)⟩,by have:=h.Wl;dsimp only;omega⟩,rfl,J.1,fun h => ?_⟩
     ·simp only [b5,E,ne_eq,not_true_eq_false,if_false]
     ·show q.2.pages.length / 2=H;rw [J.1];exact h.len
     ·show (q.1.first=0/\s.cur.first=H) \/ (q.1.first=H/\s.cur.first=0/\0<(s.age+1#64).toNat)
      rw [a2,a8]
      rcases W with h | h
      ·exact .inr ⟨h.2,h.1,om⟩
      ·exact .inl ⟨h.2.1,h.1⟩
     ·show DK q.1.records=some (s.age+1#64,r);rw [a7,b6];exact Px a9
     ·have e1:=b3 h;have e2:=hl (by rw [e1];exact h);show q.2.left<0;rw [e2,e1];exact h
    ·right;right
     have c4:0<=s.d.left:=by
      by_cases hz:s.d.left<0
      ·rw [b3 hz] at hl;omega
      ·omega
     refine ⟨c4,{ s with Us:=q.1,d:=q.2,dead:=true },by simp only [b5,E,ne_eq,not_true_eq_false,if_false,show ¬ ((9:Int)=0) by omega,not_false_eq_true,if_true],rfl,a4,rfl,h.pg,a5,fun Bz => ?_⟩;have B:=hB Bz;rw [a6,a8,b6] at B;have J:=b2.trans B.Us;have b7:Ad.Good (K+600) (s.cur,q.2.BJ Bz):=(Ad.Good.Us h.gc J B.good.dd B.good.row (Good.wf' B.good) (by dsimp only;omega)).mono om;have b8:(q.2.BJ Bz).pages.length / 2=H:=by rw [J.1];exact h.len
     rcases B.recs with u | u
     ·refine ⟨⟨s.cur,Ad.AY s.Us.first (Ad.Aw (q.2.BJ Bz) s.Us.first s.Us.n),q.2.BJ Bz,H,s.age,s.kept,false⟩,⟨rfl,b7,B.good.mono om,rfl,h.h4,h.VC,b8,a3,(Ad.JM _ _ _).trans U,W,h.rc,⟨0,⟨0,0,[]⟩,by dsimp only;rw [u];rfl, .inr rfl⟩,by have:=h.Wl;dsimp only;omega⟩,rfl,B.left,J.1, .inl rfl⟩
     ·refine ⟨⟨Ad.AY s.Us.first (Ad.Aw (q.2.BJ Bz) s.Us.first s.Us.n),s.cur,q.2.BJ Bz,H,s.age+1#64,r,false⟩,⟨rfl,B.good.mono om,b7,rfl,h.h4,h.VC,b8,(Ad.JM _ _ _).trans U,a3, ?_,by dsimp only;rw [u];exact Px a9,⟨s.age,s.kept,h.rc, .inl (by dsimp only;omega)⟩,by have:=h.Wl;dsimp only;omega⟩,rfl,B.left,J.1, .inr rfl⟩
      show (s.Us.first=0/\s.cur.first=H) \/ (s.Us.first=H/\s.cur.first=0/\0<(s.age+1#64).toNat)
      rcases W with h | h
      ·exact .inr ⟨h.2,h.1,om⟩
      ·exact .inl ⟨h.2.1,h.1⟩
   ·right;right
    refine ⟨hl,{ s with Us:=q.1,d:=q.2,dead:=true },by simp only [E,ne_eq,show ¬ ((9:Int)=0) by omega,not_false_eq_true,if_true],rfl,a4,rfl,h.pg,a5,fun Bz => ?_⟩;have B:=hB Bz;simp only at B;refine ⟨⟨s.cur,Ad.AY s.Us.first (Ad.Aw (q.2.BJ Bz) s.Us.first s.Us.n),q.2.BJ Bz,H,s.age,s.kept,false⟩,⟨rfl,(Ad.Good.Us h.gc B.Us B.good.dd B.good.row (Good.wf' B.good) (by dsimp only;omega)).mono om,B.good.mono om,rfl,h.h4,h.VC,by show (q.2.BJ Bz).pages.length / 2=H;rw [B.Us.1];exact h.len,a3,(Ad.JM _ _ _).trans U,W,h.rc, ?_,by have:=h.Wl;dsimp only;omega⟩,rfl,B.left,B.Us.1, .inl rfl⟩
    rcases B.recs with u | u
    ·exact ⟨g,k,by dsimp only;rw [u];exact b1,hg⟩
    ·exact ⟨0,⟨0,0,[]⟩,by dsimp only;rw [u];rfl, .inr rfl⟩
theorem SG.reopen {K H:Nat}{s:AZ}(h:SG K H s):∃ O U k0 k1,DK (Ad.AY 0 (Ad.Aw s.d 0 H)).records=some (O,k0)/\DK (Ad.AY H (Ad.Aw s.d H H)).records=some (U,k1) /\
  PO s.d H (Ad.AY 0 (Ad.Aw s.d 0 H)) (Ad.AY H (Ad.Aw s.d H H)) O U k0 k1=s:=by
 have hc:s.cur=Ad.AY s.cur.first (Ad.Aw s.d s.cur.first s.cur.n):=h.gc.fine.1
 have q:s.Us=Ad.AY s.Us.first (Ad.Aw s.d s.Us.first s.Us.n):=h.go.fine.1
 rw [h.nc] at hc;rw [h.no] at q;obtain ⟨g,k,W,r⟩:=h.ro;have u:=h.pg;have E:=h.live;have Y:=h.rc
 rcases h.fst with ⟨F,J⟩ | ⟨F,J,h3⟩
 ·rw [F] at hc;rw [J] at q;rw [<-hc, <-q];refine ⟨s.age,g,s.kept,k,Y,W, ?_⟩;unfold PO;rw [if_neg (by
   rcases r with r | rfl
   ·omega
   ·simp)]
  obtain ⟨a,b,d,p,e,f,z⟩:=s;simp only at u E ⊢;subst u E;rfl
 ·rw [F] at hc;rw [J] at q;rw [<-hc, <-q];refine ⟨g,s.age,k,s.kept,W,Y, ?_⟩;unfold PO;rw [if_pos (by
   rcases r with r | rfl
   ·omega
   ·simpa using h3)]
  obtain ⟨a,b,d,p,e,f,z⟩:=s;simp only at u E ⊢;subst u E;rfl
theorem SG.newest {K H:Nat}{s:AZ}(h:SG K H s) (J:K<65536):Ad.newest (Ad.Aw s.d 0 H) ≠ BitVec.allOnes 64/\Ad.newest (Ad.Aw s.d H H) ≠ BitVec.allOnes 64:=by
 have hc:=h.gc.newest;have q:=h.go.newest;have kc:=h.gc.JK;have ko:=h.go.JK;simp only at hc q kc ko;rw [h.nc] at hc;rw [h.no] at q;have r:∀ x:BitVec 64,x.toNat<=K->x ≠ BitVec.allOnes 64:=fun x F e=>by
  rw [e] at F;simp at F;omega
 rcases h.fst with ⟨u,E⟩ | ⟨u,E, -⟩
 ·rw [u] at hc;rw [E] at q;exact ⟨by rw [hc];exact r _ kc,by rw [q];exact r _ ko⟩
 ·rw [u] at hc;rw [E] at q;exact ⟨by rw [q];exact r _ ko,by rw [hc];exact r _ kc⟩
def YJ (n:Nat):AZ:=⟨Ad.raw 0 (n / 2) 0,Ad.raw (n / 2) (n / 2) 0,Af.new n,n / 2,0,⟨0,0,[]⟩,false⟩
theorem dL {n:Nat}(q:8<=n) (r:n<=401):SG 0 (n / 2) (YJ n):=
 ⟨rfl,Ad.VF om om om,Ad.VF om om om,rfl,om,om,by simp [YJ,Af.new],rfl,rfl, .inl ⟨rfl,rfl⟩,rfl,⟨0,⟨0,0,[]⟩,rfl, .inr rfl⟩,by simp [YJ]⟩
def AP (ls:List Ar):Nat:=(ls.map fun x=>x.b.length).sum
theorem DV (a b:List Ar):AP (a++b)=AP a+AP b:=by simp [AP]
theorem Ej (ls:List Ar):(encs ls).length=12*ls.length+AP ls:=by
 induction ls with
 | nil=>rfl
 | cons x r q =>
  have e:encs (x :: r)=x.enc++encs r:=by simp [encs]
  rw [e,List.length_append,q,Jj];simp only [AP,List.map_cons,List.sum_cons,List.length_cons];omega
structure KOk (k:AX):Prop where
 n:k.lines.length<=256
 b:∀ x ∈ k.lines,x.b.length<=4096
theorem Ze {ls:List Ar}(h:∀ x ∈ ls,x.b.length<=4096):AP ls<=4096*ls.length:=by
 induction ls with
 | nil=>simp [AP]
 | cons x r q =>
  have E:=h x (by simp);have F:=q (fun y u=>h y (List.mem_cons_of_mem _ u));simp only [AP,List.map_cons,List.sum_cons,List.length_cons] at *;omega
theorem KOk.short {k:AX}(h:KOk k):Short k.lines:=fun x q=>by have:=h.b x q;omega
structure bW where
 k:Nat
 e:BitVec 64
 ls:List Ar
def AZ.act (a:bW) (s:AZ):AZ × Int:=
 if a.k % 5=0 then s.promise a.e else if a.k % 5=1 then s.FO a.e a.ls else if a.k % 5=4 then (s,0) else s.append a.ls
def AX.CQ (k:AX) (e:BitVec 64):AX × Int:=if k.EK e then ({ k with promised:=e },0) else (k,1)
def AX.Ee (k:AX) (e:BitVec 64) (ls:List Ar):AX × Int:=if k.Gg e ls then (⟨e,e,ls⟩,0) else (k,1)
def AX.Cm (k:AX) (ls:List Ar):AX × Int:=if k.Eu ls then ({ k with lines:=k.lines++ls },0) else (k,1)
def AX.next (a:bW) (k:AX):AX × Int:=
 if a.k % 5=0 then k.CQ a.e else if a.k % 5=1 then k.Ee a.e a.ls else if a.k % 5=4 then (k,0) else k.Cm a.ls
def bH (ls:List Ar):Nat:=64+(16*ls.length+AP ls)
def AX.fits (k:AX) (n:Nat):Bool:=decide (bH k.lines<=480*(n / 2 - 1))
theorem Wi {top:BitVec 64}{ls:List Ar}(h:ls.any (badL top)=false):∀ x ∈ ls,x.b.length<=4096:=by
 intro x q;have:=List.any_eq_false.1 h x q;unfold badL at this;simp only [Bool.or_eq_true,decide_eq_true_eq,not_or] at this;omega
theorem QX {k:AX}{e:BitVec 64}{ls:List Ar}(h:k.Gg e ls=true):ls.length<=256/\∀ x ∈ ls,x.b.length<=4096:=by
 unfold AX.Gg at h;simp only [Bool.and_eq_true,decide_eq_true_eq,Bool.not_eq_true'] at h;exact ⟨h.1.2,Wi h.2⟩
theorem Ig {k:AX}{ls:List Ar}(h:k.Eu ls=true):ls.length+k.lines.length<=256/\∀ x ∈ ls,x.b.length<=4096:=by
 unfold AX.Eu at h;simp only [Bool.and_eq_true,decide_eq_true_eq,Bool.not_eq_true'] at h;exact ⟨h.1.1.2,Wi h.1.2⟩
theorem KOk.next {k:AX}(h:KOk k) (a:bW):KOk (k.next a).1:=by
 unfold AX.next AX.CQ AX.Ee AX.Cm;split
 ·split
  ·exact ⟨h.n,h.b⟩
  ·exact h
 ·split
  ·split
   ·rename_i hok;have:=QX hok;exact ⟨this.1,this.2⟩
   ·exact h
  ·split
   ·exact h
   ·split
    ·rename_i hok;have:=Ig hok;refine ⟨?_,fun x q => ?_⟩
     ·show (k.lines++a.ls).length<=256;rw [List.length_append];omega
     ·change x ∈ k.lines++a.ls at q
      rcases List.mem_append.1 q with q | q
      ·exact h.b x q
      ·exact this.2 x q
    ·exact h
theorem Vp (age p c:BitVec 64) (ls:List Ar):(IY age p c ls).length=33+(12*ls.length+AP ls):=by
 unfold IY GR;simp only [List.length_cons,List.length_append,Az,Ej];omega
theorem Zi {age p c:BitVec 64}{ls:List Ar}{H n:Nat}(q:n / 2=H) (h:480*(H - 1)<(IY age p c ls).length) {k:AX}(r:k.lines=ls):k.fits n=false:=by
 rw [Vp] at h;unfold AX.fits bH;rw [r,q];apply decide_eq_false;omega
theorem AZ.Zk {K H:Nat}{s:AZ}(h:SG K H s) (hK:K+600<65536) (hk:KOk s.kept) (a:bW) :
  ((s.kept.next a).2=1/\(s.kept.next a).1=s.kept/\s.act a=(s,1)) \/
  ((s.kept.next a).2=0/\∃ q,s.act a=(q,0)/\SG (K+3) H q/\q.kept=(s.kept.next a).1/\q.d.pages.length=s.d.pages.length/\(s.d.left<0->q.d.left<0)) \/
  ((s.kept.next a).2=0/\s.act a=(s,4)/\∀ n,n / 2=H->(s.kept.next a).1.fits n=false) \/
  ((s.kept.next a).2=0/\a.k % 5 ≠ 4/\0<=s.d.left/\∃ q,s.act a=(q,9)/\q.dead=true/\q.d.dead=true/\q.kept=s.kept/\q.pages=H/\q.d.row.length<=4096 /\
   ∀ Bz,∃ t,SG (K+600) H t/\t.d=q.d.BJ Bz/\t.d.left = -1/\t.d.pages.length=s.d.pages.length/\(t.kept=s.kept \/ t.kept=(s.kept.next a).1)):=by
 have u:=hk.next a;have O:=h.live;have U:=h.dd;have W:∀ F r,Fh s.kept F=some r->1<=F.length->a.k % 5 ≠ 4->Short r.lines->r.lines.length<=256 ->
  ((r,(0:Int)).2=1/\(r,(0:Int)).1=s.kept/\s.write F r=(s,1)) \/
  ((r,(0:Int)).2=0/\∃ q,s.write F r=(q,0)/\SG (K+3) H q/\q.kept=(r,(0:Int)).1/\q.d.pages.length=s.d.pages.length/\(s.d.left<0->q.d.left<0)) \/
  ((r,(0:Int)).2=0/\s.write F r=(s,4)/\∀ n,n / 2=H->(r,(0:Int)).1.fits n=false) \/
  ((r,(0:Int)).2=0/\a.k % 5 ≠ 4/\0<=s.d.left/\∃ q,s.write F r=(q,9)/\q.dead=true/\q.d.dead=true/\q.kept=s.kept/\q.pages=H/\q.d.row.length<=4096 /\
   ∀ Bz,∃ t,SG (K+600) H t/\t.d=q.d.BJ Bz/\t.d.left = -1/\t.d.pages.length=s.d.pages.length/\(t.kept=s.kept \/ t.kept=(r,(0:Int)).1)):=by
  intro F r hr E h4 hs hn
  rcases AZ.Ul h hK F r hr E hs hn with J | ⟨J,Y⟩ | ⟨J,Y⟩
  ·exact .inr (.inl ⟨rfl,J⟩)
  ·exact .inr (.inr (.inl ⟨rfl,J,fun n hn=>Zi hn Y rfl⟩))
  ·exact .inr (.inr (.inr ⟨rfl,h4,J,Y⟩))
 by_cases h0:a.k % 5=0
 ·by_cases hp:s.kept.EK a.e=true
  ·have e1:s.kept.next a=({ s.kept with promised:=a.e },0):=by simp [AX.next,AX.CQ,h0,hp]
   have e2:s.act a=s.write (2 :: be 8 a.e) { s.kept with promised:=a.e }:=by simp [AZ.act,AZ.promise,O,U,h0,hp]
   rw [e1] at u ⊢;rw [e2];exact W _ _ (Py s.kept a.e) (by simp) om u.short u.n
  ·have e1:s.kept.next a=(s.kept,1):=by simp [AX.next,AX.CQ,h0,hp]
   have e2:s.act a=(s,1):=by simp [AZ.act,AZ.promise,O,U,h0,hp]
   rw [e1,e2];exact .inl ⟨rfl,rfl,rfl⟩
 ·by_cases E:a.k % 5=1
  ·by_cases hp:s.kept.Gg a.e a.ls=true
   ·have e1:s.kept.next a=(⟨a.e,a.e,a.ls⟩,0):=by simp [AX.next,AX.Ee,E,hp]
    have e2:s.act a=s.write (3 :: (be 8 a.e++GR a.ls)) ⟨a.e,a.e,a.ls⟩:=by simp [AZ.act,AZ.FO,O,U,E,hp]
    rw [e1] at u ⊢;rw [e2];exact W _ _ (Tc s.kept a.e a.ls u.short u.n) (by simp) om u.short u.n
   ·have e1:s.kept.next a=(s.kept,1):=by simp [AX.next,AX.Ee,E,hp]
    have e2:s.act a=(s,1):=by simp [AZ.act,AZ.FO,O,U,E,hp]
    rw [e1,e2];exact .inl ⟨rfl,rfl,rfl⟩
  ·by_cases h4:a.k % 5=4
   ·have e1:s.kept.next a=(s.kept,0):=by simp [AX.next,h4]
    have e2:s.act a=(s,0):=by simp [AZ.act,h4]
    rw [e1,e2];exact .inr (.inl ⟨rfl,s,rfl,h.mono om,rfl,rfl,fun h=>h⟩)
   ·by_cases hp:s.kept.Eu a.ls=true
    ·have e1:s.kept.next a=({ s.kept with lines:=s.kept.lines++a.ls },0):=by simp [AX.next,AX.Cm,h0,E,h4,hp]
     have e2:s.act a=s.write (4 :: GR a.ls) { s.kept with lines:=s.kept.lines++a.ls }:=by simp [AZ.act,AZ.append,O,U,h0,E,h4,hp]
     have hn:=u;rw [e1] at u ⊢;rw [e2];have a2:Short a.ls:=fun x J=>u.short x (List.mem_append_right _ J);have a3:a.ls.length<=256:=by have:=(Ig hp).1;omega
     exact W _ _ (QI s.kept a.ls a2 a3) (by simp) h4 u.short u.n
    ·have e1:s.kept.next a=(s.kept,1):=by simp [AX.next,AX.Cm,h0,E,h4,hp]
     have e2:s.act a=(s,1):=by simp [AZ.act,AZ.append,O,U,h0,E,h4,hp]
     rw [e1,e2];exact .inl ⟨rfl,rfl,rfl⟩

end Go.Proofs.YtffkdillijmamaaGreat
