/- Plain laws: what a log's act leaves, whether the power stays or goes in its midst. No program in sight. -/
import Derived.Deep.AppendSrc
import Derived.Test.YtffkdillijmamaaGreatGk1
import Derived.Test.YtffkdillijmamaaGreatGk2
import Derived.Test.YtffkdillijmamaaGreatGk4
namespace Go.Proofs.YtffkdillijmamaaGreat
open Go.Proofs.Tryz
set_option maxRecDepth 100000
set_option maxHeartbeats 3200000
open Go Go.RowKit
namespace Ad
def Oth (f n:Nat) (d d':Af):Prop:=d'.pages.length=d.pages.length/\∀ j,(j<f \/ f+n<=j)->d'.seen j=d.seen j
theorem Oth.refl (f n:Nat) (d:Af):Oth f n d d:=⟨rfl,fun _ _=>rfl⟩
theorem Oth.trans {f n:Nat} {d d1 d2:Af} (h:Oth f n d d1) (g:Oth f n d1 d2):Oth f n d d2:=⟨g.1.trans h.1,fun j hj=>(g.2 j hj).trans (h.2 j hj)⟩
structure Good (K:Nat) (s:Ad × Af):Prop where
 dd:s.2.dead=false
 row:s.2.row=[]
 fine:Fine s
 pg:∀ j,j<s.1.n->DZ K (s.2.seen (s.1.first+j))
theorem Good.ld {K:Nat} {s:Ad × Af} (h:Good K s):s.1.dead=false:=by rw [h.fine.1];rfl
theorem Good.ends {K:Nat} {s:Ad × Af} (h:Good K s):1<=s.1.end'/\s.1.end'<=s.1.n:=by
 have:=fQ s.1.first (Aw s.2 s.1.first s.1.n) (by rw [Bq];have:=h.fine.2.2.1;omega)
 rw [Bq, <-h.fine.1] at this;exact this
theorem iG {p:List UInt8} (h:p.length=512):(num (p.take 8)).toNat=Dw (p.take 8)/\(num (p.drop 504)).toNat=Dw (p.drop 504):=⟨EL (by simp;omega),EL (by simp;omega)⟩
theorem Good.newest {K:Nat} {s:Ad × Af} (h:Good K s):newest (Aw s.2 s.1.first s.1.n)=s.1.stamp:=by
 have:=congrArg Ad.stamp h.fine.1;exact this.symm
theorem mem_seen {d:Af} {f n j:Nat} (hj:j<n):d.seen (f+j) ∈ Aw d f n:=List.mem_of_getElem? (Cc d f n j hj)
theorem Va {d:Af} {f n:Nat} {p:List UInt8} (h:p ∈ Aw d f n):∃ j,j<n/\p=d.seen (f+j):=by
 unfold Aw at h;simp only [List.mem_map,List.mem_range] at h;obtain ⟨j,hj,rfl⟩:=h;exact ⟨j,hj,rfl⟩
theorem Vh {K f n:Nat} {d:Af} (h:∀ j,j<n->DZ K (d.seen (f+j))):(Ad.newest (Aw d f n)).toNat<=K:=by
 rw [Aen];intro p hp;obtain ⟨j,hj,rfl⟩:=Va hp;obtain ⟨h1,h2,h3, -⟩:=h j hj;obtain ⟨e1,e2⟩:=iG h1;rw [e1,e2];exact ⟨h2,h3⟩
theorem Good.JK {K:Nat} {s:Ad × Af} (h:Good K s):s.1.stamp.toNat<=K:=by rw [<-h.newest];exact Vh h.pg
theorem Good.page {K:Nat} {s:Ad × Af} (h:Good K s) {j:Nat} (hj:j<s.1.n):DZ s.1.stamp.toNat (s.2.seen (s.1.first+j)):=by
 obtain ⟨h1,h2,h3,h4⟩:=h.pg j hj;have hn:=Fe (mem_seen (d:=s.2) (f:=s.1.first) hj)
 obtain ⟨e1,e2⟩:=iG h1;rw [e1,e2,h.newest] at hn;exact ⟨h1,hn.1,hn.2,h4⟩
theorem Good.next {K:Nat} {s:Ad × Af} (h:Good K s) (hK:K<65536):(s.1.stamp+1#64).toNat=s.1.stamp.toNat+1:=by
 have:=h.JK;rw [BitVec.toNat_add];simp;omega
theorem UT {d:Af} (hd:d.dead=false) (hw:d.wf) (hrow:d.row=[]) (l:Ad) (of':Nat) (b:List UInt8) (k:Nat) (hf:l.first+l.end'+k<=d.pages.length) :
  (∃ d1 d',put l of' b k 0 d=(d1,0)/\d1.sync=(d',0)/\d'.dead=false/\d'.row=[]/\d'.wf/\d'.pages.length=d.pages.length/\(d.left<0->d'.left=d.left) /\
   ∀ j,d'.seen j=if l.first+l.end'<=j/\j<l.first+l.end'+k then AA.page ⟨l.stamp,j - (l.first+l.end'),of',part b (j - (l.first+l.end'))⟩ else d.seen j) \/
  (0<=d.left/\∃ d',(put l of' b k 0 d=(d',9) \/ ∃ d1,put l of' b k 0 d=(d1,0)/\d1.sync=(d',9))/\d'.dead=true/\∃ m,m<=k/\d'.pages=d.pages /\
   d'.row=(List.range m).map fun t=>(l.first+l.end'+t,AA.page ⟨l.stamp,t,of',part b t⟩)):=by
 obtain ⟨m,d1,q1,q2,q3,q4,q5,q6,q7⟩:=put_any l l.stamp rfl of' b k 0 d hd hf;rw [hrow,List.nil_append] at q4;simp only [Nat.add_zero,Nat.zero_add] at q4
 by_cases hm:m=k
 ·subst hm;rw [if_pos rfl] at q2;have hd1:d1.dead=false:=by rw [q5];simp
  have hp1:0<d1.pages.length:=by rw [q3];have:=hw.1;omega
  have hs:=Af.dD hd1 hp1;obtain ⟨t1,t2,t3⟩:=Af.ND d1
  by_cases h0:d1.left=0
  ·rw [if_pos h0] at hs
   right
   refine ⟨?_,_, .inr ⟨d1,q2,hs⟩,rfl,m,Nat.le_refl _,q3,q4⟩
   by_cases hn:d.left<0
   ·have:=(q6 hn).2;omega
   ·omega
  ·rw [if_neg h0] at hs
   left
   have hx:∀ x ∈ d1.row,x.1<d1.pages.length/\x.2.length=512:=by
    rw [q4,q3];intro x hx;simp only [List.mem_map,List.mem_range] at hx;obtain ⟨t,ht,rfl⟩:=hx;exact ⟨by show l.first+l.end'+t<_;omega,AA.ES (CX _ _)⟩
   have hq:∀ p ∈ d1.pages,p.length=512:=by rw [q3];exact hw.2.2.1
   have hpw:=Af.Jq (fun _=>512) (by simp) d1.pages hq d1.row hx;have hlen:(d1.tick.done fun _=>512).pages.length=d.pages.length:=by
    show (Af.Dk _ d1.tick.pages d1.tick.row).length=_;rw [t1,t2,hpw.1,q3]
   have hleft : -1<=d1.tick.left/\d1.tick.left<=9223372036854775807/\(d.left<0->d1.tick.left=d.left):=by
    have h5:=hw.2.2.2.2;obtain ⟨u1,u2⟩:=Af.Rl d1
    by_cases hn:d.left<0
    ·have:=(q6 hn).2;have:=u1 (by omega);refine ⟨by omega,by omega,fun _=>by omega⟩
    ·have:=q7 (by omega);have:=u2 (by omega);refine ⟨by omega,by omega,fun h=>by omega⟩
   refine ⟨d1,_,q2,hs,t3.trans hd1,rfl, ?_,hlen,hleft.2.2,fun j => ?_⟩
   ·refine ⟨by rw [hlen];exact hw.1,by rw [hlen];exact hw.2.1, ?_,(by intro x hx;cases hx),hleft.1,hleft.2.1⟩;show ∀ p ∈ Af.Dk _ d1.tick.pages d1.tick.row,_;rw [t1,t2];exact hpw.2
   ·show (Af.Dk (fun _=>512) d1.tick.pages d1.tick.row).getD j []=_;rw [t1,t2,q3,q4,Af.Lh _ _ _ _ _ (by omega)];have hsj:d.seen j=d.pages.getD j []:=by unfold Af.seen;rw [hrow];rfl
    rw [hsj];split
    ·rename_i hj;unfold Af.CG;rw [List.take_of_length_le (by rw [AA.ES (CX _ _)];omega),List.drop_eq_nil_of_le (by rw [Af.OX hw.2.2.1 (by omega)];omega),List.append_nil]
    ·rfl
 ·rw [if_neg hm] at q2
  right
  refine ⟨?_,d1, .inl q2, ?_,m,q1,q3,q4⟩
  ·by_cases hn:d.left<0
   ·exact (hm (q6 hn).1).elim
   ·omega
  ·rw [q5];simp;omega
theorem Ur {d d':Af} (hw:d.wf) (hrow:d.row=[]) (hp:d'.pages=d.pages) (base m:Nat) (g:Nat->List UInt8) (hg:∀ t,(g t).length=512) (hr:d'.row=(List.range m).map fun t=>(base+t,g t)) (hm:base+m<=d.pages.length) (Bz:List Int) :
  (d'.BJ Bz).dead=false/\(d'.BJ Bz).row=[]/\(d'.BJ Bz).wf/\(d'.BJ Bz).left = -1/\(d'.BJ Bz).pages.length=d.pages.length /\
   ∀ j,(d'.BJ Bz).seen j=if base<=j/\j<base+m then Af.CG (Af.Xm Bz (j - base)) (g (j - base)) (d.seen j) else d.seen j:=by
 have hx:∀ x ∈ d'.row,x.1<d'.pages.length/\x.2.length=512:=by
  rw [hr,hp];intro x hx;simp only [List.mem_map,List.mem_range] at hx;obtain ⟨t,ht,rfl⟩:=hx;exact ⟨by show base+t<_;omega,hg _⟩
 have hpw:=Af.Jq (Af.Xm Bz) (Af.eG Bz) d'.pages (by rw [hp];exact hw.2.2.1) d'.row hx;have hlen:(d'.BJ Bz).pages.length=d.pages.length:=by
  show (Af.Dk _ d'.pages d'.row).length=_;rw [hpw.1,hp]
 refine ⟨rfl,rfl,⟨by rw [hlen];exact hw.1,by rw [hlen];exact hw.2.1,hpw.2,(by intro x hx;cases hx),by show (-1:Int) <= -1;omega,by show (-1:Int)<=_;omega⟩,rfl,hlen,fun j => ?_⟩;show (Af.Dk _ d'.pages d'.row).getD j []=_;rw [hp,hr,Af.Lh _ _ _ _ _ hm];have hsj:d.seen j=d.pages.getD j []:=by unfold Af.seen;rw [hrow];rfl
 rw [hsj]
structure Back (K f n:Nat) (d d2:Af) (R R':List (List UInt8)):Prop where
 good:Good K (AY f (Aw d2 f n),d2)
 left:d2.left = -1
 Us:Oth f n d d2
 recs:(AY f (Aw d2 f n)).records=R \/ (AY f (Aw d2 f n)).records=R'
theorem JM (f n:Nat) (d:Af):(AY f (Aw d f n)).n=n:=Bq d f n
theorem RN {K f n:Nat} {d2:Af} (h1:d2.dead=false) (h2:d2.row=[]) (h3:d2.wf) (h4:f+n<=d2.pages.length) (h5:2<=n) (h6:∀ j,j<n->DZ K (d2.seen (f+j))):Good K (AY f (Aw d2 f n),d2):=by
 refine ⟨h1,h2,⟨?_, ?_, ?_,h3⟩, ?_⟩
 ·show AY f (Aw d2 f n)=AY f (Aw d2 f (AY f (Aw d2 f n)).n);rw [JM]
 ·show f+(AY f (Aw d2 f n)).n<=_;rw [JM];exact h4
 ·show 2<=(AY f (Aw d2 f n)).n;rw [JM];exact h5
 ·show ∀ j,j<(AY f (Aw d2 f n)).n->_;rw [JM];exact h6
theorem Tm {f:Nat} {pages Aat:List (List UInt8)} {S:BitVec 64} {b:List UInt8} (hh:(AY f pages).Dx=true) (hS:(Ad.newest pages).toNat<S.toNat) (hk:many b<65536)
  (hout:∀ j,(j<(AY f pages).end' \/ (AY f pages).end'+many b<=j)->Aat[j]?=pages[j]?)
  (hin:∀ i,i<many b->∃ p',Aat[(AY f pages).end'+i]?=some p'/\(pages[(AY f pages).end'+i]?=some p' \/ p'=AA.page ⟨S,i,many b,part b i⟩ \/ (CE p').2=false)) :
  (AY f Aat).records=(AY f pages).records \/ (AY f Aat).records=(AY f pages).records++[b]:=by
 have hh':Di (Ah pages)=true:=hh;have hee:(AY f pages).end'=(readAll (Ah pages)).1:=by show (if Di (Ah pages) then _ else _)=_;rw [if_pos hh']
 have hrr:(AY f pages).records=(readAll (Ah pages)).2.2:=by show (if Di (Ah pages) then _ else _)=_;rw [if_pos hh']
 rw [hee] at hout hin;obtain ⟨a,c⟩:=Oj hh' hS hk hout hin;have hr':(AY f Aat).records=(readAll (Ah Aat)).2.2:=by show (if Di (Ah Aat) then _ else _)=_;rw [if_pos a]
 rw [hrr,hr']
 rcases c with ⟨c, -⟩ | ⟨-,c⟩
 ·left;rw [c]
 ·right;rw [c]
theorem MK {f:Nat} {pages Aat:List (List UInt8)} {S:BitVec 64} (hS:(Ad.newest pages).toNat<S.toNat) (hout:∀ j,1<=j->Aat[j]?=pages[j]?)
  (hin:Aat[0]?=pages[0]? \/ Aat[0]?=some (AA.page ⟨S,0,0,[]⟩) \/ ∃ p,Aat[0]?=some p/\(CE p).2=false) :
  (AY f Aat).records=(AY f pages).records \/ (AY f Aat).records=[]:=by
 obtain ⟨a,c⟩:=MB hS hout hin
 by_cases h:Aat[0]?=some (AA.page ⟨S,0,0,[]⟩)
 ·right
  obtain ⟨a1,a2⟩:=a h;show (if Di (Ah Aat) then (readAll (Ah Aat)).2.2 else [])=[]
  rw [if_pos a1,a2]
 ·rcases c h with c | c
  ·left
   show (if Di (Ah Aat) then (readAll (Ah Aat)).2.2 else [])=(if Di (Ah pages) then (readAll (Ah pages)).2.2 else [])
   rw [c]
  ·right
   show (if Di (Ah Aat) then (readAll (Ah Aat)).2.2 else [])=[]
   rw [c];rfl
theorem MG (i:Nat):part [] i=[]:=by simp [part]
theorem seen_none {d:Af} {f n j:Nat} (hj:n<=j):(Aw d f n)[j]?=none:=List.getElem?_eq_none (by rw [Bq];exact hj)
def Ht (l:Ad):Ad:={ l with stamp:=l.stamp+1#64,Dx:=true,records:=[],end':=1 }
theorem Qa {K:Nat} {s:Ad × Af} (h:Good K s) (hK:K+1<65536) :
  (∃ d',head s=(({ s.1 with stamp:=s.1.stamp+1#64 },d'),0)/\Good (K+1) (Ht s.1,d')/\Oth s.1.first s.1.n s.2 d'/\(s.2.left<0->d'.left=s.2.left)) \/
  (0<=s.2.left/\∃ d',head s=(({ s.1 with stamp:=s.1.stamp+1#64 },d'),9)/\d'.dead=true/\d'.row.length<=4096/\∀ Bz,Back (K+256) s.1.first s.1.n s.2 (d'.BJ Bz) s.1.records []):=by
 have hfit:=h.fine.2.1;have hn2:=h.fine.2.2.1;have hw:=h.fine.2.2.2;have hst:=h.JK;have hnx:=h.next (by omega);obtain ⟨S,hS⟩:∃ S,s.1.stamp+1#64=S:=⟨_,rfl⟩;have hput:∀ d,put { s.1 with stamp:=S,end':=0 } 0 [] 1 0 d=(let r:=d.write s.1.first (AA.page ⟨S,0,0,[]⟩);if r.2 ≠ 0 then r else (r.1,0)):=fun d=>by
  show (let r:=d.write ((s.1.first+0+0:Nat):Int) (AA.page ⟨S,0,0,part [] 0⟩);if r.2 ≠ 0 then r else put _ _ _ 0 _ r.1)=_
  rw [MG];rfl
 have hnew:(Ad.newest (Aw s.2 s.1.first s.1.n)).toNat<S.toNat:=by rw [h.newest, <-hS,hnx];omega
 have hhead:head s=(let r:=s.2.write (s.1.first:Int) (AA.page ⟨S,0,0,[]⟩);if r.2 ≠ 0 then (({ s.1 with stamp:=S },r.1),r.2) else (({ s.1 with stamp:=S },r.1.sync.1),r.1.sync.2)):=by
  unfold head;rw [hS]
 rcases UT h.dd hw h.row { s.1 with stamp:=S,end':=0 } 0 [] 1 (by show s.1.first+0+1<=_;omega) with ⟨d1,d',q1,q2,q3,q4,q5,q6,q7,q8⟩ | ⟨q0,d',q1,q2,m,q3,q4,q5⟩
 ·left
  change ∀ j,d'.seen j=if s.1.first+0<=j/\j<s.1.first+0+1 then AA.page ⟨S,_,0,part [] _⟩ else _ at q8
  have Aja:Aw d' s.1.first s.1.n=Eh (Aw s.2 s.1.first s.1.n) S:=by
   refine Gx (by rw [IP,Bq]) fun j hj => ?_;rw [q8,Eh]
   by_cases h0:j=0
   ·subst h0;rw [List.getElem?_set_self (by rw [Bq];omega),if_pos (by omega),MG];simp
   ·rw [List.getElem?_set_ne (by omega),if_neg (by omega),Cc _ _ _ _ hj]
  have AlJ:=Tn (f:=s.1.first) (S:=S) hnew (by rw [Bq];omega)
  rw [Bq, <-Aja] at AlJ;refine ⟨d', ?_,⟨q3,q4,⟨?_,by show s.1.first+s.1.n<=d'.pages.length;omega,hn2,q5⟩, ?_⟩,⟨q6,fun j hj => ?_⟩,q7⟩
  ·rw [hput] at q1;rw [hhead,hS]
   revert q1
   generalize s.2.write (s.1.first:Int) (AA.page ⟨S,0,0,[]⟩)=r
   intro q1
   by_cases hr:r.2=0
   ·simp only [hr,ne_eq,not_true_eq_false,if_false,Prod.mk.injEq,and_true] at q1;simp only [hr,ne_eq,not_true_eq_false,if_false,q1,q2]
   ·simp only [ne_eq,hr,not_false_eq_true,if_true] at q1;rw [q1] at hr;exact (hr rfl).elim
  ·show Ht s.1=AY s.1.first (Aw d' s.1.first s.1.n)
   rw [AlJ,Ht,hS,h.ld]
  ·intro j hj
   change j<s.1.n at hj
   show DZ _ (d'.seen (s.1.first+j))
   rw [q8];split
   ·exact JW (by rw [MG];simp) (by show S.toNat<=_;rw [<-hS,hnx];omega)
   ·exact (h.pg j hj).mono (by omega)
  ·rw [q8,if_neg (by omega)]
 ·right
  have hrl:d'.row.length<=4096:=by rw [q5];simp only [List.length_map,List.length_range];have:=hw.2.1;omega
  refine ⟨q0,d', ?_,q2,hrl,fun Bz => ?_⟩
  ·rw [hhead,hS];simp only [hput] at q1
   revert q1
   generalize s.2.write (s.1.first:Int) (AA.page ⟨S,0,0,[]⟩)=r
   intro q1
   by_cases hr:r.2=0
   ·simp only [hr,ne_eq,not_true_eq_false,if_false,Prod.mk.injEq,and_true] at q1
    rcases q1 with ⟨-,q1⟩ | ⟨d1,q1,q1'⟩
    ·cases q1
    ·simp only [hr,ne_eq,not_true_eq_false,if_false,q1,q1']
   ·simp only [ne_eq,hr,not_false_eq_true,if_true] at q1
    rcases q1 with q1 | ⟨d1,q1, -⟩
    ·rw [q1];simp
    ·rw [q1] at hr;exact (hr rfl).elim
  ·obtain ⟨t1,t2,t3,t4,t5,t6⟩:=Ur hw h.row q4 (s.1.first+0) m _ (fun t=>AA.ES (CX _ _)) q5 (by omega) Bz
   simp only [MG] at t6;have Afk:∀ j,j<s.1.n->((d'.BJ Bz).seen (s.1.first+j)=s.2.seen (s.1.first+j) \/ j=0/\((d'.BJ Bz).seen s.1.first=AA.page ⟨S,0,0,[]⟩ \/ (CE ((d'.BJ Bz).seen s.1.first)).2=false))/\DZ (K+256) ((d'.BJ Bz).seen (s.1.first+j)):=by
    intro j hj;rw [t6 (s.1.first+j)]
    split
    ·rename_i hc;obtain rfl:j=0:=by omega
     have hm0:0<m:=by omega
     have ht:=Rj (K:=s.1.stamp.toNat) ⟨S,0,0,[]⟩ (by simp) (by show _<S.toNat;rw [<-hS,hnx];omega) (by show S.toNat<_;rw [<-hS,hnx];omega) (h.page hj) (Af.Xm Bz 0);have e0:=t6 s.1.first
     rw [if_pos (by omega)] at e0;simp only [Nat.add_zero,Nat.sub_self] at e0 ht ⊢;rw [e0];obtain ⟨ht1,ht2⟩:=ht;refine ⟨?_,ht2.mono (by show S.toNat+255<=_;rw [<-hS,hnx];omega)⟩
     rcases ht1 with ht1 | ht1 | ht1
     ·exact .inl ht1
     ·exact .inr ⟨trivial, .inl ht1⟩
     ·exact .inr ⟨trivial, .inr ht1⟩
    ·exact ⟨.inl rfl,(h.pg j hj).mono (by omega)⟩
   refine ⟨RN t1 t2 t3 (by omega) hn2 (fun j hj=>(Afk j hj).2),t4,⟨t5,fun j hj=>by rw [t6,if_neg (by omega)]⟩, ?_⟩;have hrec:=MK (f:=s.1.first) (pages:=Aw s.2 s.1.first s.1.n) (Aat:=Aw (d'.BJ Bz) s.1.first s.1.n) (S:=S) hnew
    (fun j hj=>by
     by_cases hjn:j<s.1.n
     ·rw [Cc _ _ _ _ hjn,Cc _ _ _ _ hjn,t6,if_neg (by omega)]
     ·rw [seen_none (by omega),seen_none (by omega)])
    (by
     rw [Cc _ _ _ _ (by omega),Cc _ _ _ _ (by omega)]
     rcases (Afk 0 (by omega)).1 with hx | ⟨-,hx | hx⟩
     ·exact .inl (by rw [hx])
     ·exact .inr (.inl (by rw [Nat.add_zero,hx]))
     ·exact .inr (.inr ⟨_,by rw [Nat.add_zero],hx⟩))
   rw [<-h.fine.1] at hrec;exact hrec
def JQ (l:Ad) (b:List UInt8):Ad:={ l with stamp:=l.stamp+1#64,records:=l.records++[b],end':=l.end'+many b }
theorem Ut {K:Nat} {s:Ad × Af} (h:Good K s) (hh:s.1.Dx=true) (hK:K+1<65536) (b:List UInt8) (hm:many b<=s.1.n - s.1.end') :
  (∃ d',step3 b s=(({ s.1 with stamp:=s.1.stamp+1#64 },d'),0)/\Good (K+1) (JQ s.1 b,d')/\Oth s.1.first s.1.n s.2 d'/\(s.2.left<0->d'.left=s.2.left)) \/
  (0<=s.2.left/\∃ d',step3 b s=(({ s.1 with stamp:=s.1.stamp+1#64 },d'),9)/\d'.dead=true/\d'.row.length<=4096/\∀ Bz,Back (K+256) s.1.first s.1.n s.2 (d'.BJ Bz) s.1.records (s.1.records++[b])):=by
 have hfit:=h.fine.2.1;have hn2:=h.fine.2.2.1;have hw:=h.fine.2.2.2;have hst:=h.JK;have hnx:=h.next (by omega);have hend:=h.ends;have hmp:=Ko b;have Bdq:=hw.2.1;obtain ⟨S,hS⟩:∃ S,s.1.stamp+1#64=S:=⟨_,rfl⟩;have hnew:(Ad.newest (Aw s.2 s.1.first s.1.n)).toNat<S.toNat:=by rw [h.newest, <-hS,hnx];omega
 have Auc:(AY s.1.first (Aw s.2 s.1.first s.1.n)).Dx=true:=by rw [<-h.fine.1];exact hh
 have AnM:(AY s.1.first (Aw s.2 s.1.first s.1.n)).end'=s.1.end':=by rw [<-h.fine.1]
 have Aud:(AY s.1.first (Aw s.2 s.1.first s.1.n)).records=s.1.records:=by rw [<-h.fine.1]
 rcases UT h.dd hw h.row { s.1 with stamp:=S } (many b) b (many b) (by show s.1.first+s.1.end'+many b<=_;omega) with ⟨d1,d',q1,q2,q3,q4,q5,q6,q7,q8⟩ | ⟨q0,d',q1,q2,m,q3,q4,q5⟩
 ·left
  change ∀ j,d'.seen j=if s.1.first+s.1.end'<=j/\j<s.1.first+s.1.end'+many b then AA.page ⟨S,j - (s.1.first+s.1.end'),many b,part b _⟩ else _ at q8
  have Aja:Aw d' s.1.first s.1.n=Fp (Aw s.2 s.1.first s.1.n) s.1.end' S b:=by
   refine Gx (by rw [JD,Bq]) fun j hj => ?_;rw [q8,FZ,Bq,if_pos hj]
   by_cases hc:s.1.end'<=j/\j<s.1.end'+many b
   ·rw [if_pos hc,if_pos (by omega),show s.1.first+j - (s.1.first+s.1.end')=j - s.1.end' from by omega]
   ·rw [if_neg hc,if_neg (by omega),Cc _ _ _ _ hj]
  have AlJ:=Vd (f:=s.1.first) (S:=S) (b:=b) Auc hnew (by omega) (by rw [AnM,Bq];omega)
  rw [AnM,Aud,Bq, <-Aja] at AlJ;refine ⟨d', ?_,⟨q3,q4,⟨?_,by show s.1.first+s.1.n<=d'.pages.length;omega,hn2,q5⟩, ?_⟩,⟨q6,fun j hj => ?_⟩,q7⟩
  ·unfold step3;rw [hS];simp only [q1,ne_eq,not_true_eq_false,if_false,q2]
  ·show JQ s.1 b=AY s.1.first (Aw d' s.1.first s.1.n)
   rw [AlJ,JQ,hS,h.ld,hh]
  ·intro j hj
   change j<s.1.n at hj
   show DZ _ (d'.seen (s.1.first+j))
   rw [q8];split
   ·exact JW (CX _ _) (by show S.toNat<=_;rw [<-hS,hnx];omega)
   ·exact (h.pg j hj).mono (by omega)
  ·rw [q8,if_neg (by omega)]
 ·right
  have hrl:d'.row.length<=4096:=by rw [q5];simp only [List.length_map,List.length_range];have:=hw.2.1;omega
  refine ⟨q0,d', ?_,q2,hrl,fun Bz => ?_⟩
  ·unfold step3;rw [hS]
   rcases q1 with q1 | ⟨d1,q1,q1'⟩
   ·simp only [q1];simp
   ·simp only [q1,ne_eq,not_true_eq_false,if_false,q1']
  ·obtain ⟨t1,t2,t3,t4,t5,t6⟩:=Ur hw h.row q4 (s.1.first+s.1.end') m _ (fun t=>AA.ES (CX _ _)) q5 (by omega) Bz
   have Afk:∀ j,j<s.1.n->((d'.BJ Bz).seen (s.1.first+j)=s.2.seen (s.1.first+j) \/ (s.1.end'<=j/\j<s.1.end'+many b)/\((d'.BJ Bz).seen (s.1.first+j)=AA.page ⟨S,j - s.1.end',many b,part b (j - s.1.end')⟩ \/ (CE ((d'.BJ Bz).seen (s.1.first+j))).2=false))/\DZ (K+256) ((d'.BJ Bz).seen (s.1.first+j)):=by
    intro j hj;rw [t6 (s.1.first+j)]
    split
    ·rename_i hc;rw [show s.1.first+j - (s.1.first+s.1.end')=j - s.1.end' from by omega]
     have ht:=Rj (K:=s.1.stamp.toNat) ⟨S,j - s.1.end',many b,part b (j - s.1.end')⟩ (CX _ _) (by show _<S.toNat;rw [<-hS,hnx];omega) (by show S.toNat<_;rw [<-hS,hnx];omega) (h.page hj) (Af.Xm Bz (j - s.1.end'));obtain ⟨ht1,ht2⟩:=ht;refine ⟨?_,ht2.mono (by show S.toNat+255<=_;rw [<-hS,hnx];omega)⟩
     rcases ht1 with ht1 | ht1 | ht1
     ·exact .inl ht1
     ·exact .inr ⟨by omega, .inl ht1⟩
     ·exact .inr ⟨by omega, .inr ht1⟩
    ·exact ⟨.inl rfl,(h.pg j hj).mono (by omega)⟩
   refine ⟨RN t1 t2 t3 (by omega) hn2 (fun j hj=>(Afk j hj).2),t4,⟨t5,fun j hj=>by rw [t6,if_neg (by omega)]⟩, ?_⟩;have hrec:=Tm (f:=s.1.first) (pages:=Aw s.2 s.1.first s.1.n) (Aat:=Aw (d'.BJ Bz) s.1.first s.1.n) (S:=S) (b:=b) Auc hnew (by omega)
    (fun j hj=>by
     rw [AnM] at hj
     by_cases hjn:j<s.1.n
     ·rw [Cc _ _ _ _ hjn,Cc _ _ _ _ hjn,t6,if_neg (by omega)]
     ·rw [seen_none (by omega),seen_none (by omega)])
    (fun i hi=>by
     rw [AnM,Cc _ _ _ _ (by omega),Cc _ _ _ _ (by omega)];refine ⟨_,rfl, ?_⟩
     rcases (Afk (s.1.end'+i) (by omega)).1 with hx | ⟨-,hx | hx⟩
     ·exact .inl (by rw [hx])
     ·exact .inr (.inl (by rw [hx,Nat.add_sub_cancel_left]))
     ·exact .inr (.inr hx))
   rw [Aud] at hrec;exact hrec
theorem Nk {K:Nat} {s:Ad × Af} (h:Good K s) (hK:K+2<65536) (b:List UInt8) :
  (s.1.n - s.1.end'<many b/\Ag b s=(s,4)) \/
  (many b<=s.1.n - s.1.end'/\∃ s',Ag b s=(s',0)/\Good (K+2) s'/\s'.1.records=s.1.records++[b]/\s'.1.end'=s.1.end'+many b/\s'.1.n=s.1.n/\s'.1.first=s.1.first/\Oth s.1.first s.1.n s.2 s'.2/\(s.2.left<0->s'.2.left=s.2.left)) \/
  (0<=s.2.left/\∃ s',Ag b s=(s',9)/\s'.1.dead=true/\s'.2.dead=true/\s'.2.row.length<=4096/\s'.1.n=s.1.n/\s'.1.first=s.1.first/\∀ Bz,Back (K+257) s.1.first s.1.n s.2 (s'.2.BJ Bz) s.1.records (s.1.records++[b])):=by
 by_cases hm:s.1.n - s.1.end'<many b
 ·exact .inl ⟨hm,AkD h.ld h.dd b hm⟩
 right
 have ApT:step1 b s=(s,0):=by unfold step1;rw [if_neg hm]
 have hcom:Ag b s=steps [step2,step3 b,step4 b] s:=by
  unfold Ag alive;rw [h.ld,h.dd];simp only [Bool.or_self,Bool.false_eq_true,if_false];rw [steps,ApT];simp
 rw [hcom];have h2:(∃ s2,step2 s=(s2,0)/\Good (K+1) s2/\s2.1.Dx=true/\s2.1.records=s.1.records/\s2.1.end'=s.1.end'/\s2.1.n=s.1.n/\s2.1.first=s.1.first/\Oth s.1.first s.1.n s.2 s2.2/\(s.2.left<0->s2.2.left=s.2.left)) \/
   (0<=s.2.left/\∃ s',step2 s=(s',9)/\s'.2.dead=true/\s'.2.row.length<=4096/\s'.1.n=s.1.n/\s'.1.first=s.1.first/\∀ Bz,Back (K+256) s.1.first s.1.n s.2 (s'.2.BJ Bz) s.1.records s.1.records):=by
  unfold step2
  cases hh:s.1.Dx with
  | true =>
   left
   refine ⟨s,by simp,⟨h.dd,h.row,h.fine,fun j hj=>(h.pg j hj).mono (by omega)⟩,hh,rfl,rfl,rfl,rfl,Oth.refl _ _ _,fun _=>rfl⟩
  | false =>
   have hraw:s.1.records=[]/\s.1.end'=1:=by
    have hh':Di (Ah (Aw s.2 s.1.first s.1.n))=false:=by
     have:=congrArg Ad.Dx h.fine.1;rw [hh] at this;exact this.symm
    rw [h.fine.1];refine ⟨?_, ?_⟩
    ·show (if Di _ then _ else _)=_;rw [hh'];rfl
    ·show (if Di _ then _ else _)=_;rw [hh'];rfl
   rcases Qa h (by omega) with ⟨d',q1,q2,q3,q4⟩ | ⟨q0,d',q1,q2,qr,q3⟩
   ·left
    refine ⟨(Ht s.1,d'), ?_,q2,rfl,hraw.1.symm,hraw.2.symm,rfl,rfl,q3,q4⟩;simp only [Bool.false_eq_true,if_false,q1,beq_self_eq_true];rw [Ht, <-hraw.1, <-hraw.2]
   ·right
    refine ⟨q0,({ s.1 with stamp:=s.1.stamp+1#64,Dx:=false },d'),by simp only [Bool.false_eq_true,if_false,q1];rfl,q2,qr,rfl,rfl,fun Bz => ?_⟩;have:=q3 Bz;rw [hraw.1] at this ⊢;exact this
 rcases h2 with ⟨s2,e2,g2,hh2,r2,d2,n2,f2,o2,l2⟩ | ⟨q0,s',e2,g2,qr2,n2,f2,b2⟩
 ·rw [steps,e2];simp only [ne_eq,not_true_eq_false,if_false]
  rcases Ut g2 hh2 (by omega) b (by rw [n2,d2];omega) with ⟨d',q1,q2,q3,q4⟩ | ⟨q0,d',q1,q2,qr3,q3⟩
  ·left
   refine ⟨by omega,(JQ s2.1 b,d'), ?_,q2, ?_, ?_,n2,f2, ?_,fun hl => ?_⟩
   ·rw [steps,q1];simp [steps,step4,JQ]
   ·show s2.1.records++[b]=_;rw [r2]
   ·show s2.1.end'+many b=_;rw [d2]
   ·rw [n2,f2] at q3;exact o2.trans q3
   ·exact (q4 (by rw [l2 hl];exact hl)).trans (l2 hl)
  ·right
   refine ⟨?_,({ s2.1 with stamp:=s2.1.stamp+1#64,dead:=true },d'), ?_,rfl,q2,qr3,n2,f2,fun Bz => ?_⟩
   ·by_cases hl:s.2.left<0
    ·rw [l2 hl] at q0;omega
    ·omega
   ·rw [steps,q1];simp
   ·have:=q3 Bz;rw [n2,f2,r2] at this;exact ⟨this.good,this.left,o2.trans this.Us,this.recs⟩
 ·right
  refine ⟨q0,({ s'.1 with dead:=true },s'.2), ?_,rfl,g2,qr2,n2,f2,fun Bz => ?_⟩
  ·rw [steps,e2];simp
  ·have:=b2 Bz;refine ⟨⟨this.good.dd,this.good.row,this.good.fine,fun j hj=>(this.good.pg j hj).mono (by omega)⟩,this.left,this.Us, ?_⟩
   rcases this.recs with hx | hx <;> exact .inl hx
theorem UL {K:Nat} {s:Ad × Af} (h:Good K s) (hK:K+1<65536) :
  (∃ s',reset s=(s',0)/\Good (K+1) s'/\s'.1.records=[]/\s'.1.end'=1/\s'.1.n=s.1.n/\s'.1.first=s.1.first/\Oth s.1.first s.1.n s.2 s'.2/\(s.2.left<0->s'.2.left=s.2.left)) \/
  (0<=s.2.left/\∃ s',reset s=(s',9)/\s'.1.dead=true/\s'.2.dead=true/\s'.2.row.length<=4096/\s'.1.n=s.1.n/\s'.1.first=s.1.first/\∀ Bz,Back (K+256) s.1.first s.1.n s.2 (s'.2.BJ Bz) s.1.records []):=by
 unfold reset alive;rw [h.ld,h.dd];simp only [Bool.or_self,Bool.false_eq_true,if_false]
 rcases Qa h hK with ⟨d',q1,q2,q3,q4⟩ | ⟨q0,d',q1,q2,qr,q3⟩
 ·left
  refine ⟨(Ht s.1,d'), ?_,q2,rfl,rfl,rfl,rfl,q3,q4⟩;rw [steps,q1];simp [steps,Hr,Ht]
 ·right
  refine ⟨q0,({ s.1 with stamp:=s.1.stamp+1#64,dead:=true },d'), ?_,rfl,q2,qr,rfl,rfl,q3⟩;rw [steps,q1];simp
theorem Good.Us {K f n:Nat} {s:Ad × Af} {d':Af} (h:Good K s) (ho:Oth f n s.2 d') (hd:d'.dead=false) (hr:d'.row=[]) (hw:d'.wf) (hap:s.1.first+s.1.n<=f \/ f+n<=s.1.first):Good K (s.1,d'):=by
 have hs:∀ j,j<s.1.n->d'.seen (s.1.first+j)=s.2.seen (s.1.first+j):=fun j hj=>ho.2 _ (by omega)
 refine ⟨hd,hr,⟨?_,by show _<=d'.pages.length;rw [ho.1];exact h.fine.2.1,h.fine.2.2.1,hw⟩,fun j hj => ?_⟩
 ·show s.1=AY s.1.first (Aw d' s.1.first s.1.n)
  have:Aw d' s.1.first s.1.n=Aw s.2 s.1.first s.1.n:=Gx (Bq _ _ _) fun j hj=>by rw [Cc _ _ _ _ hj,hs j hj]
  rw [this];exact h.fine.1
 ·show DZ K (d'.seen (s.1.first+j))
  rw [hs j hj];exact h.pg j hj
end Ad
attribute [local go_sem ↓] Go.wp_at_zero Go.wp_at_succ
structure Zl where
 reset:Bool
 b:UInt8
 n:Int
 bG:Int
namespace Zl
def cells (a:Zl):List Value:=[.bool a.reset, .int .u8 (a.b.toNat:Int), .int .u16 a.n, .int .u8 a.bG]
def ok (a:Zl):Prop:=(0<=a.n/\a.n<=65535)/\0<=a.bG/\a.bG<=255
def text (a:Zl):List UInt8:=iJ a.b (a.n % 3000).toNat
end Zl
def iZ (w:World) (o:Own) (v:Value) (l:List Zl):Prop:=
 ((∃ a c,v = .slice a 0 c)/\l=[]) \/ ∃ b off cap,v = .slice (some ⟨b,off,none⟩) l.length cap/\l.length<=cap/\cap<=maxLen/\(o b).1=0/\b<w.heap.size /\
  ∀ i (h:i<l.length),w.rangeAt b (off+i*4) l[i].cells/\l[i].ok
section
variable {H:Type} {enc:TypeId × Value->H} {W:World}
end
def EN (M:Nat):Nat->Prop:=fun k=>M<k
section
variable {M:Nat} {w w1:World} {o o1:Own}
theorem aj.LW (h:aj ai w o w1 o1):aj (EN M) w o w1 o1:=h.mono fun _k hk=>hk.elim
theorem aj.Hm (h:aj (EN M) w o w1 o1) (hM:∀ k,k<w.heap.size->(o k).1<=M):aj ai w o w1 o1:=
 ⟨h.os,h.tape,h.output,h.size,h.own,fun k hk _=>h.block k hk (fun hx=>by have:=hM k hk;change M<_ at hx;omega)⟩
end
namespace Ad
theorem PP (f k:Nat):AY f (List.replicate k Af.blank)=raw f k 0:=by
 unfold AY raw;rw [TJ,MN,List.length_replicate];rfl
theorem Ti:DZ 0 Af.blank:=⟨by decide +kernel,by decide +kernel,by decide +kernel,by decide +kernel⟩
theorem UC (k f n:Nat) (h:f+n<=k):Aw (Af.new k) f n=List.replicate n Af.blank:=by
 refine Gx (by simp) fun j hj => ?_;rw [List.getElem?_replicate,if_pos hj];simp [Af.seen,Af.seenIn,Af.new,show f+j<k by omega]
theorem fB {k:Nat} (h1:1<=k) (h2:k<=4096):(Af.new k).wf:=by
 refine ⟨by simpa [Af.new] using h1,by simpa [Af.new] using h2,fun p hp => ?_,by simp [Af.new],by simp [Af.new],by simp [Af.new]⟩;rw [List.eq_of_mem_replicate hp];exact MV
theorem VF {k f n:Nat} (h:f+n<=k) (hn:2<=n) (hk:k<=4096):Good 0 (raw f n 0,Af.new k):=by
 refine ⟨rfl,rfl,⟨?_,by show f+n<=(Af.new k).pages.length;simpa [Af.new] using h,hn,fB (by omega) hk⟩,fun j hj => ?_⟩
 ·show raw f n 0=AY f (Aw (Af.new k) f n);rw [UC k f n h,PP]
 ·have hj':j<n:=hj;have:(Af.new k).seen (f+j)=Af.blank:=by simp [Af.seen,Af.seenIn,Af.new,show f+j<k by omega]
  show DZ 0 ((Af.new k).seen (f+j));rw [this];exact Ti
theorem Good.mono {K K':Nat} {s:Ad × Af} (h:Good K s) (hK:K<=K'):Good K' s:=⟨h.dd,h.row,h.fine,fun j hj=>(h.pg j hj).mono hK⟩
structure jF (K:Nat) (a b:Ad) (d:Af) (s:Ad × Af):Prop where
 ga:Good K (a,d)
 gb:Good K (b,d)
 gs:Good K s
 ld:d.left<0
 ls:s.2.left<0
 fa:a.first=0/\a.n=8
 fb:b.first=8/\b.n=8
 fs:s.1.n=8
 re:s.1.records=a.records/\s.1.end'=a.end'
end Ad
section
variable {w:World} {o:Own} {L D p pd:Nat} {s:Ad × Af}
end
def Qi (W:World) (o:Own) (t:Nat × Nat):Own:=fun k=>if k<W.heap.size then o k else t
theorem aj.retag {T:Nat->Prop} {w w':World} {o o':Own} (hs:aj T w o w' o') (t:Nat × Nat):aj T w o w' (Qi w o t):=⟨hs.os,hs.tape,hs.output,hs.size,fun _ hk=>if_pos hk,hs.block⟩
theorem VM {W:World} {o:Own} {t:Nat × Nat} {k:Nat} (h:W.heap.size<=k):Qi W o t k=t:=if_neg (by omega)
section
variable {P:Program} {ops:Array Oper} {Q:Exit->Act->World->Prop} {md:Region.Mode} {S:World->Prop} {need:Nat->Bool}
def Shut (md:Region.Mode) (ops:Array Oper) (idx:List Nat) (s:List Bool):Prop:=∀ (k i:Nat),s[k]?=some true->idx[k]?=some i->∀ (j i':Nat),idx[j]?=some i'->JF md ops i i'=true->s[j]?=some true
def iC (md:Region.Mode) (ops:Array Oper) (idx:List Nat) (s:List Bool):Bool:=
 idx.zipIdx.all fun x=>idx.zipIdx.all fun y => !(s.getD x.2 false) || !(JF md ops x.1 y.1) || s.getD y.2 false
def iW (md:Region.Mode) (ops:Array Oper) (l:Array Bool) (idx:List Nat) (AcB:List Nat):Bool:=
 (idx.length == AcB.length) && decide idx.Nodup && decide AcB.Nodup && (idx.all fun i => !l.getD i false) && ((idx.zip AcB).all fun x=>match ops[x.1]? with | some o=>o.dst == some x.2 | none=>false) &&
 (Gw idx.length).all fun s => !(iC md ops idx s) || (s.all (fun b=>b) || (let rd:=Region.ready md ops (CS l idx s); !rd.isEmpty && rd.all (fun i=>idx.contains i)))
end
theorem JX {w:World} {b b' e size n:Nat} {v:Value} {xs:List Value} (h:w.ownsRow b e size v n xs) (hb:b'<=b):w.ownsRow b' e size v n xs:=by
 refine ⟨h.1, ?_⟩
 rcases h.2 with hn | ⟨g,cap,cur,rfl,h1,rest⟩
 ·exact .inl hn
 ·exact .inr ⟨g,cap,cur,rfl,Nat.le_trans hb h1,rest⟩
namespace Ad
end Ad
structure Ar where
 e:BitVec 64
 b:List UInt8
def CV (base:Nat) (v:Value):Prop:=∀ k,v.ownBlock=some k->base<=k
theorem CV.zero (v:Value):CV 0 v:=fun _ _=>Nat.zero_le _
theorem CV.low {a b:Nat} {v:Value} (h:CV a v) (hb:b<=a):CV b v:=fun k hk=>Nat.le_trans hb (h k hk)
theorem CV.own {w:World} {base b e size n:Nat} {v:Value} {xs:List Value} (h:w.ownsRow b e size v n xs) (hb:base<=b):CV base v:=fun k hk=>Nat.le_trans hb (h.lt k hk).1
theorem CV.int (base:Nat) (k:IntKind) (n:Int):CV base (.int k n):=fun k hk=>by simp [Value.ownBlock] at hk
theorem CV.nil (base:Nat) (n c:Nat):CV base (.slice none n c):=fun k hk=>by simp [Value.ownBlock] at hk
def sW (w:World) (o:Own) (cs:List Value) (ls:List Ar):Prop:=
 cs.length=2*ls.length/\∀ i x,ls[i]?=some x->cs[2*i]?=some (.int .u64 (x.e.toNat:Int))/\∃ bv,cs[2*i+1]?=some bv/\Bytes w o bv x.b
theorem sW.step {T:Nat->Prop} {w w':World} {o o':Own} {cs:List Value} {ls:List Ar} (h:sW w o cs ls) (s:aj T w o w' o') (hT:¬ T 0):sW w' o' cs ls:=
 ⟨h.1,fun i x hx=>by
  obtain ⟨h1,bv,h2,h3⟩:=h.2 i x hx;exact ⟨h1,bv,h2,h3.step s hT⟩⟩
theorem sW.nil (w:World) (o:Own):sW w o [] []:=⟨rfl,by simp⟩
theorem sW.one {w:World} {o:Own} {cs:List Value} {ls:List Ar} (h:sW w o cs ls):∀ u ∈ cs,u.oneCell'=true:=by
 intro u hu;obtain ⟨j,hj⟩:=List.mem_iff_getElem?.1 hu;have hjl:=(List.getElem?_eq_some_iff.1 hj).1;have hi:j / 2<ls.length:=by have:=h.1;omega
 obtain ⟨h1,bv,h2,h3⟩:=h.2 (j / 2) _ (List.getElem?_eq_getElem hi)
 by_cases hp:2*(j / 2)=j
 ·rw [hp,hj] at h1;cases h1;rfl
 ·have hq:2*(j / 2)+1=j:=by omega
  rw [hq,hj] at h2;cases h2;obtain ⟨a,c,rfl⟩:=Aq h3;rfl
theorem sW.append {w:World} {o:Own} {c1 c2:List Value} {l1 l2:List Ar} (h1:sW w o c1 l1) (h2:sW w o c2 l2):sW w o (c1++c2) (l1++l2):=by
 refine ⟨by simp [h1.1,h2.1];omega,fun i x hx => ?_⟩
 by_cases hi:i<l1.length
 ·rw [List.getElem?_append_left hi] at hx;obtain ⟨a,bv,b,c⟩:=h1.2 i x hx;have:=h1.1;exact ⟨by rw [List.getElem?_append_left (by omega)];exact a,bv,by rw [List.getElem?_append_left (by omega)];exact b,c⟩
 ·rw [List.getElem?_append_right (by omega)] at hx;obtain ⟨a,bv,b,c⟩:=h2.2 _ x hx;have:=h1.1;refine ⟨?_,bv, ?_,c⟩
  ·rw [List.getElem?_append_right (by omega),show 2*i - c1.length=2*(i - l1.length) from by omega];exact a
  ·rw [List.getElem?_append_right (by omega),show 2*i+1 - c1.length=2*(i - l1.length)+1 from by omega];exact b
theorem sW.single {w:World} {o:Own} {bv:Value} (x:Ar) (h:Bytes w o bv x.b):sW w o [.int .u64 (x.e.toNat:Int),bv] [x]:=by
 refine ⟨rfl,fun i y hy => ?_⟩
 cases i with
 | zero=>simp only [ay,Option.some.injEq] at hy;subst hy;exact ⟨rfl,bv,rfl,h⟩
 | succ i=>simp at hy
def Lines (w:World) (o:Own) (base:Nat) (v:Value) (ls:List Ar):Prop:=∃ cs,sH w o v ls.length cs/\sW w o cs ls/\CV base v/\∀ u ∈ cs,CV base u
theorem Lines.step {T:Nat->Prop} {w w':World} {o o':Own} {base:Nat} {v:Value} {ls:List Ar} (h:Lines w o base v ls) (s:aj T w o w' o') (hT:¬ T 0):Lines w' o' base v ls:=by
 obtain ⟨cs,h1,h2,h3,h4⟩:=h;exact ⟨cs,h1.step s hT,h2.step s hT,h3,h4⟩
theorem Lines.low {w:World} {o:Own} {base b:Nat} {v:Value} {ls:List Ar} (h:Lines w o base v ls) (hb:b<=base):Lines w o b v ls:=by
 obtain ⟨cs,h1,h2,h3,h4⟩:=h;exact ⟨cs,h1,h2,h3.low hb,fun u hu=>(h4 u hu).low hb⟩
theorem Lines.nil (w:World) (o:Own) (base:Nat):Lines w o base (.slice none 0 0) []:=⟨[], .inl ⟨⟨_,_,rfl⟩,rfl,rfl⟩,sW.nil w o,CV.nil _ _ _,by simp⟩
theorem Lines.form {w:World} {o:Own} {base:Nat} {v:Value} {ls:List Ar} (h:Lines w o base v ls):∃ a c,v = .slice a ls.length c:=by
 obtain ⟨cs,h1, -⟩:=h;exact Aq h1
theorem Lines.at {w:World} {o:Own} {base:Nat} {a:Option Addr} {n c:Nat} {ls:List Ar} (h:Lines w o base (.slice a n c) ls) {i:Nat} {x:Ar} (hx:ls[i]?=some x) :
  ∃ b off bv,a=some ⟨b,off,none⟩/\w.rangeAt b (off+i*2) [.int .u64 (x.e.toNat:Int),bv]/\Bytes w o bv x.b/\CV base bv/\b<w.heap.size/\(o b).1=0:=by
 obtain ⟨cs,h1,h2,h3,h4⟩:=h;have hi:=(List.getElem?_eq_some_iff.1 hx).1;obtain ⟨k1,bv,k2,k3⟩:=h2.2 i x hx
 rcases h1 with ⟨_,h0, -⟩ | ⟨b,off,cap,hv,y1,y2,y3,y4,y5⟩
 ·omega
 ·simp only [Value.slice.injEq] at hv;obtain ⟨rfl,rfl,rfl⟩:=hv;refine ⟨b,off,bv,rfl,fun j v hj => ?_,k3,h4 bv (List.mem_of_getElem? k2),y4,y3⟩
  match j with
  | 0=>simp only [ay,Option.some.injEq] at hj;subst hj;have:=y5 _ _ k1;rw [Nat.mul_comm] at this;exact this
  | 1=>simp only [ax,ay,Option.some.injEq] at hj;subst hj;have:=y5 _ _ k2;rw [Nat.mul_comm, <-Nat.add_assoc] at this;exact this
  | j+2=>simp at hj
def Ar.enc (x:Ar):List UInt8:=be 8 x.e++(be 4 (BitVec.ofNat 64 x.b.length)++x.b)
def encs (ls:List Ar):List UInt8:=ls.flatMap Ar.enc
def GR (ls:List Ar):List UInt8:=be 8 (BitVec.ofNat 64 ls.length)++encs ls
theorem Jj (x:Ar):x.enc.length=12+x.b.length:=by simp [Ar.enc,Az];omega
theorem KU (ls:List Ar) (x:Ar):encs (ls++[x])=encs ls++x.enc:=by simp [encs]
theorem Hf (ls:List Ar) (k:Nat):(encs (ls.take k)).length<=(encs ls).length:=by
 have:encs ls=encs (ls.take k)++encs (ls.drop k):=by unfold encs;rw [<-List.flatMap_append,List.take_append_drop]
 rw [this,List.length_append];omega
theorem bP (c:UInt8):be 1 (BitVec.ofNat 64 c.toNat)=[c]:=by
 have:(BitVec.ofNat 64 c.toNat).toNat=c.toNat:=by have:=c.toNat_lt;rw [BitVec.toNat_ofNat];omega
 show [pJ (BitVec.ofNat 64 c.toNat) 0]=[c];congr 1;apply UInt8.toNat_inj.1;rw [RZ,this];simp
theorem Ew.low {w w1 w2:World} {o:Own} {v:Value} {l:List UInt8} (h:Ew w1 w2 o v l) (hs:w.heap.size<=w1.heap.size):Ew w w2 o v l:=⟨JX h.1 hs,h.2⟩
theorem Ew.step {T:Nat->Prop} {w w1 w2:World} {o1 o2:Own} {v:Value} {l:List UInt8} (h:Ew w w1 o1 v l) (s:aj T w1 o1 w2 o2) (hT:¬ T 0):Ew w w2 o2 v l:=
 ⟨Ci h.1 fun k hk=>s.block k (h.1.lt k hk).2 (by rw [h.2 k hk];exact hT),fun k hk=>by rw [s.own k (h.1.lt k hk).2];exact h.2 k hk⟩
theorem Ew.cap {w w1:World} {o:Own} {v:Value} {l:List UInt8} (h:Ew w w1 o v l):capLe v:=fun a n c e=>by
 rcases h.1.2 with ⟨h1,h0⟩ | ⟨g,cap,cur,h1,q1,q2,q3,q4, -⟩
 ·rw [e] at h1;cases h1;omega
 ·rw [e] at h1;cases h1;simp only [maxLen] at q4;omega
theorem Ew.fresh {w w1:World} {o:Own} {v:Value} {l:List UInt8} (h:Ew w w1 o v l):CV w.heap.size v:=CV.own h.1 (Nat.le_refl _)
theorem Ew.congr {w w1:World} {o:Own} {v:Value} {l l':List UInt8} (h:Ew w w1 o v l) (e:l=l'):Ew w w1 o v l':=e ▸ h
theorem IG {w:World} {o:Own} {v:Value} {l:List UInt8} (h:Bytes w o v l) (hll:l.length<=4000000) (c:UInt8) :
  Calls prog 133 #[v, .int .u8 (c.toNat:Int)] w (XL ai w o fun v w' o'=>Ew w w' o' v (l++[c])):=by
 have hc:=JJ h hll (BitVec.ofNat 64 c.toNat) 1 (by omega);rw [bP,fE] at hc;have hcl:=c.toNat_lt;have hc0:(0:Int)<=(c.toNat:Int)/\(c.toNat:Int)<256:=by omega
 go_enter func133,ntmps133;go_wp2_with fail;refine hc.mono ?_;rintro e w1 ⟨v1,o1,rfl,hs,hn⟩;go_wp2_with fail;go_ret;exact ⟨_,o1,rfl,hs,hn⟩
theorem QZ {w:World} {o:Own} {v sv:Value} {l s:List UInt8} (h:Bytes w o v l) (hs:Bytes w o sv s) (hll:l.length<=4000000) (hsl:s.length<=4000000) :
  Calls prog 185 #[v,sv] w (XL ai w o fun v w' o'=>Ew w w' o' v (l++(be 4 (BitVec.ofNat 64 s.length)++s))):=by
 have hc:=JJ h hll (BitVec.ofNat 64 s.length) 4 (by omega);have e1:((BitVec.ofNat 64 s.length).toNat:Int)=(s.length:Int):=by rw [BitVec.toNat_ofNat,Nat.mod_eq_of_lt (by omega)]
 rw [e1] at hc;obtain ⟨sa,sc,rfl⟩:=Aq hs;obtain ⟨P,hP⟩:∃ P,l++be 4 (BitVec.ofNat 64 s.length)=P:=⟨_,rfl⟩;have hPl:P.length=l.length+4:=by rw [<-hP];simp [Az]
 have hfin:l++(be 4 (BitVec.ofNat 64 s.length)++s)=P++s:=by rw [<-hP,List.append_assoc]
 rw [hP] at hc;rw [hfin];have hsH:=ae hs;have WV:=ae hc;have hsn:(0:Int)<=(s.length:Int)/\(s.length:Int)<=4000000:=by omega
 have vK:=ae hPl;clear hs hc e1 hP hPl hfin;go_enter func185,ntmps185;go_wp2_with fail;refine WV.out.mono ?_;rintro e w1 ⟨v1,o1,rfl,hst,hn⟩;obtain ⟨a1,c1,rfl⟩:=BA hn.1;have hsb:=hsH.out.step hst id;have hcap:P.length<=c1:=by
  have:=vK.out
  rcases hn.1.2 with ⟨h1,h0⟩ | ⟨g,cap,cur,h1,q1,q2,q3,q4, -⟩
  ·omega
  ·simp only [Value.slice.injEq] at h1;obtain ⟨-, -,rfl⟩:=h1;exact q3
 have key:∃ nv w2 o2,(Builtin.append_ #[29,29] 29 #[.slice a1 P.length c1, .slice sa s.length sc]).run prog w1 = .ok nv w2/\aj ai w o w2 o2/\Ew w w2 o2 nv (P++s):=by
  have hlen:=vK.out
  by_cases h0:s.length=0
  ·have hs0:=List.eq_nil_of_length_eq_zero h0;subst hs0;exact ⟨_,w1,o1,CB (P:=prog) w1 29 29 5 1 underlying29 (by kernel_rfl) a1 sa _ c1 sc hcap (by omega),hst,hn.congr (by simp)⟩
  ·rcases hsb.cases with ⟨_,h1⟩ | ⟨b,off,cap,e0,x1,x2,x3,x4,x5⟩
   ·subst h1;exact absurd rfl h0
   ·simp only [Value.slice.injEq,true_and] at e0;obtain ⟨rfl,rfl⟩:=e0;obtain ⟨g,cp,w2,hrun,hown,hgrow, -, -⟩:=Es w1 hst.size _ _ _ hn.1 b off s.length sc s rfl x5 (by omega) (by omega);have hb:Below w.heap.size w w2:=hst.below.grown hgrow hst.size (fun k hk=>(hn.1.lt k hk).1);refine ⟨_,w2,ext w o,hrun,⟨hb.os,hb.tape,hb.output,hb.size,fun k hk=>if_pos hk,fun k hk _=>hb.block k hk⟩, ?_,fun k hk=>if_neg (by have:=(hown.lt k hk).1;omega)⟩;rw [List.length_append];exact hown
 obtain ⟨nv,w2,o2,hrun,hst2,hn2⟩:=key;have Aax:=ae hrun;clear hrun hn hst hsb WV
 go_wp2_with ((with_reducible apply Bl);exact Aax.out;simp only [Act.put,GL,DL,lss])
 go_ret;exact ⟨_,o2,rfl,hst2,hn2⟩
theorem TR:(prog.info? 41).map (fun i=>(i.zero.map (fun z=>z.cells.toList),i.size,i.bytes))=some (some [.int .u64 0, .slice none 0 0],2,32):=by kernel_rfl
theorem eY:((prog.info? 41).bind (·.zero)).map (·.cells)=some #[.int .u64 0, .slice none 0 0]:=by kernel_rfl
theorem TG {w:World} {b off:Nat} {e:Int} {bv:Value} (hr:w.rangeAt b off [.int .u64 e,bv]):(Instr.loadAt 41 (.pointer (some ⟨b,off,none⟩))).run prog w = .ok (.agg #[.int .u64 e,bv]) w:=by
 simp only [Instr.loadAt,Instr.sureAddr,Sem.run_bind,Sem.run_pure,Result.andThen_ok];exact run_loadVar_mid w b off 41 [.int .u64 e,bv] _ hr underlying41 rfl (by kernel_rfl)
theorem Lm {w:World} {o:Own} {v lv:Value} {base:Nat} {l:List UInt8} {ls:List Ar} (h:Bytes w o v l) (hl:Lines w o base lv ls) (hll:l.length+8+(encs ls).length<=4000000) (hn:ls.length<=100000) :
  Calls prog 132 #[v,lv] w (XL ai w o fun v w' o'=>Ew w w' o' v (l++GR ls)):=by
 obtain ⟨la,lc,rfl⟩:=hl.form;have hc:=Ef h (by omega) (BitVec.ofNat 64 ls.length);have e1:((BitVec.ofNat 64 ls.length).toNat:Int)=(ls.length:Int):=by rw [BitVec.toNat_ofNat,Nat.mod_eq_of_lt (by omega)]
 rw [e1] at hc;obtain ⟨P,hP⟩:∃ P,l++be 8 (BitVec.ofNat 64 ls.length)=P:=⟨_,rfl⟩;have hPl:P.length=l.length+8:=by rw [<-hP];simp [Az]
 have hfin:l++GR ls=P++encs ls:=by rw [<-hP];simp [GR]
 rw [hfin];rw [hP] at hc;obtain ⟨N,hN⟩:∃ N,ls.length=N:=⟨_,rfl⟩;rw [hN] at hc hn ⊢;have hall:ls.take N=ls:=List.take_of_length_le (by omega);have hlH:=ae hl;have hNH:=ae hN;have WV:=ae hc;have pR:=ae hall;have vK:=ae hPl;have AbB:=ae hll;have hNb:(0:Int)<=(N:Int)/\(N:Int)<=100000:=by omega
 clear hl hN hc hall hP hPl hfin hll e1 h;rw [hNH.out] at hlH;go_enter func132,ntmps132;go_wp2_with fail;refine WV.out.mono ?_;rintro e w1 ⟨v1,o1,rfl,hst,hnb⟩;clear WV;go_wp2_with fail
 go_loopw [0,14] (fun bv i wr=>∃ (k:Nat) (oj:Own),k<=N/\i = .int .i64 k/\aj ai w o wr oj/\Ew w wr oj bv (P++encs (ls.take k))) (fun _ i _=>N - (intOf i).toNat)
 case atStart=>exact ⟨0,o1,by omega,rfl,hst,hnb.congr (by simp [encs])⟩
 case round =>
  clear hst hnb;obtain ⟨k,oj,hk,rfl,hst,hnb⟩:=hrel
  by_cases hlt:k<N
  ·obtain ⟨x,hx⟩:∃ x,ls[k]?=some x:=⟨_,List.getElem?_eq_getElem (by rw [hNH.out];exact hlt)⟩;obtain ⟨b,off,xv,hab,hrg,hby, -, -, -⟩:=(hlH.out.step hst id).at hx;subst hab;have hld:=ae (TG hrg);have hal:=ae (AB (P:=prog) wr 41 _ eY);have hsw:=Be wr #[.int .u64 0, .slice none 0 0] 41 [.int .u64 (x.e.toNat:Int),xv] rfl;have h1c:[Value.int .u64 (x.e.toNat:Int),xv].all (·.oneCell')=true:=by obtain ⟨xa,xc,rfl⟩:=Aq hby;rfl
   obtain ⟨hso, -⟩:=Ba (P:=prog) (ty:=41) (vs:=[.int .u64 (x.e.toNat:Int),xv]) (heap_alloc_new wr (.cells [.int .u64 0, .slice none 0 0].toArray 41)) rfl (by kernel_rfl) h1c;rw [hsw] at hso;have Aaz:=ae hso;have hsa:=(aj.refl ai wr oj).alloc (.cells [Value.int .u64 (x.e.toNat:Int),xv].toArray 41) (0,0);have hab:(wr.alloc (.cells [Value.int .u64 (x.e.toNat:Int),xv].toArray 41)).heap[wr.heap.size]?=some (.cells [Value.int .u64 (x.e.toNat:Int),xv].toArray 41 (0,0)):=heap_alloc_new wr _;have hby:=hby.step hsa id;have hnb:=hnb.step hsa id;have hst:=hst.trans hsa;have Aba:=hst.size;obtain ⟨ab,xM⟩:∃ ab,wr.heap.size=ab:=⟨_,rfl⟩;obtain ⟨W1,hW1⟩:∃ W1,wr.alloc (.cells [Value.int .u64 (x.e.toNat:Int),xv].toArray 41)=W1:=⟨_,rfl⟩;rw [hW1] at Aaz hab hby hnb hst Aba;rw [xM] at hab hby hnb hst;generalize Ak oj ab (0,0)=O1 at *;have hsn:encs (ls.take (k+1))=encs (ls.take k)++x.enc:=by rw [List.take_add_one,hx];exact KU _ _
   have hle:=Hf ls (k+1);rw [hsn,List.length_append,Jj] at hle;have hle2:P.length+(encs (ls.take k)).length+12+x.b.length<=4000000:=by have:=vK.out;have:=AbB.out;omega
   obtain ⟨pre,hpre⟩:∃ pre,P++encs (ls.take k)=pre:=⟨_,rfl⟩;have yY:pre.length=P.length+(encs (ls.take k)).length:=by rw [<-hpre,List.length_append]
   rw [hpre] at hnb;have AbN:=ae hby;have Aar:=ae xM;have Aac:=ae (show P++encs (ls.take (k+1))=pre++x.enc by rw [hsn, <-hpre,List.append_assoc]);have rD:=ae (show pre.length+12+x.b.length<=4000000 by omega);clear hsw hso hrg hsa xM hW1 hsn hle hle2 hpre yY h1c hby hx;have c0:W1.cell? ⟨ab,0,none⟩=some (.int .u64 (x.e.toNat:Int)):=ag hab 0;have c1:W1.cell? ⟨ab,1,none⟩=some xv:=ag hab 1
   go_wp2_with (first
    | ((with_reducible apply Bo);exact hld.out;simp only [Act.put,GL,DL,lss])
    | ((with_reducible apply AU);exact hal.out;simp only [Act.put,GL,DL,lss])
    | ((with_reducible apply AC);exact Aaz.out;simp only [Act.put]))
   rw [Aar.out];clear hld hal Aaz Aar;refine Aa (fun w'=>w'.cell? ⟨ab,0,none⟩=some (.int .u64 (x.e.toNat:Int))/\w'.cell? ⟨ab,1,none⟩=some xv) (fun _=>true) (by kernel_rfl) ⟨c0,c1⟩ (fun hHeld => ?_);refine tq 0 (h:=tq 1 (h:=tq 2 (h:=tq 4 (h:=tq 5 (h:=tO 3 (h:=?_))))));go_wp2_with fail;have hdr:=(aj.refl ai W1 O1).drew;refine (Ef (hnb.step hdr id).bytes (by have:=rD.out;omega) x.e).mono ?_;rintro e w2 ⟨v2,o2,rfl,hs2,zQ⟩;have hs2:=hdr.trans hs2;have uK:=(hs2.block ab (au hab) id).trans hab;have hS2:=aI (ag (i:=0) uK) (ag (i:=1) uK);have AbO:=ae (AbN.out.step hs2 id);have hst:=hst.trans hs2;clear hs2 hdr hHeld;go_wp2_with fail;refine ⟨fun _=>hS2, ?_⟩;refine tO 6 (h:=?_);go_wp2_with fail;refine (QZ zQ.bytes AbO.out (by rw [List.length_append,Az];have:=rD.out;omega) (by have:=rD.out;omega)).mono ?_;rintro e w3 ⟨v3,o3,rfl,hs3,zO⟩;have xN:=(hs3.block ab (au uK) id).trans uK;have hS3:=aI (ag (i:=0) xN) (ag (i:=1) xN);have Aby:=(zO.low hst.size).congr (l':=P++encs (ls.take (k+1))) (by rw [Aac.out];simp [Ar.enc]);have hst:=hst.trans hs3;clear hs3 zO zQ hS2;go_wp2_with fail;refine ⟨fun _=>hS3, ?_⟩;refine Dt (i:=7) (v := ?_) rfl (by kernel_rfl) (fun _ _ _ h=>h) (Or.inl ⟨by rfl, ?_⟩) (by assumption) ?_
   rotate_left
   ·intro w hSw;((try dsimp only at hSw);go_simp;(try with_reducible rfl))
   simp only [Act.put,GL,DL];refine tD (h:=?_);clear hS3 hab uK xN c0 c1 hnb;go_wp2_with fail;go_roundw
   case rel=>exact ⟨k+1,o3,by omega,by go_num,hst,Aby⟩
   case measure=>simp [intOf];omega
  ·obtain rfl:N=k:=by omega
   rw [pR.out] at hnb;go_wp2_with fail;go_ret;exact ⟨_,oj,rfl,hst,hnb⟩
def str (l:List UInt8):Value := .string ⟨l.toArray⟩
def strs (ps:List (List UInt8)):List Value:=ps.map str
def iF (row:List (Nat × List UInt8)):List Value:=row.flatMap fun x=>[Value.int .i64 (x.1:Int),str x.2]
def iV (o:Own) (n p E:Nat) (pv:Value):Own:=fun k=>if k<n then o k else if k=p then (E,0) else if pv.ownBlock=some k then (E,1) else (0,0)
theorem AdB {P:Program} {a:Act} {op:Oper} {w w':World} (t:TypeId) (x:Operand) (lo hi mx:Option Operand) (ho:op.op = .slice t x lo hi mx) {v:Value}
  (h:(Instr.sliceAt t (a.eval x) (lo.map a.eval) (hi.map a.eval) (mx.map a.eval)).run P w = .ok v w'):(execOp a.eval op).run P w = .ok (.value v) w':=by
 unfold execOp;simp only [ho,Sem.run_bind,h,Result.andThen_ok,Sem.run_pure]
section
variable {w wr:World} {o o1:Own} {E p pg pc:Nat} {rv:Value} {d:Af} {ps:List (List UInt8)}
end
def iY (f:Nat->Bool):List Value:=(List.range 64).map fun i => .bool (f i)
theorem Xu {w:World} {o:Own} {v:Value} {n:Nat} {cs:List Value} (h:sH w o v n cs) (hcs:cs.length=n*2) (h1:∀ u ∈ cs,u.oneCell'=true) (hn:n<=4000000) :
  Calls prog 155 #[v] w (XL ai w o fun v' w' o'=>w'.ownsRow w.heap.size 41 2 v' n cs/\o'=ext w o):=by
 have hz:(w.alloc (.cells #[] 41)).ownsRow w.heap.size 41 2 (.slice (some ⟨w.heap.size,0,none⟩) 0 0) 0 []:=⟨rfl, .inr ⟨_,0, #[],rfl,Nat.le_refl _,heap_alloc_new w _,by omega,by simp,rfl,rfl⟩⟩;have hbz:Below w.heap.size w (w.alloc (.cells #[] 41)):=(Below.refl _ _).alloc (Nat.le_refl _) _;have fin:∀ (w':World) (v':Value),Below w.heap.size w w'->w'.ownsRow w.heap.size 41 2 v' n cs->XL ai w o (fun v' w' o'=>w'.ownsRow w.heap.size 41 2 v' n cs/\o'=ext w o) (.returned v') w':=fun w' v' hb ho =>
  ⟨_,ext w o,rfl,⟨hb.os,hb.tape,hb.output,hb.size,fun k hk=>if_pos hk,fun k hk _=>hb.block k hk⟩,ho,rfl⟩
 rcases h with ⟨⟨a,c,rfl⟩,rfl,rfl⟩ | ⟨b,off,cap,rfl,hl,hm,ho,hb,hr⟩
 ·cases a with
  | none =>
   have he:=FC w 35 41 none 0 c underlying35;go_enter func155,ntmps155
   go_wp2
   go_ret;exact fin _ _ (Below.refl _ _) (World.ownsRow_nil _ _ _ _)
  | some ad =>
   have he:=FC w 35 41 (some ad) 0 c underlying35;have hrun:=ae (CB (P:=prog) (w.alloc (.cells #[] 41)) 35 35 41 2 underlying35 (by kernel_rfl) (some ⟨w.heap.size,0,none⟩) (some ad) 0 0 c (Nat.le_refl _) (by omega));go_enter func155,ntmps155
   go_wp2_with ((with_reducible apply Bl);exact hrun.out;simp only [Act.put,GL,DL,lss])
   go_ret;exact fin _ _ hbz hz
 ·have he:=FC w 35 41 (some ⟨b,off,none⟩) n cap underlying35
  by_cases h0:n=0
  ·subst h0;have hcs0:=List.eq_nil_of_length_eq_zero (by omega:cs.length=0);subst hcs0;have hrun:=ae (CB (P:=prog) (w.alloc (.cells #[] 41)) 35 35 41 2 underlying35 (by kernel_rfl) (some ⟨w.heap.size,0,none⟩) (some ⟨b,off,none⟩) 0 0 cap (Nat.le_refl _) (by omega));go_enter func155,ntmps155
   go_wp2_with ((with_reducible apply Bl);exact hrun.out;simp only [Act.put,GL,DL,lss])
   go_ret;exact fin _ _ hbz hz
  ·have hr1:(w.alloc (.cells #[] 41)).rangeAt b off cs:=World.rangeAt_alloc hr _;obtain ⟨g,cp,w3,hrun,hown,hgrow,hat,hlt⟩:=DD (P:=prog) (w.alloc (.cells #[] 41)) 35 35 41 underlying35 TR rfl (by omega) (base:=w.heap.size) (by simp) _ 0 [] hz b off n cap cs hcs hr1 h1 (by omega) (by omega) (by omega);have hb3:=hbz.grown hgrow (by simp) (fun k hk=>by simp only [Value.ownBlock,Option.some.injEq] at hk;omega);rw [Nat.zero_add,List.nil_append] at hown;rw [Nat.zero_add] at hrun;have Aax:=ae hrun;clear hrun hr1 hr;go_enter func155,ntmps155
   go_wp2_with ((with_reducible apply Bl);exact Aax.out;simp only [Act.put,GL,DL,lss])
   go_ret;exact fin _ _ hb3 hown
theorem Bytes.retag {w:World} {o o':Own} {base:Nat} {v:Value} {l:List UInt8} (h:Bytes w o v l) (hf:CV base v) (ho:∀ k,base<=k->(o' k).1=0):Bytes w o' v l:=by
 rcases h with h | ⟨b,off,cap,rfl,h1,h2,h3,h4,h5⟩
 ·exact .inl h
 ·exact .inr ⟨b,off,cap,rfl,h1,h2,ho b (hf b rfl),h4,h5⟩
def Loose (w:World) (v:Value):Prop:=∀ b off n c,v = .slice (some ⟨b,off,none⟩) n c->0<n->∃ cs,w.heap[b]?=some (.cells cs 5 (0,0))
theorem Loose.step {T:Nat->Prop} {w w':World} {o o':Own} {v:Value} {l:List UInt8} (h:Loose w v) (hb:Bytes w o v l) (s:aj T w o w' o') (hT:¬ T 0):Loose w' v:=by
 intro b off n c hv hn;obtain ⟨cs,hh⟩:=h b off n c hv hn
 rcases hb with ⟨⟨a,c',e⟩, -, -⟩ | ⟨b',off',cap,e, -, -,h0,hlt, -⟩
 ·rw [hv] at e;cases e;omega
 ·rw [hv] at e;cases e;exact ⟨cs,by rw [s.block b hlt (by rw [h0];exact hT)];exact hh⟩
theorem Ew.loose {w w':World} {o:Own} {v:Value} {l:List UInt8} (h:Ew w w' o v l):Loose w' v:=by
 intro b off n c hv hn
 rcases h.1.2 with ⟨h1,h0⟩ | ⟨g,cap,cur,h1,q1,q2, -⟩
 ·rw [hv] at h1;cases h1
 ·rw [hv] at h1;cases h1;exact ⟨cur,q2⟩
def Jz (w:World) (base:Nat) (v:Value) (ls:List Ar):Prop:=0<ls.length->∃ g c,∃ cs:List Value,v = .slice (some ⟨g,0,none⟩) ls.length c/\base<=g/\w.heap[g]?=some (.cells cs.toArray 41 (0,0))/\∀ i x,ls[i]?=some x->∃ bv,cs[2*i+1]?=some bv/\Loose w bv/\CV base bv
theorem Jz.setCells {w:World} {base B off:Nat} {v:Value} {ls:List Ar} {vs:List Value} (h:Jz w base v ls) (hB:B<base):Jz (w.setCells B off vs) base v ls:=by
 intro h0;obtain ⟨g,c,cs,rfl,h1,h2,h3⟩:=h h0;refine ⟨g,c,cs,rfl,h1,by rw [ah _ _ _ _ _ (by omega)];exact h2,fun i x hx => ?_⟩;obtain ⟨bv,q1,q2,q3⟩:=h3 i x hx;refine ⟨bv,q1,fun b off' n c' hv hn => ?_,q3⟩;obtain ⟨cs',hh⟩:=q2 b off' n c' hv hn;have hb:=q3 b (by rw [hv];rfl);exact ⟨cs',by rw [ah _ _ _ _ _ (by omega)];exact hh⟩
theorem Jz.low {w:World} {base b:Nat} {v:Value} {ls:List Ar} (h:Jz w base v ls) (hb:b<=base):Jz w b v ls:=by
 intro h0;obtain ⟨g,c,cs,rfl,h1,h2,h3⟩:=h h0;refine ⟨g,c,cs,rfl,by omega,h2,fun i x hx => ?_⟩;obtain ⟨bv,q1,q2,q3⟩:=h3 i x hx;exact ⟨bv,q1,q2,q3.low hb⟩
def Half (w:World) (o:Own) (base k:Nat) (cur:List Value) (ls:List Ar):Prop:=
 2*ls.length<=cur.length/\∀ i x,ls[i]?=some x->cur[2*i]?=some (.int .u64 (x.e.toNat:Int))/\∃ bv,cur[2*i+1]?=some bv/\Bytes w o bv x.b/\(i<k->CV base bv/\Loose w bv)
theorem Half.step {T:Nat->Prop} {w w':World} {o o':Own} {base k:Nat} {cur:List Value} {ls:List Ar} (h:Half w o base k cur ls) (s:aj T w o w' o') (hT:¬ T 0):Half w' o' base k cur ls:=
 ⟨h.1,fun i x hx=>by
  obtain ⟨a,bv,b,c,d⟩:=h.2 i x hx;exact ⟨a,bv,b,c.step s hT,fun hi=>⟨(d hi).1,(d hi).2.step c s hT⟩⟩⟩
theorem Half.set {w:World} {o:Own} {base k:Nat} {cur:List Value} {ls:List Ar} {x:Ar} {bv:Value} (h:Half w o base k cur ls) (hx:ls[k]?=some x) (hb:Bytes w o bv x.b) (hf:CV base bv) (hz:Loose w bv):Half w o base (k+1) (cur.set (2*k+1) bv) ls:=by
 have hk:=(List.getElem?_eq_some_iff.1 hx).1;have hl:=h.1;refine ⟨by rw [List.length_set];exact h.1,fun i y hy => ?_⟩;obtain ⟨a,cv,b,c,d⟩:=h.2 i y hy;rw [List.getElem?_set,if_neg (by omega),List.getElem?_set];refine ⟨a, ?_⟩
 by_cases hik:i=k
 ·subst hik;rw [hx] at hy;cases hy;exact ⟨bv,by rw [if_pos rfl,if_pos (by omega)],hb,fun _=>⟨hf,hz⟩⟩
 ·exact ⟨cv,by rw [if_neg (by omega)];exact b,c,fun hh=>d (by omega)⟩
theorem Half.lines {w:World} {o o':Own} {base g cap:Nat} {cur:List Value} {ls:List Ar} (h:Half w o base ls.length cur ls) (hg:w.heap[g]?=some (.cells cur.toArray 41 (0,0))) (hgb:base<=g) (hc:ls.length<=cap) (hm:cap<=maxLen) (ho:∀ k,base<=k->(o' k).1=0) :
  Lines w o' base (.slice (some ⟨g,0,none⟩) ls.length cap) ls:=by
 have hl:=h.1;refine ⟨cur.take (2*ls.length), .inr ⟨g,0,cap,rfl,hc,hm,ho g hgb,au hg, ?_⟩,⟨by rw [List.length_take];omega,fun i x hx => ?_⟩,fun k hk=>by simp [Value.ownBlock] at hk;omega,fun u hu => ?_⟩
 ·have:=BU hg 0 (2*ls.length);rw [List.drop_zero] at this;exact this
 ·have hi:=(List.getElem?_eq_some_iff.1 hx).1;obtain ⟨a,bv,b,c,d⟩:=h.2 i x hx;exact ⟨by rw [List.getElem?_take,if_pos (by omega)];exact a,bv,by rw [List.getElem?_take,if_pos (by omega)];exact b,c.retag (d hi).1 ho⟩
 ·obtain ⟨j,hj⟩:=List.mem_iff_getElem?.1 hu;rw [List.getElem?_take] at hj;split at hj
  ·rename_i hlt;have hi:j / 2<ls.length:=by omega
   obtain ⟨a,bv,b,c,d⟩:=h.2 (j / 2) _ (List.getElem?_eq_getElem hi)
   by_cases hp:2*(j / 2)=j
   ·rw [hp,hj] at a;cases a;exact CV.int _ _ _
   ·have hq:2*(j / 2)+1=j:=by omega
    rw [hq,hj] at b;cases b;exact (d hi).1
  ·cases hj
theorem aj.Me {T:Nat->Prop} {w w':World} {o o':Own} (h:aj T w o w' o') (o2:Own) (h2:∀ k,k<w.heap.size->o2 k=o k):aj T w o w' o2:=⟨h.os,h.tape,h.output,h.size,h2,h.block⟩
theorem sW.half {w:World} {o:Own} {cs cur:List Value} {ls:List Ar} {base n:Nat} (h:sW w o cs ls) (hn:ls.length=n) (hc:cur.take (n*2)=cs):Half w o base 0 cur ls:=by
 subst hn;have hl:=h.1;have hlc:=congrArg List.length hc;rw [List.length_take,hl] at hlc;refine ⟨by omega,fun i x hx => ?_⟩;have hi:=(List.getElem?_eq_some_iff.1 hx).1;obtain ⟨a,bv,b,c⟩:=h.2 i x hx;rw [<-hc,List.getElem?_take,if_pos (by omega)] at a b;exact ⟨a,bv,b,c,fun h=>absurd h (by omega)⟩
theorem Lines.zero {w:World} {o:Own} {base:Nat} {v:Value} {ls:List Ar} (hl:ls.length=0) (a:Option Addr) (c:Nat) (hv:v = .slice a 0 c) (hf:CV base v):Lines w o base v ls:=
 ⟨[], .inl ⟨⟨a,c,hv⟩,hl,rfl⟩,by rw [List.eq_nil_of_length_eq_zero hl];exact sW.nil w o,hf,by simp⟩
theorem OV {w:World} {b off:Nat} {p c:Int} {lv:Value} (hr:w.rangeAt b off [.int .u64 p, .int .u64 c,lv]):(Instr.loadAt 37 (.pointer (some ⟨b,off,none⟩))).run prog w = .ok (.agg #[.int .u64 p, .int .u64 c,lv]) w:=by
 simp only [Instr.loadAt,Instr.sureAddr,Sem.run_bind,Sem.run_pure,Result.andThen_ok];exact run_loadVar_mid w b off 37 [.int .u64 p, .int .u64 c,lv] _ hr underlying37 rfl (by kernel_rfl)
theorem LX:((prog.info? 37).bind (·.zero)).map (·.cells)=some #[.int .u64 0, .int .u64 0, .slice none 0 0]:=by kernel_rfl
theorem Ij:(prog.info? 37).map (·.size)=some 3:=by kernel_rfl
def Dy (p c:BitVec 64) (lv:Value):Value := .agg #[.int .u64 (p.toNat:Int), .int .u64 (c.toNat:Int),lv]
theorem UY {w:World} {o:Own} {base:Nat} {p c:BitVec 64} {lv:Value} {ls:List Ar} (h:Lines w o base lv ls) (hn:ls.length<=100000) (hbl:∀ x ∈ ls,x.b.length<=4000000) :
  Calls prog 107 #[Dy p c lv] w (XL ai w o fun v w' o'=>∃ vS,v=Dy p c vS/\Lines w' o' w.heap.size vS ls/\o'=ext w o/\Jz w' w.heap.size vS ls):=by
 obtain ⟨pI,hpI⟩:∃ pI:Int,(p.toNat:Int)=pI:=⟨_,rfl⟩;obtain ⟨cI,hcI⟩:∃ cI:Int,(c.toNat:Int)=cI:=⟨_,rfl⟩;unfold Dy;rw [hpI,hcI];clear hpI hcI p c;obtain ⟨la,lc,rfl⟩:=h.form;obtain ⟨cs,hsl,hln, -, -⟩:=h;have hone:=hln.one;have s1:=(aj.refl ai w o).alloc (.cells #[.int .u64 pI, .int .u64 cI, .slice la ls.length lc] 37) (1,1);have s2:=s1.alloc (.cells #[.int .u64 0, .int .u64 0, .slice none 0 0] 37) (1,2);have b1:(w.alloc (.cells #[.int .u64 pI, .int .u64 cI, .slice la ls.length lc] 37)).heap[w.heap.size]?=some (.cells [.int .u64 pI, .int .u64 cI, .slice la ls.length lc].toArray 37 (0,0)):=heap_alloc_new w _;have z1:(w.alloc (.cells #[.int .u64 pI, .int .u64 cI, .slice la ls.length lc] 37)).heap.size=w.heap.size+1:=by simp
 have t1:Ak o w.heap.size (1,1) w.heap.size=(1,1):=Au _ _ _;obtain ⟨W1,hW1⟩:∃ W1,w.alloc (.cells #[.int .u64 pI, .int .u64 cI, .slice la ls.length lc] 37)=W1:=⟨_,rfl⟩;rw [hW1] at s2 b1 z1;generalize Ak o w.heap.size (1,1)=o1 at *;have b2:(W1.alloc (.cells #[.int .u64 0, .int .u64 0, .slice none 0 0] 37)).heap[W1.heap.size]?=some (.cells [.int .u64 0, .int .u64 0, .slice none 0 0].toArray 37 (0,0)):=heap_alloc_new W1 _;have b12:(W1.alloc (.cells #[.int .u64 0, .int .u64 0, .slice none 0 0] 37)).heap[w.heap.size]?=_:=(Below.heap_alloc _ _ _ (by omega)).trans b1;have t2:Ak o1 W1.heap.size (1,2) W1.heap.size=(1,2):=Au _ _ _;have t12:Ak o1 W1.heap.size (1,2) w.heap.size=(1,1):=by rw [BI _ _ (by omega)];exact t1
 have z2:(W1.alloc (.cells #[.int .u64 0, .int .u64 0, .slice none 0 0] 37)).heap.size=w.heap.size+2:=by simp [z1]
 have hal:=ae (AB (P:=prog) W1 37 _ LX);obtain ⟨W2,hW2⟩:∃ W2,W1.alloc (.cells #[.int .u64 0, .int .u64 0, .slice none 0 0] 37)=W2:=⟨_,rfl⟩;rw [hW2] at hal s2 b2 b12 z2;rw [z1] at b2 t2 t12 s2 hal;generalize Ak o1 (w.heap.size+1) (1,2)=o2 at *;have hsl2:=hsl.step s2 id;have zX:=hln.step s2 id;have hcl:=Xu hsl2 (by rw [hln.1];omega) hone (by omega);have xG:=ae hcl;have vW:=ae zX;have AbT:=ae hbl;rw [<-hW1] at hal;obtain ⟨n,hn0⟩:∃ n,ls.length=n:=⟨_,rfl⟩;have uA:=ae hn0;rw [hn0] at xG hn hal b12 ⊢;have hni:(0:Int)<=(n:Int)/\(n:Int)<=100000:=by omega
 have c2:W2.cell? ⟨w.heap.size,2,none⟩=some (.slice la n lc):=ag b12 2;clear hcl zX hbl hW1 hW2 b1 z1 t1 s1 hsl hln hsl2 hone hn0;go_enter func107,ntmps107
 go_wp2_with ((with_reducible apply AU);exact hal.out;simp only [Act.put,GL,DL,lss])
 refine xG.out.mono ?_;rintro e W3 ⟨v3,o3,rfl,s3,hown,rfl⟩;obtain ⟨kb,hkb⟩:∃ kb,w.heap.size=kb:=⟨_,rfl⟩;rw [hkb] at b12 b2 z2 t12 t2 ⊢;have s3:=s3.retag (1,0);have l12:=au b12;have l2:=au b2;have b3:=(s3.block kb l12 id).trans b12;have r3:=(s3.block (kb+1) l2 id).trans b2;have vo3:(Qi W2 o2 (1,0) (kb+1)).1=1:=by rw [s3.own (kb+1) l2,t2]
 have uo3:(Qi W2 o2 (1,0) kb).1=1:=by rw [s3.own kb l12,t12]
 have AbD:w.heap.size<=kb:=by omega
 obtain ⟨va,vc,rfl⟩:=BA hown;have hst:=s2.trans s3;have b4:=Ai (i:=2) (.slice va n vc) b3;simp only [DL,lss] at b4;have r4:(W3.setCell ⟨kb,2,none⟩ (.slice va n vc)).heap[kb+1]?=_:=(Below.heap_setCell _ _ _ _ (by show kb+1 ≠ kb;omega)).trans r3;have hset:=(aj.refl (ak 1) W3 (Qi W2 o2 (1,0))).setCell (a:=⟨kb,2,none⟩) (.slice va n vc) (.inl uo3);have pX:=hst.setCell (a:=⟨kb,2,none⟩) (.slice va n vc) (.inr AbD);have hfz:=Ap b3 2;have Aes:=(vW.out.step s3 id).step hset (fun h=>by change 0=1 at h;omega);have Abc:kb+2<=W2.heap.size:=by omega
 have hext:∀ k,W2.heap.size<=k->Qi W2 o2 (1,0) k=(1,0):=fun k hk=>VM hk;clear s2 s3 xG hal c2 r3 hset vW b12 b2 t12 t2 hst;obtain ⟨oc,hoc⟩:∃ oc,Qi W2 o2 (1,0)=oc:=⟨_,rfl⟩;rw [hoc] at pX Aes uo3 vo3 hext;clear hoc;have c3o:W3.cell? ⟨kb,2,none⟩=some (.slice la n lc):=ag b3 2;have c3:(W3.setCell ⟨kb,2,none⟩ (.slice va n vc)).cell? ⟨kb,2,none⟩=some (.slice va n vc):=ag b4 2;clear b3
 by_cases hn1:n=0
 ·subst hn1;have hfr:CV w.heap.size (.slice va 0 vc):=CV.own hown (by omega);go_wp2_with fail
  go_loopw [11] (fun i wr=>i = .int .i64 0/\wr=W3.setCell ⟨kb,2,none⟩ (.slice va 0 vc)) (fun _ _=>0)
  case atStart=>exact ⟨rfl,rfl⟩
  case round =>
   obtain ⟨rfl,rfl⟩:=hrel;have hkc:=b4;have hrc:=r4;have hst:=pX;generalize W3.setCell ⟨kb,2,none⟩ (.slice va 0 vc)=wr at *;have hld:=ae (OV (AV hkc));obtain ⟨hso,hsb⟩:=Ba (P:=prog) (ty:=37) (vs:=[.int .u64 pI, .int .u64 cI, .slice va 0 vc]) hrc rfl (by kernel_rfl) rfl;have Aaz:=ae hso;have AaM:=hst.setCells (kb+1) 0 [.int .u64 pI, .int .u64 cI, .slice va 0 vc] (.inr (by omega));have hLF:=ae (show Lines (wr.setCells (kb+1) 0 [.int .u64 pI, .int .u64 cI, .slice va 0 vc]) (ext w o) w.heap.size (.slice va 0 vc) ls from Lines.zero uA.out va vc rfl hfr);clear hso hkc hrc b4 r4 c3 c3o hfz hst pX Aes hown
   go_wp2_with (first
    | ((with_reducible apply Bo);exact hld.out;simp only [Act.put,GL,DL,lss])
    | ((with_reducible apply AC);exact Aaz.out;simp only [Act.put]))
   refine bodyPost_ret (results_cell_row rfl _ _ (kb+1) 37 _ (0,0) _ rfl hsb underlying37 rfl Ij) rfl ?_;exact ⟨_,ext w o,rfl,AaM.Me _ (fun k hk=>if_pos hk),_,rfl,hLF.out,rfl,fun h0=>by rw [uA.out] at h0;omega⟩
 ·obtain ⟨g,cap,cur,hv,hgb,hg,hnc,hcm,htk⟩:∃ g cap cur,Value.slice va n vc = .slice (some ⟨g,0,none⟩) n cap/\W2.heap.size<=g/\W3.heap[g]?=some (.cells (cur:List Value).toArray 41 (0,0))/\n<=cap/\cap<=maxLen/\cur.take (n*2)=cs:=by
   rcases hown.2 with ⟨_,h0⟩ | ⟨g,cap,cur,h1,q1,q2,q3,q4,q5,q6⟩
   ·exact absurd h0 hn1
   ·exact ⟨g,cap,cur.toList,h1,q1,by simpa using q2,q3,q4,q6⟩
  simp only [Value.slice.injEq,true_and] at hv;obtain ⟨rfl,rfl⟩:=hv;have hg4:(W3.setCell ⟨kb,2,none⟩ (.slice (some ⟨g,0,none⟩) n vc)).heap[g]?=_:=(Below.heap_setCell _ _ _ _ (by show g ≠ kb;omega)).trans hg;have hgt:(oc g).1=1:=by rw [hext g hgb]
  have xC:=Aes.half (base:=kb) uA.out htk;have hgk:kb+2<=g:=by omega
  clear hown Aes htk hg hext Abc;go_wp2_with fail
  go_loopw [11] (fun i wr=>∃ (k:Nat) (oj:Own) (cur:List Value),k<=n/\i = .int .i64 k/\wr.heap[kb]?=some (.cells [.int .u64 pI, .int .u64 cI, .slice (some ⟨g,0,none⟩) n vc].toArray 37 (0,0)) /\
    wr.heap[kb+1]?=some (.cells [.int .u64 0, .int .u64 0, .slice none 0 0].toArray 37 (0,0))/\wr.heap[g]?=some (.cells cur.toArray 41 (0,0))/\(oj kb).1=1/\(oj (kb+1)).1=1/\(oj g).1=1/\Half wr oj kb k cur ls/\aj ai w o wr oj) (fun i _=>n - (intOf i).toNat)
  case atStart=>exact ⟨0,oc,cur,by omega,rfl,b4,r4,hg4,uo3,vo3,hgt,xC,pX⟩
  case round =>
   clear b4 r4 hg4 uo3 vo3 hgt xC pX c3 c3o hfz;obtain ⟨k,oj,cur,hk,rfl,hkc,hrc,hgc,u1,u4,u2,xC,hst⟩:=hrel
   by_cases hlt:k<n
   ·obtain ⟨x,hx⟩:∃ x,ls[k]?=some x:=⟨_,List.getElem?_eq_getElem (by rw [uA.out];exact hlt)⟩;obtain ⟨-,bv,hbv,hby, -⟩:=xC.2 k x hx;have c2:wr.cell? ⟨kb,2,none⟩=some (.slice (some ⟨g,0,none⟩) n vc):=ag hkc 2;have cg:wr.cell? ⟨g,k*2+1,none⟩=some bv:=by rw [ag hgc,Nat.mul_comm];exact hbv
    have hS:=aI c2 cg;have hcl:=ae (fun (W:World) (O:Own) (hb:Bytes W O bv x.b)=>clone_any hb (AbT.out x (List.mem_of_getElem? hx)));have hxH:=ae hx;obtain ⟨ba,bc,rfl⟩:=Aq hby;clear hx hbv;go_wp2_with fail;refine Aa (fun w'=>w'.cell? ⟨kb,2,none⟩=some (.slice (some ⟨g,0,none⟩) n vc)/\w'.cell? ⟨g,k*2+1,none⟩=some (.slice ba x.b.length bc)) (fun i=>decide (i<12)) (by kernel_rfl) hS (fun hHeld => ?_);refine tq 0 (h:=tq 1 (h:=tq 2 (h:=tq 3 (h:=tq 4 (h:=tq 5 (h:=tq 6 (h:=tq 7 (h:=tq 8 (h:=tO 9 (h:=?_))))))))));go_wp2_with fail;have hdr:=(aj.refl ai wr oj).drew;refine (hcl.out _ _ (hby.step hdr id)).mono ?_;rintro e w5 ⟨v5,o5,rfl,hs5,hnb⟩;have hs5:=hdr.trans hs5;have lk:=au hkc;have lr:=au hrc;have lg:=au hgc;have xA:=(hs5.block kb lk id).trans hkc;have yT:=(hs5.block (kb+1) lr id).trans hrc;have xE:=(hs5.block g lg id).trans hgc;have u15:(o5 kb).1=1:=by rw [hs5.own kb lk];exact u1
    have u45:(o5 (kb+1)).1=1:=by rw [hs5.own (kb+1) lr];exact u4
    have u25:(o5 g).1=1:=by rw [hs5.own g lg];exact u2
    have hS5:=aI (ag (i:=2) xA) (show w5.cell? ⟨g,k*2+1,none⟩=some (.slice ba x.b.length bc) by rw [World.cell?_of_block (w:=wr) (a:=⟨g,k*2+1,none⟩) (hs5.block g lg id)];exact cg);have hfz:=Ap xE (k*2+1);have cg5:=hS5.2;have hset:=(aj.refl (ak 1) w5 o5).setCell (a:=⟨g,k*2+1,none⟩) v5 (.inl u25);have h01:¬ ak 1 0:=fun h=>by change 0=1 at h;omega
    have hh6:=((xC.step hs5 id).step hset h01).set hxH.out (hnb.bytes.step hset h01) (hnb.fresh.low (show kb<=wr.heap.size by omega)) (hnb.loose.step hnb.bytes hset h01);have hg6:=Ai (i:=2*k+1) v5 xE;have hk6:(w5.setCell ⟨g,2*k+1,none⟩ v5).heap[kb]?=_:=(Below.heap_setCell _ _ _ _ (by show kb ≠ g;omega)).trans xA;have hr6:(w5.setCell ⟨g,2*k+1,none⟩ v5).heap[kb+1]?=_:=(Below.heap_setCell _ _ _ _ (by show kb+1 ≠ g;omega)).trans yT;have pW:=(hst.trans hs5).setCell (a:=⟨g,k*2+1,none⟩) v5 (.inr (by show w.heap.size<=g;omega));rw [Nat.mul_comm 2 k] at hg6 hk6 hr6 hh6;have hF:=ae (aI hk6 (aI hr6 (aI hg6 (aI hh6 pW))));obtain ⟨na,nc,rfl⟩:=Aq hnb.bytes;clear hset hh6 hg6 hk6 hr6 pW hnb hdr hs5 xA yT xE hby hcl hHeld;go_wp2_with fail;refine ⟨fun _=>hS5, ?_⟩;refine tO 10 (h:=?_);go_wp2_with fail;refine ⟨fun _=>hS5, ?_⟩;refine tq 11 (h:=tO 12 (h:=?_));go_wp2_with fail;refine ⟨fun h=>by simp at h, ?_⟩;refine tD (h:=?_);clear hS5 hS c2 cg cg5 hfz;go_wp2_with fail;go_roundw
    case rel=>exact ⟨k+1,o5,_,by omega,by go_num,hF.out.1,hF.out.2.1,hF.out.2.2.1,u15,u45,u25,hF.out.2.2.2.1,hF.out.2.2.2.2⟩
    case measure=>simp [intOf];omega
   ·obtain rfl:n=k:=by omega
    have hLn:=uA.out;have Aad:∀ k,kb<=k->(ext w o k).1=0:=fun k hk=>by unfold ext;rw [if_neg (by omega)]
    have hset:=(aj.refl (ak 1) wr oj).setCells (kb+1) 0 [.int .u64 pI, .int .u64 cI, .slice (some ⟨g,0,none⟩) n vc] (.inl u4);have hgF:(wr.setCells (kb+1) 0 [.int .u64 pI, .int .u64 cI, .slice (some ⟨g,0,none⟩) n vc]).heap[g]?=_:=(ah (kb+1) _ 0 wr g (by omega)).trans hgc;have hhF:=xC.step hset (fun h=>by change 0=1 at h;omega);have hld:=ae (OV (AV hkc));obtain ⟨hso,hsb⟩:=Ba (P:=prog) (ty:=37) (vs:=[.int .u64 pI, .int .u64 cI, .slice (some ⟨g,0,none⟩) n vc]) hrc rfl (by kernel_rfl) rfl;have Aaz:=ae hso;have hZF:=ae (show Jz (wr.setCells (kb+1) 0 [.int .u64 pI, .int .u64 cI, .slice (some ⟨g,0,none⟩) n vc]) w.heap.size (.slice (some ⟨g,0,none⟩) n vc) ls from fun _=>⟨g,vc,cur,by rw [hLn],by omega,hgF,fun i x hx=>by
     obtain ⟨_,bv,q1,_,q2⟩:=hhF.2 i x hx;have hi:=(List.getElem?_eq_some_iff.1 hx).1;have q3:=q2 (by omega);exact ⟨bv,q1,q3.2,q3.1.low (by omega)⟩⟩)
    have AaM:=hst.setCells (kb+1) 0 [.int .u64 pI, .int .u64 cI, .slice (some ⟨g,0,none⟩) n vc] (.inr (by omega));have hLF:=ae (show Lines (wr.setCells (kb+1) 0 [.int .u64 pI, .int .u64 cI, .slice (some ⟨g,0,none⟩) n vc]) (ext w o) w.heap.size (.slice (some ⟨g,0,none⟩) n vc) ls from by
     rw [hkb];have hq:=(show Half _ oj kb ls.length cur ls from by rw [hLn];exact hhF).lines hgF (by omega) (by omega) hcm Aad;rw [hLn] at hq;exact hq)
    clear hso hkc hrc hst hgc xC hset hgF hhF
    go_wp2_with (first
     | ((with_reducible apply Bo);exact hld.out;simp only [Act.put,GL,DL,lss])
     | ((with_reducible apply AC);exact Aaz.out;simp only [Act.put]))
    refine bodyPost_ret (results_cell_row rfl _ _ (kb+1) 37 _ (0,0) _ rfl hsb underlying37 rfl Ij) rfl ?_;exact ⟨_,ext w o,rfl,AaM.Me _ (fun k hk=>if_pos hk),_,rfl,hLF.out,rfl,hZF.out⟩
theorem Tj {w:World} {o:Own} {base:Nat} {p c:BitVec 64} {lv:Value} {ls:List Ar} (h:Lines w o base lv ls) (hn:ls.length<=100000) (hbl:∀ x ∈ ls,x.b.length<=4000000) :
  Calls prog 107 #[Dy p c lv] w (XL ai w o fun v w' o'=>∃ vS,v=Dy p c vS/\Lines w' o' w.heap.size vS ls/\o'=ext w o):=by
 refine (UY h hn hbl).mono ?_;rintro e w' ⟨v,o',rfl,hs,vS,h1,h2,h3, -⟩;exact ⟨v,o',rfl,hs,vS,h1,h2,h3⟩
def IY (age p c:BitVec 64) (ls:List Ar):List UInt8:=1 :: (be 8 age++(be 8 p++(be 8 c++GR ls)))
theorem AjQ {w:World} {o:Own} {base:Nat} {p c:BitVec 64} {lv:Value} {ls:List Ar} (h:Lines w o base lv ls) (hn:ls.length<=100000) (hbl:(encs ls).length<=1300000) (age:BitVec 64) :
  Calls prog 182 #[Dy p c lv, .int .u64 (age.toNat:Int)] w (XL ai w o fun v w' o'=>Ew w w' o' v (IY age p c ls)):=by
 unfold Dy;have s1:=(aj.refl ai w o).alloc (.cells #[.int .u64 (p.toNat:Int), .int .u64 (c.toNat:Int),lv] 37) (0,0);have b1:(w.alloc (.cells #[.int .u64 (p.toNat:Int), .int .u64 (c.toNat:Int),lv] 37)).heap[w.heap.size]?=some (.cells [.int .u64 (p.toNat:Int), .int .u64 (c.toNat:Int),lv].toArray 37 (0,0)):=heap_alloc_new w _;have hl1:=h.step s1 id;obtain ⟨la,lc,rfl⟩:=h.form;obtain ⟨W1,hW1⟩:∃ W1,w.alloc (.cells #[.int .u64 (p.toNat:Int), .int .u64 (c.toNat:Int), .slice la ls.length lc] 37)=W1:=⟨_,rfl⟩;rw [hW1] at s1 b1 hl1;generalize Ak o w.heap.size (0,0)=o1 at *;have c0:=ag b1 0;have c1:=ag b1 1;have c2:=ag b1 2;simp only [ay,ax] at c0 c1 c2;have uM:=ae hW1;have hlH:=ae hl1;have xZ:=ae b1;have hnH:=ae (aI hn hbl);have hst:=s1;clear hW1 h hl1 b1 hn hbl s1;have qH:=ae hst;go_enter func182,ntmps182;go_wp2_with fail;rw [uM.out];refine Aa (fun w'=>w'.cell? ⟨w.heap.size,0,none⟩=some (.int .u64 (p.toNat:Int))/\w'.cell? ⟨w.heap.size,1,none⟩=some (.int .u64 (c.toNat:Int))/\w'.cell? ⟨w.heap.size,2,none⟩=some (.slice la ls.length lc)) (fun _=>true) (by kernel_rfl) ⟨c0,c1,c2⟩ (fun hHeld => ?_);refine tq 1 (h:=tq 3 (h:=tq 4 (h:=tq 6 (h:=tq 7 (h:=tq 9 (h:=tq 10 (h:=tO 0 (h:=?_))))))));go_wp2_with fail;refine (IG (Bytes.nil _ o1) (by simp) 1).mono ?_;rintro e wa ⟨va,oa,rfl,hsa,zL⟩;have hsa:aj ai W1 o1 wa oa:=(aj.refl ai W1 o1).drew.trans hsa;have hba:=(hsa.block _ (au xZ.out) id).trans xZ.out;have hSa:=aI (ag (i:=0) hba) (aI (ag (i:=1) hba) (ag (i:=2) hba));have hst:=hst.trans hsa;go_wp2_with fail;refine ⟨fun _=>hSa, ?_⟩;refine tO 2 (h:=?_);go_wp2_with fail;refine (Ef zL.bytes (by simp) age).mono ?_;rintro e wb ⟨vb,ob,rfl,hsb,zK⟩;have hsb:aj ai wa oa wb ob:=hsb;have hbb:=(hsb.block _ (au hba) id).trans hba;have hSb:=aI (ag (i:=0) hbb) (aI (ag (i:=1) hbb) (ag (i:=2) hbb));have hst:=hst.trans hsb;go_wp2_with fail;refine ⟨fun _=>hSb, ?_⟩;refine tO 5 (h:=?_);go_wp2_with fail;refine (Ef zK.bytes (by simp [Az]) p).mono ?_;rintro e wc ⟨vc,oc,rfl,hsc,zJ⟩;have hsc:aj ai wb ob wc oc:=hsc;have hbc:=(hsc.block _ (au hbb) id).trans hbb;have hSc:=aI (ag (i:=0) hbc) (aI (ag (i:=1) hbc) (ag (i:=2) hbc));have hst:=hst.trans hsc;go_wp2_with fail;refine ⟨fun _=>hSc, ?_⟩;refine tO 8 (h:=?_);go_wp2_with fail;refine (Ef zJ.bytes (by simp [Az]) c).mono ?_;rintro e wd ⟨vd,od,rfl,hsd,zI⟩;have hsd:aj ai wc oc wd od:=hsd;have hbd:=(hsd.block _ (au hbc) id).trans hbc;have hSd:=aI (ag (i:=0) hbd) (aI (ag (i:=1) hbd) (ag (i:=2) hbd));have hst:=hst.trans hsd;go_wp2_with fail;refine ⟨fun _=>hSd, ?_⟩;refine tO 11 (h:=?_);go_wp2_with fail;refine (Lm zI.bytes (((((hlH.out.step hsa id).step hsb id).step hsc id)).step hsd id) (by simp [Az];have:=hnH.out;omega) hnH.out.1).mono ?_;rintro e wf ⟨vf,of,rfl,hsf,zH⟩;have hsf:aj ai wd od wf of:=hsf;have hbf:=(hsf.block _ (au hbd) id).trans hbd;have hSf:=aI (ag (i:=0) hbf) (aI (ag (i:=1) hbf) (ag (i:=2) hbf));have hst:=hst.trans hsf;go_wp2_with fail;refine ⟨fun _=>hSf, ?_⟩;refine tq 12 (h:=tD (h:=?_));have hnf:=(zH.low (w:=w) (by have:=(((qH.out.trans hsa).trans hsb).trans hsc).trans hsd;exact this.size)).congr (l':=IY age p c ls) (by simp [IY]);clear zH zI zJ zK zL;go_wp2_with fail;go_ret;exact ⟨_,_,rfl,hst,hnf⟩
def Iu (pr:Ar->Bool) (ls:List Ar):Int:=match ls.findIdx? pr with
 | some i=>(i:Int)
 | none => -1
theorem TT {pr:Ar->Bool} {ls:List Ar} {k:Nat} {x:Ar} (hx:ls[k]?=some x) (hp:pr x=true) (hno:∀ j y,j<k->ls[j]?=some y->pr y=false):Iu pr ls=(k:Int):=by
 have hk:=(List.getElem?_eq_some_iff.1 hx).1;have:ls.findIdx? pr=some k:=by
  rw [List.findIdx?_eq_some_iff_getElem];refine ⟨hk, ?_,fun j hj => ?_⟩
  ·rw [(List.getElem?_eq_some_iff.1 hx).2];exact hp
  ·rw [hno j _ hj (List.getElem?_eq_getElem (by omega))];simp
 unfold Iu;rw [this]
theorem TU {pr:Ar->Bool} {ls:List Ar} (hno:∀ j y,j<ls.length->ls[j]?=some y->pr y=false):Iu pr ls = -1:=by
 have:ls.findIdx? pr=none:=by
  rw [List.findIdx?_eq_none_iff];intro x hx;obtain ⟨j,hj⟩:=List.mem_iff_getElem?.1 hx;exact hno j x (List.getElem?_eq_some_iff.1 hj).1 hj
 unfold Iu;rw [this]
theorem VL (pr:Ar->Bool) (ls:List Ar):decide (Iu pr ls ≥ 0)=ls.any pr:=by
 unfold Iu;cases h:ls.findIdx? pr with
 | none =>
  rw [List.findIdx?_eq_none_iff] at h;have:ls.any pr=false:=by rw [List.any_eq_false];intro x hx;simp [h x hx]
  rw [this];rfl
 | some i =>
  rw [List.findIdx?_eq_some_iff_getElem] at h;obtain ⟨hi,hp, -⟩:=h;have:ls.any pr=true:=List.any_eq_true.2 ⟨_,List.getElem_mem hi,hp⟩;rw [this];simp
def Says (w:World) (o:Own) (fid:Nat) (cp:Array Value) (ls:List Ar) (pr:Ar->Bool):Prop:=
 ∀ w1 o1,aj ai w o w1 o1->∀ x bv,x ∈ ls->Bytes w1 o1 bv x.b->Calls prog fid (#[.agg #[.int .u64 (x.e.toNat:Int),bv]]++cp) w1 (XL ai w1 o1 fun v _ _=>v = .bool (pr x))
theorem Xi {w:World} {o:Own} {base:Nat} {lv:Value} {ls:List Ar} (h:Lines w o base lv ls) (hn:ls.length<=100000) (fid:Nat) (cp:Array Value) (pr:Ar->Bool)
  (hcall:∀ (args:Array Value) (x:World),(callFunc fid args).run prog x = .ok (.enter fid args) x) (hs:Says w o fid cp ls pr) :
  Calls prog 178 #[lv, .func (.func fid) #[] cp] w (XL ai w o fun v _ _=>v = .int .i64 (Iu pr ls)):=by
 obtain ⟨la,lc,rfl⟩:=h.form;obtain ⟨N,hN⟩:∃ N,ls.length=N:=⟨_,rfl⟩;rw [hN] at h hn ⊢;have hlH:=ae h;have hNH:=ae hN;have hsH:=ae hs;have WV:=ae hcall;have hNi:(0:Int)<=(N:Int)/\(N:Int)<=100000:=by omega
 clear h hN hs hcall;go_enter func178,ntmps178;go_wp2_with fail
 go_loopw [8] (fun i wr=>∃ (k:Nat) (oj:Own),k<=N/\i = .int .i64 k/\aj ai w o wr oj/\Hid (∀ j y,j<k->ls[j]?=some y->pr y=false)) (fun i _=>N - (intOf i).toNat)
 case atStart=>exact ⟨0,o,by omega,rfl,aj.refl _ _ _,ae (fun j y hj=>by omega)⟩
 case round =>
  obtain ⟨k,oj,hk,rfl,hst,hno⟩:=hrel
  by_cases hlt:k<N
  ·obtain ⟨x,hx⟩:∃ x,ls[k]?=some x:=⟨_,List.getElem?_eq_getElem (by rw [hNH.out];exact hlt)⟩;obtain ⟨b,off,bv,hab,hrg,hby, -, -, -⟩:=(hlH.out.step hst id).at hx;subst hab;have hld:=ae (TG hrg);have hf:=hsH.out wr oj hst x bv (List.mem_of_getElem? hx) hby;have hck:=WV.out;have xY:=ae hf;have hxH:=ae hx;clear hrg hby hf hx
   go_wp2_with ((with_reducible apply Bo);exact hld.out;simp only [Act.put,GL,DL,lss])
   refine xY.out.mono ?_;rintro e w1 ⟨v1,o1,rfl,hs1,rfl⟩;have hst:=hst.trans hs1;clear hs1 xY hld hck
   cases hp:pr x with
   | true =>
    have hfx:=TT hxH.out hp hno.out;go_wp2_with fail;go_ret;exact ⟨_,o1,rfl,hst,by rw [hfx];rfl⟩
   | false =>
    have Azh:Hid (∀ j y,j<k+1->ls[j]?=some y->pr y=false):=ae fun j y hj hy=>by
     by_cases hjk:j=k
     ·subst hjk;rw [hxH.out] at hy;cases hy;exact hp
     ·exact hno.out j y (by omega) hy
    clear hp;go_wp2_with fail;go_roundw
    case rel=>exact ⟨k+1,o1,by omega,by go_num,hst,Azh⟩
    case measure=>simp [intOf];omega
  ·obtain rfl:N=k:=by omega
   have hfx:=ae (TU (pr:=pr) (ls:=ls) (fun j y hj hy=>hno.out j y (by rw [<-hNH.out];exact hj) hy));go_wp2_with fail;go_ret;exact ⟨_,oj,rfl,hst,by rw [hfx.out];rfl⟩
theorem Jt {w:World} {o:Own} {base:Nat} {lv:Value} {ls:List Ar} (h:Lines w o base lv ls) (hn:ls.length<=100000) (fid:Nat) (cp:Array Value) (pr:Ar->Bool)
  (hcall:∀ (args:Array Value) (x:World),(callFunc fid args).run prog x = .ok (.enter fid args) x) (hs:Says w o fid cp ls pr) :
  Calls prog 129 #[lv, .func (.func fid) #[] cp] w (XL ai w o fun v _ _=>v = .bool (ls.any pr)):=by
 have hix:=ae (Xi h hn fid cp pr hcall hs);have ha:=VL pr ls;obtain ⟨I,hI⟩:∃ I,Iu pr ls=I:=⟨_,rfl⟩;rw [hI] at hix ha;have haH:=ae ha;clear h hcall hs hI ha;go_enter func129,ntmps129;go_wp2_with fail;refine hix.out.mono ?_;rintro e w1 ⟨v1,o1,rfl,hs1,rfl⟩;go_wp2_with fail;go_ret;exact ⟨_,o1,rfl,hs1,by rw [<-haH.out];rfl⟩
def badL (top:BitVec 64) (x:Ar):Bool:=decide (x.e.toNat<1) || decide (top.toNat<x.e.toNat) || decide (x.b.length<1) || decide (4096<x.b.length)
theorem YZ {w:World} {o:Own} (top:BitVec 64) (tb:Nat) (ht:Box w o tb 34 (.int .u64 (top.toNat:Int))) (x:Ar) (bv:Value) (hb:Bytes w o bv x.b) :
  Calls prog 177 #[.agg #[.int .u64 (x.e.toNat:Int),bv], .pointer (some ⟨tb,0,none⟩)] w (XL ai w o fun v _ _=>v = .bool (badL top x)):=by
 obtain ⟨ba,bc,rfl⟩:=Aq hb;have s1:=(aj.refl ai w o).alloc (.cells #[.int .u64 (x.e.toNat:Int), .slice ba x.b.length bc] 41) (0,0);have ct:=(ht.step s1 id).cell;have b1:(w.alloc (.cells #[.int .u64 (x.e.toNat:Int), .slice ba x.b.length bc] 41)).heap[w.heap.size]?=some (.cells [.int .u64 (x.e.toNat:Int), .slice ba x.b.length bc].toArray 41 (0,0)):=heap_alloc_new w _;have c0:=ag b1 0;have c1:=ag b1 1;simp only [ay,ax] at c0 c1;have hsH:=ae s1;have hu:badL top x=(decide (x.e.toNat<1) || decide (top.toNat<x.e.toNat) || decide (x.b.length<1) || decide (4096<x.b.length)):=rfl;have huH:=ae hu;have he:=x.e.isLt;have ht2:=top.isLt;generalize x.b.length=bl at *;generalize x.e.toNat=xe at *;generalize top.toNat=te at *;clear s1 b1 hb ht hu
 by_cases h1:xe<1
 ·have h1I:(xe:Int)<1:=by omega
  go_enter func177,ntmps177;go_wp2_with fail;go_ret;exact ⟨_,_,rfl,hsH.out,by rw [huH.out];simp [h1]⟩
 ·have h1I:¬ (xe:Int)<1:=by omega
  by_cases h2:te<xe
  ·have h2I:(te:Int)<(xe:Int):=by omega
   go_enter func177,ntmps177;go_wp2_with fail;go_ret;exact ⟨_,_,rfl,hsH.out,by rw [huH.out];simp [h1,h2]⟩
  ·have h2I:¬ (te:Int)<(xe:Int):=by omega
   by_cases h3:bl<1
   ·have h3I:(bl:Int)<1:=by omega
    go_enter func177,ntmps177;go_wp2_with fail;go_ret;exact ⟨_,_,rfl,hsH.out,by rw [huH.out];simp [h1,h2,h3]⟩
   ·have h3I:¬ (bl:Int)<1:=by omega
    go_enter func177,ntmps177;go_wp2_with fail;go_ret;exact ⟨_,_,rfl,hsH.out,by
     rw [huH.out]
     by_cases h4:4096<bl
     ·have h4I:(4096:Int)<(bl:Int):=by omega
      simp [h1,h2,h3,h4,h4I]
     ·have h4I:¬ (4096:Int)<(bl:Int):=by omega
      simp [h1,h2,h3,h4,h4I]⟩
theorem VG {w:World} {o:Own} {base:Nat} {lv:Value} {ls:List Ar} (h:Lines w o base lv ls) (hn:ls.length<=100000) (top:BitVec 64) :
  Calls prog 128 #[lv, .int .u64 (top.toNat:Int)] w (XL ai w o fun v _ _=>v = .bool (!ls.any (badL top))):=by
 have s1:=(aj.refl ai w o).alloc (.cells #[.int .u64 (top.toNat:Int)] 34) (0,0);have hb:=Box.new w o 34 (.int .u64 (top.toNat:Int));have hc:=Jt (h.step s1 id) hn 177 #[.pointer (some ⟨w.heap.size,0,none⟩)] (badL top) Tryz.call177 (fun w1 o1 st x bv _ hby=>YZ top w.heap.size (hb.step st id) x bv hby);obtain ⟨la,lc,rfl⟩:=h.form;have hmf:∀ (fn:Fn) (first cap:Array Value) (w:World),(Instr.makeFunc fn first cap).run prog w = .ok (.func fn first cap) w:=fun _ _ _ _=>rfl
 have WV:=ae hc;clear hc hb h;have hsH:=ae s1;clear s1;go_enter func128,ntmps128;go_wp2_with fail;refine WV.out.mono ?_;rintro e w1 ⟨v1,o1,rfl,hs1,rfl⟩;go_wp2_with fail;go_ret;exact ⟨_,o1,rfl,hsH.out.trans hs1,rfl⟩
structure AX where
 promised:BitVec 64
 current:BitVec 64
 lines:List Ar
structure AZ where
 cur:Ad
 Us:Ad
 d:Af
 pages:Nat
 age:BitVec 64
 kept:AX
 dead:Bool
def qG (S A B D:Nat):Nat->Prop:=fun t=>t=S \/ t=A \/ t=B \/ t=D
def storeCells (pd:Nat) (x1 x2:Value) (pages k:Nat) (age p c:BitVec 64) (kv:Value) (dead:Bool):List Value:=
 [.pointer (some ⟨pd,0,none⟩),x1,x2, .int .i64 (pages:Int), .int .i64 (k:Int), .int .u64 (age.toNat:Int), .int .u64 (p.toNat:Int), .int .u64 (c.toNat:Int),kv, .bool dead]
def DF (w:World) (o:Own) (S ps pd pa pb k:Nat) (kv:Value) (s:AZ):Prop:=
 ∃ x1 x2,w.heap[ps]?=some (.cells (storeCells pd x1 x2 s.pages k s.age s.kept.promised s.kept.current kv s.dead).toArray 165 (0,0)) /\
  ((k=0/\x1 = .pointer (some ⟨pa,0,none⟩)/\x2 = .pointer (some ⟨pb,0,none⟩)) \/ (k=1/\x1 = .pointer (some ⟨pb,0,none⟩)/\x2 = .pointer (some ⟨pa,0,none⟩)))/\o ps=(S,0)
def Bi (w:World) (o:Own) (S A B D ps pd base:Nat) (s:AZ):Prop:=
 ∃ X Y pa pb k kv,((X=A/\Y=B) \/ (X=B/\Y=A))/\DF w o S ps pd pa pb k kv s/\Lines w o base kv s.kept.lines/\BZ w o X pa pd s.cur/\BZ w o Y pb pd s.Us/\Bg w o D pd s.d
theorem DF.step {T:Nat->Prop} {w w':World} {o o':Own} {S ps pd pa pb k:Nat} {kv:Value} {s:AZ} (h:DF w o S ps pd pa pb k kv s) (st:aj T w o w' o') (hS:¬ T S):DF w' o' S ps pd pa pb k kv s:=by
 obtain ⟨x1,x2,h1,h2,h3⟩:=h;have hl:=au h1;exact ⟨x1,x2,by rw [st.block ps hl (by rw [h3];exact hS)];exact h1,h2,by rw [st.own ps hl];exact h3⟩
theorem Bi.step {T:Nat->Prop} {w w':World} {o o':Own} {S A B D ps pd base:Nat} {s:AZ} (h:Bi w o S A B D ps pd base s) (st:aj T w o w' o') (hT:∀ t,T t->t ≠ 0/\¬ qG S A B D t):Bi w' o' S A B D ps pd base s:=by
 obtain ⟨X,Y,pa,pb,k,kv,hp,hb,hl,ha,hbb,hd⟩:=h;have h0:¬ T 0:=fun h=>(hT 0 h).1 rfl;have hS:¬ T S:=fun h=>(hT S h).2 (.inl rfl);have hA:¬ T A:=fun h=>(hT A h).2 (.inr (.inl rfl));have hB:¬ T B:=fun h=>(hT B h).2 (.inr (.inr (.inl rfl)));have hD:¬ T D:=fun h=>(hT D h).2 (.inr (.inr (.inr rfl)));refine ⟨X,Y,pa,pb,k,kv,hp,hb.step st hS,hl.step st h0, ?_, ?_,hd.step st hD⟩
 ·rcases hp with ⟨rfl,rfl⟩ | ⟨rfl,rfl⟩
  ·exact ha.step st hA h0
  ·exact ha.step st hB h0
 ·rcases hp with ⟨rfl,rfl⟩ | ⟨rfl,rfl⟩
  ·exact hbb.step st hB h0
  ·exact hbb.step st hA h0
theorem Bi.step0 {w w':World} {o o':Own} {S A B D ps pd base:Nat} {s:AZ} (h:Bi w o S A B D ps pd base s) (st:aj ai w o w' o'):Bi w' o' S A B D ps pd base s:=h.step st fun _ h=>h.elim
theorem Bi.low {w:World} {o:Own} {S A B D ps pd base b:Nat} {s:AZ} (h:Bi w o S A B D ps pd base s) (hb:b<=base):Bi w o S A B D ps pd b s:=by
 obtain ⟨X,Y,pa,pb,k,kv,hp,hx,hl,ha,hbb,hd⟩:=h;exact ⟨X,Y,pa,pb,k,kv,hp,hx,hl.low hb,ha,hbb,hd⟩
theorem DF.cells {w:World} {o:Own} {S ps pd pa pb k:Nat} {kv:Value} {s:AZ} (h:DF w o S ps pd pa pb k kv s) :
  (w.cell? ⟨ps,0,none⟩=some (.pointer (some ⟨pd,0,none⟩))/\w.cell? ⟨ps,3,none⟩=some (.int .i64 (s.pages:Int))/\w.cell? ⟨ps,4,none⟩=some (.int .i64 (k:Int))/\w.cell? ⟨ps,5,none⟩=some (.int .u64 (s.age.toNat:Int)) /\
   w.cell? ⟨ps,6,none⟩=some (.int .u64 (s.kept.promised.toNat:Int))/\w.cell? ⟨ps,7,none⟩=some (.int .u64 (s.kept.current.toNat:Int))/\w.cell? ⟨ps,8,none⟩=some kv/\w.cell? ⟨ps,9,none⟩=some (.bool s.dead)) /\
  (w.cell? ⟨ps,1+k,none⟩=some (.pointer (some ⟨pa,0,none⟩))/\w.cell? ⟨ps,1+(1 - k),none⟩=some (.pointer (some ⟨pb,0,none⟩)))/\(∀ i,w.frozen? ⟨ps,i,none⟩=false)/\k<=1/\ps<w.heap.size/\(o ps).1=S /\
  w.rangeAt ps 6 [.int .u64 (s.kept.promised.toNat:Int), .int .u64 (s.kept.current.toNat:Int),kv]:=by
 obtain ⟨x1,x2,h1,h2,h3⟩:=h;have c:=ag h1;refine ⟨⟨c 0,c 3,c 4,c 5,c 6,c 7,c 8,c 9⟩, ?_,fun i=>Ap h1 i, ?_,au h1,by rw [h3],fun j v hj => ?_⟩
 ·rcases h2 with ⟨rfl,rfl,rfl⟩ | ⟨rfl,rfl,rfl⟩
  ·exact ⟨c 1,c 2⟩
  ·exact ⟨c 2,c 1⟩
 ·rcases h2 with ⟨rfl, -⟩ | ⟨rfl, -⟩ <;> omega
 ·match j with
  | 0=>simp only [ay,Option.some.injEq] at hj;subst hj;exact c 6
  | 1=>simp only [ax,ay,Option.some.injEq] at hj;subst hj;exact c 7
  | 2=>simp only [ax,ay,Option.some.injEq] at hj;subst hj;exact c 8
  | j+3=>simp at hj
theorem KH {w:World} {o:Own} {S A B D ps pd base:Nat} {s:AZ} (h:Bi w o S A B D ps pd base s) :
  Calls prog 94 #[.pointer (some ⟨ps,0,none⟩)] w fun e w'=>e = .returned (.bool (s.dead || s.d.dead))/\w=w':=by
 obtain ⟨X,Y,pa,pb,k,kv, -,hb, -, -, -,hd⟩:=h;obtain ⟨⟨c0, -, -, -, -, -, -,c9⟩, -⟩:=hb.cells;have hdd:=Ic hd;clear hb hd
 cases h9:s.dead with
 | true =>
  rw [h9] at c9;go_enter func94,ntmps94;go_wp2_with fail;go_ret;exact ⟨rfl,rfl⟩
 | false =>
  rw [h9] at c9;go_enter func94,ntmps94;go_wp2_with fail;refine hdd.mono ?_;rintro e w' ⟨rfl,rfl⟩;go_wp2_with fail;go_ret;exact ⟨rfl,rfl⟩
theorem IM {w:World} {b off:Nat} {p c:BitVec 64} {lv:Value} (hr:w.rangeAt b off [.int .u64 (p.toNat:Int), .int .u64 (c.toNat:Int),lv]):(Instr.loadAt 37 (.pointer (some ⟨b,off,none⟩))).run prog w = .ok (Dy p c lv) w:=OV hr
def small (ls:List Ar):Prop:=ls.length<=1000/\(encs ls).length<=1200000
theorem KG {ls:List Ar} (h:small ls):∀ x ∈ ls,x.b.length<=1200000:=by
 intro x hx;have h2:=h.2;obtain ⟨i,hi⟩:=List.mem_iff_getElem?.1 hx;have hle:=Hf ls (i+1);rw [List.take_add_one,hi] at hle;have e:encs (ls.take i++(some x).toList)=encs (ls.take i)++x.enc:=KU _ _;rw [e,List.length_append,Jj] at hle;omega
theorem WO {w:World} {o:Own} {S A B D ps pd base:Nat} {s:AZ} (h:Bi w o S A B D ps pd base s) (hsm:small s.kept.lines) :
  Calls prog 61 #[.pointer (some ⟨ps,0,none⟩)] w (XL ai w o fun v w' o'=>∃ lv,v=Dy s.kept.promised s.kept.current lv/\Lines w' o' w.heap.size lv s.kept.lines/\o'=ext w o/\Jz w' w.heap.size lv s.kept.lines):=by
 obtain ⟨X,Y,pa,pb,k,kv, -,hb,hl, -, -, -⟩:=h;obtain ⟨la,lc,rfl⟩:=hl.form;have s1:=(aj.refl ai w o).alloc (.cells #[.int .u64 0, .int .u64 0, .slice none 0 0] 37) (0,0);have b1:(w.alloc (.cells #[.int .u64 0, .int .u64 0, .slice none 0 0] 37)).heap[w.heap.size]?=some (.cells [.int .u64 0, .int .u64 0, .slice none 0 0].toArray 37 (0,0)):=heap_alloc_new w _;have hal:=ae (AB (P:=prog) w 37 _ LX);obtain ⟨W1,hW1⟩:∃ W1,w.alloc (.cells #[.int .u64 0, .int .u64 0, .slice none 0 0] 37)=W1:=⟨_,rfl⟩;rw [hW1] at hal s1 b1;generalize Ak o w.heap.size (0,0)=o1 at *;obtain ⟨-, -, -, -, -, -,hr⟩:=(hb.step s1 id).cells;have hld:=ae (IM hr);have hown:=ae (UY (p:=s.kept.promised) (c:=s.kept.current) (hl.step s1 id) (by have:=hsm.1;omega) (fun x hx=>by have:=KG hsm x hx;omega));have hz:w.heap.size<W1.heap.size:=au b1;have hst:=s1;clear hb hl hW1 hr s1;go_enter func61,ntmps61
 go_wp2_with (first
  | ((with_reducible apply Bo);exact hld.out;simp only [Act.put,GL,DL,lss])
  | ((with_reducible apply AU);exact hal.out;simp only [Act.put,GL,DL,lss]))
 refine hown.out.mono ?_;rintro e w2 ⟨v2,o2,rfl,hs2,lv,rfl,hl2,rfl,hz2⟩;have b2:=(hs2.block _ hz id).trans b1;have h1c:lv.oneCell'=true:=by obtain ⟨a,c,rfl⟩:=hl2.form;rfl
 obtain ⟨hso,hsb⟩:=Ba (P:=prog) (ty:=37) (vs:=[.int .u64 (s.kept.promised.toNat:Int), .int .u64 (s.kept.current.toNat:Int),lv]) b2 rfl (by kernel_rfl) (by obtain ⟨a,c,rfl⟩:=hl2.form;rfl);have Aaz:=ae hso;have hst2:=hst.trans hs2;have AaM:=hst2.setCells w.heap.size 0 [.int .u64 (s.kept.promised.toNat:Int), .int .u64 (s.kept.current.toNat:Int),lv] (.inr (Nat.le_refl _));have hq1:∀ k,w.heap.size<=k->(ext w o k).1=0:=fun k hk=>by unfold ext;rw [if_neg (by omega)]
 have hset:=(aj.refl (ak 1) w2 (fun k=>if k=w.heap.size then (1,0) else ext W1 o1 k)).setCells w.heap.size 0 [.int .u64 (s.kept.promised.toNat:Int), .int .u64 (s.kept.current.toNat:Int),lv] (.inl (by simp;rfl))
 have hlF:=ae (show Lines (w2.setCells w.heap.size 0 [.int .u64 (s.kept.promised.toNat:Int), .int .u64 (s.kept.current.toNat:Int),lv]) (ext w o) w.heap.size lv s.kept.lines from by
  obtain ⟨cs,k1,k2,k3,k4⟩:=hl2.low (show w.heap.size+1<=W1.heap.size by omega);refine ⟨cs, ?_,⟨k2.1,fun i x hx => ?_⟩,k3.low (by omega),fun u hu=>(k4 u hu).low (by omega)⟩
  ·rcases k1 with h | ⟨b,off,cap,rfl,y1,y2,y3,y4,y5⟩
   ·exact .inl h
   ·have hbk:=k3 b rfl;refine .inr ⟨b,off,cap,rfl,y1,y2,hq1 b (by omega),by rw [size_setCells];exact y4,Cf y5 (ah _ _ _ _ _ (by omega))⟩
  ·obtain ⟨m1,bv,m2,m3⟩:=k2.2 i x hx;refine ⟨m1,bv,m2, ?_⟩;have hbf:=k4 bv (List.mem_of_getElem? m2)
   rcases m3 with h | ⟨b,off,cap,rfl,y1,y2,y3,y4,y5⟩
   ·exact .inl h
   ·have hbk:=hbf b rfl;exact .inr ⟨b,off,cap,rfl,y1,y2,hq1 b (by omega),by rw [size_setCells];exact y4,Cf y5 (ah _ _ _ _ _ (by omega))⟩)
 have hzF:=ae ((hz2.setCells (off:=0) (vs:=[.int .u64 (s.kept.promised.toNat:Int), .int .u64 (s.kept.current.toNat:Int),lv]) hz).low (Nat.le_of_lt hz));clear hz2 hso b2 hl2 hs2 hst hst2 hset hal hld hown h1c hz b1
 go_wp2_with ((with_reducible apply AC);exact Aaz.out;simp only [Act.put])
 refine bodyPost_ret (results_cell_row rfl _ _ w.heap.size 37 _ (0,0) _ rfl hsb underlying37 rfl Ij) rfl ?_;exact ⟨_,ext w o,rfl,AaM.Me _ (fun k hk=>if_pos hk),_,rfl,hlF.out,rfl,hzF.out⟩
theorem DJ {w:World} {o:Own} {S A B D ps pd base:Nat} {s:AZ} (h:Bi w o S A B D ps pd base s) (hsm:small s.kept.lines) :
  Calls prog 61 #[.pointer (some ⟨ps,0,none⟩)] w (XL ai w o fun v w' o'=>∃ lv,v=Dy s.kept.promised s.kept.current lv/\Lines w' o' w.heap.size lv s.kept.lines/\o'=ext w o):=by
 refine (WO h hsm).mono ?_;rintro e w' ⟨v,o',rfl,hs,lv,h1,h2,h3, -⟩;exact ⟨v,o',rfl,hs,lv,h1,h2,h3⟩
theorem TD {w:World} {o:Own} {S A B D ps pd base:Nat} {s:AZ} (h:Bi w o S A B D ps pd base s) (fid:Nat) (cp:Array Value) (r:Bool)
  (hcall:∀ (args:Array Value) (x:World),(callFunc fid args).run prog x = .ok (.enter fid args) x) (hf:Calls prog fid cp w (XL ai w o fun v _ _=>v = .bool r)) :
  Calls prog 125 #[.pointer (some ⟨ps,0,none⟩), .func (.func fid) #[] cp] w (XL ai w o fun v _ _=>v = .int .i64 (if s.dead || s.d.dead then 9 else if r then 0 else 1)):=by
 have hd:=ae (KH h);have hck:=hcall;have xY:=ae hf;clear h hcall hf
 cases hdd:(s.dead || s.d.dead) with
 | true =>
  rw [hdd] at hd;go_enter func125,ntmps125;go_wp2_with fail;refine hd.out.mono ?_;rintro e w' ⟨rfl,rfl⟩;go_wp2_with fail;go_ret;exact ⟨_,o,rfl,aj.refl _ _ _,rfl⟩
 | false =>
  rw [hdd] at hd;clear hdd;go_enter func125,ntmps125;go_wp2_with fail;refine hd.out.mono ?_;rintro e w' ⟨rfl,rfl⟩;go_wp2_with fail;have hf2:=xY.out;refine hf2.mono ?_;rintro e w1 ⟨v1,o1,rfl,hs1,rfl⟩;clear hf2 xY hck
  cases r with
  | true =>
   go_wp2_with fail;go_ret;exact ⟨_,o1,rfl,hs1,rfl⟩
  | false =>
   go_wp2_with fail;go_ret;exact ⟨_,o1,rfl,hs1,rfl⟩
def AX.EK (k:AX) (e:BitVec 64):Bool:=decide (k.promised.toNat<e.toNat) && decide (e.toNat<=281474976710656)
def AX.Gg (k:AX) (e:BitVec 64) (ls:List Ar):Bool:=
 decide (k.promised.toNat<=e.toNat) && decide (k.current.toNat<e.toNat) && decide (e.toNat<=281474976710656) && decide (ls.length<=256) && !ls.any (badL e)
def Ho:BitVec 64:=281474976710656#64
def AX.Eu (k:AX) (ls:List Ar):Bool:=
 decide (0<ls.length) && decide (ls.length+k.lines.length<=256) && !ls.any (badL Ho) && !ls.any fun x => !(x.e == k.current)
section
variable {w:World} {o:Own} {S A B D ps pd base:Nat} {s:AZ}
theorem Tf (h:Bi w o S A B D ps pd base s) (e:BitVec 64) (eb sb:Nat) (he:Box w o eb 34 (.int .u64 (e.toNat:Int))) (hs:Box w o sb 92 (.pointer (some ⟨ps,0,none⟩))) :
  Calls prog 193 #[.pointer (some ⟨eb,0,none⟩), .pointer (some ⟨sb,0,none⟩)] w (XL ai w o fun v _ _=>v = .bool (s.kept.EK e)):=by
 obtain ⟨X,Y,pa,pb,k,kv, -,hb, -, -, -, -⟩:=h;obtain ⟨⟨-, -, -, -,c6, -, -, -⟩, -⟩:=hb.cells;have ce:=he.cell;have cs:=hs.cell;unfold AX.EK;have hst:=ae (aj.refl ai w o).drew;have hS:=ae (aI ce (aI cs c6));generalize s.kept.promised.toNat=P at *;generalize e.toNat=E at *;clear hb he hs ce cs c6
 by_cases h1:P<E
 ·have h1I:(P:Int)<(E:Int):=by omega
  obtain ⟨r,hr⟩:∃ r,decide (E<=281474976710656)=r:=⟨_,rfl⟩;have hrI:decide ((E:Int)<=281474976710656)=r:=by rw [<-hr];apply decide_eq_decide.2;omega
  have tN:=ae hrI;have hfin:=ae (show (decide (P<E) && decide (E<=281474976710656))=r by rw [hr];simp [h1]);clear hr hrI h1;go_enter func193,ntmps193;go_wp2_with fail;refine Aa (fun w'=>w'.cell? ⟨eb,0,none⟩=some (.int .u64 (E:Int))/\w'.cell? ⟨sb,0,none⟩=some (.pointer (some ⟨ps,0,none⟩))/\w'.cell? ⟨ps,6,none⟩=some (.int .u64 (P:Int))) (fun _=>true) (by kernel_rfl) hS.out (fun hHeld => ?_);refine tq 0 (h:=tq 1 (h:=tq 2 (h:=tq 3 (h:=tq 4 (h:=tq 5 (h:=tg 6 (.bool true) (h:=tq 7 (h:=tq 8 (h:=tv 9 (.bool r) (hy:=fun w hSw=>by (try dsimp only at hSw);go_simp;exact tN.out) (h:=tg 10 (.bool r) (h:=tq 11 (h:=tD (h:=?_)))))))))))));go_wp2_with fail;go_ret;exact ⟨_,o,rfl,hst.out,by rw [hfin.out];rfl⟩
 ·have h1I:¬ (P:Int)<(E:Int):=by omega
  have hfin:=ae (show (decide (P<E) && decide (E<=281474976710656))=false by simp [h1]);clear h1;go_enter func193,ntmps193;go_wp2_with fail;refine Aa (fun w'=>w'.cell? ⟨eb,0,none⟩=some (.int .u64 (E:Int))/\w'.cell? ⟨sb,0,none⟩=some (.pointer (some ⟨ps,0,none⟩))/\w'.cell? ⟨ps,6,none⟩=some (.int .u64 (P:Int))) (fun _=>true) (by kernel_rfl) hS.out (fun hHeld => ?_);refine tq 0 (h:=tq 1 (h:=tq 2 (h:=tq 3 (h:=tq 4 (h:=tq 5 (h:=tw 6 (.bool false) (h:=tq 7 (h:=ts 8 (h:=ts 9 (h:=tg 10 (.bool false) (h:=tq 11 (h:=tD (h:=?_)))))))))))));go_wp2_with fail;go_ret;exact ⟨_,o,rfl,hst.out,by rw [hfin.out];rfl⟩
theorem XA (h:Bi w o S A B D ps pd base s) (e:BitVec 64) (eb sb lb Aed:Nat) (lv:Value) (ls:List Ar) (he:Box w o eb 34 (.int .u64 (e.toNat:Int))) (hs:Box w o sb 92 (.pointer (some ⟨ps,0,none⟩))) (hlb:Box w o lb 35 lv) (hl:Lines w o Aed lv ls) (hn:ls.length<=100000) :
  Calls prog 247 #[.pointer (some ⟨eb,0,none⟩), .pointer (some ⟨sb,0,none⟩), .pointer (some ⟨lb,0,none⟩)] w (XL ai w o fun v _ _=>v = .bool (s.kept.Gg e ls)):=by
 obtain ⟨X,Y,pa,pb,k,kv, -,hb, -, -, -, -⟩:=h;obtain ⟨⟨-, -, -, -,c6,c7, -, -⟩, -⟩:=hb.cells;have ce:=he.cell;have cs:=hs.cell;have cl:=hlb.cell;have hgood:=ae (VG (hl.step (aj.refl ai w o).drew id) hn e);obtain ⟨la,lc,rfl⟩:=hl.form;unfold AX.Gg;have hst:=ae (aj.refl ai w o).drew;have hS:=ae (aI ce (aI cs (aI cl (aI c6 c7))));obtain ⟨r,hr⟩:∃ r,(!ls.any (badL e))=r:=⟨_,rfl⟩;rw [hr] at hgood ⊢;generalize s.kept.promised.toNat=P at *;generalize s.kept.current.toNat=C at *;generalize e.toNat=E at *;generalize ls.length=N at *;clear hb he hs ce cs c6 c7 cl hr hl hlb
 by_cases h0:P<=E
 ·have h0I:(P:Int)<=(E:Int):=by omega
  by_cases h1:C<E
  ·have h1I:(C:Int)<(E:Int):=by omega
   by_cases h2:E<=281474976710656
   ·have h2I:(E:Int)<=281474976710656:=by omega
    by_cases h3:N<=256
    ·have h3I:(N:Int)<=256:=by omega
     have hfin:=ae (show (decide (P<=E) && decide (C<E) && decide (E<=281474976710656) && decide (N<=256) && r)=r by simp [h0,h1,h2,h3]);clear h0 h1 h2 h3;go_enter func247,ntmps247;go_wp2_with fail;refine Aa (fun w'=>w'.cell? ⟨eb,0,none⟩=some (.int .u64 (E:Int))/\w'.cell? ⟨sb,0,none⟩=some (.pointer (some ⟨ps,0,none⟩))/\w'.cell? ⟨lb,0,none⟩=some (.slice la N lc)/\w'.cell? ⟨ps,6,none⟩=some (.int .u64 (P:Int))/\w'.cell? ⟨ps,7,none⟩=some (.int .u64 (C:Int))) (fun _=>true) (by kernel_rfl) hS.out (fun hHeld => ?_);refine tq 0 (h:=tq 1 (h:=tq 2 (h:=tq 3 (h:=tq 4 (h:=tq 5 (h:=tw 6 (.bool true) (h:=tq 7 (h:=tq 8 (h:=tq 9 (h:=tq 10 (h:=tq 11 (h:=tq 12 (h:=tq 13 (h:=?_))))))))))))));refine tw 14 (.bool true) (h:=tg 15 (.bool true) (h:=tq 16 (h:=tq 17 (h:=tw 18 (.bool true) (h:=tg 19 (.bool true) (h:=tq 20 (h:=tq 21 (h:=tq 22 (h:=tw 23 (.bool true) (h:=tg 24 (.bool true) (h:=tq 25 (h:=tq 26 (h:=tq 27 (h:=?_))))))))))))));refine tO 28 (h:=?_);go_wp2_with fail;refine hgood.out.mono ?_;rintro e1 w1 ⟨v1,o1,rfl,hs1,rfl⟩;have hS1:w1.cell? ⟨eb,0,none⟩=some (.int .u64 (E:Int))/\w1.cell? ⟨sb,0,none⟩=some (.pointer (some ⟨ps,0,none⟩))/\w1.cell? ⟨lb,0,none⟩=some (.slice la N lc)/\w1.cell? ⟨ps,6,none⟩=some (.int .u64 (P:Int))/\w1.cell? ⟨ps,7,none⟩=some (.int .u64 (C:Int)):=by
      obtain ⟨k1,k2,k3,k4,k5⟩:=hS.out;have hb:=fun (a:Nat) (i:Nat) (v:Value) (hc:w.cell? ⟨a,i,none⟩=some v)=>(World.cell?_of_block (w:=w) (w':=w1) (a:=⟨a,i,none⟩) (hs1.block a (World.block_lt_of_cell? w ⟨a,i,none⟩ (by rw [hc])) id)).trans hc;exact ⟨hb _ _ _ k1,hb _ _ _ k2,hb _ _ _ k3,hb _ _ _ k4,hb _ _ _ k5⟩
     clear hHeld;go_wp2_with fail;refine ⟨fun _=>hS1, ?_⟩;refine tg 29 (.bool r) (h:=tq 30 (h:=tD (h:=?_)));clear hS1;go_wp2_with fail;go_ret;exact ⟨_,o1,rfl,hst.out.trans hs1,by rw [hfin.out];rfl⟩
    ·have h3I:¬ (N:Int)<=256:=by omega
     have hfin:=ae (show (decide (P<=E) && decide (C<E) && decide (E<=281474976710656) && decide (N<=256) && r)=false by simp [h0,h1,h2,h3]);clear h0 h1 h2 h3;go_enter func247,ntmps247;go_wp2_with fail;refine Aa (fun w'=>w'.cell? ⟨eb,0,none⟩=some (.int .u64 (E:Int))/\w'.cell? ⟨sb,0,none⟩=some (.pointer (some ⟨ps,0,none⟩))/\w'.cell? ⟨lb,0,none⟩=some (.slice la N lc)/\w'.cell? ⟨ps,6,none⟩=some (.int .u64 (P:Int))/\w'.cell? ⟨ps,7,none⟩=some (.int .u64 (C:Int))) (fun _=>true) (by kernel_rfl) hS.out (fun hHeld => ?_);refine tq 0 (h:=tq 1 (h:=tq 2 (h:=tq 3 (h:=tq 4 (h:=tq 5 (h:=tw 6 (.bool true) (h:=tq 7 (h:=tq 8 (h:=tq 9 (h:=tq 10 (h:=tq 11 (h:=tq 12 (h:=tq 13 (h:=?_))))))))))))));refine tw 14 (.bool true) (h:=tg 15 (.bool true) (h:=tq 16 (h:=tq 17 (h:=tw 18 (.bool true) (h:=tg 19 (.bool true) (h:=tq 20 (h:=tq 21 (h:=tq 22 (h:=tw 23 (.bool false) (h:=tw 24 (.bool false) (h:=tq 25 (h:=ts 26 (h:=ts 27 (h:=?_))))))))))))));refine ts 28 (h:=tw 29 (.bool false) (h:=tq 30 (h:=tD (h:=?_))));go_wp2_with fail;go_ret;exact ⟨_,o,rfl,hst.out,by rw [hfin.out];rfl⟩
   ·have h2I:¬ (E:Int)<=281474976710656:=by omega
    have hfin:=ae (show (decide (P<=E) && decide (C<E) && decide (E<=281474976710656) && decide (N<=256) && r)=false by simp [h0,h1,h2]);clear h0 h1 h2;go_enter func247,ntmps247;go_wp2_with fail;refine Aa (fun w'=>w'.cell? ⟨eb,0,none⟩=some (.int .u64 (E:Int))/\w'.cell? ⟨sb,0,none⟩=some (.pointer (some ⟨ps,0,none⟩))/\w'.cell? ⟨lb,0,none⟩=some (.slice la N lc)/\w'.cell? ⟨ps,6,none⟩=some (.int .u64 (P:Int))/\w'.cell? ⟨ps,7,none⟩=some (.int .u64 (C:Int))) (fun _=>true) (by kernel_rfl) hS.out (fun hHeld => ?_);refine tq 0 (h:=tq 1 (h:=tq 2 (h:=tq 3 (h:=tq 4 (h:=tq 5 (h:=tw 6 (.bool true) (h:=tq 7 (h:=tq 8 (h:=tq 9 (h:=tq 10 (h:=tq 11 (h:=tq 12 (h:=tq 13 (h:=?_))))))))))))));refine tw 14 (.bool true) (h:=tg 15 (.bool true) (h:=tq 16 (h:=tq 17 (h:=tw 18 (.bool false) (h:=tw 19 (.bool false) (h:=tq 20 (h:=ts 21 (h:=ts 22 (h:=ts 23 (h:=tw 24 (.bool false) (h:=tq 25 (h:=ts 26 (h:=ts 27 (h:=?_))))))))))))));refine ts 28 (h:=tw 29 (.bool false) (h:=tq 30 (h:=tD (h:=?_))));go_wp2_with fail;go_ret;exact ⟨_,o,rfl,hst.out,by rw [hfin.out];rfl⟩
  ·have h1I:¬ (C:Int)<(E:Int):=by omega
   have hfin:=ae (show (decide (P<=E) && decide (C<E) && decide (E<=281474976710656) && decide (N<=256) && r)=false by simp [h0,h1]);clear h0 h1;go_enter func247,ntmps247;go_wp2_with fail;refine Aa (fun w'=>w'.cell? ⟨eb,0,none⟩=some (.int .u64 (E:Int))/\w'.cell? ⟨sb,0,none⟩=some (.pointer (some ⟨ps,0,none⟩))/\w'.cell? ⟨lb,0,none⟩=some (.slice la N lc)/\w'.cell? ⟨ps,6,none⟩=some (.int .u64 (P:Int))/\w'.cell? ⟨ps,7,none⟩=some (.int .u64 (C:Int))) (fun _=>true) (by kernel_rfl) hS.out (fun hHeld => ?_);refine tq 0 (h:=tq 1 (h:=tq 2 (h:=tq 3 (h:=tq 4 (h:=tq 5 (h:=tw 6 (.bool true) (h:=tq 7 (h:=tq 8 (h:=tq 9 (h:=tq 10 (h:=tq 11 (h:=tq 12 (h:=tq 13 (h:=?_))))))))))))));refine tw 14 (.bool false) (h:=tw 15 (.bool false) (h:=tq 16 (h:=ts 17 (h:=ts 18 (h:=tw 19 (.bool false) (h:=tq 20 (h:=ts 21 (h:=ts 22 (h:=ts 23 (h:=tw 24 (.bool false) (h:=tq 25 (h:=ts 26 (h:=ts 27 (h:=?_))))))))))))));refine ts 28 (h:=tw 29 (.bool false) (h:=tq 30 (h:=tD (h:=?_))));go_wp2_with fail;go_ret;exact ⟨_,o,rfl,hst.out,by rw [hfin.out];rfl⟩
 ·have h0I:¬ (P:Int)<=(E:Int):=by omega
  have hfin:=ae (show (decide (P<=E) && decide (C<E) && decide (E<=281474976710656) && decide (N<=256) && r)=false by simp [h0]);clear h0;go_enter func247,ntmps247;go_wp2_with fail;refine Aa (fun w'=>w'.cell? ⟨eb,0,none⟩=some (.int .u64 (E:Int))/\w'.cell? ⟨sb,0,none⟩=some (.pointer (some ⟨ps,0,none⟩))/\w'.cell? ⟨lb,0,none⟩=some (.slice la N lc)/\w'.cell? ⟨ps,6,none⟩=some (.int .u64 (P:Int))/\w'.cell? ⟨ps,7,none⟩=some (.int .u64 (C:Int))) (fun _=>true) (by kernel_rfl) hS.out (fun hHeld => ?_);refine tq 0 (h:=tq 1 (h:=tq 2 (h:=tq 3 (h:=tq 4 (h:=tq 5 (h:=tw 6 (.bool false) (h:=tq 7 (h:=ts 8 (h:=ts 9 (h:=ts 10 (h:=ts 11 (h:=ts 12 (h:=ts 13 (h:=?_))))))))))))));refine ts 14 (h:=tw 15 (.bool false) (h:=tq 16 (h:=ts 17 (h:=ts 18 (h:=tw 19 (.bool false) (h:=tq 20 (h:=ts 21 (h:=ts 22 (h:=ts 23 (h:=tw 24 (.bool false) (h:=tq 25 (h:=ts 26 (h:=ts 27 (h:=?_))))))))))))));refine ts 28 (h:=tw 29 (.bool false) (h:=tq 30 (h:=tD (h:=?_))));go_wp2_with fail;go_ret;exact ⟨_,o,rfl,hst.out,by rw [hfin.out];rfl⟩
end
section
variable {w:World} {o:Own} {S A B D ps pd base:Nat} {s:AZ}
theorem WW (h:Bi w o S A B D ps pd base s) (sb:Nat) (hs:Box w o sb 92 (.pointer (some ⟨ps,0,none⟩))) (x:Ar) (bv:Value) (hbv:Bytes w o bv x.b) :
  Calls prog 127 #[.agg #[.int .u64 (x.e.toNat:Int),bv], .pointer (some ⟨sb,0,none⟩)] w (XL ai w o fun v _ _=>v = .bool (!(x.e == s.kept.current))):=by
 have s1:=(aj.refl ai w o).alloc (.cells #[.int .u64 (x.e.toNat:Int),bv] 41) (0,0);have hS2:=h.step0 s1;have cs:=(hs.step s1 id).cell;have b1:(w.alloc (.cells #[.int .u64 (x.e.toNat:Int),bv] 41)).heap[w.heap.size]?=some (.cells [.int .u64 (x.e.toNat:Int),bv].toArray 41 (0,0)):=heap_alloc_new w _;have c0:=ag b1 0;simp only [ay] at c0;obtain ⟨X,Y,pa,pb,k,kv, -,hb, -, -, -, -⟩:=hS2;obtain ⟨⟨-, -, -, -, -,c7, -, -⟩, -⟩:=hb.cells;have hst:=ae s1.drew;have hfin:=ae (show ((x.e.toNat:Int) != (s.kept.current.toNat:Int))=(!(x.e == s.kept.current)) by
  by_cases hh:x.e=s.kept.current
  ·rw [hh];simp
  ·have:¬ (x.e.toNat:Int)=(s.kept.current.toNat:Int):=fun h=>hh (BitVec.eq_of_toNat_eq (by omega));rw [bne_iff_ne.2 this,beq_eq_false_iff_ne.2 hh];rfl)
 obtain ⟨r,hr⟩:∃ r,(!(x.e == s.kept.current))=r:=⟨_,rfl⟩;rw [hr] at hfin ⊢;obtain ⟨ba,bc,rfl⟩:=Aq hbv;generalize s.kept.current.toNat=C at *;generalize x.e.toNat=E at *;generalize x.b.length=bl at *;obtain ⟨W1,hW1⟩:∃ W1,w.alloc (.cells #[.int .u64 (E:Int), .slice ba bl bc] 41)=W1:=⟨_,rfl⟩;rw [hW1] at hst cs c7 c0;have uM:=ae hW1;have hS:=ae (aI c0 (aI cs c7));clear hb b1 s1 hs h hW1 c0 cs c7 hr;go_enter func127,ntmps127;go_wp2_with fail;rw [uM.out];refine Aa (fun w'=>w'.cell? ⟨w.heap.size,0,none⟩=some (.int .u64 (E:Int))/\w'.cell? ⟨sb,0,none⟩=some (.pointer (some ⟨ps,0,none⟩))/\w'.cell? ⟨ps,7,none⟩=some (.int .u64 (C:Int))) (fun _=>true) (by kernel_rfl) hS.out (fun hHeld => ?_);refine tq 0 (h:=tq 1 (h:=tq 2 (h:=tq 3 (h:=tq 4 (h:=tq 5 (h:=tq 6 (h:=tv 7 (.bool r) (hy:=fun w hSw=>by (try dsimp only at hSw);go_simp;exact hfin.out) (h:=tq 8 (h:=tD (h:=?_))))))))));go_wp2_with fail;go_ret;exact ⟨_,_,rfl,hst.out,rfl⟩
theorem Wj (h:Bi w o S A B D ps pd base s) (sb lb Aed:Nat) (lv:Value) (ls:List Ar) (hs:Box w o sb 92 (.pointer (some ⟨ps,0,none⟩))) (hlb:Box w o lb 35 lv) (hl:Lines w o Aed lv ls) (hn:ls.length<=100000) (hk:s.kept.lines.length<=1000) :
  Calls prog 126 #[.pointer (some ⟨sb,0,none⟩), .pointer (some ⟨lb,0,none⟩)] w (XL ai w o fun v _ _=>v = .bool (s.kept.Eu ls)):=by
 have hmf:∀ (fn:Fn) (first cap:Array Value) (w:World),(Instr.makeFunc fn first cap).run prog w = .ok (.func fn first cap) w:=fun _ _ _ _=>rfl
 have hgood:=ae (VG (hl.step (aj.refl ai w o).drew id) hn Ho);have htop:(Ho.toNat:Int)=281474976710656:=by decide
 rw [htop] at hgood;have hcont:=ae (show ∀ w1 o1,aj ai w o w1 o1->Calls prog 129 #[lv, .func (.func 127) #[] #[.pointer (some ⟨sb,0,none⟩)]] w1 (XL ai w1 o1 fun v _ _=>v = .bool (ls.any fun x => !(x.e == s.kept.current))) from fun w1 o1 st =>
  Jt (hl.step st id) hn 127 #[.pointer (some ⟨sb,0,none⟩)] _ Tryz.call127 (fun w2 o2 st2 x bv _ hby=>WW ((h.step0 st).step0 st2) sb ((hs.step st id).step st2 id) x bv hby))
 obtain ⟨X,Y,pa,pb,k,kv, -,hb,hkl, -, -, -⟩:=h;obtain ⟨ka,kc,rfl⟩:=hkl.form;obtain ⟨⟨-, -, -, -, -, -,c8, -⟩, -⟩:=hb.cells;have cs:=hs.cell;have cl:=hlb.cell;obtain ⟨la,lc,rfl⟩:=hl.form;unfold AX.Eu;have hst:=ae (aj.refl ai w o).drew;have hS:=ae (aI cs (aI cl c8));have hdr:=ae (show ∀ w1 o1,aj ai w.drew o w1 o1->aj ai w o w1 o1 from fun w1 o1 st=>(aj.refl ai w o).drew.trans st);obtain ⟨r,hr⟩:∃ r,(!ls.any (badL Ho))=r:=⟨_,rfl⟩;obtain ⟨q,hq⟩:∃ q,(ls.any fun x => !(x.e == s.kept.current))=q:=⟨_,rfl⟩;rw [hr] at hgood ⊢;rw [hq] at hcont ⊢;generalize s.kept.lines.length=K at *;generalize ls.length=N at *;have hKI:(0:Int)<=(K:Int)/\(K:Int)<=1000:=by omega
 have hNI:(0:Int)<=(N:Int)/\(N:Int)<=100000:=by omega
 have hwr:=ae (show IntKind.i64.wrap (256 - (K:Int))=256 - (K:Int) from wrap_i64 (by omega) (by omega));clear hb hs cs c8 cl hr hl hlb htop hq hkl
 by_cases h0:0<N
 ·have h0I:(0:Int)<(N:Int):=by omega
  by_cases h1:N+K<=256
  ·have h1I:(N:Int)<=256 - (K:Int):=by omega
   cases r with
   | true =>
    have hfin:=ae (show (decide (0<N) && decide (N+K<=256) && true && !q)=(!q) by simp [h0,h1]);clear h0 h1;go_enter func126,ntmps126;go_wp2_with fail;refine Aa (fun w'=>w'.cell? ⟨sb,0,none⟩=some (.pointer (some ⟨ps,0,none⟩))/\w'.cell? ⟨lb,0,none⟩=some (.slice la N lc)/\w'.cell? ⟨ps,8,none⟩=some (.slice ka K kc)) (fun _=>true) (by kernel_rfl) hS.out (fun hHeld => ?_);refine tq 0 (h:=tq 1 (h:=tw 2 (.bool true) (h:=tq 3 (h:=tq 4 (h:=tq 5 (h:=tq 6 (h:=tq 7 (h:=tq 8 (h:=tq 9 (h:=tq 10 (h:=tq 11 (h:=tv 12 (.int .i64 (256 - (K:Int))) (hy:=fun w hSw=>by (try dsimp only at hSw);go_simp;exact hwr.out) (h:=tw 13 (.bool true) (h:=?_))))))))))))));refine tw 14 (.bool true) (h:=tq 15 (h:=tq 16 (h:=tO 17 (h:=?_))));go_wp2_with fail;refine hgood.out.mono ?_;rintro e1 w1 ⟨v1,o1,rfl,hs1,rfl⟩;have hS1:w1.cell? ⟨sb,0,none⟩=some (.pointer (some ⟨ps,0,none⟩))/\w1.cell? ⟨lb,0,none⟩=some (.slice la N lc)/\w1.cell? ⟨ps,8,none⟩=some (.slice ka K kc):=by
     obtain ⟨k1,k2,k3⟩:=hHeld;have hb:=fun (a:Nat) (i:Nat) (v:Value) (hc:(w.drew).cell? ⟨a,i,none⟩=some v)=>(World.cell?_of_block (w:=w.drew) (w':=w1) (a:=⟨a,i,none⟩) (hs1.block a (World.block_lt_of_cell? (w.drew) ⟨a,i,none⟩ (by rw [hc])) id)).trans hc;exact ⟨hb _ _ _ k1,hb _ _ _ k2,hb _ _ _ k3⟩
    go_wp2_with fail;refine ⟨fun _=>hS1, ?_⟩;refine tw 18 (.bool true) (h:=tq 19 (h:=tq 20 (h:=tq 21 (h:=tO 22 (h:=?_)))));go_wp2_with fail;refine (hcont.out w1 o1 (hdr.out _ _ hs1)).mono ?_;rintro e1 w2 ⟨v2,o2,rfl,hs2,rfl⟩;have hS2:w2.cell? ⟨sb,0,none⟩=some (.pointer (some ⟨ps,0,none⟩))/\w2.cell? ⟨lb,0,none⟩=some (.slice la N lc)/\w2.cell? ⟨ps,8,none⟩=some (.slice ka K kc):=by
     obtain ⟨k1,k2,k3⟩:=hS1;have hb:=fun (a:Nat) (i:Nat) (v:Value) (hc:(w1).cell? ⟨a,i,none⟩=some v)=>(World.cell?_of_block (w:=w1) (w':=w2) (a:=⟨a,i,none⟩) (hs2.block a (World.block_lt_of_cell? (w1) ⟨a,i,none⟩ (by rw [hc])) id)).trans hc;exact ⟨hb _ _ _ k1,hb _ _ _ k2,hb _ _ _ k3⟩
    go_wp2_with fail;refine ⟨fun _=>hS2, ?_⟩;refine tg 23 (.bool (!q)) (h:=tg 24 (.bool (!q)) (h:=tq 25 (h:=tD (h:=?_))));clear hS1;clear hS2;go_wp2_with fail;go_ret;exact ⟨_,o2,rfl,(hdr.out _ _ hs1).trans hs2,by rw [hfin.out];rfl⟩
   | false =>
    have hfin:=ae (show (decide (0<N) && decide (N+K<=256) && false && !q)=false by simp [h0,h1]);clear h0 h1;go_enter func126,ntmps126;go_wp2_with fail;refine Aa (fun w'=>w'.cell? ⟨sb,0,none⟩=some (.pointer (some ⟨ps,0,none⟩))/\w'.cell? ⟨lb,0,none⟩=some (.slice la N lc)/\w'.cell? ⟨ps,8,none⟩=some (.slice ka K kc)) (fun _=>true) (by kernel_rfl) hS.out (fun hHeld => ?_);refine tq 0 (h:=tq 1 (h:=tw 2 (.bool true) (h:=tq 3 (h:=tq 4 (h:=tq 5 (h:=tq 6 (h:=tq 7 (h:=tq 8 (h:=tq 9 (h:=tq 10 (h:=tq 11 (h:=tv 12 (.int .i64 (256 - (K:Int))) (hy:=fun w hSw=>by (try dsimp only at hSw);go_simp;exact hwr.out) (h:=tw 13 (.bool true) (h:=?_))))))))))))));refine tw 14 (.bool true) (h:=tq 15 (h:=tq 16 (h:=tO 17 (h:=?_))));go_wp2_with fail;refine hgood.out.mono ?_;rintro e1 w1 ⟨v1,o1,rfl,hs1,rfl⟩;have hS1:w1.cell? ⟨sb,0,none⟩=some (.pointer (some ⟨ps,0,none⟩))/\w1.cell? ⟨lb,0,none⟩=some (.slice la N lc)/\w1.cell? ⟨ps,8,none⟩=some (.slice ka K kc):=by
     obtain ⟨k1,k2,k3⟩:=hHeld;have hb:=fun (a:Nat) (i:Nat) (v:Value) (hc:(w.drew).cell? ⟨a,i,none⟩=some v)=>(World.cell?_of_block (w:=w.drew) (w':=w1) (a:=⟨a,i,none⟩) (hs1.block a (World.block_lt_of_cell? (w.drew) ⟨a,i,none⟩ (by rw [hc])) id)).trans hc;exact ⟨hb _ _ _ k1,hb _ _ _ k2,hb _ _ _ k3⟩
    go_wp2_with fail;refine ⟨fun _=>hS1, ?_⟩;refine tw 18 (.bool false) (h:=tq 19 (h:=ts 20 (h:=ts 21 (h:=ts 22 (h:=ts 23 (h:=tw 24 (.bool false) (h:=tq 25 (h:=tD (h:=?_)))))))));clear hS1;go_wp2_with fail;go_ret;exact ⟨_,o1,rfl,hdr.out _ _ hs1,by rw [hfin.out];rfl⟩
  ·have h1I:¬ (N:Int)<=256 - (K:Int):=by omega
   have hfin:=ae (show (decide (0<N) && decide (N+K<=256) && r && !q)=false by simp [h0,h1]);clear h0 h1;go_enter func126,ntmps126;go_wp2_with fail;refine Aa (fun w'=>w'.cell? ⟨sb,0,none⟩=some (.pointer (some ⟨ps,0,none⟩))/\w'.cell? ⟨lb,0,none⟩=some (.slice la N lc)/\w'.cell? ⟨ps,8,none⟩=some (.slice ka K kc)) (fun _=>true) (by kernel_rfl) hS.out (fun hHeld => ?_);refine tq 0 (h:=tq 1 (h:=tw 2 (.bool true) (h:=tq 3 (h:=tq 4 (h:=tq 5 (h:=tq 6 (h:=tq 7 (h:=tq 8 (h:=tq 9 (h:=tq 10 (h:=tq 11 (h:=tv 12 (.int .i64 (256 - (K:Int))) (hy:=fun w hSw=>by (try dsimp only at hSw);go_simp;exact hwr.out) (h:=tw 13 (.bool false) (h:=?_))))))))))))));refine tw 14 (.bool false) (h:=tq 15 (h:=ts 16 (h:=ts 17 (h:=tw 18 (.bool false) (h:=tq 19 (h:=ts 20 (h:=ts 21 (h:=ts 22 (h:=ts 23 (h:=tw 24 (.bool false) (h:=tq 25 (h:=tD (h:=?_)))))))))))));go_wp2_with fail;go_ret;exact ⟨_,o,rfl,hst.out,by rw [hfin.out];rfl⟩
 ·have h0I:¬ (0:Int)<(N:Int):=by omega
  have hfin:=ae (show (decide (0<N) && decide (N+K<=256) && r && !q)=false by simp [h0]);clear h0;go_enter func126,ntmps126;go_wp2_with fail;refine Aa (fun w'=>w'.cell? ⟨sb,0,none⟩=some (.pointer (some ⟨ps,0,none⟩))/\w'.cell? ⟨lb,0,none⟩=some (.slice la N lc)/\w'.cell? ⟨ps,8,none⟩=some (.slice ka K kc)) (fun _=>true) (by kernel_rfl) hS.out (fun hHeld => ?_);refine tq 0 (h:=tq 1 (h:=tw 2 (.bool false) (h:=tq 3 (h:=ts 4 (h:=ts 5 (h:=ts 6 (h:=ts 7 (h:=ts 8 (h:=ts 9 (h:=ts 10 (h:=ts 11 (h:=ts 12 (h:=ts 13 (h:=?_))))))))))))));refine tw 14 (.bool false) (h:=tq 15 (h:=ts 16 (h:=ts 17 (h:=tw 18 (.bool false) (h:=tq 19 (h:=ts 20 (h:=ts 21 (h:=ts 22 (h:=ts 23 (h:=tw 24 (.bool false) (h:=tq 25 (h:=tD (h:=?_)))))))))))));go_wp2_with fail;go_ret;exact ⟨_,o,rfl,hst.out,by rw [hfin.out];rfl⟩
end

end Go.Proofs.YtffkdillijmamaaGreat
