/- Plain laws: what a log's act leaves, whether the power stays or goes in its midst. No program in sight. -/
import Derived.Deep.AppendSrc
import Derived.Test.YthmpmgknnibljaaGreatSv4
namespace Go.Proofs.YthmpmgknnibljaaGreat
open Go.Proofs.Tryz
set_option maxRecDepth 100000
set_option maxHeartbeats 3200000
open Go Go.RowKit
variable {A B D K S b base f j k n off pd ps size:Nat} {d:Af} {s:Ad × Af} {c p:BitVec 64} {w w' w1:World} {o o':Own} {P:Program} {bv lv v:Value} {a:Act} {cs cur:List Value} {l:List UInt8} {op:Oper}
namespace Ad
def Oth (f n:Nat) (d d':Af):Prop:=d'.pages.length = d.pages.length/\∀ j,(j < f \/ f + n <= j)->d'.seen j = d.seen j
theorem Oth.refl (f n:Nat) (d:Af):Oth f n d d:=⟨rfl,bu⟩
theorem Oth.trans {d1 d2:Af} (h:Oth f n d d1) (g:Oth f n d1 d2):Oth f n d d2:=⟨g.1.trans h.1,fun j hj=>(g.2 j hj).trans (h.2 j hj)⟩
structure Good (K:Nat) (s:Ad × Af):Prop where
 dd:s.2.dead = false
 row:s.2.row = []
 fine:Fine s
 pg:∀ j,j < s.1.n->DZ K (s.2.seen (s.1.first + j))
theorem Good.ld (h:Good K s):s.1.dead = false:=by rw [h.fine.1];rfl
theorem Good.ends (h:Good K s):1 <= s.1.end'/\s.1.end' <= s.1.n:=by
 have:=fQ s.1.first (Aw s.2 s.1.first s.1.n) (by rw [Bq];have:=h.fine.2.2.1;omega)
 rw [Bq, <-h.fine.1] at this;omega
theorem iG {p:List UInt8} (h:p.length = 512):(num (p.take 8)).toNat = Dw (p.take 8)/\(num (p.drop 504)).toNat = Dw (p.drop 504):=⟨EL (by grind),EL (by grind)⟩
theorem Good.newest (h:Good K s):newest (Aw s.2 s.1.first s.1.n) = s.1.stamp:=by
 have:=congrArg Ad.stamp h.fine.1;exact this.symm
theorem mem_seen (hj:j < n):d.seen (f + j) ∈ Aw d f n:=List.mem_of_getElem? (Cc d f n j hj)
theorem Va {p:List UInt8} (h:p ∈ Aw d f n):∃ j,j < n/\p = d.seen (f + j):=by
 unfold Aw at h;grind
theorem Vh (h:∀ j,j < n->DZ K (d.seen (f + j))):(Ad.newest (Aw d f n)).toNat <= K:=by
 rw [Aen];intro p hp;obtain ⟨j,hj,rfl⟩:=Va hp;obtain ⟨h1,h2,h3, -⟩:=h j hj;grind [iG]
theorem Good.JK (h:Good K s):s.1.stamp.toNat <= K:=by rw [<-h.newest];exact Vh h.pg
theorem Good.page (h:Good K s) (hj:j < s.1.n):DZ s.1.stamp.toNat (s.2.seen (s.1.first + j)):=by
 obtain ⟨h1,h2,h3,h4⟩:=h.pg j hj;have hn:=Fe (mem_seen (d:=s.2) (f:=s.1.first) hj)
 obtain ⟨e1,e2⟩:=iG h1;rw [e1,e2,h.newest] at hn;exact ⟨h1,hn.1,hn.2,h4⟩
theorem Good.next (h:Good K s) (hK:K < 65536):(s.1.stamp + 1#64).toNat = s.1.stamp.toNat + 1:=by
 have:=h.JK;grind
theorem UT (hd:d.dead = false) (hw:d.wf) (hrow:d.row = []) (l:Ad) (of':Nat) (b:List UInt8) (k:Nat) (hf:l.first + l.end' + k <= d.pages.length) :
  (∃ d1 d',put l of' b k 0 d = (d1,0)/\d1.sync = (d',0)/\d'.dead = false/\d'.row = []/\d'.wf/\d'.pages.length = d.pages.length/\(d.left < 0->d'.left = d.left) /\
   ∀ j,d'.seen j = if l.first + l.end' <= j/\j < l.first + l.end' + k then AA.page ⟨l.stamp,j - (l.first + l.end'),of',part b (j - (l.first + l.end'))⟩ else d.seen j) \/
  (0 <= d.left/\∃ d',(put l of' b k 0 d = (d',9) \/ ∃ d1,put l of' b k 0 d = (d1,0)/\d1.sync = (d',9))/\d'.dead = true/\∃ m,m <= k/\d'.pages = d.pages /\
   d'.row = (List.range m).map fun t=>(l.first + l.end' + t,AA.page ⟨l.stamp,t,of',part b t⟩)):=by
 obtain ⟨m,d1,q1,q2,q3,q4,q5,q6,q7⟩:=put_any l l.stamp rfl of' b k 0 d hd hf;rw [hrow,List.nil_append] at q4;simp only [Nat.add_zero,Nat.zero_add] at q4
 by_cases hm:m = k
 ·subst hm;rw [if_pos rfl] at q2;have hd1:d1.dead = false:=bg
  have hp1:0 < d1.pages.length:=by rw [q3];have:=hw.1;omega
  have hs:=Af.dD hd1 hp1;obtain ⟨t1,t2,t3⟩:=Af.ND d1
  by_cases h0:d1.left = 0
  ·rw [if_pos h0] at hs
   right
   refine ⟨?_,_, .inr ⟨d1,q2,hs⟩,rfl,m,bu,q3,q4⟩
   omega
  ·rw [if_neg h0] at hs
   left
   have hx:∀ x ∈ d1.row,x.1 < d1.pages.length/\x.2.length = 512:=by
    rw [q4,q3];intro x hx;simp only [List.mem_map,List.mem_range] at hx;obtain ⟨t,ht,rfl⟩:=hx;grind [AA.ES,CX]
   have hq:∀ p ∈ d1.pages,p.length = 512:=by rw [q3];exact hw.2.2.1
   have hpw:=Af.Jq (fun _=>512) bu d1.pages hq d1.row hx;have hlen:(d1.tick.done fun _=>512).pages.length = d.pages.length:=by
    show (Af.Dk _ d1.tick.pages d1.tick.row).length = _;grind
   have hleft : -1 <= d1.tick.left/\d1.tick.left <= 9223372036854775807/\(d.left < 0->d1.tick.left = d.left):=by
    have h5:=hw.2.2.2.2;obtain ⟨u1,u2⟩:=Af.Rl d1
    omega
   refine ⟨d1,_,q2,hs,t3.trans hd1,rfl, ?_,hlen,hleft.2.2,fun j => ?_⟩
   ·refine ⟨bg,by rw [hlen];exact hw.2.1, ?_,(by intro x hx;cases hx),hleft.1,hleft.2.1⟩;show ∀ p ∈ Af.Dk _ d1.tick.pages d1.tick.row,_;grind
   ·show (Af.Dk (fun _=>512) d1.tick.pages d1.tick.row).getD j [] = _;rw [t1,t2,q3,q4,Af.Lh _ _ _ _ _ aP];have hsj:d.seen j = d.pages.getD j []:=by unfold Af.seen;rw [hrow];rfl
    rw [hsj];split
    ·unfold Af.CG;rw [List.take_of_length_le (by simp [AA.ES,CX]),List.drop_eq_nil_of_le bg,List.append_nil]
    ·rfl
 ·rw [if_neg hm] at q2
  right
  refine ⟨?_,d1, .inl q2, ?_,m,q1,q3,q4⟩
  omega
  grind
theorem Ur {d':Af} (hw:d.wf) (hrow:d.row = []) (hp:d'.pages = d.pages) (base m:Nat) (g:Nat->List UInt8) (hg:∀ t,(g t).length = 512) (hr:d'.row = (List.range m).map fun t=>(base + t,g t)) (hm:base + m <= d.pages.length) (Bz:List Int) :
  (d'.BJ Bz).dead = false/\(d'.BJ Bz).row = []/\(d'.BJ Bz).wf/\(d'.BJ Bz).left = -1/\(d'.BJ Bz).pages.length = d.pages.length /\
   ∀ j,(d'.BJ Bz).seen j = if base <= j/\j < base + m then Af.CG (Af.Xm Bz (j - base)) (g (j - base)) (d.seen j) else d.seen j:=by
 have hx:∀ x ∈ d'.row,x.1 < d'.pages.length/\x.2.length = 512:=by
  grind
 have hpw:=Af.Jq (Af.Xm Bz) (Af.eG Bz) d'.pages (by rw [hp];exact hw.2.2.1) d'.row hx;have hlen:(d'.BJ Bz).pages.length = d.pages.length:=by
  show (Af.Dk _ d'.pages d'.row).length = _;grind
 refine ⟨rfl,rfl,⟨by rw [hlen];exact hw.1,by rw [hlen];exact hw.2.1,hpw.2,(by intro x hx;cases hx),by show (-1:Int) <= -1;omega,by show (-1:Int) <= _;omega⟩,rfl,hlen,fun j => ?_⟩;show (Af.Dk _ d'.pages d'.row).getD j [] = _;rw [hp,hr,Af.Lh _ _ _ _ _ hm];have hsj:d.seen j = d.pages.getD j []:=by unfold Af.seen;rw [hrow];rfl
 grind
structure Back (K f n:Nat) (d d2:Af) (R R':List (List UInt8)):Prop where
 good:Good K (AY f (Aw d2 f n),d2)
 left:d2.left = -1
 oth:Oth f n d d2
 recs:(AY f (Aw d2 f n)).records = R \/ (AY f (Aw d2 f n)).records = R'
theorem JM (f n:Nat) (d:Af):(AY f (Aw d f n)).n = n:=Bq d f n
theorem RN {d2:Af} (h1:d2.dead = false) (h2:d2.row = []) (h3:d2.wf) (h4:f + n <= d2.pages.length) (h5:2 <= n) (h6:∀ j,j < n->DZ K (d2.seen (f + j))):Good K (AY f (Aw d2 f n),d2):=by
 refine ⟨h1,h2,⟨?_, ?_, ?_,h3⟩, ?_⟩
 ·show AY f (Aw d2 f n) = AY f (Aw d2 f (AY f (Aw d2 f n)).n);rw [JM]
 simp_all [AY,Aw]
 simp_all [AY,Aw]
 simp_all [AY,Aw]
theorem Tm {pages Aat:List (List UInt8)} {S:BitVec 64} {b:List UInt8} (hh:(AY f pages).Dx = true) (hS:(Ad.newest pages).toNat < S.toNat) (hk:many b < 65536)
  (hout:∀ j,(j < (AY f pages).end' \/ (AY f pages).end' + many b <= j)->Aat[j]? = pages[j]?)
  (hin:∀ i,i < many b->∃ p',Aat[(AY f pages).end' + i]? = some p'/\(pages[(AY f pages).end' + i]? = some p' \/ p' = AA.page ⟨S,i,many b,part b i⟩ \/ (CE p').2 = false)) :
  (AY f Aat).records = (AY f pages).records \/ (AY f Aat).records = (AY f pages).records ++ [b]:=by
 have hh':Di (Ah pages) = true:=hh;have hee:(AY f pages).end' = (readAll (Ah pages)).1:=by show (if Di (Ah pages) then _ else _) = _;grind
 have hrr:(AY f pages).records = (readAll (Ah pages)).2.2:=by show (if Di (Ah pages) then _ else _) = _;grind
 rw [hee] at hout hin;obtain ⟨a,c⟩:=Oj hh' hS hk hout hin;have hr':(AY f Aat).records = (readAll (Ah Aat)).2.2:=by show (if Di (Ah Aat) then _ else _) = _;grind
 grind
theorem MK {pages Aat:List (List UInt8)} {S:BitVec 64} (hS:(Ad.newest pages).toNat < S.toNat) (hout:∀ j,1 <= j->Aat[j]? = pages[j]?)
  (hin:Aat[0]? = pages[0]? \/ Aat[0]? = some (AA.page ⟨S,0,0,[]⟩) \/ ∃ p,Aat[0]? = some p/\(CE p).2 = false) :
  (AY f Aat).records = (AY f pages).records \/ (AY f Aat).records = []:=by
 obtain ⟨a,c⟩:=MB hS hout hin
 by_cases h:Aat[0]? = some (AA.page ⟨S,0,0,[]⟩)
 ·right
  show (if Di (Ah Aat) then (readAll (Ah Aat)).2.2 else []) = []
  grind
 ·rcases c h with c | c
  ·left
   show (if Di (Ah Aat) then (readAll (Ah Aat)).2.2 else []) = (if Di (Ah pages) then (readAll (Ah pages)).2.2 else [])
   rw [c]
  ·right
   show (if Di (Ah Aat) then (readAll (Ah Aat)).2.2 else []) = []
   rw [c];rfl
theorem MG (i:Nat):part [] i = []:=by simp [part]
theorem seen_none (hj:n <= j):(Aw d f n)[j]? = none:=List.getElem?_eq_none (by rw [Bq];omega)
def Ht (l:Ad):Ad:={ l with stamp:=l.stamp + 1#64,Dx:=true,records:=[],end':=1 }
theorem Qa (h:Good K s) (hK:K + 1 < 65536) :
  (∃ d',head s = (({ s.1 with stamp:=s.1.stamp + 1#64 },d'),0)/\Good (K + 1) (Ht s.1,d')/\Oth s.1.first s.1.n s.2 d'/\(s.2.left < 0->d'.left = s.2.left)) \/
  (0 <= s.2.left/\∃ d',head s = (({ s.1 with stamp:=s.1.stamp + 1#64 },d'),9)/\d'.dead = true/\d'.row.length <= 4096/\∀ Bz,Back (K + 256) s.1.first s.1.n s.2 (d'.BJ Bz) s.1.records []):=by
 have hfit:=h.fine.2.1;have hn2:=h.fine.2.2.1;have hw:=h.fine.2.2.2;have hst:=h.JK;have hnx:=h.next aP;obtain ⟨S,hS⟩:=az (s.1.stamp + 1#64);have hput:∀ d,put { s.1 with stamp:=S,end':=0 } 0 [] 1 0 d = (let r:=d.write s.1.first (AA.page ⟨S,0,0,[]⟩);if r.2 ≠ 0 then r else (r.1,0)):=fun d=>by
  rfl
 have hnew:(Ad.newest (Aw s.2 s.1.first s.1.n)).toNat < S.toNat:=by rw [h.newest, <-hS,hnx];omega
 have hhead:head s = (let r:=s.2.write (s.1.first:Int) (AA.page ⟨S,0,0,[]⟩);if r.2 ≠ 0 then (({ s.1 with stamp:=S },r.1),r.2) else (({ s.1 with stamp:=S },r.1.sync.1),r.1.sync.2)):=by
  unfold head;grind
 rcases UT h.dd hw h.row { s.1 with stamp:=S,end':=0 } 0 [] 1 bg with ⟨d1,d',q1,q2,q3,q4,q5,q6,q7,q8⟩ | ⟨q0,d',q1,q2,m,q3,q4,q5⟩
 ·left
  change ∀ j,d'.seen j = if s.1.first + 0 <= j/\j < s.1.first + 0 + 1 then AA.page ⟨S,_,0,part [] _⟩ else _ at q8
  have Aja:Aw d' s.1.first s.1.n = Eh (Aw s.2 s.1.first s.1.n) S:=by
   refine Gx (by rw [IP,Bq]) fun j hj => ?_;rw [q8,Eh]
   by_cases h0:j = 0
   simp_all [Bq,MG]
   ·rw [List.getElem?_set_ne aP,if_neg aP,Cc _ _ _ _ hj]
  have AlJ:=Tn (f:=s.1.first) (S:=S) hnew (by rw [Bq];omega)
  rw [Bq, <-Aja] at AlJ;refine ⟨d', ?_,⟨q3,q4,⟨?_,by show s.1.first + s.1.n <= d'.pages.length;omega,hn2,q5⟩, ?_⟩,⟨q6,fun j hj => ?_⟩,q7⟩
  grind
  ·show Ht s.1 = AY s.1.first (Aw d' s.1.first s.1.n)
   rw [AlJ,Ht,hS,h.ld]
  ·intro j hj
   change j < s.1.n at hj
   show DZ _ (d'.seen (s.1.first + j))
   rw [q8];split
   grind [JW,MG]
   ·exact (h.pg j hj).mono aP
  grind
 ·right
  have hrl:d'.row.length <= 4096:=bg
  refine ⟨q0,d', ?_,q2,hrl,fun Bz => ?_⟩
  grind
  ·obtain ⟨t1,t2,t3,t4,t5,t6⟩:=Ur hw h.row q4 (s.1.first + 0) m _ (fun t=>AA.ES (CX _ _)) q5 aP Bz
   simp only [MG] at t6;have Afk:∀ j,j < s.1.n->((d'.BJ Bz).seen (s.1.first + j) = s.2.seen (s.1.first + j) \/ j = 0/\((d'.BJ Bz).seen s.1.first = AA.page ⟨S,0,0,[]⟩ \/ (CE ((d'.BJ Bz).seen s.1.first)).2 = false))/\DZ (K + 256) ((d'.BJ Bz).seen (s.1.first + j)):=by
    intro j hj;rw [t6 (s.1.first + j)]
    split
    ·rename_i hc;obtain rfl:j = 0:=aP
     have ht:=Rj (K:=s.1.stamp.toNat) ⟨S,0,0,[]⟩ bu bg bg (h.page hj) (Af.Xm Bz 0);have e0:=t6 s.1.first
     rw [if_pos aP] at e0;simp only [Nat.add_zero,Nat.sub_self] at e0 ht ⊢;rw [e0];obtain ⟨ht1,ht2⟩:=ht;refine ⟨?_,ht2.mono bg⟩
     grind
    ·exact ⟨.inl rfl,(h.pg j hj).mono aP⟩
   refine ⟨RN t1 t2 t3 aP hn2 bg,t4,⟨t5,fun j hj=>bg⟩, ?_⟩;have hrec:=MK (f:=s.1.first) (pages:=Aw s.2 s.1.first s.1.n) (Aat:=Aw (d'.BJ Bz) s.1.first s.1.n) (S:=S) hnew
    (fun j hj=>by
     by_cases hjn:j < s.1.n
     ·rw [Cc _ _ _ _ hjn,Cc _ _ _ _ hjn,t6,if_neg aP]
     simp_all [seen_none])
    (by
     rw [Cc _ _ _ _ aP,Cc _ _ _ _ aP]
     rcases (Afk 0 aP).1 with hx | ⟨-,hx | hx⟩
     grind
     grind
     grind)
   rw [<-h.fine.1] at hrec;omega
def JQ (l:Ad) (b:List UInt8):Ad:={ l with stamp:=l.stamp + 1#64,records:=l.records ++ [b],end':=l.end' + many b }
theorem Ut (h:Good K s) (hh:s.1.Dx = true) (hK:K + 1 < 65536) (b:List UInt8) (hm:many b <= s.1.n - s.1.end') :
  (∃ d',step3 b s = (({ s.1 with stamp:=s.1.stamp + 1#64 },d'),0)/\Good (K + 1) (JQ s.1 b,d')/\Oth s.1.first s.1.n s.2 d'/\(s.2.left < 0->d'.left = s.2.left)) \/
  (0 <= s.2.left/\∃ d',step3 b s = (({ s.1 with stamp:=s.1.stamp + 1#64 },d'),9)/\d'.dead = true/\d'.row.length <= 4096/\∀ Bz,Back (K + 256) s.1.first s.1.n s.2 (d'.BJ Bz) s.1.records (s.1.records ++ [b])):=by
 have hfit:=h.fine.2.1;have hn2:=h.fine.2.2.1;have hw:=h.fine.2.2.2;have hst:=h.JK;have hnx:=h.next aP;have hend:=h.ends;have Bdq:=hw.2.1;obtain ⟨S,hS⟩:=az (s.1.stamp + 1#64);have hnew:(Ad.newest (Aw s.2 s.1.first s.1.n)).toNat < S.toNat:=by rw [h.newest, <-hS,hnx];omega
 have Auc:(AY s.1.first (Aw s.2 s.1.first s.1.n)).Dx = true:=by rw [<-h.fine.1];omega
 have AnM:(AY s.1.first (Aw s.2 s.1.first s.1.n)).end' = s.1.end':=by rw [<-h.fine.1]
 have Aud:(AY s.1.first (Aw s.2 s.1.first s.1.n)).records = s.1.records:=by rw [<-h.fine.1]
 rcases UT h.dd hw h.row { s.1 with stamp:=S } (many b) b (many b) bg with ⟨d1,d',q1,q2,q3,q4,q5,q6,q7,q8⟩ | ⟨q0,d',q1,q2,m,q3,q4,q5⟩
 ·left
  change ∀ j,d'.seen j = if s.1.first + s.1.end' <= j/\j < s.1.first + s.1.end' + many b then AA.page ⟨S,j - (s.1.first + s.1.end'),many b,part b _⟩ else _ at q8
  have Aja:Aw d' s.1.first s.1.n = Fp (Aw s.2 s.1.first s.1.n) s.1.end' S b:=by
   refine Gx (by rw [JD,Bq]) fun j hj => ?_;rw [q8,FZ,Bq,if_pos hj]
   by_cases hc:s.1.end' <= j/\j < s.1.end' + many b
   grind
   ·rw [if_neg hc,if_neg aP,Cc _ _ _ _ hj]
  have AlJ:=Vd (f:=s.1.first) (S:=S) (b:=b) Auc hnew aP (by rw [AnM,Bq];omega)
  rw [AnM,Aud,Bq, <-Aja] at AlJ;refine ⟨d', ?_,⟨q3,q4,⟨?_,by show s.1.first + s.1.n <= d'.pages.length;omega,hn2,q5⟩, ?_⟩,⟨q6,fun j hj => ?_⟩,q7⟩
  simp_all [step3]
  ·show JQ s.1 b = AY s.1.first (Aw d' s.1.first s.1.n)
   rw [AlJ,JQ,hS,h.ld,hh]
  ·intro j hj
   change j < s.1.n at hj
   show DZ _ (d'.seen (s.1.first + j))
   rw [q8];split
   grind [JW,CX]
   ·exact (h.pg j hj).mono aP
  grind
 ·right
  have hrl:d'.row.length <= 4096:=bg
  refine ⟨q0,d', ?_,q2,hrl,fun Bz => ?_⟩
  ·unfold step3;grind
  ·obtain ⟨t1,t2,t3,t4,t5,t6⟩:=Ur hw h.row q4 (s.1.first + s.1.end') m _ (fun t=>AA.ES (CX _ _)) q5 aP Bz
   have Afk:∀ j,j < s.1.n->((d'.BJ Bz).seen (s.1.first + j) = s.2.seen (s.1.first + j) \/ (s.1.end' <= j/\j < s.1.end' + many b)/\((d'.BJ Bz).seen (s.1.first + j) = AA.page ⟨S,j - s.1.end',many b,part b (j - s.1.end')⟩ \/ (CE ((d'.BJ Bz).seen (s.1.first + j))).2 = false))/\DZ (K + 256) ((d'.BJ Bz).seen (s.1.first + j)):=by
    intro j hj;rw [t6 (s.1.first + j)]
    split
    ·rename_i hc;rw [show s.1.first + j - (s.1.first + s.1.end') = j - s.1.end' from aP]
     have ht:=Rj (K:=s.1.stamp.toNat) ⟨S,j - s.1.end',many b,part b (j - s.1.end')⟩ (CX _ _) bg bg (h.page hj) (Af.Xm Bz (j - s.1.end'));obtain ⟨ht1,ht2⟩:=ht;refine ⟨?_,ht2.mono bg⟩
     grind
    ·exact ⟨.inl rfl,(h.pg j hj).mono aP⟩
   refine ⟨RN t1 t2 t3 aP hn2 bg,t4,⟨t5,fun j hj=>bg⟩, ?_⟩;have hrec:=Tm (f:=s.1.first) (pages:=Aw s.2 s.1.first s.1.n) (Aat:=Aw (d'.BJ Bz) s.1.first s.1.n) (S:=S) (b:=b) Auc hnew aP
    (fun j hj=>by
     rw [AnM] at hj
     by_cases hjn:j < s.1.n
     ·rw [Cc _ _ _ _ hjn,Cc _ _ _ _ hjn,t6,if_neg aP]
     ·rw [seen_none aP,seen_none aP])
    (fun i hi=>by
     rw [AnM,Cc _ _ _ _ aP,Cc _ _ _ _ aP];refine ⟨_,rfl, ?_⟩
     rcases (Afk (s.1.end' + i) aP).1 with hx | ⟨-,hx | hx⟩
     grind
     grind
     grind)
   grind
theorem Nk (h:Good K s) (hK:K + 2 < 65536) (b:List UInt8) :
  (s.1.n - s.1.end' < many b/\Ag b s = (s,4)) \/
  (many b <= s.1.n - s.1.end'/\∃ s',Ag b s = (s',0)/\Good (K + 2) s'/\s'.1.records = s.1.records ++ [b]/\s'.1.end' = s.1.end' + many b/\s'.1.n = s.1.n/\s'.1.first = s.1.first/\Oth s.1.first s.1.n s.2 s'.2/\(s.2.left < 0->s'.2.left = s.2.left)) \/
  (0 <= s.2.left/\∃ s',Ag b s = (s',9)/\s'.1.dead = true/\s'.2.dead = true/\s'.2.row.length <= 4096/\s'.1.n = s.1.n/\s'.1.first = s.1.first/\∀ Bz,Back (K + 257) s.1.first s.1.n s.2 (s'.2.BJ Bz) s.1.records (s.1.records ++ [b])):=by
 by_cases hm:s.1.n - s.1.end' < many b
 ·exact .inl ⟨hm,VW h.ld h.dd b hm⟩
 right
 have ApT:step1 b s = (s,0):=by unfold step1;grind
 have hcom:Ag b s = steps [step2,step3 b,step4 b] s:=by
  unfold Ag alive;rw [h.ld,h.dd];simp_all [steps]
 rw [hcom];have h2:(∃ s2,step2 s = (s2,0)/\Good (K + 1) s2/\s2.1.Dx = true/\s2.1.records = s.1.records/\s2.1.end' = s.1.end'/\s2.1.n = s.1.n/\s2.1.first = s.1.first/\Oth s.1.first s.1.n s.2 s2.2/\(s.2.left < 0->s2.2.left = s.2.left)) \/
   (0 <= s.2.left/\∃ s',step2 s = (s',9)/\s'.2.dead = true/\s'.2.row.length <= 4096/\s'.1.n = s.1.n/\s'.1.first = s.1.first/\∀ Bz,Back (K + 256) s.1.first s.1.n s.2 (s'.2.BJ Bz) s.1.records s.1.records):=by
  unfold step2
  cases hh:s.1.Dx with
  | true =>
   left
   refine ⟨s,bu,⟨h.dd,h.row,h.fine,fun j hj=>(h.pg j hj).mono aP⟩,hh,rfl,rfl,rfl,rfl,Oth.refl _ _ _,bu⟩
  | false =>
   have hraw:s.1.records = []/\s.1.end' = 1:=by
    have hh':Di (Ah (Aw s.2 s.1.first s.1.n)) = false:=by
     have:=congrArg Ad.Dx h.fine.1;rw [hh] at this;exact this.symm
    rw [h.fine.1];refine ⟨?_, ?_⟩
    ·show (if Di _ then _ else _) = _;grind
    ·show (if Di _ then _ else _) = _;grind
   rcases Qa h aP with ⟨d',q1,q2,q3,q4⟩ | ⟨q0,d',q1,q2,qr,q3⟩
   simp_all [Ht]
   grind
 rcases h2 with ⟨s2,e2,g2,hh2,r2,d2,n2,f2,o2,l2⟩ | ⟨q0,s',e2,g2,qr2,n2,f2,b2⟩
 ·rw [steps,e2];simp only [ne_eq,not_true_eq_false,if_false]
  rcases Ut g2 hh2 aP b aP with ⟨d',q1,q2,q3,q4⟩ | ⟨q0,d',q1,q2,qr3,q3⟩
  ·left
   refine ⟨aP,(JQ s2.1 b,d'), ?_,q2, ?_, ?_,n2,f2, ?_,fun hl => ?_⟩
   grind [steps,step4,JQ]
   ·show s2.1.records ++ [b] = _;grind
   ·show s2.1.end' + many b = _;omega
   ·rw [n2,f2] at q3;exact o2.trans q3
   grind
  ·right
   refine ⟨?_,({ s2.1 with stamp:=s2.1.stamp + 1#64,dead:=true },d'), ?_,rfl,q2,qr3,n2,f2,fun Bz => ?_⟩
   omega
   ·rw [steps,q1];simp
   ·have:=q3 Bz;rw [n2,f2,r2] at this;exact ⟨this.good,this.left,o2.trans this.oth,this.recs⟩
 ·right
  refine ⟨q0,({ s'.1 with dead:=true },s'.2), ?_,rfl,g2,qr2,n2,f2,fun Bz => ?_⟩
  ·rw [steps,e2];simp
  ·have:=b2 Bz;refine ⟨⟨this.good.dd,this.good.row,this.good.fine,fun j hj=>(this.good.pg j hj).mono aP⟩,this.left,this.oth, ?_⟩
   rcases this.recs with hx | hx <;> exact .inl hx
theorem UL (h:Good K s) (hK:K + 1 < 65536) :
  (∃ s',reset s = (s',0)/\Good (K + 1) s'/\s'.1.records = []/\s'.1.end' = 1/\s'.1.n = s.1.n/\s'.1.first = s.1.first/\Oth s.1.first s.1.n s.2 s'.2/\(s.2.left < 0->s'.2.left = s.2.left)) \/
  (0 <= s.2.left/\∃ s',reset s = (s',9)/\s'.1.dead = true/\s'.2.dead = true/\s'.2.row.length <= 4096/\s'.1.n = s.1.n/\s'.1.first = s.1.first/\∀ Bz,Back (K + 256) s.1.first s.1.n s.2 (s'.2.BJ Bz) s.1.records []):=by
 unfold reset alive;rw [h.ld,h.dd];rcases Qa h hK with ⟨d',q1,q2,q3,q4⟩ | ⟨q0,d',q1,q2,qr,q3⟩
 simp_all [Ht,steps,Hr]
 simp_all [steps]
theorem Good.oth {d':Af} (h:Good K s) (ho:Oth f n s.2 d') (hd:d'.dead = false) (hr:d'.row = []) (hw:d'.wf) (hap:s.1.first + s.1.n <= f \/ f + n <= s.1.first):Good K (s.1,d'):=by
 have hs:∀ j,j < s.1.n->d'.seen (s.1.first + j) = s.2.seen (s.1.first + j):=fun j hj=>ho.2 _ aP
 refine ⟨hd,hr,⟨?_,by rw [ho.1];exact h.fine.2.1,h.fine.2.2.1,hw⟩,fun j hj => ?_⟩
 ·have:Aw d' s.1.first s.1.n = Aw s.2 s.1.first s.1.n:=Gx (Bq _ _ _) fun j hj=>by grind [Cc]
  rw [this];exact h.fine.1
 ·rw [hs j hj];exact h.pg j hj
end Ad
attribute [local go_sem ↓] Go.wp_at_zero Go.wp_at_succ
structure Zl where
 reset:Bool
 b:UInt8
 n:Int
 bG:Int
namespace Zl
def cells (a:Zl):List Value:=[.bool a.reset, .int .u8 (a.b.toNat:Int), .int .u16 a.n, .int .u8 a.bG]
def ok (a:Zl):Prop:=(0 <= a.n/\a.n <= 65535)/\0 <= a.bG/\a.bG <= 255
def text (a:Zl):List UInt8:=iJ a.b (a.n % 3000).toNat
end Zl
def iZ (w:World) (o:Own) (v:Value) (l:List Zl):Prop:=
 ((∃ a c,v = .slice a 0 c)/\l = []) \/ ∃ b:Nat,∃ off cap,v = .slice (some (aW b off)) l.length cap/\l.length <= cap/\cap <= maxLen/\(o b).1 = 0/\b < w.heap.size /\
  ∀ i (h:i < l.length),w.rangeAt b (off + i * 4) l[i].cells/\l[i].ok
section
variable {H:Type} {enc:TypeId × Value->H} {W:World}
end
def EN (M:Nat):Nat->Prop:=fun k=>M < k
section
variable {M:Nat} {w w1:World} {o o1:Own}
theorem aj.LW (h:aj ai w o w1 o1):aj (EN M) w o w1 o1:=h.mono fun _k hk=>hk.elim
theorem aj.Hm (h:aj (EN M) w o w1 o1) (hM:∀ k,k < w.heap.size->(o k).1 <= M):aj ai w o w1 o1:=
 ⟨h.os,h.tape,h.output,h.size,h.own,fun k hk _=>h.block k hk (fun hx=>by have:=hM k hk;change M < _ at hx;omega)⟩
end
namespace Ad
theorem PP (f k:Nat):AY f (List.replicate k Af.blank) = raw f k 0:=by
 unfold AY raw;rw [TJ,MN,List.length_replicate];rfl
theorem Ti:DZ 0 Af.blank:=⟨by rfl,by decide +kernel,by decide +kernel,by decide +kernel⟩
theorem UC (k f n:Nat) (h:f + n <= k):Aw (Af.new k) f n = List.replicate n Af.blank:=by
 refine Gx bu fun j hj => ?_;grind [Af.seen,Af.seenIn,Af.new]
theorem fB (h1:1 <= k) (h2:k <= 4096):(Af.new k).wf:=by
 refine ⟨by simpa [Af.new] using h1,by simpa [Af.new] using h2,fun p hp => ?_,by simp [Af.new],by simp [Af.new],by simp [Af.new]⟩;rw [List.eq_of_mem_replicate hp];rfl
theorem VF (h:f + n <= k) (hn:2 <= n) (hk:k <= 4096):Good 0 (raw f n 0,Af.new k):=by
 refine ⟨rfl,rfl,⟨?_,by show f + n <= (Af.new k).pages.length;simpa [Af.new] using h,hn,fB aP hk⟩,fun j hj => ?_⟩
 ·show raw f n 0 = AY f (Aw (Af.new k) f n);rw [UC k f n h,PP]
 ·have hj':j < n:=hj;have:(Af.new k).seen (f + j) = Af.blank:=by grind [Af.seen,Af.seenIn,Af.new]
  show DZ 0 ((Af.new k).seen (f + j));rw [this];exact Ti
theorem Good.mono {K':Nat} (h:Good K s) (hK:K <= K'):Good K' s:=⟨h.dd,h.row,h.fine,fun j hj=>(h.pg j hj).mono hK⟩
structure jF (K:Nat) (a b:Ad) (d:Af) (s:Ad × Af):Prop where
 ga:Good K (a,d)
 gb:Good K (b,d)
 gs:Good K s
 ld:d.left < 0
 ls:s.2.left < 0
 fa:a.first = 0/\a.n = 8
 fb:b.first = 8/\b.n = 8
 fs:s.1.n = 8
 re:s.1.records = a.records/\s.1.end' = a.end'
end Ad
section
variable {w:World} {o:Own} {L D p pd:Nat} {s:Ad × Af}
end
def Qi (W:World) (o:Own) (t:Nat × Nat):Own:=fun k=>if k < W.heap.size then o k else t
theorem aj.retag {T:Nat->Prop} (hs:aj T w o w' o') (t:Nat × Nat):aj T w o w' (Qi w o t):=⟨hs.os,hs.tape,hs.output,hs.size,fun _ hk=>if_pos hk,hs.block⟩
theorem VM {W:World} {t:Nat × Nat} (h:W.heap.size <= k):Qi W o t k = t:=if_neg aP
section
variable {P:Program} {ops:Array Oper} {Q:Exit->Act->World->Prop} {md:Region.Mode} {S:World->Prop} {need:Nat->Bool}
def Shut (md:Region.Mode) (ops:Array Oper) (idx:List Nat) (s:List Bool):Prop:=∀ (k i:Nat),s[k]? = some true->idx[k]? = some i->∀ (j i':Nat),idx[j]? = some i'->JF md ops i i' = true->s[j]? = some true
def iC (md:Region.Mode) (ops:Array Oper) (idx:List Nat) (s:List Bool):Bool:=
 idx.zipIdx.all fun x=>idx.zipIdx.all fun y => !(s.getD x.2 false) || !(JF md ops x.1 y.1) || s.getD y.2 false
def iW (md:Region.Mode) (ops:Array Oper) (l:Array Bool) (idx:List Nat) (AcB:List Nat):Bool:=
 (idx.length == AcB.length) && decide idx.Nodup && decide AcB.Nodup && (idx.all fun i => !l.getD i false) && ((idx.zip AcB).all fun x=>match ops[x.1]? with | some o=>o.dst == some x.2 | none=>false) &&
 (Gw idx.length).all fun s => !(iC md ops idx s) || (s.all (fun b=>b) || (let rd:=Region.ready md ops (CS l idx s); !rd.isEmpty && rd.all (fun i=>idx.contains i)))
end
theorem append_empty (W:World) (t ty e:TypeId) {zs:List Value} {bytes:Nat} (ht:P.underlying t = some (.slice e))
  (hi:(P.info? e).map (fun i=>(i.zero.map (fun z=>z.cells.toList),i.size,i.bytes)) = some (some zs,size,bytes)) (hzs:zs.length = size)
  (a0:Option Addr) (b off m c:Nat) (news:List Value) (hl:news.length = m * size) (hr:W.rangeAt b off news) (h1:∀ u ∈ news,u.oneCell' = true)
  (hm:0 < m) (h63:m <= 1000000000) (hbytes:m * bytes <= 140737488355328) :
  ∃ cap w',(Builtin.append_ #[t,t] ty #[.slice a0 0 0, .slice (some (aW b off)) m c]).run P W = .ok (.slice W.heap.size m cap) w' /\
   w'.ownsRow W.heap.size e size (.slice W.heap.size m cap) m news/\Below W.heap.size W w':=by
 obtain ⟨i,z,hq,hz,e2,e3,e4⟩:=TQ hi;subst e2 e3;have hsrc:Src P i.size t (.slice (some (aW b off)) m c) m news W:=Src.ofSlice W ht (aW b off) m c news hl (fun j u hu=>by rw [Addr.add_mid];exact hr j u hu) h1;have hold:(Builtin.firstCells i.size 0 (.slice a0 0 0)).run P W.drew = .ok #[] W.drew:=by
  cases a0 with
  | none=>rfl
  | some x=>exact run_firstCells_some W.drew i.size 0 x 0 0 [] bu bu
 have hnext:Builtin.nextslicecap (0 + m) 0 = m:=by grind [Builtin.nextslicecap]
 have hrun:=run_append_grow_src (P:=P) W t t ty e i z ht hq hz a0 0 0 [] hold (.slice (some (aW b off)) m c) m news hsrc aP aP bg;rw [Nat.zero_add] at hrun;refine ⟨_,_,hrun,⟨hl, .inr ⟨W.heap.size,_,_,rfl,bu,heap_alloc_new W.drew _,grownCap_ge _ _ _ _,grownCap_le_maxLen _ _ _ _ (by simp [maxLen];omega), ?_, ?_⟩⟩, ?_⟩
 ·have hge:=grownCap_ge W m 0 e;simp [Array.size_append,List.size_toArray,size_zeroCells,List.nil_append,hl];rw [e4];simp [List.size_toArray,hzs, <-Nat.add_mul];grind
 grind
 ·exact ⟨rfl,rfl,rfl,bu,fun k hk=>Below.heap_alloc _ _ _ (by simp_all)⟩
theorem aj.OT (h:Below w.heap.size w w') (t:Nat × Nat):aj ai w o w' (Qi w o t):=⟨h.os,h.tape,h.output,h.size,fun _ hk=>if_pos hk,fun k hk _=>h.block k hk⟩
theorem JX {b' e:Nat} {xs:List Value} (h:w.ownsRow b e size v n xs) (hb:b' <= b):w.ownsRow b' e size v n xs:=by
 refine ⟨h.1, ?_⟩
 rcases h.2 with hn | ⟨g,cap,cur,rfl,h1,rest⟩
 grind
 ·exact .inr ⟨g,cap,cur,rfl,aP,rest⟩
namespace Ad
end Ad
structure Ar where
 e:BitVec 64
 b:List UInt8
def CV (base:Nat) (v:Value):Prop:=∀ k,v.ownBlock = some k->base <= k
theorem CV.zero (v:Value):CV 0 v:=fun _ _=>Nat.zero_le _
theorem CV.low {a:Nat} (h:CV a v) (hb:b <= a):CV b v:=fun k hk=>Nat.le_trans hb (h k hk)
theorem CV.own {e:Nat} {xs:List Value} (h:w.ownsRow b e size v n xs) (hb:base <= b):CV base v:=fun k hk=>Nat.le_trans hb (h.lt k hk).1
theorem CV.int (base:Nat) (k:IntKind) (n:Int):CV base (.int k n):=fun k hk=>by grind [Value.ownBlock]
theorem CV.nil (base:Nat) (n c:Nat):CV base (.slice none n c):=fun k hk=>by grind [Value.ownBlock]
def sW (w:World) (o:Own) (cs:List Value) (ls:List Ar):Prop:=
 cs.length = 2 * ls.length/\∀ i x,ls[i]? = some x->cs[2 * i]? = some (x.e:aV)/\∃ bv,cs[2 * i + 1]? = some bv/\Bytes w o bv x.b
theorem sW.step {T:Nat->Prop} {ls:List Ar} (h:sW w o cs ls) (s:aj T w o w' o') (hT:¬ T 0):sW w' o' cs ls:=
 ⟨h.1,fun i x hx=>by
  obtain ⟨h1,bv,h2,h3⟩:=h.2 i x hx;exact ⟨h1,bv,h2,h3.step s hT⟩⟩
theorem sW.nil (w:World) (o:Own):sW w o [] []:=⟨rfl,bu⟩
theorem sW.one {ls:List Ar} (h:sW w o cs ls):∀ u ∈ cs,u.oneCell' = true:=by
 intro u hu;obtain ⟨j,hj⟩:=List.mem_iff_getElem?.1 hu;have hjl:=(List.getElem?_eq_some_iff.1 hj).1;have hi:j / 2 < ls.length:=by have:=h.1;omega
 obtain ⟨h1,bv,h2,h3⟩:=h.2 (j / 2) _ (List.getElem?_eq_getElem hi)
 by_cases hp:2 * (j / 2) = j
 ·rw [hp,hj] at h1;cases h1;rfl
 ·have hq:2 * (j / 2) + 1 = j:=aP
  rw [hq,hj] at h2;cases h2;obtain ⟨a,c,rfl⟩:=Aq h3;rfl
theorem sW.append {c1 c2:List Value} {l1 l2:List Ar} (h1:sW w o c1 l1) (h2:sW w o c2 l2):sW w o (c1 ++ c2) (l1 ++ l2):=by
 refine ⟨by simp [h1.1,h2.1];omega,fun i x hx => ?_⟩
 by_cases hi:i < l1.length
 ·rw [List.getElem?_append_left hi] at hx;obtain ⟨a,bv,b,c⟩:=h1.2 i x hx;grind
 ·rw [List.getElem?_append_right aP] at hx;obtain ⟨a,bv,b,c⟩:=h2.2 _ x hx;have:=h1.1;grind
theorem sW.single (x:Ar) (h:Bytes w o bv x.b):sW w o [(x.e:aV),bv] [x]:=by
 refine ⟨rfl,fun i y hy => ?_⟩
 grind
def Lines (w:World) (o:Own) (base:Nat) (v:Value) (ls:List Ar):Prop:=∃ cs,sH w o v ls.length cs/\sW w o cs ls/\CV base v/\∀ u ∈ cs,CV base u
theorem Lines.step {T:Nat->Prop} {ls:List Ar} (h:Lines w o base v ls) (s:aj T w o w' o') (hT:¬ T 0):Lines w' o' base v ls:=by
 obtain ⟨cs,h1,h2,h3,h4⟩:=h;exact ⟨cs,h1.step s hT,h2.step s hT,h3,h4⟩
theorem Lines.low {ls:List Ar} (h:Lines w o base v ls) (hb:b <= base):Lines w o b v ls:=by
 obtain ⟨cs,h1,h2,h3,h4⟩:=h;exact ⟨cs,h1,h2,h3.low hb,fun u hu=>(h4 u hu).low hb⟩
theorem Lines.nil (w:World) (o:Own) (base:Nat):Lines w o base (.slice none 0 0) []:=⟨[], .inl ⟨⟨_,_,rfl⟩,rfl,rfl⟩,sW.nil w o,CV.nil _ _ _,bu⟩
theorem Lines.form {ls:List Ar} (h:Lines w o base v ls):∃ a c,v = .slice a ls.length c:=by
 obtain ⟨cs,h1, -⟩:=h;exact Aq h1
theorem Lines.at {a:Option Addr} {c:Nat} {ls:List Ar} (h:Lines w o base (.slice a n c) ls) {i:Nat} {x:Ar} (hx:ls[i]? = some x) :
  ∃ b off bv,a = some ⟨b,off,none⟩/\w.rangeAt b (off + i * 2) [(x.e:aV),bv]/\Bytes w o bv x.b/\CV base bv/\b < w.heap.size/\(o b).1 = 0:=by
 obtain ⟨cs,h1,h2,h3,h4⟩:=h;have hi:=(List.getElem?_eq_some_iff.1 hx).1;obtain ⟨k1,bv,k2,k3⟩:=h2.2 i x hx
 rcases h1 with ⟨_,h0, -⟩ | ⟨b,off,cap,hv,y1,y2,y3,y4,y5⟩
 omega
 ·obtain ⟨rfl,rfl,rfl⟩:=hv;refine ⟨b,off,bv,rfl,fun j v hj => ?_,k3,h4 bv (List.mem_of_getElem? k2),y4,y3⟩
  match j with
  | 0=>have:=y5 _ _ k1;grind
  | 1=>have:=y5 _ _ k2;grind
  | j + 2=>grind
def Ar.enc (x:Ar):List UInt8:=be 8 x.e ++ (be 4 (BitVec.ofNat 64 x.b.length) ++ x.b)
def encs (ls:List Ar):List UInt8:=ls.flatMap Ar.enc
def GR (ls:List Ar):List UInt8:=be 8 (BitVec.ofNat 64 ls.length) ++ encs ls
theorem Jj (x:Ar):x.enc.length = 12 + x.b.length:=by simp [Ar.enc,Az];omega
theorem KU (ls:List Ar) (x:Ar):encs (ls ++ [x]) = encs ls ++ x.enc:=by simp [encs]
theorem Hf (ls:List Ar) (k:Nat):(encs (ls.take k)).length <= (encs ls).length:=by
 grind [encs,List.take_append_drop]
theorem bP (c:UInt8):be 1 (BitVec.ofNat 64 c.toNat) = [c]:=by
 have:(BitVec.ofNat 64 c.toNat).toNat = c.toNat:=bu
 show [pJ (BitVec.ofNat 64 c.toNat) 0] = [c];congr 1;apply UInt8.toNat_inj.1;rw [RZ,this];simp
theorem Ew.low {w2:World} (h:Ew w1 w2 o v l) (hs:w.heap.size <= w1.heap.size):Ew w w2 o v l:=⟨JX h.1 hs,h.2⟩
theorem Ew.step {T:Nat->Prop} {w2:World} {o1 o2:Own} (h:Ew w w1 o1 v l) (s:aj T w1 o1 w2 o2) (hT:¬ T 0):Ew w w2 o2 v l:=
 ⟨Ci h.1 fun k hk=>s.block k (h.1.lt k hk).2 (by rw [h.2 k hk];omega),fun k hk=>by rw [s.own k (h.1.lt k hk).2];exact h.2 k hk⟩
theorem Ew.cap (h:Ew w w1 o v l):capLe v:=fun a n c e=>by
 rcases h.1.2 with ⟨h1,h0⟩ | ⟨g,cap,cur,h1,q1,q2,q3,q4, -⟩
 grind
 grind [maxLen]
theorem Ew.fresh (h:Ew w w1 o v l):CV w.heap.size v:=CV.own h.1 bu
theorem Ew.congr {l':List UInt8} (h:Ew w w1 o v l) (e:l = l'):Ew w w1 o v l':=e ▸ h
theorem IG (h:Bytes w o v l) (hll:l.length <= 4000000) (c:UInt8) :
  Calls prog 58 #[v, .int .u8 (c.toNat:Int)] w (XL ai w o fun v w' o'=>Ew w w' o' v (l ++ [c])):=by
 have hc:=JJ h hll (BitVec.ofNat 64 c.toNat) 1 aP;rw [bP,fE] at hc;have hcl:=c.toNat_lt;go_enter func58,ntmps58;go_wp2_with fail;refine hc.mono ?_;rintro e w1 ⟨v1,o1,rfl,hs,hn⟩;go_wp2_with fail;go_ret;exact ⟨_,o1,rfl,hs,hn⟩
theorem QZ {sv:Value} {s:List UInt8} (h:Bytes w o v l) (hs:Bytes w o sv s) (hll:l.length <= 4000000) (hsl:s.length <= 4000000) :
  Calls prog 107 #[v,sv] w (XL ai w o fun v w' o'=>Ew w w' o' v (l ++ (be 4 (BitVec.ofNat 64 s.length) ++ s))):=by
 have hc:=JJ h hll (BitVec.ofNat 64 s.length) 4 aP;have e1:((BitVec.ofNat 64 s.length).toNat:Int) = (s.length:Int):=bg
 rw [e1] at hc;obtain ⟨sa,sc,rfl⟩:=Aq hs;obtain ⟨P,hP⟩:=az (l ++ be 4 (BitVec.ofNat 64 s.length));have hPl:P.length = l.length + 4:=by rw [<-hP];simp [Az]
 have hfin:l ++ (be 4 (BitVec.ofNat 64 s.length) ++ s) = P ++ s:=bg
 rw [hP] at hc;rw [hfin];have hsH:=ae hs;have hcH:=ae hc;have hsn:(0:Int) <= (s.length:Int)/\(s.length:Int) <= 4000000:=aP
 have vK:=ae hPl;clear hs hc e1 hP hPl hfin;go_enter func107,ntmps107;go_wp2_with fail;refine hcH.out.mono ?_;rintro e w1 ⟨v1,o1,rfl,hst,hn⟩;obtain ⟨a1,c1,rfl⟩:=BA hn.1;have hsb:=hsH.out.step hst id;have hcap:P.length <= c1:=by
  have:=vK.out
  rcases hn.1.2 with ⟨h1,h0⟩ | ⟨g,cap,cur,h1,q1,q2,q3,q4, -⟩
  omega
  grind
 have key:∃ nv w2 o2,(Builtin.append_ #[23,23] 23 #[.slice a1 P.length c1, .slice sa s.length sc]).run prog w1 = .ok nv w2/\aj ai w o w2 o2/\Ew w w2 o2 nv (P ++ s):=by
  have hlen:=vK.out
  by_cases h0:s.length = 0
  ·have hs0:=List.eq_nil_of_length_eq_zero h0;subst hs0;exact ⟨_,w1,o1,CB (P:=prog) w1 23 23 5 1 underlying23 bf a1 sa _ c1 sc hcap aP,hst,bg⟩
  ·rcases hsb.cases with ⟨_,h1⟩ | ⟨b,off,cap,e0,x1,x2,x3,x4,x5⟩
   grind
   ·simp only [Value.slice.injEq,true_and] at e0;obtain ⟨rfl,rfl⟩:=e0;obtain ⟨g,cp,w2,hrun,hown,hgrow, -, -⟩:=Es w1 hst.size _ _ _ hn.1 b off s.length sc s rfl x5 aP aP;have hb:Below w.heap.size w w2:=hst.below.grown hgrow hst.size (fun k hk=>(hn.1.lt k hk).1);refine ⟨_,w2,ext w o,hrun,⟨hb.os,hb.tape,hb.output,hb.size,fun k hk=>if_pos hk,fun k hk _=>hb.block k hk⟩, ?_,fun k hk=>if_neg (by have:=(hown.lt k hk).1;omega)⟩;grind
 obtain ⟨nv,w2,o2,hrun,hst2,hn2⟩:=key;have Aax:=ae hrun;clear hrun hn hst hsb hcH
 go_wp2_with ((with_reducible apply Bl);exact Aax.out;simp [Act.put])
 go_ret;exact ⟨_,o2,rfl,hst2,hn2⟩
theorem TR:(prog.info? 36).map (fun i=>(i.zero.map (fun z=>z.cells.toList),i.size,i.bytes)) = some (some [.int .u64 0, .slice none 0 0],2,32):=bf
theorem eY:((prog.info? 36).bind (·.zero)).map (·.cells) = some #[.int .u64 0, .slice none 0 0]:=bf
theorem TG {e:Int} (hr:w.rangeAt b off [.int .u64 e,bv]):(Instr.loadAt 36 (.pointer (some (aW b off)))).run prog w = .ok (.agg #[.int .u64 e,bv]) w:=by
 exact run_loadVar_mid w b off 36 [.int .u64 e,bv] _ hr underlying36 rfl bf
theorem Lm {ls:List Ar} (h:Bytes w o v l) (hl:Lines w o base lv ls) (hll:l.length + 8 + (encs ls).length <= 4000000) (hn:ls.length <= 100000) :
  Calls prog 85 #[v,lv] w (XL ai w o fun v w' o'=>Ew w w' o' v (l ++ GR ls)):=by
 obtain ⟨la,lc,rfl⟩:=hl.form;have hc:=Ef h aP (BitVec.ofNat 64 ls.length);have e1:((BitVec.ofNat 64 ls.length).toNat:Int) = (ls.length:Int):=bg
 rw [e1] at hc;obtain ⟨P,hP⟩:=az (l ++ be 8 (BitVec.ofNat 64 ls.length));have hPl:P.length = l.length + 8:=by rw [<-hP];simp [Az]
 have hfin:l ++ GR ls = P ++ encs ls:=by rw [<-hP];simp [GR]
 rw [hfin];rw [hP] at hc;obtain ⟨N,hN⟩:=az (ls.length);rw [hN] at hc hn ⊢;have hall:ls.take N = ls:=bg;have hlH:=ae hl;have hNH:=ae hN;have hcH:=ae hc;have pR:=ae hall;have vK:=ae hPl;have AbB:=ae hll;clear hl hN hc hall hP hPl hfin hll e1 h;rw [hNH.out] at hlH;go_enter func85,ntmps85;go_wp2_with fail;refine hcH.out.mono ?_;rintro e w1 ⟨v1,o1,rfl,hst,hnb⟩;clear hcH;go_wp2_with fail
 go_loopw [0,14] (fun bv i wr=>∃ (k:Nat) (oj:Own),k <= N/\i = .int .i64 k/\aj ai w o wr oj/\Ew w wr oj bv (P ++ encs (ls.take k))) (fun _ i _=>N - (intOf i).toNat)
 case atStart=>exact ⟨0,o1,aP,rfl,hst,hnb.congr (by simp [encs])⟩
 case round =>
  clear hst hnb;obtain ⟨k,oj,hk,rfl,hst,hnb⟩:=hrel
  by_cases hlt:k < N
  ·obtain ⟨x,hx⟩:∃ x,ls[k]? = some x:=⟨_,List.getElem?_eq_getElem (by rw [hNH.out];omega)⟩;obtain ⟨b,off,xv,hab,hrg,hby, -, -, -⟩:=(hlH.out.step hst id).at hx;subst hab;have hld:=ae (TG hrg);have hal:=ae (AB (P:=prog) wr 36 _ eY);have hsw:=Be wr #[.int .u64 0, .slice none 0 0] 36 [(x.e:aV),xv] rfl;have h1c:[(x.e:aV),xv].all (·.oneCell') = true:=by obtain ⟨xa,xc,rfl⟩:=Aq hby;rfl
   obtain ⟨hso, -⟩:=Ba (P:=prog) (ty:=36) (vs:=[(x.e:aV),xv]) (heap_alloc_new wr (.cells [.int .u64 0, .slice none 0 0].toArray 36)) rfl bf h1c;rw [hsw] at hso;have Aaz:=ae hso;have hsa:=(aj.refl ai wr oj).alloc (.cells [(x.e:aV),xv].toArray 36) (0,0);have hab:(wr.alloc (.cells [(x.e:aV),xv].toArray 36)).heap[wr.heap.size]? = some (.cells [(x.e:aV),xv].toArray 36 (0,0)):=heap_alloc_new wr _;have hby:=hby.step hsa id;have hnb:=hnb.step hsa id;have hst:=hst.trans hsa;have Aba:=hst.size;obtain ⟨ab,xM⟩:=az (wr.heap.size);obtain ⟨W1,hW1⟩:=az (wr.alloc (.cells [(x.e:aV),xv].toArray 36));rw [hW1] at Aaz hab hby hnb hst Aba;rw [xM] at hab hby hnb hst;generalize Ak oj ab (0,0) = O1 at *;have hsn:encs (ls.take (k + 1)) = encs (ls.take k) ++ x.enc:=by rw [List.take_add_one,hx];exact KU _ _
   have hle:=Hf ls (k + 1);rw [hsn,List.length_append,Jj] at hle;have hle2:P.length + (encs (ls.take k)).length + 12 + x.b.length <= 4000000:=by have:=vK.out;have:=AbB.out;omega
   obtain ⟨pre,hpre⟩:=az (P ++ encs (ls.take k));have yY:pre.length = P.length + (encs (ls.take k)).length:=bg
   rw [hpre] at hnb;have AbN:=ae hby;have Aar:=ae xM;have Aac:=ae (show P ++ encs (ls.take (k + 1)) = pre ++ x.enc by rw [hsn, <-hpre,List.append_assoc]);have rD:=ae (show pre.length + 12 + x.b.length <= 4000000 by omega);clear hsw hso hrg hsa xM hW1 hsn hle hle2 hpre yY h1c hby hx;have c0:W1.cell? ab = some (x.e:aV):=ag hab 0;have c1:W1.cell? (aW ab 1) = some xv:=ag hab 1
   go_wp2_with (first
    | ((with_reducible apply Bo);exact hld.out;simp only [Act.put,lsa,lsz,lss])
    | ((with_reducible apply AU);exact hal.out;simp only [Act.put,lsa,lsz,lss])
    | ((with_reducible apply AC);exact Aaz.out;simp only [Act.put]))
   rw [Aar.out];clear hld hal Aaz Aar;refine Aa (fun w'=>w'.cell? ab = some (x.e:aV)/\w'.cell? (aW ab 1) = some xv) (fun _=>true) bf ⟨c0,c1⟩ (fun hHeld => ?_);refine tq 0 (h:=tq 1 (h:=tq 2 (h:=tq 4 (h:=tq 5 (h:=tO 3 (h:=?_))))));go_wp2_with fail;have hdr:=(aj.refl ai W1 O1).drew;refine (Ef (hnb.step hdr id).bytes (by have:=rD.out;omega) x.e).mono ?_;rintro e w2 ⟨v2,o2,rfl,hs2,zQ⟩;have hs2:=hdr.trans hs2;have uK:=(hs2.block ab (au hab) id).trans hab;have hS2:=aI (ag (i:=0) uK) (ag (i:=1) uK);have AbO:=ae (AbN.out.step hs2 id);have hst:=hst.trans hs2;clear hs2 hdr hHeld;go_wp2_with fail;refine ⟨fun _=>hS2, ?_⟩;refine tO 6 (h:=?_);go_wp2_with fail;refine (QZ zQ.bytes AbO.out (by rw [List.length_append,Az];have:=rD.out;omega) (by have:=rD.out;omega)).mono ?_;rintro e w3 ⟨v3,o3,rfl,hs3,zO⟩;have xN:=(hs3.block ab (au uK) id).trans uK;have hS3:=aI (ag (i:=0) xN) (ag (i:=1) xN);have Aby:=(zO.low hst.size).congr (l':=P ++ encs (ls.take (k + 1))) (by rw [Aac.out];simp [Ar.enc]);have hst:=hst.trans hs3;clear hs3 zO zQ hS2;go_wp2_with fail;refine ⟨fun _=>hS3, ?_⟩;refine Dt (i:=7) (v := ?_) rfl bf (fun _ _ _ h=>h) (Or.inl ⟨by rfl, ?_⟩) bg ?_
   rotate_left
   ·intro w hSw;((try dsimp only at hSw);go_simp;(try with_reducible rfl))
   simp only [Act.put,lsa,lsz];refine tD (h:=?_);clear hS3 hab uK xN c0 c1 hnb;go_wp2_with fail;go_roundw
   grind
   case measure=>simp [intOf];omega
  ·obtain rfl:N = k:=aP
   rw [pR.out] at hnb;go_wp2_with fail;go_ret;exact ⟨_,oj,rfl,hst,hnb⟩
def str (l:List UInt8):Value := .string ⟨l.toArray⟩
def strs (ps:List (List UInt8)):List Value:=ps.map str
def iF (row:List (Nat × List UInt8)):List Value:=row.flatMap fun x=>[(x.1:aV),str x.2]
theorem Ahr (t u:TypeId) (x:Operand) (ho:op.op = .convert t u x) (h:(convert t u (a.eval x)).run P w = .ok v w'):(execOp a.eval op).run P w = .ok (.value v) w':=by
 grind [execOp,Sem.run_bind,Result.andThen_ok,Sem.run_pure]
def iV (o:Own) (n p E:Nat) (pv:Value):Own:=fun k=>if k < n then o k else if k = p then (E,0) else if pv.ownBlock = some k then (E,1) else (0,0)
theorem Aea (w:World) (l m:List UInt8) (hn:l.length + m.length <= 4000000):(binOp .add 9 (str l) (str m)).run prog w = .ok (str (l ++ m)) w:=by
 have hs:∀ l:List UInt8,(⟨l.toArray⟩:ByteArray).size = l.length:=fun l=>by rfl
 have hx:(⟨l.toArray⟩:ByteArray) ++ (⟨m.toArray⟩:ByteArray) = ⟨(l ++ m).toArray⟩:=by
  rfl
 simp [binOp,str,Op.stringOp,hs];(simp_all;omega)
theorem AdB (t:TypeId) (x:Operand) (lo hi mx:Option Operand) (ho:op.op = .slice t x lo hi mx)
  (h:(Instr.sliceAt t (a.eval x) (lo.map a.eval) (hi.map a.eval) (mx.map a.eval)).run P w = .ok v w'):(execOp a.eval op).run P w = .ok (.value v) w':=by
 grind [execOp,Sem.run_bind,Result.andThen_ok,Sem.run_pure]
theorem AmJ (t u:TypeId) (x y:Operand) (ho:op.op = .binOp .add t x y u)
  (h:(binOp .add t (a.eval x) (a.eval y)).run P w = .ok v w'):(execOp a.eval op).run P w = .ok (.value v) w':=by
 simp_all [execOp,eqGuard]
section
variable {w wr:World} {o o1:Own} {E p pg pc:Nat} {rv:Value} {d:Af} {ps:List (List UInt8)}
end
section
variable {P:Program} {ops:Array Oper} {Q:Exit->Act->World->Prop} {rest:List Oper} {d:Option Nat} {ty:TypeId} {ps:String} {af:Array _} {a:Act} {w w':World} {v:Value}
theorem AgZ {x y:Operand} {t u:TypeId} (hr:(binOp .add t (a.eval x) (a.eval y)).run P w = .ok v w') (h:wpList P ops Q rest (a.put d v) w') :
  wpList P ops Q ({ dst:=d,op := .binOp .add t x y u,type:=ty,pos:=ps,after:=af,guard:=none } :: rest) a w:=
 BV rfl (AmJ t u x y rfl hr) h
end
theorem AkT (l:List UInt8) (c:UInt8):IntKind.u64.wrap (IntKind.u64.wrap (256 * ((num l).toNat:Int)) + (c.toNat:Int)) = ((num (l ++ [c])).toNat:Int):=by
 rw [YH,YH,AhI];have hc:Dw [c] = c.toNat:=by simp [Dw]
 simp [IntKind.wrap,IntKind.bits,IntKind.signed,Nat.pow_one];grind
def iY (f:Nat->Bool):List Value:=(List.range 64).map fun i => .bool (f i)
theorem Xu (h:sH w o v n cs) (hcs:cs.length = n * 2) (h1:∀ u ∈ cs,u.oneCell' = true) (hn:n <= 4000000) :
  Calls prog 105 #[v] w (XL ai w o fun v' w' o'=>w'.ownsRow w.heap.size 36 2 v' n cs/\o' = ext w o):=by
 have hz:(w.alloc (.cells #[] 36)).ownsRow w.heap.size 36 2 (.slice w.heap.size 0 0) 0 []:=⟨rfl, .inr ⟨_,0, #[],rfl,bu,heap_alloc_new w _,aP,bu,rfl,rfl⟩⟩;have hbz:Below w.heap.size w (w.alloc (.cells #[] 36)):=(Below.refl _ _).alloc bu _;have fin:∀ (w':World) (v':Value),Below w.heap.size w w'->w'.ownsRow w.heap.size 36 2 v' n cs->XL ai w o (fun v' w' o'=>w'.ownsRow w.heap.size 36 2 v' n cs/\o' = ext w o) (.returned v') w':=fun w' v' hb ho =>
  ⟨_,ext w o,rfl,⟨hb.os,hb.tape,hb.output,hb.size,fun k hk=>if_pos hk,fun k hk _=>hb.block k hk⟩,ho,rfl⟩
 rcases h with ⟨⟨a,c,rfl⟩,rfl,rfl⟩ | ⟨b,off,cap,rfl,hl,hm,ho,hb,hr⟩
 ·cases a with
  | none =>
   have he:=FC w 32 36 none 0 c underlying32;go_enter func105,ntmps105
   go_wp2
   go_ret;exact fin _ _ (Below.refl _ _) (World.ownsRow_nil _ _ _ _)
  | some ad =>
   have he:=FC w 32 36 (some ad) 0 c underlying32;have hrun:=ae (CB (P:=prog) (w.alloc (.cells #[] 36)) 32 32 36 2 underlying32 bf (some ⟨w.heap.size,0,none⟩) (some ad) 0 0 c (Nat.le_refl _) aP);go_enter func105,ntmps105
   go_wp2_with ((with_reducible apply Bl);exact hrun.out;simp only [Act.put,lsa,lsz,lss])
   go_ret;exact fin _ _ hbz hz
 ·have he:=FC w 32 36 (some ⟨b,off,none⟩) n cap underlying32
  by_cases h0:n = 0
  ·subst h0;have hcs0:=List.eq_nil_of_length_eq_zero (by omega:cs.length = 0);subst hcs0;have hrun:=ae (CB (P:=prog) (w.alloc (.cells #[] 36)) 32 32 36 2 underlying32 bf (some ⟨w.heap.size,0,none⟩) (some ⟨b,off,none⟩) 0 0 cap (Nat.le_refl _) aP);go_enter func105,ntmps105
   go_wp2_with ((with_reducible apply Bl);exact hrun.out;simp only [Act.put,lsa,lsz,lss])
   go_ret;exact fin _ _ hbz hz
  ·have hr1:(w.alloc (.cells #[] 36)).rangeAt b off cs:=World.rangeAt_alloc hr _;obtain ⟨g,cp,w3,hrun,hown,hgrow,hat,hlt⟩:=DD (P:=prog) (w.alloc (.cells #[] 36)) 32 32 36 underlying32 TR rfl aP (base:=w.heap.size) bu _ 0 [] hz b off n cap cs hcs hr1 h1 aP aP aP;have hb3:=hbz.grown hgrow bu (fun k hk=>by simp only [Value.ownBlock,Option.some.injEq] at hk;omega);rw [Nat.zero_add,List.nil_append] at hown;rw [Nat.zero_add] at hrun;have Aax:=ae hrun;clear hrun hr1 hr;go_enter func105,ntmps105
   go_wp2_with ((with_reducible apply Bl);exact Aax.out;simp [Act.put])
   go_ret;exact fin _ _ hb3 hown
theorem Bytes.retag (h:Bytes w o v l) (hf:CV base v) (ho:∀ k,base <= k->(o' k).1 = 0):Bytes w o' v l:=by
 rcases h with h | ⟨b,off,cap,rfl,h1,h2,h3,h4,h5⟩
 ·exact .inl h
 ·exact .inr ⟨b,off,cap,rfl,h1,h2,ho b (hf b rfl),h4,h5⟩
def Loose (w:World) (v:Value):Prop:=∀ b off n c,v = .slice (some (aW b off)) n c->0 < n->∃ cs,w.heap[b]? = some (.cells cs 5 (0,0))
theorem Loose.step {T:Nat->Prop} (h:Loose w v) (hb:Bytes w o v l) (s:aj T w o w' o') (hT:¬ T 0):Loose w' v:=by
 intro b off n c hv hn;obtain ⟨cs,hh⟩:=h b off n c hv hn
 rcases hb with ⟨⟨a,c',e⟩, -, -⟩ | ⟨b',off',cap,e, -, -,h0,hlt, -⟩
 grind
 ·rw [hv] at e;cases e;exact ⟨cs,by rw [s.block b hlt bg];omega⟩
theorem Ew.loose (h:Ew w w' o v l):Loose w' v:=by
 intro b off n c hv hn
 rcases h.1.2 with ⟨h1,h0⟩ | ⟨g,cap,cur,h1,q1,q2, -⟩
 grind
 grind
def Jz (w:World) (base:Nat) (v:Value) (ls:List Ar):Prop:=0 < ls.length->∃ g:Nat,∃ c,∃ cs:List Value,v = .slice g ls.length c/\base <= g/\w.heap[g]? = some (.cells cs.toArray 36 (0,0))/\∀ i x,ls[i]? = some x->∃ bv,cs[2 * i + 1]? = some bv/\Loose w bv/\CV base bv
theorem Jz.setCells {ls:List Ar} {vs:List Value} (h:Jz w base v ls) (hB:B < base):Jz (w.setCells B off vs) base v ls:=by
 intro h0;obtain ⟨g,c,cs,rfl,h1,h2,h3⟩:=h h0;refine ⟨g,c,cs,rfl,h1,by rw [ah _ _ _ _ _ aP];omega,fun i x hx => ?_⟩;obtain ⟨bv,q1,q2,q3⟩:=h3 i x hx;refine ⟨bv,q1,fun b off' n c' hv hn => ?_,q3⟩;obtain ⟨cs',hh⟩:=q2 b off' n c' hv hn;have hb:=q3 b (by rw [hv];rfl);exact ⟨cs',by rw [ah _ _ _ _ _ aP];omega⟩
theorem Jz.low {ls:List Ar} (h:Jz w base v ls) (hb:b <= base):Jz w b v ls:=by
 intro h0;obtain ⟨g,c,cs,rfl,h1,h2,h3⟩:=h h0;refine ⟨g,c,cs,rfl,aP,h2,fun i x hx => ?_⟩;obtain ⟨bv,q1,q2,q3⟩:=h3 i x hx;exact ⟨bv,q1,q2,q3.low hb⟩
def Half (w:World) (o:Own) (base k:Nat) (cur:List Value) (ls:List Ar):Prop:=
 2 * ls.length <= cur.length/\∀ i x,ls[i]? = some x->cur[2 * i]? = some (x.e:aV)/\∃ bv,cur[2 * i + 1]? = some bv/\Bytes w o bv x.b/\(i < k->CV base bv/\Loose w bv)
theorem Half.step {T:Nat->Prop} {ls:List Ar} (h:Half w o base k cur ls) (s:aj T w o w' o') (hT:¬ T 0):Half w' o' base k cur ls:=
 ⟨h.1,fun i x hx=>by
  obtain ⟨a,bv,b,c,d⟩:=h.2 i x hx;exact ⟨a,bv,b,c.step s hT,fun hi=>⟨(d hi).1,(d hi).2.step c s hT⟩⟩⟩
theorem Half.set {ls:List Ar} {x:Ar} (h:Half w o base k cur ls) (hx:ls[k]? = some x) (hb:Bytes w o bv x.b) (hf:CV base bv) (hz:Loose w bv):Half w o base (k + 1) (cur.set (2 * k + 1) bv) ls:=by
 have hl:=h.1;refine ⟨bg,fun i y hy => ?_⟩;obtain ⟨a,cv,b,c,d⟩:=h.2 i y hy;rw [List.getElem?_set,if_neg aP,List.getElem?_set];refine ⟨a, ?_⟩
 by_cases hik:i = k
 grind
 ·exact ⟨cv,bg,c,bg⟩
theorem Half.lines {g cap:Nat} {ls:List Ar} (h:Half w o base ls.length cur ls) (hg:w.heap[g]? = some (.cells cur.toArray 36 (0,0))) (hgb:base <= g) (hc:ls.length <= cap) (hm:cap <= maxLen) (ho:∀ k,base <= k->(o' k).1 = 0) :
  Lines w o' base (.slice g ls.length cap) ls:=by
 have hl:=h.1;refine ⟨cur.take (2 * ls.length), .inr ⟨g,0,cap,rfl,hc,hm,ho g hgb,au hg, ?_⟩,⟨bg,fun i x hx => ?_⟩,fun k hk=>by grind [Value.ownBlock],fun u hu => ?_⟩
 ·have:=BU hg 0 (2 * ls.length);grind
 ·have hi:=(List.getElem?_eq_some_iff.1 hx).1;obtain ⟨a,bv,b,c,d⟩:=h.2 i x hx;exact ⟨bg,bv,bg,c.retag (d hi).1 ho⟩
 ·obtain ⟨j,hj⟩:=List.mem_iff_getElem?.1 hu;rw [List.getElem?_take] at hj;split at hj
  ·have hi:j / 2 < ls.length:=aP
   obtain ⟨a,bv,b,c,d⟩:=h.2 (j / 2) _ (List.getElem?_eq_getElem hi)
   by_cases hp:2 * (j / 2) = j
   grind [CV.int]
   grind
  grind
theorem aj.Me {T:Nat->Prop} (h:aj T w o w' o') (o2:Own) (h2:∀ k,k < w.heap.size->o2 k = o k):aj T w o w' o2:=⟨h.os,h.tape,h.output,h.size,h2,h.block⟩
theorem sW.half {ls:List Ar} (h:sW w o cs ls) (hn:ls.length = n) (hc:cur.take (n * 2) = cs):Half w o base 0 cur ls:=by
 have hl:=h.1;have hlc:=congrArg List.length hc;rw [List.length_take,hl] at hlc;refine ⟨aP,fun i x hx => ?_⟩;obtain ⟨a,bv,b,c⟩:=h.2 i x hx;grind
theorem Lines.zero {ls:List Ar} (hl:ls.length = 0) (a:Option Addr) (c:Nat) (hv:v = .slice a 0 c) (hf:CV base v):Lines w o base v ls:=
 ⟨[], .inl ⟨⟨a,c,hv⟩,hl,rfl⟩,by grind [sW.nil],hf,bu⟩
theorem OV {p c:Int} (hr:w.rangeAt b off [.int .u64 p, .int .u64 c,lv]):(Instr.loadAt 55 (.pointer (some (aW b off)))).run prog w = .ok (.agg #[.int .u64 p, .int .u64 c,lv]) w:=by
 exact run_loadVar_mid w b off 55 [.int .u64 p, .int .u64 c,lv] _ hr underlying55 rfl bf
theorem LX:((prog.info? 55).bind (·.zero)).map (·.cells) = some #[.int .u64 0, .int .u64 0, .slice none 0 0]:=bf
theorem Ij:(prog.info? 55).map (·.size) = some 3:=bf
def Dy (p c:BitVec 64) (lv:Value):Value := .agg #[(p:aV), (c:aV),lv]
theorem UY {p c:BitVec 64} {ls:List Ar} (h:Lines w o base lv ls) (hn:ls.length <= 100000) (hbl:∀ x ∈ ls,x.b.length <= 4000000) :
  Calls prog 52 #[Dy p c lv] w (XL ai w o fun v w' o'=>∃ vS,v = Dy p c vS/\Lines w' o' w.heap.size vS ls/\o' = ext w o/\Jz w' w.heap.size vS ls):=by
 obtain ⟨pI,hpI⟩:∃ pI:Int,(p.toNat:Int) = pI:=⟨_,rfl⟩;obtain ⟨cI,hcI⟩:∃ cI:Int,(c.toNat:Int) = cI:=⟨_,rfl⟩;unfold Dy;rw [hpI,hcI];clear hpI hcI p c;obtain ⟨la,lc,rfl⟩:=h.form;obtain ⟨cs,hsl,hln, -, -⟩:=h;have hone:=hln.one;have s1:=(aj.refl ai w o).alloc (.cells #[.int .u64 pI, .int .u64 cI, .slice la ls.length lc] 55) (1,1);have s2:=s1.alloc (.cells #[.int .u64 0, .int .u64 0, .slice none 0 0] 55) (1,2);have b1:(w.alloc (.cells #[.int .u64 pI, .int .u64 cI, .slice la ls.length lc] 55)).heap[w.heap.size]? = some (.cells [.int .u64 pI, .int .u64 cI, .slice la ls.length lc].toArray 55 (0,0)):=heap_alloc_new w _;have z1:(w.alloc (.cells #[.int .u64 pI, .int .u64 cI, .slice la ls.length lc] 55)).heap.size = w.heap.size + 1:=bu
 have t1:Ak o w.heap.size (1,1) w.heap.size = (1,1):=bu;obtain ⟨W1,hW1⟩:=az (w.alloc (.cells #[.int .u64 pI, .int .u64 cI, .slice la ls.length lc] 55));rw [hW1] at s2 b1 z1;generalize Ak o w.heap.size (1,1) = o1 at *;have b2:(W1.alloc (.cells #[.int .u64 0, .int .u64 0, .slice none 0 0] 55)).heap[W1.heap.size]? = some (.cells [.int .u64 0, .int .u64 0, .slice none 0 0].toArray 55 (0,0)):=heap_alloc_new W1 _;have b12:(W1.alloc (.cells #[.int .u64 0, .int .u64 0, .slice none 0 0] 55)).heap[w.heap.size]? = _:=(Below.heap_alloc _ _ _ aP).trans b1;have t2:Ak o1 W1.heap.size (1,2) W1.heap.size = (1,2):=bu;have t12:Ak o1 W1.heap.size (1,2) w.heap.size = (1,1):=by rw [BI _ _ aP];omega
 have z2:(W1.alloc (.cells #[.int .u64 0, .int .u64 0, .slice none 0 0] 55)).heap.size = w.heap.size + 2:=by simp [z1]
 have hal:=ae (AB (P:=prog) W1 55 _ LX);obtain ⟨W2,hW2⟩:=az (W1.alloc (.cells #[.int .u64 0, .int .u64 0, .slice none 0 0] 55));rw [hW2] at hal s2 b2 b12 z2;rw [z1] at b2 t2 t12 s2 hal;generalize Ak o1 (w.heap.size + 1) (1,2) = o2 at *;have hsl2:=hsl.step s2 id;have zX:=hln.step s2 id;have hcl:=Xu hsl2 (by rw [hln.1];omega) hone aP;have xG:=ae hcl;have vW:=ae zX;have AbT:=ae hbl;rw [<-hW1] at hal;obtain ⟨n,hn0⟩:=az (ls.length);have uA:=ae hn0;rw [hn0] at xG hn hal b12 ⊢;have hni:(0:Int) <= (n:Int)/\(n:Int) <= 100000:=aP
 have c2:W2.cell? (aW w.heap.size 2) = some (.slice la n lc):=ag b12 2;clear hcl zX hbl hW1 hW2 b1 z1 t1 s1 hsl hln hsl2 hone hn0;go_enter func52,ntmps52
 go_wp2_with ((with_reducible apply AU);exact hal.out;simp only [Act.put,lsa,lsz,lss])
 refine xG.out.mono ?_;rintro e W3 ⟨v3,o3,rfl,s3,hown,rfl⟩;obtain ⟨kb,hkb⟩:=az (w.heap.size);rw [hkb] at b12 b2 z2 t12 t2 ⊢;have s3:=s3.retag (1,0);have l12:=au b12;have l2:=au b2;have b3:=(s3.block kb l12 id).trans b12;have r3:=(s3.block (kb + 1) l2 id).trans b2;have vo3:(Qi W2 o2 (1,0) (kb + 1)).1 = 1:=by rw [s3.own (kb + 1) l2,t2]
 have uo3:(Qi W2 o2 (1,0) kb).1 = 1:=by rw [s3.own kb l12,t12]
 have AbD:w.heap.size <= kb:=aP
 obtain ⟨va,vc,rfl⟩:=BA hown;have hst:=s2.trans s3;have b4:=Ai (i:=2) (.slice va n vc) b3;simp only [lsz,lss] at b4;have r4:(W3.setCell (aW kb 2) (.slice va n vc)).heap[kb + 1]? = _:=(Below.heap_setCell _ _ _ _ bu).trans r3;have hset:=(aj.refl (ak 1) W3 (Qi W2 o2 (1,0))).setCell (a:=(aW kb 2)) (.slice va n vc) (.inl uo3);have pX:=hst.setCell (a:=(aW kb 2)) (.slice va n vc) (.inr AbD);have hfz:=Ap b3 2;have Aes:=(vW.out.step s3 id).step hset (fun h=>by change 0 = 1 at h;omega);have hext:∀ k,W2.heap.size <= k->Qi W2 o2 (1,0) k = (1,0):=fun k hk=>VM hk;clear s2 s3 xG hal c2 r3 hset vW b12 b2 t12 t2 hst;obtain ⟨oc,hoc⟩:=az (Qi W2 o2 (1,0));rw [hoc] at pX Aes uo3 vo3 hext;clear hoc;have c3o:W3.cell? (aW kb 2) = some (.slice la n lc):=ag b3 2;have c3:(W3.setCell (aW kb 2) (.slice va n vc)).cell? (aW kb 2) = some (.slice va n vc):=ag b4 2;clear b3
 by_cases hn1:n = 0
 ·subst hn1;have hfr:CV w.heap.size (.slice va 0 vc):=CV.own hown aP;go_wp2_with fail
  go_loopw [11] (fun i wr=>i = .int .i64 0/\wr = W3.setCell (aW kb 2) (.slice va 0 vc)) (fun _ _=>0)
  simp
  case round =>
   obtain ⟨rfl,rfl⟩:=hrel;have hkc:=b4;have hrc:=r4;have hst:=pX;generalize W3.setCell (aW kb 2) (.slice va 0 vc) = wr at *;have hld:=ae (OV (AV hkc));obtain ⟨hso,hsb⟩:=Ba (P:=prog) (ty:=55) (vs:=[.int .u64 pI, .int .u64 cI, .slice va 0 vc]) hrc rfl bf rfl;have Aaz:=ae hso;have AaM:=hst.setCells (kb + 1) 0 [.int .u64 pI, .int .u64 cI, .slice va 0 vc] (.inr aP);have hLF:=ae (show Lines (wr.setCells (kb + 1) 0 [.int .u64 pI, .int .u64 cI, .slice va 0 vc]) (ext w o) w.heap.size (.slice va 0 vc) ls from Lines.zero uA.out va vc rfl hfr);clear hso hkc hrc b4 r4 c3 c3o hfz hst pX Aes hown
   go_wp2_with (first
    | ((with_reducible apply Bo);exact hld.out;simp only [Act.put,lsa,lsz,lss])
    | ((with_reducible apply AC);exact Aaz.out;simp only [Act.put]))
   refine bodyPost_ret (results_cell_row rfl _ _ (kb + 1) 55 _ (0,0) _ rfl hsb underlying55 rfl Ij) rfl ?_;exact ⟨_,ext w o,rfl,AaM.Me _ (fun k hk=>if_pos hk),_,rfl,hLF.out,rfl,fun h0=>by rw [uA.out] at h0;omega⟩
 ·obtain ⟨g,cap,cur,hv,hgb,hg,hnc,hcm,htk⟩:∃ g:Nat,∃ cap cur,Value.slice va n vc = .slice g n cap/\W2.heap.size <= g/\W3.heap[g]? = some (.cells (cur:List Value).toArray 36 (0,0))/\n <= cap/\cap <= maxLen/\cur.take (n * 2) = cs:=by
   rcases hown.2 with ⟨_,h0⟩ | ⟨g,cap,cur,h1,q1,q2,q3,q4,q5,q6⟩
   omega
   ·exact ⟨g,cap,cur.toList,h1,q1,aP,q3,q4,q6⟩
  simp only [Value.slice.injEq,true_and] at hv;obtain ⟨rfl,rfl⟩:=hv;have hg4:(W3.setCell (aW kb 2) (.slice g n vc)).heap[g]? = _:=(Below.heap_setCell _ _ _ _ bg).trans hg;have hgt:(oc g).1 = 1:=bg
  have xC:=Aes.half (base:=kb) uA.out htk;clear hown Aes htk hg hext ;go_wp2_with fail
  go_loopw [11] (fun i wr=>∃ (k:Nat) (oj:Own) (cur:List Value),k <= n/\i = .int .i64 k/\wr.heap[kb]? = some (.cells [.int .u64 pI, .int .u64 cI, .slice g n vc].toArray 55 (0,0)) /\
    wr.heap[kb + 1]? = some (.cells [.int .u64 0, .int .u64 0, .slice none 0 0].toArray 55 (0,0))/\wr.heap[g]? = some (.cells cur.toArray 36 (0,0))/\(oj kb).1 = 1/\(oj (kb + 1)).1 = 1/\(oj g).1 = 1/\Half wr oj kb k cur ls/\aj ai w o wr oj) (fun i _=>n - (intOf i).toNat)
  grind
  case round =>
   clear b4 r4 hg4 uo3 vo3 hgt xC pX c3 c3o hfz;obtain ⟨k,oj,cur,hk,rfl,hkc,hrc,hgc,u1,u4,u2,xC,hst⟩:=hrel
   by_cases hlt:k < n
   ·obtain ⟨x,hx⟩:∃ x,ls[k]? = some x:=⟨_,List.getElem?_eq_getElem (by rw [uA.out];omega)⟩;obtain ⟨-,bv,hbv,hby, -⟩:=xC.2 k x hx;have c2:wr.cell? (aW kb 2) = some (.slice g n vc):=ag hkc 2;have cg:wr.cell? (aW g (k * 2 + 1)) = some bv:=by rw [ag hgc,Nat.mul_comm];omega
    have hS:=aI c2 cg;have hcl:=ae (fun (W:World) (O:Own) (hb:Bytes W O bv x.b)=>clone_any hb (AbT.out x (List.mem_of_getElem? hx)));have hxH:=ae hx;obtain ⟨ba,bc,rfl⟩:=Aq hby;clear hx hbv;go_wp2_with fail;refine Aa (fun w'=>w'.cell? (aW kb 2) = some (.slice g n vc)/\w'.cell? (aW g (k * 2 + 1)) = some (.slice ba x.b.length bc)) (fun i=>decide (i < 12)) bf hS (fun hHeld => ?_);refine tq 0 (h:=tq 1 (h:=tq 2 (h:=tq 3 (h:=tq 4 (h:=tq 5 (h:=tq 6 (h:=tq 7 (h:=tq 8 (h:=tO 9 (h:=?_))))))))));go_wp2_with fail;have hdr:=(aj.refl ai wr oj).drew;refine (hcl.out _ _ (hby.step hdr id)).mono ?_;rintro e w5 ⟨v5,o5,rfl,hs5,hnb⟩;have hs5:=hdr.trans hs5;have lk:=au hkc;have lr:=au hrc;have lg:=au hgc;have xA:=(hs5.block kb lk id).trans hkc;have yT:=(hs5.block (kb + 1) lr id).trans hrc;have xE:=(hs5.block g lg id).trans hgc;have u15:(o5 kb).1 = 1:=by rw [hs5.own kb lk];omega
    have u45:(o5 (kb + 1)).1 = 1:=by rw [hs5.own (kb + 1) lr];omega
    have u25:(o5 g).1 = 1:=by rw [hs5.own g lg];omega
    have hS5:=aI (ag (i:=2) xA) (show w5.cell? (aW g (k * 2 + 1)) = some (.slice ba x.b.length bc) by rw [World.cell?_of_block (w:=wr) (a:=(aW g (k * 2 + 1))) (hs5.block g lg id)];omega);have hfz:=Ap xE (k * 2 + 1);have hset:=(aj.refl (ak 1) w5 o5).setCell (a:=(aW g (k * 2 + 1))) v5 (.inl u25);have h01:¬ ak 1 0:=fun h=>by change 0 = 1 at h;omega
    have hh6:=((xC.step hs5 id).step hset h01).set hxH.out (hnb.bytes.step hset h01) (hnb.fresh.low (show kb <= wr.heap.size by omega)) (hnb.loose.step hnb.bytes hset h01);have hg6:=Ai (i:=2 * k + 1) v5 xE;have hk6:(w5.setCell (aW g (2 * k + 1)) v5).heap[kb]? = _:=(Below.heap_setCell _ _ _ _ (by (simp;omega))).trans xA;have hr6:(w5.setCell (aW g (2 * k + 1)) v5).heap[kb + 1]? = _:=(Below.heap_setCell _ _ _ _ (by (simp;omega))).trans yT;have pW:=(hst.trans hs5).setCell (a:=(aW g (k * 2 + 1))) v5 (.inr (by (simp;omega)));rw [Nat.mul_comm 2 k] at hg6 hk6 hr6 hh6;have hF:=aa5 hk6 hr6 hg6 hh6 pW;obtain ⟨na,nc,rfl⟩:=Aq hnb.bytes;clear hset hh6 hg6 hk6 hr6 pW hnb hdr hs5 xA yT xE hby hcl hHeld;go_wp2_with fail;refine ⟨fun _=>hS5, ?_⟩;refine tO 10 (h:=?_);go_wp2_with fail;refine ⟨fun _=>hS5, ?_⟩;refine tq 11 (h:=tO 12 (h:=?_));go_wp2_with fail;refine ⟨bu, ?_⟩;refine tD (h:=?_);clear hS5 hS c2 cg hfz;go_wp2_with fail;go_roundw
    case rel=>exact ⟨k + 1,o5,_,aP,by rfl,hF.out.1,hF.out.2.1,hF.out.2.2.1,u15,u45,u25,hF.out.2.2.2.1,hF.out.2.2.2.2⟩
    case measure=>simp [intOf];omega
   ·obtain rfl:n = k:=aP
    have hLn:=uA.out;have Aad:∀ k,kb <= k->(ext w o k).1 = 0:=fun k hk=>by unfold ext;grind
    have hset:=(aj.refl (ak 1) wr oj).setCells (kb + 1) 0 [.int .u64 pI, .int .u64 cI, .slice g n vc] (.inl u4);have hgF:(wr.setCells (kb + 1) 0 [.int .u64 pI, .int .u64 cI, .slice g n vc]).heap[g]? = _:=(ah (kb + 1) _ 0 wr g aP).trans hgc;have hhF:=xC.step hset (fun h=>by change 0 = 1 at h;omega);have hld:=ae (OV (AV hkc));obtain ⟨hso,hsb⟩:=Ba (P:=prog) (ty:=55) (vs:=[.int .u64 pI, .int .u64 cI, .slice g n vc]) hrc rfl bf rfl;have Aaz:=ae hso;have hZF:=ae (show Jz (wr.setCells (kb + 1) 0 [.int .u64 pI, .int .u64 cI, .slice g n vc]) w.heap.size (.slice g n vc) ls from fun _=>⟨g,vc,cur,bg,aP,hgF,fun i x hx=>by
     obtain ⟨_,bv,q1,_,q2⟩:=hhF.2 i x hx;grind⟩)
    have AaM:=hst.setCells (kb + 1) 0 [.int .u64 pI, .int .u64 cI, .slice g n vc] (.inr aP);have hLF:=ae (show Lines (wr.setCells (kb + 1) 0 [.int .u64 pI, .int .u64 cI, .slice g n vc]) (ext w o) w.heap.size (.slice g n vc) ls from by
     rw [hkb];have hq:=(show Half _ oj kb ls.length cur ls from bg).lines hgF aP aP hcm Aad;grind)
    clear hso hkc hrc hst hgc xC hset hgF hhF
    go_wp2_with (first
     | ((with_reducible apply Bo);exact hld.out;simp only [Act.put,lsa,lsz,lss])
     | ((with_reducible apply AC);exact Aaz.out;simp only [Act.put]))
    refine bodyPost_ret (results_cell_row rfl _ _ (kb + 1) 55 _ (0,0) _ rfl hsb underlying55 rfl Ij) rfl ?_;exact ⟨_,ext w o,rfl,AaM.Me _ (fun k hk=>if_pos hk),_,rfl,hLF.out,rfl,hZF.out⟩
theorem Tj {ls:List Ar} (h:Lines w o base lv ls) (hn:ls.length <= 100000) (hbl:∀ x ∈ ls,x.b.length <= 4000000) :
  Calls prog 52 #[Dy p c lv] w (XL ai w o fun v w' o'=>∃ vS,v = Dy p c vS/\Lines w' o' w.heap.size vS ls/\o' = ext w o):=by
 refine (UY h hn hbl).mono ?_;rintro e w' ⟨v,o',rfl,hs,vS,h1,h2,h3, -⟩;exact ⟨v,o',rfl,hs,vS,h1,h2,h3⟩
def IY (age p c:BitVec 64) (ls:List Ar):List UInt8:=1 :: (be 8 age ++ (be 8 p ++ (be 8 c ++ GR ls)))
theorem AjQ {ls:List Ar} (h:Lines w o base lv ls) (hn:ls.length <= 100000) (hbl:(encs ls).length <= 1300000) (age:BitVec 64) :
  Calls prog 110 #[Dy p c lv, (age:aV)] w (XL ai w o fun v w' o'=>Ew w w' o' v (IY age p c ls)):=by
 unfold Dy;have s1:=(aj.refl ai w o).alloc (.cells #[(p:aV), (c:aV),lv] 55) (0,0);have b1:(w.alloc (.cells #[(p:aV), (c:aV),lv] 55)).heap[w.heap.size]? = some (.cells [(p:aV), (c:aV),lv].toArray 55 (0,0)):=heap_alloc_new w _;have hl1:=h.step s1 id;obtain ⟨la,lc,rfl⟩:=h.form;obtain ⟨W1,hW1⟩:=az (w.alloc (.cells #[(p:aV), (c:aV), .slice la ls.length lc] 55));rw [hW1] at s1 b1 hl1;generalize Ak o w.heap.size (0,0) = o1 at *;have c0:=ag b1 0;have c1:=ag b1 1;have c2:=ag b1 2;simp only [ay,ax] at c0 c1 c2;have uM:=ae hW1;have hlH:=ae hl1;have xZ:=ae b1;have hnH:=aa2 hn hbl;have hst:=s1;clear hW1 h hl1 b1 hn hbl s1;have qH:=ae hst;go_enter func110,ntmps110;go_wp2_with fail;rw [uM.out];refine Aa (fun w'=>w'.cell? w.heap.size = some (p:aV)/\w'.cell? (aW w.heap.size 1) = some (c:aV)/\w'.cell? (aW w.heap.size 2) = some (.slice la ls.length lc)) (fun _=>true) bf ⟨c0,c1,c2⟩ (fun hHeld => ?_);refine tq 1 (h:=tq 3 (h:=tq 4 (h:=tq 6 (h:=tq 7 (h:=tq 9 (h:=tq 10 (h:=tO 0 (h:=?_))))))));go_wp2_with fail;refine (IG (Bytes.nil _ o1) bu 1).mono ?_;rintro e wa ⟨va,oa,rfl,hsa,zL⟩;have hsa:aj ai W1 o1 wa oa:=(aj.refl ai W1 o1).drew.trans hsa;have hba:=hsa.di xZ.out id;have hSa:=aI (ag (i:=0) hba) (aI (ag (i:=1) hba) (ag (i:=2) hba));have hst:=hst.trans hsa;go_wp2_with fail;refine ⟨bg, ?_⟩;refine tO 2 (h:=?_);go_wp2_with fail;refine (Ef zL.bytes bu age).mono ?_;rintro e wb ⟨vb,ob,rfl,hsb,zK⟩;have hsb:aj ai wa oa wb ob:=hsb;have hbb:=hsb.di hba id;have hSb:=aI (ag (i:=0) hbb) (aI (ag (i:=1) hbb) (ag (i:=2) hbb));have hst:=hst.trans hsb;go_wp2_with fail;refine ⟨bg, ?_⟩;refine tO 5 (h:=?_);go_wp2_with fail;refine (Ef zK.bytes (by simp [Az]) p).mono ?_;rintro e wc ⟨vc,oc,rfl,hsc,zJ⟩;have hsc:aj ai wb ob wc oc:=hsc;have hbc:=hsc.di hbb id;have hSc:=aI (ag (i:=0) hbc) (aI (ag (i:=1) hbc) (ag (i:=2) hbc));have hst:=hst.trans hsc;go_wp2_with fail;refine ⟨bg, ?_⟩;refine tO 8 (h:=?_);go_wp2_with fail;refine (Ef zJ.bytes (by simp [Az]) c).mono ?_;rintro e wd ⟨vd,od,rfl,hsd,zI⟩;have hsd:aj ai wc oc wd od:=hsd;have hbd:=hsd.di hbc id;have hSd:=aI (ag (i:=0) hbd) (aI (ag (i:=1) hbd) (ag (i:=2) hbd));have hst:=hst.trans hsd;go_wp2_with fail;refine ⟨bg, ?_⟩;refine tO 11 (h:=?_);go_wp2_with fail;refine (Lm zI.bytes (((((hlH.out.step hsa id).step hsb id).step hsc id)).step hsd id) (by simp [Az];have:=hnH.out;omega) hnH.out.1).mono ?_;rintro e wf ⟨vf,of,rfl,hsf,zH⟩;have hsf:aj ai wd od wf of:=hsf;have hbf:=hsf.di hbd id;have hSf:=aI (ag (i:=0) hbf) (aI (ag (i:=1) hbf) (ag (i:=2) hbf));have hst:=hst.trans hsf;go_wp2_with fail;refine ⟨bg, ?_⟩;refine tq 12 (h:=tD (h:=?_));have hnf:=(zH.low (w:=w) bg).congr (l':=IY age p c ls) (by rfl);clear zH zI zJ zK zL;go_wp2_with fail;go_ret;exact ⟨_,_,rfl,hst,hnf⟩
def Iu (pr:Ar->Bool) (ls:List Ar):Int:=match ls.findIdx? pr with
 | some i=>(i:Int)
 | none => -1
theorem TT {pr:Ar->Bool} {ls:List Ar} {x:Ar} (hx:ls[k]? = some x) (hp:pr x = true) (hno:∀ j y,j < k->ls[j]? = some y->pr y = false):Iu pr ls = (k:Int):=by
 have:ls.findIdx? pr = some k:=by
  rw [List.findIdx?_eq_some_iff_getElem];grind
 unfold Iu;grind
theorem TU {pr:Ar->Bool} {ls:List Ar} (hno:∀ j y,j < ls.length->ls[j]? = some y->pr y = false):Iu pr ls = -1:=by
 have:ls.findIdx? pr = none:=by
  grind [List.mem_iff_getElem?]
 unfold Iu;grind
theorem VL (pr:Ar->Bool) (ls:List Ar):decide (Iu pr ls ≥ 0) = ls.any pr:=by
 unfold Iu;grind
def Says (w:World) (o:Own) (fid:Nat) (cp:Array Value) (ls:List Ar) (pr:Ar->Bool):Prop:=
 ∀ w1 o1,aj ai w o w1 o1->∀ x bv,x ∈ ls->Bytes w1 o1 bv x.b->Calls prog fid (#[.agg #[(x.e:aV),bv]] ++ cp) w1 (XL ai w1 o1 fun v _ _=>v = .bool (pr x))
theorem Xi {ls:List Ar} (h:Lines w o base lv ls) (hn:ls.length <= 100000) (fid:Nat) (cp:Array Value) (pr:Ar->Bool)
  (hcall:∀ (args:Array Value) (x:World),(callFunc fid args).run prog x = .ok (.enter fid args) x) (hs:Says w o fid cp ls pr) :
  Calls prog 135 #[lv, .func (.func fid) #[] cp] w (XL ai w o fun v _ _=>v = .int .i64 (Iu pr ls)):=by
 obtain ⟨la,lc,rfl⟩:=h.form;obtain ⟨N,hN⟩:=az (ls.length);rw [hN] at h hn ⊢;have hlH:=ae h;have hNH:=ae hN;have hsH:=ae hs;have hcH:=ae hcall;clear h hN hs hcall;go_enter func135,ntmps135;go_wp2_with fail
 go_loopw [8] (fun i wr=>∃ (k:Nat) (oj:Own),k <= N/\i = .int .i64 k/\aj ai w o wr oj/\Hid (∀ j y,j < k->ls[j]? = some y->pr y = false)) (fun i _=>N - (intOf i).toNat)
 case atStart=>exact ⟨0,o,aP,rfl,aj.refl _ _ _,ae bu⟩
 case round =>
  obtain ⟨k,oj,hk,rfl,hst,hno⟩:=hrel
  by_cases hlt:k < N
  ·obtain ⟨x,hx⟩:∃ x,ls[k]? = some x:=⟨_,List.getElem?_eq_getElem (by rw [hNH.out];omega)⟩;obtain ⟨b,off,bv,hab,hrg,hby, -, -, -⟩:=(hlH.out.step hst id).at hx;subst hab;have hld:=ae (TG hrg);have hf:=hsH.out wr oj hst x bv (List.mem_of_getElem? hx) hby;have hck:=hcH.out;have xY:=ae hf;have hxH:=ae hx;clear hrg hby hf hx
   go_wp2_with ((with_reducible apply Bo);exact hld.out;simp only [Act.put,lsa,lsz,lss])
   refine xY.out.mono ?_;rintro e w1 ⟨v1,o1,rfl,hs1,rfl⟩;have hst:=hst.trans hs1;clear hs1 xY hld hck
   cases hp:pr x with
   | true =>
    have hfx:=TT hxH.out hp hno.out;go_wp2_with fail;go_ret;exact ⟨_,o1,rfl,hst,by rw [hfx];rfl⟩
   | false =>
    have Azh:Hid (∀ j y,j < k + 1->ls[j]? = some y->pr y = false):=ae fun j y hj hy=>by
     by_cases hjk:j = k
     ·subst hjk;rw [hxH.out] at hy;grind
     ·exact hno.out j y aP hy
    clear hp;go_wp2_with fail;go_roundw
    case rel=>exact ⟨k + 1,o1,aP,by rfl,hst,Azh⟩
    case measure=>simp [intOf];omega
  ·obtain rfl:N = k:=aP
   have hfx:=ae (TU (pr:=pr) (ls:=ls) (fun j y hj hy=>hno.out j y (by rw [<-hNH.out];omega) hy));go_wp2_with fail;go_ret;exact ⟨_,oj,rfl,hst,by rw [hfx.out];rfl⟩
theorem Jt {ls:List Ar} (h:Lines w o base lv ls) (hn:ls.length <= 100000) (fid:Nat) (cp:Array Value) (pr:Ar->Bool)
  (hcall:∀ (args:Array Value) (x:World),(callFunc fid args).run prog x = .ok (.enter fid args) x) (hs:Says w o fid cp ls pr) :
  Calls prog 83 #[lv, .func (.func fid) #[] cp] w (XL ai w o fun v _ _=>v = .bool (ls.any pr)):=by
 have hix:=ae (Xi h hn fid cp pr hcall hs);have ha:=VL pr ls;obtain ⟨I,hI⟩:=az (Iu pr ls);rw [hI] at hix ha;have haH:=ae ha;go_enter func83,ntmps83;go_wp2_with fail;refine hix.out.mono ?_;rintro e w1 ⟨v1,o1,rfl,hs1,rfl⟩;go_wp2_with fail;go_ret;exact ⟨_,o1,rfl,hs1,by rw [<-haH.out];rfl⟩
def badL (top:BitVec 64) (x:Ar):Bool:=decide (x.e.toNat < 1) || decide (top.toNat < x.e.toNat) || decide (x.b.length < 1) || decide (4096 < x.b.length)
theorem YZ (top:BitVec 64) (tb:Nat) (ht:Box w o tb 34 (top:aV)) (x:Ar) (bv:Value) (hb:Bytes w o bv x.b) :
  Calls prog 134 #[.agg #[(x.e:aV),bv], .pointer tb] w (XL ai w o fun v _ _=>v = .bool (badL top x)):=by
 obtain ⟨ba,bc,rfl⟩:=Aq hb;have s1:=(aj.refl ai w o).alloc (.cells #[(x.e:aV), .slice ba x.b.length bc] 36) (0,0);have ct:=(ht.step s1 id).cell;have b1:(w.alloc (.cells #[(x.e:aV), .slice ba x.b.length bc] 36)).heap[w.heap.size]? = some (.cells [(x.e:aV), .slice ba x.b.length bc].toArray 36 (0,0)):=heap_alloc_new w _;have c0:=ag b1 0;have c1:=ag b1 1;simp only [ay,ax] at c0 c1;have hsH:=ae s1;have hu:badL top x = (decide (x.e.toNat < 1) || decide (top.toNat < x.e.toNat) || decide (x.b.length < 1) || decide (4096 < x.b.length)):=rfl;have huH:=ae hu;have he:=x.e.isLt;generalize x.b.length = bl at *;generalize x.e.toNat = xe at *;generalize top.toNat = te at *;clear s1 b1 hb ht hu
 by_cases h1:xe < 1
 ·have h1I:(xe:Int) < 1:=aP
  go_enter func134,ntmps134;go_wp2_with fail;go_ret;exact ⟨_,_,rfl,hsH.out,by rw [huH.out];simp [h1]⟩
 ·have h1I:¬ (xe:Int) < 1:=aP
  by_cases h2:te < xe
  ·have h2I:(te:Int) < (xe:Int):=aP
   go_enter func134,ntmps134;go_wp2_with fail;go_ret;exact ⟨_,_,rfl,hsH.out,by rw [huH.out];simp [h1,h2]⟩
  ·have h2I:¬ (te:Int) < (xe:Int):=aP
   by_cases h3:bl < 1
   ·have h3I:(bl:Int) < 1:=aP
    go_enter func134,ntmps134;go_wp2_with fail;go_ret;exact ⟨_,_,rfl,hsH.out,by rw [huH.out];(simp;omega)⟩
   ·have h3I:¬ (bl:Int) < 1:=aP
    go_enter func134,ntmps134;go_wp2_with fail;go_ret;exact ⟨_,_,rfl,hsH.out,by
     rw [huH.out]
     by_cases h4:4096 < bl
     (simp_all;omega)
     ·have h4I:¬ (4096:Int) < (bl:Int):=aP
      simp [h1,h2,h3,h4,h4I]⟩
theorem VG {ls:List Ar} (h:Lines w o base lv ls) (hn:ls.length <= 100000) (top:BitVec 64) :
  Calls prog 82 #[lv, (top:aV)] w (XL ai w o fun v _ _=>v = .bool (!ls.any (badL top))):=by
 have s1:=(aj.refl ai w o).alloc (.cells #[(top:aV)] 34) (0,0);have hb:=Box.new w o 34 (top:aV);have hc:=Jt (h.step s1 id) hn 134 #[.pointer w.heap.size] (badL top) Tryz.call134 (fun w1 o1 st x bv _ hby=>YZ top w.heap.size (hb.step st id) x bv hby);have hcH:=ae hc;have hsH:=ae s1;go_enter func82,ntmps82;go_wp2_with fail;refine hcH.out.mono ?_;rintro e w1 ⟨v1,o1,rfl,hs1,rfl⟩;go_wp2_with fail;go_ret;exact ⟨_,o1,rfl,hsH.out.trans hs1,rfl⟩
structure AX where
 promised:BitVec 64
 current:BitVec 64
 lines:List Ar
structure AZ where
 cur:Ad
 oth:Ad
 d:Af
 pages:Nat
 age:BitVec 64
 kept:AX
 dead:Bool
def qG (S A B D:Nat):Nat->Prop:=fun t=>t = S \/ t = A \/ t = B \/ t = D
def storeCells (pd:Nat) (x1 x2:Value) (pages k:Nat) (age p c:BitVec 64) (kv:Value) (dead:Bool):List Value:=
 [.pointer pd,x1,x2, (pages:aV), (k:aV), (age:aV), (p:aV), (c:aV),kv, .bool dead]
def DF (w:World) (o:Own) (S ps pd pa pb k:Nat) (kv:Value) (s:AZ):Prop:=
 ∃ x1 x2,w.heap[ps]? = some (.cells (storeCells pd x1 x2 s.pages k s.age s.kept.promised s.kept.current kv s.dead).toArray 108 (0,0)) /\
  ((k = 0/\x1 = .pointer pa/\x2 = .pointer pb) \/ (k = 1/\x1 = .pointer pb/\x2 = .pointer pa))/\o ps = (S,0)
def Bi (w:World) (o:Own) (S A B D ps pd base:Nat) (s:AZ):Prop:=
 ∃ X Y pa pb k kv,((X = A/\Y = B) \/ (X = B/\Y = A))/\DF w o S ps pd pa pb k kv s/\Lines w o base kv s.kept.lines/\BZ w o X pa pd s.cur/\BZ w o Y pb pd s.oth/\Bg w o D pd s.d
theorem DF.step {T:Nat->Prop} {pa pb:Nat} {kv:Value} {s:AZ} (h:DF w o S ps pd pa pb k kv s) (st:aj T w o w' o') (hS:¬ T S):DF w' o' S ps pd pa pb k kv s:=by
 obtain ⟨x1,x2,h1,h2,h3⟩:=h;have hl:=au h1;exact ⟨x1,x2,by rw [st.block ps hl bg];omega,h2,by rw [st.own ps hl];omega⟩
theorem Bi.step {T:Nat->Prop} {s:AZ} (h:Bi w o S A B D ps pd base s) (st:aj T w o w' o') (hT:∀ t,T t->t ≠ 0/\¬ qG S A B D t):Bi w' o' S A B D ps pd base s:=by
 obtain ⟨X,Y,pa,pb,k,kv,hp,hb,hl,ha,hbb,hd⟩:=h;have h0:¬ T 0:=bg;have hS:¬ T S:=fun h=>(hT S h).2 (.inl rfl);have hA:¬ T A:=fun h=>(hT A h).2 (.inr (.inl rfl));have hB:¬ T B:=fun h=>(hT B h).2 (.inr (.inr (.inl rfl)));have hD:¬ T D:=fun h=>(hT D h).2 (.inr (.inr (.inr rfl)));refine ⟨X,Y,pa,pb,k,kv,hp,hb.step st hS,hl.step st h0, ?_, ?_,hd.step st hD⟩
 ·rcases hp with ⟨rfl,rfl⟩ | ⟨rfl,rfl⟩
  ·exact ha.step st hA h0
  ·exact ha.step st hB h0
 ·rcases hp with ⟨rfl,rfl⟩ | ⟨rfl,rfl⟩
  ·exact hbb.step st hB h0
  ·exact hbb.step st hA h0
theorem Bi.step0 {s:AZ} (h:Bi w o S A B D ps pd base s) (st:aj ai w o w' o'):Bi w' o' S A B D ps pd base s:=h.step st fun _ h=>h.elim
theorem Bi.low {s:AZ} (h:Bi w o S A B D ps pd base s) (hb:b <= base):Bi w o S A B D ps pd b s:=by
 obtain ⟨X,Y,pa,pb,k,kv,hp,hx,hl,ha,hbb,hd⟩:=h;exact ⟨X,Y,pa,pb,k,kv,hp,hx,hl.low hb,ha,hbb,hd⟩
theorem DF.cells {pa pb:Nat} {kv:Value} {s:AZ} (h:DF w o S ps pd pa pb k kv s) :
  (w.cell? ps = some (.pointer pd)/\w.cell? (aW ps 3) = some (s.pages:aV)/\w.cell? (aW ps 4) = some (k:aV)/\w.cell? (aW ps 5) = some (s.age:aV) /\
   w.cell? (aW ps 6) = some (s.kept.promised:aV)/\w.cell? (aW ps 7) = some (s.kept.current:aV)/\w.cell? (aW ps 8) = some kv/\w.cell? (aW ps 9) = some (.bool s.dead)) /\
  (w.cell? (aW ps (1 + k)) = some (.pointer pa)/\w.cell? (aW ps (1 + (1 - k))) = some (.pointer pb))/\(∀ i,w.frozen? (aW ps i) = false)/\k <= 1/\ps < w.heap.size/\(o ps).1 = S /\
  w.rangeAt ps 6 [(s.kept.promised:aV), (s.kept.current:aV),kv]:=by
 obtain ⟨x1,x2,h1,h2,h3⟩:=h;have c:=ag h1;refine ⟨⟨c 0,c 3,c 4,c 5,c 6,c 7,c 8,c 9⟩, ?_,fun i=>Ap h1 i, ?_,au h1,bg,fun j v hj => ?_⟩
 ·rcases h2 with ⟨rfl,rfl,rfl⟩ | ⟨rfl,rfl,rfl⟩
  ·exact ⟨c 1,c 2⟩
  ·exact ⟨c 2,c 1⟩
 omega
 ·match j with
  | 0=>simp at hj;subst hj;exact c 6
  | 1=>simp at hj;subst hj;exact c 7
  | 2=>simp at hj;subst hj;exact c 8
  | j + 3=>grind
theorem KH {s:AZ} (h:Bi w o S A B D ps pd base s) :
  Calls prog 59 #[.pointer ps] w fun e w'=>e = .returned (.bool (s.dead || s.d.dead))/\w = w':=by
 obtain ⟨X,Y,pa,pb,k,kv, -,hb, -, -, -,hd⟩:=h;obtain ⟨⟨c0, -, -, -, -, -, -,c9⟩, -⟩:=hb.cells;have hdd:=Ic hd;clear hb hd
 cases h9:s.dead with
 | true =>
  rw [h9] at c9;go_enter func59,ntmps59;go_wp2_with fail;go_ret;simp
 | false =>
  go_enter func59,ntmps59;go_wp2_with fail;refine hdd.mono ?_;rintro e w' ⟨rfl,rfl⟩;go_wp2_with fail;go_ret;simp
theorem IM (hr:w.rangeAt b off [(p:aV), (c:aV),lv]):(Instr.loadAt 55 (.pointer (some (aW b off)))).run prog w = .ok (Dy p c lv) w:=OV hr
def small (ls:List Ar):Prop:=ls.length <= 1000/\(encs ls).length <= 1200000
theorem KG {ls:List Ar} (h:small ls):∀ x ∈ ls,x.b.length <= 1200000:=by
 intro x hx;have h2:=h.2;obtain ⟨i,hi⟩:=List.mem_iff_getElem?.1 hx;have hle:=Hf ls (i + 1);rw [List.take_add_one,hi] at hle;have e:encs (ls.take i ++ (some x).toList) = encs (ls.take i) ++ x.enc:=KU _ _;grind [Jj]
theorem WO {s:AZ} (h:Bi w o S A B D ps pd base s) (hsm:small s.kept.lines) :
  Calls prog 22 #[.pointer ps] w (XL ai w o fun v w' o'=>∃ lv,v = Dy s.kept.promised s.kept.current lv/\Lines w' o' w.heap.size lv s.kept.lines/\o' = ext w o/\Jz w' w.heap.size lv s.kept.lines):=by
 obtain ⟨X,Y,pa,pb,k,kv, -,hb,hl, -, -, -⟩:=h;obtain ⟨la,lc,rfl⟩:=hl.form;have s1:=(aj.refl ai w o).alloc (.cells #[.int .u64 0, .int .u64 0, .slice none 0 0] 55) (0,0);have b1:(w.alloc (.cells #[.int .u64 0, .int .u64 0, .slice none 0 0] 55)).heap[w.heap.size]? = some (.cells [.int .u64 0, .int .u64 0, .slice none 0 0].toArray 55 (0,0)):=heap_alloc_new w _;have hal:=ae (AB (P:=prog) w 55 _ LX);obtain ⟨W1,hW1⟩:=az (w.alloc (.cells #[.int .u64 0, .int .u64 0, .slice none 0 0] 55));rw [hW1] at hal s1 b1;generalize Ak o w.heap.size (0,0) = o1 at *;obtain ⟨-, -, -, -, -, -,hr⟩:=(hb.step s1 id).cells;have hld:=ae (IM hr);have hown:=ae (UY (p:=s.kept.promised) (c:=s.kept.current) (hl.step s1 id) (by have:=hsm.1;omega) (fun x hx=>by have:=KG hsm x hx;omega));have hz:w.heap.size < W1.heap.size:=bg;have hst:=s1;clear hb hl hW1 hr s1;go_enter func22,ntmps22
 go_wp2_with (first
  | ((with_reducible apply Bo);exact hld.out;simp only [Act.put,lsa,lsz,lss])
  | ((with_reducible apply AU);exact hal.out;simp only [Act.put,lsa,lsz,lss]))
 refine hown.out.mono ?_;rintro e w2 ⟨v2,o2,rfl,hs2,lv,rfl,hl2,rfl,hz2⟩;have b2:=(hs2.block _ hz id).trans b1;have h1c:lv.oneCell' = true:=by obtain ⟨a,c,rfl⟩:=hl2.form;rfl
 obtain ⟨hso,hsb⟩:=Ba (P:=prog) (ty:=55) (vs:=[(s.kept.promised:aV), (s.kept.current:aV),lv]) b2 rfl bf (by obtain ⟨a,c,rfl⟩:=hl2.form;rfl);have Aaz:=ae hso;have hst2:=hst.trans hs2;have AaM:=hst2.setCells w.heap.size 0 [(s.kept.promised:aV), (s.kept.current:aV),lv] bu;have hq1:∀ k,w.heap.size <= k->(ext w o k).1 = 0:=fun k hk=>by unfold ext;grind
 have hset:=(aj.refl (ak 1) w2 (fun k=>if k = w.heap.size then (1,0) else ext W1 o1 k)).setCells w.heap.size 0 [(s.kept.promised:aV), (s.kept.current:aV),lv] (.inl (by simp;rfl))
 have hlF:=ae (show Lines (w2.setCells w.heap.size 0 [(s.kept.promised:aV), (s.kept.current:aV),lv]) (ext w o) w.heap.size lv s.kept.lines from by
  obtain ⟨cs,k1,k2,k3,k4⟩:=hl2.low (show w.heap.size + 1 <= W1.heap.size by omega);refine ⟨cs, ?_,⟨k2.1,fun i x hx => ?_⟩,k3.low aP,fun u hu=>(k4 u hu).low aP⟩
  ·rcases k1 with h | ⟨b,off,cap,rfl,y1,y2,y3,y4,y5⟩
   ·exact .inl h
   ·have hbk:=k3 b rfl;refine .inr ⟨b,off,cap,rfl,y1,y2,hq1 b aP,by rw [size_setCells];omega,Cf y5 (ah _ _ _ _ _ aP)⟩
  ·obtain ⟨m1,bv,m2,m3⟩:=k2.2 i x hx;refine ⟨m1,bv,m2, ?_⟩;have hbf:=k4 bv (List.mem_of_getElem? m2)
   rcases m3 with h | ⟨b,off,cap,rfl,y1,y2,y3,y4,y5⟩
   ·exact .inl h
   ·have hbk:=hbf b rfl;exact .inr ⟨b,off,cap,rfl,y1,y2,hq1 b aP,by rw [size_setCells];omega,Cf y5 (ah _ _ _ _ _ aP)⟩)
 have hzF:=ae ((hz2.setCells (off:=0) (vs:=[(s.kept.promised:aV), (s.kept.current:aV),lv]) hz).low (Nat.le_of_lt hz));clear hz2 hso b2 hl2 hs2 hst hst2 hset hal hld hown h1c hz b1
 go_wp2_with ((with_reducible apply AC);exact Aaz.out)
 refine bodyPost_ret (results_cell_row rfl _ _ w.heap.size 55 _ (0,0) _ rfl hsb underlying55 rfl Ij) rfl ?_;exact ⟨_,ext w o,rfl,AaM.Me _ (fun k hk=>if_pos hk),_,rfl,hlF.out,rfl,hzF.out⟩
theorem DJ {s:AZ} (h:Bi w o S A B D ps pd base s) (hsm:small s.kept.lines) :
  Calls prog 22 #[.pointer ps] w (XL ai w o fun v w' o'=>∃ lv,v = Dy s.kept.promised s.kept.current lv/\Lines w' o' w.heap.size lv s.kept.lines/\o' = ext w o):=by
 refine (WO h hsm).mono ?_;rintro e w' ⟨v,o',rfl,hs,lv,h1,h2,h3, -⟩;exact ⟨v,o',rfl,hs,lv,h1,h2,h3⟩
theorem TD {s:AZ} (h:Bi w o S A B D ps pd base s) (fid:Nat) (cp:Array Value) (r:Bool)
  (hcall:∀ (args:Array Value) (x:World),(callFunc fid args).run prog x = .ok (.enter fid args) x) (hf:Calls prog fid cp w (XL ai w o fun v _ _=>v = .bool r)) :
  Calls prog 54 #[.pointer ps, .func (.func fid) #[] cp] w (XL ai w o fun v _ _=>v = .int .i64 (if s.dead || s.d.dead then 9 else if r then 0 else 1)):=by
 have hd:=ae (KH h);have hck:=hcall;have xY:=ae hf;clear h hcall hf
 cases hdd:(s.dead || s.d.dead) with
 | true =>
  rw [hdd] at hd;go_enter func54,ntmps54;go_wp2_with fail;refine hd.out.mono ?_;rintro e w' ⟨rfl,rfl⟩;go_wp2_with fail;go_ret;exact ⟨_,o,rfl,aj.refl _ _ _,rfl⟩
 | false =>
  rw [hdd] at hd;clear hdd;go_enter func54,ntmps54;go_wp2_with fail;refine hd.out.mono ?_;rintro e w' ⟨rfl,rfl⟩;go_wp2_with fail;have hf2:=xY.out;refine hf2.mono ?_;rintro e w1 ⟨v1,o1,rfl,hs1,rfl⟩;clear hf2 xY hck
  cases r with
  | true =>
   go_wp2_with fail;go_ret;exact ⟨_,o1,rfl,hs1,rfl⟩
  | false =>
   go_wp2_with fail;go_ret;exact ⟨_,o1,rfl,hs1,rfl⟩
def AX.EK (k:AX) (e:BitVec 64):Bool:=decide (k.promised.toNat < e.toNat) && decide (e.toNat <= 281474976710656)
def AX.Gg (k:AX) (e:BitVec 64) (ls:List Ar):Bool:=
 decide (k.promised.toNat <= e.toNat) && decide (k.current.toNat < e.toNat) && decide (e.toNat <= 281474976710656) && decide (ls.length <= 256) && !ls.any (badL e)
def Ho:BitVec 64:=281474976710656#64
def AX.Eu (k:AX) (ls:List Ar):Bool:=
 decide (0 < ls.length) && decide (ls.length + k.lines.length <= 256) && !ls.any (badL Ho) && !ls.any fun x => !(x.e == k.current)
section
variable {w:World} {o:Own} {S A B D ps pd base:Nat} {s:AZ}
theorem Tf (h:Bi w o S A B D ps pd base s) (e:BitVec 64) (eb sb:Nat) (he:Box w o eb 34 (e:aV)) (hs:Box w o sb 42 (.pointer ps)) :
  Calls prog 55 #[.pointer eb, .pointer sb] w (XL ai w o fun v _ _=>v = .bool (s.kept.EK e)):=by
 obtain ⟨X,Y,pa,pb,k,kv, -,hb, -, -, -, -⟩:=h;obtain ⟨⟨-, -, -, -,c6, -, -, -⟩, -⟩:=hb.cells;have ce:=he.cell;have cs:=hs.cell;unfold AX.EK;have hst:=ae (aj.refl ai w o).drew;have hS:=aa3 ce cs c6;generalize s.kept.promised.toNat = P at *;generalize e.toNat = E at *;clear hb he hs ce cs c6
 by_cases h1:P < E
 ·have h1I:(P:Int) < (E:Int):=aP
  obtain ⟨r,hr⟩:=az (decide (E <= 281474976710656));have hrI:decide ((E:Int) <= 281474976710656) = r:=by rw [<-hr];grind
  have tN:=ae hrI;have hfin:=ae (show (decide (P < E) && decide (E <= 281474976710656)) = r by rw [hr];simp [h1]);clear hr hrI h1;go_enter func55,ntmps55;go_wp2_with fail;refine Aa (fun w'=>w'.cell? eb = some (.int .u64 (E:Int))/\w'.cell? sb = some (.pointer ps)/\w'.cell? (aW ps 6) = some (.int .u64 (P:Int))) (fun _=>true) bf hS.out (fun hHeld => ?_);refine tq 0 (h:=tq 1 (h:=tq 2 (h:=tq 3 (h:=tq 4 (h:=tq 5 (h:=tg 6 (.bool true) (h:=tq 7 (h:=tq 8 (h:=tv 9 (.bool r) (hy:=fun w hSw=>by (try dsimp only at hSw);go_simp;assumption) (h:=tg 10 (.bool r) (h:=tq 11 (h:=tD (h:=?_)))))))))))));go_wp2_with fail;go_ret;exact ⟨_,o,rfl,hst.out,by rw [hfin.out];rfl⟩
 ·have h1I:¬ (P:Int) < (E:Int):=aP
  have hfin:=ae (show (decide (P < E) && decide (E <= 281474976710656)) = false by simp [h1]);clear h1;go_enter func55,ntmps55;go_wp2_with fail;refine Aa (fun w'=>w'.cell? eb = some (.int .u64 (E:Int))/\w'.cell? sb = some (.pointer ps)/\w'.cell? (aW ps 6) = some (.int .u64 (P:Int))) (fun _=>true) bf hS.out (fun hHeld => ?_);refine tq 0 (h:=tq 1 (h:=tq 2 (h:=tq 3 (h:=tq 4 (h:=tq 5 (h:=tw 6 (.bool false) (h:=tq 7 (h:=ts 8 (h:=ts 9 (h:=tg 10 (.bool false) (h:=tq 11 (h:=tD (h:=?_)))))))))))));go_wp2_with fail;go_ret;exact ⟨_,o,rfl,hst.out,by (simp;omega)⟩
theorem XA (h:Bi w o S A B D ps pd base s) (e:BitVec 64) (eb sb lb Aed:Nat) (lv:Value) (ls:List Ar) (he:Box w o eb 34 (e:aV)) (hs:Box w o sb 42 (.pointer ps)) (hlb:Box w o lb 32 lv) (hl:Lines w o Aed lv ls) (hn:ls.length <= 100000) :
  Calls prog 179 #[.pointer eb, .pointer sb, .pointer lb] w (XL ai w o fun v _ _=>v = .bool (s.kept.Gg e ls)):=by
 obtain ⟨X,Y,pa,pb,k,kv, -,hb, -, -, -, -⟩:=h;obtain ⟨⟨-, -, -, -,c6,c7, -, -⟩, -⟩:=hb.cells;have ce:=he.cell;have cs:=hs.cell;have cl:=hlb.cell;have hgood:=ae (VG (hl.step (aj.refl ai w o).drew id) hn e);obtain ⟨la,lc,rfl⟩:=hl.form;unfold AX.Gg;have hst:=ae (aj.refl ai w o).drew;have hS:=aa5 ce cs cl c6 c7;obtain ⟨r,hr⟩:=az ((!ls.any (badL e)));rw [hr] at hgood ⊢;generalize s.kept.promised.toNat = P at *;generalize s.kept.current.toNat = C at *;generalize e.toNat = E at *;generalize ls.length = N at *;clear hb he hs ce cs c6 c7 cl hr hl hlb
 by_cases h0:P <= E
 ·have h0I:(P:Int) <= (E:Int):=aP
  by_cases h1:C < E
  ·have h1I:(C:Int) < (E:Int):=aP
   by_cases h2:E <= 281474976710656
   ·have h2I:(E:Int) <= 281474976710656:=aP
    by_cases h3:N <= 256
    ·have h3I:(N:Int) <= 256:=aP
     have hfin:=ae (show (decide (P <= E) && decide (C < E) && decide (E <= 281474976710656) && decide (N <= 256) && r) = r by simp [h0,h1,h2,h3]);clear h0 h1 h2 h3;go_enter func179,ntmps179;go_wp2_with fail;refine Aa (fun w'=>w'.cell? eb = some (.int .u64 (E:Int))/\w'.cell? sb = some (.pointer ps)/\w'.cell? lb = some (.slice la N lc)/\w'.cell? (aW ps 6) = some (.int .u64 (P:Int))/\w'.cell? (aW ps 7) = some (.int .u64 (C:Int))) (fun _=>true) bf hS.out (fun hHeld => ?_);refine tq 0 (h:=tq 1 (h:=tq 2 (h:=tq 3 (h:=tq 4 (h:=tq 5 (h:=tw 6 (.bool true) (h:=tq 7 (h:=tq 8 (h:=tq 9 (h:=tq 10 (h:=tq 11 (h:=tq 12 (h:=tq 13 (h:=?_))))))))))))));refine tw 14 (.bool true) (h:=tg 15 (.bool true) (h:=tq 16 (h:=tq 17 (h:=tw 18 (.bool true) (h:=tg 19 (.bool true) (h:=tq 20 (h:=tq 21 (h:=tq 22 (h:=tw 23 (.bool true) (h:=tg 24 (.bool true) (h:=tq 25 (h:=tq 26 (h:=tq 27 (h:=?_))))))))))))));refine tO 28 (h:=?_);go_wp2_with fail;refine hgood.out.mono ?_;rintro e1 w1 ⟨v1,o1,rfl,hs1,rfl⟩;have hS1:w1.cell? ⟨eb,0,none⟩ = some (.int .u64 (E:Int))/\w1.cell? ⟨sb,0,none⟩ = some (.pointer (some ⟨ps,0,none⟩))/\w1.cell? ⟨lb,0,none⟩ = some (.slice la N lc)/\w1.cell? ⟨ps,6,none⟩ = some (.int .u64 (P:Int))/\w1.cell? ⟨ps,7,none⟩ = some (.int .u64 (C:Int)):=by
      obtain ⟨k1,k2,k3,k4,k5⟩:=hS.out;have hb:=fun (a:Nat) (i:Nat) (v:Value) (hc:w.cell? (aW a i) = some v)=>(World.cell?_of_block (w:=w) (w':=w1) (a:=(aW a i)) (hs1.block a (World.block_lt_of_cell? w (aW a i) (by rw [hc])) id)).trans hc;grind
     clear hHeld;go_wp2_with fail;refine ⟨bg, ?_⟩;refine tg 29 (.bool r) (h:=tq 30 (h:=tD (h:=?_)));clear hS1;go_wp2_with fail;go_ret;exact ⟨_,o1,rfl,hst.out.trans hs1,by (simp;omega)⟩
    ·have h3I:¬ (N:Int) <= 256:=aP
     have hfin:=ae (show (decide (P <= E) && decide (C < E) && decide (E <= 281474976710656) && decide (N <= 256) && r) = false by simp [h0,h1,h2,h3]);clear h0 h1 h2 h3;go_enter func179,ntmps179;go_wp2_with fail;refine Aa (fun w'=>w'.cell? eb = some (.int .u64 (E:Int))/\w'.cell? sb = some (.pointer ps)/\w'.cell? lb = some (.slice la N lc)/\w'.cell? (aW ps 6) = some (.int .u64 (P:Int))/\w'.cell? (aW ps 7) = some (.int .u64 (C:Int))) (fun _=>true) bf hS.out (fun hHeld => ?_);refine tq 0 (h:=tq 1 (h:=tq 2 (h:=tq 3 (h:=tq 4 (h:=tq 5 (h:=tw 6 (.bool true) (h:=tq 7 (h:=tq 8 (h:=tq 9 (h:=tq 10 (h:=tq 11 (h:=tq 12 (h:=tq 13 (h:=?_))))))))))))));refine tw 14 (.bool true) (h:=tg 15 (.bool true) (h:=tq 16 (h:=tq 17 (h:=tw 18 (.bool true) (h:=tg 19 (.bool true) (h:=tq 20 (h:=tq 21 (h:=tq 22 (h:=tw 23 (.bool false) (h:=tw 24 (.bool false) (h:=tq 25 (h:=ts 26 (h:=ts 27 (h:=?_))))))))))))));refine ts 28 (h:=tw 29 (.bool false) (h:=tq 30 (h:=tD (h:=?_))));go_wp2_with fail;go_ret;exact ⟨_,o,rfl,hst.out,by (simp;omega)⟩
   ·have h2I:¬ (E:Int) <= 281474976710656:=aP
    have hfin:=ae (show (decide (P <= E) && decide (C < E) && decide (E <= 281474976710656) && decide (N <= 256) && r) = false by simp [h0,h1,h2]);clear h0 h1 h2;go_enter func179,ntmps179;go_wp2_with fail;refine Aa (fun w'=>w'.cell? eb = some (.int .u64 (E:Int))/\w'.cell? sb = some (.pointer ps)/\w'.cell? lb = some (.slice la N lc)/\w'.cell? (aW ps 6) = some (.int .u64 (P:Int))/\w'.cell? (aW ps 7) = some (.int .u64 (C:Int))) (fun _=>true) bf hS.out (fun hHeld => ?_);refine tq 0 (h:=tq 1 (h:=tq 2 (h:=tq 3 (h:=tq 4 (h:=tq 5 (h:=tw 6 (.bool true) (h:=tq 7 (h:=tq 8 (h:=tq 9 (h:=tq 10 (h:=tq 11 (h:=tq 12 (h:=tq 13 (h:=?_))))))))))))));refine tw 14 (.bool true) (h:=tg 15 (.bool true) (h:=tq 16 (h:=tq 17 (h:=tw 18 (.bool false) (h:=tw 19 (.bool false) (h:=tq 20 (h:=ts 21 (h:=ts 22 (h:=ts 23 (h:=tw 24 (.bool false) (h:=tq 25 (h:=ts 26 (h:=ts 27 (h:=?_))))))))))))));refine ts 28 (h:=tw 29 (.bool false) (h:=tq 30 (h:=tD (h:=?_))));go_wp2_with fail;go_ret;exact ⟨_,o,rfl,hst.out,by (simp;omega)⟩
  ·have h1I:¬ (C:Int) < (E:Int):=aP
   have hfin:=ae (show (decide (P <= E) && decide (C < E) && decide (E <= 281474976710656) && decide (N <= 256) && r) = false by simp [h0,h1]);clear h0 h1;go_enter func179,ntmps179;go_wp2_with fail;refine Aa (fun w'=>w'.cell? eb = some (.int .u64 (E:Int))/\w'.cell? sb = some (.pointer ps)/\w'.cell? lb = some (.slice la N lc)/\w'.cell? (aW ps 6) = some (.int .u64 (P:Int))/\w'.cell? (aW ps 7) = some (.int .u64 (C:Int))) (fun _=>true) bf hS.out (fun hHeld => ?_);refine tq 0 (h:=tq 1 (h:=tq 2 (h:=tq 3 (h:=tq 4 (h:=tq 5 (h:=tw 6 (.bool true) (h:=tq 7 (h:=tq 8 (h:=tq 9 (h:=tq 10 (h:=tq 11 (h:=tq 12 (h:=tq 13 (h:=?_))))))))))))));refine tw 14 (.bool false) (h:=tw 15 (.bool false) (h:=tq 16 (h:=ts 17 (h:=ts 18 (h:=tw 19 (.bool false) (h:=tq 20 (h:=ts 21 (h:=ts 22 (h:=ts 23 (h:=tw 24 (.bool false) (h:=tq 25 (h:=ts 26 (h:=ts 27 (h:=?_))))))))))))));refine ts 28 (h:=tw 29 (.bool false) (h:=tq 30 (h:=tD (h:=?_))));go_wp2_with fail;go_ret;exact ⟨_,o,rfl,hst.out,by (simp;omega)⟩
 ·have h0I:¬ (P:Int) <= (E:Int):=aP
  have hfin:=ae (show (decide (P <= E) && decide (C < E) && decide (E <= 281474976710656) && decide (N <= 256) && r) = false by simp [h0]);clear h0;go_enter func179,ntmps179;go_wp2_with fail;refine Aa (fun w'=>w'.cell? eb = some (.int .u64 (E:Int))/\w'.cell? sb = some (.pointer ps)/\w'.cell? lb = some (.slice la N lc)/\w'.cell? (aW ps 6) = some (.int .u64 (P:Int))/\w'.cell? (aW ps 7) = some (.int .u64 (C:Int))) (fun _=>true) bf hS.out (fun hHeld => ?_);refine tq 0 (h:=tq 1 (h:=tq 2 (h:=tq 3 (h:=tq 4 (h:=tq 5 (h:=tw 6 (.bool false) (h:=tq 7 (h:=ts 8 (h:=ts 9 (h:=ts 10 (h:=ts 11 (h:=ts 12 (h:=ts 13 (h:=?_))))))))))))));refine ts 14 (h:=tw 15 (.bool false) (h:=tq 16 (h:=ts 17 (h:=ts 18 (h:=tw 19 (.bool false) (h:=tq 20 (h:=ts 21 (h:=ts 22 (h:=ts 23 (h:=tw 24 (.bool false) (h:=tq 25 (h:=ts 26 (h:=ts 27 (h:=?_))))))))))))));refine ts 28 (h:=tw 29 (.bool false) (h:=tq 30 (h:=tD (h:=?_))));go_wp2_with fail;go_ret;exact ⟨_,o,rfl,hst.out,by (simp;omega)⟩
end

end Go.Proofs.YthmpmgknnibljaaGreat
