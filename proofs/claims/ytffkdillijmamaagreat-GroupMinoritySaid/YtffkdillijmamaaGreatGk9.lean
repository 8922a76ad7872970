/- Plain laws of layer 12 (no program): a node over a store that has room and power does as the plain node. -/
import Derived.Test.YtffkdillijmamaaGreatGk6
import Derived.Test.YtffkdillijmamaaGreatGk7
import Derived.Test.YtffkdillijmamaaGreatGk8
namespace Go.Proofs.YtffkdillijmamaaGreat
open Go.Proofs.Tryz
set_option maxRecDepth 100000
set_option maxHeartbeats 12800000
open Go Go.RowKit
structure SP (K:Nat) (s:AZ):Prop where
 sg:SG K s.pages s
theorem SP.mono {K K':Nat} {s:AZ} (h:SP K s) (hK:K<=K'):SP K' s:=⟨h.sg.mono hK⟩
theorem SP.dead {K:Nat} {s:AZ} (h:SP K s):(s.dead || s.d.dead)=false:=by rw [h.sg.live,h.sg.dd];rfl
theorem SP.of {K H:Nat} {s:AZ} (h:SG K H s):SP K s:=⟨by rw [h.pg];exact h⟩
theorem SP.new {n:Nat} (h8:8<=n) (h4:n<=400):SP 0 (YJ n) := .of (dL h8 (by omega))
theorem Aht {K:Nat} {s:AZ} (h:SP K s) (hK:K+600<65536) (hk:KOk s.kept) (a:bW) :
  (∃ s' er,s.act a=(s',er)/\er ≠ 0) \/ ((s.kept.next a).2=0/\∃ s',s.act a=(s',0)/\SP (K+3) s'/\s'.kept=(s.kept.next a).1):=by
 rcases AZ.Zk h.sg hK hk a with ⟨h1,h2,h3⟩ | ⟨h0,s',h1,h2,h3,h4,h5⟩ | ⟨h0,h1,h2⟩ | ⟨-, -, -,s',h1, -⟩
 ·exact .inl ⟨_,_,h3,by decide⟩
 ·exact .inr ⟨h0,s',h1, .of h2,h3⟩
 ·exact .inl ⟨_,_,h1,by decide⟩
 ·exact .inl ⟨_,_,h1,by decide⟩
theorem AcS {K:Nat} {s:AZ} (h:SP K s) (hK:K+600<65536) (hk:KOk s.kept) (e:BitVec 64) :
  (∃ s' er,s.promise e=(s',er)/\er ≠ 0) \/ ((s.kept.CQ e).2=0/\∃ s',s.promise e=(s',0)/\SP (K+3) s'/\s'.kept=(s.kept.CQ e).1):=
 Aht h hK hk ⟨0,e,[]⟩
theorem KW {K:Nat} {s:AZ} (h:SP K s) (hK:K+600<65536) (hk:KOk s.kept) (e:BitVec 64) (ls:List Ar) :
  (∃ s' er,s.FO e ls=(s',er)/\er ≠ 0) \/ ((s.kept.Ee e ls).2=0/\∃ s',s.FO e ls=(s',0)/\SP (K+3) s'/\s'.kept=(s.kept.Ee e ls).1):=
 Aht h hK hk ⟨1,e,ls⟩
theorem Jy {K:Nat} {s:AZ} (h:SP K s) (hK:K+600<65536) (hk:KOk s.kept) (ls:List Ar) :
  (∃ s' er,s.append ls=(s',er)/\er ≠ 0) \/ ((s.kept.Cm ls).2=0/\∃ s',s.append ls=(s',0)/\SP (K+3) s'/\s'.kept=(s.kept.Cm ls).1):=
 Aht h hK hk ⟨2,0,ls⟩
structure SU (C K:Nat) (s:AZ):Prop where
 sp:SP K s
 up:s.d.left<0
 room:C+4200<=480*(s.pages - 1)
 top:s.pages<=199
theorem SU.mono {C K K':Nat} {s:AZ} (h:SU C K s) (hK:K<=K'):SU C K' s:=⟨h.sp.mono hK,h.up,h.room,h.top⟩
theorem AgQ {C K:Nat} {s:AZ} (h:SU C K s) (hK:K+600<65536) (hk:KOk s.kept) (a:bW) (hb:AP (s.kept.next a).1.lines<=C) :
  ((s.kept.next a).2=1/\s.act a=(s,1)) \/ ((s.kept.next a).2=0/\∃ s',s.act a=(s',0)/\SU C (K+3) s'/\s'.kept=(s.kept.next a).1):=by
 have hr:=h.room
 rcases AZ.Zk h.sp.sg hK hk a with ⟨h1,h2,h3⟩ | ⟨h0,s',h1,h2,h3,h4,h5⟩ | ⟨h0,h1,h2⟩ | ⟨-, -,h1, -⟩
 ·exact .inl ⟨h1,h3⟩
 ·exact .inr ⟨h0,s',h1,⟨.of h2,h5 h.up,by rw [h2.pg];exact hr,by rw [h2.pg];exact h.top⟩,h3⟩
 ·have h3:=h2 (2*s.pages) (by omega);have h4:=(hk.next a).n;unfold AX.fits bH at h3;simp only [decide_eq_false_iff_not] at h3;omega
 ·have:=h.up;omega
theorem AeH {C K:Nat} {s:AZ} (h:SU C K s) (hK:K+600<65536) (hk:KOk s.kept) (hb:AP s.kept.lines<=C) (e:BitVec 64) :
  ((s.kept.CQ e).2=1/\s.promise e=(s,1)) \/ ((s.kept.CQ e).2=0/\∃ s',s.promise e=(s',0)/\SU C (K+3) s'/\s'.kept=(s.kept.CQ e).1):=by
 refine AgQ h hK hk ⟨0,e,[]⟩ ?_;show AP (s.kept.CQ e).1.lines<=C;unfold AX.CQ;split <;> exact hb
theorem AgL {C K:Nat} {s:AZ} (h:SU C K s) (hK:K+600<65536) (hk:KOk s.kept) (e:BitVec 64) (ls:List Ar) (hb:AP s.kept.lines<=C) (hb2:AP ls<=C) :
  ((s.kept.Ee e ls).2=1/\s.FO e ls=(s,1)) \/ ((s.kept.Ee e ls).2=0/\∃ s',s.FO e ls=(s',0)/\SU C (K+3) s'/\s'.kept=(s.kept.Ee e ls).1):=by
 refine AgQ h hK hk ⟨1,e,ls⟩ ?_;show AP (s.kept.Ee e ls).1.lines<=C;unfold AX.Ee;split
 ·exact hb2
 ·exact hb
theorem AfU {C K:Nat} {s:AZ} (h:SU C K s) (hK:K+600<65536) (hk:KOk s.kept) (ls:List Ar) (hb:AP s.kept.lines+AP ls<=C) :
  ((s.kept.Cm ls).2=1/\s.append ls=(s,1)) \/ ((s.kept.Cm ls).2=0/\∃ s',s.append ls=(s',0)/\SU C (K+3) s'/\s'.kept=(s.kept.Cm ls).1):=by
 refine AgQ h hK hk ⟨2,0,ls⟩ ?_;show AP (s.kept.Cm ls).1.lines<=C;unfold AX.Cm;split
 ·show AP (s.kept.lines++ls)<=C;rw [DV];exact hb
 ·show AP s.kept.lines<=C;omega
namespace Am
structure NP (K B:Nat) (z:Am):Prop where
 sp:SP K z.s
 ok:NOk B z.BN
theorem NP.mono {K K' B B':Nat} {z:Am} (h:NP K B z) (hK:K<=K') (hB:B<=B'):NP K' B' z:=⟨h.sp.mono hK,h.ok.mono hB⟩
theorem NP.kok {K B:Nat} {z:Am} (h:NP K B z):KOk z.s.kept:=h.ok.toN0.kok
theorem LG (z:Am) (mine:BitVec 64) (nR:List Int) (base:Nat) (ready:Bool):(z.count mine nR base ready).BN=z.BN.count mine nR base ready/\(z.count mine nR base ready).s=z.s:=by
 unfold count Aj.count;simp only;split
 ·rename_i h;rw [if_pos (show (base:Int)<=CW (nR.set z.BN.id z.BN.k.lines.length) from h)];exact ⟨rfl,rfl⟩
 ·rename_i h;rw [if_neg (show ¬ (base:Int)<=CW (nR.set z.BN.id z.BN.k.lines.length) from h)];exact ⟨rfl,rfl⟩
def Plain (C K:Nat) (r:Am × DX) (q:Aj × DX):Prop:=r.1.BN=q.1/\r.2=q.2/\SU C K r.1.s
theorem PV {C K:Nat} {z:Am} (h:SU C K z.s) (hK:K+600<65536) (hk:KOk z.s.kept) (hb:AP z.s.kept.lines<=C) (mine:BitVec 64) (has:List (Option (BitVec 64 × List Ar))) (hbs:∀ p,some p ∈ has->AP p.2<=C) :
  Plain C (K+3) (z.lead mine has) (z.BN.lead mine has):=by
 unfold lead Aj.lead
 by_cases hq:2*(has.filter Option.isSome).length<=z.n
 ·rw [if_pos hq,if_pos (show 2*(has.filter Option.isSome).length<=z.BN.n from hq)];exact ⟨rfl,rfl,h.mono (by omega)⟩
 ·rw [if_neg hq,if_neg (show ¬ 2*(has.filter Option.isSome).length<=z.BN.n from hq)]
  cases hbp:Qr has with
  | none=>exact ⟨rfl,rfl,h.mono (by omega)⟩
  | some p =>
   have hp:some p ∈ has:=by
    rcases NZ has none p hbp with h | h
    ·simp at h
    ·exact h
   simp only;have hkk:z.BN.k=z.s.kept:=rfl;rw [hkk]
   rcases AgL h hK hk mine p.2 hb (hbs p hp) with ⟨h1,h2⟩ | ⟨h1,s',h2,h3,h4⟩
   ·rw [h1,h2];exact ⟨rfl,rfl,h.mono (by omega)⟩
   ·rw [h1,h2,if_pos rfl,if_pos rfl, <-h4];obtain ⟨c1,c2⟩:=LG ({ z with s:=s',Ag:=min z.Ag p.2.length }:Am) mine (List.replicate z.n (-1)) p.2.length false;exact ⟨c1,rfl,by show SU C _ (Am.count _ _ _ _ _).s;rw [c2];exact h3⟩
theorem Uu {C K:Nat} {z:Am} (h:SU C K z.s) (hK:K+606<65536) (hk:KOk z.s.kept) (hb:AP z.s.kept.lines<=C):Plain C (K+6) z.stand z.BN.stand:=by
 unfold stand Aj.stand;have hkk:z.BN.k=z.s.kept:=rfl;have e1:z.BN.seen=z.seen:=rfl;have e2:z.BN.id=z.id:=rfl;have e3:z.BN.n=z.n:=rfl;simp only;rw [hkk,e1,e2,e3];generalize PQ (Fj z.s.kept.promised z.seen) z.id z.n=e
 by_cases he:e=0
 ·rw [if_pos he,if_pos he];exact ⟨rfl,rfl,h.mono (by omega)⟩
 ·rw [if_neg he,if_neg he]
  rcases AeH h (by omega) hk hb e with ⟨h1,h2⟩ | ⟨h1,s',h2,h3,h4⟩
  ·rw [h1,h2];exact ⟨rfl,rfl,h.mono (by omega)⟩
  ·rw [h1,h2,if_pos rfl,if_pos rfl, <-h4];have hl:s'.kept.lines=z.s.kept.lines:=by rw [h4,GM h1]
   have hk':KOk s'.kept:=⟨by rw [hl];exact hk.n,by rw [hl];exact hk.b⟩;have:=PV (z:={ z with s:=s',BB := .stands e ((List.replicate z.n none).set z.id (some (z.s.kept.current,z.s.kept.lines))),waited:=0 }) h3 (by omega) hk' (by show AP s'.kept.lines<=C;rw [hl];exact hb) e ((List.replicate z.n none).set z.id (some (z.s.kept.current,z.s.kept.lines))) (fun p hp=>by
    rcases List.mem_or_eq_of_mem_set hp with hx | hx
    ·have:=List.eq_of_mem_replicate hx;simp at this
    ·simp only [Option.some.injEq] at hx;subst hx;exact hb)
   obtain ⟨p1,p2,p3⟩:=this;refine ⟨p1, ?_,p3⟩;show _++_=_++_;rw [p2];rfl
theorem WC {C K:Nat} {z:Am} (h:SU C K z.s) (hK:K+606<65536) (hk:KOk z.s.kept) (hb:AP z.s.kept.lines<=C):Plain C (K+6) z.tick z.BN.tick:=by
 have key:∀ z:Am,SU C K z.s->KOk z.s.kept->AP z.s.kept.lines<=C ->
   Plain C (K+6) (if 3+2*z.id<z.waited+1 then ({ z with waited:=z.waited+1 }:Am).stand else (({ z with waited:=z.waited+1 }:Am),[])) (if 3+2*z.BN.id<z.BN.waited+1 then ({ z.BN with waited:=z.BN.waited+1 }:Aj).stand else (({ z.BN with waited:=z.BN.waited+1 }:Aj),[])):=by
  intro z h hk hb
  by_cases hw:3+2*z.id<z.waited+1
  ·rw [if_pos hw,if_pos (show 3+2*z.BN.id<z.BN.waited+1 from hw)];exact Uu (z:={ z with waited:=z.waited+1 }) h hK hk hb
  ·rw [if_neg hw,if_neg (show ¬ 3+2*z.BN.id<z.BN.waited+1 from hw)];exact ⟨rfl,rfl,h.mono (by omega)⟩
 obtain ⟨id,n,s,BB,waited,seen,Ag⟩:=z
 cases BB with
 | follows=>exact key _ h hk hb
 | stands a b=>exact key _ h hk hb
 | leads mine nR base ready=>exact ⟨rfl,rfl,h.mono (by omega)⟩
theorem Xk {C K:Nat} {z:Am} (h:SU C K z.s) (hK:K+600<65536) (hk:KOk z.s.kept) (src:Nat) (m:BG) (hb:AP z.s.kept.lines+AP m.ls<=C) (hbs:∀ mine has,z.BB = .stands mine has->∀ p,some p ∈ has->AP p.2<=C) :
  Plain C (K+3) (z.hear src m) (z.BN.hear src m):=by
 rw [Aj.MZ];unfold hear;have hy:({ z.BN with seen:=Fj z.BN.seen m.e }:Aj)=({ z with seen:=Fj z.seen m.e }:Am).BN:=rfl;rw [hy];have h':SU C K ({ z with seen:=Fj z.seen m.e }:Am).s:=h;have hk':KOk ({ z with seen:=Fj z.seen m.e }:Am).s.kept:=hk;have hb':AP ({ z with seen:=Fj z.seen m.e }:Am).s.kept.lines+AP m.ls<=C:=hb;have hbs':∀ mine has,({ z with seen:=Fj z.seen m.e }:Am).BB = .stands mine has->∀ p,some p ∈ has->AP p.2<=C:=hbs;generalize ({ z with seen:=Fj z.seen m.e }:Am)=y at *;clear h hk hb hbs hy;have hkk:y.BN.k=y.s.kept:=rfl;have stay:Plain C (K+3) (y,[]) (y.BN,[]):=⟨rfl,rfl,h'.mono (by omega)⟩;unfold Ec Aj.Ec;split
 ·unfold BK Aj.BK;rw [hkk];split
  ·exact stay
  split
  ·exact ⟨rfl,rfl,h'.mono (by omega)⟩
  rcases AeH h' hK hk' (by omega) m.e with ⟨h1,h2⟩ | ⟨h1,s',h2,h3,h4⟩
  ·rw [h1,h2];exact stay
  ·rw [h1,h2,if_pos rfl,if_pos rfl, <-h4];exact ⟨rfl,rfl,h3⟩
 split
 ·unfold Bj Aj.Bj;have hr:y.BN.BB=y.BB:=rfl;rw [hr]
  cases hrr:y.BB with
  | follows=>exact stay
  | leads a b c d=>exact stay
  | stands mine has =>
   show Plain C (K+3) (if mine ≠ m.e \/ m.e.toNat<=m.c.toNat then _ else _) (if mine ≠ m.e \/ m.e.toNat<=m.c.toNat then _ else _)
   split
   ·exact stay
   ·have hall:∀ p,some p ∈ (if (has.getD src none).isSome then has else has.set src (some (m.c,m.ls)))->AP p.2<=C:=by
     intro p hp;split at hp
     ·exact hbs' mine has hrr p hp
     ·rcases List.mem_or_eq_of_mem_set hp with hx | hx
      ·exact hbs' mine has hrr p hx
      ·simp only [Option.some.injEq] at hx;subst hx;show AP m.ls<=C;omega
    generalize (if (has.getD src none).isSome then has else has.set src (some (m.c,m.ls)))=uJ at *
    exact PV (z:={ y with BB := .stands mine uJ }) h' hK hk' (by show AP y.s.kept.lines<=C;omega) mine uJ hall
 split
 ·unfold Cj Aj.Cj;split <;> exact ⟨rfl,rfl,h'.mono (by omega)⟩
 split
 ·unfold BD Aj.BD;rw [hkk];split
  ·exact stay
  split
  ·exact ⟨rfl,rfl,h'.mono (by omega)⟩
  split
  ·exact ⟨rfl,rfl,h'.mono (by omega)⟩
  rcases AgL h' hK hk' m.e m.ls (by omega) (by omega) with ⟨h1,h2⟩ | ⟨h1,s',h2,h3,h4⟩
  ·rw [h1,h2];exact stay
  ·rw [h1,h2,if_pos rfl,if_pos rfl, <-h4];exact ⟨rfl,rfl,h3⟩
 split
 ·unfold BF Aj.BF;rw [hkk];split
  ·exact stay
  split
  ·exact ⟨rfl,rfl,h'.mono (by omega)⟩
  split
  ·exact stay
  simp only;split
  ·exact ⟨rfl,rfl,h'.mono (by omega)⟩
  split
  ·exact ⟨rfl,rfl,h'.mono (by omega)⟩
  have hd:=FN m.ls (y.s.kept.lines.length - m.at')
  rcases AfU h' hK hk' (m.ls.drop (y.s.kept.lines.length - m.at')) (by omega) with ⟨h1,h2⟩ | ⟨h1,s',h2,h3,h4⟩
  ·rw [h1,h2];exact ⟨rfl,rfl,h'.mono (by omega)⟩
  ·rw [h1,h2,if_pos rfl,if_pos rfl, <-h4];exact ⟨rfl,rfl,h3⟩
 ·unfold CJ Aj.CJ;have hr:y.BN.BB=y.BB:=rfl;rw [hr]
  cases hrr:y.BB with
  | follows=>exact stay
  | stands a b=>exact stay
  | leads mine nR base ready =>
   simp only;split
   ·obtain ⟨c1,c2⟩:=LG y mine (nR.set src (max (nR.getD src 0) (min m.at' y.s.kept.lines.length:Nat))) base ready;exact ⟨c1,rfl,by show SU C _ (Am.count _ _ _ _ _).s;rw [c2];exact h'.mono (by omega)⟩
   ·exact stay
theorem QL {C K:Nat} {z:Am} (h:SU C K z.s) (hK:K+600<65536) (hk:KOk z.s.kept) (b:List UInt8) (hb:AP z.s.kept.lines+b.length<=C) :
  (z.BL b).1.BN=(z.BN.BL b).1/\(z.BL b).2=(z.BN.BL b).2/\SU C (K+3) (z.BL b).1.s:=by
 obtain ⟨id,n,s,BB,waited,seen,Ag⟩:=z;have h':SU C (K+3) s:=h.mono (by omega)
 by_cases hbl:b.length=0 \/ 4096<b.length
 ·unfold BL Aj.BL;rw [if_pos hbl,if_pos hbl];exact ⟨rfl,rfl,h'⟩
 cases BB with
 | follows=>unfold BL Aj.BL;rw [if_neg hbl,if_neg hbl];exact ⟨rfl,rfl,h'⟩
 | stands a c=>unfold BL Aj.BL;rw [if_neg hbl,if_neg hbl];exact ⟨rfl,rfl,h'⟩
 | leads mine nR base ready =>
  cases ready with
  | false=>unfold BL Aj.BL;rw [if_neg hbl,if_neg hbl];exact ⟨rfl,rfl,h'⟩
  | true =>
   have p1:(⟨id,n,s, .leads mine nR base true,waited,seen,Ag⟩:Am).BL b=(if 256<=s.kept.lines.length then (⟨id,n,s, .leads mine nR base true,waited,seen,Ag⟩,4) else
     if (s.append [⟨mine,b⟩]).2=0 then ((⟨id,n,(s.append [⟨mine,b⟩]).1, .leads mine nR base true,waited,seen,Ag⟩:Am).count mine nR base true,0) else (⟨id,n,(s.append [⟨mine,b⟩]).1, .leads mine nR base true,waited,seen,Ag⟩,(s.append [⟨mine,b⟩]).2)):=by
    unfold BL;rw [if_neg hbl]
   have p2:(⟨id,n,s.kept, .leads mine nR base true,waited,seen,Ag⟩:Aj).BL b=(if 256<=s.kept.lines.length then (⟨id,n,s.kept, .leads mine nR base true,waited,seen,Ag⟩,4) else
     if (s.kept.Cm [⟨mine,b⟩]).2=0 then ((⟨id,n,(s.kept.Cm [⟨mine,b⟩]).1, .leads mine nR base true,waited,seen,Ag⟩:Aj).count mine nR base true,0) else (⟨id,n,s.kept, .leads mine nR base true,waited,seen,Ag⟩,(s.kept.Cm [⟨mine,b⟩]).2)):=by
    unfold Aj.BL;rw [if_neg hbl]
   show (Am.BL _ b).1.BN=(Aj.BL ⟨id,n,s.kept, .leads mine nR base true,waited,seen,Ag⟩ b).1/\(Am.BL _ b).2=(Aj.BL ⟨id,n,s.kept, .leads mine nR base true,waited,seen,Ag⟩ b).2/\_;rw [p1,p2]
   by_cases hf:256<=s.kept.lines.length
   ·rw [if_pos hf,if_pos hf];exact ⟨rfl,rfl,h'⟩
   rw [if_neg hf,if_neg hf]
   rcases AfU (s:=s) h hK hk [⟨mine,b⟩] (by simpa [AP] using hb) with ⟨h1,h2⟩ | ⟨h1,s',h2,h3,h4⟩
   ·rw [h1,h2,if_neg (by show ¬ (1:Int)=0;decide),if_neg (by decide)];exact ⟨rfl,rfl,h'⟩
   ·rw [h1,h2,if_pos rfl,if_pos rfl, <-h4];obtain ⟨c1,c2⟩:=LG (⟨id,n,s', .leads mine nR base true,waited,seen,Ag⟩:Am) mine nR base true;refine ⟨c1,rfl, ?_⟩;show SU C (K+3) (Am.count ⟨id,n,s', .leads mine nR base true,waited,seen,Ag⟩ mine nR base true).s;rw [c2];exact h3
end Am
theorem En.small {B:Nat} {ls:List Ar} (h:En B ls) (hB:B<=100000):small ls:=by
 refine ⟨Nat.le_trans h.n (by omega), ?_⟩;rw [Ej];have:=h.n;have:=h.b;omega
theorem ZF {D M:Nat} (h:D<=M/\D ≠ 0):Qw (M+1) (M+2) (M+3) D:=by
 obtain ⟨h1,h2⟩:=h
 constructor <;> omega
section
variable {w:World} {o:Own} {D M ps pd K B:Nat} {s:AZ}
def Ahu (D M ps pd:Nat) (Q:AZ × Int) (v:Value) (w':World) (o':Own):Prop:=v = .int .i64 Q.2/\Bi w' o' (M+1) (M+2) (M+3) D ps pd 0 Q.1
theorem Wrote.zero {nb:Nat} {Q:AZ × Int} {v:Value} {w':World} {o':Own} (h:Wrote (M+1) (M+2) (M+3) D ps pd 0 nb Q v w' o'):Ahu D M ps pd Q v w' o':=⟨h.1,h.2.low (Nat.zero_le _)⟩
theorem Jb (ML:D<=M/\D ≠ 0) (h:Bi w o (M+1) (M+2) (M+3) D ps pd 0 s) (hp:SP K s) (hsm:small s.kept.lines) (e:BitVec 64) :
  Calls prog 138 #[.pointer (some ⟨ps,0,none⟩), .int .u64 (e.toNat:Int)] w (XL (qG (M+1) (M+2) (M+3) D) w o fun v w' o'=>Ahu D M ps pd (s.promise e) v w' o'):=by
 refine (SA (ZF ML) h (by rw [hp.sg.row];simp) ?_ hsm e).mono ?_
 ·have:=hp.sg.h4;have:=hp.sg.VC;omega
 ·rintro e w' ⟨v,o',rfl,hs,hw⟩;exact ⟨v,o',rfl,hs,hw.zero⟩
theorem Pe (ML:D<=M/\D ≠ 0) (h:Bi w o (M+1) (M+2) (M+3) D ps pd 0 s) (hp:SP K s) (e:BitVec 64) {Aed:Nat} {lv:Value} {ls:List Ar} (hl:Lines w o Aed lv ls) (hls:small ls) :
  Calls prog 197 #[.pointer (some ⟨ps,0,none⟩), .int .u64 (e.toNat:Int),lv] w (XL (qG (M+1) (M+2) (M+3) D) w o fun v w' o'=>Ahu D M ps pd (s.FO e ls) v w' o'):=by
 refine (WQ (ZF ML) h (by rw [hp.sg.row];simp) ?_ e lv ls hl hls.1 (fun _=>hls)).mono ?_
 ·have:=hp.sg.h4;have:=hp.sg.VC;omega
 ·rintro e w' ⟨v,o',rfl,hs,hw⟩;exact ⟨v,o',rfl,hs,hw.zero⟩
theorem Ob (ML:D<=M/\D ≠ 0) (h:Bi w o (M+1) (M+2) (M+3) D ps pd 0 s) (hp:SP K s) {Aed:Nat} {lv:Value} {ls:List Ar} (hl:Lines w o Aed lv ls) (hls:small ls) (hk:small s.kept.lines) (hkl:small (s.kept.lines++ls) \/ 1000<s.kept.lines.length+ls.length) :
  Calls prog 92 #[.pointer (some ⟨ps,0,none⟩),lv] w (XL (qG (M+1) (M+2) (M+3) D) w o fun v w' o'=>Ahu D M ps pd (s.append ls) v w' o'):=by
 refine (UD (ZF ML) h (by rw [hp.sg.row];simp) ?_ lv ls hl hls.1 hk.1 (fun ha=>⟨hls,hk, ?_⟩)).mono ?_
 ·have:=hp.sg.h4;have:=hp.sg.VC;omega
 ·rcases hkl with h | h
  ·exact h
  ·unfold AX.Eu at ha;simp only [Bool.and_eq_true,decide_eq_true_eq] at ha;omega
 ·rintro e w' ⟨v,o',rfl,hs,hw⟩;exact ⟨v,o',rfl,hs,hw.zero⟩
end
abbrev DT:=BitVec 64 × List Ar
def BC (j:Nat):List (Option DT)->List (Nat × DT)
 | []=>[]
 | none :: r=>BC (j+1) r
 | some p :: r=>(j,p) :: BC (j+1) r
theorem KF:∀ (l:List (Option DT)) (j:Nat),(BC j l).length=(l.filter Option.isSome).length
 | [],_=>rfl
 | none :: r,j=>by simpa [BC] using KF r (j+1)
 | some p :: r,j=>by simpa [BC] using KF r (j+1)
theorem Fa:∀ (l:List (Option DT)) (j i:Nat) (p:DT),(i,p) ∈ BC j l ↔ ∃ k,i=j+k/\l[k]?=some (some p)
 | [],_,_,_=>by simp [BC]
 | none :: r,j,i,p=>by
  rw [show BC j (none :: r)=BC (j+1) r from rfl,Fa r (j+1) i p]
  constructor
  ·rintro ⟨k,rfl,h⟩;exact ⟨k+1,by omega,h⟩
  ·rintro ⟨k,rfl,h⟩
   cases k with
   | zero=>simp at h
   | succ k=>exact ⟨k,by omega,h⟩
 | some q :: r,j,i,p=>by
  rw [show BC j (some q :: r)=(j,q) :: BC (j+1) r from rfl,List.mem_cons,Fa r (j+1) i p]
  constructor
  ·rintro (h | ⟨k,rfl,h⟩)
   ·cases h;exact ⟨0,by omega,rfl⟩
   ·exact ⟨k+1,by omega,h⟩
  ·rintro ⟨k,rfl,h⟩
   cases k with
   | zero=>simp at h;subst h;exact .inl rfl
   | succ k=>exact .inr ⟨k,by omega,h⟩
theorem Mc:∀ (l:List (Option DT)) (j:Nat),((BC j l).map (·.1)).Pairwise (· < ·)
 | [],_=>by simp [BC]
 | none :: r,j=>Mc r (j+1)
 | some p :: r,j=>by
  rw [show BC j (some p :: r)=(j,p) :: BC (j+1) r from rfl,List.map_cons,List.pairwise_cons];refine ⟨fun i hi => ?_,Mc r (j+1)⟩;obtain ⟨x,hx,rfl⟩:=List.mem_map.1 hi;obtain ⟨k,h, -⟩:=(Fa r (j+1) x.1 x.2).1 hx;show j<x.1;omega
theorem Ll:∀ (l:List (Option DT)) (j:Nat) (b:Option DT),l.foldl EW b=(BC j l).foldl (fun b x=>EW b (some x.2)) b
 | [],_,_=>rfl
 | none :: r,j,b=>by
  rw [List.foldl_cons,show BC j (none :: r)=BC (j+1) r from rfl, <-Ll r (j+1)];rfl
 | some p :: r,j,b=>by
  rw [List.foldl_cons,show BC j (some p :: r)=(j,p) :: BC (j+1) r from rfl,List.foldl_cons,Ll r (j+1)]
theorem WN {w:World} {o:Own} {Z mb:Nat} {has:List (Option DT)} (h:OE w o Z mb has) :
  ∃ es:List Ent,(w.heap[mb]?=some (.map (Bd 0 es).toArray es.length)/\o mb=(Z,2))/\(es.map (·.1)).Nodup/\(∀ x ∈ es,x.1<has.length)/\es.length=(has.filter Option.isSome).length /\
   (∀ q:List Nat,q.Perm (es.map (·.1))->q.Pairwise (· <= ·)->q=(BC 0 has).map (·.1))/\(∀ i p,(i,p) ∈ BC 0 has->∃ x ∈ es,x.1=i/\x.2.1=p.1/\Lines w o 0 x.2.2 p.2)/\∀ x ∈ es,∃ ls,has[x.1]?=some (some (x.2.1,ls))/\Lines w o 0 x.2.2 ls:=by
 obtain ⟨es,h1,h2,h3,h4,h5⟩:=h;have hm:∀ i,i ∈ es.map (·.1) ↔ i ∈ (BC 0 has).map (·.1):=by
  intro i
  constructor
  ·intro hi;obtain ⟨x,hx,rfl⟩:=List.mem_map.1 hi;obtain ⟨ls,hl, -⟩:=h4 x hx;exact List.mem_map.2 ⟨(x.1,(x.2.1,ls)),(Fa has 0 _ _).2 ⟨x.1,by omega,hl⟩,rfl⟩
  ·intro hi;obtain ⟨x,hx,rfl⟩:=List.mem_map.1 hi;obtain ⟨k,hk,hl⟩:=(Fa has 0 x.1 x.2).1 hx;obtain ⟨y,hy,hyx⟩:=h5 k x.2 hl;exact List.mem_map.2 ⟨y,hy,by show y.1=x.1;omega⟩
 have hnd:((BC 0 has).map (·.1)).Nodup:=(Mc has 0).imp (fun h=>by omega);have hp:(es.map (·.1)).Perm ((BC 0 has).map (·.1)):=(List.perm_ext_iff_of_nodup h3 hnd).2 hm;refine ⟨es,⟨h1,h2⟩,h3,fun x hx => ?_, ?_,fun q hq hs => ?_,fun i p hip => ?_,h4⟩
 ·obtain ⟨ls,hl, -⟩:=h4 x hx;exact (List.getElem?_eq_some_iff.1 hl).1
 ·have:=hp.length_eq;rw [List.length_map,List.length_map,KF] at this;exact this
 ·refine List.Perm.eq_of_pairwise (le:=fun a b:Nat=>a<=b) (fun a b _ _ h1 h2=>by omega) hs ((Mc has 0).imp (fun h=>by omega)) (hq.trans hp)
 ·obtain ⟨k,hk,hl⟩:=(Fa has 0 i p).1 hip;obtain ⟨y,hy,hyx⟩:=h5 k p hl;obtain ⟨ls,hl2,hL⟩:=h4 y hy;rw [hyx,hl] at hl2;simp only [Option.some.injEq] at hl2;subst hl2;exact ⟨y,hy,by omega,rfl,hL⟩
def JA (w:World) (o:Own) (b:Option DT) (pv:Option Addr):Prop:=
 match b with
 | none=>pv=none
 | some p=>∃ pp lv,pv=some ⟨pp,0,none⟩/\w.heap[pp]?=some (.cells [.int .u64 (p.1.toNat:Int),lv].toArray 203 (0,0))/\(o pp).1=0/\Lines w o 0 lv p.2
theorem JA.step {T:Nat->Prop} {w w':World} {o o':Own} {b:Option DT} {pv:Option Addr} (h:JA w o b pv) (s:aj T w o w' o') (h0:¬ T 0):JA w' o' b pv:=by
 cases b with
 | none=>exact h
 | some p =>
  obtain ⟨pp,lv,h1,h2,h3,h4⟩:=h;have hl:=au h2;exact ⟨pp,lv,h1,by rw [s.block pp hl (by rw [h3];exact h0)];exact h2,by rw [s.own pp hl];exact h3,h4.step s h0⟩
def Qx (w:World) (o:Own) (D M pz ps pd p:Nat) (z:Am) (mine:BitVec 64) (has:List (Option DT)):Prop:=
 (D<=M/\D ≠ 0)/\GK w o (M+4) pz ps (.iface 201 (.pointer (some ⟨p,0,none⟩))) z/\KA w o (M+4) p mine has/\Bi w o (M+1) (M+2) (M+3) D ps pd 0 z.s
theorem Qx.node {w:World} {o:Own} {D M pz ps pd p:Nat} {z:Am} {mine:BitVec 64} {has:List (Option DT)} (h:Qx w o D M pz ps pd p z mine has) (hr:z.BB = .stands mine has):Bc w o D M pz ps pd z:=
 ⟨h.1,_,h.2.1,by rw [hr];exact ⟨p,rfl,h.2.2.1⟩,h.2.2.2⟩
attribute [local go_sem ↓] Go.wp_at_zero Go.wp_at_succ
def Ea (m:BG) (lv:Value):Value := .agg #[.int .u8 (m.k:Int), .int .u64 (m.e.toNat:Int), .int .u64 (m.c.toNat:Int), .int .i64 (m.at':Int), .int .i64 (m.com:Int),lv]
def Bf (m:BG) (lv:Value):List Value:=[.int .u8 (m.k:Int), .int .u64 (m.e.toNat:Int), .int .u64 (m.c.toNat:Int), .int .i64 (m.at':Int), .int .i64 (m.com:Int),lv]
def IU:Obj := .map #[⟨.int .u8 1, .agg #[.bool false, .bool false, .bool false, .bool false],0⟩,⟨.int .u8 2, .agg #[.bool true, .bool false, .bool false, .bool true],1⟩,⟨.int .u8 3, .agg #[.bool false, .bool false, .bool false, .bool false],2⟩,⟨.int .u8 4, .agg #[.bool false, .bool false, .bool false, .bool true],3⟩,⟨.int .u8 5, .agg #[.bool false, .bool true, .bool true, .bool true],4⟩,⟨.int .u8 6, .agg #[.bool false, .bool true, .bool false, .bool false],5⟩] 6
def HY:Obj := .map #[⟨.int .u8 1, .func (.func 149) #[] #[],0⟩,⟨.int .u8 2, .func (.func 150) #[] #[],1⟩,⟨.int .u8 3, .func (.func 151) #[] #[],2⟩,⟨.int .u8 4, .func (.func 152) #[] #[],3⟩,⟨.int .u8 5, .func (.func 153) #[] #[],4⟩,⟨.int .u8 6, .func (.func 154) #[] #[],5⟩] 6
theorem JB (t e:TypeId) (_ht:prog.underlying t=some (.map 5 e)) (w:World):(Instr.makeMap t none).run prog w = .ok (.map (some w.heap.size)) (w.alloc (.map #[] 0)):=by
 simp only [Instr.makeMap,Sem.run_bind];rfl
theorem CU (t e:TypeId) (ht:prog.underlying t=some (.map 5 e)) (w:World) (es:Array MapEntry) (clock:Nat) (k:Int) (v:Value) (hf:Instr.findNow (.int .u8) (.int .u8 k) es.toList 0=some none) :
  (Instr.mapUpdate t (.map (some w.heap.size)) (.int .u8 k) v).run prog (w.alloc (.map es clock)) = .ok () (w.alloc (.map (es.push ⟨.int .u8 k,v,clock⟩) (clock+1))):=by
 have hb:(w.alloc (.map es clock)).heap[w.heap.size]?=some (.map es clock):=heap_alloc_new w _;have hck:(Instr.checkKey false 10000 5 (.int .u8 k)).run prog (w.alloc (.map es clock)) = .ok () (w.alloc (.map es clock)):=by
  unfold Instr.checkKey;simp [run_underlying underlying5]
 have hfk:(Instr.findKey 5 (.int .u8 k) es.toList).run prog (w.alloc (.map es clock)) = .ok none (w.alloc (.map es clock)):=by
  simp [Instr.findKey,run_underlying underlying5,hf]
 simp only [Instr.mapUpdate,Sem.run_bind,run_underlying ht,Result.andThen_ok,MapKept.run_getObj_map hb,hck,hfk,MapKept.run_setObj_map _ hb];rw [OC]
def Dl (k:Nat):Bool × Bool × Bool × Bool:=(decide (k=2),decide (k=5 \/ k=6),decide (k=5),decide (k=2 \/ k=4 \/ k=5))
def kindOk (k:Nat):Bool:=decide (1<=k/\k<=6)
def Ku (k:Nat):List Value:=[.bool (Dl k).1, .bool (Dl k).2.1, .bool (Dl k).2.2.1, .bool (Dl k).2.2.2]
theorem IB {w:World} {b:Nat} (hb:w.heap[b]?=some IU) (k:Nat) :
  (Instr.lookup 273 (.map (some b)) (.int .u8 (k:Int)) true).run prog w = .ok (.tuple #[.agg (Ku k).toArray, .bool (kindOk k)]) w:=by
 have hck:∀ k:Int,(Instr.checkKey false 10000 5 (.int .u8 k)).run prog w = .ok () w:=fun k=>by
  unfold Instr.checkKey;simp [run_underlying underlying5]
 have hz:(zeroValue 271).run prog w = .ok (.agg #[.bool false, .bool false, .bool false, .bool false]) w:=by kernel_rfl
 unfold IU at hb
 by_cases h:k=1 \/ k=2 \/ k=3 \/ k=4 \/ k=5 \/ k=6
 ·rcases h with rfl | rfl | rfl | rfl | rfl | rfl
  all_goals
   simp only [Instr.lookup,Sem.run_bind,run_underlying underlying273,Result.andThen_ok,MapKept.run_getObj_map hb,Sem.run_pure,Instr.findKey,run_underlying underlying5];simp [Instr.findNow,Instr.sameNow,hck,Ku,Dl,kindOk]
 ·have h1:¬ (1:Int)=k:=by omega
  have h2:¬ (2:Int)=k:=by omega
  have h3:¬ (3:Int)=k:=by omega
  have h4:¬ (4:Int)=k:=by omega
  have h5:¬ (5:Int)=k:=by omega
  have h6:¬ (6:Int)=k:=by omega
  have g1:¬ (k:Int)=1:=by omega
  have g2:¬ (k:Int)=2:=by omega
  have g3:¬ (k:Int)=3:=by omega
  have g4:¬ (k:Int)=4:=by omega
  have g5:¬ (k:Int)=5:=by omega
  have g6:¬ (k:Int)=6:=by omega
  have q1:((k:Int) == 1)=false:=by simp;omega
  have q2:((k:Int) == 2)=false:=by simp;omega
  have q3:((k:Int) == 3)=false:=by simp;omega
  have q4:((k:Int) == 4)=false:=by simp;omega
  have q5:((k:Int) == 5)=false:=by simp;omega
  have q6:((k:Int) == 6)=false:=by simp;omega
  have e1:Ku k=[.bool false, .bool false, .bool false, .bool false]:=by
   unfold Ku Dl;simp only [show ¬ k=2 by omega,show ¬ k=5 by omega,show ¬ k=6 by omega,show ¬ k=4 by omega,decide_false,false_or]
  have e2:kindOk k=false:=by unfold kindOk;simp only [decide_eq_false_iff_not];omega
  rw [e1,e2];simp only [Instr.lookup,Sem.run_bind,run_underlying underlying273,Result.andThen_ok,MapKept.run_getObj_map hb,Sem.run_pure,Instr.findKey,run_underlying underlying5];simp [Instr.findNow,Instr.sameNow,hck,q1,q2,q3,q4,q5,q6]
theorem RG (w:World) (o:Own):Calls prog 206 #[] w (XL ai w o fun v w' _o'=>∃ b,v = .map (some b)/\w'.heap[b]?=some IU):=by
 have hm0:=ae (JB 273 _ underlying273 w);have hm1:=ae (CU 273 _ underlying273 w #[] 0 1 (.agg #[.bool false, .bool false, .bool false, .bool false]) rfl);have hm2:=ae (CU 273 _ underlying273 w #[⟨.int .u8 1, .agg #[.bool false, .bool false, .bool false, .bool false],0⟩] 1 2 (.agg #[.bool true, .bool false, .bool false, .bool true]) rfl);have hm3:=ae (CU 273 _ underlying273 w #[⟨.int .u8 1, .agg #[.bool false, .bool false, .bool false, .bool false],0⟩,⟨.int .u8 2, .agg #[.bool true, .bool false, .bool false, .bool true],1⟩] 2 3 (.agg #[.bool false, .bool false, .bool false, .bool false]) rfl);have hm4:=ae (CU 273 _ underlying273 w #[⟨.int .u8 1, .agg #[.bool false, .bool false, .bool false, .bool false],0⟩,⟨.int .u8 2, .agg #[.bool true, .bool false, .bool false, .bool true],1⟩,⟨.int .u8 3, .agg #[.bool false, .bool false, .bool false, .bool false],2⟩] 3 4 (.agg #[.bool false, .bool false, .bool false, .bool true]) rfl);have hm5:=ae (CU 273 _ underlying273 w #[⟨.int .u8 1, .agg #[.bool false, .bool false, .bool false, .bool false],0⟩,⟨.int .u8 2, .agg #[.bool true, .bool false, .bool false, .bool true],1⟩,⟨.int .u8 3, .agg #[.bool false, .bool false, .bool false, .bool false],2⟩,⟨.int .u8 4, .agg #[.bool false, .bool false, .bool false, .bool true],3⟩] 4 5 (.agg #[.bool false, .bool true, .bool true, .bool true]) rfl);have hm6:=ae (CU 273 _ underlying273 w #[⟨.int .u8 1, .agg #[.bool false, .bool false, .bool false, .bool false],0⟩,⟨.int .u8 2, .agg #[.bool true, .bool false, .bool false, .bool true],1⟩,⟨.int .u8 3, .agg #[.bool false, .bool false, .bool false, .bool false],2⟩,⟨.int .u8 4, .agg #[.bool false, .bool false, .bool false, .bool true],3⟩,⟨.int .u8 5, .agg #[.bool false, .bool true, .bool true, .bool true],4⟩] 5 6 (.agg #[.bool false, .bool true, .bool false, .bool false]) rfl);have s1:=(aj.refl ai w o).alloc IU (0,0);have hb:(w.alloc IU).heap[w.heap.size]?=some IU:=heap_alloc_new _ _;have hF:=ae (aI s1 hb);clear s1 hb;go_enter func206,ntmps206
 go_wp2_with (first
  | ((with_reducible apply Iq);exact hm0.out;simp only [Act.put,GL,DL,lss])
  | ((with_reducible apply Ji);(first | exact hm1.out | exact hm2.out | exact hm3.out | exact hm4.out | exact hm5.out | exact hm6.out);simp only [Act.put]))
 go_ret;exact ⟨_,_,rfl,hF.out.1,_,rfl,hF.out.2⟩
theorem YQ (w:World) (o:Own):Calls prog 104 #[] w (XL ai w o fun v w' _o'=>∃ b,v = .map (some b)/\w'.heap[b]?=some HY):=by
 have hm0:=ae (JB 158 _ underlying158 w);have hm1:=ae (CU 158 _ underlying158 w #[] 0 1 (.func (.func 149) #[] #[]) rfl);have hm2:=ae (CU 158 _ underlying158 w #[⟨.int .u8 1, .func (.func 149) #[] #[],0⟩] 1 2 (.func (.func 150) #[] #[]) rfl);have hm3:=ae (CU 158 _ underlying158 w #[⟨.int .u8 1, .func (.func 149) #[] #[],0⟩,⟨.int .u8 2, .func (.func 150) #[] #[],1⟩] 2 3 (.func (.func 151) #[] #[]) rfl);have hm4:=ae (CU 158 _ underlying158 w #[⟨.int .u8 1, .func (.func 149) #[] #[],0⟩,⟨.int .u8 2, .func (.func 150) #[] #[],1⟩,⟨.int .u8 3, .func (.func 151) #[] #[],2⟩] 3 4 (.func (.func 152) #[] #[]) rfl);have hm5:=ae (CU 158 _ underlying158 w #[⟨.int .u8 1, .func (.func 149) #[] #[],0⟩,⟨.int .u8 2, .func (.func 150) #[] #[],1⟩,⟨.int .u8 3, .func (.func 151) #[] #[],2⟩,⟨.int .u8 4, .func (.func 152) #[] #[],3⟩] 4 5 (.func (.func 153) #[] #[]) rfl);have hm6:=ae (CU 158 _ underlying158 w #[⟨.int .u8 1, .func (.func 149) #[] #[],0⟩,⟨.int .u8 2, .func (.func 150) #[] #[],1⟩,⟨.int .u8 3, .func (.func 151) #[] #[],2⟩,⟨.int .u8 4, .func (.func 152) #[] #[],3⟩,⟨.int .u8 5, .func (.func 153) #[] #[],4⟩] 5 6 (.func (.func 154) #[] #[]) rfl);have s1:=(aj.refl ai w o).alloc HY (0,0);have hb:(w.alloc HY).heap[w.heap.size]?=some HY:=heap_alloc_new _ _;have hF:=ae (aI s1 hb);clear s1 hb;go_enter func104,ntmps104
 go_wp2_with (first
  | ((with_reducible apply Iq);exact hm0.out;simp only [Act.put,GL,DL,lss])
  | ((with_reducible apply Ji);(first | exact hm1.out | exact hm2.out | exact hm3.out | exact hm4.out | exact hm5.out | exact hm6.out);simp only [Act.put]))
 go_ret;exact ⟨_,_,rfl,hF.out.1,_,rfl,hF.out.2⟩
def Dz (n:Nat) (has:Bool):Bool:=decide (n=0) || (has && decide (n<=256))
theorem Du (n:Nat) (has:Bool) (w:World):Calls prog 208 #[.int .i64 (n:Int), .bool has] w fun e w'=>e = .returned (.bool (Dz n has))/\w=w':=by
 by_cases h0:n=0
 ·subst h0;go_enter func208,ntmps208
  go_wp2
  go_ret;exact ⟨rfl,rfl⟩
 ·have e0:((n:Int) == 0)=false:=by simp;omega
  have h1:(0:Int)<(n:Int):=by omega
  cases has with
  | false =>
   have hu:=ae (show Dz n false=false by simp [Dz,h0]);go_enter func208,ntmps208
   go_wp2
   go_ret;exact ⟨by rw [hu.out];rfl,rfl⟩
  | true =>
   by_cases h2:n<=256
   ·have h2I:(n:Int)<=256:=by omega
    have hu:=ae (show Dz n true=true by simp [Dz,h2]);clear h0 h2;go_enter func208,ntmps208
    go_wp2
    go_ret;exact ⟨by rw [hu.out];rfl,rfl⟩
   ·have h2I:¬ (n:Int)<=256:=by omega
    have hu:=ae (show Dz n true=false by simp [Dz,h2];omega);clear h0 h2;go_enter func208,ntmps208
    go_wp2
    go_ret;exact ⟨by rw [hu.out];rfl,rfl⟩
def TE (m:BG):Bool:=
 kindOk m.k && (decide (1<=m.e.toNat) && (decide (m.e.toNat<=281474976710656) && ((decide (m.c.toNat=0) || ((Dl m.k).1 && decide (m.c.toNat<=m.e.toNat))) && (Dz m.at' (Dl m.k).2.1 && (Dz m.com (Dl m.k).2.2.1 && (Dz m.ls.length (Dl m.k).2.2.2 && !m.ls.any (badL Ho)))))))
theorem Wh {x:Ar}:badL Ho x=false ↔ x.may:=by
 have ht:Ho.toNat=281474976710656:=by decide
 unfold badL Ar.may;rw [ht];simp only [Bool.or_eq_false_iff,decide_eq_false_iff_not];omega
theorem XJ {m:BG} (h:m.May):TE m=true:=by
 have hk1:=h.k1;have hk6:=h.k6;have he1:=h.e1;have he2:=h.e2;have hc1:=h.c1;have ha1:=h.a1;have ho1:=h.o1;have hn1:=h.n1;have hb:m.ls.any (badL Ho)=false:=by
  rw [List.any_eq_false];intro x hx;rw [Wh.2 (h.hl x hx)]
  decide
 have hc0:m.k ≠ 2->m.c.toNat=0:=fun hk=>by rw [h.kc hk];rfl
 have hl0:m.k ≠ 2->m.k ≠ 4->m.k ≠ 5->m.ls.length=0:=fun h2 h4 h5=>by rw [h.kl h2 h4 h5];rfl
 have hka:=h.ka;have hko:=h.ko;unfold TE Dz Dl kindOk;rw [hb];simp only [Bool.and_eq_true,Bool.or_eq_true,decide_eq_true_eq,Bool.not_false]
 by_cases h2:m.k=2
 ·have:=hko (by omega);have:=hka (by omega) (by omega);refine ⟨by omega,he1,he2, .inr ⟨h2,hc1⟩,by omega,by omega,by omega,trivial⟩
 ·have hcz:=hc0 h2
  by_cases h4:m.k=4
  ·have:=hko (by omega);have:=hka (by omega) (by omega);refine ⟨by omega,he1,he2, .inl hcz,by omega,by omega,by omega,trivial⟩
  ·by_cases h5:m.k=5
   ·refine ⟨by omega,he1,he2, .inl hcz,by omega,by omega,by omega,trivial⟩
   ·have:=hl0 h2 h4 h5;have:=hko h5
    by_cases h6:m.k=6
    ·refine ⟨by omega,he1,he2, .inl hcz,by omega,by omega,by omega,trivial⟩
    ·have:=hka h5 h6;refine ⟨by omega,he1,he2, .inl hcz,by omega,by omega,by omega,trivial⟩
theorem dK {m:BG} (h:TE m=true):m.May:=by
 unfold TE Dz Dl kindOk at h;simp only [Bool.and_eq_true,Bool.or_eq_true,decide_eq_true_eq,Bool.not_eq_true'] at h;obtain ⟨h1,h2,h3,h4,h5,h6,h7,h8⟩:=h;refine ⟨by omega,by omega,h2,h3,by omega,by omega,by omega,by omega,fun x hx=>Wh.1 ?_,fun hk => ?_,fun hk=>by omega,fun h5 h6=>by omega,fun h2 h4 h5 => ?_⟩
 ·rw [List.any_eq_false] at h8;have:=h8 x hx
  simpa using this
 ·apply BitVec.eq_of_toNat_eq;have:m.c.toNat=0:=by omega
  rw [this];rfl
 ·apply List.eq_nil_of_length_eq_zero;omega
theorem aJ {w:World} {o:Own} (x:Ar) (bv:Value) (hb:Bytes w o bv x.b) :
  Calls prog 207 #[.agg #[.int .u64 (x.e.toNat:Int),bv]] w (XL ai w o fun v _ _=>v = .bool (badL Ho x)):=by
 obtain ⟨ba,bc,rfl⟩:=Aq hb;have s1:=(aj.refl ai w o).alloc (.cells #[.int .u64 (x.e.toNat:Int), .slice ba x.b.length bc] 41) (0,0);have b1:(w.alloc (.cells #[.int .u64 (x.e.toNat:Int), .slice ba x.b.length bc] 41)).heap[w.heap.size]?=some (.cells [.int .u64 (x.e.toNat:Int), .slice ba x.b.length bc].toArray 41 (0,0)):=heap_alloc_new w _;have c0:=ag b1 0;have c1:=ag b1 1;simp only [ay,ax] at c0 c1;have hsH:=ae s1;have ht:Ho.toNat=281474976710656:=by decide
 have hu:badL Ho x=(decide (x.e.toNat<1) || decide (281474976710656<x.e.toNat) || decide (x.b.length<1) || decide (4096<x.b.length)):=by unfold badL;rw [ht]
 have huH:=ae hu;have he:=x.e.isLt;generalize x.b.length=bl at *;generalize x.e.toNat=xe at *;clear s1 b1 hb hu ht
 by_cases h1:xe<1
 ·have h1I:(xe:Int)<1:=by omega
  go_enter func207,ntmps207;go_wp2_with fail;go_ret;exact ⟨_,_,rfl,hsH.out,by rw [huH.out];simp [h1]⟩
 ·have h1I:¬ (xe:Int)<1:=by omega
  by_cases h2:281474976710656<xe
  ·have h2I:(281474976710656:Int)<(xe:Int):=by omega
   go_enter func207,ntmps207;go_wp2_with fail;go_ret;exact ⟨_,_,rfl,hsH.out,by rw [huH.out];simp [h1,h2]⟩
  ·have h2I:¬ (281474976710656:Int)<(xe:Int):=by omega
   by_cases h3:bl<1
   ·have h3I:(bl:Int)<1:=by omega
    go_enter func207,ntmps207;go_wp2_with fail;go_ret;exact ⟨_,_,rfl,hsH.out,by rw [huH.out];simp [h1,h2,h3]⟩
   ·have h3I:¬ (bl:Int)<1:=by omega
    go_enter func207,ntmps207;go_wp2_with fail;go_ret;exact ⟨_,_,rfl,hsH.out,by
     rw [huH.out]
     by_cases h4:4096<bl
     ·have h4I:(4096:Int)<(bl:Int):=by omega
      simp [h1,h2,h3,h4,h4I]
     ·have h4I:¬ (4096:Int)<(bl:Int):=by omega
      simp [h1,h2,h3,h4,h4I]⟩
theorem Zo:((prog.info? 271).bind (·.zero)).map (·.cells)=some #[.bool false, .bool false, .bool false, .bool false]:=by kernel_rfl
def jD (w:World) (b kb:Nat) (m:BG) (lv:Value) (h1 h2 h3 h4:Bool):Prop:=
 w.heap[b]?=some (.cells (Bf m lv).toArray 150 (0,0))/\w.heap[kb]?=some (.cells [.bool h1, .bool h2, .bool h3, .bool h4].toArray 271 (0,0))
theorem Uf {w:World} {o:Own} {base:Nat} (m:BG) {lv:Value} (hl:Lines w o base lv m.ls) (hn:m.ls.length<=100000) :
  Calls prog 148 #[Ea m lv] w (XL ai w o fun v _ _=>v = .bool (TE m)):=by
 obtain ⟨la,lc,rfl⟩:=hl.form;have hu:TE m=(kindOk m.k && (decide (1<=m.e.toNat) && (decide (m.e.toNat<=281474976710656) && ((decide (m.c.toNat=0) || ((Dl m.k).1 && decide (m.c.toNat<=m.e.toNat))) && (Dz m.at' (Dl m.k).2.1 && (Dz m.com (Dl m.k).2.2.1 && (Dz m.ls.length (Dl m.k).2.2.2 && !m.ls.any (badL Ho)))))))):=rfl;have hcells:Ku m.k=[.bool (Dl m.k).1, .bool (Dl m.k).2.1, .bool (Dl m.k).2.2.1, .bool (Dl m.k).2.2.2]:=rfl;generalize (Dl m.k).1=h1 at *;generalize (Dl m.k).2.1=h2 at *;generalize (Dl m.k).2.2.1=h3 at *;generalize (Dl m.k).2.2.2=h4 at *;have hs1:=(aj.refl ai w o).alloc (.cells [.int .u8 (m.k:Int), .int .u64 (m.e.toNat:Int), .int .u64 (m.c.toNat:Int), .int .i64 (m.at':Int), .int .i64 (m.com:Int), .slice la m.ls.length lc].toArray 150) (0,0);have hb1:=ae (heap_alloc_new w (.cells [.int .u8 (m.k:Int), .int .u64 (m.e.toNat:Int), .int .u64 (m.c.toNat:Int), .int .i64 (m.at':Int), .int .i64 (m.com:Int), .slice la m.ls.length lc].toArray 150));obtain ⟨W1,hW1⟩:∃ W1,w.alloc (.cells [.int .u8 (m.k:Int), .int .u64 (m.e.toNat:Int), .int .u64 (m.c.toNat:Int), .int .i64 (m.at':Int), .int .i64 (m.com:Int), .slice la m.ls.length lc].toArray 150)=W1:=⟨_,rfl⟩;rw [hW1] at hs1 hb1;generalize Ak o w.heap.size (0,0)=o1 at *;have hl1:=ae (hl.step hs1 id);have hs1:=ae hs1;have hS1:W1.drew.cell? ⟨w.heap.size,0,none⟩=some (.int .u8 (m.k:Int)):=ag hb1.out 0;have huH:=ae hu;have hcells:=ae hcells;have uM:=ae hW1;have hnH:=ae hn;clear hu hW1 hl hn;unfold Ea;go_enter func148,ntmps148;go_wp2_with fail;rw [uM.out];refine Jd (fun a0 a' w'=>∃ (g:Nat) (o':Own) (y1 y2 y3 y4 y5 y6 y7:Value),a'=Act.puts a0 [8,9,10,11,7,12,13,3,4] [y1,y2,y3,y4,y5,y6,y7, .pointer (some ⟨g,0,none⟩), .bool (kindOk m.k)]/\w'.heap[g]?=some (.cells [Value.bool h1, .bool h2, .bool h3, .bool h4].toArray 271 (0,0))/\w'.heap[w.heap.size]?=some (.cells [.int .u8 (m.k:Int), .int .u64 (m.e.toNat:Int), .int .u64 (m.c.toNat:Int), .int .i64 (m.at':Int), .int .i64 (m.com:Int), .slice la m.ls.length lc].toArray 150 (0,0))/\aj ai W1 o1 w' o') ?_ ?_
 ·refine Aa (fun w'=>w'.cell? ⟨w.heap.size,0,none⟩=some (.int .u8 (m.k:Int))) (fun _=>true) (by kernel_rfl) hS1 (fun hHeld => ?_);have hB:=hb1.out;have hJ:aj ai W1 o1 W1.drew o1:=(aj.refl ai W1 o1).drew
  replace hB:W1.drew.heap[w.heap.size]?=_:=hB
  obtain ⟨V,hV⟩:∃ V,W1.drew=V:=⟨_,rfl⟩;rw [hV] at hHeld hB hJ ⊢;clear hV;refine tn 1 (h:=tn 2 (h:=?_));refine Gm (i:=0) (j:=7) rfl rfl (by kernel_rfl) ?_ ?_
  ·go_wp2_with fail;refine (RG V o1).mono ?_;rintro e v2 ⟨x2,p2,rfl,hs2,kb,rfl,hkm⟩;have hB:=(hs2.block _ (au hB) id).trans hB;have hJ:=hJ.trans hs2;have hS2:=ag (i:=0) hB;clear hs2;go_wp2_with fail;refine ⟨fun _=>hS2, ?_⟩;refine Gm (i:=3) (j:=7) rfl rfl (by kernel_rfl) ?_ ?_
   ·have hlk:=ae (IB hkm m.k);rw [hcells.out] at hlk;refine DN hlk.out ?_;refine wpList_nil ?_;simp only [Act.put,GL,DL,lss];refine ⟨fun _=>hS2, ?_⟩;refine tn 4 (h:=tn 5 (h:=tn 6 (h:=tO 7 (h:=?_))));have hal:=ae (AB (P:=prog) v2 271 _ Zo);have sA:=(aj.refl ai v2 p2).alloc (.cells #[.bool false, .bool false, .bool false, .bool false] 271) (0,0);have hgz:(v2.alloc (.cells #[.bool false, .bool false, .bool false, .bool false] 271)).heap[v2.heap.size]?=some (.cells [.bool false, .bool false, .bool false, .bool false].toArray 271 (0,0)):=heap_alloc_new v2 _;have hgw:=hJ.size;refine AU hal.out ?_;refine wpList_nil ?_;obtain ⟨v3,hw2⟩:∃ v3,v2.alloc (.cells #[.bool false, .bool false, .bool false, .bool false] 271)=v3:=⟨_,rfl⟩;obtain ⟨p3,ho2⟩:∃ p3,Ak p2 v2.heap.size (0,0)=p3:=⟨_,rfl⟩;rw [hw2] at hgz sA ⊢;rw [ho2] at sA;obtain ⟨g,hg⟩:∃ g,v2.heap.size=g:=⟨_,rfl⟩;rw [hg] at hgz hgw ⊢;have hkm:=(sA.block _ (au hkm) id).trans hkm;have hB:=(sA.block _ (au hB) id).trans hB;have hJ:=hJ.trans sA;have hS3:=ag (i:=0) hB;clear hal hw2 ho2 hg sA;simp only [Act.put,GL,DL,lss];refine ⟨fun _=>hS3, ?_⟩;refine tO 8 (h:=?_);obtain ⟨hso,hsb⟩:=Ba (P:=prog) (ty:=271) (vs:=[Value.bool h1, .bool h2, .bool h3, .bool h4]) hgz rfl (by kernel_rfl) rfl;have hne:w.heap.size ≠ g:=by have:=au hb1.out;omega
    have hB:=(ah _ [Value.bool h1, .bool h2, .bool h3, .bool h4] 0 v3 _ hne).trans hB;have hJ:=hJ.setCells g 0 [Value.bool h1, .bool h2, .bool h3, .bool h4] (.inr hgw);have hS4:=ag (i:=0) hB;refine AC hso ?_;refine wpList_nil ?_;simp only [Act.put];refine ⟨fun _=>hS4, ?_⟩;refine tn 9 (h:=tD (h:=?_));exact ⟨rfl,g,p3, .map (some kb), .pointer (some ⟨w.heap.size,0,none⟩), .int .u8 (m.k:Int), .tuple #[.agg #[.bool h1, .bool h2, .bool h3, .bool h4], .bool (kindOk m.k)], .tuple #[.agg #[.bool h1, .bool h2, .bool h3, .bool h4], .bool (kindOk m.k)], .agg #[.bool h1, .bool h2, .bool h3, .bool h4], .bool (kindOk m.k),by simp only [Act.puts,Act.put,GL,DL,lss],hsb,hB,hJ⟩
   ·have hal:=ae (AB (P:=prog) v2 271 _ Zo);have sA:=(aj.refl ai v2 p2).alloc (.cells #[.bool false, .bool false, .bool false, .bool false] 271) (0,0);have hgz:(v2.alloc (.cells #[.bool false, .bool false, .bool false, .bool false] 271)).heap[v2.heap.size]?=some (.cells [.bool false, .bool false, .bool false, .bool false].toArray 271 (0,0)):=heap_alloc_new v2 _;have hgw:=hJ.size;refine AU hal.out ?_;refine wpList_nil ?_;obtain ⟨v3,hw2⟩:∃ v3,v2.alloc (.cells #[.bool false, .bool false, .bool false, .bool false] 271)=v3:=⟨_,rfl⟩;obtain ⟨p3,ho2⟩:∃ p3,Ak p2 v2.heap.size (0,0)=p3:=⟨_,rfl⟩;rw [hw2] at hgz sA ⊢;rw [ho2] at sA;obtain ⟨g,hg⟩:∃ g,v2.heap.size=g:=⟨_,rfl⟩;rw [hg] at hgz hgw ⊢;have hkm:=(sA.block _ (au hkm) id).trans hkm;have hB:=(sA.block _ (au hB) id).trans hB;have hJ:=hJ.trans sA;have hS3:=ag (i:=0) hB;clear hal hw2 ho2 hg sA;simp only [Act.put,GL,DL,lss];refine ⟨fun _=>hS3, ?_⟩;refine tO 3 (h:=?_);have hlk:=ae (IB hkm m.k);rw [hcells.out] at hlk;refine DN hlk.out ?_;refine wpList_nil ?_;simp only [Act.put,GL,DL,lss];refine ⟨fun _=>hS3, ?_⟩;refine tn 4 (h:=tn 5 (h:=tn 6 (h:=tO 8 (h:=?_))));obtain ⟨hso,hsb⟩:=Ba (P:=prog) (ty:=271) (vs:=[Value.bool h1, .bool h2, .bool h3, .bool h4]) hgz rfl (by kernel_rfl) rfl;have hne:w.heap.size ≠ g:=by have:=au hb1.out;omega
    have hB:=(ah _ [Value.bool h1, .bool h2, .bool h3, .bool h4] 0 v3 _ hne).trans hB;have hJ:=hJ.setCells g 0 [Value.bool h1, .bool h2, .bool h3, .bool h4] (.inr hgw);have hS4:=ag (i:=0) hB;refine AC hso ?_;refine wpList_nil ?_;simp only [Act.put];refine ⟨fun _=>hS4, ?_⟩;refine tn 9 (h:=tD (h:=?_));exact ⟨rfl,g,p3, .map (some kb), .pointer (some ⟨w.heap.size,0,none⟩), .int .u8 (m.k:Int), .tuple #[.agg #[.bool h1, .bool h2, .bool h3, .bool h4], .bool (kindOk m.k)], .tuple #[.agg #[.bool h1, .bool h2, .bool h3, .bool h4], .bool (kindOk m.k)], .agg #[.bool h1, .bool h2, .bool h3, .bool h4], .bool (kindOk m.k),by simp only [Act.puts,Act.put,GL,DL,lss],hsb,hB,hJ⟩
  ·have hal:=ae (AB (P:=prog) V 271 _ Zo);have sA:=(aj.refl ai V o1).alloc (.cells #[.bool false, .bool false, .bool false, .bool false] 271) (0,0);have hgz:(V.alloc (.cells #[.bool false, .bool false, .bool false, .bool false] 271)).heap[V.heap.size]?=some (.cells [.bool false, .bool false, .bool false, .bool false].toArray 271 (0,0)):=heap_alloc_new V _;have hgw:=hJ.size;refine AU hal.out ?_;refine wpList_nil ?_;obtain ⟨v2,hw2⟩:∃ v2,V.alloc (.cells #[.bool false, .bool false, .bool false, .bool false] 271)=v2:=⟨_,rfl⟩;obtain ⟨p2,ho2⟩:∃ p2,Ak o1 V.heap.size (0,0)=p2:=⟨_,rfl⟩;rw [hw2] at hgz sA ⊢;rw [ho2] at sA;obtain ⟨g,hg⟩:∃ g,V.heap.size=g:=⟨_,rfl⟩;rw [hg] at hgz hgw ⊢;have hB:=(sA.block _ (au hB) id).trans hB;have hJ:=hJ.trans sA;have hS2:=ag (i:=0) hB;clear hal hw2 ho2 hg sA;simp only [Act.put,GL,DL,lss];refine ⟨fun _=>hS2, ?_⟩;refine tO 0 (h:=?_);go_wp2_with fail;refine (RG v2 p2).mono ?_;rintro e v3 ⟨x3,p3,rfl,hs3,kb,rfl,hkm⟩;have hgz:=(hs3.block _ (au hgz) id).trans hgz;have hB:=(hs3.block _ (au hB) id).trans hB;have hJ:=hJ.trans hs3;have hS3:=ag (i:=0) hB;clear hs3;go_wp2_with fail;refine ⟨fun _=>hS3, ?_⟩;refine tO 3 (h:=?_);have hlk:=ae (IB hkm m.k);rw [hcells.out] at hlk;refine DN hlk.out ?_;refine wpList_nil ?_;simp only [Act.put,GL,DL,lss];refine ⟨fun _=>hS3, ?_⟩;refine tn 4 (h:=tn 5 (h:=tn 6 (h:=tO 8 (h:=?_))));obtain ⟨hso,hsb⟩:=Ba (P:=prog) (ty:=271) (vs:=[Value.bool h1, .bool h2, .bool h3, .bool h4]) hgz rfl (by kernel_rfl) rfl;have hne:w.heap.size ≠ g:=by have:=au hb1.out;omega
   have hB:=(ah _ [Value.bool h1, .bool h2, .bool h3, .bool h4] 0 v3 _ hne).trans hB;have hJ:=hJ.setCells g 0 [Value.bool h1, .bool h2, .bool h3, .bool h4] (.inr hgw);have hS4:=ag (i:=0) hB;refine AC hso ?_;refine wpList_nil ?_;simp only [Act.put];refine ⟨fun _=>hS4, ?_⟩;refine tn 9 (h:=tD (h:=?_));exact ⟨rfl,g,p3, .map (some kb), .pointer (some ⟨w.heap.size,0,none⟩), .int .u8 (m.k:Int), .tuple #[.agg #[.bool h1, .bool h2, .bool h3, .bool h4], .bool (kindOk m.k)], .tuple #[.agg #[.bool h1, .bool h2, .bool h3, .bool h4], .bool (kindOk m.k)], .agg #[.bool h1, .bool h2, .bool h3, .bool h4], .bool (kindOk m.k),by simp only [Act.puts,Act.put,GL,DL,lss],hsb,hB,hJ⟩
 rintro a4 W4 ⟨g,o4,y1,y2,y3,y4,y5,y6,y7,rfl,d4,b4,hs4⟩;simp only [Act.puts,Act.put,GL,DL,lss];clear hcells;have hl4:=hl1.out.step hs4 id;have stF:=ae (hs1.out.trans hs4);have hct:=ae (Jt hl4 hnH.out 207 #[] (badL Ho) Tryz.call207 (fun w1 o1 st x bv _ hby=>aJ x bv hby));have c1:=ag (i:=1) b4;have c2:=ag (i:=2) b4;have c3:=ag (i:=3) b4;have c4:=ag (i:=4) b4;have c5:=ag (i:=5) b4;have d0:=ag (i:=0) d4;have d1:=ag (i:=1) d4;have d2:=ag (i:=2) d4;have d3:=ag (i:=3) d4;simp only [ay,ax] at c1 c2 c3 c4 c5 d0 d1 d2 d3;have hce:=m.c.isLt;have hee:=m.e.isLt;clear b4 d4 hs4 hb1 hl1 hs1 hS1 uM hl4;generalize m.e.toNat=e at *;generalize m.c.toNat=c at *
 cases hok:kindOk m.k with
 | false =>
  go_wp2_with (first
   | (go_at_call 208;refine (Du _ _ _).mono ?_;rintro e' w' ⟨rfl,rfl⟩)
   | (go_at_call 129;refine hct.out.mono ?_;rintro e' w' ⟨v',o',rfl,hs',rfl⟩))
  go_ret;exact ⟨_,o4,rfl,stF.out,by rw [huH.out];simp [hok]⟩
 | true =>
  by_cases he1:1<=e
  ·have AzL:(1:Int)<=(e:Int):=by omega
   by_cases he2:e<=281474976710656
   ·have AzK:(e:Int)<=281474976710656:=by omega
    by_cases hc0:c=0
    ·have AzS:((c:Int) == 0)=true:=by simp [hc0]
     have Aoa:=ae hc0;clear hc0
     cases w0:Dz m.at' h2 with
     | false =>
      go_wp2_with (first
       | (go_at_call 208;refine (Du _ _ _).mono ?_;rintro e' w' ⟨rfl,rfl⟩)
       | (go_at_call 129;refine hct.out.mono ?_;rintro e' w' ⟨v',o',rfl,hs',rfl⟩))
      go_ret;exact ⟨_,o4,rfl,stF.out,by rw [huH.out];simp [hok,he1,he2,Aoa.out,w0]⟩
     | true =>
      cases w1:Dz m.com h3 with
      | false =>
       go_wp2_with (first
        | (go_at_call 208;refine (Du _ _ _).mono ?_;rintro e' w' ⟨rfl,rfl⟩)
        | (go_at_call 129;refine hct.out.mono ?_;rintro e' w' ⟨v',o',rfl,hs',rfl⟩))
       go_ret;exact ⟨_,o4,rfl,stF.out,by rw [huH.out];simp [hok,he1,he2,Aoa.out,w0,w1]⟩
      | true =>
       cases w2:Dz m.ls.length h4 with
       | false =>
        go_wp2_with (first
         | (go_at_call 208;refine (Du _ _ _).mono ?_;rintro e' w' ⟨rfl,rfl⟩)
         | (go_at_call 129;refine hct.out.mono ?_;rintro e' w' ⟨v',o',rfl,hs',rfl⟩))
        go_ret;exact ⟨_,o4,rfl,stF.out,by rw [huH.out];simp [hok,he1,he2,Aoa.out,w0,w1,w2]⟩
       | true =>
        go_wp2_with (first
         | (go_at_call 208;refine (Du _ _ _).mono ?_;rintro e' w' ⟨rfl,rfl⟩)
         | (go_at_call 129;refine hct.out.mono ?_;rintro e' w' ⟨v',o',rfl,hs',rfl⟩))
        go_ret;exact ⟨_,_,rfl,stF.out.trans hs',by rw [huH.out];simp [hok,he1,he2,Aoa.out,w0,w1,w2]⟩
    ·have AzS:((c:Int) == 0)=false:=by simp [hc0]
     cases h1 with
     | false =>
      go_wp2_with (first
       | (go_at_call 208;refine (Du _ _ _).mono ?_;rintro e' w' ⟨rfl,rfl⟩)
       | (go_at_call 129;refine hct.out.mono ?_;rintro e' w' ⟨v',o',rfl,hs',rfl⟩))
      go_ret;exact ⟨_,o4,rfl,stF.out,by rw [huH.out];simp [hok,he1,he2,hc0]⟩
     | true =>
      by_cases Amo:c<=e
      ·have Avm:(c:Int)<=(e:Int):=by omega
       cases w0:Dz m.at' h2 with
       | false =>
        go_wp2_with (first
         | (go_at_call 208;refine (Du _ _ _).mono ?_;rintro e' w' ⟨rfl,rfl⟩)
         | (go_at_call 129;refine hct.out.mono ?_;rintro e' w' ⟨v',o',rfl,hs',rfl⟩))
        go_ret;exact ⟨_,o4,rfl,stF.out,by rw [huH.out];simp [hok,he1,he2,hc0,Amo,w0]⟩
       | true =>
        cases w1:Dz m.com h3 with
        | false =>
         go_wp2_with (first
          | (go_at_call 208;refine (Du _ _ _).mono ?_;rintro e' w' ⟨rfl,rfl⟩)
          | (go_at_call 129;refine hct.out.mono ?_;rintro e' w' ⟨v',o',rfl,hs',rfl⟩))
         go_ret;exact ⟨_,o4,rfl,stF.out,by rw [huH.out];simp [hok,he1,he2,hc0,Amo,w0,w1]⟩
        | true =>
         cases w2:Dz m.ls.length h4 with
         | false =>
          go_wp2_with (first
           | (go_at_call 208;refine (Du _ _ _).mono ?_;rintro e' w' ⟨rfl,rfl⟩)
           | (go_at_call 129;refine hct.out.mono ?_;rintro e' w' ⟨v',o',rfl,hs',rfl⟩))
          go_ret;exact ⟨_,o4,rfl,stF.out,by rw [huH.out];simp [hok,he1,he2,hc0,Amo,w0,w1,w2]⟩
         | true =>
          go_wp2_with (first
           | (go_at_call 208;refine (Du _ _ _).mono ?_;rintro e' w' ⟨rfl,rfl⟩)
           | (go_at_call 129;refine hct.out.mono ?_;rintro e' w' ⟨v',o',rfl,hs',rfl⟩))
          go_ret;exact ⟨_,_,rfl,stF.out.trans hs',by rw [huH.out];simp [hok,he1,he2,hc0,Amo,w0,w1,w2]⟩
      ·have Avm:¬ (c:Int)<=(e:Int):=by omega
       go_wp2_with (first
        | (go_at_call 208;refine (Du _ _ _).mono ?_;rintro e' w' ⟨rfl,rfl⟩)
        | (go_at_call 129;refine hct.out.mono ?_;rintro e' w' ⟨v',o',rfl,hs',rfl⟩))
       go_ret;exact ⟨_,o4,rfl,stF.out,by rw [huH.out];simp [hok,he1,he2,hc0,Amo]⟩
   ·have AzK:¬ (e:Int)<=281474976710656:=by omega
    go_wp2_with (first
     | (go_at_call 208;refine (Du _ _ _).mono ?_;rintro e' w' ⟨rfl,rfl⟩)
     | (go_at_call 129;refine hct.out.mono ?_;rintro e' w' ⟨v',o',rfl,hs',rfl⟩))
    go_ret;exact ⟨_,o4,rfl,stF.out,by rw [huH.out];simp [hok,he1,he2]⟩
  ·have AzL:¬ (1:Int)<=(e:Int):=by omega
   go_wp2_with (first
    | (go_at_call 208;refine (Du _ _ _).mono ?_;rintro e' w' ⟨rfl,rfl⟩)
    | (go_at_call 129;refine hct.out.mono ?_;rintro e' w' ⟨v',o',rfl,hs',rfl⟩))
   go_ret;exact ⟨_,o4,rfl,stF.out,by rw [huH.out];simp [hok,he1]⟩
def Yd (l:List (BitVec 64)):List Value:=l.map fun x => .int .u64 (x.toNat:Int)
theorem fU (w:World) (a b c d e:Int):(Instr.buildSlice 297 5 #[(0, .int .u64 a),(1, .int .u64 b),(2, .int .u64 c),(3, .int .u64 d),(4, .int .u64 e)]).run prog w = .ok (.slice (some ⟨w.heap.size,0,none⟩) 5 5) (w.alloc (.cells #[.int .u64 a, .int .u64 b, .int .u64 c, .int .u64 d, .int .u64 e] 34)):=by kernel_rfl
theorem NK {m:BG} (h:m.May):(encs m.ls).length<=1060000:=by
 rw [Ej];have h1:=h.n1;have h2:=Ze (ls:=m.ls) (fun x hx=>(h.hl x hx).2.2);omega
theorem Ip {w:World} {b off:Nat} {cs:List Value} (hr:w.rangeAt b off cs) (hl:cs.length=6):(Instr.loadAt 150 (.pointer (some ⟨b,off,none⟩))).run prog w = .ok (.agg cs.toArray) w:=by
 simp only [Instr.loadAt,Instr.sureAddr,Sem.run_bind,Sem.run_pure,Result.andThen_ok]
 match cs,hl with
 | [a,b',c,d,e,g],_=>exact run_loadVar_mid w b off 150 [a,b',c,d,e,g] _ hr underlying150 rfl (by kernel_rfl)
theorem Ue {w:World} {o:Own} {base:Nat} (m:BG) (hm:m.May) {lv:Value} (hl:Lines w o base lv m.ls) :
  Calls prog 191 #[Ea m lv] w (XL ai w o fun v w' o'=>∃ bv,v = .tuple #[bv, .int .i64 0]/\Ew w w' o' bv m.put):=by
 have hlen:=NK hm;have hn1:=hm.n1;obtain ⟨la,lc,rfl⟩:=hl.form;obtain ⟨n,hn⟩:∃ n,m.ls.length=n:=⟨_,rfl⟩;have hmB:=XJ hm;have ha1:(0:Int)<=(m.at':Int)/\(m.at':Int)<=256:=by have:=hm.a1;omega
 have ho1:(0:Int)<=(m.com:Int)/\(m.com:Int)<=256:=by have:=hm.o1;omega
 have hnI:(0:Int)<=(n:Int)/\(n:Int)<=256:=by omega
 have hkI:(0:Int)<=(m.k:Int)/\(m.k:Int)<=6:=by have:=hm.k6;omega
 have hk8:(UInt8.ofNat m.k).toNat=m.k:=by rw [UInt8.toNat_ofNat',Nat.mod_eq_of_lt (by have:=hm.k6;omega)]
 have ea:((BitVec.ofNat 64 m.at').toNat:Int)=(m.at':Int):=by rw [BitVec.toNat_ofNat,Nat.mod_eq_of_lt (by have:=hm.a1;omega)]
 have eo:((BitVec.ofNat 64 m.com).toNat:Int)=(m.com:Int):=by rw [BitVec.toNat_ofNat,Nat.mod_eq_of_lt (by have:=hm.o1;omega)]
 have en:((BitVec.ofNat 64 n).toNat:Int)=(n:Int):=by rw [BitVec.toNat_ofNat,Nat.mod_eq_of_lt (by omega)]
 rw [hn] at hl ⊢;have hs1:=(aj.refl ai w o).alloc (.cells [.int .u8 (m.k:Int), .int .u64 (m.e.toNat:Int), .int .u64 (m.c.toNat:Int), .int .i64 (m.at':Int), .int .i64 (m.com:Int), .slice la n lc].toArray 150) (0,0);have hb1:=heap_alloc_new w (.cells [.int .u8 (m.k:Int), .int .u64 (m.e.toNat:Int), .int .u64 (m.c.toNat:Int), .int .i64 (m.at':Int), .int .i64 (m.com:Int), .slice la n lc].toArray 150);obtain ⟨W1,hW1⟩:∃ W1,w.alloc (.cells [.int .u8 (m.k:Int), .int .u64 (m.e.toNat:Int), .int .u64 (m.c.toNat:Int), .int .i64 (m.at':Int), .int .i64 (m.com:Int), .slice la n lc].toArray 150)=W1:=⟨_,rfl⟩;rw [hW1] at hs1 hb1;generalize Ak o w.heap.size (0,0)=o1 at *;have hl1:=hl.step hs1 id;have oZ:=ae (Ip (AV hb1) rfl);have hmy:=Uf m (lv := .slice la n lc) hl1 (by omega);rw [hmB] at hmy;have Aqr:=ae hmy;have uM:=ae hW1;have hbl:=ae (au hb1);have xZ:=ae hb1;have qJ:=ae hs1;have hlH:=ae hl1;have hnH:=ae hn;have rD:=ae hlen;have Bfl:=ae hn1;have Azz:=ae hk8;have hva:=ae (aI ea (aI eo en));clear hl hs1 hb1 hW1 hl1 hmB hm hlen hk8 ea eo en hmy hn hn1;unfold Ea at Aqr ⊢;go_enter func191,ntmps191
 go_wp2_with ((with_reducible apply Bo);rw [uM.out];exact oZ.out;simp only [Act.put,GL,DL,lss])
 refine Aqr.out.mono ?_;rintro e W2 ⟨v2,o2,rfl,hs2,rfl⟩;have hb2:=(hs2.block _ hbl.out id).trans xZ.out;have hl2:=ae (hlH.out.step hs2 id);have st2:=ae (qJ.out.trans hs2);have c0:=ag (i:=0) hb2;simp only [ay] at c0;have Arb:=ae hb2;have hby:=IG (Bytes.nil W2 o2) (by simp) (UInt8.ofNat m.k);rw [Azz.out] at hby;have AbN:=ae hby;clear Aqr hby hs2 hb2 hlH qJ xZ oZ uM;go_wp2_with fail;refine AbN.out.mono ?_;rintro e W3 ⟨v3,o3,rfl,hs3,zO⟩;have hb3:=(hs3.block _ (au Arb.out) id).trans Arb.out;have hl3:=ae (hl2.out.step hs3 id);have st3:=st2.out.trans hs3;have c1:=ag (i:=1) hb3;have c2:=ag (i:=2) hb3;have c3:=ag (i:=3) hb3;have c4:=ag (i:=4) hb3;have c5:=ag (i:=5) hb3;simp only [ay,ax] at c1 c2 c3 c4 c5;obtain ⟨vals,AjC⟩:∃ l,[m.e,m.c,BitVec.ofNat 64 m.at',BitVec.ofNat 64 m.com,BitVec.ofNat 64 n]=l:=⟨_,rfl⟩;have hbs:=fU W3 (m.e.toNat:Int) (m.c.toNat:Int) (m.at':Int) (m.com:Int) (n:Int);have hu : #[Value.int .u64 (m.e.toNat:Int), .int .u64 (m.c.toNat:Int), .int .u64 (m.at':Int), .int .u64 (m.com:Int), .int .u64 (n:Int)]=(Yd vals).toArray:=by
  rw [<-AjC, <-hva.out.1, <-hva.out.2.1, <-hva.out.2.2];rfl
 rw [hu] at hbs;have hvl:vals.length=5:=by rw [<-AjC];rfl
 have hsb:=(aj.refl ai W3 o3).alloc (.cells (Yd vals).toArray 34) (0,0);have hgb:(W3.alloc (.cells (Yd vals).toArray 34)).heap[W3.heap.size]?=some (.cells (Yd vals).toArray 34 (0,0)):=heap_alloc_new W3 _;have Aby:=((zO.low (st2.out.size)).step hsb id);have st4:=st3.trans hsb;have hb4:=ae ((hsb.block _ (au hb3) id).trans hb3);have hl4:=ae (hl3.out.step hsb id);obtain ⟨W4,hW4⟩:∃ W4,W3.alloc (.cells (Yd vals).toArray 34)=W4:=⟨_,rfl⟩;rw [hW4] at hbs hgb Aby st4 hb4 hl4;obtain ⟨gb,Ava⟩:∃ gb,W3.heap.size=gb:=⟨_,rfl⟩;rw [Ava] at hbs hgb Aby st4 hl4;generalize Ak o3 gb (0,0)=o4 at *;have AaP:=ae hbs;have AuZ:=ae hgb;have Ald:=ae AjC;have Alc:=ae hvl;have Aby:Ew w W4 o4 v3 (UInt8.ofNat m.k :: (vals.take 0).flatMap (be 8)):=Aby;clear hsb hbs hgb hu hs3 hb3 hW4 Ava st3 zO AjC hvl Arb hl2 hl3 AbN c0 st2
 go_wp2_with ((with_reducible apply BO #[(0, .int .u64 (m.e.toNat:Int)),(1, .int .u64 (m.c.toNat:Int)),(2, .int .u64 (m.at':Int)),(3, .int .u64 (m.com:Int)),(4, .int .u64 (n:Int))] rfl);exact AaP.out;simp only [Act.put,GL,DL,lss])
 clear AaP c1 c2 c3 c4 c5
 go_loopw [4,31] (fun bv i wr=>∃ (k:Nat) (oj:Own),k<=5/\i = .int .i64 k/\aj ai W4 o4 wr oj/\Ew w wr oj bv (UInt8.ofNat m.k :: (vals.take k).flatMap (be 8))) (fun _ i _=>5 - (intOf i).toNat)
 case atStart=>exact ⟨0,o4,by omega,rfl,aj.refl _ _ _,Aby⟩
 case round =>
  clear Aby;obtain ⟨k,oj,hk,rfl,hst,hnb⟩:=hrel;have Abe:=ae hst
  by_cases hlt:k<5
  ·obtain ⟨x,hx⟩:∃ x,vals[k]?=some x:=⟨_,List.getElem?_eq_getElem (by rw [Alc.out];exact hlt)⟩;have hgr:=(hst.block _ (au AuZ.out) id).trans AuZ.out;have cg:wr.cell? ⟨gb,k,none⟩=some (.int .u64 (x.toNat:Int)):=by
    rw [ag hgr];simp [Yd,hx]
   have hsn:=ae (show (vals.take (k+1)).flatMap (be 8)=(vals.take k).flatMap (be 8)++be 8 x by rw [List.take_add_one,hx];simp);have hlk:((vals.take k).flatMap (be 8)).length<=40:=by
    have:∀ l:List (BitVec 64),(l.flatMap (be 8)).length=8*l.length:=fun l=>by
     induction l with
     | nil=>rfl
     | cons a r ih=>simp only [List.flatMap_cons,List.length_append,Az,ih,List.length_cons];omega
    rw [this,List.length_take];omega
   have hwu:=ae (Ef hnb.bytes (by simp only [List.length_cons];omega) x);have AyP:=ae hst.size;clear hx hgr hlk hst hnb;go_wp2_with fail;refine hwu.out.mono ?_;rintro e W5 ⟨v5,o5,rfl,hs5,AhT⟩;have hF:=ae (aI (Abe.out.trans hs5) ((AhT.low (Nat.le_trans st4.size AyP.out)).congr (l':=UInt8.ofNat m.k :: (vals.take (k+1)).flatMap (be 8)) (by rw [hsn.out];rfl)));clear hs5 AhT hwu;go_wp2_with fail;go_roundw
   case rel=>exact ⟨k+1,o5,by omega,by go_num,hF.out.1,hF.out.2⟩
   case measure=>simp [intOf];omega
  ·obtain rfl:k=5:=by omega
   have hb5:=(hst.block _ (au hb4.out) id).trans hb4.out;have c5:=ag (i:=5) hb5;simp only [ay,ax] at c5;obtain ⟨P,hP⟩:∃ P,UInt8.ofNat m.k :: (vals.take 5).flatMap (be 8)=P:=⟨_,rfl⟩;rw [hP] at hnb;have hPl:P.length<=41:=by rw [<-hP, <-Ald.out];simp [Az]
   have hfin:m.put=P++encs m.ls:=by
    rw [<-hP, <-Ald.out, <-hnH.out];simp [BG.put,GR]
   have hl5:=ae (hl4.out.step hst id);have st5:=ae (st4.trans hst);have vK:=ae hPl;have Aac:=ae hfin;have pR:=ae (show m.ls.take n=m.ls from List.take_of_length_le (by rw [hnH.out];exact Nat.le_refl _));have h5I:¬ ((5:Nat):Int)<5:=by omega
   clear hst Abe hb5 hP hPl hfin hb4 hl4 hlt hk;go_wp2_with fail;obtain ⟨w5,hw5⟩:∃ w5,wr=w5:=⟨_,rfl⟩;rw [hw5] at hnb hl5 st5 c5 ⊢;clear hw5
   go_loopw [4,42] (fun bv i wr=>∃ (k:Nat) (oz:Own),k<=n/\i = .int .i64 k/\aj ai w5 oj wr oz/\Ew w wr oz bv (P++encs (m.ls.take k))) (fun _ i _=>n - (intOf i).toNat)
   case atStart=>exact ⟨0,oj,by omega,rfl,aj.refl _ _ _,hnb.congr (by simp [encs])⟩
   case round =>
    clear hnb;obtain ⟨k,oz,hk,rfl,hst,hnb⟩:=hrel
    by_cases hlt:k<n
    ·obtain ⟨x,hx⟩:∃ x,m.ls[k]?=some x:=⟨_,List.getElem?_eq_getElem (by rw [hnH.out];exact hlt)⟩;obtain ⟨b,off,xv,hab,hrg,hby, -, -, -⟩:=(hl5.out.step hst id).at hx;subst hab;have hld:=ae (TG hrg);have hal:=ae (AB (P:=prog) wr 41 _ eY);have hsw:=Be wr #[.int .u64 0, .slice none 0 0] 41 [.int .u64 (x.e.toNat:Int),xv] rfl;have h1c:[Value.int .u64 (x.e.toNat:Int),xv].all (·.oneCell')=true:=by obtain ⟨xa,xc,rfl⟩:=Aq hby;rfl
     obtain ⟨hso, -⟩:=Ba (P:=prog) (ty:=41) (vs:=[.int .u64 (x.e.toNat:Int),xv]) (heap_alloc_new wr (.cells [.int .u64 0, .slice none 0 0].toArray 41)) rfl (by kernel_rfl) h1c;rw [hsw] at hso;have Aaz:=ae hso;have hsa:=(aj.refl ai wr oz).alloc (.cells [Value.int .u64 (x.e.toNat:Int),xv].toArray 41) (0,0);have hab:(wr.alloc (.cells [Value.int .u64 (x.e.toNat:Int),xv].toArray 41)).heap[wr.heap.size]?=some (.cells [Value.int .u64 (x.e.toNat:Int),xv].toArray 41 (0,0)):=heap_alloc_new wr _;have hby:=hby.step hsa id;have hnb:=hnb.step hsa id;have hst:=hst.trans hsa;have Aba:=hst.size;obtain ⟨ab,xM⟩:∃ ab,wr.heap.size=ab:=⟨_,rfl⟩;obtain ⟨W1,hW1⟩:∃ W1,wr.alloc (.cells [Value.int .u64 (x.e.toNat:Int),xv].toArray 41)=W1:=⟨_,rfl⟩;rw [hW1] at Aaz hab hby hnb hst Aba;rw [xM] at hab hby hnb hst;generalize Ak oz ab (0,0)=O1 at *;have hsn:encs (m.ls.take (k+1))=encs (m.ls.take k)++x.enc:=by rw [List.take_add_one,hx];exact KU _ _
     have hle:=Hf m.ls (k+1);rw [hsn,List.length_append,Jj] at hle;have hle2:P.length+(encs (m.ls.take k)).length+12+x.b.length<=1100000:=by have:=vK.out;have:=rD.out;omega
     obtain ⟨pre,hpre⟩:∃ pre,P++encs (m.ls.take k)=pre:=⟨_,rfl⟩;have yY:pre.length=P.length+(encs (m.ls.take k)).length:=by rw [<-hpre,List.length_append]
     rw [hpre] at hnb;have AbN:=ae hby;have Aar:=ae xM;have Ave:=ae (show P++encs (m.ls.take (k+1))=pre++x.enc by rw [hsn, <-hpre,List.append_assoc]);have AlZ:=ae (show pre.length+12+x.b.length<=1100000 by omega);clear hsw hso hrg hsa xM hW1 hsn hle hle2 hpre yY h1c hby hx c5;have c0:W1.cell? ⟨ab,0,none⟩=some (.int .u64 (x.e.toNat:Int)):=ag hab 0;have c1:W1.cell? ⟨ab,1,none⟩=some xv:=ag hab 1
     go_wp2_with (first
      | ((with_reducible apply Bo);exact hld.out;simp only [Act.put,GL,DL,lss])
      | ((with_reducible apply AU);exact hal.out;simp only [Act.put,GL,DL,lss])
      | ((with_reducible apply AC);exact Aaz.out;simp only [Act.put]))
     rw [Aar.out];clear hld hal Aaz Aar;refine Aa (fun w'=>w'.cell? ⟨ab,0,none⟩=some (.int .u64 (x.e.toNat:Int))/\w'.cell? ⟨ab,1,none⟩=some xv) (fun _=>true) (by kernel_rfl) ⟨c0,c1⟩ (fun hHeld => ?_);refine tq 0 (h:=tq 1 (h:=tq 2 (h:=tq 4 (h:=tq 5 (h:=tO 3 (h:=?_))))));go_wp2_with fail;have hdr:=(aj.refl ai W1 O1).drew;refine (Ef (hnb.step hdr id).bytes (by have:=AlZ.out;omega) x.e).mono ?_;rintro e w2 ⟨v2,o2,rfl,hs2,zQ⟩;have hs2:=hdr.trans hs2;have uK:=(hs2.block ab (au hab) id).trans hab;have hS2:=aI (ag (i:=0) uK) (ag (i:=1) uK);have AbO:=ae (AbN.out.step hs2 id);have hst:=hst.trans hs2;clear hs2 hdr hHeld;go_wp2_with fail;refine ⟨fun _=>hS2, ?_⟩;refine tO 6 (h:=?_);go_wp2_with fail;refine (QZ zQ.bytes AbO.out (by rw [List.length_append,Az];have:=AlZ.out;omega) (by have:=AlZ.out;omega)).mono ?_;rintro e w3 ⟨v3,o3,rfl,hs3,zO⟩;have xN:=(hs3.block ab (au uK) id).trans uK;have hS3:=aI (ag (i:=0) xN) (ag (i:=1) xN);have Azi:=(zO.low (Nat.le_trans st5.out.size hst.size)).congr (l':=P++encs (m.ls.take (k+1))) (by rw [Ave.out];simp [Ar.enc]);have hst:=hst.trans hs3;clear hs3 zO zQ hS2;go_wp2_with fail;refine ⟨fun _=>hS3, ?_⟩;refine tq 7 (h:=tD (h:=?_));clear hS3 hab uK xN c0 c1 hnb;go_wp2_with fail;go_roundw
     case rel=>exact ⟨k+1,o3,by omega,by go_num,hst,Azi⟩
     case measure=>simp [intOf];omega
    ·obtain rfl:n=k:=by omega
     rw [pR.out] at hnb;have hnb:=hnb.congr Aac.out.symm;go_wp2_with fail
     go_ret2
     exact ⟨_,oz,rfl,st5.out.trans hst,_,rfl,hnb⟩
def Jn (l:List UInt8):Option BG:=if (QN l).2.done=0 then if TE (QN l).1=true then some (QN l).1 else none else none
theorem ET {m:BG} (h:m.May):Jn m.put=some m:=by
 unfold Jn;rw [aH h];rw [if_pos (by rfl),if_pos (XJ h)]
theorem VH {l:List UInt8} {m:BG} (h:Jn l=some m):m.May:=by
 unfold Jn at h;split at h
 ·split at h
  ·rename_i h2;cases h;exact dK h2
  ·cases h
 ·cases h
def iL (base:Nat) (g:Option BG) (r:Value) (w':World) (o':Own):Prop:=
 (∀ m,g=some m->∃ lv,r = .tuple #[Ea m lv, .int .i64 0]/\Lines w' o' base lv m.ls)/\(g=none->r = .tuple #[Ea ⟨0,0,0,0,0,[]⟩ (.slice none 0 0), .int .i64 2])
theorem Oa:((prog.info? 150).bind (·.zero)).map (·.cells)=some #[.int .u8 0, .int .u64 0, .int .u64 0, .int .i64 0, .int .i64 0, .slice none 0 0]:=by kernel_rfl
theorem FT:(prog.info? 150).map (·.size)=some 6:=by kernel_rfl
def DI:List Value:=[.int .u8 0, .int .u64 0, .int .u64 0, .int .i64 0, .int .i64 0, .slice none 0 0]
def QY (w:World) (o:Own) (Y b:Nat) (m:BG) (lv:Value):Prop:=w.heap[b]?=some (.cells (Bf m lv).toArray 150 (0,0))/\o b=(Y,0)
theorem QY.step {T:Nat->Prop} {w w':World} {o o':Own} {Y b:Nat} {m:BG} {lv:Value} (h:QY w o Y b m lv) (s:aj T w o w' o') (hY:¬ T Y):QY w' o' Y b m lv:=by
 have hl:=au h.1;exact ⟨by rw [s.block b hl (by rw [h.2];exact hY)];exact h.1,by rw [s.own b hl];exact h.2⟩
theorem QY.c5 {w:World} {o:Own} {Y b:Nat} {m:BG} {lv:Value} (h:QY w o Y b m lv):w.cell? ⟨b,5,none⟩=some lv:=ag h.1 5
theorem Gt {w:World} {b:Nat} {m:BG} {lv:Value} {E:TypeId} {fr:Nat × Nat} (h:w.heap[b]?=some (.cells (Bf m lv).toArray E fr)) :
  w.cell? ⟨b,0,none⟩=some (.int .u8 (m.k:Int))/\w.cell? ⟨b,1,none⟩=some (.int .u64 (m.e.toNat:Int))/\w.cell? ⟨b,2,none⟩=some (.int .u64 (m.c.toNat:Int))/\w.cell? ⟨b,3,none⟩=some (.int .i64 (m.at':Int))/\w.cell? ⟨b,4,none⟩=some (.int .i64 (m.com:Int))/\w.cell? ⟨b,5,none⟩=some lv:=by
 have c:=ag h;exact ⟨c 0,c 1,c 2,c 3,c 4,c 5⟩
theorem QY.free {w:World} {o:Own} {Y b:Nat} {m:BG} {lv:Value} (h:QY w o Y b m lv) (i:Nat):w.frozen? ⟨b,i,none⟩=false:=Ap h.1 i
theorem Zf (w:World) (e:Int) (bv:Value):(Instr.buildSlice 35 1 #[(0, .agg #[.int .u64 e,bv])]).run prog w = .ok (.slice (some ⟨w.heap.size,0,none⟩) 1 1) (w.alloc (.cells [.int .u64 e,bv].toArray 41)):=
 Dv w 35 41 [.int .u64 0, .slice none 0 0] (.agg #[.int .u64 e,bv]) [.int .u64 e,bv] underlying35 (by kernel_rfl) rfl (by simp) (by simp) rfl
theorem Ug {w:World} {o:Own} {v:Value} {l:List UInt8} (h:Bytes w o v l) (hl:l.length<=1000000) :
  Calls prog 103 #[v] w (XL ai w o fun r w' o'=>iL w.heap.size (Jn l) r w' o'):=by
 obtain ⟨M, -,hM⟩:=EZ o 0 w.heap.size;have hg:Jn l=if (QN l).2.done=0 then if TE (QN l).1=true then some (QN l).1 else none else none:=rfl
 have l0:=oQ.EC 1 (oQ.mk l false);have hR:QN l=(⟨((oQ.mk l false).num 1).1.toNat % 256,(((oQ.mk l false).num 1).2.num 8).1,((((oQ.mk l false).num 1).2.num 8).2.num 8).1,(((((oQ.mk l false).num 1).2.num 8).2.num 8).2.count 256).1,((((((oQ.mk l false).num 1).2.num 8).2.num 8).2.count 256).2.count 256).1,((((((oQ.mk l false).num 1).2.num 8).2.num 8).2.count 256).2.count 256).2.lines.1⟩,((((((oQ.mk l false).num 1).2.num 8).2.num 8).2.count 256).2.count 256).2.lines.2):=rfl;obtain ⟨q0,h0⟩:∃ q,(oQ.mk l false).num 1=q:=⟨_,rfl⟩;rw [h0] at hR l0;have l1:=oQ.EC 8 q0.2;obtain ⟨q1,h1⟩:∃ q,q0.2.num 8=q:=⟨_,rfl⟩;rw [h1] at hR l1;have l2:=oQ.EC 8 q1.2;obtain ⟨q2,h2⟩:∃ q,q1.2.num 8=q:=⟨_,rfl⟩;rw [h2] at hR l2;have l3:=oQ.IW 256 q2.2;obtain ⟨q3,h3⟩:∃ q,q2.2.count 256=q:=⟨_,rfl⟩;rw [h3] at hR l3;have l4:=oQ.IW 256 q3.2;obtain ⟨q4,h4⟩:∃ q,q3.2.count 256=q:=⟨_,rfl⟩;rw [h4] at hR l4;have l5:=oQ.IW 256 q4.2;have hln:q4.2.lines=Ce (q4.2.count 256).1 (q4.2.count 256).2:=rfl;obtain ⟨q5,h5⟩:∃ q,q4.2.count 256=q:=⟨_,rfl⟩;rw [h5] at hln l5;rw [hln] at hR;obtain ⟨kb,hkb⟩:∃ kb,q0.1.toNat % 256=kb:=⟨_,rfl⟩;rw [hkb] at hR;have hll:(oQ.mk l false).b.length<=1000000:=hl;have b0:q0.2.b.length<=1000000:=by omega
 have b1:q1.2.b.length<=1000000:=by omega
 have b2:q2.2.b.length<=1000000:=by omega
 have b3:q3.2.b.length<=1000000:=by omega
 have b4:q4.2.b.length<=1000000:=by omega
 have b5:q5.2.b.length<=1000000:=by omega
 obtain ⟨N,hN⟩:∃ N,q5.1=N:=⟨_,rfl⟩;rw [hN] at hR l5;have hNI:(0:Int)<=(N:Int)/\(N:Int)<=256:=by omega
 obtain ⟨MM,hMM⟩:∃ f:List Ar->BG,∀ ls,f ls=⟨kb,q1.1,q2.1,q3.1,q4.1,ls⟩:=⟨_,fun _=>rfl⟩;have hmr:QN l=(MM (Ce N q5.2).1,(Ce N q5.2).2):=by rw [hR,hMM]
 rw [hmr] at hg;have hgH:=ae hg;have hMH:=ae hM;have AmB:=ae hMM;have hB:=ae (aI hll (aI b0 (aI b1 (aI b2 (aI b3 (aI b4 b5))))));have hE:=ae (aI h0 (aI h1 (aI h2 (aI h3 (aI h4 (aI h5 (aI hN hkb)))))));clear hg hM hR hln hmr hMM l0 l1 l2 l3 l4 l5 b0 b1 b2 b3 b4 b5 h0 h1 h2 h3 h4 h5 hN hkb;have st0:aj (EN M) w o (w.alloc (.cells DI.toArray 150)) (Ak o w.heap.size (M+3,1)):=((aj.refl ai w o).LW).alloc _ _;have b0:=heap_alloc_new w (.cells DI.toArray 150);have hal:=ae (AB (P:=prog) w 150 _ Oa);have hb1:=h.step ((aj.refl ai w o).alloc (.cells DI.toArray 150) (M+3,1)) id;have t0:=Au o w.heap.size (M+3,1);have z0:(w.alloc (.cells DI.toArray 150)).heap.size=w.heap.size+1:=by simp
 unfold DI at st0 b0 hb1 z0;obtain ⟨W0,hW0⟩:∃ W0,w.alloc (.cells [Value.int .u8 0, .int .u64 0, .int .u64 0, .int .i64 0, .int .i64 0, .slice none 0 0].toArray 150)=W0:=⟨_,rfl⟩;rw [hW0] at st0 b0 hb1 z0;generalize Ak o w.heap.size (M+3,1)=o0 at *;have hn:=ae (NH (M+1) hb1 hl);have hW0':w.alloc (.cells #[Value.int .u8 0, .int .u64 0, .int .u64 0, .int .i64 0, .int .i64 0, .slice none 0 0] 150)=W0:=hW0;rw [hW0'] at hal;have hH:=ae (aI st0 (aI b0 t0));obtain ⟨va,vc,rfl⟩:=Aq h;clear h hb1 st0 b0 t0 z0 hW0 hW0' hll hl;go_enter func103,ntmps103
 go_wp2_with ((with_reducible apply AU);exact hal.out;simp only [Act.put,GL,DL,lss])
 refine hn.out.mono ?_;rintro e w1 ⟨v1,o1,rfl,hs1,p,hp,rfl,hr1⟩;obtain ⟨h0,h1,h2,h3,h4,h5,hN,hkb⟩:=hE.out;obtain ⟨hll,b0,b1,b2,b3,b4,b5⟩:=hB.out;have st1:=hH.out.1.trans (hs1.LW);have bl1:=(hs1.block _ (au hH.out.2.1) id).trans hH.out.2.1;have t1:=(hs1.own _ (au hH.out.2.1)).trans hH.out.2.2;have nZ:M+1 ≠ 0:=by omega
 have aZ:∀ k,ak (M+1) k->EN M k:=fun k h=>by unfold ak at h;unfold EN;omega
 have nT:¬ ak (M+1) (M+3):=fun h=>by unfold ak at h;omega
 have hc:=NI hr1 nZ hll;rw [h0,hkb] at hc;have WV:=ae hc;have hP:=ae (aI st1 (aI bl1 t1));clear hc hs1 hr1 st1 bl1 t1 h0 h1 h2 h3 h4 h5 hN hkb hll b0 b1 b2 b3 b4 b5 hn hal;go_wp2_with fail;refine WV.out.mono ?_;rintro e w2 ⟨v2,o2,rfl,hs2,rfl,hr2⟩;obtain ⟨stp,blp,tp⟩:=hP.out;have hP:=ae (aI (stp.trans (hs2.mono aZ)) (aI ((hs2.block _ (au blp) (by rw [tp];exact nT)).trans blp) ((hs2.own _ (au blp)).trans tp)));obtain ⟨h0,h1,h2,h3,h4,h5,hN,hkb⟩:=hE.out;obtain ⟨hll,b0,b1,b2,b3,b4,b5⟩:=hB.out;have WV:=ae (show _ from by have hc:=EJ hr2 nZ b0;rw [h1] at hc;exact hc);clear hr2;clear hs2 stp blp tp h0 h1 h2 h3 h4 h5 hN hkb hll b0 b1 b2 b3 b4 b5;go_wp2_with fail;refine WV.out.mono ?_;rintro e w3 ⟨v3,o3,rfl,hs3,rfl,hr3⟩;obtain ⟨stp,blp,tp⟩:=hP.out;have hP:=ae (aI (stp.trans (hs3.mono aZ)) (aI ((hs3.block _ (au blp) (by rw [tp];exact nT)).trans blp) ((hs3.own _ (au blp)).trans tp)));obtain ⟨h0,h1,h2,h3,h4,h5,hN,hkb⟩:=hE.out;obtain ⟨hll,b0,b1,b2,b3,b4,b5⟩:=hB.out;have WV:=ae (show _ from by have hc:=EJ hr3 nZ b1;rw [h2] at hc;exact hc);clear hr3;clear hs3 stp blp tp h0 h1 h2 h3 h4 h5 hN hkb hll b0 b1 b2 b3 b4 b5;go_wp2_with fail;refine WV.out.mono ?_;rintro e w4 ⟨v4,o4,rfl,hs4,rfl,hr4⟩;obtain ⟨stp,blp,tp⟩:=hP.out;have hP:=ae (aI (stp.trans (hs4.mono aZ)) (aI ((hs4.block _ (au blp) (by rw [tp];exact nT)).trans blp) ((hs4.own _ (au blp)).trans tp)));obtain ⟨h0,h1,h2,h3,h4,h5,hN,hkb⟩:=hE.out;obtain ⟨hll,b0,b1,b2,b3,b4,b5⟩:=hB.out;have WV:=ae (show _ from by have hc:=Je hr4 nZ b2 256 (by omega);rw [h3] at hc;exact hc);clear hr4;clear hs4 stp blp tp h0 h1 h2 h3 h4 h5 hN hkb hll b0 b1 b2 b3 b4 b5;go_wp2_with fail;refine WV.out.mono ?_;rintro e w5 ⟨v5,o5,rfl,hs5,rfl,hr5⟩;obtain ⟨stp,blp,tp⟩:=hP.out;have hP:=ae (aI (stp.trans (hs5.mono aZ)) (aI ((hs5.block _ (au blp) (by rw [tp];exact nT)).trans blp) ((hs5.own _ (au blp)).trans tp)));obtain ⟨h0,h1,h2,h3,h4,h5,hN,hkb⟩:=hE.out;obtain ⟨hll,b0,b1,b2,b3,b4,b5⟩:=hB.out;have WV:=ae (show _ from by have hc:=Je hr5 nZ b3 256 (by omega);rw [h4] at hc;exact hc);clear hr5;clear hs5 stp blp tp h0 h1 h2 h3 h4 h5 hN hkb hll b0 b1 b2 b3 b4 b5;go_wp2_with fail;refine WV.out.mono ?_;rintro e w6 ⟨v6,o6,rfl,hs6,rfl,hr6⟩;obtain ⟨stp,blp,tp⟩:=hP.out;obtain ⟨h0,h1,h2,h3,h4,h5,hN,hkb⟩:=hE.out;obtain ⟨hll,b0,b1,b2,b3,b4,b5⟩:=hB.out;have bl6:=(hs6.block _ (au blp) (by rw [tp];exact nT)).trans blp;have t6:=(hs6.own _ (au blp)).trans tp;have st6:=stp.trans (hs6.mono aZ);have hal2:=AB (P:=prog) w6 150 _ Oa;have hst2:=(Ba (P:=prog) (ty:=150) (vs:=[.int .u8 (kb:Int), .int .u64 (q1.1.toNat:Int), .int .u64 (q2.1.toNat:Int), .int .i64 (q3.1:Int), .int .i64 (q4.1:Int), .slice none 0 0]) (heap_alloc_new w6 (.cells [Value.int .u8 0, .int .u64 0, .int .u64 0, .int .i64 0, .int .i64 0, .slice none 0 0].toArray 150)) rfl FT rfl).1;rw [Be w6 [Value.int .u8 0, .int .u64 0, .int .u64 0, .int .i64 0, .int .i64 0, .slice none 0 0].toArray 150 [.int .u8 (kb:Int), .int .u64 (q1.1.toNat:Int), .int .u64 (q2.1.toNat:Int), .int .i64 (q3.1:Int), .int .i64 (q4.1:Int), .slice none 0 0] rfl] at hst2;have st7:=st6.alloc (.cells [.int .u8 (kb:Int), .int .u64 (q1.1.toNat:Int), .int .u64 (q2.1.toNat:Int), .int .i64 (q3.1:Int), .int .i64 (q4.1:Int), .slice none 0 0].toArray 150) (M+3,0);have k7:=(aj.refl ai w6 o6).alloc (.cells [.int .u8 (kb:Int), .int .u64 (q1.1.toNat:Int), .int .u64 (q2.1.toNat:Int), .int .i64 (q3.1:Int), .int .i64 (q4.1:Int), .slice none 0 0].toArray 150) (M+3,0);have mb7:QY _ _ (M+3) w6.heap.size (MM []) (.slice none 0 0):=⟨by rw [AmB.out];exact heap_alloc_new w6 (.cells [.int .u8 (kb:Int), .int .u64 (q1.1.toNat:Int), .int .u64 (q2.1.toNat:Int), .int .i64 (q3.1:Int), .int .i64 (q4.1:Int), .slice none 0 0].toArray 150),Au o6 w6.heap.size (M+3,0)⟩;have bl7:=(k7.block _ (au bl6) id).trans bl6;have t7:=(k7.own _ (au bl6)).trans t6;have r7:=hr6.step k7 id id;have Akj:w.heap.size<w6.heap.size:=au bl6;obtain ⟨W7,hW7⟩:∃ W7,w6.alloc (.cells [Value.int .u8 (kb:Int), .int .u64 (q1.1.toNat:Int), .int .u64 (q2.1.toNat:Int), .int .i64 (q3.1:Int), .int .i64 (q4.1:Int), .slice none 0 0].toArray 150)=W7:=⟨_,rfl⟩;rw [hW7] at hst2 st7 k7 mb7 bl7 r7;generalize Ak o6 w6.heap.size (M+3,0)=o7 at *;obtain ⟨Wz,hWz⟩:∃ Wz,w6.alloc (.cells #[Value.int .u8 0, .int .u64 0, .int .u64 0, .int .i64 0, .int .i64 0, .slice none 0 0] 150)=Wz:=⟨_,rfl⟩;rw [hWz] at hal2;have AvL:w6.alloc (.cells [Value.int .u8 0, .int .u64 0, .int .u64 0, .int .i64 0, .int .i64 0, .slice none 0 0].toArray 150)=Wz:=hWz;rw [AvL] at hst2;have WV:=ae (show _ from by have hc:=Je r7 nZ b4 256 (by omega);rw [h5,hN] at hc;exact hc);have Amu:=ae hal2;have Alm:=ae hst2;obtain ⟨mb,hmb⟩:∃ mb,w6.heap.size=mb:=⟨_,rfl⟩;rw [hmb] at Amu Alm mb7 Akj;have hP:=ae (aI st7 (aI bl7 (aI t7 (aI mb7 Akj))));clear hs6 stp blp tp hr6 h0 h1 h2 h3 h4 h5 hN hkb hll b0 b1 b2 b3 b4 b5 hal2 hst2 st7 k7 mb7 bl7 t7 r7 bl6 t6 st6 hW7 hWz AvL hmb Akj
 go_wp2_with (first
  | ((with_reducible apply AU);exact Amu.out;simp only [Act.put,GL,DL,lss])
  | ((with_reducible apply AC);exact Alm.out;simp only [Act.put]))
 refine WV.out.mono ?_;rintro e w8 ⟨v8,o8,rfl,hs8,rfl,vU⟩;obtain ⟨stp,blp,tp,mbp,hlt⟩:=hP.out;have hP:=ae (aI (stp.trans (hs8.mono aZ)) (aI ((hs8.block _ (au blp) (by rw [tp];exact nT)).trans blp) (aI ((hs8.own _ (au blp)).trans tp) (aI (mbp.step hs8 nT) vU))));clear stp blp tp mbp hs8 vU WV Amu Alm;have Azq:=ae hlt;clear hlt;go_wp2_with fail;have nX:M+2 ≠ 0:=by omega
 have nXT:¬ ak (M+2) (M+3):=fun h=>by unfold ak at h;omega
 have nXZ:¬ ak (M+2) (M+1):=fun h=>by unfold ak at h;omega
 have nZX:¬ ak (M+1) (M+2):=fun h=>by unfold ak at h;omega
 have nTX:¬ ak (M+3) (M+2):=fun h=>by unfold ak at h;omega
 have nTZ:¬ ak (M+3) (M+1):=fun h=>by unfold ak at h;omega
 have aX:∀ k,ak (M+2) k->EN M k:=fun k h=>by unfold ak at h;unfold EN;omega
 have n10:¬ ak (M+1) 0:=fun h=>by unfold ak at h;omega
 have n20:¬ ak (M+2) 0:=fun h=>by unfold ak at h;omega
 have n30:¬ ak (M+3) 0:=fun h=>by unfold ak at h;omega
 have hNs:=ae (aI nX (aI nXT (aI nXZ (aI nZX (aI nTX (aI nTZ (aI aX (aI n10 (aI n20 n30)))))))));have hZs:=ae (aI nZ (aI aZ nT));clear nX nXT nXZ nZX nTX nTZ aX n10 n20 n30 nZ aZ nT
 go_loopw [21] (fun i wr=>∃ (k:Nat) (oj:Own) (lv:Value),k<=N/\i = .int .i64 k/\aj (EN M) w o wr oj/\wr.heap[w.heap.size]?=some (.cells [Value.int .u8 0, .int .u64 0, .int .u64 0, .int .i64 0, .int .i64 0, .slice none 0 0].toArray 150 (0,0))/\oj w.heap.size=(M+3,1)/\QY wr oj (M+3) mb (MM (Ce k q5.2).1) lv/\Ep wr oj (M+1) p (Ce k q5.2).2/\Gh wr oj (w.heap.size+1) (M+2,0) lv (Ce k q5.2).1) (fun i _=>N - (intOf i).toNat)
 case atStart=>exact ⟨0,o8, .slice none 0 0,by omega,rfl,hP.out.1,hP.out.2.1,hP.out.2.2.1,hP.out.2.2.2.1,hP.out.2.2.2.2,Gh.nil _ _ _ _⟩
 case round =>
  clear hP;obtain ⟨k,oj,lv,hk,rfl,hst,hbl,htg,hmb,hrd,hrow⟩:=hrel;obtain ⟨hlk,hln⟩:=NG k q5.2
  by_cases hlt:k<N
  ·obtain ⟨nZ,aZ,nT⟩:=hZs.out;have dr:aj ai wr oj wr.drew oj:=(aj.refl ai wr oj).drew;have hu:=ae (EJ (hrd.step dr id id) nZ (by have:=hB.out.2.2.2.2.2.2;omega));have hlm:((Ce k q5.2).2.num 8).2.b.length<=1000000:=by have:=oQ.EC 8 (Ce k q5.2).2;have:=hB.out.2.2.2.2.2.2;omega
   have hsn:Ce (k+1) q5.2=((Ce k q5.2).1++[⟨((Ce k q5.2).2.num 8).1,((Ce k q5.2).2.num 8).2.text.1⟩],((Ce k q5.2).2.num 8).2.text.2):=rfl;obtain ⟨E,hE2⟩:∃ E,((Ce k q5.2).2.num 8).1=E:=⟨_,rfl⟩;rw [hE2] at hu hsn;generalize ((Ce k q5.2).2.num 8).2=m8 at *;obtain ⟨ra,rc,rfl⟩:=hrow.form;have hS:wr.drew.cell? ⟨mb,5,none⟩=some (.slice ra (Ce k q5.2).1.length rc):=hmb.c5;have hR:=ae (aI (hst.drew) (aI hbl (aI htg (aI (hmb.step dr id) (hrow.step dr id id)))));have hL:=ae (aI hlm (aI hln hsn));rw [hln] at hS;clear hst hbl htg hmb hrd hrow hlk hlm hln hsn hE2 dr nZ aZ nT;go_wp2_with fail;refine Aa (fun w'=>w'.cell? ⟨mb,5,none⟩=some (.slice ra k rc)) (fun i=>decide (i<10)) (by kernel_rfl) hS (fun hHeld => ?_);refine tq 0 (h:=tq 1 (h:=tq 2 (h:=tq 4 (h:=tO 3 (h:=?_)))));go_wp2_with fail;refine hu.out.mono ?_;rintro e w2 ⟨v2,o2,rfl,hs2,rfl,hr2⟩;obtain ⟨nZ,aZ,nT⟩:=hZs.out;obtain ⟨nX,nXT,nXZ,nZX,nTX,nTZ,aX,n10,n20,n30⟩:=hNs.out;obtain ⟨hst,hbl,htg,hmb,hrow⟩:=hR.out;have hS2:w2.cell? ⟨mb,5,none⟩=some (.slice ra k rc):=by have:=(hmb.step hs2 nT).c5;rw [hL.out.2.1] at this;exact this
   have hR2:=ae (aI (hst.trans (hs2.mono aZ)) (aI ((hs2.block _ (au hbl) (by rw [htg];exact nT)).trans hbl) (aI ((hs2.own _ (au hbl)).trans htg) (aI (hmb.step hs2 nT) (hrow.step hs2 nZX n10)))));have ht:=ae (Rq hr2 nZ hL.out.1);clear hs2 hr2 hst hbl htg hmb hrow hu hR nZ aZ nT nX nXT nXZ nZX nTX nTZ aX n10 n20 n30 hHeld;go_wp2_with fail;refine ⟨fun _=>hS2, ?_⟩;refine tO 5 (h:=?_);go_wp2_with fail;refine ht.out.mono ?_;rintro e w3 ⟨v3,o3,rfl,hs3,⟨hb3,hf3⟩,hr3⟩;obtain ⟨nZ,aZ,nT⟩:=hZs.out;obtain ⟨nX,nXT,nXZ,nZX,nTX,nTZ,aX,n10,n20,n30⟩:=hNs.out;obtain ⟨hst,hbl,htg,hmb,hrow⟩:=hR2.out;have hS3:w3.cell? ⟨mb,5,none⟩=some (.slice ra k rc):=by have:=(hmb.step hs3 nT).c5;rw [hL.out.2.1] at this;exact this
   have hR3:=ae (aI (hst.trans (hs3.mono aZ)) (aI ((hs3.block _ (au hbl) (by rw [htg];exact nT)).trans hbl) (aI ((hs3.own _ (au hbl)).trans htg) (aI (hmb.step hs3 nT) (aI (hrow.step hs3 nZX n10) (aI hb3 (aI (hf3.low hst.size) hr3)))))));have hbs:=Zf w3 (E.toNat:Int) v3;have hsa:=(aj.refl ai w3 o3).alloc (.cells [.int .u64 (E.toNat:Int),v3].toArray 41) (0,0);have hnb:=heap_alloc_new w3 (.cells [.int .u64 (E.toNat:Int),v3].toArray 41);obtain ⟨w4,hw4⟩:∃ w4,w3.alloc (.cells [.int .u64 (E.toNat:Int),v3].toArray 41)=w4:=⟨_,rfl⟩;rw [hw4] at hbs hsa hnb;generalize Ak o3 w3.heap.size (0,0)=o4 at *;have hS4:w4.cell? ⟨mb,5,none⟩=some (.slice ra k rc):=by have:=((hmb.step hs3 nT).step hsa id).c5;rw [hL.out.2.1] at this;exact this
   obtain ⟨nv,w5,o5,hrun,tK,hs5,hgr,ho5⟩:=((hrow.step hs3 nZX n10).step hsa id id).append nX (Nat.le_trans (au hbl) (Nat.le_trans hs3.size hsa.size)) (AV hnb) (sW.single ⟨E,m8.text.1⟩ (hb3.step hsa id)) (fun u hu=>by
    simp only [List.mem_cons,List.not_mem_nil,or_false] at hu;rcases hu with rfl | rfl
    ·exact CV.int _ _ _
    ·exact hf3.low (au hbl)) (by simp) (by rw [hL.out.2.1,List.length_singleton];omega) (c:=1)
   simp only [List.length_singleton] at hrun;rw [hL.out.2.1] at hrun;obtain ⟨na,nc,rfl⟩:=tK.form;have hl1:((Ce k q5.2).1++([⟨E,m8.text.1⟩]:List Ar)).length=k+1:=by rw [List.length_append,hL.out.2.1];rfl
   have Ajc:=(((hmb.step hs3 nT).step hsa id)).step hs5 nXT;have hS5:w5.cell? ⟨mb,5,none⟩=some (.slice ra k rc):=by have:=Ajc.c5;rw [hL.out.2.1] at this;exact this
   have f5:=Ajc.free 5;have Avv:=(hs5.block _ (Nat.lt_of_lt_of_le (Nat.lt_of_lt_of_le (au hbl) hs3.size) hsa.size) (by rw [hsa.own _ (Nat.lt_of_lt_of_le (au hbl) hs3.size),hs3.own _ (au hbl),htg];exact nXT)).trans ((hsa.block _ (Nat.lt_of_lt_of_le (au hbl) hs3.size) id).trans ((hs3.block _ (au hbl) (by rw [htg];exact nT)).trans hbl));have Atp:=(hs5.own _ (Nat.lt_of_lt_of_le (Nat.lt_of_lt_of_le (au hbl) hs3.size) hsa.size)).trans ((hsa.own _ (Nat.lt_of_lt_of_le (au hbl) hs3.size)).trans ((hs3.own _ (au hbl)).trans htg));have st5:=((hst.trans (hs3.mono aZ)).trans hsa.LW).trans (hs5.mono aX);have AlC:=(hr3.step hsa id id).step hs5 nXZ n20;rw [hl1] at hrun;have Aax:=ae hrun;have bM5:QY (w5.setCell ⟨mb,5,none⟩ (.slice na (k+1) nc)) o5 (M+3) mb (MM (Ce (k+1) q5.2).1) (.slice na (k+1) nc):=by
    refine ⟨?_,Ajc.2⟩;have h:=Ai (i:=5) (.slice na (k+1) nc) Ajc.1;rw [h,AmB.out,AmB.out];rfl
   have sF:=st5.setCell (a:=⟨mb,5,none⟩) (.slice na (k+1) nc) (.inl (by show EN M (o5 mb).1;rw [Ajc.2];unfold EN;omega));have sK:=(aj.refl (ak (M+3)) w5 o5).setCell (a:=⟨mb,5,none⟩) (.slice na (k+1) nc) (.inl (by show (o5 mb).1=_;rw [Ajc.2]));have AoG:Gh (w5.setCell ⟨mb,5,none⟩ (.slice na (k+1) nc)) o5 (w.heap.size+1) (M+2,0) (.slice na (k+1) nc) (Ce (k+1) q5.2).1:=by
    rw [hL.out.2.2];rw [hl1] at tK;exact tK.step sK nTX n30
   have AtI:Ep (w5.setCell ⟨mb,5,none⟩ (.slice na (k+1) nc)) o5 (M+1) p (Ce (k+1) q5.2).2:=by
    rw [hL.out.2.2];exact AlC.step sK nTZ n30
   have Avu:=(Below.heap_setCell w5 ⟨mb,5,none⟩ (.slice na (k+1) nc) w.heap.size (by have:=Azq.out;show w.heap.size ≠ mb;omega)).trans Avv;have hF:=ae (aI sF (aI Avu (aI Atp (aI bM5 (aI AtI AoG)))));have AaP:=ae hbs;obtain ⟨ba,bc,rfl⟩:=Aq hb3;clear hs3 hr3 hst hbl htg hmb hrow hb3 hf3 hR2 hS2 ht hbs hsa hnb hrun tK hs5 hgr ho5 hl1 Ajc Avv Atp st5 AlC bM5 sF sK AoG AtI Avu nZ aZ nT nX nXT nXZ nZX nTX nTZ aX n10 n20 n30;go_wp2_with fail;refine ⟨fun _=>hS3, ?_⟩;refine tq 6 (h:=tO 7 (h:=?_));refine BO #[(0, .agg #[.int .u64 (E.toNat:Int), .slice ba m8.text.1.length bc])] rfl AaP.out ?_;simp only [Act.put,GL,DL,lss];go_wp2_with fail;refine ⟨fun _=>hS4, ?_⟩;refine tO 8 (h:=?_)
   with_reducible apply Bl
   exact Aax.out;simp only [Act.put,GL,DL,lss];go_wp2_with fail;refine ⟨fun _=>hS5, ?_⟩;refine tq 9 (h:=tO 10 (h:=?_));go_wp2_with fail;refine ⟨fun h=>by simp at h, ?_⟩;refine tD (h:=?_);go_wp2_with fail;go_roundw
   case rel=>exact ⟨k+1,o5,_,by omega,by go_num,hF.out.1,hF.out.2.1,hF.out.2.2.1,hF.out.2.2.2.1,hF.out.2.2.2.2.1,hF.out.2.2.2.2.2⟩
   case measure=>simp [intOf];omega
  ·have hkN:k=N:=by omega
   subst hkN;have hd:=ae (II hrd);have hdv:((Ce k q5.2).2).done=0 \/ ((Ce k q5.2).2).done=2:=by
    unfold oQ.done;split
    ·exact .inr rfl
    ·exact .inl rfl
   obtain ⟨m,hm⟩:∃ m,MM (Ce k q5.2).1=m:=⟨_,rfl⟩;have AgC:m.ls=(Ce k q5.2).1:=by rw [<-hm,AmB.out]
   have hLn:Lines wr (Ak (ext w o) w.heap.size (M+3,1)) (w.heap.size+1) lv m.ls:=by
    rw [AgC];refine hrow.lines (fun j hj => ?_);rw [BI _ _ (by omega)];unfold ext;rw [if_neg (by omega)]
   have st:aj ai w o wr (Ak (ext w o) w.heap.size (M+3,1)):=(hst.Hm hMH.out).Me _ (fun j hj=>by rw [BI _ _ (by omega)];exact if_pos hj);have hto:=Au (ext w o) w.heap.size (M+3,1);have hmB:=hmb.1;rw [hm] at hmB;have hgt:=hgH.out;rw [hm] at hgt;obtain ⟨dn,hdn⟩:∃ d,((Ce k q5.2).2).done=d:=⟨_,rfl⟩;simp only [hdn] at hd hdv hgt;have Ahj:=ae hgt;generalize Ak (ext w o) w.heap.size (M+3,1)=oE at *;have hld:=Ip (AV hmB) rfl;have AlO:=ae (Uf m hLn (by rw [AgC,hln];omega));have AbT:=ae hbl;have Aqx:=ae hmB;have AeF:=ae hld;have BaB:=ae hLn;have stH:=ae st;have ApR:=ae hto;obtain ⟨ra,rc,rfl⟩:=hLn.form;clear hst hbl htg hmb hrd hrow hlk hln hgt hgH hm AgC hLn st hto hmB hld hE hB AmB;have nT0:¬ ak (M+3) 0:=fun h=>by unfold ak at h;omega
   have hbad:∀ (W:World) (oW:Own),aj ai w o W oW->W.heap[w.heap.size]?=some (.cells [Value.int .u8 0, .int .u64 0, .int .u64 0, .int .i64 0, .int .i64 0, .slice none 0 0].toArray 150 (0,0))->oW w.heap.size=(M+3,1)->∀ vs:List Value,vs.length=6->vs.all (·.oneCell')=true ->
     (Instr.storeAt 150 (.pointer (some ⟨w.heap.size,0,none⟩)) (.agg vs.toArray)).run prog W = .ok () (W.setCells w.heap.size 0 vs)/\(W.setCells w.heap.size 0 vs).heap[w.heap.size]?=some (.cells vs.toArray 150 (0,0))/\aj ai w o (W.setCells w.heap.size 0 vs) oW/\aj (ak (M+3)) W oW (W.setCells w.heap.size 0 vs) oW:=by
    intro W oW h1 h2 h3 vs h4 h5;obtain ⟨g1,g2⟩:=Ba (P:=prog) (ty:=150) (vs:=vs) h2 (by rw [h4];rfl) (by rw [h4];exact FT) h5;exact ⟨g1,g2,h1.setCells _ _ _ (.inr (Nat.le_refl _)),(aj.refl _ W oW).setCells _ _ _ (.inl (by rw [h3];rfl))⟩
   have AcU:=ae hbad;clear hbad;unfold Ea at AlO;obtain ⟨c0,c1,c2,c3,c4,c5⟩:=Gt Aqx.out;have hz:∀ (W:World) (oW:Own) e,Jn l=none->iL w.heap.size (Jn l) (.tuple #[.agg #[Value.int .u8 0, .int .u64 0, .int .u64 0, .int .i64 0, .int .i64 0, .slice none 0 0], .int .i64 2]) W oW \/ e:=by
    intro W oW e h;rw [h];exact .inl ⟨fun m h=>by (cases h),fun _=>rfl⟩
   have hzH:=ae hz;clear hz;rcases hdv with rfl | rfl
   ·rw [if_pos rfl] at Ahj
    cases hmay:TE m with
    | true =>
     rw [hmay] at AlO Ahj;rw [if_pos rfl] at Ahj;clear hmay;go_wp2_with fail;refine hd.out.mono ?_;rintro e w2 ⟨rfl,rfl⟩;go_wp2_with fail;refine AlO.out.mono ?_;rintro e w2 ⟨v2,o2,rfl,hs2,rfl⟩;have hb2:=(hs2.block _ (au AbT.out) id).trans AbT.out;have ho2:=(hs2.own _ (au AbT.out)).trans ApR.out;have hm2:=(hs2.block _ (au Aqx.out) id).trans Aqx.out;have zZ:=ae (Ip (AV hm2) rfl);obtain ⟨g1,g2,g3,g4⟩:=AcU.out w2 o2 (stH.out.trans hs2) hb2 ho2 (Bf m (.slice ra m.ls.length rc)) rfl rfl;have g1H:=ae g1;have g2H:=ae g2;have hF:=ae (aI g3 ((BaB.out.step hs2 id).step g4 nT0));clear hs2 hb2 ho2 hm2 g1 g2 g3 g4 c0 c1 c2 c3 c4 c5;unfold Bf at zZ g1H g2H
     go_wp2_with (first
      | ((with_reducible apply Bo);exact zZ.out;simp only [Act.put,GL,DL,lss])
      | ((with_reducible apply AC);exact g1H.out;simp only [Act.put]))
     refine bodyPost_ret (Eg rfl _ _ w.heap.size 150 _ (0,0) _ rfl g2H.out underlying150 rfl FT) rfl ?_;exact ⟨_,o2,rfl,hF.out.1,by rw [Ahj.out];exact ⟨fun m' h=>by cases h;exact ⟨_,rfl,hF.out.2.low (by omega)⟩,fun h=>by cases h⟩⟩
    | false =>
     rw [hmay] at AlO Ahj;rw [if_neg (by decide)] at Ahj;clear hmay;go_wp2_with fail;refine hd.out.mono ?_;rintro e w2 ⟨rfl,rfl⟩;go_wp2_with fail;refine AlO.out.mono ?_;rintro e w2 ⟨v2,o2,rfl,hs2,rfl⟩;have hb2:=(hs2.block _ (au AbT.out) id).trans AbT.out;have ho2:=(hs2.own _ (au AbT.out)).trans ApR.out;obtain ⟨g1,g2,g3,g4⟩:=AcU.out w2 o2 (stH.out.trans hs2) hb2 ho2 [Value.int .u8 0, .int .u64 0, .int .u64 0, .int .i64 0, .int .i64 0, .slice none 0 0] rfl rfl;have g1H:=ae g1;have g2H:=ae g2;have g3H:=ae g3;clear hs2 hb2 ho2 g1 g2 g3 g4 c0 c1 c2 c3 c4 c5
     go_wp2_with ((with_reducible apply AC);exact g1H.out;simp only [Act.put])
     refine bodyPost_ret (Eg rfl _ _ w.heap.size 150 _ (0,0) _ rfl g2H.out underlying150 rfl FT) rfl ?_;exact ⟨_,o2,rfl,g3H.out,(hzH.out _ _ False Ahj.out).resolve_right id⟩
   ·rw [if_neg (by decide)] at Ahj;clear c0 c1 c2 c3 c4 c5;go_wp2_with fail;refine hd.out.mono ?_;rintro e w2 ⟨rfl,rfl⟩;obtain ⟨g1,g2,g3,g4⟩:=AcU.out wr oE stH.out AbT.out ApR.out [Value.int .u8 0, .int .u64 0, .int .u64 0, .int .i64 0, .int .i64 0, .slice none 0 0] rfl rfl;have g1H:=ae g1;have g2H:=ae g2;have g3H:=ae g3;clear g1 g2 g3 g4
    go_wp2_with ((with_reducible apply AC);exact g1H.out;simp only [Act.put])
    refine bodyPost_ret (Eg rfl _ _ w.heap.size 150 _ (0,0) _ rfl g2H.out underlying150 rfl FT) rfl ?_;exact ⟨_,oE,rfl,g3H.out,(hzH.out _ _ False Ahj.out).resolve_right id⟩
theorem KN (w:World) (m:BG) (la:Option Addr) (ln lc:Nat) :
  (Instr.storeAt 150 (.pointer (some ⟨w.heap.size,0,none⟩)) (.agg (Bf m (.slice la ln lc)).toArray)).run prog (w.alloc (.cells DI.toArray 150)) = .ok () (w.alloc (.cells (Bf m (.slice la ln lc)).toArray 150)):=by
 have h:=(Ba (P:=prog) (ty:=150) (vs:=Bf m (.slice la ln lc)) (heap_alloc_new w (.cells DI.toArray 150)) rfl FT rfl).1;rw [Be w DI.toArray 150 (Bf m (.slice la ln lc)) rfl] at h;exact h
theorem YP {w:World} {o:Own} {vl bb lb:Nat} {mine:BitVec 64} {p:DT} {rest:List Value} (i:Nat)
  (hv:w.heap[vl]?=some (.cells #[.pointer (some ⟨lb,0,none⟩)] 135 (0,0))) (hl:w.heap[lb]?=some (.cells ((.int .u64 (mine.toNat:Int)) :: rest).toArray 142 (0,0)))
  {pv:Option Addr} (hb:w.heap[bb]?=some (.cells #[.pointer pv] 258 (0,0))) (hp:JA w o (some p) pv) :
  Calls prog 200 #[.int .i64 (i:Int), .pointer (some ⟨vl,0,none⟩), .pointer (some ⟨bb,0,none⟩)] w (XL ai w o fun v w' o'=>∃ lv,v=Ea ⟨4,mine,0,0,0,p.2⟩ lv/\Lines w' o' 0 lv p.2):=by
 obtain ⟨pp,lv,rfl,hpp,hpo,hL⟩:=hp;have al:=ae (AB (P:=prog) w 150 _ Oa);have st1:=(aj.refl ai w o).alloc (.cells DI.toArray 150) (0,0);obtain ⟨la,lc,rfl⟩:=hL.form;have mn:=KN w.drew ⟨4,mine,0,0,0,p.2⟩ la p.2.length lc;unfold DI at st1 mn;have dr:=st1.drew;have c1:=ag (cs:=[_]) ((dr.block _ (au hv) id).trans hv) 0;have c2:=ag ((dr.block _ (au hl) id).trans hl) 0;have c3:=ag (cs:=[_]) ((dr.block _ (au hb) id).trans hb) 0;have c4:=ag ((dr.block _ (au hpp) id).trans hpp) 1;simp only [ay,ax] at c1 c2 c3 c4;have hS:=aI c1 (aI c2 (aI c3 c4));have hbm:=heap_alloc_new w (.cells (Bf ⟨4,mine,0,0,0,p.2⟩ (.slice la p.2.length lc)).toArray 150);have stF:=((aj.refl ai w o).drew).alloc (.cells (Bf ⟨4,mine,0,0,0,p.2⟩ (.slice la p.2.length lc)).toArray 150) (0,0);have hF:=ae (aI stF (hL.step stF id));have mnH:=ae mn;have Amq:=ae hbm;clear st1 mn dr c1 c2 c3 c4 hv hl hb hpp hpo hL hbm stF;unfold Ea;go_enter func200,ntmps200
 go_wp2_with ((with_reducible apply AU);exact al.out;simp only [Act.put,GL,DL,lss])
 refine Aa (fun w'=>w'.cell? ⟨vl,0,none⟩=some (.pointer (some ⟨lb,0,none⟩))/\w'.cell? ⟨lb,0,none⟩=some (.int .u64 (mine.toNat:Int))/\w'.cell? ⟨bb,0,none⟩=some (.pointer (some ⟨pp,0,none⟩))/\w'.cell? ⟨pp,1,none⟩=some (.slice la p.2.length lc)) (fun i=>decide (i<9)) (by kernel_rfl) hS (fun hHeld => ?_);refine tq 0 (h:=tq 1 (h:=tq 2 (h:=tq 3 (h:=tq 4 (h:=tq 5 (h:=tq 6 (h:=tq 7 (h:=tq 8 (h:=tO 9 (h:=?_))))))))));refine AC mnH.out ?_;go_wp2_with fail;refine ⟨fun h=>by simp at h, ?_⟩;refine tD (h:=?_);go_wp2_with fail;refine bodyPost_ret (results_cell_row rfl _ _ w.heap.size 150 _ (0,0) _ rfl Amq.out underlying150 rfl FT) rfl ?_;exact ⟨_,_,rfl,hF.out.1,_,rfl,hF.out.2⟩
def Ed (t:DX):List (Nat × List UInt8):=t.map fun x=>(x.1,x.2.put)
def Ja (w:World) (o:Own) (cs:List Value) (ts:List (Nat × List UInt8)):Prop:=
 cs.length=2*ts.length/\∀ i x,ts[i]?=some x->cs[2*i]?=some (.int .i64 (x.1:Int))/\∃ bv,cs[2*i+1]?=some bv/\Bytes w o bv x.2
def Dn (w:World) (o:Own) (v:Value) (ts:List (Nat × List UInt8)):Prop:=∃ cs,sH w o v ts.length cs/\Ja w o cs ts
section
variable {T:Nat->Prop} {w w':World} {o o':Own}
theorem Ja.step {cs:List Value} {ts:List (Nat × List UInt8)} (h:Ja w o cs ts) (s:aj T w o w' o') (hT:¬ T 0):Ja w' o' cs ts:=
 ⟨h.1,fun i x hx=>by obtain ⟨a,bv,b,c⟩:=h.2 i x hx;exact ⟨a,bv,b,c.step s hT⟩⟩
theorem Ja.nil (w:World) (o:Own):Ja w o [] []:=⟨rfl,fun i x hx=>by simp at hx⟩
theorem Ja.append {c1 c2:List Value} {l1 l2:List (Nat × List UInt8)} (h1:Ja w o c1 l1) (h2:Ja w o c2 l2):Ja w o (c1++c2) (l1++l2):=by
 refine ⟨by rw [List.length_append,List.length_append,h1.1,h2.1];omega,fun i x hx => ?_⟩
 by_cases hi:i<l1.length
 ·rw [List.getElem?_append_left hi] at hx;obtain ⟨a,bv,b,c⟩:=h1.2 i x hx;exact ⟨by rw [List.getElem?_append_left (by rw [h1.1];omega)];exact a,bv,by rw [List.getElem?_append_left (by rw [h1.1];omega)];exact b,c⟩
 ·rw [List.getElem?_append_right (by omega)] at hx;obtain ⟨a,bv,b,c⟩:=h2.2 _ x hx;refine ⟨?_,bv, ?_,c⟩
  ·rw [List.getElem?_append_right (by rw [h1.1];omega),h1.1,show 2*i - 2*l1.length=2*(i - l1.length) by omega];exact a
  ·rw [List.getElem?_append_right (by rw [h1.1];omega),h1.1,show 2*i+1 - 2*l1.length=2*(i - l1.length)+1 by omega];exact b
theorem Ja.single {bv:Value} {to:Nat} {b:List UInt8} (h:Bytes w o bv b):Ja w o [.int .i64 (to:Int),bv] [(to,b)]:=by
 refine ⟨rfl,fun i x hx => ?_⟩
 match i,hx with
 | 0,hx =>
  simp only [ay,Option.some.injEq] at hx;subst hx;exact ⟨rfl,bv,rfl,h⟩
 | i+1,hx=>simp at hx
theorem Ja.one {cs:List Value} {ts:List (Nat × List UInt8)} (h:Ja w o cs ts):∀ u ∈ cs,u.oneCell'=true:=by
 intro u hu;obtain ⟨i,hi⟩:=List.mem_iff_getElem?.1 hu;have hl:i<cs.length:=(List.getElem?_eq_some_iff.1 hi).1;have hj:i / 2<ts.length:=by have:=h.1;omega
 obtain ⟨a,bv,b,c⟩:=h.2 (i / 2) _ (List.getElem?_eq_getElem hj)
 by_cases he:i % 2=0
 ·rw [show 2*(i / 2)=i by omega,hi] at a
  cases a;rfl
 ·rw [show 2*(i / 2)+1=i by omega,hi] at b
  cases b
  obtain ⟨x,y,rfl⟩:=Aq c;rfl
theorem Dn.step {v:Value} {ts:List (Nat × List UInt8)} (h:Dn w o v ts) (s:aj T w o w' o') (hT:¬ T 0):Dn w' o' v ts:=by
 obtain ⟨cs,h1,h2⟩:=h;exact ⟨cs,sH.step h1 s hT,h2.step s hT⟩
theorem Dn.nil (w:World) (o:Own):Dn w o (.slice none 0 0) []:=⟨[], .inl ⟨⟨_,_,rfl⟩,rfl,rfl⟩,Ja.nil w o⟩
theorem Dn.form {v:Value} {ts:List (Nat × List UInt8)} (h:Dn w o v ts):∃ a c,v = .slice a ts.length c:=by
 obtain ⟨cs,h1, -⟩:=h;exact Aq h1
end
def YC (to:Nat) (bv:Value):Value := .agg #[.int .i64 (to:Int),bv]
theorem AsA:((prog.info? 146).bind (·.zero)).map (·.cells)=some #[.int .i64 0, .slice none 0 0]:=by kernel_rfl
theorem fK:(prog.info? 146).map (fun i=>(i.zero.map (fun z=>z.cells.toList),i.size,i.bytes))=some (some [.int .i64 0, .slice none 0 0],2,32):=by kernel_rfl
theorem SH:(prog.info? 146).map (·.size)=some 2:=by kernel_rfl
theorem Nq (w:World) (to:Int) (bv:Value):(Instr.buildSlice 99 1 #[(0, .agg #[.int .i64 to,bv])]).run prog w = .ok (.slice (some ⟨w.heap.size,0,none⟩) 1 1) (w.alloc (.cells [.int .i64 to,bv].toArray 146)):=
 Dv w 99 146 [.int .i64 0, .slice none 0 0] (.agg #[.int .i64 to,bv]) [.int .i64 to,bv] underlying99 (by kernel_rfl) rfl (by simp) (by simp) rfl
theorem PN {w:World} {o:Own} {to:Nat} {bv:Value} {b:List UInt8} (h:Bytes w o bv b) :
  Dn (w.alloc (.cells [.int .i64 (to:Int),bv].toArray 146)) (Ak o w.heap.size (0,0)) (.slice (some ⟨w.heap.size,0,none⟩) 1 1) [(to,b)]:=by
 have hs:=(aj.refl ai w o).alloc (.cells [.int .i64 (to:Int),bv].toArray 146) (0,0);refine ⟨[.int .i64 (to:Int),bv], .inr ⟨w.heap.size,0,1,rfl,by simp,by decide,by rw [Au],by simp, ?_⟩,Ja.single (h.step hs id)⟩;exact AV (heap_alloc_new w _)
section
variable {w:World} {o:Own}
theorem LZ {base:Nat} (m:BG) (hm:m.May) {lv:Value} (hl:Lines w o base lv m.ls) (to:Nat) :
  Calls prog 136 #[.int .i64 (to:Int),Ea m lv] w (XL ai w o fun v w' o'=>∃ bv,v=YC to bv/\Bytes w' o' bv m.put):=by
 obtain ⟨la,lc,rfl⟩:=hl.form;obtain ⟨n,hn⟩:∃ n,m.ls.length=n:=⟨_,rfl⟩;rw [hn] at hl ⊢;have s1:=(aj.refl ai w o).alloc (.cells [.int .u8 (m.k:Int), .int .u64 (m.e.toNat:Int), .int .u64 (m.c.toNat:Int), .int .i64 (m.at':Int), .int .i64 (m.com:Int), .slice la n lc].toArray 150) (0,0);have b1:=heap_alloc_new w (.cells [.int .u8 (m.k:Int), .int .u64 (m.e.toNat:Int), .int .u64 (m.c.toNat:Int), .int .i64 (m.at':Int), .int .i64 (m.com:Int), .slice la n lc].toArray 150);have z1:(w.alloc (.cells [.int .u8 (m.k:Int), .int .u64 (m.e.toNat:Int), .int .u64 (m.c.toNat:Int), .int .i64 (m.at':Int), .int .i64 (m.com:Int), .slice la n lc].toArray 150)).heap.size=w.heap.size+1:=by simp
 obtain ⟨W1,hW1⟩:∃ W1,w.alloc (.cells [.int .u8 (m.k:Int), .int .u64 (m.e.toNat:Int), .int .u64 (m.c.toNat:Int), .int .i64 (m.at':Int), .int .i64 (m.com:Int), .slice la n lc].toArray 150)=W1:=⟨_,rfl⟩;rw [hW1] at s1 b1 z1;generalize Ak o w.heap.size (0,0)=o1 at *;have s2:=s1.alloc (.cells #[.int .i64 0, .slice none 0 0] 146) (0,0);have b2:(W1.alloc (.cells #[.int .i64 0, .slice none 0 0] 146)).heap[W1.heap.size]?=some (.cells [.int .i64 0, .slice none 0 0].toArray 146 (0,0)):=heap_alloc_new W1 _;have b12:=(Below.heap_alloc W1 (.cells #[.int .i64 0, .slice none 0 0] 146) w.heap.size (by omega)).trans b1;have hal:=ae (AB (P:=prog) W1 146 _ AsA);obtain ⟨W2,hW2⟩:∃ W2,W1.alloc (.cells #[.int .i64 0, .slice none 0 0] 146)=W2:=⟨_,rfl⟩;rw [hW2] at hal s2 b2 b12;rw [z1] at b2 hal;generalize Ak o1 W1.heap.size (0,0)=o2 at *;have hld:=ae (Ip (AV b12) rfl);have hpt:=Ue m hm (lv := .slice la n lc) (hl.step s2 id);unfold Ea at hpt;have AlE:=ae hpt;have hs2:=ae s2;have hb2:=ae b2;rw [<-hW1] at hal;clear hl s1 b1 z1 hW1 hW2 s2 b2 b12 hpt;unfold Ea;go_enter func136,ntmps136
 go_wp2_with (first
  | ((with_reducible apply Bo);exact hld.out;simp only [Act.put,GL,DL,lss])
  | ((with_reducible apply AU);exact hal.out;simp only [Act.put,GL,DL,lss]))
 refine AlE.out.mono ?_;rintro e w3 ⟨v3,o3,rfl,hs3,bv,rfl,hnb⟩;have hb3:=(hs3.block _ (au hb2.out) id).trans hb2.out;have hby:=hnb.bytes;have h1c:[Value.int .i64 (to:Int),bv].all (·.oneCell')=true:=by obtain ⟨xa,xc,rfl⟩:=Aq hby;rfl
 obtain ⟨hso,hsb⟩:=Ba (P:=prog) (ty:=146) (vs:=[.int .i64 (to:Int),bv]) hb3 rfl (by kernel_rfl) h1c;have Aaz:=ae hso;have Acu:=ae hsb;have AaM:=(hs2.out.trans hs3).setCells (w.heap.size+1) 0 [.int .i64 (to:Int),bv] (.inr (by omega));have hset:=(aj.refl (ak 1) w3 (fun k=>if k=w.heap.size+1 then (1,0) else o3 k)).setCells (w.heap.size+1) 0 [.int .i64 (to:Int),bv] (.inl (by simp;rfl))
 have hF:=ae (aI AaM (show Bytes (w3.setCells (w.heap.size+1) 0 [.int .i64 (to:Int),bv]) o3 bv m.put from by
  rcases hby with h | ⟨b,off,cap,q1,q2,q3,q4,q5,q6⟩
  ·exact .inl h
  ·refine .inr ⟨b,off,cap,q1,q2,q3,q4,by rw [size_setCells];exact q5,Cf q6 (ah _ _ _ _ _ ?_)⟩;rintro rfl
   rcases hnb.1.2 with ⟨h1, -⟩ | ⟨g,cap',cur,h1, -,h2, -⟩
   ·rw [h1] at q1;cases q1
   ·rw [h1] at q1;simp only [Value.slice.injEq,Option.some.injEq,Addr.mk.injEq,and_true] at q1;obtain ⟨⟨rfl, -⟩, -⟩:=q1;rw [hb3] at h2
    cases h2))
 obtain ⟨xa,xc,rfl⟩:=Aq hby;clear hso hsb AaM hset AlE hs3 hb3 hnb hby
 go_wp2_with ((with_reducible apply AC);exact Aaz.out;simp only [Act.put])
 refine bodyPost_ret (results_cell_row rfl _ _ (w.heap.size+1) 146 _ (0,0) _ rfl Acu.out underlying146 rfl SH) rfl ?_;exact ⟨_,o3,rfl,hF.out.1,_,rfl,hF.out.2⟩
variable {D M pz ps pd:Nat} {z:Am}
theorem Lt (h:Bc w o D M pz ps pd z) (hsm:small z.s.kept.lines) (hp1:1<=z.s.kept.promised.toNat) (hp2:z.s.kept.promised.toNat<=281474976710656) (src:Nat) :
  Calls prog 210 #[.pointer (some ⟨pz,0,none⟩), .int .i64 (src:Int)] w (XL ai w o fun v w' o'=>Dn w' o' v (Ed (z.BN.refuse src))):=by
 have he:=ae (RS h hsm);have hmay:=Aj.Jh hp1 hp2;clear h hsm hp1 hp2;go_enter func210,ntmps210;go_wp2_with fail;refine he.out.mono ?_;rintro e w1 ⟨v1,o1,rfl,hs1,rfl⟩;have ht:=LZ ⟨3,z.s.kept.promised,0,0,0,[]⟩ hmay (Lines.nil w1 o1 0) src;unfold Ea at ht;have nD:=ae ht;clear ht he;go_wp2_with fail;refine nD.out.mono ?_;rintro e w2 ⟨v2,o2,rfl,hs2,bv,rfl,hby⟩;have hbs:=ae (Nq w2 (src:Int) bv);have hF:=ae (aI ((hs1.trans hs2).alloc (.cells [.int .i64 (src:Int),bv].toArray 146) (0,0)) (PN (to:=src) hby));obtain ⟨ba,bc,rfl⟩:=Aq hby;clear hs1 hs2 hby nD;unfold YC
 go_wp2_with ((with_reducible apply BO #[(0, .agg #[.int .i64 (src:Int), .slice ba _ bc])] rfl);exact hbs.out;simp only [Act.put,GL,DL,lss])
 go_ret;exact ⟨_,_,rfl,hF.out.1,hF.out.2⟩
theorem OY (h:Bc w o D M pz ps pd z) (hk:z.s.kept.lines.length<=256) (hsm:small z.s.kept.lines) (e:BitVec 64) (hp1:1<=e.toNat) (hp2:e.toNat<=281474976710656) (src:Nat) :
  Calls prog 211 #[.pointer (some ⟨pz,0,none⟩), .int .i64 (src:Int), .int .u64 (e.toNat:Int)] w (XL ai w o fun v w' o'=>Dn w' o' v (Ed (z.BN.ack src e))):=by
 obtain ⟨-,rv,hb, -,hs⟩:=h;obtain ⟨⟨-, -,c2, -⟩, -⟩:=hb.cells;have hkp:=ae (DJ hs hsm);have hmay:=Aj.MO hp1 hp2 hk;have hu:z.BN.ack src e=[(src,⟨6,e,0,z.s.kept.lines.length,0,[]⟩)]:=rfl;have huH:=ae hu;clear hb hs hsm hp1 hp2 hu;go_enter func211,ntmps211;go_wp2_with fail;refine hkp.out.mono ?_;rintro e' w1 ⟨v1,o1,rfl,hs1,lv,rfl,hl,rfl⟩;obtain ⟨la,lc,rfl⟩:=hl.form;have ht:=LZ ⟨6,e,0,z.s.kept.lines.length,0,[]⟩ hmay (Lines.nil w1 (ext w o) 0) src;unfold Ea at ht;have nD:=ae ht;obtain ⟨n,hn⟩:∃ n,z.s.kept.lines.length=n:=⟨_,rfl⟩;have hfk:=He w1 (.int .u64 (z.s.kept.promised.toNat:Int)) (.int .u64 (z.s.kept.current.toNat:Int)) (.slice la n lc);unfold Dy;rw [hn] at nD huH ⊢;have hnI:(0:Int)<=(n:Int)/\(n:Int)<=256:=by omega
 clear ht hkp hl hn hmay;go_wp2_with fail;refine nD.out.mono ?_;rintro e' w2 ⟨v2,o2,rfl,hs2,bv,rfl,hby⟩;have hbs:=ae (Nq w2 (src:Int) bv);have hF:=ae (aI ((hs1.trans hs2).alloc (.cells [.int .i64 (src:Int),bv].toArray 146) (0,0)) (PN (to:=src) hby));obtain ⟨ba,bc,rfl⟩:=Aq hby;clear hs1 hs2 hby nD;unfold YC
 go_wp2_with ((with_reducible apply BO #[(0, .agg #[.int .i64 (src:Int), .slice ba _ bc])] rfl);exact hbs.out;simp only [Act.put,GL,DL,lss])
 go_ret;exact ⟨_,_,rfl,hF.out.1,by rw [huH.out];exact hF.out.2⟩
end
def Nv (w:World) (o:Own) (base:Nat) (t:Nat × Nat) (v:Value) (ts:List (Nat × List UInt8)):Prop:=
 ∃ cs,w.ownsRow base 146 2 v ts.length cs/\(∀ g,v.ownBlock=some g->o g=t)/\Ja w o cs ts
theorem Nv.nil (w:World) (o:Own) (base:Nat) (t:Nat × Nat):Nv w o base t (.slice none 0 0) []:=⟨[],World.ownsRow_nil _ _ _ _,fun g hg=>by simp [Value.ownBlock] at hg,Ja.nil w o⟩
theorem Nv.step {T:Nat->Prop} {w w':World} {o o':Own} {base:Nat} {t:Nat × Nat} {v:Value} {ts:List (Nat × List UInt8)} (h:Nv w o base t v ts) (s:aj T w o w' o') (ht:¬ T t.1) (h0:¬ T 0):Nv w' o' base t v ts:=by
 obtain ⟨cs,h1,h2,h3⟩:=h;exact ⟨cs,Ci h1 fun k hk=>s.block k (h1.lt k hk).2 (by rw [h2 k hk];exact ht),fun g hg=>by rw [s.own g (h1.lt g hg).2];exact h2 g hg,h3.step s h0⟩
theorem Nv.form {w:World} {o:Own} {base:Nat} {t:Nat × Nat} {v:Value} {ts:List (Nat × List UInt8)} (h:Nv w o base t v ts):∃ a c,v = .slice a ts.length c:=by
 obtain ⟨cs,h1, -⟩:=h;exact BA h1
theorem Bytes.ext {w w':World} {o oj:Own} {v:Value} {l:List UInt8} (h:Bytes w' oj v l) (s:aj ai w o w' oj):Bytes w' (ext w o) v l:=by
 rcases h with h | ⟨b,off,cap,q1,q2,q3,q4,q5,q6⟩
 ·exact .inl h
 ·refine .inr ⟨b,off,cap,q1,q2,q3, ?_,q5,q6⟩;unfold Go.Proofs.YtffkdillijmamaaGreat.ext;split
  ·rename_i hb;rw [<-s.own b hb];exact q4
  ·rfl
theorem Nv.outs {w w':World} {o oj:Own} {t:Nat × Nat} {v:Value} {ts:List (Nat × List UInt8)} (h:Nv w' oj w.heap.size t v ts) (s:aj ai w o w' oj):Dn w' (ext w o) v ts:=by
 obtain ⟨cs,h1, -,h3⟩:=h;refine ⟨cs, ?_,h3.1,fun i x hx => ?_⟩
 ·rcases h1.2 with ⟨rfl,h0⟩ | ⟨g,cap,cur,rfl,q1,q2,q3,q4,q5,q6⟩
  ·refine .inl ⟨⟨none,0,rfl⟩,h0, ?_⟩;apply List.eq_nil_of_length_eq_zero;rw [h1.1,h0]
  ·refine .inr ⟨g,0,cap,rfl,q3,q4, ?_,au q2, ?_⟩
   ·unfold Go.Proofs.YtffkdillijmamaaGreat.ext;rw [if_neg (by omega)]
   ·have:=BU (w:=w') (b:=g) (cs:=cur.toList) (E:=146) (fr:=(0,0)) (by simpa using q2) 0 (ts.length*2);rw [List.drop_zero,q6] at this;exact this
 ·obtain ⟨a,bv,b,c⟩:=h3.2 i x hx;exact ⟨a,bv,b,c.ext s⟩
theorem Nv.append {W:World} {o:Own} {base X:Nat} {v:Value} {ts:List (Nat × List UInt8)} (h:Nv W o base (X,0) v ts) (hX:X ≠ 0) (hbase:base<=W.heap.size) {sb:Nat} {to:Nat} {bv:Value} {b:List UInt8} (hr:W.rangeAt sb 0 [.int .i64 (to:Int),bv]) (hb:Bytes W o bv b) (hn:ts.length<=1000) :
  ∃ nv w' o',(Builtin.append_ #[99,99] 99 #[v, .slice (some ⟨sb,0,none⟩) 1 1]).run prog W = .ok nv w'/\Nv w' o' base (X,0) nv (ts++[(to,b)])/\aj (ak X) W o w' o':=by
 obtain ⟨cs,h1,ht,h3⟩:=h;have h2:Ja W o [.int .i64 (to:Int),bv] [(to,b)]:=Ja.single hb;obtain ⟨g,cap,w',hrun,hown,hgrow,hat,hlt⟩:=DD (P:=prog) W 99 99 146 underlying99 fK rfl (by omega) hbase v ts.length cs h1 sb 0 1 1 [.int .i64 (to:Int),bv] rfl hr h2.one (by omega) (by omega) (by omega);have hs:aj (ak X) W o w' (Ak o g (X,0)):=(aj.refl (ak X) W o).grown hgrow (fun k hk => .inl (by show (o k).1=X;rw [ht k hk])) g (X,0) (by
  rcases hat with hat | hat
  ·exact .inl (ht g hat)
  ·exact .inr (by omega))
 have h0:¬ ak X 0:=fun h=>hX h.symm;refine ⟨_,w',_,hrun,⟨cs++[.int .i64 (to:Int),bv],by rw [List.length_append];exact hown,fun k hk => ?_,(h3.append h2).step hs h0⟩,hs⟩;simp only [Value.ownBlock,Option.some.injEq] at hk;subst hk;exact Au _ _ _
def GX (id:Nat) (f:Nat->BG) (k:Nat):List (Nat × List UInt8):=Ed (((List.range k).filter fun i=>i != id).map fun i=>(i,f i))
theorem AhB (id:Nat) (f:Nat->BG) (k:Nat):GX id f (k+1)=if k=id then GX id f k else GX id f k++[(k,(f k).put)]:=by
 unfold GX Ed;rw [List.range_succ,List.filter_append,List.map_append,List.map_append]
 by_cases h:k=id
 ·rw [if_pos h];subst h;simp
 ·rw [if_neg h];have:(k != id)=true:=by simp [h]
  simp [this]
theorem WB (id:Nat) (f:Nat->BG) (k:Nat):(GX id f k).length<=k:=by
 unfold GX Ed;rw [List.length_map,List.length_map];have:=List.length_filter_le (fun i=>i != id) (List.range k);rw [List.length_range] at this;exact this
theorem LH {w:World} {o:Own} {D M pz ps pd:Nat} {z:Am} (h:Bc w o D M pz ps pd z) (hn3:z.n<=3) (fid:Nat) (cp:Array Value) (f:Nat->BG)
  (hcall:∀ (args:Array Value) (x:World),(callFunc fid args).run prog x = .ok (.enter fid args) x)
  (hs:∀ w1 o1,aj ai w o w1 o1->∀ i,i<z.n->i ≠ z.id->Calls prog fid (#[.int .i64 (i:Int)]++cp) w1 (XL ai w1 o1 fun v w2 o2=>∃ lv,v=Ea (f i) lv/\Lines w2 o2 0 lv (f i).ls))
  (hmay:∀ i,i<z.n->i ≠ z.id->(f i).May) :
  Calls prog 96 #[.pointer (some ⟨pz,0,none⟩), .func (.func fid) #[] cp] w (XL ai w o fun v w' o'=>Dn w' o' v (Ed (z.BN.others f))):=by
 obtain ⟨X,hX0,hXf⟩:=KT o w.heap.size 0;have hX:X ≠ 0:=by omega
 obtain ⟨-,rv,hb, -, -⟩:=h;obtain ⟨⟨-,c1, -⟩, -⟩:=hb.cells;have hfin:Ed (z.BN.others f)=GX z.id f z.n:=rfl;rw [hfin];have xZ:=ae hb;have hsH:=ae hs;have pO:=ae hmay;have WV:=ae hcall;have AvJ:=ae hXf;generalize hN:z.n=N at *;generalize hI:z.id=I at *;have hN3:(0:Int)<=(N:Int)/\(N:Int)<=3:=by omega
 have hIH:=ae hI;have Aac:=ae hfin;clear hb hs hmay hcall hXf hN hI hX0 hfin;go_enter func96,ntmps96;go_wp2_with fail;clear c1
 go_loopw [5,11] (fun out i wr=>∃ (k:Nat) (oj:Own),k<=N/\i = .int .i64 k/\aj ai w o wr oj/\Nv wr oj w.heap.size (X,0) out (GX I f k)) (fun _ i _=>N - (intOf i).toNat)
 case atStart=>exact ⟨0,o,by omega,rfl,aj.refl _ _ _,Nv.nil _ _ _ _⟩
 case round =>
  obtain ⟨k,oj,hk,rfl,hst,hrow⟩:=hrel
  by_cases hlt:k<N
  ·have AbY:(k:Int)<(N:Int):=by omega
   have hbx:=xZ.out.step hst id;obtain ⟨⟨c0, -⟩, -⟩:=hbx.cells;rw [hIH.out] at c0;have pM:=ae hrow;have Abe:=ae hst;have Att:=ae (AhB I f k);have hlen:=ae (WB I f k);clear hbx hrow hst
   by_cases hki:k=I
   ·subst hki;have hx:=ae (show GX k f (k+1)=GX k f k by rw [Att.out,if_pos rfl]);go_wp2_with fail;go_roundw
    case rel=>exact ⟨k+1,oj,by omega,by go_num,Abe.out,by rw [hx.out];exact pM.out⟩
    case measure=>simp [intOf];omega
   ·have hx:=ae (show GX I f (k+1)=GX I f k++[(k,(f k).put)] by rw [Att.out,if_neg hki]);have AnX:((k:Int) == (I:Int))=false:=by simp;omega
    have hf:=ae (hsH.out wr oj Abe.out k hlt hki);have hmk:=ae (pO.out k hlt hki);have hck:=WV.out;obtain ⟨ra,rc,rfl⟩:=pM.out.form;clear hki;go_wp2_with fail;refine hf.out.mono ?_;rintro e w1 ⟨v1,o1,rfl,hs1,lv,rfl,hl⟩;have ht:=ae (LZ (f k) hmk.out hl k);have hst1:=ae (Abe.out.trans hs1);have hrow1:=ae (pM.out.step hs1 id id);clear hs1 hl hf hck;go_wp2_with fail;refine ht.out.mono ?_;rintro e w2 ⟨v2,o2,rfl,hs2,bv,rfl,hby⟩;have hst2:=hst1.out.trans hs2;have hrow2:=hrow1.out.step hs2 id id;have hbs:(Instr.buildSlice 99 1 #[(0,YC k bv)]).run prog w2 = .ok (.slice (some ⟨w2.heap.size,0,none⟩) 1 1) (w2.alloc (.cells [.int .i64 (k:Int),bv].toArray 146)):=Nq w2 (k:Int) bv;have AaP:=ae hbs;have hsa:=(aj.refl ai w2 o2).alloc (.cells [.int .i64 (k:Int),bv].toArray 146) (0,0);have hnb:=heap_alloc_new w2 (.cells [.int .i64 (k:Int),bv].toArray 146);have hst3:=hst2.trans hsa;obtain ⟨nv,w5,o5,hrun,tK,hs5⟩:=(hrow2.step hsa id id).append hX (Nat.le_trans hst2.size hsa.size) (AV hnb) (to:=k) (hby.step hsa id) (by have:=hlen.out;omega);have Aax:=ae hrun;have AaM:aj ai w o w5 o5:=((hst3.only X).trans hs5).nobody AvJ.out;have hF:=ae (aI AaM (hx.out ▸ tK));obtain ⟨na,nc,rfl⟩:=tK.form;clear hbs hsa hnb hst3 hst2 hrow2 hrun tK hs5 hs2 AaM hby ht hst1 hrow1
    go_wp2_with (first
     | ((with_reducible apply BO #[(0,YC k bv)] rfl);exact AaP.out;simp only [Act.put,GL,DL,lss])
     | ((with_reducible apply Bl);exact Aax.out;simp only [Act.put,GL,DL,lss]))
    go_roundw
    case rel=>exact ⟨k+1,o5,by omega,by go_num,hF.out.1,hF.out.2⟩
    case measure=>simp [intOf];omega
  ·obtain rfl:N=k:=by omega
   have hF:=ae (aI (hst.Me (ext w o) (fun k hk=>if_pos hk)) (hrow.outs hst));obtain ⟨ra,rc,rfl⟩:=hrow.form;clear hst hrow;go_wp2_with fail;go_ret;exact ⟨_,_,rfl,hF.out.1,hF.out.2⟩

end Go.Proofs.YtffkdillijmamaaGreat
