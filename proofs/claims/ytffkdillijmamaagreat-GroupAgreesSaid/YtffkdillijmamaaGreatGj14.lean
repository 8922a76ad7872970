/- Layer 14, plain: what a node hears, and what is proposed, keeps what holds of nodes and messages. -/
import Derived.Test.YtffkdillijmamaaGreatGj13
namespace Go.Proofs.YtffkdillijmamaaGreat
open Go.Proofs.Tryz
set_option maxRecDepth 100000
set_option maxHeartbeats 3200000
open Go Go.RowKit
variable {z z':Am}{r:Am × DX}{mine:BitVec 64}{B B' C K K' R b b1 b2 e k pg pn q src:Nat}{m:BG}{l:List Ar}{s:AZ}{y:Aj}{w w':World}{o o':Own}{zs:List Am}{g:GN}
namespace Gh
section
variable {G:Gh}{n B:Nat}{z:Aj}{P:List UInt8->Prop}
theorem Ata.same {z':Aj}{r:Adl}(h:Ata G n z r) (q:z'.id=z.id) (u:z'.k=z.k):Ata G n z' r:=by
 simp_all [Ata]
theorem Nd.seen (h:Nd G n z) (s:BitVec 64):Nd G n { z with seen:=s }:=⟨h.kn,h.ro.same rfl rfl,h.co⟩
theorem AwG (q:G.Ok n) (h:Nd G n z) (src:Nat) (m:BG):Turn G n P z (z.BK src m):=by
 unfold Aj.BK;split
 ·exact .still q h Aoi
 split
 ·exact .still q h (AsW z src)
 split
 ·rename_i hp;have u:=(Jf hp).1;rw [GM hp];obtain ⟨G',E,F,r,J, -,-⟩:=(Next.prom (G:=G) (n:=n) (i:=z.id) (k:=z.k) m.e u).step q h.kn;obtain ⟨b,O,U⟩:=r.ini;exact ⟨G',E,F,⟨r,trivial,h.co.ext q E⟩,AsQ ⟨fun _=>⟨b,by grind,r.pre,O,U⟩,by simp,by simp,by simp⟩⟩
 ·exact .still q h Aoi
theorem Auu (h:Nd G n z) (r:NOk B z){has:List (Option (BitVec 64 × List Ar))}(W:z.BB = .stands mine has) (Y:m.k=2) (hm:MOk G n src m) (F:m.May) (hb:AP m.ls<=b) (he:mine=m.e) (hs:src ≠ z.id) :
  Nd G n { z with BB := .stands mine (has.set src (some (m.c,m.ls))) }/\NOk (B+b) { z with BB := .stands mine (has.set src (some (m.c,m.ls))) }:=by
 have J:=h.ro;have O:=r.ro;rw [W] at J O;obtain ⟨r1,r2,r3,r4,r5⟩:=J;obtain ⟨o1,o2,⟨p0,o3⟩,o4⟩:=O;have U:B<=B+b:=Nat.le_add_right _ _;refine ⟨⟨h.kn,⟨r1,r2,r3,r4,fun j c ls u=>?_⟩,h.co⟩,⟨⟨r.n1,r.n3,r.id,r.ls.mono U,r.cp,r.pt,r.se,r.co⟩,⟨o1,by grind,⟨p0,by grind⟩,fun q hq=>?_⟩⟩⟩
 ·rw [List.getElem?_set] at u;split at u
  ·split at u
   ·simp only [Option.some.injEq,Prod.mk.injEq] at u;obtain ⟨rfl,rfl⟩:=u;obtain ⟨b2,g⟩:=hm.k2 Y;grind
   grind
  grind
 ·rcases List.mem_or_eq_of_mem_set hq with E | E
  ·exact (o4 q E).mono U
  ·simp at E;subst E;exact ⟨F.n1,F.hl,by grind⟩
theorem Awe (q:G.Ok n) (h:Nd G n z) (r:NOk B z) (hn:z.n=n) (u:m.k=2) (E:MOk G n src m) (F:m.May) (hb:AP m.ls<=b) (J:src ≠ z.id):Turn G n P z (z.Bj src m):=by
 unfold Aj.Bj;split
 ·rename_i mine has hr;split
  ·exact .still q h Aoi
  ·have O:mine=m.e:=by
    grind
   split
   grind [Aj,Avd]
   ·obtain ⟨Y,h2⟩:=Auu h r hr u E F hb O J;exact Avd (z:={ z with BB := .stands mine (has.set src (some (m.c,m.ls))) }) q Y h2 hn rfl
 ·exact .still q h Aoi
theorem Awp (q:G.Ok n) (h:Nd G n z) (m:BG):Turn G n P z (z.Cj m):=by
 unfold Aj.Cj;split
 ·exact .still q h.follow Aoi
 ·exact .still q h Aoi
theorem Awk (_h:Nd G n z) (q:m.k=4) (r:MOk G n src m) (u:(z.k.Ee m.e m.ls).2=0):Next G n z.id P z.k ⟨m.e,m.e,m.ls⟩:=by
 obtain ⟨b,E,F,J⟩:=r.k4 q;obtain ⟨a1,O,-⟩:=Wn u;exact .copy m.e m.ls b a1 om E F J
theorem AwH (q:G.Ok n) (h:Nd G n z) (F:m.k=4) (J:MOk G n src m):Turn G n P z (z.BD src m):=by
 unfold Aj.BD;split
 ·exact .still q h Aoi
 split
 ·exact .still q h (AsW z src)
 split
 ·rename_i hc;refine .still q h.follow (Awm src ?_);rw [<-hc,h.kn.acc];simp
 split
 ·rename_i had;obtain ⟨G',u,E,r, -, -,-⟩:=(Awk h F J had).step q h.kn;obtain ⟨b,O,U⟩:=r.ini;obtain ⟨W,Y⟩:=(h.co.ext q u).later E (Wn had).2.1 O U r.pre;rw [IZ had];refine ⟨G',u,E,⟨r,trivial, ?_⟩,Awm (z:={ z with k:=⟨m.e,m.e,m.ls⟩,Ag:=min z.Ag m.ls.length }) src (Nat.le_of_eq r.acc.symm)⟩;show G'.Cl n m.e.toNat (min z.Ag m.ls.length) m.ls;grind
 ·exact .still q h Aoi
theorem Axv {L lines ls:List Ar}{at':Nat}(q:lines=L.take lines.length) (r:ls=(L.drop at').take ls.length) (E:at'<=lines.length):lines++ls.drop (lines.length - at')=L.take (lines++ls.drop (lines.length - at')).length:=by
 have u:ls.drop (lines.length - at')=(L.drop lines.length).take (ls.length - (lines.length - at')):=by
  grind [List.drop_take,List.drop_drop]
 grind
theorem Cl.max {c com len:Nat}{L:List Ar}(h:G.Cl n e c l) (hc:G.Cl n e com L) (hl:l=L.take l.length) (F:len<=l.length):G.Cl n e (max c (min com len)) l:=by
 rcases Nat.le_total (min com len) c with q | q
 grind
 ·rw [Nat.max_eq_right q];obtain ⟨e',r,u,E⟩:=hc.mono (Nat.le_refl _) (Nat.min_le_left com len);refine ⟨e',r,u, ?_⟩;grind
theorem AuQ (h:Nd G n z) (u:m.k=5) (E:MOk G n src m) (hp:z.k.promised=m.e) (hc:z.k.current=m.e) (F:m.at'<=z.k.lines.length) :
  Next G n z.id P z.k { z.k with lines:=z.k.lines++m.ls.drop (z.k.lines.length - m.at') }:=by
 obtain ⟨b,W,Y,J,g4⟩:=E.k5 u;obtain ⟨b0,q,i2⟩:=h.kn.ini;have r:=h.kn.pre;rw [hc] at q r;have O:Next G n z.id P z.k ⟨m.e,m.e,z.k.lines++m.ls.drop (z.k.lines.length - m.at')⟩ := .copy m.e _ b0 (by grind) (by simp) q (by grind) (Axv r J F);grind
theorem Awq (q:G.Ok n) (h:Nd G n z) (u:m.k=5) (E:MOk G n src m):Turn G n P z (z.BF src m):=by
 unfold Aj.BF;split
 ·exact .still q h Aoi
 split
 ·exact .still q h (AsW z src)
 split
 ·exact .still q h Aoi
 rename_i hpc;have hp:z.k.promised=m.e:=Classical.byContradiction fun F=>hpc (.inl F);have hc:z.k.current=m.e:=Classical.byContradiction fun F=>hpc (.inr F);obtain ⟨b,g1,g2,g3,g4⟩:=E.k5 u;have O:=h.co;have U:=h.kn.pre;have W:=h.kn.acc;rw [hc] at O U W;simp only;split
 ·exact .still q h.follow Aoi
 rename_i hat;split
 ·refine .still q ⟨h.kn,trivial, ?_⟩ (Awm (z:={ z.follow with Ag:=max z.Ag (min m.com z.k.lines.length) }) src (Nat.le_of_eq W.symm));show G.Cl n z.k.current.toNat _ z.k.lines;rw [hc];exact O.max g4 U (by simp)
 split
 ·rename_i hap;rw [Ih hap];obtain ⟨G',r,Y,J, -, -,-⟩:=(AuQ h u E hp hc om).step q h.kn;have a3:=J.pre;have a4:=J.acc;have a5:=(E.ext q r).k5 u;obtain ⟨b', -, -, -,a6⟩:=a5;refine ⟨G',r,Y,⟨J,trivial, ?_⟩,Awm (z:={ z.follow with k:={ z.k with lines:=z.k.lines++m.ls.drop (z.k.lines.length - m.at') },Ag:=max z.Ag (min m.com (z.k.lines++m.ls.drop (z.k.lines.length - m.at')).length) }) src (Nat.le_of_eq ?_)⟩
  ·show G'.Cl n z.k.current.toNat _ (z.k.lines++m.ls.drop (z.k.lines.length - m.at'));have a2:G'.Cl n z.k.current.toNat z.Ag (z.k.lines++m.ls.drop (z.k.lines.length - m.at')):=by
    obtain ⟨e',q1,q2,q3⟩:=h.co.ext q r;refine ⟨e',q1,q2, ?_⟩
    by_cases a7:z.Ag<=z.k.lines.length
    grind
    ·exfalso
     grind [Com.len]
   rw [hc] at a2 ⊢;have a8:z.k.lines++m.ls.drop (z.k.lines.length - m.at')=(G'.L m.e.toNat).take (z.k.lines++m.ls.drop (z.k.lines.length - m.at')).length:=by
    grind
   exact a2.max a6 a8 (by simp)
  ·have:G'.A z.k.current.toNat z.id=(z.k.lines++m.ls.drop (z.k.lines.length - m.at')).length:=a4;rw [hc] at this;exact this.symm
 ·exact .still q h.follow Aoi
theorem Axe (r:G.Ok n) (h:Nd G n z) (u:NOk B z) (hn:z.n=n) (O:m.k=6) (U:MOk G n src m):Turn G n P z (z.CJ src m):=by
 unfold Aj.CJ;split
 ·rename_i mine nR base ready hr;have E:=h.ro;have F:=u.ro;rw [hr] at E F;obtain ⟨W,Y,r3,r4,r5,J⟩:=E;split
  ·have ha:=U.k6 O;refine .still r (Nd.count h.kn h.co (by rw [<-hn];exact u.n1) (by rw [<-hn];exact u.n3) (by rw [List.length_set, <-hn];exact F.2.1) ⟨W,Y,r3,r4,r5,fun j a q=>?_⟩ _ _) Aoi;grind
  ·exact .still r h Aoi
 ·exact .still r h Aoi
theorem AxY (r:G.Ok n) (h:Nd G n z) (q:NOk B z) (hn:z.n=n) (E:MOk G n src m) (F:m.May) (hb:AP m.ls<=b) (O:src ≠ z.id):Turn G n P z (z.hear src m):=by
 have U:(Fj z.seen m.e).toNat<=281474976710656:=Aj.dM q.se F.e2;have u:=h.seen (Fj z.seen m.e);have J:NOk B ({ z with seen:=Fj z.seen m.e }:Aj):=⟨⟨q.n1,q.n3,q.id,q.ls,q.cp,q.pt,U,q.co⟩,q.ro⟩;have W:=F.k1;have Y:=F.k6;unfold Aj.hear;show Turn G n P ({ z with seen:=Fj z.seen m.e }:Aj) _;split
 ·exact AwG r u src m
 split
 grind [Awe]
 split
 ·exact Awp r u m
 split
 grind [AwH]
 split
 grind [Awq]
 ·exact Axe r u J hn om E
theorem AwS (h:Nd G n z){nR:List Int}{base:Nat}{ready:Bool}(u:z.BB = .leads mine nR base ready) (b:List UInt8) (hP:P b):Next G n z.id P z.k { z.k with lines:=z.k.lines++[⟨mine,b⟩] }:=by
 have r:=h.ro;rw [u] at r;obtain ⟨E,F,J,q,O,U⟩:=r;exact .own ⟨mine,b⟩ hP (by grind) (by grind) (by grind) (by grind)
theorem Axd (r:G.Ok n) (h:Nd G n z) (q:NOk B z) (hn:z.n=n) (b:List UInt8) (hP:P b):∃ G',Ext G G' n z.id P/\G'.Ok n/\Nd G' n (z.BL b).1:=by
 have still:∃ G',Ext G G' n z.id P/\G'.Ok n/\Nd G' n z:=⟨G, .refl _ _ _ _,r,h⟩;unfold Aj.BL;split
 omega
 split
 ·rename_i mine nR base hr;split
  omega
  ·split
   ·rename_i hap;have F:=h.ro;have J:=q.ro;rw [hr] at F J;obtain ⟨O,U,W,u,Y,r6⟩:=F;obtain ⟨G',E,a2,a3, -,hF,-⟩:=(AwS h hr b hP).step r h.kn;have a5:z.k.lines++[(⟨mine,b⟩:Ar)]=G'.L mine.toNat:=by
     grind
    rw [Ih hap];refine ⟨G',E,a2, ?_⟩;refine Nd.count (z:={ z with k:={ z.k with lines:=z.k.lines++[(⟨mine,b⟩:Ar)] } }) (mine:=mine) (nR:=nR) a3 ?_ (by rw [<-hn];exact q.n1) (by rw [<-hn];exact q.n3) (by rw [<-hn];exact J.2.1) (show Ata G' n _ (.leads mine nR 0 true) from ⟨O,U,W,u,a5,fun j a hj=>?_⟩) _ _
    ·obtain ⟨e',q1,q2,q3⟩:=h.co.ext r E;refine ⟨e',q1,q2, ?_⟩;rw [List.take_append_of_le_length q.co];omega
    ·have:=r6 j a hj;have:=E.A mine.toNat j;omega
   omega
 omega
end
end Gh
namespace Gh
def AwJ (k:AX):Prop:=k.lines.length<=256/\(∀ x ∈ k.lines,x.may)/\k.promised.toNat<=281474976710656
theorem AwJ.of {z:Aj}(h:NOk B z):AwJ z.k:=⟨h.ls.n,h.ls.m,h.pt⟩
theorem Axs (z:Aj) (mine:BitVec 64) (nR:List Int) (base:Nat) (ready:Bool):(z.count mine nR base ready).k=z.k:=by grind [Aj.count]
def ArJ (G:Gh) (n i:Nat) (P:List UInt8->Prop) (K:Nat) (s:AZ):Prop:=
 (s.dead || s.d.dead)=true/\s.d.row.length<=4096/\∀ Bz,∃ t:AZ,SG K t.pages t/\t.d=s.d.BJ Bz/\t.d.left = -1/\t.pages=s.pages/\(t.kept=s.kept \/ (Next G n i P s.kept t.kept/\AwJ t.kept))
section
variable {G:Gh}{n i K B:Nat}{P:List UInt8->Prop}{z:Am}
theorem AsU (h:SP K s) (Y:K+600<65536) (hk:KOk s.kept) (a:bW) (hN:(s.kept.next a).2=0->Next G n i P s.kept (s.kept.next a).1/\AwJ (s.kept.next a).1) :
  (∃ er,er ≠ 0/\er ≠ 9/\s.act a=(s,er)) \/ ((s.kept.next a).2=0/\∃ q,s.act a=(q,0)/\SP (K+3) q/\q.kept=(s.kept.next a).1/\q.pages=s.pages/\(s.d.left<0->q.d.left<0)) \/
  (0<=s.d.left/\∃ q,s.act a=(q,9)/\q.kept=s.kept/\q.pages=s.pages/\ArJ G n i P (K+600) q):=by
 rcases AZ.Zk h.sg Y hk a with ⟨F,r,u⟩ | ⟨h0,q,F,r,u,h4,J⟩ | ⟨h0,F,r⟩ | ⟨h0, -,r,q,u,h4,J,O,U,h8,h9⟩
 grind
 ·exact .inr (.inl ⟨h0,q,F, .of r,u,r.pg,J⟩)
 grind
 ·refine .inr (.inr ⟨r,q,u,O,U,by grind,h8,fun Bz=>?_⟩);obtain ⟨t,W,g2,g3, -,E⟩:=h9 Bz;have hp:t.pages=s.pages:=W.pg;grind
structure Up (G:Gh) (n K B:Nat) (z:Am):Prop where
 sp:SP K z.s
 nd:Nd G n z.BN
 ok:NOk B z.BN
 nn:z.n=n
structure Dw (G:Gh) (n:Nat) (P:List UInt8->Prop) (K B:Nat) (z:Am):Prop where
 sd:ArJ G n z.id P K z.s
 kn:Kn G n z.id z.s.kept
 cl:G.Cl n z.s.kept.current.toNat z.Ag z.s.kept.lines
 co:z.Ag<=z.s.kept.lines.length
 ls:En B z.s.kept.lines
 ep:z.s.kept.promised.toNat<=281474976710656
 nn:z.n=n/\z.id<n
def Avb (G:Gh) (n i B:Nat) (ts:DX):Prop:=(∀ t ∈ ts,MOk G n i t.2)/\Aj.EH ts/\TGB n i B ts
theorem Avb.nil (G:Gh) (n i B:Nat):Avb G n i B []:=⟨Aoi, .nil, .nil _ _ _⟩
def Aru (G:Gh) (n:Nat) (P:List UInt8->Prop) (K B:Nat) (z:Am) (r:Am × DX):Prop:=
 ∃ G',Ext G G' n z.id P/\G'.Ok n/\Avb G' n z.id B r.2/\r.1.id=z.id/\r.1.s.pages=z.s.pages /\
  ((Up G' n K B r.1/\(z.s.d.left<0->r.1.s.d.left<0)) \/ (0<=z.s.d.left/\Dw G' n P (K+600) B r.1))
theorem Aru.still (r:G.Ok n) (h:Up G n K B z) (u:K<=K') (q:z'.s=z.s) (E:Nd G n z'.BN) (F:NOk B' z'.BN) (h4:z'.id=z.id) (J:z'.n=n){ts:DX}(O:Avb G n z.id B' ts):Aru G n P K' B' z (z',ts):=
 ⟨G, .refl _ _ _ _,r,O,h4,by rw [q], .inl ⟨⟨by rw [q];exact h.sp.mono u,E,F,J⟩,by grind⟩⟩
theorem Aru.agree {q:Aj × DX}(E:Turn G n P z.BN q) (u:r.1.BN=q.1) (F:r.2=q.2) (J:NOk B' q.1) (O:Aj.EH q.2/\TGB n z.id B' q.2) (hi:q.1.id=z.id/\q.1.n=n) (U:SP K' r.1.s) (hp:r.1.s.pages=z.s.pages) (hl:z.s.d.left<0->r.1.s.d.left<0):Aru G n P K' B' z r:=by
 obtain ⟨G',W,Y,a2,hm⟩:=E;have a3:r.1.id=q.1.id:=congrArg Aj.id u;have hn:r.1.n=q.1.n:=congrArg Aj.n u;exact ⟨G',W,Y,by rw [F];exact ⟨hm,O⟩,om,hp, .inl ⟨⟨U,by grind,by grind,om⟩,hl⟩⟩
theorem Aru.Axr (r:G.Ok n) (h:Up G n K B z) (u:B<=B') (q:z'.s.kept=z.s.kept) (hp:z'.s.pages=z.s.pages) (hc:z'.Ag=z.Ag) (hi:z'.id=z.id) (hn:z'.n=n) (hl:0<=z.s.d.left) (E:ArJ G n z.id P (K'+600) z'.s){ts:DX}(F:Avb G n z.id B' ts):Aru G n P K' B' z (z',ts):=by
 refine ⟨G, .refl _ _ _ _,r,F,hi,hp, .inr ⟨hl,⟨by grind,by rw [hi,q];exact h.nd.kn,by rw [q,hc];exact h.nd.co,by rw [q,hc];exact h.ok.co,by rw [q];exact h.ok.ls.mono u,by rw [q];exact h.ok.pt,hn,by rw [hi, <-h.nn];exact h.ok.id⟩⟩⟩
theorem ArJ.mono (h:ArJ G n i P K s) (q:K<=K'):ArJ G n i P K' s:=by
 obtain ⟨r,u,E⟩:=h;refine ⟨r,u,fun Bz=>?_⟩;obtain ⟨t,F,g⟩:=E Bz;exact ⟨t,F.mono q,g⟩
theorem Axf (r:G.Ok n) (h:Up G n K B z) (hK:K+600<65536){has:List (Option (BitVec 64 × List Ar))}(J:z.BB = .stands mine has):Aru G n P (K+3) B z (z.lead mine has):=by
 have hT:=Avd (P:=P) r h.nd h.ok h.nn (show z.BN.BB = .stands mine has from J);obtain ⟨U,a2,-⟩:=Aj.XN h.ok (show z.BN.BB = .stands mine has from J);have W:=(Aj.YN z.BN mine has).2;have a3:=h.ok.ro;rw [show z.BN.BB = .stands mine has from J] at a3;have a8:=Aj.Anl z.BN mine (has:=has) (B:=B) fun p hp=>(a3.2.2.2 p hp).b;have a4:TGB n z.id B (z.BN.lead mine has).2:=by have:=a8;rw [show z.BN.n=n from h.nn] at this;exact this
 have a5:Aru G n P (K+3) B z (z,[]) := .still r h (by simp) rfl h.nd h.ok rfl h.nn (.nil _ _ _ _);unfold Am.lead
 by_cases hq:2*(has.filter Option.isSome).length<=z.n
 grind
 rw [if_neg hq]
 cases hb:Qr has with
 | none=>omega
 | some p =>
  simp only;obtain ⟨a9,-⟩:=AwB (P:=P) r h.nd h.ok h.nn (show z.BN.BB = .stands mine has from J) hq hb;have b1:z.BN.k=z.s.kept:=rfl;have a6:(z.BN.k.Ee mine p.2).2=0->z.BN.lead mine has=(({ z.BN with k:=(z.BN.k.Ee mine p.2).1,Ag:=min z.BN.Ag p.2.length }:Aj).count mine (List.replicate z.BN.n (-1)) p.2.length false,z.BN.others fun _=>⟨4,mine,0,0,0,p.2⟩):=by
   intro b2;unfold Aj.lead;rw [if_neg (show ¬ 2*(has.filter Option.isSome).length<=z.BN.n from hq),hb];grind
  rcases AsU (G:=G) (n:=n) (i:=z.id) (P:=P) h.sp hK h.ok.toN0.kok ⟨1,mine,p.2⟩ (fun h0=>by
    have a7:(z.s.kept.Ee mine p.2).2=0:=h0;have:(z.s.kept.next ⟨1,mine,p.2⟩).1=(z.s.kept.Ee mine p.2).1:=rfl;have O:=AwJ.of U;rw [a6 a7] at O;dsimp only at O;rw [Axs] at O;refine ⟨?_,by grind⟩;rw [this,IZ a7];exact a9) with ⟨er,u, -,E⟩ | ⟨u,q,E,Y,h4,h5,h6⟩ | ⟨u,q,E,Y,h4,h5⟩
  ·have F:z.s.FO mine p.2=(z.s,er):=E;rw [F,if_neg u];exact .still (z':=z.follow) r h (by simp) rfl h.nd.follow (Aj.Gv h.ok.toN0) rfl h.nn (.nil _ _ _ _)
  ·have F:z.s.FO mine p.2=(q,0):=E;have b3:(z.s.kept.Ee mine p.2).2=0:=u;have b4:q.kept=(z.s.kept.Ee mine p.2).1:=h4;rw [F,if_pos rfl];rw [a6 b3] at hT U a2 W a4;obtain ⟨c1,c2⟩:=Am.LG ({ z with s:=q,Ag:=min z.Ag p.2.length }:Am) mine (List.replicate z.n (-1)) p.2.length false;refine .agree hT ?_ rfl U ⟨a2,a4⟩ ⟨W.1,W.2.trans h.nn⟩ ?_ ?_ ?_
   ·rw [c1,b1, <-b4];rfl
   grind
   grind
   grind
  ·have F:z.s.FO mine p.2=(q,9):=E;rw [F,if_neg (by simp)];have h6:ArJ G n z.id P (K+3+600) q:=h5.mono (by simp);exact .Axr (z':=({ z with s:=q }:Am).follow) r h (by simp) Y h4 rfl rfl h.nn u h6 (.nil _ _ _ _)
theorem AxS (U:G.Ok n) (h:Up G n K B z) (hK:K+606<65536):Aru G n P (K+6) B z z.stand:=by
 have a2:z.BN.k=z.s.kept:=rfl;have e1:z.BN.seen=z.seen:=rfl;have e2:z.BN.id=z.id:=rfl;have e3:z.BN.n=z.n:=rfl;unfold Am.stand;simp only
 by_cases h0:PQ (Fj z.s.kept.promised z.seen) z.id z.n=0
 ·rw [if_pos h0];exact .still U h (by simp) rfl h.nd h.ok rfl h.nn (.nil _ _ _ _)
 rw [if_neg h0];obtain ⟨e,Y⟩:=az (PQ (Fj z.s.kept.promised z.seen) z.id z.n);have a3:=AvQ (P:=P) h.nd h.ok h.nn h0;rw [a2,e1,e2,e3,Y] at a3;obtain ⟨G1,b3,b4,a4⟩:=AwT (P:=P) U h.nd h.ok h.nn h0;rw [a2,e1,e2,e3,Y] at a4;rw [Y];have b5:TGB n z.id B (z.BN.others fun _=>⟨1,e,0,0,0,[]⟩):=by
  have:=TGB.others (B:=B) z.BN (fun _=>⟨1,e,0,0,0,[]⟩) fun _=>Nat.zero_le _;rw [show z.BN.n=n from h.nn] at this;grind
 rcases AsU (G:=G) (n:=n) (i:=z.id) (P:=P) h.sp om h.ok.toN0.kok ⟨0,e,[]⟩ (fun b6=>by
   have a5:(z.s.kept.CQ e).2=0:=b6;have:(z.s.kept.next ⟨0,e,[]⟩).1=(z.s.kept.CQ e).1:=rfl;rw [this,GM a5];exact ⟨a3,h.ok.ls.n,h.ok.ls.m,(Jf a5).2⟩) with ⟨er,E, -,F⟩ | ⟨E,r,F,h3,h4,h5,W⟩ | ⟨E,r,F,h3,h4,h5⟩
 ·have J:z.s.promise e=(z.s,er):=F;rw [J,if_neg E];exact .still (z':=z) U h (by simp) rfl h.nd h.ok rfl h.nn (.nil _ _ _ _)
 ·have J:z.s.promise e=(r,0):=F;have a6:(z.s.kept.CQ e).2=0:=E;have a7:r.kept=(z.s.kept.CQ e).1:=h4;rw [GM a6] at a7;rw [J,if_pos rfl];have a8:=Jf a6;obtain ⟨q,u⟩:∃ q:Am,({ z with s:=r,BB := .stands e ((List.replicate z.n none).set z.id (some (z.s.kept.current,z.s.kept.lines))),waited:=0 }:Am)=q:=⟨_,rfl⟩;have a9:q.BN=stood z.BN e:=by
   rw [<-u];show Aj.mk z.id z.n r.kept _ _ _ _=_;rw [a7];rfl
  have b7:q.BB = .stands e ((List.replicate z.n none).set z.id (some (z.s.kept.current,z.s.kept.lines))):=by grind
  have hu:Up G1 n (K+3) B q:=⟨by grind,by grind,by rw [a9];exact AkM h.ok a8,by rw [<-u];exact h.nn⟩;obtain ⟨G2,b1,b8,⟨m1,m2,m3⟩,k1,k2,O⟩:=Axf (P:=P) b4 hu om b7;have b9:q.id=z.id:=by grind
  rw [b9] at b1 m1 m3 k1;have c0:Aj.EH (z.BN.others fun _=>⟨1,e,0,0,0,[]⟩) := .others fun i _=>Aj.Rz om a8.2;have b2:q.s.d.left=r.d.left:=by grind
  suffices fin:Aru G n P (K+6) B z ((q.lead e ((List.replicate z.n none).set z.id (some (z.s.kept.current,z.s.kept.lines)))).1,(z.BN.others fun _=>⟨1,e,0,0,0,[]⟩)++(q.lead e ((List.replicate z.n none).set z.id (some (z.s.kept.current,z.s.kept.lines)))).2) by
   grind
  refine ⟨G2,b3.trans b1,b8,⟨AwN (ArZ z.BN _ fun i _=>.other (show ¬ 1=2 by simp) (show ¬ 1=4 by simp) (show ¬ 1=5 by simp) (show ¬ 1=6 by simp)) m1,c0.append m2,b5.append m3⟩,k1, ?_, ?_⟩
  grind
  grind
 ·have J:z.s.promise e=(r,9):=F;rw [J,if_neg (by simp)];have W:ArJ G n z.id P (K+6+600) r:=h5.mono (by simp);exact .Axr (z':=({ z with s:=r }:Am)) U h (by simp) h3 h4 rfl rfl h.nn E W (.nil _ _ _ _)
theorem Nd.wait {z:Aj}(h:Nd G n z) (w:Nat):Nd G n { z with waited:=w }:=⟨h.kn,h.ro.same rfl rfl,h.co⟩
theorem Ayj (q:G.Ok n) (h:Up G n K B z) (J:K+606<65536):Aru G n P (K+6) B z z.tick:=by
 have u:∀ z:Am,Up G n K B z->Aru G n P (K+6) B z (if 3+2*z.id<z.waited+1 then ({ z with waited:=z.waited+1 }:Am).stand else (({ z with waited:=z.waited+1 }:Am),[])):=by
  intro z h;have r:Up G n K B ({ z with waited:=z.waited+1 }:Am):=⟨h.sp,h.nd.wait _,⟨⟨h.ok.n1,h.ok.n3,h.ok.id,h.ok.ls,h.ok.cp,h.ok.pt,h.ok.se,h.ok.co⟩,h.ok.ro⟩,h.nn⟩;split
  ·exact AxS (z:={ z with waited:=z.waited+1 }) q r J
  ·exact .still (z':={ z with waited:=z.waited+1 }) q h (by simp) rfl r.nd r.ok rfl h.nn (.nil _ _ _ _)
 have O:=AxX (P:=P) q h.nd h.ok h.nn;obtain ⟨U,W,-⟩:=Aj.dA h.ok;have E:=Aj.ApA z.BN;have F:=Aj.Asn h.ok;rw [show z.BN.n=n from h.nn] at F E;obtain ⟨id,nn,s,BB,waited,seen,Ag⟩:=z
 cases BB with
 | follows=>exact u _ h
 | stands a b=>exact u _ h
 | leads mine nR base ready=>exact .agree O rfl rfl U ⟨W,F⟩ E (h.sp.mono (by simp)) rfl (fun hl=>hl)
end
end Gh
namespace Gh
section
variable {G:Gh}{n i K B b:Nat}{P:List UInt8->Prop}{z:Am}
theorem Avb.one (r:MOk G n i m) (u:m.May) (q:src<n/\src ≠ i) (h4:AP m.ls<=B):Avb G n i B [(src,m)]:=⟨AsQ r, .one u, .one q.1 q.2 h4⟩
theorem Up.refuse (h:Up G n K B z) (q:src<n/\src ≠ z.id){e:BitVec 64}(r:1<=e.toNat/\e.toNat<=z.s.kept.promised.toNat) (B':Nat):Avb G n z.id B' (z.BN.refuse src):=
 .one (.other (by simp) (by simp) (by simp) (by simp)) (Aj.Jh (by show 1<=z.s.kept.promised.toNat;omega) h.ok.pt) q (Nat.zero_le _)
theorem Up.ack (h:Up G n K B z) (u:src<n/\src ≠ z.id){e:BitVec 64}(q:1<=e.toNat/\e.toNat<=281474976710656) (hc:z.s.kept.current=e) (B':Nat):Avb G n z.id B' (z.BN.ack src e):=by
 have r:=h.nd.kn.acc;rw [show z.BN.k.current=e from hc] at r;exact .one (Awm (z:=z.BN) src (Nat.le_of_eq r.symm) (src,_) (by simp [Aj.ack])) (Aj.MO q.1 q.2 h.ok.ls.n) u (Nat.zero_le _)
theorem Aru.act (W:G.Ok n) (h:Up G n K B z) (Y:K+600<65536) (a2:K+3<=K') (hB:B<=B') (a:bW){q:Aj × DX}(hN:(z.s.kept.next a).2=0->Next G n z.id P z.s.kept (z.s.kept.next a).1) (r:AZ × Int->Am × DX)
  (hT:Turn G n P z.BN q) (F:NOk B' q.1) (ht:Aj.EH q.2/\TGB n z.id B' q.2) (hi:q.1.id=z.id/\q.1.n=n)
  (h1:∀ er,er ≠ 0->Aru G n P K' B' z (r (z.s,er)))
  (J:∀ u,(z.s.kept.next a).2=0->u.kept=(z.s.kept.next a).1->(r (u,0)).1.BN=q.1/\(r (u,0)).2=q.2/\(r (u,0)).1.s=u)
  (h3:∀ u,u.kept=z.s.kept->(r (u,9)).2=[]/\(r (u,9)).1.s=u/\(r (u,9)).1.Ag=z.Ag/\(r (u,9)).1.id=z.id/\(r (u,9)).1.n=z.n):Aru G n P K' B' z (r (z.s.act a)):=by
 rcases AsU (G:=G) (n:=n) (i:=z.id) (P:=P) h.sp Y h.ok.toN0.kok a (fun h0=>⟨hN h0,by
  have:=J { z.s with kept:=(z.s.kept.next a).1 } h0 rfl;have O:=AwJ.of F;rw [<-this.1] at O;have U:AwJ (r (_,0)).1.s.kept:=O;grind⟩) with ⟨er,g1, -,g2⟩ | ⟨g1,u,g2,g3,g4,g5,g6⟩ | ⟨g1,u,g2,g3,g4,g5⟩
 grind
 ·rw [g2];obtain ⟨k1,k2,E⟩:=J u g1 g4;exact .agree hT k1 k2 F ht hi (by rw [E];exact g3.mono a2) (by grind) (by grind)
 ·obtain ⟨k1,k2,E,k4,k5⟩:=h3 u g3;have h6:ArJ G n z.id P (K'+600) u:=g5.mono om;have:=Aru.Axr (P:=P) (K':=K') (B':=B') W h hB (z':=(r (u,9)).1) (by grind) (by grind) E k4 (k5.trans h.nn) g1 (by grind) (ts:=[]) (.nil _ _ _ _);grind
theorem Ayv (hG:G.Ok n) (h:Up G n K B z) (hK:K+600<65536) (hs:src<n/\src ≠ z.id) (hm:MOk G n src m) (a2:m.May) (hb:AP m.ls<=b):Aru G n P (K+3) (B+b) z (z.hear src m):=by
 have b3:=AxY (P:=P) hG h.nd h.ok h.nn hm a2 hb hs.2;obtain ⟨E,F,-⟩:=Aj.dX h.ok (src:=src) a2 b hb;have a5:=Aj.Arx z.BN src m;have a6:=Aj.AsG h.ok (src:=src) (by rw [show z.BN.n=n from h.nn];omega) hs.2 hb;rw [show z.BN.n=n from h.nn] at a6 a5;have a3:B<=B+b:=Nat.le_add_right _ _;have b8:(Fj z.seen m.e).toNat<=281474976710656:=Aj.dM h.ok.se a2.e2;have r:Up G n K B ({ z with seen:=Fj z.seen m.e }:Am):=⟨h.sp,h.nd.seen _,⟨⟨h.ok.n1,h.ok.n3,h.ok.id,h.ok.ls,h.ok.cp,h.ok.pt,b8,h.ok.co⟩,h.ok.ro⟩,h.nn⟩;rw [Aj.MZ] at b3 E F a5 a6;unfold Am.hear;have hy:({ z.BN with seen:=Fj z.BN.seen m.e }:Aj)=({ z with seen:=Fj z.seen m.e }:Am).BN:=rfl;rw [hy] at b3 E F a5 a6;show Aru G n P (K+3) (B+b) ({ z with seen:=Fj z.seen m.e }:Am) _;have J:Turn G n P ({ z with seen:=Fj z.seen m.e }:Am).BN _:=b3;have a7:src<n/\src ≠ ({ z with seen:=Fj z.seen m.e }:Am).id:=hs;have O:_=({ z with seen:=Fj z.seen m.e }:Am).id/\_:=a5;have U:TGB n ({ z with seen:=Fj z.seen m.e }:Am).id _ _:=a6;clear b3 a5 a6 hs b8 hy;generalize ({ z with seen:=Fj z.seen m.e }:Am)=y at *;clear h;have b6:y.BN.k=y.s.kept:=rfl;have W:∀ ts,Avb G n y.id (B+b) ts->Aru G n P (K+3) (B+b) y (y,ts):=fun ts ht=>.still hG r (by simp) rfl r.nd (r.ok.mono a3) rfl r.nn ht;have b4:∀ ts,Avb G n y.id (B+b) ts->Aru G n P (K+3) (B+b) y (y.follow,ts):=fun ts ht=>.still (z':=y.follow) hG r (by simp) rfl r.nd.follow (Aj.Gv (r.ok.mono a3).toN0) rfl r.nn ht;have nil:=Avb.nil G n y.id (B+b);unfold Am.Ec;unfold Aj.Ec at J E F O U;split
 ·rename_i hk;rw [if_pos hk] at J E F O U;unfold Am.BK;split
  grind
  rename_i how;split
  ·rename_i hle;exact W _ (r.refuse a7 ⟨a2.e1,hle⟩ _)
  rename_i hle;have hq:y.BN.BK src m=if (y.BN.k.CQ m.e).2=0 then (({ y.BN with k:=(y.BN.k.CQ m.e).1 }:Aj).follow,[(src,⟨2,m.e,y.BN.k.current,0,0,y.BN.k.lines⟩)]) else (y.BN,[]):=by
   simp_all [Aj.BK,if_neg]
  refine Aru.act (q:=y.BN.BK src m) hG r hK (by simp) a3 ⟨0,m.e,[]⟩ (fun h0=>?_) (fun p=>if p.2=0 then (({ y with s:=p.1 }:Am).follow,[(src,⟨2,m.e,y.s.kept.current,0,0,y.s.kept.lines⟩)]) else ({ y with s:=p.1 },[])) J E ⟨F,U⟩ O (fun er a8=>?_) (fun s' h0 a9=>?_) (fun s' _=>?_)
  ·have Y:(y.s.kept.CQ m.e).2=0:=h0;have:(y.s.kept.next ⟨0,m.e,[]⟩).1=(y.s.kept.CQ m.e).1:=rfl;rw [this,GM Y];exact .prom _ (Jf Y).1
  simp_all
  ·have Y:(y.s.kept.CQ m.e).2=0:=h0;have b1:s'.kept=(y.s.kept.CQ m.e).1:=a9;dsimp only;rw [if_pos rfl,hq,b6,if_pos Y, <-b1];exact ⟨rfl,rfl,rfl⟩
  simp
 rename_i AzJ;rw [if_neg AzJ] at J E F O U;split
 ·rename_i hk;unfold Am.Bj
  cases hr:y.BB with
  | follows=>grind
  | leads a b c d=>grind
  | stands mine has =>
   simp only;split
   grind
   ·rename_i hc;have he:mine=m.e:=Classical.byContradiction fun b2=>hc (.inl b2);split
    ·have hz:({ y with BB := .stands mine has }:Am)=y:=by rw [<-hr]
     rw [hz];obtain ⟨G',q1,q2,⟨q3,q4,q5⟩,q6,q7,q8⟩:=Axf (P:=P) hG r hK hr;refine ⟨G',q1,q2,⟨q3,q4,q5.mono a3⟩,q6,q7, ?_⟩
     rcases q8 with ⟨u,q9⟩ | ⟨q9,u⟩
     ·exact .inl ⟨⟨u.sp,u.nd,u.ok.mono a3,u.nn⟩,q9⟩
     ·exact .inr ⟨q9,⟨u.sd,u.kn,u.cl,u.co,u.ls.mono a3,u.ep,u.nn⟩⟩
    ·obtain ⟨k1,k2⟩:=Auu (z:=y.BN) r.nd r.ok hr hk hm a2 hb he a7.2;have b9:Up G n K (B+b) ({ y with BB := .stands mine (has.set src (some (m.c,m.ls))) }:Am):=⟨r.sp,k1,k2,r.nn⟩;exact Axf (P:=P) hG b9 hK rfl
 rename_i AzF;rw [if_neg AzF] at J E F O U;split
 grind [Am.Cj]
 rename_i AzE;rw [if_neg AzE] at J E F O U;split
 ·rename_i hk;rw [if_pos hk] at J E F O U;unfold Am.BD;split
  grind
  rename_i how;split
  ·rename_i hle;exact W _ (r.refuse a7 ⟨a2.e1,om⟩ _)
  rename_i hle;split
  ·rename_i hc;exact b4 _ (r.ack a7 ⟨a2.e1,a2.e2⟩ hc _)
  rename_i hc;have hq:y.BN.BD src m=if (y.BN.k.Ee m.e m.ls).2=0 then (({ y.BN with k:=(y.BN.k.Ee m.e m.ls).1,Ag:=min y.BN.Ag m.ls.length }:Aj).follow,({ y.BN with k:=(y.BN.k.Ee m.e m.ls).1,Ag:=min y.BN.Ag m.ls.length }:Aj).ack src m.e) else (y.BN,[]):=by
   simp_all [Aj.BD,if_neg]
  refine Aru.act (q:=y.BN.BD src m) hG r hK (by simp) a3 ⟨1,m.e,m.ls⟩ (fun h0=>?_) (fun p=>if p.2=0 then (({ y with s:=p.1,Ag:=min y.Ag m.ls.length }:Am).follow,({ y with s:=p.1,Ag:=min y.Ag m.ls.length }:Am).BN.ack src m.e) else ({ y with s:=p.1 },[])) J E ⟨F,U⟩ O (fun er a8=>?_) (fun s' h0 a9=>?_) (fun s' _=>?_)
  ·have Y:(y.s.kept.Ee m.e m.ls).2=0:=h0;have:(y.s.kept.next ⟨1,m.e,m.ls⟩).1=(y.s.kept.Ee m.e m.ls).1:=rfl;rw [this,IZ Y];exact Awk (z:=y.BN) r.nd hk hm Y
  simp_all
  ·have Y:(y.s.kept.Ee m.e m.ls).2=0:=h0;have b1:s'.kept=(y.s.kept.Ee m.e m.ls).1:=a9;dsimp only;rw [if_pos rfl,hq,b6,if_pos Y, <-b1];exact ⟨rfl,rfl,rfl⟩
  simp
 rename_i Azv;rw [if_neg Azv] at J E F O U;split
 ·rename_i hk;rw [if_pos hk] at J E F O U;unfold Am.BF;split
  grind
  rename_i how;split
  ·rename_i hle;exact W _ (r.refuse a7 ⟨a2.e1,om⟩ _)
  rename_i hle;split
  grind
  rename_i hpc;have hp:y.BN.k.promised=m.e:=Classical.byContradiction fun b2=>hpc (.inl b2);have hc:y.BN.k.current=m.e:=Classical.byContradiction fun b2=>hpc (.inr b2);simp only;split
  grind
  rename_i hat;obtain ⟨more,b7⟩:=az (m.ls.drop (y.s.kept.lines.length - m.at'));have a4:y.BN.BF src m=(let z1:=y.BN.follow
    if more=[] then
     ({ z1 with Ag:=max y.BN.Ag (min m.com y.BN.k.lines.length) },({ z1 with Ag:=max y.BN.Ag (min m.com y.BN.k.lines.length) }:Aj).ack src m.e)
    else if (y.BN.k.Cm more).2=0 then
     ({ z1 with k:=(y.BN.k.Cm more).1,Ag:=max y.BN.Ag (min m.com (y.BN.k.Cm more).1.lines.length) },({ z1 with k:=(y.BN.k.Cm more).1,Ag:=max y.BN.Ag (min m.com (y.BN.k.Cm more).1.lines.length) }:Aj).ack src m.e)
    else (z1,[])):=by
   simp_all [Aj.BF,if_neg]
  rw [b7]
  by_cases b5:more=[]
  ·rw [if_pos b5];simp only at a4;rw [if_pos b5] at a4;exact .agree J (by rw [a4];rfl) (by rw [a4];rfl) E ⟨F,U⟩ O (r.sp.mono (by simp)) rfl (fun hl=>hl)
  rw [if_neg b5];simp only at a4;rw [if_neg b5] at a4;refine Aru.act (q:=y.BN.BF src m) hG r hK (by simp) a3 ⟨2,0,more⟩ (fun h0=>?_) (fun p=>if p.2=0 then (({ y.follow with s:=p.1,Ag:=max y.Ag (min m.com p.1.kept.lines.length) }:Am),({ y.follow with s:=p.1,Ag:=max y.Ag (min m.com p.1.kept.lines.length) }:Am).BN.ack src m.e) else ({ y.follow with s:=p.1 },[])) J E ⟨F,U⟩ O (fun er a8=>?_) (fun s' h0 a9=>?_) (fun s' _=>?_)
  ·have Y:(y.s.kept.Cm more).2=0:=h0;have:(y.s.kept.next ⟨2,0,more⟩).1=(y.s.kept.Cm more).1:=rfl;rw [this,Ih Y, <-b7];exact AuQ (z:=y.BN) r.nd hk hm hp hc (by grind)
  ·dsimp only;rw [if_neg a8];exact b4 _ nil
  ·have Y:(y.s.kept.Cm more).2=0:=h0;have b1:s'.kept=(y.s.kept.Cm more).1:=a9;dsimp only;rw [if_pos rfl,a4,b6,if_pos Y, <-b1];exact ⟨rfl,rfl,rfl⟩
  ·dsimp only;rw [if_neg (by simp)];exact ⟨rfl,rfl,rfl,rfl,rfl⟩
 ·rename_i hk;rw [if_neg hk] at J E F O U;have hq:(y.CJ src m).1.BN=(y.BN.CJ src m).1/\(y.CJ src m).2=(y.BN.CJ src m).2/\(y.CJ src m).1.s=y.s:=by
   unfold Am.CJ Aj.CJ;have hr:y.BN.BB=y.BB:=rfl;rw [hr]
   cases c6:y.BB with
   | follows=>simp
   | stands a b=>simp
   | leads mine nR base ready =>
    simp only;split
    simp_all [Am.LG]
    simp
  obtain ⟨c1,c2,c3⟩:=hq;exact .agree J c1 c2 E ⟨F,U⟩ O (by rw [c3];exact r.sp.mono (by simp)) (by grind) (by grind)
theorem Axx (hG:G.Ok n) (h:Up G n K B z) (hK:K+600<65536) (l:List UInt8) :
  ((z.BL l).2 ≠ 0/\(z.BL l).2 ≠ 9/\(z.BL l).1=z) \/ (((z.BL l).2=0 \/ (z.BL l).2=9)/\(P l->Aru G n P (K+3) (B+l.length) z ((z.BL l).1,[]))):=by
 have a5:B<=B+l.length:=Nat.le_add_right _ _;unfold Am.BL
 by_cases hb:l.length=0 \/ 4096<l.length
 grind
 rw [if_neg hb]
 cases J:z.BB with
 | follows=>simp
 | stands a b=>simp
 | leads mine nR base ready =>
  cases ready with
  | false=>simp
  | true =>
   simp only;rw [<-J]
   by_cases U:256<=z.s.kept.lines.length
   grind
   rw [if_neg U]
   by_cases hP:P l
   ·have W:=(Aj.AiK h.ok l).1;have Y:=Aj.AjV z.BN l;obtain ⟨G',hx,a6,a3⟩:=Axd (P:=P) hG h.nd h.ok h.nn l hP;have hq:z.BN.BL l=if (z.BN.k.Cm [⟨mine,l⟩]).2=0 then (({ z.BN with k:=(z.BN.k.Cm [⟨mine,l⟩]).1 }:Aj).count mine nR base true,0) else (z.BN,(z.BN.k.Cm [⟨mine,l⟩]).2):=by
     unfold Aj.BL;rw [if_neg hb,show z.BN.BB = .leads mine nR base true from J];simp only;rw [if_neg (show ¬ 256<=z.BN.k.lines.length from U), <-(show z.BN.BB = .leads mine nR base true from J)]
    rcases AsU (G:=G) (n:=n) (i:=z.id) (P:=P) h.sp hK h.ok.toN0.kok ⟨2,0,[⟨mine,l⟩]⟩ (fun h0=>by
      have a4:(z.s.kept.Cm [⟨mine,l⟩]).2=0:=h0;have:(z.s.kept.next ⟨2,0,[⟨mine,l⟩]⟩).1=(z.s.kept.Cm [⟨mine,l⟩]).1:=rfl;have O:=AwJ.of W;rw [hq,show z.BN.k=z.s.kept from rfl,if_pos a4] at O;dsimp only at O;rw [Axs] at O;refine ⟨?_,by grind⟩;rw [this,Ih a4];exact AwS (z:=z.BN) h.nd (show z.BN.BB = .leads mine nR base true from J) l hP) with ⟨er,u,a2,F⟩ | ⟨u,q,F,E,h4,h5,h6⟩ | ⟨u,q,F,E,h4,h5⟩
    ·have r:z.s.append [⟨mine,l⟩]=(z.s,er):=F;rw [r,if_neg u];grind
    ·have r:z.s.append [⟨mine,l⟩]=(q,0):=F;have a2:(z.s.kept.Cm [⟨mine,l⟩]).2=0:=u;have a7:q.kept=(z.s.kept.Cm [⟨mine,l⟩]).1:=h4;rw [r,if_pos rfl];refine .inr ⟨.inl rfl,fun _=>?_⟩;rw [hq,show z.BN.k=z.s.kept from rfl,if_pos a2, <-a7] at W Y a3;obtain ⟨c1,c2⟩:=Am.LG ({ z with s:=q }:Am) mine nR base true;have e1:(({ z with s:=q }:Am).count mine nR base true).BN=(({ z.BN with k:=q.kept }:Aj).count mine nR base true):=c1;refine ⟨G',hx,a6, .nil _ _ _ _,(congrArg Aj.id e1).trans Y.1,by grind, .inl ⟨⟨by grind,by grind,by grind,((congrArg Aj.n e1).trans Y.2).trans h.nn⟩,by grind⟩⟩
    ·have r:z.s.append [⟨mine,l⟩]=(q,9):=F;rw [r,if_neg (by simp)];have h7:ArJ G n z.id P (K+3+600) q:=h5.mono (by simp);exact .inr ⟨.inr rfl,fun _=>.Axr (z':=({ z with s:=q }:Am)) hG h a5 E h4 rfl rfl h.nn u h7 (.nil _ _ _ _)⟩
   ·rcases AZ.Zk h.sp.sg hK h.ok.toN0.kok ⟨2,0,[⟨mine,l⟩]⟩ with ⟨-, -,E⟩ | ⟨-,q,u,-⟩ | ⟨-,u,-⟩ | ⟨-, -, -,q,E,-⟩
    ·have r:z.s.append [⟨mine,l⟩]=(z.s,1):=E;rw [r,if_neg (by simp)];simp
    ·have r:z.s.append [⟨mine,l⟩]=(q,0):=u;grind
    ·have r:z.s.append [⟨mine,l⟩]=(z.s,4):=u;rw [r,if_neg (by simp)];simp
    ·have r:z.s.append [⟨mine,l⟩]=(q,9):=E;grind
end
end Gh
theorem Ago.without {n:Nat}{l:List (Nat × Nat × BG)}(h:Ago n B l):Ago n B (l.take k++l.drop (k+1)):=by
 refine ⟨?_,fun x q=>?_⟩
 ·have:=h.1;grind
 ·rcases List.mem_append.1 q with q | q
  ·exact h.2 x (by grind)
  ·exact h.2 x (by grind)
theorem AiT (n k:Nat) (l:List (Nat × Nat × BG)) (cut:List (Nat × Nat × Bool)):(⟨n,Ua l,cut⟩:GN).without k=⟨n,Ua (l.take k++l.drop (k+1)),cut⟩:=by
 simp [GN.without,Ua,List.map_take,List.map_drop]
theorem Asm {l:List (Nat × Nat × BG)}{x:Nat × Nat × BG}(h:l[k]?=some x) (q:k<(Ua l).length):(Ua l)[k]=⟨x.1,x.2.1,x.2.2.put⟩:=by
 have:(Ua l)[k]?=some ⟨x.1,x.2.1,x.2.2.put⟩:=by grind [Ua]
 grind
namespace PG
def cuts (p:PG) (a b:Nat):Bool:=GN.cutAt p.cut (min a b) (max a b)
def tick (p:PG) (i:Nat):PG × Int:=
 match p.ys[i]?,p.off[i]? with
 | some y,some false=>({ p with ys:=p.ys.set i y.tick.1,ls:=AjN p.ls i y.tick.2 },0)
 | _,_=>(p,9)
def take (p:PG) (k:Nat):PG × Int:=
 match p.ls[k]? with
 | none=>(p,1)
 | some x =>
  if p.cuts x.1 x.2.1=true then (p,65) else
  match p.ys[x.2.1]?,p.off[x.2.1]? with
  | some y,some false=>({ p with ys:=p.ys.set x.2.1 (y.hear x.1 x.2.2).1,ls:=AjN (p.ls.take k++p.ls.drop (k+1)) x.2.1 (y.hear x.1 x.2.2).2 },0)
  | _,_=>({ p with ls:=p.ls.take k++p.ls.drop (k+1) },9)
def BL (p:PG) (i:Nat) (b:List UInt8):PG × Int:=
 match p.ys[i]?,p.off[i]? with
 | some y,some false=>({ p with ys:=p.ys.set i (y.BL b).1 },(y.BL b).2)
 | _,_=>(p,9)
def kill (p:PG) (i:Nat):PG:={ p with off:=p.off.set i true }
def start (p:PG) (i:Nat):PG:=
 match p.ys[i]? with
 | some y=>{ p with ys:=p.ys.set i (Aj.new i p.ys.length y.k),off:=p.off.set i false }
 | none=>p
def new (n:Nat):PG:=⟨(List.range n).map fun i=>Aj.new i n ⟨0,0,[]⟩,List.replicate n false,[],[]⟩
def bH (B:Nat) (y:Aj):Bool:=decide (AP y.k.lines<=B) && match y.BB with
 | .stands _ has=>has.all fun o=>match o with
  | some p=>decide (AP p.2<=B)
  | none=>true
 | _=>true
def fits (B:Nat) (p:PG):Bool:=p.ys.all (bH B) && p.ls.all fun x=>decide (AP x.2.2.ls<=B)
end PG
theorem NOk.lower (h:NOk B y) (r:PG.bH B' y=true):NOk B' y:=by
 unfold PG.bH at r;obtain ⟨h0,q⟩:=h;obtain ⟨n1,n3,id,ls,cp,pt,se,co⟩:=h0;obtain ⟨F,n,k,BB,waited,seen,Ag⟩:=y;simp at r;refine ⟨⟨n1,n3,id,⟨ls.n,ls.m,r.1⟩,cp,pt,se,co⟩, ?_⟩
 cases BB with
 | follows=>trivial
 | leads a b c d=>exact q
 | stands mine has =>
  refine ⟨q.1,q.2.1,q.2.2.1,fun p hp=>?_⟩;have u:=q.2.2.2 p hp;exact ⟨u.n,u.m,by grind⟩
def AZ.Avy (t:AZ):AZ:={ t with d:=t.d.kill }
def AsP (C K B:Nat) (off:Bool) (z:Am) (y:Aj):Prop:=
 z.BN=y/\NOk B y/\∃ t:AZ,SU C K t/\z.s=if off=true then t.Avy else t
theorem AsP.mono {off:Bool}(h:AsP C K B off z y) (q:K<=K') (r:B<=B'):AsP C K' B' off z y:=by
 obtain ⟨u,E,t,F,h4⟩:=h;exact ⟨u,E.mono r,t,F.mono q,h4⟩
theorem AsP.on (h:AsP C K B false z y):Am.NP K B z/\SU C K z.s:=by
 obtain ⟨rfl,r,t,q,h4⟩:=h;have u:z.s=t:=by grind
 rw [<-u] at q;exact ⟨⟨q.sp,r⟩,q⟩
theorem AsP.mk (q:z.BN=y) (r:NOk B y) (u:SU C K z.s):AsP C K B false z y:=⟨q,r,z.s,u,rfl⟩
theorem AsP.dead {off:Bool}(h:AsP C K B off z y):z.dead=off:=by
 obtain ⟨r,u,t,q,h4⟩:=h;unfold Am.dead;rw [h4]
 cases off with
 | false=>exact q.sp.dead
 | true=>show (t.dead || true)=true;simp
theorem AsP.kill {off:Bool}(h:AsP C K B off z y):AsP C K B true (z.Agt z.s.d.kill) y:=by
 obtain ⟨q,r,t,u,h4⟩:=h;refine ⟨q,r,t,u, ?_⟩;show { z.s with d:=z.s.d.kill }=t.Avy;rw [h4]
 cases off <;> rfl
namespace Gh
theorem Arz {ls:List Ar}(u:ls.length<=256) (q:∀ x ∈ ls,x.b.length<=60):AP ls<=15360:=by
 have E:∀ l:List Ar,(∀ x ∈ l,x.b.length<=60)->AP l<=60*l.length:=by
  intro l
  induction l with
  | nil=>simp [AP]
  | cons x r F =>
   grind [AP]
 grind
section
variable {G G':Gh}{n i a B:Nat}{P P':List UInt8->Prop}{z:Am}{zs:List Am}{ls:List (Nat × Nat × BG)}
theorem AsB (hp:∀ e x,x ∈ G.L e->x.b.length<=60) (h:l=(G.L e).take l.length):∀ x ∈ l,x.b.length<=60:=by
 grind
theorem Nd.low {z:Aj}(h:Nd G n z) (q:NOk B z) (hp:∀ e x,x ∈ G.L e->x.b.length<=60):NOk 15360 z:=by
 have J:=AsB hp h.kn.pre;refine ⟨⟨q.n1,q.n3,q.id,⟨q.ls.n,q.ls.m,Arz q.ls.n J⟩,q.cp,q.pt,q.se,q.co⟩, ?_⟩;have u:=h.ro;have r:=q.ro
 cases E:z.BB with
 | follows=>trivial
 | leads b c d e=>rw [E] at r;exact r
 | stands mine has =>
  rw [E] at u r;refine ⟨r.1,r.2.1,r.2.2.1,fun p F=>?_⟩;obtain ⟨j,O,U⟩:=List.mem_iff_getElem.1 F;obtain ⟨c,l⟩:=p;obtain ⟨b, -,W,-⟩:=u.2.2.2.2 j c l (by grind);have h4:=r.2.2.2 _ F;exact ⟨h4.n,h4.m,Arz h4.n (AsB hp W)⟩
theorem MOk.low (h:MOk G n src m) (q:m.May) (hp:∀ e x,x ∈ G.L e->x.b.length<=60):AP m.ls<=15360:=by
 by_cases r:m.k=2
 ·obtain ⟨b, -,g,-⟩:=h.k2 r;exact Arz q.n1 (AsB hp g)
 by_cases h4:m.k=4
 ·obtain ⟨b, -, -,g⟩:=h.k4 h4;exact Arz q.n1 (AsB hp g)
 by_cases u:m.k=5
 ·obtain ⟨b, -, -,g,-⟩:=h.k5 u;refine Arz q.n1 fun x E=>?_;grind
 ·rw [q.kl r h4 u];simp [AP]
theorem Next.more {k q:AX}(h:Next G n i P k q) (hP:∀ b,P b->P' b):Next G n i P' k q:=by
 cases h with
 | prom e h=>exact .prom e h
 | copy e ls b hp hl hI hb h=>grind [copy]
 | own x r hn h0 hp h=>grind [own]
 | lead e ls c b' f hn hI hp hq hv hc h hIc hb=>grind [lead]
theorem ArJ.more (h:ArJ G n i P K s) (hP:∀ b,P b->P' b):ArJ G n i P' K s:=by
 obtain ⟨q,r,u⟩:=h;refine ⟨q,r,fun Bz=>?_⟩;obtain ⟨t,E,F,J,O,U⟩:=u Bz;exact ⟨t,E,F,J,O,U.imp id fun h=>⟨h.1.more hP,h.2⟩⟩
theorem ArJ.ext {j:Nat}(h:ArJ G n j P K s) (q:Ext G G' n i P) (r:j ≠ i):ArJ G' n j P K s:=by
 obtain ⟨u,E,F⟩:=h;refine ⟨u,E,fun Bz=>?_⟩;obtain ⟨t,J,O,U,W,Y⟩:=F Bz;exact ⟨t,J,O,U,W,Y.imp id fun h=>⟨h.1.ext q r,h.2⟩⟩
def NSt (G:Gh) (n:Nat) (P:List UInt8->Prop) (a:Nat) (z:Am):Prop:=
 z.waited<=a/\z.s.pages<=199/\((∃ K,Up G n K 15360 z/\(z.s.d.left<0->K<=206*a)/\(0<=z.s.d.left->K+200<=206*a)) \/ (∃ K,Dw G n P K 15360 z/\K<=206*a+206))
theorem NSt.next (h:NSt G n P a z):NSt G n P (a+1) z:=by
 obtain ⟨E,q,r⟩:=h;refine ⟨om,q, ?_⟩
 grind
theorem NSt.ext (h:NSt G n P a z) (r:G.Ok n) (q:Ext G G' n i P) (hi:z.id ≠ i):NSt G' n P a z:=by
 obtain ⟨E,F,J⟩:=h;refine ⟨E,F, ?_⟩
 rcases J with ⟨K,u,k⟩ | ⟨K,d,k⟩
 ·exact .inl ⟨K,⟨u.sp,u.nd.ext r q hi,u.ok,u.nn⟩,k⟩
 ·exact .inr ⟨K,⟨d.sd.ext q hi,d.kn.ext q hi,d.cl.ext r q,d.co,d.ls,d.ep,d.nn⟩,k⟩
theorem NSt.more (h:NSt G n P a z) (hP:∀ b,P b->P' b):NSt G n P' a z:=by
 obtain ⟨r,u,q⟩:=h;refine ⟨r,u, ?_⟩
 rcases q with q | ⟨K,d,k⟩
 grind
 ·exact .inr ⟨K,⟨d.sd.more hP,d.kn,d.cl,d.co,d.ls,d.ep,d.nn⟩,k⟩
structure Sys (G:Gh) (n a:Nat) (P:List UInt8->Prop) (zs:List Am) (ls:List (Nat × Nat × BG)):Prop where
 ok:G.Ok n
 ps:∀ e x,x ∈ G.L e->P x.b
 len:zs.length=n
 n1:1<=n
 n3:n<=3
 st:∀ i z,zs[i]?=some z->z.id=i/\NSt G n P a z
 ml:ls.length<=4096
 ms:∀ x ∈ ls,x.1<n/\x.2.1<n/\x.1 ≠ x.2.1/\MOk G n x.1 x.2.2/\x.2.2.May
theorem Sys.more (h:Sys G n a P zs ls) (hP:∀ b,P b->P' b):Sys G n a P' zs ls:=
 ⟨h.ok,fun e x r=>hP _ (h.ps e x r),h.len,h.n1,h.n3,fun i z q=>⟨(h.st i z q).1,(h.st i z q).2.more hP⟩,h.ml,h.ms⟩
theorem Sys.idle (h:Sys G n a P zs ls){q:List (Nat × Nat × BG)}(u:q.length<=4096) (E:∀ x ∈ q,x ∈ ls):Sys G n (a+1) P zs q:=
 ⟨h.ok,h.ps,h.len,h.n1,h.n3,fun i z r=>⟨(h.st i z r).1,(h.st i z r).2.next⟩,u,fun x F=>h.ms x (E x F)⟩
theorem Sys.short (h:Sys G n a P zs ls) (hP:∀ b,P b->b.length<=60):∀ e x,x ∈ G.L e->x.b.length<=60:=fun e x q=>hP _ (h.ps e x q)
theorem Sys.turn (h:Sys G n a P zs ls) (hP:∀ b,P b->b.length<=60){i:Nat}(hz:zs[i]?=some z) (a5:z.s.d.left<0->K<=206*a) (U:0<=z.s.d.left->K+200<=206*a) (F:Aru G n P (K+6) B z r) (hw:r.1.waited<=a+1){ls0:List (Nat × Nat × BG)}(h0:ls0.length<=4096) (hs:∀ x ∈ ls0,x ∈ ls) :
  ∃ G',Ext G G' n i P/\Sys G' n (a+1) P (zs.set i r.1) (AjN ls0 i r.2):=by
 obtain ⟨G',q,a6,⟨m1,m2,m3⟩,a2,a7,a8⟩:=F;obtain ⟨a9,w1,w2,-⟩:=h.st i z hz;have hi:i<n:=by rw [<-h.len];grind
 rw [a9] at q m1 m3 a2;have a3:∀ e x,x ∈ G'.L e->P x.b:=by
  intro e x b1
  rcases q.nw e x b1 with ⟨e',g⟩ | g
  ·exact h.ps e' x g
  omega
 have a4:∀ e x,x ∈ G'.L e->x.b.length<=60:=fun e x q=>hP _ (a3 e x q);refine ⟨G',q,a6,a3,by rw [List.length_set];exact h.len,h.n1,h.n3,fun j y O=>?_, ?_,fun x b2=>?_⟩
 ·by_cases W:i=j
  ·subst W;rw [List.getElem?_set_self (by grind)] at O
   cases O
   refine ⟨a2,hw,om, ?_⟩
   rcases a8 with ⟨u,hl⟩ | ⟨hl,d⟩
   ·refine .inl ⟨K+6,⟨u.sp,u.nd,u.nd.low u.ok a4,u.nn⟩,fun b3=>?_,fun b3=>?_⟩
    omega
    omega
   ·have:=U hl;exact .inr ⟨K+6+600,⟨d.sd,d.kn,d.cl,d.co,⟨d.ls.n,d.ls.m,Arz d.ls.n (AsB a4 d.kn.pre)⟩,d.ep,d.nn⟩,om⟩
  ·rw [List.getElem?_set_ne W] at O;obtain ⟨E,J⟩:=h.st j y O;exact ⟨E,(J.ext h.ok q om).next⟩
 ·have Y:∀ (ts:DX) (l:List (Nat × Nat × BG)),l.length<=4096->(AjN l i ts).length<=4096:=by
   intro ts
   induction ts with
   | nil=>exact fun l hl=>hl
   | cons t ts ih =>
    intro l hl;refine ih _ ?_;grind
  grind
 ·have Y:∀ (ts:DX) (l:List (Nat × Nat × BG)) x,x ∈ AjN l i ts->x ∈ l \/ ∃ t ∈ ts,x=(i,t.1,t.2):=by
   intro ts
   induction ts with
   | nil=>exact fun l x q=>.inl q
   | cons t ts ih =>
    intro l x q
    rcases ih _ x q with h | ⟨t',h,rfl⟩
    grind
    grind
  rcases Y _ _ x b2 with b5 | ⟨t,F,rfl⟩
  ·obtain ⟨E,J,g3,g4,g5⟩:=h.ms x (hs x b5);exact ⟨E,J,g3,g4.ext h.ok q,g5⟩
  ·obtain ⟨E,J,-⟩:=m3 t F;exact ⟨hi,E,by grind,m1 t F,m2 t F⟩
def Ary (G:Gh) (n:Nat) (l:List Ar):Prop:=∃ e,G.Com n e l.length/\l=(G.L e).take l.length
theorem Ary.ext (h:Ary G n l) (u:G.Ok n) (q:Ext G G' n i P):Ary G' n l:=by
 obtain ⟨e,r,E⟩:=h;exact ⟨e,r.ext q,by rw [q.keep u r];omega⟩
theorem Ary.nil (G:Gh){n:Nat}(h:1<=n):Ary G n []:=⟨0, .zero G h 0,by simp⟩
theorem Ary.of {c:Nat}(h:G.Cl n e c l) (hc:c<=l.length):Ary G n (l.take c):=by
 obtain ⟨e',u,q,r⟩:=h;exact ⟨e',by grind,by grind⟩
theorem Ary.agree {l':List Ar}(u:G.Ok n) (h:Ary G n l) (U:Ary G n l'):l.take (min l.length l'.length)=l'.take (min l.length l'.length):=by
 have E:∀ (e e' m q:Nat),e<=e'->G.Com n e m->G.Com n e' q->((G.L e).take m).take (min m q)=((G.L e').take q).take (min m q):=by
  intro e e' m q r hc W;by_cases Y:e=e'
  grind
  ·by_cases hm:q=0
   grind
   ·obtain ⟨b,hI⟩:=W.ini u om;have:=(safe u e' e (min m q) b om hI (hc.mono om)).2;grind
 obtain ⟨e,F,J⟩:=h;obtain ⟨e',O,h4⟩:=U
 grind
theorem Ary.said (h:Ary G n l) (hp:∀ e x,x ∈ G.L e->P x.b):∀ x ∈ l,P x.b:=by
 obtain ⟨e, -,r⟩:=h;grind
end
end Gh
namespace Gh
section
variable {G G':Gh}{n i a B K:Nat}{P:List UInt8->Prop}{z z':Am}{zs:List Am}{ls:List (Nat × Nat × BG)}
theorem Sys.after (h:Sys G n a P zs ls) (u:Ext G G' n i P) (J:G'.Ok n) (O:zs[i]?=some z) (U:z'.id=i) (W:NSt G' n P (a+1) z'):Sys G' n (a+1) P (zs.set i z') ls:=by
 refine ⟨J, ?_,by rw [List.length_set];exact h.len,h.n1,h.n3,fun j y q=>?_,h.ml,fun x a2=>?_⟩
 ·intro e x a3
  rcases u.nw e x a3 with ⟨e',g⟩ | g
  ·exact h.ps e' x g
  omega
 ·by_cases E:i=j
  grind
  ·rw [List.getElem?_set_ne E] at q;obtain ⟨r,F⟩:=h.st j y q;exact ⟨r,(F.ext h.ok u om).next⟩
 ·obtain ⟨r,F,g3,g4,g5⟩:=h.ms x a2;exact ⟨r,F,g3,g4.ext h.ok u,g5⟩
theorem Up.off (h:Up G n K B z):Dw G n P K B (z.Agt z.s.d.kill):=by
 have q:=h.ok.id;refine ⟨⟨by show (z.s.dead || true)=true;simp, ?_,fun Bz=>?_⟩,h.nd.kn,h.nd.co,h.ok.co,h.ok.ls,h.ok.pt,h.nn, ?_⟩
 ·show z.s.d.row.length<=4096;rw [h.sp.sg.row];simp
 ·exact ⟨{ z.s with d:={ z.s.d with left := -1 } },h.sp.sg.jH (-1) om,(jL h.sp.sg.dd h.sp.sg.row Bz).symm,rfl,rfl, .inl rfl⟩
 ·rw [<-h.nn];exact q
theorem Dw.Agt (h:Dw G n P K B z){d:Af}(q:(z.s.dead || d.dead)=true) (r:d.row=z.s.d.row) (u:∀ Bz,d.BJ Bz=z.s.d.BJ Bz):Dw G n P K B (z.Agt d):=by
 obtain ⟨⟨-,E,F⟩,k1,k2,J,k4,k5,k6⟩:=h;refine ⟨⟨q,by show d.row.length<=4096;grind,fun Bz=>?_⟩,k1,k2,J,k4,k5,k6⟩;obtain ⟨t,O,U,W⟩:=F Bz;exact ⟨t,O,U.trans (u Bz).symm,W⟩
theorem NSt.kill (h:NSt G n P a z):NSt G n P (a+1) (z.Agt z.s.d.kill):=by
 obtain ⟨E,q,r⟩:=h;refine ⟨by show z.waited<=_;omega,q, .inr ?_⟩
 rcases r with ⟨K,u,k1,k2⟩ | ⟨K,d,k⟩
 ·refine ⟨K,u.off, ?_⟩
  omega
 ·exact ⟨K,d.Agt (by show (z.s.dead || true)=true;simp) rfl fun _=>rfl,om⟩
theorem NSt.bG (h:NSt G n P a z) (k:Int) (q:k<=9223372036854775807):NSt G n P (a+1) (z.Agt (z.s.d.bG k)):=by
 obtain ⟨F,r,E⟩:=h;refine ⟨by show z.waited<=_;omega,r, ?_⟩
 rcases E with ⟨K,u,k1,k2⟩ | ⟨K,d,J⟩
 ·refine .inl ⟨K,⟨⟨u.sp.sg.bG k q⟩,u.nd,u.ok,u.nn⟩,fun _=>?_,fun _=>?_⟩
  omega
  omega
 ·refine .inr ⟨K,d.Agt ?_ ?_ fun Bz=>?_,om⟩
  ·have:=d.sd.1;grind [Af.bG]
  grind [Af.bG]
  ·unfold Af.bG;split <;> rfl
theorem NSt.start (h:NSt G n P a z) (r:G.Ok n) (E:1<=n) (Y:n<=3) (a5:∀ e x,x ∈ G.L e->P x.b) (hP:∀ b,P b->b.length<=60) (Bz:List Int) :
  ∃ t K,SG K t.pages t/\z.s.d.BJ Bz=t.d/\K<=206*a+206/\t.pages<=199/\z.s.d.row.length<=4096/\∃ G',Ext G G' n z.id P/\G'.Ok n/\NSt G' n P (a+1) (Am.new z.id n t):=by
 obtain ⟨h1,F,h3⟩:=h
 rcases h3 with ⟨K,u,k1,k2⟩ | ⟨K,d,hd⟩
 ·have hK:K<=206*a:=by
   omega
  have a6:=u.ok.id;have a7:z.id<n:=by rw [<-u.nn];exact a6
  have a2:=u.sp.sg.jH (-1) om;refine ⟨{ z.s with d:={ z.s.d with left := -1 } },K,a2,Ags u.sp.sg.dd u.sp.sg.row Bz,om,F,by rw [u.sp.sg.row];simp,G, .refl _ _ _ _,r,Nat.zero_le _,F, .inl ⟨K,⟨.of a2,⟨u.nd.kn,trivial, .zero G E _ _⟩,Aj.TB E Y a7 u.ok.ls u.ok.cp u.ok.pt,rfl⟩,om,fun hl=>?_⟩⟩;omega
 ·obtain ⟨g1,g2,g3⟩:=d.sd;obtain ⟨t,t1,t2,t3,t4,q⟩:=g3 Bz;have a3:∀ G',Ext G G' n z.id P->G'.Ok n->Kn G' n z.id t.kept->AwJ t.kept->NSt G' n P (a+1) (Am.new z.id n t):=by
   intro G' J U W O;have a8:∀ e x,x ∈ G'.L e->x.b.length<=60:=by
    intro e x a9
    rcases J.nw e x a9 with ⟨e',g⟩ | g
    grind
    grind
   refine ⟨Nat.zero_le _,by show t.pages<=199;omega, .inl ⟨K,⟨.of t1,⟨W,trivial, .zero G' E _ _⟩,Aj.TB E Y d.nn.2 ⟨O.1,O.2.1,Arz O.1 (AsB a8 W.pre)⟩ W.cp O.2.2,rfl⟩,om,fun hl=>?_⟩⟩;have a4:0<=t.d.left:=hl;omega
  refine ⟨t,K,t1,t2.symm,om,om,g2, ?_⟩
  rcases q with q | ⟨q,t6⟩
  ·exact ⟨G, .refl _ _ _ _,r,a3 G (.refl _ _ _ _) r (by rw [q];exact d.kn) (by rw [q];exact ⟨d.ls.n,d.ls.m,d.ep⟩)⟩
  ·obtain ⟨G',J,U,b1, -, -,-⟩:=q.step r d.kn;grind
end
end Gh
namespace Am
theorem Asp (z:Am) (mine:BitVec 64) (nR:List Int) (base:Nat) (ready:Bool):(z.count mine nR base ready).waited=z.waited:=by
 grind [count]
theorem AuP (z:Am) (mine:BitVec 64) (has:List (Option (BitVec 64 × List Ar))):(z.lead mine has).1.waited<=z.waited:=by
 unfold lead;split
 simp
 ·split
  simp
  ·split
   simp [Asp]
   ·exact Nat.zero_le _
theorem AwF (z:Am):z.stand.1.waited<=z.waited:=by
 unfold stand;simp only;split
 simp
 ·split
  ·exact Nat.le_trans (AuP _ _ _) (by simp)
  simp
theorem AwO (z:Am):z.tick.1.waited<=z.waited+1:=by
 unfold tick;split
 simp
 ·split
  ·exact AwF _
  simp
theorem AwV (z:Am) (src:Nat) (m:BG):(z.hear src m).1.waited<=z.waited:=by
 unfold hear;have q:({ z with seen:=Fj z.seen m.e }:Am).waited=z.waited:=rfl;rw [<-q];generalize ({ z with seen:=Fj z.seen m.e }:Am)=y;unfold Ec;split
 ·unfold BK;split
  simp
  split
  simp
  split
  ·exact Nat.zero_le _
  simp
 split
 ·unfold Bj;split
  ·split
   simp
   ·exact AuP _ _ _
  simp
 split
 ·unfold Cj;dsimp only;split
  ·exact Nat.zero_le _
  simp
 split
 ·unfold BD;split
  simp
  split
  simp
  split
  ·exact Nat.zero_le _
  split
  ·exact Nat.zero_le _
  simp
 split
 ·unfold BF;split
  simp
  split
  simp
  split
  simp
  simp only;split
  ·exact Nat.zero_le _
  split
  ·exact Nat.zero_le _
  split
  ·exact Nat.zero_le _
  ·exact Nat.zero_le _
 ·unfold CJ;split
  ·split
   simp [Asp]
   simp
  simp
theorem Awc (z:Am) (b:List UInt8):(z.BL b).1.waited<=z.waited:=by
 unfold BL;split
 simp
 split
 ·split
  simp
  split
  simp [Asp]
  simp
 simp
end Am
namespace Gh
theorem Aru.AyD {G:Gh}{n:Nat}{P:List UInt8->Prop}(h:Aru G n P K B z r):Aj.EH r.2/\TGB n z.id B r.2:=by
 obtain ⟨G', -, -,⟨-,q,m3⟩,-⟩:=h;grind
end Gh
attribute [local go_sem ↓] Go.wp_at_zero Go.wp_at_succ
def aY (x:xI) (Mx:Nat):Nat->Prop:=fun k=>k=x.Q \/ k=x.D \/ Mx<k
theorem Pe.reopen {i Mx:Nat}{xs:List xI}{x x':xI}(h:Pe w o R pg pn xs zs g) (_a4:R ≠ 0) (hn:xs.length<=3) (F:xs[i]?=some x)
  (U:R+20<=Mx/\∀ y ∈ xs,y.M+4<=Mx) (s:aj (aY x Mx) w o w' o') (h1:x'.Q=x.Q) (h2:x'.D=x.D) (J:x'.M=Mx) (h4:x'.px=x.px)
  (hx:Afp w' o' x') (hz:Bc w' o' x'.D x'.M x'.pz x'.ps x'.pd z'):Pe w' o' R pg pn (xs.set i x') (zs.set i z') g:=by
 obtain ⟨g1,g2,E,W,g5⟩:=h;obtain ⟨q1,q2,q3⟩:=E.at' i x F;have u:=(List.getElem?_eq_some_iff.1 F).1;have O:=U.2;have hp:(xs.set i x').map (fun x=>Uc x.px)=xs.map fun x=>Uc x.px:=by
  apply List.ext_getElem?;grind
 have a2:=g1.step s (by unfold aY;omega) (by unfold aY;omega);refine ⟨?_,g2.step s (by unfold aY;omega) (by unfold aY;omega),⟨fun j y q=>?_,fun j k y v a3 q hv=>?_⟩,by grind,fun j y v q hv=>?_⟩
 ·obtain ⟨bn,cap,e1,e2,e3,e4,e5⟩:=a2;exact ⟨bn,cap,by grind,e2,by grind,e4,e5⟩
 ·by_cases r:i=j
  grind
  ·rw [List.getElem?_set_ne r] at q;exact E.at' j y q
 ·by_cases r:i=j
  grind
  ·rw [List.getElem?_set_ne r] at q
   by_cases Y:i=k
   grind
   ·rw [List.getElem?_set_ne Y] at hv;exact E.apart j k y v a3 q hv
 ·by_cases r:i=j
  grind
  ·rw [List.getElem?_set_ne r] at q hv;obtain ⟨r1,r2,r3⟩:=E.at' j y q;have hj:=(List.getElem?_eq_some_iff.1 q).1;obtain ⟨k1,k2⟩:=g5 j y v q hv;exact ⟨k1.step s (by unfold aY;omega),k2.step s fun t ht=>⟨by unfold aY at ht;omega,by grind [aY,KC]⟩⟩
theorem Pe.Anc {xs:List xI}{q:GN}(h:Pe w o R pg pn xs zs g) (_W:R ≠ 0) (_Y:xs.length<=3)
  (s:aj (ak (R+2)) w o w' o') (u:sV w' o' (R+2) pn q):Pe w' o' R pg pn xs zs q:=by
 obtain ⟨E,g2,r,F⟩:=h;refine ⟨E.step s (by unfold ak;omega) (by unfold ak;omega),u,r,F.step s (by unfold ak;omega) fun x J=>?_⟩;obtain ⟨i,O,rfl⟩:=List.mem_iff_getElem.1 J;obtain ⟨q1,q2,q3⟩:=r.at' i _ (List.getElem?_eq_getElem O);grind [ak,KC]
theorem Pe.step0 {xs:List xI}(h:Pe w o R pg pn xs zs g) (s:aj ai w o w' o'):Pe w' o' R pg pn xs zs g:=by
 obtain ⟨q,r,u,E⟩:=h;exact ⟨q.step s id id,r.step s id id,u,E.step s id fun x J=>⟨id,fun t F=>F.elim⟩⟩
section
variable {w:World}{o:Own}{R pg pn:Nat}{xs:List xI}{zs:List Am}{g:GN}{x:xI}{z:Am}
theorem Axj (F:Afp w o x) (hz:Bc w o x.D x.M x.pz x.ps x.pd z) (a2:¬ x.Q=x.D) (a3:¬ 0=x.D) (k:Int) (hk:k<=9223372036854775807){J:Nat}(O:At0 w o J (.cells #[.int .i64 k] 3)) :
  Calls prog 85 #[.pointer (some ⟨x.px,0,none⟩), .pointer (some ⟨J,0,none⟩)] w (XL (KC x.D x.M) w o fun v w' o'=>v = .int .i64 0/\Bc w' o' x.D x.M x.pz x.ps x.pd (z.Agt (z.s.d.bG k))):=by
 have q:aj ai w o w.drew o:=(aj.refl ai w o).drew;have U:=hz.step0 q;have a4:Bg w.drew o x.D x.pd z.s.d:=by
  obtain ⟨_,_,_,_,_,_,_,_,_,_,_,hd⟩:=U.store;omega
 have WV:=ae (AxM a4 k hk);have u:=ag F.1 1;have W:=O.cell 0;have hH:=ae (aI U (aI (F.step q id) (aI (O.step q id) (aI a2 (aI a3 q)))));simp only [ay,ax] at u W;unfold Uc at u;have hS:=aI u W;clear F hz U a4 O q u W a2 a3;go_enter func85,ntmps85;go_wp2_with fail;refine Aa (fun w'=>w'.cell? ⟨x.px,1,none⟩=some (.pointer (some ⟨x.pd,0,none⟩))/\w'.cell? ⟨J,0,none⟩=some (.int .i64 k)) (fun _=>true) (by rfl) hS (fun a7=>?_);refine tq 0 (h:=tq 1 (h:=tq 2 (h:=tq 3 (h:=tq 4 (h:=tO 5 (h:=?_))))));go_wp2_with fail;refine WV.out.mono ?_;rintro e W3 ⟨v3,o3,rfl,r,rfl,a5⟩;obtain ⟨g1,g2,g3,g4,g5,g6⟩:=hH.out;have E:=ag (g2.step r g4).1 1;have Y:=(g3.step r g5).cell 0;simp only [ay,ax] at E Y;unfold Uc at E;have a6:=aI E Y;have hG:=ae (aI ((g6.mono (T':=KC x.D x.M) fun _ h=>h.elim).trans (r.mono (T':=KC x.D x.M) fun _ h=>.inl h)) (g1.Agt r a5));go_wp2_with fail;refine ⟨by grind, ?_⟩;refine tD (h:=?_);go_wp2_with fail;go_ret;exact ⟨_,o3,rfl,hG.out.1,rfl,hG.out.2⟩
theorem AxB (h:Pe w o R pg pn xs zs g) (hR:R ≠ 0) (hn:xs.length<=3) (i:Nat) (q:xs[i]?=some x) (F:zs[i]?=some z) (k:Int) (hk:k<=9223372036854775807) :
  Calls prog 39 #[.pointer (some ⟨pg,0,none⟩), .int .i64 (i:Int), .int .i64 k] w (XL (KC x.D x.M) w o fun v w' o'=>v = .int .i64 0/\Pe w' o' R pg pn xs (zs.set i (z.Agt (z.s.d.bG k))) g):=by
 obtain ⟨W,oW,J,⟨u,-⟩,O⟩:=AaC w o (.cells #[.int .i64 k] 3);have r:=h.step0 u;obtain ⟨U,Y⟩:=r.2.2.2.2 i x z q F;obtain ⟨t1,t2,t3⟩:=r.2.2.1.at' i x q;have ha:=ae (Acd r.1 i q 85 #[.pointer (some ⟨w.heap.size,0,none⟩)] _ Tryz.call85 (Axj U Y om om k hk O) (fun e w' hq=>by obtain ⟨v, -,hv,-⟩:=hq;grind));have hH:=ae r;have XX:=ae J;have a2:=ae (u.mono (T':=KC x.D x.M) fun _ h=>h.elim);clear h r U Y J u O t1 t2 t3 ;go_enter func39,ntmps39;go_wp2_with fail;rw [XX.out];refine ha.out.mono ?_;rintro e W1 ⟨v1,o1,rfl,E,rfl,a3⟩;have hF:=ae (aI (a2.out.trans E) (hH.out.set hR hn q F E a3));go_wp2_with fail;go_ret;exact ⟨_,o1,rfl,hF.out.1,rfl,hF.out.2⟩
end
def InT (x:xI) (R:Nat):Nat->Prop:=fun k=>KC x.D x.M k \/ k=R+2
section
variable {w:World}{o:Own}{R pg pn i K B:Nat}{xs:List xI}{zs:List Am}{g:GN}{x:xI}{z:Am}
theorem Ami (q:Afp w o x) (r:Bc w o x.D x.M x.pz x.ps x.pd z) (u:z.dead=true) (a b:Option Addr):Calls prog 50 #[.pointer (some ⟨x.px,0,none⟩), .pointer a, .pointer b] w fun e w'=>e = .returned (.int .i64 9)/\w=w':=by
 have hc:=FI r;have F:=ae hc;have E:=ag q.1 0;go_enter func50,ntmps50;go_wp2_with fail;refine F.out.mono ?_;rintro e J ⟨rfl,rfl⟩;go_wp2_with fail;go_ret;simp
theorem Aou (h:Pe w o R pg pn xs zs g) (i:Nat) (q:xs[i]?=some x) (E:zs[i]?=some z) (F:z.dead=true) :
  Calls prog 14 #[.pointer (some ⟨pg,0,none⟩), .int .i64 (i:Int)] w (XL ai w o fun v _ _=>v = .int .i64 9):=by
 obtain ⟨W,Y,J,⟨r,-⟩,-⟩:=Ajq w o (.cells #[.pointer (some ⟨pg,0,none⟩)] 22) (.cells #[.int .i64 (i:Int)] 3);have u:=h.step0 r;obtain ⟨O,U⟩:=u.2.2.2.2 i x z q E;have ha:=ae (Acd u.1 i q 50 #[.pointer (some ⟨w.heap.size,0,none⟩), .pointer (some ⟨w.heap.size+1,0,none⟩)] _ Tryz.call50 (Ami O U F _ _) (by simp));have XX:=ae J;have a2:=ae r;clear h u O U q E F J r;go_enter func14,ntmps14;go_wp2_with fail;rw [XX.out];refine ha.out.mono ?_;rintro e W1 ⟨rfl,rfl⟩;go_wp2_with fail;go_ret;exact ⟨_,Y,rfl,a2.out,rfl⟩
theorem Amv (h:Pe w o R pg pn xs zs g) (hR:R ≠ 0) (hn:xs.length<=3) (i:Nat) (U:xs[i]?=some x) (Y:zs[i]?=some z) (hp:Am.NP K B z) (hK:K+606<65536) (hB:B<=90000) (hw:z.waited<=1000000) (b5:g.l.length<=4096) (hi:i<g.n)
  (ht:∀ t ∈ Ed z.tick.2,t.1<g.n/\i ≠ t.1/\t.2.length<=2097152) (a2:At0 w o b1 (.cells #[.pointer (some ⟨pg,0,none⟩)] 22)) (a3:At0 w o b2 (.cells #[.int .i64 (i:Int)] 3)) :
  Calls prog 50 #[.pointer (some ⟨x.px,0,none⟩), .pointer (some ⟨b1,0,none⟩), .pointer (some ⟨b2,0,none⟩)] w (XL (InT x R) w o fun v w' o'=>v = .int .i64 0/\Pe w' o' R pg pn xs (zs.set i z.tick.1) (g.sends i (Ed z.tick.2))):=by
 obtain ⟨h1,h2⟩:=h.2.2.2.2 i x z U Y;obtain ⟨t1,t2,t3⟩:=h.2.2.1.at' i x U;have a4:=(List.getElem?_eq_some_iff.1 U).1;have hc:=FI h2;rw [show z.dead=false from hp.sp.dead] at hc;have WV:=ae hc;have r:aj ai w o w.drew o:=(aj.refl ai w o).drew;have a5:=ae (ZB (h2.step0 r) hp hK hB hw);have hH:=ae (aI (h.step0 r) (aI (h1.step r id) (aI (a2.step r id) (aI (a3.step r id) r))));have nQ:¬ KC x.D x.M x.Q:=by unfold KC;omega
 have n0:¬ KC x.D x.M 0:=by unfold KC;omega
 have c0:=ag h1.1 0;have q1:=a2.cell 0;have q2:=a3.cell 0;simp only [ay] at c0 q1 q2;unfold Uc at c0;have hS:=aI c0 (aI q1 q2);have hF:=ae (aI U (aI Y (aI ht (aI hn a4))));clear hc h h1 h2 a2 a3 hp r U Y ht q1 q2 a4;go_enter func50,ntmps50;go_wp2_with fail;refine WV.out.mono ?_;rintro e W1 ⟨rfl,rfl⟩;go_wp2_with fail;refine Aa (fun w'=>w'.cell? ⟨x.px,0,none⟩=some (.pointer (some ⟨x.pz,0,none⟩))/\w'.cell? ⟨b1,0,none⟩=some (.pointer (some ⟨pg,0,none⟩))/\w'.cell? ⟨b2,0,none⟩=some (.int .i64 (i:Int))) (fun _=>true) (by rfl) hS (fun b6=>?_);refine tq 0 (h:=tq 1 (h:=tq 2 (h:=tq 3 (h:=tq 4 (h:=tq 5 (h:=tO 6 (h:=?_)))))));go_wp2_with fail;refine a5.out.mono ?_;rintro e W3 ⟨v3,o3,rfl,F,a6,a7⟩;obtain ⟨g1,g2,g3,g4,W⟩:=hH.out;obtain ⟨f1,f2,f3,f4,f5⟩:=hF.out;have k1:=g1.set hR f4 f1 f2 F a7;have e1:=g2.step F nQ;have e2:=g3.step F n0;have J:=g4.step F n0;have q:=ag e1.1 0;have u:=e2.cell 0;have E:=J.cell 0;simp only [ay] at q u E;unfold Uc at q;have a8:=aI q (aI u E);have a9:=ae (Aiv k1.1 k1.2.1 om om om b5 i hi a6 f3);have hE:=ae (aI k1 (aI e1 (aI e2 (aI J (W.mono (T':=InT x R) (fun _ h=>h.elim) |>.trans (F.mono (T':=InT x R) fun _ h=>.inl h))))));clear F a6 a7 g1 g2 g3 g4 W f1 f2 f3 f4 f5 k1 e1 e2 J q u E hH a5;go_wp2_with fail;refine ⟨by grind, ?_⟩;refine tO 7 (h:=?_);go_wp2_with fail;refine a9.out.mono ?_;rintro e W4 ⟨v4,o4,rfl,O,b3⟩;obtain ⟨k1,e1,e2,J,W⟩:=hE.out;have q:=ag (e1.step O (by unfold ak;omega)).1 0;have u:=(e2.step O (by unfold ak;omega)).cell 0;have E:=(J.step O (by unfold ak;omega)).cell 0;simp only [ay] at q u E;unfold Uc at q;have b4:=aI q (aI u E);have hG:=ae (aI (W.trans (O.mono (T':=InT x R) fun _ h=>.inr h)) (k1.Anc hR hF.out.2.2.2.1 O b3));clear O b3 k1 e1 e2 J W q u E hE a9;go_wp2_with fail;refine ⟨by grind, ?_⟩;refine tD (h:=?_);clear a8 b4;go_wp2_with fail;go_ret;exact ⟨_,o4,rfl,hG.out.1,rfl,hG.out.2⟩
theorem Aow (h:Pe w o R pg pn xs zs g) (hR:R ≠ 0) (hn:xs.length<=3) (i:Nat) (q:xs[i]?=some x) (E:zs[i]?=some z) (hp:Am.NP K B z) (hK:K+606<65536) (hB:B<=90000) (hw:z.waited<=1000000) (a5:g.l.length<=4096) (hi:i<g.n)
  (F:∀ t ∈ Ed z.tick.2,t.1<g.n/\i ≠ t.1/\t.2.length<=2097152) :
  Calls prog 14 #[.pointer (some ⟨pg,0,none⟩), .int .i64 (i:Int)] w (XL (InT x R) w o fun v w' o'=>v = .int .i64 0/\Pe w' o' R pg pn xs (zs.set i z.tick.1) (g.sends i (Ed z.tick.2))):=by
 obtain ⟨W,oW,J,⟨r,-⟩,O,U⟩:=Ajq w o (.cells #[.pointer (some ⟨pg,0,none⟩)] 22) (.cells #[.int .i64 (i:Int)] 3);have u:=h.step0 r;have Y:=ae (Acd u.1 i q 50 #[.pointer (some ⟨w.heap.size,0,none⟩), .pointer (some ⟨w.heap.size+1,0,none⟩)] _ Tryz.call50 (Amv u hR hn i q E hp hK hB hw a5 hi F O U) (fun e w' hq=>by obtain ⟨v, -,hv,-⟩:=hq;grind));have XX:=ae J;have a2:=ae (r.mono (T':=InT x R) fun _ h=>h.elim);clear h u q E hp J r O U F;go_enter func14,ntmps14;go_wp2_with fail;rw [XX.out];refine Y.out.mono ?_;rintro e W1 ⟨v1,o1,rfl,a3,rfl,a4⟩;have hF:=ae (aI (a2.out.trans a3) a4);go_wp2_with fail;go_ret;exact ⟨_,o1,rfl,hF.out.1,rfl,hF.out.2⟩
end
section
variable {w:World}{o:Own}{R pg pn i K B:Nat}{xs:List xI}{zs:List Am}{g:GN}{x:xI}{z z':Am}
theorem Aib {er:Int}{J:Option Addr}{O U:Nat}(h:Pe w o R pg pn xs zs g) (hR:R ≠ 0) (hn:xs.length<=3) (i:Nat) (q:xs[i]?=some x) (W:zs[i]?=some z)
  (a3:Calls prog 47 #[.pointer (some ⟨x.pz,0,none⟩), .slice J O U] w.drew (XL (KC x.D x.M) w.drew o fun v w' o'=>v = .int .i64 er/\Bc w' o' x.D x.M x.pz x.ps x.pd z'))
  {Y:Nat} (a2:At0 w o Y (.cells #[.slice J O U] 29)) :
  Calls prog 46 #[.pointer (some ⟨x.px,0,none⟩), .pointer (some ⟨Y,0,none⟩)] w (XL (KC x.D x.M) w o fun v w' o'=>v = .int .i64 er/\Pe w' o' R pg pn xs (zs.set i z') g):=by
 obtain ⟨h1,h2⟩:=h.2.2.2.2 i x z q W;obtain ⟨t1,t2,t3⟩:=h.2.2.1.at' i x q;have a7:=(List.getElem?_eq_some_iff.1 q).1;have r:aj ai w o w.drew o:=(aj.refl ai w o).drew;have a4:=ae a3;have hH:=ae (aI (h.step0 r) (aI (h1.step r id) (aI (a2.step r id) r)));have nQ:¬ KC x.D x.M x.Q:=by unfold KC;omega
 have n0:¬ KC x.D x.M 0:=by unfold KC;omega
 have E:=ag h1.1 0;have q1:=a2.cell 0;simp only [ay] at E q1;unfold Uc at E;have hS:=aI E q1;have hF:=ae (aI q (aI W hn));clear h h1 h2 a2 r q W q1 a7 a3 E;go_enter func46,ntmps46;go_wp2_with fail;refine Aa (fun w'=>w'.cell? ⟨x.px,0,none⟩=some (.pointer (some ⟨x.pz,0,none⟩))/\w'.cell? ⟨Y,0,none⟩=some (.slice J O U)) (fun _=>true) (by rfl) hS (fun a8=>?_);refine tq 0 (h:=tq 1 (h:=tq 2 (h:=tq 3 (h:=tq 4 (h:=tO 5 (h:=?_))))));go_wp2_with fail;refine a4.out.mono ?_;rintro e W3 ⟨v3,o3,rfl,u,rfl,a5⟩;obtain ⟨g1,g2,g3,g5⟩:=hH.out;obtain ⟨f1,f2,f4⟩:=hF.out;have F:=ag (g2.step u nQ).1 0;have r1:=(g3.step u n0).cell 0;simp only [ay] at F r1;unfold Uc at F;have a6:=aI F r1;have hG:=ae (aI ((g5.mono (T':=KC x.D x.M) fun _ h=>h.elim).trans u) (g1.set hR f4 f1 f2 u a5));clear u a5 g1 g2 g3 g5 f1 f2 f4 F r1 hH a4;go_wp2_with fail;refine ⟨by grind, ?_⟩;refine tq 6 (h:=tD (h:=?_));go_wp2_with fail;go_ret;exact ⟨_,o3,rfl,hG.out.1,rfl,hG.out.2⟩
theorem AeX {er:Int}{u:Option Addr}{E F:Nat}(h:Pe w o R pg pn xs zs g) (hR:R ≠ 0) (hn:xs.length<=3) (i:Nat) (J:xs[i]?=some x) (U:zs[i]?=some z)
  (Y:∀ (W:World) (q:Own),aj ai w o W q->Calls prog 47 #[.pointer (some ⟨x.pz,0,none⟩), .slice u E F] W (XL (KC x.D x.M) W q fun v w' o'=>v = .int .i64 er/\Bc w' o' x.D x.M x.pz x.ps x.pd z')) :
  Calls prog 12 #[.pointer (some ⟨pg,0,none⟩), .int .i64 (i:Int), .slice u E F] w (XL (KC x.D x.M) w o fun v w' o'=>v = .int .i64 er/\Pe w' o' R pg pn xs (zs.set i z') g):=by
 obtain ⟨W,q,hW,⟨r,-⟩,a2⟩:=AaC w o (.cells #[.slice u E F] 29);have O:=h.step0 r;have ha:=ae (Acd O.1 i J 46 #[.pointer (some ⟨w.heap.size,0,none⟩)] _ Tryz.call46 (Aib O hR hn i J U (Y _ _ (r.trans (aj.refl ai W q).drew)) a2) (fun e w' hq=>by obtain ⟨v, -,hv,-⟩:=hq;grind));have XX:=ae hW;have a3:=ae (r.mono (T':=KC x.D x.M) fun _ h=>h.elim);clear h O J U Y hW r a2;go_enter func12,ntmps12;go_wp2_with fail;rw [XX.out];refine ha.out.mono ?_;rintro e W1 ⟨v1,o1,rfl,a4,rfl,a5⟩;have hF:=ae (aI (a3.out.trans a4) a5);go_wp2_with fail;go_ret;exact ⟨_,o1,rfl,hF.out.1,rfl,hF.out.2⟩
end
section
variable {w:World}{o:Own}{R pg pn K B:Nat}{xs:List xI}{zs:List Am}{g:GN}{x:xI}{z z':Am}
theorem AmD (q:Afp w o x) (r:Bc w o x.D x.M x.pz x.ps x.pd z) (u:z.dead=true) (a b:Option Addr):Calls prog 56 #[.pointer (some ⟨x.px,0,none⟩), .pointer a, .pointer b] w fun e w'=>e = .returned (.int .i64 9)/\w=w':=by
 have hc:=FI r;rw [u] at hc;have F:=ae hc;have E:=ag q.1 0;go_enter func56,ntmps56;go_wp2_with fail;refine F.out.mono ?_;rintro e J ⟨rfl,rfl⟩;go_wp2_with fail;go_ret;simp
theorem AmF {ba:Option Addr}{bn bc:Nat}{ts:List (Nat × List UInt8)}(h:Pe w o R pg pn xs zs g) (hR:R ≠ 0) (hn:xs.length<=3) (i:Nat) (Y:xs[i]?=some x) (a3:zs[i]?=some z) (hd:z.dead=false) (b7:g.l.length<=4096) (hi:i<g.n)
  (a5:Calls prog 57 #[.pointer (some ⟨x.pz,0,none⟩), .int .i64 (src:Int), .slice ba bn bc] w.drew (XL (KC x.D x.M) w.drew o fun v w' o'=>Dn w' o' v ts/\Bc w' o' x.D x.M x.pz x.ps x.pd z'))
  (ht:∀ t ∈ ts,t.1<g.n/\i ≠ t.1/\t.2.length<=2097152) (a4:At0 w o b1 (.cells #[.pointer (some ⟨pg,0,none⟩)] 22)) (a2:At0 w o b2 (.cells [.int .i64 0, .int .i64 (src:Int), .int .i64 0, .int .i64 (i:Int), .slice ba bn bc].toArray 104)) :
  Calls prog 56 #[.pointer (some ⟨x.px,0,none⟩), .pointer (some ⟨b1,0,none⟩), .pointer (some ⟨b2,0,none⟩)] w (XL (InT x R) w o fun v w' o'=>v = .int .i64 0/\Pe w' o' R pg pn xs (zs.set i z') (g.sends i ts)):=by
 obtain ⟨h1,h2⟩:=h.2.2.2.2 i x z Y a3;obtain ⟨t1,t2,t3⟩:=h.2.2.1.at' i x Y;have a6:=(List.getElem?_eq_some_iff.1 Y).1;have hc:=FI h2;rw [hd] at hc;have WV:=ae hc;have O:aj ai w o w.drew o:=(aj.refl ai w o).drew;have a7:=ae a5;have hH:=ae (aI (h.step0 O) (aI (h1.step O id) (aI (a4.step O id) (aI (a2.step O id) O))));have nQ:¬ KC x.D x.M x.Q:=by unfold KC;omega
 have n0:¬ KC x.D x.M 0:=by unfold KC;omega
 have c0:=ag h1.1 0;have q1:=a4.cell 0;have q2:=a2.cell 1;have q3:=a2.cell 3;have q4:=a2.cell 4;simp only [ay,ax] at c0 q1 q2 q3 q4;unfold Uc at c0;have hS:=aI c0 (aI q1 (aI q2 (aI q3 q4)));have hF:=ae (aI Y (aI a3 (aI ht (aI hn a6))));clear hc h h1 h2 a4 a2 O Y a3 ht q1 q2 q3 q4 a6 a5 hd;go_enter func56,ntmps56;go_wp2_with fail;refine WV.out.mono ?_;rintro e W1 ⟨rfl,rfl⟩;go_wp2_with fail;refine Aa (fun w'=>w'.cell? ⟨x.px,0,none⟩=some (.pointer (some ⟨x.pz,0,none⟩))/\w'.cell? ⟨b1,0,none⟩=some (.pointer (some ⟨pg,0,none⟩))/\w'.cell? ⟨b2,1,none⟩=some (.int .i64 (src:Int))/\w'.cell? ⟨b2,3,none⟩=some (.int .i64 (i:Int))/\w'.cell? ⟨b2,4,none⟩=some (.slice ba bn bc)) (fun _=>true) (by rfl) hS (fun b8=>?_);refine tq 0 (h:=tq 1 (h:=tq 2 (h:=tq 3 (h:=tq 4 (h:=tq 5 (h:=tq 6 (h:=tq 7 (h:=tq 8 (h:=tq 9 (h:=tq 10 (h:=tq 11 (h:=tq 12 (h:=tO 13 (h:=?_))))))))))))));go_wp2_with fail;refine a7.out.mono ?_;rintro e W3 ⟨v3,o3,rfl,U,a8,a9⟩;obtain ⟨g1,g2,g3,g4,g5⟩:=hH.out;obtain ⟨f1,f2,f3,f4,f5⟩:=hF.out;have k1:=g1.set hR f4 f1 f2 U a9;have e1:=g2.step U nQ;have e2:=g3.step U n0;have q:=g4.step U n0;have r:=ag e1.1 0;have u:=e2.cell 0;have E:=q.cell 1;have F:=q.cell 3;have J:=q.cell 4;simp only [ay,ax] at r u E F J;unfold Uc at r;have b3:=aI r (aI u (aI E (aI F J)));have b4:=ae (Aiv k1.1 k1.2.1 om om om b7 i hi a8 f3);have hE:=ae (aI k1 (aI e1 (aI e2 (aI q (g5.mono (T':=InT x R) (fun _ h=>h.elim) |>.trans (U.mono (T':=InT x R) fun _ h=>.inl h))))));clear U a8 a9 g1 g2 g3 g4 g5 f1 f2 f3 f4 f5 k1 e1 e2 q r u E F J hH a7;go_wp2_with fail;refine ⟨by grind, ?_⟩;refine tO 14 (h:=?_);go_wp2_with fail;refine b4.out.mono ?_;rintro e W4 ⟨v4,o4,rfl,W,b5⟩;obtain ⟨k1,e1,e2,q,g5⟩:=hE.out
 replace e1:=e1.step W (by unfold ak;omega)
 replace e2:=e2.step W (by unfold ak;omega)
 replace q:=q.step W (by unfold ak;omega)
 have r:=ag e1.1 0;have u:=e2.cell 0;have E:=q.cell 1;have F:=q.cell 3;have J:=q.cell 4;simp only [ay,ax] at r u E F J;unfold Uc at r;have b6:=aI r (aI u (aI E (aI F J)));have hG:=ae (aI (g5.trans (W.mono (T':=InT x R) fun _ h=>.inr h)) (k1.Anc hR hF.out.2.2.2.1 W b5));clear W b5 k1 e1 e2 q g5 r u E F J hE b4;go_wp2_with fail;refine ⟨by grind, ?_⟩;refine tD (h:=?_);clear b3 b6;go_wp2_with fail;go_ret;exact ⟨_,o4,rfl,hG.out.1,rfl,hG.out.2⟩
theorem Afu {w:World}{o:Own}{vs:List Value}(hl:vs.length=5) (q:vs.all (·.oneCell')=true) :
  ∃ W V oV,w.alloc (.cells #[.int .i64 0, .int .i64 0, .int .i64 0, .int .i64 0, .slice none 0 0] 104)=W/\(Instr.storeAt 104 (.pointer (some ⟨w.heap.size,0,none⟩)) (.agg vs.toArray)).run prog W = .ok () V/\aj ai w o V oV/\At0 V oV w.heap.size (.cells vs.toArray 104):=by
 obtain ⟨W,r,u,⟨E,-⟩,hb⟩:=AaC w o (.cells #[.int .i64 0, .int .i64 0, .int .i64 0, .int .i64 0, .slice none 0 0] 104);obtain ⟨V,F,J,O,-⟩:=hb.store (P:=prog) (cs:=[.int .i64 0, .int .i64 0, .int .i64 0, .int .i64 0, .slice none 0 0]) (ty:=104) (vs:=vs) E (by simp) om (by rw [hl];rfl) q;grind
theorem ArB (h:Pe w o R pg pn xs zs g) (k:Int) (E:¬ g.may k=0):Calls prog 16 #[.pointer (some ⟨pg,0,none⟩), .int .i64 k] w (XL ai w o fun v _ _=>v = .int .i64 1):=by
 obtain ⟨W,oW,q,⟨r,-⟩,hb⟩:=AaC w o (.cells #[.pointer (some ⟨pg,0,none⟩)] 22);have u:=h.step0 r;have F:=ae (ApY u.2.1 k E);obtain ⟨bn,cap,e1,-⟩:=u.1;have c1:=ag e1 1;simp only [ay,ax] at c1;unfold Uc at c1;rw [<-q] at c1;have XX:=ae q;have J:=ae r;clear h u q r hb e1 E;go_enter func16,ntmps16;go_wp2_with fail;rw [XX.out];refine F.out.mono ?_;rintro e W1 ⟨v1,o1,rfl,O,rfl⟩;obtain ⟨W2,V,oV,U,Y,a2,-⟩:=Afu (w:=W1) (o:=o1) (vs:=Asz) rfl rfl;have hF:=ae (J.out.trans (O.trans a2));have xO:=ae U;have a3:=ae Y;clear O a2 U Y F J
 go_wp2_with ((with_reducible apply AC);(try rw [xO.out]);exact a3.out)
 go_ret;exact ⟨_,oV,rfl,hF.out,rfl⟩
theorem AoA (h:Pe w o R pg pn xs zs g) (_b6:R ≠ 0) (b7:g.l.length<=4096) (n:Nat) (hn:n<g.l.length) (hl:GN.LOk g.n g.l[n]){T:Nat->Prop}{Q:Value->World->Own->Prop}(hT:T (R+2))
  (a9:g.cuts g.l[n].src g.l[n].dst=true->∀ (W:World) (q:Own),aj T w o W q->sV W q (R+2) pn g->aj (ak (R+2)) w o W q->Q (.int .i64 65) W q)
  (b3:g.cuts g.l[n].src g.l[n].dst=false->∀ (W:World) (q:Own) (bv:Value) (b1 b2:Nat),aj (ak (R+2)) w o W q->sV W q (R+2) pn (g.without n)->At0 W q b1 (.cells #[.pointer (some ⟨pg,0,none⟩)] 22)->At0 W q b2 (.cells (Aaa g.l[n] bv).toArray 104)->Bytes W q bv g.l[n].b ->
   Calls prog 43 #[.pointer (some ⟨pg,0,none⟩), .int .i64 (g.l[n].dst:Int), .func (.func 56) #[] #[.pointer (some ⟨b1,0,none⟩), .pointer (some ⟨b2,0,none⟩)]] W (XL T W q fun v w' o'=>(∃ er,v = .int .i64 er)/\Q v w' o')) :
  Calls prog 16 #[.pointer (some ⟨pg,0,none⟩), .int .i64 (n:Int)] w (XL T w o Q):=by
 obtain ⟨W,q,hW,⟨a3,-⟩,hb⟩:=AaC w o (.cells #[.pointer (some ⟨pg,0,none⟩)] 22);have hg:=h.step0 a3;have a4:=ae (Aoj hg.2.1 om om n hn hl);obtain ⟨bn,cap,e1,e2,-⟩:=hg.1;have c1:=ag e1 1;simp only [ay,ax] at c1;unfold Uc at c1;rw [<-hW] at c1;have XX:=ae hW;have u:=ae (aI a3 hb);have a5:=ae a9;have WV:=ae b3;clear h hg hW a3 hb e1 e2 hl a9 b3;go_enter func16,ntmps16;go_wp2_with fail;rw [XX.out];refine a4.out.mono ?_;rintro e W1 ⟨v1,o1,rfl,E,y1,y2⟩
 cases hc:g.cuts g.l[n].src g.l[n].dst with
 | true =>
  obtain ⟨rfl,F⟩:=y1 hc;obtain ⟨W2,V,oV,J,O,r,-⟩:=Afu (w:=W1) (o:=o1) (vs:=Asz) rfl rfl;have st:=((u.out.1.mono (T':=ak (R+2)) fun _ h=>h.elim).trans E).trans (r.mono (T':=ak (R+2)) fun _ h=>h.elim);have U:=ae (a5.out hc V oV (st.mono fun k (h:k=R+2)=>by grind) (F.step r id id) st);have Y:=ae (st.mono (T':=T) fun k (h:k=R+2)=>by grind);have xO:=ae J;have a2:=ae O;clear E r J O a4 u y1 y2 F st hc a5 WV
  go_wp2_with ((with_reducible apply AC);(try rw [xO.out]);exact a2.out;simp only [Act.put])
  go_ret;exact ⟨_,oV,rfl,Y.out,U.out⟩
 | false =>
  obtain ⟨bv,rfl,a6,F⟩:=y2 hc;obtain ⟨ba,bc,rfl⟩:=Aq a6;obtain ⟨W2,V,oV,J,O,r,a7⟩:=Afu (w:=W1) (o:=o1) (vs:=Aaa g.l[n] (.slice ba g.l[n].b.length bc)) rfl rfl;have st:=((u.out.1.mono (T':=ak (R+2)) fun _ h=>h.elim).trans E).trans (r.mono (T':=ak (R+2)) fun _ h=>h.elim);have a8:=(u.out.2.step E (by unfold ak;omega)).step r id;have k1:=a8.cell 0;have k2:=a7.cell 3;unfold Aaa at k2;simp only [ay,ax] at k1 k2;have U:=ae (WV.out hc V oV _ _ _ st (F.step r id id) a8 a7 (a6.step r id));have Y:=ae (st.mono (T':=T) fun k (h:k=R+2)=>by grind);have xO:=ae J;have a2:=ae O;clear E r J O a4 u y1 y2 F st hc a5 WV a8 a7 a6;unfold Aaa at a2 ⊢
  go_wp2_with ((with_reducible apply AC);(try rw [xO.out]);exact a2.out;simp only [Act.put])
  refine U.out.mono ?_;rintro e W5 ⟨v5,o5,rfl,b4,⟨er,rfl⟩,hq⟩;have yV:=ae hq;have b5:=ae (Y.out.trans b4);clear hq b4 U Y;go_wp2_with fail;go_ret;exact ⟨_,o5,rfl,b5.out,yV.out⟩
end
section
variable {w:World}{o:Own}{R pg pn K H Mx:Nat}{xs:List xI}{zs:List Am}{g:GN}{x:xI}{z:Am}{t:AZ}
theorem Akx {ba:Option Addr}{bn bc:Nat}{fs:List Int}(h:Pe w o R pg pn xs zs g) (hR:R ≠ 0) (hn:xs.length<=3) (i:Nat) (a2:xs[i]?=some x) (a8:zs[i]?=some z)
  (a5:R+20<=Mx/\∀ y ∈ xs,y.M+4<=Mx) (hf:Ints w o (.slice ba bn bc) fs) (a9:∀ a ∈ fs, -9223372036854775808<=a/\a<=9223372036854775807)
  (b4:z.s.d.row.length<=1000000) (hr:z.s.d.BJ fs=t.d) (hg:SG K H t) (hK:K<65536) (b5:t.d.pages.length<=400) {b3:Nat} (a6:At0 w o b1 (.cells #[.slice ba bn bc] 53)) (b6:At0 w o b2 (.cells #[.int .i64 (i:Int)] 3)) (b7:At0 w o b3 (.cells #[.pointer (some ⟨pg,0,none⟩)] 22)) :
  Calls prog 58 #[.pointer (some ⟨x.px,0,none⟩), .pointer (some ⟨b1,0,none⟩), .pointer (some ⟨b2,0,none⟩), .pointer (some ⟨b3,0,none⟩)] w
   (XL (aY x Mx) w o fun v w' o'=>v = .int .i64 0/\∃ x',Pe w' o' R pg pn (xs.set i x') (zs.set i (Am.new i xs.length t)) g):=by
 obtain ⟨h1,h2⟩:=h.2.2.2.2 i x z a2 a8;obtain ⟨t1,t2,t3⟩:=h.2.2.1.at' i x a2;have b8:=(List.getElem?_eq_some_iff.1 a2).1;have ML:x.D<=Mx/\x.D ≠ 0/\x.Q<=Mx/\x.Q ≠ 0/\x.Q ≠ x.D/\¬ ak x.D x.Q/\¬ ak x.D 0/\¬ ak x.D R/\¬ ak x.D (R+1):=by
  grind [ak]
 have a3:Bg w o x.D x.pd z.s.d:=by
  obtain ⟨_,_,_,_,_,_,_,_,_,_,_,hd⟩:=h2.store;omega
 have q:aj ai w o w.drew o:=(aj.refl ai w o).drew;have b9:=ae (jS (a3.step q id) ML.2.1 b4 (.slice ba bn bc) fs (hf.step q id) a9 hr);have hH:=ae (aI h (aI (h1.step q id) (aI (a6.step q id) (aI (b6.step q id) (aI (b7.step q id) (aI q (h.1.step q id id)))))));have c0:=ag h1.1 1;have q1:=a6.cell 0;simp only [ay,ax] at c0 q1;unfold Uc at c0;have hS:=aI c0 q1;have hF:=ae (aI a2 (aI hn (aI a5 (aI hg (aI hK (aI b5 b8))))));have a7:=ae ML;clear h h1 h2 a6 b6 b7 q a2 a8 q1 b8 a3 c0 hg hK b5 a5 b4 hr hf a9 ML t1 t2 t3 hn;go_enter func58,ntmps58;go_wp2_with fail;refine Aa (fun w'=>w'.cell? ⟨x.px,1,none⟩=some (.pointer (some ⟨x.pd,0,none⟩))/\w'.cell? ⟨b1,0,none⟩=some (.slice ba bn bc)) (fun _=>true) (by rfl) hS (fun e3=>?_);refine tq 0 (h:=tq 1 (h:=tq 2 (h:=tq 3 (h:=tq 4 (h:=tO 5 (h:=?_))))));go_wp2_with fail;refine b9.out.mono ?_;rintro e W3 ⟨v3,o3,rfl,U,rfl,a3⟩;obtain ⟨u,J,g3,g4,E,F,g7⟩:=hH.out;obtain ⟨d1,d2,d3,d4,d5,d6,O,d8,d9⟩:=a7.out;have e1:=J.step U d6;have e2:=g3.step U O;have r0:=ag e1.1 1;have r:=e2.cell 0;simp only [ay,ax] at r0 r;unfold Uc at r0;have c3:=aI r0 r;have hE:=ae (aI u (aI (F.mono (T':=ak x.D) (fun _ h=>h.elim) |>.trans U) (aI a3 (aI e1 (aI (g4.step U O) (aI (E.step U O) (g7.step U d8 d9)))))));clear U a3 u J g3 g4 E F g7 e1 e2 r0 r hH b9 d1 d2 d3 d4 d5 d6 O d8 d9;go_wp2_with fail;refine ⟨by grind, ?_⟩;refine tD (h:=?_);obtain ⟨u,J,g3,g4,E,F,g7⟩:=hE.out;obtain ⟨d1,d2,d3,d4,d5,d6,O,d8,d9⟩:=a7.out;obtain ⟨f1,f2,f3,f4,f5,f6,f7⟩:=hF.out;have q:aj ai W3 o3 W3.drew o3:=(aj.refl ai W3 o3).drew;have k4:=g4.step q id;have c4:=ae (Aiw (Mx:=Mx) k4.1 k4.2 d4 d1 d3 d5 d2 f4 f5 f6 (g3.step q id) i xs.length om f2 f7);obtain ⟨e4,cap,n1,n2,n3,n4,n5⟩:=g7;have r:=E.cell 0;have W:=F.cell 0;have Y:=ag n1 0;simp only [ay] at r W Y;have hT:=aI r (aI W Y);have c6:=ae (aI u (aI (J.trans (q.mono (T':=ak x.D) fun _ h=>h.elim)) (aI (E.step q id) (aI (F.step q id) (aI ((q.block pg (au n1) id).trans n1) (aI (Nat.lt_of_lt_of_le (au n1) q.size) ((q.own pg (au n1)).trans n2)))))));clear hE u J g3 g4 E F n1 n2 n3 n4 n5 d1 d2 d3 d4 d5 d6 O d8 d9 f1 f2 f3 f4 f5 f6 f7 q k4 r W Y c3 hS;go_wp2_with fail;refine Aa (fun w'=>w'.cell? ⟨b2,0,none⟩=some (.int .i64 (i:Int))/\w'.cell? ⟨b3,0,none⟩=some (.pointer (some ⟨pg,0,none⟩))/\w'.cell? ⟨pg,0,none⟩=some (.slice (some ⟨e4,0,none⟩) xs.length cap)) (fun _=>true) (by rfl) hT (fun e3=>?_);refine tq 0 (h:=tq 1 (h:=tq 2 (h:=tq 3 (h:=tq 4 (h:=tq 5 (h:=tq 6 (h:=tO 7 (h:=?_))))))));go_wp2_with fail;refine c4.out.mono ?_;rintro e W4 ⟨v4,o4,rfl,a4,rfl,ps,pz,c7,c8⟩;obtain ⟨u,J,E,F,n1,n2,n3⟩:=c6.out;obtain ⟨f1,f2,f3,f4,f5,f6,f7⟩:=hF.out;obtain ⟨t1,t2,t3⟩:=u.2.2.1.at' i x f1;have nn:¬ Adi x.Q Mx 0/\¬ Adi x.Q Mx R:=by unfold Adi;omega
 have r:=(E.step a4 nn.1).cell 0;have W:=(F.step a4 nn.1).cell 0;have Y:=ag ((a4.block pg n2 (by grind)).trans n1) 0;simp only [ay] at r W Y;have c9:=aI r (aI W Y);have st:=(J.mono (T':=aY x Mx) fun k (hk:k=x.D) => .inr (.inl hk)).trans (a4.mono (T':=aY x Mx) fun k hk=>by unfold Adi at hk;unfold aY;omega);have hG:=ae (aI st (u.reopen hR f2 f1 f3 st (x':=⟨x.Q,x.D,Mx,x.px,pz,ps,x.pd⟩) rfl rfl rfl rfl c7 c8));clear a4 c7 c8 u J E F n1 n2 n3 f1 f2 f3 f4 f5 f6 f7 t1 t2 t3 nn r W Y st c6 c4;go_wp2_with fail;refine ⟨by grind, ?_⟩;refine tq 8 (h:=tD (h:=?_));clear hT c9;go_wp2_with fail;go_ret;exact ⟨_,o4,rfl,hG.out.1,rfl,_,hG.out.2⟩
theorem AmH {r:Option Addr}{u E:Nat}{fs:List Int}(h:Pe w o R pg pn xs zs g) (hR:R ≠ 0) (hn:xs.length<=3) (i:Nat) (F:xs[i]?=some x) (O:zs[i]?=some z)
  (U:R+20<=Mx/\∀ y ∈ xs,y.M+4<=Mx) (Y:Ints w o (.slice r u E) fs) (a2:∀ a ∈ fs, -9223372036854775808<=a/\a<=9223372036854775807)
  (a3:z.s.d.row.length<=1000000) (hr:z.s.d.BJ fs=t.d) (hg:SG K H t) (hK:K<65536) (b1:t.d.pages.length<=400) :
  Calls prog 17 #[.pointer (some ⟨pg,0,none⟩), .int .i64 (i:Int), .slice r u E] w
   (XL (aY x Mx) w o fun v w' o'=>v = .int .i64 0/\∃ x',Pe w' o' R pg pn (xs.set i x') (zs.set i (Am.new i xs.length t)) g):=by
 obtain ⟨W,oW,hW,⟨q,-⟩,a4,a5,a6⟩:=Ajp w o (.cells #[.pointer (some ⟨pg,0,none⟩)] 22) (.cells #[.int .i64 (i:Int)] 3) (.cells #[.slice r u E] 53);have J:=h.step0 q;have ha:=ae (Acd J.1 i F 58 #[.pointer (some ⟨w.heap.size+1+1,0,none⟩), .pointer (some ⟨w.heap.size+1,0,none⟩), .pointer (some ⟨w.heap.size,0,none⟩)] _ Tryz.call58 (Akx J hR hn i F O U (Y.step q id) a2 a3 hr hg hK b1 a6 a5 a4) (fun e w' hq=>by obtain ⟨v, -,hv,-⟩:=hq;grind));have XX:=ae hW;have a7:=ae (q.mono (T':=aY x Mx) fun _ h=>h.elim);clear h J F O hW q a6 a5 a4 Y a2 a3 hr hg U;go_enter func17,ntmps17;go_wp2_with fail;rw [XX.out];refine ha.out.mono ?_;rintro e W1 ⟨v1,o1,rfl,a8,rfl,x',a9⟩;have hF:=ae (aI (a7.out.trans a8) a9);go_wp2_with fail;go_ret;exact ⟨_,o1,rfl,hF.out.1,rfl,_,hF.out.2⟩
end
theorem Acx {q:Func}{p:Tmp}{ty:TypeId}(h:q.results = #[.cell p ty]) (tmps:Array Value) (P:Program) (w:World) :
  (results q tmps).run P w=((asAddr (tmps.getD p undef)).run P w).andThen fun a w1=>(loadVar ty a).run P w1:=by
 simp_all [results]
section
variable {w:World}{o:Own}{R pg pn:Nat}{xs:List xI}{zs:List Am}{g:GN}{x:xI}{z:Am}
theorem Pe.step3 (h:Pe w o R pg pn xs zs g) (s:aj (ak (R+3)) w o w' o') (_U:R ≠ 0) (_W:xs.length<=3):Pe w' o' R pg pn xs zs g:=by
 obtain ⟨r,u,q,E⟩:=h;refine ⟨r.step s (by unfold ak;omega) (by unfold ak;omega),u.step s (by unfold ak;omega) (by unfold ak;omega),q,E.step s (by unfold ak;omega) fun x F=>?_⟩;obtain ⟨i,J,rfl⟩:=List.mem_iff_getElem.1 F;obtain ⟨Y,q2,q3⟩:=q.at' i _ (List.getElem?_eq_getElem J);grind [ak,KC]
theorem AmR (J:Afp w o x) (O:Bc w o x.D x.M x.pz x.ps x.pd z) (U:small z.s.kept.lines) (hb:AtT w o q (.cells [.int .u64 0, .int .u64 0, .slice none 0 0].toArray 37) (R+3,0)) :
  Calls prog 60 #[.pointer (some ⟨x.px,0,none⟩), .pointer (some ⟨q,0,none⟩)] w (XL (ak (R+3)) w o fun v w' o'=>v = .int .i64 0/\∃ lv base,Lines w' o' base lv z.s.kept.lines/\AtT w' o' q (.cells (BR z.s.kept.promised z.s.kept.current lv).toArray 37) (R+3,0)):=by
 have W:=ae (DJ O.store U);have Y:=ag J.1 2;simp only [ay,ax] at Y;unfold Uc at Y;have xZ:=ae hb;clear J O U hb;go_enter func60,ntmps60;go_wp2_with fail;refine W.out.mono ?_;rintro e W1 ⟨v1,o1,rfl,r,lv,rfl,hl,-⟩;obtain ⟨la,lc,rfl⟩:=hl.form;obtain ⟨X,u,E, -,a2⟩:=(xZ.out.step r id).store (P:=prog) (cs:=[.int .u64 0, .int .u64 0, .slice none 0 0]) (ty:=37) (vs:=BR z.s.kept.promised z.s.kept.current (.slice la z.s.kept.lines.length lc)) rfl Uz rfl;have F:=ae (aI ((r.mono (T':=ak (R+3)) fun _ h=>h.elim).trans E) (aI (hl.step E (by unfold ak;omega)) a2));unfold BR at u;have a3:=ae u;clear u E a2 hl r W xZ;go_wp2_with ((with_reducible apply AC);exact a3.out)
 go_ret;exact ⟨_,o1,rfl,F.out.1,rfl,_,_,F.out.2.1,F.out.2.2⟩
theorem AoT (h:Pe w o R pg pn xs zs g) (i:Nat) (r:xs[i]?=some x) (U:zs[i]?=some z) (Y:small z.s.kept.lines) :
  Calls prog 18 #[.pointer (some ⟨pg,0,none⟩), .int .i64 (i:Int)] w (XL (ak (R+3)) w o fun v w' o'=>∃ lv base,v=Dy z.s.kept.promised z.s.kept.current lv/\Lines w' o' base lv z.s.kept.lines):=by
 obtain ⟨W,oW,hW,⟨u,-⟩,hb⟩:=Akp w o (.cells #[.int .u64 0, .int .u64 0, .slice none 0 0] 37) (R+3,0);have E:=h.step0 u;obtain ⟨h1,h2⟩:=E.2.2.2.2 i x z r U;have ha:=ae (Acd E.1 i r 60 #[.pointer (some ⟨w.heap.size,0,none⟩)] _ Tryz.call60 (AmR h1 h2 Y hb) (fun e w' hq=>by obtain ⟨v, -,hv,-⟩:=hq;grind));have XX:=ae hW;have a2:=ae (u.mono (T':=ak (R+3)) fun _ h=>h.elim);clear h E hW u hb h1 h2 r U Y;go_enter func18,ntmps18;go_wp2_with fail;rw [XX.out];refine ha.out.mono ?_;rintro e W1 ⟨v1,o1,rfl,a3,rfl,lv,base,hl,q⟩;obtain ⟨la,lc,rfl⟩:=hl.form;obtain ⟨X,F,J, -,a4⟩:=q.store (P:=prog) (ty:=37) (vs:=BR z.s.kept.promised z.s.kept.current (.slice la z.s.kept.lines.length lc)) rfl Uz rfl;have d0:=ag q.1 0;have d1:=ag q.1 1;have d2:=ag q.1 2;unfold BR at d0 d1 d2 F;simp only [ay,ax] at d0 d1 d2;have O:=ae (aI ((a2.out.trans a3).trans J) (aI a4 (hl.step J (by unfold ak;omega))));have a5:=ae F;go_wp2_with ((with_reducible apply AC);exact a5.out)
 refine bodyPost_ret (AbQ rfl _ _ w.heap.size 37 _ (0,0) _ rfl O.out.2.1.1 underlying37 rfl Uz) rfl ?_;exact ⟨_,o1,rfl,O.out.1,_,_,rfl,O.out.2.2⟩
theorem AcK (W:Afp w o x) (Y:Bc w o x.D x.M x.pz x.ps x.pd z) (a2:small z.s.kept.lines) (hc:z.Ag<=z.s.kept.lines.length){r:Nat}(hb:AtT w o r (.cells [.slice none 0 0].toArray 35) (R+3,0)) :
  Calls prog 62 #[.pointer (some ⟨x.px,0,none⟩), .pointer (some ⟨r,0,none⟩)] w (XL (ak (R+3)) w o fun v w' o'=>v = .int .i64 0/\∃ lv base,Lines w' o' base lv (z.s.kept.lines.take z.Ag)/\AtT w' o' r (.cells [lv].toArray 35) (R+3,0)):=by
 have hk:=ae (QU Y a2 hc);have c0:=ag W.1 0;simp only [ay] at c0;unfold Uc at c0;have xZ:=ae hb;clear W Y a2 hb hc;go_enter func62,ntmps62;go_wp2_with fail;refine hk.out.mono ?_;rintro e W1 ⟨lv,o1,rfl,E,hl⟩;obtain ⟨F,J,rfl⟩:=hl.form;obtain ⟨N,O⟩:=az ((z.s.kept.lines.take z.Ag).length);rw [O];have q:=xZ.out.step E id;have k1:=ag q.1 0;have f1:=Ap q.1 0;simp only [ay] at k1;have U:=(aj.refl (ak (R+3)) W1 o1).setCell (a:=⟨r,0,none⟩) (.slice F N J) (.inl (by rw [q.2];rfl));have bX:=Ai (i:=0) (.slice F N J) q.1;have u:=ae (aI ((E.mono (T':=ak (R+3)) fun _ h=>h.elim).trans U) (aI (hl.step U (by unfold ak;omega)) (show AtT _ o1 r (.cells [.slice F N J].toArray 35) (R+3,0) from ⟨bX,q.2⟩)));have a3:=ae O;go_wp2_with fail;go_ret;rw [<-a3.out] at u ⊢;exact ⟨_,o1,rfl,u.out.1,rfl,_,_,u.out.2.1,u.out.2.2⟩
theorem Ado (h:Pe w o R pg pn xs zs g) (i:Nat) (r:xs[i]?=some x) (Y:zs[i]?=some z) (a2:small z.s.kept.lines) (hc:z.Ag<=z.s.kept.lines.length) :
  Calls prog 19 #[.pointer (some ⟨pg,0,none⟩), .int .i64 (i:Int)] w (XL (ak (R+3)) w o fun v w' o'=>∃ base,Lines w' o' base v (z.s.kept.lines.take z.Ag)):=by
 obtain ⟨W,oW,hW,⟨u,-⟩,hb⟩:=Akp w o (.cells #[.slice none 0 0] 35) (R+3,0);have E:=h.step0 u;obtain ⟨h1,h2⟩:=E.2.2.2.2 i x z r Y;have ha:=ae (Acd E.1 i r 62 #[.pointer (some ⟨w.heap.size,0,none⟩)] _ Tryz.call62 (AcK h1 h2 a2 hc hb) (fun e w' hq=>by obtain ⟨v, -,hv,-⟩:=hq;grind));have XX:=ae hW;have a3:=ae (u.mono (T':=ak (R+3)) fun _ h=>h.elim);clear h E hW u hb h1 h2 r Y a2 hc;go_enter func19,ntmps19;go_wp2_with fail;rw [XX.out];refine ha.out.mono ?_;rintro e W1 ⟨v1,o1,rfl,a4,rfl,lv,base,hl,q⟩;obtain ⟨F,J,rfl⟩:=hl.form;obtain ⟨N,O⟩:=az ((z.s.kept.lines.take z.Ag).length);rw [O] at q hl;have k1:=ag q.1 0;have f1:=Ap q.1 0;simp only [ay] at k1;have U:=(aj.refl (ak (R+3)) W1 o1).setCell (a:=⟨w.heap.size,0,none⟩) (.slice F N J) (.inl (by rw [q.2];rfl));have bX:=Ai (i:=0) (.slice F N J) q.1;have k2:=ag bX 0;have hF:=ae (aI ((a3.out.trans a4).trans U) (hl.step U (by unfold ak;omega)));go_wp2_with fail;refine bodyPost_ret (v := .slice F N J) (by rw [Acx rfl];go_simp) rfl ?_;exact ⟨_,o1,rfl,hF.out.1,_,hF.out.2⟩
end
section
variable {w:World}{o:Own}{R pg pn:Nat}{xs:List xI}{zs:List Am}{g:GN}
theorem Acn (h:AeE w o R pg pn xs) (q:Nat) (cp:Array Value) (Q:Ending->World->Prop)
  (U:∀ (args:Array Value) (x:World),(callFunc q args).run prog x = .ok (.enter q args) x)
  (hq:Calls prog q (#[Uc pn]++cp) w Q) (u:∀ e w',Q e w'->∃ v,e = .returned v) :
  Calls prog 64 #[.pointer (some ⟨pg,0,none⟩), .func (.func q) #[] cp] w Q:=by
 obtain ⟨Y,cap,E,-⟩:=h;have c1:=ag E 1;simp only [ay,ax] at c1;have F:=ae hq;have J:=ae u;clear E hq u;unfold Uc at c1 F;go_enter func64,ntmps64;go_wp2_with fail;refine F.out.mono ?_;intro e W r;obtain ⟨v,rfl⟩:=J.out e W r;have O:=ae r;clear r;go_wp2_with fail;exact O.out
theorem Ahx (h:sV w o (R+2) pn g) (O:g.l.length<=4096) (k:Int) (r:At0 w o q (.cells #[.int .i64 k] 3)) :
  Calls prog 77 #[.pointer (some ⟨pn,0,none⟩), .pointer (some ⟨q,0,none⟩)] w (XL (ak (R+2)) w o fun v w' o'=>v = .int .i64 (g.drop k).2/\sV w' o' (R+2) pn (g.drop k).1):=by
 have hc:=ae (AjK h om om k);have F:=r.cell (cs:=[.int .i64 k]) 0;obtain ⟨Z,J⟩:=az (g.drop k);rw [J] at hc ⊢;go_enter func77,ntmps77;go_wp2_with fail;refine hc.out.mono ?_;rintro e U ⟨W,o1,rfl,u,rfl,hn⟩;have E:=ae (aI u hn);go_wp2_with fail;go_ret;exact ⟨_,o1,rfl,E.out.1,rfl,E.out.2⟩
theorem Akw (h:Pe w o R pg pn xs zs g) (hR:R ≠ 0) (hn:xs.length<=3) (a2:g.l.length<=4096) (k:Int) :
  Calls prog 35 #[.pointer (some ⟨pg,0,none⟩), .int .i64 k] w (XL (ak (R+2)) w o fun v w' o'=>v = .int .i64 (g.drop k).2/\Pe w' o' R pg pn xs zs (g.drop k).1):=by
 obtain ⟨W,oW,J,⟨r,-⟩,O⟩:=AaC w o (.cells #[.int .i64 k] 3);have q:=h.step0 r;have u:=ae (Acn q.1 77 #[.pointer (some ⟨w.heap.size,0,none⟩)] _ Tryz.call77 (Ahx q.2.1 a2 k O) (fun e w' hq=>by obtain ⟨v, -,hv,-⟩:=hq;grind));have E:=ae (aI q (r.mono (T':=ak (R+2)) fun _ h=>h.elim));have XX:=ae J;clear h q J r O;obtain ⟨Z,hZ⟩:=az (g.drop k);rw [hZ] at u ⊢;go_enter func35,ntmps35;go_wp2_with fail;rw [XX.out];refine u.out.mono ?_;rintro e W1 ⟨v1,o1,rfl,F,rfl,U⟩;have Y:=ae (aI (E.out.2.trans F) (E.out.1.Anc hR hn F U));go_wp2_with fail;go_ret;exact ⟨_,o1,rfl,Y.out.1,rfl,Y.out.2⟩
theorem Ahw (h:sV w o (R+2) pn g) (O:g.l.length<=4096) (k:Int) (r:At0 w o q (.cells #[.int .i64 k] 3)) :
  Calls prog 81 #[.pointer (some ⟨pn,0,none⟩), .pointer (some ⟨q,0,none⟩)] w (XL (ak (R+2)) w o fun v w' o'=>v = .int .i64 (g.hold k).2/\sV w' o' (R+2) pn (g.hold k).1):=by
 have hc:=ae (AjJ h om om k);have F:=r.cell (cs:=[.int .i64 k]) 0;obtain ⟨Z,J⟩:=az (g.hold k);rw [J] at hc ⊢;go_enter func81,ntmps81;go_wp2_with fail;refine hc.out.mono ?_;rintro e U ⟨W,o1,rfl,u,rfl,hn⟩;have E:=ae (aI u hn);go_wp2_with fail;go_ret;exact ⟨_,o1,rfl,E.out.1,rfl,E.out.2⟩
theorem Aku (h:Pe w o R pg pn xs zs g) (hR:R ≠ 0) (hn:xs.length<=3) (a2:g.l.length<=4096) (k:Int) :
  Calls prog 37 #[.pointer (some ⟨pg,0,none⟩), .int .i64 k] w (XL (ak (R+2)) w o fun v w' o'=>v = .int .i64 (g.hold k).2/\Pe w' o' R pg pn xs zs (g.hold k).1):=by
 obtain ⟨W,oW,J,⟨r,-⟩,O⟩:=AaC w o (.cells #[.int .i64 k] 3);have q:=h.step0 r;have u:=ae (Acn q.1 81 #[.pointer (some ⟨w.heap.size,0,none⟩)] _ Tryz.call81 (Ahw q.2.1 a2 k O) (fun e w' hq=>by obtain ⟨v, -,hv,-⟩:=hq;grind));have E:=ae (aI q (r.mono (T':=ak (R+2)) fun _ h=>h.elim));have XX:=ae J;clear h q J r O;obtain ⟨Z,hZ⟩:=az (g.hold k);rw [hZ] at u ⊢;go_enter func37,ntmps37;go_wp2_with fail;rw [XX.out];refine u.out.mono ?_;rintro e W1 ⟨v1,o1,rfl,F,rfl,U⟩;have Y:=ae (aI (E.out.2.trans F) (E.out.1.Anc hR hn F U));go_wp2_with fail;go_ret;exact ⟨_,o1,rfl,Y.out.1,rfl,Y.out.2⟩
theorem Aet (h:sV w o (R+2) pn g) (U:g.l.length<=4096) (F:∀ x ∈ g.l,x.b.length<=4000000) (k:Int) (r:At0 w o q (.cells #[.int .i64 k] 3)) :
  Calls prog 79 #[.pointer (some ⟨pn,0,none⟩), .pointer (some ⟨q,0,none⟩)] w (XL (ak (R+2)) w o fun v w' o'=>v = .int .i64 (g.double k).2/\sV w' o' (R+2) pn (g.double k).1):=by
 have hc:=ae (AfP h om om F k);have J:=r.cell (cs:=[.int .i64 k]) 0;obtain ⟨Z,O⟩:=az (g.double k);rw [O] at hc ⊢;go_enter func79,ntmps79;go_wp2_with fail;refine hc.out.mono ?_;rintro e W ⟨Y,o1,rfl,u,rfl,hn⟩;have E:=ae (aI u hn);go_wp2_with fail;go_ret;exact ⟨_,o1,rfl,E.out.1,rfl,E.out.2⟩
theorem AgW (h:Pe w o R pg pn xs zs g) (hR:R ≠ 0) (hn:xs.length<=3) (a2:g.l.length<=4096) (a3:∀ x ∈ g.l,x.b.length<=4000000) (k:Int) :
  Calls prog 36 #[.pointer (some ⟨pg,0,none⟩), .int .i64 k] w (XL (ak (R+2)) w o fun v w' o'=>v = .int .i64 (g.double k).2/\Pe w' o' R pg pn xs zs (g.double k).1):=by
 obtain ⟨W,oW,J,⟨r,-⟩,O⟩:=AaC w o (.cells #[.int .i64 k] 3);have q:=h.step0 r;have u:=ae (Acn q.1 79 #[.pointer (some ⟨w.heap.size,0,none⟩)] _ Tryz.call79 (Aet q.2.1 a2 a3 k O) (fun e w' hq=>by obtain ⟨v, -,hv,-⟩:=hq;grind));have E:=ae (aI q (r.mono (T':=ak (R+2)) fun _ h=>h.elim));have XX:=ae J;clear h q J r O;obtain ⟨Z,hZ⟩:=az (g.double k);rw [hZ] at u ⊢;go_enter func36,ntmps36;go_wp2_with fail;rw [XX.out];refine u.out.mono ?_;rintro e W1 ⟨v1,o1,rfl,F,rfl,U⟩;have Y:=ae (aI (E.out.2.trans F) (E.out.1.Anc hR hn F U));go_wp2_with fail;go_ret;exact ⟨_,o1,rfl,Y.out.1,rfl,Y.out.2⟩
theorem AkE (h:sV w o (R+2) pn g) (a b:Int){r:Nat}(u:At0 w o q (.cells #[.int .i64 a] 3)) (E:At0 w o r (.cells #[.int .i64 b] 3)) :
  Calls prog 65 #[.pointer (some ⟨pn,0,none⟩), .pointer (some ⟨q,0,none⟩), .pointer (some ⟨r,0,none⟩)] w (XL (ak (R+2)) w o fun v w' o'=>v = .int .i64 (g.turn a b true).2/\sV w' o' (R+2) pn (g.turn a b true).1):=by
 have hc:=ae (AkG h om a b);have O:=u.cell (cs:=[.int .i64 a]) 0;have U:=E.cell (cs:=[.int .i64 b]) 0;simp only [ay] at O U;clear h u E;obtain ⟨Z,W⟩:=az (g.turn a b true);rw [W] at hc ⊢;go_enter func65,ntmps65;go_wp2_with fail;refine hc.out.mono ?_;rintro e Y ⟨v1,o1,rfl,F,rfl,hn⟩;have J:=ae (aI F hn);go_wp2_with fail;go_ret;exact ⟨_,o1,rfl,J.out.1,rfl,J.out.2⟩
theorem AkP (h:Pe w o R pg pn xs zs g) (hR:R ≠ 0) (hn:xs.length<=3) (a b:Int) :
  Calls prog 23 #[.pointer (some ⟨pg,0,none⟩), .int .i64 a, .int .i64 b] w (XL (ak (R+2)) w o fun v w' o'=>v = .int .i64 (g.turn a b true).2/\Pe w' o' R pg pn xs zs (g.turn a b true).1):=by
 obtain ⟨W,oW,J,⟨r,-⟩,O,U⟩:=Ajq w o (.cells #[.int .i64 a] 3) (.cells #[.int .i64 b] 3);have q:=h.step0 r;have u:=ae (Acn q.1 65 #[.pointer (some ⟨w.heap.size,0,none⟩), .pointer (some ⟨w.heap.size+1,0,none⟩)] _ Tryz.call65 (AkE q.2.1 a b O U) (fun e w' hq=>by obtain ⟨v, -,hv,-⟩:=hq;grind));have E:=ae (aI q (r.mono (T':=ak (R+2)) fun _ h=>h.elim));have XX:=ae J;clear h q J r O U;obtain ⟨Z,hZ⟩:=az (g.turn a b true);rw [hZ] at u ⊢;go_enter func23,ntmps23;go_wp2_with fail;rw [XX.out];refine u.out.mono ?_;rintro e W1 ⟨v1,o1,rfl,F,rfl,Y⟩;have hF:=ae (aI (E.out.2.trans F) (E.out.1.Anc hR hn F Y));go_wp2_with fail;go_ret;exact ⟨_,o1,rfl,hF.out.1,rfl,hF.out.2⟩
theorem Axi (h:sV w o (R+2) pn g) (a b:Int){r:Nat}(u:At0 w o q (.cells #[.int .i64 a] 3)) (E:At0 w o r (.cells #[.int .i64 b] 3)) :
  Calls prog 83 #[.pointer (some ⟨pn,0,none⟩), .pointer (some ⟨q,0,none⟩), .pointer (some ⟨r,0,none⟩)] w (XL (ak (R+2)) w o fun v w' o'=>v = .int .i64 (g.turn a b false).2/\sV w' o' (R+2) pn (g.turn a b false).1):=by
 have hc:=ae (Axz h om a b);have O:=u.cell (cs:=[.int .i64 a]) 0;have U:=E.cell (cs:=[.int .i64 b]) 0;simp only [ay] at O U;clear h u E;obtain ⟨Z,W⟩:=az (g.turn a b false);rw [W] at hc ⊢;go_enter func83,ntmps83;go_wp2_with fail;refine hc.out.mono ?_;rintro e Y ⟨v1,o1,rfl,F,rfl,hn⟩;have J:=ae (aI F hn);go_wp2_with fail;go_ret;exact ⟨_,o1,rfl,J.out.1,rfl,J.out.2⟩
theorem AxA (h:Pe w o R pg pn xs zs g) (hR:R ≠ 0) (hn:xs.length<=3) (a b:Int) :
  Calls prog 38 #[.pointer (some ⟨pg,0,none⟩), .int .i64 a, .int .i64 b] w (XL (ak (R+2)) w o fun v w' o'=>v = .int .i64 (g.turn a b false).2/\Pe w' o' R pg pn xs zs (g.turn a b false).1):=by
 obtain ⟨W,oW,J,⟨r,-⟩,O,U⟩:=Ajq w o (.cells #[.int .i64 a] 3) (.cells #[.int .i64 b] 3);have q:=h.step0 r;have u:=ae (Acn q.1 83 #[.pointer (some ⟨w.heap.size,0,none⟩), .pointer (some ⟨w.heap.size+1,0,none⟩)] _ Tryz.call83 (Axi q.2.1 a b O U) (fun e w' hq=>by obtain ⟨v, -,hv,-⟩:=hq;grind));have E:=ae (aI q (r.mono (T':=ak (R+2)) fun _ h=>h.elim));have XX:=ae J;clear h q J r O U;obtain ⟨Z,hZ⟩:=az (g.turn a b false);rw [hZ] at u ⊢;go_enter func38,ntmps38;go_wp2_with fail;rw [XX.out];refine u.out.mono ?_;rintro e W1 ⟨v1,o1,rfl,F,rfl,Y⟩;have hF:=ae (aI (E.out.2.trans F) (E.out.1.Anc hR hn F Y));go_wp2_with fail;go_ret;exact ⟨_,o1,rfl,hF.out.1,rfl,hF.out.2⟩
end
namespace PG
def net (p:PG):GN:=⟨p.ys.length,Ua p.ls,p.cut⟩
def drop (p:PG) (k:Int):PG:=if 0<=k/\k<(p.ls.length:Int) then { p with ls:=p.ls.take k.toNat++p.ls.drop (k.toNat+1) } else p
def hold (p:PG) (k:Int):PG:=if 0<=k/\k<(p.ls.length:Int) then { p with ls:=p.ls.take k.toNat++p.ls.drop (k.toNat+1)++(p.ls[k.toNat]?).toList } else p
def double (p:PG) (k:Int):PG:=if 0<=k/\k<(p.ls.length:Int) then (if 4096<=p.ls.length then p else { p with ls:=p.ls++(p.ls[k.toNat]?).toList }) else p
theorem Aco (p:PG) (k:Int):(p.net.may k=0)=(0<=k/\k<(p.ls.length:Int)):=by
 simp [GN.may,net,AaL]
theorem Aew (l:List (Nat × Nat × BG)) (k:Nat):((Ua l)[k]?).toList=Ua (l[k]?).toList:=by
 grind [Ua]
theorem AeA (a b:List (Nat × Nat × BG)):Ua a++Ua b=Ua (a++b):=by simp [Ua]
theorem AkU (p:PG) (k:Int):(p.net.drop k).1=(p.drop k).net:=by
 unfold GN.drop drop
 by_cases h:0<=k/\k<(p.ls.length:Int)
 ·rw [if_pos h,if_pos (by rw [Aco];omega)];exact AiT _ _ _ _
 simp_all [if_neg,Aco]
theorem AkH (p:PG) (k:Int):(p.net.hold k).1=(p.hold k).net:=by
 unfold GN.hold hold
 by_cases h:0<=k/\k<(p.ls.length:Int)
 ·rw [if_pos h,if_pos (by rw [Aco];omega),show p.net.without k.toNat=_ from AiT _ _ _ _];show (⟨_,Ua _++((Ua p.ls)[k.toNat]?).toList,_⟩:GN)=_;rw [Aew,AeA];rfl
 simp_all [if_neg,Aco]
theorem Ahy (p:PG) (k:Int):(p.net.double k).1=(p.double k).net:=by
 unfold GN.double double
 by_cases h:0<=k/\k<(p.ls.length:Int)
 ·rw [if_pos h,if_pos (by rw [Aco];omega)]
  by_cases q:4096<=p.ls.length
  simp_all [net,AaL]
  simp_all [if_neg,net,Ua]
 simp_all [if_neg,Aco]
theorem Ahp (p:PG) (k:Int):∀ x ∈ (p.drop k).ls,x ∈ p.ls:=by
 grind [drop]
theorem AhC {α:Type}{l:List α}{x:α}(h:x ∈ (l[k]?).toList):x ∈ l:=by
 grind
theorem Agr (p:PG) (k:Int):∀ x ∈ (p.hold k).ls,x ∈ p.ls:=by
 grind [hold]
theorem Adr (p:PG) (k:Int):∀ x ∈ (p.double k).ls,x ∈ p.ls:=by
 grind [double]
theorem AkW (p:PG) (k:Int) (h:p.ls.length<=4096):(p.drop k).ls.length<=4096:=by
 grind [drop]
theorem AhK {α:Type}(l:List α) (k:Nat):((l[k]?).toList).length<=1:=by simp
theorem AkI (p:PG) (k:Int) (h:p.ls.length<=4096):(p.hold k).ls.length<=4096:=by
 grind [hold]
theorem AhA (p:PG) (k:Int) (h:p.ls.length<=4096):(p.double k).ls.length<=4096:=by
 grind [double]
theorem Aeq (p:PG) (k:Int):(p.drop k).ys=p.ys/\(p.drop k).off=p.off/\(p.drop k).cut=p.cut:=by unfold drop;grind
theorem Aeo (p:PG) (k:Int):(p.hold k).ys=p.ys/\(p.hold k).off=p.off/\(p.hold k).cut=p.cut:=by unfold hold;grind
theorem AcD (p:PG) (k:Int):(p.double k).ys=p.ys/\(p.double k).off=p.off/\(p.double k).cut=p.cut:=by
 unfold double;grind
end PG
structure Lone (y:Aj):Prop where
 id:y.id=0
 n:y.n=3
 co:y.Ag=0
 ls:y.k.lines=[]
 cu:y.k.current=0
 ro:y.BB = .follows \/ ∃ e,y.BB = .stands e [some (0,[]),none,none]
structure AaE (N:Nat) (p:PG):Prop where
 n:p.ys.length=3
 y:∃ y,p.ys[0]?=some y/\Lone y
 w:∀ y ∈ p.ys,y.waited<=N
 off:p.off=[false,true,true]
 c1:p.cuts 0 1=true
 c2:p.cuts 0 2=true
 l:∀ x ∈ p.ls,x.1=0/\(x.2.1=1 \/ x.2.1=2)
namespace AaE
variable {N:Nat}{p:PG}
end AaE
def Adc:PG:=⟨(PG.new 3).ys,[false,true,true],[],GN.Awx (GN.Awx [] 0 1 true) 0 2 true⟩

end Go.Proofs.YtffkdillijmamaaGreat
