/- A node of a group (plain law, no program): what it does at a tick, at a message, at a proposal. -/
import Derived.Shelf.SlSortCmp.Small
import Derived.Shelf.SlIterI.Sorted
import Derived.Shelf.SlIterI.Keys
import Derived.Shelf.SlIterI.Nil
import Derived.Shelf.SortM.Plain
import Derived.Shelf.SortM.SortNone
import Derived.Ground.SlsfProg
import Derived.Ground.GgzProg
import Derived.Ground.SlgmProg
import Derived.Ground.NamesProg
import Derived.Shelf.Small.Bits
import Derived.Shelf.Strconv.Itoa0
import Derived.Shelf.Bits.Mul64
import Derived.Ground.Names2Prog
import Derived.Shelf.Slices.Clone
import Derived.Shelf.Slices.SearchI
import Derived.Ground.SlgnProg
import Derived.Shelf.SlicesE.Clone
import Derived.Test.YtffkdillijmamaaGreatProg
import Derived.Outline
import Derived.Test.YtffkdillijmamaaGreatGj1
import Derived.Test.YtffkdillijmamaaGreatGj2
import Derived.Test.YtffkdillijmamaaGreatGj7
namespace Go.Proofs.YtffkdillijmamaaGreat
open Go.Proofs.Tryz
set_option maxRecDepth 100000
set_option maxHeartbeats 3200000
open Go Go.RowKit
inductive Adl where
 | follows:Adl
 | stands (mine:BitVec 64) (has:List (Option (BitVec 64 × List Ar))):Adl
 | leads (mine:BitVec 64) (nR:List Int) (base:Nat) (ready:Bool):Adl
structure Aj where
 id:Nat
 n:Nat
 k:AX
 BB:Adl
 waited:Nat
 seen:BitVec 64
 Ag:Nat
abbrev DX:=List (Nat × BG)
def PQ (after:BitVec 64) (id n:Nat):BitVec 64:=
 if 281474976710656<after.toNat then 0 else BitVec.ofNat 64 (after.toNat+1+(id+n - (after.toNat+1) % n) % n)
def Fj (a b:BitVec 64):BitVec 64:=if a.toNat<b.toNat then b else a
def Jw (p q:BitVec 64 × List Ar):Bool:=decide (q.1.toNat<p.1.toNat) || (p.1 == q.1 && decide (q.2.length<p.2.length))
def EW (b:Option (BitVec 64 × List Ar)) (x:Option (BitVec 64 × List Ar)):Option (BitVec 64 × List Ar):=
 match x,b with
 | none,b=>b
 | some p,none=>some p
 | some p,some q=>if Jw p q then some p else some q
def Qr (l:List (Option (BitVec 64 × List Ar))):Option (BitVec 64 × List Ar):=l.foldl EW none
def CW:List Int->Int
 | [a]=>a
 | [a,b]=>min a b
 | [a,b,c]=>max (min a b) (min (max a b) c)
 | _=>0
namespace Aj
def new (id n:Nat) (k:AX):Aj:=⟨id,n,k, .follows,0,0,0⟩
def others (z:Aj) (m:Nat->BG):DX:=((List.range z.n).filter fun i=>i != z.id).map fun i=>(i,m i)
def follow (z:Aj):Aj:={ z with BB := .follows,waited:=0 }
def owns (z:Aj) (src:Nat) (e:BitVec 64):Bool:=e.toNat % z.n == src
def refuse (z:Aj) (src:Nat):DX:=[(src,⟨3,z.k.promised,0,0,0,[]⟩)]
def ack (z:Aj) (src:Nat) (e:BitVec 64):DX:=[(src,⟨6,e,0,z.k.lines.length,0,[]⟩)]
def OD (z:Aj):Bool:=match z.BB with
 | .leads _ _ _ r=>r
 | _=>false
def count (z:Aj) (mine:BitVec 64) (nR:List Int) (base:Nat) (ready:Bool):Aj:=
 let m:=nR.set z.id z.k.lines.length
 if (base:Int)<=CW m then { z with BB := .leads mine m base true,Ag:=max z.Ag (CW m).toNat } else { z with BB := .leads mine m base ready }
def lead (z:Aj) (mine:BitVec 64) (has:List (Option (BitVec 64 × List Ar))):Aj × DX:=
 if 2*(has.filter Option.isSome).length<=z.n then (z,[]) else
 match Qr has with
 | none=>(z,[])
 | some p =>
  if (z.k.Ee mine p.2).2=0 then
   let z1:Aj:={ z with k:=(z.k.Ee mine p.2).1,Ag:=min z.Ag p.2.length }
   (z1.count mine (List.replicate z.n (-1)) p.2.length false,z.others fun _=>⟨4,mine,0,0,0,p.2⟩)
  else (z.follow,[])
def stand (z:Aj):Aj × DX:=
 let e:=PQ (Fj z.k.promised z.seen) z.id z.n
 if e=0 then (z,[]) else
 if (z.k.CQ e).2=0 then
  let has:=(List.replicate z.n none).set z.id (some (z.k.current,z.k.lines))
  let z1:Aj:={ z with k:=(z.k.CQ e).1,BB := .stands e has,waited:=0 }
  ((z1.lead e has).1,(z.others fun _=>⟨1,e,0,0,0,[]⟩)++(z1.lead e has).2)
 else (z,[])
def tick (z:Aj):Aj × DX:=
 match z.BB with
 | .leads mine nR _ _ =>
  (z,z.others fun i=>if nR.getD i 0<0 then ⟨4,mine,0,0,0,z.k.lines⟩ else ⟨5,mine,0,(nR.getD i 0).toNat,z.Ag,z.k.lines.drop (nR.getD i 0).toNat⟩)
 | _ =>
  let z1:Aj:={ z with waited:=z.waited+1 }
  if 3+2*z.id<z.waited+1 then z1.stand else (z1,[])
def BK (z:Aj) (src:Nat) (m:BG):Aj × DX:=
 if !z.owns src m.e then (z,[]) else
 if m.e.toNat<=z.k.promised.toNat then (z,z.refuse src) else
 if (z.k.CQ m.e).2=0 then
  ({ z with k:=(z.k.CQ m.e).1 }.follow,[(src,⟨2,m.e,z.k.current,0,0,z.k.lines⟩)])
 else (z,[])
def Bj (z:Aj) (src:Nat) (m:BG):Aj × DX:=
 match z.BB with
 | .stands mine has =>
  if mine ≠ m.e \/ m.e.toNat<=m.c.toNat then (z,[]) else
  let uJ:=if (has.getD src none).isSome then has else has.set src (some (m.c,m.ls))
  { z with BB := .stands mine uJ }.lead mine uJ
 | _=>(z,[])
def mine (z:Aj):BitVec 64:=match z.BB with
 | .follows=>0
 | .stands e _=>e
 | .leads e _ _ _=>e
def follows (z:Aj):Bool:=match z.BB with
 | .follows=>true
 | _=>false
def Cj (z:Aj) (m:BG):Aj × DX:=(if !z.follows && decide (z.mine.toNat<m.e.toNat) then z.follow else z,[])
def BD (z:Aj) (src:Nat) (m:BG):Aj × DX:=
 if !z.owns src m.e then (z,[]) else
 if m.e.toNat<z.k.promised.toNat then (z,z.refuse src) else
 if z.k.current=m.e then (z.follow,z.ack src m.e) else
 if (z.k.Ee m.e m.ls).2=0 then
  let z1:Aj:={ z with k:=(z.k.Ee m.e m.ls).1,Ag:=min z.Ag m.ls.length }
  (z1.follow,z1.ack src m.e)
 else (z,[])
def BF (z:Aj) (src:Nat) (m:BG):Aj × DX:=
 if !z.owns src m.e then (z,[]) else
 if m.e.toNat<z.k.promised.toNat then (z,z.refuse src) else
 if z.k.promised ≠ m.e \/ z.k.current ≠ m.e then (z,[]) else
 let z1:=z.follow
 if z.k.lines.length<m.at' then (z1,[]) else
 let more:=m.ls.drop (z.k.lines.length - m.at')
 if more=[] then
  let z2:Aj:={ z1 with Ag:=max z.Ag (min m.com z.k.lines.length) }
  (z2,z2.ack src m.e)
 else if (z.k.Cm more).2=0 then
  let z2:Aj:={ z1 with k:=(z.k.Cm more).1,Ag:=max z.Ag (min m.com (z.k.Cm more).1.lines.length) }
  (z2,z2.ack src m.e)
 else (z1,[])
def CJ (z:Aj) (src:Nat) (m:BG):Aj × DX:=
 match z.BB with
 | .leads mine nR base ready =>
  if mine=m.e then (z.count mine (nR.set src (max (nR.getD src 0) (min m.at' z.k.lines.length:Nat))) base ready,[]) else (z,[])
 | _=>(z,[])
def hear (z:Aj) (src:Nat) (m:BG):Aj × DX:=
 let z1:Aj:={ z with seen:=Fj z.seen m.e }
 if m.k=1 then z1.BK src m else if m.k=2 then z1.Bj src m else if m.k=3 then z1.Cj m else
 if m.k=4 then z1.BD src m else if m.k=5 then z1.BF src m else z1.CJ src m
def BL (z:Aj) (b:List UInt8):Aj × Int:=
 if b.length=0 \/ 4096<b.length then (z,1) else
 match z.BB with
 | .leads mine nR base true =>
  if 256<=z.k.lines.length then (z,4) else
  if (z.k.Cm [⟨mine,b⟩]).2=0 then ({ z with k:=(z.k.Cm [⟨mine,b⟩]).1 }.count mine nR base true,0) else (z,(z.k.Cm [⟨mine,b⟩]).2)
 | _=>(z,64)
end Aj
theorem GM {k:AX}{e:BitVec 64}(h:(k.CQ e).2=0):(k.CQ e).1={ k with promised:=e }:=by
 unfold AX.CQ at h ⊢;grind
theorem IZ {k:AX}{e:BitVec 64}{ls:List Ar}(h:(k.Ee e ls).2=0):(k.Ee e ls).1=⟨e,e,ls⟩:=by
 unfold AX.Ee at h ⊢;grind
theorem Ih {k:AX}{ls:List Ar}(h:(k.Cm ls).2=0):(k.Cm ls).1={ k with lines:=k.lines++ls }:=by
 unfold AX.Cm at h ⊢;grind
namespace Aj
def Same (x y:Aj):Prop:=x.k=y.k/\x.Ag=y.Ag/\x.OD=y.OD
def Ec (z:Aj) (src:Nat) (m:BG):Aj × DX:=
 if m.k=1 then z.BK src m else if m.k=2 then z.Bj src m else if m.k=3 then z.Cj m else
 if m.k=4 then z.BD src m else if m.k=5 then z.BF src m else z.CJ src m
theorem MZ (z:Aj) (src:Nat) (m:BG):z.hear src m=({ z with seen:=Fj z.seen m.e }:Aj).Ec src m:=rfl
theorem EU (z:Aj) (mine:BitVec 64) (nR:List Int) (base:Nat) (ready:Bool):(z.count mine nR base ready).seen=z.seen/\(z.count mine nR base ready).k=z.k/\(z.count mine nR base ready).id=z.id/\(z.count mine nR base ready).n=z.n:=by
 unfold count;grind
theorem YN (z:Aj) (mine:BitVec 64) (has:List (Option (BitVec 64 × List Ar))):(z.lead mine has).1.seen=z.seen/\(z.lead mine has).1.id=z.id/\(z.lead mine has).1.n=z.n:=by
 unfold lead;split
 simp
 ·split
  simp
  ·split
   simp [EU]
   ·exact ⟨rfl,rfl,rfl⟩
end Aj
structure En (B:Nat) (ls:List Ar):Prop where
 n:ls.length<=256
 m:∀ x ∈ ls,x.may
 b:AP ls<=B
theorem En.mono {B B':Nat}{ls:List Ar}(h:En B ls) (q:B<=B'):En B' ls:=⟨h.n,h.m,Nat.le_trans h.b q⟩
theorem En.nil (B:Nat):En B []:=⟨by simp,by simp,by simp [AP]⟩
def Ud (B n id len:Nat):Adl->Prop
 | .follows=>True
 | .stands mine has=>(1<=mine.toNat/\mine.toNat<=281474976710656)/\has.length=n/\(∃ p,has[id]?=some (some p))/\∀ p,some p ∈ has->En B p.2
 | .leads mine nR _ _=>(1<=mine.toNat/\mine.toNat<=281474976710656)/\nR.length=n/\∀ x ∈ nR, -1<=x/\x<=(len:Int)
structure N0 (B:Nat) (z:Aj):Prop where
 n1:1<=z.n
 n3:z.n<=3
 id:z.id<z.n
 ls:En B z.k.lines
 cp:z.k.current.toNat<=z.k.promised.toNat
 pt:z.k.promised.toNat<=281474976710656
 se:z.seen.toNat<=281474976710656
 co:z.Ag<=z.k.lines.length
structure NOk (B:Nat) (z:Aj):Prop extends N0 B z where
 ro:Ud B z.n z.id z.k.lines.length z.BB
theorem Ud.mono {B B' n id len:Nat}{r:Adl}(h:Ud B n id len r) (q:B<=B'):Ud B' n id len r:=by
 cases r with
 | follows=>trivial
 | stands mine has=>exact ⟨h.1,h.2.1,h.2.2.1,fun p hp=>(h.2.2.2 p hp).mono q⟩
 | leads mine nR base ready=>exact h
theorem N0.mono {B B':Nat}{z:Aj}(h:N0 B z) (q:B<=B'):N0 B' z:=⟨h.n1,h.n3,h.id,h.ls.mono q,h.cp,h.pt,h.se,h.co⟩
theorem NOk.mono {B B':Nat}{z:Aj}(h:NOk B z) (q:B<=B'):NOk B' z:=⟨h.toN0.mono q,h.ro.mono q⟩
theorem N0.kok {B:Nat}{z:Aj}(h:N0 B z):KOk z.k:=⟨h.ls.n,fun x q=>(h.ls.m x q).2.2⟩
theorem Qo {l:List Int}{x:Int}(h:∀ y ∈ l,y<=x) (h0:0<=x):CW l<=x:=by
 unfold CW;split
 simp_all
 (simp_all;omega)
 (simp_all;omega)
 omega
theorem Jf {k:AX}{e:BitVec 64}(h:(k.CQ e).2=0):k.promised.toNat<e.toNat/\e.toNat<=281474976710656:=by
 unfold AX.CQ at h;split at h
 simp_all [AX.EK]
 omega
theorem Wn {k:AX}{e:BitVec 64}{ls:List Ar}(h:(k.Ee e ls).2=0):k.promised.toNat<=e.toNat/\k.current.toNat<e.toNat/\e.toNat<=281474976710656/\ls.length<=256:=by
 unfold AX.Ee at h;split at h
 simp_all [AX.Gg]
 omega
theorem Si {k:AX}{ls:List Ar}(h:(k.Cm ls).2=0):ls.length+k.lines.length<=256:=by
 unfold AX.Cm at h;split at h
 simp_all [Ig]
 omega
def EY (k k':AX):Prop:=k.promised.toNat<=k'.promised.toNat/\k.current.toNat<=k'.current.toNat
theorem EY.refl (k:AX):EY k k:=⟨by simp,by simp⟩
theorem EY.trans {a b c:AX}(h:EY a b) (q:EY b c):EY a c:=⟨Nat.le_trans h.1 q.1,Nat.le_trans h.2 q.2⟩
theorem NZ:∀ (l:List (Option (BitVec 64 × List Ar))) (b:Option (BitVec 64 × List Ar)) (p:BitVec 64 × List Ar),l.foldl EW b=some p->b=some p \/ some p ∈ l
 | [],b,p,h => .inl h
 | x :: r,b,p,h=>by
  rcases NZ r _ p h with q | q
  ·unfold EW at q;grind
  grind
namespace Aj
theorem Xd {z:Aj}{f:Nat->BG}{t:Nat × BG}(h:t ∈ z.others f):t.1<z.n/\t.1 ≠ z.id/\t.2=f t.1:=by
 unfold others at h;grind
def EH (t:DX):Prop:=∀ x ∈ t,x.2.May
theorem EH.nil:EH []:=by intro x q;grind
theorem EH.others {z:Aj}{f:Nat->BG}(h:∀ i,i<z.n->(f i).May):EH (z.others f):=by
 intro t q;obtain ⟨r, -,u⟩:=Xd q;grind
theorem EH.one {src:Nat}{m:BG}(h:m.May):EH [(src,m)]:=by
 intro t q;grind
theorem EH.append {a b:DX}(q:EH a) (hb:EH b):EH (a++b):=by
 intro t r
 rcases List.mem_append.1 r with h | h
 ·exact q t h
 ·exact hb t h
theorem Jh {e:BitVec 64}(q:1<=e.toNat) (r:e.toNat<=281474976710656):(BG.mk 3 e 0 0 0 []).May:=
 ⟨by simp,by simp,q,r,by simp,by simp,by simp,by simp,by simp,by simp,by simp,by simp,by simp⟩
theorem Rz {e:BitVec 64}(q:1<=e.toNat) (r:e.toNat<=281474976710656):(BG.mk 1 e 0 0 0 []).May:=
 ⟨by simp,by simp,q,r,by simp,by simp,by simp,by simp,by simp,by simp,by simp,by simp,by simp⟩
theorem MO {e:BitVec 64}{n:Nat}(q:1<=e.toNat) (r:e.toNat<=281474976710656) (hn:n<=256):(BG.mk 6 e 0 n 0 []).May:=
 ⟨by simp,by simp,q,r,by simp,hn,by simp,by simp,by simp,by simp,by simp,by simp,by simp⟩
theorem Ox {e c:BitVec 64}{B:Nat}{ls:List Ar}(q:1<=e.toNat) (r:e.toNat<=281474976710656) (hc:c.toNat<=e.toNat) (hl:En B ls):(BG.mk 2 e c 0 0 ls).May:=
 ⟨by simp,by simp,q,r,hc,by simp,by simp,hl.n,hl.m,by simp,by simp,by simp,by simp⟩
theorem KO {e:BitVec 64}{B:Nat}{ls:List Ar}(q:1<=e.toNat) (r:e.toNat<=281474976710656) (hl:En B ls):(BG.mk 4 e 0 0 0 ls).May:=
 ⟨by simp,by simp,q,r,by simp,by simp,by simp,hl.n,hl.m,by simp,by simp,by simp,by simp⟩
theorem PS {e:BitVec 64}{a c:Nat}{B:Nat}{ls:List Ar}(q:1<=e.toNat) (r:e.toNat<=281474976710656) (u:a<=256) (hc:c<=256) (hl:En B ls):(BG.mk 5 e 0 a c ls).May:=
 ⟨by simp,by simp,q,r,by simp,u,hc,hl.n,hl.m,by simp,by simp,by simp,by simp⟩
theorem _root_.Go.Proofs.YtffkdillijmamaaGreat.FN (ls:List Ar) (i:Nat):AP (ls.drop i)<=AP ls:=by
 have h:=DV (ls.take i) (ls.drop i);simp_all
theorem _root_.Go.Proofs.YtffkdillijmamaaGreat.En.drop {B:Nat}{ls:List Ar}(h:En B ls) (i:Nat):En B (ls.drop i):=
 ⟨by rw [List.length_drop];have:=h.n;omega,fun x q=>h.m x (by grind),Nat.le_trans (FN ls i) h.b⟩
theorem Gv {B:Nat}{z:Aj}(h:N0 B z):NOk B z.follow:=⟨⟨h.n1,h.n3,h.id,h.ls,h.cp,h.pt,h.se,h.co⟩,trivial⟩
theorem Qm {B:Nat}{z:Aj}(h:N0 B z) {mine:BitVec 64}(r:1<=mine.toNat/\mine.toNat<=281474976710656) {nR:List Int}(hl:nR.length=z.n) (u:∀ x ∈ nR, -1<=x/\x<=(z.k.lines.length:Int)) (base:Nat) (ready:Bool) :
  NOk B (z.count mine nR base ready):=by
 have q:∀ x ∈ nR.set z.id z.k.lines.length, -1<=x/\x<=(z.k.lines.length:Int):=by
  grind
 have J:=Qo (l:=nR.set z.id z.k.lines.length) (x:=z.k.lines.length) (by grind) om;unfold count;simp only;split
 ·refine ⟨⟨h.n1,h.n3,h.id,h.ls,h.cp,h.pt,h.se, ?_⟩,r,by grind,q⟩;show max z.Ag (CW (nR.set z.id z.k.lines.length)).toNat<=z.k.lines.length;have:=h.co;omega
 ·exact ⟨⟨h.n1,h.n3,h.id,h.ls,h.cp,h.pt,h.se,h.co⟩,r,by grind,q⟩
theorem XN {B:Nat}{z:Aj}(h:NOk B z) {mine:BitVec 64}{has:List (Option (BitVec 64 × List Ar))}(E:z.BB = .stands mine has):NOk B (z.lead mine has).1/\EH (z.lead mine has).2/\EY z.k (z.lead mine has).1.k:=by
 have r:=h.ro;rw [E] at r;obtain ⟨q,W, -,F⟩:=r;unfold lead;split
 grind [EH.nil,EY.refl]
 ·cases hb:Qr has with
  | none=>grind [EH.nil,EY.refl]
  | some p =>
   have hp:some p ∈ has:=by
    rcases NZ has none p hb with h | h
    grind
    omega
   have u:=F p hp;simp only;split
   ·rename_i hk;obtain ⟨a1,J,O,Y⟩:=Wn hk;have e:(z.k.Ee mine p.2).1=⟨mine,mine,p.2⟩:=IZ hk;rw [e];refine ⟨Qm (z:={ z with k:=⟨mine,mine,p.2⟩,Ag:=min z.Ag p.2.length }) ⟨h.n1,h.n3,h.id,u,by simp,O,h.se, ?_⟩ q (by simp) (fun x U => ?_) _ _,EH.others fun i _=>KO q.1 q.2 u, ?_⟩
    grind
    grind
    ·rw [(EU _ _ _ _ _).2.1];exact ⟨a1,by grind⟩
   ·exact ⟨Gv h.toN0,EH.nil,EY.refl _⟩
theorem ZL {B:Nat}{z:Aj}(h:NOk B z):NOk B z.stand.1/\EH z.stand.2/\EY z.k z.stand.1.k:=by
 unfold stand;simp only;split
 grind [EH.nil,EY.refl]
 ·split
  ·rename_i hk;obtain ⟨u,r⟩:=Jf hk;generalize PQ (Fj z.k.promised z.seen) z.id z.n=e at *;have E:=GM hk;rw [E];have F:NOk B ({ z with k:={ z.k with promised:=e },BB := .stands e ((List.replicate z.n none).set z.id (some (z.k.current,z.k.lines))),waited:=0 }:Aj):=by
    refine ⟨⟨h.n1,h.n3,h.id,h.ls, ?_,r,h.se,h.co⟩,by grind,by simp,⟨(z.k.current,z.k.lines), ?_⟩,fun p hp => ?_⟩
    ·have:=h.cp;grind
    ·rw [List.getElem?_set_self (by simpa using h.id)]
    ·rcases List.mem_or_eq_of_mem_set hp with q | q
     grind
     ·simp at q;subst q;exact h.ls
   obtain ⟨J,O,U⟩:=XN F rfl;refine ⟨J,EH.append (EH.others fun i _=>Rz om r) O,EY.trans (b:={ z.k with promised:=e }) ⟨by grind,by simp⟩ U⟩
  grind [EH.nil,EY.refl]
theorem dA {B:Nat}{z:Aj}(h:NOk B z):NOk B z.tick.1/\EH z.tick.2/\EY z.k z.tick.1.k:=by
 have u:=h.ro;have other:∀ z:Aj,NOk B z->(∀ r:Aj,r=({ z with waited:=z.waited+1 }:Aj)->NOk B r):=by
  intro z h r e;subst e;exact ⟨⟨h.n1,h.n3,h.id,h.ls,h.cp,h.pt,h.se,h.co⟩,h.ro⟩
 unfold tick;split
 ·rename_i mine nR base ready hr;rw [hr] at u;obtain ⟨q,O,F⟩:=u;refine ⟨h,EH.others fun i U => ?_,EY.refl _⟩;have E:i<nR.length:=om
  have J:nR.getD i 0=nR[i]:=by grind
  have W:=F _ (List.getElem_mem E);split
  ·exact KO q.1 q.2 h.ls
  ·refine PS q.1 q.2 ?_ ?_ (h.ls.drop _)
   ·have:=h.ls.n;omega
   ·have:=h.ls.n;have:=h.co;omega
 ·split
  ·exact ZL (by grind)
  simp_all [EH.nil,EY.refl]
theorem dM {a b:BitVec 64}{x:Nat}(q:a.toNat<=x) (hb:b.toNat<=x):(Fj a b).toNat<=x:=by
 grind [Fj]
theorem dX {B:Nat}{z:Aj}(h:NOk B z) {src:Nat}{m:BG}(u:m.May) (b:Nat) (hb:AP m.ls<=b) :
  NOk (B+b) (z.hear src m).1/\EH (z.hear src m).2/\EY z.k (z.hear src m).1.k:=by
 rw [MZ];have h1:NOk B ({ z with seen:=Fj z.seen m.e }:Aj):=⟨⟨h.n1,h.n3,h.id,h.ls,h.cp,h.pt,dM h.se u.e2,h.co⟩,h.ro⟩;have a6:({ z with seen:=Fj z.seen m.e }:Aj).k=z.k:=rfl;rw [<-a6];generalize ({ z with seen:=Fj z.seen m.e }:Aj)=y at *;clear h a6;have h:=h1;have W:En (B+b) m.ls:=⟨u.n1,u.hl,om⟩;have q:=h.mono (Nat.le_add_right B b);have E:NOk (B+b) y/\EH []/\EY y.k y.k:=⟨q,EH.nil,EY.refl _⟩;unfold Ec;split
 ·unfold BK;split
  omega
  split
  ·refine ⟨q,EH.one (Jh ?_ h.pt),by grind⟩;have:=u.e1;omega
  split
  ·rename_i hk;obtain ⟨p1,p2⟩:=Jf hk;rw [GM hk];refine ⟨Gv ⟨h.n1,h.n3,h.id,q.ls, ?_,p2,h.se,h.co⟩,EH.one (Ox u.e1 u.e2 ?_ h.ls),⟨Nat.le_of_lt p1,Nat.le_refl _⟩⟩
   ·have:=h.cp;grind
   ·have:=h.cp;omega
  omega
 split
 ·unfold Bj;have F:=q.ro;split
  ·rename_i mine has hr;rw [hr] at F;obtain ⟨Y,J,U,q4⟩:=F;split
   omega
   ·simp only;refine XN (z:={ y with BB := .stands mine (if (has.getD src none).isSome then has else has.set src (some (m.c,m.ls))) }) ⟨⟨q.n1,q.n3,q.id,q.ls,q.cp,q.pt,q.se,q.co⟩,Y, ?_, ?_, ?_⟩ rfl
    grind
    grind
    grind
  omega
 split
 ·unfold Cj;refine ⟨?_,EH.nil, ?_⟩
  ·simp only;split
   ·exact Gv q.toN0
   omega
  ·simp only;split <;> exact EY.refl _
 split
 ·unfold BD;split
  omega
  split
  ·refine ⟨q,EH.one (Jh ?_ h.pt),by grind⟩;omega
  split
  ·exact ⟨Gv q.toN0,EH.one (MO u.e1 u.e2 h.ls.n),EY.refl _⟩
  split
  ·rename_i hk;obtain ⟨a1,a2,a3,a4⟩:=Wn hk;rw [IZ hk];simp only;refine ⟨Gv ⟨h.n1,h.n3,h.id,W,by simp,a3,h.se, ?_⟩,EH.one (MO u.e1 u.e2 u.n1),⟨a1,Nat.le_of_lt a2⟩⟩;grind
  omega
 split
 ·unfold BF;split
  omega
  split
  ·refine ⟨q,EH.one (Jh ?_ h.pt),by grind⟩;omega
  split
  omega
  simp only;split
  ·exact ⟨Gv q.toN0,EH.nil,EY.refl _⟩
  split
  ·refine ⟨⟨⟨h.n1,h.n3,h.id,q.ls,h.cp,h.pt,h.se, ?_⟩,trivial⟩,EH.one (MO u.e1 u.e2 h.ls.n),EY.refl _⟩;show max y.Ag (min m.com y.k.lines.length)<=y.k.lines.length;have:=h.co;omega
  split
  ·rename_i hk;rw [Ih hk];have a8:=Si hk;have hd:=(W.drop (y.k.lines.length - m.at'));have a7:(y.k.lines++m.ls.drop (y.k.lines.length - m.at')).length<=256:=by grind
   refine ⟨⟨⟨h.n1,h.n3,h.id,⟨a7,fun x r => ?_, ?_⟩,h.cp,h.pt,h.se, ?_⟩,trivial⟩,EH.one (MO u.e1 u.e2 a7),EY.refl _⟩
   ·rcases List.mem_append.1 r with r | r
    ·exact h.ls.m x r
    ·exact hd.m x r
   ·show AP (y.k.lines++m.ls.drop (y.k.lines.length - m.at'))<=B+b;rw [DV];have h1:=h.ls.b;grind [FN]
   ·show max y.Ag (min m.com (y.k.lines++m.ls.drop (y.k.lines.length - m.at')).length)<=(y.k.lines++m.ls.drop (y.k.lines.length - m.at')).length;have:=h.co;grind
  ·exact ⟨Gv q.toN0,EH.nil,EY.refl _⟩
 ·unfold CJ;have F:=q.ro;split
  ·rename_i mine nR base ready hr;rw [hr] at F;obtain ⟨Y,J,U⟩:=F;split
   ·refine ⟨Qm q.toN0 Y (by grind) (fun x r => ?_) _ _,EH.nil, ?_⟩
    grind
    simp [EU,EY.refl]
   omega
  omega
theorem AiK {B:Nat}{z:Aj}(h:NOk B z) (b:List UInt8):NOk (B+b.length) (z.BL b).1/\EY z.k (z.BL b).1.k:=by
 have r:=h.mono (Nat.le_add_right B b.length);have u:=r.ro;unfold BL;split
 grind [EY.refl]
 ·rename_i hb;split
  ·rename_i mine nR base hr;rw [hr] at u;obtain ⟨E,F,J⟩:=u;split
   grind [EY.refl]
   split
   ·rename_i hk;rw [Ih hk];refine ⟨Qm (z:={ z with k:={ z.k with lines:=z.k.lines++[⟨mine,b⟩] } }) ⟨h.n1,h.n3,h.id,⟨?_,fun x q => ?_, ?_⟩,h.cp,h.pt,h.se, ?_⟩ E F (fun x q => ?_) _ _, ?_⟩
    grind
    ·rcases List.mem_append.1 q with q | q
     ·exact h.ls.m x q
     ·simp only [List.mem_singleton] at q;subst q;exact ⟨E,by grind,by grind⟩
    ·have O:=h.ls.b;simp_all [AP]
    ·show z.Ag<=(z.k.lines++[Ar.mk mine b]).length;rw [List.length_append];have:=h.co;omega
    grind
    ·rw [(EU _ _ _ _ _).2.1];exact ⟨by simp,by simp⟩
   grind [EY.refl]
  grind [EY.refl]
theorem TB {B id n:Nat}{k:AX}(q:1<=n) (r:n<=3) (hi:id<n) (hl:En B k.lines) (hc:k.current.toNat<=k.promised.toNat) (hp:k.promised.toNat<=281474976710656):NOk B (Aj.new id n k):=
 ⟨⟨q,r,hi,hl,hc,hp,by show (0:BitVec 64).toNat<=_;simp,Nat.zero_le _⟩,trivial⟩
end Aj
def cnt (n:Nat) (f:Nat->Bool):Nat:=((List.range n).filter f).length
def Quo (n:Nat) (f:Nat->Bool):Prop:=n<2*cnt n f
theorem ArA (n:Nat) (f:Nat->Bool):cnt (n+1) f=cnt n f+(if f n=true then 1 else 0):=by
 unfold cnt;rw [List.range_succ,List.filter_append,List.length_append]
 grind
theorem cnt_le {n:Nat}{f g:Nat->Bool}(h:∀ j,j<n->f j=true->g j=true):cnt n f<=cnt n g:=by
 induction n with
 | zero=>exact Nat.le_refl _
 | succ n r =>
  rw [ArA,ArA];grind
theorem AwQ {n:Nat}{f g:Nat->Bool}(q:Quo n f) (h:∀ j,j<n->f j=true->g j=true):Quo n g:=by
 have:=cnt_le h;grind [Quo]
theorem Awb {n:Nat}{f g:Nat->Bool}(u:Quo n f) (E:Quo n g):∃ j,j<n/\f j=true/\g j=true:=by
 apply Classical.byContradiction;intro F;have J:∀ m,m<=n->cnt m f+cnt m g<=m:=by
  intro m
  induction m with
  | zero=>intro _;exact Nat.le_refl _
  | succ m O =>
   rw [ArA,ArA]
   grind
 have:=J n (by simp);unfold Quo at u E;omega
structure Gh where
 L:Nat->List Ar
 I:Nat->Option Nat
 V:Nat->Nat->Option (Nat × Nat)
 A:Nat->Nat->Nat
 Q:Nat->Nat->Bool
namespace Gh
def Com (G:Gh) (n e m:Nat):Prop:=Quo n fun j=>decide (m<=G.A e j)
structure Ok (G:Gh) (n:Nat):Prop where
 z:G.I 0=some 0/\G.L 0=[]
 bb:∀ e b,G.I e=some b->b<=(G.L e).length
 nn:∀ e,G.I e=none->∀ i,G.A e i=0
 aa:∀ e i,G.A e i<=(G.L e).length
 vv:∀ e i v,G.V e i=some v->v.1<e/\(∀ e',v.1<e'->e'<e->G.A e' i=0)/\G.A v.1 i<=v.2
 qq:∀ e b,e ≠ 0->G.I e=some b->∃ c,c<e/\Quo n (G.Q e)/\(∀ j,j<n->G.Q e j=true->∃ v,G.V e j=some v/\(v.1<c \/ (v.1=c/\v.2<=b))) /\
  (G.L e).take b=(G.L c).take b/\b<=(G.L c).length/\∃ b',G.I c=some b'/\b'<=b
theorem Asl {l l':List Ar}{a b:Nat}(h:l.take b=l'.take b) (q:a<=b):l.take a=l'.take a:=by
 have:=congrArg (List.take a) h
 grind
theorem safe {G:Gh}{n:Nat}(r:G.Ok n):∀ e' e m b,e<e'->G.I e'=some b->G.Com n e m->(m=0 \/ m<=b)/\(G.L e').take m=(G.L e).take m:=by
 intro e'
 induction e' using Nat.strongRecOn with
 | _ e' E =>
  intro e m b F hI hc
  by_cases J:m=0
  grind
  obtain ⟨c,O,hq,hv,u, -,b',U,a4⟩:=r.qq e' b om hI;obtain ⟨j,W,Y,h2⟩:=Awb hq hc;simp only [decide_eq_true_eq] at h2;obtain ⟨v,g1,g2⟩:=hv j W Y;obtain ⟨k1,k2,k3⟩:=r.vv e' j v g1;have a5:e<=v.1:=by
   grind
  by_cases a2:c=e
  ·subst a2;have e1:v.1=c:=om
   have a7:v.2<=b:=by
    omega
   grind [Asl]
  ·grind [Asl]
structure Kn (G:Gh) (n i:Nat) (k:AX):Prop where
 cp:k.current.toNat<=k.promised.toNat
 ini:∃ b,G.I k.current.toNat=some b/\b<=k.lines.length
 pre:k.lines=(G.L k.current.toNat).take k.lines.length
 acc:G.A k.current.toNat i=k.lines.length
 fut:∀ e,k.current.toNat<e->G.A e i=0
 vot:∀ e v,G.V e i=some v->e<=k.promised.toNat
 led:∀ e b,e % n=i->G.I e=some b->e<=k.promised.toNat
structure Ext (G G':Gh) (n i:Nat) (P:List UInt8->Prop):Prop where
 L:∀ e,∃ t,G'.L e=(if G.I e=none then [] else G.L e)++t
 I:∀ e b,G.I e=some b->G'.I e=some b
 V:∀ e j v,G.V e j=some v->G'.V e j=some v
 A:∀ e j,G.A e j<=G'.A e j
 oA:∀ e j,j ≠ i->G'.A e j=G.A e j
 oV:∀ e j,j ≠ i->G'.V e j=G.V e j
 oL:∀ e,e % n ≠ i->G'.L e=G.L e/\G'.I e=G.I e
 nw:∀ e x,x ∈ G'.L e->(∃ e',x ∈ G.L e') \/ P x.b
section
variable {G G':Gh}{n i j:Nat}{k:AX}{P:List UInt8->Prop}
theorem AwY (a:Option Nat) (l:List Ar):∃ t,l=(if a=none then [] else l)++t:=by
 split
 simp
 simp
theorem Ext.pre (h:Ext G G' n i P) {e:Nat}(hI:G.I e ≠ none) {l:List Ar}(hl:l=(G.L e).take l.length):l=(G'.L e).take l.length/\l.length<=(G.L e).length:=by
 obtain ⟨t,q⟩:=h.L e;grind
theorem Ext.refl (G:Gh) (n i:Nat) (P:List UInt8->Prop):Ext G G n i P:=⟨fun e=>AwY _ _,by simp,by simp,by simp,by simp,by simp,by simp,by grind⟩
theorem Kn.ext (q:Kn G n j k) (h:Ext G G' n i P) (r:j ≠ i):Kn G' n j k:=by
 obtain ⟨b,E,F⟩:=q.ini;refine ⟨q.cp,⟨b,h.I _ _ E,F⟩,(h.pre (by grind) q.pre).1, ?_,fun e u => ?_,fun e v hv => ?_,fun e b u hI => ?_⟩
 ·rw [h.oA _ _ r];exact q.acc
 ·rw [h.oA _ _ r];exact q.fut e u
 ·rw [h.oV _ _ r] at hv;exact q.vot e v hv
 ·rw [(h.oL e om).2] at hI;exact q.led e b u hI
inductive Next (G:Gh) (n i:Nat) (P:List UInt8->Prop) (k:AX):AX->Prop
 | prom (e:BitVec 64) (h:k.promised.toNat<e.toNat):Next G n i P k { k with promised:=e }
 | copy (e:BitVec 64) (ls:List Ar) (b:Nat) (hp:k.promised.toNat<=e.toNat) (hl:k.current.toNat=e.toNat->k.lines.length<=ls.length) (hI:G.I e.toNat=some b) (hb:b<=ls.length) (h:ls=(G.L e.toNat).take ls.length):Next G n i P k ⟨e,e,ls⟩
 | own (x:Ar) (hP:P x.b) (hn:k.current.toNat % n=i) (h0:k.current.toNat ≠ 0) (hp:k.promised.toNat=k.current.toNat) (h:k.lines=G.L k.current.toNat):Next G n i P k { k with lines:=k.lines++[x] }
 | lead (e:BitVec 64) (ls:List Ar) (c b':Nat) (f:Nat->Bool) (hn:e.toNat % n=i) (hI:G.I e.toNat=none) (hp:k.promised.toNat<=e.toNat) (hq:Quo n f) (hv:∀ j,j<n->f j=true->∃ v,G.V e.toNat j=some v/\(v.1<c \/ (v.1=c/\v.2<=ls.length)))
   (hc:c<e.toNat) (h:ls=(G.L c).take ls.length) (hIc:G.I c=some b') (hb:b'<=ls.length):Next G n i P k ⟨e,e,ls⟩
theorem Next.ext {r:AX}(h:Next G n j P k r) (q:Ext G G' n i P) (O:j ≠ i):Next G' n j P k r:=by
 cases h with
 | prom e h=>exact .prom e h
 | copy e ls b hp hl hI hb h=>exact .copy e ls b hp hl (q.I _ _ hI) hb (q.pre (by grind) h).1
 | own x hP hn h0 hp h=>exact .own x hP hn h0 hp (by rw [(q.oL _ om).1];omega)
 | lead e ls c b' f hn hI hp hq hv hc h hIc hb =>
  refine .lead e ls c b' f hn (by rw [(q.oL _ om).2];omega) hp hq (fun j u E => ?_) hc (q.pre (by grind) h).1 (q.I _ _ hIc) hb;obtain ⟨v,F,J⟩:=hv j u E;exact ⟨v,q.V _ _ _ F,J⟩
theorem take_len {l m:List Ar}(h:l=m.take l.length):l.length<=m.length:=by
 grind
theorem Next.step {U:AX}(h:Next G n i P k U) (r:G.Ok n) (q:Kn G n i k):∃ G',Ext G G' n i P/\G'.Ok n/\Kn G' n i U/\(k.promised.toNat<U.promised.toNat->U.current=k.current->U.lines=k.lines->G'.V U.promised.toNat i=some (k.current.toNat,k.lines.length)) /\
  ((G.I U.current.toNat=none \/ (k.current=U.current/\k.lines=G.L k.current.toNat))->U.lines=G'.L U.current.toNat)/\(U.current=k.current->∀ e,G'.I e=G.I e):=by
 cases h with
 | prom e h =>
  have a9:G.V e.toNat i=none:=by
   cases hv:G.V e.toNat i with
   | none=>rfl
   | some v=>have:=q.vot _ _ hv;omega
  refine ⟨{ G with V:=fun e' j=>if e'=e.toNat/\j=i then some (k.current.toNat,k.lines.length) else G.V e' j },⟨fun e=>AwY _ _,by simp,fun e' j v hv => ?_,by simp,by simp,fun e' j O => ?_,by simp,by grind⟩,
   ⟨r.z,r.bb,r.nn,r.aa,fun e' j v hv => ?_,fun e' b h0 hI => ?_⟩,⟨Nat.le_trans q.cp (by grind),q.ini,q.pre,q.acc,q.fut,fun e' v hv => ?_,fun e' b F hI => ?_⟩,by simp,fun W => ?_,by simp⟩
  grind
  grind
  ·change (if e'=e.toNat/\j=i then _ else _)=_ at hv
   split at hv
   ·rename_i hc;obtain ⟨rfl,rfl⟩:=hc
    cases hv
    exact ⟨Nat.lt_of_le_of_lt q.cp h,fun e' E _=>q.fut e' E,Nat.le_of_eq q.acc⟩
   ·exact r.vv e' j v hv
  ·obtain ⟨c,E,h2,h3,h4⟩:=r.qq e' b h0 hI;grind
  ·change (if e'=e.toNat/\i=i then _ else _)=_ at hv
   split at hv
   grind
   ·have:=q.vot e' v hv;grind
  ·have:=q.led e' b F hI;grind
  ·rcases W with W | ⟨-,W⟩
   ·obtain ⟨b,E, -⟩:=q.ini;grind
   omega
 | copy e ls b hp hl hI hb h =>
  have b8:=q.cp;have hA:G.A e.toNat i<=ls.length:=by
   by_cases hc:k.current.toNat=e.toNat
   ·rw [<-hc,q.acc];omega
   ·rw [q.fut _ om];simp
  refine ⟨{ G with A:=fun e' j=>if e'=e.toNat/\j=i then ls.length else G.A e' j },⟨fun e=>AwY _ _,by simp,by simp,fun e' j => ?_,fun e' j O => ?_,by simp,by simp,by grind⟩,
   ⟨r.z,r.bb,fun e' hn j => ?_,fun e' j => ?_,fun e' j v hv => ?_,r.qq⟩,⟨by simp,by grind,h,by simp,fun e' a2 => ?_,fun e' v hv=>Nat.le_trans (q.vot e' v hv) hp,fun e' b F hI=>Nat.le_trans (q.led e' b F hI) hp⟩,fun E h2 h3 => ?_,fun W => ?_,by simp⟩
  grind
  grind
  ·show (if e'=e.toNat/\j=i then _ else _)=_
   rw [if_neg (by grind)];exact r.nn e' hn j
  ·show (if e'=e.toNat/\j=i then _ else _)<=_
   split
   grind
   ·exact r.aa e' j
  ·obtain ⟨v1,v2,v3⟩:=r.vv e' j v hv;refine ⟨v1,fun e2 g1 g2 => ?_, ?_⟩
   ·show (if e2=e.toNat/\j=i then _ else _)=_
    rw [if_neg (by rintro ⟨rfl,rfl⟩;have:=q.vot e' v hv;omega)];grind
   ·show (if v.1=e.toNat/\j=i then _ else _)<=_
    rw [if_neg (by rintro ⟨g,rfl⟩;have:=q.vot e' v hv;omega)];omega
  ·show (if e'=e.toNat/\i=i then _ else _)=_
   have b2:e.toNat<e':=a2;rw [if_neg om];exact q.fut e' om
  grind
  grind
 | own x hP hn h0 hp h =>
  obtain ⟨b0,i1,i2⟩:=q.ini;obtain ⟨c,hc⟩:=az (k.current.toNat);rw [hc] at hn h0 hp h i1;have b3:=q.acc;have b4:=q.fut;rw [hc] at b3 b4;rw [h] at b3 i2;have b5:∀ e v,G.V e i=some v->e<=c:=fun e v hv=>by have:=q.vot e v hv;omega
  refine ⟨{ G with L:=fun e'=>if e'=c then G.L c++[x] else G.L e',A:=fun e' j=>if e'=c/\j=i then (G.L c).length+1 else G.A e' j },⟨fun e => ?_,by simp,by simp,fun e' j => ?_,fun e' j O => ?_,by simp,fun e' a2=>⟨?_,rfl⟩,fun e' y J => ?_⟩,
   ⟨⟨r.z.1, ?_⟩,fun e' b hI => ?_,fun e' a3 j => ?_,fun e' j => ?_,fun e' j v hv => ?_,fun e' b a6 hI => ?_⟩,⟨q.cp,⟨b0,by grind, ?_⟩, ?_, ?_,fun e' a2 => ?_,by grind,fun e' b F hI=>q.led e' b F hI⟩,by simp,fun _ => ?_,by simp⟩
  ·show ∃ t,(if e=c then _ else _)=_
   by_cases F:e=c
   simp_all
   simp_all [AwY]
  grind
  grind
  grind
  grind
  ·show (if 0=c then _ else _)=_
   rw [if_neg om];exact r.z.2
  ·show b<=(if e'=c then _ else _:List Ar).length
   have:=r.bb e' b hI;grind
  ·show (if e'=c/\j=i then _ else _)=_
   rw [if_neg (by grind)];exact r.nn e' a3 j
  ·show (if e'=c/\j=i then _ else _)<=(if e'=c then _ else _:List Ar).length
   have:=r.aa e' j
   grind
  ·obtain ⟨v1,v2,v3⟩:=r.vv e' j v hv;grind
  ·obtain ⟨c1,q1,q2,q3,q4,q5,b',q6,q7⟩:=r.qq e' b a6 hI;grind
  grind
  grind
  grind
  grind
  grind
 | lead e ls c b' f hn hI hp hq hv hc h hIc hb =>
  have b8:=q.cp;have b6:e.toNat ≠ 0:=om
  have b7:k.current.toNat ≠ e.toNat:=by
   intro c4;obtain ⟨b,E, -⟩:=q.ini;grind
  have c6:=take_len h;refine ⟨{ G with L:=fun e'=>if e'=e.toNat then ls else G.L e',I:=fun e'=>if e'=e.toNat then some ls.length else G.I e',A:=fun e' j=>if e'=e.toNat/\j=i then ls.length else G.A e' j,Q:=fun e'=>if e'=e.toNat then f else G.Q e' },
   ⟨fun e' => ?_,fun e' b u => ?_,by simp,fun e' j => ?_,fun e' j O => ?_,by simp,fun e' a2 => ?_,fun e' y J => ?_⟩,
   ⟨⟨?_, ?_⟩,fun e' b u => ?_,fun e' a3 j => ?_,fun e' j => ?_,fun e' j v a7 => ?_,fun e' b a6 u => ?_⟩,⟨by simp,by grind,by simp,by simp,fun e' a2 => ?_,fun e' v hv=>Nat.le_trans (q.vot e' v hv) hp,fun e' b F u => ?_⟩,fun E h2 h3 => ?_,fun _ => ?_,by grind⟩
  ·show ∃ t,(if e'=e.toNat then _ else _)=_
   by_cases F:e'=e.toNat
   ·rw [if_pos F,F,if_pos hI];simp
   ·rw [if_neg F];exact AwY _ _
  grind
  ·show _<=(if e'=e.toNat/\j=i then _ else _)
   split
   ·rename_i hq;obtain ⟨rfl,rfl⟩:=hq;rw [r.nn _ hI];simp
   simp
  grind
  grind
  grind
  ·show (if 0=e.toNat then _ else _)=_
   rw [if_neg om];exact r.z.1
  ·show (if 0=e.toNat then _ else _)=_
   rw [if_neg om];exact r.z.2
  ·change (if e'=e.toNat then _ else _)=_ at u
   show b<=(if e'=e.toNat then _ else _:List Ar).length
   split
   grind
   ·rename_i hq;rw [if_neg hq] at u;exact r.bb e' b u
  ·change (if e'=e.toNat then _ else _)=_ at a3
   have a5:e' ≠ e.toNat:=by grind
   rw [if_neg a5] at a3;show (if e'=e.toNat/\j=i then _ else _)=_
   rw [if_neg om];exact r.nn e' a3 j
  ·show (if e'=e.toNat/\j=i then _ else _)<=(if e'=e.toNat then _ else _:List Ar).length
   by_cases hq:e'=e.toNat
   ·subst hq;rw [if_pos rfl,r.nn _ hI];grind
   ·rw [if_neg hq,if_neg om];exact r.aa e' j
  ·obtain ⟨v1,v2,v3⟩:=r.vv e' j v a7;refine ⟨v1,fun e2 g1 g2 => ?_, ?_⟩
   ·show (if e2=e.toNat/\j=i then _ else _)=_
    rw [if_neg (by rintro ⟨rfl,rfl⟩;have:=q.vot e' v a7;omega)];grind
   ·show (if v.1=e.toNat/\j=i then _ else _)<=_
    rw [if_neg (by rintro ⟨g,rfl⟩;have:=q.vot e' v a7;omega)];omega
  ·change (if e'=e.toNat then _ else _)=_ at u
   by_cases a4:e'=e.toNat
   grind
   ·rw [if_neg a4] at u;obtain ⟨c1,q1,q2,q3,q4,q5,b1,q6,q7⟩:=r.qq e' b a6 u;grind
  ·show (if e'=e.toNat/\i=i then _ else _)=_
   have b2:e.toNat<e':=a2;rw [if_neg om];exact q.fut e' om
  ·change (if e'=e.toNat then _ else _)=_ at u
   show e'<=e.toNat;split at u
   omega
   ·have:=q.led e' b F u;omega
  grind
  simp
end
end Gh
namespace Gh
theorem Com.mono {G:Gh}{n e m m':Nat}(h:G.Com n e m) (q:m'<=m):G.Com n e m':=AwQ h fun _ _ r=>decide_eq_true (by grind)
theorem Ayi (n:Nat):cnt n (fun _=>true)=n:=by
 induction n with
 | zero=>rfl
 | succ n q=>rw [ArA,q];rfl
theorem Com.zero (G:Gh) {n:Nat}(hn:1<=n) (e:Nat):G.Com n e 0:=by
 unfold Com Quo;have:(fun j=>decide (0<=G.A e j))=fun _=>true:=by rfl
 rw [this,Ayi];omega
theorem Com.ext {P:List UInt8->Prop}{G G':Gh}{n i e m:Nat}(h:G.Com n e m) (q:Ext G G' n i P):G'.Com n e m:=AwQ h fun j _ r=>decide_eq_true (Nat.le_trans (by grind) (q.A e j))
theorem Com.len {G:Gh}{n e m:Nat}(q:G.Ok n) (h:G.Com n e m):m<=(G.L e).length:=by
 obtain ⟨j,u,r, -⟩:=Awb h h;simp at r;have:=q.aa e j;omega
theorem Com.ini {G:Gh}{n e m:Nat}(q:G.Ok n) (h:G.Com n e m) (u:0<m):∃ b,G.I e=some b:=by
 obtain ⟨j,E,r, -⟩:=Awb h h;simp at r
 cases hI:G.I e with
 | some b=>simp
 | none=>have:=q.nn e hI j;omega
def Cl (G:Gh) (n e m:Nat) (l:List Ar):Prop:=∃ e',e'<=e/\G.Com n e' m/\l.take m=(G.L e').take m
theorem Cl.zero (G:Gh) {n:Nat}(hn:1<=n) (e:Nat) (l:List Ar):G.Cl n e 0 l:=⟨e,by simp, .zero G hn e,rfl⟩
theorem Ext.keep {P:List UInt8->Prop}{G G':Gh}{n i e m:Nat}(u:Ext G G' n i P) (q:G.Ok n) (h:G.Com n e m):(G'.L e).take m=(G.L e).take m:=by
 by_cases E:m=0
 grind
 ·obtain ⟨b,hI⟩:=Com.ini q h om;obtain ⟨t,r⟩:=u.L e;grind [Com.len]
theorem Cl.ext {P:List UInt8->Prop}{G G':Gh}{n i e m:Nat}{l:List Ar}(h:G.Cl n e m l) (u:G.Ok n) (q:Ext G G' n i P):G'.Cl n e m l:=by
 obtain ⟨e',E,r,F⟩:=h;exact ⟨e',E,r.ext q,by rw [q.keep u r];omega⟩
theorem Cl.mono {G:Gh}{n e e2 m m':Nat}{l:List Ar}(h:G.Cl n e m l) (E:e<=e2) (q:m'<=m):G.Cl n e2 m' l:=by
 obtain ⟨e',F,r,u⟩:=h;exact ⟨e',om,r.mono q,Asl u q⟩
theorem Cl.later {G:Gh}{n e e2 m b:Nat}{l q:List Ar}(h:G.Cl n e m l) (E:G.Ok n) (J:e<e2) (hI:G.I e2=some b) (hb:b<=q.length) (hl:q=(G.L e2).take q.length):G.Cl n e2 m q/\m<=q.length:=by
 obtain ⟨e',O,r,U⟩:=h;obtain ⟨W,F⟩:=safe E e2 e' m b om hI r;have u:m<=q.length:=om
 refine ⟨⟨e',om,r, ?_⟩,u⟩;grind
structure MOk (G:Gh) (n src:Nat) (m:BG):Prop where
 k2:m.k=2->∃ b,G.V m.e.toNat src=some (m.c.toNat,m.ls.length)/\m.ls=(G.L m.c.toNat).take m.ls.length/\G.I m.c.toNat=some b/\b<=m.ls.length
 k4:m.k=4->∃ b,G.I m.e.toNat=some b/\b<=m.ls.length/\m.ls=(G.L m.e.toNat).take m.ls.length
 k5:m.k=5->∃ b,G.I m.e.toNat=some b/\m.at'<=(G.L m.e.toNat).length/\m.ls=((G.L m.e.toNat).drop m.at').take m.ls.length/\G.Cl n m.e.toNat m.com (G.L m.e.toNat)
 k6:m.k=6->m.at'<=G.A m.e.toNat src
theorem Ext.grow {P:List UInt8->Prop}{G G':Gh}{n i e b:Nat}(r:Ext G G' n i P) (hI:G.I e=some b):∃ t,G'.L e=G.L e++t:=by
 obtain ⟨t,q⟩:=r.L e;grind
theorem MOk.ext {P:List UInt8->Prop}{G G':Gh}{n i src:Nat}{m:BG}(h:MOk G n src m) (U:G.Ok n) (q:Ext G G' n i P):MOk G' n src m:=by
 refine ⟨fun r => ?_,fun r => ?_,fun r => ?_,fun r=>Nat.le_trans (h.k6 r) (q.A _ _)⟩
 ·obtain ⟨b,u,F,E,h4⟩:=h.k2 r;exact ⟨b,q.V _ _ _ u,(q.pre (by grind) F).1,q.I _ _ E,h4⟩
 ·obtain ⟨b,u,F,E⟩:=h.k4 r;exact ⟨b,q.I _ _ u,F,(q.pre (by grind) E).1⟩
 ·obtain ⟨b,u,F,E,h4⟩:=h.k5 r;obtain ⟨t,J⟩:=q.grow u;refine ⟨b,q.I _ _ u,by grind, ?_, ?_⟩
  grind
  ·obtain ⟨e',Y,O,W⟩:=h4;refine ⟨e',Y,O.ext q, ?_⟩;rw [q.keep U O, <-W,J]
   by_cases hm:m.com<=(G.L m.e.toNat).length
   grind
   ·have e1:=congrArg List.length W;grind [Com.len]
def Ata (G:Gh) (n:Nat) (z:Aj):Adl->Prop
 | .follows=>True
 | .stands mine has=>mine.toNat % n=z.id/\mine.toNat ≠ 0/\z.k.promised=mine/\G.I mine.toNat=none/\∀ j c ls,has[j]?=some (some (c,ls))->∃ b,G.V mine.toNat j=some (BitVec.toNat c,List.length ls)/\ls=(G.L c.toNat).take ls.length/\G.I c.toNat=some b/\b<=ls.length
 | .leads mine nR _ _=>mine.toNat % n=z.id/\mine.toNat ≠ 0/\z.k.promised=mine/\z.k.current=mine/\z.k.lines=G.L mine.toNat/\∀ (j:Nat) (a:Int),nR[j]?=some a->a<=(G.A mine.toNat j:Int)
structure Nd (G:Gh) (n:Nat) (z:Aj):Prop where
 kn:Kn G n z.id z.k
 ro:Ata G n z z.BB
 co:G.Cl n z.k.current.toNat z.Ag z.k.lines
theorem Ata.ext {P:List UInt8->Prop}{G G':Gh}{n i:Nat}{z:Aj}{r:Adl}(h:Ata G n z r) (q:Ext G G' n i P) (hi:z.id ≠ i):Ata G' n z r:=by
 cases r with
 | follows=>trivial
 | stands mine has =>
  obtain ⟨u,E,F,h4,J⟩:=h;refine ⟨u,E,F,by rw [(q.oL _ om).2];omega,fun j c ls O => ?_⟩;obtain ⟨b,W,Y,U,g4⟩:=J j c ls O;exact ⟨b,q.V _ _ _ W,(q.pre (by grind) Y).1,q.I _ _ U,g4⟩
 | leads mine nR base ready =>
  obtain ⟨u,E,F,h4,J,h6⟩:=h;refine ⟨u,E,F,h4,by rw [(q.oL _ om).1];omega,fun j a O => ?_⟩;have:=h6 j a O;have:=q.A mine.toNat j;omega
theorem Nd.ext {P:List UInt8->Prop}{G G':Gh}{n i:Nat}{z:Aj}(h:Nd G n z) (r:G.Ok n) (q:Ext G G' n i P) (hi:z.id ≠ i):Nd G' n z:=
 ⟨h.kn.ext q hi,h.ro.ext q hi,h.co.ext r q⟩
theorem Ext.trans {P:List UInt8->Prop}{G G' E:Gh}{n i:Nat}(h:Ext G G' n i P) (q:Ext G' E n i P):Ext G E n i P:=by
 refine ⟨fun e => ?_,fun e b hI=>q.I _ _ (h.I _ _ hI),fun e j v hv=>q.V _ _ _ (h.V _ _ _ hv),fun e j=>Nat.le_trans (h.A e j) (q.A e j),fun e j r=>(q.oA e j r).trans (h.oA e j r),fun e j r=>(q.oV e j r).trans (h.oV e j r),fun e u=>⟨(q.oL e u).1.trans (h.oL e u).1,(q.oL e u).2.trans (h.oL e u).2⟩,fun e x F=>(q.nw e x F).elim (fun ⟨e',J⟩=>h.nw e' x J) .inr⟩
 by_cases hI:G.I e=none
 simp_all
 ·cases hb:G.I e with
  | none=>simp
  | some b =>
   obtain ⟨t,O⟩:=h.grow hb;obtain ⟨U,W⟩:=q.grow (h.I _ _ hb);grind
end Gh
structure Am where
 id:Nat
 n:Nat
 s:AZ
 BB:Adl
 waited:Nat
 seen:BitVec 64
 Ag:Nat
namespace Am
def BN (z:Am):Aj:=⟨z.id,z.n,z.s.kept,z.BB,z.waited,z.seen,z.Ag⟩
def new (id n:Nat) (s:AZ):Am:=⟨id,n,s, .follows,0,0,0⟩
def dead (z:Am):Bool:=z.s.dead || z.s.d.dead
def follow (z:Am):Am:={ z with BB := .follows,waited:=0 }
def count (z:Am) (mine:BitVec 64) (nR:List Int) (base:Nat) (ready:Bool):Am:=
 let m:=nR.set z.id z.s.kept.lines.length
 if (base:Int)<=CW m then { z with BB := .leads mine m base true,Ag:=max z.Ag (CW m).toNat } else { z with BB := .leads mine m base ready }
def lead (z:Am) (mine:BitVec 64) (has:List (Option (BitVec 64 × List Ar))):Am × DX:=
 if 2*(has.filter Option.isSome).length<=z.n then (z,[]) else
 match Qr has with
 | none=>(z,[])
 | some p =>
  if (z.s.FO mine p.2).2=0 then
   (({ z with s:=(z.s.FO mine p.2).1,Ag:=min z.Ag p.2.length }:Am).count mine (List.replicate z.n (-1)) p.2.length false,z.BN.others fun _=>⟨4,mine,0,0,0,p.2⟩)
  else (({ z with s:=(z.s.FO mine p.2).1 }:Am).follow,[])
def stand (z:Am):Am × DX:=
 let e:=PQ (Fj z.s.kept.promised z.seen) z.id z.n
 if e=0 then (z,[]) else
 if (z.s.promise e).2=0 then
  let has:=(List.replicate z.n none).set z.id (some (z.s.kept.current,z.s.kept.lines))
  let z1:Am:={ z with s:=(z.s.promise e).1,BB := .stands e has,waited:=0 }
  ((z1.lead e has).1,(z.BN.others fun _=>⟨1,e,0,0,0,[]⟩)++(z1.lead e has).2)
 else ({ z with s:=(z.s.promise e).1 },[])
def tick (z:Am):Am × DX:=
 match z.BB with
 | .leads mine nR _ _ =>
  (z,z.BN.others fun i=>if nR.getD i 0<0 then ⟨4,mine,0,0,0,z.s.kept.lines⟩ else ⟨5,mine,0,(nR.getD i 0).toNat,z.Ag,z.s.kept.lines.drop (nR.getD i 0).toNat⟩)
 | _ =>
  let z1:Am:={ z with waited:=z.waited+1 }
  if 3+2*z.id<z.waited+1 then z1.stand else (z1,[])
def BK (z:Am) (src:Nat) (m:BG):Am × DX:=
 if !z.BN.owns src m.e then (z,[]) else
 if m.e.toNat<=z.s.kept.promised.toNat then (z,z.BN.refuse src) else
 if (z.s.promise m.e).2=0 then
  (({ z with s:=(z.s.promise m.e).1 }:Am).follow,[(src,⟨2,m.e,z.s.kept.current,0,0,z.s.kept.lines⟩)])
 else ({ z with s:=(z.s.promise m.e).1 },[])
def Bj (z:Am) (src:Nat) (m:BG):Am × DX:=
 match z.BB with
 | .stands mine has =>
  if mine ≠ m.e \/ m.e.toNat<=m.c.toNat then (z,[]) else
  let uJ:=if (has.getD src none).isSome then has else has.set src (some (m.c,m.ls))
  ({ z with BB := .stands mine uJ }:Am).lead mine uJ
 | _=>(z,[])
def Cj (z:Am) (m:BG):Am × DX:=(if !z.BN.follows && decide (z.BN.mine.toNat<m.e.toNat) then z.follow else z,[])
def BD (z:Am) (src:Nat) (m:BG):Am × DX:=
 if !z.BN.owns src m.e then (z,[]) else
 if m.e.toNat<z.s.kept.promised.toNat then (z,z.BN.refuse src) else
 if z.s.kept.current=m.e then (z.follow,z.BN.ack src m.e) else
 if (z.s.FO m.e m.ls).2=0 then
  let z1:Am:={ z with s:=(z.s.FO m.e m.ls).1,Ag:=min z.Ag m.ls.length }
  (z1.follow,z1.BN.ack src m.e)
 else ({ z with s:=(z.s.FO m.e m.ls).1 },[])
def BF (z:Am) (src:Nat) (m:BG):Am × DX:=
 if !z.BN.owns src m.e then (z,[]) else
 if m.e.toNat<z.s.kept.promised.toNat then (z,z.BN.refuse src) else
 if z.s.kept.promised ≠ m.e \/ z.s.kept.current ≠ m.e then (z,[]) else
 let z1:=z.follow
 if z.s.kept.lines.length<m.at' then (z1,[]) else
 let more:=m.ls.drop (z.s.kept.lines.length - m.at')
 if more=[] then
  let z2:Am:={ z1 with Ag:=max z.Ag (min m.com z.s.kept.lines.length) }
  (z2,z2.BN.ack src m.e)
 else if (z.s.append more).2=0 then
  let z2:Am:={ z1 with s:=(z.s.append more).1,Ag:=max z.Ag (min m.com (z.s.append more).1.kept.lines.length) }
  (z2,z2.BN.ack src m.e)
 else ({ z1 with s:=(z.s.append more).1 },[])
def CJ (z:Am) (src:Nat) (m:BG):Am × DX:=
 match z.BB with
 | .leads mine nR base ready =>
  if mine=m.e then (z.count mine (nR.set src (max (nR.getD src 0) (min m.at' z.s.kept.lines.length:Nat))) base ready,[]) else (z,[])
 | _=>(z,[])
def Ec (z:Am) (src:Nat) (m:BG):Am × DX:=
 if m.k=1 then z.BK src m else if m.k=2 then z.Bj src m else if m.k=3 then z.Cj m else
 if m.k=4 then z.BD src m else if m.k=5 then z.BF src m else z.CJ src m
def hear (z:Am) (src:Nat) (m:BG):Am × DX:=({ z with seen:=Fj z.seen m.e }:Am).Ec src m
def BL (z:Am) (b:List UInt8):Am × Int:=
 if b.length=0 \/ 4096<b.length then (z,1) else
 match z.BB with
 | .leads mine nR base true =>
  if 256<=z.s.kept.lines.length then (z,4) else
  if (z.s.append [⟨mine,b⟩]).2=0 then (({ z with s:=(z.s.append [⟨mine,b⟩]).1 }:Am).count mine nR base true,0) else ({ z with s:=(z.s.append [⟨mine,b⟩]).1 },(z.s.append [⟨mine,b⟩]).2)
 | _=>(z,64)
end Am
theorem Jd {P:Program}{id:Nat}{ops:Array Oper}{d:Bool}{a:Act}{w:World}{Q:Exit->Act->World->Prop}(q:Act->Act->World->Prop)
  (h:(Code.region id ops d).wp P (fun e a' w'=>e = .normal/\q a a' w') a w) (hq:∀ a' w',q a a' w'->Q .normal a' w'):(Code.region id ops d).wp P Q a w:=
 Code.wp_mono (by grind) h
section
variable {P:Program}{ops:Array Oper}{Q:Exit->Act->World->Prop}{md:Region.Mode}{S:World->Prop}{need:Nat->Bool}
theorem Gm {i j:Nat}{E F:Oper}{fuel:Nat}{q:Array Bool}{a:Act}{w:World}(hi:(ops.toList.drop i).head?=some E) (J:(ops.toList.drop j).head?=some F) (r:Region.ready md ops q=[i,j])
  (O:wpList P ops (Exit.then (fun a' w'=>(need i=true->S w')/\Dq P md ops Q S need fuel (q.setIfInBounds i true) a' w') Q) [E] a w)
  (U:wpList P ops (Exit.then (fun a' w'=>(need j=true->S w')/\Dq P md ops Q S need fuel (q.setIfInBounds j true) a' w') Q) [F] a w):Dq P md ops Q S need (fuel+1) q a w:=by
 refine ⟨by grind,fun k u => ?_⟩;rw [r] at u;simp at u;rcases u with rfl | rfl
 ·exact LY (EX hi) O
 ·exact LY (EX J) U
end
section
variable {P:Program}{ops:Array Oper}{Q:Exit->Act->World->Prop}{rest:List Oper}{a:Act}{w w':World}{d:Option Tmp}{ty:TypeId}{ps:String}{af:Array Edge}{v:Value}
end
end Go.Proofs.YtffkdillijmamaaGreat
namespace Go.Proofs
open Go.Shelf
def Tryz.Vu:Go.Shelf.Ren:=⟨fun | 125=>242 | 128=>266 | 129=>267 | n=>n,fun | 46=>119 | 3=>3 | 51=>316 | 53=>34 | 4=>4 | 5=>5 | 9=>9 | n=>n,fun | n=>n⟩
theorem Tryz.lays125:Go.Proofs.Lays.n125 prog Tryz.Vu:={
 mixed:=by rfl
 f125:=func242.trans (by rfl)
 f128:=func266.trans (by rfl)
 f129:=func267.trans (by rfl)
 t3:=underlying3
 a3:=Tryz.isAgg3
 z3:=Tryz.sizeOf3
 v3:=Tryz.zeroValue3
 t4:=underlying4
 a4:=Tryz.isAgg4
 z4:=Tryz.sizeOf4
 v4:=Tryz.zeroValue4
 t5:=underlying5
 a5:=Tryz.isAgg5
 z5:=Tryz.sizeOf5
 v5:=Tryz.zeroValue5
 t9:=underlying9
 a9:=Tryz.isAgg9
 z9:=Tryz.sizeOf9
 v9:=Tryz.zeroValue9
 t46:=underlying119
 a46:=Tryz.isAgg119
 z46:=Tryz.sizeOf119
 v46:=Tryz.zeroValue119
 t51:=underlying316
 a51:=Tryz.isAgg316
 z51:=Tryz.sizeOf316
 v51:=Tryz.zeroValue316
 t53:=underlying34
 a53:=Tryz.isAgg34
 z53:=Tryz.sizeOf34
 v53:=Tryz.zeroValue34 }
theorem Tryz.bits_Len (x:Int) (w:World) (h0:0<=x) (q:x<=18446744073709551615) :
  Calls prog 242 #[.int .u64 x] w fun e w'=>e = .returned (.int .i64 (Lib.bitLen x.toNat))/\w'=w:=Any.bits_Len Tryz.lays125 x w h0 q
def Tryz.Vt:Go.Shelf.Ren:=⟨fun | 212=>248 | 263=>270 | 264=>271 | n=>n,fun | 46=>119 | 51=>316 | 146=>320 | 53=>34 | 148=>322 | n=>n,fun | n=>n⟩
theorem Tryz.lays212:Go.Proofs.Lays.n212 prog Tryz.Vt:={
 mixed:=by rfl
 f212:=func248.trans (by rfl)
 f263:=func270.trans (by rfl)
 f264:=func271.trans (by rfl)
 t46:=underlying119
 a46:=Tryz.isAgg119
 z46:=Tryz.sizeOf119
 v46:=Tryz.zeroValue119
 t51:=underlying316
 a51:=Tryz.isAgg316
 z51:=Tryz.sizeOf316
 v51:=Tryz.zeroValue316
 t53:=underlying34
 a53:=Tryz.isAgg34
 z53:=Tryz.sizeOf34
 v53:=Tryz.zeroValue34
 t146:=underlying320
 a146:=Tryz.isAgg320
 z146:=Tryz.sizeOf320
 v146:=Tryz.zeroValue320
 t148:=underlying322
 a148:=Tryz.isAgg322
 z148:=Tryz.sizeOf322
 v148:=Tryz.zeroValue322 }
open Go.RowKit Go.Lib in
theorem Tryz.bits_Mul (x y:Nat) (hx:x<18446744073709551616) (hy:y<18446744073709551616) (w:World) :
  Calls prog 248 #[.int .u64 x, .int .u64 y] w fun e w'=>e = .returned (.tuple #[.int .u64 ((x*y / 18446744073709551616:Nat):Int), .int .u64 ((x*y % 18446744073709551616:Nat):Int)])/\w'=w:=Any.bits_Mul Tryz.lays212 x y hx hy w
def Tryz.QP:Go.Shelf.Ren:=⟨fun | 15=>89 | n=>n,fun | 22=>53 | 3=>3 | 4=>4 | n=>n,fun | n=>n⟩
theorem Tryz.laysNm215:Go.Proofs.Lays2.n15 prog Tryz.QP:={
 mixed:=by rfl
 f15:=func89.trans (by rfl)
 t3:=underlying3
 a3:=Tryz.isAgg3
 z3:=Tryz.sizeOf3
 v3:=Tryz.zeroValue3
 t4:=underlying4
 a4:=Tryz.isAgg4
 z4:=Tryz.sizeOf4
 v4:=Tryz.zeroValue4
 t22:=underlying53
 a22:=Tryz.isAgg53
 z22:=Tryz.sizeOf53
 v22:=Tryz.zeroValue53
 i3:=by kernel_rfl }
open Go.RowKit Go.Lib in
theorem Tryz.slices_Clone_int (b off n c:Nat) (zs:List Int) (w:World) (hz:n<=zs.length) (hbig:n*8<=140737488355328) (hc:∀ j,j<zs.length->w.cell? ⟨b,off+j,none⟩=some (.int .i64 (zs.getD j 0))) :
  Calls prog 89 #[.slice (some ⟨b,off,none⟩) n c] w fun e w'=>∃ v',e = .returned v'/\w'.ownsRow w.heap.size 3 1 v' n ((zs.take n).map (Value.int .i64))/\v' ≠ .slice none 0 0/\Below w.heap.size w w':=Any.slices_Clone_int Tryz.laysNm215 b off n c zs w hz hbig hc
open Go.RowKit Go.Lib in
theorem Tryz.slices_Clone_int_nil (n c:Nat) (w:World) :
  Calls prog 89 #[.slice none n c] w fun e w'=>e = .returned (.slice none 0 0)/\w'=w:=Any.slices_Clone_int_nil Tryz.laysNm215 n c w
open Go.RowKit Go.Lib in
theorem Tryz.slices_Clone_int_zero (a:Addr) (c:Nat) (w:World) :
  Calls prog 89 #[.slice (some a) 0 c] w fun e w'=>∃ v',e = .returned v'/\w'.ownsRow w.heap.size 3 1 v' 0 []/\v' ≠ .slice none 0 0/\Below w.heap.size w w':=Any.slices_Clone_int_zero Tryz.laysNm215 a c w
def Tryz.QE:Go.Shelf.Ren:=⟨fun | 6=>187 | 15=>242 | 14=>241 | 28=>266 | 29=>267 | 20=>258 | 21=>259 | 22=>260 | 23=>261 | 24=>262 | 25=>263 | 26=>264 | 27=>265 | 46=>273 | 47=>274 | 48=>275 | 49=>276 | 50=>277 | 57=>287 | n=>n,fun | 22=>53 | 24=>3 | 25=>256 | 3=>3 | 39=>119 | 0=>0 | 53=>316 | 55=>34 | 4=>4 | 46=>310 | 45=>309 | 50=>120 | 5=>5 | 9=>9 | 66=>325 | 70=>328 | 76=>336 | 77=>337 | n=>n,fun | n=>n⟩
theorem Tryz.Ym:Go.Proofs.SlLaysF.n6 prog Tryz.QE:={
 mixed:=by rfl
 f6:=⟨Tryz.f187.name,by rfl,func187.trans (congrArg some (by rfl))⟩
 f14:=⟨Tryz.f241.name,by rfl,func241.trans (congrArg some (by rfl))⟩
 f15:=func242.trans (by rfl)
 f20:=⟨Tryz.f258.name,by rfl,func258.trans (congrArg some (by rfl))⟩
 f21:=⟨Tryz.f259.name,by rfl,func259.trans (congrArg some (by rfl))⟩
 f22:=⟨Tryz.f260.name,by rfl,func260.trans (congrArg some (by rfl))⟩
 f23:=⟨Tryz.f261.name,by rfl,func261.trans (congrArg some (by rfl))⟩
 f24:=⟨Tryz.f262.name,by rfl,func262.trans (congrArg some (by rfl))⟩
 f25:=⟨Tryz.f263.name,by rfl,func263.trans (congrArg some (by rfl))⟩
 f26:=⟨Tryz.f264.name,by rfl,func264.trans (congrArg some (by rfl))⟩
 f27:=⟨Tryz.f265.name,by rfl,func265.trans (congrArg some (by rfl))⟩
 f28:=func266.trans (by rfl)
 f29:=func267.trans (by rfl)
 f46:=⟨Tryz.f273.name,by rfl,func273.trans (congrArg some (by rfl))⟩
 f47:=func274.trans (by rfl)
 f48:=func275.trans (by rfl)
 f49:=⟨Tryz.f276.name,by rfl,func276.trans (congrArg some (by rfl))⟩
 f50:=⟨Tryz.f277.name,by rfl,func277.trans (congrArg some (by rfl))⟩
 f57:=⟨Tryz.f287.name,by rfl,func287.trans (congrArg some (by rfl))⟩
 t0:=underlying0
 a0:=Tryz.isAgg0
 z0:=Tryz.sizeOf0
 v0:=Tryz.zeroValue0
 t3:=underlying3
 a3:=Tryz.isAgg3
 z3:=Tryz.sizeOf3
 v3:=Tryz.zeroValue3
 t4:=underlying4
 a4:=Tryz.isAgg4
 z4:=Tryz.sizeOf4
 v4:=Tryz.zeroValue4
 t5:=underlying5
 a5:=Tryz.isAgg5
 z5:=Tryz.sizeOf5
 v5:=Tryz.zeroValue5
 t9:=underlying9
 a9:=Tryz.isAgg9
 z9:=Tryz.sizeOf9
 v9:=Tryz.zeroValue9
 t22:=underlying53
 a22:=Tryz.isAgg53
 z22:=Tryz.sizeOf53
 v22:=Tryz.zeroValue53
 a24:=Tryz.isAgg3
 z24:=Tryz.sizeOf3
 t25:=underlying256
 a25:=Tryz.isAgg256
 z25:=Tryz.sizeOf256
 v25:=Tryz.zeroValue256
 t39:=underlying119
 a39:=Tryz.isAgg119
 z39:=Tryz.sizeOf119
 v39:=Tryz.zeroValue119
 t45:=underlying309
 a45:=Tryz.isAgg309
 z45:=Tryz.sizeOf309
 v45:=Tryz.zeroValue309
 t46:=underlying310
 a46:=Tryz.isAgg310
 z46:=Tryz.sizeOf310
 v46:=Tryz.zeroValue310
 t50:=underlying120
 a50:=Tryz.isAgg120
 z50:=Tryz.sizeOf120
 v50:=Tryz.zeroValue120
 t53:=underlying316
 a53:=Tryz.isAgg316
 z53:=Tryz.sizeOf316
 v53:=Tryz.zeroValue316
 t55:=underlying34
 a55:=Tryz.isAgg34
 z55:=Tryz.sizeOf34
 v55:=Tryz.zeroValue34
 t66:=underlying325
 a66:=Tryz.isAgg325
 z66:=Tryz.sizeOf325
 v66:=Tryz.zeroValue325
 t70:=underlying328
 a70:=Tryz.isAgg328
 z70:=Tryz.sizeOf328
 v70:=Tryz.zeroValue328
 t76:=underlying336
 a76:=Tryz.isAgg336
 z76:=Tryz.sizeOf336
 v76:=Tryz.zeroValue336
 t77:=underlying337
 a77:=Tryz.isAgg337
 z77:=Tryz.sizeOf337
 v77:=Tryz.zeroValue337 }
def Tryz.keysL_ren:Go.Shelf.Ren:=⟨fun | 7=>195 | 10=>245 | n=>n,fun | 23=>204 | 26=>3 | 3=>203 | 28=>261 | 0=>0 | 27=>260 | 33=>27 | 4=>4 | n=>n,fun | n=>n⟩
theorem Tryz.keysL:Go.Proofs.SlLaysZI.n7 prog Tryz.keysL_ren:={
 mixed:=by rfl
 f7:=⟨Tryz.f195.name,by rfl,func195.trans (congrArg some (by rfl))⟩
 f10:=⟨Tryz.f245.name,by rfl,func245.trans (congrArg some (by rfl))⟩
 t0:=underlying0
 a0:=Tryz.isAgg0
 z0:=Tryz.sizeOf0
 v0:=Tryz.zeroValue0
 t4:=underlying4
 a4:=Tryz.isAgg4
 z4:=Tryz.sizeOf4
 v4:=Tryz.zeroValue4
 t23:=underlying204
 a23:=Tryz.isAgg204
 z23:=Tryz.sizeOf204
 v23:=Tryz.zeroValue204
 t26:=underlying3
 a26:=Tryz.isAgg3
 z26:=Tryz.sizeOf3
 v26:=Tryz.zeroValue3
 t27:=underlying260
 a27:=Tryz.isAgg260
 z27:=Tryz.sizeOf260
 v27:=Tryz.zeroValue260
 t28:=underlying261
 a28:=Tryz.isAgg261
 z28:=Tryz.sizeOf261
 v28:=Tryz.zeroValue261
 t33:=underlying27
 a33:=Tryz.isAgg27
 z33:=Tryz.sizeOf27
 v33:=Tryz.zeroValue27 }
def Tryz.Og:Go.Shelf.Ren:=⟨fun | 6=>194 | 8=>243 | 9=>244 | 11=>268 | 13=>242 | 12=>269 | 23=>266 | 24=>267 | 14=>278 | 15=>279 | 16=>280 | 17=>281 | 18=>282 | 19=>283 | 20=>284 | 21=>285 | 22=>286 | 25=>288 | 26=>274 | 27=>275 | 28=>289 | 29=>290 | 30=>291 | 31=>292 | n=>n,fun | 26=>3 | 28=>261 | 24=>53 | 0=>0 | 3=>3 | 37=>119 | 48=>316 | 50=>34 | 4=>4 | 40=>310 | 39=>309 | 45=>120 | 5=>5 | 9=>9 | 51=>325 | 55=>328 | 57=>336 | 58=>337 | 33=>27 | n=>n,fun | n=>n⟩
theorem Tryz.dE:Go.Proofs.SlLaysZI.n6 prog Tryz.Og:={
 mixed:=by rfl
 f6:=⟨Tryz.f194.name,by rfl,func194.trans (congrArg some (by rfl))⟩
 f8:=⟨Tryz.f243.name,by rfl,func243.trans (congrArg some (by rfl))⟩
 f11:=⟨Tryz.f268.name,by rfl,func268.trans (congrArg some (by rfl))⟩
 t0:=underlying0
 a0:=Tryz.isAgg0
 z0:=Tryz.sizeOf0
 v0:=Tryz.zeroValue0
 t24:=underlying53
 a24:=Tryz.isAgg53
 z24:=Tryz.sizeOf53
 v24:=Tryz.zeroValue53
 t26:=underlying3
 a26:=Tryz.isAgg3
 z26:=Tryz.sizeOf3
 v26:=Tryz.zeroValue3
 t28:=underlying261
 a28:=Tryz.isAgg261
 z28:=Tryz.sizeOf261
 v28:=Tryz.zeroValue261
 i26:=by kernel_rfl }
def Tryz.SB:Go.Shelf.Ren:=⟨fun | 5=>244 | 8=>242 | 7=>269 | 19=>266 | 20=>267 | 10=>278 | 11=>279 | 12=>280 | 13=>281 | 14=>282 | 15=>283 | 16=>284 | 17=>285 | 18=>286 | 30=>288 | 31=>274 | 32=>275 | 33=>289 | 34=>290 | 35=>291 | 40=>292 | n=>n,fun | 23=>53 | 25=>3 | 3=>3 | 32=>119 | 22=>53 | 0=>0 | 44=>316 | 46=>34 | 4=>4 | 36=>310 | 35=>309 | 41=>120 | 5=>5 | 9=>9 | 53=>325 | 57=>328 | 63=>336 | 64=>337 | n=>n,fun | n=>n⟩
theorem Tryz.Uy:Go.Proofs.SlLaysM.n5 prog Tryz.SB:={
 mixed:=by rfl
 f5:=⟨Tryz.f244.name,by rfl,func244.trans (congrArg some (by rfl))⟩
 f7:=⟨Tryz.f269.name,by rfl,func269.trans (congrArg some (by rfl))⟩
 f8:=func242.trans (by rfl)
 f10:=⟨Tryz.f278.name,by rfl,func278.trans (congrArg some (by rfl))⟩
 f11:=⟨Tryz.f279.name,by rfl,func279.trans (congrArg some (by rfl))⟩
 f12:=⟨Tryz.f280.name,by rfl,func280.trans (congrArg some (by rfl))⟩
 f13:=⟨Tryz.f281.name,by rfl,func281.trans (congrArg some (by rfl))⟩
 f14:=⟨Tryz.f282.name,by rfl,func282.trans (congrArg some (by rfl))⟩
 f15:=⟨Tryz.f283.name,by rfl,func283.trans (congrArg some (by rfl))⟩
 f16:=⟨Tryz.f284.name,by rfl,func284.trans (congrArg some (by rfl))⟩
 f17:=⟨Tryz.f285.name,by rfl,func285.trans (congrArg some (by rfl))⟩
 f18:=⟨Tryz.f286.name,by rfl,func286.trans (congrArg some (by rfl))⟩
 f19:=func266.trans (by rfl)
 f20:=func267.trans (by rfl)
 f30:=⟨Tryz.f288.name,by rfl,func288.trans (congrArg some (by rfl))⟩
 f31:=func274.trans (by rfl)
 f32:=func275.trans (by rfl)
 f33:=⟨Tryz.f289.name,by rfl,func289.trans (congrArg some (by rfl))⟩
 f34:=⟨Tryz.f290.name,by rfl,func290.trans (congrArg some (by rfl))⟩
 f35:=⟨Tryz.f291.name,by rfl,func291.trans (congrArg some (by rfl))⟩
 f40:=⟨Tryz.f292.name,by rfl,func292.trans (congrArg some (by rfl))⟩
 t0:=underlying0
 a0:=Tryz.isAgg0
 z0:=Tryz.sizeOf0
 v0:=Tryz.zeroValue0
 t3:=underlying3
 a3:=Tryz.isAgg3
 z3:=Tryz.sizeOf3
 v3:=Tryz.zeroValue3
 t4:=underlying4
 a4:=Tryz.isAgg4
 z4:=Tryz.sizeOf4
 v4:=Tryz.zeroValue4
 t5:=underlying5
 a5:=Tryz.isAgg5
 z5:=Tryz.sizeOf5
 v5:=Tryz.zeroValue5
 t9:=underlying9
 a9:=Tryz.isAgg9
 z9:=Tryz.sizeOf9
 v9:=Tryz.zeroValue9
 t22:=underlying53
 a22:=Tryz.isAgg53
 z22:=Tryz.sizeOf53
 v22:=Tryz.zeroValue53
 t23:=underlying53
 a23:=Tryz.isAgg53
 z23:=Tryz.sizeOf53
 v23:=Tryz.zeroValue53
 t25:=underlying3
 a25:=Tryz.isAgg3
 z25:=Tryz.sizeOf3
 v25:=Tryz.zeroValue3
 t32:=underlying119
 a32:=Tryz.isAgg119
 z32:=Tryz.sizeOf119
 v32:=Tryz.zeroValue119
 t35:=underlying309
 a35:=Tryz.isAgg309
 z35:=Tryz.sizeOf309
 v35:=Tryz.zeroValue309
 t36:=underlying310
 a36:=Tryz.isAgg310
 z36:=Tryz.sizeOf310
 v36:=Tryz.zeroValue310
 t41:=underlying120
 a41:=Tryz.isAgg120
 z41:=Tryz.sizeOf120
 v41:=Tryz.zeroValue120
 t44:=underlying316
 a44:=Tryz.isAgg316
 z44:=Tryz.sizeOf316
 v44:=Tryz.zeroValue316
 t46:=underlying34
 a46:=Tryz.isAgg34
 z46:=Tryz.sizeOf34
 v46:=Tryz.zeroValue34
 t53:=underlying325
 a53:=Tryz.isAgg325
 z53:=Tryz.sizeOf325
 v53:=Tryz.zeroValue325
 t57:=underlying328
 a57:=Tryz.isAgg328
 z57:=Tryz.sizeOf328
 v57:=Tryz.zeroValue328
 t63:=underlying336
 a63:=Tryz.isAgg336
 z63:=Tryz.sizeOf336
 v63:=Tryz.zeroValue336
 t64:=underlying337
 a64:=Tryz.isAgg337
 z64:=Tryz.sizeOf337
 v64:=Tryz.zeroValue337 }
end Go.Proofs
namespace Go.Proofs.YtffkdillijmamaaGreat
open Go.Proofs.Tryz
set_option maxRecDepth 100000
set_option maxHeartbeats 3200000
open Go Go.RowKit
attribute [local go_sem ↓] Go.wp_at_zero Go.wp_at_succ
theorem UJ {k:IntKind}{a b:Int}(h:a=b):Ending.returned (.int k a) = .returned (.int k b):=by rw [h]
theorem Rx (e:Nat) (r:e<18446744073709551616) (m:Int) (q:m=(e:Int)) (n:Nat) (u:1<=n) (E:n<=3) (w:World):Calls prog 192 #[.int .u64 m, .int .i64 (n:Int)] w fun e' w'=>e' = .returned (.int .i64 ((e % n:Nat):Int))/\w=w':=by
 rcases (show n=1 \/ n=2 \/ n=3 by omega) with rfl | rfl | rfl
 all_goals
  go_wp2
  go_ret;exact ⟨UJ om,rfl⟩
theorem PD (n:Nat) (q:1<=n) (r:n<=3) (w:World):Calls prog 189 #[.int .i64 (n:Int)] w fun e' w'=>e' = .returned (.int .i64 ((n / 2+1:Nat):Int))/\w=w':=by
 all_goals
  go_wp2
  go_ret;exact ⟨rfl,rfl⟩
theorem YE (a b c d:Nat) (W:World):(Op.equalIn 10000 299 (.agg #[.int .u64 (a:Int), .int .u64 (b:Int)]) (.agg #[.int .u64 (c:Int), .int .u64 (d:Int)])).run prog W = .ok (((a:Int) == c) && ((b:Int) == d)) W:=by
 have E:prog.underlying 34=some (.int .u64):=underlying34;have F:(sizeOf 34).run prog W = .ok 1 W:=by rfl
 unfold Op.equalIn;simp only [Sem.run_bind,run_underlying underlying299,Result.andThen_ok,F];have q:∀ (x y:Int) (W:World),(Op.equalIn 9999 34 (.int .u64 x) (.int .u64 y)).run prog W = .ok (x == y) W:=fun x y W=>run_equalIn_int W 9998 34 .u64 .u64 x y E;have hp:∀ (x y:Int) (W:World),(part 34 #[.int .u64 x, .int .u64 y] 0).run prog W = .ok (.int .u64 x) W:=fun _ _ _=>rfl;have hq:∀ (x y:Int) (W:World),(part 34 #[.int .u64 x, .int .u64 y] 1).run prog W = .ok (.int .u64 y) W:=fun _ _ _=>rfl
 by_cases r:(a:Int)=c
 ·by_cases u:(b:Int)=d
  simp_all [List.range']
  simp_all [List.range']
 simp_all [List.range']
section
variable {w:World}{o:Own}
theorem Vm {w:World}{b:Nat}{x y:Value}(q:w.rangeAt b 0 [x,y]):(Instr.loadAt 299 (.pointer (some ⟨b,0,none⟩))).run prog w = .ok (.agg #[x,y]) w:=by
 exact run_loadVar_mid w b 0 299 [x,y] _ q underlying299 rfl (by rfl)
def LJ (a b c d:Nat):Int:=if a=c/\b=d then 0 else if a<c \/ (a=c/\b<d) then -1 else 1
theorem YF (a b c d:Nat):Calls prog 246 #[.agg #[.int .u64 (a:Int), .int .u64 (b:Int)], .agg #[.int .u64 (c:Int), .int .u64 (d:Int)]] w (XL ai w o fun v _ _=>v = .int .i64 (LJ a b c d)):=by
 have s1:=((aj.refl ai w o).alloc (.cells #[.int .u64 (a:Int), .int .u64 (b:Int)] 299) (0,0)).alloc (.cells #[.int .u64 (c:Int), .int .u64 (d:Int)] 299) (0,0);have E:=(Below.heap_alloc (w.alloc (.cells #[.int .u64 (a:Int), .int .u64 (b:Int)] 299)) (.cells #[.int .u64 (c:Int), .int .u64 (d:Int)] 299) w.heap.size (by simp)).trans (heap_alloc_new w (.cells [.int .u64 (a:Int), .int .u64 (b:Int)].toArray 299));have F:((w.alloc (.cells #[.int .u64 (a:Int), .int .u64 (b:Int)] 299)).alloc (.cells #[.int .u64 (c:Int), .int .u64 (d:Int)] 299)).heap[w.heap.size+1]?=some (.cells [.int .u64 (c:Int), .int .u64 (d:Int)].toArray 299 (0,0)):=by
  have:=heap_alloc_new (w.alloc (.cells #[.int .u64 (a:Int), .int .u64 (b:Int)] 299)) (.cells [.int .u64 (c:Int), .int .u64 (d:Int)].toArray 299)
  simpa using this
 obtain ⟨W,hW⟩:=az ((w.alloc (.cells #[.int .u64 (a:Int), .int .u64 (b:Int)] 299)).alloc (.cells #[.int .u64 (c:Int), .int .u64 (d:Int)] 299));rw [hW] at s1 E F;generalize Ak (Ak o w.heap.size (0,0)) (w.alloc (.cells #[.int .u64 (a:Int), .int .u64 (b:Int)] 299)).heap.size (0,0)=o1 at s1;have J:=ae (Vm (AV E));have O:=ae (Vm (AV F));have hc:=fun W=>YE a b c d W;have x0:W.drew.cell? ⟨w.heap.size,0,none⟩=some (.int .u64 (a:Int)):=ag E 0;have x1:W.drew.drew.cell? ⟨w.heap.size,1,none⟩=some (.int .u64 (b:Int)):=ag E 1;have y0:W.drew.cell? ⟨w.heap.size+1,0,none⟩=some (.int .u64 (c:Int)):=ag F 0;have y1:W.drew.drew.cell? ⟨w.heap.size+1,1,none⟩=some (.int .u64 (d:Int)):=ag F 1;have u:=ae (aI x0 y0);have a2:=ae (aI x1 y1);have U:=ae hW;have Y:=ae s1;clear E F hW s1 x0 x1 y0 y1
 by_cases e1:a=c
 ·subst e1
  by_cases e2:b=d
  ·subst e2;have r:=ae (show LJ a b a b=0 by simp [LJ]);simp only [beq_self_eq_true,Bool.and_true] at hc;go_enter func246,ntmps246
   go_wp2_with ((with_reducible apply Bo);(try rw [U.out]);(first | exact J.out | exact O.out);simp only [Act.put,GL,DL,lss])
   go_ret;exact ⟨_,o1,rfl,Y.out,by rw [r.out];rfl⟩
  ·have a5:((b:Int) == (d:Int))=false:=by grind
   rw [a5] at hc;simp only [Bool.and_false] at hc
   by_cases h:b<d
   ·clear e2;have r:=ae (show LJ a b a d = -1 by unfold LJ;omega);have a3:(b:Int)<(d:Int):=om
    go_enter func246,ntmps246
    go_wp2_with ((with_reducible apply Bo);(try rw [U.out]);(first | exact J.out | exact O.out);simp only [Act.put,GL,DL,lss])
    refine wp_loop_rounds 2 ?_;rw [rounds_succ];go_wp2_with fail;refine Aa (fun w'=>w'.cell? ⟨w.heap.size,0,none⟩=some (.int .u64 (a:Int))/\w'.cell? ⟨w.heap.size+1,0,none⟩=some (.int .u64 (a:Int))) (fun _=>true) (by rfl) u.out (fun q => ?_);refine tq 0 (h:=tq 1 (h:=tq 2 (h:=tq 3 (h:=tq 4 (h:=tq 5 (h:=tq 6 (h:=tD (h:=?_))))))));clear q;go_wp2_with fail;rw [rounds_succ];go_wp2_with fail;refine Aa (fun w'=>w'.cell? ⟨w.heap.size,1,none⟩=some (.int .u64 (b:Int))/\w'.cell? ⟨w.heap.size+1,1,none⟩=some (.int .u64 (d:Int))) (fun _=>true) (by rfl) a2.out (fun q => ?_);refine tq 0 (h:=tq 1 (h:=tq 2 (h:=tq 3 (h:=tq 4 (h:=tq 5 (h:=tq 6 (h:=tD (h:=?_))))))));clear q;go_wp2_with fail;refine Aa (fun w'=>w'.cell? ⟨w.heap.size,1,none⟩=some (.int .u64 (b:Int))/\w'.cell? ⟨w.heap.size+1,1,none⟩=some (.int .u64 (d:Int))) (fun _=>true) (by rfl) a2.out (fun q => ?_);refine tq 0 (h:=tq 1 (h:=tq 2 (h:=tq 3 (h:=tq 4 (h:=tq 5 (h:=tq 6 (h:=tD (h:=?_))))))));clear q;go_wp2_with fail;go_ret;exact ⟨_,o1,rfl,Y.out.drew.drew.drew,by rw [r.out];rfl⟩
   ·clear e2;have r:=ae (show LJ a b a d=1 by unfold LJ;grind);go_enter func246,ntmps246
    go_wp2_with ((with_reducible apply Bo);(try rw [U.out]);(first | exact J.out | exact O.out);simp only [Act.put,GL,DL,lss])
    refine wp_loop_rounds 2 ?_;rw [rounds_succ];go_wp2_with fail;refine Aa (fun w'=>w'.cell? ⟨w.heap.size,0,none⟩=some (.int .u64 (a:Int))/\w'.cell? ⟨w.heap.size+1,0,none⟩=some (.int .u64 (a:Int))) (fun _=>true) (by rfl) u.out (fun q => ?_);refine tq 0 (h:=tq 1 (h:=tq 2 (h:=tq 3 (h:=tq 4 (h:=tq 5 (h:=tq 6 (h:=tD (h:=?_))))))));clear q;go_wp2_with fail;rw [rounds_succ];go_wp2_with fail;refine Aa (fun w'=>w'.cell? ⟨w.heap.size,1,none⟩=some (.int .u64 (b:Int))/\w'.cell? ⟨w.heap.size+1,1,none⟩=some (.int .u64 (d:Int))) (fun _=>true) (by rfl) a2.out (fun q => ?_);refine tq 0 (h:=tq 1 (h:=tq 2 (h:=tq 3 (h:=tq 4 (h:=tq 5 (h:=tq 6 (h:=tD (h:=?_))))))));clear q;go_wp2_with fail;refine Aa (fun w'=>w'.cell? ⟨w.heap.size,1,none⟩=some (.int .u64 (b:Int))/\w'.cell? ⟨w.heap.size+1,1,none⟩=some (.int .u64 (d:Int))) (fun _=>true) (by rfl) a2.out (fun q => ?_);refine tq 0 (h:=tq 1 (h:=tq 2 (h:=tq 3 (h:=tq 4 (h:=tq 5 (h:=tq 6 (h:=tD (h:=?_))))))));clear q;go_wp2_with fail;go_ret;exact ⟨_,o1,rfl,Y.out.drew.drew.drew,by rw [r.out];rfl⟩
 ·have a4:((a:Int) == (c:Int))=false:=by grind
  rw [a4] at hc;simp only [Bool.false_and] at hc
  by_cases h:a<c
  ·clear e1;have r:=ae (show LJ a b c d = -1 by unfold LJ;omega);have a3:(a:Int)<(c:Int):=om
   go_enter func246,ntmps246
   go_wp2_with ((with_reducible apply Bo);(try rw [U.out]);(first | exact J.out | exact O.out);simp only [Act.put,GL,DL,lss])
   refine wp_loop_rounds 2 ?_;rw [rounds_succ];go_wp2_with fail;refine Aa (fun w'=>w'.cell? ⟨w.heap.size,0,none⟩=some (.int .u64 (a:Int))/\w'.cell? ⟨w.heap.size+1,0,none⟩=some (.int .u64 (c:Int))) (fun _=>true) (by rfl) u.out (fun q => ?_);refine tq 0 (h:=tq 1 (h:=tq 2 (h:=tq 3 (h:=tq 4 (h:=tq 5 (h:=tq 6 (h:=tD (h:=?_))))))));clear q;go_wp2_with fail;refine Aa (fun w'=>w'.cell? ⟨w.heap.size,0,none⟩=some (.int .u64 (a:Int))/\w'.cell? ⟨w.heap.size+1,0,none⟩=some (.int .u64 (c:Int))) (fun _=>true) (by rfl) u.out (fun q => ?_);refine tq 0 (h:=tq 1 (h:=tq 2 (h:=tq 3 (h:=tq 4 (h:=tq 5 (h:=tq 6 (h:=tD (h:=?_))))))));clear q;go_wp2_with fail;go_ret;exact ⟨_,o1,rfl,Y.out.drew.drew,by rw [r.out];rfl⟩
  ·clear e1;have r:=ae (show LJ a b c d=1 by unfold LJ;grind)
   go_enter func246,ntmps246
   go_wp2_with ((with_reducible apply Bo);(try rw [U.out]);(first | exact J.out | exact O.out);simp only [Act.put,GL,DL,lss])
   refine wp_loop_rounds 2 ?_;rw [rounds_succ];go_wp2_with fail;refine Aa (fun w'=>w'.cell? ⟨w.heap.size,0,none⟩=some (.int .u64 (a:Int))/\w'.cell? ⟨w.heap.size+1,0,none⟩=some (.int .u64 (c:Int))) (fun _=>true) (by rfl) u.out (fun q => ?_);refine tq 0 (h:=tq 1 (h:=tq 2 (h:=tq 3 (h:=tq 4 (h:=tq 5 (h:=tq 6 (h:=tD (h:=?_))))))));clear q;go_wp2_with fail;refine Aa (fun w'=>w'.cell? ⟨w.heap.size,0,none⟩=some (.int .u64 (a:Int))/\w'.cell? ⟨w.heap.size+1,0,none⟩=some (.int .u64 (c:Int))) (fun _=>true) (by rfl) u.out (fun q => ?_);refine tq 0 (h:=tq 1 (h:=tq 2 (h:=tq 3 (h:=tq 4 (h:=tq 5 (h:=tq 6 (h:=tD (h:=?_))))))));clear q;go_wp2_with fail;go_ret;exact ⟨_,o1,rfl,Y.out.drew.drew,by rw [r.out];rfl⟩
theorem YD (a b c d:Nat) (B D:Int) (q:B=(b:Nat)) (r:D=(d:Nat)):Calls prog 246 #[.agg #[.int .u64 (a:Int), .int .u64 B], .agg #[.int .u64 (c:Int), .int .u64 D]] w (XL ai w o fun v _ _=>v = .int .i64 (LJ a b c d)):=by
 subst q r;exact YF a b c d
theorem Xx (c1 c2 q r:Nat) (u:q<=256) (E:r<=256):Calls prog 196 #[.int .u64 (c1:Int), .int .i64 (q:Int), .int .u64 (c2:Int), .int .i64 (r:Int)] w (XL ai w o fun v _ _=>v = .bool (decide (c2<c1) || (decide (c1=c2) && decide (r<q)))):=by
 have Y:(0:Int)<=(q:Int)/\(q:Int)<=256:=om
 have i2:(0:Int)<=(r:Int)/\(r:Int)<=256:=om
 have F:=ae (YD (w:=w) (o:=o) c1 (q+9223372036854775808) c2 (r+9223372036854775808) ((q:Int)+9223372036854775808) ((r:Int)+9223372036854775808) om om);have J:=ae (show (decide (c2<c1) || (decide (c1=c2) && decide (r<q)))=decide (0<LJ c1 (q+9223372036854775808) c2 (r+9223372036854775808)) by
  unfold LJ
  grind)
 clear u E;generalize LJ c1 (q+9223372036854775808) c2 (r+9223372036854775808)=R at *;go_enter func196,ntmps196;go_wp2_with fail;refine F.out.mono ?_;rintro e w1 ⟨v1,o1,rfl,W,rfl⟩;go_wp2_with fail;go_ret;exact ⟨_,o1,rfl,W,by rw [J.out];rfl⟩
end
theorem aG (a id n:Nat) (W:a<=281474976710656) (q:1<=n) (u:n<=3) (hi:id<n) (w:World):Calls prog 137 #[.int .u64 (a:Int), .int .i64 (id:Int), .int .i64 (n:Int)] w fun e' w'=>e' = .returned (.int .u64 ((a+1+(id+n - (a+1) % n) % n:Nat):Int))/\w=w':=by
 have ia:(0:Int)<=(a:Int)/\(a:Int)<=281474976710656:=om
 have E:=ae (Rx (a+1) om ((a:Int)+1) om n q u w);have F:(a+1) % n<n:=Nat.mod_lt _ om;obtain ⟨r,J⟩:=az ((a+1) % n);rw [J] at E F ⊢;have hI:(0:Int)<=(id:Int) - (r:Int)+(n:Int):=om
 have O:(id:Int) - (r:Int)+(n:Int)=((id+n - r:Nat):Int):=om
 have U:((a+1+(id+n - r) % n:Nat):Int)=(a:Int)+1+((id:Int) - (r:Int)+(n:Int)) % (n:Int):=by
  grind
 have Y:=ae U;have a2:(0:Int)<=((id:Int) - (r:Int)+(n:Int)) % (n:Int)/\((id:Int) - (r:Int)+(n:Int)) % (n:Int)<3:=⟨om,by have:=Int.emod_lt_of_pos ((id:Int) - (r:Int)+(n:Int)) (show (0:Int)<n by omega);omega⟩;have g1:¬ (n:Int)<1:=om
 have g2:¬ (id:Int)<0:=om
 have g3:¬ (n:Int)<=(id:Int):=om
 have g4:¬ (281474976710656:Int)<(a:Int):=om
 have n0:(0:Int)<(n:Int)/\(n:Int)<=3:=om
 have r0:(0:Int)<=(r:Int)/\(r:Int)<3:=om
 clear U O F J W q u hi;go_enter func137,ntmps137;go_wp2_with fail;refine E.out.mono ?_;rintro e w' ⟨rfl,rfl⟩;go_wp2_with fail;go_ret;refine ⟨UJ ?_,rfl⟩;rw [Y.out];have a3:((id:Int) - (r:Int)+(n:Int)) % (n:Int)=((id:Int) - (r:Int)) % (n:Int):=Int.add_emod_right _ _;rw [a3] at a2 ⊢;rw [IntWalk.u64_in _ (show 0<=((id:Int) - (r:Int)) % (n:Int)/\((id:Int) - (r:Int)) % (n:Int)<=18446744073709551615 by omega),IntWalk.u64_in _ om]
open Go Go.RowKit Go.Sort
def Em (x y:Int):Int:=if y<x then -1 else if x<y then 1 else 0
theorem bI (x y:Int) (w:World):Calls prog 188 #[.int .i64 x, .int .i64 y] w fun e w'=>e = .returned (.int .i64 (Em x y))/\∃ q,w'=w.drewN q:=by
 by_cases u:y<x
 ·have r:=ae (show Em x y = -1 by unfold Em;omega);go_enter func188,ntmps188
  go_wp2
  go_ret;exact ⟨by rw [r.out];rfl,0,rfl⟩
 ·by_cases E:x<y
  ·have r:=ae (show Em x y=1 by unfold Em;omega);go_wp2
   go_ret;exact ⟨by rw [r.out];rfl,0,rfl⟩
  ·have r:=ae (show Em x y=0 by unfold Em;omega);go_wp2
   go_ret;exact ⟨by rw [r.out];rfl,0,rfl⟩
theorem QD (l:List Int) (r:1<=l.length) (E:l.length<=3):(Sort.insertionSort (ltOf Em) l.toArray 0 l.length).size=l.length/\(Sort.insertionSort (ltOf Em) l.toArray 0 l.length)[l.length / 2]?=some (CW l):=by
 match l,r,E with
 | [a],_,_ =>
  have e:Sort.insertionSort (ltOf Em) #[a] 0 1 = #[a]:=by simp [Sort.insertionSort,insOuter]
  rw [show [a].toArray = #[a] from rfl,show [a].length=1 from rfl,e];exact ⟨rfl,rfl⟩
 | [a,b],_,_ =>
  by_cases h:a<b
  ·have e:Sort.insertionSort (ltOf Em) #[a,b] 0 2 = #[b,a]:=by
    simp [Sort.insertionSort,insOuter,insInner,ltOf,Em,swp,h]
   rw [show [a,b].toArray = #[a,b] from rfl,show [a,b].length=2 from rfl,e];refine ⟨rfl, ?_⟩;show some a=some (min a b);grind
  ·have e:Sort.insertionSort (ltOf Em) #[a,b] 0 2 = #[a,b]:=by
    grind [Sort.insertionSort,insOuter,insInner,ltOf,Em]
   rw [show [a,b].toArray = #[a,b] from rfl,show [a,b].length=2 from rfl,e];refine ⟨rfl, ?_⟩;show some b=some (min a b);grind
 | [a,b,c],_,_ =>
  have F:∀ x y z:Int,Sort.insertionSort (ltOf Em) #[a,b,c] 0 3 = #[x,y,z]->y=max (min a b) (min (max a b) c)->(Sort.insertionSort (ltOf Em) #[a,b,c] 0 3).size=3/\(Sort.insertionSort (ltOf Em) #[a,b,c] 0 3)[3 / 2]?=some (CW [a,b,c]):=by
   intro x y z e h;rw [e];refine ⟨rfl, ?_⟩;show some y=some (max (min a b) (min (max a b) c));rw [h]
  by_cases r:a<b
  ·by_cases u:b<c
   ·exact F c b a (by simp [Sort.insertionSort,insOuter,insInner,ltOf,Em,swp,r,u,show a<c by omega]) om
   ·by_cases E:a<c
    ·refine F b c a (by
      by_cases h4:c<b
      ·simp [Sort.insertionSort,insOuter,insInner,ltOf,Em,swp,r,u,E,h4]
      ·simp [Sort.insertionSort,insOuter,insInner,ltOf,Em,swp,r,u,E,h4]) om
    ·refine F b a c (by
      by_cases h4:c<a
      ·simp [Sort.insertionSort,insOuter,insInner,ltOf,Em,swp,r,E,h4]
      ·simp [Sort.insertionSort,insOuter,insInner,ltOf,Em,swp,r,E,h4]) om
  ·have O:∀ (p q:Int),(if b<a then -1 else if a<b then 1 else (0:Int))=p->True:=by simp
   by_cases u:b<c
   ·by_cases E:a<c
    ·refine F c a b (by
      by_cases h4:b<a
      ·simp [Sort.insertionSort,insOuter,insInner,ltOf,Em,swp,r,u,E,h4]
      ·simp [Sort.insertionSort,insOuter,insInner,ltOf,Em,swp,r,u,E,h4]) om
    ·refine F a c b (by
      by_cases h4:b<a <;> by_cases J:c<a <;> simp [Sort.insertionSort,insOuter,insInner,ltOf,Em,swp,r,u,E,h4,J]) om
   ·refine F a b c (by
     by_cases h4:b<a <;> by_cases J:c<b <;> simp [Sort.insertionSort,insOuter,insInner,ltOf,Em,r,u,h4,J]) om
theorem ZU {w:World}{g:Nat}{cs:Array Value}{E:TypeId}{l:List Int}(q:w.heap[g]?=some (.cells cs E (0,0))) (F:cs.toList.take l.length=ivs l):Holds (Value.int .i64) w g 0 l.toArray:=by
 intro j J;have r:j<l.length:=om
 refine ⟨?_,by simp [World.frozen?,q]⟩;have u:(cs.toList.take l.length)[j]?=(ivs l)[j]?:=by rw [F]
 rw [List.getElem?_take_of_lt r,Array.getElem?_toList] at u;simp_all [World.cell?,ivs]
theorem VZ {w:World}{o:Own}{b cap:Nat}{nR:List Int}(hr:w.rangeAt b 0 (ivs nR)) (h1:1<=nR.length) (h3:nR.length<=3) :
  Calls prog 134 #[.slice (some ⟨b,0,none⟩) nR.length cap] w (XL ai w o fun v _ _=>v = .int .i64 (CW nR)):=by
 have Y:=Tryz.slices_Clone_int b 0 nR.length cap nR w (by simp) om (fun j hj=>by
  have:=hr j (.int .i64 (nR.getD j 0)) (by simp [ivs,hj])
  omega)
 rw [List.take_length] at Y;obtain ⟨n,hn⟩:=az (nR.length);have a2:=QD nR h1 h3;have b3:(1:Int)<=(n:Int)/\(n:Int)<=3:=om
 have xG:=ae Y;have hq:=ae (PD n om om);rw [hn] at xG a2 ⊢;have U:=ae hn;have E:=ae a2;clear Y a2 hn hr h1 h3;go_enter func134,ntmps134;go_wp2_with fail;refine xG.out.mono ?_;rintro e r ⟨v1,rfl,a4, -,F⟩;have u:aj ai w o r (ext w o):=⟨F.os,F.tape,F.output,F.size,fun k J=>if_pos J,fun k J _=>F.block k J⟩
 rcases a4.2 with ⟨-,h0⟩ | ⟨g,a9,cur,rfl,q1,q2,q3,q4,q5,q6⟩
 omega
 have a3:=ZU (l:=nR) q2 (by rw [U.out, <-Nat.mul_one n];exact q6);have O:=Any.slices_SortFunc_small Tryz.Ym (Value.int .i64) (fun _=>rfl) Em 188 #[] g 0 a9 nR.toArray r Tryz.call188 (fun _ _ _ _ x y=>bI x y _) a3 (by simp [U.out];omega) (fun m W hm=>(Tryz.bits_Len m W om om).mono fun _ _ ⟨he,hw⟩=>⟨by grind,hw⟩)
 change Calls prog 187 _ _ _ at O
 have es:nR.toArray.size=n:=by assumption
 rw [es] at O;obtain ⟨S,hS⟩:=az (Sort.insertionSort (ltOf Em) nR.toArray 0 n);rw [hS] at O E;have a5:S.size=nR.toArray.size:=by rw [es];exact E.out.1
 have a6:(putRow (Value.int .i64) r g 0 S).cell? ⟨g,n / 2,none⟩=some (.int .i64 (CW nR)):=by
  have h:=(holds_putRow (Value.int .i64) r g 0 nR.toArray S a3 a5 (n / 2) om).1;rw [Nat.zero_add] at h;rw [h];have h2:=E.out.2;grind
 have hx:aj ai w o (putRow (Value.int .i64) r g 0 S) (ext w o):=by
  refine ⟨u.os,u.tape,u.output,by simpa using u.size,u.own,fun k J hT => ?_⟩;rw [<-u.block k J hT];have:g ≠ k:=om
  simp [putRow,mapBlock,Array.getElem?_modify,this]
 have a7:∀ q,aj ai w o ((putRow (Value.int .i64) r g 0 S).drewN q) (ext w o):=fun q=>hx.drewN q;have a8:=ae O;have b4:(0:Int)<=(n:Int) / 2/\(n:Int) / 2<(n:Int):=om
 have b5:((n:Int) / 2).toNat=n / 2:=om
 have b1:=ae a7;clear O u a7 hx a4 F a3 a5 hS es U E q1 q2 q3 q4 q5 q6;go_wp2_with fail;refine a8.out.mono ?_;rintro e w2 ⟨rfl,q,rfl⟩;have b2:((putRow (Value.int .i64) r g 0 S).drewN q).cell? ⟨g,n / 2,none⟩=some (.int .i64 (CW nR)):=a6;have hF:=ae (b1.out q);obtain ⟨W,hW⟩:=az ((putRow (Value.int .i64) r g 0 S).drewN q);rw [hW] at b2 hF ⊢;go_wp2_with fail;refine (hq.out W).mono ?_;rintro e w3 ⟨rfl,rfl⟩;go_wp2_with fail;go_ret;exact ⟨_,_,rfl,hF.out,rfl⟩
def KC (D M:Nat):Nat->Prop:=fun k=>k=D \/ (M<k/\k<=M+4)
theorem KC.zero {D M:Nat}(q:D ≠ 0):¬ KC D M 0:=by unfold KC;omega
theorem KC.own {D M:Nat}:KC D M (M+4):=by unfold KC;omega
theorem KC.in4 {D M:Nat}:∀ k,qG (M+1) (M+2) (M+3) D k->KC D M k:=by simp [qG,KC]
theorem KC.self {D M:Nat}(q:D<=M):∀ k,ak (M+4) k->k ≠ 0/\¬ qG (M+1) (M+2) (M+3) D k:=by grind [ak,qG]
theorem KC.WZ {D M:Nat}(q:D<=M) (_r:D ≠ 0):¬ qG (M+1) (M+2) (M+3) D (M+4):=by unfold qG;omega
def IL (id n ps:Nat) (rv:Value) (waited:Nat) (seen:BitVec 64) (Ag:Nat):List Value:=
 [.int .i64 (id:Int), .int .i64 (n:Int), .pointer (some ⟨ps,0,none⟩),rv, .int .i64 (waited:Int), .int .u64 (seen.toNat:Int), .int .i64 (Ag:Int)]
def PH (c:BitVec 64) (lv:Value):Value := .agg #[.int .u64 (c.toNat:Int),lv]
def Bd (j:Nat):List (Nat × BitVec 64 × Value)->List MapEntry
 | []=>[]
 | x :: r=>⟨.int .i64 (x.1:Int),PH x.2.1 x.2.2,j⟩ :: Bd (j+1) r
def OE (w:World) (o:Own) (Z mb:Nat) (has:List (Option (BitVec 64 × List Ar))):Prop:=
 ∃ es:List (Nat × BitVec 64 × Value),w.heap[mb]?=some (.map (Bd 0 es).toArray es.length)/\o mb=(Z,2)/\(es.map (·.1)).Nodup /\
  (∀ x ∈ es,∃ ls,has[x.1]?=some (some (x.2.1,ls))/\Lines w o 0 x.2.2 ls)/\∀ i p,has[i]?=some (some p)->∃ x ∈ es,x.1=i
def KA (w:World) (o:Own) (Z p:Nat) (mine:BitVec 64) (has:List (Option (BitVec 64 × List Ar))):Prop:=
 ∃ mb,w.heap[p]?=some (.cells [.int .u64 (mine.toNat:Int), .map (some mb)].toArray 206 (0,0))/\o p=(Z,1)/\OE w o Z mb has
def Nw (w:World) (o:Own) (Z p:Nat) (mine:BitVec 64) (nR:List Int) (base:Nat) (ready:Bool):Prop:=
 ∃ b cap,w.heap[p]?=some (.cells [.int .u64 (mine.toNat:Int), .slice (some ⟨b,0,none⟩) nR.length cap, .int .i64 (base:Int), .bool ready].toArray 142 (0,0))/\o p=(Z,1) /\
  w.heap[b]?=some (.cells (ivs nR).toArray 3 (0,0))/\o b=(Z,2)/\nR.length<=cap/\cap<=maxLen
def IE (w:World) (o:Own) (Z:Nat) (rv:Value):Adl->Prop
 | .follows=>rv = .iface 184 (.agg #[])
 | .stands mine has=>∃ p,rv = .iface 201 (.pointer (some ⟨p,0,none⟩))/\KA w o Z p mine has
 | .leads mine nR base ready=>∃ p,rv = .iface 135 (.pointer (some ⟨p,0,none⟩))/\Nw w o Z p mine nR base ready
def GK (w:World) (o:Own) (Z pz ps:Nat) (rv:Value) (z:Am):Prop:=
 w.heap[pz]?=some (.cells (IL z.id z.n ps rv z.waited z.seen z.Ag).toArray 140 (0,0))/\o pz=(Z,0)
def Bc (w:World) (o:Own) (D M pz ps pd:Nat) (z:Am):Prop:=
 (D<=M/\D ≠ 0)/\∃ rv,GK w o (M+4) pz ps rv z/\IE w o (M+4) rv z.BB/\Bi w o (M+1) (M+2) (M+3) D ps pd 0 z.s
section
variable {T:Nat->Prop}{w w':World}{o o':Own}{Z D M pz ps pd:Nat}
theorem OE.step {mb:Nat}{has:List (Option (BitVec 64 × List Ar))}(h:OE w o Z mb has) (s:aj T w o w' o') (u:¬ T Z) (h0:¬ T 0):OE w' o' Z mb has:=by
 obtain ⟨E,q,r,F,h4,J⟩:=h;have hl:=au q;refine ⟨E,by rw [s.block mb hl (by grind)];omega,by rw [s.own mb hl];omega,F,fun x O => ?_,J⟩;obtain ⟨ls,a,b⟩:=h4 x O;exact ⟨ls,a,b.step s h0⟩
theorem KA.step {p:Nat}{mine:BitVec 64}{has:List (Option (BitVec 64 × List Ar))}(h:KA w o Z p mine has) (s:aj T w o w' o') (q:¬ T Z) (h0:¬ T 0):KA w' o' Z p mine has:=by
 obtain ⟨E,r,u,F⟩:=h;have hl:=au r;exact ⟨E,by rw [s.block p hl (by grind)];omega,by rw [s.own p hl];omega,F.step s q h0⟩
theorem Nw.step {p:Nat}{mine:BitVec 64}{nR:List Int}{base:Nat}{ready:Bool}(h:Nw w o Z p mine nR base ready) (s:aj T w o w' o') (q:¬ T Z):Nw w' o' Z p mine nR base ready:=by
 obtain ⟨b,cap,r,u,E,h4,F,J⟩:=h;have hl:=au r;have hb:=au E;exact ⟨b,cap,by rw [s.block p hl (by grind)];omega,by rw [s.own p hl];omega,by rw [s.block b hb (by grind)];omega,by rw [s.own b hb];omega,F,J⟩
theorem IE.step {rv:Value}{r:Adl}(h:IE w o Z rv r) (s:aj T w o w' o') (E:¬ T Z) (h0:¬ T 0):IE w' o' Z rv r:=by
 cases r with
 | follows=>exact h
 | stands mine has=>obtain ⟨p,q,u⟩:=h;exact ⟨p,q,u.step s E h0⟩
 | leads mine nR base ready=>obtain ⟨p,q,u⟩:=h;exact ⟨p,q,u.step s E⟩
theorem GK.step {rv:Value}{z:Am}(h:GK w o Z pz ps rv z) (s:aj T w o w' o') (q:¬ T Z):GK w' o' Z pz ps rv z:=by
 have hl:=au h.1;exact ⟨by rw [s.block pz hl (by rw [h.2];omega)];exact h.1,by rw [s.own pz hl];exact h.2⟩
theorem Bc.step {z:Am}(h:Bc w o D M pz ps pd z) (s:aj T w o w' o') (q:∀ t,T t->t ≠ 0/\¬ KC D M t):Bc w' o' D M pz ps pd z:=by
 obtain ⟨E,F,J,O,U⟩:=h;have h0:¬ T 0:=fun h=>(q 0 h).1 rfl;have r:¬ T (M+4):=fun h=>(q _ h).2 KC.own;exact ⟨E,F,J.step s r,O.step s r h0,U.step s fun t u=>⟨by grind,fun h=>(q t u).2 (KC.in4 t h)⟩⟩
theorem Bc.step0 {z:Am}(h:Bc w o D M pz ps pd z) (s:aj ai w o w' o'):Bc w' o' D M pz ps pd z:=h.step s fun _ h=>h.elim
theorem GK.cells {rv:Value}{z:Am}(h:GK w o Z pz ps rv z) :
  (w.cell? ⟨pz,0,none⟩=some (.int .i64 (z.id:Int))/\w.cell? ⟨pz,1,none⟩=some (.int .i64 (z.n:Int))/\w.cell? ⟨pz,2,none⟩=some (.pointer (some ⟨ps,0,none⟩))/\w.cell? ⟨pz,3,none⟩=some rv /\
   w.cell? ⟨pz,4,none⟩=some (.int .i64 (z.waited:Int))/\w.cell? ⟨pz,5,none⟩=some (.int .u64 (z.seen.toNat:Int))/\w.cell? ⟨pz,6,none⟩=some (.int .i64 (z.Ag:Int)))/\(∀ i,w.frozen? ⟨pz,i,none⟩=false)/\pz<w.heap.size:=by
 have c:=ag h.1;exact ⟨⟨c 0,c 1,c 2,c 3,c 4,c 5,c 6⟩,fun i=>Ap h.1 i,au h.1⟩
end
theorem FI {w:World}{o:Own}{D M pz ps pd:Nat}{z:Am}(h:Bc w o D M pz ps pd z):Calls prog 51 #[.pointer (some ⟨pz,0,none⟩)] w fun e w'=>e = .returned (.bool z.dead)/\w=w':=by
 obtain ⟨-,u,hb, -,q⟩:=h;obtain ⟨⟨-, -,c2, -⟩, -⟩:=hb.cells;have r:=ae (KH q);go_enter func51,ntmps51;go_wp2_with fail;refine r.out.mono ?_;rintro e w' ⟨rfl,rfl⟩;go_wp2_with fail;go_ret;exact ⟨rfl,rfl⟩
theorem eF (w:World) (a b c:Value):(Instr.field 37 (.agg #[a,b,c]) 0).run prog w = .ok a w:=by rfl
theorem He (w:World) (a b c:Value):(Instr.field 37 (.agg #[a,b,c]) 2).run prog w = .ok c w:=by rfl
theorem RS {w:World}{o:Own}{D M pz ps pd:Nat}{z:Am}(h:Bc w o D M pz ps pd z) (r:small z.s.kept.lines):Calls prog 249 #[.pointer (some ⟨pz,0,none⟩)] w (XL ai w o fun v _ _=>v = .int .u64 (z.s.kept.promised.toNat:Int)):=by
 obtain ⟨-,O,hb, -,q⟩:=h;obtain ⟨⟨-, -,c2, -⟩, -⟩:=hb.cells;have u:=ae (DJ q r);go_enter func249,ntmps249;go_wp2_with fail;refine u.out.mono ?_;rintro e E ⟨v,o1,rfl,q,U,rfl,hl,rfl⟩;obtain ⟨F,J,rfl⟩:=hl.form;have W:=eF E (.int .u64 (z.s.kept.promised.toNat:Int)) (.int .u64 (z.s.kept.current.toNat:Int)) (.slice F z.s.kept.lines.length J);unfold Dy;go_wp2_with fail;go_ret;exact ⟨_,_,rfl,q,rfl⟩
section
variable (w:World) (p:Option Addr)
theorem ZI:(Instr.typeAssert (.iface 184 (.agg #[])) 138 135 true).run prog w = .ok (.tuple #[.pointer none, .bool false]) w:=by rfl
theorem ZG:(Instr.typeAssert (.iface 201 (.pointer p)) 138 135 true).run prog w = .ok (.tuple #[.pointer none, .bool false]) w:=by rfl
theorem ZH:(Instr.typeAssert (.iface 135 (.pointer p)) 138 135 true).run prog w = .ok (.tuple #[.pointer p, .bool true]) w:=by rfl
theorem gV:(Instr.typeAssert (.iface 184 (.agg #[])) 138 201 true).run prog w = .ok (.tuple #[.pointer none, .bool false]) w:=by rfl
theorem gQ:(Instr.typeAssert (.iface 201 (.pointer p)) 138 201 true).run prog w = .ok (.tuple #[.pointer p, .bool true]) w:=by rfl
theorem gU:(Instr.typeAssert (.iface 135 (.pointer p)) 138 201 true).run prog w = .ok (.tuple #[.pointer none, .bool false]) w:=by rfl
end
theorem RF {w:World}{o:Own}{D M pz ps pd:Nat}{z:Am}(h:Bc w o D M pz ps pd z):Calls prog 45 #[.pointer (some ⟨pz,0,none⟩)] w fun e w'=>e = .returned (.bool z.BN.OD)/\w=w':=by
 obtain ⟨-,O,hb,u, -⟩:=h;obtain ⟨⟨-, -, -,U, -⟩, -⟩:=hb.cells;clear hb;have q:z.BN.OD=(match z.BB with | .leads _ _ _ r=>r | _=>false):=rfl
 cases E:z.BB with
 | follows =>
  rw [E] at u q;obtain rfl:O = .iface 184 (.agg #[]):=u;have J:=ZI w;have F:=ae q;clear E q;go_enter func45,ntmps45;go_wp2_with fail;go_ret;exact ⟨by rw [F.out];rfl,rfl⟩
 | stands mine has =>
  rw [E] at u q;obtain ⟨p,rfl, -⟩:=u;have J:=ZG w (some ⟨p,0,none⟩);have F:=ae q;clear E q;go_enter func45,ntmps45;go_wp2_with fail;go_ret;exact ⟨by rw [F.out];rfl,rfl⟩
 | leads mine nR base ready =>
  rw [E] at u q;obtain ⟨p,rfl,b,cap,hp, -⟩:=u;have J:=ZH w (some ⟨p,0,none⟩);have F:=ae q;have cp:=ag hp 3;simp only [ay,ax] at cp;clear E q hp;go_enter func45,ntmps45;go_wp2_with fail;go_ret;exact ⟨by rw [F.out];rfl,rfl⟩
abbrev Ent:=Nat × BitVec 64 × Value
theorem Nc:∀ (es:List Ent) (j:Nat),(Bd j es).length=es.length
 | [],_=>rfl
 | _ :: r,j=>by simp [Bd,Nc r (j+1)]
theorem OB:∀ (a b:List Ent) (j:Nat),Bd j (a++b)=Bd j a++Bd (j+a.length) b
 | [],_,_=>by rfl
 | _ :: r,b,j=>by simp [Bd,OB r b (j+1),Nat.add_assoc,Nat.add_comm 1]
theorem Qj:∀ (es:List Ent) (j:Nat) (e:MapEntry),e ∈ Bd j es->∃ x ∈ es,e.key = .int .i64 (x.1:Int)/\j<=e.born/\e.born<j+es.length
 | [],_,_,h=>by simp [Bd] at h
 | x :: r,j,e,h=>by
  simp [Bd,List.mem_cons] at h;rcases h with rfl | h
  simp
  ·obtain ⟨y,q,u,E,F⟩:=Qj r (j+1) e h;grind
theorem TV (k:Int):∀ (es:List Ent) (j i:Nat),(∀ x ∈ es,(x.1:Int) ≠ k)->Instr.findNow (.int .i64) (.int .i64 k) (Bd j es) i=some none
 | [],_,_,_=>rfl
 | x :: r,j,i,h=>by
  have hb:(k == (x.1:Int))=false:=by grind
  simp [Bd,Instr.findNow,Instr.sameNow,hb];exact TV k r (j+1) (i+1) (by grind)
theorem Qh {x:Ent}:∀ (es:List Ent) (j i:Nat),(es.map (·.1)).Nodup->x ∈ es->∃ q,Instr.findNow (.int .i64) (.int .i64 (x.1:Int)) (Bd j es) i=some (some (q,PH x.2.1 x.2.2))
 | [],_,_,_,h=>by grind
 | y :: r,j,i,hn,h=>by
  simp at hn
  rcases List.mem_cons.1 h with rfl | h
  simp [Bd,Instr.findNow,Instr.sameNow]
  ·have hb:((x.1:Int) == (y.1:Int))=false:=by grind
   simp [Bd,Instr.findNow,Instr.sameNow,hb];exact Qh r (j+1) (i+1) hn.2 h
section
variable {w:World}{mb c:Nat}{es:List Ent}
theorem MF (k:Int) (e:Bool):(Instr.checkKey e 10000 3 (.int .i64 k)).run prog w = .ok () w:=by
 rfl
theorem YB:(zeroValue 203).run prog w = .ok (.agg #[.int .u64 0, .slice none 0 0]) w:=by rfl
theorem SL (hb:w.heap[mb]?=some (.map (Bd 0 es).toArray c)) (hn:(es.map (·.1)).Nodup) {x:Ent}(q:x ∈ es) :
  (Instr.lookup 204 (.map (some mb)) (.int .i64 (x.1:Int)) false).run prog w = .ok (PH x.2.1 x.2.2) w:=by
 obtain ⟨i,r⟩:=Qh es 0 0 hn q;simp only [Instr.lookup,Sem.run_bind,run_underlying underlying204,Result.andThen_ok,MapKept.run_getObj_map hb,Sem.run_pure,Instr.findKey,run_underlying underlying3,MF,r];simp
theorem SK (hb:w.heap[mb]?=some (.map (Bd 0 es).toArray c)) (hn:(es.map (·.1)).Nodup) {x:Ent}(q:x ∈ es) :
  (Instr.lookup 204 (.map (some mb)) (.int .i64 (x.1:Int)) true).run prog w = .ok (.tuple #[PH x.2.1 x.2.2, .bool true]) w:=by
 obtain ⟨i,r⟩:=Qh es 0 0 hn q;simp only [Instr.lookup,Sem.run_bind,run_underlying underlying204,Result.andThen_ok,MapKept.run_getObj_map hb,Sem.run_pure,Instr.findKey,run_underlying underlying3,MF,r];simp
theorem UE (hb:w.heap[mb]?=some (.map (Bd 0 es).toArray c)) {k:Nat}(q:∀ x ∈ es,x.1 ≠ k) :
  (Instr.lookup 204 (.map (some mb)) (.int .i64 (k:Int)) true).run prog w = .ok (.tuple #[.agg #[.int .u64 0, .slice none 0 0], .bool false]) w:=by
 have r:=TV (k:Int) es 0 0 (by grind);simp only [Instr.lookup,Sem.run_bind,run_underlying underlying204,Result.andThen_ok,MapKept.run_getObj_map hb,Sem.run_pure,Instr.findKey,run_underlying underlying3,MF,r,YB];simp
def DR (w:World) (b:Nat) (o:Obj):World:={ w with heap:=w.heap.setIfInBounds b o }
theorem Md (hb:w.heap[mb]?=some (.map (Bd 0 es).toArray es.length)) {k:Nat}(q:∀ x ∈ es,x.1 ≠ k) (cu:BitVec 64) (lv:Value) :
  (Instr.mapUpdate 204 (.map (some mb)) (.int .i64 (k:Int)) (PH cu lv)).run prog w = .ok () (DR w mb (.map (Bd 0 (es++[(k,cu,lv)])).toArray (es++[(k,cu,lv)]).length)):=by
 have r:=TV (k:Int) es 0 0 (by grind);have E:(Bd 0 (es++[(k,cu,lv)])).toArray=(Bd 0 es).toArray.push ⟨.int .i64 (k:Int),PH cu lv,es.length⟩:=by
  rw [OB];simp [Bd]
 rw [E,List.length_append,List.length_singleton];simp [Instr.mapUpdate,Sem.run_bind,run_underlying underlying204,Result.andThen_ok,MapKept.run_getObj_map hb,Sem.run_pure,Instr.findKey,run_underlying underlying3,MF,r,MapKept.run_setObj_map _ hb];rfl
theorem aj.DR {T:Nat->Prop}{w w1:World}{o o1:Own}(h:aj T w o w1 o1) (b:Nat) (ob:Obj) (q:T (o1 b).1 \/ w.heap.size<=b):aj T w o (DR w1 b ob) o1:=by
 refine ⟨h.os,h.tape,h.output,by simpa [Go.Proofs.YtffkdillijmamaaGreat.DR] using h.size,h.own,fun k r u => ?_⟩;rw [<-h.block k r u];have E:b ≠ k:=by
  rintro rfl
  rcases q with q | q
  ·rw [h.own _ r] at q;grind
  omega
 simp [Go.Proofs.YtffkdillijmamaaGreat.DR,E]
theorem Ot {ob:Obj}(hb:mb<w.heap.size):(DR w mb ob).heap[mb]?=some ob:=by simp [DR,hb]
theorem JS {ob:Obj}{k:Nat}(h:mb ≠ k):(DR w mb ob).heap[k]?=w.heap[k]?:=by simp [DR,h]
@[simp] theorem bZ {ob:Obj}:(DR w mb ob).heap.size=w.heap.size:=by simp [DR]
end
theorem fC (m:Nat):AnyZI.SortsIn prog Tryz.Og Fence.wide m:=
 ⟨fun q off cap r W u E F=>callsIn_wide.2 (AnyM.slices_Sort_int Tryz.Uy q off cap r W u E F),
  fun p cap W=>callsIn_wide.2 (AnyM.slices_Sort_int_none Tryz.Uy p cap W)⟩
theorem aS (mb:Nat) (w:World):Calls prog 195 #[.map (some mb)] w fun e w'=>e = .returned (.func (.func 245) #[] #[.pointer (some ⟨w.heap.size,0,none⟩)])/\w'=w.alloc (.cells #[.map (some mb)] 204):=
 callsIn_wide.1 (AnyZI.keys_in Tryz.keysL Fence.wide 5 trivial rfl (some mb) w)
abbrev RU:Value->Option (DataW Unit × List MemPlace):=fun _=>some (.nil,[])
theorem aT (k:Nat) (u:k<=1000):keyOf prog 3 (.int .i64 (k:Int))=some (.int .i64 (k:Int)):=
 Go.Maps.keyOf_int_mk underlying3 (by
  have q:IntKind.i64.min = -9223372036854775808:=by rfl
  have r:IntKind.i64.max=9223372036854775807:=by rfl
  simp [Lit.wf,q,r,decide_eq_true_eq];omega)
theorem XR:∀ (es:List Ent) (j:Nat),(∀ x ∈ es,x.1<=1000)->((Bd j es).map (Go.WideElems.rg prog 3 RU)).map (fun p=>Go.intOf p.1)=es.map fun x=>(x.1:Int)
 | [],_,_=>rfl
 | x :: r,j,h=>by
  have q:=Go.WideElems.rg_of (Go.WideElems.rd_mk (P:=prog) (k:=3) (R:=RU) (born:=j) (val:=PH x.2.1 x.2.2) (aT x.1 (by grind)) (rfl:RU _=some (.nil,[])));simp [Bd,List.map_cons,q,XR r (j+1) (fun y u=>h y (by grind))];rfl
theorem bJ {es:List Ent}(hn:(es.map (·.1)).Nodup) (J:∀ x ∈ es,x.1<=1000) (hl:es.length<=1000):Go.WideElems.Fit prog 3 RU (Bd 0 es).toArray es.length:=by
 refine ⟨by grind [Nc,maxLen],⟨fun e q => ?_, ?_, ?_⟩,fun e q => ?_⟩
 grind [Qj]
 ·have u:∀ (es:List Ent) (j:Nat),((Bd j es).map (·.born))=List.range' j es.length:=by
   intro es
   induction es with
   | nil=>intro j;rfl
   | cons x r E=>grind [Bd,List.range'_succ]
  grind
 ·have u:∀ (es:List Ent) (j:Nat),((Bd j es).map (·.key))=es.map fun x=>Value.int .i64 (x.1:Int):=by
   intro es
   induction es with
   | nil=>intro j;rfl
   | cons x r E=>grind [Bd]
  grind
 ·obtain ⟨x,U,F, -, -⟩:=Qj es 0 e om;obtain ⟨W,Y,eb⟩:=e;subst F;exact ⟨_,Go.WideElems.rd_mk (aT x.1 (J x U)) rfl⟩
theorem WM {w:World}{o:Own}{mb B:Nat}{es:List Ent}(hb:w.heap[mb]?=some (.map (Bd 0 es).toArray es.length)) (hB:w.heap[B]?=some (.cells #[.map (some mb)] 204 (0,0)))
  (hn:(es.map (·.1)).Nodup) (hs:∀ x ∈ es,x.1<=1000) (hl:es.length<=1000) :
  Calls prog 194 #[.func (.func 245) #[] #[.pointer (some ⟨B,0,none⟩)]] w
   (XL ai w o fun v w' o'=>∃ q:List Nat,q.Perm (es.map (·.1))/\q.Pairwise (· <= ·)/\sH w' o' v q.length (q.map fun n:Nat=>Value.int .i64 (n:Int))):=by
 have hF:=bJ hn hs hl;obtain ⟨r,W⟩:∃ r:DataW Unit,r = .map (((Bd 0 es).toArray.toList.map (Go.WideElems.rg prog 3 RU)).foldr DataW.insert []):=⟨_,rfl⟩;have a2:(intKeys r).Perm (es.map fun x=>(x.1:Int)):=by
  rw [W, <-XR es 0 hs];exact (Go.WideShapes.sorted_perm _).map _
 have b3:Maps.size r<=1000:=by
  have:=a2.length_eq;grind [Maps.size,intKeys]
 have a5:w.ownsMap prog 3 RU mb es.length r:=⟨_,_,hb,hF,by simp [Nc],W⟩;have a6:SeqGives Fence.wide 2 prog 245 #[.pointer (some ⟨B,0,none⟩)] encZ (fun u=>u.Perm (intKeys r)) (Maps.size r) w:=
  AnyZI.keys_gives (ρ:=Tryz.keysL_ren) { Tryz.keysL with } Fence.wide _ trivial rfl om B mb es.length r w (au hB) (by rw [World.cell?,hB];rfl) a5
 have O:=AnyZI.sorted_in Tryz.dE Fence.wide 5 trivial trivial trivial trivial rfl om (fC _) (enters_of func244 (by rfl) rfl) 245 #[.pointer (some ⟨B,0,none⟩)] trivial (enters_of func245 (by rfl) rfl) _ (Maps.size r) (by unfold maxLen;omega) om w a6;have O:=callsIn_wide.1 O
 change Calls prog 194 _ _ _ at O
 refine O.mono ?_;rintro e w' ⟨v,u,rfl,hS,a3,b4,J⟩;obtain ⟨S,U⟩:=az (u.mergeSort (fun x y=>decide (x<=y)));have a4:S.Perm (es.map fun x=>(x.1:Int)):=by
  grind [List.mergeSort_perm]
 have a7:S.Pairwise (· <= ·):=by
  have:=List.pairwise_mergeSort (le:=fun x y:Int=>decide (x<=y)) (by grind) (by grind) u;grind
 have a8:∀ x ∈ S,(0:Int)<=x:=by grind
 have a9:(S.map Int.toNat).map (fun n:Nat=>Value.int .i64 (n:Int))=S.map encZ:=by
  rw [List.map_map];refine List.map_congr_left fun x Y => ?_;grind
 have b1:aj ai w o w' (ext w o):=⟨J.os,J.tape,J.output,J.size,fun k hk=>if_pos hk,fun k hk _=>J.block k hk⟩;have b2:S.length=u.length:=by rw [<-U,List.length_mergeSort]
 refine ⟨v,ext w o,rfl,b1,S.map Int.toNat, ?_, ?_, ?_⟩
 grind [Int.toNat]
 grind
 ·rw [a9,List.length_map,b2];rw [U] at a3
  rcases a3.2 with ⟨rfl,h0⟩ | ⟨g,cap,cur,rfl,q1,q2,q3,q4,q5,q6⟩
  ·refine .inl ⟨by grind,h0, ?_⟩;grind
  ·by_cases h0:u.length=0
   grind
   ·refine .inr ⟨g,0,cap,rfl,om,q4, ?_,(Array.getElem?_eq_some_iff.1 q2).1, ?_⟩
    simp_all [ext,if_neg]
    ·rw [<-q6,Nat.mul_one];have h:=AV (w:=w') (b:=g) (cs:=cur.toList) (E:=_) (fr:=(0,0)) (by simpa using q2);have F:=ER h 0 u.length
     grind
section
variable {w:World}{o:Own}{D M pz ps pd:Nat}{z:Am}
theorem PM (h:Bc w o D M pz ps pd z) (F:1<=z.n) (J:z.n<=3) (src:Nat) (e:BitVec 64) :
  Calls prog 209 #[.pointer (some ⟨pz,0,none⟩), .int .i64 (src:Int), .int .u64 (e.toNat:Int)] w fun r w'=>r = .returned (.bool (z.BN.owns src e))/\w=w':=by
 obtain ⟨-,U,hb, -, -⟩:=h;obtain ⟨⟨-,c1, -⟩, -⟩:=hb.cells;have O:=ae (Rx e.toNat e.isLt (e.toNat:Int) rfl z.n F J w);have u:z.BN.owns src e=decide (((e.toNat % z.n:Nat):Int)=(src:Int)):=by
  show (e.toNat % z.n == src)=_;grind
 have E:=ae u;go_enter func209,ntmps209;go_wp2_with fail;refine O.out.mono ?_;rintro e' w' ⟨rfl,rfl⟩;obtain ⟨q,hq⟩:∃ q:Nat,e.toNat % z.n=q:=⟨_,rfl⟩;rw [hq] at E ⊢;go_wp2_with fail;go_ret;exact ⟨by rw [E.out];rfl,rfl⟩
end

end Go.Proofs.YtffkdillijmamaaGreat
