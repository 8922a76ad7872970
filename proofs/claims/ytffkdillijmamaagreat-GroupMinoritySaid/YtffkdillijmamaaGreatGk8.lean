/- A node of a group (plain law, no program): what it does at a tick, at a message, at a proposal. -/
import Derived.Shelf.SlSortCmp.Small
import Derived.Shelf.SlIterI.Sorted
import Derived.Shelf.SlIterI.Keys
import Derived.Shelf.SlIterI.Nil
import Derived.Shelf.SortM.Plain
import Derived.Shelf.SortM.SortNone
import Derived.Ground.SlsfProg
import Derived.Ground.GgzProg
import Derived.Ground.SlgmProg
import Derived.Ground.NamesProg
import Derived.Shelf.Small.Bits
import Derived.Shelf.Strconv.Itoa0
import Derived.Shelf.Bits.Mul64
import Derived.Ground.Names2Prog
import Derived.Shelf.Slices.Clone
import Derived.Shelf.Slices.SearchI
import Derived.Ground.SlgnProg
import Derived.Shelf.SlicesE.Clone
import Derived.Test.YtffkdillijmamaaGreatProg
import Derived.Outline
import Derived.Test.YtffkdillijmamaaGreatGk1
import Derived.Test.YtffkdillijmamaaGreatGk2
import Derived.Test.YtffkdillijmamaaGreatGk7
namespace Go.Proofs.YtffkdillijmamaaGreat
open Go.Proofs.Tryz
set_option maxRecDepth 100000
set_option maxHeartbeats 6400000
open Go Go.RowKit
inductive Adl where
 | follows:Adl
 | stands (mine:BitVec 64) (has:List (Option (BitVec 64 × List Ar))):Adl
 | leads (mine:BitVec 64) (nR:List Int) (base:Nat) (ready:Bool):Adl
structure Aj where
 id:Nat
 n:Nat
 k:AX
 BB:Adl
 waited:Nat
 seen:BitVec 64
 Ag:Nat
abbrev DX:=List (Nat × BG)
def PQ (after:BitVec 64) (id n:Nat):BitVec 64:=
 if 281474976710656<after.toNat then 0 else BitVec.ofNat 64 (after.toNat+1+(id+n - (after.toNat+1) % n) % n)
def Fj (a b:BitVec 64):BitVec 64:=if a.toNat<b.toNat then b else a
def Jw (p q:BitVec 64 × List Ar):Bool:=decide (q.1.toNat<p.1.toNat) || (p.1 == q.1 && decide (q.2.length<p.2.length))
def EW (b:Option (BitVec 64 × List Ar)) (x:Option (BitVec 64 × List Ar)):Option (BitVec 64 × List Ar):=
 match x,b with
 | none,b=>b
 | some p,none=>some p
 | some p,some q=>if Jw p q then some p else some q
def Qr (l:List (Option (BitVec 64 × List Ar))):Option (BitVec 64 × List Ar):=l.foldl EW none
def CW:List Int->Int
 | [a]=>a
 | [a,b]=>min a b
 | [a,b,c]=>max (min a b) (min (max a b) c)
 | _=>0
namespace Aj
def new (id n:Nat) (k:AX):Aj:=⟨id,n,k, .follows,0,0,0⟩
def others (z:Aj) (m:Nat->BG):DX:=((List.range z.n).filter fun i=>i != z.id).map fun i=>(i,m i)
def follow (z:Aj):Aj:={ z with BB := .follows,waited:=0 }
def owns (z:Aj) (src:Nat) (e:BitVec 64):Bool:=e.toNat % z.n == src
def refuse (z:Aj) (src:Nat):DX:=[(src,⟨3,z.k.promised,0,0,0,[]⟩)]
def ack (z:Aj) (src:Nat) (e:BitVec 64):DX:=[(src,⟨6,e,0,z.k.lines.length,0,[]⟩)]
def OD (z:Aj):Bool:=match z.BB with
 | .leads _ _ _ r=>r
 | _=>false
def count (z:Aj) (mine:BitVec 64) (nR:List Int) (base:Nat) (ready:Bool):Aj:=
 let m:=nR.set z.id z.k.lines.length
 if (base:Int)<=CW m then { z with BB := .leads mine m base true,Ag:=max z.Ag (CW m).toNat } else { z with BB := .leads mine m base ready }
def lead (z:Aj) (mine:BitVec 64) (has:List (Option (BitVec 64 × List Ar))):Aj × DX:=
 if 2*(has.filter Option.isSome).length<=z.n then (z,[]) else
 match Qr has with
 | none=>(z,[])
 | some p =>
  if (z.k.Ee mine p.2).2=0 then
   let z1:Aj:={ z with k:=(z.k.Ee mine p.2).1,Ag:=min z.Ag p.2.length }
   (z1.count mine (List.replicate z.n (-1)) p.2.length false,z.others fun _=>⟨4,mine,0,0,0,p.2⟩)
  else (z.follow,[])
def stand (z:Aj):Aj × DX:=
 let e:=PQ (Fj z.k.promised z.seen) z.id z.n
 if e=0 then (z,[]) else
 if (z.k.CQ e).2=0 then
  let has:=(List.replicate z.n none).set z.id (some (z.k.current,z.k.lines))
  let z1:Aj:={ z with k:=(z.k.CQ e).1,BB := .stands e has,waited:=0 }
  ((z1.lead e has).1,(z.others fun _=>⟨1,e,0,0,0,[]⟩)++(z1.lead e has).2)
 else (z,[])
def tick (z:Aj):Aj × DX:=
 match z.BB with
 | .leads mine nR _ _ =>
  (z,z.others fun i=>if nR.getD i 0<0 then ⟨4,mine,0,0,0,z.k.lines⟩ else ⟨5,mine,0,(nR.getD i 0).toNat,z.Ag,z.k.lines.drop (nR.getD i 0).toNat⟩)
 | _ =>
  let z1:Aj:={ z with waited:=z.waited+1 }
  if 3+2*z.id<z.waited+1 then z1.stand else (z1,[])
def BK (z:Aj) (src:Nat) (m:BG):Aj × DX:=
 if !z.owns src m.e then (z,[]) else
 if m.e.toNat<=z.k.promised.toNat then (z,z.refuse src) else
 if (z.k.CQ m.e).2=0 then
  ({ z with k:=(z.k.CQ m.e).1 }.follow,[(src,⟨2,m.e,z.k.current,0,0,z.k.lines⟩)])
 else (z,[])
def Bj (z:Aj) (src:Nat) (m:BG):Aj × DX:=
 match z.BB with
 | .stands mine has =>
  if mine ≠ m.e \/ m.e.toNat<=m.c.toNat then (z,[]) else
  let uJ:=if (has.getD src none).isSome then has else has.set src (some (m.c,m.ls))
  { z with BB := .stands mine uJ }.lead mine uJ
 | _=>(z,[])
def mine (z:Aj):BitVec 64:=match z.BB with
 | .follows=>0
 | .stands e _=>e
 | .leads e _ _ _=>e
def follows (z:Aj):Bool:=match z.BB with
 | .follows=>true
 | _=>false
def Cj (z:Aj) (m:BG):Aj × DX:=(if !z.follows && decide (z.mine.toNat<m.e.toNat) then z.follow else z,[])
def BD (z:Aj) (src:Nat) (m:BG):Aj × DX:=
 if !z.owns src m.e then (z,[]) else
 if m.e.toNat<z.k.promised.toNat then (z,z.refuse src) else
 if z.k.current=m.e then (z.follow,z.ack src m.e) else
 if (z.k.Ee m.e m.ls).2=0 then
  let z1:Aj:={ z with k:=(z.k.Ee m.e m.ls).1,Ag:=min z.Ag m.ls.length }
  (z1.follow,z1.ack src m.e)
 else (z,[])
def BF (z:Aj) (src:Nat) (m:BG):Aj × DX:=
 if !z.owns src m.e then (z,[]) else
 if m.e.toNat<z.k.promised.toNat then (z,z.refuse src) else
 if z.k.promised ≠ m.e \/ z.k.current ≠ m.e then (z,[]) else
 let z1:=z.follow
 if z.k.lines.length<m.at' then (z1,[]) else
 let more:=m.ls.drop (z.k.lines.length - m.at')
 if more=[] then
  let z2:Aj:={ z1 with Ag:=max z.Ag (min m.com z.k.lines.length) }
  (z2,z2.ack src m.e)
 else if (z.k.Cm more).2=0 then
  let z2:Aj:={ z1 with k:=(z.k.Cm more).1,Ag:=max z.Ag (min m.com (z.k.Cm more).1.lines.length) }
  (z2,z2.ack src m.e)
 else (z1,[])
def CJ (z:Aj) (src:Nat) (m:BG):Aj × DX:=
 match z.BB with
 | .leads mine nR base ready =>
  if mine=m.e then (z.count mine (nR.set src (max (nR.getD src 0) (min m.at' z.k.lines.length:Nat))) base ready,[]) else (z,[])
 | _=>(z,[])
def hear (z:Aj) (src:Nat) (m:BG):Aj × DX:=
 let z1:Aj:={ z with seen:=Fj z.seen m.e }
 if m.k=1 then z1.BK src m else if m.k=2 then z1.Bj src m else if m.k=3 then z1.Cj m else
 if m.k=4 then z1.BD src m else if m.k=5 then z1.BF src m else z1.CJ src m
def BL (z:Aj) (b:List UInt8):Aj × Int:=
 if b.length=0 \/ 4096<b.length then (z,1) else
 match z.BB with
 | .leads mine nR base true =>
  if 256<=z.k.lines.length then (z,4) else
  if (z.k.Cm [⟨mine,b⟩]).2=0 then ({ z with k:=(z.k.Cm [⟨mine,b⟩]).1 }.count mine nR base true,0) else (z,(z.k.Cm [⟨mine,b⟩]).2)
 | _=>(z,64)
end Aj
theorem GM {k:AX} {e:BitVec 64} (h:(k.CQ e).2=0):(k.CQ e).1={ k with promised:=e }:=by
 unfold AX.CQ at h ⊢;split at h
 ·rename_i h1;rw [if_pos h1]
 ·simp at h
theorem IZ {k:AX} {e:BitVec 64} {ls:List Ar} (h:(k.Ee e ls).2=0):(k.Ee e ls).1=⟨e,e,ls⟩:=by
 unfold AX.Ee at h ⊢;split at h
 ·rename_i h1;rw [if_pos h1]
 ·simp at h
theorem Ih {k:AX} {ls:List Ar} (h:(k.Cm ls).2=0):(k.Cm ls).1={ k with lines:=k.lines++ls }:=by
 unfold AX.Cm at h ⊢;split at h
 ·rename_i h1;rw [if_pos h1]
 ·simp at h
namespace Aj
def Same (x y:Aj):Prop:=x.k=y.k/\x.Ag=y.Ag/\x.OD=y.OD
def Ec (z:Aj) (src:Nat) (m:BG):Aj × DX:=
 if m.k=1 then z.BK src m else if m.k=2 then z.Bj src m else if m.k=3 then z.Cj m else
 if m.k=4 then z.BD src m else if m.k=5 then z.BF src m else z.CJ src m
theorem MZ (z:Aj) (src:Nat) (m:BG):z.hear src m=({ z with seen:=Fj z.seen m.e }:Aj).Ec src m:=rfl
theorem EU (z:Aj) (mine:BitVec 64) (nR:List Int) (base:Nat) (ready:Bool):(z.count mine nR base ready).seen=z.seen/\(z.count mine nR base ready).k=z.k/\(z.count mine nR base ready).id=z.id/\(z.count mine nR base ready).n=z.n:=by
 unfold count;simp only;split <;> exact ⟨rfl,rfl,rfl,rfl⟩
theorem YN (z:Aj) (mine:BitVec 64) (has:List (Option (BitVec 64 × List Ar))):(z.lead mine has).1.seen=z.seen/\(z.lead mine has).1.id=z.id/\(z.lead mine has).1.n=z.n:=by
 unfold lead;split
 ·exact ⟨rfl,rfl,rfl⟩
 ·split
  ·exact ⟨rfl,rfl,rfl⟩
  ·split
   ·exact ⟨(EU _ _ _ _ _).1,(EU _ _ _ _ _).2.2⟩
   ·exact ⟨rfl,rfl,rfl⟩
end Aj
structure En (B:Nat) (ls:List Ar):Prop where
 n:ls.length<=256
 m:∀ x ∈ ls,x.may
 b:AP ls<=B
theorem En.mono {B B':Nat} {ls:List Ar} (h:En B ls) (hB:B<=B'):En B' ls:=⟨h.n,h.m,Nat.le_trans h.b hB⟩
theorem En.nil (B:Nat):En B []:=⟨by simp,by simp,by simp [AP]⟩
def Ud (B n id len:Nat):Adl->Prop
 | .follows=>True
 | .stands mine has=>(1<=mine.toNat/\mine.toNat<=281474976710656)/\has.length=n/\(∃ p,has[id]?=some (some p))/\∀ p,some p ∈ has->En B p.2
 | .leads mine nR _ _=>(1<=mine.toNat/\mine.toNat<=281474976710656)/\nR.length=n/\∀ x ∈ nR, -1<=x/\x<=(len:Int)
structure N0 (B:Nat) (z:Aj):Prop where
 n1:1<=z.n
 n3:z.n<=3
 id:z.id<z.n
 ls:En B z.k.lines
 cp:z.k.current.toNat<=z.k.promised.toNat
 pt:z.k.promised.toNat<=281474976710656
 se:z.seen.toNat<=281474976710656
 co:z.Ag<=z.k.lines.length
structure NOk (B:Nat) (z:Aj):Prop extends N0 B z where
 ro:Ud B z.n z.id z.k.lines.length z.BB
theorem Ud.mono {B B' n id len:Nat} {r:Adl} (h:Ud B n id len r) (hB:B<=B'):Ud B' n id len r:=by
 cases r with
 | follows=>trivial
 | stands mine has=>exact ⟨h.1,h.2.1,h.2.2.1,fun p hp=>(h.2.2.2 p hp).mono hB⟩
 | leads mine nR base ready=>exact h
theorem N0.mono {B B':Nat} {z:Aj} (h:N0 B z) (hB:B<=B'):N0 B' z:=⟨h.n1,h.n3,h.id,h.ls.mono hB,h.cp,h.pt,h.se,h.co⟩
theorem NOk.mono {B B':Nat} {z:Aj} (h:NOk B z) (hB:B<=B'):NOk B' z:=⟨h.toN0.mono hB,h.ro.mono hB⟩
theorem N0.kok {B:Nat} {z:Aj} (h:N0 B z):KOk z.k:=⟨h.ls.n,fun x hx=>(h.ls.m x hx).2.2⟩
theorem Qo {l:List Int} {x:Int} (h:∀ y ∈ l,y<=x) (h0:0<=x):CW l<=x:=by
 unfold CW;split
 ·exact h _ (by simp)
 ·rename_i a b;have:=h a (by simp);omega
 ·rename_i a b c;have h1:=h a (by simp);have h2:=h b (by simp);have h3:=h c (by simp);omega
 ·exact h0
theorem Jf {k:AX} {e:BitVec 64} (h:(k.CQ e).2=0):k.promised.toNat<e.toNat/\e.toNat<=281474976710656:=by
 unfold AX.CQ at h;split at h
 ·rename_i h1;unfold AX.EK at h1;simp only [Bool.and_eq_true,decide_eq_true_eq] at h1;exact h1
 ·simp at h
theorem Wn {k:AX} {e:BitVec 64} {ls:List Ar} (h:(k.Ee e ls).2=0):k.promised.toNat<=e.toNat/\k.current.toNat<e.toNat/\e.toNat<=281474976710656/\ls.length<=256:=by
 unfold AX.Ee at h;split at h
 ·rename_i h1;unfold AX.Gg at h1;simp only [Bool.and_eq_true,decide_eq_true_eq] at h1;exact ⟨h1.1.1.1.1,h1.1.1.1.2,h1.1.1.2,h1.1.2⟩
 ·simp at h
theorem Si {k:AX} {ls:List Ar} (h:(k.Cm ls).2=0):ls.length+k.lines.length<=256:=by
 unfold AX.Cm at h;split at h
 ·rename_i h1;exact (Ig h1).1
 ·simp at h
def EY (k k':AX):Prop:=k.promised.toNat<=k'.promised.toNat/\k.current.toNat<=k'.current.toNat
theorem EY.refl (k:AX):EY k k:=⟨Nat.le_refl _,Nat.le_refl _⟩
theorem EY.trans {a b c:AX} (h:EY a b) (h':EY b c):EY a c:=⟨Nat.le_trans h.1 h'.1,Nat.le_trans h.2 h'.2⟩
theorem NZ:∀ (l:List (Option (BitVec 64 × List Ar))) (b:Option (BitVec 64 × List Ar)) (p:BitVec 64 × List Ar),l.foldl EW b=some p->b=some p \/ some p ∈ l
 | [],b,p,h => .inl h
 | x :: r,b,p,h=>by
  rw [List.foldl_cons] at h
  rcases NZ r _ p h with h1 | h1
  ·unfold EW at h1;split at h1
   ·exact .inl h1
   ·exact .inr (by rw [h1];simp)
   ·split at h1
    ·exact .inr (by rw [h1];simp)
    ·exact .inl h1
  ·exact .inr (List.mem_cons_of_mem _ h1)
namespace Aj
theorem Xd {z:Aj} {f:Nat->BG} {t:Nat × BG} (h:t ∈ z.others f):t.1<z.n/\t.1 ≠ z.id/\t.2=f t.1:=by
 unfold others at h;obtain ⟨i,hi,rfl⟩:=List.mem_map.1 h;obtain ⟨h1,h2⟩:=List.mem_filter.1 hi;exact ⟨List.mem_range.1 h1,by simpa using h2,rfl⟩
def EH (t:DX):Prop:=∀ x ∈ t,x.2.May
theorem EH.nil:EH []:=by intro x hx;simp at hx
theorem EH.others {z:Aj} {f:Nat->BG} (h:∀ i,i<z.n->(f i).May):EH (z.others f):=by
 intro t ht;obtain ⟨h1, -,h2⟩:=Xd ht;rw [h2];exact h _ h1
theorem EH.one {src:Nat} {m:BG} (h:m.May):EH [(src,m)]:=by
 intro t ht;simp only [List.mem_singleton] at ht;subst ht;exact h
theorem EH.append {a b:DX} (ha:EH a) (hb:EH b):EH (a++b):=by
 intro t ht
 rcases List.mem_append.1 ht with h | h
 ·exact ha t h
 ·exact hb t h
theorem Jh {e:BitVec 64} (h1:1<=e.toNat) (h2:e.toNat<=281474976710656):(BG.mk 3 e 0 0 0 []).May:=
 ⟨by simp,by simp,h1,h2,Nat.zero_le _,by simp,by simp,by simp,by intro x hx;simp at hx,fun _=>rfl,fun _=>rfl,fun _ _=>rfl,fun _ _ _=>rfl⟩
theorem Rz {e:BitVec 64} (h1:1<=e.toNat) (h2:e.toNat<=281474976710656):(BG.mk 1 e 0 0 0 []).May:=
 ⟨by simp,by simp,h1,h2,Nat.zero_le _,by simp,by simp,by simp,by intro x hx;simp at hx,fun _=>rfl,fun _=>rfl,fun _ _=>rfl,fun _ _ _=>rfl⟩
theorem MO {e:BitVec 64} {n:Nat} (h1:1<=e.toNat) (h2:e.toNat<=281474976710656) (hn:n<=256):(BG.mk 6 e 0 n 0 []).May:=
 ⟨by simp,by simp,h1,h2,Nat.zero_le _,hn,by simp,by simp,by intro x hx;simp at hx,fun _=>rfl,fun _=>rfl,fun _ h=>absurd rfl h,fun _ _ _=>rfl⟩
theorem Ox {e c:BitVec 64} {B:Nat} {ls:List Ar} (h1:1<=e.toNat) (h2:e.toNat<=281474976710656) (hc:c.toNat<=e.toNat) (hl:En B ls):(BG.mk 2 e c 0 0 ls).May:=
 ⟨by simp,by simp,h1,h2,hc,by simp,by simp,hl.n,hl.m,fun h=>absurd rfl h,fun _=>rfl,fun _ _=>rfl,fun h _ _=>absurd rfl h⟩
theorem KO {e:BitVec 64} {B:Nat} {ls:List Ar} (h1:1<=e.toNat) (h2:e.toNat<=281474976710656) (hl:En B ls):(BG.mk 4 e 0 0 0 ls).May:=
 ⟨by simp,by simp,h1,h2,Nat.zero_le _,by simp,by simp,hl.n,hl.m,fun _=>rfl,fun _=>rfl,fun _ _=>rfl,fun _ h _=>absurd rfl h⟩
theorem PS {e:BitVec 64} {a c:Nat} {B:Nat} {ls:List Ar} (h1:1<=e.toNat) (h2:e.toNat<=281474976710656) (ha:a<=256) (hc:c<=256) (hl:En B ls):(BG.mk 5 e 0 a c ls).May:=
 ⟨by simp,by simp,h1,h2,Nat.zero_le _,ha,hc,hl.n,hl.m,fun _=>rfl,fun h=>absurd rfl h,fun h _=>absurd rfl h,fun _ _ h=>absurd rfl h⟩
theorem _root_.Go.Proofs.YtffkdillijmamaaGreat.FN (ls:List Ar) (i:Nat):AP (ls.drop i)<=AP ls:=by
 have h:=DV (ls.take i) (ls.drop i);rw [List.take_append_drop] at h;omega
theorem _root_.Go.Proofs.YtffkdillijmamaaGreat.En.drop {B:Nat} {ls:List Ar} (h:En B ls) (i:Nat):En B (ls.drop i):=
 ⟨by rw [List.length_drop];have:=h.n;omega,fun x hx=>h.m x (List.mem_of_mem_drop hx),Nat.le_trans (FN ls i) h.b⟩
theorem Gv {B:Nat} {z:Aj} (h:N0 B z):NOk B z.follow:=⟨⟨h.n1,h.n3,h.id,h.ls,h.cp,h.pt,h.se,h.co⟩,trivial⟩
theorem Qm {B:Nat} {z:Aj} (h:N0 B z) {mine:BitVec 64} (hm:1<=mine.toNat/\mine.toNat<=281474976710656) {nR:List Int} (hl:nR.length=z.n) (ha:∀ x ∈ nR, -1<=x/\x<=(z.k.lines.length:Int)) (base:Nat) (ready:Bool) :
  NOk B (z.count mine nR base ready):=by
 have hall:∀ x ∈ nR.set z.id z.k.lines.length, -1<=x/\x<=(z.k.lines.length:Int):=by
  intro x hx
  rcases List.mem_or_eq_of_mem_set hx with h | rfl
  ·exact ha x h
  ·omega
 have hle:=Qo (l:=nR.set z.id z.k.lines.length) (x:=z.k.lines.length) (fun y hy=>(hall y hy).2) (by omega);unfold count;simp only;split
 ·refine ⟨⟨h.n1,h.n3,h.id,h.ls,h.cp,h.pt,h.se, ?_⟩,hm,by rw [List.length_set];exact hl,hall⟩;show max z.Ag (CW (nR.set z.id z.k.lines.length)).toNat<=z.k.lines.length;have:=h.co;omega
 ·exact ⟨⟨h.n1,h.n3,h.id,h.ls,h.cp,h.pt,h.se,h.co⟩,hm,by rw [List.length_set];exact hl,hall⟩
theorem XN {B:Nat} {z:Aj} (h:NOk B z) {mine:BitVec 64} {has:List (Option (BitVec 64 × List Ar))} (hr:z.BB = .stands mine has):NOk B (z.lead mine has).1/\EH (z.lead mine has).2/\EY z.k (z.lead mine has).1.k:=by
 have hro:=h.ro;rw [hr] at hro;obtain ⟨hm,hlen, -,hls⟩:=hro;unfold lead;split
 ·exact ⟨h,EH.nil,EY.refl _⟩
 ·cases hb:Qr has with
  | none=>exact ⟨h,EH.nil,EY.refl _⟩
  | some p =>
   have hp:some p ∈ has:=by
    rcases NZ has none p hb with h | h
    ·simp at h
    ·exact h
   have hpl:=hls p hp;simp only;split
   ·rename_i hk;obtain ⟨a1,a2,a3,a4⟩:=Wn hk;have e:(z.k.Ee mine p.2).1=⟨mine,mine,p.2⟩:=IZ hk;rw [e];refine ⟨Qm (z:={ z with k:=⟨mine,mine,p.2⟩,Ag:=min z.Ag p.2.length }) ⟨h.n1,h.n3,h.id,hpl,Nat.le_refl _,a3,h.se, ?_⟩ hm (by simp) (fun x hx => ?_) _ _,EH.others fun i _=>KO hm.1 hm.2 hpl, ?_⟩
    ·show min z.Ag p.2.length<=p.2.length;omega
    ·have:=List.eq_of_mem_replicate hx;subst this
     constructor
     ·omega
     ·show (-1:Int)<=(p.2.length:Int);omega
    ·rw [(EU _ _ _ _ _).2.1];exact ⟨a1,Nat.le_of_lt a2⟩
   ·exact ⟨Gv h.toN0,EH.nil,EY.refl _⟩
theorem ZL {B:Nat} {z:Aj} (h:NOk B z):NOk B z.stand.1/\EH z.stand.2/\EY z.k z.stand.1.k:=by
 unfold stand;simp only;split
 ·exact ⟨h,EH.nil,EY.refl _⟩
 ·split
  ·rename_i hk;obtain ⟨p1,p2⟩:=Jf hk;generalize PQ (Fj z.k.promised z.seen) z.id z.n=e at *;have ek:=GM hk;rw [ek];have hz1:NOk B ({ z with k:={ z.k with promised:=e },BB := .stands e ((List.replicate z.n none).set z.id (some (z.k.current,z.k.lines))),waited:=0 }:Aj):=by
    refine ⟨⟨h.n1,h.n3,h.id,h.ls, ?_,p2,h.se,h.co⟩,⟨by omega,p2⟩,by simp,⟨(z.k.current,z.k.lines), ?_⟩,fun p hp => ?_⟩
    ·have:=h.cp;show z.k.current.toNat<=e.toNat;omega
    ·rw [List.getElem?_set_self (by simpa using h.id)]
    ·rcases List.mem_or_eq_of_mem_set hp with hx | hx
     ·have:=List.eq_of_mem_replicate hx;simp at this
     ·simp only [Option.some.injEq] at hx;subst hx;exact h.ls
   obtain ⟨q1,q2,q3⟩:=XN hz1 rfl;refine ⟨q1,EH.append (EH.others fun i _=>Rz (by omega) p2) q2,EY.trans (b:={ z.k with promised:=e }) ⟨Nat.le_of_lt p1,Nat.le_refl _⟩ q3⟩
  ·exact ⟨h,EH.nil,EY.refl _⟩
theorem dA {B:Nat} {z:Aj} (h:NOk B z):NOk B z.tick.1/\EH z.tick.2/\EY z.k z.tick.1.k:=by
 have hro:=h.ro;have other:∀ z:Aj,NOk B z->(∀ z':Aj,z'=({ z with waited:=z.waited+1 }:Aj)->NOk B z'):=by
  intro z h z' e;subst e;exact ⟨⟨h.n1,h.n3,h.id,h.ls,h.cp,h.pt,h.se,h.co⟩,h.ro⟩
 unfold tick;split
 ·rename_i mine nR base ready hr;rw [hr] at hro;obtain ⟨hm,hlen,ha⟩:=hro;refine ⟨h,EH.others fun i hi => ?_,EY.refl _⟩;have hi2:i<nR.length:=by omega
  have hg:nR.getD i 0=nR[i]:=by rw [List.getD_eq_getElem?_getD,List.getElem?_eq_getElem hi2];rfl
  have hx:=ha _ (List.getElem_mem hi2);rw [hg];split
  ·exact KO hm.1 hm.2 h.ls
  ·refine PS hm.1 hm.2 ?_ ?_ (h.ls.drop _)
   ·have:=h.ls.n;omega
   ·have:=h.ls.n;have:=h.co;omega
 ·simp only;split
  ·exact ZL (other z h _ rfl)
  ·exact ⟨other z h _ rfl,EH.nil,EY.refl _⟩
theorem dM {a b:BitVec 64} {x:Nat} (ha:a.toNat<=x) (hb:b.toNat<=x):(Fj a b).toNat<=x:=by
 unfold Fj;split <;> assumption
theorem dX {B:Nat} {z:Aj} (h:NOk B z) {src:Nat} {m:BG} (hm:m.May) (b:Nat) (hb:AP m.ls<=b) :
  NOk (B+b) (z.hear src m).1/\EH (z.hear src m).2/\EY z.k (z.hear src m).1.k:=by
 rw [MZ];have h1:NOk B ({ z with seen:=Fj z.seen m.e }:Aj):=⟨⟨h.n1,h.n3,h.id,h.ls,h.cp,h.pt,dM h.se hm.e2,h.co⟩,h.ro⟩;have hkk:({ z with seen:=Fj z.seen m.e }:Aj).k=z.k:=rfl;rw [<-hkk];generalize ({ z with seen:=Fj z.seen m.e }:Aj)=y at *;clear h hkk;have h:=h1;have hml:En (B+b) m.ls:=⟨hm.n1,hm.hl,by omega⟩;have hw:=h.mono (Nat.le_add_right B b);have stay:NOk (B+b) y/\EH []/\EY y.k y.k:=⟨hw,EH.nil,EY.refl _⟩;unfold Ec;split
 ·unfold BK;split
  ·exact stay
  split
  ·refine ⟨hw,EH.one (Jh ?_ h.pt),EY.refl _⟩;have:=hm.e1;omega
  split
  ·rename_i hk;obtain ⟨p1,p2⟩:=Jf hk;rw [GM hk];refine ⟨Gv ⟨h.n1,h.n3,h.id,hw.ls, ?_,p2,h.se,h.co⟩,EH.one (Ox hm.e1 hm.e2 ?_ h.ls),⟨Nat.le_of_lt p1,Nat.le_refl _⟩⟩
   ·have:=h.cp;show y.k.current.toNat<=m.e.toNat;omega
   ·have:=h.cp;omega
  ·exact stay
 split
 ·unfold Bj;have hro:=hw.ro;split
  ·rename_i mine has hr;rw [hr] at hro;obtain ⟨q1,q2,q3,q4⟩:=hro;split
   ·exact stay
   ·simp only;refine XN (z:={ y with BB := .stands mine (if (has.getD src none).isSome then has else has.set src (some (m.c,m.ls))) }) ⟨⟨hw.n1,hw.n3,hw.id,hw.ls,hw.cp,hw.pt,hw.se,hw.co⟩,q1, ?_, ?_, ?_⟩ rfl
    ·split
     ·exact q2
     ·rw [List.length_set];exact q2
    ·obtain ⟨p,hp⟩:=q3;split
     ·exact ⟨p,hp⟩
     ·by_cases hi:src=y.id
      ·subst hi;have hlt:y.id<has.length:=by rw [q2];exact h.id
       exact ⟨_,List.getElem?_set_self hlt⟩
      ·exact ⟨p,by rw [List.getElem?_set_ne hi];exact hp⟩
    ·intro p hp;split at hp
     ·exact q4 p hp
     ·rcases List.mem_or_eq_of_mem_set hp with hx | hx
      ·exact q4 p hx
      ·simp only [Option.some.injEq] at hx;subst hx;exact hml
  ·exact stay
 split
 ·unfold Cj;refine ⟨?_,EH.nil, ?_⟩
  ·simp only;split
   ·exact Gv hw.toN0
   ·exact hw
  ·simp only;split <;> exact EY.refl _
 split
 ·unfold BD;split
  ·exact stay
  split
  ·refine ⟨hw,EH.one (Jh ?_ h.pt),EY.refl _⟩;rename_i hlt;omega
  split
  ·exact ⟨Gv hw.toN0,EH.one (MO hm.e1 hm.e2 h.ls.n),EY.refl _⟩
  split
  ·rename_i hk;obtain ⟨a1,a2,a3,a4⟩:=Wn hk;rw [IZ hk];simp only;refine ⟨Gv ⟨h.n1,h.n3,h.id,hml,Nat.le_refl _,a3,h.se, ?_⟩,EH.one (MO hm.e1 hm.e2 hm.n1),⟨a1,Nat.le_of_lt a2⟩⟩;show min y.Ag m.ls.length<=m.ls.length;omega
  ·exact stay
 split
 ·unfold BF;split
  ·exact stay
  split
  ·refine ⟨hw,EH.one (Jh ?_ h.pt),EY.refl _⟩;rename_i hlt;omega
  split
  ·exact stay
  simp only;split
  ·exact ⟨Gv hw.toN0,EH.nil,EY.refl _⟩
  split
  ·refine ⟨⟨⟨h.n1,h.n3,h.id,hw.ls,h.cp,h.pt,h.se, ?_⟩,trivial⟩,EH.one (MO hm.e1 hm.e2 h.ls.n),EY.refl _⟩;show max y.Ag (min m.com y.k.lines.length)<=y.k.lines.length;have:=h.co;omega
  split
  ·rename_i hk;rw [Ih hk];have hle:=Si hk;have hd:=(hml.drop (y.k.lines.length - m.at'));have hlen:(y.k.lines++m.ls.drop (y.k.lines.length - m.at')).length<=256:=by rw [List.length_append];omega
   refine ⟨⟨⟨h.n1,h.n3,h.id,⟨hlen,fun x hx => ?_, ?_⟩,h.cp,h.pt,h.se, ?_⟩,trivial⟩,EH.one (MO hm.e1 hm.e2 hlen),EY.refl _⟩
   ·rcases List.mem_append.1 hx with hx | hx
    ·exact h.ls.m x hx
    ·exact hd.m x hx
   ·show AP (y.k.lines++m.ls.drop (y.k.lines.length - m.at'))<=B+b;rw [DV];have h1:=h.ls.b;have h2:=FN m.ls (y.k.lines.length - m.at');omega
   ·show max y.Ag (min m.com (y.k.lines++m.ls.drop (y.k.lines.length - m.at')).length)<=(y.k.lines++m.ls.drop (y.k.lines.length - m.at')).length;have:=h.co;have h3:y.k.lines.length<=(y.k.lines++m.ls.drop (y.k.lines.length - m.at')).length:=by rw [List.length_append];omega
    omega
  ·exact ⟨Gv hw.toN0,EH.nil,EY.refl _⟩
 ·unfold CJ;have hro:=hw.ro;split
  ·rename_i mine nR base ready hr;rw [hr] at hro;obtain ⟨q1,q2,q3⟩:=hro;split
   ·refine ⟨Qm hw.toN0 q1 (by rw [List.length_set];exact q2) (fun x hx => ?_) _ _,EH.nil, ?_⟩
    ·rcases List.mem_or_eq_of_mem_set hx with hx | hx
     ·exact q3 x hx
     ·subst hx;have hg : -1<=nR.getD src 0/\nR.getD src 0<=(y.k.lines.length:Int):=by
       by_cases hi:src<nR.length
       ·have e:nR.getD src 0=nR[src]:=by rw [List.getD_eq_getElem?_getD,List.getElem?_eq_getElem hi];rfl
        rw [e];exact q3 _ (List.getElem_mem hi)
       ·have e:nR.getD src 0=0:=by rw [List.getD_eq_getElem?_getD,List.getElem?_eq_none (by omega)];rfl
        rw [e];omega
      omega
    ·rw [(EU _ _ _ _ _).2.1];exact EY.refl _
   ·exact stay
  ·exact stay
theorem AiK {B:Nat} {z:Aj} (h:NOk B z) (b:List UInt8):NOk (B+b.length) (z.BL b).1/\EY z.k (z.BL b).1.k:=by
 have hw:=h.mono (Nat.le_add_right B b.length);have hro:=hw.ro;unfold BL;split
 ·exact ⟨hw,EY.refl _⟩
 ·rename_i hb;split
  ·rename_i mine nR base hr;rw [hr] at hro;obtain ⟨q1,q2,q3⟩:=hro;split
   ·exact ⟨hw,EY.refl _⟩
   split
   ·rename_i hk;rw [Ih hk];refine ⟨Qm (z:={ z with k:={ z.k with lines:=z.k.lines++[⟨mine,b⟩] } }) ⟨h.n1,h.n3,h.id,⟨?_,fun x hx => ?_, ?_⟩,h.cp,h.pt,h.se, ?_⟩ q1 q2 (fun x hx => ?_) _ _, ?_⟩
    ·show (z.k.lines++[Ar.mk mine b]).length<=256;rw [List.length_append];simp only [List.length_cons,List.length_nil];omega
    ·rcases List.mem_append.1 hx with hx | hx
     ·exact h.ls.m x hx
     ·simp only [List.mem_singleton] at hx;subst hx;exact ⟨q1,by show 1<=b.length;omega,by show b.length<=4096;omega⟩
    ·show AP (z.k.lines++[Ar.mk mine b])<=B+b.length;rw [DV];have h1:=h.ls.b;have h2:AP [Ar.mk mine b]=b.length:=by simp [AP]
     omega
    ·show z.Ag<=(z.k.lines++[Ar.mk mine b]).length;rw [List.length_append];have:=h.co;omega
    ·have h1:=q3 x hx;show -1<=x/\x<=((z.k.lines++[Ar.mk mine b]).length:Int);rw [List.length_append];omega
    ·rw [(EU _ _ _ _ _).2.1];exact ⟨Nat.le_refl _,Nat.le_refl _⟩
   ·exact ⟨hw,EY.refl _⟩
  ·exact ⟨hw,EY.refl _⟩
theorem TB {B id n:Nat} {k:AX} (h1:1<=n) (h3:n<=3) (hi:id<n) (hl:En B k.lines) (hc:k.current.toNat<=k.promised.toNat) (hp:k.promised.toNat<=281474976710656):NOk B (Aj.new id n k):=
 ⟨⟨h1,h3,hi,hl,hc,hp,by show (0:BitVec 64).toNat<=_;decide,Nat.zero_le _⟩,trivial⟩
end Aj
structure Am where
 id:Nat
 n:Nat
 s:AZ
 BB:Adl
 waited:Nat
 seen:BitVec 64
 Ag:Nat
namespace Am
def BN (z:Am):Aj:=⟨z.id,z.n,z.s.kept,z.BB,z.waited,z.seen,z.Ag⟩
def new (id n:Nat) (s:AZ):Am:=⟨id,n,s, .follows,0,0,0⟩
def dead (z:Am):Bool:=z.s.dead || z.s.d.dead
def follow (z:Am):Am:={ z with BB := .follows,waited:=0 }
def count (z:Am) (mine:BitVec 64) (nR:List Int) (base:Nat) (ready:Bool):Am:=
 let m:=nR.set z.id z.s.kept.lines.length
 if (base:Int)<=CW m then { z with BB := .leads mine m base true,Ag:=max z.Ag (CW m).toNat } else { z with BB := .leads mine m base ready }
def lead (z:Am) (mine:BitVec 64) (has:List (Option (BitVec 64 × List Ar))):Am × DX:=
 if 2*(has.filter Option.isSome).length<=z.n then (z,[]) else
 match Qr has with
 | none=>(z,[])
 | some p =>
  if (z.s.FO mine p.2).2=0 then
   (({ z with s:=(z.s.FO mine p.2).1,Ag:=min z.Ag p.2.length }:Am).count mine (List.replicate z.n (-1)) p.2.length false,z.BN.others fun _=>⟨4,mine,0,0,0,p.2⟩)
  else (({ z with s:=(z.s.FO mine p.2).1 }:Am).follow,[])
def stand (z:Am):Am × DX:=
 let e:=PQ (Fj z.s.kept.promised z.seen) z.id z.n
 if e=0 then (z,[]) else
 if (z.s.promise e).2=0 then
  let has:=(List.replicate z.n none).set z.id (some (z.s.kept.current,z.s.kept.lines))
  let z1:Am:={ z with s:=(z.s.promise e).1,BB := .stands e has,waited:=0 }
  ((z1.lead e has).1,(z.BN.others fun _=>⟨1,e,0,0,0,[]⟩)++(z1.lead e has).2)
 else ({ z with s:=(z.s.promise e).1 },[])
def tick (z:Am):Am × DX:=
 match z.BB with
 | .leads mine nR _ _ =>
  (z,z.BN.others fun i=>if nR.getD i 0<0 then ⟨4,mine,0,0,0,z.s.kept.lines⟩ else ⟨5,mine,0,(nR.getD i 0).toNat,z.Ag,z.s.kept.lines.drop (nR.getD i 0).toNat⟩)
 | _ =>
  let z1:Am:={ z with waited:=z.waited+1 }
  if 3+2*z.id<z.waited+1 then z1.stand else (z1,[])
def BK (z:Am) (src:Nat) (m:BG):Am × DX:=
 if !z.BN.owns src m.e then (z,[]) else
 if m.e.toNat<=z.s.kept.promised.toNat then (z,z.BN.refuse src) else
 if (z.s.promise m.e).2=0 then
  (({ z with s:=(z.s.promise m.e).1 }:Am).follow,[(src,⟨2,m.e,z.s.kept.current,0,0,z.s.kept.lines⟩)])
 else ({ z with s:=(z.s.promise m.e).1 },[])
def Bj (z:Am) (src:Nat) (m:BG):Am × DX:=
 match z.BB with
 | .stands mine has =>
  if mine ≠ m.e \/ m.e.toNat<=m.c.toNat then (z,[]) else
  let uJ:=if (has.getD src none).isSome then has else has.set src (some (m.c,m.ls))
  ({ z with BB := .stands mine uJ }:Am).lead mine uJ
 | _=>(z,[])
def Cj (z:Am) (m:BG):Am × DX:=(if !z.BN.follows && decide (z.BN.mine.toNat<m.e.toNat) then z.follow else z,[])
def BD (z:Am) (src:Nat) (m:BG):Am × DX:=
 if !z.BN.owns src m.e then (z,[]) else
 if m.e.toNat<z.s.kept.promised.toNat then (z,z.BN.refuse src) else
 if z.s.kept.current=m.e then (z.follow,z.BN.ack src m.e) else
 if (z.s.FO m.e m.ls).2=0 then
  let z1:Am:={ z with s:=(z.s.FO m.e m.ls).1,Ag:=min z.Ag m.ls.length }
  (z1.follow,z1.BN.ack src m.e)
 else ({ z with s:=(z.s.FO m.e m.ls).1 },[])
def BF (z:Am) (src:Nat) (m:BG):Am × DX:=
 if !z.BN.owns src m.e then (z,[]) else
 if m.e.toNat<z.s.kept.promised.toNat then (z,z.BN.refuse src) else
 if z.s.kept.promised ≠ m.e \/ z.s.kept.current ≠ m.e then (z,[]) else
 let z1:=z.follow
 if z.s.kept.lines.length<m.at' then (z1,[]) else
 let more:=m.ls.drop (z.s.kept.lines.length - m.at')
 if more=[] then
  let z2:Am:={ z1 with Ag:=max z.Ag (min m.com z.s.kept.lines.length) }
  (z2,z2.BN.ack src m.e)
 else if (z.s.append more).2=0 then
  let z2:Am:={ z1 with s:=(z.s.append more).1,Ag:=max z.Ag (min m.com (z.s.append more).1.kept.lines.length) }
  (z2,z2.BN.ack src m.e)
 else ({ z1 with s:=(z.s.append more).1 },[])
def CJ (z:Am) (src:Nat) (m:BG):Am × DX:=
 match z.BB with
 | .leads mine nR base ready =>
  if mine=m.e then (z.count mine (nR.set src (max (nR.getD src 0) (min m.at' z.s.kept.lines.length:Nat))) base ready,[]) else (z,[])
 | _=>(z,[])
def Ec (z:Am) (src:Nat) (m:BG):Am × DX:=
 if m.k=1 then z.BK src m else if m.k=2 then z.Bj src m else if m.k=3 then z.Cj m else
 if m.k=4 then z.BD src m else if m.k=5 then z.BF src m else z.CJ src m
def hear (z:Am) (src:Nat) (m:BG):Am × DX:=({ z with seen:=Fj z.seen m.e }:Am).Ec src m
def BL (z:Am) (b:List UInt8):Am × Int:=
 if b.length=0 \/ 4096<b.length then (z,1) else
 match z.BB with
 | .leads mine nR base true =>
  if 256<=z.s.kept.lines.length then (z,4) else
  if (z.s.append [⟨mine,b⟩]).2=0 then (({ z with s:=(z.s.append [⟨mine,b⟩]).1 }:Am).count mine nR base true,0) else ({ z with s:=(z.s.append [⟨mine,b⟩]).1 },(z.s.append [⟨mine,b⟩]).2)
 | _=>(z,64)
end Am
theorem Jd {P:Program} {id:Nat} {ops:Array Oper} {d:Bool} {a:Act} {w:World} {Q:Exit->Act->World->Prop} (Post:Act->Act->World->Prop)
  (h:(Code.region id ops d).wp P (fun e a' w'=>e = .normal/\Post a a' w') a w) (hq:∀ a' w',Post a a' w'->Q .normal a' w'):(Code.region id ops d).wp P Q a w:=
 Code.wp_mono (fun e a' w' hp=>by
  obtain ⟨he,hp⟩:=hp;subst he;exact hq _ _ hp) h
section
variable {P:Program} {ops:Array Oper} {Q:Exit->Act->World->Prop} {md:Region.Mode} {S:World->Prop} {need:Nat->Bool}
theorem Gm {i j:Nat} {oi oj:Oper} {fuel:Nat} {listed:Array Bool} {a:Act} {w:World} (hi:(ops.toList.drop i).head?=some oi) (hj:(ops.toList.drop j).head?=some oj) (hr:Region.ready md ops listed=[i,j])
  (h1:wpList P ops (Exit.then (fun a' w'=>(need i=true->S w')/\Dq P md ops Q S need fuel (listed.setIfInBounds i true) a' w') Q) [oi] a w)
  (h2:wpList P ops (Exit.then (fun a' w'=>(need j=true->S w')/\Dq P md ops Q S need fuel (listed.setIfInBounds j true) a' w') Q) [oj] a w):Dq P md ops Q S need (fuel+1) listed a w:=by
 refine ⟨fun h0=>(by rw [h0] at hr;cases hr),fun k hk => ?_⟩;rw [hr] at hk;simp only [List.mem_cons,List.not_mem_nil,or_false] at hk;rcases hk with rfl | rfl
 ·exact LY (EX hi) h1
 ·exact LY (EX hj) h2
end
section
variable {P:Program} {ops:Array Oper} {Q:Exit->Act->World->Prop} {rest:List Oper} {a:Act} {w w':World} {d:Option Tmp} {ty:TypeId} {ps:String} {af:Array Edge} {v:Value}
end
end Go.Proofs.YtffkdillijmamaaGreat
namespace Go.Proofs
open Go.Shelf
def Tryz.Vu:Go.Shelf.Ren:=⟨fun | 125=>242 | 128=>266 | 129=>267 | n=>n,fun | 46=>119 | 3=>3 | 51=>316 | 53=>34 | 4=>4 | 5=>5 | 9=>9 | n=>n,fun | n=>n⟩
theorem Tryz.lays125:Go.Proofs.Lays.n125 prog Tryz.Vu:={
 mixed:=by kernel_rfl
 f125:=func242.trans (congrArg some (by kernel_rfl))
 f128:=func266.trans (congrArg some (by kernel_rfl))
 f129:=func267.trans (congrArg some (by kernel_rfl))
 t3:=underlying3
 a3:=Tryz.isAgg3
 z3:=Tryz.sizeOf3
 v3:=Tryz.zeroValue3
 t4:=underlying4
 a4:=Tryz.isAgg4
 z4:=Tryz.sizeOf4
 v4:=Tryz.zeroValue4
 t5:=underlying5
 a5:=Tryz.isAgg5
 z5:=Tryz.sizeOf5
 v5:=Tryz.zeroValue5
 t9:=underlying9
 a9:=Tryz.isAgg9
 z9:=Tryz.sizeOf9
 v9:=Tryz.zeroValue9
 t46:=underlying119
 a46:=Tryz.isAgg119
 z46:=Tryz.sizeOf119
 v46:=Tryz.zeroValue119
 t51:=underlying316
 a51:=Tryz.isAgg316
 z51:=Tryz.sizeOf316
 v51:=Tryz.zeroValue316
 t53:=underlying34
 a53:=Tryz.isAgg34
 z53:=Tryz.sizeOf34
 v53:=Tryz.zeroValue34 }
theorem Tryz.bits_Len (x:Int) (w:World) (h0:0<=x) (h1:x<=18446744073709551615) :
  Calls prog 242 #[.int .u64 x] w fun e w'=>e = .returned (.int .i64 (Lib.bitLen x.toNat))/\w'=w:=Any.bits_Len Tryz.lays125 x w h0 h1
def Tryz.Vt:Go.Shelf.Ren:=⟨fun | 212=>248 | 263=>270 | 264=>271 | n=>n,fun | 46=>119 | 51=>316 | 146=>320 | 53=>34 | 148=>322 | n=>n,fun | n=>n⟩
theorem Tryz.lays212:Go.Proofs.Lays.n212 prog Tryz.Vt:={
 mixed:=by kernel_rfl
 f212:=func248.trans (congrArg some (by kernel_rfl))
 f263:=func270.trans (congrArg some (by kernel_rfl))
 f264:=func271.trans (congrArg some (by kernel_rfl))
 t46:=underlying119
 a46:=Tryz.isAgg119
 z46:=Tryz.sizeOf119
 v46:=Tryz.zeroValue119
 t51:=underlying316
 a51:=Tryz.isAgg316
 z51:=Tryz.sizeOf316
 v51:=Tryz.zeroValue316
 t53:=underlying34
 a53:=Tryz.isAgg34
 z53:=Tryz.sizeOf34
 v53:=Tryz.zeroValue34
 t146:=underlying320
 a146:=Tryz.isAgg320
 z146:=Tryz.sizeOf320
 v146:=Tryz.zeroValue320
 t148:=underlying322
 a148:=Tryz.isAgg322
 z148:=Tryz.sizeOf322
 v148:=Tryz.zeroValue322 }
open Go.RowKit Go.Lib in
theorem Tryz.bits_Mul (x y:Nat) (hx:x<18446744073709551616) (hy:y<18446744073709551616) (w:World) :
  Calls prog 248 #[.int .u64 x, .int .u64 y] w fun e w'=>e = .returned (.tuple #[.int .u64 ((x*y / 18446744073709551616:Nat):Int), .int .u64 ((x*y % 18446744073709551616:Nat):Int)])/\w'=w:=Any.bits_Mul Tryz.lays212 x y hx hy w
def Tryz.QP:Go.Shelf.Ren:=⟨fun | 15=>89 | n=>n,fun | 22=>53 | 3=>3 | 4=>4 | n=>n,fun | n=>n⟩
theorem Tryz.laysNm215:Go.Proofs.Lays2.n15 prog Tryz.QP:={
 mixed:=by kernel_rfl
 f15:=func89.trans (congrArg some (by kernel_rfl))
 t3:=underlying3
 a3:=Tryz.isAgg3
 z3:=Tryz.sizeOf3
 v3:=Tryz.zeroValue3
 t4:=underlying4
 a4:=Tryz.isAgg4
 z4:=Tryz.sizeOf4
 v4:=Tryz.zeroValue4
 t22:=underlying53
 a22:=Tryz.isAgg53
 z22:=Tryz.sizeOf53
 v22:=Tryz.zeroValue53
 i3:=by kernel_rfl }
open Go.RowKit Go.Lib in
theorem Tryz.slices_Clone_int (b off n c:Nat) (zs:List Int) (w:World) (hz:n<=zs.length) (hbig:n*8<=140737488355328) (hc:∀ j,j<zs.length->w.cell? ⟨b,off+j,none⟩=some (.int .i64 (zs.getD j 0))) :
  Calls prog 89 #[.slice (some ⟨b,off,none⟩) n c] w fun e w'=>∃ v',e = .returned v'/\w'.ownsRow w.heap.size 3 1 v' n ((zs.take n).map (Value.int .i64))/\v' ≠ .slice none 0 0/\Below w.heap.size w w':=Any.slices_Clone_int Tryz.laysNm215 b off n c zs w hz hbig hc
open Go.RowKit Go.Lib in
theorem Tryz.slices_Clone_int_nil (n c:Nat) (w:World) :
  Calls prog 89 #[.slice none n c] w fun e w'=>e = .returned (.slice none 0 0)/\w'=w:=Any.slices_Clone_int_nil Tryz.laysNm215 n c w
open Go.RowKit Go.Lib in
theorem Tryz.slices_Clone_int_zero (a:Addr) (c:Nat) (w:World) :
  Calls prog 89 #[.slice (some a) 0 c] w fun e w'=>∃ v',e = .returned v'/\w'.ownsRow w.heap.size 3 1 v' 0 []/\v' ≠ .slice none 0 0/\Below w.heap.size w w':=Any.slices_Clone_int_zero Tryz.laysNm215 a c w
def Tryz.QE:Go.Shelf.Ren:=⟨fun | 6=>187 | 15=>242 | 14=>241 | 28=>266 | 29=>267 | 20=>258 | 21=>259 | 22=>260 | 23=>261 | 24=>262 | 25=>263 | 26=>264 | 27=>265 | 46=>273 | 47=>274 | 48=>275 | 49=>276 | 50=>277 | 57=>287 | n=>n,fun | 22=>53 | 24=>3 | 25=>256 | 3=>3 | 39=>119 | 0=>0 | 53=>316 | 55=>34 | 4=>4 | 46=>310 | 45=>309 | 50=>120 | 5=>5 | 9=>9 | 66=>325 | 70=>328 | 76=>336 | 77=>337 | n=>n,fun | n=>n⟩
theorem Tryz.Ym:Go.Proofs.SlLaysF.n6 prog Tryz.QE:={
 mixed:=by kernel_rfl
 f6:=⟨Tryz.f187.name,by decide,func187.trans (congrArg some (by kernel_rfl))⟩
 f14:=⟨Tryz.f241.name,by decide,func241.trans (congrArg some (by kernel_rfl))⟩
 f15:=func242.trans (congrArg some (by kernel_rfl))
 f20:=⟨Tryz.f258.name,by decide,func258.trans (congrArg some (by kernel_rfl))⟩
 f21:=⟨Tryz.f259.name,by decide,func259.trans (congrArg some (by kernel_rfl))⟩
 f22:=⟨Tryz.f260.name,by decide,func260.trans (congrArg some (by kernel_rfl))⟩
 f23:=⟨Tryz.f261.name,by decide,func261.trans (congrArg some (by kernel_rfl))⟩
 f24:=⟨Tryz.f262.name,by decide,func262.trans (congrArg some (by kernel_rfl))⟩
 f25:=⟨Tryz.f263.name,by decide,func263.trans (congrArg some (by kernel_rfl))⟩
 f26:=⟨Tryz.f264.name,by decide,func264.trans (congrArg some (by kernel_rfl))⟩
 f27:=⟨Tryz.f265.name,by decide,func265.trans (congrArg some (by kernel_rfl))⟩
 f28:=func266.trans (congrArg some (by kernel_rfl))
 f29:=func267.trans (congrArg some (by kernel_rfl))
 f46:=⟨Tryz.f273.name,by decide,func273.trans (congrArg some (by kernel_rfl))⟩
 f47:=func274.trans (congrArg some (by kernel_rfl))
 f48:=func275.trans (congrArg some (by kernel_rfl))
 f49:=⟨Tryz.f276.name,by decide,func276.trans (congrArg some (by kernel_rfl))⟩
 f50:=⟨Tryz.f277.name,by decide,func277.trans (congrArg some (by kernel_rfl))⟩
 f57:=⟨Tryz.f287.name,by decide,func287.trans (congrArg some (by kernel_rfl))⟩
 t0:=underlying0
 a0:=Tryz.isAgg0
 z0:=Tryz.sizeOf0
 v0:=Tryz.zeroValue0
 t3:=underlying3
 a3:=Tryz.isAgg3
 z3:=Tryz.sizeOf3
 v3:=Tryz.zeroValue3
 t4:=underlying4
 a4:=Tryz.isAgg4
 z4:=Tryz.sizeOf4
 v4:=Tryz.zeroValue4
 t5:=underlying5
 a5:=Tryz.isAgg5
 z5:=Tryz.sizeOf5
 v5:=Tryz.zeroValue5
 t9:=underlying9
 a9:=Tryz.isAgg9
 z9:=Tryz.sizeOf9
 v9:=Tryz.zeroValue9
 t22:=underlying53
 a22:=Tryz.isAgg53
 z22:=Tryz.sizeOf53
 v22:=Tryz.zeroValue53
 a24:=Tryz.isAgg3
 z24:=Tryz.sizeOf3
 t25:=underlying256
 a25:=Tryz.isAgg256
 z25:=Tryz.sizeOf256
 v25:=Tryz.zeroValue256
 t39:=underlying119
 a39:=Tryz.isAgg119
 z39:=Tryz.sizeOf119
 v39:=Tryz.zeroValue119
 t45:=underlying309
 a45:=Tryz.isAgg309
 z45:=Tryz.sizeOf309
 v45:=Tryz.zeroValue309
 t46:=underlying310
 a46:=Tryz.isAgg310
 z46:=Tryz.sizeOf310
 v46:=Tryz.zeroValue310
 t50:=underlying120
 a50:=Tryz.isAgg120
 z50:=Tryz.sizeOf120
 v50:=Tryz.zeroValue120
 t53:=underlying316
 a53:=Tryz.isAgg316
 z53:=Tryz.sizeOf316
 v53:=Tryz.zeroValue316
 t55:=underlying34
 a55:=Tryz.isAgg34
 z55:=Tryz.sizeOf34
 v55:=Tryz.zeroValue34
 t66:=underlying325
 a66:=Tryz.isAgg325
 z66:=Tryz.sizeOf325
 v66:=Tryz.zeroValue325
 t70:=underlying328
 a70:=Tryz.isAgg328
 z70:=Tryz.sizeOf328
 v70:=Tryz.zeroValue328
 t76:=underlying336
 a76:=Tryz.isAgg336
 z76:=Tryz.sizeOf336
 v76:=Tryz.zeroValue336
 t77:=underlying337
 a77:=Tryz.isAgg337
 z77:=Tryz.sizeOf337
 v77:=Tryz.zeroValue337 }
def Tryz.keysL_ren:Go.Shelf.Ren:=⟨fun | 7=>195 | 10=>245 | n=>n,fun | 23=>204 | 26=>3 | 3=>203 | 28=>261 | 0=>0 | 27=>260 | 33=>27 | 4=>4 | n=>n,fun | n=>n⟩
theorem Tryz.keysL:Go.Proofs.SlLaysZI.n7 prog Tryz.keysL_ren:={
 mixed:=by kernel_rfl
 f7:=⟨Tryz.f195.name,by decide,func195.trans (congrArg some (by kernel_rfl))⟩
 f10:=⟨Tryz.f245.name,by decide,func245.trans (congrArg some (by kernel_rfl))⟩
 t0:=underlying0
 a0:=Tryz.isAgg0
 z0:=Tryz.sizeOf0
 v0:=Tryz.zeroValue0
 t4:=underlying4
 a4:=Tryz.isAgg4
 z4:=Tryz.sizeOf4
 v4:=Tryz.zeroValue4
 t23:=underlying204
 a23:=Tryz.isAgg204
 z23:=Tryz.sizeOf204
 v23:=Tryz.zeroValue204
 t26:=underlying3
 a26:=Tryz.isAgg3
 z26:=Tryz.sizeOf3
 v26:=Tryz.zeroValue3
 t27:=underlying260
 a27:=Tryz.isAgg260
 z27:=Tryz.sizeOf260
 v27:=Tryz.zeroValue260
 t28:=underlying261
 a28:=Tryz.isAgg261
 z28:=Tryz.sizeOf261
 v28:=Tryz.zeroValue261
 t33:=underlying27
 a33:=Tryz.isAgg27
 z33:=Tryz.sizeOf27
 v33:=Tryz.zeroValue27 }
def Tryz.Og:Go.Shelf.Ren:=⟨fun | 6=>194 | 8=>243 | 9=>244 | 11=>268 | 13=>242 | 12=>269 | 23=>266 | 24=>267 | 14=>278 | 15=>279 | 16=>280 | 17=>281 | 18=>282 | 19=>283 | 20=>284 | 21=>285 | 22=>286 | 25=>288 | 26=>274 | 27=>275 | 28=>289 | 29=>290 | 30=>291 | 31=>292 | n=>n,fun | 26=>3 | 28=>261 | 24=>53 | 0=>0 | 3=>3 | 37=>119 | 48=>316 | 50=>34 | 4=>4 | 40=>310 | 39=>309 | 45=>120 | 5=>5 | 9=>9 | 51=>325 | 55=>328 | 57=>336 | 58=>337 | 33=>27 | n=>n,fun | n=>n⟩
theorem Tryz.dE:Go.Proofs.SlLaysZI.n6 prog Tryz.Og:={
 mixed:=by kernel_rfl
 f6:=⟨Tryz.f194.name,by decide,func194.trans (congrArg some (by kernel_rfl))⟩
 f8:=⟨Tryz.f243.name,by decide,func243.trans (congrArg some (by kernel_rfl))⟩
 f11:=⟨Tryz.f268.name,by decide,func268.trans (congrArg some (by kernel_rfl))⟩
 t0:=underlying0
 a0:=Tryz.isAgg0
 z0:=Tryz.sizeOf0
 v0:=Tryz.zeroValue0
 t24:=underlying53
 a24:=Tryz.isAgg53
 z24:=Tryz.sizeOf53
 v24:=Tryz.zeroValue53
 t26:=underlying3
 a26:=Tryz.isAgg3
 z26:=Tryz.sizeOf3
 v26:=Tryz.zeroValue3
 t28:=underlying261
 a28:=Tryz.isAgg261
 z28:=Tryz.sizeOf261
 v28:=Tryz.zeroValue261
 i26:=by kernel_rfl }
def Tryz.SB:Go.Shelf.Ren:=⟨fun | 5=>244 | 8=>242 | 7=>269 | 19=>266 | 20=>267 | 10=>278 | 11=>279 | 12=>280 | 13=>281 | 14=>282 | 15=>283 | 16=>284 | 17=>285 | 18=>286 | 30=>288 | 31=>274 | 32=>275 | 33=>289 | 34=>290 | 35=>291 | 40=>292 | n=>n,fun | 23=>53 | 25=>3 | 3=>3 | 32=>119 | 22=>53 | 0=>0 | 44=>316 | 46=>34 | 4=>4 | 36=>310 | 35=>309 | 41=>120 | 5=>5 | 9=>9 | 53=>325 | 57=>328 | 63=>336 | 64=>337 | n=>n,fun | n=>n⟩
theorem Tryz.Uy:Go.Proofs.SlLaysM.n5 prog Tryz.SB:={
 mixed:=by kernel_rfl
 f5:=⟨Tryz.f244.name,by decide,func244.trans (congrArg some (by kernel_rfl))⟩
 f7:=⟨Tryz.f269.name,by decide,func269.trans (congrArg some (by kernel_rfl))⟩
 f8:=func242.trans (congrArg some (by kernel_rfl))
 f10:=⟨Tryz.f278.name,by decide,func278.trans (congrArg some (by kernel_rfl))⟩
 f11:=⟨Tryz.f279.name,by decide,func279.trans (congrArg some (by kernel_rfl))⟩
 f12:=⟨Tryz.f280.name,by decide,func280.trans (congrArg some (by kernel_rfl))⟩
 f13:=⟨Tryz.f281.name,by decide,func281.trans (congrArg some (by kernel_rfl))⟩
 f14:=⟨Tryz.f282.name,by decide,func282.trans (congrArg some (by kernel_rfl))⟩
 f15:=⟨Tryz.f283.name,by decide,func283.trans (congrArg some (by kernel_rfl))⟩
 f16:=⟨Tryz.f284.name,by decide,func284.trans (congrArg some (by kernel_rfl))⟩
 f17:=⟨Tryz.f285.name,by decide,func285.trans (congrArg some (by kernel_rfl))⟩
 f18:=⟨Tryz.f286.name,by decide,func286.trans (congrArg some (by kernel_rfl))⟩
 f19:=func266.trans (congrArg some (by kernel_rfl))
 f20:=func267.trans (congrArg some (by kernel_rfl))
 f30:=⟨Tryz.f288.name,by decide,func288.trans (congrArg some (by kernel_rfl))⟩
 f31:=func274.trans (congrArg some (by kernel_rfl))
 f32:=func275.trans (congrArg some (by kernel_rfl))
 f33:=⟨Tryz.f289.name,by decide,func289.trans (congrArg some (by kernel_rfl))⟩
 f34:=⟨Tryz.f290.name,by decide,func290.trans (congrArg some (by kernel_rfl))⟩
 f35:=⟨Tryz.f291.name,by decide,func291.trans (congrArg some (by kernel_rfl))⟩
 f40:=⟨Tryz.f292.name,by decide,func292.trans (congrArg some (by kernel_rfl))⟩
 t0:=underlying0
 a0:=Tryz.isAgg0
 z0:=Tryz.sizeOf0
 v0:=Tryz.zeroValue0
 t3:=underlying3
 a3:=Tryz.isAgg3
 z3:=Tryz.sizeOf3
 v3:=Tryz.zeroValue3
 t4:=underlying4
 a4:=Tryz.isAgg4
 z4:=Tryz.sizeOf4
 v4:=Tryz.zeroValue4
 t5:=underlying5
 a5:=Tryz.isAgg5
 z5:=Tryz.sizeOf5
 v5:=Tryz.zeroValue5
 t9:=underlying9
 a9:=Tryz.isAgg9
 z9:=Tryz.sizeOf9
 v9:=Tryz.zeroValue9
 t22:=underlying53
 a22:=Tryz.isAgg53
 z22:=Tryz.sizeOf53
 v22:=Tryz.zeroValue53
 t23:=underlying53
 a23:=Tryz.isAgg53
 z23:=Tryz.sizeOf53
 v23:=Tryz.zeroValue53
 t25:=underlying3
 a25:=Tryz.isAgg3
 z25:=Tryz.sizeOf3
 v25:=Tryz.zeroValue3
 t32:=underlying119
 a32:=Tryz.isAgg119
 z32:=Tryz.sizeOf119
 v32:=Tryz.zeroValue119
 t35:=underlying309
 a35:=Tryz.isAgg309
 z35:=Tryz.sizeOf309
 v35:=Tryz.zeroValue309
 t36:=underlying310
 a36:=Tryz.isAgg310
 z36:=Tryz.sizeOf310
 v36:=Tryz.zeroValue310
 t41:=underlying120
 a41:=Tryz.isAgg120
 z41:=Tryz.sizeOf120
 v41:=Tryz.zeroValue120
 t44:=underlying316
 a44:=Tryz.isAgg316
 z44:=Tryz.sizeOf316
 v44:=Tryz.zeroValue316
 t46:=underlying34
 a46:=Tryz.isAgg34
 z46:=Tryz.sizeOf34
 v46:=Tryz.zeroValue34
 t53:=underlying325
 a53:=Tryz.isAgg325
 z53:=Tryz.sizeOf325
 v53:=Tryz.zeroValue325
 t57:=underlying328
 a57:=Tryz.isAgg328
 z57:=Tryz.sizeOf328
 v57:=Tryz.zeroValue328
 t63:=underlying336
 a63:=Tryz.isAgg336
 z63:=Tryz.sizeOf336
 v63:=Tryz.zeroValue336
 t64:=underlying337
 a64:=Tryz.isAgg337
 z64:=Tryz.sizeOf337
 v64:=Tryz.zeroValue337 }
end Go.Proofs
namespace Go.Proofs.YtffkdillijmamaaGreat
open Go.Proofs.Tryz
set_option maxRecDepth 100000
set_option maxHeartbeats 6400000
open Go Go.RowKit
attribute [local go_sem ↓] Go.wp_at_zero Go.wp_at_succ
theorem UJ {k:IntKind} {a b:Int} (h:a=b):Ending.returned (.int k a) = .returned (.int k b):=by rw [h]
theorem Rx (e:Nat) (he:e<18446744073709551616) (m:Int) (hm:m=(e:Int)) (n:Nat) (h1:1<=n) (h3:n<=3) (w:World):Calls prog 192 #[.int .u64 m, .int .i64 (n:Int)] w fun e' w'=>e' = .returned (.int .i64 ((e % n:Nat):Int))/\w=w':=by
 subst hm;have hb:(0:Int)<=(e:Int)/\(e:Int)<18446744073709551616:=by omega
 rcases (show n=1 \/ n=2 \/ n=3 by omega) with rfl | rfl | rfl
 all_goals
  go_enter func192,ntmps192
  go_wp2
  go_ret;exact ⟨UJ (by omega),rfl⟩
theorem PD (n:Nat) (h1:1<=n) (h3:n<=3) (w:World):Calls prog 189 #[.int .i64 (n:Int)] w fun e' w'=>e' = .returned (.int .i64 ((n / 2+1:Nat):Int))/\w=w':=by
 rcases (show n=1 \/ n=2 \/ n=3 by omega) with rfl | rfl | rfl
 all_goals
  go_enter func189,ntmps189
  go_wp2
  go_ret;exact ⟨rfl,rfl⟩
theorem YE (a b c d:Nat) (W:World):(Op.equalIn 10000 299 (.agg #[.int .u64 (a:Int), .int .u64 (b:Int)]) (.agg #[.int .u64 (c:Int), .int .u64 (d:Int)])).run prog W = .ok (((a:Int) == c) && ((b:Int) == d)) W:=by
 have h64:prog.underlying 34=some (.int .u64):=underlying34;have hsz:(sizeOf 34).run prog W = .ok 1 W:=by rfl
 have hr:∀ (xs:List Value),True:=fun _=>trivial;unfold Op.equalIn;simp only [Sem.run_bind,run_underlying underlying299,Result.andThen_ok,hsz];have e9:∀ (x y:Int) (W:World),(Op.equalIn 9999 34 (.int .u64 x) (.int .u64 y)).run prog W = .ok (x == y) W:=fun x y W=>run_equalIn_int W 9998 34 .u64 .u64 x y h64;have hp:∀ (x y:Int) (W:World),(part 34 #[.int .u64 x, .int .u64 y] 0).run prog W = .ok (.int .u64 x) W:=fun _ _ _=>rfl;have hq:∀ (x y:Int) (W:World),(part 34 #[.int .u64 x, .int .u64 y] 1).run prog W = .ok (.int .u64 y) W:=fun _ _ _=>rfl
 by_cases h1:(a:Int)=c
 ·by_cases h2:(b:Int)=d
  ·simp [Std.Legacy.Range.forIn_eq_forIn_range',List.range',e9,hp,hq,h1,h2]
  ·simp [Std.Legacy.Range.forIn_eq_forIn_range',List.range',e9,hp,hq,h1,h2]
 ·simp [Std.Legacy.Range.forIn_eq_forIn_range',List.range',e9,hp,hq,h1]
section
variable {w:World} {o:Own}
theorem Vm {w:World} {b:Nat} {x y:Value} (hr:w.rangeAt b 0 [x,y]):(Instr.loadAt 299 (.pointer (some ⟨b,0,none⟩))).run prog w = .ok (.agg #[x,y]) w:=by
 simp only [Instr.loadAt,Instr.sureAddr,Sem.run_bind,Sem.run_pure,Result.andThen_ok];exact run_loadVar_mid w b 0 299 [x,y] _ hr underlying299 rfl (by kernel_rfl)
def LJ (a b c d:Nat):Int:=if a=c/\b=d then 0 else if a<c \/ (a=c/\b<d) then -1 else 1
theorem YF (a b c d:Nat):Calls prog 246 #[.agg #[.int .u64 (a:Int), .int .u64 (b:Int)], .agg #[.int .u64 (c:Int), .int .u64 (d:Int)]] w (XL ai w o fun v _ _=>v = .int .i64 (LJ a b c d)):=by
 have s1:=((aj.refl ai w o).alloc (.cells #[.int .u64 (a:Int), .int .u64 (b:Int)] 299) (0,0)).alloc (.cells #[.int .u64 (c:Int), .int .u64 (d:Int)] 299) (0,0);have b1:=(Below.heap_alloc (w.alloc (.cells #[.int .u64 (a:Int), .int .u64 (b:Int)] 299)) (.cells #[.int .u64 (c:Int), .int .u64 (d:Int)] 299) w.heap.size (by simp)).trans (heap_alloc_new w (.cells [.int .u64 (a:Int), .int .u64 (b:Int)].toArray 299));have b2:((w.alloc (.cells #[.int .u64 (a:Int), .int .u64 (b:Int)] 299)).alloc (.cells #[.int .u64 (c:Int), .int .u64 (d:Int)] 299)).heap[w.heap.size+1]?=some (.cells [.int .u64 (c:Int), .int .u64 (d:Int)].toArray 299 (0,0)):=by
  have:=heap_alloc_new (w.alloc (.cells #[.int .u64 (a:Int), .int .u64 (b:Int)] 299)) (.cells [.int .u64 (c:Int), .int .u64 (d:Int)].toArray 299)
  simpa using this
 obtain ⟨W,hW⟩:∃ W,(w.alloc (.cells #[.int .u64 (a:Int), .int .u64 (b:Int)] 299)).alloc (.cells #[.int .u64 (c:Int), .int .u64 (d:Int)] 299)=W:=⟨_,rfl⟩;rw [hW] at s1 b1 b2;generalize Ak (Ak o w.heap.size (0,0)) (w.alloc (.cells #[.int .u64 (a:Int), .int .u64 (b:Int)] 299)).heap.size (0,0)=o1 at s1;have hl1:=ae (Vm (AV b1));have hl2:=ae (Vm (AV b2));have hc:=fun W=>YE a b c d W;have x0:W.drew.cell? ⟨w.heap.size,0,none⟩=some (.int .u64 (a:Int)):=ag b1 0;have x1:W.drew.drew.cell? ⟨w.heap.size,1,none⟩=some (.int .u64 (b:Int)):=ag b1 1;have y0:W.drew.cell? ⟨w.heap.size+1,0,none⟩=some (.int .u64 (c:Int)):=ag b2 0;have y1:W.drew.drew.cell? ⟨w.heap.size+1,1,none⟩=some (.int .u64 (d:Int)):=ag b2 1;have hS0:=ae (aI x0 y0);have hS1:=ae (aI x1 y1);have XX:=ae hW;have hst:=ae s1;clear b1 b2 hW s1 x0 x1 y0 y1
 by_cases e1:a=c
 ·subst e1
  by_cases e2:b=d
  ·subst e2;have hu:=ae (show LJ a b a b=0 by simp [LJ]);simp only [beq_self_eq_true,Bool.and_true] at hc;go_enter func246,ntmps246
   go_wp2_with ((with_reducible apply Bo);(try rw [XX.out]);(first | exact hl1.out | exact hl2.out);simp only [Act.put,GL,DL,lss])
   go_ret;exact ⟨_,o1,rfl,hst.out,by rw [hu.out];rfl⟩
  ·have e2I:((b:Int) == (d:Int))=false:=by simp;omega
   rw [e2I] at hc;simp only [Bool.and_false] at hc
   by_cases h:b<d
   ·clear e2;have hu:=ae (show LJ a b a d = -1 by unfold LJ;rw [if_neg (by omega),if_pos (by omega)]);have ltI:(b:Int)<(d:Int):=by omega
    go_enter func246,ntmps246
    go_wp2_with ((with_reducible apply Bo);(try rw [XX.out]);(first | exact hl1.out | exact hl2.out);simp only [Act.put,GL,DL,lss])
    refine wp_loop_rounds 2 ?_;rw [rounds_succ];go_wp2_with fail;refine Aa (fun w'=>w'.cell? ⟨w.heap.size,0,none⟩=some (.int .u64 (a:Int))/\w'.cell? ⟨w.heap.size+1,0,none⟩=some (.int .u64 (a:Int))) (fun _=>true) (by kernel_rfl) hS0.out (fun hHeld => ?_);refine tq 0 (h:=tq 1 (h:=tq 2 (h:=tq 3 (h:=tq 4 (h:=tq 5 (h:=tq 6 (h:=tD (h:=?_))))))));clear hHeld;go_wp2_with fail;rw [rounds_succ];go_wp2_with fail;refine Aa (fun w'=>w'.cell? ⟨w.heap.size,1,none⟩=some (.int .u64 (b:Int))/\w'.cell? ⟨w.heap.size+1,1,none⟩=some (.int .u64 (d:Int))) (fun _=>true) (by kernel_rfl) hS1.out (fun hHeld => ?_);refine tq 0 (h:=tq 1 (h:=tq 2 (h:=tq 3 (h:=tq 4 (h:=tq 5 (h:=tq 6 (h:=tD (h:=?_))))))));clear hHeld;go_wp2_with fail;refine Aa (fun w'=>w'.cell? ⟨w.heap.size,1,none⟩=some (.int .u64 (b:Int))/\w'.cell? ⟨w.heap.size+1,1,none⟩=some (.int .u64 (d:Int))) (fun _=>true) (by kernel_rfl) hS1.out (fun hHeld => ?_);refine tq 0 (h:=tq 1 (h:=tq 2 (h:=tq 3 (h:=tq 4 (h:=tq 5 (h:=tq 6 (h:=tD (h:=?_))))))));clear hHeld;go_wp2_with fail;go_ret;exact ⟨_,o1,rfl,hst.out.drew.drew.drew,by rw [hu.out];rfl⟩
   ·clear e2;have hu:=ae (show LJ a b a d=1 by unfold LJ;rw [if_neg (by rintro ⟨-,rfl⟩;simp at e2I),if_neg (by omega)]);have ltI:¬ (b:Int)<(d:Int):=by omega
    go_enter func246,ntmps246
    go_wp2_with ((with_reducible apply Bo);(try rw [XX.out]);(first | exact hl1.out | exact hl2.out);simp only [Act.put,GL,DL,lss])
    refine wp_loop_rounds 2 ?_;rw [rounds_succ];go_wp2_with fail;refine Aa (fun w'=>w'.cell? ⟨w.heap.size,0,none⟩=some (.int .u64 (a:Int))/\w'.cell? ⟨w.heap.size+1,0,none⟩=some (.int .u64 (a:Int))) (fun _=>true) (by kernel_rfl) hS0.out (fun hHeld => ?_);refine tq 0 (h:=tq 1 (h:=tq 2 (h:=tq 3 (h:=tq 4 (h:=tq 5 (h:=tq 6 (h:=tD (h:=?_))))))));clear hHeld;go_wp2_with fail;rw [rounds_succ];go_wp2_with fail;refine Aa (fun w'=>w'.cell? ⟨w.heap.size,1,none⟩=some (.int .u64 (b:Int))/\w'.cell? ⟨w.heap.size+1,1,none⟩=some (.int .u64 (d:Int))) (fun _=>true) (by kernel_rfl) hS1.out (fun hHeld => ?_);refine tq 0 (h:=tq 1 (h:=tq 2 (h:=tq 3 (h:=tq 4 (h:=tq 5 (h:=tq 6 (h:=tD (h:=?_))))))));clear hHeld;go_wp2_with fail;refine Aa (fun w'=>w'.cell? ⟨w.heap.size,1,none⟩=some (.int .u64 (b:Int))/\w'.cell? ⟨w.heap.size+1,1,none⟩=some (.int .u64 (d:Int))) (fun _=>true) (by kernel_rfl) hS1.out (fun hHeld => ?_);refine tq 0 (h:=tq 1 (h:=tq 2 (h:=tq 3 (h:=tq 4 (h:=tq 5 (h:=tq 6 (h:=tD (h:=?_))))))));clear hHeld;go_wp2_with fail;go_ret;exact ⟨_,o1,rfl,hst.out.drew.drew.drew,by rw [hu.out];rfl⟩
 ·have e1I:((a:Int) == (c:Int))=false:=by simp;omega
  rw [e1I] at hc;simp only [Bool.false_and] at hc
  by_cases h:a<c
  ·clear e1;have hu:=ae (show LJ a b c d = -1 by unfold LJ;rw [if_neg (by omega),if_pos (by omega)]);have ltI:(a:Int)<(c:Int):=by omega
   go_enter func246,ntmps246
   go_wp2_with ((with_reducible apply Bo);(try rw [XX.out]);(first | exact hl1.out | exact hl2.out);simp only [Act.put,GL,DL,lss])
   refine wp_loop_rounds 2 ?_;rw [rounds_succ];go_wp2_with fail;refine Aa (fun w'=>w'.cell? ⟨w.heap.size,0,none⟩=some (.int .u64 (a:Int))/\w'.cell? ⟨w.heap.size+1,0,none⟩=some (.int .u64 (c:Int))) (fun _=>true) (by kernel_rfl) hS0.out (fun hHeld => ?_);refine tq 0 (h:=tq 1 (h:=tq 2 (h:=tq 3 (h:=tq 4 (h:=tq 5 (h:=tq 6 (h:=tD (h:=?_))))))));clear hHeld;go_wp2_with fail;refine Aa (fun w'=>w'.cell? ⟨w.heap.size,0,none⟩=some (.int .u64 (a:Int))/\w'.cell? ⟨w.heap.size+1,0,none⟩=some (.int .u64 (c:Int))) (fun _=>true) (by kernel_rfl) hS0.out (fun hHeld => ?_);refine tq 0 (h:=tq 1 (h:=tq 2 (h:=tq 3 (h:=tq 4 (h:=tq 5 (h:=tq 6 (h:=tD (h:=?_))))))));clear hHeld;go_wp2_with fail;go_ret;exact ⟨_,o1,rfl,hst.out.drew.drew,by rw [hu.out];rfl⟩
  ·clear e1;have hu:=ae (show LJ a b c d=1 by unfold LJ;rw [if_neg (by rintro ⟨rfl, -⟩;simp at e1I),if_neg (by rintro (h | ⟨rfl, -⟩);omega;simp at e1I)])
   have ltI:¬ (a:Int)<(c:Int):=by omega
   go_enter func246,ntmps246
   go_wp2_with ((with_reducible apply Bo);(try rw [XX.out]);(first | exact hl1.out | exact hl2.out);simp only [Act.put,GL,DL,lss])
   refine wp_loop_rounds 2 ?_;rw [rounds_succ];go_wp2_with fail;refine Aa (fun w'=>w'.cell? ⟨w.heap.size,0,none⟩=some (.int .u64 (a:Int))/\w'.cell? ⟨w.heap.size+1,0,none⟩=some (.int .u64 (c:Int))) (fun _=>true) (by kernel_rfl) hS0.out (fun hHeld => ?_);refine tq 0 (h:=tq 1 (h:=tq 2 (h:=tq 3 (h:=tq 4 (h:=tq 5 (h:=tq 6 (h:=tD (h:=?_))))))));clear hHeld;go_wp2_with fail;refine Aa (fun w'=>w'.cell? ⟨w.heap.size,0,none⟩=some (.int .u64 (a:Int))/\w'.cell? ⟨w.heap.size+1,0,none⟩=some (.int .u64 (c:Int))) (fun _=>true) (by kernel_rfl) hS0.out (fun hHeld => ?_);refine tq 0 (h:=tq 1 (h:=tq 2 (h:=tq 3 (h:=tq 4 (h:=tq 5 (h:=tq 6 (h:=tD (h:=?_))))))));clear hHeld;go_wp2_with fail;go_ret;exact ⟨_,o1,rfl,hst.out.drew.drew,by rw [hu.out];rfl⟩
theorem YD (a b c d:Nat) (B D:Int) (hB:B=(b:Nat)) (hD:D=(d:Nat)):Calls prog 246 #[.agg #[.int .u64 (a:Int), .int .u64 B], .agg #[.int .u64 (c:Int), .int .u64 D]] w (XL ai w o fun v _ _=>v = .int .i64 (LJ a b c d)):=by
 subst hB hD;exact YF a b c d
theorem Xx (c1 c2 l1 l2:Nat) (h1:l1<=256) (h2:l2<=256):Calls prog 196 #[.int .u64 (c1:Int), .int .i64 (l1:Int), .int .u64 (c2:Int), .int .i64 (l2:Int)] w (XL ai w o fun v _ _=>v = .bool (decide (c2<c1) || (decide (c1=c2) && decide (l2<l1)))):=by
 have i1:(0:Int)<=(l1:Int)/\(l1:Int)<=256:=by omega
 have i2:(0:Int)<=(l2:Int)/\(l2:Int)<=256:=by omega
 have ho:=ae (YD (w:=w) (o:=o) c1 (l1+9223372036854775808) c2 (l2+9223372036854775808) ((l1:Int)+9223372036854775808) ((l2:Int)+9223372036854775808) (by omega) (by omega));have hu:=ae (show (decide (c2<c1) || (decide (c1=c2) && decide (l2<l1)))=decide (0<LJ c1 (l1+9223372036854775808) c2 (l2+9223372036854775808)) by
  unfold LJ
  by_cases a1:c1=c2
  ·subst a1
   by_cases a2:l1=l2
   ·subst a2;simp
   ·by_cases a3:l1<l2
    ·rw [if_neg (by omega),if_pos (by omega)];simp;omega
    ·rw [if_neg (by omega),if_neg (by omega)];simp;omega
  ·by_cases a3:c1<c2
   ·rw [if_neg (by omega),if_pos (by omega)];simp;omega
   ·rw [if_neg (by omega),if_neg (by omega)];simp;omega)
 clear h1 h2;generalize LJ c1 (l1+9223372036854775808) c2 (l2+9223372036854775808)=R at *;go_enter func196,ntmps196;go_wp2_with fail;refine ho.out.mono ?_;rintro e w1 ⟨v1,o1,rfl,hs,rfl⟩;go_wp2_with fail;go_ret;exact ⟨_,o1,rfl,hs,by rw [hu.out];rfl⟩
end
theorem aG (a id n:Nat) (ha:a<=281474976710656) (h1:1<=n) (h3:n<=3) (hi:id<n) (w:World):Calls prog 137 #[.int .u64 (a:Int), .int .i64 (id:Int), .int .i64 (n:Int)] w fun e' w'=>e' = .returned (.int .u64 ((a+1+(id+n - (a+1) % n) % n:Nat):Int))/\w=w':=by
 have ia:(0:Int)<=(a:Int)/\(a:Int)<=281474976710656:=by omega
 have ho:=ae (Rx (a+1) (by omega) ((a:Int)+1) (by omega) n h1 h3 w);have hm:(a+1) % n<n:=Nat.mod_lt _ (by omega);obtain ⟨r,hr⟩:∃ r,(a+1) % n=r:=⟨_,rfl⟩;rw [hr] at ho hm ⊢;have hI:(0:Int)<=(id:Int) - (r:Int)+(n:Int):=by omega
 have hsub:(id:Int) - (r:Int)+(n:Int)=((id+n - r:Nat):Int):=by omega
 have hu:((a+1+(id+n - r) % n:Nat):Int)=(a:Int)+1+((id:Int) - (r:Int)+(n:Int)) % (n:Int):=by
  rw [hsub, <-Int.natCast_emod];omega
 have huH:=ae hu;have hml:(0:Int)<=((id:Int) - (r:Int)+(n:Int)) % (n:Int)/\((id:Int) - (r:Int)+(n:Int)) % (n:Int)<3:=⟨Int.emod_nonneg _ (by omega),by have:=Int.emod_lt_of_pos ((id:Int) - (r:Int)+(n:Int)) (show (0:Int)<n by omega);omega⟩;have g1:¬ (n:Int)<1:=by omega
 have g2:¬ (id:Int)<0:=by omega
 have g3:¬ (n:Int)<=(id:Int):=by omega
 have g4:¬ (281474976710656:Int)<(a:Int):=by omega
 have g5:((n:Int) == 0)=false:=by simp;omega
 have n0:(0:Int)<(n:Int)/\(n:Int)<=3:=by omega
 have i0:(0:Int)<=(id:Int)/\(id:Int)<3:=by omega
 have r0:(0:Int)<=(r:Int)/\(r:Int)<3:=by omega
 clear hu hsub hm hr ha h1 h3 hi;go_enter func137,ntmps137;go_wp2_with fail;refine ho.out.mono ?_;rintro e w' ⟨rfl,rfl⟩;go_wp2_with fail;go_ret;refine ⟨UJ ?_,rfl⟩;rw [huH.out];have hmod:((id:Int) - (r:Int)+(n:Int)) % (n:Int)=((id:Int) - (r:Int)) % (n:Int):=Int.add_emod_right _ _;rw [hmod] at hml ⊢;rw [IntWalk.u64_in _ (show 0<=((id:Int) - (r:Int)) % (n:Int)/\((id:Int) - (r:Int)) % (n:Int)<=18446744073709551615 by omega),IntWalk.u64_in _ (by omega)]
open Go Go.RowKit Go.Sort
def Em (x y:Int):Int:=if y<x then -1 else if x<y then 1 else 0
theorem bI (x y:Int) (w:World):Calls prog 188 #[.int .i64 x, .int .i64 y] w fun e w'=>e = .returned (.int .i64 (Em x y))/\∃ q,w'=w.drewN q:=by
 by_cases h1:y<x
 ·have hu:=ae (show Em x y = -1 by unfold Em;rw [if_pos h1]);go_enter func188,ntmps188
  go_wp2
  go_ret;exact ⟨by rw [hu.out];rfl,0,rfl⟩
 ·by_cases h2:x<y
  ·have hu:=ae (show Em x y=1 by unfold Em;rw [if_neg h1,if_pos h2]);go_enter func188,ntmps188
   go_wp2
   go_ret;exact ⟨by rw [hu.out];rfl,0,rfl⟩
  ·have hu:=ae (show Em x y=0 by unfold Em;rw [if_neg h1,if_neg h2]);go_enter func188,ntmps188
   go_wp2
   go_ret;exact ⟨by rw [hu.out];rfl,0,rfl⟩
theorem QD (l:List Int) (h1:1<=l.length) (h3:l.length<=3):(Sort.insertionSort (ltOf Em) l.toArray 0 l.length).size=l.length/\(Sort.insertionSort (ltOf Em) l.toArray 0 l.length)[l.length / 2]?=some (CW l):=by
 match l,h1,h3 with
 | [a],_,_ =>
  have e:Sort.insertionSort (ltOf Em) #[a] 0 1 = #[a]:=by simp [Sort.insertionSort,insOuter]
  rw [show [a].toArray = #[a] from rfl,show [a].length=1 from rfl,e];exact ⟨rfl,rfl⟩
 | [a,b],_,_ =>
  by_cases h:a<b
  ·have e:Sort.insertionSort (ltOf Em) #[a,b] 0 2 = #[b,a]:=by
    simp [Sort.insertionSort,insOuter,insInner,ltOf,Em,swp,h]
   rw [show [a,b].toArray = #[a,b] from rfl,show [a,b].length=2 from rfl,e];refine ⟨rfl, ?_⟩;show some a=some (min a b);congr 1;omega
  ·have e:Sort.insertionSort (ltOf Em) #[a,b] 0 2 = #[a,b]:=by
    by_cases h2:b<a
    ·simp [Sort.insertionSort,insOuter,insInner,ltOf,Em,h,h2]
    ·simp [Sort.insertionSort,insOuter,insInner,ltOf,Em,h,h2]
   rw [show [a,b].toArray = #[a,b] from rfl,show [a,b].length=2 from rfl,e];refine ⟨rfl, ?_⟩;show some b=some (min a b);congr 1;omega
 | [a,b,c],_,_ =>
  have key:∀ x y z:Int,Sort.insertionSort (ltOf Em) #[a,b,c] 0 3 = #[x,y,z]->y=max (min a b) (min (max a b) c)->(Sort.insertionSort (ltOf Em) #[a,b,c] 0 3).size=3/\(Sort.insertionSort (ltOf Em) #[a,b,c] 0 3)[3 / 2]?=some (CW [a,b,c]):=by
   intro x y z e h;rw [e];refine ⟨rfl, ?_⟩;show some y=some (max (min a b) (min (max a b) c));rw [h]
  by_cases h1:a<b
  ·by_cases h2:b<c
   ·exact key c b a (by simp [Sort.insertionSort,insOuter,insInner,ltOf,Em,swp,h1,h2,show a<c by omega]) (by omega)
   ·by_cases h3:a<c
    ·refine key b c a (by
      by_cases h4:c<b
      ·simp [Sort.insertionSort,insOuter,insInner,ltOf,Em,swp,h1,h2,h3,h4]
      ·simp [Sort.insertionSort,insOuter,insInner,ltOf,Em,swp,h1,h2,h3,h4]) (by omega)
    ·refine key b a c (by
      by_cases h4:c<a
      ·simp [Sort.insertionSort,insOuter,insInner,ltOf,Em,swp,h1,h3,h4]
      ·simp [Sort.insertionSort,insOuter,insInner,ltOf,Em,swp,h1,h3,h4]) (by omega)
  ·have hab:∀ (p q:Int),(if b<a then -1 else if a<b then 1 else (0:Int))=p->True:=fun _ _ _=>trivial
   by_cases h2:b<c
   ·by_cases h3:a<c
    ·refine key c a b (by
      by_cases h4:b<a
      ·simp [Sort.insertionSort,insOuter,insInner,ltOf,Em,swp,h1,h2,h3,h4]
      ·simp [Sort.insertionSort,insOuter,insInner,ltOf,Em,swp,h1,h2,h3,h4]) (by omega)
    ·refine key a c b (by
      by_cases h4:b<a <;> by_cases h5:c<a <;> simp [Sort.insertionSort,insOuter,insInner,ltOf,Em,swp,h1,h2,h3,h4,h5]) (by omega)
   ·refine key a b c (by
     by_cases h4:b<a <;> by_cases h5:c<b <;> simp [Sort.insertionSort,insOuter,insInner,ltOf,Em,h1,h2,h4,h5]) (by omega)
theorem ZU {w:World} {g:Nat} {cs:Array Value} {E:TypeId} {l:List Int} (hg:w.heap[g]?=some (.cells cs E (0,0))) (ht:cs.toList.take l.length=ivs l):Holds (Value.int .i64) w g 0 l.toArray:=by
 intro j hj;have hj':j<l.length:=by simpa using hj
 refine ⟨?_,by simp [World.frozen?,hg]⟩;have h1:(cs.toList.take l.length)[j]?=(ivs l)[j]?:=by rw [ht]
 rw [List.getElem?_take_of_lt hj',Array.getElem?_toList] at h1;have h2:w.cell? ⟨g,0+j,none⟩=cs[j]?:=by simp [World.cell?,hg]
 rw [h2,h1];simp [ivs,hj',List.size_toArray]
theorem VZ {w:World} {o:Own} {b cap:Nat} {nR:List Int} (hr:w.rangeAt b 0 (ivs nR)) (h1:1<=nR.length) (h3:nR.length<=3) :
  Calls prog 134 #[.slice (some ⟨b,0,none⟩) nR.length cap] w (XL ai w o fun v _ _=>v = .int .i64 (CW nR)):=by
 have hcl:=Tryz.slices_Clone_int b 0 nR.length cap nR w (Nat.le_refl _) (by omega) (fun j hj=>by
  have:=hr j (.int .i64 (nR.getD j 0)) (by simp [ivs,hj])
  simpa using this)
 rw [List.take_length] at hcl;obtain ⟨n,hn⟩:∃ n,nR.length=n:=⟨_,rfl⟩;have hsc:=QD nR h1 h3;have hnI:(1:Int)<=(n:Int)/\(n:Int)<=3:=by omega
 have xG:=ae hcl;have hq:=ae (PD n (by omega) (by omega));rw [hn] at xG hsc ⊢;have hnH:=ae hn;have Akf:=ae hsc;clear hcl hsc hn hr h1 h3;go_enter func134,ntmps134;go_wp2_with fail;refine xG.out.mono ?_;rintro e w1 ⟨v1,rfl,hown, -,hbel⟩;have hst:aj ai w o w1 (ext w o):=⟨hbel.os,hbel.tape,hbel.output,hbel.size,fun k hk=>if_pos hk,fun k hk _=>hbel.block k hk⟩
 rcases hown.2 with ⟨-,h0⟩ | ⟨g,cap',cur,rfl,q1,q2,q3,q4,q5,q6⟩
 ·omega
 have hrun:=ZU (l:=nR) q2 (by rw [hnH.out, <-Nat.mul_one n];exact q6);have hso:=Any.slices_SortFunc_small Tryz.Ym (Value.int .i64) (fun _=>rfl) Em 188 #[] g 0 cap' nR.toArray w1 Tryz.call188 (fun _ _ _ _ x y=>bI x y _) hrun (by simp [hnH.out];omega) (fun m W hm=>(Tryz.bits_Len m W (by omega) (by omega)).mono fun _ _ ⟨he,hw⟩=>⟨⟨_,he⟩,hw⟩)
 change Calls prog 187 _ _ _ at hso
 have es:nR.toArray.size=n:=by rw [List.size_toArray];exact hnH.out
 rw [es] at hso;obtain ⟨S,hS⟩:∃ S,Sort.insertionSort (ltOf Em) nR.toArray 0 n=S:=⟨_,rfl⟩;rw [hS] at hso Akf;have hsz:S.size=nR.toArray.size:=by rw [es];exact Akf.out.1
 have hcell:(putRow (Value.int .i64) w1 g 0 S).cell? ⟨g,n / 2,none⟩=some (.int .i64 (CW nR)):=by
  have h:=(holds_putRow (Value.int .i64) w1 g 0 nR.toArray S hrun hsz (n / 2) (by rw [Akf.out.1];omega)).1;rw [Nat.zero_add] at h;rw [h];have h2:=Akf.out.2;have hl:n / 2<S.size:=by rw [Akf.out.1];omega
  rw [Array.getElem?_eq_getElem hl] at h2;rw [getElem!_pos S (n / 2) hl]
  simpa using h2
 have hx:aj ai w o (putRow (Value.int .i64) w1 g 0 S) (ext w o):=by
  refine ⟨hst.os,hst.tape,hst.output,by simpa using hst.size,hst.own,fun k hk hT => ?_⟩;rw [<-hst.block k hk hT];have:g ≠ k:=by omega
  simp [putRow,mapBlock,Array.getElem?_modify,this]
 have hst2:∀ q,aj ai w o ((putRow (Value.int .i64) w1 g 0 S).drewN q) (ext w o):=fun q=>hx.drewN q;have Aaz:=ae hso;have hcI:(0:Int)<=(n:Int) / 2/\(n:Int) / 2<(n:Int):=by omega
 have hcN:((n:Int) / 2).toNat=n / 2:=by omega
 have Abe:=ae hst2;clear hso hst hst2 hx hown hbel hrun hsz hS es hnH Akf q1 q2 q3 q4 q5 q6;go_wp2_with fail;refine Aaz.out.mono ?_;rintro e w2 ⟨rfl,q,rfl⟩;have hc2:((putRow (Value.int .i64) w1 g 0 S).drewN q).cell? ⟨g,n / 2,none⟩=some (.int .i64 (CW nR)):=hcell;have hF:=ae (Abe.out q);obtain ⟨W,hW⟩:∃ W,(putRow (Value.int .i64) w1 g 0 S).drewN q=W:=⟨_,rfl⟩;rw [hW] at hc2 hF ⊢;clear hW hcell Aaz;go_wp2_with fail;refine (hq.out W).mono ?_;rintro e w3 ⟨rfl,rfl⟩;have hq1:((n / 2+1:Nat):Int) - 1=((n / 2:Nat):Int):=by omega
 have hb1:((n / 2:Nat):Int)<(n:Int):=by omega
 go_wp2_with fail;go_ret;exact ⟨_,_,rfl,hF.out,rfl⟩
def KC (D M:Nat):Nat->Prop:=fun k=>k=D \/ (M<k/\k<=M+4)
theorem KC.zero {D M:Nat} (hD:D ≠ 0):¬ KC D M 0:=by unfold KC;omega
theorem KC.own {D M:Nat}:KC D M (M+4):=by unfold KC;omega
theorem KC.in4 {D M:Nat}:∀ k,qG (M+1) (M+2) (M+3) D k->KC D M k:=by intro k h;unfold qG at h;unfold KC;omega
theorem KC.self {D M:Nat} (ML:D<=M):∀ k,ak (M+4) k->k ≠ 0/\¬ qG (M+1) (M+2) (M+3) D k:=by intro k h;unfold ak at h;unfold qG;omega
theorem KC.WZ {D M:Nat} (ML:D<=M) (_hD:D ≠ 0):¬ qG (M+1) (M+2) (M+3) D (M+4):=by unfold qG;omega
def IL (id n ps:Nat) (rv:Value) (waited:Nat) (seen:BitVec 64) (Ag:Nat):List Value:=
 [.int .i64 (id:Int), .int .i64 (n:Int), .pointer (some ⟨ps,0,none⟩),rv, .int .i64 (waited:Int), .int .u64 (seen.toNat:Int), .int .i64 (Ag:Int)]
def PH (c:BitVec 64) (lv:Value):Value := .agg #[.int .u64 (c.toNat:Int),lv]
def Bd (j:Nat):List (Nat × BitVec 64 × Value)->List MapEntry
 | []=>[]
 | x :: r=>⟨.int .i64 (x.1:Int),PH x.2.1 x.2.2,j⟩ :: Bd (j+1) r
def OE (w:World) (o:Own) (Z mb:Nat) (has:List (Option (BitVec 64 × List Ar))):Prop:=
 ∃ es:List (Nat × BitVec 64 × Value),w.heap[mb]?=some (.map (Bd 0 es).toArray es.length)/\o mb=(Z,2)/\(es.map (·.1)).Nodup /\
  (∀ x ∈ es,∃ ls,has[x.1]?=some (some (x.2.1,ls))/\Lines w o 0 x.2.2 ls)/\∀ i p,has[i]?=some (some p)->∃ x ∈ es,x.1=i
def KA (w:World) (o:Own) (Z p:Nat) (mine:BitVec 64) (has:List (Option (BitVec 64 × List Ar))):Prop:=
 ∃ mb,w.heap[p]?=some (.cells [.int .u64 (mine.toNat:Int), .map (some mb)].toArray 206 (0,0))/\o p=(Z,1)/\OE w o Z mb has
def Nw (w:World) (o:Own) (Z p:Nat) (mine:BitVec 64) (nR:List Int) (base:Nat) (ready:Bool):Prop:=
 ∃ b cap,w.heap[p]?=some (.cells [.int .u64 (mine.toNat:Int), .slice (some ⟨b,0,none⟩) nR.length cap, .int .i64 (base:Int), .bool ready].toArray 142 (0,0))/\o p=(Z,1) /\
  w.heap[b]?=some (.cells (ivs nR).toArray 3 (0,0))/\o b=(Z,2)/\nR.length<=cap/\cap<=maxLen
def IE (w:World) (o:Own) (Z:Nat) (rv:Value):Adl->Prop
 | .follows=>rv = .iface 184 (.agg #[])
 | .stands mine has=>∃ p,rv = .iface 201 (.pointer (some ⟨p,0,none⟩))/\KA w o Z p mine has
 | .leads mine nR base ready=>∃ p,rv = .iface 135 (.pointer (some ⟨p,0,none⟩))/\Nw w o Z p mine nR base ready
def GK (w:World) (o:Own) (Z pz ps:Nat) (rv:Value) (z:Am):Prop:=
 w.heap[pz]?=some (.cells (IL z.id z.n ps rv z.waited z.seen z.Ag).toArray 140 (0,0))/\o pz=(Z,0)
def Bc (w:World) (o:Own) (D M pz ps pd:Nat) (z:Am):Prop:=
 (D<=M/\D ≠ 0)/\∃ rv,GK w o (M+4) pz ps rv z/\IE w o (M+4) rv z.BB/\Bi w o (M+1) (M+2) (M+3) D ps pd 0 z.s
section
variable {T:Nat->Prop} {w w':World} {o o':Own} {Z D M pz ps pd:Nat}
theorem OE.step {mb:Nat} {has:List (Option (BitVec 64 × List Ar))} (h:OE w o Z mb has) (s:aj T w o w' o') (hZ:¬ T Z) (h0:¬ T 0):OE w' o' Z mb has:=by
 obtain ⟨es,h1,h2,h3,h4,h5⟩:=h;have hl:=au h1;refine ⟨es,by rw [s.block mb hl (by rw [h2];exact hZ)];exact h1,by rw [s.own mb hl];exact h2,h3,fun x hx => ?_,h5⟩;obtain ⟨ls,a,b⟩:=h4 x hx;exact ⟨ls,a,b.step s h0⟩
theorem KA.step {p:Nat} {mine:BitVec 64} {has:List (Option (BitVec 64 × List Ar))} (h:KA w o Z p mine has) (s:aj T w o w' o') (hZ:¬ T Z) (h0:¬ T 0):KA w' o' Z p mine has:=by
 obtain ⟨mb,h1,h2,h3⟩:=h;have hl:=au h1;exact ⟨mb,by rw [s.block p hl (by rw [h2];exact hZ)];exact h1,by rw [s.own p hl];exact h2,h3.step s hZ h0⟩
theorem Nw.step {p:Nat} {mine:BitVec 64} {nR:List Int} {base:Nat} {ready:Bool} (h:Nw w o Z p mine nR base ready) (s:aj T w o w' o') (hZ:¬ T Z):Nw w' o' Z p mine nR base ready:=by
 obtain ⟨b,cap,h1,h2,h3,h4,h5,h6⟩:=h;have hl:=au h1;have hb:=au h3;exact ⟨b,cap,by rw [s.block p hl (by rw [h2];exact hZ)];exact h1,by rw [s.own p hl];exact h2,by rw [s.block b hb (by rw [h4];exact hZ)];exact h3,by rw [s.own b hb];exact h4,h5,h6⟩
theorem IE.step {rv:Value} {r:Adl} (h:IE w o Z rv r) (s:aj T w o w' o') (hZ:¬ T Z) (h0:¬ T 0):IE w' o' Z rv r:=by
 cases r with
 | follows=>exact h
 | stands mine has=>obtain ⟨p,h1,h2⟩:=h;exact ⟨p,h1,h2.step s hZ h0⟩
 | leads mine nR base ready=>obtain ⟨p,h1,h2⟩:=h;exact ⟨p,h1,h2.step s hZ⟩
theorem GK.step {rv:Value} {z:Am} (h:GK w o Z pz ps rv z) (s:aj T w o w' o') (hZ:¬ T Z):GK w' o' Z pz ps rv z:=by
 have hl:=au h.1;exact ⟨by rw [s.block pz hl (by rw [h.2];exact hZ)];exact h.1,by rw [s.own pz hl];exact h.2⟩
theorem Bc.step {z:Am} (h:Bc w o D M pz ps pd z) (s:aj T w o w' o') (hT:∀ t,T t->t ≠ 0/\¬ KC D M t):Bc w' o' D M pz ps pd z:=by
 obtain ⟨ML,rv,h1,h2,h3⟩:=h;have h0:¬ T 0:=fun h=>(hT 0 h).1 rfl;have hZ:¬ T (M+4):=fun h=>(hT _ h).2 KC.own;exact ⟨ML,rv,h1.step s hZ,h2.step s hZ h0,h3.step s fun t ht=>⟨(hT t ht).1,fun h=>(hT t ht).2 (KC.in4 t h)⟩⟩
theorem Bc.step0 {z:Am} (h:Bc w o D M pz ps pd z) (s:aj ai w o w' o'):Bc w' o' D M pz ps pd z:=h.step s fun _ h=>h.elim
theorem GK.cells {rv:Value} {z:Am} (h:GK w o Z pz ps rv z) :
  (w.cell? ⟨pz,0,none⟩=some (.int .i64 (z.id:Int))/\w.cell? ⟨pz,1,none⟩=some (.int .i64 (z.n:Int))/\w.cell? ⟨pz,2,none⟩=some (.pointer (some ⟨ps,0,none⟩))/\w.cell? ⟨pz,3,none⟩=some rv /\
   w.cell? ⟨pz,4,none⟩=some (.int .i64 (z.waited:Int))/\w.cell? ⟨pz,5,none⟩=some (.int .u64 (z.seen.toNat:Int))/\w.cell? ⟨pz,6,none⟩=some (.int .i64 (z.Ag:Int)))/\(∀ i,w.frozen? ⟨pz,i,none⟩=false)/\pz<w.heap.size:=by
 have c:=ag h.1;exact ⟨⟨c 0,c 1,c 2,c 3,c 4,c 5,c 6⟩,fun i=>Ap h.1 i,au h.1⟩
end
theorem FI {w:World} {o:Own} {D M pz ps pd:Nat} {z:Am} (h:Bc w o D M pz ps pd z):Calls prog 51 #[.pointer (some ⟨pz,0,none⟩)] w fun e w'=>e = .returned (.bool z.dead)/\w=w':=by
 obtain ⟨-,rv,hb, -,hs⟩:=h;obtain ⟨⟨-, -,c2, -⟩, -⟩:=hb.cells;have hd:=ae (KH hs);clear hb hs;go_enter func51,ntmps51;go_wp2_with fail;refine hd.out.mono ?_;rintro e w' ⟨rfl,rfl⟩;go_wp2_with fail;go_ret;exact ⟨rfl,rfl⟩
theorem eF (w:World) (a b c:Value):(Instr.field 37 (.agg #[a,b,c]) 0).run prog w = .ok a w:=by kernel_rfl
theorem He (w:World) (a b c:Value):(Instr.field 37 (.agg #[a,b,c]) 2).run prog w = .ok c w:=by kernel_rfl
theorem RS {w:World} {o:Own} {D M pz ps pd:Nat} {z:Am} (h:Bc w o D M pz ps pd z) (hsm:small z.s.kept.lines):Calls prog 249 #[.pointer (some ⟨pz,0,none⟩)] w (XL ai w o fun v _ _=>v = .int .u64 (z.s.kept.promised.toNat:Int)):=by
 obtain ⟨-,rv,hb, -,hs⟩:=h;obtain ⟨⟨-, -,c2, -⟩, -⟩:=hb.cells;have hk:=ae (DJ hs hsm);clear hb hs;go_enter func249,ntmps249;go_wp2_with fail;refine hk.out.mono ?_;rintro e w1 ⟨v,o1,rfl,hs,lv,rfl,hl,rfl⟩;obtain ⟨la,lc,rfl⟩:=hl.form;have hfk:=eF w1 (.int .u64 (z.s.kept.promised.toNat:Int)) (.int .u64 (z.s.kept.current.toNat:Int)) (.slice la z.s.kept.lines.length lc);unfold Dy;go_wp2_with fail;go_ret;exact ⟨_,_,rfl,hs,rfl⟩
section
variable (w:World) (p:Option Addr)
theorem ZI:(Instr.typeAssert (.iface 184 (.agg #[])) 138 135 true).run prog w = .ok (.tuple #[.pointer none, .bool false]) w:=by kernel_rfl
theorem ZG:(Instr.typeAssert (.iface 201 (.pointer p)) 138 135 true).run prog w = .ok (.tuple #[.pointer none, .bool false]) w:=by kernel_rfl
theorem ZH:(Instr.typeAssert (.iface 135 (.pointer p)) 138 135 true).run prog w = .ok (.tuple #[.pointer p, .bool true]) w:=by kernel_rfl
theorem gV:(Instr.typeAssert (.iface 184 (.agg #[])) 138 201 true).run prog w = .ok (.tuple #[.pointer none, .bool false]) w:=by kernel_rfl
theorem gQ:(Instr.typeAssert (.iface 201 (.pointer p)) 138 201 true).run prog w = .ok (.tuple #[.pointer p, .bool true]) w:=by kernel_rfl
theorem gU:(Instr.typeAssert (.iface 135 (.pointer p)) 138 201 true).run prog w = .ok (.tuple #[.pointer none, .bool false]) w:=by kernel_rfl
end
theorem RF {w:World} {o:Own} {D M pz ps pd:Nat} {z:Am} (h:Bc w o D M pz ps pd z):Calls prog 45 #[.pointer (some ⟨pz,0,none⟩)] w fun e w'=>e = .returned (.bool z.BN.OD)/\w=w':=by
 obtain ⟨-,rv,hb,hr, -⟩:=h;obtain ⟨⟨-, -, -,c3, -⟩, -⟩:=hb.cells;clear hb;have hL:z.BN.OD=(match z.BB with | .leads _ _ _ r=>r | _=>false):=rfl
 cases hrr:z.BB with
 | follows =>
  rw [hrr] at hr hL;obtain rfl:rv = .iface 184 (.agg #[]):=hr;have hta:=ZI w;have hLH:=ae hL;clear hrr hL;go_enter func45,ntmps45;go_wp2_with fail;go_ret;exact ⟨by rw [hLH.out];rfl,rfl⟩
 | stands mine has =>
  rw [hrr] at hr hL;obtain ⟨p,rfl, -⟩:=hr;have hta:=ZG w (some ⟨p,0,none⟩);have hLH:=ae hL;clear hrr hL;go_enter func45,ntmps45;go_wp2_with fail;go_ret;exact ⟨by rw [hLH.out];rfl,rfl⟩
 | leads mine nR base ready =>
  rw [hrr] at hr hL;obtain ⟨p,rfl,b,cap,hp, -⟩:=hr;have hta:=ZH w (some ⟨p,0,none⟩);have hLH:=ae hL;have cp:=ag hp 3;simp only [ay,ax] at cp;clear hrr hL hp;go_enter func45,ntmps45;go_wp2_with fail;go_ret;exact ⟨by rw [hLH.out];rfl,rfl⟩
abbrev Ent:=Nat × BitVec 64 × Value
theorem Nc:∀ (es:List Ent) (j:Nat),(Bd j es).length=es.length
 | [],_=>rfl
 | _ :: r,j=>by simp [Bd,Nc r (j+1)]
theorem OB:∀ (a b:List Ent) (j:Nat),Bd j (a++b)=Bd j a++Bd (j+a.length) b
 | [],_,_=>by simp [Bd]
 | _ :: r,b,j=>by simp [Bd,OB r b (j+1),Nat.add_assoc,Nat.add_comm 1]
theorem Qj:∀ (es:List Ent) (j:Nat) (e:MapEntry),e ∈ Bd j es->∃ x ∈ es,e.key = .int .i64 (x.1:Int)/\j<=e.born/\e.born<j+es.length
 | [],_,_,h=>by simp [Bd] at h
 | x :: r,j,e,h=>by
  simp only [Bd,List.mem_cons] at h;rcases h with rfl | h
  ·exact ⟨x,by simp,rfl,Nat.le_refl _,by simp⟩
  ·obtain ⟨y,hy,h1,h2,h3⟩:=Qj r (j+1) e h;exact ⟨y,by simp [hy],h1,by omega,by simp;omega⟩
theorem TV (k:Int):∀ (es:List Ent) (j i:Nat),(∀ x ∈ es,(x.1:Int) ≠ k)->Instr.findNow (.int .i64) (.int .i64 k) (Bd j es) i=some none
 | [],_,_,_=>rfl
 | x :: r,j,i,h=>by
  have h1:=h x (by simp);have hb:(k == (x.1:Int))=false:=by simp;omega
  simp only [Bd,Instr.findNow,Instr.sameNow,if_true,hb];exact TV k r (j+1) (i+1) (fun y hy=>h y (by simp [hy]))
theorem Qh {x:Ent}:∀ (es:List Ent) (j i:Nat),(es.map (·.1)).Nodup->x ∈ es->∃ i',Instr.findNow (.int .i64) (.int .i64 (x.1:Int)) (Bd j es) i=some (some (i',PH x.2.1 x.2.2))
 | [],_,_,_,h=>by simp at h
 | y :: r,j,i,hn,h=>by
  simp only [List.map_cons,List.nodup_cons] at hn
  rcases List.mem_cons.1 h with rfl | h
  ·refine ⟨i, ?_⟩;simp [Bd,Instr.findNow,Instr.sameNow]
  ·have hne:¬ x.1=y.1:=fun e=>hn.1 (List.mem_map.2 ⟨x,h,e⟩);have hb:((x.1:Int) == (y.1:Int))=false:=by simp;omega
   simp only [Bd,Instr.findNow,Instr.sameNow,if_true,hb];exact Qh r (j+1) (i+1) hn.2 h
section
variable {w:World} {mb c:Nat} {es:List Ent}
theorem MF (k:Int) (e:Bool):(Instr.checkKey e 10000 3 (.int .i64 k)).run prog w = .ok () w:=by
 unfold Instr.checkKey;simp [run_underlying underlying3]
theorem YB:(zeroValue 203).run prog w = .ok (.agg #[.int .u64 0, .slice none 0 0]) w:=by kernel_rfl
theorem SL (hb:w.heap[mb]?=some (.map (Bd 0 es).toArray c)) (hn:(es.map (·.1)).Nodup) {x:Ent} (hx:x ∈ es) :
  (Instr.lookup 204 (.map (some mb)) (.int .i64 (x.1:Int)) false).run prog w = .ok (PH x.2.1 x.2.2) w:=by
 obtain ⟨i,hi⟩:=Qh es 0 0 hn hx;simp only [Instr.lookup,Sem.run_bind,run_underlying underlying204,Result.andThen_ok,MapKept.run_getObj_map hb,Sem.run_pure,Instr.findKey,run_underlying underlying3,MF,hi];simp
theorem SK (hb:w.heap[mb]?=some (.map (Bd 0 es).toArray c)) (hn:(es.map (·.1)).Nodup) {x:Ent} (hx:x ∈ es) :
  (Instr.lookup 204 (.map (some mb)) (.int .i64 (x.1:Int)) true).run prog w = .ok (.tuple #[PH x.2.1 x.2.2, .bool true]) w:=by
 obtain ⟨i,hi⟩:=Qh es 0 0 hn hx;simp only [Instr.lookup,Sem.run_bind,run_underlying underlying204,Result.andThen_ok,MapKept.run_getObj_map hb,Sem.run_pure,Instr.findKey,run_underlying underlying3,MF,hi];simp
theorem UE (hb:w.heap[mb]?=some (.map (Bd 0 es).toArray c)) {k:Nat} (hk:∀ x ∈ es,x.1 ≠ k) :
  (Instr.lookup 204 (.map (some mb)) (.int .i64 (k:Int)) true).run prog w = .ok (.tuple #[.agg #[.int .u64 0, .slice none 0 0], .bool false]) w:=by
 have hi:=TV (k:Int) es 0 0 (fun x hx=>by have:=hk x hx;omega);simp only [Instr.lookup,Sem.run_bind,run_underlying underlying204,Result.andThen_ok,MapKept.run_getObj_map hb,Sem.run_pure,Instr.findKey,run_underlying underlying3,MF,hi,YB];simp
def DR (w:World) (b:Nat) (o:Obj):World:={ w with heap:=w.heap.setIfInBounds b o }
theorem Md (hb:w.heap[mb]?=some (.map (Bd 0 es).toArray es.length)) {k:Nat} (hk:∀ x ∈ es,x.1 ≠ k) (cu:BitVec 64) (lv:Value) :
  (Instr.mapUpdate 204 (.map (some mb)) (.int .i64 (k:Int)) (PH cu lv)).run prog w = .ok () (DR w mb (.map (Bd 0 (es++[(k,cu,lv)])).toArray (es++[(k,cu,lv)]).length)):=by
 have hi:=TV (k:Int) es 0 0 (fun x hx=>by have:=hk x hx;omega);have he:(Bd 0 (es++[(k,cu,lv)])).toArray=(Bd 0 es).toArray.push ⟨.int .i64 (k:Int),PH cu lv,es.length⟩:=by
  rw [OB];simp [Bd]
 rw [he,List.length_append,List.length_singleton];simp only [Instr.mapUpdate,Sem.run_bind,run_underlying underlying204,Result.andThen_ok,MapKept.run_getObj_map hb,Sem.run_pure,Instr.findKey,run_underlying underlying3,MF,hi,MapKept.run_setObj_map _ hb];rfl
theorem aj.DR {T:Nat->Prop} {w w1:World} {o o1:Own} (h:aj T w o w1 o1) (b:Nat) (ob:Obj) (ha:T (o1 b).1 \/ w.heap.size<=b):aj T w o (DR w1 b ob) o1:=by
 refine ⟨h.os,h.tape,h.output,by simpa [Go.Proofs.YtffkdillijmamaaGreat.DR] using h.size,h.own,fun k hk hT => ?_⟩;rw [<-h.block k hk hT];have hne:b ≠ k:=by
  rintro rfl
  rcases ha with ha | ha
  ·rw [h.own _ hk] at ha;exact hT ha
  ·omega
 simp [Go.Proofs.YtffkdillijmamaaGreat.DR,hne]
theorem Ot {ob:Obj} (hb:mb<w.heap.size):(DR w mb ob).heap[mb]?=some ob:=by simp [DR,hb]
theorem JS {ob:Obj} {k:Nat} (h:mb ≠ k):(DR w mb ob).heap[k]?=w.heap[k]?:=by simp [DR,h]
@[simp] theorem bZ {ob:Obj}:(DR w mb ob).heap.size=w.heap.size:=by simp [DR]
end
theorem fC (m:Nat):AnyZI.SortsIn prog Tryz.Og Fence.wide m:=
 ⟨fun blk off cap ss W hH hblk hsz=>callsIn_wide.2 (AnyM.slices_Sort_int Tryz.Uy blk off cap ss W hH hblk hsz),
  fun p cap W=>callsIn_wide.2 (AnyM.slices_Sort_int_none Tryz.Uy p cap W)⟩
theorem aS (mb:Nat) (w:World):Calls prog 195 #[.map (some mb)] w fun e w'=>e = .returned (.func (.func 245) #[] #[.pointer (some ⟨w.heap.size,0,none⟩)])/\w'=w.alloc (.cells #[.map (some mb)] 204):=
 callsIn_wide.1 (AnyZI.keys_in Tryz.keysL Fence.wide 5 trivial rfl (some mb) w)
abbrev RU:Value->Option (DataW Unit × List MemPlace):=fun _=>some (.nil,[])
theorem aT (k:Nat) (hk:k<=1000):keyOf prog 3 (.int .i64 (k:Int))=some (.int .i64 (k:Int)):=
 Go.Maps.keyOf_int_mk underlying3 (by
  have h1:IntKind.i64.min = -9223372036854775808:=by decide
  have h2:IntKind.i64.max=9223372036854775807:=by decide
  simp only [Lit.wf,h1,h2,Bool.and_eq_true,decide_eq_true_eq];omega)
theorem XR:∀ (es:List Ent) (j:Nat),(∀ x ∈ es,x.1<=1000)->((Bd j es).map (Go.WideElems.rg prog 3 RU)).map (fun p=>Go.intOf p.1)=es.map fun x=>(x.1:Int)
 | [],_,_=>rfl
 | x :: r,j,h=>by
  have hr:=Go.WideElems.rg_of (Go.WideElems.rd_mk (P:=prog) (k:=3) (R:=RU) (born:=j) (val:=PH x.2.1 x.2.2) (aT x.1 (h x (by simp))) (rfl:RU _=some (.nil,[])));simp only [Bd,List.map_cons,hr,XR r (j+1) (fun y hy=>h y (by simp [hy]))];rfl
theorem bJ {es:List Ent} (hn:(es.map (·.1)).Nodup) (hs:∀ x ∈ es,x.1<=1000) (hl:es.length<=1000):Go.WideElems.Fit prog 3 RU (Bd 0 es).toArray es.length:=by
 refine ⟨by rw [List.size_toArray,Nc];unfold maxLen;omega,⟨fun e he => ?_, ?_, ?_⟩,fun e he => ?_⟩
 ·obtain ⟨x, -, -, -,h⟩:=Qj es 0 e (by simpa using he);omega
 ·have key:∀ (es:List Ent) (j:Nat),((Bd j es).map (·.born))=List.range' j es.length:=by
   intro es
   induction es with
   | nil=>intro j;rfl
   | cons x r ih=>intro j;simp [Bd,ih (j+1),List.range'_succ]
  simp only [key];exact List.nodup_range'
 ·have key:∀ (es:List Ent) (j:Nat),((Bd j es).map (·.key))=es.map fun x=>Value.int .i64 (x.1:Int):=by
   intro es
   induction es with
   | nil=>intro j;rfl
   | cons x r ih=>intro j;simp [Bd,ih (j+1)]
  simp only [key];rw [show (es.map fun x=>Value.int .i64 (x.1:Int))=(es.map (·.1)).map (fun n:Nat=>Value.int .i64 (n:Int)) by simp];exact List.Pairwise.map _ (fun a b hab h=>hab (by simp only [Value.int.injEq,true_and] at h;omega)) hn
 ·obtain ⟨x,hx,hk, -, -⟩:=Qj es 0 e (by simpa using he);obtain ⟨ek,ev,eb⟩:=e;simp only at hk;subst hk;exact ⟨_,Go.WideElems.rd_mk (aT x.1 (hs x hx)) rfl⟩
theorem WM {w:World} {o:Own} {mb B:Nat} {es:List Ent} (hb:w.heap[mb]?=some (.map (Bd 0 es).toArray es.length)) (hB:w.heap[B]?=some (.cells #[.map (some mb)] 204 (0,0)))
  (hn:(es.map (·.1)).Nodup) (hs:∀ x ∈ es,x.1<=1000) (hl:es.length<=1000) :
  Calls prog 194 #[.func (.func 245) #[] #[.pointer (some ⟨B,0,none⟩)]] w
   (XL ai w o fun v w' o'=>∃ q:List Nat,q.Perm (es.map (·.1))/\q.Pairwise (· <= ·)/\sH w' o' v q.length (q.map fun n:Nat=>Value.int .i64 (n:Int))):=by
 have hF:=bJ hn hs hl;obtain ⟨D0,hD⟩:∃ D0:DataW Unit,D0 = .map (((Bd 0 es).toArray.toList.map (Go.WideElems.rg prog 3 RU)).foldr DataW.insert []):=⟨_,rfl⟩;have hperm:(intKeys D0).Perm (es.map fun x=>(x.1:Int)):=by
  rw [hD, <-XR es 0 hs];exact (Go.WideShapes.sorted_perm _).map _
 have hsize:Maps.size D0<=1000:=by
  have:=hperm.length_eq;rw [List.length_map] at this;have h2:Maps.size D0=(intKeys D0).length:=by rw [hD];simp [Maps.size,intKeys]
  omega
 have hown:w.ownsMap prog 3 RU mb es.length D0:=⟨_,_,hb,hF,by rw [List.size_toArray,Nc];exact Nat.le_refl _,hD⟩;have hseq:SeqGives Fence.wide 2 prog 245 #[.pointer (some ⟨B,0,none⟩)] encZ (fun ss=>ss.Perm (intKeys D0)) (Maps.size D0) w:=
  AnyZI.keys_gives (ρ:=Tryz.keysL_ren) { Tryz.keysL with } Fence.wide _ trivial rfl (by omega) B mb es.length D0 w (au hB) (by rw [World.cell?,hB];rfl) hown
 have cS:=AnyZI.sorted_in Tryz.dE Fence.wide 5 trivial trivial trivial trivial rfl (by omega) (fC _) (enters_of func244 (by kernel_rfl) rfl) 245 #[.pointer (some ⟨B,0,none⟩)] trivial (enters_of func245 (by kernel_rfl) rfl) _ (Maps.size D0) (by unfold maxLen;omega) (by omega) w hseq;have cS:=callsIn_wide.1 cS
 change Calls prog 194 _ _ _ at cS
 refine cS.mono ?_;rintro e w' ⟨v,ss,rfl,hS,hrow,hnil,hbel⟩;obtain ⟨S,hSS⟩:∃ S,ss.mergeSort (fun x y=>decide (x<=y))=S:=⟨_,rfl⟩;have hp1:S.Perm (es.map fun x=>(x.1:Int)):=by
  rw [<-hSS];exact ((List.mergeSort_perm ss _).trans hS).trans hperm
 have hsort:S.Pairwise (· <= ·):=by
  have:=List.pairwise_mergeSort (le:=fun x y:Int=>decide (x<=y)) (by intro a b c h1 h2;simp only [decide_eq_true_eq] at *;omega) (by intro a b;simp only [Bool.or_eq_true,decide_eq_true_eq];omega) ss;rw [hSS] at this;exact this.imp (by intro a b h;simpa using h)
 have hpos:∀ x ∈ S,(0:Int)<=x:=fun x hx=>by
  obtain ⟨y, -,rfl⟩:=List.mem_map.1 (hp1.mem_iff.1 hx);omega
 have hback:(S.map Int.toNat).map (fun n:Nat=>Value.int .i64 (n:Int))=S.map encZ:=by
  rw [List.map_map];refine List.map_congr_left fun x hx => ?_;have:=hpos x hx;show Value.int .i64 ((x.toNat:Nat):Int)=_;rw [Int.toNat_of_nonneg this]
 have hst:aj ai w o w' (ext w o):=⟨hbel.os,hbel.tape,hbel.output,hbel.size,fun k hk=>if_pos hk,fun k hk _=>hbel.block k hk⟩;have hlen:S.length=ss.length:=by rw [<-hSS,List.length_mergeSort]
 refine ⟨v,ext w o,rfl,hst,S.map Int.toNat, ?_, ?_, ?_⟩
 ·have h2:=hp1.map Int.toNat;rw [List.map_map] at h2;have e:(es.map (Int.toNat ∘ fun x=>(x.1:Int)))=es.map (·.1):=List.map_congr_left fun x _=>by simp
  rw [e] at h2;exact h2
 ·refine List.pairwise_map.2 (hsort.imp ?_);intro a b h;omega
 ·rw [hback,List.length_map,hlen];rw [hSS] at hrow
  rcases hrow.2 with ⟨rfl,h0⟩ | ⟨g,cap,cur,rfl,q1,q2,q3,q4,q5,q6⟩
  ·refine .inl ⟨⟨_,_,rfl⟩,h0, ?_⟩;rw [List.map_eq_nil_iff];exact List.eq_nil_of_length_eq_zero (by omega)
  ·by_cases h0:ss.length=0
   ·rw [h0];refine .inl ⟨⟨_,_,rfl⟩,rfl, ?_⟩;rw [List.map_eq_nil_iff];exact List.eq_nil_of_length_eq_zero (by omega)
   ·refine .inr ⟨g,0,cap,rfl,by omega,q4, ?_,(Array.getElem?_eq_some_iff.1 q2).1, ?_⟩
    ·show (ext w o g).1=0;unfold ext;rw [if_neg (by omega)]
    ·rw [<-q6,Nat.mul_one];have h:=AV (w:=w') (b:=g) (cs:=cur.toList) (E:=_) (fr:=(0,0)) (by simpa using q2);have h2:=ER h 0 ss.length
     simpa using h2
section
variable {w:World} {o:Own} {D M pz ps pd:Nat} {z:Am}
theorem PM (h:Bc w o D M pz ps pd z) (h1:1<=z.n) (h3:z.n<=3) (src:Nat) (e:BitVec 64) :
  Calls prog 209 #[.pointer (some ⟨pz,0,none⟩), .int .i64 (src:Int), .int .u64 (e.toNat:Int)] w fun r w'=>r = .returned (.bool (z.BN.owns src e))/\w=w':=by
 obtain ⟨-,rv,hb, -, -⟩:=h;obtain ⟨⟨-,c1, -⟩, -⟩:=hb.cells;have ho:=ae (Rx e.toNat e.isLt (e.toNat:Int) rfl z.n h1 h3 w);have hu:z.BN.owns src e=decide (((e.toNat % z.n:Nat):Int)=(src:Int)):=by
  show (e.toNat % z.n == src)=_;generalize e.toNat % z.n=q
  by_cases h:q=src
  ·rw [h];simp
  ·have:¬ ((q:Nat):Int)=(src:Int):=by omega
   rw [decide_eq_false this]
   simpa using h
 have huH:=ae hu;clear hb hu;go_enter func209,ntmps209;go_wp2_with fail;refine ho.out.mono ?_;rintro e' w' ⟨rfl,rfl⟩;obtain ⟨q,hq⟩:∃ q:Nat,e.toNat % z.n=q:=⟨_,rfl⟩;rw [hq] at huH ⊢;go_wp2_with fail;go_ret;exact ⟨by rw [huH.out];rfl,rfl⟩
end
def GV (w:World) (o:Own) (D M pz ps pd p:Nat) (z:Am) (mine:BitVec 64) (nR:List Int) (base:Nat) (ready:Bool):Prop:=
 (D<=M/\D ≠ 0)/\GK w o (M+4) pz ps (.iface 135 (.pointer (some ⟨p,0,none⟩))) z/\Nw w o (M+4) p mine nR base ready/\Bi w o (M+1) (M+2) (M+3) D ps pd 0 z.s
theorem GV.node {w:World} {o:Own} {D M pz ps pd p:Nat} {z:Am} {mine:BitVec 64} {nR:List Int} {base:Nat} {ready:Bool} (h:GV w o D M pz ps pd p z mine nR base ready) (hr:z.BB = .leads mine nR base ready):Bc w o D M pz ps pd z:=
 ⟨h.1,_,h.2.1,by rw [hr];exact ⟨p,rfl,h.2.2.1⟩,h.2.2.2⟩
theorem Bc.leads {w:World} {o:Own} {D M pz ps pd:Nat} {z:Am} {mine:BitVec 64} {nR:List Int} {base:Nat} {ready:Bool} (h:Bc w o D M pz ps pd z) (hr:z.BB = .leads mine nR base ready):∃ p,GV w o D M pz ps pd p z mine nR base ready:=by
 obtain ⟨h1,rv,h2,h3,h4⟩:=h;rw [hr] at h3;obtain ⟨p,rfl,h3⟩:=h3;exact ⟨p,h1,h2,h3,h4⟩
theorem GV.step {T:Nat->Prop} {w w':World} {o o':Own} {D M pz ps pd p:Nat} {z:Am} {mine:BitVec 64} {nR:List Int} {base:Nat} {ready:Bool} (h:GV w o D M pz ps pd p z mine nR base ready) (s:aj T w o w' o') (hT:∀ t,T t->t ≠ 0/\¬ KC D M t):GV w' o' D M pz ps pd p z mine nR base ready:=by
 obtain ⟨h1,h2,h3,h4⟩:=h;have hZ:¬ T (M+4):=fun h=>(hT _ h).2 KC.own;exact ⟨h1,h2.step s hZ,h3.step s hZ,h4.step s fun t ht=>⟨(hT t ht).1,fun h=>(hT t ht).2 (KC.in4 t h)⟩⟩
theorem XP (l:List Int) (i:Nat) (x:Int):(ivs l).set i (.int .i64 x)=ivs (l.set i x):=by simp [ivs]
def fG (mine:BitVec 64) (b n cap base:Nat) (ready:Bool):List Value:=[.int .u64 (mine.toNat:Int), .slice (some ⟨b,0,none⟩) n cap, .int .i64 (base:Int), .bool ready]
def countOf (z:Am) (nR:List Int) (base:Nat):Am:=if (base:Int)<=CW nR then { z with Ag:=max z.Ag (CW nR).toNat } else z
theorem count_any {w:World} {o:Own} {D M pz ps pd p:Nat} {z:Am} {mine:BitVec 64} {nR:List Int} {base:Nat} {ready:Bool} (h:GV w o D M pz ps pd p z mine nR base ready) (hsm:small z.s.kept.lines) (hkl:z.s.kept.lines.length<=256)
  (h1:1<=nR.length) (h3:nR.length<=3) (hid:z.id<nR.length) (hmb:∀ x ∈ nR, -1<=x/\x<=256) (hco:z.Ag<=256) :
  Calls prog 93 #[.pointer (some ⟨pz,0,none⟩), .pointer (some ⟨p,0,none⟩)] w (XL (ak (M+4)) w o fun v w' o'=>v = .tuple #[]/\∃ r,(z.count mine nR base ready).BB = .leads mine (nR.set z.id z.s.kept.lines.length) base r/\GV w' o' D M pz ps pd p (z.count mine nR base ready) mine (nR.set z.id z.s.kept.lines.length) base r):=by
 obtain ⟨ML,hb,hl,hs⟩:=h;obtain ⟨b,cap,hp,hpo,hr,hro,hcl,hcm⟩:=hl;obtain ⟨L,hL⟩:∃ L,z.s.kept.lines.length=L:=⟨_,rfl⟩;obtain ⟨n,hn⟩:∃ n,nR.length=n:=⟨_,rfl⟩;have hdr:aj ai w o w.drew o:=(aj.refl ai w o).drew;have hkp:=ae (DJ (hs.step0 hdr) hsm);have hb1:=hb.step hdr id;obtain ⟨⟨c0, -,c2, -⟩, -⟩:=hb1.cells;have hpd:w.drew.heap[p]?=_:=hp;have cl1:=ag hpd 1;simp only [ay,ax] at cl1;have hS:=aI c0 (aI c2 cl1);have idI:(0:Int)<=(z.id:Int)/\(z.id:Int)<(n:Int):=by omega
 have idN:z.id<n:=by omega
 have hH:=ae (aI hb (aI hs (aI hp (aI hpo (aI hr hro)))));have hA:=ae (aI ML (aI hcl hcm));have hB:=ae (aI hmb (aI hco (aI hkl (aI h1 h3))));have hnH:=ae hn;have hLH:=ae hL;rw [hn] at hS;clear ML hb hs hp hpo hr hro hcl hcm hb1 c0 c2 hpd cl1 hmb hco hkl h1 h3 hn hL hsm hid;go_enter func93,ntmps93;go_wp2_with fail;refine Aa (fun w'=>w'.cell? ⟨pz,0,none⟩=some (.int .i64 (z.id:Int))/\w'.cell? ⟨pz,2,none⟩=some (.pointer (some ⟨ps,0,none⟩))/\w'.cell? ⟨p,1,none⟩=some (.slice (some ⟨b,0,none⟩) n cap)) (fun i=>decide (i<16)) (by kernel_rfl) hS (fun hHeld => ?_);refine tq 0 (h:=tq 1 (h:=tq 2 (h:=tq 3 (h:=tq 4 (h:=tq 5 (h:=tq 6 (h:=tq 7 (h:=tq 8 (h:=tq 9 (h:=tq 10 (h:=tq 11 (h:=tO 12 (h:=?_)))))))))))));go_wp2_with fail;refine hkp.out.mono ?_;rintro e w1 ⟨v1,o1,rfl,hs1,lv,rfl,hlv,rfl⟩;have hs1:=hdr.trans hs1;obtain ⟨hb,hs,hp,hpo,hr,hro⟩:=hH.out;obtain ⟨⟨d0, -,d2, -⟩, -⟩:=(hb.step hs1 id).cells;have hp1:=(hs1.block p (au hp) id).trans hp;have hr1:=(hs1.block b (au hr) id).trans hr;have e1:=ag hp1 1;simp only [ay,ax] at e1;rw [hnH.out] at e1;have hS1:=aI d0 (aI d2 e1);have hfr:=Ap hr1 z.id;have hce:w1.cell? ⟨b,z.id,none⟩=some (.int .i64 (nR.getD z.id 0)):=by
  rw [ag hr1];have hlt:z.id<nR.length:=by rw [hnH.out];exact idN
  simp [ivs,List.getD_eq_getElem?_getD,List.getElem?_eq_getElem hlt]
 obtain ⟨la,lc,rfl⟩:=hlv.form;rw [hLH.out];have hfk:=fun W=>He W (.int .u64 (z.s.kept.promised.toNat:Int)) (.int .u64 (z.s.kept.current.toNat:Int)) (.slice la L lc);have qJ:=ae hs1;clear hs1 hlv d0 d2 e1 hHeld hb hs hp hpo hr hro hp1 hr1;unfold Dy;go_wp2_with fail;refine ⟨fun _=>hS1, ?_⟩;refine tq 13 (h:=tq 14 (h:=tq 15 (h:=tO 16 (h:=?_))));go_wp2_with fail;refine ⟨fun h=>by simp at h, ?_⟩;refine tD (h:=?_);have hs1:=qJ.out;obtain ⟨hb,hs,hp,hpo,hr,hro⟩:=hH.out;have hp1:=(hs1.block p (au hp) id).trans hp;have hr1:=(hs1.block b (au hr) id).trans hr;have op1:=(hs1.own p (au hp)).trans hpo;have ob1:=(hs1.own b (au hr)).trans hro;have hb1:=hb.step hs1 id;have Aty:=hs.step0 hs1;have hpb:p ≠ b:=fun h=>by rw [h,ob1] at op1;cases op1
 have hzb:pz ≠ b:=fun h=>by have:=hb1.2;rw [h,ob1] at this;cases this
 have hzp:pz ≠ p:=fun h=>by have:=hb1.2;rw [h,op1] at this;cases this
 have ML:=hA.out.1;have hs2:=(hs1.only (M+4)).setCell (a:=⟨b,z.id,none⟩) (.int .i64 (L:Int)) (.inl (by show (ext w.drew o b).1=_;rw [ob1]));have hk2:=(aj.refl (ak (M+4)) w1 (ext w.drew o)).setCell (a:=⟨b,z.id,none⟩) (.int .i64 (L:Int)) (.inl (by show (ext w.drew o b).1=_;rw [ob1]));have hr2:=Ai (i:=z.id) (.int .i64 (L:Int)) hr1;rw [XP] at hr2;have hp2:=(Below.heap_setCell w1 ⟨b,z.id,none⟩ (.int .i64 (L:Int)) p hpb).trans hp1;have hb2:GK (w1.setCell ⟨b,z.id,none⟩ (.int .i64 (L:Int))) (ext w.drew o) (M+4) pz ps (.iface 135 (.pointer (some ⟨p,0,none⟩))) z:=⟨(Below.heap_setCell w1 ⟨b,z.id,none⟩ (.int .i64 (L:Int)) pz hzb).trans hb1.1,hb1.2⟩;have Ahb:=Aty.step hk2 (KC.self ML.1);obtain ⟨W2,hW2⟩:∃ W2,w1.setCell ⟨b,z.id,none⟩ (.int .i64 (L:Int))=W2:=⟨_,rfl⟩;rw [hW2] at hs2 hr2 hp2 hb2 Ahb ⊢;have hml:(nR.set z.id (L:Int)).length=n:=by rw [List.length_set];exact hnH.out
 have hcm:=VZ (w:=W2) (o:=ext w.drew o) (cap:=cap) (AV hr2) (by rw [hml];have:=hB.out.2.2.2;have:=hnH.out;omega) (by rw [hml];have:=hB.out.2.2.2;have:=hnH.out;omega);rw [hml] at hcm;have AdS:=ae hcm;have e1:=ag hp2 1;simp only [ay,ax] at e1;rw [hnH.out] at e1;have hlc:CW (nR.set z.id (L:Int))<=256:=by
  refine Qo (fun y hy => ?_) (by omega)
  rcases List.mem_or_eq_of_mem_set hy with h | h
  ·exact (hB.out.1 y h).2
  ·rw [h];have:=hB.out.2.2.1;have:=hLH.out;omega
 have hcnt:z.count mine nR base ready=if (base:Int)<=CW (nR.set z.id (L:Int)) then { z with BB := .leads mine (nR.set z.id (L:Int)) base true,Ag:=max z.Ag (CW (nR.set z.id (L:Int))).toNat } else { z with BB := .leads mine (nR.set z.id (L:Int)) base ready }:=by rw [<-hLH.out];rfl
 obtain ⟨m2,hm2⟩:∃ m2,nR.set z.id (L:Int)=m2:=⟨_,rfl⟩;rw [hm2] at AdS hlc hr2 hml hcnt;have Aey:=ae hcnt;have AnS:=ae hm2;have Amn:(0:Int)<=(z.Ag:Int)/\(z.Ag:Int)<=256:=by have:=hB.out.2.1;omega
 have hX:=ae (aI hs2 (aI hr2 (aI hp2 (aI hb2 (aI Ahb (aI op1 ob1))))));have AnP:=ae hml;have hne:=ae (aI hpb (aI hzb hzp));obtain ⟨C,hC⟩:∃ C,CW m2=C:=⟨_,rfl⟩;rw [hC] at AdS hlc Aey;clear hs1 qJ hb hs hp hpo hr hro hp1 hr1 op1 ob1 hb1 Aty hpb hzb hzp hs2 hk2 hr2 hp2 hb2 Ahb hW2 hml hcm hcnt hS1 hfr hce hfk
 by_cases hcmp:(base:Int)<=C
 ·rw [if_pos hcmp] at Aey;go_wp2_with fail;refine AdS.out.mono ?_;rintro e w3 ⟨v3,o3,rfl,hs3,rfl⟩;obtain ⟨hs2,hr2,hp2,hb2,Ahb,op2,ob2⟩:=hX.out;have hp3:=(hs3.block p (au hp2) id).trans hp2;have hr3:=(hs3.block b (au hr2) id).trans hr2;have op3:=(hs3.own p (au hp2)).trans op2;have ob3:=(hs3.own b (au hr2)).trans ob2;have hb3:=hb2.step hs3 id;have Alu:=Ahb.step0 hs3;have st3:=hs2.trans (hs3.only (M+4));have e2:=ag hp3 2;simp only [ay,ax] at e2;have f3:=Ap hp3 3;have e3:=ag hp3 3;simp only [ay,ax] at e3;obtain ⟨⟨-, -, -, -, -, -,c6⟩,hfr, -⟩:=hb3.cells;have f6:=hfr 6;obtain ⟨cn,rfl⟩:∃ cn:Nat,C=(cn:Int):=⟨C.toNat,by omega⟩;have hmx:max (z.Ag:Int) (cn:Int)=((max z.Ag cn:Nat):Int):=by omega
  have hnI:(0:Int)<=(cn:Int)/\(cn:Int)<=256:=by omega
  have st4:=(st3.setCell (a:=⟨p,3,none⟩) (.bool true) (.inl (by show (o3 p).1=_;rw [op3]))).setCell (a:=⟨pz,6,none⟩) (.int .i64 ((max z.Ag cn:Nat):Int)) (.inl (by show (o3 pz).1=_;rw [hb3.2]));have k4:=((aj.refl (ak (M+4)) w3 o3).setCell (a:=⟨p,3,none⟩) (.bool true) (.inl (by show (o3 p).1=_;rw [op3]))).setCell (a:=⟨pz,6,none⟩) (.int .i64 ((max z.Ag cn:Nat):Int)) (.inl (by show (o3 pz).1=_;rw [hb3.2]));have hp4:=(Below.heap_setCell (w3.setCell ⟨p,3,none⟩ (.bool true)) ⟨pz,6,none⟩ (.int .i64 ((max z.Ag cn:Nat):Int)) p (fun h=>hne.out.2.2 h.symm)).trans (Ai (i:=3) (.bool true) hp3);have hr4:=(Below.heap_setCell (w3.setCell ⟨p,3,none⟩ (.bool true)) ⟨pz,6,none⟩ (.int .i64 ((max z.Ag cn:Nat):Int)) b (fun h=>hne.out.2.1 h.symm)).trans ((Below.heap_setCell w3 ⟨p,3,none⟩ (.bool true) b (fun h=>hne.out.1 h.symm)).trans hr3);have hb4:=Ai (i:=6) (.int .i64 ((max z.Ag cn:Nat):Int)) ((Below.heap_setCell w3 ⟨p,3,none⟩ (.bool true) pz hne.out.2.2).trans hb3.1);have hF:=ae (aI st4 (show GV _ o3 D M pz ps pd p { z with BB := .leads mine m2 base true,Ag:=max z.Ag (cn:Int).toNat } mine m2 base true from
   ⟨hA.out.1,⟨hb4,hb3.2⟩,⟨b,cap,by rw [AnP.out, <-hnH.out];exact hp4,op3,hr4,ob3,by rw [AnP.out, <-hnH.out];exact hA.out.2.1,hA.out.2.2⟩,Alu.step k4 (KC.self hA.out.1.1)⟩))
  clear hs2 hr2 hp2 hb2 Ahb op2 ob2 hs3 hp3 hr3 op3 ob3 hb3 Alu st3 st4 k4 hp4 hr4 hb4 hfr AdS hX;go_wp2_with fail
  go_end0
  refine ⟨_,o3,rfl,hF.out.1,rfl,true, ?_, ?_⟩
  ·rw [hLH.out,Aey.out,AnS.out]
  ·rw [hLH.out,Aey.out,AnS.out];exact hF.out.2
 ·rw [if_neg hcmp] at Aey;go_wp2_with fail;refine AdS.out.mono ?_;rintro e w3 ⟨v3,o3,rfl,hs3,rfl⟩;obtain ⟨hs2,hr2,hp2,hb2,Ahb,op2,ob2⟩:=hX.out;have hp3:=(hs3.block p (au hp2) id).trans hp2;have hr3:=(hs3.block b (au hr2) id).trans hr2;have op3:=(hs3.own p (au hp2)).trans op2;have ob3:=(hs3.own b (au hr2)).trans ob2;have hb3:=hb2.step hs3 id;have Alu:=Ahb.step0 hs3;have st3:=hs2.trans (hs3.only (M+4));have e2:=ag hp3 2;simp only [ay,ax] at e2;have hF:=ae (aI st3 (show GV w3 o3 D M pz ps pd p { z with BB := .leads mine m2 base ready } mine m2 base ready from
   ⟨hA.out.1,hb3,⟨b,cap,by rw [AnP.out, <-hnH.out];exact hp3,op3,hr3,ob3,by rw [AnP.out, <-hnH.out];exact hA.out.2.1,hA.out.2.2⟩,Alu⟩))
  clear hs2 hr2 hp2 hb2 Ahb op2 ob2 hs3 hp3 hr3 op3 ob3 hb3 Alu st3 AdS hX;go_wp2_with fail
  go_end0
  refine ⟨_,o3,rfl,hF.out.1,rfl,ready, ?_, ?_⟩
  ·rw [hLH.out,Aey.out,AnS.out]
  ·rw [hLH.out,Aey.out,AnS.out];exact hF.out.2
theorem jL {d:Af} (hd:d.dead=false) (hr:d.row=[]) (Bz:List Int):d.kill.BJ Bz={ d with left := -1 }:=by
 obtain ⟨p,r,l,dd⟩:=d;simp only at hd hr;subst hd hr;rfl
theorem Ags {d:Af} (hd:d.dead=false) (hr:d.row=[]) (Bz:List Int):d.BJ Bz={ d with left := -1 }:=by
 obtain ⟨p,r,l,dd⟩:=d;simp only at hd hr;subst hd hr;rfl
theorem Ad.Good.jH {K:Nat} {l:Ad} {d:Af} (h:Ad.Good K (l,d)) (n:Int) (hn : -1<=n/\n<=9223372036854775807):Ad.Good K (l,{ d with left:=n }):=by
 obtain ⟨h1,h2,⟨h3,h4,h5,h6⟩,h7⟩:=h;refine ⟨h1,h2,⟨h3,h4,h5, ?_⟩,h7⟩;obtain ⟨q1,q2,q3,q4,q5,q6⟩:=h6;exact ⟨q1,q2,q3,q4,hn.1,hn.2⟩
theorem SG.jH {K H:Nat} {s:AZ} (h:SG K H s) (n:Int) (hn : -1<=n/\n<=9223372036854775807):SG K H { s with d:={ s.d with left:=n } }:=
 ⟨h.live,Ad.Good.jH h.gc n hn,Ad.Good.jH h.go n hn,h.pg,h.h4,h.VC,h.len,h.nc,h.no,h.fst,h.rc,h.ro,h.Wl⟩
theorem YG {w:World} {o:Own} {D pd K H:Nat} {t:AZ} (Mx:Nat) (hDx:D<=Mx) (hD0:D ≠ 0) (hg:SG K H t) (hK:K<65536) (hn:t.d.pages.length<=400) (hD:Bg w o D pd t.d) :
  Calls prog 90 #[.pointer (some ⟨pd,0,none⟩)] w (XL (EN Mx) w o fun v w' o'=>∃ ps,v = .tuple #[.pointer (some ⟨ps,0,none⟩), .int .i64 0]/\Bi w' o' (Mx+1) (Mx+2) (Mx+3) D ps pd 0 t):=by
 obtain ⟨g0,g1,k0,k1,h0,h1,he⟩:=hg.reopen;have hnew:=hg.newest hK;have h4:=hg.h4;have hl:=hg.len;refine (Yn (S:=Mx+1) (A:=Mx+2) (B:=Mx+3) (Y:=Mx+4) (by simp;omega) hD hg.dd (by rw [hg.row];simp) (by omega) hn hl hnew.1 hnew.2 h0 h1).mono ?_;rintro e w' ⟨v,o',rfl,hs,ps, -,rfl,hat⟩;rw [he] at hat;exact ⟨_,o',rfl,hs.mono (fun k hk=>by rcases hk with rfl | rfl | rfl <;> (show Mx<_;omega)),ps,rfl,hat.low (Nat.zero_le _)⟩

end Go.Proofs.YtffkdillijmamaaGreat
