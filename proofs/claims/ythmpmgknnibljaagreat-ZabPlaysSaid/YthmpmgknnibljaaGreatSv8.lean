/- Plain laws: what a store's acts come to, whether the power stays or goes in their midst; a store that is opened again. No program in sight. -/
import Derived.Shelf.SlSortCmp.Small
import Derived.Shelf.SlIterI.Sorted
import Derived.Shelf.SlIterI.Keys
import Derived.Shelf.SlIterI.Nil
import Derived.Shelf.SortM.Plain
import Derived.Shelf.SortM.SortNone
import Derived.Ground.SlsfProg
import Derived.Ground.GgzProg
import Derived.Ground.SlgmProg
import Derived.Ground.NamesProg
import Derived.Shelf.Small.Bits
import Derived.Shelf.Strconv.Itoa0
import Derived.Shelf.Bits.Mul64
import Derived.Ground.Names2Prog
import Derived.Shelf.Slices.Clone
import Derived.Shelf.Slices.SearchI
import Derived.Ground.SlgnProg
import Derived.Shelf.SlicesE.Clone
import Derived.Outline
import Derived.Test.YthmpmgknnibljaaGreatSv7
namespace Go.Proofs.YthmpmgknnibljaaGreat
open Go.Proofs.Tryz
set_option maxRecDepth 100000
set_option maxHeartbeats 3200000
open Go Go.RowKit
variable {B B' H K id n:Nat} {s:AZ} {e:BitVec 64} {ls:List Ar} {k:AX}
structure SG (K H:Nat) (s:AZ):Prop where
 live:s.dead = false
 gc:Ad.Good K (s.cur,s.d)
 go:Ad.Good K (s.oth,s.d)
 pg:s.pages = H
 h4:4 <= H
 VC:H <= 200
 len:s.d.pages.length / 2 = H
 nc:s.cur.n = H
 no:s.oth.n = H
 fst:(s.cur.first = 0/\s.oth.first = H) \/ (s.cur.first = H/\s.oth.first = 0/\0 < s.age.toNat)
 rc:DK s.cur.records = some (s.age,s.kept)
 ro:∃ g k,DK s.oth.records = some (g,k)/\(g.toNat < s.age.toNat \/ g = 0)
 Wl:s.age.toNat <= K
namespace SG
variable {K H:Nat} {s:AZ}
theorem dd (h:SG K H s):s.d.dead = false:=h.gc.dd
theorem row (h:SG K H s):s.d.row = []:=h.gc.row
theorem apart (h:SG K H s):s.cur.first + s.cur.n <= s.oth.first \/ s.oth.first + s.oth.n <= s.cur.first:=by
 have h1:=h.nc;have h2:=h.no
 rcases h.fst with ⟨h3,h4⟩ | ⟨h3,h4, -⟩ <;> omega
theorem mono {K':Nat} (h:SG K H s) (hK:K <= K'):SG K' H s:=
 ⟨h.live,h.gc.mono hK,h.go.mono hK,h.pg,h.h4,h.VC,h.len,h.nc,h.no,h.fst,h.rc,h.ro,Nat.le_trans h.Wl hK⟩
end SG
theorem Good.wf' {s:Ad × Af} (h:Ad.Good K s):s.2.wf:=h.fine.2.2.2
theorem Yu {e:Nat} {l:Ad} {b:List UInt8} (hn:l.n = n) (he:l.end' = e) (h1:1 <= b.length) (hr:b.length <= l.room):Ad.many b <= n - e:=by
 grind [Ad.room,Ad.many]
theorem dO {b:List UInt8} {m:Nat} (h1:1 <= m) (hr:b.length <= 480 * m):Ad.many b <= m:=by
 unfold Ad.many;omega
theorem AZ.Ul (h:SG K H s) (hK:K + 600 < 65536) (rec:List UInt8) (now:AX) (hr:Fh s.kept rec = some now) (h1:1 <= rec.length) (hs:Short now.lines) (hn:now.lines.length <= 256) :
  (∃ s',s.write rec now = (s',0)/\SG (K + 3) H s'/\s'.kept = now/\s'.d.pages.length = s.d.pages.length/\(s.d.left < 0->s'.d.left < 0)) \/
  (s.write rec now = (s,4)/\480 * (H - 1) < (IY (s.age + 1#64) now.promised now.current now.lines).length) \/
  (0 <= s.d.left/\∃ s',s.write rec now = (s',9)/\s'.dead = true/\s'.d.dead = true/\s'.kept = s.kept/\s'.pages = H/\s'.d.row.length <= 4096 /\
   ∀ Bz,∃ t,SG (K + 600) H t/\t.d = s'.d.BJ Bz/\t.d.left = -1/\t.d.pages.length = s.d.pages.length/\(t.kept = s.kept \/ t.kept = now)):=by
 have hap:=h.apart;have hnc:=h.nc;have hno:=h.no;have hH:=h.h4;have Aji:=h.fst;have AbV:(s.age + 1#64).toNat = s.age.toNat + 1:=by
  have:=h.Wl;grind
 have hall:=Td (s.age + 1#64) now.promised now.current now.lines aP hs hn;obtain ⟨AE,vP⟩:=az (IY (s.age + 1#64) now.promised now.current now.lines);rw [vP] at hall;obtain ⟨g,k,hro,hg⟩:=h.ro;unfold AZ.write;rw [vP]
 by_cases hc:0 < s.age.toNat/\rec.length <= s.cur.room
 ·rw [if_pos hc];have hm:=Yu rfl rfl h1 hc.2
  rcases Ad.Nk h.gc aP rec with ⟨hx, -⟩ | ⟨-,s',hw,hG,hrec, -,hn',hf',hO,hl⟩ | ⟨hl,s',hw, -,hd2,hrow,hn',hf',hB⟩
  grind
  ·left
   simp only [hw,ne_eq,not_true_eq_false,if_false];simp only at hrec hn' hf' hO hl;refine ⟨_,rfl,⟨h.live,hG.mono aP,(Ad.Good.oth h.go hO hG.dd hG.row (Good.wf' hG) bg).mono aP,h.pg,h.h4,h.VC, ?_,hn'.trans hnc,hno, ?_, ?_,bg,by have:=h.Wl;grind⟩,rfl,hO.1,bg⟩
   ·show s'.2.pages.length / 2 = H;rw [hO.1];exact h.len
   grind
   ·show DK s'.1.records = some (s.age,now);rw [hrec];exact Oi h.rc hc.1 hr
  ·right;right
   refine ⟨hl,{ s with cur:=s'.1,d:=s'.2,dead:=true },bg,rfl,hd2,rfl,h.pg,hrow,fun Bz => ?_⟩;have B:=hB Bz;simp only at B;have hmk:∀ kp,DK (Ad.AY s.cur.first (Ad.Aw (s'.2.BJ Bz) s.cur.first s.cur.n)).records = some (s.age,kp) ->
     SG (K + 600) H ⟨Ad.AY s.cur.first (Ad.Aw (s'.2.BJ Bz) s.cur.first s.cur.n),s.oth,s'.2.BJ Bz,H,s.age,kp,false⟩:=fun kp hkp =>
    ⟨rfl,B.good.mono aP,(Ad.Good.oth h.go B.oth B.good.dd B.good.row (Good.wf' B.good) bg).mono aP,rfl,h.h4,h.VC,
     by show (s'.2.BJ Bz).pages.length / 2 = H;rw [B.oth.1];exact h.len,(Ad.JM _ _ _).trans hnc,hno,Aji,hkp,bg,by have:=h.Wl;grind⟩
   rcases B.recs with hx | hx
   ·exact ⟨_,hmk s.kept (by rw [hx];exact h.rc),rfl,B.left,B.oth.1, .inl rfl⟩
   ·exact ⟨_,hmk now (by rw [hx];exact Oi h.rc hc.1 hr),rfl,B.left,B.oth.1, .inr rfl⟩
 ·rw [if_neg hc]
  by_cases hf:480 * (s.pages - 1) < AE.length
  ·rw [if_pos hf];exact .inr (.inl ⟨rfl,by rw [<-h.pg];omega⟩)
  ·rw [if_neg hf];rw [h.pg] at hf;have hlF:s.oth.first = 0 \/ 0 < s.age.toNat \/ (s.cur.first = 0/\s.oth.first = H):=by
    omega
   rcases Ad.UL h.go aP with ⟨s1,hw1,hG1,AoJ,Avh,hn1,hf1,hO1,hl1⟩ | ⟨hl,s',hw, -,hd2,hrow,hn',hf',hB⟩
   ·simp only at hn1 hf1 hO1 hl1;have hmm:Ad.many AE <= H - 1:=dO aP aP
    rcases Ad.Nk hG1 aP AE with ⟨hx, -⟩ | ⟨-,s',hw,hG,hrec, -,hn',hf',hO,hl⟩ | ⟨hl,s',hw, -,hd2,hrow,hn',hf',hB⟩
    omega
    ·left
     rw [hn1,hf1] at hO;have hO2:=hO1.trans hO;refine ⟨{ s with cur:=s'.1,oth:=s.cur,d:=s'.2,age:=s.age + 1#64,kept:=now }, ?_,⟨h.live,aP,(Ad.Good.oth h.gc hO2 hG.dd hG.row (Good.wf' hG) aP).mono aP,h.pg,h.h4,h.VC, ?_,(hn'.trans hn1).trans hno,hnc, ?_, ?_,⟨s.age,s.kept,h.rc, .inl bg⟩,by have:=h.Wl;grind⟩,rfl,hO2.1,fun h => ?_⟩
     grind
     ·show s'.2.pages.length / 2 = H;rw [hO2.1];exact h.len
     grind
     ·show DK s'.1.records = some (s.age + 1#64,now);rw [hrec,AoJ];exact Px hall
     grind
    ·right;right
     have hl0:0 <= s.d.left:=by
      omega
     refine ⟨hl0,{ s with oth:=s'.1,d:=s'.2,dead:=true },bg,rfl,hd2,rfl,h.pg,hrow,fun Bz => ?_⟩;have B:=hB Bz;rw [hn1,hf1,AoJ] at B;have hO2:=hO1.trans B.oth;have hcO:Ad.Good (K + 600) (s.cur,s'.2.BJ Bz):=(Ad.Good.oth h.gc hO2 B.good.dd B.good.row (Good.wf' B.good) aP).mono aP;have hlen:(s'.2.BJ Bz).pages.length / 2 = H:=by rw [hO2.1];exact h.len
     rcases B.recs with hx | hx
     ·refine ⟨⟨s.cur,Ad.AY s.oth.first (Ad.Aw (s'.2.BJ Bz) s.oth.first s.oth.n),s'.2.BJ Bz,H,s.age,s.kept,false⟩,⟨rfl,hcO,B.good.mono aP,rfl,h.h4,h.VC,hlen,hnc,(Ad.JM _ _ _).trans hno,Aji,h.rc,⟨0,⟨0,0,[]⟩,by dsimp only;rw [hx];rfl, .inr rfl⟩,by have:=h.Wl;grind⟩,rfl,B.left,hO2.1, .inl rfl⟩
     ·refine ⟨⟨Ad.AY s.oth.first (Ad.Aw (s'.2.BJ Bz) s.oth.first s.oth.n),s.cur,s'.2.BJ Bz,H,s.age + 1#64,now,false⟩,⟨rfl,B.good.mono aP,hcO,rfl,h.h4,h.VC,hlen,(Ad.JM _ _ _).trans hno,hnc, ?_,by dsimp only;rw [hx];exact Px hall,⟨s.age,s.kept,h.rc, .inl bg⟩,by have:=h.Wl;grind⟩,rfl,B.left,hO2.1, .inr rfl⟩
      show (s.oth.first = 0/\s.cur.first = H) \/ (s.oth.first = H/\s.cur.first = 0/\0 < (s.age + 1#64).toNat)
      grind
   ·right;right
    refine ⟨hl,{ s with oth:=s'.1,d:=s'.2,dead:=true },bg,rfl,hd2,rfl,h.pg,hrow,fun Bz => ?_⟩;have B:=hB Bz;simp only at B;refine ⟨⟨s.cur,Ad.AY s.oth.first (Ad.Aw (s'.2.BJ Bz) s.oth.first s.oth.n),s'.2.BJ Bz,H,s.age,s.kept,false⟩,⟨rfl,(Ad.Good.oth h.gc B.oth B.good.dd B.good.row (Good.wf' B.good) aP).mono aP,B.good.mono aP,rfl,h.h4,h.VC,by show (s'.2.BJ Bz).pages.length / 2 = H;rw [B.oth.1];exact h.len,hnc,(Ad.JM _ _ _).trans hno,Aji,h.rc, ?_,by have:=h.Wl;grind⟩,rfl,B.left,B.oth.1, .inl rfl⟩
    rcases B.recs with hx | hx
    grind
    ·exact ⟨0,⟨0,0,[]⟩,by rw [hx];rfl, .inr rfl⟩
theorem SG.reopen (h:SG K H s):∃ g0 g1 k0 k1,DK (Ad.AY 0 (Ad.Aw s.d 0 H)).records = some (g0,k0)/\DK (Ad.AY H (Ad.Aw s.d H H)).records = some (g1,k1) /\
  PO s.d H (Ad.AY 0 (Ad.Aw s.d 0 H)) (Ad.AY H (Ad.Aw s.d H H)) g0 g1 k0 k1 = s:=by
 have hc:s.cur = Ad.AY s.cur.first (Ad.Aw s.d s.cur.first s.cur.n):=h.gc.fine.1
 have ho:s.oth = Ad.AY s.oth.first (Ad.Aw s.d s.oth.first s.oth.n):=h.go.fine.1
 rw [h.nc] at hc;rw [h.no] at ho;obtain ⟨g,k,hro,hg⟩:=h.ro;have hpg:=h.pg;have hlv:=h.live;have hrc:=h.rc
 rcases h.fst with ⟨h1,h2⟩ | ⟨h1,h2,h3⟩
 ·unfold PO;obtain ⟨a,b,d,p,e,f,z⟩:=s;grind
 ·unfold PO;obtain ⟨a,b,d,p,e,f,z⟩:=s;grind
theorem SG.newest (h:SG K H s) (hK:K < 65536):Ad.newest (Ad.Aw s.d 0 H) ≠ BitVec.allOnes 64/\Ad.newest (Ad.Aw s.d H H) ≠ BitVec.allOnes 64:=by
 have hc:=h.gc.newest;have ho:=h.go.newest;have kc:=h.gc.JK;have ko:=h.go.JK;rw [h.nc] at hc;rw [h.no] at ho;rcases h.fst with ⟨h1,h2⟩ | ⟨h1,h2, -⟩
 grind
 grind
def YJ (n:Nat):AZ:=⟨Ad.raw 0 (n / 2) 0,Ad.raw (n / 2) (n / 2) 0,Af.new n,n / 2,0,⟨0,0,[]⟩,false⟩
theorem dL (h8:8 <= n) (Bgf:n <= 401):SG 0 (n / 2) (YJ n):=
 ⟨rfl,Ad.VF aP aP aP,Ad.VF aP aP aP,rfl,aP,aP,by simp [YJ,Af.new],rfl,rfl, .inl ⟨rfl,rfl⟩,rfl,⟨0,⟨0,0,[]⟩,rfl, .inr rfl⟩,by simp [YJ]⟩
def AP (ls:List Ar):Nat:=(ls.map fun x=>x.b.length).sum
theorem DV (a b:List Ar):AP (a ++ b) = AP a + AP b:=by simp [AP]
theorem Ej (ls:List Ar):(encs ls).length = 12 * ls.length + AP ls:=by
 induction ls with
 | nil=>rfl
 | cons x r ih =>
  grind [encs,Jj,AP]
structure KOk (k:AX):Prop where
 n:k.lines.length <= 256
 b:∀ x ∈ k.lines,x.b.length <= 4096
theorem Ze (h:∀ x ∈ ls,x.b.length <= 4096):AP ls <= 4096 * ls.length:=by
 induction ls with
 | nil=>simp [AP]
 | cons x r ih =>
  grind [AP]
theorem KOk.short (h:KOk k):Short k.lines:=fun x hx=>by have:=h.b x hx;omega
structure bW where
 k:Nat
 e:BitVec 64
 ls:List Ar
def AZ.act (a:bW) (s:AZ):AZ × Int:=
 if a.k % 5 = 0 then s.promise a.e else if a.k % 5 = 1 then s.FO a.e a.ls else if a.k % 5 = 4 then (s,0) else s.append a.ls
def AX.CQ (k:AX) (e:BitVec 64):AX × Int:=if k.EK e then ({ k with promised:=e },0) else (k,1)
def AX.Ee (k:AX) (e:BitVec 64) (ls:List Ar):AX × Int:=if k.Gg e ls then (⟨e,e,ls⟩,0) else (k,1)
def AX.Cm (k:AX) (ls:List Ar):AX × Int:=if k.Eu ls then ({ k with lines:=k.lines ++ ls },0) else (k,1)
def AX.next (a:bW) (k:AX):AX × Int:=
 if a.k % 5 = 0 then k.CQ a.e else if a.k % 5 = 1 then k.Ee a.e a.ls else if a.k % 5 = 4 then (k,0) else k.Cm a.ls
def bH (ls:List Ar):Nat:=64 + (16 * ls.length + AP ls)
def AX.fits (k:AX) (n:Nat):Bool:=decide (bH k.lines <= 480 * (n / 2 - 1))
theorem Wi {top:BitVec 64} (h:ls.any (badL top) = false):∀ x ∈ ls,x.b.length <= 4096:=by
 simp_all [badL]
theorem QX (h:k.Gg e ls = true):ls.length <= 256/\∀ x ∈ ls,x.b.length <= 4096:=by
 unfold AX.Gg at h;simp only [Bool.and_eq_true,decide_eq_true_eq,Bool.not_eq_true'] at h;exact ⟨h.1.2,Wi h.2⟩
theorem Ig (h:k.Eu ls = true):ls.length + k.lines.length <= 256/\∀ x ∈ ls,x.b.length <= 4096:=by
 unfold AX.Eu at h;grind [Wi]
theorem KOk.next (h:KOk k) (a:bW):KOk (k.next a).1:=by
 unfold AX.next AX.CQ AX.Ee AX.Cm;split
 ·split
  ·exact ⟨h.n,h.b⟩
  omega
 ·split
  ·split
   ·rename_i hok;have:=QX hok;exact ⟨this.1,this.2⟩
   omega
  ·split
   omega
   ·split
    ·rename_i hok;have:=Ig hok;refine ⟨?_,fun x hx => ?_⟩
     grind
     ·rcases List.mem_append.1 hx with hx | hx
      ·exact h.b x hx
      grind
    omega
theorem Vp (age p c:BitVec 64) (ls:List Ar):(IY age p c ls).length = 33 + (12 * ls.length + AP ls):=by
 grind [IY,GR,Az,Ej]
theorem Zi {age p c:BitVec 64} (hH:n / 2 = H) (h:480 * (H - 1) < (IY age p c ls).length) (hk:k.lines = ls):k.fits n = false:=by
 grind [Vp,AX.fits,bH]
theorem AZ.Zk (h:SG K H s) (hK:K + 600 < 65536) (hk:KOk s.kept) (a:bW) :
  ((s.kept.next a).2 = 1/\(s.kept.next a).1 = s.kept/\s.act a = (s,1)) \/
  ((s.kept.next a).2 = 0/\∃ s',s.act a = (s',0)/\SG (K + 3) H s'/\s'.kept = (s.kept.next a).1/\s'.d.pages.length = s.d.pages.length/\(s.d.left < 0->s'.d.left < 0)) \/
  ((s.kept.next a).2 = 0/\s.act a = (s,4)/\∀ n,n / 2 = H->(s.kept.next a).1.fits n = false) \/
  ((s.kept.next a).2 = 0/\a.k % 5 ≠ 4/\0 <= s.d.left/\∃ s',s.act a = (s',9)/\s'.dead = true/\s'.d.dead = true/\s'.kept = s.kept/\s'.pages = H/\s'.d.row.length <= 4096 /\
   ∀ Bz,∃ t,SG (K + 600) H t/\t.d = s'.d.BJ Bz/\t.d.left = -1/\t.d.pages.length = s.d.pages.length/\(t.kept = s.kept \/ t.kept = (s.kept.next a).1)):=by
 have hok:=hk.next a;have hlv:=h.live;have hdd:=h.dd;have main:∀ rec now,Fh s.kept rec = some now->1 <= rec.length->a.k % 5 ≠ 4->Short now.lines->now.lines.length <= 256 ->
  ((now,(0:Int)).2 = 1/\(now,(0:Int)).1 = s.kept/\s.write rec now = (s,1)) \/
  ((now,(0:Int)).2 = 0/\∃ s',s.write rec now = (s',0)/\SG (K + 3) H s'/\s'.kept = (now,(0:Int)).1/\s'.d.pages.length = s.d.pages.length/\(s.d.left < 0->s'.d.left < 0)) \/
  ((now,(0:Int)).2 = 0/\s.write rec now = (s,4)/\∀ n,n / 2 = H->(now,(0:Int)).1.fits n = false) \/
  ((now,(0:Int)).2 = 0/\a.k % 5 ≠ 4/\0 <= s.d.left/\∃ s',s.write rec now = (s',9)/\s'.dead = true/\s'.d.dead = true/\s'.kept = s.kept/\s'.pages = H/\s'.d.row.length <= 4096 /\
   ∀ Bz,∃ t,SG (K + 600) H t/\t.d = s'.d.BJ Bz/\t.d.left = -1/\t.d.pages.length = s.d.pages.length/\(t.kept = s.kept \/ t.kept = (now,(0:Int)).1)):=by
  intro rec now hr h1 h4 hs hn
  rcases AZ.Ul h hK rec now hr h1 hs hn with hx | ⟨hx,hy⟩ | ⟨hx,hy⟩
  grind
  ·exact .inr (.inr (.inl ⟨rfl,hx,fun n hn=>Zi hn hy rfl⟩))
  grind
 by_cases h0:a.k % 5 = 0
 ·by_cases hp:s.kept.EK a.e = true
  ·have e1:s.kept.next a = ({ s.kept with promised:=a.e },0):=by grind [AX.next,AX.CQ]
   have e2:s.act a = s.write (2 :: be 8 a.e) { s.kept with promised:=a.e }:=by grind [AZ.act,AZ.promise]
   rw [e1] at hok ⊢;rw [e2];exact main _ _ (Py s.kept a.e) bu aP hok.short hok.n
  simp_all [AX.next,AX.CQ,AZ.act,AZ.promise]
 ·by_cases h1:a.k % 5 = 1
  ·by_cases hp:s.kept.Gg a.e a.ls = true
   ·have e1:s.kept.next a = (⟨a.e,a.e,a.ls⟩,0):=by grind [AX.next,AX.Ee]
    have e2:s.act a = s.write (3 :: (be 8 a.e ++ GR a.ls)) ⟨a.e,a.e,a.ls⟩:=by grind [AZ.act,AZ.FO]
    rw [e1] at hok ⊢;rw [e2];exact main _ _ (Tc s.kept a.e a.ls hok.short hok.n) bu aP hok.short hok.n
   simp_all [AX.next,AX.Ee,AZ.act,AZ.FO]
  ·by_cases h4:a.k % 5 = 4
   ·have e1:s.kept.next a = (s.kept,0):=by simp [AX.next,h4]
    have e2:s.act a = (s,0):=by simp [AZ.act,h4]
    rw [e1,e2];exact .inr (.inl ⟨rfl,s,rfl,h.mono aP,rfl,rfl,fun h=>h⟩)
   ·by_cases hp:s.kept.Eu a.ls = true
    ·have e1:s.kept.next a = ({ s.kept with lines:=s.kept.lines ++ a.ls },0):=by grind [AX.next,AX.Cm]
     have e2:s.act a = s.write (4 :: GR a.ls) { s.kept with lines:=s.kept.lines ++ a.ls }:=by grind [AZ.act,AZ.append]
     rw [e1] at hok ⊢;rw [e2];have hsl:Short a.ls:=fun x hx=>hok.short x bg;have hnl:a.ls.length <= 256:=by have:=(Ig hp).1;omega
     exact main _ _ (QI s.kept a.ls hsl hnl) bu h4 hok.short hok.n
    simp_all [AX.next,AX.Cm,AZ.act,AZ.append]
inductive Adl where
 | follows:Adl
 | stands (mine:BitVec 64) (has:List (Option (BitVec 64 × List Ar))):Adl
 | leads (mine:BitVec 64) (nR:List Int) (base:Nat) (ready:Bool):Adl
structure Aj where
 id:Nat
 n:Nat
 k:AX
 BB:Adl
 waited:Nat
 seen:BitVec 64
 Ag:Nat
abbrev DX:=List (Nat × BG)
def PQ (after:BitVec 64) (id n:Nat):BitVec 64:=
 if 281474976710656 < after.toNat then 0 else BitVec.ofNat 64 (after.toNat + 1 + (id + n - (after.toNat + 1) % n) % n)
def Fj (a b:BitVec 64):BitVec 64:=if a.toNat < b.toNat then b else a
def Jw (p q:BitVec 64 × List Ar):Bool:=decide (q.1.toNat < p.1.toNat) || (p.1 == q.1 && decide (q.2.length < p.2.length))
def EW (b:Option (BitVec 64 × List Ar)) (x:Option (BitVec 64 × List Ar)):Option (BitVec 64 × List Ar):=
 match x,b with
 | none,b=>b
 | some p,none=>some p
 | some p,some q=>if Jw p q then some p else some q
def Qr (l:List (Option (BitVec 64 × List Ar))):Option (BitVec 64 × List Ar):=l.foldl EW none
def CW:List Int->Int
 | [a]=>a
 | [a,b]=>min a b
 | [a,b,c]=>max (min a b) (min (max a b) c)
 | _=>0
namespace Aj
def new (id n:Nat) (k:AX):Aj:=⟨id,n,k, .follows,0,0,0⟩
def others (z:Aj) (m:Nat->BG):DX:=((List.range z.n).filter fun i=>i != z.id).map fun i=>(i,m i)
def follow (z:Aj):Aj:={ z with BB := .follows,waited:=0 }
def owns (z:Aj) (src:Nat) (e:BitVec 64):Bool:=e.toNat % z.n == src
def refuse (z:Aj) (src:Nat):DX:=[(src,⟨3,z.k.promised,0,0,0,[]⟩)]
def ack (z:Aj) (src:Nat) (e:BitVec 64):DX:=[(src,⟨6,e,0,z.k.lines.length,0,[]⟩)]
def OD (z:Aj):Bool:=match z.BB with
 | .leads _ _ _ r=>r
 | _=>false
def count (z:Aj) (mine:BitVec 64) (nR:List Int) (base:Nat) (ready:Bool):Aj:=
 let m:=nR.set z.id z.k.lines.length
 if (base:Int) <= CW m then { z with BB := .leads mine m base true,Ag:=max z.Ag (CW m).toNat } else { z with BB := .leads mine m base ready }
def lead (z:Aj) (mine:BitVec 64) (has:List (Option (BitVec 64 × List Ar))):Aj × DX:=
 if 2 * (has.filter Option.isSome).length <= z.n then (z,[]) else
 match Qr has with
 | none=>(z,[])
 | some p =>
  if (z.k.Ee mine p.2).2 = 0 then
   let z1:Aj:={ z with k:=(z.k.Ee mine p.2).1,Ag:=min z.Ag p.2.length }
   (z1.count mine (List.replicate z.n (-1)) p.2.length false,z.others fun _=>⟨4,mine,0,0,0,p.2⟩)
  else (z.follow,[])
def stand (z:Aj):Aj × DX:=
 let e:=PQ (Fj z.k.promised z.seen) z.id z.n
 if e = 0 then (z,[]) else
 if (z.k.CQ e).2 = 0 then
  let has:=(List.replicate z.n none).set z.id (some (z.k.current,z.k.lines))
  let z1:Aj:={ z with k:=(z.k.CQ e).1,BB := .stands e has,waited:=0 }
  ((z1.lead e has).1,(z.others fun _=>⟨1,e,0,0,0,[]⟩) ++ (z1.lead e has).2)
 else (z,[])
def tick (z:Aj):Aj × DX:=
 match z.BB with
 | .leads mine nR _ _ =>
  (z,z.others fun i=>if nR.getD i 0 < 0 then ⟨4,mine,0,0,0,z.k.lines⟩ else ⟨5,mine,0,(nR.getD i 0).toNat,z.Ag,z.k.lines.drop (nR.getD i 0).toNat⟩)
 | _ =>
  let z1:Aj:={ z with waited:=z.waited + 1 }
  if 3 + 2 * z.id < z.waited + 1 then z1.stand else (z1,[])
def BK (z:Aj) (src:Nat) (m:BG):Aj × DX:=
 if !z.owns src m.e then (z,[]) else
 if m.e.toNat <= z.k.promised.toNat then (z,z.refuse src) else
 if (z.k.CQ m.e).2 = 0 then
  ({ z with k:=(z.k.CQ m.e).1 }.follow,[(src,⟨2,m.e,z.k.current,0,0,z.k.lines⟩)])
 else (z,[])
def Bj (z:Aj) (src:Nat) (m:BG):Aj × DX:=
 match z.BB with
 | .stands mine has =>
  if mine ≠ m.e \/ m.e.toNat <= m.c.toNat then (z,[]) else
  let uJ:=if (has.getD src none).isSome then has else has.set src (some (m.c,m.ls))
  { z with BB := .stands mine uJ }.lead mine uJ
 | _=>(z,[])
def mine (z:Aj):BitVec 64:=match z.BB with
 | .follows=>0
 | .stands e _=>e
 | .leads e _ _ _=>e
def follows (z:Aj):Bool:=match z.BB with
 | .follows=>true
 | _=>false
def Cj (z:Aj) (m:BG):Aj × DX:=(if !z.follows && decide (z.mine.toNat < m.e.toNat) then z.follow else z,[])
def BD (z:Aj) (src:Nat) (m:BG):Aj × DX:=
 if !z.owns src m.e then (z,[]) else
 if m.e.toNat < z.k.promised.toNat then (z,z.refuse src) else
 if z.k.current = m.e then (z.follow,z.ack src m.e) else
 if (z.k.Ee m.e m.ls).2 = 0 then
  let z1:Aj:={ z with k:=(z.k.Ee m.e m.ls).1,Ag:=min z.Ag m.ls.length }
  (z1.follow,z1.ack src m.e)
 else (z,[])
def BF (z:Aj) (src:Nat) (m:BG):Aj × DX:=
 if !z.owns src m.e then (z,[]) else
 if m.e.toNat < z.k.promised.toNat then (z,z.refuse src) else
 if z.k.promised ≠ m.e \/ z.k.current ≠ m.e then (z,[]) else
 let z1:=z.follow
 if z.k.lines.length < m.at' then (z1,[]) else
 let more:=m.ls.drop (z.k.lines.length - m.at')
 if more = [] then
  let z2:Aj:={ z1 with Ag:=max z.Ag (min m.com z.k.lines.length) }
  (z2,z2.ack src m.e)
 else if (z.k.Cm more).2 = 0 then
  let z2:Aj:={ z1 with k:=(z.k.Cm more).1,Ag:=max z.Ag (min m.com (z.k.Cm more).1.lines.length) }
  (z2,z2.ack src m.e)
 else (z1,[])
def CJ (z:Aj) (src:Nat) (m:BG):Aj × DX:=
 match z.BB with
 | .leads mine nR base ready =>
  if mine = m.e then (z.count mine (nR.set src (max (nR.getD src 0) (min m.at' z.k.lines.length:Nat))) base ready,[]) else (z,[])
 | _=>(z,[])
def hear (z:Aj) (src:Nat) (m:BG):Aj × DX:=
 let z1:Aj:={ z with seen:=Fj z.seen m.e }
 if m.k = 1 then z1.BK src m else if m.k = 2 then z1.Bj src m else if m.k = 3 then z1.Cj m else
 if m.k = 4 then z1.BD src m else if m.k = 5 then z1.BF src m else z1.CJ src m
def BL (z:Aj) (b:List UInt8):Aj × Int:=
 if b.length = 0 \/ 4096 < b.length then (z,1) else
 match z.BB with
 | .leads mine nR base true =>
  if 256 <= z.k.lines.length then (z,4) else
  if (z.k.Cm [⟨mine,b⟩]).2 = 0 then ({ z with k:=(z.k.Cm [⟨mine,b⟩]).1 }.count mine nR base true,0) else (z,(z.k.Cm [⟨mine,b⟩]).2)
 | _=>(z,64)
end Aj
theorem GM (h:(k.CQ e).2 = 0):(k.CQ e).1 = { k with promised:=e }:=by
 unfold AX.CQ at h ⊢;grind
theorem IZ (h:(k.Ee e ls).2 = 0):(k.Ee e ls).1 = ⟨e,e,ls⟩:=by
 unfold AX.Ee at h ⊢;grind
theorem Ih (h:(k.Cm ls).2 = 0):(k.Cm ls).1 = { k with lines:=k.lines ++ ls }:=by
 unfold AX.Cm at h ⊢;grind
namespace Aj
def Same (x y:Aj):Prop:=x.k = y.k/\x.Ag = y.Ag/\x.OD = y.OD
def Ec (z:Aj) (src:Nat) (m:BG):Aj × DX:=
 if m.k = 1 then z.BK src m else if m.k = 2 then z.Bj src m else if m.k = 3 then z.Cj m else
 if m.k = 4 then z.BD src m else if m.k = 5 then z.BF src m else z.CJ src m
theorem MZ (z:Aj) (src:Nat) (m:BG):z.hear src m = ({ z with seen:=Fj z.seen m.e }:Aj).Ec src m:=rfl
theorem EU (z:Aj) (mine:BitVec 64) (nR:List Int) (base:Nat) (ready:Bool):(z.count mine nR base ready).seen = z.seen/\(z.count mine nR base ready).k = z.k/\(z.count mine nR base ready).id = z.id/\(z.count mine nR base ready).n = z.n:=by
 unfold count;grind
theorem Ql (z:Aj) (mine:BitVec 64) (nR:List Int) (base:Nat) (ready:Bool):∃ r,(z.count mine nR base ready).BB = .leads mine (nR.set z.id z.k.lines.length) base r/\(r = true \/ (r = ready/\¬ (base:Int) <= CW (nR.set z.id z.k.lines.length)))/\(ready = true->r = true):=by
 unfold count;grind
theorem count_eq (x:Aj) (mine:BitVec 64) (nR:List Int) (base:Nat) (ready:Bool):x.count mine nR base ready = if (base:Int) <= CW (nR.set x.id x.k.lines.length) then { x with BB := .leads mine (nR.set x.id x.k.lines.length) base true,Ag:=max x.Ag (CW (nR.set x.id x.k.lines.length)).toNat } else { x with BB := .leads mine (nR.set x.id x.k.lines.length) base ready }:=rfl
end Aj
structure En (B:Nat) (ls:List Ar):Prop where
 n:ls.length <= 256
 m:∀ x ∈ ls,x.may
 b:AP ls <= B
theorem En.mono (h:En B ls) (hB:B <= B'):En B' ls:=⟨h.n,h.m,Nat.le_trans h.b hB⟩
theorem En.nil (B:Nat):En B []:=⟨bu,bu,by simp [AP]⟩
def Ud (B n id len:Nat):Adl->Prop
 | .follows=>True
 | .stands mine has=>(1 <= mine.toNat/\mine.toNat <= 281474976710656)/\has.length = n/\(∃ p,has[id]? = some (some p))/\∀ p,some p ∈ has->En B p.2
 | .leads mine nR _ _=>(1 <= mine.toNat/\mine.toNat <= 281474976710656)/\nR.length = n/\∀ x ∈ nR, -1 <= x/\x <= (len:Int)
structure N0 (B:Nat) (z:Aj):Prop where
 n1:1 <= z.n
 n3:z.n <= 3
 id:z.id < z.n
 ls:En B z.k.lines
 cp:z.k.current.toNat <= z.k.promised.toNat
 pt:z.k.promised.toNat <= 281474976710656
 se:z.seen.toNat <= 281474976710656
 co:z.Ag <= z.k.lines.length
structure NOk (B:Nat) (z:Aj):Prop extends N0 B z where
 ro:Ud B z.n z.id z.k.lines.length z.BB
theorem Ud.mono {len:Nat} {r:Adl} (h:Ud B n id len r) (hB:B <= B'):Ud B' n id len r:=by
 cases r with
 | follows=>trivial
 | stands mine has=>exact ⟨h.1,h.2.1,h.2.2.1,fun p hp=>(h.2.2.2 p hp).mono hB⟩
 | leads mine nR base ready=>exact h
theorem N0.mono {z:Aj} (h:N0 B z) (hB:B <= B'):N0 B' z:=⟨h.n1,h.n3,h.id,h.ls.mono hB,h.cp,h.pt,h.se,h.co⟩
theorem NOk.mono {z:Aj} (h:NOk B z) (hB:B <= B'):NOk B' z:=⟨h.toN0.mono hB,h.ro.mono hB⟩
theorem N0.kok {z:Aj} (h:N0 B z):KOk z.k:=⟨h.ls.n,fun x hx=>(h.ls.m x hx).2.2⟩
theorem Qo {l:List Int} {x:Int} (h:∀ y ∈ l,y <= x) (h0:0 <= x):CW l <= x:=by
 unfold CW;split
 simp_all
 (simp_all;omega)
 (simp_all;omega)
 omega
theorem Jf (h:(k.CQ e).2 = 0):k.promised.toNat < e.toNat/\e.toNat <= 281474976710656:=by
 unfold AX.CQ at h;split at h
 simp_all [AX.EK]
 omega
theorem Wn (h:(k.Ee e ls).2 = 0):k.promised.toNat <= e.toNat/\k.current.toNat < e.toNat/\e.toNat <= 281474976710656/\ls.length <= 256:=by
 unfold AX.Ee at h;split at h
 simp_all [AX.Gg]
 omega
theorem Si (h:(k.Cm ls).2 = 0):ls.length + k.lines.length <= 256:=by
 unfold AX.Cm at h;split at h
 simp_all [Ig]
 omega
def EY (k k':AX):Prop:=k.promised.toNat <= k'.promised.toNat/\k.current.toNat <= k'.current.toNat
theorem EY.refl (k:AX):EY k k:=⟨bu,bu⟩
theorem EY.trans {a b c:AX} (h:EY a b) (h':EY b c):EY a c:=⟨Nat.le_trans h.1 h'.1,Nat.le_trans h.2 h'.2⟩
theorem NZ:∀ (l:List (Option (BitVec 64 × List Ar))) (b:Option (BitVec 64 × List Ar)) (p:BitVec 64 × List Ar),l.foldl EW b = some p->b = some p \/ some p ∈ l
 | [],b,p,h => .inl h
 | x :: r,b,p,h=>by
  rcases NZ r _ p h with h1 | h1
  ·unfold EW at h1;grind
  grind
namespace Aj
theorem Xd {z:Aj} {f:Nat->BG} {t:Nat × BG} (h:t ∈ z.others f):t.1 < z.n/\t.1 ≠ z.id/\t.2 = f t.1:=by
 unfold others at h;grind
def EH (t:DX):Prop:=∀ x ∈ t,x.2.May
theorem EH.nil:EH []:=by intro x hx;grind
theorem EH.others {z:Aj} {f:Nat->BG} (h:∀ i,i < z.n->(f i).May):EH (z.others f):=by
 intro t ht;obtain ⟨h1, -,h2⟩:=Xd ht;grind
theorem EH.one {src:Nat} {m:BG} (h:m.May):EH [(src,m)]:=by
 intro t ht;grind
theorem EH.append {a b:DX} (ha:EH a) (hb:EH b):EH (a ++ b):=by
 intro t ht
 rcases List.mem_append.1 ht with h | h
 ·exact ha t h
 ·exact hb t h
theorem Jh (h1:1 <= e.toNat) (h2:e.toNat <= 281474976710656):(BG.mk 3 e 0 0 0 []).May:=
 ⟨bu,bu,h1,h2,bu,bu,bu,bu,by simp,bu,bu,bu,bu⟩
theorem Rz (h1:1 <= e.toNat) (h2:e.toNat <= 281474976710656):(BG.mk 1 e 0 0 0 []).May:=
 ⟨bu,bu,h1,h2,bu,bu,bu,bu,by simp,bu,bu,bu,bu⟩
theorem MO (h1:1 <= e.toNat) (h2:e.toNat <= 281474976710656) (hn:n <= 256):(BG.mk 6 e 0 n 0 []).May:=
 ⟨bu,bu,h1,h2,bu,hn,bu,bu,by simp,bu,bu,bu,bu⟩
theorem Ox {c:BitVec 64} (h1:1 <= e.toNat) (h2:e.toNat <= 281474976710656) (hc:c.toNat <= e.toNat) (hl:En B ls):(BG.mk 2 e c 0 0 ls).May:=
 ⟨bu,bu,h1,h2,hc,bu,bu,hl.n,hl.m,bu,bu,bu,bu⟩
theorem KO (h1:1 <= e.toNat) (h2:e.toNat <= 281474976710656) (hl:En B ls):(BG.mk 4 e 0 0 0 ls).May:=
 ⟨bu,bu,h1,h2,bu,bu,bu,hl.n,hl.m,bu,bu,bu,bu⟩
theorem PS {a c:Nat} (h1:1 <= e.toNat) (h2:e.toNat <= 281474976710656) (ha:a <= 256) (hc:c <= 256) (hl:En B ls):(BG.mk 5 e 0 a c ls).May:=
 ⟨bu,bu,h1,h2,bu,ha,hc,hl.n,hl.m,bu,bu,bu,bu⟩
theorem _root_.Go.Proofs.YthmpmgknnibljaaGreat.FN (ls:List Ar) (i:Nat):AP (ls.drop i) <= AP ls:=by
 have h:=DV (ls.take i) (ls.drop i);simp_all
theorem _root_.Go.Proofs.YthmpmgknnibljaaGreat.En.drop (h:En B ls) (i:Nat):En B (ls.drop i):=
 ⟨by rw [List.length_drop];have:=h.n;omega,fun x hx=>h.m x bg,Nat.le_trans (FN ls i) h.b⟩
theorem Gv {z:Aj} (h:N0 B z):NOk B z.follow:=⟨⟨h.n1,h.n3,h.id,h.ls,h.cp,h.pt,h.se,h.co⟩,trivial⟩
theorem Qm {z:Aj} (h:N0 B z) {mine:BitVec 64} (hm:1 <= mine.toNat/\mine.toNat <= 281474976710656) {nR:List Int} (hl:nR.length = z.n) (ha:∀ x ∈ nR, -1 <= x/\x <= (z.k.lines.length:Int)) (base:Nat) (ready:Bool) :
  NOk B (z.count mine nR base ready):=by
 have hall:∀ x ∈ nR.set z.id z.k.lines.length, -1 <= x/\x <= (z.k.lines.length:Int):=by
  grind
 have hle:=Qo (l:=nR.set z.id z.k.lines.length) (x:=z.k.lines.length) bg aP;unfold count;simp only;split
 ·refine ⟨⟨h.n1,h.n3,h.id,h.ls,h.cp,h.pt,h.se, ?_⟩,hm,bg,hall⟩;show max z.Ag (CW (nR.set z.id z.k.lines.length)).toNat <= z.k.lines.length;have:=h.co;omega
 ·exact ⟨⟨h.n1,h.n3,h.id,h.ls,h.cp,h.pt,h.se,h.co⟩,hm,bg,hall⟩
theorem XN {z:Aj} (h:NOk B z) {mine:BitVec 64} {has:List (Option (BitVec 64 × List Ar))} (hr:z.BB = .stands mine has):NOk B (z.lead mine has).1/\EH (z.lead mine has).2/\EY z.k (z.lead mine has).1.k:=by
 have hro:=h.ro;rw [hr] at hro;obtain ⟨hm,hlen, -,hls⟩:=hro;unfold lead;split
 grind [EH.nil,EY.refl]
 ·cases hb:Qr has with
  | none=>grind [EH.nil,EY.refl]
  | some p =>
   have hp:some p ∈ has:=by
    rcases NZ has none p hb with h | h
    grind
    omega
   have hpl:=hls p hp;simp only;split
   ·rename_i hk;obtain ⟨a1,a2,a3,a4⟩:=Wn hk;have e:(z.k.Ee mine p.2).1 = ⟨mine,mine,p.2⟩:=IZ hk;rw [e];refine ⟨Qm (z:={ z with k:=⟨mine,mine,p.2⟩,Ag:=min z.Ag p.2.length }) ⟨h.n1,h.n3,h.id,hpl,bu,a3,h.se, ?_⟩ hm bu (fun x hx => ?_) _ _,EH.others fun i _=>KO hm.1 hm.2 hpl, ?_⟩
    grind
    grind
    ·rw [(EU _ _ _ _ _).2.1];exact ⟨a1,bg⟩
   ·exact ⟨Gv h.toN0,EH.nil,EY.refl _⟩
theorem ZL {z:Aj} (h:NOk B z):NOk B z.stand.1/\EH z.stand.2/\EY z.k z.stand.1.k:=by
 unfold stand;simp only;split
 grind [EH.nil,EY.refl]
 ·split
  ·rename_i hk;obtain ⟨p1,p2⟩:=Jf hk;generalize PQ (Fj z.k.promised z.seen) z.id z.n = e at *;have ek:=GM hk;rw [ek];have hz1:NOk B ({ z with k:={ z.k with promised:=e },BB := .stands e ((List.replicate z.n none).set z.id (some (z.k.current,z.k.lines))),waited:=0 }:Aj):=by
    refine ⟨⟨h.n1,h.n3,h.id,h.ls, ?_,p2,h.se,h.co⟩,bg,bu,⟨(z.k.current,z.k.lines), ?_⟩,fun p hp => ?_⟩
    ·have:=h.cp;grind
    ·rw [List.getElem?_set_self (by simpa using h.id)]
    ·rcases List.mem_or_eq_of_mem_set hp with hx | hx
     grind
     ·simp at hx;subst hx;exact h.ls
   obtain ⟨q1,q2,q3⟩:=XN hz1 rfl;refine ⟨q1,EH.append (EH.others fun i _=>Rz aP p2) q2,EY.trans (b:={ z.k with promised:=e }) ⟨bg,bu⟩ q3⟩
  grind [EH.nil,EY.refl]
theorem dA {z:Aj} (h:NOk B z):NOk B z.tick.1/\EH z.tick.2/\EY z.k z.tick.1.k:=by
 have hro:=h.ro;have other:∀ z:Aj,NOk B z->(∀ z':Aj,z' = ({ z with waited:=z.waited + 1 }:Aj)->NOk B z'):=by
  intro z h z' e;subst e;exact ⟨⟨h.n1,h.n3,h.id,h.ls,h.cp,h.pt,h.se,h.co⟩,h.ro⟩
 unfold tick;split
 ·rename_i mine nR base ready hr;rw [hr] at hro;obtain ⟨hm,hlen,ha⟩:=hro;refine ⟨h,EH.others fun i hi => ?_,EY.refl _⟩;have hi2:i < nR.length:=aP
  have hg:nR.getD i 0 = nR[i]:=bg
  have hx:=ha _ (List.getElem_mem hi2);split
  ·exact KO hm.1 hm.2 h.ls
  ·refine PS hm.1 hm.2 ?_ ?_ (h.ls.drop _)
   ·have:=h.ls.n;omega
   ·have:=h.ls.n;have:=h.co;omega
 ·split
  ·exact ZL bg
  simp_all [EH.nil,EY.refl]
theorem dM {a b:BitVec 64} {x:Nat} (ha:a.toNat <= x) (hb:b.toNat <= x):(Fj a b).toNat <= x:=by
 grind [Fj]
theorem dX {z:Aj} (h:NOk B z) {src:Nat} {m:BG} (hm:m.May) (b:Nat) (hb:AP m.ls <= b) :
  NOk (B + b) (z.hear src m).1/\EH (z.hear src m).2/\EY z.k (z.hear src m).1.k:=by
 rw [MZ];have h1:NOk B ({ z with seen:=Fj z.seen m.e }:Aj):=⟨⟨h.n1,h.n3,h.id,h.ls,h.cp,h.pt,dM h.se hm.e2,h.co⟩,h.ro⟩;have hkk:({ z with seen:=Fj z.seen m.e }:Aj).k = z.k:=rfl;rw [<-hkk];generalize ({ z with seen:=Fj z.seen m.e }:Aj) = y at *;clear h hkk;have h:=h1;have hml:En (B + b) m.ls:=⟨hm.n1,hm.hl,aP⟩;have hw:=h.mono (Nat.le_add_right B b);have stay:NOk (B + b) y/\EH []/\EY y.k y.k:=⟨hw,EH.nil,EY.refl _⟩;unfold Ec;split
 ·unfold BK;split
  omega
  split
  ·refine ⟨hw,EH.one (Jh ?_ h.pt),bg⟩;have:=hm.e1;omega
  split
  ·rename_i hk;obtain ⟨p1,p2⟩:=Jf hk;rw [GM hk];refine ⟨Gv ⟨h.n1,h.n3,h.id,hw.ls, ?_,p2,h.se,h.co⟩,EH.one (Ox hm.e1 hm.e2 ?_ h.ls),⟨Nat.le_of_lt p1,Nat.le_refl _⟩⟩
   ·have:=h.cp;grind
   ·have:=h.cp;omega
  omega
 split
 ·unfold Bj;have hro:=hw.ro;split
  ·rename_i mine has hr;rw [hr] at hro;obtain ⟨q1,q2,q3,q4⟩:=hro;split
   omega
   ·simp only;refine XN (z:={ y with BB := .stands mine (if (has.getD src none).isSome then has else has.set src (some (m.c,m.ls))) }) ⟨⟨hw.n1,hw.n3,hw.id,hw.ls,hw.cp,hw.pt,hw.se,hw.co⟩,q1, ?_, ?_, ?_⟩ rfl
    grind
    grind
    grind
  omega
 split
 ·unfold Cj;refine ⟨?_,EH.nil, ?_⟩
  ·simp only;split
   ·exact Gv hw.toN0
   omega
  ·simp only;split <;> exact EY.refl _
 split
 ·unfold BD;split
  omega
  split
  ·refine ⟨hw,EH.one (Jh ?_ h.pt),bg⟩;omega
  split
  ·exact ⟨Gv hw.toN0,EH.one (MO hm.e1 hm.e2 h.ls.n),EY.refl _⟩
  split
  ·rename_i hk;obtain ⟨a1,a2,a3,a4⟩:=Wn hk;rw [IZ hk];simp only;refine ⟨Gv ⟨h.n1,h.n3,h.id,hml,bu,a3,h.se, ?_⟩,EH.one (MO hm.e1 hm.e2 hm.n1),⟨a1,Nat.le_of_lt a2⟩⟩;grind
  omega
 split
 ·unfold BF;split
  omega
  split
  ·refine ⟨hw,EH.one (Jh ?_ h.pt),bg⟩;omega
  split
  omega
  simp only;split
  ·exact ⟨Gv hw.toN0,EH.nil,EY.refl _⟩
  split
  ·refine ⟨⟨⟨h.n1,h.n3,h.id,hw.ls,h.cp,h.pt,h.se, ?_⟩,trivial⟩,EH.one (MO hm.e1 hm.e2 h.ls.n),EY.refl _⟩;show max y.Ag (min m.com y.k.lines.length) <= y.k.lines.length;have:=h.co;omega
  split
  ·rename_i hk;rw [Ih hk];have hle:=Si hk;have hd:=(hml.drop (y.k.lines.length - m.at'));have hlen:(y.k.lines ++ m.ls.drop (y.k.lines.length - m.at')).length <= 256:=bg
   refine ⟨⟨⟨h.n1,h.n3,h.id,⟨hlen,fun x hx => ?_, ?_⟩,h.cp,h.pt,h.se, ?_⟩,trivial⟩,EH.one (MO hm.e1 hm.e2 hlen),EY.refl _⟩
   ·rcases List.mem_append.1 hx with hx | hx
    ·exact h.ls.m x hx
    ·exact hd.m x hx
   ·show AP (y.k.lines ++ m.ls.drop (y.k.lines.length - m.at')) <= B + b;rw [DV];have h1:=h.ls.b;grind [FN]
   ·show max y.Ag (min m.com (y.k.lines ++ m.ls.drop (y.k.lines.length - m.at')).length) <= (y.k.lines ++ m.ls.drop (y.k.lines.length - m.at')).length;have:=h.co;grind
  ·exact ⟨Gv hw.toN0,EH.nil,EY.refl _⟩
 ·unfold CJ;have hro:=hw.ro;split
  ·rename_i mine nR base ready hr;rw [hr] at hro;obtain ⟨q1,q2,q3⟩:=hro;split
   ·refine ⟨Qm hw.toN0 q1 bg (fun x hx => ?_) _ _,EH.nil, ?_⟩
    grind
    simp [EU,EY.refl]
   omega
  omega
theorem AiK {z:Aj} (h:NOk B z) (b:List UInt8):NOk (B + b.length) (z.BL b).1/\EY z.k (z.BL b).1.k:=by
 have hw:=h.mono (Nat.le_add_right B b.length);have hro:=hw.ro;unfold BL;split
 grind [EY.refl]
 ·rename_i hb;split
  ·rename_i mine nR base hr;rw [hr] at hro;obtain ⟨q1,q2,q3⟩:=hro;split
   grind [EY.refl]
   split
   ·rename_i hk;rw [Ih hk];refine ⟨Qm (z:={ z with k:={ z.k with lines:=z.k.lines ++ [⟨mine,b⟩] } }) ⟨h.n1,h.n3,h.id,⟨?_,fun x hx => ?_, ?_⟩,h.cp,h.pt,h.se, ?_⟩ q1 q2 (fun x hx => ?_) _ _, ?_⟩
    grind
    ·rcases List.mem_append.1 hx with hx | hx
     ·exact h.ls.m x hx
     ·simp only [List.mem_singleton] at hx;subst hx;exact ⟨q1,bg,bg⟩
    ·have h1:=h.ls.b;simp_all [AP]
    ·show z.Ag <= (z.k.lines ++ [Ar.mk mine b]).length;rw [List.length_append];have:=h.co;omega
    grind
    ·rw [(EU _ _ _ _ _).2.1];exact ⟨bu,bu⟩
   grind [EY.refl]
  grind [EY.refl]
theorem TB (h1:1 <= n) (h3:n <= 3) (hi:id < n) (hl:En B k.lines) (hc:k.current.toNat <= k.promised.toNat) (hp:k.promised.toNat <= 281474976710656):NOk B (Aj.new id n k):=
 ⟨⟨h1,h3,hi,hl,hc,hp,by show (0:BitVec 64).toNat <= _;simp,Nat.zero_le _⟩,trivial⟩
end Aj
structure Am where
 id:Nat
 n:Nat
 s:AZ
 BB:Adl
 waited:Nat
 seen:BitVec 64
 Ag:Nat
namespace Am
def BN (z:Am):Aj:=⟨z.id,z.n,z.s.kept,z.BB,z.waited,z.seen,z.Ag⟩
def new (id n:Nat) (s:AZ):Am:=⟨id,n,s, .follows,0,0,0⟩
def dead (z:Am):Bool:=z.s.dead || z.s.d.dead
def follow (z:Am):Am:={ z with BB := .follows,waited:=0 }
def count (z:Am) (mine:BitVec 64) (nR:List Int) (base:Nat) (ready:Bool):Am:=
 let m:=nR.set z.id z.s.kept.lines.length
 if (base:Int) <= CW m then { z with BB := .leads mine m base true,Ag:=max z.Ag (CW m).toNat } else { z with BB := .leads mine m base ready }
def lead (z:Am) (mine:BitVec 64) (has:List (Option (BitVec 64 × List Ar))):Am × DX:=
 if 2 * (has.filter Option.isSome).length <= z.n then (z,[]) else
 match Qr has with
 | none=>(z,[])
 | some p =>
  if (z.s.FO mine p.2).2 = 0 then
   (({ z with s:=(z.s.FO mine p.2).1,Ag:=min z.Ag p.2.length }:Am).count mine (List.replicate z.n (-1)) p.2.length false,z.BN.others fun _=>⟨4,mine,0,0,0,p.2⟩)
  else (({ z with s:=(z.s.FO mine p.2).1 }:Am).follow,[])
def stand (z:Am):Am × DX:=
 let e:=PQ (Fj z.s.kept.promised z.seen) z.id z.n
 if e = 0 then (z,[]) else
 if (z.s.promise e).2 = 0 then
  let has:=(List.replicate z.n none).set z.id (some (z.s.kept.current,z.s.kept.lines))
  let z1:Am:={ z with s:=(z.s.promise e).1,BB := .stands e has,waited:=0 }
  ((z1.lead e has).1,(z.BN.others fun _=>⟨1,e,0,0,0,[]⟩) ++ (z1.lead e has).2)
 else ({ z with s:=(z.s.promise e).1 },[])
def tick (z:Am):Am × DX:=
 match z.BB with
 | .leads mine nR _ _ =>
  (z,z.BN.others fun i=>if nR.getD i 0 < 0 then ⟨4,mine,0,0,0,z.s.kept.lines⟩ else ⟨5,mine,0,(nR.getD i 0).toNat,z.Ag,z.s.kept.lines.drop (nR.getD i 0).toNat⟩)
 | _ =>
  let z1:Am:={ z with waited:=z.waited + 1 }
  if 3 + 2 * z.id < z.waited + 1 then z1.stand else (z1,[])
def BK (z:Am) (src:Nat) (m:BG):Am × DX:=
 if !z.BN.owns src m.e then (z,[]) else
 if m.e.toNat <= z.s.kept.promised.toNat then (z,z.BN.refuse src) else
 if (z.s.promise m.e).2 = 0 then
  (({ z with s:=(z.s.promise m.e).1 }:Am).follow,[(src,⟨2,m.e,z.s.kept.current,0,0,z.s.kept.lines⟩)])
 else ({ z with s:=(z.s.promise m.e).1 },[])
def Bj (z:Am) (src:Nat) (m:BG):Am × DX:=
 match z.BB with
 | .stands mine has =>
  if mine ≠ m.e \/ m.e.toNat <= m.c.toNat then (z,[]) else
  let uJ:=if (has.getD src none).isSome then has else has.set src (some (m.c,m.ls))
  ({ z with BB := .stands mine uJ }:Am).lead mine uJ
 | _=>(z,[])
def Cj (z:Am) (m:BG):Am × DX:=(if !z.BN.follows && decide (z.BN.mine.toNat < m.e.toNat) then z.follow else z,[])
def BD (z:Am) (src:Nat) (m:BG):Am × DX:=
 if !z.BN.owns src m.e then (z,[]) else
 if m.e.toNat < z.s.kept.promised.toNat then (z,z.BN.refuse src) else
 if z.s.kept.current = m.e then (z.follow,z.BN.ack src m.e) else
 if (z.s.FO m.e m.ls).2 = 0 then
  let z1:Am:={ z with s:=(z.s.FO m.e m.ls).1,Ag:=min z.Ag m.ls.length }
  (z1.follow,z1.BN.ack src m.e)
 else ({ z with s:=(z.s.FO m.e m.ls).1 },[])
def BF (z:Am) (src:Nat) (m:BG):Am × DX:=
 if !z.BN.owns src m.e then (z,[]) else
 if m.e.toNat < z.s.kept.promised.toNat then (z,z.BN.refuse src) else
 if z.s.kept.promised ≠ m.e \/ z.s.kept.current ≠ m.e then (z,[]) else
 let z1:=z.follow
 if z.s.kept.lines.length < m.at' then (z1,[]) else
 let more:=m.ls.drop (z.s.kept.lines.length - m.at')
 if more = [] then
  let z2:Am:={ z1 with Ag:=max z.Ag (min m.com z.s.kept.lines.length) }
  (z2,z2.BN.ack src m.e)
 else if (z.s.append more).2 = 0 then
  let z2:Am:={ z1 with s:=(z.s.append more).1,Ag:=max z.Ag (min m.com (z.s.append more).1.kept.lines.length) }
  (z2,z2.BN.ack src m.e)
 else ({ z1 with s:=(z.s.append more).1 },[])
def CJ (z:Am) (src:Nat) (m:BG):Am × DX:=
 match z.BB with
 | .leads mine nR base ready =>
  if mine = m.e then (z.count mine (nR.set src (max (nR.getD src 0) (min m.at' z.s.kept.lines.length:Nat))) base ready,[]) else (z,[])
 | _=>(z,[])
def Ec (z:Am) (src:Nat) (m:BG):Am × DX:=
 if m.k = 1 then z.BK src m else if m.k = 2 then z.Bj src m else if m.k = 3 then z.Cj m else
 if m.k = 4 then z.BD src m else if m.k = 5 then z.BF src m else z.CJ src m
def hear (z:Am) (src:Nat) (m:BG):Am × DX:=({ z with seen:=Fj z.seen m.e }:Am).Ec src m
def BL (z:Am) (b:List UInt8):Am × Int:=
 if b.length = 0 \/ 4096 < b.length then (z,1) else
 match z.BB with
 | .leads mine nR base true =>
  if 256 <= z.s.kept.lines.length then (z,4) else
  if (z.s.append [⟨mine,b⟩]).2 = 0 then (({ z with s:=(z.s.append [⟨mine,b⟩]).1 }:Am).count mine nR base true,0) else ({ z with s:=(z.s.append [⟨mine,b⟩]).1 },(z.s.append [⟨mine,b⟩]).2)
 | _=>(z,64)
end Am
theorem Jd {P:Program} {ops:Array Oper} {d:Bool} {a:Act} {w:World} {Q:Exit->Act->World->Prop} (Post:Act->Act->World->Prop)
  (h:(Code.region id ops d).wp P (fun e a' w'=>e = .normal/\Post a a' w') a w) (hq:∀ a' w',Post a a' w'->Q .normal a' w'):(Code.region id ops d).wp P Q a w:=
 Code.wp_mono bg h
section
variable {P:Program} {ops:Array Oper} {Q:Exit->Act->World->Prop} {md:Region.Mode} {S:World->Prop} {need:Nat->Bool}
theorem Gm {i j:Nat} {oi oj:Oper} {fuel:Nat} {listed:Array Bool} {a:Act} {w:World} (hi:(ops.toList.drop i).head? = some oi) (hj:(ops.toList.drop j).head? = some oj) (hr:Region.ready md ops listed = [i,j])
  (h1:wpList P ops (Exit.then (fun a' w'=>(need i = true->S w')/\Dq P md ops Q S need fuel (listed.setIfInBounds i true) a' w') Q) [oi] a w)
  (h2:wpList P ops (Exit.then (fun a' w'=>(need j = true->S w')/\Dq P md ops Q S need fuel (listed.setIfInBounds j true) a' w') Q) [oj] a w):Dq P md ops Q S need (fuel + 1) listed a w:=by
 refine ⟨bg,fun k hk => ?_⟩;rw [hr] at hk;simp at hk;rcases hk with rfl | rfl
 ·exact LY (EX hi) h1
 ·exact LY (EX hj) h2
end
section
variable {P:Program} {ops:Array Oper} {Q:Exit->Act->World->Prop} {rest:List Oper} {a:Act} {w w':World} {d:Option Tmp} {ty:TypeId} {ps:String} {af:Array Edge} {v:Value}
end
end Go.Proofs.YthmpmgknnibljaaGreat
namespace Go.Proofs
open Go.Shelf
def Tryz.Vu:Go.Shelf.Ren:=⟨fun | 125=>174 | 128=>196 | 129=>197 | n=>n,fun | 46=>198 | 3=>3 | 51=>256 | 53=>34 | 4=>4 | 5=>5 | 9=>9 | n=>n,fun | n=>n⟩
theorem Tryz.lays125:Go.Proofs.Lays.n125 prog Tryz.Vu:={
 mixed:=by rfl
 f125:=func174.trans (by rfl)
 f128:=func196.trans (by rfl)
 f129:=func197.trans (by rfl)
 t3:=underlying3
 a3:=Tryz.isAgg3
 z3:=Tryz.sizeOf3
 v3:=Tryz.zeroValue3
 t4:=underlying4
 a4:=Tryz.isAgg4
 z4:=Tryz.sizeOf4
 v4:=Tryz.zeroValue4
 t5:=underlying5
 a5:=Tryz.isAgg5
 z5:=Tryz.sizeOf5
 v5:=Tryz.zeroValue5
 t9:=underlying9
 a9:=Tryz.isAgg9
 z9:=Tryz.sizeOf9
 v9:=Tryz.zeroValue9
 t46:=underlying198
 a46:=Tryz.isAgg198
 z46:=Tryz.sizeOf198
 v46:=Tryz.zeroValue198
 t51:=underlying256
 a51:=Tryz.isAgg256
 z51:=Tryz.sizeOf256
 v51:=Tryz.zeroValue256
 t53:=underlying34
 a53:=Tryz.isAgg34
 z53:=Tryz.sizeOf34
 v53:=Tryz.zeroValue34 }
theorem Tryz.bits_Len (x:Int) (w:World) (h0:0 <= x) (h1:x <= 18446744073709551615) :
  Calls prog 174 #[.int .u64 x] w fun e w'=>e = .returned (.int .i64 (Lib.bitLen x.toNat))/\w' = w:=Any.bits_Len Tryz.lays125 x w h0 h1
def Tryz.Vt:Go.Shelf.Ren:=⟨fun | 212=>180 | 263=>200 | 264=>201 | n=>n,fun | 46=>198 | 51=>256 | 146=>260 | 53=>34 | 148=>262 | n=>n,fun | n=>n⟩
theorem Tryz.lays212:Go.Proofs.Lays.n212 prog Tryz.Vt:={
 mixed:=by rfl
 f212:=func180.trans (by rfl)
 f263:=func200.trans (by rfl)
 f264:=func201.trans (by rfl)
 t46:=underlying198
 a46:=Tryz.isAgg198
 z46:=Tryz.sizeOf198
 v46:=Tryz.zeroValue198
 t51:=underlying256
 a51:=Tryz.isAgg256
 z51:=Tryz.sizeOf256
 v51:=Tryz.zeroValue256
 t53:=underlying34
 a53:=Tryz.isAgg34
 z53:=Tryz.sizeOf34
 v53:=Tryz.zeroValue34
 t146:=underlying260
 a146:=Tryz.isAgg260
 z146:=Tryz.sizeOf260
 v146:=Tryz.zeroValue260
 t148:=underlying262
 a148:=Tryz.isAgg262
 z148:=Tryz.sizeOf262
 v148:=Tryz.zeroValue262 }
open Go.RowKit Go.Lib in
theorem Tryz.bits_Mul (x y:Nat) (hx:x < 18446744073709551616) (hy:y < 18446744073709551616) (w:World) :
  Calls prog 180 #[.int .u64 x, .int .u64 y] w fun e w'=>e = .returned (.tuple #[.int .u64 ((x * y / 18446744073709551616:Nat):Int), .int .u64 ((x * y % 18446744073709551616:Nat):Int)])/\w' = w:=Any.bits_Mul Tryz.lays212 x y hx hy w
def Tryz.QP:Go.Shelf.Ren:=⟨fun | 15=>137 | n=>n,fun | 22=>89 | 3=>3 | 4=>4 | n=>n,fun | n=>n⟩
theorem Tryz.laysNm215:Go.Proofs.Lays2.n15 prog Tryz.QP:={
 mixed:=by rfl
 f15:=func137.trans (by rfl)
 t3:=underlying3
 a3:=Tryz.isAgg3
 z3:=Tryz.sizeOf3
 v3:=Tryz.zeroValue3
 t4:=underlying4
 a4:=Tryz.isAgg4
 z4:=Tryz.sizeOf4
 v4:=Tryz.zeroValue4
 t22:=underlying89
 a22:=Tryz.isAgg89
 z22:=Tryz.sizeOf89
 v22:=Tryz.zeroValue89
 i3:=by kernel_rfl }
open Go.RowKit Go.Lib in
theorem Tryz.slices_Clone_int (b off n c:Nat) (zs:List Int) (w:World) (hz:n <= zs.length) (hbig:n * 8 <= 140737488355328) (hc:∀ j,j < zs.length->w.cell? ⟨b,off + j,none⟩ = some (.int .i64 (zs.getD j 0))) :
  Calls prog 137 #[.slice (some ⟨b,off,none⟩) n c] w fun e w'=>∃ v',e = .returned v'/\w'.ownsRow w.heap.size 3 1 v' n ((zs.take n).map (Value.int .i64))/\v' ≠ .slice none 0 0/\Below w.heap.size w w':=Any.slices_Clone_int Tryz.laysNm215 b off n c zs w hz hbig hc
open Go.RowKit Go.Lib in
theorem Tryz.slices_Clone_int_nil (n c:Nat) (w:World) :
  Calls prog 137 #[.slice none n c] w fun e w'=>e = .returned (.slice none 0 0)/\w' = w:=Any.slices_Clone_int_nil Tryz.laysNm215 n c w
open Go.RowKit Go.Lib in
theorem Tryz.slices_Clone_int_zero (a:Addr) (c:Nat) (w:World) :
  Calls prog 137 #[.slice (some a) 0 c] w fun e w'=>∃ v',e = .returned v'/\w'.ownsRow w.heap.size 3 1 v' 0 []/\v' ≠ .slice none 0 0/\Below w.heap.size w w':=Any.slices_Clone_int_zero Tryz.laysNm215 a c w
def Tryz.QE:Go.Shelf.Ren:=⟨fun | 6=>138 | 15=>174 | 14=>173 | 28=>196 | 29=>197 | 20=>188 | 21=>189 | 22=>190 | 23=>191 | 24=>192 | 25=>193 | 26=>194 | 27=>195 | 46=>203 | 47=>204 | 48=>205 | 49=>206 | 50=>207 | 57=>217 | n=>n,fun | 22=>89 | 24=>3 | 25=>204 | 3=>3 | 39=>198 | 0=>0 | 53=>256 | 55=>34 | 4=>4 | 46=>249 | 45=>248 | 50=>253 | 5=>5 | 9=>9 | 66=>265 | 70=>268 | 76=>276 | 77=>277 | n=>n,fun | n=>n⟩
theorem Tryz.Ym:Go.Proofs.SlLaysF.n6 prog Tryz.QE:={
 mixed:=by rfl
 f6:=⟨Tryz.f138.name,by rfl,func138.trans (congrArg some (by rfl))⟩
 f14:=⟨Tryz.f173.name,by rfl,func173.trans (congrArg some (by rfl))⟩
 f15:=func174.trans (by rfl)
 f20:=⟨Tryz.f188.name,by rfl,func188.trans (congrArg some (by rfl))⟩
 f21:=⟨Tryz.f189.name,by rfl,func189.trans (congrArg some (by rfl))⟩
 f22:=⟨Tryz.f190.name,by rfl,func190.trans (congrArg some (by rfl))⟩
 f23:=⟨Tryz.f191.name,by rfl,func191.trans (congrArg some (by rfl))⟩
 f24:=⟨Tryz.f192.name,by rfl,func192.trans (congrArg some (by rfl))⟩
 f25:=⟨Tryz.f193.name,by rfl,func193.trans (congrArg some (by rfl))⟩
 f26:=⟨Tryz.f194.name,by rfl,func194.trans (congrArg some (by rfl))⟩
 f27:=⟨Tryz.f195.name,by rfl,func195.trans (congrArg some (by rfl))⟩
 f28:=func196.trans (by rfl)
 f29:=func197.trans (by rfl)
 f46:=⟨Tryz.f203.name,by rfl,func203.trans (congrArg some (by rfl))⟩
 f47:=func204.trans (by rfl)
 f48:=func205.trans (by rfl)
 f49:=⟨Tryz.f206.name,by rfl,func206.trans (congrArg some (by rfl))⟩
 f50:=⟨Tryz.f207.name,by rfl,func207.trans (congrArg some (by rfl))⟩
 f57:=⟨Tryz.f217.name,by rfl,func217.trans (congrArg some (by rfl))⟩
 t0:=underlying0
 a0:=Tryz.isAgg0
 z0:=Tryz.sizeOf0
 v0:=Tryz.zeroValue0
 t3:=underlying3
 a3:=Tryz.isAgg3
 z3:=Tryz.sizeOf3
 v3:=Tryz.zeroValue3
 t4:=underlying4
 a4:=Tryz.isAgg4
 z4:=Tryz.sizeOf4
 v4:=Tryz.zeroValue4
 t5:=underlying5
 a5:=Tryz.isAgg5
 z5:=Tryz.sizeOf5
 v5:=Tryz.zeroValue5
 t9:=underlying9
 a9:=Tryz.isAgg9
 z9:=Tryz.sizeOf9
 v9:=Tryz.zeroValue9
 t22:=underlying89
 a22:=Tryz.isAgg89
 z22:=Tryz.sizeOf89
 v22:=Tryz.zeroValue89
 a24:=Tryz.isAgg3
 z24:=Tryz.sizeOf3
 t25:=underlying204
 a25:=Tryz.isAgg204
 z25:=Tryz.sizeOf204
 v25:=Tryz.zeroValue204
 t39:=underlying198
 a39:=Tryz.isAgg198
 z39:=Tryz.sizeOf198
 v39:=Tryz.zeroValue198
 t45:=underlying248
 a45:=Tryz.isAgg248
 z45:=Tryz.sizeOf248
 v45:=Tryz.zeroValue248
 t46:=underlying249
 a46:=Tryz.isAgg249
 z46:=Tryz.sizeOf249
 v46:=Tryz.zeroValue249
 t50:=underlying253
 a50:=Tryz.isAgg253
 z50:=Tryz.sizeOf253
 v50:=Tryz.zeroValue253
 t53:=underlying256
 a53:=Tryz.isAgg256
 z53:=Tryz.sizeOf256
 v53:=Tryz.zeroValue256
 t55:=underlying34
 a55:=Tryz.isAgg34
 z55:=Tryz.sizeOf34
 v55:=Tryz.zeroValue34
 t66:=underlying265
 a66:=Tryz.isAgg265
 z66:=Tryz.sizeOf265
 v66:=Tryz.zeroValue265
 t70:=underlying268
 a70:=Tryz.isAgg268
 z70:=Tryz.sizeOf268
 v70:=Tryz.zeroValue268
 t76:=underlying276
 a76:=Tryz.isAgg276
 z76:=Tryz.sizeOf276
 v76:=Tryz.zeroValue276
 t77:=underlying277
 a77:=Tryz.isAgg277
 z77:=Tryz.sizeOf277
 v77:=Tryz.zeroValue277 }
def Tryz.keysL_ren:Go.Shelf.Ren:=⟨fun | 7=>143 | 10=>177 | n=>n,fun | 23=>154 | 26=>3 | 3=>153 | 28=>209 | 0=>0 | 27=>208 | 33=>175 | 4=>4 | n=>n,fun | n=>n⟩
theorem Tryz.keysL:Go.Proofs.SlLaysZI.n7 prog Tryz.keysL_ren:={
 mixed:=by rfl
 f7:=⟨Tryz.f143.name,by rfl,func143.trans (congrArg some (by rfl))⟩
 f10:=⟨Tryz.f177.name,by rfl,func177.trans (congrArg some (by rfl))⟩
 t0:=underlying0
 a0:=Tryz.isAgg0
 z0:=Tryz.sizeOf0
 v0:=Tryz.zeroValue0
 t4:=underlying4
 a4:=Tryz.isAgg4
 z4:=Tryz.sizeOf4
 v4:=Tryz.zeroValue4
 t23:=underlying154
 a23:=Tryz.isAgg154
 z23:=Tryz.sizeOf154
 v23:=Tryz.zeroValue154
 t26:=underlying3
 a26:=Tryz.isAgg3
 z26:=Tryz.sizeOf3
 v26:=Tryz.zeroValue3
 t27:=underlying208
 a27:=Tryz.isAgg208
 z27:=Tryz.sizeOf208
 v27:=Tryz.zeroValue208
 t28:=underlying209
 a28:=Tryz.isAgg209
 z28:=Tryz.sizeOf209
 v28:=Tryz.zeroValue209
 t33:=underlying175
 a33:=Tryz.isAgg175
 z33:=Tryz.sizeOf175
 v33:=Tryz.zeroValue175 }
def Tryz.Og:Go.Shelf.Ren:=⟨fun | 6=>142 | 8=>175 | 9=>176 | 11=>198 | 13=>174 | 12=>199 | 23=>196 | 24=>197 | 14=>208 | 15=>209 | 16=>210 | 17=>211 | 18=>212 | 19=>213 | 20=>214 | 21=>215 | 22=>216 | 25=>218 | 26=>204 | 27=>205 | 28=>219 | 29=>220 | 30=>221 | 31=>222 | n=>n,fun | 26=>3 | 28=>209 | 24=>89 | 0=>0 | 3=>3 | 37=>198 | 48=>256 | 50=>34 | 4=>4 | 40=>249 | 39=>248 | 45=>253 | 5=>5 | 9=>9 | 51=>265 | 55=>268 | 57=>276 | 58=>277 | 33=>175 | n=>n,fun | n=>n⟩
theorem Tryz.dE:Go.Proofs.SlLaysZI.n6 prog Tryz.Og:={
 mixed:=by rfl
 f6:=⟨Tryz.f142.name,by rfl,func142.trans (congrArg some (by rfl))⟩
 f8:=⟨Tryz.f175.name,by rfl,func175.trans (congrArg some (by rfl))⟩
 f11:=⟨Tryz.f198.name,by rfl,func198.trans (congrArg some (by rfl))⟩
 t0:=underlying0
 a0:=Tryz.isAgg0
 z0:=Tryz.sizeOf0
 v0:=Tryz.zeroValue0
 t24:=underlying89
 a24:=Tryz.isAgg89
 z24:=Tryz.sizeOf89
 v24:=Tryz.zeroValue89
 t26:=underlying3
 a26:=Tryz.isAgg3
 z26:=Tryz.sizeOf3
 v26:=Tryz.zeroValue3
 t28:=underlying209
 a28:=Tryz.isAgg209
 z28:=Tryz.sizeOf209
 v28:=Tryz.zeroValue209
 i26:=by kernel_rfl }
def Tryz.SB:Go.Shelf.Ren:=⟨fun | 5=>176 | 8=>174 | 7=>199 | 19=>196 | 20=>197 | 10=>208 | 11=>209 | 12=>210 | 13=>211 | 14=>212 | 15=>213 | 16=>214 | 17=>215 | 18=>216 | 30=>218 | 31=>204 | 32=>205 | 33=>219 | 34=>220 | 35=>221 | 40=>222 | n=>n,fun | 23=>89 | 25=>3 | 3=>3 | 32=>198 | 22=>89 | 0=>0 | 44=>256 | 46=>34 | 4=>4 | 36=>249 | 35=>248 | 41=>253 | 5=>5 | 9=>9 | 53=>265 | 57=>268 | 63=>276 | 64=>277 | n=>n,fun | n=>n⟩
theorem Tryz.Uy:Go.Proofs.SlLaysM.n5 prog Tryz.SB:={
 mixed:=by rfl
 f5:=⟨Tryz.f176.name,by rfl,func176.trans (congrArg some (by rfl))⟩
 f7:=⟨Tryz.f199.name,by rfl,func199.trans (congrArg some (by rfl))⟩
 f8:=func174.trans (by rfl)
 f10:=⟨Tryz.f208.name,by rfl,func208.trans (congrArg some (by rfl))⟩
 f11:=⟨Tryz.f209.name,by rfl,func209.trans (congrArg some (by rfl))⟩
 f12:=⟨Tryz.f210.name,by rfl,func210.trans (congrArg some (by rfl))⟩
 f13:=⟨Tryz.f211.name,by rfl,func211.trans (congrArg some (by rfl))⟩
 f14:=⟨Tryz.f212.name,by rfl,func212.trans (congrArg some (by rfl))⟩
 f15:=⟨Tryz.f213.name,by rfl,func213.trans (congrArg some (by rfl))⟩
 f16:=⟨Tryz.f214.name,by rfl,func214.trans (congrArg some (by rfl))⟩
 f17:=⟨Tryz.f215.name,by rfl,func215.trans (congrArg some (by rfl))⟩
 f18:=⟨Tryz.f216.name,by rfl,func216.trans (congrArg some (by rfl))⟩
 f19:=func196.trans (by rfl)
 f20:=func197.trans (by rfl)
 f30:=⟨Tryz.f218.name,by rfl,func218.trans (congrArg some (by rfl))⟩
 f31:=func204.trans (by rfl)
 f32:=func205.trans (by rfl)
 f33:=⟨Tryz.f219.name,by rfl,func219.trans (congrArg some (by rfl))⟩
 f34:=⟨Tryz.f220.name,by rfl,func220.trans (congrArg some (by rfl))⟩
 f35:=⟨Tryz.f221.name,by rfl,func221.trans (congrArg some (by rfl))⟩
 f40:=⟨Tryz.f222.name,by rfl,func222.trans (congrArg some (by rfl))⟩
 t0:=underlying0
 a0:=Tryz.isAgg0
 z0:=Tryz.sizeOf0
 v0:=Tryz.zeroValue0
 t3:=underlying3
 a3:=Tryz.isAgg3
 z3:=Tryz.sizeOf3
 v3:=Tryz.zeroValue3
 t4:=underlying4
 a4:=Tryz.isAgg4
 z4:=Tryz.sizeOf4
 v4:=Tryz.zeroValue4
 t5:=underlying5
 a5:=Tryz.isAgg5
 z5:=Tryz.sizeOf5
 v5:=Tryz.zeroValue5
 t9:=underlying9
 a9:=Tryz.isAgg9
 z9:=Tryz.sizeOf9
 v9:=Tryz.zeroValue9
 t22:=underlying89
 a22:=Tryz.isAgg89
 z22:=Tryz.sizeOf89
 v22:=Tryz.zeroValue89
 t23:=underlying89
 a23:=Tryz.isAgg89
 z23:=Tryz.sizeOf89
 v23:=Tryz.zeroValue89
 t25:=underlying3
 a25:=Tryz.isAgg3
 z25:=Tryz.sizeOf3
 v25:=Tryz.zeroValue3
 t32:=underlying198
 a32:=Tryz.isAgg198
 z32:=Tryz.sizeOf198
 v32:=Tryz.zeroValue198
 t35:=underlying248
 a35:=Tryz.isAgg248
 z35:=Tryz.sizeOf248
 v35:=Tryz.zeroValue248
 t36:=underlying249
 a36:=Tryz.isAgg249
 z36:=Tryz.sizeOf249
 v36:=Tryz.zeroValue249
 t41:=underlying253
 a41:=Tryz.isAgg253
 z41:=Tryz.sizeOf253
 v41:=Tryz.zeroValue253
 t44:=underlying256
 a44:=Tryz.isAgg256
 z44:=Tryz.sizeOf256
 v44:=Tryz.zeroValue256
 t46:=underlying34
 a46:=Tryz.isAgg34
 z46:=Tryz.sizeOf34
 v46:=Tryz.zeroValue34
 t53:=underlying265
 a53:=Tryz.isAgg265
 z53:=Tryz.sizeOf265
 v53:=Tryz.zeroValue265
 t57:=underlying268
 a57:=Tryz.isAgg268
 z57:=Tryz.sizeOf268
 v57:=Tryz.zeroValue268
 t63:=underlying276
 a63:=Tryz.isAgg276
 z63:=Tryz.sizeOf276
 v63:=Tryz.zeroValue276
 t64:=underlying277
 a64:=Tryz.isAgg277
 z64:=Tryz.sizeOf277
 v64:=Tryz.zeroValue277 }
end Go.Proofs
namespace Go.Proofs.YthmpmgknnibljaaGreat
open Go.Proofs.Tryz
set_option maxRecDepth 100000
set_option maxHeartbeats 3200000
open Go Go.RowKit
attribute [local go_sem ↓] Go.wp_at_zero Go.wp_at_succ
variable {D M k pd ps pz:Nat} {w:World} {o:Own} {rv:Value} {z:Am} {ob:Obj}
theorem UJ {k:IntKind} {a b:Int} (h:a = b):Ending.returned (.int k a) = .returned (.int k b):=by rw [h]
theorem Rx (e:Nat) (he:e < 18446744073709551616) (m:Int) (hm:m = (e:Int)) (n:Nat) (h1:1 <= n) (h3:n <= 3) (w:World):Calls prog 141 #[.int .u64 m, (n:aV)] w fun e' w'=>e' = .returned (.int .i64 ((e % n:Nat):Int))/\w = w':=by
 rcases (show n = 1 \/ n = 2 \/ n = 3 by omega) with rfl | rfl | rfl
 all_goals
  go_wp2
  go_ret;exact ⟨UJ aP,rfl⟩
theorem PD (n:Nat) (h1:1 <= n) (h3:n <= 3) (w:World):Calls prog 140 #[(n:aV)] w fun e' w'=>e' = .returned (.int .i64 ((n / 2 + 1:Nat):Int))/\w = w':=by
 all_goals
  go_wp2
  go_ret;exact ⟨rfl,rfl⟩
theorem YE (a b c d:Nat) (W:World):(Op.equalIn 10000 239 (.agg #[.int .u64 (a:Int), .int .u64 (b:Int)]) (.agg #[.int .u64 (c:Int), .int .u64 (d:Int)])).run prog W = .ok (((a:Int) == c) && ((b:Int) == d)) W:=by
 have h64:prog.underlying 34 = some (.int .u64):=underlying34;have hsz:(sizeOf 34).run prog W = .ok 1 W:=by rfl
 unfold Op.equalIn;simp only [Sem.run_bind,run_underlying underlying239,Result.andThen_ok,hsz];have e9:∀ (x y:Int) (W:World),(Op.equalIn 9999 34 (.int .u64 x) (.int .u64 y)).run prog W = .ok (x == y) W:=fun x y W=>run_equalIn_int W 9998 34 .u64 .u64 x y h64;have hp:∀ (x y:Int) (W:World),(part 34 #[.int .u64 x, .int .u64 y] 0).run prog W = .ok (.int .u64 x) W:=fun _ _ _=>rfl;have hq:∀ (x y:Int) (W:World),(part 34 #[.int .u64 x, .int .u64 y] 1).run prog W = .ok (.int .u64 y) W:=fun _ _ _=>rfl
 by_cases h1:(a:Int) = c
 ·by_cases h2:(b:Int) = d
  simp_all [List.range']
  simp_all [List.range']
 simp_all [List.range']
section
variable {w:World} {o:Own}
theorem Vm {w:World} {b:Nat} {x y:Value} (hr:w.rangeAt b 0 [x,y]):(Instr.loadAt 239 (.pointer b)).run prog w = .ok (.agg #[x,y]) w:=by
 exact run_loadVar_mid w b 0 239 [x,y] _ hr underlying239 rfl bf
def LJ (a b c d:Nat):Int:=if a = c/\b = d then 0 else if a < c \/ (a = c/\b < d) then -1 else 1
theorem YF (a b c d:Nat):Calls prog 178 #[.agg #[.int .u64 (a:Int), .int .u64 (b:Int)], .agg #[.int .u64 (c:Int), .int .u64 (d:Int)]] w (XL ai w o fun v _ _=>v = .int .i64 (LJ a b c d)):=by
 have s1:=((aj.refl ai w o).alloc (.cells #[.int .u64 (a:Int), .int .u64 (b:Int)] 239) (0,0)).alloc (.cells #[.int .u64 (c:Int), .int .u64 (d:Int)] 239) (0,0);have b1:=(Below.heap_alloc (w.alloc (.cells #[.int .u64 (a:Int), .int .u64 (b:Int)] 239)) (.cells #[.int .u64 (c:Int), .int .u64 (d:Int)] 239) w.heap.size bu).trans (heap_alloc_new w (.cells [.int .u64 (a:Int), .int .u64 (b:Int)].toArray 239));have b2:((w.alloc (.cells #[.int .u64 (a:Int), .int .u64 (b:Int)] 239)).alloc (.cells #[.int .u64 (c:Int), .int .u64 (d:Int)] 239)).heap[w.heap.size + 1]? = some (.cells [.int .u64 (c:Int), .int .u64 (d:Int)].toArray 239 (0,0)):=by
  have:=heap_alloc_new (w.alloc (.cells #[.int .u64 (a:Int), .int .u64 (b:Int)] 239)) (.cells [.int .u64 (c:Int), .int .u64 (d:Int)].toArray 239)
  simpa using this
 obtain ⟨W,hW⟩:=az ((w.alloc (.cells #[.int .u64 (a:Int), .int .u64 (b:Int)] 239)).alloc (.cells #[.int .u64 (c:Int), .int .u64 (d:Int)] 239));rw [hW] at s1 b1 b2;generalize Ak (Ak o w.heap.size (0,0)) (w.alloc (.cells #[.int .u64 (a:Int), .int .u64 (b:Int)] 239)).heap.size (0,0) = o1 at s1;have hl1:=ae (Vm (AV b1));have hl2:=ae (Vm (AV b2));have hc:=fun W=>YE a b c d W;have x0:W.drew.cell? w.heap.size = some (.int .u64 (a:Int)):=ag b1 0;have x1:W.drew.drew.cell? (aW w.heap.size 1) = some (.int .u64 (b:Int)):=ag b1 1;have y0:W.drew.cell? (aW (w.heap.size + 1) 0) = some (.int .u64 (c:Int)):=ag b2 0;have y1:W.drew.drew.cell? (aW (w.heap.size + 1) 1) = some (.int .u64 (d:Int)):=ag b2 1;have hS0:=aa2 x0 y0;have hS1:=aa2 x1 y1;have hWH:=ae hW;have hst:=ae s1;clear b1 b2 hW s1 x0 x1 y0 y1
 by_cases e1:a = c
 ·subst e1
  by_cases e2:b = d
  ·subst e2;have hu:=ae (show LJ a b a b = 0 by simp [LJ]);simp only [beq_self_eq_true,Bool.and_true] at hc;go_enter func178,ntmps178
   go_wp2_with ((with_reducible apply Bo);(try rw [hWH.out]);(first | exact hl1.out | exact hl2.out);simp only [Act.put,lsa,lsz,lss])
   go_ret;exact ⟨_,o1,rfl,hst.out,by rw [hu.out];rfl⟩
  ·have e2I:((b:Int) == (d:Int)) = false:=bg
   rw [e2I] at hc;simp only [Bool.and_false] at hc
   by_cases h:b < d
   ·clear e2;have hu:=ae (show LJ a b a d = -1 by unfold LJ;omega);have ltI:(b:Int) < (d:Int):=aP
    go_enter func178,ntmps178
    go_wp2_with ((with_reducible apply Bo);(try rw [hWH.out]);(first | exact hl1.out | exact hl2.out);simp only [Act.put,lsa,lsz,lss])
    refine wp_loop_rounds 2 ?_;rw [rounds_succ];go_wp2_with fail;refine Aa (fun w'=>w'.cell? w.heap.size = some (.int .u64 (a:Int))/\w'.cell? (aW (w.heap.size + 1) 0) = some (.int .u64 (a:Int))) (fun _=>true) bf hS0.out (fun hHeld => ?_);refine tq 0 (h:=tq 1 (h:=tq 2 (h:=tq 3 (h:=tq 4 (h:=tq 5 (h:=tq 6 (h:=tD (h:=?_))))))));clear hHeld;go_wp2_with fail;rw [rounds_succ];go_wp2_with fail;refine Aa (fun w'=>w'.cell? (aW w.heap.size 1) = some (.int .u64 (b:Int))/\w'.cell? (aW (w.heap.size + 1) 1) = some (.int .u64 (d:Int))) (fun _=>true) bf hS1.out (fun hHeld => ?_);refine tq 0 (h:=tq 1 (h:=tq 2 (h:=tq 3 (h:=tq 4 (h:=tq 5 (h:=tq 6 (h:=tD (h:=?_))))))));clear hHeld;go_wp2_with fail;refine Aa (fun w'=>w'.cell? (aW w.heap.size 1) = some (.int .u64 (b:Int))/\w'.cell? (aW (w.heap.size + 1) 1) = some (.int .u64 (d:Int))) (fun _=>true) bf hS1.out (fun hHeld => ?_);refine tq 0 (h:=tq 1 (h:=tq 2 (h:=tq 3 (h:=tq 4 (h:=tq 5 (h:=tq 6 (h:=tD (h:=?_))))))));clear hHeld;go_wp2_with fail;go_ret;exact ⟨_,o1,rfl,hst.out.drew.drew.drew,by rw [hu.out];rfl⟩
   ·clear e2;have hu:=ae (show LJ a b a d = 1 by unfold LJ;grind);go_enter func178,ntmps178
    go_wp2_with ((with_reducible apply Bo);(try rw [hWH.out]);(first | exact hl1.out | exact hl2.out);simp only [Act.put,lsa,lsz,lss])
    refine wp_loop_rounds 2 ?_;rw [rounds_succ];go_wp2_with fail;refine Aa (fun w'=>w'.cell? w.heap.size = some (.int .u64 (a:Int))/\w'.cell? (aW (w.heap.size + 1) 0) = some (.int .u64 (a:Int))) (fun _=>true) bf hS0.out (fun hHeld => ?_);refine tq 0 (h:=tq 1 (h:=tq 2 (h:=tq 3 (h:=tq 4 (h:=tq 5 (h:=tq 6 (h:=tD (h:=?_))))))));clear hHeld;go_wp2_with fail;rw [rounds_succ];go_wp2_with fail;refine Aa (fun w'=>w'.cell? (aW w.heap.size 1) = some (.int .u64 (b:Int))/\w'.cell? (aW (w.heap.size + 1) 1) = some (.int .u64 (d:Int))) (fun _=>true) bf hS1.out (fun hHeld => ?_);refine tq 0 (h:=tq 1 (h:=tq 2 (h:=tq 3 (h:=tq 4 (h:=tq 5 (h:=tq 6 (h:=tD (h:=?_))))))));clear hHeld;go_wp2_with fail;refine Aa (fun w'=>w'.cell? (aW w.heap.size 1) = some (.int .u64 (b:Int))/\w'.cell? (aW (w.heap.size + 1) 1) = some (.int .u64 (d:Int))) (fun _=>true) bf hS1.out (fun hHeld => ?_);refine tq 0 (h:=tq 1 (h:=tq 2 (h:=tq 3 (h:=tq 4 (h:=tq 5 (h:=tq 6 (h:=tD (h:=?_))))))));clear hHeld;go_wp2_with fail;go_ret;exact ⟨_,o1,rfl,hst.out.drew.drew.drew,by rw [hu.out];rfl⟩
 ·have e1I:((a:Int) == (c:Int)) = false:=bg
  rw [e1I] at hc;simp only [Bool.false_and] at hc
  by_cases h:a < c
  ·clear e1;have hu:=ae (show LJ a b c d = -1 by unfold LJ;omega);have ltI:(a:Int) < (c:Int):=aP
   go_enter func178,ntmps178
   go_wp2_with ((with_reducible apply Bo);(try rw [hWH.out]);(first | exact hl1.out | exact hl2.out);simp only [Act.put,lsa,lsz,lss])
   refine wp_loop_rounds 2 ?_;rw [rounds_succ];go_wp2_with fail;refine Aa (fun w'=>w'.cell? w.heap.size = some (.int .u64 (a:Int))/\w'.cell? (aW (w.heap.size + 1) 0) = some (.int .u64 (c:Int))) (fun _=>true) bf hS0.out (fun hHeld => ?_);refine tq 0 (h:=tq 1 (h:=tq 2 (h:=tq 3 (h:=tq 4 (h:=tq 5 (h:=tq 6 (h:=tD (h:=?_))))))));clear hHeld;go_wp2_with fail;refine Aa (fun w'=>w'.cell? w.heap.size = some (.int .u64 (a:Int))/\w'.cell? (aW (w.heap.size + 1) 0) = some (.int .u64 (c:Int))) (fun _=>true) bf hS0.out (fun hHeld => ?_);refine tq 0 (h:=tq 1 (h:=tq 2 (h:=tq 3 (h:=tq 4 (h:=tq 5 (h:=tq 6 (h:=tD (h:=?_))))))));clear hHeld;go_wp2_with fail;go_ret;exact ⟨_,o1,rfl,hst.out.drew.drew,by rw [hu.out];rfl⟩
  ·clear e1;have hu:=ae (show LJ a b c d = 1 by unfold LJ;grind)
   go_enter func178,ntmps178
   go_wp2_with ((with_reducible apply Bo);(try rw [hWH.out]);(first | exact hl1.out | exact hl2.out);simp only [Act.put,lsa,lsz,lss])
   refine wp_loop_rounds 2 ?_;rw [rounds_succ];go_wp2_with fail;refine Aa (fun w'=>w'.cell? w.heap.size = some (.int .u64 (a:Int))/\w'.cell? (aW (w.heap.size + 1) 0) = some (.int .u64 (c:Int))) (fun _=>true) bf hS0.out (fun hHeld => ?_);refine tq 0 (h:=tq 1 (h:=tq 2 (h:=tq 3 (h:=tq 4 (h:=tq 5 (h:=tq 6 (h:=tD (h:=?_))))))));clear hHeld;go_wp2_with fail;refine Aa (fun w'=>w'.cell? w.heap.size = some (.int .u64 (a:Int))/\w'.cell? (aW (w.heap.size + 1) 0) = some (.int .u64 (c:Int))) (fun _=>true) bf hS0.out (fun hHeld => ?_);refine tq 0 (h:=tq 1 (h:=tq 2 (h:=tq 3 (h:=tq 4 (h:=tq 5 (h:=tq 6 (h:=tD (h:=?_))))))));clear hHeld;go_wp2_with fail;go_ret;exact ⟨_,o1,rfl,hst.out.drew.drew,by rw [hu.out];rfl⟩
theorem YD (a b c d:Nat) (B D:Int) (hB:B = (b:Nat)) (hD:D = (d:Nat)):Calls prog 178 #[.agg #[.int .u64 (a:Int), .int .u64 B], .agg #[.int .u64 (c:Int), .int .u64 D]] w (XL ai w o fun v _ _=>v = .int .i64 (LJ a b c d)):=by
 subst hB hD;exact YF a b c d
theorem Xx (c1 c2 l1 l2:Nat) (h1:l1 <= 256) (h2:l2 <= 256):Calls prog 144 #[.int .u64 (c1:Int), (l1:aV), .int .u64 (c2:Int), (l2:aV)] w (XL ai w o fun v _ _=>v = .bool (decide (c2 < c1) || (decide (c1 = c2) && decide (l2 < l1)))):=by
 have i1:(0:Int) <= (l1:Int)/\(l1:Int) <= 256:=aP
 have i2:(0:Int) <= (l2:Int)/\(l2:Int) <= 256:=aP
 have ho:=ae (YD (w:=w) (o:=o) c1 (l1 + 9223372036854775808) c2 (l2 + 9223372036854775808) ((l1:Int) + 9223372036854775808) ((l2:Int) + 9223372036854775808) aP aP);have hu:=ae (show (decide (c2 < c1) || (decide (c1 = c2) && decide (l2 < l1))) = decide (0 < LJ c1 (l1 + 9223372036854775808) c2 (l2 + 9223372036854775808)) by
  unfold LJ
  grind)
 clear h1 h2;generalize LJ c1 (l1 + 9223372036854775808) c2 (l2 + 9223372036854775808) = R at *;go_enter func144,ntmps144;go_wp2_with fail;refine ho.out.mono ?_;rintro e w1 ⟨v1,o1,rfl,hs,rfl⟩;go_wp2_with fail;go_ret;exact ⟨_,o1,rfl,hs,by rw [hu.out];rfl⟩
end
theorem aG (a id n:Nat) (ha:a <= 281474976710656) (h1:1 <= n) (h3:n <= 3) (hi:id < n) (w:World):Calls prog 88 #[.int .u64 (a:Int), (id:aV), (n:aV)] w fun e' w'=>e' = .returned (.int .u64 ((a + 1 + (id + n - (a + 1) % n) % n:Nat):Int))/\w = w':=by
 have ia:(0:Int) <= (a:Int)/\(a:Int) <= 281474976710656:=aP
 have ho:=ae (Rx (a + 1) aP ((a:Int) + 1) aP n h1 h3 w);have hm:(a + 1) % n < n:=Nat.mod_lt _ aP;obtain ⟨r,hr⟩:=az ((a + 1) % n);rw [hr] at ho hm ⊢;have hI:(0:Int) <= (id:Int) - (r:Int) + (n:Int):=aP
 have hsub:(id:Int) - (r:Int) + (n:Int) = ((id + n - r:Nat):Int):=aP
 have hu:((a + 1 + (id + n - r) % n:Nat):Int) = (a:Int) + 1 + ((id:Int) - (r:Int) + (n:Int)) % (n:Int):=by
  grind
 have huH:=ae hu;have hml:(0:Int) <= ((id:Int) - (r:Int) + (n:Int)) % (n:Int)/\((id:Int) - (r:Int) + (n:Int)) % (n:Int) < 3:=⟨aP,by have:=Int.emod_lt_of_pos ((id:Int) - (r:Int) + (n:Int)) (show (0:Int) < n by omega);omega⟩;have g1:¬ (n:Int) < 1:=aP
 have g2:¬ (id:Int) < 0:=aP
 have g3:¬ (n:Int) <= (id:Int):=aP
 have g4:¬ (281474976710656:Int) < (a:Int):=aP
 have n0:(0:Int) < (n:Int)/\(n:Int) <= 3:=aP
 have r0:(0:Int) <= (r:Int)/\(r:Int) < 3:=aP
 clear hu hsub hm hr ha h1 h3 hi;go_enter func88,ntmps88;go_wp2_with fail;refine ho.out.mono ?_;rintro e w' ⟨rfl,rfl⟩;go_wp2_with fail;go_ret;refine ⟨UJ ?_,rfl⟩;rw [huH.out];have hmod:((id:Int) - (r:Int) + (n:Int)) % (n:Int) = ((id:Int) - (r:Int)) % (n:Int):=bu;rw [hmod] at hml ⊢;rw [IntWalk.u64_in _ (show 0 <= ((id:Int) - (r:Int)) % (n:Int)/\((id:Int) - (r:Int)) % (n:Int) <= 18446744073709551615 by omega),IntWalk.u64_in _ aP]
open Go Go.RowKit Go.Sort
def Em (x y:Int):Int:=if y < x then -1 else if x < y then 1 else 0
theorem bI (x y:Int) (w:World):Calls prog 139 #[.int .i64 x, .int .i64 y] w fun e w'=>e = .returned (.int .i64 (Em x y))/\∃ q,w' = w.drewN q:=by
 by_cases h1:y < x
 ·have hu:=ae (show Em x y = -1 by unfold Em;omega);go_enter func139,ntmps139
  go_wp2
  go_ret;exact ⟨by rw [hu.out];rfl,0,rfl⟩
 ·by_cases h2:x < y
  ·have hu:=ae (show Em x y = 1 by unfold Em;omega);go_wp2
   go_ret;exact ⟨by rw [hu.out];rfl,0,rfl⟩
  ·have hu:=ae (show Em x y = 0 by unfold Em;omega);go_wp2
   go_ret;exact ⟨by rw [hu.out];rfl,0,rfl⟩
theorem QD (l:List Int) (h1:1 <= l.length) (h3:l.length <= 3):(Sort.insertionSort (ltOf Em) l.toArray 0 l.length).size = l.length/\(Sort.insertionSort (ltOf Em) l.toArray 0 l.length)[l.length / 2]? = some (CW l):=by
 match l,h1,h3 with
 | [a],_,_ =>
  have e:Sort.insertionSort (ltOf Em) #[a] 0 1 = #[a]:=by simp [Sort.insertionSort,insOuter]
  rw [show [a].toArray = #[a] from rfl,show [a].length = 1 from rfl,e];exact ⟨rfl,rfl⟩
 | [a,b],_,_ =>
  by_cases h:a < b
  ·have e:Sort.insertionSort (ltOf Em) #[a,b] 0 2 = #[b,a]:=by
    simp [Sort.insertionSort,insOuter,insInner,ltOf,Em,swp,h]
   rw [show [a,b].toArray = #[a,b] from rfl,show [a,b].length = 2 from rfl,e];refine ⟨rfl, ?_⟩;show some a = some (min a b);grind
  ·have e:Sort.insertionSort (ltOf Em) #[a,b] 0 2 = #[a,b]:=by
    grind [Sort.insertionSort,insOuter,insInner,ltOf,Em]
   rw [show [a,b].toArray = #[a,b] from rfl,show [a,b].length = 2 from rfl,e];refine ⟨rfl, ?_⟩;show some b = some (min a b);grind
 | [a,b,c],_,_ =>
  have key:∀ x y z:Int,Sort.insertionSort (ltOf Em) #[a,b,c] 0 3 = #[x,y,z]->y = max (min a b) (min (max a b) c)->(Sort.insertionSort (ltOf Em) #[a,b,c] 0 3).size = 3/\(Sort.insertionSort (ltOf Em) #[a,b,c] 0 3)[3 / 2]? = some (CW [a,b,c]):=by
   intro x y z e h;rw [e];refine ⟨rfl, ?_⟩;show some y = some (max (min a b) (min (max a b) c));rw [h]
  by_cases h1:a < b
  ·by_cases h2:b < c
   ·exact key c b a (by simp [Sort.insertionSort,insOuter,insInner,ltOf,Em,swp,h1,h2,show a < c by omega]) aP
   ·by_cases h3:a < c
    ·refine key b c a (by
      by_cases h4:c < b
      ·simp [Sort.insertionSort,insOuter,insInner,ltOf,Em,swp,h1,h2,h3,h4]
      ·simp [Sort.insertionSort,insOuter,insInner,ltOf,Em,swp,h1,h2,h3,h4]) aP
    ·refine key b a c (by
      by_cases h4:c < a
      ·simp [Sort.insertionSort,insOuter,insInner,ltOf,Em,swp,h1,h3,h4]
      ·simp [Sort.insertionSort,insOuter,insInner,ltOf,Em,swp,h1,h3,h4]) aP
  ·have hab:∀ (p q:Int),(if b < a then -1 else if a < b then 1 else (0:Int)) = p->True:=bu
   by_cases h2:b < c
   ·by_cases h3:a < c
    ·refine key c a b (by
      by_cases h4:b < a
      ·simp [Sort.insertionSort,insOuter,insInner,ltOf,Em,swp,h1,h2,h3,h4]
      ·simp [Sort.insertionSort,insOuter,insInner,ltOf,Em,swp,h1,h2,h3,h4]) aP
    ·refine key a c b (by
      by_cases h4:b < a <;> by_cases h5:c < a <;> simp [Sort.insertionSort,insOuter,insInner,ltOf,Em,swp,h1,h2,h3,h4,h5]) aP
   ·refine key a b c (by
     by_cases h4:b < a <;> by_cases h5:c < b <;> simp [Sort.insertionSort,insOuter,insInner,ltOf,Em,h1,h2,h4,h5]) aP
theorem ZU {g:Nat} {cs:Array Value} {E:TypeId} {l:List Int} (hg:w.heap[g]? = some (.cells cs E (0,0))) (ht:cs.toList.take l.length = ivs l):Holds (Value.int .i64) w g 0 l.toArray:=by
 intro j hj;have hj':j < l.length:=aP
 refine ⟨?_,by simp [World.frozen?,hg]⟩;have h1:(cs.toList.take l.length)[j]? = (ivs l)[j]?:=bg
 rw [List.getElem?_take_of_lt hj',Array.getElem?_toList] at h1;simp_all [World.cell?,ivs]
theorem VZ {b cap:Nat} {nR:List Int} (hr:w.rangeAt b 0 (ivs nR)) (h1:1 <= nR.length) (h3:nR.length <= 3) :
  Calls prog 86 #[.slice b nR.length cap] w (XL ai w o fun v _ _=>v = .int .i64 (CW nR)):=by
 have hcl:=Tryz.slices_Clone_int b 0 nR.length cap nR w bu aP (fun j hj=>by
  have:=hr j (.int .i64 (nR.getD j 0)) (by simp [ivs,hj])
  omega)
 rw [List.take_length] at hcl;obtain ⟨n,hn⟩:=az (nR.length);have hsc:=QD nR h1 h3;have hnI:(1:Int) <= (n:Int)/\(n:Int) <= 3:=aP
 have xG:=ae hcl;have hq:=ae (PD n aP aP);rw [hn] at xG hsc ⊢;have hnH:=ae hn;have Akf:=ae hsc;clear hcl hsc hn hr h1 h3;go_enter func86,ntmps86;go_wp2_with fail;refine xG.out.mono ?_;rintro e w1 ⟨v1,rfl,hown, -,hbel⟩;have hst:aj ai w o w1 (ext w o):=⟨hbel.os,hbel.tape,hbel.output,hbel.size,fun k hk=>if_pos hk,fun k hk _=>hbel.block k hk⟩
 rcases hown.2 with ⟨-,h0⟩ | ⟨g,cap',cur,rfl,q1,q2,q3,q4,q5,q6⟩
 omega
 have hrun:=ZU (l:=nR) q2 (by rw [hnH.out, <-Nat.mul_one n];exact q6);have hso:=Any.slices_SortFunc_small Tryz.Ym (Value.int .i64) (fun _=>rfl) Em 139 #[] g 0 cap' nR.toArray w1 Tryz.call139 (fun _ _ _ _ x y=>bI x y _) hrun (by simp [hnH.out];omega) (fun m W hm=>(Tryz.bits_Len m W aP aP).mono fun _ _ ⟨he,hw⟩=>⟨bg,hw⟩)
 change Calls prog 138 _ _ _ at hso
 have es:nR.toArray.size = n:=by assumption
 rw [es] at hso;obtain ⟨S,hS⟩:=az (Sort.insertionSort (ltOf Em) nR.toArray 0 n);rw [hS] at hso Akf;have hsz:S.size = nR.toArray.size:=by rw [es];exact Akf.out.1
 have hcell:(putRow (Value.int .i64) w1 g 0 S).cell? (aW g (n / 2)) = some (.int .i64 (CW nR)):=by
  have h:=(holds_putRow (Value.int .i64) w1 g 0 nR.toArray S hrun hsz (n / 2) aP).1;rw [Nat.zero_add] at h;rw [h];have h2:=Akf.out.2;grind
 have hx:aj ai w o (putRow (Value.int .i64) w1 g 0 S) (ext w o):=by
  refine ⟨hst.os,hst.tape,hst.output,by simpa using hst.size,hst.own,fun k hk hT => ?_⟩;rw [<-hst.block k hk hT];have:g ≠ k:=aP
  simp [putRow,mapBlock,Array.getElem?_modify,this]
 have hst2:∀ q,aj ai w o ((putRow (Value.int .i64) w1 g 0 S).drewN q) (ext w o):=fun q=>hx.drewN q;have Aaz:=ae hso;have hcI:(0:Int) <= (n:Int) / 2/\(n:Int) / 2 < (n:Int):=aP
 have hcN:((n:Int) / 2).toNat = n / 2:=aP
 have Abe:=ae hst2;clear hso hst hst2 hx hown hbel hrun hsz hS es hnH Akf q1 q2 q3 q4 q5 q6;go_wp2_with fail;refine Aaz.out.mono ?_;rintro e w2 ⟨rfl,q,rfl⟩;have hc2:((putRow (Value.int .i64) w1 g 0 S).drewN q).cell? ⟨g,n / 2,none⟩ = some (.int .i64 (CW nR)):=hcell;have hF:=ae (Abe.out q);obtain ⟨W,hW⟩:=az ((putRow (Value.int .i64) w1 g 0 S).drewN q);rw [hW] at hc2 hF ⊢;clear hW hcell Aaz;go_wp2_with fail;refine (hq.out W).mono ?_;rintro e w3 ⟨rfl,rfl⟩;go_wp2_with fail;go_ret;exact ⟨_,_,rfl,hF.out,rfl⟩
def InN (D M:Nat):Nat->Prop:=fun k=>k = D \/ (M < k/\k <= M + 4)
theorem InN.zero (hD:D ≠ 0):¬ InN D M 0:=by unfold InN;omega
theorem InN.own:InN D M (M + 4):=by unfold InN;omega
theorem InN.in4:∀ k,qG (M + 1) (M + 2) (M + 3) D k->InN D M k:=by simp [qG,InN]
theorem InN.self (hDM:D <= M):∀ k,ak (M + 4) k->k ≠ 0/\¬ qG (M + 1) (M + 2) (M + 3) D k:=by grind [ak,qG]
theorem InN.WZ (hDM:D <= M) (_hD:D ≠ 0):¬ qG (M + 1) (M + 2) (M + 3) D (M + 4):=by unfold qG;omega
def IL (id n ps:Nat) (rv:Value) (waited:Nat) (seen:BitVec 64) (Ag:Nat):List Value:=
 [(id:aV), (n:aV), .pointer ps,rv, (waited:aV), (seen:aV), (Ag:aV)]
def PH (c:BitVec 64) (lv:Value):Value := .agg #[(c:aV),lv]
def Bd (j:Nat):List (Nat × BitVec 64 × Value)->List MapEntry
 | []=>[]
 | x :: r=>⟨.int .i64 (x.1:Int),PH x.2.1 x.2.2,j⟩ :: Bd (j + 1) r
def OE (w:World) (o:Own) (Z mb:Nat) (has:List (Option (BitVec 64 × List Ar))):Prop:=
 ∃ es:List (Nat × BitVec 64 × Value),w.heap[mb]? = some (.map (Bd 0 es).toArray es.length)/\o mb = (Z,2)/\(es.map (·.1)).Nodup /\
  (∀ x ∈ es,∃ ls,has[x.1]? = some (some (x.2.1,ls))/\Lines w o 0 x.2.2 ls)/\∀ i p,has[i]? = some (some p)->∃ x ∈ es,x.1 = i
def KA (w:World) (o:Own) (Z p:Nat) (mine:BitVec 64) (has:List (Option (BitVec 64 × List Ar))):Prop:=
 ∃ mb,w.heap[p]? = some (.cells [(mine:aV), .map (some mb)].toArray 156 (0,0))/\o p = (Z,1)/\OE w o Z mb has
def Nw (w:World) (o:Own) (Z p:Nat) (mine:BitVec 64) (nR:List Int) (base:Nat) (ready:Bool):Prop:=
 ∃ b:Nat,∃ cap,w.heap[p]? = some (.cells [(mine:aV), .slice b nR.length cap, (base:aV), .bool ready].toArray 91 (0,0))/\o p = (Z,1) /\
  w.heap[b]? = some (.cells (ivs nR).toArray 3 (0,0))/\o b = (Z,2)/\nR.length <= cap/\cap <= maxLen
def IE (w:World) (o:Own) (Z:Nat) (rv:Value):Adl->Prop
 | .follows=>rv = .iface 115 (.agg #[])
 | .stands mine has=>∃ p:Nat,rv = .iface 151 (.pointer p)/\KA w o Z p mine has
 | .leads mine nR base ready=>∃ p:Nat,rv = .iface 87 (.pointer p)/\Nw w o Z p mine nR base ready
def GK (w:World) (o:Own) (Z pz ps:Nat) (rv:Value) (z:Am):Prop:=
 w.heap[pz]? = some (.cells (IL z.id z.n ps rv z.waited z.seen z.Ag).toArray 86 (0,0))/\o pz = (Z,0)
def Bc (w:World) (o:Own) (D M pz ps pd:Nat) (z:Am):Prop:=
 (D <= M/\D ≠ 0)/\∃ rv,GK w o (M + 4) pz ps rv z/\IE w o (M + 4) rv z.BB/\Bi w o (M + 1) (M + 2) (M + 3) D ps pd 0 z.s
section
variable {T:Nat->Prop} {w w':World} {o o':Own} {Z D M pz ps pd:Nat}
theorem OE.step {mb:Nat} {has:List (Option (BitVec 64 × List Ar))} (h:OE w o Z mb has) (s:aj T w o w' o') (hZ:¬ T Z) (h0:¬ T 0):OE w' o' Z mb has:=by
 obtain ⟨es,h1,h2,h3,h4,h5⟩:=h;have hl:=au h1;refine ⟨es,by rw [s.block mb hl bg];omega,by rw [s.own mb hl];omega,h3,fun x hx => ?_,h5⟩;obtain ⟨ls,a,b⟩:=h4 x hx;exact ⟨ls,a,b.step s h0⟩
theorem KA.step {p:Nat} {mine:BitVec 64} {has:List (Option (BitVec 64 × List Ar))} (h:KA w o Z p mine has) (s:aj T w o w' o') (hZ:¬ T Z) (h0:¬ T 0):KA w' o' Z p mine has:=by
 obtain ⟨mb,h1,h2,h3⟩:=h;have hl:=au h1;exact ⟨mb,by rw [s.block p hl bg];omega,by rw [s.own p hl];omega,h3.step s hZ h0⟩
theorem Nw.step {p:Nat} {mine:BitVec 64} {nR:List Int} {base:Nat} {ready:Bool} (h:Nw w o Z p mine nR base ready) (s:aj T w o w' o') (hZ:¬ T Z):Nw w' o' Z p mine nR base ready:=by
 obtain ⟨b,cap,h1,h2,h3,h4,h5,h6⟩:=h;have hl:=au h1;have hb:=au h3;exact ⟨b,cap,by rw [s.block p hl bg];omega,by rw [s.own p hl];omega,by rw [s.block b hb bg];omega,by rw [s.own b hb];omega,h5,h6⟩
theorem IE.step {r:Adl} (h:IE w o Z rv r) (s:aj T w o w' o') (hZ:¬ T Z) (h0:¬ T 0):IE w' o' Z rv r:=by
 cases r with
 | follows=>exact h
 | stands mine has=>obtain ⟨p,h1,h2⟩:=h;exact ⟨p,h1,h2.step s hZ h0⟩
 | leads mine nR base ready=>obtain ⟨p,h1,h2⟩:=h;exact ⟨p,h1,h2.step s hZ⟩
theorem GK.step (h:GK w o Z pz ps rv z) (s:aj T w o w' o') (hZ:¬ T Z):GK w' o' Z pz ps rv z:=by
 have hl:=au h.1;exact ⟨by rw [s.block pz hl (by rw [h.2];omega)];exact h.1,by rw [s.own pz hl];exact h.2⟩
theorem Bc.step (h:Bc w o D M pz ps pd z) (s:aj T w o w' o') (hT:∀ t,T t->t ≠ 0/\¬ InN D M t):Bc w' o' D M pz ps pd z:=by
 obtain ⟨hDM,rv,h1,h2,h3⟩:=h;have h0:¬ T 0:=bg;have hZ:¬ T (M + 4):=fun h=>(hT _ h).2 InN.own;exact ⟨hDM,rv,h1.step s hZ,h2.step s hZ h0,h3.step s fun t ht=>⟨bg,fun h=>(hT t ht).2 (InN.in4 t h)⟩⟩
theorem Bc.step0 (h:Bc w o D M pz ps pd z) (s:aj ai w o w' o'):Bc w' o' D M pz ps pd z:=h.step s fun _ h=>h.elim
theorem GK.cells (h:GK w o Z pz ps rv z) :
  (w.cell? pz = some (z.id:aV)/\w.cell? (aW pz 1) = some (z.n:aV)/\w.cell? (aW pz 2) = some (.pointer ps)/\w.cell? (aW pz 3) = some rv /\
   w.cell? (aW pz 4) = some (z.waited:aV)/\w.cell? (aW pz 5) = some (z.seen:aV)/\w.cell? (aW pz 6) = some (z.Ag:aV))/\(∀ i,w.frozen? (aW pz i) = false)/\pz < w.heap.size:=by
 have c:=ag h.1;exact ⟨⟨c 0,c 1,c 2,c 3,c 4,c 5,c 6⟩,fun i=>Ap h.1 i,au h.1⟩
end
theorem FI (h:Bc w o D M pz ps pd z):Calls prog 29 #[.pointer pz] w fun e w'=>e = .returned (.bool z.dead)/\w = w':=by
 obtain ⟨-,rv,hb, -,hs⟩:=h;obtain ⟨⟨-, -,c2, -⟩, -⟩:=hb.cells;have hd:=ae (KH hs);go_enter func29,ntmps29;go_wp2_with fail;refine hd.out.mono ?_;rintro e w' ⟨rfl,rfl⟩;go_wp2_with fail;go_ret;exact ⟨rfl,rfl⟩
theorem eF (w:World) (a b c:Value):(Instr.field 55 (.agg #[a,b,c]) 0).run prog w = .ok a w:=bf
theorem He (w:World) (a b c:Value):(Instr.field 55 (.agg #[a,b,c]) 2).run prog w = .ok c w:=bf
theorem RS (h:Bc w o D M pz ps pd z) (hsm:small z.s.kept.lines):Calls prog 16 #[.pointer pz] w (XL ai w o fun v _ _=>v = .int .u64 (z.s.kept.promised.toNat:Int)):=by
 obtain ⟨-,rv,hb, -,hs⟩:=h;obtain ⟨⟨-, -,c2, -⟩, -⟩:=hb.cells;have hk:=ae (DJ hs hsm);go_enter func16,ntmps16;go_wp2_with fail;refine hk.out.mono ?_;rintro e w1 ⟨v,o1,rfl,hs,lv,rfl,hl,rfl⟩;obtain ⟨la,lc,rfl⟩:=hl.form;have hfk:=eF w1 (z.s.kept.promised:aV) (z.s.kept.current:aV) (.slice la z.s.kept.lines.length lc);unfold Dy;go_wp2_with fail;go_ret;exact ⟨_,_,rfl,hs,rfl⟩
section
variable (w:World) (p:Option Addr)
theorem ZI:(Instr.typeAssert (.iface 115 (.agg #[])) 84 87 true).run prog w = .ok (.tuple #[.pointer none, .bool false]) w:=bf
theorem ZG:(Instr.typeAssert (.iface 151 (.pointer p)) 84 87 true).run prog w = .ok (.tuple #[.pointer none, .bool false]) w:=bf
theorem ZH:(Instr.typeAssert (.iface 87 (.pointer p)) 84 87 true).run prog w = .ok (.tuple #[.pointer p, .bool true]) w:=bf
theorem gV:(Instr.typeAssert (.iface 115 (.agg #[])) 84 151 true).run prog w = .ok (.tuple #[.pointer none, .bool false]) w:=bf
theorem gQ:(Instr.typeAssert (.iface 151 (.pointer p)) 84 151 true).run prog w = .ok (.tuple #[.pointer p, .bool true]) w:=bf
theorem gU:(Instr.typeAssert (.iface 87 (.pointer p)) 84 151 true).run prog w = .ok (.tuple #[.pointer none, .bool false]) w:=bf
end
theorem RF (h:Bc w o D M pz ps pd z):Calls prog 23 #[.pointer pz] w fun e w'=>e = .returned (.bool z.BN.OD)/\w = w':=by
 obtain ⟨-,rv,hb,hr, -⟩:=h;obtain ⟨⟨-, -, -,c3, -⟩, -⟩:=hb.cells;clear hb;have hL:z.BN.OD = (match z.BB with | .leads _ _ _ r=>r | _=>false):=rfl
 cases hrr:z.BB with
 | follows =>
  rw [hrr] at hr hL;obtain rfl:rv = .iface 115 (.agg #[]):=hr;have hta:=ZI w;have hLH:=ae hL;clear hrr hL;go_enter func23,ntmps23;go_wp2_with fail;go_ret;exact ⟨by rw [hLH.out];rfl,rfl⟩
 | stands mine has =>
  rw [hrr] at hr hL;obtain ⟨p,rfl, -⟩:=hr;have hta:=ZG w (some ⟨p,0,none⟩);have hLH:=ae hL;clear hrr hL;go_enter func23,ntmps23;go_wp2_with fail;go_ret;exact ⟨by rw [hLH.out];rfl,rfl⟩
 | leads mine nR base ready =>
  rw [hrr] at hr hL;obtain ⟨p,rfl,b,cap,hp, -⟩:=hr;have hta:=ZH w (some ⟨p,0,none⟩);have hLH:=ae hL;have cp:=ag hp 3;simp only [ay,ax] at cp;clear hrr hL hp;go_enter func23,ntmps23;go_wp2_with fail;go_ret;exact ⟨by rw [hLH.out];rfl,rfl⟩
abbrev Ent:=Nat × BitVec 64 × Value
theorem Nc:∀ (es:List Ent) (j:Nat),(Bd j es).length = es.length
 | [],_=>rfl
 | _ :: r,j=>by simp [Bd,Nc r (j + 1)]
theorem OB:∀ (a b:List Ent) (j:Nat),Bd j (a ++ b) = Bd j a ++ Bd (j + a.length) b
 | [],_,_=>by rfl
 | _ :: r,b,j=>by simp [Bd,OB r b (j + 1),Nat.add_assoc,Nat.add_comm 1]
theorem Qj:∀ (es:List Ent) (j:Nat) (e:MapEntry),e ∈ Bd j es->∃ x ∈ es,e.key = .int .i64 (x.1:Int)/\j <= e.born/\e.born < j + es.length
 | [],_,_,h=>by simp [Bd] at h
 | x :: r,j,e,h=>by
  simp [Bd,List.mem_cons] at h;rcases h with rfl | h
  simp
  ·obtain ⟨y,hy,h1,h2,h3⟩:=Qj r (j + 1) e h;grind
theorem TV (k:Int):∀ (es:List Ent) (j i:Nat),(∀ x ∈ es,(x.1:Int) ≠ k)->Instr.findNow (.int .i64) (.int .i64 k) (Bd j es) i = some none
 | [],_,_,_=>rfl
 | x :: r,j,i,h=>by
  have hb:(k == (x.1:Int)) = false:=bg
  simp [Bd,Instr.findNow,Instr.sameNow,hb];exact TV k r (j + 1) (i + 1) bg
theorem Qh {x:Ent}:∀ (es:List Ent) (j i:Nat),(es.map (·.1)).Nodup->x ∈ es->∃ i',Instr.findNow (.int .i64) (x.1:aV) (Bd j es) i = some (some (i',PH x.2.1 x.2.2))
 | [],_,_,_,h=>by grind
 | y :: r,j,i,hn,h=>by
  simp at hn
  rcases List.mem_cons.1 h with rfl | h
  simp [Bd,Instr.findNow,Instr.sameNow]
  ·have hb:((x.1:Int) == (y.1:Int)) = false:=bg
   simp [Bd,Instr.findNow,Instr.sameNow,hb];exact Qh r (j + 1) (i + 1) hn.2 h
section
variable {w:World} {mb c:Nat} {es:List Ent}
theorem MF (k:Int) (e:Bool):(Instr.checkKey e 10000 3 (.int .i64 k)).run prog w = .ok () w:=by
 rfl
theorem YB:(zeroValue 153).run prog w = .ok (.agg #[.int .u64 0, .slice none 0 0]) w:=bf
theorem SL (hb:w.heap[mb]? = some (.map (Bd 0 es).toArray c)) (hn:(es.map (·.1)).Nodup) {x:Ent} (hx:x ∈ es) :
  (Instr.lookup 154 (.map (some mb)) (x.1:aV) false).run prog w = .ok (PH x.2.1 x.2.2) w:=by
 obtain ⟨i,hi⟩:=Qh es 0 0 hn hx;simp only [Instr.lookup,Sem.run_bind,run_underlying underlying154,Result.andThen_ok,MapKept.run_getObj_map hb,Sem.run_pure,Instr.findKey,run_underlying underlying3,MF,hi];simp
theorem SK (hb:w.heap[mb]? = some (.map (Bd 0 es).toArray c)) (hn:(es.map (·.1)).Nodup) {x:Ent} (hx:x ∈ es) :
  (Instr.lookup 154 (.map (some mb)) (x.1:aV) true).run prog w = .ok (.tuple #[PH x.2.1 x.2.2, .bool true]) w:=by
 obtain ⟨i,hi⟩:=Qh es 0 0 hn hx;simp only [Instr.lookup,Sem.run_bind,run_underlying underlying154,Result.andThen_ok,MapKept.run_getObj_map hb,Sem.run_pure,Instr.findKey,run_underlying underlying3,MF,hi];simp
theorem UE (hb:w.heap[mb]? = some (.map (Bd 0 es).toArray c)) (hk:∀ x ∈ es,x.1 ≠ k) :
  (Instr.lookup 154 (.map (some mb)) (k:aV) true).run prog w = .ok (.tuple #[.agg #[.int .u64 0, .slice none 0 0], .bool false]) w:=by
 have hi:=TV (k:Int) es 0 0 bg;simp only [Instr.lookup,Sem.run_bind,run_underlying underlying154,Result.andThen_ok,MapKept.run_getObj_map hb,Sem.run_pure,Instr.findKey,run_underlying underlying3,MF,hi,YB];simp
def DR (w:World) (b:Nat) (o:Obj):World:={ w with heap:=w.heap.setIfInBounds b o }
theorem Md (hb:w.heap[mb]? = some (.map (Bd 0 es).toArray es.length)) (hk:∀ x ∈ es,x.1 ≠ k) (cu:BitVec 64) (lv:Value) :
  (Instr.mapUpdate 154 (.map (some mb)) (k:aV) (PH cu lv)).run prog w = .ok () (DR w mb (.map (Bd 0 (es ++ [(k,cu,lv)])).toArray (es ++ [(k,cu,lv)]).length)):=by
 have hi:=TV (k:Int) es 0 0 bg;have he:(Bd 0 (es ++ [(k,cu,lv)])).toArray = (Bd 0 es).toArray.push ⟨.int .i64 (k:Int),PH cu lv,es.length⟩:=by
  rw [OB];simp [Bd]
 rw [he,List.length_append,List.length_singleton];simp [Instr.mapUpdate,Sem.run_bind,run_underlying underlying154,Result.andThen_ok,MapKept.run_getObj_map hb,Sem.run_pure,Instr.findKey,run_underlying underlying3,MF,hi,MapKept.run_setObj_map _ hb];rfl
theorem aj.DR {T:Nat->Prop} {w w1:World} {o1:Own} (h:aj T w o w1 o1) (b:Nat) (ob:Obj) (ha:T (o1 b).1 \/ w.heap.size <= b):aj T w o (DR w1 b ob) o1:=by
 refine ⟨h.os,h.tape,h.output,by simpa [Go.Proofs.YthmpmgknnibljaaGreat.DR] using h.size,h.own,fun k hk hT => ?_⟩;rw [<-h.block k hk hT];have hne:b ≠ k:=by
  rintro rfl
  rcases ha with ha | ha
  ·rw [h.own _ hk] at ha;grind
  omega
 simp [Go.Proofs.YthmpmgknnibljaaGreat.DR,hne]
theorem Ot (hb:mb < w.heap.size):(DR w mb ob).heap[mb]? = some ob:=by simp [DR,hb]
theorem JS (h:mb ≠ k):(DR w mb ob).heap[k]? = w.heap[k]?:=by simp [DR,h]
@[simp] theorem bZ:(DR w mb ob).heap.size = w.heap.size:=by simp [DR]
end
theorem fC (m:Nat):AnyZI.SortsIn prog Tryz.Og Fence.wide m:=
 ⟨fun blk off cap ss W hH hblk hsz=>callsIn_wide.2 (AnyM.slices_Sort_int Tryz.Uy blk off cap ss W hH hblk hsz),
  fun p cap W=>callsIn_wide.2 (AnyM.slices_Sort_int_none Tryz.Uy p cap W)⟩
theorem aS (mb:Nat) (w:World):Calls prog 143 #[.map (some mb)] w fun e w'=>e = .returned (.func (.func 177) #[] #[.pointer w.heap.size])/\w' = w.alloc (.cells #[.map (some mb)] 154):=
 callsIn_wide.1 (AnyZI.keys_in Tryz.keysL Fence.wide 5 trivial rfl (some mb) w)
abbrev RU:Value->Option (DataW Unit × List MemPlace):=fun _=>some (.nil,[])
theorem aT (k:Nat) (hk:k <= 1000):keyOf prog 3 (.int .i64 (k:Int)) = some (.int .i64 (k:Int)):=
 Go.Maps.keyOf_int_mk underlying3 (by
  have h1:IntKind.i64.min = -9223372036854775808:=bz
  have h2:IntKind.i64.max = 9223372036854775807:=bz
  simp [Lit.wf,h1,h2,decide_eq_true_eq];omega)
theorem XR:∀ (es:List Ent) (j:Nat),(∀ x ∈ es,x.1 <= 1000)->((Bd j es).map (Go.WideElems.rg prog 3 RU)).map (fun p=>Go.intOf p.1) = es.map fun x=>(x.1:Int)
 | [],_,_=>rfl
 | x :: r,j,h=>by
  have hr:=Go.WideElems.rg_of (Go.WideElems.rd_mk (P:=prog) (k:=3) (R:=RU) (born:=j) (val:=PH x.2.1 x.2.2) (aT x.1 (h x bu)) (rfl:RU _ = some (.nil,[])));simp [Bd,List.map_cons,hr,XR r (j + 1) (fun y hy=>h y bg)];rfl
theorem bJ {es:List Ent} (hn:(es.map (·.1)).Nodup) (hs:∀ x ∈ es,x.1 <= 1000) (hl:es.length <= 1000):Go.WideElems.Fit prog 3 RU (Bd 0 es).toArray es.length:=by
 refine ⟨by grind [Nc,maxLen],⟨fun e he => ?_, ?_, ?_⟩,fun e he => ?_⟩
 grind [Qj]
 ·have key:∀ (es:List Ent) (j:Nat),((Bd j es).map (·.born)) = List.range' j es.length:=by
   intro es
   induction es with
   | nil=>intro j;rfl
   | cons x r ih=>grind [Bd,List.range'_succ]
  grind
 ·have key:∀ (es:List Ent) (j:Nat),((Bd j es).map (·.key)) = es.map fun x=>Value.int .i64 (x.1:Int):=by
   intro es
   induction es with
   | nil=>intro j;rfl
   | cons x r ih=>grind [Bd]
  grind
 ·obtain ⟨x,hx,hk, -, -⟩:=Qj es 0 e aP;obtain ⟨ek,ev,eb⟩:=e;subst hk;exact ⟨_,Go.WideElems.rd_mk (aT x.1 (hs x hx)) rfl⟩
theorem WM {mb B:Nat} {es:List Ent} (hb:w.heap[mb]? = some (.map (Bd 0 es).toArray es.length)) (hB:w.heap[B]? = some (.cells #[.map (some mb)] 154 (0,0)))
  (hn:(es.map (·.1)).Nodup) (hs:∀ x ∈ es,x.1 <= 1000) (hl:es.length <= 1000) :
  Calls prog 142 #[.func (.func 177) #[] #[.pointer B]] w
   (XL ai w o fun v w' o'=>∃ q:List Nat,q.Perm (es.map (·.1))/\q.Pairwise (· <= ·)/\sH w' o' v q.length (q.map fun n:Nat=>Value.int .i64 (n:Int))):=by
 have hF:=bJ hn hs hl;obtain ⟨D0,hD⟩:∃ D0:DataW Unit,D0 = .map (((Bd 0 es).toArray.toList.map (Go.WideElems.rg prog 3 RU)).foldr DataW.insert []):=⟨_,rfl⟩;have hperm:(intKeys D0).Perm (es.map fun x=>(x.1:Int)):=by
  rw [hD, <-XR es 0 hs];exact (Go.WideShapes.sorted_perm _).map _
 have hsize:Maps.size D0 <= 1000:=by
  have:=hperm.length_eq;grind [Maps.size,intKeys]
 have hown:w.ownsMap prog 3 RU mb es.length D0:=⟨_,_,hb,hF,by simp [Nc],hD⟩;have hseq:SeqGives Fence.wide 2 prog 177 #[.pointer B] encZ (fun ss=>ss.Perm (intKeys D0)) (Maps.size D0) w:=
  AnyZI.keys_gives (ρ:=Tryz.keysL_ren) { Tryz.keysL with } Fence.wide _ trivial rfl aP B mb es.length D0 w (au hB) (by rw [World.cell?,hB];rfl) hown
 have cS:=AnyZI.sorted_in Tryz.dE Fence.wide 5 trivial trivial trivial trivial rfl aP (fC _) (enters_of func176 bf rfl) 177 #[.pointer B] trivial (enters_of func177 bf rfl) _ (Maps.size D0) (by unfold maxLen;omega) aP w hseq;have cS:=callsIn_wide.1 cS
 change Calls prog 142 _ _ _ at cS
 refine cS.mono ?_;rintro e w' ⟨v,ss,rfl,hS,hrow,hnil,hbel⟩;obtain ⟨S,hSS⟩:=az (ss.mergeSort (fun x y=>decide (x <= y)));have hp1:S.Perm (es.map fun x=>(x.1:Int)):=by
  grind [List.mergeSort_perm]
 have hsort:S.Pairwise (· <= ·):=by
  have:=List.pairwise_mergeSort (le:=fun x y:Int=>decide (x <= y)) bg bg ss;grind
 have hpos:∀ x ∈ S,(0:Int) <= x:=bg
 have hback:(S.map Int.toNat).map (fun n:Nat=>Value.int .i64 (n:Int)) = S.map encZ:=by
  rw [List.map_map];refine List.map_congr_left fun x hx => ?_;grind
 have hst:aj ai w o w' (ext w o):=⟨hbel.os,hbel.tape,hbel.output,hbel.size,fun k hk=>if_pos hk,fun k hk _=>hbel.block k hk⟩;have hlen:S.length = ss.length:=by rw [<-hSS,List.length_mergeSort]
 refine ⟨v,ext w o,rfl,hst,S.map Int.toNat, ?_, ?_, ?_⟩
 ·have h2:=hp1.map Int.toNat;rw [List.map_map] at h2;assumption
 grind
 ·rw [hback,List.length_map,hlen];rw [hSS] at hrow
  rcases hrow.2 with ⟨rfl,h0⟩ | ⟨g,cap,cur,rfl,q1,q2,q3,q4,q5,q6⟩
  ·refine .inl ⟨bg,h0, ?_⟩;grind
  ·by_cases h0:ss.length = 0
   grind
   ·refine .inr ⟨g,0,cap,rfl,aP,q4, ?_,(Array.getElem?_eq_some_iff.1 q2).1, ?_⟩
    simp_all [ext,if_neg]
    ·have h:=AV (w:=w') (b:=g) (cs:=cur.toList) (E:=_) (fr:=(0,0)) (by simpa using q2);have h2:=ER h 0 ss.length
     grind
section
variable {w:World} {o:Own} {D M pz ps pd:Nat} {z:Am}
theorem PM (h:Bc w o D M pz ps pd z) (h1:1 <= z.n) (h3:z.n <= 3) (src:Nat) (e:BitVec 64) :
  Calls prog 157 #[.pointer pz, (src:aV), (e:aV)] w fun r w'=>r = .returned (.bool (z.BN.owns src e))/\w = w':=by
 obtain ⟨-,rv,hb, -, -⟩:=h;obtain ⟨⟨-,c1, -⟩, -⟩:=hb.cells;have ho:=ae (Rx e.toNat e.isLt (e.toNat:Int) rfl z.n h1 h3 w);have hu:z.BN.owns src e = decide (((e.toNat % z.n:Nat):Int) = (src:Int)):=by
  show (e.toNat % z.n == src) = _;grind
 have huH:=ae hu;go_enter func157,ntmps157;go_wp2_with fail;refine ho.out.mono ?_;rintro e' w' ⟨rfl,rfl⟩;obtain ⟨q,hq⟩:∃ q:Nat,e.toNat % z.n = q:=⟨_,rfl⟩;rw [hq] at huH ⊢;go_wp2_with fail;go_ret;exact ⟨by rw [huH.out];rfl,rfl⟩
end

end Go.Proofs.YthmpmgknnibljaaGreat
