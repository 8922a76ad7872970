/- Messages of layer 11 (plain law, no program): what a message is, its bytes, how bytes read; what is told reads as it was. -/
import Derived.Shelf.SlSortCmp.Small
import Derived.Shelf.SlIterI.Sorted
import Derived.Shelf.SlIterI.Keys
import Derived.Shelf.SlIterI.Nil
import Derived.Shelf.SortM.Plain
import Derived.Shelf.SortM.SortNone
import Derived.Ground.SlsfProg
import Derived.Ground.GgzProg
import Derived.Ground.SlgmProg
import Derived.Ground.NamesProg
import Derived.Shelf.Small.Bits
import Derived.Shelf.Strconv.Itoa0
import Derived.Shelf.Bits.Mul64
import Derived.Ground.Names2Prog
import Derived.Shelf.Slices.Clone
import Derived.Shelf.Slices.SearchI
import Derived.Ground.SlgnProg
import Derived.Shelf.SlicesE.Clone
import Derived.Test.YthmpmgknnibljaaGreatProg
import Derived.Outline
import Derived.Test.YthmpmgknnibljaaGreatSn1
import Derived.Test.YthmpmgknnibljaaGreatSn2
import Derived.Test.YthmpmgknnibljaaGreatSn5
import Derived.Test.YthmpmgknnibljaaGreatSn7
namespace Go.Proofs.YthmpmgknnibljaaGreat
set_option maxRecDepth 100000
set_option maxHeartbeats 3200000
open Go Go.RowKit
structure BG where
 k:Nat
 e:BitVec 64
 c:BitVec 64
 at':Nat
 com:Nat
 ls:List Ar
def Ar.may (x:Ar):Prop:=(1 ≤ x.e.toNat∧x.e.toNat ≤ 281474976710656)∧1 ≤ x.b.length∧x.b.length ≤ 4096
structure BG.May (m:BG):Prop where
 k1:1 ≤ m.k
 k6:m.k ≤ 6
 e1:1 ≤ m.e.toNat
 e2:m.e.toNat ≤ 281474976710656
 c1:m.c.toNat ≤ m.e.toNat
 a1:m.at' ≤ 256
 o1:m.com ≤ 256
 n1:m.ls.length ≤ 256
 hl:∀ x ∈ m.ls,x.may
 kc:m.k ≠ 2→m.c = 0
 ko:m.k ≠ 5→m.com = 0
 ka:m.k ≠ 5→m.k ≠ 6→m.at' = 0
 kl:m.k ≠ 2→m.k ≠ 4→m.k ≠ 5→m.ls = []
instance (x:Ar):Decidable x.may:=by unfold Ar.may;infer_instance
def BG.put (m:BG):List UInt8:=
 UInt8.ofNat m.k :: (be 8 m.e ++ (be 8 m.c ++ (be 8 (BitVec.ofNat 64 m.at') ++ (be 8 (BitVec.ofNat 64 m.com) ++ GR m.ls))))
def QN (b:List UInt8):BG × RdM:=
 let r0:=(RdM.mk b false).num 1
 let r1:=r0.2.num 8
 let r2:=r1.2.num 8
 let r3:=r2.2.count 256
 let r4:=r3.2.count 256
 let r5:=r4.2.lines
 (⟨r0.1.toNat % 256,r1.1,r2.1,r3.1,r4.1,r5.1⟩,r5.2)
theorem RX (n:Nat) (hn:n ≤ 256) (r:List UInt8):(RdM.mk (be 8 (BitVec.ofNat 64 n) ++ r) false).count 256 = (n,⟨r,false⟩):=by
 have hl:(BitVec.ofNat 64 n).toNat = n:=by rw [BitVec.toNat_ofNat,Nat.mod_eq_of_lt (by omega)]
 unfold RdM.count
 rw [RdM.Hz]
 simp only [hl]
 rw [if_neg (by omega)]
theorem Ar.may.short {ls:List Ar} (h:∀ x ∈ ls,x.may):Short ls:=fun x hx=>Nat.lt_of_le_of_lt (h x hx).2.2 (by omega)
theorem aH {m:BG} (h:m.May):QN m.put = (m,⟨[],false⟩):=by
 have hk:(UInt8.ofNat m.k).toNat = m.k:=by rw [UInt8.toNat_ofNat',Nat.mod_eq_of_lt (by have:=h.k6;omega)]
 have hl:=KP m.ls (Ar.may.short h.hl) h.n1 []
 rw [List.append_nil] at hl
 have hk2:(BitVec.ofNat 64 m.k).toNat % 256 = m.k:=by rw [BitVec.toNat_ofNat];have:=h.k6;omega
 unfold QN BG.put
 simp only [RdM.JY,RdM.Hz,RX m.at' h.a1,RX m.com h.o1,hl,hk,hk2]
structure SG (K H:Nat) (s:AZ):Prop where
 live:s.dead = false
 gc:Ad.Good K (s.cur,s.d)
 go:Ad.Good K (s.oth,s.d)
 pg:s.pages = H
 h4:4 ≤ H
 VC:H ≤ 200
 len:s.d.pages.length / 2 = H
 nc:s.cur.n = H
 no:s.oth.n = H
 fst:(s.cur.first = 0∧s.oth.first = H) ∨ (s.cur.first = H∧s.oth.first = 0∧0 < s.age.toNat)
 rc:DK s.cur.records = some (s.age,s.kept)
 ro:∃ g k,DK s.oth.records = some (g,k)∧(g.toNat < s.age.toNat ∨ g = 0)
 Wl:s.age.toNat ≤ K
namespace SG
variable {K H:Nat} {s:AZ}
theorem dd (h:SG K H s):s.d.dead = false:=h.gc.dd
theorem row (h:SG K H s):s.d.row = []:=h.gc.row
theorem apart (h:SG K H s):s.cur.first + s.cur.n ≤ s.oth.first ∨ s.oth.first + s.oth.n ≤ s.cur.first:=by
 have h1:=h.nc;have h2:=h.no
 rcases h.fst with ⟨h3,h4⟩ | ⟨h3,h4, -⟩ <;> omega
theorem mono {K':Nat} (h:SG K H s) (hK:K ≤ K'):SG K' H s:=
 ⟨h.live,h.gc.mono hK,h.go.mono hK,h.pg,h.h4,h.VC,h.len,h.nc,h.no,h.fst,h.rc,h.ro,Nat.le_trans h.Wl hK⟩
end SG
theorem Good.wf' {K:Nat} {s:Ad × Af} (h:Ad.Good K s):s.2.wf:=h.fine.2.2.2
theorem Yu {n e:Nat} {l:Ad} {b:List UInt8} (hn:l.n = n) (he:l.end' = e) (h1:1 ≤ b.length) (hr:b.length ≤ l.room):Ad.many b ≤ n - e:=by
 unfold Ad.room at hr
 unfold Ad.many
 rw [hn,he] at hr
 omega
theorem dO {b:List UInt8} {m:Nat} (h1:1 ≤ m) (hr:b.length ≤ 480 * m):Ad.many b ≤ m:=by
 unfold Ad.many;omega
theorem AZ.Ul {K H:Nat} {s:AZ} (h:SG K H s) (hK:K + 600 < 65536) (rec:List UInt8) (now:AX) (hr:Fh s.kept rec = some now) (h1:1 ≤ rec.length) (hs:Short now.lines) (hn:now.lines.length ≤ 256) :
  (∃ s',s.write rec now = (s',0)∧SG (K + 3) H s'∧s'.kept = now∧s'.d.pages.length = s.d.pages.length∧(s.d.left < 0→s'.d.left < 0)) ∨
  (s.write rec now = (s,4)∧480 * (H - 1) < (IY (s.age + 1#64) now.promised now.current now.lines).length) ∨
  (0 ≤ s.d.left∧∃ s',s.write rec now = (s',9)∧s'.dead = true∧s'.d.dead = true∧s'.kept = s.kept∧s'.pages = H∧s'.d.row.length ≤ 4096 ∧
   ∀ Bz,∃ t,SG (K + 600) H t∧t.d = s'.d.BJ Bz∧t.d.left = -1∧t.d.pages.length = s.d.pages.length∧(t.kept = s.kept ∨ t.kept = now)):=by
 have hap:=h.apart
 have hnc:=h.nc
 have hno:=h.no
 have hH:=h.h4
 have hfst:=h.fst
 have hage:(s.age + 1#64).toNat = s.age.toNat + 1:=by
  have:=h.Wl
  rw [BitVec.toNat_add];simp;omega
 have hall:=Td (s.age + 1#64) now.promised now.current now.lines (by omega) hs hn
 obtain ⟨AE,hAE⟩:∃ AE,IY (s.age + 1#64) now.promised now.current now.lines = AE:=⟨_,rfl⟩
 rw [hAE] at hall
 obtain ⟨g,k,hro,hg⟩:=h.ro
 unfold AZ.write
 rw [hAE]
 by_cases hc:0 < s.age.toNat∧rec.length ≤ s.cur.room
 ·rw [if_pos hc]
  have hm:=Yu rfl rfl h1 hc.2
  rcases Ad.Nk h.gc (by omega) rec with ⟨hx, -⟩ | ⟨-,s',hw,hG,hrec, -,hn',hf',hO,hl⟩ | ⟨hl,s',hw, -,hd2,hrow,hn',hf',hB⟩
  ·simp only at hx;omega
  ·left
   simp only [hw,ne_eq,not_true_eq_false,if_false]
   simp only at hrec hn' hf' hO hl
   refine ⟨_,rfl,⟨h.live,hG.mono (by omega),(Ad.Good.oth h.go hO hG.dd hG.row (Good.wf' hG) (by dsimp only;omega)).mono (by omega),h.pg,h.h4,h.VC, ?_,hn'.trans hnc,hno, ?_, ?_,⟨g,k,hro,hg⟩,by have:=h.Wl;dsimp only;omega⟩,rfl,hO.1,fun h=>by dsimp only;rw [hl h];exact h⟩
   ·show s'.2.pages.length / 2 = H
    rw [hO.1];exact h.len
   ·show (s'.1.first = 0∧s.oth.first = H) ∨ (s'.1.first = H∧s.oth.first = 0∧0 < s.age.toNat)
    rw [hf'];exact hfst
   ·show DK s'.1.records = some (s.age,now)
    rw [hrec]
    exact Oi h.rc hc.1 hr
  ·right;right
   refine ⟨hl,{ s with cur:=s'.1,d:=s'.2,dead:=true },by simp only [hw,ne_eq,show ¬ ((9:Int) = 0) by omega,not_false_eq_true,if_true],rfl,hd2,rfl,h.pg,hrow,fun Bz => ?_⟩
   have B:=hB Bz
   simp only at B
   have hmk:∀ kp,DK (Ad.AY s.cur.first (Ad.Aw (s'.2.BJ Bz) s.cur.first s.cur.n)).records = some (s.age,kp) →
     SG (K + 600) H ⟨Ad.AY s.cur.first (Ad.Aw (s'.2.BJ Bz) s.cur.first s.cur.n),s.oth,s'.2.BJ Bz,H,s.age,kp,false⟩:=fun kp hkp =>
    ⟨rfl,B.good.mono (by omega),(Ad.Good.oth h.go B.oth B.good.dd B.good.row (Good.wf' B.good) (by dsimp only;omega)).mono (by omega),rfl,h.h4,h.VC,
     by show (s'.2.BJ Bz).pages.length / 2 = H;rw [B.oth.1];exact h.len,(Ad.JM _ _ _).trans hnc,hno,hfst,hkp,⟨g,k,hro,hg⟩,by have:=h.Wl;dsimp only;omega⟩
   rcases B.recs with hx | hx
   ·exact ⟨_,hmk s.kept (by rw [hx];exact h.rc),rfl,B.left,B.oth.1, .inl rfl⟩
   ·exact ⟨_,hmk now (by rw [hx];exact Oi h.rc hc.1 hr),rfl,B.left,B.oth.1, .inr rfl⟩
 ·rw [if_neg hc]
  by_cases hf:480 * (s.pages - 1) < AE.length
  ·rw [if_pos hf]
   exact .inr (.inl ⟨rfl,by rw [←h.pg];exact hf⟩)
  ·rw [if_neg hf]
   rw [h.pg] at hf
   have hlF:s.oth.first = 0 ∨ 0 < s.age.toNat ∨ (s.cur.first = 0∧s.oth.first = H):=by
    rcases hfst with h | h
    ·exact .inr (.inr h)
    ·exact .inl h.2.1
   rcases Ad.UL h.go (by omega) with ⟨s1,hw1,hG1,hrec1,hend1,hn1,hf1,hO1,hl1⟩ | ⟨hl,s',hw, -,hd2,hrow,hn',hf',hB⟩
   ·simp only at hn1 hf1 hO1 hl1
    have hmm:Ad.many AE ≤ H - 1:=dO (by omega) (by omega)
    rcases Ad.Nk hG1 (by omega) AE with ⟨hx, -⟩ | ⟨-,s',hw,hG,hrec, -,hn',hf',hO,hl⟩ | ⟨hl,s',hw, -,hd2,hrow,hn',hf',hB⟩
    ·rw [hn1,hend1,hno] at hx;omega
    ·left
     rw [hn1,hf1] at hO
     have hO2:=hO1.trans hO
     refine ⟨{ s with cur:=s'.1,oth:=s.cur,d:=s'.2,age:=s.age + 1#64,kept:=now }, ?_,⟨h.live,hG.mono (by omega),(Ad.Good.oth h.gc hO2 hG.dd hG.row (Good.wf' hG) (by dsimp only;omega)).mono (by omega),h.pg,h.h4,h.VC, ?_,(hn'.trans hn1).trans hno,hnc, ?_, ?_,⟨s.age,s.kept,h.rc, .inl (by dsimp only;omega)⟩,by have:=h.Wl;dsimp only;omega⟩,rfl,hO2.1,fun h => ?_⟩
     ·simp only [hw1,hw,ne_eq,not_true_eq_false,if_false]
     ·show s'.2.pages.length / 2 = H
      rw [hO2.1];exact h.len
     ·show (s'.1.first = 0∧s.cur.first = H) ∨ (s'.1.first = H∧s.cur.first = 0∧0 < (s.age + 1#64).toNat)
      rw [hf',hf1]
      rcases hfst with h | h
      ·exact .inr ⟨h.2,h.1,by omega⟩
      ·exact .inl ⟨h.2.1,h.1⟩
     ·show DK s'.1.records = some (s.age + 1#64,now)
      rw [hrec,hrec1]
      exact Px hall
     ·have e1:=hl1 h
      have e2:=hl (by rw [e1];exact h)
      show s'.2.left < 0
      rw [e2,e1];exact h
    ·right;right
     have hl0:0 ≤ s.d.left:=by
      by_cases hz:s.d.left < 0
      ·rw [hl1 hz] at hl;omega
      ·omega
     refine ⟨hl0,{ s with oth:=s'.1,d:=s'.2,dead:=true },by simp only [hw1,hw,ne_eq,not_true_eq_false,if_false,show ¬ ((9:Int) = 0) by omega,not_false_eq_true,if_true],rfl,hd2,rfl,h.pg,hrow,fun Bz => ?_⟩
     have B:=hB Bz
     rw [hn1,hf1,hrec1] at B
     have hO2:=hO1.trans B.oth
     have hcO:Ad.Good (K + 600) (s.cur,s'.2.BJ Bz):=(Ad.Good.oth h.gc hO2 B.good.dd B.good.row (Good.wf' B.good) (by dsimp only;omega)).mono (by omega)
     have hlen:(s'.2.BJ Bz).pages.length / 2 = H:=by rw [hO2.1];exact h.len
     rcases B.recs with hx | hx
     ·refine ⟨⟨s.cur,Ad.AY s.oth.first (Ad.Aw (s'.2.BJ Bz) s.oth.first s.oth.n),s'.2.BJ Bz,H,s.age,s.kept,false⟩,⟨rfl,hcO,B.good.mono (by omega),rfl,h.h4,h.VC,hlen,hnc,(Ad.JM _ _ _).trans hno,hfst,h.rc,⟨0,⟨0,0,[]⟩,by dsimp only;rw [hx];rfl, .inr rfl⟩,by have:=h.Wl;dsimp only;omega⟩,rfl,B.left,hO2.1, .inl rfl⟩
     ·refine ⟨⟨Ad.AY s.oth.first (Ad.Aw (s'.2.BJ Bz) s.oth.first s.oth.n),s.cur,s'.2.BJ Bz,H,s.age + 1#64,now,false⟩,⟨rfl,B.good.mono (by omega),hcO,rfl,h.h4,h.VC,hlen,(Ad.JM _ _ _).trans hno,hnc, ?_,by dsimp only;rw [hx];exact Px hall,⟨s.age,s.kept,h.rc, .inl (by dsimp only;omega)⟩,by have:=h.Wl;dsimp only;omega⟩,rfl,B.left,hO2.1, .inr rfl⟩
      show (s.oth.first = 0∧s.cur.first = H) ∨ (s.oth.first = H∧s.cur.first = 0∧0 < (s.age + 1#64).toNat)
      rcases hfst with h | h
      ·exact .inr ⟨h.2,h.1,by omega⟩
      ·exact .inl ⟨h.2.1,h.1⟩
   ·right;right
    refine ⟨hl,{ s with oth:=s'.1,d:=s'.2,dead:=true },by simp only [hw,ne_eq,show ¬ ((9:Int) = 0) by omega,not_false_eq_true,if_true],rfl,hd2,rfl,h.pg,hrow,fun Bz => ?_⟩
    have B:=hB Bz
    simp only at B
    refine ⟨⟨s.cur,Ad.AY s.oth.first (Ad.Aw (s'.2.BJ Bz) s.oth.first s.oth.n),s'.2.BJ Bz,H,s.age,s.kept,false⟩,⟨rfl,(Ad.Good.oth h.gc B.oth B.good.dd B.good.row (Good.wf' B.good) (by dsimp only;omega)).mono (by omega),B.good.mono (by omega),rfl,h.h4,h.VC,by show (s'.2.BJ Bz).pages.length / 2 = H;rw [B.oth.1];exact h.len,hnc,(Ad.JM _ _ _).trans hno,hfst,h.rc, ?_,by have:=h.Wl;dsimp only;omega⟩,rfl,B.left,B.oth.1, .inl rfl⟩
    rcases B.recs with hx | hx
    ·exact ⟨g,k,by dsimp only;rw [hx];exact hro,hg⟩
    ·exact ⟨0,⟨0,0,[]⟩,by dsimp only;rw [hx];rfl, .inr rfl⟩
theorem SG.reopen {K H:Nat} {s:AZ} (h:SG K H s):∃ g0 g1 k0 k1,DK (Ad.AY 0 (Ad.Aw s.d 0 H)).records = some (g0,k0)∧DK (Ad.AY H (Ad.Aw s.d H H)).records = some (g1,k1) ∧
  PO s.d H (Ad.AY 0 (Ad.Aw s.d 0 H)) (Ad.AY H (Ad.Aw s.d H H)) g0 g1 k0 k1 = s:=by
 have hc:s.cur = Ad.AY s.cur.first (Ad.Aw s.d s.cur.first s.cur.n):=h.gc.fine.1
 have ho:s.oth = Ad.AY s.oth.first (Ad.Aw s.d s.oth.first s.oth.n):=h.go.fine.1
 rw [h.nc] at hc
 rw [h.no] at ho
 obtain ⟨g,k,hro,hg⟩:=h.ro
 have hpg:=h.pg
 have hlv:=h.live
 have hrc:=h.rc
 rcases h.fst with ⟨h1,h2⟩ | ⟨h1,h2,h3⟩
 ·rw [h1] at hc
  rw [h2] at ho
  rw [←hc, ←ho]
  refine ⟨s.age,g,s.kept,k,hrc,hro, ?_⟩
  unfold PO
  rw [if_neg (by
   rcases hg with hg | rfl
   ·omega
   ·simp)]
  obtain ⟨a,b,d,p,e,f,z⟩:=s
  simp only at hpg hlv ⊢
  subst hpg hlv
  rfl
 ·rw [h1] at hc
  rw [h2] at ho
  rw [←hc, ←ho]
  refine ⟨g,s.age,k,s.kept,hro,hrc, ?_⟩
  unfold PO
  rw [if_pos (by
   rcases hg with hg | rfl
   ·omega
   ·simpa using h3)]
  obtain ⟨a,b,d,p,e,f,z⟩:=s
  simp only at hpg hlv ⊢
  subst hpg hlv
  rfl
theorem SG.newest {K H:Nat} {s:AZ} (h:SG K H s) (hK:K < 65536):Ad.newest (Ad.Aw s.d 0 H) ≠ BitVec.allOnes 64∧Ad.newest (Ad.Aw s.d H H) ≠ BitVec.allOnes 64:=by
 have hc:=h.gc.newest
 have ho:=h.go.newest
 have kc:=h.gc.JK
 have ko:=h.go.JK
 simp only at hc ho kc ko
 rw [h.nc] at hc
 rw [h.no] at ho
 have key:∀ x:BitVec 64,x.toNat ≤ K→x ≠ BitVec.allOnes 64:=fun x hx e=>by
  rw [e] at hx;simp at hx;omega
 rcases h.fst with ⟨h1,h2⟩ | ⟨h1,h2, -⟩
 ·rw [h1] at hc;rw [h2] at ho
  exact ⟨by rw [hc];exact key _ kc,by rw [ho];exact key _ ko⟩
 ·rw [h1] at hc;rw [h2] at ho
  exact ⟨by rw [ho];exact key _ ko,by rw [hc];exact key _ kc⟩
def YJ (n:Nat):AZ:=⟨Ad.raw 0 (n / 2) 0,Ad.raw (n / 2) (n / 2) 0,Af.new n,n / 2,0,⟨0,0,[]⟩,false⟩
theorem dL {n:Nat} (h8:8 ≤ n) (h400:n ≤ 401):SG 0 (n / 2) (YJ n):=
 ⟨rfl,Ad.VF (by omega) (by omega) (by omega),Ad.VF (by omega) (by omega) (by omega),rfl,by omega,by omega,by simp [YJ,Af.new],rfl,rfl, .inl ⟨rfl,rfl⟩,rfl,⟨0,⟨0,0,[]⟩,rfl, .inr rfl⟩,by simp [YJ]⟩
def AP (ls:List Ar):Nat:=(ls.map fun x=>x.b.length).sum
theorem DV (a b:List Ar):AP (a ++ b) = AP a + AP b:=by simp [AP]
theorem Ej (ls:List Ar):(encs ls).length = 12 * ls.length + AP ls:=by
 induction ls with
 | nil=>rfl
 | cons x r ih =>
  have e:encs (x :: r) = x.enc ++ encs r:=by simp [encs]
  rw [e,List.length_append,ih,Jj]
  simp only [AP,List.map_cons,List.sum_cons,List.length_cons]
  omega
structure KOk (k:AX):Prop where
 n:k.lines.length ≤ 256
 b:∀ x ∈ k.lines,x.b.length ≤ 4096
theorem Ze {ls:List Ar} (h:∀ x ∈ ls,x.b.length ≤ 4096):AP ls ≤ 4096 * ls.length:=by
 induction ls with
 | nil=>simp [AP]
 | cons x r ih =>
  have h1:=h x (by simp)
  have h2:=ih (fun y hy=>h y (List.mem_cons_of_mem _ hy))
  simp only [AP,List.map_cons,List.sum_cons,List.length_cons] at *
  omega
theorem KOk.short {k:AX} (h:KOk k):Short k.lines:=fun x hx=>by have:=h.b x hx;omega
structure bW where
 k:Nat
 e:BitVec 64
 ls:List Ar
def AZ.act (a:bW) (s:AZ):AZ × Int:=
 if a.k % 5 = 0 then s.promise a.e else if a.k % 5 = 1 then s.FO a.e a.ls else if a.k % 5 = 4 then (s,0) else s.append a.ls
def AX.CQ (k:AX) (e:BitVec 64):AX × Int:=if k.EK e then ({ k with promised:=e },0) else (k,1)
def AX.Ee (k:AX) (e:BitVec 64) (ls:List Ar):AX × Int:=if k.Gg e ls then (⟨e,e,ls⟩,0) else (k,1)
def AX.Cm (k:AX) (ls:List Ar):AX × Int:=if k.Eu ls then ({ k with lines:=k.lines ++ ls },0) else (k,1)
def AX.next (a:bW) (k:AX):AX × Int:=
 if a.k % 5 = 0 then k.CQ a.e else if a.k % 5 = 1 then k.Ee a.e a.ls else if a.k % 5 = 4 then (k,0) else k.Cm a.ls
def bH (ls:List Ar):Nat:=64 + (16 * ls.length + AP ls)
def AX.fits (k:AX) (n:Nat):Bool:=decide (bH k.lines ≤ 480 * (n / 2 - 1))
theorem Wi {top:BitVec 64} {ls:List Ar} (h:ls.any (badL top) = false):∀ x ∈ ls,x.b.length ≤ 4096:=by
 intro x hx
 have:=List.any_eq_false.1 h x hx
 unfold badL at this
 simp only [Bool.or_eq_true,decide_eq_true_eq,not_or] at this
 omega
theorem QX {k:AX} {e:BitVec 64} {ls:List Ar} (h:k.Gg e ls = true):ls.length ≤ 256∧∀ x ∈ ls,x.b.length ≤ 4096:=by
 unfold AX.Gg at h
 simp only [Bool.and_eq_true,decide_eq_true_eq,Bool.not_eq_true'] at h
 exact ⟨h.1.2,Wi h.2⟩
theorem Ig {k:AX} {ls:List Ar} (h:k.Eu ls = true):ls.length + k.lines.length ≤ 256∧∀ x ∈ ls,x.b.length ≤ 4096:=by
 unfold AX.Eu at h
 simp only [Bool.and_eq_true,decide_eq_true_eq,Bool.not_eq_true'] at h
 exact ⟨h.1.1.2,Wi h.1.2⟩
theorem KOk.next {k:AX} (h:KOk k) (a:bW):KOk (k.next a).1:=by
 unfold AX.next AX.CQ AX.Ee AX.Cm
 split
 ·split
  ·exact ⟨h.n,h.b⟩
  ·exact h
 ·split
  ·split
   ·rename_i hok
    have:=QX hok
    exact ⟨this.1,this.2⟩
   ·exact h
  ·split
   ·exact h
   ·split
    ·rename_i hok
     have:=Ig hok
     refine ⟨?_,fun x hx => ?_⟩
     ·show (k.lines ++ a.ls).length ≤ 256
      rw [List.length_append];omega
     ·change x ∈ k.lines ++ a.ls at hx
      rcases List.mem_append.1 hx with hx | hx
      ·exact h.b x hx
      ·exact this.2 x hx
    ·exact h
theorem Vp (age p c:BitVec 64) (ls:List Ar):(IY age p c ls).length = 33 + (12 * ls.length + AP ls):=by
 unfold IY GR
 simp only [List.length_cons,List.length_append,Az,Ej]
 omega
theorem Zi {age p c:BitVec 64} {ls:List Ar} {H n:Nat} (hH:n / 2 = H) (h:480 * (H - 1) < (IY age p c ls).length) {k:AX} (hk:k.lines = ls):k.fits n = false:=by
 rw [Vp] at h
 unfold AX.fits bH
 rw [hk,hH]
 apply decide_eq_false
 omega
theorem AZ.Zk {K H:Nat} {s:AZ} (h:SG K H s) (hK:K + 600 < 65536) (hk:KOk s.kept) (a:bW) :
  ((s.kept.next a).2 = 1∧(s.kept.next a).1 = s.kept∧s.act a = (s,1)) ∨
  ((s.kept.next a).2 = 0∧∃ s',s.act a = (s',0)∧SG (K + 3) H s'∧s'.kept = (s.kept.next a).1∧s'.d.pages.length = s.d.pages.length∧(s.d.left < 0→s'.d.left < 0)) ∨
  ((s.kept.next a).2 = 0∧s.act a = (s,4)∧∀ n,n / 2 = H→(s.kept.next a).1.fits n = false) ∨
  ((s.kept.next a).2 = 0∧a.k % 5 ≠ 4∧0 ≤ s.d.left∧∃ s',s.act a = (s',9)∧s'.dead = true∧s'.d.dead = true∧s'.kept = s.kept∧s'.pages = H∧s'.d.row.length ≤ 4096 ∧
   ∀ Bz,∃ t,SG (K + 600) H t∧t.d = s'.d.BJ Bz∧t.d.left = -1∧t.d.pages.length = s.d.pages.length∧(t.kept = s.kept ∨ t.kept = (s.kept.next a).1)):=by
 have hok:=hk.next a
 have hlv:=h.live
 have hdd:=h.dd
 have main:∀ rec now,Fh s.kept rec = some now→1 ≤ rec.length→a.k % 5 ≠ 4→Short now.lines→now.lines.length ≤ 256 →
  ((now,(0:Int)).2 = 1∧(now,(0:Int)).1 = s.kept∧s.write rec now = (s,1)) ∨
  ((now,(0:Int)).2 = 0∧∃ s',s.write rec now = (s',0)∧SG (K + 3) H s'∧s'.kept = (now,(0:Int)).1∧s'.d.pages.length = s.d.pages.length∧(s.d.left < 0→s'.d.left < 0)) ∨
  ((now,(0:Int)).2 = 0∧s.write rec now = (s,4)∧∀ n,n / 2 = H→(now,(0:Int)).1.fits n = false) ∨
  ((now,(0:Int)).2 = 0∧a.k % 5 ≠ 4∧0 ≤ s.d.left∧∃ s',s.write rec now = (s',9)∧s'.dead = true∧s'.d.dead = true∧s'.kept = s.kept∧s'.pages = H∧s'.d.row.length ≤ 4096 ∧
   ∀ Bz,∃ t,SG (K + 600) H t∧t.d = s'.d.BJ Bz∧t.d.left = -1∧t.d.pages.length = s.d.pages.length∧(t.kept = s.kept ∨ t.kept = (now,(0:Int)).1)):=by
  intro rec now hr h1 h4 hs hn
  rcases AZ.Ul h hK rec now hr h1 hs hn with hx | ⟨hx,hy⟩ | ⟨hx,hy⟩
  ·exact .inr (.inl ⟨rfl,hx⟩)
  ·exact .inr (.inr (.inl ⟨rfl,hx,fun n hn=>Zi hn hy rfl⟩))
  ·exact .inr (.inr (.inr ⟨rfl,h4,hx,hy⟩))
 by_cases h0:a.k % 5 = 0
 ·by_cases hp:s.kept.EK a.e = true
  ·have e1:s.kept.next a = ({ s.kept with promised:=a.e },0):=by simp [AX.next,AX.CQ,h0,hp]
   have e2:s.act a = s.write (2 :: be 8 a.e) { s.kept with promised:=a.e }:=by simp [AZ.act,AZ.promise,hlv,hdd,h0,hp]
   rw [e1] at hok ⊢
   rw [e2]
   exact main _ _ (Py s.kept a.e) (by simp) (by omega) hok.short hok.n
  ·have e1:s.kept.next a = (s.kept,1):=by simp [AX.next,AX.CQ,h0,hp]
   have e2:s.act a = (s,1):=by simp [AZ.act,AZ.promise,hlv,hdd,h0,hp]
   rw [e1,e2]
   exact .inl ⟨rfl,rfl,rfl⟩
 ·by_cases h1:a.k % 5 = 1
  ·by_cases hp:s.kept.Gg a.e a.ls = true
   ·have e1:s.kept.next a = (⟨a.e,a.e,a.ls⟩,0):=by simp [AX.next,AX.Ee,h1,hp]
    have e2:s.act a = s.write (3 :: (be 8 a.e ++ GR a.ls)) ⟨a.e,a.e,a.ls⟩:=by simp [AZ.act,AZ.FO,hlv,hdd,h1,hp]
    rw [e1] at hok ⊢
    rw [e2]
    exact main _ _ (Tc s.kept a.e a.ls hok.short hok.n) (by simp) (by omega) hok.short hok.n
   ·have e1:s.kept.next a = (s.kept,1):=by simp [AX.next,AX.Ee,h1,hp]
    have e2:s.act a = (s,1):=by simp [AZ.act,AZ.FO,hlv,hdd,h1,hp]
    rw [e1,e2]
    exact .inl ⟨rfl,rfl,rfl⟩
  ·by_cases h4:a.k % 5 = 4
   ·have e1:s.kept.next a = (s.kept,0):=by simp [AX.next,h4]
    have e2:s.act a = (s,0):=by simp [AZ.act,h4]
    rw [e1,e2]
    exact .inr (.inl ⟨rfl,s,rfl,h.mono (by omega),rfl,rfl,fun h=>h⟩)
   ·by_cases hp:s.kept.Eu a.ls = true
    ·have e1:s.kept.next a = ({ s.kept with lines:=s.kept.lines ++ a.ls },0):=by simp [AX.next,AX.Cm,h0,h1,h4,hp]
     have e2:s.act a = s.write (4 :: GR a.ls) { s.kept with lines:=s.kept.lines ++ a.ls }:=by simp [AZ.act,AZ.append,hlv,hdd,h0,h1,h4,hp]
     have hn:=hok
     rw [e1] at hok ⊢
     rw [e2]
     have hsl:Short a.ls:=fun x hx=>hok.short x (List.mem_append_right _ hx)
     have hnl:a.ls.length ≤ 256:=by have:=(Ig hp).1;omega
     exact main _ _ (QI s.kept a.ls hsl hnl) (by simp) h4 hok.short hok.n
    ·have e1:s.kept.next a = (s.kept,1):=by simp [AX.next,AX.Cm,h0,h1,h4,hp]
     have e2:s.act a = (s,1):=by simp [AZ.act,AZ.append,hlv,hdd,h0,h1,h4,hp]
     rw [e1,e2]
     exact .inl ⟨rfl,rfl,rfl⟩
inductive KC where
 | follows:KC
 | stands (mine:BitVec 64) (has:List (Option (BitVec 64 × List Ar))):KC
 | leads (mine:BitVec 64) (mat:List Int) (base:Nat) (ready:Bool):KC
structure Aj where
 id:Nat
 n:Nat
 k:AX
 BB:KC
 waited:Nat
 seen:BitVec 64
 Ag:Nat
abbrev DX:=List (Nat × BG)
def PQ (after:BitVec 64) (id n:Nat):BitVec 64:=
 if 281474976710656 < after.toNat then 0 else BitVec.ofNat 64 (after.toNat + 1 + (id + n - (after.toNat + 1) % n) % n)
def Fj (a b:BitVec 64):BitVec 64:=if a.toNat < b.toNat then b else a
def Jw (p q:BitVec 64 × List Ar):Bool:=decide (q.1.toNat < p.1.toNat) || (p.1 == q.1 && decide (q.2.length < p.2.length))
def EW (b:Option (BitVec 64 × List Ar)) (x:Option (BitVec 64 × List Ar)):Option (BitVec 64 × List Ar):=
 match x,b with
 | none,b=>b
 | some p,none=>some p
 | some p,some q=>if Jw p q then some p else some q
def Qr (l:List (Option (BitVec 64 × List Ar))):Option (BitVec 64 × List Ar):=l.foldl EW none
def CW:List Int→Int
 | [a]=>a
 | [a,b]=>min a b
 | [a,b,c]=>max (min a b) (min (max a b) c)
 | _=>0
namespace Aj
def new (id n:Nat) (k:AX):Aj:=⟨id,n,k, .follows,0,0,0⟩
def others (z:Aj) (m:Nat→BG):DX:=((List.range z.n).filter fun i=>i != z.id).map fun i=>(i,m i)
def follow (z:Aj):Aj:={ z with BB := .follows,waited:=0 }
def owns (z:Aj) (src:Nat) (e:BitVec 64):Bool:=e.toNat % z.n == src
def refuse (z:Aj) (src:Nat):DX:=[(src,⟨3,z.k.promised,0,0,0,[]⟩)]
def ack (z:Aj) (src:Nat) (e:BitVec 64):DX:=[(src,⟨6,e,0,z.k.lines.length,0,[]⟩)]
def OD (z:Aj):Bool:=match z.BB with
 | .leads _ _ _ r=>r
 | _=>false
def count (z:Aj) (mine:BitVec 64) (mat:List Int) (base:Nat) (ready:Bool):Aj:=
 let m:=mat.set z.id z.k.lines.length
 if (base:Int) ≤ CW m then { z with BB := .leads mine m base true,Ag:=max z.Ag (CW m).toNat } else { z with BB := .leads mine m base ready }
def lead (z:Aj) (mine:BitVec 64) (has:List (Option (BitVec 64 × List Ar))):Aj × DX:=
 if 2 * (has.filter Option.isSome).length ≤ z.n then (z,[]) else
 match Qr has with
 | none=>(z,[])
 | some p =>
  if (z.k.Ee mine p.2).2 = 0 then
   let z1:Aj:={ z with k:=(z.k.Ee mine p.2).1,Ag:=min z.Ag p.2.length }
   (z1.count mine (List.replicate z.n (-1)) p.2.length false,z.others fun _=>⟨4,mine,0,0,0,p.2⟩)
  else (z.follow,[])
def stand (z:Aj):Aj × DX:=
 let e:=PQ (Fj z.k.promised z.seen) z.id z.n
 if e = 0 then (z,[]) else
 if (z.k.CQ e).2 = 0 then
  let has:=(List.replicate z.n none).set z.id (some (z.k.current,z.k.lines))
  let z1:Aj:={ z with k:=(z.k.CQ e).1,BB := .stands e has,waited:=0 }
  ((z1.lead e has).1,(z.others fun _=>⟨1,e,0,0,0,[]⟩) ++ (z1.lead e has).2)
 else (z,[])
def tick (z:Aj):Aj × DX:=
 match z.BB with
 | .leads mine mat _ _ =>
  (z,z.others fun i=>if mat.getD i 0 < 0 then ⟨4,mine,0,0,0,z.k.lines⟩ else ⟨5,mine,0,(mat.getD i 0).toNat,z.Ag,z.k.lines.drop (mat.getD i 0).toNat⟩)
 | _ =>
  let z1:Aj:={ z with waited:=z.waited + 1 }
  if 3 + 2 * z.id < z.waited + 1 then z1.stand else (z1,[])
def BK (z:Aj) (src:Nat) (m:BG):Aj × DX:=
 if !z.owns src m.e then (z,[]) else
 if m.e.toNat ≤ z.k.promised.toNat then (z,z.refuse src) else
 if (z.k.CQ m.e).2 = 0 then
  ({ z with k:=(z.k.CQ m.e).1 }.follow,[(src,⟨2,m.e,z.k.current,0,0,z.k.lines⟩)])
 else (z,[])
def Bj (z:Aj) (src:Nat) (m:BG):Aj × DX:=
 match z.BB with
 | .stands mine has =>
  if mine ≠ m.e ∨ m.e.toNat ≤ m.c.toNat then (z,[]) else
  let has1:=if (has.getD src none).isSome then has else has.set src (some (m.c,m.ls))
  { z with BB := .stands mine has1 }.lead mine has1
 | _=>(z,[])
def mine (z:Aj):BitVec 64:=match z.BB with
 | .follows=>0
 | .stands e _=>e
 | .leads e _ _ _=>e
def follows (z:Aj):Bool:=match z.BB with
 | .follows=>true
 | _=>false
def Cj (z:Aj) (m:BG):Aj × DX:=(if !z.follows && decide (z.mine.toNat < m.e.toNat) then z.follow else z,[])
def BD (z:Aj) (src:Nat) (m:BG):Aj × DX:=
 if !z.owns src m.e then (z,[]) else
 if m.e.toNat < z.k.promised.toNat then (z,z.refuse src) else
 if z.k.current = m.e then (z.follow,z.ack src m.e) else
 if (z.k.Ee m.e m.ls).2 = 0 then
  let z1:Aj:={ z with k:=(z.k.Ee m.e m.ls).1,Ag:=min z.Ag m.ls.length }
  (z1.follow,z1.ack src m.e)
 else (z,[])
def BF (z:Aj) (src:Nat) (m:BG):Aj × DX:=
 if !z.owns src m.e then (z,[]) else
 if m.e.toNat < z.k.promised.toNat then (z,z.refuse src) else
 if z.k.promised ≠ m.e ∨ z.k.current ≠ m.e then (z,[]) else
 let z1:=z.follow
 if z.k.lines.length < m.at' then (z1,[]) else
 let more:=m.ls.drop (z.k.lines.length - m.at')
 if more = [] then
  let z2:Aj:={ z1 with Ag:=max z.Ag (min m.com z.k.lines.length) }
  (z2,z2.ack src m.e)
 else if (z.k.Cm more).2 = 0 then
  let z2:Aj:={ z1 with k:=(z.k.Cm more).1,Ag:=max z.Ag (min m.com (z.k.Cm more).1.lines.length) }
  (z2,z2.ack src m.e)
 else (z1,[])
def CJ (z:Aj) (src:Nat) (m:BG):Aj × DX:=
 match z.BB with
 | .leads mine mat base ready =>
  if mine = m.e then (z.count mine (mat.set src (max (mat.getD src 0) (min m.at' z.k.lines.length:Nat))) base ready,[]) else (z,[])
 | _=>(z,[])
def hear (z:Aj) (src:Nat) (m:BG):Aj × DX:=
 let z1:Aj:={ z with seen:=Fj z.seen m.e }
 if m.k = 1 then z1.BK src m else if m.k = 2 then z1.Bj src m else if m.k = 3 then z1.Cj m else
 if m.k = 4 then z1.BD src m else if m.k = 5 then z1.BF src m else z1.CJ src m
def BL (z:Aj) (b:List UInt8):Aj × Int:=
 if b.length = 0 ∨ 4096 < b.length then (z,1) else
 match z.BB with
 | .leads mine mat base true =>
  if 256 ≤ z.k.lines.length then (z,4) else
  if (z.k.Cm [⟨mine,b⟩]).2 = 0 then ({ z with k:=(z.k.Cm [⟨mine,b⟩]).1 }.count mine mat base true,0) else (z,(z.k.Cm [⟨mine,b⟩]).2)
 | _=>(z,64)
end Aj
theorem Xe (a b:BitVec 64):Fj (Fj a b) b = Fj a b:=by
 unfold Fj
 by_cases h:a.toNat < b.toNat
 ·rw [if_pos h,if_neg (by omega)]
 ·rw [if_neg h,if_neg h]
theorem GM {k:AX} {e:BitVec 64} (h:(k.CQ e).2 = 0):(k.CQ e).1 = { k with promised:=e }:=by
 unfold AX.CQ at h ⊢
 split at h
 ·rename_i h1;rw [if_pos h1]
 ·simp at h
theorem IZ {k:AX} {e:BitVec 64} {ls:List Ar} (h:(k.Ee e ls).2 = 0):(k.Ee e ls).1 = ⟨e,e,ls⟩:=by
 unfold AX.Ee at h ⊢
 split at h
 ·rename_i h1;rw [if_pos h1]
 ·simp at h
theorem Ih {k:AX} {ls:List Ar} (h:(k.Cm ls).2 = 0):(k.Cm ls).1 = { k with lines:=k.lines ++ ls }:=by
 unfold AX.Cm at h ⊢
 split at h
 ·rename_i h1;rw [if_pos h1]
 ·simp at h
namespace Aj
def Same (x y:Aj):Prop:=x.k = y.k∧x.Ag = y.Ag∧x.OD = y.OD
theorem Same.refl (x:Aj):Same x x:=⟨rfl,rfl,rfl⟩
theorem aV {z:Aj} {src:Nat} {m:BG} (hr:z.BB = .follows) (he:m.e.toNat < z.k.promised.toNat) (h2:m.k ≠ 2) (_h6:m.k ≠ 6) (_hk:m.k ≤ 6) :
  (z.hear src m).1 = { z with seen:=Fj z.seen m.e }:=by
 unfold hear
 simp only
 by_cases h1:m.k = 1
 ·rw [if_pos h1]
  unfold BK
  simp only
  by_cases ho:(({ z with seen:=Fj z.seen m.e }:Aj).owns src m.e) = true
  ·rw [ho]
   simp only [Bool.not_true,Bool.false_eq_true,if_false]
   rw [if_pos (by omega)]
  ·rw [Bool.not_eq_true] at ho
   rw [ho];rfl
 ·rw [if_neg h1,if_neg h2]
  by_cases h3:m.k = 3
  ·rw [if_pos h3]
   unfold Cj follows
   simp only [hr,Bool.not_true,Bool.false_and,Bool.false_eq_true,if_false]
  ·rw [if_neg h3]
   by_cases h4:m.k = 4
   ·rw [if_pos h4]
    unfold BD
    simp only
    by_cases ho:(({ z with seen:=Fj z.seen m.e }:Aj).owns src m.e) = true
    ·rw [ho]
     simp only [Bool.not_true,Bool.false_eq_true,if_false]
     rw [if_pos he]
    ·rw [Bool.not_eq_true] at ho
     rw [ho];rfl
   ·rw [if_neg h4]
    by_cases h5:m.k = 5
    ·rw [if_pos h5]
     unfold BF
     simp only
     by_cases ho:(({ z with seen:=Fj z.seen m.e }:Aj).owns src m.e) = true
     ·rw [ho]
      simp only [Bool.not_true,Bool.false_eq_true,if_false]
      rw [if_pos he]
     ·rw [Bool.not_eq_true] at ho
      rw [ho];rfl
    ·rw [if_neg h5]
     unfold CJ
     simp only [hr]
def Ec (z:Aj) (src:Nat) (m:BG):Aj × DX:=
 if m.k = 1 then z.BK src m else if m.k = 2 then z.Bj src m else if m.k = 3 then z.Cj m else
 if m.k = 4 then z.BD src m else if m.k = 5 then z.BF src m else z.CJ src m
theorem MZ (z:Aj) (src:Nat) (m:BG):z.hear src m = ({ z with seen:=Fj z.seen m.e }:Aj).Ec src m:=rfl
theorem EU (z:Aj) (mine:BitVec 64) (mat:List Int) (base:Nat) (ready:Bool):(z.count mine mat base ready).seen = z.seen∧(z.count mine mat base ready).k = z.k∧(z.count mine mat base ready).id = z.id∧(z.count mine mat base ready).n = z.n:=by
 unfold count;simp only;split <;> exact ⟨rfl,rfl,rfl,rfl⟩
theorem YN (z:Aj) (mine:BitVec 64) (has:List (Option (BitVec 64 × List Ar))):(z.lead mine has).1.seen = z.seen∧(z.lead mine has).1.id = z.id∧(z.lead mine has).1.n = z.n:=by
 unfold lead
 split
 ·exact ⟨rfl,rfl,rfl⟩
 ·split
  ·exact ⟨rfl,rfl,rfl⟩
  ·split
   ·exact ⟨(EU _ _ _ _ _).1,(EU _ _ _ _ _).2.2⟩
   ·exact ⟨rfl,rfl,rfl⟩
theorem PY (z:Aj) (src:Nat) (m:BG):(z.Ec src m).1.seen = z.seen:=by
 unfold Ec
 split
 ·unfold BK;repeat (split <;> try rfl)
 split
 ·unfold Bj
  split
  ·split
   ·rfl
   ·exact (YN _ _ _).1
  ·rfl
 split
 ·unfold Cj;simp only;split <;> rfl
 split
 ·unfold BD;repeat (split <;> try rfl)
 split
 ·unfold BF;simp only;repeat (split <;> try rfl)
 ·unfold CJ
  split
  ·split
   ·exact (EU _ _ _ _ _).1
   ·rfl
  ·rfl
theorem OL (z:Aj) (src:Nat) (m:BG):Same ((z.BK src m).1.BK src m).1 (z.BK src m).1:=by
 by_cases ho:z.owns src m.e = true
 ·by_cases hp:m.e.toNat ≤ z.k.promised.toNat
  ·have e:(z.BK src m).1 = z:=by unfold BK;simp only [ho,Bool.not_true,Bool.false_eq_true,if_false];rw [if_pos hp]
   rw [e,e];exact Same.refl _
  ·by_cases hk:(z.k.CQ m.e).2 = 0
   ·have e:(z.BK src m).1 = ({ z with k:={ z.k with promised:=m.e } }:Aj).follow:=by
     unfold BK;simp only [ho,Bool.not_true,Bool.false_eq_true,if_false];rw [if_neg hp,if_pos hk,GM hk]
    rw [e]
    have ho2:(({ z with k:={ z.k with promised:=m.e } }:Aj).follow).owns src m.e = true:=ho
    have e2:((({ z with k:={ z.k with promised:=m.e } }:Aj).follow).BK src m).1 = (({ z with k:={ z.k with promised:=m.e } }:Aj).follow):=by
     unfold BK;simp only [ho2,Bool.not_true,Bool.false_eq_true,if_false];rw [if_pos (by exact Nat.le_refl _)]
    rw [e2];exact Same.refl _
   ·have e:(z.BK src m).1 = z:=by unfold BK;simp only [ho,Bool.not_true,Bool.false_eq_true,if_false];rw [if_neg hp,if_neg hk]
    rw [e,e];exact Same.refl _
 ·rw [Bool.not_eq_true] at ho
  have e:(z.BK src m).1 = z:=by unfold BK;simp only [ho,Bool.not_false,if_true]
  rw [e,e];exact Same.refl _
theorem NR (z:Aj) (m:BG):Same ((z.Cj m).1.Cj m).1 (z.Cj m).1:=by
 unfold Cj
 simp only
 by_cases h:(!z.follows && decide (z.mine.toNat < m.e.toNat)) = true
 ·rw [if_pos h]
  have e:(!z.follow.follows && decide (z.follow.mine.toNat < m.e.toNat)) = false:=rfl
  rw [e];exact Same.refl _
 ·rw [if_neg h,if_neg h];exact Same.refl _
theorem OO (z:Aj) (src:Nat) (m:BG):Same ((z.BD src m).1.BD src m).1 (z.BD src m).1:=by
 by_cases ho:z.owns src m.e = true
 ·by_cases hp:m.e.toNat < z.k.promised.toNat
  ·have e:(z.BD src m).1 = z:=by unfold BD;simp only [ho,Bool.not_true,Bool.false_eq_true,if_false];rw [if_pos hp]
   rw [e,e];exact Same.refl _
  ·by_cases hc:z.k.current = m.e
   ·have e:∀ y:Aj,y.owns src m.e = true→¬ m.e.toNat < y.k.promised.toNat→y.k.current = m.e→(y.BD src m).1 = y.follow:=by
     intro y h1 h2 h3
     unfold BD;simp only [h1,Bool.not_true,Bool.false_eq_true,if_false];rw [if_neg h2,if_pos h3]
    rw [e z ho hp hc,e z.follow ho hp hc];exact Same.refl _
   ·by_cases hk:(z.k.Ee m.e m.ls).2 = 0
    ·have e:(z.BD src m).1 = ({ z with k:=⟨m.e,m.e,m.ls⟩,Ag:=min z.Ag m.ls.length }:Aj).follow:=by
      unfold BD;simp only [ho,Bool.not_true,Bool.false_eq_true,if_false];rw [if_neg hp,if_neg hc,if_pos hk,IZ hk]
     rw [e]
     have ho2:(({ z with k:=⟨m.e,m.e,m.ls⟩,Ag:=min z.Ag m.ls.length }:Aj).follow).owns src m.e = true:=ho
     have e2:((({ z with k:=⟨m.e,m.e,m.ls⟩,Ag:=min z.Ag m.ls.length }:Aj).follow).BD src m).1 = (({ z with k:=⟨m.e,m.e,m.ls⟩,Ag:=min z.Ag m.ls.length }:Aj).follow):=by
      unfold BD;simp only [ho2,Bool.not_true,Bool.false_eq_true,if_false]
      rw [if_neg (by exact Nat.lt_irrefl _),if_pos (by rfl)]
      rfl
     rw [e2];exact Same.refl _
    ·have e:(z.BD src m).1 = z:=by unfold BD;simp only [ho,Bool.not_true,Bool.false_eq_true,if_false];rw [if_neg hp,if_neg hc,if_neg hk]
     rw [e,e];exact Same.refl _
 ·rw [Bool.not_eq_true] at ho
  have e:(z.BD src m).1 = z:=by unfold BD;simp only [ho,Bool.not_false,if_true]
  rw [e,e];exact Same.refl _
theorem Fv {y:Aj} {src:Nat} {m:BG} (ho:y.owns src m.e = true) (hp:¬ m.e.toNat < y.k.promised.toNat) (hc:¬ (y.k.promised ≠ m.e ∨ y.k.current ≠ m.e)) :
  (y.BF src m).1 = if y.k.lines.length < m.at' then y.follow else
   if m.ls.drop (y.k.lines.length - m.at') = [] then { y.follow with Ag:=max y.Ag (min m.com y.k.lines.length) } else
   if (y.k.Cm (m.ls.drop (y.k.lines.length - m.at'))).2 = 0 then { y.follow with k:=(y.k.Cm (m.ls.drop (y.k.lines.length - m.at'))).1,Ag:=max y.Ag (min m.com (y.k.Cm (m.ls.drop (y.k.lines.length - m.at'))).1.lines.length) } else y.follow:=by
 unfold BF
 simp only [ho,Bool.not_true,Bool.false_eq_true,if_false]
 rw [if_neg hp,if_neg hc]
 split
 ·rfl
 ·split
  ·rfl
  ·split <;> rfl
theorem NT (z:Aj) (src:Nat) (m:BG):Same ((z.BF src m).1.BF src m).1 (z.BF src m).1:=by
 by_cases ho:z.owns src m.e = true
 ·by_cases hp:m.e.toNat < z.k.promised.toNat
  ·have e:(z.BF src m).1 = z:=by unfold BF;simp only [ho,Bool.not_true,Bool.false_eq_true,if_false];rw [if_pos hp]
   rw [e,e];exact Same.refl _
  ·by_cases hc:z.k.promised ≠ m.e ∨ z.k.current ≠ m.e
   ·have e:(z.BF src m).1 = z:=by unfold BF;simp only [ho,Bool.not_true,Bool.false_eq_true,if_false];rw [if_neg hp,if_pos hc]
    rw [e,e];exact Same.refl _
   ·have e:=Fv ho hp hc
    by_cases ha:z.k.lines.length < m.at'
    ·rw [if_pos ha] at e
     rw [e,Fv (y:=z.follow) ho hp hc,if_pos (by exact ha)]
     exact Same.refl _
    ·rw [if_neg ha] at e
     by_cases hm:m.ls.drop (z.k.lines.length - m.at') = []
     ·rw [if_pos hm] at e
      rw [e,Fv (y:={ z.follow with Ag:=max z.Ag (min m.com z.k.lines.length) }) ho hp hc,if_neg (by exact ha),if_pos (by exact hm)]
      refine ⟨rfl, ?_,rfl⟩
      show max (max z.Ag (min m.com z.k.lines.length)) (min m.com z.k.lines.length) = max z.Ag (min m.com z.k.lines.length)
      omega
     ·rw [if_neg hm] at e
      by_cases hk:(z.k.Cm (m.ls.drop (z.k.lines.length - m.at'))).2 = 0
      ·rw [if_pos hk,Ih hk] at e
       have hlen:(z.k.lines ++ m.ls.drop (z.k.lines.length - m.at')).length - m.at' = m.ls.length:=by
        have:(m.ls.drop (z.k.lines.length - m.at')).length ≠ 0:=fun h=>hm (List.length_eq_zero_iff.1 h)
        rw [List.length_append,List.length_drop] at *
        omega
       rw [e,Fv (y:={ z.follow with k:={ z.k with lines:=z.k.lines ++ m.ls.drop (z.k.lines.length - m.at') },Ag:=max z.Ag (min m.com (z.k.lines ++ m.ls.drop (z.k.lines.length - m.at')).length) }) ho hp hc,
        if_neg (by show ¬ (z.k.lines ++ m.ls.drop (z.k.lines.length - m.at')).length < m.at';rw [List.length_append];omega),
        if_pos (by show m.ls.drop ((z.k.lines ++ m.ls.drop (z.k.lines.length - m.at')).length - m.at') = [];rw [hlen];exact List.drop_length)]
       refine ⟨rfl, ?_,rfl⟩
       show max (max z.Ag (min m.com (z.k.lines ++ m.ls.drop (z.k.lines.length - m.at')).length)) (min m.com (z.k.lines ++ m.ls.drop (z.k.lines.length - m.at')).length) = max z.Ag (min m.com (z.k.lines ++ m.ls.drop (z.k.lines.length - m.at')).length)
       omega
      ·rw [if_neg hk] at e
       rw [e,Fv (y:=z.follow) ho hp hc,if_neg (by exact ha),if_neg (by exact hm),if_neg (by exact hk)]
       exact Same.refl _
 ·rw [Bool.not_eq_true] at ho
  have e:(z.BF src m).1 = z:=by unfold BF;simp only [ho,Bool.not_false,if_true]
  rw [e,e];exact Same.refl _
theorem Ql (z:Aj) (mine:BitVec 64) (mat:List Int) (base:Nat) (ready:Bool):∃ r,(z.count mine mat base ready).BB = .leads mine (mat.set z.id z.k.lines.length) base r∧(r = true ∨ (r = ready∧¬ (base:Int) ≤ CW (mat.set z.id z.k.lines.length)))∧(ready = true→r = true):=by
 unfold count
 simp only
 split
 ·exact ⟨true,rfl, .inl rfl,fun _=>rfl⟩
 ·rename_i h;exact ⟨ready,rfl, .inr ⟨rfl,h⟩,fun h=>h⟩
theorem YO (z:Aj) (mine:BitVec 64) (has:List (Option (BitVec 64 × List Ar))):(z.lead mine has).1 = z ∨ (∃ mat base r,(z.lead mine has).1.BB = .leads mine mat base r) ∨ (z.lead mine has).1 = z.follow:=by
 unfold lead
 split
 ·exact .inl rfl
 ·split
  ·exact .inl rfl
  ·split
   ·obtain ⟨r,h, -⟩:=Ql { z with k:=(z.k.Ee mine _).1,Ag:=min z.Ag _ } mine (List.replicate z.n (-1)) _ false
    exact .inr (.inl ⟨_,_,r,h⟩)
   ·exact .inr (.inr rfl)
theorem Na (z:Aj) (src:Nat) (hsrc:∀ mine has,z.BB = .stands mine has→src < has.length) (m:BG):Same ((z.Bj src m).1.Bj src m).1 (z.Bj src m).1:=by
 cases hr:z.BB with
 | follows =>
  have e:(z.Bj src m).1 = z:=by unfold Bj;rw [hr]
  rw [e,e];exact Same.refl _
 | leads mine mat base ready =>
  have e:(z.Bj src m).1 = z:=by unfold Bj;rw [hr]
  rw [e,e];exact Same.refl _
 | stands mine has =>
  by_cases hc:mine ≠ m.e ∨ m.e.toNat ≤ m.c.toNat
  ·have e:(z.Bj src m).1 = z:=by unfold Bj;rw [hr];simp only;rw [if_pos hc]
   rw [e,e];exact Same.refl _
  ·have hs:=hsrc mine has hr
   obtain ⟨has1,hh1⟩:∃ h1,(if (has.getD src none).isSome then has else has.set src (some (m.c,m.ls))) = h1:=⟨_,rfl⟩
   have hsome:(has1.getD src none).isSome = true:=by
    rw [←hh1]
    split
    ·assumption
    ·rw [List.getD_eq_getElem?_getD,List.getElem?_set_self hs];rfl
   have e:(z.Bj src m).1 = (({ z with BB := .stands mine has1 }:Aj).lead mine has1).1:=by
    unfold Bj;rw [hr];simp only;rw [if_neg hc,hh1]
   obtain ⟨y,hy⟩:∃ y:Aj,({ z with BB := .stands mine has1 }:Aj) = y:=⟨_,rfl⟩
   have hyr:y.BB = .stands mine has1:=by rw [←hy]
   rw [hy] at e
   rw [e]
   have stay:(y.Bj src m).1 = (y.lead mine has1).1:=by
    unfold Bj;rw [hyr];simp only;rw [if_neg hc,if_pos hsome]
    have:({ y with BB := .stands mine has1 }:Aj) = y:=by rw [←hy]
    rw [this]
   rcases YO y mine has1 with h | ⟨mat,base,r,h⟩ | h
   ·rw [h,stay,h];exact Same.refl _
   ·have e2:((y.lead mine has1).1.Bj src m).1 = (y.lead mine has1).1:=by
     generalize (y.lead mine has1).1 = x at h
     unfold Bj;rw [h]
    rw [e2];exact Same.refl _
   ·rw [h]
    have e2:(y.follow.Bj src m).1 = y.follow:=rfl
    rw [e2];exact Same.refl _
theorem count_eq (x:Aj) (mine:BitVec 64) (mat:List Int) (base:Nat) (ready:Bool):x.count mine mat base ready = if (base:Int) ≤ CW (mat.set x.id x.k.lines.length) then { x with BB := .leads mine (mat.set x.id x.k.lines.length) base true,Ag:=max x.Ag (CW (mat.set x.id x.k.lines.length)).toNat } else { x with BB := .leads mine (mat.set x.id x.k.lines.length) base ready }:=rfl
theorem VT (z:Aj) (mine:BitVec 64) (mat mat':List Int) (base:Nat) (ready:Bool) (r:Bool) (hr:(z.count mine mat base ready).BB = .leads mine (mat.set z.id z.k.lines.length) base r) (hm:mat'.set z.id z.k.lines.length = mat.set z.id z.k.lines.length) :
  Same ((z.count mine mat base ready).count mine mat' base r) (z.count mine mat base ready):=by
 obtain ⟨-,hk,hid, -⟩:=EU z mine mat base ready
 have e1:(z.count mine mat base ready).count mine mat' base r = (if (base:Int) ≤ CW (mat.set z.id z.k.lines.length) then { (z.count mine mat base ready) with BB := .leads mine (mat.set z.id z.k.lines.length) base true,Ag:=max (z.count mine mat base ready).Ag (CW (mat.set z.id z.k.lines.length)).toNat } else { (z.count mine mat base ready) with BB := .leads mine (mat.set z.id z.k.lines.length) base r }):=by
  rw [count_eq (z.count mine mat base ready),hk,hid,hm]
  simp only [hk,hid]
 rw [e1]
 rw [count_eq] at hr ⊢
 by_cases hb:(base:Int) ≤ CW (mat.set z.id z.k.lines.length)
 ·rw [if_pos hb] at hr ⊢
  rw [if_pos hb]
  refine ⟨rfl, ?_,rfl⟩
  show max (max z.Ag _) _ = max z.Ag _
  omega
 ·rw [if_neg hb] at hr ⊢
  rw [if_neg hb]
  simp only [KC.leads.injEq,true_and] at hr
  subst hr
  exact ⟨rfl,rfl,rfl⟩
theorem QS (z:Aj) (src:Nat) (hne:src ≠ z.id) (m:BG):Same ((z.CJ src m).1.CJ src m).1 (z.CJ src m).1:=by
 cases hr:z.BB with
 | follows =>
  have e:(z.CJ src m).1 = z:=by unfold CJ;rw [hr]
  rw [e,e];exact Same.refl _
 | stands mine has =>
  have e:(z.CJ src m).1 = z:=by unfold CJ;rw [hr]
  rw [e,e];exact Same.refl _
 | leads mine mat base ready =>
  by_cases hc:mine = m.e
  ·obtain ⟨x,hx⟩:∃ x:Int,((min m.at' z.k.lines.length:Nat):Int) = x:=⟨_,rfl⟩
   have e:(z.CJ src m).1 = z.count mine (mat.set src (max (mat.getD src 0) x)) base ready:=by
    unfold CJ;rw [hr];simp only;rw [if_pos hc,hx]
   obtain ⟨r,h1, -, -⟩:=Ql z mine (mat.set src (max (mat.getD src 0) x)) base ready
   obtain ⟨-,hk,hid, -⟩:=EU z mine (mat.set src (max (mat.getD src 0) x)) base ready
   obtain ⟨mat1,hm1⟩:∃ m1,(mat.set src (max (mat.getD src 0) x)).set z.id z.k.lines.length = m1:=⟨_,rfl⟩
   rw [hm1] at h1
   have e2:((z.CJ src m).1.CJ src m).1 = (z.count mine (mat.set src (max (mat.getD src 0) x)) base ready).count mine (mat1.set src (max (mat1.getD src 0) x)) base r:=by
    rw [e]
    conv=>lhs;unfold CJ
    rw [h1];simp only;rw [if_pos hc,hk,hx]
   rw [e2,e]
   refine VT z mine _ _ base ready r (by rw [hm1];exact h1) ?_
   rw [←hm1]
   apply List.ext_getElem?
   intro i
   by_cases hi:i = z.id
   ·subst hi
    by_cases hlt:z.id < mat.length
    ·rw [List.getElem?_set_self (by simpa using hlt),List.getElem?_set_self (by simpa using hlt)]
    ·rw [List.getElem?_eq_none (by simpa using hlt),List.getElem?_eq_none (by simpa using hlt)]
   ·rw [List.getElem?_set_ne (Ne.symm hi),List.getElem?_set_ne (Ne.symm hi)]
    by_cases hs:i = src
    ·subst hs
     by_cases hlt:i < mat.length
     ·rw [List.getElem?_set_self (by simpa using hlt),List.getElem?_set_self hlt,List.getD_eq_getElem?_getD,List.getElem?_set_ne (Ne.symm hi),List.getElem?_set_self hlt]
      show some (max (max _ x) x) = some (max _ x)
      congr 1
      omega
     ·rw [List.getElem?_eq_none (by simpa using hlt),List.getElem?_eq_none (by simpa using hlt)]
    ·rw [List.getElem?_set_ne (Ne.symm hs),List.getElem?_set_ne (Ne.symm hi)]
  ·have e:(z.CJ src m).1 = z:=by unfold CJ;rw [hr];simp only;rw [if_neg hc]
   rw [e,e];exact Same.refl _
theorem Xj (z:Aj) (src:Nat) (hne:src ≠ z.id) (hsrc:∀ mine has,z.BB = .stands mine has→src < has.length) (m:BG):Same ((z.hear src m).1.hear src m).1 (z.hear src m).1:=by
 rw [MZ z]
 obtain ⟨y,hy⟩:∃ y:Aj,({ z with seen:=Fj z.seen m.e }:Aj) = y:=⟨_,rfl⟩
 rw [hy]
 have hys:Fj y.seen m.e = y.seen:=by rw [←hy];exact Xe _ _
 have e:((y.Ec src m).1.hear src m) = (y.Ec src m).1.Ec src m:=by
  rw [MZ,PY,hys]
  congr 1
  have:=PY y src m
  generalize (y.Ec src m).1 = x at this
  cases x;simp only at this;subst this;rfl
 rw [e]
 have hid:src ≠ y.id:=by rw [←hy];exact hne
 have hst:∀ mine has,y.BB = .stands mine has→src < has.length:=by rw [←hy];exact hsrc
 unfold Ec
 by_cases h1:m.k = 1
 ·simp only [if_pos h1];exact OL y src m
 simp only [if_neg h1]
 by_cases h2:m.k = 2
 ·simp only [if_pos h2];exact Na y src hst m
 simp only [if_neg h2]
 by_cases h3:m.k = 3
 ·simp only [if_pos h3];exact NR y m
 simp only [if_neg h3]
 by_cases h4:m.k = 4
 ·simp only [if_pos h4];exact OO y src m
 simp only [if_neg h4]
 by_cases h5:m.k = 5
 ·simp only [if_pos h5];exact NT y src m
 simp only [if_neg h5]
 exact QS y src hid m
end Aj
structure En (B:Nat) (ls:List Ar):Prop where
 n:ls.length ≤ 256
 m:∀ x ∈ ls,x.may
 b:AP ls ≤ B
theorem En.mono {B B':Nat} {ls:List Ar} (h:En B ls) (hB:B ≤ B'):En B' ls:=⟨h.n,h.m,Nat.le_trans h.b hB⟩
theorem En.nil (B:Nat):En B []:=⟨by simp,by simp,by simp [AP]⟩
def Ud (B n id len:Nat):KC→Prop
 | .follows=>True
 | .stands mine has=>(1 ≤ mine.toNat∧mine.toNat ≤ 281474976710656)∧has.length = n∧(∃ p,has[id]? = some (some p))∧∀ p,some p ∈ has→En B p.2
 | .leads mine mat _ _=>(1 ≤ mine.toNat∧mine.toNat ≤ 281474976710656)∧mat.length = n∧∀ x ∈ mat, -1 ≤ x∧x ≤ (len:Int)
structure N0 (B:Nat) (z:Aj):Prop where
 n1:1 ≤ z.n
 n3:z.n ≤ 3
 id:z.id < z.n
 ls:En B z.k.lines
 cp:z.k.current.toNat ≤ z.k.promised.toNat
 pt:z.k.promised.toNat ≤ 281474976710656
 se:z.seen.toNat ≤ 281474976710656
 co:z.Ag ≤ z.k.lines.length
structure NOk (B:Nat) (z:Aj):Prop extends N0 B z where
 ro:Ud B z.n z.id z.k.lines.length z.BB
theorem Ud.mono {B B' n id len:Nat} {r:KC} (h:Ud B n id len r) (hB:B ≤ B'):Ud B' n id len r:=by
 cases r with
 | follows=>trivial
 | stands mine has=>exact ⟨h.1,h.2.1,h.2.2.1,fun p hp=>(h.2.2.2 p hp).mono hB⟩
 | leads mine mat base ready=>exact h
theorem N0.mono {B B':Nat} {z:Aj} (h:N0 B z) (hB:B ≤ B'):N0 B' z:=⟨h.n1,h.n3,h.id,h.ls.mono hB,h.cp,h.pt,h.se,h.co⟩
theorem NOk.mono {B B':Nat} {z:Aj} (h:NOk B z) (hB:B ≤ B'):NOk B' z:=⟨h.toN0.mono hB,h.ro.mono hB⟩
theorem N0.kok {B:Nat} {z:Aj} (h:N0 B z):KOk z.k:=⟨h.ls.n,fun x hx=>(h.ls.m x hx).2.2⟩
theorem Qo {l:List Int} {x:Int} (h:∀ y ∈ l,y ≤ x) (h0:0 ≤ x):CW l ≤ x:=by
 unfold CW
 split
 ·exact h _ (by simp)
 ·rename_i a b
  have:=h a (by simp)
  omega
 ·rename_i a b c
  have h1:=h a (by simp)
  have h2:=h b (by simp)
  have h3:=h c (by simp)
  omega
 ·exact h0
theorem Jf {k:AX} {e:BitVec 64} (h:(k.CQ e).2 = 0):k.promised.toNat < e.toNat∧e.toNat ≤ 281474976710656:=by
 unfold AX.CQ at h
 split at h
 ·rename_i h1
  unfold AX.EK at h1
  simp only [Bool.and_eq_true,decide_eq_true_eq] at h1
  exact h1
 ·simp at h
theorem Wn {k:AX} {e:BitVec 64} {ls:List Ar} (h:(k.Ee e ls).2 = 0):k.promised.toNat ≤ e.toNat∧k.current.toNat < e.toNat∧e.toNat ≤ 281474976710656∧ls.length ≤ 256:=by
 unfold AX.Ee at h
 split at h
 ·rename_i h1
  unfold AX.Gg at h1
  simp only [Bool.and_eq_true,decide_eq_true_eq] at h1
  exact ⟨h1.1.1.1.1,h1.1.1.1.2,h1.1.1.2,h1.1.2⟩
 ·simp at h
theorem Si {k:AX} {ls:List Ar} (h:(k.Cm ls).2 = 0):ls.length + k.lines.length ≤ 256:=by
 unfold AX.Cm at h
 split at h
 ·rename_i h1
  exact (Ig h1).1
 ·simp at h
def EY (k k':AX):Prop:=k.promised.toNat ≤ k'.promised.toNat∧k.current.toNat ≤ k'.current.toNat
theorem EY.refl (k:AX):EY k k:=⟨Nat.le_refl _,Nat.le_refl _⟩
theorem EY.trans {a b c:AX} (h:EY a b) (h':EY b c):EY a c:=⟨Nat.le_trans h.1 h'.1,Nat.le_trans h.2 h'.2⟩
theorem NZ:∀ (l:List (Option (BitVec 64 × List Ar))) (b:Option (BitVec 64 × List Ar)) (p:BitVec 64 × List Ar),l.foldl EW b = some p→b = some p ∨ some p ∈ l
 | [],b,p,h => .inl h
 | x :: r,b,p,h=>by
  rw [List.foldl_cons] at h
  rcases NZ r _ p h with h1 | h1
  ·unfold EW at h1
   split at h1
   ·exact .inl h1
   ·exact .inr (by rw [h1];simp)
   ·split at h1
    ·exact .inr (by rw [h1];simp)
    ·exact .inl h1
  ·exact .inr (List.mem_cons_of_mem _ h1)
namespace Aj
theorem Xd {z:Aj} {f:Nat→BG} {t:Nat × BG} (h:t ∈ z.others f):t.1 < z.n∧t.1 ≠ z.id∧t.2 = f t.1:=by
 unfold others at h
 obtain ⟨i,hi,rfl⟩:=List.mem_map.1 h
 obtain ⟨h1,h2⟩:=List.mem_filter.1 hi
 exact ⟨List.mem_range.1 h1,by simpa using h2,rfl⟩
def EH (t:DX):Prop:=∀ x ∈ t,x.2.May
theorem EH.nil:EH []:=by intro x hx;simp at hx
theorem EH.others {z:Aj} {f:Nat→BG} (h:∀ i,i < z.n→(f i).May):EH (z.others f):=by
 intro t ht
 obtain ⟨h1, -,h2⟩:=Xd ht
 rw [h2];exact h _ h1
theorem EH.one {src:Nat} {m:BG} (h:m.May):EH [(src,m)]:=by
 intro t ht
 simp only [List.mem_singleton] at ht
 subst ht;exact h
theorem EH.append {a b:DX} (ha:EH a) (hb:EH b):EH (a ++ b):=by
 intro t ht
 rcases List.mem_append.1 ht with h | h
 ·exact ha t h
 ·exact hb t h
theorem Jh {e:BitVec 64} (h1:1 ≤ e.toNat) (h2:e.toNat ≤ 281474976710656):(BG.mk 3 e 0 0 0 []).May:=
 ⟨by simp,by simp,h1,h2,Nat.zero_le _,by simp,by simp,by simp,by intro x hx;simp at hx,fun _=>rfl,fun _=>rfl,fun _ _=>rfl,fun _ _ _=>rfl⟩
theorem Rz {e:BitVec 64} (h1:1 ≤ e.toNat) (h2:e.toNat ≤ 281474976710656):(BG.mk 1 e 0 0 0 []).May:=
 ⟨by simp,by simp,h1,h2,Nat.zero_le _,by simp,by simp,by simp,by intro x hx;simp at hx,fun _=>rfl,fun _=>rfl,fun _ _=>rfl,fun _ _ _=>rfl⟩
theorem MO {e:BitVec 64} {n:Nat} (h1:1 ≤ e.toNat) (h2:e.toNat ≤ 281474976710656) (hn:n ≤ 256):(BG.mk 6 e 0 n 0 []).May:=
 ⟨by simp,by simp,h1,h2,Nat.zero_le _,hn,by simp,by simp,by intro x hx;simp at hx,fun _=>rfl,fun _=>rfl,fun _ h=>absurd rfl h,fun _ _ _=>rfl⟩
theorem Ox {e c:BitVec 64} {B:Nat} {ls:List Ar} (h1:1 ≤ e.toNat) (h2:e.toNat ≤ 281474976710656) (hc:c.toNat ≤ e.toNat) (hl:En B ls):(BG.mk 2 e c 0 0 ls).May:=
 ⟨by simp,by simp,h1,h2,hc,by simp,by simp,hl.n,hl.m,fun h=>absurd rfl h,fun _=>rfl,fun _ _=>rfl,fun h _ _=>absurd rfl h⟩
theorem KO {e:BitVec 64} {B:Nat} {ls:List Ar} (h1:1 ≤ e.toNat) (h2:e.toNat ≤ 281474976710656) (hl:En B ls):(BG.mk 4 e 0 0 0 ls).May:=
 ⟨by simp,by simp,h1,h2,Nat.zero_le _,by simp,by simp,hl.n,hl.m,fun _=>rfl,fun _=>rfl,fun _ _=>rfl,fun _ h _=>absurd rfl h⟩
theorem PS {e:BitVec 64} {a c:Nat} {B:Nat} {ls:List Ar} (h1:1 ≤ e.toNat) (h2:e.toNat ≤ 281474976710656) (ha:a ≤ 256) (hc:c ≤ 256) (hl:En B ls):(BG.mk 5 e 0 a c ls).May:=
 ⟨by simp,by simp,h1,h2,Nat.zero_le _,ha,hc,hl.n,hl.m,fun _=>rfl,fun h=>absurd rfl h,fun h _=>absurd rfl h,fun _ _ h=>absurd rfl h⟩
theorem _root_.Go.Proofs.YthmpmgknnibljaaGreat.FN (ls:List Ar) (i:Nat):AP (ls.drop i) ≤ AP ls:=by
 have h:=DV (ls.take i) (ls.drop i)
 rw [List.take_append_drop] at h
 omega
theorem _root_.Go.Proofs.YthmpmgknnibljaaGreat.En.drop {B:Nat} {ls:List Ar} (h:En B ls) (i:Nat):En B (ls.drop i):=
 ⟨by rw [List.length_drop];have:=h.n;omega,fun x hx=>h.m x (List.mem_of_mem_drop hx),Nat.le_trans (FN ls i) h.b⟩
theorem Gv {B:Nat} {z:Aj} (h:N0 B z):NOk B z.follow:=⟨⟨h.n1,h.n3,h.id,h.ls,h.cp,h.pt,h.se,h.co⟩,trivial⟩
theorem Qm {B:Nat} {z:Aj} (h:N0 B z) {mine:BitVec 64} (hm:1 ≤ mine.toNat∧mine.toNat ≤ 281474976710656) {mat:List Int} (hl:mat.length = z.n) (ha:∀ x ∈ mat, -1 ≤ x∧x ≤ (z.k.lines.length:Int)) (base:Nat) (ready:Bool) :
  NOk B (z.count mine mat base ready):=by
 have hall:∀ x ∈ mat.set z.id z.k.lines.length, -1 ≤ x∧x ≤ (z.k.lines.length:Int):=by
  intro x hx
  rcases List.mem_or_eq_of_mem_set hx with h | rfl
  ·exact ha x h
  ·omega
 have hle:=Qo (l:=mat.set z.id z.k.lines.length) (x:=z.k.lines.length) (fun y hy=>(hall y hy).2) (by omega)
 unfold count
 simp only
 split
 ·refine ⟨⟨h.n1,h.n3,h.id,h.ls,h.cp,h.pt,h.se, ?_⟩,hm,by rw [List.length_set];exact hl,hall⟩
  show max z.Ag (CW (mat.set z.id z.k.lines.length)).toNat ≤ z.k.lines.length
  have:=h.co
  omega
 ·exact ⟨⟨h.n1,h.n3,h.id,h.ls,h.cp,h.pt,h.se,h.co⟩,hm,by rw [List.length_set];exact hl,hall⟩
theorem XN {B:Nat} {z:Aj} (h:NOk B z) {mine:BitVec 64} {has:List (Option (BitVec 64 × List Ar))} (hr:z.BB = .stands mine has):NOk B (z.lead mine has).1∧EH (z.lead mine has).2∧EY z.k (z.lead mine has).1.k:=by
 have hro:=h.ro
 rw [hr] at hro
 obtain ⟨hm,hlen, -,hls⟩:=hro
 unfold lead
 split
 ·exact ⟨h,EH.nil,EY.refl _⟩
 ·cases hb:Qr has with
  | none=>exact ⟨h,EH.nil,EY.refl _⟩
  | some p =>
   have hp:some p ∈ has:=by
    rcases NZ has none p hb with h | h
    ·simp at h
    ·exact h
   have hpl:=hls p hp
   simp only
   split
   ·rename_i hk
    obtain ⟨a1,a2,a3,a4⟩:=Wn hk
    have e:(z.k.Ee mine p.2).1 = ⟨mine,mine,p.2⟩:=IZ hk
    rw [e]
    refine ⟨Qm (z:={ z with k:=⟨mine,mine,p.2⟩,Ag:=min z.Ag p.2.length }) ⟨h.n1,h.n3,h.id,hpl,Nat.le_refl _,a3,h.se, ?_⟩ hm (by simp) (fun x hx => ?_) _ _,EH.others fun i _=>KO hm.1 hm.2 hpl, ?_⟩
    ·show min z.Ag p.2.length ≤ p.2.length
     omega
    ·have:=List.eq_of_mem_replicate hx
     subst this
     constructor
     ·omega
     ·show (-1:Int) ≤ (p.2.length:Int)
      omega
    ·rw [(EU _ _ _ _ _).2.1]
     exact ⟨a1,Nat.le_of_lt a2⟩
   ·exact ⟨Gv h.toN0,EH.nil,EY.refl _⟩
theorem ZL {B:Nat} {z:Aj} (h:NOk B z):NOk B z.stand.1∧EH z.stand.2∧EY z.k z.stand.1.k:=by
 unfold stand
 simp only
 split
 ·exact ⟨h,EH.nil,EY.refl _⟩
 ·split
  ·rename_i hk
   obtain ⟨p1,p2⟩:=Jf hk
   generalize PQ (Fj z.k.promised z.seen) z.id z.n = e at *
   have ek:=GM hk
   rw [ek]
   have hz1:NOk B ({ z with k:={ z.k with promised:=e },BB := .stands e ((List.replicate z.n none).set z.id (some (z.k.current,z.k.lines))),waited:=0 }:Aj):=by
    refine ⟨⟨h.n1,h.n3,h.id,h.ls, ?_,p2,h.se,h.co⟩,⟨by omega,p2⟩,by simp,⟨(z.k.current,z.k.lines), ?_⟩,fun p hp => ?_⟩
    ·have:=h.cp
     show z.k.current.toNat ≤ e.toNat
     omega
    ·rw [List.getElem?_set_self (by simpa using h.id)]
    ·rcases List.mem_or_eq_of_mem_set hp with hx | hx
     ·have:=List.eq_of_mem_replicate hx;simp at this
     ·simp only [Option.some.injEq] at hx
      subst hx;exact h.ls
   obtain ⟨q1,q2,q3⟩:=XN hz1 rfl
   refine ⟨q1,EH.append (EH.others fun i _=>Rz (by omega) p2) q2,EY.trans (b:={ z.k with promised:=e }) ⟨Nat.le_of_lt p1,Nat.le_refl _⟩ q3⟩
  ·exact ⟨h,EH.nil,EY.refl _⟩
theorem dA {B:Nat} {z:Aj} (h:NOk B z):NOk B z.tick.1∧EH z.tick.2∧EY z.k z.tick.1.k:=by
 have hro:=h.ro
 have other:∀ z:Aj,NOk B z→(∀ z':Aj,z' = ({ z with waited:=z.waited + 1 }:Aj)→NOk B z'):=by
  intro z h z' e;subst e;exact ⟨⟨h.n1,h.n3,h.id,h.ls,h.cp,h.pt,h.se,h.co⟩,h.ro⟩
 unfold tick
 split
 ·rename_i mine mat base ready hr
  rw [hr] at hro
  obtain ⟨hm,hlen,ha⟩:=hro
  refine ⟨h,EH.others fun i hi => ?_,EY.refl _⟩
  have hi2:i < mat.length:=by omega
  have hg:mat.getD i 0 = mat[i]:=by rw [List.getD_eq_getElem?_getD,List.getElem?_eq_getElem hi2];rfl
  have hx:=ha _ (List.getElem_mem hi2)
  rw [hg]
  split
  ·exact KO hm.1 hm.2 h.ls
  ·refine PS hm.1 hm.2 ?_ ?_ (h.ls.drop _)
   ·have:=h.ls.n;omega
   ·have:=h.ls.n;have:=h.co;omega
 ·simp only
  split
  ·exact ZL (other z h _ rfl)
  ·exact ⟨other z h _ rfl,EH.nil,EY.refl _⟩
theorem dM {a b:BitVec 64} {x:Nat} (ha:a.toNat ≤ x) (hb:b.toNat ≤ x):(Fj a b).toNat ≤ x:=by
 unfold Fj;split <;> assumption
theorem dX {B:Nat} {z:Aj} (h:NOk B z) {src:Nat} {m:BG} (hm:m.May) (b:Nat) (hb:AP m.ls ≤ b) :
  NOk (B + b) (z.hear src m).1∧EH (z.hear src m).2∧EY z.k (z.hear src m).1.k:=by
 rw [MZ]
 have h1:NOk B ({ z with seen:=Fj z.seen m.e }:Aj):=⟨⟨h.n1,h.n3,h.id,h.ls,h.cp,h.pt,dM h.se hm.e2,h.co⟩,h.ro⟩
 have hkk:({ z with seen:=Fj z.seen m.e }:Aj).k = z.k:=rfl
 rw [←hkk]
 generalize ({ z with seen:=Fj z.seen m.e }:Aj) = y at *
 clear h hkk
 have h:=h1
 have hml:En (B + b) m.ls:=⟨hm.n1,hm.hl,by omega⟩
 have hw:=h.mono (Nat.le_add_right B b)
 have stay:NOk (B + b) y∧EH []∧EY y.k y.k:=⟨hw,EH.nil,EY.refl _⟩
 unfold Ec
 split
 ·unfold BK
  split
  ·exact stay
  split
  ·refine ⟨hw,EH.one (Jh ?_ h.pt),EY.refl _⟩
   have:=hm.e1
   omega
  split
  ·rename_i hk
   obtain ⟨p1,p2⟩:=Jf hk
   rw [GM hk]
   refine ⟨Gv ⟨h.n1,h.n3,h.id,hw.ls, ?_,p2,h.se,h.co⟩,EH.one (Ox hm.e1 hm.e2 ?_ h.ls),⟨Nat.le_of_lt p1,Nat.le_refl _⟩⟩
   ·have:=h.cp
    show y.k.current.toNat ≤ m.e.toNat
    omega
   ·have:=h.cp
    omega
  ·exact stay
 split
 ·unfold Bj
  have hro:=hw.ro
  split
  ·rename_i mine has hr
   rw [hr] at hro
   obtain ⟨q1,q2,q3,q4⟩:=hro
   split
   ·exact stay
   ·simp only
    refine XN (z:={ y with BB := .stands mine (if (has.getD src none).isSome then has else has.set src (some (m.c,m.ls))) }) ⟨⟨hw.n1,hw.n3,hw.id,hw.ls,hw.cp,hw.pt,hw.se,hw.co⟩,q1, ?_, ?_, ?_⟩ rfl
    ·split
     ·exact q2
     ·rw [List.length_set];exact q2
    ·obtain ⟨p,hp⟩:=q3
     split
     ·exact ⟨p,hp⟩
     ·by_cases hi:src = y.id
      ·subst hi
       have hlt:y.id < has.length:=by rw [q2];exact h.id
       exact ⟨_,List.getElem?_set_self hlt⟩
      ·exact ⟨p,by rw [List.getElem?_set_ne hi];exact hp⟩
    ·intro p hp
     split at hp
     ·exact q4 p hp
     ·rcases List.mem_or_eq_of_mem_set hp with hx | hx
      ·exact q4 p hx
      ·simp only [Option.some.injEq] at hx
       subst hx;exact hml
  ·exact stay
 split
 ·unfold Cj
  refine ⟨?_,EH.nil, ?_⟩
  ·simp only
   split
   ·exact Gv hw.toN0
   ·exact hw
  ·simp only
   split <;> exact EY.refl _
 split
 ·unfold BD
  split
  ·exact stay
  split
  ·refine ⟨hw,EH.one (Jh ?_ h.pt),EY.refl _⟩
   rename_i hlt
   omega
  split
  ·exact ⟨Gv hw.toN0,EH.one (MO hm.e1 hm.e2 h.ls.n),EY.refl _⟩
  split
  ·rename_i hk
   obtain ⟨a1,a2,a3,a4⟩:=Wn hk
   rw [IZ hk]
   simp only
   refine ⟨Gv ⟨h.n1,h.n3,h.id,hml,Nat.le_refl _,a3,h.se, ?_⟩,EH.one (MO hm.e1 hm.e2 hm.n1),⟨a1,Nat.le_of_lt a2⟩⟩
   show min y.Ag m.ls.length ≤ m.ls.length
   omega
  ·exact stay
 split
 ·unfold BF
  split
  ·exact stay
  split
  ·refine ⟨hw,EH.one (Jh ?_ h.pt),EY.refl _⟩
   rename_i hlt
   omega
  split
  ·exact stay
  simp only
  split
  ·exact ⟨Gv hw.toN0,EH.nil,EY.refl _⟩
  split
  ·refine ⟨⟨⟨h.n1,h.n3,h.id,hw.ls,h.cp,h.pt,h.se, ?_⟩,trivial⟩,EH.one (MO hm.e1 hm.e2 h.ls.n),EY.refl _⟩
   show max y.Ag (min m.com y.k.lines.length) ≤ y.k.lines.length
   have:=h.co
   omega
  split
  ·rename_i hk
   rw [Ih hk]
   have hle:=Si hk
   have hd:=(hml.drop (y.k.lines.length - m.at'))
   have hlen:(y.k.lines ++ m.ls.drop (y.k.lines.length - m.at')).length ≤ 256:=by rw [List.length_append];omega
   refine ⟨⟨⟨h.n1,h.n3,h.id,⟨hlen,fun x hx => ?_, ?_⟩,h.cp,h.pt,h.se, ?_⟩,trivial⟩,EH.one (MO hm.e1 hm.e2 hlen),EY.refl _⟩
   ·rcases List.mem_append.1 hx with hx | hx
    ·exact h.ls.m x hx
    ·exact hd.m x hx
   ·show AP (y.k.lines ++ m.ls.drop (y.k.lines.length - m.at')) ≤ B + b
    rw [DV]
    have h1:=h.ls.b
    have h2:=FN m.ls (y.k.lines.length - m.at')
    omega
   ·show max y.Ag (min m.com (y.k.lines ++ m.ls.drop (y.k.lines.length - m.at')).length) ≤ (y.k.lines ++ m.ls.drop (y.k.lines.length - m.at')).length
    have:=h.co
    have h3:y.k.lines.length ≤ (y.k.lines ++ m.ls.drop (y.k.lines.length - m.at')).length:=by rw [List.length_append];omega
    omega
  ·exact ⟨Gv hw.toN0,EH.nil,EY.refl _⟩
 ·unfold CJ
  have hro:=hw.ro
  split
  ·rename_i mine mat base ready hr
   rw [hr] at hro
   obtain ⟨q1,q2,q3⟩:=hro
   split
   ·refine ⟨Qm hw.toN0 q1 (by rw [List.length_set];exact q2) (fun x hx => ?_) _ _,EH.nil, ?_⟩
    ·rcases List.mem_or_eq_of_mem_set hx with hx | hx
     ·exact q3 x hx
     ·subst hx
      have hg : -1 ≤ mat.getD src 0∧mat.getD src 0 ≤ (y.k.lines.length:Int):=by
       by_cases hi:src < mat.length
       ·have e:mat.getD src 0 = mat[src]:=by rw [List.getD_eq_getElem?_getD,List.getElem?_eq_getElem hi];rfl
        rw [e];exact q3 _ (List.getElem_mem hi)
       ·have e:mat.getD src 0 = 0:=by rw [List.getD_eq_getElem?_getD,List.getElem?_eq_none (by omega)];rfl
        rw [e];omega
      omega
    ·rw [(EU _ _ _ _ _).2.1];exact EY.refl _
   ·exact stay
  ·exact stay
theorem WU {B:Nat} {z:Aj} (h:NOk B z) (b:List UInt8):NOk (B + b.length) (z.BL b).1∧EY z.k (z.BL b).1.k:=by
 have hw:=h.mono (Nat.le_add_right B b.length)
 have hro:=hw.ro
 unfold BL
 split
 ·exact ⟨hw,EY.refl _⟩
 ·rename_i hb
  split
  ·rename_i mine mat base hr
   rw [hr] at hro
   obtain ⟨q1,q2,q3⟩:=hro
   split
   ·exact ⟨hw,EY.refl _⟩
   split
   ·rename_i hk
    rw [Ih hk]
    refine ⟨Qm (z:={ z with k:={ z.k with lines:=z.k.lines ++ [⟨mine,b⟩] } }) ⟨h.n1,h.n3,h.id,⟨?_,fun x hx => ?_, ?_⟩,h.cp,h.pt,h.se, ?_⟩ q1 q2 (fun x hx => ?_) _ _, ?_⟩
    ·show (z.k.lines ++ [Ar.mk mine b]).length ≤ 256
     rw [List.length_append];simp only [List.length_cons,List.length_nil];omega
    ·rcases List.mem_append.1 hx with hx | hx
     ·exact h.ls.m x hx
     ·simp only [List.mem_singleton] at hx
      subst hx
      exact ⟨q1,by show 1 ≤ b.length;omega,by show b.length ≤ 4096;omega⟩
    ·show AP (z.k.lines ++ [Ar.mk mine b]) ≤ B + b.length
     rw [DV]
     have h1:=h.ls.b
     have h2:AP [Ar.mk mine b] = b.length:=by simp [AP]
     omega
    ·show z.Ag ≤ (z.k.lines ++ [Ar.mk mine b]).length
     rw [List.length_append]
     have:=h.co
     omega
    ·have h1:=q3 x hx
     show -1 ≤ x∧x ≤ ((z.k.lines ++ [Ar.mk mine b]).length:Int)
     rw [List.length_append]
     omega
    ·rw [(EU _ _ _ _ _).2.1];exact ⟨Nat.le_refl _,Nat.le_refl _⟩
   ·exact ⟨hw,EY.refl _⟩
  ·exact ⟨hw,EY.refl _⟩
theorem TB {B id n:Nat} {k:AX} (h1:1 ≤ n) (h3:n ≤ 3) (hi:id < n) (hl:En B k.lines) (hc:k.current.toNat ≤ k.promised.toNat) (hp:k.promised.toNat ≤ 281474976710656):NOk B (Aj.new id n k):=
 ⟨⟨h1,h3,hi,hl,hc,hp,by show (0:BitVec 64).toNat ≤ _;decide,Nat.zero_le _⟩,trivial⟩
end Aj
structure Am where
 id:Nat
 n:Nat
 s:AZ
 BB:KC
 waited:Nat
 seen:BitVec 64
 Ag:Nat
namespace Am
def BN (z:Am):Aj:=⟨z.id,z.n,z.s.kept,z.BB,z.waited,z.seen,z.Ag⟩
def new (id n:Nat) (s:AZ):Am:=⟨id,n,s, .follows,0,0,0⟩
def dead (z:Am):Bool:=z.s.dead || z.s.d.dead
def follow (z:Am):Am:={ z with BB := .follows,waited:=0 }
def count (z:Am) (mine:BitVec 64) (mat:List Int) (base:Nat) (ready:Bool):Am:=
 let m:=mat.set z.id z.s.kept.lines.length
 if (base:Int) ≤ CW m then { z with BB := .leads mine m base true,Ag:=max z.Ag (CW m).toNat } else { z with BB := .leads mine m base ready }
def lead (z:Am) (mine:BitVec 64) (has:List (Option (BitVec 64 × List Ar))):Am × DX:=
 if 2 * (has.filter Option.isSome).length ≤ z.n then (z,[]) else
 match Qr has with
 | none=>(z,[])
 | some p =>
  if (z.s.FO mine p.2).2 = 0 then
   (({ z with s:=(z.s.FO mine p.2).1,Ag:=min z.Ag p.2.length }:Am).count mine (List.replicate z.n (-1)) p.2.length false,z.BN.others fun _=>⟨4,mine,0,0,0,p.2⟩)
  else (({ z with s:=(z.s.FO mine p.2).1 }:Am).follow,[])
def stand (z:Am):Am × DX:=
 let e:=PQ (Fj z.s.kept.promised z.seen) z.id z.n
 if e = 0 then (z,[]) else
 if (z.s.promise e).2 = 0 then
  let has:=(List.replicate z.n none).set z.id (some (z.s.kept.current,z.s.kept.lines))
  let z1:Am:={ z with s:=(z.s.promise e).1,BB := .stands e has,waited:=0 }
  ((z1.lead e has).1,(z.BN.others fun _=>⟨1,e,0,0,0,[]⟩) ++ (z1.lead e has).2)
 else ({ z with s:=(z.s.promise e).1 },[])
def tick (z:Am):Am × DX:=
 match z.BB with
 | .leads mine mat _ _ =>
  (z,z.BN.others fun i=>if mat.getD i 0 < 0 then ⟨4,mine,0,0,0,z.s.kept.lines⟩ else ⟨5,mine,0,(mat.getD i 0).toNat,z.Ag,z.s.kept.lines.drop (mat.getD i 0).toNat⟩)
 | _ =>
  let z1:Am:={ z with waited:=z.waited + 1 }
  if 3 + 2 * z.id < z.waited + 1 then z1.stand else (z1,[])
def BK (z:Am) (src:Nat) (m:BG):Am × DX:=
 if !z.BN.owns src m.e then (z,[]) else
 if m.e.toNat ≤ z.s.kept.promised.toNat then (z,z.BN.refuse src) else
 if (z.s.promise m.e).2 = 0 then
  (({ z with s:=(z.s.promise m.e).1 }:Am).follow,[(src,⟨2,m.e,z.s.kept.current,0,0,z.s.kept.lines⟩)])
 else ({ z with s:=(z.s.promise m.e).1 },[])
def Bj (z:Am) (src:Nat) (m:BG):Am × DX:=
 match z.BB with
 | .stands mine has =>
  if mine ≠ m.e ∨ m.e.toNat ≤ m.c.toNat then (z,[]) else
  let has1:=if (has.getD src none).isSome then has else has.set src (some (m.c,m.ls))
  ({ z with BB := .stands mine has1 }:Am).lead mine has1
 | _=>(z,[])
def Cj (z:Am) (m:BG):Am × DX:=(if !z.BN.follows && decide (z.BN.mine.toNat < m.e.toNat) then z.follow else z,[])
def BD (z:Am) (src:Nat) (m:BG):Am × DX:=
 if !z.BN.owns src m.e then (z,[]) else
 if m.e.toNat < z.s.kept.promised.toNat then (z,z.BN.refuse src) else
 if z.s.kept.current = m.e then (z.follow,z.BN.ack src m.e) else
 if (z.s.FO m.e m.ls).2 = 0 then
  let z1:Am:={ z with s:=(z.s.FO m.e m.ls).1,Ag:=min z.Ag m.ls.length }
  (z1.follow,z1.BN.ack src m.e)
 else ({ z with s:=(z.s.FO m.e m.ls).1 },[])
def BF (z:Am) (src:Nat) (m:BG):Am × DX:=
 if !z.BN.owns src m.e then (z,[]) else
 if m.e.toNat < z.s.kept.promised.toNat then (z,z.BN.refuse src) else
 if z.s.kept.promised ≠ m.e ∨ z.s.kept.current ≠ m.e then (z,[]) else
 let z1:=z.follow
 if z.s.kept.lines.length < m.at' then (z1,[]) else
 let more:=m.ls.drop (z.s.kept.lines.length - m.at')
 if more = [] then
  let z2:Am:={ z1 with Ag:=max z.Ag (min m.com z.s.kept.lines.length) }
  (z2,z2.BN.ack src m.e)
 else if (z.s.append more).2 = 0 then
  let z2:Am:={ z1 with s:=(z.s.append more).1,Ag:=max z.Ag (min m.com (z.s.append more).1.kept.lines.length) }
  (z2,z2.BN.ack src m.e)
 else ({ z1 with s:=(z.s.append more).1 },[])
def CJ (z:Am) (src:Nat) (m:BG):Am × DX:=
 match z.BB with
 | .leads mine mat base ready =>
  if mine = m.e then (z.count mine (mat.set src (max (mat.getD src 0) (min m.at' z.s.kept.lines.length:Nat))) base ready,[]) else (z,[])
 | _=>(z,[])
def Ec (z:Am) (src:Nat) (m:BG):Am × DX:=
 if m.k = 1 then z.BK src m else if m.k = 2 then z.Bj src m else if m.k = 3 then z.Cj m else
 if m.k = 4 then z.BD src m else if m.k = 5 then z.BF src m else z.CJ src m
def hear (z:Am) (src:Nat) (m:BG):Am × DX:=({ z with seen:=Fj z.seen m.e }:Am).Ec src m
def BL (z:Am) (b:List UInt8):Am × Int:=
 if b.length = 0 ∨ 4096 < b.length then (z,1) else
 match z.BB with
 | .leads mine mat base true =>
  if 256 ≤ z.s.kept.lines.length then (z,4) else
  if (z.s.append [⟨mine,b⟩]).2 = 0 then (({ z with s:=(z.s.append [⟨mine,b⟩]).1 }:Am).count mine mat base true,0) else ({ z with s:=(z.s.append [⟨mine,b⟩]).1 },(z.s.append [⟨mine,b⟩]).2)
 | _=>(z,64)
end Am
theorem Jd {P:Program} {id:Nat} {ops:Array Oper} {d:Bool} {a:Act} {w:World} {Q:Exit→Act→World→Prop} (Post:Act→Act→World→Prop)
  (h:(Code.region id ops d).wp P (fun e a' w'=>e = .normal∧Post a a' w') a w) (hq:∀ a' w',Post a a' w'→Q .normal a' w'):(Code.region id ops d).wp P Q a w:=
 Code.wp_mono (fun e a' w' hp=>by
  obtain ⟨he,hp⟩:=hp
  subst he;exact hq _ _ hp) h
section
variable {P:Program} {ops:Array Oper} {Q:Exit→Act→World→Prop} {md:Region.Mode} {S:World→Prop} {need:Nat→Bool}
theorem Gm {i j:Nat} {oi oj:Oper} {fuel:Nat} {listed:Array Bool} {a:Act} {w:World} (hi:(ops.toList.drop i).head? = some oi) (hj:(ops.toList.drop j).head? = some oj) (hr:Region.ready md ops listed = [i,j])
  (h1:wpList P ops (Exit.then (fun a' w'=>(need i = true→S w')∧Dq P md ops Q S need fuel (listed.setIfInBounds i true) a' w') Q) [oi] a w)
  (h2:wpList P ops (Exit.then (fun a' w'=>(need j = true→S w')∧Dq P md ops Q S need fuel (listed.setIfInBounds j true) a' w') Q) [oj] a w):Dq P md ops Q S need (fuel + 1) listed a w:=by
 refine ⟨fun h0=>(by rw [h0] at hr;cases hr),fun k hk => ?_⟩
 rw [hr] at hk
 simp only [List.mem_cons,List.not_mem_nil,or_false] at hk
 rcases hk with rfl | rfl
 ·exact LY (EX hi) h1
 ·exact LY (EX hj) h2
end
section
variable {P:Program} {ops:Array Oper} {Q:Exit→Act→World→Prop} {rest:List Oper} {a:Act} {w w':World} {d:Option Tmp} {ty:TypeId} {ps:String} {af:Array Edge} {v:Value}
end
end Go.Proofs.YthmpmgknnibljaaGreat
namespace Go.Proofs
open Go.Shelf
def Tryz.Vu:Go.Shelf.Ren:=⟨fun | 125=>174 | 128=>196 | 129=>197 | n=>n,fun | 46=>198 | 3=>3 | 51=>256 | 53=>34 | 4=>4 | 5=>5 | 9=>9 | n=>n,fun | n=>n⟩
theorem Tryz.lays125:Go.Proofs.Lays.n125 Tryz.prog Tryz.Vu:={
 mixed:=by kernel_rfl
 f125:=Tryz.func174.trans (congrArg some (by kernel_rfl))
 f128:=Tryz.func196.trans (congrArg some (by kernel_rfl))
 f129:=Tryz.func197.trans (congrArg some (by kernel_rfl))
 t3:=Tryz.underlying3
 a3:=Tryz.isAgg3
 z3:=Tryz.sizeOf3
 v3:=Tryz.zeroValue3
 t4:=Tryz.underlying4
 a4:=Tryz.isAgg4
 z4:=Tryz.sizeOf4
 v4:=Tryz.zeroValue4
 t5:=Tryz.underlying5
 a5:=Tryz.isAgg5
 z5:=Tryz.sizeOf5
 v5:=Tryz.zeroValue5
 t9:=Tryz.underlying9
 a9:=Tryz.isAgg9
 z9:=Tryz.sizeOf9
 v9:=Tryz.zeroValue9
 t46:=Tryz.underlying198
 a46:=Tryz.isAgg198
 z46:=Tryz.sizeOf198
 v46:=Tryz.zeroValue198
 t51:=Tryz.underlying256
 a51:=Tryz.isAgg256
 z51:=Tryz.sizeOf256
 v51:=Tryz.zeroValue256
 t53:=Tryz.underlying34
 a53:=Tryz.isAgg34
 z53:=Tryz.sizeOf34
 v53:=Tryz.zeroValue34 }
theorem Tryz.bits_Len (x:Int) (w:World) (h0:0 ≤ x) (h1:x ≤ 18446744073709551615) :
  Calls Tryz.prog 174 #[.int .u64 x] w fun e w'=>e = .returned (.int .i64 (Lib.bitLen x.toNat))∧w' = w:=Any.bits_Len Tryz.lays125 x w h0 h1
def Tryz.Vt:Go.Shelf.Ren:=⟨fun | 212=>180 | 263=>200 | 264=>201 | n=>n,fun | 46=>198 | 51=>256 | 146=>260 | 53=>34 | 148=>262 | n=>n,fun | n=>n⟩
theorem Tryz.lays212:Go.Proofs.Lays.n212 Tryz.prog Tryz.Vt:={
 mixed:=by kernel_rfl
 f212:=Tryz.func180.trans (congrArg some (by kernel_rfl))
 f263:=Tryz.func200.trans (congrArg some (by kernel_rfl))
 f264:=Tryz.func201.trans (congrArg some (by kernel_rfl))
 t46:=Tryz.underlying198
 a46:=Tryz.isAgg198
 z46:=Tryz.sizeOf198
 v46:=Tryz.zeroValue198
 t51:=Tryz.underlying256
 a51:=Tryz.isAgg256
 z51:=Tryz.sizeOf256
 v51:=Tryz.zeroValue256
 t53:=Tryz.underlying34
 a53:=Tryz.isAgg34
 z53:=Tryz.sizeOf34
 v53:=Tryz.zeroValue34
 t146:=Tryz.underlying260
 a146:=Tryz.isAgg260
 z146:=Tryz.sizeOf260
 v146:=Tryz.zeroValue260
 t148:=Tryz.underlying262
 a148:=Tryz.isAgg262
 z148:=Tryz.sizeOf262
 v148:=Tryz.zeroValue262 }
open Go.RowKit Go.Lib in
theorem Tryz.bits_Mul (x y:Nat) (hx:x < 18446744073709551616) (hy:y < 18446744073709551616) (w:World) :
  Calls Tryz.prog 180 #[.int .u64 x, .int .u64 y] w fun e w'=>e = .returned (.tuple #[.int .u64 ((x * y / 18446744073709551616:Nat):Int), .int .u64 ((x * y % 18446744073709551616:Nat):Int)])∧w' = w:=Any.bits_Mul Tryz.lays212 x y hx hy w
def Tryz.QP:Go.Shelf.Ren:=⟨fun | 15=>137 | n=>n,fun | 22=>89 | 3=>3 | 4=>4 | n=>n,fun | n=>n⟩
theorem Tryz.laysNm215:Go.Proofs.Lays2.n15 Tryz.prog Tryz.QP:={
 mixed:=by kernel_rfl
 f15:=Tryz.func137.trans (congrArg some (by kernel_rfl))
 t3:=Tryz.underlying3
 a3:=Tryz.isAgg3
 z3:=Tryz.sizeOf3
 v3:=Tryz.zeroValue3
 t4:=Tryz.underlying4
 a4:=Tryz.isAgg4
 z4:=Tryz.sizeOf4
 v4:=Tryz.zeroValue4
 t22:=Tryz.underlying89
 a22:=Tryz.isAgg89
 z22:=Tryz.sizeOf89
 v22:=Tryz.zeroValue89
 i3:=by kernel_rfl }
open Go.RowKit Go.Lib in
theorem Tryz.slices_Clone_int (b off n c:Nat) (zs:List Int) (w:World) (hz:n ≤ zs.length) (hbig:n * 8 ≤ 140737488355328) (hc:∀ j,j < zs.length→w.cell? ⟨b,off + j,none⟩ = some (.int .i64 (zs.getD j 0))) :
  Calls Tryz.prog 137 #[.slice (some ⟨b,off,none⟩) n c] w fun e w'=>∃ v',e = .returned v'∧w'.ownsRow w.heap.size 3 1 v' n ((zs.take n).map (Value.int .i64))∧v' ≠ .slice none 0 0∧Below w.heap.size w w':=Any.slices_Clone_int Tryz.laysNm215 b off n c zs w hz hbig hc
open Go.RowKit Go.Lib in
theorem Tryz.slices_Clone_int_nil (n c:Nat) (w:World) :
  Calls Tryz.prog 137 #[.slice none n c] w fun e w'=>e = .returned (.slice none 0 0)∧w' = w:=Any.slices_Clone_int_nil Tryz.laysNm215 n c w
open Go.RowKit Go.Lib in
theorem Tryz.slices_Clone_int_zero (a:Addr) (c:Nat) (w:World) :
  Calls Tryz.prog 137 #[.slice (some a) 0 c] w fun e w'=>∃ v',e = .returned v'∧w'.ownsRow w.heap.size 3 1 v' 0 []∧v' ≠ .slice none 0 0∧Below w.heap.size w w':=Any.slices_Clone_int_zero Tryz.laysNm215 a c w
def Tryz.QE:Go.Shelf.Ren:=⟨fun | 6=>138 | 15=>174 | 14=>173 | 28=>196 | 29=>197 | 20=>188 | 21=>189 | 22=>190 | 23=>191 | 24=>192 | 25=>193 | 26=>194 | 27=>195 | 46=>203 | 47=>204 | 48=>205 | 49=>206 | 50=>207 | 57=>217 | n=>n,fun | 22=>89 | 24=>3 | 25=>204 | 3=>3 | 39=>198 | 0=>0 | 53=>256 | 55=>34 | 4=>4 | 46=>249 | 45=>248 | 50=>253 | 5=>5 | 9=>9 | 66=>265 | 70=>268 | 76=>276 | 77=>277 | n=>n,fun | n=>n⟩
theorem Tryz.Ym:Go.Proofs.SlLaysF.n6 Tryz.prog Tryz.QE:={
 mixed:=by kernel_rfl
 f6:=⟨Tryz.f138.name,by decide,Tryz.func138.trans (congrArg some (by kernel_rfl))⟩
 f14:=⟨Tryz.f173.name,by decide,Tryz.func173.trans (congrArg some (by kernel_rfl))⟩
 f15:=Tryz.func174.trans (congrArg some (by kernel_rfl))
 f20:=⟨Tryz.f188.name,by decide,Tryz.func188.trans (congrArg some (by kernel_rfl))⟩
 f21:=⟨Tryz.f189.name,by decide,Tryz.func189.trans (congrArg some (by kernel_rfl))⟩
 f22:=⟨Tryz.f190.name,by decide,Tryz.func190.trans (congrArg some (by kernel_rfl))⟩
 f23:=⟨Tryz.f191.name,by decide,Tryz.func191.trans (congrArg some (by kernel_rfl))⟩
 f24:=⟨Tryz.f192.name,by decide,Tryz.func192.trans (congrArg some (by kernel_rfl))⟩
 f25:=⟨Tryz.f193.name,by decide,Tryz.func193.trans (congrArg some (by kernel_rfl))⟩
 f26:=⟨Tryz.f194.name,by decide,Tryz.func194.trans (congrArg some (by kernel_rfl))⟩
 f27:=⟨Tryz.f195.name,by decide,Tryz.func195.trans (congrArg some (by kernel_rfl))⟩
 f28:=Tryz.func196.trans (congrArg some (by kernel_rfl))
 f29:=Tryz.func197.trans (congrArg some (by kernel_rfl))
 f46:=⟨Tryz.f203.name,by decide,Tryz.func203.trans (congrArg some (by kernel_rfl))⟩
 f47:=Tryz.func204.trans (congrArg some (by kernel_rfl))
 f48:=Tryz.func205.trans (congrArg some (by kernel_rfl))
 f49:=⟨Tryz.f206.name,by decide,Tryz.func206.trans (congrArg some (by kernel_rfl))⟩
 f50:=⟨Tryz.f207.name,by decide,Tryz.func207.trans (congrArg some (by kernel_rfl))⟩
 f57:=⟨Tryz.f217.name,by decide,Tryz.func217.trans (congrArg some (by kernel_rfl))⟩
 t0:=Tryz.underlying0
 a0:=Tryz.isAgg0
 z0:=Tryz.sizeOf0
 v0:=Tryz.zeroValue0
 t3:=Tryz.underlying3
 a3:=Tryz.isAgg3
 z3:=Tryz.sizeOf3
 v3:=Tryz.zeroValue3
 t4:=Tryz.underlying4
 a4:=Tryz.isAgg4
 z4:=Tryz.sizeOf4
 v4:=Tryz.zeroValue4
 t5:=Tryz.underlying5
 a5:=Tryz.isAgg5
 z5:=Tryz.sizeOf5
 v5:=Tryz.zeroValue5
 t9:=Tryz.underlying9
 a9:=Tryz.isAgg9
 z9:=Tryz.sizeOf9
 v9:=Tryz.zeroValue9
 t22:=Tryz.underlying89
 a22:=Tryz.isAgg89
 z22:=Tryz.sizeOf89
 v22:=Tryz.zeroValue89
 a24:=Tryz.isAgg3
 z24:=Tryz.sizeOf3
 t25:=Tryz.underlying204
 a25:=Tryz.isAgg204
 z25:=Tryz.sizeOf204
 v25:=Tryz.zeroValue204
 t39:=Tryz.underlying198
 a39:=Tryz.isAgg198
 z39:=Tryz.sizeOf198
 v39:=Tryz.zeroValue198
 t45:=Tryz.underlying248
 a45:=Tryz.isAgg248
 z45:=Tryz.sizeOf248
 v45:=Tryz.zeroValue248
 t46:=Tryz.underlying249
 a46:=Tryz.isAgg249
 z46:=Tryz.sizeOf249
 v46:=Tryz.zeroValue249
 t50:=Tryz.underlying253
 a50:=Tryz.isAgg253
 z50:=Tryz.sizeOf253
 v50:=Tryz.zeroValue253
 t53:=Tryz.underlying256
 a53:=Tryz.isAgg256
 z53:=Tryz.sizeOf256
 v53:=Tryz.zeroValue256
 t55:=Tryz.underlying34
 a55:=Tryz.isAgg34
 z55:=Tryz.sizeOf34
 v55:=Tryz.zeroValue34
 t66:=Tryz.underlying265
 a66:=Tryz.isAgg265
 z66:=Tryz.sizeOf265
 v66:=Tryz.zeroValue265
 t70:=Tryz.underlying268
 a70:=Tryz.isAgg268
 z70:=Tryz.sizeOf268
 v70:=Tryz.zeroValue268
 t76:=Tryz.underlying276
 a76:=Tryz.isAgg276
 z76:=Tryz.sizeOf276
 v76:=Tryz.zeroValue276
 t77:=Tryz.underlying277
 a77:=Tryz.isAgg277
 z77:=Tryz.sizeOf277
 v77:=Tryz.zeroValue277 }
def Tryz.keysL_ren:Go.Shelf.Ren:=⟨fun | 7=>143 | 10=>177 | n=>n,fun | 23=>154 | 26=>3 | 3=>153 | 28=>209 | 0=>0 | 27=>208 | 33=>175 | 4=>4 | n=>n,fun | n=>n⟩
theorem Tryz.keysL:Go.Proofs.SlLaysZI.n7 Tryz.prog Tryz.keysL_ren:={
 mixed:=by kernel_rfl
 f7:=⟨Tryz.f143.name,by decide,Tryz.func143.trans (congrArg some (by kernel_rfl))⟩
 f10:=⟨Tryz.f177.name,by decide,Tryz.func177.trans (congrArg some (by kernel_rfl))⟩
 t0:=Tryz.underlying0
 a0:=Tryz.isAgg0
 z0:=Tryz.sizeOf0
 v0:=Tryz.zeroValue0
 t4:=Tryz.underlying4
 a4:=Tryz.isAgg4
 z4:=Tryz.sizeOf4
 v4:=Tryz.zeroValue4
 t23:=Tryz.underlying154
 a23:=Tryz.isAgg154
 z23:=Tryz.sizeOf154
 v23:=Tryz.zeroValue154
 t26:=Tryz.underlying3
 a26:=Tryz.isAgg3
 z26:=Tryz.sizeOf3
 v26:=Tryz.zeroValue3
 t27:=Tryz.underlying208
 a27:=Tryz.isAgg208
 z27:=Tryz.sizeOf208
 v27:=Tryz.zeroValue208
 t28:=Tryz.underlying209
 a28:=Tryz.isAgg209
 z28:=Tryz.sizeOf209
 v28:=Tryz.zeroValue209
 t33:=Tryz.underlying175
 a33:=Tryz.isAgg175
 z33:=Tryz.sizeOf175
 v33:=Tryz.zeroValue175 }
def Tryz.Og:Go.Shelf.Ren:=⟨fun | 6=>142 | 8=>175 | 9=>176 | 11=>198 | 13=>174 | 12=>199 | 23=>196 | 24=>197 | 14=>208 | 15=>209 | 16=>210 | 17=>211 | 18=>212 | 19=>213 | 20=>214 | 21=>215 | 22=>216 | 25=>218 | 26=>204 | 27=>205 | 28=>219 | 29=>220 | 30=>221 | 31=>222 | n=>n,fun | 26=>3 | 28=>209 | 24=>89 | 0=>0 | 3=>3 | 37=>198 | 48=>256 | 50=>34 | 4=>4 | 40=>249 | 39=>248 | 45=>253 | 5=>5 | 9=>9 | 51=>265 | 55=>268 | 57=>276 | 58=>277 | 33=>175 | n=>n,fun | n=>n⟩
theorem Tryz.dE:Go.Proofs.SlLaysZI.n6 Tryz.prog Tryz.Og:={
 mixed:=by kernel_rfl
 f6:=⟨Tryz.f142.name,by decide,Tryz.func142.trans (congrArg some (by kernel_rfl))⟩
 f8:=⟨Tryz.f175.name,by decide,Tryz.func175.trans (congrArg some (by kernel_rfl))⟩
 f11:=⟨Tryz.f198.name,by decide,Tryz.func198.trans (congrArg some (by kernel_rfl))⟩
 t0:=Tryz.underlying0
 a0:=Tryz.isAgg0
 z0:=Tryz.sizeOf0
 v0:=Tryz.zeroValue0
 t24:=Tryz.underlying89
 a24:=Tryz.isAgg89
 z24:=Tryz.sizeOf89
 v24:=Tryz.zeroValue89
 t26:=Tryz.underlying3
 a26:=Tryz.isAgg3
 z26:=Tryz.sizeOf3
 v26:=Tryz.zeroValue3
 t28:=Tryz.underlying209
 a28:=Tryz.isAgg209
 z28:=Tryz.sizeOf209
 v28:=Tryz.zeroValue209
 i26:=by kernel_rfl }
def Tryz.SB:Go.Shelf.Ren:=⟨fun | 5=>176 | 8=>174 | 7=>199 | 19=>196 | 20=>197 | 10=>208 | 11=>209 | 12=>210 | 13=>211 | 14=>212 | 15=>213 | 16=>214 | 17=>215 | 18=>216 | 30=>218 | 31=>204 | 32=>205 | 33=>219 | 34=>220 | 35=>221 | 40=>222 | n=>n,fun | 23=>89 | 25=>3 | 3=>3 | 32=>198 | 22=>89 | 0=>0 | 44=>256 | 46=>34 | 4=>4 | 36=>249 | 35=>248 | 41=>253 | 5=>5 | 9=>9 | 53=>265 | 57=>268 | 63=>276 | 64=>277 | n=>n,fun | n=>n⟩
theorem Tryz.Uy:Go.Proofs.SlLaysM.n5 Tryz.prog Tryz.SB:={
 mixed:=by kernel_rfl
 f5:=⟨Tryz.f176.name,by decide,Tryz.func176.trans (congrArg some (by kernel_rfl))⟩
 f7:=⟨Tryz.f199.name,by decide,Tryz.func199.trans (congrArg some (by kernel_rfl))⟩
 f8:=Tryz.func174.trans (congrArg some (by kernel_rfl))
 f10:=⟨Tryz.f208.name,by decide,Tryz.func208.trans (congrArg some (by kernel_rfl))⟩
 f11:=⟨Tryz.f209.name,by decide,Tryz.func209.trans (congrArg some (by kernel_rfl))⟩
 f12:=⟨Tryz.f210.name,by decide,Tryz.func210.trans (congrArg some (by kernel_rfl))⟩
 f13:=⟨Tryz.f211.name,by decide,Tryz.func211.trans (congrArg some (by kernel_rfl))⟩
 f14:=⟨Tryz.f212.name,by decide,Tryz.func212.trans (congrArg some (by kernel_rfl))⟩
 f15:=⟨Tryz.f213.name,by decide,Tryz.func213.trans (congrArg some (by kernel_rfl))⟩
 f16:=⟨Tryz.f214.name,by decide,Tryz.func214.trans (congrArg some (by kernel_rfl))⟩
 f17:=⟨Tryz.f215.name,by decide,Tryz.func215.trans (congrArg some (by kernel_rfl))⟩
 f18:=⟨Tryz.f216.name,by decide,Tryz.func216.trans (congrArg some (by kernel_rfl))⟩
 f19:=Tryz.func196.trans (congrArg some (by kernel_rfl))
 f20:=Tryz.func197.trans (congrArg some (by kernel_rfl))
 f30:=⟨Tryz.f218.name,by decide,Tryz.func218.trans (congrArg some (by kernel_rfl))⟩
 f31:=Tryz.func204.trans (congrArg some (by kernel_rfl))
 f32:=Tryz.func205.trans (congrArg some (by kernel_rfl))
 f33:=⟨Tryz.f219.name,by decide,Tryz.func219.trans (congrArg some (by kernel_rfl))⟩
 f34:=⟨Tryz.f220.name,by decide,Tryz.func220.trans (congrArg some (by kernel_rfl))⟩
 f35:=⟨Tryz.f221.name,by decide,Tryz.func221.trans (congrArg some (by kernel_rfl))⟩
 f40:=⟨Tryz.f222.name,by decide,Tryz.func222.trans (congrArg some (by kernel_rfl))⟩
 t0:=Tryz.underlying0
 a0:=Tryz.isAgg0
 z0:=Tryz.sizeOf0
 v0:=Tryz.zeroValue0
 t3:=Tryz.underlying3
 a3:=Tryz.isAgg3
 z3:=Tryz.sizeOf3
 v3:=Tryz.zeroValue3
 t4:=Tryz.underlying4
 a4:=Tryz.isAgg4
 z4:=Tryz.sizeOf4
 v4:=Tryz.zeroValue4
 t5:=Tryz.underlying5
 a5:=Tryz.isAgg5
 z5:=Tryz.sizeOf5
 v5:=Tryz.zeroValue5
 t9:=Tryz.underlying9
 a9:=Tryz.isAgg9
 z9:=Tryz.sizeOf9
 v9:=Tryz.zeroValue9
 t22:=Tryz.underlying89
 a22:=Tryz.isAgg89
 z22:=Tryz.sizeOf89
 v22:=Tryz.zeroValue89
 t23:=Tryz.underlying89
 a23:=Tryz.isAgg89
 z23:=Tryz.sizeOf89
 v23:=Tryz.zeroValue89
 t25:=Tryz.underlying3
 a25:=Tryz.isAgg3
 z25:=Tryz.sizeOf3
 v25:=Tryz.zeroValue3
 t32:=Tryz.underlying198
 a32:=Tryz.isAgg198
 z32:=Tryz.sizeOf198
 v32:=Tryz.zeroValue198
 t35:=Tryz.underlying248
 a35:=Tryz.isAgg248
 z35:=Tryz.sizeOf248
 v35:=Tryz.zeroValue248
 t36:=Tryz.underlying249
 a36:=Tryz.isAgg249
 z36:=Tryz.sizeOf249
 v36:=Tryz.zeroValue249
 t41:=Tryz.underlying253
 a41:=Tryz.isAgg253
 z41:=Tryz.sizeOf253
 v41:=Tryz.zeroValue253
 t44:=Tryz.underlying256
 a44:=Tryz.isAgg256
 z44:=Tryz.sizeOf256
 v44:=Tryz.zeroValue256
 t46:=Tryz.underlying34
 a46:=Tryz.isAgg34
 z46:=Tryz.sizeOf34
 v46:=Tryz.zeroValue34
 t53:=Tryz.underlying265
 a53:=Tryz.isAgg265
 z53:=Tryz.sizeOf265
 v53:=Tryz.zeroValue265
 t57:=Tryz.underlying268
 a57:=Tryz.isAgg268
 z57:=Tryz.sizeOf268
 v57:=Tryz.zeroValue268
 t63:=Tryz.underlying276
 a63:=Tryz.isAgg276
 z63:=Tryz.sizeOf276
 v63:=Tryz.zeroValue276
 t64:=Tryz.underlying277
 a64:=Tryz.isAgg277
 z64:=Tryz.sizeOf277
 v64:=Tryz.zeroValue277 }
end Go.Proofs
namespace Go.Proofs.YthmpmgknnibljaaGreat
set_option maxRecDepth 100000
set_option maxHeartbeats 3200000
open Go Go.RowKit
attribute [local go_sem ↓] Go.wp_at_zero Go.wp_at_succ
theorem UJ {k:IntKind} {a b:Int} (h:a = b):Ending.returned (.int k a) = .returned (.int k b):=by rw [h]
theorem Rx (e:Nat) (he:e < 18446744073709551616) (m:Int) (hm:m = (e:Int)) (n:Nat) (h1:1 ≤ n) (h3:n ≤ 3) (w:World):Calls Tryz.prog 141 #[.int .u64 m, .int .i64 (n:Int)] w fun e' w'=>e' = .returned (.int .i64 ((e % n:Nat):Int))∧w = w':=by
 subst hm
 have hb:(0:Int) ≤ (e:Int)∧(e:Int) < 18446744073709551616:=by omega
 rcases (show n = 1 ∨ n = 2 ∨ n = 3 by omega) with rfl | rfl | rfl
 all_goals
  go_enter Tryz.func141,Tryz.ntmps141
  go_wp2
  go_ret
  exact ⟨UJ (by omega),rfl⟩
theorem PD (n:Nat) (h1:1 ≤ n) (h3:n ≤ 3) (w:World):Calls Tryz.prog 140 #[.int .i64 (n:Int)] w fun e' w'=>e' = .returned (.int .i64 ((n / 2 + 1:Nat):Int))∧w = w':=by
 rcases (show n = 1 ∨ n = 2 ∨ n = 3 by omega) with rfl | rfl | rfl
 all_goals
  go_enter Tryz.func140,Tryz.ntmps140
  go_wp2
  go_ret
  exact ⟨rfl,rfl⟩
theorem YE (a b c d:Nat) (W:World):(Op.equalIn 10000 239 (.agg #[.int .u64 (a:Int), .int .u64 (b:Int)]) (.agg #[.int .u64 (c:Int), .int .u64 (d:Int)])).run Tryz.prog W = .ok (((a:Int) == c) && ((b:Int) == d)) W:=by
 have h64:Tryz.prog.underlying 34 = some (.int .u64):=Tryz.underlying34
 have hsz:(sizeOf 34).run Tryz.prog W = .ok 1 W:=by rfl
 have hr:∀ (xs:List Value),True:=fun _=>trivial
 unfold Op.equalIn
 simp only [Sem.run_bind,run_underlying Tryz.underlying239,Result.andThen_ok,hsz]
 have e9:∀ (x y:Int) (W:World),(Op.equalIn 9999 34 (.int .u64 x) (.int .u64 y)).run Tryz.prog W = .ok (x == y) W:=fun x y W=>run_equalIn_int W 9998 34 .u64 .u64 x y h64
 have hp:∀ (x y:Int) (W:World),(part 34 #[.int .u64 x, .int .u64 y] 0).run Tryz.prog W = .ok (.int .u64 x) W:=fun _ _ _=>rfl
 have hq:∀ (x y:Int) (W:World),(part 34 #[.int .u64 x, .int .u64 y] 1).run Tryz.prog W = .ok (.int .u64 y) W:=fun _ _ _=>rfl
 by_cases h1:(a:Int) = c
 ·by_cases h2:(b:Int) = d
  ·simp [Std.Legacy.Range.forIn_eq_forIn_range',List.range',e9,hp,hq,h1,h2]
  ·simp [Std.Legacy.Range.forIn_eq_forIn_range',List.range',e9,hp,hq,h1,h2]
 ·simp [Std.Legacy.Range.forIn_eq_forIn_range',List.range',e9,hp,hq,h1]
section
variable {w:World} {o:Own}
theorem Vm {w:World} {b:Nat} {x y:Value} (hr:w.rangeAt b 0 [x,y]):(Instr.loadAt 239 (.pointer (some ⟨b,0,none⟩))).run Tryz.prog w = .ok (.agg #[x,y]) w:=by
 simp only [Instr.loadAt,Instr.sureAddr,Sem.run_bind,Sem.run_pure,Result.andThen_ok]
 exact run_loadVar_mid w b 0 239 [x,y] _ hr Tryz.underlying239 rfl (by kernel_rfl)
def LJ (a b c d:Nat):Int:=if a = c∧b = d then 0 else if a < c ∨ (a = c∧b < d) then -1 else 1
theorem YF (a b c d:Nat):Calls Tryz.prog 178 #[.agg #[.int .u64 (a:Int), .int .u64 (b:Int)], .agg #[.int .u64 (c:Int), .int .u64 (d:Int)]] w (Ret Nobody w o fun v _ _=>v = .int .i64 (LJ a b c d)):=by
 have s1:=((Step.refl Nobody w o).alloc (.cells #[.int .u64 (a:Int), .int .u64 (b:Int)] 239) (0,0)).alloc (.cells #[.int .u64 (c:Int), .int .u64 (d:Int)] 239) (0,0)
 have b1:=(Below.heap_alloc (w.alloc (.cells #[.int .u64 (a:Int), .int .u64 (b:Int)] 239)) (.cells #[.int .u64 (c:Int), .int .u64 (d:Int)] 239) w.heap.size (by simp)).trans (heap_alloc_new w (.cells [.int .u64 (a:Int), .int .u64 (b:Int)].toArray 239))
 have b2:((w.alloc (.cells #[.int .u64 (a:Int), .int .u64 (b:Int)] 239)).alloc (.cells #[.int .u64 (c:Int), .int .u64 (d:Int)] 239)).heap[w.heap.size + 1]? = some (.cells [.int .u64 (c:Int), .int .u64 (d:Int)].toArray 239 (0,0)):=by
  have:=heap_alloc_new (w.alloc (.cells #[.int .u64 (a:Int), .int .u64 (b:Int)] 239)) (.cells [.int .u64 (c:Int), .int .u64 (d:Int)].toArray 239)
  simpa using this
 obtain ⟨W,hW⟩:∃ W,(w.alloc (.cells #[.int .u64 (a:Int), .int .u64 (b:Int)] 239)).alloc (.cells #[.int .u64 (c:Int), .int .u64 (d:Int)] 239) = W:=⟨_,rfl⟩
 rw [hW] at s1 b1 b2
 generalize Ak (Ak o w.heap.size (0,0)) (w.alloc (.cells #[.int .u64 (a:Int), .int .u64 (b:Int)] 239)).heap.size (0,0) = o1 at s1
 have hl1:=hidden (Vm (AV b1))
 have hl2:=hidden (Vm (AV b2))
 have hc:=fun W=>YE a b c d W
 have x0:W.drew.cell? ⟨w.heap.size,0,none⟩ = some (.int .u64 (a:Int)):=cell_of_block b1 0
 have x1:W.drew.drew.cell? ⟨w.heap.size,1,none⟩ = some (.int .u64 (b:Int)):=cell_of_block b1 1
 have y0:W.drew.cell? ⟨w.heap.size + 1,0,none⟩ = some (.int .u64 (c:Int)):=cell_of_block b2 0
 have y1:W.drew.drew.cell? ⟨w.heap.size + 1,1,none⟩ = some (.int .u64 (d:Int)):=cell_of_block b2 1
 have hS0:=hidden (And.intro x0 y0)
 have hS1:=hidden (And.intro x1 y1)
 have hWH:=hidden hW
 have hst:=hidden s1
 clear b1 b2 hW s1 x0 x1 y0 y1
 by_cases e1:a = c
 ·subst e1
  by_cases e2:b = d
  ·subst e2
   have hu:=hidden (show LJ a b a b = 0 by simp [LJ])
   simp only [beq_self_eq_true,Bool.and_true] at hc
   go_enter Tryz.func178,Tryz.ntmps178
   go_wp2_with ((with_reducible apply Bo);(try rw [hWH.out]);(first | exact hl1.out | exact hl2.out);simp only [Act.put,lsa,lsz,lss])
   go_ret
   exact ⟨_,o1,rfl,hst.out,by rw [hu.out];rfl⟩
  ·have e2I:((b:Int) == (d:Int)) = false:=by simp;omega
   rw [e2I] at hc
   simp only [Bool.and_false] at hc
   by_cases h:b < d
   ·clear e2
    have hu:=hidden (show LJ a b a d = -1 by unfold LJ;rw [if_neg (by omega),if_pos (by omega)])
    have ltI:(b:Int) < (d:Int):=by omega
    go_enter Tryz.func178,Tryz.ntmps178
    go_wp2_with ((with_reducible apply Bo);(try rw [hWH.out]);(first | exact hl1.out | exact hl2.out);simp only [Act.put,lsa,lsz,lss])
    refine wp_loop_rounds 2 ?_
    rw [rounds_succ]
    go_wp2_with fail
    refine Aa (fun w'=>w'.cell? ⟨w.heap.size,0,none⟩ = some (.int .u64 (a:Int))∧w'.cell? ⟨w.heap.size + 1,0,none⟩ = some (.int .u64 (a:Int))) (fun _=>true) (by kernel_rfl) hS0.out (fun hHeld => ?_)
    refine tq 0 ?_
    refine tq 1 ?_
    refine tq 2 ?_
    refine tq 3 ?_
    refine tq 4 ?_
    refine tq 5 ?_
    refine tq 6 ?_
    refine Ae (by kernel_rfl) ?_ _
    clear hHeld
    go_wp2_with fail
    rw [rounds_succ]
    go_wp2_with fail
    refine Aa (fun w'=>w'.cell? ⟨w.heap.size,1,none⟩ = some (.int .u64 (b:Int))∧w'.cell? ⟨w.heap.size + 1,1,none⟩ = some (.int .u64 (d:Int))) (fun _=>true) (by kernel_rfl) hS1.out (fun hHeld => ?_)
    refine tq 0 ?_
    refine tq 1 ?_
    refine tq 2 ?_
    refine tq 3 ?_
    refine tq 4 ?_
    refine tq 5 ?_
    refine tq 6 ?_
    refine Ae (by kernel_rfl) ?_ _
    clear hHeld
    go_wp2_with fail
    refine Aa (fun w'=>w'.cell? ⟨w.heap.size,1,none⟩ = some (.int .u64 (b:Int))∧w'.cell? ⟨w.heap.size + 1,1,none⟩ = some (.int .u64 (d:Int))) (fun _=>true) (by kernel_rfl) hS1.out (fun hHeld => ?_)
    refine tq 0 ?_
    refine tq 1 ?_
    refine tq 2 ?_
    refine tq 3 ?_
    refine tq 4 ?_
    refine tq 5 ?_
    refine tq 6 ?_
    refine Ae (by kernel_rfl) ?_ _
    clear hHeld
    go_wp2_with fail
    go_ret
    exact ⟨_,o1,rfl,hst.out.drew.drew.drew,by rw [hu.out];rfl⟩
   ·clear e2
    have hu:=hidden (show LJ a b a d = 1 by unfold LJ;rw [if_neg (by rintro ⟨-,rfl⟩;simp at e2I),if_neg (by omega)])
    have ltI:¬ (b:Int) < (d:Int):=by omega
    go_enter Tryz.func178,Tryz.ntmps178
    go_wp2_with ((with_reducible apply Bo);(try rw [hWH.out]);(first | exact hl1.out | exact hl2.out);simp only [Act.put,lsa,lsz,lss])
    refine wp_loop_rounds 2 ?_
    rw [rounds_succ]
    go_wp2_with fail
    refine Aa (fun w'=>w'.cell? ⟨w.heap.size,0,none⟩ = some (.int .u64 (a:Int))∧w'.cell? ⟨w.heap.size + 1,0,none⟩ = some (.int .u64 (a:Int))) (fun _=>true) (by kernel_rfl) hS0.out (fun hHeld => ?_)
    refine tq 0 ?_
    refine tq 1 ?_
    refine tq 2 ?_
    refine tq 3 ?_
    refine tq 4 ?_
    refine tq 5 ?_
    refine tq 6 ?_
    refine Ae (by kernel_rfl) ?_ _
    clear hHeld
    go_wp2_with fail
    rw [rounds_succ]
    go_wp2_with fail
    refine Aa (fun w'=>w'.cell? ⟨w.heap.size,1,none⟩ = some (.int .u64 (b:Int))∧w'.cell? ⟨w.heap.size + 1,1,none⟩ = some (.int .u64 (d:Int))) (fun _=>true) (by kernel_rfl) hS1.out (fun hHeld => ?_)
    refine tq 0 ?_
    refine tq 1 ?_
    refine tq 2 ?_
    refine tq 3 ?_
    refine tq 4 ?_
    refine tq 5 ?_
    refine tq 6 ?_
    refine Ae (by kernel_rfl) ?_ _
    clear hHeld
    go_wp2_with fail
    refine Aa (fun w'=>w'.cell? ⟨w.heap.size,1,none⟩ = some (.int .u64 (b:Int))∧w'.cell? ⟨w.heap.size + 1,1,none⟩ = some (.int .u64 (d:Int))) (fun _=>true) (by kernel_rfl) hS1.out (fun hHeld => ?_)
    refine tq 0 ?_
    refine tq 1 ?_
    refine tq 2 ?_
    refine tq 3 ?_
    refine tq 4 ?_
    refine tq 5 ?_
    refine tq 6 ?_
    refine Ae (by kernel_rfl) ?_ _
    clear hHeld
    go_wp2_with fail
    go_ret
    exact ⟨_,o1,rfl,hst.out.drew.drew.drew,by rw [hu.out];rfl⟩
 ·have e1I:((a:Int) == (c:Int)) = false:=by simp;omega
  rw [e1I] at hc
  simp only [Bool.false_and] at hc
  by_cases h:a < c
  ·clear e1
   have hu:=hidden (show LJ a b c d = -1 by unfold LJ;rw [if_neg (by omega),if_pos (by omega)])
   have ltI:(a:Int) < (c:Int):=by omega
   go_enter Tryz.func178,Tryz.ntmps178
   go_wp2_with ((with_reducible apply Bo);(try rw [hWH.out]);(first | exact hl1.out | exact hl2.out);simp only [Act.put,lsa,lsz,lss])
   refine wp_loop_rounds 2 ?_
   rw [rounds_succ]
   go_wp2_with fail
   refine Aa (fun w'=>w'.cell? ⟨w.heap.size,0,none⟩ = some (.int .u64 (a:Int))∧w'.cell? ⟨w.heap.size + 1,0,none⟩ = some (.int .u64 (c:Int))) (fun _=>true) (by kernel_rfl) hS0.out (fun hHeld => ?_)
   refine tq 0 ?_
   refine tq 1 ?_
   refine tq 2 ?_
   refine tq 3 ?_
   refine tq 4 ?_
   refine tq 5 ?_
   refine tq 6 ?_
   refine Ae (by kernel_rfl) ?_ _
   clear hHeld
   go_wp2_with fail
   refine Aa (fun w'=>w'.cell? ⟨w.heap.size,0,none⟩ = some (.int .u64 (a:Int))∧w'.cell? ⟨w.heap.size + 1,0,none⟩ = some (.int .u64 (c:Int))) (fun _=>true) (by kernel_rfl) hS0.out (fun hHeld => ?_)
   refine tq 0 ?_
   refine tq 1 ?_
   refine tq 2 ?_
   refine tq 3 ?_
   refine tq 4 ?_
   refine tq 5 ?_
   refine tq 6 ?_
   refine Ae (by kernel_rfl) ?_ _
   clear hHeld
   go_wp2_with fail
   go_ret
   exact ⟨_,o1,rfl,hst.out.drew.drew,by rw [hu.out];rfl⟩
  ·clear e1
   have hu:=hidden (show LJ a b c d = 1 by unfold LJ;rw [if_neg (by rintro ⟨rfl, -⟩;simp at e1I),if_neg (by rintro (h | ⟨rfl, -⟩);omega;simp at e1I)])
   have ltI:¬ (a:Int) < (c:Int):=by omega
   go_enter Tryz.func178,Tryz.ntmps178
   go_wp2_with ((with_reducible apply Bo);(try rw [hWH.out]);(first | exact hl1.out | exact hl2.out);simp only [Act.put,lsa,lsz,lss])
   refine wp_loop_rounds 2 ?_
   rw [rounds_succ]
   go_wp2_with fail
   refine Aa (fun w'=>w'.cell? ⟨w.heap.size,0,none⟩ = some (.int .u64 (a:Int))∧w'.cell? ⟨w.heap.size + 1,0,none⟩ = some (.int .u64 (c:Int))) (fun _=>true) (by kernel_rfl) hS0.out (fun hHeld => ?_)
   refine tq 0 ?_
   refine tq 1 ?_
   refine tq 2 ?_
   refine tq 3 ?_
   refine tq 4 ?_
   refine tq 5 ?_
   refine tq 6 ?_
   refine Ae (by kernel_rfl) ?_ _
   clear hHeld
   go_wp2_with fail
   refine Aa (fun w'=>w'.cell? ⟨w.heap.size,0,none⟩ = some (.int .u64 (a:Int))∧w'.cell? ⟨w.heap.size + 1,0,none⟩ = some (.int .u64 (c:Int))) (fun _=>true) (by kernel_rfl) hS0.out (fun hHeld => ?_)
   refine tq 0 ?_
   refine tq 1 ?_
   refine tq 2 ?_
   refine tq 3 ?_
   refine tq 4 ?_
   refine tq 5 ?_
   refine tq 6 ?_
   refine Ae (by kernel_rfl) ?_ _
   clear hHeld
   go_wp2_with fail
   go_ret
   exact ⟨_,o1,rfl,hst.out.drew.drew,by rw [hu.out];rfl⟩
theorem YD (a b c d:Nat) (B D:Int) (hB:B = (b:Nat)) (hD:D = (d:Nat)):Calls Tryz.prog 178 #[.agg #[.int .u64 (a:Int), .int .u64 B], .agg #[.int .u64 (c:Int), .int .u64 D]] w (Ret Nobody w o fun v _ _=>v = .int .i64 (LJ a b c d)):=by
 subst hB hD;exact YF a b c d
theorem Xx (c1 c2 l1 l2:Nat) (h1:l1 ≤ 256) (h2:l2 ≤ 256):Calls Tryz.prog 144 #[.int .u64 (c1:Int), .int .i64 (l1:Int), .int .u64 (c2:Int), .int .i64 (l2:Int)] w (Ret Nobody w o fun v _ _=>v = .bool (decide (c2 < c1) || (decide (c1 = c2) && decide (l2 < l1)))):=by
 have i1:(0:Int) ≤ (l1:Int)∧(l1:Int) ≤ 256:=by omega
 have i2:(0:Int) ≤ (l2:Int)∧(l2:Int) ≤ 256:=by omega
 have ho:=hidden (YD (w:=w) (o:=o) c1 (l1 + 9223372036854775808) c2 (l2 + 9223372036854775808) ((l1:Int) + 9223372036854775808) ((l2:Int) + 9223372036854775808) (by omega) (by omega))
 have hu:=hidden (show (decide (c2 < c1) || (decide (c1 = c2) && decide (l2 < l1))) = decide (0 < LJ c1 (l1 + 9223372036854775808) c2 (l2 + 9223372036854775808)) by
  unfold LJ
  by_cases a1:c1 = c2
  ·subst a1
   by_cases a2:l1 = l2
   ·subst a2;simp
   ·by_cases a3:l1 < l2
    ·rw [if_neg (by omega),if_pos (by omega)];simp;omega
    ·rw [if_neg (by omega),if_neg (by omega)];simp;omega
  ·by_cases a3:c1 < c2
   ·rw [if_neg (by omega),if_pos (by omega)];simp;omega
   ·rw [if_neg (by omega),if_neg (by omega)];simp;omega)
 clear h1 h2
 generalize LJ c1 (l1 + 9223372036854775808) c2 (l2 + 9223372036854775808) = R at *
 go_enter Tryz.func144,Tryz.ntmps144
 go_wp2_with fail
 refine ho.out.mono ?_;rintro e w1 ⟨v1,o1,rfl,hs,rfl⟩
 go_wp2_with fail
 go_ret
 exact ⟨_,o1,rfl,hs,by rw [hu.out];rfl⟩
end
theorem aG (a id n:Nat) (ha:a ≤ 281474976710656) (h1:1 ≤ n) (h3:n ≤ 3) (hi:id < n) (w:World):Calls Tryz.prog 88 #[.int .u64 (a:Int), .int .i64 (id:Int), .int .i64 (n:Int)] w fun e' w'=>e' = .returned (.int .u64 ((a + 1 + (id + n - (a + 1) % n) % n:Nat):Int))∧w = w':=by
 have ia:(0:Int) ≤ (a:Int)∧(a:Int) ≤ 281474976710656:=by omega
 have ho:=hidden (Rx (a + 1) (by omega) ((a:Int) + 1) (by omega) n h1 h3 w)
 have hm:(a + 1) % n < n:=Nat.mod_lt _ (by omega)
 obtain ⟨r,hr⟩:∃ r,(a + 1) % n = r:=⟨_,rfl⟩
 rw [hr] at ho hm ⊢
 have hI:(0:Int) ≤ (id:Int) - (r:Int) + (n:Int):=by omega
 have hsub:(id:Int) - (r:Int) + (n:Int) = ((id + n - r:Nat):Int):=by omega
 have hu:((a + 1 + (id + n - r) % n:Nat):Int) = (a:Int) + 1 + ((id:Int) - (r:Int) + (n:Int)) % (n:Int):=by
  rw [hsub, ←Int.natCast_emod];omega
 have huH:=hidden hu
 have hml:(0:Int) ≤ ((id:Int) - (r:Int) + (n:Int)) % (n:Int)∧((id:Int) - (r:Int) + (n:Int)) % (n:Int) < 3:=⟨Int.emod_nonneg _ (by omega),by have:=Int.emod_lt_of_pos ((id:Int) - (r:Int) + (n:Int)) (show (0:Int) < n by omega);omega⟩
 have g1:¬ (n:Int) < 1:=by omega
 have g2:¬ (id:Int) < 0:=by omega
 have g3:¬ (n:Int) ≤ (id:Int):=by omega
 have g4:¬ (281474976710656:Int) < (a:Int):=by omega
 have g5:((n:Int) == 0) = false:=by simp;omega
 have n0:(0:Int) < (n:Int)∧(n:Int) ≤ 3:=by omega
 have i0:(0:Int) ≤ (id:Int)∧(id:Int) < 3:=by omega
 have r0:(0:Int) ≤ (r:Int)∧(r:Int) < 3:=by omega
 clear hu hsub hm hr ha h1 h3 hi
 go_enter Tryz.func88,Tryz.ntmps88
 go_wp2_with fail
 refine ho.out.mono ?_;rintro e w' ⟨rfl,rfl⟩
 go_wp2_with fail
 go_ret
 refine ⟨UJ ?_,rfl⟩
 rw [huH.out]
 have hmod:((id:Int) - (r:Int) + (n:Int)) % (n:Int) = ((id:Int) - (r:Int)) % (n:Int):=Int.add_emod_right _ _
 rw [hmod] at hml ⊢
 rw [IntWalk.u64_in _ (show 0 ≤ ((id:Int) - (r:Int)) % (n:Int)∧((id:Int) - (r:Int)) % (n:Int) ≤ 18446744073709551615 by omega),IntWalk.u64_in _ (by omega)]
open Go Go.RowKit Go.Sort
def Em (x y:Int):Int:=if y < x then -1 else if x < y then 1 else 0
theorem bI (x y:Int) (w:World):Calls Tryz.prog 139 #[.int .i64 x, .int .i64 y] w fun e w'=>e = .returned (.int .i64 (Em x y))∧∃ q,w' = w.drewN q:=by
 by_cases h1:y < x
 ·have hu:=hidden (show Em x y = -1 by unfold Em;rw [if_pos h1])
  go_enter Tryz.func139,Tryz.ntmps139
  go_wp2
  go_ret
  exact ⟨by rw [hu.out];rfl,0,rfl⟩
 ·by_cases h2:x < y
  ·have hu:=hidden (show Em x y = 1 by unfold Em;rw [if_neg h1,if_pos h2])
   go_enter Tryz.func139,Tryz.ntmps139
   go_wp2
   go_ret
   exact ⟨by rw [hu.out];rfl,0,rfl⟩
  ·have hu:=hidden (show Em x y = 0 by unfold Em;rw [if_neg h1,if_neg h2])
   go_enter Tryz.func139,Tryz.ntmps139
   go_wp2
   go_ret
   exact ⟨by rw [hu.out];rfl,0,rfl⟩
theorem QD (l:List Int) (h1:1 ≤ l.length) (h3:l.length ≤ 3):(Sort.insertionSort (ltOf Em) l.toArray 0 l.length).size = l.length∧(Sort.insertionSort (ltOf Em) l.toArray 0 l.length)[l.length / 2]? = some (CW l):=by
 match l,h1,h3 with
 | [a],_,_ =>
  have e:Sort.insertionSort (ltOf Em) #[a] 0 1 = #[a]:=by simp [Sort.insertionSort,insOuter]
  rw [show [a].toArray = #[a] from rfl,show [a].length = 1 from rfl,e]
  exact ⟨rfl,rfl⟩
 | [a,b],_,_ =>
  by_cases h:a < b
  ·have e:Sort.insertionSort (ltOf Em) #[a,b] 0 2 = #[b,a]:=by
    simp [Sort.insertionSort,insOuter,insInner,ltOf,Em,swp,h]
   rw [show [a,b].toArray = #[a,b] from rfl,show [a,b].length = 2 from rfl,e]
   refine ⟨rfl, ?_⟩
   show some a = some (min a b)
   congr 1;omega
  ·have e:Sort.insertionSort (ltOf Em) #[a,b] 0 2 = #[a,b]:=by
    by_cases h2:b < a
    ·simp [Sort.insertionSort,insOuter,insInner,ltOf,Em,h,h2]
    ·simp [Sort.insertionSort,insOuter,insInner,ltOf,Em,h,h2]
   rw [show [a,b].toArray = #[a,b] from rfl,show [a,b].length = 2 from rfl,e]
   refine ⟨rfl, ?_⟩
   show some b = some (min a b)
   congr 1;omega
 | [a,b,c],_,_ =>
  have key:∀ x y z:Int,Sort.insertionSort (ltOf Em) #[a,b,c] 0 3 = #[x,y,z]→y = max (min a b) (min (max a b) c)→(Sort.insertionSort (ltOf Em) #[a,b,c] 0 3).size = 3∧(Sort.insertionSort (ltOf Em) #[a,b,c] 0 3)[3 / 2]? = some (CW [a,b,c]):=by
   intro x y z e h
   rw [e]
   refine ⟨rfl, ?_⟩
   show some y = some (max (min a b) (min (max a b) c))
   rw [h]
  by_cases h1:a < b
  ·by_cases h2:b < c
   ·exact key c b a (by simp [Sort.insertionSort,insOuter,insInner,ltOf,Em,swp,h1,h2,show a < c by omega]) (by omega)
   ·by_cases h3:a < c
    ·refine key b c a (by
      by_cases h4:c < b
      ·simp [Sort.insertionSort,insOuter,insInner,ltOf,Em,swp,h1,h2,h3,h4]
      ·simp [Sort.insertionSort,insOuter,insInner,ltOf,Em,swp,h1,h2,h3,h4]) (by omega)
    ·refine key b a c (by
      by_cases h4:c < a
      ·simp [Sort.insertionSort,insOuter,insInner,ltOf,Em,swp,h1,h3,h4]
      ·simp [Sort.insertionSort,insOuter,insInner,ltOf,Em,swp,h1,h3,h4]) (by omega)
  ·have hab:∀ (p q:Int),(if b < a then -1 else if a < b then 1 else (0:Int)) = p→True:=fun _ _ _=>trivial
   by_cases h2:b < c
   ·by_cases h3:a < c
    ·refine key c a b (by
      by_cases h4:b < a
      ·simp [Sort.insertionSort,insOuter,insInner,ltOf,Em,swp,h1,h2,h3,h4]
      ·simp [Sort.insertionSort,insOuter,insInner,ltOf,Em,swp,h1,h2,h3,h4]) (by omega)
    ·refine key a c b (by
      by_cases h4:b < a <;> by_cases h5:c < a <;> simp [Sort.insertionSort,insOuter,insInner,ltOf,Em,swp,h1,h2,h3,h4,h5]) (by omega)
   ·refine key a b c (by
     by_cases h4:b < a <;> by_cases h5:c < b <;> simp [Sort.insertionSort,insOuter,insInner,ltOf,Em,h1,h2,h4,h5]) (by omega)
theorem ZU {w:World} {g:Nat} {cs:Array Value} {E:TypeId} {l:List Int} (hg:w.heap[g]? = some (.cells cs E (0,0))) (ht:cs.toList.take l.length = ivs l):Holds (Value.int .i64) w g 0 l.toArray:=by
 intro j hj
 have hj':j < l.length:=by simpa using hj
 refine ⟨?_,by simp [World.frozen?,hg]⟩
 have h1:(cs.toList.take l.length)[j]? = (ivs l)[j]?:=by rw [ht]
 rw [List.getElem?_take_of_lt hj',Array.getElem?_toList] at h1
 have h2:w.cell? ⟨g,0 + j,none⟩ = cs[j]?:=by simp [World.cell?,hg]
 rw [h2,h1]
 simp [ivs,hj',List.size_toArray]
theorem VZ {w:World} {o:Own} {b cap:Nat} {mat:List Int} (hr:w.rangeAt b 0 (ivs mat)) (h1:1 ≤ mat.length) (h3:mat.length ≤ 3) :
  Calls Tryz.prog 86 #[.slice (some ⟨b,0,none⟩) mat.length cap] w (Ret Nobody w o fun v _ _=>v = .int .i64 (CW mat)):=by
 have hcl:=Tryz.slices_Clone_int b 0 mat.length cap mat w (Nat.le_refl _) (by omega) (fun j hj=>by
  have:=hr j (.int .i64 (mat.getD j 0)) (by simp [ivs,hj])
  simpa using this)
 rw [List.take_length] at hcl
 obtain ⟨n,hn⟩:∃ n,mat.length = n:=⟨_,rfl⟩
 have hsc:=QD mat h1 h3
 have hnI:(1:Int) ≤ (n:Int)∧(n:Int) ≤ 3:=by omega
 have hclH:=hidden hcl
 have hq:=hidden (PD n (by omega) (by omega))
 rw [hn] at hclH hsc ⊢
 have hnH:=hidden hn
 have hscH:=hidden hsc
 clear hcl hsc hn hr h1 h3
 go_enter Tryz.func86,Tryz.ntmps86
 go_wp2_with fail
 refine hclH.out.mono ?_;rintro e w1 ⟨v1,rfl,hown, -,hbel⟩
 have hst:Step Nobody w o w1 (ext w o):=⟨hbel.os,hbel.tape,hbel.output,hbel.size,fun k hk=>if_pos hk,fun k hk _=>hbel.block k hk⟩
 rcases hown.2 with ⟨-,h0⟩ | ⟨g,cap',cur,rfl,q1,q2,q3,q4,q5,q6⟩
 ·omega
 have hrun:=ZU (l:=mat) q2 (by rw [hnH.out, ←Nat.mul_one n];exact q6)
 have hso:=Any.slices_SortFunc_small Tryz.Ym (Value.int .i64) (fun _=>rfl) Em 139 #[] g 0 cap' mat.toArray w1 Tryz.call139 (fun _ _ _ _ x y=>bI x y _) hrun (by simp [hnH.out];omega) (fun m W hm=>(Tryz.bits_Len m W (by omega) (by omega)).mono fun _ _ ⟨he,hw⟩=>⟨⟨_,he⟩,hw⟩)
 change Calls Tryz.prog 138 _ _ _ at hso
 have es:mat.toArray.size = n:=by rw [List.size_toArray];exact hnH.out
 rw [es] at hso
 obtain ⟨S,hS⟩:∃ S,Sort.insertionSort (ltOf Em) mat.toArray 0 n = S:=⟨_,rfl⟩
 rw [hS] at hso hscH
 have hsz:S.size = mat.toArray.size:=by rw [es];exact hscH.out.1
 have hcell:(putRow (Value.int .i64) w1 g 0 S).cell? ⟨g,n / 2,none⟩ = some (.int .i64 (CW mat)):=by
  have h:=(holds_putRow (Value.int .i64) w1 g 0 mat.toArray S hrun hsz (n / 2) (by rw [hscH.out.1];omega)).1
  rw [Nat.zero_add] at h
  rw [h]
  have h2:=hscH.out.2
  have hl:n / 2 < S.size:=by rw [hscH.out.1];omega
  rw [Array.getElem?_eq_getElem hl] at h2
  rw [getElem!_pos S (n / 2) hl]
  simpa using h2
 have hx:Step Nobody w o (putRow (Value.int .i64) w1 g 0 S) (ext w o):=by
  refine ⟨hst.os,hst.tape,hst.output,by simpa using hst.size,hst.own,fun k hk hT => ?_⟩
  rw [←hst.block k hk hT]
  have:g ≠ k:=by omega
  simp [putRow,mapBlock,Array.getElem?_modify,this]
 have hst2:∀ q,Step Nobody w o ((putRow (Value.int .i64) w1 g 0 S).drewN q) (ext w o):=fun q=>hx.drewN q
 have hsoH:=hidden hso
 have hcI:(0:Int) ≤ (n:Int) / 2∧(n:Int) / 2 < (n:Int):=by omega
 have hcN:((n:Int) / 2).toNat = n / 2:=by omega
 have hstH:=hidden hst2
 clear hso hst hst2 hx hown hbel hrun hsz hS es hnH hscH q1 q2 q3 q4 q5 q6
 go_wp2_with fail
 refine hsoH.out.mono ?_;rintro e w2 ⟨rfl,q,rfl⟩
 have hc2:((putRow (Value.int .i64) w1 g 0 S).drewN q).cell? ⟨g,n / 2,none⟩ = some (.int .i64 (CW mat)):=hcell
 have hF:=hidden (hstH.out q)
 obtain ⟨W,hW⟩:∃ W,(putRow (Value.int .i64) w1 g 0 S).drewN q = W:=⟨_,rfl⟩
 rw [hW] at hc2 hF ⊢
 clear hW hcell hsoH
 go_wp2_with fail
 refine (hq.out W).mono ?_;rintro e w3 ⟨rfl,rfl⟩
 have hq1:((n / 2 + 1:Nat):Int) - 1 = ((n / 2:Nat):Int):=by omega
 have hb1:((n / 2:Nat):Int) < (n:Int):=by omega
 go_wp2_with fail
 go_ret
 exact ⟨_,_,rfl,hF.out,rfl⟩
def InN (D M:Nat):Nat→Prop:=fun k=>k = D ∨ (M < k∧k ≤ M + 4)
theorem InN.zero {D M:Nat} (hD:D ≠ 0):¬ InN D M 0:=by unfold InN;omega
theorem InN.own {D M:Nat}:InN D M (M + 4):=by unfold InN;omega
theorem InN.in4 {D M:Nat}:∀ k,In4 (M + 1) (M + 2) (M + 3) D k→InN D M k:=by intro k h;unfold In4 at h;unfold InN;omega
theorem InN.self {D M:Nat} (hDM:D ≤ M):∀ k,Only (M + 4) k→k ≠ 0∧¬ In4 (M + 1) (M + 2) (M + 3) D k:=by intro k h;unfold Only at h;unfold In4;omega
theorem InN.WZ {D M:Nat} (hDM:D ≤ M) (_hD:D ≠ 0):¬ In4 (M + 1) (M + 2) (M + 3) D (M + 4):=by unfold In4;omega
def IL (id n ps:Nat) (rv:Value) (waited:Nat) (seen:BitVec 64) (Ag:Nat):List Value:=
 [.int .i64 (id:Int), .int .i64 (n:Int), .pointer (some ⟨ps,0,none⟩),rv, .int .i64 (waited:Int), .int .u64 (seen.toNat:Int), .int .i64 (Ag:Int)]
def PH (c:BitVec 64) (lv:Value):Value := .agg #[.int .u64 (c.toNat:Int),lv]
def Bd (j:Nat):List (Nat × BitVec 64 × Value)→List MapEntry
 | []=>[]
 | x :: r=>⟨.int .i64 (x.1:Int),PH x.2.1 x.2.2,j⟩ :: Bd (j + 1) r
def OE (w:World) (o:Own) (Z mb:Nat) (has:List (Option (BitVec 64 × List Ar))):Prop:=
 ∃ es:List (Nat × BitVec 64 × Value),w.heap[mb]? = some (.map (Bd 0 es).toArray es.length)∧o mb = (Z,2)∧(es.map (·.1)).Nodup ∧
  (∀ x ∈ es,∃ ls,has[x.1]? = some (some (x.2.1,ls))∧Lines w o 0 x.2.2 ls)∧∀ i p,has[i]? = some (some p)→∃ x ∈ es,x.1 = i
def KA (w:World) (o:Own) (Z p:Nat) (mine:BitVec 64) (has:List (Option (BitVec 64 × List Ar))):Prop:=
 ∃ mb,w.heap[p]? = some (.cells [.int .u64 (mine.toNat:Int), .map (some mb)].toArray 156 (0,0))∧o p = (Z,1)∧OE w o Z mb has
def Nw (w:World) (o:Own) (Z p:Nat) (mine:BitVec 64) (mat:List Int) (base:Nat) (ready:Bool):Prop:=
 ∃ b cap,w.heap[p]? = some (.cells [.int .u64 (mine.toNat:Int), .slice (some ⟨b,0,none⟩) mat.length cap, .int .i64 (base:Int), .bool ready].toArray 91 (0,0))∧o p = (Z,1) ∧
  w.heap[b]? = some (.cells (ivs mat).toArray 3 (0,0))∧o b = (Z,2)∧mat.length ≤ cap∧cap ≤ maxLen
def IE (w:World) (o:Own) (Z:Nat) (rv:Value):KC→Prop
 | .follows=>rv = .iface 115 (.agg #[])
 | .stands mine has=>∃ p,rv = .iface 151 (.pointer (some ⟨p,0,none⟩))∧KA w o Z p mine has
 | .leads mine mat base ready=>∃ p,rv = .iface 87 (.pointer (some ⟨p,0,none⟩))∧Nw w o Z p mine mat base ready
def GK (w:World) (o:Own) (Z pz ps:Nat) (rv:Value) (z:Am):Prop:=
 w.heap[pz]? = some (.cells (IL z.id z.n ps rv z.waited z.seen z.Ag).toArray 86 (0,0))∧o pz = (Z,0)
def Bc (w:World) (o:Own) (D M pz ps pd:Nat) (z:Am):Prop:=
 (D ≤ M∧D ≠ 0)∧∃ rv,GK w o (M + 4) pz ps rv z∧IE w o (M + 4) rv z.BB∧Bi w o (M + 1) (M + 2) (M + 3) D ps pd 0 z.s
section
variable {T:Nat→Prop} {w w':World} {o o':Own} {Z D M pz ps pd:Nat}
theorem OE.step {mb:Nat} {has:List (Option (BitVec 64 × List Ar))} (h:OE w o Z mb has) (s:Step T w o w' o') (hZ:¬ T Z) (h0:¬ T 0):OE w' o' Z mb has:=by
 obtain ⟨es,h1,h2,h3,h4,h5⟩:=h
 have hl:=lt_of_block h1
 refine ⟨es,by rw [s.block mb hl (by rw [h2];exact hZ)];exact h1,by rw [s.own mb hl];exact h2,h3,fun x hx => ?_,h5⟩
 obtain ⟨ls,a,b⟩:=h4 x hx
 exact ⟨ls,a,b.step s h0⟩
theorem KA.step {p:Nat} {mine:BitVec 64} {has:List (Option (BitVec 64 × List Ar))} (h:KA w o Z p mine has) (s:Step T w o w' o') (hZ:¬ T Z) (h0:¬ T 0):KA w' o' Z p mine has:=by
 obtain ⟨mb,h1,h2,h3⟩:=h
 have hl:=lt_of_block h1
 exact ⟨mb,by rw [s.block p hl (by rw [h2];exact hZ)];exact h1,by rw [s.own p hl];exact h2,h3.step s hZ h0⟩
theorem Nw.step {p:Nat} {mine:BitVec 64} {mat:List Int} {base:Nat} {ready:Bool} (h:Nw w o Z p mine mat base ready) (s:Step T w o w' o') (hZ:¬ T Z):Nw w' o' Z p mine mat base ready:=by
 obtain ⟨b,cap,h1,h2,h3,h4,h5,h6⟩:=h
 have hl:=lt_of_block h1
 have hb:=lt_of_block h3
 exact ⟨b,cap,by rw [s.block p hl (by rw [h2];exact hZ)];exact h1,by rw [s.own p hl];exact h2,by rw [s.block b hb (by rw [h4];exact hZ)];exact h3,by rw [s.own b hb];exact h4,h5,h6⟩
theorem IE.step {rv:Value} {r:KC} (h:IE w o Z rv r) (s:Step T w o w' o') (hZ:¬ T Z) (h0:¬ T 0):IE w' o' Z rv r:=by
 cases r with
 | follows=>exact h
 | stands mine has=>obtain ⟨p,h1,h2⟩:=h;exact ⟨p,h1,h2.step s hZ h0⟩
 | leads mine mat base ready=>obtain ⟨p,h1,h2⟩:=h;exact ⟨p,h1,h2.step s hZ⟩
theorem GK.step {rv:Value} {z:Am} (h:GK w o Z pz ps rv z) (s:Step T w o w' o') (hZ:¬ T Z):GK w' o' Z pz ps rv z:=by
 have hl:=lt_of_block h.1
 exact ⟨by rw [s.block pz hl (by rw [h.2];exact hZ)];exact h.1,by rw [s.own pz hl];exact h.2⟩
theorem Bc.step {z:Am} (h:Bc w o D M pz ps pd z) (s:Step T w o w' o') (hT:∀ t,T t→t ≠ 0∧¬ InN D M t):Bc w' o' D M pz ps pd z:=by
 obtain ⟨hDM,rv,h1,h2,h3⟩:=h
 have h0:¬ T 0:=fun h=>(hT 0 h).1 rfl
 have hZ:¬ T (M + 4):=fun h=>(hT _ h).2 InN.own
 exact ⟨hDM,rv,h1.step s hZ,h2.step s hZ h0,h3.step s fun t ht=>⟨(hT t ht).1,fun h=>(hT t ht).2 (InN.in4 t h)⟩⟩
theorem Bc.step0 {z:Am} (h:Bc w o D M pz ps pd z) (s:Step Nobody w o w' o'):Bc w' o' D M pz ps pd z:=h.step s fun _ h=>h.elim
theorem GK.cells {rv:Value} {z:Am} (h:GK w o Z pz ps rv z) :
  (w.cell? ⟨pz,0,none⟩ = some (.int .i64 (z.id:Int))∧w.cell? ⟨pz,1,none⟩ = some (.int .i64 (z.n:Int))∧w.cell? ⟨pz,2,none⟩ = some (.pointer (some ⟨ps,0,none⟩))∧w.cell? ⟨pz,3,none⟩ = some rv ∧
   w.cell? ⟨pz,4,none⟩ = some (.int .i64 (z.waited:Int))∧w.cell? ⟨pz,5,none⟩ = some (.int .u64 (z.seen.toNat:Int))∧w.cell? ⟨pz,6,none⟩ = some (.int .i64 (z.Ag:Int)))∧(∀ i,w.frozen? ⟨pz,i,none⟩ = false)∧pz < w.heap.size:=by
 have c:=cell_of_block h.1
 exact ⟨⟨c 0,c 1,c 2,c 3,c 4,c 5,c 6⟩,fun i=>Ap h.1 i,lt_of_block h.1⟩
end
theorem FI {w:World} {o:Own} {D M pz ps pd:Nat} {z:Am} (h:Bc w o D M pz ps pd z):Calls Tryz.prog 29 #[.pointer (some ⟨pz,0,none⟩)] w fun e w'=>e = .returned (.bool z.dead)∧w = w':=by
 obtain ⟨-,rv,hb, -,hs⟩:=h
 obtain ⟨⟨-, -,c2, -⟩, -⟩:=hb.cells
 have hd:=hidden (KH hs)
 clear hb hs
 go_enter Tryz.func29,Tryz.ntmps29
 go_wp2_with fail
 refine hd.out.mono ?_;rintro e w' ⟨rfl,rfl⟩
 go_wp2_with fail
 go_ret
 exact ⟨rfl,rfl⟩
theorem Ya (w:World):Calls Tryz.prog 29 #[.pointer none] w fun e w'=>e = .returned (.bool false)∧w = w':=by
 go_enter Tryz.func29,Tryz.ntmps29
 go_wp2
 go_ret
 exact ⟨rfl,rfl⟩
theorem eF (w:World) (a b c:Value):(Instr.field 55 (.agg #[a,b,c]) 0).run Tryz.prog w = .ok a w:=by kernel_rfl
theorem He (w:World) (a b c:Value):(Instr.field 55 (.agg #[a,b,c]) 2).run Tryz.prog w = .ok c w:=by kernel_rfl
theorem Zb (w:World):Calls Tryz.prog 16 #[.pointer none] w fun e w'=>e = .returned (.int .u64 0)∧w = w':=by
 go_enter Tryz.func16,Tryz.ntmps16
 go_wp2
 go_ret
 exact ⟨rfl,rfl⟩
theorem RS {w:World} {o:Own} {D M pz ps pd:Nat} {z:Am} (h:Bc w o D M pz ps pd z) (hsm:small z.s.kept.lines):Calls Tryz.prog 16 #[.pointer (some ⟨pz,0,none⟩)] w (Ret Nobody w o fun v _ _=>v = .int .u64 (z.s.kept.promised.toNat:Int)):=by
 obtain ⟨-,rv,hb, -,hs⟩:=h
 obtain ⟨⟨-, -,c2, -⟩, -⟩:=hb.cells
 have hk:=hidden (DJ hs hsm)
 clear hb hs
 go_enter Tryz.func16,Tryz.ntmps16
 go_wp2_with fail
 refine hk.out.mono ?_;rintro e w1 ⟨v,o1,rfl,hs,lv,rfl,hl,rfl⟩
 obtain ⟨la,lc,rfl⟩:=hl.form
 have hfk:=eF w1 (.int .u64 (z.s.kept.promised.toNat:Int)) (.int .u64 (z.s.kept.current.toNat:Int)) (.slice la z.s.kept.lines.length lc)
 unfold Dy
 go_wp2_with fail
 go_ret
 exact ⟨_,_,rfl,hs,rfl⟩
section
variable (w:World) (p:Option Addr)
theorem ZI:(Instr.typeAssert (.iface 115 (.agg #[])) 84 87 true).run Tryz.prog w = .ok (.tuple #[.pointer none, .bool false]) w:=by kernel_rfl
theorem ZG:(Instr.typeAssert (.iface 151 (.pointer p)) 84 87 true).run Tryz.prog w = .ok (.tuple #[.pointer none, .bool false]) w:=by kernel_rfl
theorem ZH:(Instr.typeAssert (.iface 87 (.pointer p)) 84 87 true).run Tryz.prog w = .ok (.tuple #[.pointer p, .bool true]) w:=by kernel_rfl
theorem gV:(Instr.typeAssert (.iface 115 (.agg #[])) 84 151 true).run Tryz.prog w = .ok (.tuple #[.pointer none, .bool false]) w:=by kernel_rfl
theorem gQ:(Instr.typeAssert (.iface 151 (.pointer p)) 84 151 true).run Tryz.prog w = .ok (.tuple #[.pointer p, .bool true]) w:=by kernel_rfl
theorem gU:(Instr.typeAssert (.iface 87 (.pointer p)) 84 151 true).run Tryz.prog w = .ok (.tuple #[.pointer none, .bool false]) w:=by kernel_rfl
end
theorem YM (w:World):Calls Tryz.prog 23 #[.pointer none] w fun e w'=>e = .returned (.bool false)∧w = w':=by
 go_enter Tryz.func23,Tryz.ntmps23
 go_wp2
 go_ret
 exact ⟨rfl,rfl⟩
theorem RF {w:World} {o:Own} {D M pz ps pd:Nat} {z:Am} (h:Bc w o D M pz ps pd z):Calls Tryz.prog 23 #[.pointer (some ⟨pz,0,none⟩)] w fun e w'=>e = .returned (.bool z.BN.OD)∧w = w':=by
 obtain ⟨-,rv,hb,hr, -⟩:=h
 obtain ⟨⟨-, -, -,c3, -⟩, -⟩:=hb.cells
 clear hb
 have hL:z.BN.OD = (match z.BB with | .leads _ _ _ r=>r | _=>false):=rfl
 cases hrr:z.BB with
 | follows =>
  rw [hrr] at hr hL
  obtain rfl:rv = .iface 115 (.agg #[]):=hr
  have hta:=ZI w
  have hLH:=hidden hL
  clear hrr hL
  go_enter Tryz.func23,Tryz.ntmps23
  go_wp2_with fail
  go_ret
  exact ⟨by rw [hLH.out];rfl,rfl⟩
 | stands mine has =>
  rw [hrr] at hr hL
  obtain ⟨p,rfl, -⟩:=hr
  have hta:=ZG w (some ⟨p,0,none⟩)
  have hLH:=hidden hL
  clear hrr hL
  go_enter Tryz.func23,Tryz.ntmps23
  go_wp2_with fail
  go_ret
  exact ⟨by rw [hLH.out];rfl,rfl⟩
 | leads mine mat base ready =>
  rw [hrr] at hr hL
  obtain ⟨p,rfl,b,cap,hp, -⟩:=hr
  have hta:=ZH w (some ⟨p,0,none⟩)
  have hLH:=hidden hL
  have cp:=cell_of_block hp 3
  simp only [List.getElem?_cons_zero,List.getElem?_cons_succ] at cp
  clear hrr hL hp
  go_enter Tryz.func23,Tryz.ntmps23
  go_wp2_with fail
  go_ret
  exact ⟨by rw [hLH.out];rfl,rfl⟩

end Go.Proofs.YthmpmgknnibljaaGreat
