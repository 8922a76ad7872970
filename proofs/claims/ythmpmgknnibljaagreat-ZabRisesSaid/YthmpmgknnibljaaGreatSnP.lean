/- What some statements need besides. -/
import Derived.WalkKit
import Derived.WalkSpells
import Derived.WalkLawsBesides
import Derived.Deep.MidRow
import Derived.Deep.AppendLies
import Derived.Test.YthmpmgknnibljaaGreatProg
import Derived.Deep.QuietTactic
import Derived.BigQuiet
import Derived.StillTailTactics
import Derived.Deep.RegionHeld3
import Derived.Deep.DrawnRows
import Derived.ProofKit
import Derived.OpenShut
import Derived.Deep.Slices
import Derived.Lib.AppendZerosOnto
import Derived.RangeFuncNested
import Derived.RangeFuncBound
import Derived.RangeFuncCalls
import Derived.RangeFuncLeaves
import Derived.Shelf.Abstract
import Derived.Shelf.RegionOpen
import Derived.OwnWalkIn
import Derived.TacticsInMore
import Derived.LoopNIn
import Derived.LoopIn
import Derived.OrdersIn
import Derived.Lib.SlBytesConst
import Derived.Deep.AppendSrc
import Derived.Defers
import Derived.Recover
import Derived.Shelf.SlSortCmp.Small
import Derived.Shelf.SlIterI.Sorted
import Derived.Shelf.SlIterI.Keys
import Derived.Shelf.SlIterI.Nil
import Derived.Shelf.SortM.Plain
import Derived.Shelf.SortM.SortNone
import Derived.Ground.SlsfProg
import Derived.Ground.GgzProg
import Derived.Ground.SlgmProg
import Derived.Ground.NamesProg
import Derived.Shelf.Small.Bits
import Derived.Shelf.Strconv.Itoa0
import Derived.Shelf.Bits.Mul64
import Derived.Ground.Names2Prog
import Derived.Shelf.Slices.Clone
import Derived.Shelf.Slices.SearchI
import Derived.Ground.SlgnProg
import Derived.Shelf.SlicesE.Clone
import Derived.Outline
import Derived.Test.YthmpmgknnibljaaGreatRows
import Derived.Test.YthmpmgknnibljaaGreatSn1
import Derived.Test.YthmpmgknnibljaaGreatSn2
import Derived.Test.YthmpmgknnibljaaGreatSn3
import Derived.Test.YthmpmgknnibljaaGreatSn4
import Derived.Test.YthmpmgknnibljaaGreatSn5
import Derived.Test.YthmpmgknnibljaaGreatSn6
import Derived.Test.YthmpmgknnibljaaGreatSn7
import Derived.Test.YthmpmgknnibljaaGreatSn8
import Derived.Test.YthmpmgknnibljaaGreatSn9
import Derived.Test.YthmpmgknnibljaaGreatSn10
import Derived.Test.YthmpmgknnibljaaGreatSn11
import Derived.Test.YthmpmgknnibljaaGreatSn12
import Derived.Test.YthmpmgknnibljaaGreatSn13
namespace Go.Proofs.YthmpmgknnibljaaGreat
set_option maxRecDepth 100000
set_option maxHeartbeats 3200000
open Go Go.RowKit
theorem kF (a:Int):((a.tmod 513) + 513) % 513 = a % 513:=by
 have e1:(a.tmod 513) = a % 513 ∨ (a.tmod 513) = a % 513 - 513:=by
  rw [Int.tmod_eq_emod]
  split
  ·left;omega
  ·right;simp
 omega
end Go.Proofs.YthmpmgknnibljaaGreat
namespace Go.Proofs.YthmpmgknnibljaaGreat
set_option maxRecDepth 100000
set_option maxHeartbeats 3200000
open Go Go.RowKit
theorem jM (i:Nat) (x:World) (o:Own) (box:Nat) (fv:Value) (l:List Int) (hbox:x.cell? ⟨box,0,none⟩ = some fv) (hl:Ints x o fv l) (hwf:∀ a ∈ l, -9223372036854775808 ≤ a∧a ≤ 9223372036854775807) (hi:i ≤ 1000000) :
  Calls Tryz.prog 72 #[.int .i64 (i:Int), .pointer (some ⟨box,0,none⟩)] x fun e x'=>e = .returned (.int .i64 (Af.Xm l i:Int))∧x = x':=by
 rcases hl with ⟨⟨sa,sc,rfl⟩,hn,hcs⟩ | ⟨b,off,cap,rfl,hlc,hm,ho,hb,hr⟩
 ·have:l = []:=List.eq_nil_of_length_eq_zero hn
  subst this
  have hE:(Af.Xm [] i:Int) = 0:=by simp [Af.Xm]
  rw [hE]
  go_enter Tryz.func72,Tryz.ntmps72
  go_wp2
  go_ret
  exact ⟨rfl,rfl⟩
 ·by_cases hlt:i < l.length
  ·have hc:x.cell? ⟨b,off + i,none⟩ = some (.int .i64 l[i]):=hr i _ (by simp [ivs,hlt])
   have hbd:=hwf l[i] (List.getElem_mem hlt)
   have hE:(Af.Xm l i:Int) = l[i] % 513:=by
    simp only [Af.Xm,List.getD_eq_getElem?_getD,List.getElem?_eq_getElem hlt,Option.getD_some]
    omega
   rw [hE]
   generalize l[i] = a at *
   have hcap:(l.length:Int) ≤ 9223372036854775807:=by unfold maxLen at hm;omega
   have b1:=hbd.1
   have b2:=hbd.2
   clear hbd hE hr hwf
   have g1 : -513 < a.tmod 513:=by have:=Int.tmod_lt_of_pos a (show (0:Int) < 513 by omega);have h2:=Int.lt_tmod_of_pos a (show (0:Int) < 513 by omega);omega
   have g2:a.tmod 513 < 513:=Int.tmod_lt_of_pos a (by omega)
   go_enter Tryz.func72,Tryz.ntmps72
   go_wp2
   go_ret
   exact ⟨by rw [←kF a];rfl,rfl⟩
  ·have hE:(Af.Xm l i:Int) = 0:=by
    simp only [Af.Xm,List.getD_eq_getElem?_getD]
    rw [List.getElem?_eq_none (by omega)];simp
   rw [hE]
   clear hE
   have hcap:(l.length:Int) ≤ 9223372036854775807:=by unfold maxLen at hm;omega
   go_enter Tryz.func72,Tryz.ntmps72
   go_wp2
   go_ret
   exact ⟨rfl,rfl⟩
end Go.Proofs.YthmpmgknnibljaaGreat
namespace Go.Proofs.YthmpmgknnibljaaGreat
set_option maxRecDepth 100000
set_option maxHeartbeats 3200000
open Go Go.RowKit
theorem jP {w:World} {o:Own} {D p:Nat} {d:Af} (h:Bg w o D p d) (hD:D ≠ 0) (hrow:d.row.length ≤ 1000000) (fv:Value) (l:List Int) (hl:Ints w o fv l) (hwf:∀ a ∈ l, -9223372036854775808 ≤ a∧a ≤ 9223372036854775807) :
  Calls Tryz.prog 36 #[.pointer (some ⟨p,0,none⟩),fv] w (Ret (Only D) w o fun v w' o'=>v = .tuple #[]∧Bg w' o' D p (d.BJ l)):=by
 obtain ⟨ra,rc,rfl⟩:=Aq hl
 generalize hfe:Value.slice ra l.length rc = fv at *
 have hs0:Step (Only D) w o (w.alloc (.cells #[fv] 89)) (Ak o w.heap.size (0,0)):=(Step.refl _ w o).alloc _ _
 have hd0:Bg (w.alloc (.cells #[fv] 89)) (Ak o w.heap.size (0,0)) D p d:=h.step ((Step.refl Nobody w o).alloc _ _) (fun x=>x)
 have hl0:Ints (w.alloc (.cells #[fv] 89)) (Ak o w.heap.size (0,0)) fv l:=hl.step ((Step.refl Nobody w o).alloc _ _) (fun x=>x)
 have hbx:(w.alloc (.cells #[fv] 89)).heap[w.heap.size]? = some (.cells #[fv] 89 (0,0)):=heap_alloc_new w _
 have hsays:∀ (i:Nat) (x:World),i < d.row.length→(∀ k,k < (w.alloc (.cells #[fv] 89)).heap.size→(Ak o w.heap.size (0,0) k).1 ≠ D→x.heap[k]? = (w.alloc (.cells #[fv] 89)).heap[k]?) →
   Calls Tryz.prog 72 (#[.int .i64 (i:Int)] ++ #[.pointer (some ⟨w.heap.size,0,none⟩)]) x fun e x'=>e = .returned (.int .i64 (Af.Xm l i:Int))∧x = x':=by
  intro i x hi hx
  have hb1:x.heap[w.heap.size]? = some (.cells #[fv] 89 (0,0)):=by rw [hx _ (by simp) (by rw [Au];exact fun h=>hD h.symm)];exact hbx
  have hl1:Ints x (fun k=>if k < (w.alloc (.cells #[fv] 89)).heap.size then Ak o w.heap.size (0,0) k else (0,0)) fv l:=by
   rcases hl0 with h0 | ⟨b,off,cap,hv,hlc,hm,ho,hb,hr⟩
   ·exact .inl h0
   ·have e:=hx b hb (by rw [ho];exact fun h=>hD h.symm)
    refine .inr ⟨b,off,cap,hv,hlc,hm,by simp only [if_pos hb];exact ho, ?_,Cf hr e⟩
    have hb':b < x.heap.size:=by
     rcases Nat.lt_or_ge b x.heap.size with h1 | h1
     ·exact h1
     ·rw [Array.getElem?_eq_none h1,Array.getElem?_eq_getElem hb] at e;cases e
    exact hb'
  exact jM i x _ w.heap.size fv l (cell_of_one hb1) hl1 hwf (by omega)
 have hsaysH:=hidden hsays
 clear hsays hwf hl hl0 hbx
 subst hfe
 have hlast:∀ (w2:World) (o2:Own),Step (Only D) w o w2 o2→Bg w2 o2 D p (d.done (Af.Xm l))→Hid (Step (Only D) w o ((w2.setCell ⟨p,3,none⟩ (.bool false)).setCell ⟨p,2,none⟩ (.int .i64 (-1))) o2 ∧
   Bg ((w2.setCell ⟨p,3,none⟩ (.bool false)).setCell ⟨p,2,none⟩ (.int .i64 (-1))) o2 D p (d.BJ l)):=fun w2 o2 hs2 hd2 =>
  ⟨(hs2.trans (hd2.DC 3 (.bool false))).trans ((hd2.Ik false).DC 2 (.int .i64 (-1))),(hd2.Ik false).dG (-1) (by omega)⟩
 go_enter Tryz.func36,Tryz.ntmps36
 go_wp2_with (first
  | (
    go_at_call 71;refine (bK hd0 hrow 72 #[.pointer (some ⟨w.heap.size,0,none⟩)] (Af.Xm l) (Af.eG l) Tryz.call72 hsaysH.out).mono ?_;rintro e w2 ⟨v2,o2,rfl,hs2,rfl,hd2⟩
    have hl2:=hlast w2 o2 (hs0.trans hs2) hd2
    clear hlast
    obtain ⟨bl,rv,⟨c0,c1,c2,c3⟩,⟨f1,f2,f3⟩, -⟩:=hd2.open
    have c2x:(w2.setCell ⟨p,3,none⟩ (.bool false)).cell? ⟨p,2,none⟩ = some (.int .i64 (d.done (Af.Xm l)).left):=by rw [World.cell?_setCell_other _ _ _ _ (by simp)];exact c2))
 go_end0
 exact ⟨_,o2,rfl,hl2.out.1,rfl,hl2.out.2⟩
end Go.Proofs.YthmpmgknnibljaaGreat
namespace Go.Proofs.YthmpmgknnibljaaGreat
set_option maxRecDepth 100000
set_option maxHeartbeats 3200000
open Go Go.RowKit
section
variable {w:World} {o:Own} {D p:Nat} {d d1:Af} {e1:Int}
theorem jS (h:Bg w o D p d) (hD:D ≠ 0) (hrow:d.row.length ≤ 1000000) (fv:Value) (l:List Int) (hl:Ints w o fv l) (hwf:∀ a ∈ l, -9223372036854775808 ≤ a∧a ≤ 9223372036854775807) (he:d.BJ l = d1) :
  Calls Tryz.prog 36 #[.pointer (some ⟨p,0,none⟩),fv] w (Ret (Only D) w o fun v w' o'=>v = .tuple #[]∧Bg w' o' D p d1):=by
 have:=jP h hD hrow fv l hl hwf
 rw [he] at this;exact this
end
end Go.Proofs.YthmpmgknnibljaaGreat
namespace Go.Proofs.YthmpmgknnibljaaGreat
set_option maxRecDepth 100000
set_option maxHeartbeats 12800000
open Go Go.RowKit
attribute [local go_sem ↓] Go.wp_at_zero Go.wp_at_succ
theorem jL {d:Af} (hd:d.dead = false) (hr:d.row = []) (Bz:List Int):d.kill.BJ Bz = { d with left := -1 }:=by
 obtain ⟨p,r,l,dd⟩:=d
 simp only at hd hr
 subst hd hr
 rfl
end Go.Proofs.YthmpmgknnibljaaGreat
namespace Go.Proofs.YthmpmgknnibljaaGreat
set_option maxRecDepth 100000
set_option maxHeartbeats 12800000
open Go Go.RowKit
attribute [local go_sem ↓] Go.wp_at_zero Go.wp_at_succ
theorem Ad.Good.jH {K:Nat} {l:Ad} {d:Af} (h:Ad.Good K (l,d)) (n:Int) (hn : -1 ≤ n∧n ≤ 9223372036854775807):Ad.Good K (l,{ d with left:=n }):=by
 obtain ⟨h1,h2,⟨h3,h4,h5,h6⟩,h7⟩:=h
 refine ⟨h1,h2,⟨h3,h4,h5, ?_⟩,h7⟩
 obtain ⟨q1,q2,q3,q4,q5,q6⟩:=h6
 exact ⟨q1,q2,q3,q4,hn.1,hn.2⟩
end Go.Proofs.YthmpmgknnibljaaGreat
namespace Go.Proofs.YthmpmgknnibljaaGreat
set_option maxRecDepth 100000
set_option maxHeartbeats 12800000
open Go Go.RowKit
attribute [local go_sem ↓] Go.wp_at_zero Go.wp_at_succ
theorem SG.jH {K H:Nat} {s:AZ} (h:SG K H s) (n:Int) (hn : -1 ≤ n∧n ≤ 9223372036854775807):SG K H { s with d:={ s.d with left:=n } }:=
 ⟨h.live,Ad.Good.jH h.gc n hn,Ad.Good.jH h.go n hn,h.pg,h.h4,h.VC,h.len,h.nc,h.no,h.fst,h.rc,h.ro,h.Wl⟩
end Go.Proofs.YthmpmgknnibljaaGreat
namespace Go.Proofs.YthmpmgknnibljaaGreat
set_option maxRecDepth 100000
set_option maxHeartbeats 12800000
open Go Go.RowKit
attribute [local go_sem ↓] Go.wp_at_zero Go.wp_at_succ
theorem SP.jH {K:Nat} {s:AZ} (h:SP K s):SP K { s with d:={ s.d with left := -1 } }:=⟨h.sg.jH (-1) (by omega),by show (-1:Int) < 0;omega,h.pg⟩
end Go.Proofs.YthmpmgknnibljaaGreat
namespace Go.Proofs.YthmpmgknnibljaaGreat
set_option maxRecDepth 100000
set_option maxHeartbeats 12800000
open Go Go.RowKit
attribute [local go_sem ↓] Go.wp_at_zero Go.wp_at_succ
theorem RdM.jW (m:RdM):m.text.1.length + m.text.2.b.length ≤ m.b.length:=by
 unfold RdM.text
 have h1:=RdM.EC 4 m
 have h2:∀ (k:Nat) (x:RdM),(x.txt k).1.length + (x.txt k).2.b.length ≤ x.b.length:=by
  intro k x
  unfold RdM.txt RdM.take
  split
  ·simp
  ·split
   ·simp
   ·simp only [Option.getD_some,List.length_take,List.length_drop];omega
 have:=h2 (m.num 4).1.toNat (m.num 4).2
 omega
end Go.Proofs.YthmpmgknnibljaaGreat
namespace Go.Proofs.YthmpmgknnibljaaGreat
set_option maxRecDepth 100000
set_option maxHeartbeats 12800000
open Go Go.RowKit
attribute [local go_sem ↓] Go.wp_at_zero Go.wp_at_succ
theorem jQ (N:Nat) (m:RdM):AP (Ce N m).1 + (Ce N m).2.b.length ≤ m.b.length:=by
 induction N with
 | zero=>simp [Ce,AP]
 | succ k ih =>
  have h1:=RdM.EC 8 (Ce k m).2
  have h2:=RdM.jW ((Ce k m).2.num 8).2
  simp only [Ce,DV]
  have h3:AP [⟨((Ce k m).2.num 8).1,((Ce k m).2.num 8).2.text.1⟩] = ((Ce k m).2.num 8).2.text.1.length:=by simp [AP]
  omega
end Go.Proofs.YthmpmgknnibljaaGreat
namespace Go.Proofs.YthmpmgknnibljaaGreat
set_option maxRecDepth 100000
set_option maxHeartbeats 12800000
open Go Go.RowKit
attribute [local go_sem ↓] Go.wp_at_zero Go.wp_at_succ
theorem jT (l:List UInt8):AP (QN l).1.ls ≤ l.length:=by
 have hc:∀ (m:RdM),(m.count 256).2.b.length ≤ m.b.length:=by
  intro m
  unfold RdM.count
  have:=RdM.EC 8 m
  split <;> exact this
 unfold QN RdM.lines
 simp only
 refine Nat.le_trans (Nat.le_of_add_right_le (jQ _ _)) ?_
 refine Nat.le_trans (hc _) (Nat.le_trans (hc _) (Nat.le_trans (hc _) (Nat.le_trans (RdM.EC 8 _) (Nat.le_trans (RdM.EC 8 _) (RdM.EC 1 _)))))
end Go.Proofs.YthmpmgknnibljaaGreat
namespace Go.Proofs.YthmpmgknnibljaaGreat
set_option maxRecDepth 100000
set_option maxHeartbeats 12800000
open Go Go.RowKit
attribute [local go_sem ↓] Go.wp_at_zero Go.wp_at_succ
theorem jU {l:List UInt8} {m:BG} (h:Jn l = some m):AP m.ls ≤ l.length:=by
 unfold Jn at h
 split at h
 ·split at h
  ·cases h;exact jT l
  ·cases h
 ·cases h
end Go.Proofs.YthmpmgknnibljaaGreat
namespace Go.Proofs.YthmpmgknnibljaaGreat
set_option maxRecDepth 100000
set_option maxHeartbeats 12800000
open Go Go.RowKit
attribute [local go_sem ↓] Go.wp_at_zero Go.wp_at_succ
namespace Aj
theorem jR (z:Aj) (b:List UInt8):Kin 0 (z.BL b).1 z:=by
 unfold BL
 split
 ·exact Kin.refl _ _
 ·split
  ·split
   ·exact Kin.refl _ _
   split
   ·exact (RY _ _ _ _ _).trans (e:=0) ⟨rfl,rfl,Nat.le_refl _⟩
   ·exact Kin.refl _ _
  ·exact Kin.refl _ _
end Aj
end Go.Proofs.YthmpmgknnibljaaGreat
namespace Go.Proofs.YthmpmgknnibljaaGreat
set_option maxRecDepth 100000
set_option maxHeartbeats 12800000
open Go Go.RowKit
attribute [local go_sem ↓] Go.wp_at_zero Go.wp_at_succ
section
variable {w w':World} {o o':Own} {D M pz ps pd K B:Nat} {y y':Aj}
theorem SP.still {t:AZ} (h:SP K t):t.d.kill.BJ [] = { t.d with left := -1 }:=jL h.sg.dd h.sg.row []
end
end Go.Proofs.YthmpmgknnibljaaGreat
namespace Go.Proofs.YthmpmgknnibljaaGreat
set_option maxRecDepth 100000
set_option maxHeartbeats 12800000
open Go Go.RowKit
attribute [local go_sem ↓] Go.wp_at_zero Go.wp_at_succ
section
variable {w w':World} {o o':Own} {D M pz ps pd K B:Nat} {y y':Aj}
theorem jX {t:AZ} (hd:Bg w o D pd t.d):Calls Tryz.prog 30 #[.pointer (some ⟨pd,0,none⟩)] w (Ret (Only D) w o fun v w' o'=>v = .tuple #[]∧Bg w' o' D pd t.d.kill):=aQ hd
end
end Go.Proofs.YthmpmgknnibljaaGreat
namespace Go.Proofs.YthmpmgknnibljaaGreat
set_option maxRecDepth 100000
set_option maxHeartbeats 12800000
open Go Go.RowKit
attribute [local go_sem ↓] Go.wp_at_zero Go.wp_at_succ
section
variable {w w':World} {o o':Own} {D M pz ps pd K B:Nat} {y y':Aj}
theorem jZ {t:AZ} (h:SP K t) (hD0:D ≠ 0) (hd:Bg w o D pd t.d.kill) (a:Option Addr) (c:Nat):Calls Tryz.prog 36 #[.pointer (some ⟨pd,0,none⟩), .slice a 0 c] w (Ret (Only D) w o fun v w' o'=>v = .tuple #[]∧Bg w' o' D pd { t.d with left := -1 }):=
 jS hd hD0 (by show t.d.row.length ≤ 1000000;rw [h.sg.row];simp) (.slice a 0 c) [] (.inl ⟨⟨_,_,rfl⟩,rfl,rfl⟩) (by simp) h.still
end
end Go.Proofs.YthmpmgknnibljaaGreat
namespace Go.Proofs.YthmpmgknnibljaaGreat
set_option maxRecDepth 100000
set_option maxHeartbeats 12800000
open Go Go.RowKit
attribute [local go_sem ↓] Go.wp_at_zero Go.wp_at_succ
section
variable {w w':World} {o o':Own} {D M pz ps pd K B:Nat} {y y':Aj}
theorem jO {t:AZ} (h:SP K t) (hK:K < 65536) (Mx:Nat) (hDx:D ≤ Mx) (hD0:D ≠ 0) (hd:Bg w o D pd { t.d with left := -1 }) :
  Calls Tryz.prog 37 #[.pointer (some ⟨pd,0,none⟩)] w (Ret (EN Mx) w o fun v w' o'=>∃ ps,v = .tuple #[.pointer (some ⟨ps,0,none⟩), .int .i64 0]∧Bi w' o' (Mx + 1) (Mx + 2) (Mx + 3) D ps pd 0 { t with d:={ t.d with left := -1 } }):=
 YG Mx hDx hD0 h.jH.sg hK (by rw [h.jH.pg];omega) (t:={ t with d:={ t.d with left := -1 } }) hd
end
end Go.Proofs.YthmpmgknnibljaaGreat
namespace Go.Proofs.YthmpmgknnibljaaGreat
set_option maxRecDepth 100000
set_option maxHeartbeats 12800000
open Go Go.RowKit
attribute [local go_sem ↓] Go.wp_at_zero Go.wp_at_succ
theorem Pq (l:List Eo) (k:Nat):DU (l.take k) ≤ DU l:=by
 have h:=IA (l.take k) (l.drop k)
 rw [List.take_append_drop] at h;omega
end Go.Proofs.YthmpmgknnibljaaGreat
namespace Go.Proofs.YthmpmgknnibljaaGreat
set_option maxRecDepth 100000
set_option maxHeartbeats 12800000
open Go Go.RowKit
attribute [local go_sem ↓] Go.wp_at_zero Go.wp_at_succ
theorem UA {l:List Eo} {k:Nat} {x:Eo} (hx:l[k]? = some x):DU (l.take (k + 1)) = DU (l.take k) + (AP x.m.ls + x.b.length):=by
 rw [List.take_add_one,hx,IA];simp [DU,Eo.size]
end Go.Proofs.YthmpmgknnibljaaGreat
namespace Go.Proofs.YthmpmgknnibljaaGreat
set_option maxRecDepth 100000
set_option maxHeartbeats 12800000
open Go Go.RowKit
attribute [local go_sem ↓] Go.wp_at_zero Go.wp_at_succ
theorem Qz {w:World} {o:Own} (id n:Nat) (hid:id < 256) (hn:n < 256) {v:Value} {l:List Eo} (h:Ii w o v l) :
  Calls Tryz.prog 4 #[.int .u8 (id:Int), .int .u8 (n:Int),v] w (Ret Nobody w o fun v _ _=>v = .bool true):=by
 obtain ⟨M, -,hM⟩:=EZ o 0 w.heap.size
 obtain ⟨D,hD⟩:∃ D,D = M + 1:=⟨_,rfl⟩
 have hMD:M < D:=by omega
 have hD0:D ≠ 0:=by omega
 obtain ⟨aa,ac,rfl⟩:=h.form
 obtain ⟨N,hN⟩:∃ N,l.length = N:=⟨_,rfl⟩
 have hc:=OA h
 obtain ⟨sz,hsz⟩:∃ s,1 + n % 3 = s:=⟨_,rfl⟩
 obtain ⟨ix,hix⟩:∃ i,id % sz = i:=⟨_,rfl⟩
 have hs3:1 ≤ sz∧sz ≤ 3:=by omega
 have hi3:ix < sz:=by rw [←hix];exact Nat.mod_lt _ (by omega)
 have m1:1 + (n:Int) % 3 = (sz:Int):=by omega
 have m2:(id:Int) % (sz:Int) = (ix:Int):=by rw [←hix];rfl
 have hszI:(1:Int) ≤ (sz:Int)∧(sz:Int) ≤ 3:=by omega
 rw [hN] at hc h ⊢
 go_enter Tryz.func4,Tryz.ntmps4
 go_wp2_with fail
 refine hc.mono ?_;rintro ex W1 ⟨v,o1,rfl,hs,r,rfl,hr⟩
 cases r
 ·have hst:=hs.LW (M:=M)
  have hr:=hr rfl
  have hAc:=hidden h
  have hc:=IJ ix sz W1 o1 D hD0 hs3.1 hs3.2 hi3
  have hFew:=hidden hr
  clear hs h hr hsz hix
  go_wp2_with fail
  refine hc.mono ?_;rintro ex W2 ⟨v,o2,rfl,hs,pd,ps,pz,rfl,hg⟩
  have hst:=hst.trans (hs.mono (FP hMD))
  have hg0:=hidden (And.intro hg hst)
  clear hg hst hs hc
  go_wp2_with fail
  go_loopw [12] (fun i wr=>∃ (k:Nat) (oj:Own) (y:Aj),k ≤ N∧i = .int .i64 k∧GN wr oj D D pz ps pd (6 * k) (2 * DU (l.take k)) y∧y.waited ≤ k∧Step (EN M) w o wr oj) (fun i _=>N - (intOf i).toNat)
  case atStart=>exact ⟨0,o2,_,Nat.zero_le _,rfl,by simpa [DU] using hg0.out.1,Nat.le_refl _,hg0.out.2⟩
  case round =>
   clear hg0
   obtain ⟨k,oj,y,hk,rfl,hg,hw,hst⟩:=hrel
   by_cases hlt:k < N
   ·have hltI:(0:Int) ≤ (k:Int)∧(k:Int) < (N:Int):=by omega
    obtain ⟨x,hx⟩:∃ x,l[k]? = some x:=⟨_,List.getElem?_eq_getElem (by rw [hN];exact hlt)⟩
    obtain ⟨ab,aoff,lv,bw,rfl,hrg,hln, -,hwf,hab,hoa⟩:=(hAc.out.step hst (by show ¬ M < 0;omega)).at hx
    obtain ⟨hfn,hfa,hfs⟩:=hFew.out
    obtain ⟨q1,q2,q3⟩:=hfa x (List.mem_of_getElem? hx)
    have hz1:=UA hx
    have hz2:=Pq l (k + 1)
    have cK:wr.cell? ⟨ab,aoff + k * 9,none⟩ = some (.int .u8 (x.k:Int)):=hrg 0 _ rfl
    by_cases hd:x.k % 5 = 0
    ·have hdI:(x.k:Int) % 5 = 0:=by omega
     have hc:=KE hg (by omega) (by omega) (by omega) (Prod.eta _).symm
     clear hrg hln
     go_wp2_with fail
     refine hc.mono ?_;rintro ex w3 ⟨v3,o3,rfl,hs, -,hg3⟩
     have hF:=hidden (And.intro (hg3.mono (K':=6 * (k + 1)) (B':=2 * DU (l.take (k + 1))) (by omega) (by omega)) (And.intro (CO hMD hst hs) (Aj.ZA y).2.2))
     clear hs hg3 hc hg hst cK
     go_wp2_with fail
     go_roundw
     case rel=>exact ⟨k + 1,o3,_,by omega,by go_num,hF.out.1,by have:=hF.out.2.2;omega,hF.out.2.1⟩
     case measure=>simp [intOf];omega
    obtain ⟨r5,hr5⟩:∃ r5:Nat,x.k % 5 = r5:=⟨_,rfl⟩
    have hdI:(x.k:Int) % 5 = (r5:Int):=by omega
    have hd5:((r5:Int) == 0) = false:=by simp;omega
    have hrow:Wp wr oj ab (aoff + k * 9) (FH x lv bw):=⟨hrg,hab,hoa⟩
    have hldH:=hidden (Sj hrg)
    obtain ⟨la,lc,rfl⟩:=hln.form
    have hc:=XF x.m hln q3
    have hbl:=Ju q3
    have hpl:=UF x.m
    clear hrg hln hr5 hd
    go_wp2_with (first
     | ((with_reducible apply Bo);exact hldH.out;simp only [Act.put,lsa,lsz,lss]))
    refine hc.mono ?_;rintro ex w5 ⟨v,o5,rfl,hs,bv,er,rfl,hb⟩
    have hst5:=hidden (Bv hst hs)
    have hg5:=hg.step0 hs
    have hrow5:=hrow.step hs (fun h=>h)
    have hF5:w5.cell? ⟨ab,aoff + k * 9 + 1,none⟩ = some (.int .i64 x.src):=hrow5.1 1 _ rfl
    have hc:=Fz hg5 (by omega) x.src hb (by omega) (AP x.m.ls) (Ia x.m) (by omega) (Prod.eta _).symm
    have hsame:=hidden (Aj.Vz hg5.nok x.src x.m.put)
    obtain ⟨y6,hy6⟩:∃ z,(y.Gj x.src x.m.put).1 = z:=⟨_,rfl⟩
    have hkin:=hidden (Aj.RI y x.src x.m.put)
    rw [hy6] at hc hsame hkin
    have hbH:=hidden hb
    have hrow5H:=hidden hrow5
    obtain ⟨ba,bc,rfl⟩:=Aq hb
    clear hs hb hg hst hldH hrow cK hrow5 hy6
    go_wp2_with fail
    refine hc.mono ?_;rintro ex w6 ⟨v,o6,rfl,hs, -,hg6⟩
    have hst6:=hidden (CO hMD hst5.out hs)
    have hb6H:=hidden (hbH.out.step hs (InN.zero hD0))
    have hrow6H:=hidden (hrow5H.out.step hs (InN.zero hD0))
    have hc:=Qc hg6 (by omega)
    clear hs hg5 hF5 hst5 hbH hrow5H
    go_wp2_with fail
    refine hc.mono ?_;rintro ex w7 ⟨v,o7,rfl,hs,lk,rfl,hl⟩
    obtain ⟨Lk,hLk⟩:∃ n,y6.k.lines.length = n:=⟨_,rfl⟩
    obtain ⟨ka,kc,rfl⟩:=hl.EG hLk
    obtain ⟨kb,Wk,V8,p8,hal,hso,hs8,hk8⟩:=LK (p:=y6.k.promised) (c:=y6.k.current) (lv := .slice ka Lk kc) w7 o7 ⟨_,_,_,rfl⟩
    have hs78:=hs.trans hs8
    have hg8:=hg6.step0 hs78
    have hst8:=hidden (Bv hst6.out hs78)
    have hb8H:=hidden (hb6H.out.step hs78 (fun h=>h))
    have hrow8H:=hidden (hrow6H.out.step hs78 (fun h=>h))
    have hl8H:=hidden ((hl.step hs8 (fun h=>h)).low (Nat.zero_le _))
    have hk8H:=hidden hk8
    have hc:=ED hg8 (by omega) rfl
    have halH:=hidden hal
    have hsoH:=hidden hso
    clear hs hs8 hs78 hk8 hal hso hl hg6 hst6 hb6H hrow6H
    go_wp2_with (first
     | ((with_reducible apply AU);exact halH.out;simp only [Act.put,lsa,lsz,lss])
     | ((with_reducible apply AC);exact hsoH.out;simp only [Act.put]))
    refine hc.mono ?_;rintro ex w9 ⟨v,o9,rfl,hs,hl⟩
    obtain ⟨Lc,hLc⟩:∃ n,(y6.k.lines.take y6.Ag).length = n:=⟨_,rfl⟩
    obtain ⟨ca,cc,rfl⟩:=hl.EG hLc
    have hg9:=hg8.step0 hs
    have hst9:=hidden (Bv hst8.out hs)
    have hb9H:=hidden (hb8H.out.step hs (fun h=>h))
    have hrow9H:=hidden (hrow8H.out.step hs (fun h=>h))
    have hl9H:=hidden (hl8H.out.step hs (fun h=>h))
    have hk9H:=hidden (hk8H.out.step hs (fun h=>h))
    have hm9H:=hidden (hl.low (Nat.zero_le _))
    have hc:=IR hg9 rfl
    clear hs hl hg8 hst8 hb8H hrow8H hl8H hk8H
    go_wp2_with fail
    refine hc.mono ?_;rintro ex w' ⟨rfl,rfl⟩
    have hF9:w9.cell? ⟨ab,aoff + k * 9 + 1,none⟩ = some (.int .i64 x.src):=hrow9H.out.1 1 _ rfl
    have hc:=Fz hg9 (by omega) x.src hb9H.out (by omega) (AP x.m.ls) (Ia x.m) (by omega) (Prod.eta _).symm
    obtain ⟨ya,hya⟩:∃ z,(y6.Gj x.src x.m.put).1 = z:=⟨_,rfl⟩
    have hkin2:=hidden (Aj.RI y6 x.src x.m.put)
    rw [hya] at hc hsame hkin2
    clear hya
    go_wp2_with fail
    refine hc.mono ?_;rintro ex wa ⟨v,oa,rfl,hs, -,hga⟩
    have hsta:=hidden (CO hMD hst9.out hs)
    have hlaH:=hidden (hl9H.out.step hs (InN.zero hD0))
    have hkaH:=hidden (hk9H.out.step hs (InN.zero hD0))
    have hmaH:=hidden (hm9H.out.step hs (InN.zero hD0))
    have hc:=Qc hga (by omega)
    rw [hsame.out.1] at hc
    clear hs hg9 hF9 hst9 hb9H hrow9H hl9H hk9H hm9H
    go_wp2_with fail
    refine hc.mono ?_;rintro ex wb ⟨v,ob,rfl,hs,lk,rfl,hl⟩
    obtain ⟨xa,xc,rfl⟩:=hl.EG hLk
    obtain ⟨xb,Wx,Vb,pb,hal,hso,hsb,hxb⟩:=LK (p:=y6.k.promised) (c:=y6.k.current) (lv := .slice xa Lk xc) wb ob ⟨_,_,_,rfl⟩
    have hs78:=hs.trans hsb
    have hgb:=hga.step0 hs78
    have hstb:=hidden (Bv hsta.out hs78)
    have hkb:=hkaH.out.step hs78 (fun h=>h)
    have d0:Vb.cell? ⟨kb,0,none⟩ = some (.int .u64 (y6.k.promised.toNat:Int)):=hkb.1 0 _ rfl
    have d1:Vb.cell? ⟨kb,1,none⟩ = some (.int .u64 (y6.k.current.toNat:Int)):=hkb.1 1 _ rfl
    have d2:Vb.cell? ⟨kb,2,none⟩ = some (.slice ka Lk kc):=hkb.1 2 _ rfl
    have e0:Vb.cell? ⟨xb,0,none⟩ = some (.int .u64 (y6.k.promised.toNat:Int)):=hxb.1 0 _ rfl
    have e1:Vb.cell? ⟨xb,1,none⟩ = some (.int .u64 (y6.k.current.toNat:Int)):=hxb.1 1 _ rfl
    have e2:Vb.cell? ⟨xb,2,none⟩ = some (.slice xa Lk xc):=hxb.1 2 _ rfl
    have hlim:Lk ≤ 1000000:=by rw [←hLk];have:=hgb.nok.ls.n;rw [hsame.out.1] at this;omega
    have hc:=Oh ((hl.step hsb (fun h=>h)).low (Nat.zero_le _)) (hlaH.out.step hs78 (fun h=>h)) (by rw [hLk];exact hlim)
    have hmbH:=hidden (hmaH.out.step hs78 (fun h=>h))
    have halH:=hidden hal
    have hsoH:=hidden hso
    clear hs hsb hs78 hal hso hl hga hsta hkb hxb hlaH hkaH hmaH
    go_wp2_with (first
     | ((with_reducible apply AU);exact halH.out;simp only [Act.put,lsa,lsz,lss])
     | ((with_reducible apply AC);exact hsoH.out;simp only [Act.put]))
    refine hc.mono ?_;rintro ex wc ⟨v,oc,rfl,hs,rfl⟩
    have hgc:=hgb.step0 hs
    have hstc:=hidden (Bv hstb.out hs)
    have hmcH:=hidden (hmbH.out.step hs (fun h=>h))
    have hc:=ED hgc (by omega) (ls:=y6.k.lines.take y6.Ag) (by rw [hsame.out.1,hsame.out.2.1])
    clear hs hgb hstb d0 d1 d2 e0 e1 e2 hmbH
    go_wp2_with fail
    refine hc.mono ?_;rintro ex wd ⟨v,od,rfl,hs,hl⟩
    obtain ⟨za,zc,rfl⟩:=hl.EG hLc
    have hgd:=hgc.step0 hs
    have hstd:=hidden (Bv hstc.out hs)
    have hc:=Oh (hl.low (Nat.zero_le _)) (hmcH.out.step hs (fun h=>h)) (by rw [List.length_take,hLk];omega)
    clear hs hl hgc hstc hmcH
    go_wp2_with fail
    refine hc.mono ?_;rintro ex we ⟨v,oe,rfl,hs,rfl⟩
    have hge:=hgd.step0 hs
    have hste:=hidden (Bv hstd.out hs)
    have hc:=IR hge (b:=y6.OD) hsame.out.2.2
    clear hs hgd hstd
    go_wp2_with fail
    refine hc.mono ?_;rintro ex w' ⟨rfl,rfl⟩
    have hF:=hidden (And.intro (hge.mono (K':=6 * (k + 1)) (B':=2 * DU (l.take (k + 1))) (by omega) (by omega)) hste.out)
    clear hge hste hc
    go_wp2_with fail
    go_roundw
    case rel=>exact ⟨k + 1,oe,_,by omega,by go_num,hF.out.1,by have:=hkin.out.2.2;have:=hkin2.out.2.2;omega,hF.out.2⟩
    case measure=>simp [intOf];omega
   ·obtain rfl:k = N:=by omega
    have hc:=KD wr oj
    go_wp2_with fail
    refine hc.mono ?_;rintro ex w5 ⟨v,o5,rfl,hs,rfl⟩
    have hst:=Bv hst hs
    clear hs hc hg
    go_wp2_with fail
    go_ret
    exact ⟨_,_,rfl,hst.Hm hM,rfl⟩
 ·clear hr hc h
  go_wp2_with fail
  go_ret
  exact ⟨_,_,rfl,hs,rfl⟩
end Go.Proofs.YthmpmgknnibljaaGreat
