/- The log as a plain Lean thing: leaves and pages, what pages say, the log's own acts on a disk. No program in sight. -/
import Derived.Test.YtfgggkheadfiaaaRDiskM
import Derived.Test.YtfgggkheadfiaaaRLog3
namespace Go.Proofs.YtfgggkheadfiaaaR
open Go Go.RowKit

structure LeafM where
  stamp : BitVec 64
  at' : Nat
  of' : Nat
  bytes : List UInt8

namespace LeafM
def said (x : LeafM) : List UInt8 :=
  be 8 x.stamp ++ be 2 (BitVec.ofNat 64 x.at') ++ be 2 (BitVec.ofNat 64 x.of') ++ be 4 (BitVec.ofNat 64 x.bytes.length) ++ x.bytes ++ List.replicate (480 - x.bytes.length) 0
def page (x : LeafM) : List UInt8 := x.said ++ (be 8 (crcSum x.said)).reverse ++ be 8 x.stamp
theorem length_said {x : LeafM} (h : x.bytes.length ≤ 480) : x.said.length = 496 := by
  simp [said, length_be]; omega
theorem length_page {x : LeafM} (h : x.bytes.length ≤ 480) : x.page.length = 512 := by
  simp [page, length_be, length_said h]
end LeafM
def noLeaf : LeafM := ⟨0, 0, 0, []⟩
/-- What a page says. -/
def leafOf (p : List UInt8) : LeafM := ⟨num (p.take 8), (num ((p.drop 8).take 2)).toNat, (num ((p.drop 10).take 2)).toNat, (p.drop 16).take (num ((p.drop 12).take 4)).toNat⟩
def saysOk (p : List UInt8) : Bool := !(num (p.take 8) == 0#64) && decide ((num ((p.drop 12).take 4)).toNat ≤ 480) && ((leafOf p).page == p)
def saidL (p : List UInt8) : LeafM × Bool :=
  if num (p.take 8) = 0#64 ∨ 480 < (num ((p.drop 12).take 4)).toNat then (noLeaf, false) else (leafOf p, (leafOf p).page == p)

structure LogM where
  first : Nat
  n : Nat
  stamp : BitVec 64
  headed : Bool
  end' : Nat
  records : List (List UInt8)
  dead : Bool

namespace LogM
def umax (a b : BitVec 64) : BitVec 64 := if a.toNat < b.toNat then b else a
def newest (pages : List (List UInt8)) : BitVec 64 := pages.foldl (fun s p => umax (umax s (num (p.take 8))) (num (p.drop 504))) 0
def leavesOf (pages : List (List UInt8)) : List LeafM := (pages.takeWhile fun p => (saidL p).2).map fun p => (saidL p).1
/-- Is a run of leaves one record? -/
def run (stamp : BitVec 64) (of' : Nat) : Nat → List LeafM → Bool
  | _, [] => true
  | i, y :: r => y.stamp == stamp && y.at' == i && y.of' == of' && run stamp of' (i + 1) r
/-- The record that begins at leaf e: how many leaves, their stamp, its bytes. -/
def accept (leaves : List LeafM) (e : Nat) (last : BitVec 64) : Option (Nat × BitVec 64 × List UInt8) :=
  match leaves[e]? with
  | none => none
  | some x =>
    if x.stamp.toNat ≤ last.toNat ∨ x.of' < 1 ∨ leaves.length - e < x.of' then none
    else if run x.stamp x.of' 0 ((leaves.drop e).take x.of') then some (x.of', x.stamp, ((leaves.drop e).take x.of').flatMap LeafM.bytes) else none
/-- From the end so far, the last stamp, and the records so far. -/
def readL (leaves : List LeafM) : Nat → Nat × BitVec 64 × List (List UInt8) → Nat × BitVec 64 × List (List UInt8)
  | 0, s => s
  | f + 1, s =>
    match accept leaves s.1 s.2.1 with
    | none => s
    | some r => readL leaves f (s.1 + r.1, r.2.1, s.2.2 ++ [r.2.2])
def isHead : List LeafM → Bool
  | [] => false
  | x :: _ => x.at' == 0 && x.of' == 0 && x.bytes.length == 0
def headStamp : List LeafM → BitVec 64
  | [] => 0
  | x :: _ => x.stamp
def readAll (ls : List LeafM) : Nat × BitVec 64 × List (List UInt8) := readL ls ls.length (1, headStamp ls, [])
/-- The log that pages tell. -/
def ofPages (first : Nat) (pages : List (List UInt8)) : LogM :=
  let ls := leavesOf pages
  { first := first, n := pages.length, stamp := newest pages, headed := isHead ls, end' := if isHead ls then (readAll ls).1 else 1, records := if isHead ls then (readAll ls).2.2 else [], dead := false }
def seenPages (d : DiskM) (first n : Nat) : List (List UInt8) := (List.range n).map fun i => d.seen (first + i)
/-- Open: an error, or a log. -/
def openL (d : DiskM) (first n : Int) : Option LogM × Int :=
  if d.dead then (none, 9)
  else if n < 2 ∨ first < 0 ∨ (d.pages.length : Int) - n < first then (none, 1)
  else if newest (seenPages d first.toNat n.toNat) = BitVec.allOnes 64 then (none, 2)
  else (some (ofPages first.toNat (seenPages d first.toNat n.toNat)), 0)
def room (l : LogM) : Nat := 480 * (l.n - l.end')
def many (b : List UInt8) : Nat := max 1 ((b.length + 479) / 480)
def part (b : List UInt8) (i : Nat) : List UInt8 := (b.drop (480 * i)).take 480

/-! ### The acts: each on a log and its disk -/
def head (s : LogM × DiskM) : (LogM × DiskM) × Int :=
  let l := { s.1 with stamp := s.1.stamp + 1#64 }
  let r := s.2.write l.first (LeafM.page ⟨l.stamp, 0, 0, []⟩)
  if r.2 ≠ 0 then ((l, r.1), r.2) else ((l, r.1.sync.1), r.1.sync.2)
/-- The leaves from number i on are written. -/
def put (l : LogM) (of' : Nat) (b : List UInt8) : Nat → Nat → DiskM → DiskM × Int
  | 0, _, d => (d, 0)
  | k + 1, i, d =>
    let r := d.write ((l.first + l.end' + i : Nat) : Int) (LeafM.page ⟨l.stamp, i, of', part b i⟩)
    if r.2 ≠ 0 then r else put l of' b k (i + 1) r.1
def step1 (b : List UInt8) (s : LogM × DiskM) : (LogM × DiskM) × Int := if s.1.n - s.1.end' < many b then (s, 4) else (s, 0)
def step2 (s : LogM × DiskM) : (LogM × DiskM) × Int :=
  if s.1.headed then (s, 0) else
    let r := head s
    (({ r.1.1 with headed := r.2 == 0 }, r.1.2), r.2)
def step3 (b : List UInt8) (s : LogM × DiskM) : (LogM × DiskM) × Int :=
  let l := { s.1 with stamp := s.1.stamp + 1#64 }
  let r := put l (many b) b (many b) 0 s.2
  if r.2 ≠ 0 then ((l, r.1), r.2) else ((l, r.1.sync.1), r.1.sync.2)
def step4 (b : List UInt8) (s : LogM × DiskM) : (LogM × DiskM) × Int := (({ s.1 with records := s.1.records ++ [b], end' := s.1.end' + many b }, s.2), 0)
def reset2 (s : LogM × DiskM) : (LogM × DiskM) × Int := (({ s.1 with headed := true, records := [], end' := 1 }, s.2), 0)
def steps : List ((LogM × DiskM) → (LogM × DiskM) × Int) → (LogM × DiskM) → (LogM × DiskM) × Int
  | [], s => (s, 0)
  | f :: r, s => if (f s).2 ≠ 0 then (({ (f s).1.1 with dead := (f s).1.1.dead || (f s).2 == 9 }, (f s).1.2), (f s).2) else steps r (f s).1
def alive (fs : List ((LogM × DiskM) → (LogM × DiskM) × Int)) (s : LogM × DiskM) : (LogM × DiskM) × Int :=
  if s.1.dead || s.2.dead then (s, 9) else steps fs s
def commit (b : List UInt8) (s : LogM × DiskM) : (LogM × DiskM) × Int := alive [step1 b, step2, step3 b, step4 b] s
def reset (s : LogM × DiskM) : (LogM × DiskM) × Int := alive [head, reset2] s
end LogM
end Go.Proofs.YtfgggkheadfiaaaR
