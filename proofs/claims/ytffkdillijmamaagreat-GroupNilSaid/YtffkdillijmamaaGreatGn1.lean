/- Plain words and laws that all of this seat's walks share: bytes as cells, the ghost map that says whose a block is, and how a world may change. Over any program; no conditions. -/
import Derived.WalkKit
import Derived.WalkSpells
import Derived.WalkLawsBesides
import Derived.Deep.MidRow
import Derived.Deep.AppendLies
import Derived.Test.YtffkdillijmamaaGreatProg
import Derived.Deep.QuietTactic
import Derived.BigQuiet
import Derived.StillTailTactics
import Derived.Deep.RegionHeld3
import Derived.Deep.DrawnRows
import Derived.ProofKit
import Derived.OpenShut
import Derived.Deep.Slices
namespace Go.Proofs.YtffkdillijmamaaGreat
theorem aI {a b : Prop} (x : a) (y : b) : a ∧ b := ⟨x, y⟩
theorem GL {α : Type _} (l : List α) (i : Nat) (a : α) : l.toArray.setIfInBounds i a=(l.set i a).toArray := List.setIfInBounds_toArray l i a
theorem DL {α : Type _} {a b : α} {t : List α} : (a :: t).set 0 b=b :: t := rfl
theorem lss {α : Type _} {a b : α} {t : List α} {n : Nat} : (a :: t).set (n+1) b=a :: t.set n b := rfl
open Go.Proofs.Tryz
set_option maxRecDepth 100000
set_option maxHeartbeats 3200000
open Go Go.RowKit
def bv (x:UInt8):Value := .int .u8 (x.toNat:Int)
def bvs (l:List UInt8):List Value:=l.map bv
@[simp] theorem Bh (l:List UInt8):(bvs l).length=l.length:=by simp [bvs]
@[simp] theorem iQ:bvs []=[]:=rfl
@[simp] theorem Jv (l m:List UInt8):bvs (l++m)=bvs l++bvs m:=by simp [bvs]
theorem Ky (l:List UInt8) (n:Nat):(bvs l).take n=bvs (l.take n):=by simp [bvs]
theorem Np (l:List UInt8) (n:Nat):(bvs l).drop n=bvs (l.drop n):=by simp [bvs]
theorem Io (l:List UInt8):∀ v ∈ bvs l,v.oneCell'=true:=by
 intro v hv
 simp only [bvs,List.mem_map] at hv
 obtain ⟨x,_,rfl⟩:=hv
 rfl
theorem MJ {x:Value} {l:List Value} (hx:x.oneCell'=true) (h:∀ v ∈ l,v.oneCell'=true):∀ v ∈ x :: l,v.oneCell'=true:=by
 intro v hv
 rcases List.mem_cons.1 hv with rfl | hv
 ·exact hx
 ·exact h v hv
theorem OW (l:List UInt8) (j:Nat):(bvs l)[j]?=l[j]?.map bv:=by simp [bvs]
abbrev Own:=Nat→Nat × Nat
def Ak (o:Own) (k:Nat) (t:Nat × Nat):Own:=fun i=>if i=k then t else o i
@[simp] theorem Au (o:Own) (k:Nat) (t:Nat × Nat):Ak o k t k=t:=by simp [Ak]
theorem BI (o:Own) {k i:Nat} (t:Nat × Nat) (h:i ≠ k):Ak o k t i=o i:=by simp [Ak,h]
structure Step (T:Nat→Prop) (w:World) (o:Own) (w':World) (o':Own):Prop where
 os:w'.os=w.os
 tape:w'.tape=w.tape
 output:w'.output=w.output
 size:w.heap.size ≤ w'.heap.size
 own:∀ k,k<w.heap.size→o' k=o k
 block:∀ k,k<w.heap.size→¬ T (o k).1→w'.heap[k]?=w.heap[k]?
def Nobody:Nat→Prop:=fun _=>False
def Only (D:Nat):Nat→Prop:=fun k=>k=D
section
variable {T T':Nat→Prop} {w w1 w2:World} {o o1 o2:Own}
theorem Step.refl (T:Nat→Prop) (w:World) (o:Own):Step T w o w o:=⟨rfl,rfl,rfl,Nat.le_refl _,fun _ _=>rfl,fun _ _ _=>rfl⟩
theorem Step.trans (h:Step T w o w1 o1) (g:Step T w1 o1 w2 o2):Step T w o w2 o2:=
 ⟨g.os.trans h.os,g.tape.trans h.tape,g.output.trans h.output,Nat.le_trans h.size g.size,
  fun k hk=>(g.own k (Nat.lt_of_lt_of_le hk h.size)).trans (h.own k hk),
  fun k hk ht=>(g.block k (Nat.lt_of_lt_of_le hk h.size) (by rw [h.own k hk];exact ht)).trans (h.block k hk ht)⟩
theorem Step.mono (h:Step T w o w1 o1) (hT:∀ k,T k→T' k):Step T' w o w1 o1:=
 ⟨h.os,h.tape,h.output,h.size,h.own,fun k hk ht=>h.block k hk (fun hx=>ht (hT _ hx))⟩
theorem Step.alloc (h:Step T w o w1 o1) (ob:Obj) (t:Nat × Nat):Step T w o (w1.alloc ob) (Ak o1 w1.heap.size t):=
 h.trans ⟨rfl,rfl,rfl,by simp,fun k hk=>BI _ _ (by omega),fun k hk _=>Below.heap_alloc _ _ _ hk⟩
theorem Step.alloc' (h:Step T w o w1 o1) (ob:Obj):Step T w o (w1.alloc ob) o1:=
 h.trans ⟨rfl,rfl,rfl,by simp,fun _ _=>rfl,fun k hk _=>Below.heap_alloc _ _ _ hk⟩
theorem Step.drew (h:Step T w o w1 o1):Step T w o w1.drew o1:=⟨h.os,h.tape,h.output,h.size,h.own,h.block⟩
theorem Step.drewN (h:Step T w o w1 o1) (n:Nat):Step T w o (w1.drewN n) o1:=⟨h.os,h.tape,h.output,h.size,h.own,h.block⟩
theorem Step.setCell (h:Step T w o w1 o1) {a:Addr} (v:Value) (ha:T (o1 a.block).1 ∨ w.heap.size ≤ a.block):Step T w o (w1.setCell a v) o1:=by
 refine ⟨h.os,h.tape,h.output,by simpa using h.size,h.own,fun k hk ht => ?_⟩
 rw [Below.heap_setCell]
 ·exact h.block k hk ht
 ·rintro rfl
  rcases ha with ha | ha
  ·rw [h.own _ hk] at ha;exact ht ha
  ·omega
theorem Step.nobody {D:Nat} (h:Step (Only D) w o w1 o1) (hD:∀ k,k<w.heap.size→(o k).1 ≠ D):Step Nobody w o w1 o1:=
 ⟨h.os,h.tape,h.output,h.size,h.own,fun k hk _=>h.block k hk (hD k hk)⟩
theorem Step.only (h:Step Nobody w o w1 o1) (D:Nat):Step (Only D) w o w1 o1:=h.mono fun _ x=>x.elim
theorem Step.below (h:Step Nobody w o w1 o1):Below w.heap.size w w1:=
 ⟨h.os,h.tape,h.output,h.size,fun k hk=>h.block k hk (fun x=>x)⟩
end
theorem EZ (o:Own) (b:Nat):∀ n:Nat,∃ M,b ≤ M∧∀ k,k<n→(o k).1 ≤ M
 | 0=>⟨b,Nat.le_refl _,fun k hk=>by omega⟩
 | n+1=>by
  obtain ⟨M,h1,h2⟩:=EZ o b n
  refine ⟨max M (o n).1,by omega,fun k hk => ?_⟩
  by_cases hkn:k=n
  ·subst hkn;omega
  ·have:=h2 k (by omega);omega
theorem KT (o:Own) (n b:Nat):∃ D,b<D∧∀ k,k<n→(o k).1 ≠ D:=by
 obtain ⟨M,h1,h2⟩:=EZ o b n
 exact ⟨M+1,by omega,fun k hk=>by have:=h2 k hk;omega⟩
theorem heap_setCells_other (b:Nat):∀ (vs:List Value) (off:Nat) (w:World) (k:Nat),k ≠ b→(w.setCells b off vs).heap[k]?=w.heap[k]?
 | [],_,_,_,_=>rfl
 | v :: r,off,w,k,h=>by
  rw [World.setCells,heap_setCells_other b r (off+1) _ k h,Below.heap_setCell _ _ _ _ h]
theorem size_setCells (b:Nat):∀ (vs:List Value) (off:Nat) (w:World),(w.setCells b off vs).heap.size=w.heap.size
 | [],_,_=>rfl
 | v :: r,off,w=>by rw [World.setCells,size_setCells b r];simp
theorem JL (b:Nat):∀ (vs:List Value) (off:Nat) (w:World),(w.setCells b off vs).os=w.os∧(w.setCells b off vs).tape=w.tape∧(w.setCells b off vs).output=w.output
 | [],_,_=>⟨rfl,rfl,rfl⟩
 | v :: r,off,w=>by rw [World.setCells];exact JL b r _ _
theorem Step.setCells {T:Nat→Prop} {w w1:World} {o o1:Own} (h:Step T w o w1 o1) (b off:Nat) (vs:List Value) (ha:T (o1 b).1 ∨ w.heap.size ≤ b):Step T w o (w1.setCells b off vs) o1:=by
 obtain ⟨e1,e2,e3⟩:=JL b vs off w1
 refine ⟨e1.trans h.os,e2.trans h.tape,e3.trans h.output,by rw [size_setCells];exact h.size,h.own,fun k hk ht => ?_⟩
 rw [heap_setCells_other]
 ·exact h.block k hk ht
 ·rintro rfl
  rcases ha with ha | ha
  ·rw [h.own _ hk] at ha;exact ht ha
  ·omega
theorem BP (b:Nat) (E:TypeId):∀ (vs:List Value) (off:Nat) (w:World) (cs:List Value),w.heap[b]?=some (.cells cs.toArray E (0,0))→off+vs.length ≤ cs.length →
  (w.setCells b off vs).heap[b]?=some (.cells (cs.take off++vs++cs.drop (off+vs.length)).toArray E (0,0))
 | [],off,w,cs,h,_=>by simp [World.setCells,h]
 | v :: r,off,w,cs,h,hl=>by
  have hb:=lt_of_block h
  have h1:(w.setCell ⟨b,off,none⟩ v).heap[b]?=some (.cells (cs.set off v).toArray E (0,0)):=by
   simp only [World.setCell,Array.getElem?_modify]
   simp [h]
  rw [World.setCells,BP b E r (off+1) _ _ h1 (by simp at hl ⊢;omega)]
  simp only [List.length_cons] at hl ⊢
  congr 3
  rw [List.take_set,List.drop_set]
  rw [if_pos (by omega)]
  have:off<cs.length:=by omega
  rw [List.take_add_one]
  simp only [List.getElem?_eq_getElem this,Option.toList]
  rw [List.set_append_right _ _ (by simp;omega)]
  simp only [List.length_take]
  rw [Nat.min_eq_left (by omega)]
  simp
  congr 1
  omega
theorem Ai {w:World} {b i:Nat} {cs:List Value} {E:TypeId} (v:Value) (h:w.heap[b]?=some (.cells cs.toArray E (0,0))) :
  (w.setCell ⟨b,i,none⟩ v).heap[b]?=some (.cells (cs.set i v).toArray E (0,0)):=by
 simp only [World.setCell,Array.getElem?_modify]
 simp [h]
theorem cell_of_block {w:World} {b:Nat} {cs:List Value} {E:TypeId} {fr:Nat × Nat} (h:w.heap[b]?=some (.cells cs.toArray E fr)) (i:Nat):w.cell? ⟨b,i,none⟩=cs[i]?:=by
 simp [World.cell?,h]
theorem Ap {w:World} {b:Nat} {cs:List Value} {E:TypeId} (h:w.heap[b]?=some (.cells cs.toArray E (0,0))) (i:Nat):w.frozen? ⟨b,i,none⟩=false:=by
 simp [World.frozen?,h]
theorem BU {w:World} {b:Nat} {cs:List Value} {E:TypeId} {fr:Nat × Nat} (h:w.heap[b]?=some (.cells cs.toArray E fr)) (off n:Nat):w.rangeAt b off ((cs.drop off).take n):=by
 intro j v hj
 rw [cell_of_block h]
 rw [List.getElem?_take] at hj
 split at hj
 ·simpa using hj
 ·cases hj
theorem Dh {w:World} {b:Nat} {cs:List Value} {E:TypeId} (h:w.heap[b]?=some (.cells cs.toArray E (0,0))) (off n:Nat) (hn:off+n ≤ cs.length):w.there b off n:=by
 intro j hj
 refine ⟨?_,Ap h _⟩
 rw [cell_of_block h,List.getElem?_eq_getElem (by omega)];rfl
theorem AV {w:World} {b:Nat} {cs:List Value} {E:TypeId} {fr:Nat × Nat} (h:w.heap[b]?=some (.cells cs.toArray E fr)):w.rangeAt b 0 cs:=by
 have:=BU h 0 cs.length
 simpa using this
theorem Cf {w w':World} {b off:Nat} {cs:List Value} (h:w.rangeAt b off cs) (e:w'.heap[b]?=w.heap[b]?):w'.rangeAt b off cs:=fun j v hj=>by
 rw [World.cell?_of_block (w:=w) (a:=⟨b,off+j,none⟩) e];exact h j v hj
theorem ER {w:World} {b off:Nat} {cs:List Value} (h:w.rangeAt b off cs) (i n:Nat):w.rangeAt b (off+i) ((cs.drop i).take n):=fun j v hj=>by
 rw [List.getElem?_take] at hj
 split at hj
 ·have:=h (i+j) v (by simpa using hj)
  rwa [←Nat.add_assoc] at this
 ·cases hj
theorem Be (w:World) (zs:Array Value) (E:TypeId) (vs:List Value) (hl:zs.size=vs.length) :
  (w.alloc (.cells zs E)).setCells w.heap.size 0 vs=w.alloc (.cells vs.toArray E):=by
 have hh:=BP w.heap.size E vs 0 (w.alloc (.cells zs E)) zs.toList (by simpa using heap_alloc_new w (.cells zs E)) (by simp [hl])
 obtain ⟨e1,e2,e3⟩:=JL w.heap.size vs 0 (w.alloc (.cells zs E))
 have e4:((w.alloc (.cells zs E)).setCells w.heap.size 0 vs).drawn=w.drawn:=by
  have:∀ (vs:List Value) (off:Nat) (x:World),(x.setCells w.heap.size off vs).drawn=x.drawn:=by
   intro vs
   induction vs with
   | nil=>intros;rfl
   | cons v r ih=>intro off x;rw [World.setCells,ih];rfl
  rw [this];rfl
 have e5:((w.alloc (.cells zs E)).setCells w.heap.size 0 vs).heap=(w.alloc (.cells vs.toArray E)).heap:=by
  apply Array.ext_getElem?
  intro i
  by_cases hi:i=w.heap.size
  ·subst hi
   rw [hh,heap_alloc_new]
   simp [hl]
  ·rw [heap_setCells_other _ _ _ _ _ hi]
   simp only [World.alloc,Array.getElem?_push,hi,if_false]
 revert e1 e2 e3 e4 e5
 generalize (w.alloc (.cells zs E)).setCells w.heap.size 0 vs=x
 intro e1 e2 e3 e4 e5
 cases x
 simp only at e1 e2 e3 e4 e5
 subst e1 e2 e3 e4 e5
 rfl
theorem hidden {p:Prop} (h:p):Hid p:=h
def sH (w:World) (o:Own) (v:Value) (n:Nat) (cs:List Value):Prop:=
 ((∃ a c,v = .slice a 0 c)∧n=0∧cs=[]) ∨ ∃ b off cap,v = .slice (some ⟨b,off,none⟩) n cap∧n ≤ cap∧cap ≤ maxLen∧(o b).1=0∧b<w.heap.size∧w.rangeAt b off cs
theorem sH.step {T:Nat→Prop} {w w':World} {o o':Own} {v:Value} {n:Nat} {cs:List Value} (h:sH w o v n cs) (s:Step T w o w' o') (hT:¬ T 0):sH w' o' v n cs:=by
 rcases h with h | ⟨b,off,cap,hv,hl,hm,ho,hb,hr⟩
 ·exact .inl h
 ·exact .inr ⟨b,off,cap,hv,hl,hm,by rw [s.own b hb];exact ho,Nat.lt_of_lt_of_le hb s.size,Cf hr (s.block b hb (by rw [ho];exact hT))⟩
theorem Aq {w:World} {o:Own} {v:Value} {n:Nat} {cs:List Value} (h:sH w o v n cs):∃ a c,v = .slice a n c:=by
 rcases h with ⟨⟨a,c,rfl⟩,rfl,_⟩ | ⟨b,off,cap,rfl,_⟩ <;> exact ⟨_,_,rfl⟩
def Bytes (w:World) (o:Own) (v:Value) (l:List UInt8):Prop:=sH w o v l.length (bvs l)
theorem Bytes.cases {w:World} {o:Own} {v:Value} {l:List UInt8} (h:Bytes w o v l):((∃ a c,v = .slice a 0 c)∧l=[]) ∨
  ∃ b off cap,v = .slice (some ⟨b,off,none⟩) l.length cap∧l.length ≤ cap∧cap ≤ maxLen∧(o b).1=0∧b<w.heap.size∧w.rangeAt b off (bvs l):=by
 rcases h with ⟨h1,h2,_⟩ | h
 ·exact .inl ⟨h1,List.eq_nil_of_length_eq_zero h2⟩
 ·exact .inr h
theorem Bytes.nil (w:World) (o:Own):Bytes w o (.slice none 0 0) [] := .inl ⟨⟨_,_,rfl⟩,rfl,rfl⟩
theorem Bytes.step {T:Nat→Prop} {w w':World} {o o':Own} {v:Value} {l:List UInt8} (h:Bytes w o v l) (s:Step T w o w' o') (hT:¬ T 0):Bytes w' o' v l:=sH.step h s hT
def XL (T:Nat→Prop) (w:World) (o:Own) (Q:Value→World→Own→Prop):Ending→World→Prop:=
 fun e w'=>∃ v o',e = .returned v∧Step T w o w' o'∧Q v w' o'
section
variable {P:Program} {ops:Array Oper} {rest:List Oper} {op:Oper} {a:Act} {w:World} {Q:Exit→Act→World→Prop}
theorem AB (w:World) (ty:TypeId) (zs:Array Value) (hz:((P.info? ty).bind (·.zero)).map (·.cells)=some zs) :
  (Instr.alloc ty true (.tuple #[])).run P w = .ok (.pointer (some ⟨w.heap.size,0,none⟩)) (w.alloc (.cells zs ty)):=by
 cases hi:P.info? ty with
 | none=>simp [hi] at hz
 | some i =>
  cases hq:i.zero with
  | none=>simp [hi,hq] at hz
  | some z =>
   simp only [hi,hq,Option.bind_some,Option.map_some,Option.some.injEq] at hz
   subst hz
   simp [Instr.alloc,zeroValue,typeInfo,hi,hq,newVar,newRow]
end
theorem Gn (zs:Array Value):∀ n:Nat,(madeCells zs (n*zs.size)).toList=(List.replicate n zs.toList).flatten
 | 0=>by simp [madeCells]
 | n+1=>by
  have ih:=Gn zs n
  rw [List.replicate_succ',List.flatten_append, ←ih]
  apply List.ext_getElem
  ·simp [madeCells,Nat.add_mul]
  ·intro i h1 h2
   simp only [madeCells,Array.length_toList,Array.size_map,Array.size_range] at h1
   simp only [madeCells,Array.getElem_toList,Array.getElem_map,Array.getElem_range,List.getElem_append,Array.length_toList,Array.size_map,Array.size_range]
   split
   ·rfl
   ·rename_i hlt
    have hz:i - n*zs.size<zs.size:=by rw [Nat.add_mul] at h1;omega
    have hm:i % zs.size=i - n*zs.size:=by
     have e:i=(i - n*zs.size)+n*zs.size:=by omega
     have:=Nat.add_mul_mod_self_right (i - n*zs.size) n zs.size
     rw [←e] at this
     rw [this,Nat.mod_eq_of_lt hz]
    simp [hm,hz]
theorem Gy {P:Program} (w:World) (t e:TypeId) (zs:List Value) (size bytes:Nat) (ht:P.underlying t=some (.slice e))
  (hi:(P.info? e).map (fun i=>(i.zero.map (fun z=>z.cells.toList),i.size,i.bytes))=some (some zs,size,bytes)) (hzs:zs.length=size) (n:Nat) (hb:bytes*n ≤ 281474976710656) (h63:n ≤ 9223372036854775807) (k kc:IntKind) :
  (Instr.makeSlice t (.int k (n:Int)) (.int kc (n:Int))).run P w = .ok (.slice (some ⟨w.heap.size,0,none⟩) n n) (w.alloc (.cells (List.replicate n zs).flatten.toArray e)):=by
 cases hq:P.info? e with
 | none=>simp [hq] at hi
 | some i =>
  cases hz:i.zero with
  | none=>simp [hq,hz] at hi
  | some z =>
   simp only [hq,hz,Option.map_some,Option.some.injEq,Prod.mk.injEq] at hi
   obtain ⟨e1,e2,e3⟩:=hi
   have hb':(i.bytes:Int)*(n:Int) ≤ 281474976710656:=by
    have h:((i.bytes*n:Nat):Int) ≤ 281474976710656:=by rw [e3];omega
    rwa [Int.natCast_mul] at h
   have hr:=run_make (P:=P) w t e i z ht hq hz k kc n n (by omega) (Int.le_refl _) hb' (by omega)
   rw [hr]
   have hsz:z.cells.size=i.size:=by rw [e2, ←hzs, ←e1];simp
   have:=Gn z.cells n
   rw [e1,hsz] at this
   simp only [Int.toNat_natCast]
   rw [←this]
structure Af where
 pages:List (List UInt8)
 row:List (Nat × List UInt8)
 left:Int
 dead:Bool
namespace Af
def wf (d:Af):Prop:=
 1 ≤ d.pages.length∧d.pages.length ≤ 4096∧(∀ p ∈ d.pages,p.length=512)∧(∀ x ∈ d.row,x.1<d.pages.length∧x.2.length=512) ∧ -1 ≤ d.left∧d.left ≤ 9223372036854775807
def asked (d:Af) (at' n:Int):Int:=if d.dead then 9 else if at'<0 ∨ (d.pages.length:Int) ≤ at' ∨ n ≠ 512 then 1 else 0
def counted (d:Af) (e:Int):Af × Int:=
 if e ≠ 0 ∨ d.left<0 then (d,e) else if d.left=0 then ({ d with dead:=true },9) else ({ d with left:=d.left - 1 },0)
def seenIn (at':Nat) (p:List UInt8) (row:List (Nat × List UInt8)):List UInt8:=row.foldl (fun p x=>if x.1=at' then x.2 else p) p
def seen (d:Af) (at':Nat):List UInt8:=seenIn at' (d.pages.getD at' []) d.row
def read (d:Af) (at':Int):List UInt8 × Int:=if d.asked at' 512 ≠ 0 then ([],d.asked at' 512) else (d.seen at'.toNat,0)
def write (d:Af) (at':Int) (b:List UInt8):Af × Int:=
 let c:=d.counted (d.asked at' b.length)
 if c.2 ≠ 0 then c else ({ c.1 with row:=c.1.row++[(at'.toNat,b)] },0)
def CG (n:Nat) (new old:List UInt8):List UInt8:=new.take n++old.drop n
def Gf (f:Nat→Nat) (pages:List (List UInt8)) (x:(Nat × List UInt8) × Nat):List (List UInt8):=
 pages.set x.1.1 (CG (f x.2) x.1.2 (pages.getD x.1.1 []))
def Dk (f:Nat→Nat) (pages:List (List UInt8)) (row:List (Nat × List UInt8)):List (List UInt8):=row.zipIdx.foldl (Gf f) pages
def done (d:Af) (f:Nat→Nat):Af:={ d with pages:=Dk f d.pages d.row,row:=[] }
def sync (d:Af):Af × Int:=
 let c:=d.counted (d.asked 0 512)
 if c.2 ≠ 0 then c else (c.1.done fun _=>512,0)
def bG (d:Af) (n:Int):Af:=if d.dead then d else { d with left:=max (-1) n }
def kill (d:Af):Af:={ d with dead:=true }
def Xm (Bz:List Int) (i:Nat):Nat:=((Bz.getD i 0) % 513).toNat
def BJ (d:Af) (Bz:List Int):Af:={ d.done (Xm Bz) with dead:=false,left := -1 }
def blank:List UInt8:=List.replicate 512 0
def new (n:Nat):Af:={ pages:=List.replicate n blank,row:=[],left := -1,dead:=false }
theorem eG (Bz:List Int) (i:Nat):Xm Bz i ≤ 512:=by unfold Xm;omega
theorem MR {n:Nat} {a b:List UInt8} (ha:a.length=512) (hb:b.length=512) (hn:n ≤ 512):(CG n a b).length=512:=by
 simp [CG];omega
theorem OX {pages:List (List UInt8)} (h:∀ p ∈ pages,p.length=512) {i:Nat} (hi:i<pages.length):(pages.getD i []).length=512:=by
 simp only [List.getD_eq_getElem?_getD,List.getElem?_eq_getElem hi,Option.getD_some]
 exact h _ (List.getElem_mem hi)
theorem Xp (f:Nat→Nat) (hf:∀ i,f i ≤ 512) {pages:List (List UInt8)} (h:∀ p ∈ pages,p.length=512) (x:(Nat × List UInt8) × Nat) (hx:x.1.1<pages.length) (hl:x.1.2.length=512) :
  (Gf f pages x).length=pages.length∧∀ p ∈ Gf f pages x,p.length=512:=by
 refine ⟨by simp [Gf],fun p hp => ?_⟩
 rcases List.mem_or_eq_of_mem_set hp with hp | rfl
 ·exact h p hp
 ·exact MR hl (OX h hx) (hf _)
theorem Hg (d:Af) (e:Int):(d.counted e).1.pages=d.pages∧(d.counted e).1.row=d.row:=by
 unfold counted;split
 ·exact ⟨rfl,rfl⟩
 ·split <;> exact ⟨rfl,rfl⟩
end Af
def Ei (row:List (Nat × List UInt8)):List Value:=row.flatMap fun x=>Value.int .i64 (x.1:Int) :: bvs x.2
theorem QH (row:List (Nat × List UInt8)) (x:Nat × List UInt8):Ei (row++[x])=Ei row++(Value.int .i64 (x.1:Int) :: bvs x.2):=by simp [Ei]
theorem Jm:∀ (row:List (Nat × List UInt8)) (i:Nat) (hi:i<row.length),(∀ x ∈ row,x.2.length=512)→((Ei row).drop (i*513)).take 513=Value.int .i64 (row[i].1:Int) :: bvs row[i].2
 | x :: r,0,_,h=>by
  have h2:=h x (by simp)
  simp only [Ei,List.flatMap_cons,Nat.zero_mul,List.drop_zero,List.getElem_cons_zero]
  rw [List.take_left']
  simp [h2]
 | x :: r,i+1,hi,h=>by
  have h2:=h x (by simp)
  have ih:=Jm r i (by simpa using hi) (fun y hy=>h y (by simp [hy]))
  simp only [Ei,List.flatMap_cons,List.getElem_cons_succ]
  rw [show (i+1)*513=(Value.int .i64 (x.1:Int) :: bvs x.2).length+i*513 from by simp [h2];omega,List.drop_append]
  rw [List.drop_eq_nil_of_le (by omega),List.nil_append,Nat.add_sub_cancel_left]
  exact ih
theorem RP:∀ (pages:List (List UInt8)) (i:Nat),i<pages.length→(∀ p ∈ pages,p.length=512)→(pages.flatten.drop (i*512)).take 512=pages.getD i []
 | x :: r,0,_,h=>by
  have h2:=h x (by simp)
  simp only [List.flatten_cons,Nat.zero_mul,List.drop_zero]
  rw [List.take_left' h2];rfl
 | x :: r,i+1,hi,h=>by
  have h2:=h x (by simp)
  have ih:=RP r i (by simpa using hi) (fun y hy=>h y (by simp [hy]))
  simp only [List.flatten_cons]
  rw [show (i+1)*512=x.length+i*512 from by rw [h2];omega,List.drop_append]
  rw [List.drop_eq_nil_of_le (by omega),List.nil_append,Nat.add_sub_cancel_left]
  exact ih
theorem MS:∀ (pages:List (List UInt8)),(∀ p ∈ pages,p.length=512)→pages.flatten.length=pages.length*512
 | [],_=>rfl
 | x :: r,h=>by
  have:=MS r (fun y hy=>h y (by simp [hy]))
  have h2:=h x (by simp)
  simp only [List.flatten_cons,List.length_append,List.length_cons]
  omega
theorem Ro:∀ (pages:List (List UInt8)) (i:Nat) (q:List UInt8),i<pages.length→(∀ p ∈ pages,p.length=512)→q.length ≤ 512 →
  pages.flatten.take (i*512)++q++pages.flatten.drop (i*512+q.length)=(pages.set i (q++(pages.getD i []).drop q.length)).flatten
 | x :: r,0,q,_,h,hq=>by
  have h2:=h x (by simp)
  simp only [List.flatten_cons,Nat.zero_mul,List.take_zero,List.nil_append,Nat.zero_add,DL,List.getD_cons_zero,List.append_assoc]
  rw [List.drop_append_of_le_length (by omega)]
 | x :: r,i+1,q,hi,h,hq=>by
  have h2:=h x (by simp)
  have ih:=Ro r i q (by simpa using hi) (fun y hy=>h y (by simp [hy])) hq
  simp only [List.flatten_cons,lss,List.getD_cons_succ]
  rw [←ih]
  rw [show (i+1)*512=x.length+i*512 from by rw [h2];omega,List.take_length_add_append,Nat.add_assoc,List.drop_length_add_append]
  simp [List.append_assoc]
def Bg (w:World) (o:Own) (D p:Nat) (d:Af):Prop:=
 ∃ bl rv,
  w.heap[p]?=some (.cells #[.slice (some ⟨bl,0,none⟩) d.pages.length d.pages.length,rv, .int .i64 d.left, .bool d.dead] 130 (0,0)) ∧
  w.heap[bl]?=some (.cells (bvs d.pages.flatten).toArray 218 (0,0)) ∧
  w.ownsRow 0 220 513 rv d.row.length (Ei d.row) ∧
  o p=(D,0)∧o bl=(D,1)∧(∀ k,rv.ownBlock=some k→o k=(D,2))∧d.wf
theorem Ci {w w':World} {base:Nat} {e:TypeId} {size:Nat} {v:Value} {n:Nat} {xs:List Value} (h:w.ownsRow base e size v n xs)
  (hs:∀ k,v.ownBlock=some k→w'.heap[k]?=w.heap[k]?):w'.ownsRow base e size v n xs:=by
 refine ⟨h.1, ?_⟩
 rcases h.2 with hn | ⟨g,cap,cur,rfl,hb,hg,rest⟩
 ·exact .inl hn
 ·exact .inr ⟨g,cap,cur,rfl,hb,by rw [hs g rfl];exact hg,rest⟩
theorem Bg.step {T:Nat→Prop} {w w':World} {o o':Own} {D p:Nat} {d:Af} (h:Bg w o D p d) (s:Step T w o w' o') (hT:¬ T D):Bg w' o' D p d:=by
 obtain ⟨bl,rv,hp,hl,hr,op,ol,wI,hwf⟩:=h
 have hpl:=lt_of_block hp
 have hll:=lt_of_block hl
 refine ⟨bl,rv, ?_, ?_, ?_, ?_, ?_, ?_,hwf⟩
 ·rw [s.block p hpl (by rw [op];exact hT)];exact hp
 ·rw [s.block bl hll (by rw [ol];exact hT)];exact hl
 ·exact Ci hr fun k hk=>s.block k (hr.lt k hk).2 (by rw [wI k hk];exact hT)
 ·rw [s.own p hpl];exact op
 ·rw [s.own bl hll];exact ol
 ·intro k hk;rw [s.own k (hr.lt k hk).2];exact wI k hk
theorem Bg.wf {w:World} {o:Own} {D p:Nat} {d:Af} (h:Bg w o D p d):d.wf:=by
 obtain ⟨bl,rv,hp,hl,hr,op,ol,wI,hwf⟩:=h;exact hwf
theorem Bg.lt {w:World} {o:Own} {D p:Nat} {d:Af} (h:Bg w o D p d):p<w.heap.size:=by
 obtain ⟨bl,rv,hp,hl,hr,op,ol,wI,hwf⟩:=h;exact lt_of_block hp
theorem Bg.open {w:World} {o:Own} {D p:Nat} {d:Af} (h:Bg w o D p d):∃ bl rv,
  (w.cell? ⟨p,0,none⟩=some (.slice (some ⟨bl,0,none⟩) d.pages.length d.pages.length)∧w.cell? ⟨p,1,none⟩=some rv∧w.cell? ⟨p,2,none⟩=some (.int .i64 d.left)∧w.cell? ⟨p,3,none⟩=some (.bool d.dead)) ∧
  (w.frozen? ⟨p,1,none⟩=false∧w.frozen? ⟨p,2,none⟩=false∧w.frozen? ⟨p,3,none⟩=false) ∧
  w.heap[bl]?=some (.cells (bvs d.pages.flatten).toArray 218 (0,0))∧w.ownsRow 0 220 513 rv d.row.length (Ei d.row) ∧
  o p=(D,0)∧o bl=(D,1)∧(∀ k,rv.ownBlock=some k→o k=(D,2)):=by
 obtain ⟨bl,rv,hp,hl,hr,op,ol,wI,hwf⟩:=h
 exact ⟨bl,rv,⟨cell_of_block hp 0,cell_of_block hp 1,cell_of_block hp 2,cell_of_block hp 3⟩,⟨Ap hp 1,Ap hp 2,Ap hp 3⟩,hl,hr,op,ol,wI⟩
theorem Bg.dG {w:World} {o:Own} {D p:Nat} {d:Af} (h:Bg w o D p d) (n:Int) (hn : -1 ≤ n∧n ≤ 9223372036854775807):Bg (w.setCell ⟨p,2,none⟩ (.int .i64 n)) o D p { d with left:=n }:=by
 obtain ⟨bl,rv,hp,hl,hr,op,ol,wI,hwf⟩:=h
 refine ⟨bl,rv,Ai _ hp, ?_, ?_,op,ol,wI, ?_⟩
 ·rw [Below.heap_setCell _ _ _ _ (by rintro rfl;rw [op] at ol;simp at ol)];exact hl
 ·refine Ci hr fun k hk=>Below.heap_setCell _ _ _ _ ?_
  rintro rfl;have:=wI _ hk;rw [op] at this;simp at this
 ·obtain ⟨h1,h2,h3,h4,h5,h6⟩:=hwf;exact ⟨h1,h2,h3,h4,hn.1,hn.2⟩
theorem Bg.Ik {w:World} {o:Own} {D p:Nat} {d:Af} (h:Bg w o D p d) (b:Bool):Bg (w.setCell ⟨p,3,none⟩ (.bool b)) o D p { d with dead:=b }:=by
 obtain ⟨bl,rv,hp,hl,hr,op,ol,wI,hwf⟩:=h
 refine ⟨bl,rv,Ai _ hp, ?_, ?_,op,ol,wI,hwf⟩
 ·rw [Below.heap_setCell _ _ _ _ (by rintro rfl;rw [op] at ol;simp at ol)];exact hl
 ·refine Ci hr fun k hk=>Below.heap_setCell _ _ _ _ ?_
  rintro rfl;have:=wI _ hk;rw [op] at this;simp at this
theorem Bg.ofD {w:World} {o:Own} {D p:Nat} {d:Af} (h:Bg w o D p d):(o p).1=D:=by
 obtain ⟨bl,rv,hp,hl,hr,op,ol,wI,hwf⟩:=h;rw [op]
theorem Bg.DC {w:World} {o:Own} {D p:Nat} {d:Af} (h:Bg w o D p d) (i:Nat) (v:Value):Step (Only D) w o (w.setCell ⟨p,i,none⟩ v) o:=
 (Step.refl _ w o).setCell v (.inl h.ofD)
theorem Ic {w:World} {o:Own} {D p:Nat} {d:Af} (h:Bg w o D p d) :
  Calls prog 118 #[.pointer (some ⟨p,0,none⟩)] w fun e w'=>e = .returned (.bool d.dead)∧w=w':=by
 obtain ⟨bl,rv,⟨c0,c1,c2,c3⟩,⟨f1,f2,f3⟩,hl,hr,op,ol,wI⟩:=h.open
 clear op ol wI hr hl
 go_enter func118,ntmps118
 go_wp2
 go_ret
 exact ⟨rfl,rfl⟩
theorem aQ {w:World} {o:Own} {D p:Nat} {d:Af} (h:Bg w o D p d) :
  Calls prog 49 #[.pointer (some ⟨p,0,none⟩)] w (XL (Only D) w o fun v w' o'=>v = .tuple #[]∧Bg w' o' D p d.kill):=by
 have hs:=h.DC 3 (.bool true)
 have hd:=h.Ik true
 obtain ⟨bl,rv,⟨c0,c1,c2,c3⟩,⟨f1,f2,f3⟩,hl,hr,op,ol,wI⟩:=h.open
 clear op ol wI hr hl
 go_enter func49,ntmps49
 go_wp2
 go_end0
 exact ⟨_,o,rfl,hs,rfl,hd⟩
theorem Zg {w:World} {o:Own} {D p:Nat} {d:Af} (h:Bg w o D p d) (at' n:Int) :
  Calls prog 228 #[.pointer (some ⟨p,0,none⟩), .int .i64 at', .int .i64 n] w fun e w'=>e = .returned (.int .i64 (d.asked at' n))∧w=w':=by
 obtain ⟨bl,rv,⟨c0,c1,c2,c3⟩,⟨f1,f2,f3⟩,hl,hr,op,ol,wI⟩:=h.open
 clear op ol wI hr hl
 by_cases hd:d.dead=true
 ·rw [hd] at c3
  have hE:d.asked at' n=9:=by simp [Af.asked,hd]
  rw [hE]
  go_enter func228,ntmps228
  go_wp2
  go_ret
  exact ⟨rfl,rfl⟩
 ·have hd':d.dead=false:=by simpa using hd
  rw [hd'] at c3
  by_cases h1:at'<0
  ·have hE:d.asked at' n=1:=by simp [Af.asked,hd',h1]
   rw [hE]
   go_enter func228,ntmps228
   go_wp2
   go_ret
   exact ⟨rfl,rfl⟩
  ·by_cases h2:(d.pages.length:Int) ≤ at'
   ·have hE:d.asked at' n=1:=by simp [Af.asked,hd',h2]
    rw [hE]
    go_enter func228,ntmps228
    go_wp2
    go_ret
    exact ⟨rfl,rfl⟩
   ·by_cases h3:n=512
    ·have hE:d.asked at' n=0:=by simp [Af.asked,hd',h1,h2,h3]
     rw [hE]
     subst h3
     go_enter func228,ntmps228
     go_wp2
     go_ret
     exact ⟨rfl,rfl⟩
    ·have hE:d.asked at' n=1:=by simp [Af.asked,hd',h3]
     rw [hE]
     have h3':(n != 512)=true:=by simpa using h3
     clear h3
     go_enter func228,ntmps228
     go_wp2
     go_ret
     exact ⟨rfl,rfl⟩
theorem VS {w:World} {o:Own} {D p:Nat} {d:Af} (h:Bg w o D p d) (n:Int) :
  Calls prog 256 #[.pointer (some ⟨p,0,none⟩), .int .i64 n] w (XL (Only D) w o fun v w' o'=>v = .int .i64 (d.counted n).2∧Bg w' o' D p (d.counted n).1):=by
 have hwf:=h.wf
 obtain ⟨-, -, -, -,b1,b2⟩:=hwf
 obtain ⟨bl,rv,⟨c0,c1,c2,c3⟩,⟨f1,f2,f3⟩,hl,hr,op,ol,wI⟩:=h.open
 clear op ol wI hr hl
 by_cases h1:n=0
 ·subst h1
  by_cases h2:d.left<0
  ·have hE:d.counted 0=(d,0):=by simp [Af.counted,h2]
   rw [hE]
   go_enter func256,ntmps256
   go_wp2
   go_ret
   exact ⟨_,o,rfl,Step.refl _ _ _,rfl,h⟩
  ·by_cases h3:d.left=0
   ·have hE:d.counted 0=({ d with dead:=true },9):=by simp [Af.counted,h3]
    rw [hE]
    rw [h3] at c2
    have hs:=h.DC 3 (.bool true)
    have hd:=h.Ik true
    clear h3 h2 b1 b2
    go_enter func256,ntmps256
    go_wp2
    go_ret
    exact ⟨_,o,rfl,hs,rfl,hd⟩
   ·have hE:d.counted 0=({ d with left:=d.left - 1 },0):=by simp [Af.counted,h2,h3]
    rw [hE]
    have hs:=h.DC 2 (.int .i64 (d.left - 1))
    have hd:=h.dG (d.left - 1) (by omega)
    have h3':(d.left == 0)=false:=by simpa using h3
    clear h3
    go_enter func256,ntmps256
    go_wp2
    go_ret
    exact ⟨_,o,rfl,hs,rfl,hd⟩
 ·have hE:d.counted n=(d,n):=by simp [Af.counted,h1]
  rw [hE]
  have h1':(n != 0)=true:=by simpa using h1
  clear h1
  go_enter func256,ntmps256
  go_wp2
  go_ret
  exact ⟨_,o,rfl,Step.refl _ _ _,rfl,h⟩
theorem size_any {w:World} {o:Own} {D p:Nat} {d:Af} (h:Bg w o D p d) :
  Calls prog 119 #[.pointer (some ⟨p,0,none⟩)] w fun e w'=>e = .returned (.int .i64 d.pages.length)∧w=w':=by
 obtain ⟨bl,rv,⟨c0,c1,c2,c3⟩,⟨f1,f2,f3⟩,hl,hr,op,ol,wI⟩:=h.open
 clear op ol wI hr hl
 go_enter func119,ntmps119
 go_wp2
 go_ret
 exact ⟨rfl,rfl⟩
theorem UH {w:World} {rv:Value} {n:Nat} {xs:List Value} (h:w.ownsRow 0 220 513 rv n xs):∃ a cap,rv = .slice a n cap:=by
 rcases h.2 with ⟨rfl,rfl⟩ | ⟨g,cap,cur,rfl,_⟩
 ·exact ⟨_,_,rfl⟩
 ·exact ⟨_,_,rfl⟩
theorem VJ (off:Nat):∀ (vs:List Value) (j:Nat) (cs:List Value),off+j+vs.length ≤ cs.length →
  (((vs.zipIdx j).foldl (fun (cs:Array Value) x=>cs.setIfInBounds (off+x.2) x.1) cs.toArray):Array Value)=(cs.take (off+j)++vs++cs.drop (off+j+vs.length)).toArray
 | [],j,cs,_=>by simp
 | v :: r,j,cs,h=>by
  simp only [List.zipIdx_cons,List.foldl_cons,GL]
  rw [VJ off r (j+1) _ (by simp at h ⊢;omega)]
  simp only [List.length_cons] at h ⊢
  congr 1
  rw [List.take_set,List.drop_set,if_pos (by omega)]
  rw [show off+(j+1)=(off+j)+1 from by omega,List.take_add_one]
  have hlt:off+j<cs.length:=by omega
  simp only [List.getElem?_eq_getElem hlt,Option.toList]
  rw [List.set_append_right _ _ (by simp;omega)]
  simp only [List.length_take]
  rw [Nat.min_eq_left (by omega)]
  simp
  congr 1
  omega
theorem LU (off:Nat) (vs cs:List Value) (h:off+vs.length ≤ cs.length) :
  (vs.toArray.zipIdx.foldl (fun (cs:Array Value) (x:Value × Nat)=>cs.setIfInBounds (off+x.2) x.1) cs.toArray:Array Value)=(cs.take off++vs++cs.drop (off+vs.length)).toArray:=by
 have:=VJ off vs 0 cs (by simpa using h)
 simp only [Nat.add_zero] at this
 rw [←this, ←Array.foldl_toList]
 congr 1
 simp
section
variable {P:Program}
theorem QG (w:World) (t:TypeId) (f0 f1:Field) (zs:List Value) (v0 v1:Value) (c0 c1:List Value)
  (hu:P.underlying t=some (.struct #[f0,f1])) (hz:((P.info? t).bind (·.zero)).map (fun z=>z.cells.toList)=some zs)
  (h0:f0.offset=0) (h1:f1.offset=c0.length) (s0:(P.info? f0.type).map (·.size)=some c0.length) (s1:(P.info? f1.type).map (·.size)=some c1.length)
  (hl:zs.length=c0.length+c1.length) (e0:v0.cells=c0.toArray) (e1:v1.cells=c1.toArray) :
  (Instr.build t #[(0,v0),(1,v1)]).run P w = .ok (.agg (c0++c1).toArray) w:=by
 cases hi:P.info? t with
 | none=>simp [hi] at hz
 | some i =>
  cases hq:i.zero with
  | none=>simp [hi,hq] at hz
  | some z =>
   cases hi0:P.info? f0.type with
   | none=>simp [hi0] at s0
   | some i0 =>
    cases hi1:P.info? f1.type with
    | none=>simp [hi1] at s1
    | some i1 =>
     simp only [hi,hq,Option.bind_some,Option.map_some,Option.some.injEq] at hz
     simp only [hi0,Option.map_some,Option.some.injEq] at s0
     simp only [hi1,Option.map_some,Option.some.injEq] at s1
     have hzc:z.cells=zs.toArray:=by rw [←hz]
     have F0:=LU 0 c0 zs (by omega)
     have F1:=LU c0.length c1 (c0++zs.drop c0.length) (by simp;omega)
     have F0':(zs.take 0++c0++zs.drop (0+c0.length))=c0++zs.drop c0.length:=by simp
     rw [F0'] at F0
     have F1':((c0++zs.drop c0.length).take c0.length++c1++(c0++zs.drop c0.length).drop (c0.length+c1.length))=c0++c1:=by
      rw [List.take_left,List.drop_eq_nil_of_le (by simp;omega)];simp
     rw [F1'] at F1
     have hp:∀ x:World,(program).run P x = .ok P x:=fun _=>rfl
     simp only [Instr.build,zeroValue,typeInfo,sizeOf,Sem.run_bind,hp,Result.andThen_ok,hi,hq,Sem.run_pure,run_underlying hu,hzc]
     simp only [List.mapM_toArray,List.mapM_cons,List.mapM_nil,Sem.run_bind,Sem.run_map,hp,Result.andThen_ok,hi0,hi1,Sem.run_pure,s0,s1,h0,h1]
     simp only [Instr.fill,e0,e1,List.size_toArray]
     simp
     rw [if_neg (by omega)]
     simp at F0 F1
     rw [F0]
     simp
     rw [if_neg (by omega),F1]
     simp
theorem Dv (w:World) (t e:TypeId) (zs:List Value) (v:Value) (c:List Value) (hu:P.underlying t=some (.slice e))
  (hz:(P.info? e).map (fun i=>(i.zero.map (fun z=>z.cells.toList),i.size))=some (some zs,c.length)) (hl:zs.length=c.length) (hc:0<c.length) (hc2:c.length ≤ 16777216) (ev:v.cells=c.toArray) :
  (Instr.buildSlice t 1 #[(0,v)]).run P w = .ok (.slice (some ⟨w.heap.size,0,none⟩) 1 1) (w.alloc (.cells c.toArray e)):=by
 cases hi:P.info? e with
 | none=>simp [hi] at hz
 | some i =>
  cases hq:i.zero with
  | none=>simp [hi,hq] at hz
  | some z =>
   simp only [hi,hq,Option.map_some,Option.some.injEq,Prod.mk.injEq] at hz
   obtain ⟨hz,hs⟩:=hz
   have hzc:z.cells=zs.toArray:=by rw [←hz]
   have hp:∀ x:World,(program).run P x = .ok P x:=fun _=>rfl
   have hm:(Array.map (fun x=>zs.toArray[x % zs.toArray.size]!) (Array.range (1*c.length)))=zs.toArray:=by
    have:=Gn zs.toArray 1
    simp only [madeCells,List.size_toArray,hl] at this
    apply Array.toList_inj.1
    simpa [hl] using this
   have F0:=LU 0 c zs (by omega)
   have F0':(zs.take 0++c++zs.drop (0+c.length))=c:=by simp;omega
   rw [F0'] at F0
   simp only [Instr.buildSlice,sizeOf,zeroValue,typeInfo,Sem.run_bind,hp,Result.andThen_ok,run_underlying hu,hi,Sem.run_pure,hs]
   rw [if_neg (by omega),if_neg (by omega)]
   simp only [Sem.run_bind,Sem.run_pure,hp,Result.andThen_ok,hi,hq,hzc,hm]
   simp only [Instr.fill,ev,List.size_toArray]
   simp
   rw [if_neg (by omega)]
   simp at F0
   rw [F0]
   simp [newRow]
theorem TQ {e:TypeId} {zs:List Value} {size bytes:Nat} (hi:(P.info? e).map (fun i=>(i.zero.map (fun z=>z.cells.toList),i.size,i.bytes))=some (some zs,size,bytes)) :
  ∃ i z,P.info? e=some i∧i.zero=some z∧i.size=size∧i.bytes=bytes∧z.cells=zs.toArray:=by
 cases hq:P.info? e with
 | none=>simp [hq] at hi
 | some i =>
  cases hz:i.zero with
  | none=>simp [hq,hz] at hi
  | some z =>
   simp only [hq,hz,Option.map_some,Option.some.injEq,Prod.mk.injEq] at hi
   obtain ⟨e1,e2,e3⟩:=hi
   exact ⟨i,z,rfl,hz,e2,e3,by rw [←e1]⟩
theorem DD (W:World) (t ty e:TypeId) {base:Nat} {zs:List Value} {size bytes:Nat} (ht:P.underlying t=some (.slice e))
  (hi:(P.info? e).map (fun i=>(i.zero.map (fun z=>z.cells.toList),i.size,i.bytes))=some (some zs,size,bytes)) (hzs:zs.length=size) (hsz:0<size) (hbase:base ≤ W.heap.size)
  (v:Value) (n:Nat) (xs:List Value) (hown:W.ownsRow base e size v n xs) (b off m c:Nat) (news:List Value) (hl:news.length=m*size) (hr:W.rangeAt b off news) (h1:∀ u ∈ news,u.oneCell'=true)
  (hm:0<m) (h63:n+m ≤ 9223372036854775807) (hbytes:(n+m)*bytes ≤ 140737488355328) :
  ∃ g cap w',(Builtin.append_ #[t,t] ty #[v, .slice (some ⟨b,off,none⟩) m c]).run P W = .ok (.slice (some ⟨g,0,none⟩) (n+m) cap) w' ∧
   w'.ownsRow base e size (.slice (some ⟨g,0,none⟩) (n+m) cap) (n+m) (xs++news)∧W.grownBy w' v.ownBlock∧(v.ownBlock=some g ∨ g=W.heap.size)∧g<w'.heap.size:=by
 obtain ⟨i,z,hq,hz,e2,e3,e4⟩:=TQ hi
 exact run_append_lies (P:=P) W t ty base e i z size bytes ht hq hz e2 e3 (by rw [e4];simpa using hzs) hsz v n xs hown ⟨b,off,none⟩ m c news hl
  (fun j u hu=>by rw [Addr.add_mid];exact hr j u hu) h1 hm (by simp only [maxLen];exact h63) hbytes hbase W.heap.size rfl
end
theorem Step.grown {T:Nat→Prop} {w W w':World} {o o1:Own} (h:Step T w o W o1) {row:Option Nat} (hg:W.grownBy w' row) (hrow:∀ k,row=some k→T (o1 k).1 ∨ w.heap.size ≤ k) (g:Nat) (t:Nat × Nat)
  (hgk:o1 g=t ∨ W.heap.size ≤ g):Step T w o w' (Ak o1 g t):=by
 refine ⟨hg.os.trans h.os,hg.tape.trans h.tape,hg.output.trans h.output,Nat.le_trans h.size hg.size,fun k hk => ?_,fun k hk ht => ?_⟩
 ·have hk':=Nat.lt_of_lt_of_le hk h.size
  by_cases hkg:k=g
  ·subst hkg
   rcases hgk with hgk | hgk
   ·rw [Au, ←hgk];exact h.own k hk
   ·omega
  ·rw [BI _ _ hkg];exact h.own k hk
 ·rw [hg.block k (Nat.lt_of_lt_of_le hk h.size) ?_]
  ·exact h.block k hk ht
  ·intro hx
   rcases hrow k hx.symm with h1 | h1
   ·rw [h.own k hk] at h1;exact ht h1
   ·omega
section
variable {P:Program} {ops:Array Oper} {Q:Exit→Act→World→Prop} {md:Region.Mode} {S:World→Prop} {need:Nat→Bool}
def Dq (P:Program) (md:Region.Mode) (ops:Array Oper) (Q:Exit→Act→World→Prop) (S:World→Prop) (need:Nat→Bool):Nat→Array Bool→Act→World→Prop
 | 0,listed,a,w=>Region.ready md ops listed=[]∧Q .normal a w
 | fuel+1,listed,a,w =>
  (Region.ready md ops listed=[]→Q .normal a w) ∧
  ∀ i ∈ Region.ready md ops listed,wpOp P ops Q i (fun a' w'=>(need i=true→S w')∧Dq P md ops Q S need fuel (listed.setIfInBounds i true) a' w') a w
theorem Iy:∀ (fuel:Nat) (listed:Array Bool) (a:Act) (w:World),Dq P md ops Q S need fuel listed a w→wpAny P md ops Q fuel listed a w
 | 0,_,_,_,h=>h
 | fuel+1,_,_,_,h=>⟨h.1,fun i hi=>wpOp_mono (fun a' w' h'=>Iy fuel _ a' w' h'.2) (h.2 i hi)⟩
def JZ (md:Region.Mode) (ops:Array Oper) (need:Nat→Bool) (i:Nat):Bool:=
 (List.range ops.size).all fun j=>need j || match ops[j]? with
  | some oj=>oj.after.any (fun e=>Region.binds md e && e.on == i)
  | none=>true
theorem Vk {i:Nat} (h:JZ md ops need i=true) (j:Nat) (oj:Oper) (hj:ops[j]?=some oj) (hno:∀ e ∈ oj.after,Region.binds md e=true→e.on ≠ i):need j=true:=by
 simp only [JZ,List.all_eq_true,List.mem_range] at h
 have h1:=h j (Array.getElem?_eq_some_iff.1 hj).1
 simp only [hj,Bool.or_eq_true] at h1
 rcases h1 with h1 | h1
 ·exact h1
 ·obtain ⟨e,he,hb⟩:=Array.any_eq_true'.1 h1
  simp only [Bool.and_eq_true,beq_iff_eq] at hb
  exact absurd hb.2 (hno e he hb.1)
theorem Sl {i:Nat} {oi:Oper} {v:Value} (hi:ops[i]?=some oi) (hsel:∀ (j:Nat) (o:Oper) cs b,ops[j]?=some o→o.op ≠ .select cs b)
  (hQ:∀ c a w,Q (.panic c) (a.put oi.dst v) w→Q (.panic c) a w) (hn:JZ md ops need i=true) :
  ∀ (fuel:Nat) (listed:Array Bool) (a:Act) (w:World),
   (∀ j oj,ops[j]?=some oj→j ≠ i→listed.getD j true=false→(∀ e ∈ oj.after,Region.binds md e=true→e.on ≠ i)→oi.apart ops oj=true) →
   i ∈ Region.ready md ops listed→YieldsIf P ops S oi v a→S w →
   Dq P md ops Q S need fuel (listed.setIfInBounds i true) (a.put oi.dst v) w→Dq P md ops Q S need (fuel+1) listed a w:=by
 intro fuel
 induction fuel with
 | zero =>
  intro listed a w _ hr hy hS H
  refine ⟨fun h=>(by rw [h] at hr;cases hr),fun j hj => ?_⟩
  by_cases hji:j=i
  ·subst hji;exact hy.wpOp hi hS ⟨fun _=>hS,H⟩
  ·have:=ready_mono hj hji
   rw [H.1] at this
   cases this
 | succ fuel ih =>
  intro listed a w hfree hr hy hS H
  refine ⟨fun h=>(by rw [h] at hr;cases hr),fun j hj => ?_⟩
  by_cases hji:j=i
  ·subst hji;exact hy.wpOp hi hS ⟨fun _=>hS,H⟩
  ·have h1:=H.2 j (ready_mono hj hji)
   obtain ⟨hjun,oj,hoj,hall⟩:=mem_ready.1 hj
   have hnot:∀ e ∈ oj.after,Region.binds md e=true→e.on ≠ i:=fun e he hb heq=>by
    have h1:=hall e he hb
    have h0:=(mem_ready.1 hr).1
    rw [heq] at h1
    rcases Nat.lt_or_ge i listed.size with h' | h'
    ·simp [h'] at h0 h1;rw [h0] at h1;cases h1
    ·simp [Array.getElem?_eq_none h'] at h1
   have vV:=Vk hn j oj hoj hnot
   have h2:=wpOp_putIf hoj (hfree j oj hoj hji hjun hnot) (fun cs b=>hsel i oi cs b hi) (fun cs b=>hsel j oj cs b hoj) hQ hy h1
   have hfree':∀ k ok,ops[k]?=some ok→k ≠ i→(listed.setIfInBounds j true).getD k true=false →
     (∀ e ∈ ok.after,Region.binds md e=true→e.on ≠ i)→oi.apart ops ok=true:=fun k ok hk hki hun hno=>by
    refine hfree k ok hk hki ?_ hno
    by_cases hjk:j=k
    ·subst hjk;exact hjun
    ·rw [getD_set_ne true hjk] at hun;exact hun
   refine wpOp_mono (fun a' w' h3=>⟨fun _=>h3.2.1 vV,ih (listed.setIfInBounds j true) a' w' hfree' (ready_mono hr (Ne.symm hji)) h3.1 (h3.2.1 vV) ?_⟩) h2
   rw [Array.setIfInBounds_comm _ _ hji]
   exact h3.2.2
theorem EX {i:Nat} {oi:Oper} (h:(ops.toList.drop i).head?=some oi):ops[i]?=some oi:=by
 rw [List.head?_drop] at h
 simpa using h
theorem Un {i:Nat} {oi:Oper} {v:Value} {fuel:Nat} {listed:Array Bool} {a:Act} {w:World} (hi:(ops.toList.drop i).head?=some oi)
  (hs:Region.noSelect ops=true) (hf:Region.free md ops listed i=true) (hr:(Region.ready md ops listed).contains i=true) (hn:JZ md ops need i=true)
  (hQ:∀ c a w,Q (.panic c) (a.put oi.dst v) w→Q (.panic c) a w) (hy:YieldsIf P ops S oi v a) (hS:S w)
  (h:Dq P md ops Q S need fuel (listed.setIfInBounds i true) (a.put oi.dst v) w):Dq P md ops Q S need (fuel+1) listed a w:=
 Sl (EX hi) (Region.noSelect_spec hs) hQ hn fuel listed a w (Region.free_spec (EX hi) hf) (by simpa using hr) hy hS h
theorem Dt {i:Nat} {oi:Oper} {v:Value} {fuel:Nat} {listed:Array Bool} {a:Act} {w:World} (hi:(ops.toList.drop i).head?=some oi)
  (hc:(Region.noSelect ops && Region.free md ops listed i && (Region.ready md ops listed).contains i && JZ md ops need i)=true)
  (hQ:∀ c a w,Q (.panic c) (a.put oi.dst v) w→Q (.panic c) a w) (hy:YieldsIf P ops S oi v a) (hS:S w)
  (h:Dq P md ops Q S need fuel (listed.setIfInBounds i true) (a.put oi.dst v) w):Dq P md ops Q S need (fuel+1) listed a w:=by
 simp only [Bool.and_eq_true] at hc
 exact Un hi hc.1.1.1 hc.1.1.2 hc.1.2 hc.2 hQ hy hS h
section
attribute [local go_sem ↓] Go.wp_at_zero Go.wp_at_succ
theorem tq (i:Nat) {oi:Oper} {v:Value} {fuel:Nat} {listed l2:Array Bool} {a a2:Act} {w:World}
  (hi:(ops.toList.drop i).head?=some oi:=by rfl)
  (hc:(Region.noSelect ops && Region.free md ops listed i && (Region.ready md ops listed).contains i && JZ md ops need i)=true:=by kernel_rfl)
  (hw:Region.wanted oi (yielded ops a.tmps)=true:=by rfl)
  (hy:∀ w,S w→(execOp a.eval oi).run P w = .ok (.value v) w:=by intro w hSw;(try dsimp only at hSw);go_simp;(try with_reducible rfl))
  (hQ:∀ c a w,Q (.panic c) (a.put oi.dst v) w→Q (.panic c) a w:=by exact fun _ _ _ h=>h)
  (hS:S w:=by assumption)
  (ha:a.put oi.dst v=a2:=by (try simp only [Act.put,GL,DL,lss]);exact rfl)
  (hl:listed.setIfInBounds i true=l2:=by (try simp only [GL,DL,lss]);exact rfl)
  (h:Dq P md ops Q S need fuel l2 a2 w):Dq P md ops Q S need (fuel+1) listed a w:=by
 subst ha hl
 exact Dt hi hc hQ (.inl ⟨hw,hy⟩) hS h
theorem tn (i:Nat) {oi:Oper} {v:Value} {fuel:Nat} {listed l2:Array Bool} {a a2:Act} {w:World}
  (hi:(ops.toList.drop i).head?=some oi:=by rfl)
  (hc:(Region.noSelect ops && Region.free md ops listed i && (Region.ready md ops listed).contains i && JZ md ops need i)=true:=by kernel_rfl)
  (hw:Region.wanted oi (yielded ops a.tmps)=true:=by rfl)
  (hy:∀ w,S w→(execOp a.eval oi).run P w = .ok (.value v) w:=by intro w hSw;(try dsimp only at hSw);go_simp;(try with_reducible rfl))
  (hQ:∀ c a w,Q (.panic c) (a.put oi.dst v) w→Q (.panic c) a w:=by exact fun _ _ _ h=>nomatch h.1)
  (hS:S w:=by assumption)
  (ha:a.put oi.dst v=a2:=by (try simp only [Act.put,GL,DL,lss]);exact rfl)
  (hl:listed.setIfInBounds i true=l2:=by (try simp only [GL,DL,lss]);exact rfl)
  (h:Dq P md ops Q S need fuel l2 a2 w):Dq P md ops Q S need (fuel+1) listed a w:=by
 subst ha hl
 exact Dt hi hc hQ (.inl ⟨hw,hy⟩) hS h
theorem tp (i:Nat) {oi:Oper} {v:Value} {fuel:Nat} {listed l2:Array Bool} {a a2:Act} {w:World}
  (hi:(ops.toList.drop i).head?=some oi:=by rfl)
  (hc:(Region.noSelect ops && Region.free md ops listed i && (Region.ready md ops listed).contains i && JZ md ops need i)=true:=by kernel_rfl)
  (hw:Region.wanted oi (yielded ops a.tmps)=true:=by rfl)
  (hy:∀ w,S w→(execOp a.eval oi).run P w = .ok (.value v) w:=by intro w hSw;(try dsimp only at hSw);go_simp;(try with_reducible rfl))
  (hQ:∀ c a w,Q (.panic c) (a.put oi.dst v) w→Q (.panic c) a w:=by exact fun _ _ _ h=>AQ (by decide) h)
  (hS:S w:=by assumption)
  (ha:a.put oi.dst v=a2:=by (try simp only [Act.put,GL,DL,lss]);exact rfl)
  (hl:listed.setIfInBounds i true=l2:=by (try simp only [GL,DL,lss]);exact rfl)
  (h:Dq P md ops Q S need fuel l2 a2 w):Dq P md ops Q S need (fuel+1) listed a w:=by
 subst ha hl
 exact Dt hi hc hQ (.inl ⟨hw,hy⟩) hS h
theorem tv (i:Nat) (v:Value) {oi:Oper} {fuel:Nat} {listed l2:Array Bool} {a a2:Act} {w:World}
  (hi:(ops.toList.drop i).head?=some oi:=by rfl)
  (hc:(Region.noSelect ops && Region.free md ops listed i && (Region.ready md ops listed).contains i && JZ md ops need i)=true:=by kernel_rfl)
  (hw:Region.wanted oi (yielded ops a.tmps)=true:=by rfl)
  (hy:∀ w,S w→(execOp a.eval oi).run P w = .ok (.value v) w)
  (hQ:∀ c a w,Q (.panic c) (a.put oi.dst v) w→Q (.panic c) a w:=by exact fun _ _ _ h=>h)
  (hS:S w:=by assumption)
  (ha:a.put oi.dst v=a2:=by (try simp only [Act.put,GL,DL,lss]);exact rfl)
  (hl:listed.setIfInBounds i true=l2:=by (try simp only [GL,DL,lss]);exact rfl)
  (h:Dq P md ops Q S need fuel l2 a2 w):Dq P md ops Q S need (fuel+1) listed a w:=by
 subst ha hl
 exact Dt hi hc hQ (.inl ⟨hw,hy⟩) hS h
theorem tw (i:Nat) (v:Value) {oi:Oper} {fuel:Nat} {listed l2:Array Bool} {a a2:Act} {w:World}
  (hi:(ops.toList.drop i).head?=some oi:=by rfl)
  (hc:(Region.noSelect ops && Region.free md ops listed i && (Region.ready md ops listed).contains i && JZ md ops need i)=true:=by kernel_rfl)
  (hw:Region.wanted oi (yielded ops a.tmps)=true:=by rfl)
  (hy:∀ w,S w→(execOp a.eval oi).run P w = .ok (.value v) w:=by intro w hSw;(try dsimp only at hSw);go_simp;all_goals omega)
  (hQ:∀ c a w,Q (.panic c) (a.put oi.dst v) w→Q (.panic c) a w:=by exact fun _ _ _ h=>h)
  (hS:S w:=by assumption)
  (ha:a.put oi.dst v=a2:=by (try simp only [Act.put,GL,DL,lss]);exact rfl)
  (hl:listed.setIfInBounds i true=l2:=by (try simp only [GL,DL,lss]);exact rfl)
  (h:Dq P md ops Q S need fuel l2 a2 w):Dq P md ops Q S need (fuel+1) listed a w:=by
 subst ha hl
 exact Dt hi hc hQ (.inl ⟨hw,hy⟩) hS h
theorem tg (i:Nat) (v:Value) {oi:Oper} {fuel:Nat} {listed l2:Array Bool} {a a2:Act} {w:World}
  (hi:(ops.toList.drop i).head?=some oi:=by rfl)
  (hc:(Region.noSelect ops && Region.free md ops listed i && (Region.ready md ops listed).contains i && JZ md ops need i)=true:=by kernel_rfl)
  (hw:Region.wanted oi (yielded ops a.tmps)=true:=by rfl)
  (hy:∀ w,S w→(execOp a.eval oi).run P w = .ok (.value v) w:=by intro w hSw;(try dsimp only at hSw);go_simp)
  (hQ:∀ c a w,Q (.panic c) (a.put oi.dst v) w→Q (.panic c) a w:=by exact fun _ _ _ h=>h)
  (hS:S w:=by assumption)
  (ha:a.put oi.dst v=a2:=by (try simp only [Act.put,GL,DL,lss]);exact rfl)
  (hl:listed.setIfInBounds i true=l2:=by (try simp only [GL,DL,lss]);exact rfl)
  (h:Dq P md ops Q S need fuel l2 a2 w):Dq P md ops Q S need (fuel+1) listed a w:=by
 subst ha hl
 exact Dt hi hc hQ (.inl ⟨hw,hy⟩) hS h
theorem ts (i:Nat) {oi:Oper} {fuel:Nat} {listed l2:Array Bool} {a a2:Act} {w:World}
  (hi:(ops.toList.drop i).head?=some oi:=by rfl)
  (hc:(Region.noSelect ops && Region.free md ops listed i && (Region.ready md ops listed).contains i && JZ md ops need i)=true:=by kernel_rfl)
  (hw:Region.wanted oi (yielded ops a.tmps)=false:=by rfl)
  (hQ:∀ c a w,Q (.panic c) (a.put oi.dst undef) w→Q (.panic c) a w:=by exact fun _ _ _ h=>h)
  (hS:S w:=by assumption)
  (ha:a.put oi.dst undef=a2:=by (try simp only [Act.put,GL,DL,lss]);exact rfl)
  (hl:listed.setIfInBounds i true=l2:=by (try simp only [GL,DL,lss]);exact rfl)
  (h:Dq P md ops Q S need fuel l2 a2 w):Dq P md ops Q S need (fuel+1) listed a w:=by
 subst ha hl
 exact Dt hi hc hQ (.inr ⟨hw,rfl⟩) hS h
theorem tM (i:Nat) {oi:Oper} {fuel:Nat} {listed l2:Array Bool} {a a2:Act} {w:World}
  (hi:(ops.toList.drop i).head?=some oi:=by rfl)
  (hc:(Region.noSelect ops && Region.free md ops listed i && (Region.ready md ops listed).contains i && JZ md ops need i)=true:=by kernel_rfl)
  (hw:Region.wanted oi (yielded ops a.tmps)=false:=by rfl)
  (hQ:∀ c a w,Q (.panic c) (a.put oi.dst undef) w→Q (.panic c) a w:=by exact fun _ _ _ h=>nomatch h.1)
  (hS:S w:=by assumption)
  (ha:a.put oi.dst undef=a2:=by (try simp only [Act.put,GL,DL,lss]);exact rfl)
  (hl:listed.setIfInBounds i true=l2:=by (try simp only [GL,DL,lss]);exact rfl)
  (h:Dq P md ops Q S need fuel l2 a2 w):Dq P md ops Q S need (fuel+1) listed a w:=by
 subst ha hl
 exact Dt hi hc hQ (.inr ⟨hw,rfl⟩) hS h
theorem tL (i:Nat) {oi:Oper} {fuel:Nat} {listed l2:Array Bool} {a a2:Act} {w:World}
  (hi:(ops.toList.drop i).head?=some oi:=by rfl)
  (hc:(Region.noSelect ops && Region.free md ops listed i && (Region.ready md ops listed).contains i && JZ md ops need i)=true:=by kernel_rfl)
  (hw:Region.wanted oi (yielded ops a.tmps)=false:=by rfl)
  (hQ:∀ c a w,Q (.panic c) (a.put oi.dst undef) w→Q (.panic c) a w:=by exact fun _ _ _ h=>AQ (by decide) h)
  (hS:S w:=by assumption)
  (ha:a.put oi.dst undef=a2:=by (try simp only [Act.put,GL,DL,lss]);exact rfl)
  (hl:listed.setIfInBounds i true=l2:=by (try simp only [GL,DL,lss]);exact rfl)
  (h:Dq P md ops Q S need fuel l2 a2 w):Dq P md ops Q S need (fuel+1) listed a w:=by
 subst ha hl
 exact Dt hi hc hQ (.inr ⟨hw,rfl⟩) hS h
end
theorem Ac {i:Nat} {oi:Oper} {fuel:Nat} {listed:Array Bool} {a:Act} {w:World} (hi:(ops.toList.drop i).head?=some oi) (hr:Region.ready md ops listed=[i])
  (h:wpList P ops (Exit.then (fun a' w'=>(need i=true→S w')∧Dq P md ops Q S need fuel (listed.setIfInBounds i true) a' w') Q) [oi] a w):Dq P md ops Q S need (fuel+1) listed a w:=by
 replace hi:=EX hi
 refine ⟨fun h0=>(by rw [hr] at h0;cases h0),fun j hj => ?_⟩
 rw [hr] at hj
 simp only [List.mem_singleton] at hj
 subst hj
 unfold wpOp
 simp only [hi]
 unfold wpList at h
 split
 ·rename_i hw
  rw [if_pos hw] at h
  rcases h with h | ⟨ha,a',w',hQ⟩
  ·left
   have hpost:∀ (e:Exit) (a:Act) (w:World),e ≠ .normal→Exit.then (fun a' w'=>(need j=true→S w')∧Dq P md ops Q S need fuel (listed.setIfInBounds j true) a' w') Q e a w→Q e a w:=by
    intro e a w hne h;cases e <;> first | exact absurd rfl hne | exact h
   unfold Oper.wp at *
   generalize (execOp a.eval oi).run P w=r at *
   cases r with
   | ok n w' =>
    cases n <;> simp only [Oper.upon] at h ⊢
    case value u=>exact h
    case skip=>exact h
    case defer d=>exact h
    case enter f args =>
     refine Calls.mono h fun e w'' he => ?_
     cases e with
     | returned u=>exact he
     | panicked c=>exact he
     | outgrown=>obtain ⟨a1,w1,h1⟩:=he;exact ⟨a1,w1,h1⟩
    case row row args=>exact Rows.mono h fun u w'' he=>he
   | halt x w' =>
    cases x <;> simp only [Oper.upon] at h ⊢
    case panic u=>exact h
  ·exact .inr ⟨ha,a',w',hQ⟩
 ·rename_i hw
  rw [if_neg hw] at h
  exact h
theorem tO (i:Nat) {oi:Oper} {fuel:Nat} {listed:Array Bool} {a:Act} {w:World} (hi:(ops.toList.drop i).head?=some oi:=by rfl) (hr:Region.ready md ops listed=[i]:=by kernel_rfl)
  (h:wpList P ops (Exit.then (fun a' w'=>(need i=true→S w')∧Dq P md ops Q S need fuel (listed.setIfInBounds i true) a' w') Q) [oi] a w):Dq P md ops Q S need (fuel+1) listed a w:=Ac hi hr h
theorem Ae {listed:Array Bool} {a:Act} {w:World} (hr:Region.ready md ops listed=[]) (h:Q .normal a w):∀ fuel,Dq P md ops Q S need fuel listed a w
 | 0=>⟨hr,h⟩
 | _+1=>⟨fun _=>h,by rw [hr];simp⟩
theorem tD {fuel:Nat} {listed:Array Bool} {a:Act} {w:World} (hr:Region.ready md ops listed=[]:=by kernel_rfl) (h:Q .normal a w):Dq P md ops Q S need fuel listed a w:=Ae hr h fuel
theorem Aa {id:Nat} {a:Act} {w:World} (S:World→Prop) (need:Nat→Bool) (hm:P.follows .mixedOrders=true) (hS:S w.drew)
  (h:S w.drew→Dq P .any ops Q S need ops.size (Array.replicate ops.size false) a w.drew):(Code.region id ops true).wp P Q a w:=
 wp_region_any hm (Iy _ _ _ _ (h hS))
theorem Ws {op:Oper} {v:Value} {a:Act} (hg:op.guard=none) (h:∀ w,S w→(execOp a.eval op).run P w = .ok (.value v) w):YieldsIf P ops S op v a:=
 .inl ⟨by simp [Region.wanted,hg],h⟩
theorem BV {rest:List Oper} {op:Oper} {a:Act} {w w':World} {v:Value} (hg:op.guard=none) (hr:(execOp a.eval op).run P w = .ok (.value v) w')
  (h:wpList P ops Q rest (a.put op.dst v) w'):wpList P ops Q (op :: rest) a w:=
 wpList_plain hg fun _ hK=>by unfold Oper.wp;rw [hr];exact hK _ _ h
end
section
variable {P:Program} {a:Act} {op:Oper} {w w':World}
theorem Xn (t:TypeId) (parts:Array (Nat × Operand)) (ho:op.op = .build t parts) (vs:Array (Nat × Value)) (hv:(parts.toList.map fun x=>(x.1,a.eval x.2))=vs.toList) {v:Value}
  (h:(Instr.build t vs).run P w = .ok v w'):(execOp a.eval op).run P w = .ok (.value v) w':=by
 have hv':(parts.map fun x=>(x.1,a.eval x.2))=vs:=by apply Array.toList_inj.1;rw [←hv];simp
 subst hv'
 unfold execOp
 simp only [ho,Sem.run_bind,h,Result.andThen_ok,Sem.run_pure]
theorem JE (t n:Nat) (parts:Array (Nat × Operand)) (ho:op.op = .buildSlice t n parts) (vs:Array (Nat × Value)) (hv:(parts.toList.map fun x=>(x.1,a.eval x.2))=vs.toList) {v:Value}
  (h:(Instr.buildSlice t n vs).run P w = .ok v w'):(execOp a.eval op).run P w = .ok (.value v) w':=by
 have hv':(parts.map fun x=>(x.1,a.eval x.2))=vs:=by apply Array.toList_inj.1;rw [←hv];simp
 subst hv'
 unfold execOp
 simp only [ho,Sem.run_bind,h,Result.andThen_ok,Sem.run_pure]
theorem IV (t:TypeId) (x:Operand) (ho:op.op = .load t x) (b o:Nat) (hx:a.eval x = .pointer (some ⟨b,o,none⟩)) {v:Value} (h:(loadVar t ⟨b,o,none⟩).run P w = .ok v w'):(execOp a.eval op).run P w = .ok (.value v) w':=by
 unfold execOp
 simp only [ho,hx,Instr.loadAt,Instr.sureAddr,Sem.run_bind,h,Result.andThen_ok,Sem.run_pure]
theorem Jo (t:TypeId) (ho:op.op = .alloc t) {v:Value} (h:(Instr.alloc t true (.tuple #[])).run P w = .ok v w'):(execOp a.eval op).run P w = .ok (.value v) w':=by
 unfold execOp
 simp only [ho,Sem.run_bind,h,Result.andThen_ok,Sem.run_pure]
theorem Za (d s:Operand) (dT sT:TypeId) (ho:op.op = .call { callee := .builtin .copy,args := #[d,s],argTypes := #[dT,sT] }) {v:Value}
  (h:(Builtin.copy_ #[dT,sT] op.type #[a.eval d,a.eval s]).run P w = .ok v w'):(execOp a.eval op).run P w = .ok (.value v) w':=by
 unfold execOp
 simp only [ho,resolve,invoke,builtin,Sem.run_bind,Sem.run_pure,Result.andThen_ok,List.map_toArray,List.map_cons,List.map_nil,h]
theorem VN (d s:Operand) (dT sT:TypeId) (ho:op.op = .call { callee := .builtin .append,args := #[d,s],argTypes := #[dT,sT] }) {v:Value}
  (h:(Builtin.append_ #[dT,sT] op.type #[a.eval d,a.eval s]).run P w = .ok v w'):(execOp a.eval op).run P w = .ok (.value v) w':=by
 unfold execOp
 simp only [ho,resolve,invoke,builtin,Sem.run_bind,Sem.run_pure,Result.andThen_ok,List.map_toArray,List.map_cons,List.map_nil,h]
end
section
variable {P:Program} {ops:Array Oper} {Q:Exit→Act→World→Prop} {rest:List Oper} {a:Act} {w w':World} {d:Option Tmp} {ty:TypeId} {ps:String} {af:Array Edge} {v:Value}
theorem Bl {x y:Operand} {t u:TypeId} (hr:(Builtin.append_ #[t,u] ty #[a.eval x,a.eval y]).run P w = .ok v w') (h:wpList P ops Q rest (a.put d v) w') :
  wpList P ops Q ({ dst:=d,op := .call { callee := .builtin .append,args := #[x,y],argTypes := #[t,u] },type:=ty,pos:=ps,after:=af,guard:=none } :: rest) a w:=
 BV rfl (by unfold execOp;simp only [resolve,invoke,builtin,Sem.run_bind,Sem.run_pure,Result.andThen_ok,List.map_toArray,List.map_cons,List.map_nil,hr]) h
theorem Vo {x y:Operand} {t u:TypeId} (hr:(Builtin.copy_ #[t,u] ty #[a.eval x,a.eval y]).run P w = .ok v w') (h:wpList P ops Q rest (a.put d v) w') :
  wpList P ops Q ({ dst:=d,op := .call { callee := .builtin .copy,args := #[x,y],argTypes := #[t,u] },type:=ty,pos:=ps,after:=af,guard:=none } :: rest) a w:=
 BV rfl (by unfold execOp;simp only [resolve,invoke,builtin,Sem.run_bind,Sem.run_pure,Result.andThen_ok,List.map_toArray,List.map_cons,List.map_nil,hr]) h
theorem Bo {x:Operand} {t:TypeId} (hr:(Instr.loadAt t (a.eval x)).run P w = .ok v w') (h:wpList P ops Q rest (a.put d v) w') :
  wpList P ops Q ({ dst:=d,op := .load t x,type:=ty,pos:=ps,after:=af,guard:=none } :: rest) a w:=
 BV rfl (by unfold execOp;simp only [Sem.run_bind,Sem.run_pure,Result.andThen_ok,hr]) h
theorem AU {t:TypeId} (hr:(Instr.alloc t true (.tuple #[])).run P w = .ok v w') (h:wpList P ops Q rest (a.put d v) w') :
  wpList P ops Q ({ dst:=d,op := .alloc t,type:=ty,pos:=ps,after:=af,guard:=none } :: rest) a w:=
 BV rfl (by unfold execOp;simp only [Sem.run_bind,Sem.run_pure,Result.andThen_ok,hr]) h
theorem BM {x:Operand} {t:TypeId} (hr:(Instr.box t (a.eval x)).run P w = .ok v w') (h:wpList P ops Q rest (a.put d v) w') :
  wpList P ops Q ({ dst:=d,op := .box t x,type:=ty,pos:=ps,after:=af,guard:=none } :: rest) a w:=
 BV rfl (by unfold execOp;simp only [Sem.run_bind,Sem.run_pure,Result.andThen_ok,hr]) h
theorem IC {x y:Operand} {t:TypeId} (hr:(Instr.makeSlice t (a.eval x) (a.eval y)).run P w = .ok v w') (h:wpList P ops Q rest (a.put d v) w') :
  wpList P ops Q ({ dst:=d,op := .makeSlice t x y,type:=ty,pos:=ps,after:=af,guard:=none } :: rest) a w:=
 BV rfl (by unfold execOp;simp only [Sem.run_bind,Sem.run_pure,Result.andThen_ok,hr]) h
theorem FM {x:Operand} {t:TypeId} {lo hi mx:Option Operand} (hr:(Instr.sliceAt t (a.eval x) (lo.map a.eval) (hi.map a.eval) (mx.map a.eval)).run P w = .ok v w') (h:wpList P ops Q rest (a.put d v) w') :
  wpList P ops Q ({ dst:=d,op := .slice t x lo hi mx,type:=ty,pos:=ps,after:=af,guard:=none } :: rest) a w:=
 BV rfl (by unfold execOp;simp only [Sem.run_bind,Sem.run_pure,Result.andThen_ok,hr]) h
theorem AC {x y:Operand} {t:TypeId} (hr:(Instr.storeAt t (a.eval x) (a.eval y)).run P w = .ok () w') (h:wpList P ops Q rest (a.put d undef) w') :
  wpList P ops Q ({ dst:=d,op := .store t x y,type:=ty,pos:=ps,after:=af,guard:=none } :: rest) a w:=
 wpList_plain rfl fun _ hK=>by
  unfold Oper.wp execOp
  simp only [Sem.run_bind,hr,Result.andThen_ok,Sem.run_pure]
  exact hK _ _ h
theorem BO {parts:Array (Nat × Operand)} {t n:Nat} (vs:Array (Nat × Value)) (hv:(parts.toList.map fun x=>(x.1,a.eval x.2))=vs.toList) (hr:(Instr.buildSlice t n vs).run P w = .ok v w') (h:wpList P ops Q rest (a.put d v) w') :
  wpList P ops Q ({ dst:=d,op := .buildSlice t n parts,type:=ty,pos:=ps,after:=af,guard:=none } :: rest) a w:=
 BV rfl (JE t n parts rfl vs hv hr) h
end
def FQ:List Value:=List.replicate 512 (.int .u8 0)
def EM:List Value := .int .i64 0 :: FQ
theorem FY:FQ.length=512:=List.length_replicate ..
theorem Dp:EM.length=513:=by rw [EM,List.length_cons,FY]
theorem fP:(prog.info? 218).map (fun i=>(i.zero.map (fun z=>z.cells.toList),i.size,i.bytes))=some (some FQ,512,512):=by kernel_rfl
theorem fO:(prog.info? 220).map (fun i=>(i.zero.map (fun z=>z.cells.toList),i.size,i.bytes))=some (some EM,513,520):=by kernel_rfl
theorem Uh:FQ=bvs Af.blank:=by
 unfold FQ bvs Af.blank
 rw [List.map_replicate];rfl
theorem VY (n:Nat):(List.replicate n FQ).flatten=bvs (List.replicate n Af.blank).flatten:=by
 rw [Uh]
 generalize Af.blank=b
 induction n with
 | zero=>rfl
 | succ n ih=>rw [List.replicate_succ,List.replicate_succ,List.flatten_cons,List.flatten_cons,Jv,ih]
theorem MV:Af.blank.length=512:=List.length_replicate ..
theorem fF (w:World) (o:Own) (D n:Nat) (h1:1 ≤ n) (h2:n ≤ 4096) :
  Bg ((w.alloc (.cells (List.replicate n FQ).flatten.toArray 218)).alloc (.cells #[.slice (some ⟨w.heap.size,0,none⟩) n n, .slice none 0 0, .int .i64 (-1), .bool false] 130))
   (Ak (Ak o w.heap.size (D,1)) (w.heap.size+1) (D,0)) D (w.heap.size+1) (Af.new n):=by
 refine ⟨w.heap.size, .slice none 0 0, ?_, ?_, ?_,by simp, ?_, ?_, ?_⟩
 ·rw [heap_alloc2_new];simp [Af.new]
 ·rw [heap_alloc2_old,VY];rfl
 ·exact World.ownsRow_nil _ _ _ _
 ·rw [BI _ _ (by omega)];simp
 ·intro k hk;simp [Value.ownBlock] at hk
 ·refine ⟨by simpa [Af.new] using h1,by simpa [Af.new] using h2, ?_,by simp [Af.new],by simp [Af.new],by simp [Af.new]⟩
  intro p hp
  simp only [Af.new] at hp
  rw [List.eq_of_mem_replicate hp];exact MV
theorem TB (n:Nat) (w:World) (o:Own) (D:Nat) (h1:1 ≤ n) (h2:n ≤ 4096) :
  Calls prog 41 #[.int .i64 (n:Int)] w (XL Nobody w o fun v w' o'=>∃ p,w.heap.size ≤ p∧v = .tuple #[.pointer (some ⟨p,0,none⟩), .int .i64 0]∧Bg w' o' D p (Af.new n)):=by
 have hmk:=Gy (P:=prog) w 127 218 _ 512 512 underlying127 fP FY n (by omega) (by omega) .i64 .i64
 have hs:Step Nobody w o _ _:=((Step.refl Nobody w o).alloc (.cells (List.replicate n FQ).flatten.toArray 218) (D,1)).alloc (.cells #[.slice (some ⟨w.heap.size,0,none⟩) n n, .slice none 0 0, .int .i64 (-1), .bool false] 130) (D,0)
 have hd:=fF w o D n h1 h2
 generalize (List.replicate n FQ).flatten=cs at *
 go_enter func41,ntmps41
 go_wp2
 go_ret2
 exact ⟨_,Ak (Ak o w.heap.size (D,1)) (w.heap.size+1) (D,0),rfl,by simpa using hs,w.heap.size+1,by omega,rfl,hd⟩
theorem iT:((prog.info? 220).bind (·.zero)).map (fun z=>z.cells.toList)=some EM:=by kernel_rfl
theorem s3:(prog.info? 3).map (·.size)=some 1:=by kernel_rfl
theorem ZT:(prog.info? 218).map (·.size)=some 512:=by kernel_rfl
theorem gG:(prog.info? 220).map (fun i=>(i.zero.map (fun z=>z.cells.toList),i.size))=some (some EM,513):=by kernel_rfl
theorem bM (w:World) (n:Int) (l:List UInt8) (hl:l.length=512) :
  (Instr.build 220 #[(0, .int .i64 n),(1, .agg (bvs l).toArray)]).run prog w = .ok (.agg (Value.int .i64 n :: bvs l).toArray) w:=by
 have h1:(prog.info? 218).map (·.size)=some (bvs l).length:=by rw [Bh,hl];exact ZT
 have h2:EM.length=[Value.int .i64 n].length+(bvs l).length:=by rw [Bh,hl,Dp];rfl
 have:=QG w 220 _ _ EM (.int .i64 n) (.agg (bvs l).toArray) [.int .i64 n] (bvs l) underlying220 iT rfl rfl s3 h1 h2 rfl rfl
 rw [List.singleton_append] at this
 exact this
theorem QW (w:World) (n:Int) (l:List UInt8) (hl:l.length=512) :
  (Instr.buildSlice 128 1 #[(0, .agg (Value.int .i64 n :: bvs l).toArray)]).run prog w = .ok (.slice (some ⟨w.heap.size,0,none⟩) 1 1) (w.alloc (.cells (Value.int .i64 n :: bvs l).toArray 220)):=by
 have hc:(Value.int .i64 n :: bvs l).length=513:=by rw [List.length_cons,Bh,hl]
 have hz:(prog.info? 220).map (fun i=>(i.zero.map (fun z=>z.cells.toList),i.size))=some (some EM,(Value.int .i64 n :: bvs l).length):=by rw [hc];exact gG
 have hz2:EM.length=(Value.int .i64 n :: bvs l).length:=by rw [hc,Dp]
 exact Dv w 128 220 EM (.agg (Value.int .i64 n :: bvs l).toArray) (Value.int .i64 n :: bvs l) underlying128 hz hz2 (by omega) (by omega) rfl
theorem Zy (w:World) (a:Addr) (n c:Nat) (h:n=512):(Instr.arrayAt 218 (.slice (some a) n c)).run prog w = .ok (.pointer (some a)) w:=by
 subst h
 simp [Instr.arrayAt,run_underlying underlying218]
theorem Bg.pushed {w':World} {o':Own} {D p:Nat} {d:Af} {bl g cap:Nat} {rv:Value} {at':Nat} {l:List UInt8} (hwf:d.wf) (ha:at'<d.pages.length) (hl:l.length=512)
  (hp:w'.heap[p]?=some (.cells #[.slice (some ⟨bl,0,none⟩) d.pages.length d.pages.length,rv, .int .i64 d.left, .bool d.dead] 130 (0,0)))
  (hbl:w'.heap[bl]?=some (.cells (bvs d.pages.flatten).toArray 218 (0,0)))
  (hown:w'.ownsRow 0 220 513 (.slice (some ⟨g,0,none⟩) (d.row.length+1) cap) (d.row.length+1) (Ei d.row++(.int .i64 (at':Int) :: bvs l)))
  (op:o' p=(D,0)) (ol:o' bl=(D,1)) (og:o' g=(D,2)) :
  Bg (w'.setCell ⟨p,1,none⟩ (.slice (some ⟨g,0,none⟩) (d.row.length+1) cap)) o' D p { d with row:=d.row++[(at',l)] }:=by
 refine ⟨bl, .slice (some ⟨g,0,none⟩) (d.row.length+1) cap,Ai _ hp, ?_, ?_,op,ol, ?_, ?_⟩
 ·rw [Below.heap_setCell _ _ _ _ (by rintro rfl;rw [op] at ol;simp at ol)];exact hbl
 ·have:(d.row++[(at',l)]).length=d.row.length+1:=by simp
  rw [this,QH]
  refine Ci hown fun k hk=>Below.heap_setCell _ _ _ _ ?_
  simp only [Value.ownBlock,Option.some.injEq] at hk
  subst hk
  rintro rfl;rw [op] at og;simp at og
 ·intro k hk
  simp only [Value.ownBlock,Option.some.injEq] at hk
  subst hk;exact og
 ·obtain ⟨h1,h2,h3,h4,h5,h6⟩:=hwf
  refine ⟨h1,h2,h3, ?_,h5,h6⟩
  intro x hx
  rcases List.mem_append.1 hx with hx | hx
  ·exact h4 x hx
  ·simp only [List.mem_singleton] at hx;subst hx;exact ⟨ha,hl⟩
theorem Kz {w:World} {o:Own} {D p:Nat} {d:Af} (h:Bg w o D p d) (at' n e:Int) (he:Hid (d.asked at' n=e)) :
  Calls prog 228 #[.pointer (some ⟨p,0,none⟩), .int .i64 at', .int .i64 n] w fun r w'=>r = .returned (.int .i64 e)∧w=w':=by
 rw [←he.out];exact Zg h at' n
theorem Js {w:World} {o:Own} {D p:Nat} {d d1:Af} {e1:Int} (h:Bg w o D p d) (n:Int) (he:Hid (d.counted n=(d1,e1))) :
  Calls prog 256 #[.pointer (some ⟨p,0,none⟩), .int .i64 n] w (XL (Only D) w o fun v w' o'=>v = .int .i64 e1∧Bg w' o' D p d1):=by
 have:=VS h n
 rw [he.out] at this;exact this
theorem Zr {w:World} {o:Own} {D p:Nat} {d:Af} (h:Bg w o D p d) (at':Int) (v:Value) (l:List UInt8) (hb:Bytes w o v l) (hc:(d.counted (d.asked at' l.length)).2 ≠ 0) :
  Calls prog 237 #[.pointer (some ⟨p,0,none⟩), .int .i64 at',v] w (XL (Only D) w o fun v w' o'=>v = .int .i64 (d.write at' l).2∧Bg w' o' D p (d.write at' l).1):=by
 have hE:d.write at' l=d.counted (d.asked at' l.length):=by simp [Af.write,hc]
 rw [hE]
 obtain ⟨e,he⟩:∃ e,Hid (d.asked at' l.length=e):=⟨_,rfl⟩
 rw [he.out] at hc ⊢
 obtain ⟨d1,e1,hd⟩:∃ d1 e1,Hid (d.counted e=(d1,e1)):=⟨_,_,rfl⟩
 rw [hd.out] at hc ⊢
 have hc':(e1 != 0)=true:=by simpa using hc
 clear hc hE
 rcases hb.cases with ⟨⟨sa,sc,rfl⟩,rfl⟩ | ⟨b,off,cap,rfl,hl,hm,ho,hbs,hr⟩
 all_goals clear hb
 all_goals
  go_enter func237,ntmps237
  go_wp2_with (first | (go_at_call 228;refine (Kz h _ _ _ he).mono ?_;rintro e w' ⟨rfl,rfl⟩) | (go_at_call 256;refine (Js h _ hd).mono ?_;rintro e w' ⟨v1,o1,rfl,hs1,rfl,hd1⟩))
  go_ret
  exact ⟨_,o1,rfl,hs1,rfl,hd1⟩
theorem Yb {w:World} {o:Own} {D p:Nat} {d:Af} (h:Bg w o D p d) (hD:D ≠ 0) (at':Int) (v:Value) (l:List UInt8) (hb:Bytes w o v l) (hrow:d.row.length ≤ 1000000) (hc:(d.counted (d.asked at' l.length)).2=0) :
  Calls prog 237 #[.pointer (some ⟨p,0,none⟩), .int .i64 at',v] w (XL (Only D) w o fun v w' o'=>v = .int .i64 (d.write at' l).2∧Bg w' o' D p (d.write at' l).1):=by
 have hE:d.write at' l=({ (d.counted (d.asked at' l.length)).1 with row:=(d.counted (d.asked at' l.length)).1.row++[(at'.toNat,l)] },0):=by simp [Af.write,hc]
 rw [hE]
 have ha:d.asked at' l.length=0:=by
  unfold Af.counted at hc
  split at hc
  ·exact hc
  ·rename_i hx;simp only [not_or,ne_eq,Decidable.not_not] at hx;exact hx.1
 have hal:0 ≤ at'∧at'<d.pages.length∧l.length=512:=by
  unfold Af.asked at ha
  split at ha
  ·cases ha
  ·split at ha
   ·cases ha
   ·rename_i hx;omega
 obtain ⟨a0,a1,uC⟩:=hal
 obtain ⟨hpg,hrw⟩:=Af.Hg d (d.asked at' l.length)
 obtain ⟨e,he⟩:∃ e,Hid (d.asked at' l.length=e):=⟨_,rfl⟩
 rw [he.out] at hc hpg hrw ⊢
 obtain ⟨d1,e1,hd⟩:∃ d1 e1,Hid (d.counted e=(d1,e1)):=⟨_,_,rfl⟩
 rw [hd.out] at hc hpg hrw ⊢
 simp only at hc hpg hrw ⊢
 subst hc
 clear hE ha
 rcases hb.cases with ⟨⟨sa,sc,rfl⟩,rfl⟩ | ⟨b,off,cap,rfl,hl,hm,ho,hbs,hr⟩
 ·simp at uC
 obtain ⟨n,rfl⟩:=Int.eq_ofNat_of_zero_le a0
 have ha1:n<d1.pages.length:=by rw [hpg];omega
 have hrow1:d1.row.length ≤ 1000000:=by rw [hrw];exact hrow
 have HL:=hidden uC
 clear uC hpg hrw a1 hrow
 have hbd:=fun w n=>bM w n l HL.out
 have AbP:=fun w n=>QW w n l HL.out
 have hta:=fun w=>Zy w ⟨b,off,none⟩ l.length cap HL.out
 go_enter func237,ntmps237
 go_wp2_with (first | (go_at_call 228;refine (Kz h _ _ _ he).mono ?_;rintro e w' ⟨rfl,rfl⟩) | (go_at_call 256;refine (Js h _ hd).mono ?_;rintro e w1 ⟨v1,o1,rfl,hs1,rfl,hd1⟩))
 have AaX:=hd1.wf
 obtain ⟨bl,rv,⟨c0,c1,c2,c3⟩,⟨f1,f2,f3⟩,hbl,hown,op,ol,wI⟩:=hd1.open
 have hr1:w1.rangeAt b off (bvs l):=Cf hr (hs1.block b hbs (by rw [ho];exact fun h=>hD h.symm))
 refine Aa (fun w'=>w'.cell? ⟨p,1,none⟩=some rv∧w'.rangeAt b off (bvs l)) (fun i=>decide (i<12)) (by kernel_rfl) ⟨c1,hr1⟩ (fun hHeld => ?_)
 refine tq 0 (h:=tq 1 (h:=tq 2 (h:=tq 3 (h:=tq 4 (h:=tq 5 (h:=tq 6 (h:=tq 7 (h:=?_))))))))
 have vX:(prog.info? 218).map (·.size)=some (bvs l).length:=by rw [Bh,HL.out];exact ZT
 refine Dt (i:=8) (v:=_) rfl (by kernel_rfl) (fun _ _ _ h=>h) (yieldsIf_load_mid (by rfl) 218 (.tmp 25) rfl b off rfl (bvs l) _ (fun w h=>h.2) underlying218 rfl vX) (by assumption) ?_
 clear vX
 simp only [Act.put,GL,DL,lss]
 refine Dt (i:=9) (v:=_) rfl (by kernel_rfl) (fun _ _ _ h=>h) (Ws rfl fun w _=>Xn 220 #[(0, .tmp 23),(1, .tmp 26)] rfl #[(0, .int .i64 n),(1, .agg (bvs l).toArray)] rfl (hbd w n)) (by assumption) ?_
 simp only [Act.put,GL,DL,lss]
 refine tO 10 (h:=?_)
 refine BV rfl (JE 128 1 #[(0, .tmp 27)] rfl #[(0, .agg (Value.int .i64 n :: bvs l).toArray)] rfl (AbP _ n)) ?_
 refine wpList_nil ?_
 simp only [Act.put,GL,DL,lss]
 refine ⟨fun _=>⟨by rw [World.cell?_alloc_lt _ _ _ (by simpa using hd1.lt)];exact c1,World.rangeAt_alloc hr1 _⟩, ?_⟩
 have hpl:=hd1.lt
 have hW:Step (Only D) w o (w1.drew.alloc (.cells (Value.int .i64 (n:Int) :: bvs l).toArray 220)) o1:=(hs1.drew).alloc' _
 have hnb:(w1.drew.alloc (.cells (Value.int .i64 (n:Int) :: bvs l).toArray 220)).heap[w1.heap.size]?=some (.cells (Value.int .i64 (n:Int) :: bvs l).toArray 220 (0,0)):=heap_alloc_new w1.drew _
 have hold:∀ k,k<w1.heap.size→(w1.drew.alloc (.cells (Value.int .i64 (n:Int) :: bvs l).toArray 220)).heap[k]?=w1.heap[k]?:=fun k hk=>Below.heap_alloc w1.drew _ k hk
 have hownW:=Ci hown (fun k hk=>hold k (hown.lt k hk).2)
 generalize hWe:(w1.drew.alloc (.cells (Value.int .i64 (n:Int) :: bvs l).toArray 220))=W at *
 have hWs:W.heap.size=w1.heap.size+1:=by rw [←hWe];simp
 obtain ⟨g,cap',w3,hrun,hown3,hgrow,hat,hlt⟩:=DD (P:=prog) W 128 128 220 underlying128 fO Dp (by omega) (Nat.zero_le _) rv d1.row.length (Ei d1.row) hownW w1.heap.size 0 1 1
  (Value.int .i64 (n:Int) :: bvs l) (by rw [List.length_cons,Bh,HL.out]) (AV hnb) (MJ rfl (Io l)) (by omega) (by omega) (by omega)
 have Aan:=lt_of_block hbl
 have hp3:w3.heap[p]?=w1.heap[p]?:=by
  rw [hgrow.block p (by omega) (by intro hx;have:=wI p hx.symm;rw [op] at this;simp at this),hold p hpl]
 have uI:w3.heap[bl]?=some (.cells (bvs d1.pages.flatten).toArray 218 (0,0)):=by
  rw [hgrow.block bl (by omega) (by intro hx;have:=wI bl hx.symm;rw [ol] at this;simp at this),hold bl Aan];exact hbl
 have hgt:o1 g=(D,2) ∨ W.heap.size ≤ g:=by
  rcases hat with hat | hat
  ·exact .inl (wI g hat)
  ·exact .inr (by omega)
 have hs3:Step (Only D) w o w3 (Ak o1 g (D,2)):=hW.grown hgrow (fun k hk => .inl (by rw [wI k hk];rfl)) g (D,2) hgt
 have xX:p ≠ g:=by
  rintro rfl
  rcases hgt with h1 | h1
  ·rw [op] at h1;simp at h1
  ·omega
 have hgb:bl ≠ g:=by
  rintro rfl
  rcases hgt with h1 | h1
  ·rw [ol] at h1;simp at h1
  ·omega
 have hc13:w3.cell? ⟨p,1,none⟩=some rv:=by rw [World.cell?_of_block (w:=w1) (a:=⟨p,1,none⟩) hp3];exact c1
 have AdM:w3.frozen? ⟨p,1,none⟩=false:=by rw [World.frozen?_of_block (w:=w1) (a:=⟨p,1,none⟩) hp3];exact f1
 have hr3:w3.rangeAt b off (bvs l):=Cf hr (hs3.block b hbs (by rw [ho];exact fun h=>hD h.symm))
 refine tO 11 (h:=?_)
 refine BV rfl (VN (.tmp 22) (.tmp 28) 128 128 rfl hrun) ?_
 refine wpList_nil ?_
 simp only [Act.put,GL,DL,lss]
 refine ⟨fun _=>⟨hc13,hr3⟩, ?_⟩
 clear hrun hWe hold hnb
 refine tO 12 (h:=?_)
 go_wp2_with fail
 refine ⟨fun h=>by simp at h, ?_⟩
 refine tO 13 (h:=?_)
 go_wp2_with fail
 refine ⟨fun h=>by simp at h, ?_⟩
 refine tO 14 (h:=?_)
 go_wp2_with fail
 refine ⟨fun h=>by simp at h, ?_⟩
 refine tD (h:=?_)
 go_wp2
 go_ret
 refine ⟨_,Ak o1 g (D,2),rfl,hs3.setCell _ (.inl ?_),rfl, ?_⟩
 ·show Only D (Ak o1 g (D,2) p).1
  rw [BI _ _ xX,op];rfl
 ·rw [Int.toNat_natCast]
  obtain ⟨bl',rv',hp',AdP, -⟩:=hd1
  have hp4:w1.heap[p]?=some (.cells #[.slice (some ⟨bl,0,none⟩) d1.pages.length d1.pages.length,rv, .int .i64 d1.left, .bool d1.dead] 130 (0,0)):=by
   have e0:=cell_of_block hp' 0
   have e1:=cell_of_block hp' 1
   rw [c0] at e0
   rw [c1] at e1
   simp only [List.getElem?_cons_zero,List.getElem?_cons_succ,Option.some.injEq] at e0 e1
   rw [hp', ←e0, ←e1]
  exact Bg.pushed AaX ha1 HL.out (hp3.trans hp4) uI hown3 (by rw [BI _ _ xX];exact op) (by rw [BI _ _ hgb];exact ol) (Au _ _ _)
theorem write_any {w:World} {o:Own} {D p:Nat} {d:Af} (h:Bg w o D p d) (hD:D ≠ 0) (at':Int) (v:Value) (l:List UInt8) (hb:Bytes w o v l) (hrow:d.row.length ≤ 1000000) :
  Calls prog 237 #[.pointer (some ⟨p,0,none⟩), .int .i64 at',v] w (XL (Only D) w o fun v w' o'=>v = .int .i64 (d.write at' l).2∧Bg w' o' D p (d.write at' l).1):=by
 by_cases hc:(d.counted (d.asked at' l.length)).2=0
 ·exact Yb h hD at' v l hb hrow hc
 ·exact Zr h at' v l hb hc
theorem gJ:((prog.info? 218).bind (·.zero)).map (·.cells)=some FQ.toArray:=by kernel_rfl
theorem Zq:((prog.info? 220).bind (·.zero)).map (·.cells)=some EM.toArray:=by kernel_rfl
theorem dH:(prog.info? 220).map (·.size)=some 513:=by kernel_rfl
theorem AjB {w:World} {b off:Nat} {l:List UInt8} (hl:l.length=512) (hr:w.rangeAt b off (bvs l)):(loadVar 218 ⟨b,off,none⟩).run prog w = .ok (.agg (bvs l).toArray) w:=
 run_loadVar_mid w b off 218 (bvs l) _ hr underlying218 rfl (by rw [Bh,hl];exact ZT)
theorem XK {w:World} {b off:Nat} {n:Int} {l:List UInt8} (hl:l.length=512) (hr:w.rangeAt b off (Value.int .i64 n :: bvs l)):(loadVar 220 ⟨b,off,none⟩).run prog w = .ok (.agg (Value.int .i64 n :: bvs l).toArray) w:=
 run_loadVar_mid w b off 220 _ _ hr underlying220 rfl (by rw [List.length_cons,Bh,hl];exact dH)
theorem Ib {P:Program} {a:Act} {op:Oper} {w:World} (t:TypeId) (x y:Operand) (ho:op.op = .store t x y) (b o:Nat) (cs:List Value) (hx:a.eval x = .pointer (some ⟨b,o,none⟩)) (hy:a.eval y = .agg cs.toArray)
  (ht:w.there b o cs.length) (hi:(P.info? t).map (·.size)=some cs.length) (h1:∀ v ∈ cs,v.oneCell'=true):(execOp a.eval op).run P w = .ok .skip (w.setCells b o cs):=by
 unfold execOp
 simp only [ho,hx,hy,Instr.storeAt,Instr.sureAddr,Sem.run_bind,Sem.run_pure,Result.andThen_ok]
 rw [run_storeVar_mid w b o t cs.toArray (by simpa using ht) (by simpa using hi) (all_oneCell_toArray h1)]
 simp
theorem EO {P:Program} {ops:Array Oper} {Q:Exit→Act→World→Prop} {rest:List Oper} {op:Oper} {a:Act} {w w':World} (hg:op.guard=none) (hr:(execOp a.eval op).run P w = .ok .skip w')
  (h:wpList P ops Q rest (a.put op.dst undef) w'):wpList P ops Q (op :: rest) a w:=
 wpList_plain hg fun _ hK=>by unfold Oper.wp;rw [hr];exact hK _ _ h
def iR (w:World) (w':World) (o':Own) (v:Value) (l:List UInt8):Prop:=
 (v = .slice none 0 0∧l=[]) ∨ ∃ b,v = .slice (some ⟨b,0,none⟩) 512 512∧l.length=512∧w.heap.size ≤ b∧w'.heap[b]?=some (.cells (bvs l).toArray 218 (0,0))∧o' b=(0,0)
theorem aA {w:World} {o:Own} {D p:Nat} {d:Af} (h:Bg w o D p d) (at':Int) (hc:d.asked at' 512=0) (hrow:d.row.length ≤ 1000000) :
  Calls prog 169 #[.pointer (some ⟨p,0,none⟩), .int .i64 at'] w (XL Nobody w o fun v w' o'=>∃ b,v = .tuple #[.slice (some ⟨b,0,none⟩) 512 512, .int .i64 0]∧w.heap.size ≤ b∧w'.heap[b]?=some (.cells (bvs (d.seen at'.toNat)).toArray 218 (0,0))∧o' b=(0,0)):=by
 have hal:0 ≤ at'∧at'<d.pages.length:=by
  unfold Af.asked at hc
  split at hc
  ·cases hc
  ·split at hc
   ·cases hc
   ·rename_i hx;omega
 obtain ⟨a0,a1⟩:=hal
 obtain ⟨n,rfl⟩:=Int.eq_ofNat_of_zero_le a0
 have a1':n<d.pages.length:=by omega
 rw [Int.toNat_natCast]
 have WV:=hidden hc
 clear hc
 obtain ⟨hw1,hw2,hw3,hw4, -, -⟩:=h.wf
 obtain ⟨bl,rv,⟨c0,c1,c2,c3⟩,⟨f1,f2,f3⟩,hbl,hown,op,ol,wI⟩:=h.open
 have hpg:(d.pages.getD n []).length=512:=Af.OX hw3 a1'
 have AtG:w.rangeAt bl (n*512) (bvs (d.pages.getD n [])):=by
  have:=BU hbl (n*512) 512
  rwa [Np,Ky,RP _ _ a1' hw3] at this
 have hld:=AjB hpg AtG
 have HP:=hidden hpg
 clear hpg AtG hw3 op ol wI
 have hpl:p<w.heap.size:=h.lt
 obtain ⟨ra,AaU,hrv⟩:=UH hown
 subst hrv
 generalize qX:d.pages.getD n []=page at *
 have Aql:=hidden qX
 clear qX
 go_enter func169,ntmps169
 go_wp2_with (first
  | (go_at_call 228;refine (Kz h _ _ _ WV).mono ?_;rintro e w' ⟨rfl,rfl⟩)
  | (refine BV rfl (IV 218 (.tmp 21) rfl bl (n*512) rfl hld) ?_;simp only [Act.put,GL,DL,lss])
  | (refine BV rfl (Jo 218 rfl (AB w 218 FQ.toArray gJ)) ?_;simp only [Act.put,GL,DL,lss])
  | (
    refine EO rfl (Ib 218 (.tmp 7) (.tmp 22) rfl w.heap.size 0 (bvs page) rfl rfl (Dh (heap_alloc_new w _) 0 _ (by rw [Bh,HP.out,FY];omega)) (by rw [Bh,HP.out];exact ZT) (Io _)) ?_
    rw [Be _ _ _ _ (by rw [Bh,HP.out,List.size_toArray,FY])]))
 go_loopw [28] (fun i wr=>∃ k:Nat,k ≤ d.row.length∧i = .int .i64 k∧wr.heap[w.heap.size]?=some (.cells (bvs (Af.seenIn n page (d.row.take k))).toArray 218 (0,0))∧(Af.seenIn n page (d.row.take k)).length=512∧Below w.heap.size w wr)
  (fun i _=>d.row.length - (intOf i).toNat)
 case atStart=>exact ⟨0,Nat.zero_le _,rfl,heap_alloc_new w _,HP.out,(Below.refl _ w).alloc (Nat.le_refl _) _⟩
 case round =>
  obtain ⟨k,hk,rfl,hB,hBl,hbel⟩:=hrel
  have hBz:=lt_of_block hB
  have Aoq:=hidden hBl
  clear hBl
  by_cases hlt:k<d.row.length
  ·obtain ⟨g,hg,cur,hcur,htk⟩:∃ g,ra=some ⟨g,0,none⟩∧∃ cur:Array Value,w.heap[g]?=some (.cells cur 220 (0,0))∧cur.toList.take (d.row.length*513)=Ei d.row:=by
    rcases hown.2 with ⟨_,h0⟩ | ⟨g,cap,cur,hv,_,hgg,_,_,_,htake⟩
    ·omega
    ·simp only [Value.slice.injEq] at hv
     exact ⟨g,hv.1,cur,hgg,htake⟩
   subst hg
   have hx:=hw4 d.row[k] (List.getElem_mem hlt)
   have hgz:=lt_of_block hcur
   have hent:wr.rangeAt g (k*513) (Value.int .i64 (d.row[k].1:Int) :: bvs d.row[k].2):=by
    have e1:wr.heap[g]?=some (.cells cur.toList.toArray 220 (0,0)):=by rw [hbel.block g hgz];simpa using hcur
    have:=BU e1 (k*513) 513
    have e2:(cur.toList.drop (k*513)).take 513=((Ei d.row).drop (k*513)).take 513:=by
     rw [←htk,List.drop_take,List.take_take]
     congr 1;omega
    rwa [e2,Jm _ _ hlt (fun x hx=>(hw4 x hx).2)] at this
   have zZ:=XK hx.2 hent
   have hX:=hidden hx.2
   have Afk:Af.seenIn n page (d.row.take (k+1))=if d.row[k].1=n then d.row[k].2 else Af.seenIn n page (d.row.take k):=by
    rw [List.take_succ_eq_append_getElem hlt,Af.seenIn,List.foldl_append]
    rfl
   have AiW:=hidden Afk
   clear Afk hx hent htk hcur hw4 hown hw1 hw2
   generalize hrow:d.row[k]=x at *
   obtain ⟨xa,xl⟩:=x
   clear hrow
   simp only at hX zZ AiW
   have hnew:(wr.alloc (.cells (Value.int .i64 (xa:Int) :: bvs xl).toArray 220)).heap[wr.heap.size]?=some (.cells (Value.int .i64 (xa:Int) :: bvs xl).toArray 220 (0,0)):=heap_alloc_new wr _
   have zY:(loadVar 218 ⟨wr.heap.size,1,none⟩).run prog (wr.alloc (.cells (Value.int .i64 (xa:Int) :: bvs xl).toArray 220)) = .ok (.agg (bvs xl).toArray) (wr.alloc (.cells (Value.int .i64 (xa:Int) :: bvs xl).toArray 220)):=by
    refine AjB hX.out ?_
    have:=BU hnew 1 512
    have e:((Value.int .i64 (xa:Int) :: bvs xl).drop 1).take 512=bvs xl:=by rw [List.drop_one,List.tail_cons,List.take_of_length_le (by rw [Bh,hX.out];omega)]
    rwa [e] at this
   have hB2:(wr.alloc (.cells (Value.int .i64 (xa:Int) :: bvs xl).toArray 220)).heap[w.heap.size]?=some (.cells (bvs (Af.seenIn n page (d.row.take k))).toArray 218 (0,0)):=by rw [Below.heap_alloc _ _ _ hBz];exact hB
   by_cases heq:xa=n
   ·have AzI:((xa:Int) == (n:Int))=true:=by rw [heq];simp
    have hS1:Af.seenIn n page (d.row.take (k+1))=xl:=by rw [AiW.out,if_pos heq]
    have Amx:=hidden hS1
    clear hS1 heq
    go_wp2_with (first
     | (refine BV rfl (IV 220 (.tmp 30) rfl g (k*513) rfl zZ) ?_;simp only [Act.put,GL,DL,lss])
     | (refine BV rfl (Jo 220 rfl (AB wr 220 EM.toArray Zq)) ?_;simp only [Act.put,GL,DL,lss])
     | (
       refine EO rfl (Ib 220 (.tmp 9) (.tmp 31) rfl wr.heap.size 0 (Value.int .i64 (xa:Int) :: bvs xl) rfl rfl (Dh (heap_alloc_new wr _) 0 _ (by rw [List.length_cons,Bh,hX.out,Dp];omega)) (by rw [List.length_cons,Bh,hX.out];exact dH) (MJ rfl (Io _))) ?_
       rw [Be _ _ _ _ (by rw [List.length_cons,Bh,hX.out,List.size_toArray,Dp])])
     | (refine BV rfl (IV 218 (.tmp 36) rfl wr.heap.size 1 rfl zY) ?_;simp only [Act.put,GL,DL,lss])
     | (refine EO rfl (Ib 218 (.tmp 7) (.tmp 37) rfl w.heap.size 0 (bvs xl) rfl rfl (Dh hB2 0 _ (by rw [Bh,Bh,hX.out,Aoq.out];omega)) (by rw [Bh,hX.out];exact ZT) (Io _)) ?_;simp only [Act.put]))
    go_roundw
    case rel =>
     refine ⟨k+1,hlt,by go_num, ?_, ?_, ?_⟩
     ·rw [Amx.out]
      have:=BP w.heap.size 218 (bvs xl) 0 _ _ hB2 (by rw [Bh,Bh,hX.out,Aoq.out];omega)
      rw [this,List.take_zero,List.nil_append,List.drop_eq_nil_of_le (by rw [Bh,Bh,hX.out,Aoq.out];omega),List.append_nil]
     ·rw [Amx.out];exact hX.out
     ·have h1:=hbel.alloc hbel.size (.cells (Value.int .i64 (xa:Int) :: bvs xl).toArray 220)
      exact Step.below ((((Step.refl Nobody w o).trans ⟨h1.os,h1.tape,h1.output,h1.size,fun _ _=>rfl,fun k hk _=>h1.block k hk⟩)).setCells w.heap.size 0 (bvs xl) (.inr (Nat.le_refl _)))
    case measure=>simp [intOf];omega
   ·have AzI:((xa:Int) == (n:Int))=false:=by simp;omega
    have hS1:Af.seenIn n page (d.row.take (k+1))=Af.seenIn n page (d.row.take k):=by rw [AiW.out,if_neg heq]
    have Amx:=hidden hS1
    clear hS1 heq
    go_wp2_with (first
     | (refine BV rfl (IV 220 (.tmp 30) rfl g (k*513) rfl zZ) ?_;simp only [Act.put,GL,DL,lss])
     | (refine BV rfl (Jo 220 rfl (AB wr 220 EM.toArray Zq)) ?_;simp only [Act.put,GL,DL,lss])
     | (
       refine EO rfl (Ib 220 (.tmp 9) (.tmp 31) rfl wr.heap.size 0 (Value.int .i64 (xa:Int) :: bvs xl) rfl rfl (Dh (heap_alloc_new wr _) 0 _ (by rw [List.length_cons,Bh,hX.out,Dp];omega)) (by rw [List.length_cons,Bh,hX.out];exact dH) (MJ rfl (Io _))) ?_
       rw [Be _ _ _ _ (by rw [List.length_cons,Bh,hX.out,List.size_toArray,Dp])]))
    go_roundw
    case rel=>exact ⟨k+1,hlt,by go_num,by rw [Amx.out];exact hB2,by rw [Amx.out];exact Aoq.out,hbel.alloc hbel.size _⟩
    case measure=>simp [intOf];omega
  ·go_wp2
   go_ret2
   refine ⟨_,Ak o w.heap.size (0,0),rfl, ?_,w.heap.size,rfl,Nat.le_refl _, ?_,Au _ _ _⟩
   ·exact ⟨hbel.os,hbel.tape,hbel.output,hbel.size,fun k hk=>BI _ _ (by omega),fun k hk _=>hbel.block k hk⟩
   ·have:d.row.take k=d.row:=List.take_of_length_le (by omega)
    rw [this] at hB
    rw [hB];unfold Af.seen;rw [Aql.out]
theorem s5:(prog.info? 5).map (·.size)=some 1:=by kernel_rfl
namespace Af
theorem Kw (f:Nat→Nat) (pages:List (List UInt8)) (row:List (Nat × List UInt8)) (x:Nat × List UInt8):Dk f pages (row++[x])=Gf f (Dk f pages row) (x,row.length):=by
 simp [Dk,List.zipIdx_append,List.foldl_append]
theorem Jq (f:Nat→Nat) (hf:∀ i,f i ≤ 512) (pages:List (List UInt8)) (h:∀ p ∈ pages,p.length=512) (row:List (Nat × List UInt8)) (hr:∀ x ∈ row,x.1<pages.length∧x.2.length=512) :
  (Dk f pages row).length=pages.length∧∀ p ∈ Dk f pages row,p.length=512:=by
 suffices hs:∀ (row:List (Nat × List UInt8)) (k:Nat) (q:List (List UInt8)),q.length=pages.length→(∀ p ∈ q,p.length=512)→(∀ x ∈ row,x.1<pages.length∧x.2.length=512) →
   ((row.zipIdx k).foldl (Gf f) q).length=pages.length∧∀ p ∈ (row.zipIdx k).foldl (Gf f) q,p.length=512 from hs row 0 pages rfl h hr
 intro row
 induction row with
 | nil=>intro k q hq hp _;exact ⟨hq,hp⟩
 | cons x r ih =>
  intro k q hq hp hx
  have h1:=hx x (by simp)
  have h2:=Xp f hf hp (x,k) (by rw [hq];exact h1.1) h1.2
  rw [List.zipIdx_cons,List.foldl_cons]
  exact ih (k+1) _ (h2.1.trans hq) h2.2 (fun y hy=>hx y (by simp [hy]))
end Af
theorem bK {w:World} {o:Own} {D p:Nat} {d:Af} (h:Bg w o D p d) (hrow:d.row.length ≤ 1000000) (fid:Nat) (caps:Array Value) (f:Nat→Nat) (hf:∀ i,f i ≤ 512)
  (hcall:∀ (args:Array Value) (x:World),(callFunc fid args).run prog x = .ok (.enter fid args) x)
  (vT:∀ (i:Nat) (x:World),i<d.row.length→(∀ k,k<w.heap.size→(o k).1 ≠ D→x.heap[k]?=w.heap[k]?)→Calls prog fid (#[.int .i64 (i:Int)]++caps) x fun e x'=>e = .returned (.int .i64 (f i:Int))∧x=x') :
  Calls prog 105 #[.pointer (some ⟨p,0,none⟩), .func (.func fid) #[] caps] w (XL (Only D) w o fun v w' o'=>v = .tuple #[]∧Bg w' o' D p (d.done f)):=by
 have hwf:=h.wf
 obtain ⟨hw1,hw2,hw3,hw4,hw5,hw6⟩:=h.wf
 have hpl:p<w.heap.size:=h.lt
 obtain ⟨bl,rv,hp,hbl,hown,op,ol,wI, -⟩:=h
 have c0:=cell_of_block hp 0
 have c1:=cell_of_block hp 1
 have f1:=Ap hp 1
 simp only [List.getElem?_cons_zero,List.getElem?_cons_succ] at c0 c1
 have Aan:=lt_of_block hbl
 obtain ⟨ra,AaU,hrv⟩:=UH hown
 subst hrv
 have wU:p ≠ bl:=by rintro rfl;rw [op] at ol;simp at ol
 have hPW:=Af.Jq f hf d.pages hw3
 have wM:=hidden vT
 have Aau:=hidden hPW
 have Ady:=hidden hw3
 have opH:=hidden op
 have olH:=hidden ol
 clear vT hPW hw3 op ol
 go_enter func105,ntmps105
 go_wp2_with fail
 go_loopw [11] (fun i wr=>∃ k:Nat,k ≤ d.row.length∧i = .int .i64 k∧wr.heap[bl]?=some (.cells (bvs (Af.Dk f d.pages (d.row.take k)).flatten).toArray 218 (0,0))∧(∀ j,j<w.heap.size→j ≠ bl→wr.heap[j]?=w.heap[j]?)∧Step (Only D) w o wr o)
  (fun i _=>d.row.length - (intOf i).toNat)
 case atStart=>exact ⟨0,Nat.zero_le _,rfl,hbl,fun _ _ _=>rfl,Step.refl _ _ _⟩
 case round =>
  obtain ⟨k,hk,rfl,hB,hsame,hstep⟩:=hrel
  have Abp:p<wr.heap.size:=Nat.lt_of_lt_of_le hpl hstep.size
  have hpr:wr.heap[p]?=w.heap[p]?:=hsame p hpl wU
  have c0r:wr.cell? ⟨p,0,none⟩=some (.slice (some ⟨bl,0,none⟩) d.pages.length d.pages.length):=by rw [World.cell?_of_block (w:=w) (a:=⟨p,0,none⟩) hpr];exact c0
  have f1r:wr.frozen? ⟨p,1,none⟩=false:=by rw [World.frozen?_of_block (w:=w) (a:=⟨p,1,none⟩) hpr];exact f1
  have c1r:wr.cell? ⟨p,1,none⟩=some (.slice ra d.row.length AaU):=by rw [World.cell?_of_block (w:=w) (a:=⟨p,1,none⟩) hpr];exact c1
  by_cases hlt:k<d.row.length
  ·obtain ⟨g,hg,cur,hcur,htk⟩:∃ g,ra=some ⟨g,0,none⟩∧∃ cur:Array Value,w.heap[g]?=some (.cells cur 220 (0,0))∧cur.toList.take (d.row.length*513)=Ei d.row:=by
    rcases hown.2 with ⟨_,h0⟩ | ⟨g,cap,cur,hv,_,hgg,_,_,_,htake⟩
    ·omega
    ·simp only [Value.slice.injEq] at hv
     exact ⟨g,hv.1,cur,hgg,htake⟩
   subst hg
   have hx:=hw4 d.row[k] (List.getElem_mem hlt)
   have hgz:=lt_of_block hcur
   have AbG:g ≠ bl:=by rintro rfl;have:=wI g rfl;rw [olH.out] at this;simp at this
   have hent:wr.rangeAt g (k*513) (Value.int .i64 (d.row[k].1:Int) :: bvs d.row[k].2):=by
    have e1:wr.heap[g]?=some (.cells cur.toList.toArray 220 (0,0)):=by rw [hsame g hgz AbG];simpa using hcur
    have:=BU e1 (k*513) 513
    have e2:(cur.toList.drop (k*513)).take 513=((Ei d.row).drop (k*513)).take 513:=by
     rw [←htk,List.drop_take,List.take_take]
     congr 1;omega
    rwa [e2,Jm _ _ hlt (fun x hx=>(hw4 x hx).2)] at this
   have zZ:=XK hx.2 hent
   have vM:=Aau.out (d.row.take k) (fun x hx=>hw4 x (List.mem_of_mem_take hx))
   have hsn:Af.Dk f d.pages (d.row.take (k+1))=Af.Gf f (Af.Dk f d.pages (d.row.take k)) (d.row[k],k):=by
    rw [List.take_succ_eq_append_getElem hlt,Af.Kw,List.length_take,Nat.min_eq_left (by omega)]
   have uZ:=hidden hsn
   have qQ:=hidden vM
   have hXH:=hidden hx
   have hs1:Step (Only D) w o (wr.alloc (.cells (Value.int .i64 (d.row[k].1:Int) :: bvs d.row[k].2).toArray 220)) o:=hstep.alloc' _
   have hx1:d.row[k].1<d.pages.length:=hx.1
   clear hsn hx hent htk hcur vM
   generalize yR:d.row[k]=x at *
   obtain ⟨xa,xl⟩:=x
   clear yR
   simp only at hXH zZ uZ hs1 hx1
   generalize hpk:Af.Dk f d.pages (d.row.take k)=pk at *
   have AdE:=hidden hpk
   clear hpk
   have sZ:Hid (xl.length=512):=hXH.out.2
   have Adv:(xa:Int)<(d.pages.length:Int):=by omega
   have hnew:(wr.alloc (.cells (Value.int .i64 (xa:Int) :: bvs xl).toArray 220)).heap[wr.heap.size]?=some (.cells (Value.int .i64 (xa:Int) :: bvs xl).toArray 220 (0,0)):=heap_alloc_new wr _
   have AbR:bl<wr.heap.size:=lt_of_block hB
   have hB2:(wr.alloc (.cells (Value.int .i64 (xa:Int) :: bvs xl).toArray 220)).heap[bl]?=some (.cells (bvs pk.flatten).toArray 218 (0,0)):=by rw [Below.heap_alloc _ _ _ AbR];exact hB
   have Aaj:(wr.alloc (.cells (Value.int .i64 (xa:Int) :: bvs xl).toArray 220)).cell? ⟨p,0,none⟩=some (.slice (some ⟨bl,0,none⟩) d.pages.length d.pages.length):=by rw [World.cell?_alloc_lt _ _ _ Abp];exact c0r
   have hsz:(wr.alloc (.cells (Value.int .i64 (xa:Int) :: bvs xl).toArray 220)).heap.size=wr.heap.size+1:=by simp
   go_wp2_with (first
    | (refine BV rfl (IV 220 (.tmp 14) rfl g (k*513) rfl zZ) ?_;simp only [Act.put,GL,DL,lss])
    | (refine BV rfl (Jo 220 rfl (AB wr 220 EM.toArray Zq)) ?_;simp only [Act.put,GL,DL,lss])
    | (
      refine EO rfl (Ib 220 (.tmp 5) (.tmp 15) rfl wr.heap.size 0 (Value.int .i64 (xa:Int) :: bvs xl) rfl rfl (Dh (heap_alloc_new wr _) 0 _ (by rw [List.length_cons,Bh,sZ.out,Dp];omega)) (by rw [List.length_cons,Bh,sZ.out];exact dH) (MJ rfl (Io _))) ?_
      rw [Be _ _ _ _ (by rw [List.length_cons,Bh,sZ.out,List.size_toArray,Dp])]))
   generalize hW:wr.alloc (.cells (Value.int .i64 (xa:Int) :: bvs xl).toArray 220)=W at *
   have yI:W.cell? ⟨wr.heap.size,0,none⟩=some (.int .i64 (xa:Int)):=by rw [cell_of_block hnew 0];rfl
   refine Aa (fun w'=>w'.cell? ⟨p,0,none⟩=some (.slice (some ⟨bl,0,none⟩) d.pages.length d.pages.length)∧w'.cell? ⟨wr.heap.size,0,none⟩=some (.int .i64 (xa:Int))) (fun _=>true) (by kernel_rfl) ⟨Aaj,yI⟩ (fun hHeld => ?_)
   refine tq 0 (h:=tq 1 (h:=tq 2 (h:=tq 3 (h:=tq 4 (h:=tq 5 (h:=tq 6 (h:=tq 7 (h:=tq 8 (h:=tq 11 (h:=tq 12 (h:=?_)))))))))))
   have hfk:(0:Int) ≤ (f k:Int)∧(f k:Int) ≤ 512:=⟨by omega,by have:=hf k;omega⟩
   have AdL:=hfk.1
   have AdK:=hfk.2
   have hk6:k ≤ 1000000:=by omega
   have hWk:∀ j,j<w.heap.size→j ≠ bl→W.drew.heap[j]?=w.heap[j]?:=fun j hj hjb=>by
    show W.heap[j]?=_
    rw [←hW,Below.heap_alloc _ _ _ (Nat.lt_of_lt_of_le hj hstep.size)];exact hsame j hj hjb
   have uG:=wM.out k W.drew hlt (fun j hj hjo=>hWk j hj (by rintro rfl;rw [olH.out] at hjo;exact hjo rfl))
   have rY:=hidden uG
   clear uG hfk
   refine tO 9 (h:=?_)
   go_wp2_with ((with_reducible refine rY.out.mono ?_);rintro e x' ⟨rfl,rfl⟩)
   refine ⟨fun _=>hHeld, ?_⟩
   refine tO 10 (h:=?_)
   go_wp2_with fail
   refine ⟨fun _=>hHeld, ?_⟩
   have hcl:(bvs (xl.take (f k))).length=f k:=by rw [Bh,List.length_take,sZ.out,Nat.min_eq_left (hf k)]
   have zF:W.drew.heap[wr.heap.size]?=some (.cells (Value.int .i64 (xa:Int) :: bvs xl).toArray 220 (0,0)):=hnew
   have hsrc:W.drew.rangeAt wr.heap.size 1 (bvs (xl.take (f k))):=by
    have:=BU zF 1 (f k)
    rwa [List.drop_one,List.tail_cons,Ky] at this
   have hpl2:(bvs pk.flatten).length=d.pages.length*512:=by rw [Bh,MS _ qQ.out.2,qQ.out.1]
   have hfit:xa*512+(bvs (xl.take (f k))).length ≤ (bvs pk.flatten).length:=by rw [hcl,hpl2];have:=hf k;omega
   have hB3:W.drew.heap[bl]?=some (.cells (bvs pk.flatten).toArray 218 (0,0)):=hB2
   have hth:=Dh hB3 (xa*512) _ hfit
   have hcp:=run_copy_cells (P:=prog) W.drew 29 29 3 5 bl (xa*512) (f k) 512 ⟨wr.heap.size,1,none⟩ 512 512 (bvs (xl.take (f k))) underlying29 s5 (by rw [hcl];exact (Nat.min_eq_right (hf k)).symm)
    (fun j v hv=>by rw [Addr.add_mid];exact hsrc j v hv) (fun j hj=>(hth j hj).1) (fun j hj=>(hth j hj).2) (Io _)
   have AdN:(bvs (xl.take (f k))).length ≤ 512:=by rw [hcl];exact hf k
   have hcells:=BP bl 218 (bvs (xl.take (f k))) (xa*512) W.drew _ hB3 hfit
   refine tO 13 (h:=?_)
   refine BV rfl (Za (.tmp 26) (.tmp 28) 29 29 rfl hcp) ?_
   refine wpList_nil ?_
   simp only [Act.put,GL,DL,lss]
   have yZ:p ≠ wr.heap.size:=by omega
   have zG:wr.heap.size ≠ bl:=by omega
   refine ⟨fun _=>⟨?_, ?_⟩, ?_⟩
   ·rw [World.cell?_of_block (w:=W.drew) (a:=⟨p,0,none⟩) (heap_setCells_other bl _ _ _ p wU)];exact Aaj
   ·rw [World.cell?_of_block (w:=W.drew) (a:=⟨wr.heap.size,0,none⟩) (heap_setCells_other bl _ _ _ _ zG)];exact yI
   refine tD (h:=?_)
   clear hcp hth hsrc hcells
   generalize hW4:W.drew.setCells bl (xa*512) (bvs (xl.take (f k)))=W4 at *
   go_wp2_with fail
   go_roundw
   case rel =>
    refine ⟨k+1,hlt,by go_num, ?_, ?_, ?_⟩
    ·rw [←hW4,BP bl 218 (bvs (xl.take (f k))) (xa*512) W.drew _ hB3 hfit,uZ.out]
     rw [hcl,Ky,Np, ←Jv, ←Jv]
     have:=Ro pk xa (xl.take (f k)) (by rw [qQ.out.1];exact hx1) qQ.out.2 (by rw [List.length_take,sZ.out];have:=hf k;omega)
     have hl2:(xl.take (f k)).length=f k:=by rw [←Bh];exact hcl
     rw [hl2] at this
     rw [this];rfl
    ·intro j hj hjb
     rw [←hW4,heap_setCells_other bl _ _ _ j hjb]
     show W.heap[j]?=_
     rw [←hW,Below.heap_alloc _ _ _ (Nat.lt_of_lt_of_le hj hstep.size)];exact hsame j hj hjb
    ·rw [←hW4]
     exact (hs1.drew).setCells bl _ _ (.inl (by rw [olH.out];rfl))
   case measure=>simp [intOf];omega
  ·have hke:k=d.row.length:=by omega
   subst hke
   have vM:=Aau.out d.row hw4
   have qQ:=hidden vM
   clear vM
   have hfin:Step (Only D) w o (wr.setCell ⟨p,1,none⟩ (.slice none 0 0)) o:=hstep.setCell _ (.inl (by show Only D (o p).1;rw [opH.out];rfl))
   have hat:Bg (wr.setCell ⟨p,1,none⟩ (.slice none 0 0)) o D p (d.done f):=by
    refine ⟨bl, .slice none 0 0, ?_, ?_,World.ownsRow_nil _ _ _ _,opH.out,olH.out, ?_, ?_⟩
    ·have:=Ai (i:=1) (.slice none 0 0) (hpr.trans hp)
     rw [this];simp [Af.done,qQ.out.1]
    ·rw [Below.heap_setCell _ _ _ _ (by exact fun h=>wU h.symm),hB,List.take_length];rfl
    ·intro j hj;simp [Value.ownBlock] at hj
    ·exact ⟨by simp only [Af.done,qQ.out.1];exact hw1,by simp only [Af.done,qQ.out.1];exact hw2,qQ.out.2,by simp [Af.done],hw5,hw6⟩
   go_wp2_with fail
   go_end0
   exact ⟨_,o,rfl,hfin,rfl,hat⟩
def ivs (l:List Int):List Value:=l.map (.int .i64)
def Ints (w:World) (o:Own) (v:Value) (l:List Int):Prop:=sH w o v l.length (ivs l)
theorem Yg (i:Int) (x:World):Calls prog 257 #[.int .i64 i] x fun e x'=>e = .returned (.int .i64 512)∧x=x':=by
 go_enter func257,ntmps257
 go_wp2
 go_ret
 exact ⟨rfl,rfl⟩
theorem kF (a:Int):((a.tmod 513)+513) % 513=a % 513:=by
 have e1:(a.tmod 513)=a % 513 ∨ (a.tmod 513)=a % 513 - 513:=by
  rw [Int.tmod_eq_emod]
  split
  ·left;omega
  ·right;simp
 omega
theorem jM (i:Nat) (x:World) (o:Own) (box:Nat) (fv:Value) (l:List Int) (hbox:x.cell? ⟨box,0,none⟩=some fv) (hl:Ints x o fv l) (hwf:∀ a ∈ l, -9223372036854775808 ≤ a∧a ≤ 9223372036854775807) (hi:i ≤ 1000000) :
  Calls prog 106 #[.int .i64 (i:Int), .pointer (some ⟨box,0,none⟩)] x fun e x'=>e = .returned (.int .i64 (Af.Xm l i:Int))∧x=x':=by
 rcases hl with ⟨⟨sa,sc,rfl⟩,hn,hcs⟩ | ⟨b,off,cap,rfl,hlc,hm,ho,hb,hr⟩
 ·have:l=[]:=List.eq_nil_of_length_eq_zero hn
  subst this
  have hE:(Af.Xm [] i:Int)=0:=by simp [Af.Xm]
  rw [hE]
  go_enter func106,ntmps106
  go_wp2
  go_ret
  exact ⟨rfl,rfl⟩
 ·by_cases hlt:i<l.length
  ·have hc:x.cell? ⟨b,off+i,none⟩=some (.int .i64 l[i]):=hr i _ (by simp [ivs,hlt])
   have hbd:=hwf l[i] (List.getElem_mem hlt)
   have hE:(Af.Xm l i:Int)=l[i] % 513:=by
    simp only [Af.Xm,List.getD_eq_getElem?_getD,List.getElem?_eq_getElem hlt,Option.getD_some]
    omega
   rw [hE]
   generalize l[i]=a at *
   have hcap:(l.length:Int) ≤ 9223372036854775807:=by unfold maxLen at hm;omega
   have b1:=hbd.1
   have b2:=hbd.2
   clear hbd hE hr hwf
   have g1 : -513<a.tmod 513:=by have:=Int.tmod_lt_of_pos a (show (0:Int)<513 by omega);have h2:=Int.lt_tmod_of_pos a (show (0:Int)<513 by omega);omega
   have g2:a.tmod 513<513:=Int.tmod_lt_of_pos a (by omega)
   go_enter func106,ntmps106
   go_wp2
   go_ret
   exact ⟨by rw [←kF a];rfl,rfl⟩
  ·have hE:(Af.Xm l i:Int)=0:=by
    simp only [Af.Xm,List.getD_eq_getElem?_getD]
    rw [List.getElem?_eq_none (by omega)];simp
   rw [hE]
   clear hE
   have hcap:(l.length:Int) ≤ 9223372036854775807:=by unfold maxLen at hm;omega
   go_enter func106,ntmps106
   go_wp2
   go_ret
   exact ⟨rfl,rfl⟩
theorem dC {w:World} {o:Own} {D p:Nat} {d:Af} (h:Bg w o D p d) (hc:(d.counted (d.asked 0 512)).2 ≠ 0) :
  Calls prog 238 #[.pointer (some ⟨p,0,none⟩)] w (XL (Only D) w o fun v w' o'=>v = .int .i64 d.sync.2∧Bg w' o' D p d.sync.1):=by
 have hE:d.sync=d.counted (d.asked 0 512):=by simp [Af.sync,hc]
 rw [hE]
 obtain ⟨e,he⟩:∃ e,Hid (d.asked 0 512=e):=⟨_,rfl⟩
 rw [he.out] at hc ⊢
 obtain ⟨d1,e1,hd⟩:∃ d1 e1,Hid (d.counted e=(d1,e1)):=⟨_,_,rfl⟩
 rw [hd.out] at hc ⊢
 have hc':(e1 != 0)=true:=by simpa using hc
 clear hc hE
 go_enter func238,ntmps238
 go_wp2_with (first | (go_at_call 228;refine (Kz h _ _ _ he).mono ?_;rintro e w' ⟨rfl,rfl⟩) | (go_at_call 256;refine (Js h _ hd).mono ?_;rintro e w' ⟨v1,o1,rfl,hs1,rfl,hd1⟩))
 go_ret
 exact ⟨_,o1,rfl,hs1,rfl,hd1⟩
theorem ZK {w:World} {o:Own} {D p:Nat} {d:Af} (h:Bg w o D p d) (hrow:d.row.length ≤ 1000000) :
  Calls prog 238 #[.pointer (some ⟨p,0,none⟩)] w (XL (Only D) w o fun v w' o'=>v = .int .i64 d.sync.2∧Bg w' o' D p d.sync.1):=by
 by_cases hc:(d.counted (d.asked 0 512)).2=0
 ·have hE:d.sync=((d.counted (d.asked 0 512)).1.done fun _=>512,0):=by simp [Af.sync,hc]
  rw [hE]
  obtain ⟨hpg,hrw⟩:=Af.Hg d (d.asked 0 512)
  obtain ⟨e,he⟩:∃ e,Hid (d.asked 0 512=e):=⟨_,rfl⟩
  rw [he.out] at hc hrw ⊢
  obtain ⟨d1,e1,hd⟩:∃ d1 e1,Hid (d.counted e=(d1,e1)):=⟨_,_,rfl⟩
  rw [hd.out] at hc hrw ⊢
  simp only at hc hrw ⊢
  subst hc
  have hrow1:d1.row.length ≤ 1000000:=by rw [hrw];exact hrow
  clear hE hpg hrw
  go_enter func238,ntmps238
  go_wp2_with (first
   | (go_at_call 228;refine (Kz h _ _ _ he).mono ?_;rintro e w' ⟨rfl,rfl⟩)
   | (go_at_call 256;refine (Js h _ hd).mono ?_;rintro e w1 ⟨v1,o1,rfl,hs1,rfl,hd1⟩)
   | (go_at_call 105;refine (bK hd1 hrow1 257 #[] (fun _=>512) (by simp) Tryz.call257 ?_).mono ?_;(intro i x _ _;exact Yg _ _);rintro e w2 ⟨v2,o2,rfl,hs2,rfl,hd2⟩))
  go_ret
  exact ⟨_,o2,rfl,hs1.trans hs2,rfl,hd2⟩
 ·exact dC h hc
theorem jP {w:World} {o:Own} {D p:Nat} {d:Af} (h:Bg w o D p d) (hD:D ≠ 0) (hrow:d.row.length ≤ 1000000) (fv:Value) (l:List Int) (hl:Ints w o fv l) (hwf:∀ a ∈ l, -9223372036854775808 ≤ a∧a ≤ 9223372036854775807) :
  Calls prog 59 #[.pointer (some ⟨p,0,none⟩),fv] w (XL (Only D) w o fun v w' o'=>v = .tuple #[]∧Bg w' o' D p (d.BJ l)):=by
 obtain ⟨ra,rc,rfl⟩:=Aq hl
 generalize hfe:Value.slice ra l.length rc=fv at *
 have hs0:Step (Only D) w o (w.alloc (.cells #[fv] 53)) (Ak o w.heap.size (0,0)):=(Step.refl _ w o).alloc _ _
 have hd0:Bg (w.alloc (.cells #[fv] 53)) (Ak o w.heap.size (0,0)) D p d:=h.step ((Step.refl Nobody w o).alloc _ _) (fun x=>x)
 have hl0:Ints (w.alloc (.cells #[fv] 53)) (Ak o w.heap.size (0,0)) fv l:=hl.step ((Step.refl Nobody w o).alloc _ _) (fun x=>x)
 have hbx:(w.alloc (.cells #[fv] 53)).heap[w.heap.size]?=some (.cells #[fv] 53 (0,0)):=heap_alloc_new w _
 have vT:∀ (i:Nat) (x:World),i<d.row.length→(∀ k,k<(w.alloc (.cells #[fv] 53)).heap.size→(Ak o w.heap.size (0,0) k).1 ≠ D→x.heap[k]?=(w.alloc (.cells #[fv] 53)).heap[k]?) →
   Calls prog 106 (#[.int .i64 (i:Int)] ++ #[.pointer (some ⟨w.heap.size,0,none⟩)]) x fun e x'=>e = .returned (.int .i64 (Af.Xm l i:Int))∧x=x':=by
  intro i x hi hx
  have hb1:x.heap[w.heap.size]?=some (.cells #[fv] 53 (0,0)):=by rw [hx _ (by simp) (by rw [Au];exact fun h=>hD h.symm)];exact hbx
  have hl1:Ints x (fun k=>if k<(w.alloc (.cells #[fv] 53)).heap.size then Ak o w.heap.size (0,0) k else (0,0)) fv l:=by
   rcases hl0 with h0 | ⟨b,off,cap,hv,hlc,hm,ho,hb,hr⟩
   ·exact .inl h0
   ·have e:=hx b hb (by rw [ho];exact fun h=>hD h.symm)
    refine .inr ⟨b,off,cap,hv,hlc,hm,by simp only [if_pos hb];exact ho, ?_,Cf hr e⟩
    have hb':b<x.heap.size:=by
     rcases Nat.lt_or_ge b x.heap.size with h1 | h1
     ·exact h1
     ·rw [Array.getElem?_eq_none h1,Array.getElem?_eq_getElem hb] at e;cases e
    exact hb'
  exact jM i x _ w.heap.size fv l (cell_of_one hb1) hl1 hwf (by omega)
 have wM:=hidden vT
 clear vT hwf hl hl0 hbx
 subst hfe
 have hlast:∀ (w2:World) (o2:Own),Step (Only D) w o w2 o2→Bg w2 o2 D p (d.done (Af.Xm l))→Hid (Step (Only D) w o ((w2.setCell ⟨p,3,none⟩ (.bool false)).setCell ⟨p,2,none⟩ (.int .i64 (-1))) o2 ∧
   Bg ((w2.setCell ⟨p,3,none⟩ (.bool false)).setCell ⟨p,2,none⟩ (.int .i64 (-1))) o2 D p (d.BJ l)):=fun w2 o2 hs2 hd2 =>
  ⟨(hs2.trans (hd2.DC 3 (.bool false))).trans ((hd2.Ik false).DC 2 (.int .i64 (-1))),(hd2.Ik false).dG (-1) (by omega)⟩
 go_enter func59,ntmps59
 go_wp2_with (first
  | (
    go_at_call 105;refine (bK hd0 hrow 106 #[.pointer (some ⟨w.heap.size,0,none⟩)] (Af.Xm l) (Af.eG l) Tryz.call106 wM.out).mono ?_;rintro e w2 ⟨v2,o2,rfl,hs2,rfl,hd2⟩
    have hl2:=hlast w2 o2 (hs0.trans hs2) hd2
    clear hlast
    obtain ⟨bl,rv,⟨c0,c1,c2,c3⟩,⟨f1,f2,f3⟩, -⟩:=hd2.open
    have c2x:(w2.setCell ⟨p,3,none⟩ (.bool false)).cell? ⟨p,2,none⟩=some (.int .i64 (d.done (Af.Xm l)).left):=by rw [World.cell?_setCell_other _ _ _ _ (by simp)];exact c2))
 go_end0
 exact ⟨_,o2,rfl,hl2.out.1,rfl,hl2.out.2⟩
def XE (b s:UInt8):Nat→UInt8
 | 0=>b
 | n+1=>XE b s n+s
def fD (b s:UInt8) (n:Nat):List UInt8:=(List.range n).map (XE b s)
theorem dW:(prog.info? 5).map (fun i=>(i.zero.map (fun z=>z.cells.toList),i.size,i.bytes))=some (some [.int .u8 0],1,1):=by kernel_rfl
def Ew (w w':World) (o':Own) (v:Value) (l:List UInt8):Prop:=
 w'.ownsRow w.heap.size 5 1 v l.length (bvs l)∧∀ k,v.ownBlock=some k→o' k=(0,0)
theorem Ew.bytes {w w':World} {o':Own} {v:Value} {l:List UInt8} (h:Ew w w' o' v l):Bytes w' o' v l:=by
 obtain ⟨h1,h2⟩:=h
 rcases h1.2 with ⟨rfl,h0⟩ | ⟨g,cap,cur,rfl,hb,hg,hnc,hcm,hcs,htake⟩
 ·rw [List.eq_nil_of_length_eq_zero h0];exact Bytes.nil _ _
 ·refine .inr ⟨g,0,cap,rfl,hnc,hcm,by rw [h2 g rfl],lt_of_block hg, ?_⟩
  have e1:w'.heap[g]?=some (.cells cur.toList.toArray 5 (0,0)):=by simpa using hg
  have:=BU e1 0 l.length
  rw [List.drop_zero] at this
  rw [Nat.mul_one] at htake
  rwa [htake] at this
section
variable {w:World} {o:Own} {D p:Nat} {d d1:Af} {e1:Int}
theorem Uk (h:Bg w o D p d) (hD:D ≠ 0) (hrow:d.row.length ≤ 1000000) (at':Int) (v:Value) (l:List UInt8) (hb:Bytes w o v l) (he:d.write at' l=(d1,e1)) :
  Calls prog 237 #[.pointer (some ⟨p,0,none⟩), .int .i64 at',v] w (XL (Only D) w o fun v w' o'=>v = .int .i64 e1∧Bg w' o' D p d1):=by
 have:=write_any h hD at' v l hb hrow
 rw [he] at this;exact this
theorem XD (h:Bg w o D p d) (hrow:d.row.length ≤ 1000000) (he:d.sync=(d1,e1)) :
  Calls prog 238 #[.pointer (some ⟨p,0,none⟩)] w (XL (Only D) w o fun v w' o'=>v = .int .i64 e1∧Bg w' o' D p d1):=by
 have:=ZK h hrow
 rw [he] at this;exact this
theorem jS (h:Bg w o D p d) (hD:D ≠ 0) (hrow:d.row.length ≤ 1000000) (fv:Value) (l:List Int) (hl:Ints w o fv l) (hwf:∀ a ∈ l, -9223372036854775808 ≤ a∧a ≤ 9223372036854775807) (he:d.BJ l=d1) :
  Calls prog 59 #[.pointer (some ⟨p,0,none⟩),fv] w (XL (Only D) w o fun v w' o'=>v = .tuple #[]∧Bg w' o' D p d1):=by
 have:=jP h hD hrow fv l hl hwf
 rw [he] at this;exact this
end
theorem CY {w:World} {o:Own} {v:Value} {l:List UInt8} (h:Bytes w o v l):(convert 29 9 v).run prog w = .ok (.string ⟨l.toArray⟩) w:=by
 rcases h.cases with ⟨⟨a,c,rfl⟩,rfl⟩ | ⟨b,off,cap,rfl,hl,hm,ho,hb,hr⟩
 ·rw [run_convert_bytes_string w 29 9 5 a 0 c underlying29 underlying5 underlying9]
  cases a <;> simp [Conv.bytesToString,loadCells,loadCellsFrom] <;> rfl
 ·have:=run_convert_bytes_arg (P:=prog) w 29 5 underlying29 underlying5 b off l.length cap (l.map fun x=>(x.toNat:Int)) (by simp) (fun i hi=>by
   rw [hr i (bv l[i]) (by rw [OW,List.getElem?_eq_getElem hi];rfl)]
   simp [bv,List.getElem?_eq_getElem hi]) 9 underlying9
  rw [this]
  simp [strOfNums,Function.comp_def]
def iP:List UInt8:=List.replicate 512 97
def iO:List UInt8:=List.replicate 512 98
def wk0:Af:=Af.new 2
def wk1:Af:=(wk0.write 0 iP).1
def wk2:Af:=(wk1.write 0 iO).1
def wk3:Af:=wk2.BJ [5,2]
def wkp:List UInt8:=(wk3.read 0).1
attribute [irreducible] wk0 wk1 wk2 wk3 wkp iP iO
namespace Af
def two (d:Af) (left:Int) (most:Nat):Prop:=d.dead=false∧d.left=left∧d.pages.length=2∧d.row.length ≤ most
end Af
open Go Go.RowKit Go.ChangeShapes Go.WideShapes Go.ChangeAt
theorem KY {H:Type} {enc:TypeId × Value→H} {P:Program} (hl:laidOutB P=true) {W W':World} (hb:Below W.heap.size W W') :
  ∀ (ts:List TypeId) (vs:List Value) (ds:List (DataW H)) (ps:List MemPlace),(ts.all fun t=>P.readableRec t && decide (t<P.types.size))=true →
   DataW.TrodAll enc P W 0 (fun _=>true) true ts vs ds ps→(∀ x ∈ ps,x.block<W.heap.size)→DataW.TrodAll enc P W' 0 (fun b=>decide (b<W.heap.size)) true ts vs ds ps
 | [],[],[],_,_,h,_=>h
 | t :: ts,v :: vs,d :: ds,ps,hts,h,hlt=>by
  obtain ⟨p,q,h1,h2,rfl⟩:=h
  simp only [List.all_cons,Bool.and_eq_true,decide_eq_true_eq] at hts
  exact ⟨p,q,Below.trod hl hts.1.1 hts.1.2 h1 hb (fun x hx=>hlt x (List.mem_append_left _ hx)),KY hl hb ts vs ds q hts.2 h2 (fun x hx=>hlt x (List.mem_append_right _ hx)),rfl⟩
 | [],_ :: _,_,_,_,h,_=>h.elim
 | [],[],_ :: _,_,_,h,_=>h.elim
 | _ :: _,[],_,_,_,h,_=>h.elim
 | _ :: _,_ :: _,[],_,_,h,_=>h.elim
theorem MW {H:Type} {enc:TypeId × Value→H} {P:Program} {f:Func} {s:ChangeSpec} {W W':World} {args:Array Value} {ds gs:List (DataW H)} {before:List MemPlace} {tb:TypeId}
  (hl:laidOutB P=true) (hts:(f.params.toList.all fun t=>P.readableRec t && decide (t<P.types.size))=true)
  (hr:f.resultTypes = #[tb]) (hu:P.underlying tb=some .bool)
  (hW:DataW.Whole enc P f.params.toList s.vars false W args.toList ds gs before) (hgs:gs=[]) (hvars:s.vars=[])
  (e1:(s.fn H ds).results=[.lit (.bool true)]) (e2:(s.fn H ds).args=ds) (e3:(s.fn H ds).vars=[])
  (hb:Below W.heap.size W W'):s.post enc P f false true false false W args (.bool true) W':=by
 subst hgs
 have hW':=hW
 obtain ⟨p,q,hA,hV,hpq,_,_⟩:=hW
 have hA':DataW.TrodAll enc P W 0 (fun _=>true) true f.params.toList args.toList ds p:=hA
 have hq:q=[]:=by
  rw [hvars] at hV
  exact hV
 subst hq
 have Azb:before=p:=by simpa using hpq
 subst Azb
 refine ⟨ds,[],before,[],before,[],hW', ?_, ?_, ?_,hb.frame _,fun h=>by cases h⟩
 ·rw [List.append_nil,e1,hr]
  exact trodAll_cons_mk (shut_bool hu true) trodAll_mk0
 ·rw [List.append_nil,e2]
  exact KY hl hb _ _ _ _ hts hA' (fun x hx=>by simpa using hW'.lt x hx)
 ·rw [List.append_nil,e3,hvars];rfl
open Go Go.RowKit Go.Deep
theorem Ir {α:Type} (R:Nat→α→Prop):∀ n:Nat,(∀ i,i<n→∃ x,R i x)→∃ l:List α,l.length=n∧∀ i (h:i<l.length),R i l[i]
 | 0,_=>⟨[],rfl,fun i h=>by simp at h⟩
 | n+1,hx=>by
  obtain ⟨l,hl,hr⟩:=Ir R n (fun i hi=>hx i (by omega))
  obtain ⟨x,hxx⟩:=hx n (by omega)
  refine ⟨l++[x],by simp [hl],fun i h => ?_⟩
  by_cases hi:i<l.length
  ·rw [List.getElem_append_left hi];exact hr i hi
  ·have:i=n:=by simp at h;omega
   subst this
   rw [List.getElem_append_right (by omega)]
   simpa [hl] using hxx
section
variable {H:Type} {enc:TypeId × Value→H} {P:Program} {W:World}
theorem Lu {t e:TypeId} {fuel:Nat} {v:Value} {x:DataW H × List MemPlace} (ht:P.underlying t=some (.slice e)) (hpos:0<P.cellsOf e)
  (h:DataW.trod enc P W 0 (fun _=>true) true fuel t [v]=some x) :
  (∃ a c,v = .slice a 0 c) ∨ ∃ b off len cap,v = .slice (some ⟨b,off,none⟩) len cap∧0<len∧len ≤ cap∧cap ≤ maxLen∧b<W.heap.size ∧
   ∀ i,i<cap→∃ cs',cs'.length=P.cellsOf e∧W.rangeAt b (off+i*P.cellsOf e) cs'∧∃ n y,DataW.trod enc P W 0 (fun _=>true) true n e cs'=some y:=by
 rcases open_slice ht h with ⟨h0,_⟩ | ⟨a,len,cap,m,n,D,Pl,h0,_,hlc,hcm,hm,_,hel⟩
 ·simp only [List.cons.injEq,and_true] at h0
  exact .inl ⟨_,_,h0⟩
 ·simp only [List.cons.injEq,and_true] at h0
  simp only [if_true] at hm
  subst hm
  by_cases hz:len=0
  ·subst hz;exact .inl ⟨_,_,h0⟩
  ·have hc0:0<m:=by omega
   have hcell:∀ i,i<m→∃ cs',cs'.length=P.cellsOf e∧(∀ j,j<P.cellsOf e→W.cell? ((a.add (i*P.cellsOf e)).add j)=cs'[j]?)∧∃ n y,DataW.trod enc P W 0 (fun _=>true) true n e cs'=some y:=by
    intro i hi
    obtain ⟨cs',h1,h2⟩:=hel i hi
    obtain ⟨_,h3,h4⟩:=World.cells?_some h1
    exact ⟨cs',h3,h4,_,_,h2⟩
   obtain ⟨cs0,h3,h4,_⟩:=hcell 0 hc0
   have h5:=h4 0 hpos
   have ha0:((a.add (0*P.cellsOf e)).add 0)=a:=by simp [Addr.add]
   rw [ha0,List.getElem?_eq_getElem (by omega)] at h5
   have hsp:a.spot=none:=by
    cases hs:a.spot with
    | none=>rfl
    | some s =>
     exfalso
     unfold World.cell? at h5
     cases hh:W.heap[a.block]? with
     | none=>simp [hh] at h5
     | some ob=>cases ob <;> simp [hh,hs] at h5
   have hblk:=World.block_lt_of_cell? W _ h5
   obtain ⟨b,off,sp⟩:=a
   simp only at hsp hblk
   subst hsp
   refine .inr ⟨b,off,len,m,h0,by omega,hlc,hcm,hblk,fun i hi => ?_⟩
   obtain ⟨cs',k1,k2,k3⟩:=hcell i hi
   refine ⟨cs',k1,fun j w hj => ?_,k3⟩
   have hj':j<P.cellsOf e:=by
    rw [←k1];exact (List.getElem?_eq_some_iff.1 hj).1
   have:=k2 j hj'
   rw [Addr.add_mid,Addr.add_mid,hj] at this
   exact this
theorem YA {t e:TypeId} {k:IntKind} {fuel:Nat} {v:Value} {x:DataW H × List MemPlace} (ht:P.underlying t=some (.slice e)) (he:P.underlying e=some (.int k)) (hc:P.cellsOf e=1)
  (h:DataW.trod enc P W 0 (fun _=>true) true fuel t [v]=some x) :
  ∃ l:List Int,sH W (fun _=>(0,0)) v l.length (l.map (Value.int k))∧∀ a ∈ l,(Lit.int k a).wf=true:=by
 rcases Lu ht (by omega) h with ⟨a,c,rfl⟩ | ⟨b,off,len,cap,rfl,h0,hlc,hcm,hb,hel⟩
 ·exact ⟨[], .inl ⟨⟨a,c,rfl⟩,rfl,rfl⟩,by simp⟩
 ·obtain ⟨l,hl,hr⟩:=Ir (fun i (n:Int)=>W.cell? ⟨b,off+i,none⟩=some (.int k n)∧(Lit.int k n).wf=true) len (fun i hi=>by
   obtain ⟨cs',k1,k2,n,y,k3⟩:=hel i (by omega)
   obtain ⟨a,rfl,_,hw⟩:=DataW.trod_int he k3
   refine ⟨a, ?_,hw⟩
   have:=k2 0 _ rfl
   rwa [hc,Nat.mul_one,Nat.add_zero] at this)
  refine ⟨l, .inr ⟨b,off,cap,by rw [hl],by omega,hcm,rfl,hb,fun j w hj => ?_⟩,fun a ha => ?_⟩
  ·rw [List.getElem?_map] at hj
   cases hjl:l[j]? with
   | none=>rw [hjl] at hj;cases hj
   | some a =>
    obtain ⟨hlt,hja⟩:=List.getElem?_eq_some_iff.1 hjl
    rw [hjl] at hj
    simp only [Option.map_some,Option.some.injEq] at hj
    rw [←hj, ←hja]
    exact (hr j hlt).1
  ·obtain ⟨i,hi,rfl⟩:=List.mem_iff_getElem.1 ha
   exact (hr i hi).2
end
structure Wq where
 do_:Int
 at':Int
 b:Int
 st:Int
 fv:Value
 Bz:List Int
namespace Wq
def cells (a:Wq):List Value:=[.int .u8 a.do_, .int .i64 a.at', .int .u8 a.b, .int .u8 a.st,a.fv]
def ok (a:Wq):Prop:=(0 ≤ a.do_∧a.do_ ≤ 255)∧(-9223372036854775808 ≤ a.at'∧a.at' ≤ 9223372036854775807)∧(0 ≤ a.b∧a.b ≤ 255)∧(0 ≤ a.st∧a.st ≤ 255)∧∀ x ∈ a.Bz, -9223372036854775808 ≤ x∧x ≤ 9223372036854775807
def iD (a:Wq):List UInt8:=fD (UInt8.ofNat a.b.toNat) (UInt8.ofNat a.st.toNat) 512
end Wq
def jE (w:World) (o:Own) (v:Value) (l:List Wq):Prop:=
 ((∃ a c,v = .slice a 0 c)∧l=[]) ∨ ∃ b off cap,v = .slice (some ⟨b,off,none⟩) l.length cap∧l.length ≤ cap∧cap ≤ maxLen∧(o b).1=0∧b<w.heap.size ∧
  ∀ i (h:i<l.length),w.rangeAt b (off+i*5) l[i].cells∧Ints w o l[i].fv l[i].Bz∧l[i].ok
section
variable {H:Type} {enc:TypeId × Value→H} {W:World}
end
def jB (l:List Wq):Int:=if (l.take 81).any (fun a=>decide (60<a.Bz.length)) then 1 else max 0 ((l.length:Int) - 80)
def Af.jC (d:Af) (a:Wq):Af × Int:=
 if a.do_ % 6=0 then d.write a.at' a.iD
 else if a.do_ % 6=1 then d.sync
 else if a.do_ % 6=2 then (d.bG a.at',0)
 else if a.do_ % 6=3 then (d.kill,0)
 else if a.do_ % 6=4 then (d.BJ a.Bz,0)
 else d.write a.at' (List.replicate a.b.toNat 0)
theorem XZ (n:Nat):(List.replicate n [Value.int .u8 0]).flatten=bvs (List.replicate n 0):=by
 induction n with
 | zero=>rfl
 | succ n ih=>rw [List.replicate_succ,List.replicate_succ,List.flatten_cons,ih];rfl
theorem VX (w:World) (o:Own) (n:Nat) (hn:n ≤ 9223372036854775807):Bytes (w.alloc (.cells (bvs (List.replicate n 0)).toArray 5)) (Ak o w.heap.size (0,0)) (.slice (some ⟨w.heap.size,0,none⟩) n n) (List.replicate n 0):=
 .inr ⟨w.heap.size,0,n,by rw [List.length_replicate],by simp,by simp only [maxLen];exact hn,by rw [Au],by simp,AV (heap_alloc_new w _)⟩
def u64 (x:BitVec 64):Value := .int .u64 (x.toNat:Int)
theorem Aem (x:BitVec 64):BitVec.ofInt 64 (x.toNat:Int)=x:=by simp
theorem wrap64 (x:BitVec 64):IntKind.u64.wrap (x.toNat:Int)=(x.toNat:Int):=by
 have:=x.isLt
 simp [IntKind.wrap,IntKind.bits,IntKind.signed];omega
section
variable {P:Program} (w:World) (x y:BitVec 64) (t:TypeId)
end

end Go.Proofs.YtffkdillijmamaaGreat
