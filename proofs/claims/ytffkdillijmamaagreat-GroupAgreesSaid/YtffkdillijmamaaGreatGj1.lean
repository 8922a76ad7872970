/- Plain words and laws that all of this seat's walks share: bytes as cells, the ghost map that says whose a block is, and how a world may change. Over any program; no conditions. -/
import Derived.WalkKit
import Derived.WalkSpells
import Derived.WalkLawsBesides
import Derived.Deep.MidRow
import Derived.Deep.AppendLies
import Derived.Test.YtffkdillijmamaaGreatProg
import Derived.Deep.QuietTactic
import Derived.BigQuiet
import Derived.StillTailTactics
import Derived.Deep.RegionHeld3
import Derived.Deep.DrawnRows
import Derived.ProofKit
import Derived.OpenShut
import Derived.Deep.Slices
namespace Go.Proofs.YtffkdillijmamaaGreat
theorem om {p:Prop}(h:p:=by omega):p:=h
theorem aI {a b : Prop}(x : a) (y : b) : a /\ b := ⟨x, y⟩
theorem GL {α : Type _}(l : List α) (i : Nat) (a : α) : l.toArray.setIfInBounds i a=(l.set i a).toArray := List.setIfInBounds_toArray l i a
theorem DL {α : Type _}{a b : α}{t : List α} : (a :: t).set 0 b=b :: t := rfl
theorem lss {α : Type _}{a b : α}{t : List α}{n : Nat} : (a :: t).set (n+1) b=a :: t.set n b := rfl
theorem au {w : World}{b : Nat}{o : Obj}(h : w.heap[b]?=some o) : b<w.heap.size := lt_of_block h
theorem ax {α : Type _}{a : α}{i : Nat}{l : List α} : (a :: l)[i+1]?=l[i]? := List.getElem?_cons_succ
theorem ay {α : Type _}{a : α}{l : List α} : (a :: l)[0]?=some a := List.getElem?_cons_zero
theorem az {α : Type _}(e : α) : ∃ x, e=x := ⟨_, rfl⟩
open Go.Proofs.Tryz
set_option maxRecDepth 100000
set_option maxHeartbeats 3200000
open Go Go.RowKit
def bv (x:UInt8):Value := .int .u8 (x.toNat:Int)
def bvs (l:List UInt8):List Value:=l.map bv
@[simp] theorem Bh (l:List UInt8):(bvs l).length=l.length:=by simp [bvs]
@[simp] theorem iQ:bvs []=[]:=rfl
@[simp] theorem Jv (l m:List UInt8):bvs (l++m)=bvs l++bvs m:=by simp [bvs]
theorem Ky (l:List UInt8) (n:Nat):(bvs l).take n=bvs (l.take n):=by simp [bvs]
theorem Np (l:List UInt8) (n:Nat):(bvs l).drop n=bvs (l.drop n):=by simp [bvs]
theorem Io (l:List UInt8):∀ v ∈ bvs l,v.oneCell'=true:=by
 intro v hv;simp only [bvs,List.mem_map] at hv;obtain ⟨x,_,rfl⟩:=hv;rfl
theorem MJ {x:Value}{l:List Value}(q:x.oneCell'=true) (h:∀ v ∈ l,v.oneCell'=true):∀ v ∈ x :: l,v.oneCell'=true:=by
 intro v hv
 rcases List.mem_cons.1 hv with rfl | hv
 ·exact q
 ·exact h v hv
theorem OW (l:List UInt8) (j:Nat):(bvs l)[j]?=l[j]?.map bv:=by simp [bvs]
abbrev Own:=Nat->Nat × Nat
def Ak (o:Own) (k:Nat) (t:Nat × Nat):Own:=fun i=>if i=k then t else o i
@[simp] theorem Au (o:Own) (k:Nat) (t:Nat × Nat):Ak o k t k=t:=by simp [Ak]
theorem BI (o:Own) {k i:Nat}(t:Nat × Nat) (h:i ≠ k):Ak o k t i=o i:=by simp [Ak,h]
structure aj (T:Nat->Prop) (w:World) (o:Own) (w':World) (o':Own):Prop where
 os:w'.os=w.os
 tape:w'.tape=w.tape
 output:w'.output=w.output
 size:w.heap.size<=w'.heap.size
 own:∀ k,k<w.heap.size->o' k=o k
 block:∀ k,k<w.heap.size->¬ T (o k).1->w'.heap[k]?=w.heap[k]?
def ai:Nat->Prop:=fun _=>False
def ak (D:Nat):Nat->Prop:=fun k=>k=D
section
variable {T T':Nat->Prop}{w w1 w2:World}{o o1 o2:Own}
theorem aj.refl (T:Nat->Prop) (w:World) (o:Own):aj T w o w o:=⟨rfl,rfl,rfl,Nat.le_refl _,fun _ _=>rfl,fun _ _ _=>rfl⟩
theorem aj.trans (h:aj T w o w1 o1) (g:aj T w1 o1 w2 o2):aj T w o w2 o2:=
 ⟨g.os.trans h.os,g.tape.trans h.tape,g.output.trans h.output,Nat.le_trans h.size g.size,
  fun k q=>(g.own k (Nat.lt_of_lt_of_le q h.size)).trans (h.own k q),
  fun k q r=>(g.block k (Nat.lt_of_lt_of_le q h.size) (by rw [h.own k q];exact r)).trans (h.block k q r)⟩
theorem aj.mono (h:aj T w o w1 o1) (q:∀ k,T k->T' k):aj T' w o w1 o1:=
 ⟨h.os,h.tape,h.output,h.size,h.own,fun k r u=>h.block k r (fun E=>u (q _ E))⟩
theorem aj.alloc (h:aj T w o w1 o1) (ob:Obj) (t:Nat × Nat):aj T w o (w1.alloc ob) (Ak o1 w1.heap.size t):=
 h.trans ⟨rfl,rfl,rfl,by simp,fun k q=>BI _ _ om,fun k q _=>Below.heap_alloc _ _ _ q⟩
theorem aj.alloc' (h:aj T w o w1 o1) (ob:Obj):aj T w o (w1.alloc ob) o1:=
 h.trans ⟨rfl,rfl,rfl,by simp,fun _ _=>rfl,fun k q _=>Below.heap_alloc _ _ _ q⟩
theorem aj.drew (h:aj T w o w1 o1):aj T w o w1.drew o1:=⟨h.os,h.tape,h.output,h.size,h.own,h.block⟩
theorem aj.drewN (h:aj T w o w1 o1) (n:Nat):aj T w o (w1.drewN n) o1:=⟨h.os,h.tape,h.output,h.size,h.own,h.block⟩
theorem aj.setCell (h:aj T w o w1 o1) {a:Addr}(v:Value) (q:T (o1 a.block).1 \/ w.heap.size<=a.block):aj T w o (w1.setCell a v) o1:=by
 refine ⟨h.os,h.tape,h.output,by simpa using h.size,h.own,fun k r u => ?_⟩;rw [Below.heap_setCell]
 ·exact h.block k r u
 ·rintro rfl
  rcases q with q | q
  ·rw [h.own _ r] at q;exact u q
  ·omega
theorem aj.nobody {D:Nat}(h:aj (ak D) w o w1 o1) (r:∀ k,k<w.heap.size->(o k).1 ≠ D):aj ai w o w1 o1:=
 ⟨h.os,h.tape,h.output,h.size,h.own,fun k q _=>h.block k q (r k q)⟩
theorem aj.only (h:aj ai w o w1 o1) (D:Nat):aj (ak D) w o w1 o1:=h.mono fun _ x=>x.elim
theorem aj.below (h:aj ai w o w1 o1):Below w.heap.size w w1:=
 ⟨h.os,h.tape,h.output,h.size,fun k q=>h.block k q (fun x=>x)⟩
end
theorem EZ (o:Own) (b:Nat):∀ n:Nat,∃ M,b<=M/\∀ k,k<n->(o k).1<=M
 | 0=>⟨b,Nat.le_refl _,fun k q=>om⟩
 | n+1=>by
  obtain ⟨M,E,r⟩:=EZ o b n;refine ⟨max M (o n).1,om,fun k q => ?_⟩
  by_cases u:k=n
  ·subst u;omega
  ·have:=r k om;omega
theorem KT (o:Own) (n b:Nat):∃ D,b<D/\∀ k,k<n->(o k).1 ≠ D:=by
 obtain ⟨M,u,q⟩:=EZ o b n;exact ⟨M+1,om,fun k r=>by have:=q k r;omega⟩
theorem ah (b:Nat):∀ (vs:List Value) (off:Nat) (w:World) (k:Nat),k ≠ b->(w.setCells b off vs).heap[k]?=w.heap[k]?
 | [],_,_,_,_=>rfl
 | v :: r,off,w,k,h=>by
  rw [World.setCells,ah b r (off+1) _ k h,Below.heap_setCell _ _ _ _ h]
theorem size_setCells (b:Nat):∀ (vs:List Value) (off:Nat) (w:World),(w.setCells b off vs).heap.size=w.heap.size
 | [],_,_=>rfl
 | v :: r,off,w=>by rw [World.setCells,size_setCells b r];simp
theorem JL (b:Nat):∀ (vs:List Value) (off:Nat) (w:World),(w.setCells b off vs).os=w.os/\(w.setCells b off vs).tape=w.tape/\(w.setCells b off vs).output=w.output
 | [],_,_=>⟨rfl,rfl,rfl⟩
 | v :: r,off,w=>by rw [World.setCells];exact JL b r _ _
theorem aj.setCells {T:Nat->Prop}{w w1:World}{o o1:Own}(h:aj T w o w1 o1) (b off:Nat) (vs:List Value) (q:T (o1 b).1 \/ w.heap.size<=b):aj T w o (w1.setCells b off vs) o1:=by
 obtain ⟨e1,e2,E⟩:=JL b vs off w1;refine ⟨e1.trans h.os,e2.trans h.tape,E.trans h.output,by rw [size_setCells];exact h.size,h.own,fun k r u => ?_⟩;rw [ah]
 ·exact h.block k r u
 ·rintro rfl
  rcases q with q | q
  ·rw [h.own _ r] at q;exact u q
  ·omega
theorem BP (b:Nat) (E:TypeId):∀ (vs:List Value) (off:Nat) (w:World) (cs:List Value),w.heap[b]?=some (.cells cs.toArray E (0,0))->off+vs.length<=cs.length ->
  (w.setCells b off vs).heap[b]?=some (.cells (cs.take off++vs++cs.drop (off+vs.length)).toArray E (0,0))
 | [],off,w,cs,h,_=>by simp [World.setCells,h]
 | v :: r,off,w,cs,h,hl=>by
  have hb:=au h;have q:(w.setCell ⟨b,off,none⟩ v).heap[b]?=some (.cells (cs.set off v).toArray E (0,0)):=by
   simp only [World.setCell,Array.getElem?_modify];simp [h]
  rw [World.setCells,BP b E r (off+1) _ _ q (by simp at hl ⊢;omega)];simp only [List.length_cons] at hl ⊢;congr 3;rw [List.take_set,List.drop_set];rw [if_pos om];have:off<cs.length:=om
  rw [List.take_add_one];simp only [List.getElem?_eq_getElem this,Option.toList];rw [List.set_append_right _ _ (by simp;omega)];simp only [List.length_take];rw [Nat.min_eq_left om];simp;congr 1;omega
theorem Ai {w:World}{b i:Nat}{cs:List Value}{E:TypeId}(v:Value) (h:w.heap[b]?=some (.cells cs.toArray E (0,0))) :
  (w.setCell ⟨b,i,none⟩ v).heap[b]?=some (.cells (cs.set i v).toArray E (0,0)):=by
 simp only [World.setCell,Array.getElem?_modify];simp [h]
theorem ag {w:World}{b:Nat}{cs:List Value}{E:TypeId}{fr:Nat × Nat}(h:w.heap[b]?=some (.cells cs.toArray E fr)) (i:Nat):w.cell? ⟨b,i,none⟩=cs[i]?:=by
 simp [World.cell?,h]
theorem Ap {w:World}{b:Nat}{cs:List Value}{E:TypeId}(h:w.heap[b]?=some (.cells cs.toArray E (0,0))) (i:Nat):w.frozen? ⟨b,i,none⟩=false:=by
 simp [World.frozen?,h]
theorem BU {w:World}{b:Nat}{cs:List Value}{E:TypeId}{fr:Nat × Nat}(h:w.heap[b]?=some (.cells cs.toArray E fr)) (off n:Nat):w.rangeAt b off ((cs.drop off).take n):=by
 intro j v q;rw [ag h];rw [List.getElem?_take] at q;split at q
 ·simpa using q
 ·cases q
theorem Dh {w:World}{b:Nat}{cs:List Value}{E:TypeId}(h:w.heap[b]?=some (.cells cs.toArray E (0,0))) (off n:Nat) (hn:off+n<=cs.length):w.there b off n:=by
 intro j q;refine ⟨?_,Ap h _⟩;rw [ag h,List.getElem?_eq_getElem om];rfl
theorem AV {w:World}{b:Nat}{cs:List Value}{E:TypeId}{fr:Nat × Nat}(h:w.heap[b]?=some (.cells cs.toArray E fr)):w.rangeAt b 0 cs:=by
 have:=BU h 0 cs.length
 simpa using this
theorem Cf {w w':World}{b off:Nat}{cs:List Value}(h:w.rangeAt b off cs) (e:w'.heap[b]?=w.heap[b]?):w'.rangeAt b off cs:=fun j v q=>by
 rw [World.cell?_of_block (w:=w) (a:=⟨b,off+j,none⟩) e];exact h j v q
theorem ER {w:World}{b off:Nat}{cs:List Value}(h:w.rangeAt b off cs) (i n:Nat):w.rangeAt b (off+i) ((cs.drop i).take n):=fun j v q=>by
 rw [List.getElem?_take] at q;split at q
 ·have:=h (i+j) v (by simpa using q)
  rwa [<-Nat.add_assoc] at this
 ·cases q
theorem Be (w:World) (zs:Array Value) (E:TypeId) (vs:List Value) (hl:zs.size=vs.length) :
  (w.alloc (.cells zs E)).setCells w.heap.size 0 vs=w.alloc (.cells vs.toArray E):=by
 have O:=BP w.heap.size E vs 0 (w.alloc (.cells zs E)) zs.toList (by simpa using heap_alloc_new w (.cells zs E)) (by simp [hl]);obtain ⟨e1,e2,q⟩:=JL w.heap.size vs 0 (w.alloc (.cells zs E));have u:((w.alloc (.cells zs E)).setCells w.heap.size 0 vs).drawn=w.drawn:=by
  have:∀ (vs:List Value) (off:Nat) (x:World),(x.setCells w.heap.size off vs).drawn=x.drawn:=by
   intro vs
   induction vs with
   | nil=>intros;rfl
   | cons v r U=>intro off x;rw [World.setCells,U];rfl
  rw [this];rfl
 have F:((w.alloc (.cells zs E)).setCells w.heap.size 0 vs).heap=(w.alloc (.cells vs.toArray E)).heap:=by
  apply Array.ext_getElem?;intro i
  by_cases J:i=w.heap.size
  ·subst J;rw [O,heap_alloc_new];simp [hl]
  ·rw [ah _ _ _ _ _ J];simp only [World.alloc,Array.getElem?_push,J,if_false]
 revert e1 e2 q u F
 generalize (w.alloc (.cells zs E)).setCells w.heap.size 0 vs=x;intro e1 e2 q u F
 cases x
 simp only at e1 e2 q u F;subst e1 e2 q u F;rfl
theorem ae {p:Prop}(h:p):Hid p:=h
def sH (w:World) (o:Own) (v:Value) (n:Nat) (cs:List Value):Prop:=
 ((∃ a c,v = .slice a 0 c)/\n=0/\cs=[]) \/ ∃ b off cap,v = .slice (some ⟨b,off,none⟩) n cap/\n<=cap/\cap<=maxLen/\(o b).1=0/\b<w.heap.size/\w.rangeAt b off cs
theorem sH.step {T:Nat->Prop}{w w':World}{o o':Own}{v:Value}{n:Nat}{cs:List Value}(h:sH w o v n cs) (s:aj T w o w' o') (r:¬ T 0):sH w' o' v n cs:=by
 rcases h with h | ⟨b,off,cap,hv,hl,u,q,hb,E⟩
 ·exact .inl h
 ·exact .inr ⟨b,off,cap,hv,hl,u,by rw [s.own b hb];exact q,Nat.lt_of_lt_of_le hb s.size,Cf E (s.block b hb (by rw [q];exact r))⟩
theorem Aq {w:World}{o:Own}{v:Value}{n:Nat}{cs:List Value}(h:sH w o v n cs):∃ a c,v = .slice a n c:=by
 rcases h with ⟨⟨a,c,rfl⟩,rfl,_⟩ | ⟨b,off,cap,rfl,_⟩ <;> exact ⟨_,_,rfl⟩
def Bytes (w:World) (o:Own) (v:Value) (l:List UInt8):Prop:=sH w o v l.length (bvs l)
theorem Bytes.cases {w:World}{o:Own}{v:Value}{l:List UInt8}(h:Bytes w o v l):((∃ a c,v = .slice a 0 c)/\l=[]) \/
  ∃ b off cap,v = .slice (some ⟨b,off,none⟩) l.length cap/\l.length<=cap/\cap<=maxLen/\(o b).1=0/\b<w.heap.size/\w.rangeAt b off (bvs l):=by
 rcases h with ⟨q,r,_⟩ | h
 ·exact .inl ⟨q,List.eq_nil_of_length_eq_zero r⟩
 ·exact .inr h
theorem Bytes.nil (w:World) (o:Own):Bytes w o (.slice none 0 0) [] := .inl ⟨⟨_,_,rfl⟩,rfl,rfl⟩
theorem Bytes.step {T:Nat->Prop}{w w':World}{o o':Own}{v:Value}{l:List UInt8}(h:Bytes w o v l) (s:aj T w o w' o') (q:¬ T 0):Bytes w' o' v l:=sH.step h s q
def XL (T:Nat->Prop) (w:World) (o:Own) (Q:Value->World->Own->Prop):Ending->World->Prop:=
 fun e w'=>∃ v o',e = .returned v/\aj T w o w' o'/\Q v w' o'
section
variable {P:Program}{ops:Array Oper}{rest:List Oper}{op:Oper}{a:Act}{w:World}{Q:Exit->Act->World->Prop}
theorem AB (w:World) (ty:TypeId) (zs:Array Value) (q:((P.info? ty).bind (·.zero)).map (·.cells)=some zs) :
  (Instr.alloc ty true (.tuple #[])).run P w = .ok (.pointer (some ⟨w.heap.size,0,none⟩)) (w.alloc (.cells zs ty)):=by
 cases r:P.info? ty with
 | none=>simp [r] at q
 | some i =>
  cases hq:i.zero with
  | none=>simp [r,hq] at q
  | some z =>
   simp only [r,hq,Option.bind_some,Option.map_some,Option.some.injEq] at q;subst q;simp [Instr.alloc,zeroValue,typeInfo,r,hq,newVar,newRow]
end
theorem Gn (zs:Array Value):∀ n:Nat,(madeCells zs (n*zs.size)).toList=(List.replicate n zs.toList).flatten
 | 0=>by simp [madeCells]
 | n+1=>by
  have u:=Gn zs n;rw [List.replicate_succ',List.flatten_append, <-u];apply List.ext_getElem
  ·simp [madeCells,Nat.add_mul]
  ·intro i q F;simp only [madeCells,Array.length_toList,Array.size_map,Array.size_range] at q;simp only [madeCells,Array.getElem_toList,Array.getElem_map,Array.getElem_range,List.getElem_append,Array.length_toList,Array.size_map,Array.size_range];split
   ·rfl
   ·rename_i hlt;have r:i - n*zs.size<zs.size:=by rw [Nat.add_mul] at q;omega
    have E:i % zs.size=i - n*zs.size:=by
     have e:i=(i - n*zs.size)+n*zs.size:=om
     have:=Nat.add_mul_mod_self_right (i - n*zs.size) n zs.size;rw [<-e] at this;rw [this,Nat.mod_eq_of_lt r]
    simp [E,r]
theorem Gy {P:Program}(w:World) (t e:TypeId) (zs:List Value) (size bytes:Nat) (r:P.underlying t=some (.slice e))
  (hi:(P.info? e).map (fun i=>(i.zero.map (fun z=>z.cells.toList),i.size,i.bytes))=some (some zs,size,bytes)) (u:zs.length=size) (n:Nat) (hb:bytes*n<=281474976710656) (U:n<=9223372036854775807) (k kc:IntKind) :
  (Instr.makeSlice t (.int k (n:Int)) (.int kc (n:Int))).run P w = .ok (.slice (some ⟨w.heap.size,0,none⟩) n n) (w.alloc (.cells (List.replicate n zs).flatten.toArray e)):=by
 cases hq:P.info? e with
 | none=>simp [hq] at hi
 | some i =>
  cases q:i.zero with
  | none=>simp [hq,q] at hi
  | some z =>
   simp only [hq,q,Option.map_some,Option.some.injEq,Prod.mk.injEq] at hi;obtain ⟨e1,e2,E⟩:=hi;have F:(i.bytes:Int)*(n:Int)<=281474976710656:=by
    have h:((i.bytes*n:Nat):Int)<=281474976710656:=by rw [E];omega
    rwa [Int.natCast_mul] at h
   have J:=run_make (P:=P) w t e i z r hq q k kc n n om (Int.le_refl _) F om;rw [J];have O:z.cells.size=i.size:=by rw [e2, <-u, <-e1];simp
   have:=Gn z.cells n;rw [e1,O] at this;simp only [Int.toNat_natCast];rw [<-this]
structure Af where
 pages:List (List UInt8)
 row:List (Nat × List UInt8)
 left:Int
 dead:Bool
namespace Af
def wf (d:Af):Prop:=
 1<=d.pages.length/\d.pages.length<=4096/\(∀ p ∈ d.pages,p.length=512)/\(∀ x ∈ d.row,x.1<d.pages.length/\x.2.length=512) /\ -1<=d.left/\d.left<=9223372036854775807
def asked (d:Af) (at' n:Int):Int:=if d.dead then 9 else if at'<0 \/ (d.pages.length:Int)<=at' \/ n ≠ 512 then 1 else 0
def counted (d:Af) (e:Int):Af × Int:=
 if e ≠ 0 \/ d.left<0 then (d,e) else if d.left=0 then ({ d with dead:=true },9) else ({ d with left:=d.left - 1 },0)
def seenIn (at':Nat) (p:List UInt8) (row:List (Nat × List UInt8)):List UInt8:=row.foldl (fun p x=>if x.1=at' then x.2 else p) p
def seen (d:Af) (at':Nat):List UInt8:=seenIn at' (d.pages.getD at' []) d.row
def read (d:Af) (at':Int):List UInt8 × Int:=if d.asked at' 512 ≠ 0 then ([],d.asked at' 512) else (d.seen at'.toNat,0)
def write (d:Af) (at':Int) (b:List UInt8):Af × Int:=
 let c:=d.counted (d.asked at' b.length)
 if c.2 ≠ 0 then c else ({ c.1 with row:=c.1.row++[(at'.toNat,b)] },0)
def CG (n:Nat) (new old:List UInt8):List UInt8:=new.take n++old.drop n
def Gf (f:Nat->Nat) (pages:List (List UInt8)) (x:(Nat × List UInt8) × Nat):List (List UInt8):=
 pages.set x.1.1 (CG (f x.2) x.1.2 (pages.getD x.1.1 []))
def Dk (f:Nat->Nat) (pages:List (List UInt8)) (row:List (Nat × List UInt8)):List (List UInt8):=row.zipIdx.foldl (Gf f) pages
def done (d:Af) (f:Nat->Nat):Af:={ d with pages:=Dk f d.pages d.row,row:=[] }
def sync (d:Af):Af × Int:=
 let c:=d.counted (d.asked 0 512)
 if c.2 ≠ 0 then c else (c.1.done fun _=>512,0)
def bG (d:Af) (n:Int):Af:=if d.dead then d else { d with left:=max (-1) n }
def kill (d:Af):Af:={ d with dead:=true }
def Xm (Bz:List Int) (i:Nat):Nat:=((Bz.getD i 0) % 513).toNat
def BJ (d:Af) (Bz:List Int):Af:={ d.done (Xm Bz) with dead:=false,left := -1 }
def blank:List UInt8:=List.replicate 512 0
def new (n:Nat):Af:={ pages:=List.replicate n blank,row:=[],left := -1,dead:=false }
theorem eG (Bz:List Int) (i:Nat):Xm Bz i<=512:=by unfold Xm;omega
theorem MR {n:Nat}{a b:List UInt8}(q:a.length=512) (hb:b.length=512) (hn:n<=512):(CG n a b).length=512:=by
 simp [CG];omega
theorem OX {pages:List (List UInt8)}(h:∀ p ∈ pages,p.length=512) {i:Nat}(hi:i<pages.length):(pages.getD i []).length=512:=by
 simp only [List.getD_eq_getElem?_getD,List.getElem?_eq_getElem hi,Option.getD_some];exact h _ (List.getElem_mem hi)
theorem Xp (f:Nat->Nat) (q:∀ i,f i<=512) {pages:List (List UInt8)}(h:∀ p ∈ pages,p.length=512) (x:(Nat × List UInt8) × Nat) (r:x.1.1<pages.length) (hl:x.1.2.length=512) :
  (Gf f pages x).length=pages.length/\∀ p ∈ Gf f pages x,p.length=512:=by
 refine ⟨by simp [Gf],fun p hp => ?_⟩
 rcases List.mem_or_eq_of_mem_set hp with hp | rfl
 ·exact h p hp
 ·exact MR hl (OX h r) (q _)
theorem Hg (d:Af) (e:Int):(d.counted e).1.pages=d.pages/\(d.counted e).1.row=d.row:=by
 unfold counted;split
 ·exact ⟨rfl,rfl⟩
 ·split <;> exact ⟨rfl,rfl⟩
end Af
def Ei (row:List (Nat × List UInt8)):List Value:=row.flatMap fun x=>Value.int .i64 (x.1:Int) :: bvs x.2
theorem QH (row:List (Nat × List UInt8)) (x:Nat × List UInt8):Ei (row++[x])=Ei row++(Value.int .i64 (x.1:Int) :: bvs x.2):=by simp [Ei]
theorem Jm:∀ (row:List (Nat × List UInt8)) (i:Nat) (hi:i<row.length),(∀ x ∈ row,x.2.length=512)->((Ei row).drop (i*513)).take 513=Value.int .i64 (row[i].1:Int) :: bvs row[i].2
 | x :: r,0,_,h=>by
  have q:=h x (by simp);simp only [Ei,List.flatMap_cons,Nat.zero_mul,List.drop_zero,List.getElem_cons_zero];rw [List.take_left'];simp [q]
 | x :: r,i+1,hi,h=>by
  have q:=h x (by simp);have u:=Jm r i (by simpa using hi) (fun y E=>h y (by simp [E]));simp only [Ei,List.flatMap_cons,List.getElem_cons_succ];rw [show (i+1)*513=(Value.int .i64 (x.1:Int) :: bvs x.2).length+i*513 from by simp [q];omega,List.drop_append];rw [List.drop_eq_nil_of_le om,List.nil_append,Nat.add_sub_cancel_left];exact u
theorem RP:∀ (pages:List (List UInt8)) (i:Nat),i<pages.length->(∀ p ∈ pages,p.length=512)->(pages.flatten.drop (i*512)).take 512=pages.getD i []
 | x :: r,0,_,h=>by
  have q:=h x (by simp);simp only [List.flatten_cons,Nat.zero_mul,List.drop_zero];rw [List.take_left' q];rfl
 | x :: r,i+1,hi,h=>by
  have q:=h x (by simp);have u:=RP r i (by simpa using hi) (fun y E=>h y (by simp [E]));simp only [List.flatten_cons];rw [show (i+1)*512=x.length+i*512 from by rw [q];omega,List.drop_append];rw [List.drop_eq_nil_of_le om,List.nil_append,Nat.add_sub_cancel_left];exact u
theorem MS:∀ (pages:List (List UInt8)),(∀ p ∈ pages,p.length=512)->pages.flatten.length=pages.length*512
 | [],_=>rfl
 | x :: r,h=>by
  have:=MS r (fun y q=>h y (by simp [q]));have u:=h x (by simp);simp only [List.flatten_cons,List.length_append,List.length_cons];omega
theorem Ro:∀ (pages:List (List UInt8)) (i:Nat) (q:List UInt8),i<pages.length->(∀ p ∈ pages,p.length=512)->q.length<=512 ->
  pages.flatten.take (i*512)++q++pages.flatten.drop (i*512+q.length)=(pages.set i (q++(pages.getD i []).drop q.length)).flatten
 | x :: r,0,q,_,h,hq=>by
  have u:=h x (by simp);simp only [List.flatten_cons,Nat.zero_mul,List.take_zero,List.nil_append,Nat.zero_add,DL,List.getD_cons_zero,List.append_assoc];rw [List.drop_append_of_le_length om]
 | x :: r,i+1,q,hi,h,hq=>by
  have u:=h x (by simp);have E:=Ro r i q (by simpa using hi) (fun y F=>h y (by simp [F])) hq;simp only [List.flatten_cons,lss,List.getD_cons_succ];rw [<-E];rw [show (i+1)*512=x.length+i*512 from by rw [u];omega,List.take_length_add_append,Nat.add_assoc,List.drop_length_add_append];simp [List.append_assoc]
def Bg (w:World) (o:Own) (D p:Nat) (d:Af):Prop:=
 ∃ bl rv,
  w.heap[p]?=some (.cells #[.slice (some ⟨bl,0,none⟩) d.pages.length d.pages.length,rv, .int .i64 d.left, .bool d.dead] 130 (0,0)) /\
  w.heap[bl]?=some (.cells (bvs d.pages.flatten).toArray 218 (0,0)) /\
  w.ownsRow 0 220 513 rv d.row.length (Ei d.row) /\
  o p=(D,0)/\o bl=(D,1)/\(∀ k,rv.ownBlock=some k->o k=(D,2))/\d.wf
theorem Ci {w w':World}{base:Nat}{e:TypeId}{size:Nat}{v:Value}{n:Nat}{xs:List Value}(h:w.ownsRow base e size v n xs)
  (q:∀ k,v.ownBlock=some k->w'.heap[k]?=w.heap[k]?):w'.ownsRow base e size v n xs:=by
 refine ⟨h.1, ?_⟩
 rcases h.2 with hn | ⟨g,cap,cur,rfl,hb,r,u⟩
 ·exact .inl hn
 ·exact .inr ⟨g,cap,cur,rfl,hb,by rw [q g rfl];exact r,u⟩
theorem Bg.step {T:Nat->Prop}{w w':World}{o o':Own}{D p:Nat}{d:Af}(h:Bg w o D p d) (s:aj T w o w' o') (r:¬ T D):Bg w' o' D p d:=by
 obtain ⟨u,Y,hp,hl,E,F,J,O,a2⟩:=h;have U:=au hp;have W:=au hl;refine ⟨u,Y, ?_, ?_, ?_, ?_, ?_, ?_,a2⟩
 ·rw [s.block p U (by rw [F];exact r)];exact hp
 ·rw [s.block u W (by rw [J];exact r)];exact hl
 ·exact Ci E fun k q=>s.block k (E.lt k q).2 (by rw [O k q];exact r)
 ·rw [s.own p U];exact F
 ·rw [s.own u W];exact J
 ·intro k q;rw [s.own k (E.lt k q).2];exact O k q
theorem Bg.wf {w:World}{o:Own}{D p:Nat}{d:Af}(h:Bg w o D p d):d.wf:=by
 obtain ⟨r,u,hp,hl,E,F,J,O,q⟩:=h;exact q
theorem Bg.lt {w:World}{o:Own}{D p:Nat}{d:Af}(h:Bg w o D p d):p<w.heap.size:=by
 obtain ⟨q,r,hp,hl,u,E,F,J,O⟩:=h;exact au hp
theorem Bg.open {w:World}{o:Own}{D p:Nat}{d:Af}(h:Bg w o D p d):∃ q rv,
  (w.cell? ⟨p,0,none⟩=some (.slice (some ⟨q,0,none⟩) d.pages.length d.pages.length)/\w.cell? ⟨p,1,none⟩=some rv/\w.cell? ⟨p,2,none⟩=some (.int .i64 d.left)/\w.cell? ⟨p,3,none⟩=some (.bool d.dead)) /\
  (w.frozen? ⟨p,1,none⟩=false/\w.frozen? ⟨p,2,none⟩=false/\w.frozen? ⟨p,3,none⟩=false) /\
  w.heap[q]?=some (.cells (bvs d.pages.flatten).toArray 218 (0,0))/\w.ownsRow 0 220 513 rv d.row.length (Ei d.row) /\
  o p=(D,0)/\o q=(D,1)/\(∀ k,rv.ownBlock=some k->o k=(D,2)):=by
 obtain ⟨q,rv,hp,hl,r,u,E,F,J⟩:=h;exact ⟨q,rv,⟨ag hp 0,ag hp 1,ag hp 2,ag hp 3⟩,⟨Ap hp 1,Ap hp 2,Ap hp 3⟩,hl,r,u,E,F⟩
theorem Bg.dG {w:World}{o:Own}{D p:Nat}{d:Af}(h:Bg w o D p d) (n:Int) (hn : -1<=n/\n<=9223372036854775807):Bg (w.setCell ⟨p,2,none⟩ (.int .i64 n)) o D p { d with left:=n }:=by
 obtain ⟨E,F,hp,hl,J,q,r,u,O⟩:=h;refine ⟨E,F,Ai _ hp, ?_, ?_,q,r,u, ?_⟩
 ·rw [Below.heap_setCell _ _ _ _ (by rintro rfl;rw [q] at r;simp at r)];exact hl
 ·refine Ci J fun k U=>Below.heap_setCell _ _ _ _ ?_;rintro rfl;have:=u _ U;rw [q] at this;simp at this
 ·obtain ⟨W,Y,h3,h4,h5,h6⟩:=O;exact ⟨W,Y,h3,h4,hn.1,hn.2⟩
theorem Bg.Ik {w:World}{o:Own}{D p:Nat}{d:Af}(h:Bg w o D p d) (b:Bool):Bg (w.setCell ⟨p,3,none⟩ (.bool b)) o D p { d with dead:=b }:=by
 obtain ⟨E,F,hp,hl,J,q,r,u,O⟩:=h;refine ⟨E,F,Ai _ hp, ?_, ?_,q,r,u,O⟩
 ·rw [Below.heap_setCell _ _ _ _ (by rintro rfl;rw [q] at r;simp at r)];exact hl
 ·refine Ci J fun k U=>Below.heap_setCell _ _ _ _ ?_;rintro rfl;have:=u _ U;rw [q] at this;simp at this
theorem Bg.ofD {w:World}{o:Own}{D p:Nat}{d:Af}(h:Bg w o D p d):(o p).1=D:=by
 obtain ⟨r,u,hp,hl,E,q,F,J,O⟩:=h;rw [q]
theorem Bg.DC {w:World}{o:Own}{D p:Nat}{d:Af}(h:Bg w o D p d) (i:Nat) (v:Value):aj (ak D) w o (w.setCell ⟨p,i,none⟩ v) o:=
 (aj.refl _ w o).setCell v (.inl h.ofD)
theorem Ic {w:World}{o:Own}{D p:Nat}{d:Af}(h:Bg w o D p d) :
  Calls prog 118 #[.pointer (some ⟨p,0,none⟩)] w fun e w'=>e = .returned (.bool d.dead)/\w=w':=by
 obtain ⟨F,J,⟨O,c1,c2,U⟩,⟨W,Y,f3⟩,hl,q,r,u,E⟩:=h.open;clear r u E q hl;go_enter func118,ntmps118
 go_wp2
 go_ret;exact ⟨rfl,rfl⟩
theorem aQ {w:World}{o:Own}{D p:Nat}{d:Af}(h:Bg w o D p d) :
  Calls prog 49 #[.pointer (some ⟨p,0,none⟩)] w (XL (ak D) w o fun v w' o'=>v = .tuple #[]/\Bg w' o' D p d.kill):=by
 have q:=h.DC 3 (.bool true);have r:=h.Ik true;obtain ⟨O,U,⟨W,c1,c2,Y⟩,⟨f1,f2,f3⟩,hl,u,E,F,J⟩:=h.open;clear E F J u hl;go_enter func49,ntmps49
 go_wp2
 go_end0
 exact ⟨_,o,rfl,q,rfl,r⟩
theorem Zg {w:World}{o:Own}{D p:Nat}{d:Af}(h:Bg w o D p d) (at' n:Int) :
  Calls prog 228 #[.pointer (some ⟨p,0,none⟩), .int .i64 at', .int .i64 n] w fun e w'=>e = .returned (.int .i64 (d.asked at' n))/\w=w':=by
 obtain ⟨bl,rv,⟨c0,c1,c2,F⟩,⟨f1,f2,f3⟩,hl,U,W,Y,wI⟩:=h.open;clear W Y wI U hl
 by_cases E:d.dead=true
 ·rw [E] at F;have q:d.asked at' n=9:=by simp [Af.asked,E]
  rw [q];go_enter func228,ntmps228
  go_wp2
  go_ret;exact ⟨rfl,rfl⟩
 ·have r:d.dead=false:=by simpa using E
  rw [r] at F
  by_cases J:at'<0
  ·have q:d.asked at' n=1:=by simp [Af.asked,r,J]
   rw [q];go_enter func228,ntmps228
   go_wp2
   go_ret;exact ⟨rfl,rfl⟩
  ·by_cases O:(d.pages.length:Int)<=at'
   ·have q:d.asked at' n=1:=by simp [Af.asked,r,O]
    rw [q];go_enter func228,ntmps228
    go_wp2
    go_ret;exact ⟨rfl,rfl⟩
   ·by_cases u:n=512
    ·have q:d.asked at' n=0:=by simp [Af.asked,r,J,O,u]
     rw [q];subst u;go_enter func228,ntmps228
     go_wp2
     go_ret;exact ⟨rfl,rfl⟩
    ·have q:d.asked at' n=1:=by simp [Af.asked,r,u]
     rw [q];have a2:(n != 512)=true:=by simpa using u
     clear u;go_enter func228,ntmps228
     go_wp2
     go_ret;exact ⟨rfl,rfl⟩
theorem VS {w:World}{o:Own}{D p:Nat}{d:Af}(h:Bg w o D p d) (n:Int) :
  Calls prog 256 #[.pointer (some ⟨p,0,none⟩), .int .i64 n] w (XL (ak D) w o fun v w' o'=>v = .int .i64 (d.counted n).2/\Bg w' o' D p (d.counted n).1):=by
 have O:=h.wf;obtain ⟨-, -, -, -,U,W⟩:=O;obtain ⟨bl,rv,⟨c0,c1,c2,c3⟩,⟨f1,f2,f3⟩,hl,Y,op,ol,wI⟩:=h.open;clear op ol wI Y hl
 by_cases u:n=0
 ·subst u
  by_cases E:d.left<0
  ·have q:d.counted 0=(d,0):=by simp [Af.counted,E]
   rw [q];go_enter func256,ntmps256
   go_wp2
   go_ret;exact ⟨_,o,rfl,aj.refl _ _ _,rfl,h⟩
  ·by_cases r:d.left=0
   ·have q:d.counted 0=({ d with dead:=true },9):=by simp [Af.counted,r]
    rw [q];rw [r] at c2;have F:=h.DC 3 (.bool true);have J:=h.Ik true;clear r E U W;go_enter func256,ntmps256
    go_wp2
    go_ret;exact ⟨_,o,rfl,F,rfl,J⟩
   ·have q:d.counted 0=({ d with left:=d.left - 1 },0):=by simp [Af.counted,E,r]
    rw [q];have F:=h.DC 2 (.int .i64 (d.left - 1));have J:=h.dG (d.left - 1) om;have a2:(d.left == 0)=false:=by simpa using r
    clear r;go_enter func256,ntmps256
    go_wp2
    go_ret;exact ⟨_,o,rfl,F,rfl,J⟩
 ·have q:d.counted n=(d,n):=by simp [Af.counted,u]
  rw [q];have a3:(n != 0)=true:=by simpa using u
  clear u;go_enter func256,ntmps256
  go_wp2
  go_ret;exact ⟨_,o,rfl,aj.refl _ _ _,rfl,h⟩
theorem AxM {w:World}{o:Own}{D p:Nat}{d:Af}(h:Bg w o D p d) (n:Int) (hn:n<=9223372036854775807) :
  Calls prog 86 #[.pointer (some ⟨p,0,none⟩), .int .i64 n] w (XL (ak D) w o fun v w' o'=>v = .tuple #[]/\Bg w' o' D p (d.bG n)):=by
 obtain ⟨Y,rv,⟨c0,c1,c2,F⟩,⟨f1,f2,f3⟩,hl,J,O,U,W⟩:=h.open;clear O U W J hl
 by_cases q:d.dead=true
 ·rw [q] at F;have r:d.bG n=d:=by simp [Af.bG,q]
  rw [r];go_enter func86,ntmps86
  go_wp2
  go_end0
  exact ⟨_,o,rfl,aj.refl _ _ _,rfl,h⟩
 ·have u:d.dead=false:=by simpa using q
  rw [u] at F;have r:d.bG n={ d with left:=max (-1) n }:=by simp [Af.bG,u]
  rw [r];clear r u q
  by_cases a2:n <= -1
  ·rw [show max (-1) n = -1 from by omega];have E:=h.DC 2 (.int .i64 (-1));have q:=h.dG (-1) om;go_enter func86,ntmps86
   go_wp2
   go_end0
   exact ⟨_,o,rfl,E,rfl,q⟩
  ·rw [show max (-1) n=n from by omega];have E:=h.DC 2 (.int .i64 n);have q:=h.dG n om;go_enter func86,ntmps86
   go_wp2
   go_end0
   exact ⟨_,o,rfl,E,rfl,q⟩
theorem size_any {w:World}{o:Own}{D p:Nat}{d:Af}(h:Bg w o D p d) :
  Calls prog 119 #[.pointer (some ⟨p,0,none⟩)] w fun e w'=>e = .returned (.int .i64 d.pages.length)/\w=w':=by
 obtain ⟨F,J,⟨O,c1,c2,U⟩,⟨W,Y,f3⟩,hl,q,r,u,E⟩:=h.open;clear r u E q hl;go_enter func119,ntmps119
 go_wp2
 go_ret;exact ⟨rfl,rfl⟩
theorem UH {w:World}{rv:Value}{n:Nat}{xs:List Value}(h:w.ownsRow 0 220 513 rv n xs):∃ a cap,rv = .slice a n cap:=by
 rcases h.2 with ⟨rfl,rfl⟩ | ⟨g,cap,cur,rfl,_⟩
 ·exact ⟨_,_,rfl⟩
 ·exact ⟨_,_,rfl⟩
theorem VJ (off:Nat):∀ (vs:List Value) (j:Nat) (cs:List Value),off+j+vs.length<=cs.length ->
  (((vs.zipIdx j).foldl (fun (cs:Array Value) x=>cs.setIfInBounds (off+x.2) x.1) cs.toArray):Array Value)=(cs.take (off+j)++vs++cs.drop (off+j+vs.length)).toArray
 | [],j,cs,_=>by simp
 | v :: r,j,cs,h=>by
  simp only [List.zipIdx_cons,List.foldl_cons,GL];rw [VJ off r (j+1) _ (by simp at h ⊢;omega)];simp only [List.length_cons] at h ⊢;congr 1;rw [List.take_set,List.drop_set,if_pos om];rw [show off+(j+1)=(off+j)+1 from by omega,List.take_add_one];have q:off+j<cs.length:=om
  simp only [List.getElem?_eq_getElem q,Option.toList];rw [List.set_append_right _ _ (by simp;omega)];simp only [List.length_take];rw [Nat.min_eq_left om];simp;congr 1;omega
theorem LU (off:Nat) (vs cs:List Value) (h:off+vs.length<=cs.length) :
  (vs.toArray.zipIdx.foldl (fun (cs:Array Value) (x:Value × Nat)=>cs.setIfInBounds (off+x.2) x.1) cs.toArray:Array Value)=(cs.take off++vs++cs.drop (off+vs.length)).toArray:=by
 have:=VJ off vs 0 cs (by simpa using h);simp only [Nat.add_zero] at this;rw [<-this, <-Array.foldl_toList];congr 1;simp
section
variable {P:Program}
theorem QG (w:World) (t:TypeId) (r u:Field) (zs:List Value) (v0 v1:Value) (q c1:List Value)
  (hu:P.underlying t=some (.struct #[r,u])) (E:((P.info? t).bind (·.zero)).map (fun z=>z.cells.toList)=some zs)
  (h0:r.offset=0) (h1:u.offset=q.length) (s0:(P.info? r.type).map (·.size)=some q.length) (J:(P.info? u.type).map (·.size)=some c1.length)
  (hl:zs.length=q.length+c1.length) (e0:v0.cells=q.toArray) (e1:v1.cells=c1.toArray) :
  (Instr.build t #[(0,v0),(1,v1)]).run P w = .ok (.agg (q++c1).toArray) w:=by
 cases F:P.info? t with
 | none=>simp [F] at E
 | some i =>
  cases hq:i.zero with
  | none=>simp [F,hq] at E
  | some z =>
   cases O:P.info? r.type with
   | none=>simp [O] at s0
   | some i0 =>
    cases U:P.info? u.type with
    | none=>simp [U] at J
    | some i1 =>
     simp only [F,hq,Option.bind_some,Option.map_some,Option.some.injEq] at E;simp only [O,Option.map_some,Option.some.injEq] at s0;simp only [U,Option.map_some,Option.some.injEq] at J;have a2:z.cells=zs.toArray:=by rw [<-E]
     have W:=LU 0 q zs om;have Y:=LU q.length c1 (q++zs.drop q.length) (by simp;omega);have a3:(zs.take 0++q++zs.drop (0+q.length))=q++zs.drop q.length:=by simp
     rw [a3] at W;have a4:((q++zs.drop q.length).take q.length++c1++(q++zs.drop q.length).drop (q.length+c1.length))=q++c1:=by
      rw [List.take_left,List.drop_eq_nil_of_le (by simp;omega)];simp
     rw [a4] at Y;have hp:∀ x:World,(program).run P x = .ok P x:=fun _=>rfl;simp only [Instr.build,zeroValue,typeInfo,sizeOf,Sem.run_bind,hp,Result.andThen_ok,F,hq,Sem.run_pure,run_underlying hu,a2];simp only [List.mapM_toArray,List.mapM_cons,List.mapM_nil,Sem.run_bind,Sem.run_map,hp,Result.andThen_ok,O,U,Sem.run_pure,s0,J,h0,h1];simp only [Instr.fill,e0,e1,List.size_toArray];simp;rw [if_neg om];simp at W Y;rw [W];simp;rw [if_neg om,Y];simp
theorem Dv (w:World) (t e:TypeId) (zs:List Value) (v:Value) (c:List Value) (E:P.underlying t=some (.slice e))
  (q:(P.info? e).map (fun i=>(i.zero.map (fun z=>z.cells.toList),i.size))=some (some zs,c.length)) (hl:zs.length=c.length) (hc:0<c.length) (Y:c.length<=16777216) (F:v.cells=c.toArray) :
  (Instr.buildSlice t 1 #[(0,v)]).run P w = .ok (.slice (some ⟨w.heap.size,0,none⟩) 1 1) (w.alloc (.cells c.toArray e)):=by
 cases r:P.info? e with
 | none=>simp [r] at q
 | some i =>
  cases hq:i.zero with
  | none=>simp [r,hq] at q
  | some z =>
   simp only [r,hq,Option.map_some,Option.some.injEq,Prod.mk.injEq] at q;obtain ⟨q,J⟩:=q;have O:z.cells=zs.toArray:=by rw [<-q]
   have hp:∀ x:World,(program).run P x = .ok P x:=fun _=>rfl;have U:(Array.map (fun x=>zs.toArray[x % zs.toArray.size]!) (Array.range (1*c.length)))=zs.toArray:=by
    have:=Gn zs.toArray 1;simp only [madeCells,List.size_toArray,hl] at this;apply Array.toList_inj.1
    simpa [hl] using this
   have u:=LU 0 c zs om;have W:(zs.take 0++c++zs.drop (0+c.length))=c:=by simp;omega
   rw [W] at u;simp only [Instr.buildSlice,sizeOf,zeroValue,typeInfo,Sem.run_bind,hp,Result.andThen_ok,run_underlying E,r,Sem.run_pure,J];rw [if_neg om,if_neg om];simp only [Sem.run_bind,Sem.run_pure,hp,Result.andThen_ok,r,hq,O,U];simp only [Instr.fill,F,List.size_toArray];simp;rw [if_neg om];simp at u;rw [u];simp [newRow]
theorem TQ {e:TypeId}{zs:List Value}{size bytes:Nat}(hi:(P.info? e).map (fun i=>(i.zero.map (fun z=>z.cells.toList),i.size,i.bytes))=some (some zs,size,bytes)) :
  ∃ i z,P.info? e=some i/\i.zero=some z/\i.size=size/\i.bytes=bytes/\z.cells=zs.toArray:=by
 cases hq:P.info? e with
 | none=>simp [hq] at hi
 | some i =>
  cases q:i.zero with
  | none=>simp [hq,q] at hi
  | some z =>
   simp only [hq,q,Option.map_some,Option.some.injEq,Prod.mk.injEq] at hi;obtain ⟨e1,e2,r⟩:=hi;exact ⟨i,z,rfl,q,e2,r,by rw [<-e1]⟩
theorem DD (W:World) (t ty e:TypeId) {base:Nat}{zs:List Value}{size bytes:Nat}(r:P.underlying t=some (.slice e))
  (hi:(P.info? e).map (fun i=>(i.zero.map (fun z=>z.cells.toList),i.size,i.bytes))=some (some zs,size,bytes)) (E:zs.length=size) (F:0<size) (J:base<=W.heap.size)
  (v:Value) (n:Nat) (xs:List Value) (O:W.ownsRow base e size v n xs) (b off m c:Nat) (q:List Value) (hl:q.length=m*size) (U:W.rangeAt b off q) (Y:∀ u ∈ q,u.oneCell'=true)
  (hm:0<m) (a2:n+m<=9223372036854775807) (a3:(n+m)*bytes<=140737488355328) :
  ∃ g cap w',(Builtin.append_ #[t,t] ty #[v, .slice (some ⟨b,off,none⟩) m c]).run P W = .ok (.slice (some ⟨g,0,none⟩) (n+m) cap) w' /\
   w'.ownsRow base e size (.slice (some ⟨g,0,none⟩) (n+m) cap) (n+m) (xs++q)/\W.grownBy w' v.ownBlock/\(v.ownBlock=some g \/ g=W.heap.size)/\g<w'.heap.size:=by
 obtain ⟨i,z,hq,hz,e2,e3,e4⟩:=TQ hi;exact run_append_lies (P:=P) W t ty base e i z size bytes r hq hz e2 e3 (by rw [e4];simpa using E) F v n xs O ⟨b,off,none⟩ m c q hl
  (fun j u hu=>by rw [Addr.add_mid];exact U j u hu) Y hm (by simp only [maxLen];exact a2) a3 J W.heap.size rfl
end
theorem aj.grown {T:Nat->Prop}{w W w':World}{o o1:Own}(h:aj T w o W o1) {row:Option Nat}(r:W.grownBy w' row) (O:∀ k,row=some k->T (o1 k).1 \/ w.heap.size<=k) (g:Nat) (t:Nat × Nat)
  (u:o1 g=t \/ W.heap.size<=g):aj T w o w' (Ak o1 g t):=by
 refine ⟨r.os.trans h.os,r.tape.trans h.tape,r.output.trans h.output,Nat.le_trans h.size r.size,fun k q => ?_,fun k q F => ?_⟩
 ·have Y:=Nat.lt_of_lt_of_le q h.size
  by_cases J:k=g
  ·subst J
   rcases u with u | u
   ·rw [Au, <-u];exact h.own k q
   ·omega
  ·rw [BI _ _ J];exact h.own k q
 ·rw [r.block k (Nat.lt_of_lt_of_le q h.size) ?_]
  ·exact h.block k q F
  ·intro U
   rcases O k U.symm with E | E
   ·rw [h.own k q] at E;exact F E
   ·omega
section
variable {P:Program}{ops:Array Oper}{Q:Exit->Act->World->Prop}{md:Region.Mode}{S:World->Prop}{need:Nat->Bool}
def Dq (P:Program) (md:Region.Mode) (ops:Array Oper) (Q:Exit->Act->World->Prop) (S:World->Prop) (need:Nat->Bool):Nat->Array Bool->Act->World->Prop
 | 0,listed,a,w=>Region.ready md ops listed=[]/\Q .normal a w
 | fuel+1,listed,a,w =>
  (Region.ready md ops listed=[]->Q .normal a w) /\
  ∀ i ∈ Region.ready md ops listed,wpOp P ops Q i (fun a' w'=>(need i=true->S w')/\Dq P md ops Q S need fuel (listed.setIfInBounds i true) a' w') a w
theorem Iy:∀ (fuel:Nat) (q:Array Bool) (a:Act) (w:World),Dq P md ops Q S need fuel q a w->wpAny P md ops Q fuel q a w
 | 0,_,_,_,h=>h
 | fuel+1,_,_,_,h=>⟨h.1,fun i r=>wpOp_mono (fun u w' E=>Iy fuel _ u w' E.2) (h.2 i r)⟩
def JZ (md:Region.Mode) (ops:Array Oper) (need:Nat->Bool) (i:Nat):Bool:=
 (List.range ops.size).all fun j=>need j || match ops[j]? with
  | some oj=>oj.after.any (fun e=>Region.binds md e && e.on == i)
  | none=>true
theorem Vk {i:Nat}(h:JZ md ops need i=true) (j:Nat) (r:Oper) (u:ops[j]?=some r) (E:∀ e ∈ r.after,Region.binds md e=true->e.on ≠ i):need j=true:=by
 simp only [JZ,List.all_eq_true,List.mem_range] at h;have q:=h j (Array.getElem?_eq_some_iff.1 u).1;simp only [u,Bool.or_eq_true] at q
 rcases q with q | q
 ·exact q
 ·obtain ⟨e,F,hb⟩:=Array.any_eq_true'.1 q;simp only [Bool.and_eq_true,beq_iff_eq] at hb;exact absurd hb.2 (E e F hb.1)
theorem Sl {i:Nat}{E:Oper}{v:Value}(hi:ops[i]?=some E) (a2:∀ (j:Nat) (o:Oper) cs b,ops[j]?=some o->o.op ≠ .select cs b)
  (hQ:∀ c a w,Q (.panic c) (a.put E.dst v) w->Q (.panic c) a w) (hn:JZ md ops need i=true) :
  ∀ (fuel:Nat) (q:Array Bool) (a:Act) (w:World),
   (∀ j r,ops[j]?=some r->j ≠ i->q.getD j true=false->(∀ e ∈ r.after,Region.binds md e=true->e.on ≠ i)->E.apart ops r=true) ->
   i ∈ Region.ready md ops q->YieldsIf P ops S E v a->S w ->
   Dq P md ops Q S need fuel (q.setIfInBounds i true) (a.put E.dst v) w->Dq P md ops Q S need (fuel+1) q a w:=by
 intro fuel
 induction fuel with
 | zero =>
  intro q a w _ F U O H;refine ⟨fun h=>(by rw [h] at F;cases F),fun j W => ?_⟩
  by_cases u:j=i
  ·subst u;exact U.wpOp hi O ⟨fun _=>O,H⟩
  ·have:=ready_mono W u;rw [H.1] at this
   cases this
 | succ fuel ih =>
  intro q a w a3 F U O H;refine ⟨fun h=>(by rw [h] at F;cases F),fun j W => ?_⟩
  by_cases u:j=i
  ·subst u;exact U.wpOp hi O ⟨fun _=>O,H⟩
  ·have J:=H.2 j (ready_mono W u);obtain ⟨a4,r,Y,a8⟩:=mem_ready.1 W;have a5:∀ e ∈ r.after,Region.binds md e=true->e.on ≠ i:=fun e he hb a9=>by
    have J:=a8 e he hb;have h0:=(mem_ready.1 F).1;rw [a9] at J
    rcases Nat.lt_or_ge i q.size with h' | h'
    ·simp [h'] at h0 J;rw [h0] at J;cases J
    ·simp [Array.getElem?_eq_none h'] at J
   have vV:=Vk hn j r Y a5;have h2:=wpOp_putIf Y (a3 j r Y u a4 a5) (fun cs b=>a2 i E cs b hi) (fun cs b=>a2 j r cs b Y) hQ U J;have b1:∀ k ok,ops[k]?=some ok->k ≠ i->(q.setIfInBounds j true).getD k true=false ->
     (∀ e ∈ ok.after,Region.binds md e=true->e.on ≠ i)->E.apart ops ok=true:=fun k ok hk b2 a6 b3=>by
    refine a3 k ok hk b2 ?_ b3
    by_cases a7:j=k
    ·subst a7;exact a4
    ·rw [getD_set_ne true a7] at a6;exact a6
   refine wpOp_mono (fun a' w' h3=>⟨fun _=>h3.2.1 vV,ih (q.setIfInBounds j true) a' w' b1 (ready_mono F (Ne.symm u)) h3.1 (h3.2.1 vV) ?_⟩) h2;rw [Array.setIfInBounds_comm _ _ u];exact h3.2.2
theorem EX {i:Nat}{q:Oper}(h:(ops.toList.drop i).head?=some q):ops[i]?=some q:=by
 rw [List.head?_drop] at h
 simpa using h
theorem Un {i:Nat}{r:Oper}{v:Value}{fuel:Nat}{q:Array Bool}{a:Act}{w:World}(hi:(ops.toList.drop i).head?=some r)
  (u:Region.noSelect ops=true) (E:Region.free md ops q i=true) (F:(Region.ready md ops q).contains i=true) (hn:JZ md ops need i=true)
  (hQ:∀ c a w,Q (.panic c) (a.put r.dst v) w->Q (.panic c) a w) (hy:YieldsIf P ops S r v a) (J:S w)
  (h:Dq P md ops Q S need fuel (q.setIfInBounds i true) (a.put r.dst v) w):Dq P md ops Q S need (fuel+1) q a w:=
 Sl (EX hi) (Region.noSelect_spec u) hQ hn fuel q a w (Region.free_spec (EX hi) E) (by simpa using F) hy J h
theorem Dt {i:Nat}{q:Oper}{v:Value}{fuel:Nat}{r:Array Bool}{a:Act}{w:World}(hi:(ops.toList.drop i).head?=some q)
  (hc:(Region.noSelect ops && Region.free md ops r i && (Region.ready md ops r).contains i && JZ md ops need i)=true)
  (hQ:∀ c a w,Q (.panic c) (a.put q.dst v) w->Q (.panic c) a w) (hy:YieldsIf P ops S q v a) (u:S w)
  (h:Dq P md ops Q S need fuel (r.setIfInBounds i true) (a.put q.dst v) w):Dq P md ops Q S need (fuel+1) r a w:=by
 simp only [Bool.and_eq_true] at hc;exact Un hi hc.1.1.1 hc.1.1.2 hc.1.2 hc.2 hQ hy u h
section
attribute [local go_sem ↓] Go.wp_at_zero Go.wp_at_succ
theorem tq (i:Nat) {q:Oper}{v:Value}{fuel:Nat}{r u:Array Bool}{a E:Act}{w:World}
  (hi:(ops.toList.drop i).head?=some q:=by rfl)
  (hc:(Region.noSelect ops && Region.free md ops r i && (Region.ready md ops r).contains i && JZ md ops need i)=true:=by kernel_rfl)
  (F:Region.wanted q (yielded ops a.tmps)=true:=by rfl)
  (hy:∀ w,S w->(execOp a.eval q).run P w = .ok (.value v) w:=by intro w hSw;(try dsimp only at hSw);go_simp;(try with_reducible rfl))
  (hQ:∀ c a w,Q (.panic c) (a.put q.dst v) w->Q (.panic c) a w:=by exact fun _ _ _ h=>h)
  (J:S w:=by assumption)
  (O:a.put q.dst v=E:=by (try simp only [Act.put,GL,DL,lss]);exact rfl)
  (hl:r.setIfInBounds i true=u:=by (try simp only [GL,DL,lss]);exact rfl)
  (h:Dq P md ops Q S need fuel u E w):Dq P md ops Q S need (fuel+1) r a w:=by
 subst O hl;exact Dt hi hc hQ (.inl ⟨F,hy⟩) J h
theorem tn (i:Nat) {q:Oper}{v:Value}{fuel:Nat}{r u:Array Bool}{a E:Act}{w:World}
  (hi:(ops.toList.drop i).head?=some q:=by rfl)
  (hc:(Region.noSelect ops && Region.free md ops r i && (Region.ready md ops r).contains i && JZ md ops need i)=true:=by kernel_rfl)
  (F:Region.wanted q (yielded ops a.tmps)=true:=by rfl)
  (hy:∀ w,S w->(execOp a.eval q).run P w = .ok (.value v) w:=by intro w hSw;(try dsimp only at hSw);go_simp;(try with_reducible rfl))
  (hQ:∀ c a w,Q (.panic c) (a.put q.dst v) w->Q (.panic c) a w:=by exact fun _ _ _ h=>nomatch h.1)
  (J:S w:=by assumption)
  (O:a.put q.dst v=E:=by (try simp only [Act.put,GL,DL,lss]);exact rfl)
  (hl:r.setIfInBounds i true=u:=by (try simp only [GL,DL,lss]);exact rfl)
  (h:Dq P md ops Q S need fuel u E w):Dq P md ops Q S need (fuel+1) r a w:=by
 subst O hl;exact Dt hi hc hQ (.inl ⟨F,hy⟩) J h
theorem tp (i:Nat) {q:Oper}{v:Value}{fuel:Nat}{r u:Array Bool}{a E:Act}{w:World}
  (hi:(ops.toList.drop i).head?=some q:=by rfl)
  (hc:(Region.noSelect ops && Region.free md ops r i && (Region.ready md ops r).contains i && JZ md ops need i)=true:=by kernel_rfl)
  (F:Region.wanted q (yielded ops a.tmps)=true:=by rfl)
  (hy:∀ w,S w->(execOp a.eval q).run P w = .ok (.value v) w:=by intro w hSw;(try dsimp only at hSw);go_simp;(try with_reducible rfl))
  (hQ:∀ c a w,Q (.panic c) (a.put q.dst v) w->Q (.panic c) a w:=by exact fun _ _ _ h=>AQ (by decide) h)
  (J:S w:=by assumption)
  (O:a.put q.dst v=E:=by (try simp only [Act.put,GL,DL,lss]);exact rfl)
  (hl:r.setIfInBounds i true=u:=by (try simp only [GL,DL,lss]);exact rfl)
  (h:Dq P md ops Q S need fuel u E w):Dq P md ops Q S need (fuel+1) r a w:=by
 subst O hl;exact Dt hi hc hQ (.inl ⟨F,hy⟩) J h
theorem tv (i:Nat) (v:Value) {q:Oper}{fuel:Nat}{r u:Array Bool}{a E:Act}{w:World}
  (hi:(ops.toList.drop i).head?=some q:=by rfl)
  (hc:(Region.noSelect ops && Region.free md ops r i && (Region.ready md ops r).contains i && JZ md ops need i)=true:=by kernel_rfl)
  (F:Region.wanted q (yielded ops a.tmps)=true:=by rfl)
  (hy:∀ w,S w->(execOp a.eval q).run P w = .ok (.value v) w)
  (hQ:∀ c a w,Q (.panic c) (a.put q.dst v) w->Q (.panic c) a w:=by exact fun _ _ _ h=>h)
  (J:S w:=by assumption)
  (O:a.put q.dst v=E:=by (try simp only [Act.put,GL,DL,lss]);exact rfl)
  (hl:r.setIfInBounds i true=u:=by (try simp only [GL,DL,lss]);exact rfl)
  (h:Dq P md ops Q S need fuel u E w):Dq P md ops Q S need (fuel+1) r a w:=by
 subst O hl;exact Dt hi hc hQ (.inl ⟨F,hy⟩) J h
theorem tw (i:Nat) (v:Value) {q:Oper}{fuel:Nat}{r u:Array Bool}{a E:Act}{w:World}
  (hi:(ops.toList.drop i).head?=some q:=by rfl)
  (hc:(Region.noSelect ops && Region.free md ops r i && (Region.ready md ops r).contains i && JZ md ops need i)=true:=by kernel_rfl)
  (F:Region.wanted q (yielded ops a.tmps)=true:=by rfl)
  (hy:∀ w,S w->(execOp a.eval q).run P w = .ok (.value v) w:=by intro w hSw;(try dsimp only at hSw);go_simp;all_goals omega)
  (hQ:∀ c a w,Q (.panic c) (a.put q.dst v) w->Q (.panic c) a w:=by exact fun _ _ _ h=>h)
  (J:S w:=by assumption)
  (O:a.put q.dst v=E:=by (try simp only [Act.put,GL,DL,lss]);exact rfl)
  (hl:r.setIfInBounds i true=u:=by (try simp only [GL,DL,lss]);exact rfl)
  (h:Dq P md ops Q S need fuel u E w):Dq P md ops Q S need (fuel+1) r a w:=by
 subst O hl;exact Dt hi hc hQ (.inl ⟨F,hy⟩) J h
theorem tg (i:Nat) (v:Value) {q:Oper}{fuel:Nat}{r u:Array Bool}{a E:Act}{w:World}
  (hi:(ops.toList.drop i).head?=some q:=by rfl)
  (hc:(Region.noSelect ops && Region.free md ops r i && (Region.ready md ops r).contains i && JZ md ops need i)=true:=by kernel_rfl)
  (F:Region.wanted q (yielded ops a.tmps)=true:=by rfl)
  (hy:∀ w,S w->(execOp a.eval q).run P w = .ok (.value v) w:=by intro w hSw;(try dsimp only at hSw);go_simp)
  (hQ:∀ c a w,Q (.panic c) (a.put q.dst v) w->Q (.panic c) a w:=by exact fun _ _ _ h=>h)
  (J:S w:=by assumption)
  (O:a.put q.dst v=E:=by (try simp only [Act.put,GL,DL,lss]);exact rfl)
  (hl:r.setIfInBounds i true=u:=by (try simp only [GL,DL,lss]);exact rfl)
  (h:Dq P md ops Q S need fuel u E w):Dq P md ops Q S need (fuel+1) r a w:=by
 subst O hl;exact Dt hi hc hQ (.inl ⟨F,hy⟩) J h
theorem ts (i:Nat) {q:Oper}{fuel:Nat}{r u:Array Bool}{a E:Act}{w:World}
  (hi:(ops.toList.drop i).head?=some q:=by rfl)
  (hc:(Region.noSelect ops && Region.free md ops r i && (Region.ready md ops r).contains i && JZ md ops need i)=true:=by kernel_rfl)
  (F:Region.wanted q (yielded ops a.tmps)=false:=by rfl)
  (hQ:∀ c a w,Q (.panic c) (a.put q.dst undef) w->Q (.panic c) a w:=by exact fun _ _ _ h=>h)
  (J:S w:=by assumption)
  (O:a.put q.dst undef=E:=by (try simp only [Act.put,GL,DL,lss]);exact rfl)
  (hl:r.setIfInBounds i true=u:=by (try simp only [GL,DL,lss]);exact rfl)
  (h:Dq P md ops Q S need fuel u E w):Dq P md ops Q S need (fuel+1) r a w:=by
 subst O hl;exact Dt hi hc hQ (.inr ⟨F,rfl⟩) J h
theorem tM (i:Nat) {q:Oper}{fuel:Nat}{r u:Array Bool}{a E:Act}{w:World}
  (hi:(ops.toList.drop i).head?=some q:=by rfl)
  (hc:(Region.noSelect ops && Region.free md ops r i && (Region.ready md ops r).contains i && JZ md ops need i)=true:=by kernel_rfl)
  (F:Region.wanted q (yielded ops a.tmps)=false:=by rfl)
  (hQ:∀ c a w,Q (.panic c) (a.put q.dst undef) w->Q (.panic c) a w:=by exact fun _ _ _ h=>nomatch h.1)
  (J:S w:=by assumption)
  (O:a.put q.dst undef=E:=by (try simp only [Act.put,GL,DL,lss]);exact rfl)
  (hl:r.setIfInBounds i true=u:=by (try simp only [GL,DL,lss]);exact rfl)
  (h:Dq P md ops Q S need fuel u E w):Dq P md ops Q S need (fuel+1) r a w:=by
 subst O hl;exact Dt hi hc hQ (.inr ⟨F,rfl⟩) J h
theorem tL (i:Nat) {q:Oper}{fuel:Nat}{r u:Array Bool}{a E:Act}{w:World}
  (hi:(ops.toList.drop i).head?=some q:=by rfl)
  (hc:(Region.noSelect ops && Region.free md ops r i && (Region.ready md ops r).contains i && JZ md ops need i)=true:=by kernel_rfl)
  (F:Region.wanted q (yielded ops a.tmps)=false:=by rfl)
  (hQ:∀ c a w,Q (.panic c) (a.put q.dst undef) w->Q (.panic c) a w:=by exact fun _ _ _ h=>AQ (by decide) h)
  (J:S w:=by assumption)
  (O:a.put q.dst undef=E:=by (try simp only [Act.put,GL,DL,lss]);exact rfl)
  (hl:r.setIfInBounds i true=u:=by (try simp only [GL,DL,lss]);exact rfl)
  (h:Dq P md ops Q S need fuel u E w):Dq P md ops Q S need (fuel+1) r a w:=by
 subst O hl;exact Dt hi hc hQ (.inr ⟨F,rfl⟩) J h
end
theorem Ac {i:Nat}{F:Oper}{fuel:Nat}{E:Array Bool}{a:Act}{w:World}(hi:(ops.toList.drop i).head?=some F) (O:Region.ready md ops E=[i])
  (h:wpList P ops (Exit.then (fun a' w'=>(need i=true->S w')/\Dq P md ops Q S need fuel (E.setIfInBounds i true) a' w') Q) [F] a w):Dq P md ops Q S need (fuel+1) E a w:=by
 replace hi:=EX hi
 refine ⟨fun h0=>(by rw [O] at h0;cases h0),fun j J => ?_⟩;rw [O] at J;simp only [List.mem_singleton] at J;subst J;unfold wpOp;simp only [hi];unfold wpList at h;split
 ·rename_i hw;rw [if_pos hw] at h
  rcases h with h | ⟨U,a',w',W⟩
  ·left
   have a3:∀ (e:Exit) (a:Act) (w:World),e ≠ .normal->Exit.then (fun a' w'=>(need j=true->S w')/\Dq P md ops Q S need fuel (E.setIfInBounds j true) a' w') Q e a w->Q e a w:=by
    intro e a w Y h;cases e <;> first | exact absurd rfl Y | exact h
   unfold Oper.wp at *;generalize (execOp a.eval F).run P w=r at *
   cases r with
   | ok n w' =>
    cases n <;> simp only [Oper.upon] at h ⊢
    case value u=>exact h
    case skip=>exact h
    case defer d=>exact h
    case enter f args =>
     refine Calls.mono h fun e a2 q => ?_
     cases e with
     | returned u=>exact q
     | panicked c=>exact q
     | outgrown=>obtain ⟨a1,w1,h1⟩:=q;exact ⟨a1,w1,h1⟩
    case row row args=>exact Rows.mono h fun u a2 q=>q
   | halt x w' =>
    cases x <;> simp only [Oper.upon] at h ⊢
    case panic u=>exact h
  ·exact .inr ⟨U,a',w',W⟩
 ·rename_i hw;rw [if_neg hw] at h;exact h
theorem tO (i:Nat) {r:Oper}{fuel:Nat}{q:Array Bool}{a:Act}{w:World}(hi:(ops.toList.drop i).head?=some r:=by rfl) (u:Region.ready md ops q=[i]:=by kernel_rfl)
  (h:wpList P ops (Exit.then (fun a' w'=>(need i=true->S w')/\Dq P md ops Q S need fuel (q.setIfInBounds i true) a' w') Q) [r] a w):Dq P md ops Q S need (fuel+1) q a w:=Ac hi u h
theorem Ae {q:Array Bool}{a:Act}{w:World}(r:Region.ready md ops q=[]) (h:Q .normal a w):∀ fuel,Dq P md ops Q S need fuel q a w
 | 0=>⟨r,h⟩
 | _+1=>⟨fun _=>h,by rw [r];simp⟩
theorem tD {fuel:Nat}{q:Array Bool}{a:Act}{w:World}(r:Region.ready md ops q=[]:=by kernel_rfl) (h:Q .normal a w):Dq P md ops Q S need fuel q a w:=Ae r h fuel
theorem Aa {id:Nat}{a:Act}{w:World}(S:World->Prop) (need:Nat->Bool) (q:P.follows .mixedOrders=true) (r:S w.drew)
  (h:S w.drew->Dq P .any ops Q S need ops.size (Array.replicate ops.size false) a w.drew):(Code.region id ops true).wp P Q a w:=
 wp_region_any q (Iy _ _ _ _ (h r))
theorem Ws {op:Oper}{v:Value}{a:Act}(q:op.guard=none) (h:∀ w,S w->(execOp a.eval op).run P w = .ok (.value v) w):YieldsIf P ops S op v a:=
 .inl ⟨by simp [Region.wanted,q],h⟩
theorem BV {rest:List Oper}{op:Oper}{a:Act}{w w':World}{v:Value}(q:op.guard=none) (r:(execOp a.eval op).run P w = .ok (.value v) w')
  (h:wpList P ops Q rest (a.put op.dst v) w'):wpList P ops Q (op :: rest) a w:=
 wpList_plain q fun _ u=>by unfold Oper.wp;rw [r];exact u _ _ h
end
section
variable {P:Program}{a:Act}{op:Oper}{w w':World}
theorem Xn (t:TypeId) (q:Array (Nat × Operand)) (r:op.op = .build t q) (vs:Array (Nat × Value)) (hv:(q.toList.map fun x=>(x.1,a.eval x.2))=vs.toList) {v:Value}
  (h:(Instr.build t vs).run P w = .ok v w'):(execOp a.eval op).run P w = .ok (.value v) w':=by
 have u:(q.map fun x=>(x.1,a.eval x.2))=vs:=by apply Array.toList_inj.1;rw [<-hv];simp
 subst u;unfold execOp;simp only [r,Sem.run_bind,h,Result.andThen_ok,Sem.run_pure]
theorem JE (t n:Nat) (q:Array (Nat × Operand)) (r:op.op = .buildSlice t n q) (vs:Array (Nat × Value)) (hv:(q.toList.map fun x=>(x.1,a.eval x.2))=vs.toList) {v:Value}
  (h:(Instr.buildSlice t n vs).run P w = .ok v w'):(execOp a.eval op).run P w = .ok (.value v) w':=by
 have u:(q.map fun x=>(x.1,a.eval x.2))=vs:=by apply Array.toList_inj.1;rw [<-hv];simp
 subst u;unfold execOp;simp only [r,Sem.run_bind,h,Result.andThen_ok,Sem.run_pure]
theorem IV (t:TypeId) (x:Operand) (q:op.op = .load t x) (b o:Nat) (r:a.eval x = .pointer (some ⟨b,o,none⟩)) {v:Value}(h:(loadVar t ⟨b,o,none⟩).run P w = .ok v w'):(execOp a.eval op).run P w = .ok (.value v) w':=by
 unfold execOp;simp only [q,r,Instr.loadAt,Instr.sureAddr,Sem.run_bind,h,Result.andThen_ok,Sem.run_pure]
theorem Jo (t:TypeId) (q:op.op = .alloc t) {v:Value}(h:(Instr.alloc t true (.tuple #[])).run P w = .ok v w'):(execOp a.eval op).run P w = .ok (.value v) w':=by
 unfold execOp;simp only [q,Sem.run_bind,h,Result.andThen_ok,Sem.run_pure]
theorem Za (d s:Operand) (q r:TypeId) (u:op.op = .call { callee := .builtin .copy,args := #[d,s],argTypes := #[q,r] }) {v:Value}
  (h:(Builtin.copy_ #[q,r] op.type #[a.eval d,a.eval s]).run P w = .ok v w'):(execOp a.eval op).run P w = .ok (.value v) w':=by
 unfold execOp;simp only [u,resolve,invoke,builtin,Sem.run_bind,Sem.run_pure,Result.andThen_ok,List.map_toArray,List.map_cons,List.map_nil,h]
theorem VN (d s:Operand) (q r:TypeId) (u:op.op = .call { callee := .builtin .append,args := #[d,s],argTypes := #[q,r] }) {v:Value}
  (h:(Builtin.append_ #[q,r] op.type #[a.eval d,a.eval s]).run P w = .ok v w'):(execOp a.eval op).run P w = .ok (.value v) w':=by
 unfold execOp;simp only [u,resolve,invoke,builtin,Sem.run_bind,Sem.run_pure,Result.andThen_ok,List.map_toArray,List.map_cons,List.map_nil,h]
end
section
variable {P:Program}{ops:Array Oper}{Q:Exit->Act->World->Prop}{rest:List Oper}{a:Act}{w w':World}{d:Option Tmp}{ty:TypeId}{ps:String}{af:Array Edge}{v:Value}
theorem Bl {x y:Operand}{t u:TypeId}(q:(Builtin.append_ #[t,u] ty #[a.eval x,a.eval y]).run P w = .ok v w') (h:wpList P ops Q rest (a.put d v) w') :
  wpList P ops Q ({ dst:=d,op := .call { callee := .builtin .append,args := #[x,y],argTypes := #[t,u] },type:=ty,pos:=ps,after:=af,guard:=none } :: rest) a w:=
 BV rfl (by unfold execOp;simp only [resolve,invoke,builtin,Sem.run_bind,Sem.run_pure,Result.andThen_ok,List.map_toArray,List.map_cons,List.map_nil,q]) h
theorem Vo {x y:Operand}{t u:TypeId}(q:(Builtin.copy_ #[t,u] ty #[a.eval x,a.eval y]).run P w = .ok v w') (h:wpList P ops Q rest (a.put d v) w') :
  wpList P ops Q ({ dst:=d,op := .call { callee := .builtin .copy,args := #[x,y],argTypes := #[t,u] },type:=ty,pos:=ps,after:=af,guard:=none } :: rest) a w:=
 BV rfl (by unfold execOp;simp only [resolve,invoke,builtin,Sem.run_bind,Sem.run_pure,Result.andThen_ok,List.map_toArray,List.map_cons,List.map_nil,q]) h
theorem Bo {x:Operand}{t:TypeId}(q:(Instr.loadAt t (a.eval x)).run P w = .ok v w') (h:wpList P ops Q rest (a.put d v) w') :
  wpList P ops Q ({ dst:=d,op := .load t x,type:=ty,pos:=ps,after:=af,guard:=none } :: rest) a w:=
 BV rfl (by unfold execOp;simp only [Sem.run_bind,Sem.run_pure,Result.andThen_ok,q]) h
theorem AU {t:TypeId}(q:(Instr.alloc t true (.tuple #[])).run P w = .ok v w') (h:wpList P ops Q rest (a.put d v) w') :
  wpList P ops Q ({ dst:=d,op := .alloc t,type:=ty,pos:=ps,after:=af,guard:=none } :: rest) a w:=
 BV rfl (by unfold execOp;simp only [Sem.run_bind,Sem.run_pure,Result.andThen_ok,q]) h
theorem BM {x:Operand}{t:TypeId}(q:(Instr.box t (a.eval x)).run P w = .ok v w') (h:wpList P ops Q rest (a.put d v) w') :
  wpList P ops Q ({ dst:=d,op := .box t x,type:=ty,pos:=ps,after:=af,guard:=none } :: rest) a w:=
 BV rfl (by unfold execOp;simp only [Sem.run_bind,Sem.run_pure,Result.andThen_ok,q]) h
theorem IC {x y:Operand}{t:TypeId}(q:(Instr.makeSlice t (a.eval x) (a.eval y)).run P w = .ok v w') (h:wpList P ops Q rest (a.put d v) w') :
  wpList P ops Q ({ dst:=d,op := .makeSlice t x y,type:=ty,pos:=ps,after:=af,guard:=none } :: rest) a w:=
 BV rfl (by unfold execOp;simp only [Sem.run_bind,Sem.run_pure,Result.andThen_ok,q]) h
theorem FM {x:Operand}{t:TypeId}{lo hi q:Option Operand}(r:(Instr.sliceAt t (a.eval x) (lo.map a.eval) (hi.map a.eval) (q.map a.eval)).run P w = .ok v w') (h:wpList P ops Q rest (a.put d v) w') :
  wpList P ops Q ({ dst:=d,op := .slice t x lo hi q,type:=ty,pos:=ps,after:=af,guard:=none } :: rest) a w:=
 BV rfl (by unfold execOp;simp only [Sem.run_bind,Sem.run_pure,Result.andThen_ok,r]) h
theorem AC {x y:Operand}{t:TypeId}(q:(Instr.storeAt t (a.eval x) (a.eval y)).run P w = .ok () w') (h:wpList P ops Q rest (a.put d undef) w') :
  wpList P ops Q ({ dst:=d,op := .store t x y,type:=ty,pos:=ps,after:=af,guard:=none } :: rest) a w:=
 wpList_plain rfl fun _ r=>by
  unfold Oper.wp execOp;simp only [Sem.run_bind,q,Result.andThen_ok,Sem.run_pure];exact r _ _ h
theorem BO {q:Array (Nat × Operand)}{t n:Nat}(vs:Array (Nat × Value)) (hv:(q.toList.map fun x=>(x.1,a.eval x.2))=vs.toList) (r:(Instr.buildSlice t n vs).run P w = .ok v w') (h:wpList P ops Q rest (a.put d v) w') :
  wpList P ops Q ({ dst:=d,op := .buildSlice t n q,type:=ty,pos:=ps,after:=af,guard:=none } :: rest) a w:=
 BV rfl (JE t n q rfl vs hv r) h
end
def FQ:List Value:=List.replicate 512 (.int .u8 0)
def EM:List Value := .int .i64 0 :: FQ
theorem FY:FQ.length=512:=List.length_replicate ..
theorem Dp:EM.length=513:=by rw [EM,List.length_cons,FY]
theorem fP:(prog.info? 218).map (fun i=>(i.zero.map (fun z=>z.cells.toList),i.size,i.bytes))=some (some FQ,512,512):=by kernel_rfl
theorem fO:(prog.info? 220).map (fun i=>(i.zero.map (fun z=>z.cells.toList),i.size,i.bytes))=some (some EM,513,520):=by kernel_rfl
theorem Uh:FQ=bvs Af.blank:=by
 unfold FQ bvs Af.blank;rw [List.map_replicate];rfl
theorem VY (n:Nat):(List.replicate n FQ).flatten=bvs (List.replicate n Af.blank).flatten:=by
 rw [Uh];generalize Af.blank=b
 induction n with
 | zero=>rfl
 | succ n q=>rw [List.replicate_succ,List.replicate_succ,List.flatten_cons,List.flatten_cons,Jv,q]
theorem MV:Af.blank.length=512:=List.length_replicate ..
theorem fF (w:World) (o:Own) (D n:Nat) (q:1<=n) (r:n<=4096) :
  Bg ((w.alloc (.cells (List.replicate n FQ).flatten.toArray 218)).alloc (.cells #[.slice (some ⟨w.heap.size,0,none⟩) n n, .slice none 0 0, .int .i64 (-1), .bool false] 130))
   (Ak (Ak o w.heap.size (D,1)) (w.heap.size+1) (D,0)) D (w.heap.size+1) (Af.new n):=by
 refine ⟨w.heap.size, .slice none 0 0, ?_, ?_, ?_,by simp, ?_, ?_, ?_⟩
 ·rw [heap_alloc2_new];simp [Af.new]
 ·rw [heap_alloc2_old,VY];rfl
 ·exact World.ownsRow_nil _ _ _ _
 ·rw [BI _ _ om];simp
 ·intro k u;simp [Value.ownBlock] at u
 ·refine ⟨by simpa [Af.new] using q,by simpa [Af.new] using r, ?_,by simp [Af.new],by simp [Af.new],by simp [Af.new]⟩;intro p hp;simp only [Af.new] at hp;rw [List.eq_of_mem_replicate hp];exact MV
theorem TB (n:Nat) (w:World) (o:Own) (D:Nat) (q:1<=n) (r:n<=4096) :
  Calls prog 41 #[.int .i64 (n:Int)] w (XL ai w o fun v w' o'=>∃ p,w.heap.size<=p/\v = .tuple #[.pointer (some ⟨p,0,none⟩), .int .i64 0]/\Bg w' o' D p (Af.new n)):=by
 have F:=Gy (P:=prog) w 127 218 _ 512 512 underlying127 fP FY n om om .i64 .i64;have u:aj ai w o _ _:=((aj.refl ai w o).alloc (.cells (List.replicate n FQ).flatten.toArray 218) (D,1)).alloc (.cells #[.slice (some ⟨w.heap.size,0,none⟩) n n, .slice none 0 0, .int .i64 (-1), .bool false] 130) (D,0);have E:=fF w o D n q r;generalize (List.replicate n FQ).flatten=J at *;go_enter func41,ntmps41
 go_wp2
 go_ret2
 exact ⟨_,Ak (Ak o w.heap.size (D,1)) (w.heap.size+1) (D,0),rfl,by simpa using u,w.heap.size+1,om,rfl,E⟩
theorem iT:((prog.info? 220).bind (·.zero)).map (fun z=>z.cells.toList)=some EM:=by kernel_rfl
theorem s3:(prog.info? 3).map (·.size)=some 1:=by kernel_rfl
theorem ZT:(prog.info? 218).map (·.size)=some 512:=by kernel_rfl
theorem gG:(prog.info? 220).map (fun i=>(i.zero.map (fun z=>z.cells.toList),i.size))=some (some EM,513):=by kernel_rfl
theorem bM (w:World) (n:Int) (l:List UInt8) (hl:l.length=512) :
  (Instr.build 220 #[(0, .int .i64 n),(1, .agg (bvs l).toArray)]).run prog w = .ok (.agg (Value.int .i64 n :: bvs l).toArray) w:=by
 have q:(prog.info? 218).map (·.size)=some (bvs l).length:=by rw [Bh,hl];exact ZT
 have r:EM.length=[Value.int .i64 n].length+(bvs l).length:=by rw [Bh,hl,Dp];rfl
 have:=QG w 220 _ _ EM (.int .i64 n) (.agg (bvs l).toArray) [.int .i64 n] (bvs l) underlying220 iT rfl rfl s3 q r rfl rfl;rw [List.singleton_append] at this;exact this
theorem QW (w:World) (n:Int) (l:List UInt8) (hl:l.length=512) :
  (Instr.buildSlice 128 1 #[(0, .agg (Value.int .i64 n :: bvs l).toArray)]).run prog w = .ok (.slice (some ⟨w.heap.size,0,none⟩) 1 1) (w.alloc (.cells (Value.int .i64 n :: bvs l).toArray 220)):=by
 have hc:(Value.int .i64 n :: bvs l).length=513:=by rw [List.length_cons,Bh,hl]
 have q:(prog.info? 220).map (fun i=>(i.zero.map (fun z=>z.cells.toList),i.size))=some (some EM,(Value.int .i64 n :: bvs l).length):=by rw [hc];exact gG
 have r:EM.length=(Value.int .i64 n :: bvs l).length:=by rw [hc,Dp]
 exact Dv w 128 220 EM (.agg (Value.int .i64 n :: bvs l).toArray) (Value.int .i64 n :: bvs l) underlying128 q r om om rfl
theorem Zy (w:World) (a:Addr) (n c:Nat) (h:n=512):(Instr.arrayAt 218 (.slice (some a) n c)).run prog w = .ok (.pointer (some a)) w:=by
 subst h;simp [Instr.arrayAt,run_underlying underlying218]
theorem Bg.pushed {w':World}{o':Own}{D p:Nat}{d:Af}{u g cap:Nat}{rv:Value}{at':Nat}{l:List UInt8}(J:d.wf) (O:at'<d.pages.length) (hl:l.length=512)
  (hp:w'.heap[p]?=some (.cells #[.slice (some ⟨u,0,none⟩) d.pages.length d.pages.length,rv, .int .i64 d.left, .bool d.dead] 130 (0,0)))
  (U:w'.heap[u]?=some (.cells (bvs d.pages.flatten).toArray 218 (0,0)))
  (W:w'.ownsRow 0 220 513 (.slice (some ⟨g,0,none⟩) (d.row.length+1) cap) (d.row.length+1) (Ei d.row++(.int .i64 (at':Int) :: bvs l)))
  (op:o' p=(D,0)) (E:o' u=(D,1)) (F:o' g=(D,2)) :
  Bg (w'.setCell ⟨p,1,none⟩ (.slice (some ⟨g,0,none⟩) (d.row.length+1) cap)) o' D p { d with row:=d.row++[(at',l)] }:=by
 refine ⟨u, .slice (some ⟨g,0,none⟩) (d.row.length+1) cap,Ai _ hp, ?_, ?_,op,E, ?_, ?_⟩
 ·rw [Below.heap_setCell _ _ _ _ (by rintro rfl;rw [op] at E;simp at E)];exact U
 ·have:(d.row++[(at',l)]).length=d.row.length+1:=by simp
  rw [this,QH];refine Ci W fun k r=>Below.heap_setCell _ _ _ _ ?_;simp only [Value.ownBlock,Option.some.injEq] at r;subst r;rintro rfl;rw [op] at F;simp at F
 ·intro k r;simp only [Value.ownBlock,Option.some.injEq] at r;subst r;exact F
 ·obtain ⟨Y,h2,h3,h4,h5,h6⟩:=J;refine ⟨Y,h2,h3, ?_,h5,h6⟩;intro x q
  rcases List.mem_append.1 q with q | q
  ·exact h4 x q
  ·simp only [List.mem_singleton] at q;subst q;exact ⟨O,hl⟩
theorem Kz {w:World}{o:Own}{D p:Nat}{d:Af}(h:Bg w o D p d) (at' n e:Int) (q:Hid (d.asked at' n=e)) :
  Calls prog 228 #[.pointer (some ⟨p,0,none⟩), .int .i64 at', .int .i64 n] w fun r w'=>r = .returned (.int .i64 e)/\w=w':=by
 rw [<-q.out];exact Zg h at' n
theorem Js {w:World}{o:Own}{D p:Nat}{d d1:Af}{e1:Int}(h:Bg w o D p d) (n:Int) (q:Hid (d.counted n=(d1,e1))) :
  Calls prog 256 #[.pointer (some ⟨p,0,none⟩), .int .i64 n] w (XL (ak D) w o fun v w' o'=>v = .int .i64 e1/\Bg w' o' D p d1):=by
 have:=VS h n;rw [q.out] at this;exact this
theorem Zr {w:World}{o:Own}{D p:Nat}{d:Af}(h:Bg w o D p d) (at':Int) (v:Value) (l:List UInt8) (hb:Bytes w o v l) (hc:(d.counted (d.asked at' l.length)).2 ≠ 0) :
  Calls prog 237 #[.pointer (some ⟨p,0,none⟩), .int .i64 at',v] w (XL (ak D) w o fun v w' o'=>v = .int .i64 (d.write at' l).2/\Bg w' o' D p (d.write at' l).1):=by
 have q:d.write at' l=d.counted (d.asked at' l.length):=by simp [Af.write,hc]
 rw [q];obtain ⟨e,r⟩:∃ e,Hid (d.asked at' l.length=e):=⟨_,rfl⟩;rw [r.out] at hc ⊢;obtain ⟨u,e1,E⟩:∃ u e1,Hid (d.counted e=(u,e1)):=⟨_,_,rfl⟩;rw [E.out] at hc ⊢;have O:(e1 != 0)=true:=by simpa using hc
 clear hc q
 rcases hb.cases with ⟨⟨sa,U,rfl⟩,rfl⟩ | ⟨b,off,cap,rfl,hl,W,Y,a2,hr⟩
 all_goals clear hb
 all_goals
  go_enter func237,ntmps237
  go_wp2_with (first | (go_at_call 228;refine (Kz h _ _ _ r).mono ?_;rintro e w' ⟨rfl,rfl⟩) | (go_at_call 256;refine (Js h _ E).mono ?_;rintro e w' ⟨v1,o1,rfl,F,rfl,J⟩))
  go_ret;exact ⟨_,o1,rfl,F,rfl,J⟩
theorem Yb {w:World}{o:Own}{D p:Nat}{d:Af}(h:Bg w o D p d) (hD:D ≠ 0) (at':Int) (v:Value) (l:List UInt8) (hb:Bytes w o v l) (a9:d.row.length<=1000000) (hc:(d.counted (d.asked at' l.length)).2=0) :
  Calls prog 237 #[.pointer (some ⟨p,0,none⟩), .int .i64 at',v] w (XL (ak D) w o fun v w' o'=>v = .int .i64 (d.write at' l).2/\Bg w' o' D p (d.write at' l).1):=by
 have hE:d.write at' l=({ (d.counted (d.asked at' l.length)).1 with row:=(d.counted (d.asked at' l.length)).1.row++[(at'.toNat,l)] },0):=by simp [Af.write,hc]
 rw [hE];have F:d.asked at' l.length=0:=by
  unfold Af.counted at hc;split at hc
  ·exact hc
  ·rename_i u;simp only [not_or,ne_eq,Decidable.not_not] at u;exact u.1
 have c4:0<=at'/\at'<d.pages.length/\l.length=512:=by
  unfold Af.asked at F;split at F
  ·cases F
  ·split at F
   ·cases F
   ·rename_i u;omega
 obtain ⟨a0,a1,uC⟩:=c4;obtain ⟨Y,a2⟩:=Af.Hg d (d.asked at' l.length);obtain ⟨e,he⟩:∃ e,Hid (d.asked at' l.length=e):=⟨_,rfl⟩;rw [he.out] at hc Y a2 ⊢;obtain ⟨r,e1,hd⟩:∃ r e1,Hid (d.counted e=(r,e1)):=⟨_,_,rfl⟩;rw [hd.out] at hc Y a2 ⊢;simp only at hc Y a2 ⊢;subst hc;clear hE F
 rcases hb.cases with ⟨⟨sa,sc,rfl⟩,rfl⟩ | ⟨b,off,cap,rfl,hl,hm,ho,b1,hr⟩
 ·simp at uC
 obtain ⟨n,rfl⟩:=Int.eq_ofNat_of_zero_le a0;have c6:n<r.pages.length:=by rw [Y];omega
 have e4:r.row.length<=1000000:=by rw [a2];exact a9
 have J:=ae uC;clear uC Y a2 a1 a9;have c7:=fun w n=>bM w n l J.out;have c8:=fun w n=>QW w n l J.out;have e5:=fun w=>Zy w ⟨b,off,none⟩ l.length cap J.out;go_enter func237,ntmps237
 go_wp2_with (first | (go_at_call 228;refine (Kz h _ _ _ he).mono ?_;rintro e w' ⟨rfl,rfl⟩) | (go_at_call 256;refine (Js h _ hd).mono ?_;rintro e q ⟨v1,o1,rfl,b2,rfl,a3⟩))
 have c9:=a3.wf;obtain ⟨O,rv,⟨c0,c1,c2,c3⟩,⟨f1,f2,f3⟩,b3,b4,op,ol,wI⟩:=a3.open;have b5:q.rangeAt b off (bvs l):=Cf hr (b2.block b b1 (by rw [ho];exact fun h=>hD h.symm));refine Aa (fun w'=>w'.cell? ⟨p,1,none⟩=some rv/\w'.rangeAt b off (bvs l)) (fun i=>decide (i<12)) (by kernel_rfl) ⟨c1,b5⟩ (fun e6 => ?_);refine tq 0 (h:=tq 1 (h:=tq 2 (h:=tq 3 (h:=tq 4 (h:=tq 5 (h:=tq 6 (h:=tq 7 (h:=?_))))))));have vX:(prog.info? 218).map (·.size)=some (bvs l).length:=by rw [Bh,J.out];exact ZT
 refine Dt (i:=8) (v:=_) rfl (by kernel_rfl) (fun _ _ _ h=>h) (yieldsIf_load_mid (by rfl) 218 (.tmp 25) rfl b off rfl (bvs l) _ (fun w h=>h.2) underlying218 rfl vX) (by assumption) ?_;clear vX;simp only [Act.put,GL,DL,lss];refine Dt (i:=9) (v:=_) rfl (by kernel_rfl) (fun _ _ _ h=>h) (Ws rfl fun w _=>Xn 220 #[(0, .tmp 23),(1, .tmp 26)] rfl #[(0, .int .i64 n),(1, .agg (bvs l).toArray)] rfl (c7 w n)) (by assumption) ?_;simp only [Act.put,GL,DL,lss];refine tO 10 (h:=?_);refine BV rfl (JE 128 1 #[(0, .tmp 27)] rfl #[(0, .agg (Value.int .i64 n :: bvs l).toArray)] rfl (c8 _ n)) ?_;refine wpList_nil ?_;simp only [Act.put,GL,DL,lss];refine ⟨fun _=>⟨by rw [World.cell?_alloc_lt _ _ _ (by simpa using a3.lt)];exact c1,World.rangeAt_alloc b5 _⟩, ?_⟩;have d3:=a3.lt;have hW:aj (ak D) w o (q.drew.alloc (.cells (Value.int .i64 (n:Int) :: bvs l).toArray 220)) o1:=(b2.drew).alloc' _;have b6:(q.drew.alloc (.cells (Value.int .i64 (n:Int) :: bvs l).toArray 220)).heap[q.heap.size]?=some (.cells (Value.int .i64 (n:Int) :: bvs l).toArray 220 (0,0)):=heap_alloc_new q.drew _;have hold:∀ k,k<q.heap.size->(q.drew.alloc (.cells (Value.int .i64 (n:Int) :: bvs l).toArray 220)).heap[k]?=q.heap[k]?:=fun k hk=>Below.heap_alloc q.drew _ k hk;have d4:=Ci b4 (fun k hk=>hold k (b4.lt k hk).2);generalize b7:(q.drew.alloc (.cells (Value.int .i64 (n:Int) :: bvs l).toArray 220))=W at *;have e7:W.heap.size=q.heap.size+1:=by rw [<-b7];simp
 obtain ⟨g,e8,U,b8,d5,a5,a4,e9⟩:=DD (P:=prog) W 128 128 220 underlying128 fO Dp om (Nat.zero_le _) rv r.row.length (Ei r.row) d4 q.heap.size 0 1 1
  (Value.int .i64 (n:Int) :: bvs l) (by rw [List.length_cons,Bh,J.out]) (AV b6) (MJ rfl (Io l)) om om om
 have d6:=au b3;have a6:U.heap[p]?=q.heap[p]?:=by
  rw [a5.block p om (by intro u;have:=wI p u.symm;rw [op] at this;simp at this),hold p d3]
 have uI:U.heap[O]?=some (.cells (bvs r.pages.flatten).toArray 218 (0,0)):=by
  rw [a5.block O om (by intro u;have:=wI O u.symm;rw [ol] at this;simp at this),hold O d6];exact b3
 have a7:o1 g=(D,2) \/ W.heap.size<=g:=by
  rcases a4 with a4 | a4
  ·exact .inl (wI g a4)
  ·exact .inr om
 have b9:aj (ak D) w o U (Ak o1 g (D,2)):=hW.grown a5 (fun k hk => .inl (by rw [wI k hk];rfl)) g (D,2) a7;have xX:p ≠ g:=by
  rintro rfl
  rcases a7 with E | E
  ·rw [op] at E;simp at E
  ·omega
 have d7:O ≠ g:=by
  rintro rfl
  rcases a7 with E | E
  ·rw [ol] at E;simp at E
  ·omega
 have d8:U.cell? ⟨p,1,none⟩=some rv:=by rw [World.cell?_of_block (w:=q) (a:=⟨p,1,none⟩) a6];exact c1
 have f0:U.frozen? ⟨p,1,none⟩=false:=by rw [World.frozen?_of_block (w:=q) (a:=⟨p,1,none⟩) a6];exact f1
 have d9:U.rangeAt b off (bvs l):=Cf hr (b9.block b b1 (by rw [ho];exact fun h=>hD h.symm));refine tO 11 (h:=?_);refine BV rfl (VN (.tmp 22) (.tmp 28) 128 128 rfl b8) ?_;refine wpList_nil ?_;simp only [Act.put,GL,DL,lss];refine ⟨fun _=>⟨d8,d9⟩, ?_⟩;clear b8 b7 hold b6;refine tO 12 (h:=?_);go_wp2_with fail;refine ⟨fun h=>by simp at h, ?_⟩;refine tO 13 (h:=?_);go_wp2_with fail;refine ⟨fun h=>by simp at h, ?_⟩;refine tO 14 (h:=?_);go_wp2_with fail;refine ⟨fun h=>by simp at h, ?_⟩;refine tD (h:=?_)
 go_wp2
 go_ret;refine ⟨_,Ak o1 g (D,2),rfl,b9.setCell _ (.inl ?_),rfl, ?_⟩
 ·show ak D (Ak o1 g (D,2) p).1;rw [BI _ _ xX,op];rfl
 ·rw [Int.toNat_natCast];obtain ⟨f4,f5,a8,f6, -⟩:=a3;have e3:q.heap[p]?=some (.cells #[.slice (some ⟨O,0,none⟩) r.pages.length r.pages.length,rv, .int .i64 r.left, .bool r.dead] 130 (0,0)):=by
   have e0:=ag a8 0;have e1:=ag a8 1;rw [c0] at e0;rw [c1] at e1;simp only [ay,ax,Option.some.injEq] at e0 e1;rw [a8, <-e0, <-e1]
  exact Bg.pushed c9 c6 J.out (a6.trans e3) uI d5 (by rw [BI _ _ xX];exact op) (by rw [BI _ _ d7];exact ol) (Au _ _ _)
theorem write_any {w:World}{o:Own}{D p:Nat}{d:Af}(h:Bg w o D p d) (q:D ≠ 0) (at':Int) (v:Value) (l:List UInt8) (hb:Bytes w o v l) (r:d.row.length<=1000000) :
  Calls prog 237 #[.pointer (some ⟨p,0,none⟩), .int .i64 at',v] w (XL (ak D) w o fun v w' o'=>v = .int .i64 (d.write at' l).2/\Bg w' o' D p (d.write at' l).1):=by
 by_cases hc:(d.counted (d.asked at' l.length)).2=0
 ·exact Yb h q at' v l hb r hc
 ·exact Zr h at' v l hb hc
theorem gJ:((prog.info? 218).bind (·.zero)).map (·.cells)=some FQ.toArray:=by kernel_rfl
theorem Zq:((prog.info? 220).bind (·.zero)).map (·.cells)=some EM.toArray:=by kernel_rfl
theorem dH:(prog.info? 220).map (·.size)=some 513:=by kernel_rfl
theorem AjB {w:World}{b off:Nat}{l:List UInt8}(hl:l.length=512) (q:w.rangeAt b off (bvs l)):(loadVar 218 ⟨b,off,none⟩).run prog w = .ok (.agg (bvs l).toArray) w:=
 run_loadVar_mid w b off 218 (bvs l) _ q underlying218 rfl (by rw [Bh,hl];exact ZT)
theorem XK {w:World}{b off:Nat}{n:Int}{l:List UInt8}(hl:l.length=512) (q:w.rangeAt b off (Value.int .i64 n :: bvs l)):(loadVar 220 ⟨b,off,none⟩).run prog w = .ok (.agg (Value.int .i64 n :: bvs l).toArray) w:=
 run_loadVar_mid w b off 220 _ _ q underlying220 rfl (by rw [List.length_cons,Bh,hl];exact dH)
theorem Ib {P:Program}{a:Act}{op:Oper}{w:World}(t:TypeId) (x y:Operand) (q:op.op = .store t x y) (b o:Nat) (cs:List Value) (r:a.eval x = .pointer (some ⟨b,o,none⟩)) (hy:a.eval y = .agg cs.toArray)
  (u:w.there b o cs.length) (hi:(P.info? t).map (·.size)=some cs.length) (E:∀ v ∈ cs,v.oneCell'=true):(execOp a.eval op).run P w = .ok .skip (w.setCells b o cs):=by
 unfold execOp;simp only [q,r,hy,Instr.storeAt,Instr.sureAddr,Sem.run_bind,Sem.run_pure,Result.andThen_ok];rw [run_storeVar_mid w b o t cs.toArray (by simpa using u) (by simpa using hi) (all_oneCell_toArray E)];simp
theorem EO {P:Program}{ops:Array Oper}{Q:Exit->Act->World->Prop}{rest:List Oper}{op:Oper}{a:Act}{w w':World}(q:op.guard=none) (r:(execOp a.eval op).run P w = .ok .skip w')
  (h:wpList P ops Q rest (a.put op.dst undef) w'):wpList P ops Q (op :: rest) a w:=
 wpList_plain q fun _ u=>by unfold Oper.wp;rw [r];exact u _ _ h
def iR (w:World) (w':World) (o':Own) (v:Value) (l:List UInt8):Prop:=
 (v = .slice none 0 0/\l=[]) \/ ∃ b,v = .slice (some ⟨b,0,none⟩) 512 512/\l.length=512/\w.heap.size<=b/\w'.heap[b]?=some (.cells (bvs l).toArray 218 (0,0))/\o' b=(0,0)
theorem aA {w:World}{o:Own}{D p:Nat}{d:Af}(h:Bg w o D p d) (at':Int) (hc:d.asked at' 512=0) (hrow:d.row.length<=1000000) :
  Calls prog 169 #[.pointer (some ⟨p,0,none⟩), .int .i64 at'] w (XL ai w o fun v w' o'=>∃ b,v = .tuple #[.slice (some ⟨b,0,none⟩) 512 512, .int .i64 0]/\w.heap.size<=b/\w'.heap[b]?=some (.cells (bvs (d.seen at'.toNat)).toArray 218 (0,0))/\o' b=(0,0)):=by
 have a5:0<=at'/\at'<d.pages.length:=by
  unfold Af.asked at hc;split at hc
  ·cases hc
  ·split at hc
   ·cases hc
   ·rename_i r;omega
 obtain ⟨a0,a1⟩:=a5;obtain ⟨n,rfl⟩:=Int.eq_ofNat_of_zero_le a0;have Y:n<d.pages.length:=om
 rw [Int.toNat_natCast];have WV:=ae hc;clear hc;obtain ⟨a6,hw2,O,hw4, -, -⟩:=h.wf;obtain ⟨bl,rv,⟨c0,c1,c2,c3⟩,⟨f1,f2,f3⟩,a7,U,op,ol,wI⟩:=h.open;have hpg:(d.pages.getD n []).length=512:=Af.OX O Y;have a2:w.rangeAt bl (n*512) (bvs (d.pages.getD n [])):=by
  have:=BU a7 (n*512) 512
  rwa [Np,Ky,RP _ _ Y O] at this
 have hld:=AjB hpg a2;have HP:=ae hpg;clear hpg a2 O op ol wI;have b1:p<w.heap.size:=h.lt;obtain ⟨ra,b2,hrv⟩:=UH U;subst hrv;generalize qX:d.pages.getD n []=page at *;have Aql:=ae qX;clear qX;go_enter func169,ntmps169
 go_wp2_with (first
  | (go_at_call 228;refine (Kz h _ _ _ WV).mono ?_;rintro e w' ⟨rfl,rfl⟩)
  | (refine BV rfl (IV 218 (.tmp 21) rfl bl (n*512) rfl hld) ?_;simp only [Act.put,GL,DL,lss])
  | (refine BV rfl (Jo 218 rfl (AB w 218 FQ.toArray gJ)) ?_;simp only [Act.put,GL,DL,lss])
  | (
    refine EO rfl (Ib 218 (.tmp 7) (.tmp 22) rfl w.heap.size 0 (bvs page) rfl rfl (Dh (heap_alloc_new w _) 0 _ (by rw [Bh,HP.out,FY];omega)) (by rw [Bh,HP.out];exact ZT) (Io _)) ?_;rw [Be _ _ _ _ (by rw [Bh,HP.out,List.size_toArray,FY])]))
 go_loopw [28] (fun i wr=>∃ k:Nat,k<=d.row.length/\i = .int .i64 k/\wr.heap[w.heap.size]?=some (.cells (bvs (Af.seenIn n page (d.row.take k))).toArray 218 (0,0))/\(Af.seenIn n page (d.row.take k)).length=512/\Below w.heap.size w wr)
  (fun i _=>d.row.length - (intOf i).toNat)
 case atStart=>exact ⟨0,Nat.zero_le _,rfl,heap_alloc_new w _,HP.out,(Below.refl _ w).alloc (Nat.le_refl _) _⟩
 case round =>
  obtain ⟨k,u,rfl,hB,a3,hbel⟩:=hrel;have hBz:=au hB;have J:=ae a3;clear a3
  by_cases E:k<d.row.length
  ·obtain ⟨g,hg,cur,hcur,htk⟩:∃ g,ra=some ⟨g,0,none⟩/\∃ cur:Array Value,w.heap[g]?=some (.cells cur 220 (0,0))/\cur.toList.take (d.row.length*513)=Ei d.row:=by
    rcases U.2 with ⟨_,h0⟩ | ⟨g,cap,cur,hv,_,a8,_,_,_,a9⟩
    ·omega
    ·simp only [Value.slice.injEq] at hv;exact ⟨g,hv.1,cur,a8,a9⟩
   subst hg;have r:=hw4 d.row[k] (List.getElem_mem E);have hgz:=au hcur;have a4:wr.rangeAt g (k*513) (Value.int .i64 (d.row[k].1:Int) :: bvs d.row[k].2):=by
    have e1:wr.heap[g]?=some (.cells cur.toList.toArray 220 (0,0)):=by rw [hbel.block g hgz];simpa using hcur
    have:=BU e1 (k*513) 513;have e2:(cur.toList.drop (k*513)).take 513=((Ei d.row).drop (k*513)).take 513:=by
     rw [<-htk,List.drop_take,List.take_take];congr 1;omega
    rwa [e2,Jm _ _ E (fun x r=>(hw4 x r).2)] at this
   have zZ:=XK r.2 a4;have hX:=ae r.2;have Afk:Af.seenIn n page (d.row.take (k+1))=if d.row[k].1=n then d.row[k].2 else Af.seenIn n page (d.row.take k):=by
    rw [List.take_succ_eq_append_getElem E,Af.seenIn,List.foldl_append];rfl
   have W:=ae Afk;clear Afk r a4 htk hcur hw4 U a6 hw2;generalize hrow:d.row[k]=x at *;obtain ⟨q,xl⟩:=x;clear hrow;simp only at hX zZ W;have hnew:(wr.alloc (.cells (Value.int .i64 (q:Int) :: bvs xl).toArray 220)).heap[wr.heap.size]?=some (.cells (Value.int .i64 (q:Int) :: bvs xl).toArray 220 (0,0)):=heap_alloc_new wr _;have zY:(loadVar 218 ⟨wr.heap.size,1,none⟩).run prog (wr.alloc (.cells (Value.int .i64 (q:Int) :: bvs xl).toArray 220)) = .ok (.agg (bvs xl).toArray) (wr.alloc (.cells (Value.int .i64 (q:Int) :: bvs xl).toArray 220)):=by
    refine AjB hX.out ?_;have:=BU hnew 1 512;have e:((Value.int .i64 (q:Int) :: bvs xl).drop 1).take 512=bvs xl:=by rw [List.drop_one,List.tail_cons,List.take_of_length_le (by rw [Bh,hX.out];omega)]
    rwa [e] at this
   have hB2:(wr.alloc (.cells (Value.int .i64 (q:Int) :: bvs xl).toArray 220)).heap[w.heap.size]?=some (.cells (bvs (Af.seenIn n page (d.row.take k))).toArray 218 (0,0)):=by rw [Below.heap_alloc _ _ _ hBz];exact hB
   by_cases heq:q=n
   ·have AzI:((q:Int) == (n:Int))=true:=by rw [heq];simp
    have F:Af.seenIn n page (d.row.take (k+1))=xl:=by rw [W.out,if_pos heq]
    have Amx:=ae F;clear F heq
    go_wp2_with (first
     | (refine BV rfl (IV 220 (.tmp 30) rfl g (k*513) rfl zZ) ?_;simp only [Act.put,GL,DL,lss])
     | (refine BV rfl (Jo 220 rfl (AB wr 220 EM.toArray Zq)) ?_;simp only [Act.put,GL,DL,lss])
     | (
       refine EO rfl (Ib 220 (.tmp 9) (.tmp 31) rfl wr.heap.size 0 (Value.int .i64 (q:Int) :: bvs xl) rfl rfl (Dh (heap_alloc_new wr _) 0 _ (by rw [List.length_cons,Bh,hX.out,Dp];omega)) (by rw [List.length_cons,Bh,hX.out];exact dH) (MJ rfl (Io _))) ?_;rw [Be _ _ _ _ (by rw [List.length_cons,Bh,hX.out,List.size_toArray,Dp])])
     | (refine BV rfl (IV 218 (.tmp 36) rfl wr.heap.size 1 rfl zY) ?_;simp only [Act.put,GL,DL,lss])
     | (refine EO rfl (Ib 218 (.tmp 7) (.tmp 37) rfl w.heap.size 0 (bvs xl) rfl rfl (Dh hB2 0 _ (by rw [Bh,Bh,hX.out,J.out];omega)) (by rw [Bh,hX.out];exact ZT) (Io _)) ?_;simp only [Act.put]))
    go_roundw
    case rel =>
     refine ⟨k+1,E,by go_num, ?_, ?_, ?_⟩
     ·rw [Amx.out];have:=BP w.heap.size 218 (bvs xl) 0 _ _ hB2 (by rw [Bh,Bh,hX.out,J.out];omega);rw [this,List.take_zero,List.nil_append,List.drop_eq_nil_of_le (by rw [Bh,Bh,hX.out,J.out];omega),List.append_nil]
     ·rw [Amx.out];exact hX.out
     ·have h1:=hbel.alloc hbel.size (.cells (Value.int .i64 (q:Int) :: bvs xl).toArray 220);exact aj.below ((((aj.refl ai w o).trans ⟨h1.os,h1.tape,h1.output,h1.size,fun _ _=>rfl,fun k u _=>h1.block k u⟩)).setCells w.heap.size 0 (bvs xl) (.inr (Nat.le_refl _)))
    case measure=>simp [intOf];omega
   ·have AzI:((q:Int) == (n:Int))=false:=by simp;omega
    have F:Af.seenIn n page (d.row.take (k+1))=Af.seenIn n page (d.row.take k):=by rw [W.out,if_neg heq]
    have Amx:=ae F;clear F heq
    go_wp2_with (first
     | (refine BV rfl (IV 220 (.tmp 30) rfl g (k*513) rfl zZ) ?_;simp only [Act.put,GL,DL,lss])
     | (refine BV rfl (Jo 220 rfl (AB wr 220 EM.toArray Zq)) ?_;simp only [Act.put,GL,DL,lss])
     | (
       refine EO rfl (Ib 220 (.tmp 9) (.tmp 31) rfl wr.heap.size 0 (Value.int .i64 (q:Int) :: bvs xl) rfl rfl (Dh (heap_alloc_new wr _) 0 _ (by rw [List.length_cons,Bh,hX.out,Dp];omega)) (by rw [List.length_cons,Bh,hX.out];exact dH) (MJ rfl (Io _))) ?_;rw [Be _ _ _ _ (by rw [List.length_cons,Bh,hX.out,List.size_toArray,Dp])]))
    go_roundw
    case rel=>exact ⟨k+1,E,by go_num,by rw [Amx.out];exact hB2,by rw [Amx.out];exact J.out,hbel.alloc hbel.size _⟩
    case measure=>simp [intOf];omega
  ·go_wp2
   go_ret2
   refine ⟨_,Ak o w.heap.size (0,0),rfl, ?_,w.heap.size,rfl,Nat.le_refl _, ?_,Au _ _ _⟩
   ·exact ⟨hbel.os,hbel.tape,hbel.output,hbel.size,fun k u=>BI _ _ om,fun k u _=>hbel.block k u⟩
   ·have:d.row.take k=d.row:=List.take_of_length_le om;rw [this] at hB;rw [hB];unfold Af.seen;rw [Aql.out]
theorem s5:(prog.info? 5).map (·.size)=some 1:=by kernel_rfl
namespace Af
theorem Kw (f:Nat->Nat) (pages:List (List UInt8)) (row:List (Nat × List UInt8)) (x:Nat × List UInt8):Dk f pages (row++[x])=Gf f (Dk f pages row) (x,row.length):=by
 simp [Dk,List.zipIdx_append,List.foldl_append]
theorem Jq (f:Nat->Nat) (J:∀ i,f i<=512) (pages:List (List UInt8)) (h:∀ p ∈ pages,p.length=512) (row:List (Nat × List UInt8)) (O:∀ x ∈ row,x.1<pages.length/\x.2.length=512) :
  (Dk f pages row).length=pages.length/\∀ p ∈ Dk f pages row,p.length=512:=by
 suffices hs:∀ (row:List (Nat × List UInt8)) (k:Nat) (q:List (List UInt8)),q.length=pages.length->(∀ p ∈ q,p.length=512)->(∀ x ∈ row,x.1<pages.length/\x.2.length=512) ->
   ((row.zipIdx k).foldl (Gf f) q).length=pages.length/\∀ p ∈ (row.zipIdx k).foldl (Gf f) q,p.length=512 from hs row 0 pages rfl h O
 intro row
 induction row with
 | nil=>intro k q hq hp _;exact ⟨hq,hp⟩
 | cons x r U =>
  intro k q hq hp u;have E:=u x (by simp);have F:=Xp f J hp (x,k) (by rw [hq];exact E.1) E.2;rw [List.zipIdx_cons,List.foldl_cons];exact U (k+1) _ (F.1.trans hq) F.2 (fun y W=>u y (by simp [W]))
end Af
theorem bK {w:World}{o:Own}{D p:Nat}{d:Af}(h:Bg w o D p d) (hrow:d.row.length<=1000000) (fid:Nat) (caps:Array Value) (f:Nat->Nat) (hf:∀ i,f i<=512)
  (hcall:∀ (args:Array Value) (x:World),(callFunc fid args).run prog x = .ok (.enter fid args) x)
  (vT:∀ (i:Nat) (x:World),i<d.row.length->(∀ k,k<w.heap.size->(o k).1 ≠ D->x.heap[k]?=w.heap[k]?)->Calls prog fid (#[.int .i64 (i:Int)]++caps) x fun e x'=>e = .returned (.int .i64 (f i:Int))/\x=x') :
  Calls prog 105 #[.pointer (some ⟨p,0,none⟩), .func (.func fid) #[] caps] w (XL (ak D) w o fun v w' o'=>v = .tuple #[]/\Bg w' o' D p (d.done f)):=by
 have hwf:=h.wf;obtain ⟨hw1,b4,hw3,O,hw5,b5⟩:=h.wf;have a4:p<w.heap.size:=h.lt;obtain ⟨bl,rv,hp,hbl,a5,op,ol,wI, -⟩:=h;have c0:=ag hp 0;have c1:=ag hp 1;have f1:=Ap hp 1;simp only [ay,ax] at c0 c1;have d1:=au hbl;obtain ⟨ra,b6,hrv⟩:=UH a5;subst hrv;have wU:p ≠ bl:=by rintro rfl;rw [op] at ol;simp at ol
 have a6:=Af.Jq f hf d.pages hw3;have wM:=ae vT;have Aau:=ae a6;have d3:=ae hw3;have opH:=ae op;have U:=ae ol;clear vT a6 hw3 op ol;go_enter func105,ntmps105;go_wp2_with fail
 go_loopw [11] (fun i wr=>∃ k:Nat,k<=d.row.length/\i = .int .i64 k/\wr.heap[bl]?=some (.cells (bvs (Af.Dk f d.pages (d.row.take k)).flatten).toArray 218 (0,0))/\(∀ j,j<w.heap.size->j ≠ bl->wr.heap[j]?=w.heap[j]?)/\aj (ak D) w o wr o)
  (fun i _=>d.row.length - (intOf i).toNat)
 case atStart=>exact ⟨0,Nat.zero_le _,rfl,hbl,fun _ _ _=>rfl,aj.refl _ _ _⟩
 case round =>
  obtain ⟨k,hk,rfl,hB,hsame,F⟩:=hrel;have b7:p<wr.heap.size:=Nat.lt_of_lt_of_le a4 F.size;have Y:wr.heap[p]?=w.heap[p]?:=hsame p a4 wU;have b8:wr.cell? ⟨p,0,none⟩=some (.slice (some ⟨bl,0,none⟩) d.pages.length d.pages.length):=by rw [World.cell?_of_block (w:=w) (a:=⟨p,0,none⟩) Y];exact c0
  have d4:wr.frozen? ⟨p,1,none⟩=false:=by rw [World.frozen?_of_block (w:=w) (a:=⟨p,1,none⟩) Y];exact f1
  have c1r:wr.cell? ⟨p,1,none⟩=some (.slice ra d.row.length b6):=by rw [World.cell?_of_block (w:=w) (a:=⟨p,1,none⟩) Y];exact c1
  by_cases J:k<d.row.length
  ·obtain ⟨g,hg,cur,hcur,a7⟩:∃ g,ra=some ⟨g,0,none⟩/\∃ cur:Array Value,w.heap[g]?=some (.cells cur 220 (0,0))/\cur.toList.take (d.row.length*513)=Ei d.row:=by
    rcases a5.2 with ⟨_,h0⟩ | ⟨g,cap,cur,hv,_,b9,_,_,_,c3⟩
    ·omega
    ·simp only [Value.slice.injEq] at hv;exact ⟨g,hv.1,cur,b9,c3⟩
   subst hg;have E:=O d.row[k] (List.getElem_mem J);have hgz:=au hcur;have c4:g ≠ bl:=by rintro rfl;have:=wI g rfl;rw [U.out] at this;simp at this
   have a8:wr.rangeAt g (k*513) (Value.int .i64 (d.row[k].1:Int) :: bvs d.row[k].2):=by
    have e1:wr.heap[g]?=some (.cells cur.toList.toArray 220 (0,0)):=by rw [hsame g hgz c4];simpa using hcur
    have:=BU e1 (k*513) 513;have e2:(cur.toList.drop (k*513)).take 513=((Ei d.row).drop (k*513)).take 513:=by
     rw [<-a7,List.drop_take,List.take_take];congr 1;omega
    rwa [e2,Jm _ _ J (fun x E=>(O x E).2)] at this
   have zZ:=XK E.2 a8;have vM:=Aau.out (d.row.take k) (fun x E=>O x (List.mem_of_mem_take E));have a9:Af.Dk f d.pages (d.row.take (k+1))=Af.Gf f (Af.Dk f d.pages (d.row.take k)) (d.row[k],k):=by
    rw [List.take_succ_eq_append_getElem J,Af.Kw,List.length_take,Nat.min_eq_left om]
   have uZ:=ae a9;have u:=ae vM;have hXH:=ae E;have b1:aj (ak D) w o (wr.alloc (.cells (Value.int .i64 (d.row[k].1:Int) :: bvs d.row[k].2).toArray 220)) o:=F.alloc' _;have hx1:d.row[k].1<d.pages.length:=E.1;clear a9 E a8 a7 hcur vM;generalize yR:d.row[k]=x at *;obtain ⟨q,xl⟩:=x;clear yR;simp only at hXH zZ uZ b1 hx1;generalize hpk:Af.Dk f d.pages (d.row.take k)=pk at *;have AdE:=ae hpk;clear hpk;have sZ:Hid (xl.length=512):=hXH.out.2;have Adv:(q:Int)<(d.pages.length:Int):=om
   have hnew:(wr.alloc (.cells (Value.int .i64 (q:Int) :: bvs xl).toArray 220)).heap[wr.heap.size]?=some (.cells (Value.int .i64 (q:Int) :: bvs xl).toArray 220 (0,0)):=heap_alloc_new wr _;have AbR:bl<wr.heap.size:=au hB;have hB2:(wr.alloc (.cells (Value.int .i64 (q:Int) :: bvs xl).toArray 220)).heap[bl]?=some (.cells (bvs pk.flatten).toArray 218 (0,0)):=by rw [Below.heap_alloc _ _ _ AbR];exact hB
   have Aaj:(wr.alloc (.cells (Value.int .i64 (q:Int) :: bvs xl).toArray 220)).cell? ⟨p,0,none⟩=some (.slice (some ⟨bl,0,none⟩) d.pages.length d.pages.length):=by rw [World.cell?_alloc_lt _ _ _ b7];exact b8
   have hsz:(wr.alloc (.cells (Value.int .i64 (q:Int) :: bvs xl).toArray 220)).heap.size=wr.heap.size+1:=by simp
   go_wp2_with (first
    | (refine BV rfl (IV 220 (.tmp 14) rfl g (k*513) rfl zZ) ?_;simp only [Act.put,GL,DL,lss])
    | (refine BV rfl (Jo 220 rfl (AB wr 220 EM.toArray Zq)) ?_;simp only [Act.put,GL,DL,lss])
    | (
      refine EO rfl (Ib 220 (.tmp 5) (.tmp 15) rfl wr.heap.size 0 (Value.int .i64 (q:Int) :: bvs xl) rfl rfl (Dh (heap_alloc_new wr _) 0 _ (by rw [List.length_cons,Bh,sZ.out,Dp];omega)) (by rw [List.length_cons,Bh,sZ.out];exact dH) (MJ rfl (Io _))) ?_;rw [Be _ _ _ _ (by rw [List.length_cons,Bh,sZ.out,List.size_toArray,Dp])]))
   generalize hW:wr.alloc (.cells (Value.int .i64 (q:Int) :: bvs xl).toArray 220)=W at *;have yI:W.cell? ⟨wr.heap.size,0,none⟩=some (.int .i64 (q:Int)):=by rw [ag hnew 0];rfl
   refine Aa (fun w'=>w'.cell? ⟨p,0,none⟩=some (.slice (some ⟨bl,0,none⟩) d.pages.length d.pages.length)/\w'.cell? ⟨wr.heap.size,0,none⟩=some (.int .i64 (q:Int))) (fun _=>true) (by kernel_rfl) ⟨Aaj,yI⟩ (fun hHeld => ?_);refine tq 0 (h:=tq 1 (h:=tq 2 (h:=tq 3 (h:=tq 4 (h:=tq 5 (h:=tq 6 (h:=tq 7 (h:=tq 8 (h:=tq 11 (h:=tq 12 (h:=?_)))))))))));have hfk:(0:Int)<=(f k:Int)/\(f k:Int)<=512:=⟨om,by have:=hf k;omega⟩;have AdL:=hfk.1;have d5:=hfk.2;have hk6:k<=1000000:=om
   have c6:∀ j,j<w.heap.size->j ≠ bl->W.drew.heap[j]?=w.heap[j]?:=fun j r hjb=>by
    show W.heap[j]?=_;rw [<-hW,Below.heap_alloc _ _ _ (Nat.lt_of_lt_of_le r F.size)];exact hsame j r hjb
   have uG:=wM.out k W.drew J (fun j r b2=>c6 j r (by rintro rfl;rw [U.out] at b2;exact b2 rfl));have rY:=ae uG;clear uG hfk;refine tO 9 (h:=?_)
   go_wp2_with ((with_reducible refine rY.out.mono ?_);rintro e x' ⟨rfl,rfl⟩)
   refine ⟨fun _=>hHeld, ?_⟩;refine tO 10 (h:=?_);go_wp2_with fail;refine ⟨fun _=>hHeld, ?_⟩;have hcl:(bvs (xl.take (f k))).length=f k:=by rw [Bh,List.length_take,sZ.out,Nat.min_eq_left (hf k)]
   have zF:W.drew.heap[wr.heap.size]?=some (.cells (Value.int .i64 (q:Int) :: bvs xl).toArray 220 (0,0)):=hnew;have hsrc:W.drew.rangeAt wr.heap.size 1 (bvs (xl.take (f k))):=by
    have:=BU zF 1 (f k)
    rwa [List.drop_one,List.tail_cons,Ky] at this
   have hpl2:(bvs pk.flatten).length=d.pages.length*512:=by rw [Bh,MS _ u.out.2,u.out.1]
   have a2:q*512+(bvs (xl.take (f k))).length<=(bvs pk.flatten).length:=by rw [hcl,hpl2];have:=hf k;omega
   have a3:W.drew.heap[bl]?=some (.cells (bvs pk.flatten).toArray 218 (0,0)):=hB2;have hth:=Dh a3 (q*512) _ a2;have b3:=run_copy_cells (P:=prog) W.drew 29 29 3 5 bl (q*512) (f k) 512 ⟨wr.heap.size,1,none⟩ 512 512 (bvs (xl.take (f k))) underlying29 s5 (by rw [hcl];exact (Nat.min_eq_right (hf k)).symm)
    (fun j v hv=>by rw [Addr.add_mid];exact hsrc j v hv) (fun j r=>(hth j r).1) (fun j r=>(hth j r).2) (Io _)
   have d6:(bvs (xl.take (f k))).length<=512:=by rw [hcl];exact hf k
   have c7:=BP bl 218 (bvs (xl.take (f k))) (q*512) W.drew _ a3 a2;refine tO 13 (h:=?_);refine BV rfl (Za (.tmp 26) (.tmp 28) 29 29 rfl b3) ?_;refine wpList_nil ?_;simp only [Act.put,GL,DL,lss];have yZ:p ≠ wr.heap.size:=om
   have zG:wr.heap.size ≠ bl:=om
   refine ⟨fun _=>⟨?_, ?_⟩, ?_⟩
   ·rw [World.cell?_of_block (w:=W.drew) (a:=⟨p,0,none⟩) (ah bl _ _ _ p wU)];exact Aaj
   ·rw [World.cell?_of_block (w:=W.drew) (a:=⟨wr.heap.size,0,none⟩) (ah bl _ _ _ _ zG)];exact yI
   refine tD (h:=?_);clear b3 hth hsrc c7;generalize hW4:W.drew.setCells bl (q*512) (bvs (xl.take (f k)))=W4 at *;go_wp2_with fail;go_roundw
   case rel =>
    refine ⟨k+1,J,by go_num, ?_, ?_, ?_⟩
    ·rw [<-hW4,BP bl 218 (bvs (xl.take (f k))) (q*512) W.drew _ a3 a2,uZ.out];rw [hcl,Ky,Np, <-Jv, <-Jv];have:=Ro pk q (xl.take (f k)) (by rw [u.out.1];exact hx1) u.out.2 (by rw [List.length_take,sZ.out];have:=hf k;omega);have hl2:(xl.take (f k)).length=f k:=by rw [<-Bh];exact hcl
     rw [hl2] at this;rw [this];rfl
    ·intro j r hjb;rw [<-hW4,ah bl _ _ _ j hjb];show W.heap[j]?=_;rw [<-hW,Below.heap_alloc _ _ _ (Nat.lt_of_lt_of_le r F.size)];exact hsame j r hjb
    ·rw [<-hW4];exact (b1.drew).setCells bl _ _ (.inl (by rw [U.out];rfl))
   case measure=>simp [intOf];omega
  ·have c8:k=d.row.length:=om
   subst c8;have vM:=Aau.out d.row O;have u:=ae vM;clear vM;have hfin:aj (ak D) w o (wr.setCell ⟨p,1,none⟩ (.slice none 0 0)) o:=F.setCell _ (.inl (by show ak D (o p).1;rw [opH.out];rfl));have c9:Bg (wr.setCell ⟨p,1,none⟩ (.slice none 0 0)) o D p (d.done f):=by
    refine ⟨bl, .slice none 0 0, ?_, ?_,World.ownsRow_nil _ _ _ _,opH.out,U.out, ?_, ?_⟩
    ·have:=Ai (i:=1) (.slice none 0 0) (Y.trans hp);rw [this];simp [Af.done,u.out.1]
    ·rw [Below.heap_setCell _ _ _ _ (by exact fun h=>wU h.symm),hB,List.take_length];rfl
    ·intro j r;simp [Value.ownBlock] at r
    ·exact ⟨by simp only [Af.done,u.out.1];exact hw1,by simp only [Af.done,u.out.1];exact b4,u.out.2,by simp [Af.done],hw5,b5⟩
   go_wp2_with fail
   go_end0
   exact ⟨_,o,rfl,hfin,rfl,c9⟩
def ivs (l:List Int):List Value:=l.map (.int .i64)
def Ints (w:World) (o:Own) (v:Value) (l:List Int):Prop:=sH w o v l.length (ivs l)
theorem Yg (i:Int) (x:World):Calls prog 257 #[.int .i64 i] x fun e x'=>e = .returned (.int .i64 512)/\x=x':=by
 go_enter func257,ntmps257
 go_wp2
 go_ret;exact ⟨rfl,rfl⟩
theorem kF (a:Int):((a.tmod 513)+513) % 513=a % 513:=by
 have e1:(a.tmod 513)=a % 513 \/ (a.tmod 513)=a % 513 - 513:=by
  rw [Int.tmod_eq_emod];split
  ·left;omega
  ·right;simp
 omega
theorem jM (i:Nat) (x:World) (o:Own) (box:Nat) (fv:Value) (l:List Int) (U:x.cell? ⟨box,0,none⟩=some fv) (hl:Ints x o fv l) (E:∀ a ∈ l, -9223372036854775808<=a/\a<=9223372036854775807) (hi:i<=1000000) :
  Calls prog 106 #[.int .i64 (i:Int), .pointer (some ⟨box,0,none⟩)] x fun e x'=>e = .returned (.int .i64 (Af.Xm l i:Int))/\x=x':=by
 rcases hl with ⟨⟨sa,W,rfl⟩,hn,Y⟩ | ⟨b,off,cap,rfl,a2,F,ho,hb,J⟩
 ·have:l=[]:=List.eq_nil_of_length_eq_zero hn;subst this;have q:(Af.Xm [] i:Int)=0:=by simp [Af.Xm]
  rw [q];go_enter func106,ntmps106
  go_wp2
  go_ret;exact ⟨rfl,rfl⟩
 ·by_cases r:i<l.length
  ·have hc:x.cell? ⟨b,off+i,none⟩=some (.int .i64 l[i]):=J i _ (by simp [ivs,r]);have u:=E l[i] (List.getElem_mem r);have q:(Af.Xm l i:Int)=l[i] % 513:=by
    simp only [Af.Xm,List.getD_eq_getElem?_getD,List.getElem?_eq_getElem r,Option.getD_some];omega
   rw [q];generalize l[i]=a at *;have O:(l.length:Int)<=9223372036854775807:=by unfold maxLen at F;omega
   have b1:=u.1;have b2:=u.2;clear u q J E;have g1 : -513<a.tmod 513:=by have:=Int.tmod_lt_of_pos a (show (0:Int)<513 by omega);have h2:=Int.lt_tmod_of_pos a (show (0:Int)<513 by omega);omega
   have g2:a.tmod 513<513:=Int.tmod_lt_of_pos a om;go_enter func106,ntmps106
   go_wp2
   go_ret;exact ⟨by rw [<-kF a];rfl,rfl⟩
  ·have q:(Af.Xm l i:Int)=0:=by
    simp only [Af.Xm,List.getD_eq_getElem?_getD];rw [List.getElem?_eq_none om];simp
   rw [q];clear q;have O:(l.length:Int)<=9223372036854775807:=by unfold maxLen at F;omega
   go_enter func106,ntmps106
   go_wp2
   go_ret;exact ⟨rfl,rfl⟩
theorem dC {w:World}{o:Own}{D p:Nat}{d:Af}(h:Bg w o D p d) (hc:(d.counted (d.asked 0 512)).2 ≠ 0) :
  Calls prog 238 #[.pointer (some ⟨p,0,none⟩)] w (XL (ak D) w o fun v w' o'=>v = .int .i64 d.sync.2/\Bg w' o' D p d.sync.1):=by
 have q:d.sync=d.counted (d.asked 0 512):=by simp [Af.sync,hc]
 rw [q];obtain ⟨e,r⟩:∃ e,Hid (d.asked 0 512=e):=⟨_,rfl⟩;rw [r.out] at hc ⊢;obtain ⟨u,e1,E⟩:∃ u e1,Hid (d.counted e=(u,e1)):=⟨_,_,rfl⟩;rw [E.out] at hc ⊢;have O:(e1 != 0)=true:=by simpa using hc
 clear hc q;go_enter func238,ntmps238
 go_wp2_with (first | (go_at_call 228;refine (Kz h _ _ _ r).mono ?_;rintro e w' ⟨rfl,rfl⟩) | (go_at_call 256;refine (Js h _ E).mono ?_;rintro e w' ⟨U,o1,rfl,F,rfl,J⟩))
 go_ret;exact ⟨_,o1,rfl,F,rfl,J⟩
theorem ZK {w:World}{o:Own}{D p:Nat}{d:Af}(h:Bg w o D p d) (J:d.row.length<=1000000) :
  Calls prog 238 #[.pointer (some ⟨p,0,none⟩)] w (XL (ak D) w o fun v w' o'=>v = .int .i64 d.sync.2/\Bg w' o' D p d.sync.1):=by
 by_cases hc:(d.counted (d.asked 0 512)).2=0
 ·have u:d.sync=((d.counted (d.asked 0 512)).1.done fun _=>512,0):=by simp [Af.sync,hc]
  rw [u];obtain ⟨O,q⟩:=Af.Hg d (d.asked 0 512);obtain ⟨e,E⟩:∃ e,Hid (d.asked 0 512=e):=⟨_,rfl⟩;rw [E.out] at hc q ⊢;obtain ⟨r,e1,F⟩:∃ r e1,Hid (d.counted e=(r,e1)):=⟨_,_,rfl⟩;rw [F.out] at hc q ⊢;simp only at hc q ⊢;subst hc;have U:r.row.length<=1000000:=by rw [q];exact J
  clear u O q;go_enter func238,ntmps238
  go_wp2_with (first
   | (go_at_call 228;refine (Kz h _ _ _ E).mono ?_;rintro e w' ⟨rfl,rfl⟩)
   | (go_at_call 256;refine (Js h _ F).mono ?_;rintro e w1 ⟨v1,o1,rfl,W,rfl,Y⟩)
   | (go_at_call 105;refine (bK Y U 257 #[] (fun _=>512) (by simp) Tryz.call257 ?_).mono ?_;(intro i x _ _;exact Yg _ _);rintro e w2 ⟨v2,o2,rfl,a2,rfl,a3⟩))
  go_ret;exact ⟨_,o2,rfl,W.trans a2,rfl,a3⟩
 ·exact dC h hc
theorem jP {w:World}{o:Own}{D p:Nat}{d:Af}(h:Bg w o D p d) (J:D ≠ 0) (a4:d.row.length<=1000000) (fv:Value) (l:List Int) (hl:Ints w o fv l) (O:∀ a ∈ l, -9223372036854775808<=a/\a<=9223372036854775807) :
  Calls prog 59 #[.pointer (some ⟨p,0,none⟩),fv] w (XL (ak D) w o fun v w' o'=>v = .tuple #[]/\Bg w' o' D p (d.BJ l)):=by
 obtain ⟨ra,rc,rfl⟩:=Aq hl;generalize a5:Value.slice ra l.length rc=fv at *;have a6:aj (ak D) w o (w.alloc (.cells #[fv] 53)) (Ak o w.heap.size (0,0)):=(aj.refl _ w o).alloc _ _;have a7:Bg (w.alloc (.cells #[fv] 53)) (Ak o w.heap.size (0,0)) D p d:=h.step ((aj.refl ai w o).alloc _ _) (fun x=>x);have U:Ints (w.alloc (.cells #[fv] 53)) (Ak o w.heap.size (0,0)) fv l:=hl.step ((aj.refl ai w o).alloc _ _) (fun x=>x);have W:(w.alloc (.cells #[fv] 53)).heap[w.heap.size]?=some (.cells #[fv] 53 (0,0)):=heap_alloc_new w _;have Y:∀ (i:Nat) (x:World),i<d.row.length->(∀ k,k<(w.alloc (.cells #[fv] 53)).heap.size->(Ak o w.heap.size (0,0) k).1 ≠ D->x.heap[k]?=(w.alloc (.cells #[fv] 53)).heap[k]?) ->
   Calls prog 106 (#[.int .i64 (i:Int)] ++ #[.pointer (some ⟨w.heap.size,0,none⟩)]) x fun e x'=>e = .returned (.int .i64 (Af.Xm l i:Int))/\x=x':=by
  intro i x hi hx;have a8:x.heap[w.heap.size]?=some (.cells #[fv] 53 (0,0)):=by rw [hx _ (by simp) (by rw [Au];exact fun h=>J h.symm)];exact W
  have a9:Ints x (fun k=>if k<(w.alloc (.cells #[fv] 53)).heap.size then Ak o w.heap.size (0,0) k else (0,0)) fv l:=by
   rcases U with h0 | ⟨b,off,cap,hv,b1,hm,ho,hb,hr⟩
   ·exact .inl h0
   ·have e:=hx b hb (by rw [ho];exact fun h=>J h.symm);refine .inr ⟨b,off,cap,hv,b1,hm,by simp only [if_pos hb];exact ho, ?_,Cf hr e⟩;have b2:b<x.heap.size:=by
     rcases Nat.lt_or_ge b x.heap.size with E | E
     ·exact E
     ·rw [Array.getElem?_eq_none E,Array.getElem?_eq_getElem hb] at e;cases e
    exact b2
  exact jM i x _ w.heap.size fv l (cell_of_one a8) a9 O om
 have wM:=ae Y;clear Y O hl U W;subst a5;have a2:∀ (q:World) (r:Own),aj (ak D) w o q r->Bg q r D p (d.done (Af.Xm l))->Hid (aj (ak D) w o ((q.setCell ⟨p,3,none⟩ (.bool false)).setCell ⟨p,2,none⟩ (.int .i64 (-1))) r /\
   Bg ((q.setCell ⟨p,3,none⟩ (.bool false)).setCell ⟨p,2,none⟩ (.int .i64 (-1))) r D p (d.BJ l)):=fun q r F u =>
  ⟨(F.trans (u.DC 3 (.bool false))).trans ((u.Ik false).DC 2 (.int .i64 (-1))),(u.Ik false).dG (-1) om⟩
 go_enter func59,ntmps59
 go_wp2_with (first
  | (
    go_at_call 105;refine (bK a7 a4 106 #[.pointer (some ⟨w.heap.size,0,none⟩)] (Af.Xm l) (Af.eG l) Tryz.call106 wM.out).mono ?_;rintro e q ⟨v2,r,rfl,F,rfl,u⟩
    have a3:=a2 q r (a6.trans F) u;clear a2;obtain ⟨bl,rv,⟨c0,c1,c2,c3⟩,⟨f1,f2,f3⟩, -⟩:=u.open;have b3:(q.setCell ⟨p,3,none⟩ (.bool false)).cell? ⟨p,2,none⟩=some (.int .i64 (d.done (Af.Xm l)).left):=by rw [World.cell?_setCell_other _ _ _ _ (by simp)];exact c2))
 go_end0
 exact ⟨_,r,rfl,a3.out.1,rfl,a3.out.2⟩
def XE (b s:UInt8):Nat->UInt8
 | 0=>b
 | n+1=>XE b s n+s
def fD (b s:UInt8) (n:Nat):List UInt8:=(List.range n).map (XE b s)
theorem dW:(prog.info? 5).map (fun i=>(i.zero.map (fun z=>z.cells.toList),i.size,i.bytes))=some (some [.int .u8 0],1,1):=by kernel_rfl
def Ew (w w':World) (o':Own) (v:Value) (l:List UInt8):Prop:=
 w'.ownsRow w.heap.size 5 1 v l.length (bvs l)/\∀ k,v.ownBlock=some k->o' k=(0,0)
theorem Ew.bytes {w w':World}{o':Own}{v:Value}{l:List UInt8}(h:Ew w w' o' v l):Bytes w' o' v l:=by
 obtain ⟨u,E⟩:=h
 rcases u.2 with ⟨rfl,h0⟩ | ⟨g,cap,cur,rfl,hb,q,F,J,O,r⟩
 ·rw [List.eq_nil_of_length_eq_zero h0];exact Bytes.nil _ _
 ·refine .inr ⟨g,0,cap,rfl,F,J,by rw [E g rfl],au q, ?_⟩;have e1:w'.heap[g]?=some (.cells cur.toList.toArray 5 (0,0)):=by simpa using q
  have:=BU e1 0 l.length;rw [List.drop_zero] at this;rw [Nat.mul_one] at r
  rwa [r] at this
section
variable {w:World}{o:Own}{D p:Nat}{d d1:Af}{e1:Int}
theorem Uk (h:Bg w o D p d) (q:D ≠ 0) (r:d.row.length<=1000000) (at':Int) (v:Value) (l:List UInt8) (hb:Bytes w o v l) (u:d.write at' l=(d1,e1)) :
  Calls prog 237 #[.pointer (some ⟨p,0,none⟩), .int .i64 at',v] w (XL (ak D) w o fun v w' o'=>v = .int .i64 e1/\Bg w' o' D p d1):=by
 have:=write_any h q at' v l hb r;rw [u] at this;exact this
theorem XD (h:Bg w o D p d) (q:d.row.length<=1000000) (r:d.sync=(d1,e1)) :
  Calls prog 238 #[.pointer (some ⟨p,0,none⟩)] w (XL (ak D) w o fun v w' o'=>v = .int .i64 e1/\Bg w' o' D p d1):=by
 have:=ZK h q;rw [r] at this;exact this
theorem jS (h:Bg w o D p d) (q:D ≠ 0) (r:d.row.length<=1000000) (fv:Value) (l:List Int) (hl:Ints w o fv l) (u:∀ a ∈ l, -9223372036854775808<=a/\a<=9223372036854775807) (E:d.BJ l=d1) :
  Calls prog 59 #[.pointer (some ⟨p,0,none⟩),fv] w (XL (ak D) w o fun v w' o'=>v = .tuple #[]/\Bg w' o' D p d1):=by
 have:=jP h q r fv l hl u;rw [E] at this;exact this
end
theorem CY {w:World}{o:Own}{v:Value}{l:List UInt8}(h:Bytes w o v l):(convert 29 9 v).run prog w = .ok (.string ⟨l.toArray⟩) w:=by
 rcases h.cases with ⟨⟨a,c,rfl⟩,rfl⟩ | ⟨b,off,cap,rfl,hl,u,E,hb,r⟩
 ·rw [run_convert_bytes_string w 29 9 5 a 0 c underlying29 underlying5 underlying9]
  cases a <;> simp [Conv.bytesToString,loadCells,loadCellsFrom] <;> rfl
 ·have:=run_convert_bytes_arg (P:=prog) w 29 5 underlying29 underlying5 b off l.length cap (l.map fun x=>(x.toNat:Int)) (by simp) (fun i q=>by
   rw [r i (bv l[i]) (by rw [OW,List.getElem?_eq_getElem q];rfl)];simp [bv,List.getElem?_eq_getElem q]) 9 underlying9
  rw [this];simp [strOfNums,Function.comp_def]
def iP:List UInt8:=List.replicate 512 97
def iO:List UInt8:=List.replicate 512 98
def wk0:Af:=Af.new 2
def wk1:Af:=(wk0.write 0 iP).1
def wk2:Af:=(wk1.write 0 iO).1
def wk3:Af:=wk2.BJ [5,2]
def wkp:List UInt8:=(wk3.read 0).1
attribute [irreducible] wk0 wk1 wk2 wk3 wkp iP iO
namespace Af
def two (d:Af) (left:Int) (most:Nat):Prop:=d.dead=false/\d.left=left/\d.pages.length=2/\d.row.length<=most
end Af
open Go Go.RowKit Go.ChangeShapes Go.WideShapes Go.ChangeAt
theorem KY {H:Type}{enc:TypeId × Value->H}{P:Program}(hl:laidOutB P=true) {W W':World}(hb:Below W.heap.size W W') :
  ∀ (ts:List TypeId) (vs:List Value) (r:List (DataW H)) (ps:List MemPlace),(ts.all fun t=>P.readableRec t && decide (t<P.types.size))=true ->
   DataW.TrodAll enc P W 0 (fun _=>true) true ts vs r ps->(∀ x ∈ ps,x.block<W.heap.size)->DataW.TrodAll enc P W' 0 (fun b=>decide (b<W.heap.size)) true ts vs r ps
 | [],[],[],_,_,h,_=>h
 | t :: ts,v :: vs,d :: r,ps,hts,h,hlt=>by
  obtain ⟨p,q,E,F,rfl⟩:=h;simp only [List.all_cons,Bool.and_eq_true,decide_eq_true_eq] at hts;exact ⟨p,q,Below.trod hl hts.1.1 hts.1.2 E hb (fun x u=>hlt x (List.mem_append_left _ u)),KY hl hb ts vs r q hts.2 F (fun x u=>hlt x (List.mem_append_right _ u)),rfl⟩
 | [],_ :: _,_,_,_,h,_=>h.elim
 | [],[],_ :: _,_,_,h,_=>h.elim
 | _ :: _,[],_,_,_,h,_=>h.elim
 | _ :: _,_ :: _,[],_,_,h,_=>h.elim
theorem MW {H:Type}{enc:TypeId × Value->H}{P:Program}{f:Func}{s:ChangeSpec}{W W':World}{args:Array Value}{r gs:List (DataW H)}{u:List MemPlace}{E:TypeId}
  (hl:laidOutB P=true) (Y:(f.params.toList.all fun t=>P.readableRec t && decide (t<P.types.size))=true)
  (hr:f.resultTypes = #[E]) (hu:P.underlying E=some .bool)
  (F:DataW.Whole enc P f.params.toList s.vars false W args.toList r gs u) (a2:gs=[]) (J:s.vars=[])
  (e1:(s.fn H r).results=[.lit (.bool true)]) (e2:(s.fn H r).args=r) (e3:(s.fn H r).vars=[])
  (hb:Below W.heap.size W W'):s.post enc P f false true false false W args (.bool true) W':=by
 subst a2;have O:=F;obtain ⟨p,q,hA,U,a3,_,_⟩:=F;have a4:DataW.TrodAll enc P W 0 (fun _=>true) true f.params.toList args.toList r p:=hA;have hq:q=[]:=by
  rw [J] at U;exact U
 subst hq;have a5:u=p:=by simpa using a3
 subst a5;refine ⟨r,[],u,[],u,[],O, ?_, ?_, ?_,hb.frame _,fun h=>by cases h⟩
 ·rw [List.append_nil,e1,hr];exact trodAll_cons_mk (shut_bool hu true) trodAll_mk0
 ·rw [List.append_nil,e2];exact KY hl hb _ _ _ _ Y a4 (fun x hx=>by simpa using O.lt x hx)
 ·rw [List.append_nil,e3,J];rfl
open Go Go.RowKit Go.Deep
theorem Ir {α:Type}(R:Nat->α->Prop):∀ n:Nat,(∀ i,i<n->∃ x,R i x)->∃ l:List α,l.length=n/\∀ i (h:i<l.length),R i l[i]
 | 0,_=>⟨[],rfl,fun i h=>by simp at h⟩
 | n+1,hx=>by
  obtain ⟨l,hl,r⟩:=Ir R n (fun i q=>hx i om);obtain ⟨x,u⟩:=hx n om;refine ⟨l++[x],by simp [hl],fun i h => ?_⟩
  by_cases q:i<l.length
  ·rw [List.getElem_append_left q];exact r i q
  ·have:i=n:=by simp at h;omega
   subst this;rw [List.getElem_append_right om]
   simpa [hl] using u
section
variable {H:Type}{enc:TypeId × Value->H}{P:Program}{W:World}
theorem Lu {t e:TypeId}{fuel:Nat}{v:Value}{x:DataW H × List MemPlace}(ht:P.underlying t=some (.slice e)) (a2:0<P.cellsOf e)
  (h:DataW.trod enc P W 0 (fun _=>true) true fuel t [v]=some x) :
  (∃ a c,v = .slice a 0 c) \/ ∃ b off len cap,v = .slice (some ⟨b,off,none⟩) len cap/\0<len/\len<=cap/\cap<=maxLen/\b<W.heap.size /\
   ∀ i,i<cap->∃ q,q.length=P.cellsOf e/\W.rangeAt b (off+i*P.cellsOf e) q/\∃ n y,DataW.trod enc P W 0 (fun _=>true) true n e q=some y:=by
 rcases open_slice ht h with ⟨h0,_⟩ | ⟨a,len,cap,m,n,D,Pl,h0,_,a3,a4,E,_,a5⟩
 ·simp only [List.cons.injEq,and_true] at h0;exact .inl ⟨_,_,h0⟩
 ·simp only [List.cons.injEq,and_true] at h0;simp only [if_true] at E;subst E
  by_cases hz:len=0
  ·subst hz;exact .inl ⟨_,_,h0⟩
  ·have a6:0<m:=om
   have F:∀ i,i<m->∃ q,q.length=P.cellsOf e/\(∀ j,j<P.cellsOf e->W.cell? ((a.add (i*P.cellsOf e)).add j)=q[j]?)/\∃ n y,DataW.trod enc P W 0 (fun _=>true) true n e q=some y:=by
    intro i u;obtain ⟨q,h1,h2⟩:=a5 i u;obtain ⟨_,J,h4⟩:=World.cells?_some h1;exact ⟨q,J,h4,_,_,h2⟩
   obtain ⟨a9,J,h4,_⟩:=F 0 a6;have r:=h4 0 a2;have a7:((a.add (0*P.cellsOf e)).add 0)=a:=by simp [Addr.add]
   rw [a7,List.getElem?_eq_getElem om] at r;have O:a.spot=none:=by
    cases hs:a.spot with
    | none=>rfl
    | some s =>
     exfalso
     unfold World.cell? at r
     cases U:W.heap[a.block]? with
     | none=>simp [U] at r
     | some ob=>cases ob <;> simp [U,hs] at r
   have Y:=World.block_lt_of_cell? W _ r;obtain ⟨b,off,sp⟩:=a;simp only at O Y;subst O;refine .inr ⟨b,off,len,m,h0,om,a3,a4,Y,fun i u => ?_⟩;obtain ⟨q,k1,k2,k3⟩:=F i u;refine ⟨q,k1,fun j w hj => ?_,k3⟩;have a8:j<P.cellsOf e:=by
    rw [<-k1];exact (List.getElem?_eq_some_iff.1 hj).1
   have:=k2 j a8;rw [Addr.add_mid,Addr.add_mid,hj] at this;exact this
theorem YA {t e:TypeId}{k:IntKind}{fuel:Nat}{v:Value}{x:DataW H × List MemPlace}(F:P.underlying t=some (.slice e)) (J:P.underlying e=some (.int k)) (hc:P.cellsOf e=1)
  (h:DataW.trod enc P W 0 (fun _=>true) true fuel t [v]=some x) :
  ∃ l:List Int,sH W (fun _=>(0,0)) v l.length (l.map (Value.int k))/\∀ a ∈ l,(Lit.int k a).wf=true:=by
 rcases Lu F om h with ⟨a,c,rfl⟩ | ⟨b,off,len,cap,rfl,h0,a4,O,hb,U⟩
 ·exact ⟨[], .inl ⟨⟨a,c,rfl⟩,rfl,rfl⟩,by simp⟩
 ·obtain ⟨l,hl,u⟩:=Ir (fun i (n:Int)=>W.cell? ⟨b,off+i,none⟩=some (.int k n)/\(Lit.int k n).wf=true) len (fun i E=>by
   obtain ⟨a5,k1,k2,n,y,Y⟩:=U i om;obtain ⟨a,rfl,_,hw⟩:=DataW.trod_int J Y;refine ⟨a, ?_,hw⟩;have:=k2 0 _ rfl
   rwa [hc,Nat.mul_one,Nat.add_zero] at this)
  refine ⟨l, .inr ⟨b,off,cap,by rw [hl],om,O,rfl,hb,fun j w q => ?_⟩,fun a ha => ?_⟩
  ·rw [List.getElem?_map] at q
   cases r:l[j]? with
   | none=>rw [r] at q;cases q
   | some a =>
    obtain ⟨a2,a3⟩:=List.getElem?_eq_some_iff.1 r;rw [r] at q;simp only [Option.map_some,Option.some.injEq] at q;rw [<-q, <-a3];exact (u j a2).1
  ·obtain ⟨i,E,rfl⟩:=List.mem_iff_getElem.1 ha;exact (u i E).2
end
structure Wq where
 do_:Int
 at':Int
 b:Int
 st:Int
 fv:Value
 Bz:List Int
namespace Wq
def cells (a:Wq):List Value:=[.int .u8 a.do_, .int .i64 a.at', .int .u8 a.b, .int .u8 a.st,a.fv]
def ok (a:Wq):Prop:=(0<=a.do_/\a.do_<=255)/\(-9223372036854775808<=a.at'/\a.at'<=9223372036854775807)/\(0<=a.b/\a.b<=255)/\(0<=a.st/\a.st<=255)/\∀ x ∈ a.Bz, -9223372036854775808<=x/\x<=9223372036854775807
def iD (a:Wq):List UInt8:=fD (UInt8.ofNat a.b.toNat) (UInt8.ofNat a.st.toNat) 512
end Wq
def jE (w:World) (o:Own) (v:Value) (l:List Wq):Prop:=
 ((∃ a c,v = .slice a 0 c)/\l=[]) \/ ∃ b off cap,v = .slice (some ⟨b,off,none⟩) l.length cap/\l.length<=cap/\cap<=maxLen/\(o b).1=0/\b<w.heap.size /\
  ∀ i (h:i<l.length),w.rangeAt b (off+i*5) l[i].cells/\Ints w o l[i].fv l[i].Bz/\l[i].ok
section
variable {H:Type}{enc:TypeId × Value->H}{W:World}
theorem AjA {fuel:Nat}{v:Value}{x:DataW H × List MemPlace}(h:DataW.trod enc prog W 0 (fun _=>true) true fuel 53 [v]=some x) :
  ∃ l:List Int,Ints W (fun _=>(0,0)) v l/\∀ a ∈ l, -9223372036854775808<=a/\a<=9223372036854775807:=by
 obtain ⟨l,q,r⟩:=YA underlying53 underlying3 (by kernel_rfl) h;exact ⟨l,q,fun a u=>Go.bounds_i64 (r a u)⟩
end
def jB (l:List Wq):Int:=if (l.take 81).any (fun a=>decide (60<a.Bz.length)) then 1 else max 0 ((l.length:Int) - 80)
def Af.jC (d:Af) (a:Wq):Af × Int:=
 if a.do_ % 6=0 then d.write a.at' a.iD
 else if a.do_ % 6=1 then d.sync
 else if a.do_ % 6=2 then (d.bG a.at',0)
 else if a.do_ % 6=3 then (d.kill,0)
 else if a.do_ % 6=4 then (d.BJ a.Bz,0)
 else d.write a.at' (List.replicate a.b.toNat 0)
theorem XZ (n:Nat):(List.replicate n [Value.int .u8 0]).flatten=bvs (List.replicate n 0):=by
 induction n with
 | zero=>rfl
 | succ n q=>rw [List.replicate_succ,List.replicate_succ,List.flatten_cons,q];rfl
theorem VX (w:World) (o:Own) (n:Nat) (hn:n<=9223372036854775807):Bytes (w.alloc (.cells (bvs (List.replicate n 0)).toArray 5)) (Ak o w.heap.size (0,0)) (.slice (some ⟨w.heap.size,0,none⟩) n n) (List.replicate n 0):=
 .inr ⟨w.heap.size,0,n,by rw [List.length_replicate],by simp,by simp only [maxLen];exact hn,by rw [Au],by simp,AV (heap_alloc_new w _)⟩
def u64 (x:BitVec 64):Value := .int .u64 (x.toNat:Int)
theorem Aem (x:BitVec 64):BitVec.ofInt 64 (x.toNat:Int)=x:=by simp
theorem wrap64 (x:BitVec 64):IntKind.u64.wrap (x.toNat:Int)=(x.toNat:Int):=by
 have:=x.isLt;simp [IntKind.wrap,IntKind.bits,IntKind.signed];omega
section
variable {P:Program}(w:World) (x y:BitVec 64) (t:TypeId)
end

end Go.Proofs.YtffkdillijmamaaGreat
