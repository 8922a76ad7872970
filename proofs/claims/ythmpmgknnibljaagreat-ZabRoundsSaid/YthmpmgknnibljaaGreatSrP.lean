/- What some statements need besides. -/
import Derived.Test.YthmpmgknnibljaaGreatSn1
import Derived.Test.YthmpmgknnibljaaGreatSn2
import Derived.Test.YthmpmgknnibljaaGreatSn3
import Derived.Test.YthmpmgknnibljaaGreatSn4
import Derived.Test.YthmpmgknnibljaaGreatSn5
import Derived.Test.YthmpmgknnibljaaGreatSn6
import Derived.Test.YthmpmgknnibljaaGreatSn7
import Derived.Test.YthmpmgknnibljaaGreatSn8
import Derived.Test.YthmpmgknnibljaaGreatSn9
import Derived.Test.YthmpmgknnibljaaGreatSn10
import Derived.Test.YthmpmgknnibljaaGreatSn11
import Derived.Test.YthmpmgknnibljaaGreatSn12
namespace Go.Proofs.YthmpmgknnibljaaGreat
set_option maxRecDepth 100000
set_option maxHeartbeats 3200000
open Go Go.RowKit
theorem nD {w:World} {b off:Nat} {l:List UInt8} (hl:l.length = 512) (hr:w.rangeAt b off (bvs l)):(loadVar 180 ⟨b,off,none⟩).run Tryz.prog w = .ok (.agg (bvs l).toArray) w:=
 run_loadVar_mid w b off 180 (bvs l) _ hr Tryz.underlying180 rfl (by rw [Bh,hl];exact ZT)
abbrev lV:=Nat × Nat × BG
def kJ (i:Nat) (t:DX):List lV:=t.map fun x=>(i,x.1,x.2)
def Pi (l:List Aj):Nat→List Aj × List lV
 | 0=>(l,[])
 | i + 1=>match (Pi l i).1[i]? with
  | some z=>((Pi l i).1.set i z.tick.1,(Pi l i).2 ++ kJ i z.tick.2)
  | none=>Pi l i
def Pj:Nat→Nat→List Aj→List lV→Nat→Option (List Aj)
 | 0,_,_,_,_=>none
 | f + 1,b,l,all,k=>match all[k]? with
  | none=>some l
  | some x=>if 400 < k ∨ b < AP x.2.2.ls then none else match l[x.2.1]? with
   | none=>none
   | some z=>if z.n ≤ x.1 ∨ x.1 = z.id then none else Pj f (b - AP x.2.2.ls) (l.set x.2.1 (z.hear x.1 x.2.2).1) (all ++ kJ x.2.1 (z.hear x.1 x.2.2).2) (k + 1)
def kM (b:Nat) (l:List Aj):Option (List Aj):=Pj 402 b (Pi l l.length).1 (Pi l l.length).2 0
def Wx:Nat→List Aj→Option (List Aj)
 | 0,l=>some l
 | i + 1,l=>match kM 0 l with
  | none=>none
  | some l'=>Wx i l'
def lZ (n:Nat):List Aj:=(List.range n).map fun i=>Aj.new i n ⟨0,0,[]⟩
def lJ (n:Nat) (L F:List Ar):Aj:=
 ⟨0,n,⟨BitVec.ofNat 64 n,BitVec.ofNat 64 n,L⟩, .leads (BitVec.ofNat 64 n) ((L.length:Int) :: List.replicate (n - 1) (F.length:Int)) 0 true,0,if n = 1 then 0 else BitVec.ofNat 64 n,if n = 1 then L.length else F.length⟩
def lU (n i:Nat) (F:List Ar) (C:Nat):Aj:=⟨i,n,⟨BitVec.ofNat 64 n,BitVec.ofNat 64 n,F⟩, .follows,0,BitVec.ofNat 64 n,C⟩
def grp (n:Nat) (L F:List Ar) (C:Nat):List Aj:=lJ n L F :: (List.range (n - 1)).map fun i=>lU n (i + 1) F C
theorem oO:Wx 6 (lZ 1) = some (grp 1 [] [] 0):=by kernel_rfl
theorem oN:Wx 6 (lZ 2) = some (grp 2 [] [] 0):=by kernel_rfl
theorem oM:Wx 6 (lZ 3) = some (grp 3 [] [] 0):=by kernel_rfl
def Told (n:Nat) (L:List Ar):Prop:=L.length ≤ 256∧∀ x ∈ L,x.e = BitVec.ofNat 64 n∧1 ≤ x.b.length∧x.b.length ≤ 4096
theorem Told.append {n f:Nat} {L:List Ar} (h:Told n L) (hn:1 ≤ n) (hn3:n ≤ 3) (hf:f < L.length) :
  (AX.Cm ⟨BitVec.ofNat 64 n,BitVec.ofNat 64 n,L.take f⟩ (L.drop f)) = (⟨BitVec.ofNat 64 n,BitVec.ofNat 64 n,L⟩,0):=by
 have hnn:(BitVec.ofNat 64 n).toNat = n:=by rw [BitVec.toNat_ofNat,Nat.mod_eq_of_lt (by omega)]
 have hok:AX.Eu ⟨BitVec.ofNat 64 n,BitVec.ofNat 64 n,L.take f⟩ (L.drop f) = true:=by
  unfold AX.Eu
  simp only [Bool.and_eq_true,decide_eq_true_eq,Bool.not_eq_true',List.any_eq_false,List.length_drop,List.length_take]
  refine ⟨⟨⟨by omega,by have:=h.1;omega⟩,fun x hx => ?_⟩,fun x hx => ?_⟩
  ·obtain ⟨h1,h2,h3⟩:=h.2 x (List.mem_of_mem_drop hx)
   have ht:Ho.toNat = 281474976710656:=by decide
   unfold badL
   rw [h1,hnn,ht]
   simp only [Bool.or_eq_true,decide_eq_true_eq,not_or]
   omega
  ·obtain ⟨h1, -, -⟩:=h.2 x (List.mem_of_mem_drop hx)
   rw [h1];simp
 unfold AX.Cm
 rw [if_pos hok]
 simp only [List.take_append_drop]
theorem kW {n i f C:Nat} {L:List Ar} (h:Told n L) (hn:1 ≤ n) (hn3:n ≤ 3) (hf:f ≤ L.length) (hC:C ≤ f) (w:Nat) :
  Aj.hear ⟨i,n,⟨BitVec.ofNat 64 n,BitVec.ofNat 64 n,L.take f⟩, .follows,w,BitVec.ofNat 64 n,C⟩ 0 ⟨5,BitVec.ofNat 64 n,0,f,f,L.drop f⟩ = (lU n i L f,[(0,⟨6,BitVec.ofNat 64 n,0,L.length,0,[]⟩)]):=by
 have hnn:(BitVec.ofNat 64 n).toNat = n:=by rw [BitVec.toNat_ofNat,Nat.mod_eq_of_lt (by omega)]
 have hl:(L.take f).length = f:=by rw [List.length_take];omega
 have ho:∀ (k:AX) (r:KC) (w c:Nat) (s:BitVec 64),Aj.owns ⟨i,n,k,r,w,s,c⟩ 0 (BitVec.ofNat 64 n) = true:=by
  intro k r w c s
  unfold Aj.owns
  simp only [hnn,Nat.mod_self,beq_self_eq_true]
 rw [Aj.MZ]
 unfold Aj.Ec
 simp only
 rw [if_neg (by decide),if_neg (by decide),if_neg (by decide),if_neg (by decide),if_pos (by trivial)]
 unfold Aj.BF
 simp only [ho,Bool.not_true,Bool.false_eq_true,if_false]
 rw [if_neg (by omega),if_neg (by simp),hl,if_neg (by omega),Nat.sub_self,List.drop_zero]
 by_cases hfl:f = L.length
 ·subst hfl
  rw [List.drop_length,if_pos rfl]
  simp only [Aj.follow,Aj.ack,List.take_length,lU,Nat.min_self,Nat.max_eq_right hC]
  unfold Fj
  rw [if_neg (by omega)]
 ·rw [if_neg (by
   intro e
   have:=congrArg List.length e
   rw [List.length_drop] at this
   simp only [List.length_nil] at this
   omega),h.append hn hn3 (by omega)]
  simp only [if_true,Aj.follow,Aj.ack,lU,Nat.min_eq_left hf,Nat.max_eq_right hC]
  unfold Fj
  rw [if_neg (by omega)]
def kH (n:Nat) (L:List Ar) (mat:List Int) (C:Nat):Aj:=⟨0,n,⟨BitVec.ofNat 64 n,BitVec.ofNat 64 n,L⟩, .leads (BitVec.ofNat 64 n) mat 0 true,0,BitVec.ofNat 64 n,C⟩
theorem lQ {n src C:Nat} {L:List Ar} {mat:List Int} (hc:0 ≤ CW ((mat.set src (max (mat.getD src 0) (L.length:Int))).set 0 L.length)) :
  (kH n L mat C).hear src ⟨6,BitVec.ofNat 64 n,0,L.length,0,[]⟩ =
   (kH n L ((mat.set src (max (mat.getD src 0) (L.length:Int))).set 0 L.length) (max C (CW ((mat.set src (max (mat.getD src 0) (L.length:Int))).set 0 L.length)).toNat),[]):=by
 rw [Aj.MZ]
 unfold Aj.Ec
 simp only
 rw [if_neg (by decide),if_neg (by decide),if_neg (by decide),if_neg (by decide),if_neg (by decide)]
 unfold Aj.CJ kH
 simp only [if_true,Nat.min_self]
 unfold Aj.count
 simp only
 rw [if_pos (by exact hc)]
 unfold Fj
 rw [if_neg (by omega)]
theorem oJ (b:Nat) (L F:List Ar) (C:Nat):kM b (grp 1 L F C) = some (grp 1 L L C):=rfl
theorem oI {f C:Nat} {L:List Ar} (h:Told 2 L) (hf:f ≤ L.length) (hC:C ≤ f) {b:Nat} (hb:2 * AP L ≤ b):kM b (grp 2 L (L.take f) C) = some (grp 2 L L f):=by
 have hl:(L.take f).length = f:=by rw [List.length_take];omega
 have hd:=FN L f
 have h0:AP ([]:List Ar) = 0:=rfl
 have ha:=kW (i:=1) h (by omega) (by omega) hf hC 1
 have hk:=lQ (n:=2) (src:=1) (C:=f) (L:=L) (mat:=[(L.length:Int),(f:Int)]) (by
  show 0 ≤ min (L.length:Int) (max (f:Int) (L.length:Int))
  omega)
 have e2:(max (f:Int) (L.length:Int)) = L.length:=by omega
 have e3:max f (CW [(L.length:Int),max (f:Int) (L.length:Int)]).toNat = L.length:=by
  show max f (min (L.length:Int) (max (f:Int) (L.length:Int))).toNat = L.length
  omega
 simp only [lss,lsz,List.getD_cons_succ,List.getD_cons_zero,e3] at hk
 simp only [e2] at hk
 have e1:Pi (grp 2 L (L.take f) C) 2 = ([kH 2 L [(L.length:Int),(f:Int)] f,⟨1,2,⟨BitVec.ofNat 64 2,BitVec.ofNat 64 2,L.take f⟩, .follows,1,BitVec.ofNat 64 2,C⟩],[(0,1,⟨5,BitVec.ofNat 64 2,0,f,f,L.drop f⟩)]):=by
  have e0:grp 2 L (L.take f) C = [kH 2 L [(L.length:Int),(f:Int)] f,lU 2 1 (L.take f) C]:=by
   unfold grp lJ kH
   rw [hl]
   rfl
  have t0:(kH 2 L [(L.length:Int),(f:Int)] f).tick = (kH 2 L [(L.length:Int),(f:Int)] f,[(1,⟨5,BitVec.ofNat 64 2,0,f,f,L.drop f⟩)]):=by
   show (_,[(1,(if ((f:Int)) < 0 then _ else _:BG))]) = _
   rw [if_neg (by omega)]
   rfl
  rw [e0]
  unfold Pi Pi Pi
  simp only [List.getElem?_cons_zero,t0,lsz,List.getElem?_cons_succ,lss]
  rfl
 unfold kM
 show Pj 402 b (Pi (grp 2 L (L.take f) C) 2).1 (Pi (grp 2 L (L.take f) C) 2).2 0 = _
 rw [e1]
 unfold Pj
 simp only [List.getElem?_cons_zero,List.getElem?_cons_succ,ha,lss,lsz,kJ,List.map_cons,List.map_nil,List.cons_append,List.nil_append]
 rw [if_neg (by omega),if_neg (by simp [])]
 unfold Pj
 simp only [List.getElem?_cons_zero,List.getElem?_cons_succ,hk,lsz,kJ,List.map_nil,List.append_nil]
 rw [if_neg (by omega),if_neg (by simp [kH])]
 unfold Pj
 simp only [List.getElem?_cons_succ,List.getElem?_nil]
 rfl
theorem oH {f C:Nat} {L:List Ar} (h:Told 3 L) (hf:f ≤ L.length) (hC:C ≤ f) {b:Nat} (hb:2 * AP L ≤ b):kM b (grp 3 L (L.take f) C) = some (grp 3 L L f):=by
 have hl:(L.take f).length = f:=by rw [List.length_take];omega
 have hd:=FN L f
 have h0:AP ([]:List Ar) = 0:=rfl
 have ha1:=kW (i:=1) h (by omega) (by omega) hf hC 1
 have ha2:=kW (i:=2) h (by omega) (by omega) hf hC 1
 have hk1:=lQ (n:=3) (src:=1) (C:=f) (L:=L) (mat:=[(L.length:Int),(f:Int),(f:Int)]) (by
  show 0 ≤ max (min (L.length:Int) (max (f:Int) (L.length:Int))) (min (max (L.length:Int) (max (f:Int) (L.length:Int))) (f:Int))
  omega)
 have e2:(max (f:Int) (L.length:Int)) = L.length:=by omega
 have e3:max f (CW [(L.length:Int),max (f:Int) (L.length:Int),(f:Int)]).toNat = L.length:=by
  show max f (max (min (L.length:Int) (max (f:Int) (L.length:Int))) (min (max (L.length:Int) (max (f:Int) (L.length:Int))) (f:Int))).toNat = L.length
  omega
 have hk2:=lQ (n:=3) (src:=2) (C:=L.length) (L:=L) (mat:=[(L.length:Int),(L.length:Int),(f:Int)]) (by
  show 0 ≤ max (min (L.length:Int) (L.length:Int)) (min (max (L.length:Int) (L.length:Int)) (max (f:Int) (L.length:Int)))
  omega)
 have e4:max L.length (CW [(L.length:Int),(L.length:Int),max (f:Int) (L.length:Int)]).toNat = L.length:=by
  show max L.length (max (min (L.length:Int) (L.length:Int)) (min (max (L.length:Int) (L.length:Int)) (max (f:Int) (L.length:Int)))).toNat = L.length
  omega
 simp only [lss,lsz,List.getD_cons_succ,List.getD_cons_zero,e3] at hk1
 simp only [e2] at hk1
 simp only [lss,lsz,List.getD_cons_succ,List.getD_cons_zero,e4] at hk2
 simp only [e2] at hk2
 have e1:Pi (grp 3 L (L.take f) C) 3 = ([kH 3 L [(L.length:Int),(f:Int),(f:Int)] f,⟨1,3,⟨BitVec.ofNat 64 3,BitVec.ofNat 64 3,L.take f⟩, .follows,1,BitVec.ofNat 64 3,C⟩,⟨2,3,⟨BitVec.ofNat 64 3,BitVec.ofNat 64 3,L.take f⟩, .follows,1,BitVec.ofNat 64 3,C⟩],[(0,1,⟨5,BitVec.ofNat 64 3,0,f,f,L.drop f⟩),(0,2,⟨5,BitVec.ofNat 64 3,0,f,f,L.drop f⟩)]):=by
  have e0:grp 3 L (L.take f) C = [kH 3 L [(L.length:Int),(f:Int),(f:Int)] f,lU 3 1 (L.take f) C,lU 3 2 (L.take f) C]:=by
   unfold grp lJ kH
   rw [hl]
   rfl
  have t0:(kH 3 L [(L.length:Int),(f:Int),(f:Int)] f).tick = (kH 3 L [(L.length:Int),(f:Int),(f:Int)] f,[(1,⟨5,BitVec.ofNat 64 3,0,f,f,L.drop f⟩),(2,⟨5,BitVec.ofNat 64 3,0,f,f,L.drop f⟩)]):=by
   show (_,[(1,(if ((f:Int)) < 0 then _ else _:BG)),(2,(if ((f:Int)) < 0 then _ else _:BG))]) = _
   rw [if_neg (by omega)]
   rfl
  rw [e0]
  unfold Pi Pi Pi Pi
  simp only [List.getElem?_cons_zero,t0,lsz,List.getElem?_cons_succ,lss]
  rfl
 unfold kM
 show Pj 402 b (Pi (grp 3 L (L.take f) C) 3).1 (Pi (grp 3 L (L.take f) C) 3).2 0 = _
 rw [e1]
 unfold Pj
 simp only [List.getElem?_cons_zero,List.getElem?_cons_succ,ha1,lss,lsz,kJ,List.map_cons,List.map_nil,List.cons_append,List.nil_append]
 rw [if_neg (by omega),if_neg (by simp [])]
 unfold Pj
 simp only [List.getElem?_cons_zero,List.getElem?_cons_succ,ha2,lss,lsz,kJ,List.map_cons,List.map_nil,List.cons_append,List.nil_append]
 rw [if_neg (by omega),if_neg (by simp [])]
 unfold Pj
 simp only [List.getElem?_cons_zero,List.getElem?_cons_succ,hk1,lsz,kJ,List.map_nil,List.append_nil]
 rw [if_neg (by omega),if_neg (by simp [kH])]
 unfold Pj
 simp only [List.getElem?_cons_zero,List.getElem?_cons_succ,hk2,lsz,kJ,List.map_nil,List.append_nil]
 rw [if_neg (by omega),if_neg (by simp [kH])]
 unfold Pj
 simp only [List.getElem?_cons_succ,List.getElem?_nil]
 rfl
end Go.Proofs.YthmpmgknnibljaaGreat
namespace Go.Proofs.YthmpmgknnibljaaGreat
set_option maxRecDepth 100000
set_option maxHeartbeats 12800000
open Go Go.RowKit
attribute [local go_sem ↓] Go.wp_at_zero Go.wp_at_succ
def kt:Nat→Aj
 | 0=>Aj.new 0 1 ⟨0,0,[]⟩
 | 1=>⟨0,1,⟨0,0,[]⟩, .follows,1,0,0⟩
 | 2=>⟨0,1,⟨0,0,[]⟩, .follows,2,0,0⟩
 | 3=>⟨0,1,⟨0,0,[]⟩, .follows,3,0,0⟩
 | _=>⟨0,1,⟨1,1,[]⟩, .leads 1 [0] 0 true,0,0,0⟩
def kls (j:Nat):List Ar:=(List.range j).map fun i=>⟨1,[UInt8.ofNat i]⟩
def kp (j:Nat):Aj:=⟨0,1,⟨1,1,kls j⟩, .leads 1 [(j:Int)] 0 true,0,0,j⟩
def km1:BG:=⟨1,3,0,0,0,[]⟩
def km2:BG:=⟨5,3,0,0,0,[]⟩
def km3:BG:=⟨4,3,0,0,0,[⟨1,[120]⟩]⟩
def km4:BG:=⟨5,3,0,1,9,[⟨3,[121]⟩]⟩
def kr1:BG:=⟨2,3,0,0,0,[]⟩
def kr2:BG:=⟨3,3,0,0,0,[]⟩
def kr3:BG:=⟨6,3,0,1,0,[]⟩
def kr4:BG:=⟨6,3,0,2,0,[]⟩
def ky0:Aj:=Aj.new 1 3 ⟨0,0,[]⟩
def ky1:Aj:=⟨1,3,⟨3,0,[]⟩, .follows,0,3,0⟩
def ky2:Aj:=⟨1,3,⟨3,3,[⟨1,[120]⟩]⟩, .follows,0,3,0⟩
def ky3:Aj:=⟨1,3,⟨3,3,[⟨1,[120]⟩,⟨3,[121]⟩]⟩, .follows,0,3,2⟩
theorem Dn.at {w:World} {o:Own} {a:Option Addr} {n c:Nat} {ts:List (Nat × List UInt8)} (h:Dn w o (.slice a n c) ts) {i:Nat} {x:Nat × List UInt8} (hx:ts[i]? = some x) :
  ∃ b off bv,a = some ⟨b,off,none⟩∧w.rangeAt b (off + i * 2) [.int .i64 (x.1:Int),bv]∧Bytes w o bv x.2∧b < w.heap.size∧(o b).1 = 0:=by
 obtain ⟨cs,hs,hc⟩:=h
 obtain ⟨e1,bv,e2,e3⟩:=hc.2 i x hx
 have hi:=(List.getElem?_eq_some_iff.1 hx).1
 rcases hs with ⟨-,h0, -⟩ | ⟨b,off,cap,hv,hl,hm,ho,hb,hr⟩
 ·omega
 ·simp only [Value.slice.injEq] at hv
  obtain ⟨rfl, -, -⟩:=hv
  refine ⟨b,off,bv,rfl,fun j v hj => ?_,e3,hb,ho⟩
  match j with
  | 0 =>
   simp only [List.getElem?_cons_zero,Option.some.injEq] at hj
   subst hj
   have:=hr (2 * i) _ e1
   rw [show off + i * 2 + 0 = off + 2 * i by omega];exact this
  | 1 =>
   simp only [List.getElem?_cons_succ,List.getElem?_cons_zero,Option.some.injEq] at hj
   subst hj
   have:=hr (2 * i + 1) _ e2
   rw [show off + i * 2 + 1 = off + (2 * i + 1) by omega];exact this
  | k + 2=>simp at hj
def kP (w:World) (o:Own) (base X:Nat) (ty:TypeId) (sz:Nat) (v:Value) (n:Nat) (cs:List Value):Prop:=
 w.ownsRow base ty sz v n cs∧∀ g,v.ownBlock = some g→o g = (X,0)
end Go.Proofs.YthmpmgknnibljaaGreat
namespace Go.Proofs.YthmpmgknnibljaaGreat
set_option maxRecDepth 100000
set_option maxHeartbeats 12800000
open Go Go.RowKit
attribute [local go_sem ↓] Go.wp_at_zero Go.wp_at_succ
section
variable {w w' W:World} {o o':Own} {base X sz n:Nat} {ty:TypeId} {v:Value} {cs:List Value}
theorem kP.nil (w:World) (o:Own) (base X:Nat) (ty:TypeId) (sz:Nat):kP w o base X ty sz (.slice none 0 0) 0 []:=⟨World.ownsRow_nil _ _ _ _,fun g hg=>by simp [Value.ownBlock] at hg⟩
theorem kP.step {T:Nat→Prop} (h:kP w o base X ty sz v n cs) (s:Step T w o w' o') (hT:¬ T X):kP w' o' base X ty sz v n cs:=
 ⟨Ci h.1 fun k hk=>s.block k (h.1.lt k hk).2 (by rw [h.2 k hk];exact hT),fun g hg=>by rw [s.own g (h.1.lt g hg).2];exact h.2 g hg⟩
theorem kP.form (h:kP w o base X ty sz v n cs):∃ a c,v = .slice a n c:=BA h.1
theorem kP.at (h:kP w o base X ty sz v n cs) (hn:0 < n):∃ b cap,v = .slice (some ⟨b,0,none⟩) n cap∧w.rangeAt b 0 cs∧o b = (X,0)∧b < w.heap.size:=by
 rcases h.1.2 with ⟨rfl,h0⟩ | ⟨g,cap,cur,rfl,q1,q2,q3,q4,q5,q6⟩
 ·omega
 ·refine ⟨g,cap,rfl, ?_,h.2 g rfl,lt_of_block q2⟩
  have:=BU (w:=w) (b:=g) (cs:=cur.toList) (E:=ty) (fr:=(0,0)) (by simpa using q2) 0 (n * sz)
  rw [List.drop_zero,q6] at this;exact this
theorem kP.append {t:TypeId} {zs:List Value} {bytes m:Nat} {yv:Value} {news:List Value} (h:kP W o base X ty sz v n cs) (ht:Tryz.prog.underlying t = some (.slice ty)) (hi:(Tryz.prog.info? ty).map (fun i=>(i.zero.map (fun z=>z.cells.toList),i.size,i.bytes)) = some (some zs,sz,bytes)) (hzs:zs.length = sz) (hsz:0 < sz)
  (hs1:(Tryz.prog.info? ty).map (·.size) = some sz) (hbase:base ≤ W.heap.size) (hy:Slc W o yv m news) (hl:news.length = m * sz) (h1:∀ u ∈ news,u.oneCell' = true) (hn:n + m ≤ 100000) (hb:bytes ≤ 1000) :
  ∃ nv w' o',(Builtin.append_ #[t,t] t #[v,yv]).run Tryz.prog W = .ok nv w'∧kP w' o' base X ty sz nv (n + m) (cs ++ news)∧Step (Only X) W o w' o':=by
 by_cases hm:0 < m
 ·rcases hy with ⟨_,h0, -⟩ | ⟨b,off,cap,rfl,hc,hcm,ho,hbb,hr⟩
  ·omega
  ·have hby:(n + m) * bytes ≤ 140737488355328:=Nat.le_trans (Nat.mul_le_mul hn hb) (by omega)
   obtain ⟨g,cap',w',hrun,hown,hgrow,hat,hlt⟩:=DD (P:=Tryz.prog) W t t ty ht hi hzs hsz hbase v n cs h.1 b off m cap news hl hr h1 hm (by omega) hby
   refine ⟨_,w',Ak o g (X,0),hrun,⟨hown,fun k hk => ?_⟩,(Step.refl (Only X) W o).grown hgrow (fun k hk => .inl (by show (o k).1 = X;rw [h.2 k hk])) g (X,0) (by
    rcases hat with hat | hat
    ·exact .inl (h.2 g hat)
    ·exact .inr (by omega))⟩
   simp only [Value.ownBlock,Option.some.injEq] at hk;subst hk;exact Au _ _ _
 ·obtain rfl:m = 0:=by omega
  have hnil:news = []:=List.eq_nil_of_length_eq_zero (by omega)
  subst hnil
  obtain ⟨a',c',rfl⟩:=Aq hy
  obtain ⟨a,c,rfl⟩:=h.form
  have hcap:n ≤ c:=by
   rcases h.1.2 with ⟨h1,h2⟩ | ⟨g,cap,cur,h1,_,_,h2,h3,_⟩
   ·simp only [Value.slice.injEq] at h1;omega
   ·simp only [Value.slice.injEq] at h1;omega
  exact ⟨_,W,o,CB (P:=Tryz.prog) W t t ty sz ht hs1 a a' n c c' hcap (by omega),by simpa using h,Step.refl _ _ _⟩
theorem kP.done {oj:Own} (h:kP w' oj w.heap.size X ty sz v n cs) (hc:cs.length = n * sz):Slc w' (ext w o) v n cs:=by
 rcases h.1.2 with ⟨rfl,h0⟩ | ⟨g,cap,cur,rfl,q1,q2,q3,q4,q5,q6⟩
 ·exact .inl ⟨⟨none,0,rfl⟩,h0,List.eq_nil_of_length_eq_zero (by rw [hc,h0];omega)⟩
 ·refine .inr ⟨g,0,cap,rfl,q3,q4, ?_,lt_of_block q2, ?_⟩
  ·unfold Go.Proofs.YthmpmgknnibljaaGreat.ext
   rw [if_neg (by omega)]
  ·have:=BU (w:=w') (b:=g) (cs:=cur.toList) (E:=ty) (fr:=(0,0)) (by simpa using q2) 0 (n * sz)
   rw [List.drop_zero,q6] at this;exact this
end
end Go.Proofs.YthmpmgknnibljaaGreat
namespace Go.Proofs.YthmpmgknnibljaaGreat
set_option maxRecDepth 100000
set_option maxHeartbeats 12800000
open Go Go.RowKit
attribute [local go_sem ↓] Go.wp_at_zero Go.wp_at_succ
abbrev lF:=Nat × Nat × List UInt8
def kX (l:List lV):List lF:=l.map fun x=>(x.1,x.2.1,x.2.2.put)
theorem lH (a b:List lV):kX (a ++ b) = kX a ++ kX b:=by simp [kX]
def kS (w:World) (o:Own) (cs:List Value) (l:List lF):Prop:=
 cs.length = l.length * 3∧∀ i x,l[i]? = some x→cs[i * 3]? = some (.int .i64 (x.1:Int))∧cs[i * 3 + 1]? = some (.int .i64 (x.2.1:Int))∧∃ bv,cs[i * 3 + 2]? = some bv∧Bytes w o bv x.2.2
end Go.Proofs.YthmpmgknnibljaaGreat
namespace Go.Proofs.YthmpmgknnibljaaGreat
set_option maxRecDepth 100000
set_option maxHeartbeats 12800000
open Go Go.RowKit
attribute [local go_sem ↓] Go.wp_at_zero Go.wp_at_succ
section
variable {T:Nat→Prop} {w w':World} {o o':Own}
theorem kS.step {cs:List Value} {l:List lF} (h:kS w o cs l) (s:Step T w o w' o') (hT:¬ T 0):kS w' o' cs l:=
 ⟨h.1,fun i x hx=>by obtain ⟨a,b,bv,c,d⟩:=h.2 i x hx;exact ⟨a,b,bv,c,d.step s hT⟩⟩
theorem kS.nil (w:World) (o:Own):kS w o [] []:=⟨rfl,fun i x hx=>by simp at hx⟩
theorem kS.append {c1 c2:List Value} {l1 l2:List lF} (h1:kS w o c1 l1) (h2:kS w o c2 l2):kS w o (c1 ++ c2) (l1 ++ l2):=by
 refine ⟨by rw [List.length_append,List.length_append,h1.1,h2.1];omega,fun i x hx => ?_⟩
 by_cases hi:i < l1.length
 ·rw [List.getElem?_append_left hi] at hx
  obtain ⟨a,b,bv,c,d⟩:=h1.2 i x hx
  have hlen:=h1.1
  exact ⟨by rw [List.getElem?_append_left (by omega)];exact a,by rw [List.getElem?_append_left (by omega)];exact b,bv,by rw [List.getElem?_append_left (by omega)];exact c,d⟩
 ·rw [List.getElem?_append_right (by omega)] at hx
  obtain ⟨a,b,bv,c,d⟩:=h2.2 _ x hx
  have hlen:=h1.1
  refine ⟨?_, ?_,bv, ?_,d⟩
  ·rw [List.getElem?_append_right (by omega),hlen,show i * 3 - l1.length * 3 = (i - l1.length) * 3 by omega];exact a
  ·rw [List.getElem?_append_right (by omega),hlen,show i * 3 + 1 - l1.length * 3 = (i - l1.length) * 3 + 1 by omega];exact b
  ·rw [List.getElem?_append_right (by omega),hlen,show i * 3 + 2 - l1.length * 3 = (i - l1.length) * 3 + 2 by omega];exact c
theorem kS.single {f t:Nat} {bv:Value} {b:List UInt8} (h:Bytes w o bv b):kS w o [.int .i64 (f:Int), .int .i64 (t:Int),bv] [(f,t,b)]:=by
 refine ⟨rfl,fun i x hx => ?_⟩
 match i,hx with
 | 0,hx =>
  simp only [List.getElem?_cons_zero,Option.some.injEq] at hx
  subst hx;exact ⟨rfl,rfl,bv,rfl,h⟩
 | i + 1,hx=>simp at hx
theorem kS.one {cs:List Value} {l:List lF} (h:kS w o cs l):∀ u ∈ cs,u.oneCell' = true:=by
 intro u hu
 obtain ⟨i,hi⟩:=List.mem_iff_getElem?.1 hu
 have hl:i < cs.length:=(List.getElem?_eq_some_iff.1 hi).1
 have hj:i / 3 < l.length:=by have:=h.1;omega
 obtain ⟨a,b,bv,c,d⟩:=h.2 (i / 3) _ (List.getElem?_eq_getElem hj)
 rcases (show i % 3 = 0 ∨ i % 3 = 1 ∨ i % 3 = 2 by omega) with he | he | he
 ·rw [show i / 3 * 3 = i by omega,hi] at a
  cases a;rfl
 ·rw [show i / 3 * 3 + 1 = i by omega,hi] at b
  cases b;rfl
 ·rw [show i / 3 * 3 + 2 = i by omega,hi] at c
  cases c
  obtain ⟨x,y,rfl⟩:=Aq d
  rfl
end
end Go.Proofs.YthmpmgknnibljaaGreat
namespace Go.Proofs.YthmpmgknnibljaaGreat
set_option maxRecDepth 100000
set_option maxHeartbeats 12800000
open Go Go.RowKit
attribute [local go_sem ↓] Go.wp_at_zero Go.wp_at_succ
def nK (w:World) (o:Own) (v:Value) (l:List lF):Prop:=∃ cs,Slc w o v l.length cs∧kS w o cs l
def kN (w:World) (o:Own) (base X:Nat) (v:Value) (l:List lF):Prop:=∃ cs,kP w o base X 82 3 v l.length cs∧kS w o cs l
theorem oK:(Tryz.prog.info? 82).map (fun i=>(i.zero.map (fun z=>z.cells.toList),i.size,i.bytes)) = some (some [.int .i64 0, .int .i64 0, .slice none 0 0],3,40):=by kernel_rfl
theorem nY:(Tryz.prog.info? 82).map (·.size) = some 3:=by kernel_rfl
end Go.Proofs.YthmpmgknnibljaaGreat
namespace Go.Proofs.YthmpmgknnibljaaGreat
set_option maxRecDepth 100000
set_option maxHeartbeats 12800000
open Go Go.RowKit
attribute [local go_sem ↓] Go.wp_at_zero Go.wp_at_succ
section
variable {T:Nat→Prop} {w w' W:World} {o o':Own} {base X:Nat} {v:Value} {l:List lF}
theorem kN.nil (w:World) (o:Own) (base X:Nat):kN w o base X (.slice none 0 0) []:=⟨[],kP.nil _ _ _ _ _ _,kS.nil w o⟩
theorem kN.step (h:kN w o base X v l) (s:Step T w o w' o') (hX:¬ T X) (h0:¬ T 0):kN w' o' base X v l:=by
 obtain ⟨cs,h1,h2⟩:=h;exact ⟨cs,h1.step s hX,h2.step s h0⟩
theorem kN.form (h:kN w o base X v l):∃ a c,v = .slice a l.length c:=by
 obtain ⟨cs,h1, -⟩:=h;exact h1.form
theorem kN.append {yv:Value} {m:List lF} (h:kN W o base X v l) (hX:X ≠ 0) (hbase:base ≤ W.heap.size) (hy:nK W o yv m) (hn:l.length + m.length ≤ 100000) :
  ∃ nv w' o',(Builtin.append_ #[79,79] 79 #[v,yv]).run Tryz.prog W = .ok nv w'∧kN w' o' base X nv (l ++ m)∧Step (Only X) W o w' o':=by
 obtain ⟨cs,h1,h2⟩:=h
 obtain ⟨ds,y1,y2⟩:=hy
 obtain ⟨nv,w',o',hrun,hg,hs⟩:=h1.append (t:=79) Tryz.underlying79 oK rfl (by omega) nY hbase y1 y2.1 y2.one hn (by omega)
 exact ⟨nv,w',o',hrun,⟨_,by rw [List.length_append];exact hg,(h2.append y2).step hs (fun h=>hX h.symm)⟩,hs⟩
theorem nK.form (h:nK w o v l):∃ a c,v = .slice a l.length c:=by
 obtain ⟨cs,h1, -⟩:=h;exact Aq h1
end
end Go.Proofs.YthmpmgknnibljaaGreat
namespace Go.Proofs.YthmpmgknnibljaaGreat
set_option maxRecDepth 100000
set_option maxHeartbeats 12800000
open Go Go.RowKit
attribute [local go_sem ↓] Go.wp_at_zero Go.wp_at_succ
theorem kN.done {w w':World} {o oj:Own} {X:Nat} {v:Value} {l:List lF} (h:kN w' oj w.heap.size X v l) (s:Step Nobody w o w' oj):nK w' (ext w o) v l:=by
 obtain ⟨cs,h1,h2⟩:=h
 refine ⟨cs,h1.done h2.1,h2.1,fun i x hx => ?_⟩
 obtain ⟨a,b,bv,c,d⟩:=h2.2 i x hx
 exact ⟨a,b,bv,c,d.ext s⟩
theorem nS (w:World) (f t:Int) (bv:Value):(Instr.buildSlice 79 1 #[(0, .agg #[.int .i64 f, .int .i64 t,bv])]).run Tryz.prog w = .ok (.slice (some ⟨w.heap.size,0,none⟩) 1 1) (w.alloc (.cells [.int .i64 f, .int .i64 t,bv].toArray 82)):=
 Dv w 79 82 [.int .i64 0, .int .i64 0, .slice none 0 0] (.agg #[.int .i64 f, .int .i64 t,bv]) [.int .i64 f, .int .i64 t,bv] Tryz.underlying79 (by kernel_rfl) rfl (by simp) (by simp) rfl
structure CP where
 k:Nat
 e:BitVec 64
 c:BitVec 64
 at':Int
 com:Int
 ls:List Ar
end Go.Proofs.YthmpmgknnibljaaGreat
namespace Go.Proofs.YthmpmgknnibljaaGreat
set_option maxRecDepth 100000
set_option maxHeartbeats 12800000
open Go Go.RowKit
attribute [local go_sem ↓] Go.wp_at_zero Go.wp_at_succ
namespace CP
def pre (m:CP):Bool:=decide (m.k < 1) || decide (6 < m.k) || decide (m.e.toNat < 1) || decide (281474976710656 < m.e.toNat) || decide (m.e.toNat < m.c.toNat) || decide (m.at' < 0) || decide (256 < m.at') || decide (m.com < 0) || decide (256 < m.com) || decide (256 < m.ls.length)
def mid (m:CP):Bool:=(decide (m.k ≠ 2) && decide (0 < m.c.toNat)) || (decide (m.k ≠ 5) && decide (0 < m.com))
def low (m:CP):Bool:=decide (m.k ≠ 5) && decide (m.k ≠ 6) && decide (0 < m.at')
def few (m:CP):Bool:=decide (m.k = 2) || decide (m.k = 4) || decide (m.k = 5) || decide (m.ls.length = 0)
def may (m:CP):Bool := !m.pre && (m.ls.all (fun x=>decide x.may) && (!m.mid && (!m.low && m.few)))
def msg (m:CP):BG:=⟨m.k,m.e,m.c,m.at'.toNat,m.com.toNat,m.ls⟩
def put (m:CP):List UInt8:=if m.may = true then m.msg.put else []
end CP
end Go.Proofs.YthmpmgknnibljaaGreat
namespace Go.Proofs.YthmpmgknnibljaaGreat
set_option maxRecDepth 100000
set_option maxHeartbeats 12800000
open Go Go.RowKit
attribute [local go_sem ↓] Go.wp_at_zero Go.wp_at_succ
def QK (m:CP) (lv:Value):Value := .agg #[.int .u8 (m.k:Int), .int .u64 (m.e.toNat:Int), .int .u64 (m.c.toNat:Int), .int .i64 m.at', .int .i64 m.com,lv]
def EQ (m:CP) (lv:Value):List Value:=[.int .u8 (m.k:Int), .int .u64 (m.e.toNat:Int), .int .u64 (m.c.toNat:Int), .int .i64 m.at', .int .i64 m.com,lv]
end Go.Proofs.YthmpmgknnibljaaGreat
namespace Go.Proofs.YthmpmgknnibljaaGreat
set_option maxRecDepth 100000
set_option maxHeartbeats 12800000
open Go Go.RowKit
attribute [local go_sem ↓] Go.wp_at_zero Go.wp_at_succ
namespace Aj
def Kin (d:Nat) (x z:Aj):Prop:=x.id = z.id∧x.n = z.n∧x.waited ≤ z.waited + d
theorem Kin.refl (d:Nat) (x:Aj):Kin d x x:=⟨rfl,rfl,Nat.le_add_right _ _⟩
theorem Kin.at0 {x z:Aj} (h1:x.id = z.id) (h2:x.n = z.n) (h3:x.waited = 0) (d:Nat):Kin d x z:=⟨h1,h2,by rw [h3];exact Nat.zero_le _⟩
theorem Kin.trans {d e:Nat} {x y z:Aj} (h:Kin d x y) (g:Kin e y z):Kin (d + e) x z:=⟨h.1.trans g.1,h.2.1.trans g.2.1,by have:=h.2.2;have:=g.2.2;omega⟩
theorem RY (z:Aj) (mine:BitVec 64) (mat:List Int) (base:Nat) (ready:Bool):Kin 0 (z.count mine mat base ready) z:=by
 unfold count;simp only;split <;> exact ⟨rfl,rfl,Nat.le_refl _⟩
theorem Vs (z:Aj) (mine:BitVec 64) (has:List (Option (BitVec 64 × List Ar))):Kin 0 (z.lead mine has).1 z:=by
 unfold lead
 split
 ·exact Kin.refl _ _
 ·split
  ·exact Kin.refl _ _
  ·rename_i p _
   split
   ·exact (RY ({ z with k:=(z.k.Ee mine p.2).1,Ag:=min z.Ag p.2.length }:Aj) mine (List.replicate z.n (-1)) p.2.length false).trans (e:=0) ⟨rfl,rfl,Nat.le_refl _⟩
   ·exact ⟨rfl,rfl,Nat.zero_le _⟩
theorem Yl (z:Aj):Kin 0 z.stand.1 z:=by
 unfold stand
 simp only
 split
 ·exact Kin.refl _ _
 split
 ·exact (Vs _ _ _).trans (e:=0) ⟨rfl,rfl,Nat.zero_le _⟩
 ·exact Kin.refl _ _
theorem ZA (z:Aj):Kin 1 z.tick.1 z:=by
 unfold tick
 split
 ·exact Kin.refl _ _
 ·simp only
  split
  ·exact (Yl _).trans (e:=1) ⟨rfl,rfl,Nat.le_refl _⟩
  ·exact ⟨rfl,rfl,Nat.le_refl _⟩
theorem YT (z:Aj) (src:Nat) (m:BG):Kin 0 (z.Ec src m).1 z:=by
 have h0:∀ x:Aj,x.id = z.id→x.n = z.n→x.waited = 0→Kin 0 x z:=fun x a b c=>Kin.at0 a b c 0
 unfold Ec
 split
 ·unfold BK
  repeat (split <;> try first | exact Kin.refl _ _ | exact h0 _ rfl rfl rfl)
 split
 ·unfold Bj
  split
  ·split
   ·exact Kin.refl _ _
   ·exact (Vs _ _ _).trans (e:=0) ⟨rfl,rfl,Nat.le_refl _⟩
  ·exact Kin.refl _ _
 split
 ·unfold Cj
  simp only
  split <;> first | exact Kin.refl _ _ | exact h0 _ rfl rfl rfl
 split
 ·unfold BD
  simp only
  repeat (split <;> try first | exact Kin.refl _ _ | exact h0 _ rfl rfl rfl)
 split
 ·unfold BF
  simp only
  repeat (split <;> try first | exact Kin.refl _ _ | exact h0 _ rfl rfl rfl)
 ·unfold CJ
  split
  ·split
   ·exact RY _ _ _ _ _
   ·exact Kin.refl _ _
  ·exact Kin.refl _ _
theorem Vy (z:Aj) (src:Nat) (m:BG):Kin 0 (z.hear src m).1 z:=by
 rw [MZ];exact (YT _ src m).trans (e:=0) ⟨rfl,rfl,Nat.le_refl _⟩
end Aj
end Go.Proofs.YthmpmgknnibljaaGreat
namespace Go.Proofs.YthmpmgknnibljaaGreat
set_option maxRecDepth 100000
set_option maxHeartbeats 12800000
open Go Go.RowKit
attribute [local go_sem ↓] Go.wp_at_zero Go.wp_at_succ
theorem Xo (ls:List Ar):(encs ls).length ≤ AP ls + 12 * ls.length:=by
 induction ls with
 | nil=>simp [encs]
 | cons x t ih =>
  have h1:(encs (x :: t)).length = x.enc.length + (encs t).length:=by simp [encs]
  have h2:AP (x :: t) = x.b.length + AP t:=by simp [AP]
  have h3:x.enc.length = x.b.length + 12:=by simp [Ar.enc,Az];omega
  rw [h1,h2,h3,List.length_cons];omega
def Wp (w:World) (o:Own) (b off:Nat) (cs:List Value):Prop:=w.rangeAt b off cs∧b < w.heap.size∧(o b).1 = 0
theorem Wp.step {T:Nat→Prop} {w w':World} {o o':Own} {b off:Nat} {cs:List Value} (h:Wp w o b off cs) (s:Step T w o w' o') (hT:¬ T 0):Wp w' o' b off cs:=
 ⟨Cf h.1 (s.block b h.2.1 (by rw [h.2.2];exact hT)),Nat.lt_of_lt_of_le h.2.1 s.size,by rw [s.own b h.2.1];exact h.2.2⟩
def lG (f:Nat) (ts:List (Nat × List UInt8)):List lF:=ts.map fun x=>(f,x.1,x.2)
theorem lM (f:Nat) (t:DX):lG f (Ed t) = kX (kJ f t):=by simp [lG,Ed,kX,kJ]
theorem mJ {w:World} {o:Own} (f:Nat) {v:Value} {ts:List (Nat × List UInt8)} (h:Dn w o v ts) (hn:ts.length ≤ 1000) :
  Calls Tryz.prog 40 #[.int .i64 (f:Int),v] w (Ret Nobody w o fun v' w' o'=>nK w' o' v' (lG f ts)):=by
 obtain ⟨X,hX0,hXf⟩:=KT o w.heap.size 0
 have hX:X ≠ 0:=by omega
 obtain ⟨va,vc,rfl⟩:=h.form
 obtain ⟨N,hN⟩:∃ n,ts.length = n:=⟨_,rfl⟩
 rw [hN] at h ⊢
 have hNI:(0:Int) ≤ (N:Int)∧(N:Int) ≤ 1000:=by omega
 have hH:=hidden h
 have hNH:=hidden hN
 have hXfH:=hidden hXf
 clear h hN hn hXf hX0
 go_enter Tryz.func40,Tryz.ntmps40
 go_wp2_with fail
 go_loopw [5,6] (fun out i wr=>∃ (k:Nat) (oj:Own),k ≤ N∧i = .int .i64 k∧Step Nobody w o wr oj∧kN wr oj w.heap.size X out (lG f (ts.take k))) (fun _ i _=>N - (intOf i).toNat)
 case atStart=>exact ⟨0,o,Nat.zero_le _,rfl,Step.refl _ _ _,kN.nil _ _ _ _⟩
 case round =>
  obtain ⟨k,oj,hk,rfl,hst,hrow⟩:=hrel
  by_cases hlt:k < N
  ·have hltI:(0:Int) ≤ (k:Int)∧(k:Int) < (N:Int):=by omega
   obtain ⟨x,hx⟩:∃ x,ts[k]? = some x:=⟨_,List.getElem?_eq_getElem (by rw [hNH.out];exact hlt)⟩
   obtain ⟨b,off,bv,rfl,hr,hby,hb,ho⟩:=(hH.out.step hst (fun h=>h)).at hx
   obtain ⟨ya,yc,rfl⟩:=Aq hby
   obtain ⟨Y,hY⟩:∃ n,x.2.length = n:=⟨_,rfl⟩
   rw [hY] at hr hby
   obtain ⟨V,hV⟩:∃ V,wr.drew = V:=⟨_,rfl⟩
   have kV:Step Nobody wr oj V oj:=by rw [←hV];exact (Step.refl Nobody wr oj).drew
   have hrw:Wp V oj b (off + k * 2) [.int .i64 (x.1:Int), .slice ya Y yc]:=Wp.step ⟨hr,hb,ho⟩ kV (fun h=>h)
   have hSof:∀ W O,Step (Only X) V oj W O→W.cell? ⟨b,off + k * 2,none⟩ = some (.int .i64 (x.1:Int))∧W.cell? ⟨b,off + k * 2 + 1,none⟩ = some (.slice ya Y yc):=by
    intro W O hJ
    have h:=(hrw.step hJ (fun h=>hX h.symm)).1
    exact ⟨h 0 _ rfl,h 1 _ rfl⟩
   have hS:=hSof V oj (Step.refl _ _ _)
   rw [←hV] at hS
   have hst2:=hst.trans kV
   have hsa:=(Step.refl Nobody V oj).alloc (.cells [.int .i64 (f:Int), .int .i64 (x.1:Int), .slice ya Y yc].toArray 82) (0,0)
   have hnb:=heap_alloc_new V (.cells [.int .i64 (f:Int), .int .i64 (x.1:Int), .slice ya Y yc].toArray 82)
   have hbs:=nS V (f:Int) (x.1:Int) (.slice ya Y yc)
   have hone:nK (V.alloc (.cells [.int .i64 (f:Int), .int .i64 (x.1:Int), .slice ya Y yc].toArray 82)) (Ak oj V.heap.size (0,0)) (.slice (some ⟨V.heap.size,0,none⟩) 1 1) [(f,x.1,x.2)]:=
    ⟨_, .inr ⟨V.heap.size,0,1,rfl,Nat.le_refl _,by simp [maxLen],by rw [Au],by simp,AV hnb⟩,kS.single ((hby.step kV (fun h=>h)).step hsa (fun h=>h))⟩
   obtain ⟨V2,hV2⟩:∃ W,V.alloc (.cells [.int .i64 (f:Int), .int .i64 (x.1:Int), .slice ya Y yc].toArray 82) = W:=⟨_,rfl⟩
   obtain ⟨O2,hO2⟩:∃ O,Ak oj V.heap.size (0,0) = O:=⟨_,rfl⟩
   rw [hV2] at hsa hbs hone
   rw [hO2] at hsa hone
   obtain ⟨nv,w5,o5,hrun,hrow5,hs5⟩:=((hrow.step kV (fun h=>h) (fun h=>h)).step hsa (fun h=>h) (fun h=>h)).append hX (Nat.le_trans hst2.size hsa.size) hone (by simp [lG];omega)
   have hsuc:lG f (ts.take k) ++ [(f,x.1,x.2)] = lG f (ts.take (k + 1)):=by rw [List.take_add_one,hx];simp [lG]
   rw [hsuc] at hrow5
   have hJ2:=(Step.refl (Only X) V oj).trans (hsa.only X)
   have hS2:=hSof _ _ hJ2
   have hS5:=hSof _ _ (hJ2.trans hs5)
   have hstF:Step Nobody w o w5 o5:=(((hst2.trans hsa).only X).trans hs5).nobody hXfH.out
   have hF:=hidden (And.intro hstF hrow5)
   have hbsH:=hidden hbs
   have hrunH:=hidden hrun
   obtain ⟨ra,rc,rfl⟩:=hrow.form
   obtain ⟨na,nc,rfl⟩:=hrow5.form
   clear hst hrow hx hr hby hb ho kV hrw hSof hst2 hsa hnb hbs hone hV2 hO2 hrun hrow5 hs5 hsuc hJ2 hstF
   go_wp2_with fail
   refine Aa (fun w'=>w'.cell? ⟨b,off + k * 2,none⟩ = some (.int .i64 (x.1:Int))∧w'.cell? ⟨b,off + k * 2 + 1,none⟩ = some (.slice ya Y yc)) (fun _=>true) (by kernel_rfl) hS (fun hHeld => ?_)
   rw [hV] at hHeld ⊢
   clear hS hV
   refine tq 0 ?_
   refine tq 1 ?_
   refine tq 2 ?_
   refine tq 3 ?_
   refine tq 4 ?_
   refine tq 5 ?_
   refine tq 6 ?_
   refine tq 7 ?_
   refine tq 8 ?_
   refine tq 9 ?_
   refine tq 10 ?_
   refine tq 11 ?_
   refine tq 12 ?_
   refine Ac (i:=13) rfl (by kernel_rfl) ?_
   refine BO #[(0, .agg #[.int .i64 (f:Int), .int .i64 (x.1:Int), .slice ya Y yc])] rfl hbsH.out ?_
   simp only [Act.put,lsa,lsz,lss]
   go_wp2_with fail
   refine ⟨fun _=>hS2, ?_⟩
   refine Ac (i:=14) rfl (by kernel_rfl) ?_
   refine Bl hrunH.out ?_
   simp only [Act.put,lsa,lsz,lss]
   go_wp2_with fail
   refine ⟨fun _=>hS5, ?_⟩
   refine tq 15 ?_
   refine Ae (by kernel_rfl) ?_ _
   clear hHeld hS2 hS5
   go_wp2_with fail
   go_roundw
   case rel=>exact ⟨k + 1,o5,by omega,by go_num,hF.out.1,hF.out.2⟩
   case measure=>simp [intOf];omega
  ·obtain rfl:N = k:=by omega
   have hfull:ts.take N = ts:=by rw [←hNH.out];exact List.take_length
   rw [hfull] at hrow
   have hF:=hidden (And.intro (hst.Me (ext w o) (fun k hk=>if_pos hk)) (hrow.done hst))
   obtain ⟨ra,rc,rfl⟩:=hrow.form
   clear hst hrow
   go_wp2_with fail
   go_ret
   exact ⟨_,_,rfl,hF.out.1,hF.out.2⟩
abbrev Places:=List (Nat × Nat × Nat)
def ptrs (ps:Places):List Value:=ps.map fun p => .pointer (some ⟨p.1,0,none⟩)
def Vb (w:World) (o:Own) (Z:Nat) (ps:Places) (K B:Nat) (ys:List Aj):Prop:=
 ps.length = ys.length∧∀ i y p,ys[i]? = some y→ps[i]? = some p→GN w o (Z + 5 * i) (Z + 5 * i) p.1 p.2.1 p.2.2 K B y
def Grp (w:World) (o:Own) (R Z:Nat) (v:Value) (ps:Places) (K B:Nat) (ys:List Aj):Prop:=
 Vb w o Z ps K B ys∧∃ b cap,v = .slice (some ⟨b,0,none⟩) ys.length cap∧w.rangeAt b 0 (ptrs ps)∧(o b).1 = R∧b < w.heap.size
def InG (Z n:Nat):Nat→Prop:=fun k=>Z ≤ k∧k < Z + 5 * n
end Go.Proofs.YthmpmgknnibljaaGreat
namespace Go.Proofs.YthmpmgknnibljaaGreat
set_option maxRecDepth 100000
set_option maxHeartbeats 12800000
open Go Go.RowKit
attribute [local go_sem ↓] Go.wp_at_zero Go.wp_at_succ
section
variable {w w':World} {o o':Own} {R Z K B K' B' i:Nat} {v:Value} {ps:Places} {ys:List Aj} {y:Aj}
theorem Vb.mono (h:Vb w o Z ps K B ys) (hK:K ≤ K') (hB:B ≤ B'):Vb w o Z ps K' B' ys:=⟨h.1,fun i y p hy hp=>(h.2 i y p hy hp).mono hK hB⟩
theorem Vb.step {T:Nat→Prop} (h:Vb w o Z ps K B ys) (s:Step T w o w' o') (hT:∀ t,T t→t ≠ 0∧∀ i,i < ys.length→¬ InN (Z + 5 * i) (Z + 5 * i) t):Vb w' o' Z ps K B ys:=
 ⟨h.1,fun i y p hy hp=>by
  obtain ⟨z,h1,h2,h3⟩:=h.2 i y p hy hp
  exact ⟨z,h1.step s (fun t ht=>⟨(hT t ht).1,(hT t ht).2 i (List.getElem?_eq_some_iff.1 hy).1⟩),h2,h3⟩⟩
theorem Vb.step0 (h:Vb w o Z ps K B ys) (s:Step Nobody w o w' o'):Vb w' o' Z ps K B ys:=h.step s fun _ h=>h.elim
theorem Vb.at (h:Vb w o Z ps K B ys) (hy:ys[i]? = some y):∃ p,ps[i]? = some p∧GN w o (Z + 5 * i) (Z + 5 * i) p.1 p.2.1 p.2.2 K B y:=by
 have hi:i < ps.length:=by rw [h.1];exact (List.getElem?_eq_some_iff.1 hy).1
 exact ⟨_,List.getElem?_eq_getElem hi,h.2 i y _ hy (List.getElem?_eq_getElem hi)⟩
theorem Vb.set {p:Nat × Nat × Nat} {y':Aj} (h:Vb w o Z ps K B ys) (hZ:Z ≠ 0) (hp:ps[i]? = some p) (s:Step (InN (Z + 5 * i) (Z + 5 * i)) w o w' o') (hg:GN w' o' (Z + 5 * i) (Z + 5 * i) p.1 p.2.1 p.2.2 K' B' y') (hK:K ≤ K') (hB:B ≤ B') :
  Vb w' o' Z ps K' B' (ys.set i y'):=by
 refine ⟨by rw [List.length_set];exact h.1,fun j y q hy hq => ?_⟩
 by_cases hj:i = j
 ·subst hj
  rw [hp] at hq
  cases hq
  have hi:i < ys.length:=by rw [←h.1];exact (List.getElem?_eq_some_iff.1 hp).1
  rw [List.getElem?_set_self hi] at hy
  cases hy;exact hg
 ·rw [List.getElem?_set_ne hj] at hy
  obtain ⟨z,h1,h2,h3⟩:=h.2 j y q hy hq
  have hg2:GN w' o' (Z + 5 * j) (Z + 5 * j) q.1 q.2.1 q.2.2 K B y:=⟨z,h1.step s (fun t ht=>by unfold InN at ht ⊢;omega),h2,h3⟩
  exact hg2.mono hK hB
theorem oD {n:Nat} (hi:i < n):∀ k,InN (Z + 5 * i) (Z + 5 * i) k→InG Z n k:=fun k hk=>by unfold InN at hk;unfold InG;omega
theorem Grp.step0 (h:Grp w o R Z v ps K B ys) (s:Step Nobody w o w' o'):Grp w' o' R Z v ps K B ys:=by
 obtain ⟨h1,b,cap,rfl,h2,h3,h4⟩:=h
 exact ⟨h1.step0 s,b,cap,rfl,Cf h2 (s.block b h4 (fun h=>h)),by rw [s.own b h4];exact h3,Nat.lt_of_lt_of_le h4 s.size⟩
theorem Grp.mono (h:Grp w o R Z v ps K B ys) (hK:K ≤ K') (hB:B ≤ B'):Grp w o R Z v ps K' B' ys:=⟨h.1.mono hK hB,h.2⟩
theorem Grp.step {T:Nat→Prop} (h:Grp w o R Z v ps K B ys) (s:Step T w o w' o') (hR:¬ T R) (hT:∀ t,T t→t ≠ 0∧∀ i,i < ys.length→¬ InN (Z + 5 * i) (Z + 5 * i) t):Grp w' o' R Z v ps K B ys:=by
 obtain ⟨h1,b,cap,rfl,h2,h3,h4⟩:=h
 exact ⟨h1.step s hT,b,cap,rfl,Cf h2 (s.block b h4 (by rw [h3];exact hR)),by rw [s.own b h4];exact h3,Nat.lt_of_lt_of_le h4 s.size⟩
theorem Grp.form (h:Grp w o R Z v ps K B ys):∃ b cap,v = .slice (some ⟨b,0,none⟩) ys.length cap:=by
 obtain ⟨-,b,cap,rfl, -⟩:=h;exact ⟨b,cap,rfl⟩
theorem Grp.at {a:Option Addr} {n c:Nat} (h:Grp w o R Z (.slice a n c) ps K B ys) (hy:ys[i]? = some y) :
  ∃ b pz pp pd,a = some ⟨b,0,none⟩∧ps[i]? = some (pz,pp,pd)∧w.cell? ⟨b,i,none⟩ = some (.pointer (some ⟨pz,0,none⟩))∧GN w o (Z + 5 * i) (Z + 5 * i) pz pp pd K B y∧(o b).1 = R∧b < w.heap.size:=by
 obtain ⟨h1,b,cap,hv,h2,h3,h4⟩:=h
 obtain ⟨⟨pz,pp,pd⟩,hp,hg⟩:=h1.at hy
 simp only [Value.slice.injEq] at hv
 have hc:=h2 i (.pointer (some ⟨pz,0,none⟩)) (by unfold ptrs;rw [List.getElem?_map,hp];rfl)
 rw [Nat.zero_add] at hc
 exact ⟨b,pz,pp,pd,hv.1,hp,hc,hg,h3,h4⟩
theorem Grp.set {p:Nat × Nat × Nat} {y':Aj} (h:Grp w o R Z v ps K B ys) (hZ:Z ≠ 0) (hR:R < Z) (hp:ps[i]? = some p) (s:Step (InN (Z + 5 * i) (Z + 5 * i)) w o w' o') (hg:GN w' o' (Z + 5 * i) (Z + 5 * i) p.1 p.2.1 p.2.2 K' B' y') (hK:K ≤ K') (hB:B ≤ B') :
  Grp w' o' R Z v ps K' B' (ys.set i y'):=by
 obtain ⟨h1,b,cap,rfl,h2,h3,h4⟩:=h
 exact ⟨h1.set hZ hp s hg hK hB,b,cap,by rw [List.length_set],Cf h2 (s.block b h4 (by rw [h3];unfold InN;omega)),by rw [s.own b h4];exact h3,Nat.lt_of_lt_of_le h4 s.size⟩
end
end Go.Proofs.YthmpmgknnibljaaGreat
namespace Go.Proofs.YthmpmgknnibljaaGreat
set_option maxRecDepth 100000
set_option maxHeartbeats 12800000
open Go Go.RowKit
attribute [local go_sem ↓] Go.wp_at_zero Go.wp_at_succ
def kR:List Aj→Nat→Int→Int
 | [],_,at'=>at'
 | y :: r,i,at'=>if y.OD then (if 0 ≤ at' then -1 else kR r (i + 1) (i:Int)) else kR r (i + 1) at'
theorem lN {w:World} {o:Own} {R Z K B:Nat} {v:Value} {ps:Places} {ys:List Aj} (h:Grp w o R Z v ps K B ys) (hn:ys.length ≤ 3) {a:Int} (ha:kR ys 0 (-1) = a) :
  Calls Tryz.prog 13 #[v] w fun e w'=>e = .returned (.int .i64 a)∧w = w':=by
 obtain ⟨b,cap,rfl⟩:=h.form
 obtain ⟨N,hN⟩:∃ n,ys.length = n:=⟨_,rfl⟩
 rw [hN] at h ⊢
 have hNI:(0:Int) ≤ (N:Int)∧(N:Int) ≤ 3:=by omega
 have hH:=hidden (And.intro h (And.intro hN ha))
 clear h hN hn ha
 go_enter Tryz.func13,Tryz.ntmps13
 go_wp2_with fail
 go_loopw [3,4] (fun at' i wr=>∃ (k:Nat) (q:Int),k ≤ N∧i = .int .i64 k∧at' = .int .i64 q∧kR (ys.drop k) k q = a∧(-1 ≤ q∧q ≤ 3)∧wr = w) (fun _ i _=>N - (intOf i).toNat)
 case atStart=>exact ⟨0, -1,Nat.zero_le _,rfl,rfl,hH.out.2.2,by omega,rfl⟩
 case round =>
  obtain ⟨k,q,hk,rfl,rfl,hq,hqb,hwr⟩:=hrel
  subst hwr
  have hqH:=hidden hq
  clear hq
  by_cases hlt:k < N
  ·have hltI:(0:Int) ≤ (k:Int)∧(k:Int) < (N:Int):=by omega
   obtain ⟨hg,hN, -⟩:=hH.out
   obtain ⟨y,hy⟩:∃ y,ys[k]? = some y:=⟨_,List.getElem?_eq_getElem (by rw [hN];exact hlt)⟩
   obtain ⟨b',pz,pp,pd,hb, -,hc,hgn, -⟩:=hg.at hy
   cases hb
   have hcl:=IR hgn rfl
   have hdr:ys.drop k = y :: ys.drop (k + 1):=by
    obtain ⟨hlt2,rfl⟩:=List.getElem?_eq_some_iff.1 hy
    exact (List.getElem_cons_drop hlt2).symm
   have hstp:=hqH.out
   rw [hdr] at hstp
   simp only [kR] at hstp
   have hsH:=hidden hstp
   obtain ⟨L,hL⟩:∃ r,y.OD = r:=⟨_,rfl⟩
   rw [hL] at hcl hsH
   clear hg hN hy hgn hdr hstp hL
   go_wp2_with fail
   refine hcl.mono ?_;rintro ex w' ⟨rfl,rfl⟩
   cases L
   ·have hs2:=hidden (show kR (ys.drop (k + 1)) (k + 1) q = a from hsH.out)
    go_wp2_with fail
    go_roundw
    case rel=>exact ⟨k + 1,q,by omega,by go_num,rfl,hs2.out,hqb,(by first | trivial | rfl)⟩
    case measure=>simp [intOf];omega
   ·by_cases h0:0 ≤ q
    ·have hs2:=hsH.out
     rw [if_pos rfl,if_pos h0] at hs2
     go_wp2_with fail
     go_ret
     exact ⟨by rw [←hs2];rfl,rfl⟩
    ·have hs2:=hsH.out
     rw [if_pos rfl,if_neg h0] at hs2
     have hs3:=hidden hs2
     have h0I:q < 0:=by omega
     clear hs2
     go_wp2_with fail
     go_roundw
     case rel=>exact ⟨k + 1,k,by omega,by go_num,rfl,hs3.out,by omega,(by first | trivial | rfl)⟩
     case measure=>simp [intOf];omega
  ·obtain rfl:k = N:=by omega
   have hs2:=hqH.out
   rw [List.drop_eq_nil_of_le (by rw [hH.out.2.1];omega)] at hs2
   simp only [kR] at hs2
   go_wp2_with fail
   go_ret
   exact ⟨by rw [←hs2];rfl,rfl⟩
theorem oL:(Tryz.prog.info? 30).map (fun i=>(i.zero.map (fun z=>z.cells.toList),i.size,i.bytes)) = some (some [.pointer none],1,8):=by kernel_rfl
theorem oC:(Tryz.prog.info? 30).map (·.size) = some 1:=by kernel_rfl
theorem nU (w:World) (p:Nat):(Instr.buildSlice 25 1 #[(0, .pointer (some ⟨p,0,none⟩))]).run Tryz.prog w = .ok (.slice (some ⟨w.heap.size,0,none⟩) 1 1) (w.alloc (.cells [.pointer (some ⟨p,0,none⟩)].toArray 30)):=
 Dv w 25 30 [.pointer none] (.pointer (some ⟨p,0,none⟩)) [.pointer (some ⟨p,0,none⟩)] Tryz.underlying25 (by kernel_rfl) rfl (by simp) (by simp) rfl
def mM (n k:Nat):List Aj:=(List.range k).map fun i=>Aj.new i n ⟨0,0,[]⟩
theorem nJ (n k:Nat):mM n (k + 1) = mM n k ++ [Aj.new k n ⟨0,0,[]⟩]:=by unfold mM;rw [List.range_succ,List.map_append];rfl
theorem kQ (n k:Nat):(mM n k).length = k:=by unfold mM;simp
theorem Vb.push {w:World} {o:Own} {Z K B:Nat} {ps:Places} {ys:List Aj} {p:Nat × Nat × Nat} {y:Aj} (h:Vb w o Z ps K B ys) (hg:GN w o (Z + 5 * ys.length) (Z + 5 * ys.length) p.1 p.2.1 p.2.2 K B y):Vb w o Z (ps ++ [p]) K B (ys ++ [y]):=by
 refine ⟨by rw [List.length_append,List.length_append,h.1];rfl,fun i y' p' hy hp => ?_⟩
 by_cases hi:i < ys.length
 ·rw [List.getElem?_append_left hi] at hy
  rw [List.getElem?_append_left (by rw [h.1];exact hi)] at hp
  exact h.2 i y' p' hy hp
 ·rw [List.getElem?_append_right (by omega)] at hy
  rw [List.getElem?_append_right (by rw [h.1];omega)] at hp
  have hl:=(List.getElem?_eq_some_iff.1 hy).1
  simp only [List.length_cons,List.length_nil] at hl
  have e:i - ys.length = 0:=by omega
  rw [e] at hy
  rw [h.1,e] at hp
  simp only [List.getElem?_cons_zero,Option.some.injEq] at hy hp
  subst hy hp
  have:i = ys.length:=by omega
  rw [this];exact hg
theorem group_any {M R Z:Nat} (hMR:M < R) (hRZ:R < Z) (n:Nat) (hn1:1 ≤ n) (hn3:n ≤ 3) (w:World) (o:Own) :
  Calls Tryz.prog 11 #[.int .i64 (n:Int)] w (Ret (EN M) w o fun v w' o'=>∃ ps,Grp w' o' R Z v ps 0 0 (lZ n)):=by
 have hnI:(1:Int) ≤ (n:Int)∧(n:Int) ≤ 3:=by omega
 go_enter Tryz.func11,Tryz.ntmps11
 go_wp2_with fail
 go_loopw [3,4] (fun out i wr=>∃ (k:Nat) (oj:Own) (ps:Places),k ≤ n∧i = .int .i64 k∧kP wr oj w.heap.size R 30 1 out k (ptrs ps)∧Vb wr oj Z ps 0 0 (mM n k)∧Step (EN M) w o wr oj) (fun _ i _=>n - (intOf i).toNat)
 case atStart=>exact ⟨0,o,[],Nat.zero_le _,rfl,kP.nil _ _ _ _ _ _,⟨rfl,fun i y p hy=>by simp [mM] at hy⟩,Step.refl _ _ _⟩
 case round =>
  obtain ⟨k,oj,ps,hk,rfl,hrow,hm,hst⟩:=hrel
  by_cases hlt:k < n
  ·have hltI:(0:Int) ≤ (k:Int)∧(k:Int) < (n:Int):=by omega
   have hc:=IJ k n wr oj (Z + 5 * k) (by omega) hn1 hn3 hlt
   obtain ⟨ra,rc,rfl⟩:=hrow.form
   go_wp2_with fail
   refine hc.mono ?_;rintro ex W1 ⟨v,o1,rfl,hs,pd,pp,pz,rfl,hg⟩
   have hR0:R ≠ 0:=by omega
   have hst1:=hst.trans (hs.mono (fun t (h:Z + 5 * k < t)=>(show M < t by omega)))
   have hrow1:=hrow.step hs (by show ¬ Z + 5 * k < R;omega)
   have hm1:=hm.step hs (fun t (h:Z + 5 * k < t)=>⟨by omega,fun i hi=>by rw [kQ] at hi;unfold InN;omega⟩)
   have hsa:=(Step.refl Nobody W1 o1).alloc (.cells [.pointer (some ⟨pz,0,none⟩)].toArray 30) (0,0)
   have hnb:=heap_alloc_new W1 (.cells [Value.pointer (some ⟨pz,0,none⟩)].toArray 30)
   have hbs:=nU W1 pz
   have hone:Slc (W1.alloc (.cells [.pointer (some ⟨pz,0,none⟩)].toArray 30)) (Ak o1 W1.heap.size (0,0)) (.slice (some ⟨W1.heap.size,0,none⟩) 1 1) 1 [.pointer (some ⟨pz,0,none⟩)]:=
    .inr ⟨W1.heap.size,0,1,rfl,Nat.le_refl _,by simp [maxLen],by rw [Au],by simp,AV hnb⟩
   obtain ⟨V2,hV2⟩:∃ W,W1.alloc (.cells [.pointer (some ⟨pz,0,none⟩)].toArray 30) = W:=⟨_,rfl⟩
   obtain ⟨O2,hO2⟩:∃ O,Ak o1 W1.heap.size (0,0) = O:=⟨_,rfl⟩
   rw [hV2] at hsa hbs hone
   rw [hO2] at hsa hone
   obtain ⟨nv,w5,o5,hrun,hrow5,hs5⟩:=(hrow1.step hsa (fun h=>h)).append (t:=25) Tryz.underlying25 oL rfl (by omega) oC (Nat.le_trans hst1.size hsa.size) hone rfl (by intro u hu;simp at hu;subst hu;rfl) (by omega) (by omega)
   have hm5:Vb w5 o5 Z (ps ++ [(pz,pp,pd)]) 0 0 (mM n (k + 1)):=by
    rw [nJ]
    have aR:∀ i,¬ InN (Z + 5 * i) (Z + 5 * i) R:=fun i=>by unfold InN;omega
    refine ((hm1.step0 hsa).step hs5 (fun t (h:t = R)=>by subst h;exact ⟨hR0,fun i _=>aR i⟩)).push ?_
    rw [kQ]
    obtain ⟨z,g1,g2,g3⟩:=hg.step0 hsa
    exact ⟨z,g1.step hs5 (fun t (h:t = R)=>by subst h;exact ⟨hR0,aR k⟩),g2,g3⟩
   have hpp:ptrs ps ++ [.pointer (some ⟨pz,0,none⟩)] = ptrs (ps ++ [(pz,pp,pd)]):=by simp [ptrs]
   rw [hpp] at hrow5
   have hF:=hidden (And.intro hrow5 (And.intro hm5 ((hst1.trans (hsa.mono (fun _ h=>h.elim))).trans (hs5.mono (fun t (h:t = R)=>(show M < t by omega))))))
   obtain ⟨na,nc,rfl⟩:=hrow5.form
   have hbsH:=hidden hbs
   have hrunH:=hidden hrun
   clear hpp hs hg hR0 hst1 hrow1 hm1 hsa hnb hbs hone hV2 hO2 hrun hrow5 hs5 hm5 hrow hm hst hc
   go_wp2_with (first
    | ((with_reducible apply BO #[(0, .pointer (some ⟨pz,0,none⟩))] rfl);exact hbsH.out;simp only [Act.put,lsa,lsz,lss])
    | ((with_reducible apply Bl);exact hrunH.out;simp only [Act.put,lsa,lsz,lss]))
   go_roundw
   case rel=>exact ⟨k + 1,o5,_,by omega,by go_num,hF.out.1,hF.out.2.1,hF.out.2.2⟩
   case measure=>simp [intOf];omega
  ·obtain rfl:n = k:=by omega
   obtain ⟨b,cap,rfl,h2,h3,h4⟩:=hrow.at (by omega)
   have hF:=hidden (And.intro hst (show Grp wr oj R Z (.slice (some ⟨b,0,none⟩) n cap) ps 0 0 (lZ n) from ⟨hm,b,cap,by rw [show (lZ n).length = n from kQ n n],h2,by rw [h3],h4⟩))
   clear hst hrow hm h2 h3 h4
   go_wp2_with fail
   go_ret
   exact ⟨_,_,rfl,hF.out.1,_,hF.out.2⟩
end Go.Proofs.YthmpmgknnibljaaGreat
namespace Go.Proofs.YthmpmgknnibljaaGreat
set_option maxRecDepth 100000
set_option maxHeartbeats 12800000
open Go Go.RowKit
attribute [local go_sem ↓] Go.wp_at_zero Go.wp_at_succ
section
variable {P:Program} {ops:Array Oper} {Q:Exit→Act→World→Prop} {md:Region.Mode} {S:World→Prop} {need:Nat→Bool}
def nG (md:Region.Mode) (ops:Array Oper) (need:Nat→Bool) (i:Nat) (C:List Nat) (listed:Array Bool):Bool:=
 (List.range ops.size).all fun j=>(need j || C.contains j) && (!C.contains j || (!listed.getD j true && match ops[j]? with
  | some oj=>oj.after.any (fun e=>Region.binds md e && (e.on == i || C.contains e.on))
  | none=>false))
theorem lW {i:Nat} {oi:Oper} {v:Value} {C:List Nat} (hi:ops[i]? = some oi) (hsel:∀ (j:Nat) (o:Oper) cs b,ops[j]? = some o→o.op ≠ .select cs b)
  (hQ:∀ c a w,Q (.panic c) (a.put oi.dst v) w→Q (.panic c) a w)
  (hn:∀ j oj,ops[j]? = some oj→j ∉ C→need j = true) (hc:∀ j oj,ops[j]? = some oj→j ∈ C→∃ e ∈ oj.after,Region.binds md e = true∧(e.on = i ∨ e.on ∈ C)) :
  ∀ (fuel:Nat) (listed:Array Bool) (a:Act) (w:World),
   (∀ j oj,ops[j]? = some oj→j ∈ C→listed.getD j true = false) →
   (∀ j ∈ C,listed.getD j true = false) →
   (∀ j oj,ops[j]? = some oj→j ≠ i→listed.getD j true = false→(∀ e ∈ oj.after,Region.binds md e = true→e.on ≠ i)→oi.apart ops oj = true) →
   i ∈ Region.ready md ops listed→YieldsIf P ops S oi v a→S w →
   Dq P md ops Q S need fuel (listed.setIfInBounds i true) (a.put oi.dst v) w→Dq P md ops Q S need (fuel + 1) listed a w:=by
 intro fuel
 induction fuel with
 | zero =>
  intro listed a w _ _ _ hr hy hS H
  refine ⟨fun h=>(by rw [h] at hr;cases hr),fun j hj => ?_⟩
  by_cases hji:j = i
  ·subst hji;exact hy.wpOp hi hS ⟨fun _=>hS,H⟩
  ·have:=ready_mono hj hji
   rw [H.1] at this
   cases this
 | succ fuel ih =>
  intro listed a w hC hC2 hfree hr hy hS H
  refine ⟨fun h=>(by rw [h] at hr;cases hr),fun j hj => ?_⟩
  by_cases hji:j = i
  ·subst hji;exact hy.wpOp hi hS ⟨fun _=>hS,H⟩
  ·have h1:=H.2 j (ready_mono hj hji)
   obtain ⟨hjun,oj,hoj,hall⟩:=mem_ready.1 hj
   have hun:∀ e ∈ oj.after,Region.binds md e = true→listed.getD e.on true = true:=fun e he hb=>by
    have h1:=hall e he hb
    rcases Nat.lt_or_ge e.on listed.size with h' | h'
    ·simp [h'] at h1 ⊢;exact h1
    ·simp [Array.getElem?_eq_none h'] at h1 ⊢
   have hnot:∀ e ∈ oj.after,Region.binds md e = true→e.on ≠ i:=fun e he hb heq=>by
    have h1:=hun e he hb
    have h0:=(mem_ready.1 hr).1
    rw [heq,h0] at h1;cases h1
   have hjC:j ∉ C:=fun hjC=>by
    obtain ⟨e,he,hb,h2 | h2⟩:=hc j oj hoj hjC
    ·exact hnot e he hb h2
    ·have h1:=hun e he hb
     rw [hC2 _ h2] at h1;cases h1
   have hneed:=hn j oj hoj hjC
   have h2:=wpOp_putIf hoj (hfree j oj hoj hji hjun hnot) (fun cs b=>hsel i oi cs b hi) (fun cs b=>hsel j oj cs b hoj) hQ hy h1
   have hfree':∀ k ok,ops[k]? = some ok→k ≠ i→(listed.setIfInBounds j true).getD k true = false →
     (∀ e ∈ ok.after,Region.binds md e = true→e.on ≠ i)→oi.apart ops ok = true:=fun k ok hk hki hun hno=>by
    refine hfree k ok hk hki ?_ hno
    by_cases hjk:j = k
    ·subst hjk;exact hjun
    ·rw [getD_set_ne true hjk] at hun;exact hun
   have hC':∀ k ∈ C,(listed.setIfInBounds j true).getD k true = false:=fun k hk=>by
    have hne:j ≠ k:=fun h=>hjC (by rw [h];exact hk)
    rw [getD_set_ne true hne];exact hC2 k hk
   refine wpOp_mono (fun a' w' h3=>⟨fun _=>h3.2.1 hneed,ih (listed.setIfInBounds j true) a' w' (fun k _ _ hk=>hC' k hk) hC' hfree' (ready_mono hr (Ne.symm hji)) h3.1 (h3.2.1 hneed) ?_⟩) h2
   rw [Array.setIfInBounds_comm _ _ hji]
   exact h3.2.2
theorem Lc (C:List Nat) {i:Nat} {oi:Oper} {v:Value} {fuel:Nat} {listed:Array Bool} {a:Act} {w:World} (hi:(ops.toList.drop i).head? = some oi)
  (hs:(Region.noSelect ops && Region.free md ops listed i && (Region.ready md ops listed).contains i && (nG md ops need i C listed && C.all fun j=>decide (j < ops.size))) = true)
  (hQ:∀ c a w,Q (.panic c) (a.put oi.dst v) w→Q (.panic c) a w) (hy:YieldsIf P ops S oi v a) (hS:S w)
  (h:Dq P md ops Q S need fuel (listed.setIfInBounds i true) (a.put oi.dst v) w):Dq P md ops Q S need (fuel + 1) listed a w:=by
 simp only [Bool.and_eq_true] at hs
 obtain ⟨⟨⟨h1,h2⟩,h3⟩,h4,h5⟩:=hs
 simp only [nG,List.all_eq_true,List.mem_range,Bool.and_eq_true,Bool.or_eq_true,Bool.not_eq_true',List.contains_eq_mem,decide_eq_true_eq,decide_eq_false_iff_not] at h4 h5
 have hcl:∀ j,j ∈ C→listed.getD j true = false∧∃ oj,ops[j]? = some oj∧∃ e ∈ oj.after,Region.binds md e = true∧(e.on = i ∨ e.on ∈ C):=fun j hj=>by
  obtain ⟨-,g⟩:=h4 j (h5 j hj)
  rcases g with g | ⟨g1,g2⟩
  ·exact absurd hj g
  ·refine ⟨g1, ?_⟩
   split at g2
   ·rename_i oj hoj
    obtain ⟨e,he,hb⟩:=Array.any_eq_true'.1 g2
    simp only [Bool.and_eq_true,Bool.or_eq_true,beq_iff_eq,decide_eq_true_eq] at hb
    exact ⟨oj,hoj,e,he,hb.1,hb.2⟩
   ·cases g2
 refine lW (C:=C) (EX hi) (Region.noSelect_spec h1) hQ (fun j oj hoj hj => ?_) (fun j oj hoj hj => ?_) fuel listed a w (fun j _ _ hj=>(hcl j hj).1) (fun j hj=>(hcl j hj).1) (Region.free_spec (EX hi) h2) (by simpa using h3) hy hS h
 ·obtain ⟨g, -⟩:=h4 j (Array.getElem?_eq_some_iff.1 hoj).1
  rcases g with g | g
  ·exact g
  ·exact absurd g hj
 ·obtain ⟨-,oj',hoj',g⟩:=hcl j hj
  rw [hoj] at hoj';cases hoj'
  exact g
end
end Go.Proofs.YthmpmgknnibljaaGreat
namespace Go.Proofs.YthmpmgknnibljaaGreat
set_option maxRecDepth 100000
set_option maxHeartbeats 12800000
open Go Go.RowKit
attribute [local go_sem ↓] Go.wp_at_zero Go.wp_at_succ
namespace Aj
theorem kU (z:Aj) (m:Nat→BG):(z.others m).length ≤ z.n:=by
 unfold others
 rw [List.length_map]
 have:=List.length_filter_le (fun i=>i != z.id) (List.range z.n)
 rw [List.length_range] at this
 exact this
theorem mP (z:Aj) (mine:BitVec 64) (has:List (Option (BitVec 64 × List Ar))):(z.lead mine has).2.length ≤ z.n:=by
 unfold lead
 split
 ·simp
 split
 ·simp
 split
 ·exact kU _ _
 ·simp
theorem nN (z:Aj):z.tick.2.length ≤ 2 * z.n:=by
 unfold tick
 split
 ·exact Nat.le_trans (kU z _) (by omega)
 ·simp only
  split
  ·unfold stand
   simp only
   split
   ·simp
   split
   ·rw [List.length_append]
    have h1:=kU ({ z with waited:=z.waited + 1 }:Aj) (fun _=>⟨1,PQ (Fj z.k.promised z.seen) z.id z.n,0,0,0,[]⟩)
    refine Nat.le_trans (Nat.add_le_add h1 (mP _ _ _)) ?_
    show z.n + z.n ≤ 2 * z.n
    omega
   ·simp
  ·simp
theorem nP (z:Aj) (hn:1 ≤ z.n) (src:Nat) (m:BG):(z.hear src m).2.length ≤ z.n:=by
 have h1:∀ x:DX,x.length ≤ 1→x.length ≤ z.n:=fun x h=>Nat.le_trans h hn
 rw [MZ]
 unfold Ec
 split
 ·apply h1
  unfold BK
  repeat (split <;> try (first | exact Nat.zero_le _ | exact Nat.le_refl _))
 split
 ·unfold Bj
  split
  ·split
   ·simp
   ·exact mP _ _ _
  ·simp
 split
 ·exact Nat.zero_le _
 split
 ·apply h1
  unfold BD
  simp only
  repeat (split <;> try (first | exact Nat.zero_le _ | exact Nat.le_refl _))
 split
 ·apply h1
  unfold BF
  simp only
  repeat (split <;> try (first | exact Nat.zero_le _ | exact Nat.le_refl _))
 ·apply h1
  unfold CJ
  split
  ·split <;> exact Nat.zero_le _
  ·exact Nat.zero_le _
end Aj
end Go.Proofs.YthmpmgknnibljaaGreat
namespace Go.Proofs.YthmpmgknnibljaaGreat
set_option maxRecDepth 100000
set_option maxHeartbeats 12800000
open Go Go.RowKit
attribute [local go_sem ↓] Go.wp_at_zero Go.wp_at_succ
theorem nO (m:BG):m.put.length ≤ 41 + AP m.ls + 12 * m.ls.length:=by
 have h:=Xo m.ls
 have e:m.put.length = 41 + (encs m.ls).length:=by simp [BG.put,GR,Az];omega
 omega
theorem lX {l:List Aj} {i:Nat} {z:Aj} (h:(Pi l i).1[i]? = some z):Pi l (i + 1) = ((Pi l i).1.set i z.tick.1,(Pi l i).2 ++ kJ i z.tick.2):=by
 rw [Pi];simp only [h]
theorem mV {f b k:Nat} {l r:List Aj} {all:List lV} (h:Pj f b l all k = some r) (hk:all[k]? = none):l = r:=by
 cases f with
 | zero=>cases h
 | succ f=>unfold Pj at h;rw [hk] at h;simpa using h
theorem mF {f b k:Nat} {l r:List Aj} {all:List lV} {x:lV} (h:Pj f b l all k = some r) (hk:all[k]? = some x) :
  ∃ f' z,f = f' + 1∧k ≤ 400∧AP x.2.2.ls ≤ b∧l[x.2.1]? = some z∧x.1 < z.n∧x.1 ≠ z.id∧Pj f' (b - AP x.2.2.ls) (l.set x.2.1 (z.hear x.1 x.2.2).1) (all ++ kJ x.2.1 (z.hear x.1 x.2.2).2) (k + 1) = some r:=by
 cases f with
 | zero=>cases h
 | succ f =>
  unfold Pj at h
  rw [hk] at h
  simp only at h
  split at h
  ·cases h
  ·rename_i h1
   split at h
   ·cases h
   ·rename_i z hz
    split at h
    ·cases h
    ·rename_i h2
     exact ⟨f,z,rfl,by omega,by omega,hz,by omega,by omega,h⟩
theorem nH {p:Aj→Prop} {l:List Aj} (h:∀ y ∈ l,p y) (i:Nat) {y:Aj} (hy:p y):∀ z ∈ l.set i y,p z:=fun z hz=>by
 rcases List.mem_or_eq_of_mem_set hz with h1 | h1
 ·exact h z h1
 ·subst h1;exact hy
theorem mG {f:Nat} {t:DX} {A:List lV} (h:∀ x ∈ A,x.2.2.May) (ht:Aj.EH t):∀ x ∈ A ++ kJ f t,x.2.2.May:=fun x hx=>by
 rcases List.mem_append.1 hx with h1 | h1
 ·exact h x h1
 ·simp only [kJ,List.mem_map] at h1
  obtain ⟨y,hy,rfl⟩:=h1
  exact ht y hy
theorem kN.at {w:World} {o:Own} {base X:Nat} {a:Option Addr} {n c:Nat} {l:List lF} (h:kN w o base X (.slice a n c) l) {k:Nat} {x:lF} (hx:l[k]? = some x) :
  ∃ b bv,a = some ⟨b,0,none⟩∧(w.cell? ⟨b,k * 3,none⟩ = some (.int .i64 (x.1:Int))∧w.cell? ⟨b,k * 3 + 1,none⟩ = some (.int .i64 (x.2.1:Int))∧w.cell? ⟨b,k * 3 + 2,none⟩ = some bv)∧Bytes w o bv x.2.2∧o b = (X,0)∧b < w.heap.size:=by
 obtain ⟨cs,h1,h2⟩:=h
 obtain ⟨b,cap,hv,hr,ho,hb⟩:=h1.at (Nat.lt_of_le_of_lt (Nat.zero_le _) (List.getElem?_eq_some_iff.1 hx).1)
 obtain ⟨e1,e2,bv,e3,e4⟩:=h2.2 k x hx
 simp only [Value.slice.injEq] at hv
 have g1:=hr _ _ e1
 have g2:=hr _ _ e2
 have g3:=hr _ _ e3
 rw [Nat.zero_add] at g1 g2 g3
 exact ⟨b,bv,hv.1,⟨g1,g2,g3⟩,e4,ho,hb⟩
theorem kT {w:World} {o:Own} {R Z K B b c n:Nat} {v:Value} {ps:Places} {ys ys':List Aj} (h:Grp w o R Z v ps K B ys) (hlen:ys.length = n) (hn3:n ≤ 3) (_hR0:R ≠ 0) (hRZ:R < Z) (hr:kM b ys = some ys') (hK:K + 1300 < 64000) (hB:B + b ≤ 90000) (hw:∀ y ∈ ys,y.waited ≤ c) (hc:c ≤ 900000) :
  Calls Tryz.prog 12 #[v] w (Ret (InG Z n) w o fun v' w' o'=>v' = .bool true∧Grp w' o' R Z v ps (K + 1300) (B + b) ys'∧ys'.length = n∧∀ y ∈ ys',y.waited ≤ c + 1):=by
 obtain ⟨X,hX0,hXf⟩:=KT o w.heap.size (Z + 5 * n + R)
 have hX:X ≠ 0:=by omega
 obtain ⟨T,hT⟩:∃ T:Nat→Prop,T = fun t=>InG Z n t ∨ t = X:=⟨_,rfl⟩
 have hTn:∀ {x y:World} {p q:Own},Step Nobody x p y q→Step T x p y q:=fun s=>s.mono (fun _ h=>h.elim)
 have hTi:∀ {i:Nat},i < n→∀ {x y:World} {p q:Own},Step (InN (Z + 5 * i) (Z + 5 * i)) x p y q→Step T x p y q:=fun hi _ _ _ _ s=>s.mono (fun k hk=>by rw [hT];exact .inl (oD hi k hk))
 have hTx:∀ {x y:World} {p q:Own},Step (Only X) x p y q→Step T x p y q:=fun s=>s.mono (fun k (hk:k = X)=>by rw [hT];exact .inr hk)
 have nX:∀ {i:Nat},i < n→¬ InN (Z + 5 * i) (Z + 5 * i) X:=fun hi h=>by unfold InN at h;omega
 have nR:∀ {i:Nat},¬ InN (Z + 5 * i) (Z + 5 * i) R:=fun h=>by unfold InN at h;omega
 have n0:∀ {i:Nat},¬ InN (Z + 5 * i) (Z + 5 * i) 0:=fun h=>by unfold InN at h;omega
 have hZ0:Z ≠ 0:=by omega
 have hXR:R ≠ X:=by omega
 have hXn:∀ t,Only X t→t ≠ 0∧∀ i,i < n→¬ InN (Z + 5 * i) (Z + 5 * i) t:=fun t (ht:t = X)=>by subst ht;exact ⟨hX,fun i hi=>nX hi⟩
 have hfin:∀ {y:World} {q:Own},Step T w o y q→Step (InG Z n) w o y q:=fun s=>⟨s.os,s.tape,s.output,s.size,s.own,fun k hk ht=>s.block k hk (fun hx=>by
  rw [hT] at hx
  rcases hx with hx | hx
  ·exact ht hx
  ·exact hXf k hk hx)⟩
 obtain ⟨gb,cap,rfl⟩:=h.form
 rw [hlen] at h ⊢
 have hT1:=hidden (And.intro @hTn (And.intro @hTi (And.intro @hTx (And.intro @nX (And.intro @nR (And.intro @n0 (And.intro hZ0 (And.intro hXR (And.intro hXn @hfin)))))))))
 have hnI:(0:Int) ≤ (n:Int)∧(n:Int) ≤ 3:=by omega
 have hL0:=hidden (And.intro h (And.intro hlen hw))
 have hr:Pj 402 b (Pi ys n).1 (Pi ys n).2 0 = some ys':=by rw [←hlen];exact hr
 have hrH:=hidden hr
 clear hTn hTi hTx nX nR n0 hZ0 hXR hXn hfin h hw hr hXf hX0
 go_enter Tryz.func12,Tryz.ntmps12
 go_wp2_with fail
 go_loopw [3,4] (fun av i wr=>∃ (k:Nat) (oj:Own),k ≤ n∧i = .int .i64 k∧Grp wr oj R Z (.slice (some ⟨gb,0,none⟩) n cap) ps (K + 6 * k) B (Pi ys k).1∧kN wr oj w.heap.size X av (kX (Pi ys k).2)∧((∀ x ∈ (Pi ys k).2,x.2.2.May)∧(Pi ys k).2.length ≤ 6 * k∧(Pi ys k).1.length = n∧(∀ y ∈ (Pi ys k).1,y.waited ≤ c + 1)∧∀ j,k ≤ j→(Pi ys k).1[j]? = ys[j]?)∧Step T w o wr oj) (fun _ i _=>n - (intOf i).toNat)
 case atStart =>
  obtain ⟨h,hlen,hw⟩:=hL0.out
  exact ⟨0,o,Nat.zero_le _,rfl,h,kN.nil _ _ _ _,⟨fun x hx=>by simp [Pi] at hx,Nat.le_refl _,hlen,fun y hy=>Nat.le_trans (hw y hy) (by omega),fun _ _=>rfl⟩,Step.refl _ _ _⟩
 case round =>
  obtain ⟨k,oj,hk,rfl,hg,hrow,⟨hmay,hal,hl,hwt,hsame⟩,hst⟩:=hrel
  by_cases hlt:k < n
  ·have hltI:(0:Int) ≤ (k:Int)∧(k:Int) < (n:Int):=by omega
   obtain ⟨hTn,hTi,hTx,nX,nR,n0,hZ0,hXR,hXn,hfin⟩:=hT1.out
   obtain ⟨L,hL⟩:∃ L,(Pi ys k).1 = L:=⟨_,rfl⟩
   obtain ⟨A,hA⟩:∃ A,(Pi ys k).2 = A:=⟨_,rfl⟩
   rw [hL] at hg hl hwt hsame
   rw [hA] at hrow hmay hal
   obtain ⟨y,hy⟩:∃ y,L[k]? = some y:=⟨_,List.getElem?_eq_getElem (by rw [hl];exact hlt)⟩
   have hty:=lX (l:=ys) (i:=k) (by rw [hL];exact hy)
   rw [hL,hA] at hty
   have hyw:y.waited ≤ c:=hL0.out.2.2 y (List.mem_of_getElem? (by rw [←hsame k (Nat.le_refl _)];exact hy))
   obtain ⟨b',pz,pp,pd,hb',hp,hcell,hgn, -⟩:=hg.at hy
   cases hb'
   have hok:=hgn.nok
   have hc:=KE hgn (by omega) (by omega) (by omega) (Prod.eta _).symm
   have htl:y.tick.2.length ≤ 6:=Nat.le_trans (Aj.nN y) (by have:=hok.n3;omega)
   obtain ⟨ra,rc,rfl⟩:=hrow.form
   have hgH:=hidden hg
   have hrowH:=hidden hrow
   have hstH:=hidden hst
   have hmH:=hidden (And.intro hmay (And.intro hsame (And.intro hwt (And.intro hty hp))))
   have htm:=hidden (Aj.dA hok).2.1
   have hkin:=hidden (Aj.ZA y)
   clear hTn hTi hTx nX nR n0 hXR hXn hfin hg hrow hst hmay hsame hwt hty hp hgn hok hL hA hy
   go_wp2_with fail
   refine hc.mono ?_;rintro ex W1 ⟨v1,o1,rfl,hs1,hou,hg1⟩
   obtain ⟨hTn,hTi,hTx,nX,nR,n0, -,hXR,hXn,hfin⟩:=hT1.out
   have hgr1:=hidden (hgH.out.set hZ0 hRZ hmH.out.2.2.2.2 hs1 hg1 (show K + 6 * k ≤ K + 6 * k + 6 by omega) (Nat.le_refl _))
   have hrow1:=hidden (hrowH.out.step hs1 (nX hlt) n0)
   have hst1:=hidden (hstH.out.trans (hTi hlt hs1))
   have hc:=mJ k hou (by simp [Ed];omega)
   obtain ⟨xa,xc,rfl⟩:=hou.form
   clear hTn hTi hTx nX nR n0 hXR hXn hfin hs1 hou hg1 hcell hgH hrowH hstH
   go_wp2_with fail
   refine hc.mono ?_;rintro ex W2 ⟨v2,o2,rfl,hs2,hwy⟩
   obtain ⟨hTn,hTi,hTx,nX,nR,n0, -,hXR,hXn,hfin⟩:=hT1.out
   rw [lM] at hwy
   obtain ⟨nv,w3,o3,hrun,hrow3,hs3⟩:=(hrow1.out.step hs2 (fun h=>h) (fun h=>h)).append hX (Nat.le_trans hst1.out.size hs2.size) hwy (by simp [kX,kJ];omega)
   rw [←lH] at hrow3
   have hgr3:=(hgr1.out.step0 hs2).step hs3 hXR (fun t ht=>⟨(hXn t ht).1,fun i hi=>(hXn t ht).2 i (by rw [List.length_set,hl] at hi;exact hi)⟩)
   have hst3:=(hst1.out.trans (hTn hs2)).trans (hTx hs3)
   obtain ⟨ya,yc,rfl⟩:=hwy.form
   obtain ⟨na,nc,rfl⟩:=hrow3.form
   have hrunH:=hidden hrun
   have hF:=hidden (And.intro hgr3 (And.intro hrow3 hst3))
   clear hTn hTi hTx nX nR n0 hXR hXn hfin hs2 hwy hrun hrow3 hs3 hgr3 hst3 hgr1 hrow1 hst1
   go_wp2_with ((with_reducible apply Bl);exact hrunH.out;simp only [Act.put,lsa,lsz,lss])
   go_roundw
   case rel =>
    obtain ⟨hmay,hsame,hwt,hty, -⟩:=hmH.out
    refine ⟨k + 1,o3,by omega,by go_num, ?_, ?_,⟨?_, ?_, ?_, ?_,fun j hj => ?_⟩,hF.out.2.2⟩ <;> rw [hty]
    ·exact hF.out.1
    ·exact hF.out.2.1
    ·exact mG hmay htm.out
    ·simp only [List.length_append,kJ,List.length_map];omega
    ·rw [List.length_set];exact hl
    ·exact nH hwt k (by have:=hkin.out.2.2;omega)
    ·rw [List.getElem?_set_ne (by omega)];exact hsame j (by omega)
   case measure=>simp [intOf];omega
  ·obtain rfl:n = k:=by omega
   obtain ⟨L,hL⟩:∃ L,(Pi ys n).1 = L:=⟨_,rfl⟩
   obtain ⟨A,hA⟩:∃ A,(Pi ys n).2 = A:=⟨_,rfl⟩
   rw [hL] at hg hl hwt hrH
   rw [hA] at hrow hmay hal hrH
   have hg0:=hidden (And.intro (hg.mono (K':=K + 18) (by omega) (Nat.le_refl B)) (And.intro hrow (And.intro hmay (And.intro hal (And.intro hl (And.intro hwt hst))))))
   obtain ⟨ra,rc,hav⟩:=hrow.form
   subst hav
   clear hg hrow hmay hal hl hwt hst hsame hL hA
   go_wp2_with fail
   go_loopw [3,5] (fun av i wr=>∃ (k f bk Bk:Nat) (oj:Own) (l:List Aj) (A:List lV),i = .int .i64 k∧k + f = 402∧Pj f bk l A k = some ys'∧Bk + bk = B + b∧Grp wr oj R Z (.slice (some ⟨gb,0,none⟩) n cap) ps (K + 18 + 3 * k) Bk l∧kN wr oj w.heap.size X av (kX A)∧(k ≤ A.length∧(∀ x ∈ A,x.2.2.May)∧A.length ≤ 18 + 3 * k∧l.length = n∧∀ y ∈ l,y.waited ≤ c + 1)∧Step T w o wr oj) (fun _ i _=>403 - (intOf i).toNat)
   case atStart =>
    obtain ⟨hg,hrow,hmay,hal,hl,hwt,hst⟩:=hg0.out
    exact ⟨0,402,b,B,_,L,A,rfl,rfl,hrH.out,rfl,hg,hrow,⟨Nat.zero_le _,hmay,by omega,hl,hwt⟩,hst⟩
   case round =>
    clear hg0
    obtain ⟨k,f,bk,Bk,oj,l,A,rfl,hkf,hd,hBk,hg,hrow,⟨hkA,hmay,hal,hl,hwt⟩,hst⟩:=hrel
    obtain ⟨NA,hNA⟩:∃ m,(kX A).length = m:=⟨_,rfl⟩
    have hNA2:A.length = NA:=by rw [←hNA];simp [kX]
    by_cases hlt2:k < NA
    ·have hltI:(0:Int) ≤ (k:Int)∧(k:Int) < (NA:Int):=by omega
     obtain ⟨⟨s,d,m⟩,hx⟩:∃ x,A[k]? = some x:=⟨_,List.getElem?_eq_getElem (by rw [hNA2];exact hlt2)⟩
     obtain ⟨f',y,rfl,hk4,hbm,hy,hsn,hsi,hd'⟩:=mF hd hx
     simp only at hbm hy hsn hsi hd'
     have hm:m.May:=hmay _ (List.mem_of_getElem? hx)
     have hxB:(kX A)[k]? = some (s,d,m.put):=by unfold kX;rw [List.getElem?_map,hx];rfl
     obtain ⟨ra,rc,rfl⟩:=hrow.form
     obtain ⟨ab,bv,rfl,⟨c1,c2,c3⟩,hby,hoab,hab⟩:=hrow.at hxB
     obtain ⟨b',pz,pp,pd,hb',hp,c4,hgn,hogb,hgbl⟩:=hg.at hy
     cases hb'
     have hdn:d < n:=by rw [←hl];exact (List.getElem?_eq_some_iff.1 hy).1
     have hdI:(0:Int) ≤ (d:Int)∧(d:Int) < (n:Int):=by omega
     have hkI:(k:Int) ≤ 400:=by omega
     rw [hNA]
     obtain ⟨ba,bc,rfl⟩:=Aq hby
     obtain ⟨PL,hPL⟩:∃ q,m.put.length = q:=⟨_,rfl⟩
     have hpl:PL ≤ 1000000:=by rw [←hPL];have:=nO m;have:=hm.n1;omega
     rw [hPL] at c3 hby
     obtain ⟨V,hV⟩:∃ V,wr.drew = V:=⟨_,rfl⟩
     have kV:Step Nobody wr oj V oj:=by rw [←hV];exact (Step.refl Nobody wr oj).drew
     have hSof:∀ (U:Nat→Prop) W O,¬ U X→¬ U R→Step U V oj W O→(W.cell? ⟨ab,k * 3,none⟩ = some (.int .i64 (s:Int))∧W.cell? ⟨ab,k * 3 + 1,none⟩ = some (.int .i64 (d:Int))∧W.cell? ⟨ab,k * 3 + 2,none⟩ = some (.slice ba PL bc)∧W.cell? ⟨gb,d,none⟩ = some (.pointer (some ⟨pz,0,none⟩))):=by
      intro U W O hUX hUR hs
      have e1:W.heap[ab]? = wr.heap[ab]?:=(hs.block ab (Nat.lt_of_lt_of_le hab kV.size) (by rw [hoab];exact hUX)).trans (kV.block ab hab (fun h=>h))
      have e2:W.heap[gb]? = wr.heap[gb]?:=(hs.block gb (Nat.lt_of_lt_of_le hgbl kV.size) (by rw [hogb];exact hUR)).trans (kV.block gb hgbl (fun h=>h))
      exact ⟨(World.cell?_of_block (a:=⟨ab,k * 3,none⟩) e1).trans c1,(World.cell?_of_block (a:=⟨ab,k * 3 + 1,none⟩) e1).trans c2,(World.cell?_of_block (a:=⟨ab,k * 3 + 2,none⟩) e1).trans c3,(World.cell?_of_block (a:=⟨gb,d,none⟩) e2).trans c4⟩
     have hSH:=hidden hSof
     have hS:=hSof Nobody V oj (fun h=>h) (fun h=>h) (Step.refl _ _ _)
     rw [←hV] at hS
     have hok:=hgn.nok
     have hc:=Fz (hgn.step0 kV) (by omega) (s:Int) (hby.step kV (fun h=>h)) (by rw [hPL];exact hpl) (AP m.ls) (fun m' hm'=>by rw [ET hm] at hm';cases hm';exact Nat.le_refl _) (by omega) ((Aj.Fg y s hsn hsi hm).trans (Prod.eta _).symm)
     have htl:(y.hear s m).2.length ≤ 3:=Nat.le_trans (Aj.nP y hok.n1 s m) hok.n3
     have hcH:=hidden hc
     have hgH:=hidden (hg.step0 kV)
     have hrowH:=hidden (hrow.step kV (fun h=>h) (fun h=>h))
     have hstH:=hidden (hst.trans (hT1.out.1 kV))
     have hmH:=hidden (And.intro hmay (And.intro hwt (And.intro hd' hp)))
     have htm:=hidden (Aj.dX hok (src:=s) hm _ (Nat.le_refl _)).2.1
     have hkin:=hidden (And.intro (Aj.Vy y s m) (hwt y (List.mem_of_getElem? hy)))
     clear hc hg hrow hst hmay hwt hd hd' hp hgn hok hx hxB hby hoab hab hogb hgbl kV hSof hm hy hsn hsi hPL
     go_wp2_with fail
     refine Aa (fun w'=>w'.cell? ⟨ab,k * 3,none⟩ = some (.int .i64 (s:Int))∧w'.cell? ⟨ab,k * 3 + 1,none⟩ = some (.int .i64 (d:Int))∧w'.cell? ⟨ab,k * 3 + 2,none⟩ = some (.slice ba PL bc)∧w'.cell? ⟨gb,d,none⟩ = some (.pointer (some ⟨pz,0,none⟩))) (fun i=>i != 26 && i != 27) (by kernel_rfl) hS (fun hHeld => ?_)
     rw [hV] at hHeld ⊢
     clear hS hV
     refine Lc [26,27] (i:=0) (v := ?_) rfl (by kernel_rfl) (fun _ _ _ h=>h) (Or.inl ⟨by rfl, ?_⟩) (by assumption) ?_
     rotate_left
     ·intro w hSw;((try dsimp only at hSw);go_simp;(try with_reducible rfl))
     simp only [Act.put,lsa,lsz,lss]
     refine Lc [3,4,5,25,26,27] (i:=1) (v := ?_) rfl (by kernel_rfl) (fun _ _ _ h=>h) (Or.inl ⟨by rfl, ?_⟩) (by assumption) ?_
     rotate_left
     ·intro w hSw;((try dsimp only at hSw);go_simp;(try with_reducible rfl))
     simp only [Act.put,lsa,lsz,lss]
     refine Lc [3,4,5,25,26,27] (i:=2) (v := ?_) rfl (by kernel_rfl) (fun _ _ _ h=>h) (Or.inl ⟨by rfl, ?_⟩) (by assumption) ?_
     rotate_left
     ·intro w hSw;((try dsimp only at hSw);go_simp;(try with_reducible rfl))
     simp only [Act.put,lsa,lsz,lss]
     refine Lc [4,5,25,26,27] (i:=3) (v := ?_) rfl (by kernel_rfl) (fun _ _ _ h=>h) (Or.inl ⟨by rfl, ?_⟩) (by assumption) ?_
     rotate_left
     ·intro w hSw;((try dsimp only at hSw);go_simp;(try with_reducible rfl))
     simp only [Act.put,lsa,lsz,lss]
     refine Lc [5,25,26,27] (i:=4) (v := ?_) rfl (by kernel_rfl) (fun _ _ _ h=>h) (Or.inl ⟨by rfl, ?_⟩) (by assumption) ?_
     rotate_left
     ·intro w hSw;((try dsimp only at hSw);go_simp;(try with_reducible rfl))
     simp only [Act.put,lsa,lsz,lss]
     refine Lc [25,26,27] (i:=5) (v := ?_) rfl (by kernel_rfl) (fun _ _ _ h=>h) (Or.inl ⟨by rfl, ?_⟩) (by assumption) ?_
     rotate_left
     ·intro w hSw;((try dsimp only at hSw);go_simp;(try with_reducible rfl))
     simp only [Act.put,lsa,lsz,lss]
     refine Lc [12,13,24,25,26,27] (i:=6) (v := ?_) rfl (by kernel_rfl) (fun _ _ _ h=>h) (Or.inl ⟨by rfl, ?_⟩) (by assumption) ?_
     rotate_left
     ·intro w hSw;((try dsimp only at hSw);go_simp;(try with_reducible rfl))
     simp only [Act.put,lsa,lsz,lss]
     refine Lc [9,10,11,12,13,24,25,26,27] (i:=7) (v := ?_) rfl (by kernel_rfl) (fun _ _ _ h=>h) (Or.inl ⟨by rfl, ?_⟩) (by assumption) ?_
     rotate_left
     ·intro w hSw;((try dsimp only at hSw);go_simp;(try with_reducible rfl))
     simp only [Act.put,lsa,lsz,lss]
     refine Lc [9,10,11,12,13,24,25,26,27] (i:=8) (v := ?_) rfl (by kernel_rfl) (fun _ _ _ h=>h) (Or.inl ⟨by rfl, ?_⟩) (by assumption) ?_
     rotate_left
     ·intro w hSw;((try dsimp only at hSw);go_simp;(try with_reducible rfl))
     simp only [Act.put,lsa,lsz,lss]
     refine Lc [10,11,12,13,24,25,26,27] (i:=9) (v := ?_) rfl (by kernel_rfl) (fun _ _ _ h=>h) (Or.inl ⟨by rfl, ?_⟩) (by assumption) ?_
     rotate_left
     ·intro w hSw;((try dsimp only at hSw);go_simp;(try with_reducible rfl))
     simp only [Act.put,lsa,lsz,lss]
     refine Lc [11,12,13,24,25,26,27] (i:=10) (v := ?_) rfl (by kernel_rfl) (fun _ _ _ h=>h) (Or.inl ⟨by rfl, ?_⟩) (by assumption) ?_
     rotate_left
     ·intro w hSw;((try dsimp only at hSw);go_simp;(try with_reducible rfl))
     simp only [Act.put,lsa,lsz,lss]
     refine Lc [12,13,24,25,26,27] (i:=11) (v := ?_) rfl (by kernel_rfl) (fun _ _ _ h=>h) (Or.inl ⟨by rfl, ?_⟩) (by assumption) ?_
     rotate_left
     ·intro w hSw;((try dsimp only at hSw);go_simp;(try with_reducible rfl))
     simp only [Act.put,lsa,lsz,lss]
     refine Lc [13,24,25,26,27] (i:=12) (v := ?_) rfl (by kernel_rfl) (fun _ _ _ h=>h) (Or.inl ⟨by rfl, ?_⟩) (by assumption) ?_
     rotate_left
     ·intro w hSw;((try dsimp only at hSw);go_simp;(try with_reducible rfl))
     simp only [Act.put,lsa,lsz,lss]
     refine Lc [24,25,26,27] (i:=13) (v := ?_) rfl (by kernel_rfl) (fun _ _ _ h=>h) (Or.inl ⟨by rfl, ?_⟩) (by assumption) ?_
     rotate_left
     ·intro w hSw;((try dsimp only at hSw);go_simp;(try with_reducible rfl))
     simp only [Act.put,lsa,lsz,lss]
     refine Lc [16,17,18,24,25,26,27] (i:=14) (v := ?_) rfl (by kernel_rfl) (fun _ _ _ h=>h) (Or.inl ⟨by rfl, ?_⟩) (by assumption) ?_
     rotate_left
     ·intro w hSw;((try dsimp only at hSw);go_simp;(try with_reducible rfl))
     simp only [Act.put,lsa,lsz,lss]
     refine Lc [16,17,18,24,25,26,27] (i:=15) (v := ?_) rfl (by kernel_rfl) (fun _ _ _ h=>h) (Or.inl ⟨by rfl, ?_⟩) (by assumption) ?_
     rotate_left
     ·intro w hSw;((try dsimp only at hSw);go_simp;(try with_reducible rfl))
     simp only [Act.put,lsa,lsz,lss]
     refine Lc [17,18,24,25,26,27] (i:=16) (v := ?_) rfl (by kernel_rfl) (fun _ _ _ h=>h) (Or.inl ⟨by rfl, ?_⟩) (by assumption) ?_
     rotate_left
     ·intro w hSw;((try dsimp only at hSw);go_simp;(try with_reducible rfl))
     simp only [Act.put,lsa,lsz,lss]
     refine Lc [18,24,25,26,27] (i:=17) (v := ?_) rfl (by kernel_rfl) (fun _ _ _ h=>h) (Or.inl ⟨by rfl, ?_⟩) (by assumption) ?_
     rotate_left
     ·intro w hSw;((try dsimp only at hSw);go_simp;(try with_reducible rfl))
     simp only [Act.put,lsa,lsz,lss]
     refine Lc [24,25,26,27] (i:=18) (v := ?_) rfl (by kernel_rfl) (fun _ _ _ h=>h) (Or.inl ⟨by rfl, ?_⟩) (by assumption) ?_
     rotate_left
     ·intro w hSw;((try dsimp only at hSw);go_simp;(try with_reducible rfl))
     simp only [Act.put,lsa,lsz,lss]
     refine Lc [21,22,23,24,25,26,27] (i:=19) (v := ?_) rfl (by kernel_rfl) (fun _ _ _ h=>h) (Or.inl ⟨by rfl, ?_⟩) (by assumption) ?_
     rotate_left
     ·intro w hSw;((try dsimp only at hSw);go_simp;(try with_reducible rfl))
     simp only [Act.put,lsa,lsz,lss]
     refine Lc [21,22,23,24,25,26,27] (i:=20) (v := ?_) rfl (by kernel_rfl) (fun _ _ _ h=>h) (Or.inl ⟨by rfl, ?_⟩) (by assumption) ?_
     rotate_left
     ·intro w hSw;((try dsimp only at hSw);go_simp;(try with_reducible rfl))
     simp only [Act.put,lsa,lsz,lss]
     refine Lc [22,23,24,25,26,27] (i:=21) (v := ?_) rfl (by kernel_rfl) (fun _ _ _ h=>h) (Or.inl ⟨by rfl, ?_⟩) (by assumption) ?_
     rotate_left
     ·intro w hSw;((try dsimp only at hSw);go_simp;(try with_reducible rfl))
     simp only [Act.put,lsa,lsz,lss]
     refine Lc [23,24,25,26,27] (i:=22) (v := ?_) rfl (by kernel_rfl) (fun _ _ _ h=>h) (Or.inl ⟨by rfl, ?_⟩) (by assumption) ?_
     rotate_left
     ·intro w hSw;((try dsimp only at hSw);go_simp;(try with_reducible rfl))
     simp only [Act.put,lsa,lsz,lss]
     refine Lc [24,25,26,27] (i:=23) (v := ?_) rfl (by kernel_rfl) (fun _ _ _ h=>h) (Or.inl ⟨by rfl, ?_⟩) (by assumption) ?_
     rotate_left
     ·intro w hSw;((try dsimp only at hSw);go_simp;(try with_reducible rfl))
     simp only [Act.put,lsa,lsz,lss]
     refine Ac (i:=24) rfl (by kernel_rfl) ?_
     go_wp2_with fail
     refine hcH.out.mono ?_;rintro e' W1 ⟨v1,o1,rfl,hs1,hou,hg1⟩
     obtain ⟨hTn,hTi,hTx,nX,nR,n0,hZ0,hXR,hXn,hfin⟩:=hT1.out
     have hS1:=hSH.out _ _ _ (nX hdn) nR hs1
     have hgr1:=hidden (hgH.out.set hZ0 hRZ hmH.out.2.2.2 hs1 hg1 (show K + 18 + 3 * k ≤ K + 18 + 3 * k + 3 by omega) (show Bk ≤ Bk + AP m.ls by omega))
     have hrow1:=hidden (hrowH.out.step hs1 (nX hdn) n0)
     have hst1:=hidden (hstH.out.trans (hTi hdn hs1))
     have hs1H:=hidden hs1
     have hc:=mJ d hou (by simp [Ed];omega)
     obtain ⟨xa,xc,rfl⟩:=hou.form
     clear hTn hTi hTx nX nR n0 hZ0 hXR hXn hfin hs1 hou hg1 hgH hrowH hstH hHeld hcH
     go_wp2_with fail
     refine ⟨fun _=>hS1, ?_⟩
     refine Ac (i:=25) rfl (by kernel_rfl) ?_
     go_wp2_with fail
     refine hc.mono ?_;rintro e' W2 ⟨v2,o2,rfl,hs2,hwy⟩
     obtain ⟨hTn,hTi,hTx,nX,nR,n0,hZ0,hXR,hXn,hfin⟩:=hT1.out
     have hS2:=hSH.out _ _ _ (nX hdn) nR (hs1H.out.trans (hs2.mono (fun _ h=>h.elim)))
     rw [lM] at hwy
     obtain ⟨nv,w3,o3,hrun,hrow3,hs3⟩:=(hrow1.out.step hs2 (fun h=>h) (fun h=>h)).append hX (Nat.le_trans hst1.out.size hs2.size) hwy (by simp [kX,kJ];omega)
     rw [←lH] at hrow3
     have hgr3:=(hgr1.out.step0 hs2).step hs3 hXR (fun t ht=>⟨(hXn t ht).1,fun i hi=>(hXn t ht).2 i (by rw [List.length_set,hl] at hi;exact hi)⟩)
     have hst3:=(hst1.out.trans (hTn hs2)).trans (hTx hs3)
     obtain ⟨ya,yc,rfl⟩:=hwy.form
     rw [hNA] at hrun
     obtain ⟨na,nc,rfl⟩:=hrow3.form
     have hrunH:=hidden hrun
     have hF:=hidden (And.intro hgr3 (And.intro hrow3 hst3))
     clear hTn hTi hTx nX nR n0 hZ0 hXR hXn hfin hs2 hwy hrun hrow3 hs3 hgr3 hst3 hgr1 hrow1 hst1 hS1 hs1H hc
     go_wp2_with fail
     refine ⟨fun _=>hS2, ?_⟩
     refine Ac (i:=26) rfl (by kernel_rfl) ?_
     refine Bl hrunH.out ?_
     simp only [Act.put,lsa,lsz,lss]
     go_wp2_with fail
     refine ⟨fun h=>by simp at h, ?_⟩
     refine Ac (i:=27) rfl (by kernel_rfl) ?_
     go_wp2_with fail
     refine ⟨fun h=>by simp at h, ?_⟩
     refine Ae (by kernel_rfl) ?_ _
     clear hS2
     go_wp2_with fail
     go_roundw
     case rel =>
      obtain ⟨hmay,hwt,hd', -⟩:=hmH.out
      refine ⟨k + 1,f',bk - AP m.ls,Bk + AP m.ls,o3,_,_,by go_num,by omega,hd',by omega,hF.out.1,hF.out.2.1,⟨?_,mG hmay htm.out, ?_,by rw [List.length_set];exact hl,nH hwt d ?_⟩,hF.out.2.2⟩
      ·rw [List.length_append];omega
      ·simp only [List.length_append,kJ,List.length_map];omega
      ·have h1:=hkin.out.1.2.2
       have h2:=hkin.out.2
       omega
     case measure=>simp [intOf];omega
    ·have hend:=mV hd (List.getElem?_eq_none (by rw [hNA2];omega))
     subst hend
     have hF:=hidden (And.intro (hT1.out.2.2.2.2.2.2.2.2.2 hst) (And.intro (hg.mono (show K + 18 + 3 * k ≤ K + 1300 by omega) (show Bk ≤ B + b by omega)) (And.intro hl hwt)))
     have hkk:¬ (k:Int) < (NA:Int):=by omega
     obtain ⟨ra,rc,rfl⟩:=hrow.form
     rw [hNA]
     clear hg hrow hst hwt hd hl
     go_wp2_with fail
     go_ret
     exact ⟨_,_,rfl,hF.out.1,rfl,hF.out.2.1,hF.out.2.2⟩
structure Eo where
 k:Nat
 src:Int
 m:CP
 b:List UInt8
structure Eo.Wf (x:Eo):Prop where
 k:x.k < 256
 src : -9223372036854775808 ≤ x.src∧x.src ≤ 9223372036854775807
 kind:x.m.k < 256
 at' : -9223372036854775808 ≤ x.m.at'∧x.m.at' ≤ 9223372036854775807
 com : -9223372036854775808 ≤ x.m.com∧x.m.com ≤ 9223372036854775807
def FH (x:Eo) (lv bv:Value):List Value:=[.int .u8 (x.k:Int), .int .i64 x.src, .int .u8 (x.m.k:Int), .int .u64 (x.m.e.toNat:Int), .int .u64 (x.m.c.toNat:Int), .int .i64 x.m.at', .int .i64 x.m.com,lv,bv]
def Ii (w:World) (o:Own) (v:Value) (l:List Eo):Prop:=
 ((∃ a c,v = .slice a 0 c)∧l = []) ∨ ∃ b off cap,v = .slice (some ⟨b,off,none⟩) l.length cap∧l.length ≤ cap∧cap ≤ maxLen∧(o b).1 = 0∧b < w.heap.size ∧
  ∀ i (h:i < l.length),l[i].Wf∧∃ lv bv,w.rangeAt b (off + i * 9) (FH l[i] lv bv)∧Lines w o 0 lv l[i].m.ls∧Bytes w o bv l[i].b
def Eo.size (x:Eo):Nat:=AP x.m.ls + x.b.length
def DU (l:List Eo):Nat:=(l.map Eo.size).sum
structure iM (l:List Eo):Prop where
 n:l.length ≤ 40
 a:∀ x ∈ l,x.m.ls.length ≤ 40∧x.b.length ≤ 5000∧∀ y ∈ x.m.ls,y.b.length ≤ 200
 s:DU l ≤ 30000
def XB (x:Eo):Prop:=x.m.ls.length ≤ 40∧x.b.length ≤ 5000∧∀ y ∈ x.m.ls,y.b.length ≤ 200
theorem Ju {ls:List Ar} (h:∀ y ∈ ls,y.b.length ≤ 200):AP ls ≤ 200 * ls.length:=by
 induction ls with
 | nil=>simp [AP]
 | cons a t ih =>
  have h1:=ih (fun y hy=>h y (List.mem_cons_of_mem _ hy))
  have h2:=h a List.mem_cons_self
  have h3:AP (a :: t) = a.b.length + AP t:=by simp [AP]
  rw [h3,List.length_cons];omega
def bV (l:List Eo) (v:Value):Prop:=∃ r,v = .bool r∧(r = false→iM l)
theorem SE {w:World} {o:Own} {a:Option Addr} {n c:Nat} {k:Nat} {cs:List Value} (h:Slc w o (.slice a n c) k cs):n = k∧k ≤ maxLen:=by
 rcases h with ⟨⟨a',c',hv⟩,h0, -⟩ | ⟨b,off,cap,hv,hl,hm, -⟩
 ·simp only [Value.slice.injEq] at hv;exact ⟨by omega,by omega⟩
 ·simp only [Value.slice.injEq] at hv;exact ⟨by omega,by omega⟩
theorem six {n:Nat} (h1:1 ≤ n) (h3:n ≤ 3):Wx 6 (lZ n) = some (grp n [] [] 0):=by
 rcases (show n = 1 ∨ n = 2 ∨ n = 3 by omega) with rfl | rfl | rfl
 ·exact oO
 ·exact oN
 ·exact oM
theorem mW {n f C b:Nat} {L:List Ar} (h1:1 ≤ n) (h3:n ≤ 3) (h:Told n L) (hf:f ≤ L.length) (hC:C ≤ f) (hb:2 * AP L ≤ b):kM b (grp n L (L.take f) C) = some (grp n L L f):=by
 rcases (show n = 1 ∨ n = 2 ∨ n = 3 by omega) with rfl | rfl | rfl
 ·exact oJ b L (L.take f) C
 ·exact oI h hf hC hb
 ·exact oH h hf hC hb
theorem lY {i:Nat} {l r:List Aj} (h:Wx (i + 1) l = some r):∃ l',kM 0 l = some l'∧Wx i l' = some r:=by
 unfold Wx at h
 split at h
 ·cases h
 ·rename_i l' hl;exact ⟨l',hl,h⟩
theorem lC {n:Nat} (h1:1 ≤ n) (L F:List Ar) (C:Nat):(grp n L F C).length = n:=by
 unfold grp;simp;omega
theorem lT (n:Nat) (L F:List Ar) (C:Nat):(grp n L F C)[0]? = some (lJ n L F):=rfl
theorem nC {n k:Nat} (h0:1 ≤ k) (hk:k < n) (L F:List Ar) (C:Nat):(grp n L F C)[k]? = some (lU n k F C):=by
 obtain ⟨j,rfl⟩:∃ j,k = j + 1:=⟨k - 1,by omega⟩
 unfold grp
 rw [List.getElem?_cons_succ,List.getElem?_map,List.getElem?_range (by omega)]
 rfl
theorem kZ {n:Nat} {L F:List Ar} {C:Nat} {y:Aj} (h:y ∈ grp n L F C):y = lJ n L F ∨ ∃ k,y = lU n k F C:=by
 unfold grp at h
 rcases List.mem_cons.1 h with h | h
 ·exact .inl h
 ·obtain ⟨k, -,rfl⟩:=List.mem_map.1 h;exact .inr ⟨_,rfl⟩
theorem lS {n:Nat} (h1:1 ≤ n) (h3:n ≤ 3) (L F:List Ar) (C:Nat):kR (grp n L F C) 0 (-1) = 0:=by
 rcases (show n = 1 ∨ n = 2 ∨ n = 3 by omega) with rfl | rfl | rfl <;> rfl
theorem nV {n:Nat} (h1:1 ≤ n) (h3:n ≤ 3) {L:List Ar} {b:List UInt8} (hb:1 ≤ b.length∧b.length ≤ 4096) (hL:L.length < 256) :
  (AX.Cm ⟨BitVec.ofNat 64 n,BitVec.ofNat 64 n,L⟩ [⟨BitVec.ofNat 64 n,b⟩]) = (⟨BitVec.ofNat 64 n,BitVec.ofNat 64 n,L ++ [⟨BitVec.ofNat 64 n,b⟩]⟩,0):=by
 have hnn:(BitVec.ofNat 64 n).toNat = n:=by rw [BitVec.toNat_ofNat,Nat.mod_eq_of_lt (by omega)]
 have hok:AX.Eu ⟨BitVec.ofNat 64 n,BitVec.ofNat 64 n,L⟩ [⟨BitVec.ofNat 64 n,b⟩] = true:=by
  unfold AX.Eu
  have ht:Ho.toNat = 281474976710656:=by decide
  simp only [Bool.and_eq_true,decide_eq_true_eq,Bool.not_eq_true',List.any_eq_false,List.length_cons,List.length_nil]
  refine ⟨⟨⟨by omega,by omega⟩,fun x hx => ?_⟩,fun x hx => ?_⟩
  ·simp only [List.mem_singleton] at hx
   subst hx
   unfold badL
   rw [ht]
   simp only [hnn,Bool.or_eq_true,decide_eq_true_eq,not_or]
   omega
  ·simp only [List.mem_singleton] at hx
   subst hx;simp
 unfold AX.Cm
 rw [if_pos hok]
theorem mD {n:Nat} (h1:1 ≤ n) (h3:n ≤ 3) {L F:List Ar} {b:List UInt8} (hb:1 ≤ b.length∧b.length ≤ 4096) (hL:L.length < 256) (hF:F.length ≤ L.length) :
  (lJ n L F).BL b = (lJ n (L ++ [⟨BitVec.ofNat 64 n,b⟩]) F,0):=by
 have ha:=nV h1 h3 (L:=L) hb hL
 have hl:(L ++ [Ar.mk (BitVec.ofNat 64 n) b]).length = L.length + 1:=by simp
 unfold Aj.BL
 rw [if_neg (by omega)]
 unfold lJ
 simp only
 rw [if_neg (by omega)]
 simp only [ha,if_true]
 unfold Aj.count
 rcases (show n = 1 ∨ n = 2 ∨ n = 3 by omega) with rfl | rfl | rfl
 ·simp only [List.replicate,hl,Nat.sub_self,lsz,CW,if_true]
  rw [if_pos (by omega)]
  congr 2
  show max L.length ((L.length + 1:Nat):Int).toNat = L.length + 1
  omega
 ·simp only [List.replicate,hl,lsz,CW,Nat.reduceSub]
  rw [if_pos (by omega)]
  congr 2
  show max _ (min ((L.length + 1:Nat):Int) (F.length:Int)).toNat = F.length
  rw [if_neg (by omega)]
  omega
 ·simp only [List.replicate,hl,lsz,CW,Nat.reduceSub]
  rw [if_pos (by omega)]
  congr 2
  simp only [show ¬ (3:Nat) = 1 by omega,if_false]
  show max F.length (max (min ((L.length + 1:Nat):Int) (F.length:Int)) (min (max ((L.length + 1:Nat):Int) (F.length:Int)) (F.length:Int))).toNat = F.length
  omega
theorem mQ {n k C:Nat} {F:List Ar} {b:List UInt8} (hb:1 ≤ b.length∧b.length ≤ 4096):(lU n k F C).BL b = (lU n k F C,64):=by
 unfold Aj.BL
 rw [if_neg (by omega)]
 rfl
def Sz (n:Nat) (bs:List (List UInt8)):List Ar:=bs.map fun b=>⟨BitVec.ofNat 64 n,b⟩
theorem kK (n:Nat) (bs:List (List UInt8)):(Sz n bs).length = bs.length:=by unfold Sz;rw [List.length_map]
def nM (bs:List (List UInt8)):Prop:=bs.length ≤ 40∧∀ b ∈ bs,1 ≤ b.length∧b.length ≤ 200
theorem nM.take {bs:List (List UInt8)} (h:nM bs) (k:Nat):nM (bs.take k):=⟨by rw [List.length_take];have:=h.1;omega,fun b hb=>h.2 b (List.mem_of_mem_take hb)⟩
theorem lI {n:Nat} {bs:List (List UInt8)} (h:nM bs):Told n (Sz n bs):=by
 refine ⟨by rw [kK];have:=h.1;omega,fun x hx => ?_⟩
 unfold Sz at hx
 obtain ⟨b,hb,rfl⟩:=List.mem_map.1 hx
 have:=h.2 b hb
 exact ⟨rfl,this.1,by show b.length ≤ 4096;omega⟩
theorem kY {n:Nat} {bs:List (List UInt8)} (h:nM bs):AP (Sz n bs) ≤ 8000:=by
 have h1:=Ju (ls:=Sz n bs) (fun y hy=>by
  unfold Sz at hy
  obtain ⟨b,hb,rfl⟩:=List.mem_map.1 hy
  exact (h.2 b hb).2)
 rw [kK] at h1
 have:=h.1
 omega
theorem mO {n:Nat} {bs:List (List UInt8)} {k:Nat} {b:List UInt8} (h:bs[k]? = some b):Sz n (bs.take (k + 1)) = Sz n (bs.take k) ++ [⟨BitVec.ofNat 64 n,b⟩]:=by
 unfold Sz;rw [List.take_add_one,h];simp
theorem GN.tight {w:World} {o:Own} {D M pz ps pd K B B':Nat} {y:Aj} (h:GN w o D M pz ps pd K B y) (hb:AP y.k.lines ≤ B') (hr:∀ mine has,y.BB ≠ .stands mine has):GN w o D M pz ps pd K B' y:=by
 obtain ⟨z,h1,h2,rfl⟩:=h
 refine ⟨z,h1,⟨h2.sp,⟨⟨h2.ok.n1,h2.ok.n3,h2.ok.id,⟨h2.ok.ls.n,h2.ok.ls.m,hb⟩,h2.ok.cp,h2.ok.pt,h2.ok.se,h2.ok.co⟩, ?_⟩⟩,rfl⟩
 have:=h2.ok.ro
 cases hro:z.BN.BB with
 | follows=>trivial
 | stands mine has=>exact absurd hro (hr mine has)
 | leads mine mat base ready=>rw [hro] at this;exact this
theorem Grp.tight {w:World} {o:Own} {R Z:Nat} {v:Value} {ps:Places} {K B B' n:Nat} {L F:List Ar} {C:Nat} (h:Grp w o R Z v ps K B (grp n L F C)) (hL:AP L ≤ B') (hF:AP F ≤ B'):Grp w o R Z v ps K B' (grp n L F C):=
 ⟨⟨h.1.1,fun i y p hy hp=>(h.1.2 i y p hy hp).tight (by
  rcases kZ (List.mem_of_getElem? hy) with rfl | ⟨k,rfl⟩
  ·exact hL
  ·exact hF) (fun mine has hro=>by
  rcases kZ (List.mem_of_getElem? hy) with rfl | ⟨k,rfl⟩ <;> cases hro)⟩,h.2⟩
end Go.Proofs.YthmpmgknnibljaaGreat
