/- Contracts of small functions on bytes: slices.Clone, bytes.Equal, wire.number, wire.Uint. -/
import Derived.Lib.AppendZerosOnto
import Derived.Test.YtffkdillijmamaaGreatGn1
namespace Go.Proofs.YtffkdillijmamaaGreat
open Go.Proofs.Tryz
set_option maxRecDepth 100000
set_option maxHeartbeats 3200000
open Go Go.RowKit
attribute [local go_sem ↓] Go.wp_at_zero Go.wp_at_succ
theorem Xz {w:World} {o:Own} {v1 v2:Value} {l1 l2:List UInt8} (h1:Bytes w o v1 l1) (h2:Bytes w o v2 l2):Calls prog 229 #[v1,v2] w fun e w'=>e = .returned (.bool (l1 == l2))∧w=w':=by
 have c1:=CY h1
 have c2:=CY h2
 obtain ⟨a1,k1,rfl⟩:=Aq h1
 obtain ⟨a2,k2,rfl⟩:=Aq h2
 clear h1 h2
 go_enter func229,ntmps229
 go_wp2
 go_ret
 exact ⟨rfl,rfl⟩
theorem FC {P:Program} (w:World) (t e:TypeId) (a:Option Addr) (n c:Nat) (h:P.underlying t=some (.slice e)) :
  (binOp .eql t (.slice a n c) (.slice none 0 0)).run P w = .ok (.bool a.isNone) w:=by
 have h1:∀ d,(Op.equalIn (d+1) t (.slice a n c) (.slice none 0 0)).run P w = .ok a.isNone w:=fun d=>by
  cases a <;> simp [Op.equalIn,run_underlying h]
 simp only [binOp]
 simp [Op.equal,Op.maxDepth,h1 9999]
theorem Es (W:World) {base:Nat} (hbase:base ≤ W.heap.size) (v:Value) (n:Nat) (xs:List UInt8) (hown:W.ownsRow base 5 1 v n (bvs xs)) (b off m c:Nat) (news:List UInt8) (hl:news.length=m) (hr:W.rangeAt b off (bvs news)) (hm:0<m) (h63:n+m ≤ 1000000000) :
  ∃ g cap w',(Builtin.append_ #[29,29] 29 #[v, .slice (some ⟨b,off,none⟩) m c]).run prog W = .ok (.slice (some ⟨g,0,none⟩) (n+m) cap) w' ∧
   w'.ownsRow base 5 1 (.slice (some ⟨g,0,none⟩) (n+m) cap) (n+m) (bvs (xs++news))∧W.grownBy w' v.ownBlock∧(v.ownBlock=some g ∨ g=W.heap.size)∧g<w'.heap.size:=by
 obtain ⟨g,cap,w',h1,h2,h3⟩:=DD (P:=prog) W 29 29 5 underlying29 dW rfl (by omega) hbase v n (bvs xs) hown b off m c (bvs news) (by rw [Bh];omega) hr (Io news) hm (by omega) (by omega)
 exact ⟨g,cap,w',h1,by rw [Jv];exact h2,h3⟩
theorem clone_any {w:World} {o:Own} {v:Value} {l:List UInt8} (h:Bytes w o v l) (hll:l.length ≤ 4000000):Calls prog 141 #[v] w (XL Nobody w o fun v w' o'=>Ew w w' o' v l):=by
 have hz:(w.alloc (.cells #[] 5)).ownsRow w.heap.size 5 1 (.slice (some ⟨w.heap.size,0,none⟩) 0 0) 0 (bvs []):=⟨rfl, .inr ⟨_,0, #[],rfl,Nat.le_refl _,heap_alloc_new w _,by omega,by simp,rfl,rfl⟩⟩
 have hbz:Below w.heap.size w (w.alloc (.cells #[] 5)):=(Below.refl _ _).alloc (Nat.le_refl _) _
 have fin:∀ (w':World) (v':Value),Below w.heap.size w w'→w'.ownsRow w.heap.size 5 1 v' l.length (bvs l)→XL Nobody w o (fun v w' o'=>Ew w w' o' v l) (.returned v') w':=fun w' v' hb ho =>
  ⟨_,(fun k=>if k<w.heap.size then o k else (0,0)),rfl,⟨hb.os,hb.tape,hb.output,hb.size,fun k hk=>if_pos hk,fun k hk _=>hb.block k hk⟩,ho,fun k hk=>if_neg (by have:=(ho.lt k hk).1;omega)⟩
 rcases h.cases with ⟨⟨a,c,rfl⟩,rfl⟩ | ⟨b,off,cap,rfl,hl,hm,ho,hb,hr⟩
 ·cases a with
  | none =>
   have he:=FC w 29 5 none 0 c underlying29
   go_enter func141,ntmps141
   go_wp2
   go_ret
   exact fin _ _ (Below.refl _ _) (World.ownsRow_nil _ _ _ _)
  | some ad =>
   have he:=FC w 29 5 (some ad) 0 c underlying29
   go_enter func141,ntmps141
   go_wp2_with fail
   go_ret
   exact fin _ _ hbz hz
 ·by_cases h0:l.length=0
  ·have hl0:l=[]:=List.eq_nil_of_length_eq_zero h0
   subst hl0
   have he:=FC w 29 5 (some ⟨b,off,none⟩) 0 cap underlying29
   simp only [List.length_nil]
   go_enter func141,ntmps141
   go_wp2_with fail
   go_ret
   exact fin _ _ hbz hz
  ·have he:=FC w 29 5 (some ⟨b,off,none⟩) l.length cap underlying29
   have hr1:(w.alloc (.cells #[] 5)).rangeAt b off (bvs l):=World.rangeAt_alloc hr _
   obtain ⟨g,cp,w3,hrun,hown,hgrow,hat,hlt⟩:=Es (w.alloc (.cells #[] 5)) (base:=w.heap.size) (by simp) _ 0 [] hz b off l.length cap l rfl hr1 (by omega) (by omega)
   have hb3:=hbz.grown hgrow (by simp) (fun k hk=>by simp only [Value.ownBlock,Option.some.injEq] at hk;omega)
   rw [Nat.zero_add,List.nil_append] at hown
   rw [Nat.zero_add] at hrun
   have Aax:=hidden hrun
   clear hrun hr1 hr
   go_enter func141,ntmps141
   go_wp2_with ((with_reducible apply Bl);exact Aax.out;simp only [Act.put,GL,DL,lss])
   go_ret
   exact fin _ _ hb3 hown
theorem BA {w:World} {base e size n:Nat} {v:Value} {xs:List Value} (h:w.ownsRow base e size v n xs):∃ a c,v = .slice a n c:=by
 rcases h.2 with ⟨rfl,rfl⟩ | ⟨g,cap,cur,rfl,_⟩
 ·exact ⟨_,_,rfl⟩
 ·exact ⟨_,_,rfl⟩
def pJ (x:BitVec 64) (k:Nat):UInt8:=UInt8.ofNat (x >>> (8*k)).toNat
def be (n:Nat) (x:BitVec 64):List UInt8:=(List.range n).map fun i=>pJ x (n - 1 - i)
theorem Az (n:Nat) (x:BitVec 64):(be n x).length=n:=by simp [be]
theorem eU (n:Nat) (x:BitVec 64) (j:Nat) (hj:j<n):(be n x).take (j+1)=(be n x).take j++[pJ x (n - 1 - j)]:=by
 rw [List.take_succ_eq_append_getElem (by rw [Az];exact hj)]
 simp [be]
theorem XV (x:BitVec 64) (k:Nat):((x >>> (8*k)).toNat:Int) % 256=((pJ x k).toNat:Int):=by
 unfold pJ;rw [UInt8.toNat_ofNat'];omega
theorem bQ (x:BitVec 64) (k:Nat):(x.toNat:Int) / 2 ^ (8*k) % 256=((pJ x k).toNat:Int):=by
 rw [←XV,BitVec.toNat_ushiftRight,Nat.shiftRight_eq_div_pow];simp
theorem JJ {w:World} {o:Own} {v:Value} {l:List UInt8} (h:Bytes w o v l) (hll:l.length ≤ 4000000) (x:BitVec 64) (n:Nat) (hn:n ≤ 8) :
  Calls prog 186 #[v, .int .u64 (x.toNat:Int), .int .i64 (n:Int)] w (XL Nobody w o fun v w' o'=>Ew w w' o' v (l++be n x)):=by
 have hcl:=clone_any h hll
 go_enter func186,ntmps186
 go_wp2_with fail
 refine hcl.mono ?_;rintro e wc ⟨v1,oc,rfl,hs,hown1,ho1⟩
 have hbel:Below w.heap.size w wc:=hs.below
 go_wp2_with fail
 go_loopw [7,8] (fun out i wr=>∃ j:Nat,j ≤ n∧i = .int .i64 ((n:Int) - 1 - j)∧wr.ownsRow w.heap.size 5 1 out (l.length+j) (bvs (l++(be n x).take j))∧Below w.heap.size w wr)
  (fun _ i _=>(intOf i+1).toNat)
 case atStart=>exact ⟨0,Nat.zero_le _,by simp,by simpa using hown1,hbel⟩
 case round =>
  clear hown1 hbel hs hcl
  obtain ⟨j,hj,rfl,hown,hbel⟩:=hrel
  by_cases hlt:j<n
  ·obtain ⟨k,hk⟩:∃ k:Nat,(n:Int) - 1 - j=(k:Int)∧k=n - 1 - j:=⟨n - 1 - j,by omega,rfl⟩
   obtain ⟨hk,hkn⟩:=hk
   rw [hk]
   have hk8:k<8:=by omega
   have hb8:=bQ x k
   obtain ⟨oa,oc2,rfl⟩:=BA hown
   have hownA:=hown.alloc (.cells #[.int .u8 ((pJ x k).toNat:Int)] 5)
   have hnb:(wr.alloc (.cells #[.int .u8 ((pJ x k).toNat:Int)] 5)).heap[wr.heap.size]?=some (.cells [Value.int .u8 ((pJ x k).toNat:Int)].toArray 5 (0,0)):=heap_alloc_new wr _
   have hbs:=hbel.size
   obtain ⟨g,cap,w3,hrun,hown3,hgrow,hat,hlt3⟩:=Es (wr.alloc (.cells #[.int .u8 ((pJ x k).toNat:Int)] 5)) (base:=w.heap.size) (by simp;omega) _ (l.length+j) _ hownA wr.heap.size 0 1 1 [pJ x k] rfl (AV hnb) (by omega) (by omega)
   have hb3:Below w.heap.size w w3:=(hbel.alloc hbel.size _).grown hgrow (by simp;omega) (fun k hk=>(hown.lt k hk).1)
   have wW:w3.ownsRow w.heap.size 5 1 (.slice (some ⟨g,0,none⟩) (l.length+j+1) cap) (l.length+(j+1)) (bvs (l++(be n x).take (j+1))):=by
    rw [eU n x j hlt, ←hkn, ←List.append_assoc];exact hown3
   have Aax:=hidden hrun
   clear hrun hown3 hownA hnb hown hat hlt3 hkn
   go_wp2_with ((with_reducible apply Bl);exact Aax.out;simp only [Act.put,GL,DL,lss])
   go_roundw
   case rel=>exact ⟨j+1,hlt,by go_num,wW,hb3⟩
   case measure=>(simp [intOf] <;> omega)
  ·have hj':j=n:=by omega
   subst hj'
   rw [List.take_of_length_le (by rw [Az];omega)] at hown
   have hm1:(j:Int) - 1 - j = -1:=by omega
   rw [hm1]
   obtain ⟨oa,oc2,rfl⟩:=BA hown
   go_wp2_with fail
   go_ret
   refine ⟨_,(fun k=>if k<w.heap.size then o k else (0,0)),rfl,⟨hbel.os,hbel.tape,hbel.output,hbel.size,fun k hk=>if_pos hk,fun k hk _=>hbel.block k hk⟩, ?_,fun k hk=>if_neg (by have:=(hown.lt k hk).1;omega)⟩
   rw [List.length_append,Az];exact hown
theorem Ef {w:World} {o:Own} {v:Value} {l:List UInt8} (h:Bytes w o v l) (hll:l.length ≤ 4000000) (x:BitVec 64) :
  Calls prog 184 #[v, .int .u64 (x.toNat:Int)] w (XL Nobody w o fun v w' o'=>Ew w w' o' v (l++be 8 x)):=by
 have hc:=JJ h hll x 8 (by omega)
 go_enter func184,ntmps184
 go_wp2_with fail
 refine hc.mono ?_;rintro e w1 ⟨v1,o1,rfl,hs,hn⟩
 go_wp2_with fail
 go_ret
 exact ⟨_,o1,rfl,hs,hn⟩
def num (l:List UInt8):BitVec 64:=l.foldl (fun n c=>(n <<< 8) ||| BitVec.ofNat 64 c.toNat) 0
theorem Ve (l:List UInt8) (c:UInt8):num (l++[c])=(num l <<< 8) ||| BitVec.ofNat 64 c.toNat:=by simp [num]
theorem fE (c:UInt8):((BitVec.ofNat 64 c.toNat).toNat:Int)=(c.toNat:Int):=by
 have:=c.toNat_lt;simp
theorem Nr (x y:BitVec 64):bits .or .u64 (x.toNat:Int) (y.toNat:Int)=((x ||| y).toNat:Int):=by
 have hb:∀ x y:BitVec 64,bits .or .u64 (x.toNat:Int) (y.toNat:Int)=IntKind.u64.wrap (((BitVec.ofInt 64 (x.toNat:Int)) ||| (BitVec.ofInt 64 (y.toNat:Int))).toNat:Int):=fun x y=>rfl
 rw [hb,Aem,Aem,wrap64]
theorem NC (x:BitVec 64):IntKind.u64.wrap ((x.toNat:Int)*256)=((x <<< 8).toNat:Int):=by
 rw [BitVec.toNat_shiftLeft,Nat.shiftLeft_eq]
 simp [IntKind.wrap,IntKind.bits,IntKind.signed]
theorem wrap_u8 (c:UInt8):IntKind.u64.wrap (c.toNat:Int)=((BitVec.ofNat 64 c.toNat).toNat:Int):=by
 have:=wrap64 (BitVec.ofNat 64 c.toNat)
 rw [fE] at this;rw [this,fE]
theorem FK {w:World} {o:Own} {v:Value} {l:List UInt8} (h:Bytes w o v l) (hll:l.length ≤ 4000000) :
  Calls prog 170 #[v] w fun e w'=>e = .returned (.int .u64 ((num l).toNat:Int))∧w=w':=by
 obtain ⟨a,c,hv⟩:=Aq h
 have hcell:∀ i (hi:i<l.length),∃ b off,a=some ⟨b,off,none⟩∧w.cell? ⟨b,off+i,none⟩=some (.int .u8 ((l[i].toNat:Int))):=by
  intro i hi
  rcases h.cases with ⟨_,rfl⟩ | ⟨b,off,cap,hv2,hl,hm,ho,hb,hr⟩
  ·simp at hi
  ·rw [hv] at hv2
   simp only [Value.slice.injEq] at hv2
   refine ⟨b,off,hv2.1,hr i _ ?_⟩
   rw [OW,List.getElem?_eq_getElem hi];rfl
 subst hv
 clear h
 go_enter func170,ntmps170
 go_wp2_with fail
 go_loop [3,8] (fun n i=>∃ k:Nat,k ≤ l.length∧i = .int .i64 k∧n = .int .u64 ((num (l.take k)).toNat:Int)) (fun _ i=>l.length - (intOf i).toNat)
 case atStart=>exact ⟨0,Nat.zero_le _,rfl,rfl⟩
 case round =>
  obtain ⟨k,hk,rfl,rfl⟩:=hrel
  by_cases hlt:k<l.length
  ·obtain ⟨b,off,rfl,hc⟩:=hcell k hlt
   have hsn:num (l.take (k+1))=(num (l.take k) <<< 8) ||| BitVec.ofNat 64 l[k].toNat:=by
    rw [List.take_succ_eq_append_getElem hlt,Ve]
   have uZ:=hidden hsn
   clear hsn hcell
   generalize hcc:l[k]=cc at *
   clear hcc
   go_wp2_with fail
   go_round
   case rel=>exact ⟨k+1,hlt,by go_num,by rw [uZ.out, ←Nr, ←NC, ←wrap_u8]⟩
   case measure=>simp [intOf];omega
  ·have hk':k=l.length:=by omega
   subst hk'
   rw [List.take_length]
   go_wp2_with fail
   go_ret
   exact ⟨rfl,rfl⟩
def Xq:BitVec 64:=0xc96c5795d7870f42#64
def TW (n:BitVec 64):BitVec 64:=(n >>> 1) ^^^ (Xq &&& -(n &&& 1#64))
def Ie (n:BitVec 64):Nat→BitVec 64
 | 0=>n
 | k+1=>TW (Ie n k)
def XT (n:BitVec 64) (c:UInt8):BitVec 64:=Ie (n ^^^ BitVec.ofNat 64 c.toNat) 8
def Jr (l:List UInt8):BitVec 64:=l.foldl XT (BitVec.allOnes 64)
def Qk (l:List UInt8):BitVec 64 := ~~~ Jr l
theorem VR (l:List UInt8) (c:UInt8):Jr (l++[c])=XT (Jr l) c:=by simp [Jr]
theorem Qq (x y:BitVec 64):bits .xor .u64 (x.toNat:Int) (y.toNat:Int)=((x ^^^ y).toNat:Int):=by
 have hb:∀ x y:BitVec 64,bits .xor .u64 (x.toNat:Int) (y.toNat:Int)=IntKind.u64.wrap (((BitVec.ofInt 64 (x.toNat:Int)) ^^^ (BitVec.ofInt 64 (y.toNat:Int))).toNat:Int):=fun x y=>rfl
 rw [hb,Aem,Aem,wrap64]
theorem Ns (x y:BitVec 64):bits .and .u64 (x.toNat:Int) (y.toNat:Int)=((x &&& y).toNat:Int):=by
 have hb:∀ x y:BitVec 64,bits .and .u64 (x.toNat:Int) (y.toNat:Int)=IntKind.u64.wrap (((BitVec.ofInt 64 (x.toNat:Int)) &&& (BitVec.ofInt 64 (y.toNat:Int))).toNat:Int):=fun x y=>rfl
 rw [hb,Aem,Aem,wrap64]
theorem Zu (x:BitVec 64):IntKind.u64.wrap (-(x.toNat:Int))=((-x).toNat:Int):=by
 have:=x.isLt
 rw [BitVec.toNat_neg]
 simp only [IntKind.wrap,IntKind.bits,IntKind.signed]
 simp
 omega
theorem Xr (y:BitVec 64):bits .xor .u64 IntKind.u64.max (y.toNat:Int)=((~~~y).toNat:Int):=by
 have h1:=Qq (BitVec.allOnes 64) y
 have h2:((BitVec.allOnes 64).toNat:Int)=IntKind.u64.max:=by decide
 rw [h2,BitVec.allOnes_xor] at h1
 exact h1
theorem VQ (y:BitVec 64):bits .xor .u64 ((y.toNat:Int) / 2) (bits .and .u64 14514072000185962306 (IntKind.u64.wrap (-bits .and .u64 (y.toNat:Int) 1)))=((TW y).toNat:Int):=by
 have h1:bits .and .u64 (y.toNat:Int) 1=((y &&& 1#64).toNat:Int):=Ns y 1#64
 have h2:(y.toNat:Int) / (2:Int)=((y >>> 1).toNat:Int):=by
  rw [BitVec.toNat_ushiftRight,Nat.shiftRight_eq_div_pow];simp
 rw [h1,Zu,h2]
 have h3:=Ns Xq (-(y &&& 1#64))
 have h4:((Xq).toNat:Int)=14514072000185962306:=by decide
 rw [h4] at h3
 rw [h3,Qq];rfl
theorem eQ {w:World} {o:Own} {v:Value} {l:List UInt8} (h:Bytes w o v l) (hll:l.length ≤ 1000000) :
  Calls prog 254 #[v] w fun e w'=>e = .returned (.int .u64 ((Qk l).toNat:Int))∧w=w':=by
 obtain ⟨a,c,hv⟩:=Aq h
 have hcell:∀ i (hi:i<l.length),∃ b off,a=some ⟨b,off,none⟩∧w.cell? ⟨b,off+i,none⟩=some (.int .u8 ((l[i].toNat:Int))):=by
  intro i hi
  rcases h.cases with ⟨_,rfl⟩ | ⟨b,off,cap,hv2,hl,hm,ho,hb,hr⟩
  ·simp at hi
  ·rw [hv] at hv2
   simp only [Value.slice.injEq] at hv2
   refine ⟨b,off,hv2.1,hr i _ ?_⟩
   rw [OW,List.getElem?_eq_getElem hi];rfl
 subst hv
 clear h
 go_enter func254,ntmps254
 go_wp2_with fail
 go_loop [3,9] (fun n i=>∃ k:Nat,k ≤ l.length∧i = .int .i64 k∧n = .int .u64 ((Jr (l.take k)).toNat:Int)) (fun _ i=>l.length - (intOf i).toNat)
 case atStart=>exact ⟨0,Nat.zero_le _,rfl,rfl⟩
 case round =>
  obtain ⟨k,hk,rfl,rfl⟩:=hrel
  by_cases hlt:k<l.length
  ·obtain ⟨b,off,rfl,hc⟩:=hcell k hlt
   have hsn:Jr (l.take (k+1))=Ie (Jr (l.take k) ^^^ BitVec.ofNat 64 l[k].toNat) 8:=by
    rw [List.take_succ_eq_append_getElem hlt,VR];rfl
   have uZ:=hidden hsn
   clear hsn hcell
   generalize hcc:l[k]=cc at *
   clear hcc
   generalize hcr:Jr (l.take k)=m0 at *
   clear hcr
   go_wp2_with fail
   go_loop [3,17] (fun n i=>∃ j:Nat,j ≤ 8∧i = .int .i64 j∧n = .int .u64 ((Ie (m0 ^^^ BitVec.ofNat 64 cc.toNat) j).toNat:Int)) (fun _ i=>8 - (intOf i).toNat)
   case atStart=>exact ⟨0,by omega,rfl,by rw [wrap_u8,Qq];rfl⟩
   case round =>
    obtain ⟨j,hj,rfl,rfl⟩:=hrel
    by_cases hlt2:j<8
    ·have hst:Ie (m0 ^^^ BitVec.ofNat 64 cc.toNat) (j+1)=TW (Ie (m0 ^^^ BitVec.ofNat 64 cc.toNat) j):=rfl
     have Abe:=hidden hst
     clear hst
     generalize Ie (m0 ^^^ BitVec.ofNat 64 cc.toNat) j=y at *
     go_wp2_with fail
     go_round
     case rel=>exact ⟨j+1,hlt2,by go_num,by rw [Abe.out, ←VQ]⟩
     case measure=>simp [intOf];omega
    ·have:j=8:=by omega
     subst this
     go_wp2_with fail
     go_round
     case rel=>exact ⟨k+1,hlt,by go_num,by rw [uZ.out]⟩
     case measure=>simp [intOf];omega
  ·have hk':k=l.length:=by omega
   subst hk'
   rw [List.take_length]
   go_wp2_with fail
   go_ret
   refine ⟨?_,rfl⟩
   show Ending.returned (Value.int .u64 (bits .xor .u64 IntKind.u64.max ((Jr l).toNat:Int)))=_
   rw [Xr];rfl
structure AA where
 stamp:BitVec 64
 at':Nat
 of':Nat
 bytes:List UInt8
namespace AA
def said (x:AA):List UInt8:=
 be 8 x.stamp++be 2 (BitVec.ofNat 64 x.at')++be 2 (BitVec.ofNat 64 x.of')++be 4 (BitVec.ofNat 64 x.bytes.length)++x.bytes++List.replicate (480 - x.bytes.length) 0
def page (x:AA):List UInt8:=x.said++(be 8 (Qk x.said)).reverse++be 8 x.stamp
theorem Kt {x:AA} (h:x.bytes.length ≤ 480):x.said.length=496:=by
 simp [said,Az];omega
theorem ES {x:AA} (h:x.bytes.length ≤ 480):x.page.length=512:=by
 simp [page,Az,Kt h]
end AA
def Xb:AA:=⟨0,0,0,[]⟩
def GY (p:List UInt8):AA:=⟨num (p.take 8),(num ((p.drop 8).take 2)).toNat,(num ((p.drop 10).take 2)).toNat,(p.drop 16).take (num ((p.drop 12).take 4)).toNat⟩
def iU (p:List UInt8):Bool := !(num (p.take 8) == 0#64) && decide ((num ((p.drop 12).take 4)).toNat ≤ 480) && ((GY p).page == p)
def CE (p:List UInt8):AA × Bool:=
 if num (p.take 8)=0#64 ∨ 480<(num ((p.drop 12).take 4)).toNat then (Xb,false) else (GY p,(GY p).page == p)
structure Ad where
 first:Nat
 n:Nat
 stamp:BitVec 64
 Dx:Bool
 end':Nat
 records:List (List UInt8)
 dead:Bool
namespace Ad
def KX (a b:BitVec 64):BitVec 64:=if a.toNat<b.toNat then b else a
def newest (pages:List (List UInt8)):BitVec 64:=pages.foldl (fun s p=>KX (KX s (num (p.take 8))) (num (p.drop 504))) 0
def Ah (pages:List (List UInt8)):List AA:=(pages.takeWhile fun p=>(CE p).2).map fun p=>(CE p).1
def run (stamp:BitVec 64) (of':Nat):Nat→List AA→Bool
 | _,[]=>true
 | i,y :: r=>y.stamp == stamp && y.at' == i && y.of' == of' && run stamp of' (i+1) r
def accept (leaves:List AA) (e:Nat) (last:BitVec 64):Option (Nat × BitVec 64 × List UInt8):=
 match leaves[e]? with
 | none=>none
 | some x =>
  if x.stamp.toNat ≤ last.toNat ∨ x.of'<1 ∨ leaves.length - e<x.of' then none
  else if run x.stamp x.of' 0 ((leaves.drop e).take x.of') then some (x.of',x.stamp,((leaves.drop e).take x.of').flatMap AA.bytes) else none
def Eb (leaves:List AA):Nat→Nat × BitVec 64 × List (List UInt8)→Nat × BitVec 64 × List (List UInt8)
 | 0,s=>s
 | f+1,s =>
  match accept leaves s.1 s.2.1 with
  | none=>s
  | some r=>Eb leaves f (s.1+r.1,r.2.1,s.2.2++[r.2.2])
def Di:List AA→Bool
 | []=>false
 | x :: _=>x.at' == 0 && x.of' == 0 && x.bytes.length == 0
def AaJ:List AA→BitVec 64
 | []=>0
 | x :: _=>x.stamp
def readAll (ls:List AA):Nat × BitVec 64 × List (List UInt8):=Eb ls ls.length (1,AaJ ls,[])
def AY (first:Nat) (pages:List (List UInt8)):Ad:=
 let ls:=Ah pages
 { first:=first,n:=pages.length,stamp:=newest pages,Dx:=Di ls,end':=if Di ls then (readAll ls).1 else 1,records:=if Di ls then (readAll ls).2.2 else [],dead:=false }
def Aw (d:Af) (first n:Nat):List (List UInt8):=(List.range n).map fun i=>d.seen (first+i)
def jA (d:Af) (first n:Int):Option Ad × Int:=
 if d.dead then (none,9)
 else if n<2 ∨ first<0 ∨ (d.pages.length:Int) - n<first then (none,1)
 else if newest (Aw d first.toNat n.toNat)=BitVec.allOnes 64 then (none,2)
 else (some (AY first.toNat (Aw d first.toNat n.toNat)),0)
def room (l:Ad):Nat:=480*(l.n - l.end')
def many (b:List UInt8):Nat:=max 1 ((b.length+479) / 480)
def part (b:List UInt8) (i:Nat):List UInt8:=(b.drop (480*i)).take 480
def head (s:Ad × Af):(Ad × Af) × Int:=
 let l:={ s.1 with stamp:=s.1.stamp+1#64 }
 let r:=s.2.write l.first (AA.page ⟨l.stamp,0,0,[]⟩)
 if r.2 ≠ 0 then ((l,r.1),r.2) else ((l,r.1.sync.1),r.1.sync.2)
def put (l:Ad) (of':Nat) (b:List UInt8):Nat→Nat→Af→Af × Int
 | 0,_,d=>(d,0)
 | k+1,i,d =>
  let r:=d.write ((l.first+l.end'+i:Nat):Int) (AA.page ⟨l.stamp,i,of',part b i⟩)
  if r.2 ≠ 0 then r else put l of' b k (i+1) r.1
def step1 (b:List UInt8) (s:Ad × Af):(Ad × Af) × Int:=if s.1.n - s.1.end'<many b then (s,4) else (s,0)
def step2 (s:Ad × Af):(Ad × Af) × Int:=
 if s.1.Dx then (s,0) else
  let r:=head s
  (({ r.1.1 with Dx:=r.2 == 0 },r.1.2),r.2)
def step3 (b:List UInt8) (s:Ad × Af):(Ad × Af) × Int:=
 let l:={ s.1 with stamp:=s.1.stamp+1#64 }
 let r:=put l (many b) b (many b) 0 s.2
 if r.2 ≠ 0 then ((l,r.1),r.2) else ((l,r.1.sync.1),r.1.sync.2)
def step4 (b:List UInt8) (s:Ad × Af):(Ad × Af) × Int:=(({ s.1 with records:=s.1.records++[b],end':=s.1.end'+many b },s.2),0)
def Hr (s:Ad × Af):(Ad × Af) × Int:=(({ s.1 with Dx:=true,records:=[],end':=1 },s.2),0)
def steps:List ((Ad × Af)→(Ad × Af) × Int)→(Ad × Af)→(Ad × Af) × Int
 | [],s=>(s,0)
 | f :: r,s=>if (f s).2 ≠ 0 then (({ (f s).1.1 with dead:=(f s).1.1.dead || (f s).2 == 9 },(f s).1.2),(f s).2) else steps r (f s).1
def alive (fs:List ((Ad × Af)→(Ad × Af) × Int)) (s:Ad × Af):(Ad × Af) × Int:=
 if s.1.dead || s.2.dead then (s,9) else steps fs s
def Ag (b:List UInt8) (s:Ad × Af):(Ad × Af) × Int:=alive [step1 b,step2,step3 b,step4 b] s
def reset (s:Ad × Af):(Ad × Af) × Int:=alive [head,Hr] s
end Ad
def Dw (l:List UInt8):Nat:=l.foldl (fun n c=>n*256+c.toNat) 0
theorem WY (l:List UInt8):∀ n:Nat,l.foldl (fun n c=>n*256+c.toNat) n=n*256 ^ l.length+Dw l:=by
 unfold Dw
 induction l with
 | nil=>intro n;simp
 | cons c r ih =>
  intro n
  simp only [List.foldl_cons,List.length_cons]
  rw [ih (n*256+c.toNat),ih (0*256+c.toNat),Nat.pow_succ]
  rw [Nat.add_mul,Nat.zero_mul,Nat.zero_add,Nat.mul_assoc,Nat.mul_comm 256,Nat.add_assoc]
theorem KJ (c:UInt8) (l:List UInt8):Dw (c :: l)=c.toNat*256 ^ l.length+Dw l:=by
 have:=WY l (0*256+c.toNat)
 unfold Dw at this ⊢
 simp only [List.foldl_cons]
 rw [this];simp
theorem Jg (l:List UInt8):Dw l<256 ^ l.length:=by
 induction l with
 | nil=>simp [Dw]
 | cons c r ih =>
  rw [KJ,List.length_cons,Nat.pow_succ]
  have h1:=c.toNat_lt
  have h2:c.toNat*256 ^ r.length ≤ 255*256 ^ r.length:=Nat.mul_le_mul_right _ (by omega)
  omega
theorem AeJ:∀ {a b:List UInt8},a.length=b.length→Dw a=Dw b→a=b
 | [],[],_,_=>rfl
 | [],_ :: _,h,_=>by simp at h
 | _ :: _,[],h,_=>by simp at h
 | x :: a,y :: b,h,e=>by
  have hl:a.length=b.length:=by simpa using h
  rw [KJ,KJ,hl] at e
  have h1:=Jg a
  have h2:=Jg b
  rw [hl] at h1
  have hp:0<256 ^ b.length:=Nat.pow_pos (by omega)
  have e1:x.toNat=y.toNat:=by
   have:=congrArg (fun t=>t / 256 ^ b.length) e
   rw [Nat.add_comm,Nat.add_mul_div_right _ _ hp,Nat.div_eq_of_lt h1,Nat.add_comm,Nat.add_comm (y.toNat*_),Nat.add_mul_div_right _ _ hp,Nat.div_eq_of_lt h2] at this
   omega
  have e2:Dw a=Dw b:=by rw [e1] at e;omega
  rw [UInt8.toNat_inj.1 e1,AeJ hl e2]
theorem YH (l:List UInt8):(num l).toNat=Dw l % 2 ^ 64:=by
 have key:∀ (l:List UInt8) (n:Nat),(l.foldl (fun (n:BitVec 64) (c:UInt8)=>(n <<< 8) ||| BitVec.ofNat 64 c.toNat) (BitVec.ofNat 64 n))=BitVec.ofNat 64 (l.foldl (fun n c=>n*256+c.toNat) n):=by
  intro l
  induction l with
  | nil=>intro n;rfl
  | cons c r ih =>
   intro n
   simp only [List.foldl_cons]
   rw [←ih]
   congr 1
   have hc:=c.toNat_lt
   apply BitVec.eq_of_toNat_eq
   have hd:BitVec.ofNat 64 n <<< 8 &&& BitVec.ofNat 64 c.toNat=0#64:=by
    apply BitVec.eq_of_getLsbD_eq
    intro i hi
    simp only [BitVec.getLsbD_and,BitVec.getLsbD_shiftLeft,BitVec.getLsbD_ofNat]
    by_cases h8:i<8
    ·simp [h8]
    ·have:c.toNat.testBit i=false:=Nat.testBit_lt_two_pow (Nat.lt_of_lt_of_le hc (Nat.pow_le_pow_right (by omega) (show 8 ≤ i by omega)))
     simp [this]
   rw [←BitVec.add_eq_or_of_and_eq_zero _ _ hd]
   simp only [BitVec.toNat_add,BitVec.toNat_shiftLeft,BitVec.toNat_ofNat,Nat.shiftLeft_eq]
   omega
 have:=key l 0
 unfold num Dw
 rw [show (0:BitVec 64)=BitVec.ofNat 64 0 from rfl,this]
 simp
theorem EL {l:List UInt8} (h:l.length ≤ 8):(num l).toNat=Dw l:=by
 rw [YH]
 apply Nat.mod_eq_of_lt
 have h1:=Jg l
 have h2:256 ^ l.length ≤ 256 ^ 8:=Nat.pow_le_pow_right (by omega) h
 have:(256:Nat) ^ 8=2 ^ 64:=by decide
 omega
theorem TZ (n:Nat) (x:BitVec 64):be (n+1) x=pJ x n :: be n x:=by
 unfold be
 rw [List.range_succ_eq_map,List.map_cons,List.map_map]
 congr 1
 apply List.map_congr_left
 intro i _
 simp only [Function.comp]
 congr 1
 omega
theorem RZ (x:BitVec 64) (k:Nat):(pJ x k).toNat=x.toNat / 256 ^ k % 256:=by
 unfold pJ
 rw [UInt8.toNat_ofNat',BitVec.toNat_ushiftRight,Nat.shiftRight_eq_div_pow,Nat.pow_mul]
theorem Tu (x:BitVec 64):∀ n:Nat,Dw (be n x)=x.toNat % 256 ^ n
 | 0=>by simp [be,Dw,Nat.mod_one]
 | n+1=>by
  rw [TZ,KJ,Tu x n,Az,RZ,Nat.pow_succ,Nat.mod_mul]
  rw [Nat.mul_comm,Nat.add_comm]
theorem NJ {n:Nat} (hn:n ≤ 8) (x:BitVec 64) (hx:x.toNat<256 ^ n):(num (be n x)).toNat=x.toNat:=by
 rw [EL (by rw [Az];exact hn),Tu,Nat.mod_eq_of_lt hx]
theorem Tt (x:BitVec 64):num (be 8 x)=x:=BitVec.eq_of_toNat_eq (NJ (by omega) x (Nat.lt_of_lt_of_le x.isLt (by decide)))
namespace AA
def ok (x:AA):Prop:=x.stamp ≠ 0#64∧x.at'<65536∧x.of'<65536∧x.bytes.length ≤ 480
theorem Hy (x:AA) (h:x.bytes.length ≤ 480):x.page.take 8=be 8 x.stamp∧(x.page.drop 8).take 2=be 2 (BitVec.ofNat 64 x.at')∧(x.page.drop 10).take 2=be 2 (BitVec.ofNat 64 x.of') ∧
  (x.page.drop 12).take 4=be 4 (BitVec.ofNat 64 x.bytes.length)∧(x.page.drop 16).take x.bytes.length=x.bytes∧x.page.drop 504=be 8 x.stamp:=by
 have h8:=Az 8 x.stamp
 have h2:=Az 2 (BitVec.ofNat 64 x.at')
 have h2':=Az 2 (BitVec.ofNat 64 x.of')
 have h4:=Az 4 (BitVec.ofNat 64 x.bytes.length)
 have hs:=Kt h
 have hr:(be 8 (Qk x.said)).reverse.length=8:=by simp [Az]
 have key:∀ (a b c:List UInt8) (n m:Nat),a.length=n→b.length=m→((a++(b++c)).drop n).take m=b:=by
  intro a b c n m ha hb
  rw [List.drop_left' ha,List.take_left' hb]
 have hp:x.page=be 8 x.stamp++(be 2 (BitVec.ofNat 64 x.at')++(be 2 (BitVec.ofNat 64 x.of')++(be 4 (BitVec.ofNat 64 x.bytes.length)++(x.bytes++(List.replicate (480 - x.bytes.length) 0++((be 8 (Qk x.said)).reverse++be 8 x.stamp)))))):=by
  simp only [page,said,List.append_assoc]
 refine ⟨?_, ?_, ?_, ?_, ?_, ?_⟩
 ·rw [hp,List.take_left' h8]
 ·rw [hp];exact key _ _ _ _ _ h8 h2
 ·rw [hp, ←List.append_assoc];exact key _ _ _ _ _ (by simp [Az]) h2'
 ·rw [hp, ←List.append_assoc, ←List.append_assoc];exact key _ _ _ _ _ (by simp [Az]) h4
 ·rw [hp, ←List.append_assoc, ←List.append_assoc, ←List.append_assoc];exact key _ _ _ _ _ (by simp [Az]) rfl
 ·unfold page;rw [List.drop_left' (by simp [Az,hs])]
theorem Vr {x:AA} (h:x.ok):GY x.page=x:=by
 obtain ⟨h0,h1,h2,h3⟩:=h
 obtain ⟨e1,e2,e3,e4,e5,_⟩:=Hy x h3
 have n2:(num (be 2 (BitVec.ofNat 64 x.at'))).toNat=x.at':=by
  have:(BitVec.ofNat 64 x.at').toNat=x.at':=by simp;omega
  rw [NJ (by omega) _ (by rw [this];omega),this]
 have n3:(num (be 2 (BitVec.ofNat 64 x.of'))).toNat=x.of':=by
  have:(BitVec.ofNat 64 x.of').toNat=x.of':=by simp;omega
  rw [NJ (by omega) _ (by rw [this];omega),this]
 have n4:(num (be 4 (BitVec.ofNat 64 x.bytes.length))).toNat=x.bytes.length:=by
  have:(BitVec.ofNat 64 x.bytes.length).toNat=x.bytes.length:=by simp;omega
  rw [NJ (by omega) _ (by rw [this];omega),this]
 unfold GY
 rw [e1,e2,e3,e4,n2,n3,n4,e5,Tt]
theorem Hq {x:AA} (h:x.ok):CE x.page=(x,true):=by
 have hl:=Vr h
 obtain ⟨h0,h1,h2,h3⟩:=h
 obtain ⟨e1,e2,e3,e4,e5,_⟩:=Hy x h3
 have n4:(num (be 4 (BitVec.ofNat 64 x.bytes.length))).toNat=x.bytes.length:=by
  have:(BitVec.ofNat 64 x.bytes.length).toNat=x.bytes.length:=by simp;omega
  rw [NJ (by omega) _ (by rw [this];omega),this]
 unfold CE
 rw [e1,e4,n4,Tt,if_neg (by simp only [not_or];exact ⟨h0,by omega⟩),hl]
 simp
end AA
theorem Lp {p:List UInt8} (h:(CE p).2=true):CE p=(GY p,true)∧(GY p).page=p∧(num ((p.drop 12).take 4)).toNat ≤ 480∧num (p.take 8) ≠ 0#64:=by
 unfold CE at h ⊢
 split at h
 ·cases h
 ·rename_i hc
  rw [if_neg hc]
  simp only [not_or,Nat.not_lt] at hc
  have h':(GY p).page=p:=by simpa using h
  exact ⟨by rw [h'];simp,h',hc.2,hc.1⟩
theorem PU (p:List UInt8) (h:(num ((p.drop 12).take 4)).toNat ≤ 480):(GY p).bytes.length ≤ 480:=by
 simp only [GY,List.length_take];omega
def Act.puts (a:Act):List Nat→List Value→Act
 | d :: ds,u :: us=>Act.puts (a.put (some d) u) ds us
 | _,_=>a
theorem dI (a:Act) (d:Nat) (u v:Value):(a.put (some d) u).put (some d) v=a.put (some d) v:=by
 simp [Act.put]
theorem aC (a:Act) (d e:Nat) (u v:Value) (h:d ≠ e):(a.put (some d) u).put (some e) v=(a.put (some e) v).put (some d) u:=by
 simp only [Act.put]
 rw [Array.setIfInBounds_comm _ _ h]
theorem UR:∀ (ds:List Nat) (us:List Value) (a:Act) (d:Nat) (v:Value),d ∉ ds→(Act.puts a ds us).put (some d) v=Act.puts (a.put (some d) v) ds us
 | [],_,_,_,_,_=>rfl
 | _ :: _,[],_,_,_,_=>rfl
 | e :: ds,u :: us,a,d,v,h=>by
  simp only [List.mem_cons,not_or] at h
  simp only [Act.puts]
  rw [UR ds us _ d v h.2,aC _ _ _ _ _ (Ne.symm h.1)]
theorem UQ:∀ (ds:List Nat) (us:List Value) (a:Act) (k d:Nat) (v:Value),ds.Nodup→ds[k]?=some d→ds.length=us.length→Act.puts a ds (us.set k v)=(Act.puts a ds us).put (some d) v
 | [],_,_,_,_,_,_,h,_=>by simp at h
 | _ :: _,[],_,_,_,_,_,_,h=>by simp at h
 | e :: ds,u :: us,a,0,d,v,hn,h,hl=>by
  simp only [List.getElem?_cons_zero,Option.some.injEq] at h
  subst h
  simp only [DL,Act.puts]
  rw [UR ds us _ _ _ (List.nodup_cons.1 hn).1,dI]
 | e :: ds,u :: us,a,k+1,d,v,hn,h,hl=>by
  simp only [lss,Act.puts]
  exact UQ ds us _ k d v (List.nodup_cons.1 hn).2 (by simpa using h) (by simpa using hl)
def CS (l:Array Bool):List Nat→List Bool→Array Bool
 | i :: is,b :: s=>CS (if b then l.setIfInBounds i true else l) is s
 | _,_=>l
theorem ZP (l:Array Bool) (i j:Nat):(l.setIfInBounds i true).setIfInBounds j true=(l.setIfInBounds j true).setIfInBounds i true:=by
 by_cases h:i=j
 ·subst h;rfl
 ·rw [Array.setIfInBounds_comm _ _ h]
theorem GI:∀ (is:List Nat) (s:List Bool) (l:Array Bool) (i:Nat),CS (l.setIfInBounds i true) is s=(CS l is s).setIfInBounds i true
 | [],_,_,_=>rfl
 | _ :: _,[],_,_=>rfl
 | j :: is,b :: s,l,i=>by
  simp only [CS]
  cases b
  ·simp only [Bool.false_eq_true,if_false];exact GI is s l i
  ·simp only [if_true];rw [ZP,GI is s _ i]
theorem MQ:∀ (is:List Nat) (s:List Bool) (l:Array Bool) (k i:Nat),is[k]?=some i→is.length=s.length→s[k]?=some false→CS l is (s.set k true)=(CS l is s).setIfInBounds i true
 | [],_,_,_,_,h,_,_=>by simp at h
 | _ :: _,[],_,_,_,_,h,_=>by simp at h
 | j :: is,b :: s,l,0,i,h,hl,hb=>by
  simp only [List.getElem?_cons_zero,Option.some.injEq] at h hb
  subst h;subst hb
  simp only [DL,CS,if_true,Bool.false_eq_true,if_false]
  exact GI is s l _
 | j :: is,b :: s,l,k+1,i,h,hl,hb=>by
  simp only [lss,CS]
  exact MQ is s _ k i (by simpa using h) (by simpa using hl) (by simpa using hb)
theorem Ld:∀ (is:List Nat) (s:List Bool) (l:Array Bool) (k i:Nat),is[k]?=some i→s[k]?=some true→(CS l is s).getD i true=true
 | [],_,_,_,_,h,_=>by simp at h
 | _ :: _,[],_,_,_,_,h=>by simp at h
 | j :: is,b :: s,l,0,i,h,hb=>by
  simp only [List.getElem?_cons_zero,Option.some.injEq] at h hb
  subst h;subst hb
  simp only [CS,if_true]
  rw [GI]
  by_cases hx:j<(CS l is s).size
  ·simp [hx]
  ·rw [Array.getD_eq_getD_getElem?,Array.getElem?_eq_none (by simpa using hx)];rfl
 | j :: is,b :: s,l,k+1,i,h,hb=>by
  simp only [CS]
  exact Ld is s _ k i (by simpa using h) (by simpa using hb)
theorem Kr:∀ (is:List Nat) (s:List Bool) (l:Array Bool) (k i:Nat),is.Nodup→is[k]?=some i→s[k]?=some false→l.getD i false=false→(CS l is s).getD i false=false
 | [],_,_,_,_,_,h,_,_=>by simp at h
 | _ :: _,[],_,_,_,_,_,h,_=>by simp at h
 | j :: is,b :: s,l,0,i,hn,h,hb,hf=>by
  simp only [List.getElem?_cons_zero,Option.some.injEq] at h hb
  subst h;subst hb
  simp only [CS,Bool.false_eq_true,if_false]
  have hni:=(List.nodup_cons.1 hn).1
  clear hn
  induction is generalizing s l with
  | nil=>exact hf
  | cons q is ih =>
   cases s with
   | nil=>exact hf
   | cons c s =>
    simp only [List.mem_cons,not_or] at hni
    simp only [CS]
    refine ih s _ ?_ hni.2
    split
    ·rw [getD_set_ne false (Ne.symm hni.1)];exact hf
    ·exact hf
 | j :: is,b :: s,l,k+1,i,hn,h,hb,hf=>by
  simp only [CS]
  have hn':=List.nodup_cons.1 hn
  have hne:j ≠ i:=by
   rintro rfl
   exact hn'.1 (List.mem_of_getElem? (by simpa using h))
  refine Kr is s _ k i hn'.2 (by simpa using h) (by simpa using hb) ?_
  split
  ·rw [getD_set_ne false hne];exact hf
  ·exact hf
def Gw:Nat→List (List Bool)
 | 0=>[[]]
 | n+1=>(Gw n).map (true :: ·)++(Gw n).map (false :: ·)
theorem La:∀ (n:Nat) (s:List Bool),s.length=n→s ∈ Gw n
 | 0,s,h=>by rw [List.eq_nil_of_length_eq_zero h];simp [Gw]
 | n+1,[],h=>by simp at h
 | n+1,b :: s,h=>by
  have:=La n s (by simpa using h)
  cases b <;> simp [Gw,this]
section
variable {P:Program} {ops:Array Oper} {Q:Exit→Act→World→Prop} {md:Region.Mode} {S:World→Prop} {need:Nat→Bool}
def Aay (md:Region.Mode) (ops:Array Oper) (l:Array Bool) (idx:List Nat) (AcB:List Nat):Bool:=
 (idx.length == AcB.length) && decide idx.Nodup && decide AcB.Nodup && (idx.all fun i => !l.getD i false) && ((idx.zip AcB).all fun x=>match ops[x.1]? with | some o=>o.dst == some x.2 | none=>false) &&
 (Gw idx.length).all fun s=>s.all (fun b=>b) || (let rd:=Region.ready md ops (CS l idx s); !rd.isEmpty && rd.all (fun i=>idx.contains i))
def JF (md:Region.Mode) (ops:Array Oper) (i j:Nat):Bool:=match ops[i]? with
 | some o=>o.after.any fun e=>Region.binds md e && e.on == j
 | none=>false
theorem LY {i:Nat} {oi:Oper} {a:Act} {w:World} {K:Act→World→Prop} (hi:ops[i]?=some oi) (h:wpList P ops (Exit.then K Q) [oi] a w):wpOp P ops Q i K a w:=by
 unfold wpOp
 simp only [hi]
 unfold wpList at h
 split
 ·rename_i hw
  rw [if_pos hw] at h
  rcases h with h | ⟨ha,a',w',hQ⟩
  ·left
   unfold Oper.wp at *
   generalize (execOp a.eval oi).run P w=r at *
   cases r with
   | ok n w' =>
    cases n <;> simp only [Oper.upon] at h ⊢
    case value u=>exact h
    case skip=>exact h
    case defer d=>exact h
    case enter f args =>
     refine Calls.mono h fun e w'' he => ?_
     cases e with
     | returned u=>exact he
     | panicked c=>exact he
     | outgrown=>obtain ⟨a1,w1,h1⟩:=he;exact ⟨a1,w1,h1⟩
    case row row args=>exact Rows.mono h fun u w'' he=>he
   | halt x w' =>
    cases x <;> simp only [Oper.upon] at h ⊢
    case panic u=>exact h
  ·exact .inr ⟨ha,a',w',hQ⟩
 ·rename_i hw
  rw [if_neg hw] at h
  exact h
theorem RV:∀ (s:List Bool) (k:Nat),s[k]?=some false→(s.set k true).count false+1=s.count false
 | [],_,h=>by simp at h
 | b :: s,0,h=>by
  simp only [List.getElem?_cons_zero,Option.some.injEq] at h
  subst h;simp
 | b :: s,k+1,h=>by
  have:=RV s k (by simpa using h)
  simp only [lss,List.count_cons]
  omega
theorem Nu:∀ (s:List Bool),s.count false=0→s=List.replicate s.length true
 | [],_=>rfl
 | b :: s,h=>by
  simp only [List.count_cons] at h
  have:=Nu s (by omega)
  cases b
  ·simp at h
  ·simp only [List.length_cons,List.replicate_succ];rw [←this]
theorem Wy (idx AcB:List Nat) (T:Nat→Prop) (J:List Bool→World→Own→Prop) (R:Nat→Value→World→Own→Prop) {fuel:Nat} {listed:Array Bool} {a:Act} {w:World} {o:Own}
  (hok:Aay md ops listed idx AcB=true)
  (hR:∀ k u w o w' o',R k u w o→Step T w o w' o'→R k u w' o')
  (wC:List Value) (wH:wC.length=idx.length) (ha:Act.puts a AcB wC=a)
  (h0:J (List.replicate idx.length false) w o)
  (hstep:∀ (k i:Nat) (op:Oper),idx[k]?=some i→ops[i]?=some op→∀ (s:List Bool) (us:List Value) (w:World) (o:Own),s.length=idx.length→us.length=idx.length→s[k]?=some false →
   (∀ (j i':Nat),idx[j]?=some i'→JF md ops i i'=true→s[j]?=some true)→J s w o→(∀ j:Nat,s[j]?=some true→R j (us.getD j undef) w o) →
   wpList P ops (Exit.then (fun a' w'=>∃ v o',a'=(Act.puts a AcB us).put op.dst v∧Step T w o w' o'∧J (s.set k true) w' o'∧R k v w' o'∧(need i=true→S w')) Q) [op] (Act.puts a AcB us) w)
  (hend:∀ (us:List Value) (w:World) (o:Own),us.length=idx.length→J (List.replicate idx.length true) w o→(∀ j:Nat,j<idx.length→R j (us.getD j undef) w o) →
   Dq P md ops Q S need fuel (CS listed idx (List.replicate idx.length true)) (Act.puts a AcB us) w) :
  Dq P md ops Q S need (fuel+idx.length) listed a w:=by
 simp only [Aay,Bool.and_eq_true,beq_iff_eq,decide_eq_true_eq] at hok
 obtain ⟨⟨⟨⟨⟨hl,hni⟩,hnd⟩,hfr⟩,hdst⟩,hsub⟩:=hok
 have key:∀ (c:Nat) (s:List Bool) (us:List Value) (w:World) (o:Own),s.count false=c→s.length=idx.length→us.length=idx.length→J s w o→(∀ j:Nat,s[j]?=some true→R j (us.getD j undef) w o) →
   Dq P md ops Q S need (fuel+c) (CS listed idx s) (Act.puts a AcB us) w:=by
  intro c
  induction c with
  | zero =>
   intro s us w o hc hs hu hJ hr
   have:=Nu s hc
   rw [hs] at this
   subst this
   refine hend us w o hu hJ fun j hj=>hr j ?_
   rw [List.getElem?_replicate,if_pos hj]
  | succ c ih =>
   intro s us w o hc hs hu hJ hr
   have hsm:=List.all_eq_true.1 hsub s (La _ s hs)
   have zS:(s.all fun b=>b)=false:=by
    cases hq:(s.all fun b=>b)
    ·rfl
    ·exfalso
     have:∀ b ∈ s,b=true:=by simpa using hq
     have h2:s.count false=0:=List.count_eq_zero.2 fun hm=>by have:=this _ hm;cases this
     omega
   rw [zS] at hsm
   simp only [Bool.false_or,Bool.and_eq_true,Bool.not_eq_true',List.isEmpty_eq_false_iff] at hsm
   rw [←Nat.add_assoc]
   refine ⟨fun h=>absurd h hsm.1,fun i hi => ?_⟩
   have hc1:=List.all_eq_true.1 hsm.2 i hi
   have hmem:i ∈ idx:=by simpa using hc1
   obtain ⟨k,hk⟩:=List.mem_iff_getElem?.1 hmem
   have hkl:k<idx.length:=(List.getElem?_eq_some_iff.1 hk).1
   obtain ⟨hun,op,hop,hall⟩:=mem_ready.1 hi
   have hsk:s[k]?=some false:=by
    cases hb:s[k]? with
    | none=>rw [List.getElem?_eq_none_iff] at hb;omega
    | some b =>
     cases b
     ·rfl
     ·have:=Ld idx s listed k i hk hb
      rw [hun] at this;cases this
   have hdk:∃ d,AcB[k]?=some d∧op.dst=some d:=by
    obtain ⟨d,hd⟩:∃ d,AcB[k]?=some d:=⟨_,List.getElem?_eq_getElem (by omega)⟩
    refine ⟨d,hd, ?_⟩
    have:(i,d) ∈ idx.zip AcB:=List.mem_iff_getElem?.2 ⟨k,by rw [List.getElem?_zip_eq_some];exact ⟨hk,hd⟩⟩
    have:=List.all_eq_true.1 hdst _ this
    simp only [hop,beq_iff_eq] at this
    exact this
   obtain ⟨d,hd,Abv⟩:=hdk
   have rX:∀ (j i':Nat),idx[j]?=some i'→JF md ops i i'=true→s[j]?=some true:=fun j i' hj hdp=>by
    simp only [JF,hop] at hdp
    obtain ⟨e,he,hb⟩:=Array.any_eq_true'.1 hdp
    simp only [Bool.and_eq_true,beq_iff_eq] at hb
    have h1:=hall e he hb.1
    rw [hb.2] at h1
    have hjl:j<idx.length:=(List.getElem?_eq_some_iff.1 hj).1
    cases hb2:s[j]? with
    | none=>rw [List.getElem?_eq_none_iff] at hb2;omega
    | some b =>
     cases b
     ·have hf:=List.all_eq_true.1 hfr i' (List.mem_of_getElem? hj)
      have:=Kr idx s listed j i' hni hj hb2 (by simpa using hf)
      rw [h1] at this;cases this
     ·rfl
   refine wpOp_mono ?_ (LY hop (hstep k i op hk hop s us w o hs hu hsk rX hJ hr))
   rintro a' w' ⟨v,o',rfl,hst,hJ',hRk,hS⟩
   refine ⟨hS, ?_⟩
   rw [Abv, ←UQ AcB us a k d v hnd hd (by omega), ←MQ idx s listed k i hk (by omega) hsk]
   refine ih (s.set k true) (us.set k v) w' o' (by have:=RV s k hsk;omega) (by simpa using hs) (by simpa using hu) hJ' fun j hj => ?_
   by_cases hjk:k=j
   ·subst hjk
    rw [List.getD_eq_getElem?_getD,List.getElem?_set_self (by omega)]
    exact hRk
   ·rw [List.getElem?_set_ne hjk] at hj
    rw [List.getD_eq_getElem?_getD,List.getElem?_set_ne hjk, ←List.getD_eq_getElem?_getD]
    exact hR j _ _ _ _ _ (hr j hj) hst
 have h1:=key idx.length (List.replicate idx.length false) wC w o (by simp) (by simp) wH h0 (fun j hj=>by rw [List.getElem?_replicate] at hj;split at hj <;> cases hj)
 have h2:∀ (is:List Nat) (l:Array Bool) (n:Nat),CS l is (List.replicate n false)=l:=by
  intro is
  induction is with
  | nil=>intros;rfl
  | cons i is ih =>
   intro l n
   cases n with
   | zero=>rfl
   | succ n=>simp only [List.replicate_succ,CS,Bool.false_eq_true,if_false];exact ih l n
 rw [h2,ha] at h1
 exact h1
def Su:List (Nat × Oper)→Nat→(Nat→Nat→Oper→Prop)→Prop
 | [],_,_=>True
 | (i,op) :: r,k,F=>F k i op∧Su r (k+1) F
theorem Pn:∀ (l:List (Nat × Oper)) (k0:Nat) (F:Nat→Nat→Oper→Prop),Su l k0 F→∀ (k i:Nat) (op:Oper),l[k]?=some (i,op)→F (k0+k) i op
 | [],_,_,_,_,_,_,h=>by simp at h
 | (j,q) :: r,k0,F,h,0,i,op,hk=>by
  simp only [List.getElem?_cons_zero,Option.some.injEq,Prod.mk.injEq] at hk
  obtain ⟨rfl,rfl⟩:=hk
  exact h.1
 | (j,q) :: r,k0,F,h,k+1,i,op,hk=>by
  have:=Pn r (k0+1) F h.2 k i op (by simpa using hk)
  rwa [show k0+1+k=k0+(k+1) from by omega] at this
theorem Oc (idx AcB:List Nat) (opl:List Oper) (T:Nat→Prop) (J:List Bool→World→Own→Prop) (R:Nat→Value→World→Own→Prop) {fuel:Nat} {listed:Array Bool} {a:Act} {w:World} {o:Own}
  (Abu:(idx.map fun i=>(ops.toList.drop i).head?)=opl.map some)
  (hok:Aay md ops listed idx AcB=true)
  (hR:∀ k u w o w' o',R k u w o→Step T w o w' o'→R k u w' o')
  (wC:List Value) (wH:wC.length=idx.length) (ha:Act.puts a AcB wC=a)
  (h0:J (List.replicate idx.length false) w o)
  (hstep:Su (idx.zip opl) 0 fun k i op=>∀ (s:List Bool) (us:List Value) (w:World) (o:Own),s.length=idx.length→us.length=idx.length→s[k]?=some false →
   (∀ (j i':Nat),idx[j]?=some i'→JF md ops i i'=true→s[j]?=some true)→J s w o→(∀ j:Nat,s[j]?=some true→R j (us.getD j undef) w o) →
   wpList P ops (Exit.then (fun a' w'=>∃ v o',a'=(Act.puts a AcB us).put op.dst v∧Step T w o w' o'∧J (s.set k true) w' o'∧R k v w' o'∧(need i=true→S w')) Q) [op] (Act.puts a AcB us) w)
  (hend:∀ (us:List Value) (w:World) (o:Own),us.length=idx.length→J (List.replicate idx.length true) w o→(∀ j:Nat,j<idx.length→R j (us.getD j undef) w o) →
   Dq P md ops Q S need fuel (CS listed idx (List.replicate idx.length true)) (Act.puts a AcB us) w) :
  Dq P md ops Q S need (fuel+idx.length) listed a w:=by
 refine Wy idx AcB T J R hok hR wC wH ha h0 (fun k i op hk hop => ?_) hend
 have h1:=congrArg (·[k]?) Abu
 simp only [List.getElem?_map,hk,Option.map_some] at h1
 have h2:(ops.toList.drop i).head?=some op:=by rw [List.head?_drop];simpa using hop
 rw [h2] at h1
 have h3:opl[k]?=some op:=by
  cases hq:opl[k]? with
  | none=>rw [hq] at h1;cases h1
  | some q=>rw [hq] at h1;simp only [Option.map_some,Option.some.injEq] at h1;rw [h1]
 have h4:=Pn _ _ _ hstep k i op (by rw [List.getElem?_zip_eq_some];exact ⟨hk,h3⟩)
 rw [Nat.zero_add] at h4
 exact h4
end
def m3:BitVec 64:=71777214294589695#64
def m4:BitVec 64:=281470681808895#64
def Df (x:BitVec 64):BitVec 64:=((x >>> 8) &&& m3) ||| ((x &&& m3) <<< 8)
def Dc (x:BitVec 64):BitVec 64:=((x >>> 16) &&& m4) ||| ((x &&& m4) <<< 16)
def CZ (x:BitVec 64):BitVec 64:=(x >>> 32) ||| (x <<< 32)
def BH (x:BitVec 64):BitVec 64:=CZ (Dc (Df x))
theorem ZO (y:BitVec 64):(y.toNat:Int) / (256:Int)=((y >>> 8).toNat:Int):=by rw [BitVec.toNat_ushiftRight,Nat.shiftRight_eq_div_pow];simp
theorem Yp (y:BitVec 64):(y.toNat:Int) / (65536:Int)=((y >>> 16).toNat:Int):=by rw [BitVec.toNat_ushiftRight,Nat.shiftRight_eq_div_pow];simp
theorem Yo (y:BitVec 64):(y.toNat:Int) / (4294967296:Int)=((y >>> 32).toNat:Int):=by rw [BitVec.toNat_ushiftRight,Nat.shiftRight_eq_div_pow];simp
theorem Wv (x:BitVec 64):IntKind.u64.wrap ((x.toNat:Int)*65536)=((x <<< 16).toNat:Int):=by
 rw [BitVec.toNat_shiftLeft,Nat.shiftLeft_eq]
 simp [IntKind.wrap,IntKind.bits,IntKind.signed]
theorem Wu (x:BitVec 64):IntKind.u64.wrap ((x.toNat:Int)*4294967296)=((x <<< 32).toNat:Int):=by
 rw [BitVec.toNat_shiftLeft,Nat.shiftLeft_eq]
 simp [IntKind.wrap,IntKind.bits,IntKind.signed]
theorem bU (x:BitVec 64):bits .and .u64 (x.toNat:Int) 71777214294589695=((x &&& m3).toNat:Int):=Ns x m3
theorem bT (x:BitVec 64):bits .and .u64 (x.toNat:Int) 281470681808895=((x &&& m4).toNat:Int):=Ns x m4
theorem ZZ (x:BitVec 64):bits .or .u64 (bits .and .u64 ((x.toNat:Int) / (256:Int)) 71777214294589695) (IntKind.u64.wrap (bits .and .u64 (x.toNat:Int) 71777214294589695*256))=((Df x).toNat:Int):=by
 rw [ZO,bU,bU,NC,Nr];rfl
theorem ZY (x:BitVec 64):bits .or .u64 (bits .and .u64 ((x.toNat:Int) / (65536:Int)) 281470681808895) (IntKind.u64.wrap (bits .and .u64 (x.toNat:Int) 281470681808895*65536))=((Dc x).toNat:Int):=by
 rw [Yp,bT,bT,Wv,Nr];rfl
theorem ZX (x:BitVec 64):bits .or .u64 ((x.toNat:Int) / (4294967296:Int)) (IntKind.u64.wrap ((x.toNat:Int)*4294967296))=((CZ x).toNat:Int):=by
 rw [Yo,Wu,Nr];rfl
theorem Yx (w:World) (x:BitVec 64):Calls prog 253 #[.int .u64 (x.toNat:Int)] w fun e w'=>e = .returned (.int .u64 ((BH x).toNat:Int))∧w=w':=by
 go_enter func253,ntmps253
 go_wp2_with fail
 rw [ZZ,ZY,ZX]
 go_ret
 exact ⟨rfl,rfl⟩
theorem Yw (x:BitVec 64):∀ i:Nat,i<64→(BH x).getLsbD i=x.getLsbD (8*(7 - i / 8)+i % 8)
 | 0,_=>by show _=x.getLsbD 56;simp [BH,CZ,Dc,Df,m3,m4]
 | 1,_=>by show _=x.getLsbD 57;simp [BH,CZ,Dc,Df,m3,m4]
 | 2,_=>by show _=x.getLsbD 58;simp [BH,CZ,Dc,Df,m3,m4]
 | 3,_=>by show _=x.getLsbD 59;simp [BH,CZ,Dc,Df,m3,m4]
 | 4,_=>by show _=x.getLsbD 60;simp [BH,CZ,Dc,Df,m3,m4]
 | 5,_=>by show _=x.getLsbD 61;simp [BH,CZ,Dc,Df,m3,m4]
 | 6,_=>by show _=x.getLsbD 62;simp [BH,CZ,Dc,Df,m3,m4]
 | 7,_=>by show _=x.getLsbD 63;simp [BH,CZ,Dc,Df,m3,m4]
 | 8,_=>by show _=x.getLsbD 48;simp [BH,CZ,Dc,Df,m3,m4]
 | 9,_=>by show _=x.getLsbD 49;simp [BH,CZ,Dc,Df,m3,m4]
 | 10,_=>by show _=x.getLsbD 50;simp [BH,CZ,Dc,Df,m3,m4]
 | 11,_=>by show _=x.getLsbD 51;simp [BH,CZ,Dc,Df,m3,m4]
 | 12,_=>by show _=x.getLsbD 52;simp [BH,CZ,Dc,Df,m3,m4]
 | 13,_=>by show _=x.getLsbD 53;simp [BH,CZ,Dc,Df,m3,m4]
 | 14,_=>by show _=x.getLsbD 54;simp [BH,CZ,Dc,Df,m3,m4]
 | 15,_=>by show _=x.getLsbD 55;simp [BH,CZ,Dc,Df,m3,m4]
 | 16,_=>by show _=x.getLsbD 40;simp [BH,CZ,Dc,Df,m3,m4]
 | 17,_=>by show _=x.getLsbD 41;simp [BH,CZ,Dc,Df,m3,m4]
 | 18,_=>by show _=x.getLsbD 42;simp [BH,CZ,Dc,Df,m3,m4]
 | 19,_=>by show _=x.getLsbD 43;simp [BH,CZ,Dc,Df,m3,m4]
 | 20,_=>by show _=x.getLsbD 44;simp [BH,CZ,Dc,Df,m3,m4]
 | 21,_=>by show _=x.getLsbD 45;simp [BH,CZ,Dc,Df,m3,m4]
 | 22,_=>by show _=x.getLsbD 46;simp [BH,CZ,Dc,Df,m3,m4]
 | 23,_=>by show _=x.getLsbD 47;simp [BH,CZ,Dc,Df,m3,m4]
 | 24,_=>by show _=x.getLsbD 32;simp [BH,CZ,Dc,Df,m3,m4]
 | 25,_=>by show _=x.getLsbD 33;simp [BH,CZ,Dc,Df,m3,m4]
 | 26,_=>by show _=x.getLsbD 34;simp [BH,CZ,Dc,Df,m3,m4]
 | 27,_=>by show _=x.getLsbD 35;simp [BH,CZ,Dc,Df,m3,m4]
 | 28,_=>by show _=x.getLsbD 36;simp [BH,CZ,Dc,Df,m3,m4]
 | 29,_=>by show _=x.getLsbD 37;simp [BH,CZ,Dc,Df,m3,m4]
 | 30,_=>by show _=x.getLsbD 38;simp [BH,CZ,Dc,Df,m3,m4]
 | 31,_=>by show _=x.getLsbD 39;simp [BH,CZ,Dc,Df,m3,m4]
 | 32,_=>by show _=x.getLsbD 24;simp [BH,CZ,Dc,Df,m3,m4]
 | 33,_=>by show _=x.getLsbD 25;simp [BH,CZ,Dc,Df,m3,m4]
 | 34,_=>by show _=x.getLsbD 26;simp [BH,CZ,Dc,Df,m3,m4]
 | 35,_=>by show _=x.getLsbD 27;simp [BH,CZ,Dc,Df,m3,m4]
 | 36,_=>by show _=x.getLsbD 28;simp [BH,CZ,Dc,Df,m3,m4]
 | 37,_=>by show _=x.getLsbD 29;simp [BH,CZ,Dc,Df,m3,m4]
 | 38,_=>by show _=x.getLsbD 30;simp [BH,CZ,Dc,Df,m3,m4]
 | 39,_=>by show _=x.getLsbD 31;simp [BH,CZ,Dc,Df,m3,m4]
 | 40,_=>by show _=x.getLsbD 16;simp [BH,CZ,Dc,Df,m3,m4]
 | 41,_=>by show _=x.getLsbD 17;simp [BH,CZ,Dc,Df,m3,m4]
 | 42,_=>by show _=x.getLsbD 18;simp [BH,CZ,Dc,Df,m3,m4]
 | 43,_=>by show _=x.getLsbD 19;simp [BH,CZ,Dc,Df,m3,m4]
 | 44,_=>by show _=x.getLsbD 20;simp [BH,CZ,Dc,Df,m3,m4]
 | 45,_=>by show _=x.getLsbD 21;simp [BH,CZ,Dc,Df,m3,m4]
 | 46,_=>by show _=x.getLsbD 22;simp [BH,CZ,Dc,Df,m3,m4]
 | 47,_=>by show _=x.getLsbD 23;simp [BH,CZ,Dc,Df,m3,m4]
 | 48,_=>by show _=x.getLsbD 8;simp [BH,CZ,Dc,Df,m3,m4]
 | 49,_=>by show _=x.getLsbD 9;simp [BH,CZ,Dc,Df,m3,m4]
 | 50,_=>by show _=x.getLsbD 10;simp [BH,CZ,Dc,Df,m3,m4]
 | 51,_=>by show _=x.getLsbD 11;simp [BH,CZ,Dc,Df,m3,m4]
 | 52,_=>by show _=x.getLsbD 12;simp [BH,CZ,Dc,Df,m3,m4]
 | 53,_=>by show _=x.getLsbD 13;simp [BH,CZ,Dc,Df,m3,m4]
 | 54,_=>by show _=x.getLsbD 14;simp [BH,CZ,Dc,Df,m3,m4]
 | 55,_=>by show _=x.getLsbD 15;simp [BH,CZ,Dc,Df,m3,m4]
 | 56,_=>by show _=x.getLsbD 0;simp [BH,CZ,Dc,Df,m3,m4]
 | 57,_=>by show _=x.getLsbD 1;simp [BH,CZ,Dc,Df,m3,m4]
 | 58,_=>by show _=x.getLsbD 2;simp [BH,CZ,Dc,Df,m3,m4]
 | 59,_=>by show _=x.getLsbD 3;simp [BH,CZ,Dc,Df,m3,m4]
 | 60,_=>by show _=x.getLsbD 4;simp [BH,CZ,Dc,Df,m3,m4]
 | 61,_=>by show _=x.getLsbD 5;simp [BH,CZ,Dc,Df,m3,m4]
 | 62,_=>by show _=x.getLsbD 6;simp [BH,CZ,Dc,Df,m3,m4]
 | 63,_=>by show _=x.getLsbD 7;simp [BH,CZ,Dc,Df,m3,m4]
 | n+64,h=>by omega
theorem XW (x:BitVec 64) (k j:Nat) (hj:j<8):(pJ x k).toNat.testBit j=x.getLsbD (8*k+j):=by
 rw [pJ,UInt8.toNat_ofNat']
 rw [Nat.testBit_mod_two_pow]
 simp only [hj,decide_true,Bool.true_and]
 rw [BitVec.toNat_ushiftRight,Nat.testBit_shiftRight]
 rfl
theorem Iw (x:BitVec 64) (k:Nat) (hk:k<8):pJ (BH x) k=pJ x (7 - k):=by
 apply UInt8.toNat_inj.1
 apply Nat.eq_of_testBit_eq
 intro j
 by_cases hj:j<8
 ·rw [XW _ _ _ hj,XW _ _ _ hj,Yw _ _ (by omega)]
  congr 1
  omega
 ·have h1:(pJ (BH x) k).toNat<2 ^ j:=Nat.lt_of_lt_of_le (UInt8.toNat_lt _) (Nat.pow_le_pow_right (by omega) (show 8 ≤ j by omega))
  have h2:(pJ x (7 - k)).toNat<2 ^ j:=Nat.lt_of_lt_of_le (UInt8.toNat_lt _) (Nat.pow_le_pow_right (by omega) (show 8 ≤ j by omega))
  rw [Nat.testBit_lt_two_pow h1,Nat.testBit_lt_two_pow h2]
theorem fV (x:BitVec 64):be 8 (BH x)=(be 8 x).reverse:=by
 have h:∀ y:BitVec 64,be 8 y=[pJ y 7,pJ y 6,pJ y 5,pJ y 4,pJ y 3,pJ y 2,pJ y 1,pJ y 0]:=fun y=>rfl
 rw [h,h,Iw x 7 (by omega),Iw x 6 (by omega),Iw x 5 (by omega),Iw x 4 (by omega),Iw x 3 (by omega),Iw x 2 (by omega),Iw x 1 (by omega),Iw x 0 (by omega)]
 rfl
theorem Bytes.part {w:World} {o:Own} {b off n c:Nat} {l:List UInt8} (h:Bytes w o (.slice (some ⟨b,off,none⟩) n c) l) (lo hi:Nat) (h1:lo ≤ hi) (h2:hi ≤ l.length) :
  Bytes w o (.slice (some ⟨b,off+lo,none⟩) (hi - lo) (c - lo)) ((l.drop lo).take (hi - lo)):=by
 have hlen:((l.drop lo).take (hi - lo)).length=hi - lo:=by simp;omega
 rcases h.cases with ⟨⟨a,c',hv⟩,rfl⟩ | ⟨b',off',cap,hv,hl,hm,ho,hb,hr⟩
 ·simp only [Value.slice.injEq] at hv
  simp only [List.length_nil,Nat.le_zero] at h2
  subst h2
  exact .inl ⟨⟨some ⟨b,off+lo,none⟩,c - lo,by rw [Nat.zero_sub]⟩,by simp,by simp⟩
 ·simp only [Value.slice.injEq,Option.some.injEq,Addr.mk.injEq] at hv
  obtain ⟨⟨rfl,rfl,_⟩,rfl,rfl⟩:=hv
  refine .inr ⟨b,off+lo,c - lo,by rw [hlen],by rw [hlen];omega,by omega,ho,hb, ?_⟩
  rw [←Ky, ←Np]
  exact ER hr lo (hi - lo)
theorem YY (n:Nat) (hn:n ≤ 1000000) (w:World):Calls prog 272 #[.slice none 0 0, .int .i64 (n:Int)] w fun e w'=>∃ v,e = .returned v∧w.grownBy w' none∧w'.ownsRow w.heap.size 5 1 v 0 (bvs []):=by
 by_cases h0:n=0
 ·subst h0
  go_enter func272,ntmps272
  go_wp2_with fail
  go_ret
  exact ⟨_,rfl,⟨rfl,rfl,rfl,Nat.le_refl _,fun _ _ _=>rfl⟩,World.ownsRow_nil _ _ _ _⟩
 ·obtain ⟨i,z,hq,hz,e2,e3,e4⟩:=TQ dW
  have hold:(Builtin.firstCells i.size 0 (.slice none 0 0)).run prog w.drew = .ok ([]:List Value).toArray w.drew:=run_firstCells_none w.drew i.size 0 0 0
  have hr:=Lib.run_append_grow_zeros (P:=prog) w 29 3 29 5 i z .i64 .i64 underlying29 underlying3 hq hz none 0 0 [] hold n (by omega) (by omega) (by omega) (by omega) (by rw [e3];omega)
   (by rw [e3];rw [nextslicecap_zero (by omega)];omega)
  rw [Nat.zero_add] at hr
  have hG:=grownCap_ge w n 0 5
  have hG2:=grownCap_le_maxLen w n 0 5 (by simp only [maxLen];omega)
  have hcur:(([]:List Value).toArray++Builtin.zeroCells z.cells n++Builtin.zeroCells z.cells (grownCap w n 0 5 - n)).size=grownCap w n 0 5*1:=by
   have:z.cells.size=1:=by rw [e4];rfl
   simp [Builtin.zeroCells,this];omega
  have hown:=World.ownsRow_made (e:=5) (size:=1) (base:=w.heap.size) w.drew _ _ (Nat.le_refl _) hG2 hcur
  have hgr:=World.grownBy_alloc w.drew (.cells (([]:List Value).toArray++Builtin.zeroCells z.cells n++Builtin.zeroCells z.cells (grownCap w n 0 5 - n)) 5) none
  generalize hGe:grownCap w n 0 5=G at *
  generalize hW:w.drew.alloc (.cells (([]:List Value).toArray++Builtin.zeroCells z.cells n++Builtin.zeroCells z.cells (G - n)) 5)=W at *
  have Aax:=hidden hr
  have hG3:(G:Int) ≤ 9223372036854775807:=by simp only [maxLen] at hG2;omega
  have hpos:0<(n:Int):=by omega
  clear hr hold hcur hGe hW hq hz e2 e3 e4 hG2
  go_enter func272,ntmps272
  go_wp2_with ((with_reducible apply Bl);exact Aax.out;simp only [Act.put,GL,DL,lss])
  go_ret
  exact ⟨_,rfl,⟨hgr.os,hgr.tape,hgr.output,hgr.size,hgr.block⟩,hown⟩
theorem CB {P:Program} (W:World) (t ty e:TypeId) (size:Nat) (hu:P.underlying t=some (.slice e)) (hs:(P.info? e).map (·.size)=some size) (a a':Option Addr) (n c c':Nat) (hn:n ≤ c) (hc:(n:Int) ≤ 9223372036854775807) :
  (Builtin.append_ #[t,t] ty #[.slice a n c, .slice a' 0 c']).run P W = .ok (.slice a n c) W:=by
 cases hi:P.info? e with
 | none=>simp [hi] at hs
 | some i =>
  have h63:¬ (9223372036854775807<(n:Int)):=by omega
  have hf:(Builtin.firstCells i.size 0 (.slice a' 0 c')).run P W = .ok #[] W:=by
   cases a' with
   | none=>exact run_firstCells_none W i.size 0 0 c'
   | some x=>exact run_firstCells_some W i.size 0 x 0 c' [] (by simp) (fun j v hj=>by simp at hj)
  cases a <;> simp [Builtin.append_,run_underlying hu,sizeOf,typeInfo,hi,Builtin.lenOf,hn,hf,storeCells]
def Ey (w:World) (o:Own) (vs:List Value) (ls:List (List UInt8)):Prop:=vs.length=ls.length∧∀ (i:Nat) v l,vs[i]?=some v→ls[i]?=some l→Bytes w o v l
theorem Ey.step {T:Nat→Prop} {w w':World} {o o':Own} {vs:List Value} {ls:List (List UInt8)} (h:Ey w o vs ls) (s:Step T w o w' o') (hT:¬ T 0):Ey w' o' vs ls:=
 ⟨h.1,fun i v l hv hl=>(h.2 i v l hv hl).step s hT⟩
theorem sH.cell {w:World} {o:Own} {a:Option Addr} {n c:Nat} {cs:List Value} (h:sH w o (.slice a n c) n cs) (i:Nat) {x:Value} (hx:cs[i]?=some x):∃ b off,a=some ⟨b,off,none⟩∧w.cell? ⟨b,off+i,none⟩=some x∧b<w.heap.size∧(o b).1=0:=by
 rcases h with ⟨_,_,rfl⟩ | ⟨b,off,cap,hv,hl,hm,ho,hb,hr⟩
 ·simp at hx
 ·simp only [Value.slice.injEq] at hv
  exact ⟨b,off,hv.1,hr i _ hx,hb,ho⟩
theorem Qn {w:World} {o:Own} {v:Value} {vs:List Value} {ls:List (List UInt8)} (hv:sH w o v vs.length vs) (hr:Ey w o vs ls) (htot:ls.flatten.length ≤ 1000000) (Aex:vs.length ≤ 1000000) :
  Calls prog 251 #[v] w (XL Nobody w o fun v w' o'=>Ew w w' o' v ls.flatten):=by
 obtain ⟨a,c,rfl⟩:=Aq hv
 have hln:∀ k,(ls.take k).flatten.length ≤ 1000000:=fun k=>by
  have:(ls.take k).flatten.length ≤ ls.flatten.length:=by
   conv=>rhs;rw [←List.take_append_drop k ls,List.flatten_append,List.length_append]
   omega
  omega
 have hsn:∀ k l,ls[k]?=some l→(ls.take (k+1)).flatten=(ls.take k).flatten++l:=fun k l hl=>by
  rw [List.take_add_one,hl];simp
 have hl0:=hr.1
 have hkl:∀ k,k<vs.length→∃ x l,vs[k]?=some x∧ls[k]?=some l:=fun k hk=>⟨_,_,List.getElem?_eq_getElem hk,List.getElem?_eq_getElem (by omega)⟩
 have hall:ls.take vs.length=ls:=List.take_of_length_le (by omega)
 have pR:=hidden hall
 have tN:=hidden hr
 clear hall hl0 hr
 generalize hmm:vs.length=m at *
 clear hmm
 obtain ⟨tl,htl⟩:∃ tl:Nat→Nat,∀ k,tl k=(ls.take k).flatten.length:=⟨_,fun _=>rfl⟩
 have sO:=hidden htl
 clear htl
 go_enter func251,ntmps251
 go_wp2_with fail
 go_loop [3,11] (fun n i=>∃ k:Nat,k ≤ m∧i = .int .i64 k∧n = .int .i64 (tl k:Int)) (fun _ i=>m - (intOf i).toNat)
 case atStart=>exact ⟨0,Nat.zero_le _,rfl,by rw [sO.out];rfl⟩
 case round =>
  obtain ⟨k,hk,rfl,rfl⟩:=hrel
  by_cases hlt:k<m
  ·obtain ⟨x,l,hx,hl⟩:=hkl k hlt
   obtain ⟨b,off,rfl,hc,hbl,hbo⟩:=hv.cell k hx
   obtain ⟨xa,xc,rfl⟩:=Aq (tN.out.2 k x l hx hl)
   have hlen:(tl (k+1):Int)=(tl k:Int)+(l.length:Int):=by rw [sO.out,sO.out,hsn k l hl,List.length_append];omega
   have hb1:tl (k+1) ≤ 1000000:=by rw [sO.out];exact hln (k+1)
   have hb2:tl k ≤ 1000000:=by rw [sO.out];exact hln k
   have rD:=hidden hlen
   have hb3:(tl k:Int)+(l.length:Int) ≤ 1000000:=by omega
   clear hlen hb1 hx hl hv tN hsn hln htot hkl pR
   generalize tl k=N at *
   generalize l.length=M at *
   go_wp2_with fail
   go_round
   case rel=>exact ⟨k+1,hlt,by go_num,by rw [rD.out]⟩
   case measure=>simp [intOf];omega
  ·obtain rfl:m=k:=by omega
   have hg:=YY (tl m) (by rw [sO.out,pR.out];exact htot) w
   go_wp2_with fail
   refine hg.mono ?_;rintro e w1 ⟨v1,rfl,hg1,hown1⟩
   have hbel:Below w.heap.size w w1:=⟨hg1.os,hg1.tape,hg1.output,hg1.size,fun k hk=>hg1.block k hk (by simp)⟩
   clear hg
   obtain ⟨a1,c1,rfl⟩:=BA hown1
   go_wp2_with fail
   go_loopw [6,27] (fun out i wr=>∃ k:Nat,k ≤ m∧i = .int .i64 k∧wr.ownsRow w.heap.size 5 1 out (ls.take k).flatten.length (bvs (ls.take k).flatten)∧Below w.heap.size w wr) (fun _ i _=>m - (intOf i).toNat)
   case atStart=>exact ⟨0,Nat.zero_le _,rfl,hown1,hbel⟩
   case round =>
    clear hown1 hbel hg1
    obtain ⟨k,hk,rfl,hown,hbel⟩:=hrel
    by_cases hlt:k<m
    ·obtain ⟨x,l,hx,hl⟩:=hkl k hlt
     obtain ⟨b,off,rfl,hc,hbl,hbo⟩:=hv.cell k hx
     have hbx:=tN.out.2 k x l hx hl
     have hc2:wr.cell? ⟨b,off+k,none⟩=some x:=by rw [World.cell?_of_block (a:=⟨b,off+k,none⟩) (hbel.block b hbl)];exact hc
     have hs1:=hsn k l hl
     have hb1:=hln (k+1)
     rw [hs1,List.length_append] at hb1
     have hsize:=hbel.size
     obtain ⟨oa,oc,rfl⟩:=BA hown
     have hcap:(ls.take k).flatten.length ≤ oc∧oc ≤ maxLen:=by
      rcases hown.2 with ⟨h1,h2⟩ | ⟨g,cap,cur,h1,_,_,h2,h3,_⟩
      ·simp only [Value.slice.injEq] at h1;omega
      ·simp only [Value.slice.injEq] at h1;omega
     rcases hbx.cases with ⟨⟨xa,xc,rfl⟩,rfl⟩ | ⟨xb,wB,yD,rfl,hxl,hxm,hxo,hxb,hxr⟩
     ·rw [List.append_nil] at hs1
      have hap:=CB (P:=prog) wr 29 29 5 1 underlying29 (by kernel_rfl) oa xa (ls.take k).flatten.length oc xc hcap.1 (by simp only [List.length_nil] at hb1;omega)
      have xK:=hidden hap
      have qJ:=hidden hs1
      have hownH:=hidden hown
      clear hap hs1 hown hx hl hv tN hsn hln htot hkl pR hb1 hcap hbx
      go_wp2_with ((with_reducible apply Bl);exact xK.out;simp only [Act.put,GL,DL,lss])
      go_roundw
      case rel=>exact ⟨k+1,hlt,by go_num,by rw [qJ.out];exact hownH.out,hbel⟩
      case measure=>simp [intOf];omega
     ·by_cases hm0:l.length=0
      ·have hl00:l=[]:=List.eq_nil_of_length_eq_zero hm0
       subst hl00
       rw [List.append_nil] at hs1
       have hap:=CB (P:=prog) wr 29 29 5 1 underlying29 (by kernel_rfl) oa (some ⟨xb,wB,none⟩) (ls.take k).flatten.length oc yD hcap.1 (by simp only [List.length_nil] at hb1;omega)
       have xK:=hidden hap
       have qJ:=hidden hs1
       have hownH:=hidden hown
       clear hap hs1 hown hx hl hv tN hsn hln htot hkl pR hb1 hcap hbx
       go_wp2_with ((with_reducible apply Bl);exact xK.out;simp only [Act.put,GL,DL,lss])
       go_roundw
       case rel=>exact ⟨k+1,hlt,by go_num,by rw [qJ.out];exact hownH.out,hbel⟩
       case measure=>simp [intOf];omega
      ·have yH:wr.rangeAt xb wB (bvs l):=Cf hxr (hbel.block xb hxb)
       obtain ⟨g,cap,w3,hrun,hown3,hgrow,hat,hlt3⟩:=Es wr (base:=w.heap.size) hsize _ (ls.take k).flatten.length _ hown xb wB l.length yD l rfl yH (by omega) (by omega)
       have hb3:Below w.heap.size w w3:=hbel.grown hgrow hbel.size (fun k hk=>(hown.lt k hk).1)
       rw [←List.length_append, ←hs1] at hown3
       have Aax:=hidden hrun
       have hownH:=hidden hown3
       have qJ:=hidden hs1
       have AdH:=hidden hb1
       clear hrun hown3 hown hs1 hx hl hv tN hsn hln htot hkl pR hb1 hcap hbx hxr yH hat
       go_wp2_with ((with_reducible apply Bl);exact Aax.out;simp only [Act.put,GL,DL,lss])
       go_roundw
       case rel=>exact ⟨k+1,hlt,by go_num,by have h:=hownH.out;rw [qJ.out,List.length_append] at h ⊢;exact h,hb3⟩
       case measure=>simp [intOf];omega
    ·obtain rfl:m=k:=by omega
     rw [pR.out] at hown
     obtain ⟨oa,oc,rfl⟩:=BA hown
     go_wp2_with fail
     go_ret
     exact ⟨_,(fun k=>if k<w.heap.size then o k else (0,0)),rfl,⟨hbel.os,hbel.tape,hbel.output,hbel.size,fun k hk=>if_pos hk,fun k hk _=>hbel.block k hk⟩,hown,fun k hk=>if_neg (by have:=(hown.lt k hk).1;omega)⟩
theorem eX (n k:Nat) (x:BitVec 64) (hk:k ≤ n):(be n x).drop (n - k)=be k x:=by
 induction n with
 | zero =>
   have:k=0:=by omega
   subst this;rfl
 | succ n ih =>
  by_cases h:k=n+1
  ·subst h;simp
  ·rw [show n+1 - k=(n - k)+1 from by omega,TZ,List.drop_succ_cons]
   exact ih (by omega)
theorem NE (n k:Nat) (hn:n ≤ 1000000) (hk:k ≤ 8) (hk1:1 ≤ k) (w:World) (o:Own):Calls prog 252 #[.int .i64 (n:Int), .int .i64 (k:Int)] w (XL Nobody w o fun v w' o'=>Bytes w' o' v (be k (BitVec.ofNat 64 n))):=by
 have hx:((BitVec.ofNat 64 n).toNat:Int)=(n:Int):=by simp;omega
 have hc:=Ef (Bytes.nil w o) (by simp) (BitVec.ofNat 64 n)
 rw [hx] at hc
 clear hx
 go_enter func252,ntmps252
 go_wp2_with fail
 refine hc.mono ?_;rintro e w1 ⟨v1,o1,rfl,hs,hn1⟩
 have hb:=hn1.bytes
 rw [List.nil_append] at hb
 rcases hb.cases with ⟨_,h0⟩ | ⟨b,off,cap,rfl,hl,hm,ho,hbl,hr⟩
 ·have:=Az 8 (BitVec.ofNat 64 n);rw [h0] at this;simp at this
 rw [Az] at hb hl ⊢
 have hp:=hb.part (8 - k) 8 (by omega) (by rw [Az];omega)
 rw [eX 8 k _ hk,List.take_of_length_le (by rw [Az];omega)] at hp
 have hpH:=hidden hp
 clear hb hp hr hn1 hc
 have hl':(8:Int) ≤ (cap:Int):=by omega
 have hm':(cap:Int) ≤ 9223372036854775807:=by simp only [maxLen] at hm;omega
 have hne:¬ (cap=8 - k):=by omega
 go_wp2_with fail
 go_ret
 exact ⟨_,o1,rfl,hs,hpH.out⟩
theorem aO {α:Type} {l:List α} (h:l.length=4):∃ a b c d,l=[a,b,c,d]:=by
 match l,h with
 | [a,b,c,d],_=>exact ⟨a,b,c,d,rfl⟩
theorem SC (w:World) (o:Own) (e:TypeId) (vs:List Value) (hl:vs.length ≤ 1000000):sH (w.alloc (.cells vs.toArray e)) (Ak o w.heap.size (0,0)) (.slice (some ⟨w.heap.size,0,none⟩) vs.length vs.length) vs.length vs:=
 .inr ⟨w.heap.size,0,vs.length,rfl,by simp,by simp only [maxLen];omega,by rw [Au],by simp,AV (heap_alloc_new w _)⟩
theorem Ey.nil (w:World) (o:Own):Ey w o [] []:=⟨rfl,fun i v l hv _=>by simp at hv⟩
theorem Ey.cons {w:World} {o:Own} {v:Value} {l:List UInt8} {vs:List Value} {ls:List (List UInt8)} (h:Bytes w o v l) (r:Ey w o vs ls):Ey w o (v :: vs) (l :: ls):=
 ⟨by simp [r.1],fun i v' l' hv hl=>by
  cases i with
  | zero=>simp only [List.getElem?_cons_zero,Option.some.injEq] at hv hl;subst hv;subst hl;exact h
  | succ i=>exact r.2 i v' l' (by simpa using hv) (by simpa using hl)⟩
theorem PK {w:World} {o:Own} {bv:Value} (x:AA) (hb:Bytes w o bv x.bytes) (hl:x.bytes.length ≤ 480) (ha:x.at' ≤ 1000000) (hf:x.of' ≤ 1000000) :
  Calls prog 230 #[.agg #[.int .u64 (x.stamp.toNat:Int), .int .i64 (x.at':Int), .int .i64 (x.of':Int),bv]] w (XL Nobody w o fun v w' o'=>Ew w w' o' v x.page):=by
 have hs0:Step Nobody w o (w.alloc (.cells #[.int .u64 (x.stamp.toNat:Int), .int .i64 (x.at':Int), .int .i64 (x.of':Int),bv] 238)) (Ak o w.heap.size (0,0)):=(Step.refl _ w o).alloc _ _
 have hbx:(w.alloc (.cells #[.int .u64 (x.stamp.toNat:Int), .int .i64 (x.at':Int), .int .i64 (x.of':Int),bv] 238)).heap[w.heap.size]?=some (.cells #[.int .u64 (x.stamp.toNat:Int), .int .i64 (x.at':Int), .int .i64 (x.of':Int),bv] 238 (0,0)):=heap_alloc_new w _
 have hb0:=hb.step hs0 id
 obtain ⟨ba,bc,rfl⟩:=Aq hb
 have hlt:=lt_of_block hbx
 obtain ⟨st,at',of',bs⟩:=x
 simp only at hl ha hf hs0 hbx hb0 hlt ⊢
 clear hb
 generalize hW0:w.alloc (.cells #[.int .u64 (st.toNat:Int), .int .i64 (at':Int), .int .i64 (of':Int), .slice ba bs.length bc] 238)=W0 at *
 have c0:=cell_of_block hbx 0
 have c1:=cell_of_block hbx 1
 have c2:=cell_of_block hbx 2
 have c3:=cell_of_block hbx 3
 simp only [List.getElem?_cons_succ,List.getElem?_cons_zero] at c0 c1 c2 c3
 have hWs:W0.heap.size=w.heap.size+1:=by rw [←hW0];simp
 have hu:=Ef (Bytes.nil W0 (Ak o w.heap.size (0,0))) (by simp) st
 have AbW:=hidden hW0
 clear hW0
 go_enter func230,ntmps230
 go_wp2_with fail
 rw [AbW.out]
 refine hu.mono ?_;rintro e W1 ⟨v1,o1,rfl,hs1,hn1⟩
 have hst:=hn1.bytes
 rw [List.nil_append] at hst
 have hst1:=hs0.trans hs1
 have e1:=hs1.block w.heap.size hlt id
 have d1:W1.cell? ⟨w.heap.size,1,none⟩=_:=(World.cell?_of_block (a:=⟨w.heap.size,1,none⟩) e1).trans c1
 have d2:W1.cell? ⟨w.heap.size,2,none⟩=_:=(World.cell?_of_block (a:=⟨w.heap.size,2,none⟩) e1).trans c2
 have d3:W1.cell? ⟨w.heap.size,3,none⟩=_:=(World.cell?_of_block (a:=⟨w.heap.size,3,none⟩) e1).trans c3
 have hlt1:w.heap.size<W1.heap.size:=Nat.lt_of_lt_of_le hlt hs1.size
 have hb1:=hb0.step hs1 id
 obtain ⟨sa,sc,rfl⟩:=Aq hst
 rw [Az] at hst
 clear hu hn1 hb0 c0 c1 c2 c3 hbx e1
 go_wp2_with fail
 refine Aa (fun w'=>w'.cell? ⟨w.heap.size,1,none⟩=some (.int .i64 (at':Int))∧w'.cell? ⟨w.heap.size,2,none⟩=some (.int .i64 (of':Int))∧w'.cell? ⟨w.heap.size,3,none⟩=some (.slice ba bs.length bc)) (fun _=>true) (by kernel_rfl) ⟨d1,d2,d3⟩ (fun hHeld => ?_)
 refine tq 0 (h:=tq 1 (h:=tq 2 (h:=tq 4 (h:=tq 5 (h:=tq 7 (h:=tq 8 (h:=tq 9 (h:=tq 11 (h:=tq 12 (h:=tq 13 (h:=tq 14 (h:=tq 15 (h:=tq 16 (h:=?_))))))))))))))
 have hsub:IntKind.i64.wrap ((480:Int) - (bs.length:Int))=((480 - bs.length:Nat):Int):=by simp [IntKind.wrap,IntKind.bits,IntKind.signed];omega
 rw [hsub]
 clear hsub
 obtain ⟨z,hz⟩:∃ z,480 - bs.length=z:=⟨_,rfl⟩
 rw [hz]
 have hz1:z ≤ 480:=by omega
 have hzH:=hidden hz
 clear hz
 have hdr:Step Nobody W1 o1 W1.drew o1:=(Step.refl _ _ _).drew
 have keep:∀ {wa wb:World} {oa ob:Own},Step Nobody wa oa wb ob→w.heap.size<wa.heap.size→(wa.cell? ⟨w.heap.size,1,none⟩=some (.int .i64 (at':Int))∧wa.cell? ⟨w.heap.size,2,none⟩=some (.int .i64 (of':Int))∧wa.cell? ⟨w.heap.size,3,none⟩=some (.slice ba bs.length bc)) →
   (wb.cell? ⟨w.heap.size,1,none⟩=some (.int .i64 (at':Int))∧wb.cell? ⟨w.heap.size,2,none⟩=some (.int .i64 (of':Int))∧wb.cell? ⟨w.heap.size,3,none⟩=some (.slice ba bs.length bc)):=fun hs hl h=>by
  have e:=hs.block w.heap.size hl id
  exact ⟨(World.cell?_of_block (a:=⟨w.heap.size,1,none⟩) e).trans h.1,(World.cell?_of_block (a:=⟨w.heap.size,2,none⟩) e).trans h.2.1,(World.cell?_of_block (a:=⟨w.heap.size,3,none⟩) e).trans h.2.2⟩
 refine Oc (fuel:=3) [3,6,10,17] [11,14,18,25] [_,_,_,_] Nobody (fun s w' o'=>Step Nobody W1.drew o1 w' o'∧(w'.cell? ⟨w.heap.size,1,none⟩=some (.int .i64 (at':Int))∧w'.cell? ⟨w.heap.size,2,none⟩=some (.int .i64 (of':Int))∧w'.cell? ⟨w.heap.size,3,none⟩=some (.slice ba bs.length bc)))
  (fun k u w' o'=>Bytes w' o' u (([be 2 (BitVec.ofNat 64 at'),be 2 (BitVec.ofNat 64 of'),be 4 (BitVec.ofNat 64 bs.length),List.replicate z 0]:List (List UInt8)).getD k [])) rfl (by kernel_rfl)
  (fun k u w o w' o' h hs=>h.step hs id) [undef,undef,undef,undef] rfl rfl ⟨Step.refl _ _ _,hHeld⟩ ⟨?_, ?_, ?_, ?_,trivial⟩ ?_
 ·intro s us w2 o2 hsl uX hsk rX hJ hR
  obtain ⟨u0,u1,u2,u3,rfl⟩:=aO uX
  simp only [Act.puts,Act.put,GL,DL,lss]
  go_wp2_with fail
  refine (NE at' 2 ha (by omega) (by omega) w2 o2).mono ?_;rintro e w3 ⟨v3,o3,rfl,hs3,hb3⟩
  have hlt2:=Nat.lt_of_lt_of_le hlt1 hJ.1.size
  have hS3:=keep hs3 hlt2 hJ.2
  go_wp2_with fail
  exact ⟨v3,o3,rfl,hs3,⟨hJ.1.trans hs3,hS3⟩,hb3,fun _=>hS3⟩
 ·intro s us w2 o2 hsl uX hsk rX hJ hR
  obtain ⟨u0,u1,u2,u3,rfl⟩:=aO uX
  simp only [Act.puts,Act.put,GL,DL,lss]
  go_wp2_with fail
  refine (NE of' 2 hf (by omega) (by omega) w2 o2).mono ?_;rintro e w3 ⟨v3,o3,rfl,hs3,hb3⟩
  have hlt2:=Nat.lt_of_lt_of_le hlt1 hJ.1.size
  have hS3:=keep hs3 hlt2 hJ.2
  go_wp2_with fail
  exact ⟨v3,o3,rfl,hs3,⟨hJ.1.trans hs3,hS3⟩,hb3,fun _=>hS3⟩
 ·intro s us w2 o2 hsl uX hsk rX hJ hR
  obtain ⟨u0,u1,u2,u3,rfl⟩:=aO uX
  simp only [Act.puts,Act.put,GL,DL,lss]
  go_wp2_with fail
  refine (NE bs.length 4 (by omega) (by omega) (by omega) w2 o2).mono ?_;rintro e w3 ⟨v3,o3,rfl,hs3,hb3⟩
  have hlt2:=Nat.lt_of_lt_of_le hlt1 hJ.1.size
  have hS3:=keep hs3 hlt2 hJ.2
  go_wp2_with fail
  exact ⟨v3,o3,rfl,hs3,⟨hJ.1.trans hs3,hS3⟩,hb3,fun _=>hS3⟩
 ·intro s us w2 o2 hsl uX hsk rX hJ hR
  obtain ⟨u0,u1,u2,u3,rfl⟩:=aO uX
  simp only [Act.puts,Act.put,GL,DL,lss]
  have hmk:=Gy (P:=prog) w2 29 5 _ 1 1 underlying29 dW rfl z (by omega) (by omega) .i64 .i64
  rw [XZ] at hmk
  have hs3:Step Nobody w2 o2 _ _:=(Step.refl _ w2 o2).alloc (.cells (bvs (List.replicate z 0)).toArray 5) (0,0)
  have hb3:=VX w2 o2 z (by omega)
  have hlt2:=Nat.lt_of_lt_of_le hlt1 hJ.1.size
  have hS3:=keep hs3 hlt2 hJ.2
  refine IC hmk ?_
  refine wpList_nil ?_
  exact ⟨_,_,rfl,hs3,⟨hJ.1.trans hs3,hS3⟩,hb3,fun _=>hS3⟩
 intro us W2 o2 uX hJ hR
 obtain ⟨u0,u1,u2,u3,rfl⟩:=aO uX
 simp only [Act.puts,Act.put,GL,DL,lss]
 have r0:Bytes W2 o2 u0 (be 2 (BitVec.ofNat 64 at')):=hR 0 (by simp)
 have r1:Bytes W2 o2 u1 (be 2 (BitVec.ofNat 64 of')):=hR 1 (by simp)
 have r2:Bytes W2 o2 u2 (be 4 (BitVec.ofNat 64 bs.length)):=hR 2 (by simp)
 have r3:Bytes W2 o2 u3 (List.replicate z 0):=hR 3 (by simp)
 have hst2:=(hst1.trans hdr).trans hJ.1
 have yM:=hJ.1
 have hS2:=hJ.2
 have hb2:=(hb1.step hdr id).step hJ.1 id
 have hs8:=(hst.step hdr id).step hJ.1 id
 clear hR hJ hst hb1 hst1
 obtain ⟨a0,c0,rfl⟩:=Aq r0
 obtain ⟨a1,c1,rfl⟩:=Aq r1
 obtain ⟨a2,c2,rfl⟩:=Aq r2
 obtain ⟨a3,c3,rfl⟩:=Aq r3
 simp only [Az,List.length_replicate] at r0 r1 r2 r3 ⊢
 have hvs:=SC W2 o2 29 [.slice sa 8 sc, .slice a0 2 c0, .slice a1 2 c1, .slice a2 4 c2, .slice ba bs.length bc, .slice a3 z c3] (by simp)
 have rH:Step Nobody W2 o2 _ _:=(Step.refl _ W2 o2).alloc (.cells #[.slice sa 8 sc, .slice a0 2 c0, .slice a1 2 c1, .slice a2 4 c2, .slice ba bs.length bc, .slice a3 z c3] 29) (0,0)
 have hlt2:=Nat.lt_of_lt_of_le (Nat.lt_of_lt_of_le hlt1 (Nat.le_refl _)) yM.size
 have hS4:=keep rH hlt2 hS2
 have hrow:=((((((Ey.nil W2 o2).cons r3).cons hb2).cons r2).cons r1).cons r0).cons hs8
 have hrow2:=hrow.step rH id
 have hst3:=hst2.trans rH
 have yQ:=hs8.step rH id
 have hfl:[be 8 st,be 2 (BitVec.ofNat 64 at'),be 2 (BitVec.ofNat 64 of'),be 4 (BitVec.ofNat 64 bs.length),bs,List.replicate z 0].flatten=AA.said ⟨st,at',of',bs⟩:=by
  simp only [AA.said,List.flatten_cons,List.flatten_nil,List.append_nil,List.append_assoc,hzH.out]
 have hsl:(AA.said ⟨st,at',of',bs⟩).length=496:=AA.Kt hl
 have hcc:=Qn hvs hrow2 (by rw [hfl,hsl];omega) (by simp)
 rw [hfl] at hcc
 have hpg:AA.page ⟨st,at',of',bs⟩=[AA.said ⟨st,at',of',bs⟩,be 8 (BH (Qk (AA.said ⟨st,at',of',bs⟩))),be 8 st].flatten:=by
  simp only [AA.page,fV,List.flatten_cons,List.flatten_nil,List.append_nil,List.append_assoc]
 obtain ⟨sd,yN⟩:∃ sd,AA.said ⟨st,at',of',bs⟩=sd:=⟨_,rfl⟩
 rw [yN] at hpg hcc hsl
 have Abt:=hidden hpg
 clear hfl hpg hrow r0 r1 r2 r3 hs8 hb2 hst2 rH hrow2 hvs yN
 refine tO 18 (h:=?_)
 go_wp2_with fail
 refine ⟨fun _=>hS4, ?_⟩
 refine tO 19 (h:=?_)
 go_wp2_with fail
 refine hcc.mono ?_;rintro e W4 ⟨v4,o4,rfl,hs4,hn4⟩
 have hS5:=keep hs4 (Nat.lt_of_lt_of_le hlt2 (by simp)) hS4
 have pX:=hst3.trans hs4
 have Abh:=yQ.step hs4 id
 have hsd:=hn4.bytes
 go_wp2_with fail
 refine ⟨fun _=>hS5, ?_⟩
 refine tO 20 (h:=?_)
 go_wp2_with fail
 refine ⟨fun _=>hS5, ?_⟩
 refine tD (h:=?_)
 obtain ⟨da,dc,rfl⟩:=Aq hsd
 have Aah:=eQ hsd (by omega)
 clear hcc hn4 hS5 hS4 keep yQ hst3
 have Abf:=hidden hsl
 rw [hsl] at hsd Aah ⊢
 clear hsl
 go_wp2_with fail
 refine Aah.mono ?_;rintro e w' ⟨rfl,rfl⟩
 go_wp2_with fail
 refine (Yx _ _).mono ?_;rintro e w' ⟨rfl,rfl⟩
 go_wp2_with fail
 refine (Ef (Bytes.nil W4 o4) (by simp) _).mono ?_;rintro e W5 ⟨v5,o5,rfl,hs5,hn5⟩
 have hb5:=hn5.bytes
 rw [List.nil_append] at hb5
 obtain ⟨fa,fc,rfl⟩:=Aq hb5
 rw [Az] at hb5 ⊢
 have hst5:=pX.trans hs5
 have yO:=hsd.step hs5 id
 have yP:=Abh.step hs5 id
 have hvs:=SC W5 o5 29 [.slice da 496 dc, .slice fa 8 fc, .slice sa 8 sc] (by simp)
 have rH:Step Nobody W5 o5 _ _:=(Step.refl _ W5 o5).alloc (.cells #[.slice da 496 dc, .slice fa 8 fc, .slice sa 8 sc] 29) (0,0)
 have hrow:=(((Ey.nil W5 o5).cons yP).cons hb5).cons yO
 have hrow2:=hrow.step rH id
 have pW:=hst5.trans rH
 have hcc:=Qn hvs hrow2 (by simp [Az,Abf.out]) (by simp)
 clear hrow hrow2 hvs rH hst5 yP yO hb5 hn5
 go_wp2_with fail
 refine hcc.mono ?_;rintro e W6 ⟨v6,o6,rfl,hs6,vG⟩
 go_wp2_with fail
 go_ret
 have qF:=pW.trans hs6
 rw [Abt.out]
 refine ⟨_,(fun k=>if k<w.heap.size then o k else (0,0)),rfl,⟨qF.os,qF.tape,qF.output,qF.size,fun k hk=>if_pos hk,fun k hk h=>qF.block k hk h⟩, ?_⟩
 refine ⟨⟨vG.1.1, ?_⟩, ?_⟩
 ·rcases vG.1.2 with h | ⟨g,cap,cur,h1,h2,h3⟩
  ·exact .inl h
  ·exact .inr ⟨g,cap,cur,h1,Nat.le_trans pW.size h2,h3⟩
 ·intro k hk
  exact if_neg (by have h1:=(vG.1.lt k hk).1;have h2:=pW.size;omega)
def BQ (x:AA) (bv:Value):List Value:=[.int .u64 (x.stamp.toNat:Int), .int .i64 (x.at':Int), .int .i64 (x.of':Int),bv]
theorem Hw {w:World} {o:Own} {b off n c:Nat} {l:List UInt8} (h:Bytes w o (.slice (some ⟨b,off,none⟩) n c) l) (lo hi:Nat) (h1:lo ≤ hi) (h2:hi ≤ l.length) (m:Nat) (hm:hi - lo=m) :
  Bytes w o (.slice (some ⟨b,off+lo,none⟩) m (c - lo)) ((l.drop lo).take m):=by
 subst hm;exact h.part lo hi h1 h2
theorem Eg {P:Program} {fn:Func} {p u:Tmp} {ty:TypeId} (h:fn.results = #[.cell p ty, .tmp u]) (tmps:Array Value) (w:World) (g:Nat) (t:TypeId) (cs:Array Value) (fr:Nat × Nat) (d:TypeDesc)
  (hp:tmps.getD p undef = .pointer (some ⟨g,0,none⟩)) (hg:w.heap[g]?=some (.cells cs t fr))
  (hu:P.underlying ty=some d) (hd:(match d with | .struct _ | .array _ _=>true | _=>false)=true) (hi:(P.info? ty).map (·.size)=some cs.size) :
  (results fn tmps).run P w = .ok (.tuple #[.agg cs,tmps.getD u undef]) w:=by
 rw [results_cell_tmp h,hp]
 simp [asAddr,run_loadVar_row w g t ty cs fr d hg hu hd hi]
theorem Vq {α:Type} {l:List α} (h:l.length=7):∃ a b c d e f g,l=[a,b,c,d,e,f,g]:=by
 match l,h with
 | [a,b,c,d,e,f,g],_=>exact ⟨a,b,c,d,e,f,g,rfl⟩
theorem wrap_i64 {n:Int} (h1 : -9223372036854775808 ≤ n) (h2:n ≤ 9223372036854775807):IntKind.i64.wrap n=n:=by
 simp [IntKind.wrap,IntKind.bits,IntKind.signed];omega
theorem Ba {P:Program} {w:World} {b:Nat} {cs vs:List Value} {E ty:TypeId} (h:w.heap[b]?=some (.cells cs.toArray E (0,0))) (hl:vs.length=cs.length) (hi:(P.info? ty).map (·.size)=some vs.length) (h1:vs.all (·.oneCell')=true) :
  (Instr.storeAt ty (.pointer (some ⟨b,0,none⟩)) (.agg vs.toArray)).run P w = .ok () (w.setCells b 0 vs)∧(w.setCells b 0 vs).heap[b]?=some (.cells vs.toArray E (0,0)):=by
 constructor
 ·have ht:=Dh h 0 vs.length (by omega)
  simp only [Instr.storeAt,Instr.sureAddr,Sem.run_bind,Sem.run_pure,Result.andThen_ok]
  rw [run_storeVar_mid w b 0 ty vs.toArray (by simpa using ht) (by simpa using hi) (all_oneCell_toArray (by simpa using h1))]
 ·have:=BP b E vs 0 w cs h (by omega)
  rw [this]
  simp [hl]
theorem ZR {w:World} {o:Own} {v:Value} {p:List UInt8} (hb:Bytes w o v p) (hp:p.length=512) :
  Calls prog 171 #[v] w (XL Nobody w o fun v w' o'=>∃ bv,v = .tuple #[.agg (BQ (CE p).1 bv).toArray, .bool (CE p).2]∧Bytes w' o' bv (CE p).1.bytes):=by
 have hs0:Step Nobody w o (w.alloc (.cells #[.int .u64 0, .int .i64 0, .int .i64 0, .slice none 0 0] 238)) (Ak o w.heap.size (0,0)):=(Step.refl _ w o).alloc _ _
 have hbx:(w.alloc (.cells #[.int .u64 0, .int .i64 0, .int .i64 0, .slice none 0 0] 238)).heap[w.heap.size]?=some (.cells #[.int .u64 0, .int .i64 0, .int .i64 0, .slice none 0 0] 238 (0,0)):=heap_alloc_new w _
 have hb0:=hb.step hs0 id
 have hlt:=lt_of_block hbx
 obtain ⟨X,hX0,hXf⟩:=KT o w.heap.size 0
 have hX:X ≠ 0:=by omega
 have hN:¬ Only X 0:=fun h=>hX h.symm
 clear hX0
 rcases hb.cases with ⟨_,rfl⟩ | ⟨b,off,cap,rfl,hcl,hcm,hbo,hbl,hr⟩
 ·simp at hp
 rw [hp] at hb0 hcl ⊢
 have q1:=Hw hb0 0 8 (by omega) (by omega) 8 rfl
 have q2:=Hw hb0 8 10 (by omega) (by omega) 2 rfl
 have q3:=Hw hb0 10 12 (by omega) (by omega) 2 rfl
 have q4:=Hw hb0 12 16 (by omega) (by omega) 4 rfl
 have q5:=fun (n:Nat) (hn:n ≤ 480)=>Hw hb0 16 (16+n) (by omega) (by omega) n (by omega)
 have hc1:(512:Int) ≤ (cap:Int):=by omega
 have hc2:(cap:Int) ≤ 9223372036854775807:=by simp only [maxLen] at hcm;omega
 have n8:¬ (cap=8):=by omega
 have k8:(8:Int) ≤ (cap:Int):=by omega
 have k10:(10:Int) ≤ (cap:Int):=by omega
 have k12:(12:Int) ≤ (cap:Int):=by omega
 have k16:(16:Int) ≤ (cap:Int):=by omega
 have n10:¬ (cap=10):=by omega
 have n12:¬ (cap=12):=by omega
 have n16:¬ (cap=16):=by omega
 clear hb hr
 obtain ⟨W0,hW0⟩:∃ W0,w.alloc (.cells #[.int .u64 0, .int .i64 0, .int .i64 0, .slice none 0 0] 238)=W0:=⟨_,rfl⟩
 rw [hW0] at hs0 hbx hb0 hlt q1 q2 q3 q4 q5
 generalize Ak o w.heap.size (0,0)=o0 at *
 have AbW:=hidden hW0
 clear hW0
 go_enter func171,ntmps171
 go_wp2_with fail
 rw [AbW.out]
 refine Aa (fun w'=>True) (fun _=>true) (by kernel_rfl) trivial (fun hHeld => ?_)
 refine tq 0 (h:=tq 1 (h:=tq 3 (h:=tq 4 (h:=tq 7 (h:=tq 8 (h:=?_))))))
 have hdr:Step Nobody W0 o0 W0.drew o0:=(Step.refl _ _ _).drew
 have ha1:(num ((p.drop 8).take 2)).toNat<65536:=by
   rw [EL (by simp;omega)];have:=Jg ((p.drop 8).take 2);have h2:((p.drop 8).take 2).length=2:=by simp;omega
   rw [h2] at this;omega
 have ha2:(num ((p.drop 10).take 2)).toNat<65536:=by
   rw [EL (by simp;omega)];have:=Jg ((p.drop 10).take 2);have h2:((p.drop 10).take 2).length=2:=by simp;omega
   rw [h2] at this;omega
 refine Oc (fuel:=1) [2,5,6,9,10,11,12] [8,11,12,15,16,17,4] [_,_,_,_,_,_,_] Nobody (fun s w' o'=>Step Nobody W0.drew o0 w' o')
  (fun k u w' o'=>match k with
   | 0=>u = .int .u64 ((num (p.take 8)).toNat:Int)
   | 1=>u = .int .u64 ((num ((p.drop 8).take 2)).toNat:Int)
   | 2=>u = .int .i64 ((num ((p.drop 8).take 2)).toNat:Int)
   | 3=>u = .int .u64 ((num ((p.drop 10).take 2)).toNat:Int)
   | 4=>u = .int .i64 ((num ((p.drop 10).take 2)).toNat:Int)
   | 5=>u = .agg #[.int .u64 ((num (p.take 8)).toNat:Int), .int .i64 ((num ((p.drop 8).take 2)).toNat:Int), .int .i64 ((num ((p.drop 10).take 2)).toNat:Int), .slice none 0 0]
   | _=>∃ g,u = .pointer (some ⟨g,0,none⟩)∧W0.heap.size ≤ g∧w'.heap[g]?=some (.cells #[.int .u64 0, .int .i64 0, .int .i64 0, .slice none 0 0] 238 (0,0))∧o' g=(X,0)) rfl (by kernel_rfl)
  (fun k u w o w' o' h hs=>by
   match k with
   | 0=>exact h
   | 1=>exact h
   | 2=>exact h
   | 3=>exact h
   | 4=>exact h
   | 5=>exact h
   | k+6 =>
    obtain ⟨g,rfl,hg,hh,hog⟩:=h
    exact ⟨g,rfl,hg,by rw [hs.block g (lt_of_block hh) id];exact hh,by rw [hs.own g (lt_of_block hh)];exact hog⟩) [undef,undef,undef,undef,undef,undef,undef] rfl rfl (Step.refl _ _ _) ⟨?_, ?_, ?_, ?_, ?_, ?_, ?_,trivial⟩ ?_
 ·intro s us w2 o2 hsl uX hsk rX hJ hR
  obtain ⟨u0,u1,u2,u3,u4,u5,u6,rfl⟩:=Vq uX
  simp only [Act.puts,Act.put,GL,DL,lss]
  have hq:=(q1.step hdr id).step hJ id
  go_wp2_with fail
  refine (FK hq (by simp;omega)).mono ?_;rintro e w3 ⟨rfl,rfl⟩
  go_wp2_with fail
  exact ⟨_,o2,rfl,Step.refl _ _ _,hJ,rfl,fun _=>trivial⟩
 ·intro s us w2 o2 hsl uX hsk rX hJ hR
  obtain ⟨u0,u1,u2,u3,u4,u5,u6,rfl⟩:=Vq uX
  simp only [Act.puts,Act.put,GL,DL,lss]
  have hq:=(q2.step hdr id).step hJ id
  go_wp2_with fail
  refine (FK hq (by simp;omega)).mono ?_;rintro e w3 ⟨rfl,rfl⟩
  go_wp2_with fail
  exact ⟨_,o2,rfl,Step.refl _ _ _,hJ,rfl,fun _=>trivial⟩
 ·intro s us w2 o2 hsl uX hsk rX hJ hR
  obtain ⟨u0,u1,u2,u3,u4,u5,u6,rfl⟩:=Vq uX
  simp only [Act.puts,Act.put,GL,DL,lss]
  have hu:u1 = .int .u64 _:=hR 1 (rX 1 5 rfl (by kernel_rfl))
  subst hu
  go_wp2_with fail
  exact ⟨_,o2,rfl,Step.refl _ _ _,hJ,rfl,fun _=>trivial⟩
 ·intro s us w2 o2 hsl uX hsk rX hJ hR
  obtain ⟨u0,u1,u2,u3,u4,u5,u6,rfl⟩:=Vq uX
  simp only [Act.puts,Act.put,GL,DL,lss]
  have hq:=(q3.step hdr id).step hJ id
  go_wp2_with fail
  refine (FK hq (by simp;omega)).mono ?_;rintro e w3 ⟨rfl,rfl⟩
  go_wp2_with fail
  exact ⟨_,o2,rfl,Step.refl _ _ _,hJ,rfl,fun _=>trivial⟩
 ·intro s us w2 o2 hsl uX hsk rX hJ hR
  obtain ⟨u0,u1,u2,u3,u4,u5,u6,rfl⟩:=Vq uX
  simp only [Act.puts,Act.put,GL,DL,lss]
  have hu:u3 = .int .u64 _:=hR 3 (rX 3 9 rfl (by kernel_rfl))
  subst hu
  go_wp2_with fail
  exact ⟨_,o2,rfl,Step.refl _ _ _,hJ,rfl,fun _=>trivial⟩
 ·intro s us w2 o2 hsl uX hsk rX hJ hR
  obtain ⟨u0,u1,u2,u3,u4,u5,u6,rfl⟩:=Vq uX
  simp only [Act.puts,Act.put,GL,DL,lss]
  have hu:u0 = .int .u64 _:=hR 0 (rX 0 2 rfl (by kernel_rfl))
  have hu2:u2 = .int .i64 _:=hR 2 (rX 2 6 rfl (by kernel_rfl))
  have hu4:u4 = .int .i64 _:=hR 4 (rX 4 10 rfl (by kernel_rfl))
  subst hu hu2 hu4
  go_wp2_with fail
  exact ⟨_,o2,rfl,Step.refl _ _ _,hJ,rfl,fun _=>trivial⟩
 ·intro s us w2 o2 hsl uX hsk rX hJ hR
  obtain ⟨u0,u1,u2,u3,u4,u5,u6,rfl⟩:=Vq uX
  simp only [Act.puts,Act.put,GL,DL,lss]
  have hsa:=(Step.refl Nobody w2 o2).alloc (.cells #[.int .u64 0, .int .i64 0, .int .i64 0, .slice none 0 0] 238) (X,0)
  have hnew:=heap_alloc_new w2 (.cells #[.int .u64 0, .int .i64 0, .int .i64 0, .slice none 0 0] 238)
  have hsz:=hJ.size
  go_wp2_with fail
  exact ⟨_,_,rfl,hsa,hJ.trans hsa,⟨_,rfl,hsz,hnew,Au _ _ _⟩,fun _=>trivial⟩
 intro us W2 o2 uX hJ hR
 obtain ⟨u0,u1,u2,u3,u4,u5,u6,rfl⟩:=Vq uX
 simp only [Act.puts,Act.put,GL,DL,lss]
 have r0:u0 = .int .u64 ((num (p.take 8)).toNat:Int):=hR 0 (by simp)
 have r1:u1 = .int .u64 ((num ((p.drop 8).take 2)).toNat:Int):=hR 1 (by simp)
 have r2:u2 = .int .i64 ((num ((p.drop 8).take 2)).toNat:Int):=hR 2 (by simp)
 have r3:u3 = .int .u64 ((num ((p.drop 10).take 2)).toNat:Int):=hR 3 (by simp)
 have r4:u4 = .int .i64 ((num ((p.drop 10).take 2)).toNat:Int):=hR 4 (by simp)
 have r5:u5 = .agg #[.int .u64 ((num (p.take 8)).toNat:Int), .int .i64 ((num ((p.drop 8).take 2)).toNat:Int), .int .i64 ((num ((p.drop 10).take 2)).toNat:Int), .slice none 0 0]:=hR 5 (by simp)
 have r6:∃ g,u6 = .pointer (some ⟨g,0,none⟩)∧W0.heap.size ≤ g∧W2.heap[g]?=some (.cells #[.int .u64 0, .int .i64 0, .int .i64 0, .slice none 0 0] 238 (0,0))∧o2 g=(X,0):=hR 6 (by simp)
 obtain ⟨g,rfl,hgw,hgh,hgo⟩:=r6
 subst r0 r1 r2 r3 r4 r5
 clear hR
 obtain ⟨A,hA⟩:∃ A,num (p.take 8)=A:=⟨_,rfl⟩
 obtain ⟨B,hB⟩:∃ B,(num ((p.drop 8).take 2)).toNat=B:=⟨_,rfl⟩
 obtain ⟨C,hC⟩:∃ C,(num ((p.drop 10).take 2)).toNat=C:=⟨_,rfl⟩
 rw [hA,hB,hC]
 rw [hB] at ha1
 rw [hC] at ha2
 have hAH:=hidden hA
 have hBH:=hidden hB
 have hCH:=hidden hC
 clear hA hB hC
 have hst:=((hs0.trans hdr).trans hJ).only X
 have hbW:=(hb0.step hdr id).step hJ id
 have q4':=(q4.step hdr id).step hJ id
 have q5':=fun n hn=>((q5 n hn).step hdr id).step hJ id
 have AgD:W2.heap[w.heap.size]?=_:=(hJ.block w.heap.size hlt id).trans hbx
 have Bfu:w.heap.size<g:=by omega
 clear hJ q1 q2 q3 q4 q5 hbx hb0 hs0 hdr hHeld
 have hHeld:True:=trivial
 obtain ⟨hsr,hsh⟩:=Ba (P:=prog) (ty:=238) (vs:=[.int .u64 (A.toNat:Int), .int .i64 (B:Int), .int .i64 (C:Int), .slice none 0 0]) hgh rfl (by kernel_rfl) rfl
 have hs3:=(Step.refl (Only X) W2 o2).setCells g 0 [.int .u64 (A.toNat:Int), .int .i64 (B:Int), .int .i64 (C:Int), .slice none 0 0] (.inl (by rw [hgo];rfl))
 refine tO 13 (h:=?_)
 refine AC hsr ?_
 refine wpList_nil ?_
 refine ⟨fun _=>trivial, ?_⟩
 refine tD (h:=?_)
 have hst:=hst.trans hs3
 have hbW:=hbW.step hs3 hN
 have q4':=q4'.step hs3 hN
 have q5':=fun n hn=>(q5' n hn).step hs3 hN
 have hgl:=lt_of_block hgh
 have Bfv:w.heap.size<W2.heap.size:=by omega
 have AgD:(W2.setCells g 0 [.int .u64 (A.toNat:Int), .int .i64 (B:Int), .int .i64 (C:Int), .slice none 0 0]).heap[w.heap.size]?=_:=(heap_setCells_other g _ 0 W2 w.heap.size (by omega)).trans AgD
 have hszW:=size_setCells g [.int .u64 (A.toNat:Int), .int .i64 (B:Int), .int .i64 (C:Int), .slice none 0 0] 0 W2
 clear hs3 hsr hgh
 generalize W2.setCells g 0 [.int .u64 (A.toNat:Int), .int .i64 (B:Int), .int .i64 (C:Int), .slice none 0 0]=W3 at *
 have x0:=cell_of_block hsh 0
 simp only [List.getElem?_cons_zero] at x0
 go_wp2_with fail
 refine (FK q4' (by simp;omega)).mono ?_;rintro e w' ⟨rfl,rfl⟩
 obtain ⟨N,hNe⟩:∃ N,num ((p.drop 12).take 4)=N:=⟨_,rfl⟩
 rw [hNe]
 have hNH:=hidden hNe
 clear hNe q4'
 by_cases hA0:A=0#64
 ·have hE:CE p=(Xb,false):=by unfold CE;rw [hAH.out,if_pos (.inl hA0)]
  have hEH:=hidden hE
  clear hE
  subst hA0
  have hz:(((0#64:BitVec 64)).toNat:Int)=0:=rfl
  rw [hz] at x0 hsh ⊢
  clear hz
  obtain ⟨Alo,ApW⟩:=Ba (P:=prog) (ty:=238) (vs:=[.int .u64 0, .int .i64 0, .int .i64 0, .slice none 0 0]) AgD rfl (by kernel_rfl) rfl
  have hs4:=(Step.refl (Only X) W3 o2).setCells w.heap.size 0 [.int .u64 0, .int .i64 0, .int .i64 0, .slice none 0 0]
  have pX:=hst.setCells w.heap.size 0 [.int .u64 0, .int .i64 0, .int .i64 0, .slice none 0 0] (.inr (Nat.le_refl _))
  have Aln:=hidden Alo
  clear Alo hs4 hbW q5' hsh AgD
  go_wp2_with ((with_reducible apply AC);exact Aln.out;simp only [Act.put])
  refine bodyPost_ret (Eg rfl _ _ w.heap.size 238 _ (0,0) _ rfl ApW underlying238 rfl (by kernel_rfl)) rfl ?_
  rw [hEH.out]
  exact ⟨_,o2,rfl,pX.nobody hXf,_,rfl,Bytes.nil _ _⟩
 ·by_cases hN0:480<N.toNat
  ·have hE:CE p=(Xb,false):=by unfold CE;rw [hNH.out,if_pos (.inr hN0)]
   have hEH:=hidden hE
   clear hE
   have hA1:((A.toNat:Int) == 0)=false:=by
    rw [beq_eq_false_iff_ne];intro h
    exact hA0 (BitVec.eq_of_toNat_eq (by simp;omega))
   have hN1:(480:Int)<(N.toNat:Int):=by omega
   obtain ⟨Alo,ApW⟩:=Ba (P:=prog) (ty:=238) (vs:=[.int .u64 0, .int .i64 0, .int .i64 0, .slice none 0 0]) AgD rfl (by kernel_rfl) rfl
   have pX:=hst.setCells w.heap.size 0 [.int .u64 0, .int .i64 0, .int .i64 0, .slice none 0 0] (.inr (Nat.le_refl _))
   have Aln:=hidden Alo
   clear Alo hbW q5' hsh AgD hA0 hN0
   go_wp2_with ((with_reducible apply AC);exact Aln.out;simp only [Act.put])
   refine bodyPost_ret (Eg rfl _ _ w.heap.size 238 _ (0,0) _ rfl ApW underlying238 rfl (by kernel_rfl)) rfl ?_
   rw [hEH.out]
   exact ⟨_,o2,rfl,pX.nobody hXf,_,rfl,Bytes.nil _ _⟩
  ·have hA1:((A.toNat:Int) == 0)=false:=by
    rw [beq_eq_false_iff_ne];intro h
    exact hA0 (BitVec.eq_of_toNat_eq (by simp;omega))
   have hN1:¬ (480:Int)<(N.toNat:Int):=by omega
   obtain ⟨n,hn⟩:∃ n,N.toNat=n:=⟨_,rfl⟩
   rw [hn] at hN0 hN1 ⊢
   have hE:CE p=(⟨A,B,C,(p.drop 16).take n⟩,AA.page ⟨A,B,C,(p.drop 16).take n⟩ == p):=by
    unfold CE
    rw [hNH.out,hAH.out,hn,if_neg (by simp only [not_or];exact ⟨hA0,hN0⟩)]
    unfold GY
    rw [hAH.out,hBH.out,hCH.out,hNH.out,hn]
   have hEH:=hidden hE
   clear hE
   have hq:=q5' n (by omega)
   have Avl:=clone_any (l:=(p.drop 16).take n) hq (by simp;omega)
   clear q5' hA0 hn
   have BcG:(n:Int) ≤ 480:=by omega
   have BeV:(16:Int)+(n:Int) ≤ (cap:Int):=by omega
   have BeW:(16:Int) ≤ 16+(n:Int):=by omega
   go_wp2_with fail
   refine Avl.mono ?_;rintro e W4 ⟨v4,o4,rfl,hs5,hn4⟩
   have hpl:((p.drop 16).take n).length=n:=by simp;omega
   obtain ⟨pl,AtX⟩:∃ pl,(p.drop 16).take n=pl:=⟨_,rfl⟩
   rw [AtX] at hn4 hpl hEH
   have hb4:=hn4.bytes
   have hown4:=hn4.1
   obtain ⟨a4,c4,rfl⟩:=Aq hb4
   have Avr:∀ b' off',a4=some ⟨b',off',none⟩→b' ≠ w.heap.size:=fun b' off' h=>by
    subst h
    have h1:=(hown4.lt b' rfl).1
    have h2:=lt_of_block AgD
    omega
   clear hown4
   rw [hpl] at hb4 ⊢
   have zA:=hidden hpl
   have AuU:=lt_of_block hsh
   have AyI:=lt_of_block AgD
   have AnI:W4.heap[g]?=_:=(hs5.block g AuU id).trans hsh
   have qC:W4.heap[w.heap.size]?=_:=(hs5.block w.heap.size AyI id).trans AgD
   have AuS:o4 g=(X,0):=(hs5.own g AuU).trans hgo
   have hst5:=hst.trans (hs5.only X)
   have Avx:=hbW.step hs5 id
   have y3:=cell_of_block AnI 3
   have f3:=Ap AnI 3
   simp only [List.getElem?_cons_succ,List.getElem?_cons_zero] at y3
   have hs6:=(Step.refl (Only X) W4 o4).setCell (a:=⟨g,3,none⟩) (.slice a4 n c4) (.inl (by rw [AuS];rfl))
   have hsh6:=Ai (i:=3) (.slice a4 n c4) AnI
   simp only [lss,DL] at hsh6
   have pW:=hst5.trans hs6
   have AqY:=Avx.step hs6 hN
   have hb6:=hb4.step hs6 hN
   have sD:(W4.setCell ⟨g,3,none⟩ (.slice a4 n c4)).heap[w.heap.size]?=_:=(Below.heap_setCell _ _ _ _ (by show w.heap.size ≠ g;omega)).trans qC
   have Bfw:w.heap.size ≠ g:=by omega
   clear Avl hn4 hb4 hpl AtX hs6 AnI qC hst5 Avx hst hbW hsh AgD hs5 x0 hq
   go_wp2_with fail
   obtain ⟨W5,hW5⟩:∃ W5,W4.setCell ⟨g,3,none⟩ (.slice a4 n c4)=W5:=⟨_,rfl⟩
   rw [hW5] at hsh6 pW AqY hb6 sD ⊢
   clear hW5 y3 f3
   have hrg:W5.rangeAt g 0 [.int .u64 (A.toNat:Int), .int .i64 (B:Int), .int .i64 (C:Int), .slice a4 n c4]:=AV hsh6
   refine Aa (fun w'=>w'.rangeAt g 0 [.int .u64 (A.toNat:Int), .int .i64 (B:Int), .int .i64 (C:Int), .slice a4 n c4]) (fun _=>true) (by kernel_rfl) hrg (fun hHeld => ?_)
   refine Dt (i:=0) (v := .agg #[.int .u64 (A.toNat:Int), .int .i64 (B:Int), .int .i64 (C:Int), .slice a4 n c4]) rfl (by kernel_rfl) (fun _ _ _ h=>h)
    (yieldsIf_load_mid rfl 238 (.tmp 4) rfl g 0 rfl [.int .u64 (A.toNat:Int), .int .i64 (B:Int), .int .i64 (C:Int), .slice a4 n c4] _ (fun w h=>h) underlying238 rfl (by kernel_rfl)) (by assumption) ?_
   simp only [Act.put,GL,DL,lss]
   refine Dt (i:=1) (v := .agg #[.int .u64 (A.toNat:Int), .int .i64 (B:Int), .int .i64 (C:Int), .slice a4 n c4]) rfl (by kernel_rfl) (fun _ _ _ h=>h)
    (yieldsIf_load_mid rfl 238 (.tmp 4) rfl g 0 rfl [.int .u64 (A.toNat:Int), .int .i64 (B:Int), .int .i64 (C:Int), .slice a4 n c4] _ (fun w h=>h) underlying238 rfl (by kernel_rfl)) (by assumption) ?_
   simp only [Act.put,GL,DL,lss]
   refine tq 3 (h:=?_)
   have AqO:Step Nobody W5 o4 W5.drew o4:=(Step.refl _ _ _).drew
   have hb7:=hb6.step AqO id
   have Avw:=AqY.step AqO id
   have qF:=pW.trans (AqO.only X)
   have rZ:W5.drew.heap[w.heap.size]?=_:=sD
   have Atv:W5.drew.heap[g]?=_:=hsh6
   have qX:=PK (w:=W5.drew) (o:=o4) (bv := .slice a4 n c4) ⟨A,B,C,pl⟩ hb7 (by show pl.length ≤ 480;have:=zA.out;omega) (by show B ≤ 1000000;omega) (by show C ≤ 1000000;omega)
   clear hb6 AqY pW sD hsh6 hrg
   refine tO 2 (h:=?_)
   go_wp2_with fail
   refine qX.mono ?_;rintro e W6 ⟨v6,o6,rfl,hs7,vG⟩
   have AyH:=lt_of_block rZ
   have AuT:=lt_of_block Atv
   have hS6:W6.rangeAt g 0 [.int .u64 (A.toNat:Int), .int .i64 (B:Int), .int .i64 (C:Int), .slice a4 n c4]:=Cf hHeld (hs7.block g AuT id)
   have hb8:=hb7.step hs7 id
   have AzX:=Avw.step hs7 id
   have Aft:=qF.trans (hs7.only X)
   have AzT:W6.heap[w.heap.size]?=_:=(hs7.block w.heap.size AyH id).trans rZ
   have zD:=vG.bytes
   have Bfi:o6 g=(X,0):=(hs7.own g AuT).trans AuS
   clear qX vG hs7 hb7 Avw qF rZ Atv
   go_wp2_with fail
   refine ⟨fun _=>hS6, ?_⟩
   refine tO 4 (h:=?_)
   go_wp2_with fail
   refine (Xz zD AzX).mono ?_;rintro e w' ⟨rfl,rfl⟩
   go_wp2_with fail
   refine ⟨fun _=>hS6, ?_⟩
   obtain ⟨AyQ,AyS⟩:=Ba (P:=prog) (ty:=238) (vs:=[.int .u64 (A.toNat:Int), .int .i64 (B:Int), .int .i64 (C:Int), .slice a4 n c4]) AzT rfl (by kernel_rfl) rfl
   have wL:=Aft.setCells w.heap.size 0 [.int .u64 (A.toNat:Int), .int .i64 (B:Int), .int .i64 (C:Int), .slice a4 n c4] (.inr (Nat.le_refl _))
   have hS9:(W6.setCells w.heap.size 0 [.int .u64 (A.toNat:Int), .int .i64 (B:Int), .int .i64 (C:Int), .slice a4 n c4]).rangeAt g 0 [.int .u64 (A.toNat:Int), .int .i64 (B:Int), .int .i64 (C:Int), .slice a4 n c4]:=
    Cf hS6 (heap_setCells_other _ _ _ _ _ (by omega))
   refine tO 5 (h:=?_)
   refine AC AyQ ?_
   refine wpList_nil ?_
   refine ⟨fun _=>hS9, ?_⟩
   have hb9:Bytes (W6.setCells w.heap.size 0 [.int .u64 (A.toNat:Int), .int .i64 (B:Int), .int .i64 (C:Int), .slice a4 n c4]) (fun k=>if k=w.heap.size then (0,0) else o6 k) (.slice a4 n c4) pl:=by
    rcases hb8 with h | ⟨b',off',cap',hv,h1,h2,h3,h4,h5⟩
    ·exact .inl h
    ·have hbne:b' ≠ w.heap.size:=Avr b' off' (by simp only [Value.slice.injEq] at hv;exact hv.1)
     refine .inr ⟨b',off',cap',hv,h1,h2,by simp only [if_neg hbne];exact h3,by rw [size_setCells];exact h4,Cf h5 (heap_setCells_other _ _ _ _ _ hbne)⟩
   refine tO 6 (h:=?_)
   go_wp2_with fail
   refine ⟨fun _=>hS9, ?_⟩
   refine tD (h:=?_)
   go_wp2_with fail
   refine bodyPost_ret (Eg rfl _ _ w.heap.size 238 _ (0,0) _ rfl AyS underlying238 rfl (by kernel_rfl)) rfl ?_
   rw [hEH.out]
   have AgM:=wL.nobody hXf
   refine ⟨_,(fun k=>if k=w.heap.size then (0,0) else o6 k),rfl,⟨AgM.os,AgM.tape,AgM.output,AgM.size,fun k hk=>by simp only [if_neg (show k ≠ w.heap.size by omega)];exact AgM.own k hk,AgM.block⟩, .slice a4 n c4,rfl,hb9⟩
def Ad.wf (m:Ad):Prop:=m.first ≤ 4096∧2 ≤ m.n∧m.n ≤ 2000∧1 ≤ m.end'∧m.end' ≤ m.n∧m.records.length+1 ≤ m.end'∧∀ r ∈ m.records,r.length ≤ 960000
def Ad.cells (m:Ad) (pd:Nat) (rv:Value):List Value:=
 [.pointer (some ⟨pd,0,none⟩), .int .i64 (m.first:Int), .int .i64 (m.n:Int), .int .u64 (m.stamp.toNat:Int), .bool m.Dx, .int .i64 (m.end':Int),rv, .bool m.dead]
def Mine (w:World) (o:Own) (v:Value):Prop:=∀ b off n c,v = .slice (some ⟨b,off,none⟩) n c→0<n→b<w.heap.size∧(o b).2=1
theorem Mine.step {T:Nat→Prop} {w w':World} {o o':Own} {v:Value} (h:Mine w o v) (s:Step T w o w' o'):Mine w' o' v:=fun b off n c e hn=>by
 obtain ⟨h1,h2⟩:=h b off n c e hn
 exact ⟨Nat.lt_of_lt_of_le h1 s.size,by rw [s.own b h1];exact h2⟩
def JG (w:World) (o:Own) (vs:List Value) (ls:List (List UInt8)):Prop:=Ey w o vs ls∧∀ v ∈ vs,Mine w o v
theorem JG.step {T:Nat→Prop} {w w':World} {o o':Own} {vs:List Value} {ls:List (List UInt8)} (h:JG w o vs ls) (s:Step T w o w' o') (hT:¬ T 0):JG w' o' vs ls:=
 ⟨h.1.step s hT,fun v hv=>(h.2 v hv).step s⟩
theorem JG.nil (w:World) (o:Own):JG w o [] []:=⟨Ey.nil w o,by simp⟩
def BZ (w:World) (o:Own) (L p pd:Nat) (m:Ad):Prop:=
 ∃ rv vs,w.heap[p]?=some (.cells (m.cells pd rv).toArray 233 (0,0))∧w.ownsRow 0 29 1 rv m.records.length vs∧JG w o vs m.records∧o p=(L,0)∧(∀ k,rv.ownBlock=some k→o k=(L,1))∧m.wf
def In (L D:Nat):Nat→Prop:=fun k=>k=L ∨ k=D
theorem BZ.step {T:Nat→Prop} {w w':World} {o o':Own} {L p pd:Nat} {m:Ad} (h:BZ w o L p pd m) (s:Step T w o w' o') (hT:¬ T L) (h0:¬ T 0):BZ w' o' L p pd m:=by
 obtain ⟨rv,vs,hp,hr,hv,op,wI,hwf⟩:=h
 have hpl:=lt_of_block hp
 refine ⟨rv,vs, ?_, ?_,hv.step s h0, ?_, ?_,hwf⟩
 ·rw [s.block p hpl (by rw [op];exact hT)];exact hp
 ·exact Ci hr fun k hk=>s.block k (hr.lt k hk).2 (by rw [wI k hk];exact hT)
 ·rw [s.own p hpl];exact op
 ·intro k hk;rw [s.own k (hr.lt k hk).2];exact wI k hk
theorem BZ.wf {w:World} {o:Own} {L p pd:Nat} {m:Ad} (h:BZ w o L p pd m):m.wf:=by
 obtain ⟨rv,vs,hp,hr,hv,op,wI,hwf⟩:=h;exact hwf
theorem BZ.lt {w:World} {o:Own} {L p pd:Nat} {m:Ad} (h:BZ w o L p pd m):p<w.heap.size:=by
 obtain ⟨rv,vs,hp,hr,hv,op,wI,hwf⟩:=h;exact lt_of_block hp
theorem BZ.wE {w:World} {o:Own} {L p pd:Nat} {m:Ad} (h:BZ w o L p pd m):(o p).1=L:=by
 obtain ⟨rv,vs,hp,hr,hv,op,wI,hwf⟩:=h;rw [op]
theorem BZ.set {w:World} {o:Own} {L p pd:Nat} {m m':Ad} (h:BZ w o L p pd m) (hL:L ≠ 0) (i:Nat) (v:Value) (hc:∀ rv,(m.cells pd rv).set i v=m'.cells pd rv) (hr:m'.records=m.records) (hwf:m'.wf) :
  BZ (w.setCell ⟨p,i,none⟩ v) o L p pd m':=by
 obtain ⟨rv,vs,hp,hro,hv,op,wI,_⟩:=h
 have hs:=(Step.refl (Only L) w o).setCell (a:=⟨p,i,none⟩) v (.inl (by show Only L (o p).1;rw [op];rfl))
 refine ⟨rv,vs,by rw [Ai v hp,hc], ?_,by rw [hr];exact hv.step hs (fun h=>hL h.symm),op,wI,hwf⟩
 rw [hr]
 refine Ci hro fun k hk=>Below.heap_setCell _ _ _ _ ?_
 rintro rfl;have:=wI _ hk;rw [op] at this;simp at this
theorem BZ.DC {w:World} {o:Own} {L p pd:Nat} {m:Ad} (h:BZ w o L p pd m) (i:Nat) (v:Value):Step (Only L) w o (w.setCell ⟨p,i,none⟩ v) o:=
 (Step.refl _ w o).setCell v (.inl h.wE)
theorem BZ.open {w:World} {o:Own} {L p pd:Nat} {m:Ad} (h:BZ w o L p pd m):∃ rv vs,
  (w.cell? ⟨p,0,none⟩=some (.pointer (some ⟨pd,0,none⟩))∧w.cell? ⟨p,1,none⟩=some (.int .i64 (m.first:Int))∧w.cell? ⟨p,2,none⟩=some (.int .i64 (m.n:Int))∧w.cell? ⟨p,3,none⟩=some (.int .u64 (m.stamp.toNat:Int)) ∧
   w.cell? ⟨p,4,none⟩=some (.bool m.Dx)∧w.cell? ⟨p,5,none⟩=some (.int .i64 (m.end':Int))∧w.cell? ⟨p,6,none⟩=some rv∧w.cell? ⟨p,7,none⟩=some (.bool m.dead)) ∧
  (∀ i,w.frozen? ⟨p,i,none⟩=false)∧w.ownsRow 0 29 1 rv m.records.length vs∧Ey w o vs m.records∧o p=(L,0)∧(∀ k,rv.ownBlock=some k→o k=(L,1)):=by
 obtain ⟨rv,vs,hp,hr,hv,op,wI,hwf⟩:=h
 exact ⟨rv,vs,⟨cell_of_block hp 0,cell_of_block hp 1,cell_of_block hp 2,cell_of_block hp 3,cell_of_block hp 4,cell_of_block hp 5,cell_of_block hp 6,cell_of_block hp 7⟩,fun i=>Ap hp i,hr,hv.1,op,wI⟩
theorem UI {w:World} {o:Own} {L p pd:Nat} {m:Ad} (h:BZ w o L p pd m):Calls prog 180 #[.pointer (some ⟨p,0,none⟩)] w (XL Nobody w o fun v _ _=>v = .int .i64 (m.room:Int)):=by
 obtain ⟨h1,h2,h3,h4,h5,_⟩:=h.wf
 obtain ⟨rv,vs,⟨c0,c1,c2,c3,c4,c5,c6,c7⟩, -⟩:=h.open
 have hE:((m.room:Nat):Int)=480*((m.n:Int) - (m.end':Int)):=by unfold Ad.room;omega
 rw [hE]
 have b1:(m.n:Int) ≤ 2000:=by omega
 have b2:(m.end':Int) ≤ (m.n:Int):=by omega
 clear hE h1 h2 h3 h4 h5 c0 c1 c3 c4 c6 c7
 have hst:=(Step.refl Nobody w o).drew
 go_enter func180,ntmps180
 go_wp2_with fail
 refine Aa (fun w'=>w'.cell? ⟨p,2,none⟩=some (.int .i64 (m.n:Int))∧w'.cell? ⟨p,5,none⟩=some (.int .i64 (m.end':Int))) (fun _=>true) (by kernel_rfl) ⟨c2,c5⟩ (fun hHeld => ?_)
 refine tq 0 (h:=tq 1 (h:=tq 2 (h:=tq 3 (h:=tq 4 (h:=tq 5 (h:=tq 6 (h:=tq 7 (h:=tq 8 (h:=tq 9 (h:=tq 10 (h:=tD (h:=?_))))))))))))
 go_wp2_with fail
 go_ret
 refine ⟨_,o,rfl,hst, ?_⟩
 show Value.int .i64 (IntKind.i64.wrap (480*IntKind.i64.wrap ((m.n:Int) - (m.end':Int))))=_
 rw [wrap_i64 (n:=(m.n:Int) - (m.end':Int)) (by omega) (by omega),wrap_i64 (by omega) (by omega)]
def LD (w:World) (o:Own) (L D p pd:Nat) (s:Ad × Af):Prop:=BZ w o L p pd s.1∧Bg w o D pd s.2
theorem LD.step {T:Nat→Prop} {w w':World} {o o':Own} {L D p pd:Nat} {s:Ad × Af} (h:LD w o L D p pd s) (st:Step T w o w' o') (hL:¬ T L) (hD:¬ T D) (h0:¬ T 0):LD w' o' L D p pd s:=
 ⟨h.1.step st hL h0,h.2.step st hD⟩
theorem Step.yG {L D:Nat} {w w':World} {o o':Own} (h:Step (Only L) w o w' o'):Step (In L D) w o w' o':=h.mono fun _ x => .inl x
theorem Step.inD {L D:Nat} {w w':World} {o o':Own} (h:Step (Only D) w o w' o'):Step (In L D) w o w' o':=h.mono fun _ x => .inr x
theorem Step.uV {L D:Nat} {w w':World} {o o':Own} (h:Step Nobody w o w' o'):Step (In L D) w o w' o':=h.mono fun _ x=>x.elim
def Ad.goes (st:Nat→Ad × Af) (er:Nat→Int):Nat→Nat→(Ad × Af) × Int
 | i,0=>(st i,0)
 | i,n+1=>if er i ≠ 0 then (({ (st (i+1)).1 with dead:=(st (i+1)).1.dead || er i == 9 },(st (i+1)).2),er i) else Ad.goes st er (i+1) n
theorem Qv {w:World} {o:Own} {L D p pd:Nat} {s:Ad × Af} (h:LD w o L D p pd s) (hd:(s.1.dead || s.2.dead)=true) (sa:Option Addr) (sn sc:Nat) :
  Calls prog 231 #[.pointer (some ⟨p,0,none⟩), .slice sa sn sc] w (XL Nobody w o fun v _w' _o'=>v = .int .i64 9):=by
 obtain ⟨rv,vs,⟨c0, -, -, -, -, -, -,c7⟩, -⟩:=h.1.open
 have hdd:=Ic h.2
 cases h7:s.1.dead with
 | true =>
  rw [h7] at c7
  go_enter func231,ntmps231
  go_wp2_with fail
  go_ret
  exact ⟨_,o,rfl,Step.refl _ _ _,rfl⟩
 | false =>
  rw [h7] at c7 hd
  simp only [Bool.false_or] at hd
  rw [hd] at hdd
  clear hd h7
  go_enter func231,ntmps231
  go_wp2_with fail
  refine hdd.mono ?_;rintro e w' ⟨rfl,rfl⟩
  go_wp2_with fail
  go_ret
  exact ⟨_,o,rfl,Step.refl _ _ _,rfl⟩
theorem LD.fJ {w:World} {o:Own} {L D p pd:Nat} {s:Ad × Af} (h:LD w o L D p pd s) (hL:L ≠ 0) (hLD:L ≠ D) (b:Bool) :
  LD (w.setCell ⟨p,7,none⟩ (.bool b)) o L D p pd ({ s.1 with dead:=b },s.2)∧Step (In L D) w o (w.setCell ⟨p,7,none⟩ (.bool b)) o:=by
 have hs:=h.1.DC 7 (.bool b)
 exact ⟨⟨h.1.set hL 7 (.bool b) (fun rv=>rfl) rfl h.1.wf,h.2.step hs (fun e=>hLD e.symm)⟩,hs.yG⟩
theorem alive_any {w:World} {o:Own} {L D p pd:Nat} (hL:L ≠ 0) (hD:D ≠ 0) (hLD:L ≠ D) (st:Nat→Ad × Af) (er:Nat→Int) (h:LD w o L D p pd (st 0)) (hd:((st 0).1.dead || (st 0).2.dead)=false)
  (n:Nat) (hn:n ≤ 1000) (fsl:List Value) (hfl:fsl.length=n) (fid:Nat→Nat) (bd cp:Nat→Array Value) (hfs:∀ i,i<n→fsl[i]?=some (.func (.func (fid i)) (bd i) (cp i)))
  (hcall:∀ i (args:Array Value) (x:World),i<n→(callFunc (fid i) args).run prog x = .ok (.enter (fid i) args) x)
  (sa:Option Addr) (sc:Nat) (hsv:sH w o (.slice sa n sc) n fsl)
  (hstep:∀ i,i<n→(∀ j,j<i→er j=0)→∀ w1 o1,Step (In L D) w o w1 o1→LD w1 o1 L D p pd (st i) →
   Calls prog (fid i) (bd i++cp i) w1 (XL (In L D) w1 o1 fun v w' o'=>v = .int .i64 (er i)∧LD w' o' L D p pd (st (i+1)))) :
  Calls prog 231 #[.pointer (some ⟨p,0,none⟩), .slice sa n sc] w (XL (In L D) w o fun v w' o'=>v = .int .i64 (Ad.goes st er 0 n).2∧LD w' o' L D p pd (Ad.goes st er 0 n).1):=by
 have hN:¬ In L D 0:=fun h=>by rcases h with h | h <;> omega
 obtain ⟨rv,vs,⟨c0, -, -, -, -, -, -,c7⟩, -⟩:=h.1.open
 have hdd:=Ic h.2
 simp only [Bool.or_eq_false_iff] at hd
 rw [hd.1] at c7
 rw [hd.2] at hdd
 clear hd
 have hgo:∀ k,k ≤ n→(∀ j,j<k→er j=0)→Ad.goes st er 0 n=Ad.goes st er k (n - k):=by
  intro k
  induction k with
  | zero=>intro _ _;rfl
  | succ k ih =>
   intro hk hj
   rw [ih (by omega) (fun j hj'=>hj j (by omega))]
   obtain ⟨m,hm⟩:∃ m,n - k=m+1:=⟨n - k - 1,by omega⟩
   rw [hm,show n - (k+1)=m from by omega]
   conv=>lhs;unfold Ad.goes
   rw [if_neg (by have:=hj k (by omega);omega)]
 have Aab:=hidden hgo
 have AbI:=hidden hfs
 have rY:=hidden hcall
 have wK:=hidden hstep
 clear hgo hfs hcall hstep hfl
 go_enter func231,ntmps231
 go_wp2_with fail
 refine hdd.mono ?_;rintro e w' ⟨rfl,rfl⟩
 clear hdd
 go_wp2_with fail
 go_loopw [23] (fun i wr=>∃ k:Nat,k ≤ n∧i = .int .i64 k∧Hid (∀ j,j<k→er j=0)∧∃ o',Step (In L D) w o wr o'∧LD wr o' L D p pd (st k)) (fun i _=>n - (intOf i).toNat)
 case atStart=>exact ⟨0,Nat.zero_le _,rfl,hidden (fun j hj=>by omega),o,Step.refl _ _ _,h⟩
 case round =>
  clear c0 c7
  obtain ⟨k,hk,rfl,hj,o',hst,hld⟩:=hrel
  by_cases hlt:k<n
  ·obtain ⟨b,off,rfl,hc,hbl,hbo⟩:=hsv.cell k (AbI.out k hlt)
   have hcr:wr.cell? ⟨b,off+k,none⟩=some (.func (.func (fid k)) (bd k) (cp k)):=by
    rw [World.cell?_of_block (a:=⟨b,off+k,none⟩) (hst.block b hbl (by rw [hbo];exact hN))];exact hc
   have hck:=fun args x=>rY.out k args x hlt
   have hs1:=wK.out k hlt hj.out wr o' hst hld
   go_wp2_with fail
   refine hs1.mono ?_;rintro e w1 ⟨v1,o1,rfl,hst1,rfl,oZ⟩
   have hst2:=hst.trans hst1
   by_cases he:er k=0
   ·have hjn:Hid (∀ j,j<k+1→er j=0):=hidden fun j hj'=>by
     by_cases hjk:j=k
     ·subst hjk;exact he
     ·exact hj.out j (by omega)
    rw [he]
    clear he hs1 hst hst1 hld
    go_wp2_with fail
    go_roundw
    case rel=>exact ⟨k+1,hlt,by go_num,hjn,o1,hst2,oZ⟩
    case measure=>simp [intOf];omega
   ·have hne:(er k != 0)=true:=by simpa using he
    have hE:Ad.goes st er 0 n=(({ (st (k+1)).1 with dead:=(st (k+1)).1.dead || er k == 9 },(st (k+1)).2),er k):=by
     rw [Aab.out k hk hj.out]
     obtain ⟨m,hm⟩:∃ m,n - k=m+1:=⟨n - k - 1,by omega⟩
     rw [hm];unfold Ad.goes;rw [if_pos he]
    have hEH:=hidden hE
    obtain ⟨rv1,vs1,⟨-, -, -, -, -, -, -,d7⟩,hf1, -⟩:=oZ.1.open
    have d7f:=hf1 7
    have hk1:=oZ.fJ hL hLD
    generalize hek:er k=e1 at *
    generalize hsk:st (k+1)=s1 at *
    clear hsk hek he hE hs1 hld hst hst1 hf1 hlt
    have fin:∀ (w':World) (o':Own) (b:Bool),Hid (b=(s1.1.dead || e1 == 9))→Hid (Step (In L D) w o w' o'∧LD w' o' L D p pd ({ s1.1 with dead:=b },s1.2)) →
      XL (In L D) w o (fun v w' o'=>v = .int .i64 (Ad.goes st er 0 n).2∧LD w' o' L D p pd (Ad.goes st er 0 n).1) (.returned (.int .i64 e1)) w':=fun w' o' b hb hh=>by
     rw [hEH.out]
     have h2:=hh.out
     rw [hb.out] at h2
     exact ⟨_,o',rfl,h2.1,rfl,h2.2⟩
    cases hdd:s1.1.dead with
    | true =>
     rw [hdd] at d7 fin
     have hq:=hk1 true
     have yV:=hidden (show Step (In L D) w o _ o1∧_ from ⟨hst2.trans hq.2,hq.1⟩)
     clear hq hk1 hst2 hdd oZ
     go_wp2_with fail
     go_ret
     exact fin _ _ true (hidden rfl) yV
    | false =>
     rw [hdd] at d7 fin
     by_cases h9:e1=9
     ·subst h9
      have hq:=hk1 true
      have yV:=hidden (show Step (In L D) w o _ o1∧_ from ⟨hst2.trans hq.2,hq.1⟩)
      clear hq hk1 hst2 hdd oZ
      go_wp2_with fail
      go_ret
      exact fin _ _ true (hidden rfl) yV
     ·have h9':(e1 == 9)=false:=by simpa using h9
      have hq:=hk1 false
      have yV:=hidden (show Step (In L D) w o _ o1∧_ from ⟨hst2.trans hq.2,hq.1⟩)
      have h9H:=hidden h9'
      clear hq hk1 hst2 hdd oZ h9
      go_wp2_with fail
      go_ret
      exact fin _ _ false (hidden (by rw [h9H.out];rfl)) yV
  ·obtain rfl:n=k:=by omega
   have hE:Ad.goes st er 0 n=(st n,0):=by rw [Aab.out n (Nat.le_refl _) hj.out,Nat.sub_self];rfl
   have hEH:=hidden hE
   clear hE
   go_wp2_with fail
   go_ret
   rw [hEH.out]
   exact ⟨_,o',rfl,hst,rfl,hld⟩
theorem Af.Nz (d:Af) (at':Int) (l:List UInt8):(d.write at' l).1.row.length ≤ d.row.length+1:=by
 unfold Af.write
 have:=(Af.Hg d (d.asked at' l.length)).2
 dsimp only
 split
 ·rw [this];omega
 ·simp only [List.length_append,List.length_cons,List.length_nil];rw [this];omega
theorem Af.ZJ (d:Af):d.sync.1.row.length ≤ d.row.length:=by
 unfold Af.sync
 have:=(Af.Hg d (d.asked 0 512)).2
 dsimp only
 split
 ·rw [this];omega
 ·simp [Af.done]
theorem Rf (x:BitVec 64):IntKind.u64.wrap ((x.toNat:Int)+1)=((x+1#64).toNat:Int):=by
 rw [BitVec.toNat_add]
 simp only [IntKind.wrap,IntKind.bits,IntKind.signed]
 simp
theorem Ad.Uo {m:Ad} (h:m.wf) (x:BitVec 64):({ m with stamp:=x }:Ad).wf:=h
def Held (w:World) (p pd:Nat) (m:Ad):Prop:=
 w.cell? ⟨p,0,none⟩=some (.pointer (some ⟨pd,0,none⟩))∧w.cell? ⟨p,1,none⟩=some (.int .i64 (m.first:Int))∧w.cell? ⟨p,2,none⟩=some (.int .i64 (m.n:Int))∧w.cell? ⟨p,3,none⟩=some (.int .u64 (m.stamp.toNat:Int)) ∧
   w.cell? ⟨p,4,none⟩=some (.bool m.Dx)∧w.cell? ⟨p,5,none⟩=some (.int .i64 (m.end':Int))∧w.cell? ⟨p,7,none⟩=some (.bool m.dead)
theorem BZ.held {w:World} {o:Own} {L p pd:Nat} {m:Ad} (h:BZ w o L p pd m):Held w p pd m:=by
 obtain ⟨rv,vs,⟨c0,c1,c2,c3,c4,c5,c6,c7⟩, -⟩:=h.open
 exact ⟨c0,c1,c2,c3,c4,c5,c7⟩
theorem VB {w:World} {o:Own} {L D p pd:Nat} (hL:L ≠ 0) (hD:D ≠ 0) (hLD:L ≠ D) {s:Ad × Af} (h:LD w o L D p pd s) (hrow:s.2.row.length ≤ 900000) :
  Calls prog 234 #[.pointer (some ⟨p,0,none⟩)] w (XL (In L D) w o fun v w' o'=>v = .int .i64 (Ad.head s).2∧LD w' o' L D p pd (Ad.head s).1):=by
 obtain ⟨m,d⟩:=s
 obtain ⟨hl,hd⟩:=h
 simp only at hl hd hrow
 have hN:¬ In L D 0:=fun h=>by rcases h with h | h <;> omega
 obtain ⟨d1,e1,hw⟩:∃ d1 e1,d.write (m.first:Int) (AA.page ⟨m.stamp+1#64,0,0,[]⟩)=(d1,e1):=⟨_,_,rfl⟩
 obtain ⟨d2,e2,hy⟩:∃ d2 e2,d1.sync=(d2,e2):=⟨_,_,rfl⟩
 have hr1:d1.row.length ≤ 1000000:=by have:=Af.Nz d (m.first:Int) (AA.page ⟨m.stamp+1#64,0,0,[]⟩);rw [hw] at this;simp only at this;omega
 have hE:Ad.head (m,d)=if e1 ≠ 0 then (({ m with stamp:=m.stamp+1#64 },d1),e1) else (({ m with stamp:=m.stamp+1#64 },d2),e2):=by
  unfold Ad.head
  simp only [hw,hy]
 have hEH:=hidden hE
 clear hE
 have hl1:=hl.set (m':={ m with stamp:=m.stamp+1#64 }) hL 3 (.int .u64 ((m.stamp+1#64).toNat:Int)) (fun rv=>rfl) rfl (Ad.Uo hl.wf _)
 have hs1:=hl.DC 3 (.int .u64 ((m.stamp+1#64).toNat:Int))
 have hd1:=hd.step hs1 (fun e=>hLD e.symm)
 obtain ⟨rv,vs,⟨c0,c1,c2,c3,c4,c5,c6,c7⟩,hf, -⟩:=hl.open
 have f3:=hf 3
 have hwr:=Rf m.stamp
 have wS:=hl.lt
 clear hf c0 c1 c2 c4 c5 c6 c7 hl hd
 obtain ⟨st,hst⟩:∃ st,m.stamp+1#64=st:=⟨_,rfl⟩
 rw [hst] at hw hEH hl1 hs1 hd1 hwr
 clear hst
 go_enter func234,ntmps234
 go_wp2_with fail
 obtain ⟨W,hW⟩:∃ W,w.setCell ⟨p,3,none⟩ (.int .u64 (st.toNat:Int))=W:=⟨_,rfl⟩
 rw [hW] at hl1 hs1 hd1 ⊢
 have hWs:w.heap.size=W.heap.size:=by rw [←hW];simp
 clear hW c3 f3 hwr
 have hh:=hl1.held
 obtain ⟨h0,h1,h2,h3,h4,h5,h7⟩:=hh
 simp only at h0 h1 h2 h3 h4 h5 h7
 refine Aa (fun w'=>w'.cell? ⟨p,0,none⟩=some (.pointer (some ⟨pd,0,none⟩))∧w'.cell? ⟨p,1,none⟩=some (.int .i64 (m.first:Int))∧w'.cell? ⟨p,3,none⟩=some (.int .u64 (st.toNat:Int))) (fun _=>true) (by kernel_rfl) ⟨h0,h1,h3⟩ (fun hHeld => ?_)
 refine tq 0 (h:=tq 1 (h:=tq 2 (h:=tq 3 (h:=tq 4 (h:=tq 5 (h:=tq 6 (h:=tq 7 (h:=tq 8 (h:=tq 9 (h:=tq 10 (h:=tq 11 (h:=tq 12 (h:=?_)))))))))))))
 have hdr:Step Nobody W o W.drew o:=(Step.refl _ _ _).drew
 have hl2:=hl1.step hdr id id
 have hd2:=hd1.step hdr id
 have hs2:=(hs1.yG (D:=D)).trans hdr.uV
 have qX:=PK (w:=W.drew) (o:=o) (bv := .slice none 0 0) ⟨st,0,0,[]⟩ (Bytes.nil _ _) (by simp) (by simp) (by simp)
 clear hl1 hd1 hs1 h0 h1 h2 h3 h4 h5 h7
 refine tO 13 (h:=?_)
 go_wp2_with fail
 refine qX.mono ?_;rintro e W6 ⟨v6,o6,rfl,hs6,vG⟩
 have hl3:=hl2.step hs6 id id
 have hd3:=hd2.step hs6 id
 have hs3:=hs2.trans hs6.uV
 have zD:=vG.bytes
 have hpl:p<W.drew.heap.size:=by show p<W.heap.size;omega
 have e6:=hs6.block p hpl id
 have hS6:W6.cell? ⟨p,0,none⟩=some (.pointer (some ⟨pd,0,none⟩))∧W6.cell? ⟨p,1,none⟩=some (.int .i64 (m.first:Int))∧W6.cell? ⟨p,3,none⟩=some (.int .u64 (st.toNat:Int)):=
  ⟨(World.cell?_of_block (a:=⟨p,0,none⟩) e6).trans hHeld.1,(World.cell?_of_block (a:=⟨p,1,none⟩) e6).trans hHeld.2.1,(World.cell?_of_block (a:=⟨p,3,none⟩) e6).trans hHeld.2.2⟩
 have hwr:=Uk hd3 hD (by omega) (m.first:Int) v6 _ zD hw
 clear qX vG hs6 hl2 hd2 hs2 hdr zD
 go_wp2_with fail
 refine ⟨fun _=>hS6, ?_⟩
 refine tO 14 (h:=?_)
 go_wp2_with fail
 refine hwr.mono ?_;rintro e W7 ⟨v7,o7,rfl,hs7,rfl,hd7⟩
 have hpL:(o6 p).1=L:=hl3.wE
 have Abq:=hl3.lt
 have e7:=hs7.block p Abq (by rw [hpL];exact fun e=>hLD e)
 have hS7:W7.cell? ⟨p,0,none⟩=some (.pointer (some ⟨pd,0,none⟩))∧W7.cell? ⟨p,1,none⟩=some (.int .i64 (m.first:Int))∧W7.cell? ⟨p,3,none⟩=some (.int .u64 (st.toNat:Int)):=
  ⟨(World.cell?_of_block (a:=⟨p,0,none⟩) e7).trans hS6.1,(World.cell?_of_block (a:=⟨p,1,none⟩) e7).trans hS6.2.1,(World.cell?_of_block (a:=⟨p,3,none⟩) e7).trans hS6.2.2⟩
 have wY:=hl3.step hs7 (fun e=>hLD e) (fun e=>hD e.symm)
 have hs8:=hs3.trans hs7.inD
 clear hl3 hd3 hs3 hs7 hwr hHeld e6 e7
 go_wp2_with fail
 refine ⟨fun _=>hS7, ?_⟩
 refine tO 15 (h:=?_)
 go_wp2_with fail
 refine ⟨fun _=>hS7, ?_⟩
 refine tD (h:=?_)
 have q0:=hS7.1
 clear hS7 hS6
 by_cases he:e1=0
 ·subst he
  have hsy:=XD hd7 hr1 hy
  rw [if_neg (by simp)] at hEH
  clear hy hw
  go_wp2_with fail
  refine hsy.mono ?_;rintro e W8 ⟨v8,o8,rfl,hs9,rfl,hd8⟩
  go_wp2_with fail
  go_ret
  rw [hEH.out]
  exact ⟨_,o8,rfl,hs8.trans hs9.inD,rfl,wY.step hs9 (fun e=>hLD e) (fun e=>hD e.symm),hd8⟩
 ·have hne:(e1 != 0)=true:=by simpa using he
  rw [if_pos he] at hEH
  clear he hy hw
  go_wp2_with fail
  go_ret
  rw [hEH.out]
  exact ⟨_,o7,rfl,hs8,rfl,wY,hd7⟩

end Go.Proofs.YtffkdillijmamaaGreat
