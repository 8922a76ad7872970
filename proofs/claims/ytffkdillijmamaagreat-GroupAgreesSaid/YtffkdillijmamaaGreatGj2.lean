/- Contracts of small functions on bytes: slices.Clone, bytes.Equal, wire.number, wire.Uint. -/
import Derived.Lib.AppendZerosOnto
import Derived.Test.YtffkdillijmamaaGreatGj1
namespace Go.Proofs.YtffkdillijmamaaGreat
open Go.Proofs.Tryz
set_option maxRecDepth 100000
set_option maxHeartbeats 3200000
open Go Go.RowKit
attribute [local go_sem ↓] Go.wp_at_zero Go.wp_at_succ
theorem Xz {w:World}{o:Own}{u E:Value}{F J:List UInt8}(q:Bytes w o u F) (r:Bytes w o E J):Calls prog 229 #[u,E] w fun e w'=>e = .returned (.bool (F == J))/\w=w':=by
 have c1:=CY q;have c2:=CY r;obtain ⟨a1,k1,rfl⟩:=Aq q;obtain ⟨O,k2,rfl⟩:=Aq r;clear q r;go_enter func229,ntmps229
 go_wp2
 go_ret;exact ⟨rfl,rfl⟩
theorem FC {P:Program}(w:World) (t e:TypeId) (a:Option Addr) (n c:Nat) (h:P.underlying t=some (.slice e)) :
  (binOp .eql t (.slice a n c) (.slice none 0 0)).run P w = .ok (.bool a.isNone) w:=by
 have q:∀ d,(Op.equalIn (d+1) t (.slice a n c) (.slice none 0 0)).run P w = .ok a.isNone w:=fun d=>by
  cases a <;> simp [Op.equalIn,run_underlying h]
 simp only [binOp];simp [Op.equal,Op.maxDepth,q 9999]
theorem Es (W:World) {base:Nat}(r:base<=W.heap.size) (v:Value) (n:Nat) (xs:List UInt8) (u:W.ownsRow base 5 1 v n (bvs xs)) (b off m c:Nat) (q:List UInt8) (hl:q.length=m) (E:W.rangeAt b off (bvs q)) (F:0<m) (Y:n+m<=1000000000) :
  ∃ g cap w',(Builtin.append_ #[29,29] 29 #[v, .slice (some ⟨b,off,none⟩) m c]).run prog W = .ok (.slice (some ⟨g,0,none⟩) (n+m) cap) w' /\
   w'.ownsRow base 5 1 (.slice (some ⟨g,0,none⟩) (n+m) cap) (n+m) (bvs (xs++q))/\W.grownBy w' v.ownBlock/\(v.ownBlock=some g \/ g=W.heap.size)/\g<w'.heap.size:=by
 obtain ⟨g,cap,w',J,O,U⟩:=DD (P:=prog) W 29 29 5 underlying29 dW rfl om r v n (bvs xs) u b off m c (bvs q) (by rw [Bh];omega) E (Io q) F om om;exact ⟨g,cap,w',J,by rw [Jv];exact O,U⟩
theorem clone_any {w:World}{o:Own}{v:Value}{l:List UInt8}(h:Bytes w o v l) (a7:l.length<=4000000):Calls prog 141 #[v] w (XL ai w o fun v w' o'=>Ew w w' o' v l):=by
 have u:(w.alloc (.cells #[] 5)).ownsRow w.heap.size 5 1 (.slice (some ⟨w.heap.size,0,none⟩) 0 0) 0 (bvs []):=⟨rfl, .inr ⟨_,0, #[],rfl,Nat.le_refl _,heap_alloc_new w _,om,by simp,rfl,rfl⟩⟩;have E:Below w.heap.size w (w.alloc (.cells #[] 5)):=(Below.refl _ _).alloc (Nat.le_refl _) _;have r:∀ (w':World) (F:Value),Below w.heap.size w w'->w'.ownsRow w.heap.size 5 1 F l.length (bvs l)->XL ai w o (fun v w' o'=>Ew w w' o' v l) (.returned F) w':=fun w' F hb J =>
  ⟨_,(fun k=>if k<w.heap.size then o k else (0,0)),rfl,⟨hb.os,hb.tape,hb.output,hb.size,fun k q=>if_pos q,fun k q _=>hb.block k q⟩,J,fun k q=>if_neg (by have:=(J.lt k q).1;omega)⟩
 rcases h.cases with ⟨⟨a,c,rfl⟩,rfl⟩ | ⟨b,off,cap,rfl,hl,hm,J,hb,W⟩
 ·cases a with
  | none =>
   have O:=FC w 29 5 none 0 c underlying29;go_enter func141,ntmps141
   go_wp2
   go_ret;exact r _ _ (Below.refl _ _) (World.ownsRow_nil _ _ _ _)
  | some ad =>
   have O:=FC w 29 5 (some ad) 0 c underlying29;go_enter func141,ntmps141;go_wp2_with fail;go_ret;exact r _ _ E u
 ·by_cases h0:l.length=0
  ·have a3:l=[]:=List.eq_nil_of_length_eq_zero h0;subst a3;have O:=FC w 29 5 (some ⟨b,off,none⟩) 0 cap underlying29;simp only [List.length_nil];go_enter func141,ntmps141;go_wp2_with fail;go_ret;exact r _ _ E u
  ·have O:=FC w 29 5 (some ⟨b,off,none⟩) l.length cap underlying29;have Y:(w.alloc (.cells #[] 5)).rangeAt b off (bvs l):=World.rangeAt_alloc W _;obtain ⟨g,cp,w3,U,a2,a4,a8,a9⟩:=Es (w.alloc (.cells #[] 5)) (base:=w.heap.size) (by simp) _ 0 [] u b off l.length cap l rfl Y om om;have a5:=E.grown a4 (by simp) (fun k q=>by simp only [Value.ownBlock,Option.some.injEq] at q;omega);rw [Nat.zero_add,List.nil_append] at a2;rw [Nat.zero_add] at U;have a6:=ae U;clear U Y W;go_enter func141,ntmps141
   go_wp2_with ((with_reducible apply Bl);exact a6.out;simp only [Act.put,GL,DL,lss])
   go_ret;exact r _ _ a5 a2
theorem BA {w:World}{base e size n:Nat}{v:Value}{xs:List Value}(h:w.ownsRow base e size v n xs):∃ a c,v = .slice a n c:=by
 rcases h.2 with ⟨rfl,rfl⟩ | ⟨g,cap,cur,rfl,_⟩
 ·exact ⟨_,_,rfl⟩
 ·exact ⟨_,_,rfl⟩
def pJ (x:BitVec 64) (k:Nat):UInt8:=UInt8.ofNat (x >>> (8*k)).toNat
def be (n:Nat) (x:BitVec 64):List UInt8:=(List.range n).map fun i=>pJ x (n - 1 - i)
theorem Az (n:Nat) (x:BitVec 64):(be n x).length=n:=by simp [be]
theorem eU (n:Nat) (x:BitVec 64) (j:Nat) (q:j<n):(be n x).take (j+1)=(be n x).take j++[pJ x (n - 1 - j)]:=by
 rw [List.take_succ_eq_append_getElem (by rw [Az];exact q)];simp [be]
theorem XV (x:BitVec 64) (k:Nat):((x >>> (8*k)).toNat:Int) % 256=((pJ x k).toNat:Int):=by
 unfold pJ;rw [UInt8.toNat_ofNat'];omega
theorem bQ (x:BitVec 64) (k:Nat):(x.toNat:Int) / 2 ^ (8*k) % 256=((pJ x k).toNat:Int):=by
 rw [<-XV,BitVec.toNat_ushiftRight,Nat.shiftRight_eq_div_pow];simp
theorem JJ {w:World}{o:Own}{v:Value}{l:List UInt8}(h:Bytes w o v l) (hll:l.length<=4000000) (x:BitVec 64) (n:Nat) (hn:n<=8) :
  Calls prog 186 #[v, .int .u64 (x.toNat:Int), .int .i64 (n:Int)] w (XL ai w o fun v w' o'=>Ew w w' o' v (l++be n x)):=by
 have hcl:=clone_any h hll;go_enter func186,ntmps186;go_wp2_with fail;refine hcl.mono ?_;rintro e wc ⟨v1,oc,rfl,hs,hown1,ho1⟩;have hbel:Below w.heap.size w wc:=hs.below;go_wp2_with fail
 go_loopw [7,8] (fun out i wr=>∃ j:Nat,j<=n/\i = .int .i64 ((n:Int) - 1 - j)/\wr.ownsRow w.heap.size 5 1 out (l.length+j) (bvs (l++(be n x).take j))/\Below w.heap.size w wr)
  (fun _ i _=>(intOf i+1).toNat)
 case atStart=>exact ⟨0,Nat.zero_le _,by simp,by simpa using hown1,hbel⟩
 case round =>
  clear hown1 hbel hs hcl;obtain ⟨j,hj,rfl,r,hbel⟩:=hrel
  by_cases hlt:j<n
  ·obtain ⟨k,q⟩:∃ k:Nat,(n:Int) - 1 - j=(k:Int)/\k=n - 1 - j:=⟨n - 1 - j,om,rfl⟩;obtain ⟨q,u⟩:=q;rw [q];have hk8:k<8:=om
   have a2:=bQ x k;obtain ⟨oa,O,rfl⟩:=BA r;have hownA:=r.alloc (.cells #[.int .u8 ((pJ x k).toNat:Int)] 5);have E:(wr.alloc (.cells #[.int .u8 ((pJ x k).toNat:Int)] 5)).heap[wr.heap.size]?=some (.cells [Value.int .u8 ((pJ x k).toNat:Int)].toArray 5 (0,0)):=heap_alloc_new wr _;have a3:=hbel.size;obtain ⟨g,cap,w3,F,J,U,W,Y⟩:=Es (wr.alloc (.cells #[.int .u8 ((pJ x k).toNat:Int)] 5)) (base:=w.heap.size) (by simp;omega) _ (l.length+j) _ hownA wr.heap.size 0 1 1 [pJ x k] rfl (AV E) om om;have hb3:Below w.heap.size w w3:=(hbel.alloc hbel.size _).grown U (by simp;omega) (fun k q=>(r.lt k q).1);have wW:w3.ownsRow w.heap.size 5 1 (.slice (some ⟨g,0,none⟩) (l.length+j+1) cap) (l.length+(j+1)) (bvs (l++(be n x).take (j+1))):=by
    rw [eU n x j hlt, <-u, <-List.append_assoc];exact J
   have Aax:=ae F;clear F J hownA E r W Y u
   go_wp2_with ((with_reducible apply Bl);exact Aax.out;simp only [Act.put,GL,DL,lss])
   go_roundw
   case rel=>exact ⟨j+1,hlt,by go_num,wW,hb3⟩
   case measure=>(simp [intOf] <;> omega)
  ·have hj':j=n:=om
   subst hj';rw [List.take_of_length_le (by rw [Az];omega)] at r;have hm1:(j:Int) - 1 - j = -1:=om
   rw [hm1];obtain ⟨oa,O,rfl⟩:=BA r;go_wp2_with fail;go_ret;refine ⟨_,(fun k=>if k<w.heap.size then o k else (0,0)),rfl,⟨hbel.os,hbel.tape,hbel.output,hbel.size,fun k q=>if_pos q,fun k q _=>hbel.block k q⟩, ?_,fun k q=>if_neg (by have:=(r.lt k q).1;omega)⟩
   rw [List.length_append,Az];exact r
theorem Ef {w:World}{o:Own}{v:Value}{l:List UInt8}(h:Bytes w o v l) (q:l.length<=4000000) (x:BitVec 64) :
  Calls prog 184 #[v, .int .u64 (x.toNat:Int)] w (XL ai w o fun v w' o'=>Ew w w' o' v (l++be 8 x)):=by
 have hc:=JJ h q x 8 om;go_enter func184,ntmps184;go_wp2_with fail;refine hc.mono ?_;rintro e u ⟨E,o1,rfl,r,hn⟩;go_wp2_with fail;go_ret;exact ⟨_,o1,rfl,r,hn⟩
def num (l:List UInt8):BitVec 64:=l.foldl (fun n c=>(n <<< 8) ||| BitVec.ofNat 64 c.toNat) 0
theorem Ve (l:List UInt8) (c:UInt8):num (l++[c])=(num l <<< 8) ||| BitVec.ofNat 64 c.toNat:=by simp [num]
theorem fE (c:UInt8):((BitVec.ofNat 64 c.toNat).toNat:Int)=(c.toNat:Int):=by
 have:=c.toNat_lt;simp
theorem Nr (x y:BitVec 64):bits .or .u64 (x.toNat:Int) (y.toNat:Int)=((x ||| y).toNat:Int):=by
 have hb:∀ x y:BitVec 64,bits .or .u64 (x.toNat:Int) (y.toNat:Int)=IntKind.u64.wrap (((BitVec.ofInt 64 (x.toNat:Int)) ||| (BitVec.ofInt 64 (y.toNat:Int))).toNat:Int):=fun x y=>rfl;rw [hb,Aem,Aem,wrap64]
theorem NC (x:BitVec 64):IntKind.u64.wrap ((x.toNat:Int)*256)=((x <<< 8).toNat:Int):=by
 rw [BitVec.toNat_shiftLeft,Nat.shiftLeft_eq];simp [IntKind.wrap,IntKind.bits,IntKind.signed]
theorem wrap_u8 (c:UInt8):IntKind.u64.wrap (c.toNat:Int)=((BitVec.ofNat 64 c.toNat).toNat:Int):=by
 have:=wrap64 (BitVec.ofNat 64 c.toNat);rw [fE] at this;rw [this,fE]
theorem FK {w:World}{o:Own}{v:Value}{l:List UInt8}(h:Bytes w o v l) (Y:l.length<=4000000) :
  Calls prog 170 #[v] w fun e w'=>e = .returned (.int .u64 ((num l).toNat:Int))/\w=w':=by
 obtain ⟨a,c,hv⟩:=Aq h;have E:∀ i (q:i<l.length),∃ b off,a=some ⟨b,off,none⟩/\w.cell? ⟨b,off+i,none⟩=some (.int .u8 ((l[i].toNat:Int))):=by
  intro i q
  rcases h.cases with ⟨_,rfl⟩ | ⟨b,off,cap,r,hl,hm,ho,hb,J⟩
  ·simp at q
  ·rw [hv] at r;simp only [Value.slice.injEq] at r;refine ⟨b,off,r.1,J i _ ?_⟩;rw [OW,List.getElem?_eq_getElem q];rfl
 subst hv;clear h;go_enter func170,ntmps170;go_wp2_with fail
 go_loop [3,8] (fun n i=>∃ k:Nat,k<=l.length/\i = .int .i64 k/\n = .int .u64 ((num (l.take k)).toNat:Int)) (fun _ i=>l.length - (intOf i).toNat)
 case atStart=>exact ⟨0,Nat.zero_le _,rfl,rfl⟩
 case round =>
  obtain ⟨k,hk,rfl,rfl⟩:=hrel
  by_cases u:k<l.length
  ·obtain ⟨b,off,rfl,hc⟩:=E k u;have F:num (l.take (k+1))=(num (l.take k) <<< 8) ||| BitVec.ofNat 64 l[k].toNat:=by
    rw [List.take_succ_eq_append_getElem u,Ve]
   have O:=ae F;clear F E;generalize U:l[k]=cc at *;clear U;go_wp2_with fail
   go_round
   case rel=>exact ⟨k+1,u,by go_num,by rw [O.out, <-Nr, <-NC, <-wrap_u8]⟩
   case measure=>simp [intOf];omega
  ·have W:k=l.length:=om
   subst W;rw [List.take_length];go_wp2_with fail;go_ret;exact ⟨rfl,rfl⟩
def Xq:BitVec 64:=0xc96c5795d7870f42#64
def TW (n:BitVec 64):BitVec 64:=(n >>> 1) ^^^ (Xq &&& -(n &&& 1#64))
def Ie (n:BitVec 64):Nat->BitVec 64
 | 0=>n
 | k+1=>TW (Ie n k)
def XT (n:BitVec 64) (c:UInt8):BitVec 64:=Ie (n ^^^ BitVec.ofNat 64 c.toNat) 8
def Jr (l:List UInt8):BitVec 64:=l.foldl XT (BitVec.allOnes 64)
def Qk (l:List UInt8):BitVec 64 := ~~~ Jr l
theorem VR (l:List UInt8) (c:UInt8):Jr (l++[c])=XT (Jr l) c:=by simp [Jr]
theorem Qq (x y:BitVec 64):bits .xor .u64 (x.toNat:Int) (y.toNat:Int)=((x ^^^ y).toNat:Int):=by
 have hb:∀ x y:BitVec 64,bits .xor .u64 (x.toNat:Int) (y.toNat:Int)=IntKind.u64.wrap (((BitVec.ofInt 64 (x.toNat:Int)) ^^^ (BitVec.ofInt 64 (y.toNat:Int))).toNat:Int):=fun x y=>rfl;rw [hb,Aem,Aem,wrap64]
theorem Ns (x y:BitVec 64):bits .and .u64 (x.toNat:Int) (y.toNat:Int)=((x &&& y).toNat:Int):=by
 have hb:∀ x y:BitVec 64,bits .and .u64 (x.toNat:Int) (y.toNat:Int)=IntKind.u64.wrap (((BitVec.ofInt 64 (x.toNat:Int)) &&& (BitVec.ofInt 64 (y.toNat:Int))).toNat:Int):=fun x y=>rfl;rw [hb,Aem,Aem,wrap64]
theorem Zu (x:BitVec 64):IntKind.u64.wrap (-(x.toNat:Int))=((-x).toNat:Int):=by
 have:=x.isLt;rw [BitVec.toNat_neg];simp only [IntKind.wrap,IntKind.bits,IntKind.signed];simp;omega
theorem Xr (y:BitVec 64):bits .xor .u64 IntKind.u64.max (y.toNat:Int)=((~~~y).toNat:Int):=by
 have q:=Qq (BitVec.allOnes 64) y;have r:((BitVec.allOnes 64).toNat:Int)=IntKind.u64.max:=by decide
 rw [r,BitVec.allOnes_xor] at q;exact q
theorem VQ (y:BitVec 64):bits .xor .u64 ((y.toNat:Int) / 2) (bits .and .u64 14514072000185962306 (IntKind.u64.wrap (-bits .and .u64 (y.toNat:Int) 1)))=((TW y).toNat:Int):=by
 have r:bits .and .u64 (y.toNat:Int) 1=((y &&& 1#64).toNat:Int):=Ns y 1#64;have u:(y.toNat:Int) / (2:Int)=((y >>> 1).toNat:Int):=by
  rw [BitVec.toNat_ushiftRight,Nat.shiftRight_eq_div_pow];simp
 rw [r,Zu,u];have q:=Ns Xq (-(y &&& 1#64));have h4:((Xq).toNat:Int)=14514072000185962306:=by decide
 rw [h4] at q;rw [q,Qq];rfl
theorem eQ {w:World}{o:Own}{v:Value}{l:List UInt8}(h:Bytes w o v l) (a7:l.length<=1000000) :
  Calls prog 254 #[v] w fun e w'=>e = .returned (.int .u64 ((Qk l).toNat:Int))/\w=w':=by
 obtain ⟨a,c,hv⟩:=Aq h;have J:∀ i (u:i<l.length),∃ b off,a=some ⟨b,off,none⟩/\w.cell? ⟨b,off+i,none⟩=some (.int .u8 ((l[i].toNat:Int))):=by
  intro i u
  rcases h.cases with ⟨_,rfl⟩ | ⟨b,off,cap,E,hl,hm,ho,hb,W⟩
  ·simp at u
  ·rw [hv] at E;simp only [Value.slice.injEq] at E;refine ⟨b,off,E.1,W i _ ?_⟩;rw [OW,List.getElem?_eq_getElem u];rfl
 subst hv;clear h;go_enter func254,ntmps254;go_wp2_with fail
 go_loop [3,9] (fun n i=>∃ k:Nat,k<=l.length/\i = .int .i64 k/\n = .int .u64 ((Jr (l.take k)).toNat:Int)) (fun _ i=>l.length - (intOf i).toNat)
 case atStart=>exact ⟨0,Nat.zero_le _,rfl,rfl⟩
 case round =>
  obtain ⟨k,hk,rfl,rfl⟩:=hrel
  by_cases F:k<l.length
  ·obtain ⟨b,off,rfl,hc⟩:=J k F;have O:Jr (l.take (k+1))=Ie (Jr (l.take k) ^^^ BitVec.ofNat 64 l[k].toNat) 8:=by
    rw [List.take_succ_eq_append_getElem F,VR];rfl
   have Y:=ae O;clear O J;generalize a2:l[k]=q at *;clear a2;generalize a3:Jr (l.take k)=r at *;clear a3;go_wp2_with fail
   go_loop [3,17] (fun n i=>∃ j:Nat,j<=8/\i = .int .i64 j/\n = .int .u64 ((Ie (r ^^^ BitVec.ofNat 64 q.toNat) j).toNat:Int)) (fun _ i=>8 - (intOf i).toNat)
   case atStart=>exact ⟨0,om,rfl,by rw [wrap_u8,Qq];rfl⟩
   case round =>
    obtain ⟨j,hj,rfl,rfl⟩:=hrel
    by_cases a4:j<8
    ·have U:Ie (r ^^^ BitVec.ofNat 64 q.toNat) (j+1)=TW (Ie (r ^^^ BitVec.ofNat 64 q.toNat) j):=rfl;have a5:=ae U;clear U;generalize Ie (r ^^^ BitVec.ofNat 64 q.toNat) j=y at *;go_wp2_with fail
     go_round
     case rel=>exact ⟨j+1,a4,by go_num,by rw [a5.out, <-VQ]⟩
     case measure=>simp [intOf];omega
    ·have:j=8:=om
     subst this;go_wp2_with fail
     go_round
     case rel=>exact ⟨k+1,F,by go_num,by rw [Y.out]⟩
     case measure=>simp [intOf];omega
  ·have a6:k=l.length:=om
   subst a6;rw [List.take_length];go_wp2_with fail;go_ret;refine ⟨?_,rfl⟩;show Ending.returned (Value.int .u64 (bits .xor .u64 IntKind.u64.max ((Jr l).toNat:Int)))=_;rw [Xr];rfl
structure AA where
 stamp:BitVec 64
 at':Nat
 of':Nat
 bytes:List UInt8
namespace AA
def said (x:AA):List UInt8:=
 be 8 x.stamp++be 2 (BitVec.ofNat 64 x.at')++be 2 (BitVec.ofNat 64 x.of')++be 4 (BitVec.ofNat 64 x.bytes.length)++x.bytes++List.replicate (480 - x.bytes.length) 0
def page (x:AA):List UInt8:=x.said++(be 8 (Qk x.said)).reverse++be 8 x.stamp
theorem Kt {x:AA}(h:x.bytes.length<=480):x.said.length=496:=by
 simp [said,Az];omega
theorem ES {x:AA}(h:x.bytes.length<=480):x.page.length=512:=by
 simp [page,Az,Kt h]
end AA
def Xb:AA:=⟨0,0,0,[]⟩
def GY (p:List UInt8):AA:=⟨num (p.take 8),(num ((p.drop 8).take 2)).toNat,(num ((p.drop 10).take 2)).toNat,(p.drop 16).take (num ((p.drop 12).take 4)).toNat⟩
def iU (p:List UInt8):Bool := !(num (p.take 8) == 0#64) && decide ((num ((p.drop 12).take 4)).toNat<=480) && ((GY p).page == p)
def CE (p:List UInt8):AA × Bool:=
 if num (p.take 8)=0#64 \/ 480<(num ((p.drop 12).take 4)).toNat then (Xb,false) else (GY p,(GY p).page == p)
structure Ad where
 first:Nat
 n:Nat
 stamp:BitVec 64
 Dx:Bool
 end':Nat
 records:List (List UInt8)
 dead:Bool
namespace Ad
def KX (a b:BitVec 64):BitVec 64:=if a.toNat<b.toNat then b else a
def newest (pages:List (List UInt8)):BitVec 64:=pages.foldl (fun s p=>KX (KX s (num (p.take 8))) (num (p.drop 504))) 0
def Ah (pages:List (List UInt8)):List AA:=(pages.takeWhile fun p=>(CE p).2).map fun p=>(CE p).1
def run (stamp:BitVec 64) (of':Nat):Nat->List AA->Bool
 | _,[]=>true
 | i,y :: r=>y.stamp == stamp && y.at' == i && y.of' == of' && run stamp of' (i+1) r
def accept (leaves:List AA) (e:Nat) (last:BitVec 64):Option (Nat × BitVec 64 × List UInt8):=
 match leaves[e]? with
 | none=>none
 | some x =>
  if x.stamp.toNat<=last.toNat \/ x.of'<1 \/ leaves.length - e<x.of' then none
  else if run x.stamp x.of' 0 ((leaves.drop e).take x.of') then some (x.of',x.stamp,((leaves.drop e).take x.of').flatMap AA.bytes) else none
def Eb (leaves:List AA):Nat->Nat × BitVec 64 × List (List UInt8)->Nat × BitVec 64 × List (List UInt8)
 | 0,s=>s
 | f+1,s =>
  match accept leaves s.1 s.2.1 with
  | none=>s
  | some r=>Eb leaves f (s.1+r.1,r.2.1,s.2.2++[r.2.2])
def Di:List AA->Bool
 | []=>false
 | x :: _=>x.at' == 0 && x.of' == 0 && x.bytes.length == 0
def AaJ:List AA->BitVec 64
 | []=>0
 | x :: _=>x.stamp
def readAll (ls:List AA):Nat × BitVec 64 × List (List UInt8):=Eb ls ls.length (1,AaJ ls,[])
def AY (first:Nat) (pages:List (List UInt8)):Ad:=
 let ls:=Ah pages
 { first:=first,n:=pages.length,stamp:=newest pages,Dx:=Di ls,end':=if Di ls then (readAll ls).1 else 1,records:=if Di ls then (readAll ls).2.2 else [],dead:=false }
def Aw (d:Af) (first n:Nat):List (List UInt8):=(List.range n).map fun i=>d.seen (first+i)
def jA (d:Af) (first n:Int):Option Ad × Int:=
 if d.dead then (none,9)
 else if n<2 \/ first<0 \/ (d.pages.length:Int) - n<first then (none,1)
 else if newest (Aw d first.toNat n.toNat)=BitVec.allOnes 64 then (none,2)
 else (some (AY first.toNat (Aw d first.toNat n.toNat)),0)
def room (l:Ad):Nat:=480*(l.n - l.end')
def many (b:List UInt8):Nat:=max 1 ((b.length+479) / 480)
def part (b:List UInt8) (i:Nat):List UInt8:=(b.drop (480*i)).take 480
def head (s:Ad × Af):(Ad × Af) × Int:=
 let l:={ s.1 with stamp:=s.1.stamp+1#64 }
 let r:=s.2.write l.first (AA.page ⟨l.stamp,0,0,[]⟩)
 if r.2 ≠ 0 then ((l,r.1),r.2) else ((l,r.1.sync.1),r.1.sync.2)
def put (l:Ad) (of':Nat) (b:List UInt8):Nat->Nat->Af->Af × Int
 | 0,_,d=>(d,0)
 | k+1,i,d =>
  let r:=d.write ((l.first+l.end'+i:Nat):Int) (AA.page ⟨l.stamp,i,of',part b i⟩)
  if r.2 ≠ 0 then r else put l of' b k (i+1) r.1
def step1 (b:List UInt8) (s:Ad × Af):(Ad × Af) × Int:=if s.1.n - s.1.end'<many b then (s,4) else (s,0)
def step2 (s:Ad × Af):(Ad × Af) × Int:=
 if s.1.Dx then (s,0) else
  let r:=head s
  (({ r.1.1 with Dx:=r.2 == 0 },r.1.2),r.2)
def step3 (b:List UInt8) (s:Ad × Af):(Ad × Af) × Int:=
 let l:={ s.1 with stamp:=s.1.stamp+1#64 }
 let r:=put l (many b) b (many b) 0 s.2
 if r.2 ≠ 0 then ((l,r.1),r.2) else ((l,r.1.sync.1),r.1.sync.2)
def step4 (b:List UInt8) (s:Ad × Af):(Ad × Af) × Int:=(({ s.1 with records:=s.1.records++[b],end':=s.1.end'+many b },s.2),0)
def Hr (s:Ad × Af):(Ad × Af) × Int:=(({ s.1 with Dx:=true,records:=[],end':=1 },s.2),0)
def steps:List ((Ad × Af)->(Ad × Af) × Int)->(Ad × Af)->(Ad × Af) × Int
 | [],s=>(s,0)
 | f :: r,s=>if (f s).2 ≠ 0 then (({ (f s).1.1 with dead:=(f s).1.1.dead || (f s).2 == 9 },(f s).1.2),(f s).2) else steps r (f s).1
def alive (fs:List ((Ad × Af)->(Ad × Af) × Int)) (s:Ad × Af):(Ad × Af) × Int:=
 if s.1.dead || s.2.dead then (s,9) else steps fs s
def Ag (b:List UInt8) (s:Ad × Af):(Ad × Af) × Int:=alive [step1 b,step2,step3 b,step4 b] s
def reset (s:Ad × Af):(Ad × Af) × Int:=alive [head,Hr] s
end Ad
def Apz (l:List UInt8):Nat:=l.foldl (fun n c=>n*256+c.toNat) 0
theorem WY (l:List UInt8):∀ n:Nat,l.foldl (fun n c=>n*256+c.toNat) n=n*256 ^ l.length+Apz l:=by
 unfold Apz
 induction l with
 | nil=>intro n;simp
 | cons c r q =>
  intro n;simp only [List.foldl_cons,List.length_cons];rw [q (n*256+c.toNat),q (0*256+c.toNat),Nat.pow_succ];rw [Nat.add_mul,Nat.zero_mul,Nat.zero_add,Nat.mul_assoc,Nat.mul_comm 256,Nat.add_assoc]
theorem KJ (c:UInt8) (l:List UInt8):Apz (c :: l)=c.toNat*256 ^ l.length+Apz l:=by
 have:=WY l (0*256+c.toNat);unfold Apz at this ⊢;simp only [List.foldl_cons];rw [this];simp
theorem Jg (l:List UInt8):Apz l<256 ^ l.length:=by
 induction l with
 | nil=>simp [Apz]
 | cons c r q =>
  rw [KJ,List.length_cons,Nat.pow_succ];have u:=c.toNat_lt;have E:c.toNat*256 ^ r.length<=255*256 ^ r.length:=Nat.mul_le_mul_right _ om;omega
theorem AeJ:∀ {a b:List UInt8},a.length=b.length->Apz a=Apz b->a=b
 | [],[],_,_=>rfl
 | [],_ :: _,h,_=>by simp at h
 | _ :: _,[],h,_=>by simp at h
 | x :: a,y :: b,h,e=>by
  have hl:a.length=b.length:=by simpa using h
  rw [KJ,KJ,hl] at e;have q:=Jg a;have r:=Jg b;rw [hl] at q;have hp:0<256 ^ b.length:=Nat.pow_pos om;have e1:x.toNat=y.toNat:=by
   have:=congrArg (fun t=>t / 256 ^ b.length) e;rw [Nat.add_comm,Nat.add_mul_div_right _ _ hp,Nat.div_eq_of_lt q,Nat.add_comm,Nat.add_comm (y.toNat*_),Nat.add_mul_div_right _ _ hp,Nat.div_eq_of_lt r] at this;omega
  have e2:Apz a=Apz b:=by rw [e1] at e;omega
  rw [UInt8.toNat_inj.1 e1,AeJ hl e2]
theorem YH (l:List UInt8):(num l).toNat=Apz l % 2 ^ 64:=by
 have q:∀ (l:List UInt8) (n:Nat),(l.foldl (fun (n:BitVec 64) (c:UInt8)=>(n <<< 8) ||| BitVec.ofNat 64 c.toNat) (BitVec.ofNat 64 n))=BitVec.ofNat 64 (l.foldl (fun n c=>n*256+c.toNat) n):=by
  intro l
  induction l with
  | nil=>intro n;rfl
  | cons c r u =>
   intro n;simp only [List.foldl_cons];rw [<-u];congr 1;have hc:=c.toNat_lt;apply BitVec.eq_of_toNat_eq;have E:BitVec.ofNat 64 n <<< 8 &&& BitVec.ofNat 64 c.toNat=0#64:=by
    apply BitVec.eq_of_getLsbD_eq;intro i J;simp only [BitVec.getLsbD_and,BitVec.getLsbD_shiftLeft,BitVec.getLsbD_ofNat]
    by_cases F:i<8
    ·simp [F]
    ·have:c.toNat.testBit i=false:=Nat.testBit_lt_two_pow (Nat.lt_of_lt_of_le hc (Nat.pow_le_pow_right om (show 8<=i by omega)));simp [this]
   rw [<-BitVec.add_eq_or_of_and_eq_zero _ _ E];simp only [BitVec.toNat_add,BitVec.toNat_shiftLeft,BitVec.toNat_ofNat,Nat.shiftLeft_eq];omega
 have:=q l 0;unfold num Apz;rw [show (0:BitVec 64)=BitVec.ofNat 64 0 from rfl,this];simp
theorem EL {l:List UInt8}(h:l.length<=8):(num l).toNat=Apz l:=by
 rw [YH];apply Nat.mod_eq_of_lt;have q:=Jg l;have r:256 ^ l.length<=256 ^ 8:=Nat.pow_le_pow_right om h;have:(256:Nat) ^ 8=2 ^ 64:=by decide
 omega
theorem TZ (n:Nat) (x:BitVec 64):be (n+1) x=pJ x n :: be n x:=by
 unfold be;rw [List.range_succ_eq_map,List.map_cons,List.map_map];congr 1;apply List.map_congr_left;intro i _;simp only [Function.comp];congr 1;omega
theorem RZ (x:BitVec 64) (k:Nat):(pJ x k).toNat=x.toNat / 256 ^ k % 256:=by
 unfold pJ;rw [UInt8.toNat_ofNat',BitVec.toNat_ushiftRight,Nat.shiftRight_eq_div_pow,Nat.pow_mul]
theorem Tu (x:BitVec 64):∀ n:Nat,Apz (be n x)=x.toNat % 256 ^ n
 | 0=>by simp [be,Apz,Nat.mod_one]
 | n+1=>by
  rw [TZ,KJ,Tu x n,Az,RZ,Nat.pow_succ,Nat.mod_mul];rw [Nat.mul_comm,Nat.add_comm]
theorem NJ {n:Nat}(hn:n<=8) (x:BitVec 64) (q:x.toNat<256 ^ n):(num (be n x)).toNat=x.toNat:=by
 rw [EL (by rw [Az];exact hn),Tu,Nat.mod_eq_of_lt q]
theorem Tt (x:BitVec 64):num (be 8 x)=x:=BitVec.eq_of_toNat_eq (NJ om x (Nat.lt_of_lt_of_le x.isLt (by decide)))
namespace AA
def ok (x:AA):Prop:=x.stamp ≠ 0#64/\x.at'<65536/\x.of'<65536/\x.bytes.length<=480
theorem Hy (x:AA) (h:x.bytes.length<=480):x.page.take 8=be 8 x.stamp/\(x.page.drop 8).take 2=be 2 (BitVec.ofNat 64 x.at')/\(x.page.drop 10).take 2=be 2 (BitVec.ofNat 64 x.of') /\
  (x.page.drop 12).take 4=be 4 (BitVec.ofNat 64 x.bytes.length)/\(x.page.drop 16).take x.bytes.length=x.bytes/\x.page.drop 504=be 8 x.stamp:=by
 have r:=Az 8 x.stamp;have u:=Az 2 (BitVec.ofNat 64 x.at');have E:=Az 2 (BitVec.ofNat 64 x.of');have h4:=Az 4 (BitVec.ofNat 64 x.bytes.length);have F:=Kt h;have O:(be 8 (Qk x.said)).reverse.length=8:=by simp [Az]
 have q:∀ (a b c:List UInt8) (n m:Nat),a.length=n->b.length=m->((a++(b++c)).drop n).take m=b:=by
  intro a b c n m J hb;rw [List.drop_left' J,List.take_left' hb]
 have hp:x.page=be 8 x.stamp++(be 2 (BitVec.ofNat 64 x.at')++(be 2 (BitVec.ofNat 64 x.of')++(be 4 (BitVec.ofNat 64 x.bytes.length)++(x.bytes++(List.replicate (480 - x.bytes.length) 0++((be 8 (Qk x.said)).reverse++be 8 x.stamp)))))):=by
  simp only [page,said,List.append_assoc]
 refine ⟨?_, ?_, ?_, ?_, ?_, ?_⟩
 ·rw [hp,List.take_left' r]
 ·rw [hp];exact q _ _ _ _ _ r u
 ·rw [hp, <-List.append_assoc];exact q _ _ _ _ _ (by simp [Az]) E
 ·rw [hp, <-List.append_assoc, <-List.append_assoc];exact q _ _ _ _ _ (by simp [Az]) h4
 ·rw [hp, <-List.append_assoc, <-List.append_assoc, <-List.append_assoc];exact q _ _ _ _ _ (by simp [Az]) rfl
 ·unfold page;rw [List.drop_left' (by simp [Az,F])]
theorem Vr {x:AA}(h:x.ok):GY x.page=x:=by
 obtain ⟨h0,J,O,q⟩:=h;obtain ⟨e1,e2,r,u,E,_⟩:=Hy x q;have n2:(num (be 2 (BitVec.ofNat 64 x.at'))).toNat=x.at':=by
  have:(BitVec.ofNat 64 x.at').toNat=x.at':=by simp;omega
  rw [NJ om _ (by rw [this];omega),this]
 have n3:(num (be 2 (BitVec.ofNat 64 x.of'))).toNat=x.of':=by
  have:(BitVec.ofNat 64 x.of').toNat=x.of':=by simp;omega
  rw [NJ om _ (by rw [this];omega),this]
 have F:(num (be 4 (BitVec.ofNat 64 x.bytes.length))).toNat=x.bytes.length:=by
  have:(BitVec.ofNat 64 x.bytes.length).toNat=x.bytes.length:=by simp;omega
  rw [NJ om _ (by rw [this];omega),this]
 unfold GY;rw [e1,e2,r,u,n2,n3,F,E,Tt]
theorem Hq {x:AA}(h:x.ok):CE x.page=(x,true):=by
 have hl:=Vr h;obtain ⟨h0,E,F,q⟩:=h;obtain ⟨e1,e2,J,r,O,_⟩:=Hy x q;have u:(num (be 4 (BitVec.ofNat 64 x.bytes.length))).toNat=x.bytes.length:=by
  have:(BitVec.ofNat 64 x.bytes.length).toNat=x.bytes.length:=by simp;omega
  rw [NJ om _ (by rw [this];omega),this]
 unfold CE;rw [e1,r,u,Tt,if_neg (by simp only [not_or];exact ⟨h0,om⟩),hl];simp
end AA
theorem Lp {p:List UInt8}(h:(CE p).2=true):CE p=(GY p,true)/\(GY p).page=p/\(num ((p.drop 12).take 4)).toNat<=480/\num (p.take 8) ≠ 0#64:=by
 unfold CE at h ⊢;split at h
 ·cases h
 ·rename_i hc;rw [if_neg hc];simp only [not_or,Nat.not_lt] at hc;have q:(GY p).page=p:=by simpa using h
  exact ⟨by rw [q];simp,q,hc.2,hc.1⟩
theorem PU (p:List UInt8) (h:(num ((p.drop 12).take 4)).toNat<=480):(GY p).bytes.length<=480:=by
 simp only [GY,List.length_take];omega
def Act.puts (a:Act):List Nat->List Value->Act
 | d :: ds,u :: us=>Act.puts (a.put (some d) u) ds us
 | _,_=>a
theorem dI (a:Act) (d:Nat) (u v:Value):(a.put (some d) u).put (some d) v=a.put (some d) v:=by
 simp [Act.put]
theorem aC (a:Act) (d e:Nat) (u v:Value) (h:d ≠ e):(a.put (some d) u).put (some e) v=(a.put (some e) v).put (some d) u:=by
 simp only [Act.put];rw [Array.setIfInBounds_comm _ _ h]
theorem UR:∀ (q:List Nat) (r:List Value) (a:Act) (d:Nat) (v:Value),d ∉ q->(Act.puts a q r).put (some d) v=Act.puts (a.put (some d) v) q r
 | [],_,_,_,_,_=>rfl
 | _ :: _,[],_,_,_,_=>rfl
 | e :: q,u :: r,a,d,v,h=>by
  simp only [List.mem_cons,not_or] at h;simp only [Act.puts];rw [UR q r _ d v h.2,aC _ _ _ _ _ (Ne.symm h.1)]
theorem UQ:∀ (q:List Nat) (r:List Value) (a:Act) (k d:Nat) (v:Value),q.Nodup->q[k]?=some d->q.length=r.length->Act.puts a q (r.set k v)=(Act.puts a q r).put (some d) v
 | [],_,_,_,_,_,_,h,_=>by simp at h
 | _ :: _,[],_,_,_,_,_,_,h=>by simp at h
 | e :: q,u :: r,a,0,d,v,hn,h,hl=>by
  simp only [ay,Option.some.injEq] at h;subst h;simp only [DL,Act.puts];rw [UR q r _ _ _ (List.nodup_cons.1 hn).1,dI]
 | e :: q,u :: r,a,k+1,d,v,hn,h,hl=>by
  simp only [lss,Act.puts];exact UQ q r _ k d v (List.nodup_cons.1 hn).2 (by simpa using h) (by simpa using hl)
def CS (l:Array Bool):List Nat->List Bool->Array Bool
 | i :: is,b :: s=>CS (if b then l.setIfInBounds i true else l) is s
 | _,_=>l
theorem ZP (l:Array Bool) (i j:Nat):(l.setIfInBounds i true).setIfInBounds j true=(l.setIfInBounds j true).setIfInBounds i true:=by
 by_cases h:i=j
 ·subst h;rfl
 ·rw [Array.setIfInBounds_comm _ _ h]
theorem GI:∀ (is:List Nat) (s:List Bool) (l:Array Bool) (i:Nat),CS (l.setIfInBounds i true) is s=(CS l is s).setIfInBounds i true
 | [],_,_,_=>rfl
 | _ :: _,[],_,_=>rfl
 | j :: is,b :: s,l,i=>by
  simp only [CS]
  cases b
  ·simp only [Bool.false_eq_true,if_false];exact GI is s l i
  ·simp only [if_true];rw [ZP,GI is s _ i]
theorem MQ:∀ (is:List Nat) (s:List Bool) (l:Array Bool) (k i:Nat),is[k]?=some i->is.length=s.length->s[k]?=some false->CS l is (s.set k true)=(CS l is s).setIfInBounds i true
 | [],_,_,_,_,h,_,_=>by simp at h
 | _ :: _,[],_,_,_,_,h,_=>by simp at h
 | j :: is,b :: s,l,0,i,h,hl,hb=>by
  simp only [ay,Option.some.injEq] at h hb;subst h;subst hb;simp only [DL,CS,if_true,Bool.false_eq_true,if_false];exact GI is s l _
 | j :: is,b :: s,l,k+1,i,h,hl,hb=>by
  simp only [lss,CS];exact MQ is s _ k i (by simpa using h) (by simpa using hl) (by simpa using hb)
theorem Ld:∀ (is:List Nat) (s:List Bool) (l:Array Bool) (k i:Nat),is[k]?=some i->s[k]?=some true->(CS l is s).getD i true=true
 | [],_,_,_,_,h,_=>by simp at h
 | _ :: _,[],_,_,_,_,h=>by simp at h
 | j :: is,b :: s,l,0,i,h,hb=>by
  simp only [ay,Option.some.injEq] at h hb;subst h;subst hb;simp only [CS,if_true];rw [GI]
  by_cases q:j<(CS l is s).size
  ·simp [q]
  ·rw [Array.getD_eq_getD_getElem?,Array.getElem?_eq_none (by simpa using q)];rfl
 | j :: is,b :: s,l,k+1,i,h,hb=>by
  simp only [CS];exact Ld is s _ k i (by simpa using h) (by simpa using hb)
theorem Kr:∀ (is:List Nat) (s:List Bool) (l:Array Bool) (k i:Nat),is.Nodup->is[k]?=some i->s[k]?=some false->l.getD i false=false->(CS l is s).getD i false=false
 | [],_,_,_,_,_,h,_,_=>by simp at h
 | _ :: _,[],_,_,_,_,_,h,_=>by simp at h
 | j :: is,b :: s,l,0,i,hn,h,hb,hf=>by
  simp only [ay,Option.some.injEq] at h hb;subst h;subst hb;simp only [CS,Bool.false_eq_true,if_false];have r:=(List.nodup_cons.1 hn).1;clear hn
  induction is generalizing s l with
  | nil=>exact hf
  | cons q is E =>
   cases s with
   | nil=>exact hf
   | cons c s =>
    simp only [List.mem_cons,not_or] at r;simp only [CS];refine E s _ ?_ r.2;split
    ·rw [getD_set_ne false (Ne.symm r.1)];exact hf
    ·exact hf
 | j :: is,b :: s,l,k+1,i,hn,h,hb,hf=>by
  simp only [CS];have u:=List.nodup_cons.1 hn;have F:j ≠ i:=by
   rintro rfl;exact u.1 (List.mem_of_getElem? (by simpa using h))
  refine Kr is s _ k i u.2 (by simpa using h) (by simpa using hb) ?_;split
  ·rw [getD_set_ne false F];exact hf
  ·exact hf
def Gw:Nat->List (List Bool)
 | 0=>[[]]
 | n+1=>(Gw n).map (true :: ·)++(Gw n).map (false :: ·)
theorem La:∀ (n:Nat) (s:List Bool),s.length=n->s ∈ Gw n
 | 0,s,h=>by rw [List.eq_nil_of_length_eq_zero h];simp [Gw]
 | n+1,[],h=>by simp at h
 | n+1,b :: s,h=>by
  have:=La n s (by simpa using h)
  cases b <;> simp [Gw,this]
section
variable {P:Program}{ops:Array Oper}{Q:Exit->Act->World->Prop}{md:Region.Mode}{S:World->Prop}{need:Nat->Bool}
def Aay (md:Region.Mode) (ops:Array Oper) (l:Array Bool) (idx:List Nat) (AcB:List Nat):Bool:=
 (idx.length == AcB.length) && decide idx.Nodup && decide AcB.Nodup && (idx.all fun i => !l.getD i false) && ((idx.zip AcB).all fun x=>match ops[x.1]? with | some o=>o.dst == some x.2 | none=>false) &&
 (Gw idx.length).all fun s=>s.all (fun b=>b) || (let rd:=Region.ready md ops (CS l idx s); !rd.isEmpty && rd.all (fun i=>idx.contains i))
def JF (md:Region.Mode) (ops:Array Oper) (i j:Nat):Bool:=match ops[i]? with
 | some o=>o.after.any fun e=>Region.binds md e && e.on == j
 | none=>false
theorem LY {i:Nat}{E:Oper}{a:Act}{w:World}{K:Act->World->Prop}(hi:ops[i]?=some E) (h:wpList P ops (Exit.then K Q) [E] a w):wpOp P ops Q i K a w:=by
 unfold wpOp;simp only [hi];unfold wpList at h;split
 ·rename_i hw;rw [if_pos hw] at h
  rcases h with h | ⟨F,J,w',O⟩
  ·left
   unfold Oper.wp at *;generalize (execOp a.eval E).run P w=r at *
   cases r with
   | ok n w' =>
    cases n <;> simp only [Oper.upon] at h ⊢
    case value u=>exact h
    case skip=>exact h
    case defer d=>exact h
    case enter f args =>
     refine Calls.mono h fun e U q => ?_
     cases e with
     | returned u=>exact q
     | panicked c=>exact q
     | outgrown=>obtain ⟨a1,W,Y⟩:=q;exact ⟨a1,W,Y⟩
    case row row args=>exact Rows.mono h fun u U q=>q
   | halt x w' =>
    cases x <;> simp only [Oper.upon] at h ⊢
    case panic u=>exact h
  ·exact .inr ⟨F,J,w',O⟩
 ·rename_i hw;rw [if_neg hw] at h;exact h
theorem RV:∀ (s:List Bool) (k:Nat),s[k]?=some false->(s.set k true).count false+1=s.count false
 | [],_,h=>by simp at h
 | b :: s,0,h=>by
  simp only [ay,Option.some.injEq] at h;subst h;simp
 | b :: s,k+1,h=>by
  have:=RV s k (by simpa using h);simp only [lss,List.count_cons];omega
theorem Nu:∀ (s:List Bool),s.count false=0->s=List.replicate s.length true
 | [],_=>rfl
 | b :: s,h=>by
  simp only [List.count_cons] at h;have:=Nu s om
  cases b
  ·simp at h
  ·simp only [List.length_cons,List.replicate_succ];rw [<-this]
theorem Wy (q F:List Nat) (T:Nat->Prop) (J:List Bool->World->Own->Prop) (R:Nat->Value->World->Own->Prop) {fuel:Nat}{U:Array Bool}{a:Act}{w:World}{o:Own}
  (a6:Aay md ops U q F=true)
  (hR:∀ k u w o w' o',R k u w o->aj T w o w' o'->R k u w' o')
  (wC:List Value) (wH:wC.length=q.length) (ha:Act.puts a F wC=a)
  (h0:J (List.replicate q.length false) w o)
  (a9:∀ (k i:Nat) (op:Oper),q[k]?=some i->ops[i]?=some op->∀ (s:List Bool) (r:List Value) (w:World) (o:Own),s.length=q.length->r.length=q.length->s[k]?=some false ->
   (∀ (j O:Nat),q[j]?=some O->JF md ops i O=true->s[j]?=some true)->J s w o->(∀ j:Nat,s[j]?=some true->R j (r.getD j undef) w o) ->
   wpList P ops (Exit.then (fun a' w'=>∃ v o',a'=(Act.puts a F r).put op.dst v/\aj T w o w' o'/\J (s.set k true) w' o'/\R k v w' o'/\(need i=true->S w')) Q) [op] (Act.puts a F r) w)
  (b1:∀ (r:List Value) (w:World) (o:Own),r.length=q.length->J (List.replicate q.length true) w o->(∀ j:Nat,j<q.length->R j (r.getD j undef) w o) ->
   Dq P md ops Q S need fuel (CS U q (List.replicate q.length true)) (Act.puts a F r) w) :
  Dq P md ops Q S need (fuel+q.length) U a w:=by
 simp only [Aay,Bool.and_eq_true,beq_iff_eq,decide_eq_true_eq] at a6;obtain ⟨⟨⟨⟨⟨hl,b2⟩,b3⟩,b4⟩,b5⟩,b6⟩:=a6;have b7:∀ (c:Nat) (s:List Bool) (r:List Value) (w:World) (o:Own),s.count false=c->s.length=q.length->r.length=q.length->J s w o->(∀ j:Nat,s[j]?=some true->R j (r.getD j undef) w o) ->
   Dq P md ops Q S need (fuel+c) (CS U q s) (Act.puts a F r) w:=by
  intro c
  induction c with
  | zero =>
   intro s r w o hc W hu hJ hr;have:=Nu s hc;rw [W] at this;subst this;refine b1 r w o hu hJ fun j E=>hr j ?_;rw [List.getElem?_replicate,if_pos E]
  | succ c ih =>
   intro s r w o hc W hu hJ hr;have a2:=List.all_eq_true.1 b6 s (La _ s W);have zS:(s.all fun b=>b)=false:=by
    cases hq:(s.all fun b=>b)
    ·rfl
    ·exfalso
     have:∀ b ∈ s,b=true:=by simpa using hq
     have h2:s.count false=0:=List.count_eq_zero.2 fun hm=>by have:=this _ hm;cases this
     omega
   rw [zS] at a2;simp only [Bool.false_or,Bool.and_eq_true,Bool.not_eq_true',List.isEmpty_eq_false_iff] at a2;rw [<-Nat.add_assoc];refine ⟨fun h=>absurd h a2.1,fun i hi => ?_⟩;have b8:=List.all_eq_true.1 a2.2 i hi;have b9:i ∈ q:=by simpa using b8
   obtain ⟨k,Y⟩:=List.mem_iff_getElem?.1 b9;have d1:k<q.length:=(List.getElem?_eq_some_iff.1 Y).1;obtain ⟨c0,op,a3,c3⟩:=mem_ready.1 hi;have a4:s[k]?=some false:=by
    cases hb:s[k]? with
    | none=>rw [List.getElem?_eq_none_iff] at hb;omega
    | some b =>
     cases b
     ·rfl
     ·have:=Ld q s U k i Y hb;rw [c0] at this;cases this
   have c4:∃ d,F[k]?=some d/\op.dst=some d:=by
    obtain ⟨d,hd⟩:∃ d,F[k]?=some d:=⟨_,List.getElem?_eq_getElem om⟩;refine ⟨d,hd, ?_⟩;have:(i,d) ∈ q.zip F:=List.mem_iff_getElem?.2 ⟨k,by rw [List.getElem?_zip_eq_some];exact ⟨Y,hd⟩⟩;have:=List.all_eq_true.1 b5 _ this;simp only [a3,beq_iff_eq] at this;exact this
   obtain ⟨d,hd,c6⟩:=c4;have rX:∀ (j O:Nat),q[j]?=some O->JF md ops i O=true->s[j]?=some true:=fun j O E a7=>by
    simp only [JF,a3] at a7;obtain ⟨e,he,hb⟩:=Array.any_eq_true'.1 a7;simp only [Bool.and_eq_true,beq_iff_eq] at hb;have h1:=c3 e he hb.1;rw [hb.2] at h1;have d3:j<q.length:=(List.getElem?_eq_some_iff.1 E).1
    cases a8:s[j]? with
    | none=>rw [List.getElem?_eq_none_iff] at a8;omega
    | some b =>
     cases b
     ·have hf:=List.all_eq_true.1 b4 O (List.mem_of_getElem? E);have:=Kr q s U j O b2 E a8 (by simpa using hf);rw [h1] at this;cases this
     ·rfl
   refine wpOp_mono ?_ (LY a3 (a9 k i op Y a3 s r w o W hu a4 rX hJ hr));rintro a' w' ⟨v,o',rfl,c7,c8,c9,hS⟩;refine ⟨hS, ?_⟩;rw [c6, <-UQ F r a k d v b3 hd om, <-MQ q s U k i Y om a4];refine ih (s.set k true) (r.set k v) w' o' (by have:=RV s k a4;omega) (by simpa using W) (by simpa using hu) c8 fun j E => ?_
   by_cases a5:k=j
   ·subst a5;rw [List.getD_eq_getElem?_getD,List.getElem?_set_self om];exact c9
   ·rw [List.getElem?_set_ne a5] at E;rw [List.getD_eq_getElem?_getD,List.getElem?_set_ne a5, <-List.getD_eq_getElem?_getD];exact hR j _ _ _ _ _ (hr j E) c7
 have h1:=b7 q.length (List.replicate q.length false) wC w o (by simp) (by simp) wH h0 (fun j E=>by rw [List.getElem?_replicate] at E;split at E <;> cases E)
 have h2:∀ (is:List Nat) (l:Array Bool) (n:Nat),CS l is (List.replicate n false)=l:=by
  intro is
  induction is with
  | nil=>intros;rfl
  | cons i is ih =>
   intro l n
   cases n with
   | zero=>rfl
   | succ n=>simp only [List.replicate_succ,CS,Bool.false_eq_true,if_false];exact ih l n
 rw [h2,ha] at h1;exact h1
def Su:List (Nat × Oper)->Nat->(Nat->Nat->Oper->Prop)->Prop
 | [],_,_=>True
 | (i,op) :: r,k,F=>F k i op/\Su r (k+1) F
theorem Pn:∀ (l:List (Nat × Oper)) (k0:Nat) (F:Nat->Nat->Oper->Prop),Su l k0 F->∀ (k i:Nat) (op:Oper),l[k]?=some (i,op)->F (k0+k) i op
 | [],_,_,_,_,_,_,h=>by simp at h
 | (j,q) :: r,k0,F,h,0,i,op,hk=>by
  simp only [ay,Option.some.injEq,Prod.mk.injEq] at hk;obtain ⟨rfl,rfl⟩:=hk;exact h.1
 | (j,q) :: r,k0,F,h,k+1,i,op,hk=>by
  have:=Pn r (k0+1) F h.2 k i op (by simpa using hk)
  rwa [show k0+1+k=k0+(k+1) from by omega] at this
theorem Oc (r O:List Nat) (U:List Oper) (T:Nat->Prop) (J:List Bool->World->Own->Prop) (R:Nat->Value->World->Own->Prop) {fuel:Nat}{W:Array Bool}{a:Act}{w:World}{o:Own}
  (a2:(r.map fun i=>(ops.toList.drop i).head?)=U.map some)
  (a3:Aay md ops W r O=true)
  (hR:∀ k u w o w' o',R k u w o->aj T w o w' o'->R k u w' o')
  (Y:List Value) (wH:Y.length=r.length) (ha:Act.puts a O Y=a)
  (h0:J (List.replicate r.length false) w o)
  (a4:Su (r.zip U) 0 fun k i op=>∀ (s:List Bool) (E:List Value) (w:World) (o:Own),s.length=r.length->E.length=r.length->s[k]?=some false ->
   (∀ (j i':Nat),r[j]?=some i'->JF md ops i i'=true->s[j]?=some true)->J s w o->(∀ j:Nat,s[j]?=some true->R j (E.getD j undef) w o) ->
   wpList P ops (Exit.then (fun a' w'=>∃ v o',a'=(Act.puts a O E).put op.dst v/\aj T w o w' o'/\J (s.set k true) w' o'/\R k v w' o'/\(need i=true->S w')) Q) [op] (Act.puts a O E) w)
  (a5:∀ (E:List Value) (w:World) (o:Own),E.length=r.length->J (List.replicate r.length true) w o->(∀ j:Nat,j<r.length->R j (E.getD j undef) w o) ->
   Dq P md ops Q S need fuel (CS W r (List.replicate r.length true)) (Act.puts a O E) w) :
  Dq P md ops Q S need (fuel+r.length) W a w:=by
 refine Wy r O T J R a3 hR Y wH ha h0 (fun k i op hk a6 => ?_) a5;have F:=congrArg (·[k]?) a2;simp only [List.getElem?_map,hk,Option.map_some] at F;have h2:(ops.toList.drop i).head?=some op:=by rw [List.head?_drop];simpa using a6
 rw [h2] at F;have h3:U[k]?=some op:=by
  cases hq:U[k]? with
  | none=>rw [hq] at F;cases F
  | some q=>rw [hq] at F;simp only [Option.map_some,Option.some.injEq] at F;rw [F]
 have h4:=Pn _ _ _ a4 k i op (by rw [List.getElem?_zip_eq_some];exact ⟨hk,h3⟩);rw [Nat.zero_add] at h4;exact h4
end
def m3:BitVec 64:=71777214294589695#64
def m4:BitVec 64:=281470681808895#64
def Df (x:BitVec 64):BitVec 64:=((x >>> 8) &&& m3) ||| ((x &&& m3) <<< 8)
def Dc (x:BitVec 64):BitVec 64:=((x >>> 16) &&& m4) ||| ((x &&& m4) <<< 16)
def CZ (x:BitVec 64):BitVec 64:=(x >>> 32) ||| (x <<< 32)
def BH (x:BitVec 64):BitVec 64:=CZ (Dc (Df x))
theorem ZO (y:BitVec 64):(y.toNat:Int) / (256:Int)=((y >>> 8).toNat:Int):=by rw [BitVec.toNat_ushiftRight,Nat.shiftRight_eq_div_pow];simp
theorem Yp (y:BitVec 64):(y.toNat:Int) / (65536:Int)=((y >>> 16).toNat:Int):=by rw [BitVec.toNat_ushiftRight,Nat.shiftRight_eq_div_pow];simp
theorem Yo (y:BitVec 64):(y.toNat:Int) / (4294967296:Int)=((y >>> 32).toNat:Int):=by rw [BitVec.toNat_ushiftRight,Nat.shiftRight_eq_div_pow];simp
theorem Wv (x:BitVec 64):IntKind.u64.wrap ((x.toNat:Int)*65536)=((x <<< 16).toNat:Int):=by
 rw [BitVec.toNat_shiftLeft,Nat.shiftLeft_eq];simp [IntKind.wrap,IntKind.bits,IntKind.signed]
theorem Wu (x:BitVec 64):IntKind.u64.wrap ((x.toNat:Int)*4294967296)=((x <<< 32).toNat:Int):=by
 rw [BitVec.toNat_shiftLeft,Nat.shiftLeft_eq];simp [IntKind.wrap,IntKind.bits,IntKind.signed]
theorem bU (x:BitVec 64):bits .and .u64 (x.toNat:Int) 71777214294589695=((x &&& m3).toNat:Int):=Ns x m3
theorem bT (x:BitVec 64):bits .and .u64 (x.toNat:Int) 281470681808895=((x &&& m4).toNat:Int):=Ns x m4
theorem ZZ (x:BitVec 64):bits .or .u64 (bits .and .u64 ((x.toNat:Int) / (256:Int)) 71777214294589695) (IntKind.u64.wrap (bits .and .u64 (x.toNat:Int) 71777214294589695*256))=((Df x).toNat:Int):=by
 rw [ZO,bU,bU,NC,Nr];rfl
theorem ZY (x:BitVec 64):bits .or .u64 (bits .and .u64 ((x.toNat:Int) / (65536:Int)) 281470681808895) (IntKind.u64.wrap (bits .and .u64 (x.toNat:Int) 281470681808895*65536))=((Dc x).toNat:Int):=by
 rw [Yp,bT,bT,Wv,Nr];rfl
theorem ZX (x:BitVec 64):bits .or .u64 ((x.toNat:Int) / (4294967296:Int)) (IntKind.u64.wrap ((x.toNat:Int)*4294967296))=((CZ x).toNat:Int):=by
 rw [Yo,Wu,Nr];rfl
theorem Yx (w:World) (x:BitVec 64):Calls prog 253 #[.int .u64 (x.toNat:Int)] w fun e w'=>e = .returned (.int .u64 ((BH x).toNat:Int))/\w=w':=by
 go_enter func253,ntmps253;go_wp2_with fail;rw [ZZ,ZY,ZX];go_ret;exact ⟨rfl,rfl⟩
theorem Yw (x:BitVec 64):∀ i:Nat,i<64->(BH x).getLsbD i=x.getLsbD (8*(7 - i / 8)+i % 8)
 | 0,_=>by show _=x.getLsbD 56;simp [BH,CZ,Dc,Df,m3,m4]
 | 1,_=>by show _=x.getLsbD 57;simp [BH,CZ,Dc,Df,m3,m4]
 | 2,_=>by show _=x.getLsbD 58;simp [BH,CZ,Dc,Df,m3,m4]
 | 3,_=>by show _=x.getLsbD 59;simp [BH,CZ,Dc,Df,m3,m4]
 | 4,_=>by show _=x.getLsbD 60;simp [BH,CZ,Dc,Df,m3,m4]
 | 5,_=>by show _=x.getLsbD 61;simp [BH,CZ,Dc,Df,m3,m4]
 | 6,_=>by show _=x.getLsbD 62;simp [BH,CZ,Dc,Df,m3,m4]
 | 7,_=>by show _=x.getLsbD 63;simp [BH,CZ,Dc,Df,m3,m4]
 | 8,_=>by show _=x.getLsbD 48;simp [BH,CZ,Dc,Df,m3,m4]
 | 9,_=>by show _=x.getLsbD 49;simp [BH,CZ,Dc,Df,m3,m4]
 | 10,_=>by show _=x.getLsbD 50;simp [BH,CZ,Dc,Df,m3,m4]
 | 11,_=>by show _=x.getLsbD 51;simp [BH,CZ,Dc,Df,m3,m4]
 | 12,_=>by show _=x.getLsbD 52;simp [BH,CZ,Dc,Df,m3,m4]
 | 13,_=>by show _=x.getLsbD 53;simp [BH,CZ,Dc,Df,m3,m4]
 | 14,_=>by show _=x.getLsbD 54;simp [BH,CZ,Dc,Df,m3,m4]
 | 15,_=>by show _=x.getLsbD 55;simp [BH,CZ,Dc,Df,m3,m4]
 | 16,_=>by show _=x.getLsbD 40;simp [BH,CZ,Dc,Df,m3,m4]
 | 17,_=>by show _=x.getLsbD 41;simp [BH,CZ,Dc,Df,m3,m4]
 | 18,_=>by show _=x.getLsbD 42;simp [BH,CZ,Dc,Df,m3,m4]
 | 19,_=>by show _=x.getLsbD 43;simp [BH,CZ,Dc,Df,m3,m4]
 | 20,_=>by show _=x.getLsbD 44;simp [BH,CZ,Dc,Df,m3,m4]
 | 21,_=>by show _=x.getLsbD 45;simp [BH,CZ,Dc,Df,m3,m4]
 | 22,_=>by show _=x.getLsbD 46;simp [BH,CZ,Dc,Df,m3,m4]
 | 23,_=>by show _=x.getLsbD 47;simp [BH,CZ,Dc,Df,m3,m4]
 | 24,_=>by show _=x.getLsbD 32;simp [BH,CZ,Dc,Df,m3,m4]
 | 25,_=>by show _=x.getLsbD 33;simp [BH,CZ,Dc,Df,m3,m4]
 | 26,_=>by show _=x.getLsbD 34;simp [BH,CZ,Dc,Df,m3,m4]
 | 27,_=>by show _=x.getLsbD 35;simp [BH,CZ,Dc,Df,m3,m4]
 | 28,_=>by show _=x.getLsbD 36;simp [BH,CZ,Dc,Df,m3,m4]
 | 29,_=>by show _=x.getLsbD 37;simp [BH,CZ,Dc,Df,m3,m4]
 | 30,_=>by show _=x.getLsbD 38;simp [BH,CZ,Dc,Df,m3,m4]
 | 31,_=>by show _=x.getLsbD 39;simp [BH,CZ,Dc,Df,m3,m4]
 | 32,_=>by show _=x.getLsbD 24;simp [BH,CZ,Dc,Df,m3,m4]
 | 33,_=>by show _=x.getLsbD 25;simp [BH,CZ,Dc,Df,m3,m4]
 | 34,_=>by show _=x.getLsbD 26;simp [BH,CZ,Dc,Df,m3,m4]
 | 35,_=>by show _=x.getLsbD 27;simp [BH,CZ,Dc,Df,m3,m4]
 | 36,_=>by show _=x.getLsbD 28;simp [BH,CZ,Dc,Df,m3,m4]
 | 37,_=>by show _=x.getLsbD 29;simp [BH,CZ,Dc,Df,m3,m4]
 | 38,_=>by show _=x.getLsbD 30;simp [BH,CZ,Dc,Df,m3,m4]
 | 39,_=>by show _=x.getLsbD 31;simp [BH,CZ,Dc,Df,m3,m4]
 | 40,_=>by show _=x.getLsbD 16;simp [BH,CZ,Dc,Df,m3,m4]
 | 41,_=>by show _=x.getLsbD 17;simp [BH,CZ,Dc,Df,m3,m4]
 | 42,_=>by show _=x.getLsbD 18;simp [BH,CZ,Dc,Df,m3,m4]
 | 43,_=>by show _=x.getLsbD 19;simp [BH,CZ,Dc,Df,m3,m4]
 | 44,_=>by show _=x.getLsbD 20;simp [BH,CZ,Dc,Df,m3,m4]
 | 45,_=>by show _=x.getLsbD 21;simp [BH,CZ,Dc,Df,m3,m4]
 | 46,_=>by show _=x.getLsbD 22;simp [BH,CZ,Dc,Df,m3,m4]
 | 47,_=>by show _=x.getLsbD 23;simp [BH,CZ,Dc,Df,m3,m4]
 | 48,_=>by show _=x.getLsbD 8;simp [BH,CZ,Dc,Df,m3,m4]
 | 49,_=>by show _=x.getLsbD 9;simp [BH,CZ,Dc,Df,m3,m4]
 | 50,_=>by show _=x.getLsbD 10;simp [BH,CZ,Dc,Df,m3,m4]
 | 51,_=>by show _=x.getLsbD 11;simp [BH,CZ,Dc,Df,m3,m4]
 | 52,_=>by show _=x.getLsbD 12;simp [BH,CZ,Dc,Df,m3,m4]
 | 53,_=>by show _=x.getLsbD 13;simp [BH,CZ,Dc,Df,m3,m4]
 | 54,_=>by show _=x.getLsbD 14;simp [BH,CZ,Dc,Df,m3,m4]
 | 55,_=>by show _=x.getLsbD 15;simp [BH,CZ,Dc,Df,m3,m4]
 | 56,_=>by show _=x.getLsbD 0;simp [BH,CZ,Dc,Df,m3,m4]
 | 57,_=>by show _=x.getLsbD 1;simp [BH,CZ,Dc,Df,m3,m4]
 | 58,_=>by show _=x.getLsbD 2;simp [BH,CZ,Dc,Df,m3,m4]
 | 59,_=>by show _=x.getLsbD 3;simp [BH,CZ,Dc,Df,m3,m4]
 | 60,_=>by show _=x.getLsbD 4;simp [BH,CZ,Dc,Df,m3,m4]
 | 61,_=>by show _=x.getLsbD 5;simp [BH,CZ,Dc,Df,m3,m4]
 | 62,_=>by show _=x.getLsbD 6;simp [BH,CZ,Dc,Df,m3,m4]
 | 63,_=>by show _=x.getLsbD 7;simp [BH,CZ,Dc,Df,m3,m4]
 | n+64,h=>om
theorem XW (x:BitVec 64) (k j:Nat) (q:j<8):(pJ x k).toNat.testBit j=x.getLsbD (8*k+j):=by
 rw [pJ,UInt8.toNat_ofNat'];rw [Nat.testBit_mod_two_pow];simp only [q,decide_true,Bool.true_and];rw [BitVec.toNat_ushiftRight,Nat.testBit_shiftRight];rfl
theorem Iw (x:BitVec 64) (k:Nat) (E:k<8):pJ (BH x) k=pJ x (7 - k):=by
 apply UInt8.toNat_inj.1;apply Nat.eq_of_testBit_eq;intro j
 by_cases q:j<8
 ·rw [XW _ _ _ q,XW _ _ _ q,Yw _ _ om];congr 1;omega
 ·have r:(pJ (BH x) k).toNat<2 ^ j:=Nat.lt_of_lt_of_le (UInt8.toNat_lt _) (Nat.pow_le_pow_right om (show 8<=j by omega));have u:(pJ x (7 - k)).toNat<2 ^ j:=Nat.lt_of_lt_of_le (UInt8.toNat_lt _) (Nat.pow_le_pow_right om (show 8<=j by omega));rw [Nat.testBit_lt_two_pow r,Nat.testBit_lt_two_pow u]
theorem fV (x:BitVec 64):be 8 (BH x)=(be 8 x).reverse:=by
 have h:∀ y:BitVec 64,be 8 y=[pJ y 7,pJ y 6,pJ y 5,pJ y 4,pJ y 3,pJ y 2,pJ y 1,pJ y 0]:=fun y=>rfl;rw [h,h,Iw x 7 om,Iw x 6 om,Iw x 5 om,Iw x 4 om,Iw x 3 om,Iw x 2 om,Iw x 1 om,Iw x 0 om];rfl
theorem Bytes.part {w:World}{o:Own}{b off n c:Nat}{l:List UInt8}(h:Bytes w o (.slice (some ⟨b,off,none⟩) n c) l) (lo hi:Nat) (F:lo<=hi) (q:hi<=l.length) :
  Bytes w o (.slice (some ⟨b,off+lo,none⟩) (hi - lo) (c - lo)) ((l.drop lo).take (hi - lo)):=by
 have r:((l.drop lo).take (hi - lo)).length=hi - lo:=by simp;omega
 rcases h.cases with ⟨⟨a,J,hv⟩,rfl⟩ | ⟨b',O,cap,hv,hl,U,u,hb,E⟩
 ·simp only [Value.slice.injEq] at hv;simp only [List.length_nil,Nat.le_zero] at q;subst q;exact .inl ⟨⟨some ⟨b,off+lo,none⟩,c - lo,by rw [Nat.zero_sub]⟩,by simp,by simp⟩
 ·simp only [Value.slice.injEq,Option.some.injEq,Addr.mk.injEq] at hv;obtain ⟨⟨rfl,rfl,_⟩,rfl,rfl⟩:=hv;refine .inr ⟨b,off+lo,c - lo,by rw [r],by rw [r];omega,om,u,hb, ?_⟩;rw [<-Ky, <-Np];exact ER E lo (hi - lo)
theorem YY (n:Nat) (hn:n<=1000000) (w:World):Calls prog 272 #[.slice none 0 0, .int .i64 (n:Int)] w fun e w'=>∃ v,e = .returned v/\w.grownBy w' none/\w'.ownsRow w.heap.size 5 1 v 0 (bvs []):=by
 by_cases h0:n=0
 ·subst h0;go_enter func272,ntmps272;go_wp2_with fail;go_ret;exact ⟨_,rfl,⟨rfl,rfl,rfl,Nat.le_refl _,fun _ _ _=>rfl⟩,World.ownsRow_nil _ _ _ _⟩
 ·obtain ⟨i,z,hq,F,e2,r,J⟩:=TQ dW;have hold:(Builtin.firstCells i.size 0 (.slice none 0 0)).run prog w.drew = .ok ([]:List Value).toArray w.drew:=run_firstCells_none w.drew i.size 0 0 0;have u:=Lib.run_append_grow_zeros (P:=prog) w 29 3 29 5 i z .i64 .i64 underlying29 underlying3 hq F none 0 0 [] hold n om om om om (by rw [r];omega)
   (by rw [r];rw [nextslicecap_zero om];omega)
  rw [Nat.zero_add] at u;have hG:=grownCap_ge w n 0 5;have E:=grownCap_le_maxLen w n 0 5 (by simp only [maxLen];omega);have O:(([]:List Value).toArray++Builtin.zeroCells z.cells n++Builtin.zeroCells z.cells (grownCap w n 0 5 - n)).size=grownCap w n 0 5*1:=by
   have:z.cells.size=1:=by rw [J];rfl
   simp [Builtin.zeroCells,this];omega
  have U:=World.ownsRow_made (e:=5) (size:=1) (base:=w.heap.size) w.drew _ _ (Nat.le_refl _) E O;have q:=World.grownBy_alloc w.drew (.cells (([]:List Value).toArray++Builtin.zeroCells z.cells n++Builtin.zeroCells z.cells (grownCap w n 0 5 - n)) 5) none;generalize Y:grownCap w n 0 5=G at *;generalize hW:w.drew.alloc (.cells (([]:List Value).toArray++Builtin.zeroCells z.cells n++Builtin.zeroCells z.cells (G - n)) 5)=W at *;have a2:=ae u;have a3:(G:Int)<=9223372036854775807:=by simp only [maxLen] at E;omega
  have a4:0<(n:Int):=om
  clear u hold O Y hW hq F e2 r J E;go_enter func272,ntmps272
  go_wp2_with ((with_reducible apply Bl);exact a2.out;simp only [Act.put,GL,DL,lss])
  go_ret;exact ⟨_,rfl,⟨q.os,q.tape,q.output,q.size,q.block⟩,U⟩
theorem CB {P:Program}(W:World) (t ty e:TypeId) (size:Nat) (r:P.underlying t=some (.slice e)) (u:(P.info? e).map (·.size)=some size) (a a':Option Addr) (n c c':Nat) (hn:n<=c) (hc:(n:Int)<=9223372036854775807) :
  (Builtin.append_ #[t,t] ty #[.slice a n c, .slice a' 0 c']).run P W = .ok (.slice a n c) W:=by
 cases q:P.info? e with
 | none=>simp [q] at u
 | some i =>
  have J:¬ (9223372036854775807<(n:Int)):=om
  have E:(Builtin.firstCells i.size 0 (.slice a' 0 c')).run P W = .ok #[] W:=by
   cases a' with
   | none=>exact run_firstCells_none W i.size 0 0 c'
   | some x=>exact run_firstCells_some W i.size 0 x 0 c' [] (by simp) (fun j v F=>by simp at F)
  cases a <;> simp [Builtin.append_,run_underlying r,sizeOf,typeInfo,q,Builtin.lenOf,hn,E,storeCells]
def Ey (w:World) (o:Own) (vs:List Value) (ls:List (List UInt8)):Prop:=vs.length=ls.length/\∀ (i:Nat) v l,vs[i]?=some v->ls[i]?=some l->Bytes w o v l
theorem Ey.step {T:Nat->Prop}{w w':World}{o o':Own}{vs:List Value}{ls:List (List UInt8)}(h:Ey w o vs ls) (s:aj T w o w' o') (q:¬ T 0):Ey w' o' vs ls:=
 ⟨h.1,fun i v l hv hl=>(h.2 i v l hv hl).step s q⟩
theorem sH.cell {w:World}{o:Own}{a:Option Addr}{n c:Nat}{cs:List Value}(h:sH w o (.slice a n c) n cs) (i:Nat) {x:Value}(q:cs[i]?=some x):∃ b off,a=some ⟨b,off,none⟩/\w.cell? ⟨b,off+i,none⟩=some x/\b<w.heap.size/\(o b).1=0:=by
 rcases h with ⟨_,_,rfl⟩ | ⟨b,off,cap,hv,hl,E,r,hb,u⟩
 ·simp at q
 ·simp only [Value.slice.injEq] at hv;exact ⟨b,off,hv.1,u i _ q,hb,r⟩
theorem Qn {w:World}{o:Own}{v:Value}{vs:List Value}{ls:List (List UInt8)}(hv:sH w o v vs.length vs) (hr:Ey w o vs ls) (htot:ls.flatten.length<=1000000) (Aex:vs.length<=1000000) :
  Calls prog 251 #[v] w (XL ai w o fun v w' o'=>Ew w w' o' v ls.flatten):=by
 obtain ⟨a,c,rfl⟩:=Aq hv;have F:∀ k,(ls.take k).flatten.length<=1000000:=fun k=>by
  have:(ls.take k).flatten.length<=ls.flatten.length:=by
   conv=>rhs;rw [<-List.take_append_drop k ls,List.flatten_append,List.length_append]
   omega
  omega
 have J:∀ k l,ls[k]?=some l->(ls.take (k+1)).flatten=(ls.take k).flatten++l:=fun k l hl=>by
  rw [List.take_add_one,hl];simp
 have hl0:=hr.1;have O:∀ k,k<vs.length->∃ x l,vs[k]?=some x/\ls[k]?=some l:=fun k hk=>⟨_,_,List.getElem?_eq_getElem hk,List.getElem?_eq_getElem om⟩;have hall:ls.take vs.length=ls:=List.take_of_length_le om;have pR:=ae hall;have tN:=ae hr;clear hall hl0 hr;generalize a6:vs.length=m at *;clear a6;obtain ⟨q,htl⟩:∃ q:Nat->Nat,∀ k,q k=(ls.take k).flatten.length:=⟨_,fun _=>rfl⟩;have sO:=ae htl;clear htl;go_enter func251,ntmps251;go_wp2_with fail
 go_loop [3,11] (fun n i=>∃ k:Nat,k<=m/\i = .int .i64 k/\n = .int .i64 (q k:Int)) (fun _ i=>m - (intOf i).toNat)
 case atStart=>exact ⟨0,Nat.zero_le _,rfl,by rw [sO.out];rfl⟩
 case round =>
  obtain ⟨k,hk,rfl,rfl⟩:=hrel
  by_cases hlt:k<m
  ·obtain ⟨x,l,u,hl⟩:=O k hlt;obtain ⟨b,off,rfl,hc,a4,hbo⟩:=hv.cell k u;obtain ⟨xa,xc,rfl⟩:=Aq (tN.out.2 k x l u hl);have hlen:(q (k+1):Int)=(q k:Int)+(l.length:Int):=by rw [sO.out,sO.out,J k l hl,List.length_append];omega
   have E:q (k+1)<=1000000:=by rw [sO.out];exact F (k+1)
   have hb2:q k<=1000000:=by rw [sO.out];exact F k
   have rD:=ae hlen;have a5:(q k:Int)+(l.length:Int)<=1000000:=om
   clear hlen E u hl hv tN J F htot O pR;generalize q k=N at *;generalize l.length=M at *;go_wp2_with fail
   go_round
   case rel=>exact ⟨k+1,hlt,by go_num,by rw [rD.out]⟩
   case measure=>simp [intOf];omega
  ·obtain rfl:m=k:=om
   have hg:=YY (q m) (by rw [sO.out,pR.out];exact htot) w;go_wp2_with fail;refine hg.mono ?_;rintro e w1 ⟨v1,rfl,hg1,a3⟩;have hbel:Below w.heap.size w w1:=⟨hg1.os,hg1.tape,hg1.output,hg1.size,fun k hk=>hg1.block k hk (by simp)⟩;clear hg;obtain ⟨a1,c1,rfl⟩:=BA a3;go_wp2_with fail
   go_loopw [6,27] (fun out i wr=>∃ k:Nat,k<=m/\i = .int .i64 k/\wr.ownsRow w.heap.size 5 1 out (ls.take k).flatten.length (bvs (ls.take k).flatten)/\Below w.heap.size w wr) (fun _ i _=>m - (intOf i).toNat)
   case atStart=>exact ⟨0,Nat.zero_le _,rfl,a3,hbel⟩
   case round =>
    clear a3 hbel hg1;obtain ⟨k,hk,rfl,hown,hbel⟩:=hrel
    by_cases hlt:k<m
    ·obtain ⟨x,l,u,hl⟩:=O k hlt;obtain ⟨b,off,rfl,hc,a4,hbo⟩:=hv.cell k u;have a2:=tN.out.2 k x l u hl;have hc2:wr.cell? ⟨b,off+k,none⟩=some x:=by rw [World.cell?_of_block (a:=⟨b,off+k,none⟩) (hbel.block b a4)];exact hc
     have r:=J k l hl;have E:=F (k+1);rw [r,List.length_append] at E;have hsize:=hbel.size;obtain ⟨oa,oc,rfl⟩:=BA hown;have U:(ls.take k).flatten.length<=oc/\oc<=maxLen:=by
      rcases hown.2 with ⟨h1,h2⟩ | ⟨g,cap,cur,h1,_,_,h2,h3,_⟩
      ·simp only [Value.slice.injEq] at h1;omega
      ·simp only [Value.slice.injEq] at h1;omega
     rcases a2.cases with ⟨⟨xa,xc,rfl⟩,rfl⟩ | ⟨xb,wB,yD,rfl,a9,hxm,b1,hxb,hxr⟩
     ·rw [List.append_nil] at r;have W:=CB (P:=prog) wr 29 29 5 1 underlying29 (by kernel_rfl) oa xa (ls.take k).flatten.length oc xc U.1 (by simp only [List.length_nil] at E;omega);have xK:=ae W;have qJ:=ae r;have Y:=ae hown;clear W r hown u hl hv tN J F htot O pR E U a2
      go_wp2_with ((with_reducible apply Bl);exact xK.out;simp only [Act.put,GL,DL,lss])
      go_roundw
      case rel=>exact ⟨k+1,hlt,by go_num,by rw [qJ.out];exact Y.out,hbel⟩
      case measure=>simp [intOf];omega
     ·by_cases hm0:l.length=0
      ·have a7:l=[]:=List.eq_nil_of_length_eq_zero hm0;subst a7;rw [List.append_nil] at r;have W:=CB (P:=prog) wr 29 29 5 1 underlying29 (by kernel_rfl) oa (some ⟨xb,wB,none⟩) (ls.take k).flatten.length oc yD U.1 (by simp only [List.length_nil] at E;omega);have xK:=ae W;have qJ:=ae r;have Y:=ae hown;clear W r hown u hl hv tN J F htot O pR E U a2
       go_wp2_with ((with_reducible apply Bl);exact xK.out;simp only [Act.put,GL,DL,lss])
       go_roundw
       case rel=>exact ⟨k+1,hlt,by go_num,by rw [qJ.out];exact Y.out,hbel⟩
       case measure=>simp [intOf];omega
      ·have yH:wr.rangeAt xb wB (bvs l):=Cf hxr (hbel.block xb hxb);obtain ⟨g,cap,w3,hrun,hown3,a8,hat,b2⟩:=Es wr (base:=w.heap.size) hsize _ (ls.take k).flatten.length _ hown xb wB l.length yD l rfl yH om om;have a5:Below w.heap.size w w3:=hbel.grown a8 hbel.size (fun k hk=>(hown.lt k hk).1);rw [<-List.length_append, <-r] at hown3;have Aax:=ae hrun;have Y:=ae hown3;have qJ:=ae r;have b3:=ae E;clear hrun hown3 hown r u hl hv tN J F htot O pR E U a2 hxr yH hat
       go_wp2_with ((with_reducible apply Bl);exact Aax.out;simp only [Act.put,GL,DL,lss])
       go_roundw
       case rel=>exact ⟨k+1,hlt,by go_num,by have h:=Y.out;rw [qJ.out,List.length_append] at h ⊢;exact h,a5⟩
       case measure=>simp [intOf];omega
    ·obtain rfl:m=k:=om
     rw [pR.out] at hown;obtain ⟨oa,oc,rfl⟩:=BA hown;go_wp2_with fail;go_ret;exact ⟨_,(fun k=>if k<w.heap.size then o k else (0,0)),rfl,⟨hbel.os,hbel.tape,hbel.output,hbel.size,fun k hk=>if_pos hk,fun k hk _=>hbel.block k hk⟩,hown,fun k hk=>if_neg (by have:=(hown.lt k hk).1;omega)⟩
theorem eX (n k:Nat) (x:BitVec 64) (r:k<=n):(be n x).drop (n - k)=be k x:=by
 induction n with
 | zero =>
   have:k=0:=om
   subst this;rfl
 | succ n q =>
  by_cases h:k=n+1
  ·subst h;simp
  ·rw [show n+1 - k=(n - k)+1 from by omega,TZ,List.drop_succ_cons];exact q om
theorem NE (n k:Nat) (hn:n<=1000000) (u:k<=8) (U:1<=k) (w:World) (o:Own):Calls prog 252 #[.int .i64 (n:Int), .int .i64 (k:Int)] w (XL ai w o fun v w' o'=>Bytes w' o' v (be k (BitVec.ofNat 64 n))):=by
 have q:((BitVec.ofNat 64 n).toNat:Int)=(n:Int):=by simp;omega
 have hc:=Ef (Bytes.nil w o) (by simp) (BitVec.ofNat 64 n);rw [q] at hc;clear q;go_enter func252,ntmps252;go_wp2_with fail;refine hc.mono ?_;rintro e W ⟨Y,o1,rfl,E,r⟩;have hb:=r.bytes;rw [List.nil_append] at hb
 rcases hb.cases with ⟨_,h0⟩ | ⟨b,off,cap,rfl,hl,F,ho,a2,J⟩
 ·have:=Az 8 (BitVec.ofNat 64 n);rw [h0] at this;simp at this
 rw [Az] at hb hl ⊢;have hp:=hb.part (8 - k) 8 om (by rw [Az];omega);rw [eX 8 k _ u,List.take_of_length_le (by rw [Az];omega)] at hp;have O:=ae hp;clear hb hp J r hc;have a3:(8:Int)<=(cap:Int):=om
 have a4:(cap:Int)<=9223372036854775807:=by simp only [maxLen] at F;omega
 have a5:¬ (cap=8 - k):=om
 go_wp2_with fail;go_ret;exact ⟨_,o1,rfl,E,O.out⟩
theorem aO {α:Type}{l:List α}(h:l.length=4):∃ a b c d,l=[a,b,c,d]:=by
 match l,h with
 | [a,b,c,d],_=>exact ⟨a,b,c,d,rfl⟩
theorem SC (w:World) (o:Own) (e:TypeId) (vs:List Value) (hl:vs.length<=1000000):sH (w.alloc (.cells vs.toArray e)) (Ak o w.heap.size (0,0)) (.slice (some ⟨w.heap.size,0,none⟩) vs.length vs.length) vs.length vs:=
 .inr ⟨w.heap.size,0,vs.length,rfl,by simp,by simp only [maxLen];omega,by rw [Au],by simp,AV (heap_alloc_new w _)⟩
theorem Ey.nil (w:World) (o:Own):Ey w o [] []:=⟨rfl,fun i v l hv _=>by simp at hv⟩
theorem Ey.cons {w:World}{o:Own}{v:Value}{l:List UInt8}{vs:List Value}{ls:List (List UInt8)}(h:Bytes w o v l) (r:Ey w o vs ls):Ey w o (v :: vs) (l :: ls):=
 ⟨by simp [r.1],fun i q u hv hl=>by
  cases i with
  | zero=>simp only [ay,Option.some.injEq] at hv hl;subst hv;subst hl;exact h
  | succ i=>exact r.2 i q u (by simpa using hv) (by simpa using hl)⟩
theorem PK {w:World}{o:Own}{bv:Value}(x:AA) (hb:Bytes w o bv x.bytes) (hl:x.bytes.length<=480) (ha:x.at'<=1000000) (hf:x.of'<=1000000) :
  Calls prog 230 #[.agg #[.int .u64 (x.stamp.toNat:Int), .int .i64 (x.at':Int), .int .i64 (x.of':Int),bv]] w (XL ai w o fun v w' o'=>Ew w w' o' v x.page):=by
 have b6:aj ai w o (w.alloc (.cells #[.int .u64 (x.stamp.toNat:Int), .int .i64 (x.at':Int), .int .i64 (x.of':Int),bv] 238)) (Ak o w.heap.size (0,0)):=(aj.refl _ w o).alloc _ _;have a4:(w.alloc (.cells #[.int .u64 (x.stamp.toNat:Int), .int .i64 (x.at':Int), .int .i64 (x.of':Int),bv] 238)).heap[w.heap.size]?=some (.cells #[.int .u64 (x.stamp.toNat:Int), .int .i64 (x.at':Int), .int .i64 (x.of':Int),bv] 238 (0,0)):=heap_alloc_new w _;have b7:=hb.step b6 id;obtain ⟨ba,bc,rfl⟩:=Aq hb;have b8:=au a4;obtain ⟨st,at',of',r⟩:=x;simp only at hl ha hf b6 a4 b7 b8 ⊢;clear hb;generalize b9:w.alloc (.cells #[.int .u64 (st.toNat:Int), .int .i64 (at':Int), .int .i64 (of':Int), .slice ba r.length bc] 238)=W0 at *;have c0:=ag a4 0;have c1:=ag a4 1;have c2:=ag a4 2;have c3:=ag a4 3;simp only [ax,ay] at c0 c1 c2 c3;have g0:W0.heap.size=w.heap.size+1:=by rw [<-b9];simp
 have hu:=Ef (Bytes.nil W0 (Ak o w.heap.size (0,0))) (by simp) st;have f2:=ae b9;clear b9;go_enter func230,ntmps230;go_wp2_with fail;rw [f2.out];refine hu.mono ?_;rintro e W1 ⟨v1,o1,rfl,b4,d8⟩;have a7:=d8.bytes;rw [List.nil_append] at a7;have d9:=b6.trans b4;have e1:=b4.block w.heap.size b8 id;have d1:W1.cell? ⟨w.heap.size,1,none⟩=_:=(World.cell?_of_block (a:=⟨w.heap.size,1,none⟩) e1).trans c1;have d2:W1.cell? ⟨w.heap.size,2,none⟩=_:=(World.cell?_of_block (a:=⟨w.heap.size,2,none⟩) e1).trans c2;have d3:W1.cell? ⟨w.heap.size,3,none⟩=_:=(World.cell?_of_block (a:=⟨w.heap.size,3,none⟩) e1).trans c3;have a8:w.heap.size<W1.heap.size:=Nat.lt_of_lt_of_le b8 b4.size;have e0:=b7.step b4 id;obtain ⟨sa,sc,rfl⟩:=Aq a7;rw [Az] at a7;clear hu d8 b7 c0 c1 c2 c3 a4 e1;go_wp2_with fail;refine Aa (fun w'=>w'.cell? ⟨w.heap.size,1,none⟩=some (.int .i64 (at':Int))/\w'.cell? ⟨w.heap.size,2,none⟩=some (.int .i64 (of':Int))/\w'.cell? ⟨w.heap.size,3,none⟩=some (.slice ba r.length bc)) (fun _=>true) (by kernel_rfl) ⟨d1,d2,d3⟩ (fun f3 => ?_);refine tq 0 (h:=tq 1 (h:=tq 2 (h:=tq 4 (h:=tq 5 (h:=tq 7 (h:=tq 8 (h:=tq 9 (h:=tq 11 (h:=tq 12 (h:=tq 13 (h:=tq 14 (h:=tq 15 (h:=tq 16 (h:=?_))))))))))))));have e3:IntKind.i64.wrap ((480:Int) - (r.length:Int))=((480 - r.length:Nat):Int):=by simp [IntKind.wrap,IntKind.bits,IntKind.signed];omega
 rw [e3];clear e3;obtain ⟨z,hz⟩:=az (480 - r.length);rw [hz];have g1:z<=480:=om
 have f4:=ae hz;clear hz;have c4:aj ai W1 o1 W1.drew o1:=(aj.refl _ _ _).drew;have keep:∀ {wa wb:World}{oa ob:Own},aj ai wa oa wb ob->w.heap.size<wa.heap.size->(wa.cell? ⟨w.heap.size,1,none⟩=some (.int .i64 (at':Int))/\wa.cell? ⟨w.heap.size,2,none⟩=some (.int .i64 (of':Int))/\wa.cell? ⟨w.heap.size,3,none⟩=some (.slice ba r.length bc)) ->
   (wb.cell? ⟨w.heap.size,1,none⟩=some (.int .i64 (at':Int))/\wb.cell? ⟨w.heap.size,2,none⟩=some (.int .i64 (of':Int))/\wb.cell? ⟨w.heap.size,3,none⟩=some (.slice ba r.length bc)):=fun hs hl h=>by
  have e:=hs.block w.heap.size hl id;exact ⟨(World.cell?_of_block (a:=⟨w.heap.size,1,none⟩) e).trans h.1,(World.cell?_of_block (a:=⟨w.heap.size,2,none⟩) e).trans h.2.1,(World.cell?_of_block (a:=⟨w.heap.size,3,none⟩) e).trans h.2.2⟩
 refine Oc (fuel:=3) [3,6,10,17] [11,14,18,25] [_,_,_,_] ai (fun s w' o'=>aj ai W1.drew o1 w' o'/\(w'.cell? ⟨w.heap.size,1,none⟩=some (.int .i64 (at':Int))/\w'.cell? ⟨w.heap.size,2,none⟩=some (.int .i64 (of':Int))/\w'.cell? ⟨w.heap.size,3,none⟩=some (.slice ba r.length bc)))
  (fun k u w' o'=>Bytes w' o' u (([be 2 (BitVec.ofNat 64 at'),be 2 (BitVec.ofNat 64 of'),be 4 (BitVec.ofNat 64 r.length),List.replicate z 0]:List (List UInt8)).getD k [])) rfl (by kernel_rfl)
  (fun k u w o w' o' h hs=>h.step hs id) [undef,undef,undef,undef] rfl rfl ⟨aj.refl _ _ _,f3⟩ ⟨?_, ?_, ?_, ?_,trivial⟩ ?_
 ·intro s us O E W Y c6 rX q hR;obtain ⟨u0,u1,u2,u3,rfl⟩:=aO Y;simp only [Act.puts,Act.put,GL,DL,lss];go_wp2_with fail;refine (NE at' 2 ha om om O E).mono ?_;rintro e w3 ⟨v3,o3,rfl,F,a5⟩;have U:=Nat.lt_of_lt_of_le a8 q.1.size;have J:=keep F U q.2;go_wp2_with fail;exact ⟨v3,o3,rfl,F,⟨q.1.trans F,J⟩,a5,fun _=>J⟩
 ·intro s us O E W Y c6 rX q hR;obtain ⟨u0,u1,u2,u3,rfl⟩:=aO Y;simp only [Act.puts,Act.put,GL,DL,lss];go_wp2_with fail;refine (NE of' 2 hf om om O E).mono ?_;rintro e w3 ⟨v3,o3,rfl,F,a5⟩;have U:=Nat.lt_of_lt_of_le a8 q.1.size;have J:=keep F U q.2;go_wp2_with fail;exact ⟨v3,o3,rfl,F,⟨q.1.trans F,J⟩,a5,fun _=>J⟩
 ·intro s us O E W Y c6 rX q hR;obtain ⟨u0,u1,u2,u3,rfl⟩:=aO Y;simp only [Act.puts,Act.put,GL,DL,lss];go_wp2_with fail;refine (NE r.length 4 om om om O E).mono ?_;rintro e w3 ⟨v3,o3,rfl,F,a5⟩;have U:=Nat.lt_of_lt_of_le a8 q.1.size;have J:=keep F U q.2;go_wp2_with fail;exact ⟨v3,o3,rfl,F,⟨q.1.trans F,J⟩,a5,fun _=>J⟩
 ·intro s us O E W Y c6 rX q hR;obtain ⟨u0,u1,u2,u3,rfl⟩:=aO Y;simp only [Act.puts,Act.put,GL,DL,lss];have e4:=Gy (P:=prog) O 29 5 _ 1 1 underlying29 dW rfl z om om .i64 .i64;rw [XZ] at e4;have F:aj ai O E _ _:=(aj.refl _ O E).alloc (.cells (bvs (List.replicate z 0)).toArray 5) (0,0);have a5:=VX O E z om;have U:=Nat.lt_of_lt_of_le a8 q.1.size;have J:=keep F U q.2;refine IC e4 ?_;refine wpList_nil ?_;exact ⟨_,_,rfl,F,⟨q.1.trans F,J⟩,a5,fun _=>J⟩
 intro us W2 E Y q hR;obtain ⟨u0,u1,u2,u3,rfl⟩:=aO Y;simp only [Act.puts,Act.put,GL,DL,lss];have r0:Bytes W2 E u0 (be 2 (BitVec.ofNat 64 at')):=hR 0 (by simp);have r1:Bytes W2 E u1 (be 2 (BitVec.ofNat 64 of')):=hR 1 (by simp);have r2:Bytes W2 E u2 (be 4 (BitVec.ofNat 64 r.length)):=hR 2 (by simp);have r3:Bytes W2 E u3 (List.replicate z 0):=hR 3 (by simp);have e5:=(d9.trans c4).trans q.1;have yM:=q.1;have f5:=q.2;have e6:=(e0.step c4 id).step q.1 id;have c7:=(a7.step c4 id).step q.1 id;clear hR q a7 e0 d9;obtain ⟨a0,c0,rfl⟩:=Aq r0;obtain ⟨a1,c1,rfl⟩:=Aq r1;obtain ⟨a2,c2,rfl⟩:=Aq r2;obtain ⟨a3,c3,rfl⟩:=Aq r3;simp only [Az,List.length_replicate] at r0 r1 r2 r3 ⊢;have a9:=SC W2 E 29 [.slice sa 8 sc, .slice a0 2 c0, .slice a1 2 c1, .slice a2 4 c2, .slice ba r.length bc, .slice a3 z c3] (by simp);have rH:aj ai W2 E _ _:=(aj.refl _ W2 E).alloc (.cells #[.slice sa 8 sc, .slice a0 2 c0, .slice a1 2 c1, .slice a2 4 c2, .slice ba r.length bc, .slice a3 z c3] 29) (0,0);have U:=Nat.lt_of_lt_of_le (Nat.lt_of_lt_of_le a8 (Nat.le_refl _)) yM.size;have c8:=keep rH U f5;have b1:=((((((Ey.nil W2 E).cons r3).cons e6).cons r2).cons r1).cons r0).cons c7;have b2:=b1.step rH id;have e7:=e5.trans rH;have yQ:=c7.step rH id;have c9:[be 8 st,be 2 (BitVec.ofNat 64 at'),be 2 (BitVec.ofNat 64 of'),be 4 (BitVec.ofNat 64 r.length),r,List.replicate z 0].flatten=AA.said ⟨st,at',of',r⟩:=by
  simp only [AA.said,List.flatten_cons,List.flatten_nil,List.append_nil,List.append_assoc,f4.out]
 have W:(AA.said ⟨st,at',of',r⟩).length=496:=AA.Kt hl;have a6:=Qn a9 b2 (by rw [c9,W];omega) (by simp);rw [c9] at a6;have d4:AA.page ⟨st,at',of',r⟩=[AA.said ⟨st,at',of',r⟩,be 8 (BH (Qk (AA.said ⟨st,at',of',r⟩))),be 8 st].flatten:=by
  simp only [AA.page,fV,List.flatten_cons,List.flatten_nil,List.append_nil,List.append_assoc]
 obtain ⟨sd,yN⟩:=az (AA.said ⟨st,at',of',r⟩);rw [yN] at d4 a6 W;have f6:=ae d4;clear c9 d4 b1 r0 r1 r2 r3 c7 e6 e5 rH b2 a9 yN;refine tO 18 (h:=?_);go_wp2_with fail;refine ⟨fun _=>c8, ?_⟩;refine tO 19 (h:=?_);go_wp2_with fail;refine a6.mono ?_;rintro e W4 ⟨v4,o4,rfl,d5,e8⟩;have d6:=keep d5 (Nat.lt_of_lt_of_le U (by simp)) c8;have pX:=e7.trans d5;have f7:=yQ.step d5 id;have b5:=e8.bytes;go_wp2_with fail;refine ⟨fun _=>d6, ?_⟩;refine tO 20 (h:=?_);go_wp2_with fail;refine ⟨fun _=>d6, ?_⟩;refine tD (h:=?_);obtain ⟨da,dc,rfl⟩:=Aq b5;have e9:=eQ b5 om;clear a6 e8 d6 c8 keep yQ e7;have f8:=ae W;rw [W] at b5 e9 ⊢;clear W;go_wp2_with fail;refine e9.mono ?_;rintro e w' ⟨rfl,rfl⟩;go_wp2_with fail;refine (Yx _ _).mono ?_;rintro e w' ⟨rfl,rfl⟩;go_wp2_with fail;refine (Ef (Bytes.nil W4 o4) (by simp) _).mono ?_;rintro e W5 ⟨v5,o5,rfl,d7,f0⟩;have b3:=f0.bytes;rw [List.nil_append] at b3;obtain ⟨fa,fc,rfl⟩:=Aq b3;rw [Az] at b3 ⊢;have f1:=pX.trans d7;have yO:=b5.step d7 id;have yP:=f7.step d7 id;have a9:=SC W5 o5 29 [.slice da 496 dc, .slice fa 8 fc, .slice sa 8 sc] (by simp);have rH:aj ai W5 o5 _ _:=(aj.refl _ W5 o5).alloc (.cells #[.slice da 496 dc, .slice fa 8 fc, .slice sa 8 sc] 29) (0,0);have b1:=(((Ey.nil W5 o5).cons yP).cons b3).cons yO;have b2:=b1.step rH id;have pW:=f1.trans rH;have a6:=Qn a9 b2 (by simp [Az,f8.out]) (by simp);clear b1 b2 a9 rH f1 yP yO b3 f0;go_wp2_with fail;refine a6.mono ?_;rintro e W6 ⟨v6,o6,rfl,f9,vG⟩;go_wp2_with fail;go_ret;have qF:=pW.trans f9;rw [f6.out];refine ⟨_,(fun k=>if k<w.heap.size then o k else (0,0)),rfl,⟨qF.os,qF.tape,qF.output,qF.size,fun k hk=>if_pos hk,fun k hk h=>qF.block k hk h⟩, ?_⟩
 refine ⟨⟨vG.1.1, ?_⟩, ?_⟩
 ·rcases vG.1.2 with h | ⟨g,cap,cur,h1,h2,h3⟩
  ·exact .inl h
  ·exact .inr ⟨g,cap,cur,h1,Nat.le_trans pW.size h2,h3⟩
 ·intro k hk;exact if_neg (by have h1:=(vG.1.lt k hk).1;have h2:=pW.size;omega)
def BQ (x:AA) (bv:Value):List Value:=[.int .u64 (x.stamp.toNat:Int), .int .i64 (x.at':Int), .int .i64 (x.of':Int),bv]
theorem Hw {w:World}{o:Own}{b off n c:Nat}{l:List UInt8}(h:Bytes w o (.slice (some ⟨b,off,none⟩) n c) l) (lo hi:Nat) (q:lo<=hi) (r:hi<=l.length) (m:Nat) (u:hi - lo=m) :
  Bytes w o (.slice (some ⟨b,off+lo,none⟩) m (c - lo)) ((l.drop lo).take m):=by
 subst u;exact h.part lo hi q r
theorem Eg {P:Program}{q:Func}{p u:Tmp}{ty:TypeId}(h:q.results = #[.cell p ty, .tmp u]) (tmps:Array Value) (w:World) (g:Nat) (t:TypeId) (cs:Array Value) (fr:Nat × Nat) (d:TypeDesc)
  (hp:tmps.getD p undef = .pointer (some ⟨g,0,none⟩)) (r:w.heap[g]?=some (.cells cs t fr))
  (E:P.underlying ty=some d) (F:(match d with | .struct _ | .array _ _=>true | _=>false)=true) (hi:(P.info? ty).map (·.size)=some cs.size) :
  (results q tmps).run P w = .ok (.tuple #[.agg cs,tmps.getD u undef]) w:=by
 rw [results_cell_tmp h,hp];simp [asAddr,run_loadVar_row w g t ty cs fr d r E F hi]
theorem Vq {α:Type}{l:List α}(h:l.length=7):∃ a b c d e f g,l=[a,b,c,d,e,f,g]:=by
 match l,h with
 | [a,b,c,d,e,f,g],_=>exact ⟨a,b,c,d,e,f,g,rfl⟩
theorem wrap_i64 {n:Int}(q : -9223372036854775808<=n) (r:n<=9223372036854775807):IntKind.i64.wrap n=n:=by
 simp [IntKind.wrap,IntKind.bits,IntKind.signed];omega
theorem Ba {P:Program}{w:World}{b:Nat}{cs vs:List Value}{E ty:TypeId}(h:w.heap[b]?=some (.cells cs.toArray E (0,0))) (hl:vs.length=cs.length) (hi:(P.info? ty).map (·.size)=some vs.length) (q:vs.all (·.oneCell')=true) :
  (Instr.storeAt ty (.pointer (some ⟨b,0,none⟩)) (.agg vs.toArray)).run P w = .ok () (w.setCells b 0 vs)/\(w.setCells b 0 vs).heap[b]?=some (.cells vs.toArray E (0,0)):=by
 constructor
 ·have r:=Dh h 0 vs.length om;simp only [Instr.storeAt,Instr.sureAddr,Sem.run_bind,Sem.run_pure,Result.andThen_ok];rw [run_storeVar_mid w b 0 ty vs.toArray (by simpa using r) (by simpa using hi) (all_oneCell_toArray (by simpa using q))]
 ·have:=BP b E vs 0 w cs h om;rw [this];simp [hl]
theorem ZR {w:World}{o:Own}{v:Value}{p:List UInt8}(hb:Bytes w o v p) (hp:p.length=512) :
  Calls prog 171 #[v] w (XL ai w o fun v w' o'=>∃ bv,v = .tuple #[.agg (BQ (CE p).1 bv).toArray, .bool (CE p).2]/\Bytes w' o' bv (CE p).1.bytes):=by
 have c0:aj ai w o (w.alloc (.cells #[.int .u64 0, .int .i64 0, .int .i64 0, .slice none 0 0] 238)) (Ak o w.heap.size (0,0)):=(aj.refl _ w o).alloc _ _;have c3:(w.alloc (.cells #[.int .u64 0, .int .i64 0, .int .i64 0, .slice none 0 0] 238)).heap[w.heap.size]?=some (.cells #[.int .u64 0, .int .i64 0, .int .i64 0, .slice none 0 0] 238 (0,0)):=heap_alloc_new w _;have Y:=hb.step c0 id;have f1:=au c3;obtain ⟨X,h7,d6⟩:=KT o w.heap.size 0;have hX:X ≠ 0:=om
 have hN:¬ ak X 0:=fun h=>hX h.symm;clear h7
 rcases hb.cases with ⟨_,rfl⟩ | ⟨b,off,cap,rfl,h8,h9,l0,l1,hr⟩
 ·simp at hp
 rw [hp] at Y h8 ⊢;have q1:=Hw Y 0 8 om om 8 rfl;have q2:=Hw Y 8 10 om om 2 rfl;have q3:=Hw Y 10 12 om om 2 rfl;have q4:=Hw Y 12 16 om om 4 rfl;have q5:=fun (n:Nat) (hn:n<=480)=>Hw Y 16 (16+n) om om n om;have l2:(512:Int)<=(cap:Int):=om
 have l3:(cap:Int)<=9223372036854775807:=by simp only [maxLen] at h9;omega
 have n8:¬ (cap=8):=om
 have k8:(8:Int)<=(cap:Int):=om
 have l4:(10:Int)<=(cap:Int):=om
 have l5:(12:Int)<=(cap:Int):=om
 have l6:(16:Int)<=(cap:Int):=om
 have l7:¬ (cap=10):=om
 have l8:¬ (cap=12):=om
 have l9:¬ (cap=16):=om
 clear hb hr;obtain ⟨W0,d7⟩:=az (w.alloc (.cells #[.int .u64 0, .int .i64 0, .int .i64 0, .slice none 0 0] 238));rw [d7] at c0 c3 Y f1 q1 q2 q3 q4 q5;generalize Ak o w.heap.size (0,0)=o0 at *;have i0:=ae d7;clear d7;go_enter func171,ntmps171;go_wp2_with fail;rw [i0.out];refine Aa (fun w'=>True) (fun _=>true) (by kernel_rfl) trivial (fun c6 => ?_);refine tq 0 (h:=tq 1 (h:=tq 3 (h:=tq 4 (h:=tq 7 (h:=tq 8 (h:=?_))))));have a2:aj ai W0 o0 W0.drew o0:=(aj.refl _ _ _).drew;have i1:(num ((p.drop 8).take 2)).toNat<65536:=by
   rw [EL (by simp;omega)];have:=Jg ((p.drop 8).take 2);have h2:((p.drop 8).take 2).length=2:=by simp;omega
   rw [h2] at this;omega
 have i2:(num ((p.drop 10).take 2)).toNat<65536:=by
   rw [EL (by simp;omega)];have:=Jg ((p.drop 10).take 2);have h2:((p.drop 10).take 2).length=2:=by simp;omega
   rw [h2] at this;omega
 refine Oc (fuel:=1) [2,5,6,9,10,11,12] [8,11,12,15,16,17,4] [_,_,_,_,_,_,_] ai (fun s w' o'=>aj ai W0.drew o0 w' o')
  (fun k u w' o'=>match k with
   | 0=>u = .int .u64 ((num (p.take 8)).toNat:Int)
   | 1=>u = .int .u64 ((num ((p.drop 8).take 2)).toNat:Int)
   | 2=>u = .int .i64 ((num ((p.drop 8).take 2)).toNat:Int)
   | 3=>u = .int .u64 ((num ((p.drop 10).take 2)).toNat:Int)
   | 4=>u = .int .i64 ((num ((p.drop 10).take 2)).toNat:Int)
   | 5=>u = .agg #[.int .u64 ((num (p.take 8)).toNat:Int), .int .i64 ((num ((p.drop 8).take 2)).toNat:Int), .int .i64 ((num ((p.drop 10).take 2)).toNat:Int), .slice none 0 0]
   | _=>∃ g,u = .pointer (some ⟨g,0,none⟩)/\W0.heap.size<=g/\w'.heap[g]?=some (.cells #[.int .u64 0, .int .i64 0, .int .i64 0, .slice none 0 0] 238 (0,0))/\o' g=(X,0)) rfl (by kernel_rfl)
  (fun k u w o w' o' h hs=>by
   match k with
   | 0=>exact h
   | 1=>exact h
   | 2=>exact h
   | 3=>exact h
   | 4=>exact h
   | 5=>exact h
   | k+6 =>
    obtain ⟨g,rfl,hg,hh,i3⟩:=h;exact ⟨g,rfl,hg,by rw [hs.block g (au hh) id];exact hh,by rw [hs.own g (au hh)];exact i3⟩) [undef,undef,undef,undef,undef,undef,undef] rfl rfl (aj.refl _ _ _) ⟨?_, ?_, ?_, ?_, ?_, ?_, ?_,trivial⟩ ?_
 ·intro s us w2 F a7 O a8 U q r;obtain ⟨u0,u1,u2,u3,u4,u5,u6,rfl⟩:=Vq O;simp only [Act.puts,Act.put,GL,DL,lss];have hq:=(q1.step a2 id).step q id;go_wp2_with fail;refine (FK hq (by simp;omega)).mono ?_;rintro e w3 ⟨rfl,rfl⟩;go_wp2_with fail;exact ⟨_,F,rfl,aj.refl _ _ _,q,rfl,fun _=>trivial⟩
 ·intro s us w2 F a7 O a8 U q r;obtain ⟨u0,u1,u2,u3,u4,u5,u6,rfl⟩:=Vq O;simp only [Act.puts,Act.put,GL,DL,lss];have hq:=(q2.step a2 id).step q id;go_wp2_with fail;refine (FK hq (by simp;omega)).mono ?_;rintro e w3 ⟨rfl,rfl⟩;go_wp2_with fail;exact ⟨_,F,rfl,aj.refl _ _ _,q,rfl,fun _=>trivial⟩
 ·intro s us w2 F a7 O a8 U q r;obtain ⟨u0,u1,u2,u3,u4,u5,u6,rfl⟩:=Vq O;simp only [Act.puts,Act.put,GL,DL,lss];have hu:u1 = .int .u64 _:=r 1 (U 1 5 rfl (by kernel_rfl));subst hu;go_wp2_with fail;exact ⟨_,F,rfl,aj.refl _ _ _,q,rfl,fun _=>trivial⟩
 ·intro s us w2 F a7 O a8 U q r;obtain ⟨u0,u1,u2,u3,u4,u5,u6,rfl⟩:=Vq O;simp only [Act.puts,Act.put,GL,DL,lss];have hq:=(q3.step a2 id).step q id;go_wp2_with fail;refine (FK hq (by simp;omega)).mono ?_;rintro e w3 ⟨rfl,rfl⟩;go_wp2_with fail;exact ⟨_,F,rfl,aj.refl _ _ _,q,rfl,fun _=>trivial⟩
 ·intro s us w2 F a7 O a8 U q r;obtain ⟨u0,u1,u2,u3,u4,u5,u6,rfl⟩:=Vq O;simp only [Act.puts,Act.put,GL,DL,lss];have hu:u3 = .int .u64 _:=r 3 (U 3 9 rfl (by kernel_rfl));subst hu;go_wp2_with fail;exact ⟨_,F,rfl,aj.refl _ _ _,q,rfl,fun _=>trivial⟩
 ·intro s us w2 F a7 O a8 U q r;obtain ⟨u0,u1,u2,u3,u4,u5,u6,rfl⟩:=Vq O;simp only [Act.puts,Act.put,GL,DL,lss];have hu:u0 = .int .u64 _:=r 0 (U 0 2 rfl (by kernel_rfl));have i4:u2 = .int .i64 _:=r 2 (U 2 6 rfl (by kernel_rfl));have i5:u4 = .int .i64 _:=r 4 (U 4 10 rfl (by kernel_rfl));subst hu i4 i5;go_wp2_with fail;exact ⟨_,F,rfl,aj.refl _ _ _,q,rfl,fun _=>trivial⟩
 ·intro s us w2 F a7 O a8 U q r;obtain ⟨u0,u1,u2,u3,u4,u5,u6,rfl⟩:=Vq O;simp only [Act.puts,Act.put,GL,DL,lss];have f2:=(aj.refl ai w2 F).alloc (.cells #[.int .u64 0, .int .i64 0, .int .i64 0, .slice none 0 0] 238) (X,0);have i6:=heap_alloc_new w2 (.cells #[.int .u64 0, .int .i64 0, .int .i64 0, .slice none 0 0] 238);have i7:=q.size;go_wp2_with fail;exact ⟨_,_,rfl,f2,q.trans f2,⟨_,rfl,i7,i6,Au _ _ _⟩,fun _=>trivial⟩
 intro us W2 F O q r;obtain ⟨u0,u1,u2,u3,u4,u5,u6,rfl⟩:=Vq O;simp only [Act.puts,Act.put,GL,DL,lss];have r0:u0 = .int .u64 ((num (p.take 8)).toNat:Int):=r 0 (by simp);have r1:u1 = .int .u64 ((num ((p.drop 8).take 2)).toNat:Int):=r 1 (by simp);have r2:u2 = .int .i64 ((num ((p.drop 8).take 2)).toNat:Int):=r 2 (by simp);have r3:u3 = .int .u64 ((num ((p.drop 10).take 2)).toNat:Int):=r 3 (by simp);have r4:u4 = .int .i64 ((num ((p.drop 10).take 2)).toNat:Int):=r 4 (by simp);have r5:u5 = .agg #[.int .u64 ((num (p.take 8)).toNat:Int), .int .i64 ((num ((p.drop 8).take 2)).toNat:Int), .int .i64 ((num ((p.drop 10).take 2)).toNat:Int), .slice none 0 0]:=r 5 (by simp);have r6:∃ g,u6 = .pointer (some ⟨g,0,none⟩)/\W0.heap.size<=g/\W2.heap[g]?=some (.cells #[.int .u64 0, .int .i64 0, .int .i64 0, .slice none 0 0] 238 (0,0))/\F g=(X,0):=r 6 (by simp);obtain ⟨g,rfl,m0,d8,f4⟩:=r6;subst r0 r1 r2 r3 r4 r5;clear r;obtain ⟨A,hA⟩:=az (num (p.take 8));obtain ⟨B,hB⟩:=az ((num ((p.drop 8).take 2)).toNat);obtain ⟨C,hC⟩:=az ((num ((p.drop 10).take 2)).toNat);rw [hA,hB,hC];rw [hB] at i1;rw [hC] at i2;have d9:=ae hA;have i8:=ae hB;have i9:=ae hC;clear hA hB hC;have a9:=((c0.trans a2).trans q).only X;have b1:=(Y.step a2 id).step q id;have c7:=(q4.step a2 id).step q id;have b2:=fun n hn=>((q5 n hn).step a2 id).step q id;have W:W2.heap[w.heap.size]?=_:=(q.block w.heap.size f1 id).trans c3;have m1:w.heap.size<g:=om
 clear q q1 q2 q3 q4 q5 c3 Y c0 a2 c6;have c6:True:=trivial;obtain ⟨f5,a3⟩:=Ba (P:=prog) (ty:=238) (vs:=[.int .u64 (A.toNat:Int), .int .i64 (B:Int), .int .i64 (C:Int), .slice none 0 0]) d8 rfl (by kernel_rfl) rfl;have b6:=(aj.refl (ak X) W2 F).setCells g 0 [.int .u64 (A.toNat:Int), .int .i64 (B:Int), .int .i64 (C:Int), .slice none 0 0] (.inl (by rw [f4];rfl));refine tO 13 (h:=?_);refine AC f5 ?_;refine wpList_nil ?_;refine ⟨fun _=>trivial, ?_⟩;refine tD (h:=?_);have a9:=a9.trans b6;have b1:=b1.step b6 hN;have c7:=c7.step b6 hN;have b2:=fun n hn=>(b2 n hn).step b6 hN;have m2:=au d8;have m5:w.heap.size<W2.heap.size:=om
 have W:(W2.setCells g 0 [.int .u64 (A.toNat:Int), .int .i64 (B:Int), .int .i64 (C:Int), .slice none 0 0]).heap[w.heap.size]?=_:=(ah g _ 0 W2 w.heap.size om).trans W;have m6:=size_setCells g [.int .u64 (A.toNat:Int), .int .i64 (B:Int), .int .i64 (C:Int), .slice none 0 0] 0 W2;clear b6 f5 d8;generalize W2.setCells g 0 [.int .u64 (A.toNat:Int), .int .i64 (B:Int), .int .i64 (C:Int), .slice none 0 0]=W3 at *;have x0:=ag a3 0;simp only [ay] at x0;go_wp2_with fail;refine (FK c7 (by simp;omega)).mono ?_;rintro e w' ⟨rfl,rfl⟩;obtain ⟨N,e0⟩:=az (num ((p.drop 12).take 4));rw [e0];have e3:=ae e0;clear e0 c7
 by_cases a5:A=0#64
 ·have hE:CE p=(Xb,false):=by unfold CE;rw [d9.out,if_pos (.inl a5)]
  have b3:=ae hE;clear hE;subst a5;have hz:(((0#64:BitVec 64)).toNat:Int)=0:=rfl;rw [hz] at x0 a3 ⊢;clear hz;obtain ⟨b7,e4⟩:=Ba (P:=prog) (ty:=238) (vs:=[.int .u64 0, .int .i64 0, .int .i64 0, .slice none 0 0]) W rfl (by kernel_rfl) rfl;have j0:=(aj.refl (ak X) W3 F).setCells w.heap.size 0 [.int .u64 0, .int .i64 0, .int .i64 0, .slice none 0 0];have pX:=a9.setCells w.heap.size 0 [.int .u64 0, .int .i64 0, .int .i64 0, .slice none 0 0] (.inr (Nat.le_refl _));have e5:=ae b7;clear b7 j0 b1 b2 a3 W
  go_wp2_with ((with_reducible apply AC);exact e5.out;simp only [Act.put])
  refine bodyPost_ret (Eg rfl _ _ w.heap.size 238 _ (0,0) _ rfl e4 underlying238 rfl (by kernel_rfl)) rfl ?_;rw [b3.out];exact ⟨_,F,rfl,pX.nobody d6,_,rfl,Bytes.nil _ _⟩
 ·by_cases c8:480<N.toNat
  ·have hE:CE p=(Xb,false):=by unfold CE;rw [e3.out,if_pos (.inr c8)]
   have b3:=ae hE;clear hE;have j1:((A.toNat:Int) == 0)=false:=by
    rw [beq_eq_false_iff_ne];intro h;exact a5 (BitVec.eq_of_toNat_eq (by simp;omega))
   have f6:(480:Int)<(N.toNat:Int):=om
   obtain ⟨b7,e4⟩:=Ba (P:=prog) (ty:=238) (vs:=[.int .u64 0, .int .i64 0, .int .i64 0, .slice none 0 0]) W rfl (by kernel_rfl) rfl;have pX:=a9.setCells w.heap.size 0 [.int .u64 0, .int .i64 0, .int .i64 0, .slice none 0 0] (.inr (Nat.le_refl _));have e5:=ae b7;clear b7 b1 b2 a3 W a5 c8
   go_wp2_with ((with_reducible apply AC);exact e5.out;simp only [Act.put])
   refine bodyPost_ret (Eg rfl _ _ w.heap.size 238 _ (0,0) _ rfl e4 underlying238 rfl (by kernel_rfl)) rfl ?_;rw [b3.out];exact ⟨_,F,rfl,pX.nobody d6,_,rfl,Bytes.nil _ _⟩
  ·have j1:((A.toNat:Int) == 0)=false:=by
    rw [beq_eq_false_iff_ne];intro h;exact a5 (BitVec.eq_of_toNat_eq (by simp;omega))
   have f6:¬ (480:Int)<(N.toNat:Int):=om
   obtain ⟨n,hn⟩:=az (N.toNat);rw [hn] at c8 f6 ⊢;have hE:CE p=(⟨A,B,C,(p.drop 16).take n⟩,AA.page ⟨A,B,C,(p.drop 16).take n⟩ == p):=by
    unfold CE;rw [e3.out,d9.out,hn,if_neg (by simp only [not_or];exact ⟨a5,c8⟩)];unfold GY;rw [d9.out,i8.out,i9.out,e3.out,hn]
   have b3:=ae hE;clear hE;have hq:=b2 n om;have f7:=clone_any (l:=(p.drop 16).take n) hq (by simp;omega);clear b2 a5 hn;have m7:(n:Int)<=480:=om
   have m8:(16:Int)+(n:Int)<=(cap:Int):=om
   have m9:(16:Int)<=16+(n:Int):=om
   go_wp2_with fail;refine f7.mono ?_;rintro e W4 ⟨v4,o4,rfl,b4,c9⟩;have d1:((p.drop 16).take n).length=n:=by simp;omega
   obtain ⟨pl,f8⟩:=az ((p.drop 16).take n);rw [f8] at c9 d1 b3;have d3:=c9.bytes;have f9:=c9.1;obtain ⟨E,J,rfl⟩:=Aq d3;have j2:∀ b' b8,E=some ⟨b',b8,none⟩->b' ≠ w.heap.size:=fun b' b8 h=>by
    subst h;have h1:=(f9.lt b' rfl).1;have h2:=au W;omega
   clear f9;rw [d1] at d3 ⊢;have zA:=ae d1;have g0:=au a3;have j3:=au W;have d4:W4.heap[g]?=_:=(b4.block g g0 id).trans a3;have qC:W4.heap[w.heap.size]?=_:=(b4.block w.heap.size j3 id).trans W;have g1:o4 g=(X,0):=(b4.own g g0).trans f4;have g2:=a9.trans (b4.only X);have g3:=b1.step b4 id;have y3:=ag d4 3;have f3:=Ap d4 3;simp only [ax,ay] at y3;have d5:=(aj.refl (ak X) W4 o4).setCell (a:=⟨g,3,none⟩) (.slice E n J) (.inl (by rw [g1];rfl));have b9:=Ai (i:=3) (.slice E n J) d4;simp only [lss,DL] at b9;have pW:=g2.trans d5;have e6:=g3.step d5 hN;have e7:=d3.step d5 hN;have sD:(W4.setCell ⟨g,3,none⟩ (.slice E n J)).heap[w.heap.size]?=_:=(Below.heap_setCell _ _ _ _ (by show w.heap.size ≠ g;omega)).trans qC;have n0:w.heap.size ≠ g:=om
   clear f7 c9 d3 d1 f8 d5 d4 qC g2 g3 a9 b1 a3 W b4 x0 hq;go_wp2_with fail;obtain ⟨W5,g4⟩:=az (W4.setCell ⟨g,3,none⟩ (.slice E n J));rw [g4] at b9 pW e6 e7 sD ⊢;clear g4 y3 f3;have g5:W5.rangeAt g 0 [.int .u64 (A.toNat:Int), .int .i64 (B:Int), .int .i64 (C:Int), .slice E n J]:=AV b9;refine Aa (fun w'=>w'.rangeAt g 0 [.int .u64 (A.toNat:Int), .int .i64 (B:Int), .int .i64 (C:Int), .slice E n J]) (fun _=>true) (by kernel_rfl) g5 (fun c6 => ?_);refine Dt (i:=0) (v := .agg #[.int .u64 (A.toNat:Int), .int .i64 (B:Int), .int .i64 (C:Int), .slice E n J]) rfl (by kernel_rfl) (fun _ _ _ h=>h)
    (yieldsIf_load_mid rfl 238 (.tmp 4) rfl g 0 rfl [.int .u64 (A.toNat:Int), .int .i64 (B:Int), .int .i64 (C:Int), .slice E n J] _ (fun w h=>h) underlying238 rfl (by kernel_rfl)) (by assumption) ?_
   simp only [Act.put,GL,DL,lss];refine Dt (i:=1) (v := .agg #[.int .u64 (A.toNat:Int), .int .i64 (B:Int), .int .i64 (C:Int), .slice E n J]) rfl (by kernel_rfl) (fun _ _ _ h=>h)
    (yieldsIf_load_mid rfl 238 (.tmp 4) rfl g 0 rfl [.int .u64 (A.toNat:Int), .int .i64 (B:Int), .int .i64 (C:Int), .slice E n J] _ (fun w h=>h) underlying238 rfl (by kernel_rfl)) (by assumption) ?_
   simp only [Act.put,GL,DL,lss];refine tq 3 (h:=?_);have e8:aj ai W5 o4 W5.drew o4:=(aj.refl _ _ _).drew;have e9:=e7.step e8 id;have g6:=e6.step e8 id;have qF:=pW.trans (e8.only X);have rZ:W5.drew.heap[w.heap.size]?=_:=sD;have g7:W5.drew.heap[g]?=_:=b9;have qX:=PK (w:=W5.drew) (o:=o4) (bv := .slice E n J) ⟨A,B,C,pl⟩ e9 (by show pl.length<=480;have:=zA.out;omega) (by show B<=1000000;omega) (by show C<=1000000;omega);clear e7 e6 pW sD b9 g5;refine tO 2 (h:=?_);go_wp2_with fail;refine qX.mono ?_;rintro e W6 ⟨v6,o6,rfl,a6,vG⟩;have j4:=au rZ;have g8:=au g7;have f0:W6.rangeAt g 0 [.int .u64 (A.toNat:Int), .int .i64 (B:Int), .int .i64 (C:Int), .slice E n J]:=Cf c6 (a6.block g g8 id);have j5:=e9.step a6 id;have j6:=g6.step a6 id;have j7:=qF.trans (a6.only X);have j8:W6.heap[w.heap.size]?=_:=(a6.block w.heap.size j4 id).trans rZ;have zD:=vG.bytes;have n4:o6 g=(X,0):=(a6.own g g8).trans g1;clear qX vG a6 e9 g6 qF rZ g7;go_wp2_with fail;refine ⟨fun _=>f0, ?_⟩;refine tO 4 (h:=?_);go_wp2_with fail;refine (Xz zD j6).mono ?_;rintro e w' ⟨rfl,rfl⟩;go_wp2_with fail;refine ⟨fun _=>f0, ?_⟩;obtain ⟨j9,k3⟩:=Ba (P:=prog) (ty:=238) (vs:=[.int .u64 (A.toNat:Int), .int .i64 (B:Int), .int .i64 (C:Int), .slice E n J]) j8 rfl (by kernel_rfl) rfl;have wL:=j7.setCells w.heap.size 0 [.int .u64 (A.toNat:Int), .int .i64 (B:Int), .int .i64 (C:Int), .slice E n J] (.inr (Nat.le_refl _));have g9:(W6.setCells w.heap.size 0 [.int .u64 (A.toNat:Int), .int .i64 (B:Int), .int .i64 (C:Int), .slice E n J]).rangeAt g 0 [.int .u64 (A.toNat:Int), .int .i64 (B:Int), .int .i64 (C:Int), .slice E n J]:=
    Cf f0 (ah _ _ _ _ _ om)
   refine tO 5 (h:=?_);refine AC j9 ?_;refine wpList_nil ?_;refine ⟨fun _=>g9, ?_⟩;have k7:Bytes (W6.setCells w.heap.size 0 [.int .u64 (A.toNat:Int), .int .i64 (B:Int), .int .i64 (C:Int), .slice E n J]) (fun k=>if k=w.heap.size then (0,0) else o6 k) (.slice E n J) pl:=by
    rcases j5 with h | ⟨b',b8,k9,hv,h1,h2,h3,h4,h5⟩
    ·exact .inl h
    ·have h6:b' ≠ w.heap.size:=j2 b' b8 (by simp only [Value.slice.injEq] at hv;exact hv.1);refine .inr ⟨b',b8,k9,hv,h1,h2,by simp only [if_neg h6];exact h3,by rw [size_setCells];exact h4,Cf h5 (ah _ _ _ _ _ h6)⟩
   refine tO 6 (h:=?_);go_wp2_with fail;refine ⟨fun _=>g9, ?_⟩;refine tD (h:=?_);go_wp2_with fail;refine bodyPost_ret (Eg rfl _ _ w.heap.size 238 _ (0,0) _ rfl k3 underlying238 rfl (by kernel_rfl)) rfl ?_;rw [b3.out];have b5:=wL.nobody d6;refine ⟨_,(fun k=>if k=w.heap.size then (0,0) else o6 k),rfl,⟨b5.os,b5.tape,b5.output,b5.size,fun k hk=>by simp only [if_neg (show k ≠ w.heap.size by omega)];exact b5.own k hk,b5.block⟩, .slice E n J,rfl,k7⟩
def Ad.wf (m:Ad):Prop:=m.first<=4096/\2<=m.n/\m.n<=2000/\1<=m.end'/\m.end'<=m.n/\m.records.length+1<=m.end'/\∀ r ∈ m.records,r.length<=960000
def Ad.cells (m:Ad) (pd:Nat) (rv:Value):List Value:=
 [.pointer (some ⟨pd,0,none⟩), .int .i64 (m.first:Int), .int .i64 (m.n:Int), .int .u64 (m.stamp.toNat:Int), .bool m.Dx, .int .i64 (m.end':Int),rv, .bool m.dead]
def Mine (w:World) (o:Own) (v:Value):Prop:=∀ b off n c,v = .slice (some ⟨b,off,none⟩) n c->0<n->b<w.heap.size/\(o b).2=1
theorem Mine.step {T:Nat->Prop}{w w':World}{o o':Own}{v:Value}(h:Mine w o v) (s:aj T w o w' o'):Mine w' o' v:=fun b off n c e hn=>by
 obtain ⟨q,r⟩:=h b off n c e hn;exact ⟨Nat.lt_of_lt_of_le q s.size,by rw [s.own b q];exact r⟩
def JG (w:World) (o:Own) (vs:List Value) (ls:List (List UInt8)):Prop:=Ey w o vs ls/\∀ v ∈ vs,Mine w o v
theorem JG.step {T:Nat->Prop}{w w':World}{o o':Own}{vs:List Value}{ls:List (List UInt8)}(h:JG w o vs ls) (s:aj T w o w' o') (q:¬ T 0):JG w' o' vs ls:=
 ⟨h.1.step s q,fun v hv=>(h.2 v hv).step s⟩
theorem JG.nil (w:World) (o:Own):JG w o [] []:=⟨Ey.nil w o,by simp⟩
def BZ (w:World) (o:Own) (L p pd:Nat) (m:Ad):Prop:=
 ∃ rv vs,w.heap[p]?=some (.cells (m.cells pd rv).toArray 233 (0,0))/\w.ownsRow 0 29 1 rv m.records.length vs/\JG w o vs m.records/\o p=(L,0)/\(∀ k,rv.ownBlock=some k->o k=(L,1))/\m.wf
def In (L D:Nat):Nat->Prop:=fun k=>k=L \/ k=D
theorem BZ.step {T:Nat->Prop}{w w':World}{o o':Own}{L p pd:Nat}{m:Ad}(h:BZ w o L p pd m) (s:aj T w o w' o') (u:¬ T L) (h0:¬ T 0):BZ w' o' L p pd m:=by
 obtain ⟨O,U,hp,r,hv,E,F,W⟩:=h;have J:=au hp;refine ⟨O,U, ?_, ?_,hv.step s h0, ?_, ?_,W⟩
 ·rw [s.block p J (by rw [E];exact u)];exact hp
 ·exact Ci r fun k q=>s.block k (r.lt k q).2 (by rw [F k q];exact u)
 ·rw [s.own p J];exact E
 ·intro k q;rw [s.own k (r.lt k q).2];exact F k q
theorem BZ.wf {w:World}{o:Own}{L p pd:Nat}{m:Ad}(h:BZ w o L p pd m):m.wf:=by
 obtain ⟨r,u,hp,E,hv,F,J,q⟩:=h;exact q
theorem BZ.lt {w:World}{o:Own}{L p pd:Nat}{m:Ad}(h:BZ w o L p pd m):p<w.heap.size:=by
 obtain ⟨q,r,hp,u,hv,E,F,J⟩:=h;exact au hp
theorem BZ.wE {w:World}{o:Own}{L p pd:Nat}{m:Ad}(h:BZ w o L p pd m):(o p).1=L:=by
 obtain ⟨r,u,hp,E,hv,q,F,J⟩:=h;rw [q]
theorem BZ.set {w:World}{o:Own}{L p pd:Nat}{m m':Ad}(h:BZ w o L p pd m) (E:L ≠ 0) (i:Nat) (v:Value) (hc:∀ rv,(m.cells pd rv).set i v=m'.cells pd rv) (r:m'.records=m.records) (F:m'.wf) :
  BZ (w.setCell ⟨p,i,none⟩ v) o L p pd m':=by
 obtain ⟨rv,J,hp,O,hv,q,u,_⟩:=h;have U:=(aj.refl (ak L) w o).setCell (a:=⟨p,i,none⟩) v (.inl (by show ak L (o p).1;rw [q];rfl));refine ⟨rv,J,by rw [Ai v hp,hc], ?_,by rw [r];exact hv.step U (fun h=>E h.symm),q,u,F⟩;rw [r];refine Ci O fun k W=>Below.heap_setCell _ _ _ _ ?_;rintro rfl;have:=u _ W;rw [q] at this;simp at this
theorem BZ.DC {w:World}{o:Own}{L p pd:Nat}{m:Ad}(h:BZ w o L p pd m) (i:Nat) (v:Value):aj (ak L) w o (w.setCell ⟨p,i,none⟩ v) o:=
 (aj.refl _ w o).setCell v (.inl h.wE)
theorem BZ.open {w:World}{o:Own}{L p pd:Nat}{m:Ad}(h:BZ w o L p pd m):∃ rv vs,
  (w.cell? ⟨p,0,none⟩=some (.pointer (some ⟨pd,0,none⟩))/\w.cell? ⟨p,1,none⟩=some (.int .i64 (m.first:Int))/\w.cell? ⟨p,2,none⟩=some (.int .i64 (m.n:Int))/\w.cell? ⟨p,3,none⟩=some (.int .u64 (m.stamp.toNat:Int)) /\
   w.cell? ⟨p,4,none⟩=some (.bool m.Dx)/\w.cell? ⟨p,5,none⟩=some (.int .i64 (m.end':Int))/\w.cell? ⟨p,6,none⟩=some rv/\w.cell? ⟨p,7,none⟩=some (.bool m.dead)) /\
  (∀ i,w.frozen? ⟨p,i,none⟩=false)/\w.ownsRow 0 29 1 rv m.records.length vs/\Ey w o vs m.records/\o p=(L,0)/\(∀ k,rv.ownBlock=some k->o k=(L,1)):=by
 obtain ⟨rv,vs,hp,q,hv,r,u,E⟩:=h;exact ⟨rv,vs,⟨ag hp 0,ag hp 1,ag hp 2,ag hp 3,ag hp 4,ag hp 5,ag hp 6,ag hp 7⟩,fun i=>Ap hp i,q,hv.1,r,u⟩
theorem UI {w:World}{o:Own}{L p pd:Nat}{m:Ad}(h:BZ w o L p pd m):Calls prog 180 #[.pointer (some ⟨p,0,none⟩)] w (XL ai w o fun v _ _=>v = .int .i64 (m.room:Int)):=by
 obtain ⟨r,u,E,h4,F,_⟩:=h.wf;obtain ⟨rv,vs,⟨J,c1,c2,O,U,c5,W,Y⟩, -⟩:=h.open;have q:((m.room:Nat):Int)=480*((m.n:Int) - (m.end':Int)):=by unfold Ad.room;omega
 rw [q];have b1:(m.n:Int)<=2000:=om
 have b2:(m.end':Int)<=(m.n:Int):=om
 clear q r u E h4 F J c1 O U W Y;have a2:=(aj.refl ai w o).drew;go_enter func180,ntmps180;go_wp2_with fail;refine Aa (fun w'=>w'.cell? ⟨p,2,none⟩=some (.int .i64 (m.n:Int))/\w'.cell? ⟨p,5,none⟩=some (.int .i64 (m.end':Int))) (fun _=>true) (by kernel_rfl) ⟨c2,c5⟩ (fun a3 => ?_);refine tq 0 (h:=tq 1 (h:=tq 2 (h:=tq 3 (h:=tq 4 (h:=tq 5 (h:=tq 6 (h:=tq 7 (h:=tq 8 (h:=tq 9 (h:=tq 10 (h:=tD (h:=?_))))))))))));go_wp2_with fail;go_ret;refine ⟨_,o,rfl,a2, ?_⟩;show Value.int .i64 (IntKind.i64.wrap (480*IntKind.i64.wrap ((m.n:Int) - (m.end':Int))))=_;rw [wrap_i64 (n:=(m.n:Int) - (m.end':Int)) om om,wrap_i64 om om]
def LD (w:World) (o:Own) (L D p pd:Nat) (s:Ad × Af):Prop:=BZ w o L p pd s.1/\Bg w o D pd s.2
theorem LD.step {T:Nat->Prop}{w w':World}{o o':Own}{L D p pd:Nat}{s:Ad × Af}(h:LD w o L D p pd s) (st:aj T w o w' o') (q:¬ T L) (r:¬ T D) (h0:¬ T 0):LD w' o' L D p pd s:=
 ⟨h.1.step st q h0,h.2.step st r⟩
theorem aj.yG {L D:Nat}{w w':World}{o o':Own}(h:aj (ak L) w o w' o'):aj (In L D) w o w' o':=h.mono fun _ x => .inl x
theorem aj.inD {L D:Nat}{w w':World}{o o':Own}(h:aj (ak D) w o w' o'):aj (In L D) w o w' o':=h.mono fun _ x => .inr x
theorem aj.uV {L D:Nat}{w w':World}{o o':Own}(h:aj ai w o w' o'):aj (In L D) w o w' o':=h.mono fun _ x=>x.elim
def Ad.goes (st:Nat->Ad × Af) (er:Nat->Int):Nat->Nat->(Ad × Af) × Int
 | i,0=>(st i,0)
 | i,n+1=>if er i ≠ 0 then (({ (st (i+1)).1 with dead:=(st (i+1)).1.dead || er i == 9 },(st (i+1)).2),er i) else Ad.goes st er (i+1) n
theorem Qv {w:World}{o:Own}{L D p pd:Nat}{s:Ad × Af}(h:LD w o L D p pd s) (q:(s.1.dead || s.2.dead)=true) (sa:Option Addr) (F J:Nat) :
  Calls prog 231 #[.pointer (some ⟨p,0,none⟩), .slice sa F J] w (XL ai w o fun v _O _U=>v = .int .i64 9):=by
 obtain ⟨W,Y,⟨c0, -, -, -, -, -, -,u⟩, -⟩:=h.1.open;have E:=Ic h.2
 cases r:s.1.dead with
 | true =>
  rw [r] at u;go_enter func231,ntmps231;go_wp2_with fail;go_ret;exact ⟨_,o,rfl,aj.refl _ _ _,rfl⟩
 | false =>
  rw [r] at u q;simp only [Bool.false_or] at q;rw [q] at E;clear q r;go_enter func231,ntmps231;go_wp2_with fail;refine E.mono ?_;rintro e w' ⟨rfl,rfl⟩;go_wp2_with fail;go_ret;exact ⟨_,o,rfl,aj.refl _ _ _,rfl⟩
theorem LD.fJ {w:World}{o:Own}{L D p pd:Nat}{s:Ad × Af}(h:LD w o L D p pd s) (r:L ≠ 0) (u:L ≠ D) (b:Bool) :
  LD (w.setCell ⟨p,7,none⟩ (.bool b)) o L D p pd ({ s.1 with dead:=b },s.2)/\aj (In L D) w o (w.setCell ⟨p,7,none⟩ (.bool b)) o:=by
 have q:=h.1.DC 7 (.bool b);exact ⟨⟨h.1.set r 7 (.bool b) (fun E=>rfl) rfl h.1.wf,h.2.step q (fun e=>u e.symm)⟩,q.yG⟩
theorem alive_any {w:World}{o:Own}{L D p pd:Nat}(hL:L ≠ 0) (hD:D ≠ 0) (b5:L ≠ D) (st:Nat->Ad × Af) (er:Nat->Int) (h:LD w o L D p pd (st 0)) (hd:((st 0).1.dead || (st 0).2.dead)=false)
  (n:Nat) (hn:n<=1000) (a4:List Value) (b6:a4.length=n) (U:Nat->Nat) (bd cp:Nat->Array Value) (a8:∀ i,i<n->a4[i]?=some (.func (.func (U i)) (bd i) (cp i)))
  (a9:∀ i (args:Array Value) (x:World),i<n->(callFunc (U i) args).run prog x = .ok (.enter (U i) args) x)
  (sa:Option Addr) (sc:Nat) (b7:sH w o (.slice sa n sc) n a4)
  (b1:∀ i,i<n->(∀ j,j<i->er j=0)->∀ w1 o1,aj (In L D) w o w1 o1->LD w1 o1 L D p pd (st i) ->
   Calls prog (U i) (bd i++cp i) w1 (XL (In L D) w1 o1 fun v w' o'=>v = .int .i64 (er i)/\LD w' o' L D p pd (st (i+1)))) :
  Calls prog 231 #[.pointer (some ⟨p,0,none⟩), .slice sa n sc] w (XL (In L D) w o fun v w' o'=>v = .int .i64 (Ad.goes st er 0 n).2/\LD w' o' L D p pd (Ad.goes st er 0 n).1):=by
 have hN:¬ In L D 0:=fun h=>by rcases h with h | h <;> omega
 obtain ⟨rv,vs,⟨c0, -, -, -, -, -, -,c7⟩, -⟩:=h.1.open;have q:=Ic h.2;simp only [Bool.or_eq_false_iff] at hd;rw [hd.1] at c7;rw [hd.2] at q;clear hd;have b2:∀ k,k<=n->(∀ j,j<k->er j=0)->Ad.goes st er 0 n=Ad.goes st er k (n - k):=by
  intro k
  induction k with
  | zero=>intro _ _;rfl
  | succ k ih =>
   intro hk r;rw [ih om (fun j b8=>r j om)];obtain ⟨m,hm⟩:∃ m,n - k=m+1:=⟨n - k - 1,om⟩;rw [hm,show n - (k+1)=m from by omega]
   conv=>lhs;unfold Ad.goes
   rw [if_neg (by have:=r k om;omega)]
 have b3:=ae b2;have b9:=ae a8;have rY:=ae a9;have wK:=ae b1;clear b2 a8 a9 b1 b6;go_enter func231,ntmps231;go_wp2_with fail;refine q.mono ?_;rintro e w' ⟨rfl,rfl⟩;clear q;go_wp2_with fail
 go_loopw [23] (fun i wr=>∃ k:Nat,k<=n/\i = .int .i64 k/\Hid (∀ j,j<k->er j=0)/\∃ o',aj (In L D) w o wr o'/\LD wr o' L D p pd (st k)) (fun i _=>n - (intOf i).toNat)
 case atStart=>exact ⟨0,Nat.zero_le _,rfl,ae (fun j r=>om),o,aj.refl _ _ _,h⟩
 case round =>
  clear c0 c7;obtain ⟨k,hk,rfl,r,o',E,a3⟩:=hrel
  by_cases W:k<n
  ·obtain ⟨b,off,rfl,hc,c3,c4⟩:=b7.cell k (b9.out k W);have d5:wr.cell? ⟨b,off+k,none⟩=some (.func (.func (U k)) (bd k) (cp k)):=by
    rw [World.cell?_of_block (a:=⟨b,off+k,none⟩) (E.block b c3 (by rw [c4];exact hN))];exact hc
   have d6:=fun args x=>rY.out k args x W;have a5:=wK.out k W r.out wr o' E a3;go_wp2_with fail;refine a5.mono ?_;rintro e w1 ⟨v1,o1,rfl,a6,rfl,F⟩;have u:=E.trans a6
   by_cases J:er k=0
   ·have c6:Hid (∀ j,j<k+1->er j=0):=ae fun j b8=>by
     by_cases c8:j=k
     ·subst c8;exact J
     ·exact r.out j om
    rw [J];clear J a5 E a6 a3;go_wp2_with fail;go_roundw
    case rel=>exact ⟨k+1,W,by go_num,c6,o1,u,F⟩
    case measure=>simp [intOf];omega
   ·have d8:(er k != 0)=true:=by simpa using J
    have Y:Ad.goes st er 0 n=(({ (st (k+1)).1 with dead:=(st (k+1)).1.dead || er k == 9 },(st (k+1)).2),er k):=by
     rw [b3.out k hk r.out];obtain ⟨m,hm⟩:∃ m,n - k=m+1:=⟨n - k - 1,om⟩;rw [hm];unfold Ad.goes;rw [if_pos J]
    have a7:=ae Y;obtain ⟨d9,e0,⟨-, -, -, -, -, -, -,d7⟩,b4, -⟩:=F.1.open;have e3:=b4 7;have O:=F.fJ hL b5;generalize c9:er k=e1 at *;generalize d1:st (k+1)=s1 at *;clear d1 c9 J Y a5 a3 E a6 b4 W;have a2:∀ (w':World) (o':Own) (b:Bool),Hid (b=(s1.1.dead || e1 == 9))->Hid (aj (In L D) w o w' o'/\LD w' o' L D p pd ({ s1.1 with dead:=b },s1.2)) ->
      XL (In L D) w o (fun v w' o'=>v = .int .i64 (Ad.goes st er 0 n).2/\LD w' o' L D p pd (Ad.goes st er 0 n).1) (.returned (.int .i64 e1)) w':=fun w' o' b hb hh=>by
     rw [a7.out];have h2:=hh.out;rw [hb.out] at h2;exact ⟨_,o',rfl,h2.1,rfl,h2.2⟩
    cases q:s1.1.dead with
    | true =>
     rw [q] at d7 a2;have hq:=O true;have yV:=ae (show aj (In L D) w o _ o1/\_ from ⟨u.trans hq.2,hq.1⟩);clear hq O u q F;go_wp2_with fail;go_ret;exact a2 _ _ true (ae rfl) yV
    | false =>
     rw [q] at d7 a2
     by_cases h9:e1=9
     ·subst h9;have hq:=O true;have yV:=ae (show aj (In L D) w o _ o1/\_ from ⟨u.trans hq.2,hq.1⟩);clear hq O u q F;go_wp2_with fail;go_ret;exact a2 _ _ true (ae rfl) yV
     ·have d3:(e1 == 9)=false:=by simpa using h9
      have hq:=O false;have yV:=ae (show aj (In L D) w o _ o1/\_ from ⟨u.trans hq.2,hq.1⟩);have d4:=ae d3;clear hq O u q F h9;go_wp2_with fail;go_ret;exact a2 _ _ false (ae (by rw [d4.out];rfl)) yV
  ·obtain rfl:n=k:=om
   have Y:Ad.goes st er 0 n=(st n,0):=by rw [b3.out n (Nat.le_refl _) r.out,Nat.sub_self];rfl
   have a7:=ae Y;clear Y;go_wp2_with fail;go_ret;rw [a7.out];exact ⟨_,o',rfl,E,rfl,a3⟩
theorem Af.Nz (d:Af) (at':Int) (l:List UInt8):(d.write at' l).1.row.length<=d.row.length+1:=by
 unfold Af.write;have:=(Af.Hg d (d.asked at' l.length)).2;dsimp only;split
 ·rw [this];omega
 ·simp only [List.length_append,List.length_cons,List.length_nil];rw [this];omega
theorem Af.ZJ (d:Af):d.sync.1.row.length<=d.row.length:=by
 unfold Af.sync;have:=(Af.Hg d (d.asked 0 512)).2;dsimp only;split
 ·rw [this];omega
 ·simp [Af.done]
theorem Rf (x:BitVec 64):IntKind.u64.wrap ((x.toNat:Int)+1)=((x+1#64).toNat:Int):=by
 rw [BitVec.toNat_add];simp only [IntKind.wrap,IntKind.bits,IntKind.signed];simp
theorem Ad.Uo {m:Ad}(h:m.wf) (x:BitVec 64):({ m with stamp:=x }:Ad).wf:=h
def Held (w:World) (p pd:Nat) (m:Ad):Prop:=
 w.cell? ⟨p,0,none⟩=some (.pointer (some ⟨pd,0,none⟩))/\w.cell? ⟨p,1,none⟩=some (.int .i64 (m.first:Int))/\w.cell? ⟨p,2,none⟩=some (.int .i64 (m.n:Int))/\w.cell? ⟨p,3,none⟩=some (.int .u64 (m.stamp.toNat:Int)) /\
   w.cell? ⟨p,4,none⟩=some (.bool m.Dx)/\w.cell? ⟨p,5,none⟩=some (.int .i64 (m.end':Int))/\w.cell? ⟨p,7,none⟩=some (.bool m.dead)
theorem BZ.held {w:World}{o:Own}{L p pd:Nat}{m:Ad}(h:BZ w o L p pd m):Held w p pd m:=by
 obtain ⟨F,J,⟨q,c1,c2,r,u,c5,O,E⟩, -⟩:=h.open;exact ⟨q,c1,c2,r,u,c5,E⟩
theorem VB {w:World}{o:Own}{L D p pd:Nat}(hL:L ≠ 0) (hD:D ≠ 0) (Y:L ≠ D) {s:Ad × Af}(h:LD w o L D p pd s) (b8:s.2.row.length<=900000) :
  Calls prog 234 #[.pointer (some ⟨p,0,none⟩)] w (XL (In L D) w o fun v w' o'=>v = .int .i64 (Ad.head s).2/\LD w' o' L D p pd (Ad.head s).1):=by
 obtain ⟨m,d⟩:=s;obtain ⟨hl,hd⟩:=h;simp only at hl hd b8;have hN:¬ In L D 0:=fun h=>by rcases h with h | h <;> omega
 obtain ⟨r,e1,q⟩:∃ r e1,d.write (m.first:Int) (AA.page ⟨m.stamp+1#64,0,0,[]⟩)=(r,e1):=⟨_,_,rfl⟩
 obtain ⟨d2,e2,hy⟩:∃ d2 e2,r.sync=(d2,e2):=⟨_,_,rfl⟩;have b9:r.row.length<=1000000:=by have:=Af.Nz d (m.first:Int) (AA.page ⟨m.stamp+1#64,0,0,[]⟩);rw [q] at this;simp only at this;omega
 have hE:Ad.head (m,d)=if e1 ≠ 0 then (({ m with stamp:=m.stamp+1#64 },r),e1) else (({ m with stamp:=m.stamp+1#64 },d2),e2):=by
  unfold Ad.head;simp only [q,hy]
 have u:=ae hE;clear hE;have E:=hl.set (m':={ m with stamp:=m.stamp+1#64 }) hL 3 (.int .u64 ((m.stamp+1#64).toNat:Int)) (fun rv=>rfl) rfl (Ad.Uo hl.wf _);have F:=hl.DC 3 (.int .u64 ((m.stamp+1#64).toNat:Int));have a2:=hd.step F (fun e=>Y e.symm);obtain ⟨rv,vs,⟨c0,c1,c2,c3,c4,c5,c6,c7⟩,hf, -⟩:=hl.open;have f3:=hf 3;have J:=Rf m.stamp;have wS:=hl.lt;clear hf c0 c1 c2 c4 c5 c6 c7 hl hd;obtain ⟨st,a8⟩:=az (m.stamp+1#64);rw [a8] at q u E F a2 J;clear a8;go_enter func234,ntmps234;go_wp2_with fail;obtain ⟨W,hW⟩:=az (w.setCell ⟨p,3,none⟩ (.int .u64 (st.toNat:Int)));rw [hW] at E F a2 ⊢;have d6:w.heap.size=W.heap.size:=by rw [<-hW];simp
 clear hW c3 f3 J;have hh:=E.held;obtain ⟨h0,h1,h2,h3,h4,h5,h7⟩:=hh;simp only at h0 h1 h2 h3 h4 h5 h7;refine Aa (fun w'=>w'.cell? ⟨p,0,none⟩=some (.pointer (some ⟨pd,0,none⟩))/\w'.cell? ⟨p,1,none⟩=some (.int .i64 (m.first:Int))/\w'.cell? ⟨p,3,none⟩=some (.int .u64 (st.toNat:Int))) (fun _=>true) (by kernel_rfl) ⟨h0,h1,h3⟩ (fun a3 => ?_)
 refine tq 0 (h:=tq 1 (h:=tq 2 (h:=tq 3 (h:=tq 4 (h:=tq 5 (h:=tq 6 (h:=tq 7 (h:=tq 8 (h:=tq 9 (h:=tq 10 (h:=tq 11 (h:=tq 12 (h:=?_)))))))))))));have a4:aj ai W o W.drew o:=(aj.refl _ _ _).drew;have a9:=E.step a4 id id;have b1:=a2.step a4 id;have b2:=(F.yG (D:=D)).trans a4.uV;have qX:=PK (w:=W.drew) (o:=o) (bv := .slice none 0 0) ⟨st,0,0,[]⟩ (Bytes.nil _ _) (by simp) (by simp) (by simp);clear E a2 F h0 h1 h2 h3 h4 h5 h7;refine tO 13 (h:=?_);go_wp2_with fail;refine qX.mono ?_;rintro e W6 ⟨v6,o6,rfl,O,vG⟩;have a5:=a9.step O id id;have b3:=b1.step O id;have b4:=b2.trans O.uV;have zD:=vG.bytes;have c8:p<W.drew.heap.size:=by show p<W.heap.size;omega
 have e6:=O.block p c8 id;have U:W6.cell? ⟨p,0,none⟩=some (.pointer (some ⟨pd,0,none⟩))/\W6.cell? ⟨p,1,none⟩=some (.int .i64 (m.first:Int))/\W6.cell? ⟨p,3,none⟩=some (.int .u64 (st.toNat:Int)):=
  ⟨(World.cell?_of_block (a:=⟨p,0,none⟩) e6).trans a3.1,(World.cell?_of_block (a:=⟨p,1,none⟩) e6).trans a3.2.1,(World.cell?_of_block (a:=⟨p,3,none⟩) e6).trans a3.2.2⟩
 have J:=Uk b3 hD om (m.first:Int) v6 _ zD q
 clear qX vG O a9 b1 b2 a4 zD;go_wp2_with fail;refine ⟨fun _=>U, ?_⟩;refine tO 14 (h:=?_);go_wp2_with fail;refine J.mono ?_;rintro e W7 ⟨v7,o7,rfl,a6,rfl,b5⟩;have c9:(o6 p).1=L:=a5.wE;have d3:=a5.lt;have e7:=a6.block p d3 (by rw [c9];exact fun e=>Y e);have a7:W7.cell? ⟨p,0,none⟩=some (.pointer (some ⟨pd,0,none⟩))/\W7.cell? ⟨p,1,none⟩=some (.int .i64 (m.first:Int))/\W7.cell? ⟨p,3,none⟩=some (.int .u64 (st.toNat:Int)):=
  ⟨(World.cell?_of_block (a:=⟨p,0,none⟩) e7).trans U.1,(World.cell?_of_block (a:=⟨p,1,none⟩) e7).trans U.2.1,(World.cell?_of_block (a:=⟨p,3,none⟩) e7).trans U.2.2⟩
 have wY:=a5.step a6 (fun e=>Y e) (fun e=>hD e.symm);have b6:=b4.trans a6.inD;clear a5 b3 b4 a6 J a3 e6 e7;go_wp2_with fail;refine ⟨fun _=>a7, ?_⟩;refine tO 15 (h:=?_);go_wp2_with fail;refine ⟨fun _=>a7, ?_⟩;refine tD (h:=?_);have q0:=a7.1;clear a7 U
 by_cases he:e1=0
 ·subst he;have d4:=XD b5 b9 hy;rw [if_neg (by simp)] at u;clear hy q;go_wp2_with fail;refine d4.mono ?_;rintro e W8 ⟨v8,o8,rfl,b7,rfl,d5⟩;go_wp2_with fail;go_ret;rw [u.out];exact ⟨_,o8,rfl,b6.trans b7.inD,rfl,wY.step b7 (fun e=>Y e) (fun e=>hD e.symm),d5⟩
 ·have d7:(e1 != 0)=true:=by simpa using he
  rw [if_pos he] at u;clear he hy q;go_wp2_with fail;go_ret;rw [u.out];exact ⟨_,o7,rfl,b6,rfl,wY,b5⟩

end Go.Proofs.YtffkdillijmamaaGreat
