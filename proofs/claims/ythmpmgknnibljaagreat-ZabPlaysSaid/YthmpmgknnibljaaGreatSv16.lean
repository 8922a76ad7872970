/- Contract of the statement's same (law12): what the node tells is what the document's node tells. -/
import Derived.Deep.DeepCutAuto
import Derived.Test.YthmpmgknnibljaaGreatSv15
namespace Go.Proofs.YthmpmgknnibljaaGreat
open Go.Proofs.Tryz
set_option maxRecDepth 100000
set_option maxHeartbeats 6400000
open Go Go.RowKit
attribute [local go_sem ↓] Go.wp_at_zero Go.wp_at_succ
variable {w:World} {o:Own} {a:Option Addr} {B D M Y c fuel n p:Nat} {m:BG} {lv v:Value} {ls:List Ar} {y:Aj} {cs:List Value}
theorem AaA.at {ts:DX} (h:AaA w o (.slice a n c) ts) {i:Nat} {x:Nat × BG} (hx:ts[i]?=some x) :
  ∃ b off lv,a=some ⟨b,off,none⟩/\w.rangeAt b (off+i*7) (AaD x lv)/\Lines w o 0 lv x.2.ls/\b<w.heap.size/\(o b).1=0:=by
 obtain ⟨cs,hs,hc⟩:=h;obtain ⟨lv,e1,e3⟩:=hc.2 i x hx;have hi:=(List.getElem?_eq_some_iff.1 hx).1
 rcases hs with ⟨-,h0, -⟩ | ⟨b,off,cap,hv,hl,hm,ho,hb,hr⟩
 ·omega
 ·simp only [Value.slice.injEq] at hv;obtain ⟨rfl, -, -⟩:=hv;refine ⟨b,off,lv,rfl,fun j v hj => ?_,e3,hb,ho⟩;have:=hr (i*7+j) v (e1 j v hj);rw [<-Nat.add_assoc] at this;exact this
def BG.raw (m:BG):CP:=⟨m.k,m.e,m.c,(m.at':Int),(m.com:Int),m.ls⟩
theorem BG.Ajt (h:m.May):m.raw.may=true:=m.raw.TC.2 ⟨h,Int.natCast_nonneg _,Int.natCast_nonneg _⟩
theorem BG.Ann (h:m.May):m.raw.put=m.put:=by unfold CP.put;rw [if_pos (Ajt h)];rfl
theorem AkK (hm:m.May) (hl:Lines w o 0 lv m.ls) :
  Calls prog 20 #[.agg #[.int .u8 (m.k:Int), (m.e:aV), (m.c:aV), (m.at':aV), (m.com:aV),lv]] w (XL ai w o fun v w' o'=>∃ bv,v = .tuple #[bv, .int .i64 0]/\Bytes w' o' bv m.put):=by
 have h:=ZV m.raw hl (fun x hx=>Nat.le_trans (hm.hl x hx).2.2 aP);rw [BG.Ajt hm,BG.Ann hm,if_pos rfl] at h;exact h
theorem AkS {t:List (Nat × List UInt8)} (h:Dn w o v t):t.length<=maxLen:=by
 obtain ⟨cs,hs, -⟩:=h
 rcases hs with ⟨-,h0, -⟩ | ⟨b,off,cap,hv,hl,hm,ho,hb,hr⟩
 ·rw [h0];exact Nat.zero_le _
 ·exact Nat.le_trans hl hm
theorem AfG {v1 v2:Value} {ts:DX} (h1:Dn w o v1 (Ed ts)) (h2:AaA w o v2 ts) (hm:Aj.EH ts) :
  Calls prog 32 #[v1,v2] w (XL ai w o fun v _ _=>v = .bool true):=by
 have hlen:=AkS h1;have hbl:(Ed ts).length=ts.length:=by unfold Ed;rw [List.length_map]
 obtain ⟨N,hN⟩:=az (ts.length);rw [hbl,hN] at hlen;unfold maxLen at hlen;obtain ⟨va,vc,rfl⟩:=h1.EG (hbl.trans hN);obtain ⟨ua,uc,rfl⟩:=h2.form;rw [hN] at h2 ⊢;have hNI:(0:Int)<=(N:Int)/\(N:Int)<=9223372036854775807:=aP
 have hH:=aa4 h1 h2 hm hN;clear h1 h2 hm hN hlen hbl;go_enter func32,ntmps32;go_wp2_with fail
 go_loopw [5] (fun i wr=>∃ (j:Nat) (oj:Own),j<=N/\i = .int .i64 j/\aj ai w o wr oj) (fun i _=>N - (intOf i).toNat)
 case atStart=>exact ⟨0,o,Nat.zero_le _,rfl,aj.refl _ _ _⟩
 case round =>
  obtain ⟨j,oj,hj,rfl,hst⟩:=hrel
  by_cases hlt:j<N
  ·have AbY:(0:Int)<=(j:Int)/\(j:Int)<(N:Int):=aP
   obtain ⟨h1,h2,hm,hN⟩:=hH.out;obtain ⟨x,hx⟩:∃ x,ts[j]?=some x:=⟨_,List.getElem?_eq_getElem (by rw [hN];exact hlt)⟩;obtain ⟨tto,m⟩:=x;have hmm:=hm _ (List.mem_of_getElem? hx);obtain ⟨b',off',lv,rfl,r2,hl2, -⟩:=(h2.step hst id).at hx;have hpt:=ae (AkK hmm hl2);have hld:=ae (show (Instr.loadAt 46 (.pointer (some (aW b' (off'+j*7+1))))).run prog wr = .ok (.agg #[.int .u8 (m.k:Int), (m.e:aV), (m.c:aV), (m.at':aV), (m.com:aV),lv]) wr from Ip (ER r2 1 6) rfl);have hG:=aa2 hst hx;clear h1 h2 hm hN hx hmm r2 hl2 hst
   go_wp2_with ((with_reducible apply Bo);exact hld.out;simp only [Act.put,lsa,lsz,lss])
   refine hpt.out.mono ?_;rintro e w3 ⟨v3,o3,rfl,hs3,xv,rfl,hb3⟩;obtain ⟨h1,h2,hm,hN⟩:=hH.out;have hsd:=(hG.out.1.trans hs3).drew;obtain ⟨b1,off1,bv,rfl,r1,y1, -⟩:=(h1.step hsd id).at (i:=j) (x:=(tto,m.put)) (by unfold Ed;rw [List.getElem?_map,hG.out.2];rfl);obtain ⟨b2,off2,lv2,hbe,r2, -⟩:=(h2.step hsd id).at hG.out.2;obtain ⟨X,hX⟩:=az (m.put);rw [hX] at y1 hb3;have c1:=CY y1;have c2:=CY (hb3.step (aj.refl ai w3 o3).drew id);have d1:w3.drew.cell? (aW b1 (off1+j*2))=some (tto:aV):=r1 0 _ rfl;have d2:w3.drew.cell? (aW b1 (off1+j*2+1))=some bv:=r1 1 _ rfl;have d3:w3.drew.cell? (aW b' (off'+j*7))=some (tto:aV):=by
    simp only [Option.some.injEq,Addr.mk.injEq,and_true] at hbe;obtain ⟨rfl,rfl⟩:=hbe;exact r2 0 _ rfl
   have hS:=aI d1 (aI d2 (aI d3 (aI c1 c2)));have hF:=ae hsd;clear h1 h2 hm hN hbe r1 r2 y1 hb3 c1 c2 d1 d2 d3 hs3 hsd hX hpt hld hG;go_wp2_with fail;refine Aa (fun w'=>w'.cell? (aW b1 (off1+j*2))=some (tto:aV)/\w'.cell? (aW b1 (off1+j*2+1))=some bv/\w'.cell? (aW b' (off'+j*7))=some (tto:aV)/\(convert 23 9 bv).run prog w' = .ok (.string ⟨X.toArray⟩) w'/\(convert 23 9 xv).run prog w' = .ok (.string ⟨X.toArray⟩) w') (fun _=>true) bf hS (fun hHeld => ?_);refine tq 0 (h:=tq 1 (h:=tq 2 (h:=tq 3 (h:=tq 4 (h:=tq 5 (h:=tq 6 (h:=tq 7 (h:=tq 8 (h:=tq 9 (h:=tq 10 (h:=tq 11 (h:=tq 12 (h:=tq 13 (h:=?_))))))))))))));refine tq 14 (h:=tq 15 (h:=tq 16 (h:=tq 17 (h:=tq 18 (h:=tq 19 (h:=tq 20 (h:=tq 21 (h:=tq 22 (h:=tq 23 (h:=tq 24 (h:=tq 25 (h:=tD (h:=?_)))))))))))));clear hHeld hS;go_wp2_with fail;go_roundw
   case rel=>exact ⟨j+1,o3,aP,by go_num,hF.out⟩
   case measure=>simp [intOf];omega
  ·obtain rfl:j=N:=aP
   go_wp2_with fail;go_ret;exact ⟨_,_,rfl,hst,rfl⟩
def AbH (n:Nat):List UInt8:=[UInt8.ofNat n,UInt8.ofNat (n / 256)]
def AcZ (p c:BitVec 64) (k:Nat):List UInt8:=(List.range k).flatMap fun i=>[pJ p i,pJ c i]
def lineText (x:Ar):List UInt8:=(List.range 7).map (pJ x.e)++AbH x.b.length++x.b
def AkL (p c:BitVec 64) (ls:List Ar):List UInt8:=AbH ls.length++AcZ p c 7++ls.flatMap lineText
theorem Afj (p c:BitVec 64) (k:Nat):AcZ p c (k+1)=AcZ p c k++[pJ p k,pJ c k]:=by
 unfold AcZ;rw [List.range_succ,List.flatMap_append];simp
theorem Aev (p c:BitVec 64) (k:Nat):(AcZ p c k).length=2*k:=by
 induction k with
 | zero=>rfl
 | succ k ih=>rw [Afj,List.length_append,ih];simp;omega
theorem AmM (w:World) (a b:Int):(Instr.buildSlice 23 2 #[(0, .int .u8 a),(1, .int .u8 b)]).run prog w = .ok (.slice w.heap.size 2 2) (w.alloc (.cells #[.int .u8 a, .int .u8 b] 5)):=bf
theorem ArI (w:World) (a b c d e f g h i:Int):(Instr.buildSlice 23 9 #[(0, .int .u8 a),(1, .int .u8 b),(2, .int .u8 c),(3, .int .u8 d),(4, .int .u8 e),(5, .int .u8 f),(6, .int .u8 g),(7, .int .u8 h),(8, .int .u8 i)]).run prog w = .ok (.slice w.heap.size 9 9) (w.alloc (.cells #[.int .u8 a, .int .u8 b, .int .u8 c, .int .u8 d, .int .u8 e, .int .u8 f, .int .u8 g, .int .u8 h, .int .u8 i] 5)):=bf
theorem AdY {x:Int} {b:UInt8} (h:x % 256=(b.toNat:Int)):IntKind.u8.wrap x=(b.toNat:Int):=by
 rw [<-h];simp [IntKind.wrap,IntKind.bits,IntKind.signed]
section
variable {w:World} {o:Own} {base:Nat} {p c:BitVec 64} {v:Value} {ls:List Ar}
theorem AiE (h:Lines w o base v ls) (hn:ls.length<=60000) (hl:(ls.flatMap lineText).length<=1300000) :
  Calls prog 79 #[(p:aV), (c:aV),v] w (XL ai w o fun r _w' _o'=>r=str (AkL p c ls)):=by
 obtain ⟨la,lc,rfl⟩:=h.form;obtain ⟨N,hN⟩:=az (ls.length);have hcv:=CY (Afe w o (AbH N) (by simp [AbH]));have hcv':=ae (show (convert 23 9 (.slice w.heap.size 2 2)).run prog (w.alloc (.cells #[.int .u8 ((UInt8.ofNat N).toNat:Int), .int .u8 ((UInt8.ofNat (N / 256)).toNat:Int)] 5)) = .ok (str (AbH N)) (w.alloc (.cells #[.int .u8 ((UInt8.ofNat N).toNat:Int), .int .u8 ((UInt8.ofNat (N / 256)).toNat:Int)] 5)) from hcv);have hst:=ae ((aj.refl ai w o).alloc (.cells #[.int .u8 ((UInt8.ofNat N).toNat:Int), .int .u8 ((UInt8.ofNat (N / 256)).toNat:Int)] 5) (0,0));have e1:(N:Int) % 256=((UInt8.ofNat N).toNat:Int):=by rw [UInt8.toNat_ofNat'];push_cast;rfl
 have e2:(N:Int) / 256=((UInt8.ofNat (N / 256)).toNat:Int):=by rw [UInt8.toNat_ofNat'];omega
 have hbs:=ae (show (Instr.buildSlice 23 2 #[(0, .int .u8 ((N:Int) % 256)),(1, .int .u8 ((N:Int) / 256))]).run prog w = .ok (.slice w.heap.size 2 2) (w.alloc (.cells #[.int .u8 ((UInt8.ofNat N).toNat:Int), .int .u8 ((UInt8.ofNat (N / 256)).toNat:Int)] 5)) from by
  rw [AmM,e1,e2])
 clear e1 e2;have hNI:(0:Int)<=(N:Int)/\(N:Int)<=60000:=aP
 have hH:=ae h;have hlH:=ae hl;have hNH:=ae hN;rw [hN] at hH ⊢;clear h hl hN hn hcv;go_enter func79,ntmps79
 go_wp2_with (first
  | ((with_reducible apply BO #[(0, .int .u8 ((N:Int) % 256)),(1, .int .u8 ((N:Int) / 256))] rfl);exact hbs.out;simp only [Act.put,lsa,lsz,lss])
  | (with_reducible apply Kq);exact hcv'.out;simp only [Act.put,lsa,lsz,lss])
 clear hbs hcv';obtain ⟨W0,hW0⟩:=az (w.alloc (.cells #[.int .u8 ((UInt8.ofNat N).toNat:Int), .int .u8 ((UInt8.ofNat (N / 256)).toNat:Int)] 5));rw [hW0] at hst ⊢;clear hW0
 go_loopw [7,8] (fun sv i wr=>∃ (j:Nat) (oj:Own),j<=7/\i = .int .i64 ((8*j:Nat):Int)/\sv=str (AbH N++AcZ p c j)/\aj ai w o wr oj) (fun _ i _=>56 - (intOf i).toNat)
 case atStart=>exact ⟨0,_,aP,rfl,by simp [AcZ],hst.out⟩
 case round =>
  clear hst;obtain ⟨j,oj,hj,rfl,rfl,hst⟩:=hrel
  by_cases hlt:j<7
  ·have hbp:=bQ p j;have hbc:=bQ c j;obtain ⟨bp,AqS⟩:=az (pJ p j);obtain ⟨bc,AqX⟩:=az (pJ c j);obtain ⟨e8,he8⟩:∃ e8:Nat,8*j=e8:=⟨_,rfl⟩;rw [AqS,he8] at hbp;rw [AqX,he8] at hbc;have hsT:=Afj p c j;rw [AqS,AqX] at hsT;rw [he8];have Bfy:(0:Int)<=(e8:Int)/\(e8:Int)<56:=aP
   obtain ⟨R0,hR0⟩:=az (AbH N++AcZ p c j);have Bav:R0.length<=100:=by rw [<-hR0,List.length_append,Aev];simp [AbH];omega
   rw [hR0];have hbs:=ae (AmM wr.drew (bp.toNat:Int) (bc.toNat:Int));have hcv:=ae (show (convert 23 9 (.slice wr.heap.size 2 2)).run prog (wr.drew.alloc (.cells #[.int .u8 (bp.toNat:Int), .int .u8 (bc.toNat:Int)] 5)) = .ok (str [bp,bc]) (wr.drew.alloc (.cells #[.int .u8 (bp.toNat:Int), .int .u8 (bc.toNat:Int)] 5)) from CY (Afe wr.drew oj [bp,bc] bu));have had:=ae (Aea (wr.drew.alloc (.cells #[.int .u8 (bp.toNat:Int), .int .u8 (bc.toNat:Int)] 5)) R0 [bp,bc] (by simp;omega));have hst2:=ae (hst.drew.alloc (.cells #[.int .u8 (bp.toNat:Int), .int .u8 (bc.toNat:Int)] 5) (0,0));have hR1:=ae (show R0++[bp,bc]=AbH N++AcZ p c (j+1) by rw [hsT, <-hR0,List.append_assoc]);have htr:True:=trivial;have hp0:(0:Int)<=(p.toNat:Int)/\(p.toNat:Int)<=18446744073709551615:=by have:=p.isLt;omega
   have hc0:(0:Int)<=(c.toNat:Int)/\(c.toNat:Int)<=18446744073709551615:=by have:=c.isLt;omega
   clear hsT hR0 hst AqS AqX;go_wp2_with fail;refine Aa (fun w'=>True) (fun _=>true) bf htr (fun hHeld => ?_);refine tq 0 (h:=tq 1 (h:=tq 2 (h:=tq 3 (h:=tv 4 (.int .u8 (bp.toNat:Int)) (hy:=fun w hSw=>by (try dsimp only at hSw);go_simp;exact AdY hbp) (h:=tq 5 (h:=tq 6 (h:=tq 7 (h:=tv 8 (.int .u8 (bc.toNat:Int)) (hy:=fun w hSw=>by (try dsimp only at hSw);go_simp;exact AdY hbc) (h:=tO 9 (h:=?_))))))))));apply BO #[(0, .int .u8 (bp.toNat:Int)),(1, .int .u8 (bc.toNat:Int))] rfl
   ·exact hbs.out
   simp only [Act.put,lsa,lsz,lss];go_wp2_with fail;refine ⟨fun _=>htr, ?_⟩;refine tO 10 (h:=?_);apply Kq
   ·exact hcv.out
   simp only [Act.put,lsa,lsz,lss];go_wp2_with fail;refine ⟨fun _=>htr, ?_⟩;refine tO 11 (h:=?_);apply AgZ
   ·exact had.out
   simp only [Act.put,lsa,lsz,lss];go_wp2_with fail;refine ⟨fun _=>htr, ?_⟩;refine tq 12 (h:=tD (h:=?_));rw [hR1.out];go_wp2_with fail;go_roundw
   case rel=>exact ⟨j+1,_,aP,by rw [show ((8*(j+1):Nat):Int)=(e8:Int)+8 by omega],rfl,hst2.out⟩
   case measure=>simp [intOf];omega
  ·obtain rfl:j=7:=aP
   obtain ⟨R0,hR0⟩:=az (AbH N++AcZ p c 7);have Bav:R0.length<=100:=by rw [<-hR0,List.length_append,Aev];simp [AbH]
   rw [hR0];have Baw:=ae hR0;clear hR0;have hLw:=ae (hH.out.step hst id);go_wp2_with fail;have hst':=ae hst;clear hst
   go_loopw [7,9] (fun sv i wr=>∃ (k:Nat) (oj:Own),k<=N/\i = .int .i64 k/\sv=str (R0++(ls.take k).flatMap lineText)/\Lines wr oj base (.slice la N lc) ls/\aj ai w o wr oj) (fun _ i _=>N - (intOf i).toNat)
   case atStart=>exact ⟨0,_,aP,rfl,bu,hLw.out,hst'.out⟩
   case round =>
    clear hst' hLw;obtain ⟨k,oj,hk,rfl,rfl,hLk,hst⟩:=hrel
    by_cases hlt:k<N
    ·have AbY:(k:Int)<N:=aP
     obtain ⟨x,hx⟩:∃ x,ls[k]?=some x:=⟨_,List.getElem?_eq_getElem (by have:=hNH.out;omega)⟩;obtain ⟨b,off,bv,rfl,hrg,hby, -,hblt, -⟩:=hLk.at hx;have hts:(ls.take (k+1)).flatMap lineText=(ls.take k).flatMap lineText++lineText x:=by
      rw [List.take_add_one,hx];simp
     have htl:((ls.take (k+1)).flatMap lineText).length<=1300000:=by
      refine Nat.le_trans ?_ hlH.out
      conv=>rhs;rw [<-List.take_append_drop (k+1) ls,List.flatMap_append,List.length_append]
      omega
     rw [hts,List.length_append] at htl;have hxl:x.b.length<=1300000:=by
      have:(lineText x).length=9+x.b.length:=by simp [lineText,AbH];omega
      omega
     obtain ⟨R1,hR1⟩:=az (R0++(ls.take k).flatMap lineText);have Bau:R1.length+(lineText x).length<=1300100:=by rw [<-hR1,List.length_append];omega
     have hR2:=ae (show R1++lineText x=R0++(ls.take (k+1)).flatMap lineText by rw [hts, <-hR1,List.append_assoc]);rw [hR1];clear hts htl hR1;obtain ⟨ba,bc,rfl⟩:=Aq hby;have cE:wr.cell? (aW b (off+k*2))=some (x.e:aV):=hrg 0 _ rfl;have cB:wr.cell? (aW b (off+k*2+1))=some (.slice ba x.b.length bc):=hrg 1 _ rfl;obtain ⟨L,hL⟩:=az (x.b.length);have hcB:=CY hby;have hrow:=Afe wr.drew oj ((List.range 7).map (pJ x.e)++AbH L) (by simp [AbH]);have hcR:=CY hrow;have s2:=hst.drew.alloc (.cells (bvs ((List.range 7).map (pJ x.e)++AbH L)).toArray 5) (0,0);have s2b:=(aj.refl ai wr oj).drew.alloc (.cells (bvs ((List.range 7).map (pJ x.e)++AbH L)).toArray 5) (0,0);have hL2:=hLk.step s2b id;have AbO:=hby.step s2b id;have Avn:=CY AbO;have hrg2:(wr.drew.alloc (.cells (bvs ((List.range 7).map (pJ x.e)++AbH L)).toArray 5)).rangeAt b (off+k*2) [(x.e:aV), .slice ba x.b.length bc]:=Cf hrg (Below.heap_alloc wr.drew _ b hblt);have cE2:(wr.drew.alloc (.cells (bvs ((List.range 7).map (pJ x.e)++AbH L)).toArray 5)).cell? (aW b (off+k*2))=some (x.e:aV):=hrg2 0 _ rfl;have cB2:(wr.drew.alloc (.cells (bvs ((List.range 7).map (pJ x.e)++AbH L)).toArray 5)).cell? (aW b (off+k*2+1))=some (.slice ba x.b.length bc):=hrg2 1 _ rfl;have AqB:((List.range 7).map (pJ x.e)++AbH L).length=9:=by simp [AbH]
     have hltx:(lineText x).length=9+x.b.length:=by simp [lineText,AbH];omega
     have Ari:=ae (Aea (wr.drew.alloc (.cells (bvs ((List.range 7).map (pJ x.e)++AbH L)).toArray 5)) R1 ((List.range 7).map (pJ x.e)++AbH L) (by rw [AqB];omega));have Arh:=ae (Aea (wr.drew.alloc (.cells (bvs ((List.range 7).map (pJ x.e)++AbH L)).toArray 5)) (R1++((List.range 7).map (pJ x.e)++AbH L)) x.b (by rw [List.length_append,AqB];omega));clear AqB hltx;have hbs:=ae (show (Instr.buildSlice 23 9 #[(0, .int .u8 ((pJ x.e 0).toNat:Int)),(1, .int .u8 ((pJ x.e 1).toNat:Int)),(2, .int .u8 ((pJ x.e 2).toNat:Int)),(3, .int .u8 ((pJ x.e 3).toNat:Int)),(4, .int .u8 ((pJ x.e 4).toNat:Int)),(5, .int .u8 ((pJ x.e 5).toNat:Int)),(6, .int .u8 ((pJ x.e 6).toNat:Int)),(7, .int .u8 ((UInt8.ofNat L).toNat:Int)),(8, .int .u8 ((UInt8.ofNat (L / 256)).toNat:Int))]).run prog wr.drew = .ok (.slice wr.heap.size 9 9) (wr.drew.alloc (.cells (bvs ((List.range 7).map (pJ x.e)++AbH L)).toArray 5)) from ArI wr.drew _ _ _ _ _ _ _ _ _);have Awa:=ae (show R1++((List.range 7).map (pJ x.e)++AbH L)++x.b=R0++(ls.take (k+1)).flatMap lineText by rw [<-hR2.out,List.append_assoc];rw [<-hL];rfl);have hS:wr.drew.cell? (aW b (off+k*2))=some (x.e:aV)/\wr.drew.cell? (aW b (off+k*2+1))=some (.slice ba x.b.length bc)/\(convert 23 9 (.slice ba x.b.length bc)).run prog wr.drew = .ok (str x.b) wr.drew:=⟨cE,cB,CY (hby.step (aj.refl ai wr oj).drew id)⟩;have hS2:=aa3 cE2 cB2 Avn;have hF:=aa2 s2 hL2;have AqQ:=ae (show (convert 23 9 (.slice wr.heap.size 9 9)).run prog _ = .ok (str ((List.range 7).map (pJ x.e)++AbH L)) _ from hcR);obtain ⟨w2,hw2⟩:=az (wr.drew.alloc (.cells (bvs ((List.range 7).map (pJ x.e)++AbH L)).toArray 5));rw [hw2] at Ari Arh hbs hS2 hF AqQ;have BfR:L<=1300000:=aP
     clear hR2 hw2 hrg2 cE2 cB2 Avn hcR hrow s2 s2b hL2 AbO hby hcB hrg Bau hxl;rw [hL] at hS hS2 cB;obtain ⟨T9,hT9⟩:=az ((List.range 7).map (pJ x.e)++AbH L);rw [hT9] at Ari Arh AqQ Awa;clear hT9;have hbE:=ae (bQ x.e);have hxe:(0:Int)<=(x.e.toNat:Int)/\(x.e.toNat:Int)<=18446744073709551615:=by have:=x.e.isLt;omega
     have hLb:=ae (show (L:Int) % 256=((UInt8.ofNat L).toNat:Int)/\(L:Int) / 256 % 256=((UInt8.ofNat (L / 256)).toNat:Int) by
      constructor
      ·rw [UInt8.toNat_ofNat'];push_cast;rfl
      ·rw [UInt8.toNat_ofNat'];push_cast;rfl)
     have hLI:(0:Int)<=(L:Int)/\(L:Int)<=1300000:=aP
     clear cE cB;go_wp2_with fail;refine Aa (fun w'=>w'.cell? (aW b (off+k*2))=some (x.e:aV)/\w'.cell? (aW b (off+k*2+1))=some (.slice ba L bc)/\(convert 23 9 (.slice ba L bc)).run prog w' = .ok (str x.b) w') (fun _=>true) bf hS (fun hHeld => ?_);refine tq 0 (h:=tq 1 (h:=tq 2 (h:=tq 3 (h:=tq 4 (h:=tq 5 (h:=tv 6 (.int .u8 ((pJ x.e 0).toNat:Int)) (hy:=fun w hSw=>by (try dsimp only at hSw);go_simp;exact AdY (by have:=hbE.out 0;simpa using this)) (h:=tq 7 (h:=tq 8 (h:=tq 9 (h:=tq 10 (h:=tq 11 (h:=tq 12 (h:=tv 13 (.int .u8 ((pJ x.e 1).toNat:Int)) (hy:=fun w hSw=>by (try dsimp only at hSw);go_simp;exact AdY (by have:=hbE.out 1;simpa using this)) (h:=?_))))))))))))));refine tq 14 (h:=tq 15 (h:=tq 16 (h:=tq 17 (h:=tq 18 (h:=tq 19 (h:=tv 20 (.int .u8 ((pJ x.e 2).toNat:Int)) (hy:=fun w hSw=>by (try dsimp only at hSw);go_simp;exact AdY (by have:=hbE.out 2;simpa using this)) (h:=tq 21 (h:=tq 22 (h:=tq 23 (h:=tq 24 (h:=tq 25 (h:=tq 26 (h:=tv 27 (.int .u8 ((pJ x.e 3).toNat:Int)) (hy:=fun w hSw=>by (try dsimp only at hSw);go_simp;exact AdY (by have:=hbE.out 3;simpa using this)) (h:=?_))))))))))))));refine tq 28 (h:=tq 29 (h:=tq 30 (h:=tq 31 (h:=tq 32 (h:=tq 33 (h:=tv 34 (.int .u8 ((pJ x.e 4).toNat:Int)) (hy:=fun w hSw=>by (try dsimp only at hSw);go_simp;exact AdY (by have:=hbE.out 4;simpa using this)) (h:=tq 35 (h:=tq 36 (h:=tq 37 (h:=tq 38 (h:=tq 39 (h:=tq 40 (h:=tv 41 (.int .u8 ((pJ x.e 5).toNat:Int)) (hy:=fun w hSw=>by (try dsimp only at hSw);go_simp;exact AdY (by have:=hbE.out 5;simpa using this)) (h:=?_))))))))))))));refine tq 42 (h:=tq 43 (h:=tq 44 (h:=tq 45 (h:=tq 46 (h:=tq 47 (h:=tv 48 (.int .u8 ((pJ x.e 6).toNat:Int)) (hy:=fun w hSw=>by (try dsimp only at hSw);go_simp;exact AdY (by have:=hbE.out 6;simpa using this)) (h:=tq 49 (h:=tq 50 (h:=tq 51 (h:=tq 52 (h:=tq 53 (h:=tq 54 (h:=tv 55 (.int .u8 ((UInt8.ofNat L).toNat:Int)) (hy:=fun w hSw=>by (try dsimp only at hSw);go_simp;exact AdY hLb.out.1) (h:=?_))))))))))))));refine tq 56 (h:=tq 57 (h:=tq 58 (h:=tq 59 (h:=tq 60 (h:=tq 61 (h:=tq 62 (h:=tv 63 (.int .u8 ((UInt8.ofNat (L / 256)).toNat:Int)) (hy:=fun w hSw=>by (try dsimp only at hSw);go_simp;exact AdY hLb.out.2) (h:=tq 67 (h:=tq 68 (h:=tq 69 (h:=tq 70 (h:=tq 71 (h:=?_)))))))))))));refine Dt (i:=72) (v:=str x.b) rfl bf (fun _ _ _ h=>h) (Or.inl ⟨by rfl,fun w hSw => ?_⟩) (by assumption) ?_
     ·refine (Ahr 23 9 (.tmp 112) rfl ?_);exact hSw.2.2
     simp only [Act.put,lsa,lsz,lss];refine tO 64 (h:=?_);apply BO #[(0, .int .u8 ((pJ x.e 0).toNat:Int)),(1, .int .u8 ((pJ x.e 1).toNat:Int)),(2, .int .u8 ((pJ x.e 2).toNat:Int)),(3, .int .u8 ((pJ x.e 3).toNat:Int)),(4, .int .u8 ((pJ x.e 4).toNat:Int)),(5, .int .u8 ((pJ x.e 5).toNat:Int)),(6, .int .u8 ((pJ x.e 6).toNat:Int)),(7, .int .u8 ((UInt8.ofNat L).toNat:Int)),(8, .int .u8 ((UInt8.ofNat (L / 256)).toNat:Int))] rfl
     ·exact hbs.out
     simp only [Act.put,lsa,lsz,lss];go_wp2_with fail;refine ⟨fun _=>hS2.out, ?_⟩;refine tO 65 (h:=?_);apply Kq
     ·exact AqQ.out
     simp only [Act.put,lsa,lsz,lss];go_wp2_with fail;refine ⟨fun _=>hS2.out, ?_⟩;refine tO 66 (h:=?_);apply AgZ
     ·exact Ari.out
     simp only [Act.put,lsa,lsz,lss];go_wp2_with fail;refine ⟨fun _=>hS2.out, ?_⟩;refine tO 73 (h:=?_);apply AgZ
     ·exact Arh.out
     simp only [Act.put,lsa,lsz,lss];go_wp2_with fail;refine ⟨fun _=>hS2.out, ?_⟩;refine tq 74 (h:=tD (h:=?_));go_wp2_with fail;go_roundw
     case rel=>exact ⟨k+1,_,aP,by go_num,(by rw [<-Awa.out,List.append_assoc]),hF.out.2,hF.out.1⟩
     case measure=>simp [intOf];omega
    ·obtain rfl:k=N:=aP
     have hfin:=ae (show R0++(ls.take k).flatMap lineText=AkL p c ls by
      have e1:ls.take k=ls:=List.take_of_length_le (by rw [hNH.out];omega);rw [e1, <-Baw.out, <-hNH.out];rfl)
     obtain ⟨R9,hR9⟩:=az (R0++(ls.take k).flatMap lineText);rw [hR9] at hfin ⊢;clear hR9;go_wp2_with fail;go_ret;exact ⟨_,oj,rfl,hst,by rw [<-hfin.out];rfl⟩
end
theorem AdJ:∀ (ls:List Ar),(∀ x ∈ ls,x.b.length<=4096)->(ls.flatMap lineText).length<=4105*ls.length
 | [],_=>bu
 | x :: r,h=>by
  have h1:=h x bu;have h2:=AdJ r (fun y hy=>h y (List.mem_cons_of_mem _ hy));have h3:(lineText x).length=9+x.b.length:=by simp [lineText,AbH];omega
  rw [List.flatMap_cons,List.length_append,List.length_cons];omega
theorem KOk.text {k:AX} (h:KOk k):(k.lines.flatMap lineText).length<=1300000:=by
 have h1:=AdJ k.lines h.b;have h2:=h.n;omega
theorem AiQ {base:Nat} (h:Lines w o base lv ls) (n:Nat) (hn:n<=ls.length) :
  ∃ v,(∀ W:World,(Instr.sliceAt 32 lv none (some (n:aV)) none).run prog W = .ok v W)/\Lines w o base v (ls.take n):=by
 have hu:prog.underlying 32=some (.slice (prog.elem 32)):=bf
 obtain ⟨v0,h1,h2⟩:=TI h n hn;have hc:∃ a c,lv = .slice a ls.length c/\ls.length<=c:=by
  obtain ⟨cs,h1, -⟩:=h
  rcases h1 with ⟨⟨a,c,rfl⟩,h0, -⟩ | ⟨b,off,cap,rfl,hl, -⟩
  ·exact ⟨a,c,by rw [h0],aP⟩
  ·exact ⟨_,cap,rfl,hl⟩
 obtain ⟨a,c,rfl,hc⟩:=hc;have run:∀ W:World,(Instr.sliceAt 32 (.slice a ls.length c) none (some (n:aV)) none).run prog W = .ok (sliced a 0 n c 2) W:=fun W=>by
  rw [run_sliceAt_slice _ _ _ _ _ _ hu,run_slice_h W 32 a ls.length c hu .i64 n aP aP,Po W];simp only [Result.andThen_ok,Int.toNat_natCast]
 have e:=(run w).symm.trans h1;injection e with e1 e2;exact ⟨_,run,by rw [e1];exact h2⟩
def AjU (lv:Value) (n:Nat) (v:Value) (W:World):Prop:=(Instr.sliceAt 32 lv none (some (n:aV)) none).run prog W = .ok v W
theorem alike_any {pz ps pd K:Nat} (h:GN w o D M pz ps pd K B y) (hB:B<=90000) (hr:AaB w o Y p y) :
  Calls prog 39 #[.pointer ps, .pointer pz, .pointer p] w (XL ai w o fun v _ _=>v = .bool true):=by
 have hkp:=ae (Qc h hB);have hko:=h.nok.kok;have hco:=h.nok.co;obtain ⟨T,hT⟩:∃ T,str (AkL y.k.promised y.k.current y.k.lines) = .string T:=⟨_,rfl⟩;obtain ⟨b,hb⟩:=az (y.OD);obtain ⟨P,hP⟩:∃ P:Int,(y.k.promised.toNat:Int)=P:=⟨_,rfl⟩;obtain ⟨C,hC⟩:∃ C:Int,(y.k.current.toNat:Int)=C:=⟨_,rfl⟩;have htx:∀ (W:World) (O:Own) (bs:Nat) (v:Value),Lines W O bs v y.k.lines->Calls prog 79 #[.int .u64 P, .int .u64 C,v] W (XL ai W O fun r _ _=>r = .string T):=fun W O bs v hl=>by
  have:=AiE (p:=y.k.promised) (c:=y.k.current) hl (by have:=hko.n;omega) hko.text;rw [hT,hP,hC] at this;exact this
 have Atn:=ae htx;have hH:=aa4 h hr hco hb;have hPH:=aa2 hP hC;have Aul:=ae hko.n;clear h hr hco hko htx hT hb hP hC;go_enter func39,ntmps39;go_wp2_with fail;refine hkp.out.mono ?_;rintro e w1 ⟨v1,o1,rfl,hs1,lk,rfl,hlk⟩;obtain ⟨ka,kc,rfl⟩:=hlk.form;obtain ⟨kb,Wz,w2,o2,hal,hst,hs2,hrow⟩:=LK (p:=y.k.promised) (c:=y.k.current) w1 o1 ⟨ka,y.k.lines.length,kc,rfl⟩;obtain ⟨h,hr,hco,hb⟩:=hH.out;have hJ:=hs1.trans hs2;obtain ⟨L,hL⟩:=az (y.k.lines.length);have hr2:=hr.step hJ id id;obtain ⟨lk5,ro5,mi5,hv5,pv5,mv5,ba5,re5,hp,hpo,hk, -⟩:=hr2;obtain ⟨la,lc,rfl⟩:=hk.form;obtain ⟨hv,hrun,hhv⟩:=AiQ hk y.Ag hco;have hlk2:=hlk.step hs2 id;rw [hL] at hp hk hrun hrow hst hlk2;have a0:=hrow.1 0 _ rfl;have a1:=hrow.1 1 _ rfl;have a2:=hrow.1 2 _ rfl;have c2:=ag hp 2;have c3:=ag hp 3;have c4:=ag hp 4;have c9:=ag hp 9;simp only [Aai,ax,ay,Nat.add_zero] at a0 a1 a2 c2 c3 c4 c9;rw [hPH.out.1] at a0 c2;rw [hPH.out.2] at a1 c3;have hSf:=ae (fun (V1:World) (p1:Own) (s:aj ai w2 o2 V1 p1)=>(show V1.cell? kb=some (.int .u64 P)/\V1.cell? (aW kb 1)=some (.int .u64 C)/\V1.cell? (aW kb 2)=some (.slice ka L kc)/\V1.cell? (aW p 2)=some (.int .u64 P)/\V1.cell? (aW p 3)=some (.int .u64 C)/\V1.cell? (aW p 4)=some (.slice la L lc)/\V1.cell? (aW p 9)=some (y.Ag:aV)/\AjU (.slice la L lc) y.Ag hv V1 from by
  have hb:=s.block p (au hp) id;have hr:=(hrow.step s id).1;have e0:=hr 0 _ rfl;have e1:=hr 1 _ rfl;have e2:=hr 2 _ rfl;rw [Nat.add_zero] at e0;refine ⟨by rw [<-hPH.out.1];exact e0,by rw [<-hPH.out.2];exact e1,e2, ?_, ?_, ?_, ?_,hrun V1⟩
  ·rw [<-hPH.out.1];exact ag (hb.trans hp) 2
  ·rw [<-hPH.out.2];exact ag (hb.trans hp) 3
  ·exact ag (hb.trans hp) 4
  ·exact ag (hb.trans hp) 9))
 have hS:=hSf.out w2.drew o2 (aj.refl ai w2 o2).drew;have Aga:=ae hlk2;have hkH:=ae hk;have AzC:=ae hhv;have hG:=ae (h.step0 hJ);have hR:=ae (hr.step hJ id id);have hJH:=ae hJ;have Adh:=ae hal;have Abe:=ae (show (Instr.storeAt 55 (.pointer kb) (.agg #[(y.k.promised:aV), (y.k.current:aV), .slice ka L kc])).run prog Wz = .ok () w2 from hst);have xZ:=ae hb;clear h hr hco hb hs1 hs2 hJ hk hp hpo hrun hhv hlk hlk2 hrow hal hst a0 a1 a2 c2 c3 c4 c9;unfold Dy;rw [hL]
 go_wp2_with (first
  | ((with_reducible apply AU);exact Adh.out;simp only [Act.put,lsa,lsz,lss])
  | ((with_reducible apply AC);exact Abe.out;simp only [Act.put]))
 refine Aa (fun w'=>w'.cell? kb=some (.int .u64 P)/\w'.cell? (aW kb 1)=some (.int .u64 C)/\w'.cell? (aW kb 2)=some (.slice ka L kc)/\w'.cell? (aW p 2)=some (.int .u64 P)/\w'.cell? (aW p 3)=some (.int .u64 C)/\w'.cell? (aW p 4)=some (.slice la L lc)/\w'.cell? (aW p 9)=some (y.Ag:aV)/\AjU (.slice la L lc) y.Ag hv w') (fun _=>true) bf hS (fun hHeld => ?_);have hJ:aj ai w2 o2 w2.drew o2:=(aj.refl ai w2 o2).drew;refine tq 0 (h:=tq 1 (h:=tq 2 (h:=tq 3 (h:=tq 4 (h:=tq 5 (h:=tq 7 (h:=tq 8 (h:=tq 9 (h:=tq 10 (h:=tq 11 (h:=tq 12 (h:=tq 13 (h:=tq 14 (h:=?_))))))))))))));refine tq 15 (h:=tq 16 (h:=tq 17 (h:=tq 18 (h:=tq 19 (h:=tq 20 (h:=tq 21 (h:=tO 6 (h:=?_))))))));go_wp2_with fail;refine (Atn.out _ _ _ _ (Aga.out.step hJ id)).mono ?_;rintro e U1 ⟨v,q1,rfl,hs,rfl⟩;have hJ:=hJ.trans hs;clear hs;go_wp2_with fail;have hHeld:=hSf.out _ _ hJ;refine ⟨fun _=>hHeld, ?_⟩;refine tO 22 (h:=?_);go_wp2_with fail;refine (Atn.out _ _ _ _ (hkH.out.step hJ id)).mono ?_;rintro e U2 ⟨v,q2,rfl,hs,rfl⟩;have hJ:=hJ.trans hs;clear hs;go_wp2_with fail;have hHeld:=hSf.out _ _ hJ;refine ⟨fun _=>hHeld, ?_⟩;refine tq 23 (h:=tq 24 (h:=tq 25 (h:=tq 27 (h:=tq 28 (h:=tq 29 (h:=tq 30 (h:=tq 31 (h:=tO 26 (h:=?_)))))))));go_wp2_with fail;refine (VO (hG.out.step0 hJ) hB (hPH.out.1)).mono ?_;rintro e U3 ⟨v,q3,rfl,hs,rfl⟩;have hJ:=hJ.trans hs;clear hs;go_wp2_with fail;have hHeld:=hSf.out _ _ hJ;refine ⟨fun _=>hHeld, ?_⟩;refine tq 32 (h:=tq 33 (h:=tq 34 (h:=tq 35 (h:=tq 37 (h:=tO 36 (h:=?_))))));go_wp2_with fail;refine (IR (hG.out.step0 hJ) xZ.out).mono ?_;rintro e w' ⟨rfl,rfl⟩;go_wp2_with fail;have hHeld:=hSf.out _ _ hJ;refine ⟨fun _=>hHeld, ?_⟩;refine tO 38 (h:=?_);go_wp2_with fail;refine ((by have:=AfH (hR.out.step hJ id id);rw [xZ.out] at this;exact this:Calls prog 69 #[.pointer p] _ fun ex w'=>ex = .returned (.bool b)/\_=w')).mono ?_;rintro e w' ⟨rfl,rfl⟩;go_wp2_with fail;have hHeld:=hSf.out _ _ hJ;refine ⟨fun _=>hHeld, ?_⟩;refine tq 39 (h:=tq 40 (h:=tq 41 (h:=tq 42 (h:=tq 44 (h:=tq 45 (h:=tq 46 (h:=tq 47 (h:=tq 48 (h:=tq 49 (h:=tq 50 (h:=tq 51 (h:=tq 52 (h:=?_)))))))))))));refine Dt (i:=53) (v:=hv) rfl bf (fun _ _ _ h=>h) (Or.inl ⟨by rfl,fun w hSw => ?_⟩) (by assumption) ?_
 ·refine AdB _ _ _ _ _ rfl ?_;exact hSw.2.2.2.2.2.2.2
 simp only [Act.put,lsa,lsz,lss];refine tO 43 (h:=?_);go_wp2_with fail;refine (ED (hG.out.step0 hJ) hB rfl).mono ?_;rintro e U4 ⟨v,q4,rfl,hs,hcm⟩;have hJ:=hJ.trans hs;clear hs;go_wp2_with fail;have hHeld:=hSf.out _ _ hJ;refine ⟨fun _=>hHeld, ?_⟩;refine tO 54 (h:=?_);go_wp2_with fail;refine (Oh hcm (AzC.out.step hJ id) (by rw [List.length_take];have:=Aul.out;omega)).mono ?_;rintro e U5 ⟨v,q5,rfl,hs,rfl⟩;have hJ:=hJ.trans hs;clear hs;go_wp2_with fail;have hHeld:=hSf.out _ _ hJ;refine ⟨fun _=>hHeld, ?_⟩;refine tq 55 (h:=tq 56 (h:=tq 57 (h:=tO 58 (h:=?_))));go_wp2_with fail;refine (AmI (hG.out.step0 hJ)).mono ?_;rintro e w' ⟨rfl,rfl⟩;go_wp2_with fail;have hHeld:=hSf.out _ _ hJ;refine ⟨fun _=>hHeld, ?_⟩;refine tq 59 (h:=tq 60 (h:=tq 61 (h:=tD (h:=?_))));clear hHeld hS;go_wp2_with fail;go_ret;exact ⟨_,_,rfl,hJH.out.trans hJ,rfl⟩
theorem iL.form {g:Option BG} {r:Value} {w':World} {o':Own} (h:iL 0 g r w' o'):∃ (m:BG) (lv:Value) (err:Int),r = .tuple #[Ea m lv, .int .i64 err]/\(∃ a n c,lv = .slice a n c)/\(∀ x,g=some x->x=m/\err=0/\Lines w' o' 0 lv m.ls)/\(g=none->err=2):=by
 cases g with
 | none=>exact ⟨⟨0,0,0,0,0,[]⟩, .slice none 0 0,2,h.2 rfl,⟨_,_,_,rfl⟩,fun x e=>(by cases e),fun _=>rfl⟩
 | some m =>
  obtain ⟨lv,h1,h2⟩:=h.1 m rfl;exact ⟨m,lv,0,h1,h2.Acw,fun x e=>(by cases e;exact ⟨rfl,rfl,h2⟩),fun e=>(by cases e)⟩
def AjT (w0:World) (o0:Own) (Y X p mb:Nat) (y:Aj) (m:BG) (lv vno:Value) (src:Nat) (W:World) (O:Own):Prop:=
 aj (ak Y) w0 o0 W O/\AaB W O Y p y/\(W.heap[mb]?=some (.cells (Bf m lv).toArray 46 (0,0))/\(O mb).1=X)/\Lines W O 0 lv m.ls/\AaA W O vno (y.refuse src)
theorem AjT.step0 {w0 W W':World} {o0 O O':Own} {X mb src:Nat} {vno:Value} (h:AjT w0 o0 Y X p mb y m lv vno src W O) (s:aj ai W O W' O'):AjT w0 o0 Y X p mb y m lv vno src W' O':=
 ⟨h.1.trans (s.only Y),h.2.1.step s id id,⟨(s.block mb (au h.2.2.1.1) id).trans h.2.2.1.1,(congrArg Prod.fst (s.own mb (au h.2.2.1.1))).trans h.2.2.1.2⟩,h.2.2.2.1.step s id,h.2.2.2.2.step s id⟩
theorem AaB.Aps (h:AaB w o Y p y):∃ (ro:Int) (mi:BitVec 64),w.cell? (aW p 5)=some (.int .i64 ro)/\w.cell? (aW p 6)=some (mi:aV)/\match y.BB with
  | .follows=>ro=0
  | .stands m _=>ro=1/\mi=m
  | .leads m _ _ _=>ro=2/\mi=m:=by
 obtain ⟨lv,ro,mine,hv,pv,mv,base,ready,hp, -, -,h4⟩:=h;refine ⟨ro,mine,ag hp 5,ag hp 6, ?_⟩
 cases e:y.BB with
 | follows=>rw [e] at h4;exact h4
 | stands m has=>rw [e] at h4;exact ⟨h4.1,h4.2.1⟩
 | leads m nR b r=>rw [e] at h4;exact ⟨h4.1,h4.2.1⟩
theorem AfE {α:Type} {cs K:List α} {a j:Nat} (hK:K.length=3) (ha:a+3<=cs.length) (hj:j<a \/ a+3<=j):(cs.take a++K++cs.drop (a+3))[j]?=cs[j]?:=by
 have hl:(cs.take a).length=a:=by rw [List.length_take];omega
 rcases hj with hj | hj
 ·rw [List.append_assoc,List.getElem?_append_left aP,List.getElem?_take_of_lt hj]
 ·rw [List.getElem?_append_right (by rw [List.length_append];omega),List.length_append,hl,hK,List.getElem?_drop,Nat.add_sub_cancel' hj]
theorem Agm.set {has:List (Option (BitVec 64 × List Ar))} (h:Agm w o cs has) {src:Nat} (hs:src<has.length) {p c:BitVec 64} (hl:Lines w o 0 lv ls):Agm w o (cs.take (src*3)++BR p c lv++cs.drop (src*3+3)) (has.set src (some (c,ls))):=by
 have h1:=h.1;refine ⟨by simp [BR];omega,fun i c2 ls2 hi => ?_⟩
 by_cases e:src=i
 ·subst e;rw [List.getElem?_set_self hs] at hi
  cases hi
  have hkl:(cs.take (src*3)).length=src*3:=by rw [List.length_take];omega
  refine ⟨?_,lv, ?_,hl⟩
  all_goals rw [List.append_assoc,List.getElem?_append_right aP,hkl,Nat.add_sub_cancel_left,List.getElem?_append_left (by simp [BR])];rfl
 ·rw [List.getElem?_set_ne e] at hi;have hlt:i<has.length:=(List.getElem?_eq_some_iff.1 hi).1;obtain ⟨a,l2,b,d⟩:=h.2 i c2 ls2 hi;exact ⟨by rw [AfE rfl aP aP];exact a,l2,by rw [AfE rfl aP aP];exact b,d⟩
theorem NOk.took {mine:BitVec 64} {has:List (Option (BitVec 64 × List Ar))} (h:NOk B y) (hr:y.BB = .stands mine has) (hm:m.May) (src:Nat):NOk (B+AP m.ls) ({ y with BB := .stands mine (has.set src (some (m.c,m.ls))) }:Aj):=by
 have hw:=h.mono (Nat.le_add_right B (AP m.ls));have hro:=hw.ro;rw [hr] at hro;obtain ⟨q1,q2,⟨p,hp⟩,q4⟩:=hro;refine ⟨⟨hw.n1,hw.n3,hw.id,hw.ls,hw.cp,hw.pt,hw.se,hw.co⟩,q1,by rw [List.length_set];exact q2, ?_,fun p hp => ?_⟩
 ·by_cases hi:src=y.id
  ·subst hi;exact ⟨_,List.getElem?_set_self (by rw [q2];exact h.id)⟩
  ·exact ⟨p,by rw [List.getElem?_set_ne hi];exact hp⟩
 ·rcases List.mem_or_eq_of_mem_set hp with hx | hx
  ·exact q4 p hx
  ·simp only [Option.some.injEq] at hx;subst hx;exact ⟨hm.n1,hm.hl,Nat.le_add_left _ _⟩
theorem AgJ (h:AaB w o Y p y) (hY:Y ≠ 0) (hn:NOk B y) (f:Int) {bv:Value} {l:List UInt8} (hb:Bytes w o bv l) (hl:l.length<=1000000) :
  Calls prog 34 #[.pointer p, .int .i64 f,bv] w (XL (ak Y) w o fun v w' o'=>AaA w' o' v (y.Gj f l).2/\AaB w' o' Y p (y.Gj f l).1):=by
 have hget:=ae (AkR hb hl);have h1:=hn.n1;have h3:=hn.n3;have hi:=hn.id;have hnH:=ae hn;obtain ⟨I,N,yk,BB,wt,sn,Co⟩:=y;simp only at h1 h3 hi;obtain ⟨R,hR⟩:=az (Aj.Gj ⟨I,N,yk,BB,wt,sn,Co⟩ f l);rw [hR];unfold Aj.Gj at hR;simp only at hR;obtain ⟨ba,bc,rfl⟩:=Aq hb;have tN:=ae h;have hRH:=ae hR;have iI:(0:Int)<=(I:Int)/\(I:Int)<(N:Int):=aP
 have nI:(1:Int)<=(N:Int)/\(N:Int)<=3:=aP
 clear h hn hb hl hR h1 h3 hi;go_enter func34,ntmps34;go_wp2_with fail;refine hget.out.mono ?_;rintro e w1 ⟨v1,o1,rfl,hs1,AeZ⟩;obtain ⟨m,lv,err,rfl,⟨la,ln,lc,rfl⟩,hsome,hnone⟩:=AeZ.form;obtain ⟨X,hXY,hXf⟩:=KT o1 w1.heap.size Y;obtain ⟨mb,W1,O1,hal,hs2,hz,hzo,hge⟩:=AgV X w1 o1;obtain ⟨W2,hso,hsF,hJ,hz2⟩:=AiG hs2 hge hz rfl hzo (Bf m (.slice la ln lc)) rfl rfl;have st2:=hs1.trans hJ;have hr2:=tN.out.step st2 id id;obtain ⟨lk,ro,mine,hv,pv,mv,base,ready,hp,hpo,hk,h4⟩:=hr2;simp only at hp hk h4;have c0:=ag hp 0;have c1:=ag hp 1;simp only [Aai,ax,ay] at c0 c1;have Adh:=ae hal;have Aaz:=ae (show (Instr.storeAt 46 (.pointer mb) (.agg #[.int .u8 (m.k:Int), (m.e:aV), (m.c:aV), (m.at':aV), (m.com:aV), .slice la ln lc])).run prog W1 = .ok () W2 from hso);have hG:=aa6 st2 hz2 hzo hXY (fun x e=>aI (hsome x e).1 (aI (hsome x e).2.1 ((hsome x e).2.2.step hJ id))) hnone;have hF:=aa2 st2 (tN.out.step st2 id id);have hP:=aa4 hp hpo hk h4;clear hs1 AeZ hsome hnone hXf hal hs2 hz hge hso hsF hJ hz2 st2 hp hpo hk h4 hget hzo hXY;unfold Ea
 by_cases g1:f<0
 ·have hR:=hRH.out;rw [if_pos (.inl g1)] at hR;have hR:=ae hR
  go_wp2_with (first
   | ((with_reducible apply AU);exact Adh.out;simp only [Act.put,lsa,lsz,lss])
   | ((with_reducible apply AC);exact Aaz.out;simp only [Act.put]))
  go_ret;exact ⟨_,O1,rfl,hF.out.1.only Y,by rw [<-hR.out];exact AaA.nil _ _,by rw [<-hR.out];exact hF.out.2⟩
 by_cases g2:(N:Int)<=f
 ·have hR:=hRH.out;rw [if_pos (.inr (.inl g2))] at hR;have hR:=ae hR
  go_wp2_with (first
   | ((with_reducible apply AU);exact Adh.out;simp only [Act.put,lsa,lsz,lss])
   | ((with_reducible apply AC);exact Aaz.out;simp only [Act.put]))
  go_ret;exact ⟨_,O1,rfl,hF.out.1.only Y,by rw [<-hR.out];exact AaA.nil _ _,by rw [<-hR.out];exact hF.out.2⟩
 by_cases g3:f=(I:Int)
 ·have g3I:(f == (I:Int))=true:=by simp [g3]
  have hR:=hRH.out;rw [if_pos (.inr (.inr g3))] at hR;clear g3;have hR:=ae hR
  go_wp2_with (first
   | ((with_reducible apply AU);exact Adh.out;simp only [Act.put,lsa,lsz,lss])
   | ((with_reducible apply AC);exact Aaz.out;simp only [Act.put]))
  go_ret;exact ⟨_,O1,rfl,hF.out.1.only Y,by rw [<-hR.out];exact AaA.nil _ _,by rw [<-hR.out];exact hF.out.2⟩
 have g3I:(f == (I:Int))=false:=by simp [g3]
 have hfr:¬ (f<0 \/ (N:Int)<=f \/ f=(I:Int)):=fun h=>by rcases h with h | h | h;exact g1 h;exact g2 h;exact g3 h
 cases hgm:Jn l with
 | none =>
  have hz:=hG.out.2.2.2.2.2 hgm;subst hz;have hR:=hRH.out;rw [if_neg hfr,hgm] at hR;simp only at hR;clear hfr hgm g3;have hR:=ae hR
  go_wp2_with (first
   | ((with_reducible apply AU);exact Adh.out;simp only [Act.put,lsa,lsz,lss])
   | ((with_reducible apply AC);exact Aaz.out;simp only [Act.put]))
  go_ret;exact ⟨_,O1,rfl,hF.out.1.only Y,by rw [<-hR.out];exact AaA.nil _ _,by rw [<-hR.out];exact hF.out.2⟩
 | some mm =>
  obtain ⟨rfl,rfl,hlm⟩:=hG.out.2.2.2.2.1 mm hgm;have hmay:=VH hgm;obtain ⟨src,rfl⟩:∃ s:Nat,f=(s:Int):=⟨f.toNat,aP⟩;have hR:=hRH.out;rw [if_neg hfr,hgm] at hR;simp only [Int.toNat_natCast] at hR;rw [Aj.MZ] at hR;simp only at hR;obtain ⟨E,hE⟩:=az (Fj sn mm.e);have hmx:max (sn.toNat:Int) (mm.e.toNat:Int)=(E.toNat:Int):=by
   rw [<-hE];unfold Fj;split <;> omega
  have Arv:E.toNat<=281474976710656:=by rw [<-hE];exact Aj.dM hnH.out.se hmay.e2
  rw [hE] at hR;have sI:(0:Int)<=(src:Int)/\(src:Int)<(N:Int):=aP
  obtain ⟨st2,hz2,hzo,hXY, -⟩:=hG.out;obtain ⟨hp,hpo,hk,h4⟩:=hP.out;have hpd:W2.drew.heap[p]?=_:=hp;have hzd:W2.drew.heap[mb]?=_:=hz2;have hmp:mb ≠ p:=by rintro rfl;rw [hp] at hz2;simp at hz2
  have x8:=ag hpd 8;have z1:=ag hzd 1;simp only [Aai,Bf,ax,ay] at x8 z1;have f8:=Ap hpd 8;have j1:aj (ak Y) W2 O1 W2.drew O1:=(aj.refl (ak Y) W2 O1).drew;have k3:=j1.setCell (a:=(aW p 8)) (E:aV) (.inl (congrArg Prod.fst hpo));have r3:=h4.keep (W:=W2.drew.setCell (aW p 8) (E:aV)) hp (fun x hx=>Below.heap_setCell W2.drew (aW p 8) (E:aV) x hx) k3 hY;have hp3:=Ai (i:=8) (E:aV) hpd;have hz3:=(Below.heap_setCell W2.drew (aW p 8) (E:aV) mb hmp).trans hzd;obtain ⟨W3,hW3⟩:=az (W2.drew.setCell (aW p 8) (E:aV));rw [hW3] at k3 r3 hp3 hz3;have hr3:AaB W3 O1 Y p ⟨I,N,yk,BB,wt,E,Co⟩:=⟨_,ro,mine,hv,pv,mv,base,ready,hp3,hpo,hk.step k3 (fun h=>hY h.symm),r3⟩;have hl3:=hlm.step k3 (fun h=>hY h.symm);have c2:=ag hp3 2;have z0:=ag hz3 0;simp only [Aai,Bf,lss,lsz,ax,ay] at c2 z0;have hbs:=Adk W3 (src:Int) 3 (yk.promised.toNat:Int) 0 0 0 (.slice none 0 0);have hsa:=(aj.refl ai W3 O1).alloc (.cells (AaD (src,⟨3,yk.promised,0,0,0,[]⟩) (.slice none 0 0)).toArray 126) (0,0);have hnb:=heap_alloc_new W3 (.cells (AaD (src,⟨3,yk.promised,0,0,0,[]⟩) (.slice none 0 0)).toArray 126);have hno:AaA (W3.alloc (.cells (AaD (src,⟨3,yk.promised,0,0,0,[]⟩) (.slice none 0 0)).toArray 126)) (Ak O1 W3.heap.size (0,0)) (.slice W3.heap.size 1 1) (Aj.refuse ⟨I,N,yk,BB,wt,E,Co⟩ src):=
   ⟨_, .inr ⟨W3.heap.size,0,1,rfl,Nat.le_refl _,by simp [maxLen],by rw [Au],bu,AV hnb⟩,AaT.single (Lines.nil _ _ 0)⟩
  have hpX:(Ak O1 W3.heap.size (0,0) mb).1=X:=by rw [BI _ _ (by have:=au hz3;omega)];exact hzo
  have hH0:AjT w o Y X p mb ⟨I,N,yk,BB,wt,E,Co⟩ mm (.slice la ln lc) (.slice W3.heap.size 1 1) src (W3.alloc (.cells (AaD (src,⟨3,yk.promised,0,0,0,[]⟩) (.slice none 0 0)).toArray 126)) (Ak O1 W3.heap.size (0,0)):=
   ⟨((st2.only Y).trans k3).trans (hsa.only Y),hr3.step hsa id id,⟨(hsa.block mb (au hz3) id).trans hz3,hpX⟩,hl3.step hsa id,hno⟩
  obtain ⟨W4,hW4⟩:=az (W3.alloc (.cells (AaD (src,⟨3,yk.promised,0,0,0,[]⟩) (.slice none 0 0)).toArray 126));have Amw:W3.alloc (.cells [(src:aV), .int .u8 3, (yk.promised:aV), .int .u64 0, .int .i64 0, .int .i64 0, .slice none 0 0].toArray 126)=W4:=hW4;obtain ⟨vno,ApN⟩:=az (Value.slice W3.heap.size 1 1);obtain ⟨O4,hO4⟩:=az (Ak O1 W3.heap.size (0,0));rw [hW4,hO4,ApN] at hH0;rw [Amw,ApN] at hbs;have y0:=ag hH0.2.2.1.1 0;simp only [Bf,ay] at y0;have hS:=aI x8 z1;have hH:=ae hH0;have AaP:=ae hbs;have Bai:=ae (show (W2.setCell (aW p 8) (E:aV)).drew=W3 from hW3);have hK:=aa3 hmay Arv hXY;have hRK:=ae hR;have Azm:=ae hmx;have hN1:=ae (show NOk B ⟨I,N,yk,BB,wt,E,Co⟩ from ⟨⟨hnH.out.n1,hnH.out.n3,hnH.out.id,hnH.out.ls,hnH.out.cp,hnH.out.pt,Arv,hnH.out.co⟩,hnH.out.ro⟩);clear hlm hmay hR hE hmx Arv st2 hz2 hzo hXY hp hpo hk h4 hpd hzd hmp x8 z1 j1 k3 r3 hp3 hz3 hW3 hr3 hl3 hbs hsa hnb hno hpX hH0 hW4 Amw ApN hO4 hfr hgm hG hF hP hRH tN g3
  go_wp2_with (first
   | ((with_reducible apply AU);exact Adh.out;simp only [Act.put,lsa,lsz,lss])
   | ((with_reducible apply AC);exact Aaz.out;simp only [Act.put]))
  refine Aa (fun w'=>w'.cell? (aW p 8)=some (sn:aV)/\w'.cell? (aW mb 1)=some (mm.e:aV)) (fun i=>decide (i<10)) bf hS (fun hHeld => ?_);refine tq 0 (h:=tq 1 (h:=tq 2 (h:=tq 3 (h:=tq 4 (h:=tq 5 (h:=tq 6 (h:=tv 7 (E:aV) (hy:=fun w hSw=>by (try dsimp only at hSw);go_simp;exact Azm.out) (h:=tO 8 (h:=?_)))))))));go_wp2_with fail;refine ⟨fun _=>hHeld, ?_⟩;refine tq 9 (h:=tO 10 (h:=?_));go_wp2_with fail;refine ⟨fun h=>by simp at h, ?_⟩;refine tD (h:=?_);clear hHeld hS;rw [Bai.out];obtain ⟨ro,mi,c5,c6,hro⟩:=(hH.out.step0 (aj.refl ai W4 O4).drew).2.1.Aps;have z1:W4.drew.cell? (aW mb 1)=some (mm.e:aV):=ag (hH.out.step0 (aj.refl ai W4 O4).drew).2.2.1.1 1;simp only at hro
  by_cases k3:mm.k=3
  ·have e1:((mm.k:Int) == 1)=false:=by simp;omega
   have e2:((mm.k:Int) == 2)=false:=by simp;omega
   have e3:((mm.k:Int) == 3)=true:=by simp;omega
   have hR:=hRK.out;unfold Aj.Ec at hR;rw [if_neg aP,if_neg aP,if_pos k3] at hR;unfold Aj.Cj at hR
   cases BB with
   | follows =>
    obtain rfl:ro=0:=hro;rw [if_neg (by simp [Aj.follows])] at hR;have hS:=aI c5 (aI c6 z1);have hF:=aa3 (hH.out.1.trans ((aj.refl ai W4 O4).drew.only Y)) (hH.out.2.1.step (aj.refl ai W4 O4).drew id id) hR;clear c5 c6 z1 hR k3
    go_wp2_with ((with_reducible apply BO #[(0, .agg #[(src:aV), .int .u8 3, (yk.promised:aV), .int .u64 0, .int .i64 0, .int .i64 0, .slice none 0 0])] rfl);exact AaP.out;simp only [Act.put,lsa,lsz,lss])
    refine Aa (fun w'=>w'.cell? (aW p 5)=some (.int .i64 0)/\w'.cell? (aW p 6)=some (mi:aV)/\w'.cell? (aW mb 1)=some (mm.e:aV)) (fun _=>true) bf hS (fun hHeld => ?_);refine tq 0 (h:=tq 1 (h:=tq 2 (h:=tq 3 (h:=tq 4 (h:=tq 5 (h:=ts 6 (h:=ts 7 (h:=ts 8 (h:=ts 9 (h:=ts 10 (h:=ts 11 (h:=ts 12 (h:=tq 13 (h:=?_))))))))))))));refine tD (h:=?_);clear hHeld;go_wp2_with fail;go_ret;exact ⟨_,O4,rfl,hF.out.1,by rw [<-hF.out.2.2];exact AaA.nil _ _,by rw [<-hF.out.2.2];exact hF.out.2.1⟩
   | stands ms hs =>
    obtain ⟨rfl,rfl⟩:=hro;have hS:=aI c5 (aI c6 z1)
    by_cases g4:mi.toNat<mm.e.toNat
    ·have g4I:(mi.toNat:Int)<(mm.e.toNat:Int):=aP
     rw [if_pos (by simp [Aj.follows,Aj.mine];exact decide_eq_true g4)] at hR;have hfo:=ae (Abi (hH.out.2.1.step (aj.refl ai W4 O4).drew id id) hY);have hRl:=ae hR;clear c5 c6 z1 hR k3 g4
     go_wp2_with ((with_reducible apply BO #[(0, .agg #[(src:aV), .int .u8 3, (yk.promised:aV), .int .u64 0, .int .i64 0, .int .i64 0, .slice none 0 0])] rfl);exact AaP.out;simp only [Act.put,lsa,lsz,lss])
     refine Aa (fun w'=>w'.cell? (aW p 5)=some (.int .i64 1)/\w'.cell? (aW p 6)=some (mi:aV)/\w'.cell? (aW mb 1)=some (mm.e:aV)) (fun _=>true) bf hS (fun hHeld => ?_);refine tq 0 (h:=tq 1 (h:=tq 2 (h:=tq 3 (h:=tq 4 (h:=tq 5 (h:=tq 6 (h:=tq 7 (h:=tq 8 (h:=tq 9 (h:=tq 10 (h:=tq 11 (h:=tq 12 (h:=tq 13 (h:=?_))))))))))))));refine tD (h:=?_);clear hHeld;go_wp2_with fail;refine hfo.out.mono ?_;rintro e w5 ⟨v5,o5,rfl,hs5,rfl,hr5⟩;have hF:=aa3 (((hH.out.1.trans ((aj.refl ai W4 O4).drew.only Y))).trans hs5) hr5 hRl.out;clear hs5 hr5 hfo;go_wp2_with fail;go_ret;exact ⟨_,o5,rfl,hF.out.1,by rw [<-hF.out.2.2];exact AaA.nil _ _,by rw [<-hF.out.2.2];exact hF.out.2.1⟩
    ·have g4I:¬ (mi.toNat:Int)<(mm.e.toNat:Int):=aP
     rw [if_neg (by simp [Aj.follows,Aj.mine];exact decide_eq_false g4)] at hR;have hF:=aa3 (hH.out.1.trans ((aj.refl ai W4 O4).drew.only Y)) (hH.out.2.1.step (aj.refl ai W4 O4).drew id id) hR;clear c5 c6 z1 hR k3 g4
     go_wp2_with ((with_reducible apply BO #[(0, .agg #[(src:aV), .int .u8 3, (yk.promised:aV), .int .u64 0, .int .i64 0, .int .i64 0, .slice none 0 0])] rfl);exact AaP.out;simp only [Act.put,lsa,lsz,lss])
     refine Aa (fun w'=>w'.cell? (aW p 5)=some (.int .i64 1)/\w'.cell? (aW p 6)=some (mi:aV)/\w'.cell? (aW mb 1)=some (mm.e:aV)) (fun _=>true) bf hS (fun hHeld => ?_);refine tq 0 (h:=tq 1 (h:=tq 2 (h:=tq 3 (h:=tq 4 (h:=tq 5 (h:=tq 6 (h:=tq 7 (h:=tq 8 (h:=tq 9 (h:=tq 10 (h:=tq 11 (h:=tq 12 (h:=tq 13 (h:=?_))))))))))))));refine tD (h:=?_);clear hHeld;go_wp2_with fail;go_ret;exact ⟨_,O4,rfl,hF.out.1,by rw [<-hF.out.2.2];exact AaA.nil _ _,by rw [<-hF.out.2.2];exact hF.out.2.1⟩
   | leads ms nR bs rd =>
    obtain ⟨rfl,rfl⟩:=hro;have hS:=aI c5 (aI c6 z1)
    by_cases g4:mi.toNat<mm.e.toNat
    ·have g4I:(mi.toNat:Int)<(mm.e.toNat:Int):=aP
     rw [if_pos (by simp [Aj.follows,Aj.mine];exact decide_eq_true g4)] at hR;have hfo:=ae (Abi (hH.out.2.1.step (aj.refl ai W4 O4).drew id id) hY);have hRl:=ae hR;clear c5 c6 z1 hR k3 g4
     go_wp2_with ((with_reducible apply BO #[(0, .agg #[(src:aV), .int .u8 3, (yk.promised:aV), .int .u64 0, .int .i64 0, .int .i64 0, .slice none 0 0])] rfl);exact AaP.out;simp only [Act.put,lsa,lsz,lss])
     refine Aa (fun w'=>w'.cell? (aW p 5)=some (.int .i64 2)/\w'.cell? (aW p 6)=some (mi:aV)/\w'.cell? (aW mb 1)=some (mm.e:aV)) (fun _=>true) bf hS (fun hHeld => ?_);refine tq 0 (h:=tq 1 (h:=tq 2 (h:=tq 3 (h:=tq 4 (h:=tq 5 (h:=tq 6 (h:=tq 7 (h:=tq 8 (h:=tq 9 (h:=tq 10 (h:=tq 11 (h:=tq 12 (h:=tq 13 (h:=?_))))))))))))));refine tD (h:=?_);clear hHeld;go_wp2_with fail;refine hfo.out.mono ?_;rintro e w5 ⟨v5,o5,rfl,hs5,rfl,hr5⟩;have hF:=aa3 (((hH.out.1.trans ((aj.refl ai W4 O4).drew.only Y))).trans hs5) hr5 hRl.out;clear hs5 hr5 hfo;go_wp2_with fail;go_ret;exact ⟨_,o5,rfl,hF.out.1,by rw [<-hF.out.2.2];exact AaA.nil _ _,by rw [<-hF.out.2.2];exact hF.out.2.1⟩
    ·have g4I:¬ (mi.toNat:Int)<(mm.e.toNat:Int):=aP
     rw [if_neg (by simp [Aj.follows,Aj.mine];exact decide_eq_false g4)] at hR;have hF:=aa3 (hH.out.1.trans ((aj.refl ai W4 O4).drew.only Y)) (hH.out.2.1.step (aj.refl ai W4 O4).drew id id) hR;clear c5 c6 z1 hR k3 g4
     go_wp2_with ((with_reducible apply BO #[(0, .agg #[(src:aV), .int .u8 3, (yk.promised:aV), .int .u64 0, .int .i64 0, .int .i64 0, .slice none 0 0])] rfl);exact AaP.out;simp only [Act.put,lsa,lsz,lss])
     refine Aa (fun w'=>w'.cell? (aW p 5)=some (.int .i64 2)/\w'.cell? (aW p 6)=some (mi:aV)/\w'.cell? (aW mb 1)=some (mm.e:aV)) (fun _=>true) bf hS (fun hHeld => ?_);refine tq 0 (h:=tq 1 (h:=tq 2 (h:=tq 3 (h:=tq 4 (h:=tq 5 (h:=tq 6 (h:=tq 7 (h:=tq 8 (h:=tq 9 (h:=tq 10 (h:=tq 11 (h:=tq 12 (h:=tq 13 (h:=?_))))))))))))));refine tD (h:=?_);clear hHeld;go_wp2_with fail;go_ret;exact ⟨_,O4,rfl,hF.out.1,by rw [<-hF.out.2.2];exact AaA.nil _ _,by rw [<-hF.out.2.2];exact hF.out.2.1⟩
  by_cases k6:mm.k=6
  ·have e1:((mm.k:Int) == 1)=false:=by simp;omega
   have e2:((mm.k:Int) == 2)=false:=by simp;omega
   have e3:((mm.k:Int) == 3)=false:=by simp;omega
   have e6:((mm.k:Int) == 6)=true:=by simp;omega
   have hR:=hRK.out;unfold Aj.Ec at hR;rw [if_neg aP,if_neg aP,if_neg aP,if_neg aP,if_neg aP] at hR;unfold Aj.CJ at hR
   cases BB with
   | follows  =>
    obtain rfl:ro=0:=hro;simp only at hR;have hS:=aI c5 (aI c6 z1);have hF:=aa3 (hH.out.1.trans ((aj.refl ai W4 O4).drew.only Y)) (hH.out.2.1.step (aj.refl ai W4 O4).drew id id) hR;clear c5 c6 z1 hR k3 k6
    go_wp2_with ((with_reducible apply BO #[(0, .agg #[(src:aV), .int .u8 3, (yk.promised:aV), .int .u64 0, .int .i64 0, .int .i64 0, .slice none 0 0])] rfl);exact AaP.out;simp only [Act.put,lsa,lsz,lss])
    refine Aa (fun w'=>w'.cell? (aW p 5)=some (.int .i64 0)/\w'.cell? (aW p 6)=some (mi:aV)/\w'.cell? (aW mb 1)=some (mm.e:aV)) (fun _=>true) bf hS (fun hHeld => ?_);refine tq 0 (h:=tq 1 (h:=tq 2 (h:=tq 3 (h:=tq 4 (h:=tq 5 (h:=ts 6 (h:=ts 7 (h:=ts 8 (h:=ts 9 (h:=ts 10 (h:=ts 11 (h:=ts 12 (h:=tq 13 (h:=?_))))))))))))));refine tD (h:=?_);clear hHeld;go_wp2_with fail;go_ret;exact ⟨_,O4,rfl,hF.out.1,by rw [<-hF.out.2.2];exact AaA.nil _ _,by rw [<-hF.out.2.2];exact hF.out.2.1⟩
   | stands ms hs =>
    obtain ⟨rfl,rfl⟩:=hro;simp only at hR;have hS:=aI c5 (aI c6 z1);have hF:=aa3 (hH.out.1.trans ((aj.refl ai W4 O4).drew.only Y)) (hH.out.2.1.step (aj.refl ai W4 O4).drew id id) hR;clear c5 c6 z1 hR k3 k6
    go_wp2_with ((with_reducible apply BO #[(0, .agg #[(src:aV), .int .u8 3, (yk.promised:aV), .int .u64 0, .int .i64 0, .int .i64 0, .slice none 0 0])] rfl);exact AaP.out;simp only [Act.put,lsa,lsz,lss])
    refine Aa (fun w'=>w'.cell? (aW p 5)=some (.int .i64 1)/\w'.cell? (aW p 6)=some (mi:aV)/\w'.cell? (aW mb 1)=some (mm.e:aV)) (fun _=>true) bf hS (fun hHeld => ?_);refine tq 0 (h:=tq 1 (h:=tq 2 (h:=tq 3 (h:=tq 4 (h:=tq 5 (h:=ts 6 (h:=ts 7 (h:=ts 8 (h:=ts 9 (h:=ts 10 (h:=ts 11 (h:=ts 12 (h:=tq 13 (h:=?_))))))))))))));refine tD (h:=?_);clear hHeld;go_wp2_with fail;go_ret;exact ⟨_,O4,rfl,hF.out.1,by rw [<-hF.out.2.2];exact AaA.nil _ _,by rw [<-hF.out.2.2];exact hF.out.2.1⟩
   | leads ms nR bs rd =>
    obtain ⟨rfl,rfl⟩:=hro;simp only at hR;have hS:=aI c5 (aI c6 z1)
    by_cases g4:mi=mm.e
    ·obtain ⟨g4I,g4N⟩:=Ail g4;rw [if_pos g4] at hR;have hRl:=ae hR;obtain ⟨-,hml,hmr⟩:=hnH.out.ro;have hid:=hnH.out.id;have hco:=hnH.out.co;have hkn:=hnH.out.ls.n;simp only at hml hmr hid hco hkn;have hV:=hH.out.step0 (aj.refl ai W4 O4).drew;obtain ⟨V,hVe⟩:=az (W4.drew);rw [hVe] at hV hS c5 c6 z1;obtain ⟨hst,hr,⟨hz,hzX⟩, -, -⟩:=hV;obtain ⟨lk5,ro5,mi,hv5,pv5,mv5,ba5,re5,hp,hpo,hk,h4⟩:=hr;obtain ⟨rfl,rfl,⟨mt,rfl,hmt,hmo⟩,rfl,rfl⟩:=h4;simp only at hp hk;obtain ⟨ka,kc,rfl⟩:=hk.form;obtain ⟨KL,hKL⟩:=az (yk.lines.length);rw [hml,hKL] at hp;rw [hKL] at hk hmr hco hkn hR;obtain ⟨x,hx⟩:∃ x,nR[src]?=some x:=⟨_,List.getElem?_eq_getElem aP⟩;have hxr:=hmr x (List.mem_of_getElem? hx);have hgd:nR.getD src 0=x:=by simp [List.getD_eq_getElem?_getD,hx]
     obtain ⟨mn,hmn⟩:=az (min mm.at' KL);obtain ⟨Mx,hMx⟩:∃ n:Int,max x (mn:Int)=n:=⟨_,rfl⟩;rw [hgd,hmn,hMx] at hR;have hat:=hK.out.1.a1;have aIx:(0:Int)<=(mm.at':Int)/\(mm.at':Int)<=256:=aP
     have kI:(0:Int)<=(KL:Int)/\(KL:Int)<=256:=aP
     have mn1:min (mm.at':Int) (KL:Int)=(mn:Int):=aP
     have hMr : -1<=Mx/\Mx<=256:=aP
     have mtp:p ≠ mt:=by rintro rfl;rw [hp] at hmt;simp at hmt
     have hpd:V.drew.heap[p]?=_:=hp;have hmd:V.drew.heap[mt]?=_:=hmt;have hzd:V.drew.heap[mb]?=_:=hz;have u12:=ag hpd 12;have u4:=ag hpd 4;have u3:=ag hzd 3;simp only [Aai,Bf,ax,ay] at u12 u4 u3;have um:V.drew.cell? (aW mt src)=some (.int .i64 x):=by rw [ag hmd];simp [ivs,hx]
     have fm:V.drew.frozen? (aW mt src)=false:=Ap hmd src;have AvT:=aI u12 (aI um (aI u3 u4));have j1:aj (ak Y) V O4 V.drew O4:=(aj.refl (ak Y) V O4).drew;have k5:=j1.setCell (a:=(aW mt src)) (.int .i64 Mx) (.inl hmo);have hp5:=(Below.heap_setCell V.drew (aW mt src) (.int .i64 Mx) p mtp).trans hpd;have hm5:=Ai (i:=src) (.int .i64 Mx) hmd;rw [AfQ] at hm5;obtain ⟨W5,hW5⟩:=az (V.drew.setCell (aW mt src) (.int .i64 Mx));rw [hW5] at k5 hp5 hm5;have hr5:AaB W5 O4 Y p ⟨I,N,yk, .leads mi (nR.set src Mx) bs re5,wt,E,Co⟩:=⟨_,2,mi,hv5,pv5,_,_,re5,hp5,hpo,hk.step k5 (fun h=>hY h.symm),rfl,rfl,⟨mt,by rw [List.length_set,hml],hm5,hmo⟩,rfl,rfl⟩;have hcn:=ae (Adq hr5 hY rfl (by rw [List.length_set];omega) (by rw [List.length_set];omega) (by rw [List.length_set];show I<nR.length;omega) (fun z hz=>by
      rcases List.mem_or_eq_of_mem_set hz with hz | hz
      ·have:=hmr z hz;omega
      ·rw [hz];exact hMr) (by show yk.lines.length<=256;omega) (by show Co<=256;omega))
     have hce:Aj.count ⟨I,N,yk, .leads mi nR bs re5,wt,E,Co⟩ mi (nR.set src Mx) bs re5=Aj.count ⟨I,N,yk, .leads mi (nR.set src Mx) bs re5,wt,E,Co⟩ mi (nR.set src Mx) bs re5:=by rw [Aj.count_eq,Aj.count_eq]
     have hF:=aa2 (hst.trans k5) (show R=(Aj.count ⟨I,N,yk, .leads mi (nR.set src Mx) bs re5,wt,E,Co⟩ mi (nR.set src Mx) bs re5,[]) by rw [<-hce];exact hR.symm);have hVH:=ae hVe;have BaA:=ae hMx;have Ahn:=ae (show (V.setCell (aW mt src) (.int .i64 Mx)).drew=W5 from hW5);have sN:src<N:=aP
     rw [<-hVe] at hS;clear c5 c6 z1 hR k3 k6 g4 hVe hst hz hzX hp hpo hk hmt hmo hKL hx hxr hgd hmn hMx hat hMr mtp hpd hmd hzd u12 u4 u3 um j1 k5 hp5 hm5 hW5 hr5 hce hml hmr hid hco hkn
     go_wp2_with ((with_reducible apply BO #[(0, .agg #[(src:aV), .int .u8 3, (yk.promised:aV), .int .u64 0, .int .i64 0, .int .i64 0, .slice none 0 0])] rfl);exact AaP.out;simp only [Act.put,lsa,lsz,lss])
     refine Aa (fun w'=>w'.cell? (aW p 5)=some (.int .i64 2)/\w'.cell? (aW p 6)=some (mi:aV)/\w'.cell? (aW mb 1)=some (mm.e:aV)) (fun _=>true) bf hS (fun hHeld => ?_);refine tq 0 (h:=tq 1 (h:=tq 2 (h:=tq 3 (h:=tq 4 (h:=tq 5 (h:=tq 6 (h:=tq 7 (h:=tq 8 (h:=tq 9 (h:=tq 10 (h:=tq 11 (h:=tq 12 (h:=tq 13 (h:=?_))))))))))))));refine tD (h:=?_);clear hHeld hS;go_wp2_with fail;rw [hVH.out];refine Aa (fun w'=>w'.cell? (aW p 12)=some (.slice mt N N)/\w'.cell? (aW mt src)=some (.int .i64 x)/\w'.cell? (aW mb 3)=some (mm.at':aV)/\w'.cell? (aW p 4)=some (.slice ka KL kc)) (fun i=>decide (i<23)) bf AvT (fun hHeld => ?_);refine tq 0 (h:=tq 1 (h:=tq 2 (h:=tq 3 (h:=tq 4 (h:=tq 5 (h:=tq 6 (h:=tq 7 (h:=tq 8 (h:=tq 9 (h:=tq 10 (h:=tq 11 (h:=tq 12 (h:=tq 13 (h:=?_))))))))))))));refine tq 14 (h:=tq 15 (h:=tq 16 (h:=tq 17 (h:=tq 18 (h:=tq 19 (h:=tq 20 (h:=tv 21 (.int .i64 Mx) (hy:=fun w hSw=>by (try dsimp only at hSw);go_simp;exact BaA.out) (h:=tq 22 (h:=tO 23 (h:=?_))))))))));go_wp2_with fail;refine ⟨fun h=>by simp at h, ?_⟩;refine tD (h:=?_);clear hHeld AvT;rw [Ahn.out];go_wp2_with fail;refine hcn.out.mono ?_;rintro e w6 ⟨v6,o6,rfl,hs6,rfl,hr6⟩;have hF6:=aa2 (hF.out.1.trans hs6) hr6;clear hs6 hr6;go_wp2_with fail;go_ret;exact ⟨_,o6,rfl,hF6.out.1,by rw [hF.out.2];exact AaA.nil _ _,by rw [hF.out.2];exact hF6.out.2⟩
    ·obtain ⟨g4I,g4N⟩:=AjP g4;rw [if_neg g4] at hR;have hF:=aa3 (hH.out.1.trans ((aj.refl ai W4 O4).drew.only Y)) (hH.out.2.1.step (aj.refl ai W4 O4).drew id id) hR;clear c5 c6 z1 hR k3 k6 g4
     go_wp2_with ((with_reducible apply BO #[(0, .agg #[(src:aV), .int .u8 3, (yk.promised:aV), .int .u64 0, .int .i64 0, .int .i64 0, .slice none 0 0])] rfl);exact AaP.out;simp only [Act.put,lsa,lsz,lss])
     refine Aa (fun w'=>w'.cell? (aW p 5)=some (.int .i64 2)/\w'.cell? (aW p 6)=some (mi:aV)/\w'.cell? (aW mb 1)=some (mm.e:aV)) (fun _=>true) bf hS (fun hHeld => ?_);refine tq 0 (h:=tq 1 (h:=tq 2 (h:=tq 3 (h:=tq 4 (h:=tq 5 (h:=tq 6 (h:=tq 7 (h:=tq 8 (h:=tq 9 (h:=tq 10 (h:=tq 11 (h:=tq 12 (h:=tq 13 (h:=?_))))))))))))));refine tD (h:=?_);clear hHeld;go_wp2_with fail;go_ret;exact ⟨_,O4,rfl,hF.out.1,by rw [<-hF.out.2.2];exact AaA.nil _ _,by rw [<-hF.out.2.2];exact hF.out.2.1⟩
  by_cases k1:mm.k=1
  ·have hR:=hRK.out;unfold Aj.Ec at hR;rw [if_pos k1] at hR;unfold Aj.BK at hR;have how:=ae (AeU hH.out.2.1 (aI hN1.out.n1 hN1.out.n3) src mm.e);have z1w:W4.cell? (aW mb 1)=some (mm.e:aV):=ag hH.out.2.2.1.1 1;obtain ⟨ow,hoe⟩:=az (Aj.owns ⟨I,N,yk,BB,wt,E,Co⟩ src mm.e);rw [hoe] at how hR;have e1:((mm.k:Int) == 1)=true:=by simp;omega
   cases ow with
   | false =>
    rw [if_pos (by rfl)] at hR;have hF:=aa3 hH.out.1 hH.out.2.1 hR;clear hR c5 c6 z1 k3 k6 k1 hoe
    go_wp2_with ((with_reducible apply BO #[(0, .agg #[(src:aV), .int .u8 3, (yk.promised:aV), .int .u64 0, .int .i64 0, .int .i64 0, .slice none 0 0])] rfl);exact AaP.out;simp only [Act.put,lsa,lsz,lss])
    refine how.out.mono ?_;rintro e w5 ⟨rfl,rfl⟩;go_wp2_with fail;go_ret;exact ⟨_,O4,rfl,hF.out.1,by rw [<-hF.out.2.2];exact AaA.nil _ _,by rw [<-hF.out.2.2];exact hF.out.2.1⟩
   | true =>
    rw [if_neg bu] at hR;have hV:=hH.out.step0 (aj.refl ai W4 O4).drew;obtain ⟨lk5,ro5,mi5,hv5,pv5,mv5,ba5,re5,hp,hpo,hk,h4⟩:=hV.2.1;simp only at hp hk h4;obtain ⟨ka,kc,rfl⟩:=hk.form;have c2:=ag hp 2;simp only [Aai,ax,ay] at c2;have AgF:=aI z1 c2
    by_cases g5:mm.e.toNat<=yk.promised.toNat
    ·have g5I:(mm.e.toNat:Int)<=(yk.promised.toNat:Int):=aP
     rw [if_pos g5] at hR;have hF:=aa4 hV.1 hV.2.1 hV.2.2.2.2 hR;clear hR c5 c6 z1 k3 k6 k1 hoe c2 hV g5 hp hpo hk h4
     go_wp2_with ((with_reducible apply BO #[(0, .agg #[(src:aV), .int .u8 3, (yk.promised:aV), .int .u64 0, .int .i64 0, .int .i64 0, .slice none 0 0])] rfl);exact AaP.out;simp only [Act.put,lsa,lsz,lss])
     refine how.out.mono ?_;rintro e w5 ⟨rfl,rfl⟩;go_wp2_with fail;refine Aa (fun w'=>w'.cell? (aW mb 1)=some (mm.e:aV)/\w'.cell? (aW p 2)=some (yk.promised:aV)) (fun _=>true) bf AgF (fun hHeld => ?_);refine tq 0 (h:=tq 1 (h:=tq 2 (h:=tq 3 (h:=tq 4 (h:=tq 5 (h:=tq 6 (h:=tq 7 (h:=tD (h:=?_)))))))));clear hHeld AgF;go_wp2_with fail;go_ret;exact ⟨_,O4,rfl,hF.out.1,by rw [<-hF.out.2.2.2];exact hF.out.2.2.1,by rw [<-hF.out.2.2.2];exact hF.out.2.1⟩
    ·have g5I:¬ (mm.e.toNat:Int)<=(yk.promised.toNat:Int):=aP
     have g5N:decide ((mm.e.toNat:Int)<=(yk.promised.toNat:Int))=false:=decide_eq_false g5I;have g5M:decide (mm.e.toNat<=yk.promised.toNat)=false:=decide_eq_false g5;rw [if_neg g5] at hR;obtain ⟨qk,hqk⟩:=az (yk.CQ mm.e);rw [hqk] at hR;obtain ⟨WV,hWV⟩:=az (W4.drew);rw [hWV] at hV hp hk h4;have hzV:=hV.2.2.1;obtain ⟨X2,Aik,Baa⟩:=KT O4 WV.heap.size Y;obtain ⟨XX,hXX⟩:=az (X2);have AbJ:=ae (fun (V1:World) (p1:Own) (hJ:aj ai WV O4 V1 p1)=>AeQ (p:=yk.promised) (c:=yk.current) (hk.step hJ id) mm.e);rw [show (⟨yk.promised,yk.current,yk.lines⟩:AX)=yk from rfl,hqk] at AbJ;have hSf:=ae (fun (V1:World) (p1:Own) (hJ:aj ai WV O4 V1 p1)=>aI ((hJ.block p (au hp) id).trans hp) (show V1.cell? (aW mb 1)=some (mm.e:aV) from ag ((hJ.block mb (au hzV.1) id).trans hzV.1) 1));have Ajn:=hSf.out WV.drew O4 (aj.refl ai WV O4).drew;have Bae:=ae hWV;have hVH:=aa4 hV hp hpo h4;have hRq:=aa3 hR hqk Aik;have hX0:X2 ≠ 0:=aP
     clear hR c5 c6 z1 k3 k6 k1 hoe c2 hV g5 hp hpo hk h4 hqk hWV hzV Baa Aik hXX XX
     go_wp2_with ((with_reducible apply BO #[(0, .agg #[(src:aV), .int .u8 3, (yk.promised:aV), .int .u64 0, .int .i64 0, .int .i64 0, .slice none 0 0])] rfl);exact AaP.out;simp only [Act.put,lsa,lsz,lss])
     refine how.out.mono ?_;rintro e w5 ⟨rfl,rfl⟩;go_wp2_with fail;refine Aa (fun w'=>w'.cell? (aW mb 1)=some (mm.e:aV)/\w'.cell? (aW p 2)=some (yk.promised:aV)) (fun _=>true) bf AgF (fun hHeld => ?_);refine tq 0 (h:=tq 1 (h:=tq 2 (h:=tq 3 (h:=tq 4 (h:=tq 5 (h:=tq 6 (h:=tq 7 (h:=tD (h:=?_)))))))));clear hHeld AgF;go_wp2_with fail;rw [Bae.out];refine Jd (fun a0 a' w'=>∃ (lb:Nat) (lv:Value) (oF:Own),a'=Act.puts a0 [78,79,80,81,82,83,84,77,85,86,10,11] [.pointer p, .pointer p, .pointer (some (aW p 2)),Dy yk.promised yk.current (.slice ka yk.lines.length kc), .pointer (some (aW mb 1)), (mm.e:aV), .tuple #[(Dy qk.1.promised qk.1.current lv),(.int .i64 qk.2)], .tuple #[(Dy qk.1.promised qk.1.current lv),(.int .i64 qk.2)],(Dy qk.1.promised qk.1.current lv),(.int .i64 qk.2), .pointer lb,(.int .i64 qk.2)]/\aj ai WV O4 w' oF/\w'.heap[lb]?=some (.cells (BR qk.1.promised qk.1.current lv).toArray 120 (0,0))/\(oF lb).1=X2/\Lines w' oF 0 lv qk.1.lines) ?_ ?_
     ·refine Aa (fun w'=>w'.heap[p]?=some (.cells (Aai I N yk (.slice ka yk.lines.length kc) ro5 mi5 wt E Co hv5 pv5 mv5 ba5 re5).toArray 124 (0,0))/\w'.cell? (aW mb 1)=some (mm.e:aV)) (fun _=>true) bf Ajn (fun hHeld => ?_);obtain ⟨U,hU⟩:=az (WV.drew);have hJ:aj ai WV O4 WV.drew O4:=(aj.refl ai WV O4).drew;rw [hU] at hHeld hJ ⊢;clear hU;refine tn 0 (h:=tn 1 (h:=tn 2 (h:=?_)));refine Dt (i:=3) (v:=Dy yk.promised yk.current (.slice ka yk.lines.length kc)) rfl bf (fun _ _ _ h=>nomatch h.1) (yieldsIf_load_mid rfl 120 (.tmp 80) rfl p 2 rfl (BR yk.promised yk.current (.slice ka yk.lines.length kc)) _ (fun w h=>Acm h.1) underlying120 rfl bf) (by assumption) ?_;simp only [Act.put,lsa,lsz,lss];refine tn 4 (h:=tn 5 (h:=?_));refine Gm (i:=6) (j:=10) rfl rfl bf ?_ ?_
      ·go_wp2_with fail;refine (AbJ.out _ _ hJ).mono ?_;rintro e Uc ⟨vc,oc,rfl,hsc,lv,rfl,hlv⟩;have hJ:=hJ.trans hsc;go_wp2_with fail;refine ⟨fun _=>hSf.out _ _ hJ, ?_⟩;have hS0:=hSf.out _ _ hJ;refine tn 7 (h:=tn 8 (h:=tn 9 (h:=tO 10 (h:=?_))));obtain ⟨lb,Ua,oa,hal,hsa,hz,hzo,hge⟩:=Ach X2 Uc oc;have hge:=Nat.le_trans hJ.size hge;have hJ:=hJ.trans hsa;refine AU hal (wpList_nil ?_);simp only [Act.put,lsa,lsz,lss];refine ⟨fun _=>hSf.out _ _ hJ, ?_⟩;have hlv2:=(hlv.step hsa id);obtain ⟨Us,hso,hsF,hJ,hz⟩:=Acg hJ hge hz hzo hlv.Acw;refine tO 11 (h:=?_);refine AC hso (wpList_nil ?_);simp only [Act.put];refine ⟨fun _=>hSf.out _ _ hJ, ?_⟩;refine tO 12 (h:=?_);go_wp2_with fail;refine ⟨fun _=>hSf.out _ _ hJ, ?_⟩;refine tD (h:=?_);exact ⟨rfl,lb,lv,_,by simp only [Act.puts,Act.put,lsa,lsz,lss],hJ,hz,hzo,hlv2.step hsF (fun h=>hX0 h.symm)⟩
      ·obtain ⟨lb,Ua,oa,hal,hsa,hz,hzo,hge⟩:=Ach X2 U O4;have hge:=Nat.le_trans hJ.size hge;have hJ:=hJ.trans hsa;refine AU hal (wpList_nil ?_);simp only [Act.put,lsa,lsz,lss];refine ⟨fun _=>hSf.out _ _ hJ, ?_⟩;refine tO 6 (h:=?_);go_wp2_with fail;refine (AbJ.out _ _ hJ).mono ?_;rintro e Uc ⟨vc,oc,rfl,hsc,lv,rfl,hlv⟩;have hJ:=hJ.trans hsc;go_wp2_with fail;refine ⟨fun _=>hSf.out _ _ hJ, ?_⟩;have hS0:=hSf.out _ _ hJ;have hz0:=hz;have hz:=(hsc.block lb (au hz) id).trans hz;have hzo:=(congrArg Prod.fst (hsc.own lb (au hz0))).trans hzo;have hlv2:=hlv;refine tn 7 (h:=tn 8 (h:=tn 9 (h:=?_)));obtain ⟨Us,hso,hsF,hJ,hz⟩:=Acg hJ hge hz hzo hlv.Acw;refine tO 11 (h:=?_);refine AC hso (wpList_nil ?_);simp only [Act.put];refine ⟨fun _=>hSf.out _ _ hJ, ?_⟩;refine tO 12 (h:=?_);go_wp2_with fail;refine ⟨fun _=>hSf.out _ _ hJ, ?_⟩;refine tD (h:=?_);exact ⟨rfl,lb,lv,_,by simp only [Act.puts,Act.put,lsa,lsz,lss],hJ,hz,hzo,hlv2.step hsF (fun h=>hX0 h.symm)⟩
     rintro a3 W5 ⟨lb,lq,o5,rfl,hJ,hz,hzo,hlq⟩;simp only [Act.puts,Act.put,lsa,lsz,lss];obtain ⟨hV,hp,hpo,h4⟩:=hVH.out;obtain ⟨hR,hqk,Aik⟩:=hRq.out
     by_cases hf:qk.2=0
     ·have hq1:=GM (show (yk.CQ mm.e).2=0 by rw [hqk];exact hf);rw [hqk] at hq1;obtain rfl:qk=({ yk with promised:=mm.e },0):=Prod.ext hq1 hf;rw [if_pos rfl] at hR;simp only at hz hlq hR ⊢;obtain ⟨qa,qc,rfl⟩:=hlq.form;have hp5:=(hJ.block p (au hp) id).trans hp;have op5:=(hJ.own p (au hp)).trans hpo;have hzm:=(hJ.block mb (au hV.2.2.1.1) id).trans hV.2.2.1.1;have omb:=(congrArg Prod.fst (hJ.own mb (au hV.2.2.1.1))).trans hV.2.2.1.2;have Aog:=hK.out.2.2;have hne:lb ≠ p:=by rintro rfl;rw [op5] at hzo;simp only at hzo;omega
      have qO:=ae (AaS (AV hz));obtain ⟨s6,zD⟩:=Aeb hp5 2 (by simp [Aai]) (p:=mm.e) (c:=yk.current) (lv := .slice qa yk.lines.length qc) ⟨_,_,_,rfl⟩;have k6:=(aj.refl (ak Y) W5 o5).setCells p 2 (BR mm.e yk.current (.slice qa yk.lines.length qc)) (.inl (congrArg Prod.fst op5));have r6:=(h4.step hJ id id).keep hp5 (fun x hx=>ah p (BR mm.e yk.current (.slice qa yk.lines.length qc)) 2 W5 x hx) k6 hY;have hz6:=(ah p (BR mm.e yk.current (.slice qa yk.lines.length qc)) 2 W5 lb hne).trans hz;have ApG:=(k6.block mb (au hzm) (by rw [omb];unfold ak;omega)).trans hzm;obtain ⟨W6,hW6⟩:=az (W5.setCells p 2 (BR mm.e yk.current (.slice qa yk.lines.length qc)));rw [hW6] at s6 zD k6 r6 hz6 ApG;have hr6:AaB W6 o5 Y p ⟨I,N,{ yk with promised:=mm.e },BB,wt,E,Co⟩:=⟨_,ro5,mi5,hv5,pv5,mv5,ba5,re5,zD,op5,hlq.step k6 (fun h=>hY h.symm),r6⟩;have hfo:=ae (Abi hr6 hY);have hT:=aa9 ((hV.1.trans (hJ.only Y)).trans k6) hz6 hzo ApG omb (hlq.step k6 (fun h=>hY h.symm)) hR Aik Aog;have s6H:=ae s6;clear hV hp hpo h4 hR hqk Aik hf hq1 hJ hz hzo hlq hp5 op5 hzm omb hne s6 zD k6 r6 hz6 ApG hW6 hr6 AbJ hSf Aog
      go_wp2_with (first
       | ((with_reducible apply Bo);exact qO.out;simp only [Act.put,lsa,lsz,lss])
       | ((with_reducible apply AC);exact s6H.out;simp only [Act.put]))
      refine hfo.out.mono ?_;rintro e w7 ⟨v7,o7,rfl,hs7,rfl,yU⟩;obtain ⟨hst,hz,hzo,hzm,omb,hlq,hR,Aik,Aog⟩:=hT.out;have hz7:=(hs7.block lb (au hz) (by rw [hzo];unfold ak;omega)).trans hz;have Atf:=(hs7.block mb (au hzm) (by rw [omb];unfold ak;omega)).trans hzm;have wY:=hlq.step hs7 (fun h=>hY h.symm);have x1:=ag hz7 1;have x2:=ag hz7 2;have z1:=ag Atf 1;simp only [BR,Bf,ax,ay] at x1 x2 z1;have AbP:=Adk w7 (src:Int) 2 (mm.e.toNat:Int) (yk.current.toNat:Int) 0 0 (.slice qa yk.lines.length qc);have hsa:=(aj.refl ai w7 o7).alloc (.cells (AaD (src,⟨2,mm.e,yk.current,0,0,yk.lines⟩) (.slice qa yk.lines.length qc)).toArray 126) (0,0);have hnb:=heap_alloc_new w7 (.cells (AaD (src,⟨2,mm.e,yk.current,0,0,yk.lines⟩) (.slice qa yk.lines.length qc)).toArray 126);have htd:AaA _ (Ak o7 w7.heap.size (0,0)) (.slice w7.heap.size 1 1) [(src,⟨2,mm.e,yk.current,0,0,yk.lines⟩)]:=
       ⟨_, .inr ⟨w7.heap.size,0,1,rfl,Nat.le_refl _,by simp [maxLen],by rw [Au],bu,AV hnb⟩,AaT.single (wY.step hsa id)⟩
      have hF:=aa4 ((hst.trans hs7).trans (hsa.only Y)) htd (yU.step hsa id id) hR;have Avq:=ae AbP;clear hst hz hzo hzm omb hlq hR Aik Aog hz7 Atf wY AbP hsa hnb htd hs7 yU hfo
      go_wp2_with ((with_reducible apply BO #[(0, .agg #[(src:aV), .int .u8 2, (mm.e:aV), (yk.current:aV), .int .i64 0, .int .i64 0, .slice qa yk.lines.length qc])] rfl);exact Avq.out;simp only [Act.put,lsa,lsz,lss])
      go_ret;exact ⟨_,_,rfl,hF.out.1,by rw [<-hF.out.2.2.2];exact hF.out.2.1,by rw [<-hF.out.2.2.2];exact hF.out.2.2.1⟩
     ·have AlM:((qk.2:Int) == 0)=false:=by simp [hf]
      rw [if_neg hf] at hR;have hF:=aa3 (hV.1.trans (hJ.only Y)) (hV.2.1.step hJ id id) hR;clear hV hp hpo h4 hR hqk Aik hf hJ hz hzo hlq AbJ hSf;go_wp2_with fail;go_ret;exact ⟨_,o5,rfl,hF.out.1,by rw [<-hF.out.2.2];exact AaA.nil _ _,by rw [<-hF.out.2.2];exact hF.out.2.1⟩
  by_cases k2:mm.k=2
  ·have e1:((mm.k:Int) == 1)=false:=by simp;omega
   have e2:((mm.k:Int) == 2)=true:=by simp;omega
   have hR:=hRK.out;unfold Aj.Ec at hR;rw [if_neg k1,if_pos k2] at hR;unfold Aj.Bj at hR;have z2:W4.drew.cell? (aW mb 2)=some (mm.c:aV):=ag (hH.out.step0 (aj.refl ai W4 O4).drew).2.2.1.1 2
   cases BB with
   | follows  =>
    obtain rfl:ro=0:=hro;simp only at hR;have hS:=aI c5 (aI c6 (aI z1 z2));have hF:=aa3 (hH.out.1.trans ((aj.refl ai W4 O4).drew.only Y)) (hH.out.2.1.step (aj.refl ai W4 O4).drew id id) hR;clear c5 c6 z1 z2 hR k3 k6 k1 k2
    go_wp2_with ((with_reducible apply BO #[(0, .agg #[(src:aV), .int .u8 3, (yk.promised:aV), .int .u64 0, .int .i64 0, .int .i64 0, .slice none 0 0])] rfl);exact AaP.out;simp only [Act.put,lsa,lsz,lss])
    refine Aa (fun w'=>w'.cell? (aW p 5)=some (.int .i64 0)/\w'.cell? (aW p 6)=some (mi:aV)/\w'.cell? (aW mb 1)=some (mm.e:aV)/\w'.cell? (aW mb 2)=some (mm.c:aV)) (fun _=>true) bf hS (fun hHeld => ?_);refine tq 0 (h:=tq 1 (h:=tq 2 (h:=tq 3 (h:=tq 4 (h:=tq 5 (h:=ts 6 (h:=ts 7 (h:=ts 8 (h:=ts 9 (h:=ts 10 (h:=ts 11 (h:=ts 12 (h:=tq 13 (h:=?_))))))))))))));refine tq 14 (h:=ts 15 (h:=ts 16 (h:=ts 17 (h:=ts 18 (h:=ts 19 (h:=tq 20 (h:=tD (h:=?_))))))));clear hHeld;go_wp2_with fail;go_ret;exact ⟨_,O4,rfl,hF.out.1,by rw [<-hF.out.2.2];exact AaA.nil _ _,by rw [<-hF.out.2.2];exact hF.out.2.1⟩
   | leads ms nR bs rd =>
    obtain ⟨rfl,rfl⟩:=hro;simp only at hR;have hS:=aI c5 (aI c6 (aI z1 z2));have hF:=aa3 (hH.out.1.trans ((aj.refl ai W4 O4).drew.only Y)) (hH.out.2.1.step (aj.refl ai W4 O4).drew id id) hR;clear c5 c6 z1 z2 hR k3 k6 k1 k2
    go_wp2_with ((with_reducible apply BO #[(0, .agg #[(src:aV), .int .u8 3, (yk.promised:aV), .int .u64 0, .int .i64 0, .int .i64 0, .slice none 0 0])] rfl);exact AaP.out;simp only [Act.put,lsa,lsz,lss])
    refine Aa (fun w'=>w'.cell? (aW p 5)=some (.int .i64 2)/\w'.cell? (aW p 6)=some (mi:aV)/\w'.cell? (aW mb 1)=some (mm.e:aV)/\w'.cell? (aW mb 2)=some (mm.c:aV)) (fun _=>true) bf hS (fun hHeld => ?_);refine tq 0 (h:=tq 1 (h:=tq 2 (h:=tq 3 (h:=tq 4 (h:=tq 5 (h:=ts 6 (h:=ts 7 (h:=ts 8 (h:=ts 9 (h:=ts 10 (h:=ts 11 (h:=ts 12 (h:=tq 13 (h:=?_))))))))))))));refine tq 14 (h:=ts 15 (h:=ts 16 (h:=ts 17 (h:=ts 18 (h:=ts 19 (h:=tq 20 (h:=tD (h:=?_))))))));clear hHeld;go_wp2_with fail;go_ret;exact ⟨_,O4,rfl,hF.out.1,by rw [<-hF.out.2.2];exact AaA.nil _ _,by rw [<-hF.out.2.2];exact hF.out.2.1⟩
   | stands ms has =>
    obtain ⟨rfl,rfl⟩:=hro;simp only at hR;have hS:=aI c5 (aI c6 (aI z1 z2))
    by_cases g4:mi=mm.e
    ·obtain ⟨g4I,g4N⟩:=Ail g4
     by_cases g5:mm.e.toNat<=mm.c.toNat
     ·have g5I:(mm.e.toNat:Int)<=(mm.c.toNat:Int):=aP
      have g5N:decide ((mm.e.toNat:Int)<=(mm.c.toNat:Int))=true:=decide_eq_true g5I;have g5M:decide (mm.e.toNat<=mm.c.toNat)=true:=decide_eq_true g5;rw [if_pos (.inr g5)] at hR;have hF:=aa3 (hH.out.1.trans ((aj.refl ai W4 O4).drew.only Y)) (hH.out.2.1.step (aj.refl ai W4 O4).drew id id) hR;clear c5 c6 z1 z2 hR k3 k6 k1 k2 g4 g5
      go_wp2_with ((with_reducible apply BO #[(0, .agg #[(src:aV), .int .u8 3, (yk.promised:aV), .int .u64 0, .int .i64 0, .int .i64 0, .slice none 0 0])] rfl);exact AaP.out;simp only [Act.put,lsa,lsz,lss])
      refine Aa (fun w'=>w'.cell? (aW p 5)=some (.int .i64 1)/\w'.cell? (aW p 6)=some (mi:aV)/\w'.cell? (aW mb 1)=some (mm.e:aV)/\w'.cell? (aW mb 2)=some (mm.c:aV)) (fun _=>true) bf hS (fun hHeld => ?_);refine tq 0 (h:=tq 1 (h:=tq 2 (h:=tq 3 (h:=tq 4 (h:=tq 5 (h:=tq 6 (h:=tq 7 (h:=tq 8 (h:=tq 9 (h:=tq 10 (h:=tq 11 (h:=tq 12 (h:=tq 13 (h:=?_))))))))))))));refine tq 14 (h:=tq 15 (h:=tq 16 (h:=tq 17 (h:=tq 18 (h:=tq 19 (h:=tq 20 (h:=tD (h:=?_))))))));clear hHeld;go_wp2_with fail;go_ret;exact ⟨_,O4,rfl,hF.out.1,by rw [<-hF.out.2.2];exact AaA.nil _ _,by rw [<-hF.out.2.2];exact hF.out.2.1⟩
     ·have g5I:¬ (mm.e.toNat:Int)<=(mm.c.toNat:Int):=aP
      have g5N:decide ((mm.e.toNat:Int)<=(mm.c.toNat:Int))=false:=decide_eq_false g5I;have g5M:decide (mm.e.toNat<=mm.c.toNat)=false:=decide_eq_false g5;rw [if_neg (fun h=>by rcases h with h | h;exact h g4;exact g5 h)] at hR
      have hnk:=hN1.out;have hlen:has.length=N:=hnk.ro.2.1;have hV:=hH.out.step0 (aj.refl ai W4 O4).drew;obtain ⟨V,hVe⟩:=az (W4.drew);rw [hVe] at hV;have hVH:=ae hV;have hr:=hV.2.1;obtain ⟨lk5,ro5,mi5,hv5,pv5,mv5,ba5,re5,hp,hpo,hk,h4⟩:=hV.2.1;obtain ⟨rfl,rfl,⟨hb,rfl,hhb,hho⟩,cs,⟨pb,rfl,hpb,hbo⟩,hpc⟩:=h4;simp only at hp hk;have c10:=ag hp 10;have xb:=ag hhb src;have fb:=Ap hhb src;obtain ⟨x,hx⟩:∃ x,has[src]?=some x:=⟨_,List.getElem?_eq_getElem aP⟩;have hgd:has.getD src none=x:=by simp [List.getD_eq_getElem?_getD,hx]
      rw [hgd] at hR;rw [List.getElem?_map,hx] at xb;simp only [Aai,ax,ay,Option.map_some] at c10 xb;rw [hlen] at c10;have AvP:=ae hVe
      cases x with
      | some g =>
       simp only [Option.isSome_some,if_true] at hR xb;have hle:=AeV hr hY hnk rfl;rw [show Aj.lead ⟨I,N,yk, .stands mi5 has,wt,E,Co⟩ mi5 has=R from hR] at hle;have hle:=ae hle;have hst:=ae hV.1;clear c5 c6 z1 z2 k3 k6 k1 k2 hR g4 g5 hnk hlen hV hVe hr hp hpo hk hhb hho hpb hbo hpc hx hgd
       go_wp2_with ((with_reducible apply BO #[(0, .agg #[(src:aV), .int .u8 3, (yk.promised:aV), .int .u64 0, .int .i64 0, .int .i64 0, .slice none 0 0])] rfl);exact AaP.out;simp only [Act.put,lsa,lsz,lss])
       refine Aa (fun w'=>w'.cell? (aW p 5)=some (.int .i64 1)/\w'.cell? (aW p 6)=some (mi5:aV)/\w'.cell? (aW mb 1)=some (mm.e:aV)/\w'.cell? (aW mb 2)=some (mm.c:aV)) (fun _=>true) bf hS (fun hHeld => ?_);refine tq 0 (h:=tq 1 (h:=tq 2 (h:=tq 3 (h:=tq 4 (h:=tq 5 (h:=tq 6 (h:=tq 7 (h:=tq 8 (h:=tq 9 (h:=tq 10 (h:=tq 11 (h:=tq 12 (h:=tq 13 (h:=?_))))))))))))));refine tq 14 (h:=tq 15 (h:=tq 16 (h:=tq 17 (h:=tq 18 (h:=tq 19 (h:=tq 20 (h:=tD (h:=?_))))))));clear hHeld hS;rw [AvP.out];go_wp2_with fail;refine hle.out.mono ?_;rintro e w6 ⟨v6,o6,rfl,hs6,ht6,hr6⟩;have hF:=aa3 (hst.out.trans hs6) ht6 hr6;clear hs6 ht6 hr6;go_wp2_with fail;go_ret;exact ⟨_,o6,rfl,hF.out.1,hF.out.2.1,hF.out.2.2⟩
      | none =>
       simp only [Option.isSome_none,if_neg (Bool.false_ne_true)] at hR xb;have h21:=aI c10 xb;have AtY:p ≠ hb:=by rintro rfl;rw [hp] at hhb;simp at hhb
       have pbX:pb ≠ hb:=by rintro rfl;rw [hpb] at hhb;simp at hhb
       have ppX:p ≠ pb:=by rintro rfl;rw [hp] at hpb;simp at hpb
       have j5:=(aj.refl (ak Y) V O4).setCell (a:=(aW hb src)) (.bool true) (.inl hho);have hp5:=(Below.heap_setCell V (aW hb src) (.bool true) p AtY).trans hp;have hb5:=Ai (i:=src) (.bool true) hhb;have hq5:=(Below.heap_setCell V (aW hb src) (.bool true) pb pbX).trans hpb;have hz5:=(j5.block mb (au hV.2.2.1.1) (by rw [hV.2.2.1.2];have:=hK.out.2.2;unfold ak;omega)).trans hV.2.2.1.1;obtain ⟨W5,hW5⟩:=az (V.setCell (aW hb src) (.bool true));rw [hW5] at j5 hp5 hb5 hq5 hz5;have Aqm:W5.drew.heap[p]?=_:=hp5;have Avz:W5.drew.heap[hb]?=_:=hb5;have AtU:W5.drew.heap[pb]?=_:=hq5;have ApI:W5.drew.heap[mb]?=_:=hz5;have y11:=ag Aqm 11;have m2:=ag ApI 2;have m5:=ag ApI 5;simp only [Aai,Bf,ax,ay] at y11 m2 m5;rw [hlen] at y11;have hcl:=hpc.1;obtain ⟨s6,hq6⟩:=Aeb AtU (src*3) aP (p:=0) (c:=mm.c) (lv := .slice la ln lc) ⟨_,_,_,rfl⟩;have j6:=j5.drew.setCells pb (src*3) (BR 0 mm.c (.slice la ln lc)) (.inl hbo);have zD:=(ah pb (BR 0 mm.c (.slice la ln lc)) (src*3) W5.drew p ppX).trans Aqm;have hb6:=(ah pb (BR 0 mm.c (.slice la ln lc)) (src*3) W5.drew hb (fun h=>pbX h.symm)).trans Avz;obtain ⟨W6,hW6⟩:=az (W5.drew.setCells pb (src*3) (BR 0 mm.c (.slice la ln lc)));rw [hW6] at s6 hq6 j6 zD hb6;have hr6:AaB W6 O4 Y p ⟨I,N,yk, .stands mi5 (has.set src (some (mm.c,mm.ls))),wt,E,Co⟩:=by
        refine ⟨_,_,_,_,_,_,_,_,zD,hpo,hk.step j6 (fun h=>hY h.symm),rfl,rfl,⟨hb,by rw [List.length_set],by rw [List.map_set];exact hb6,hho⟩,_,⟨pb,by rw [List.length_set],hq6,hbo⟩, ?_⟩;exact (hpc.step j6 (fun h=>hY h.symm)).set aP (hV.2.2.2.1.step j6 (fun h=>hY h.symm))
       have hle:=AeV hr6 hY (hnk.took rfl hK.out.1 src) rfl;rw [show Aj.lead ⟨I,N,yk, .stands mi5 (has.set src (some (mm.c,mm.ls))),wt,E,Co⟩ mi5 (has.set src (some (mm.c,mm.ls)))=R from hR] at hle;have hle:=ae hle;have hst:=ae (hV.1.trans j6);have AvU:=aI y11 (aI m2 m5);have s6H:=ae (show (Instr.storeAt 120 (.pointer (some (aW pb (src*3)))) (.agg #[.int .u64 0, (mm.c:aV), .slice la ln lc])).run prog W5.drew = .ok () W6 from s6);have Ahn:=ae hW5;clear c5 c6 z1 z2 k3 k6 k1 k2 hR g4 g5 hnk hlen hV hVe hr hp hpo hk hhb hho hpb hbo hpc hx hgd c10 xb AtY pbX ppX j5 hp5 hb5 hq5 hz5 Aqm Avz AtU ApI y11 m2 m5 hcl s6 hq6 j6 zD hb6 hW5 hW6 hr6
       go_wp2_with ((with_reducible apply BO #[(0, .agg #[(src:aV), .int .u8 3, (yk.promised:aV), .int .u64 0, .int .i64 0, .int .i64 0, .slice none 0 0])] rfl);exact AaP.out;simp only [Act.put,lsa,lsz,lss])
       refine Aa (fun w'=>w'.cell? (aW p 5)=some (.int .i64 1)/\w'.cell? (aW p 6)=some (mi5:aV)/\w'.cell? (aW mb 1)=some (mm.e:aV)/\w'.cell? (aW mb 2)=some (mm.c:aV)) (fun _=>true) bf hS (fun hHeld => ?_);refine tq 0 (h:=tq 1 (h:=tq 2 (h:=tq 3 (h:=tq 4 (h:=tq 5 (h:=tq 6 (h:=tq 7 (h:=tq 8 (h:=tq 9 (h:=tq 10 (h:=tq 11 (h:=tq 12 (h:=tq 13 (h:=?_))))))))))))));refine tq 14 (h:=tq 15 (h:=tq 16 (h:=tq 17 (h:=tq 18 (h:=tq 19 (h:=tq 20 (h:=tD (h:=?_))))))));clear hHeld hS;rw [AvP.out];obtain ⟨c10,xb⟩:=h21;go_wp2_with fail;rw [Ahn.out];refine Aa (fun w'=>w'.cell? (aW p 11)=some (.slice pb N N)/\w'.cell? (aW mb 2)=some (mm.c:aV)/\w'.cell? (aW mb 5)=some (.slice la ln lc)) (fun i=>decide (i<11)) bf AvU (fun hHeld => ?_);refine tq 0 (h:=tq 1 (h:=tq 2 (h:=tq 3 (h:=tq 4 (h:=tq 5 (h:=tq 6 (h:=tq 7 (h:=tq 8 (h:=tq 9 (h:=tq 10 (h:=tO 11 (h:=?_))))))))))));refine AC s6H.out (wpList_nil ?_);simp only [Act.put];refine ⟨fun h=>by simp at h, ?_⟩;refine tD (h:=?_);clear hHeld AvU;go_wp2_with fail;refine hle.out.mono ?_;rintro e w6 ⟨v6,o6,rfl,hs6,ht6,hr6⟩;have hF:=aa3 (hst.out.trans hs6) ht6 hr6;clear hs6 ht6 hr6;go_wp2_with fail;go_ret;exact ⟨_,o6,rfl,hF.out.1,hF.out.2.1,hF.out.2.2⟩
    ·obtain ⟨g4I,g4N⟩:=AjP g4;rw [if_pos (.inl g4)] at hR;have hF:=aa3 (hH.out.1.trans ((aj.refl ai W4 O4).drew.only Y)) (hH.out.2.1.step (aj.refl ai W4 O4).drew id id) hR;clear c5 c6 z1 z2 hR k3 k6 k1 k2 g4
     go_wp2_with ((with_reducible apply BO #[(0, .agg #[(src:aV), .int .u8 3, (yk.promised:aV), .int .u64 0, .int .i64 0, .int .i64 0, .slice none 0 0])] rfl);exact AaP.out;simp only [Act.put,lsa,lsz,lss])
     refine Aa (fun w'=>w'.cell? (aW p 5)=some (.int .i64 1)/\w'.cell? (aW p 6)=some (mi:aV)/\w'.cell? (aW mb 1)=some (mm.e:aV)/\w'.cell? (aW mb 2)=some (mm.c:aV)) (fun _=>true) bf hS (fun hHeld => ?_);refine tq 0 (h:=tq 1 (h:=tq 2 (h:=tq 3 (h:=tq 4 (h:=tq 5 (h:=tq 6 (h:=tq 7 (h:=tq 8 (h:=tq 9 (h:=tq 10 (h:=tq 11 (h:=tq 12 (h:=tq 13 (h:=?_))))))))))))));refine tq 14 (h:=ts 15 (h:=ts 16 (h:=ts 17 (h:=ts 18 (h:=ts 19 (h:=tq 20 (h:=tD (h:=?_))))))));clear hHeld;go_wp2_with fail;go_ret;exact ⟨_,O4,rfl,hF.out.1,by rw [<-hF.out.2.2];exact AaA.nil _ _,by rw [<-hF.out.2.2];exact hF.out.2.1⟩
  have k12:¬ (mm.k=1 \/ mm.k=2):=fun h=>h.elim k1 k2;have hk1:mm.k ≠ 1:=fun h=>k12 (.inl h);have hk2:mm.k ≠ 2:=fun h=>k12 (.inr h)
  by_cases k4:mm.k=4
  ·have hR:=hRK.out;unfold Aj.Ec at hR;rw [if_neg hk1,if_neg hk2,if_neg k3,if_pos k4] at hR;unfold Aj.BD at hR;have how:=ae (AeU hH.out.2.1 (aI hN1.out.n1 hN1.out.n3) src mm.e);have z0:W4.drew.cell? mb=some (.int .u8 (mm.k:Int)):=ag (hH.out.step0 (aj.refl ai W4 O4).drew).2.2.1.1 0;have z1w:W4.cell? (aW mb 1)=some (mm.e:aV):=ag hH.out.2.2.1.1 1;obtain ⟨ow,hoe⟩:=az (Aj.owns ⟨I,N,yk,BB,wt,E,Co⟩ src mm.e);rw [hoe] at how hR;have e1:((mm.k:Int) == 1)=false:=by simp;omega
   have e2:((mm.k:Int) == 2)=false:=by simp;omega
   have e3:((mm.k:Int) == 3)=false:=by simp;omega
   have e6:((mm.k:Int) == 6)=false:=by simp;omega
   cases ow with
   | false =>
    rw [if_pos (by rfl)] at hR;have hF:=aa3 hH.out.1 hH.out.2.1 hR;clear hR c5 c6 z1 z0 k1 k2 k3 k6 k12 hk1 hk2 hoe k4
    go_wp2_with ((with_reducible apply BO #[(0, .agg #[(src:aV), .int .u8 3, (yk.promised:aV), .int .u64 0, .int .i64 0, .int .i64 0, .slice none 0 0])] rfl);exact AaP.out;simp only [Act.put,lsa,lsz,lss])
    refine how.out.mono ?_;rintro e w5 ⟨rfl,rfl⟩;go_wp2_with fail;go_ret;exact ⟨_,O4,rfl,hF.out.1,by rw [<-hF.out.2.2];exact AaA.nil _ _,by rw [<-hF.out.2.2];exact hF.out.2.1⟩
   | true =>
    rw [if_neg bu] at hR;have c2:W4.drew.cell? (aW p 2)=some (yk.promised:aV):=by
     obtain ⟨lk5,ro5,mi5,hv5,pv5,mv5,ba5,re5,hp, -⟩:=(hH.out.step0 (aj.refl ai W4 O4).drew).2.1;exact ag hp 2
    have Aho:=aI z1 c2
    by_cases g5:mm.e.toNat<yk.promised.toNat
    ·have g5I:(mm.e.toNat:Int)<(yk.promised.toNat:Int):=aP
     rw [if_pos g5] at hR;have hV:=hH.out.step0 (aj.refl ai W4 O4).drew;have hF:=aa4 hV.1 hV.2.1 hV.2.2.2.2 hR;clear hR c5 c6 z1 z0 k1 k2 k3 k6 k12 hk1 hk2 hoe c2 hV g5 k4
     go_wp2_with ((with_reducible apply BO #[(0, .agg #[(src:aV), .int .u8 3, (yk.promised:aV), .int .u64 0, .int .i64 0, .int .i64 0, .slice none 0 0])] rfl);exact AaP.out;simp only [Act.put,lsa,lsz,lss])
     refine how.out.mono ?_;rintro e w5 ⟨rfl,rfl⟩;go_wp2_with fail;refine Aa (fun w'=>w'.cell? (aW mb 1)=some (mm.e:aV)/\w'.cell? (aW p 2)=some (yk.promised:aV)) (fun _=>true) bf Aho (fun hHeld => ?_);refine tq 0 (h:=tq 1 (h:=tq 2 (h:=tq 3 (h:=tq 4 (h:=tq 5 (h:=tq 6 (h:=tq 7 (h:=tD (h:=?_)))))))));clear hHeld Aho;go_wp2_with fail;go_ret;exact ⟨_,O4,rfl,hF.out.1,by rw [<-hF.out.2.2.2];exact hF.out.2.2.1,by rw [<-hF.out.2.2.2];exact hF.out.2.1⟩
    ·have g5I:¬ (mm.e.toNat:Int)<(yk.promised.toNat:Int):=aP
     rw [if_neg g5] at hR;have hV:=hH.out.step0 (aj.refl ai W4 O4).drew;have hcn:=AgY hV.2.1 hY hN1.out src mm hV.2.2.2.1 hK.out.1.n1;rw [show Aj.Agk ⟨I,N,yk,BB,wt,E,Co⟩ src mm=R from hR] at hcn;have hcn:=ae (show Calls prog 67 #[.pointer p, (src:aV), .agg #[.int .u8 (mm.k:Int), (mm.e:aV), (mm.c:aV), (mm.at':aV), (mm.com:aV), .slice la ln lc]] W4.drew (XL (ak Y) W4.drew O4 fun v w' o'=>AaA w' o' v R.2/\AaB w' o' Y p R.1) from hcn);have Ajf:=ae (show (Instr.loadAt 46 (.pointer mb)).run prog W4.drew = .ok (.agg #[.int .u8 (mm.k:Int), (mm.e:aV), (mm.c:aV), (mm.at':aV), (mm.com:aV), .slice la ln lc]) W4.drew from Ip (AV hV.2.2.1.1) rfl);have hst:=ae hV.1;have e4:((mm.k:Int) == 4)=true:=by simp;omega
     clear hR c5 c6 z1 k1 k2 k3 k6 k12 hk1 hk2 hoe c2 hV g5 k4
     go_wp2_with ((with_reducible apply BO #[(0, .agg #[(src:aV), .int .u8 3, (yk.promised:aV), .int .u64 0, .int .i64 0, .int .i64 0, .slice none 0 0])] rfl);exact AaP.out;simp only [Act.put,lsa,lsz,lss])
     refine how.out.mono ?_;rintro e w5 ⟨rfl,rfl⟩;go_wp2_with fail;refine Aa (fun w'=>w'.cell? (aW mb 1)=some (mm.e:aV)/\w'.cell? (aW p 2)=some (yk.promised:aV)) (fun _=>true) bf Aho (fun hHeld => ?_);refine tq 0 (h:=tq 1 (h:=tq 2 (h:=tq 3 (h:=tq 4 (h:=tq 5 (h:=tq 6 (h:=tq 7 (h:=tD (h:=?_)))))))));clear hHeld Aho
     go_wp2_with ((with_reducible apply Bo);exact Ajf.out;simp only [Act.put,lsa,lsz,lss])
     refine hcn.out.mono ?_;rintro e w6 ⟨v6,o6,rfl,hs6,ht6,hr6⟩;have hF:=aa3 (hst.out.trans hs6) ht6 hr6;clear hs6 ht6 hr6;go_wp2_with fail;go_ret;exact ⟨_,o6,rfl,hF.out.1,hF.out.2.1,hF.out.2.2⟩
  have k5:mm.k=5:=by have:=hK.out.1.k1;have:=hK.out.1.k6;omega
  have hR:=hRK.out;unfold Aj.Ec at hR;rw [if_neg hk1,if_neg hk2,if_neg k3,if_neg k4,if_pos k5] at hR;unfold Aj.BF at hR;have how:=ae (AeU hH.out.2.1 (aI hN1.out.n1 hN1.out.n3) src mm.e);have z0:W4.drew.cell? mb=some (.int .u8 (mm.k:Int)):=ag (hH.out.step0 (aj.refl ai W4 O4).drew).2.2.1.1 0;have z1w:W4.cell? (aW mb 1)=some (mm.e:aV):=ag hH.out.2.2.1.1 1;obtain ⟨ow,hoe⟩:=az (Aj.owns ⟨I,N,yk,BB,wt,E,Co⟩ src mm.e);rw [hoe] at how hR;have e1:((mm.k:Int) == 1)=false:=by simp;omega
  have e2:((mm.k:Int) == 2)=false:=by simp;omega
  have e3:((mm.k:Int) == 3)=false:=by simp;omega
  have e6:((mm.k:Int) == 6)=false:=by simp;omega
  cases ow with
  | false =>
   rw [if_pos (by rfl)] at hR;have hF:=aa3 hH.out.1 hH.out.2.1 hR;clear hR c5 c6 z1 z0 k1 k2 k3 k6 k12 hk1 hk2 hoe k4 k5
   go_wp2_with ((with_reducible apply BO #[(0, .agg #[(src:aV), .int .u8 3, (yk.promised:aV), .int .u64 0, .int .i64 0, .int .i64 0, .slice none 0 0])] rfl);exact AaP.out;simp only [Act.put,lsa,lsz,lss])
   refine how.out.mono ?_;rintro e w5 ⟨rfl,rfl⟩;go_wp2_with fail;go_ret;exact ⟨_,O4,rfl,hF.out.1,by rw [<-hF.out.2.2];exact AaA.nil _ _,by rw [<-hF.out.2.2];exact hF.out.2.1⟩
  | true =>
   rw [if_neg bu] at hR;have c2:W4.drew.cell? (aW p 2)=some (yk.promised:aV):=by
    obtain ⟨lk5,ro5,mi5,hv5,pv5,mv5,ba5,re5,hp, -⟩:=(hH.out.step0 (aj.refl ai W4 O4).drew).2.1;exact ag hp 2
   have Aho:=aI z1 c2
   by_cases g5:mm.e.toNat<yk.promised.toNat
   ·have g5I:(mm.e.toNat:Int)<(yk.promised.toNat:Int):=aP
    rw [if_pos g5] at hR;have hV:=hH.out.step0 (aj.refl ai W4 O4).drew;have hF:=aa4 hV.1 hV.2.1 hV.2.2.2.2 hR;clear hR c5 c6 z1 z0 k1 k2 k3 k6 k12 hk1 hk2 hoe c2 hV g5 k4 k5
    go_wp2_with ((with_reducible apply BO #[(0, .agg #[(src:aV), .int .u8 3, (yk.promised:aV), .int .u64 0, .int .i64 0, .int .i64 0, .slice none 0 0])] rfl);exact AaP.out;simp only [Act.put,lsa,lsz,lss])
    refine how.out.mono ?_;rintro e w5 ⟨rfl,rfl⟩;go_wp2_with fail;refine Aa (fun w'=>w'.cell? (aW mb 1)=some (mm.e:aV)/\w'.cell? (aW p 2)=some (yk.promised:aV)) (fun _=>true) bf Aho (fun hHeld => ?_);refine tq 0 (h:=tq 1 (h:=tq 2 (h:=tq 3 (h:=tq 4 (h:=tq 5 (h:=tq 6 (h:=tq 7 (h:=tD (h:=?_)))))))));clear hHeld Aho;go_wp2_with fail;go_ret;exact ⟨_,O4,rfl,hF.out.1,by rw [<-hF.out.2.2.2];exact hF.out.2.2.1,by rw [<-hF.out.2.2.2];exact hF.out.2.1⟩
   ·have g5I:¬ (mm.e.toNat:Int)<(yk.promised.toNat:Int):=aP
    rw [if_neg g5] at hR;have hV:=hH.out.step0 (aj.refl ai W4 O4).drew;have hcn:=AhH hV.2.1 hY hN1.out src mm hV.2.2.2.1 hK.out.1.n1 hK.out.1.a1 hK.out.1.o1;rw [show Aj.AhJ ⟨I,N,yk,BB,wt,E,Co⟩ src mm=R from hR] at hcn;have hcn:=ae (show Calls prog 68 #[.pointer p, (src:aV), .agg #[.int .u8 (mm.k:Int), (mm.e:aV), (mm.c:aV), (mm.at':aV), (mm.com:aV), .slice la ln lc]] W4.drew (XL (ak Y) W4.drew O4 fun v w' o'=>AaA w' o' v R.2/\AaB w' o' Y p R.1) from hcn);have Ajf:=ae (show (Instr.loadAt 46 (.pointer mb)).run prog W4.drew = .ok (.agg #[.int .u8 (mm.k:Int), (mm.e:aV), (mm.c:aV), (mm.at':aV), (mm.com:aV), .slice la ln lc]) W4.drew from Ip (AV hV.2.2.1.1) rfl);have hst:=ae hV.1;have e4:((mm.k:Int) == 4)=false:=by simp;omega
    clear hR c5 c6 z1 k1 k2 k3 k6 k12 hk1 hk2 hoe c2 hV g5 k4 k5
    go_wp2_with ((with_reducible apply BO #[(0, .agg #[(src:aV), .int .u8 3, (yk.promised:aV), .int .u64 0, .int .i64 0, .int .i64 0, .slice none 0 0])] rfl);exact AaP.out;simp only [Act.put,lsa,lsz,lss])
    refine how.out.mono ?_;rintro e w5 ⟨rfl,rfl⟩;go_wp2_with fail;refine Aa (fun w'=>w'.cell? (aW mb 1)=some (mm.e:aV)/\w'.cell? (aW p 2)=some (yk.promised:aV)) (fun _=>true) bf Aho (fun hHeld => ?_);refine tq 0 (h:=tq 1 (h:=tq 2 (h:=tq 3 (h:=tq 4 (h:=tq 5 (h:=tq 6 (h:=tq 7 (h:=tD (h:=?_)))))))));clear hHeld Aho
    go_wp2_with ((with_reducible apply Bo);exact Ajf.out;simp only [Act.put,lsa,lsz,lss])
    refine hcn.out.mono ?_;rintro e w6 ⟨v6,o6,rfl,hs6,ht6,hr6⟩;have hF:=aa3 (hst.out.trans hs6) ht6 hr6;clear hs6 ht6 hr6;go_wp2_with fail;go_ret;exact ⟨_,o6,rfl,hF.out.1,hF.out.2.1,hF.out.2.2⟩
section
variable {H:Type} {enc:TypeId × Value->H} {W:World}
theorem bytes_of_nums:∀ (l:List Int),(∀ a ∈ l,(Lit.int .u8 a).wf=true)->l.map (Value.int .u8)=bvs (l.map fun a=>UInt8.ofNat a.toNat)
 | [],_=>rfl
 | a :: r,h=>by
  have h1:=Go.bounds_u8 (h a bu);have ih:=bytes_of_nums r (fun x hx=>h x (List.mem_cons_of_mem _ hx));rw [List.map_cons,ih];have:Value.int .u8 a=bv (UInt8.ofNat a.toNat):=by
   unfold bv;rw [UInt8.toNat_ofNat'];congr 1;omega
  rw [this];rfl
theorem JR {x:DataW H × List MemPlace} (h:DataW.trod enc prog W 0 (fun _=>true) true fuel 23 [v]=some x):∃ l:List UInt8,Bytes W (fun _=>(0,0)) v l:=by
 obtain ⟨l,h1,h2⟩:=YA underlying23 underlying5 bf h;refine ⟨l.map fun a=>UInt8.ofNat a.toNat, ?_⟩;unfold Bytes;rw [List.length_map, <-bytes_of_nums l h2];exact h1
theorem pair_cells (n:Nat) (f g:Nat->Value) (b off:Nat) (h:∀ i,i<n->W.rangeAt b (off+i*2) [f i,g i]):W.rangeAt b off ((List.range (n*2)).map fun j=>if j % 2=0 then f (j / 2) else g (j / 2)):=by
 intro j v hj;simp only [List.getElem?_map,Option.map_eq_some_iff] at hj;obtain ⟨j',hj',rfl⟩:=hj;obtain ⟨hjl,hje⟩:=List.getElem?_eq_some_iff.1 hj';simp only [List.getElem_range] at hje;simp only [List.length_range] at hjl;subst hje;have hi:j / 2<n:=aP
 by_cases hp:j % 2=0
 ·rw [if_pos hp];have:=h (j / 2) hi 0 _ rfl
  rwa [show off+j / 2*2+0=off+j by omega] at this
 ·rw [if_neg hp];have:=h (j / 2) hi 1 _ rfl
  rwa [show off+j / 2*2+1=off+j by omega] at this
theorem UN {x:DataW H × List MemPlace} (h:DataW.trod enc prog W 0 (fun _=>true) true fuel 32 [v]=some x):∃ l:List Ar,Lines W (fun _=>(0,0)) 0 v l:=by
 have Bbi:prog.cellsOf 36=2:=bf
 have c36:prog.cellsOf 34=1:=bf
 have c28:prog.cellsOf 23=1:=bf
 rcases Lu underlying32 aP h with ⟨a,c,rfl⟩ | ⟨b,off,len,cap,rfl,h0,hlc,hcm,hb,hel⟩
 ·exact ⟨[],[], .inl ⟨⟨a,c,rfl⟩,rfl,rfl⟩,sW.nil _ _,CV.zero _,bu⟩
 ·obtain ⟨l,hl,hr⟩:=Ir (fun i (m:Ar × Value)=>W.rangeAt b (off+i*2) [(m.1.e:aV),m.2]/\Bytes W (fun _=>(0,0)) m.2 m.1.b) len (fun i hi=>by
   obtain ⟨cs',k1,k2,n,y,k3⟩:=hel i aP;rw [Bbi] at k1 k2;obtain ⟨xs,n',_,_,_,hxs,hf⟩:=DataW.trod_struct underlying36 k3
   match cs',k1 with
   | [v0,v1],_ =>
    have f0:DataW.trod enc prog W 0 (fun _=>true) true n' 34 (([v0,v1].drop 0).take (prog.cellsOf 34))=xs[0]?:=hf 0 _ rfl;have f1:DataW.trod enc prog W 0 (fun _=>true) true n' 23 (([v0,v1].drop 1).take (prog.cellsOf 23))=xs[1]?:=hf 1 _ rfl;have hsz:xs.length=2:=hxs;simp only [c36,c28,List.drop_zero,List.take_succ_cons,List.take_zero,List.drop_succ_cons] at f0 f1;rw [List.getElem?_eq_getElem aP] at f0 f1;obtain ⟨a0,e0,_,w0⟩:=DataW.trod_int underlying34 f0;obtain ⟨bs,hbs⟩:=JR f1;simp only [List.cons.injEq,and_true] at e0;have b0:=Go.bounds_u64 w0;have hb0:(((BitVec.ofNat 64 a0.toNat).toNat:Nat):Int)=a0:=by rw [BitVec.toNat_ofNat];omega
    subst e0;exact ⟨(⟨BitVec.ofNat 64 a0.toNat,bs⟩,v1),by simp only [hb0];exact k2,hbs⟩)
  have hget:∀ i (hi:i<len),l[i]?=some (l[i]'aP):=fun i hi=>List.getElem?_eq_getElem aP;refine ⟨l.map Prod.fst,(List.range (len*2)).map fun j=>if j % 2=0 then .int .u64 (((l.map Prod.fst).getD (j / 2) ⟨0,[]⟩).e.toNat:Int) else (l.map Prod.snd).getD (j / 2) undef, ?_,⟨by simp [hl];omega,fun i x hx => ?_⟩,CV.zero _,fun u _=>CV.zero u⟩
  ·refine .inr ⟨b,off,cap,by rw [List.length_map,hl],by rw [List.length_map];omega,hcm,rfl,hb,pair_cells len (fun i => .int .u64 (((l.map Prod.fst).getD i ⟨0,[]⟩).e.toNat:Int)) (fun i=>(l.map Prod.snd).getD i undef) b off fun i hi => ?_⟩;have:=(hr i aP).1;simp only [List.getD_eq_getElem?_getD,List.getElem?_map,hget i hi,Option.map_some,Option.getD_some];exact this
  ·have hi:i<len:=by have:=(List.getElem?_eq_some_iff.1 hx).1;simp [hl] at this;exact this
   have e1:(l.map Prod.fst)[i]?=some (l[i]'aP).1:=by rw [List.getElem?_map,hget i hi];rfl
   have e2:(l.map Prod.snd)[i]?=some (l[i]'aP).2:=by rw [List.getElem?_map,hget i hi];rfl
   rw [e1] at hx
   cases hx
   refine ⟨?_,(l[i]'aP).2, ?_,(hr i aP).2⟩
   ·rw [List.getElem?_map,List.getElem?_range aP];simp only [Option.map_some];rw [if_pos aP,show 2*i / 2=i by omega,List.getD_eq_getElem?_getD,e1];rfl
   ·rw [List.getElem?_map,List.getElem?_range aP];simp only [Option.map_some];rw [if_neg aP,show (2*i+1) / 2=i by omega,List.getD_eq_getElem?_getD,e2];rfl
end
structure Eo where
 k:Nat
 src:Int
 m:CP
 b:List UInt8
structure Eo.Wf (x:Eo):Prop where
 k:x.k<256
 src : -9223372036854775808<=x.src/\x.src<=9223372036854775807
 kind:x.m.k<256
 at' : -9223372036854775808<=x.m.at'/\x.m.at'<=9223372036854775807
 com : -9223372036854775808<=x.m.com/\x.m.com<=9223372036854775807
def FH (x:Eo) (lv bv:Value):List Value:=[.int .u8 (x.k:Int), .int .i64 x.src, .int .u8 (x.m.k:Int), (x.m.e:aV), (x.m.c:aV), .int .i64 x.m.at', .int .i64 x.m.com,lv,bv]
def Ii (w:World) (o:Own) (v:Value) (l:List Eo):Prop:=
 ((∃ a c,v = .slice a 0 c)/\l=[]) \/ ∃ b:Nat,∃ off cap,v = .slice (some (aW b off)) l.length cap/\l.length<=cap/\cap<=maxLen/\(o b).1=0/\b<w.heap.size /\
  ∀ i (h:i<l.length),l[i].Wf/\∃ lv bv,w.rangeAt b (off+i*9) (FH l[i] lv bv)/\Lines w o 0 lv l[i].m.ls/\Bytes w o bv l[i].b
theorem Ii.step {T:Nat->Prop} {w':World} {o':Own} {l:List Eo} (h:Ii w o v l) (s:aj T w o w' o') (hT:¬ T 0):Ii w' o' v l:=by
 rcases h with h | ⟨b,off,cap,hv,hl,hm,ho,hb,hr⟩
 ·exact .inl h
 ·refine .inr ⟨b,off,cap,hv,hl,hm,by rw [s.own b hb];exact ho,Nat.lt_of_lt_of_le hb s.size,fun i hi => ?_⟩;obtain ⟨h1,lv,bv,h2,h3,h4⟩:=hr i hi;exact ⟨h1,lv,bv,Cf h2 (s.block b hb (by rw [ho];exact hT)),h3.step s hT,h4.step s hT⟩
theorem Ii.form {l:List Eo} (h:Ii w o v l):∃ a c,v = .slice a l.length c:=by
 rcases h with ⟨⟨a,c,rfl⟩,rfl⟩ | ⟨b,off,cap,rfl,_⟩ <;> exact ⟨_,_,rfl⟩
theorem Ii.at {l:List Eo} (h:Ii w o (.slice a n c) l) {i:Nat} {x:Eo} (hx:l[i]?=some x) :
  ∃ b off lv bv,a=some ⟨b,off,none⟩/\w.rangeAt b (off+i*9) (FH x lv bv)/\Lines w o 0 lv x.m.ls/\Bytes w o bv x.b/\x.Wf/\b<w.heap.size/\(o b).1=0:=by
 obtain ⟨hi,rfl⟩:=List.getElem?_eq_some_iff.1 hx
 rcases h with ⟨_,rfl⟩ | ⟨b,off,cap,hv,hl,hm,ho,hb,hr⟩
 ·simp at hi
 ·simp only [Value.slice.injEq] at hv;obtain ⟨rfl,rfl,rfl⟩:=hv;obtain ⟨h1,lv,bv,h2,h3,h4⟩:=hr i hi;exact ⟨b,off,lv,bv,rfl,h2,h3,h4,h1,hb,ho⟩
section
variable {H:Type} {enc:TypeId × Value->H} {W:World}
theorem Oq {x:DataW H × List MemPlace} (h:DataW.trod enc prog W 0 (fun _=>true) true fuel 39 [v]=some x):∃ l:List Eo,Ii W (fun _=>(0,0)) v l:=by
 have c48:prog.cellsOf 48=9:=bf
 have c46:prog.cellsOf 46=6:=bf
 have c5:prog.cellsOf 5=1:=bf
 have c3:prog.cellsOf 3=1:=bf
 have c34:prog.cellsOf 34=1:=bf
 have c32:prog.cellsOf 32=1:=bf
 have c23:prog.cellsOf 23=1:=bf
 rcases Lu underlying39 aP h with ⟨a,c,rfl⟩ | ⟨b,off,len,cap,rfl,h0,hlc,hcm,hb,hel⟩
 ·exact ⟨[], .inl ⟨⟨a,c,rfl⟩,rfl⟩⟩
 ·obtain ⟨l,hl,hr⟩:=Ir (fun i (m:Eo)=>m.Wf/\∃ lv bv,W.rangeAt b (off+i*9) (FH m lv bv)/\Lines W (fun _=>(0,0)) 0 lv m.m.ls/\Bytes W (fun _=>(0,0)) bv m.b) len (fun i hi=>by
   obtain ⟨cs',k1,k2,n,y,k3⟩:=hel i aP;rw [c48] at k1 k2;obtain ⟨xs,n',_,_,_,hxs,hf⟩:=DataW.trod_struct underlying48 k3
   match cs',k1 with
   | [v0,v1,v2,v3,v4,v5,v6,v7,v8],_ =>
    have f0:DataW.trod enc prog W 0 (fun _=>true) true n' 5 (([v0,v1,v2,v3,v4,v5,v6,v7,v8].drop 0).take (prog.cellsOf 5))=xs[0]?:=hf 0 _ rfl;have f1:DataW.trod enc prog W 0 (fun _=>true) true n' 3 (([v0,v1,v2,v3,v4,v5,v6,v7,v8].drop 1).take (prog.cellsOf 3))=xs[1]?:=hf 1 _ rfl;have f2:DataW.trod enc prog W 0 (fun _=>true) true n' 46 (([v0,v1,v2,v3,v4,v5,v6,v7,v8].drop 2).take (prog.cellsOf 46))=xs[2]?:=hf 2 _ rfl;have f3:DataW.trod enc prog W 0 (fun _=>true) true n' 23 (([v0,v1,v2,v3,v4,v5,v6,v7,v8].drop 8).take (prog.cellsOf 23))=xs[3]?:=hf 3 _ rfl;have hsz:xs.length=4:=hxs;simp only [c5,c3,c46,c23,List.drop_zero,List.take_succ_cons,List.take_zero,List.drop_succ_cons] at f0 f1 f2 f3;rw [List.getElem?_eq_getElem aP] at f0 f1 f2 f3;obtain ⟨ys,n2,_,_,_,hys,hg⟩:=DataW.trod_struct underlying46 f2;have g0:DataW.trod enc prog W 0 (fun _=>true) true n2 5 (([v2,v3,v4,v5,v6,v7].drop 0).take (prog.cellsOf 5))=ys[0]?:=hg 0 _ rfl;have g1:DataW.trod enc prog W 0 (fun _=>true) true n2 34 (([v2,v3,v4,v5,v6,v7].drop 1).take (prog.cellsOf 34))=ys[1]?:=hg 1 _ rfl;have g2:DataW.trod enc prog W 0 (fun _=>true) true n2 34 (([v2,v3,v4,v5,v6,v7].drop 2).take (prog.cellsOf 34))=ys[2]?:=hg 2 _ rfl;have g3:DataW.trod enc prog W 0 (fun _=>true) true n2 3 (([v2,v3,v4,v5,v6,v7].drop 3).take (prog.cellsOf 3))=ys[3]?:=hg 3 _ rfl;have g4:DataW.trod enc prog W 0 (fun _=>true) true n2 3 (([v2,v3,v4,v5,v6,v7].drop 4).take (prog.cellsOf 3))=ys[4]?:=hg 4 _ rfl;have g5:DataW.trod enc prog W 0 (fun _=>true) true n2 32 (([v2,v3,v4,v5,v6,v7].drop 5).take (prog.cellsOf 32))=ys[5]?:=hg 5 _ rfl;have hsy:ys.length=6:=hys;simp only [c5,c3,c34,c32,List.drop_zero,List.take_succ_cons,List.take_zero,List.drop_succ_cons] at g0 g1 g2 g3 g4 g5;rw [List.getElem?_eq_getElem aP] at g0 g1 g2 g3 g4 g5;obtain ⟨a0,e0,_,w0⟩:=DataW.trod_int underlying5 f0;obtain ⟨a1,e1,_,w1⟩:=DataW.trod_int underlying3 f1;obtain ⟨bs,hbs⟩:=JR f3;obtain ⟨m0,d0,_,x0⟩:=DataW.trod_int underlying5 g0;obtain ⟨m1,d1,_,x1⟩:=DataW.trod_int underlying34 g1;obtain ⟨m2,d2,_,x2⟩:=DataW.trod_int underlying34 g2;obtain ⟨m3,d3,_,x3⟩:=DataW.trod_int underlying3 g3;obtain ⟨m4,d4,_,x4⟩:=DataW.trod_int underlying3 g4;obtain ⟨ls,hls⟩:=UN g5;simp only [List.cons.injEq,and_true] at e0 e1 d0 d1 d2 d3 d4;have b0:=Go.bounds_u8 w0;have b1:=Go.bounds_i64 w1;have q0:=Go.bounds_u8 x0;have q1:=Go.bounds_u64 x1;have q2:=Go.bounds_u64 x2;have q3:=Go.bounds_i64 x3;have q4:=Go.bounds_i64 x4;have hb0:((a0.toNat:Nat):Int)=a0:=aP
    have hm0:((m0.toNat:Nat):Int)=m0:=aP
    have hm1:(((BitVec.ofNat 64 m1.toNat).toNat:Nat):Int)=m1:=by rw [BitVec.toNat_ofNat];omega
    have hm2:(((BitVec.ofNat 64 m2.toNat).toNat:Nat):Int)=m2:=by rw [BitVec.toNat_ofNat];omega
    subst e0 e1 d0 d1 d2 d3 d4;exact ⟨⟨a0.toNat,a1,⟨m0.toNat,BitVec.ofNat 64 m1.toNat,BitVec.ofNat 64 m2.toNat,m3,m4,ls⟩,bs⟩,⟨by show a0.toNat<256;omega,b1,by show m0.toNat<256;omega,q3,q4⟩,v7,v8,by unfold FH;simp only [hb0,hm0,hm1,hm2];exact k2,hls,hbs⟩)
  exact ⟨l, .inr ⟨b,off,cap,by rw [hl],aP,hcm,rfl,hb,hr⟩⟩
end
def Eo.size (x:Eo):Nat:=AP x.m.ls+x.b.length
def DU (l:List Eo):Nat:=(l.map Eo.size).sum
theorem IA (a b:List Eo):DU (a++b)=DU a+DU b:=by simp [DU]
structure iM (l:List Eo):Prop where
 n:l.length<=40
 a:∀ x ∈ l,x.m.ls.length<=40/\x.b.length<=5000/\∀ y ∈ x.m.ls,y.b.length<=200
 s:DU l<=30000
def XB (x:Eo):Prop:=x.m.ls.length<=40/\x.b.length<=5000/\∀ y ∈ x.m.ls,y.b.length<=200
theorem Ju (h:∀ y ∈ ls,y.b.length<=200):AP ls<=200*ls.length:=by
 induction ls with
 | nil=>simp [AP]
 | cons a t ih =>
  have h1:=ih (fun y hy=>h y (List.mem_cons_of_mem _ hy));have h2:=h a List.mem_cons_self;have h3:AP (a :: t)=a.b.length+AP t:=by simp [AP]
  rw [h3,List.length_cons];omega
theorem UB {l:List Eo} (h:∀ x ∈ l,XB x):DU l<=13000*l.length:=by
 induction l with
 | nil=>simp [DU]
 | cons a t ih =>
  have h1:=ih (fun y hy=>h y (List.mem_cons_of_mem _ hy));obtain ⟨g1,g2,g3⟩:=h a List.mem_cons_self;have h2:=Ju g3;have h3:DU (a :: t)=AP a.m.ls+a.b.length+DU t:=by simp [DU,Eo.size]
  rw [h3,List.length_cons];omega
def bV (l:List Eo) (v:Value):Prop:=∃ r,v = .bool r/\(r=false->iM l)
theorem SE {k:Nat} (h:sH w o (.slice a n c) k cs):n=k/\k<=maxLen:=by
 rcases h with ⟨⟨a',c',hv⟩,h0, -⟩ | ⟨b,off,cap,hv,hl,hm, -⟩
 ·simp only [Value.slice.injEq] at hv;exact ⟨aP,aP⟩
 ·simp only [Value.slice.injEq] at hv;exact ⟨aP,aP⟩
theorem OA {l:List Eo} (h:Ii w o v l) :
  Calls prog 17 #[v] w (XL ai w o fun v _ _=>bV l v):=by
 obtain ⟨aa,ac,rfl⟩:=h.form;obtain ⟨N,hN⟩:=az (l.length)
 by_cases hbig:40<N
 ·rw [hN];have hbI:(40:Int)<(N:Int):=aP
  clear h hN;go_enter func17,ntmps17;go_wp2_with fail;go_ret;exact ⟨_,o,rfl,aj.refl _ _ _,true,rfl,fun h=>by cases h⟩
 rw [hN] at h ⊢;have hbI:¬ (40:Int)<(N:Int):=aP
 have hNI:(0:Int)<=(N:Int)/\(N:Int)<=40:=aP
 have hH:=ae h;have hNH:=ae hN;clear h hN hbig;go_enter func17,ntmps17;go_wp2_with fail
 go_loopw [3,4,5] (fun nv i kv wr=>∃ (k:Nat),k<=N/\i = .int .i64 k/\nv = .int .i64 ((DU (l.take k):Nat):Int)/\(∀ x ∈ l.take k,XB x)/\wr=w) (fun _ i _ _=>N - (intOf i).toNat)
 case atStart=>exact ⟨0,Nat.zero_le _,rfl,rfl,bu,rfl⟩
 case round =>
  obtain ⟨k,hk,rfl,rfl,hall,hwr⟩:=hrel;subst hwr;obtain ⟨Sz,hSz⟩:=az (DU (l.take k));have AyO:Sz<=520000:=by
   have h1:=UB hall;rw [hSz,List.length_take] at h1;omega
  have hSI:(0:Int)<=(Sz:Int)/\(Sz:Int)<=520000:=aP
  rw [hSz];have pR:=ae hall;have AvS:=ae hSz;clear hall AyO hSz
  by_cases hlt:k<N
  ·have AbY:(0:Int)<=(k:Int)/\(k:Int)<(N:Int):=aP
   obtain ⟨x,hx⟩:∃ x,l[k]?=some x:=⟨_,List.getElem?_eq_getElem (by rw [hNH.out];exact hlt)⟩;obtain ⟨b,off,lv,bw,rfl,hrg,hln,hby, -, -, -⟩:=hH.out.at hx;obtain ⟨la,lc,rfl⟩:=hln.form;obtain ⟨ya,yc,rfl⟩:=Aq hby;have cL:wr.cell? (aW b (off+k*9+7))=some (.slice la x.m.ls.length lc):=hrg 7 _ rfl;have cB:wr.cell? (aW b (off+k*9+8))=some (.slice ya x.b.length yc):=hrg 8 _ rfl;have hxH:=ae hx;obtain ⟨L,hL⟩:=az (x.m.ls.length);obtain ⟨Y,hY⟩:=az (x.b.length);have hLm:L<=maxLen:=by
    obtain ⟨cs,hs, -⟩:=hln;have:=(SE hs).2;omega
   have hYm:Y<=maxLen:=by
    have:=(SE hby).2;omega
   rw [hL] at cL hln;rw [hY] at cB;simp only [maxLen] at hLm hYm;have hLI:(0:Int)<=(L:Int)/\(L:Int)<=9223372036854775807/\(0:Int)<=(Y:Int)/\(Y:Int)<=9223372036854775807:=aP
   have hLH:=aa2 hL hY;have Akk:=ae hln;clear hrg hby hx hln hL hY hLm hYm
   by_cases h40:40<L
   ·have Awh:decide ((40:Int)<(L:Int))=true:=decide_eq_true aP;go_wp2_with fail;go_ret;exact ⟨_,o,rfl,aj.refl _ _ _,true,rfl,fun h=>by cases h⟩
   by_cases h50:5000<Y
   ·have Awh:decide ((40:Int)<(L:Int))=false:=decide_eq_false aP;have BaQ:decide ((5000:Int)<(Y:Int))=true:=decide_eq_true aP;go_wp2_with fail;go_ret;exact ⟨_,o,rfl,aj.refl _ _ _,true,rfl,fun h=>by cases h⟩
   have Awh:decide ((40:Int)<(L:Int))=false:=decide_eq_false aP;have BaQ:decide ((5000:Int)<(Y:Int))=false:=decide_eq_false aP;go_wp2_with fail
   go_loopw [3,5] (fun nv j wr2=>∃ (q:Nat),q<=L/\j = .int .i64 q/\nv = .int .i64 ((Sz+AP (x.m.ls.take q):Nat):Int)/\(∀ y ∈ x.m.ls.take q,y.b.length<=200)/\wr2=wr) (fun _ j _=>L - (intOf j).toNat)
   case atStart=>exact ⟨0,Nat.zero_le _,rfl,by simp [AP],bu,rfl⟩
   case round =>
    obtain ⟨q,hq,rfl,rfl,AlD,hwr2⟩:=hrel;subst hwr2;obtain ⟨Z,hZ⟩:=az (Sz+AP (x.m.ls.take q));have hZb:Z<=560000:=by
     have h1:=Ju AlD;rw [List.length_take] at h1;omega
    have hZI:(0:Int)<=(Z:Int)/\(Z:Int)<=560000:=aP
    rw [hZ];have yV:=ae AlD;have hZH:=ae hZ;clear AlD hZ hZb
    by_cases hq2:q<L
    ·have AyX:(q:Int)<(L:Int):=aP
     obtain ⟨y,hy⟩:∃ y,x.m.ls[q]?=some y:=⟨_,List.getElem?_eq_getElem (by rw [hLH.out.1];exact hq2)⟩;obtain ⟨b2,off2,bv,rfl,hrg2,AbO, -⟩:=Akk.out.at hy;obtain ⟨ba,bc,rfl⟩:=Aq AbO;have cY:wr.cell? (aW b2 (off2+q*2+1))=some (.slice ba y.b.length bc):=hrg2 1 _ rfl;have hym:=(SE AbO).2;obtain ⟨K,hK⟩:=az (y.b.length);rw [hK] at cY hym;simp only [maxLen] at hym;have hKI:(0:Int)<=(K:Int)/\(K:Int)<=9223372036854775807:=aP
     have hyH:=aa2 hy hK;clear hrg2 AbO hy hK hym
     by_cases VC:200<K
     ·have Awi:(200:Int)<(K:Int):=aP
      go_wp2_with fail;go_ret;exact ⟨_,o,rfl,aj.refl _ _ _,true,rfl,fun h=>by cases h⟩
     ·have Awi:¬ (200:Int)<(K:Int):=aP
      have Ats:IntKind.i64.wrap ((Z:Int)+(K:Int))=(Z:Int)+(K:Int):=IntWalk.i64_in _ aP;go_wp2_with fail;go_roundw
      case rel=>exact ⟨q+1,aP,by go_num,by
       have h2:AP [y]=K:=by rw [<-hyH.out.2];simp [AP]
       rw [List.take_add_one,hyH.out.1,DV];simp only [Option.toList_some,h2, <-hZH.out];congr 1;omega,fun z hz=>(by
        rw [List.take_add_one,hyH.out.1] at hz
        rcases List.mem_append.1 hz with hz | hz
        ·exact yV.out z hz
        ·simp at hz;subst hz;rw [hyH.out.2];omega),(by first | trivial | rfl)⟩
      case measure=>simp [intOf];omega
    ·obtain rfl:q=L:=aP
     have Afo:AP x.m.ls=Z - Sz/\Sz<=Z:=by
      have:=hZH.out;rw [List.take_of_length_le (by rw [hLH.out.1];omega)] at this;omega
     have Ats:IntKind.i64.wrap ((Z:Int)+(Y:Int))=(Z:Int)+(Y:Int):=IntWalk.i64_in _ aP;have AyX:¬ (q:Int)<(q:Int):=aP
     have Arf:=ae Afo;clear Afo;go_wp2_with fail;go_roundw
     case rel=>exact ⟨k+1,aP,by go_num,by
      rw [List.take_add_one,hxH.out,IA,AvS.out];have h1:=Arf.out;have h2:DU [x]=AP x.m.ls+x.b.length:=by simp [DU,Eo.size]
      simp only [Option.toList_some,h2,hLH.out.2];congr 2;omega,fun z hz=>(by
       rw [List.take_add_one,hxH.out] at hz
       rcases List.mem_append.1 hz with hz | hz
       ·exact pR.out z hz
       ·simp at hz;subst hz;refine ⟨by rw [hLH.out.1];omega,by rw [hLH.out.2];omega,fun y hy=>yV.out y ?_⟩;rw [List.take_of_length_le (by rw [hLH.out.1];omega)];exact hy),(by first | trivial | rfl)⟩
     case measure=>simp [intOf];omega
  ·obtain rfl:k=N:=aP
   have hfin:DU l=Sz:=by rw [<-AvS.out,List.take_of_length_le (by rw [hNH.out];omega)]
   have hgood:∀ x ∈ l,XB x:=by
    have:=pR.out;rw [List.take_of_length_le (by rw [hNH.out];omega)] at this;exact this
   by_cases h3:30000<Sz
   ·have h3I:(30000:Int)<(Sz:Int):=aP
    go_wp2_with fail;go_ret;exact ⟨_,o,rfl,aj.refl _ _ _,true,rfl,fun h=>by cases h⟩
   ·have h3I:¬ (30000:Int)<(Sz:Int):=aP
    go_wp2_with fail;go_ret;exact ⟨_,o,rfl,aj.refl _ _ _,_,rfl,fun _=>⟨by rw [hNH.out];omega,hgood,aP⟩⟩
theorem XF {base:Nat} (m:CP) (hl:Lines w o base lv m.ls) (hll:∀ x ∈ m.ls,x.b.length<=200) :
  Calls prog 20 #[QK m lv] w (XL ai w o fun v w' o'=>∃ bv er,v = .tuple #[bv, .int .i64 er]/\Bytes w' o' bv m.put):=by
 refine (ZV m hl (fun x hx=>by have:=hll x hx;omega)).mono ?_;rintro e w' ⟨v,o',rfl,hs,bv,rfl,hb⟩;exact ⟨_,o',rfl,hs,bv,_,rfl,hb⟩
theorem Pq (l:List Eo) (k:Nat):DU (l.take k)<=DU l:=by
 have h:=IA (l.take k) (l.drop k);rw [List.take_append_drop] at h;omega
theorem UA {l:List Eo} {k:Nat} {x:Eo} (hx:l[k]?=some x):DU (l.take (k+1))=DU (l.take k)+(AP x.m.ls+x.b.length):=by
 rw [List.take_add_one,hx,IA];simp [DU,Eo.size]
theorem jV {P:Program} {c:Code} {a:Act} {Q:Exit->Act->World->Prop} (h:∀ K:Act->World->Prop,(∀ a w,Q .normal a w->K a w)->c.wp P (Exit.then K Q) a w):c.wp P Q a w:=
 Code.wp_mono (fun e a w he=>by cases e <;> exact he) (h (Q .normal) (fun _ _ h=>h))
def kC:List Value:=[.int .u8 0, .int .i64 0, .int .u8 0, .int .u64 0, .int .u64 0, .int .i64 0, .int .i64 0, .slice none 0 0, .slice none 0 0]
theorem jY {x:Eo} {bv:Value} (w:World) (o:Own) (h:∃ a n k,lv = .slice a n k) (g:∃ a n k,bv = .slice a n k) :
  ∃ b:Nat,∃ Wz W2 o2,(Instr.alloc 48 true (.tuple #[])).run prog w = .ok (.pointer b) Wz/\(Instr.storeAt 48 (.pointer b) (.agg (FH x lv bv).toArray)).run prog Wz = .ok () W2/\aj ai w o W2 o2/\Wp W2 o2 b 0 (FH x lv bv):=by
 obtain ⟨a,n,k,rfl⟩:=h;obtain ⟨a',n',k',rfl⟩:=g;exact RD (t:=48) (zs:=kC) (vs:=FH x (.slice a n k) (.slice a' n' k')) bf bf rfl rfl w o
theorem kE {b off:Nat} (hr:w.rangeAt b off cs) (hl:cs.length=9):(Instr.loadAt 48 (.pointer (some (aW b off)))).run prog w = .ok (.agg cs.toArray) w:=by
 simp only [Instr.loadAt,Instr.sureAddr,Sem.run_bind,Sem.run_pure,Result.andThen_ok];exact run_loadVar_mid w b off 48 cs _ hr underlying48 rfl (by rw [hl];kernel_rfl)
theorem kG {Mx:Nat} (h:M<D) (hx:D<=Mx):∀ k,InN D Mx k->EN M k:=fun k hk=>by unfold InN at hk;show M<k;omega
theorem jG {Mx:Nat} {w1 w2:World} {o1 o2:Own} (h:M<D) (hx:D<=Mx) (s:aj (EN M) w o w1 o1) (s2:aj (InN D Mx) w1 o1 w2 o2):aj (EN M) w o w2 o2:=s.trans (s2.mono (kG h hx))

end Go.Proofs.YthmpmgknnibljaaGreat
