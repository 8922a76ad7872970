/- Layer 14: the walk of GroupNil. -/
import Derived.Outline
import Derived.Test.YtffkdillijmamaaGreatGn13
namespace Go.Proofs.YtffkdillijmamaaGreat
open Go.Proofs.Tryz
set_option maxRecDepth 100000
set_option maxHeartbeats 12800000
open Go Go.RowKit
attribute [local go_sem ↓] Go.wp_at_zero Go.wp_at_succ
section
variable {w:World} {o:Own} {R pg pn:Nat} {xs:List xI} {i:Int}
theorem AoK (i:Int):Calls prog 18 #[.pointer none, .int .i64 i] w (XL Nobody w o fun v _ _=>v = .agg #[.int .u64 0, .int .u64 0, .slice none 0 0]):=by
 obtain ⟨W,oW,hW,⟨hst, -⟩,hb⟩:=AaC w o (.cells #[.int .u64 0, .int .u64 0, .slice none 0 0] 37)
 obtain ⟨X,hX,hsX,hbX, -⟩:=hb.store (P:=prog) (cs:=[.int .u64 0, .int .u64 0, .slice none 0 0]) (ty:=37) (vs:=[.int .u64 0, .int .u64 0, .slice none 0 0]) hst (Nat.le_refl _) rfl Uz rfl
 have d0:=hb.cell (cs:=[.int .u64 0, .int .u64 0, .slice none 0 0]) 0
 have d1:=hb.cell (cs:=[.int .u64 0, .int .u64 0, .slice none 0 0]) 1
 have d2:=hb.cell (cs:=[.int .u64 0, .int .u64 0, .slice none 0 0]) 2
 simp only [List.getElem?_cons_zero,List.getElem?_cons_succ] at d0 d1 d2
 have hF:=hidden (aI hsX hbX)
 have hXH:=hidden hX
 have XX:=hidden hW
 clear hX hsX hbX hst hb hW
 go_enter func18,ntmps18
 go_wp2_with fail
 rw [XX.out]
 refine (at_nil _ _ _).mono ?_;rintro e W1 ⟨rfl,rfl⟩
 go_wp2_with ((with_reducible apply AC);exact hXH.out;simp only [Act.put])
 refine bodyPost_ret (AbQ rfl _ _ w.heap.size 37 _ (0,0) _ rfl hF.out.2.1 underlying37 rfl Uz) rfl ?_
 exact ⟨_,oW,rfl,hF.out.1,rfl⟩
theorem AgI (i:Int):Calls prog 19 #[.pointer none, .int .i64 i] w (XL Nobody w o fun v _ _=>v = .slice none 0 0):=by
 obtain ⟨W,oW,hW,⟨hst, -⟩,hb⟩:=AaC w o (.cells #[.slice none 0 0] 35)
 have k1:=hb.cell (cs:=[.slice none 0 0]) 0
 have f1:=Ap (cs:=[.slice none 0 0]) hb.1 0
 simp only [List.getElem?_cons_zero] at k1
 have sX:=hst.setCell (a:=⟨w.heap.size,0,none⟩) (.slice none 0 0) (.inr (Nat.le_refl _))
 have k2:=cell_of_block (Ai (i:=0) (cs:=[.slice none 0 0]) (.slice none 0 0) hb.1) 0
 have hF:=hidden sX
 have XX:=hidden hW
 clear hst hb hW sX
 go_enter func19,ntmps19
 go_wp2_with fail
 rw [XX.out]
 refine (at_nil _ _ _).mono ?_;rintro e W1 ⟨rfl,rfl⟩
 go_wp2_with fail
 refine bodyPost_ret (v := .slice none 0 0) (by rw [Acx rfl];go_simp) rfl ?_
 exact ⟨_,oW,rfl,hF.out,rfl⟩
theorem AdI (h:AeE w o R pg pn xs) (hi:i<0 ∨ (xs.length:Int) ≤ i):Calls prog 19 #[.pointer (some ⟨pg,0,none⟩), .int .i64 i] w (XL Nobody w o fun v _ _=>v = .slice none 0 0):=by
 obtain ⟨W,oW,hW,⟨hst, -⟩,hb⟩:=AaC w o (.cells #[.slice none 0 0] 35)
 have hg:=hidden (h.step hst id id)
 clear h
 have k1:=hb.cell (cs:=[.slice none 0 0]) 0
 have f1:=Ap (cs:=[.slice none 0 0]) hb.1 0
 simp only [List.getElem?_cons_zero] at k1
 have sX:=hst.setCell (a:=⟨w.heap.size,0,none⟩) (.slice none 0 0) (.inr (Nat.le_refl _))
 have k2:=cell_of_block (Ai (i:=0) (cs:=[.slice none 0 0]) (.slice none 0 0) hb.1) 0
 have hF:=hidden sX
 have XX:=hidden hW
 clear hst hb hW sX
 go_enter func19,ntmps19
 go_wp2_with fail
 rw [XX.out]
 refine (at_bad hg.out _ hi _).mono ?_;rintro e W1 ⟨rfl,rfl⟩
 go_wp2_with fail
 refine bodyPost_ret (v := .slice none 0 0) (by rw [Acx rfl];go_simp) rfl ?_
 exact ⟨_,oW,rfl,hF.out,rfl⟩
end
theorem AhM {w:World} {o:Own} (i k:Int) {v:Value} {l:List UInt8} (hl:Bytes w o v l) :
  Calls prog 8 #[.int .i64 i, .int .i64 k,v] w (XL Nobody w o fun v _ _=>v = .bool true):=by
 obtain ⟨ba,bc,rfl⟩:=Aq hl
 obtain ⟨n,hn⟩:∃ n,l.length=n:=⟨_,rfl⟩
 rw [hn] at hl ⊢
 have hnI:(0:Int) ≤ (n:Int):=by omega
 by_cases hbig:200<n
 ·have hbI:(200:Int)<(n:Int):=by omega
  clear hn hl
  go_enter func8,ntmps8
  go_wp2_with fail
  go_ret
  exact ⟨_,o,rfl,Step.refl _ _ _,rfl⟩
 ·have hbI:¬ (200:Int)<(n:Int):=by omega
  obtain ⟨M, -,hM⟩:=EZ o 0 w.heap.size
  have hMH:=hidden hM
  have hMR:M<M+1:=Nat.lt_succ_self _
  have hst:=hidden (Step.refl (EN M) w o)
  have hf0:=eF
  clear hl hn hM
  have hc:=hidden (Aov i (w:=w) (o:=o))
  go_enter func8,ntmps8
  go_wp2_with fail
  refine hc.out.mono ?_;rintro e W1 ⟨v,o1,rfl,hs,rfl⟩
  replace hst:=hidden (hst.out.trans (hs.mono (T':=EN M) fun _ h=>h.elim))
  clear hs hc
  have hc:=hidden (AoB k W1 o1)
  go_wp2_with fail
  refine hc.out.mono ?_;rintro e W2 ⟨v,o2,rfl,hs,rfl⟩
  replace hst:=hidden (hst.out.trans (hs.mono (T':=EN M) fun _ h=>h.elim))
  clear hs hc
  have hc:=hidden (Ape k (w:=W2) (o:=o2))
  go_wp2_with fail
  refine hc.out.mono ?_;rintro e W3 ⟨v,o3,rfl,hs,rfl⟩
  replace hst:=hidden (hst.out.trans (hs.mono (T':=EN M) fun _ h=>h.elim))
  clear hs hc
  have hc:=hidden (AkA k (w:=W3) (o:=o3))
  go_wp2_with fail
  refine hc.out.mono ?_;rintro e W4 ⟨v,o4,rfl,hs,rfl⟩
  replace hst:=hidden (hst.out.trans (hs.mono (T':=EN M) fun _ h=>h.elim))
  clear hs hc
  have hc:=hidden (AoW k (w:=W4) (o:=o4))
  go_wp2_with fail
  refine hc.out.mono ?_;rintro e W5 ⟨v,o5,rfl,hs,rfl⟩
  replace hst:=hidden (hst.out.trans (hs.mono (T':=EN M) fun _ h=>h.elim))
  clear hs hc
  have hc:=hidden (ArC i k (w:=W5) (o:=o5))
  go_wp2_with fail
  refine hc.out.mono ?_;rintro e W6 ⟨v,o6,rfl,hs,rfl⟩
  replace hst:=hidden (hst.out.trans (hs.mono (T':=EN M) fun _ h=>h.elim))
  clear hs hc
  have hc:=hidden (Apb i k (w:=W6) (o:=o6))
  go_wp2_with fail
  refine hc.out.mono ?_;rintro e W7 ⟨v,o7,rfl,hs,rfl⟩
  replace hst:=hidden (hst.out.trans (hs.mono (T':=EN M) fun _ h=>h.elim))
  clear hs hc
  have hc:=hidden (Ajx i ba n bc (w:=W7) (o:=o7))
  go_wp2_with fail
  refine hc.out.mono ?_;rintro e W8 ⟨v,o8,rfl,hs,rfl⟩
  replace hst:=hidden (hst.out.trans (hs.mono (T':=EN M) fun _ h=>h.elim))
  clear hs hc
  have hc:=hidden (Apd i k (w:=W8) (o:=o8))
  go_wp2_with fail
  refine hc.out.mono ?_;rintro e W9 ⟨v,o9,rfl,hs,rfl⟩
  replace hst:=hidden (hst.out.trans (hs.mono (T':=EN M) fun _ h=>h.elim))
  clear hs hc
  have hc:=hidden (AoC i (w:=W9) (o:=o9))
  go_wp2_with fail
  refine hc.out.mono ?_;rintro e W10 ⟨v,o10,rfl,hs,rfl⟩
  replace hst:=hidden (hst.out.trans (hs.mono (T':=EN M) fun _ h=>h.elim))
  clear hs hc
  have hc:=hidden (AmG i none 0 0 (w:=W10) (o:=o10))
  go_wp2_with fail
  refine hc.out.mono ?_;rintro e W11 ⟨v,o11,rfl,hs,rfl⟩
  replace hst:=hidden (hst.out.trans (hs.mono (T':=EN M) fun _ h=>h.elim))
  clear hs hc
  have hc:=hidden (AgI i (w:=W11) (o:=o11))
  go_wp2_with fail
  refine hc.out.mono ?_;rintro e W12 ⟨v,o12,rfl,hs,rfl⟩
  replace hst:=hidden (hst.out.trans (hs.mono (T':=EN M) fun _ h=>h.elim))
  clear hs hc
  have hc:=hidden (AoK i (w:=W12) (o:=o12))
  go_wp2_with fail
  refine hc.out.mono ?_;rintro e W13 ⟨v,o13,rfl,hs,rfl⟩
  replace hst:=hidden (hst.out.trans (hs.mono (T':=EN M) fun _ h=>h.elim))
  clear hs hc
  have hc:=hidden (AmK i (w:=W13) (o:=o13))
  go_wp2_with fail
  refine hc.out.mono ?_;rintro e W14 ⟨v,o14,rfl,hs,rfl⟩
  replace hst:=hidden (hst.out.trans (hs.mono (T':=EN M) fun _ h=>h.elim))
  clear hs hc
  have hc:=hidden (Apf i (w:=W14) (o:=o14))
  go_wp2_with fail
  refine hc.out.mono ?_;rintro e W15 ⟨v,o15,rfl,hs,rfl⟩
  replace hst:=hidden (hst.out.trans (hs.mono (T':=EN M) fun _ h=>h.elim))
  clear hs hc
  have hc:=hidden (Ajy W15)
  go_wp2_with fail
  refine hc.out.mono ?_;rintro e V0 ⟨rfl,rfl⟩
  have hc:=hidden (Aky hMR 2 20 (by omega) (by omega) (by omega) (by omega) W15 o15)
  go_wp2_with fail
  refine hc.out.mono ?_;rintro e V1 ⟨v,p1,rfl,hs,pg,pn,xs,rfl,hg,hx⟩
  replace hst:=hidden (hst.out.trans hs)
  by_cases hi:0 ≤ i∧i<2
  ·obtain ⟨i0,i2⟩:=hi
   have hc:=hidden (AeB V1 p1)
   clear hs hg hx
   go_wp2_with fail
   refine hc.out.mono ?_;rintro e V2 ⟨v,p2,rfl,hs,rfl⟩
   replace hst:=hidden (hst.out.trans (hs.mono (T':=EN M) fun _ h=>h.elim))
   clear hs hc
   go_wp2_with fail
   go_ret
   exact ⟨_,_,rfl,hst.out.Hm hMH.out,rfl⟩
  ·have hi2:i<0 ∨ (xs.length:Int) ≤ i:=by omega
   have hb:=hidden hg.1
   have Aec:=hidden hi2
   have hor:i<0 ∨ 2 ≤ i:=by omega
   clear hs hg hc hi2
   rcases hor with hlt | hge
   ·have hc:=hidden (Aiu hb.out Aec.out)
    go_wp2_with fail
    refine hc.out.mono ?_;rintro e V2 ⟨v,p2,rfl,hs,rfl⟩
    replace hst:=hidden (hst.out.trans (hs.mono (T':=EN M) fun _ h=>h.elim))
    replace hb:=hidden (hb.out.step hs id id)
    clear hs hc
    have hc:=hidden (AeT hb.out Aec.out ba n bc)
    go_wp2_with fail
    refine hc.out.mono ?_;rintro e V3 ⟨v,p3,rfl,hs,rfl⟩
    replace hst:=hidden (hst.out.trans (hs.mono (T':=EN M) fun _ h=>h.elim))
    replace hb:=hidden (hb.out.step hs id id)
    clear hs hc
    have hc:=hidden (Aiy hb.out Aec.out k)
    go_wp2_with fail
    refine hc.out.mono ?_;rintro e V4 ⟨v,p4,rfl,hs,rfl⟩
    replace hst:=hidden (hst.out.trans (hs.mono (T':=EN M) fun _ h=>h.elim))
    replace hb:=hidden (hb.out.step hs id id)
    clear hs hc
    have hc:=hidden (Aix hb.out Aec.out)
    go_wp2_with fail
    refine hc.out.mono ?_;rintro e V5 ⟨v,p5,rfl,hs,rfl⟩
    replace hst:=hidden (hst.out.trans (hs.mono (T':=EN M) fun _ h=>h.elim))
    replace hb:=hidden (hb.out.step hs id id)
    clear hs hc
    have hc:=hidden (Agy hb.out Aec.out none 0 0)
    go_wp2_with fail
    refine hc.out.mono ?_;rintro e V6 ⟨v,p6,rfl,hs,rfl⟩
    replace hst:=hidden (hst.out.trans (hs.mono (T':=EN M) fun _ h=>h.elim))
    replace hb:=hidden (hb.out.step hs id id)
    clear hs hc
    have hc:=hidden (AdI hb.out Aec.out)
    go_wp2_with fail
    refine hc.out.mono ?_;rintro e V7 ⟨v,p7,rfl,hs,rfl⟩
    replace hst:=hidden (hst.out.trans (hs.mono (T':=EN M) fun _ h=>h.elim))
    replace hb:=hidden (hb.out.step hs id id)
    clear hs hc
    have hc:=hidden (Agz hb.out Aec.out)
    go_wp2_with fail
    refine hc.out.mono ?_;rintro e V8 ⟨v,p8,rfl,hs,rfl⟩
    replace hst:=hidden (hst.out.trans (hs.mono (T':=EN M) fun _ h=>h.elim))
    replace hb:=hidden (hb.out.step hs id id)
    clear hs hc
    have hc:=hidden (Aiz hb.out Aec.out)
    go_wp2_with fail
    refine hc.out.mono ?_;rintro e V9 ⟨v,p9,rfl,hs,rfl⟩
    replace hst:=hidden (hst.out.trans (hs.mono (T':=EN M) fun _ h=>h.elim))
    replace hb:=hidden (hb.out.step hs id id)
    clear hs hc
    have hc:=hidden (AeB V9 p9)
    go_wp2_with fail
    refine hc.out.mono ?_;rintro e VW ⟨v,pw,rfl,hs,rfl⟩
    replace hst:=hidden (hst.out.trans (hs.mono (T':=EN M) fun _ h=>h.elim))
    clear hs hc
    go_wp2_with fail
    go_ret
    exact ⟨_,_,rfl,hst.out.Hm hMH.out,rfl⟩
   ·have hn0:0 ≤ i:=by omega
    have hc:=hidden (Aiu hb.out Aec.out)
    go_wp2_with fail
    refine hc.out.mono ?_;rintro e V2 ⟨v,p2,rfl,hs,rfl⟩
    replace hst:=hidden (hst.out.trans (hs.mono (T':=EN M) fun _ h=>h.elim))
    replace hb:=hidden (hb.out.step hs id id)
    clear hs hc
    have hc:=hidden (AeT hb.out Aec.out ba n bc)
    go_wp2_with fail
    refine hc.out.mono ?_;rintro e V3 ⟨v,p3,rfl,hs,rfl⟩
    replace hst:=hidden (hst.out.trans (hs.mono (T':=EN M) fun _ h=>h.elim))
    replace hb:=hidden (hb.out.step hs id id)
    clear hs hc
    have hc:=hidden (Aiy hb.out Aec.out k)
    go_wp2_with fail
    refine hc.out.mono ?_;rintro e V4 ⟨v,p4,rfl,hs,rfl⟩
    replace hst:=hidden (hst.out.trans (hs.mono (T':=EN M) fun _ h=>h.elim))
    replace hb:=hidden (hb.out.step hs id id)
    clear hs hc
    have hc:=hidden (Aix hb.out Aec.out)
    go_wp2_with fail
    refine hc.out.mono ?_;rintro e V5 ⟨v,p5,rfl,hs,rfl⟩
    replace hst:=hidden (hst.out.trans (hs.mono (T':=EN M) fun _ h=>h.elim))
    replace hb:=hidden (hb.out.step hs id id)
    clear hs hc
    have hc:=hidden (Agy hb.out Aec.out none 0 0)
    go_wp2_with fail
    refine hc.out.mono ?_;rintro e V6 ⟨v,p6,rfl,hs,rfl⟩
    replace hst:=hidden (hst.out.trans (hs.mono (T':=EN M) fun _ h=>h.elim))
    replace hb:=hidden (hb.out.step hs id id)
    clear hs hc
    have hc:=hidden (AdI hb.out Aec.out)
    go_wp2_with fail
    refine hc.out.mono ?_;rintro e V7 ⟨v,p7,rfl,hs,rfl⟩
    replace hst:=hidden (hst.out.trans (hs.mono (T':=EN M) fun _ h=>h.elim))
    replace hb:=hidden (hb.out.step hs id id)
    clear hs hc
    have hc:=hidden (Agz hb.out Aec.out)
    go_wp2_with fail
    refine hc.out.mono ?_;rintro e V8 ⟨v,p8,rfl,hs,rfl⟩
    replace hst:=hidden (hst.out.trans (hs.mono (T':=EN M) fun _ h=>h.elim))
    replace hb:=hidden (hb.out.step hs id id)
    clear hs hc
    have hc:=hidden (Aiz hb.out Aec.out)
    go_wp2_with fail
    refine hc.out.mono ?_;rintro e V9 ⟨v,p9,rfl,hs,rfl⟩
    replace hst:=hidden (hst.out.trans (hs.mono (T':=EN M) fun _ h=>h.elim))
    replace hb:=hidden (hb.out.step hs id id)
    clear hs hc
    have hc:=hidden (AeB V9 p9)
    go_wp2_with fail
    refine hc.out.mono ?_;rintro e VW ⟨v,pw,rfl,hs,rfl⟩
    replace hst:=hidden (hst.out.trans (hs.mono (T':=EN M) fun _ h=>h.elim))
    clear hs hc
    go_wp2_with fail
    go_ret
    exact ⟨_,_,rfl,hst.out.Hm hMH.out,rfl⟩

end Go.Proofs.YtffkdillijmamaaGreat
