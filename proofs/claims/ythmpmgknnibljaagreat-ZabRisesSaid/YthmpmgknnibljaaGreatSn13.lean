/- Contracts of layer 11's document: line, May. -/
import Derived.Test.YthmpmgknnibljaaGreatSn9
import Derived.Test.YthmpmgknnibljaaGreatSn10
import Derived.Test.YthmpmgknnibljaaGreatSn12
namespace Go.Proofs.YthmpmgknnibljaaGreat
set_option maxRecDepth 100000
set_option maxHeartbeats 12800000
open Go Go.RowKit
attribute [local go_sem ↓] Go.wp_at_zero Go.wp_at_succ
structure CP where
 k:Nat
 e:BitVec 64
 c:BitVec 64
 at':Int
 com:Int
 ls:List Ar
namespace CP
def pre (m:CP):Bool:=decide (m.k < 1) || decide (6 < m.k) || decide (m.e.toNat < 1) || decide (281474976710656 < m.e.toNat) || decide (m.e.toNat < m.c.toNat) || decide (m.at' < 0) || decide (256 < m.at') || decide (m.com < 0) || decide (256 < m.com) || decide (256 < m.ls.length)
def mid (m:CP):Bool:=(decide (m.k ≠ 2) && decide (0 < m.c.toNat)) || (decide (m.k ≠ 5) && decide (0 < m.com))
def low (m:CP):Bool:=decide (m.k ≠ 5) && decide (m.k ≠ 6) && decide (0 < m.at')
def few (m:CP):Bool:=decide (m.k = 2) || decide (m.k = 4) || decide (m.k = 5) || decide (m.ls.length = 0)
def may (m:CP):Bool := !m.pre && (m.ls.all (fun x=>decide x.may) && (!m.mid && (!m.low && m.few)))
def msg (m:CP):BG:=⟨m.k,m.e,m.c,m.at'.toNat,m.com.toNat,m.ls⟩
def put (m:CP):List UInt8:=if m.may = true then m.msg.put else []
theorem TC (m:CP):m.may = true ↔ m.msg.May∧0 ≤ m.at'∧0 ≤ m.com:=by
 unfold may pre mid low few
 simp only [Bool.and_eq_true,Bool.not_eq_true',Bool.or_eq_false_iff,decide_eq_false_iff_not,decide_eq_true_eq,List.all_eq_true,Bool.or_eq_true,Bool.and_eq_false_imp]
 constructor
 ·rintro ⟨⟨⟨⟨⟨⟨⟨⟨⟨⟨h1,h2⟩,h3⟩,h4⟩,h5⟩,h6⟩,h7⟩,h8⟩,h9⟩,h10⟩,hl,⟨hm1,hm2⟩,hlow,hfew⟩
  refine ⟨⟨by show 1 ≤ m.k;omega,by show m.k ≤ 6;omega,by show 1 ≤ m.e.toNat;omega,by show m.e.toNat ≤ _;omega,by show m.c.toNat ≤ m.e.toNat;omega,by show m.at'.toNat ≤ 256;omega,by show m.com.toNat ≤ 256;omega,by show m.ls.length ≤ 256;omega,hl,fun h => ?_,fun h => ?_,fun h g => ?_,fun h g i => ?_⟩,by omega,by omega⟩
  ·have:=hm1 h
   exact BitVec.eq_of_toNat_eq (by show m.c.toNat = 0;omega)
  ·have:=hm2 h
   show m.com.toNat = 0;omega
  ·have:=hlow ⟨h,g⟩
   show m.at'.toNat = 0;omega
  ·rcases hfew with ((h' | h') | h') | h'
   ·exact absurd h' h
   ·exact absurd h' g
   ·exact absurd h' i
   ·exact List.eq_nil_of_length_eq_zero h'
 ·rintro ⟨h,ha,hc⟩
  have k1:1 ≤ m.k:=h.k1
  have k6:m.k ≤ 6:=h.k6
  have e1:1 ≤ m.e.toNat:=h.e1
  have e2:m.e.toNat ≤ 281474976710656:=h.e2
  have c1:m.c.toNat ≤ m.e.toNat:=h.c1
  have a1:m.at'.toNat ≤ 256:=h.a1
  have o1:m.com.toNat ≤ 256:=h.o1
  have n1:m.ls.length ≤ 256:=h.n1
  refine ⟨⟨⟨⟨⟨⟨⟨⟨⟨⟨by omega,by omega⟩,by omega⟩,by omega⟩,by omega⟩,by omega⟩,by omega⟩,by omega⟩,by omega⟩,by omega⟩,h.hl,⟨fun g => ?_,fun g => ?_⟩,fun g => ?_, ?_⟩
  ·have h0:m.c = 0:=h.kc g
   rw [h0];decide
  ·have h0:m.com.toNat = 0:=h.ko g
   omega
  ·have h0:m.at'.toNat = 0:=h.ka g.1 g.2
   omega
  ·by_cases g2:m.k = 2
   ·exact .inl (.inl (.inl g2))
   ·by_cases g4:m.k = 4
    ·exact .inl (.inl (.inr g4))
    ·by_cases g5:m.k = 5
     ·exact .inl (.inr g5)
     ·right
      have h0:m.ls = []:=h.kl g2 g4 g5
      rw [h0];rfl
end CP
def QK (m:CP) (lv:Value):Value := .agg #[.int .u8 (m.k:Int), .int .u64 (m.e.toNat:Int), .int .u64 (m.c.toNat:Int), .int .i64 m.at', .int .i64 m.com,lv]
def EQ (m:CP) (lv:Value):List Value:=[.int .u8 (m.k:Int), .int .u64 (m.e.toNat:Int), .int .u64 (m.c.toNat:Int), .int .i64 m.at', .int .i64 m.com,lv]
theorem Yv (w:World) (o:Own) (x:Ar) (hn:x.b.length ≤ 1000000000) (a:Option Addr) (c:Nat) :
  Calls Tryz.prog 91 #[.agg #[.int .u64 (x.e.toNat:Int), .slice a x.b.length c]] w (Ret Nobody w o fun v _ _=>v = .bool (decide x.may)):=by
 obtain ⟨r,hr⟩:∃ r,decide x.may = r:=⟨_,rfl⟩
 obtain ⟨E,hE⟩:∃ E,x.e.toNat = E:=⟨_,rfl⟩
 obtain ⟨N,hN⟩:∃ N,x.b.length = N:=⟨_,rfl⟩
 have hb:(0:Int) ≤ (E:Int)∧(0:Int) ≤ (N:Int):=by omega
 have hiff:x.may ↔ (1 ≤ E∧E ≤ 281474976710656)∧1 ≤ N∧N ≤ 4096:=by unfold Ar.may;rw [hE,hN]
 rw [hr,hE,hN]
 have st:=hidden ((Step.refl Nobody w o).alloc (.cells #[.int .u64 (E:Int), .slice a N c] 36) (0,0))
 clear hE hN hn
 by_cases c0:1 ≤ E
 rotate_left
 ·have d0:decide ((1:Int) ≤ (E:Int)) = false:=decide_eq_false (by omega)
  have hr:=hidden (show false = r by rw [←hr];exact (decide_eq_false (fun h=>by have:=hiff.1 h;omega)).symm)
  clear hiff c0
  go_enter Tryz.func91,Tryz.ntmps91
  go_wp2_with fail
  go_ret
  exact ⟨_,_,rfl,st.out,by rw [←hr.out];rfl⟩
 have d0:decide ((1:Int) ≤ (E:Int)) = true:=decide_eq_true (by omega)
 by_cases c1:E ≤ 281474976710656
 rotate_left
 ·have d1:decide ((E:Int) ≤ 281474976710656) = false:=decide_eq_false (by omega)
  have hr:=hidden (show false = r by rw [←hr];exact (decide_eq_false (fun h=>by have:=hiff.1 h;omega)).symm)
  clear hiff c0 c1
  go_enter Tryz.func91,Tryz.ntmps91
  go_wp2_with fail
  go_ret
  exact ⟨_,_,rfl,st.out,by rw [←hr.out];rfl⟩
 have d1:decide ((E:Int) ≤ 281474976710656) = true:=decide_eq_true (by omega)
 by_cases c2:1 ≤ N
 rotate_left
 ·have d2:decide ((1:Int) ≤ (N:Int)) = false:=decide_eq_false (by omega)
  have hr:=hidden (show false = r by rw [←hr];exact (decide_eq_false (fun h=>by have:=hiff.1 h;omega)).symm)
  clear hiff c0 c1 c2
  go_enter Tryz.func91,Tryz.ntmps91
  go_wp2_with fail
  go_ret
  exact ⟨_,_,rfl,st.out,by rw [←hr.out];rfl⟩
 have d2:decide ((1:Int) ≤ (N:Int)) = true:=decide_eq_true (by omega)
 by_cases c3:N ≤ 4096
 rotate_left
 ·have d3:decide ((N:Int) ≤ 4096) = false:=decide_eq_false (by omega)
  have hr:=hidden (show false = r by rw [←hr];exact (decide_eq_false (fun h=>by have:=hiff.1 h;omega)).symm)
  clear hiff c0 c1 c2 c3
  go_enter Tryz.func91,Tryz.ntmps91
  go_wp2_with fail
  go_ret
  exact ⟨_,_,rfl,st.out,by rw [←hr.out];rfl⟩
 have d3:decide ((N:Int) ≤ 4096) = true:=decide_eq_true (by omega)
 have hr:=hidden (show true = r by rw [←hr];exact (decide_eq_true (hiff.2 (by omega))).symm)
 clear hiff c0 c1 c2 c3
 go_enter Tryz.func91,Tryz.ntmps91
 go_wp2_with fail
 go_ret
 exact ⟨_,_,rfl,st.out,by rw [←hr.out];rfl⟩
theorem aN {w:World} {b off:Nat} {e:Int} {bv:Value} (hr:w.rangeAt b off [.int .u64 e,bv]):(Instr.loadAt 36 (.pointer (some ⟨b,off,none⟩))).run Tryz.prog w = .ok (.agg #[.int .u64 e,bv]) w:=by
 simp only [Instr.loadAt,Instr.sureAddr,Sem.run_bind,Sem.run_pure,Result.andThen_ok]
 exact run_loadVar_mid w b off 36 [.int .u64 e,bv] _ hr Tryz.underlying36 rfl (by kernel_rfl)
namespace CP
theorem Gz {m:CP} (h:m.pre = true):m.may = false:=by unfold may;rw [h];rfl
theorem aK {m:CP} (h:m.ls.all (fun x=>decide x.may) = false):m.may = false:=by unfold may;rw [h];cases m.pre <;> rfl
theorem GG {m:CP} (h:m.mid = true):m.may = false:=by unfold may;rw [h];cases m.pre <;> cases m.ls.all (fun x=>decide x.may) <;> rfl
theorem OU {m:CP} (h:m.low = true):m.may = false:=by unfold may;rw [h];cases m.pre <;> cases m.ls.all (fun x=>decide x.may) <;> cases m.mid <;> rfl
theorem GZ {m:CP} (hp:m.pre = false) (hl:m.ls.all (fun x=>decide x.may) = true) (hm:m.mid = false) (hw:m.low = false):m.may = m.few:=by unfold may;rw [hp,hl,hm,hw];rfl
end CP
theorem ZW {w:World} {o:Own} {base:Nat} (m:CP) {lv:Value} (hl:Lines w o base lv m.ls) (hll:∀ x ∈ m.ls,x.b.length ≤ 1000000000) :
  Calls Tryz.prog 47 #[QK m lv] w (Ret Nobody w o fun v _ _=>v = .bool m.may):=by
 obtain ⟨la,lc,rfl⟩:=hl.form
 obtain ⟨r,hr⟩:∃ r,m.may = r:=⟨_,rfl⟩
 rw [hr]
 have s1:=(Step.refl Nobody w o).alloc (.cells (EQ m (.slice la m.ls.length lc)).toArray 46) (0,0)
 have b1:=heap_alloc_new w (.cells (EQ m (.slice la m.ls.length lc)).toArray 46)
 have hl1:=hl.step s1 (fun h=>h)
 obtain ⟨mb,hmb⟩:∃ b,w.heap.size = b:=⟨_,rfl⟩
 obtain ⟨W1,hW1⟩:∃ x,w.alloc (.cells (EQ m (.slice la m.ls.length lc)).toArray 46) = x:=⟨_,rfl⟩
 obtain ⟨o1,ho1⟩:∃ x,Ak o w.heap.size (0,0) = x:=⟨_,rfl⟩
 have hbx:(Instr.box 46 (QK m (.slice la m.ls.length lc))).run Tryz.prog w = .ok (.pointer (some ⟨w.heap.size,0,none⟩)) W1:=by rw [←hW1];kernel_rfl
 rw [hW1,ho1] at s1 hl1
 rw [hW1] at b1
 rw [hmb] at b1 hbx
 unfold QK at hbx ⊢
 unfold EQ at b1
 obtain ⟨K,hK⟩:∃ x,m.k = x:=⟨_,rfl⟩
 obtain ⟨E,hE⟩:∃ x,m.e.toNat = x:=⟨_,rfl⟩
 obtain ⟨C,hC⟩:∃ x,m.c.toNat = x:=⟨_,rfl⟩
 obtain ⟨A,hA⟩:∃ x,m.at' = x:=⟨_,rfl⟩
 obtain ⟨P,hP⟩:∃ x,m.com = x:=⟨_,rfl⟩
 obtain ⟨N,hN⟩:∃ x,m.ls.length = x:=⟨_,rfl⟩
 rw [hK,hE,hC,hA,hP,hN] at hbx b1 ⊢
 rw [hN] at hl1
 have hpre:m.pre = (decide (K < 1) || decide (6 < K) || decide (E < 1) || decide (281474976710656 < E) || decide (E < C) || decide (A < 0) || decide (256 < A) || decide (P < 0) || decide (256 < P) || decide (256 < N)):=by unfold CP.pre;rw [hK,hE,hC,hA,hP,hN]
 have hmid:m.mid = ((decide (K ≠ 2) && decide (0 < C)) || (decide (K ≠ 5) && decide (0 < P))):=by unfold CP.mid;rw [hK,hC,hP]
 have hlow:m.low = (decide (K ≠ 5) && decide (K ≠ 6) && decide (0 < A)):=by unfold CP.low;rw [hK,hA]
 have hfew:m.few = (decide (K = 2) || decide (K = 4) || decide (K = 5) || decide (N = 0)):=by unfold CP.few;rw [hK,hN]
 have hI:(0:Int) ≤ (K:Int)∧(0:Int) ≤ (E:Int)∧(0:Int) ≤ (C:Int)∧(0:Int) ≤ (N:Int):=by omega
 have q0:=cell_of_block b1 0
 have q1:=cell_of_block b1 1
 have q2:=cell_of_block b1 2
 have q3:=cell_of_block b1 3
 have q4:=cell_of_block b1 4
 have q5:=cell_of_block b1 5
 simp only [List.getElem?_cons_zero,List.getElem?_cons_succ] at q0 q1 q2 q3 q4 q5
 have hbxH:=hidden hbx
 have hH:=hidden (And.intro hpre (And.intro hmid (And.intro hlow hfew)))
 have hB:=hidden (And.intro s1 (And.intro b1 hl1))
 have hNH:=hidden (And.intro hN hll)
 clear hbx hpre hmid hlow hfew s1 b1 hl1 hl hW1 ho1 hmb hK hE hC hA hP hN hll
 by_cases c0:K < 1
 ·have d0:decide ((K:Int) < 1) = true:=decide_eq_true (by omega)
  have hr:=hidden (show false = r by rw [←hr];exact (CP.Gz (by rw [hH.out.1,decide_eq_true c0];simp)).symm)
  clear c0
  go_enter Tryz.func47,Tryz.ntmps47
  go_wp2_with ((with_reducible apply BM);exact hbxH.out;simp only [Act.put,lsa,lsz,lss])
  go_ret
  exact ⟨_,_,rfl,hB.out.1,by rw [←hr.out];rfl⟩
 have d0:decide ((K:Int) < 1) = false:=decide_eq_false (by omega)
 by_cases c1:6 < K
 ·have d1:decide ((6:Int) < (K:Int)) = true:=decide_eq_true (by omega)
  have hr:=hidden (show false = r by rw [←hr];exact (CP.Gz (by rw [hH.out.1,decide_eq_true c1];simp)).symm)
  clear c0 c1
  go_enter Tryz.func47,Tryz.ntmps47
  go_wp2_with ((with_reducible apply BM);exact hbxH.out;simp only [Act.put,lsa,lsz,lss])
  go_ret
  exact ⟨_,_,rfl,hB.out.1,by rw [←hr.out];rfl⟩
 have d1:decide ((6:Int) < (K:Int)) = false:=decide_eq_false (by omega)
 by_cases c2:E < 1
 ·have d2:decide ((E:Int) < 1) = true:=decide_eq_true (by omega)
  have hr:=hidden (show false = r by rw [←hr];exact (CP.Gz (by rw [hH.out.1,decide_eq_true c2];simp)).symm)
  clear c0 c1 c2
  go_enter Tryz.func47,Tryz.ntmps47
  go_wp2_with ((with_reducible apply BM);exact hbxH.out;simp only [Act.put,lsa,lsz,lss])
  go_ret
  exact ⟨_,_,rfl,hB.out.1,by rw [←hr.out];rfl⟩
 have d2:decide ((E:Int) < 1) = false:=decide_eq_false (by omega)
 by_cases c3:281474976710656 < E
 ·have d3:decide ((281474976710656:Int) < (E:Int)) = true:=decide_eq_true (by omega)
  have hr:=hidden (show false = r by rw [←hr];exact (CP.Gz (by rw [hH.out.1,decide_eq_true c3];simp)).symm)
  clear c0 c1 c2 c3
  go_enter Tryz.func47,Tryz.ntmps47
  go_wp2_with ((with_reducible apply BM);exact hbxH.out;simp only [Act.put,lsa,lsz,lss])
  go_ret
  exact ⟨_,_,rfl,hB.out.1,by rw [←hr.out];rfl⟩
 have d3:decide ((281474976710656:Int) < (E:Int)) = false:=decide_eq_false (by omega)
 by_cases c4:E < C
 ·have d4:decide (E < C) = true:=decide_eq_true (by omega)
  have hr:=hidden (show false = r by rw [←hr];exact (CP.Gz (by rw [hH.out.1,decide_eq_true c4];simp)).symm)
  clear c0 c1 c2 c3 c4
  go_enter Tryz.func47,Tryz.ntmps47
  go_wp2_with ((with_reducible apply BM);exact hbxH.out;simp only [Act.put,lsa,lsz,lss])
  go_ret
  exact ⟨_,_,rfl,hB.out.1,by rw [←hr.out];rfl⟩
 have d4:decide (E < C) = false:=decide_eq_false (by omega)
 by_cases c5:A < 0
 ·have d5:decide (A < 0) = true:=decide_eq_true (by omega)
  have hr:=hidden (show false = r by rw [←hr];exact (CP.Gz (by rw [hH.out.1,decide_eq_true c5];simp)).symm)
  clear c0 c1 c2 c3 c4 c5
  go_enter Tryz.func47,Tryz.ntmps47
  go_wp2_with ((with_reducible apply BM);exact hbxH.out;simp only [Act.put,lsa,lsz,lss])
  go_ret
  exact ⟨_,_,rfl,hB.out.1,by rw [←hr.out];rfl⟩
 have d5:decide (A < 0) = false:=decide_eq_false (by omega)
 by_cases c6:256 < A
 ·have d6:decide (256 < A) = true:=decide_eq_true (by omega)
  have hr:=hidden (show false = r by rw [←hr];exact (CP.Gz (by rw [hH.out.1,decide_eq_true c6];simp)).symm)
  clear c0 c1 c2 c3 c4 c5 c6
  go_enter Tryz.func47,Tryz.ntmps47
  go_wp2_with ((with_reducible apply BM);exact hbxH.out;simp only [Act.put,lsa,lsz,lss])
  go_ret
  exact ⟨_,_,rfl,hB.out.1,by rw [←hr.out];rfl⟩
 have d6:decide (256 < A) = false:=decide_eq_false (by omega)
 by_cases c7:P < 0
 ·have d7:decide (P < 0) = true:=decide_eq_true (by omega)
  have hr:=hidden (show false = r by rw [←hr];exact (CP.Gz (by rw [hH.out.1,decide_eq_true c7];simp)).symm)
  clear c0 c1 c2 c3 c4 c5 c6 c7
  go_enter Tryz.func47,Tryz.ntmps47
  go_wp2_with ((with_reducible apply BM);exact hbxH.out;simp only [Act.put,lsa,lsz,lss])
  go_ret
  exact ⟨_,_,rfl,hB.out.1,by rw [←hr.out];rfl⟩
 have d7:decide (P < 0) = false:=decide_eq_false (by omega)
 by_cases c8:256 < P
 ·have d8:decide (256 < P) = true:=decide_eq_true (by omega)
  have hr:=hidden (show false = r by rw [←hr];exact (CP.Gz (by rw [hH.out.1,decide_eq_true c8];simp)).symm)
  clear c0 c1 c2 c3 c4 c5 c6 c7 c8
  go_enter Tryz.func47,Tryz.ntmps47
  go_wp2_with ((with_reducible apply BM);exact hbxH.out;simp only [Act.put,lsa,lsz,lss])
  go_ret
  exact ⟨_,_,rfl,hB.out.1,by rw [←hr.out];rfl⟩
 have d8:decide (256 < P) = false:=decide_eq_false (by omega)
 by_cases c9:256 < N
 ·have d9:decide ((256:Int) < (N:Int)) = true:=decide_eq_true (by omega)
  have hr:=hidden (show false = r by rw [←hr];exact (CP.Gz (by rw [hH.out.1,decide_eq_true c9];simp)).symm)
  clear c0 c1 c2 c3 c4 c5 c6 c7 c8 c9
  go_enter Tryz.func47,Tryz.ntmps47
  go_wp2_with ((with_reducible apply BM);exact hbxH.out;simp only [Act.put,lsa,lsz,lss])
  go_ret
  exact ⟨_,_,rfl,hB.out.1,by rw [←hr.out];rfl⟩
 have d9:decide ((256:Int) < (N:Int)) = false:=decide_eq_false (by omega)
 have hp:=hidden (show m.pre = false by rw [hH.out.1,decide_eq_false c0,decide_eq_false c1,decide_eq_false c2,decide_eq_false c3,decide_eq_false c4,decide_eq_false c5,decide_eq_false c6,decide_eq_false c7,decide_eq_false c8,decide_eq_false c9];rfl)
 have hKK:=hidden (show K = 1 ∨ K = 2 ∨ K = 3 ∨ K = 4 ∨ K = 5 ∨ K = 6 by omega)
 have hPA:=hidden (show 0 ≤ A∧0 ≤ P∧N ≤ 256 by omega)
 clear c0 c1 c2 c3 c4 c5 c6 c7 c8 c9
 go_enter Tryz.func47,Tryz.ntmps47
 go_wp2_with ((with_reducible apply BM);exact hbxH.out;simp only [Act.put,lsa,lsz,lss])
 go_loopw [3] (fun i wr=>∃ (j:Nat) (oj:Own),j ≤ N∧i = .int .i64 j∧Step Nobody W1 o1 wr oj∧∀ x ∈ m.ls.take j,x.may) (fun i _=>N - (intOf i).toNat)
 case atStart=>exact ⟨0,o1,Nat.zero_le _,rfl,Step.refl _ _ _,by simp⟩
 case round =>
  clear q0 q1 q2 q3 q4 q5 d0 d1 d2 d3 d4 d5 d6 d7 d8 d9
  obtain ⟨j,oj,hj,rfl,hst,hall⟩:=hrel
  have b1:=(hst.block mb (lt_of_block hB.out.2.1) (fun h=>h)).trans hB.out.2.1
  have hNI:(0:Int) ≤ (N:Int)∧(N:Int) ≤ 256:=by have:=hPA.out;omega
  by_cases hlt:j < N
  ·have hltI:(0:Int) ≤ (j:Int)∧(j:Int) < (N:Int):=by omega
   obtain ⟨hN,hll⟩:=hNH.out
   obtain ⟨x,hx⟩:∃ x,m.ls[j]? = some x:=⟨_,List.getElem?_eq_getElem (by rw [hN];exact hlt)⟩
   have hln:=hB.out.2.2.step hst (fun h=>h)
   obtain ⟨b,off,bv,rfl,hrg,hby, -⟩:=hln.at hx
   obtain ⟨xa,xc,rfl⟩:=Aq hby
   have hld:=hidden (aN hrg)
   have hc:=hidden (Yv wr oj x (hll x (List.mem_of_getElem? hx)) xa xc)
   have q5:=cell_of_block b1 5
   simp only [List.getElem?_cons_zero,List.getElem?_cons_succ] at q5
   have htk:m.ls.take (j + 1) = m.ls.take j ++ [x]:=by rw [List.take_add_one,hx];rfl
   by_cases hxm:x.may
   ·rw [decide_eq_true hxm] at hc
    have hall2:=hidden (show ∀ y ∈ m.ls.take (j + 1),y.may by
     rw [htk];intro y hy
     rcases List.mem_append.1 hy with h | h
     ·exact hall y h
     ·simp only [List.mem_singleton] at h;rw [h];exact hxm)
    clear hrg hby hx hln hN hll hall htk hxm b1
    go_wp2_with ((with_reducible apply Bo);exact hld.out;simp only [Act.put,lsa,lsz,lss])
    refine hc.out.mono ?_;rintro e w3 ⟨v3,o3,rfl,hs3,rfl⟩
    have hF:=hidden (hst.trans hs3)
    clear hs3 hc hst
    go_wp2_with fail
    go_roundw
    case rel=>exact ⟨j + 1,o3,by omega,by go_num,hF.out,hall2.out⟩
    case measure=>simp [intOf];omega
   ·rw [decide_eq_false hxm] at hc
    have hr:=hidden (show false = r by
     rw [←hr]
     refine (CP.aK ?_).symm
     rw [List.all_eq_false]
     exact ⟨x,List.mem_of_getElem? hx,by rw [decide_eq_false hxm];decide⟩)
    clear hrg hby hx hln hN hll hall htk hxm b1
    go_wp2_with ((with_reducible apply Bo);exact hld.out;simp only [Act.put,lsa,lsz,lss])
    refine hc.out.mono ?_;rintro e w3 ⟨v3,o3,rfl,hs3,rfl⟩
    have hF:=hidden (hst.trans hs3)
    clear hs3 hc hst
    go_wp2_with fail
    go_ret
    exact ⟨_,_,rfl,hB.out.1.trans hF.out,by rw [←hr.out];rfl⟩
  ·obtain rfl:j = N:=by omega
   have hal:m.ls.all (fun x=>decide x.may) = true:=by
    rw [List.all_eq_true]
    intro x hx
    rw [List.take_of_length_le (by rw [hNH.out.1];exact Nat.le_refl _)] at hall
    exact decide_eq_true (hall x hx)
   have q0:=cell_of_block b1 0
   have q2:=cell_of_block b1 2
   have q3:=cell_of_block b1 3
   have q4:=cell_of_block b1 4
   have q5:=cell_of_block b1 5
   simp only [List.getElem?_cons_zero,List.getElem?_cons_succ] at q0 q2 q3 q4 q5
   have hst:=hidden hst
   have hal:=hidden hal
   clear b1 hall hlt
   have hKs:=hKK.out
   clear hKK
   rcases hKs with hKs | hKs | hKs | hKs | hKs | hKs
   ·subst hKs
    have hk1:((1:Nat):Int) = 1:=rfl
    rw [hk1] at q0
    by_cases t0:0 < C
    ·have u0:(0:Int) < (C:Int):=by omega
     have hr:=hidden (show false = r by rw [←hr];exact (CP.GG (by rw [hH.out.2.1];simp [t0])).symm)
     go_wp2_with fail
     go_ret
     exact ⟨_,_,rfl,hB.out.1.trans hst.out,by rw [←hr.out];rfl⟩
    have u0:¬ (0:Int) < (C:Int):=by omega
    by_cases t1:0 < P
    ·have u1:0 < P:=by omega
     have hr:=hidden (show false = r by rw [←hr];exact (CP.GG (by rw [hH.out.2.1];simp [t0,t1])).symm)
     go_wp2_with fail
     go_ret
     exact ⟨_,_,rfl,hB.out.1.trans hst.out,by rw [←hr.out];rfl⟩
    have u1:¬ 0 < P:=by omega
    by_cases t2:0 < A
    ·have u2:0 < A:=by omega
     have hr:=hidden (show false = r by rw [←hr];exact (CP.OU (by rw [hH.out.2.2.1];simp [t2])).symm)
     go_wp2_with fail
     go_ret
     exact ⟨_,_,rfl,hB.out.1.trans hst.out,by rw [←hr.out];rfl⟩
    have u2:¬ 0 < A:=by omega
    by_cases tn:j = 0
    ·have un:(j:Int) = 0:=by omega
     have hr:=hidden (show true = r by rw [←hr];exact ((CP.GZ hp.out hal.out (by rw [hH.out.2.1];simp [t0,t1]) (by rw [hH.out.2.2.1];simp [t2])).trans (by rw [hH.out.2.2.2];simp [tn])).symm)
     go_wp2_with fail
     go_ret
     exact ⟨_,_,rfl,hB.out.1.trans hst.out,by rw [←hr.out];rfl⟩
    have un:((j:Int) == 0) = false:=by
     have:¬ (j:Int) = 0:=by omega
     simpa using this
    have hr:=hidden (show false = r by rw [←hr];exact ((CP.GZ hp.out hal.out (by rw [hH.out.2.1];simp [t0,t1]) (by rw [hH.out.2.2.1];simp [t2])).trans (by rw [hH.out.2.2.2];simp [tn])).symm)
    go_wp2_with fail
    go_ret
    exact ⟨_,_,rfl,hB.out.1.trans hst.out,by rw [←hr.out];rfl⟩
   ·subst hKs
    have hk1:((2:Nat):Int) = 2:=rfl
    rw [hk1] at q0
    by_cases t0:0 < P
    ·have u0:0 < P:=by omega
     have hr:=hidden (show false = r by rw [←hr];exact (CP.GG (by rw [hH.out.2.1];simp [t0])).symm)
     go_wp2_with fail
     go_ret
     exact ⟨_,_,rfl,hB.out.1.trans hst.out,by rw [←hr.out];rfl⟩
    have u0:¬ 0 < P:=by omega
    by_cases t1:0 < A
    ·have u1:0 < A:=by omega
     have hr:=hidden (show false = r by rw [←hr];exact (CP.OU (by rw [hH.out.2.2.1];simp [t1])).symm)
     go_wp2_with fail
     go_ret
     exact ⟨_,_,rfl,hB.out.1.trans hst.out,by rw [←hr.out];rfl⟩
    have u1:¬ 0 < A:=by omega
    have hr:=hidden (show true = r by rw [←hr];exact ((CP.GZ hp.out hal.out (by rw [hH.out.2.1];simp [t0]) (by rw [hH.out.2.2.1];simp [t1])).trans (by rw [hH.out.2.2.2];simp)).symm)
    go_wp2_with fail
    go_ret
    exact ⟨_,_,rfl,hB.out.1.trans hst.out,by rw [←hr.out];rfl⟩
   ·subst hKs
    have hk1:((3:Nat):Int) = 3:=rfl
    rw [hk1] at q0
    by_cases t0:0 < C
    ·have u0:(0:Int) < (C:Int):=by omega
     have hr:=hidden (show false = r by rw [←hr];exact (CP.GG (by rw [hH.out.2.1];simp [t0])).symm)
     go_wp2_with fail
     go_ret
     exact ⟨_,_,rfl,hB.out.1.trans hst.out,by rw [←hr.out];rfl⟩
    have u0:¬ (0:Int) < (C:Int):=by omega
    by_cases t1:0 < P
    ·have u1:0 < P:=by omega
     have hr:=hidden (show false = r by rw [←hr];exact (CP.GG (by rw [hH.out.2.1];simp [t0,t1])).symm)
     go_wp2_with fail
     go_ret
     exact ⟨_,_,rfl,hB.out.1.trans hst.out,by rw [←hr.out];rfl⟩
    have u1:¬ 0 < P:=by omega
    by_cases t2:0 < A
    ·have u2:0 < A:=by omega
     have hr:=hidden (show false = r by rw [←hr];exact (CP.OU (by rw [hH.out.2.2.1];simp [t2])).symm)
     go_wp2_with fail
     go_ret
     exact ⟨_,_,rfl,hB.out.1.trans hst.out,by rw [←hr.out];rfl⟩
    have u2:¬ 0 < A:=by omega
    by_cases tn:j = 0
    ·have un:(j:Int) = 0:=by omega
     have hr:=hidden (show true = r by rw [←hr];exact ((CP.GZ hp.out hal.out (by rw [hH.out.2.1];simp [t0,t1]) (by rw [hH.out.2.2.1];simp [t2])).trans (by rw [hH.out.2.2.2];simp [tn])).symm)
     go_wp2_with fail
     go_ret
     exact ⟨_,_,rfl,hB.out.1.trans hst.out,by rw [←hr.out];rfl⟩
    have un:((j:Int) == 0) = false:=by
     have:¬ (j:Int) = 0:=by omega
     simpa using this
    have hr:=hidden (show false = r by rw [←hr];exact ((CP.GZ hp.out hal.out (by rw [hH.out.2.1];simp [t0,t1]) (by rw [hH.out.2.2.1];simp [t2])).trans (by rw [hH.out.2.2.2];simp [tn])).symm)
    go_wp2_with fail
    go_ret
    exact ⟨_,_,rfl,hB.out.1.trans hst.out,by rw [←hr.out];rfl⟩
   ·subst hKs
    have hk1:((4:Nat):Int) = 4:=rfl
    rw [hk1] at q0
    by_cases t0:0 < C
    ·have u0:(0:Int) < (C:Int):=by omega
     have hr:=hidden (show false = r by rw [←hr];exact (CP.GG (by rw [hH.out.2.1];simp [t0])).symm)
     go_wp2_with fail
     go_ret
     exact ⟨_,_,rfl,hB.out.1.trans hst.out,by rw [←hr.out];rfl⟩
    have u0:¬ (0:Int) < (C:Int):=by omega
    by_cases t1:0 < P
    ·have u1:0 < P:=by omega
     have hr:=hidden (show false = r by rw [←hr];exact (CP.GG (by rw [hH.out.2.1];simp [t0,t1])).symm)
     go_wp2_with fail
     go_ret
     exact ⟨_,_,rfl,hB.out.1.trans hst.out,by rw [←hr.out];rfl⟩
    have u1:¬ 0 < P:=by omega
    by_cases t2:0 < A
    ·have u2:0 < A:=by omega
     have hr:=hidden (show false = r by rw [←hr];exact (CP.OU (by rw [hH.out.2.2.1];simp [t2])).symm)
     go_wp2_with fail
     go_ret
     exact ⟨_,_,rfl,hB.out.1.trans hst.out,by rw [←hr.out];rfl⟩
    have u2:¬ 0 < A:=by omega
    have hr:=hidden (show true = r by rw [←hr];exact ((CP.GZ hp.out hal.out (by rw [hH.out.2.1];simp [t0,t1]) (by rw [hH.out.2.2.1];simp [t2])).trans (by rw [hH.out.2.2.2];simp)).symm)
    go_wp2_with fail
    go_ret
    exact ⟨_,_,rfl,hB.out.1.trans hst.out,by rw [←hr.out];rfl⟩
   ·subst hKs
    have hk1:((5:Nat):Int) = 5:=rfl
    rw [hk1] at q0
    by_cases t0:0 < C
    ·have u0:(0:Int) < (C:Int):=by omega
     have hr:=hidden (show false = r by rw [←hr];exact (CP.GG (by rw [hH.out.2.1];simp [t0])).symm)
     go_wp2_with fail
     go_ret
     exact ⟨_,_,rfl,hB.out.1.trans hst.out,by rw [←hr.out];rfl⟩
    have u0:¬ (0:Int) < (C:Int):=by omega
    have hr:=hidden (show true = r by rw [←hr];exact ((CP.GZ hp.out hal.out (by rw [hH.out.2.1];simp [t0]) (by rw [hH.out.2.2.1];simp [])).trans (by rw [hH.out.2.2.2];simp)).symm)
    go_wp2_with fail
    go_ret
    exact ⟨_,_,rfl,hB.out.1.trans hst.out,by rw [←hr.out];rfl⟩
   ·subst hKs
    have hk1:((6:Nat):Int) = 6:=rfl
    rw [hk1] at q0
    by_cases t0:0 < C
    ·have u0:(0:Int) < (C:Int):=by omega
     have hr:=hidden (show false = r by rw [←hr];exact (CP.GG (by rw [hH.out.2.1];simp [t0])).symm)
     go_wp2_with fail
     go_ret
     exact ⟨_,_,rfl,hB.out.1.trans hst.out,by rw [←hr.out];rfl⟩
    have u0:¬ (0:Int) < (C:Int):=by omega
    by_cases t1:0 < P
    ·have u1:0 < P:=by omega
     have hr:=hidden (show false = r by rw [←hr];exact (CP.GG (by rw [hH.out.2.1];simp [t0,t1])).symm)
     go_wp2_with fail
     go_ret
     exact ⟨_,_,rfl,hB.out.1.trans hst.out,by rw [←hr.out];rfl⟩
    have u1:¬ 0 < P:=by omega
    by_cases tn:j = 0
    ·have un:(j:Int) = 0:=by omega
     have hr:=hidden (show true = r by rw [←hr];exact ((CP.GZ hp.out hal.out (by rw [hH.out.2.1];simp [t0,t1]) (by rw [hH.out.2.2.1];simp [])).trans (by rw [hH.out.2.2.2];simp [tn])).symm)
     go_wp2_with fail
     go_ret
     exact ⟨_,_,rfl,hB.out.1.trans hst.out,by rw [←hr.out];rfl⟩
    have un:((j:Int) == 0) = false:=by
     have:¬ (j:Int) = 0:=by omega
     simpa using this
    have hr:=hidden (show false = r by rw [←hr];exact ((CP.GZ hp.out hal.out (by rw [hH.out.2.1];simp [t0,t1]) (by rw [hH.out.2.2.1];simp [])).trans (by rw [hH.out.2.2.2];simp [tn])).symm)
    go_wp2_with fail
    go_ret
    exact ⟨_,_,rfl,hB.out.1.trans hst.out,by rw [←hr.out];rfl⟩
theorem Hu {W wr w':World} {O o':Own} {B:Nat} {v yv:Value} {l y:List UInt8} (hb:Below B W wr) (hown:wr.ownsRow B 5 1 v l.length (bvs l)) (hB:B ≤ wr.heap.size) (hs:Step Nobody wr O w' o') (hy:Ew wr w' o' yv y) (hn:l.length + y.length ≤ 100000000) :
  ∃ nv w2,(Builtin.append_ #[23,23] 23 #[v,yv]).run Tryz.prog w' = .ok nv w2∧w2.ownsRow B 5 1 nv (l ++ y).length (bvs (l ++ y))∧Below B W w2∧B ≤ w2.heap.size:=by
 have h1:w'.ownsRow B 5 1 v l.length (bvs l):=Ci hown (fun k hk=>hs.block k (hown.lt k hk).2 (fun h=>h))
 have h2:Below B W w':=hb.trans (hs.below.mono hB)
 exact VD h2 h1 (Nat.le_trans hB hs.size) hy.bytes hn
theorem EE {B:Nat} {w w':World} (h:Below B w w') {k:Nat} {c:Obj} (hk:k < B) (hc:w.heap[k]? = some c):w'.heap[k]? = some c:=(h.block k hk).trans hc
theorem ZV {w:World} {o:Own} {base:Nat} (m:CP) {lv:Value} (hl:Lines w o base lv m.ls) (hll:∀ x ∈ m.ls,x.b.length ≤ 1000000) :
  Calls Tryz.prog 20 #[QK m lv] w (Ret Nobody w o fun v w' o'=>∃ bv,v = .tuple #[bv, .int .i64 (if m.may = true then 0 else 1)]∧Bytes w' o' bv m.put):=by
 obtain ⟨la,lc,rfl⟩:=hl.form
 obtain ⟨N,hN⟩:∃ x,m.ls.length = x:=⟨_,rfl⟩
 rw [hN] at hl ⊢
 have s1:=(Step.refl Nobody w o).alloc (.cells (EQ m (.slice la N lc)).toArray 46) (0,0)
 have b1:=heap_alloc_new w (.cells (EQ m (.slice la N lc)).toArray 46)
 have z1:(w.alloc (.cells (EQ m (.slice la N lc)).toArray 46)).heap.size = w.heap.size + 1:=by simp
 have hl1:=hl.step s1 (fun h=>h)
 obtain ⟨mb,hmb⟩:∃ b,w.heap.size = b:=⟨_,rfl⟩
 obtain ⟨W1,hW1⟩:∃ x,w.alloc (.cells (EQ m (.slice la N lc)).toArray 46) = x:=⟨_,rfl⟩
 obtain ⟨o1,ho1⟩:∃ x,Ak o w.heap.size (0,0) = x:=⟨_,rfl⟩
 have hbx:(Instr.box 46 (QK m (.slice la N lc))).run Tryz.prog w = .ok (.pointer (some ⟨w.heap.size,0,none⟩)) W1:=by rw [←hW1];kernel_rfl
 rw [hW1,ho1] at s1 hl1
 rw [hW1] at b1 z1
 rw [hmb] at b1 hbx z1
 have hld:=Ip (AV b1) rfl
 have hcm:=ZW m hl1 (fun x hx=>Nat.le_trans (hll x hx) (by omega))
 unfold QK at hbx hcm ⊢
 unfold EQ at b1 hld
 have hldH:=hidden hld
 have hbxH:=hidden hbx
 have hcmH:=hidden hcm
 clear hl hld hcm hbx hW1 ho1
 cases hmay:m.may with
 | false =>
  rw [hmay] at hcmH
  have hput:m.put = []:=by unfold CP.put;rw [hmay];rfl
  rw [hput]
  have hF:=hidden s1
  clear s1 b1 hl1 z1 hput
  go_enter Tryz.func20,Tryz.ntmps20
  go_wp2_with (first
   | ((with_reducible apply BM);exact hbxH.out;simp only [Act.put,lsa,lsz,lss])
   | ((with_reducible apply Bo);exact hldH.out;simp only [Act.put,lsa,lsz,lss]))
  refine hcmH.out.mono ?_;rintro e w2 ⟨v2,o2,rfl,hs2,rfl⟩
  go_wp2_with fail
  go_ret2
  exact ⟨_,_,rfl,hF.out.trans hs2,_,rfl, .inl ⟨⟨_,_,rfl⟩,rfl,rfl⟩⟩
 | true =>
  rw [hmay] at hcmH
  obtain ⟨hM,ha0,hc0⟩:=(CP.TC m).1 hmay
  have hput:m.put = m.msg.put:=by unfold CP.put;rw [hmay];rfl
  rw [hput]
  have hby:=NK hM
  obtain ⟨A,hA⟩:∃ A:Nat,m.at' = A:=⟨m.at'.toNat,by omega⟩
  obtain ⟨P,hP⟩:∃ A:Nat,m.com = A:=⟨m.com.toNat,by omega⟩
  have hA2:m.msg.at' = A:=by show m.at'.toNat = A;omega
  have hP2:m.msg.com = P:=by show m.com.toNat = P;omega
  have hA3:A ≤ 256:=by have:=hM.a1;omega
  have hP3:P ≤ 256:=by have:=hM.o1;omega
  have hN3:N ≤ 256:=by have:m.ls.length ≤ 256:=hM.n1;omega
  have hk3:m.k ≤ 6:=hM.k6
  have hkm:m.msg.k = m.k:=rfl
  obtain ⟨K,hK⟩:∃ x,m.k = x:=⟨_,rfl⟩
  have hI:((0:Int) ≤ (K:Int)∧(K:Int) ≤ 6)∧((0:Int) ≤ (A:Int)∧(A:Int) ≤ 256)∧((0:Int) ≤ (P:Int)∧(P:Int) ≤ 256)∧((0:Int) ≤ (N:Int)∧(N:Int) ≤ 256):=by omega
  obtain ⟨R,hR⟩:∃ R,m.msg.put = R:=⟨_,rfl⟩
  rw [hR]
  unfold BG.put at hR
  rw [hA2,hP2,hkm,hK,show m.msg.e = m.e from rfl,show m.msg.c = m.c from rfl,show m.msg.ls = m.ls from rfl] at hR
  unfold GR at hR
  rw [hN] at hR
  rw [hA,hP,hK] at hldH hbxH hcmH b1 ⊢
  have hbvk:bv (UInt8.ofNat K) = .int .u8 (K:Int):=by
   unfold bv
   rw [UInt8.toNat_ofNat']
   congr 1;omega
  have hRH:=hidden hR
  have hMM:=hidden (And.intro hM.hl (And.intro hby (And.intro hN hll)))
  have hB1:=hidden (And.intro s1 (And.intro b1 (And.intro z1 hl1)))
  have hmlt:mb < W1.heap.size:=by omega
  clear hput hR hby hA hP hA2 hP2 hkm hK hM ha0 hc0 hmay s1 hl1 z1 hN hll
  go_enter Tryz.func20,Tryz.ntmps20
  go_wp2_with (first
   | ((with_reducible apply BM);exact hbxH.out;simp only [Act.put,lsa,lsz,lss])
   | ((with_reducible apply Bo);exact hldH.out;simp only [Act.put,lsa,lsz,lss]))
  refine hcmH.out.mono ?_;rintro e w2 ⟨v2,o2,rfl,hs2,rfl⟩
  have hbe:Below W1.heap.size W1 (w2.alloc (.cells (bvs [UInt8.ofNat K]).toArray 5)):=hs2.below.alloc hs2.size _
  have hro:(w2.alloc (.cells (bvs [UInt8.ofNat K]).toArray 5)).ownsRow W1.heap.size 5 1 (.slice (some ⟨w2.heap.size,0,none⟩) 1 1) [UInt8.ofNat K].length (bvs [UInt8.ofNat K]):=
   ⟨rfl, .inr ⟨w2.heap.size,1,(bvs [UInt8.ofNat K]).toArray,rfl,hs2.size,heap_alloc_new w2 _,Nat.le_refl _,by simp [maxLen],rfl,rfl⟩⟩
  have hsz:W1.heap.size ≤ (w2.alloc (.cells (bvs [UInt8.ofNat K]).toArray 5)).heap.size:=by have:=hs2.size;simp;omega
  have bm:=EE hs2.below hmlt b1
  have q0:=cell_of_block bm 0
  simp only [List.getElem?_cons_zero] at q0
  rw [show bvs [UInt8.ofNat K] = [bv (UInt8.ofNat K)] from rfl,hbvk] at hbe hro hsz
  rw [show [Value.int .u8 (K:Int)] = bvs [UInt8.ofNat K] by rw [show bvs [UInt8.ofNat K] = [bv (UInt8.ofNat K)] from rfl,hbvk]] at hro
  have hwe:w2.alloc (.cells (bvs [UInt8.ofNat K]).toArray 5) = w2.alloc (.cells [Value.int .u8 (K:Int)].toArray 5):=by rw [show bvs [UInt8.ofNat K] = [bv (UInt8.ofNat K)] from rfl,hbvk]
  rw [hwe] at hro
  obtain ⟨L0,hL0⟩:∃ L,[UInt8.ofNat K] = L:=⟨_,rfl⟩
  have hl0:=hidden (show L0.length = 1 by rw [←hL0];rfl)
  rw [hL0] at hro
  have hmblt:(w2.alloc (.cells [Value.int .u8 (K:Int)].toArray 5)).heap[mb]? = some _:=EE hbe hmlt b1
  clear hs2 bm hwe hbvk
  have q1:=cell_of_block hmblt 1
  simp only [List.getElem?_cons_zero,List.getElem?_cons_succ] at q1
  have hn:=EP m.e 8 (by omega) (w2.alloc (.cells [Value.int .u8 (K:Int)].toArray 5)) (fun _=>(0,0))
  go_wp2_with fail
  refine hn.mono ?_;rintro e wn0 ⟨vn0,on0,rfl,hs,hnb⟩
  obtain ⟨nv0,wb0,hrun,hro0,hbe0,hsz0⟩:=Hu hbe hro hsz hs hnb (by rw [Az,hl0.out];omega)
  obtain ⟨xa0,xc0,rfl⟩:=BA hnb.1
  obtain ⟨L1,hL1⟩:∃ L,L0 ++ be 8 m.e = L:=⟨_,rfl⟩
  have hl1:=hidden (show L1.length = 9 by rw [←hL1,List.length_append,Az,hl0.out])
  rw [hL1] at hro0
  have hmblt0:wb0.heap[mb]? = some _:=EE hbe0 hmlt b1
  obtain ⟨za0,zc0,rfl⟩:=BA hro0
  have hrunH:=hidden hrun
  clear hs hnb hrun hro hbe hsz q1 hn hmblt q0
  have hro:=hro0
  have hbe:=hbe0
  have hsz:=hsz0
  have hmblt:=hmblt0
  clear hro0 hbe0 hsz0 hmblt0
  have q2:=cell_of_block hmblt 2
  simp only [List.getElem?_cons_zero,List.getElem?_cons_succ] at q2
  have hn:=EP m.c 8 (by omega) wb0 (fun _=>(0,0))
  go_wp2_with ((with_reducible apply Bl);exact hrunH.out;simp only [Act.put,lsa,lsz,lss])
  refine hn.mono ?_;rintro e wn1 ⟨vn1,on1,rfl,hs,hnb⟩
  obtain ⟨nv1,wb1,hrun,hro1,hbe1,hsz1⟩:=Hu hbe hro hsz hs hnb (by rw [Az,hl1.out];omega)
  obtain ⟨xa1,xc1,rfl⟩:=BA hnb.1
  obtain ⟨L2,hL2⟩:∃ L,L1 ++ be 8 m.c = L:=⟨_,rfl⟩
  have hl2:=hidden (show L2.length = 17 by rw [←hL2,List.length_append,Az,hl1.out])
  rw [hL2] at hro1
  have hmblt1:wb1.heap[mb]? = some _:=EE hbe1 hmlt b1
  obtain ⟨za1,zc1,rfl⟩:=BA hro1
  have hrunH:=hidden hrun
  clear hs hnb hrun hro hbe hsz q2 hn hmblt
  have hro:=hro1
  have hbe:=hbe1
  have hsz:=hsz1
  have hmblt:=hmblt1
  clear hro1 hbe1 hsz1 hmblt1
  have q3:=cell_of_block hmblt 3
  simp only [List.getElem?_cons_zero,List.getElem?_cons_succ] at q3
  have hn:=EP (BitVec.ofNat 64 A) 8 (by omega) wb1 (fun _=>(0,0))
  rw [OQ (by omega)] at hn
  go_wp2_with ((with_reducible apply Bl);exact hrunH.out;simp only [Act.put,lsa,lsz,lss])
  refine hn.mono ?_;rintro e wn2 ⟨vn2,on2,rfl,hs,hnb⟩
  obtain ⟨nv2,wb2,hrun,hro2,hbe2,hsz2⟩:=Hu hbe hro hsz hs hnb (by rw [Az,hl2.out];omega)
  obtain ⟨xa2,xc2,rfl⟩:=BA hnb.1
  obtain ⟨L3,hL3⟩:∃ L,L2 ++ be 8 (BitVec.ofNat 64 A) = L:=⟨_,rfl⟩
  have hl3:=hidden (show L3.length = 25 by rw [←hL3,List.length_append,Az,hl2.out])
  rw [hL3] at hro2
  have hmblt2:wb2.heap[mb]? = some _:=EE hbe2 hmlt b1
  obtain ⟨za2,zc2,rfl⟩:=BA hro2
  have hrunH:=hidden hrun
  clear hs hnb hrun hro hbe hsz q3 hn hmblt
  have hro:=hro2
  have hbe:=hbe2
  have hsz:=hsz2
  have hmblt:=hmblt2
  clear hro2 hbe2 hsz2 hmblt2
  have q4:=cell_of_block hmblt 4
  simp only [List.getElem?_cons_zero,List.getElem?_cons_succ] at q4
  have hn:=EP (BitVec.ofNat 64 P) 8 (by omega) wb2 (fun _=>(0,0))
  rw [OQ (by omega)] at hn
  go_wp2_with ((with_reducible apply Bl);exact hrunH.out;simp only [Act.put,lsa,lsz,lss])
  refine hn.mono ?_;rintro e wn3 ⟨vn3,on3,rfl,hs,hnb⟩
  obtain ⟨nv3,wb3,hrun,hro3,hbe3,hsz3⟩:=Hu hbe hro hsz hs hnb (by rw [Az,hl3.out];omega)
  obtain ⟨xa3,xc3,rfl⟩:=BA hnb.1
  obtain ⟨L4,hL4⟩:∃ L,L3 ++ be 8 (BitVec.ofNat 64 P) = L:=⟨_,rfl⟩
  have hl4:=hidden (show L4.length = 33 by rw [←hL4,List.length_append,Az,hl3.out])
  rw [hL4] at hro3
  have hmblt3:wb3.heap[mb]? = some _:=EE hbe3 hmlt b1
  obtain ⟨za3,zc3,rfl⟩:=BA hro3
  have hrunH:=hidden hrun
  clear hs hnb hrun hro hbe hsz q4 hn hmblt
  have hro:=hro3
  have hbe:=hbe3
  have hsz:=hsz3
  have hmblt:=hmblt3
  clear hro3 hbe3 hsz3 hmblt3
  have q5:=cell_of_block hmblt 5
  simp only [List.getElem?_cons_zero,List.getElem?_cons_succ] at q5
  have hn:=EP (BitVec.ofNat 64 N) 8 (by omega) wb3 (fun _=>(0,0))
  rw [OQ (by omega)] at hn
  go_wp2_with ((with_reducible apply Bl);exact hrunH.out;simp only [Act.put,lsa,lsz,lss])
  refine hn.mono ?_;rintro e wn4 ⟨vn4,on4,rfl,hs,hnb⟩
  obtain ⟨nv4,wb4,hrun,hro4,hbe4,hsz4⟩:=Hu hbe hro hsz hs hnb (by rw [Az,hl4.out];omega)
  obtain ⟨xa4,xc4,rfl⟩:=BA hnb.1
  obtain ⟨L5,hL5⟩:∃ L,L4 ++ be 8 (BitVec.ofNat 64 N) = L:=⟨_,rfl⟩
  have hl5:=hidden (show L5.length = 41 by rw [←hL5,List.length_append,Az,hl4.out])
  rw [hL5] at hro4
  have hmblt4:wb4.heap[mb]? = some _:=EE hbe4 hmlt b1
  obtain ⟨za4,zc4,rfl⟩:=BA hro4
  have hrunH:=hidden hrun
  clear hs hnb hrun hro hbe hsz q5 hn hmblt
  have hro:=hro4
  have hbe:=hbe4
  have hsz:=hsz4
  have hmblt:=hmblt4
  clear hro4 hbe4 hsz4 hmblt4
  go_wp2_with ((with_reducible apply Bl);exact hrunH.out;simp only [Act.put,lsa,lsz,lss])
  have hHd:=hidden (show L5 ++ encs m.ls = R by rw [←hRH.out, ←hL5, ←hL4, ←hL3, ←hL2, ←hL1, ←hL0];simp [List.append_assoc])
  clear hL0 hL1 hL2 hL3 hL4 hL5
  have hro0:=hidden hro
  have hbe0:=hidden hbe
  have hsz0:=hidden hsz
  clear hro hbe hsz hmblt
  go_loopw [4,5] (fun out i wr=>∃ j:Nat,j ≤ N∧i = .int .i64 j∧wr.ownsRow W1.heap.size 5 1 out (L5 ++ encs (m.ls.take j)).length (bvs (L5 ++ encs (m.ls.take j)))∧Below W1.heap.size W1 wr∧W1.heap.size ≤ wr.heap.size) (fun _ i _=>N - (intOf i).toNat)
  case atStart=>exact ⟨0,Nat.zero_le _,rfl,by simpa [encs] using hro0.out,hbe0.out,hsz0.out⟩
  case round =>
   clear hro0 hbe0 hsz0
   obtain ⟨j,hj,rfl,hro,hbe,hsz⟩:=hrel
   have bm:=EE hbe hmlt b1
   have q5:=cell_of_block bm 5
   simp only [List.getElem?_cons_zero,List.getElem?_cons_succ] at q5
   by_cases hlt:j < N
   ·have hltI:(0:Int) ≤ (j:Int)∧(j:Int) < (N:Int):=by omega
    obtain ⟨hml,hby,hN,hll⟩:=hMM.out
    obtain ⟨x,hx⟩:∃ x,m.ls[j]? = some x:=⟨_,List.getElem?_eq_getElem (by rw [hN];exact hlt)⟩
    have hmem:=List.mem_of_getElem? hx
    have hxb:x.b.length ≤ 4096:=(hml x hmem).2.2
    have hln:=hB1.out.2.2.2.step (Step.OT hbe (0,0)) (fun h=>h)
    obtain ⟨b,off,bv,rfl,hrg,hyb, -⟩:=hln.at hx
    obtain ⟨va,vc,rfl⟩:=Aq hyb
    obtain ⟨n,hxn⟩:∃ n,x.b.length = n:=⟨_,rfl⟩
    have d0:=hrg 0 _ rfl
    have hlen:(L5 ++ encs (m.ls.take j)).length ≤ 2000000:=by
     rw [List.length_append,hl5.out]
     have h1:=Hf m.ls j
     have h2:(encs m.ls).length ≤ 1060000:=hby
     omega
    have htk:encs (m.ls.take (j + 1)) = encs (m.ls.take j) ++ x.enc:=by rw [List.take_add_one,hx];exact KU _ _
    have hlH:=hidden hlen
    have htkH:=hidden htk
    have hx0:=hidden (And.intro hx hxb)
    obtain ⟨LL,hLL⟩:∃ L,L5 ++ encs (m.ls.take j) = L:=⟨_,rfl⟩
    rw [hLL] at hro hlH
    have hLLH:=hidden hLL
    have hn:=EP x.e 8 (by omega) wr (fun _=>(0,0))
    have e0:wr.cell? ⟨b,off + j * 2,none⟩ = some (.int .u64 (x.e.toNat:Int)):=d0
    obtain ⟨ra,rc,rfl⟩:=BA hro
    clear hrg hyb hx hln hml hby hN hll hmem hxb d0 hlen htk hLL bm
    go_wp2_with fail
    refine hn.mono ?_;rintro e w3 ⟨v3,o3,rfl,hs,hnb⟩
    obtain ⟨nv3,w4,hrun,hro4,hbe4,hsz4⟩:=Hu hbe hro hsz hs hnb (by rw [Az];have:=hlH.out;omega)
    obtain ⟨xa,xc,rfl⟩:=BA hnb.1
    have hrunH:=hidden hrun
    have bm4:=EE hbe4 hmlt b1
    have q5':=cell_of_block bm4 5
    simp only [List.getElem?_cons_zero,List.getElem?_cons_succ] at q5'
    have hln4:=hB1.out.2.2.2.step (Step.OT hbe4 (0,0)) (fun h=>h)
    obtain ⟨b',off',bv',hab,hrg4,hyb4, -⟩:=hln4.at hx0.out.1
    simp only [Option.some.injEq,Addr.mk.injEq,and_true] at hab
    obtain ⟨rfl,rfl⟩:=hab
    obtain ⟨va4,vc4,rfl⟩:=Aq hyb4
    have hte:=WR hyb4 (by have:=hx0.out.2;omega)
    obtain ⟨Y,hY⟩:∃ Y,be 4 (BitVec.ofNat 64 x.b.length) ++ x.b = Y:=⟨_,rfl⟩
    have hYl:=hidden (show Y.length = 4 + x.b.length by rw [←hY,List.length_append,Az])
    rw [hY] at hte
    have hYH:=hidden hY
    clear hY
    have e1:w4.cell? ⟨b,off + j * 2 + 1,none⟩ = some (.slice va4 x.b.length vc4):=hrg4 1 _ rfl
    obtain ⟨ra4,rc4,rfl⟩:=BA hro4
    obtain ⟨L6,hL6⟩:∃ L,LL ++ be 8 x.e = L:=⟨_,rfl⟩
    have hl6:=hidden (show L6.length ≤ 2000008 by rw [←hL6,List.length_append,Az];have:=hlH.out;omega)
    rw [hL6] at hro4 hrunH
    have hL6H:=hidden hL6
    clear hs hnb hrun hro hbe hsz q5 hn e0 bm4 hln4 hrg4 hyb4 hxn hL6
    go_wp2_with ((with_reducible apply Bl);exact hrunH.out;simp only [Act.put,lsa,lsz,lss])
    refine hte.mono ?_;rintro e w5 ⟨v5,o5,rfl,hs5,hnb5⟩
    obtain ⟨nv6,w6,hrun6,hro6,hbe6,hsz6⟩:=Hu hbe4 hro4 hsz4 hs5 hnb5 (by rw [hYl.out];have:=hl6.out;have:=hx0.out.2;omega)
    obtain ⟨xa5,xc5,rfl⟩:=BA hnb5.1
    have hF:=hidden (show w6.ownsRow W1.heap.size 5 1 nv6 (L5 ++ encs (m.ls.take (j + 1))).length (bvs (L5 ++ encs (m.ls.take (j + 1)))) from by
     rw [htkH.out, ←List.append_assoc,hLLH.out]
     unfold Ar.enc
     rw [hYH.out, ←List.append_assoc LL,hL6H.out]
     exact hro6)
    have hrun6H:=hidden hrun6
    clear hs5 hnb5 hrun6 hro6 hro4 hbe4 hsz4 q5' e1 hte
    go_wp2_with ((with_reducible apply Bl);exact hrun6H.out;simp only [Act.put,lsa,lsz,lss])
    go_roundw
    case rel=>exact ⟨j + 1,by omega,by go_num,hF.out,hbe6,hsz6⟩
    case measure=>simp [intOf];omega
   ·obtain rfl:j = N:=by omega
    have hfin:L5 ++ encs (m.ls.take j) = R:=by
     rw [List.take_of_length_le (by rw [hMM.out.2.2.1];exact Nat.le_refl _)];exact hHd.out
    rw [hfin] at hro
    obtain ⟨ra,rc,rfl⟩:=BA hro
    have hF:=hidden (And.intro hro hbe)
    clear hro hbe hfin bm
    go_wp2_with fail
    go_ret2
    have hs:=hB1.out.1.trans (Step.OT hF.out.2 (0,0))
    have hnb:Ew W1 _ (Qi W1 o1 (0,0)) _ R:=XI hF.out.1
    exact ⟨_,_,rfl,hs,_,rfl,hnb.bytes⟩
theorem Oh {w:World} {o:Own} {b1 b2:Nat} {v1 v2:Value} {ls:List Ar} (h1:Lines w o b1 v1 ls) (h2:Lines w o b2 v2 ls) (hn:ls.length ≤ 1000000) :
  Calls Tryz.prog 24 #[v1,v2] w (Ret Nobody w o fun v _ _=>v = .bool true):=by
 obtain ⟨va,vc,rfl⟩:=h1.form
 obtain ⟨ua,uc,rfl⟩:=h2.form
 obtain ⟨N,hN⟩:∃ N,ls.length = N:=⟨_,rfl⟩
 rw [hN] at h1 h2 hn ⊢
 have hNI:(0:Int) ≤ (N:Int)∧(N:Int) ≤ 1000000:=by omega
 have hH:=hidden (And.intro h1 (And.intro h2 hN))
 clear h1 h2 hN hn
 go_enter Tryz.func24,Tryz.ntmps24
 go_wp2_with fail
 go_loopw [5] (fun i wr=>∃ (j:Nat) (oj:Own),j ≤ N∧i = .int .i64 j∧Step Nobody w o wr oj) (fun i _=>N - (intOf i).toNat)
 case atStart=>exact ⟨0,o,Nat.zero_le _,rfl,Step.refl _ _ _⟩
 case round =>
  obtain ⟨j,oj,hj,rfl,hst⟩:=hrel
  by_cases hlt:j < N
  ·have hltI:(0:Int) ≤ (j:Int)∧(j:Int) < (N:Int):=by omega
   obtain ⟨h1,h2,hN⟩:=hH.out
   obtain ⟨x,hx⟩:∃ x,ls[j]? = some x:=⟨_,List.getElem?_eq_getElem (by rw [hN];exact hlt)⟩
   have hsd:=hst.drew
   obtain ⟨b,off,bv,rfl,r1,y1, -⟩:=(h1.step hsd (fun h=>h)).at hx
   obtain ⟨b',off',bv',rfl,r2,y2, -⟩:=(h2.step hsd (fun h=>h)).at hx
   obtain ⟨E,hE⟩:∃ E,x.e.toNat = E:=⟨_,rfl⟩
   obtain ⟨X,hX⟩:∃ X,x.b = X:=⟨_,rfl⟩
   rw [hX] at y1 y2
   rw [hE] at r1 r2
   have c1:=CY y1
   have c2:=CY y2
   have d1:=r1 0 _ rfl
   have d2:=r1 1 _ rfl
   have d3:=r2 0 _ rfl
   have d4:=r2 1 _ rfl
   have hS:=And.intro (show wr.drew.cell? ⟨b,off + j * 2,none⟩ = some (.int .u64 (E:Int)) from d1) (And.intro d2 (And.intro (show wr.drew.cell? ⟨b',off' + j * 2,none⟩ = some (.int .u64 (E:Int)) from d3) (And.intro d4 (And.intro c1 c2))))
   have hF:=hidden hsd
   clear h1 h2 hN hx r1 r2 y1 y2 c1 c2 d1 d2 d3 d4 hst hsd hE hX
   go_wp2_with fail
   refine Aa (fun w'=>w'.cell? ⟨b,off + j * 2,none⟩ = some (.int .u64 (E:Int))∧w'.cell? ⟨b,off + j * 2 + 1,none⟩ = some bv∧w'.cell? ⟨b',off' + j * 2,none⟩ = some (.int .u64 (E:Int))∧w'.cell? ⟨b',off' + j * 2 + 1,none⟩ = some bv'∧(convert 23 9 bv).run Tryz.prog w' = .ok (.string ⟨X.toArray⟩) w'∧(convert 23 9 bv').run Tryz.prog w' = .ok (.string ⟨X.toArray⟩) w') (fun _=>true) (by kernel_rfl) hS (fun hHeld => ?_)
   refine tq 0 ?_
   refine tq 1 ?_
   refine tq 2 ?_
   refine tq 3 ?_
   refine tq 4 ?_
   refine tq 5 ?_
   refine tq 6 ?_
   refine tq 7 ?_
   refine tq 8 ?_
   refine tq 9 ?_
   refine tq 10 ?_
   refine tq 11 ?_
   refine tq 12 ?_
   refine tq 13 ?_
   refine tq 14 ?_
   refine tq 15 ?_
   refine tq 16 ?_
   refine tq 17 ?_
   refine tq 18 ?_
   refine tq 19 ?_
   refine tq 20 ?_
   refine tq 21 ?_
   refine tq 22 ?_
   refine tq 23 ?_
   refine tq 24 ?_
   refine tq 25 ?_
   refine Ae (by kernel_rfl) ?_ _
   clear hHeld hS
   go_wp2_with fail
   go_roundw
   case rel=>exact ⟨j + 1,oj,by omega,by go_num,hF.out⟩
   case measure=>simp [intOf];omega
  ·obtain rfl:j = N:=by omega
   go_wp2_with fail
   go_ret
   exact ⟨_,_,rfl,hst,rfl⟩
structure Eo where
 k:Nat
 src:Int
 m:CP
 b:List UInt8
structure Eo.Wf (x:Eo):Prop where
 k:x.k < 256
 src : -9223372036854775808 ≤ x.src∧x.src ≤ 9223372036854775807
 kind:x.m.k < 256
 at' : -9223372036854775808 ≤ x.m.at'∧x.m.at' ≤ 9223372036854775807
 com : -9223372036854775808 ≤ x.m.com∧x.m.com ≤ 9223372036854775807
def FH (x:Eo) (lv bv:Value):List Value:=[.int .u8 (x.k:Int), .int .i64 x.src, .int .u8 (x.m.k:Int), .int .u64 (x.m.e.toNat:Int), .int .u64 (x.m.c.toNat:Int), .int .i64 x.m.at', .int .i64 x.m.com,lv,bv]
def Ii (w:World) (o:Own) (v:Value) (l:List Eo):Prop:=
 ((∃ a c,v = .slice a 0 c)∧l = []) ∨ ∃ b off cap,v = .slice (some ⟨b,off,none⟩) l.length cap∧l.length ≤ cap∧cap ≤ maxLen∧(o b).1 = 0∧b < w.heap.size ∧
  ∀ i (h:i < l.length),l[i].Wf∧∃ lv bv,w.rangeAt b (off + i * 9) (FH l[i] lv bv)∧Lines w o 0 lv l[i].m.ls∧Bytes w o bv l[i].b
theorem Ii.step {T:Nat→Prop} {w w':World} {o o':Own} {v:Value} {l:List Eo} (h:Ii w o v l) (s:Step T w o w' o') (hT:¬ T 0):Ii w' o' v l:=by
 rcases h with h | ⟨b,off,cap,hv,hl,hm,ho,hb,hr⟩
 ·exact .inl h
 ·refine .inr ⟨b,off,cap,hv,hl,hm,by rw [s.own b hb];exact ho,Nat.lt_of_lt_of_le hb s.size,fun i hi => ?_⟩
  obtain ⟨h1,lv,bv,h2,h3,h4⟩:=hr i hi
  exact ⟨h1,lv,bv,Cf h2 (s.block b hb (by rw [ho];exact hT)),h3.step s hT,h4.step s hT⟩
theorem Ii.form {w:World} {o:Own} {v:Value} {l:List Eo} (h:Ii w o v l):∃ a c,v = .slice a l.length c:=by
 rcases h with ⟨⟨a,c,rfl⟩,rfl⟩ | ⟨b,off,cap,rfl,_⟩ <;> exact ⟨_,_,rfl⟩
theorem Ii.at {w:World} {o:Own} {a:Option Addr} {n c:Nat} {l:List Eo} (h:Ii w o (.slice a n c) l) {i:Nat} {x:Eo} (hx:l[i]? = some x) :
  ∃ b off lv bv,a = some ⟨b,off,none⟩∧w.rangeAt b (off + i * 9) (FH x lv bv)∧Lines w o 0 lv x.m.ls∧Bytes w o bv x.b∧x.Wf∧b < w.heap.size∧(o b).1 = 0:=by
 obtain ⟨hi,rfl⟩:=List.getElem?_eq_some_iff.1 hx
 rcases h with ⟨_,rfl⟩ | ⟨b,off,cap,hv,hl,hm,ho,hb,hr⟩
 ·simp at hi
 ·simp only [Value.slice.injEq] at hv
  obtain ⟨rfl,rfl,rfl⟩:=hv
  obtain ⟨h1,lv,bv,h2,h3,h4⟩:=hr i hi
  exact ⟨b,off,lv,bv,rfl,h2,h3,h4,h1,hb,ho⟩
section
variable {H:Type} {enc:TypeId × Value→H} {W:World}
theorem Oq {fuel:Nat} {v:Value} {x:DataW H × List MemPlace} (h:DataW.trod enc Tryz.prog W 0 (fun _=>true) true fuel 39 [v] = some x):∃ l:List Eo,Ii W (fun _=>(0,0)) v l:=by
 have c48:Tryz.prog.cellsOf 48 = 9:=by kernel_rfl
 have c46:Tryz.prog.cellsOf 46 = 6:=by kernel_rfl
 have c5:Tryz.prog.cellsOf 5 = 1:=by kernel_rfl
 have c3:Tryz.prog.cellsOf 3 = 1:=by kernel_rfl
 have c34:Tryz.prog.cellsOf 34 = 1:=by kernel_rfl
 have c32:Tryz.prog.cellsOf 32 = 1:=by kernel_rfl
 have c23:Tryz.prog.cellsOf 23 = 1:=by kernel_rfl
 rcases Lu Tryz.underlying39 (by omega) h with ⟨a,c,rfl⟩ | ⟨b,off,len,cap,rfl,h0,hlc,hcm,hb,hel⟩
 ·exact ⟨[], .inl ⟨⟨a,c,rfl⟩,rfl⟩⟩
 ·obtain ⟨l,hl,hr⟩:=Ir (fun i (m:Eo)=>m.Wf∧∃ lv bv,W.rangeAt b (off + i * 9) (FH m lv bv)∧Lines W (fun _=>(0,0)) 0 lv m.m.ls∧Bytes W (fun _=>(0,0)) bv m.b) len (fun i hi=>by
   obtain ⟨cs',k1,k2,n,y,k3⟩:=hel i (by omega)
   rw [c48] at k1 k2
   obtain ⟨xs,n',_,_,_,hxs,hf⟩:=DataW.trod_struct Tryz.underlying48 k3
   match cs',k1 with
   | [v0,v1,v2,v3,v4,v5,v6,v7,v8],_ =>
    have f0:DataW.trod enc Tryz.prog W 0 (fun _=>true) true n' 5 (([v0,v1,v2,v3,v4,v5,v6,v7,v8].drop 0).take (Tryz.prog.cellsOf 5)) = xs[0]?:=hf 0 _ rfl
    have f1:DataW.trod enc Tryz.prog W 0 (fun _=>true) true n' 3 (([v0,v1,v2,v3,v4,v5,v6,v7,v8].drop 1).take (Tryz.prog.cellsOf 3)) = xs[1]?:=hf 1 _ rfl
    have f2:DataW.trod enc Tryz.prog W 0 (fun _=>true) true n' 46 (([v0,v1,v2,v3,v4,v5,v6,v7,v8].drop 2).take (Tryz.prog.cellsOf 46)) = xs[2]?:=hf 2 _ rfl
    have f3:DataW.trod enc Tryz.prog W 0 (fun _=>true) true n' 23 (([v0,v1,v2,v3,v4,v5,v6,v7,v8].drop 8).take (Tryz.prog.cellsOf 23)) = xs[3]?:=hf 3 _ rfl
    have hsz:xs.length = 4:=hxs
    simp only [c5,c3,c46,c23,List.drop_zero,List.take_succ_cons,List.take_zero,List.drop_succ_cons] at f0 f1 f2 f3
    rw [List.getElem?_eq_getElem (by omega)] at f0 f1 f2 f3
    obtain ⟨ys,n2,_,_,_,hys,hg⟩:=DataW.trod_struct Tryz.underlying46 f2
    have g0:DataW.trod enc Tryz.prog W 0 (fun _=>true) true n2 5 (([v2,v3,v4,v5,v6,v7].drop 0).take (Tryz.prog.cellsOf 5)) = ys[0]?:=hg 0 _ rfl
    have g1:DataW.trod enc Tryz.prog W 0 (fun _=>true) true n2 34 (([v2,v3,v4,v5,v6,v7].drop 1).take (Tryz.prog.cellsOf 34)) = ys[1]?:=hg 1 _ rfl
    have g2:DataW.trod enc Tryz.prog W 0 (fun _=>true) true n2 34 (([v2,v3,v4,v5,v6,v7].drop 2).take (Tryz.prog.cellsOf 34)) = ys[2]?:=hg 2 _ rfl
    have g3:DataW.trod enc Tryz.prog W 0 (fun _=>true) true n2 3 (([v2,v3,v4,v5,v6,v7].drop 3).take (Tryz.prog.cellsOf 3)) = ys[3]?:=hg 3 _ rfl
    have g4:DataW.trod enc Tryz.prog W 0 (fun _=>true) true n2 3 (([v2,v3,v4,v5,v6,v7].drop 4).take (Tryz.prog.cellsOf 3)) = ys[4]?:=hg 4 _ rfl
    have g5:DataW.trod enc Tryz.prog W 0 (fun _=>true) true n2 32 (([v2,v3,v4,v5,v6,v7].drop 5).take (Tryz.prog.cellsOf 32)) = ys[5]?:=hg 5 _ rfl
    have hsy:ys.length = 6:=hys
    simp only [c5,c3,c34,c32,List.drop_zero,List.take_succ_cons,List.take_zero,List.drop_succ_cons] at g0 g1 g2 g3 g4 g5
    rw [List.getElem?_eq_getElem (by omega)] at g0 g1 g2 g3 g4 g5
    obtain ⟨a0,e0,_,w0⟩:=DataW.trod_int Tryz.underlying5 f0
    obtain ⟨a1,e1,_,w1⟩:=DataW.trod_int Tryz.underlying3 f1
    obtain ⟨bs,hbs⟩:=JR f3
    obtain ⟨m0,d0,_,x0⟩:=DataW.trod_int Tryz.underlying5 g0
    obtain ⟨m1,d1,_,x1⟩:=DataW.trod_int Tryz.underlying34 g1
    obtain ⟨m2,d2,_,x2⟩:=DataW.trod_int Tryz.underlying34 g2
    obtain ⟨m3,d3,_,x3⟩:=DataW.trod_int Tryz.underlying3 g3
    obtain ⟨m4,d4,_,x4⟩:=DataW.trod_int Tryz.underlying3 g4
    obtain ⟨ls,hls⟩:=UN g5
    simp only [List.cons.injEq,and_true] at e0 e1 d0 d1 d2 d3 d4
    have b0:=Go.bounds_u8 w0
    have b1:=Go.bounds_i64 w1
    have q0:=Go.bounds_u8 x0
    have q1:=Go.bounds_u64 x1
    have q2:=Go.bounds_u64 x2
    have q3:=Go.bounds_i64 x3
    have q4:=Go.bounds_i64 x4
    have hb0:((a0.toNat:Nat):Int) = a0:=by omega
    have hm0:((m0.toNat:Nat):Int) = m0:=by omega
    have hm1:(((BitVec.ofNat 64 m1.toNat).toNat:Nat):Int) = m1:=by rw [BitVec.toNat_ofNat];omega
    have hm2:(((BitVec.ofNat 64 m2.toNat).toNat:Nat):Int) = m2:=by rw [BitVec.toNat_ofNat];omega
    subst e0 e1 d0 d1 d2 d3 d4
    exact ⟨⟨a0.toNat,a1,⟨m0.toNat,BitVec.ofNat 64 m1.toNat,BitVec.ofNat 64 m2.toNat,m3,m4,ls⟩,bs⟩,⟨by show a0.toNat < 256;omega,b1,by show m0.toNat < 256;omega,q3,q4⟩,v7,v8,by unfold FH;simp only [hb0,hm0,hm1,hm2];exact k2,hls,hbs⟩)
  exact ⟨l, .inr ⟨b,off,cap,by rw [hl],by omega,hcm,rfl,hb,hr⟩⟩
end
def Eo.size (x:Eo):Nat:=AP x.m.ls + x.b.length
def DU (l:List Eo):Nat:=(l.map Eo.size).sum
theorem IA (a b:List Eo):DU (a ++ b) = DU a + DU b:=by simp [DU]
structure iM (l:List Eo):Prop where
 n:l.length ≤ 40
 a:∀ x ∈ l,x.m.ls.length ≤ 40∧x.b.length ≤ 5000∧∀ y ∈ x.m.ls,y.b.length ≤ 200
 s:DU l ≤ 30000
def XB (x:Eo):Prop:=x.m.ls.length ≤ 40∧x.b.length ≤ 5000∧∀ y ∈ x.m.ls,y.b.length ≤ 200
theorem Ju {ls:List Ar} (h:∀ y ∈ ls,y.b.length ≤ 200):AP ls ≤ 200 * ls.length:=by
 induction ls with
 | nil=>simp [AP]
 | cons a t ih =>
  have h1:=ih (fun y hy=>h y (List.mem_cons_of_mem _ hy))
  have h2:=h a List.mem_cons_self
  have h3:AP (a :: t) = a.b.length + AP t:=by simp [AP]
  rw [h3,List.length_cons];omega
theorem UB {l:List Eo} (h:∀ x ∈ l,XB x):DU l ≤ 13000 * l.length:=by
 induction l with
 | nil=>simp [DU]
 | cons a t ih =>
  have h1:=ih (fun y hy=>h y (List.mem_cons_of_mem _ hy))
  obtain ⟨g1,g2,g3⟩:=h a List.mem_cons_self
  have h2:=Ju g3
  have h3:DU (a :: t) = AP a.m.ls + a.b.length + DU t:=by simp [DU,Eo.size]
  rw [h3,List.length_cons];omega
def bV (l:List Eo) (v:Value):Prop:=∃ r,v = .bool r∧(r = false→iM l)
theorem SE {w:World} {o:Own} {a:Option Addr} {n c:Nat} {k:Nat} {cs:List Value} (h:Slc w o (.slice a n c) k cs):n = k∧k ≤ maxLen:=by
 rcases h with ⟨⟨a',c',hv⟩,h0, -⟩ | ⟨b,off,cap,hv,hl,hm, -⟩
 ·simp only [Value.slice.injEq] at hv;exact ⟨by omega,by omega⟩
 ·simp only [Value.slice.injEq] at hv;exact ⟨by omega,by omega⟩
theorem OA {w:World} {o:Own} {v:Value} {l:List Eo} (h:Ii w o v l) :
  Calls Tryz.prog 17 #[v] w (Ret Nobody w o fun v _ _=>bV l v):=by
 obtain ⟨aa,ac,rfl⟩:=h.form
 obtain ⟨N,hN⟩:∃ N,l.length = N:=⟨_,rfl⟩
 by_cases hbig:40 < N
 ·rw [hN]
  have hbI:(40:Int) < (N:Int):=by omega
  clear h hN
  go_enter Tryz.func17,Tryz.ntmps17
  go_wp2_with fail
  go_ret
  exact ⟨_,o,rfl,Step.refl _ _ _,true,rfl,fun h=>by cases h⟩
 rw [hN] at h ⊢
 have hbI:¬ (40:Int) < (N:Int):=by omega
 have hNI:(0:Int) ≤ (N:Int)∧(N:Int) ≤ 40:=by omega
 have hH:=hidden h
 have hNH:=hidden hN
 clear h hN hbig
 go_enter Tryz.func17,Tryz.ntmps17
 go_wp2_with fail
 go_loopw [3,4,5] (fun nv i kv wr=>∃ (k:Nat),k ≤ N∧i = .int .i64 k∧nv = .int .i64 ((DU (l.take k):Nat):Int)∧(∀ x ∈ l.take k,XB x)∧wr = w) (fun _ i _ _=>N - (intOf i).toNat)
 case atStart=>exact ⟨0,Nat.zero_le _,rfl,rfl,by simp,rfl⟩
 case round =>
  obtain ⟨k,hk,rfl,rfl,hall,hwr⟩:=hrel
  subst hwr
  obtain ⟨Sz,hSz⟩:∃ n,DU (l.take k) = n:=⟨_,rfl⟩
  have hszb:Sz ≤ 520000:=by
   have h1:=UB hall
   rw [hSz,List.length_take] at h1
   omega
  have hSI:(0:Int) ≤ (Sz:Int)∧(Sz:Int) ≤ 520000:=by omega
  rw [hSz]
  have hallH:=hidden hall
  have hSzH:=hidden hSz
  clear hall hszb hSz
  by_cases hlt:k < N
  ·have hltI:(0:Int) ≤ (k:Int)∧(k:Int) < (N:Int):=by omega
   obtain ⟨x,hx⟩:∃ x,l[k]? = some x:=⟨_,List.getElem?_eq_getElem (by rw [hNH.out];exact hlt)⟩
   obtain ⟨b,off,lv,bw,rfl,hrg,hln,hby, -, -, -⟩:=hH.out.at hx
   obtain ⟨la,lc,rfl⟩:=hln.form
   obtain ⟨ya,yc,rfl⟩:=Aq hby
   have cL:wr.cell? ⟨b,off + k * 9 + 7,none⟩ = some (.slice la x.m.ls.length lc):=hrg 7 _ rfl
   have cB:wr.cell? ⟨b,off + k * 9 + 8,none⟩ = some (.slice ya x.b.length yc):=hrg 8 _ rfl
   have hxH:=hidden hx
   obtain ⟨L,hL⟩:∃ L,x.m.ls.length = L:=⟨_,rfl⟩
   obtain ⟨Y,hY⟩:∃ L,x.b.length = L:=⟨_,rfl⟩
   have hLm:L ≤ maxLen:=by
    obtain ⟨cs,hs, -⟩:=hln
    have:=(SE hs).2
    omega
   have hYm:Y ≤ maxLen:=by
    have:=(SE hby).2
    omega
   rw [hL] at cL hln
   rw [hY] at cB
   simp only [maxLen] at hLm hYm
   have hLI:(0:Int) ≤ (L:Int)∧(L:Int) ≤ 9223372036854775807∧(0:Int) ≤ (Y:Int)∧(Y:Int) ≤ 9223372036854775807:=by omega
   have hLH:=hidden (And.intro hL hY)
   have hlnH:=hidden hln
   clear hrg hby hx hln hL hY hLm hYm
   by_cases h40:40 < L
   ·have h40I:decide ((40:Int) < (L:Int)) = true:=decide_eq_true (by omega)
    go_wp2_with fail
    go_ret
    exact ⟨_,o,rfl,Step.refl _ _ _,true,rfl,fun h=>by cases h⟩
   by_cases h50:5000 < Y
   ·have h40I:decide ((40:Int) < (L:Int)) = false:=decide_eq_false (by omega)
    have h50I:decide ((5000:Int) < (Y:Int)) = true:=decide_eq_true (by omega)
    go_wp2_with fail
    go_ret
    exact ⟨_,o,rfl,Step.refl _ _ _,true,rfl,fun h=>by cases h⟩
   have h40I:decide ((40:Int) < (L:Int)) = false:=decide_eq_false (by omega)
   have h50I:decide ((5000:Int) < (Y:Int)) = false:=decide_eq_false (by omega)
   go_wp2_with fail
   go_loopw [3,5] (fun nv j wr2=>∃ (q:Nat),q ≤ L∧j = .int .i64 q∧nv = .int .i64 ((Sz + AP (x.m.ls.take q):Nat):Int)∧(∀ y ∈ x.m.ls.take q,y.b.length ≤ 200)∧wr2 = wr) (fun _ j _=>L - (intOf j).toNat)
   case atStart=>exact ⟨0,Nat.zero_le _,rfl,by simp [AP],by simp,rfl⟩
   case round =>
    obtain ⟨q,hq,rfl,rfl,hq200,hwr2⟩:=hrel
    subst hwr2
    obtain ⟨Z,hZ⟩:∃ Z,Sz + AP (x.m.ls.take q) = Z:=⟨_,rfl⟩
    have hZb:Z ≤ 560000:=by
     have h1:=Ju hq200
     rw [List.length_take] at h1
     omega
    have hZI:(0:Int) ≤ (Z:Int)∧(Z:Int) ≤ 560000:=by omega
    rw [hZ]
    have hqH:=hidden hq200
    have hZH:=hidden hZ
    clear hq200 hZ hZb
    by_cases hq2:q < L
    ·have hq2I:(q:Int) < (L:Int):=by omega
     obtain ⟨y,hy⟩:∃ y,x.m.ls[q]? = some y:=⟨_,List.getElem?_eq_getElem (by rw [hLH.out.1];exact hq2)⟩
     obtain ⟨b2,off2,bv,rfl,hrg2,hby2, -⟩:=hlnH.out.at hy
     obtain ⟨ba,bc,rfl⟩:=Aq hby2
     have cY:wr.cell? ⟨b2,off2 + q * 2 + 1,none⟩ = some (.slice ba y.b.length bc):=hrg2 1 _ rfl
     have hym:=(SE hby2).2
     obtain ⟨K,hK⟩:∃ K,y.b.length = K:=⟨_,rfl⟩
     rw [hK] at cY hym
     simp only [maxLen] at hym
     have hKI:(0:Int) ≤ (K:Int)∧(K:Int) ≤ 9223372036854775807:=by omega
     have hyH:=hidden (And.intro hy hK)
     clear hrg2 hby2 hy hK hym
     by_cases VC:200 < K
     ·have h200I:(200:Int) < (K:Int):=by omega
      go_wp2_with fail
      go_ret
      exact ⟨_,o,rfl,Step.refl _ _ _,true,rfl,fun h=>by cases h⟩
     ·have h200I:¬ (200:Int) < (K:Int):=by omega
      have hsumI:IntKind.i64.wrap ((Z:Int) + (K:Int)) = (Z:Int) + (K:Int):=IntWalk.i64_in _ (by omega)
      go_wp2_with fail
      go_roundw
      case rel=>exact ⟨q + 1,by omega,by go_num,by
       have h2:AP [y] = K:=by rw [←hyH.out.2];simp [AP]
       rw [List.take_add_one,hyH.out.1,DV];simp only [Option.toList_some,h2, ←hZH.out]
       congr 1;omega,fun z hz=>(by
        rw [List.take_add_one,hyH.out.1] at hz
        rcases List.mem_append.1 hz with hz | hz
        ·exact hqH.out z hz
        ·simp at hz;subst hz;rw [hyH.out.2];omega),(by first | trivial | rfl)⟩
      case measure=>simp [intOf];omega
    ·obtain rfl:q = L:=by omega
     have hall2:AP x.m.ls = Z - Sz∧Sz ≤ Z:=by
      have:=hZH.out
      rw [List.take_of_length_le (by rw [hLH.out.1];omega)] at this
      omega
     have hsumI:IntKind.i64.wrap ((Z:Int) + (Y:Int)) = (Z:Int) + (Y:Int):=IntWalk.i64_in _ (by omega)
     have hq2I:¬ (q:Int) < (q:Int):=by omega
     have hallH2:=hidden hall2
     clear hall2
     go_wp2_with fail
     go_roundw
     case rel=>exact ⟨k + 1,by omega,by go_num,by
      rw [List.take_add_one,hxH.out,IA,hSzH.out]
      have h1:=hallH2.out
      have h2:DU [x] = AP x.m.ls + x.b.length:=by simp [DU,Eo.size]
      simp only [Option.toList_some,h2,hLH.out.2]
      congr 2;omega,fun z hz=>(by
       rw [List.take_add_one,hxH.out] at hz
       rcases List.mem_append.1 hz with hz | hz
       ·exact hallH.out z hz
       ·simp at hz;subst hz
        refine ⟨by rw [hLH.out.1];omega,by rw [hLH.out.2];omega,fun y hy=>hqH.out y ?_⟩
        rw [List.take_of_length_le (by rw [hLH.out.1];omega)];exact hy),(by first | trivial | rfl)⟩
     case measure=>simp [intOf];omega
  ·obtain rfl:k = N:=by omega
   have hfin:DU l = Sz:=by rw [←hSzH.out,List.take_of_length_le (by rw [hNH.out];omega)]
   have hgood:∀ x ∈ l,XB x:=by
    have:=hallH.out
    rw [List.take_of_length_le (by rw [hNH.out];omega)] at this;exact this
   by_cases h3:30000 < Sz
   ·have h3I:(30000:Int) < (Sz:Int):=by omega
    go_wp2_with fail
    go_ret
    exact ⟨_,o,rfl,Step.refl _ _ _,true,rfl,fun h=>by cases h⟩
   ·have h3I:¬ (30000:Int) < (Sz:Int):=by omega
    go_wp2_with fail
    go_ret
    exact ⟨_,o,rfl,Step.refl _ _ _,_,rfl,fun _=>⟨by rw [hNH.out];omega,hgood,by omega⟩⟩
namespace Aj
def Kin (d:Nat) (x z:Aj):Prop:=x.id = z.id∧x.n = z.n∧x.waited ≤ z.waited + d
theorem Kin.refl (d:Nat) (x:Aj):Kin d x x:=⟨rfl,rfl,Nat.le_add_right _ _⟩
theorem Kin.at0 {x z:Aj} (h1:x.id = z.id) (h2:x.n = z.n) (h3:x.waited = 0) (d:Nat):Kin d x z:=⟨h1,h2,by rw [h3];exact Nat.zero_le _⟩
theorem Kin.trans {d e:Nat} {x y z:Aj} (h:Kin d x y) (g:Kin e y z):Kin (d + e) x z:=⟨h.1.trans g.1,h.2.1.trans g.2.1,by have:=h.2.2;have:=g.2.2;omega⟩
theorem RY (z:Aj) (mine:BitVec 64) (mat:List Int) (base:Nat) (ready:Bool):Kin 0 (z.count mine mat base ready) z:=by
 unfold count;simp only;split <;> exact ⟨rfl,rfl,Nat.le_refl _⟩
theorem Vs (z:Aj) (mine:BitVec 64) (has:List (Option (BitVec 64 × List Ar))):Kin 0 (z.lead mine has).1 z:=by
 unfold lead
 split
 ·exact Kin.refl _ _
 ·split
  ·exact Kin.refl _ _
  ·rename_i p _
   split
   ·exact (RY ({ z with k:=(z.k.Ee mine p.2).1,Ag:=min z.Ag p.2.length }:Aj) mine (List.replicate z.n (-1)) p.2.length false).trans (e:=0) ⟨rfl,rfl,Nat.le_refl _⟩
   ·exact ⟨rfl,rfl,Nat.zero_le _⟩
theorem Yl (z:Aj):Kin 0 z.stand.1 z:=by
 unfold stand
 simp only
 split
 ·exact Kin.refl _ _
 split
 ·exact (Vs _ _ _).trans (e:=0) ⟨rfl,rfl,Nat.zero_le _⟩
 ·exact Kin.refl _ _
theorem ZA (z:Aj):Kin 1 z.tick.1 z:=by
 unfold tick
 split
 ·exact Kin.refl _ _
 ·simp only
  split
  ·exact (Yl _).trans (e:=1) ⟨rfl,rfl,Nat.le_refl _⟩
  ·exact ⟨rfl,rfl,Nat.le_refl _⟩
theorem YT (z:Aj) (src:Nat) (m:BG):Kin 0 (z.Ec src m).1 z:=by
 have h0:∀ x:Aj,x.id = z.id→x.n = z.n→x.waited = 0→Kin 0 x z:=fun x a b c=>Kin.at0 a b c 0
 unfold Ec
 split
 ·unfold BK
  repeat (split <;> try first | exact Kin.refl _ _ | exact h0 _ rfl rfl rfl)
 split
 ·unfold Bj
  split
  ·split
   ·exact Kin.refl _ _
   ·exact (Vs _ _ _).trans (e:=0) ⟨rfl,rfl,Nat.le_refl _⟩
  ·exact Kin.refl _ _
 split
 ·unfold Cj
  simp only
  split <;> first | exact Kin.refl _ _ | exact h0 _ rfl rfl rfl
 split
 ·unfold BD
  simp only
  repeat (split <;> try first | exact Kin.refl _ _ | exact h0 _ rfl rfl rfl)
 split
 ·unfold BF
  simp only
  repeat (split <;> try first | exact Kin.refl _ _ | exact h0 _ rfl rfl rfl)
 ·unfold CJ
  split
  ·split
   ·exact RY _ _ _ _ _
   ·exact Kin.refl _ _
  ·exact Kin.refl _ _
theorem Vy (z:Aj) (src:Nat) (m:BG):Kin 0 (z.hear src m).1 z:=by
 rw [MZ];exact (YT _ src m).trans (e:=0) ⟨rfl,rfl,Nat.le_refl _⟩
theorem RI (z:Aj) (f:Int) (l:List UInt8):Kin 0 (z.Gj f l).1 z:=by
 unfold Gj
 split
 ·exact Kin.refl _ _
 ·split
  ·exact Kin.refl _ _
  ·exact Vy _ _ _
theorem LP (z:Aj) (f:Int) {l:List UInt8} (h:Jn l = none):z.Gj f l = (z,[]):=by
 unfold Gj;rw [h];split <;> rfl
theorem NS (z:Aj) {f:Int} (l:List UInt8) (hf:f < 0 ∨ (z.n:Int) ≤ f ∨ f = (z.id:Int)):z.Gj f l = (z,[]):=by
 unfold Gj;rw [if_pos hf]
theorem LM (z:Aj) {f:Int} {l:List UInt8} {m:BG} (h:Jn l = some m) (hf:¬ (f < 0 ∨ (z.n:Int) ≤ f ∨ f = (z.id:Int))):z.Gj f l = z.hear f.toNat m:=by
 unfold Gj;rw [if_neg hf,h]
theorem Vz {B:Nat} {z:Aj} (h:NOk B z) (f:Int) (l:List UInt8):Same ((z.Gj f l).1.Gj f l).1 (z.Gj f l).1:=by
 by_cases hf:f < 0 ∨ (z.n:Int) ≤ f ∨ f = (z.id:Int)
 ·rw [NS z l hf,NS z l hf];exact Same.refl _
 ·cases hg:Jn l with
  | none=>rw [LP z f hg,LP z f hg];exact Same.refl _
  | some m =>
   obtain ⟨k1,k2, -⟩:=Vy z f.toNat m
   rw [LM z hg hf,LM (z.hear f.toNat m).1 hg (by rw [k1,k2];exact hf)]
   refine Xj z f.toNat (by omega) (fun mine has hr => ?_) m
   have hro:=h.ro
   rw [hr] at hro
   rw [hro.2.1];omega
end Aj
theorem bD:Jn [] = none:=by kernel_rfl
theorem Qd (m:CP):Jn m.put = if m.may = true then some m.msg else none:=by
 unfold CP.put
 by_cases h:m.may = true
 ·rw [if_pos h,if_pos h];exact ET ((CP.TC m).1 h).1
 ·rw [if_neg h,if_neg h];exact bD
theorem Ia (m:CP):∀ x,Jn m.put = some x→AP x.ls ≤ AP m.ls:=by
 intro x hx
 rw [Qd] at hx
 split at hx
 ·cases hx;exact Nat.le_refl _
 ·cases hx
theorem Aj.YV {z:Aj} (hr:z.BB = .follows) (f:Int) (m:CP) (he:m.e.toNat < z.k.promised.toNat) (h2:m.k ≠ 2) (h6:m.k ≠ 6):∃ s,(z.Gj f m.put).1 = { z with seen:=s }:=by
 by_cases hf:f < 0 ∨ (z.n:Int) ≤ f ∨ f = (z.id:Int)
 ·exact ⟨z.seen,by rw [NS z _ hf]⟩
 ·by_cases hm:m.may = true
  ·have hk:=((CP.TC m).1 hm).1.k6
   rw [LM z (by rw [Qd,if_pos hm]) hf,aV hr he h2 h6 hk];exact ⟨_,rfl⟩
  ·exact ⟨z.seen,by rw [LP z f (by rw [Qd,if_neg hm])]⟩
theorem Xo (ls:List Ar):(encs ls).length ≤ AP ls + 12 * ls.length:=by
 induction ls with
 | nil=>simp [encs]
 | cons x t ih =>
  have h1:(encs (x :: t)).length = x.enc.length + (encs t).length:=by simp [encs]
  have h2:AP (x :: t) = x.b.length + AP t:=by simp [AP]
  have h3:x.enc.length = x.b.length + 12:=by simp [Ar.enc,Az];omega
  rw [h1,h2,h3,List.length_cons];omega
theorem UF (m:CP):m.put.length ≤ 41 + AP m.ls + 12 * m.ls.length:=by
 unfold CP.put
 split
 ·have h:=Xo m.ls
  have e:m.msg.put.length = 41 + (encs m.ls).length:=by simp [BG.put,CP.msg,GR,Az];omega
  omega
 ·simp
theorem GN.bare {w:World} {o:Own} {D M pz ps pd K B:Nat} {y:Aj} (h:GN w o D M pz ps pd K B y) (hr:y.BB = .follows) (hl:y.k.lines = []):GN w o D M pz ps pd K 0 y:=by
 obtain ⟨z,h1,h2,rfl⟩:=h
 refine ⟨z,h1,⟨h2.sp,⟨⟨h2.ok.n1,h2.ok.n3,h2.ok.id,by rw [hl];exact En.nil 0,h2.ok.cp,h2.ok.pt,h2.ok.se,h2.ok.co⟩,by rw [hr];trivial⟩⟩,rfl⟩
def Wp (w:World) (o:Own) (b off:Nat) (cs:List Value):Prop:=w.rangeAt b off cs∧b < w.heap.size∧(o b).1 = 0
theorem Wp.step {T:Nat→Prop} {w w':World} {o o':Own} {b off:Nat} {cs:List Value} (h:Wp w o b off cs) (s:Step T w o w' o') (hT:¬ T 0):Wp w' o' b off cs:=
 ⟨Cf h.1 (s.block b h.2.1 (by rw [h.2.2];exact hT)),Nat.lt_of_lt_of_le h.2.1 s.size,by rw [s.own b h.2.1];exact h.2.2⟩
theorem RD {t:TypeId} {zs vs:List Value} (hz:((Tryz.prog.info? t).bind (·.zero)).map (·.cells) = some zs.toArray) (hn:(Tryz.prog.info? t).map (·.size) = some vs.length) (hl:vs.length = zs.length) (h1:vs.all (·.oneCell') = true) (w:World) (o:Own) :
  ∃ b Wz W2 o2,(Instr.alloc t true (.tuple #[])).run Tryz.prog w = .ok (.pointer (some ⟨b,0,none⟩)) Wz∧(Instr.storeAt t (.pointer (some ⟨b,0,none⟩)) (.agg vs.toArray)).run Tryz.prog Wz = .ok () W2∧Step Nobody w o W2 o2∧Wp W2 o2 b 0 vs:=by
 refine ⟨w.heap.size,_,w.alloc (.cells vs.toArray t),Ak o w.heap.size (0,0),AB (P:=Tryz.prog) w t _ hz, ?_,(Step.refl Nobody w o).alloc _ _,AV (heap_alloc_new w _),by simp,by rw [Au]⟩
 have h:=(Ba (P:=Tryz.prog) (ty:=t) (vs:=vs) (heap_alloc_new w (.cells zs.toArray t)) hl hn h1).1
 rw [Be w zs.toArray t vs (by simpa using hl.symm)] at h
 exact h
theorem LK {p c:BitVec 64} {lv:Value} (w:World) (o:Own) (h:∃ a n k,lv = .slice a n k) :
  ∃ b Wz W2 o2,(Instr.alloc 55 true (.tuple #[])).run Tryz.prog w = .ok (.pointer (some ⟨b,0,none⟩)) Wz∧(Instr.storeAt 55 (.pointer (some ⟨b,0,none⟩)) (Dy p c lv)).run Tryz.prog Wz = .ok () W2∧Step Nobody w o W2 o2∧Wp W2 o2 b 0 (BR p c lv):=by
 obtain ⟨a,n,k,rfl⟩:=h
 exact RD (t:=55) (zs:=[.int .u64 0, .int .u64 0, .slice none 0 0]) (vs:=BR p c (.slice a n k)) OZ Uz rfl rfl w o
theorem YK {m:CP} {lv:Value} (w:World) (o:Own) (h:∃ a n k,lv = .slice a n k) :
  ∃ b Wz W2 o2,(Instr.alloc 46 true (.tuple #[])).run Tryz.prog w = .ok (.pointer (some ⟨b,0,none⟩)) Wz∧(Instr.storeAt 46 (.pointer (some ⟨b,0,none⟩)) (QK m lv)).run Tryz.prog Wz = .ok () W2∧Step Nobody w o W2 o2∧Wp W2 o2 b 0 (EQ m lv):=by
 obtain ⟨a,n,k,rfl⟩:=h
 exact RD (t:=46) (zs:=DI) (vs:=EQ m (.slice a n k)) Oa FT rfl rfl w o
section
variable {w w':World} {o o':Own} {D M pz ps pd K B:Nat} {y y':Aj}
theorem GN.disk (h:GN w o D M pz ps pd K B y):∃ t:AZ,SP K t∧t.kept = y.k∧Bg w o D pd t.d:=by
 obtain ⟨z,h1,h2,rfl⟩:=h
 exact ⟨z.s,h2.sp,rfl,h1.store.dsk⟩
theorem VE (h:GN w o D M pz ps pd K B y) (hK:K + 600 < 65536) (hB:B ≤ 90000) (e:BitVec 64) (he:y.k.promised.toNat < e.toNat∧e.toNat ≤ 281474976710656) :
  Calls Tryz.prog 26 #[.pointer (some ⟨ps,0,none⟩), .int .u64 (e.toNat:Int)] w (Ret (In4 (M + 1) (M + 2) (M + 3) D) w o fun v w' o'=>v = .int .i64 0∧∃ t:AZ,SP (K + 3) t∧t.kept = { y.k with promised:=e }∧Bi w' o' (M + 1) (M + 2) (M + 3) D ps pd 0 t):=by
 have hsm:=h.small hB
 obtain ⟨z,h1,h2,rfl⟩:=h
 have hok:z.s.kept.EK e = true:=by
  unfold AX.EK
  simp only [Bool.and_eq_true,decide_eq_true_eq]
  exact he
 have hp:z.s.kept.CQ e = ({ z.s.kept with promised:=e },0):=by unfold AX.CQ;rw [if_pos hok]
 have hbb:AP z.s.kept.lines ≤ 90000:=Nat.le_trans h2.ok.ls.b hB
 refine (Jb h1.tags h1.store h2.sp hsm e).mono ?_
 rintro ex w' ⟨v,o',rfl,hs,rfl,hw⟩
 rcases GL h2.sp hK h2.kok hbb e with ⟨g1, -⟩ | ⟨-,s',g2,g3,g4⟩
 ·rw [hp] at g1;cases g1
 ·rw [g2] at hw
  exact ⟨_,o',rfl,hs,by rw [g2],s',g3,by rw [g4,hp];rfl,hw⟩
theorem Xa {t:AZ} (h:SP K t) (hDM:D ≤ M∧D ≠ 0) (hs:Bi w o (M + 1) (M + 2) (M + 3) D ps pd 0 t) {id n:Nat} (h1:1 ≤ n) (h3:n ≤ 3) (hi:id < n) (hl:En B t.kept.lines) (hc:t.kept.current.toNat ≤ t.kept.promised.toNat) (hp:t.kept.promised.toNat ≤ 281474976710656) :
  Calls Tryz.prog 27 #[.int .i64 (id:Int), .int .i64 (n:Int), .pointer (some ⟨ps,0,none⟩)] w (Ret Nobody w o fun v w' o'=>∃ pz,v = .tuple #[.pointer (some ⟨pz,0,none⟩), .int .i64 0]∧GN w' o' D M pz ps pd K B (Aj.new id n t.kept)):=by
 refine (XC hDM hs h.dead id n h1 h3 hi).mono ?_
 rintro e w' ⟨v,o',rfl,hs,pz,rfl, -,hz⟩
 exact ⟨_,o',rfl,hs,pz,rfl,_,hz,⟨h,Aj.TB h1 h3 hi hl hc hp⟩,rfl⟩
end
theorem Sj {w:World} {b off:Nat} {x:Eo} {lv bv:Value} (h:w.rangeAt b off (FH x lv bv)):(Instr.loadAt 46 (.pointer (some ⟨b,off + 2,none⟩))).run Tryz.prog w = .ok (QK x.m lv) w:=
 Ip (ER h 2 6) rfl
theorem XF {w:World} {o:Own} {base:Nat} (m:CP) {lv:Value} (hl:Lines w o base lv m.ls) (hll:∀ x ∈ m.ls,x.b.length ≤ 200) :
  Calls Tryz.prog 20 #[QK m lv] w (Ret Nobody w o fun v w' o'=>∃ bv er,v = .tuple #[bv, .int .i64 er]∧Bytes w' o' bv m.put):=by
 refine (ZV m hl (fun x hx=>by have:=hll x hx;omega)).mono ?_
 rintro e w' ⟨v,o',rfl,hs,bv,rfl,hb⟩
 exact ⟨_,o',rfl,hs,bv,_,rfl,hb⟩
theorem Ui {w:World} {o:Own} (id n:Nat) (hid:id < 256) (hn:n < 256) (e:BitVec 64) {v:Value} {l:List Eo} (h:Ii w o v l) :
  Calls Tryz.prog 6 #[.int .u8 (id:Int), .int .u8 (n:Int), .int .u64 (e.toNat:Int),v] w (Ret Nobody w o fun v _ _=>v = .bool true):=by
 obtain ⟨M, -,hM⟩:=EZ o 0 w.heap.size
 obtain ⟨D,hD⟩:∃ D,D = M + 1:=⟨_,rfl⟩
 have hMD:M < D:=by omega
 have hD0:D ≠ 0:=by omega
 obtain ⟨aa,ac,rfl⟩:=h.form
 obtain ⟨N,hN⟩:∃ N,l.length = N:=⟨_,rfl⟩
 have hc:=OA h
 obtain ⟨sz,hsz⟩:∃ s,1 + n % 3 = s:=⟨_,rfl⟩
 obtain ⟨ix,hix⟩:∃ i,id % sz = i:=⟨_,rfl⟩
 have hs3:1 ≤ sz∧sz ≤ 3:=by omega
 have hi3:ix < sz:=by rw [←hix];exact Nat.mod_lt _ (by omega)
 obtain ⟨top,htop⟩:∃ t:Nat,1 + e.toNat % 1099511627776 = t:=⟨_,rfl⟩
 have ht1:1 ≤ top∧top ≤ 1099511627776:=by omega
 have m1:1 + (n:Int) % 3 = (sz:Int):=by omega
 have m2:(id:Int) % (sz:Int) = (ix:Int):=by rw [←hix];rfl
 have hszI:(1:Int) ≤ (sz:Int)∧(sz:Int) ≤ 3:=by omega
 have htI:1 + (e.toNat:Int) % 1099511627776 = (top:Int):=by omega
 rw [hN] at hc h ⊢
 go_enter Tryz.func6,Tryz.ntmps6
 go_wp2_with fail
 refine hc.mono ?_;rintro ex W1 ⟨v,o1,rfl,hs,r,rfl,hr⟩
 cases r
 ·have hst:=hs.LW (M:=M)
  have hr:=hr rfl
  have hAc:=hidden h
  have hc:=IJ ix sz W1 o1 D hD0 hs3.1 hs3.2 hi3
  have hFew:=hidden hr
  have hE:=hidden (And.intro hsz hix)
  clear hs h hr hsz hix
  go_wp2_with fail
  refine hc.mono ?_;rintro ex W2 ⟨v,o2,rfl,hs,pd,ps,pz,rfl,hg⟩
  have hst:=hst.trans (hs.mono (FP hMD))
  obtain ⟨T,hT⟩:∃ T:BitVec 64,BitVec.ofNat 64 top = T:=⟨_,rfl⟩
  have hTn:T.toNat = top:=by rw [←hT,BitVec.toNat_ofNat,Nat.mod_eq_of_lt (by omega)]
  have hc:=VE hg (by omega) (by omega) T (by show (0:BitVec 64).toNat < T.toNat∧_;rw [hTn];exact ⟨by show 0 < top;omega,by omega⟩)
  rw [hTn] at hc
  clear hs
  go_wp2_with fail
  refine hc.mono ?_;rintro ex W3 ⟨v,o3,rfl,hs,rfl,t,hSP,htk,hsa⟩
  have hst:=hst.trans (hs.mono (fun k hk=>RH hMD k (InN.in4 k hk)))
  have hc:=Xa (B:=0) hSP (hg.tags) hsa hs3.1 hs3.2 hi3 (by rw [htk];exact En.nil 0) (by rw [htk];exact Nat.zero_le _) (by rw [htk];show T.toNat ≤ _;rw [hTn];omega)
  clear hs hg
  go_wp2_with fail
  refine hc.mono ?_;rintro ex W4 ⟨v,o4,rfl,hs,pz2,rfl,hg⟩
  have hst:=Bv hst hs
  obtain ⟨t4,hS4, -,hd4⟩:=hg.disk
  have hc:=Ic hd4
  rw [hS4.sg.dd] at hc
  clear hs hsa hd4 hS4 hSP
  go_wp2_with fail
  refine hc.mono ?_;rintro ex w' ⟨rfl,rfl⟩
  rw [htk] at hg
  have hg0:=hidden (And.intro hg hst)
  clear hg hst htk hc
  go_wp2_with fail
  go_loopw [15] (fun i wr=>∃ (k:Nat) (oj:Own) (y:Aj),k ≤ N∧i = .int .i64 k∧GN wr oj D D pz2 ps pd (3 + 3 * k) 0 y∧(y.BB = .follows∧y.k = ⟨T,0,[]⟩∧y.Ag = 0)∧Step (EN M) w o wr oj) (fun i _=>N - (intOf i).toNat)
  case atStart=>exact ⟨0,o4,_,Nat.zero_le _,rfl,hg0.out.1,⟨rfl,rfl,rfl⟩,hg0.out.2⟩
  case round =>
   clear hg0
   obtain ⟨k,oj,y,hk,rfl,hg,hy,hst⟩:=hrel
   by_cases hlt:k < N
   ·have hltI:(0:Int) ≤ (k:Int)∧(k:Int) < (N:Int):=by omega
    obtain ⟨x,hx⟩:∃ x,l[k]? = some x:=⟨_,List.getElem?_eq_getElem (by rw [hN];exact hlt)⟩
    obtain ⟨ab,aoff,lv,bw,rfl,hrg,hln, -,hwf,hab,hoa⟩:=(hAc.out.step hst (by show ¬ M < 0;omega)).at hx
    obtain ⟨hfn,hfa,hfs⟩:=hFew.out
    obtain ⟨q1,q2,q3⟩:=hfa x (List.mem_of_getElem? hx)
    have hrow:Wp wr oj ab (aoff + k * 9) (FH x lv bw):=⟨hrg,hab,hoa⟩
    have hldH:=hidden (Sj hrg)
    obtain ⟨la,lc,rfl⟩:=hln.form
    obtain ⟨mb,Wz,V1,p1,hal,hso,hs1,hm1⟩:=YK (m:=x.m) (lv := .slice la x.m.ls.length lc) wr oj ⟨_,_,_,rfl⟩
    have hst1:=Bv hst hs1
    have hg1:=hg.step0 hs1
    have hln1:=hln.step hs1 (fun h=>h)
    have hrow1:=hrow.step hs1 (fun h=>h)
    have c0:V1.cell? ⟨mb,0,none⟩ = some (.int .u8 (x.m.k:Int)):=hm1.1 0 _ rfl
    have c1:V1.cell? ⟨mb,1,none⟩ = some (.int .u64 (x.m.e.toNat:Int)):=hm1.1 1 _ rfl
    have hmldH:=hidden (show (Instr.loadAt 46 (.pointer (some ⟨mb,0,none⟩))).run Tryz.prog V1 = .ok (QK x.m (.slice la x.m.ls.length lc)) V1 from Ip hm1.1 rfl)
    have halH:=hidden hal
    have hsoH:=hidden hso
    have hrow1H:=hidden hrow1
    clear hrg hab hoa hs1 hrow hln hg hst hal hso hm1 hrow1
    by_cases g1:top ≤ x.m.e.toNat
    ·have g1I:(top:Int) ≤ (x.m.e.toNat:Int):=by omega
     go_wp2_with (first
      | ((with_reducible apply Bo);exact hldH.out;simp only [Act.put,lsa,lsz,lss])
      | ((with_reducible apply AU);exact halH.out;simp only [Act.put,lsa,lsz,lss])
      | ((with_reducible apply AC);exact hsoH.out;simp only [Act.put])
      | ((with_reducible apply Bo);exact hmldH.out;simp only [Act.put,lsa,lsz,lss]))
     go_roundw
     case rel=>exact ⟨k + 1,p1,y,by omega,by go_num,hg1.mono (by omega) (by omega),hy,hst1⟩
     case measure=>simp [intOf];omega
    have g1I:¬ (top:Int) ≤ (x.m.e.toNat:Int):=by omega
    by_cases g2:x.m.k = 2
    ·have g2I:((x.m.k:Int) == 2) = true:=by simp;omega
     go_wp2_with (first
      | ((with_reducible apply Bo);exact hldH.out;simp only [Act.put,lsa,lsz,lss])
      | ((with_reducible apply AU);exact halH.out;simp only [Act.put,lsa,lsz,lss])
      | ((with_reducible apply AC);exact hsoH.out;simp only [Act.put])
      | ((with_reducible apply Bo);exact hmldH.out;simp only [Act.put,lsa,lsz,lss]))
     go_roundw
     case rel=>exact ⟨k + 1,p1,y,by omega,by go_num,hg1.mono (by omega) (by omega),hy,hst1⟩
     case measure=>simp [intOf];omega
    have g2I:((x.m.k:Int) == 2) = false:=by simp;omega
    by_cases g3:x.m.k = 6
    ·have g3I:((x.m.k:Int) == 6) = true:=by simp;omega
     go_wp2_with (first
      | ((with_reducible apply Bo);exact hldH.out;simp only [Act.put,lsa,lsz,lss])
      | ((with_reducible apply AU);exact halH.out;simp only [Act.put,lsa,lsz,lss])
      | ((with_reducible apply AC);exact hsoH.out;simp only [Act.put])
      | ((with_reducible apply Bo);exact hmldH.out;simp only [Act.put,lsa,lsz,lss]))
     go_roundw
     case rel=>exact ⟨k + 1,p1,y,by omega,by go_num,hg1.mono (by omega) (by omega),hy,hst1⟩
     case measure=>simp [intOf];omega
    have g3I:((x.m.k:Int) == 6) = false:=by simp;omega
    have hc:=XF x.m hln1 q3
    have hst1H:=hidden hst1
    have hln1H:=hidden hln1
    clear hst1 hln1
    go_wp2_with (first
     | ((with_reducible apply Bo);exact hldH.out;simp only [Act.put,lsa,lsz,lss])
     | ((with_reducible apply AU);exact halH.out;simp only [Act.put,lsa,lsz,lss])
     | ((with_reducible apply AC);exact hsoH.out;simp only [Act.put])
     | ((with_reducible apply Bo);exact hmldH.out;simp only [Act.put,lsa,lsz,lss]))
    refine hc.mono ?_;rintro ex w5 ⟨v,o5,rfl,hs,bv,er,rfl,hb⟩
    have hst5:=hidden (Bv hst1H.out hs)
    have hg5:=hg1.step0 hs
    have hFrom:w5.cell? ⟨ab,aoff + k * 9 + 1,none⟩ = some (.int .i64 x.src):=(hrow1H.out.step hs (fun h=>h)).1 1 _ rfl
    have hbl:=Ju q3
    have hpl:=UF x.m
    have hc:=Fz hg5 (by omega) x.src hb (by omega) (AP x.m.ls) (Ia x.m) (by omega) (Prod.eta _).symm
    obtain ⟨s',hs'⟩:=Aj.YV hy.1 x.src x.m (by rw [hy.2.1];show x.m.e.toNat < T.toNat;rw [hTn];omega) g2 g3
    rw [hs'] at hc
    obtain ⟨y6,hy6⟩:∃ z:Aj,({ y with seen:=s' }:Aj) = z:=⟨_,rfl⟩
    have hY6:y6.BB = .follows∧y6.k = ⟨T,0,[]⟩∧y6.Ag = 0:=by subst hy6;exact hy
    rw [hy6] at hc
    obtain ⟨ba,bc,rfl⟩:=Aq hb
    clear hs hb hg1 hs' hbl hpl c0 c1 hldH halH hsoH hmldH hy6
    go_wp2_with fail
    refine hc.mono ?_;rintro ex w6 ⟨v,o6,rfl,hs, -,hg6⟩
    have hst6:=hidden (CO hMD hst5.out hs)
    have hg6:=hg6.bare hY6.1 (by rw [hY6.2.1])
    have hc:=Qc hg6 (by omega)
    rw [hY6.2.1] at hc
    clear hs hg5 hFrom
    go_wp2_with fail
    refine hc.mono ?_;rintro ex w7 ⟨v,o7,rfl,hs,lk,rfl,hl⟩
    obtain ⟨ka,kc,rfl⟩:=hl.EG (n:=0) rfl
    have hst7:=hidden (Bv hst6.out hs)
    obtain ⟨kb,Wk,V8,p8,hal2,hso2,hs8,hk8⟩:=LK (p:=T) (c:=0) (lv := .slice ka 0 kc) w7 o7 ⟨_,_,_,rfl⟩
    have hg8:=(hg6.step0 hs).step0 hs8
    have hst8:=hidden (Bv hst7.out hs8)
    have d0:V8.cell? ⟨kb,0,none⟩ = some (.int .u64 (T.toNat:Int)):=hk8.1 0 _ rfl
    have d1:V8.cell? ⟨kb,1,none⟩ = some (.int .u64 0):=hk8.1 1 _ rfl
    have d2:V8.cell? ⟨kb,2,none⟩ = some (.slice ka 0 kc):=hk8.1 2 _ rfl
    rw [hTn] at d0
    have hc:=IR hg8 (b:=false) (by unfold Aj.OD;rw [hY6.1])
    have hal2H:=hidden hal2
    have hso2H:=hidden hso2
    clear hs hs8 hk8 hal2 hso2 hl hg6
    go_wp2_with (first
     | ((with_reducible apply AU);exact hal2H.out;simp only [Act.put,lsa,lsz,lss])
     | ((with_reducible apply AC);exact hso2H.out;simp only [Act.put]))
    refine hc.mono ?_;rintro ex w' ⟨rfl,rfl⟩
    have hc:=ED hg8 (by omega) (ls:=[]) (by rw [hY6.2.1];exact List.take_nil)
    go_wp2_with fail
    refine hc.mono ?_;rintro ex w9 ⟨v,o9,rfl,hs,hl⟩
    obtain ⟨ca,cc,rfl⟩:=hl.EG (n:=0) rfl
    have hF:=hidden (And.intro (hg8.step0 hs) (Bv hst8.out hs))
    clear hs hl hg8 hc d0 d1 d2
    go_wp2_with fail
    go_roundw
    case rel=>exact ⟨k + 1,o9,y6,by omega,by go_num,hF.out.1.mono (by omega) (by omega),hY6,hF.out.2⟩
    case measure=>simp [intOf];omega
   ·obtain rfl:k = N:=by omega
    have hc:=KD wr oj
    go_wp2_with fail
    refine hc.mono ?_;rintro ex w5 ⟨v,o5,rfl,hs,rfl⟩
    have hst:=Bv hst hs
    clear hs hc hg
    go_wp2_with fail
    go_ret
    exact ⟨_,_,rfl,hst.Hm hM,rfl⟩
 ·clear hr hc h
  go_wp2_with fail
  go_ret
  exact ⟨_,_,rfl,hs,rfl⟩

end Go.Proofs.YthmpmgknnibljaaGreat
