/- Contracts of the reader: Byte, Uint, Text, Count, Bad, Done; store.read. -/
import Derived.Defers
import Derived.Recover
import Derived.Test.YthmpmgknnibljaaGreatSn6
namespace Go.Proofs.YthmpmgknnibljaaGreat
set_option maxRecDepth 100000
set_option maxHeartbeats 6400000
open Go Go.RowKit
attribute [local go_sem ↓] Go.wp_at_zero Go.wp_at_succ
theorem RdM.EC (n:Nat) (m:RdM):(m.num n).2.b.length ≤ m.b.length:=by
 unfold RdM.num RdM.take;split
 ·exact Nat.le_refl _
 ·split
  ·exact Nat.le_refl _
  ·show (m.b.drop n).length ≤ _;rw [List.length_drop];omega
theorem RdM.cZ (n:Nat) (m:RdM):(m.txt n).2.b.length ≤ m.b.length∧(m.txt n).1.length ≤ m.b.length:=by
 unfold RdM.txt RdM.take;split
 ·exact ⟨Nat.le_refl _,by simp⟩
 ·split
  ·exact ⟨Nat.le_refl _,by simp⟩
  ·refine ⟨?_, ?_⟩
   ·show (m.b.drop n).length ≤ _;rw [List.length_drop];omega
   ·show (m.b.take n).length ≤ _;rw [List.length_take];omega
theorem RdM.EL {n:Nat} (hn:n ≤ 8) (m:RdM):(m.num n).1.toNat < 256 ^ n ∨ (m.num n).1 = 0:=by
 unfold RdM.num RdM.take;split
 ·exact .inr rfl
 ·split
  ·exact .inr rfl
  ·rename_i h1 h2
   left
   show (Go.Proofs.YthmpmgknnibljaaGreat.num (m.b.take n)).toNat < _
   have hl:(m.b.take n).length = n:=by rw [List.length_take];omega
   rw [Go.Proofs.YthmpmgknnibljaaGreat.EL (by omega)]
   have:=Jg (m.b.take n)
   rw [hl] at this;exact this
section
variable {w:World} {o:Own} {Z p:Nat} {m:RdM}
theorem NI (h:Ep w o Z p m) (hZ:Z ≠ 0) (hm:m.b.length ≤ 1000000) :
  Calls Tryz.prog 93 #[.pointer (some ⟨p,0,none⟩)] w (Ret (Only Z) w o fun v w' o'=>v = .int .u8 (((m.num 1).1.toNat % 256:Nat):Int)∧Ep w' o' Z p (m.num 1).2):=by
 have hc:=hidden (NF h hZ hm 1 (by omega))
 have hs:=RdM.EL (n:=1) (by omega) m
 have hlt:(m.num 1).1.toNat < 256:=by
  rcases hs with hs | hs
  ·simpa using hs
  ·rw [hs];decide
 have hlI:(0:Int) ≤ ((m.num 1).1.toNat:Int)∧((m.num 1).1.toNat:Int) < 256:=by omega
 have hmod:(m.num 1).1.toNat % 256 = (m.num 1).1.toNat:=Nat.mod_eq_of_lt hlt
 rw [hmod]
 clear hs h hmod hlt
 go_enter Tryz.func93,Tryz.ntmps93
 go_wp2_with fail
 refine hc.out.mono ?_;rintro e w1 ⟨v1,o1,rfl,hs,rfl,hr⟩
 go_wp2_with fail
 go_ret
 exact ⟨_,o1,rfl,hs,rfl,hr⟩
theorem EJ (h:Ep w o Z p m) (hZ:Z ≠ 0) (hm:m.b.length ≤ 1000000) :
  Calls Tryz.prog 94 #[.pointer (some ⟨p,0,none⟩)] w (Ret (Only Z) w o fun v w' o'=>v = .int .u64 ((m.num 8).1.toNat:Int)∧Ep w' o' Z p (m.num 8).2):=by
 have hc:=hidden (NF h hZ hm 8 (by omega))
 clear h
 go_enter Tryz.func94,Tryz.ntmps94
 go_wp2_with fail
 refine hc.out.mono ?_;rintro e w1 ⟨v1,o1,rfl,hs,rfl,hr⟩
 go_wp2_with fail
 go_ret
 exact ⟨_,o1,rfl,hs,rfl,hr⟩
theorem Rq (h:Ep w o Z p m) (hZ:Z ≠ 0) (hm:m.b.length ≤ 1000000) :
  Calls Tryz.prog 96 #[.pointer (some ⟨p,0,none⟩)] w (Ret (Only Z) w o fun v w' o'=>(Bytes w' o' v m.text.1∧CV w.heap.size v)∧Ep w' o' Z p m.text.2):=by
 have hc:=hidden (NF h hZ hm 4 (by omega))
 have hs:=RdM.EL (n:=4) (by omega) m
 have hlt:(m.num 4).1.toNat ≤ 4294967295:=by
  rcases hs with hs | hs
  ·have:(256:Nat) ^ 4 = 4294967296:=by decide
   omega
  ·rw [hs];decide
 have hl2:=RdM.EC 4 m
 have hc2:=hidden (fun (W:World) (O:Own) (hr:Ep W O Z p (m.num 4).2)=>Yr hr hZ (by omega) (m.num 4).1.toNat hlt)
 clear hs h hl2
 unfold RdM.text
 generalize (m.num 4).1.toNat = n4 at *
 generalize (m.num 4).2 = m4 at *
 go_enter Tryz.func96,Tryz.ntmps96
 go_wp2_with fail
 refine hc.out.mono ?_;rintro e w1 ⟨v1,o1,rfl,hs,rfl,hr⟩
 have hc3:=hidden (hc2.out _ _ hr)
 have hsz:=hs.size
 clear hc hc2
 go_wp2_with fail
 refine hc3.out.mono ?_;rintro e w2 ⟨v2,o2,rfl,hs2,⟨hb,hf⟩,hr2⟩
 go_wp2_with fail
 go_ret
 exact ⟨_,o2,rfl,hs.trans hs2,⟨hb,hf.low hsz⟩,hr2⟩
theorem aB (h:Ep w o Z p m) (hZ:Z ≠ 0) :
  Calls Tryz.prog 151 #[.pointer (some ⟨p,0,none⟩)] w (Ret (Only Z) w o fun v w' o'=>v = .tuple #[]∧Ep w' o' Z p { m with bad:=true }):=by
 obtain ⟨bv,h1,h2,h3⟩:=h
 have c1:w.cell? ⟨p,1,none⟩ = some (.bool m.bad):=cell_of_block (cs:=[_,_]) h1 1
 have f1:w.frozen? ⟨p,1,none⟩ = false:=Ap (cs:=[_,_]) h1 1
 have hset:=(Step.refl (Only Z) w o).setCell (a:=⟨p,1,none⟩) (.bool true) (.inl (by show (o p).1 = Z;rw [h2]))
 have hF:=hidden (show Ep (w.setCell ⟨p,1,none⟩ (.bool true)) o Z p { m with bad:=true } from ⟨_,Ai (cs:=[_,_]) (i:=1) _ h1,h2,h3.step hset (fun h=>hZ h.symm)⟩)
 have hsH:=hidden hset
 clear h1 h2 h3 hset
 go_enter Tryz.func151,Tryz.ntmps151
 go_wp2_with fail
 first | go_end0 | refine bodyPost_ret (results_none rfl _ _ _) rfl ?_
 exact ⟨_,o,rfl,hsH.out,rfl,hF.out⟩
theorem Je (h:Ep w o Z p m) (hZ:Z ≠ 0) (hm:m.b.length ≤ 1000000) (most:Nat) (hmost:most ≤ 1000000) :
  Calls Tryz.prog 95 #[.pointer (some ⟨p,0,none⟩), .int .i64 (most:Int)] w (Ret (Only Z) w o fun v w' o'=>v = .int .i64 ((m.count most).1:Int)∧Ep w' o' Z p (m.count most).2):=by
 have hc:=hidden (EJ h hZ hm)
 have hlt:=(m.num 8).1.isLt
 obtain ⟨q,hq⟩:∃ q,m.count most = q:=⟨_,rfl⟩
 rw [hq]
 unfold RdM.count at hq
 generalize (m.num 8).1.toNat = n8 at *
 generalize (m.num 8).2 = m8 at *
 have hnI:(0:Int) ≤ (n8:Int)∧(n8:Int) < 18446744073709551616:=by omega
 have hmI:(0:Int) ≤ (most:Int)∧(most:Int) ≤ 1000000:=by omega
 clear h hlt
 by_cases hb:most < n8
 ·rw [if_pos hb] at hq
  have hbI:(most:Int) < (n8:Int):=by omega
  have hqH:=hidden hq
  clear hq
  go_enter Tryz.func95,Tryz.ntmps95
  go_wp2_with fail
  refine hc.out.mono ?_;rintro e w1 ⟨v1,o1,rfl,hs,rfl,hr⟩
  have hc3:=hidden (aB hr hZ)
  clear hc
  go_wp2_with fail
  refine hc3.out.mono ?_;rintro e w2 ⟨v2,o2,rfl,hs2,rfl,hr2⟩
  go_wp2_with fail
  go_ret
  exact ⟨_,o2,rfl,hs.trans hs2,by rw [←hqH.out];rfl,by rw [←hqH.out];exact hr2⟩
 ·rw [if_neg hb] at hq
  have hbI:¬ (most:Int) < (n8:Int):=by omega
  have hbJ:(n8:Int) ≤ 1000000:=by omega
  have hqH:=hidden hq
  clear hq
  go_enter Tryz.func95,Tryz.ntmps95
  go_wp2_with fail
  refine hc.out.mono ?_;rintro e w1 ⟨v1,o1,rfl,hs,rfl,hr⟩
  clear hc
  go_wp2_with fail
  go_ret
  exact ⟨_,o1,rfl,hs,by rw [←hqH.out];rfl,by rw [←hqH.out];exact hr⟩
theorem II (h:Ep w o Z p m):Calls Tryz.prog 97 #[.pointer (some ⟨p,0,none⟩)] w fun e w'=>e = .returned (.int .i64 m.done)∧w = w':=by
 obtain ⟨bv,h1,h2,h3⟩:=h
 have c0:w.cell? ⟨p,0,none⟩ = some bv:=cell_of_block (cs:=[_,_]) h1 0
 have c1:w.cell? ⟨p,1,none⟩ = some (.bool m.bad):=cell_of_block (cs:=[_,_]) h1 1
 obtain ⟨ba,bc,rfl⟩:=Aq h3
 obtain ⟨D,hD⟩:∃ D,m.done = D:=⟨_,rfl⟩
 rw [hD]
 unfold RdM.done at hD
 generalize m.b.length = L at *
 clear h1 h2 h3
 cases hb:m.bad with
 | true =>
  rw [hb] at c1 hD
  have hDH:=hidden hD
  clear hD hb
  go_enter Tryz.func97,Tryz.ntmps97
  go_wp2_with fail
  go_ret
  exact ⟨by rw [←hDH.out];rfl,rfl⟩
 | false =>
  rw [hb] at c1 hD
  by_cases hl:0 < L
  ·have hlI:(0:Int) < (L:Int):=by omega
   have hDH:=hidden (show D = 2 by rw [←hD];simp [hl])
   clear hD hb hl
   go_enter Tryz.func97,Tryz.ntmps97
   go_wp2_with fail
   go_ret
   exact ⟨by rw [hDH.out];rfl,rfl⟩
  ·have hlI:¬ (0:Int) < (L:Int):=by omega
   have hDH:=hidden (show D = 0 by rw [←hD];simp [hl])
   clear hD hb hl
   go_enter Tryz.func97,Tryz.ntmps97
   go_wp2_with fail
   go_ret
   exact ⟨by rw [hDH.out];rfl,rfl⟩
end
def Ce:Nat→RdM→List Ar × RdM
 | 0,m=>([],m)
 | k + 1,m=>((Ce k m).1 ++ [⟨((Ce k m).2.num 8).1,((Ce k m).2.num 8).2.text.1⟩],((Ce k m).2.num 8).2.text.2)
def RdM.lines (m:RdM):List Ar × RdM:=Ce (m.count 256).1 (m.count 256).2
theorem RdM.ZE (m:RdM):m.text.2.b.length ≤ m.b.length:=by
 unfold RdM.text
 have h1:=RdM.EC 4 m
 have h2:=(RdM.cZ (m.num 4).1.toNat (m.num 4).2).1
 omega
theorem NG (k:Nat) (m:RdM):(Ce k m).2.b.length ≤ m.b.length∧(Ce k m).1.length = k:=by
 induction k with
 | zero=>exact ⟨Nat.le_refl _,rfl⟩
 | succ k ih =>
  have h1:=RdM.EC 8 (Ce k m).2
  have h2:=RdM.ZE ((Ce k m).2.num 8).2
  refine ⟨?_,by simp [Ce,ih.2]⟩
  show ((Ce k m).2.num 8).2.text.2.b.length ≤ _
  omega
theorem RdM.IW (most:Nat) (m:RdM):(m.count most).2.b.length ≤ m.b.length∧(m.count most).1 ≤ most:=by
 have h1:=RdM.EC 8 m
 unfold RdM.count;split
 ·exact ⟨h1,Nat.zero_le _⟩
 ·rename_i h;exact ⟨h1,by show (m.num 8).1.toNat ≤ most;omega⟩
def Gh (w:World) (o:Own) (base:Nat) (t:Nat × Nat) (v:Value) (ls:List Ar):Prop:=
 ∃ cs,w.ownsRow base 36 2 v ls.length cs∧(∀ g,v.ownBlock = some g→o g = t)∧LnC w o cs ls∧∀ u ∈ cs,CV base u
theorem Gh.nil (w:World) (o:Own) (base:Nat) (t:Nat × Nat):Gh w o base t (.slice none 0 0) []:=⟨[],World.ownsRow_nil _ _ _ _,fun g hg=>by simp [Value.ownBlock] at hg,LnC.nil w o,by simp⟩
theorem Gh.step {T:Nat→Prop} {w w':World} {o o':Own} {base:Nat} {t:Nat × Nat} {v:Value} {ls:List Ar} (h:Gh w o base t v ls) (s:Step T w o w' o') (ht:¬ T t.1) (h0:¬ T 0):Gh w' o' base t v ls:=by
 obtain ⟨cs,h1,h2,h3,h4⟩:=h
 exact ⟨cs,Ci h1 fun k hk=>s.block k (h1.lt k hk).2 (by rw [h2 k hk];exact ht),fun g hg=>by rw [s.own g (h1.lt g hg).2];exact h2 g hg,h3.step s h0,h4⟩
theorem Gh.form {w:World} {o:Own} {base:Nat} {t:Nat × Nat} {v:Value} {ls:List Ar} (h:Gh w o base t v ls):∃ a c,v = .slice a ls.length c:=by
 obtain ⟨cs,h1, -⟩:=h;exact BA h1
theorem Gh.lines {w:World} {o o':Own} {base:Nat} {t:Nat × Nat} {v:Value} {ls:List Ar} (h:Gh w o base t v ls) (ho:∀ k,base ≤ k→(o' k).1 = 0):Lines w o' base v ls:=by
 obtain ⟨cs,h1,h2,h3,h4⟩:=h
 have hf:CV base v:=CV.own h1 (Nat.le_refl _)
 refine ⟨cs, ?_,⟨h3.1,fun i x hx => ?_⟩,hf,h4⟩
 ·rcases h1.2 with ⟨rfl,h0⟩ | ⟨g,cap,cur,rfl,q1,q2,q3,q4,q5,q6⟩
  ·refine .inl ⟨⟨none,0,rfl⟩,h0, ?_⟩
   apply List.eq_nil_of_length_eq_zero;rw [h1.1,h0]
  ·refine .inr ⟨g,0,cap,rfl,q3,q4,ho g q1,lt_of_block q2, ?_⟩
   have:=BU (w:=w) (b:=g) (cs:=cur.toList) (E:=36) (fr:=(0,0)) (by simpa using q2) 0 (ls.length * 2)
   rw [List.drop_zero,q6] at this;exact this
 ·obtain ⟨a,bv,b,c⟩:=h3.2 i x hx
  exact ⟨a,bv,b,c.retag (h4 bv (List.mem_of_getElem? b)) ho⟩
theorem Gh.append {W:World} {o:Own} {base X:Nat} {v:Value} {l1 l2:List Ar} (h:Gh W o base (X,0) v l1) (hX:X ≠ 0) (hbase:base ≤ W.heap.size) {sb soff c:Nat} {cs2:List Value} (hr:W.rangeAt sb soff cs2) (h2:LnC W o cs2 l2) (hf:∀ u ∈ cs2,CV base u) (hpos:0 < l2.length) (hn:l1.length + l2.length ≤ 100000) :
  ∃ nv w' o',(Builtin.append_ #[32,32] 32 #[v, .slice (some ⟨sb,soff,none⟩) l2.length c]).run Tryz.prog W = .ok nv w'∧Gh w' o' base (X,0) nv (l1 ++ l2)∧Step (Only X) W o w' o'∧W.grownBy w' v.ownBlock∧(∀ k,o' k = o k ∨ (W.heap.size ≤ k∧o' k = (X,0))):=by
 obtain ⟨cs,h1,ht,h3,h4⟩:=h
 obtain ⟨g,cap,w',hrun,hown,hgrow,hat,hlt⟩:=DD (P:=Tryz.prog) W 32 32 36 Tryz.underlying32 TR rfl (by omega) hbase v l1.length cs h1 sb soff l2.length c cs2 (by rw [h2.1];omega) hr h2.one hpos (by omega) (by omega)
 have hs:Step (Only X) W o w' (Ak o g (X,0)):=(Step.refl (Only X) W o).grown hgrow (fun k hk => .inl (by show (o k).1 = X;rw [ht k hk])) g (X,0) (by
  rcases hat with hat | hat
  ·exact .inl (ht g hat)
  ·exact .inr (by omega))
 have h0:¬ Only X 0:=fun h=>hX h.symm
 refine ⟨_,w',_,hrun,⟨cs ++ cs2,by rw [List.length_append];exact hown,fun k hk => ?_,(h3.append h2).step hs h0,fun u hu => ?_⟩,hs,hgrow,fun k => ?_⟩
 ·simp only [Value.ownBlock,Option.some.injEq] at hk;subst hk;exact Au _ _ _
 ·rcases List.mem_append.1 hu with hu | hu
  ·exact h4 u hu
  ·exact hf u hu
 ·by_cases hkg:k = g
  ·subst hkg
   rw [Au]
   rcases hat with hat | hat
   ·exact .inl (ht k hat).symm
   ·exact .inr ⟨by omega,rfl⟩
  ·exact .inl (BI _ _ hkg)
theorem TY (w:World) (e:Int) (bv:Value):(Instr.buildSlice 32 1 #[(0, .agg #[.int .u64 e,bv])]).run Tryz.prog w = .ok (.slice (some ⟨w.heap.size,0,none⟩) 1 1) (w.alloc (.cells [.int .u64 e,bv].toArray 36)):=
 Dv w 32 36 [.int .u64 0, .slice none 0 0] (.agg #[.int .u64 e,bv]) [.int .u64 e,bv] Tryz.underlying32 (by kernel_rfl) rfl (by simp) (by simp) rfl
theorem JP {w:World} {o:Own} {Z p X:Nat} {m:RdM} (h:Ep w o Z p m) (hZ:Z ≠ 0) (hX:X ≠ 0) (hXZ:X ≠ Z) (hm:m.b.length ≤ 1000000) :
  Calls Tryz.prog 133 #[.pointer (some ⟨p,0,none⟩)] w (Ret (Only Z) w o fun v w' o'=>Gh w' o' w.heap.size (X,0) v m.lines.1∧Ep w' o' Z p m.lines.2):=by
 have hc:=hidden (Je h hZ hm 256 (by omega))
 have hcl:=RdM.IW 256 m
 unfold RdM.lines
 generalize (m.count 256).1 = N at *
 generalize (m.count 256).2 = mc at *
 have hmc:mc.b.length ≤ 1000000:=by omega
 have hNI:(0:Int) ≤ (N:Int)∧(N:Int) ≤ 256:=by omega
 clear h hcl hm
 go_enter Tryz.func133,Tryz.ntmps133
 go_wp2_with fail
 refine hc.out.mono ?_;rintro e w1 ⟨v1,o1,rfl,hs,rfl,hr⟩
 have hcH:=hidden hmc
 clear hc hmc
 go_wp2_with fail
 go_loopw [3,6] (fun out i wr=>∃ (k:Nat) (oj:Own),k ≤ N∧i = .int .i64 k∧Gh wr oj w.heap.size (X,0) out (Ce k mc).1∧Ep wr oj Z p (Ce k mc).2∧Step (Only Z) w o wr oj) (fun _ i _=>N - (intOf i).toNat)
 case atStart=>exact ⟨0,o1,by omega,rfl,Gh.nil _ _ _ _,hr,hs⟩
 case round =>
  clear hr hs
  obtain ⟨k,oj,hk,rfl,hrow,hrd,hst⟩:=hrel
  obtain ⟨hlk,hln⟩:=NG k mc
  by_cases hlt:k < N
  ·have hu:=hidden (EJ hrd hZ (by have:=hcH.out;omega))
   have hlm:((Ce k mc).2.num 8).2.b.length ≤ 1000000:=by have:=RdM.EC 8 (Ce k mc).2;have:=hcH.out;omega
   have hsn:Ce (k + 1) mc = ((Ce k mc).1 ++ [⟨((Ce k mc).2.num 8).1,((Ce k mc).2.num 8).2.text.1⟩],((Ce k mc).2.num 8).2.text.2):=rfl
   have hsnH:=hidden hsn
   have hrowH:=hidden hrow
   have hlmH:=hidden hlm
   have hlnH:=hidden hln
   obtain ⟨E,hE⟩:∃ E,((Ce k mc).2.num 8).1 = E:=⟨_,rfl⟩
   rw [hE] at hu hsnH
   generalize ((Ce k mc).2.num 8).2 = m8 at *
   obtain ⟨ra,rc,rfl⟩:=hrow.form
   rw [hln] at hrowH ⊢
   clear hrd hsn hlm hrow hln hlk hE
   go_wp2_with fail
   refine hu.out.mono ?_;rintro e w2 ⟨v2,o2,rfl,hs2,rfl,hr2⟩
   have hst2:=hst.trans hs2
   have hrow2:=hrowH.out.step hs2 (fun h=>hXZ h) (fun h=>hZ h.symm)
   have ht:=hidden (Rq hr2 hZ hlmH.out)
   clear hu hr2 hs2 hst
   go_wp2_with fail
   refine ht.out.mono ?_;rintro e w3 ⟨v3,o3,rfl,hs3,⟨hb3,hf3⟩,hr3⟩
   have hst3:=hst2.trans hs3
   have hrow3:=hrow2.step hs3 (fun h=>hXZ h) (fun h=>hZ h.symm)
   have hbs:=hidden (TY w3 (E.toNat:Int) v3)
   have hsa:=(Step.refl Nobody w3 o3).alloc (.cells [.int .u64 (E.toNat:Int),v3].toArray 36) (0,0)
   have hnb:(w3.alloc (.cells [.int .u64 (E.toNat:Int),v3].toArray 36)).heap[w3.heap.size]? = some (.cells [.int .u64 (E.toNat:Int),v3].toArray 36 (0,0)):=heap_alloc_new w3 _
   obtain ⟨w4,hw4⟩:∃ w4,w3.alloc (.cells [.int .u64 (E.toNat:Int),v3].toArray 36) = w4:=⟨_,rfl⟩
   rw [hw4] at hbs hsa hnb
   have hsz:w.heap.size ≤ w4.heap.size:=Nat.le_trans hst3.size hsa.size
   obtain ⟨nv,w5,o5,hrun,hrow5,hs5,hgr,ho5⟩:=(hrow3.step hsa (fun h=>h) (fun h=>h)).append hX hsz (AV hnb) (LnC.single ⟨E,m8.text.1⟩ (hb3.step hsa (fun h=>h))) (fun u hu=>by
    simp only [List.mem_cons,List.not_mem_nil,or_false] at hu
    rcases hu with rfl | rfl
    ·exact CV.int _ _ _
    ·exact hf3.low hst2.size) (by simp) (by rw [hlnH.out,List.length_singleton];omega) (c:=1)
   simp only [List.length_singleton] at hrun
   have hrunH:=hidden hrun
   have hrd5:=(hr3.step hsa (fun h=>h) (fun h=>h)).step hs5 (fun h=>hXZ h.symm) (fun h=>hX h.symm)
   have hst5:Step (Only Z) w o w5 o5:=by
    have hst4:=hst3.trans (hsa.only Z)
    refine ⟨hgr.os.trans hst4.os,hgr.tape.trans hst4.tape,hgr.output.trans hst4.output,Nat.le_trans hst4.size hgr.size,fun k hk => ?_,fun k hk hT => ?_⟩
    ·rcases ho5 k with h | ⟨h,_⟩
     ·rw [h];exact hst4.own k hk
     ·have:=hst4.size;omega
    ·rw [hgr.block k (Nat.lt_of_lt_of_le hk hst4.size) ?_]
     ·exact hst4.block k hk hT
     ·intro hx
      obtain ⟨cs,q1, -⟩:=hrow3
      have:=(q1.lt k hx.symm).1
      omega
   obtain ⟨na,nc,rfl⟩:=hrow5.form
   have hF:=hidden (show Gh w5 o5 w.heap.size (X,0) _ (Ce (k + 1) mc).1∧Ep w5 o5 Z p (Ce (k + 1) mc).2 from by rw [hsnH.out];exact ⟨hrow5,hrd5⟩)
   have hl1:((Ce k mc).1 ++ ([⟨E,m8.text.1⟩]:List Ar)).length = k + 1:=by rw [List.length_append,hlnH.out];rfl
   rw [hl1] at hrunH hF
   obtain ⟨ba,bc,rfl⟩:=Aq hb3
   clear hrun hrow5 hrd5 hs5 hgr ho5 hsa hnb hw4 hrow3 hrow2 hst2 hst3 hs3 hb3 hf3 hr3 ht hsz hl1
   go_wp2_with (first
    | ((with_reducible apply BO #[(0, .agg #[.int .u64 (E.toNat:Int), .slice ba m8.text.1.length bc])] rfl);exact hbs.out;simp only [Act.put,lsa,lsz,lss])
    | ((with_reducible apply Bl);exact hrunH.out;simp only [Act.put,lsa,lsz,lss]))
   go_roundw
   case rel=>exact ⟨k + 1,o5,by omega,by go_num,hF.out.1,hF.out.2,hst5⟩
   case measure=>simp [intOf];omega
  ·obtain rfl:N = k:=by omega
   obtain ⟨ra,rc,rfl⟩:=hrow.form
   rw [hln] at hrow ⊢
   go_wp2_with fail
   go_ret
   exact ⟨_,oj,rfl,hst,hrow,hrd⟩
def AX.Ez (k:AX) (m:RdM):AX × RdM:=({ k with promised:=(m.num 8).1 },(m.num 8).2)
def AX.FW (_k:AX) (m:RdM):AX × RdM:=(⟨(m.num 8).1,(m.num 8).1,(m.num 8).2.lines.1⟩,(m.num 8).2.lines.2)
def AX.Fb (k:AX) (m:RdM):AX × RdM:=({ k with lines:=k.lines ++ m.lines.1 },m.lines.2)
def Ny (w:World) (o:Own) (K X kb base:Nat) (k:AX):Prop:=
 ∃ lv,w.heap[kb]? = some (.cells #[.int .u64 (k.promised.toNat:Int), .int .u64 (k.current.toNat:Int),lv] 55 (0,0))∧o kb = (K,0)∧Gh w o base (X,0) lv k.lines
theorem Ny.step {T:Nat→Prop} {w w':World} {o o':Own} {K X kb base:Nat} {k:AX} (h:Ny w o K X kb base k) (s:Step T w o w' o') (hK:¬ T K) (hX:¬ T X) (h0:¬ T 0):Ny w' o' K X kb base k:=by
 obtain ⟨lv,h1,h2,h3⟩:=h
 have hl:=lt_of_block h1
 exact ⟨lv,by rw [s.block kb hl (by rw [h2];exact hK)];exact h1,by rw [s.own kb hl];exact h2,h3.step s hX h0⟩
structure Tg (K X Z:Nat):Prop where
 k0:K ≠ 0
 x0:X ≠ 0
 z0:Z ≠ 0
 kx:K ≠ X
 kz:K ≠ Z
 xz:X ≠ Z
def In3 (K X Z:Nat):Nat→Prop:=fun t=>t = K ∨ t = X ∨ t = Z
theorem RdM.KQ (m:RdM):m.lines.2.b.length ≤ m.b.length∧m.lines.1.length ≤ 256:=by
 unfold RdM.lines
 have h1:=RdM.IW 256 m
 have h2:=NG (m.count 256).1 (m.count 256).2
 omega
section
variable {w:World} {o:Own} {K X Z kb p base:Nat} {k:AX} {m:RdM}
theorem SS (ht:Tg K X Z) (h:Ny w o K X kb base k) (hr:Ep w o Z p m) (hm:m.b.length ≤ 1000000) :
  Calls Tryz.prog 130 #[.pointer (some ⟨kb,0,none⟩), .pointer (some ⟨p,0,none⟩)] w (Ret (In3 K X Z) w o fun v w' o'=>v = .tuple #[]∧Ny w' o' K X kb base (k.Ez m).1∧Ep w' o' Z p (k.Ez m).2):=by
 have hu:=hidden (EJ hr ht.z0 hm)
 have hH:=hidden h
 have htH:=hidden ht
 unfold AX.Ez
 generalize (m.num 8).1 = E at *
 generalize (m.num 8).2 = m8 at *
 clear h ht hr
 go_enter Tryz.func130,Tryz.ntmps130
 go_wp2_with fail
 refine hu.out.mono ?_;rintro e w1 ⟨v1,o1,rfl,hs,rfl,hr1⟩
 have ht:=htH.out
 obtain ⟨lv,h1,h2,h3⟩:=hH.out.step hs (fun h=>ht.kz h) (fun h=>ht.xz h) (fun h=>ht.z0 h.symm)
 have c0:w1.cell? ⟨kb,0,none⟩ = some (.int .u64 (k.promised.toNat:Int)):=cell_of_block (cs:=[_,_,_]) h1 0
 have f0:w1.frozen? ⟨kb,0,none⟩ = false:=Ap (cs:=[_,_,_]) h1 0
 have hset:=(Step.refl (Only K) w1 o1).setCell (a:=⟨kb,0,none⟩) (.int .u64 (E.toNat:Int)) (.inl (by show (o1 kb).1 = K;rw [h2]))
 have hF:=hidden (show Ny (w1.setCell ⟨kb,0,none⟩ (.int .u64 (E.toNat:Int))) o1 K X kb base { k with promised:=E }∧Ep (w1.setCell ⟨kb,0,none⟩ (.int .u64 (E.toNat:Int))) o1 Z p m8 from
  ⟨⟨lv,Ai (cs:=[_,_,_]) (i:=0) _ h1,h2,h3.step hset (fun h=>ht.kx h.symm) (fun h=>ht.k0 h.symm)⟩,hr1.step hset (fun h=>ht.kz h.symm) (fun h=>ht.k0 h.symm)⟩)
 have hst:=hidden ((hs.mono (T':=In3 K X Z) (fun _ h => .inr (.inr h))).trans (hset.mono (fun _ h => .inl h)))
 clear h1 h2 h3 hset hs hr1 ht hu
 go_wp2_with fail
 first | go_end0 | refine bodyPost_ret (results_none rfl _ _ _) rfl ?_
 exact ⟨_,o1,rfl,hst.out,rfl,hF.out.1,hF.out.2⟩
theorem WT (ht:Tg K X Z) (h:Ny w o K X kb base k) (hr:Ep w o Z p m) (hm:m.b.length ≤ 1000000) (hbase:base ≤ w.heap.size) :
  Calls Tryz.prog 131 #[.pointer (some ⟨kb,0,none⟩), .pointer (some ⟨p,0,none⟩)] w (Ret (In3 K X Z) w o fun v w' o'=>v = .tuple #[]∧Ny w' o' K X kb base (k.FW m).1∧Ep w' o' Z p (k.FW m).2):=by
 have hu:=hidden (EJ hr ht.z0 hm)
 have hH:=hidden h
 have htH:=hidden ht
 have hm8:=RdM.EC 8 m
 unfold AX.FW
 generalize (m.num 8).1 = E at *
 generalize (m.num 8).2 = m8 at *
 have hmH:=hidden (show m8.b.length ≤ 1000000 by omega)
 clear h ht hr hm8
 go_enter Tryz.func131,Tryz.ntmps131
 go_wp2_with fail
 refine hu.out.mono ?_;rintro e w1 ⟨v1,o1,rfl,hs,rfl,hr1⟩
 have ht:=htH.out
 obtain ⟨lv,h1,h2,h3⟩:=hH.out.step hs (fun h=>ht.kz h) (fun h=>ht.xz h) (fun h=>ht.z0 h.symm)
 have c0:w1.cell? ⟨kb,0,none⟩ = some (.int .u64 (k.promised.toNat:Int)):=cell_of_block (cs:=[_,_,_]) h1 0
 have f0:w1.frozen? ⟨kb,0,none⟩ = false:=Ap (cs:=[_,_,_]) h1 0
 have hset:=(Step.refl (Only K) w1 o1).setCell (a:=⟨kb,0,none⟩) (.int .u64 (E.toNat:Int)) (.inl (by show (o1 kb).1 = K;rw [h2]))
 have h1':=Ai (cs:=[_,_,_]) (i:=0) (.int .u64 (E.toNat:Int)) h1
 have hr2:=hr1.step hset (fun h=>ht.kz h.symm) (fun h=>ht.k0 h.symm)
 have hst:=hidden ((hs.mono (T':=In3 K X Z) (fun _ h => .inr (.inr h))).trans (hset.mono (fun _ h => .inl h)))
 obtain ⟨w2,hw2⟩:∃ w2,w1.setCell ⟨kb,0,none⟩ (.int .u64 (E.toNat:Int)) = w2:=⟨_,rfl⟩
 rw [hw2] at h1' hr2 hst
 have hw2H:=hidden hw2
 have hz2:w.heap.size ≤ w2.heap.size:=hst.out.size
 have hrl:=hidden (fun (W:World) (O:Own) (st:Step Nobody w2 o1 W O)=>JP (X:=X) (hr2.step st (fun h=>h) (fun h=>h)) ht.z0 ht.x0 ht.xz hmH.out)
 have h2H:=hidden h2
 have h1H:=hidden h1'
 have hS:=hidden (show w2.cell? ⟨kb,0,none⟩ = some (.int .u64 (E.toNat:Int)) from cell_of_block (cs:=[_,_,_]) h1' 0)
 clear h1 h2 h3 hset hs hr1 hr2 hw2 hu h1' ht hH
 go_wp2_with fail
 rw [hw2H.out]
 refine Aa (fun w'=>w'.cell? ⟨kb,0,none⟩ = some (.int .u64 (E.toNat:Int))) (fun _=>true) (by kernel_rfl) hS.out (fun hHeld => ?_)
 refine tq 0 ?_
 refine tq 1 ?_
 refine tq 2 ?_
 refine tq 3 ?_
 refine tq 4 ?_
 refine tq 5 ?_
 refine tq 6 ?_
 refine Ac (i:=7) rfl (by kernel_rfl) ?_
 go_wp2_with fail
 have hdr:=(Step.refl Nobody w2 o1).drew
 refine (hrl.out _ _ hdr).mono ?_;rintro e w3 ⟨v3,o3,rfl,hs3,hrow3,hr3⟩
 have hs3:Step (Only Z) w2 o1 w3 o3:=(hdr.only Z).trans hs3
 have ht:=htH.out
 have h13:=(hs3.block kb (lt_of_block h1H.out) (by rw [h2H.out];exact fun h=>ht.kz h)).trans h1H.out
 have h23:=(hs3.own kb (lt_of_block h1H.out)).trans h2H.out
 obtain ⟨ra,rc,rfl⟩:=hrow3.form
 have hS3:w3.cell? ⟨kb,0,none⟩ = some (.int .u64 (E.toNat:Int)):=cell_of_block (cs:=[_,_,_]) h13 0
 have f31:w3.frozen? ⟨kb,1,none⟩ = false:=Ap (cs:=[_,_,_]) h13 1
 have f32:w3.frozen? ⟨kb,2,none⟩ = false:=Ap (cs:=[_,_,_]) h13 2
 have c31:w3.cell? ⟨kb,1,none⟩ = some (.int .u64 (k.current.toNat:Int)):=cell_of_block (cs:=[_,_,_]) h13 1
 have c32:w3.cell? ⟨kb,2,none⟩ = some lv:=cell_of_block (cs:=[_,_,_]) h13 2
 have g1:=(Step.refl (Only K) w3 o3).setCell (a:=⟨kb,1,none⟩) (.int .u64 (E.toNat:Int)) (.inl (by show (o3 kb).1 = K;rw [h23]))
 have g2:=g1.setCell (a:=⟨kb,2,none⟩) (.slice ra m8.lines.1.length rc) (.inl (by show (o3 kb).1 = K;rw [h23]))
 have k1:=Ai (cs:=[_,_,_]) (i:=2) (.slice ra m8.lines.1.length rc) (Ai (cs:=[_,_,_]) (i:=1) (.int .u64 (E.toNat:Int)) h13)
 have hlow:Gh w3 o3 base (X,0) (.slice ra m8.lines.1.length rc) m8.lines.1:=by
  obtain ⟨cs,q1,q2,q3,q4⟩:=hrow3
  have hb:base ≤ (w2.drew).heap.size:=Nat.le_trans hbase hz2
  exact ⟨cs,JX q1 hb,q2,q3,fun u hu=>(q4 u hu).low hb⟩
 have hF:=hidden (show Ny ((w3.setCell ⟨kb,1,none⟩ (.int .u64 (E.toNat:Int))).setCell ⟨kb,2,none⟩ (.slice ra m8.lines.1.length rc)) o3 K X kb base ⟨E,E,m8.lines.1⟩∧Ep ((w3.setCell ⟨kb,1,none⟩ (.int .u64 (E.toNat:Int))).setCell ⟨kb,2,none⟩ (.slice ra m8.lines.1.length rc)) o3 Z p m8.lines.2 from
  ⟨⟨_,k1,h23,hlow.step g2 (fun h=>ht.kx h.symm) (fun h=>ht.k0 h.symm)⟩,hr3.step g2 (fun h=>ht.kz h.symm) (fun h=>ht.k0 h.symm)⟩)
 have hstF:=hidden ((hst.out.trans (hs3.mono (fun _ h => .inr (.inr h)))).trans (g2.mono (fun _ h => .inl h)))
 clear hs3 hrow3 hr3 g1 g2 k1 hlow ht hrl h13 hHeld
 go_wp2_with fail
 refine ⟨fun _=>hS3, ?_⟩
 refine tq 8 ?_
 refine tq 9 ?_
 refine Ac (i:=10) rfl (by kernel_rfl) ?_
 have hS10:(w3.setCell ⟨kb,1,none⟩ (.int .u64 (E.toNat:Int))).cell? ⟨kb,0,none⟩ = some (.int .u64 (E.toNat:Int)):=by rw [World.cell?_setCell_other _ _ _ _ (by simp)];exact hS3
 go_wp2_with fail
 refine ⟨fun _=>hS10, ?_⟩
 refine tq 11 ?_
 refine tq 12 ?_
 refine Ac (i:=13) rfl (by kernel_rfl) ?_
 have hS13:((w3.setCell ⟨kb,1,none⟩ (.int .u64 (E.toNat:Int))).setCell ⟨kb,2,none⟩ (.slice ra m8.lines.1.length rc)).cell? ⟨kb,0,none⟩ = some (.int .u64 (E.toNat:Int)):=by rw [World.cell?_setCell_other _ _ _ _ (by simp)];exact hS10
 go_wp2_with fail
 refine ⟨fun _=>hS13, ?_⟩
 refine Ae (by kernel_rfl) ?_ _
 go_wp2_with fail
 first | go_end0 | refine bodyPost_ret (results_none rfl _ _ _) rfl ?_
 exact ⟨_,o3,rfl,hstF.out,rfl,hF.out.1,hF.out.2⟩
theorem Gh.source {w:World} {o:Own} {base:Nat} {t:Nat × Nat} {v:Value} {ls:List Ar} (h:Gh w o base t v ls) (h0:0 < ls.length) :
  ∃ g c cs,v = .slice (some ⟨g,0,none⟩) ls.length c∧w.rangeAt g 0 cs∧LnC w o cs ls∧(∀ u ∈ cs,CV base u):=by
 obtain ⟨cs,h1,h2,h3,h4⟩:=h
 rcases h1.2 with ⟨_,h⟩ | ⟨g,cap,cur,rfl,q1,q2,q3,q4,q5,q6⟩
 ·omega
 ·refine ⟨g,cap,cs,rfl, ?_,h3,h4⟩
  have:=BU (w:=w) (b:=g) (cs:=cur.toList) (E:=36) (fr:=(0,0)) (by simpa using q2) 0 (ls.length * 2)
  rw [List.drop_zero,q6] at this;exact this
theorem Gh.iK {w:World} {o:Own} {base n c:Nat} {a:Option Addr} {t:Nat × Nat} {ls:List Ar} (h:Gh w o base t (.slice a n c) ls):n ≤ c∧n = ls.length:=by
 obtain ⟨cs,h1,h2,h3,h4⟩:=h
 rcases h1.2 with ⟨h,h0⟩ | ⟨g,cap,cur,h,q1,q2,q3,q4,q5,q6⟩
 ·cases h;omega
 ·cases h;omega
theorem Gh.Zh {W:World} {o:Own} {base b2 X:Nat} {t2:Nat × Nat} {v v2:Value} {l1 l2:List Ar} (h:Gh W o base (X,0) v l1) (hX:X ≠ 0) (hbase:base ≤ W.heap.size) (h2:Gh W o b2 t2 v2 l2) (hb2:base ≤ b2) (hn:l1.length + l2.length ≤ 100000) :
  ∃ nv w' o',(Builtin.append_ #[32,32] 32 #[v,v2]).run Tryz.prog W = .ok nv w'∧Gh w' o' base (X,0) nv (l1 ++ l2)∧Step (Only X) W o w' o':=by
 by_cases h0:l2.length = 0
 ·have e:=List.eq_nil_of_length_eq_zero h0
  subst e
  obtain ⟨a,c,rfl⟩:=h.form
  obtain ⟨a2,c2,rfl⟩:=h2.form
  have:=h.iK.1
  refine ⟨_,W,o,CB (P:=Tryz.prog) W 32 32 36 2 Tryz.underlying32 (by kernel_rfl) a a2 l1.length c c2 this (by simp at hn;omega),by rw [List.append_nil];exact h,Step.refl _ _ _⟩
 ·obtain ⟨g,c,cs,rfl,q1,q2,q3⟩:=h2.source (by omega)
  obtain ⟨nv,w',o',a1,a2,a3, -, -⟩:=h.append hX hbase q1 q2 (fun u hu=>(q3 u hu).low hb2) (by omega) hn (c:=c)
  exact ⟨nv,w',o',a1,a2,a3⟩
theorem UO (ht:Tg K X Z) (h:Ny w o K X kb base k) (hr:Ep w o Z p m) (hm:m.b.length ≤ 1000000) (hbase:base ≤ w.heap.size) (hk:k.lines.length ≤ 90000) :
  Calls Tryz.prog 132 #[.pointer (some ⟨kb,0,none⟩), .pointer (some ⟨p,0,none⟩)] w (Ret (In3 K X Z) w o fun v w' o'=>v = .tuple #[]∧Ny w' o' K X kb base (k.Fb m).1∧Ep w' o' Z p (k.Fb m).2):=by
 obtain ⟨lv,h1,h2,h3⟩:=h
 obtain ⟨Y,hY⟩:∃ Y,Y = K + X + Z + 1:=⟨_,rfl⟩
 have hY0:Y ≠ 0:=by omega
 have hYZ:Y ≠ Z:=by omega
 have hrl:=hidden (fun (W:World) (O:Own) (st:Step Nobody w o W O)=>JP (X:=Y) (hr.step st (fun h=>h) (fun h=>h)) ht.z0 hY0 hYZ hm)
 have hll:=m.KQ.2
 have c2:w.cell? ⟨kb,2,none⟩ = some lv:=cell_of_block (cs:=[_,_,_]) h1 2
 have htH:=hidden ht
 have hH:=hidden (And.intro h1 (And.intro h2 h3))
 have hkb:=lt_of_block h1
 obtain ⟨ka,kc,rfl⟩:=h3.form
 unfold AX.Fb
 generalize m.lines.1 = LL at *
 generalize m.lines.2 = mL at *
 clear h1 h2 h3 hr ht
 go_enter Tryz.func132,Tryz.ntmps132
 go_wp2_with fail
 refine Aa (fun w'=>w'.cell? ⟨kb,2,none⟩ = some (.slice ka k.lines.length kc)) (fun i=>decide (i < 10)) (by kernel_rfl) c2 (fun hHeld => ?_)
 refine tq 0 ?_
 refine tq 1 ?_
 refine tq 2 ?_
 refine tq 3 ?_
 refine tq 4 ?_
 refine tq 5 ?_
 refine Ac (i:=6) rfl (by kernel_rfl) ?_
 go_wp2_with fail
 have hdr:=(Step.refl Nobody w o).drew
 refine (hrl.out _ _ hdr).mono ?_;rintro e w3 ⟨v3,o3,rfl,hs3,hrow3,hr3⟩
 have hs3:Step (Only Z) w o w3 o3:=(hdr.only Z).trans hs3
 have ht:=htH.out
 obtain ⟨h1,h2,h3⟩:=hH.out
 have h13:=(hs3.block kb hkb (by rw [h2];exact fun h=>ht.kz h)).trans h1
 have h23:=(hs3.own kb hkb).trans h2
 have h33:=h3.step hs3 (fun h=>ht.xz h) (fun h=>ht.z0 h.symm)
 have hS3:w3.cell? ⟨kb,2,none⟩ = some (.slice ka k.lines.length kc):=cell_of_block (cs:=[_,_,_]) h13 2
 have hz3:base ≤ w3.heap.size:=Nat.le_trans hbase hs3.size
 obtain ⟨nv,w4,o4,hrun,hrow4,hs4⟩:=h33.Zh ht.x0 hz3 hrow3 (show base ≤ (w.drew).heap.size from hbase) (by omega)
 have hrunH:=hidden hrun
 have h14:=(hs4.block kb (lt_of_block h13) (by rw [h23];exact fun h=>ht.kx h)).trans h13
 have h24:=(hs4.own kb (lt_of_block h13)).trans h23
 have hr4:=hr3.step hs4 (fun h=>ht.xz h.symm) (fun h=>ht.x0 h.symm)
 have hS4:w4.cell? ⟨kb,2,none⟩ = some (.slice ka k.lines.length kc):=cell_of_block (cs:=[_,_,_]) h14 2
 have f4:w4.frozen? ⟨kb,2,none⟩ = false:=Ap (cs:=[_,_,_]) h14 2
 obtain ⟨ra,rc,rfl⟩:=hrow3.form
 obtain ⟨na,nc,rfl⟩:=hrow4.form
 have g2:=(Step.refl (Only K) w4 o4).setCell (a:=⟨kb,2,none⟩) (.slice na (k.lines ++ LL).length nc) (.inl (by show (o4 kb).1 = K;rw [h24]))
 have k1:=Ai (cs:=[_,_,_]) (i:=2) (.slice na (k.lines ++ LL).length nc) h14
 have hF:=hidden (show Ny (w4.setCell ⟨kb,2,none⟩ (.slice na (k.lines ++ LL).length nc)) o4 K X kb base { k with lines:=k.lines ++ LL }∧Ep (w4.setCell ⟨kb,2,none⟩ (.slice na (k.lines ++ LL).length nc)) o4 Z p mL from
  ⟨⟨_,k1,h24,hrow4.step g2 (fun h=>ht.kx h.symm) (fun h=>ht.k0 h.symm)⟩,hr4.step g2 (fun h=>ht.kz h.symm) (fun h=>ht.k0 h.symm)⟩)
 have hstF:=hidden ((((hs3.mono (T':=In3 K X Z) (fun _ h => .inr (.inr h)))).trans (hs4.mono (fun _ h => .inr (.inl h)))).trans (g2.mono (fun _ h => .inl h)))
 generalize (k.lines ++ LL).length = NL at *
 clear hs3 hrow3 hr3 hs4 hrow4 g2 k1 ht hrl h13 h14 h33 hr4 h1 h2 h3 hHeld hrun hdr
 go_wp2_with fail
 refine ⟨fun _=>hS3, ?_⟩
 refine Ac (i:=7) rfl (by kernel_rfl) ?_
 refine Bl hrunH.out ?_
 refine wpList_nil ?_
 simp only [Act.put,lsa,lsz,lss]
 refine ⟨fun _=>hS4, ?_⟩
 refine Ac (i:=8) rfl (by kernel_rfl) ?_
 go_wp2_with fail
 refine ⟨fun _=>hS4, ?_⟩
 refine tq 9 ?_
 refine Ac (i:=10) rfl (by kernel_rfl) ?_
 go_wp2_with fail
 refine ⟨fun h=>by simp at h, ?_⟩
 refine Ae (by kernel_rfl) ?_ _
 clear hS4 hS3 hrunH
 go_wp2_with fail
 first | go_end0 | refine bodyPost_ret (results_none rfl _ _ _) rfl ?_
 exact ⟨_,o4,rfl,hstF.out,rfl,hF.out.1,hF.out.2⟩
theorem Fq (w:World):Calls Tryz.prog 76 #[.bool true] w fun e w'=>e = .returned (.tuple #[])∧w = w':=by
 go_enter Tryz.func76,Tryz.ntmps76
 go_wp2
 first | go_end0 | refine bodyPost_ret (results_none rfl _ _ _) rfl ?_
 exact ⟨rfl,rfl⟩
end
def Fh (k:AX) (b:List UInt8):Option AX:=
 let t:=(RdM.mk b false).num 1
 if t.1.toNat % 256 = 2 then (if (k.Ez t.2).2.done = 0 then some (k.Ez t.2).1 else none)
 else if t.1.toNat % 256 = 3 then (if (k.FW t.2).2.done = 0 then some (k.FW t.2).1 else none)
 else if t.1.toNat % 256 = 4 then (if (k.Fb t.2).2.done = 0 then some (k.Fb t.2).1 else none)
 else none
def FV:AX→List (List UInt8)→Option AX
 | k,[]=>some k
 | k,b :: r=>match Fh k b with
  | some k'=>FV k' r
  | none=>none
def EF (b:List UInt8):Option (BitVec 64 × AX):=
 let t:=(RdM.mk b false).num 1
 let a:=t.2.num 8
 let p:=a.2.num 8
 let c:=p.2.num 8
 let l:=c.2.lines
 if t.1.toNat % 256 = 1∧l.2.done = 0∧0 < a.1.toNat then some (a.1,⟨p.1,c.1,l.1⟩) else none
def DK:List (List UInt8)→Option (BitVec 64 × AX)
 | []=>some (0,⟨0,0,[]⟩)
 | b :: r=>match EF b with
  | some (a,k)=>(FV k r).map fun k'=>(a,k')
  | none=>none
def FB:Obj := .map #[⟨.int .u8 2, .func (.func 130) #[] #[],0⟩,⟨.int .u8 3, .func (.func 131) #[] #[],1⟩,⟨.int .u8 4, .func (.func 132) #[] #[],2⟩] 3
section
variable {P:Program} {ops:Array Oper} {Q:Exit→Act→World→Prop} {rest:List Oper} {d:Option Nat} {ty:TypeId} {ps:String} {af:Array _} {a:Act} {w w':World} {v:Value}
theorem Ji {m k x:Operand} {t:TypeId} (hr:(Instr.mapUpdate t (a.eval m) (a.eval k) (a.eval x)).run P w = .ok () w') (h:wpList P ops Q rest (a.put d undef) w') :
  wpList P ops Q ({ dst:=d,op := .insert t m k x,type:=ty,pos:=ps,after:=af,guard:=none } :: rest) a w:=
 wpList_plain rfl fun _ hK=>by
  unfold Oper.wp execOp
  simp only [Sem.run_bind,hr,Result.andThen_ok,Sem.run_pure]
  exact hK _ _ h
theorem Iq {t:TypeId} (hr:(Instr.makeMap t none).run P w = .ok v w') (h:wpList P ops Q rest (a.put d v) w') :
  wpList P ops Q ({ dst:=d,op := .makeMap t none,type:=ty,pos:=ps,after:=af,guard:=none } :: rest) a w:=
 wpList_plain rfl fun _ hK=>by
  unfold Oper.wp execOp
  simp only [Option.map_none,Sem.run_bind,hr,Result.andThen_ok,Sem.run_pure]
  exact hK _ _ h
theorem DN {m k:Operand} {t:TypeId} {ok:Bool} (hr:(Instr.lookup t (a.eval m) (a.eval k) ok).run P w = .ok v w') (h:wpList P ops Q rest (a.put d v) w') :
  wpList P ops Q ({ dst:=d,op := .lookup t m k ok,type:=ty,pos:=ps,after:=af,guard:=none } :: rest) a w:=
 wpList_plain rfl fun _ hK=>by
  unfold Oper.wp execOp
  simp only [Sem.run_bind,hr,Result.andThen_ok,Sem.run_pure]
  exact hK _ _ h
end
theorem OC (w:World) (o1 o2:Obj):({ (w.alloc o1) with heap:=(w.alloc o1).heap.setIfInBounds w.heap.size o2 }:World) = w.alloc o2:=by
 cases w
 simp only [World.alloc]
 congr 1
 apply Array.ext_getElem?
 intro i
 simp only [Array.getElem?_setIfInBounds,Array.getElem?_push,Array.size_push]
 split <;> rename_i h
 ·subst h;simp
 ·have:¬ i = _:=fun h'=>h h'.symm
  simp [this]
theorem SN (w:World):(Instr.makeMap 188 none).run Tryz.prog w = .ok (.map (some w.heap.size)) (w.alloc (.map #[] 0)):=by
 rfl
theorem Lr (w:World) (es:Array MapEntry) (clock:Nat) (k:Int) (v:Value) (hf:Instr.findNow (.int .u8) (.int .u8 k) es.toList 0 = some none) :
  (Instr.mapUpdate 195 (.map (some w.heap.size)) (.int .u8 k) v).run Tryz.prog (w.alloc (.map es clock)) = .ok () (w.alloc (.map (es.push ⟨.int .u8 k,v,clock⟩) (clock + 1))):=by
 have hb:(w.alloc (.map es clock)).heap[w.heap.size]? = some (.map es clock):=heap_alloc_new w _
 have hck:(Instr.checkKey false 10000 5 (.int .u8 k)).run Tryz.prog (w.alloc (.map es clock)) = .ok () (w.alloc (.map es clock)):=by
  unfold Instr.checkKey
  simp [run_underlying Tryz.underlying5]
 have hfk:(Instr.findKey 5 (.int .u8 k) es.toList).run Tryz.prog (w.alloc (.map es clock)) = .ok none (w.alloc (.map es clock)):=by
  simp [Instr.findKey,run_underlying Tryz.underlying5,hf]
 simp only [Instr.mapUpdate,Sem.run_bind,run_underlying Tryz.underlying195,Result.andThen_ok,MapKept.run_getObj_map hb,hck,hfk,MapKept.run_setObj_map _ hb]
 rw [OC]
theorem JO {w:World} {b:Nat} (hb:w.heap[b]? = some FB):(∀ (f:Nat),(f = 2 ∨ f = 3 ∨ f = 4)→(Instr.lookup 195 (.map (some b)) (.int .u8 (f:Int)) true).run Tryz.prog w = .ok (.tuple #[.func (.func (f + 128)) #[] #[], .bool true]) w):=by
 intro f hf
 have hck:∀ k:Int,(Instr.checkKey false 10000 5 (.int .u8 k)).run Tryz.prog w = .ok () w:=fun k=>by
  unfold Instr.checkKey
  simp [run_underlying Tryz.underlying5]
 unfold FB at hb
 rcases hf with rfl | rfl | rfl
 all_goals
  simp only [Instr.lookup,Sem.run_bind,run_underlying Tryz.underlying195,Result.andThen_ok,MapKept.run_getObj_map hb,Sem.run_pure,Instr.findKey,run_underlying Tryz.underlying5]
  simp [Instr.findNow,Instr.sameNow,hck]
theorem JC {P:Program} {fn:Func} {p u:Tmp} {ty:TypeId} (h:fn.results = #[.tmp u, .cell p ty]) (tmps:Array Value) (w:World) (g:Nat) (t:TypeId) (cs:Array Value) (fr:Nat × Nat) (d:TypeDesc)
  (hp:tmps.getD p undef = .pointer (some ⟨g,0,none⟩)) (hg:w.heap[g]? = some (.cells cs t fr))
  (hu:P.underlying ty = some d) (hd:(match d with | .struct _ | .array _ _=>true | _=>false) = true) (hi:(P.info? ty).map (·.size) = some cs.size) :
  (results fn tmps).run P w = .ok (.tuple #[tmps.getD u undef, .agg cs]) w:=by
 rw [Array.getD_eq_getD_getElem?] at hp
 unfold results;rw [h]
 simp [hp,asAddr,run_loadVar_row w g t ty cs fr d hg hu hd hi]
theorem Oo {k:AX} {b:List UInt8} {r:List (List UInt8)} {kf:AX} (h:FV k (b :: r) = some kf):∃ k',Fh k b = some k'∧FV k' r = some kf:=by
 unfold FV at h
 cases hk:Fh k b with
 | none=>rw [hk] at h;cases h
 | some k'=>rw [hk] at h;exact ⟨k',rfl,h⟩
theorem Uw (w:World) (o:Own) (a:Option Addr) (c:Nat):Calls Tryz.prog 77 #[.slice a 0 c] w (Ret Nobody w o fun r w' o'=>∃ lv,r = .tuple #[.int .u64 0,Dy 0 0 lv]∧Lines w' o' w.heap.size lv []∧o' = ext w o):=by
 have s1:=(Step.refl Nobody w o).alloc (.cells #[.int .u64 0, .int .u64 0, .slice none 0 0] 55) (0,0)
 have b1:(w.alloc (.cells #[.int .u64 0, .int .u64 0, .slice none 0 0] 55)).heap[w.heap.size]? = some (.cells [.int .u64 0, .int .u64 0, .slice none 0 0].toArray 55 (0,0)):=heap_alloc_new w _
 have hal:=hidden (AB (P:=Tryz.prog) w 55 _ LX)
 obtain ⟨hso,hsb⟩:=Ba (P:=Tryz.prog) (ty:=55) (vs:=[.int .u64 0, .int .u64 0, .slice none 0 0]) b1 rfl (by kernel_rfl) rfl
 have hsoH:=hidden hso
 have hstF:=s1.setCells w.heap.size 0 [.int .u64 0, .int .u64 0, .slice none 0 0] (.inr (Nat.le_refl _))
 clear hso s1 b1
 go_enter Tryz.func77,Tryz.ntmps77
 go_wp2_with (first
  | ((with_reducible apply AU);exact hal.out;simp only [Act.put,lsa,lsz,lss])
  | ((with_reducible apply AC);exact hsoH.out;simp only [Act.put]))
 refine bodyPost_ret (JC rfl _ _ w.heap.size 55 _ (0,0) _ rfl hsb Tryz.underlying55 rfl Ij) rfl ?_
 exact ⟨_,ext w o,rfl,hstF.Me _ (fun k hk=>if_pos hk),_,rfl,Lines.nil _ _ _,rfl⟩
theorem QJ {b:List UInt8} {age:BitVec 64} {k:AX} (h:EF b = some (age,k)) (hb:b.length ≤ 1000000) :
  ∃ T m1 m2 P m3 C m4 L m5,(RdM.mk b false).num 1 = (T,m1)∧m1.num 8 = (age,m2)∧m2.num 8 = (P,m3)∧m3.num 8 = (C,m4)∧m4.lines = (L,m5)∧T.toNat % 256 = 1∧m5.done = 0∧0 < age.toNat∧k = ⟨P,C,L⟩ ∧
   m1.b.length ≤ 1000000∧m2.b.length ≤ 1000000∧m3.b.length ≤ 1000000∧m4.b.length ≤ 1000000∧L.length ≤ 256:=by
 unfold EF at h
 simp only at h
 have l1:=RdM.EC 1 (RdM.mk b false)
 generalize h1:(RdM.mk b false).num 1 = t at *
 obtain ⟨T,m1⟩:=t
 have l2:=RdM.EC 8 m1
 simp only at h l1
 generalize h2:m1.num 8 = t at *
 obtain ⟨A,m2⟩:=t
 have l3:=RdM.EC 8 m2
 simp only at h l2
 generalize h3:m2.num 8 = t at *
 obtain ⟨P,m3⟩:=t
 have l4:=RdM.EC 8 m3
 simp only at h l3
 generalize h4:m3.num 8 = t at *
 obtain ⟨C,m4⟩:=t
 have l5:=RdM.KQ m4
 simp only at h l4
 generalize h5:m4.lines = t at *
 obtain ⟨L,m5⟩:=t
 simp only at h l5
 split at h
 ·rename_i hc
  simp only [Option.some.injEq,Prod.mk.injEq] at h
  obtain ⟨rfl,rfl⟩:=h
  exact ⟨T,m1,m2,P,m3,C,m4,L,m5,rfl,h2,h3,h4,h5,hc.1,hc.2.1,hc.2.2,rfl,by omega,by omega,by omega,by omega,l5.2⟩
 ·cases h
theorem Ol {k k':AX} {b:List UInt8} (h:Fh k b = some k') (hb:b.length ≤ 1000000) :
  ∃ T m1,(RdM.mk b false).num 1 = (T,m1)∧m1.b.length ≤ 1000000∧((T.toNat % 256 = 2∧(k.Ez m1).2.done = 0∧k' = (k.Ez m1).1) ∨ (T.toNat % 256 = 3∧(k.FW m1).2.done = 0∧k' = (k.FW m1).1) ∨ (T.toNat % 256 = 4∧(k.Fb m1).2.done = 0∧k' = (k.Fb m1).1)):=by
 unfold Fh at h
 simp only at h
 have l1:=RdM.EC 1 (RdM.mk b false)
 generalize h1:(RdM.mk b false).num 1 = t at *
 obtain ⟨T,m1⟩:=t
 simp only at h l1
 refine ⟨T,m1,rfl,by omega, ?_⟩
 split at h
 ·rename_i hT
  split at h
  ·rename_i hd;cases h;exact .inl ⟨hT,hd,rfl⟩
  ·cases h
 ·split at h
  ·rename_i hT
   split at h
   ·rename_i hd;cases h;exact .inr (.inl ⟨hT,hd,rfl⟩)
   ·cases h
  ·split at h
   ·rename_i hT
    split at h
    ·rename_i hd;cases h;exact .inr (.inr ⟨hT,hd,rfl⟩)
    ·cases h
   ·cases h
theorem SY {k k':AX} {b:List UInt8} (h:Fh k b = some k') (hb:b.length ≤ 1000000):k'.lines.length ≤ k.lines.length + 256:=by
 obtain ⟨T,m1, -, -,h⟩:=Ol h hb
 rcases h with ⟨-, -,rfl⟩ | ⟨-, -,rfl⟩ | ⟨-, -,rfl⟩
 ·unfold AX.Ez;simp
 ·unfold AX.FW
  have:=(m1.num 8).2.KQ.2
  simp only;omega
 ·unfold AX.Fb
  have:=m1.KQ.2
  simp only [List.length_append];omega
theorem Step.still {T:Nat→Prop} {w w':World} {o o':Own} (h:Step T w o w' o') (hT:∀ k,k < w.heap.size→¬ T (o k).1):Step Nobody w o w' o':=
 ⟨h.os,h.tape,h.output,h.size,h.own,fun k hk _=>h.block k hk (hT k hk)⟩
theorem Yt {w:World} {o:Own} {b off n c:Nat} {vs:List Value} (h:Slc w o (.slice (some ⟨b,off,none⟩) n c) n vs) (hl:vs.length = n) (h1:1 ≤ n) :
  ∃ a' c',(Instr.sliceAt 22 (.slice (some ⟨b,off,none⟩) n c) (some (.int .i64 1)) none none).run Tryz.prog w = .ok (.slice a' (n - 1) c') w∧Slc w o (.slice a' (n - 1) c') (n - 1) (vs.drop 1):=by
 have hu:Tryz.prog.underlying 22 = some (.slice (Tryz.prog.elem 22)):=by kernel_rfl
 have hsz:(sizeOf (Tryz.prog.elem 22)).run Tryz.prog w = .ok 1 w:=by
  have:Tryz.prog.elem 22 = 23:=by kernel_rfl
  rw [this]
  have h5:(Tryz.prog.info? 23).map (·.size) = some 1:=by kernel_rfl
  cases hq:Tryz.prog.info? 23 with
  | none=>simp [hq] at h5
  | some i=>simp [hq] at h5;simp [sizeOf,typeInfo,hq,h5]
 rcases h with ⟨⟨a,c,hq⟩,h0,_⟩ | ⟨b',off',cap,hq,hl',hm,ho,hb,hr⟩
 ·omega
 ·cases hq
  refine ⟨if c = 1 then some ⟨b,off,none⟩ else some ⟨b,off + 1,none⟩,c - 1, ?_, ?_⟩
  ·rw [run_sliceAt_slice _ _ _ _ _ _ hu,run_slice_l w 22 _ n c hu .i64 1 (by omega) (by omega),hsz]
   simp only [Result.andThen_ok,sliced,Option.map_some,Int.toNat_one,addr_add,Nat.mul_one]
  ·by_cases hn1:n = 1
   ·subst hn1
    exact .inl ⟨⟨_,_,rfl⟩,rfl,by rw [List.drop_eq_nil_of_le (by omega)]⟩
   ·rw [if_neg (by omega)]
    refine .inr ⟨b,off + 1,c - 1,rfl,by omega,by omega,ho,hb, ?_⟩
    have:=ER hr 1 (n - 1)
    rw [List.take_of_length_le (by rw [List.length_drop];omega)] at this
    exact this
section
variable {w:World} {o:Own} {v:Value} {vs:List Value} {bs:List (List UInt8)} {age:BitVec 64} {kf:AX}
theorem Sv {b0:List UInt8} (hv:Slc w o v (bs.length + 1) vs) (hrb:Ey w o vs (b0 :: bs)) (hbl:∀ b ∈ b0 :: bs,b.length ≤ 1000000) (hlen:bs.length < 300) (hm:DK (b0 :: bs) = some (age,kf)) :
  Calls Tryz.prog 77 #[v] w (Ret Nobody w o fun r w' o'=>∃ lv,r = .tuple #[.int .u64 (age.toNat:Int),Dy kf.promised kf.current lv]∧Lines w' o' w.heap.size lv kf.lines∧o' = ext w o):=by
 obtain ⟨M,hM0,hM⟩:=EZ o 1 w.heap.size
 have ht:Tg (M + 1) (M + 2) (M + 3):=⟨by omega,by omega,by omega,by omega,by omega,by omega⟩
 have hfr:∀ k,k < w.heap.size→¬ In3 (M + 1) (M + 2) (M + 3) (o k).1:=fun k hk h=>by
  have:=hM k hk
  unfold In3 at h;omega
 have hnY:¬ In3 (M + 1) (M + 2) (M + 3) (M + 4):=fun h=>by unfold In3 at h;omega
 have hY0:M + 4 ≠ 0:=by omega
 generalize M + 1 = K at ht hfr hnY
 generalize M + 2 = X at ht hfr hnY
 generalize M + 3 = Z at ht hfr hnY
 generalize M + 4 = Y at hnY hY0
 clear hM hM0 M
 have hf:∃ k,EF b0 = some (age,k)∧FV k bs = some kf:=by
  simp only [DK] at hm
  cases hr:EF b0 with
  | none=>rw [hr] at hm;cases hm
  | some q =>
   obtain ⟨a,k⟩:=q
   rw [hr] at hm
   simp only [Option.map_eq_some_iff,Prod.mk.injEq] at hm
   obtain ⟨k',h1,h2,h3⟩:=hm
   subst h2 h3;exact ⟨k,rfl,h1⟩
 obtain ⟨k0,hf0,hall⟩:=hf
 clear hm
 obtain ⟨n,hn⟩:∃ n,bs.length + 1 = n:=⟨_,rfl⟩
 rw [hn] at hv
 obtain ⟨va,vc,rfl⟩:=Aq hv
 have hvl:vs.length = n:=by rw [hrb.1, ←hn];rfl
 obtain ⟨e0,he0⟩:∃ e0,vs[0]? = some e0:=⟨_,List.getElem?_eq_getElem (by omega)⟩
 have hB0:Bytes w o e0 b0:=hrb.2 0 e0 b0 he0 rfl
 obtain ⟨rb,roff,rfl,hc0,hrlt,hro⟩:=hv.cell 0 he0
 obtain ⟨ea,ec,rfl⟩:=Aq hB0
 have s1:=(Step.refl Nobody w o).alloc (.cells #[.int .u64 0, .int .u64 0, .slice none 0 0] 55) (Y,0)
 have hal:=hidden (AB (P:=Tryz.prog) w 55 _ LX)
 have hb3:(w.alloc (.cells #[.int .u64 0, .int .u64 0, .slice none 0 0] 55)).heap[w.heap.size]? = some (.cells [.int .u64 0, .int .u64 0, .slice none 0 0].toArray 55 (0,0)):=heap_alloc_new w _
 have hm0:=hidden (SN (w.alloc (.cells #[.int .u64 0, .int .u64 0, .slice none 0 0] 55)))
 have hm1:=hidden (Lr (w.alloc (.cells #[.int .u64 0, .int .u64 0, .slice none 0 0] 55)) #[] 0 2 (.func (.func 130) #[] #[]) rfl)
 have hm2:=hidden (Lr (w.alloc (.cells #[.int .u64 0, .int .u64 0, .slice none 0 0] 55)) #[⟨.int .u8 2, .func (.func 130) #[] #[],0⟩] 1 3 (.func (.func 131) #[] #[]) rfl)
 have hm3:=hidden (Lr (w.alloc (.cells #[.int .u64 0, .int .u64 0, .slice none 0 0] 55)) #[⟨.int .u8 2, .func (.func 130) #[] #[],0⟩,⟨.int .u8 3, .func (.func 131) #[] #[],1⟩] 2 4 (.func (.func 132) #[] #[]) rfl)
 have s2:=s1.alloc FB (0,0)
 have hmb:((w.alloc (.cells #[.int .u64 0, .int .u64 0, .slice none 0 0] 55)).alloc FB).heap[(w.alloc (.cells #[.int .u64 0, .int .u64 0, .slice none 0 0] 55)).heap.size]? = some FB:=heap_alloc_new _ _
 have hmo:Ak (Ak o w.heap.size (Y,0)) (w.alloc (.cells #[.int .u64 0, .int .u64 0, .slice none 0 0] 55)).heap.size (0,0) (w.alloc (.cells #[.int .u64 0, .int .u64 0, .slice none 0 0] 55)).heap.size = (0,0):=Au _ _ _
 have hb3':=(Below.heap_alloc (w.alloc (.cells #[.int .u64 0, .int .u64 0, .slice none 0 0] 55)) FB w.heap.size (by simp)).trans hb3
 have hb3o:Ak (Ak o w.heap.size (Y,0)) (w.alloc (.cells #[.int .u64 0, .int .u64 0, .slice none 0 0] 55)).heap.size (0,0) w.heap.size = (Y,0):=by rw [BI _ _ (by simp)];exact Au _ _ _
 generalize Ak (Ak o w.heap.size (Y,0)) (w.alloc (.cells #[.int .u64 0, .int .u64 0, .slice none 0 0] 55)).heap.size (0,0) = o2 at *
 have hmv:Value.map (some (w.alloc (.cells #[.int .u64 0, .int .u64 0, .slice none 0 0] 55)).heap.size) = .map (some (w.heap.size + 1)):=by simp
 have hmbs:(w.alloc (.cells #[.int .u64 0, .int .u64 0, .slice none 0 0] 55)).heap.size = w.heap.size + 1:=by simp
 rw [hmbs] at hmb hmo
 obtain ⟨W1,hW1⟩:∃ W1,w.alloc (.cells #[.int .u64 0, .int .u64 0, .slice none 0 0] 55) = W1:=⟨_,rfl⟩
 obtain ⟨W2,hW2⟩:∃ W2,W1.alloc FB = W2:=⟨_,rfl⟩
 rw [hW1] at hal hm0 hm1 hm2 hm3 s2 hmb hb3' hmbs
 rw [hW2] at s2 hmb hb3'
 rw [hmbs] at hm0 hm1 hm2 hm3
 have hm3:=hidden (show Sem.run Tryz.prog (Instr.mapUpdate 195 (.map (some (w.heap.size + 1))) (.int .u8 4) (.func (.func 132) #[] #[])) _ = Result.ok () W2 from hW2 ▸ hm3.out)
 have hst2:=s2
 have c20:=(hB0.step hst2 (fun h=>h))
 have hcell0:W2.cell? ⟨rb,roff,none⟩ = some (.slice ea b0.length ec):=by
  obtain ⟨b',off',h1,h2, -, -⟩:=(hv.step hst2 (fun h=>h)).cell 0 he0
  cases h1;exact h2
 have hnI:((n:Int) == 0) = false:=by simp;omega
 have hnI2:(0:Int) < n:=by omega
 have hnew:=hidden (NH Z c20 (hbl b0 (by simp)))
 have hvH:=hidden (hv.step hst2 (fun h=>h))
 have hrbH:=hidden (hrb.step hst2 (fun h=>h))
 have hstH:=hidden (hst2)
 have hmbH:=hidden (And.intro hmb hmo)
 have hb3H:=hidden (And.intro hb3' hb3o)
 have htH:=hidden ht
 have hfrH:=hidden hfr
 have hblH:=hidden hbl
 have hf0H:=hidden hf0
 have hallH:=hidden hall
 have hvlH:=hidden hvl
 have hnH:=hidden hn
 have hlenH:=hidden hlen
 clear hv hrb c20 s1 s2 hst2 hmb hmo hb3' hb3o hb3 ht hfr hbl hf0 hall hB0 he0 hc0 hmv hW2 hvl hn hlen
 go_enter Tryz.func77,Tryz.ntmps77
 go_wp2_with (first
  | ((with_reducible apply AU);exact hal.out;simp only [Act.put,lsa,lsz,lss])
  | ((with_reducible apply Iq);exact hm0.out;simp only [Act.put,lsa,lsz,lss])
  | ((with_reducible apply Ji);(first | exact hm1.out | exact hm2.out | exact hm3.out);simp only [Act.put]))
 refine hnew.out.mono ?_;rintro e w3 ⟨v3,o3,rfl,hs3,p,hpge,rfl,hr3⟩
 obtain ⟨T,m1,m2,P,m3,C,m4,L,m5,q1,q2,q3,q4,q5,qT,qD,qA,rfl,n1,n2,n3,n4,nL⟩:=QJ hf0H.out (hblH.out b0 (by simp))
 have hby:=hidden (NI hr3 htH.out.z0 (hblH.out b0 (by simp)))
 rw [q1] at hby
 simp only [qT] at hby
 have st3:=hidden (hstH.out.trans hs3)
 have qA':=hidden qA
 have q2H:=hidden q2
 have q3H:=hidden q3
 have q4H:=hidden q4
 have q5H:=hidden q5
 have qDH:=hidden qD
 clear q1 q2 q3 q4 q5 qD qT hr3 hpge hm0 hm1 hm2 hm3 hal hnew hcell0 qA
 have g3:=hidden (And.intro (hvH.out.step hs3 (fun h=>h)) (And.intro (hrbH.out.step hs3 (fun h=>h)) (And.intro ((hs3.block _ (lt_of_block hmbH.out.1) (fun h=>h)).trans hmbH.out.1) ((hs3.block _ (lt_of_block hb3H.out.1) (fun h=>h)).trans hb3H.out.1))))
 have g3o:=hidden (And.intro ((hs3.own _ (lt_of_block hmbH.out.1)).trans hmbH.out.2) ((hs3.own _ (lt_of_block hb3H.out.1)).trans hb3H.out.2))
 clear hvH hrbH hmbH hb3H hstH hs3
 go_wp2_with fail
 refine hby.out.mono ?_;rintro e w4 ⟨v4,o4,rfl,hs4,rfl,hr4⟩
 clear hby
 go_wp2_with fail
 refine (Fq w4).mono ?_;rintro e w4' ⟨rfl,rfl⟩
 have hu:=hidden (EJ hr4 htH.out.z0 n1)
 rw [q2H.out] at hu
 clear hr4
 go_wp2_with fail
 refine hu.out.mono ?_;rintro e w5 ⟨v5,o5,rfl,hs5,rfl,hr5⟩
 clear hu
 have hu:=hidden (EJ hr5 htH.out.z0 n2)
 rw [q3H.out] at hu
 clear hr5
 go_wp2_with fail
 refine hu.out.mono ?_;rintro e w6 ⟨v6,o6,rfl,hs6,rfl,hr6⟩
 clear hu
 have hu:=hidden (EJ hr6 htH.out.z0 n3)
 rw [q4H.out] at hu
 clear hr6
 go_wp2_with fail
 refine hu.out.mono ?_;rintro e w7 ⟨v7,o7,rfl,hs7,rfl,hr7⟩
 clear hu
 have hsZ:=hidden (((hs4.trans hs5).trans hs6).trans hs7)
 clear hs4 hs5 hs6 hs7
 have hal:=hidden (AB (P:=Tryz.prog) w7 55 _ LX)
 have s8:=(Step.refl Nobody w7 o7).alloc (.cells #[.int .u64 0, .int .u64 0, .slice none 0 0] 55) (K,0)
 have b8:(w7.alloc (.cells #[.int .u64 0, .int .u64 0, .slice none 0 0] 55)).heap[w7.heap.size]? = some (.cells [.int .u64 0, .int .u64 0, .slice none 0 0].toArray 55 (0,0)):=heap_alloc_new w7 _
 have o8:Ak o7 w7.heap.size (K,0) w7.heap.size = (K,0):=Au _ _ _
 obtain ⟨hso,hsb⟩:=Ba (P:=Tryz.prog) (ty:=55) (vs:=[.int .u64 (P.toNat:Int), .int .u64 (C.toNat:Int), .slice none 0 0]) b8 rfl (by kernel_rfl) rfl
 have hsoH:=hidden hso
 have s9:=(Step.refl (Only K) (w7.alloc (.cells #[.int .u64 0, .int .u64 0, .slice none 0 0] 55)) (Ak o7 w7.heap.size (K,0))).setCells w7.heap.size 0 [.int .u64 (P.toNat:Int), .int .u64 (C.toNat:Int), .slice none 0 0] (.inl (by show (Ak o7 w7.heap.size (K,0) w7.heap.size).1 = K;rw [o8]))
 have hr9:=(hr7.step s8 (fun h=>h) (fun h=>h)).step s9 (fun h=>htH.out.kz h.symm) (fun h=>htH.out.k0 h.symm)
 have sKZ:=hidden ((s8.mono (T':=In3 K X Z) (fun _ h=>h.elim)).trans (s9.mono (fun _ h => .inl h)))
 have hbs:w7.heap.size < ((w7.alloc (.cells #[.int .u64 0, .int .u64 0, .slice none 0 0] 55)).setCells w7.heap.size 0 [.int .u64 (P.toNat:Int), .int .u64 (C.toNat:Int), .slice none 0 0]).heap.size:=lt_of_block hsb
 generalize Ak o7 w7.heap.size (K,0) = o8' at *
 obtain ⟨W8,hW8⟩:∃ W8,(w7.alloc (.cells #[.int .u64 0, .int .u64 0, .slice none 0 0] 55)).setCells w7.heap.size 0 [.int .u64 (P.toNat:Int), .int .u64 (C.toNat:Int), .slice none 0 0] = W8:=⟨_,rfl⟩
 rw [hW8] at hsoH hsb hr9 sKZ hbs
 clear hso s8 s9 hr7 b8 hW8
 obtain ⟨kb,hkb⟩:∃ kb,w7.heap.size = kb:=⟨_,rfl⟩
 rw [hkb] at hsoH hsb hbs o8 hal
 have hl:=hidden (JP (X:=X) hr9 htH.out.z0 htH.out.x0 htH.out.xz n4)
 rw [q5H.out] at hl
 clear hr9
 go_wp2_with (first
  | ((with_reducible apply AU);exact hal.out;simp only [Act.put,lsa,lsz,lss])
  | ((with_reducible apply AC);exact hsoH.out;simp only [Act.put]))
 refine hl.out.mono ?_;rintro e w9 ⟨v9,o9,rfl,hs9,hrow9,hr9⟩
 have b9:=(hs9.block kb hbs (by rw [o8];exact fun h=>htH.out.kz h)).trans hsb
 have k9:o9 kb = (K,0):=(hs9.own kb hbs).trans o8
 obtain ⟨la,lc,rfl⟩:=hrow9.form
 have hset:=(Step.refl (Only K) w9 o9).setCell (a:=⟨kb,2,none⟩) (.slice la L.length lc) (.inl (by show (o9 kb).1 = K;rw [k9]))
 have h1':=Ai (cs:=[_,_,_]) (i:=2) (.slice la L.length lc) b9
 have f9:w9.frozen? ⟨kb,2,none⟩ = false:=Ap (cs:=[_,_,_]) b9 2
 have c9:w9.cell? ⟨kb,2,none⟩ = some (.slice none 0 0):=cell_of_block (cs:=[_,_,_]) b9 2
 have hr10:=hr9.step hset (fun h=>htH.out.kz h.symm) (fun h=>htH.out.k0 h.symm)
 have hkbw:w.heap.size ≤ kb:=by
  have:=st3.out.size;have:=hsZ.out.size;omega
 have hkp:Ny (w9.setCell ⟨kb,2,none⟩ (.slice la L.length lc)) o9 K X kb w.heap.size ⟨P,C,L⟩:=⟨_,h1',k9,by
  obtain ⟨cs,y1,y2,y3,y4⟩:=hrow9.step hset (fun h=>htH.out.kx h.symm) (fun h=>htH.out.k0 h.symm)
  exact ⟨cs,JX y1 (by omega),y2,y3,fun u hu=>(y4 u hu).low (by omega)⟩⟩
 have hstZ:=((hsZ.out.mono (T':=In3 K X Z) (fun _ h => .inr (.inr h))).trans sKZ.out).trans ((hs9.mono (T':=In3 K X Z) (fun _ h => .inr (.inr h))).trans (hset.mono (T':=In3 K X Z) (fun _ h => .inl h)))
 have hn0:¬ In3 K X Z 0:=fun h=>by
  have:=htH.out.k0;have:=htH.out.x0;have:=htH.out.z0
  unfold In3 at h;omega
 have hstA:=hidden ((st3.out.mono (T':=In3 K X Z) (fun _ h=>h.elim)).trans hstZ)
 have g10:=hidden (show Slc (w9.setCell ⟨kb,2,none⟩ (.slice la L.length lc)) o9 (.slice (some ⟨rb,roff,none⟩) n vc) n vs∧Ey (w9.setCell ⟨kb,2,none⟩ (.slice la L.length lc)) o9 vs (b0 :: bs)∧((w9.setCell ⟨kb,2,none⟩ (.slice la L.length lc)).heap[w.heap.size + 1]? = some FB∧o9 (w.heap.size + 1) = (0,0)) ∧
   ((w9.setCell ⟨kb,2,none⟩ (.slice la L.length lc)).heap[w.heap.size]? = some (.cells #[.int .u64 0, .int .u64 0, .slice none 0 0] 55)∧o9 w.heap.size = (Y,0)) from
  ⟨g3.out.1.step hstZ hn0,g3.out.2.1.step hstZ hn0,⟨(hstZ.block _ (lt_of_block g3.out.2.2.1) (by rw [g3o.out.1];exact hn0)).trans g3.out.2.2.1,(hstZ.own _ (lt_of_block g3.out.2.2.1)).trans g3o.out.1⟩,
   (hstZ.block _ (lt_of_block g3.out.2.2.2) (by rw [g3o.out.2];exact hnY)).trans g3.out.2.2.2,(hstZ.own _ (lt_of_block g3.out.2.2.2)).trans g3o.out.2⟩)
 obtain ⟨W9,hW9⟩:∃ W9,w9.setCell ⟨kb,2,none⟩ (.slice la L.length lc) = W9:=⟨_,rfl⟩
 rw [hW9] at hr10 hkp hstA g10
 have hW9H:=hidden hW9
 have hkpH:=hidden hkp
 have hd:=hidden (II hr10)
 rw [qDH.out] at hd
 clear hs9 hrow9 hr9 b9 hset h1' hr10 hkp hstZ hl hW9 sKZ hsb o8 hsZ g3 g3o st3
 go_wp2_with fail
 rw [hW9H.out]
 refine hd.out.mono ?_;rintro e w' ⟨rfl,rfl⟩
 have qAN:decide (0 < age.toNat) = true:=decide_eq_true qA'.out
 have qAI2:(age.toNat:Int) < 18446744073709551616:=by have:=age.isLt;omega
 go_wp2_with fail
 refine (Fq W9).mono ?_;rintro e w' ⟨rfl,rfl⟩
 clear qAN qAI2
 have hN:n - 1 = bs.length:=by have:=hnH.out;omega
 obtain ⟨ra,rc,hsl,hrest⟩:=Yt g10.out.1 hvlH.out (by omega)
 rw [hN] at hsl hrest
 have hslH:=hidden hsl
 have hB:Ey W9 o9 (vs.drop 1) bs:=⟨hN ▸ (by rw [List.length_drop,hvlH.out]),fun i u l hu hl=>g10.out.2.1.2 (i + 1) u l (by rw [List.getElem?_drop] at hu;rw [Nat.add_comm];exact hu) (by simpa using hl)⟩
 have hblB:∀ b ∈ bs,b.length ≤ 1000000:=fun b hb=>hblH.out b (List.mem_cons_of_mem _ hb)
 have hNb:=hlenH.out
 obtain ⟨us,hus⟩:∃ us,vs.drop 1 = us:=⟨_,rfl⟩
 rw [hus] at hB hrest
 obtain ⟨N,hNN⟩:∃ N,bs.length = N:=⟨_,rfl⟩
 rw [hNN] at hslH hrest hNb
 have hmb10:=hidden g10.out.2.2
 have hNI:(0:Int) ≤ (N:Int)∧(N:Int) < 300:=by omega
 clear hsl g10 hN hus hvlH hnH hlenH hblH hnI hnI2 hf0H q2H q3H q4H q5H qDH hd k9
 go_wp2_with ((with_reducible apply FM);exact hslH.out;simp only [Act.put,lsa,lsz,lss])
 go_loopw [48] (fun i wr=>∃ (k:Nat) (oj:Own) (kk:AX),k ≤ N∧i = .int .i64 k∧Ny wr oj K X kb w.heap.size kk∧FV kk (bs.drop k) = some kf∧kk.lines.length ≤ 256 * (k + 1)∧Slc wr oj (.slice ra N rc) N us∧Ey wr oj us bs ∧
  ((wr.heap[w.heap.size + 1]? = some FB∧oj (w.heap.size + 1) = (0,0))∧wr.heap[w.heap.size]? = some (.cells #[.int .u64 0, .int .u64 0, .slice none 0 0] 55)∧oj w.heap.size = (Y,0))∧Step (In3 K X Z) w o wr oj) (fun i _=>N - (intOf i).toNat)
 case atStart=>exact ⟨0,o9,_,by omega,rfl,hkpH.out,hallH.out,by simp;omega,hrest,hB,hmb10.out,hstA.out⟩
 case round =>
  obtain ⟨k,oj,kk,hk,rfl,hkk,hrec,hkl,hsv,hsb,hmbs2,hst⟩:=hrel
  clear hkpH hallH hmb10 hstA hrest hB hslH hW9H hal hsoH f9 c9 W9
  by_cases hlt:k < N
  ·have hltI:(k:Int) < N:=by omega
   have hulen:us.length = N:=by rw [hsb.1,hNN]
   obtain ⟨e0,he0⟩:∃ e0,us[k]? = some e0:=⟨_,List.getElem?_eq_getElem (by omega)⟩
   obtain ⟨b,hb⟩:∃ b,bs[k]? = some b:=⟨_,List.getElem?_eq_getElem (by omega)⟩
   have hBk:=hsb.2 k e0 b he0 hb
   have hbl:=hblB b (List.mem_of_getElem? hb)
   obtain ⟨rb2,ro2,rfl,hcell, -, -⟩:=hsv.cell k he0
   obtain ⟨ea2,ec2,rfl⟩:=Aq hBk
   have hd1:bs.drop k = b :: bs.drop (k + 1):=by
    rw [List.drop_eq_getElem_cons (by omega)]
    rw [List.getElem?_eq_getElem (by omega)] at hb
    rw [←Option.some.inj hb]
   rw [hd1] at hrec
   obtain ⟨kk2,hone,hrec2⟩:=Oo hrec
   have hkl2:=SY hone hbl
   obtain ⟨T,m1,hq1,hm1,hcs⟩:=Ol hone hbl
   have hnew:=hidden (NH Z hBk hbl)
   have hG:=hidden (And.intro hsv (And.intro hsb hmbs2))
   have hkkH:=hidden hkk
   have hstH:=hidden hst
   have hr2H:=hidden hrec2
   have hcsH:=hidden hcs
   have hq1H:=hidden hq1
   have hblBH:=hidden hblB
   clear hsv hsb hmbs2 hkk hst hrec2 hcs hq1 hrec hd1 hone hblB hb he0 hBk
   go_wp2_with fail
   refine hnew.out.mono ?_;rintro e w2 ⟨v2,o2,rfl,hs2,p2, -,rfl,hr2⟩
   have hby:=hidden (NI hr2 htH.out.z0 hbl)
   rw [hq1H.out] at hby
   have hs2H:=hidden (hs2.mono (T':=In3 K X Z) (fun _ h=>h.elim))
   have hkk2:=hidden (hkkH.out.step hs2 (fun h=>h) (fun h=>h) (fun h=>h))
   clear hnew hr2 hs2
   rcases hcsH.out with ⟨hT,hd,hk'⟩ | ⟨hT,hd,hk'⟩ | ⟨hT,hd,hk'⟩
   ·simp only [hT] at hby
    have hkF:=hk'
    have hdH:=hidden hd
    clear hT hd hk'
    go_wp2_with fail
    refine hby.out.mono ?_;rintro e w3 ⟨v3,o3,rfl,hs3,rfl,hr3⟩
    have hs3':=hs2H.out.trans (hs3.mono (T':=In3 K X Z) (fun _ h => .inr (.inr h)))
    have hmb3:w3.heap[w.heap.size + 1]? = some FB:=(hs3'.block _ (lt_of_block hG.out.2.2.1.1) (by rw [hG.out.2.2.1.2];exact hn0)).trans hG.out.2.2.1.1
    have hlk:=hidden (show (Instr.lookup 195 (.map (some (w.heap.size + 1))) (.int .u8 2) true).run Tryz.prog w3 = .ok (.tuple #[.func (.func 130) #[] #[], .bool true]) w3 from JO hmb3 2 (by omega))
    have hkk3:=hkk2.out.step hs3 (fun h=>htH.out.kz h) (fun h=>htH.out.xz h) (fun h=>htH.out.z0 h.symm)
    have hbz:w.heap.size ≤ w3.heap.size:=(hstH.out.trans hs3').size
    have hcall:=hidden (SS htH.out hkk3 hr3 hm1)
    have hs3H:=hidden hs3'
    clear hs3 hs3' hr3 hmb3 hkk3 hby
    go_wp2_with ((with_reducible apply DN);exact hlk.out;simp only [Act.put,lsa,lsz,lss])
    refine (Fq w3).mono ?_;rintro e w' ⟨rfl,rfl⟩
    clear hlk
    go_wp2_with fail
    refine hcall.out.mono ?_;rintro e w4 ⟨v4,o4,rfl,hs4,rfl,hkk4,hr4⟩
    have hdn:=hidden (II hr4)
    rw [hdH.out] at hdn
    have hs4H:=hidden (hs3H.out.trans hs4)
    have hkk4H:=hidden hkk4
    clear hcall hkk4 hr4 hs4
    go_wp2_with fail
    refine hdn.out.mono ?_;rintro e w' ⟨rfl,rfl⟩
    go_wp2_with fail
    refine (Fq w4).mono ?_;rintro e w' ⟨rfl,rfl⟩
    go_wp2_with fail
    go_roundw
    case rel =>
     refine ⟨k + 1,o4,kk2,by omega,by go_num, ?_,hr2H.out,by omega,hG.out.1.step hs4H.out hn0,hG.out.2.1.step hs4H.out hn0,⟨⟨(hs4H.out.block _ (lt_of_block hG.out.2.2.1.1) (by rw [hG.out.2.2.1.2];exact hn0)).trans hG.out.2.2.1.1,(hs4H.out.own _ (lt_of_block hG.out.2.2.1.1)).trans hG.out.2.2.1.2⟩,
      (hs4H.out.block _ (lt_of_block hG.out.2.2.2.1) (by rw [hG.out.2.2.2.2];exact hnY)).trans hG.out.2.2.2.1,(hs4H.out.own _ (lt_of_block hG.out.2.2.2.1)).trans hG.out.2.2.2.2⟩,hstH.out.trans hs4H.out⟩
     rw [hkF];exact hkk4H.out
    case measure=>simp [intOf];omega
   ·simp only [hT] at hby
    have hkF:=hk'
    have hdH:=hidden hd
    clear hT hd hk'
    go_wp2_with fail
    refine hby.out.mono ?_;rintro e w3 ⟨v3,o3,rfl,hs3,rfl,hr3⟩
    have hs3':=hs2H.out.trans (hs3.mono (T':=In3 K X Z) (fun _ h => .inr (.inr h)))
    have hmb3:w3.heap[w.heap.size + 1]? = some FB:=(hs3'.block _ (lt_of_block hG.out.2.2.1.1) (by rw [hG.out.2.2.1.2];exact hn0)).trans hG.out.2.2.1.1
    have hlk:=hidden (show (Instr.lookup 195 (.map (some (w.heap.size + 1))) (.int .u8 3) true).run Tryz.prog w3 = .ok (.tuple #[.func (.func 131) #[] #[], .bool true]) w3 from JO hmb3 3 (by omega))
    have hkk3:=hkk2.out.step hs3 (fun h=>htH.out.kz h) (fun h=>htH.out.xz h) (fun h=>htH.out.z0 h.symm)
    have hbz:w.heap.size ≤ w3.heap.size:=(hstH.out.trans hs3').size
    have hcall:=hidden (WT htH.out hkk3 hr3 hm1 hbz)
    have hs3H:=hidden hs3'
    clear hs3 hs3' hr3 hmb3 hkk3 hby
    go_wp2_with ((with_reducible apply DN);exact hlk.out;simp only [Act.put,lsa,lsz,lss])
    refine (Fq w3).mono ?_;rintro e w' ⟨rfl,rfl⟩
    clear hlk
    go_wp2_with fail
    refine hcall.out.mono ?_;rintro e w4 ⟨v4,o4,rfl,hs4,rfl,hkk4,hr4⟩
    have hdn:=hidden (II hr4)
    rw [hdH.out] at hdn
    have hs4H:=hidden (hs3H.out.trans hs4)
    have hkk4H:=hidden hkk4
    clear hcall hkk4 hr4 hs4
    go_wp2_with fail
    refine hdn.out.mono ?_;rintro e w' ⟨rfl,rfl⟩
    go_wp2_with fail
    refine (Fq w4).mono ?_;rintro e w' ⟨rfl,rfl⟩
    go_wp2_with fail
    go_roundw
    case rel =>
     refine ⟨k + 1,o4,kk2,by omega,by go_num, ?_,hr2H.out,by omega,hG.out.1.step hs4H.out hn0,hG.out.2.1.step hs4H.out hn0,⟨⟨(hs4H.out.block _ (lt_of_block hG.out.2.2.1.1) (by rw [hG.out.2.2.1.2];exact hn0)).trans hG.out.2.2.1.1,(hs4H.out.own _ (lt_of_block hG.out.2.2.1.1)).trans hG.out.2.2.1.2⟩,
      (hs4H.out.block _ (lt_of_block hG.out.2.2.2.1) (by rw [hG.out.2.2.2.2];exact hnY)).trans hG.out.2.2.2.1,(hs4H.out.own _ (lt_of_block hG.out.2.2.2.1)).trans hG.out.2.2.2.2⟩,hstH.out.trans hs4H.out⟩
     rw [hkF];exact hkk4H.out
    case measure=>simp [intOf];omega
   ·simp only [hT] at hby
    have hkF:=hk'
    have hdH:=hidden hd
    clear hT hd hk'
    go_wp2_with fail
    refine hby.out.mono ?_;rintro e w3 ⟨v3,o3,rfl,hs3,rfl,hr3⟩
    have hs3':=hs2H.out.trans (hs3.mono (T':=In3 K X Z) (fun _ h => .inr (.inr h)))
    have hmb3:w3.heap[w.heap.size + 1]? = some FB:=(hs3'.block _ (lt_of_block hG.out.2.2.1.1) (by rw [hG.out.2.2.1.2];exact hn0)).trans hG.out.2.2.1.1
    have hlk:=hidden (show (Instr.lookup 195 (.map (some (w.heap.size + 1))) (.int .u8 4) true).run Tryz.prog w3 = .ok (.tuple #[.func (.func 132) #[] #[], .bool true]) w3 from JO hmb3 4 (by omega))
    have hkk3:=hkk2.out.step hs3 (fun h=>htH.out.kz h) (fun h=>htH.out.xz h) (fun h=>htH.out.z0 h.symm)
    have hbz:w.heap.size ≤ w3.heap.size:=(hstH.out.trans hs3').size
    have hcall:=hidden (UO htH.out hkk3 hr3 hm1 hbz (by omega))
    have hs3H:=hidden hs3'
    clear hs3 hs3' hr3 hmb3 hkk3 hby
    go_wp2_with ((with_reducible apply DN);exact hlk.out;simp only [Act.put,lsa,lsz,lss])
    refine (Fq w3).mono ?_;rintro e w' ⟨rfl,rfl⟩
    clear hlk
    go_wp2_with fail
    refine hcall.out.mono ?_;rintro e w4 ⟨v4,o4,rfl,hs4,rfl,hkk4,hr4⟩
    have hdn:=hidden (II hr4)
    rw [hdH.out] at hdn
    have hs4H:=hidden (hs3H.out.trans hs4)
    have hkk4H:=hidden hkk4
    clear hcall hkk4 hr4 hs4
    go_wp2_with fail
    refine hdn.out.mono ?_;rintro e w' ⟨rfl,rfl⟩
    go_wp2_with fail
    refine (Fq w4).mono ?_;rintro e w' ⟨rfl,rfl⟩
    go_wp2_with fail
    go_roundw
    case rel =>
     refine ⟨k + 1,o4,kk2,by omega,by go_num, ?_,hr2H.out,by omega,hG.out.1.step hs4H.out hn0,hG.out.2.1.step hs4H.out hn0,⟨⟨(hs4H.out.block _ (lt_of_block hG.out.2.2.1.1) (by rw [hG.out.2.2.1.2];exact hn0)).trans hG.out.2.2.1.1,(hs4H.out.own _ (lt_of_block hG.out.2.2.1.1)).trans hG.out.2.2.1.2⟩,
      (hs4H.out.block _ (lt_of_block hG.out.2.2.2.1) (by rw [hG.out.2.2.2.2];exact hnY)).trans hG.out.2.2.2.1,(hs4H.out.own _ (lt_of_block hG.out.2.2.2.1)).trans hG.out.2.2.2.2⟩,hstH.out.trans hs4H.out⟩
     rw [hkF];exact hkk4H.out
    case measure=>simp [intOf];omega
  ·obtain rfl:N = k:=by omega
   have hkf:kk = kf:=by
    rw [List.drop_eq_nil_of_le (by omega)] at hrec
    exact Option.some.inj hrec
   subst hkf
   obtain ⟨lv,hb7,ho7,hl7⟩:=hkk
   obtain ⟨lla,llc,rfl⟩:=hl7.form
   obtain ⟨hso,hsb3⟩:=Ba (w:=wr.drew) (P:=Tryz.prog) (ty:=55) (vs:=[.int .u64 (kk.promised.toNat:Int), .int .u64 (kk.current.toNat:Int), .slice lla kk.lines.length llc]) hmbs2.2.1 rfl (by kernel_rfl) rfl
   have hsoH:=hidden hso
   have hstF:=hidden ((hst.drew.setCells w.heap.size 0 [.int .u64 (kk.promised.toNat:Int), .int .u64 (kk.current.toNat:Int), .slice lla kk.lines.length llc] (.inr (Nat.le_refl _))).still hfrH.out)
   have hset:=(Step.refl (Only Y) wr oj).drew.setCells w.heap.size 0 [.int .u64 (kk.promised.toNat:Int), .int .u64 (kk.current.toNat:Int), .slice lla kk.lines.length llc] (.inl (by show (oj w.heap.size).1 = Y;rw [hmbs2.2.2]))
   have hlF:=hidden (show Lines (wr.drew.setCells w.heap.size 0 [.int .u64 (kk.promised.toNat:Int), .int .u64 (kk.current.toNat:Int), .slice lla kk.lines.length llc]) (ext w o) w.heap.size (.slice lla kk.lines.length llc) kk.lines from
    (hl7.step hset (fun h=>hnY (.inr (.inl h.symm))) (fun h=>hY0 h.symm)).lines (fun k hk=>by unfold ext;rw [if_neg (by omega)]))
   have hS:wr.heap[kb]? = some (.cells [.int .u64 (kk.promised.toNat:Int), .int .u64 (kk.current.toNat:Int), .slice lla kk.lines.length llc].toArray 55 (0,0)):=hb7
   clear hso hb7 hl7 hst hset hsv hsb hrec hkl
   go_wp2_with fail
   refine Aa (fun w'=>w'.heap[kb]? = some (.cells [.int .u64 (kk.promised.toNat:Int), .int .u64 (kk.current.toNat:Int), .slice lla kk.lines.length llc].toArray 55 (0,0))) (fun i=>decide (i < 3)) (by kernel_rfl) hS (fun hHeld => ?_)
   refine tq 0 ?_
   refine Dt (i:=1) (v := .agg [.int .u64 (kk.promised.toNat:Int), .int .u64 (kk.current.toNat:Int), .slice lla kk.lines.length llc].toArray) rfl (by kernel_rfl) (fun _ _ _ h=>h) (yieldsIf_load_mid rfl 55 (.tmp 7) rfl kb 0 rfl [.int .u64 (kk.promised.toNat:Int), .int .u64 (kk.current.toNat:Int), .slice lla kk.lines.length llc] _ (fun w h=>AV h) Tryz.underlying55 rfl (by kernel_rfl)) (by assumption) ?_
   simp only [Act.put,lsa,lsz,lss]
   refine tq 2 ?_
   refine Ac (i:=3) rfl (by kernel_rfl) ?_
   apply AC
   ·exact hsoH.out
   simp only [Act.put]
   go_wp2_with fail
   refine ⟨fun h=>by simp at h, ?_⟩
   refine Ae (by kernel_rfl) ?_ _
   go_wp2_with fail
   refine bodyPost_ret (JC rfl _ _ w.heap.size 55 _ (0,0) _ rfl hsb3 Tryz.underlying55 rfl Ij) rfl ?_
   exact ⟨_,ext w o,rfl,hstF.out.Me _ (fun k hk=>if_pos hk),_,rfl,hlF.out,rfl⟩
theorem Oe (hv:Slc w o v bs.length vs) (hrb:Ey w o vs bs) (hbl:∀ b ∈ bs,b.length ≤ 1000000) (hlen:bs.length ≤ 300) (hm:DK bs = some (age,kf)) :
  Calls Tryz.prog 77 #[v] w (Ret Nobody w o fun r w' o'=>∃ lv,r = .tuple #[.int .u64 (age.toNat:Int),Dy kf.promised kf.current lv]∧Lines w' o' w.heap.size lv kf.lines∧o' = ext w o):=by
 cases bs with
 | nil =>
  obtain ⟨a,c,rfl⟩:=Aq hv
  cases hm
  exact Uw w o a c
 | cons b0 r=>exact Sv hv hrb hbl (by rw [List.length_cons] at hlen;omega) hm
end
theorem catch_idle (p q:Value) (w:World) :
  CallsD Tryz.prog 74 #[p,q] .returning w fun e u' w'=>e = .returned (.tuple #[])∧u' = .returning∧w' = w:=by
 have hta:(Instr.typeAssert .nilIface 20 29 true).run Tryz.prog w = .ok (.tuple #[.int .i64 0, .bool false]) w:=by kernel_rfl
 refine callsD_of_wpS Tryz.func74 rfl fun c₀ cs hu => ?_
 apply wpS_seq
 apply wpS_region
 simp [wpOpsS,go_sem,recoverD,hu,Tryz.ntmps74,Exit.thenS,hta]
 apply wpS_seq
 apply wpS_region
 simp [wpOpsS,go_sem,Exit.thenS]
 refine wpS_cond (t:=false) (by simp [Act.eval,Array.replicate]) ?_
 simp only [Bool.false_eq_true,if_false]
 refine wpS_of_wp (wp_skip ?_)
 cases c₀
 simp_all [bodyPostS,results]
section
variable {w:World} {o:Own} {D pd:Nat} {d:Af}
end
theorem Jk {P:Program} {fn:Func} {t t':Array Value} {R:Ending→World→Prop} (h:results fn t = results fn t'):∀ (ds:List Deferred) (u:FrameMode) (w:World),Leaves P fn t R ds u w→Leaves P fn t' R ds u w
 | [], .returning,w,hl=>by
  obtain ⟨v,h1,h2⟩:=hl
  exact ⟨v,by rw [←h];exact h1,h2⟩
 | [], .panicking chain,w,hl=>hl
 | [], .run,w,hl=>hl
 | d :: ds,u,w,hl=>by
  obtain ⟨h1,fv,cap,f,args,h2,h3,h4⟩:=hl
  refine ⟨h1,fv,cap,f,args,h2,h3,h4.mono ?_⟩
  intro e u' w' he
  cases e with
  | returned v=>exact Jk h ds _ _ he
  | panicked c=>exact Jk h ds _ _ he
  | outgrown=>exact he
theorem AQ {R:Ending→World→Prop} {c:List PanicEntry} {a:Act} {w:World} {d:Nat} {v:Value} (hd:d ≠ 2∧d ≠ 3) (h:bodyPostD Tryz.prog Tryz.f37 R (.panic c) (a.put (some d) v) w):bodyPostD Tryz.prog Tryz.f37 R (.panic c) a w:=by
 refine Jk ?_ _ _ _ h
 have e2:(a.put (some d) v).tmps.getD 2 undef = a.tmps.getD 2 undef:=by simp [Act.put,hd.1]
 have e3:(a.put (some d) v).tmps.getD 3 undef = a.tmps.getD 3 undef:=by simp [Act.put,hd.2]
 simp only [results]
 simp [Act.put,Array.getElem?_setIfInBounds,hd.1,hd.2]
theorem UM {rs:List (List UInt8)} {k:AX} (h:DK rs = some (0,k)):k = ⟨0,0,[]⟩:=by
 cases rs with
 | nil=>cases h;rfl
 | cons b r =>
  simp only [DK] at h
  cases hr:EF b with
  | none=>rw [hr] at h;cases h
  | some q =>
   obtain ⟨a,k'⟩:=q
   rw [hr] at h
   simp only [Option.map_eq_some_iff,Prod.mk.injEq] at h
   obtain ⟨k2, -,rfl, -⟩:=h
   unfold EF at hr
   simp only at hr
   split at hr
   ·rename_i hc
    simp only [Option.some.injEq,Prod.mk.injEq] at hr
    have:=hc.2.2
    rw [hr.1] at this
    simp at this
   ·cases hr
def PO (d:Af) (h:Nat) (a0 a1:Ad) (g0 g1:BitVec 64) (k0 k1:AX):AZ:=
 if g0.toNat < g1.toNat then ⟨a1,a0,d,h,g1,k1,false⟩ else ⟨a0,a1,d,h,g0,k0,false⟩
def OpenSt (w:World) (o:Own) (S A B D Y b2 ps pd base h:Nat) (d:Af) (a0 a1:Ad) (g0 g1:BitVec 64) (k0 k1:AX) (k:Nat):Prop:=
 ((w.heap[b2]? = some (.cells #[.pointer (some ⟨ps,0,none⟩)] 42 (0,0))∧o b2 = (Y,0))∧(w.heap[b2 + 1]? = some (.cells #[.int .i64 0] 29 (0,0))∧o (b2 + 1) = (Y,0))∧Bg w o D pd d) ∧
 ((k = 0∧w.heap[ps]? = some (.cells (storeCells pd (.pointer none) (.pointer none) h 0 0 0 0 (.slice none 0 0) false).toArray 108 (0,0))∧o ps = (S,0)) ∨
  (k = 1∧∃ pa kv,(w.heap[ps]? = some (.cells (storeCells pd (.pointer (some ⟨pa,0,none⟩)) (.pointer none) h 0 g0 k0.promised k0.current kv false).toArray 108 (0,0))∧o ps = (S,0))∧Lines w o base kv k0.lines∧BZ w o A pa pd a0) ∨
  (k = 2∧Bi w o S A B D ps pd base (PO d h a0 a1 g0 g1 k0 k1)))
section
variable {w:World} {o:Own} {D pd:Nat} {d:Af}
theorem Yn {S A B Y H:Nat} {g0 g1:BitVec 64} {k0 k1:AX} (htg:[0,S,A,B,D,Y].Nodup) (hD:Bg w o D pd d) (hd:d.dead = false) (hrow:d.row.length ≤ 1000000) (hn:8 ≤ d.pages.length) (hn2:d.pages.length ≤ 400) (hh:d.pages.length / 2 = H)
  (hN0:Ad.newest (Ad.Aw d 0 H) ≠ BitVec.allOnes 64) (hN1:Ad.newest (Ad.Aw d H H) ≠ BitVec.allOnes 64)
  (hr0:DK (Ad.AY 0 (Ad.Aw d 0 H)).records = some (g0,k0)) (hr1:DK (Ad.AY H (Ad.Aw d H H)).records = some (g1,k1)) :
  Calls Tryz.prog 37 #[.pointer (some ⟨pd,0,none⟩)] w (Ret (fun t=>t = S ∨ t = A ∨ t = B) w o fun v w' o' =>
   ∃ ps,w.heap.size ≤ ps∧v = .tuple #[.pointer (some ⟨ps,0,none⟩), .int .i64 0]∧Bi w' o' S A B D ps pd w.heap.size (PO d H (Ad.AY 0 (Ad.Aw d 0 H)) (Ad.AY H (Ad.Aw d H H)) g0 g1 k0 k1)):=by
 have hmf:∀ (fn:Fn) (first cap:Array Value) (w:World),(Instr.makeFunc fn first cap).run Tryz.prog w = .ok (.func fn first cap) w:=fun _ _ _ _=>rfl
 simp only [List.nodup_cons,List.mem_cons,List.not_mem_nil,or_false,not_or,List.nodup_nil,and_true,not_false_eq_true] at htg
 have s1:=((Step.refl Nobody w o).alloc (.cells #[.pointer none] 42) (0,0)).alloc (.cells #[.int .i64 0] 29) (0,0)
 have hdd:=hidden (Ic (hD.step s1 (fun h=>h)))
 have hsz:=hidden (size_any (hD.step s1 (fun h=>h)))
 rw [hd] at hdd
 have hnI:¬ (d.pages.length:Int) < 8:=by omega
 have hwr:=hidden (show ((d.pages.length:Int) / 2) = (H:Int) by omega)
 have t1:=(Step.refl Nobody w o).alloc (.cells #[.pointer (some ⟨w.heap.size + 1 + 1,0,none⟩)] 42) (Y,0)
 have x1:(w.alloc (.cells #[.pointer (some ⟨w.heap.size + 1 + 1,0,none⟩)] 42)).heap[w.heap.size]? = _:=heap_alloc_new w _
 have z1:(w.alloc (.cells #[.pointer (some ⟨w.heap.size + 1 + 1,0,none⟩)] 42)).heap.size = w.heap.size + 1:=by simp
 have y1:Ak o w.heap.size (Y,0) w.heap.size = (Y,0):=Au _ _ _
 obtain ⟨W1,hW1⟩:∃ W1,w.alloc (.cells #[.pointer (some ⟨w.heap.size + 1 + 1,0,none⟩)] 42) = W1:=⟨_,rfl⟩
 rw [hW1] at t1 x1 z1
 generalize Ak o w.heap.size (Y,0) = o1 at *
 have t2:=t1.alloc (.cells #[.int .i64 0] 29) (Y,0)
 have x2:(W1.alloc (.cells #[.int .i64 0] 29)).heap[W1.heap.size]? = _:=heap_alloc_new W1 _
 have x12:=(Below.heap_alloc W1 (.cells #[.int .i64 0] 29) w.heap.size (by omega)).trans x1
 have z2:(W1.alloc (.cells #[.int .i64 0] 29)).heap.size = w.heap.size + 1 + 1:=by simp [z1]
 have y2:Ak o1 W1.heap.size (Y,0) W1.heap.size = (Y,0):=Au _ _ _
 have y12:Ak o1 W1.heap.size (Y,0) w.heap.size = (Y,0):=by rw [BI _ _ (by omega)];exact y1
 rw [z1] at x2 y2 y12 t2
 obtain ⟨W2,hW2⟩:∃ W2,W1.alloc (.cells #[.int .i64 0] 29) = W2:=⟨_,rfl⟩
 rw [hW2] at t2 x2 x12 z2
 generalize Ak o1 (w.heap.size + 1) (Y,0) = o2 at *
 have t3:=t2.alloc (.cells (storeCells pd (.pointer none) (.pointer none) H 0 0 0 0 (.slice none 0 0) false).toArray 108) (S,0)
 have x3:(W2.alloc (.cells (storeCells pd (.pointer none) (.pointer none) H 0 0 0 0 (.slice none 0 0) false).toArray 108)).heap[W2.heap.size]? = _:=heap_alloc_new W2 _
 have x23:=(Below.heap_alloc W2 (.cells (storeCells pd (.pointer none) (.pointer none) H 0 0 0 0 (.slice none 0 0) false).toArray 108) (w.heap.size + 1) (by omega)).trans x2
 have x13:=(Below.heap_alloc W2 (.cells (storeCells pd (.pointer none) (.pointer none) H 0 0 0 0 (.slice none 0 0) false).toArray 108) w.heap.size (by omega)).trans x12
 have y3:Ak o2 W2.heap.size (S,0) W2.heap.size = (S,0):=Au _ _ _
 have y23:Ak o2 W2.heap.size (S,0) (w.heap.size + 1) = (Y,0):=by rw [BI _ _ (by omega)];exact y2
 have y13:Ak o2 W2.heap.size (S,0) w.heap.size = (Y,0):=by rw [BI _ _ (by omega)];exact y12
 rw [z2] at x3 y3 y23 y13 t3
 generalize Ak o2 (w.heap.size + 1 + 1) (S,0) = o3 at *
 obtain ⟨W3,hW3⟩:∃ W3,W2.alloc (.cells (storeCells pd (.pointer none) (.pointer none) H 0 0 0 0 (.slice none 0 0) false).toArray 108) = W3:=⟨_,rfl⟩
 have hWW:((w.alloc (.cells #[.pointer (some ⟨w.heap.size + 1 + 1,0,none⟩)] 42)).alloc (.cells #[.int .i64 0] 29)).alloc (.cells #[.pointer (some ⟨pd,0,none⟩), .pointer none, .pointer none, .int .i64 (H:Int), .int .i64 0, .int .u64 0, .int .u64 0, .int .u64 0, .slice none 0 0, .bool false] 108) = W3:=by rw [hW1,hW2, ←hW3];rfl
 rw [hW3] at t3 x3 x23 x13
 have hWWH:=hidden hWW
 obtain ⟨a0,ha0⟩:∃ a0,Ad.AY 0 (Ad.Aw d 0 H) = a0:=⟨_,rfl⟩
 obtain ⟨a1,ha1⟩:∃ a1,Ad.AY H (Ad.Aw d H H) = a1:=⟨_,rfl⟩
 rw [ha0] at hr0 ⊢
 rw [ha1] at hr1 ⊢
 have hst0:OpenSt W3 o3 S A B D Y w.heap.size (w.heap.size + 1 + 1) pd w.heap.size H d a0 a1 g0 g1 k0 k1 0:=⟨⟨⟨x13,y13⟩,⟨x23,y23⟩,hD.step t3 (fun h=>h)⟩, .inl ⟨rfl,x3,y3⟩⟩
 have hstH:=hidden hst0
 have htH:=hidden t3
 have hDH:=hidden hD
 have hN0H:=hidden hN0
 have hN1H:=hidden hN1
 have hr0H:=hidden hr0
 have hr1H:=hidden hr1
 have hrowH:=hidden hrow
 have hhH:=hidden hh
 have ha0H:=hidden ha0
 have ha1H:=hidden ha1
 have htgH:=hidden htg
 have hddH:=hidden hd
 clear s1 t1 t2 t3 x1 x2 x3 x12 x23 x13 y1 y2 y3 y12 y23 y13 z1 z2 hW1 hW2 hW3 hWW hst0 hD hN0 hN1 hr0 hr1 hrow hh ha0 ha1 htg hd
 go_enter_defers Tryz.func37,Tryz.ntmps37
 go_wp2_with fail
 refine hdd.out.mono ?_;rintro e w' ⟨rfl,rfl⟩
 go_wp2_with fail
 refine hsz.out.mono ?_;rintro e w' ⟨rfl,rfl⟩
 go_wp2_with fail
 refine hsz.out.mono ?_;rintro e w' ⟨rfl,rfl⟩
 go_wp2_with fail
 rw [hwr.out,hWWH.out]
 clear hsz hdd hwr hWWH
 have hhI:(4:Int) ≤ (H:Int)∧(H:Int) ≤ 200:=by have:=hhH.out;omega
 obtain ⟨ps,hps⟩:∃ ps,w.heap.size + 1 + 1 = ps:=⟨_,rfl⟩
 have hpsw:w.heap.size ≤ ps:=by omega
 rw [hps] at hstH ⊢
 clear hps hnI
 go_loopw [26] (fun i wr=>∃ (k:Nat) (oj:Own),k ≤ 2∧i = .int .i64 k∧OpenSt wr oj S A B D Y w.heap.size ps pd w.heap.size H d a0 a1 g0 g1 k0 k1 k∧Step (fun t=>t = S ∨ t = A ∨ t = B) w o wr oj) (fun i _=>2 - (intOf i).toNat)
 case atStart=>exact ⟨0,o3,by omega,rfl,hstH.out,htH.out.mono (fun _ h=>h.elim)⟩
 case round =>
  clear hstH htH
  obtain ⟨k,oj,hk,rfl,⟨⟨⟨hb2,ho2⟩,⟨hb3,ho3⟩,hdk⟩,hcs⟩,hst⟩:=hrel
  have c2:wr.cell? ⟨w.heap.size,0,none⟩ = some (.pointer (some ⟨ps,0,none⟩)):=cell_of_block (cs:=[_]) hb2 0
  have f2:wr.frozen? ⟨w.heap.size,0,none⟩ = false:=Ap (cs:=[_]) hb2 0
  have f3:wr.frozen? ⟨w.heap.size + 1,0,none⟩ = false:=Ap (cs:=[_]) hb3 0
  have c3:wr.cell? ⟨w.heap.size + 1,0,none⟩ = some (.int .i64 0):=cell_of_block (cs:=[_]) hb3 0
  rcases hcs with ⟨rfl,hps,hops⟩ | ⟨rfl,pa,kv,⟨hps,hops⟩,hkv,hla⟩ | ⟨rfl,hfin⟩
  ·have cP3:wr.cell? ⟨ps,3,none⟩ = some (.int .i64 (H:Int)):=cell_of_block hps 3
   have hplt:=lt_of_block hps
   have hpsb:¬ ps = w.heap.size:=by rintro rfl;rw [hops] at ho2;exact htgH.out.2.1.2.2.2 (Prod.mk.inj ho2).1
   have hG:=hidden (And.intro (And.intro hb2 ho2) (And.intro (And.intro hb3 ho3) (And.intro hdk (And.intro hps hops))))
   have hS:=And.intro c2 cP3
   have hstK:=hidden hst
   skip
   have hop:=hidden (fun (x:World) (ox:Own) (hx:Step Nobody wr oj x ox)=>UZ (L:=A) (D:=D) (fun h=>htgH.out.1.2.1 h.symm) (fun h=>htgH.out.1.2.2.2.1 h.symm) (fun h=>htgH.out.2.2.1.2.1 h) (hdk.step hx (fun h=>h)) hrowH.out hddH.out (0:Nat) H (by have:=hhI;omega) (by have:=hhI;omega) (by have:=hhH.out;omega))
   clear hb2 hb3 hdk hps hst f3 c3 cP3 c2 f2
   go_wp2_with fail
   refine Aa (fun w'=>w'.cell? ⟨w.heap.size,0,none⟩ = some (.pointer (some ⟨ps,0,none⟩))∧w'.cell? ⟨ps,3,none⟩ = some (.int .i64 (H:Int))) (fun _=>true) (by kernel_rfl) hS (fun hHeld => ?_)
   refine tq 0 ?_ (hQ:=by exact fun _ _ _ h=>AQ (by decide) h)
   refine tq 1 ?_ (hQ:=by exact fun _ _ _ h=>AQ (by decide) h)
   refine tq 2 ?_ (hQ:=by exact fun _ _ _ h=>AQ (by decide) h)
   refine tq 3 ?_ (hQ:=by exact fun _ _ _ h=>AQ (by decide) h)
   refine tq 4 ?_ (hQ:=by exact fun _ _ _ h=>AQ (by decide) h)
   refine tq 5 ?_ (hQ:=by exact fun _ _ _ h=>AQ (by decide) h)
   refine tv 6 (.int .i64 0) (hy:=fun w hSw=>by (try dsimp only at hSw);go_simp;first | done | rfl | exact wrap_i64 (by omega) (by omega)) (hQ:=by exact fun _ _ _ h=>AQ (by decide) h) (h := ?_)
   refine tq 7 ?_ (hQ:=by exact fun _ _ _ h=>AQ (by decide) h)
   refine tq 8 ?_ (hQ:=by exact fun _ _ _ h=>AQ (by decide) h)
   refine tq 9 ?_ (hQ:=by exact fun _ _ _ h=>AQ (by decide) h)
   refine tq 10 ?_ (hQ:=by exact fun _ _ _ h=>AQ (by decide) h)
   refine Ac (i:=11) rfl (by kernel_rfl) ?_
   go_wp2_with fail
   have hdr:=(Step.refl Nobody wr oj).drew
   refine (hop.out _ _ hdr).mono ?_;rintro e w1 ⟨v1,o1,rfl,hs1,hopn⟩
   obtain ⟨pn, -,rfl,hlog⟩:=hopn.2 hN0H.out
   rw [ha0H.out] at hlog
   have hs1:Step (Only A) wr oj w1 o1:=(hdr.only A).trans hs1
   clear hopn hHeld
   have tg:=htgH.out
   have u2:=(hs1.block _ (lt_of_block hG.out.1.1) (by rw [hG.out.1.2];exact fun h=>tg.2.2.1.2.2 h.symm)).trans hG.out.1.1
   have u3:=(hs1.block _ (lt_of_block hG.out.2.1.1) (by rw [hG.out.2.1.2];exact fun h=>tg.2.2.1.2.2 h.symm)).trans hG.out.2.1.1
   have up:=(hs1.block _ hplt (by rw [hG.out.2.2.2.2];exact fun h=>tg.2.1.1 h)).trans hG.out.2.2.2.1
   have hS1:=And.intro (cell_of_block (cs:=[_]) u2 0) (cell_of_block up 3)
   go_wp2_with fail
   refine ⟨fun _=>hS1, ?_⟩
   refine tq 12 ?_ (hQ:=by exact fun _ _ _ h=>AQ (by decide) h)
   refine tq 13 ?_ (hQ:=by exact fun _ _ _ h=>AQ (by decide) h)
   refine tq 14 ?_ (hQ:=by exact fun _ _ _ h=>AQ (by decide) h)
   refine tq 15 ?_ (hQ:=by exact fun _ _ _ h=>AQ (by decide) h)
   refine tq 16 ?_ (hQ:=by exact fun _ _ _ h=>AQ (by decide) h)
   refine Ae (by kernel_rfl) ?_ _
   have z2:=(hs1.own _ (lt_of_block hG.out.1.1)).trans hG.out.1.2
   have z3:=(hs1.own _ (lt_of_block hG.out.2.1.1)).trans hG.out.2.1.2
   have zp:=(hs1.own _ hplt).trans hG.out.2.2.2.2
   have hd1:=hG.out.2.2.1.step hs1 (fun h=>tg.2.2.1.2.1 h.symm)
   have hst1:=hstK.out.trans (hs1.mono (T':=fun t=>t = S ∨ t = A ∨ t = B) (fun _ h => .inr (.inl h)))
   clear hop hs1
   go_wp2_with fail
   refine (Fq w1).mono ?_;rintro e w' ⟨rfl,rfl⟩
   have hset:=(Step.refl (Only S) w1 o1).setCell (a:=⟨ps,1,none⟩) (.pointer (some ⟨pn,0,none⟩)) (.inl (by show (o1 ps).1 = S;rw [zp]))
   have up2:(w1.setCell ⟨ps,1,none⟩ (.pointer (some ⟨pn,0,none⟩))).heap[ps]? = some (.cells (storeCells pd (.pointer (some ⟨pn,0,none⟩)) (.pointer none) H 0 0 0 0 (.slice none 0 0) false).toArray 108 (0,0)):=Ai (i:=1) _ up
   have hpsb2:w.heap.size ≠ ps:=by rintro rfl;rw [zp] at z2;exact tg.2.1.2.2.2 (Prod.mk.inj z2).1
   have hpsb3:w.heap.size + 1 ≠ ps:=by intro h;rw [h,zp] at z3;exact tg.2.1.2.2.2 (Prod.mk.inj z3).1
   have u22:=(Below.heap_setCell w1 ⟨ps,1,none⟩ (.pointer (some ⟨pn,0,none⟩)) w.heap.size hpsb2).trans u2
   have u32:=(Below.heap_setCell w1 ⟨ps,1,none⟩ (.pointer (some ⟨pn,0,none⟩)) (w.heap.size + 1) hpsb3).trans u3
   have hlog2:=hlog.step hset (fun h=>tg.2.1.1 h.symm) (fun h=>tg.1.1 h)
   have hd2:=hd1.step hset (fun h=>tg.2.1.2.2.1 h.symm)
   have hst2:=hst1.setCell (a:=⟨ps,1,none⟩) (.pointer (some ⟨pn,0,none⟩)) (.inl (by show (o1 ps).1 = S ∨ _;rw [zp];exact .inl rfl))
   have q1:=hS1.1
   have q2:w1.frozen? ⟨ps,1,none⟩ = false:=Ap up 1
   have q3:=cell_of_block up 1
   obtain ⟨W2,hw2⟩:∃ W2,w1.setCell ⟨ps,1,none⟩ (.pointer (some ⟨pn,0,none⟩)) = W2:=⟨_,rfl⟩
   rw [hw2] at up2 u22 u32 hlog2 hd2 hst2
   have hw2H:=hidden hw2
   have hbat:=hidden (Qs hlog2 _ rfl)
   have hwf:=hlog2
   obtain ⟨-, -, -, -, -, -, -,hwf⟩:=hwf
   clear hset hw2 hS1 up u2 u3 hlog hd1 hst1
   go_wp2_with fail
   rw [hw2H.out]
   refine hbat.out.mono ?_;rintro e w3 ⟨v3,o3',rfl,hs3,vs,hown, -,hrb,hz⟩
   have hslc:Slc w3 o3' v3 a0.records.length vs:=XG hown (fun k hk=>by rw [hz k (hown.lt k hk).1])
   have hrl:a0.records.length ≤ 300:=by
    have h1:=hwf.2.2.2.2.1
    have h2:=hwf.2.2.2.2.2.1
    have h3:a0.n = H:=by rw [←ha0H.out];exact Ad.Bq _ _ _
    have:=hhI;omega
   have hrep:=Oe hslc hrb (fun b hb=>Nat.le_trans (hwf.2.2.2.2.2.2 b hb) (by omega)) hrl hr0H.out
   simp only [Dy] at hrep
   have hrepH:=hidden hrep
   clear hrep hslc hown hrb hz hbat
   go_wp2_with fail
   refine hrepH.out.mono ?_;rintro e w4 ⟨v4,o4,rfl,hs4,lv,rfl,hl4, -⟩
   clear hrepH
   have s34:=hs3.trans hs4
   have hal:=hidden (AB (P:=Tryz.prog) w4 55 _ LX)
   have s5a:=(Step.refl Nobody w4 o4).alloc (.cells #[.int .u64 0, .int .u64 0, .slice none 0 0] 55) (Y,0)
   have b5a:(w4.alloc (.cells #[.int .u64 0, .int .u64 0, .slice none 0 0] 55)).heap[w4.heap.size]? = some (.cells [.int .u64 0, .int .u64 0, .slice none 0 0].toArray 55 (0,0)):=heap_alloc_new w4 _
   have y5a:Ak o4 w4.heap.size (Y,0) w4.heap.size = (Y,0):=Au _ _ _
   obtain ⟨lla,llc,hlv⟩:=hl4.form
   obtain ⟨hso,hsb⟩:=Ba (P:=Tryz.prog) (ty:=55) (vs:=[.int .u64 (k0.promised.toNat:Int), .int .u64 (k0.current.toNat:Int),lv]) b5a rfl (by kernel_rfl) (by rw [hlv];rfl)
   have hsoH:=hidden hso
   have s5:=(s5a.mono (T':=Only Y) (fun _ h=>h.elim)).setCells w4.heap.size 0 [.int .u64 (k0.promised.toNat:Int), .int .u64 (k0.current.toNat:Int),lv] (.inl (by show (Ak o4 w4.heap.size (Y,0) w4.heap.size).1 = Y;rw [y5a]))
   have hst5:=(hst2.trans (s34.mono (T':=fun t=>t = S ∨ t = A ∨ t = B) (fun _ h=>h.elim))).trans ((s5a.mono (T':=fun t=>t = S ∨ t = A ∨ t = B) (fun _ h=>h.elim)).setCells w4.heap.size 0 [.int .u64 (k0.promised.toNat:Int), .int .u64 (k0.current.toNat:Int),lv] (.inr (Nat.le_refl _)))
   generalize Ak o4 w4.heap.size (Y,0) = o5 at *
   obtain ⟨W5,hW5⟩:∃ W5,(w4.alloc (.cells #[.int .u64 0, .int .u64 0, .slice none 0 0] 55)).setCells w4.heap.size 0 [.int .u64 (k0.promised.toNat:Int), .int .u64 (k0.current.toNat:Int),lv] = W5:=⟨_,rfl⟩
   rw [hW5] at hsoH hsb s5 hst5
   have e5:=(hs4.block w.heap.size (lt_of_block ((hs3.block _ (lt_of_block u22) (fun h=>h)).trans u22)) (fun h=>h)).trans ((hs3.block _ (lt_of_block u22) (fun h=>h)).trans u22)
   have e53:=(hs4.block (w.heap.size + 1) (lt_of_block ((hs3.block _ (lt_of_block u32) (fun h=>h)).trans u32)) (fun h=>h)).trans ((hs3.block _ (lt_of_block u32) (fun h=>h)).trans u32)
   have e5p:=(hs4.block ps (lt_of_block ((hs3.block _ (lt_of_block up2) (fun h=>h)).trans up2)) (fun h=>h)).trans ((hs3.block _ (lt_of_block up2) (fun h=>h)).trans up2)
   have hW5b:∀ k,k < w4.heap.size→W5.heap[k]? = w4.heap[k]?:=fun k hk=>by
    rw [←hW5,heap_setCells_other _ _ _ _ _ (by omega)];exact Below.heap_alloc _ _ _ hk
   have e5:=(hW5b _ (lt_of_block e5)).trans e5
   have e53:=(hW5b _ (lt_of_block e53)).trans e53
   have hps8:w4.heap.size ≠ ps:=by have:=lt_of_block e5p;omega
   have h28:w.heap.size ≠ w4.heap.size:=by have:=hst2.size;have:=s34.size;have:=lt_of_block u22;omega
   have e5p:=(hW5b _ (lt_of_block e5p)).trans e5p
   have sAll:=(s34.only Y).trans s5
   have z25:=(sAll.own _ (lt_of_block u22)).trans z2
   have z35:=(sAll.own _ (lt_of_block u32)).trans z3
   have zp5:=(sAll.own _ (lt_of_block up2)).trans zp
   have hlog5:=hlog2.step sAll (fun h=>tg.2.2.1.2.2 h) (fun h=>tg.1.2.2.2.2 h)
   have hd5:=hd2.step sAll (fun h=>tg.2.2.2.2 h)
   have hl5:=(hl4.step s5 (fun h=>tg.1.2.2.2.2 h)).low (Nat.le_trans hst2.size hs3.size)
   have hG5:=hidden (And.intro (And.intro e5 z25) (And.intro e53 z35))
   have hA5:=hidden (And.intro zp5 (And.intro hlog5 (And.intro hd5 (And.intro hl5 hst5))))
   have hbK:=hidden hsb
   have pH:=hidden e5p
   have c5:=cell_of_block (cs:=[_]) e5 0
   have p55:W5.cell? ⟨ps,5,none⟩ = some (.int .u64 0):=by simpa [storeCells] using cell_of_block e5p 5
   obtain ⟨b8,hb8⟩:∃ b8,w4.heap.size = b8:=⟨_,rfl⟩
   rw [hb8] at hal hsoH hbK hps8 h28
   have hlvH:=hidden hlv
   clear hlv hso s5a s5 b5a y5a hsb hst5 hW5 hW5b e5 e53 e5p sAll z25 z35 zp5 hlog5 hd5 hl5 hl4 s34 hs3 hs4 hlog2 hd2 hst2 u22 u32 up2 z2 z3 zp q1 q2 q3 hw2H W2 hb8
   by_cases hc:0 < g0.toNat
   ·have hcb:decide (0 < g0.toNat) = true:=decide_eq_true hc
    go_wp2_with (first
     | ((with_reducible apply AU);exact hal.out;simp only [Act.put,lsa,lsz,lss])
     | ((with_reducible apply AC);exact hsoH.out;simp only [Act.put]))
    have p0:(W5.drew).heap[ps]? = some (.cells (storeCells pd (.pointer (some ⟨pn,0,none⟩)) (.pointer none) H 0 0 0 0 (.slice none 0 0) false).toArray 108 (0,0)):=pH.out
    have p1:=Ai (i:=4) (.int .i64 0) p0
    have p2:=Ai (i:=5) (.int .u64 (g0.toNat:Int)) p1
    have p3:((((W5.drew).setCell ⟨ps,4,none⟩ (.int .i64 0)).setCell ⟨ps,5,none⟩ (.int .u64 (g0.toNat:Int))).setCells ps 6 [.int .u64 (k0.promised.toNat:Int), .int .u64 (k0.current.toNat:Int),lv]).heap[ps]? = some (.cells (storeCells pd (.pointer (some ⟨pn,0,none⟩)) (.pointer none) H 0 g0 k0.promised k0.current lv false).toArray 108 (0,0)):=BP ps 108 _ 6 _ _ p2 (by simp [storeCells])
    have hso2:=hidden (run_storeAt_mid (P:=Tryz.prog) (((W5.drew).setCell ⟨ps,4,none⟩ (.int .i64 0)).setCell ⟨ps,5,none⟩ (.int .u64 (g0.toNat:Int))) ps 6 55 #[.int .u64 (k0.promised.toNat:Int), .int .u64 (k0.current.toNat:Int),lv] (Dh p2 6 3 (by simp [storeCells])) Ij (by rw [hlvH.out];simp [Value.oneCell']))
    have zp5:=hA5.out.1
    have hset6:=(((Step.refl (Only S) W5 o5).drew.setCell (a:=⟨ps,4,none⟩) (.int .i64 0) (.inl (by show (o5 ps).1 = S;rw [zp5]))).setCell (a:=⟨ps,5,none⟩) (.int .u64 (g0.toNat:Int)) (.inl (by show (o5 ps).1 = S;rw [zp5]))).setCells ps 6 [.int .u64 (k0.promised.toNat:Int), .int .u64 (k0.current.toNat:Int),lv] (.inl (by show (o5 ps).1 = S;rw [zp5]))
    have v2:=(hset6.block _ (lt_of_block hG5.out.1.1) (by rw [hG5.out.1.2];exact fun h=>tg.2.1.2.2.2 h.symm)).trans hG5.out.1.1
    have v3':=(hset6.block _ (lt_of_block hG5.out.2.1) (by rw [hG5.out.2.2];exact fun h=>tg.2.1.2.2.2 h.symm)).trans hG5.out.2.1
    have hFIN:=hidden (show OpenSt ((((W5.drew).setCell ⟨ps,4,none⟩ (.int .i64 0)).setCell ⟨ps,5,none⟩ (.int .u64 (g0.toNat:Int))).setCells ps 6 [.int .u64 (k0.promised.toNat:Int), .int .u64 (k0.current.toNat:Int),lv]) o5 S A B D Y w.heap.size ps pd w.heap.size H d a0 a1 g0 g1 k0 k1 1 from
     ⟨⟨⟨v2,hG5.out.1.2⟩,⟨v3',hG5.out.2.2⟩,hA5.out.2.2.1.step hset6 (fun h=>tg.2.1.2.2.1 h.symm)⟩, .inr (.inl ⟨rfl,pn,lv,⟨p3,zp5⟩,hA5.out.2.2.2.1.step hset6 (fun h=>tg.1.1 h),hA5.out.2.1.step hset6 (fun h=>tg.2.1.1 h.symm) (fun h=>tg.1.1 h)⟩)⟩)
    have hst6:=hidden (hA5.out.2.2.2.2.trans (hset6.mono (T':=fun t=>t = S ∨ t = A ∨ t = B) (fun _ h => .inl h)))
    have f54:(W5.drew).frozen? ⟨ps,4,none⟩ = false:=Ap p0 4
    have f55:(W5.drew).frozen? ⟨ps,5,none⟩ = false:=Ap p0 5
    have c54:=cell_of_block p0 4
    have c55:=cell_of_block p0 5
    simp only [storeCells,List.getElem?_cons_succ,List.getElem?_cons_zero] at c54 c55
    have d2:(W5.drew).heap[w.heap.size]? = _:=hG5.out.1.1
    have d8:(W5.drew).heap[b8]? = _:=hbK.out
    have d21:=(Below.heap_setCell (W5.drew) ⟨ps,4,none⟩ (.int .i64 0) w.heap.size hpsb2).trans d2
    have d81:=(Below.heap_setCell (W5.drew) ⟨ps,4,none⟩ (.int .i64 0) b8 hps8).trans d8
    have d22:=(Below.heap_setCell ((W5.drew).setCell ⟨ps,4,none⟩ (.int .i64 0)) ⟨ps,5,none⟩ (.int .u64 (g0.toNat:Int)) w.heap.size hpsb2).trans d21
    have d82:=(Below.heap_setCell ((W5.drew).setCell ⟨ps,4,none⟩ (.int .i64 0)) ⟨ps,5,none⟩ (.int .u64 (g0.toNat:Int)) b8 hps8).trans d81
    have d23:=(heap_setCells_other ps [.int .u64 (k0.promised.toNat:Int), .int .u64 (k0.current.toNat:Int),lv] 6 (((W5.drew).setCell ⟨ps,4,none⟩ (.int .i64 0)).setCell ⟨ps,5,none⟩ (.int .u64 (g0.toNat:Int))) w.heap.size hpsb2).trans d22
    have d83:=(heap_setCells_other ps [.int .u64 (k0.promised.toNat:Int), .int .u64 (k0.current.toNat:Int),lv] 6 (((W5.drew).setCell ⟨ps,4,none⟩ (.int .i64 0)).setCell ⟨ps,5,none⟩ (.int .u64 (g0.toNat:Int))) b8 hps8).trans d82
    have hS17:W5.drew.cell? ⟨w.heap.size,0,none⟩ = some (.pointer (some ⟨ps,0,none⟩))∧W5.drew.heap[b8]? = some (.cells [.int .u64 (k0.promised.toNat:Int), .int .u64 (k0.current.toNat:Int),lv].toArray 55 (0,0)):=And.intro c5 hbK.out
    have hS8:((W5.drew).setCell ⟨ps,4,none⟩ (.int .i64 0)).cell? ⟨w.heap.size,0,none⟩ = some (.pointer (some ⟨ps,0,none⟩))∧((W5.drew).setCell ⟨ps,4,none⟩ (.int .i64 0)).heap[b8]? = some (.cells [.int .u64 (k0.promised.toNat:Int), .int .u64 (k0.current.toNat:Int),lv].toArray 55 (0,0)):=And.intro (cell_of_block (cs:=[_]) d21 0) d81
    have hS11:(((W5.drew).setCell ⟨ps,4,none⟩ (.int .i64 0)).setCell ⟨ps,5,none⟩ (.int .u64 (g0.toNat:Int))).cell? ⟨w.heap.size,0,none⟩ = some (.pointer (some ⟨ps,0,none⟩))∧(((W5.drew).setCell ⟨ps,4,none⟩ (.int .i64 0)).setCell ⟨ps,5,none⟩ (.int .u64 (g0.toNat:Int))).heap[b8]? = some (.cells [.int .u64 (k0.promised.toNat:Int), .int .u64 (k0.current.toNat:Int),lv].toArray 55 (0,0)):=And.intro (cell_of_block (cs:=[_]) d22 0) d82
    have hS14:((((W5.drew).setCell ⟨ps,4,none⟩ (.int .i64 0)).setCell ⟨ps,5,none⟩ (.int .u64 (g0.toNat:Int))).setCells ps 6 [.int .u64 (k0.promised.toNat:Int), .int .u64 (k0.current.toNat:Int),lv]).cell? ⟨w.heap.size,0,none⟩ = some (.pointer (some ⟨ps,0,none⟩))∧((((W5.drew).setCell ⟨ps,4,none⟩ (.int .i64 0)).setCell ⟨ps,5,none⟩ (.int .u64 (g0.toNat:Int))).setCells ps 6 [.int .u64 (k0.promised.toNat:Int), .int .u64 (k0.current.toNat:Int),lv]).heap[b8]? = some (.cells [.int .u64 (k0.promised.toNat:Int), .int .u64 (k0.current.toNat:Int),lv].toArray 55 (0,0)):=And.intro (cell_of_block (cs:=[_]) d23 0) d83
    clear p0 p1 p2 p3 hset6 v2 v3' zp5 d2 d8 d21 d81 d22 d82 d23 d83 hcb p55 hsoH hal pH c5 hpsb hpsb2 hpsb3 hps8 h28
    obtain ⟨V,hV⟩:∃ V,W5.drew = V:=⟨_,rfl⟩
    rw [hV] at hFIN hst6 f54 f55 c54 c55 hS17 hS8 hS11 hS14 hso2
    have hS8H:=hidden hS8
    have hS11H:=hidden hS11
    have hS14H:=hidden hS14
    clear hS8 hS11 hS14
    refine Aa (fun w'=>w'.cell? ⟨w.heap.size,0,none⟩ = some (.pointer (some ⟨ps,0,none⟩))∧w'.heap[b8]? = some (.cells [.int .u64 (k0.promised.toNat:Int), .int .u64 (k0.current.toNat:Int),lv].toArray 55 (0,0))) (fun _=>true) (by kernel_rfl) (by rw [hV];exact hS17) (fun hHeld => ?_)
    clear hHeld
    rw [hV]
    clear hV
    have hHeldV:=hS17
    refine tq 0 ?_ (hQ:=by exact fun _ _ _ h=>AQ (by decide) h)
    refine tq 1 ?_ (hQ:=by exact fun _ _ _ h=>AQ (by decide) h)
    refine tq 2 ?_ (hQ:=by exact fun _ _ _ h=>AQ (by decide) h)
    refine tq 3 ?_ (hQ:=by exact fun _ _ _ h=>AQ (by decide) h)
    refine tq 4 ?_ (hQ:=by exact fun _ _ _ h=>AQ (by decide) h)
    refine Dt (i:=5) (v := .agg [.int .u64 (k0.promised.toNat:Int), .int .u64 (k0.current.toNat:Int),lv].toArray) rfl (by kernel_rfl) (fun _ _ _ h=>AQ (by decide) h) (yieldsIf_load_mid rfl 55 (.tmp 8) rfl b8 0 rfl [.int .u64 (k0.promised.toNat:Int), .int .u64 (k0.current.toNat:Int),lv] _ (fun w h=>AV h.2) Tryz.underlying55 rfl (by kernel_rfl)) (by assumption) ?_
    simp only [Act.put,lsa,lsz,lss]
    refine tq 6 ?_ (hQ:=by exact fun _ _ _ h=>AQ (by decide) h)
    refine tq 7 ?_ (hQ:=by exact fun _ _ _ h=>AQ (by decide) h)
    refine Ac (i:=8) rfl (by kernel_rfl) ?_
    go_wp2_with fail
    have hS8:=hS8H.out
    first | refine ⟨fun _=>hS8, ?_⟩ | refine ⟨hS8.2, ?_⟩
    refine tq 9 ?_ (hQ:=by exact fun _ _ _ h=>AQ (by decide) h)
    refine tq 10 ?_ (hQ:=by exact fun _ _ _ h=>AQ (by decide) h)
    refine Ac (i:=11) rfl (by kernel_rfl) ?_
    go_wp2_with fail
    have hS11:=hS11H.out
    first | refine ⟨fun _=>hS11, ?_⟩ | refine ⟨hS11.2, ?_⟩
    refine tq 12 ?_ (hQ:=by exact fun _ _ _ h=>AQ (by decide) h)
    refine tq 13 ?_ (hQ:=by exact fun _ _ _ h=>AQ (by decide) h)
    refine Ac (i:=14) rfl (by kernel_rfl) ?_
    apply AC
    ·exact hso2.out
    simp only [Act.put]
    go_wp2_with fail
    have hS14:=hS14H.out
    first | refine ⟨fun _=>hS14, ?_⟩ | refine ⟨hS14.2, ?_⟩
    refine Ae (by kernel_rfl) ?_ _
    go_wp2_with fail
    go_roundw
    case rel=>exact ⟨1,o5,by omega,by first | rfl | go_num,hFIN.out,hst6.out⟩
    case measure=>simp [intOf]
   ·have hcb:decide (0 < g0.toNat) = false:=decide_eq_false hc
    go_wp2_with (first
     | ((with_reducible apply AU);exact hal.out;simp only [Act.put,lsa,lsz,lss])
     | ((with_reducible apply AC);exact hsoH.out;simp only [Act.put]))
    have hg0:g0 = 0:=BitVec.eq_of_toNat_eq (by have:(0:BitVec 64).toNat = 0:=rfl;omega)
    have hk0:k0 = ⟨0,0,[]⟩:=UM (by rw [←hg0];exact hr0H.out)
    refine ⟨⟨1,o5,by omega,rfl,⟨⟨⟨hG5.out.1.1,hG5.out.1.2⟩,⟨hG5.out.2.1,hG5.out.2.2⟩,hA5.out.2.2.1⟩, .inr (.inl ⟨rfl,pn, .slice none 0 0,⟨by rw [hg0,hk0];exact pH.out,hA5.out.1⟩,by rw [hk0];exact Lines.nil _ _ _,hA5.out.2.1⟩)⟩,hA5.out.2.2.2.2⟩,by simp [intOf]⟩
  ·have cP3:wr.cell? ⟨ps,3,none⟩ = some (.int .i64 (H:Int)):=cell_of_block hps 3
   have hplt:=lt_of_block hps
   have hpsb:¬ ps = w.heap.size:=by rintro rfl;rw [hops] at ho2;exact htgH.out.2.1.2.2.2 (Prod.mk.inj ho2).1
   have hG:=hidden (And.intro (And.intro hb2 ho2) (And.intro (And.intro hb3 ho3) (And.intro hdk (And.intro hps hops))))
   have hS:=And.intro c2 cP3
   have hstK:=hidden hst
   have hlaH:=hidden hla
   have hkvH:=hidden hkv
   clear hla hkv
   have hop:=hidden (fun (x:World) (ox:Own) (hx:Step Nobody wr oj x ox)=>UZ (L:=B) (D:=D) (fun h=>htgH.out.1.2.2.1 h.symm) (fun h=>htgH.out.1.2.2.2.1 h.symm) (fun h=>htgH.out.2.2.2.1.1 h) (hdk.step hx (fun h=>h)) hrowH.out hddH.out (H) H (by have:=hhI;omega) (by have:=hhI;omega) (by have:=hhH.out;omega))
   clear hb2 hb3 hdk hps hst f3 c3 cP3 c2 f2
   go_wp2_with fail
   refine Aa (fun w'=>w'.cell? ⟨w.heap.size,0,none⟩ = some (.pointer (some ⟨ps,0,none⟩))∧w'.cell? ⟨ps,3,none⟩ = some (.int .i64 (H:Int))) (fun _=>true) (by kernel_rfl) hS (fun hHeld => ?_)
   refine tq 0 ?_ (hQ:=by exact fun _ _ _ h=>AQ (by decide) h)
   refine tq 1 ?_ (hQ:=by exact fun _ _ _ h=>AQ (by decide) h)
   refine tq 2 ?_ (hQ:=by exact fun _ _ _ h=>AQ (by decide) h)
   refine tq 3 ?_ (hQ:=by exact fun _ _ _ h=>AQ (by decide) h)
   refine tq 4 ?_ (hQ:=by exact fun _ _ _ h=>AQ (by decide) h)
   refine tq 5 ?_ (hQ:=by exact fun _ _ _ h=>AQ (by decide) h)
   refine tv 6 (.int .i64 (H:Int)) (hy:=fun w hSw=>by (try dsimp only at hSw);go_simp;first | done | rfl | exact wrap_i64 (by omega) (by omega)) (hQ:=by exact fun _ _ _ h=>AQ (by decide) h) (h := ?_)
   refine tq 7 ?_ (hQ:=by exact fun _ _ _ h=>AQ (by decide) h)
   refine tq 8 ?_ (hQ:=by exact fun _ _ _ h=>AQ (by decide) h)
   refine tq 9 ?_ (hQ:=by exact fun _ _ _ h=>AQ (by decide) h)
   refine tq 10 ?_ (hQ:=by exact fun _ _ _ h=>AQ (by decide) h)
   refine Ac (i:=11) rfl (by kernel_rfl) ?_
   go_wp2_with fail
   have hdr:=(Step.refl Nobody wr oj).drew
   refine (hop.out _ _ hdr).mono ?_;rintro e w1 ⟨v1,o1,rfl,hs1,hopn⟩
   obtain ⟨pn, -,rfl,hlog⟩:=hopn.2 hN1H.out
   rw [ha1H.out] at hlog
   have hs1:Step (Only B) wr oj w1 o1:=(hdr.only B).trans hs1
   clear hopn hHeld
   have tg:=htgH.out
   have u2:=(hs1.block _ (lt_of_block hG.out.1.1) (by rw [hG.out.1.2];exact fun h=>tg.2.2.2.1.2 h.symm)).trans hG.out.1.1
   have u3:=(hs1.block _ (lt_of_block hG.out.2.1.1) (by rw [hG.out.2.1.2];exact fun h=>tg.2.2.2.1.2 h.symm)).trans hG.out.2.1.1
   have up:=(hs1.block _ hplt (by rw [hG.out.2.2.2.2];exact fun h=>tg.2.1.2.1 h)).trans hG.out.2.2.2.1
   have hS1:=And.intro (cell_of_block (cs:=[_]) u2 0) (cell_of_block up 3)
   go_wp2_with fail
   refine ⟨fun _=>hS1, ?_⟩
   refine tq 12 ?_ (hQ:=by exact fun _ _ _ h=>AQ (by decide) h)
   refine tq 13 ?_ (hQ:=by exact fun _ _ _ h=>AQ (by decide) h)
   refine tq 14 ?_ (hQ:=by exact fun _ _ _ h=>AQ (by decide) h)
   refine tq 15 ?_ (hQ:=by exact fun _ _ _ h=>AQ (by decide) h)
   refine tq 16 ?_ (hQ:=by exact fun _ _ _ h=>AQ (by decide) h)
   refine Ae (by kernel_rfl) ?_ _
   have z2:=(hs1.own _ (lt_of_block hG.out.1.1)).trans hG.out.1.2
   have z3:=(hs1.own _ (lt_of_block hG.out.2.1.1)).trans hG.out.2.1.2
   have zp:=(hs1.own _ hplt).trans hG.out.2.2.2.2
   have hd1:=hG.out.2.2.1.step hs1 (fun h=>tg.2.2.2.1.1 h.symm)
   have hla1:=hlaH.out.step hs1 (fun h=>tg.2.2.1.1 h) (fun h=>tg.1.2.2.1 h)
   have hkv1:=hkvH.out.step hs1 (fun h=>tg.1.2.2.1 h)
   have hst1:=hstK.out.trans (hs1.mono (T':=fun t=>t = S ∨ t = A ∨ t = B) (fun _ h => .inr (.inr h)))
   clear hop hs1
   go_wp2_with fail
   refine (Fq w1).mono ?_;rintro e w' ⟨rfl,rfl⟩
   have hset:=(Step.refl (Only S) w1 o1).setCell (a:=⟨ps,2,none⟩) (.pointer (some ⟨pn,0,none⟩)) (.inl (by show (o1 ps).1 = S;rw [zp]))
   have up2:(w1.setCell ⟨ps,2,none⟩ (.pointer (some ⟨pn,0,none⟩))).heap[ps]? = some (.cells (storeCells pd (.pointer (some ⟨pa,0,none⟩)) (.pointer (some ⟨pn,0,none⟩)) H 0 g0 k0.promised k0.current kv false).toArray 108 (0,0)):=Ai (i:=2) _ up
   have hpsb2:w.heap.size ≠ ps:=by rintro rfl;rw [zp] at z2;exact tg.2.1.2.2.2 (Prod.mk.inj z2).1
   have hpsb3:w.heap.size + 1 ≠ ps:=by intro h;rw [h,zp] at z3;exact tg.2.1.2.2.2 (Prod.mk.inj z3).1
   have u22:=(Below.heap_setCell w1 ⟨ps,2,none⟩ (.pointer (some ⟨pn,0,none⟩)) w.heap.size hpsb2).trans u2
   have u32:=(Below.heap_setCell w1 ⟨ps,2,none⟩ (.pointer (some ⟨pn,0,none⟩)) (w.heap.size + 1) hpsb3).trans u3
   have hlog2:=hlog.step hset (fun h=>tg.2.1.2.1 h.symm) (fun h=>tg.1.1 h)
   have hd2:=hd1.step hset (fun h=>tg.2.1.2.2.1 h.symm)
   have hla2:=hla1.step hset (fun h=>tg.2.1.1 h.symm) (fun h=>tg.1.1 h)
   have hkv2:=hkv1.step hset (fun h=>tg.1.1 h)
   have hst2:=hst1.setCell (a:=⟨ps,2,none⟩) (.pointer (some ⟨pn,0,none⟩)) (.inl (by show (o1 ps).1 = S ∨ _;rw [zp];exact .inl rfl))
   have q1:=hS1.1
   have q2:w1.frozen? ⟨ps,2,none⟩ = false:=Ap up 2
   have q3:=cell_of_block up 2
   obtain ⟨W2,hw2⟩:∃ W2,w1.setCell ⟨ps,2,none⟩ (.pointer (some ⟨pn,0,none⟩)) = W2:=⟨_,rfl⟩
   rw [hw2] at up2 u22 u32 hlog2 hd2 hst2 hla2 hkv2
   have hw2H:=hidden hw2
   have hbat:=hidden (Qs hlog2 _ rfl)
   have hwf:=hlog2
   obtain ⟨-, -, -, -, -, -, -,hwf⟩:=hwf
   clear hset hw2 hS1 up u2 u3 hlog hd1 hst1 hla1 hkv1
   go_wp2_with fail
   rw [hw2H.out]
   refine hbat.out.mono ?_;rintro e w3 ⟨v3,o3',rfl,hs3,vs,hown, -,hrb,hz⟩
   have hslc:Slc w3 o3' v3 a1.records.length vs:=XG hown (fun k hk=>by rw [hz k (hown.lt k hk).1])
   have hrl:a1.records.length ≤ 300:=by
    have h1:=hwf.2.2.2.2.1
    have h2:=hwf.2.2.2.2.2.1
    have h3:a1.n = H:=by rw [←ha1H.out];exact Ad.Bq _ _ _
    have:=hhI;omega
   have hrep:=Oe hslc hrb (fun b hb=>Nat.le_trans (hwf.2.2.2.2.2.2 b hb) (by omega)) hrl hr1H.out
   simp only [Dy] at hrep
   have hrepH:=hidden hrep
   clear hrep hslc hown hrb hz hbat
   go_wp2_with fail
   refine hrepH.out.mono ?_;rintro e w4 ⟨v4,o4,rfl,hs4,lv,rfl,hl4, -⟩
   clear hrepH
   have s34:=hs3.trans hs4
   have hal:=hidden (AB (P:=Tryz.prog) w4 55 _ LX)
   have s5a:=(Step.refl Nobody w4 o4).alloc (.cells #[.int .u64 0, .int .u64 0, .slice none 0 0] 55) (Y,0)
   have b5a:(w4.alloc (.cells #[.int .u64 0, .int .u64 0, .slice none 0 0] 55)).heap[w4.heap.size]? = some (.cells [.int .u64 0, .int .u64 0, .slice none 0 0].toArray 55 (0,0)):=heap_alloc_new w4 _
   have y5a:Ak o4 w4.heap.size (Y,0) w4.heap.size = (Y,0):=Au _ _ _
   obtain ⟨lla,llc,hlv⟩:=hl4.form
   obtain ⟨hso,hsb⟩:=Ba (P:=Tryz.prog) (ty:=55) (vs:=[.int .u64 (k1.promised.toNat:Int), .int .u64 (k1.current.toNat:Int),lv]) b5a rfl (by kernel_rfl) (by rw [hlv];rfl)
   have hsoH:=hidden hso
   have s5:=(s5a.mono (T':=Only Y) (fun _ h=>h.elim)).setCells w4.heap.size 0 [.int .u64 (k1.promised.toNat:Int), .int .u64 (k1.current.toNat:Int),lv] (.inl (by show (Ak o4 w4.heap.size (Y,0) w4.heap.size).1 = Y;rw [y5a]))
   have hst5:=(hst2.trans (s34.mono (T':=fun t=>t = S ∨ t = A ∨ t = B) (fun _ h=>h.elim))).trans ((s5a.mono (T':=fun t=>t = S ∨ t = A ∨ t = B) (fun _ h=>h.elim)).setCells w4.heap.size 0 [.int .u64 (k1.promised.toNat:Int), .int .u64 (k1.current.toNat:Int),lv] (.inr (Nat.le_refl _)))
   generalize Ak o4 w4.heap.size (Y,0) = o5 at *
   obtain ⟨W5,hW5⟩:∃ W5,(w4.alloc (.cells #[.int .u64 0, .int .u64 0, .slice none 0 0] 55)).setCells w4.heap.size 0 [.int .u64 (k1.promised.toNat:Int), .int .u64 (k1.current.toNat:Int),lv] = W5:=⟨_,rfl⟩
   rw [hW5] at hsoH hsb s5 hst5
   have e5:=(hs4.block w.heap.size (lt_of_block ((hs3.block _ (lt_of_block u22) (fun h=>h)).trans u22)) (fun h=>h)).trans ((hs3.block _ (lt_of_block u22) (fun h=>h)).trans u22)
   have e53:=(hs4.block (w.heap.size + 1) (lt_of_block ((hs3.block _ (lt_of_block u32) (fun h=>h)).trans u32)) (fun h=>h)).trans ((hs3.block _ (lt_of_block u32) (fun h=>h)).trans u32)
   have e5p:=(hs4.block ps (lt_of_block ((hs3.block _ (lt_of_block up2) (fun h=>h)).trans up2)) (fun h=>h)).trans ((hs3.block _ (lt_of_block up2) (fun h=>h)).trans up2)
   have hW5b:∀ k,k < w4.heap.size→W5.heap[k]? = w4.heap[k]?:=fun k hk=>by
    rw [←hW5,heap_setCells_other _ _ _ _ _ (by omega)];exact Below.heap_alloc _ _ _ hk
   have e5:=(hW5b _ (lt_of_block e5)).trans e5
   have e53:=(hW5b _ (lt_of_block e53)).trans e53
   have hps8:w4.heap.size ≠ ps:=by have:=lt_of_block e5p;omega
   have h28:w.heap.size ≠ w4.heap.size:=by have:=hst2.size;have:=s34.size;have:=lt_of_block u22;omega
   have e5p:=(hW5b _ (lt_of_block e5p)).trans e5p
   have sAll:=(s34.only Y).trans s5
   have z25:=(sAll.own _ (lt_of_block u22)).trans z2
   have z35:=(sAll.own _ (lt_of_block u32)).trans z3
   have zp5:=(sAll.own _ (lt_of_block up2)).trans zp
   have hlog5:=hlog2.step sAll (fun h=>tg.2.2.2.1.2 h) (fun h=>tg.1.2.2.2.2 h)
   have hd5:=hd2.step sAll (fun h=>tg.2.2.2.2 h)
   have hla5:=hla2.step sAll (fun h=>tg.2.2.1.2.2 h) (fun h=>tg.1.2.2.2.2 h)
   have hkv5:=hkv2.step sAll (fun h=>tg.1.2.2.2.2 h)
   have hB5:=hidden (And.intro hla5 hkv5)
   have hl5:=(hl4.step s5 (fun h=>tg.1.2.2.2.2 h)).low (Nat.le_trans hst2.size hs3.size)
   have hG5:=hidden (And.intro (And.intro e5 z25) (And.intro e53 z35))
   have hA5:=hidden (And.intro zp5 (And.intro hlog5 (And.intro hd5 (And.intro hl5 hst5))))
   have hbK:=hidden hsb
   have pH:=hidden e5p
   have c5:=cell_of_block (cs:=[_]) e5 0
   have p55:W5.cell? ⟨ps,5,none⟩ = some (.int .u64 (g0.toNat:Int)):=by simpa [storeCells] using cell_of_block e5p 5
   obtain ⟨b8,hb8⟩:∃ b8,w4.heap.size = b8:=⟨_,rfl⟩
   rw [hb8] at hal hsoH hbK hps8 h28
   have hlvH:=hidden hlv
   clear hlv hso s5a s5 b5a y5a hsb hst5 hW5 hW5b e5 e53 e5p sAll z25 z35 zp5 hlog5 hd5 hl5 hl4 s34 hs3 hs4 hlog2 hd2 hst2 u22 u32 up2 z2 z3 zp q1 q2 q3 hw2H W2 hb8 hla5 hkv5 hla2 hkv2
   by_cases hc:g0.toNat < g1.toNat
   ·have hcb:decide (g0.toNat < g1.toNat) = true:=decide_eq_true hc
    go_wp2_with (first
     | ((with_reducible apply AU);exact hal.out;simp only [Act.put,lsa,lsz,lss])
     | ((with_reducible apply AC);exact hsoH.out;simp only [Act.put]))
    have p0:(W5.drew).heap[ps]? = some (.cells (storeCells pd (.pointer (some ⟨pa,0,none⟩)) (.pointer (some ⟨pn,0,none⟩)) H 0 g0 k0.promised k0.current kv false).toArray 108 (0,0)):=pH.out
    have p1:=Ai (i:=4) (.int .i64 1) p0
    have p2:=Ai (i:=5) (.int .u64 (g1.toNat:Int)) p1
    have p3:((((W5.drew).setCell ⟨ps,4,none⟩ (.int .i64 1)).setCell ⟨ps,5,none⟩ (.int .u64 (g1.toNat:Int))).setCells ps 6 [.int .u64 (k1.promised.toNat:Int), .int .u64 (k1.current.toNat:Int),lv]).heap[ps]? = some (.cells (storeCells pd (.pointer (some ⟨pa,0,none⟩)) (.pointer (some ⟨pn,0,none⟩)) H 1 g1 k1.promised k1.current lv false).toArray 108 (0,0)):=BP ps 108 _ 6 _ _ p2 (by simp [storeCells])
    have hso2:=hidden (run_storeAt_mid (P:=Tryz.prog) (((W5.drew).setCell ⟨ps,4,none⟩ (.int .i64 1)).setCell ⟨ps,5,none⟩ (.int .u64 (g1.toNat:Int))) ps 6 55 #[.int .u64 (k1.promised.toNat:Int), .int .u64 (k1.current.toNat:Int),lv] (Dh p2 6 3 (by simp [storeCells])) Ij (by rw [hlvH.out];simp [Value.oneCell']))
    have zp5:=hA5.out.1
    have hset6:=(((Step.refl (Only S) W5 o5).drew.setCell (a:=⟨ps,4,none⟩) (.int .i64 1) (.inl (by show (o5 ps).1 = S;rw [zp5]))).setCell (a:=⟨ps,5,none⟩) (.int .u64 (g1.toNat:Int)) (.inl (by show (o5 ps).1 = S;rw [zp5]))).setCells ps 6 [.int .u64 (k1.promised.toNat:Int), .int .u64 (k1.current.toNat:Int),lv] (.inl (by show (o5 ps).1 = S;rw [zp5]))
    have v2:=(hset6.block _ (lt_of_block hG5.out.1.1) (by rw [hG5.out.1.2];exact fun h=>tg.2.1.2.2.2 h.symm)).trans hG5.out.1.1
    have v3':=(hset6.block _ (lt_of_block hG5.out.2.1) (by rw [hG5.out.2.2];exact fun h=>tg.2.1.2.2.2 h.symm)).trans hG5.out.2.1
    have hFIN:=hidden (show OpenSt ((((W5.drew).setCell ⟨ps,4,none⟩ (.int .i64 1)).setCell ⟨ps,5,none⟩ (.int .u64 (g1.toNat:Int))).setCells ps 6 [.int .u64 (k1.promised.toNat:Int), .int .u64 (k1.current.toNat:Int),lv]) o5 S A B D Y w.heap.size ps pd w.heap.size H d a0 a1 g0 g1 k0 k1 2 from
     ⟨⟨⟨v2,hG5.out.1.2⟩,⟨v3',hG5.out.2.2⟩,hA5.out.2.2.1.step hset6 (fun h=>tg.2.1.2.2.1 h.symm)⟩, .inr (.inr ⟨rfl,by unfold PO;rw [if_pos hc];exact ⟨B,A,pn,pa,1,lv, .inr ⟨rfl,rfl⟩,⟨_,_,p3, .inr ⟨rfl,rfl,rfl⟩,zp5⟩,hA5.out.2.2.2.1.step hset6 (fun h=>tg.1.1 h),hA5.out.2.1.step hset6 (fun h=>tg.2.1.2.1 h.symm) (fun h=>tg.1.1 h),hB5.out.1.step hset6 (fun h=>tg.2.1.1 h.symm) (fun h=>tg.1.1 h),hA5.out.2.2.1.step hset6 (fun h=>tg.2.1.2.2.1 h.symm)⟩⟩)⟩)
    have hst6:=hidden (hA5.out.2.2.2.2.trans (hset6.mono (T':=fun t=>t = S ∨ t = A ∨ t = B) (fun _ h => .inl h)))
    have f54:(W5.drew).frozen? ⟨ps,4,none⟩ = false:=Ap p0 4
    have f55:(W5.drew).frozen? ⟨ps,5,none⟩ = false:=Ap p0 5
    have c54:=cell_of_block p0 4
    have c55:=cell_of_block p0 5
    simp only [storeCells,List.getElem?_cons_succ,List.getElem?_cons_zero] at c54 c55
    have d2:(W5.drew).heap[w.heap.size]? = _:=hG5.out.1.1
    have d8:(W5.drew).heap[b8]? = _:=hbK.out
    have d21:=(Below.heap_setCell (W5.drew) ⟨ps,4,none⟩ (.int .i64 1) w.heap.size hpsb2).trans d2
    have d81:=(Below.heap_setCell (W5.drew) ⟨ps,4,none⟩ (.int .i64 1) b8 hps8).trans d8
    have d22:=(Below.heap_setCell ((W5.drew).setCell ⟨ps,4,none⟩ (.int .i64 1)) ⟨ps,5,none⟩ (.int .u64 (g1.toNat:Int)) w.heap.size hpsb2).trans d21
    have d82:=(Below.heap_setCell ((W5.drew).setCell ⟨ps,4,none⟩ (.int .i64 1)) ⟨ps,5,none⟩ (.int .u64 (g1.toNat:Int)) b8 hps8).trans d81
    have d23:=(heap_setCells_other ps [.int .u64 (k1.promised.toNat:Int), .int .u64 (k1.current.toNat:Int),lv] 6 (((W5.drew).setCell ⟨ps,4,none⟩ (.int .i64 1)).setCell ⟨ps,5,none⟩ (.int .u64 (g1.toNat:Int))) w.heap.size hpsb2).trans d22
    have d83:=(heap_setCells_other ps [.int .u64 (k1.promised.toNat:Int), .int .u64 (k1.current.toNat:Int),lv] 6 (((W5.drew).setCell ⟨ps,4,none⟩ (.int .i64 1)).setCell ⟨ps,5,none⟩ (.int .u64 (g1.toNat:Int))) b8 hps8).trans d82
    have hS17:W5.drew.cell? ⟨w.heap.size,0,none⟩ = some (.pointer (some ⟨ps,0,none⟩))∧W5.drew.heap[b8]? = some (.cells [.int .u64 (k1.promised.toNat:Int), .int .u64 (k1.current.toNat:Int),lv].toArray 55 (0,0)):=And.intro c5 hbK.out
    have hS8:((W5.drew).setCell ⟨ps,4,none⟩ (.int .i64 1)).cell? ⟨w.heap.size,0,none⟩ = some (.pointer (some ⟨ps,0,none⟩))∧((W5.drew).setCell ⟨ps,4,none⟩ (.int .i64 1)).heap[b8]? = some (.cells [.int .u64 (k1.promised.toNat:Int), .int .u64 (k1.current.toNat:Int),lv].toArray 55 (0,0)):=And.intro (cell_of_block (cs:=[_]) d21 0) d81
    have hS11:(((W5.drew).setCell ⟨ps,4,none⟩ (.int .i64 1)).setCell ⟨ps,5,none⟩ (.int .u64 (g1.toNat:Int))).cell? ⟨w.heap.size,0,none⟩ = some (.pointer (some ⟨ps,0,none⟩))∧(((W5.drew).setCell ⟨ps,4,none⟩ (.int .i64 1)).setCell ⟨ps,5,none⟩ (.int .u64 (g1.toNat:Int))).heap[b8]? = some (.cells [.int .u64 (k1.promised.toNat:Int), .int .u64 (k1.current.toNat:Int),lv].toArray 55 (0,0)):=And.intro (cell_of_block (cs:=[_]) d22 0) d82
    have hS14:((((W5.drew).setCell ⟨ps,4,none⟩ (.int .i64 1)).setCell ⟨ps,5,none⟩ (.int .u64 (g1.toNat:Int))).setCells ps 6 [.int .u64 (k1.promised.toNat:Int), .int .u64 (k1.current.toNat:Int),lv]).cell? ⟨w.heap.size,0,none⟩ = some (.pointer (some ⟨ps,0,none⟩))∧((((W5.drew).setCell ⟨ps,4,none⟩ (.int .i64 1)).setCell ⟨ps,5,none⟩ (.int .u64 (g1.toNat:Int))).setCells ps 6 [.int .u64 (k1.promised.toNat:Int), .int .u64 (k1.current.toNat:Int),lv]).heap[b8]? = some (.cells [.int .u64 (k1.promised.toNat:Int), .int .u64 (k1.current.toNat:Int),lv].toArray 55 (0,0)):=And.intro (cell_of_block (cs:=[_]) d23 0) d83
    clear p0 p1 p2 p3 hset6 v2 v3' zp5 d2 d8 d21 d81 d22 d82 d23 d83 hcb p55 hsoH hal pH c5 hpsb hpsb2 hpsb3 hps8 h28
    obtain ⟨V,hV⟩:∃ V,W5.drew = V:=⟨_,rfl⟩
    rw [hV] at hFIN hst6 f54 f55 c54 c55 hS17 hS8 hS11 hS14 hso2
    have hS8H:=hidden hS8
    have hS11H:=hidden hS11
    have hS14H:=hidden hS14
    clear hS8 hS11 hS14
    refine Aa (fun w'=>w'.cell? ⟨w.heap.size,0,none⟩ = some (.pointer (some ⟨ps,0,none⟩))∧w'.heap[b8]? = some (.cells [.int .u64 (k1.promised.toNat:Int), .int .u64 (k1.current.toNat:Int),lv].toArray 55 (0,0))) (fun _=>true) (by kernel_rfl) (by rw [hV];exact hS17) (fun hHeld => ?_)
    clear hHeld
    rw [hV]
    clear hV
    have hHeldV:=hS17
    refine tq 0 ?_ (hQ:=by exact fun _ _ _ h=>AQ (by decide) h)
    refine tq 1 ?_ (hQ:=by exact fun _ _ _ h=>AQ (by decide) h)
    refine tq 2 ?_ (hQ:=by exact fun _ _ _ h=>AQ (by decide) h)
    refine tq 3 ?_ (hQ:=by exact fun _ _ _ h=>AQ (by decide) h)
    refine tq 4 ?_ (hQ:=by exact fun _ _ _ h=>AQ (by decide) h)
    refine Dt (i:=5) (v := .agg [.int .u64 (k1.promised.toNat:Int), .int .u64 (k1.current.toNat:Int),lv].toArray) rfl (by kernel_rfl) (fun _ _ _ h=>AQ (by decide) h) (yieldsIf_load_mid rfl 55 (.tmp 8) rfl b8 0 rfl [.int .u64 (k1.promised.toNat:Int), .int .u64 (k1.current.toNat:Int),lv] _ (fun w h=>AV h.2) Tryz.underlying55 rfl (by kernel_rfl)) (by assumption) ?_
    simp only [Act.put,lsa,lsz,lss]
    refine tq 6 ?_ (hQ:=by exact fun _ _ _ h=>AQ (by decide) h)
    refine tq 7 ?_ (hQ:=by exact fun _ _ _ h=>AQ (by decide) h)
    refine Ac (i:=8) rfl (by kernel_rfl) ?_
    go_wp2_with fail
    have hS8:=hS8H.out
    first | refine ⟨fun _=>hS8, ?_⟩ | refine ⟨hS8.2, ?_⟩
    refine tq 9 ?_ (hQ:=by exact fun _ _ _ h=>AQ (by decide) h)
    refine tq 10 ?_ (hQ:=by exact fun _ _ _ h=>AQ (by decide) h)
    refine Ac (i:=11) rfl (by kernel_rfl) ?_
    go_wp2_with fail
    have hS11:=hS11H.out
    first | refine ⟨fun _=>hS11, ?_⟩ | refine ⟨hS11.2, ?_⟩
    refine tq 12 ?_ (hQ:=by exact fun _ _ _ h=>AQ (by decide) h)
    refine tq 13 ?_ (hQ:=by exact fun _ _ _ h=>AQ (by decide) h)
    refine Ac (i:=14) rfl (by kernel_rfl) ?_
    apply AC
    ·exact hso2.out
    simp only [Act.put]
    go_wp2_with fail
    have hS14:=hS14H.out
    first | refine ⟨fun _=>hS14, ?_⟩ | refine ⟨hS14.2, ?_⟩
    refine Ae (by kernel_rfl) ?_ _
    go_wp2_with fail
    go_roundw
    case rel=>exact ⟨2,o5,by omega,by first | rfl | go_num,hFIN.out,hst6.out⟩
    case measure=>simp [intOf]
   ·have hcb:decide (g0.toNat < g1.toNat) = false:=decide_eq_false hc
    go_wp2_with (first
     | ((with_reducible apply AU);exact hal.out;simp only [Act.put,lsa,lsz,lss])
     | ((with_reducible apply AC);exact hsoH.out;simp only [Act.put]))
    refine ⟨⟨2,o5,by omega,rfl,⟨⟨⟨hG5.out.1.1,hG5.out.1.2⟩,⟨hG5.out.2.1,hG5.out.2.2⟩,hA5.out.2.2.1⟩, .inr (.inr ⟨rfl,by unfold PO;rw [if_neg hc];exact ⟨A,B,pa,pn,0,kv, .inl ⟨rfl,rfl⟩,⟨_,_,pH.out, .inl ⟨rfl,rfl,rfl⟩,hA5.out.1⟩,hB5.out.2,hB5.out.1,hA5.out.2.1,hA5.out.2.2.1⟩⟩)⟩,hA5.out.2.2.2.2⟩,by simp [intOf]⟩
  ·have hset:=((Step.refl (Only Y) wr oj).setCell (a:=⟨w.heap.size,0,none⟩) (.pointer (some ⟨ps,0,none⟩)) (.inl (by show (oj w.heap.size).1 = Y;rw [ho2]))).setCell (a:=⟨w.heap.size + 1,0,none⟩) (.int .i64 0) (.inl (by show (oj (w.heap.size + 1)).1 = Y;rw [ho3]))
   have hstF:=(hst.setCell (a:=⟨w.heap.size,0,none⟩) (.pointer (some ⟨ps,0,none⟩)) (.inr (Nat.le_refl _))).setCell (a:=⟨w.heap.size + 1,0,none⟩) (.int .i64 0) (.inr (by show w.heap.size ≤ w.heap.size + 1;omega))
   have hF:=hidden (And.intro hstF (hfin.step hset (fun t ht=>by
    have:=htgH.out
    subst ht
    refine ⟨fun h=>this.1.2.2.2.2 h.symm,fun h => ?_⟩
    rcases h with h | h | h | h
    ·exact this.2.1.2.2.2 h.symm
    ·exact this.2.2.1.2.2 h.symm
    ·exact this.2.2.2.1.2 h.symm
    ·exact this.2.2.2.2 h.symm)))
   have e2:=Ai (cs:=[_]) (i:=0) (.pointer (some ⟨ps,0,none⟩)) hb2
   have e23:=(Below.heap_setCell wr ⟨w.heap.size,0,none⟩ (.pointer (some ⟨ps,0,none⟩)) (w.heap.size + 1) (by show w.heap.size + 1 ≠ w.heap.size;omega)).trans hb3
   have e3:=Ai (cs:=[_]) (i:=0) (.int .i64 0) e23
   have e32:=(Below.heap_setCell (wr.setCell ⟨w.heap.size,0,none⟩ (.pointer (some ⟨ps,0,none⟩))) ⟨w.heap.size + 1,0,none⟩ (.int .i64 0) w.heap.size (by show w.heap.size ≠ w.heap.size + 1;omega)).trans e2
   have k2:=cell_of_block (cs:=[_]) e32 0
   have k3:=cell_of_block (cs:=[_]) e3 0
   have k2H:=hidden k2
   have k3H:=hidden k3
   clear hset hstF e2 e23 e3 e32 k2 k3 hst hfin
   go_wp2_with fail
   refine leaves_cons (f:=74) (args := #[.pointer (some ⟨w.heap.size,0,none⟩), .pointer (some ⟨w.heap.size + 1,0,none⟩)]) (by simp) (by simp [go_sem]) ?_
   refine (catch_idle _ _ _).mono ?_
   rintro e u' w'' ⟨rfl,rfl,rfl⟩
   have k2:=k2H.out
   have k3:=k3H.out
   refine ⟨.tuple #[.pointer (some ⟨ps,0,none⟩), .int .i64 0],by simp [results,go_sem,k2,k3],_,oj,rfl,hF.out.1,ps,hpsw,rfl,hF.out.2⟩
end
theorem RdM.Tq {n:Nat} (hn:n ≤ 8) (S:BitVec 64) (hS:S.toNat < 256 ^ n) (r:List UInt8):(RdM.mk (be n S ++ r) false).num n = (S,⟨r,false⟩):=by
 unfold RdM.num RdM.take
 have hl:¬ (be n S ++ r).length < n:=by rw [List.length_append,Az];omega
 simp only [Bool.false_eq_true,if_false,if_neg hl,Option.map_some,Option.getD_some,Prod.mk.injEq,RdM.mk.injEq,and_true]
 rw [List.take_left' (Az n S),List.drop_left' (Az n S)]
 exact ⟨BitVec.eq_of_toNat_eq (NJ hn S hS),rfl⟩
theorem RdM.Hz (S:BitVec 64) (r:List UInt8):(RdM.mk (be 8 S ++ r) false).num 8 = (S,⟨r,false⟩):=
 RdM.Tq (by omega) S (Nat.lt_of_lt_of_le S.isLt (by decide)) r
theorem RdM.JY (c:UInt8) (r:List UInt8):(RdM.mk (c :: r) false).num 1 = (BitVec.ofNat 64 c.toNat,⟨r,false⟩):=by
 have hc:=c.toNat_lt
 have:=RdM.Tq (n:=1) (by omega) (BitVec.ofNat 64 c.toNat) (by rw [BitVec.toNat_ofNat,Nat.mod_eq_of_lt (by omega)];omega) r
 rw [bP] at this
 exact this
theorem RdM.ZC (b r:List UInt8) (hb:b.length < 4294967296):(RdM.mk (be 4 (BitVec.ofNat 64 b.length) ++ (b ++ r)) false).text = (b,⟨r,false⟩):=by
 have hl:(BitVec.ofNat 64 b.length).toNat = b.length:=by rw [BitVec.toNat_ofNat,Nat.mod_eq_of_lt (by omega)]
 unfold RdM.text
 rw [RdM.Tq (by omega) _ (by rw [hl];omega)]
 simp only [hl]
 unfold RdM.txt RdM.take
 have h2:¬ (b ++ r).length < b.length:=by rw [List.length_append];omega
 simp only [Bool.false_eq_true,if_false,if_neg h2,Option.getD_some,List.take_left,List.drop_left]
def Short (ls:List Ar):Prop:=∀ x ∈ ls,x.b.length < 4294967296
theorem Ru (ls:List Ar) (h:Short ls) (r:List UInt8):∀ k,k ≤ ls.length→Ce k ⟨encs ls ++ r,false⟩ = (ls.take k,⟨encs (ls.drop k) ++ r,false⟩)
 | 0,_=>by simp [Ce]
 | k + 1,hk=>by
  have ih:=Ru ls h r k (by omega)
  have hx:ls[k]? = some ls[k]:=List.getElem?_eq_getElem (by omega)
  have hd:ls.drop k = ls[k] :: ls.drop (k + 1):=List.drop_eq_getElem_cons (by omega)
  have he:encs (ls.drop k) ++ r = be 8 ls[k].e ++ (be 4 (BitVec.ofNat 64 ls[k].b.length) ++ (ls[k].b ++ (encs (ls.drop (k + 1)) ++ r))):=by
   rw [hd];unfold encs;rw [List.flatMap_cons];simp [Ar.enc]
  unfold Ce
  rw [ih,he]
  simp only [RdM.Hz]
  rw [RdM.ZC _ _ (h _ (List.getElem_mem _))]
  simp only [Prod.mk.injEq,and_true]
  rw [List.take_add_one,hx];rfl
theorem KP (ls:List Ar) (h:Short ls) (hn:ls.length ≤ 256) (r:List UInt8):(RdM.mk (GR ls ++ r) false).lines = (ls,⟨r,false⟩):=by
 have hl:(BitVec.ofNat 64 ls.length).toNat = ls.length:=by rw [BitVec.toNat_ofNat,Nat.mod_eq_of_lt (by omega)]
 have hc:(RdM.mk (GR ls ++ r) false).count 256 = (ls.length,⟨encs ls ++ r,false⟩):=by
  unfold RdM.count GR
  rw [List.append_assoc,RdM.Hz]
  simp only [hl]
  rw [if_neg (by omega)]
 unfold RdM.lines
 rw [hc]
 simp only
 rw [Ru ls h r _ (Nat.le_refl _)]
 simp [encs]
theorem Jp:(RdM.mk [] false).done = 0:=rfl
theorem Py (k:AX) (e:BitVec 64):Fh k (2 :: be 8 e) = some { k with promised:=e }:=by
 have h:=RdM.Hz e []
 rw [List.append_nil] at h
 unfold Fh
 simp only [RdM.JY]
 rw [if_pos (by decide)]
 unfold AX.Ez
 simp only [h,Jp,if_true]
theorem Tc (k:AX) (e:BitVec 64) (ls:List Ar) (h:Short ls) (hn:ls.length ≤ 256):Fh k (3 :: (be 8 e ++ GR ls)) = some ⟨e,e,ls⟩:=by
 have hl:=KP ls h hn []
 rw [List.append_nil] at hl
 unfold Fh
 simp only [RdM.JY]
 rw [if_neg (by decide),if_pos (by decide)]
 unfold AX.FW
 simp only [RdM.Hz,hl,Jp,if_true]
theorem QI (k:AX) (ls:List Ar) (h:Short ls) (hn:ls.length ≤ 256):Fh k (4 :: GR ls) = some { k with lines:=k.lines ++ ls }:=by
 have hl:=KP ls h hn []
 rw [List.append_nil] at hl
 unfold Fh
 simp only [RdM.JY]
 rw [if_neg (by decide),if_neg (by decide),if_pos (by decide)]
 unfold AX.Fb
 simp only [hl,Jp,if_true]
theorem Td (age p c:BitVec 64) (ls:List Ar) (ha:0 < age.toNat) (h:Short ls) (hn:ls.length ≤ 256):EF (IY age p c ls) = some (age,⟨p,c,ls⟩):=by
 have hl:=KP ls h hn []
 rw [List.append_nil] at hl
 unfold EF IY
 simp only [RdM.JY,RdM.Hz,hl,Jp]
 rw [if_pos ⟨by decide,trivial,ha⟩]
theorem Om (b:List UInt8):∀ (rs:List (List UInt8)) (k kf kn:AX),FV k rs = some kf→Fh kf b = some kn→FV k (rs ++ [b]) = some kn
 | [],k,kf,kn,h,h1=>by
  simp only [FV,Option.some.injEq] at h
  subst h
  simp [FV,h1]
 | x :: r,k,kf,kn,h,h1=>by
  obtain ⟨k',h2,h3⟩:=Oo h
  have:=Om b r k' kf kn h3 h1
  simp only [List.cons_append,FV,h2,this]
theorem Oi {rs:List (List UInt8)} {age:BitVec 64} {k kn:AX} {b:List UInt8} (h:DK rs = some (age,k)) (ha:0 < age.toNat) (h1:Fh k b = some kn):DK (rs ++ [b]) = some (age,kn):=by
 cases rs with
 | nil =>
  simp only [DK,Option.some.injEq,Prod.mk.injEq] at h
  obtain ⟨rfl, -⟩:=h
  simp at ha
 | cons x r =>
  change (match EF x with | some (a,k)=>(FV k r).map (fun k'=>(a,k')) | none=>none) = some (age,k) at h
  cases hf:EF x with
  | none=>rw [hf] at h;cases h
  | some y =>
   obtain ⟨a,k0⟩:=y
   rw [hf] at h
   simp only [Option.map_eq_some_iff,Prod.mk.injEq] at h
   obtain ⟨k',h2,rfl,rfl⟩:=h
   simp only [List.cons_append,DK,hf,Om b r k0 _ kn h2 h1,Option.map_some]
theorem Px {b:List UInt8} {age:BitVec 64} {k:AX} (h:EF b = some (age,k)):DK [b] = some (age,k):=by
 simp [DK,h,FV]

end Go.Proofs.YthmpmgknnibljaaGreat
