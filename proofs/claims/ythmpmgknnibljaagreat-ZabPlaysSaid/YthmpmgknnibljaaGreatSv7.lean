/- Contracts of the reader: Byte, Uint, Text, Count, Bad, Done; store.read. -/
import Derived.Defers
import Derived.Recover
import Derived.Test.YthmpmgknnibljaaGreatSv6
namespace Go.Proofs.YthmpmgknnibljaaGreat
open Go.Proofs.Tryz
set_option maxRecDepth 100000
set_option maxHeartbeats 6400000
open Go Go.RowKit
attribute [local go_sem ↓] Go.wp_at_zero Go.wp_at_succ
variable {X base c n:Nat} {w w':World} {o o':Own} {v:Value} {ls:List Ar} {t:Nat × Nat} {k:AX} {b:List UInt8} {age:BitVec 64}
theorem oQ.EC (n:Nat) (m:oQ):(m.num n).2.b.length <= m.b.length:=by
 unfold oQ.num oQ.take;grind
theorem oQ.cZ (n:Nat) (m:oQ):(m.txt n).2.b.length <= m.b.length/\(m.txt n).1.length <= m.b.length:=by
 unfold oQ.txt oQ.take;grind
theorem oQ.EL (hn:n <= 8) (m:oQ):(m.num n).1.toNat < 256 ^ n \/ (m.num n).1 = 0:=by
 unfold oQ.num oQ.take;split
 simp
 ·split
  simp
  ·left
   show (Go.Proofs.YthmpmgknnibljaaGreat.num (m.b.take n)).toNat < _;have hl:(m.b.take n).length = n:=bg
   rw [Go.Proofs.YthmpmgknnibljaaGreat.EL aP];grind [Jg]
section
variable {w:World} {o:Own} {Z p:Nat} {m:oQ}
theorem NI (h:Ep w o Z p m) (hZ:Z ≠ 0) (hm:m.b.length <= 1000000) :
  Calls prog 93 #[.pointer p] w (XL (ak Z) w o fun v w' o'=>v = .int .u8 (((m.num 1).1.toNat % 256:Nat):Int)/\Ep w' o' Z p (m.num 1).2):=by
 have hc:=ae (NF h hZ hm 1 aP);have hs:=oQ.EL (n:=1) aP m;have hlt:(m.num 1).1.toNat < 256:=by
  grind
 have hmod:(m.num 1).1.toNat % 256 = (m.num 1).1.toNat:=aP;rw [hmod];go_enter func93,ntmps93;go_wp2_with fail;refine hc.out.mono ?_;rintro e w1 ⟨v1,o1,rfl,hs,rfl,hr⟩;go_wp2_with fail;go_ret;exact ⟨_,o1,rfl,hs,rfl,hr⟩
theorem EJ (h:Ep w o Z p m) (hZ:Z ≠ 0) (hm:m.b.length <= 1000000) :
  Calls prog 94 #[.pointer p] w (XL (ak Z) w o fun v w' o'=>v = .int .u64 ((m.num 8).1.toNat:Int)/\Ep w' o' Z p (m.num 8).2):=by
 have hc:=ae (NF h hZ hm 8 aP);go_enter func94,ntmps94;go_wp2_with fail;refine hc.out.mono ?_;rintro e w1 ⟨v1,o1,rfl,hs,rfl,hr⟩;go_wp2_with fail;go_ret;exact ⟨_,o1,rfl,hs,rfl,hr⟩
theorem Rq (h:Ep w o Z p m) (hZ:Z ≠ 0) (hm:m.b.length <= 1000000) :
  Calls prog 96 #[.pointer p] w (XL (ak Z) w o fun v w' o'=>(Bytes w' o' v m.text.1/\CV w.heap.size v)/\Ep w' o' Z p m.text.2):=by
 have hc:=ae (NF h hZ hm 4 aP);have hs:=oQ.EL (n:=4) aP m;have hlt:(m.num 4).1.toNat <= 4294967295:=by
  grind
 have hl2:=oQ.EC 4 m;have hc2:=ae (fun (W:World) (O:Own) (hr:Ep W O Z p (m.num 4).2)=>Yr hr hZ aP (m.num 4).1.toNat hlt);go_enter func96,ntmps96;go_wp2_with fail;refine hc.out.mono ?_;rintro e w1 ⟨v1,o1,rfl,hs,rfl,hr⟩;have hc3:=ae (hc2.out _ _ hr);have hsz:=hs.size;go_wp2_with fail;refine hc3.out.mono ?_;rintro e w2 ⟨v2,o2,rfl,hs2,⟨hb,hf⟩,hr2⟩;go_wp2_with fail;go_ret;exact ⟨_,o2,rfl,hs.trans hs2,⟨hb,hf.low hsz⟩,hr2⟩
theorem aB (h:Ep w o Z p m) (hZ:Z ≠ 0) :
  Calls prog 151 #[.pointer p] w (XL (ak Z) w o fun v w' o'=>v = .tuple #[]/\Ep w' o' Z p { m with bad:=true }):=by
 obtain ⟨bv,h1,h2,h3⟩:=h;have c1:w.cell? (aW p 1) = some (.bool m.bad):=ag (cs:=[_,_]) h1 1;have f1:w.frozen? (aW p 1) = false:=Ap (cs:=[_,_]) h1 1;have hset:=(aj.refl (ak Z) w o).setCell (a:=(aW p 1)) (.bool true) (.inl (by show (o p).1 = Z;grind));have hF:=ae (show Ep (w.setCell (aW p 1) (.bool true)) o Z p { m with bad:=true } from ⟨_,Ai (cs:=[_,_]) (i:=1) _ h1,h2,h3.step hset (fun h=>hZ h.symm)⟩);have hsH:=ae hset;go_enter func151,ntmps151;go_wp2_with fail
 first | go_end0 | refine bodyPost_ret (results_none rfl _ _ _) rfl ?_
 exact ⟨_,o,rfl,hsH.out,rfl,hF.out⟩
theorem Je (h:Ep w o Z p m) (hZ:Z ≠ 0) (hm:m.b.length <= 1000000) (most:Nat) (BcH:most <= 1000000) :
  Calls prog 95 #[.pointer p, (most:aV)] w (XL (ak Z) w o fun v w' o'=>v = .int .i64 ((m.count most).1:Int)/\Ep w' o' Z p (m.count most).2):=by
 have hc:=ae (EJ h hZ hm);have hlt:=(m.num 8).1.isLt;obtain ⟨q,hq⟩:=az (m.count most);rw [hq];unfold oQ.count at hq;generalize (m.num 8).1.toNat = n8 at *;generalize (m.num 8).2 = m8 at *;have hnI:(0:Int) <= (n8:Int)/\(n8:Int) < 18446744073709551616:=aP
 have hmI:(0:Int) <= (most:Int)/\(most:Int) <= 1000000:=aP
 clear h hlt
 by_cases hb:most < n8
 ·rw [if_pos hb] at hq;have hbI:(most:Int) < (n8:Int):=aP
  have yV:=ae hq;clear hq;go_enter func95,ntmps95;go_wp2_with fail;refine hc.out.mono ?_;rintro e w1 ⟨v1,o1,rfl,hs,rfl,hr⟩;have hc3:=ae (aB hr hZ);clear hc;go_wp2_with fail;refine hc3.out.mono ?_;rintro e w2 ⟨v2,o2,rfl,hs2,rfl,hr2⟩;go_wp2_with fail;go_ret;exact ⟨_,o2,rfl,hs.trans hs2,by rw [<-yV.out];rfl,by rw [<-yV.out];omega⟩
 ·rw [if_neg hb] at hq;have hbJ:(n8:Int) <= 1000000:=aP
  have yV:=ae hq;clear hq;go_enter func95,ntmps95;go_wp2_with fail;refine hc.out.mono ?_;rintro e w1 ⟨v1,o1,rfl,hs,rfl,hr⟩;clear hc;go_wp2_with fail;go_ret;exact ⟨_,o1,rfl,hs,by rw [<-yV.out];rfl,by rw [<-yV.out];omega⟩
theorem II (h:Ep w o Z p m):Calls prog 97 #[.pointer p] w fun e w'=>e = .returned (.int .i64 m.done)/\w = w':=by
 obtain ⟨bv,h1,h2,h3⟩:=h;have c0:w.cell? p = some bv:=ag (cs:=[_,_]) h1 0;have c1:w.cell? (aW p 1) = some (.bool m.bad):=ag (cs:=[_,_]) h1 1;obtain ⟨ba,bc,rfl⟩:=Aq h3;obtain ⟨D,hD⟩:=az (m.done);rw [hD];unfold oQ.done at hD;generalize m.b.length = L at *;clear h1 h2 h3
 cases hb:m.bad with
 | true =>
  rw [hb] at c1 hD;have hDH:=ae hD;clear hD hb;go_enter func97,ntmps97;go_wp2_with fail;go_ret;exact ⟨by rw [<-hDH.out];rfl,rfl⟩
 | false =>
  rw [hb] at c1 hD
  by_cases hl:0 < L
  ·have hlI:(0:Int) < (L:Int):=aP
   have hDH:=ae (show D = 2 by rw [<-hD];simp [hl]);clear hD hb hl;go_enter func97,ntmps97;go_wp2_with fail;go_ret;exact ⟨by rw [hDH.out];rfl,rfl⟩
  ·have hlI:¬ (0:Int) < (L:Int):=aP
   have hDH:=ae (show D = 0 by rw [<-hD];simp [hl]);clear hD hb hl;go_enter func97,ntmps97;go_wp2_with fail;go_ret;exact ⟨by rw [hDH.out];rfl,rfl⟩
end
def Ce:Nat->oQ->List Ar × oQ
 | 0,m=>([],m)
 | k + 1,m=>((Ce k m).1 ++ [⟨((Ce k m).2.num 8).1,((Ce k m).2.num 8).2.text.1⟩],((Ce k m).2.num 8).2.text.2)
def oQ.lines (m:oQ):List Ar × oQ:=Ce (m.count 256).1 (m.count 256).2
theorem oQ.ZE (m:oQ):m.text.2.b.length <= m.b.length:=by
 grind [oQ.text,oQ.EC,oQ.cZ]
theorem NG (k:Nat) (m:oQ):(Ce k m).2.b.length <= m.b.length/\(Ce k m).1.length = k:=by
 induction k with
 | zero=>exact ⟨Nat.le_refl _,rfl⟩
 | succ k ih =>
  grind [oQ.EC,Ce,oQ.ZE]
theorem oQ.IW (most:Nat) (m:oQ):(m.count most).2.b.length <= m.b.length/\(m.count most).1 <= most:=by
 have h1:=oQ.EC 8 m;unfold oQ.count;grind
theorem Bytes.AfI {l:List UInt8} (h:Bytes w o v l) (ho:∀ b,b < w.heap.size->(o b).1 = 0->(o' b).1 = 0):Bytes w o' v l:=by
 rcases h with h | ⟨b,off,cap,rfl,h1,h2,h3,h4,h5⟩
 ·exact .inl h
 ·exact .inr ⟨b,off,cap,rfl,h1,h2,bg,h4,h5⟩
theorem sW.AfI {cs:List Value} (h:sW w o cs ls) (ho:∀ b,b < w.heap.size->(o b).1 = 0->(o' b).1 = 0):sW w o' cs ls:=
 ⟨h.1,fun i x hx=>by
  obtain ⟨a,bv,b,c⟩:=h.2 i x hx;exact ⟨a,bv,b,c.AfI ho⟩⟩
def Gh (w:World) (o:Own) (base:Nat) (t:Nat × Nat) (v:Value) (ls:List Ar):Prop:=
 ∃ cs,w.ownsRow base 36 2 v ls.length cs/\(∀ g,v.ownBlock = some g->o g = t)/\sW w o cs ls/\∀ u ∈ cs,CV base u
theorem Gh.nil (w:World) (o:Own) (base:Nat) (t:Nat × Nat):Gh w o base t (.slice none 0 0) []:=⟨[],World.ownsRow_nil _ _ _ _,fun g hg=>by grind [Value.ownBlock],sW.nil w o,bu⟩
theorem Gh.step {T:Nat->Prop} (h:Gh w o base t v ls) (s:aj T w o w' o') (ht:¬ T t.1) (h0:¬ T 0):Gh w' o' base t v ls:=by
 obtain ⟨cs,h1,h2,h3,h4⟩:=h;exact ⟨cs,Ci h1 fun k hk=>s.block k (h1.lt k hk).2 bg,fun g hg=>by rw [s.own g (h1.lt g hg).2];grind,h3.step s h0,h4⟩
theorem Gh.form (h:Gh w o base t v ls):∃ a c,v = .slice a ls.length c:=by
 obtain ⟨cs,h1, -⟩:=h;exact BA h1
theorem Gh.lines (h:Gh w o base t v ls) (ho:∀ k,base <= k->(o' k).1 = 0):Lines w o' base v ls:=by
 obtain ⟨cs,h1,h2,h3,h4⟩:=h;have hf:CV base v:=CV.own h1 bu;refine ⟨cs, ?_,⟨h3.1,fun i x hx => ?_⟩,hf,h4⟩
 ·rcases h1.2 with ⟨rfl,h0⟩ | ⟨g,cap,cur,rfl,q1,q2,q3,q4,q5,q6⟩
  ·refine .inl ⟨bg,h0, ?_⟩;apply List.eq_nil_of_length_eq_zero;rw [h1.1,h0]
  ·refine .inr ⟨g,0,cap,rfl,q3,q4,ho g q1,au q2, ?_⟩;have:=BU (w:=w) (b:=g) (cs:=cur.toList) (E:=36) (fr:=(0,0)) aP 0 (ls.length * 2);grind
 ·obtain ⟨a,bv,b,c⟩:=h3.2 i x hx;exact ⟨a,bv,b,c.retag (h4 bv (List.mem_of_getElem? b)) ho⟩
theorem Gh.append {W:World} {l1 l2:List Ar} (h:Gh W o base (X,0) v l1) (hX:X ≠ 0) (hbase:base <= W.heap.size) {sb Apq:Nat} {cs2:List Value} (hr:W.rangeAt sb Apq cs2) (h2:sW W o cs2 l2) (hf:∀ u ∈ cs2,CV base u) (hpos:0 < l2.length) (hn:l1.length + l2.length <= 100000) :
  ∃ nv w' o',(Builtin.append_ #[32,32] 32 #[v, .slice (some (aW sb Apq)) l2.length c]).run prog W = .ok nv w'/\Gh w' o' base (X,0) nv (l1 ++ l2)/\aj (ak X) W o w' o'/\W.grownBy w' v.ownBlock/\(∀ k,o' k = o k \/ (W.heap.size <= k/\o' k = (X,0))):=by
 obtain ⟨cs,h1,ht,h3,h4⟩:=h;obtain ⟨g,cap,w',hrun,hown,hgrow,hat,hlt⟩:=DD (P:=prog) W 32 32 36 underlying32 TR rfl aP hbase v l1.length cs h1 sb Apq l2.length c cs2 (by rw [h2.1];omega) hr h2.one hpos aP aP;have hs:aj (ak X) W o w' (Ak o g (X,0)):=(aj.refl (ak X) W o).grown hgrow (fun k hk => .inl (by show (o k).1 = X;grind)) g (X,0) (by
  grind)
 have h0:¬ ak X 0:=fun h=>hX h.symm;refine ⟨_,w',_,hrun,⟨cs ++ cs2,bg,fun k hk => ?_,(h3.append h2).step hs h0,fun u hu => ?_⟩,hs,hgrow,fun k => ?_⟩
 grind [Value.ownBlock,Au]
 grind
 ·by_cases hkg:k = g
  ·subst hkg;rw [Au]
   grind
  grind [BI]
theorem TY (w:World) (e:Int) (bv:Value):(Instr.buildSlice 32 1 #[(0, .agg #[.int .u64 e,bv])]).run prog w = .ok (.slice w.heap.size 1 1) (w.alloc (.cells [.int .u64 e,bv].toArray 36)):=
 Dv w 32 36 [.int .u64 0, .slice none 0 0] (.agg #[.int .u64 e,bv]) [.int .u64 e,bv] underlying32 bf rfl bu bu rfl
theorem JP {Z p:Nat} {m:oQ} (h:Ep w o Z p m) (hZ:Z ≠ 0) (hX:X ≠ 0) (hXZ:X ≠ Z) (hm:m.b.length <= 1000000) :
  Calls prog 133 #[.pointer p] w (XL (ak Z) w o fun v w' o'=>Gh w' o' w.heap.size (X,0) v m.lines.1/\Ep w' o' Z p m.lines.2):=by
 have hc:=ae (Je h hZ hm 256 aP);have hcl:=oQ.IW 256 m;unfold oQ.lines;generalize (m.count 256).1 = N at *;generalize (m.count 256).2 = mc at *;have hmc:mc.b.length <= 1000000:=aP
 have hNI:(0:Int) <= (N:Int)/\(N:Int) <= 256:=aP
 clear h hcl hm;go_enter func133,ntmps133;go_wp2_with fail;refine hc.out.mono ?_;rintro e w1 ⟨v1,o1,rfl,hs,rfl,hr⟩;have hcH:=ae hmc;clear hc hmc;go_wp2_with fail
 go_loopw [3,6] (fun out i wr=>∃ (k:Nat) (oj:Own),k <= N/\i = .int .i64 k/\Gh wr oj w.heap.size (X,0) out (Ce k mc).1/\Ep wr oj Z p (Ce k mc).2/\aj (ak Z) w o wr oj) (fun _ i _=>N - (intOf i).toNat)
 case atStart=>exact ⟨0,o1,aP,rfl,Gh.nil _ _ _ _,hr,hs⟩
 case round =>
  clear hr hs;obtain ⟨k,oj,hk,rfl,hrow,hrd,hst⟩:=hrel;obtain ⟨hlk,hln⟩:=NG k mc
  by_cases hlt:k < N
  ·have hu:=ae (EJ hrd hZ (by have:=hcH.out;omega));have hlm:((Ce k mc).2.num 8).2.b.length <= 1000000:=by have:=oQ.EC 8 (Ce k mc).2;have:=hcH.out;omega
   have hsn:Ce (k + 1) mc = ((Ce k mc).1 ++ [⟨((Ce k mc).2.num 8).1,((Ce k mc).2.num 8).2.text.1⟩],((Ce k mc).2.num 8).2.text.2):=rfl;have uZ:=ae hsn;have pM:=ae hrow;have Azr:=ae hlm;have Akk:=ae hln;obtain ⟨E,hE⟩:=az (((Ce k mc).2.num 8).1);rw [hE] at hu uZ;generalize ((Ce k mc).2.num 8).2 = m8 at *;obtain ⟨ra,rc,rfl⟩:=hrow.form;rw [hln] at pM ⊢;clear hrd hsn hlm hrow hln hlk hE;go_wp2_with fail;refine hu.out.mono ?_;rintro e w2 ⟨v2,o2,rfl,hs2,rfl,hr2⟩;have hst2:=hst.trans hs2;have hrow2:=pM.out.step hs2 (fun h=>hXZ h) (fun h=>hZ h.symm);have ht:=ae (Rq hr2 hZ Azr.out);clear hu hr2 hs2 hst;go_wp2_with fail;refine ht.out.mono ?_;rintro e w3 ⟨v3,o3,rfl,hs3,⟨hb3,hf3⟩,hr3⟩;have hst3:=hst2.trans hs3;have hrow3:=hrow2.step hs3 (fun h=>hXZ h) (fun h=>hZ h.symm);have hbs:=ae (TY w3 (E.toNat:Int) v3);have hsa:=(aj.refl ai w3 o3).alloc (.cells [(E:aV),v3].toArray 36) (0,0);have hnb:(w3.alloc (.cells [(E:aV),v3].toArray 36)).heap[w3.heap.size]? = some (.cells [(E:aV),v3].toArray 36 (0,0)):=heap_alloc_new w3 _;obtain ⟨w4,hw4⟩:=az (w3.alloc (.cells [(E:aV),v3].toArray 36));rw [hw4] at hbs hsa hnb;have hsz:w.heap.size <= w4.heap.size:=Nat.le_trans hst3.size hsa.size;obtain ⟨nv,w5,o5,hrun,tK,hs5,hgr,ho5⟩:=(hrow3.step hsa id id).append hX hsz (AV hnb) (sW.single ⟨E,m8.text.1⟩ (hb3.step hsa id)) (fun u hu=>by
    simp only [List.mem_cons,List.not_mem_nil,or_false] at hu;rcases hu with rfl | rfl
    ·exact CV.int _ _ _
    ·exact hf3.low hst2.size) bu (by rw [Akk.out,List.length_singleton];omega) (c:=1)
   simp only [List.length_singleton] at hrun;have Aax:=ae hrun;have AlC:=(hr3.step hsa id id).step hs5 (fun h=>hXZ h.symm) (fun h=>hX h.symm);have hst5:aj (ak Z) w o w5 o5:=by
    have pX:=hst3.trans (hsa.only Z);refine ⟨hgr.os.trans pX.os,hgr.tape.trans pX.tape,hgr.output.trans pX.output,Nat.le_trans pX.size hgr.size,fun k hk => ?_,fun k hk hT => ?_⟩
    ·rcases ho5 k with h | ⟨h,_⟩
     ·rw [h];exact pX.own k hk
     omega
    ·rw [hgr.block k aP ?_]
     ·exact pX.block k hk hT
     ·intro hx;obtain ⟨cs,q1, -⟩:=hrow3;have:=(q1.lt k hx.symm).1;omega
   obtain ⟨na,nc,rfl⟩:=tK.form;have hF:=ae (show Gh w5 o5 w.heap.size (X,0) _ (Ce (k + 1) mc).1/\Ep w5 o5 Z p (Ce (k + 1) mc).2 from by rw [uZ.out];exact ⟨tK,AlC⟩);have hl1:((Ce k mc).1 ++ ([⟨E,m8.text.1⟩]:List Ar)).length = k + 1:=by rw [List.length_append,Akk.out];rfl
   rw [hl1] at Aax hF;obtain ⟨ba,bc,rfl⟩:=Aq hb3;clear hrun tK AlC hs5 hgr ho5 hsa hnb hw4 hrow3 hrow2 hst2 hst3 hs3 hb3 hf3 hr3 ht hsz hl1
   go_wp2_with (first
    | ((with_reducible apply BO #[(0, .agg #[.int .u64 (E.toNat:Int), .slice ba m8.text.1.length bc])] rfl);exact hbs.out;simp only [Act.put,lsa,lsz,lss])
    | ((with_reducible apply Bl);exact Aax.out;simp only [Act.put,lsa,lsz,lss]))
   go_roundw
   case rel=>exact ⟨k + 1,o5,aP,by rfl,hF.out.1,hF.out.2,hst5⟩
   case measure=>simp [intOf];omega
  ·obtain rfl:N = k:=aP
   obtain ⟨ra,rc,rfl⟩:=hrow.form;rw [hln] at hrow ⊢;go_wp2_with fail;go_ret;exact ⟨_,oj,rfl,hst,hrow,hrd⟩
def AX.Ez (k:AX) (m:oQ):AX × oQ:=({ k with promised:=(m.num 8).1 },(m.num 8).2)
def AX.FW (_k:AX) (m:oQ):AX × oQ:=(⟨(m.num 8).1,(m.num 8).1,(m.num 8).2.lines.1⟩,(m.num 8).2.lines.2)
def AX.Fb (k:AX) (m:oQ):AX × oQ:=({ k with lines:=k.lines ++ m.lines.1 },m.lines.2)
def Ny (w:World) (o:Own) (K X kb base:Nat) (k:AX):Prop:=
 ∃ lv,w.heap[kb]? = some (.cells #[(k.promised:aV), (k.current:aV),lv] 55 (0,0))/\o kb = (K,0)/\Gh w o base (X,0) lv k.lines
theorem Ny.step {T:Nat->Prop} {K kb:Nat} (h:Ny w o K X kb base k) (s:aj T w o w' o') (hK:¬ T K) (hX:¬ T X) (h0:¬ T 0):Ny w' o' K X kb base k:=by
 obtain ⟨lv,h1,h2,h3⟩:=h;have hl:=au h1;exact ⟨lv,by rw [s.block kb hl bg];omega,by rw [s.own kb hl];omega,h3.step s hX h0⟩
structure Tg (K X Z:Nat):Prop where
 k0:K ≠ 0
 x0:X ≠ 0
 z0:Z ≠ 0
 kx:K ≠ X
 kz:K ≠ Z
 xz:X ≠ Z
def In3 (K X Z:Nat):Nat->Prop:=fun t=>t = K \/ t = X \/ t = Z
theorem oQ.KQ (m:oQ):m.lines.2.b.length <= m.b.length/\m.lines.1.length <= 256:=by
 grind [oQ.lines,oQ.IW,NG]
section
variable {w:World} {o:Own} {K X Z kb p base:Nat} {k:AX} {m:oQ}
theorem SS (ht:Tg K X Z) (h:Ny w o K X kb base k) (hr:Ep w o Z p m) (hm:m.b.length <= 1000000) :
  Calls prog 130 #[.pointer kb, .pointer p] w (XL (In3 K X Z) w o fun v w' o'=>v = .tuple #[]/\Ny w' o' K X kb base (k.Ez m).1/\Ep w' o' Z p (k.Ez m).2):=by
 have hu:=ae (EJ hr ht.z0 hm);have hH:=ae h;have htH:=ae ht;unfold AX.Ez;generalize (m.num 8).1 = E at *;generalize (m.num 8).2 = m8 at *;go_enter func130,ntmps130;go_wp2_with fail;refine hu.out.mono ?_;rintro e w1 ⟨v1,o1,rfl,hs,rfl,hr1⟩;have ht:=htH.out;obtain ⟨lv,h1,h2,h3⟩:=hH.out.step hs (fun h=>ht.kz h) (fun h=>ht.xz h) (fun h=>ht.z0 h.symm);have c0:w1.cell? kb = some (k.promised:aV):=ag (cs:=[_,_,_]) h1 0;have f0:w1.frozen? kb = false:=Ap (cs:=[_,_,_]) h1 0;have hset:=(aj.refl (ak K) w1 o1).setCell (a:=kb) (E:aV) (.inl (by show (o1 kb).1 = K;grind));have hF:=ae (show Ny (w1.setCell kb (E:aV)) o1 K X kb base { k with promised:=E }/\Ep (w1.setCell kb (E:aV)) o1 Z p m8 from
  ⟨⟨lv,Ai (cs:=[_,_,_]) (i:=0) _ h1,h2,h3.step hset (fun h=>ht.kx h.symm) (fun h=>ht.k0 h.symm)⟩,hr1.step hset (fun h=>ht.kz h.symm) (fun h=>ht.k0 h.symm)⟩)
 have hst:=ae ((hs.mono (T':=In3 K X Z) (fun _ h => .inr (.inr h))).trans (hset.mono (fun _ h => .inl h)));go_wp2_with fail
 first | go_end0 | refine bodyPost_ret (results_none rfl _ _ _) rfl ?_
 exact ⟨_,o1,rfl,hst.out,rfl,hF.out.1,hF.out.2⟩
theorem AiI (ht:Tg K X Z) (h:Ny w o K X kb base k) (hr:Ep w o Z p m) (hm:m.b.length <= 1000000) (hbase:base <= w.heap.size) :
  Calls prog 131 #[.pointer kb, .pointer p] w (XL (In3 K X Z) w o fun v w' o'=>v = .tuple #[]/\Ny w' o' K X kb base (k.FW m).1/\Ep w' o' Z p (k.FW m).2):=by
 have hu:=ae (EJ hr ht.z0 hm);have hH:=ae h;have htH:=ae ht;have hm8:=oQ.EC 8 m;unfold AX.FW;generalize (m.num 8).1 = E at *;generalize (m.num 8).2 = m8 at *;have hmH:=ae (show m8.b.length <= 1000000 by omega);clear h ht hr hm8;go_enter func131,ntmps131;go_wp2_with fail;refine hu.out.mono ?_;rintro e w1 ⟨v1,o1,rfl,hs,rfl,hr1⟩;have ht:=htH.out;obtain ⟨lv,h1,h2,h3⟩:=hH.out.step hs (fun h=>ht.kz h) (fun h=>ht.xz h) (fun h=>ht.z0 h.symm);have c0:w1.cell? kb = some (k.promised:aV):=ag (cs:=[_,_,_]) h1 0;have f0:w1.frozen? kb = false:=Ap (cs:=[_,_,_]) h1 0;have hset:=(aj.refl (ak K) w1 o1).setCell (a:=kb) (E:aV) (.inl (by show (o1 kb).1 = K;grind));have h1':=Ai (cs:=[_,_,_]) (i:=0) (E:aV) h1;have hr2:=hr1.step hset (fun h=>ht.kz h.symm) (fun h=>ht.k0 h.symm);have hst:=ae ((hs.mono (T':=In3 K X Z) (fun _ h => .inr (.inr h))).trans (hset.mono (fun _ h => .inl h)));obtain ⟨w2,hw2⟩:=az (w1.setCell kb (E:aV));rw [hw2] at h1' hr2 hst;have AiU:=ae hw2;have hz2:w.heap.size <= w2.heap.size:=hst.out.size;have hrl:=ae (fun (W:World) (O:Own) (st:aj ai w2 o1 W O)=>JP (X:=X) (hr2.step st id id) ht.z0 ht.x0 ht.xz hmH.out);have h2H:=ae h2;have h1H:=ae h1';have hS:=ae (show w2.cell? kb = some (E:aV) from ag (cs:=[_,_,_]) h1' 0);clear h1 h2 h3 hset hs hr1 hr2 hw2 hu h1' ht hH;go_wp2_with fail;rw [AiU.out];refine Aa (fun w'=>w'.cell? kb = some (E:aV)) (fun _=>true) bf hS.out (fun hHeld => ?_);refine tq 0 (h:=tq 1 (h:=tq 2 (h:=tq 3 (h:=tq 4 (h:=tq 5 (h:=tq 6 (h:=tO 7 (h:=?_))))))));go_wp2_with fail;have hdr:=(aj.refl ai w2 o1).drew;refine (hrl.out _ _ hdr).mono ?_;rintro e w3 ⟨v3,o3,rfl,hs3,hrow3,hr3⟩;have hs3:aj (ak Z) w2 o1 w3 o3:=(hdr.only Z).trans hs3;have ht:=htH.out;have h13:=(hs3.block kb (au h1H.out) (by rw [h2H.out];exact fun h=>ht.kz h)).trans h1H.out;have h23:=(hs3.own kb (au h1H.out)).trans h2H.out;obtain ⟨ra,rc,rfl⟩:=hrow3.form;have hS3:w3.cell? kb = some (E:aV):=ag (cs:=[_,_,_]) h13 0;have f31:w3.frozen? (aW kb 1) = false:=Ap (cs:=[_,_,_]) h13 1;have f32:w3.frozen? (aW kb 2) = false:=Ap (cs:=[_,_,_]) h13 2;have c31:w3.cell? (aW kb 1) = some (k.current:aV):=ag (cs:=[_,_,_]) h13 1;have c32:w3.cell? (aW kb 2) = some lv:=ag (cs:=[_,_,_]) h13 2;have g1:=(aj.refl (ak K) w3 o3).setCell (a:=(aW kb 1)) (E:aV) (.inl (by show (o3 kb).1 = K;grind));have g2:=g1.setCell (a:=(aW kb 2)) (.slice ra m8.lines.1.length rc) (.inl (by show (o3 kb).1 = K;grind));have k1:=Ai (cs:=[_,_,_]) (i:=2) (.slice ra m8.lines.1.length rc) (Ai (cs:=[_,_,_]) (i:=1) (E:aV) h13);have hlow:Gh w3 o3 base (X,0) (.slice ra m8.lines.1.length rc) m8.lines.1:=by
  obtain ⟨cs,q1,q2,q3,q4⟩:=hrow3;have hb:base <= (w2.drew).heap.size:=Nat.le_trans hbase hz2;exact ⟨cs,JX q1 hb,q2,q3,fun u hu=>(q4 u hu).low hb⟩
 have hF:=ae (show Ny ((w3.setCell (aW kb 1) (E:aV)).setCell (aW kb 2) (.slice ra m8.lines.1.length rc)) o3 K X kb base ⟨E,E,m8.lines.1⟩/\Ep ((w3.setCell (aW kb 1) (E:aV)).setCell (aW kb 2) (.slice ra m8.lines.1.length rc)) o3 Z p m8.lines.2 from
  ⟨⟨_,k1,h23,hlow.step g2 (fun h=>ht.kx h.symm) (fun h=>ht.k0 h.symm)⟩,hr3.step g2 (fun h=>ht.kz h.symm) (fun h=>ht.k0 h.symm)⟩)
 have AaM:=ae ((hst.out.trans (hs3.mono (fun _ h => .inr (.inr h)))).trans (g2.mono (fun _ h => .inl h)));clear hs3 hrow3 hr3 g1 g2 k1 hlow ht hrl h13 hHeld;go_wp2_with fail;refine ⟨bg, ?_⟩;refine tq 8 (h:=tq 9 (h:=tO 10 (h:=?_)));have AgF:(w3.setCell (aW kb 1) (E:aV)).cell? kb = some (E:aV):=by rw [World.cell?_setCell_other _ _ _ _ bu];omega
 go_wp2_with fail;refine ⟨bg, ?_⟩;refine tq 11 (h:=tq 12 (h:=tO 13 (h:=?_)));have Baq:((w3.setCell (aW kb 1) (E:aV)).setCell (aW kb 2) (.slice ra m8.lines.1.length rc)).cell? kb = some (E:aV):=by rw [World.cell?_setCell_other _ _ _ _ bu];omega
 go_wp2_with fail;refine ⟨bg, ?_⟩;refine tD (h:=?_);go_wp2_with fail
 first | go_end0 | refine bodyPost_ret (results_none rfl _ _ _) rfl ?_
 exact ⟨_,o3,rfl,AaM.out,rfl,hF.out.1,hF.out.2⟩
theorem Gh.source {w:World} {o:Own} {base:Nat} (h:Gh w o base t v ls) (h0:0 < ls.length) :
  ∃ g:Nat,∃ c cs,v = .slice g ls.length c/\w.rangeAt g 0 cs/\sW w o cs ls/\(∀ u ∈ cs,CV base u):=by
 obtain ⟨cs,h1,h2,h3,h4⟩:=h
 rcases h1.2 with ⟨_,h⟩ | ⟨g,cap,cur,rfl,q1,q2,q3,q4,q5,q6⟩
 omega
 ·have:=BU (w:=w) (b:=g) (cs:=cur.toList) (E:=36) (fr:=(0,0)) aP 0 (ls.length * 2);grind
theorem Gh.iK {w:World} {o:Own} {base:Nat} {a:Option Addr} (h:Gh w o base t (.slice a n c) ls):n <= c/\n = ls.length:=by
 obtain ⟨cs,h1,h2,h3,h4⟩:=h
 rcases h1.2 with ⟨h,h0⟩ | ⟨g,cap,cur,h,q1,q2,q3,q4,q5,q6⟩
 grind
 grind
theorem Gh.Zh {W:World} {o:Own} {base b2 X:Nat} {t2:Nat × Nat} {v2:Value} {l1 l2:List Ar} (h:Gh W o base (X,0) v l1) (hX:X ≠ 0) (hbase:base <= W.heap.size) (h2:Gh W o b2 t2 v2 l2) (hb2:base <= b2) (hn:l1.length + l2.length <= 100000) :
  ∃ nv w' o',(Builtin.append_ #[32,32] 32 #[v,v2]).run prog W = .ok nv w'/\Gh w' o' base (X,0) nv (l1 ++ l2)/\aj (ak X) W o w' o':=by
 by_cases h0:l2.length = 0
 ·have e:=List.eq_nil_of_length_eq_zero h0;subst e;obtain ⟨a,c,rfl⟩:=h.form;obtain ⟨a2,c2,rfl⟩:=h2.form;have:=h.iK.1;refine ⟨_,W,o,CB (P:=prog) W 32 32 36 2 underlying32 bf a a2 l1.length c c2 this aP,bg,aj.refl _ _ _⟩
 ·obtain ⟨g,c,cs,rfl,q1,q2,q3⟩:=h2.source aP;obtain ⟨nv,w',o',a1,a2,a3, -, -⟩:=h.append hX hbase q1 q2 (fun u hu=>(q3 u hu).low hb2) aP hn (c:=c);grind
theorem UO (ht:Tg K X Z) (h:Ny w o K X kb base k) (hr:Ep w o Z p m) (hm:m.b.length <= 1000000) (hbase:base <= w.heap.size) (hk:k.lines.length <= 90000) :
  Calls prog 132 #[.pointer kb, .pointer p] w (XL (In3 K X Z) w o fun v w' o'=>v = .tuple #[]/\Ny w' o' K X kb base (k.Fb m).1/\Ep w' o' Z p (k.Fb m).2):=by
 obtain ⟨lv,h1,h2,h3⟩:=h;obtain ⟨Y,hY⟩:∃ Y,Y = K + X + Z + 1:=⟨_,rfl⟩;have hY0:Y ≠ 0:=aP
 have hYZ:Y ≠ Z:=aP
 have hrl:=ae (fun (W:World) (O:Own) (st:aj ai w o W O)=>JP (X:=Y) (hr.step st id id) ht.z0 hY0 hYZ hm);have hll:=m.KQ.2;have c2:w.cell? (aW kb 2) = some lv:=ag (cs:=[_,_,_]) h1 2;have htH:=ae ht;have hH:=aa3 h1 h2 h3;have hkb:=au h1;obtain ⟨ka,kc,rfl⟩:=h3.form;unfold AX.Fb;generalize m.lines.1 = LL at *;generalize m.lines.2 = mL at *;clear h1 h2 h3 hr ht;go_enter func132,ntmps132;go_wp2_with fail;refine Aa (fun w'=>w'.cell? (aW kb 2) = some (.slice ka k.lines.length kc)) (fun i=>decide (i < 10)) bf c2 (fun hHeld => ?_);refine tq 0 (h:=tq 1 (h:=tq 2 (h:=tq 3 (h:=tq 4 (h:=tq 5 (h:=tO 6 (h:=?_)))))));go_wp2_with fail;have hdr:=(aj.refl ai w o).drew;refine (hrl.out _ _ hdr).mono ?_;rintro e w3 ⟨v3,o3,rfl,hs3,hrow3,hr3⟩;have hs3:aj (ak Z) w o w3 o3:=(hdr.only Z).trans hs3;have ht:=htH.out;obtain ⟨h1,h2,h3⟩:=hH.out;have h13:=(hs3.block kb hkb (by rw [h2];exact fun h=>ht.kz h)).trans h1;have h23:=(hs3.own kb hkb).trans h2;have h33:=h3.step hs3 (fun h=>ht.xz h) (fun h=>ht.z0 h.symm);have hS3:w3.cell? (aW kb 2) = some (.slice ka k.lines.length kc):=ag (cs:=[_,_,_]) h13 2;have hz3:base <= w3.heap.size:=Nat.le_trans hbase hs3.size;obtain ⟨nv,w4,o4,hrun,hrow4,hs4⟩:=h33.Zh ht.x0 hz3 hrow3 (show base <= (w.drew).heap.size from hbase) aP;have Aax:=ae hrun;have h14:=(hs4.block kb (au h13) (by rw [h23];exact fun h=>ht.kx h)).trans h13;have h24:=(hs4.own kb (au h13)).trans h23;have hr4:=hr3.step hs4 (fun h=>ht.xz h.symm) (fun h=>ht.x0 h.symm);have hS4:w4.cell? (aW kb 2) = some (.slice ka k.lines.length kc):=ag (cs:=[_,_,_]) h14 2;have f4:w4.frozen? (aW kb 2) = false:=Ap (cs:=[_,_,_]) h14 2;obtain ⟨ra,rc,rfl⟩:=hrow3.form;obtain ⟨na,nc,rfl⟩:=hrow4.form;have g2:=(aj.refl (ak K) w4 o4).setCell (a:=(aW kb 2)) (.slice na (k.lines ++ LL).length nc) (.inl (by show (o4 kb).1 = K;grind));have k1:=Ai (cs:=[_,_,_]) (i:=2) (.slice na (k.lines ++ LL).length nc) h14;have hF:=ae (show Ny (w4.setCell (aW kb 2) (.slice na (k.lines ++ LL).length nc)) o4 K X kb base { k with lines:=k.lines ++ LL }/\Ep (w4.setCell (aW kb 2) (.slice na (k.lines ++ LL).length nc)) o4 Z p mL from
  ⟨⟨_,k1,h24,hrow4.step g2 (fun h=>ht.kx h.symm) (fun h=>ht.k0 h.symm)⟩,hr4.step g2 (fun h=>ht.kz h.symm) (fun h=>ht.k0 h.symm)⟩)
 have AaM:=ae ((((hs3.mono (T':=In3 K X Z) (fun _ h => .inr (.inr h)))).trans (hs4.mono (fun _ h => .inr (.inl h)))).trans (g2.mono (fun _ h => .inl h)));generalize (k.lines ++ LL).length = NL at *;clear hs3 hrow3 hr3 hs4 hrow4 g2 k1 ht hrl h13 h14 h33 hr4 h1 h2 h3 hHeld hrun hdr;go_wp2_with fail;refine ⟨bg, ?_⟩;refine tO 7 (h:=?_);refine Bl Aax.out ?_;refine wpList_nil ?_;simp only [Act.put,lsa,lsz,lss];refine ⟨bg, ?_⟩;refine tO 8 (h:=?_);go_wp2_with fail;refine ⟨bg, ?_⟩;refine tq 9 (h:=tO 10 (h:=?_));go_wp2_with fail;refine ⟨bu, ?_⟩;refine tD (h:=?_);clear hS4 hS3 Aax;first | go_end0 | refine bodyPost_ret (results_none rfl _ _ _) rfl ?_
 exact ⟨_,o4,rfl,AaM.out,rfl,hF.out.1,hF.out.2⟩
theorem Fq (w:World):Calls prog 76 #[.bool true] w fun e w'=>e = .returned (.tuple #[])/\w = w':=by
 go_wp2
 first | go_end0 | refine bodyPost_ret (results_none rfl _ _ _) rfl ?_
 simp
end
def Fh (k:AX) (b:List UInt8):Option AX:=
 let t:=(oQ.mk b false).num 1
 if t.1.toNat % 256 = 2 then (if (k.Ez t.2).2.done = 0 then some (k.Ez t.2).1 else none)
 else if t.1.toNat % 256 = 3 then (if (k.FW t.2).2.done = 0 then some (k.FW t.2).1 else none)
 else if t.1.toNat % 256 = 4 then (if (k.Fb t.2).2.done = 0 then some (k.Fb t.2).1 else none)
 else none
def FV:AX->List (List UInt8)->Option AX
 | k,[]=>some k
 | k,b :: r=>match Fh k b with
  | some k'=>FV k' r
  | none=>none
def EF (b:List UInt8):Option (BitVec 64 × AX):=
 let t:=(oQ.mk b false).num 1
 let a:=t.2.num 8
 let p:=a.2.num 8
 let c:=p.2.num 8
 let l:=c.2.lines
 if t.1.toNat % 256 = 1/\l.2.done = 0/\0 < a.1.toNat then some (a.1,⟨p.1,c.1,l.1⟩) else none
def DK:List (List UInt8)->Option (BitVec 64 × AX)
 | []=>some (0,⟨0,0,[]⟩)
 | b :: r=>match EF b with
  | some (a,k)=>(FV k r).map fun k'=>(a,k')
  | none=>none
def FB:Obj := .map #[⟨.int .u8 2, .func (.func 130) #[] #[],0⟩,⟨.int .u8 3, .func (.func 131) #[] #[],1⟩,⟨.int .u8 4, .func (.func 132) #[] #[],2⟩] 3
section
variable {P:Program} {ops:Array Oper} {Q:Exit->Act->World->Prop} {rest:List Oper} {d:Option Nat} {ty:TypeId} {ps:String} {af:Array _} {a:Act} {w w':World} {v:Value}
theorem Ji {m k x:Operand} {t:TypeId} (hr:(Instr.mapUpdate t (a.eval m) (a.eval k) (a.eval x)).run P w = .ok () w') (h:wpList P ops Q rest (a.put d undef) w') :
  wpList P ops Q ({ dst:=d,op := .insert t m k x,type:=ty,pos:=ps,after:=af,guard:=none } :: rest) a w:=
 wpList_plain rfl fun _ hK=>by
  unfold Oper.wp execOp;simp [hr,Result.andThen_ok];exact hK _ _ h
theorem Iq {t:TypeId} (hr:(Instr.makeMap t none).run P w = .ok v w') (h:wpList P ops Q rest (a.put d v) w') :
  wpList P ops Q ({ dst:=d,op := .makeMap t none,type:=ty,pos:=ps,after:=af,guard:=none } :: rest) a w:=
 wpList_plain rfl fun _ hK=>by
  unfold Oper.wp execOp;simp [Option.map_none,hr,Result.andThen_ok];exact hK _ _ h
theorem DN {m k:Operand} {t:TypeId} {ok:Bool} (hr:(Instr.lookup t (a.eval m) (a.eval k) ok).run P w = .ok v w') (h:wpList P ops Q rest (a.put d v) w') :
  wpList P ops Q ({ dst:=d,op := .lookup t m k ok,type:=ty,pos:=ps,after:=af,guard:=none } :: rest) a w:=
 wpList_plain rfl fun _ hK=>by
  unfold Oper.wp execOp;simp [hr,Result.andThen_ok];exact hK _ _ h
end
theorem OC (w:World) (o1 o2:Obj):({ (w.alloc o1) with heap:=(w.alloc o1).heap.setIfInBounds w.heap.size o2 }:World) = w.alloc o2:=by
 cases w
 simp [World.alloc];congr 1;grind
theorem SN (w:World):(Instr.makeMap 188 none).run prog w = .ok (.map (some w.heap.size)) (w.alloc (.map #[] 0)):=by
 rfl
theorem Lr (w:World) (es:Array MapEntry) (clock:Nat) (k:Int) (v:Value) (hf:Instr.findNow (.int .u8) (.int .u8 k) es.toList 0 = some none) :
  (Instr.mapUpdate 195 (.map (some w.heap.size)) (.int .u8 k) v).run prog (w.alloc (.map es clock)) = .ok () (w.alloc (.map (es.push ⟨.int .u8 k,v,clock⟩) (clock + 1))):=by
 have hb:(w.alloc (.map es clock)).heap[w.heap.size]? = some (.map es clock):=heap_alloc_new w _;have hck:(Instr.checkKey false 10000 5 (.int .u8 k)).run prog (w.alloc (.map es clock)) = .ok () (w.alloc (.map es clock)):=by
  rfl
 have hfk:(Instr.findKey 5 (.int .u8 k) es.toList).run prog (w.alloc (.map es clock)) = .ok none (w.alloc (.map es clock)):=by
  simp [Instr.findKey,run_underlying underlying5,hf]
 simp only [Instr.mapUpdate,Sem.run_bind,run_underlying underlying195,Result.andThen_ok,MapKept.run_getObj_map hb,hck,hfk,MapKept.run_setObj_map _ hb];rw [OC]
theorem JO {b:Nat} (hb:w.heap[b]? = some FB):(∀ (f:Nat),(f = 2 \/ f = 3 \/ f = 4)->(Instr.lookup 195 (.map (some b)) (.int .u8 (f:Int)) true).run prog w = .ok (.tuple #[.func (.func (f + 128)) #[] #[], .bool true]) w):=by
 intro f hf;have hck:∀ k:Int,(Instr.checkKey false 10000 5 (.int .u8 k)).run prog w = .ok () w:=fun k=>by
  rfl
 rcases hf with rfl | rfl | rfl
 all_goals
  simp [Instr.lookup,Sem.run_bind,run_underlying underlying195,Result.andThen_ok,MapKept.run_getObj_map hb,Instr.findKey,run_underlying underlying5];simp [Instr.findNow,Instr.sameNow,hck]
theorem JC {P:Program} {fn:Func} {p u:Tmp} {ty:TypeId} (h:fn.results = #[.tmp u, .cell p ty]) (tmps:Array Value) (w:World) (g:Nat) (t:TypeId) (cs:Array Value) (fr:Nat × Nat) (d:TypeDesc)
  (hp:tmps.getD p undef = .pointer g) (hg:w.heap[g]? = some (.cells cs t fr))
  (hu:P.underlying ty = some d) (hd:(match d with | .struct _ | .array _ _=>true | _=>false) = true) (hi:(P.info? ty).map (·.size) = some cs.size) :
  (results fn tmps).run P w = .ok (.tuple #[tmps.getD u undef, .agg cs]) w:=by
 rw [Array.getD_eq_getD_getElem?] at hp;unfold results;rw [h];simp [hp,asAddr,run_loadVar_row w g t ty cs fr d hg hu hd hi]
theorem Oo {r:List (List UInt8)} {kf:AX} (h:FV k (b :: r) = some kf):∃ k',Fh k b = some k'/\FV k' r = some kf:=by
 unfold FV at h
 grind
theorem Uw (w:World) (o:Own) (a:Option Addr) (c:Nat):Calls prog 77 #[.slice a 0 c] w (XL ai w o fun r w' o'=>∃ lv,r = .tuple #[.int .u64 0,Dy 0 0 lv]/\Lines w' o' w.heap.size lv []/\o' = ext w o):=by
 have s1:=(aj.refl ai w o).alloc (.cells #[.int .u64 0, .int .u64 0, .slice none 0 0] 55) (0,0);have b1:(w.alloc (.cells #[.int .u64 0, .int .u64 0, .slice none 0 0] 55)).heap[w.heap.size]? = some (.cells [.int .u64 0, .int .u64 0, .slice none 0 0].toArray 55 (0,0)):=heap_alloc_new w _;have hal:=ae (AB (P:=prog) w 55 _ LX);obtain ⟨hso,hsb⟩:=Ba (P:=prog) (ty:=55) (vs:=[.int .u64 0, .int .u64 0, .slice none 0 0]) b1 rfl bf rfl;have Aaz:=ae hso;have AaM:=s1.setCells w.heap.size 0 [.int .u64 0, .int .u64 0, .slice none 0 0] bu;clear hso s1 b1;go_enter func77,ntmps77
 go_wp2_with (first
  | ((with_reducible apply AU);exact hal.out;simp only [Act.put,lsa,lsz,lss])
  | ((with_reducible apply AC);exact Aaz.out;simp [Act.put]))
 refine bodyPost_ret (JC rfl _ _ w.heap.size 55 _ (0,0) _ rfl hsb underlying55 rfl Ij) rfl ?_;exact ⟨_,ext w o,rfl,AaM.Me _ (fun k hk=>if_pos hk),_,rfl,Lines.nil _ _ _,rfl⟩
theorem QJ (h:EF b = some (age,k)) (hb:b.length <= 1000000) :
  ∃ T m1 m2 P m3 C m4 L m5,(oQ.mk b false).num 1 = (T,m1)/\m1.num 8 = (age,m2)/\m2.num 8 = (P,m3)/\m3.num 8 = (C,m4)/\m4.lines = (L,m5)/\T.toNat % 256 = 1/\m5.done = 0/\0 < age.toNat/\k = ⟨P,C,L⟩ /\
   m1.b.length <= 1000000/\m2.b.length <= 1000000/\m3.b.length <= 1000000/\m4.b.length <= 1000000/\L.length <= 256:=by
 unfold EF at h;simp only at h;have l1:=oQ.EC 1 (oQ.mk b false);generalize h1:(oQ.mk b false).num 1 = t at *;obtain ⟨T,m1⟩:=t;have l2:=oQ.EC 8 m1;simp only at h l1;generalize h2:m1.num 8 = t at *;obtain ⟨A,m2⟩:=t;have l3:=oQ.EC 8 m2;simp only at h l2;generalize h3:m2.num 8 = t at *;obtain ⟨P,m3⟩:=t;have l4:=oQ.EC 8 m3;simp only at h l3;generalize h4:m3.num 8 = t at *;obtain ⟨C,m4⟩:=t;have l5:=oQ.KQ m4;simp only at h l4;generalize h5:m4.lines = t at *;obtain ⟨L,m5⟩:=t;simp only at h l5;split at h
 grind
 grind
theorem Ol {k':AX} (h:Fh k b = some k') (hb:b.length <= 1000000) :
  ∃ T m1,(oQ.mk b false).num 1 = (T,m1)/\m1.b.length <= 1000000/\((T.toNat % 256 = 2/\(k.Ez m1).2.done = 0/\k' = (k.Ez m1).1) \/ (T.toNat % 256 = 3/\(k.FW m1).2.done = 0/\k' = (k.FW m1).1) \/ (T.toNat % 256 = 4/\(k.Fb m1).2.done = 0/\k' = (k.Fb m1).1)):=by
 unfold Fh at h;have l1:=oQ.EC 1 (oQ.mk b false);grind
theorem SY {k':AX} (h:Fh k b = some k') (hb:b.length <= 1000000):k'.lines.length <= k.lines.length + 256:=by
 obtain ⟨T,m1, -, -,h⟩:=Ol h hb
 rcases h with ⟨-, -,rfl⟩ | ⟨-, -,rfl⟩ | ⟨-, -,rfl⟩
 ·unfold AX.Ez;simp
 ·unfold AX.FW;have:=(m1.num 8).2.KQ.2;grind
 ·unfold AX.Fb;have:=m1.KQ.2;grind
theorem aj.still {T:Nat->Prop} (h:aj T w o w' o') (hT:∀ k,k < w.heap.size->¬ T (o k).1):aj ai w o w' o':=
 ⟨h.os,h.tape,h.output,h.size,h.own,fun k hk _=>h.block k hk (hT k hk)⟩
theorem Yt {b off:Nat} {vs:List Value} (h:sH w o (.slice (some (aW b off)) n c) n vs) (hl:vs.length = n) (h1:1 <= n) :
  ∃ a' c',(Instr.sliceAt 22 (.slice (some (aW b off)) n c) (some (.int .i64 1)) none none).run prog w = .ok (.slice a' (n - 1) c') w/\sH w o (.slice a' (n - 1) c') (n - 1) (vs.drop 1):=by
 have hu:prog.underlying 22 = some (.slice (prog.elem 22)):=bf
 have hsz:(sizeOf (prog.elem 22)).run prog w = .ok 1 w:=by
  rfl
 rcases h with ⟨⟨a,c,hq⟩,h0,_⟩ | ⟨b',off',cap,hq,hl',hm,ho,hb,hr⟩
 omega
 ·cases hq
  refine ⟨if c = 1 then some ⟨b,off,none⟩ else some ⟨b,off + 1,none⟩,c - 1, ?_, ?_⟩
  ·rw [run_sliceAt_slice _ _ _ _ _ _ hu,run_slice_l w 22 _ n c hu .i64 1 aP aP,hsz];rfl
  ·by_cases hn1:n = 1
   ·subst hn1;exact .inl ⟨bg,rfl,bg⟩
   ·rw [if_neg aP];refine .inr ⟨b,off + 1,c - 1,rfl,aP,aP,ho,hb, ?_⟩;have:=ER hr 1 (n - 1);grind [List.length_drop]
section
variable {w:World} {o:Own} {v:Value} {vs:List Value} {bs:List (List UInt8)} {age:BitVec 64} {kf:AX}
theorem Sv {b0:List UInt8} (hv:sH w o v (bs.length + 1) vs) (hrb:Ey w o vs (b0 :: bs)) (hbl:∀ b ∈ b0 :: bs,b.length <= 1000000) (hlen:bs.length < 300) (hm:DK (b0 :: bs) = some (age,kf)) :
  Calls prog 77 #[v] w (XL ai w o fun r w' o'=>∃ lv,r = .tuple #[(age:aV),Dy kf.promised kf.current lv]/\Lines w' o' w.heap.size lv kf.lines/\o' = ext w o):=by
 obtain ⟨M,hM0,hM⟩:=EZ o 1 w.heap.size;have ht:Tg (M + 1) (M + 2) (M + 3):=⟨aP,aP,aP,aP,aP,aP⟩;have hfr:∀ k,k < w.heap.size->¬ In3 (M + 1) (M + 2) (M + 3) (o k).1:=fun k hk h=>by
  have:=hM k hk;unfold In3 at h;omega
 have hnY:¬ In3 (M + 1) (M + 2) (M + 3) (M + 4):=fun h=>by unfold In3 at h;omega
 have hY0:M + 4 ≠ 0:=aP
 generalize M + 1 = K at ht hfr hnY;generalize M + 2 = X at ht hfr hnY;generalize M + 3 = Z at ht hfr hnY;generalize M + 4 = Y at hnY hY0;clear hM hM0 M;have hf:∃ k,EF b0 = some (age,k)/\FV k bs = some kf:=by
  simp only [DK] at hm
  cases hr:EF b0 with
  | none=>grind
  | some q =>
   obtain ⟨a,k⟩:=q;rw [hr] at hm;simp only [Option.map_eq_some_iff,Prod.mk.injEq] at hm;grind
 obtain ⟨k0,hf0,hall⟩:=hf;clear hm;obtain ⟨n,hn⟩:=az (bs.length + 1);rw [hn] at hv;obtain ⟨va,vc,rfl⟩:=Aq hv;have hvl:vs.length = n:=by rw [hrb.1, <-hn];rfl
 obtain ⟨e0,he0⟩:∃ e0,vs[0]? = some e0:=⟨_,List.getElem?_eq_getElem aP⟩;have hB0:Bytes w o e0 b0:=hrb.2 0 e0 b0 he0 rfl;obtain ⟨rb,roff,rfl,hc0,Bfd,hro⟩:=hv.cell 0 he0;obtain ⟨ea,ec,rfl⟩:=Aq hB0;have s1:=(aj.refl ai w o).alloc (.cells #[.int .u64 0, .int .u64 0, .slice none 0 0] 55) (Y,0);have hal:=ae (AB (P:=prog) w 55 _ LX);have hb3:(w.alloc (.cells #[.int .u64 0, .int .u64 0, .slice none 0 0] 55)).heap[w.heap.size]? = some (.cells [.int .u64 0, .int .u64 0, .slice none 0 0].toArray 55 (0,0)):=heap_alloc_new w _;have hm0:=ae (SN (w.alloc (.cells #[.int .u64 0, .int .u64 0, .slice none 0 0] 55)));have hm1:=ae (Lr (w.alloc (.cells #[.int .u64 0, .int .u64 0, .slice none 0 0] 55)) #[] 0 2 (.func (.func 130) #[] #[]) rfl);have hm2:=ae (Lr (w.alloc (.cells #[.int .u64 0, .int .u64 0, .slice none 0 0] 55)) #[⟨.int .u8 2, .func (.func 130) #[] #[],0⟩] 1 3 (.func (.func 131) #[] #[]) rfl);have hm3:=ae (Lr (w.alloc (.cells #[.int .u64 0, .int .u64 0, .slice none 0 0] 55)) #[⟨.int .u8 2, .func (.func 130) #[] #[],0⟩,⟨.int .u8 3, .func (.func 131) #[] #[],1⟩] 2 4 (.func (.func 132) #[] #[]) rfl);have s2:=s1.alloc FB (0,0);have hmb:((w.alloc (.cells #[.int .u64 0, .int .u64 0, .slice none 0 0] 55)).alloc FB).heap[(w.alloc (.cells #[.int .u64 0, .int .u64 0, .slice none 0 0] 55)).heap.size]? = some FB:=heap_alloc_new _ _;have hmo:Ak (Ak o w.heap.size (Y,0)) (w.alloc (.cells #[.int .u64 0, .int .u64 0, .slice none 0 0] 55)).heap.size (0,0) (w.alloc (.cells #[.int .u64 0, .int .u64 0, .slice none 0 0] 55)).heap.size = (0,0):=bu;have Akn:=(Below.heap_alloc (w.alloc (.cells #[.int .u64 0, .int .u64 0, .slice none 0 0] 55)) FB w.heap.size bu).trans hb3;have AvA:Ak (Ak o w.heap.size (Y,0)) (w.alloc (.cells #[.int .u64 0, .int .u64 0, .slice none 0 0] 55)).heap.size (0,0) w.heap.size = (Y,0):=by rw [BI _ _ bu];simp
 generalize Ak (Ak o w.heap.size (Y,0)) (w.alloc (.cells #[.int .u64 0, .int .u64 0, .slice none 0 0] 55)).heap.size (0,0) = o2 at *;have Aqw:(w.alloc (.cells #[.int .u64 0, .int .u64 0, .slice none 0 0] 55)).heap.size = w.heap.size + 1:=bu
 rw [Aqw] at hmb hmo;obtain ⟨W1,hW1⟩:=az (w.alloc (.cells #[.int .u64 0, .int .u64 0, .slice none 0 0] 55));obtain ⟨W2,hW2⟩:=az (W1.alloc FB);rw [hW1] at hal hm0 hm1 hm2 hm3 s2 hmb Akn Aqw;rw [hW2] at s2 hmb Akn;rw [Aqw] at hm0 hm1 hm2 hm3;have hm3:=ae (show Sem.run prog (Instr.mapUpdate 195 (.map (some (w.heap.size + 1))) (.int .u8 4) (.func (.func 132) #[] #[])) _ = Result.ok () W2 from hW2 ▸ hm3.out);have hst2:=s2;have c20:=(hB0.step hst2 id);have hcell0:W2.cell? (aW rb roff) = some (.slice ea b0.length ec):=by
  obtain ⟨b',off',h1,h2, -, -⟩:=(hv.step hst2 id).cell 0 he0
  grind
 have hnI:((n:Int) == 0) = false:=bg
 have Azk:(0:Int) < n:=aP
 have hnew:=ae (NH Z c20 bg);have hvH:=ae (hv.step hst2 id);have AtJ:=ae (hrb.step hst2 id);have Abe:=ae (hst2);have AlW:=aa2 hmb hmo;have Ams:=aa2 Akn AvA;have htH:=ae ht;have AzH:=ae hfr;have AbT:=ae hbl;have Avf:=ae hf0;have pR:=ae hall;have Alc:=ae hvl;have hnH:=ae hn;have rD:=ae hlen;clear hv hrb c20 s1 s2 hst2 hmb hmo Akn AvA hb3 ht hfr hbl hf0 hall hB0 he0 hc0 hW2 hvl hn hlen;go_enter func77,ntmps77
 go_wp2_with (first
  | ((with_reducible apply AU);exact hal.out;simp only [Act.put,lsa,lsz,lss])
  | ((with_reducible apply Iq);exact hm0.out;simp only [Act.put,lsa,lsz,lss])
  | ((with_reducible apply Ji);(first | exact hm1.out | exact hm2.out | exact hm3.out);simp only [Act.put]))
 refine hnew.out.mono ?_;rintro e w3 ⟨v3,o3,rfl,hs3,p,Azd,rfl,hr3⟩;obtain ⟨T,m1,m2,P,m3,C,m4,L,m5,q1,q2,q3,q4,q5,qT,qD,qA,rfl,n1,n2,n3,n4,nL⟩:=QJ Avf.out (AbT.out b0 bu);have hby:=ae (NI hr3 htH.out.z0 (AbT.out b0 bu));rw [q1] at hby;simp only [qT] at hby;have st3:=ae (Abe.out.trans hs3);have qA':=ae qA;have q2H:=ae q2;have q3H:=ae q3;have q4H:=ae q4;have q5H:=ae q5;have qDH:=ae qD;clear q1 q2 q3 q4 q5 qD qT hr3 Azd hm0 hm1 hm2 hm3 hal hnew hcell0 qA;have g3:=aa4 (hvH.out.step hs3 id) (AtJ.out.step hs3 id) (hs3.di AlW.out.1 id) (hs3.di Ams.out.1 id);have g3o:=aa2 ((hs3.own _ (au AlW.out.1)).trans AlW.out.2) ((hs3.own _ (au Ams.out.1)).trans Ams.out.2);clear hvH AtJ AlW Ams Abe hs3;go_wp2_with fail;refine hby.out.mono ?_;rintro e w4 ⟨v4,o4,rfl,hs4,rfl,hr4⟩;clear hby;go_wp2_with fail;refine (Fq w4).mono ?_;rintro e w4' ⟨rfl,rfl⟩;have hu:=ae (EJ hr4 htH.out.z0 n1);rw [q2H.out] at hu;clear hr4;go_wp2_with fail;refine hu.out.mono ?_;rintro e w5 ⟨v5,o5,rfl,hs5,rfl,hr5⟩;clear hu;have hu:=ae (EJ hr5 htH.out.z0 n2);rw [q3H.out] at hu;clear hr5;go_wp2_with fail;refine hu.out.mono ?_;rintro e w6 ⟨v6,o6,rfl,hs6,rfl,hr6⟩;clear hu;have hu:=ae (EJ hr6 htH.out.z0 n3);rw [q4H.out] at hu;clear hr6;go_wp2_with fail;refine hu.out.mono ?_;rintro e w7 ⟨v7,o7,rfl,hs7,rfl,yU⟩;clear hu;have hsZ:=ae (((hs4.trans hs5).trans hs6).trans hs7);clear hs4 hs5 hs6 hs7;have hal:=ae (AB (P:=prog) w7 55 _ LX);have s8:=(aj.refl ai w7 o7).alloc (.cells #[.int .u64 0, .int .u64 0, .slice none 0 0] 55) (K,0);have b8:(w7.alloc (.cells #[.int .u64 0, .int .u64 0, .slice none 0 0] 55)).heap[w7.heap.size]? = some (.cells [.int .u64 0, .int .u64 0, .slice none 0 0].toArray 55 (0,0)):=heap_alloc_new w7 _;have o8:Ak o7 w7.heap.size (K,0) w7.heap.size = (K,0):=bu;obtain ⟨hso,hsb⟩:=Ba (P:=prog) (ty:=55) (vs:=[(P:aV), (C:aV), .slice none 0 0]) b8 rfl bf rfl;have Aaz:=ae hso;have s9:=(aj.refl (ak K) (w7.alloc (.cells #[.int .u64 0, .int .u64 0, .slice none 0 0] 55)) (Ak o7 w7.heap.size (K,0))).setCells w7.heap.size 0 [(P:aV), (C:aV), .slice none 0 0] (.inl (by show (Ak o7 w7.heap.size (K,0) w7.heap.size).1 = K;simp));have hr9:=(yU.step s8 id id).step s9 (fun h=>htH.out.kz h.symm) (fun h=>htH.out.k0 h.symm);have sKZ:=ae ((s8.mono (T':=In3 K X Z) dh).trans (s9.mono (fun _ h => .inl h)));have hbs:w7.heap.size < ((w7.alloc (.cells #[.int .u64 0, .int .u64 0, .slice none 0 0] 55)).setCells w7.heap.size 0 [(P:aV), (C:aV), .slice none 0 0]).heap.size:=au hsb;generalize Ak o7 w7.heap.size (K,0) = o8' at *;obtain ⟨W8,hW8⟩:=az ((w7.alloc (.cells #[.int .u64 0, .int .u64 0, .slice none 0 0] 55)).setCells w7.heap.size 0 [(P:aV), (C:aV), .slice none 0 0]);rw [hW8] at Aaz hsb hr9 sKZ hbs;clear hso s8 s9 yU b8 hW8;obtain ⟨kb,hkb⟩:=az (w7.heap.size);rw [hkb] at Aaz hsb hbs o8 hal;have hl:=ae (JP (X:=X) hr9 htH.out.z0 htH.out.x0 htH.out.xz n4);rw [q5H.out] at hl;clear hr9
 go_wp2_with (first
  | ((with_reducible apply AU);exact hal.out;simp only [Act.put,lsa,lsz,lss])
  | ((with_reducible apply AC);exact Aaz.out;simp only [Act.put]))
 refine hl.out.mono ?_;rintro e w9 ⟨v9,o9,rfl,hs9,Alz,hr9⟩;have b9:=(hs9.block kb hbs (by rw [o8];exact fun h=>htH.out.kz h)).trans hsb;have k9:o9 kb = (K,0):=(hs9.own kb hbs).trans o8;obtain ⟨la,lc,rfl⟩:=Alz.form;have hset:=(aj.refl (ak K) w9 o9).setCell (a:=(aW kb 2)) (.slice la L.length lc) (.inl (by show (o9 kb).1 = K;grind));have h1':=Ai (cs:=[_,_,_]) (i:=2) (.slice la L.length lc) b9;have f9:w9.frozen? (aW kb 2) = false:=Ap (cs:=[_,_,_]) b9 2;have c9:w9.cell? (aW kb 2) = some (.slice none 0 0):=ag (cs:=[_,_,_]) b9 2;have AeD:=hr9.step hset (fun h=>htH.out.kz h.symm) (fun h=>htH.out.k0 h.symm);have AbD:w.heap.size <= kb:=by
  have:=st3.out.size;have:=hsZ.out.size;omega
 have hkp:Ny (w9.setCell (aW kb 2) (.slice la L.length lc)) o9 K X kb w.heap.size ⟨P,C,L⟩:=⟨_,h1',k9,by
  obtain ⟨cs,y1,y2,y3,y4⟩:=Alz.step hset (fun h=>htH.out.kx h.symm) (fun h=>htH.out.k0 h.symm);exact ⟨cs,JX y1 aP,y2,y3,fun u hu=>(y4 u hu).low aP⟩⟩
 have AhO:=((hsZ.out.mono (T':=In3 K X Z) (fun _ h => .inr (.inr h))).trans sKZ.out).trans ((hs9.mono (T':=In3 K X Z) (fun _ h => .inr (.inr h))).trans (hset.mono (T':=In3 K X Z) (fun _ h => .inl h)));have hn0:¬ In3 K X Z 0:=fun h=>by
  have:=htH.out.k0;have:=htH.out.x0;have:=htH.out.z0;unfold In3 at h;omega
 have AcG:=ae ((st3.out.mono (T':=In3 K X Z) dh).trans AhO);have g10:=ae (show sH (w9.setCell (aW kb 2) (.slice la L.length lc)) o9 (.slice (some (aW rb roff)) n vc) n vs/\Ey (w9.setCell (aW kb 2) (.slice la L.length lc)) o9 vs (b0 :: bs)/\((w9.setCell (aW kb 2) (.slice la L.length lc)).heap[w.heap.size + 1]? = some FB/\o9 (w.heap.size + 1) = (0,0)) /\
   ((w9.setCell (aW kb 2) (.slice la L.length lc)).heap[w.heap.size]? = some (.cells #[.int .u64 0, .int .u64 0, .slice none 0 0] 55)/\o9 w.heap.size = (Y,0)) from
  ⟨g3.out.1.step AhO hn0,g3.out.2.1.step AhO hn0,⟨AhO.di g3.out.2.2.1 (by rw [g3o.out.1];omega),(AhO.own _ (au g3.out.2.2.1)).trans g3o.out.1⟩,
   AhO.di g3.out.2.2.2 (by rw [g3o.out.2];omega),(AhO.own _ (au g3.out.2.2.2)).trans g3o.out.2⟩)
 obtain ⟨W9,hW9⟩:=az (w9.setCell (aW kb 2) (.slice la L.length lc));rw [hW9] at AeD hkp AcG g10;have AvN:=ae hW9;have AuN:=ae hkp;have hd:=ae (II AeD);rw [qDH.out] at hd;clear hs9 Alz hr9 b9 hset h1' AeD hkp AhO hl hW9 sKZ hsb o8 hsZ g3 g3o st3;go_wp2_with fail;rw [AvN.out];refine hd.out.mono ?_;rintro e w' ⟨rfl,rfl⟩;have qAN:decide (0 < age.toNat) = true:=decide_eq_true qA'.out;go_wp2_with fail;refine (Fq W9).mono ?_;rintro e w' ⟨rfl,rfl⟩;clear qAN ;have hN:n - 1 = bs.length:=by have:=hnH.out;omega
 obtain ⟨ra,rc,hsl,hrest⟩:=Yt g10.out.1 Alc.out aP;rw [hN] at hsl hrest;have Abf:=ae hsl;have hB:Ey W9 o9 (vs.drop 1) bs:=⟨hN ▸ (by rw [List.length_drop,Alc.out]),fun i u l hu hl=>g10.out.2.1.2 (i + 1) u l bg bg⟩;have AqT:∀ b ∈ bs,b.length <= 1000000:=fun b hb=>AbT.out b (List.mem_cons_of_mem _ hb);have hNb:=rD.out;obtain ⟨us,hus⟩:=az (vs.drop 1);rw [hus] at hB hrest;obtain ⟨N,hNN⟩:=az (bs.length);rw [hNN] at Abf hrest hNb;have AoS:=ae g10.out.2.2;clear hsl g10 hN hus Alc hnH rD AbT hnI Azk Avf q2H q3H q4H q5H qDH hd k9
 go_wp2_with ((with_reducible apply FM);exact Abf.out;simp only [Act.put,lsa,lsz,lss])
 go_loopw [48] (fun i wr=>∃ (k:Nat) (oj:Own) (kk:AX),k <= N/\i = .int .i64 k/\Ny wr oj K X kb w.heap.size kk/\FV kk (bs.drop k) = some kf/\kk.lines.length <= 256 * (k + 1)/\sH wr oj (.slice ra N rc) N us/\Ey wr oj us bs /\
  ((wr.heap[w.heap.size + 1]? = some FB/\oj (w.heap.size + 1) = (0,0))/\wr.heap[w.heap.size]? = some (.cells #[.int .u64 0, .int .u64 0, .slice none 0 0] 55)/\oj w.heap.size = (Y,0))/\aj (In3 K X Z) w o wr oj) (fun i _=>N - (intOf i).toNat)
 case atStart=>exact ⟨0,o9,_,aP,rfl,AuN.out,pR.out,aP,hrest,hB,AoS.out,AcG.out⟩
 case round =>
  obtain ⟨k,oj,kk,hk,rfl,hkk,hrec,hkl,hsv,hsb,AjG,hst⟩:=hrel;clear AuN pR AoS AcG hrest hB Abf AvN hal Aaz f9 c9 W9
  by_cases hlt:k < N
  ·have AbY:(k:Int) < N:=aP
   have Bcz:us.length = N:=by rw [hsb.1,hNN]
   obtain ⟨e0,he0⟩:∃ e0,us[k]? = some e0:=⟨_,List.getElem?_eq_getElem aP⟩;obtain ⟨b,hb⟩:∃ b,bs[k]? = some b:=⟨_,List.getElem?_eq_getElem aP⟩;have hBk:=hsb.2 k e0 b he0 hb;have hbl:=AqT b (List.mem_of_getElem? hb);obtain ⟨rb2,ro2,rfl,hcell, -, -⟩:=hsv.cell k he0;obtain ⟨ea2,ec2,rfl⟩:=Aq hBk;have hd1:bs.drop k = b :: bs.drop (k + 1):=by
    rw [List.drop_eq_getElem_cons aP];grind
   rw [hd1] at hrec;obtain ⟨kk2,hone,AoI⟩:=Oo hrec;have hkl2:=SY hone hbl;obtain ⟨T,m1,hq1,hm1,hcs⟩:=Ol hone hbl;have hnew:=ae (NH Z hBk hbl);have hG:=aa3 hsv hsb AjG;have Azy:=ae hkk;have Abe:=ae hst;have Ahe:=ae AoI;have AzM:=ae hcs;have AyY:=ae hq1;clear hsv hsb AjG hkk hst AoI hcs hq1 hrec hd1 hone AqT hb he0 hBk;go_wp2_with fail;refine hnew.out.mono ?_;rintro e w2 ⟨v2,o2,rfl,hs2,p2, -,rfl,hr2⟩;have hby:=ae (NI hr2 htH.out.z0 hbl);rw [AyY.out] at hby;have ApZ:=ae (hs2.mono (T':=In3 K X Z) dh);have AqJ:=ae (Azy.out.step hs2 id id id);clear hnew hr2 hs2
   rcases AzM.out with ⟨hT,hd,hk'⟩ | ⟨hT,hd,hk'⟩ | ⟨hT,hd,hk'⟩
   ·simp only [hT] at hby;have hkF:=hk';have hdH:=ae hd;clear hT hd hk';go_wp2_with fail;refine hby.out.mono ?_;rintro e w3 ⟨v3,o3,rfl,hs3,rfl,hr3⟩;have Aee:=ApZ.out.trans (hs3.mono (T':=In3 K X Z) (fun _ h => .inr (.inr h)));have AhV:w3.heap[w.heap.size + 1]? = some FB:=Aee.di hG.out.2.2.1.1 (by rw [hG.out.2.2.1.2];omega);have hlk:=ae (show (Instr.lookup 195 (.map (some (w.heap.size + 1))) (.int .u8 2) true).run prog w3 = .ok (.tuple #[.func (.func 130) #[] #[], .bool true]) w3 from JO AhV 2 aP);have Aie:=AqJ.out.step hs3 (fun h=>htH.out.kz h) (fun h=>htH.out.xz h) (fun h=>htH.out.z0 h.symm);have hcall:=ae (SS htH.out Aie hr3 hm1);have Alv:=ae Aee;clear hs3 Aee hr3 AhV Aie hby
    go_wp2_with ((with_reducible apply DN);exact hlk.out;simp only [Act.put,lsa,lsz,lss])
    refine (Fq w3).mono ?_;rintro e w' ⟨rfl,rfl⟩;clear hlk;go_wp2_with fail;refine hcall.out.mono ?_;rintro e w4 ⟨v4,o4,rfl,hs4,rfl,Aid,hr4⟩;have hdn:=ae (II hr4);rw [hdH.out] at hdn;have AcM:=ae (Alv.out.trans hs4);have Aic:=ae Aid;clear hcall Aid hr4 hs4;go_wp2_with fail;refine hdn.out.mono ?_;rintro e w' ⟨rfl,rfl⟩;go_wp2_with fail;refine (Fq w4).mono ?_;rintro e w' ⟨rfl,rfl⟩;go_wp2_with fail;go_roundw
    case rel =>
     refine ⟨k + 1,o4,kk2,aP,by rfl, ?_,Ahe.out,aP,hG.out.1.step AcM.out hn0,hG.out.2.1.step AcM.out hn0,⟨⟨AcM.out.di hG.out.2.2.1.1 (by rw [hG.out.2.2.1.2];omega),(AcM.out.own _ (au hG.out.2.2.1.1)).trans hG.out.2.2.1.2⟩,
      AcM.out.di hG.out.2.2.2.1 (by rw [hG.out.2.2.2.2];omega),(AcM.out.own _ (au hG.out.2.2.2.1)).trans hG.out.2.2.2.2⟩,Abe.out.trans AcM.out⟩
     rw [hkF];assumption
    case measure=>simp [intOf];omega
   ·simp only [hT] at hby;have hkF:=hk';have hdH:=ae hd;clear hT hd hk';go_wp2_with fail;refine hby.out.mono ?_;rintro e w3 ⟨v3,o3,rfl,hs3,rfl,hr3⟩;have Aee:=ApZ.out.trans (hs3.mono (T':=In3 K X Z) (fun _ h => .inr (.inr h)));have AhV:w3.heap[w.heap.size + 1]? = some FB:=Aee.di hG.out.2.2.1.1 (by rw [hG.out.2.2.1.2];omega);have hlk:=ae (show (Instr.lookup 195 (.map (some (w.heap.size + 1))) (.int .u8 3) true).run prog w3 = .ok (.tuple #[.func (.func 131) #[] #[], .bool true]) w3 from JO AhV 3 aP);have Aie:=AqJ.out.step hs3 (fun h=>htH.out.kz h) (fun h=>htH.out.xz h) (fun h=>htH.out.z0 h.symm);have hbz:w.heap.size <= w3.heap.size:=(Abe.out.trans Aee).size;have hcall:=ae (AiI htH.out Aie hr3 hm1 hbz);have Alv:=ae Aee;clear hs3 Aee hr3 AhV Aie hby
    go_wp2_with ((with_reducible apply DN);exact hlk.out;simp only [Act.put,lsa,lsz,lss])
    refine (Fq w3).mono ?_;rintro e w' ⟨rfl,rfl⟩;clear hlk;go_wp2_with fail;refine hcall.out.mono ?_;rintro e w4 ⟨v4,o4,rfl,hs4,rfl,Aid,hr4⟩;have hdn:=ae (II hr4);rw [hdH.out] at hdn;have AcM:=ae (Alv.out.trans hs4);have Aic:=ae Aid;clear hcall Aid hr4 hs4;go_wp2_with fail;refine hdn.out.mono ?_;rintro e w' ⟨rfl,rfl⟩;go_wp2_with fail;refine (Fq w4).mono ?_;rintro e w' ⟨rfl,rfl⟩;go_wp2_with fail;go_roundw
    case rel =>
     refine ⟨k + 1,o4,kk2,aP,by rfl, ?_,Ahe.out,aP,hG.out.1.step AcM.out hn0,hG.out.2.1.step AcM.out hn0,⟨⟨AcM.out.di hG.out.2.2.1.1 (by rw [hG.out.2.2.1.2];omega),(AcM.out.own _ (au hG.out.2.2.1.1)).trans hG.out.2.2.1.2⟩,
      AcM.out.di hG.out.2.2.2.1 (by rw [hG.out.2.2.2.2];omega),(AcM.out.own _ (au hG.out.2.2.2.1)).trans hG.out.2.2.2.2⟩,Abe.out.trans AcM.out⟩
     rw [hkF];assumption
    case measure=>simp [intOf];omega
   ·simp only [hT] at hby;have hkF:=hk';have hdH:=ae hd;clear hT hd hk';go_wp2_with fail;refine hby.out.mono ?_;rintro e w3 ⟨v3,o3,rfl,hs3,rfl,hr3⟩;have Aee:=ApZ.out.trans (hs3.mono (T':=In3 K X Z) (fun _ h => .inr (.inr h)));have AhV:w3.heap[w.heap.size + 1]? = some FB:=Aee.di hG.out.2.2.1.1 (by rw [hG.out.2.2.1.2];omega);have hlk:=ae (show (Instr.lookup 195 (.map (some (w.heap.size + 1))) (.int .u8 4) true).run prog w3 = .ok (.tuple #[.func (.func 132) #[] #[], .bool true]) w3 from JO AhV 4 aP);have Aie:=AqJ.out.step hs3 (fun h=>htH.out.kz h) (fun h=>htH.out.xz h) (fun h=>htH.out.z0 h.symm);have hbz:w.heap.size <= w3.heap.size:=(Abe.out.trans Aee).size;have hcall:=ae (UO htH.out Aie hr3 hm1 hbz aP);have Alv:=ae Aee;clear hs3 Aee hr3 AhV Aie hby
    go_wp2_with ((with_reducible apply DN);exact hlk.out;simp only [Act.put,lsa,lsz,lss])
    refine (Fq w3).mono ?_;rintro e w' ⟨rfl,rfl⟩;clear hlk;go_wp2_with fail;refine hcall.out.mono ?_;rintro e w4 ⟨v4,o4,rfl,hs4,rfl,Aid,hr4⟩;have hdn:=ae (II hr4);rw [hdH.out] at hdn;have AcM:=ae (Alv.out.trans hs4);have Aic:=ae Aid;clear hcall Aid hr4 hs4;go_wp2_with fail;refine hdn.out.mono ?_;rintro e w' ⟨rfl,rfl⟩;go_wp2_with fail;refine (Fq w4).mono ?_;rintro e w' ⟨rfl,rfl⟩;go_wp2_with fail;go_roundw
    case rel =>
     refine ⟨k + 1,o4,kk2,aP,by rfl, ?_,Ahe.out,aP,hG.out.1.step AcM.out hn0,hG.out.2.1.step AcM.out hn0,⟨⟨AcM.out.di hG.out.2.2.1.1 (by rw [hG.out.2.2.1.2];omega),(AcM.out.own _ (au hG.out.2.2.1.1)).trans hG.out.2.2.1.2⟩,
      AcM.out.di hG.out.2.2.2.1 (by rw [hG.out.2.2.2.2];omega),(AcM.out.own _ (au hG.out.2.2.2.1)).trans hG.out.2.2.2.2⟩,Abe.out.trans AcM.out⟩
     rw [hkF];assumption
    case measure=>simp [intOf];omega
  ·obtain rfl:N = k:=aP
   have hkf:kk = kf:=by
    rw [List.drop_eq_nil_of_le aP] at hrec;exact Option.some.inj hrec
   subst hkf;obtain ⟨lv,hb7,ho7,wY⟩:=hkk;obtain ⟨lla,llc,rfl⟩:=wY.form;obtain ⟨hso,AyT⟩:=Ba (w:=wr.drew) (P:=prog) (ty:=55) (vs:=[(kk.promised:aV), (kk.current:aV), .slice lla kk.lines.length llc]) AjG.2.1 rfl bf rfl;have Aaz:=ae hso;have AaM:=ae ((hst.drew.setCells w.heap.size 0 [(kk.promised:aV), (kk.current:aV), .slice lla kk.lines.length llc] bu).still AzH.out);have hset:=(aj.refl (ak Y) wr oj).drew.setCells w.heap.size 0 [(kk.promised:aV), (kk.current:aV), .slice lla kk.lines.length llc] (.inl (by show (oj w.heap.size).1 = Y;grind));have hlF:=ae (show Lines (wr.drew.setCells w.heap.size 0 [(kk.promised:aV), (kk.current:aV), .slice lla kk.lines.length llc]) (ext w o) w.heap.size (.slice lla kk.lines.length llc) kk.lines from
    (wY.step hset (fun h=>hnY (.inr (.inl h.symm))) (fun h=>hY0 h.symm)).lines (fun k hk=>by unfold ext;grind))
   have hS:wr.heap[kb]? = some (.cells [(kk.promised:aV), (kk.current:aV), .slice lla kk.lines.length llc].toArray 55 (0,0)):=hb7;clear hso hb7 wY hst hset hsv hsb hrec hkl;go_wp2_with fail;refine Aa (fun w'=>w'.heap[kb]? = some (.cells [(kk.promised:aV), (kk.current:aV), .slice lla kk.lines.length llc].toArray 55 (0,0))) (fun i=>decide (i < 3)) bf hS (fun hHeld => ?_);refine tq 0 (h:=?_);refine Dt (i:=1) (v := .agg [(kk.promised:aV), (kk.current:aV), .slice lla kk.lines.length llc].toArray) rfl bf (fun _ _ _ h=>h) (yieldsIf_load_mid rfl 55 (.tmp 7) rfl kb 0 rfl [(kk.promised:aV), (kk.current:aV), .slice lla kk.lines.length llc] _ (fun w h=>AV h) underlying55 rfl bf) aP ?_;simp only [Act.put,lsa,lsz,lss];refine tq 2 (h:=tO 3 (h:=?_));apply AC
   ·exact Aaz.out
   simp only [Act.put];go_wp2_with fail;refine ⟨bu, ?_⟩;refine tD (h:=?_);go_wp2_with fail;refine bodyPost_ret (JC rfl _ _ w.heap.size 55 _ (0,0) _ rfl AyT underlying55 rfl Ij) rfl ?_;exact ⟨_,ext w o,rfl,AaM.out.Me _ (fun k hk=>if_pos hk),_,rfl,hlF.out,rfl⟩
theorem Oe (hv:sH w o v bs.length vs) (hrb:Ey w o vs bs) (hbl:∀ b ∈ bs,b.length <= 1000000) (hlen:bs.length <= 300) (hm:DK bs = some (age,kf)) :
  Calls prog 77 #[v] w (XL ai w o fun r w' o'=>∃ lv,r = .tuple #[(age:aV),Dy kf.promised kf.current lv]/\Lines w' o' w.heap.size lv kf.lines/\o' = ext w o):=by
 cases bs with
 | nil =>
  obtain ⟨a,c,rfl⟩:=Aq hv
  cases hm
  exact Uw w o a c
 | cons b0 r=>exact Sv hv hrb hbl bg hm
end
theorem catch_idle (p q:Value) (w:World) :
  CallsD prog 74 #[p,q] .returning w fun e u' w'=>e = .returned (.tuple #[])/\u' = .returning/\w' = w:=by
 have hta:(Instr.typeAssert .nilIface 20 29 true).run prog w = .ok (.tuple #[.int .i64 0, .bool false]) w:=bf
 refine callsD_of_wpS func74 rfl fun c₀ cs hu => ?_;apply wpS_seq;apply wpS_region;simp [wpOpsS,go_sem,recoverD,hu,ntmps74,Exit.thenS,hta];apply wpS_seq;apply wpS_region;simp [wpOpsS,go_sem,Exit.thenS];refine wpS_cond (t:=false) (by simp [Act.eval,Array.replicate]) ?_;refine wpS_of_wp (wp_skip ?_)
 cases c₀
 simp_all [bodyPostS,results]
section
variable {w:World} {o:Own} {D pd:Nat} {d:Af}
end
theorem Jk {P:Program} {fn:Func} {t t':Array Value} {R:Ending->World->Prop} (h:results fn t = results fn t'):∀ (ds:List Deferred) (u:FrameMode) (w:World),Leaves P fn t R ds u w->Leaves P fn t' R ds u w
 | [], .returning,w,hl=>by
  obtain ⟨v,h1,h2⟩:=hl;exact ⟨v,bg,h2⟩
 | [], .panicking chain,w,hl=>hl
 | [], .run,w,hl=>hl
 | d :: ds,u,w,hl=>by
  obtain ⟨h1,fv,cap,f,args,h2,h3,h4⟩:=hl;refine ⟨h1,fv,cap,f,args,h2,h3,h4.mono ?_⟩;intro e u' w' he
  cases e with
  | returned v=>exact Jk h ds _ _ he
  | panicked c=>exact Jk h ds _ _ he
  | outgrown=>omega
theorem AQ {R:Ending->World->Prop} {c:List PanicEntry} {a:Act} {d:Nat} (hd:d ≠ 2/\d ≠ 3) (h:bodyPostD prog Tryz.f37 R (.panic c) (a.put (some d) v) w):bodyPostD prog Tryz.f37 R (.panic c) a w:=by
 refine Jk ?_ _ _ _ h;simp_all [Act.put,results]
theorem UM {rs:List (List UInt8)} (h:DK rs = some (0,k)):k = ⟨0,0,[]⟩:=by
 cases rs with
 | nil=>cases h;rfl
 | cons b r =>
  simp [DK] at h
  cases hr:EF b with
  | none=>grind
  | some q =>
   obtain ⟨a,k'⟩:=q;rw [hr] at h;simp only [Option.map_eq_some_iff,Prod.mk.injEq] at h;simp_all [EF]
def PO (d:Af) (h:Nat) (a0 a1:Ad) (g0 g1:BitVec 64) (k0 k1:AX):AZ:=
 if g0.toNat < g1.toNat then ⟨a1,a0,d,h,g1,k1,false⟩ else ⟨a0,a1,d,h,g0,k0,false⟩
def OpenSt (w:World) (o:Own) (S A B D Y b2 ps pd base h:Nat) (d:Af) (a0 a1:Ad) (g0 g1:BitVec 64) (k0 k1:AX) (k:Nat):Prop:=
 ((w.heap[b2]? = some (.cells #[.pointer ps] 42 (0,0))/\o b2 = (Y,0))/\(w.heap[b2 + 1]? = some (.cells #[.int .i64 0] 29 (0,0))/\o (b2 + 1) = (Y,0))/\Bg w o D pd d) /\
 ((k = 0/\w.heap[ps]? = some (.cells (storeCells pd (.pointer none) (.pointer none) h 0 0 0 0 (.slice none 0 0) false).toArray 108 (0,0))/\o ps = (S,0)) \/
  (k = 1/\∃ pa:Nat,∃ kv,(w.heap[ps]? = some (.cells (storeCells pd (.pointer pa) (.pointer none) h 0 g0 k0.promised k0.current kv false).toArray 108 (0,0))/\o ps = (S,0))/\Lines w o base kv k0.lines/\BZ w o A pa pd a0) \/
  (k = 2/\Bi w o S A B D ps pd base (PO d h a0 a1 g0 g1 k0 k1)))
section
variable {w:World} {o:Own} {D pd:Nat} {d:Af}
theorem Yn {S A B Y H:Nat} {g0 g1:BitVec 64} {k0 k1:AX} (htg:[0,S,A,B,D,Y].Nodup) (hD:Bg w o D pd d) (hd:d.dead = false) (hrow:d.row.length <= 1000000) (hn:8 <= d.pages.length) (hn2:d.pages.length <= 400) (hh:d.pages.length / 2 = H)
  (hN0:Ad.newest (Ad.Aw d 0 H) ≠ BitVec.allOnes 64) (hN1:Ad.newest (Ad.Aw d H H) ≠ BitVec.allOnes 64)
  (hr0:DK (Ad.AY 0 (Ad.Aw d 0 H)).records = some (g0,k0)) (hr1:DK (Ad.AY H (Ad.Aw d H H)).records = some (g1,k1)) :
  Calls prog 37 #[.pointer pd] w (XL (fun t=>t = S \/ t = A \/ t = B) w o fun v w' o' =>
   ∃ ps:Nat,w.heap.size <= ps/\v = .tuple #[.pointer ps, .int .i64 0]/\Bi w' o' S A B D ps pd w.heap.size (PO d H (Ad.AY 0 (Ad.Aw d 0 H)) (Ad.AY H (Ad.Aw d H H)) g0 g1 k0 k1)):=by
 simp only [List.nodup_cons,List.mem_cons,List.not_mem_nil,or_false,not_or,List.nodup_nil,and_true,not_false_eq_true] at htg;have s1:=((aj.refl ai w o).alloc (.cells #[.pointer none] 42) (0,0)).alloc (.cells #[.int .i64 0] 29) (0,0);have hdd:=ae (Ic (hD.step s1 id));have hsz:=ae (size_any (hD.step s1 id));rw [hd] at hdd;have hwr:=ae (show ((d.pages.length:Int) / 2) = (H:Int) by omega);have t1:=(aj.refl ai w o).alloc (.cells #[.pointer (some (aW (w.heap.size + 1 + 1) 0))] 42) (Y,0);have x1:(w.alloc (.cells #[.pointer (some (aW (w.heap.size + 1 + 1) 0))] 42)).heap[w.heap.size]? = _:=heap_alloc_new w _;have z1:(w.alloc (.cells #[.pointer (some (aW (w.heap.size + 1 + 1) 0))] 42)).heap.size = w.heap.size + 1:=bu
 have y1:Ak o w.heap.size (Y,0) w.heap.size = (Y,0):=bu;obtain ⟨W1,hW1⟩:=az (w.alloc (.cells #[.pointer (some (aW (w.heap.size + 1 + 1) 0))] 42));rw [hW1] at t1 x1 z1;generalize Ak o w.heap.size (Y,0) = o1 at *;have t2:=t1.alloc (.cells #[.int .i64 0] 29) (Y,0);have x2:(W1.alloc (.cells #[.int .i64 0] 29)).heap[W1.heap.size]? = _:=heap_alloc_new W1 _;have x12:=(Below.heap_alloc W1 (.cells #[.int .i64 0] 29) w.heap.size aP).trans x1;have z2:(W1.alloc (.cells #[.int .i64 0] 29)).heap.size = w.heap.size + 1 + 1:=by simp [z1]
 have y2:Ak o1 W1.heap.size (Y,0) W1.heap.size = (Y,0):=bu;have y12:Ak o1 W1.heap.size (Y,0) w.heap.size = (Y,0):=by rw [BI _ _ aP];omega
 rw [z1] at x2 y2 y12 t2;obtain ⟨W2,hW2⟩:=az (W1.alloc (.cells #[.int .i64 0] 29));rw [hW2] at t2 x2 x12 z2;generalize Ak o1 (w.heap.size + 1) (Y,0) = o2 at *;have t3:=t2.alloc (.cells (storeCells pd (.pointer none) (.pointer none) H 0 0 0 0 (.slice none 0 0) false).toArray 108) (S,0);have x3:(W2.alloc (.cells (storeCells pd (.pointer none) (.pointer none) H 0 0 0 0 (.slice none 0 0) false).toArray 108)).heap[W2.heap.size]? = _:=heap_alloc_new W2 _;have x23:=(Below.heap_alloc W2 (.cells (storeCells pd (.pointer none) (.pointer none) H 0 0 0 0 (.slice none 0 0) false).toArray 108) (w.heap.size + 1) aP).trans x2;have x13:=(Below.heap_alloc W2 (.cells (storeCells pd (.pointer none) (.pointer none) H 0 0 0 0 (.slice none 0 0) false).toArray 108) w.heap.size aP).trans x12;have y3:Ak o2 W2.heap.size (S,0) W2.heap.size = (S,0):=bu;have y23:Ak o2 W2.heap.size (S,0) (w.heap.size + 1) = (Y,0):=by rw [BI _ _ aP];omega
 have y13:Ak o2 W2.heap.size (S,0) w.heap.size = (Y,0):=by rw [BI _ _ aP];omega
 rw [z2] at x3 y3 y23 y13 t3;generalize Ak o2 (w.heap.size + 1 + 1) (S,0) = o3 at *;obtain ⟨W3,hW3⟩:=az (W2.alloc (.cells (storeCells pd (.pointer none) (.pointer none) H 0 0 0 0 (.slice none 0 0) false).toArray 108));have hWW:((w.alloc (.cells #[.pointer (some (aW (w.heap.size + 1 + 1) 0))] 42)).alloc (.cells #[.int .i64 0] 29)).alloc (.cells #[.pointer pd, .pointer none, .pointer none, (H:aV), .int .i64 0, .int .u64 0, .int .u64 0, .int .u64 0, .slice none 0 0, .bool false] 108) = W3:=by rw [hW1,hW2, <-hW3];rfl
 rw [hW3] at t3 x3 x23 x13;have AvM:=ae hWW;obtain ⟨a0,ha0⟩:=az (Ad.AY 0 (Ad.Aw d 0 H));obtain ⟨a1,ha1⟩:=az (Ad.AY H (Ad.Aw d H H));rw [ha0] at hr0 ⊢;rw [ha1] at hr1 ⊢;have qH:OpenSt W3 o3 S A B D Y w.heap.size (w.heap.size + 1 + 1) pd w.heap.size H d a0 a1 g0 g1 k0 k1 0:=⟨⟨⟨x13,y13⟩,⟨x23,y23⟩,hD.step t3 id⟩, bg⟩;have Abe:=ae qH;have htH:=ae t3;have Baz:=ae hN0;have Bay:=ae hN1;have AtO:=ae hr0;have Akg:=ae hr1;have pM:=ae hrow;have hhH:=ae hh;have AvI:=ae ha0;have AvH:=ae ha1;have AfR:=ae htg;have AbE:=ae hd;clear s1 t1 t2 t3 x1 x2 x3 x12 x23 x13 y1 y2 y3 y12 y23 y13 z1 z2 hW1 hW2 hW3 hWW qH hD hN0 hN1 hr0 hr1 hrow hh ha0 ha1 htg hd
 go_enter_defers func37,ntmps37
 go_wp2_with fail;refine hdd.out.mono ?_;rintro e w' ⟨rfl,rfl⟩;go_wp2_with fail;refine hsz.out.mono ?_;rintro e w' ⟨rfl,rfl⟩;go_wp2_with fail;refine hsz.out.mono ?_;rintro e w' ⟨rfl,rfl⟩;go_wp2_with fail;rw [hwr.out,AvM.out];clear hsz hdd hwr AvM;have hhI:(4:Int) <= (H:Int)/\(H:Int) <= 200:=by have:=hhH.out;omega
 obtain ⟨ps,hps⟩:=az (w.heap.size + 1 + 1);have Aza:w.heap.size <= ps:=aP
 rw [hps] at Abe ⊢;clear hps
 go_loopw [26] (fun i wr=>∃ (k:Nat) (oj:Own),k <= 2/\i = .int .i64 k/\OpenSt wr oj S A B D Y w.heap.size ps pd w.heap.size H d a0 a1 g0 g1 k0 k1 k/\aj (fun t=>t = S \/ t = A \/ t = B) w o wr oj) (fun i _=>2 - (intOf i).toNat)
 case atStart=>exact ⟨0,o3,aP,rfl,Abe.out,htH.out.mono dh⟩
 case round =>
  clear Abe htH;obtain ⟨k,oj,hk,rfl,⟨⟨⟨hb2,ho2⟩,⟨hb3,ho3⟩,hdk⟩,hcs⟩,hst⟩:=hrel;have c2:wr.cell? w.heap.size = some (.pointer ps):=ag (cs:=[_]) hb2 0;have f2:wr.frozen? w.heap.size = false:=Ap (cs:=[_]) hb2 0;have f3:wr.frozen? (aW (w.heap.size + 1) 0) = false:=Ap (cs:=[_]) hb3 0;have c3:wr.cell? (aW (w.heap.size + 1) 0) = some (.int .i64 0):=ag (cs:=[_]) hb3 0
  rcases hcs with ⟨rfl,hps,hops⟩ | ⟨rfl,pa,kv,⟨hps,hops⟩,hkv,hla⟩ | ⟨rfl,hfin⟩
  ·have cP3:wr.cell? (aW ps 3) = some (H:aV):=ag hps 3;have wS:=au hps;have Aqj:¬ ps = w.heap.size:=bg
   have hG:=aa5 (aI hb2 ho2) (aI hb3 ho3) hdk hps hops;have hS:=aI c2 cP3;have ApU:=ae hst
   skip
   have hop:=ae (fun (x:World) (ox:Own) (hx:aj ai wr oj x ox)=>UZ (L:=A) (D:=D) (fun h=>AfR.out.1.2.1 h.symm) (fun h=>AfR.out.1.2.2.2.1 h.symm) (fun h=>AfR.out.2.2.1.2.1 h) (hdk.step hx id) pM.out AbE.out (0:Nat) H aP aP (by have:=hhH.out;omega));clear hb2 hb3 hdk hps hst f3 c3 cP3 c2 f2;go_wp2_with fail;refine Aa (fun w'=>w'.cell? w.heap.size = some (.pointer ps)/\w'.cell? (aW ps 3) = some (H:aV)) (fun _=>true) bf hS (fun hHeld => ?_);refine tp 0 (h:=tp 1 (h:=tp 2 (h:=tp 3 (h:=tp 4 (h:=tp 5 (h:=tv 6 (.int .i64 0) (hy:=fun w hSw=>by (try dsimp only at hSw);go_simp;rfl) (hQ:=by exact fun _ _ _ h=>AQ bz h) (h:=tp 7 (h:=tp 8 (h:=tp 9 (h:=tp 10 (h:=tO 11 (h:=?_))))))))))))
   go_wp2_with fail;have hdr:=(aj.refl ai wr oj).drew;refine (hop.out _ _ hdr).mono ?_;rintro e w1 ⟨v1,o1,rfl,hs1,AlI⟩;obtain ⟨pn, -,rfl,zW⟩:=AlI.2 Baz.out;rw [AvI.out] at zW;have hs1:aj (ak A) wr oj w1 o1:=(hdr.only A).trans hs1;clear AlI hHeld;have tg:=AfR.out;have u2:=hs1.di hG.out.1.1 (by rw [hG.out.1.2];exact fun h=>tg.2.2.1.2.2 h.symm);have u3:=hs1.di hG.out.2.1.1 (by rw [hG.out.2.1.2];exact fun h=>tg.2.2.1.2.2 h.symm);have up:=(hs1.block _ wS (by rw [hG.out.2.2.2.2];exact fun h=>tg.2.1.1 h)).trans hG.out.2.2.2.1;have hS1:=aI (ag (cs:=[_]) u2 0) (ag up 3);go_wp2_with fail;refine ⟨fun _=>hS1, ?_⟩;refine tp 12 (h:=tp 13 (h:=tp 14 (h:=tp 15 (h:=tp 16 (h:=tD (h:=?_))))));have z2:=(hs1.own _ aP).trans hG.out.1.2;have z3:=(hs1.own _ (au hG.out.2.1.1)).trans hG.out.2.1.2;have zp:=(hs1.own _ wS).trans hG.out.2.2.2.2;have hd1:=hG.out.2.2.1.step hs1 (fun h=>tg.2.2.1.2.1 h.symm);have hst1:=ApU.out.trans (hs1.mono (T':=fun t=>t = S \/ t = A \/ t = B) (fun _ h => .inr (.inl h)));clear hop hs1;go_wp2_with fail;refine (Fq w1).mono ?_;rintro e w' ⟨rfl,rfl⟩;have hset:=(aj.refl (ak S) w1 o1).setCell (a:=⟨ps,1,none⟩) (.pointer (some ⟨pn,0,none⟩)) (.inl (by show (o1 ps).1 = S;rw [zp]));have up2:(w1.setCell ⟨ps,1,none⟩ (.pointer (some ⟨pn,0,none⟩))).heap[ps]? = some (.cells (storeCells pd (.pointer (some ⟨pn,0,none⟩)) (.pointer none) H 0 0 0 0 (.slice none 0 0) false).toArray 108 (0,0)):=Ai (i:=1) _ up;have Aef:w.heap.size ≠ ps:=by rintro rfl;omega
   have AhR:w.heap.size + 1 ≠ ps:=by intro h;rw [h,zp] at z3;exact tg.2.1.2.2.2 (Prod.mk.inj z3).1
   have u22:=(Below.heap_setCell w1 (aW ps 1) (.pointer pn) w.heap.size Aef).trans u2;have u32:=(Below.heap_setCell w1 (aW ps 1) (.pointer pn) (w.heap.size + 1) AhR).trans u3;have Aeg:=zW.step hset (fun h=>tg.2.1.1 h.symm) (fun h=>tg.1.1 h);have hd2:=hd1.step hset (fun h=>tg.2.1.2.2.1 h.symm);have hst2:=hst1.setCell (a:=(aW ps 1)) (.pointer pn) (.inl (by show (o1 ps).1 = S \/ _;rw [zp];simp));have q1:=hS1.1;have q2:w1.frozen? (aW ps 1) = false:=Ap up 1;have q3:=ag up 1;obtain ⟨W2,hw2⟩:=az (w1.setCell (aW ps 1) (.pointer pn));rw [hw2] at up2 u22 u32 Aeg hd2 hst2;have AiU:=ae hw2;have Amr:=ae (Qs Aeg _ rfl);have hwf:=Aeg;obtain ⟨-, -, -, -, -, -, -,hwf⟩:=hwf;clear hset hw2 hS1 up u2 u3 zW hd1 hst1;go_wp2_with fail;rw [AiU.out];refine Amr.out.mono ?_;rintro e w3 ⟨v3,o3',rfl,hs3,vs,hown, -,hrb,hz⟩;have Alq:sH w3 o3' v3 a0.records.length vs:=XG hown (fun k hk=>by rw [hz k (hown.lt k hk).1]);have hrl:a0.records.length <= 300:=by
    have h1:=hwf.2.2.2.2.1;have h2:=hwf.2.2.2.2.2.1;have h3:a0.n = H:=by rw [<-AvI.out];exact Ad.Bq _ _ _
    omega
   have hrep:=Oe Alq hrb (fun b hb=>Nat.le_trans (hwf.2.2.2.2.2.2 b hb) aP) hrl AtO.out;simp only [Dy] at hrep;have AhQ:=ae hrep;clear hrep Alq hown hrb hz Amr;go_wp2_with fail;refine AhQ.out.mono ?_;rintro e w4 ⟨v4,o4,rfl,hs4,lv,rfl,hl4, -⟩;clear AhQ;have s34:=hs3.trans hs4;have hal:=ae (AB (P:=prog) w4 55 _ LX);have s5a:=(aj.refl ai w4 o4).alloc (.cells #[.int .u64 0, .int .u64 0, .slice none 0 0] 55) (Y,0);have b5a:(w4.alloc (.cells #[.int .u64 0, .int .u64 0, .slice none 0 0] 55)).heap[w4.heap.size]? = some (.cells [.int .u64 0, .int .u64 0, .slice none 0 0].toArray 55 (0,0)):=heap_alloc_new w4 _;have y5a:Ak o4 w4.heap.size (Y,0) w4.heap.size = (Y,0):=bu;obtain ⟨lla,llc,hlv⟩:=hl4.form;obtain ⟨hso,hsb⟩:=Ba (P:=prog) (ty:=55) (vs:=[(k0.promised:aV), (k0.current:aV),lv]) b5a rfl bf (by rw [hlv];rfl);have Aaz:=ae hso;have s5:=(s5a.mono (T':=ak Y) dh).setCells w4.heap.size 0 [(k0.promised:aV), (k0.current:aV),lv] bu;have hst5:=(hst2.trans (s34.mono (T':=fun t=>t = S \/ t = A \/ t = B) dh)).trans ((s5a.mono (T':=fun t=>t = S \/ t = A \/ t = B) dh).setCells w4.heap.size 0 [(k0.promised:aV), (k0.current:aV),lv] bu);generalize Ak o4 w4.heap.size (Y,0) = o5 at *;obtain ⟨W5,hW5⟩:=az ((w4.alloc (.cells #[.int .u64 0, .int .u64 0, .slice none 0 0] 55)).setCells w4.heap.size 0 [(k0.promised:aV), (k0.current:aV),lv]);rw [hW5] at Aaz hsb s5 hst5;have e5:=(hs4.block w.heap.size (au (hs3.di u22 id)) id).trans (hs3.di u22 id);have e53:=(hs4.block (w.heap.size + 1) (au (hs3.di u32 id)) id).trans (hs3.di u32 id);have e5p:=(hs4.block ps (au (hs3.di up2 id)) id).trans (hs3.di up2 id);have Ahm:∀ k,k < w4.heap.size->W5.heap[k]? = w4.heap[k]?:=fun k hk=>by
    rw [<-hW5,ah _ _ _ _ _ aP];exact Below.heap_alloc _ _ _ hk
   have e5:=(Ahm _ (au e5)).trans e5;have e53:=(Ahm _ (au e53)).trans e53;have AfV:w4.heap.size ≠ ps:=by have:=au e5p;omega
   have h28:w.heap.size ≠ w4.heap.size:=by have:=s34.size;have:=au u22;omega
   have e5p:=(Ahm _ (au e5p)).trans e5p;have Aez:=(s34.only Y).trans s5;have z25:=(Aez.own _ (au u22)).trans z2;have z35:=(Aez.own _ (au u32)).trans z3;have zp5:=(Aez.own _ (au up2)).trans zp;have AhY:=Aeg.step Aez (fun h=>tg.2.2.1.2.2 h) (fun h=>tg.1.2.2.2.2 h);have hd5:=hd2.step Aez (fun h=>tg.2.2.2.2 h);have hl5:=(hl4.step s5 (fun h=>tg.1.2.2.2.2 h)).low (Nat.le_trans hst2.size hs3.size);have hG5:=aa3 (aI e5 z25) e53 z35;have hA5:=aa5 zp5 AhY hd5 hl5 hst5;have hbK:=ae hsb;have pH:=ae e5p;have c5:=ag (cs:=[_]) e5 0;have p55:W5.cell? (aW ps 5) = some (.int .u64 0):=by simpa [storeCells] using ag e5p 5
   obtain ⟨b8,hb8⟩:=az (w4.heap.size);rw [hb8] at hal Aaz hbK AfV h28;have Aki:=ae hlv;clear hlv hso s5a s5 b5a y5a hsb hst5 hW5 Ahm e5 e53 e5p Aez z25 z35 zp5 AhY hd5 hl5 hl4 s34 hs3 hs4 Aeg hd2 hst2 u22 u32 up2 z2 z3 zp q1 q2 q3 AiU W2 hb8
   by_cases hc:0 < g0.toNat
   ·go_wp2_with (first
     | ((with_reducible apply AU);exact hal.out;simp only [Act.put,lsa,lsz,lss])
     | ((with_reducible apply AC);exact Aaz.out;simp only [Act.put]))
    have p0:(W5.drew).heap[ps]? = some (.cells (storeCells pd (.pointer pn) (.pointer none) H 0 0 0 0 (.slice none 0 0) false).toArray 108 (0,0)):=pH.out;have p1:=Ai (i:=4) (.int .i64 0) p0;have p2:=Ai (i:=5) (g0:aV) p1;have p3:((((W5.drew).setCell (aW ps 4) (.int .i64 0)).setCell (aW ps 5) (g0:aV)).setCells ps 6 [(k0.promised:aV), (k0.current:aV),lv]).heap[ps]? = some (.cells (storeCells pd (.pointer pn) (.pointer none) H 0 g0 k0.promised k0.current lv false).toArray 108 (0,0)):=BP ps 108 _ 6 _ _ p2 (by simp [storeCells]);have AfS:=ae (run_storeAt_mid (P:=prog) (((W5.drew).setCell (aW ps 4) (.int .i64 0)).setCell (aW ps 5) (g0:aV)) ps 6 55 #[(k0.promised:aV), (k0.current:aV),lv] (Dh p2 6 3 (by simp [storeCells])) Ij (by rw [Aki.out];simp [Value.oneCell']));have zp5:=hA5.out.1;have Acs:=(((aj.refl (ak S) W5 o5).drew.setCell (a:=(aW ps 4)) (.int .i64 0) (.inl (by show (o5 ps).1 = S;rw [zp5]))).setCell (a:=(aW ps 5)) (g0:aV) (.inl (by show (o5 ps).1 = S;rw [zp5]))).setCells ps 6 [(k0.promised:aV), (k0.current:aV),lv] (.inl (by show (o5 ps).1 = S;rw [zp5]));have v2:=Acs.di hG5.out.1.1 (by rw [hG5.out.1.2];exact fun h=>tg.2.1.2.2.2 h.symm);have v3':=Acs.di hG5.out.2.1 (by rw [hG5.out.2.2];exact fun h=>tg.2.1.2.2.2 h.symm);have AmE:=ae (show OpenSt ((((W5.drew).setCell (aW ps 4) (.int .i64 0)).setCell (aW ps 5) (g0:aV)).setCells ps 6 [(k0.promised:aV), (k0.current:aV),lv]) o5 S A B D Y w.heap.size ps pd w.heap.size H d a0 a1 g0 g1 k0 k1 1 from
     ⟨⟨⟨v2,hG5.out.1.2⟩,⟨v3',hG5.out.2.2⟩,hA5.out.2.2.1.step Acs (fun h=>tg.2.1.2.2.1 h.symm)⟩, .inr (.inl ⟨rfl,pn,lv,⟨p3,zp5⟩,hA5.out.2.2.2.1.step Acs (fun h=>tg.1.1 h),hA5.out.2.1.step Acs (fun h=>tg.2.1.1 h.symm) (fun h=>tg.1.1 h)⟩)⟩)
    have pW:=ae (hA5.out.2.2.2.2.trans (Acs.mono (T':=fun t=>t = S \/ t = A \/ t = B) (fun _ h => .inl h)));have f54:(W5.drew).frozen? (aW ps 4) = false:=Ap p0 4;have f55:(W5.drew).frozen? (aW ps 5) = false:=Ap p0 5;have c54:=ag p0 4;have c55:=ag p0 5;simp only [storeCells,ax,ay] at c54 c55;have d2:(W5.drew).heap[w.heap.size]? = _:=hG5.out.1.1;have d8:(W5.drew).heap[b8]? = _:=hbK.out;have d21:=(Below.heap_setCell (W5.drew) (aW ps 4) (.int .i64 0) w.heap.size Aef).trans d2;have d81:=(Below.heap_setCell (W5.drew) (aW ps 4) (.int .i64 0) b8 AfV).trans d8;have d22:=(Below.heap_setCell ((W5.drew).setCell (aW ps 4) (.int .i64 0)) (aW ps 5) (g0:aV) w.heap.size Aef).trans d21;have d82:=(Below.heap_setCell ((W5.drew).setCell (aW ps 4) (.int .i64 0)) (aW ps 5) (g0:aV) b8 AfV).trans d81;have d23:=(ah ps [(k0.promised:aV), (k0.current:aV),lv] 6 (((W5.drew).setCell (aW ps 4) (.int .i64 0)).setCell (aW ps 5) (g0:aV)) w.heap.size Aef).trans d22;have d83:=(ah ps [(k0.promised:aV), (k0.current:aV),lv] 6 (((W5.drew).setCell (aW ps 4) (.int .i64 0)).setCell (aW ps 5) (g0:aV)) b8 AfV).trans d82;have Ajm:W5.drew.cell? w.heap.size = some (.pointer ps)/\W5.drew.heap[b8]? = some (.cells [(k0.promised:aV), (k0.current:aV),lv].toArray 55 (0,0)):=aI c5 hbK.out;have hS8:((W5.drew).setCell (aW ps 4) (.int .i64 0)).cell? w.heap.size = some (.pointer ps)/\((W5.drew).setCell (aW ps 4) (.int .i64 0)).heap[b8]? = some (.cells [(k0.promised:aV), (k0.current:aV),lv].toArray 55 (0,0)):=aI (ag (cs:=[_]) d21 0) d81;have AcA:(((W5.drew).setCell (aW ps 4) (.int .i64 0)).setCell (aW ps 5) (g0:aV)).cell? w.heap.size = some (.pointer ps)/\(((W5.drew).setCell (aW ps 4) (.int .i64 0)).setCell (aW ps 5) (g0:aV)).heap[b8]? = some (.cells [(k0.promised:aV), (k0.current:aV),lv].toArray 55 (0,0)):=aI (ag (cs:=[_]) d22 0) d82;have Afb:((((W5.drew).setCell (aW ps 4) (.int .i64 0)).setCell (aW ps 5) (g0:aV)).setCells ps 6 [(k0.promised:aV), (k0.current:aV),lv]).cell? w.heap.size = some (.pointer ps)/\((((W5.drew).setCell (aW ps 4) (.int .i64 0)).setCell (aW ps 5) (g0:aV)).setCells ps 6 [(k0.promised:aV), (k0.current:aV),lv]).heap[b8]? = some (.cells [(k0.promised:aV), (k0.current:aV),lv].toArray 55 (0,0)):=aI (ag (cs:=[_]) d23 0) d83;clear p0 p1 p2 p3 Acs v2 v3' zp5 d2 d8 d21 d81 d22 d82 d23 d83 p55 Aaz hal pH c5 Aqj Aef AhR AfV h28;obtain ⟨V,hV⟩:=az (W5.drew);rw [hV] at AmE pW f54 f55 c54 c55 Ajm hS8 AcA Afb AfS;have Arp:=ae hS8;have AmA:=ae AcA;have Amz:=ae Afb;clear hS8 AcA Afb;refine Aa (fun w'=>w'.cell? w.heap.size = some (.pointer ps)/\w'.heap[b8]? = some (.cells [(k0.promised:aV), (k0.current:aV),lv].toArray 55 (0,0))) (fun _=>true) bf (by rw [hV];omega) (fun hHeld => ?_);clear hHeld;rw [hV];clear hV;have Ars:=Ajm;refine tp 0 (h:=tp 1 (h:=tp 2 (h:=tp 3 (h:=tp 4 (h:=?_)))));refine Dt (i:=5) (v := .agg [(k0.promised:aV), (k0.current:aV),lv].toArray) rfl bf (fun _ _ _ h=>AQ bz h) (yieldsIf_load_mid rfl 55 (.tmp 8) rfl b8 0 rfl [(k0.promised:aV), (k0.current:aV),lv] _ (fun w h=>AV h.2) underlying55 rfl bf) aP ?_;simp only [Act.put,lsa,lsz,lss];refine tp 6 (h:=tp 7 (h:=tO 8 (h:=?_)));go_wp2_with fail;have hS8:=Arp.out
    first | refine ⟨fun _=>hS8, ?_⟩ | refine ⟨hS8.2, ?_⟩
    refine tp 9 (h:=tp 10 (h:=tO 11 (h:=?_)));go_wp2_with fail;have AcA:=AmA.out
    first | refine ⟨fun _=>AcA, ?_⟩ | refine ⟨AcA.2, ?_⟩
    refine tp 12 (h:=tp 13 (h:=tO 14 (h:=?_)));apply AC
    ·exact AfS.out
    simp only [Act.put];go_wp2_with fail;have Afb:=Amz.out
    first | refine ⟨fun _=>Afb, ?_⟩ | refine ⟨Afb.2, ?_⟩
    refine tD (h:=?_);go_wp2_with fail;go_roundw
    case rel=>exact ⟨1,o5,aP,by rfl,AmE.out,pW.out⟩
    case measure=>simp [intOf]
   ·go_wp2_with (first
     | ((with_reducible apply AU);exact hal.out;simp only [Act.put,lsa,lsz,lss])
     | ((with_reducible apply AC);exact Aaz.out;simp only [Act.put]))
    have hg0:g0 = 0:=BitVec.eq_of_toNat_eq bg;have hk0:k0 = ⟨0,0,[]⟩:=UM (by rw [<-hg0];exact AtO.out);refine ⟨⟨1,o5,aP,rfl,⟨⟨⟨hG5.out.1.1,hG5.out.1.2⟩,⟨hG5.out.2.1,hG5.out.2.2⟩,hA5.out.2.2.1⟩, .inr (.inl ⟨rfl,pn, .slice none 0 0,⟨by rw [hg0,hk0];assumption,hA5.out.1⟩,by rw [hk0];exact Lines.nil _ _ _,hA5.out.2.1⟩)⟩,hA5.out.2.2.2.2⟩,by simp [intOf]⟩
  ·have cP3:wr.cell? (aW ps 3) = some (H:aV):=ag hps 3;have wS:=au hps;have Aqj:¬ ps = w.heap.size:=bg
   have hG:=aa5 (aI hb2 ho2) (aI hb3 ho3) hdk hps hops;have hS:=aI c2 cP3;have ApU:=ae hst;have sS:=ae hla;have Azw:=ae hkv;clear hla hkv;have hop:=ae (fun (x:World) (ox:Own) (hx:aj ai wr oj x ox)=>UZ (L:=B) (D:=D) (fun h=>AfR.out.1.2.2.1 h.symm) (fun h=>AfR.out.1.2.2.2.1 h.symm) (fun h=>AfR.out.2.2.2.1.1 h) (hdk.step hx id) pM.out AbE.out (H) H aP aP (by have:=hhH.out;omega));clear hb2 hb3 hdk hps hst f3 c3 cP3 c2 f2;go_wp2_with fail;refine Aa (fun w'=>w'.cell? w.heap.size = some (.pointer ps)/\w'.cell? (aW ps 3) = some (H:aV)) (fun _=>true) bf hS (fun hHeld => ?_);refine tp 0 (h:=tp 1 (h:=tp 2 (h:=tp 3 (h:=tp 4 (h:=tp 5 (h:=tv 6 (H:aV) (hy:=fun w hSw=>by (try dsimp only at hSw);go_simp;first | done | rfl | exact wrap_i64 aP aP) (hQ:=by exact fun _ _ _ h=>AQ bz h) (h:=tp 7 (h:=tp 8 (h:=tp 9 (h:=tp 10 (h:=tO 11 (h:=?_))))))))))))
   go_wp2_with fail;have hdr:=(aj.refl ai wr oj).drew;refine (hop.out _ _ hdr).mono ?_;rintro e w1 ⟨v1,o1,rfl,hs1,AlI⟩;obtain ⟨pn, -,rfl,zW⟩:=AlI.2 Bay.out;rw [AvH.out] at zW;have hs1:aj (ak B) wr oj w1 o1:=(hdr.only B).trans hs1;clear AlI hHeld;have tg:=AfR.out;have u2:=hs1.di hG.out.1.1 (by rw [hG.out.1.2];exact fun h=>tg.2.2.2.1.2 h.symm);have u3:=hs1.di hG.out.2.1.1 (by rw [hG.out.2.1.2];exact fun h=>tg.2.2.2.1.2 h.symm);have up:=(hs1.block _ wS (by rw [hG.out.2.2.2.2];exact fun h=>tg.2.1.2.1 h)).trans hG.out.2.2.2.1;have hS1:=aI (ag (cs:=[_]) u2 0) (ag up 3);go_wp2_with fail;refine ⟨fun _=>hS1, ?_⟩;refine tp 12 (h:=tp 13 (h:=tp 14 (h:=tp 15 (h:=tp 16 (h:=tD (h:=?_))))));have z2:=(hs1.own _ aP).trans hG.out.1.2;have z3:=(hs1.own _ (au hG.out.2.1.1)).trans hG.out.2.1.2;have zp:=(hs1.own _ wS).trans hG.out.2.2.2.2;have hd1:=hG.out.2.2.1.step hs1 (fun h=>tg.2.2.2.1.1 h.symm);have AuH:=sS.out.step hs1 (fun h=>tg.2.2.1.1 h) (fun h=>tg.1.2.2.1 h);have AuM:=Azw.out.step hs1 (fun h=>tg.1.2.2.1 h);have hst1:=ApU.out.trans (hs1.mono (T':=fun t=>t = S \/ t = A \/ t = B) (fun _ h => .inr (.inr h)));clear hop hs1;go_wp2_with fail;refine (Fq w1).mono ?_;rintro e w' ⟨rfl,rfl⟩;have hset:=(aj.refl (ak S) w1 o1).setCell (a:=⟨ps,2,none⟩) (.pointer (some ⟨pn,0,none⟩)) (.inl (by show (o1 ps).1 = S;rw [zp]));have up2:(w1.setCell ⟨ps,2,none⟩ (.pointer (some ⟨pn,0,none⟩))).heap[ps]? = some (.cells (storeCells pd (.pointer (some ⟨pa,0,none⟩)) (.pointer (some ⟨pn,0,none⟩)) H 0 g0 k0.promised k0.current kv false).toArray 108 (0,0)):=Ai (i:=2) _ up;have Aef:w.heap.size ≠ ps:=by rintro rfl;omega
   have AhR:w.heap.size + 1 ≠ ps:=by intro h;rw [h,zp] at z3;exact tg.2.1.2.2.2 (Prod.mk.inj z3).1
   have u22:=(Below.heap_setCell w1 (aW ps 2) (.pointer pn) w.heap.size Aef).trans u2;have u32:=(Below.heap_setCell w1 (aW ps 2) (.pointer pn) (w.heap.size + 1) AhR).trans u3;have Aeg:=zW.step hset (fun h=>tg.2.1.2.1 h.symm) (fun h=>tg.1.1 h);have hd2:=hd1.step hset (fun h=>tg.2.1.2.2.1 h.symm);have AqF:=AuH.step hset (fun h=>tg.2.1.1 h.symm) (fun h=>tg.1.1 h);have AqI:=AuM.step hset (fun h=>tg.1.1 h);have hst2:=hst1.setCell (a:=(aW ps 2)) (.pointer pn) (.inl (by show (o1 ps).1 = S \/ _;rw [zp];simp));have q1:=hS1.1;have q2:w1.frozen? (aW ps 2) = false:=Ap up 2;have q3:=ag up 2;obtain ⟨W2,hw2⟩:=az (w1.setCell (aW ps 2) (.pointer pn));rw [hw2] at up2 u22 u32 Aeg hd2 hst2 AqF AqI;have AiU:=ae hw2;have Amr:=ae (Qs Aeg _ rfl);have hwf:=Aeg;obtain ⟨-, -, -, -, -, -, -,hwf⟩:=hwf;clear hset hw2 hS1 up u2 u3 zW hd1 hst1 AuH AuM;go_wp2_with fail;rw [AiU.out];refine Amr.out.mono ?_;rintro e w3 ⟨v3,o3',rfl,hs3,vs,hown, -,hrb,hz⟩;have Alq:sH w3 o3' v3 a1.records.length vs:=XG hown (fun k hk=>by rw [hz k (hown.lt k hk).1]);have hrl:a1.records.length <= 300:=by
    have h1:=hwf.2.2.2.2.1;have h2:=hwf.2.2.2.2.2.1;have h3:a1.n = H:=by rw [<-AvH.out];exact Ad.Bq _ _ _
    omega
   have hrep:=Oe Alq hrb (fun b hb=>Nat.le_trans (hwf.2.2.2.2.2.2 b hb) aP) hrl Akg.out;simp only [Dy] at hrep;have AhQ:=ae hrep;clear hrep Alq hown hrb hz Amr;go_wp2_with fail;refine AhQ.out.mono ?_;rintro e w4 ⟨v4,o4,rfl,hs4,lv,rfl,hl4, -⟩;clear AhQ;have s34:=hs3.trans hs4;have hal:=ae (AB (P:=prog) w4 55 _ LX);have s5a:=(aj.refl ai w4 o4).alloc (.cells #[.int .u64 0, .int .u64 0, .slice none 0 0] 55) (Y,0);have b5a:(w4.alloc (.cells #[.int .u64 0, .int .u64 0, .slice none 0 0] 55)).heap[w4.heap.size]? = some (.cells [.int .u64 0, .int .u64 0, .slice none 0 0].toArray 55 (0,0)):=heap_alloc_new w4 _;have y5a:Ak o4 w4.heap.size (Y,0) w4.heap.size = (Y,0):=bu;obtain ⟨lla,llc,hlv⟩:=hl4.form;obtain ⟨hso,hsb⟩:=Ba (P:=prog) (ty:=55) (vs:=[(k1.promised:aV), (k1.current:aV),lv]) b5a rfl bf (by rw [hlv];rfl);have Aaz:=ae hso;have s5:=(s5a.mono (T':=ak Y) dh).setCells w4.heap.size 0 [(k1.promised:aV), (k1.current:aV),lv] bu;have hst5:=(hst2.trans (s34.mono (T':=fun t=>t = S \/ t = A \/ t = B) dh)).trans ((s5a.mono (T':=fun t=>t = S \/ t = A \/ t = B) dh).setCells w4.heap.size 0 [(k1.promised:aV), (k1.current:aV),lv] bu);generalize Ak o4 w4.heap.size (Y,0) = o5 at *;obtain ⟨W5,hW5⟩:=az ((w4.alloc (.cells #[.int .u64 0, .int .u64 0, .slice none 0 0] 55)).setCells w4.heap.size 0 [(k1.promised:aV), (k1.current:aV),lv]);rw [hW5] at Aaz hsb s5 hst5;have e5:=(hs4.block w.heap.size (au (hs3.di u22 id)) id).trans (hs3.di u22 id);have e53:=(hs4.block (w.heap.size + 1) (au (hs3.di u32 id)) id).trans (hs3.di u32 id);have e5p:=(hs4.block ps (au (hs3.di up2 id)) id).trans (hs3.di up2 id);have Ahm:∀ k,k < w4.heap.size->W5.heap[k]? = w4.heap[k]?:=fun k hk=>by
    rw [<-hW5,ah _ _ _ _ _ aP];exact Below.heap_alloc _ _ _ hk
   have e5:=(Ahm _ (au e5)).trans e5;have e53:=(Ahm _ (au e53)).trans e53;have AfV:w4.heap.size ≠ ps:=by have:=au e5p;omega
   have h28:w.heap.size ≠ w4.heap.size:=by have:=s34.size;have:=au u22;omega
   have e5p:=(Ahm _ (au e5p)).trans e5p;have Aez:=(s34.only Y).trans s5;have z25:=(Aez.own _ (au u22)).trans z2;have z35:=(Aez.own _ (au u32)).trans z3;have zp5:=(Aez.own _ (au up2)).trans zp;have AhY:=Aeg.step Aez (fun h=>tg.2.2.2.1.2 h) (fun h=>tg.1.2.2.2.2 h);have hd5:=hd2.step Aez (fun h=>tg.2.2.2.2 h);have rU:=AqF.step Aez (fun h=>tg.2.2.1.2.2 h) (fun h=>tg.1.2.2.2.2 h);have AuL:=AqI.step Aez (fun h=>tg.1.2.2.2.2 h);have hB5:=aa2 rU AuL;have hl5:=(hl4.step s5 (fun h=>tg.1.2.2.2.2 h)).low (Nat.le_trans hst2.size hs3.size);have hG5:=aa3 (aI e5 z25) e53 z35;have hA5:=aa5 zp5 AhY hd5 hl5 hst5;have hbK:=ae hsb;have pH:=ae e5p;have c5:=ag (cs:=[_]) e5 0;have p55:W5.cell? (aW ps 5) = some (g0:aV):=by simpa [storeCells] using ag e5p 5
   obtain ⟨b8,hb8⟩:=az (w4.heap.size);rw [hb8] at hal Aaz hbK AfV h28;have Aki:=ae hlv;clear hlv hso s5a s5 b5a y5a hsb hst5 hW5 Ahm e5 e53 e5p Aez z25 z35 zp5 AhY hd5 hl5 hl4 s34 hs3 hs4 Aeg hd2 hst2 u22 u32 up2 z2 z3 zp q1 q2 q3 AiU W2 hb8 rU AuL AqF AqI
   by_cases hc:g0.toNat < g1.toNat
   ·go_wp2_with (first
     | ((with_reducible apply AU);exact hal.out;simp only [Act.put,lsa,lsz,lss])
     | ((with_reducible apply AC);exact Aaz.out;simp only [Act.put]))
    have p0:(W5.drew).heap[ps]? = some (.cells (storeCells pd (.pointer pa) (.pointer pn) H 0 g0 k0.promised k0.current kv false).toArray 108 (0,0)):=pH.out;have p1:=Ai (i:=4) (.int .i64 1) p0;have p2:=Ai (i:=5) (g1:aV) p1;have p3:((((W5.drew).setCell (aW ps 4) (.int .i64 1)).setCell (aW ps 5) (g1:aV)).setCells ps 6 [(k1.promised:aV), (k1.current:aV),lv]).heap[ps]? = some (.cells (storeCells pd (.pointer pa) (.pointer pn) H 1 g1 k1.promised k1.current lv false).toArray 108 (0,0)):=BP ps 108 _ 6 _ _ p2 (by simp [storeCells]);have AfS:=ae (run_storeAt_mid (P:=prog) (((W5.drew).setCell (aW ps 4) (.int .i64 1)).setCell (aW ps 5) (g1:aV)) ps 6 55 #[(k1.promised:aV), (k1.current:aV),lv] (Dh p2 6 3 (by simp [storeCells])) Ij (by rw [Aki.out];simp [Value.oneCell']));have zp5:=hA5.out.1;have Acs:=(((aj.refl (ak S) W5 o5).drew.setCell (a:=(aW ps 4)) (.int .i64 1) (.inl (by show (o5 ps).1 = S;rw [zp5]))).setCell (a:=(aW ps 5)) (g1:aV) (.inl (by show (o5 ps).1 = S;rw [zp5]))).setCells ps 6 [(k1.promised:aV), (k1.current:aV),lv] (.inl (by show (o5 ps).1 = S;rw [zp5]));have v2:=Acs.di hG5.out.1.1 (by rw [hG5.out.1.2];exact fun h=>tg.2.1.2.2.2 h.symm);have v3':=Acs.di hG5.out.2.1 (by rw [hG5.out.2.2];exact fun h=>tg.2.1.2.2.2 h.symm);have AmE:=ae (show OpenSt ((((W5.drew).setCell (aW ps 4) (.int .i64 1)).setCell (aW ps 5) (g1:aV)).setCells ps 6 [(k1.promised:aV), (k1.current:aV),lv]) o5 S A B D Y w.heap.size ps pd w.heap.size H d a0 a1 g0 g1 k0 k1 2 from
     ⟨⟨⟨v2,hG5.out.1.2⟩,⟨v3',hG5.out.2.2⟩,hA5.out.2.2.1.step Acs (fun h=>tg.2.1.2.2.1 h.symm)⟩, .inr (.inr ⟨rfl,by unfold PO;rw [if_pos hc];exact ⟨B,A,pn,pa,1,lv, bu,⟨_,_,p3, bu,zp5⟩,hA5.out.2.2.2.1.step Acs (fun h=>tg.1.1 h),hA5.out.2.1.step Acs (fun h=>tg.2.1.2.1 h.symm) (fun h=>tg.1.1 h),hB5.out.1.step Acs (fun h=>tg.2.1.1 h.symm) (fun h=>tg.1.1 h),hA5.out.2.2.1.step Acs (fun h=>tg.2.1.2.2.1 h.symm)⟩⟩)⟩)
    have pW:=ae (hA5.out.2.2.2.2.trans (Acs.mono (T':=fun t=>t = S \/ t = A \/ t = B) (fun _ h => .inl h)));have f54:(W5.drew).frozen? (aW ps 4) = false:=Ap p0 4;have f55:(W5.drew).frozen? (aW ps 5) = false:=Ap p0 5;have c54:=ag p0 4;have c55:=ag p0 5;simp only [storeCells,ax,ay] at c54 c55;have d2:(W5.drew).heap[w.heap.size]? = _:=hG5.out.1.1;have d8:(W5.drew).heap[b8]? = _:=hbK.out;have d21:=(Below.heap_setCell (W5.drew) (aW ps 4) (.int .i64 1) w.heap.size Aef).trans d2;have d81:=(Below.heap_setCell (W5.drew) (aW ps 4) (.int .i64 1) b8 AfV).trans d8;have d22:=(Below.heap_setCell ((W5.drew).setCell (aW ps 4) (.int .i64 1)) (aW ps 5) (g1:aV) w.heap.size Aef).trans d21;have d82:=(Below.heap_setCell ((W5.drew).setCell (aW ps 4) (.int .i64 1)) (aW ps 5) (g1:aV) b8 AfV).trans d81;have d23:=(ah ps [(k1.promised:aV), (k1.current:aV),lv] 6 (((W5.drew).setCell (aW ps 4) (.int .i64 1)).setCell (aW ps 5) (g1:aV)) w.heap.size Aef).trans d22;have d83:=(ah ps [(k1.promised:aV), (k1.current:aV),lv] 6 (((W5.drew).setCell (aW ps 4) (.int .i64 1)).setCell (aW ps 5) (g1:aV)) b8 AfV).trans d82;have Ajm:W5.drew.cell? w.heap.size = some (.pointer ps)/\W5.drew.heap[b8]? = some (.cells [(k1.promised:aV), (k1.current:aV),lv].toArray 55 (0,0)):=aI c5 hbK.out;have hS8:((W5.drew).setCell (aW ps 4) (.int .i64 1)).cell? w.heap.size = some (.pointer ps)/\((W5.drew).setCell (aW ps 4) (.int .i64 1)).heap[b8]? = some (.cells [(k1.promised:aV), (k1.current:aV),lv].toArray 55 (0,0)):=aI (ag (cs:=[_]) d21 0) d81;have AcA:(((W5.drew).setCell (aW ps 4) (.int .i64 1)).setCell (aW ps 5) (g1:aV)).cell? w.heap.size = some (.pointer ps)/\(((W5.drew).setCell (aW ps 4) (.int .i64 1)).setCell (aW ps 5) (g1:aV)).heap[b8]? = some (.cells [(k1.promised:aV), (k1.current:aV),lv].toArray 55 (0,0)):=aI (ag (cs:=[_]) d22 0) d82;have Afb:((((W5.drew).setCell (aW ps 4) (.int .i64 1)).setCell (aW ps 5) (g1:aV)).setCells ps 6 [(k1.promised:aV), (k1.current:aV),lv]).cell? w.heap.size = some (.pointer ps)/\((((W5.drew).setCell (aW ps 4) (.int .i64 1)).setCell (aW ps 5) (g1:aV)).setCells ps 6 [(k1.promised:aV), (k1.current:aV),lv]).heap[b8]? = some (.cells [(k1.promised:aV), (k1.current:aV),lv].toArray 55 (0,0)):=aI (ag (cs:=[_]) d23 0) d83;clear p0 p1 p2 p3 Acs v2 v3' zp5 d2 d8 d21 d81 d22 d82 d23 d83 p55 Aaz hal pH c5 Aqj Aef AhR AfV h28;obtain ⟨V,hV⟩:=az (W5.drew);rw [hV] at AmE pW f54 f55 c54 c55 Ajm hS8 AcA Afb AfS;have Arp:=ae hS8;have AmA:=ae AcA;have Amz:=ae Afb;clear hS8 AcA Afb;refine Aa (fun w'=>w'.cell? w.heap.size = some (.pointer ps)/\w'.heap[b8]? = some (.cells [(k1.promised:aV), (k1.current:aV),lv].toArray 55 (0,0))) (fun _=>true) bf (by rw [hV];omega) (fun hHeld => ?_);clear hHeld;rw [hV];clear hV;have Ars:=Ajm;refine tp 0 (h:=tp 1 (h:=tp 2 (h:=tp 3 (h:=tp 4 (h:=?_)))));refine Dt (i:=5) (v := .agg [(k1.promised:aV), (k1.current:aV),lv].toArray) rfl bf (fun _ _ _ h=>AQ bz h) (yieldsIf_load_mid rfl 55 (.tmp 8) rfl b8 0 rfl [(k1.promised:aV), (k1.current:aV),lv] _ (fun w h=>AV h.2) underlying55 rfl bf) aP ?_;simp only [Act.put,lsa,lsz,lss];refine tp 6 (h:=tp 7 (h:=tO 8 (h:=?_)));go_wp2_with fail;have hS8:=Arp.out
    first | refine ⟨fun _=>hS8, ?_⟩ | refine ⟨hS8.2, ?_⟩
    refine tp 9 (h:=tp 10 (h:=tO 11 (h:=?_)));go_wp2_with fail;have AcA:=AmA.out
    first | refine ⟨fun _=>AcA, ?_⟩ | refine ⟨AcA.2, ?_⟩
    refine tp 12 (h:=tp 13 (h:=tO 14 (h:=?_)));apply AC
    ·exact AfS.out
    simp only [Act.put];go_wp2_with fail;have Afb:=Amz.out
    first | refine ⟨fun _=>Afb, ?_⟩ | refine ⟨Afb.2, ?_⟩
    refine tD (h:=?_);go_wp2_with fail;go_roundw
    case rel=>exact ⟨2,o5,aP,by rfl,AmE.out,pW.out⟩
    case measure=>simp [intOf]
   ·go_wp2_with (first
     | ((with_reducible apply AU);exact hal.out;simp only [Act.put,lsa,lsz,lss])
     | ((with_reducible apply AC);exact Aaz.out;simp only [Act.put]))
    refine ⟨⟨2,o5,aP,rfl,⟨⟨⟨hG5.out.1.1,hG5.out.1.2⟩,⟨hG5.out.2.1,hG5.out.2.2⟩,hA5.out.2.2.1⟩, .inr (.inr ⟨rfl,by unfold PO;rw [if_neg hc];exact ⟨A,B,pa,pn,0,kv, bu,⟨_,_,pH.out, .inl ⟨rfl,rfl,rfl⟩,hA5.out.1⟩,hB5.out.2,hB5.out.1,hA5.out.2.1,hA5.out.2.2.1⟩⟩)⟩,hA5.out.2.2.2.2⟩,by simp [intOf]⟩
  ·have hset:=((aj.refl (ak Y) wr oj).setCell (a:=w.heap.size) (.pointer ps) (.inl (by show (oj w.heap.size).1 = Y;grind))).setCell (a:=(aW (w.heap.size + 1) 0)) (.int .i64 0) (.inl (by show (oj (w.heap.size + 1)).1 = Y;grind));have AaM:=(hst.setCell (a:=w.heap.size) (.pointer ps) bu).setCell (a:=(aW (w.heap.size + 1) 0)) (.int .i64 0) bu;have hF:=ae (aI AaM (hfin.step hset (fun t ht=>by
    have:=AfR.out;subst ht;refine ⟨aP,fun h => ?_⟩
    rcases h with h | h | h | h
    omega
    omega
    omega
    omega)))
   have e2:=Ai (cs:=[_]) (i:=0) (.pointer ps) hb2;have e23:=(Below.heap_setCell wr w.heap.size (.pointer ps) (w.heap.size + 1) bu).trans hb3;have e3:=Ai (cs:=[_]) (i:=0) (.int .i64 0) e23;have e32:=(Below.heap_setCell (wr.setCell w.heap.size (.pointer ps)) (aW (w.heap.size + 1) 0) (.int .i64 0) w.heap.size bu).trans e2;have k2:=ag (cs:=[_]) e32 0;have k3:=ag (cs:=[_]) e3 0;have k2H:=ae k2;have k3H:=ae k3;clear hset AaM e2 e23 e3 e32 k2 k3 hst hfin;go_wp2_with fail;refine leaves_cons (f:=74) (args := #[.pointer w.heap.size, .pointer (some (aW (w.heap.size + 1) 0))]) bu (by rfl) ?_;refine (catch_idle _ _ _).mono ?_;rintro e u' w'' ⟨rfl,rfl,rfl⟩;have k2:=k2H.out;have k3:=k3H.out;refine ⟨.tuple #[.pointer (some ⟨ps,0,none⟩), .int .i64 0],by simp [results,go_sem,k2,k3],_,oj,rfl,hF.out.1,ps,Aza,rfl,hF.out.2⟩
end
theorem oQ.Tq (hn:n <= 8) (S:BitVec 64) (hS:S.toNat < 256 ^ n) (r:List UInt8):(oQ.mk (be n S ++ r) false).num n = (S,⟨r,false⟩):=by
 unfold oQ.num oQ.take;have hl:¬ (be n S ++ r).length < n:=by rw [List.length_append,Az];omega
 simp only [Bool.false_eq_true,if_false,if_neg hl,Option.map_some,Option.getD_some,Prod.mk.injEq,oQ.mk.injEq,and_true];rw [List.take_left' (Az n S),List.drop_left' (Az n S)];exact ⟨BitVec.eq_of_toNat_eq (NJ hn S hS),rfl⟩
theorem oQ.Hz (S:BitVec 64) (r:List UInt8):(oQ.mk (be 8 S ++ r) false).num 8 = (S,⟨r,false⟩):=
 oQ.Tq aP S aP r
theorem oQ.JY (c:UInt8) (r:List UInt8):(oQ.mk (c :: r) false).num 1 = (BitVec.ofNat 64 c.toNat,⟨r,false⟩):=by
 have hc:=c.toNat_lt;have:=oQ.Tq (n:=1) aP (BitVec.ofNat 64 c.toNat) bg r;grind [bP]
theorem oQ.ZC (b r:List UInt8) (hb:b.length < 4294967296):(oQ.mk (be 4 (BitVec.ofNat 64 b.length) ++ (b ++ r)) false).text = (b,⟨r,false⟩):=by
 have hl:(BitVec.ofNat 64 b.length).toNat = b.length:=bg
 unfold oQ.text;rw [oQ.Tq aP _ aP];unfold oQ.txt oQ.take;grind
def Short (ls:List Ar):Prop:=∀ x ∈ ls,x.b.length < 4294967296
theorem Ru (ls:List Ar) (h:Short ls) (r:List UInt8):∀ k,k <= ls.length->Ce k ⟨encs ls ++ r,false⟩ = (ls.take k,⟨encs (ls.drop k) ++ r,false⟩)
 | 0,_=>by rfl
 | k + 1,hk=>by
  have ih:=Ru ls h r k aP;have hx:ls[k]? = some ls[k]:=bu;have hd:ls.drop k = ls[k] :: ls.drop (k + 1):=bu;have he:encs (ls.drop k) ++ r = be 8 ls[k].e ++ (be 4 (BitVec.ofNat 64 ls[k].b.length) ++ (ls[k].b ++ (encs (ls.drop (k + 1)) ++ r))):=by
   grind [encs,Ar.enc]
  unfold Ce;rw [ih,he];simp only [oQ.Hz];rw [oQ.ZC _ _ (h _ bu)];rw [List.take_add_one,hx];rfl
theorem KP (ls:List Ar) (h:Short ls) (hn:ls.length <= 256) (r:List UInt8):(oQ.mk (GR ls ++ r) false).lines = (ls,⟨r,false⟩):=by
 have hc:(oQ.mk (GR ls ++ r) false).count 256 = (ls.length,⟨encs ls ++ r,false⟩):=by
  unfold oQ.count GR;rw [List.append_assoc,oQ.Hz];grind
 unfold oQ.lines;rw [hc];rw [Ru ls h r _ bu];simp [encs]
theorem Jp:(oQ.mk [] false).done = 0:=rfl
theorem Py (k:AX) (e:BitVec 64):Fh k (2 :: be 8 e) = some { k with promised:=e }:=by
 have h:=oQ.Hz e [];simp_all [Fh,oQ.JY,AX.Ez,Jp]
theorem Tc (k:AX) (e:BitVec 64) (ls:List Ar) (h:Short ls) (hn:ls.length <= 256):Fh k (3 :: (be 8 e ++ GR ls)) = some ⟨e,e,ls⟩:=by
 have hl:=KP ls h hn [];unfold Fh;simp_all [oQ.JY,AX.FW,oQ.Hz,Jp]
theorem QI (k:AX) (ls:List Ar) (h:Short ls) (hn:ls.length <= 256):Fh k (4 :: GR ls) = some { k with lines:=k.lines ++ ls }:=by
 have hl:=KP ls h hn [];simp_all [Fh,oQ.JY,AX.Fb,Jp]
theorem Td (age p c:BitVec 64) (ls:List Ar) (ha:0 < age.toNat) (h:Short ls) (hn:ls.length <= 256):EF (IY age p c ls) = some (age,⟨p,c,ls⟩):=by
 have hl:=KP ls h hn [];simp_all [EF,IY,oQ.JY,oQ.Hz,Jp]
theorem Om (b:List UInt8):∀ (rs:List (List UInt8)) (k kf kn:AX),FV k rs = some kf->Fh kf b = some kn->FV k (rs ++ [b]) = some kn
 | [],k,kf,kn,h,h1=>by
  grind [FV]
 | x :: r,k,kf,kn,h,h1=>by
  obtain ⟨k',h2,h3⟩:=Oo h;have:=Om b r k' kf kn h3 h1;grind [FV]
theorem Oi {rs:List (List UInt8)} {kn:AX} (h:DK rs = some (age,k)) (ha:0 < age.toNat) (h1:Fh k b = some kn):DK (rs ++ [b]) = some (age,kn):=by
 cases rs with
 | nil =>
  simp [DK,Option.some.injEq,Prod.mk.injEq] at h;grind
 | cons x r =>
  change (match EF x with | some (a,k)=>(FV k r).map (fun k'=>(a,k')) | none=>none) = some (age,k) at h
  cases hf:EF x with
  | none=>grind
  | some y =>
   simp_all [DK,Om]
theorem Px (h:EF b = some (age,k)):DK [b] = some (age,k):=by
 simp [DK,h,FV]
structure BG where
 k:Nat
 e:BitVec 64
 c:BitVec 64
 at':Nat
 com:Nat
 ls:List Ar
def Ar.may (x:Ar):Prop:=(1 <= x.e.toNat/\x.e.toNat <= 281474976710656)/\1 <= x.b.length/\x.b.length <= 4096
structure BG.May (m:BG):Prop where
 k1:1 <= m.k
 k6:m.k <= 6
 e1:1 <= m.e.toNat
 e2:m.e.toNat <= 281474976710656
 c1:m.c.toNat <= m.e.toNat
 a1:m.at' <= 256
 o1:m.com <= 256
 n1:m.ls.length <= 256
 hl:∀ x ∈ m.ls,x.may
 kc:m.k ≠ 2->m.c = 0
 ko:m.k ≠ 5->m.com = 0
 ka:m.k ≠ 5->m.k ≠ 6->m.at' = 0
 kl:m.k ≠ 2->m.k ≠ 4->m.k ≠ 5->m.ls = []
instance (x:Ar):Decidable x.may:=by unfold Ar.may;infer_instance
def BG.put (m:BG):List UInt8:=
 UInt8.ofNat m.k :: (be 8 m.e ++ (be 8 m.c ++ (be 8 (BitVec.ofNat 64 m.at') ++ (be 8 (BitVec.ofNat 64 m.com) ++ GR m.ls))))
def QN (b:List UInt8):BG × oQ:=
 let r0:=(oQ.mk b false).num 1
 let r1:=r0.2.num 8
 let r2:=r1.2.num 8
 let r3:=r2.2.count 256
 let r4:=r3.2.count 256
 let r5:=r4.2.lines
 (⟨r0.1.toNat % 256,r1.1,r2.1,r3.1,r4.1,r5.1⟩,r5.2)
theorem RX (n:Nat) (hn:n <= 256) (r:List UInt8):(oQ.mk (be 8 (BitVec.ofNat 64 n) ++ r) false).count 256 = (n,⟨r,false⟩):=by
 unfold oQ.count;rw [oQ.Hz];grind
theorem Ar.may.short (h:∀ x ∈ ls,x.may):Short ls:=fun x hx=>Nat.lt_of_le_of_lt (h x hx).2.2 aP
theorem aH {m:BG} (h:m.May):QN m.put = (m,⟨[],false⟩):=by
 have hk:(UInt8.ofNat m.k).toNat = m.k:=by rw [UInt8.toNat_ofNat',Nat.mod_eq_of_lt (by have:=h.k6;omega)]
 have hl:=KP m.ls (Ar.may.short h.hl) h.n1 [];rw [List.append_nil] at hl;have hk2:(BitVec.ofNat 64 m.k).toNat % 256 = m.k:=by simp_all
 unfold QN BG.put;simp only [oQ.JY,oQ.Hz,RX m.at' h.a1,RX m.com h.o1,hl,hk,hk2]

end Go.Proofs.YthmpmgknnibljaaGreat
