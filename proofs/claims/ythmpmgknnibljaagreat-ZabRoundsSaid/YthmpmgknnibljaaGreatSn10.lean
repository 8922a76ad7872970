/- What lead tells: contract of its closure. -/
import Derived.Test.YthmpmgknnibljaaGreatSn8
import Derived.Test.YthmpmgknnibljaaGreatSn9
namespace Go.Proofs.YthmpmgknnibljaaGreat
set_option maxRecDepth 100000
set_option maxHeartbeats 6400000
open Go Go.RowKit
attribute [local go_sem ↓] Go.wp_at_zero Go.wp_at_succ
theorem KN (w:World) (m:BG) (la:Option Addr) (ln lc:Nat) :
  (Instr.storeAt 46 (.pointer (some ⟨w.heap.size,0,none⟩)) (.agg (Bf m (.slice la ln lc)).toArray)).run Tryz.prog (w.alloc (.cells DI.toArray 46)) = .ok () (w.alloc (.cells (Bf m (.slice la ln lc)).toArray 46)):=by
 have h:=(Ba (P:=Tryz.prog) (ty:=46) (vs:=Bf m (.slice la ln lc)) (heap_alloc_new w (.cells DI.toArray 46)) rfl FT rfl).1
 rw [Be w DI.toArray 46 (Bf m (.slice la ln lc)) rfl] at h
 exact h
theorem YP {w:World} {o:Own} {vl bb lb:Nat} {mine:BitVec 64} {p:DT} {rest:List Value} (i:Nat)
  (hv:w.heap[vl]? = some (.cells #[.pointer (some ⟨lb,0,none⟩)] 87 (0,0))) (hl:w.heap[lb]? = some (.cells ((.int .u64 (mine.toNat:Int)) :: rest).toArray 91 (0,0)))
  {pv:Option Addr} (hb:w.heap[bb]? = some (.cells #[.pointer pv] 206 (0,0))) (hp:JA w o (some p) pv) :
  Calls Tryz.prog 148 #[.int .i64 (i:Int), .pointer (some ⟨vl,0,none⟩), .pointer (some ⟨bb,0,none⟩)] w (Ret Nobody w o fun v w' o'=>∃ lv,v = Ea ⟨4,mine,0,0,0,p.2⟩ lv∧Lines w' o' 0 lv p.2):=by
 obtain ⟨pp,lv,rfl,hpp,hpo,hL⟩:=hp
 have al:=hidden (AB (P:=Tryz.prog) w 46 _ Oa)
 have st1:=(Step.refl Nobody w o).alloc (.cells DI.toArray 46) (0,0)
 obtain ⟨la,lc,rfl⟩:=hL.form
 have mn:=KN w.drew ⟨4,mine,0,0,0,p.2⟩ la p.2.length lc
 unfold DI at st1 mn
 have dr:=st1.drew
 have c1:=cell_of_block (cs:=[_]) ((dr.block _ (lt_of_block hv) (fun h=>h)).trans hv) 0
 have c2:=cell_of_block ((dr.block _ (lt_of_block hl) (fun h=>h)).trans hl) 0
 have c3:=cell_of_block (cs:=[_]) ((dr.block _ (lt_of_block hb) (fun h=>h)).trans hb) 0
 have c4:=cell_of_block ((dr.block _ (lt_of_block hpp) (fun h=>h)).trans hpp) 1
 simp only [List.getElem?_cons_zero,List.getElem?_cons_succ] at c1 c2 c3 c4
 have hS:=And.intro c1 (And.intro c2 (And.intro c3 c4))
 have hbm:=heap_alloc_new w (.cells (Bf ⟨4,mine,0,0,0,p.2⟩ (.slice la p.2.length lc)).toArray 46)
 have stF:=((Step.refl Nobody w o).drew).alloc (.cells (Bf ⟨4,mine,0,0,0,p.2⟩ (.slice la p.2.length lc)).toArray 46) (0,0)
 have hF:=hidden (And.intro stF (hL.step stF (fun h=>h)))
 have mnH:=hidden mn
 have hbmH:=hidden hbm
 clear st1 mn dr c1 c2 c3 c4 hv hl hb hpp hpo hL hbm stF
 unfold Ea
 go_enter Tryz.func148,Tryz.ntmps148
 go_wp2_with ((with_reducible apply AU);exact al.out;simp only [Act.put,lsa,lsz,lss])
 refine Aa (fun w'=>w'.cell? ⟨vl,0,none⟩ = some (.pointer (some ⟨lb,0,none⟩))∧w'.cell? ⟨lb,0,none⟩ = some (.int .u64 (mine.toNat:Int))∧w'.cell? ⟨bb,0,none⟩ = some (.pointer (some ⟨pp,0,none⟩))∧w'.cell? ⟨pp,1,none⟩ = some (.slice la p.2.length lc)) (fun i=>decide (i < 9)) (by kernel_rfl) hS (fun hHeld => ?_)
 refine tq 0 ?_
 refine tq 1 ?_
 refine tq 2 ?_
 refine tq 3 ?_
 refine tq 4 ?_
 refine tq 5 ?_
 refine tq 6 ?_
 refine tq 7 ?_
 refine tq 8 ?_
 refine Ac (i:=9) rfl (by kernel_rfl) ?_
 refine AC mnH.out ?_
 go_wp2_with fail
 refine ⟨fun h=>by simp at h, ?_⟩
 refine Ae (by kernel_rfl) ?_ _
 go_wp2_with fail
 refine bodyPost_ret (results_cell_row rfl _ _ w.heap.size 46 _ (0,0) _ rfl hbmH.out Tryz.underlying46 rfl FT) rfl ?_
 exact ⟨_,_,rfl,hF.out.1,_,rfl,hF.out.2⟩
def Ed (t:DX):List (Nat × List UInt8):=t.map fun x=>(x.1,x.2.put)
def Ja (w:World) (o:Own) (cs:List Value) (ts:List (Nat × List UInt8)):Prop:=
 cs.length = 2 * ts.length∧∀ i x,ts[i]? = some x→cs[2 * i]? = some (.int .i64 (x.1:Int))∧∃ bv,cs[2 * i + 1]? = some bv∧Bytes w o bv x.2
def Dn (w:World) (o:Own) (v:Value) (ts:List (Nat × List UInt8)):Prop:=∃ cs,Slc w o v ts.length cs∧Ja w o cs ts
section
variable {T:Nat→Prop} {w w':World} {o o':Own}
theorem Ja.step {cs:List Value} {ts:List (Nat × List UInt8)} (h:Ja w o cs ts) (s:Step T w o w' o') (hT:¬ T 0):Ja w' o' cs ts:=
 ⟨h.1,fun i x hx=>by obtain ⟨a,bv,b,c⟩:=h.2 i x hx;exact ⟨a,bv,b,c.step s hT⟩⟩
theorem Ja.nil (w:World) (o:Own):Ja w o [] []:=⟨rfl,fun i x hx=>by simp at hx⟩
theorem Ja.append {c1 c2:List Value} {l1 l2:List (Nat × List UInt8)} (h1:Ja w o c1 l1) (h2:Ja w o c2 l2):Ja w o (c1 ++ c2) (l1 ++ l2):=by
 refine ⟨by rw [List.length_append,List.length_append,h1.1,h2.1];omega,fun i x hx => ?_⟩
 by_cases hi:i < l1.length
 ·rw [List.getElem?_append_left hi] at hx
  obtain ⟨a,bv,b,c⟩:=h1.2 i x hx
  exact ⟨by rw [List.getElem?_append_left (by rw [h1.1];omega)];exact a,bv,by rw [List.getElem?_append_left (by rw [h1.1];omega)];exact b,c⟩
 ·rw [List.getElem?_append_right (by omega)] at hx
  obtain ⟨a,bv,b,c⟩:=h2.2 _ x hx
  refine ⟨?_,bv, ?_,c⟩
  ·rw [List.getElem?_append_right (by rw [h1.1];omega),h1.1,show 2 * i - 2 * l1.length = 2 * (i - l1.length) by omega];exact a
  ·rw [List.getElem?_append_right (by rw [h1.1];omega),h1.1,show 2 * i + 1 - 2 * l1.length = 2 * (i - l1.length) + 1 by omega];exact b
theorem Ja.single {bv:Value} {to:Nat} {b:List UInt8} (h:Bytes w o bv b):Ja w o [.int .i64 (to:Int),bv] [(to,b)]:=by
 refine ⟨rfl,fun i x hx => ?_⟩
 match i,hx with
 | 0,hx =>
  simp only [List.getElem?_cons_zero,Option.some.injEq] at hx
  subst hx;exact ⟨rfl,bv,rfl,h⟩
 | i + 1,hx=>simp at hx
theorem Ja.one {cs:List Value} {ts:List (Nat × List UInt8)} (h:Ja w o cs ts):∀ u ∈ cs,u.oneCell' = true:=by
 intro u hu
 obtain ⟨i,hi⟩:=List.mem_iff_getElem?.1 hu
 have hl:i < cs.length:=(List.getElem?_eq_some_iff.1 hi).1
 have hj:i / 2 < ts.length:=by have:=h.1;omega
 obtain ⟨a,bv,b,c⟩:=h.2 (i / 2) _ (List.getElem?_eq_getElem hj)
 by_cases he:i % 2 = 0
 ·rw [show 2 * (i / 2) = i by omega,hi] at a
  cases a;rfl
 ·rw [show 2 * (i / 2) + 1 = i by omega,hi] at b
  cases b
  obtain ⟨x,y,rfl⟩:=Aq c
  rfl
theorem Dn.step {v:Value} {ts:List (Nat × List UInt8)} (h:Dn w o v ts) (s:Step T w o w' o') (hT:¬ T 0):Dn w' o' v ts:=by
 obtain ⟨cs,h1,h2⟩:=h;exact ⟨cs,Slc.step h1 s hT,h2.step s hT⟩
theorem Dn.nil (w:World) (o:Own):Dn w o (.slice none 0 0) []:=⟨[], .inl ⟨⟨_,_,rfl⟩,rfl,rfl⟩,Ja.nil w o⟩
theorem Dn.form {v:Value} {ts:List (Nat × List UInt8)} (h:Dn w o v ts):∃ a c,v = .slice a ts.length c:=by
 obtain ⟨cs,h1, -⟩:=h;exact Aq h1
end
def YC (to:Nat) (bv:Value):Value := .agg #[.int .i64 (to:Int),bv]
theorem gI:((Tryz.prog.info? 61).bind (·.zero)).map (·.cells) = some #[.int .i64 0, .slice none 0 0]:=by kernel_rfl
theorem fK:(Tryz.prog.info? 61).map (fun i=>(i.zero.map (fun z=>z.cells.toList),i.size,i.bytes)) = some (some [.int .i64 0, .slice none 0 0],2,32):=by kernel_rfl
theorem SH:(Tryz.prog.info? 61).map (·.size) = some 2:=by kernel_rfl
theorem Nq (w:World) (to:Int) (bv:Value):(Instr.buildSlice 49 1 #[(0, .agg #[.int .i64 to,bv])]).run Tryz.prog w = .ok (.slice (some ⟨w.heap.size,0,none⟩) 1 1) (w.alloc (.cells [.int .i64 to,bv].toArray 61)):=
 Dv w 49 61 [.int .i64 0, .slice none 0 0] (.agg #[.int .i64 to,bv]) [.int .i64 to,bv] Tryz.underlying49 (by kernel_rfl) rfl (by simp) (by simp) rfl
theorem PN {w:World} {o:Own} {to:Nat} {bv:Value} {b:List UInt8} (h:Bytes w o bv b) :
  Dn (w.alloc (.cells [.int .i64 (to:Int),bv].toArray 61)) (Ak o w.heap.size (0,0)) (.slice (some ⟨w.heap.size,0,none⟩) 1 1) [(to,b)]:=by
 have hs:=(Step.refl Nobody w o).alloc (.cells [.int .i64 (to:Int),bv].toArray 61) (0,0)
 refine ⟨[.int .i64 (to:Int),bv], .inr ⟨w.heap.size,0,1,rfl,by simp,by decide,by rw [Au],by simp, ?_⟩,Ja.single (h.step hs (fun h=>h))⟩
 exact AV (heap_alloc_new w _)
section
variable {w:World} {o:Own}
theorem LZ {base:Nat} (m:BG) (hm:m.May) {lv:Value} (hl:Lines w o base lv m.ls) (to:Nat) :
  Calls Tryz.prog 87 #[.int .i64 (to:Int),Ea m lv] w (Ret Nobody w o fun v w' o'=>∃ bv,v = YC to bv∧Bytes w' o' bv m.put):=by
 obtain ⟨la,lc,rfl⟩:=hl.form
 obtain ⟨n,hn⟩:∃ n,m.ls.length = n:=⟨_,rfl⟩
 rw [hn] at hl ⊢
 have s1:=(Step.refl Nobody w o).alloc (.cells [.int .u8 (m.k:Int), .int .u64 (m.e.toNat:Int), .int .u64 (m.c.toNat:Int), .int .i64 (m.at':Int), .int .i64 (m.com:Int), .slice la n lc].toArray 46) (0,0)
 have b1:=heap_alloc_new w (.cells [.int .u8 (m.k:Int), .int .u64 (m.e.toNat:Int), .int .u64 (m.c.toNat:Int), .int .i64 (m.at':Int), .int .i64 (m.com:Int), .slice la n lc].toArray 46)
 have z1:(w.alloc (.cells [.int .u8 (m.k:Int), .int .u64 (m.e.toNat:Int), .int .u64 (m.c.toNat:Int), .int .i64 (m.at':Int), .int .i64 (m.com:Int), .slice la n lc].toArray 46)).heap.size = w.heap.size + 1:=by simp
 obtain ⟨W1,hW1⟩:∃ W1,w.alloc (.cells [.int .u8 (m.k:Int), .int .u64 (m.e.toNat:Int), .int .u64 (m.c.toNat:Int), .int .i64 (m.at':Int), .int .i64 (m.com:Int), .slice la n lc].toArray 46) = W1:=⟨_,rfl⟩
 rw [hW1] at s1 b1 z1
 generalize Ak o w.heap.size (0,0) = o1 at *
 have s2:=s1.alloc (.cells #[.int .i64 0, .slice none 0 0] 61) (0,0)
 have b2:(W1.alloc (.cells #[.int .i64 0, .slice none 0 0] 61)).heap[W1.heap.size]? = some (.cells [.int .i64 0, .slice none 0 0].toArray 61 (0,0)):=heap_alloc_new W1 _
 have b12:=(Below.heap_alloc W1 (.cells #[.int .i64 0, .slice none 0 0] 61) w.heap.size (by omega)).trans b1
 have hal:=hidden (AB (P:=Tryz.prog) W1 61 _ gI)
 obtain ⟨W2,hW2⟩:∃ W2,W1.alloc (.cells #[.int .i64 0, .slice none 0 0] 61) = W2:=⟨_,rfl⟩
 rw [hW2] at hal s2 b2 b12
 rw [z1] at b2 hal
 generalize Ak o1 W1.heap.size (0,0) = o2 at *
 have hld:=hidden (Ip (AV b12) rfl)
 have hpt:=Ue m hm (lv := .slice la n lc) (hl.step s2 (fun h=>h))
 unfold Ea at hpt
 have hptH:=hidden hpt
 have hs2:=hidden s2
 have hb2:=hidden b2
 rw [←hW1] at hal
 clear hl s1 b1 z1 hW1 hW2 s2 b2 b12 hpt
 unfold Ea
 go_enter Tryz.func87,Tryz.ntmps87
 go_wp2_with (first
  | ((with_reducible apply Bo);exact hld.out;simp only [Act.put,lsa,lsz,lss])
  | ((with_reducible apply AU);exact hal.out;simp only [Act.put,lsa,lsz,lss]))
 refine hptH.out.mono ?_;rintro e w3 ⟨v3,o3,rfl,hs3,bv,rfl,hnb⟩
 have hb3:=(hs3.block _ (lt_of_block hb2.out) (fun h=>h)).trans hb2.out
 have hby:=hnb.bytes
 have h1c:[Value.int .i64 (to:Int),bv].all (·.oneCell') = true:=by obtain ⟨xa,xc,rfl⟩:=Aq hby;rfl
 obtain ⟨hso,hsb⟩:=Ba (P:=Tryz.prog) (ty:=61) (vs:=[.int .i64 (to:Int),bv]) hb3 rfl (by kernel_rfl) h1c
 have hsoH:=hidden hso
 have hsbH:=hidden hsb
 have hstF:=(hs2.out.trans hs3).setCells (w.heap.size + 1) 0 [.int .i64 (to:Int),bv] (.inr (by omega))
 have hset:=(Step.refl (Only 1) w3 (fun k=>if k = w.heap.size + 1 then (1,0) else o3 k)).setCells (w.heap.size + 1) 0 [.int .i64 (to:Int),bv] (.inl (by simp;rfl))
 have hF:=hidden (And.intro hstF (show Bytes (w3.setCells (w.heap.size + 1) 0 [.int .i64 (to:Int),bv]) o3 bv m.put from by
  rcases hby with h | ⟨b,off,cap,q1,q2,q3,q4,q5,q6⟩
  ·exact .inl h
  ·refine .inr ⟨b,off,cap,q1,q2,q3,q4,by rw [size_setCells];exact q5,Cf q6 (heap_setCells_other _ _ _ _ _ ?_)⟩
   rintro rfl
   rcases hnb.1.2 with ⟨h1, -⟩ | ⟨g,cap',cur,h1, -,h2, -⟩
   ·rw [h1] at q1;cases q1
   ·rw [h1] at q1
    simp only [Value.slice.injEq,Option.some.injEq,Addr.mk.injEq,and_true] at q1
    obtain ⟨⟨rfl, -⟩, -⟩:=q1
    rw [hb3] at h2
    cases h2))
 obtain ⟨xa,xc,rfl⟩:=Aq hby
 clear hso hsb hstF hset hptH hs3 hb3 hnb hby
 go_wp2_with ((with_reducible apply AC);exact hsoH.out;simp only [Act.put])
 refine bodyPost_ret (results_cell_row rfl _ _ (w.heap.size + 1) 61 _ (0,0) _ rfl hsbH.out Tryz.underlying61 rfl SH) rfl ?_
 exact ⟨_,o3,rfl,hF.out.1,_,rfl,hF.out.2⟩
variable {D M pz ps pd:Nat} {z:Am}
theorem Lt (h:Bc w o D M pz ps pd z) (hsm:small z.s.kept.lines) (hp1:1 ≤ z.s.kept.promised.toNat) (hp2:z.s.kept.promised.toNat ≤ 281474976710656) (src:Nat) :
  Calls Tryz.prog 158 #[.pointer (some ⟨pz,0,none⟩), .int .i64 (src:Int)] w (Ret Nobody w o fun v w' o'=>Dn w' o' v (Ed (z.BN.refuse src))):=by
 have he:=hidden (RS h hsm)
 have hmay:=Aj.Jh hp1 hp2
 clear h hsm hp1 hp2
 go_enter Tryz.func158,Tryz.ntmps158
 go_wp2_with fail
 refine he.out.mono ?_;rintro e w1 ⟨v1,o1,rfl,hs1,rfl⟩
 have ht:=LZ ⟨3,z.s.kept.promised,0,0,0,[]⟩ hmay (Lines.nil w1 o1 0) src
 unfold Ea at ht
 have htH:=hidden ht
 clear ht he
 go_wp2_with fail
 refine htH.out.mono ?_;rintro e w2 ⟨v2,o2,rfl,hs2,bv,rfl,hby⟩
 have hbs:=hidden (Nq w2 (src:Int) bv)
 have hF:=hidden (And.intro ((hs1.trans hs2).alloc (.cells [.int .i64 (src:Int),bv].toArray 61) (0,0)) (PN (to:=src) hby))
 obtain ⟨ba,bc,rfl⟩:=Aq hby
 clear hs1 hs2 hby htH
 unfold YC
 go_wp2_with ((with_reducible apply BO #[(0, .agg #[.int .i64 (src:Int), .slice ba _ bc])] rfl);exact hbs.out;simp only [Act.put,lsa,lsz,lss])
 go_ret
 exact ⟨_,_,rfl,hF.out.1,hF.out.2⟩
theorem OY (h:Bc w o D M pz ps pd z) (hk:z.s.kept.lines.length ≤ 256) (hsm:small z.s.kept.lines) (e:BitVec 64) (hp1:1 ≤ e.toNat) (hp2:e.toNat ≤ 281474976710656) (src:Nat) :
  Calls Tryz.prog 159 #[.pointer (some ⟨pz,0,none⟩), .int .i64 (src:Int), .int .u64 (e.toNat:Int)] w (Ret Nobody w o fun v w' o'=>Dn w' o' v (Ed (z.BN.ack src e))):=by
 obtain ⟨-,rv,hb, -,hs⟩:=h
 obtain ⟨⟨-, -,c2, -⟩, -⟩:=hb.cells
 have hkp:=hidden (DJ hs hsm)
 have hmay:=Aj.MO hp1 hp2 hk
 have hu:z.BN.ack src e = [(src,⟨6,e,0,z.s.kept.lines.length,0,[]⟩)]:=rfl
 have huH:=hidden hu
 clear hb hs hsm hp1 hp2 hu
 go_enter Tryz.func159,Tryz.ntmps159
 go_wp2_with fail
 refine hkp.out.mono ?_;rintro e' w1 ⟨v1,o1,rfl,hs1,lv,rfl,hl,rfl⟩
 obtain ⟨la,lc,rfl⟩:=hl.form
 have ht:=LZ ⟨6,e,0,z.s.kept.lines.length,0,[]⟩ hmay (Lines.nil w1 (ext w o) 0) src
 unfold Ea at ht
 have htH:=hidden ht
 obtain ⟨n,hn⟩:∃ n,z.s.kept.lines.length = n:=⟨_,rfl⟩
 have hfk:=He w1 (.int .u64 (z.s.kept.promised.toNat:Int)) (.int .u64 (z.s.kept.current.toNat:Int)) (.slice la n lc)
 unfold Dy
 rw [hn] at htH huH ⊢
 have hnI:(0:Int) ≤ (n:Int)∧(n:Int) ≤ 256:=by omega
 clear ht hkp hl hn hmay
 go_wp2_with fail
 refine htH.out.mono ?_;rintro e' w2 ⟨v2,o2,rfl,hs2,bv,rfl,hby⟩
 have hbs:=hidden (Nq w2 (src:Int) bv)
 have hF:=hidden (And.intro ((hs1.trans hs2).alloc (.cells [.int .i64 (src:Int),bv].toArray 61) (0,0)) (PN (to:=src) hby))
 obtain ⟨ba,bc,rfl⟩:=Aq hby
 clear hs1 hs2 hby htH
 unfold YC
 go_wp2_with ((with_reducible apply BO #[(0, .agg #[.int .i64 (src:Int), .slice ba _ bc])] rfl);exact hbs.out;simp only [Act.put,lsa,lsz,lss])
 go_ret
 exact ⟨_,_,rfl,hF.out.1,by rw [huH.out];exact hF.out.2⟩
end
def Nv (w:World) (o:Own) (base:Nat) (t:Nat × Nat) (v:Value) (ts:List (Nat × List UInt8)):Prop:=
 ∃ cs,w.ownsRow base 61 2 v ts.length cs∧(∀ g,v.ownBlock = some g→o g = t)∧Ja w o cs ts
theorem Nv.nil (w:World) (o:Own) (base:Nat) (t:Nat × Nat):Nv w o base t (.slice none 0 0) []:=⟨[],World.ownsRow_nil _ _ _ _,fun g hg=>by simp [Value.ownBlock] at hg,Ja.nil w o⟩
theorem Nv.step {T:Nat→Prop} {w w':World} {o o':Own} {base:Nat} {t:Nat × Nat} {v:Value} {ts:List (Nat × List UInt8)} (h:Nv w o base t v ts) (s:Step T w o w' o') (ht:¬ T t.1) (h0:¬ T 0):Nv w' o' base t v ts:=by
 obtain ⟨cs,h1,h2,h3⟩:=h
 exact ⟨cs,Ci h1 fun k hk=>s.block k (h1.lt k hk).2 (by rw [h2 k hk];exact ht),fun g hg=>by rw [s.own g (h1.lt g hg).2];exact h2 g hg,h3.step s h0⟩
theorem Nv.form {w:World} {o:Own} {base:Nat} {t:Nat × Nat} {v:Value} {ts:List (Nat × List UInt8)} (h:Nv w o base t v ts):∃ a c,v = .slice a ts.length c:=by
 obtain ⟨cs,h1, -⟩:=h;exact BA h1
theorem Bytes.ext {w w':World} {o oj:Own} {v:Value} {l:List UInt8} (h:Bytes w' oj v l) (s:Step Nobody w o w' oj):Bytes w' (ext w o) v l:=by
 rcases h with h | ⟨b,off,cap,q1,q2,q3,q4,q5,q6⟩
 ·exact .inl h
 ·refine .inr ⟨b,off,cap,q1,q2,q3, ?_,q5,q6⟩
  unfold Go.Proofs.YthmpmgknnibljaaGreat.ext
  split
  ·rename_i hb
   rw [←s.own b hb];exact q4
  ·rfl
theorem Nv.outs {w w':World} {o oj:Own} {t:Nat × Nat} {v:Value} {ts:List (Nat × List UInt8)} (h:Nv w' oj w.heap.size t v ts) (s:Step Nobody w o w' oj):Dn w' (ext w o) v ts:=by
 obtain ⟨cs,h1, -,h3⟩:=h
 refine ⟨cs, ?_,h3.1,fun i x hx => ?_⟩
 ·rcases h1.2 with ⟨rfl,h0⟩ | ⟨g,cap,cur,rfl,q1,q2,q3,q4,q5,q6⟩
  ·refine .inl ⟨⟨none,0,rfl⟩,h0, ?_⟩
   apply List.eq_nil_of_length_eq_zero;rw [h1.1,h0]
  ·refine .inr ⟨g,0,cap,rfl,q3,q4, ?_,lt_of_block q2, ?_⟩
   ·unfold Go.Proofs.YthmpmgknnibljaaGreat.ext
    rw [if_neg (by omega)]
   ·have:=BU (w:=w') (b:=g) (cs:=cur.toList) (E:=61) (fr:=(0,0)) (by simpa using q2) 0 (ts.length * 2)
    rw [List.drop_zero,q6] at this;exact this
 ·obtain ⟨a,bv,b,c⟩:=h3.2 i x hx
  exact ⟨a,bv,b,c.ext s⟩
theorem Nv.append {W:World} {o:Own} {base X:Nat} {v:Value} {ts:List (Nat × List UInt8)} (h:Nv W o base (X,0) v ts) (hX:X ≠ 0) (hbase:base ≤ W.heap.size) {sb:Nat} {to:Nat} {bv:Value} {b:List UInt8} (hr:W.rangeAt sb 0 [.int .i64 (to:Int),bv]) (hb:Bytes W o bv b) (hn:ts.length ≤ 1000) :
  ∃ nv w' o',(Builtin.append_ #[49,49] 49 #[v, .slice (some ⟨sb,0,none⟩) 1 1]).run Tryz.prog W = .ok nv w'∧Nv w' o' base (X,0) nv (ts ++ [(to,b)])∧Step (Only X) W o w' o':=by
 obtain ⟨cs,h1,ht,h3⟩:=h
 have h2:Ja W o [.int .i64 (to:Int),bv] [(to,b)]:=Ja.single hb
 obtain ⟨g,cap,w',hrun,hown,hgrow,hat,hlt⟩:=DD (P:=Tryz.prog) W 49 49 61 Tryz.underlying49 fK rfl (by omega) hbase v ts.length cs h1 sb 0 1 1 [.int .i64 (to:Int),bv] rfl hr h2.one (by omega) (by omega) (by omega)
 have hs:Step (Only X) W o w' (Ak o g (X,0)):=(Step.refl (Only X) W o).grown hgrow (fun k hk => .inl (by show (o k).1 = X;rw [ht k hk])) g (X,0) (by
  rcases hat with hat | hat
  ·exact .inl (ht g hat)
  ·exact .inr (by omega))
 have h0:¬ Only X 0:=fun h=>hX h.symm
 refine ⟨_,w',_,hrun,⟨cs ++ [.int .i64 (to:Int),bv],by rw [List.length_append];exact hown,fun k hk => ?_,(h3.append h2).step hs h0⟩,hs⟩
 simp only [Value.ownBlock,Option.some.injEq] at hk;subst hk;exact Au _ _ _
def GX (id:Nat) (f:Nat→BG) (k:Nat):List (Nat × List UInt8):=Ed (((List.range k).filter fun i=>i != id).map fun i=>(i,f i))
theorem Us (id:Nat) (f:Nat→BG) (k:Nat):GX id f (k + 1) = if k = id then GX id f k else GX id f k ++ [(k,(f k).put)]:=by
 unfold GX Ed
 rw [List.range_succ,List.filter_append,List.map_append,List.map_append]
 by_cases h:k = id
 ·rw [if_pos h];subst h;simp
 ·rw [if_neg h]
  have:(k != id) = true:=by simp [h]
  simp [this]
theorem WB (id:Nat) (f:Nat→BG) (k:Nat):(GX id f k).length ≤ k:=by
 unfold GX Ed
 rw [List.length_map,List.length_map]
 have:=List.length_filter_le (fun i=>i != id) (List.range k)
 rw [List.length_range] at this
 exact this
theorem LH {w:World} {o:Own} {D M pz ps pd:Nat} {z:Am} (h:Bc w o D M pz ps pd z) (hn3:z.n ≤ 3) (fid:Nat) (cp:Array Value) (f:Nat→BG)
  (hcall:∀ (args:Array Value) (x:World),(callFunc fid args).run Tryz.prog x = .ok (.enter fid args) x)
  (hs:∀ w1 o1,Step Nobody w o w1 o1→∀ i,i < z.n→i ≠ z.id→Calls Tryz.prog fid (#[.int .i64 (i:Int)] ++ cp) w1 (Ret Nobody w1 o1 fun v w2 o2=>∃ lv,v = Ea (f i) lv∧Lines w2 o2 0 lv (f i).ls))
  (hmay:∀ i,i < z.n→i ≠ z.id→(f i).May) :
  Calls Tryz.prog 44 #[.pointer (some ⟨pz,0,none⟩), .func (.func fid) #[] cp] w (Ret Nobody w o fun v w' o'=>Dn w' o' v (Ed (z.BN.others f))):=by
 obtain ⟨X,hX0,hXf⟩:=KT o w.heap.size 0
 have hX:X ≠ 0:=by omega
 obtain ⟨-,rv,hb, -, -⟩:=h
 obtain ⟨⟨-,c1, -⟩, -⟩:=hb.cells
 have hfin:Ed (z.BN.others f) = GX z.id f z.n:=rfl
 rw [hfin]
 have hbH:=hidden hb
 have hsH:=hidden hs
 have hmayH:=hidden hmay
 have hcH:=hidden hcall
 have hXfH:=hidden hXf
 generalize hN:z.n = N at *
 generalize hI:z.id = I at *
 have hN3:(0:Int) ≤ (N:Int)∧(N:Int) ≤ 3:=by omega
 have hIH:=hidden hI
 have hfinH:=hidden hfin
 clear hb hs hmay hcall hXf hN hI hX0 hfin
 go_enter Tryz.func44,Tryz.ntmps44
 go_wp2_with fail
 clear c1
 go_loopw [5,11] (fun out i wr=>∃ (k:Nat) (oj:Own),k ≤ N∧i = .int .i64 k∧Step Nobody w o wr oj∧Nv wr oj w.heap.size (X,0) out (GX I f k)) (fun _ i _=>N - (intOf i).toNat)
 case atStart=>exact ⟨0,o,by omega,rfl,Step.refl _ _ _,Nv.nil _ _ _ _⟩
 case round =>
  obtain ⟨k,oj,hk,rfl,hst,hrow⟩:=hrel
  by_cases hlt:k < N
  ·have hltI:(k:Int) < (N:Int):=by omega
   have hbx:=hbH.out.step hst (fun h=>h)
   obtain ⟨⟨c0, -⟩, -⟩:=hbx.cells
   rw [hIH.out] at c0
   have hrowH:=hidden hrow
   have hstH:=hidden hst
   have hsuc:=hidden (Us I f k)
   have hlen:=hidden (WB I f k)
   clear hbx hrow hst
   by_cases hki:k = I
   ·subst hki
    have hx:=hidden (show GX k f (k + 1) = GX k f k by rw [hsuc.out,if_pos rfl])
    go_wp2_with fail
    go_roundw
    case rel=>exact ⟨k + 1,oj,by omega,by go_num,hstH.out,by rw [hx.out];exact hrowH.out⟩
    case measure=>simp [intOf];omega
   ·have hx:=hidden (show GX I f (k + 1) = GX I f k ++ [(k,(f k).put)] by rw [hsuc.out,if_neg hki])
    have hkiI:((k:Int) == (I:Int)) = false:=by simp;omega
    have hf:=hidden (hsH.out wr oj hstH.out k hlt hki)
    have hmk:=hidden (hmayH.out k hlt hki)
    have hck:=hcH.out
    obtain ⟨ra,rc,rfl⟩:=hrowH.out.form
    clear hki
    go_wp2_with fail
    refine hf.out.mono ?_;rintro e w1 ⟨v1,o1,rfl,hs1,lv,rfl,hl⟩
    have ht:=hidden (LZ (f k) hmk.out hl k)
    have hst1:=hidden (hstH.out.trans hs1)
    have hrow1:=hidden (hrowH.out.step hs1 (fun h=>h) (fun h=>h))
    clear hs1 hl hf hck
    go_wp2_with fail
    refine ht.out.mono ?_;rintro e w2 ⟨v2,o2,rfl,hs2,bv,rfl,hby⟩
    have hst2:=hst1.out.trans hs2
    have hrow2:=hrow1.out.step hs2 (fun h=>h) (fun h=>h)
    have hbs:(Instr.buildSlice 49 1 #[(0,YC k bv)]).run Tryz.prog w2 = .ok (.slice (some ⟨w2.heap.size,0,none⟩) 1 1) (w2.alloc (.cells [.int .i64 (k:Int),bv].toArray 61)):=Nq w2 (k:Int) bv
    have hbsH:=hidden hbs
    have hsa:=(Step.refl Nobody w2 o2).alloc (.cells [.int .i64 (k:Int),bv].toArray 61) (0,0)
    have hnb:=heap_alloc_new w2 (.cells [.int .i64 (k:Int),bv].toArray 61)
    have hst3:=hst2.trans hsa
    obtain ⟨nv,w5,o5,hrun,hrow5,hs5⟩:=(hrow2.step hsa (fun h=>h) (fun h=>h)).append hX (Nat.le_trans hst2.size hsa.size) (AV hnb) (to:=k) (hby.step hsa (fun h=>h)) (by have:=hlen.out;omega)
    have hrunH:=hidden hrun
    have hstF:Step Nobody w o w5 o5:=((hst3.only X).trans hs5).nobody hXfH.out
    have hF:=hidden (And.intro hstF (hx.out ▸ hrow5))
    obtain ⟨na,nc,rfl⟩:=hrow5.form
    clear hbs hsa hnb hst3 hst2 hrow2 hrun hrow5 hs5 hs2 hstF hby ht hst1 hrow1
    go_wp2_with (first
     | ((with_reducible apply BO #[(0,YC k bv)] rfl);exact hbsH.out;simp only [Act.put,lsa,lsz,lss])
     | ((with_reducible apply Bl);exact hrunH.out;simp only [Act.put,lsa,lsz,lss]))
    go_roundw
    case rel=>exact ⟨k + 1,o5,by omega,by go_num,hF.out.1,hF.out.2⟩
    case measure=>simp [intOf];omega
  ·obtain rfl:N = k:=by omega
   have hF:=hidden (And.intro (hst.Me (ext w o) (fun k hk=>if_pos hk)) (hrow.outs hst))
   obtain ⟨ra,rc,rfl⟩:=hrow.form
   clear hst hrow
   go_wp2_with fail
   go_ret
   exact ⟨_,_,rfl,hF.out.1,hF.out.2⟩
theorem Po (w:World):(sizeOf (Tryz.prog.elem 32)).run Tryz.prog w = .ok 2 w:=by
 have:Tryz.prog.elem 32 = 36:=by kernel_rfl
 rw [this]
 have h5:(Tryz.prog.info? 36).map (·.size) = some 2:=by kernel_rfl
 cases hq:Tryz.prog.info? 36 with
 | none=>simp [hq] at h5
 | some i=>simp [hq] at h5;simp [sizeOf,typeInfo,hq,h5]
theorem LnC.drop {w:World} {o:Own} {cs:List Value} {ls:List Ar} (h:LnC w o cs ls) (n:Nat):LnC w o (cs.drop (n * 2)) (ls.drop n):=by
 refine ⟨by rw [List.length_drop,List.length_drop,h.1];omega,fun i x hx => ?_⟩
 rw [List.getElem?_drop] at hx
 obtain ⟨a,bv,b,c⟩:=h.2 (n + i) x hx
 exact ⟨by rw [List.getElem?_drop,show n * 2 + 2 * i = 2 * (n + i) by omega];exact a,bv,by rw [List.getElem?_drop,show n * 2 + (2 * i + 1) = 2 * (n + i) + 1 by omega];exact b,c⟩
theorem LnC.take {w:World} {o:Own} {cs:List Value} {ls:List Ar} (h:LnC w o cs ls) (n:Nat):LnC w o (cs.take (n * 2)) (ls.take n):=by
 refine ⟨by rw [List.length_take,List.length_take,h.1];omega,fun i x hx => ?_⟩
 rw [List.getElem?_take] at hx
 split at hx
 ·rename_i hi
  obtain ⟨a,bv,b,c⟩:=h.2 i x hx
  exact ⟨by rw [List.getElem?_take,if_pos (by omega)];exact a,bv,by rw [List.getElem?_take,if_pos (by omega)];exact b,c⟩
 ·cases hx
theorem CV.slice {base:Nat} {a:Option Addr} {n c n' c':Nat} (h:CV base (.slice a n c)) (off:Nat) (b:Nat) (ha:∀ x,a = some x→x.block = b) (hs:a.isSome = true):CV base (.slice (some ⟨b,off,none⟩) n' c'):=by
 intro k hk
 cases a with
 | none=>simp at hs
 | some x =>
  have:=ha x rfl
  simp only [Value.ownBlock,Option.some.injEq] at hk
  subst hk
  exact h b (by simp [Value.ownBlock,this])
theorem TI {w:World} {o:Own} {base:Nat} {lv:Value} {ls:List Ar} (h:Lines w o base lv ls) (n:Nat) (hn:n ≤ ls.length) :
  ∃ v,(Instr.sliceAt 32 lv none (some (.int .i64 (n:Int))) none).run Tryz.prog w = .ok v w∧Lines w o base v (ls.take n):=by
 have hu:Tryz.prog.underlying 32 = some (.slice (Tryz.prog.elem 32)):=by kernel_rfl
 have hsz:=Po w
 have hlt:(ls.take n).length = n:=by rw [List.length_take];omega
 obtain ⟨cs,h1,h2,h3,h4⟩:=h
 rcases h1 with ⟨⟨a,c,rfl⟩,h0,hcs⟩ | ⟨b,off,cap,rfl,hl,hm,ho,hb,hr⟩
 ·have hn0:n = 0:=by omega
  subst hn0
  refine ⟨_,by rw [run_sliceAt_slice _ _ _ _ _ _ hu,run_slice_h w 32 a 0 c hu .i64 ((0:Nat):Int) (by omega) (by omega),hsz];rfl,[], .inl ⟨⟨_,_,rfl⟩,by simp,rfl⟩,by simpa using LnC.nil w o, ?_,by simp⟩
  intro k hk
  simp only [Option.map,Nat.zero_mul] at hk
  cases a with
  | none=>simp [Value.ownBlock] at hk
  | some x=>exact h3 k (by simpa [Value.ownBlock,Addr.add] using hk)
 ·refine ⟨.slice (some ⟨b,off,none⟩) n cap, ?_,cs.take (n * 2), ?_,h2.take n, ?_,fun u hu=>h4 u (List.mem_of_mem_take hu)⟩
  ·rw [run_sliceAt_slice _ _ _ _ _ _ hu,run_slice_h w 32 _ ls.length cap hu .i64 n (by omega) (by omega),hsz]
   simp only [Result.andThen_ok,sliced,Int.toNat_natCast,Nat.sub_zero,Option.map_some,addr_add,Nat.zero_mul,Nat.add_zero]
   split
   ·rename_i hc0
    simp
   ·rfl
  ·by_cases hn0:n = 0
   ·subst hn0;exact .inl ⟨⟨_,_,rfl⟩,by simp,by simp⟩
   ·refine .inr ⟨b,off,cap,by rw [hlt],by rw [hlt];omega,hm,ho,hb, ?_⟩
    have:=ER hr 0 (n * 2)
    simpa using this
  ·exact h3.slice off b (fun x hx=>by cases hx;rfl) rfl
section
variable {w:World} {o:Own} {D M pz ps pd:Nat} {z:Am}
theorem FD (h:Bc w o D M pz ps pd z):Calls Tryz.prog 146 #[.pointer (some ⟨pz,0,none⟩)] w (Ret (Only (M + 4)) w o fun v w' o'=>v = .tuple #[]∧Bc w' o' D M pz ps pd z.follow):=by
 obtain ⟨hDM,rv,hb,hr,hs⟩:=h
 have hf:=hb.cells.2.1
 have b1:=Ai (i:=3) (.iface 115 (.agg #[])) hb.1
 have b2:=Ai (i:=4) (.int .i64 0) b1
 have st:=((Step.refl (Only (M + 4)) w o).setCell (a:=⟨pz,3,none⟩) (.iface 115 (.agg #[])) (.inl (by show (o pz).1 = M + 4;rw [hb.2]))).setCell (a:=⟨pz,4,none⟩) (.int .i64 0) (.inl (by show (o pz).1 = M + 4;rw [hb.2]))
 have hF:=hidden (And.intro st (show Bc _ _ D M pz ps pd z.follow from ⟨hDM,_,⟨b2,hb.2⟩,rfl,hs.step st (InN.self hDM.1)⟩))
 have f3:=hf 3
 have f4:=hf 4
 obtain ⟨⟨-, -, -,c3,c4, -⟩, -⟩:=hb.cells
 clear hb hr hs b1 b2 st hf
 go_enter Tryz.func146,Tryz.ntmps146
 go_wp2_with fail
 go_end0
 exact ⟨_,o,rfl,hF.out.1,rfl,hF.out.2⟩
theorem QT (w:World):Calls Tryz.prog 15 #[.pointer none] w fun e w'=>e = .returned (.slice none 0 0)∧w = w':=by
 go_enter Tryz.func15,Tryz.ntmps15
 go_wp2
 go_ret
 exact ⟨rfl,rfl⟩
theorem QU (h:Bc w o D M pz ps pd z) (hsm:small z.s.kept.lines) (hc:z.Ag ≤ z.s.kept.lines.length) :
  Calls Tryz.prog 15 #[.pointer (some ⟨pz,0,none⟩)] w (Ret Nobody w o fun v w' o'=>Lines w' o' w.heap.size v (z.s.kept.lines.take z.Ag)):=by
 obtain ⟨-,rv,hb,hr,hs⟩:=h
 have hkp:=hidden (DJ (w:=w.drew) hs hsm)
 have hdr:Step Nobody w o w.drew o:=(Step.refl Nobody w o).drew
 obtain ⟨⟨-, -,c2, -, -, -,c6⟩, -⟩:=(hb.step hdr (fun h=>h)).cells
 have hS:=And.intro c2 c6
 have hbH:=hidden (hb.step hdr (fun h=>h))
 clear hb hr hs c2 c6
 go_enter Tryz.func15,Tryz.ntmps15
 go_wp2_with fail
 refine Aa (fun w'=>w'.cell? ⟨pz,2,none⟩ = some (.pointer (some ⟨ps,0,none⟩))∧w'.cell? ⟨pz,6,none⟩ = some (.int .i64 (z.Ag:Int))) (fun _=>true) (by kernel_rfl) hS (fun hHeld => ?_)
 refine tq 0 ?_
 refine tq 1 ?_
 refine tq 2 ?_
 refine tq 3 ?_
 refine tq 6 ?_
 refine tq 7 ?_
 refine tq 8 ?_
 refine tq 9 ?_
 refine Ac (i:=4) rfl (by kernel_rfl) ?_
 go_wp2_with fail
 refine hkp.out.mono ?_;rintro e w1 ⟨v1,o1,rfl,hs1,lv,rfl,hl,rfl⟩
 obtain ⟨⟨-, -,d2, -, -, -,d6⟩, -⟩:=(hbH.out.step hs1 (fun h=>h)).cells
 have hS1:=And.intro d2 d6
 obtain ⟨sv,hsr,hsl⟩:=TI hl z.Ag hc
 have hsrH:=hidden hsr
 have hF:=hidden (And.intro (hdr.trans hs1) hsl)
 obtain ⟨la,lc,rfl⟩:=hl.form
 have hfk:=fun W=>He W (.int .u64 (z.s.kept.promised.toNat:Int)) (.int .u64 (z.s.kept.current.toNat:Int)) (.slice la z.s.kept.lines.length lc)
 clear hs1 hl hsr hsl d2 d6 hHeld
 unfold Dy
 go_wp2_with fail
 refine ⟨fun _=>hS1, ?_⟩
 refine tq 5 ?_
 refine Ac (i:=10) rfl (by kernel_rfl) ?_
 refine FM hsrH.out ?_
 simp only [Act.put,lsa,lsz,lss]
 go_wp2_with fail
 refine ⟨fun _=>hS1, ?_⟩
 refine tq 11 ?_
 refine Ae (by kernel_rfl) ?_ _
 clear hS1
 go_wp2_with fail
 go_ret
 exact ⟨_,_,rfl,hF.out.1,hF.out.2⟩
theorem Zm (a b:Int) (w:World):Calls Tryz.prog 27 #[.int .i64 a, .int .i64 b, .pointer none] w fun e w'=>e = .returned (.tuple #[.pointer none, .int .i64 8])∧w = w':=by
 go_enter Tryz.func27,Tryz.ntmps27
 go_wp2
 go_ret2
 exact ⟨rfl,rfl⟩
theorem XY {S A B base:Nat} {s:AZ} (h:Bi w o S A B D ps pd base s) (hd:(s.dead || s.d.dead) = true) (a b:Int):Calls Tryz.prog 27 #[.int .i64 a, .int .i64 b, .pointer (some ⟨ps,0,none⟩)] w fun e w'=>e = .returned (.tuple #[.pointer none, .int .i64 9])∧w = w':=by
 have hdd:=KH h
 rw [hd] at hdd
 have hddH:=hidden hdd
 clear h hd hdd
 go_enter Tryz.func27,Tryz.ntmps27
 go_wp2_with fail
 refine hddH.out.mono ?_;rintro e w' ⟨rfl,rfl⟩
 go_wp2_with fail
 go_ret2
 exact ⟨rfl,rfl⟩
theorem XC {s:AZ} (hDM:D ≤ M∧D ≠ 0) (h:Bi w o (M + 1) (M + 2) (M + 3) D ps pd 0 s) (hd:(s.dead || s.d.dead) = false) (id n:Nat) (h1:1 ≤ n) (h3:n ≤ 3) (hi:id < n) :
  Calls Tryz.prog 27 #[.int .i64 (id:Int), .int .i64 (n:Int), .pointer (some ⟨ps,0,none⟩)] w (Ret Nobody w o fun v w' o'=>∃ pz,v = .tuple #[.pointer (some ⟨pz,0,none⟩), .int .i64 0]∧w.heap.size ≤ pz∧Bc w' o' D M pz ps pd (Am.new id n s)):=by
 have hdd:=KH h
 rw [hd] at hdd
 have hddH:=hidden hdd
 have st:=(Step.refl Nobody w o).alloc (.cells (IL id n ps (.iface 115 (.agg #[])) 0 0 0).toArray 86) (M + 4,0)
 have hb:=heap_alloc_new w (.cells (IL id n ps (.iface 115 (.agg #[])) 0 0 0).toArray 86)
 have hF:=hidden (And.intro st (show Bc _ _ D M w.heap.size ps pd (Am.new id n s) from ⟨hDM,_,⟨hb,Au _ _ _⟩,rfl,h.step0 st⟩))
 have i1:¬ (n:Int) < 1:=by omega
 have i2:¬ (3:Int) < (n:Int):=by omega
 have i3:¬ (id:Int) < 0:=by omega
 have i4:¬ (n:Int) ≤ (id:Int):=by omega
 clear h hd hdd st hb h1 h3 hi
 go_enter Tryz.func27,Tryz.ntmps27
 go_wp2_with fail
 refine hddH.out.mono ?_;rintro e w' ⟨rfl,rfl⟩
 go_wp2_with fail
 go_ret2
 exact ⟨_,_,rfl,hF.out.1,_,rfl,Nat.le_refl _,hF.out.2⟩
end
theorem OZ:((Tryz.prog.info? 55).bind (·.zero)).map (·.cells) = some #[.int .u64 0, .int .u64 0, .slice none 0 0]:=by kernel_rfl
theorem Uz:(Tryz.prog.info? 55).map (·.size) = some 3:=by kernel_rfl
def BR (p c:BitVec 64) (lv:Value):List Value:=[.int .u64 (p.toNat:Int), .int .u64 (c.toNat:Int),lv]
theorem MX (w:World) (p c:BitVec 64) (la:Option Addr) (ln lc:Nat) :
  (Instr.storeAt 55 (.pointer (some ⟨w.heap.size,0,none⟩)) (Dy p c (.slice la ln lc))).run Tryz.prog (w.alloc (.cells #[.int .u64 0, .int .u64 0, .slice none 0 0] 55)) = .ok () (w.alloc (.cells (BR p c (.slice la ln lc)).toArray 55)):=by
 have h:=(Ba (P:=Tryz.prog) (ty:=55) (vs:=BR p c (.slice la ln lc)) (heap_alloc_new w (.cells [Value.int .u64 0, .int .u64 0, .slice none 0 0].toArray 55)) rfl Uz rfl).1
 rw [Be w [Value.int .u64 0, .int .u64 0, .slice none 0 0].toArray 55 (BR p c (.slice la ln lc)) rfl] at h
 exact h
theorem WI {w:World} {o:Own} {eb:Nat} {e:BitVec 64} (i:Nat) (hb:w.heap[eb]? = some (.cells [Value.int .u64 (e.toNat:Int)].toArray 34 (0,0))) :
  Calls Tryz.prog 89 #[.int .i64 (i:Int), .pointer (some ⟨eb,0,none⟩)] w (Ret Nobody w o fun v w' o'=>∃ lv,v = Ea ⟨1,e,0,0,0,[]⟩ lv∧Lines w' o' 0 lv []):=by
 have al:=hidden (AB (P:=Tryz.prog) w 46 _ Oa)
 have mn:=KN w ⟨1,e,0,0,0,[]⟩ none 0 0
 have st1:=(Step.refl Nobody w o).alloc (.cells DI.toArray 46) (0,0)
 have c1:=cell_of_block ((st1.block _ (lt_of_block hb) (fun h=>h)).trans hb) 0
 simp only [List.getElem?_cons_zero] at c1
 unfold DI at mn c1
 have hbm:=hidden (heap_alloc_new w (.cells (Bf ⟨1,e,0,0,0,[]⟩ (.slice none 0 0)).toArray 46))
 have stF:=hidden ((Step.refl Nobody w o).alloc (.cells (Bf ⟨1,e,0,0,0,[]⟩ (.slice none 0 0)).toArray 46) (0,0))
 have mnH:=hidden mn
 clear mn st1 hb
 unfold Ea
 go_enter Tryz.func89,Tryz.ntmps89
 go_wp2_with (first
  | ((with_reducible apply AU);exact al.out;simp only [Act.put,lsa,lsz,lss])
  | ((with_reducible apply AC);exact mnH.out;simp only [Act.put]))
 refine bodyPost_ret (results_cell_row rfl _ _ w.heap.size 46 _ (0,0) _ rfl hbm.out Tryz.underlying46 rfl FT) rfl ?_
 exact ⟨_,_,rfl,stF.out,_,rfl,Lines.nil _ _ _⟩
theorem QF (w:World):(Instr.makeMap 154 none).run Tryz.prog w = .ok (.map (some w.heap.size)) (w.alloc (.map (Bd 0 []).toArray 0)):=by
 simp only [Instr.makeMap,Sem.run_bind]
 rfl
theorem dZ {w:World} {o:Own} {Z mb id n:Nat} {c:BitVec 64} {lv:Value} {ls:List Ar} (hm:w.heap[mb]? = some (.map (Bd 0 [(id,c,lv)]).toArray 1)) (ho:o mb = (Z,2)) (hid:id < n) (hl:Lines w o 0 lv ls) :
  OE w o Z mb ((List.replicate n none).set id (some (c,ls))):=by
 refine ⟨[(id,c,lv)],hm,ho,by simp,fun x hx => ?_,fun i p hp => ?_⟩
 ·simp only [List.mem_singleton] at hx
  subst hx
  exact ⟨ls,by simp [hid],hl⟩
 ·refine ⟨_,List.mem_singleton_self _, ?_⟩
  by_cases h:id = i
  ·exact h
  ·rw [List.getElem?_set_ne h,List.getElem?_replicate] at hp
   split at hp <;> simp at hp
theorem Am.NP.stands {K B:Nat} {z:Am} (h:Am.NP K B z) {e:BitVec 64} {s':AZ} (hs:SP (K + 3) s') (h0:(z.s.kept.CQ e).2 = 0) (hk:s'.kept = (z.s.kept.CQ e).1) (h1:1 ≤ e.toNat) (w:Nat) :
  Am.NP (K + 3) B { z with s:=s',BB := .stands e ((List.replicate z.n none).set z.id (some (z.s.kept.current,z.s.kept.lines))),waited:=w }:=by
 have hk2:=GM h0
 obtain ⟨hlt,hle⟩:=Jf h0
 have hok:=h.ok
 have hcp:z.s.kept.current.toNat ≤ z.s.kept.promised.toNat:=hok.cp
 have hid:z.id < z.n:=hok.id
 refine ⟨hs,⟨⟨hok.n1,hok.n3,hok.id, ?_, ?_, ?_,hok.se, ?_⟩,⟨h1,hle⟩, ?_, ?_, ?_⟩⟩
 ·show En B s'.kept.lines
  rw [hk,hk2];exact hok.ls
 ·show s'.kept.current.toNat ≤ s'.kept.promised.toNat
  rw [hk,hk2];show z.s.kept.current.toNat ≤ e.toNat;omega
 ·show s'.kept.promised.toNat ≤ _
  rw [hk,hk2];exact hle
 ·show z.Ag ≤ s'.kept.lines.length
  rw [hk,hk2];exact hok.co
 ·simp;rfl
 ·show ∃ p,((List.replicate z.n none).set z.id (some (z.s.kept.current,z.s.kept.lines)))[z.id]? = some (some p)
  exact ⟨(z.s.kept.current,z.s.kept.lines),by simp [hid]⟩
 ·intro p hp
  rcases List.mem_or_eq_of_mem_set hp with h | h
  ·have:=List.eq_of_mem_replicate h
   cases this
  ·cases h;exact hok.ls
theorem Am.Xg {z:Am} {e:BitVec 64} {x:DT} (hid:z.id < z.n):(z.lead e ((List.replicate z.n none).set z.id (some x))).2 = []:=by
 have hlen:(((List.replicate z.n (none:Option DT)).set z.id (some x)).filter Option.isSome).length = 1:=by
  have key:∀ (n i:Nat),i < n→(((List.replicate n (none:Option DT)).set i (some x)).filter Option.isSome).length = 1:=by
   intro n
   induction n with
   | zero=>intro i h;omega
   | succ n ih =>
    intro i h
    cases i with
    | zero=>simp [List.replicate_succ]
    | succ i =>
     rw [List.replicate_succ,lss]
     simpa using ih i (by omega)
  exact key _ _ hid
 unfold Am.lead
 rw [hlen]
 split
 ·rfl
 ·rename_i h2
  have hn:z.n = 1:=by omega
  have hi:z.id = 0:=by omega
  split
  ·rfl
  ·split
   ·show Aj.others _ _ = []
    unfold Aj.others
    show ((List.range z.n).filter fun i=>i != z.id).map _ = []
    rw [hn,hi];rfl
   ·rfl
theorem OJ {w:World} {o:Own} {v:Value} {ts:List (Nat × List UInt8)} (h:Dn w o v ts) (hts:ts.length ≤ 1000) {a':Option Addr} {c':Nat} :
  (Builtin.append_ #[49,49] 49 #[v, .slice a' 0 c']).run Tryz.prog w = .ok v w:=by
 obtain ⟨cs,h1, -⟩:=h
 rcases h1 with ⟨⟨a,c,rfl⟩,h0, -⟩ | ⟨b,off,cap,rfl,hl,hm, -⟩
 ·exact CB w 49 49 61 2 Tryz.underlying49 SH a a' 0 c c' (by omega) (by omega)
 ·exact CB w 49 49 61 2 Tryz.underlying49 SH _ a' ts.length cap c' (by omega) (by omega)
theorem Bc.cell {w:World} {o:Own} {D M pz ps pd:Nat} {z:Am} (h:Bc w o D M pz ps pd z) :
  w.cell? ⟨pz,0,none⟩ = some (.int .i64 (z.id:Int))∧w.cell? ⟨pz,1,none⟩ = some (.int .i64 (z.n:Int))∧w.cell? ⟨pz,2,none⟩ = some (.pointer (some ⟨ps,0,none⟩))∧w.cell? ⟨pz,4,none⟩ = some (.int .i64 (z.waited:Int))∧w.cell? ⟨pz,5,none⟩ = some (.int .u64 (z.seen.toNat:Int))∧w.cell? ⟨pz,6,none⟩ = some (.int .i64 (z.Ag:Int)):=by
 obtain ⟨-,rv,hb, -⟩:=h
 obtain ⟨⟨c0,c1,c2, -,c4,c5,c6⟩, -⟩:=hb.cells
 exact ⟨c0,c1,c2,c4,c5,c6⟩
theorem Bc.store {w:World} {o:Own} {D M pz ps pd:Nat} {z:Am} (h:Bc w o D M pz ps pd z):Bi w o (M + 1) (M + 2) (M + 3) D ps pd 0 z.s:=by
 obtain ⟨-,rv, -, -,hs⟩:=h;exact hs
theorem Bc.tags {w:World} {o:Own} {D M pz ps pd:Nat} {z:Am} (h:Bc w o D M pz ps pd z):D ≤ M∧D ≠ 0:=h.1
theorem Bc.restore {w w':World} {o o':Own} {D M pz ps pd:Nat} {z:Am} (h:Bc w o D M pz ps pd z) (s:Step (In4 (M + 1) (M + 2) (M + 3) D) w o w' o') {s':AZ} (hs:Bi w' o' (M + 1) (M + 2) (M + 3) D ps pd 0 s') :
  Bc w' o' D M pz ps pd { z with s:=s' }:=by
 obtain ⟨hDM,rv,hb,hr, -⟩:=h
 have nZ:¬ In4 (M + 1) (M + 2) (M + 3) D (M + 4):=InN.WZ hDM.1 hDM.2
 have n0:¬ In4 (M + 1) (M + 2) (M + 3) D 0:=fun h=>by unfold In4 at h;have:=hDM.2;omega
 exact ⟨hDM,rv,hb.step s nZ,hr.step s nZ n0,hs⟩
theorem n04 {D M:Nat} (h:D ≤ M∧D ≠ 0):¬ In4 (M + 1) (M + 2) (M + 3) D 0:=fun h'=>by unfold In4 at h';have:=h.2;omega
section
variable {w:World} {o:Own} {D M pz ps pd K B base:Nat} {z:Am}
theorem QQ (h:Bc w o D M pz ps pd z) (hp:Am.NP K B z) (hK:K + 600 < 65536) (hB:B ≤ 90000) (src:Nat) (m:BG) (hm:m.May) {lv:Value} (hl:Lines w o base lv m.ls) :
  Calls Tryz.prog 99 #[.pointer (some ⟨pz,0,none⟩), .int .i64 (src:Int),Ea m lv] w (Ret (InN D M) w o fun v w' o'=>Dn w' o' v (Ed (z.BK src m).2)∧Bc w' o' D M pz ps pd (z.BK src m).1):=by
 obtain ⟨R,hR⟩:∃ R,z.BK src m = R:=⟨_,rfl⟩
 rw [hR]
 unfold Am.BK at hR
 obtain ⟨la,lc,hlv⟩:=hl.form
 obtain ⟨n,hn⟩:∃ n,m.ls.length = n:=⟨_,rfl⟩
 rw [hn] at hlv
 subst hlv
 have hn3:z.n ≤ 3:=hp.ok.n3
 have hn1:1 ≤ z.n:=hp.ok.n1
 have hls:En B z.s.kept.lines:=hp.ok.ls
 have hsm:=En.small hls (by omega)
 have s1:=(Step.refl Nobody w o).alloc (.cells (Bf m (.slice la n lc)).toArray 46) (0,0)
 have mb1:=heap_alloc_new w (.cells (Bf m (.slice la n lc)).toArray 46)
 have mo1:=Au o w.heap.size (0,0)
 generalize Ak o w.heap.size (0,0) = o1 at *
 obtain ⟨W1,hW1⟩:∃ W1,w.alloc (.cells (Bf m (.slice la n lc)).toArray 46) = W1:=⟨_,rfl⟩
 rw [hW1] at s1 mb1
 have hbx:(Instr.box 46 (Ea m (.slice la n lc))).run Tryz.prog w = .ok (.pointer (some ⟨w.heap.size,0,none⟩)) W1:=by rw [←hW1];kernel_rfl
 obtain ⟨mb,hmb⟩:∃ b,w.heap.size = b:=⟨_,rfl⟩
 rw [hmb] at mb1 mo1 hbx
 have h1:=h.step0 s1
 have hl1:=hl.step s1 (fun h=>h)
 obtain ⟨-, -,e2, -⟩:=h1.cell
 unfold Ea at hbx ⊢
 have hbxH:=hidden hbx
 have hkp:=hidden (DJ h1.store hsm)
 have hA:=hidden (And.intro s1 (And.intro mb1 (And.intro mo1 (And.intro h1 hl1))))
 have hPH:=hidden hp
 have hmH:=hidden hm
 have hI:=hidden (And.intro hn3 (And.intro hn1 (And.intro hls hsm)))
 have hnH:=hidden hn
 clear s1 mb1 mo1 h1 hl1 hW1 hmb hbx h hl hp hm hn3 hn1 hls hsm hn
 go_enter Tryz.func99,Tryz.ntmps99
 go_wp2_with ((with_reducible apply BM);exact hbxH.out;simp only [Act.put,lsa,lsz,lss])
 refine hkp.out.mono ?_;rintro ex w2 ⟨v2,o2,rfl,hs2,lk,rfl,hlk,rfl⟩
 obtain ⟨ka,kc,rfl⟩:=hlk.form
 obtain ⟨L,hL⟩:∃ L,z.s.kept.lines.length = L:=⟨_,rfl⟩
 have kal:=AB (P:=Tryz.prog) w2 55 _ OZ
 have kst:=MX w2 z.s.kept.promised z.s.kept.current ka L kc
 have k3:=(Step.refl Nobody w2 (ext W1 o1)).alloc (.cells (BR z.s.kept.promised z.s.kept.current (.slice ka L kc)).toArray 55) (0,0)
 have kb3:=heap_alloc_new w2 (.cells (BR z.s.kept.promised z.s.kept.current (.slice ka L kc)).toArray 55)
 have ko3:=Au (ext W1 o1) w2.heap.size (0,0)
 generalize Ak (ext W1 o1) w2.heap.size (0,0) = o3 at *
 obtain ⟨W3,hW3⟩:∃ W3,w2.alloc (.cells (BR z.s.kept.promised z.s.kept.current (.slice ka L kc)).toArray 55) = W3:=⟨_,rfl⟩
 rw [hW3] at kst k3 kb3
 obtain ⟨kb,hkb⟩:∃ b,w2.heap.size = b:=⟨_,rfl⟩
 rw [hkb] at kal kst kb3 ko3
 obtain ⟨s1,mb1,mo1,h1,hl1⟩:=hA.out
 have k13:=hs2.trans k3
 have h3:=h1.step0 k13
 have mb3:=(k13.block _ (lt_of_block mb1) (fun h=>h)).trans mb1
 have mo3:=(k13.own _ (lt_of_block mb1)).trans mo1
 have hl3:=hl1.step k13 (fun h=>h)
 have hlk3:=(hlk.step k3 (fun h=>h)).low (Nat.zero_le _)
 have st3:=s1.trans k13
 rw [hL] at hlk3
 obtain ⟨m0,m1,m2,m3,m4,m5⟩:=Gt mb3
 have kc0:=cell_of_block kb3 0
 have kc1:=cell_of_block kb3 1
 have kc2:=cell_of_block kb3 2
 simp only [BR,List.getElem?_cons_zero,List.getElem?_cons_succ] at kc0 kc1 kc2
 have how:=hidden (PM h3 hI.out.2.1 hI.out.1 src m.e)
 have hQ:=hidden (And.intro st3 (And.intro mb3 (And.intro mo3 (And.intro h3 (And.intro hl3 (And.intro kb3 (And.intro ko3 hlk3)))))))
 have kalH:=hidden kal
 have kstH:=hidden kst
 rw [hL]
 clear hs2 hlk kal kst k3 kb3 ko3 hW3 hkb s1 mb1 mo1 h1 hl1 k13 h3 mb3 mo3 hl3 hlk3 st3 hkp e2
 go_wp2_with (first
  | ((with_reducible apply AU);exact kalH.out;simp only [Act.put,lsa,lsz,lss])
  | ((with_reducible apply AC);exact kstH.out;simp only [Act.put]))
 refine how.out.mono ?_;rintro ex w' ⟨rfl,rfl⟩
 cases ho:z.BN.owns src m.e with
 | false =>
  rw [ho] at hR
  simp only [Bool.not_false,if_true] at hR
  have hRH:=hidden hR
  clear ho hR
  go_wp2_with fail
  go_ret
  refine ⟨_,o3,rfl,hQ.out.1.mono (fun _ h=>h.elim), ?_, ?_⟩
  ·rw [←hRH.out];exact Dn.nil _ _
  ·rw [←hRH.out];exact hQ.out.2.2.2.1
 | true =>
  rw [ho] at hR
  simp only [Bool.not_true,Bool.false_eq_true,if_false] at hR
  clear ho
  have hkk:z.BN.k = z.s.kept:=rfl
  have hpt:z.s.kept.promised.toNat ≤ 281474976710656:=hPH.out.ok.pt
  by_cases hle:m.e.toNat ≤ z.s.kept.promised.toNat
  ·rw [if_pos hle] at hR
   have hRH:=hidden hR
   have hleI:(m.e.toNat:Int) ≤ (z.s.kept.promised.toNat:Int):=by omega
   have hrf:=hidden (Lt hQ.out.2.2.2.1 hI.out.2.2.2 (by have:=hmH.out.e1;omega) hpt src)
   clear hR
   go_wp2_with fail
   refine hrf.out.mono ?_;rintro ex w4 ⟨v4,o4,rfl,hs4,hou⟩
   have hF:=hidden (And.intro (hQ.out.1.trans hs4) (And.intro hou (hQ.out.2.2.2.1.step0 hs4)))
   obtain ⟨xa,xc,rfl⟩:=hou.form
   clear hs4 hou hrf
   go_wp2_with fail
   go_ret
   refine ⟨_,o4,rfl,hF.out.1.mono (fun _ h=>h.elim), ?_, ?_⟩
   ·rw [←hRH.out];exact hF.out.2.1
   ·rw [←hRH.out];exact hF.out.2.2
  ·rw [if_neg hle] at hR
   have hleI:¬ (m.e.toNat:Int) ≤ (z.s.kept.promised.toNat:Int):=by omega
   obtain ⟨st3,mb3,mo3,h3,hl3,kb3,ko3,hlk3⟩:=hQ.out
   have dr:Step Nobody W3 o3 W3.drew o3:=(Step.refl Nobody W3 o3).drew
   have hpr:=Jb h3.tags (h3.step0 dr).store hPH.out.sp hI.out.2.2.2 m.e
   obtain ⟨-, -,e2, -⟩:=(h3.step0 dr).cell
   have q1:=cell_of_block (w:=W3.drew) mb3 1
   have hS:=And.intro e2 (show W3.drew.cell? ⟨mb,1,none⟩ = some (.int .u64 (m.e.toNat:Int)) from q1)
   have hfit:=GL hPH.out.sp hK hPH.out.kok (Nat.le_trans hI.out.2.2.1.b hB) m.e
   obtain ⟨Q,hQQ⟩:∃ Q,z.s.promise m.e = Q:=⟨_,rfl⟩
   simp only [hQQ] at hpr hfit hR
   have hprH:=hidden hpr
   have hD3:=hidden (h3.step0 dr)
   clear st3 mb3 mo3 h3 hl3 kb3 ko3 hlk3 dr hpr e2 q1
   have hgo:∀ (W6:World) (o6:Own),Step (In4 (M + 1) (M + 2) (M + 3) D) W3.drew o3 W6 o6→Bi W6 o6 (M + 1) (M + 2) (M + 3) D ps pd 0 Q.1 →
     (W6.cell? ⟨pz,2,none⟩ = some (.pointer (some ⟨ps,0,none⟩))∧W6.cell? ⟨mb,1,none⟩ = some (.int .u64 (m.e.toNat:Int)))∧(W6.heap[mb]? = some (.cells (Bf m (.slice la n lc)).toArray 46 (0,0))∧W6.heap[kb]? = some (.cells (BR z.s.kept.promised z.s.kept.current (.slice ka L kc)).toArray 55 (0,0))∧(o6 mb).1 = 0∧(o6 kb).1 = 0∧Lines W6 o6 0 (.slice ka L kc) z.s.kept.lines∧Step (InN D M) w o W6 o6∧Bc W6 o6 D M pz ps pd { z with s:=Q.1 }):=by
    intro W6 o6 hs6 hst6
    obtain ⟨st3,mb3,mo3,h3,hl3,kb3,ko3,hlk3⟩:=hQ.out
    have dr:Step Nobody W3 o3 W3.drew o3:=(Step.refl Nobody W3 o3).drew
    have n0:=n04 h3.tags
    have mb6:=(hs6.block mb (lt_of_block mb3) (by rw [mo3];exact n0)).trans mb3
    have kb6:=(hs6.block kb (lt_of_block kb3) (by rw [ko3];exact n0)).trans kb3
    have h6:=hD3.out.restore hs6 hst6
    obtain ⟨-, -,e2, -⟩:=h6.cell
    exact ⟨⟨e2,cell_of_block mb6 1⟩,mb6,kb6,by rw [hs6.own mb (lt_of_block mb3),mo3],by rw [hs6.own kb (lt_of_block kb3),ko3],(hlk3.step dr (fun h=>h)).step hs6 n0,((st3.trans dr).mono (fun _ h=>h.elim)).trans (hs6.mono InN.in4),h6⟩
   have hgoH:=hidden hgo
   clear hgo
   rcases hfit with ⟨hf1,hf2⟩ | ⟨hf0,s',hf2,hf3,hf4⟩
   ·subst hf2
    rw [if_neg (fun h=>by cases h)] at hR
    have hRH:=hidden hR
    clear hR
    go_wp2_with fail
    clear m0 m1 m2 m3 m4 m5 kc0 kc1 kc2
    refine Aa (fun w'=>w'.cell? ⟨pz,2,none⟩ = some (.pointer (some ⟨ps,0,none⟩))∧w'.cell? ⟨mb,1,none⟩ = some (.int .u64 (m.e.toNat:Int))) (fun _=>true) (by kernel_rfl) hS (fun hHeld => ?_)
    refine tq 0 ?_
    refine tq 1 ?_
    refine tq 2 ?_
    refine tq 3 ?_
    refine tq 4 ?_
    refine tq 5 ?_
    refine Ac (i:=6) rfl (by kernel_rfl) ?_
    go_wp2_with fail
    refine hprH.out.mono ?_;rintro ex W6 ⟨v6,o6,rfl,hs6,rfl,hst6⟩
    have hG6:=hidden (hgoH.out W6 o6 hs6 hst6)
    have hS6:=hG6.out.1
    clear hs6 hst6 hHeld hS
    go_wp2_with fail
    refine ⟨fun _=>hS6, ?_⟩
    refine tq 7 ?_
    refine tq 8 ?_
    refine Ae (by kernel_rfl) ?_ _
    clear hS6
    go_wp2_with fail
    go_ret
    refine ⟨_,o6,rfl,hG6.out.2.2.2.2.2.2.1, ?_, ?_⟩
    ·rw [←hRH.out];exact Dn.nil _ _
    ·rw [←hRH.out];exact hG6.out.2.2.2.2.2.2.2
   ·subst hf2
    rw [if_pos rfl] at hR
    have hRH:=hidden hR
    clear hR
    go_wp2_with fail
    clear m0 m1 m2 m3 m4 m5 kc0 kc1 kc2
    refine Aa (fun w'=>w'.cell? ⟨pz,2,none⟩ = some (.pointer (some ⟨ps,0,none⟩))∧w'.cell? ⟨mb,1,none⟩ = some (.int .u64 (m.e.toNat:Int))) (fun _=>true) (by kernel_rfl) hS (fun hHeld => ?_)
    refine tq 0 ?_
    refine tq 1 ?_
    refine tq 2 ?_
    refine tq 3 ?_
    refine tq 4 ?_
    refine tq 5 ?_
    refine Ac (i:=6) rfl (by kernel_rfl) ?_
    go_wp2_with fail
    refine hprH.out.mono ?_;rintro ex W6 ⟨v6,o6,rfl,hs6,rfl,hst6⟩
    have hG6:=hidden (hgoH.out W6 o6 hs6 hst6)
    have hS6:=hG6.out.1
    clear hs6 hst6 hHeld hS
    go_wp2_with fail
    refine ⟨fun _=>hS6, ?_⟩
    refine tq 7 ?_
    refine tq 8 ?_
    refine Ae (by kernel_rfl) ?_ _
    clear hS6
    have hfo:=hidden (FD hG6.out.2.2.2.2.2.2.2)
    go_wp2_with fail
    refine hfo.out.mono ?_;rintro ex W7 ⟨v7,o7,rfl,hs7,rfl,hn7⟩
    obtain ⟨-,mb6,kb6,mo6,ko6,hl6,st6,h6⟩:=hG6.out
    have n4:¬ Only (M + 4) 0:=fun h=>by unfold Only at h;omega
    have mb7:=(hs7.block mb (lt_of_block mb6) (by rw [mo6];exact n4)).trans mb6
    have kb7:=(hs7.block kb (lt_of_block kb6) (by rw [ko6];exact n4)).trans kb6
    have q1:=cell_of_block mb7 1
    have q2:=cell_of_block kb7 1
    have q3:=cell_of_block kb7 2
    simp only [Bf,BR,List.getElem?_cons_zero,List.getElem?_cons_succ] at q1 q2 q3
    have hl7:=hl6.step hs7 n4
    have hok:=hPH.out.ok
    have hcp:z.s.kept.current.toNat ≤ z.s.kept.promised.toNat:=hok.cp
    have htl:=LZ (w:=W7) (o:=o7) ⟨2,m.e,z.s.kept.current,0,0,z.s.kept.lines⟩ (Aj.Ox hmH.out.e1 hmH.out.e2 (by omega) hI.out.2.2.1) hl7 src
    unfold Ea at htl
    have htlH:=hidden htl
    have hF7:=hidden (And.intro (st6.trans (hs7.mono (T':=InN D M) (fun k h=>(show InN D M k by cases h;exact InN.own)))) hn7)
    clear hs7 hn7 mb6 kb6 mo6 ko6 hl6 st6 h6 mb7 kb7 hl7 hok htl hfo
    go_wp2_with fail
    refine htlH.out.mono ?_;rintro ex W8 ⟨v8,o8,rfl,hs8,bv,rfl,hby⟩
    have hbs:=hidden (Nq W8 (src:Int) bv)
    have hF8:=hidden (And.intro ((hF7.out.1.trans (hs8.mono (fun _ h=>h.elim))).alloc (.cells [.int .i64 (src:Int),bv].toArray 61) (0,0)) (And.intro (PN (to:=src) hby) (hF7.out.2.step0 (hs8.alloc (.cells [.int .i64 (src:Int),bv].toArray 61) (0,0)))))
    obtain ⟨ba,bc,rfl⟩:=Aq hby
    clear hs8 hby htlH
    unfold YC
    go_wp2_with ((with_reducible apply BO #[(0, .agg #[.int .i64 (src:Int), .slice ba _ bc])] rfl);exact hbs.out;simp only [Act.put,lsa,lsz,lss])
    go_ret
    refine ⟨_,_,rfl,hF8.out.1, ?_, ?_⟩
    ·rw [←hRH.out];exact hF8.out.2.1
    ·rw [←hRH.out];exact hF8.out.2.2
end
section
variable {w:World} {o:Own} {D M pz ps pd Z:Nat}
theorem IE.iE {rv:Value} {r:KC} (h:IE w o Z rv r) (ho:o pz = (Z,0)) (hZ:Z ≠ 0) (i:Nat) (v:Value):IE (w.setCell ⟨pz,i,none⟩ v) o Z rv r:=by
 have k:=(Step.refl (Only Z) w o).setCell (a:=⟨pz,i,none⟩) v (.inl (by show (o pz).1 = _;rw [ho]))
 have n4:¬ Only Z 0:=fun h=>hZ h.symm
 have other:∀ b t,o b = (Z,t)→t ≠ 0→(w.setCell ⟨pz,i,none⟩ v).heap[b]? = w.heap[b]?:=by
  intro b t hb ht
  refine Below.heap_setCell w ⟨pz,i,none⟩ v b ?_
  rintro rfl
  rw [ho] at hb;cases hb;exact ht rfl
 cases r with
 | follows=>exact h
 | stands mine has =>
  obtain ⟨p,h1,mb,h2,h3,es,h4,h5,h6,h7,h8⟩:=h
  exact ⟨p,h1,mb,(other p 1 h3 (by omega)).trans h2,h3,es,(other mb 2 h5 (by omega)).trans h4,h5,h6,fun x hx=>by obtain ⟨ls,a,b⟩:=h7 x hx;exact ⟨ls,a,b.step k n4⟩,h8⟩
 | leads mine mat base ready =>
  obtain ⟨p,h1,b,cap,h2,h3,h4,h5,h6⟩:=h
  exact ⟨p,h1,b,cap,(other p 1 h3 (by omega)).trans h2,h3,(other b 2 h5 (by omega)).trans h4,h5,h6⟩
theorem Bc.put {z z':Am} (h:Bc w o D M pz ps pd z) (i:Nat) (v:Value) (hc:∀ rv,(IL z.id z.n ps rv z.waited z.seen z.Ag).set i v = IL z'.id z'.n ps rv z'.waited z'.seen z'.Ag) (hr:z'.BB = z.BB) (hs:z'.s = z.s) :
  Bc (w.setCell ⟨pz,i,none⟩ v) o D M pz ps pd z'∧Step (Only (M + 4)) w o (w.setCell ⟨pz,i,none⟩ v) o:=by
 obtain ⟨hDM,rv,hb,hro,hst⟩:=h
 have k:=(Step.refl (Only (M + 4)) w o).setCell (a:=⟨pz,i,none⟩) v (.inl (by show (o pz).1 = _;rw [hb.2]))
 refine ⟨⟨hDM,rv,⟨?_,hb.2⟩,by rw [hr];exact hro.iE hb.2 (by omega) i v,by rw [hs];exact hst.step k (InN.self hDM.1)⟩,k⟩
 have h:=Ai (i:=i) v hb.1
 rw [hc rv] at h
 exact h
theorem Bc.Ag {z:Am} (h:Bc w o D M pz ps pd z) (c:Nat):Bc (w.setCell ⟨pz,6,none⟩ (.int .i64 (c:Int))) o D M pz ps pd { z with Ag:=c }∧Step (Only (M + 4)) w o (w.setCell ⟨pz,6,none⟩ (.int .i64 (c:Int))) o:=
 h.put 6 _ (fun _=>rfl) rfl rfl
theorem Bc.seen {z:Am} (h:Bc w o D M pz ps pd z) (e:BitVec 64):Bc (w.setCell ⟨pz,5,none⟩ (.int .u64 (e.toNat:Int))) o D M pz ps pd { z with seen:=e }∧Step (Only (M + 4)) w o (w.setCell ⟨pz,5,none⟩ (.int .u64 (e.toNat:Int))) o:=
 h.put 5 _ (fun _=>rfl) rfl rfl
theorem Bc.free {z:Am} (h:Bc w o D M pz ps pd z) (i:Nat):w.frozen? ⟨pz,i,none⟩ = false:=by
 obtain ⟨-,rv,hb, -⟩:=h;exact hb.cells.2.1 i
end
theorem BG.May.small {m:BG} (h:m.May):small m.ls:=⟨Nat.le_trans h.n1 (by omega),Nat.le_trans (NK h) (by omega)⟩
section
variable {w:World} {o:Own} {D M pz ps pd K B base:Nat} {z:Am}
theorem QR (h:Bc w o D M pz ps pd z) (hp:Am.NP K B z) (hK:K + 600 < 65536) (hB:B ≤ 90000) (src:Nat) (m:BG) (hm:m.May) (hmb:AP m.ls ≤ 90000) {lv:Value} (hl:Lines w o base lv m.ls) :
  Calls Tryz.prog 102 #[.pointer (some ⟨pz,0,none⟩), .int .i64 (src:Int),Ea m lv] w (Ret (InN D M) w o fun v w' o'=>Dn w' o' v (Ed (z.BD src m).2)∧Bc w' o' D M pz ps pd (z.BD src m).1):=by
 obtain ⟨R,hR⟩:∃ R,z.BD src m = R:=⟨_,rfl⟩
 rw [hR]
 unfold Am.BD at hR
 obtain ⟨la,lc,hlv⟩:=hl.form
 obtain ⟨n,hn⟩:∃ n,m.ls.length = n:=⟨_,rfl⟩
 rw [hn] at hlv
 subst hlv
 have hn3:z.n ≤ 3:=hp.ok.n3
 have hn1:1 ≤ z.n:=hp.ok.n1
 have hls:En B z.s.kept.lines:=hp.ok.ls
 have hsm:=En.small hls (by omega)
 have s1:=(Step.refl Nobody w o).alloc (.cells (Bf m (.slice la n lc)).toArray 46) (0,0)
 have mb1:=heap_alloc_new w (.cells (Bf m (.slice la n lc)).toArray 46)
 have mo1:=Au o w.heap.size (0,0)
 generalize Ak o w.heap.size (0,0) = o1 at *
 obtain ⟨W1,hW1⟩:∃ W1,w.alloc (.cells (Bf m (.slice la n lc)).toArray 46) = W1:=⟨_,rfl⟩
 rw [hW1] at s1 mb1
 have hbx:(Instr.box 46 (Ea m (.slice la n lc))).run Tryz.prog w = .ok (.pointer (some ⟨w.heap.size,0,none⟩)) W1:=by rw [←hW1];kernel_rfl
 obtain ⟨mb,hmb⟩:∃ b,w.heap.size = b:=⟨_,rfl⟩
 rw [hmb] at mb1 mo1 hbx
 have h1:=h.step0 s1
 have hl1:=hl.step s1 (fun h=>h)
 obtain ⟨-, -,e2, -⟩:=h1.cell
 unfold Ea at hbx ⊢
 have hbxH:=hidden hbx
 have hkp:=hidden (DJ h1.store hsm)
 have hA:=hidden (And.intro s1 (And.intro mb1 (And.intro mo1 (And.intro h1 hl1))))
 have hPH:=hidden hp
 have hmH:=hidden hm
 have hI:=hidden (And.intro hn3 (And.intro hn1 (And.intro hls hsm)))
 have hnH:=hidden hn
 clear s1 mb1 mo1 h1 hl1 hW1 hmb hbx h hl hp hm hn3 hn1 hls hsm hn
 go_enter Tryz.func102,Tryz.ntmps102
 go_wp2_with ((with_reducible apply BM);exact hbxH.out;simp only [Act.put,lsa,lsz,lss])
 refine hkp.out.mono ?_;rintro ex w2 ⟨v2,o2,rfl,hs2,lk,rfl,hlk,rfl⟩
 obtain ⟨ka,kc,rfl⟩:=hlk.form
 obtain ⟨L,hL⟩:∃ L,z.s.kept.lines.length = L:=⟨_,rfl⟩
 have kal:=AB (P:=Tryz.prog) w2 55 _ OZ
 have kst:=MX w2 z.s.kept.promised z.s.kept.current ka L kc
 have k3:=(Step.refl Nobody w2 (ext W1 o1)).alloc (.cells (BR z.s.kept.promised z.s.kept.current (.slice ka L kc)).toArray 55) (0,0)
 have kb3:=heap_alloc_new w2 (.cells (BR z.s.kept.promised z.s.kept.current (.slice ka L kc)).toArray 55)
 have ko3:=Au (ext W1 o1) w2.heap.size (0,0)
 generalize Ak (ext W1 o1) w2.heap.size (0,0) = o3 at *
 obtain ⟨W3,hW3⟩:∃ W3,w2.alloc (.cells (BR z.s.kept.promised z.s.kept.current (.slice ka L kc)).toArray 55) = W3:=⟨_,rfl⟩
 rw [hW3] at kst k3 kb3
 obtain ⟨kb,hkb⟩:∃ b,w2.heap.size = b:=⟨_,rfl⟩
 rw [hkb] at kal kst kb3 ko3
 obtain ⟨s1,mb1,mo1,h1,hl1⟩:=hA.out
 have k13:=hs2.trans k3
 have h3:=h1.step0 k13
 have mb3:=(k13.block _ (lt_of_block mb1) (fun h=>h)).trans mb1
 have mo3:=(k13.own _ (lt_of_block mb1)).trans mo1
 have hl3:=hl1.step k13 (fun h=>h)
 have hlk3:=(hlk.step k3 (fun h=>h)).low (Nat.zero_le _)
 have st3:=s1.trans k13
 rw [hL] at hlk3
 obtain ⟨m0,m1,m2,m3,m4,m5⟩:=Gt mb3
 have kc0:=cell_of_block kb3 0
 have kc1:=cell_of_block kb3 1
 have kc2:=cell_of_block kb3 2
 simp only [BR,List.getElem?_cons_zero,List.getElem?_cons_succ] at kc0 kc1 kc2
 have how:=hidden (PM h3 hI.out.2.1 hI.out.1 src m.e)
 have hQ:=hidden (And.intro st3 (And.intro mb3 (And.intro mo3 (And.intro h3 (And.intro hl3 (And.intro kb3 (And.intro ko3 hlk3)))))))
 have kalH:=hidden kal
 have kstH:=hidden kst
 rw [hL]
 clear hs2 hlk kal kst k3 kb3 ko3 hW3 hkb s1 mb1 mo1 h1 hl1 k13 h3 mb3 mo3 hl3 hlk3 st3 hkp e2
 go_wp2_with (first
  | ((with_reducible apply AU);exact kalH.out;simp only [Act.put,lsa,lsz,lss])
  | ((with_reducible apply AC);exact kstH.out;simp only [Act.put]))
 refine how.out.mono ?_;rintro ex w' ⟨rfl,rfl⟩
 cases ho:z.BN.owns src m.e with
 | false =>
  rw [ho] at hR
  simp only [Bool.not_false,if_true] at hR
  have hRH:=hidden hR
  clear ho hR
  go_wp2_with fail
  go_ret
  refine ⟨_,o3,rfl,hQ.out.1.mono (fun _ h=>h.elim), ?_, ?_⟩
  ·rw [←hRH.out];exact Dn.nil _ _
  ·rw [←hRH.out];exact hQ.out.2.2.2.1
 | true =>
  rw [ho] at hR
  simp only [Bool.not_true,Bool.false_eq_true,if_false] at hR
  clear ho
  have hpt:z.s.kept.promised.toNat ≤ 281474976710656:=hPH.out.ok.pt
  by_cases hle:m.e.toNat < z.s.kept.promised.toNat
  ·rw [if_pos hle] at hR
   have hRH:=hidden hR
   have hleI:(m.e.toNat:Int) < (z.s.kept.promised.toNat:Int):=by omega
   have hrf:=hidden (Lt hQ.out.2.2.2.1 hI.out.2.2.2 (by have:=hmH.out.e1;omega) hpt src)
   clear hR
   go_wp2_with fail
   refine hrf.out.mono ?_;rintro ex w4 ⟨v4,o4,rfl,hs4,hou⟩
   have hF:=hidden (And.intro (hQ.out.1.trans hs4) (And.intro hou (hQ.out.2.2.2.1.step0 hs4)))
   obtain ⟨xa,xc,rfl⟩:=hou.form
   clear hs4 hou hrf
   go_wp2_with fail
   go_ret
   refine ⟨_,o4,rfl,hF.out.1.mono (fun _ h=>h.elim), ?_, ?_⟩
   ·rw [←hRH.out];exact hF.out.2.1
   ·rw [←hRH.out];exact hF.out.2.2
  ·rw [if_neg hle] at hR
   have hleI:¬ (m.e.toNat:Int) < (z.s.kept.promised.toNat:Int):=by omega
   by_cases hcu:z.s.kept.current = m.e
   ·rw [if_pos hcu] at hR
    have hRH:=hidden hR
    have hcI:(z.s.kept.current.toNat:Int) = (m.e.toNat:Int):=by rw [hcu]
    have hF6:=hidden (And.intro (hQ.out.1.mono (T':=InN D M) (fun _ h=>h.elim)) (And.intro hQ.out.2.1 (show (o3 mb).1 = 0 by rw [hQ.out.2.2.1])))
    clear hR hcu
    have hfo:=hidden (FD hQ.out.2.2.2.1)
    go_wp2_with fail
    refine hfo.out.mono ?_;rintro ex W7 ⟨v7,o7,rfl,hs7,rfl,hn7⟩
    have n4:¬ Only (M + 4) 0:=fun h=>by unfold Only at h;omega
    have mb7:=(hs7.block mb (lt_of_block hF6.out.2.1) (by rw [hF6.out.2.2];exact n4)).trans hF6.out.2.1
    have q1:=cell_of_block mb7 1
    simp only [Bf,List.getElem?_cons_zero,List.getElem?_cons_succ] at q1
    have hak:=hidden (OY hn7 hI.out.2.2.1.n hI.out.2.2.2 m.e hmH.out.e1 hmH.out.e2 src)
    have hF7:=hidden (And.intro (hF6.out.1.trans (hs7.mono (T':=InN D M) (fun k h=>(show InN D M k by cases h;exact InN.own)))) hn7)
    clear hs7 hn7 mb7 hfo
    go_wp2_with fail
    refine hak.out.mono ?_;rintro ex W8 ⟨v8,o8,rfl,hs8,hou⟩
    have hF:=hidden (And.intro (hF7.out.1.trans (hs8.mono (fun _ h=>h.elim))) (And.intro hou (hF7.out.2.step0 hs8)))
    obtain ⟨xa,xc,rfl⟩:=hou.form
    clear hs8 hou hak
    go_wp2_with fail
    go_ret
    refine ⟨_,o8,rfl,hF.out.1, ?_, ?_⟩
    ·rw [←hRH.out];exact hF.out.2.1
    ·rw [←hRH.out];exact hF.out.2.2
   ·rw [if_neg hcu] at hR
    have hcI:¬ (z.s.kept.current.toNat:Int) = (m.e.toNat:Int):=fun h=>hcu (BitVec.eq_of_toNat_eq (by omega))
    obtain ⟨st3,mb3,mo3,h3,hl3,kb3,ko3,hlk3⟩:=hQ.out
    have dr:Step Nobody W3 o3 W3.drew o3:=(Step.refl Nobody W3 o3).drew
    have had:=Pe h3.tags (h3.step0 dr).store hPH.out.sp m.e (hl3.step dr (fun h=>h)) hmH.out.small
    obtain ⟨-, -,e2, -⟩:=(h3.step0 dr).cell
    have q1:=cell_of_block (w:=W3.drew) mb3 1
    have q5:=cell_of_block (w:=W3.drew) mb3 5
    have hS:=And.intro e2 (And.intro (show W3.drew.cell? ⟨mb,1,none⟩ = some (.int .u64 (m.e.toNat:Int)) from q1) (show W3.drew.cell? ⟨mb,5,none⟩ = some (.slice la n lc) from q5))
    have hfit:=KW hPH.out.sp hK hPH.out.kok m.e m.ls (Nat.le_trans hI.out.2.2.1.b hB) hmb
    obtain ⟨Q,hQQ⟩:∃ Q,z.s.FO m.e m.ls = Q:=⟨_,rfl⟩
    simp only [hQQ] at had hfit hR
    have hadH:=hidden had
    have hD3:=hidden (h3.step0 dr)
    clear st3 mb3 mo3 h3 hl3 kb3 ko3 hlk3 dr had e2 q1 q5
    have hgo:∀ (W6:World) (o6:Own),Step (In4 (M + 1) (M + 2) (M + 3) D) W3.drew o3 W6 o6→Bi W6 o6 (M + 1) (M + 2) (M + 3) D ps pd 0 Q.1 →
      (W6.cell? ⟨pz,2,none⟩ = some (.pointer (some ⟨ps,0,none⟩))∧W6.cell? ⟨mb,1,none⟩ = some (.int .u64 (m.e.toNat:Int))∧W6.cell? ⟨mb,5,none⟩ = some (.slice la n lc))∧(W6.heap[mb]? = some (.cells (Bf m (.slice la n lc)).toArray 46 (0,0))∧(o6 mb).1 = 0∧Step (InN D M) w o W6 o6∧Bc W6 o6 D M pz ps pd { z with s:=Q.1 }):=by
     intro W6 o6 hs6 hst6
     obtain ⟨st3,mb3,mo3,h3,hl3,kb3,ko3,hlk3⟩:=hQ.out
     have dr:Step Nobody W3 o3 W3.drew o3:=(Step.refl Nobody W3 o3).drew
     have n0:=n04 h3.tags
     have mb6:=(hs6.block mb (lt_of_block mb3) (by rw [mo3];exact n0)).trans mb3
     have h6:=hD3.out.restore hs6 hst6
     obtain ⟨-, -,e2, -⟩:=h6.cell
     exact ⟨⟨e2,cell_of_block mb6 1,cell_of_block mb6 5⟩,mb6,by rw [hs6.own mb (lt_of_block mb3),mo3],((st3.trans dr).mono (fun _ h=>h.elim)).trans (hs6.mono InN.in4),h6⟩
    have hgoH:=hidden hgo
    clear hgo
    rcases hfit with ⟨hf1,hf2⟩ | ⟨hf0,s',hf2,hf3,hf4⟩
    ·subst hf2
     rw [if_neg (fun h=>by cases h)] at hR
     have hRH:=hidden hR
     clear hR
     go_wp2_with fail
     clear m0 m1 m2 m3 m4 m5 kc0 kc1 kc2
     refine Aa (fun w'=>w'.cell? ⟨pz,2,none⟩ = some (.pointer (some ⟨ps,0,none⟩))∧w'.cell? ⟨mb,1,none⟩ = some (.int .u64 (m.e.toNat:Int))∧w'.cell? ⟨mb,5,none⟩ = some (.slice la n lc)) (fun _=>true) (by kernel_rfl) hS (fun hHeld => ?_)
     refine tq 0 ?_
     refine tq 1 ?_
     refine tq 2 ?_
     refine tq 3 ?_
     refine tq 4 ?_
     refine tq 5 ?_
     refine tq 6 ?_
     refine tq 7 ?_
     refine Ac (i:=8) rfl (by kernel_rfl) ?_
     go_wp2_with fail
     refine hadH.out.mono ?_;rintro ex W6 ⟨v6,o6,rfl,hs6,rfl,hst6⟩
     have hG6:=hidden (hgoH.out W6 o6 hs6 hst6)
     have hS6:=hG6.out.1
     clear hs6 hst6 hHeld hS
     go_wp2_with fail
     refine ⟨fun _=>hS6, ?_⟩
     refine tq 9 ?_
     refine Ae (by kernel_rfl) ?_ _
     clear hS6
     go_wp2_with fail
     go_ret
     refine ⟨_,o6,rfl,hG6.out.2.2.2.1, ?_, ?_⟩
     ·rw [←hRH.out];exact Dn.nil _ _
     ·rw [←hRH.out];exact hG6.out.2.2.2.2
    ·subst hf2
     rw [if_pos rfl] at hR
     have hRH:=hidden hR
     clear hR
     go_wp2_with fail
     clear m0 m1 m2 m3 m4 m5 kc0 kc1 kc2
     refine Aa (fun w'=>w'.cell? ⟨pz,2,none⟩ = some (.pointer (some ⟨ps,0,none⟩))∧w'.cell? ⟨mb,1,none⟩ = some (.int .u64 (m.e.toNat:Int))∧w'.cell? ⟨mb,5,none⟩ = some (.slice la n lc)) (fun _=>true) (by kernel_rfl) hS (fun hHeld => ?_)
     refine tq 0 ?_
     refine tq 1 ?_
     refine tq 2 ?_
     refine tq 3 ?_
     refine tq 4 ?_
     refine tq 5 ?_
     refine tq 6 ?_
     refine tq 7 ?_
     refine Ac (i:=8) rfl (by kernel_rfl) ?_
     go_wp2_with fail
     refine hadH.out.mono ?_;rintro ex W6 ⟨v6,o6,rfl,hs6,rfl,hst6⟩
     have hG6:=hidden (hgoH.out W6 o6 hs6 hst6)
     have hS6:=hG6.out.1
     clear hs6 hst6 hHeld hS
     go_wp2_with fail
     refine ⟨fun _=>hS6, ?_⟩
     refine tq 9 ?_
     refine Ae (by kernel_rfl) ?_ _
     clear hS6
     obtain ⟨hS6,mb6,mo6,st6,h6⟩:=hG6.out
     have dr:Step Nobody W6 o6 W6.drew o6:=(Step.refl Nobody W6 o6).drew
     obtain ⟨V,hV⟩:∃ V,W6.drew = V:=⟨_,rfl⟩
     rw [hV] at dr
     have hV6:=h6.step0 dr
     have mbV:=(dr.block _ (lt_of_block mb6) (fun h=>h)).trans mb6
     obtain ⟨-, -, -, -, -,e6⟩:=hV6.cell
     have f6:=hV6.free 6
     have q5:V.cell? ⟨mb,5,none⟩ = some (.slice la n lc):=cell_of_block mbV 5
     obtain ⟨hcm,kcm⟩:=hV6.Ag (min z.Ag n)
     have n4:¬ Only (M + 4) 0:=fun h=>by unfold Only at h;omega
     have hF6:=hidden (And.intro ((st6.trans (dr.mono (T':=InN D M) (fun _ h=>h.elim))).trans (kcm.mono (T':=InN D M) (fun k h=>(show InN D M k by cases h;exact InN.own)))) (And.intro ((kcm.block mb (lt_of_block mbV) (by rw [mo6];exact n4)).trans mbV) mo6))
     have hcmH:=hidden hcm
     have hS9:=And.intro (show V.cell? ⟨pz,6,none⟩ = some (.int .i64 (z.Ag:Int)) from e6) q5
     rw [←hV] at hS9
     have hmn:min (z.Ag:Int) (n:Int) = ((min z.Ag n:Nat):Int):=by omega
     have hcoI:(0:Int) ≤ (z.Ag:Int)∧(z.Ag:Int) ≤ 256:=by
      have h1:z.Ag ≤ z.s.kept.lines.length:=hPH.out.ok.co
      have:=hI.out.2.2.1.n
      omega
     have hnI:(0:Int) ≤ (n:Int)∧(n:Int) ≤ 256:=by have:=hmH.out.n1;have:=hnH.out;omega
     have hk':s'.kept.lines = m.ls:=by rw [hf4,IZ hf0]
     have hk'H:=hidden hk'
     clear hS6 mb6 mo6 st6 h6 dr hV6 mbV hcm kcm n4 hk'
     go_wp2_with fail
     refine Aa (fun w'=>w'.cell? ⟨pz,6,none⟩ = some (.int .i64 (z.Ag:Int))∧w'.cell? ⟨mb,5,none⟩ = some (.slice la n lc)) (fun i=>decide (i < 11)) (by kernel_rfl) hS9 (fun hHeld => ?_)
     rw [hV] at hHeld ⊢
     clear hV hS9
     refine tq 0 ?_
     refine tq 1 ?_
     refine tq 2 ?_
     refine tq 3 ?_
     refine tq 4 ?_
     refine tq 5 ?_
     refine tq 6 ?_
     refine tq 7 ?_
     refine tq 8 ?_
     refine Ac (i:=9) rfl (by kernel_rfl) ?_
     go_wp2_with fail
     refine ⟨fun _=>hHeld, ?_⟩
     refine tq 10 ?_
     refine Ac (i:=11) rfl (by kernel_rfl) ?_
     go_wp2_with fail
     refine ⟨fun h=>by simp at h, ?_⟩
     refine Ae (by kernel_rfl) ?_ _
     clear e6 f6 q5 hmn
     have hfo:=hidden (FD hcmH.out)
     go_wp2_with fail
     refine hfo.out.mono ?_;rintro ex W7 ⟨v7,o7,rfl,hs7,rfl,hn7⟩
     have n4:¬ Only (M + 4) 0:=fun h=>by unfold Only at h;omega
     have mb7:=(hs7.block mb (lt_of_block hF6.out.2.1) (by rw [hF6.out.2.2];exact n4)).trans hF6.out.2.1
     have q1:=cell_of_block mb7 1
     simp only [Bf,List.getElem?_cons_zero,List.getElem?_cons_succ] at q1
     have hak:=hidden (OY hn7 (by show s'.kept.lines.length ≤ 256;rw [hk'H.out];exact hmH.out.n1) (by show small s'.kept.lines;rw [hk'H.out];exact hmH.out.small) m.e hmH.out.e1 hmH.out.e2 src)
     have hF7:=hidden (And.intro (hF6.out.1.trans (hs7.mono (T':=InN D M) (fun k h=>(show InN D M k by cases h;exact InN.own)))) hn7)
     clear hs7 hn7 mb7 hfo
     go_wp2_with fail
     refine hak.out.mono ?_;rintro ex W8 ⟨v8,o8,rfl,hs8,hou⟩
     have hF:=hidden (And.intro (hF7.out.1.trans (hs8.mono (fun _ h=>h.elim))) (And.intro hou (hF7.out.2.step0 hs8)))
     obtain ⟨xa,xc,rfl⟩:=hou.form
     clear hs8 hou hak
     go_wp2_with fail
     go_ret
     refine ⟨_,o8,rfl,hF.out.1, ?_, ?_⟩
     ·rw [←hRH.out,hnH.out];exact hF.out.2.1
     ·rw [←hRH.out,hnH.out];exact hF.out.2.2
end
section
variable (w:World) (p:Option Addr)
theorem gZ:(Instr.typeAssert (.iface 115 (.agg #[])) 84 115 true).run Tryz.prog w = .ok (.tuple #[.agg #[], .bool true]) w:=by kernel_rfl
theorem gX:(Instr.typeAssert (.iface 151 (.pointer p)) 84 115 true).run Tryz.prog w = .ok (.tuple #[.agg #[], .bool false]) w:=by kernel_rfl
theorem gY:(Instr.typeAssert (.iface 87 (.pointer p)) 84 115 true).run Tryz.prog w = .ok (.tuple #[.agg #[], .bool false]) w:=by kernel_rfl
end
section
variable {w:World} {o:Own} {D M pz ps pd K B base:Nat} {z:Am}
theorem VA (h:Bc w o D M pz ps pd z) (hp:Am.NP K B z) (hB:B ≤ 90000) (src:Nat) (hsrc:src < z.n) (m:BG) (hm:m.May) {lv:Value} (hl:Lines w o base lv m.ls) :
  Calls Tryz.prog 104 #[.pointer (some ⟨pz,0,none⟩), .int .i64 (src:Int),Ea m lv] w (Ret (InN D M) w o fun v w' o'=>Dn w' o' v (Ed (z.CJ src m).2)∧Bc w' o' D M pz ps pd (z.CJ src m).1):=by
 obtain ⟨R,hR⟩:∃ R,z.CJ src m = R:=⟨_,rfl⟩
 rw [hR]
 unfold Am.CJ at hR
 obtain ⟨la,lc,hlv⟩:=hl.form
 obtain ⟨n,hn⟩:∃ n,m.ls.length = n:=⟨_,rfl⟩
 rw [hn] at hlv
 subst hlv
 have hn3:z.n ≤ 3:=hp.ok.n3
 have hn1:1 ≤ z.n:=hp.ok.n1
 have hls:En B z.s.kept.lines:=hp.ok.ls
 have hsm:=En.small hls (by omega)
 have s1:=(Step.refl Nobody w o).alloc (.cells (Bf m (.slice la n lc)).toArray 46) (0,0)
 have mb1:=heap_alloc_new w (.cells (Bf m (.slice la n lc)).toArray 46)
 have mo1:=Au o w.heap.size (0,0)
 generalize Ak o w.heap.size (0,0) = o1 at *
 obtain ⟨W1,hW1⟩:∃ W1,w.alloc (.cells (Bf m (.slice la n lc)).toArray 46) = W1:=⟨_,rfl⟩
 rw [hW1] at s1 mb1
 have hbx:(Instr.box 46 (Ea m (.slice la n lc))).run Tryz.prog w = .ok (.pointer (some ⟨w.heap.size,0,none⟩)) W1:=by rw [←hW1];kernel_rfl
 obtain ⟨mb,hmb⟩:∃ b,w.heap.size = b:=⟨_,rfl⟩
 rw [hmb] at mb1 mo1 hbx
 have h1:=h.step0 s1
 have hl1:=hl.step s1 (fun h=>h)
 obtain ⟨-, -,e2, -⟩:=h1.cell
 unfold Ea at hbx ⊢
 have hbxH:=hidden hbx
 obtain ⟨hDM,rv,hb,hro,hst⟩:=id h1
 cases hrr:z.BB with
 | follows =>
  rw [hrr] at hR hro
  obtain rfl:rv = .iface 115 (.agg #[]):=hro
  have hta:=ZI W1
  have c3:=hb.cells.1.2.2.2.1
  have hF:=hidden (And.intro s1 h1)
  have hRH:=hidden hR
  have q1:=cell_of_block (w:=W1.drew) mb1 1
  have hS0:W1.drew.cell? ⟨mb,1,none⟩ = some (.int .u64 (m.e.toNat:Int)):=q1
  clear hb hst h1 hl1 s1 mb1 mo1 hW1 hmb hbx e2 hls hsm hn3 hn1 hrr hR q1
  go_enter Tryz.func104,Tryz.ntmps104
  go_wp2_with ((with_reducible apply BM);exact hbxH.out;simp only [Act.put,lsa,lsz,lss])
  refine Aa (fun w'=>w'.cell? ⟨mb,1,none⟩ = some (.int .u64 (m.e.toNat:Int))) (fun _=>true) (by kernel_rfl) hS0 (fun hHeld => ?_)
  refine tq 0 ?_
  refine tq 1 ?_
  refine ts 2 ?_
  refine ts 3 ?_
  refine ts 4 ?_
  refine ts 5 ?_
  refine ts 6 ?_
  refine ts 7 ?_
  refine ts 8 ?_
  refine tq 9 ?_
  refine Ae (by kernel_rfl) ?_ _
  clear hHeld hS0
  go_wp2_with fail
  go_ret
  refine ⟨_,o1,rfl,hF.out.1.drew.mono (fun _ h=>h.elim), ?_, ?_⟩
  ·rw [←hRH.out];exact Dn.nil _ _
  ·rw [←hRH.out];exact hF.out.2.step0 (Step.refl Nobody W1 o1).drew
 | stands mine has =>
  rw [hrr] at hR hro
  obtain ⟨p,rfl,hsa⟩:=hro
  clear hsa
  have hta:=ZG W1 (some ⟨p,0,none⟩)
  have c3:=hb.cells.1.2.2.2.1
  have hF:=hidden (And.intro s1 h1)
  have hRH:=hidden hR
  have q1:=cell_of_block (w:=W1.drew) mb1 1
  have hS0:W1.drew.cell? ⟨mb,1,none⟩ = some (.int .u64 (m.e.toNat:Int)):=q1
  clear hb hst h1 hl1 s1 mb1 mo1 hW1 hmb hbx e2 hls hsm hn3 hn1 hrr hR q1
  go_enter Tryz.func104,Tryz.ntmps104
  go_wp2_with ((with_reducible apply BM);exact hbxH.out;simp only [Act.put,lsa,lsz,lss])
  refine Aa (fun w'=>w'.cell? ⟨mb,1,none⟩ = some (.int .u64 (m.e.toNat:Int))) (fun _=>true) (by kernel_rfl) hS0 (fun hHeld => ?_)
  refine tq 0 ?_
  refine tq 1 ?_
  refine ts 2 ?_
  refine ts 3 ?_
  refine ts 4 ?_
  refine ts 5 ?_
  refine ts 6 ?_
  refine ts 7 ?_
  refine ts 8 ?_
  refine tq 9 ?_
  refine Ae (by kernel_rfl) ?_ _
  clear hHeld hS0
  go_wp2_with fail
  go_ret
  refine ⟨_,o1,rfl,hF.out.1.drew.mono (fun _ h=>h.elim), ?_, ?_⟩
  ·rw [←hRH.out];exact Dn.nil _ _
  ·rw [←hRH.out];exact hF.out.2.step0 (Step.refl Nobody W1 o1).drew
 | leads mine mat base ready =>
  rw [hrr] at hR hro
  obtain ⟨p,rfl,hla⟩:=hro
  have hln:GV W1 o1 D M pz ps pd p z mine mat base ready:=⟨hDM,hb,hla,hst⟩
  have hro2:=hp.ok.ro
  rw [show z.BN.BB = z.BB from rfl,hrr] at hro2
  obtain ⟨-,hml,hmb2⟩:=hro2
  have hml:mat.length = z.n:=hml
  have hmb2:∀ x ∈ mat, -1 ≤ x∧x ≤ (z.s.kept.lines.length:Int):=hmb2
  obtain ⟨b,cap,hp1,hpo,hr,hro3,hcl,hcm⟩:=hla
  have hta:=ZH W1 (some ⟨p,0,none⟩)
  have c3:=hb.cells.1.2.2.2.1
  have q1:=cell_of_block (w:=W1.drew) mb1 1
  have p0:=cell_of_block (w:=W1.drew) hp1 0
  simp only [List.getElem?_cons_zero] at p0
  have hS2:=And.intro (show W1.drew.cell? ⟨mb,1,none⟩ = some (.int .u64 (m.e.toNat:Int)) from q1) p0
  simp only at hR
  by_cases hme:mine = m.e
  ·rw [if_pos hme] at hR
   have hmeI:(mine.toNat:Int) = (m.e.toNat:Int):=by rw [hme]
   obtain ⟨V,hV⟩:∃ V,W1.drew = V:=⟨_,rfl⟩
   obtain ⟨V2,hV2⟩:∃ V2,V.drew = V2:=⟨_,rfl⟩
   have k1:Step Nobody W1 o1 V2 o1:=by rw [←hV2, ←hV];exact (Step.refl Nobody W1 o1).drew.drew
   have hln2:=hln.step k1 (fun t h=>h.elim)
   have mb2:=(k1.block mb (lt_of_block mb1) (fun h=>h)).trans mb1
   have st2:=s1.trans k1
   obtain ⟨x,hx⟩:∃ x,mat.getD src 0 = x:=⟨_,rfl⟩
   obtain ⟨nn,hnn⟩:∃ k,mat.length = k:=⟨_,rfl⟩
   have hsl:src < mat.length:=by rw [hml];exact hsrc
   have hcell:∀ (W:World) (O:Own),Step Nobody V2 o1 W O→(W.cell? ⟨mb,1,none⟩ = some (.int .u64 (m.e.toNat:Int))∧W.cell? ⟨mb,3,none⟩ = some (.int .i64 (m.at':Int))∧W.cell? ⟨pz,2,none⟩ = some (.pointer (some ⟨ps,0,none⟩))∧W.cell? ⟨p,1,none⟩ = some (.slice (some ⟨b,0,none⟩) nn cap)∧W.cell? ⟨b,src,none⟩ = some (.int .i64 x)):=by
    intro W O hJ
    have hmbJ:=(hJ.block mb (lt_of_block mb2) (fun h=>h)).trans mb2
    have hk:=k1.trans hJ
    have e2:=(hb.step hk (fun h=>h)).cells.1.2.2.1
    have g1:=cell_of_block ((hk.block p (lt_of_block hp1) (fun h=>h)).trans hp1) 1
    simp only [List.getElem?_cons_zero,List.getElem?_cons_succ] at g1
    rw [hnn] at g1
    have g2:=cell_of_block ((hk.block b (lt_of_block hr) (fun h=>h)).trans hr) src
    refine ⟨cell_of_block hmbJ 1,cell_of_block hmbJ 3,e2,g1, ?_⟩
    rw [g2]
    rw [List.getD_eq_getElem?_getD,List.getElem?_eq_getElem hsl] at hx
    simp only [Option.getD_some] at hx
    simp [ivs,List.getElem?_eq_getElem hsl,hx]
   have hkp:=hidden (DJ (hst.step0 k1) hsm)
   obtain ⟨L,hL⟩:∃ L,z.s.kept.lines.length = L:=⟨_,rfl⟩
   obtain ⟨mn,hmn⟩:∃ k,min m.at' L = k:=⟨_,rfl⟩
   have hx1:min (m.at':Int) (L:Int) = (mn:Int):=by omega
   obtain ⟨y,hy⟩:∃ y,max x (mn:Int) = y:=⟨_,rfl⟩
   have hR2:(z.count m.e (mat.set src y) base ready,[]) = R:=by rw [←hR,hx,hL,hmn,hy,hme]
   have hxm:x ∈ mat:=by rw [←hx,List.getD_eq_getElem?_getD,List.getElem?_eq_getElem hsl];exact List.getElem_mem hsl
   have hxb:=hmb2 x hxm
   have hl256:=hls.n
   have hmc:∀ u ∈ mat.set src y, -1 ≤ u∧u ≤ 256:=by
    intro u hu
    rcases List.mem_or_eq_of_mem_set hu with h | h
    ·have:=hmb2 u h;omega
    ·rw [h, ←hy];omega
   have hRH:=hidden hR2
   have hcH:=hidden hcell
   have hS3:=hcell V2 o1 (Step.refl _ _ _)
   have hS1:V.cell? ⟨mb,1,none⟩ = some (.int .u64 (m.e.toNat:Int))∧V.cell? ⟨p,0,none⟩ = some (.int .u64 (mine.toNat:Int)):=by rw [←hV];exact hS2
   have hHH:=hidden (And.intro hln2 (And.intro mb2 st2))
   have hsrcI:(0:Int) ≤ (src:Int)∧(src:Int) < (nn:Int):=by omega
   have hKK:=hidden (And.intro hml (And.intro hsl (And.intro hnn (And.intro hmc (And.intro hn1 (And.intro hn3 (And.intro hls hsm)))))))
   have hco:z.Ag ≤ z.s.kept.lines.length:=hp.ok.co
   have hid:z.id < z.n:=hp.ok.id
   have hKC:=hidden (And.intro hco hid)
   have hLH:=hidden hL
   have hDMH:=hidden hDM
   have haI:(0:Int) ≤ (m.at':Int)∧(m.at':Int) ≤ 256:=by have:=hm.a1;omega
   have hLI:(0:Int) ≤ (L:Int)∧(L:Int) ≤ 256:=by omega
   have hxI : -1 ≤ x∧x ≤ 256:=by omega
   rw [←hV2] at hS3
   have hmeH:=hidden hme
   clear hb hst h1 hl1 s1 mb1 mo1 hW1 hmb hbx e2 hls hsm hn3 hn1 hrr hR q1 p0 hln hp1 hpo hr hro3 hcl hcm hme hmb2 hml hcell k1 hln2 mb2 st2 hx hnn hsl hmn hR2 hxm hxb hl256 hmc hco hid hL hDM
   go_enter Tryz.func104,Tryz.ntmps104
   go_wp2_with ((with_reducible apply BM);exact hbxH.out;simp only [Act.put,lsa,lsz,lss])
   refine Aa (fun w'=>w'.cell? ⟨mb,1,none⟩ = some (.int .u64 (m.e.toNat:Int))∧w'.cell? ⟨p,0,none⟩ = some (.int .u64 (mine.toNat:Int))) (fun _=>true) (by kernel_rfl) hS2 (fun hHeld => ?_)
   rw [hV] at hHeld ⊢
   refine tq 0 ?_
   refine tq 1 ?_
   refine tq 2 ?_
   refine tq 3 ?_
   refine tq 4 ?_
   refine tq 5 ?_
   refine tq 6 ?_
   refine tq 7 ?_
   refine tq 8 ?_
   refine tq 9 ?_
   refine Ae (by kernel_rfl) ?_ _
   clear hHeld hS2 hS1 hV
   go_wp2_with fail
   refine Aa (fun w'=>w'.cell? ⟨mb,1,none⟩ = some (.int .u64 (m.e.toNat:Int))∧w'.cell? ⟨mb,3,none⟩ = some (.int .i64 (m.at':Int))∧w'.cell? ⟨pz,2,none⟩ = some (.pointer (some ⟨ps,0,none⟩))∧w'.cell? ⟨p,1,none⟩ = some (.slice (some ⟨b,0,none⟩) nn cap)∧w'.cell? ⟨b,src,none⟩ = some (.int .i64 x)) (fun i=>decide (i < 24)) (by kernel_rfl) hS3 (fun hHeld => ?_)
   rw [hV2] at hHeld ⊢
   clear hV2 hS3
   refine tq 0 ?_
   refine tq 1 ?_
   refine tq 2 ?_
   refine tq 3 ?_
   refine tq 4 ?_
   refine tq 5 ?_
   refine tq 6 ?_
   refine tq 7 ?_
   refine tq 8 ?_
   refine tq 9 ?_
   refine tq 10 ?_
   refine tq 11 ?_
   refine tq 12 ?_
   refine tq 13 ?_
   refine tq 14 ?_
   refine tq 15 ?_
   refine tq 16 ?_
   refine tq 17 ?_
   refine Ac (i:=18) rfl (by kernel_rfl) ?_
   go_wp2_with fail
   refine hkp.out.mono ?_;rintro ex W9 ⟨v9,o9,rfl,hs9,lk9,rfl,hlk9,rfl⟩
   obtain ⟨k9a,k9c,rfl⟩:=hlk9.form
   rw [hLH.out]
   obtain ⟨hln2,mb2,st2⟩:=hHH.out
   have hln9:=hln2.step hs9 (fun t h=>h.elim)
   obtain ⟨hDM9,hb9,⟨b',cap',hp9,hpo9,hr9,hro9,hcl9,hcm9⟩,hst9⟩:=hln9
   have hS9:=hcH.out W9 _ hs9
   have e1:=cell_of_block hp9 1
   simp only [List.getElem?_cons_zero,List.getElem?_cons_succ] at e1
   rw [hS9.2.2.2.1] at e1
   simp only [Option.some.injEq,Value.slice.injEq,Addr.mk.injEq,and_true] at e1
   obtain ⟨rfl, -,rfl⟩:=e1
   have kst:=(Step.refl (Only (M + 4)) W9 (ext V2 o1)).setCell (a:=⟨b,src,none⟩) (.int .i64 y) (.inl (by show (ext V2 o1 b).1 = _;rw [hro9]))
   have hr10:=Ai (i:=src) (.int .i64 y) hr9
   rw [XP] at hr10
   have hpb:p ≠ b:=fun h=>by rw [h,hro9] at hpo9;cases hpo9
   have hzb:pz ≠ b:=fun h=>by have:=hb9.2;rw [h,hro9] at this;cases this
   have hp10:=(Below.heap_setCell W9 ⟨b,src,none⟩ (.int .i64 y) p hpb).trans hp9
   have hb10:GK (W9.setCell ⟨b,src,none⟩ (.int .i64 y)) (ext V2 o1) (M + 4) pz ps (.iface 87 (.pointer (some ⟨p,0,none⟩))) z:=⟨(Below.heap_setCell W9 ⟨b,src,none⟩ (.int .i64 y) pz hzb).trans hb9.1,hb9.2⟩
   have hln10:GV (W9.setCell ⟨b,src,none⟩ (.int .i64 y)) (ext V2 o1) D M pz ps pd p z mine (mat.set src y) base ready:=⟨hDM9,hb10,⟨b,cap,by rw [List.length_set];exact hp10,hpo9,hr10,hro9,by rw [List.length_set];exact hcl9,hcm9⟩,hst9.step kst (InN.self hDM9.1)⟩
   obtain ⟨hml,hsl,hnn,hmc,hn1,hn3,hls,hsm⟩:=hKK.out
   have hcnt:=hidden (count_any hln10 hsm hls.n (by rw [List.length_set];omega) (by rw [List.length_set];omega) (by rw [List.length_set,hml];exact hKC.out.2) hmc (by have:=hKC.out.1;have:=hls.n;omega))
   have fb:=Ap hr9 src
   have cb:=hS9.2.2.2.2
   have hF10:=hidden ((st2.trans hs9).mono (T':=InN D M) (fun _ h=>h.elim) |>.trans (kst.mono (T':=InN D M) (fun k h=>(show InN D M k by cases h;exact InN.own))))
   have hfk:=fun W=>He W (.int .u64 (z.s.kept.promised.toNat:Int)) (.int .u64 (z.s.kept.current.toNat:Int)) (.slice k9a L k9c)
   unfold Dy
   clear hs9 hlk9 hln2 mb2 st2 hDM9 hb9 hp9 hpo9 hr9 hro9 hcl9 hcm9 hst9 kst hr10 hpb hzb hp10 hb10 hln10 hml hsl hnn hmc hn1 hn3 hls hsm hkp hHeld
   go_wp2_with fail
   refine ⟨fun _=>hS9, ?_⟩
   refine tq 19 ?_
   refine tq 20 ?_
   refine tq 21 ?_
   refine tq 22 ?_
   refine tq 23 ?_
   refine Ac (i:=24) rfl (by kernel_rfl) ?_
   go_wp2_with fail
   refine ⟨fun h=>by simp at h, ?_⟩
   refine Ae (by kernel_rfl) ?_ _
   clear cb fb hfk
   go_wp2_with fail
   refine hcnt.out.mono ?_;rintro ex W11 ⟨v11,o11,rfl,hs11,rfl,r,hr11,hln11⟩
   have hF:=hidden (And.intro (hF10.out.trans (hs11.mono (T':=InN D M) (fun k h=>(show InN D M k by cases h;exact InN.own)))) (hln11.node hr11))
   clear hs11 hr11 hln11 hcnt
   go_wp2_with fail
   go_ret
   refine ⟨_,o11,rfl,hF.out.1, ?_, ?_⟩
   ·rw [←hRH.out];exact Dn.nil _ _
   ·rw [←hRH.out]
    have h:=hF.out.2
    rw [hmeH.out] at h
    exact h
  ·rw [if_neg hme] at hR
   have hmeI:¬ (mine.toNat:Int) = (m.e.toNat:Int):=fun h=>hme (BitVec.eq_of_toNat_eq (by omega))
   have hF:=hidden (And.intro s1 h1)
   have hRH:=hidden hR
   clear hb hst h1 hl1 s1 mb1 mo1 hW1 hmb hbx e2 hls hsm hn3 hn1 hrr hR q1 p0 hln hp1 hpo hr hro3 hcl hcm hme hmb2 hml
   go_enter Tryz.func104,Tryz.ntmps104
   go_wp2_with ((with_reducible apply BM);exact hbxH.out;simp only [Act.put,lsa,lsz,lss])
   refine Aa (fun w'=>w'.cell? ⟨mb,1,none⟩ = some (.int .u64 (m.e.toNat:Int))∧w'.cell? ⟨p,0,none⟩ = some (.int .u64 (mine.toNat:Int))) (fun _=>true) (by kernel_rfl) hS2 (fun hHeld => ?_)
   refine tq 0 ?_
   refine tq 1 ?_
   refine tq 2 ?_
   refine tq 3 ?_
   refine tq 4 ?_
   refine tq 5 ?_
   refine tq 6 ?_
   refine tq 7 ?_
   refine tq 8 ?_
   refine tq 9 ?_
   refine Ae (by kernel_rfl) ?_ _
   clear hHeld hS2
   go_wp2_with fail
   go_ret
   refine ⟨_,o1,rfl,hF.out.1.drew.mono (fun _ h=>h.elim), ?_, ?_⟩
   ·rw [←hRH.out];exact Dn.nil _ _
   ·rw [←hRH.out];exact hF.out.2.step0 (Step.refl Nobody W1 o1).drew
end
theorem gW (w:World) (p:Option Addr):(Instr.typeAssert (.iface 87 (.pointer p)) 84 87 false).run Tryz.prog w = .ok (.pointer p) w:=by kernel_rfl
theorem LV (w:World) (e:Int) (bv:Value):(Instr.buildSlice 32 1 #[(0, .agg #[.int .u64 e,bv])]).run Tryz.prog w = .ok (.slice (some ⟨w.heap.size,0,none⟩) 1 1) (w.alloc (.cells [.int .u64 e,bv].toArray 36)):=
 Dv w 32 36 [.int .u64 0, .slice none 0 0] (.agg #[.int .u64 e,bv]) [.int .u64 e,bv] Tryz.underlying32 (by kernel_rfl) rfl (by simp) (by simp) rfl
theorem NM {w:World} {o:Own} {bv:Value} {e:BitVec 64} {b:List UInt8} (h:Bytes w o bv b) :
  Lines (w.alloc (.cells [.int .u64 (e.toNat:Int),bv].toArray 36)) (Ak o w.heap.size (0,0)) 0 (.slice (some ⟨w.heap.size,0,none⟩) 1 1) [⟨e,b⟩]:=by
 have hs:=(Step.refl Nobody w o).alloc (.cells [.int .u64 (e.toNat:Int),bv].toArray 36) (0,0)
 refine ⟨[.int .u64 (e.toNat:Int),bv], .inr ⟨w.heap.size,0,1,rfl,by simp,by decide,by rw [Au],by simp, ?_⟩,LnC.single ⟨e,b⟩ (h.step hs (fun h=>h)),CV.zero _,fun u _=>CV.zero u⟩
 exact AV (heap_alloc_new w _)
section
variable {w:World} {o:Own} {D M pz ps pd K B:Nat} {z:Am}
theorem UV (la:Option Addr) (ln lc:Nat) (w:World):Calls Tryz.prog 14 #[.pointer none, .slice la ln lc] w fun e w'=>e = .returned (.int .i64 8)∧w = w':=by
 go_enter Tryz.func14,Tryz.ntmps14
 go_wp2
 go_ret
 exact ⟨rfl,rfl⟩
theorem dJ (h:Bc w o D M pz ps pd z) (hd:z.dead = true) (la:Option Addr) (ln lc:Nat):Calls Tryz.prog 14 #[.pointer (some ⟨pz,0,none⟩), .slice la ln lc] w fun e w'=>e = .returned (.int .i64 9)∧w = w':=by
 have hdd:=FI h
 rw [hd] at hdd
 have hddH:=hidden hdd
 clear h hd hdd
 go_enter Tryz.func14,Tryz.ntmps14
 go_wp2_with fail
 refine hddH.out.mono ?_;rintro e w' ⟨rfl,rfl⟩
 go_wp2_with fail
 go_ret
 exact ⟨rfl,rfl⟩
theorem UW (h:Bc w o D M pz ps pd z) (hp:Am.NP K B z) (hK:K + 600 < 65536) {bv:Value} {l:List UInt8} (hb:Bytes w o bv l) (hB:B + l.length ≤ 90000) :
  Calls Tryz.prog 14 #[.pointer (some ⟨pz,0,none⟩),bv] w (Ret (InN D M) w o fun v w' o'=>v = .int .i64 (z.BL l).2∧Bc w' o' D M pz ps pd (z.BL l).1):=by
 have hdd:=FI h
 have hdl:z.dead = false:=hp.sp.dead
 rw [hdl] at hdd
 have hddH:=hidden hdd
 obtain ⟨R,hR⟩:∃ R,z.BL l = R:=⟨_,rfl⟩
 rw [hR]
 obtain ⟨ba,bc,rfl⟩:=Aq hb
 obtain ⟨n,hn⟩:∃ n,l.length = n:=⟨_,rfl⟩
 have hnI:(0:Int) ≤ (n:Int)∧(n:Int) ≤ 90000:=by omega
 rw [hn]
 unfold Am.BL at hR
 rw [hn] at hR
 have hH:=hidden h
 by_cases hlen:n = 0 ∨ 4096 < n
 ·rw [if_pos hlen] at hR
  have hRH:=hidden hR
  clear hdd hdl hR h hp hb hn
  by_cases h0:n = 0
  ·subst h0
   clear hlen
   go_enter Tryz.func14,Tryz.ntmps14
   go_wp2_with fail
   refine hddH.out.mono ?_;rintro e w' ⟨rfl,rfl⟩
   go_wp2_with fail
   go_ret
   exact ⟨_,o,rfl,Step.refl _ _ _,by rw [←hRH.out];rfl,by rw [←hRH.out];exact hH.out⟩
  ·have h1:((n:Int) == 0) = false:=by
    have:¬ (n:Int) = 0:=by omega
    simpa using this
   have h2:(4096:Int) < (n:Int):=by omega
   clear hlen
   go_enter Tryz.func14,Tryz.ntmps14
   go_wp2_with fail
   refine hddH.out.mono ?_;rintro e w' ⟨rfl,rfl⟩
   go_wp2_with fail
   go_ret
   exact ⟨_,o,rfl,Step.refl _ _ _,by rw [←hRH.out];rfl,by rw [←hRH.out];exact hH.out⟩
 ·rw [if_neg hlen] at hR
  have h1:((n:Int) == 0) = false:=by
   have:¬ (n:Int) = 0:=by omega
   simpa using this
  have h2:decide ((4096:Int) < (n:Int)) = false:=decide_eq_false (by omega)
  have hle:=RF h
  cases hL:z.BN.OD with
  | false =>
   rw [hL] at hle
   have hleH:=hidden hle
   have hR2:(z,(64:Int)) = R:=by
    rw [←hR]
    have hL':(match z.BB with | .leads _ _ _ r=>r | _=>false) = false:=hL
    cases hrr:z.BB with
    | follows=>rfl
    | stands a b=>rfl
    | leads a b c r =>
     rw [hrr] at hL'
     simp only at hL'
     subst hL'
     rfl
   have hRH:=hidden hR2
   clear hdd hdl hR hR2 h hp hb hn hlen hle hL
   go_enter Tryz.func14,Tryz.ntmps14
   go_wp2_with fail
   refine hddH.out.mono ?_;rintro e w' ⟨rfl,rfl⟩
   go_wp2_with fail
   refine hleH.out.mono ?_;rintro e w' ⟨rfl,rfl⟩
   go_wp2_with fail
   go_ret
   exact ⟨_,o,rfl,Step.refl _ _ _,by rw [←hRH.out];rfl,by rw [←hRH.out];exact hH.out⟩
  | true =>
   rw [hL] at hle
   have hleH:=hidden hle
   obtain ⟨mine,mat,base,hrr⟩:∃ mine mat base,z.BB = .leads mine mat base true:=by
    have hL':(match z.BB with | .leads _ _ _ r=>r | _=>false) = true:=hL
    cases hrr:z.BB with
    | follows=>rw [hrr] at hL';cases hL'
    | stands a b=>rw [hrr] at hL';cases hL'
    | leads a b c r =>
     rw [hrr] at hL'
     simp only at hL'
     subst hL'
     exact ⟨a,b,c,rfl⟩
   rw [hrr] at hR
   simp only at hR
   have hls:En B z.s.kept.lines:=hp.ok.ls
   have hsm:=En.small hls (by omega)
   have hkp:=hidden (DJ h.store hsm)
   obtain ⟨L,hLL⟩:∃ L,z.s.kept.lines.length = L:=⟨_,rfl⟩
   rw [hLL] at hR
   have hLI:(0:Int) ≤ (L:Int)∧(L:Int) ≤ 256:=by have:=hls.n;omega
   obtain ⟨-, -,c2, -⟩:=h.cell
   by_cases hfull:256 ≤ L
   ·rw [if_pos hfull] at hR
    have hRH:=hidden hR
    have hfI:(256:Int) ≤ (L:Int):=by omega
    have hLLH:=hidden hLL
    clear hdd hdl hR h hp hb hn hlen hle hL hrr hls hsm hLL
    go_enter Tryz.func14,Tryz.ntmps14
    go_wp2_with fail
    refine hddH.out.mono ?_;rintro e w' ⟨rfl,rfl⟩
    go_wp2_with fail
    refine hleH.out.mono ?_;rintro e w' ⟨rfl,rfl⟩
    go_wp2_with fail
    refine hkp.out.mono ?_;rintro e w1 ⟨v1,o1,rfl,hs1,lk,rfl,hlk,rfl⟩
    obtain ⟨ka,kc,rfl⟩:=hlk.form
    have hfk:=fun W=>He W (.int .u64 (z.s.kept.promised.toNat:Int)) (.int .u64 (z.s.kept.current.toNat:Int)) (.slice ka L kc)
    have hF:=hidden (And.intro hs1 (hH.out.step0 hs1))
    rw [hLLH.out]
    unfold Dy
    clear hs1 hlk hkp
    go_wp2_with fail
    go_ret
    exact ⟨_,_,rfl,hF.out.1.mono (fun _ h=>h.elim),by rw [←hRH.out];rfl,by rw [←hRH.out];exact hF.out.2⟩
   ·rw [if_neg hfull] at hR
    have hfI:¬ (256:Int) ≤ (L:Int):=by omega
    have hro2:=hp.ok.ro
    rw [show z.BN.BB = z.BB from rfl,hrr] at hro2
    obtain ⟨-,hml,hmb2⟩:=hro2
    have hml:mat.length = z.n:=hml
    have hmb2:∀ x ∈ mat, -1 ≤ x∧x ≤ (z.s.kept.lines.length:Int):=hmb2
    have hn3:z.n ≤ 3:=hp.ok.n3
    have hn1:1 ≤ z.n:=hp.ok.n1
    have hid:z.id < z.n:=hp.ok.id
    have hco:z.Ag ≤ z.s.kept.lines.length:=hp.ok.co
    have hl0:AP [⟨mine,l⟩] = l.length:=by simp [AP]
    have hlb:=hls.b
    have hn0:0 < n∧n ≤ 4096:=by omega
    have hfit:=Jy hp.sp hK hp.kok [⟨mine,l⟩] (by rw [hl0];omega)
    have hsm1:small [⟨mine,l⟩]:=by
     refine ⟨by simp, ?_⟩
     rw [Ej,hl0]
     simp only [List.length_singleton]
     omega
    have hjoin:small (z.s.kept.lines ++ [⟨mine,l⟩]):=by
     refine ⟨by simp only [List.length_append,List.length_singleton];omega, ?_⟩
     rw [Ej,DV,hl0]
     simp only [List.length_append,List.length_singleton]
     omega
    obtain ⟨p,hln⟩:=h.leads hrr
    have hlnH:=hidden hln
    rw [hn] at hb
    have hbH:=hidden hb
    have hPH:=hidden hp.sp
    have hI:=hidden (And.intro hml (And.intro hmb2 (And.intro hn3 (And.intro hn1 (And.intro hid (And.intro hco (And.intro hsm (And.intro hsm1 hjoin))))))))
    have hLLH:=hidden hLL
    have hfitH:=hidden hfit
    have hrrH:=hidden hrr
    clear hdd hdl h hp hb hn hlen hle hL hrr hls hsm hml hmb2 hn3 hn1 hid hco hl0 hlb hsm1 hjoin hln hfit hLL hfull
    go_enter Tryz.func14,Tryz.ntmps14
    go_wp2_with fail
    refine hddH.out.mono ?_;rintro e w' ⟨rfl,rfl⟩
    go_wp2_with fail
    refine hleH.out.mono ?_;rintro e w' ⟨rfl,rfl⟩
    go_wp2_with fail
    refine hkp.out.mono ?_;rintro e w1 ⟨v1,o1,rfl,hs1,lk,rfl,hlk,rfl⟩
    obtain ⟨ka,kc,rfl⟩:=hlk.form
    have hfk:=fun W=>He W (.int .u64 (z.s.kept.promised.toNat:Int)) (.int .u64 (z.s.kept.current.toNat:Int)) (.slice ka L kc)
    rw [hLLH.out]
    unfold Dy
    obtain ⟨o1,ho1⟩:∃ O,ext w o = O:=⟨_,rfl⟩
    rw [ho1] at hs1
    have hln1:=hlnH.out.step hs1 (fun t (h:Nobody t)=>False.elim h)
    have hb1:=hbH.out.step hs1 (fun h=>h)
    have e3:=hln1.2.1.cells.1.2.2.2.1
    have hta:=gW w1 (some ⟨p,0,none⟩)
    obtain ⟨V,hV⟩:∃ V,w1.drew = V:=⟨_,rfl⟩
    have k1:Step Nobody w1 o1 V o1:=by rw [←hV];exact (Step.refl Nobody w1 o1).drew
    have hln2:=hln1.step k1 (fun t (h:Nobody t)=>False.elim h)
    have hb2:=hb1.step k1 (fun h=>h)
    obtain ⟨W2,hW2⟩:∃ W,V.alloc (.cells [.int .u64 (mine.toNat:Int), .slice ba n bc].toArray 36) = W:=⟨_,rfl⟩
    have hbs:(Instr.buildSlice 32 1 #[(0, .agg #[.int .u64 (mine.toNat:Int), .slice ba n bc])]).run Tryz.prog V = .ok (.slice (some ⟨V.heap.size,0,none⟩) 1 1) W2:=by rw [←hW2];exact LV V _ _
    have hlo:Lines W2 (Ak o1 V.heap.size (0,0)) 0 (.slice (some ⟨V.heap.size,0,none⟩) 1 1) [⟨mine,l⟩]:=by rw [←hW2];exact NM hb2
    have k2:Step Nobody V o1 W2 (Ak o1 V.heap.size (0,0)):=by rw [←hW2];exact (Step.refl Nobody V o1).alloc _ _
    have hln3:=hln2.step k2 (fun t (h:Nobody t)=>False.elim h)
    have hcl:∀ (W:World) (O:Own) (y:Am),GV W O D M pz ps pd p y mine mat base true→(W.cell? ⟨pz,2,none⟩ = some (.pointer (some ⟨ps,0,none⟩))∧W.cell? ⟨p,0,none⟩ = some (.int .u64 (mine.toNat:Int))):=by
     intro W O y hW
     obtain ⟨-,hb',⟨b,cap,hp1, -⟩, -⟩:=hW
     have e2:=hb'.cells.1.2.2.1
     have g1:=cell_of_block hp1 0
     simp only [List.getElem?_cons_zero] at g1
     exact ⟨e2,g1⟩
    have hS:w1.drew.cell? ⟨pz,2,none⟩ = some (.pointer (some ⟨ps,0,none⟩))∧w1.drew.cell? ⟨p,0,none⟩ = some (.int .u64 (mine.toNat:Int)):=by rw [hV];exact hcl V _ _ hln2
    have hS3:=hcl W2 _ _ hln3
    have hclH:=hidden hcl
    have hap:=hidden (Ob hln3.1 hln3.2.2.2 hPH.out hlo hI.out.2.2.2.2.2.2.2.1 hI.out.2.2.2.2.2.2.1 (.inl hI.out.2.2.2.2.2.2.2.2))
    have hF:=hidden (And.intro (hs1.trans (k1.trans k2)) hln3)
    have hbsH:=hidden hbs
    obtain ⟨Q,hQQ⟩:∃ Q,z.s.append [⟨mine,l⟩] = Q:=⟨_,rfl⟩
    rw [hQQ] at hap hR hfitH
    obtain ⟨vb,hvb⟩:∃ k,V.heap.size = k:=⟨_,rfl⟩
    rw [hvb] at hap hbsH hF
    clear hs1 hlk hkp hln1 hb1 k1 hln2 hb2 hlo k2 hln3 hcl hbs hW2
    have hRH:=hidden hR
    clear hR
    go_wp2_with fail
    refine Aa (fun w'=>w'.cell? ⟨pz,2,none⟩ = some (.pointer (some ⟨ps,0,none⟩))∧w'.cell? ⟨p,0,none⟩ = some (.int .u64 (mine.toNat:Int))) (fun _=>true) (by kernel_rfl) hS (fun hHeld => ?_)
    rw [hV] at hHeld ⊢
    clear hS hV
    refine tq 0 ?_
    refine tq 1 ?_
    refine tq 2 ?_
    refine tq 3 ?_
    refine tq 4 ?_
    refine tq 5 ?_
    refine tq 6 ?_
    refine tq 7 ?_
    refine tq 8 ?_
    refine tq 9 ?_
    refine Ac (i:=10) rfl (by kernel_rfl) ?_
    refine BO #[(0, .agg #[.int .u64 (mine.toNat:Int), .slice ba n bc])] rfl hbsH.out ?_
    refine ⟨fun _=>hS3, ?_⟩
    refine Ac (i:=11) rfl (by kernel_rfl) ?_
    go_wp2_with fail
    refine hap.out.mono ?_;rintro ex W4 ⟨v4,o4,rfl,hs4,rfl,hst4⟩
    obtain ⟨hDM3,hb3,hla3,hst3⟩:=hF.out.2
    have hln4:GV W4 o4 D M pz ps pd p { z with s:=Q.1 } mine mat base true:=⟨hDM3,hb3.step hs4 (InN.WZ hDM3.1 hDM3.2),hla3.step hs4 (InN.WZ hDM3.1 hDM3.2),hst4⟩
    have hS4:=hclH.out W4 _ _ hln4
    have hG:=hidden (And.intro ((hF.out.1.mono (T':=InN D M) (fun _ (h:Nobody _)=>False.elim h)).trans (hs4.mono InN.in4)) hln4)
    clear hs4 hst4 hDM3 hb3 hla3 hst3 hln4 hHeld
    go_wp2_with fail
    refine ⟨fun _=>hS4, ?_⟩
    refine tq 12 ?_
    refine Ae (by kernel_rfl) ?_ _
    rcases hfitH.out with ⟨hf1,hf2⟩ | ⟨hf0,s',hf2,hf3,hf4⟩
    ·subst hf2
     clear hap hfitH hS3 hS4 hfk e3 hta
     go_wp2_with fail
     go_ret
     have hR:=hRH.out
     rw [if_neg (fun h=>by cases h)] at hR
     refine ⟨_,o4,rfl,hG.out.1, ?_, ?_⟩
     ·rw [←hR];rfl
     ·rw [←hR, ←hrrH.out];exact hG.out.2.node hrrH.out
    ·subst hf2
     have hR:=hRH.out
     rw [if_pos rfl] at hR
     obtain ⟨hml,hmb2,hn3,hn1,hid,hco,hsm,hsm1,hjoin⟩:=hI.out
     have hkl:s'.kept.lines = z.s.kept.lines ++ [⟨mine,l⟩]:=by rw [hf4,Ih hf0]
     have hLL:=hLLH.out
     have hcnt:=hidden (count_any hG.out.2 (show small s'.kept.lines by rw [hkl];exact hjoin) (show s'.kept.lines.length ≤ 256 by rw [hkl,List.length_append,List.length_singleton];omega) (by rw [hml];exact hn1) (by rw [hml];exact hn3) (show z.id < mat.length by rw [hml];exact hid) (by intro x hx;have:=hmb2 x hx;omega) (show z.Ag ≤ 256 by omega))
     have hRH2:=hidden hR
     clear hap hfitH hS3 hS4 hfk e3 hta hR hRH hml hmb2 hn3 hn1 hid hco hsm hsm1 hjoin hkl hLL hI hf0 hf3 hf4
     go_wp2_with fail
     refine hcnt.out.mono ?_;rintro ex W5 ⟨v5,o5,rfl,hs5,rfl,r,hr5,hln5⟩
     have hE:=hidden (And.intro (hG.out.1.trans (hs5.mono (T':=InN D M) (fun k h=>(show InN D M k by cases h;exact InN.own)))) (hln5.node hr5))
     clear hs5 hr5 hln5 hcnt
     go_wp2_with fail
     go_ret
     refine ⟨_,o5,rfl,hE.out.1, ?_, ?_⟩
     ·rw [←hRH2.out];rfl
     ·rw [←hRH2.out];exact hE.out.2
end
theorem Zj (b off k:Nat):(⟨b,off,none⟩:Addr).add k = ⟨b,off + k,none⟩:=by
 unfold Addr.add;split
 ·rename_i h;subst h;rfl
 ·rfl
def Dj (n k:Nat):List Value:=List.replicate k (.int .i64 (-1)) ++ List.replicate (n - k) (.int .i64 0)
theorem Ls {w:World} {o:Own} {b:Nat} (n:Nat) (h1:1 ≤ n) (h3:n ≤ 3) (hc:w.cell? ⟨b,0,none⟩ = some (.int .i64 (-1))) (hb:b < w.heap.size) :
  Calls Tryz.prog 147 #[.slice (some ⟨b,0,none⟩) 1 1, .int .i64 (n:Int)] w (Ret Nobody w o fun v w' o'=>v = .slice (some ⟨w.heap.size,0,none⟩) n n∧w'.heap[w.heap.size]? = some (.cells (ivs (List.replicate n (-1))).toArray 3 (0,0))∧o' = Ak o w.heap.size (0,0)):=by
 have hmul:=Tryz.bits_Mul 1 n (by omega) (by omega) w
 have e0:1 * n / 18446744073709551616 = 0:=by omega
 have e1:1 * n % 18446744073709551616 = n:=by omega
 rw [e0,e1] at hmul
 have hmk:=Gy (P:=Tryz.prog) w 89 3 [.int .i64 0] 1 8 Tryz.underlying89 (by kernel_rfl) rfl n (by omega) (by omega) .i64 .i64
 have e2:(List.replicate n [Value.int .i64 0]).flatten = Dj n 0:=by
  unfold Dj
  simp
 rw [e2] at hmk
 obtain ⟨W,hW⟩:∃ W,w.alloc (.cells (Dj n 0).toArray 3) = W:=⟨_,rfl⟩
 have hg:W.heap[w.heap.size]? = some (.cells (Dj n 0).toArray 3 (0,0)):=by rw [←hW];exact heap_alloc_new w _
 have hst:Step Nobody w o W (Ak o w.heap.size (0,0)):=by rw [←hW];exact (Step.refl Nobody w o).alloc _ _
 have hcW:W.cell? ⟨b,0,none⟩ = some (.int .i64 (-1)):=by rw [World.cell?_of_block (w:=w) (a:=⟨b,0,none⟩) (hst.block b hb (fun h=>h))];exact hc
 rw [hW] at hmk
 obtain ⟨g,hgE⟩:∃ g,w.heap.size = g:=⟨_,rfl⟩
 rw [hgE] at hmk hg hst ⊢
 have hmkH:=hidden hmk
 have s3:(Tryz.prog.info? 3).map (·.size) = some 1:=by kernel_rfl
 have hcp:=run_copy_cells (P:=Tryz.prog) W 89 89 3 3 g 0 n n ⟨b,0,none⟩ 1 1 [.int .i64 (-1)] Tryz.underlying89 s3 (by show 1 = min 1 n;omega) (fun j v hj=>by
  match j,hj with
  | 0,hj=>simp only [List.getElem?_cons_zero,Option.some.injEq] at hj;subst hj;exact hcW
  | j + 1,hj=>simp at hj) (fun j hj=>by
  obtain rfl:j = 0:=by simpa using hj
  rw [Nat.add_zero,cell_of_block hg,List.getElem?_eq_getElem (by simp [Dj];omega)];rfl) (fun j hj=>Ap hg _) (by simp [Value.oneCell'])
 have hg1:=BP g 3 [.int .i64 (-1)] 0 W _ hg (by simp [Dj];omega)
 have e3:((Dj n 0).take 0 ++ [Value.int .i64 (-1)] ++ (Dj n 0).drop (0 + [Value.int .i64 (-1)].length)) = Dj n 1:=by
  unfold Dj
  rcases (show n = 1 ∨ n = 2 ∨ n = 3 by omega) with rfl | rfl | rfl <;> rfl
 rw [e3] at hg1
 have hst1:=hst.setCells g 0 [.int .i64 (-1)] (.inr (by omega))
 obtain ⟨W1,hW1⟩:∃ W1,W.setCells g 0 [.int .i64 (-1)] = W1:=⟨_,rfl⟩
 rw [hW1] at hcp hg1 hst1
 have hcpH:=hidden hcp
 have hmulH:=hidden hmul
 have nI:(1:Int) ≤ (n:Int)∧(n:Int) ≤ 3:=by omega
 have hgH:=hidden hgE
 clear hmul hmk hcp hg hst hcW hW hW1 e2 e3 e0 e1 hc hb hgE
 go_enter Tryz.func147,Tryz.ntmps147
 go_wp2_with fail
 refine hmulH.out.mono ?_;rintro e w' ⟨rfl,rfl⟩
 go_wp2_with (first
  | ((with_reducible apply IC);exact hmkH.out;simp only [Act.put,lsa,lsz,lss])
  | ((with_reducible apply Vo);exact hcpH.out;simp only [Act.put,lsa,lsz,lss]))
 clear hmkH hcpH hmulH
 go_loopw [8] (fun x wr=>∃ (k:Nat) (oj:Own),1 ≤ k∧k ≤ n∧x = .int .i64 (k:Int)∧Step Nobody w' o wr (Ak o g (0,0))∧wr.heap[g]? = some (.cells (Dj n k).toArray 3 (0,0))) (fun x _=>n - (intOf x).toNat)
 case atStart=>exact ⟨1,o,by omega,by omega,rfl,hst1,hg1⟩
 case round =>
  clear hst1 hg1
  obtain ⟨k,oj,hk1,hk,rfl,hst,hg⟩:=hrel
  by_cases hlt:k < n
  ·have hltI:(k:Int) < (n:Int):=by omega
   have hkI:(1:Int) ≤ (k:Int):=by omega
   obtain ⟨m,hm⟩:∃ m,min k (n - k) = m:=⟨_,rfl⟩
   have hgd:wr.drew.heap[g]? = some (.cells (Dj n k).toArray 3 (0,0)):=hg
   have hlen:(Dj n k).length = n:=by simp [Dj];omega
   have hcp:=run_copy_cells (P:=Tryz.prog) wr.drew 89 89 3 3 g k (n - k) (n - k) ⟨g,0,none⟩ k n (List.replicate m (.int .i64 (-1))) Tryz.underlying89 s3 (by rw [List.length_replicate];exact hm.symm) (fun j v hj=>by
    have hjm:j < m:=by have:=(List.getElem?_eq_some_iff.1 hj).1;simpa using this
    rw [List.getElem?_replicate,if_pos hjm] at hj
    rw [Zj,Nat.zero_add,cell_of_block hgd,Dj,List.getElem?_append_left (by rw [List.length_replicate];omega),List.getElem?_replicate,if_pos (by omega)]
    exact hj) (fun j hj=>by
    rw [List.length_replicate] at hj
    rw [cell_of_block hgd,List.getElem?_eq_getElem (by rw [hlen];omega)];rfl) (fun j hj=>Ap hgd _) (by intro v hv;rw [List.eq_of_mem_replicate hv];rfl)
   have hg2:=BP g 3 (List.replicate m (.int .i64 (-1))) k wr.drew _ hgd (by rw [List.length_replicate,hlen];omega)
   have e3:((Dj n k).take k ++ List.replicate m (Value.int .i64 (-1)) ++ (Dj n k).drop (k + (List.replicate m (Value.int .i64 (-1))).length)) = Dj n (k + m):=by
    unfold Dj
    rw [List.length_replicate,List.take_left' (by rw [List.length_replicate]),List.replicate_append_replicate,List.drop_append,List.length_replicate,List.drop_eq_nil_of_le (by rw [List.length_replicate];omega),List.nil_append,List.drop_replicate]
    congr 2;omega
   rw [e3] at hg2
   have hst2:=hst.drew.setCells g k (List.replicate m (.int .i64 (-1))) (.inr (by rw [←hgH.out];exact Nat.le_refl _))
   rw [List.length_replicate,show (some (⟨g,k,none⟩:Addr)) = (if n = k then some ⟨g,0,none⟩ else some ⟨g,k,none⟩) from (if_neg (by omega)).symm] at hcp
   have hF:=hidden (And.intro hst2 hg2)
   have hcpH:=hidden hcp
   have hmI:(0:Int) ≤ (m:Int)∧(m:Int) ≤ 3:=by omega
   have hm2:1 ≤ m∧k + m ≤ n:=by omega
   have htr:True:=trivial
   have hwI:IntKind.i64.wrap ((k:Int) + (m:Int)) = (k:Int) + (m:Int):=IntWalk.i64_in _ (by omega)
   clear hst hg hgd hcp hg2 hst2 e3 hlen hm
   go_wp2_with fail
   refine Aa (fun w'=>True) (fun _=>true) (by kernel_rfl) htr (fun hHeld => ?_)
   refine tq 0 ?_
   refine tq 1 ?_
   refine tq 2 ?_
   refine tq 3 ?_
   refine tq 4 ?_
   refine tq 5 ?_
   refine tq 6 ?_
   refine Ac (i:=7) rfl (by kernel_rfl) ?_
   refine Vo hcpH.out ?_
   refine wpList_nil ?_
   simp only [Act.put,lsa,lsz,lss]
   refine ⟨fun _=>htr, ?_⟩
   refine tq 8 ?_
   refine tq 9 ?_
   refine Ae (by kernel_rfl) ?_ _
   obtain ⟨wz,hwz⟩:∃ wz,wr.drew.setCells g k (List.replicate m (.int .i64 (-1))) = wz:=⟨_,rfl⟩
   rw [hwz] at hF ⊢
   clear hwz hcpH hwI
   go_wp2_with fail
   go_roundw
   case rel=>exact ⟨k + m,oj,by omega,by omega,by go_num,hF.out.1,hF.out.2⟩
   case measure=>simp [intOf];omega
  ·obtain rfl:n = k:=by omega
   have hF:=hidden (show wr.heap[g]? = some (.cells (ivs (List.replicate n (-1))).toArray 3 (0,0)) by
    rw [hg]
    unfold Dj ivs
    simp)
   clear hg
   go_wp2_with fail
   go_ret
   exact ⟨_,_,rfl,hst,rfl,hF.out,rfl⟩

end Go.Proofs.YthmpmgknnibljaaGreat
