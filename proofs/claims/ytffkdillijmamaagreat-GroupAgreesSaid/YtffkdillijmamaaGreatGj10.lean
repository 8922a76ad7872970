/- Contracts of zab: tell, refuse, ack, others; what is told, as it lies in memory. -/
import Derived.Test.YtffkdillijmamaaGreatGj8
import Derived.Test.YtffkdillijmamaaGreatGj9
namespace Go.Proofs.YtffkdillijmamaaGreat
open Go.Proofs.Tryz
set_option maxRecDepth 100000
set_option maxHeartbeats 12800000
open Go Go.RowKit
attribute [local go_sem ↓] Go.wp_at_zero Go.wp_at_succ
def Ed (t:DX):List (Nat × List UInt8):=t.map fun x=>(x.1,x.2.put)
def Ja (w:World) (o:Own) (cs:List Value) (ts:List (Nat × List UInt8)):Prop:=
 cs.length=2*ts.length/\∀ i x,ts[i]?=some x->cs[2*i]?=some (.int .i64 (x.1:Int))/\∃ bv,cs[2*i+1]?=some bv/\Bytes w o bv x.2
def Dn (w:World) (o:Own) (v:Value) (ts:List (Nat × List UInt8)):Prop:=∃ cs,sH w o v ts.length cs/\Ja w o cs ts
section
variable {T:Nat->Prop}{w w':World}{o o':Own}
theorem Ja.step {cs:List Value}{ts:List (Nat × List UInt8)}(h:Ja w o cs ts) (s:aj T w o w' o') (q:¬ T 0):Ja w' o' cs ts:=
 ⟨h.1,fun i x r=>by obtain ⟨a,bv,b,c⟩:=h.2 i x r;exact ⟨a,bv,b,c.step s q⟩⟩
theorem Ja.nil (w:World) (o:Own):Ja w o [] []:=⟨rfl,fun i x q=>by simp at q⟩
theorem Ja.append {c1 c2:List Value}{r E:List (Nat × List UInt8)}(q:Ja w o c1 r) (F:Ja w o c2 E):Ja w o (c1++c2) (r++E):=by
 refine ⟨by rw [List.length_append,List.length_append,q.1,F.1];omega,fun i x u => ?_⟩
 by_cases J:i<r.length
 ·rw [List.getElem?_append_left J] at u;obtain ⟨a,bv,b,c⟩:=q.2 i x u;exact ⟨by rw [List.getElem?_append_left (by rw [q.1];omega)];exact a,bv,by rw [List.getElem?_append_left (by rw [q.1];omega)];exact b,c⟩
 ·rw [List.getElem?_append_right om] at u;obtain ⟨a,bv,b,c⟩:=F.2 _ x u;refine ⟨?_,bv, ?_,c⟩
  ·rw [List.getElem?_append_right (by rw [q.1];omega),q.1,show 2*i - 2*r.length=2*(i - r.length) by omega];exact a
  ·rw [List.getElem?_append_right (by rw [q.1];omega),q.1,show 2*i+1 - 2*r.length=2*(i - r.length)+1 by omega];exact b
theorem Ja.single {bv:Value}{to:Nat}{b:List UInt8}(h:Bytes w o bv b):Ja w o [.int .i64 (to:Int),bv] [(to,b)]:=by
 refine ⟨rfl,fun i x q => ?_⟩
 match i,q with
 | 0,q =>
  simp only [ay,Option.some.injEq] at q;subst q;exact ⟨rfl,bv,rfl,h⟩
 | i+1,q=>simp at q
theorem Ja.one {cs:List Value}{ts:List (Nat × List UInt8)}(h:Ja w o cs ts):∀ u ∈ cs,u.oneCell'=true:=by
 intro u r;obtain ⟨i,q⟩:=List.mem_iff_getElem?.1 r;have hl:i<cs.length:=(List.getElem?_eq_some_iff.1 q).1;have E:i / 2<ts.length:=by have:=h.1;omega
 obtain ⟨a,bv,b,c⟩:=h.2 (i / 2) _ (List.getElem?_eq_getElem E)
 by_cases F:i % 2=0
 ·rw [show 2*(i / 2)=i by omega,q] at a
  cases a;rfl
 ·rw [show 2*(i / 2)+1=i by omega,q] at b
  cases b
  obtain ⟨x,y,rfl⟩:=Aq c;rfl
theorem Dn.step {v:Value}{ts:List (Nat × List UInt8)}(h:Dn w o v ts) (s:aj T w o w' o') (q:¬ T 0):Dn w' o' v ts:=by
 obtain ⟨r,u,E⟩:=h;exact ⟨r,sH.step u s q,E.step s q⟩
theorem Dn.nil (w:World) (o:Own):Dn w o (.slice none 0 0) []:=⟨[], .inl ⟨⟨_,_,rfl⟩,rfl,rfl⟩,Ja.nil w o⟩
theorem Dn.form {v:Value}{ts:List (Nat × List UInt8)}(h:Dn w o v ts):∃ a c,v = .slice a ts.length c:=by
 obtain ⟨r,q, -⟩:=h;exact Aq q
end
def YC (to:Nat) (bv:Value):Value := .agg #[.int .i64 (to:Int),bv]
theorem AsA:((prog.info? 146).bind (·.zero)).map (·.cells)=some #[.int .i64 0, .slice none 0 0]:=by kernel_rfl
theorem fK:(prog.info? 146).map (fun i=>(i.zero.map (fun z=>z.cells.toList),i.size,i.bytes))=some (some [.int .i64 0, .slice none 0 0],2,32):=by kernel_rfl
theorem SH:(prog.info? 146).map (·.size)=some 2:=by kernel_rfl
theorem Nq (w:World) (to:Int) (bv:Value):(Instr.buildSlice 99 1 #[(0, .agg #[.int .i64 to,bv])]).run prog w = .ok (.slice (some ⟨w.heap.size,0,none⟩) 1 1) (w.alloc (.cells [.int .i64 to,bv].toArray 146)):=
 Dv w 99 146 [.int .i64 0, .slice none 0 0] (.agg #[.int .i64 to,bv]) [.int .i64 to,bv] underlying99 (by kernel_rfl) rfl (by simp) (by simp) rfl
theorem PN {w:World}{o:Own}{to:Nat}{bv:Value}{b:List UInt8}(h:Bytes w o bv b) :
  Dn (w.alloc (.cells [.int .i64 (to:Int),bv].toArray 146)) (Ak o w.heap.size (0,0)) (.slice (some ⟨w.heap.size,0,none⟩) 1 1) [(to,b)]:=by
 have q:=(aj.refl ai w o).alloc (.cells [.int .i64 (to:Int),bv].toArray 146) (0,0);refine ⟨[.int .i64 (to:Int),bv], .inr ⟨w.heap.size,0,1,rfl,by simp,by decide,by rw [Au],by simp, ?_⟩,Ja.single (h.step q id)⟩;exact AV (heap_alloc_new w _)
section
variable {w:World}{o:Own}
theorem LZ {base:Nat}(m:BG) (hm:m.May) {lv:Value}(hl:Lines w o base lv m.ls) (to:Nat) :
  Calls prog 136 #[.int .i64 (to:Int),Ea m lv] w (XL ai w o fun v w' o'=>∃ bv,v=YC to bv/\Bytes w' o' bv m.put):=by
 obtain ⟨u,E,rfl⟩:=hl.form;obtain ⟨n,hn⟩:=az (m.ls.length);rw [hn] at hl ⊢;have W:=(aj.refl ai w o).alloc (.cells [.int .u8 (m.k:Int), .int .u64 (m.e.toNat:Int), .int .u64 (m.c.toNat:Int), .int .i64 (m.at':Int), .int .i64 (m.com:Int), .slice u n E].toArray 150) (0,0);have Y:=heap_alloc_new w (.cells [.int .u8 (m.k:Int), .int .u64 (m.e.toNat:Int), .int .u64 (m.c.toNat:Int), .int .i64 (m.at':Int), .int .i64 (m.com:Int), .slice u n E].toArray 150);have z1:(w.alloc (.cells [.int .u8 (m.k:Int), .int .u64 (m.e.toNat:Int), .int .u64 (m.c.toNat:Int), .int .i64 (m.at':Int), .int .i64 (m.com:Int), .slice u n E].toArray 150)).heap.size=w.heap.size+1:=by simp
 obtain ⟨q,a2⟩:=az (w.alloc (.cells [.int .u8 (m.k:Int), .int .u64 (m.e.toNat:Int), .int .u64 (m.c.toNat:Int), .int .i64 (m.at':Int), .int .i64 (m.com:Int), .slice u n E].toArray 150));rw [a2] at W Y z1;generalize Ak o w.heap.size (0,0)=o1 at *;have F:=W.alloc (.cells #[.int .i64 0, .slice none 0 0] 146) (0,0);have J:(q.alloc (.cells #[.int .i64 0, .slice none 0 0] 146)).heap[q.heap.size]?=some (.cells [.int .i64 0, .slice none 0 0].toArray 146 (0,0)):=heap_alloc_new q _;have a3:=(Below.heap_alloc q (.cells #[.int .i64 0, .slice none 0 0] 146) w.heap.size om).trans Y;have O:=ae (AB (P:=prog) q 146 _ AsA);obtain ⟨W2,a8⟩:=az (q.alloc (.cells #[.int .i64 0, .slice none 0 0] 146));rw [a8] at O F J a3;rw [z1] at J O;generalize Ak o1 q.heap.size (0,0)=o2 at *;have b7:=ae (Ip (AV a3) rfl);have a4:=Ue m hm (lv := .slice u n E) (hl.step F id);unfold Ea at a4;have a9:=ae a4;have b8:=ae F;have b3:=ae J;rw [<-a2] at O;clear hl W Y z1 a2 a8 F J a3 a4;unfold Ea;go_enter func136,ntmps136
 go_wp2_with (first
  | ((with_reducible apply Bo);exact b7.out;simp only [Act.put,GL,DL,lss])
  | ((with_reducible apply AU);exact O.out;simp only [Act.put,GL,DL,lss]))
 refine a9.out.mono ?_;rintro e w3 ⟨v3,o3,rfl,a5,bv,rfl,a6⟩;have a7:=(a5.block _ (au b3.out) id).trans b3.out;have U:=a6.bytes;have b9:[Value.int .i64 (to:Int),bv].all (·.oneCell')=true:=by obtain ⟨xa,xc,rfl⟩:=Aq U;rfl
 obtain ⟨b4,b5⟩:=Ba (P:=prog) (ty:=146) (vs:=[.int .i64 (to:Int),bv]) a7 rfl (by kernel_rfl) b9;have c0:=ae b4;have c3:=ae b5;have b6:=(b8.out.trans a5).setCells (w.heap.size+1) 0 [.int .i64 (to:Int),bv] (.inr om);have c4:=(aj.refl (ak 1) w3 (fun k=>if k=w.heap.size+1 then (1,0) else o3 k)).setCells (w.heap.size+1) 0 [.int .i64 (to:Int),bv] (.inl (by simp;rfl))
 have hF:=ae (aI b6 (show Bytes (w3.setCells (w.heap.size+1) 0 [.int .i64 (to:Int),bv]) o3 bv m.put from by
  rcases U with h | ⟨b,off,cap,r,q2,q3,q4,q5,q6⟩
  ·exact .inl h
  ·refine .inr ⟨b,off,cap,r,q2,q3,q4,by rw [size_setCells];exact q5,Cf q6 (ah _ _ _ _ _ ?_)⟩;rintro rfl
   rcases a6.1.2 with ⟨h1, -⟩ | ⟨g,c6,cur,h1, -,h2, -⟩
   ·rw [h1] at r;cases r
   ·rw [h1] at r;simp only [Value.slice.injEq,Option.some.injEq,Addr.mk.injEq,and_true] at r;obtain ⟨⟨rfl, -⟩, -⟩:=r;rw [a7] at h2
    cases h2))
 obtain ⟨xa,xc,rfl⟩:=Aq U;clear b4 b5 b6 c4 a9 a5 a7 a6 U
 go_wp2_with ((with_reducible apply AC);exact c0.out;simp only [Act.put])
 refine bodyPost_ret (results_cell_row rfl _ _ (w.heap.size+1) 146 _ (0,0) _ rfl c3.out underlying146 rfl SH) rfl ?_;exact ⟨_,o3,rfl,hF.out.1,_,rfl,hF.out.2⟩
variable {D M pz ps pd:Nat}{z:Am}
theorem Lt (h:Bc w o D M pz ps pd z) (u:small z.s.kept.lines) (E:1<=z.s.kept.promised.toNat) (F:z.s.kept.promised.toNat<=281474976710656) (src:Nat) :
  Calls prog 210 #[.pointer (some ⟨pz,0,none⟩), .int .i64 (src:Int)] w (XL ai w o fun v w' o'=>Dn w' o' v (Ed (z.BN.refuse src))):=by
 have J:=ae (RS h u);have a2:=Aj.Jh E F;clear h u E F;go_enter func210,ntmps210;go_wp2_with fail;refine J.out.mono ?_;rintro e w1 ⟨v1,o1,rfl,O,rfl⟩;have q:=LZ ⟨3,z.s.kept.promised,0,0,0,[]⟩ a2 (Lines.nil w1 o1 0) src;unfold Ea at q;have U:=ae q;clear q J;go_wp2_with fail;refine U.out.mono ?_;rintro e w2 ⟨v2,o2,rfl,W,bv,rfl,r⟩;have a3:=ae (Nq w2 (src:Int) bv);have Y:=ae (aI ((O.trans W).alloc (.cells [.int .i64 (src:Int),bv].toArray 146) (0,0)) (PN (to:=src) r));obtain ⟨ba,bc,rfl⟩:=Aq r;clear O W r U;unfold YC
 go_wp2_with ((with_reducible apply BO #[(0, .agg #[.int .i64 (src:Int), .slice ba _ bc])] rfl);exact a3.out;simp only [Act.put,GL,DL,lss])
 go_ret;exact ⟨_,_,rfl,Y.out.1,Y.out.2⟩
theorem OY (h:Bc w o D M pz ps pd z) (hk:z.s.kept.lines.length<=256) (E:small z.s.kept.lines) (e:BitVec 64) (F:1<=e.toNat) (J:e.toNat<=281474976710656) (src:Nat) :
  Calls prog 211 #[.pointer (some ⟨pz,0,none⟩), .int .i64 (src:Int), .int .u64 (e.toNat:Int)] w (XL ai w o fun v w' o'=>Dn w' o' v (Ed (z.BN.ack src e))):=by
 obtain ⟨-,rv,hb, -,O⟩:=h;obtain ⟨⟨-, -,c2, -⟩, -⟩:=hb.cells;have U:=ae (DJ O E);have W:=Aj.MO F J hk;have Y:z.BN.ack src e=[(src,⟨6,e,0,z.s.kept.lines.length,0,[]⟩)]:=rfl;have a2:=ae Y;clear hb O E F J Y;go_enter func211,ntmps211;go_wp2_with fail;refine U.out.mono ?_;rintro e' w1 ⟨v1,o1,rfl,a3,lv,rfl,hl,rfl⟩;obtain ⟨la,lc,rfl⟩:=hl.form;have q:=LZ ⟨6,e,0,z.s.kept.lines.length,0,[]⟩ W (Lines.nil w1 (ext w o) 0) src;unfold Ea at q;have r:=ae q;obtain ⟨n,hn⟩:=az (z.s.kept.lines.length);have a6:=He w1 (.int .u64 (z.s.kept.promised.toNat:Int)) (.int .u64 (z.s.kept.current.toNat:Int)) (.slice la n lc);unfold Dy;rw [hn] at r a2 ⊢;have a7:(0:Int)<=(n:Int)/\(n:Int)<=256:=om
 clear q U hl hn W;go_wp2_with fail;refine r.out.mono ?_;rintro e' w2 ⟨v2,o2,rfl,a4,bv,rfl,u⟩;have a5:=ae (Nq w2 (src:Int) bv);have hF:=ae (aI ((a3.trans a4).alloc (.cells [.int .i64 (src:Int),bv].toArray 146) (0,0)) (PN (to:=src) u));obtain ⟨ba,bc,rfl⟩:=Aq u;clear a3 a4 u r;unfold YC
 go_wp2_with ((with_reducible apply BO #[(0, .agg #[.int .i64 (src:Int), .slice ba _ bc])] rfl);exact a5.out;simp only [Act.put,GL,DL,lss])
 go_ret;exact ⟨_,_,rfl,hF.out.1,by rw [a2.out];exact hF.out.2⟩
end
def Nv (w:World) (o:Own) (base:Nat) (t:Nat × Nat) (v:Value) (ts:List (Nat × List UInt8)):Prop:=
 ∃ cs,w.ownsRow base 146 2 v ts.length cs/\(∀ g,v.ownBlock=some g->o g=t)/\Ja w o cs ts
theorem Nv.nil (w:World) (o:Own) (base:Nat) (t:Nat × Nat):Nv w o base t (.slice none 0 0) []:=⟨[],World.ownsRow_nil _ _ _ _,fun g q=>by simp [Value.ownBlock] at q,Ja.nil w o⟩
theorem Nv.step {T:Nat->Prop}{w w':World}{o o':Own}{base:Nat}{t:Nat × Nat}{v:Value}{ts:List (Nat × List UInt8)}(h:Nv w o base t v ts) (s:aj T w o w' o') (F:¬ T t.1) (h0:¬ T 0):Nv w' o' base t v ts:=by
 obtain ⟨J,q,r,O⟩:=h;exact ⟨J,Ci q fun k u=>s.block k (q.lt k u).2 (by rw [r k u];exact F),fun g E=>by rw [s.own g (q.lt g E).2];exact r g E,O.step s h0⟩
theorem Nv.form {w:World}{o:Own}{base:Nat}{t:Nat × Nat}{v:Value}{ts:List (Nat × List UInt8)}(h:Nv w o base t v ts):∃ a c,v = .slice a ts.length c:=by
 obtain ⟨r,q, -⟩:=h;exact BA q
theorem Bytes.ext {w w':World}{o q:Own}{v:Value}{l:List UInt8}(h:Bytes w' q v l) (s:aj ai w o w' q):Bytes w' (ext w o) v l:=by
 rcases h with h | ⟨b,off,cap,r,u,E,F,J,O⟩
 ·exact .inl h
 ·refine .inr ⟨b,off,cap,r,u,E, ?_,J,O⟩;unfold Go.Proofs.YtffkdillijmamaaGreat.ext;split
  ·rename_i hb;rw [<-s.own b hb];exact F
  ·rfl
theorem Nv.outs {w w':World}{o q:Own}{t:Nat × Nat}{v:Value}{ts:List (Nat × List UInt8)}(h:Nv w' q w.heap.size t v ts) (s:aj ai w o w' q):Dn w' (ext w o) v ts:=by
 obtain ⟨cs,r, -,u⟩:=h;refine ⟨cs, ?_,u.1,fun i x J => ?_⟩
 ·rcases r.2 with ⟨rfl,h0⟩ | ⟨g,cap,cur,rfl,Y,F,O,U,q5,W⟩
  ·refine .inl ⟨⟨none,0,rfl⟩,h0, ?_⟩;apply List.eq_nil_of_length_eq_zero;rw [r.1,h0]
  ·refine .inr ⟨g,0,cap,rfl,O,U, ?_,au F, ?_⟩
   ·unfold Go.Proofs.YtffkdillijmamaaGreat.ext;rw [if_neg om]
   ·have:=BU (w:=w') (b:=g) (cs:=cur.toList) (E:=146) (fr:=(0,0)) (by simpa using F) 0 (ts.length*2);rw [List.drop_zero,W] at this;exact this
 ·obtain ⟨a,bv,b,c⟩:=u.2 i x J;exact ⟨a,bv,b,c.ext s⟩
theorem Nv.append {W:World}{o:Own}{base X:Nat}{v:Value}{ts:List (Nat × List UInt8)}(h:Nv W o base (X,0) v ts) (O:X ≠ 0) (U:base<=W.heap.size) {sb:Nat}{to:Nat}{bv:Value}{b:List UInt8}(Y:W.rangeAt sb 0 [.int .i64 (to:Int),bv]) (hb:Bytes W o bv b) (hn:ts.length<=1000) :
  ∃ nv w' o',(Builtin.append_ #[99,99] 99 #[v, .slice (some ⟨sb,0,none⟩) 1 1]).run prog W = .ok nv w'/\Nv w' o' base (X,0) nv (ts++[(to,b)])/\aj (ak X) W o w' o':=by
 obtain ⟨u,h1,E,h3⟩:=h;have F:Ja W o [.int .i64 (to:Int),bv] [(to,b)]:=Ja.single hb;obtain ⟨g,cap,w',a2,a3,a4,q,a5⟩:=DD (P:=prog) W 99 99 146 underlying99 fK rfl om U v ts.length u h1 sb 0 1 1 [.int .i64 (to:Int),bv] rfl Y F.one om om om;have J:aj (ak X) W o w' (Ak o g (X,0)):=(aj.refl (ak X) W o).grown a4 (fun k r => .inl (by show (o k).1=X;rw [E k r])) g (X,0) (by
  rcases q with q | q
  ·exact .inl (E g q)
  ·exact .inr om)
 have h0:¬ ak X 0:=fun h=>O h.symm;refine ⟨_,w',_,a2,⟨u++[.int .i64 (to:Int),bv],by rw [List.length_append];exact a3,fun k r => ?_,(h3.append F).step J h0⟩,J⟩;simp only [Value.ownBlock,Option.some.injEq] at r;subst r;exact Au _ _ _
def GX (id:Nat) (f:Nat->BG) (k:Nat):List (Nat × List UInt8):=Ed (((List.range k).filter fun i=>i != id).map fun i=>(i,f i))
theorem AhB (id:Nat) (f:Nat->BG) (k:Nat):GX id f (k+1)=if k=id then GX id f k else GX id f k++[(k,(f k).put)]:=by
 unfold GX Ed;rw [List.range_succ,List.filter_append,List.map_append,List.map_append]
 by_cases h:k=id
 ·rw [if_pos h];subst h;simp
 ·rw [if_neg h];have:(k != id)=true:=by simp [h]
  simp [this]
theorem WB (id:Nat) (f:Nat->BG) (k:Nat):(GX id f k).length<=k:=by
 unfold GX Ed;rw [List.length_map,List.length_map];have:=List.length_filter_le (fun i=>i != id) (List.range k);rw [List.length_range] at this;exact this
theorem LH {w:World}{o:Own}{D M pz ps pd:Nat}{z:Am}(h:Bc w o D M pz ps pd z) (hn3:z.n<=3) (fid:Nat) (cp:Array Value) (f:Nat->BG)
  (hcall:∀ (args:Array Value) (x:World),(callFunc fid args).run prog x = .ok (.enter fid args) x)
  (hs:∀ w1 o1,aj ai w o w1 o1->∀ i,i<z.n->i ≠ z.id->Calls prog fid (#[.int .i64 (i:Int)]++cp) w1 (XL ai w1 o1 fun v w2 o2=>∃ lv,v=Ea (f i) lv/\Lines w2 o2 0 lv (f i).ls))
  (hmay:∀ i,i<z.n->i ≠ z.id->(f i).May) :
  Calls prog 96 #[.pointer (some ⟨pz,0,none⟩), .func (.func fid) #[] cp] w (XL ai w o fun v w' o'=>Dn w' o' v (Ed (z.BN.others f))):=by
 obtain ⟨X,a4,hXf⟩:=KT o w.heap.size 0;have hX:X ≠ 0:=om
 obtain ⟨-,rv,hb, -, -⟩:=h;obtain ⟨⟨-,c1, -⟩, -⟩:=hb.cells;have u:Ed (z.BN.others f)=GX z.id f z.n:=rfl;rw [u];have xZ:=ae hb;have hsH:=ae hs;have pO:=ae hmay;have WV:=ae hcall;have a5:=ae hXf;generalize hN:z.n=N at *;generalize hI:z.id=I at *;have hN3:(0:Int)<=(N:Int)/\(N:Int)<=3:=om
 have a6:=ae hI;have a9:=ae u;clear hb hs hmay hcall hXf hN hI a4 u;go_enter func96,ntmps96;go_wp2_with fail;clear c1
 go_loopw [5,11] (fun out i wr=>∃ (k:Nat) (oj:Own),k<=N/\i = .int .i64 k/\aj ai w o wr oj/\Nv wr oj w.heap.size (X,0) out (GX I f k)) (fun _ i _=>N - (intOf i).toNat)
 case atStart=>exact ⟨0,o,om,rfl,aj.refl _ _ _,Nv.nil _ _ _ _⟩
 case round =>
  obtain ⟨k,oj,hk,rfl,hst,q⟩:=hrel
  by_cases hlt:k<N
  ·have b1:(k:Int)<(N:Int):=om
   have hbx:=xZ.out.step hst id;obtain ⟨⟨c0, -⟩, -⟩:=hbx.cells;rw [a6.out] at c0;have E:=ae q;have Abe:=ae hst;have Att:=ae (AhB I f k);have a7:=ae (WB I f k);clear hbx q hst
   by_cases hki:k=I
   ·subst hki;have hx:=ae (show GX k f (k+1)=GX k f k by rw [Att.out,if_pos rfl]);go_wp2_with fail;go_roundw
    case rel=>exact ⟨k+1,oj,om,by go_num,Abe.out,by rw [hx.out];exact E.out⟩
    case measure=>simp [intOf];omega
   ·have hx:=ae (show GX I f (k+1)=GX I f k++[(k,(f k).put)] by rw [Att.out,if_neg hki]);have b2:((k:Int) == (I:Int))=false:=by simp;omega
    have hf:=ae (hsH.out wr oj Abe.out k hlt hki);have a8:=ae (pO.out k hlt hki);have hck:=WV.out;obtain ⟨ra,rc,rfl⟩:=E.out.form;clear hki;go_wp2_with fail;refine hf.out.mono ?_;rintro e w1 ⟨v1,o1,rfl,F,lv,rfl,hl⟩;have ht:=ae (LZ (f k) a8.out hl k);have J:=ae (Abe.out.trans F);have hrow1:=ae (E.out.step F id id);clear F hl hf hck;go_wp2_with fail;refine ht.out.mono ?_;rintro e w2 ⟨v2,o2,rfl,hs2,bv,rfl,O⟩;have hst2:=J.out.trans hs2;have U:=hrow1.out.step hs2 id id;have W:(Instr.buildSlice 99 1 #[(0,YC k bv)]).run prog w2 = .ok (.slice (some ⟨w2.heap.size,0,none⟩) 1 1) (w2.alloc (.cells [.int .i64 (k:Int),bv].toArray 146)):=Nq w2 (k:Int) bv;have AaP:=ae W;have r:=(aj.refl ai w2 o2).alloc (.cells [.int .i64 (k:Int),bv].toArray 146) (0,0);have hnb:=heap_alloc_new w2 (.cells [.int .i64 (k:Int),bv].toArray 146);have Y:=hst2.trans r;obtain ⟨nv,w5,o5,hrun,tK,a2⟩:=(U.step r id id).append hX (Nat.le_trans hst2.size r.size) (AV hnb) (to:=k) (O.step r id) (by have:=a7.out;omega);have Aax:=ae hrun;have a3:aj ai w o w5 o5:=((Y.only X).trans a2).nobody a5.out;have hF:=ae (aI a3 (hx.out ▸ tK));obtain ⟨na,nc,rfl⟩:=tK.form;clear W r hnb Y hst2 U hrun tK a2 hs2 a3 O ht J hrow1
    go_wp2_with (first
     | ((with_reducible apply BO #[(0,YC k bv)] rfl);exact AaP.out;simp only [Act.put,GL,DL,lss])
     | ((with_reducible apply Bl);exact Aax.out;simp only [Act.put,GL,DL,lss]))
    go_roundw
    case rel=>exact ⟨k+1,o5,om,by go_num,hF.out.1,hF.out.2⟩
    case measure=>simp [intOf];omega
  ·obtain rfl:N=k:=om
   have hF:=ae (aI (hst.Me (ext w o) (fun k hk=>if_pos hk)) (q.outs hst));obtain ⟨ra,rc,rfl⟩:=q.form;clear hst q;go_wp2_with fail;go_ret;exact ⟨_,_,rfl,hF.out.1,hF.out.2⟩
theorem Po (w:World):(sizeOf (prog.elem 35)).run prog w = .ok 2 w:=by
 have:prog.elem 35=41:=by kernel_rfl
 rw [this];have q:(prog.info? 41).map (·.size)=some 2:=by kernel_rfl
 cases hq:prog.info? 41 with
 | none=>simp [hq] at q
 | some i=>simp [hq] at q;simp [sizeOf,typeInfo,hq,q]
theorem sW.drop {w:World}{o:Own}{cs:List Value}{ls:List Ar}(h:sW w o cs ls) (n:Nat):sW w o (cs.drop (n*2)) (ls.drop n):=by
 refine ⟨by rw [List.length_drop,List.length_drop,h.1];omega,fun i x q => ?_⟩;rw [List.getElem?_drop] at q;obtain ⟨a,bv,b,c⟩:=h.2 (n+i) x q;exact ⟨by rw [List.getElem?_drop,show n*2+2*i=2*(n+i) by omega];exact a,bv,by rw [List.getElem?_drop,show n*2+(2*i+1)=2*(n+i)+1 by omega];exact b,c⟩
theorem sW.take {w:World}{o:Own}{cs:List Value}{ls:List Ar}(h:sW w o cs ls) (n:Nat):sW w o (cs.take (n*2)) (ls.take n):=by
 refine ⟨by rw [List.length_take,List.length_take,h.1];omega,fun i x q => ?_⟩;rw [List.getElem?_take] at q;split at q
 ·rename_i hi;obtain ⟨a,bv,b,c⟩:=h.2 i x q;exact ⟨by rw [List.getElem?_take,if_pos om];exact a,bv,by rw [List.getElem?_take,if_pos om];exact b,c⟩
 ·cases q
theorem CV.slice {base:Nat}{a:Option Addr}{n c r c':Nat}(h:CV base (.slice a n c)) (off:Nat) (b:Nat) (u:∀ x,a=some x->x.block=b) (E:a.isSome=true):CV base (.slice (some ⟨b,off,none⟩) r c'):=by
 intro k q
 cases a with
 | none=>simp at E
 | some x =>
  have:=u x rfl;simp only [Value.ownBlock,Option.some.injEq] at q;subst q;exact h b (by simp [Value.ownBlock,this])
theorem TI {w:World}{o:Own}{base:Nat}{lv:Value}{ls:List Ar}(h:Lines w o base lv ls) (n:Nat) (hn:n<=ls.length) :
  ∃ v,(Instr.sliceAt 35 lv none (some (.int .i64 (n:Int))) none).run prog w = .ok v w/\Lines w o base v (ls.take n):=by
 have q:prog.underlying 35=some (.slice (prog.elem 35)):=by kernel_rfl
 have F:=Po w;have J:(ls.take n).length=n:=by rw [List.length_take];omega
 obtain ⟨U,W,Y,O,h4⟩:=h
 rcases W with ⟨⟨a,c,rfl⟩,h0,a2⟩ | ⟨b,off,cap,rfl,hl,hm,ho,hb,hr⟩
 ·have r:n=0:=om
  subst r;refine ⟨_,by rw [run_sliceAt_slice _ _ _ _ _ _ q,run_slice_h w 35 a 0 c q .i64 ((0:Nat):Int) om om,F];rfl,[], .inl ⟨⟨_,_,rfl⟩,by simp,rfl⟩,by simpa using sW.nil w o, ?_,by simp⟩;intro k E;simp only [Option.map,Nat.zero_mul] at E
  cases a with
  | none=>simp [Value.ownBlock] at E
  | some x=>exact O k (by simpa [Value.ownBlock,Addr.add] using E)
 ·refine ⟨.slice (some ⟨b,off,none⟩) n cap, ?_,U.take (n*2), ?_,Y.take n, ?_,fun u q=>h4 u (List.mem_of_mem_take q)⟩
  ·rw [run_sliceAt_slice _ _ _ _ _ _ q,run_slice_h w 35 _ ls.length cap q .i64 n om om,F];simp only [Result.andThen_ok,sliced,Int.toNat_natCast,Nat.sub_zero,Option.map_some,addr_add,Nat.zero_mul,Nat.add_zero];split
   ·rename_i hc0;simp
   ·rfl
  ·by_cases r:n=0
   ·subst r;exact .inl ⟨⟨_,_,rfl⟩,by simp,by simp⟩
   ·refine .inr ⟨b,off,cap,by rw [J],by rw [J];omega,hm,ho,hb, ?_⟩;have:=ER hr 0 (n*2)
    simpa using this
  ·exact O.slice off b (fun x hx=>by cases hx;rfl) rfl
section
variable {w:World}{o:Own}{D M pz ps pd:Nat}{z:Am}
theorem FD (h:Bc w o D M pz ps pd z):Calls prog 198 #[.pointer (some ⟨pz,0,none⟩)] w (XL (ak (M+4)) w o fun v w' o'=>v = .tuple #[]/\Bc w' o' D M pz ps pd z.follow):=by
 obtain ⟨r,U,hb,O,u⟩:=h;have q:=hb.cells.2.1;have E:=Ai (i:=3) (.iface 184 (.agg #[])) hb.1;have F:=Ai (i:=4) (.int .i64 0) E;have st:=((aj.refl (ak (M+4)) w o).setCell (a:=⟨pz,3,none⟩) (.iface 184 (.agg #[])) (.inl (by show (o pz).1=M+4;rw [hb.2]))).setCell (a:=⟨pz,4,none⟩) (.int .i64 0) (.inl (by show (o pz).1=M+4;rw [hb.2]));have J:=ae (aI st (show Bc _ _ D M pz ps pd z.follow from ⟨r,_,⟨F,hb.2⟩,rfl,u.step st (KC.self r.1)⟩));have W:=q 3;have Y:=q 4;obtain ⟨⟨-, -, -,c3,c4, -⟩, -⟩:=hb.cells;clear hb O u E F st q;go_enter func198,ntmps198;go_wp2_with fail
 go_end0
 exact ⟨_,o,rfl,J.out.1,rfl,J.out.2⟩
theorem QU (h:Bc w o D M pz ps pd z) (a2:small z.s.kept.lines) (hc:z.Ag<=z.s.kept.lines.length) :
  Calls prog 63 #[.pointer (some ⟨pz,0,none⟩)] w (XL ai w o fun v w' o'=>Lines w' o' w.heap.size v (z.s.kept.lines.take z.Ag)):=by
 obtain ⟨-,rv,hb,hr,E⟩:=h;have a3:=ae (DJ (w:=w.drew) E a2);have q:aj ai w o w.drew o:=(aj.refl ai w o).drew;obtain ⟨⟨-, -,c2, -, -, -,F⟩, -⟩:=(hb.step q id).cells;have hS:=aI c2 F;have xZ:=ae (hb.step q id);clear hb hr E c2 F;go_enter func63,ntmps63;go_wp2_with fail;refine Aa (fun w'=>w'.cell? ⟨pz,2,none⟩=some (.pointer (some ⟨ps,0,none⟩))/\w'.cell? ⟨pz,6,none⟩=some (.int .i64 (z.Ag:Int))) (fun _=>true) (by kernel_rfl) hS (fun a4 => ?_);refine tq 0 (h:=tq 1 (h:=tq 2 (h:=tq 3 (h:=tq 6 (h:=tq 7 (h:=tq 8 (h:=tq 9 (h:=tO 4 (h:=?_)))))))));go_wp2_with fail;refine a3.out.mono ?_;rintro e w1 ⟨v1,o1,rfl,r,lv,rfl,hl,rfl⟩;obtain ⟨⟨-, -,d2, -, -, -,J⟩, -⟩:=(xZ.out.step r id).cells;have u:=aI d2 J;obtain ⟨sv,O,U⟩:=TI hl z.Ag hc;have a5:=ae O;have Y:=ae (aI (q.trans r) U);obtain ⟨la,lc,rfl⟩:=hl.form;have a6:=fun W=>He W (.int .u64 (z.s.kept.promised.toNat:Int)) (.int .u64 (z.s.kept.current.toNat:Int)) (.slice la z.s.kept.lines.length lc);clear r hl O U d2 J a4;unfold Dy;go_wp2_with fail;refine ⟨fun _=>u, ?_⟩;refine tq 5 (h:=tO 10 (h:=?_));refine FM a5.out ?_;simp only [Act.put,GL,DL,lss];go_wp2_with fail;refine ⟨fun _=>u, ?_⟩;refine tq 11 (h:=tD (h:=?_));clear u;go_wp2_with fail;go_ret;exact ⟨_,_,rfl,Y.out.1,Y.out.2⟩
theorem XC {s:AZ}(E:D<=M/\D ≠ 0) (h:Bi w o (M+1) (M+2) (M+3) D ps pd 0 s) (r:(s.dead || s.d.dead)=false) (id n:Nat) (F:1<=n) (J:n<=3) (hi:id<n) :
  Calls prog 91 #[.int .i64 (id:Int), .int .i64 (n:Int), .pointer (some ⟨ps,0,none⟩)] w (XL ai w o fun v w' o'=>∃ pz,v = .tuple #[.pointer (some ⟨pz,0,none⟩), .int .i64 0]/\w.heap.size<=pz/\Bc w' o' D M pz ps pd (Am.new id n s)):=by
 have q:=KH h;rw [r] at q;have O:=ae q;have st:=(aj.refl ai w o).alloc (.cells (IL id n ps (.iface 184 (.agg #[])) 0 0 0).toArray 140) (M+4,0);have hb:=heap_alloc_new w (.cells (IL id n ps (.iface 184 (.agg #[])) 0 0 0).toArray 140);have u:=ae (aI st (show Bc _ _ D M w.heap.size ps pd (Am.new id n s) from ⟨E,_,⟨hb,Au _ _ _⟩,rfl,h.step0 st⟩));have U:¬ (n:Int)<1:=om
 have W:¬ (3:Int)<(n:Int):=om
 have Y:¬ (id:Int)<0:=om
 have i4:¬ (n:Int)<=(id:Int):=om
 clear h r q st hb F J hi;go_enter func91,ntmps91;go_wp2_with fail;refine O.out.mono ?_;rintro e w' ⟨rfl,rfl⟩;go_wp2_with fail
 go_ret2
 exact ⟨_,_,rfl,u.out.1,_,rfl,Nat.le_refl _,u.out.2⟩
end
theorem Zj (b off k:Nat):(⟨b,off,none⟩:Addr).add k=⟨b,off+k,none⟩:=by
 unfold Addr.add;split
 ·rename_i h;subst h;rfl
 ·rfl
def Dj (n k:Nat):List Value:=List.replicate k (.int .i64 (-1))++List.replicate (n - k) (.int .i64 0)
theorem Ls {w:World}{o:Own}{b:Nat}(n:Nat) (h1:1<=n) (h3:n<=3) (hc:w.cell? ⟨b,0,none⟩=some (.int .i64 (-1))) (hb:b<w.heap.size) :
  Calls prog 199 #[.slice (some ⟨b,0,none⟩) 1 1, .int .i64 (n:Int)] w (XL ai w o fun v w' o'=>v = .slice (some ⟨w.heap.size,0,none⟩) n n/\w'.heap[w.heap.size]?=some (.cells (ivs (List.replicate n (-1))).toArray 3 (0,0))/\o'=Ak o w.heap.size (0,0)):=by
 have J:=Tryz.bits_Mul 1 n om om w;have e0:1*n / 18446744073709551616=0:=om
 have e1:1*n % 18446744073709551616=n:=om
 rw [e0,e1] at J;have hmk:=Gy (P:=prog) w 53 3 [.int .i64 0] 1 8 underlying53 (by kernel_rfl) rfl n om om .i64 .i64;have e2:(List.replicate n [Value.int .i64 0]).flatten=Dj n 0:=by
  unfold Dj;simp
 rw [e2] at hmk;obtain ⟨W,hW⟩:=az (w.alloc (.cells (Dj n 0).toArray 3));have hg:W.heap[w.heap.size]?=some (.cells (Dj n 0).toArray 3 (0,0)):=by rw [<-hW];exact heap_alloc_new w _
 have hst:aj ai w o W (Ak o w.heap.size (0,0)):=by rw [<-hW];exact (aj.refl ai w o).alloc _ _
 have hcW:W.cell? ⟨b,0,none⟩=some (.int .i64 (-1)):=by rw [World.cell?_of_block (w:=w) (a:=⟨b,0,none⟩) (hst.block b hb id)];exact hc
 rw [hW] at hmk;obtain ⟨g,O⟩:=az (w.heap.size);rw [O] at hmk hg hst ⊢;have Ajb:=ae hmk;have s3:(prog.info? 3).map (·.size)=some 1:=by kernel_rfl
 have q:=run_copy_cells (P:=prog) W 53 53 3 3 g 0 n n ⟨b,0,none⟩ 1 1 [.int .i64 (-1)] underlying53 s3 (by show 1=min 1 n;omega) (fun j v hj=>by
  match j,hj with
  | 0,hj=>simp only [ay,Option.some.injEq] at hj;subst hj;exact hcW
  | j+1,hj=>simp at hj) (fun j hj=>by
  obtain rfl:j=0:=by simpa using hj
  rw [Nat.add_zero,ag hg,List.getElem?_eq_getElem (by simp [Dj];omega)];rfl) (fun j hj=>Ap hg _) (by simp [Value.oneCell'])
 have F:=BP g 3 [.int .i64 (-1)] 0 W _ hg (by simp [Dj];omega);have r:((Dj n 0).take 0++[Value.int .i64 (-1)]++(Dj n 0).drop (0+[Value.int .i64 (-1)].length))=Dj n 1:=by
  unfold Dj
  rcases (show n=1 \/ n=2 \/ n=3 by omega) with rfl | rfl | rfl <;> rfl
 rw [r] at F;have U:=hst.setCells g 0 [.int .i64 (-1)] (.inr om);obtain ⟨W1,Y⟩:=az (W.setCells g 0 [.int .i64 (-1)]);rw [Y] at q F U;have u:=ae q;have AoO:=ae J;have nI:(1:Int)<=(n:Int)/\(n:Int)<=3:=om
 have hgH:=ae O;clear J hmk q hg hst hcW hW Y e2 r e0 e1 hc hb O;go_enter func199,ntmps199;go_wp2_with fail;refine AoO.out.mono ?_;rintro e w' ⟨rfl,rfl⟩
 go_wp2_with (first
  | ((with_reducible apply IC);exact Ajb.out;simp only [Act.put,GL,DL,lss])
  | ((with_reducible apply Vo);exact u.out;simp only [Act.put,GL,DL,lss]))
 clear Ajb u AoO
 go_loopw [8] (fun x wr=>∃ (k:Nat) (oj:Own),1<=k/\k<=n/\x = .int .i64 (k:Int)/\aj ai w' o wr (Ak o g (0,0))/\wr.heap[g]?=some (.cells (Dj n k).toArray 3 (0,0))) (fun x _=>n - (intOf x).toNat)
 case atStart=>exact ⟨1,o,om,om,rfl,U,F⟩
 case round =>
  clear U F;obtain ⟨k,oj,hk1,hk,rfl,hst,hg⟩:=hrel
  by_cases a5:k<n
  ·have a6:(k:Int)<(n:Int):=om
   have a7:(1:Int)<=(k:Int):=om
   obtain ⟨m,hm⟩:=az (min k (n - k));have E:wr.drew.heap[g]?=some (.cells (Dj n k).toArray 3 (0,0)):=hg;have hlen:(Dj n k).length=n:=by simp [Dj];omega
   have q:=run_copy_cells (P:=prog) wr.drew 53 53 3 3 g k (n - k) (n - k) ⟨g,0,none⟩ k n (List.replicate m (.int .i64 (-1))) underlying53 s3 (by rw [List.length_replicate];exact hm.symm) (fun j v hj=>by
    have a4:j<m:=by have:=(List.getElem?_eq_some_iff.1 hj).1;simpa using this
    rw [List.getElem?_replicate,if_pos a4] at hj;rw [Zj,Nat.zero_add,ag E,Dj,List.getElem?_append_left (by rw [List.length_replicate];omega),List.getElem?_replicate,if_pos om];exact hj) (fun j hj=>by
    rw [List.length_replicate] at hj;rw [ag E,List.getElem?_eq_getElem (by rw [hlen];omega)];rfl) (fun j hj=>Ap E _) (by intro v hv;rw [List.eq_of_mem_replicate hv];rfl)
   have hg2:=BP g 3 (List.replicate m (.int .i64 (-1))) k wr.drew _ E (by rw [List.length_replicate,hlen];omega);have r:((Dj n k).take k++List.replicate m (Value.int .i64 (-1))++(Dj n k).drop (k+(List.replicate m (Value.int .i64 (-1))).length))=Dj n (k+m):=by
    unfold Dj;rw [List.length_replicate,List.take_left' (by rw [List.length_replicate]),List.replicate_append_replicate,List.drop_append,List.length_replicate,List.drop_eq_nil_of_le (by rw [List.length_replicate];omega),List.nil_append,List.drop_replicate];congr 2;omega
   rw [r] at hg2;have hst2:=hst.drew.setCells g k (List.replicate m (.int .i64 (-1))) (.inr (by rw [<-hgH.out];exact Nat.le_refl _));rw [List.length_replicate,show (some (⟨g,k,none⟩:Addr))=(if n=k then some ⟨g,0,none⟩ else some ⟨g,k,none⟩) from (if_neg om).symm] at q
   have hF:=ae (aI hst2 hg2);have u:=ae q;have a8:(0:Int)<=(m:Int)/\(m:Int)<=3:=om
   have hm2:1<=m/\k+m<=n:=om
   have a2:True:=trivial;have hwI:IntKind.i64.wrap ((k:Int)+(m:Int))=(k:Int)+(m:Int):=IntWalk.i64_in _ om;clear hst hg E q hg2 hst2 r hlen hm;go_wp2_with fail;refine Aa (fun w'=>True) (fun _=>true) (by kernel_rfl) a2 (fun hHeld => ?_);refine tq 0 (h:=tq 1 (h:=tq 2 (h:=tq 3 (h:=tq 4 (h:=tq 5 (h:=tq 6 (h:=tO 7 (h:=?_))))))));refine Vo u.out ?_;refine wpList_nil ?_;simp only [Act.put,GL,DL,lss];refine ⟨fun _=>a2, ?_⟩;refine tq 8 (h:=tq 9 (h:=tD (h:=?_)));obtain ⟨wz,a3⟩:=az (wr.drew.setCells g k (List.replicate m (.int .i64 (-1))));rw [a3] at hF ⊢;clear a3 u hwI;go_wp2_with fail;go_roundw
   case rel=>exact ⟨k+m,oj,om,om,by go_num,hF.out.1,hF.out.2⟩
   case measure=>simp [intOf];omega
  ·obtain rfl:n=k:=om
   have hF:=ae (show wr.heap[g]?=some (.cells (ivs (List.replicate n (-1))).toArray 3 (0,0)) by
    rw [hg];unfold Dj ivs;simp)
   clear hg;go_wp2_with fail;go_ret;exact ⟨_,_,rfl,hst,rfl,hF.out,rfl⟩
theorem SQ {w:World}{mb c:Nat}{es:List Ent}{ty:TypeId}(hb:w.heap[mb]?=some (.map (Bd 0 es).toArray c)):(Builtin.len_ #[204] ty #[.map (some mb)]).run prog w = .ok (.int .i64 (es.length:Int)) w:=by
 simp [Builtin.len_,run_underlying underlying204,MapKept.run_getObj_map hb,Nc,goInt]
theorem Zn:((prog.info? 203).bind (·.zero)).map (·.cells)=some #[.int .u64 0, .slice none 0 0]:=by kernel_rfl
theorem ZN:(prog.info? 203).map (·.size)=some 2:=by kernel_rfl
theorem Agu (w:World) (c:Int) (q:Option Addr) (r u:Nat) :
  (Instr.storeAt 203 (.pointer (some ⟨w.heap.size,0,none⟩)) (.agg [.int .u64 c, .slice q r u].toArray)).run prog (w.alloc (.cells [.int .u64 0, .slice none 0 0].toArray 203)) = .ok () (w.alloc (.cells [.int .u64 c, .slice q r u].toArray 203)):=by
 have h:=(Ba (P:=prog) (ty:=203) (vs:=[.int .u64 c, .slice q r u]) (heap_alloc_new w (.cells [.int .u64 0, .slice none 0 0].toArray 203)) rfl ZN rfl).1;rw [Be w [Value.int .u64 0, .slice none 0 0].toArray 203 [.int .u64 c, .slice q r u] rfl] at h;exact h
abbrev bst:Option DT->Nat × DT->Option DT:=fun b x=>EW b (some x.2)
theorem NU {q:List (Nat × DT)}{k:Nat}{x:Nat × DT}(h:q[k]?=some x) (b:Option DT):(q.take (k+1)).foldl bst b=EW ((q.take k).foldl bst b) (some x.2):=by
 have hl:=(List.getElem?_eq_some_iff.1 h).1;rw [List.take_succ_eq_append_getElem hl,List.foldl_append];have r:q[k]=x:=(List.getElem?_eq_some_iff.1 h).2;rw [r];rfl
theorem RQ:∀ (l:List (Nat × DT)) (b:Option DT),b.isSome=true->(l.foldl bst b).isSome=true
 | [],_,h=>h
 | x :: r,b,h=>by
  rw [List.foldl_cons];refine RQ r _ ?_
  cases b with
  | none=>rfl
  | some q=>simp only [bst,EW];split <;> rfl
theorem VK {l:List (Nat × DT)}(h:l ≠ []):(l.foldl bst none).isSome=true:=by
 cases l with
 | nil=>exact absurd rfl h
 | cons x r=>rw [List.foldl_cons];exact RQ r _ rfl
theorem XU (w:World):(Instr.buildSlice 53 1 #[(0, .int .i64 (-1))]).run prog w = .ok (.slice (some ⟨w.heap.size,0,none⟩) 1 1) (w.alloc (.cells [Value.int .i64 (-1)].toArray 3)):=by kernel_rfl
theorem Ov {a b:Aj}(hn:a.n=b.n) (hi:a.id=b.id) (f:Nat->BG):a.others f=b.others f:=by unfold Aj.others;rw [hn,hi]
theorem Am.NV (z:Am) (mine:BitVec 64) (nR:List Int) (base:Nat) (ready:Bool):(z.count mine nR base ready).BN.n=z.n/\(z.count mine nR base ready).BN.id=z.id:=by
 unfold Am.count;simp only;split <;> exact ⟨rfl,rfl⟩
theorem Xy (p q:DT):Jw p q=(decide (q.1.toNat<p.1.toNat) || (decide (p.1.toNat=q.1.toNat) && decide (q.2.length<p.2.length))):=by
 unfold Jw;congr 2
 by_cases h:p.1=q.1
 ·simp [h]
 ·have:¬ p.1.toNat=q.1.toNat:=fun e=>h (BitVec.eq_of_toNat_eq e);simp [h,this]
theorem Qg:∀ (l:List (Nat × DT)) (b:Option DT) (g:DT),l.foldl bst b=some g->b=some g \/ ∃ y ∈ l,y.2=g
 | [],b,g,h => .inl h
 | x :: r,b,g,h=>by
  rw [List.foldl_cons] at h
  rcases Qg r _ g h with h | ⟨y,u,E⟩
  ·cases b with
   | none =>
    simp only [bst,EW,Option.some.injEq] at h;exact .inr ⟨x,by simp,h⟩
   | some q =>
    simp only [bst,EW] at h;split at h
    ·simp only [Option.some.injEq] at h;exact .inr ⟨x,by simp,h⟩
    ·exact .inl h
  ·exact .inr ⟨y,by simp [u],E⟩
theorem lead_any {w:World}{o:Own}{D M pz ps pd p K B:Nat}{z:Am}{mine:BitVec 64}{has:List (Option DT)}(h:Qx w o D M pz ps pd p z mine has) (hr:z.BB = .stands mine has) (hp:Am.NP K B z) (hK:K+600<65536) (hB:B<=90000) :
  Calls prog 140 #[.pointer (some ⟨pz,0,none⟩), .pointer (some ⟨p,0,none⟩)] w (XL (KC D M) w o fun v w' o'=>Dn w' o' v (Ed (z.lead mine has).2)/\Bc w' o' D M pz ps pd (z.lead mine has).1):=by
 have z3:=hp.ok.ro;rw [show z.BN.BB=z.BB from rfl,hr] at z3;obtain ⟨z4,q4, -,z5⟩:=z3;have m5:z.n<=3:=hp.ok.n3;have o8:1<=z.n:=hp.ok.n1;have q4:has.length=z.n:=q4;have Auh:=ae (h.node hr);have tN:=ae hr;obtain ⟨ML,hb,⟨mb,a6,f0,f2⟩,hs⟩:=h;obtain ⟨es,⟨hm,g4⟩,h6,q5,q6,m6,l5,m7⟩:=WN f2;have j7:Qr has=(BC 0 has).foldl (fun b x=>EW b (some x.2)) none:=Ll has 0 none;have z6:=KF has 0;have Azs:es.length<=3:=by rw [q6];exact Nat.le_trans (List.length_filter_le _ _) om
 have z7:z.lead mine has=if 2*es.length<=z.n then (z,[]) else match Qr has with
  | none=>(z,[])
  | some p=>if (z.s.FO mine p.2).2=0 then (({ z with s:=(z.s.FO mine p.2).1,Ag:=min z.Ag p.2.length }:Am).count mine (List.replicate z.n (-1)) p.2.length false,z.BN.others fun _=>⟨4,mine,0,0,0,p.2⟩) else (({ z with s:=(z.s.FO mine p.2).1 }:Am).follow,[]):=by
  rw [q6];rfl
 obtain ⟨R,hR⟩:=az (z.lead mine has);rw [hR];rw [z7] at hR;have dr:aj ai w o w.drew o:=(aj.refl ai w o).drew;have hq:=ae (PD z.n o8 m5);obtain ⟨⟨-,c1, -⟩, -⟩:=(hb.step dr id).cells;have cp:=ag (w:=w.drew) a6 1;simp only [ay,ax] at cp;have q7:w.drew.heap[mb]?=some (.map (Bd 0 es).toArray es.length):=hm;have hS:=aI c1 (aI cp q7);have hH:=ae (aI ML (aI hb (aI a6 (aI f0 (aI hm (aI g4 (aI hs f2)))))));have hE:=ae (aI h6 (aI q5 (aI m6 (aI l5 m7))));have hM:=ae (aI z5 (aI j7 z6));have m8:=ae hp;have AzD:=ae q4;have rD:=ae q6;have hI:(0:Int)<=(es.length:Int)/\(es.length:Int)<=3:=om
 obtain ⟨nn,s9⟩:=az (z.n);obtain ⟨L,hL⟩:=az (es.length);rw [s9] at hq c1 hS m5 o8;rw [hL] at hI Azs;rw [hL] at hR;have KI:=ae hR;have o9:=ae s9;have hLH:=ae hL;clear ML hb a6 f0 f2 hs hm g4 h6 q5 q6 m6 l5 m7 z5 j7 z6 z7 hR hr hp c1 cp q7 dr q4 s9;have hd2:(nn / 2+1:Nat)=nn / 2+1:=rfl;go_enter func140,ntmps140;go_wp2_with fail;refine Aa (fun w'=>w'.cell? ⟨pz,1,none⟩=some (.int .i64 (nn:Int))/\w'.cell? ⟨p,1,none⟩=some (.map (some mb))/\w'.heap[mb]?=some (.map (Bd 0 es).toArray es.length)) (fun _=>true) (by kernel_rfl) hS (fun e4 => ?_);refine tq 0 (h:=tq 1 (h:=tq 2 (h:=tq 3 (h:=tv 4 (.int .i64 (es.length:Int)) (hy:=fun w z8=>by (try dsimp only at z8);go_simp;rw [SQ z8.2.2];simp [hL]) (h:=tq 5 (h:=tq 6 (h:=tq 7 (h:=tq 8 (h:=tO 9 (h:=?_))))))))));go_wp2_with fail;refine (hq.out _).mono ?_;rintro e w1 ⟨rfl,rfl⟩;go_wp2_with fail;refine ⟨fun _=>e4, ?_⟩;refine tq 10 (h:=tD (h:=?_));have dr:aj ai w o w.drew o:=(aj.refl ai w o).drew;obtain ⟨V,hV⟩:=az (w.drew);rw [hV] at dr hS ⊢;have q8:=ae dr;obtain ⟨c1,cp,q7⟩:=hS;clear e4 dr hV
 by_cases z9:2*L<=nn
 ·have q5:(L:Int)<(nn:Int) / 2+1:=om
  rw [if_pos (by rw [o9.out];exact z9)] at KI;go_wp2_with fail;go_ret;exact ⟨_,o,rfl,q8.out.mono (fun _ h=>h.elim),by rw [<-KI.out];exact Dn.nil _ _,by rw [<-KI.out];exact Auh.out.step0 q8.out⟩
 ·have q5:¬ (L:Int)<(nn:Int) / 2+1:=om
  rw [if_neg (by rw [o9.out];exact z9)] at KI;obtain ⟨X,hX1,hX2⟩:=KT o w.heap.size (M+5);obtain ⟨ML,hb,a6,f0,hm,g4,hs,f2⟩:=hH.out;obtain ⟨h6,q9,m6,l5,m7⟩:=hE.out;have p0:=q8.out.alloc (.cells #[.pointer none] 258) (X,0);have m9:=heap_alloc_new V (.cells [Value.pointer none].toArray 258);have t0:=Au o V.heap.size (X,0);have t1:=q8.out.size;obtain ⟨V1,p1⟩:=az (V.alloc (.cells #[.pointer none] 258));have AvR:V.alloc (.cells [Value.pointer none].toArray 258)=V1:=p1;rw [p1] at p0;rw [AvR] at m9;obtain ⟨bb,b7⟩:=az (V.heap.size);generalize Ak o V.heap.size (X,0)=o1 at *;rw [b7] at m9 t0 t1;have t2:=(p0.block _ (au hm) id).trans hm;have hps1:=(p0.block _ (au a6) id).trans a6;have cp1:=ag hps1 1;simp only [ay,ax] at cp1;have hka:=ae (aS mb V1);have st2:=p0.alloc (.cells #[.map (some mb)] 204) (0,0);have k2:=(aj.refl ai V1 o1).alloc (.cells #[.map (some mb)] 204) (0,0);have hso:=WM (o:=Ak o1 V1.heap.size (0,0)) ((k2.block _ (au t2) id).trans t2) (heap_alloc_new V1 (.cells #[.map (some mb)] 204)) h6 (fun x hx=>by have:=q9 x hx;have:=AzD.out;have:=o9.out;omega) (by rw [hL];omega);have bb2:=(k2.block _ (au m9) id).trans m9;have ob2:=(k2.own _ (au m9)).trans t0;have Aaz:=ae hso;have hP:=ae (aI st2 (aI bb2 ob2));have j8:=ae (aI hX1 (aI hX2 t1));have hVH:=ae (aI p1 b7);have hnew:(Instr.alloc 258 true (.tuple #[])).run prog V = .ok (.pointer (some ⟨bb,0,none⟩)) V1:=by rw [<-p1, <-b7];kernel_rfl
  have AoM:=ae hnew;clear ML hb a6 f0 hm g4 hs f2 h6 q9 m6 l5 m7 p0 m9 t0 t2 hps1 st2 k2 hso bb2 ob2 hX1 hX2 p1 AvR b7 t1 hnew
  go_wp2_with ((with_reducible apply AU);exact AoM.out;simp only [Act.put,GL,DL,lss])
  refine hka.out.mono ?_;rintro e w2 ⟨rfl,rfl⟩;go_wp2_with fail;refine Aaz.out.mono ?_;rintro e w3 ⟨v3,o3,rfl,r0,q,t3,hqo,j0⟩;have j1:=hE.out.2.2.1 q t3 hqo;have j9:q.length=L:=by rw [t3.length_eq,List.length_map];exact hL
  have j2:(BC 0 has).length=L:=by rw [<-j9,j1,List.length_map]
  have Aee:=hP.out.1.trans r0;have bb3:=(r0.block _ (au hP.out.2.1) id).trans hP.out.2.1;have ob3:=(r0.own _ (au hP.out.2.1)).trans hP.out.2.2;obtain ⟨qa,qc,rfl⟩:=Aq j0;obtain ⟨sm,h7⟩:=az (BC 0 has);rw [j9] at j0 ⊢;rw [h7] at j1 j2;have p2:=ae (aI Aee (aI bb3 (aI ob3 j0)));have yV:=ae (aI j1 (aI j9 (aI j2 h7)));clear r0 t3 hqo j1 j9 j2 Aee bb3 ob3 j0 h7 hP Aaz hka AoM cp1 c1 cp q7 hq;go_wp2_with fail
  go_loopw [28] (fun i wr=>∃ (k:Nat) (oj:Own) (pv:Option Addr),k<=L/\i = .int .i64 k/\aj ai w o wr oj/\wr.heap[bb]?=some (.cells [Value.pointer pv].toArray 258 (0,0))/\oj bb=(X,0)/\JA wr oj ((sm.take k).foldl bst none) pv/\sH wr oj (.slice qa L qc) L (q.map fun n:Nat=>Value.int .i64 (n:Int))) (fun i _=>L - (intOf i).toNat)
  case atStart=>exact ⟨0,o3,none,om,rfl,p2.out.1,p2.out.2.1,p2.out.2.2.1,rfl,p2.out.2.2.2⟩
  case round =>
   clear p2;obtain ⟨k,oj,pv,hk,rfl,l6,b7,g5,j7,j0⟩:=hrel
   by_cases hlk:k<L
   ·obtain ⟨j1,j9,j2,h7⟩:=yV.out;obtain ⟨x,hx⟩:∃ x,sm[k]?=some x:=⟨_,List.getElem?_eq_getElem om⟩;have hqk:q[k]?=some x.1:=by rw [j1,List.getElem?_map,hx];rfl
    obtain ⟨kb,BeO,rfl,hkc,p3,hko⟩:=j0.cell k (x := .int .i64 (x.1:Int)) (by rw [List.getElem?_map,hqk];rfl);obtain ⟨ML,hb,a6,f0,hm,g4,hs,f2⟩:=hH.out;obtain ⟨h6,q9,m6,l5,m7⟩:=hE.out;obtain ⟨y,hy,hyx,hyc,hyL⟩:=l5 x.1 x.2 (by rw [h7];exact List.mem_of_getElem? hx);have hxm:some x.2 ∈ has:=by
     have hx':(x.1,x.2) ∈ BC 0 has:=by rw [h7];exact List.mem_of_getElem? hx
     obtain ⟨kk, -,p4⟩:=(Fa has 0 x.1 x.2).1 hx';exact List.mem_of_getElem? p4
    have hlo:=hM.out.1 x.2 hxm;have hm3:=(l6.block _ (au hm) id).trans hm;have p5:=SL hm3 h6 hy;rw [hyx] at p5;have AtW:=(l6.block _ (au a6) id).trans a6;have cp3:=ag AtW 1;simp only [ay,ax] at cp3;have r1:=hyL.step l6 id;obtain ⟨la,lc,t4⟩:=r1.form;obtain ⟨xl,t5⟩:=az (x.2.2.length);have hxI:(0:Int)<=(xl:Int)/\(xl:Int)<=256:=by have:=hlo.n;omega
    have hxN:xl<=256:=om
    rw [t5] at t4;rw [t4] at p5 r1;rw [hyc] at p5;have t6:=AB (P:=prog) wr 203 _ Zn;have r2:=Agu wr (x.2.1.toNat:Int) la xl lc;have k2:=(aj.refl ai wr oj).alloc (.cells [.int .u64 (x.2.1.toNat:Int), .slice la xl lc].toArray 203) (0,0);have pb:=heap_alloc_new wr (.cells [.int .u64 (x.2.1.toNat:Int), .slice la xl lc].toArray 203);have po:=Au oj wr.heap.size (0,0);generalize Ak oj wr.heap.size (0,0)=o4 at *;obtain ⟨W4,hW4⟩:=az (wr.alloc (.cells [.int .u64 (x.2.1.toNat:Int), .slice la xl lc].toArray 203));rw [hW4] at r2 k2 pb;have e5:=(k2.block _ (au b7) id).trans b7;have g6:=(k2.own _ (au b7)).trans g5;have t7:wr.heap.size ≠ bb:=by have:=au b7;omega
    obtain ⟨pp,hpp⟩:=az (wr.heap.size);rw [hpp] at r2 pb po t6 t7;have r3:=j7.step k2 id;have h8:=j0.step k2 id;have i0:=l6.trans k2;have i1:=r1.step k2 id;have d1:=ag (w:=W4.drew) e5 0;have d2:=ag (w:=W4.drew) pb 0;have d3:=ag (w:=W4.drew) pb 1;have fb:=Ap e5 0;simp only [ay,ax] at d1 d2 d3;have p6:=aI d1 (aI d2 d3);have t8:=ae t6;have t9:=ae r2;have u0:=ae p5;have hG:=ae (aI i0 (aI e5 (aI g6 (aI h8 (aI pb (aI po i1))))));have n5:=ae (aI hx (aI t5 t7));clear j1 j9 j2 h7 hqk ML hb a6 f0 hm g4 hs f2 h6 q9 m6 l5 m7 hy hyx hyc hyL hxm hlo hm3 p5 AtW r1 t4 t6 r2 k2 pb po e5 g6 t7 h8 i0 i1 d1 d2 d3 l6 b7 g5 j7 j0 p3 hko hW4 hpp hx t5
    cases k3:(sm.take k).foldl bst none with
    | none =>
     rw [k3] at r3;obtain rfl:pv=none:=r3;obtain ⟨i0,e5,g6,h8,pb,po,i1⟩:=hG.out;have sF:=i0.drew.setCell (a:=⟨bb,0,none⟩) (.pointer (some ⟨pp,0,none⟩)) (.inr j8.out.2.2);have sK:=((aj.refl (ak X) W4 o4).drew).setCell (a:=⟨bb,0,none⟩) (.pointer (some ⟨pp,0,none⟩)) (.inl (by show (o4 bb).1=X;rw [g6]));have bF:=Ai (i:=0) (.pointer (some ⟨pp,0,none⟩)) (show W4.drew.heap[bb]?=_ from e5);have l7:¬ ak X 0:=fun h=>by have:=j8.out.1;unfold ak at h;omega
     have k7:JA (W4.drew.setCell ⟨bb,0,none⟩ (.pointer (some ⟨pp,0,none⟩))) o4 (some x.2) (some ⟨pp,0,none⟩):=
      ⟨pp, .slice la xl lc,rfl,(Below.heap_setCell W4.drew ⟨bb,0,none⟩ (.pointer (some ⟨pp,0,none⟩)) pp n5.out.2.2).trans pb,by rw [po],i1.step sK l7⟩
     have p7:=h8.step sK l7;have l0:(sm.take (k+1)).foldl bst none=some x.2:=by
      rw [NU n5.out.1,k3];rfl
     have c7:=ae (aI sF (aI bF (aI g6 (aI k7 (aI p7 l0)))));clear i0 e5 g6 h8 pb po i1 sF sK bF l7 k7 p7 l0
     go_wp2_with (first
      | ((with_reducible apply DN);exact u0.out;simp only [Act.put,GL,DL,lss])
      | ((with_reducible apply AU);exact t8.out;simp only [Act.put,GL,DL,lss])
      | ((with_reducible apply AC);exact t9.out;simp only [Act.put]))
     refine Aa (fun w'=>w'.cell? ⟨bb,0,none⟩=some (.pointer none)/\w'.cell? ⟨pp,0,none⟩=some (.int .u64 (x.2.1.toNat:Int))/\w'.cell? ⟨pp,1,none⟩=some (.slice la xl lc)) (fun _=>true) (by kernel_rfl) p6 (fun e4 => ?_);refine tq 0 (h:=tq 1 (h:=tq 2 (h:=ts 3 (h:=ts 4 (h:=ts 5 (h:=ts 6 (h:=ts 7 (h:=ts 8 (h:=ts 9 (h:=ts 10 (h:=ts 11 (h:=ts 12 (h:=ts 13 (h:=?_))))))))))))));refine ts 14 (h:=ts 15 (h:=ts 16 (h:=ts 17 (h:=tq 18 (h:=tD (h:=?_))))));obtain ⟨d1,d2,d3⟩:=p6;clear e4;go_wp2_with fail;go_roundw
     case rel=>exact ⟨k+1,o4,_,om,by go_num,c7.out.1,c7.out.2.1,c7.out.2.2.1,by rw [c7.out.2.2.2.2.2];exact c7.out.2.2.2.1,c7.out.2.2.2.2.1⟩
     case measure=>simp [intOf];omega
    | some g =>
     rw [k3] at r3;obtain ⟨gp,glv,rfl,d8,g1,f7⟩:=r3;obtain ⟨ga,gc,rfl⟩:=f7.form;have hgl:g.2.length<=256:=by
      rcases Qg _ _ _ k3 with h | ⟨y,hy,rfl⟩
      ·cases h
      ·have u1:(y.1,y.2) ∈ BC 0 has:=by rw [yV.out.2.2.2];exact List.mem_of_mem_take hy
       obtain ⟨kk, -,p4⟩:=(Fa has 0 y.1 y.2).1 u1;exact (hM.out.1 y.2 (List.mem_of_getElem? p4)).n
     obtain ⟨Y,b6⟩:=az (g.2.length);have hgI:(0:Int)<=(Y:Int)/\(Y:Int)<=256:=om
     have e1:=ag (w:=W4.drew) d8 0;have e2:=ag (w:=W4.drew) d8 1;simp only [ay,ax] at e1 e2;have u2:=Xx (w:=W4.drew) (o:=o4) x.2.1.toNat g.1.toNat xl Y hxN om;rw [show (decide (g.1.toNat<x.2.1.toNat) || (decide (x.2.1.toNat=g.1.toNat) && decide (Y<xl)))=Jw x.2 g by rw [Xy,b6,n5.out.2.1]] at u2;rw [b6] at e2;have hS5:=aI p6.1 (aI p6.2.1 (aI p6.2.2 (aI e1 e2)));have i2:=ae (aI d8 (aI g1 (aI f7 b6)));have r4:=ae u2;clear d8 g1 f7 hgl b6 e1 e2 u2
     cases r5:Jw x.2 g with
     | true =>
      rw [r5] at r4
      go_wp2_with (first
       | ((with_reducible apply DN);exact u0.out;simp only [Act.put,GL,DL,lss])
       | ((with_reducible apply AU);exact t8.out;simp only [Act.put,GL,DL,lss])
       | ((with_reducible apply AC);exact t9.out;simp only [Act.put]))
      refine Aa (fun w'=>w'.cell? ⟨bb,0,none⟩=some (.pointer (some ⟨gp,0,none⟩))/\w'.cell? ⟨pp,0,none⟩=some (.int .u64 (x.2.1.toNat:Int))/\w'.cell? ⟨pp,1,none⟩=some (.slice la xl lc)/\w'.cell? ⟨gp,0,none⟩=some (.int .u64 (g.1.toNat:Int))/\w'.cell? ⟨gp,1,none⟩=some (.slice ga Y gc)) (fun _=>true) (by kernel_rfl) hS5 (fun e4 => ?_);refine tq 0 (h:=tq 1 (h:=tq 2 (h:=tq 3 (h:=tq 4 (h:=tq 5 (h:=tq 6 (h:=tq 7 (h:=tq 8 (h:=tq 9 (h:=tq 10 (h:=tq 11 (h:=tq 12 (h:=tq 13 (h:=?_))))))))))))));refine tq 14 (h:=tq 15 (h:=tq 16 (h:=tO 17 (h:=?_))));go_wp2_with fail;refine r4.out.mono ?_;rintro e W5 ⟨v5,o5,rfl,g2,rfl⟩;obtain ⟨i0,e5,g6,h8,pb,po,i1⟩:=hG.out;have f4:=(g2.block _ (au e5) id).trans e5;have g7:=(g2.own _ (au e5)).trans g6;have f8:=(g2.block _ (au pb) id).trans pb;have i7:=(g2.own _ (au pb)).trans po;have k5:=(aj.refl ai W4 o4).drew.trans g2;have f9:=(k5.block gp (au i2.out.1) id).trans i2.out.1;have d1:=ag f4 0;have d2:=ag f8 0;have d3:=ag f8 1;have d4:=ag f9 0;have d5:=ag f9 1;have fb5:=Ap f4 0;simp only [ay,ax] at d1 d2 d3 d4 d5;rw [i2.out.2.2.2] at d5;have i3:=aI d1 (aI d2 (aI d3 (aI d4 d5)));have u3:=ae (aI (i0.trans k5) (aI f4 (aI g7 (aI (h8.step k5 id) (aI f8 (aI i7 (aI (i1.step k5 id) (aI f9 (aI ((k5.own gp (au i2.out.1)).trans (by rfl)) (i2.out.2.2.1.step k5 id))))))))));clear g2 i0 e5 g6 h8 pb po i1 f4 g7 f8 i7 k5 f9 d2 d3 d4 d5 e4;go_wp2_with fail;refine ⟨fun _=>i3, ?_⟩;refine tq 18 (h:=tD (h:=?_));clear i3;obtain ⟨p8,f4,g7,p9,f8,i7,r6,f9,r7,r8⟩:=u3.out;have sF:=p8.setCell (a:=⟨bb,0,none⟩) (.pointer (some ⟨pp,0,none⟩)) (.inr j8.out.2.2);have sK:=(aj.refl (ak X) W5 o5).setCell (a:=⟨bb,0,none⟩) (.pointer (some ⟨pp,0,none⟩)) (.inl (by show (o5 bb).1=X;rw [g7]));have bF:=Ai (i:=0) (.pointer (some ⟨pp,0,none⟩)) f4;have l7:¬ ak X 0:=fun h=>by have:=j8.out.1;unfold ak at h;omega
      have k7:JA (W5.setCell ⟨bb,0,none⟩ (.pointer (some ⟨pp,0,none⟩))) o5 (some x.2) (some ⟨pp,0,none⟩):=
       ⟨pp, .slice la xl lc,rfl,(Below.heap_setCell W5 ⟨bb,0,none⟩ (.pointer (some ⟨pp,0,none⟩)) pp n5.out.2.2).trans f8,by rw [i7],r6.step sK l7⟩
      have p7:=p9.step sK l7;have l0:(sm.take (k+1)).foldl bst none=some x.2:=by
       rw [NU n5.out.1,k3];show (if Jw x.2 g then some x.2 else some g)=_
       rw [r5];rfl
      have c7:=ae (aI sF (aI bF (aI g7 (aI k7 (aI p7 l0)))));clear p8 f4 g7 p9 f8 i7 r6 sF sK bF l7 k7 p7 l0 f9 r7 r8;go_wp2_with fail;go_roundw
      case rel=>exact ⟨k+1,o5,_,om,by go_num,c7.out.1,c7.out.2.1,c7.out.2.2.1,by rw [c7.out.2.2.2.2.2];exact c7.out.2.2.2.1,c7.out.2.2.2.2.1⟩
      case measure=>simp [intOf];omega
     | false =>
      rw [r5] at r4
      go_wp2_with (first
       | ((with_reducible apply DN);exact u0.out;simp only [Act.put,GL,DL,lss])
       | ((with_reducible apply AU);exact t8.out;simp only [Act.put,GL,DL,lss])
       | ((with_reducible apply AC);exact t9.out;simp only [Act.put]))
      refine Aa (fun w'=>w'.cell? ⟨bb,0,none⟩=some (.pointer (some ⟨gp,0,none⟩))/\w'.cell? ⟨pp,0,none⟩=some (.int .u64 (x.2.1.toNat:Int))/\w'.cell? ⟨pp,1,none⟩=some (.slice la xl lc)/\w'.cell? ⟨gp,0,none⟩=some (.int .u64 (g.1.toNat:Int))/\w'.cell? ⟨gp,1,none⟩=some (.slice ga Y gc)) (fun _=>true) (by kernel_rfl) hS5 (fun e4 => ?_);refine tq 0 (h:=tq 1 (h:=tq 2 (h:=tq 3 (h:=tq 4 (h:=tq 5 (h:=tq 6 (h:=tq 7 (h:=tq 8 (h:=tq 9 (h:=tq 10 (h:=tq 11 (h:=tq 12 (h:=tq 13 (h:=?_))))))))))))));refine tq 14 (h:=tq 15 (h:=tq 16 (h:=tO 17 (h:=?_))));go_wp2_with fail;refine r4.out.mono ?_;rintro e W5 ⟨v5,o5,rfl,g2,rfl⟩;obtain ⟨i0,e5,g6,h8,pb,po,i1⟩:=hG.out;have f4:=(g2.block _ (au e5) id).trans e5;have g7:=(g2.own _ (au e5)).trans g6;have f8:=(g2.block _ (au pb) id).trans pb;have i7:=(g2.own _ (au pb)).trans po;have k5:=(aj.refl ai W4 o4).drew.trans g2;have f9:=(k5.block gp (au i2.out.1) id).trans i2.out.1;have d1:=ag f4 0;have d2:=ag f8 0;have d3:=ag f8 1;have d4:=ag f9 0;have d5:=ag f9 1;have fb5:=Ap f4 0;simp only [ay,ax] at d1 d2 d3 d4 d5;rw [i2.out.2.2.2] at d5;have i3:=aI d1 (aI d2 (aI d3 (aI d4 d5)));have u3:=ae (aI (i0.trans k5) (aI f4 (aI g7 (aI (h8.step k5 id) (aI f8 (aI i7 (aI (i1.step k5 id) (aI f9 (aI ((k5.own gp (au i2.out.1)).trans (by rfl)) (i2.out.2.2.1.step k5 id))))))))));clear g2 i0 e5 g6 h8 pb po i1 f4 g7 f8 i7 k5 f9 d2 d3 d4 d5 e4;go_wp2_with fail;refine ⟨fun _=>i3, ?_⟩;refine tq 18 (h:=tD (h:=?_));clear i3;obtain ⟨p8,f4,g7,p9,f8,i7,r6,f9,r7,r8⟩:=u3.out;have l0:(sm.take (k+1)).foldl bst none=some g:=by
       rw [NU n5.out.1,k3];show (if Jw x.2 g then some x.2 else some g)=_
       rw [r5];rfl
      have k7:JA W5 o5 (some g) (some ⟨gp,0,none⟩):=⟨gp,_,rfl,f9,by rw [r7];exact i2.out.2.1,r8⟩;have c7:=ae (aI p8 (aI f4 (aI g7 (aI k7 (aI p9 l0)))));clear p8 f4 g7 p9 f8 i7 r6 k7 l0 f9 r7 r8;go_wp2_with fail;go_roundw
      case rel=>exact ⟨k+1,o5,_,om,by go_num,c7.out.1,c7.out.2.1,c7.out.2.2.1,by rw [c7.out.2.2.2.2.2];exact c7.out.2.2.2.1,c7.out.2.2.2.2.1⟩
      case measure=>simp [intOf];omega
   ·have hkL:k=L:=om
    subst hkL;obtain ⟨j1,j9,j2,h7⟩:=yV.out;rw [List.take_of_length_le om] at j7;have u4:Qr has=sm.foldl bst none:=by rw [hM.out.2.1,h7]
    have hne:sm ≠ []:=fun h=>by rw [h] at j2;simp at j2;omega
    obtain ⟨g,hg⟩:=Option.isSome_iff_exists.1 (VK hne);rw [hg] at j7 u4;rw [u4] at KI;simp only at KI;obtain ⟨gp,glv,rfl,d8,g1,f7⟩:=j7;have hgm:some g ∈ has:=by
     rcases Qg _ _ _ hg with h | ⟨y,hy,rfl⟩
     ·cases h
     ·have u1:(y.1,y.2) ∈ BC 0 has:=by rw [h7];exact hy
      obtain ⟨kk, -,p4⟩:=(Fa has 0 y.1 y.2).1 u1;exact List.mem_of_getElem? p4
    have e6:=hM.out.1 g hgm;obtain ⟨ML,hb,a6,f0,hm,g4,hs,f2⟩:=hH.out;have hsmall:=En.small e6 om;have dr:aj ai wr oj wr.drew oj:=(aj.refl ai wr oj).drew;have b4:=l6.trans dr;have u5:=Awf ML (hs.step0 b4) m8.out.sp mine (f7.step dr id) hsmall;have hfit:=KW m8.out.sp hK m8.out.kok mine g.2;obtain ⟨ga,gc,rfl⟩:=f7.form;obtain ⟨Y,b6⟩:=az (g.2.length);have hgI:(0:Int)<=(Y:Int)/\(Y:Int)<=256:=by have:=e6.n;omega
    obtain ⟨⟨-, -,c2, -⟩, -⟩:=(hb.step b4 id).cells;have cm:=ag ((b4.block _ (au a6) id).trans a6) 0;have cb:=ag (w:=wr.drew) b7 0;have cg:=ag (w:=wr.drew) d8 1;simp only [ay,ax] at cm cb cg;rw [b6] at cg u5;have hS:=aI c2 (aI cm (aI cb cg));have hG:=ae (aI b4 (aI b7 (aI g5 (aI d8 (aI g1 (aI (f7.step dr id) (aI e6 b6)))))));have u6:=ae u5;clear j1 j9 j2 h7 u4 hne hg hgm e6 ML hb a6 f0 hm g4 hs f2 hsmall dr b4 u5 f7 c2 cm cb cg d8 g1 l6 b7 g5 j0 yV;obtain ⟨Q,hQ⟩:=az (z.s.FO mine g.2);simp only [hQ] at u6 hfit KI
    rcases hfit with ⟨s',er,u7,u8⟩ | ⟨hf0,s',u7,hf3,hf4⟩
    ·subst u7;have hz1:(er == 0)=false:=by simpa using u8
     have hz2:(er != 0)=true:=by simpa using u8
     rw [if_neg (show ¬ (s',er).2=0 from u8)] at KI;go_wp2_with fail;refine Aa (fun w'=>w'.cell? ⟨pz,2,none⟩=some (.pointer (some ⟨ps,0,none⟩))/\w'.cell? ⟨p,0,none⟩=some (.int .u64 (mine.toNat:Int))/\w'.cell? ⟨bb,0,none⟩=some (.pointer (some ⟨gp,0,none⟩))/\w'.cell? ⟨gp,1,none⟩=some (.slice ga Y gc)) (fun _=>true) (by kernel_rfl) hS (fun e4 => ?_);refine tq 0 (h:=tq 1 (h:=tq 2 (h:=tq 3 (h:=tq 4 (h:=tq 5 (h:=tq 6 (h:=tq 7 (h:=tq 8 (h:=tq 9 (h:=tq 10 (h:=tq 11 (h:=tO 12 (h:=?_)))))))))))));go_wp2_with fail;refine u6.out.mono ?_;rintro e W6 ⟨v6,o6,rfl,b8,rfl,pW⟩;obtain ⟨b4,b7,g5,d8,g1,f7,e6,b6⟩:=hG.out;obtain ⟨ML,hb,a6,f0,hm,g4,hs,f2⟩:=hH.out;have nZ:¬ qG (M+1) (M+2) (M+3) D (M+4):=KC.WZ ML.1 ML.2;have n0:¬ qG (M+1) (M+2) (M+3) D 0:=fun h=>by unfold qG at h;have:=ML.2;omega
     have nX:¬ qG (M+1) (M+2) (M+3) D X:=fun h=>by unfold qG at h;have:=j8.out.1;have:=ML.1;omega
     have e7:=(hb.step b4 id).step b8 nZ;have f1:=(b8.block p (Nat.lt_of_lt_of_le (au a6) b4.size) (by rw [b4.own p (au a6),f0];exact nZ)).trans ((b4.block _ (au a6) id).trans a6);have g8:=(b8.own p (Nat.lt_of_lt_of_le (au a6) b4.size)).trans ((b4.own p (au a6)).trans f0);have d9:=(b8.block bb (au b7) (by rw [g5];exact nX)).trans b7;have g9:=(b8.own bb (au b7)).trans g5;have e0:=(b8.block gp (au d8) (by rw [g1];exact n0)).trans d8;have h1:(o6 gp).1=0:=by rw [b8.own gp (au d8)];exact g1
     have h2:=f7.step b8 n0;have h3:=(f2.step b4 id id).step b8 nZ n0;have g3:=(b4.mono (fun _ h=>h.elim)).trans (b8.mono KC.in4);obtain ⟨⟨-, -,c2, -⟩, -⟩:=e7.cells;have cm:=ag f1 0;have cb:=ag d9 0;have cg:=ag e0 1;simp only [ay,ax] at cm cb cg;rw [b6] at cg;have i3:=aI c2 (aI cm (aI cb cg));have n6:=ae (aI g3 (aI e7 (aI f1 (aI g8 (aI d9 (aI g9 (aI e0 (aI h1 (aI h2 (aI h3 (aI pW (aI e6 (aI b6 ML)))))))))))));clear b8 pW b4 b7 g5 d8 g1 f7 e6 b6 ML hb a6 f0 hm g4 hs f2 nZ n0 nX e7 f1 g8 d9 g9 e0 h1 h2 h3 g3 c2 cm cb cg e4;go_wp2_with fail;refine ⟨fun _=>i3, ?_⟩;refine tq 13 (h:=tD (h:=?_));clear i3;obtain ⟨g3,e7,f1,g8,d9,g9,e0,h1,h2,h3,pW,e6,b6,ML⟩:=n6.out;have h6:Bc W6 o6 D M pz ps pd { z with s:=s' }:=⟨ML,_,e7,(by show IE _ _ _ _ z.BB;rw [tN.out];exact ⟨p,rfl,mb,f1,g8,h3⟩),pW⟩;have k3:=ae (FD h6);clear g3 e7 f1 g8 d9 g9 e0 h1 h2 h3 pW e6 b6 ML h6;go_wp2_with fail;refine k3.out.mono ?_;rintro e w7 ⟨v7,o7,rfl,hs7,rfl,hn7⟩;have hF:=ae (aI (n6.out.1.trans (hs7.mono (fun k h=>by cases h;exact KC.own))) hn7);clear hs7 hn7;go_wp2_with fail;go_ret;exact ⟨_,o7,rfl,hF.out.1,by rw [<-KI.out];exact Dn.nil _ _,by rw [<-KI.out];exact hF.out.2⟩
    ·subst u7;rw [if_pos rfl] at KI;go_wp2_with fail;refine Aa (fun w'=>w'.cell? ⟨pz,2,none⟩=some (.pointer (some ⟨ps,0,none⟩))/\w'.cell? ⟨p,0,none⟩=some (.int .u64 (mine.toNat:Int))/\w'.cell? ⟨bb,0,none⟩=some (.pointer (some ⟨gp,0,none⟩))/\w'.cell? ⟨gp,1,none⟩=some (.slice ga Y gc)) (fun _=>true) (by kernel_rfl) hS (fun e4 => ?_);refine tq 0 (h:=tq 1 (h:=tq 2 (h:=tq 3 (h:=tq 4 (h:=tq 5 (h:=tq 6 (h:=tq 7 (h:=tq 8 (h:=tq 9 (h:=tq 10 (h:=tq 11 (h:=tO 12 (h:=?_)))))))))))));go_wp2_with fail;refine u6.out.mono ?_;rintro e W6 ⟨v6,o6,rfl,b8,rfl,pW⟩;obtain ⟨b4,b7,g5,d8,g1,f7,e6,b6⟩:=hG.out;obtain ⟨ML,hb,a6,f0,hm,g4,hs,f2⟩:=hH.out;have nZ:¬ qG (M+1) (M+2) (M+3) D (M+4):=KC.WZ ML.1 ML.2;have n0:¬ qG (M+1) (M+2) (M+3) D 0:=fun h=>by unfold qG at h;have:=ML.2;omega
     have nX:¬ qG (M+1) (M+2) (M+3) D X:=fun h=>by unfold qG at h;have:=j8.out.1;have:=ML.1;omega
     have e7:=(hb.step b4 id).step b8 nZ;have f1:=(b8.block p (Nat.lt_of_lt_of_le (au a6) b4.size) (by rw [b4.own p (au a6),f0];exact nZ)).trans ((b4.block _ (au a6) id).trans a6);have g8:=(b8.own p (Nat.lt_of_lt_of_le (au a6) b4.size)).trans ((b4.own p (au a6)).trans f0);have d9:=(b8.block bb (au b7) (by rw [g5];exact nX)).trans b7;have g9:=(b8.own bb (au b7)).trans g5;have e0:=(b8.block gp (au d8) (by rw [g1];exact n0)).trans d8;have h1:(o6 gp).1=0:=by rw [b8.own gp (au d8)];exact g1
     have h2:=f7.step b8 n0;have h3:=(f2.step b4 id id).step b8 nZ n0;have g3:=(b4.mono (fun _ h=>h.elim)).trans (b8.mono KC.in4);obtain ⟨⟨-, -,c2, -⟩, -⟩:=e7.cells;have cm:=ag f1 0;have cb:=ag d9 0;have cg:=ag e0 1;simp only [ay,ax] at cm cb cg;rw [b6] at cg;have i3:=aI c2 (aI cm (aI cb cg));have n6:=ae (aI g3 (aI e7 (aI f1 (aI g8 (aI d9 (aI g9 (aI e0 (aI h1 (aI h2 (aI h3 (aI pW (aI e6 (aI b6 ML)))))))))))));clear b8 pW b4 b7 g5 d8 g1 f7 e6 b6 ML hb a6 f0 hm g4 hs f2 nZ n0 nX e7 f1 g8 d9 g9 e0 h1 h2 h3 g3 c2 cm cb cg e4;go_wp2_with fail;refine ⟨fun _=>i3, ?_⟩;refine tq 13 (h:=tD (h:=?_));clear i3;obtain ⟨V,hV⟩:=az (W6.drew);have kV:aj ai W6 o6 V o6:=by rw [<-hV];exact (aj.refl ai W6 o6).drew
     obtain ⟨g3,e7,f1,g8,d9,g9,e0,h1,h2,h3,pW,e6,b6,ML⟩:=n6.out;have u9:∀ W O,aj ai V o6 W O->W.cell? ⟨p,0,none⟩=some (.int .u64 (mine.toNat:Int))/\W.cell? ⟨pz,1,none⟩=some (.int .i64 (nn:Int))/\W.cell? ⟨bb,0,none⟩=some (.pointer (some ⟨gp,0,none⟩))/\W.cell? ⟨gp,1,none⟩=some (.slice ga Y gc):=by
      intro W O u;have u:=kV.trans u;obtain ⟨⟨-,c1, -⟩, -⟩:=(e7.step u id).cells;have cm:=ag ((u.block _ (au f1) id).trans f1) 0;have cb:=ag ((u.block _ (au d9) id).trans d9) 0;have cg:=ag ((u.block _ (au e0) id).trans e0) 1;simp only [ay,ax] at cm cb cg;rw [b6] at cg;rw [o9.out] at c1;exact ⟨cm,c1,cb,cg⟩
     have e8:=ae u9;have v0:=u9 V o6 (aj.refl _ _ _);rw [<-hV] at v0;have r9:w.heap.size<=V.heap.size:=Nat.le_trans g3.size kV.size;have hKV:=ae (aI kV r9);clear u9 g3 e7 f1 g8 d9 g9 e0 h1 h2 h3 pW e6 b6 ML kV r9;go_wp2_with fail;refine Jd (fun a0 a' w'=>∃ (J E F:Nat) (oF:Own) (y1 y2 y3 y4 y5 y6 y7 y8 y9 y10 y11 y12 y13 y14 y15 y16 y17:Value),a'=Act.puts a0 [74,75,76,77,78,79,80,81,82,83,84,85,86,87,88,89,90,9] [y1,y2,y3,y4,y5,y6,y7,y8,y9,y10,y11,y12,y13,y14,y15,y16,y17, .pointer (some ⟨J,0,none⟩)]/\(V.heap.size<=J/\V.heap.size<=E/\V.heap.size<=F/\E ≠ F/\J ≠ E/\J ≠ F)/\w'.heap[J]?=some (.cells [Value.pointer (some ⟨E,0,none⟩)].toArray 135 (0,0))/\w'.heap[E]?=some (.cells [Value.int .u64 (mine.toNat:Int), .slice (some ⟨F,0,none⟩) nn nn, .int .i64 (Y:Int), .bool false].toArray 142 (0,0))/\w'.heap[F]?=some (.cells (ivs (List.replicate nn (-1))).toArray 3 (0,0))/\(oF J).1=0/\aj ai V o6 w' oF) ?_ ?_
     ·refine Aa (fun w'=>w'.cell? ⟨p,0,none⟩=some (.int .u64 (mine.toNat:Int))/\w'.cell? ⟨pz,1,none⟩=some (.int .i64 (nn:Int))/\w'.cell? ⟨bb,0,none⟩=some (.pointer (some ⟨gp,0,none⟩))/\w'.cell? ⟨gp,1,none⟩=some (.slice ga Y gc)) (fun _=>true) (by kernel_rfl) v0 (fun e4 => ?_);rw [hV] at e4 ⊢;have u:aj ai V o6 V o6:=aj.refl _ _ _;refine tn 0 (h:=tn 1 (h:=tn 2 (h:=tn 3 (h:=tn 5 (h:=tn 6 (h:=tn 7 (h:=tn 8 (h:=tn 10 (h:=tn 11 (h:=tn 12 (h:=tn 13 (h:=tn 14 (h:=?_)))))))))))));refine Gm (i:=4) (j:=17) rfl rfl (by kernel_rfl) ?_ ?_
      ·obtain ⟨rb,i8⟩:=az (V.heap.size);have AuW:V.heap.size<=rb:=by rw [<-i8];exact u.size
       have l8:=(aj.refl ai V o6).alloc (.cells [Value.int .i64 (-1)].toArray 3) (0,0);have j3:=heap_alloc_new V (.cells [Value.int .i64 (-1)].toArray 3);obtain ⟨e9,a2⟩:=az (V.alloc (.cells [Value.int .i64 (-1)].toArray 3));obtain ⟨l9,a5⟩:=az (Ak o6 V.heap.size (0,0));rw [a2,a5] at l8;rw [a2] at j3;rw [i8] at j3 a5;have b1:(Instr.buildSlice 53 1 #[(0, .int .i64 (-1))]).run prog V = .ok (.slice (some ⟨rb,0,none⟩) 1 1) e9:=by rw [<-a2, <-i8];exact XU V
       have c8:=ae b1;have a3:=j3;have u:=u.trans l8;have hS:=e8.out _ _ u;clear b1 j3 l8 a2 a5 i8;refine BO #[(0, .int .i64 (-1))] rfl c8.out ?_;refine wpList_nil ?_;simp only [Act.put,GL,DL,lss];refine ⟨fun _=>hS, ?_⟩;refine Gm (i:=9) (j:=17) rfl rfl (by kernel_rfl) ?_ ?_
       ·have i4:=ag a3 0;simp only [ay] at i4;have l1:=ae (Ls (o:=l9) nn o8 m5 i4 (au a3));clear i4;go_wp2_with fail;refine l1.out.mono ?_;rintro e e3 ⟨x22,j4,rfl,g0,rfl,i5,l2⟩;obtain ⟨F,c9⟩:=az (e9.heap.size);have n7:V.heap.size<=F:=by rw [<-c9];exact u.size
        have AjE:rb ≠ F:=by have:=au a3;rw [<-c9];omega
        rw [c9] at i5 l2;have a3:=(g0.block _ (au a3) id).trans a3;have a4:=i5;have u:=u.trans g0;have hS:=e8.out _ _ u;clear g0 i5 l1 l2;rw [c9];clear c9;go_wp2_with fail;refine ⟨fun _=>hS, ?_⟩;refine tn 15 (h:=?_);refine Gm (i:=16) (j:=17) rfl rfl (by kernel_rfl) ?_ ?_
        ·obtain ⟨E,a7⟩:=az (e3.heap.size);have m0:V.heap.size<=E:=by rw [<-a7];exact u.size
         have v1:rb ≠ E:=by have:=au a3;rw [<-a7];omega
         have m1:F ≠ E:=by have:=au a4;rw [<-a7];omega
         have c0:=(aj.refl ai e3 j4).alloc (.cells [Value.int .u64 (mine.toNat:Int), .slice (some ⟨F,0,none⟩) nn nn, .int .i64 (Y:Int), .bool false].toArray 142) (0,0);have d6:=heap_alloc_new e3 (.cells [Value.int .u64 (mine.toNat:Int), .slice (some ⟨F,0,none⟩) nn nn, .int .i64 (Y:Int), .bool false].toArray 142);obtain ⟨b2,a2⟩:=az (e3.alloc (.cells [Value.int .u64 (mine.toNat:Int), .slice (some ⟨F,0,none⟩) nn nn, .int .i64 (Y:Int), .bool false].toArray 142));obtain ⟨h5,a5⟩:=az (Ak j4 e3.heap.size (0,0));rw [a2,a5] at c0;rw [a2] at d6;rw [a7] at d6 a5;have b1:(Instr.box 142 (.agg #[Value.int .u64 (mine.toNat:Int), .slice (some ⟨F,0,none⟩) nn nn, .int .i64 (Y:Int), .bool false])).run prog e3 = .ok (.pointer (some ⟨E,0,none⟩)) b2:=by rw [<-a2, <-a7];kernel_rfl
         have c8:=ae b1;have a3:=(c0.block _ (au a3) id).trans a3;have a4:=(c0.block _ (au a4) id).trans a4;have b3:=d6;have u:=u.trans c0;have hS:=e8.out _ _ u;clear b1 d6 c0 a2 a5 a7;refine BM c8.out ?_;refine wpList_nil ?_;simp only [Act.put,GL,DL,lss];refine ⟨fun _=>hS, ?_⟩;refine tO 17 (h:=?_);obtain ⟨J,b5⟩:=az (b2.heap.size);have i6:V.heap.size<=J:=by rw [<-b5];exact u.size
         have AjD:rb ≠ J:=by have:=au a3;rw [<-b5];omega
         have j5:F ≠ J:=by have:=au a4;rw [<-b5];omega
         have l3:E ≠ J:=by have:=au b3;rw [<-b5];omega
         have a9:=(aj.refl ai b2 h5).alloc (.cells [Value.pointer none].toArray 135) (0,0);have d7:=heap_alloc_new b2 (.cells [Value.pointer none].toArray 135);obtain ⟨f5,a2⟩:=az (b2.alloc (.cells [Value.pointer none].toArray 135));obtain ⟨l4,a5⟩:=az (Ak h5 b2.heap.size (0,0));rw [a2,a5] at a9;rw [a2] at d7;rw [b5] at d7 a5;have c4:l4 J=(0,0):=by rw [<-a5];exact Au _ _ _
         have b1:(Instr.alloc 135 true (.tuple #[])).run prog b2 = .ok (.pointer (some ⟨J,0,none⟩)) f5:=by rw [<-a2, <-b5];kernel_rfl
         have c8:=ae b1;have a3:=(a9.block _ (au a3) id).trans a3;have a4:=(a9.block _ (au a4) id).trans a4;have b3:=(a9.block _ (au b3) id).trans b3;have U:=d7;have u:=u.trans a9;have hS:=e8.out _ _ u;clear b1 d7 a9 a2 a5 b5;refine AU c8.out ?_;refine wpList_nil ?_;simp only [Act.put,GL,DL,lss];refine ⟨fun _=>hS, ?_⟩;refine tO 18 (h:=?_);have m2:=ag U 0;have v2:=Ap U 0;simp only [ay] at m2;have u:=u.setCell (a:=⟨J,0,none⟩) (.pointer (some ⟨E,0,none⟩)) (.inr i6);have U:=Ai (i:=0) (.pointer (some ⟨E,0,none⟩)) U;have b3:=(Below.heap_setCell f5 ⟨J,0,none⟩ (.pointer (some ⟨E,0,none⟩)) E (by first | exact l3 | exact fun h=>i9 h.symm)).trans b3
         have a4:=(Below.heap_setCell f5 ⟨J,0,none⟩ (.pointer (some ⟨E,0,none⟩)) F (by first | exact j5 | exact fun h=>j6 h.symm)).trans a4
         have hS:=e8.out _ _ u;go_wp2_with fail;refine ⟨fun _=>hS, ?_⟩;refine tD (h:=?_);exact ⟨rfl,J,E,F,l4, .pointer (some ⟨p,0,none⟩), .pointer (some ⟨p,0,none⟩), .pointer (some ⟨p,0,none⟩), .int .u64 (mine.toNat:Int), .slice (some ⟨rb,0,none⟩) 1 1, .pointer (some ⟨pz,0,none⟩), .pointer (some ⟨pz,0,none⟩), .pointer (some ⟨pz,1,none⟩), .int .i64 (nn:Int), .slice (some ⟨F,0,none⟩) nn nn, .pointer (some ⟨gp,0,none⟩), .pointer (some ⟨gp,0,none⟩), .pointer (some ⟨gp,1,none⟩), .slice ga Y gc, .int .i64 (Y:Int), .agg #[Value.int .u64 (mine.toNat:Int), .slice (some ⟨F,0,none⟩) nn nn, .int .i64 (Y:Int), .bool false], .pointer (some ⟨E,0,none⟩),by simp only [Act.puts,Act.put,GL,DL,lss],⟨i6,m0,n7,by first | exact Ahg | exact fun h=>m1 h.symm,by first | exact i9 | exact fun h=>l3 h.symm,by first | exact j6 | exact fun h=>j5 h.symm⟩,U,b3,a4,by rw [c4],u⟩
        ·obtain ⟨J,b5⟩:=az (e3.heap.size);have i6:V.heap.size<=J:=by rw [<-b5];exact u.size
         have AjD:rb ≠ J:=by have:=au a3;rw [<-b5];omega
         have j5:F ≠ J:=by have:=au a4;rw [<-b5];omega
         have c0:=(aj.refl ai e3 j4).alloc (.cells [Value.pointer none].toArray 135) (0,0);have d7:=heap_alloc_new e3 (.cells [Value.pointer none].toArray 135);obtain ⟨b2,a2⟩:=az (e3.alloc (.cells [Value.pointer none].toArray 135));obtain ⟨h5,a5⟩:=az (Ak j4 e3.heap.size (0,0));rw [a2,a5] at c0;rw [a2] at d7;rw [b5] at d7 a5;have c4:h5 J=(0,0):=by rw [<-a5];exact Au _ _ _
         have b1:(Instr.alloc 135 true (.tuple #[])).run prog e3 = .ok (.pointer (some ⟨J,0,none⟩)) b2:=by rw [<-a2, <-b5];kernel_rfl
         have c8:=ae b1;have a3:=(c0.block _ (au a3) id).trans a3;have a4:=(c0.block _ (au a4) id).trans a4;have U:=d7;have u:=u.trans c0;have hS:=e8.out _ _ u;clear b1 d7 c0 a2 a5 b5;refine AU c8.out ?_;refine wpList_nil ?_;simp only [Act.put,GL,DL,lss];refine ⟨fun _=>hS, ?_⟩;refine tO 16 (h:=?_);obtain ⟨E,a7⟩:=az (b2.heap.size);have m0:V.heap.size<=E:=by rw [<-a7];exact u.size
         have v1:rb ≠ E:=by have:=au a3;rw [<-a7];omega
         have m1:F ≠ E:=by have:=au a4;rw [<-a7];omega
         have i9:J ≠ E:=by have:=au U;rw [<-a7];omega
         have a9:=(aj.refl ai b2 h5).alloc (.cells [Value.int .u64 (mine.toNat:Int), .slice (some ⟨F,0,none⟩) nn nn, .int .i64 (Y:Int), .bool false].toArray 142) (0,0);have d6:=heap_alloc_new b2 (.cells [Value.int .u64 (mine.toNat:Int), .slice (some ⟨F,0,none⟩) nn nn, .int .i64 (Y:Int), .bool false].toArray 142);obtain ⟨f5,a2⟩:=az (b2.alloc (.cells [Value.int .u64 (mine.toNat:Int), .slice (some ⟨F,0,none⟩) nn nn, .int .i64 (Y:Int), .bool false].toArray 142));obtain ⟨l4,a5⟩:=az (Ak h5 b2.heap.size (0,0));rw [a2,a5] at a9;rw [a2] at d6;rw [a7] at d6 a5;have b1:(Instr.box 142 (.agg #[Value.int .u64 (mine.toNat:Int), .slice (some ⟨F,0,none⟩) nn nn, .int .i64 (Y:Int), .bool false])).run prog b2 = .ok (.pointer (some ⟨E,0,none⟩)) f5:=by rw [<-a2, <-a7];kernel_rfl
         have c8:=ae b1;have c4:=(a9.own _ (au U)).trans c4;have a3:=(a9.block _ (au a3) id).trans a3;have a4:=(a9.block _ (au a4) id).trans a4;have U:=(a9.block _ (au U) id).trans U;have b3:=d6;have u:=u.trans a9;have hS:=e8.out _ _ u;clear b1 d6 a9 a2 a5 a7;refine BM c8.out ?_;refine wpList_nil ?_;simp only [Act.put,GL,DL,lss];refine ⟨fun _=>hS, ?_⟩;refine tO 18 (h:=?_);have m2:=ag U 0;have v2:=Ap U 0;simp only [ay] at m2;have u:=u.setCell (a:=⟨J,0,none⟩) (.pointer (some ⟨E,0,none⟩)) (.inr i6);have U:=Ai (i:=0) (.pointer (some ⟨E,0,none⟩)) U;have b3:=(Below.heap_setCell f5 ⟨J,0,none⟩ (.pointer (some ⟨E,0,none⟩)) E (by first | exact l3 | exact fun h=>i9 h.symm)).trans b3
         have a4:=(Below.heap_setCell f5 ⟨J,0,none⟩ (.pointer (some ⟨E,0,none⟩)) F (by first | exact j5 | exact fun h=>j6 h.symm)).trans a4
         have hS:=e8.out _ _ u;go_wp2_with fail;refine ⟨fun _=>hS, ?_⟩;refine tD (h:=?_);exact ⟨rfl,J,E,F,l4, .pointer (some ⟨p,0,none⟩), .pointer (some ⟨p,0,none⟩), .pointer (some ⟨p,0,none⟩), .int .u64 (mine.toNat:Int), .slice (some ⟨rb,0,none⟩) 1 1, .pointer (some ⟨pz,0,none⟩), .pointer (some ⟨pz,0,none⟩), .pointer (some ⟨pz,1,none⟩), .int .i64 (nn:Int), .slice (some ⟨F,0,none⟩) nn nn, .pointer (some ⟨gp,0,none⟩), .pointer (some ⟨gp,0,none⟩), .pointer (some ⟨gp,1,none⟩), .slice ga Y gc, .int .i64 (Y:Int), .agg #[Value.int .u64 (mine.toNat:Int), .slice (some ⟨F,0,none⟩) nn nn, .int .i64 (Y:Int), .bool false], .pointer (some ⟨E,0,none⟩),by simp only [Act.puts,Act.put,GL,DL,lss],⟨i6,m0,n7,by first | exact Ahg | exact fun h=>m1 h.symm,by first | exact i9 | exact fun h=>l3 h.symm,by first | exact j6 | exact fun h=>j5 h.symm⟩,U,b3,a4,by rw [c4],u⟩
       ·obtain ⟨J,b5⟩:=az (e9.heap.size);have i6:V.heap.size<=J:=by rw [<-b5];exact u.size
        have AjD:rb ≠ J:=by have:=au a3;rw [<-b5];omega
        have g0:=(aj.refl ai e9 l9).alloc (.cells [Value.pointer none].toArray 135) (0,0);have d7:=heap_alloc_new e9 (.cells [Value.pointer none].toArray 135);obtain ⟨e3,a2⟩:=az (e9.alloc (.cells [Value.pointer none].toArray 135));obtain ⟨j4,a5⟩:=az (Ak l9 e9.heap.size (0,0));rw [a2,a5] at g0;rw [a2] at d7;rw [b5] at d7 a5;have c4:j4 J=(0,0):=by rw [<-a5];exact Au _ _ _
        have b1:(Instr.alloc 135 true (.tuple #[])).run prog e9 = .ok (.pointer (some ⟨J,0,none⟩)) e3:=by rw [<-a2, <-b5];kernel_rfl
        have c8:=ae b1;have a3:=(g0.block _ (au a3) id).trans a3;have U:=d7;have u:=u.trans g0;have hS:=e8.out _ _ u;clear b1 d7 g0 a2 a5 b5;refine AU c8.out ?_;refine wpList_nil ?_;simp only [Act.put,GL,DL,lss];refine ⟨fun _=>hS, ?_⟩;refine tO 9 (h:=?_);have i4:=ag a3 0;simp only [ay] at i4;have l1:=ae (Ls (o:=j4) nn o8 m5 i4 (au a3));clear i4;go_wp2_with fail;refine l1.out.mono ?_;rintro e b2 ⟨x23,h5,rfl,c0,rfl,i5,l2⟩;obtain ⟨F,c9⟩:=az (e3.heap.size);have n7:V.heap.size<=F:=by rw [<-c9];exact u.size
        have AjE:rb ≠ F:=by have:=au a3;rw [<-c9];omega
        have j6:J ≠ F:=by have:=au U;rw [<-c9];omega
        rw [c9] at i5 l2;have c4:=(c0.own _ (au U)).trans c4;have a3:=(c0.block _ (au a3) id).trans a3;have U:=(c0.block _ (au U) id).trans U;have a4:=i5;have u:=u.trans c0;have hS:=e8.out _ _ u;clear c0 i5 l1 l2;rw [c9];clear c9;go_wp2_with fail;refine ⟨fun _=>hS, ?_⟩;refine tn 15 (h:=tO 16 (h:=?_));obtain ⟨E,a7⟩:=az (b2.heap.size);have m0:V.heap.size<=E:=by rw [<-a7];exact u.size
        have v1:rb ≠ E:=by have:=au a3;rw [<-a7];omega
        have m1:F ≠ E:=by have:=au a4;rw [<-a7];omega
        have i9:J ≠ E:=by have:=au U;rw [<-a7];omega
        have a9:=(aj.refl ai b2 h5).alloc (.cells [Value.int .u64 (mine.toNat:Int), .slice (some ⟨F,0,none⟩) nn nn, .int .i64 (Y:Int), .bool false].toArray 142) (0,0);have d6:=heap_alloc_new b2 (.cells [Value.int .u64 (mine.toNat:Int), .slice (some ⟨F,0,none⟩) nn nn, .int .i64 (Y:Int), .bool false].toArray 142);obtain ⟨f5,a2⟩:=az (b2.alloc (.cells [Value.int .u64 (mine.toNat:Int), .slice (some ⟨F,0,none⟩) nn nn, .int .i64 (Y:Int), .bool false].toArray 142));obtain ⟨l4,a5⟩:=az (Ak h5 b2.heap.size (0,0));rw [a2,a5] at a9;rw [a2] at d6;rw [a7] at d6 a5;have b1:(Instr.box 142 (.agg #[Value.int .u64 (mine.toNat:Int), .slice (some ⟨F,0,none⟩) nn nn, .int .i64 (Y:Int), .bool false])).run prog b2 = .ok (.pointer (some ⟨E,0,none⟩)) f5:=by rw [<-a2, <-a7];kernel_rfl
        have c8:=ae b1;have c4:=(a9.own _ (au U)).trans c4;have a3:=(a9.block _ (au a3) id).trans a3;have a4:=(a9.block _ (au a4) id).trans a4;have U:=(a9.block _ (au U) id).trans U;have b3:=d6;have u:=u.trans a9;have hS:=e8.out _ _ u;clear b1 d6 a9 a2 a5 a7;refine BM c8.out ?_;refine wpList_nil ?_;simp only [Act.put,GL,DL,lss];refine ⟨fun _=>hS, ?_⟩;refine tO 18 (h:=?_);have m2:=ag U 0;have v2:=Ap U 0;simp only [ay] at m2;have u:=u.setCell (a:=⟨J,0,none⟩) (.pointer (some ⟨E,0,none⟩)) (.inr i6);have U:=Ai (i:=0) (.pointer (some ⟨E,0,none⟩)) U;have b3:=(Below.heap_setCell f5 ⟨J,0,none⟩ (.pointer (some ⟨E,0,none⟩)) E (by first | exact l3 | exact fun h=>i9 h.symm)).trans b3
        have a4:=(Below.heap_setCell f5 ⟨J,0,none⟩ (.pointer (some ⟨E,0,none⟩)) F (by first | exact j5 | exact fun h=>j6 h.symm)).trans a4
        have hS:=e8.out _ _ u;go_wp2_with fail;refine ⟨fun _=>hS, ?_⟩;refine tD (h:=?_);exact ⟨rfl,J,E,F,l4, .pointer (some ⟨p,0,none⟩), .pointer (some ⟨p,0,none⟩), .pointer (some ⟨p,0,none⟩), .int .u64 (mine.toNat:Int), .slice (some ⟨rb,0,none⟩) 1 1, .pointer (some ⟨pz,0,none⟩), .pointer (some ⟨pz,0,none⟩), .pointer (some ⟨pz,1,none⟩), .int .i64 (nn:Int), .slice (some ⟨F,0,none⟩) nn nn, .pointer (some ⟨gp,0,none⟩), .pointer (some ⟨gp,0,none⟩), .pointer (some ⟨gp,1,none⟩), .slice ga Y gc, .int .i64 (Y:Int), .agg #[Value.int .u64 (mine.toNat:Int), .slice (some ⟨F,0,none⟩) nn nn, .int .i64 (Y:Int), .bool false], .pointer (some ⟨E,0,none⟩),by simp only [Act.puts,Act.put,GL,DL,lss],⟨i6,m0,n7,by first | exact Ahg | exact fun h=>m1 h.symm,by first | exact i9 | exact fun h=>l3 h.symm,by first | exact j6 | exact fun h=>j5 h.symm⟩,U,b3,a4,by rw [c4],u⟩
      ·obtain ⟨J,b5⟩:=az (V.heap.size);have i6:V.heap.size<=J:=by rw [<-b5];exact u.size
       have l8:=(aj.refl ai V o6).alloc (.cells [Value.pointer none].toArray 135) (0,0);have d7:=heap_alloc_new V (.cells [Value.pointer none].toArray 135);obtain ⟨e9,a2⟩:=az (V.alloc (.cells [Value.pointer none].toArray 135));obtain ⟨l9,a5⟩:=az (Ak o6 V.heap.size (0,0));rw [a2,a5] at l8;rw [a2] at d7;rw [b5] at d7 a5;have c4:l9 J=(0,0):=by rw [<-a5];exact Au _ _ _
       have b1:(Instr.alloc 135 true (.tuple #[])).run prog V = .ok (.pointer (some ⟨J,0,none⟩)) e9:=by rw [<-a2, <-b5];kernel_rfl
       have c8:=ae b1;have U:=d7;have u:=u.trans l8;have hS:=e8.out _ _ u;clear b1 d7 l8 a2 a5 b5;refine AU c8.out ?_;refine wpList_nil ?_;simp only [Act.put,GL,DL,lss];refine ⟨fun _=>hS, ?_⟩;refine tO 4 (h:=?_);obtain ⟨rb,i8⟩:=az (e9.heap.size);have AuW:V.heap.size<=rb:=by rw [<-i8];exact u.size
       have Axk:J ≠ rb:=by have:=au U;rw [<-i8];omega
       have g0:=(aj.refl ai e9 l9).alloc (.cells [Value.int .i64 (-1)].toArray 3) (0,0);have j3:=heap_alloc_new e9 (.cells [Value.int .i64 (-1)].toArray 3);obtain ⟨e3,a2⟩:=az (e9.alloc (.cells [Value.int .i64 (-1)].toArray 3));obtain ⟨j4,a5⟩:=az (Ak l9 e9.heap.size (0,0));rw [a2,a5] at g0;rw [a2] at j3;rw [i8] at j3 a5;have b1:(Instr.buildSlice 53 1 #[(0, .int .i64 (-1))]).run prog e9 = .ok (.slice (some ⟨rb,0,none⟩) 1 1) e3:=by rw [<-a2, <-i8];exact XU e9
       have c8:=ae b1;have c4:=(g0.own _ (au U)).trans c4;have U:=(g0.block _ (au U) id).trans U;have a3:=j3;have u:=u.trans g0;have hS:=e8.out _ _ u;clear b1 j3 g0 a2 a5 i8;refine BO #[(0, .int .i64 (-1))] rfl c8.out ?_;refine wpList_nil ?_;simp only [Act.put,GL,DL,lss];refine ⟨fun _=>hS, ?_⟩;refine tO 9 (h:=?_);have i4:=ag a3 0;simp only [ay] at i4;have l1:=ae (Ls (o:=j4) nn o8 m5 i4 (au a3));clear i4;go_wp2_with fail;refine l1.out.mono ?_;rintro e b2 ⟨x23,h5,rfl,c0,rfl,i5,l2⟩;obtain ⟨F,c9⟩:=az (e3.heap.size);have n7:V.heap.size<=F:=by rw [<-c9];exact u.size
       have AjE:rb ≠ F:=by have:=au a3;rw [<-c9];omega
       have j6:J ≠ F:=by have:=au U;rw [<-c9];omega
       rw [c9] at i5 l2;have c4:=(c0.own _ (au U)).trans c4;have a3:=(c0.block _ (au a3) id).trans a3;have U:=(c0.block _ (au U) id).trans U;have a4:=i5;have u:=u.trans c0;have hS:=e8.out _ _ u;clear c0 i5 l1 l2;rw [c9];clear c9;go_wp2_with fail;refine ⟨fun _=>hS, ?_⟩;refine tn 15 (h:=tO 16 (h:=?_));obtain ⟨E,a7⟩:=az (b2.heap.size);have m0:V.heap.size<=E:=by rw [<-a7];exact u.size
       have v1:rb ≠ E:=by have:=au a3;rw [<-a7];omega
       have m1:F ≠ E:=by have:=au a4;rw [<-a7];omega
       have i9:J ≠ E:=by have:=au U;rw [<-a7];omega
       have a9:=(aj.refl ai b2 h5).alloc (.cells [Value.int .u64 (mine.toNat:Int), .slice (some ⟨F,0,none⟩) nn nn, .int .i64 (Y:Int), .bool false].toArray 142) (0,0);have d6:=heap_alloc_new b2 (.cells [Value.int .u64 (mine.toNat:Int), .slice (some ⟨F,0,none⟩) nn nn, .int .i64 (Y:Int), .bool false].toArray 142);obtain ⟨f5,a2⟩:=az (b2.alloc (.cells [Value.int .u64 (mine.toNat:Int), .slice (some ⟨F,0,none⟩) nn nn, .int .i64 (Y:Int), .bool false].toArray 142));obtain ⟨l4,a5⟩:=az (Ak h5 b2.heap.size (0,0));rw [a2,a5] at a9;rw [a2] at d6;rw [a7] at d6 a5;have b1:(Instr.box 142 (.agg #[Value.int .u64 (mine.toNat:Int), .slice (some ⟨F,0,none⟩) nn nn, .int .i64 (Y:Int), .bool false])).run prog b2 = .ok (.pointer (some ⟨E,0,none⟩)) f5:=by rw [<-a2, <-a7];kernel_rfl
       have c8:=ae b1;have c4:=(a9.own _ (au U)).trans c4;have a3:=(a9.block _ (au a3) id).trans a3;have a4:=(a9.block _ (au a4) id).trans a4;have U:=(a9.block _ (au U) id).trans U;have b3:=d6;have u:=u.trans a9;have hS:=e8.out _ _ u;clear b1 d6 a9 a2 a5 a7;refine BM c8.out ?_;refine wpList_nil ?_;simp only [Act.put,GL,DL,lss];refine ⟨fun _=>hS, ?_⟩;refine tO 18 (h:=?_);have m2:=ag U 0;have v2:=Ap U 0;simp only [ay] at m2;have u:=u.setCell (a:=⟨J,0,none⟩) (.pointer (some ⟨E,0,none⟩)) (.inr i6);have U:=Ai (i:=0) (.pointer (some ⟨E,0,none⟩)) U;have b3:=(Below.heap_setCell f5 ⟨J,0,none⟩ (.pointer (some ⟨E,0,none⟩)) E (by first | exact l3 | exact fun h=>i9 h.symm)).trans b3
       have a4:=(Below.heap_setCell f5 ⟨J,0,none⟩ (.pointer (some ⟨E,0,none⟩)) F (by first | exact j5 | exact fun h=>j6 h.symm)).trans a4
       have hS:=e8.out _ _ u;go_wp2_with fail;refine ⟨fun _=>hS, ?_⟩;refine tD (h:=?_);exact ⟨rfl,J,E,F,l4, .pointer (some ⟨p,0,none⟩), .pointer (some ⟨p,0,none⟩), .pointer (some ⟨p,0,none⟩), .int .u64 (mine.toNat:Int), .slice (some ⟨rb,0,none⟩) 1 1, .pointer (some ⟨pz,0,none⟩), .pointer (some ⟨pz,0,none⟩), .pointer (some ⟨pz,1,none⟩), .int .i64 (nn:Int), .slice (some ⟨F,0,none⟩) nn nn, .pointer (some ⟨gp,0,none⟩), .pointer (some ⟨gp,0,none⟩), .pointer (some ⟨gp,1,none⟩), .slice ga Y gc, .int .i64 (Y:Int), .agg #[Value.int .u64 (mine.toNat:Int), .slice (some ⟨F,0,none⟩) nn nn, .int .i64 (Y:Int), .bool false], .pointer (some ⟨E,0,none⟩),by simp only [Act.puts,Act.put,GL,DL,lss],⟨i6,m0,n7,by first | exact Ahg | exact fun h=>m1 h.symm,by first | exact i9 | exact fun h=>l3 h.symm,by first | exact j6 | exact fun h=>j5 h.symm⟩,U,b3,a4,by rw [c4],u⟩
     rintro a8 W8 ⟨J,E,F,oF,y1,y2,y3,y4,y5,y6,y7,y8,y9,y10,y11,y12,y13,y14,y15,y16,y17,rfl,hge,U,b3,a4,c4,u⟩;simp only [Act.puts,Act.put,GL,DL,lss];clear v0 hV;obtain ⟨oG,q0⟩:∃ oG:Own,oG=fun k=>if k=E then (M+4,1) else if k=F then (M+4,2) else oF k:=⟨_,rfl⟩
     obtain ⟨gv,gl',gm,n1,n2,n3⟩:=hge;have u:aj ai V o6 W8 oG:=u.Me oG (fun k hk=>by rw [q0];show (if k=E then _ else if k=F then _ else _)=_;rw [if_neg om,if_neg om];exact u.own k hk)
     have glb:oG E=(M+4,1):=by rw [q0];exact if_pos rfl
     have gmr:oG F=(M+4,2):=by rw [q0];show (if F=E then _ else if F=F then _ else _)=_;rw [if_neg (fun h=>n1 h.symm),if_pos rfl]
     have q1:(oG J).1=0:=by rw [q0];show (if J=E then _ else if J=F then _ else _:Nat × Nat).1=_;rw [if_neg n2,if_neg n3];exact c4
     obtain ⟨g3,e7,f1,g8,d9,g9,e0,h1,h2,h3,pW,e6,b6,ML⟩:=n6.out;obtain ⟨kV,r9⟩:=hKV.out;have k8:=kV.trans u;have hb8:=e7.step k8 id;have n8:=(k8.block bb (au d9) id).trans d9;have v4:=(k8.own bb (au d9)).trans g9;have n9:=(k8.block gp (au e0) id).trans e0;have v8:(oG gp).1=0:=by rw [k8.own gp (au e0)];exact h1
     have s1:=h2.step k8 id;have s2:=pW.step0 k8;have s4:=g3.trans (k8.mono (fun _ h=>h.elim));have hk':s'.kept=⟨mine,mine,g.2⟩:=by rw [hf4];exact IZ hf0
     have AyZ:pz<V.heap.size:=Nat.lt_of_lt_of_le (Nat.lt_of_lt_of_le (au e7.1) (Nat.le_refl _)) kV.size;have v9:J ≠ pz:=om
     have w0:E ≠ pz:=om
     have w4:F ≠ pz:=om
     obtain ⟨V8,s6⟩:=az (W8.drew);have kD:aj ai W8 oG V8 oG:=by rw [<-s6];exact (aj.refl ai W8 oG).drew
     have o0:=hb8.step kD id;have U:=(kD.block J (au U) id).trans U;have b3:=(kD.block E (au b3) id).trans b3;have a4:=(kD.block F (au a4) id).trans a4;have n8:=(kD.block bb (au n8) id).trans n8;have n9:=(kD.block gp (au n9) id).trans n9;have s1:=s1.step kD id;have s2:=s2.step0 kD;have s4:=s4.trans (kD.mono (fun _ h=>h.elim));have w5:=Ai (i:=3) (.iface 135 (.pointer (some ⟨E,0,none⟩))) o0.1;have b9:=Ai (i:=6) (.int .i64 ((min z.Ag Y:Nat):Int)) w5;have w6:=(Below.heap_setCell V8 ⟨pz,3,none⟩ (.iface 135 (.pointer (some ⟨E,0,none⟩))) J v9).trans U;have w8:=(Below.heap_setCell V8 ⟨pz,3,none⟩ (.iface 135 (.pointer (some ⟨E,0,none⟩))) E w0).trans b3;have AsT:=(Below.heap_setCell V8 ⟨pz,3,none⟩ (.iface 135 (.pointer (some ⟨E,0,none⟩))) F w4).trans a4;have o2:=(Below.heap_setCell (V8.setCell ⟨pz,3,none⟩ (.iface 135 (.pointer (some ⟨E,0,none⟩)))) ⟨pz,6,none⟩ (.int .i64 ((min z.Ag Y:Nat):Int)) J v9).trans w6;have lb9:=(Below.heap_setCell (V8.setCell ⟨pz,3,none⟩ (.iface 135 (.pointer (some ⟨E,0,none⟩)))) ⟨pz,6,none⟩ (.int .i64 ((min z.Ag Y:Nat):Int)) E w0).trans w8;have mr9:=(Below.heap_setCell (V8.setCell ⟨pz,3,none⟩ (.iface 135 (.pointer (some ⟨E,0,none⟩)))) ⟨pz,6,none⟩ (.int .i64 ((min z.Ag Y:Nat):Int)) F w4).trans AsT;have k9:=((aj.refl (ak (M+4)) V8 oG).setCell (a:=⟨pz,3,none⟩) (.iface 135 (.pointer (some ⟨E,0,none⟩))) (.inl (by show (oG pz).1=_;rw [o0.2]))).setCell (a:=⟨pz,6,none⟩) (.int .i64 ((min z.Ag Y:Nat):Int)) (.inl (by show (oG pz).1=_;rw [o0.2]));have s7:GV _ oG D M pz ps pd E ({ z with s:=s',Ag:=min z.Ag Y }:Am) mine (List.replicate nn (-1)) Y false:=
      ⟨ML,⟨b9,o0.2⟩,⟨F,nn,by rw [List.length_replicate];exact lb9,glb,mr9,gmr,by rw [List.length_replicate];exact Nat.le_refl _,by unfold maxLen;omega⟩,s2.step k9 (KC.self ML.1)⟩
     have cv:=ag U 0;have cl:=ag b3 2;obtain ⟨⟨-, -, -,c3, -, -,c6⟩,w9, -⟩:=o0.cells;have f3:=w9 3;have f6:=w9 6;have x1:=ag w6 0;have x2:=ag w8 2;have c62:=ag w5 6;simp only [ay,ax] at cv cl x1 x2;have Bap:=aI cv (aI cl c6);have x3:=Bap;rw [<-s6] at x3;have AvW:=aI x1 (aI x2 (show _=some (Value.int .i64 (z.Ag:Int)) from c62));have n4:¬ ak (M+4) 0:=fun h=>by unfold ak at h;omega
     have q2:¬ ak (M+4) X:=fun h=>by have:=j8.out.1;unfold ak at h;omega
     have h9:=ae (aI s7 (aI (s4.trans (k9.mono (fun k h=>by cases h;exact KC.own))) (aI o2 (aI q1 (aI ((k9.block bb (au n8) (by rw [v4];exact q2)).trans n8) (aI v4 (show JA _ oG (some g) (some ⟨gp,0,none⟩) from ⟨gp,_,rfl,(k9.block gp (au n9) (by rw [v8];exact n4)).trans n9,v8,s1.step k9 n4⟩)))))));have hmn:min (z.Ag:Int) (Y:Int)=((min z.Ag Y:Nat):Int):=om
     have Amn:(0:Int)<=(z.Ag:Int)/\(z.Ag:Int)<=256:=by have:=m8.out.ok.co;have:=m8.out.ok.ls.n;have e:z.BN.Ag=z.Ag:=rfl;have e2:z.BN.k=z.s.kept:=rfl;omega
     have x4:=ae e6;have AnY:=ae hk';have BaJ:=ae ML;clear g3 e7 f1 g8 d9 g9 e0 h1 h2 h3 pW e6 b6 ML kV r9 k8 hb8 n8 v4 n9 v8 s1 s2 s4 hk' AyZ v9 w0 w4 w5 b9 w6 w8 AsT o2 lb9 mr9 k9 s7 cv cl w9 x1 x2 c62 n4 q2 U b3 a4 c4 kD o0 u glb gmr q1 gv gl' gm n1 n2 n3 q0;go_wp2_with fail;refine Aa (fun w'=>w'.cell? ⟨J,0,none⟩=some (.pointer (some ⟨E,0,none⟩))/\w'.cell? ⟨E,2,none⟩=some (.int .i64 (Y:Int))/\w'.cell? ⟨pz,6,none⟩=some (.int .i64 (z.Ag:Int))) (fun i=>decide (i<18)) (by kernel_rfl) x3 (fun e4 => ?_);rw [s6] at e4 ⊢;clear s6 x3;refine tq 0 (h:=tq 1 (h:=tq 2 (h:=tq 4 (h:=tq 5 (h:=tq 6 (h:=tq 7 (h:=tq 8 (h:=tq 9 (h:=tq 10 (h:=tq 11 (h:=tq 12 (h:=tO 3 (h:=?_)))))))))))));go_wp2_with fail;refine ⟨fun _=>e4, ?_⟩;refine tq 13 (h:=tq 14 (h:=tO 15 (h:=?_)));go_wp2_with fail;refine ⟨fun _=>AvW, ?_⟩;refine tO 16 (h:=?_);go_wp2_with fail;refine ⟨fun _=>AvW, ?_⟩;refine tq 17 (h:=tO 18 (h:=?_));go_wp2_with fail;refine ⟨fun h=>by simp at h, ?_⟩;refine tD (h:=?_);clear c3 c6 f3 f6 hmn;have p3:({ z with s:=s',Ag:=min z.Ag Y }:Am).s.kept.lines=g.2:=by show s'.kept.lines=_;rw [AnY.out]
     have Aui:=o9.out;have AzA:z.id<nn:=by have:=m8.out.ok.id;have e:z.BN.id=z.id:=rfl;have e2:z.BN.n=z.n:=rfl;omega
     have hcnt:=count_any h9.out.1 (by rw [p3];exact En.small x4.out om) (by rw [p3];exact x4.out.n) (by rw [List.length_replicate];omega) (by rw [List.length_replicate];omega) (by rw [List.length_replicate];exact AzA) (fun x hx=>by rw [List.eq_of_mem_replicate hx];omega) (by show min z.Ag Y<=256;omega);have Aey:=ae hcnt;clear hcnt p3;go_wp2_with fail;refine Aey.out.mono ?_;rintro e w10 ⟨v10,o10,rfl,q3,rfl,r,x5,s8⟩;obtain ⟨s7,st9,o2,q1,x6,ob9,be9⟩:=h9.out;have n4:¬ ak (M+4) 0:=fun h=>by unfold ak at h;omega
     have q2:¬ ak (M+4) X:=fun h=>by have:=j8.out.1;unfold ak at h;omega
     have x7:=(q3.block J (au o2) (by rw [q1];exact n4)).trans o2;have x8:=(q3.block bb (au x6) (by rw [ob9];exact q2)).trans x6;have Awy:=be9.step q3 n4;obtain ⟨-, -,⟨mb2,cap2,x9, -⟩, -⟩:=id s8;have y0:=LH (s8.node x5) (by rw [show (({ z with s:=s',Ag:=min z.Ag Y }:Am).count mine (List.replicate nn (-1)) Y false).n=z.n from (Am.NV _ _ _ _ _).1,Aui];exact m5) 200 #[.pointer (some ⟨J,0,none⟩), .pointer (some ⟨bb,0,none⟩)] (fun _=>⟨4,mine,0,0,0,g.2⟩) Tryz.call200 (fun w1 o1 hs i _ _=>YP i ((hs.block _ (au x7) id).trans x7) ((hs.block _ (au x9) id).trans x9) ((hs.block _ (au x8) id).trans x8) (Awy.step hs id)) (fun i _ _=>Aj.KO z4.1 z4.2 x4.out);rw [Ov (a:=(({ z with s:=s',Ag:=min z.Ag Y }:Am).count mine (List.replicate nn (-1)) Y false).BN) (b:=z.BN) (Am.NV _ _ _ _ _).1 (Am.NV _ _ _ _ _).2] at y0;have AhS:=ae y0;have h10:=ae (aI (st9.trans (q3.mono (fun k h=>by cases h;exact KC.own))) (s8.node x5));clear s7 st9 o2 q1 x6 ob9 be9 n4 q2 x7 x8 Awy x9 y0 q3 x5 s8 Aey;go_wp2_with fail;refine AhS.out.mono ?_;rintro e w11 ⟨v11,o11,rfl,z1,z2⟩;have hF:=ae (aI (h10.out.1.trans (z1.mono (fun _ h=>h.elim))) (aI z2 (h10.out.2.step0 z1)));obtain ⟨xa,xc,rfl⟩:=z2.form;clear z1 z2 AhS;go_wp2_with fail;go_ret;refine ⟨_,o11,rfl,hF.out.1, ?_, ?_⟩
     ·rw [<-KI.out];exact hF.out.2.1
     ·obtain ⟨-, -, -, -, -, -, -, -, -, -, -, -,b6, -⟩:=n6.out;rw [<-KI.out];have h:=hF.out.2.2;rw [<-b6, <-Aui] at h;exact h
theorem OZ:((prog.info? 37).bind (·.zero)).map (·.cells)=some #[.int .u64 0, .int .u64 0, .slice none 0 0]:=by kernel_rfl
theorem Uz:(prog.info? 37).map (·.size)=some 3:=by kernel_rfl
def BR (p c:BitVec 64) (lv:Value):List Value:=[.int .u64 (p.toNat:Int), .int .u64 (c.toNat:Int),lv]
theorem MX (w:World) (p c:BitVec 64) (q:Option Addr) (r u:Nat) :
  (Instr.storeAt 37 (.pointer (some ⟨w.heap.size,0,none⟩)) (Dy p c (.slice q r u))).run prog (w.alloc (.cells #[.int .u64 0, .int .u64 0, .slice none 0 0] 37)) = .ok () (w.alloc (.cells (BR p c (.slice q r u)).toArray 37)):=by
 have h:=(Ba (P:=prog) (ty:=37) (vs:=BR p c (.slice q r u)) (heap_alloc_new w (.cells [Value.int .u64 0, .int .u64 0, .slice none 0 0].toArray 37)) rfl Uz rfl).1;rw [Be w [Value.int .u64 0, .int .u64 0, .slice none 0 0].toArray 37 (BR p c (.slice q r u)) rfl] at h;exact h
theorem WI {w:World}{o:Own}{r:Nat}{e:BitVec 64}(i:Nat) (hb:w.heap[r]?=some (.cells [Value.int .u64 (e.toNat:Int)].toArray 34 (0,0))) :
  Calls prog 139 #[.int .i64 (i:Int), .pointer (some ⟨r,0,none⟩)] w (XL ai w o fun v w' o'=>∃ lv,v=Ea ⟨1,e,0,0,0,[]⟩ lv/\Lines w' o' 0 lv []):=by
 have E:=ae (AB (P:=prog) w 150 _ Oa);have q:=KN w ⟨1,e,0,0,0,[]⟩ none 0 0;have u:=(aj.refl ai w o).alloc (.cells DI.toArray 150) (0,0);have c1:=ag ((u.block _ (au hb) id).trans hb) 0;simp only [ay] at c1;unfold DI at q c1;have F:=ae (heap_alloc_new w (.cells (Bf ⟨1,e,0,0,0,[]⟩ (.slice none 0 0)).toArray 150));have J:=ae ((aj.refl ai w o).alloc (.cells (Bf ⟨1,e,0,0,0,[]⟩ (.slice none 0 0)).toArray 150) (0,0));have O:=ae q;clear q u hb;unfold Ea;go_enter func139,ntmps139
 go_wp2_with (first
  | ((with_reducible apply AU);exact E.out;simp only [Act.put,GL,DL,lss])
  | ((with_reducible apply AC);exact O.out;simp only [Act.put]))
 refine bodyPost_ret (results_cell_row rfl _ _ w.heap.size 150 _ (0,0) _ rfl F.out underlying150 rfl FT) rfl ?_;exact ⟨_,_,rfl,J.out,_,rfl,Lines.nil _ _ _⟩
theorem QF (w:World):(Instr.makeMap 204 none).run prog w = .ok (.map (some w.heap.size)) (w.alloc (.map (Bd 0 []).toArray 0)):=by
 simp only [Instr.makeMap,Sem.run_bind];rfl
theorem dZ {w:World}{o:Own}{Z mb id n:Nat}{c:BitVec 64}{lv:Value}{ls:List Ar}(r:w.heap[mb]?=some (.map (Bd 0 [(id,c,lv)]).toArray 1)) (u:o mb=(Z,2)) (E:id<n) (hl:Lines w o 0 lv ls) :
  OE w o Z mb ((List.replicate n none).set id (some (c,ls))):=by
 refine ⟨[(id,c,lv)],r,u,by simp,fun x q => ?_,fun i p hp => ?_⟩
 ·simp only [List.mem_singleton] at q;subst q;exact ⟨ls,by simp [E],hl⟩
 ·refine ⟨_,List.mem_singleton_self _, ?_⟩
  by_cases h:id=i
  ·exact h
  ·rw [List.getElem?_set_ne h,List.getElem?_replicate] at hp;split at hp <;> simp at hp
theorem Am.NP.stands {K B:Nat}{z:Am}(h:Am.NP K B z) {e:BitVec 64}{r:AZ}(J:SP (K+3) r) (h0:(z.s.kept.CQ e).2=0) (u:r.kept=(z.s.kept.CQ e).1) (O:1<=e.toNat) (w:Nat) :
  Am.NP (K+3) B { z with s:=r,BB := .stands e ((List.replicate z.n none).set z.id (some (z.s.kept.current,z.s.kept.lines))),waited:=w }:=by
 have E:=GM h0;obtain ⟨W,F⟩:=Jf h0;have q:=h.ok;have Y:z.s.kept.current.toNat<=z.s.kept.promised.toNat:=q.cp;have U:z.id<z.n:=q.id;refine ⟨J,⟨⟨q.n1,q.n3,q.id, ?_, ?_, ?_,q.se, ?_⟩,⟨O,F⟩, ?_, ?_, ?_⟩⟩
 ·show En B r.kept.lines;rw [u,E];exact q.ls
 ·show r.kept.current.toNat<=r.kept.promised.toNat;rw [u,E];show z.s.kept.current.toNat<=e.toNat;omega
 ·show r.kept.promised.toNat<=_;rw [u,E];exact F
 ·show z.Ag<=r.kept.lines.length;rw [u,E];exact q.co
 ·simp;rfl
 ·show ∃ p,((List.replicate z.n none).set z.id (some (z.s.kept.current,z.s.kept.lines)))[z.id]?=some (some p);exact ⟨(z.s.kept.current,z.s.kept.lines),by simp [U]⟩
 ·intro p hp
  rcases List.mem_or_eq_of_mem_set hp with h | h
  ·have:=List.eq_of_mem_replicate h
   cases this
  ·cases h;exact q.ls
theorem Am.Xg {z:Am}{e:BitVec 64}{x:DT}(q:z.id<z.n):(z.lead e ((List.replicate z.n none).set z.id (some x))).2=[]:=by
 have r:(((List.replicate z.n (none:Option DT)).set z.id (some x)).filter Option.isSome).length=1:=by
  have u:∀ (n i:Nat),i<n->(((List.replicate n (none:Option DT)).set i (some x)).filter Option.isSome).length=1:=by
   intro n
   induction n with
   | zero=>intro i h;omega
   | succ n E =>
    intro i h
    cases i with
    | zero=>simp [List.replicate_succ]
    | succ i =>
     rw [List.replicate_succ,lss]
     simpa using E i om
  exact u _ _ q
 unfold Am.lead;rw [r];split
 ·rfl
 ·rename_i h2;have hn:z.n=1:=om
  have F:z.id=0:=om
  split
  ·rfl
  ·split
   ·show Aj.others _ _=[];unfold Aj.others;show ((List.range z.n).filter fun i=>i != z.id).map _=[];rw [hn,F];rfl
   ·rfl
theorem OJ {w:World}{o:Own}{v:Value}{ts:List (Nat × List UInt8)}(h:Dn w o v ts) (r:ts.length<=1000) {a':Option Addr}{c':Nat} :
  (Builtin.append_ #[99,99] 99 #[v, .slice a' 0 c']).run prog w = .ok v w:=by
 obtain ⟨u,q, -⟩:=h
 rcases q with ⟨⟨a,c,rfl⟩,h0, -⟩ | ⟨b,off,cap,rfl,hl,E, -⟩
 ·exact CB w 99 99 146 2 underlying99 SH a a' 0 c c' om om
 ·exact CB w 99 99 146 2 underlying99 SH _ a' ts.length cap c' om om

end Go.Proofs.YtffkdillijmamaaGreat
