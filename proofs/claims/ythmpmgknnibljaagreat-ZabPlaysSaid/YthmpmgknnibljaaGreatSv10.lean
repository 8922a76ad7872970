/- Contracts of zab: tell, refuse, ack, others; what is told, as it lies in memory. -/
import Derived.Test.YthmpmgknnibljaaGreatSv9
namespace Go.Proofs.YthmpmgknnibljaaGreat
open Go.Proofs.Tryz
set_option maxRecDepth 100000
set_option maxHeartbeats 6400000
open Go Go.RowKit
attribute [local go_sem ↓] Go.wp_at_zero Go.wp_at_succ
variable {cs:List Value} {ts:List (Nat × List UInt8)} {bv lv v:Value} {D M base pd ps pz to:Nat} {b:List UInt8} {w w':World} {o:Own} {t:Nat × Nat} {z:Am} {ls:List Ar} {e:BitVec 64}
def Ed (t:DX):List (Nat × List UInt8):=t.map fun x=>(x.1,x.2.put)
def Ja (w:World) (o:Own) (cs:List Value) (ts:List (Nat × List UInt8)):Prop:=
 cs.length=2*ts.length/\∀ i x,ts[i]?=some x->cs[2*i]?=some (x.1:aV)/\∃ bv,cs[2*i+1]?=some bv/\Bytes w o bv x.2
def Dn (w:World) (o:Own) (v:Value) (ts:List (Nat × List UInt8)):Prop:=∃ cs,sH w o v ts.length cs/\Ja w o cs ts
section
variable {T:Nat->Prop} {w w':World} {o o':Own}
theorem Ja.step (h:Ja w o cs ts) (s:aj T w o w' o') (hT:¬ T 0):Ja w' o' cs ts:=
 ⟨h.1,fun i x hx=>by obtain ⟨a,bv,b,c⟩:=h.2 i x hx;exact ⟨a,bv,b,c.step s hT⟩⟩
theorem Ja.nil (w:World) (o:Own):Ja w o [] []:=⟨rfl,fun i x hx=>by simp at hx⟩
theorem Ja.append {c1 c2:List Value} {l1 l2:List (Nat × List UInt8)} (h1:Ja w o c1 l1) (h2:Ja w o c2 l2):Ja w o (c1++c2) (l1++l2):=by
 refine ⟨by rw [List.length_append,List.length_append,h1.1,h2.1];omega,fun i x hx => ?_⟩
 by_cases hi:i<l1.length
 ·rw [List.getElem?_append_left hi] at hx;obtain ⟨a,bv,b,c⟩:=h1.2 i x hx;exact ⟨by rw [List.getElem?_append_left (by rw [h1.1];omega)];exact a,bv,by rw [List.getElem?_append_left (by rw [h1.1];omega)];exact b,c⟩
 ·rw [List.getElem?_append_right aP] at hx;obtain ⟨a,bv,b,c⟩:=h2.2 _ x hx;refine ⟨?_,bv, ?_,c⟩
  ·rw [List.getElem?_append_right (by rw [h1.1];omega),h1.1,show 2*i - 2*l1.length=2*(i - l1.length) by omega];exact a
  ·rw [List.getElem?_append_right (by rw [h1.1];omega),h1.1,show 2*i+1 - 2*l1.length=2*(i - l1.length)+1 by omega];exact b
theorem Ja.single (h:Bytes w o bv b):Ja w o [(to:aV),bv] [(to,b)]:=by
 refine ⟨rfl,fun i x hx => ?_⟩
 match i,hx with
 | 0,hx =>
  simp only [ay,Option.some.injEq] at hx;subst hx;exact ⟨rfl,bv,rfl,h⟩
 | i+1,hx=>simp at hx
theorem Ja.one (h:Ja w o cs ts):∀ u ∈ cs,u.oneCell'=true:=by
 intro u hu;obtain ⟨i,hi⟩:=List.mem_iff_getElem?.1 hu;have hl:i<cs.length:=(List.getElem?_eq_some_iff.1 hi).1;have hj:i / 2<ts.length:=by have:=h.1;omega
 obtain ⟨a,bv,b,c⟩:=h.2 (i / 2) _ (List.getElem?_eq_getElem hj)
 by_cases he:i % 2=0
 ·rw [show 2*(i / 2)=i by omega,hi] at a
  cases a;rfl
 ·rw [show 2*(i / 2)+1=i by omega,hi] at b
  cases b
  obtain ⟨x,y,rfl⟩:=Aq c;rfl
theorem Dn.step (h:Dn w o v ts) (s:aj T w o w' o') (hT:¬ T 0):Dn w' o' v ts:=by
 obtain ⟨cs,h1,h2⟩:=h;exact ⟨cs,sH.step h1 s hT,h2.step s hT⟩
theorem Dn.nil (w:World) (o:Own):Dn w o (.slice none 0 0) []:=⟨[], .inl ⟨⟨_,_,rfl⟩,rfl,rfl⟩,Ja.nil w o⟩
theorem Dn.form (h:Dn w o v ts):∃ a c,v = .slice a ts.length c:=by
 obtain ⟨cs,h1, -⟩:=h;exact Aq h1
end
def YC (to:Nat) (bv:Value):Value := .agg #[(to:aV),bv]
theorem AsA:((prog.info? 61).bind (·.zero)).map (·.cells)=some #[.int .i64 0, .slice none 0 0]:=bf
theorem fK:(prog.info? 61).map (fun i=>(i.zero.map (fun z=>z.cells.toList),i.size,i.bytes))=some (some [.int .i64 0, .slice none 0 0],2,32):=bf
theorem SH:(prog.info? 61).map (·.size)=some 2:=bf
theorem Nq (w:World) (to:Int) (bv:Value):(Instr.buildSlice 49 1 #[(0, .agg #[.int .i64 to,bv])]).run prog w = .ok (.slice w.heap.size 1 1) (w.alloc (.cells [.int .i64 to,bv].toArray 61)):=
 Dv w 49 61 [.int .i64 0, .slice none 0 0] (.agg #[.int .i64 to,bv]) [.int .i64 to,bv] underlying49 bf rfl bu bu rfl
theorem PN (h:Bytes w o bv b) :
  Dn (w.alloc (.cells [(to:aV),bv].toArray 61)) (Ak o w.heap.size (0,0)) (.slice w.heap.size 1 1) [(to,b)]:=by
 have hs:=(aj.refl ai w o).alloc (.cells [(to:aV),bv].toArray 61) (0,0);refine ⟨[(to:aV),bv], .inr ⟨w.heap.size,0,1,rfl,bu,bz,by rw [Au],bu, ?_⟩,Ja.single (h.step hs id)⟩;exact AV (heap_alloc_new w _)
section
variable {w:World} {o:Own}
theorem LZ (m:BG) (hm:m.May) (hl:Lines w o base lv m.ls) (to:Nat) :
  Calls prog 87 #[(to:aV),Ea m lv] w (XL ai w o fun v w' o'=>∃ bv,v=YC to bv/\Bytes w' o' bv m.put):=by
 obtain ⟨la,lc,rfl⟩:=hl.form;obtain ⟨n,hn⟩:=az (m.ls.length);rw [hn] at hl ⊢;have s1:=(aj.refl ai w o).alloc (.cells [.int .u8 (m.k:Int), (m.e:aV), (m.c:aV), (m.at':aV), (m.com:aV), .slice la n lc].toArray 46) (0,0);have b1:=heap_alloc_new w (.cells [.int .u8 (m.k:Int), (m.e:aV), (m.c:aV), (m.at':aV), (m.com:aV), .slice la n lc].toArray 46);have z1:(w.alloc (.cells [.int .u8 (m.k:Int), (m.e:aV), (m.c:aV), (m.at':aV), (m.com:aV), .slice la n lc].toArray 46)).heap.size=w.heap.size+1:=bu
 obtain ⟨W1,hW1⟩:=az (w.alloc (.cells [.int .u8 (m.k:Int), (m.e:aV), (m.c:aV), (m.at':aV), (m.com:aV), .slice la n lc].toArray 46));rw [hW1] at s1 b1 z1;generalize Ak o w.heap.size (0,0)=o1 at *;have s2:=s1.alloc (.cells #[.int .i64 0, .slice none 0 0] 61) (0,0);have b2:(W1.alloc (.cells #[.int .i64 0, .slice none 0 0] 61)).heap[W1.heap.size]?=some (.cells [.int .i64 0, .slice none 0 0].toArray 61 (0,0)):=heap_alloc_new W1 _;have b12:=(Below.heap_alloc W1 (.cells #[.int .i64 0, .slice none 0 0] 61) w.heap.size aP).trans b1;have hal:=ae (AB (P:=prog) W1 61 _ AsA);obtain ⟨W2,hW2⟩:=az (W1.alloc (.cells #[.int .i64 0, .slice none 0 0] 61));rw [hW2] at hal s2 b2 b12;rw [z1] at b2 hal;generalize Ak o1 W1.heap.size (0,0)=o2 at *;have hld:=ae (Ip (AV b12) rfl);have hpt:=Ue m hm (lv := .slice la n lc) (hl.step s2 id);unfold Ea at hpt;have AlE:=ae hpt;have hs2:=ae s2;have hb2:=ae b2;rw [<-hW1] at hal;clear hl s1 b1 z1 hW1 hW2 s2 b2 b12 hpt;unfold Ea;go_enter func87,ntmps87
 go_wp2_with (first
  | ((with_reducible apply Bo);exact hld.out;simp only [Act.put,lsa,lsz,lss])
  | ((with_reducible apply AU);exact hal.out;simp only [Act.put,lsa,lsz,lss]))
 refine AlE.out.mono ?_;rintro e w3 ⟨v3,o3,rfl,hs3,bv,rfl,hnb⟩;have hb3:=hs3.di hb2.out id;have hby:=hnb.bytes;have h1c:[Value.int .i64 (to:Int),bv].all (·.oneCell')=true:=by obtain ⟨xa,xc,rfl⟩:=Aq hby;rfl
 obtain ⟨hso,hsb⟩:=Ba (P:=prog) (ty:=61) (vs:=[(to:aV),bv]) hb3 rfl bf h1c;have Aaz:=ae hso;have Acu:=ae hsb;have AaM:=(hs2.out.trans hs3).setCells (w.heap.size+1) 0 [(to:aV),bv] (.inr aP);have hset:=(aj.refl (ak 1) w3 (fun k=>if k=w.heap.size+1 then (1,0) else o3 k)).setCells (w.heap.size+1) 0 [(to:aV),bv] (.inl (by simp;rfl))
 have hF:=ae (aI AaM (show Bytes (w3.setCells (w.heap.size+1) 0 [(to:aV),bv]) o3 bv m.put from by
  rcases hby with h | ⟨b,off,cap,q1,q2,q3,q4,q5,q6⟩
  ·exact .inl h
  ·refine .inr ⟨b,off,cap,q1,q2,q3,q4,by rw [size_setCells];exact q5,Cf q6 (ah _ _ _ _ _ ?_)⟩;rintro rfl
   rcases hnb.1.2 with ⟨h1, -⟩ | ⟨g,cap',cur,h1, -,h2, -⟩
   ·rw [h1] at q1;cases q1
   ·rw [h1] at q1;simp only [Value.slice.injEq,Option.some.injEq,Addr.mk.injEq,and_true] at q1;obtain ⟨⟨rfl, -⟩, -⟩:=q1;rw [hb3] at h2
    cases h2))
 obtain ⟨xa,xc,rfl⟩:=Aq hby;clear hso hsb AaM hset AlE hs3 hb3 hnb hby
 go_wp2_with ((with_reducible apply AC);exact Aaz.out;simp only [Act.put])
 refine bodyPost_ret (results_cell_row rfl _ _ (w.heap.size+1) 61 _ (0,0) _ rfl Acu.out underlying61 rfl SH) rfl ?_;exact ⟨_,o3,rfl,hF.out.1,_,rfl,hF.out.2⟩
variable {D M pz ps pd:Nat} {z:Am}
theorem Lt (h:Bc w o D M pz ps pd z) (hsm:small z.s.kept.lines) (hp1:1<=z.s.kept.promised.toNat) (hp2:z.s.kept.promised.toNat<=281474976710656) (src:Nat) :
  Calls prog 158 #[.pointer pz, (src:aV)] w (XL ai w o fun v w' o'=>Dn w' o' v (Ed (z.BN.refuse src))):=by
 have he:=ae (RS h hsm);have hmay:=Aj.Jh hp1 hp2;clear h hsm hp1 hp2;go_enter func158,ntmps158;go_wp2_with fail;refine he.out.mono ?_;rintro e w1 ⟨v1,o1,rfl,hs1,rfl⟩;have ht:=LZ ⟨3,z.s.kept.promised,0,0,0,[]⟩ hmay (Lines.nil w1 o1 0) src;unfold Ea at ht;have htH:=ae ht;clear ht he;go_wp2_with fail;refine htH.out.mono ?_;rintro e w2 ⟨v2,o2,rfl,hs2,bv,rfl,hby⟩;have hbs:=ae (Nq w2 (src:Int) bv);have hF:=aa2 ((hs1.trans hs2).alloc (.cells [.int .i64 (src:Int),bv].toArray 61) (0,0)) (PN (to:=src) hby);obtain ⟨ba,bc,rfl⟩:=Aq hby;clear hs1 hs2 hby htH;unfold YC
 go_wp2_with ((with_reducible apply BO #[(0, .agg #[(src:aV), .slice ba _ bc])] rfl);exact hbs.out;simp only [Act.put,lsa,lsz,lss])
 go_ret;exact ⟨_,_,rfl,hF.out.1,hF.out.2⟩
theorem OY (h:Bc w o D M pz ps pd z) (hk:z.s.kept.lines.length<=256) (hsm:small z.s.kept.lines) (e:BitVec 64) (hp1:1<=e.toNat) (hp2:e.toNat<=281474976710656) (src:Nat) :
  Calls prog 159 #[.pointer pz, (src:aV), (e:aV)] w (XL ai w o fun v w' o'=>Dn w' o' v (Ed (z.BN.ack src e))):=by
 obtain ⟨-,rv,hb, -,hs⟩:=h;obtain ⟨⟨-, -,c2, -⟩, -⟩:=hb.cells;have hkp:=ae (DJ hs hsm);have hmay:=Aj.MO hp1 hp2 hk;have hu:z.BN.ack src e=[(src,⟨6,e,0,z.s.kept.lines.length,0,[]⟩)]:=rfl;have huH:=ae hu;clear hb hs hsm hp1 hp2 hu;go_enter func159,ntmps159;go_wp2_with fail;refine hkp.out.mono ?_;rintro e' w1 ⟨v1,o1,rfl,hs1,lv,rfl,hl,rfl⟩;obtain ⟨la,lc,rfl⟩:=hl.form;have ht:=LZ ⟨6,e,0,z.s.kept.lines.length,0,[]⟩ hmay (Lines.nil w1 (ext w o) 0) src;unfold Ea at ht;have htH:=ae ht;obtain ⟨n,hn⟩:=az (z.s.kept.lines.length);have hfk:=He w1 (z.s.kept.promised:aV) (z.s.kept.current:aV) (.slice la n lc);unfold Dy;rw [hn] at htH huH ⊢;have hnI:(0:Int)<=(n:Int)/\(n:Int)<=256:=aP
 clear ht hkp hl hn hmay;go_wp2_with fail;refine htH.out.mono ?_;rintro e' w2 ⟨v2,o2,rfl,hs2,bv,rfl,hby⟩;have hbs:=ae (Nq w2 (src:Int) bv);have hF:=aa2 ((hs1.trans hs2).alloc (.cells [.int .i64 (src:Int),bv].toArray 61) (0,0)) (PN (to:=src) hby);obtain ⟨ba,bc,rfl⟩:=Aq hby;clear hs1 hs2 hby htH;unfold YC
 go_wp2_with ((with_reducible apply BO #[(0, .agg #[(src:aV), .slice ba _ bc])] rfl);exact hbs.out;simp only [Act.put,lsa,lsz,lss])
 go_ret;exact ⟨_,_,rfl,hF.out.1,by rw [huH.out];exact hF.out.2⟩
end
def Nv (w:World) (o:Own) (base:Nat) (t:Nat × Nat) (v:Value) (ts:List (Nat × List UInt8)):Prop:=
 ∃ cs,w.ownsRow base 61 2 v ts.length cs/\(∀ g,v.ownBlock=some g->o g=t)/\Ja w o cs ts
theorem Nv.nil (w:World) (o:Own) (base:Nat) (t:Nat × Nat):Nv w o base t (.slice none 0 0) []:=⟨[],World.ownsRow_nil _ _ _ _,fun g hg=>by simp [Value.ownBlock] at hg,Ja.nil w o⟩
theorem Nv.step {T:Nat->Prop} {o':Own} (h:Nv w o base t v ts) (s:aj T w o w' o') (ht:¬ T t.1) (h0:¬ T 0):Nv w' o' base t v ts:=by
 obtain ⟨cs,h1,h2,h3⟩:=h;exact ⟨cs,Ci h1 fun k hk=>s.block k (h1.lt k hk).2 (by rw [h2 k hk];exact ht),fun g hg=>by rw [s.own g (h1.lt g hg).2];exact h2 g hg,h3.step s h0⟩
theorem Nv.form (h:Nv w o base t v ts):∃ a c,v = .slice a ts.length c:=by
 obtain ⟨cs,h1, -⟩:=h;exact BA h1
theorem Bytes.ext {oj:Own} {l:List UInt8} (h:Bytes w' oj v l) (s:aj ai w o w' oj):Bytes w' (ext w o) v l:=by
 rcases h with h | ⟨b,off,cap,q1,q2,q3,q4,q5,q6⟩
 ·exact .inl h
 ·refine .inr ⟨b,off,cap,q1,q2,q3, ?_,q5,q6⟩;unfold Go.Proofs.YthmpmgknnibljaaGreat.ext;split
  ·rename_i hb;rw [<-s.own b hb];exact q4
  ·rfl
theorem Nv.outs {oj:Own} (h:Nv w' oj w.heap.size t v ts) (s:aj ai w o w' oj):Dn w' (ext w o) v ts:=by
 obtain ⟨cs,h1, -,h3⟩:=h;refine ⟨cs, ?_,h3.1,fun i x hx => ?_⟩
 ·rcases h1.2 with ⟨rfl,h0⟩ | ⟨g,cap,cur,rfl,q1,q2,q3,q4,q5,q6⟩
  ·refine .inl ⟨⟨none,0,rfl⟩,h0, ?_⟩;apply List.eq_nil_of_length_eq_zero;rw [h1.1,h0]
  ·refine .inr ⟨g,0,cap,rfl,q3,q4, ?_,au q2, ?_⟩
   ·unfold Go.Proofs.YthmpmgknnibljaaGreat.ext;rw [if_neg aP]
   ·have:=BU (w:=w') (b:=g) (cs:=cur.toList) (E:=61) (fr:=(0,0)) (by simpa using q2) 0 (ts.length*2);rw [List.drop_zero,q6] at this;exact this
 ·obtain ⟨a,bv,b,c⟩:=h3.2 i x hx;exact ⟨a,bv,b,c.ext s⟩
theorem Nv.append {W:World} {X:Nat} (h:Nv W o base (X,0) v ts) (hX:X ≠ 0) (hbase:base<=W.heap.size) {sb:Nat} (hr:W.rangeAt sb 0 [(to:aV),bv]) (hb:Bytes W o bv b) (hn:ts.length<=1000) :
  ∃ nv w' o',(Builtin.append_ #[49,49] 49 #[v, .slice sb 1 1]).run prog W = .ok nv w'/\Nv w' o' base (X,0) nv (ts++[(to,b)])/\aj (ak X) W o w' o':=by
 obtain ⟨cs,h1,ht,h3⟩:=h;have h2:Ja W o [(to:aV),bv] [(to,b)]:=Ja.single hb;obtain ⟨g,cap,w',hrun,hown,hgrow,hat,hlt⟩:=DD (P:=prog) W 49 49 61 underlying49 fK rfl aP hbase v ts.length cs h1 sb 0 1 1 [(to:aV),bv] rfl hr h2.one aP aP aP;have hs:aj (ak X) W o w' (Ak o g (X,0)):=(aj.refl (ak X) W o).grown hgrow (fun k hk => .inl (by show (o k).1=X;rw [ht k hk])) g (X,0) (by
  rcases hat with hat | hat
  ·exact .inl (ht g hat)
  ·exact .inr aP)
 have h0:¬ ak X 0:=fun h=>hX h.symm;refine ⟨_,w',_,hrun,⟨cs++[(to:aV),bv],by rw [List.length_append];exact hown,fun k hk => ?_,(h3.append h2).step hs h0⟩,hs⟩;simp only [Value.ownBlock,Option.some.injEq] at hk;subst hk;exact Au _ _ _
def GX (id:Nat) (f:Nat->BG) (k:Nat):List (Nat × List UInt8):=Ed (((List.range k).filter fun i=>i != id).map fun i=>(i,f i))
theorem AhB (id:Nat) (f:Nat->BG) (k:Nat):GX id f (k+1)=if k=id then GX id f k else GX id f k++[(k,(f k).put)]:=by
 unfold GX Ed;rw [List.range_succ,List.filter_append,List.map_append,List.map_append]
 by_cases h:k=id
 ·rw [if_pos h];subst h;simp
 ·rw [if_neg h];have:(k != id)=true:=by simp [h]
  simp [this]
theorem WB (id:Nat) (f:Nat->BG) (k:Nat):(GX id f k).length<=k:=by
 unfold GX Ed;rw [List.length_map,List.length_map];have:=List.length_filter_le (fun i=>i != id) (List.range k);rw [List.length_range] at this;exact this
theorem LH (h:Bc w o D M pz ps pd z) (hn3:z.n<=3) (fid:Nat) (cp:Array Value) (f:Nat->BG)
  (hcall:∀ (args:Array Value) (x:World),(callFunc fid args).run prog x = .ok (.enter fid args) x)
  (hs:∀ w1 o1,aj ai w o w1 o1->∀ i,i<z.n->i ≠ z.id->Calls prog fid (#[(i:aV)]++cp) w1 (XL ai w1 o1 fun v w2 o2=>∃ lv,v=Ea (f i) lv/\Lines w2 o2 0 lv (f i).ls))
  (hmay:∀ i,i<z.n->i ≠ z.id->(f i).May) :
  Calls prog 44 #[.pointer pz, .func (.func fid) #[] cp] w (XL ai w o fun v w' o'=>Dn w' o' v (Ed (z.BN.others f))):=by
 obtain ⟨X,hX0,hXf⟩:=KT o w.heap.size 0;have hX:X ≠ 0:=aP
 obtain ⟨-,rv,hb, -, -⟩:=h;obtain ⟨⟨-,c1, -⟩, -⟩:=hb.cells;have hfin:Ed (z.BN.others f)=GX z.id f z.n:=rfl;rw [hfin];have xZ:=ae hb;have hsH:=ae hs;have pO:=ae hmay;have hcH:=ae hcall;have AvJ:=ae hXf;generalize hN:z.n=N at *;generalize hI:z.id=I at *;have hN3:(0:Int)<=(N:Int)/\(N:Int)<=3:=aP
 have hIH:=ae hI;have Aac:=ae hfin;clear hb hs hmay hcall hXf hN hI hX0 hfin;go_enter func44,ntmps44;go_wp2_with fail;clear c1
 go_loopw [5,11] (fun out i wr=>∃ (k:Nat) (oj:Own),k<=N/\i = .int .i64 k/\aj ai w o wr oj/\Nv wr oj w.heap.size (X,0) out (GX I f k)) (fun _ i _=>N - (intOf i).toNat)
 case atStart=>exact ⟨0,o,aP,rfl,aj.refl _ _ _,Nv.nil _ _ _ _⟩
 case round =>
  obtain ⟨k,oj,hk,rfl,hst,hrow⟩:=hrel
  by_cases hlt:k<N
  ·have AbY:(k:Int)<(N:Int):=aP
   have hbx:=xZ.out.step hst id;obtain ⟨⟨c0, -⟩, -⟩:=hbx.cells;rw [hIH.out] at c0;have pM:=ae hrow;have Abe:=ae hst;have Att:=ae (AhB I f k);have hlen:=ae (WB I f k);clear hbx hrow hst
   by_cases hki:k=I
   ·subst hki;have hx:=ae (show GX k f (k+1)=GX k f k by rw [Att.out,if_pos rfl]);go_wp2_with fail;go_roundw
    case rel=>exact ⟨k+1,oj,aP,by go_num,Abe.out,by rw [hx.out];exact pM.out⟩
    case measure=>simp [intOf];omega
   ·have hx:=ae (show GX I f (k+1)=GX I f k++[(k,(f k).put)] by rw [Att.out,if_neg hki]);have AnX:((k:Int) == (I:Int))=false:=by simp;omega
    have hf:=ae (hsH.out wr oj Abe.out k hlt hki);have hmk:=ae (pO.out k hlt hki);have hck:=hcH.out;obtain ⟨ra,rc,rfl⟩:=pM.out.form;clear hki;go_wp2_with fail;refine hf.out.mono ?_;rintro e w1 ⟨v1,o1,rfl,hs1,lv,rfl,hl⟩;have ht:=ae (LZ (f k) hmk.out hl k);have hst1:=ae (Abe.out.trans hs1);have hrow1:=ae (pM.out.step hs1 id id);clear hs1 hl hf hck;go_wp2_with fail;refine ht.out.mono ?_;rintro e w2 ⟨v2,o2,rfl,hs2,bv,rfl,hby⟩;have hst2:=hst1.out.trans hs2;have hrow2:=hrow1.out.step hs2 id id;have hbs:(Instr.buildSlice 49 1 #[(0,YC k bv)]).run prog w2 = .ok (.slice (some ⟨w2.heap.size,0,none⟩) 1 1) (w2.alloc (.cells [.int .i64 (k:Int),bv].toArray 61)):=Nq w2 (k:Int) bv;have AaP:=ae hbs;have hsa:=(aj.refl ai w2 o2).alloc (.cells [.int .i64 (k:Int),bv].toArray 61) (0,0);have hnb:=heap_alloc_new w2 (.cells [.int .i64 (k:Int),bv].toArray 61);have hst3:=hst2.trans hsa;obtain ⟨nv,w5,o5,hrun,tK,hs5⟩:=(hrow2.step hsa id id).append hX (Nat.le_trans hst2.size hsa.size) (AV hnb) (to:=k) (hby.step hsa id) (by have:=hlen.out;omega);have Aax:=ae hrun;have AaM:aj ai w o w5 o5:=((hst3.only X).trans hs5).nobody AvJ.out;have hF:=aa2 AaM (hx.out ▸ tK);obtain ⟨na,nc,rfl⟩:=tK.form;clear hbs hsa hnb hst3 hst2 hrow2 hrun tK hs5 hs2 AaM hby ht hst1 hrow1
    go_wp2_with (first
     | ((with_reducible apply BO #[(0,YC k bv)] rfl);exact AaP.out;simp only [Act.put,lsa,lsz,lss])
     | ((with_reducible apply Bl);exact Aax.out;simp only [Act.put,lsa,lsz,lss]))
    go_roundw
    case rel=>exact ⟨k+1,o5,aP,by go_num,hF.out.1,hF.out.2⟩
    case measure=>simp [intOf];omega
  ·obtain rfl:N=k:=aP
   have hF:=aa2 (hst.Me (ext w o) (fun k hk=>if_pos hk)) (hrow.outs hst);obtain ⟨ra,rc,rfl⟩:=hrow.form;clear hst hrow;go_wp2_with fail;go_ret;exact ⟨_,_,rfl,hF.out.1,hF.out.2⟩
theorem Po (w:World):(sizeOf (prog.elem 32)).run prog w = .ok 2 w:=by
 have:prog.elem 32=36:=bf
 rw [this];have h5:(prog.info? 36).map (·.size)=some 2:=bf
 cases hq:prog.info? 36 with
 | none=>simp [hq] at h5
 | some i=>simp [hq] at h5;simp [sizeOf,typeInfo,hq,h5]
theorem sW.drop (h:sW w o cs ls) (n:Nat):sW w o (cs.drop (n*2)) (ls.drop n):=by
 refine ⟨by rw [List.length_drop,List.length_drop,h.1];omega,fun i x hx => ?_⟩;rw [List.getElem?_drop] at hx;obtain ⟨a,bv,b,c⟩:=h.2 (n+i) x hx;exact ⟨by rw [List.getElem?_drop,show n*2+2*i=2*(n+i) by omega];exact a,bv,by rw [List.getElem?_drop,show n*2+(2*i+1)=2*(n+i)+1 by omega];exact b,c⟩
theorem sW.take (h:sW w o cs ls) (n:Nat):sW w o (cs.take (n*2)) (ls.take n):=by
 refine ⟨by rw [List.length_take,List.length_take,h.1];omega,fun i x hx => ?_⟩;rw [List.getElem?_take] at hx;split at hx
 ·rename_i hi;obtain ⟨a,bv,b,c⟩:=h.2 i x hx;exact ⟨by rw [List.getElem?_take,if_pos aP];exact a,bv,by rw [List.getElem?_take,if_pos aP];exact b,c⟩
 ·cases hx
theorem CV.slice {a:Option Addr} {n c n' c':Nat} (h:CV base (.slice a n c)) (off:Nat) (b:Nat) (ha:∀ x,a=some x->x.block=b) (hs:a.isSome=true):CV base (.slice (some (aW b off)) n' c'):=by
 intro k hk
 cases a with
 | none=>simp at hs
 | some x =>
  have:=ha x rfl;simp only [Value.ownBlock,Option.some.injEq] at hk;subst hk;exact h b (by simp [Value.ownBlock,this])
theorem TI (h:Lines w o base lv ls) (n:Nat) (hn:n<=ls.length) :
  ∃ v,(Instr.sliceAt 32 lv none (some (n:aV)) none).run prog w = .ok v w/\Lines w o base v (ls.take n):=by
 have hu:prog.underlying 32=some (.slice (prog.elem 32)):=bf
 have hsz:=Po w;have hlt:(ls.take n).length=n:=by rw [List.length_take];omega
 obtain ⟨cs,h1,h2,h3,h4⟩:=h
 rcases h1 with ⟨⟨a,c,rfl⟩,h0,hcs⟩ | ⟨b,off,cap,rfl,hl,hm,ho,hb,hr⟩
 ·have hn0:n=0:=aP
  subst hn0;refine ⟨_,by rw [run_sliceAt_slice _ _ _ _ _ _ hu,run_slice_h w 32 a 0 c hu .i64 ((0:Nat):Int) aP aP,hsz];rfl,[], .inl ⟨⟨_,_,rfl⟩,bu,rfl⟩,by simpa using sW.nil w o, ?_,bu⟩;intro k hk;simp only [Option.map,Nat.zero_mul] at hk
  cases a with
  | none=>simp [Value.ownBlock] at hk
  | some x=>exact h3 k (by simpa [Value.ownBlock,Addr.add] using hk)
 ·refine ⟨.slice (some (aW b off)) n cap, ?_,cs.take (n*2), ?_,h2.take n, ?_,fun u hu=>h4 u (List.mem_of_mem_take hu)⟩
  ·rw [run_sliceAt_slice _ _ _ _ _ _ hu,run_slice_h w 32 _ ls.length cap hu .i64 n aP aP,hsz];simp only [Result.andThen_ok,sliced,Int.toNat_natCast,Nat.sub_zero,Option.map_some,addr_add,Nat.zero_mul,Nat.add_zero];split
   ·rename_i hc0;simp
   ·rfl
  ·by_cases hn0:n=0
   ·subst hn0;exact .inl ⟨⟨_,_,rfl⟩,bu,bu⟩
   ·refine .inr ⟨b,off,cap,by rw [hlt],by rw [hlt];omega,hm,ho,hb, ?_⟩;have:=ER hr 0 (n*2)
    simpa using this
  ·exact h3.slice off b (fun x hx=>by cases hx;rfl) rfl
theorem AfO (h:Lines w o base lv ls) (n:Nat) (hn:n<=ls.length) :
  ∃ v,(Instr.sliceAt 32 lv (some (n:aV)) none none).run prog w = .ok v w/\Lines w o base v (ls.drop n):=by
 have hu:prog.underlying 32=some (.slice (prog.elem 32)):=bf
 have hsz:=Po w;have hlt:(ls.drop n).length=ls.length - n:=by rw [List.length_drop]
 obtain ⟨cs,h1,h2,h3,h4⟩:=h
 rcases h1 with ⟨⟨a,c,rfl⟩,h0,hcs⟩ | ⟨b,off,cap,rfl,hl,hm,ho,hb,hr⟩
 ·have hn0:n=0:=aP
  subst hn0;refine ⟨_,by rw [run_sliceAt_slice _ _ _ _ _ _ hu,run_slice_l w 32 a 0 c hu .i64 ((0:Nat):Int) aP aP,hsz];rfl,[], .inl ⟨⟨_,_,rfl⟩,by simp [h0],rfl⟩,by rw [List.drop_zero,List.eq_nil_of_length_eq_zero h0];exact sW.nil w o, ?_,bu⟩;intro k hk
  cases a with
  | none=>simp [Value.ownBlock] at hk
  | some x=>exact h3 k (by revert hk;simp [Value.ownBlock,Addr.add])
 ·refine ⟨_,by rw [run_sliceAt_slice _ _ _ _ _ _ hu,run_slice_l w 32 _ ls.length cap hu .i64 n aP aP,hsz];rfl,cs.drop (n*2), ?_,h2.drop n, ?_,fun u hu=>h4 u (List.mem_of_mem_drop hu)⟩
  ·simp only [sliced,Int.toNat_natCast,Option.map_some,addr_add]
   by_cases hne:n=ls.length
   ·refine .inl ⟨⟨_,cap - n,by rw [hne,Nat.sub_self]⟩,by rw [hlt];omega, ?_⟩;apply List.eq_nil_of_length_eq_zero;rw [List.length_drop,h2.1];omega
   ·rw [if_neg aP];refine .inr ⟨b,off+n*2,cap - n,by rw [hlt],by rw [hlt];omega,aP,ho,hb, ?_⟩;have:=ER hr (n*2) (cs.length - n*2);rw [List.take_of_length_le (by rw [List.length_drop];exact Nat.le_refl _)] at this;exact this
  ·intro k hk;have hb3:=h3 b (by simp [Value.ownBlock])
   revert hk
   simp only [sliced,Int.toNat_natCast,Option.map_some,addr_add];split <;> (simp only [Value.ownBlock,Option.some.injEq];rintro rfl;exact hb3)
section
variable {w:World} {o:Own} {D M pz ps pd:Nat} {z:Am}
theorem FD (h:Bc w o D M pz ps pd z):Calls prog 146 #[.pointer pz] w (XL (ak (M+4)) w o fun v w' o'=>v = .tuple #[]/\Bc w' o' D M pz ps pd z.follow):=by
 obtain ⟨hDM,rv,hb,hr,hs⟩:=h;have hf:=hb.cells.2.1;have b1:=Ai (i:=3) (.iface 115 (.agg #[])) hb.1;have b2:=Ai (i:=4) (.int .i64 0) b1;have st:=((aj.refl (ak (M+4)) w o).setCell (a:=(aW pz 3)) (.iface 115 (.agg #[])) (.inl (by show (o pz).1=M+4;rw [hb.2]))).setCell (a:=(aW pz 4)) (.int .i64 0) (.inl (by show (o pz).1=M+4;rw [hb.2]));have hF:=aa2 st (show Bc _ _ D M pz ps pd z.follow from ⟨hDM,_,⟨b2,hb.2⟩,rfl,hs.step st (InN.self hDM.1)⟩);have f3:=hf 3;have f4:=hf 4;obtain ⟨⟨-, -, -,c3,c4, -⟩, -⟩:=hb.cells;clear hb hr hs b1 b2 st hf;go_enter func146,ntmps146;go_wp2_with fail
 go_end0
 exact ⟨_,o,rfl,hF.out.1,rfl,hF.out.2⟩
theorem QU (h:Bc w o D M pz ps pd z) (hsm:small z.s.kept.lines) (hc:z.Ag<=z.s.kept.lines.length) :
  Calls prog 15 #[.pointer pz] w (XL ai w o fun v w' o'=>Lines w' o' w.heap.size v (z.s.kept.lines.take z.Ag)):=by
 obtain ⟨-,rv,hb,hr,hs⟩:=h;have hkp:=ae (DJ (w:=w.drew) hs hsm);have hdr:aj ai w o w.drew o:=(aj.refl ai w o).drew;obtain ⟨⟨-, -,c2, -, -, -,c6⟩, -⟩:=(hb.step hdr id).cells;have hS:=aI c2 c6;have xZ:=ae (hb.step hdr id);clear hb hr hs c2 c6;go_enter func15,ntmps15;go_wp2_with fail;refine Aa (fun w'=>w'.cell? (aW pz 2)=some (.pointer ps)/\w'.cell? (aW pz 6)=some (z.Ag:aV)) (fun _=>true) bf hS (fun hHeld => ?_);refine tq 0 (h:=tq 1 (h:=tq 2 (h:=tq 3 (h:=tq 6 (h:=tq 7 (h:=tq 8 (h:=tq 9 (h:=tO 4 (h:=?_)))))))));go_wp2_with fail;refine hkp.out.mono ?_;rintro e w1 ⟨v1,o1,rfl,hs1,lv,rfl,hl,rfl⟩;obtain ⟨⟨-, -,d2, -, -, -,d6⟩, -⟩:=(xZ.out.step hs1 id).cells;have hS1:=aI d2 d6;obtain ⟨sv,hsr,hsl⟩:=TI hl z.Ag hc;have Aln:=ae hsr;have hF:=aa2 (hdr.trans hs1) hsl;obtain ⟨la,lc,rfl⟩:=hl.form;have hfk:=fun W=>He W (z.s.kept.promised:aV) (z.s.kept.current:aV) (.slice la z.s.kept.lines.length lc);clear hs1 hl hsr hsl d2 d6 hHeld;unfold Dy;go_wp2_with fail;refine ⟨fun _=>hS1, ?_⟩;refine tq 5 (h:=tO 10 (h:=?_));refine FM Aln.out ?_;simp only [Act.put,lsa,lsz,lss];go_wp2_with fail;refine ⟨fun _=>hS1, ?_⟩;refine tq 11 (h:=tD (h:=?_));clear hS1;go_wp2_with fail;go_ret;exact ⟨_,_,rfl,hF.out.1,hF.out.2⟩
theorem AkJ {S A B:Nat} {s:AZ} (h:Bi w o S A B D ps pd base s) (hd:(s.dead || s.d.dead)=false) (a b:Int) (hab:b<1 \/ 3<b \/ a<0 \/ b<=a):Calls prog 27 #[.int .i64 a, .int .i64 b, .pointer ps] w fun e w'=>e = .returned (.tuple #[.pointer none, .int .i64 1])/\w=w':=by
 have hdd:=KH h;rw [hd] at hdd;have AbE:=ae hdd;clear h hd hdd
 by_cases h1:b<1
 ·clear hab;go_enter func27,ntmps27;go_wp2_with fail;refine AbE.out.mono ?_;rintro e w' ⟨rfl,rfl⟩;go_wp2_with fail
  go_ret2
  exact ⟨rfl,rfl⟩
 ·by_cases h2:3<b
  ·clear hab;go_enter func27,ntmps27;go_wp2_with fail;refine AbE.out.mono ?_;rintro e w' ⟨rfl,rfl⟩;go_wp2_with fail
   go_ret2
   exact ⟨rfl,rfl⟩
  ·by_cases h3:a<0
   ·clear hab;go_enter func27,ntmps27;go_wp2_with fail;refine AbE.out.mono ?_;rintro e w' ⟨rfl,rfl⟩;go_wp2_with fail
    go_ret2
    exact ⟨rfl,rfl⟩
   ·have h4:b<=a:=aP
    clear hab;go_enter func27,ntmps27;go_wp2_with fail;refine AbE.out.mono ?_;rintro e w' ⟨rfl,rfl⟩;go_wp2_with fail
    go_ret2
    exact ⟨rfl,rfl⟩
theorem XC {s:AZ} (hDM:D<=M/\D ≠ 0) (h:Bi w o (M+1) (M+2) (M+3) D ps pd 0 s) (hd:(s.dead || s.d.dead)=false) (id n:Nat) (h1:1<=n) (h3:n<=3) (hi:id<n) :
  Calls prog 27 #[(id:aV), (n:aV), .pointer ps] w (XL ai w o fun v w' o'=>∃ pz:Nat,v = .tuple #[.pointer pz, .int .i64 0]/\w.heap.size<=pz/\Bc w' o' D M pz ps pd (Am.new id n s)):=by
 have hdd:=KH h;rw [hd] at hdd;have AbE:=ae hdd;have st:=(aj.refl ai w o).alloc (.cells (IL id n ps (.iface 115 (.agg #[])) 0 0 0).toArray 86) (M+4,0);have hb:=heap_alloc_new w (.cells (IL id n ps (.iface 115 (.agg #[])) 0 0 0).toArray 86);have hF:=aa2 st (show Bc _ _ D M w.heap.size ps pd (Am.new id n s) from ⟨hDM,_,⟨hb,Au _ _ _⟩,rfl,h.step0 st⟩);have i1:¬ (n:Int)<1:=aP
 have i2:¬ (3:Int)<(n:Int):=aP
 have i3:¬ (id:Int)<0:=aP
 have i4:¬ (n:Int)<=(id:Int):=aP
 clear h hd hdd st hb h1 h3 hi;go_enter func27,ntmps27;go_wp2_with fail;refine AbE.out.mono ?_;rintro e w' ⟨rfl,rfl⟩;go_wp2_with fail
 go_ret2
 exact ⟨_,_,rfl,hF.out.1,_,rfl,Nat.le_refl _,hF.out.2⟩
end
theorem OZ:((prog.info? 55).bind (·.zero)).map (·.cells)=some #[.int .u64 0, .int .u64 0, .slice none 0 0]:=bf
theorem Uz:(prog.info? 55).map (·.size)=some 3:=bf
def BR (p c:BitVec 64) (lv:Value):List Value:=[(p:aV), (c:aV),lv]
theorem MX (w:World) (p c:BitVec 64) (la:Option Addr) (ln lc:Nat) :
  (Instr.storeAt 55 (.pointer w.heap.size) (Dy p c (.slice la ln lc))).run prog (w.alloc (.cells #[.int .u64 0, .int .u64 0, .slice none 0 0] 55)) = .ok () (w.alloc (.cells (BR p c (.slice la ln lc)).toArray 55)):=by
 have h:=(Ba (P:=prog) (ty:=55) (vs:=BR p c (.slice la ln lc)) (heap_alloc_new w (.cells [Value.int .u64 0, .int .u64 0, .slice none 0 0].toArray 55)) rfl Uz rfl).1;rw [Be w [Value.int .u64 0, .int .u64 0, .slice none 0 0].toArray 55 (BR p c (.slice la ln lc)) rfl] at h;exact h
theorem WI {eb:Nat} (i:Nat) (hb:w.heap[eb]?=some (.cells [(e:aV)].toArray 34 (0,0))) :
  Calls prog 89 #[(i:aV), .pointer eb] w (XL ai w o fun v w' o'=>∃ lv,v=Ea ⟨1,e,0,0,0,[]⟩ lv/\Lines w' o' 0 lv []):=by
 have al:=ae (AB (P:=prog) w 46 _ Oa);have mn:=KN w ⟨1,e,0,0,0,[]⟩ none 0 0;have st1:=(aj.refl ai w o).alloc (.cells DI.toArray 46) (0,0);have c1:=ag (st1.di hb id) 0;simp only [ay] at c1;unfold DI at mn c1;have hbm:=ae (heap_alloc_new w (.cells (Bf ⟨1,e,0,0,0,[]⟩ (.slice none 0 0)).toArray 46));have stF:=ae ((aj.refl ai w o).alloc (.cells (Bf ⟨1,e,0,0,0,[]⟩ (.slice none 0 0)).toArray 46) (0,0));have mnH:=ae mn;clear mn st1 hb;unfold Ea;go_enter func89,ntmps89
 go_wp2_with (first
  | ((with_reducible apply AU);exact al.out;simp only [Act.put,lsa,lsz,lss])
  | ((with_reducible apply AC);exact mnH.out;simp only [Act.put]))
 refine bodyPost_ret (results_cell_row rfl _ _ w.heap.size 46 _ (0,0) _ rfl hbm.out underlying46 rfl FT) rfl ?_;exact ⟨_,_,rfl,stF.out,_,rfl,Lines.nil _ _ _⟩
theorem QF (w:World):(Instr.makeMap 154 none).run prog w = .ok (.map (some w.heap.size)) (w.alloc (.map (Bd 0 []).toArray 0)):=by
 simp only [Instr.makeMap,Sem.run_bind];rfl
theorem dZ {Z mb id n:Nat} {c:BitVec 64} (hm:w.heap[mb]?=some (.map (Bd 0 [(id,c,lv)]).toArray 1)) (ho:o mb=(Z,2)) (hid:id<n) (hl:Lines w o 0 lv ls) :
  OE w o Z mb ((List.replicate n none).set id (some (c,ls))):=by
 refine ⟨[(id,c,lv)],hm,ho,bu,fun x hx => ?_,fun i p hp => ?_⟩
 ·simp only [List.mem_singleton] at hx;subst hx;exact ⟨ls,by simp [hid],hl⟩
 ·refine ⟨_,List.mem_singleton_self _, ?_⟩
  by_cases h:id=i
  ·exact h
  ·rw [List.getElem?_set_ne h,List.getElem?_replicate] at hp;split at hp <;> simp at hp
theorem Am.NP.stands {K B:Nat} (h:Am.NP K B z) {s':AZ} (hs:SP (K+3) s') (h0:(z.s.kept.CQ e).2=0) (hk:s'.kept=(z.s.kept.CQ e).1) (h1:1<=e.toNat) (w:Nat) :
  Am.NP (K+3) B { z with s:=s',BB := .stands e ((List.replicate z.n none).set z.id (some (z.s.kept.current,z.s.kept.lines))),waited:=w }:=by
 have hk2:=GM h0;obtain ⟨hlt,hle⟩:=Jf h0;have hok:=h.ok;have hcp:z.s.kept.current.toNat<=z.s.kept.promised.toNat:=hok.cp;have hid:z.id<z.n:=hok.id;refine ⟨hs,⟨⟨hok.n1,hok.n3,hok.id, ?_, ?_, ?_,hok.se, ?_⟩,⟨h1,hle⟩, ?_, ?_, ?_⟩⟩
 ·show En B s'.kept.lines;rw [hk,hk2];exact hok.ls
 ·show s'.kept.current.toNat<=s'.kept.promised.toNat;rw [hk,hk2];show z.s.kept.current.toNat<=e.toNat;omega
 ·show s'.kept.promised.toNat<=_;rw [hk,hk2];exact hle
 ·show z.Ag<=s'.kept.lines.length;rw [hk,hk2];exact hok.co
 ·simp;rfl
 ·show ∃ p,((List.replicate z.n none).set z.id (some (z.s.kept.current,z.s.kept.lines)))[z.id]?=some (some p);exact ⟨(z.s.kept.current,z.s.kept.lines),by simp [hid]⟩
 ·intro p hp
  rcases List.mem_or_eq_of_mem_set hp with h | h
  ·have:=List.eq_of_mem_replicate h
   cases this
  ·cases h;exact hok.ls
theorem Am.Xg {x:DT} (hid:z.id<z.n):(z.lead e ((List.replicate z.n none).set z.id (some x))).2=[]:=by
 have hlen:(((List.replicate z.n (none:Option DT)).set z.id (some x)).filter Option.isSome).length=1:=by
  have key:∀ (n i:Nat),i<n->(((List.replicate n (none:Option DT)).set i (some x)).filter Option.isSome).length=1:=by
   intro n
   induction n with
   | zero=>intro i h;omega
   | succ n ih =>
    intro i h
    cases i with
    | zero=>simp [List.replicate_succ]
    | succ i =>
     rw [List.replicate_succ,lss]
     simpa using ih i aP
  exact key _ _ hid
 unfold Am.lead;rw [hlen];split
 ·rfl
 ·rename_i h2;have hn:z.n=1:=aP
  have hi:z.id=0:=aP
  split
  ·rfl
  ·split
   ·show Aj.others _ _=[];unfold Aj.others;show ((List.range z.n).filter fun i=>i != z.id).map _=[];rw [hn,hi];rfl
   ·rfl
theorem OJ (h:Dn w o v ts) (hts:ts.length<=1000) {a':Option Addr} {c':Nat} :
  (Builtin.append_ #[49,49] 49 #[v, .slice a' 0 c']).run prog w = .ok v w:=by
 obtain ⟨cs,h1, -⟩:=h
 rcases h1 with ⟨⟨a,c,rfl⟩,h0, -⟩ | ⟨b,off,cap,rfl,hl,hm, -⟩
 ·exact CB w 49 49 61 2 underlying49 SH a a' 0 c c' aP aP
 ·exact CB w 49 49 61 2 underlying49 SH _ a' ts.length cap c' aP aP
theorem Bc.cell (h:Bc w o D M pz ps pd z) :
  w.cell? pz=some (z.id:aV)/\w.cell? (aW pz 1)=some (z.n:aV)/\w.cell? (aW pz 2)=some (.pointer ps)/\w.cell? (aW pz 4)=some (z.waited:aV)/\w.cell? (aW pz 5)=some (z.seen:aV)/\w.cell? (aW pz 6)=some (z.Ag:aV):=by
 obtain ⟨-,rv,hb, -⟩:=h;obtain ⟨⟨c0,c1,c2, -,c4,c5,c6⟩, -⟩:=hb.cells;exact ⟨c0,c1,c2,c4,c5,c6⟩
theorem Bc.store (h:Bc w o D M pz ps pd z):Bi w o (M+1) (M+2) (M+3) D ps pd 0 z.s:=by
 obtain ⟨-,rv, -, -,hs⟩:=h;exact hs
theorem Bc.tags (h:Bc w o D M pz ps pd z):D<=M/\D ≠ 0:=h.1
theorem Bc.restore {o':Own} (h:Bc w o D M pz ps pd z) (s:aj (qG (M+1) (M+2) (M+3) D) w o w' o') {s':AZ} (hs:Bi w' o' (M+1) (M+2) (M+3) D ps pd 0 s') :
  Bc w' o' D M pz ps pd { z with s:=s' }:=by
 obtain ⟨hDM,rv,hb,hr, -⟩:=h;have nZ:¬ qG (M+1) (M+2) (M+3) D (M+4):=InN.WZ hDM.1 hDM.2;have n0:¬ qG (M+1) (M+2) (M+3) D 0:=fun h=>by unfold qG at h;have:=hDM.2;omega
 exact ⟨hDM,rv,hb.step s nZ,hr.step s nZ n0,hs⟩
theorem n04 (h:D<=M/\D ≠ 0):¬ qG (M+1) (M+2) (M+3) D 0:=fun h'=>by unfold qG at h';have:=h.2;omega
section
variable {w:World} {o:Own} {D M pz ps pd K B base:Nat} {z:Am}
theorem QQ (h:Bc w o D M pz ps pd z) (hp:Am.NP K B z) (hK:K+600<65536) (hB:B<=90000) (src:Nat) (m:BG) (hm:m.May) (hl:Lines w o base lv m.ls) :
  Calls prog 99 #[.pointer pz, (src:aV),Ea m lv] w (XL (InN D M) w o fun v w' o'=>Dn w' o' v (Ed (z.BK src m).2)/\Bc w' o' D M pz ps pd (z.BK src m).1):=by
 obtain ⟨R,hR⟩:=az (z.BK src m);rw [hR];unfold Am.BK at hR;obtain ⟨la,lc,hlv⟩:=hl.form;obtain ⟨n,hn⟩:=az (m.ls.length);rw [hn] at hlv;subst hlv;have hn3:z.n<=3:=hp.ok.n3;have hn1:1<=z.n:=hp.ok.n1;have hls:En B z.s.kept.lines:=hp.ok.ls;have hsm:=En.small hls aP;have s1:=(aj.refl ai w o).alloc (.cells (Bf m (.slice la n lc)).toArray 46) (0,0);have mb1:=heap_alloc_new w (.cells (Bf m (.slice la n lc)).toArray 46);have mo1:=Au o w.heap.size (0,0);generalize Ak o w.heap.size (0,0)=o1 at *;obtain ⟨W1,hW1⟩:=az (w.alloc (.cells (Bf m (.slice la n lc)).toArray 46));rw [hW1] at s1 mb1;have hbx:(Instr.box 46 (Ea m (.slice la n lc))).run prog w = .ok (.pointer w.heap.size) W1:=by rw [<-hW1];kernel_rfl
 obtain ⟨mb,hmb⟩:=az (w.heap.size);rw [hmb] at mb1 mo1 hbx;have h1:=h.step0 s1;have hl1:=hl.step s1 id;obtain ⟨-, -,e2, -⟩:=h1.cell;unfold Ea at hbx ⊢;have xH:=ae hbx;have hkp:=ae (DJ h1.store hsm);have hA:=aa5 s1 mb1 mo1 h1 hl1;have hPH:=ae hp;have hmH:=ae hm;have hI:=aa4 hn3 hn1 hls hsm;have hnH:=ae hn;clear s1 mb1 mo1 h1 hl1 hW1 hmb hbx h hl hp hm hn3 hn1 hls hsm hn;go_enter func99,ntmps99
 go_wp2_with ((with_reducible apply BM);exact xH.out;simp only [Act.put,lsa,lsz,lss])
 refine hkp.out.mono ?_;rintro ex w2 ⟨v2,o2,rfl,hs2,lk,rfl,hlk,rfl⟩;obtain ⟨ka,kc,rfl⟩:=hlk.form;obtain ⟨L,hL⟩:=az (z.s.kept.lines.length);have kal:=AB (P:=prog) w2 55 _ OZ;have kst:=MX w2 z.s.kept.promised z.s.kept.current ka L kc;have k3:=(aj.refl ai w2 (ext W1 o1)).alloc (.cells (BR z.s.kept.promised z.s.kept.current (.slice ka L kc)).toArray 55) (0,0);have kb3:=heap_alloc_new w2 (.cells (BR z.s.kept.promised z.s.kept.current (.slice ka L kc)).toArray 55);have ko3:=Au (ext W1 o1) w2.heap.size (0,0);generalize Ak (ext W1 o1) w2.heap.size (0,0)=o3 at *;obtain ⟨W3,hW3⟩:=az (w2.alloc (.cells (BR z.s.kept.promised z.s.kept.current (.slice ka L kc)).toArray 55));rw [hW3] at kst k3 kb3;obtain ⟨kb,hkb⟩:=az (w2.heap.size);rw [hkb] at kal kst kb3 ko3;obtain ⟨s1,mb1,mo1,h1,hl1⟩:=hA.out;have k13:=hs2.trans k3;have h3:=h1.step0 k13;have mb3:=k13.di mb1 id;have mo3:=(k13.own _ (au mb1)).trans mo1;have hl3:=hl1.step k13 id;have Ade:=(hlk.step k3 id).low (Nat.zero_le _);have st3:=s1.trans k13;rw [hL] at Ade;obtain ⟨m0,m1,m2,m3,m4,m5⟩:=Gt mb3;have kc0:=ag kb3 0;have kc1:=ag kb3 1;have kc2:=ag kb3 2;simp only [BR,ay,ax] at kc0 kc1 kc2;have how:=ae (PM h3 hI.out.2.1 hI.out.1 src m.e);have hQ:=aa8 st3 mb3 mo3 h3 hl3 kb3 ko3 Ade;have AiS:=ae kal;have AiR:=ae kst;rw [hL];clear hs2 hlk kal kst k3 kb3 ko3 hW3 hkb s1 mb1 mo1 h1 hl1 k13 h3 mb3 mo3 hl3 Ade st3 hkp e2
 go_wp2_with (first
  | ((with_reducible apply AU);exact AiS.out;simp only [Act.put,lsa,lsz,lss])
  | ((with_reducible apply AC);exact AiR.out;simp only [Act.put]))
 refine how.out.mono ?_;rintro ex w' ⟨rfl,rfl⟩
 cases ho:z.BN.owns src m.e with
 | false =>
  rw [ho] at hR;simp only [Bool.not_false,if_true] at hR;have hRH:=ae hR;clear ho hR;go_wp2_with fail;go_ret;refine ⟨_,o3,rfl,hQ.out.1.mono dh, ?_, ?_⟩
  ·rw [<-hRH.out];exact Dn.nil _ _
  ·rw [<-hRH.out];exact hQ.out.2.2.2.1
 | true =>
  rw [ho] at hR;simp only [Bool.not_true,Bool.false_eq_true,if_false] at hR;clear ho;have hkk:z.BN.k=z.s.kept:=rfl;have hpt:z.s.kept.promised.toNat<=281474976710656:=hPH.out.ok.pt
  by_cases hle:m.e.toNat<=z.s.kept.promised.toNat
  ·rw [if_pos hle] at hR;have hRH:=ae hR;have Ama:(m.e.toNat:Int)<=(z.s.kept.promised.toNat:Int):=aP
   have hrf:=ae (Lt hQ.out.2.2.2.1 hI.out.2.2.2 (by have:=hmH.out.e1;omega) hpt src);clear hR;go_wp2_with fail;refine hrf.out.mono ?_;rintro ex w4 ⟨v4,o4,rfl,hs4,hou⟩;have hF:=aa3 (hQ.out.1.trans hs4) hou (hQ.out.2.2.2.1.step0 hs4);obtain ⟨xa,xc,rfl⟩:=hou.form;clear hs4 hou hrf;go_wp2_with fail;go_ret;refine ⟨_,o4,rfl,hF.out.1.mono dh, ?_, ?_⟩
   ·rw [<-hRH.out];exact hF.out.2.1
   ·rw [<-hRH.out];exact hF.out.2.2
  ·rw [if_neg hle] at hR;have Ama:¬ (m.e.toNat:Int)<=(z.s.kept.promised.toNat:Int):=aP
   obtain ⟨st3,mb3,mo3,h3,hl3,kb3,ko3,Ade⟩:=hQ.out;have dr:aj ai W3 o3 W3.drew o3:=(aj.refl ai W3 o3).drew;have hpr:=Jb h3.tags (h3.step0 dr).store hPH.out.sp hI.out.2.2.2 m.e;obtain ⟨-, -,e2, -⟩:=(h3.step0 dr).cell;have q1:=ag (w:=W3.drew) mb3 1;have hS:=aI e2 (show W3.drew.cell? (aW mb 1)=some (m.e:aV) from q1);have hfit:=AcS hPH.out.sp hK hPH.out.kok (Nat.le_trans hI.out.2.2.1.b hB) m.e;obtain ⟨Q,hQQ⟩:=az (z.s.promise m.e);simp only [hQQ] at hpr hfit hR;have AiZ:=ae hpr;have hD3:=ae (h3.step0 dr);clear st3 mb3 mo3 h3 hl3 kb3 ko3 Ade dr hpr e2 q1;have hgo:∀ (W6:World) (o6:Own),aj (qG (M+1) (M+2) (M+3) D) W3.drew o3 W6 o6->Bi W6 o6 (M+1) (M+2) (M+3) D ps pd 0 Q.1 ->
     (W6.cell? (aW pz 2)=some (.pointer ps)/\W6.cell? (aW mb 1)=some (m.e:aV))/\(W6.heap[mb]?=some (.cells (Bf m (.slice la n lc)).toArray 46 (0,0))/\W6.heap[kb]?=some (.cells (BR z.s.kept.promised z.s.kept.current (.slice ka L kc)).toArray 55 (0,0))/\(o6 mb).1=0/\(o6 kb).1=0/\Lines W6 o6 0 (.slice ka L kc) z.s.kept.lines/\aj (InN D M) w o W6 o6/\Bc W6 o6 D M pz ps pd { z with s:=Q.1 }):=by
    intro W6 o6 hs6 pW;obtain ⟨st3,mb3,mo3,h3,hl3,kb3,ko3,Ade⟩:=hQ.out;have dr:aj ai W3 o3 W3.drew o3:=(aj.refl ai W3 o3).drew;have n0:=n04 h3.tags;have mb6:=(hs6.block mb (au mb3) (by rw [mo3];exact n0)).trans mb3;have kb6:=(hs6.block kb (au kb3) (by rw [ko3];exact n0)).trans kb3;have h6:=hD3.out.restore hs6 pW;obtain ⟨-, -,e2, -⟩:=h6.cell;exact ⟨⟨e2,ag mb6 1⟩,mb6,kb6,by rw [hs6.own mb (au mb3),mo3],by rw [hs6.own kb (au kb3),ko3],(Ade.step dr id).step hs6 n0,((st3.trans dr).mono dh).trans (hs6.mono InN.in4),h6⟩
   have Aab:=ae hgo;clear hgo
   rcases hfit with ⟨hf1,hf2⟩ | ⟨hf0,s',hf2,hf3,hf4⟩
   ·subst hf2;rw [if_neg (fun h=>by cases h)] at hR;have hRH:=ae hR;clear hR;go_wp2_with fail;clear m0 m1 m2 m3 m4 m5 kc0 kc1 kc2;refine Aa (fun w'=>w'.cell? (aW pz 2)=some (.pointer ps)/\w'.cell? (aW mb 1)=some (m.e:aV)) (fun _=>true) bf hS (fun hHeld => ?_);refine tq 0 (h:=tq 1 (h:=tq 2 (h:=tq 3 (h:=tq 4 (h:=tq 5 (h:=tO 6 (h:=?_)))))));go_wp2_with fail;refine AiZ.out.mono ?_;rintro ex W6 ⟨v6,o6,rfl,hs6,rfl,pW⟩;have hG6:=ae (Aab.out W6 o6 hs6 pW);have hS6:=hG6.out.1;clear hs6 pW hHeld hS;go_wp2_with fail;refine ⟨fun _=>hS6, ?_⟩;refine tq 7 (h:=tq 8 (h:=tD (h:=?_)));clear hS6;go_wp2_with fail;go_ret;refine ⟨_,o6,rfl,hG6.out.2.2.2.2.2.2.1, ?_, ?_⟩
    ·rw [<-hRH.out];exact Dn.nil _ _
    ·rw [<-hRH.out];exact hG6.out.2.2.2.2.2.2.2
   ·subst hf2;rw [if_pos rfl] at hR;have hRH:=ae hR;clear hR;go_wp2_with fail;clear m0 m1 m2 m3 m4 m5 kc0 kc1 kc2;refine Aa (fun w'=>w'.cell? (aW pz 2)=some (.pointer ps)/\w'.cell? (aW mb 1)=some (m.e:aV)) (fun _=>true) bf hS (fun hHeld => ?_);refine tq 0 (h:=tq 1 (h:=tq 2 (h:=tq 3 (h:=tq 4 (h:=tq 5 (h:=tO 6 (h:=?_)))))));go_wp2_with fail;refine AiZ.out.mono ?_;rintro ex W6 ⟨v6,o6,rfl,hs6,rfl,pW⟩;have hG6:=ae (Aab.out W6 o6 hs6 pW);have hS6:=hG6.out.1;clear hs6 pW hHeld hS;go_wp2_with fail;refine ⟨fun _=>hS6, ?_⟩;refine tq 7 (h:=tq 8 (h:=tD (h:=?_)));clear hS6;have hfo:=ae (FD hG6.out.2.2.2.2.2.2.2);go_wp2_with fail;refine hfo.out.mono ?_;rintro ex W7 ⟨v7,o7,rfl,hs7,rfl,hn7⟩;obtain ⟨-,mb6,kb6,mo6,ko6,hl6,st6,h6⟩:=hG6.out;have n4:¬ ak (M+4) 0:=fun h=>by unfold ak at h;omega
    have mb7:=(hs7.block mb (au mb6) (by rw [mo6];exact n4)).trans mb6;have kb7:=(hs7.block kb (au kb6) (by rw [ko6];exact n4)).trans kb6;have q1:=ag mb7 1;have q2:=ag kb7 1;have q3:=ag kb7 2;simp only [Bf,BR,ay,ax] at q1 q2 q3;have wY:=hl6.step hs7 n4;have hok:=hPH.out.ok;have hcp:z.s.kept.current.toNat<=z.s.kept.promised.toNat:=hok.cp;have htl:=LZ (w:=W7) (o:=o7) ⟨2,m.e,z.s.kept.current,0,0,z.s.kept.lines⟩ (Aj.Ox hmH.out.e1 hmH.out.e2 aP hI.out.2.2.1) wY src;unfold Ea at htl;have sO:=ae htl;have hF7:=aa2 (st6.trans (hs7.mono (T':=InN D M) (fun k h=>(show InN D M k by cases h;exact InN.own)))) hn7;clear hs7 hn7 mb6 kb6 mo6 ko6 hl6 st6 h6 mb7 kb7 wY hok htl hfo;go_wp2_with fail;refine sO.out.mono ?_;rintro ex W8 ⟨v8,o8,rfl,hs8,bv,rfl,hby⟩;have hbs:=ae (Nq W8 (src:Int) bv);have hF8:=aa3 ((hF7.out.1.trans (hs8.mono dh)).alloc (.cells [(src:aV),bv].toArray 61) (0,0)) (PN (to:=src) hby) (hF7.out.2.step0 (hs8.alloc (.cells [(src:aV),bv].toArray 61) (0,0)));obtain ⟨ba,bc,rfl⟩:=Aq hby;clear hs8 hby sO;unfold YC
    go_wp2_with ((with_reducible apply BO #[(0, .agg #[(src:aV), .slice ba _ bc])] rfl);exact hbs.out;simp only [Act.put,lsa,lsz,lss])
    go_ret;refine ⟨_,_,rfl,hF8.out.1, ?_, ?_⟩
    ·rw [<-hRH.out];exact hF8.out.2.1
    ·rw [<-hRH.out];exact hF8.out.2.2
end
section
variable {w:World} {o:Own} {D M pz ps pd Z:Nat}
theorem IE.iE {rv:Value} {r:Adl} (h:IE w o Z rv r) (ho:o pz=(Z,0)) (hZ:Z ≠ 0) (i:Nat) (v:Value):IE (w.setCell (aW pz i) v) o Z rv r:=by
 have k:=(aj.refl (ak Z) w o).setCell (a:=(aW pz i)) v (.inl (by show (o pz).1=_;rw [ho]));have n4:¬ ak Z 0:=fun h=>hZ h.symm;have other:∀ b t,o b=(Z,t)->t ≠ 0->(w.setCell (aW pz i) v).heap[b]?=w.heap[b]?:=by
  intro b t hb ht;refine Below.heap_setCell w (aW pz i) v b ?_;rintro rfl;rw [ho] at hb;cases hb;exact ht rfl
 cases r with
 | follows=>exact h
 | stands mine has =>
  obtain ⟨p,h1,mb,h2,h3,es,h4,h5,h6,h7,h8⟩:=h;exact ⟨p,h1,mb,(other p 1 h3 aP).trans h2,h3,es,(other mb 2 h5 aP).trans h4,h5,h6,fun x hx=>by obtain ⟨ls,a,b⟩:=h7 x hx;exact ⟨ls,a,b.step k n4⟩,h8⟩
 | leads mine nR base ready =>
  obtain ⟨p,h1,b,cap,h2,h3,h4,h5,h6⟩:=h;exact ⟨p,h1,b,cap,(other p 1 h3 aP).trans h2,h3,(other b 2 h5 aP).trans h4,h5,h6⟩
theorem Bc.put {z':Am} (h:Bc w o D M pz ps pd z) (i:Nat) (v:Value) (hc:∀ rv,(IL z.id z.n ps rv z.waited z.seen z.Ag).set i v=IL z'.id z'.n ps rv z'.waited z'.seen z'.Ag) (hr:z'.BB=z.BB) (hs:z'.s=z.s) :
  Bc (w.setCell (aW pz i) v) o D M pz ps pd z'/\aj (ak (M+4)) w o (w.setCell (aW pz i) v) o:=by
 obtain ⟨hDM,rv,hb,hro,hst⟩:=h;have k:=(aj.refl (ak (M+4)) w o).setCell (a:=(aW pz i)) v (.inl (by show (o pz).1=_;rw [hb.2]));refine ⟨⟨hDM,rv,⟨?_,hb.2⟩,by rw [hr];exact hro.iE hb.2 aP i v,by rw [hs];exact hst.step k (InN.self hDM.1)⟩,k⟩;have h:=Ai (i:=i) v hb.1;rw [hc rv] at h;exact h
theorem Bc.Ag (h:Bc w o D M pz ps pd z) (c:Nat):Bc (w.setCell (aW pz 6) (c:aV)) o D M pz ps pd { z with Ag:=c }/\aj (ak (M+4)) w o (w.setCell (aW pz 6) (c:aV)) o:=
 h.put 6 _ (fun _=>rfl) rfl rfl
theorem Bc.seen (h:Bc w o D M pz ps pd z) (e:BitVec 64):Bc (w.setCell (aW pz 5) (e:aV)) o D M pz ps pd { z with seen:=e }/\aj (ak (M+4)) w o (w.setCell (aW pz 5) (e:aV)) o:=
 h.put 5 _ (fun _=>rfl) rfl rfl
theorem Bc.free (h:Bc w o D M pz ps pd z) (i:Nat):w.frozen? (aW pz i)=false:=by
 obtain ⟨-,rv,hb, -⟩:=h;exact hb.cells.2.1 i
end
theorem BG.May.small {m:BG} (h:m.May):small m.ls:=⟨Nat.le_trans h.n1 aP,Nat.le_trans (NK h) aP⟩
section
variable {w:World} {o:Own} {D M pz ps pd K B base:Nat} {z:Am}
theorem QR (h:Bc w o D M pz ps pd z) (hp:Am.NP K B z) (hK:K+600<65536) (hB:B<=90000) (src:Nat) (m:BG) (hm:m.May) (hmb:AP m.ls<=90000) (hl:Lines w o base lv m.ls) :
  Calls prog 102 #[.pointer pz, (src:aV),Ea m lv] w (XL (InN D M) w o fun v w' o'=>Dn w' o' v (Ed (z.BD src m).2)/\Bc w' o' D M pz ps pd (z.BD src m).1):=by
 obtain ⟨R,hR⟩:=az (z.BD src m);rw [hR];unfold Am.BD at hR;obtain ⟨la,lc,hlv⟩:=hl.form;obtain ⟨n,hn⟩:=az (m.ls.length);rw [hn] at hlv;subst hlv;have hn3:z.n<=3:=hp.ok.n3;have hn1:1<=z.n:=hp.ok.n1;have hls:En B z.s.kept.lines:=hp.ok.ls;have hsm:=En.small hls aP;have s1:=(aj.refl ai w o).alloc (.cells (Bf m (.slice la n lc)).toArray 46) (0,0);have mb1:=heap_alloc_new w (.cells (Bf m (.slice la n lc)).toArray 46);have mo1:=Au o w.heap.size (0,0);generalize Ak o w.heap.size (0,0)=o1 at *;obtain ⟨W1,hW1⟩:=az (w.alloc (.cells (Bf m (.slice la n lc)).toArray 46));rw [hW1] at s1 mb1;have hbx:(Instr.box 46 (Ea m (.slice la n lc))).run prog w = .ok (.pointer w.heap.size) W1:=by rw [<-hW1];kernel_rfl
 obtain ⟨mb,hmb⟩:=az (w.heap.size);rw [hmb] at mb1 mo1 hbx;have h1:=h.step0 s1;have hl1:=hl.step s1 id;obtain ⟨-, -,e2, -⟩:=h1.cell;unfold Ea at hbx ⊢;have xH:=ae hbx;have hkp:=ae (DJ h1.store hsm);have hA:=aa5 s1 mb1 mo1 h1 hl1;have hPH:=ae hp;have hmH:=ae hm;have hI:=aa4 hn3 hn1 hls hsm;have hnH:=ae hn;clear s1 mb1 mo1 h1 hl1 hW1 hmb hbx h hl hp hm hn3 hn1 hls hsm hn;go_enter func102,ntmps102
 go_wp2_with ((with_reducible apply BM);exact xH.out;simp only [Act.put,lsa,lsz,lss])
 refine hkp.out.mono ?_;rintro ex w2 ⟨v2,o2,rfl,hs2,lk,rfl,hlk,rfl⟩;obtain ⟨ka,kc,rfl⟩:=hlk.form;obtain ⟨L,hL⟩:=az (z.s.kept.lines.length);have kal:=AB (P:=prog) w2 55 _ OZ;have kst:=MX w2 z.s.kept.promised z.s.kept.current ka L kc;have k3:=(aj.refl ai w2 (ext W1 o1)).alloc (.cells (BR z.s.kept.promised z.s.kept.current (.slice ka L kc)).toArray 55) (0,0);have kb3:=heap_alloc_new w2 (.cells (BR z.s.kept.promised z.s.kept.current (.slice ka L kc)).toArray 55);have ko3:=Au (ext W1 o1) w2.heap.size (0,0);generalize Ak (ext W1 o1) w2.heap.size (0,0)=o3 at *;obtain ⟨W3,hW3⟩:=az (w2.alloc (.cells (BR z.s.kept.promised z.s.kept.current (.slice ka L kc)).toArray 55));rw [hW3] at kst k3 kb3;obtain ⟨kb,hkb⟩:=az (w2.heap.size);rw [hkb] at kal kst kb3 ko3;obtain ⟨s1,mb1,mo1,h1,hl1⟩:=hA.out;have k13:=hs2.trans k3;have h3:=h1.step0 k13;have mb3:=k13.di mb1 id;have mo3:=(k13.own _ (au mb1)).trans mo1;have hl3:=hl1.step k13 id;have Ade:=(hlk.step k3 id).low (Nat.zero_le _);have st3:=s1.trans k13;rw [hL] at Ade;obtain ⟨m0,m1,m2,m3,m4,m5⟩:=Gt mb3;have kc0:=ag kb3 0;have kc1:=ag kb3 1;have kc2:=ag kb3 2;simp only [BR,ay,ax] at kc0 kc1 kc2;have how:=ae (PM h3 hI.out.2.1 hI.out.1 src m.e);have hQ:=aa8 st3 mb3 mo3 h3 hl3 kb3 ko3 Ade;have AiS:=ae kal;have AiR:=ae kst;rw [hL];clear hs2 hlk kal kst k3 kb3 ko3 hW3 hkb s1 mb1 mo1 h1 hl1 k13 h3 mb3 mo3 hl3 Ade st3 hkp e2
 go_wp2_with (first
  | ((with_reducible apply AU);exact AiS.out;simp only [Act.put,lsa,lsz,lss])
  | ((with_reducible apply AC);exact AiR.out;simp only [Act.put]))
 refine how.out.mono ?_;rintro ex w' ⟨rfl,rfl⟩
 cases ho:z.BN.owns src m.e with
 | false =>
  rw [ho] at hR;simp only [Bool.not_false,if_true] at hR;have hRH:=ae hR;clear ho hR;go_wp2_with fail;go_ret;refine ⟨_,o3,rfl,hQ.out.1.mono dh, ?_, ?_⟩
  ·rw [<-hRH.out];exact Dn.nil _ _
  ·rw [<-hRH.out];exact hQ.out.2.2.2.1
 | true =>
  rw [ho] at hR;simp only [Bool.not_true,Bool.false_eq_true,if_false] at hR;clear ho;have hpt:z.s.kept.promised.toNat<=281474976710656:=hPH.out.ok.pt
  by_cases hle:m.e.toNat<z.s.kept.promised.toNat
  ·rw [if_pos hle] at hR;have hRH:=ae hR;have Ama:(m.e.toNat:Int)<(z.s.kept.promised.toNat:Int):=aP
   have hrf:=ae (Lt hQ.out.2.2.2.1 hI.out.2.2.2 (by have:=hmH.out.e1;omega) hpt src);clear hR;go_wp2_with fail;refine hrf.out.mono ?_;rintro ex w4 ⟨v4,o4,rfl,hs4,hou⟩;have hF:=aa3 (hQ.out.1.trans hs4) hou (hQ.out.2.2.2.1.step0 hs4);obtain ⟨xa,xc,rfl⟩:=hou.form;clear hs4 hou hrf;go_wp2_with fail;go_ret;refine ⟨_,o4,rfl,hF.out.1.mono dh, ?_, ?_⟩
   ·rw [<-hRH.out];exact hF.out.2.1
   ·rw [<-hRH.out];exact hF.out.2.2
  ·rw [if_neg hle] at hR;have Ama:¬ (m.e.toNat:Int)<(z.s.kept.promised.toNat:Int):=aP
   by_cases hcu:z.s.kept.current=m.e
   ·rw [if_pos hcu] at hR;have hRH:=ae hR;have hcI:(z.s.kept.current.toNat:Int)=(m.e.toNat:Int):=by rw [hcu]
    have hF6:=aa3 (hQ.out.1.mono (T':=InN D M) dh) hQ.out.2.1 (show (o3 mb).1=0 by rw [hQ.out.2.2.1]);clear hR hcu;have hfo:=ae (FD hQ.out.2.2.2.1);go_wp2_with fail;refine hfo.out.mono ?_;rintro ex W7 ⟨v7,o7,rfl,hs7,rfl,hn7⟩;have n4:¬ ak (M+4) 0:=fun h=>by unfold ak at h;omega
    have mb7:=(hs7.block mb (au hF6.out.2.1) (by rw [hF6.out.2.2];exact n4)).trans hF6.out.2.1;have q1:=ag mb7 1;simp only [Bf,ay,ax] at q1;have hak:=ae (OY hn7 hI.out.2.2.1.n hI.out.2.2.2 m.e hmH.out.e1 hmH.out.e2 src);have hF7:=aa2 (hF6.out.1.trans (hs7.mono (T':=InN D M) (fun k h=>(show InN D M k by cases h;exact InN.own)))) hn7;clear hs7 hn7 mb7 hfo;go_wp2_with fail;refine hak.out.mono ?_;rintro ex W8 ⟨v8,o8,rfl,hs8,hou⟩;have hF:=aa3 (hF7.out.1.trans (hs8.mono dh)) hou (hF7.out.2.step0 hs8);obtain ⟨xa,xc,rfl⟩:=hou.form;clear hs8 hou hak;go_wp2_with fail;go_ret;refine ⟨_,o8,rfl,hF.out.1, ?_, ?_⟩
    ·rw [<-hRH.out];exact hF.out.2.1
    ·rw [<-hRH.out];exact hF.out.2.2
   ·rw [if_neg hcu] at hR;have hcI:¬ (z.s.kept.current.toNat:Int)=(m.e.toNat:Int):=fun h=>hcu (BitVec.eq_of_toNat_eq aP);obtain ⟨st3,mb3,mo3,h3,hl3,kb3,ko3,Ade⟩:=hQ.out;have dr:aj ai W3 o3 W3.drew o3:=(aj.refl ai W3 o3).drew;have had:=Pe h3.tags (h3.step0 dr).store hPH.out.sp m.e (hl3.step dr id) hmH.out.small;obtain ⟨-, -,e2, -⟩:=(h3.step0 dr).cell;have q1:=ag (w:=W3.drew) mb3 1;have q5:=ag (w:=W3.drew) mb3 5;have hS:=aI e2 (aI (show W3.drew.cell? (aW mb 1)=some (m.e:aV) from q1) (show W3.drew.cell? (aW mb 5)=some (.slice la n lc) from q5));have hfit:=KW hPH.out.sp hK hPH.out.kok m.e m.ls (Nat.le_trans hI.out.2.2.1.b hB) hmb;obtain ⟨Q,hQQ⟩:=az (z.s.FO m.e m.ls);simp only [hQQ] at had hfit hR;have Ako:=ae had;have hD3:=ae (h3.step0 dr);clear st3 mb3 mo3 h3 hl3 kb3 ko3 Ade dr had e2 q1 q5;have hgo:∀ (W6:World) (o6:Own),aj (qG (M+1) (M+2) (M+3) D) W3.drew o3 W6 o6->Bi W6 o6 (M+1) (M+2) (M+3) D ps pd 0 Q.1 ->
      (W6.cell? (aW pz 2)=some (.pointer ps)/\W6.cell? (aW mb 1)=some (m.e:aV)/\W6.cell? (aW mb 5)=some (.slice la n lc))/\(W6.heap[mb]?=some (.cells (Bf m (.slice la n lc)).toArray 46 (0,0))/\(o6 mb).1=0/\aj (InN D M) w o W6 o6/\Bc W6 o6 D M pz ps pd { z with s:=Q.1 }):=by
     intro W6 o6 hs6 pW;obtain ⟨st3,mb3,mo3,h3,hl3,kb3,ko3,Ade⟩:=hQ.out;have dr:aj ai W3 o3 W3.drew o3:=(aj.refl ai W3 o3).drew;have n0:=n04 h3.tags;have mb6:=(hs6.block mb (au mb3) (by rw [mo3];exact n0)).trans mb3;have h6:=hD3.out.restore hs6 pW;obtain ⟨-, -,e2, -⟩:=h6.cell;exact ⟨⟨e2,ag mb6 1,ag mb6 5⟩,mb6,by rw [hs6.own mb (au mb3),mo3],((st3.trans dr).mono dh).trans (hs6.mono InN.in4),h6⟩
    have Aab:=ae hgo;clear hgo
    rcases hfit with ⟨hf1,hf2⟩ | ⟨hf0,s',hf2,hf3,hf4⟩
    ·subst hf2;rw [if_neg (fun h=>by cases h)] at hR;have hRH:=ae hR;clear hR;go_wp2_with fail;clear m0 m1 m2 m3 m4 m5 kc0 kc1 kc2;refine Aa (fun w'=>w'.cell? (aW pz 2)=some (.pointer ps)/\w'.cell? (aW mb 1)=some (m.e:aV)/\w'.cell? (aW mb 5)=some (.slice la n lc)) (fun _=>true) bf hS (fun hHeld => ?_);refine tq 0 (h:=tq 1 (h:=tq 2 (h:=tq 3 (h:=tq 4 (h:=tq 5 (h:=tq 6 (h:=tq 7 (h:=tO 8 (h:=?_)))))))));go_wp2_with fail;refine Ako.out.mono ?_;rintro ex W6 ⟨v6,o6,rfl,hs6,rfl,pW⟩;have hG6:=ae (Aab.out W6 o6 hs6 pW);have hS6:=hG6.out.1;clear hs6 pW hHeld hS;go_wp2_with fail;refine ⟨fun _=>hS6, ?_⟩;refine tq 9 (h:=tD (h:=?_));clear hS6;go_wp2_with fail;go_ret;refine ⟨_,o6,rfl,hG6.out.2.2.2.1, ?_, ?_⟩
     ·rw [<-hRH.out];exact Dn.nil _ _
     ·rw [<-hRH.out];exact hG6.out.2.2.2.2
    ·subst hf2;rw [if_pos rfl] at hR;have hRH:=ae hR;clear hR;go_wp2_with fail;clear m0 m1 m2 m3 m4 m5 kc0 kc1 kc2;refine Aa (fun w'=>w'.cell? (aW pz 2)=some (.pointer ps)/\w'.cell? (aW mb 1)=some (m.e:aV)/\w'.cell? (aW mb 5)=some (.slice la n lc)) (fun _=>true) bf hS (fun hHeld => ?_);refine tq 0 (h:=tq 1 (h:=tq 2 (h:=tq 3 (h:=tq 4 (h:=tq 5 (h:=tq 6 (h:=tq 7 (h:=tO 8 (h:=?_)))))))));go_wp2_with fail;refine Ako.out.mono ?_;rintro ex W6 ⟨v6,o6,rfl,hs6,rfl,pW⟩;have hG6:=ae (Aab.out W6 o6 hs6 pW);have hS6:=hG6.out.1;clear hs6 pW hHeld hS;go_wp2_with fail;refine ⟨fun _=>hS6, ?_⟩;refine tq 9 (h:=tD (h:=?_));clear hS6;obtain ⟨hS6,mb6,mo6,st6,h6⟩:=hG6.out;have dr:aj ai W6 o6 W6.drew o6:=(aj.refl ai W6 o6).drew;obtain ⟨V,hV⟩:=az (W6.drew);rw [hV] at dr;have hV6:=h6.step0 dr;have mbV:=dr.di mb6 id;obtain ⟨-, -, -, -, -,e6⟩:=hV6.cell;have f6:=hV6.free 6;have q5:V.cell? (aW mb 5)=some (.slice la n lc):=ag mbV 5;obtain ⟨hcm,kcm⟩:=hV6.Ag (min z.Ag n);have n4:¬ ak (M+4) 0:=fun h=>by unfold ak at h;omega
     have hF6:=aa3 ((st6.trans (dr.mono (T':=InN D M) dh)).trans (kcm.mono (T':=InN D M) (fun k h=>(show InN D M k by cases h;exact InN.own)))) ((kcm.block mb (au mbV) (by rw [mo6];exact n4)).trans mbV) mo6;have AdS:=ae hcm;have hS9:=aI (show V.cell? (aW pz 6)=some (z.Ag:aV) from e6) q5;rw [<-hV] at hS9;have hmn:min (z.Ag:Int) (n:Int)=((min z.Ag n:Nat):Int):=aP
     have Amn:(0:Int)<=(z.Ag:Int)/\(z.Ag:Int)<=256:=by
      have h1:z.Ag<=z.s.kept.lines.length:=hPH.out.ok.co;have:=hI.out.2.2.1.n;omega
     have hnI:(0:Int)<=(n:Int)/\(n:Int)<=256:=by have:=hmH.out.n1;have:=hnH.out;omega
     have hk':s'.kept.lines=m.ls:=by rw [hf4,IZ hf0]
     have AnY:=ae hk';clear hS6 mb6 mo6 st6 h6 dr hV6 mbV hcm kcm n4 hk';go_wp2_with fail;refine Aa (fun w'=>w'.cell? (aW pz 6)=some (z.Ag:aV)/\w'.cell? (aW mb 5)=some (.slice la n lc)) (fun i=>decide (i<11)) bf hS9 (fun hHeld => ?_);rw [hV] at hHeld ⊢;clear hV hS9;refine tq 0 (h:=tq 1 (h:=tq 2 (h:=tq 3 (h:=tq 4 (h:=tq 5 (h:=tq 6 (h:=tq 7 (h:=tq 8 (h:=tO 9 (h:=?_))))))))));go_wp2_with fail;refine ⟨fun _=>hHeld, ?_⟩;refine tq 10 (h:=tO 11 (h:=?_));go_wp2_with fail;refine ⟨fun h=>by simp at h, ?_⟩;refine tD (h:=?_);clear e6 f6 q5 hmn;have hfo:=ae (FD AdS.out);go_wp2_with fail;refine hfo.out.mono ?_;rintro ex W7 ⟨v7,o7,rfl,hs7,rfl,hn7⟩;have n4:¬ ak (M+4) 0:=fun h=>by unfold ak at h;omega
     have mb7:=(hs7.block mb (au hF6.out.2.1) (by rw [hF6.out.2.2];exact n4)).trans hF6.out.2.1;have q1:=ag mb7 1;simp only [Bf,ay,ax] at q1;have hak:=ae (OY hn7 (by show s'.kept.lines.length<=256;rw [AnY.out];exact hmH.out.n1) (by show small s'.kept.lines;rw [AnY.out];exact hmH.out.small) m.e hmH.out.e1 hmH.out.e2 src);have hF7:=aa2 (hF6.out.1.trans (hs7.mono (T':=InN D M) (fun k h=>(show InN D M k by cases h;exact InN.own)))) hn7;clear hs7 hn7 mb7 hfo;go_wp2_with fail;refine hak.out.mono ?_;rintro ex W8 ⟨v8,o8,rfl,hs8,hou⟩;have hF:=aa3 (hF7.out.1.trans (hs8.mono dh)) hou (hF7.out.2.step0 hs8);obtain ⟨xa,xc,rfl⟩:=hou.form;clear hs8 hou hak;go_wp2_with fail;go_ret;refine ⟨_,o8,rfl,hF.out.1, ?_, ?_⟩
     ·rw [<-hRH.out,hnH.out];exact hF.out.2.1
     ·rw [<-hRH.out,hnH.out];exact hF.out.2.2
end
section
variable (w:World) (p:Option Addr)
theorem gZ:(Instr.typeAssert (.iface 115 (.agg #[])) 84 115 true).run prog w = .ok (.tuple #[.agg #[], .bool true]) w:=bf
theorem gX:(Instr.typeAssert (.iface 151 (.pointer p)) 84 115 true).run prog w = .ok (.tuple #[.agg #[], .bool false]) w:=bf
theorem gY:(Instr.typeAssert (.iface 87 (.pointer p)) 84 115 true).run prog w = .ok (.tuple #[.agg #[], .bool false]) w:=bf
end
section
variable {w:World} {o:Own} {D M pz ps pd K B base:Nat} {z:Am}
theorem VA (h:Bc w o D M pz ps pd z) (hp:Am.NP K B z) (hB:B<=90000) (src:Nat) (hsrc:src<z.n) (m:BG) (hm:m.May) (hl:Lines w o base lv m.ls) :
  Calls prog 104 #[.pointer pz, (src:aV),Ea m lv] w (XL (InN D M) w o fun v w' o'=>Dn w' o' v (Ed (z.CJ src m).2)/\Bc w' o' D M pz ps pd (z.CJ src m).1):=by
 obtain ⟨R,hR⟩:=az (z.CJ src m);rw [hR];unfold Am.CJ at hR;obtain ⟨la,lc,hlv⟩:=hl.form;obtain ⟨n,hn⟩:=az (m.ls.length);rw [hn] at hlv;subst hlv;have hn3:z.n<=3:=hp.ok.n3;have hn1:1<=z.n:=hp.ok.n1;have hls:En B z.s.kept.lines:=hp.ok.ls;have hsm:=En.small hls aP;have s1:=(aj.refl ai w o).alloc (.cells (Bf m (.slice la n lc)).toArray 46) (0,0);have mb1:=heap_alloc_new w (.cells (Bf m (.slice la n lc)).toArray 46);have mo1:=Au o w.heap.size (0,0);generalize Ak o w.heap.size (0,0)=o1 at *;obtain ⟨W1,hW1⟩:=az (w.alloc (.cells (Bf m (.slice la n lc)).toArray 46));rw [hW1] at s1 mb1;have hbx:(Instr.box 46 (Ea m (.slice la n lc))).run prog w = .ok (.pointer w.heap.size) W1:=by rw [<-hW1];kernel_rfl
 obtain ⟨mb,hmb⟩:=az (w.heap.size);rw [hmb] at mb1 mo1 hbx;have h1:=h.step0 s1;have hl1:=hl.step s1 id;obtain ⟨-, -,e2, -⟩:=h1.cell;unfold Ea at hbx ⊢;have xH:=ae hbx;obtain ⟨hDM,rv,hb,hro,hst⟩:=id h1
 cases hrr:z.BB with
 | follows =>
  rw [hrr] at hR hro;obtain rfl:rv = .iface 115 (.agg #[]):=hro;have hta:=ZI W1;have c3:=hb.cells.1.2.2.2.1;have hF:=aa2 s1 h1;have hRH:=ae hR;have q1:=ag (w:=W1.drew) mb1 1;have hS0:W1.drew.cell? (aW mb 1)=some (m.e:aV):=q1;clear hb hst h1 hl1 s1 mb1 mo1 hW1 hmb hbx e2 hls hsm hn3 hn1 hrr hR q1;go_enter func104,ntmps104
  go_wp2_with ((with_reducible apply BM);exact xH.out;simp only [Act.put,lsa,lsz,lss])
  refine Aa (fun w'=>w'.cell? (aW mb 1)=some (m.e:aV)) (fun _=>true) bf hS0 (fun hHeld => ?_);refine tq 0 (h:=tq 1 (h:=ts 2 (h:=ts 3 (h:=ts 4 (h:=ts 5 (h:=ts 6 (h:=ts 7 (h:=ts 8 (h:=tq 9 (h:=tD (h:=?_)))))))))));clear hHeld hS0;go_wp2_with fail;go_ret;refine ⟨_,o1,rfl,hF.out.1.drew.mono dh, ?_, ?_⟩
  ·rw [<-hRH.out];exact Dn.nil _ _
  ·rw [<-hRH.out];exact hF.out.2.step0 (aj.refl ai W1 o1).drew
 | stands mine has =>
  rw [hrr] at hR hro;obtain ⟨p,rfl,hsa⟩:=hro;clear hsa;have hta:=ZG W1 (some ⟨p,0,none⟩);have c3:=hb.cells.1.2.2.2.1;have hF:=aa2 s1 h1;have hRH:=ae hR;have q1:=ag (w:=W1.drew) mb1 1;have hS0:W1.drew.cell? (aW mb 1)=some (m.e:aV):=q1;clear hb hst h1 hl1 s1 mb1 mo1 hW1 hmb hbx e2 hls hsm hn3 hn1 hrr hR q1;go_enter func104,ntmps104
  go_wp2_with ((with_reducible apply BM);exact xH.out;simp only [Act.put,lsa,lsz,lss])
  refine Aa (fun w'=>w'.cell? (aW mb 1)=some (m.e:aV)) (fun _=>true) bf hS0 (fun hHeld => ?_);refine tq 0 (h:=tq 1 (h:=ts 2 (h:=ts 3 (h:=ts 4 (h:=ts 5 (h:=ts 6 (h:=ts 7 (h:=ts 8 (h:=tq 9 (h:=tD (h:=?_)))))))))));clear hHeld hS0;go_wp2_with fail;go_ret;refine ⟨_,o1,rfl,hF.out.1.drew.mono dh, ?_, ?_⟩
  ·rw [<-hRH.out];exact Dn.nil _ _
  ·rw [<-hRH.out];exact hF.out.2.step0 (aj.refl ai W1 o1).drew
 | leads mine nR base ready =>
  rw [hrr] at hR hro;obtain ⟨p,rfl,hla⟩:=hro;have hln:GV W1 o1 D M pz ps pd p z mine nR base ready:=⟨hDM,hb,hla,hst⟩;have yS:=hp.ok.ro;rw [show z.BN.BB=z.BB from rfl,hrr] at yS;obtain ⟨-,hml,AeM⟩:=yS;have hml:nR.length=z.n:=hml;have AeM:∀ x ∈ nR, -1<=x/\x<=(z.s.kept.lines.length:Int):=AeM;obtain ⟨b,cap,hp1,hpo,hr,wR,hcl,hcm⟩:=hla;have hta:=ZH W1 (some ⟨p,0,none⟩);have c3:=hb.cells.1.2.2.2.1;have q1:=ag (w:=W1.drew) mb1 1;have p0:=ag (w:=W1.drew) hp1 0;simp only [ay] at p0;have hS2:=aI (show W1.drew.cell? (aW mb 1)=some (m.e:aV) from q1) p0;simp only at hR
  by_cases hme:mine=m.e
  ·rw [if_pos hme] at hR;have Aqv:(mine.toNat:Int)=(m.e.toNat:Int):=by rw [hme]
   obtain ⟨V,hV⟩:=az (W1.drew);obtain ⟨V2,hV2⟩:=az (V.drew);have k1:aj ai W1 o1 V2 o1:=by rw [<-hV2, <-hV];exact (aj.refl ai W1 o1).drew.drew
   have zX:=hln.step k1 dh;have mb2:=(k1.block mb (au mb1) id).trans mb1;have st2:=s1.trans k1;obtain ⟨x,hx⟩:=az (nR.getD src 0);obtain ⟨nn,hnn⟩:=az (nR.length);have hsl:src<nR.length:=by rw [hml];exact hsrc
   have hcell:∀ (W:World) (O:Own),aj ai V2 o1 W O->(W.cell? (aW mb 1)=some (m.e:aV)/\W.cell? (aW mb 3)=some (m.at':aV)/\W.cell? (aW pz 2)=some (.pointer ps)/\W.cell? (aW p 1)=some (.slice b nn cap)/\W.cell? (aW b src)=some (.int .i64 x)):=by
    intro W O hJ;have Aut:=(hJ.block mb (au mb2) id).trans mb2;have hk:=k1.trans hJ;have e2:=(hb.step hk id).cells.1.2.2.1;have g1:=ag ((hk.block p (au hp1) id).trans hp1) 1;simp only [ay,ax] at g1;rw [hnn] at g1;have g2:=ag ((hk.block b (au hr) id).trans hr) src;refine ⟨ag Aut 1,ag Aut 3,e2,g1, ?_⟩;rw [g2];rw [List.getD_eq_getElem?_getD,List.getElem?_eq_getElem hsl] at hx;simp only [Option.getD_some] at hx;simp [ivs,List.getElem?_eq_getElem hsl,hx]
   have hkp:=ae (DJ (hst.step0 k1) hsm);obtain ⟨L,hL⟩:=az (z.s.kept.lines.length);obtain ⟨mn,hmn⟩:=az (min m.at' L);have hx1:min (m.at':Int) (L:Int)=(mn:Int):=aP
   obtain ⟨y,hy⟩:=az (max x (mn:Int));have hR2:(z.count m.e (nR.set src y) base ready,[])=R:=by rw [<-hR,hx,hL,hmn,hy,hme]
   have hxm:x ∈ nR:=by rw [<-hx,List.getD_eq_getElem?_getD,List.getElem?_eq_getElem hsl];exact List.getElem_mem hsl
   have hxb:=AeM x hxm;have AoX:=hls.n;have hmc:∀ u ∈ nR.set src y, -1<=u/\u<=256:=by
    intro u hu
    rcases List.mem_or_eq_of_mem_set hu with h | h
    ·have:=AeM u h;omega
    ·rw [h, <-hy];omega
   have hRH:=ae hR2;have hcH:=ae hcell;have hS3:=hcell V2 o1 (aj.refl _ _ _);have hS1:V.cell? (aW mb 1)=some (m.e:aV)/\V.cell? p=some (mine:aV):=by rw [<-hV];exact hS2
   have hHH:=aa3 zX mb2 st2;have BcB:(0:Int)<=(src:Int)/\(src:Int)<(nn:Int):=aP
   have hKK:=aa8 hml hsl hnn hmc hn1 hn3 hls hsm;have hco:z.Ag<=z.s.kept.lines.length:=hp.ok.co;have hid:z.id<z.n:=hp.ok.id;have hKC:=aa2 hco hid;have hLH:=ae hL;have BaJ:=ae hDM;have haI:(0:Int)<=(m.at':Int)/\(m.at':Int)<=256:=by have:=hm.a1;omega
   have hLI:(0:Int)<=(L:Int)/\(L:Int)<=256:=aP
   have hxI : -1<=x/\x<=256:=aP
   rw [<-hV2] at hS3;have Azn:=ae hme;clear hb hst h1 hl1 s1 mb1 mo1 hW1 hmb hbx e2 hls hsm hn3 hn1 hrr hR q1 p0 hln hp1 hpo hr wR hcl hcm hme AeM hml hcell k1 zX mb2 st2 hx hnn hsl hmn hR2 hxm hxb AoX hmc hco hid hL hDM;go_enter func104,ntmps104
   go_wp2_with ((with_reducible apply BM);exact xH.out;simp only [Act.put,lsa,lsz,lss])
   refine Aa (fun w'=>w'.cell? (aW mb 1)=some (m.e:aV)/\w'.cell? p=some (mine:aV)) (fun _=>true) bf hS2 (fun hHeld => ?_);rw [hV] at hHeld ⊢;refine tq 0 (h:=tq 1 (h:=tq 2 (h:=tq 3 (h:=tq 4 (h:=tq 5 (h:=tq 6 (h:=tq 7 (h:=tq 8 (h:=tq 9 (h:=tD (h:=?_)))))))))));clear hHeld hS2 hS1 hV;go_wp2_with fail;refine Aa (fun w'=>w'.cell? (aW mb 1)=some (m.e:aV)/\w'.cell? (aW mb 3)=some (m.at':aV)/\w'.cell? (aW pz 2)=some (.pointer ps)/\w'.cell? (aW p 1)=some (.slice b nn cap)/\w'.cell? (aW b src)=some (.int .i64 x)) (fun i=>decide (i<24)) bf hS3 (fun hHeld => ?_);rw [hV2] at hHeld ⊢;clear hV2 hS3;refine tq 0 (h:=tq 1 (h:=tq 2 (h:=tq 3 (h:=tq 4 (h:=tq 5 (h:=tq 6 (h:=tq 7 (h:=tq 8 (h:=tq 9 (h:=tq 10 (h:=tq 11 (h:=tq 12 (h:=tq 13 (h:=?_))))))))))))));refine tq 14 (h:=tq 15 (h:=tq 16 (h:=tq 17 (h:=tO 18 (h:=?_)))));go_wp2_with fail;refine hkp.out.mono ?_;rintro ex W9 ⟨v9,o9,rfl,hs9,lk9,rfl,AhZ,rfl⟩;obtain ⟨k9a,k9c,rfl⟩:=AhZ.form;rw [hLH.out];obtain ⟨zX,mb2,st2⟩:=hHH.out;have Akl:=zX.step hs9 dh;obtain ⟨Arw,hb9,⟨b',cap',hp9,AnL,hr9,AlA,Avk,Avj⟩,wL⟩:=Akl;have hS9:=hcH.out W9 _ hs9;have e1:=ag hp9 1;simp only [ay,ax] at e1;rw [hS9.2.2.2.1] at e1;simp only [Option.some.injEq,Value.slice.injEq,Addr.mk.injEq,and_true] at e1;obtain ⟨rfl, -,rfl⟩:=e1;have kst:=(aj.refl (ak (M+4)) W9 (ext V2 o1)).setCell (a:=(aW b src)) (.int .i64 y) (.inl (by show (ext V2 o1 b).1=_;rw [AlA]));have AeD:=Ai (i:=src) (.int .i64 y) hr9;rw [XP] at AeD;have hpb:p ≠ b:=fun h=>by rw [h,AlA] at AnL;cases AnL
   have hzb:pz ≠ b:=fun h=>by have:=hb9.2;rw [h,AlA] at this;cases this
   have AeW:=(Below.heap_setCell W9 (aW b src) (.int .i64 y) p hpb).trans hp9;have AgE:GK (W9.setCell (aW b src) (.int .i64 y)) (ext V2 o1) (M+4) pz ps (.iface 87 (.pointer p)) z:=⟨(Below.heap_setCell W9 (aW b src) (.int .i64 y) pz hzb).trans hb9.1,hb9.2⟩;have AfY:GV (W9.setCell (aW b src) (.int .i64 y)) (ext V2 o1) D M pz ps pd p z mine (nR.set src y) base ready:=⟨Arw,AgE,⟨b,cap,by rw [List.length_set];exact AeW,AnL,AeD,AlA,by rw [List.length_set];exact Avk,Avj⟩,wL.step kst (InN.self Arw.1)⟩;obtain ⟨hml,hsl,hnn,hmc,hn1,hn3,hls,hsm⟩:=hKK.out;have hcnt:=ae (count_any AfY hsm hls.n (by rw [List.length_set];omega) (by rw [List.length_set];omega) (by rw [List.length_set,hml];exact hKC.out.2) hmc (by have:=hKC.out.1;have:=hls.n;omega));have fb:=Ap hr9 src;have cb:=hS9.2.2.2.2;have Afd:=ae ((st2.trans hs9).mono (T':=InN D M) dh |>.trans (kst.mono (T':=InN D M) (fun k h=>(show InN D M k by cases h;exact InN.own))));have hfk:=fun W=>He W (z.s.kept.promised:aV) (z.s.kept.current:aV) (.slice k9a L k9c);unfold Dy;clear hs9 AhZ zX mb2 st2 Arw hb9 hp9 AnL hr9 AlA Avk Avj wL kst AeD hpb hzb AeW AgE AfY hml hsl hnn hmc hn1 hn3 hls hsm hkp hHeld;go_wp2_with fail;refine ⟨fun _=>hS9, ?_⟩;refine tq 19 (h:=tq 20 (h:=tq 21 (h:=tq 22 (h:=tq 23 (h:=tO 24 (h:=?_))))));go_wp2_with fail;refine ⟨fun h=>by simp at h, ?_⟩;refine tD (h:=?_);clear cb fb hfk;go_wp2_with fail;refine hcnt.out.mono ?_;rintro ex W11 ⟨v11,o11,rfl,hs11,rfl,r,AiY,AoU⟩;have hF:=aa2 (Afd.out.trans (hs11.mono (T':=InN D M) (fun k h=>(show InN D M k by cases h;exact InN.own)))) (AoU.node AiY);clear hs11 AiY AoU hcnt;go_wp2_with fail;go_ret;refine ⟨_,o11,rfl,hF.out.1, ?_, ?_⟩
   ·rw [<-hRH.out];exact Dn.nil _ _
   ·rw [<-hRH.out];have h:=hF.out.2;rw [Azn.out] at h;exact h
  ·rw [if_neg hme] at hR;have Aqv:¬ (mine.toNat:Int)=(m.e.toNat:Int):=fun h=>hme (BitVec.eq_of_toNat_eq aP);have hF:=aa2 s1 h1;have hRH:=ae hR;clear hb hst h1 hl1 s1 mb1 mo1 hW1 hmb hbx e2 hls hsm hn3 hn1 hrr hR q1 p0 hln hp1 hpo hr wR hcl hcm hme AeM hml;go_enter func104,ntmps104
   go_wp2_with ((with_reducible apply BM);exact xH.out;simp only [Act.put,lsa,lsz,lss])
   refine Aa (fun w'=>w'.cell? (aW mb 1)=some (m.e:aV)/\w'.cell? p=some (mine:aV)) (fun _=>true) bf hS2 (fun hHeld => ?_);refine tq 0 (h:=tq 1 (h:=tq 2 (h:=tq 3 (h:=tq 4 (h:=tq 5 (h:=tq 6 (h:=tq 7 (h:=tq 8 (h:=tq 9 (h:=tD (h:=?_)))))))))));clear hHeld hS2;go_wp2_with fail;go_ret;refine ⟨_,o1,rfl,hF.out.1.drew.mono dh, ?_, ?_⟩
   ·rw [<-hRH.out];exact Dn.nil _ _
   ·rw [<-hRH.out];exact hF.out.2.step0 (aj.refl ai W1 o1).drew
end
theorem gW (w:World) (p:Option Addr):(Instr.typeAssert (.iface 87 (.pointer p)) 84 87 false).run prog w = .ok (.pointer p) w:=bf
theorem LV (w:World) (e:Int) (bv:Value):(Instr.buildSlice 32 1 #[(0, .agg #[.int .u64 e,bv])]).run prog w = .ok (.slice w.heap.size 1 1) (w.alloc (.cells [.int .u64 e,bv].toArray 36)):=
 Dv w 32 36 [.int .u64 0, .slice none 0 0] (.agg #[.int .u64 e,bv]) [.int .u64 e,bv] underlying32 bf rfl bu bu rfl
theorem NM (h:Bytes w o bv b) :
  Lines (w.alloc (.cells [(e:aV),bv].toArray 36)) (Ak o w.heap.size (0,0)) 0 (.slice w.heap.size 1 1) [⟨e,b⟩]:=by
 have hs:=(aj.refl ai w o).alloc (.cells [(e:aV),bv].toArray 36) (0,0);refine ⟨[(e:aV),bv], .inr ⟨w.heap.size,0,1,rfl,bu,bz,by rw [Au],bu, ?_⟩,sW.single ⟨e,b⟩ (h.step hs id),CV.zero _,fun u _=>CV.zero u⟩;exact AV (heap_alloc_new w _)
section
variable {w:World} {o:Own} {D M pz ps pd K B:Nat} {z:Am}
theorem dJ (h:Bc w o D M pz ps pd z) (hd:z.dead=true) (la:Option Addr) (ln lc:Nat):Calls prog 14 #[.pointer pz, .slice la ln lc] w fun e w'=>e = .returned (.int .i64 9)/\w=w':=by
 have hdd:=FI h;rw [hd] at hdd;have AbE:=ae hdd;clear h hd hdd;go_enter func14,ntmps14;go_wp2_with fail;refine AbE.out.mono ?_;rintro e w' ⟨rfl,rfl⟩;go_wp2_with fail;go_ret;exact ⟨rfl,rfl⟩
theorem UW (h:Bc w o D M pz ps pd z) (hp:Am.NP K B z) (hK:K+600<65536) {l:List UInt8} (hb:Bytes w o bv l) (hB:B+l.length<=90000) :
  Calls prog 14 #[.pointer pz,bv] w (XL (InN D M) w o fun v w' o'=>v = .int .i64 (z.BL l).2/\Bc w' o' D M pz ps pd (z.BL l).1):=by
 have hdd:=FI h;have hdl:z.dead=false:=hp.sp.dead;rw [hdl] at hdd;have AbE:=ae hdd;obtain ⟨R,hR⟩:=az (z.BL l);rw [hR];obtain ⟨ba,bc,rfl⟩:=Aq hb;obtain ⟨n,hn⟩:=az (l.length);have hnI:(0:Int)<=(n:Int)/\(n:Int)<=90000:=aP
 rw [hn];unfold Am.BL at hR;rw [hn] at hR;have hH:=ae h
 by_cases hlen:n=0 \/ 4096<n
 ·rw [if_pos hlen] at hR;have hRH:=ae hR;clear hdd hdl hR h hp hb hn
  by_cases h0:n=0
  ·subst h0;clear hlen;go_enter func14,ntmps14;go_wp2_with fail;refine AbE.out.mono ?_;rintro e w' ⟨rfl,rfl⟩;go_wp2_with fail;go_ret;exact ⟨_,o,rfl,aj.refl _ _ _,by rw [<-hRH.out];rfl,by rw [<-hRH.out];exact hH.out⟩
  ·have h1:((n:Int) == 0)=false:=by
    have:¬ (n:Int)=0:=aP
    simpa using this
   have h2:(4096:Int)<(n:Int):=aP
   clear hlen;go_enter func14,ntmps14;go_wp2_with fail;refine AbE.out.mono ?_;rintro e w' ⟨rfl,rfl⟩;go_wp2_with fail;go_ret;exact ⟨_,o,rfl,aj.refl _ _ _,by rw [<-hRH.out];rfl,by rw [<-hRH.out];exact hH.out⟩
 ·rw [if_neg hlen] at hR;have h1:((n:Int) == 0)=false:=by
   have:¬ (n:Int)=0:=aP
   simpa using this
  have h2:decide ((4096:Int)<(n:Int))=false:=decide_eq_false aP;have hle:=RF h
  cases hL:z.BN.OD with
  | false =>
   rw [hL] at hle;have AnV:=ae hle;have hR2:(z,(64:Int))=R:=by
    rw [<-hR];have hL':(match z.BB with | .leads _ _ _ r=>r | _=>false)=false:=hL
    cases hrr:z.BB with
    | follows=>rfl
    | stands a b=>rfl
    | leads a b c r =>
     rw [hrr] at hL';simp only at hL';subst hL';rfl
   have hRH:=ae hR2;clear hdd hdl hR hR2 h hp hb hn hlen hle hL;go_enter func14,ntmps14;go_wp2_with fail;refine AbE.out.mono ?_;rintro e w' ⟨rfl,rfl⟩;go_wp2_with fail;refine AnV.out.mono ?_;rintro e w' ⟨rfl,rfl⟩;go_wp2_with fail;go_ret;exact ⟨_,o,rfl,aj.refl _ _ _,by rw [<-hRH.out];rfl,by rw [<-hRH.out];exact hH.out⟩
  | true =>
   rw [hL] at hle;have AnV:=ae hle;obtain ⟨mine,nR,base,hrr⟩:∃ mine nR base,z.BB = .leads mine nR base true:=by
    have hL':(match z.BB with | .leads _ _ _ r=>r | _=>false)=true:=hL
    cases hrr:z.BB with
    | follows=>rw [hrr] at hL';cases hL'
    | stands a b=>rw [hrr] at hL';cases hL'
    | leads a b c r =>
     rw [hrr] at hL';simp only at hL';subst hL';exact ⟨a,b,c,rfl⟩
   rw [hrr] at hR;simp only at hR;have hls:En B z.s.kept.lines:=hp.ok.ls;have hsm:=En.small hls aP;have hkp:=ae (DJ h.store hsm);obtain ⟨L,hLL⟩:=az (z.s.kept.lines.length);rw [hLL] at hR;have hLI:(0:Int)<=(L:Int)/\(L:Int)<=256:=by have:=hls.n;omega
   obtain ⟨-, -,c2, -⟩:=h.cell
   by_cases hfull:256<=L
   ·rw [if_pos hfull] at hR;have hRH:=ae hR;have hfI:(256:Int)<=(L:Int):=aP
    have Akq:=ae hLL;clear hdd hdl hR h hp hb hn hlen hle hL hrr hls hsm hLL;go_enter func14,ntmps14;go_wp2_with fail;refine AbE.out.mono ?_;rintro e w' ⟨rfl,rfl⟩;go_wp2_with fail;refine AnV.out.mono ?_;rintro e w' ⟨rfl,rfl⟩;go_wp2_with fail;refine hkp.out.mono ?_;rintro e w1 ⟨v1,o1,rfl,hs1,lk,rfl,hlk,rfl⟩;obtain ⟨ka,kc,rfl⟩:=hlk.form;have hfk:=fun W=>He W (z.s.kept.promised:aV) (z.s.kept.current:aV) (.slice ka L kc);have hF:=aa2 hs1 (hH.out.step0 hs1);rw [Akq.out];unfold Dy;clear hs1 hlk hkp;go_wp2_with fail;go_ret;exact ⟨_,_,rfl,hF.out.1.mono dh,by rw [<-hRH.out];rfl,by rw [<-hRH.out];exact hF.out.2⟩
   ·rw [if_neg hfull] at hR;have hfI:¬ (256:Int)<=(L:Int):=aP
    have yS:=hp.ok.ro;rw [show z.BN.BB=z.BB from rfl,hrr] at yS;obtain ⟨-,hml,AeM⟩:=yS;have hml:nR.length=z.n:=hml;have AeM:∀ x ∈ nR, -1<=x/\x<=(z.s.kept.lines.length:Int):=AeM;have hn3:z.n<=3:=hp.ok.n3;have hn1:1<=z.n:=hp.ok.n1;have hid:z.id<z.n:=hp.ok.id;have hco:z.Ag<=z.s.kept.lines.length:=hp.ok.co;have hl0:AP [⟨mine,l⟩]=l.length:=by simp [AP]
    have hlb:=hls.b;have hn0:0<n/\n<=4096:=aP
    have hfit:=Jy hp.sp hK hp.kok [⟨mine,l⟩] (by rw [hl0];omega);have AnH:small [⟨mine,l⟩]:=by
     refine ⟨bu, ?_⟩;rw [Ej,hl0];simp only [List.length_singleton];omega
    have Afm:small (z.s.kept.lines++[⟨mine,l⟩]):=by
     refine ⟨by simp only [List.length_append,List.length_singleton];omega, ?_⟩;rw [Ej,DV,hl0];simp only [List.length_append,List.length_singleton];omega
    obtain ⟨p,hln⟩:=h.leads hrr;have Akk:=ae hln;rw [hn] at hb;have xZ:=ae hb;have hPH:=ae hp.sp;have hI:=aa9 hml AeM hn3 hn1 hid hco hsm AnH Afm;have Akq:=ae hLL;have AeO:=ae hfit;have AtA:=ae hrr;clear hdd hdl h hp hb hn hlen hle hL hrr hls hsm hml AeM hn3 hn1 hid hco hl0 hlb AnH Afm hln hfit hLL hfull;go_enter func14,ntmps14;go_wp2_with fail;refine AbE.out.mono ?_;rintro e w' ⟨rfl,rfl⟩;go_wp2_with fail;refine AnV.out.mono ?_;rintro e w' ⟨rfl,rfl⟩;go_wp2_with fail;refine hkp.out.mono ?_;rintro e w1 ⟨v1,o1,rfl,hs1,lk,rfl,hlk,rfl⟩;obtain ⟨ka,kc,rfl⟩:=hlk.form;have hfk:=fun W=>He W (z.s.kept.promised:aV) (z.s.kept.current:aV) (.slice ka L kc);rw [Akq.out];unfold Dy;obtain ⟨o1,ho1⟩:=az (ext w o);rw [ho1] at hs1;have AfZ:=Akk.out.step hs1 (fun t (h:ai t)=>False.elim h);have hb1:=xZ.out.step hs1 id;have e3:=AfZ.2.1.cells.1.2.2.2.1;have hta:=gW w1 (some ⟨p,0,none⟩);obtain ⟨V,hV⟩:=az (w1.drew);have k1:aj ai w1 o1 V o1:=by rw [<-hV];exact (aj.refl ai w1 o1).drew
    have zX:=AfZ.step k1 (fun t (h:ai t)=>False.elim h);have hb2:=hb1.step k1 id;obtain ⟨W2,hW2⟩:=az (V.alloc (.cells [(mine:aV), .slice ba n bc].toArray 36));have hbs:(Instr.buildSlice 32 1 #[(0, .agg #[(mine:aV), .slice ba n bc])]).run prog V = .ok (.slice V.heap.size 1 1) W2:=by rw [<-hW2];exact LV V _ _
    have hlo:Lines W2 (Ak o1 V.heap.size (0,0)) 0 (.slice V.heap.size 1 1) [⟨mine,l⟩]:=by rw [<-hW2];exact NM hb2
    have k2:aj ai V o1 W2 (Ak o1 V.heap.size (0,0)):=by rw [<-hW2];exact (aj.refl ai V o1).alloc _ _
    have AlY:=zX.step k2 (fun t (h:ai t)=>False.elim h);have hcl:∀ (W:World) (O:Own) (y:Am),GV W O D M pz ps pd p y mine nR base true->(W.cell? (aW pz 2)=some (.pointer ps)/\W.cell? p=some (mine:aV)):=by
     intro W O y hW;obtain ⟨-,hb',⟨b,cap,hp1, -⟩, -⟩:=hW;have e2:=hb'.cells.1.2.2.1;have g1:=ag hp1 0;simp only [ay] at g1;exact ⟨e2,g1⟩
    have hS:w1.drew.cell? (aW pz 2)=some (.pointer ps)/\w1.drew.cell? p=some (mine:aV):=by rw [hV];exact hcl V _ _ zX
    have hS3:=hcl W2 _ _ AlY;have xG:=ae hcl;have hap:=ae (Ob AlY.1 AlY.2.2.2 hPH.out hlo hI.out.2.2.2.2.2.2.2.1 hI.out.2.2.2.2.2.2.1 (.inl hI.out.2.2.2.2.2.2.2.2));have hF:=aa2 (hs1.trans (k1.trans k2)) AlY;have AaP:=ae hbs;obtain ⟨Q,hQQ⟩:=az (z.s.append [⟨mine,l⟩]);rw [hQQ] at hap hR AeO;obtain ⟨vb,hvb⟩:=az (V.heap.size);rw [hvb] at hap AaP hF;clear hs1 hlk hkp AfZ hb1 k1 zX hb2 hlo k2 AlY hcl hbs hW2;have hRH:=ae hR;clear hR;go_wp2_with fail;refine Aa (fun w'=>w'.cell? (aW pz 2)=some (.pointer ps)/\w'.cell? p=some (mine:aV)) (fun _=>true) bf hS (fun hHeld => ?_);rw [hV] at hHeld ⊢;clear hS hV;refine tq 0 (h:=tq 1 (h:=tq 2 (h:=tq 3 (h:=tq 4 (h:=tq 5 (h:=tq 6 (h:=tq 7 (h:=tq 8 (h:=tq 9 (h:=tO 10 (h:=?_)))))))))));refine BO #[(0, .agg #[(mine:aV), .slice ba n bc])] rfl AaP.out ?_;refine ⟨fun _=>hS3, ?_⟩;refine tO 11 (h:=?_);go_wp2_with fail;refine hap.out.mono ?_;rintro ex W4 ⟨v4,o4,rfl,hs4,rfl,pX⟩;obtain ⟨Akr,hb3,AuG,hst3⟩:=hF.out.2;have Aes:GV W4 o4 D M pz ps pd p { z with s:=Q.1 } mine nR base true:=⟨Akr,hb3.step hs4 (InN.WZ Akr.1 Akr.2),AuG.step hs4 (InN.WZ Akr.1 Akr.2),pX⟩;have hS4:=xG.out W4 _ _ Aes;have hG:=aa2 ((hF.out.1.mono (T':=InN D M) (fun _ (h:ai _)=>False.elim h)).trans (hs4.mono InN.in4)) Aes;clear hs4 pX Akr hb3 AuG hst3 Aes hHeld;go_wp2_with fail;refine ⟨fun _=>hS4, ?_⟩;refine tq 12 (h:=tD (h:=?_))
    rcases AeO.out with ⟨hf1,hf2⟩ | ⟨hf0,s',hf2,hf3,hf4⟩
    ·subst hf2;clear hap AeO hS3 hS4 hfk e3 hta;go_wp2_with fail;go_ret;have hR:=hRH.out;rw [if_neg (fun h=>by cases h)] at hR;refine ⟨_,o4,rfl,hG.out.1, ?_, ?_⟩
     ·rw [<-hR];rfl
     ·rw [<-hR, <-AtA.out];exact hG.out.2.node AtA.out
    ·subst hf2;have hR:=hRH.out;rw [if_pos rfl] at hR;obtain ⟨hml,AeM,hn3,hn1,hid,hco,hsm,AnH,Afm⟩:=hI.out;have hkl:s'.kept.lines=z.s.kept.lines++[⟨mine,l⟩]:=by rw [hf4,Ih hf0]
     have hLL:=Akq.out;have hcnt:=ae (count_any hG.out.2 (show small s'.kept.lines by rw [hkl];exact Afm) (show s'.kept.lines.length<=256 by rw [hkl,List.length_append,List.length_singleton];omega) (by rw [hml];exact hn1) (by rw [hml];exact hn3) (show z.id<nR.length by rw [hml];exact hid) (by intro x hx;have:=AeM x hx;omega) (show z.Ag<=256 by omega));have Ajo:=ae hR;clear hap AeO hS3 hS4 hfk e3 hta hR hRH hml AeM hn3 hn1 hid hco hsm AnH Afm hkl hLL hI hf0 hf3 hf4;go_wp2_with fail;refine hcnt.out.mono ?_;rintro ex W5 ⟨v5,o5,rfl,hs5,rfl,r,hr5,AuC⟩;have hE:=aa2 (hG.out.1.trans (hs5.mono (T':=InN D M) (fun k h=>(show InN D M k by cases h;exact InN.own)))) (AuC.node hr5);clear hs5 hr5 AuC hcnt;go_wp2_with fail;go_ret;refine ⟨_,o5,rfl,hE.out.1, ?_, ?_⟩
     ·rw [<-Ajo.out];rfl
     ·rw [<-Ajo.out];exact hE.out.2
end
theorem Zj (b off k:Nat):((aW b off):Addr).add k=(aW b (off+k)):=by
 unfold Addr.add;split
 ·rename_i h;subst h;rfl
 ·rfl
def Dj (n k:Nat):List Value:=List.replicate k (.int .i64 (-1))++List.replicate (n - k) (.int .i64 0)
theorem Ls {b:Nat} (n:Nat) (h1:1<=n) (h3:n<=3) (hc:w.cell? b=some (.int .i64 (-1))) (hb:b<w.heap.size) :
  Calls prog 147 #[.slice b 1 1, (n:aV)] w (XL ai w o fun v w' o'=>v = .slice w.heap.size n n/\w'.heap[w.heap.size]?=some (.cells (ivs (List.replicate n (-1))).toArray 3 (0,0))/\o'=Ak o w.heap.size (0,0)):=by
 have hmul:=Tryz.bits_Mul 1 n aP aP w;have e0:1*n / 18446744073709551616=0:=aP
 have e1:1*n % 18446744073709551616=n:=aP
 rw [e0,e1] at hmul;have hmk:=Gy (P:=prog) w 89 3 [.int .i64 0] 1 8 underlying89 bf rfl n aP aP .i64 .i64;have e2:(List.replicate n [Value.int .i64 0]).flatten=Dj n 0:=by
  unfold Dj;simp
 rw [e2] at hmk;obtain ⟨W,hW⟩:=az (w.alloc (.cells (Dj n 0).toArray 3));have hg:W.heap[w.heap.size]?=some (.cells (Dj n 0).toArray 3 (0,0)):=by rw [<-hW];exact heap_alloc_new w _
 have hst:aj ai w o W (Ak o w.heap.size (0,0)):=by rw [<-hW];exact (aj.refl ai w o).alloc _ _
 have hcW:W.cell? b=some (.int .i64 (-1)):=by rw [World.cell?_of_block (w:=w) (a:=b) (hst.block b hb id)];exact hc
 rw [hW] at hmk;obtain ⟨g,hgE⟩:=az (w.heap.size);rw [hgE] at hmk hg hst ⊢;have Ajb:=ae hmk;have s3:(prog.info? 3).map (·.size)=some 1:=bf
 have hcp:=run_copy_cells (P:=prog) W 89 89 3 3 g 0 n n b 1 1 [.int .i64 (-1)] underlying89 s3 (by show 1=min 1 n;omega) (fun j v hj=>by
  match j,hj with
  | 0,hj=>simp only [ay,Option.some.injEq] at hj;subst hj;exact hcW
  | j+1,hj=>simp at hj) (fun j hj=>by
  obtain rfl:j=0:=by simpa using hj
  rw [Nat.add_zero,ag hg,List.getElem?_eq_getElem (by simp [Dj];omega)];rfl) (fun j hj=>Ap hg _) (by simp [Value.oneCell'])
 have hg1:=BP g 3 [.int .i64 (-1)] 0 W _ hg (by simp [Dj];omega);have e3:((Dj n 0).take 0++[Value.int .i64 (-1)]++(Dj n 0).drop (0+[Value.int .i64 (-1)].length))=Dj n 1:=by
  unfold Dj
  rcases (show n=1 \/ n=2 \/ n=3 by omega) with rfl | rfl | rfl <;> rfl
 rw [e3] at hg1;have hst1:=hst.setCells g 0 [.int .i64 (-1)] (.inr aP);obtain ⟨W1,hW1⟩:=az (W.setCells g 0 [.int .i64 (-1)]);rw [hW1] at hcp hg1 hst1;have Amm:=ae hcp;have AoO:=ae hmul;have nI:(1:Int)<=(n:Int)/\(n:Int)<=3:=aP
 have hgH:=ae hgE;clear hmul hmk hcp hg hst hcW hW hW1 e2 e3 e0 e1 hc hb hgE;go_enter func147,ntmps147;go_wp2_with fail;refine AoO.out.mono ?_;rintro e w' ⟨rfl,rfl⟩
 go_wp2_with (first
  | ((with_reducible apply IC);exact Ajb.out;simp only [Act.put,lsa,lsz,lss])
  | ((with_reducible apply Vo);exact Amm.out;simp only [Act.put,lsa,lsz,lss]))
 clear Ajb Amm AoO
 go_loopw [8] (fun x wr=>∃ (k:Nat) (oj:Own),1<=k/\k<=n/\x = .int .i64 (k:Int)/\aj ai w' o wr (Ak o g (0,0))/\wr.heap[g]?=some (.cells (Dj n k).toArray 3 (0,0))) (fun x _=>n - (intOf x).toNat)
 case atStart=>exact ⟨1,o,aP,aP,rfl,hst1,hg1⟩
 case round =>
  clear hst1 hg1;obtain ⟨k,oj,hk1,hk,rfl,hst,hg⟩:=hrel
  by_cases hlt:k<n
  ·have AbY:(k:Int)<(n:Int):=aP
   have hkI:(1:Int)<=(k:Int):=aP
   obtain ⟨m,hm⟩:=az (min k (n - k));have hgd:wr.drew.heap[g]?=some (.cells (Dj n k).toArray 3 (0,0)):=hg;have hlen:(Dj n k).length=n:=by simp [Dj];omega
   have hcp:=run_copy_cells (P:=prog) wr.drew 89 89 3 3 g k (n - k) (n - k) g k n (List.replicate m (.int .i64 (-1))) underlying89 s3 (by rw [List.length_replicate];exact hm.symm) (fun j v hj=>by
    have hjm:j<m:=by have:=(List.getElem?_eq_some_iff.1 hj).1;simpa using this
    rw [List.getElem?_replicate,if_pos hjm] at hj;rw [Zj,Nat.zero_add,ag hgd,Dj,List.getElem?_append_left (by rw [List.length_replicate];omega),List.getElem?_replicate,if_pos aP];exact hj) (fun j hj=>by
    rw [List.length_replicate] at hj;rw [ag hgd,List.getElem?_eq_getElem (by rw [hlen];omega)];rfl) (fun j hj=>Ap hgd _) (by intro v hv;rw [List.eq_of_mem_replicate hv];rfl)
   have hg2:=BP g 3 (List.replicate m (.int .i64 (-1))) k wr.drew _ hgd (by rw [List.length_replicate,hlen];omega);have e3:((Dj n k).take k++List.replicate m (Value.int .i64 (-1))++(Dj n k).drop (k+(List.replicate m (Value.int .i64 (-1))).length))=Dj n (k+m):=by
    unfold Dj;rw [List.length_replicate,List.take_left' (by rw [List.length_replicate]),List.replicate_append_replicate,List.drop_append,List.length_replicate,List.drop_eq_nil_of_le (by rw [List.length_replicate];omega),List.nil_append,List.drop_replicate];congr 2;omega
   rw [e3] at hg2;have hst2:=hst.drew.setCells g k (List.replicate m (.int .i64 (-1))) (.inr (by rw [<-hgH.out];exact Nat.le_refl _));rw [List.length_replicate,show (some ((aW g k):Addr))=(if n=k then some ⟨g,0,none⟩ else some ⟨g,k,none⟩) from (if_neg aP).symm] at hcp
   have hF:=aa2 hst2 hg2;have Amm:=ae hcp;have hmI:(0:Int)<=(m:Int)/\(m:Int)<=3:=aP
   have hm2:1<=m/\k+m<=n:=aP
   have htr:True:=trivial;have hwI:IntKind.i64.wrap ((k:Int)+(m:Int))=(k:Int)+(m:Int):=IntWalk.i64_in _ aP;clear hst hg hgd hcp hg2 hst2 e3 hlen hm;go_wp2_with fail;refine Aa (fun w'=>True) (fun _=>true) bf htr (fun hHeld => ?_);refine tq 0 (h:=tq 1 (h:=tq 2 (h:=tq 3 (h:=tq 4 (h:=tq 5 (h:=tq 6 (h:=tO 7 (h:=?_))))))));refine Vo Amm.out ?_;refine wpList_nil ?_;simp only [Act.put,lsa,lsz,lss];refine ⟨fun _=>htr, ?_⟩;refine tq 8 (h:=tq 9 (h:=tD (h:=?_)));obtain ⟨wz,hwz⟩:=az (wr.drew.setCells g k (List.replicate m (.int .i64 (-1))));rw [hwz] at hF ⊢;clear hwz Amm hwI;go_wp2_with fail;go_roundw
   case rel=>exact ⟨k+m,oj,aP,aP,by go_num,hF.out.1,hF.out.2⟩
   case measure=>simp [intOf];omega
  ·obtain rfl:n=k:=aP
   have hF:=ae (show wr.heap[g]?=some (.cells (ivs (List.replicate n (-1))).toArray 3 (0,0)) by
    rw [hg];unfold Dj ivs;simp)
   clear hg;go_wp2_with fail;go_ret;exact ⟨_,_,rfl,hst,rfl,hF.out,rfl⟩

end Go.Proofs.YthmpmgknnibljaaGreat
