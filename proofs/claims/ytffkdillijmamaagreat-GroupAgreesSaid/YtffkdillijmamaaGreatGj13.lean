/- Contracts of the net: own copy of a letter, Send. -/
import Derived.Deep.Upon
import Derived.Test.YtffkdillijmamaaGreatGj12
namespace Go.Proofs.YtffkdillijmamaaGreat
open Go.Proofs.Tryz
set_option maxRecDepth 100000
set_option maxHeartbeats 6400000
open Go Go.RowKit
attribute [local go_sem ↓] Go.wp_at_zero Go.wp_at_succ
variable {B R id n src:Nat}{m:BG}{bv v:Value}{g:GN}{t ts:DX}{w:World}{o:Own}{z:Aj}{b:Bool}{has:List (Option (BitVec 64 × List Ar))}{G:Gh}{mine:BitVec 64}
theorem vI:(prog.info? 104).map (·.size)=some 5:=by kernel_rfl
theorem Akv:(prog.info? 104).map (fun i=>(i.zero.map (fun z=>z.cells.toList),i.size,i.bytes))=some (some [.int .i64 0, .int .i64 0, .int .i64 0, .int .i64 0, .slice none 0 0],5,56):=by kernel_rfl
theorem AbQ {P:Program}{q:Func}{p:Tmp}{ty:TypeId}(h:q.results = #[.cell p ty]) (tmps:Array Value) (w:World) (g:Nat) (t:TypeId) (cs:Array Value) (fr:Nat × Nat) (d:TypeDesc)
  (hp:tmps.getD p undef = .pointer (some ⟨g,0,none⟩)) (r:w.heap[g]?=some (.cells cs t fr))
  (u:P.underlying ty=some d) (E:(match d with | .struct _ | .array _ _=>true | _=>false)=true) (hi:(P.info? ty).map (·.size)=some cs.size) :
  (results q tmps).run P w = .ok (.agg cs) w:=by
 rw [Array.getD_eq_getD_getElem?] at hp;simp [results,h,hp,asAddr,run_loadVar_row w g t ty cs fr d r u E hi]
section
variable {w:World}{o:Own}{N p:Nat}{g:GN}
theorem AaF.app {lv:Value}{xs:List Value}(h:AaF w o (N,1) lv n xs) (a:Addr) (m c:Nat) (q:List Value) (hl:q.length=5*m) (hn:∀ j v,q[j]?=some v->w.cell? (a.add j)=some v) (h1:∀ u ∈ q,u.oneCell'=true) (hm:0<m) (hb:n+m<=100000) :
  ∃ gr cap V oV,(Builtin.append_ #[31,31] 31 #[lv, .slice (some a) m c]).run prog w = .ok (.slice (some ⟨gr,0,none⟩) (n+m) cap) V/\aj (ak N) w o V oV/\AaF V oV (N,1) (.slice (some ⟨gr,0,none⟩) (n+m) cap) (n+m) (xs++q) /\
   (∀ k,k<w.heap.size->o k ≠ (N,1)->V.heap[k]?=w.heap[k]?/\oV k=o k)/\(∀ r c j,lv = .slice (some ⟨r,0,none⟩) n c->j<5*n->V.cell? ⟨r,j,none⟩=w.cell? ⟨r,j,none⟩):=by
 obtain ⟨i,z,hq,hz,e2,e3,e4⟩:=TQ Akv;have new:∀ cap,n+m<=cap->cap<=maxLen->∀ V:World,V=w.drew.alloc (.cells ((xs.toArray++q.toArray)++Builtin.zeroCells z.cells (cap - (n+m))) 104) ->
   aj (ak N) w o V (Ak o w.heap.size (N,1))/\AaF V (Ak o w.heap.size (N,1)) (N,1) (.slice (some ⟨w.heap.size,0,none⟩) (n+m) cap) (n+m) (xs++q)/\(∀ k,k<w.heap.size->o k ≠ (N,1)->V.heap[k]?=w.heap[k]?/\Ak o w.heap.size (N,1) k=o k):=by
  intro cap F h3 V hV;subst hV;have s:=((aj.refl (ak N) w o).drew).alloc (.cells ((xs.toArray++q.toArray)++Builtin.zeroCells z.cells (cap - (n+m))) 104) (N,1);have E:=h.1;have a4:z.cells.size=5:=by rw [e4] at *;rfl
  refine ⟨s,⟨by rw [List.length_append,E,hl];omega, .inr ⟨w.heap.size,cap,xs++q++(Builtin.zeroCells z.cells (cap - (n+m))).toList,rfl, ?_,F,h3, ?_, ?_,Au _ _ _⟩⟩,fun k hk _=>⟨Below.heap_alloc w.drew _ k hk,BI _ _ om⟩⟩
  ·refine (heap_alloc_new w.drew _).trans ?_;simp
  ·simp only [List.length_append,Array.length_toList,size_zeroCells,E,hl,a4];omega
  ·rw [List.take_append_of_le_length (by rw [List.length_append,E,hl];omega),List.take_of_length_le (by rw [List.length_append,E,hl];omega)]
 have a2:q.length=m*i.size:=by rw [hl,e2,Nat.mul_comm]
 have a3:∀ k,k<=100000->k*i.bytes<=140737488355328:=fun k hk=>by rw [e3];omega
 have gc:=grownCap_ge w (n+m)
 rcases h.2 with ⟨rfl,rfl⟩ | ⟨r,cap,cur,rfl,F,h3,h4,h5,h6,h7⟩
 ·have E:xs=[]:=List.eq_nil_of_length_eq_zero h.1;have O:=run_append_nil (P:=prog) (w:=w) 31 31 104 i z underlying31 hq hz a m c q a2 hn hm om (by have:=a3 m om;omega);obtain ⟨U,W,Y⟩:=new (grownCap w m 0 104) (by have:=grownCap_ge w m 0 104;omega) (grownCap_le_maxLen w m 0 104 (by unfold maxLen;omega)) _ rfl;rw [E] at U W Y ⊢;have e0:(([]:List Value).toArray++q.toArray)=q.toArray:=by simp
  rw [e0] at U W Y;simp only [Nat.zero_add] at U W Y O ⊢;exact ⟨_,_,_,_,O,U,W,Y,fun r c j e=>by cases e⟩
 ·have E:=h.1
  by_cases hr:n+m<=cap
  ·have hg:=au F;have O:=run_append_room_cells (P:=prog) w 31 31 104 i underlying31 hq r 0 n cap a m c q a2 hn h1 hr
    (fun j J=>(Dh F (0+n*i.size) q.length (by rw [e2,hl];omega) j J).1) (fun j J=>Ap F _)
   have a5:=BP r 104 q (0+n*i.size) w cur F (by rw [e2,hl];omega);refine ⟨_,_,_,o,O,(aj.refl (ak N) w o).setCells _ _ _ (.inl (by rw [h7];rfl)),⟨by rw [List.length_append,E,hl];omega, .inr ⟨r,cap,_,rfl,a5,hr,h4, ?_, ?_,h7⟩⟩,fun k _ hk=>⟨ah _ _ _ _ _ (by rintro rfl;exact hk h7),rfl⟩,fun g2 c j e J=>?_⟩
   ·simp only [List.length_append,List.length_take,List.length_drop,e2,hl];omega
   ·rw [e2,Nat.zero_add,show n*5=5*n by omega,h6,List.take_append_of_le_length (by rw [List.length_append,E,hl];omega),List.take_of_length_le (by rw [List.length_append,E,hl];omega)]
   ·simp only [Value.slice.injEq,Option.some.injEq,Addr.mk.injEq] at e;obtain ⟨⟨rfl,-⟩,-⟩:=e;exact World.cell?_setCells_out r _ _ _ _ (fun _ _=>.inl (by show j<0+n*i.size;rw [e2];omega))
  ·have hold:∀ j v,xs[j]?=some v->w.cell? ((⟨r,0,none⟩:Addr).add j)=some v:=by
    intro j v J;rw [Addr.add_lit,ag F];rw [<-h6,List.getElem?_take] at J;split at J
    ·simpa using J
    ·cases J
   have O:=run_append_grow (P:=prog) (w:=w) 31 31 104 i z underlying31 hq hz ⟨r,0,none⟩ n cap xs (by rw [E,e2,Nat.mul_comm]) hold a m c q a2 hn om om (growslice_fits om (a3 _ om));obtain ⟨U,W,Y⟩:=new (grownCap w (n+m) cap 104) (grownCap_ge w (n+m) cap 104) (grownCap_le_maxLen w (n+m) cap 104 (by unfold maxLen;omega)) _ rfl;exact ⟨_,_,_,_,O,U,W,Y,fun g2 c j e _=>by
    simp only [Value.slice.injEq,Option.some.injEq,Addr.mk.injEq] at e;obtain ⟨⟨rfl,-⟩,-⟩:=e;exact World.cell?_of_block (a:=⟨r,j,none⟩) (Below.heap_alloc w.drew _ r (au F))⟩
theorem sV.AkY {sv lv:Value}{mb cap m:Nat}{cs:List Value}{V:World}{oV:Own}{l':List Aci}(hN:N ≠ 0) (e1:w.heap[p]?=some (.cells [sv,lv, .map (some mb)].toArray 126 (0,0))) (e2:o p=(N,0)) (Y:sH w o sv 1 [.int .i64 (g.n:Int)])
  (J:w.heap[mb]?=some (.map (Aas 0 g.cut).toArray g.cut.length)) (u:o mb=(N,2)) (O:aj (ak N) w o V oV) {q:Option Addr} (a2:AaF V oV (N,1) (.slice q m cap) m cs)
  (hold:∀ k,k<w.heap.size->o k ≠ (N,1)->V.heap[k]?=w.heap[k]?/\oV k=o k) (hl:l'.length=m) (hc:AaG w o cs l') :
  V.cell? ⟨p,1,none⟩=some lv/\V.frozen? ⟨p,1,none⟩=false/\aj (ak N) w o V oV/\aj (ak N) w o (V.setCell ⟨p,1,none⟩ (.slice q m cap)) oV/\sV (V.setCell ⟨p,1,none⟩ (.slice q m cap)) oV N p { g with l:=l' }:=by
 have r:=hold p (au e1) (by rw [e2];simp);have U:=hold mb (au J) (by rw [u];simp);have E:=r.1.trans e1;have a3:p ≠ mb:=by rintro rfl;rw [u] at e2;simp at e2
 have h0:¬ ak N 0:=fun e=>hN e.symm;have F:aj (ak N) w o (V.setCell ⟨p,1,none⟩ (.slice q m cap)) oV:=O.setCell _ (.inl (by show ak N (oV p).1;rw [r.2,e2];rfl));refine ⟨ag E 1,Ap E 1,O,F,sv, .slice q m cap,mb,cs,Ai (i:=1) _ E,r.2.trans e2,Y.step F h0, ?_,hc.step F h0, ?_,U.2.trans u⟩
 ·show AaF _ _ _ _ l'.length _;rw [hl];exact a2.keep fun k _ W=>⟨Below.heap_setCell _ _ _ _ (by rintro rfl;rw [r.2,e2] at W;simp at W),rfl⟩
 ·rw [Below.heap_setCell _ _ _ _ (Ne.symm a3)];exact U.1.trans J
theorem sV.push' (h:sV w o N p g) (hN:N ≠ 0) (hl:g.l.length<=99000){x:Aci}(hb:Bytes w o bv x.b) (W:bv.oneCell'=true){F:Nat}(Y:At0 w o F (.cells (Aaa x bv).toArray 104 (0,0))) :
  ∃ q r E cap V oV,w.cell? ⟨p,1,none⟩=some (.slice q g.l.length r)/\(Builtin.append_ #[31,31] 31 #[.slice q g.l.length r, .slice (some ⟨F,0,none⟩) 1 1]).run prog w = .ok (.slice (some ⟨E,0,none⟩) (g.l.length+1) cap) V /\
   V.cell? ⟨p,1,none⟩=some (.slice q g.l.length r)/\V.frozen? ⟨p,1,none⟩=false/\aj (ak N) w o V oV/\aj (ak N) w o (V.setCell ⟨p,1,none⟩ (.slice (some ⟨E,0,none⟩) (g.l.length+1) cap)) oV /\
   sV (V.setCell ⟨p,1,none⟩ (.slice (some ⟨E,0,none⟩) (g.l.length+1) cap)) oV N p { g with l:=g.l++[x] }/\(∀ gb j,q=some ⟨gb,0,none⟩->j<5*g.l.length->V.cell? ⟨gb,j,none⟩=w.cell? ⟨gb,j,none⟩):=by
 obtain ⟨sv,lv,mb,cs,e1,e2,e3,O,e6,e7,e8⟩:=h;obtain ⟨q,r,rfl⟩:=O.form;obtain ⟨E,cap,V,oV,a6,hs,a7,hold,a8⟩:=O.app ⟨F,0,none⟩ 1 1 (Aaa x bv) rfl (fun j v J=>by rw [Addr.add_lit];exact AV Y.1 j v J) (by intro u U;simp only [Aaa,List.mem_cons,List.not_mem_nil,or_false] at U;rcases U with rfl | rfl | rfl | rfl | rfl;all_goals first | rfl | exact W) om om
 have a9:=e6.snoc hb;obtain ⟨a1,a2,a3,a4,a5⟩:=sV.AkY hN e1 e2 e3 e7 e8 hs a7 hold (show (g.l++[x]).length=g.l.length+1 by simp) a9;exact ⟨q,r,E,cap,V,oV,ag e1 1,a6,a1,a2,a3,a4,a5,fun gb j e J=>a8 gb r j (by rw [e]) J⟩
theorem sV.push (h:sV w o N p g) (hN:N ≠ 0) (hl:g.l.length<=99000){x:Aci}(hb:Bytes w o bv x.b) (F:bv.oneCell'=true){E:Nat}(J:At0 w o E (.cells (Aaa x bv).toArray 104 (0,0))) :
  ∃ q r u cap V oV,w.cell? ⟨p,1,none⟩=some (.slice q g.l.length r)/\(Builtin.append_ #[31,31] 31 #[.slice q g.l.length r, .slice (some ⟨E,0,none⟩) 1 1]).run prog w = .ok (.slice (some ⟨u,0,none⟩) (g.l.length+1) cap) V /\
   V.cell? ⟨p,1,none⟩=some (.slice q g.l.length r)/\V.frozen? ⟨p,1,none⟩=false/\aj (ak N) w o V oV/\aj (ak N) w o (V.setCell ⟨p,1,none⟩ (.slice (some ⟨u,0,none⟩) (g.l.length+1) cap)) oV /\
   sV (V.setCell ⟨p,1,none⟩ (.slice (some ⟨u,0,none⟩) (g.l.length+1) cap)) oV N p { g with l:=g.l++[x] }:=by
 obtain ⟨q,r,u,cap,V,oV,a0,a1,O,U,W,Y,a6,-⟩:=h.push' hN hl hb F J;exact ⟨q,r,u,cap,V,oV,a0,a1,O,U,W,Y,a6⟩
theorem Aqc (x:Aci) (hb:Bytes w o bv x.b) (hl:x.b.length<=4000000):Calls prog 99 #[.agg (Aaa x bv).toArray] w (XL ai w o fun v w' o'=>∃ U,v = .agg (Aaa x U).toArray/\Bytes w' o' U x.b/\U.oneCell'=true):=by
 obtain ⟨s,d,b⟩:=x;obtain ⟨ba,bc,rfl⟩:=Aq hb;unfold Aaa;obtain ⟨W,oW,Y,⟨a2,b5⟩,q,F⟩:=Ajq w o (.cells #[.int .i64 0, .int .i64 (s:Int), .int .i64 0, .int .i64 (d:Int), .slice ba b.length bc] 104) (.cells #[.int .i64 0, .int .i64 0, .int .i64 0, .int .i64 0, .slice none 0 0] 104);have hc:=ae (clone_any (hb.step a2 id) hl);have XX:=ae Y;have c4:=q.cell 4;simp only [ay,ax] at c4;rw [<-Y] at c4;have hG:=ae (aI a2 (aI q F));clear a2 q F Y hb hl;go_enter func99,ntmps99;go_wp2_with fail;rw [XX.out];refine hc.out.mono ?_;rintro e W1 ⟨v1,o1,rfl,O,J⟩;obtain ⟨r,u,rfl⟩:=Aq J.bytes;obtain ⟨a4,a5,a6⟩:=hG.out;have q:=a5.step O id;have F:=a6.step O id;have f4:=Ap q.1 4;have b3:=q.cell 4;simp only [ay,ax] at b3;have s0:=a4.trans O;have s1:=s0.setCell (a:=⟨w.heap.size,4,none⟩) (.slice r b.length u) (.inr (Nat.le_refl _));have E:At0 (W1.setCell ⟨w.heap.size,4,none⟩ (.slice r b.length u)) o1 w.heap.size (.cells [.int .i64 0, .int .i64 (s:Int), .int .i64 0, .int .i64 (d:Int), .slice r b.length u].toArray 104 (0,0)):=⟨Ai (i:=4) _ q.1,q.2⟩;have a3:At0 (W1.setCell ⟨w.heap.size,4,none⟩ (.slice r b.length u)) o1 (w.heap.size+1) (.cells [.int .i64 0, .int .i64 0, .int .i64 0, .int .i64 0, .slice none 0 0].toArray 104 (0,0)):=
  ⟨(Below.heap_setCell _ _ _ _ (by simp)).trans F.1,F.2⟩
 obtain ⟨V0,a7⟩:=az (W1.setCell ⟨w.heap.size,4,none⟩ (.slice r b.length u));rw [a7] at E a3 s1;obtain ⟨V,hV,a8,a9,b1,-⟩:=a3.store (P:=prog) (ty:=104) (vs:=[.int .i64 0, .int .i64 (s:Int), .int .i64 0, .int .i64 (d:Int), .slice r b.length u]) s1 om rfl vI rfl;have b2:Ew W V o1 (.slice r b.length u) b:=⟨Ci J.1 fun k hk=>by
  have:=(J.1.lt k hk).1;rw [b1 k om, <-a7];exact Below.heap_setCell _ _ _ _ (by simp;omega),J.2⟩
 have d0:=E.cell 0;have d1:=E.cell 1;have d2:=E.cell 2;have d3:=E.cell 3;have d4:=E.cell 4;simp only [ay,ax] at d0 d1 d2 d3 d4;have hF:=ae (aI a8 (aI a9 b2.bytes));have b4:=ae hV;clear a4 a5 a6 q F s0 s1 E a3 hV a8 a9 b1 b2 O J
 go_wp2_with ((with_reducible apply AC);exact b4.out;simp only [Act.put])
 refine bodyPost_ret (AbQ rfl _ _ (w.heap.size+1) 104 _ (0,0) _ rfl hF.out.2.1.1 underlying104 rfl vI) rfl ?_;exact ⟨_,o1,rfl,hF.out.1, .slice r b.length u,rfl,hF.out.2.2,rfl⟩
end
theorem Api (w:World) (a b c d:Value) (q:Option Addr) (r u:Nat):(Instr.buildSlice 31 1 #[(0, .agg #[a,b,c,d, .slice q r u])]).run prog w = .ok (.slice (some ⟨w.heap.size,0,none⟩) 1 1) (w.alloc (.cells #[a,b,c,d, .slice q r u] 104)):=by kernel_rfl
section
variable {w:World}{o:Own}{N p:Nat}{g:GN}
theorem Aok (h:sV w o N p g) (hN:N ≠ 0) (e5:g.l.length<=4096) (x:Aci) (hs:x.src<g.n) (hd:x.dst<g.n) (a4:x.src ≠ x.dst) (hb:Bytes w o bv x.b) (b3:x.b.length<=2097152) :
  Calls prog 95 #[.pointer (some ⟨p,0,none⟩), .agg (Aaa x bv).toArray] w (XL (ak N) w o fun r w' o'=>r = .int .i64 (g.send x).2/\sV w' o' N p (g.send x).1):=by
 have hE:g.send x=if 4096<=g.l.length then (g,4) else ({ g with l:=g.l++[x] },0):=by
  unfold GN.send;rw [AcP g hs hd a4,show decide (2097152<x.b.length)=false by simpa using b3];rfl
 obtain ⟨R,E⟩:=az (g.send x);rw [E];rw [hE] at E;have KI:=ae E;clear E hE;obtain ⟨s,d,b⟩:=x;obtain ⟨ba,bc,rfl⟩:=Aq hb;have a5:=AcP g hs hd a4;simp only at hs hd a4 b3 a5;unfold Aaa;obtain ⟨W,oW,hW,⟨Y,e6⟩,b4⟩:=AaC w o (.cells #[.int .i64 0, .int .i64 (s:Int), .int .i64 0, .int .i64 (d:Int), .slice ba b.length bc] 104);have hl:=AfA (h.step Y id id) s d;rw [a5,Ais] at hl;unfold AaQ at hl;obtain ⟨y,hy⟩:=az (min s d);obtain ⟨z,hz⟩:=az (max s d);rw [hy,hz] at hl;have d3:=ae hl;have XX:=ae hW;have hG:=ae (aI (h.step Y id id) (aI (Y.mono (T':=ak N) fun _ h=>h.elim) (aI b4 (hb.step Y id))));clear Y hW hb hl h a5 hy hz hs hd a4 b4;go_enter func95,ntmps95;go_wp2_with fail;rw [XX.out];refine d3.out.mono ?_;rintro e W1 ⟨v1,o1,rfl,a2,rfl⟩;obtain ⟨W2,F,a6,⟨a3,-⟩,-⟩:=AaC W1 o1 (.cells #[.int .i64 0, .int .i64 (y:Int), .int .i64 0, .int .i64 (z:Int)] 195);have u:=ae (aI ((hG.out.1.step a2 id id).step a3 id id) (aI (hG.out.2.1.trans ((a2.trans a3).mono fun _ h=>h.elim)) (aI ((hG.out.2.2.1.step a2 id).step a3 id) ((hG.out.2.2.2.step a2 id).step a3 id))));obtain ⟨sv,la,lc,mb,c0,c1,c2,hf,d5⟩:=u.out.1.cells;have d4:=u.out.2.2.1.cell 4;simp only [ay,ax] at d4;have xO:=ae a6;rw [<-a6] at c1 d4;clear a2 a3 a6 c0 c2 hf d5
 by_cases b5:4096<=g.l.length
 ·go_wp2
  go_ret;have E:=KI.out;rw [if_pos b5] at E;subst E;rw [xO.out];exact ⟨_,F,rfl,u.out.2.1,rfl,u.out.1⟩
 ·go_wp2_with fail;rw [xO.out];have dr:aj ai W2 F W2.drew F:=(aj.refl ai W2 F).drew;obtain ⟨sv,lv,mb,cs,e1,e2,e3,e4,-⟩:=u.out.1;obtain ⟨la,lc,rfl⟩:=e4.form;have a7:=ae (fun (U:World) (q:Own) (J:aj ai W2 F U q)=>(show U.cell? ⟨p,1,none⟩=some (.slice la g.l.length lc)/\U.cell? ⟨w.heap.size,0,none⟩=some (.int .i64 0)/\U.cell? ⟨w.heap.size,1,none⟩=some (.int .i64 (s:Int))/\U.cell? ⟨w.heap.size,2,none⟩=some (.int .i64 0)/\U.cell? ⟨w.heap.size,3,none⟩=some (.int .i64 (d:Int))/\U.cell? ⟨w.heap.size,4,none⟩=some (.slice ba b.length bc) from
   ⟨ag ((J.block p (au e1) id).trans e1) 1,(u.out.2.2.1.step J id).cell 0,(u.out.2.2.1.step J id).cell 1,(u.out.2.2.1.step J id).cell 2,(u.out.2.2.1.step J id).cell 3,(u.out.2.2.1.step J id).cell 4⟩))
  have hS:=a7.out W2.drew F dr;have d6:=ae (Aqc ⟨s,d,b⟩ (u.out.2.2.2.step dr id) (by show b.length<=_;omega));have b6:=ae dr;clear e1 e2 e3 e4 dr c1 d4;refine Aa (fun w'=>w'.cell? ⟨p,1,none⟩=some (.slice la g.l.length lc)/\w'.cell? ⟨w.heap.size,0,none⟩=some (.int .i64 0)/\w'.cell? ⟨w.heap.size,1,none⟩=some (.int .i64 (s:Int))/\w'.cell? ⟨w.heap.size,2,none⟩=some (.int .i64 0)/\w'.cell? ⟨w.heap.size,3,none⟩=some (.int .i64 (d:Int))/\w'.cell? ⟨w.heap.size,4,none⟩=some (.slice ba b.length bc)) (fun i=>decide (i<9)) (by kernel_rfl) hS (fun d7=>?_);refine tq 0 (h:=tq 1 (h:=tq 2 (h:=tq 3 (h:=tq 4 (h:=tq 5 (h:=tO 6 (h:=?_)))))));go_wp2_with fail;refine d6.out.mono ?_;rintro e W3 ⟨v3,o3,rfl,a8,e7,rfl,a9,b7⟩;obtain ⟨va,vc,rfl⟩:=Aq a9;have d8:=a7.out W3 o3 (b6.out.trans a8);have hD:=ae (aI (b6.out.trans a8) (aI a9 b7));unfold Aaa;clear a8 a9 b7;go_wp2_with fail;refine ⟨fun _=>d8, ?_⟩;refine tO 7 (h:=?_);obtain ⟨W4,o4,b8,⟨b1,-⟩,b9⟩:=AaC W3 o3 (.cells #[.int .i64 0, .int .i64 (s:Int), .int .i64 0, .int .i64 (d:Int), .slice va b.length vc] 104);have pX:=hD.out.1.trans b1;have c3:=a7.out W4 o4 pX;obtain ⟨e8,e9,gr,cap,V,oV,q1,c4,q2,q3,c6,c7,c8⟩:=(u.out.1.step pX id id).push hN om (x:=⟨s,d,b⟩) (hD.out.2.1.step b1 id) rfl b9;have q4:=c3.1.symm.trans q1;simp only [Option.some.injEq,Value.slice.injEq] at q4;obtain ⟨rfl, -,rfl⟩:=q4;have c9:¬ ak N 0:=fun e=>hN e.symm;have O:=(u.out.2.2.1.step pX id).step c6 c9;have d1:=aI q2 (aI (O.cell 0) (aI (O.cell 1) (aI (O.cell 2) (aI (O.cell 3) (O.cell 4)))));simp only [ay,ax] at d1;have hX:=ae (aI (u.out.2.1.trans (pX.mono fun _ h=>h.elim)) (aI c7 c8));have b2:=Api W3 (.int .i64 0) (.int .i64 (s:Int)) (.int .i64 0) (.int .i64 (d:Int)) va b.length vc;rw [b8] at b2;have d9:=ae b2;have e0:=ae c4;clear b1 b9 pX q1 c6 c9 O c7 c8 b2 b8 c4 d7
  go_wp2_with ((with_reducible apply BO #[(0, .agg #[.int .i64 0, .int .i64 (s:Int), .int .i64 0, .int .i64 (d:Int), .slice va b.length vc])] rfl);exact d9.out;simp only [Act.put,GL,DL,lss])
  refine ⟨fun _=>c3, ?_⟩;refine tO 8 (h:=?_)
  go_wp2_with ((with_reducible apply Bl);exact e0.out;simp only [Act.put,GL,DL,lss])
  refine ⟨fun _=>d1, ?_⟩;refine tO 9 (h:=?_);go_wp2_with fail;refine ⟨fun h=>by simp at h, ?_⟩;refine tO 10 (h:=?_);go_wp2_with fail;refine ⟨fun h=>by simp at h, ?_⟩;refine tO 11 (h:=?_);go_wp2_with fail;refine ⟨fun h=>by simp at h, ?_⟩;refine tD (h:=?_)
  go_wp2
  go_ret;have E:=KI.out;rw [if_neg b5] at E;subst E;exact ⟨_,oV,rfl,hX.out.1.trans hX.out.2.1,rfl,hX.out.2.2⟩
end
section
variable {w:World}{o:Own}{N p:Nat}{g:GN}
theorem AaG.one {cs:List Value}{ls:List Aci}(h:AaG w o cs ls):∀ u ∈ cs,u.oneCell'=true:=by
 intro u q;obtain ⟨j,r,rfl⟩:=List.mem_iff_getElem.1 q;have E:j / 5<ls.length:=by have:=h.1;omega
 obtain ⟨bv,F,h4⟩:=h.2 (j / 5) ls[j / 5] (List.getElem?_eq_getElem E);obtain ⟨J,O,rfl⟩:=Aq h4;have U:(Aaa ls[j / 5] (.slice J ls[j / 5].b.length O))[j % 5]?=some cs[j]:=by
  rw [<-F,List.getElem?_take,if_pos om,List.getElem?_drop,show 5*(j / 5)+j % 5=j by omega,List.getElem?_eq_getElem r]
 have:=List.mem_of_getElem? U;simp only [Aaa,List.mem_cons,List.not_mem_nil,or_false] at this
 rcases this with e | e | e | e | e <;> (rw [e];rfl)
theorem Anb (w:World):(sizeOf (prog.elem 31)).run prog w = .ok 5 w:=by kernel_rfl
theorem sV.Axg (h:sV w o N p g) (hN:N ≠ 0) (hl:g.l.length<=99000) (k:Nat) (hk:k<g.l.length) :
  ∃ O U v1 v2 a3 cap V oV,w.cell? ⟨p,1,none⟩=some (.slice O g.l.length U)/\(∀ W,(Instr.sliceAt 31 (.slice O g.l.length U) none (some (.int .i64 (k:Int))) (some (.int .i64 (k:Int)))).run prog W = .ok v1 W) /\
   (∀ W,(Instr.sliceAt 31 (.slice O g.l.length U) (some (.int .i64 ((k:Int)+1))) none none).run prog W = .ok v2 W) /\
   (Builtin.append_ #[31,31] 31 #[v1,v2]).run prog w = .ok (.slice a3 (g.l.length - 1) cap) V /\
   V.cell? ⟨p,1,none⟩=some (.slice O g.l.length U)/\V.frozen? ⟨p,1,none⟩=false/\aj (ak N) w o V oV/\aj (ak N) w o (V.setCell ⟨p,1,none⟩ (.slice a3 (g.l.length - 1) cap)) oV /\
   sV (V.setCell ⟨p,1,none⟩ (.slice a3 (g.l.length - 1) cap)) oV N p (g.without k):=by
 obtain ⟨sv,lv,mb,E,e1,e2,e3,e4,e6,e7,e8⟩:=h
 rcases e4.2 with ⟨-,h0⟩ | ⟨q,cap,cur,rfl,h2,h3,h4,h5,h6,h7⟩
 ·omega
 have r:prog.underlying 31=some (.slice (prog.elem 31)):=by kernel_rfl
 have a4:=e4.1;have r1:∀ W,(Instr.sliceAt 31 (.slice (some ⟨q,0,none⟩) g.l.length cap) none (some (.int .i64 (k:Int))) (some (.int .i64 (k:Int)))).run prog W = .ok (.slice (some ⟨q,0,none⟩) k k) W:=by
  intro W;rw [run_sliceAt_slice _ _ _ _ _ _ r,run_slice_hm W 31 _ g.l.length cap r .i64 .i64 k k om om om,Anb];simp [sliced,Addr.add]
 have F:∃ J c2,(∀ W,(Instr.sliceAt 31 (.slice (some ⟨q,0,none⟩) g.l.length cap) (some (.int .i64 ((k:Int)+1))) none none).run prog W = .ok (.slice J (g.l.length - (k+1)) c2) W)/\(k+1<g.l.length->J=some ⟨q,5*(k+1),none⟩):=by
  refine ⟨if cap=k+1 then some ⟨q,0,none⟩ else (some ⟨q,0,none⟩:Option Addr).map (·.add ((k+1)*5)),cap - (k+1),fun W=>?_, ?_⟩
  ·rw [run_sliceAt_slice _ _ _ _ _ _ r,run_slice_l W 31 _ g.l.length cap r .i64 ((k:Int)+1) om om,Anb];simp only [Result.andThen_ok,sliced,show ((k:Int)+1).toNat=k+1 by omega]
  ·intro a7;rw [if_neg om];simp [Addr.add,Nat.mul_comm]
 obtain ⟨J,c2,F,r3⟩:=F;have a8:AaF w o (N,1) (.slice (some ⟨q,0,none⟩) k k) k (E.take (5*k)):=
  ⟨by rw [List.length_take,a4];omega, .inr ⟨q,k,cur,rfl,h2,Nat.le_refl _,om,om,by rw [<-h6,List.take_take,Nat.min_eq_left om],h7⟩⟩
 have a5:AaG w o (E.take (5*k)++E.drop (5*(k+1))) (g.l.take k++g.l.drop (k+1)):=(e6.take k).append (e6.drop (k+1));have a6:(g.l.take k++g.l.drop (k+1)).length=g.l.length - 1:=by simp;omega
 by_cases a7:k+1<g.l.length
 ·have b1:=r3 a7;subst b1;obtain ⟨gr,cp,V,oV,Y,hs,a9,hold,-⟩:=a8.app ⟨q,5*(k+1),none⟩ (g.l.length - (k+1)) c2 (E.drop (5*(k+1))) (by rw [List.length_drop,a4];omega)
   (fun j v hj=>by
    rw [Addr.add_mid,ag h2];rw [List.getElem?_drop, <-h6,List.getElem?_take] at hj;split at hj
    ·exact hj
    ·cases hj) (fun u r=>e6.one u (List.mem_of_mem_drop r)) om om
  rw [show k+(g.l.length - (k+1))=g.l.length - 1 by omega] at Y a9;exact ⟨_,_,_,_,_,_,V,oV,ag e1 1,r1,F,Y,sV.AkY hN e1 e2 e3 e7 e8 hs a9 hold a6 a5⟩
 ·have b2:g.l.length - (k+1)=0:=om
  have b3:g.l.length - 1=k:=om
  obtain ⟨i,z,hq,hz,i2,i3,i4⟩:=TQ Akv;have b4:Src prog i.size 31 (.slice J 0 c2) 0 [] w:=by
   cases J with
   | none=>exact Src.ofNil w underlying31 c2
   | some a=>exact Src.ofSlice w underlying31 a 0 c2 [] (by simp) (by simp) (by simp)
  have Y:=run_append_nothing (P:=prog) w 31 31 31 104 i underlying31 hq (some ⟨q,0,none⟩) k k (Nat.le_refl _) _ b4;rw [b2] at F;have hd:E.drop (5*(k+1))=[]:=List.drop_of_length_le (by rw [a4];omega);rw [hd,List.append_nil] at a5;rw [b3] at a6 ⊢;exact ⟨_,_,_,_,_,_,w,o,ag e1 1,r1,F,Y,sV.AkY hN e1 e2 e3 e7 e8 (aj.refl _ _ _) a8 (fun _ _ _=>⟨rfl,rfl⟩) a6 a5⟩
theorem sV.letter (h:sV w o N p g) (k:Nat) (r:k<g.l.length):∃ gb u bv,w.cell? ⟨p,1,none⟩=some (.slice (some ⟨gb,0,none⟩) g.l.length u)/\Bytes w o bv g.l[k].b/\w.rangeAt gb (k*5) (Aaa g.l[k] bv)/\(o gb).1=N/\gb<w.heap.size:=by
 obtain ⟨sv,lv,mb,cs,e1,e2,e3,E,F,e7,e8⟩:=h
 rcases E.2 with ⟨-,h0⟩ | ⟨J,cap,cur,rfl,q,h3,h4,h5,O,U⟩
 ·omega
 obtain ⟨bv,W,Y⟩:=F.2 k g.l[k] (List.getElem?_eq_getElem r);refine ⟨J,cap,bv,ag e1 1,Y, ?_,by rw [U],au q⟩;have:=BU q (k*5) 5;rw [Nat.mul_comm k 5] at this ⊢;rw [<-W, <-O,List.drop_take,List.take_take,Nat.min_eq_left om];exact this
theorem Aqh (h:sV w o N p g) (hN:N ≠ 0) (hl:g.l.length<=99000) (k:Nat) (hk:k<g.l.length) :
  Calls prog 102 #[.pointer (some ⟨p,0,none⟩), .int .i64 (k:Int)] w (XL (ak N) w o fun r w' o'=>∃ bv,r = .agg (Aaa g.l[k] bv).toArray/\Bytes w' o' bv g.l[k].b/\sV w' o' N p (g.without k)):=by
 obtain ⟨W,oW,U,⟨F,-⟩,a5⟩:=Akp w o (.cells #[.int .i64 0, .int .i64 0, .int .i64 0, .int .i64 0, .slice none 0 0] 104) (N+1,0);obtain ⟨gb,lc,bv,c1,Y,q,c4,c6⟩:=(h.step F id id).letter k hk;obtain ⟨x,hx⟩:=az (g.l[k]);rw [hx] at Y q ⊢;obtain ⟨s,d,b⟩:=x;obtain ⟨ba,bc,rfl⟩:=Aq Y;have l0:=q 0 _ rfl;have l1:=q 1 _ rfl;have l2:=q 2 _ rfl;have l3:=q 3 _ rfl;have l4:=q 4 _ rfl;have c7:(k:Int)<(g.l.length:Int):=om
 rw [Nat.add_zero] at l0;unfold Aaa;obtain ⟨W2,o2,a6,⟨J,-⟩,a7⟩:=AaC W oW (.cells #[.int .i64 0, .int .i64 (s:Int), .int .i64 0, .int .i64 (d:Int), .slice ba b.length bc] 104);have E:aj ai W2 o2 W2.drew o2:=(aj.refl ai W2 o2).drew;obtain ⟨la,b4,v1,v2,b5,cap,V,oV,q1,r1,r2,a8,q2,q3,b6,O,a9⟩:=(((h.step F id id).step J id id).step E id id).Axg hN hl k hk;have a2:¬ ak N 0:=fun e=>hN e.symm;have hE:=ae (aI ((F.trans (J.trans E)).mono (T':=ak N) fun _ h=>h.elim) (aI O (aI a9 (aI (((a5.step J id).step E id).step O (by show ¬ N+1=N;omega)) (aI (((a7.step E id)).step O a2) ((((Y.step J id)).step E id).step O a2))))));have b7:=F.size;have b8:W.heap.size=w.heap.size+1:=by rw [<-U];simp
 have XX:=ae U;have xO:=ae a6;have b9:=ae r1;have c0:=ae r2;have tN:=ae a8;rw [<-U] at c1 l0 l1 l2 l3 l4;rw [b8] at hE;clear U a5 Y q h F J a7 E a6 r1 r2 a8 b6 O a9 a2 b7 hx;go_enter func102,ntmps102;go_wp2_with fail;rw [XX.out,xO.out];refine Aa (fun w'=>w'.cell? ⟨p,1,none⟩=some (.slice la g.l.length b4)) (fun i=>decide (i<16)) (by kernel_rfl) q1 (fun c8=>?_);refine tq 0 (h:=tq 1 (h:=tq 2 (h:=tq 3 (h:=tq 4 (h:=tq 5 (h:=tq 6 (h:=?_)))))));refine Dt (i:=7) (v:=v1) rfl (by kernel_rfl) (fun _ _ _ h=>h) (Or.inl ⟨by rfl,fun w a3=>?_⟩) (by assumption) ?_
 ·refine AdB _ _ _ _ _ rfl ?_;exact b9.out w
 simp only [Act.put,GL,DL,lss];refine tq 8 (h:=tq 9 (h:=tq 10 (h:=tq 11 (h:=tq 12 (h:=tv 13 (.int .i64 ((k:Int)+1)) (hy:=fun w a3=>by (try dsimp only at a3);go_simp;first | done | exact wrap_i64 om om) (h:=?_))))))
 refine Dt (i:=14) (v:=v2) rfl (by kernel_rfl) (fun _ _ _ h=>h) (Or.inl ⟨by rfl,fun w a3=>?_⟩) (by assumption) ?_
 ·refine AdB _ _ _ _ _ rfl ?_;exact c0.out w
 simp only [Act.put,GL,DL,lss];refine tO 15 (h:=?_)
 go_wp2_with ((with_reducible apply Bl);exact tN.out;simp only [Act.put,GL,DL,lss])
 refine ⟨fun _=>q2, ?_⟩;refine tO 16 (h:=?_);go_wp2_with fail;refine ⟨fun h=>by simp at h, ?_⟩;refine tO 17 (h:=?_);go_wp2_with fail;refine ⟨fun h=>by simp at h, ?_⟩;refine tO 18 (h:=?_);go_wp2_with fail;refine ⟨fun h=>by simp at h, ?_⟩;refine tD (h:=?_);obtain ⟨z1,z2,z3,z4,u,z6⟩:=hE.out;obtain ⟨VV,b1⟩:=az (V.setCell ⟨p,1,none⟩ (.slice b5 (g.l.length - 1) cap));rw [b1] at z2 z3 z4 u z6;have m0:=u.cell 0;have m1:=u.cell 1;have m2:=u.cell 2;have m3:=u.cell 3;have m4:=u.cell 4;simp only [ay,ax] at m0 m1 m2 m3 m4;obtain ⟨X,hX,a4,b2,b3⟩:=z4.store (P:=prog) (ty:=104) (vs:=[.int .i64 0, .int .i64 (s:Int), .int .i64 0, .int .i64 (d:Int), .slice ba b.length bc]) rfl vI rfl;have hF:=ae (aI (b2 (z1.trans z2) (Nat.le_refl _)) (aI b3 (aI (z6.step a4 (by show ¬ 0=N+1;omega)) (z3.step a4 (by show ¬ N=N+1;omega) (by show ¬ 0=N+1;omega)))));have c3:=ae hX;clear hX a4 b2 b3 z1 z2 z3 z4 u z6;rw [b1]
 go_wp2_with ((with_reducible apply AC);exact c3.out;simp only [Act.put])
 refine bodyPost_ret (AbQ rfl _ _ w.heap.size 104 _ (0,0) _ rfl hF.out.2.1.1 underlying104 rfl vI) rfl ?_;exact ⟨_,oV,rfl,hF.out.1, .slice ba b.length bc,rfl,hF.out.2.2.1,hF.out.2.2.2⟩
end
namespace GN
def drop (g:GN) (k:Int):GN × Int:=if g.may k=0 then (g.without k.toNat,0) else (g,1)
def hold (g:GN) (k:Int):GN × Int:=if g.may k=0 then ({ g with l:=(g.without k.toNat).l++(g.l[k.toNat]?).toList },0) else (g,1)
def double (g:GN) (k:Int):GN × Int:=if g.may k=0 then (if 4096<=g.l.length then (g,4) else ({ g with l:=g.l++(g.l[k.toNat]?).toList },0)) else (g,1)
theorem Adm {k:Int}(h:g.may k=0):∃ n:Nat,k=n/\n<g.l.length:=by
 unfold may at h;split at h
 ·cases h
 ·exact ⟨k.toNat,om,om⟩
theorem Asx {k:Int}(h:¬ g.may k=0):g.may k=1:=by
 unfold may at h ⊢;split
 ·rfl
 ·rename_i h2;exact absurd (if_neg h2) h
end GN
section
variable {w:World}{o:Own}{N p:Nat}{g:GN}
theorem AjK (h:sV w o N p g) (hN:N ≠ 0) (hl:g.l.length<=99000) (k:Int):Calls prog 78 #[.pointer (some ⟨p,0,none⟩), .int .i64 k] w (XL (ak N) w o fun r w' o'=>r = .int .i64 (g.drop k).2/\sV w' o' N p (g.drop k).1):=by
 have u:=Akh h k;unfold GN.drop
 by_cases q:g.may k=0
 ·rw [if_pos q];rw [q] at u;obtain ⟨n,rfl,hn⟩:=GN.Adm q;have E:=ae u;have U:=ae (Aqh h hN hl n hn);clear u q h;rw [Int.toNat_natCast];go_enter func78,ntmps78;go_wp2_with fail;refine E.out.mono ?_;rintro e W ⟨rfl,rfl⟩;go_wp2_with fail;refine U.out.mono ?_;rintro e W2 ⟨v2,Y,rfl,F,bv,rfl, -,J⟩;have O:=ae (aI F J);clear F J;go_wp2_with fail;go_ret;exact ⟨_,Y,rfl,O.out.1,rfl,O.out.2⟩
 ·rw [if_neg q];rw [GN.Asx q] at u;have E:=ae u;have hH:=ae h;clear u q h;go_enter func78,ntmps78;go_wp2_with fail;refine E.out.mono ?_;rintro e W ⟨rfl,rfl⟩;go_wp2_with fail;go_ret;exact ⟨_,o,rfl,aj.refl _ _ _,rfl,hH.out⟩
theorem AjJ (h:sV w o N p g) (hN:N ≠ 0) (hl:g.l.length<=98000) (k:Int):Calls prog 82 #[.pointer (some ⟨p,0,none⟩), .int .i64 k] w (XL (ak N) w o fun r w' o'=>r = .int .i64 (g.hold k).2/\sV w' o' N p (g.hold k).1):=by
 have Y:=Akh h k;obtain ⟨R,u⟩:=az (g.hold k);rw [u];unfold GN.hold at u
 by_cases J:g.may k=0
 ·rw [if_pos J] at u;rw [J] at Y;obtain ⟨n,rfl,hn⟩:=GN.Adm J;have a4:=ae Y;have ho:=ae (Aqh h hN om n hn);rw [Int.toNat_natCast,List.getElem?_eq_getElem hn] at u;have a5:(g.without n).l.length=g.l.length - 1:=by unfold GN.without;simp;omega
  obtain ⟨x,hx⟩:=az (g.l[n]);rw [hx] at ho u;obtain ⟨O,a6⟩:=az (g.without n);rw [a6] at ho u a5;have a9:O.n=g.n/\O.cut=g.cut:=by rw [<-a6];exact ⟨rfl,rfl⟩
  have KI:=ae (aI u a9);have c8:=ae a5;obtain ⟨s,d,b⟩:=x;clear Y J h u hx a6 a9 a5;go_enter func82,ntmps82;go_wp2_with fail;refine a4.out.mono ?_;rintro e W1 ⟨rfl,rfl⟩;go_wp2_with fail;refine ho.out.mono ?_;rintro e E ⟨v2,o2,rfl,b1,bv,rfl,a7,b2⟩;obtain ⟨ba,bc,rfl⟩:=Aq a7;unfold Aaa;obtain ⟨W,o3,b3,⟨a3,-⟩,b4⟩:=AaC E o2 (.cells #[.int .i64 0, .int .i64 (s:Int), .int .i64 0, .int .i64 (d:Int), .slice ba b.length bc] 104);have dr:aj ai W o3 W.drew o3:=(aj.refl ai W o3).drew;have F:=ae (aI ((b2.step a3 id id).step dr id id) (aI (b1.trans ((a3.trans dr).mono fun _ h=>h.elim)) (aI (b4.step dr id) ((a7.step a3 id).step dr id))));obtain ⟨sv,lv,mb,cs,e1,e2,e3,e4,-⟩:=F.out.1;obtain ⟨la,lc,rfl⟩:=e4.form;have c9:=ae b3;clear b1 a7 b2 a3 b4 b3;go_wp2_with fail;rw [c9.out];have b5:=ae (fun (U:World) (q:Own) (s':aj ai W.drew o3 U q)=>(show U.cell? ⟨p,1,none⟩=some (.slice la O.l.length lc)/\U.cell? ⟨E.heap.size,0,none⟩=some (.int .i64 0)/\U.cell? ⟨E.heap.size,1,none⟩=some (.int .i64 (s:Int))/\U.cell? ⟨E.heap.size,2,none⟩=some (.int .i64 0)/\U.cell? ⟨E.heap.size,3,none⟩=some (.int .i64 (d:Int))/\U.cell? ⟨E.heap.size,4,none⟩=some (.slice ba b.length bc) from
   ⟨ag ((s'.block p (au e1) id).trans e1) 1,(F.out.2.2.1.step s' id).cell 0,(F.out.2.2.1.step s' id).cell 1,(F.out.2.2.1.step s' id).cell 2,(F.out.2.2.1.step s' id).cell 3,(F.out.2.2.1.step s' id).cell 4⟩))
  have hS:=b5.out W.drew o3 (aj.refl _ _ _);clear e1 e2 e3 e4 dr;refine Aa (fun w'=>w'.cell? ⟨p,1,none⟩=some (.slice la O.l.length lc)/\w'.cell? ⟨E.heap.size,0,none⟩=some (.int .i64 0)/\w'.cell? ⟨E.heap.size,1,none⟩=some (.int .i64 (s:Int))/\w'.cell? ⟨E.heap.size,2,none⟩=some (.int .i64 0)/\w'.cell? ⟨E.heap.size,3,none⟩=some (.int .i64 (d:Int))/\w'.cell? ⟨E.heap.size,4,none⟩=some (.slice ba b.length bc)) (fun i=>decide (i<8)) (by kernel_rfl) hS (fun d1=>?_);refine tq 0 (h:=tq 1 (h:=tq 2 (h:=tq 3 (h:=tq 4 (h:=tq 5 (h:=tO 6 (h:=?_)))))));obtain ⟨W4,o4,b6,⟨pX,-⟩,b7⟩:=AaC W.drew o3 (.cells #[.int .i64 0, .int .i64 (s:Int), .int .i64 0, .int .i64 (d:Int), .slice ba b.length bc] 104);have b8:=b5.out W4 o4 pX;obtain ⟨d5,d6,gr,cap,V,oV,q1,b9,q2,q3,c0,c3,c4⟩:=(F.out.1.step pX id id).push hN (by rw [c8.out];omega) (x:=⟨s,d,b⟩) (F.out.2.2.2.step pX id) rfl b7;have q4:=b8.1.symm.trans q1;simp only [Option.some.injEq,Value.slice.injEq] at q4;obtain ⟨rfl, -,rfl⟩:=q4;have c6:¬ ak N 0:=fun e=>hN e.symm;have a2:=(F.out.2.2.1.step pX id).step c0 c6;have c7:=aI q2 (aI (a2.cell 0) (aI (a2.cell 1) (aI (a2.cell 2) (aI (a2.cell 3) (a2.cell 4)))));simp only [ay,ax] at c7;have hX:=ae (aI (F.out.2.1.trans (pX.mono fun _ h=>h.elim)) (aI c3 c4));have a8:=Api W.drew (.int .i64 0) (.int .i64 (s:Int)) (.int .i64 0) (.int .i64 (d:Int)) ba b.length bc;rw [b6] at a8;have d3:=ae a8;have d4:=ae b9;clear b7 pX q1 c0 c6 a2 c3 c4 a8 b6 b9 d1
  go_wp2_with ((with_reducible apply BO #[(0, .agg #[.int .i64 0, .int .i64 (s:Int), .int .i64 0, .int .i64 (d:Int), .slice ba b.length bc])] rfl);exact d3.out;simp only [Act.put,GL,DL,lss])
  refine ⟨fun _=>b8, ?_⟩;refine tO 7 (h:=?_)
  go_wp2_with ((with_reducible apply Bl);exact d4.out;simp only [Act.put,GL,DL,lss])
  refine ⟨fun _=>c7, ?_⟩;refine tO 8 (h:=?_);go_wp2_with fail;refine ⟨fun h=>by simp at h, ?_⟩;refine tO 9 (h:=?_);go_wp2_with fail;refine ⟨fun h=>by simp at h, ?_⟩;refine tO 10 (h:=?_);go_wp2_with fail;refine ⟨fun h=>by simp at h, ?_⟩;refine tD (h:=?_)
  go_wp2
  go_ret;obtain ⟨rfl,e5,e6⟩:=KI.out;refine ⟨_,oV,rfl,hX.out.1.trans hX.out.2.1,rfl, ?_⟩;have:=hX.out.2.2;rw [show ({ O with l:=O.l++[⟨s,d,b⟩] }:GN)={ g with l:=O.l++(some (⟨s,d,b⟩:Aci)).toList } by rw [<-e5, <-e6];rfl] at this;exact this
 ·rw [if_neg J] at u;rw [GN.Asx J] at Y;have a4:=ae Y;have hH:=ae (aI h u);clear Y J h u;go_enter func82,ntmps82;go_wp2_with fail;refine a4.out.mono ?_;rintro e W1 ⟨rfl,rfl⟩;go_wp2_with fail;go_ret;obtain ⟨h1,rfl⟩:=hH.out;exact ⟨_,o,rfl,aj.refl _ _ _,rfl,h1⟩
theorem AfP (h:sV w o N p g) (hN:N ≠ 0) (hl:g.l.length<=98000) (b2:∀ x ∈ g.l,x.b.length<=4000000) (k:Int):Calls prog 80 #[.pointer (some ⟨p,0,none⟩), .int .i64 k] w (XL (ak N) w o fun r w' o'=>r = .int .i64 (g.double k).2/\sV w' o' N p (g.double k).1):=by
 have F:=Akh h k;obtain ⟨R,u⟩:=az (g.double k);rw [u];unfold GN.double at u;have same:∀ er:Int,(g,er)=R->∀ w',w'=w->∃ o',aj (ak N) w o w' o'/\R.2=er/\sV w' o' N p R.1:=by
  rintro er rfl w' rfl;exact ⟨o,aj.refl _ _ _,rfl,h⟩
 have b3:=ae same;clear same
 by_cases E:g.may k=0
 ·rw [if_pos E] at u;rw [E] at F;obtain ⟨n,rfl,hn⟩:=GN.Adm E;have a3:=ae F;obtain ⟨sv,la,lc,mb,c0,c1,c2,hf,a4⟩:=h.cells;clear c0 c2 hf a4 sv mb;rw [Int.toNat_natCast,List.getElem?_eq_getElem hn] at u
  by_cases b4:4096<=g.l.length
  ·rw [if_pos b4] at u;have KI:=ae u;clear F E h u;go_enter func80,ntmps80;go_wp2_with fail;refine a3.out.mono ?_;rintro e W1 ⟨rfl,rfl⟩;go_wp2_with fail;go_ret;obtain ⟨o',h1,h2,h3⟩:=b3.out 4 KI.out _ rfl;exact ⟨_,o',rfl,h1,by rw [h2];rfl,h3⟩
  ·rw [if_neg b4] at u;have b5:g.l[n] ∈ g.l:=List.getElem_mem hn;have a6:=b2 _ b5;obtain ⟨gb,d9,bv,d1,a5,J,e0,a2⟩:=h.letter n hn;have q0:=c1.symm.trans d1;simp only [Option.some.injEq,Value.slice.injEq] at q0;obtain ⟨rfl, -,rfl⟩:=q0;obtain ⟨x,hx⟩:=az (g.l[n]);rw [hx] at a5 J u a6;obtain ⟨s,d,b⟩:=x;obtain ⟨ba,bc,rfl⟩:=Aq a5;have l0:=J 0 _ rfl;have l1:=J 1 _ rfl;have l2:=J 2 _ rfl;have l3:=J 3 _ rfl;have l4:=J 4 _ rfl;rw [Nat.add_zero] at l0;have dr:aj ai w o w.drew o:=(aj.refl ai w o).drew;have e3:(n:Int)<(g.l.length:Int):=om
   obtain ⟨sv,lv,mb,cs,e1,e2,-⟩:=id h;have a4:=au e1;have hK:=ae (h.step dr id id);have KI:=ae u;have c6:=ae (Aqc ⟨s,d,b⟩ (a5.step dr id) a6);have c7:=ae hn;have a7:=ae (fun (U:World) (q:Own) (W:aj ai w.drew o U q)=>(show U.cell? ⟨p,1,none⟩=some (.slice (some ⟨gb,0,none⟩) g.l.length lc)/\U.cell? ⟨gb,n*5,none⟩=some (.int .i64 0)/\U.cell? ⟨gb,n*5+1,none⟩=some (.int .i64 (s:Int))/\U.cell? ⟨gb,n*5+2,none⟩=some (.int .i64 0)/\U.cell? ⟨gb,n*5+3,none⟩=some (.int .i64 (d:Int))/\U.cell? ⟨gb,n*5+4,none⟩=some (.slice ba b.length bc) from
    ⟨(World.cell?_of_block (W.block p a4 id)).trans c1,(World.cell?_of_block (W.block gb a2 id)).trans l0,(World.cell?_of_block (W.block gb a2 id)).trans l1,(World.cell?_of_block (W.block gb a2 id)).trans l2,(World.cell?_of_block (W.block gb a2 id)).trans l3,(World.cell?_of_block (W.block gb a2 id)).trans l4⟩))
   have hS:=a7.out w.drew o (aj.refl _ _ _);have c8:=ae (dr.mono (T':=ak N) fun _ h=>h.elim);clear e1 e2 dr l0 l1 l2 l3 l4 J a5 d1 h F E u hx b5 a6 b2 a4;go_enter func80,ntmps80;go_wp2_with fail;refine a3.out.mono ?_;rintro e W1 ⟨rfl,rfl⟩;go_wp2_with fail;refine Aa (fun w'=>w'.cell? ⟨p,1,none⟩=some (.slice (some ⟨gb,0,none⟩) g.l.length lc)/\w'.cell? ⟨gb,n*5,none⟩=some (.int .i64 0)/\w'.cell? ⟨gb,n*5+1,none⟩=some (.int .i64 (s:Int))/\w'.cell? ⟨gb,n*5+2,none⟩=some (.int .i64 0)/\w'.cell? ⟨gb,n*5+3,none⟩=some (.int .i64 (d:Int))/\w'.cell? ⟨gb,n*5+4,none⟩=some (.slice ba b.length bc)) (fun i=>decide (i<15)) (by kernel_rfl) hS (fun c9=>?_);refine tq 0 (h:=tq 1 (h:=tq 2 (h:=tq 3 (h:=tq 4 (h:=tq 5 (h:=tq 6 (h:=tq 7 (h:=tq 8 (h:=tq 9 (h:=tq 10 (h:=tq 11 (h:=tO 12 (h:=?_)))))))))))));go_wp2_with fail;refine c6.out.mono ?_;rintro e W3 ⟨v3,o3,rfl,a8,e4,rfl,a9,b6⟩;obtain ⟨va,vc,rfl⟩:=Aq a9;have d3:=a7.out W3 o3 a8;have hD:=ae (aI a8 (aI a9 b6));unfold Aaa;clear a8 a9 b6;go_wp2_with fail;refine ⟨fun _=>d3, ?_⟩;refine tO 13 (h:=?_);obtain ⟨W4,o4,b7,⟨b1,-⟩,b8⟩:=AaC W3 o3 (.cells #[.int .i64 0, .int .i64 (s:Int), .int .i64 0, .int .i64 (d:Int), .slice va b.length vc] 104);have pX:=hD.out.1.trans b1;have O:=a7.out W4 o4 pX;obtain ⟨e5,e6,gr,cap,V,oV,q1,b9,q2,q3,d4,c3,c4,Y⟩:=(hK.out.step pX id id).push' hN om (x:=⟨s,d,b⟩) (hD.out.2.1.step b1 id) rfl b8;have q4:=O.1.symm.trans q1;simp only [Option.some.injEq,Value.slice.injEq] at q4;obtain ⟨rfl, -,rfl⟩:=q4;have d5:n<g.l.length:=c7.out;have d6:=aI q2 (aI ((Y gb (n*5) rfl om).trans O.2.1) (aI ((Y gb (n*5+1) rfl om).trans O.2.2.1) (aI ((Y gb (n*5+2) rfl om).trans O.2.2.2.1) (aI ((Y gb (n*5+3) rfl om).trans O.2.2.2.2.1) ((Y gb (n*5+4) rfl om).trans O.2.2.2.2.2)))));have hX:=ae (aI (c8.out.trans (pX.mono fun _ h=>h.elim)) (aI c3 c4));have hb:=Api W3 (.int .i64 0) (.int .i64 (s:Int)) (.int .i64 0) (.int .i64 (d:Int)) va b.length vc;rw [b7] at hb;have d7:=ae hb;have d8:=ae b9;clear b1 b8 pX q1 d4 c3 c4 hb b7 b9 c9 Y d5
   go_wp2_with ((with_reducible apply BO #[(0, .agg #[.int .i64 0, .int .i64 (s:Int), .int .i64 0, .int .i64 (d:Int), .slice va b.length vc])] rfl);exact d7.out;simp only [Act.put,GL,DL,lss])
   refine ⟨fun _=>O, ?_⟩;refine tO 14 (h:=?_)
   go_wp2_with ((with_reducible apply Bl);exact d8.out;simp only [Act.put,GL,DL,lss])
   refine ⟨fun _=>d6, ?_⟩;refine tO 15 (h:=?_);go_wp2_with fail;refine ⟨fun h=>by simp at h, ?_⟩;refine tO 16 (h:=?_);go_wp2_with fail;refine ⟨fun h=>by simp at h, ?_⟩;refine tO 17 (h:=?_);go_wp2_with fail;refine ⟨fun h=>by simp at h, ?_⟩;refine tD (h:=?_)
   go_wp2
   go_ret;obtain rfl:=KI.out;exact ⟨_,oV,rfl,hX.out.1.trans hX.out.2.1,rfl,hX.out.2.2⟩
 ·rw [if_neg E] at u;rw [GN.Asx E] at F;have a3:=ae F;have KI:=ae u;clear F E h u;go_enter func80,ntmps80;go_wp2_with fail;refine a3.out.mono ?_;rintro e W1 ⟨rfl,rfl⟩;go_wp2_with fail;go_ret;obtain ⟨o',h1,h2,h3⟩:=b3.out 1 KI.out _ rfl;exact ⟨_,o',rfl,h1,by rw [h2];rfl,h3⟩
end
namespace GN
def LOk (n:Nat) (x:Aci):Prop:=x.src<n/\x.dst<n/\x.src ≠ x.dst
def Ok (g:GN):Prop:=∀ x ∈ g.l,LOk g.n x
def take (g:GN) (k:Int):GN × Int × Option Aci:=
 match g.l[k.toNat]? with
 | some x=>if g.may k=0 then (if g.cuts x.src x.dst then (g,65,none) else (g.without k.toNat,0,some x)) else (g,1,none)
 | none=>(g,1,none)
end GN
def Asz:List Value:=[.int .i64 0, .int .i64 0, .int .i64 0, .int .i64 0, .slice none 0 0]
section
variable {w:World}{o:Own}{N p:Nat}{g:GN}
theorem ApY (h:sV w o N p g) (k:Int) (E:¬ g.may k=0):Calls prog 55 #[.pointer (some ⟨p,0,none⟩), .int .i64 k] w (XL ai w o fun r _ _=>r = .tuple #[.agg Asz.toArray, .int .i64 1]):=by
 obtain ⟨W,oW,F,⟨q,-⟩,hb⟩:=AaC w o (.cells #[.int .i64 0, .int .i64 0, .int .i64 0, .int .i64 0, .slice none 0 0] 104);have u:=Akh (h.step q id id) k;rw [GN.Asx E] at u;obtain ⟨V,J,O,U,-⟩:=hb.store (P:=prog) (ty:=104) (vs:=[.int .i64 0, .int .i64 0, .int .i64 0, .int .i64 0, .slice none 0 0]) q (Nat.le_refl _) rfl vI rfl;have a2:=ae u;have XX:=ae F;have a3:=ae J;have Y:=ae (aI O U);clear u E h F J hb q O U;go_enter func55,ntmps55;go_wp2_with fail;rw [XX.out];refine a2.out.mono ?_;rintro e W1 ⟨rfl,rfl⟩
 go_wp2_with ((with_reducible apply AC);exact a3.out;simp only [Act.put])
 refine bodyPost_ret (Eg rfl _ _ w.heap.size 104 _ (0,0) _ rfl Y.out.2.1 underlying104 rfl vI) rfl ?_;exact ⟨_,oW,rfl,Y.out.1,rfl⟩
theorem Aoj (h:sV w o N p g) (hN:N ≠ 0) (hl:g.l.length<=99000) (n:Nat) (hn:n<g.l.length) (F:GN.LOk g.n g.l[n]) :
  Calls prog 55 #[.pointer (some ⟨p,0,none⟩), .int .i64 (n:Int)] w (XL (ak N) w o fun r w' o' =>
   (g.cuts g.l[n].src g.l[n].dst=true->r = .tuple #[.agg Asz.toArray, .int .i64 65]/\sV w' o' N p g) /\
   (g.cuts g.l[n].src g.l[n].dst=false->∃ bv,r = .tuple #[.agg (Aaa g.l[n] bv).toArray, .int .i64 0]/\Bytes w' o' bv g.l[n].b/\sV w' o' N p (g.without n))):=by
 have b1:g.may (n:Int)=0:=by unfold GN.may;rw [if_neg om]
 obtain ⟨W,oW,hW,⟨a4,b2⟩,hb⟩:=Akp w o (.cells #[.int .i64 0, .int .i64 0, .int .i64 0, .int .i64 0, .slice none 0 0] 104) (N+1,0);have hm:=Akh (h.step a4 id id) (n:Int);rw [b1] at hm;have h1:=h.step a4 id id;obtain ⟨gb,lc,bv,c1,a5,q,b5,c4⟩:=h1.letter n hn;obtain ⟨x,a7⟩:=az (g.l[n]);rw [a7] at a5 q F ⊢;obtain ⟨s,d,b⟩:=x;obtain ⟨ba,bc,rfl⟩:=Aq a5;unfold Aaa at q ⊢;dsimp only at q F a5 ⊢;have l0:=q 0 _ rfl;have l1:=q 1 _ rfl;have l2:=q 2 _ rfl;have l3:=q 3 _ rfl;have l4:=q 4 _ rfl;rw [Nat.add_zero] at l0;have c6:(n:Int)<(g.l.length:Int):=om
 obtain ⟨W2,o2,b3,⟨a6,-⟩,c7⟩:=AaC W oW (.cells #[.int .i64 0, .int .i64 (s:Int), .int .i64 0, .int .i64 (d:Int), .slice ba b.length bc] 104);have h2:=h1.step a6 id id;have b6:=ae (Aom h2 F.1 F.2.1 F.2.2);have hE:=ae (aI ((a4.trans a6).mono (T':=ak N) fun _ h=>h.elim) (aI h2 (hb.step a6 id)));have b7:=ae hm;have XX:=ae hW;have xO:=ae b3;have b8:=ae a7;have b9:W.heap.size=w.heap.size+1:=b2;clear hm h hW hb a4 a6 h1 h2 q b5 a5 b3 F a7 b1 b2 b9;go_enter func55,ntmps55;go_wp2_with fail;rw [XX.out];refine b7.out.mono ?_;rintro e W1 ⟨rfl,rfl⟩;go_wp2_with fail;rw [xO.out];refine b6.out.mono ?_;rintro e W3 ⟨v1,o3,rfl,O,rfl⟩;obtain ⟨e1,e2,e3⟩:=hE.out;have k1:=e1.trans (O.mono (T':=ak N) fun _ h=>h.elim);have k2:=e2.step O id id;have u:=e3.step O id
 cases hc:g.cuts s d with
 | true =>
  obtain ⟨X,U,J,Y,a2⟩:=u.store (P:=prog) (ty:=104) (vs:=[.int .i64 0, .int .i64 0, .int .i64 0, .int .i64 0, .slice none 0 0]) rfl vI rfl;have E:=ae (aI (Y k1 (Nat.le_refl _)) (aI a2 (k2.step J (by show ¬ N=N+1;omega) (by show ¬ 0=N+1;omega))));have a8:=ae U;clear U J Y a2 e1 e2 e3 k1 k2 u O
  go_wp2_with ((with_reducible apply AC);exact a8.out;simp only [Act.put])
  refine bodyPost_ret (Eg rfl _ _ w.heap.size 104 _ (0,0) _ rfl E.out.2.1.1 underlying104 rfl vI) rfl ?_;refine ⟨_,o3,rfl,E.out.1,fun _=>⟨rfl,E.out.2.2⟩, ?_⟩;intro h;rw [hc] at h;cases h
 | false =>
  have ho:=ae (Aqh k2 hN hl n hn);have hK:=ae (aI k1 u);clear e1 e2 e3 k1 k2 u O;go_wp2_with fail;refine ho.out.mono ?_;rintro e W4 ⟨v4,o4,rfl,a9,c8,rfl,a3,b4⟩;rw [b8.out] at a3 ⊢;unfold Aaa;dsimp only at a3 ⊢;obtain ⟨c0,c3,rfl⟩:=Aq a3;have k1:=hK.out.1.trans a9;have u:=hK.out.2.step a9 (by show ¬ N+1=N;omega);obtain ⟨X,U,J,Y,a2⟩:=u.store (P:=prog) (ty:=104) (vs:=[.int .i64 0, .int .i64 (s:Int), .int .i64 0, .int .i64 (d:Int), .slice c0 b.length c3]) rfl vI rfl;have E:=ae (aI (Y k1 (Nat.le_refl _)) (aI a2 (aI (a3.step J (by show ¬ 0=N+1;omega)) (b4.step J (by show ¬ N=N+1;omega) (by show ¬ 0=N+1;omega)))));have a8:=ae U;clear U J Y a2 k1 u a9 a3 b4
  go_wp2_with ((with_reducible apply AC);exact a8.out;simp only [Act.put])
  refine bodyPost_ret (Eg rfl _ _ w.heap.size 104 _ (0,0) _ rfl E.out.2.1.1 underlying104 rfl vI) rfl ?_;refine ⟨_,o4,rfl,E.out.1, ?_,fun _=>⟨_,rfl,E.out.2.2⟩⟩;intro h;rw [hc] at h;cases h
end
theorem AsD:(prog.info? 3).map (fun i=>(i.zero.map (fun z=>z.cells.toList),i.size,i.bytes))=some (some [.int .i64 0],1,8):=by kernel_rfl
section
variable {w:World}{o:Own}{N p:Nat}{x:Int}
theorem AmU (h:sH w o v 1 [.int .i64 x]):Calls prog 89 #[v] w (XL ai w o fun v w' o'=>sH w' o' v 1 [.int .i64 x]):=by
 rcases h with ⟨-,h0,-⟩ | ⟨b,off,cap,rfl,hl,hm,ho,hb,F⟩
 ·cases h0
 have W:(w.alloc (.cells #[] 3)).ownsRow w.heap.size 3 1 (.slice (some ⟨w.heap.size,0,none⟩) 0 0) 0 []:=⟨rfl, .inr ⟨_,0, #[],rfl,Nat.le_refl _,heap_alloc_new w _,om,by simp,rfl,rfl⟩⟩;have Y:Below w.heap.size w (w.alloc (.cells #[] 3)):=(Below.refl _ _).alloc (Nat.le_refl _) _;have he:=FC w 53 3 (some ⟨b,off,none⟩) 1 cap underlying53;obtain ⟨g,cp,w3,u,J,a2,a6,a7⟩:=DD (P:=prog) (w.alloc (.cells #[] 3)) 53 53 3 underlying53 AsD rfl om (base:=w.heap.size) (by simp) _ 0 [] W b off 1 cap [.int .i64 x] rfl (World.rangeAt_alloc F _) (by simp [Value.oneCell']) om om om;have q:=Y.grown a2 (by simp) (fun k r=>by simp only [Value.ownBlock,Option.some.injEq] at r;omega);rw [Nat.zero_add,List.nil_append] at J;rw [Nat.zero_add] at u;have a3:=ae u;clear u F;go_enter func89,ntmps89
 go_wp2_with ((with_reducible apply Bl);exact a3.out;simp only [Act.put,GL,DL,lss])
 go_ret;refine ⟨_,(fun k=>if k<w.heap.size then o k else (0,0)),rfl,⟨q.os,q.tape,q.output,q.size,fun k r=>if_pos r,fun k r _=>q.block k r⟩, ?_⟩
 rcases J.2 with ⟨E,h0⟩ | ⟨g,cap,cur,E,hb,O,a4,a5,a8,U⟩
 ·cases h0
 ·simp only [Value.slice.injEq,Option.some.injEq,Addr.mk.injEq] at E;obtain ⟨⟨rfl, -,-⟩, -,rfl⟩:=E;refine .inr ⟨_,0,_,rfl,a4,a5,by show (if g<w.heap.size then o g else (0,0)).1=0;rw [if_neg om],au O, ?_⟩
  have e1:w3.heap[g]?=some (.cells cur.toList.toArray 3 (0,0)):=by simpa using O
  have:=BU e1 0 1;rw [List.drop_zero] at this;rw [Nat.mul_one] at U
  rwa [U] at this
theorem fits_any (h:1<=x/\x<=3) (w:World):Calls prog 88 #[.int .i64 x] w fun e w'=>e = .returned (.bool false)/\w=w':=by
 obtain ⟨q,r⟩:=h;have u:¬ x<1:=om
 have h4:¬ 3<x:=om
 go_enter func88,ntmps88;go_wp2_with fail;go_ret;exact ⟨by simp,rfl⟩
theorem Alg (h:sH w o v 1 [.int .i64 x]) (r:1<=x/\x<=3):Calls prog 117 #[v, .func (.func 88) #[] #[]] w fun e w'=>e = .returned (.int .i64 (-1))/\w=w':=by
 rcases h with ⟨-,h0,-⟩ | ⟨b,off,cap,rfl,hl,F,J,hb,q⟩
 ·cases h0
 have u:=q 0 _ rfl;rw [Nat.add_zero] at u;clear q;have O:=Tryz.call88;go_enter func117,ntmps117;go_wp2_with fail
 go_loopw [8] (fun i E=>∃ k:Nat,k<=1/\i = .int .i64 k/\w=E) (fun i _=>1 - (intOf i).toNat)
 case atStart=>exact ⟨0,om,rfl,rfl⟩
 case round =>
  obtain ⟨k,U,rfl,rfl⟩:=hrel
  by_cases W:k<1
  ·obtain rfl:k=0:=om
   go_wp2_with fail;refine (fits_any r _).mono ?_;rintro e Y ⟨rfl,rfl⟩;go_wp2_with fail;go_roundw
   case rel=>exact ⟨1,om,by go_num,trivial⟩
   case measure=>simp [intOf]
  ·obtain rfl:k=1:=om
   go_wp2_with fail;go_ret;exact ⟨rfl,rfl⟩
theorem Aip (h:sH w o v 1 [.int .i64 x]) (q:1<=x/\x<=3):Calls prog 87 #[v, .func (.func 88) #[] #[]] w fun e w'=>e = .returned (.bool false)/\w=w':=by
 have r:=ae (Alg h q);clear h q;go_enter func87,ntmps87;go_wp2_with fail;refine r.out.mono ?_;rintro e u ⟨rfl,rfl⟩;go_wp2_with fail;go_ret;exact ⟨rfl,rfl⟩
theorem Aon (W:World):(Instr.makeMap 124 none).run prog W = .ok (.map (some W.heap.size)) (W.alloc (.map #[] 0)):=by
 simp only [Instr.makeMap,Sem.run_bind];rfl
theorem Aqp (n N:Nat) (h:sH w o v 1 [.int .i64 (n:Int)]) (hx:1<=n/\n<=3):Calls prog 40 #[v] w (XL ai w o fun r w' o'=>∃ p,r = .tuple #[.pointer (some ⟨p,0,none⟩), .int .i64 0]/\sV w' o' N p ⟨n,[],[]⟩/\w.heap.size<=p):=by
 have hI:=ae (Aip h om);have hC:=ae (AmU h);obtain ⟨va,vc,rfl⟩:=Aq h;clear h;go_enter func40,ntmps40;go_wp2_with fail;refine hI.out.mono ?_;rintro e W0 ⟨rfl,rfl⟩;go_wp2_with fail;refine hC.out.mono ?_;rintro e u ⟨v1,o1,rfl,F,J⟩;obtain ⟨a2,a3,rfl⟩:=Aq J;obtain ⟨O,o2,a4,⟨E,a6⟩,U⟩:=Akp u o1 (.map #[] 0) (N,2);obtain ⟨W3,o3,a5,⟨q,-⟩,W⟩:=Akp O o2 (.cells #[.slice a2 1 a3, .slice none 0 0, .map (some u.heap.size)] 126) (N,0);have hm:=ae (Aon u);have hn:sV W3 o3 N O.heap.size ⟨n,[],[]⟩:=⟨.slice a2 1 a3, .slice none 0 0,u.heap.size,[],W.1,W.2,(J.step E id).step q id,⟨rfl, .inl ⟨rfl,rfl⟩⟩,AaG.nil _ _,(U.step q id).1,(U.step q id).2⟩;have Y:=ae (aI ((F.trans E).trans q) (aI hn (Nat.le_trans F.size E.size)));have xO:=ae a4;have a7:=ae a5;clear F J a4 E U a5 q W hn
 go_wp2_with ((with_reducible apply Iq);exact hm.out;simp only [Act.put,GL,DL,lss])
 rw [xO.out,a7.out, <-a6]
 go_ret2
 exact ⟨_,o3,rfl,Y.out.1,O.heap.size,rfl,Y.out.2.1,Y.out.2.2⟩
end
structure xI where
 Q:Nat
 D:Nat
 M:Nat
 px:Nat
 pz:Nat
 ps:Nat
 pd:Nat
def Uc (b:Nat):Value := .pointer (some ⟨b,0,none⟩)
def Afp (w:World) (o:Own) (x:xI):Prop:=w.heap[x.px]?=some (.cells [Uc x.pz,Uc x.pd,Uc x.ps].toArray 94 (0,0))/\o x.px=(x.Q,0)
def AeE (w:World) (o:Own) (R pg pn:Nat) (xs:List xI):Prop:=
 ∃ bn cap,w.heap[pg]?=some (.cells [.slice (some ⟨bn,0,none⟩) xs.length cap,Uc pn].toArray 84 (0,0))/\o pg=(R,0)/\w.rangeAt bn 0 (xs.map fun x=>Uc x.px)/\(o bn).1=R+1/\bn<w.heap.size
section
variable {T:Nat->Prop}{w w':World}{o o':Own}{R pg pn:Nat}{x:xI}{xs:List xI}
theorem Afp.step (h:Afp w o x) (s:aj T w o w' o') (q:¬ T x.Q):Afp w' o' x:=by
 have l:=au h.1;exact ⟨(s.block _ l (by rw [h.2];exact q)).trans h.1,(s.own _ l).trans h.2⟩
theorem AeE.step (h:AeE w o R pg pn xs) (s:aj T w o w' o') (F:¬ T R) (J:¬ T (R+1)):AeE w' o' R pg pn xs:=by
 obtain ⟨r,cap,u,E,O,h4,q⟩:=h;have l:=au u;exact ⟨r,cap,(s.block _ l (by rw [E];exact F)).trans u,(s.own _ l).trans E,Cf O (s.block r q (by rw [h4];exact J)),(by rw [s.own _ q];exact h4),Nat.lt_of_lt_of_le q s.size⟩
theorem at_bad (h:AeE w o R pg pn xs) (i:Int) (hi:i<0 \/ (xs.length:Int)<=i) (f:Value):Calls prog 43 #[.pointer (some ⟨pg,0,none⟩), .int .i64 i,f] w fun e w'=>e = .returned (.int .i64 1)/\w=w':=by
 obtain ⟨u,cap,q,-⟩:=h;have r:=ag q 0;simp only [ay] at r;clear q
 by_cases h0:i<0
 ·clear hi;go_enter func43,ntmps43
  go_wp2
  go_ret;exact ⟨rfl,rfl⟩
 ·have E:(xs.length:Int)<=i:=om
  clear hi;go_enter func43,ntmps43
  go_wp2
  go_ret;exact ⟨rfl,rfl⟩
theorem Acd (h:AeE w o R pg pn xs) (i:Nat) (r:xs[i]?=some x) (q:Nat) (cp:Array Value) (Q:Ending->World->Prop)
  (a2:∀ (args:Array Value) (x:World),(callFunc q args).run prog x = .ok (.enter q args) x)
  (hq:Calls prog q (#[Uc x.px]++cp) w Q) (E:∀ e w',Q e w'->∃ v,e = .returned v) :
  Calls prog 43 #[.pointer (some ⟨pg,0,none⟩), .int .i64 (i:Int), .func (.func q) #[] cp] w Q:=by
 obtain ⟨bn,cap,F,U,J,h4,Y⟩:=h;have c0:=ag F 0;have c1:=J i (Uc x.px) (by rw [List.getElem?_map,r];rfl);have hl:i<xs.length:=(List.getElem?_eq_some_iff.1 r).1;simp only [ay,Nat.zero_add] at c0 c1;have O:=ae hq;have tN:=ae E;have a3:(i:Int)<(xs.length:Int):=om
 clear F U J h4 Y r hq E;unfold Uc at c1 O;go_enter func43,ntmps43;go_wp2_with fail;refine O.out.mono ?_;intro e W u;obtain ⟨v,rfl⟩:=tN.out e W u;have vJ:=ae u;clear u;go_wp2_with fail;exact vJ.out
end
section
variable {w:World}{o:Own}{R pg pn:Nat}{xs:List xI}{i:Int}
theorem Aiu (h:AeE w o R pg pn xs) (hi:i<0 \/ (xs.length:Int)<=i):Calls prog 14 #[.pointer (some ⟨pg,0,none⟩), .int .i64 i] w (XL ai w o fun v _ _=>v = .int .i64 1):=by
 obtain ⟨W,u,r,⟨q,-⟩,-⟩:=Ajq w o (.cells #[.pointer (some ⟨pg,0,none⟩)] 22) (.cells #[.int .i64 i] 3);have E:=ae (h.step q id id);clear h;have F:=ae r;have J:=ae q;clear q r;go_enter func14,ntmps14;go_wp2_with fail;rw [F.out];refine (at_bad E.out _ hi _).mono ?_;rintro e O ⟨rfl,rfl⟩;go_wp2_with fail;go_ret;exact ⟨_,u,rfl,J.out,rfl⟩
theorem AeT (h:AeE w o R pg pn xs) (hi:i<0 \/ (xs.length:Int)<=i) (r:Option Addr) (u E:Nat):Calls prog 12 #[.pointer (some ⟨pg,0,none⟩), .int .i64 i, .slice r u E] w (XL ai w o fun v _ _=>v = .int .i64 1):=by
 obtain ⟨W,J,F,⟨q,-⟩,-⟩:=AaC w o (.cells #[.slice r u E] 29);have O:=ae (h.step q id id);clear h;have U:=ae F;have Y:=ae q;clear q F;go_enter func12,ntmps12;go_wp2_with fail;rw [U.out];refine (at_bad O.out _ hi _).mono ?_;rintro e W1 ⟨rfl,rfl⟩;go_wp2_with fail;go_ret;exact ⟨_,J,rfl,Y.out,rfl⟩
theorem Aix (h:AeE w o R pg pn xs) (hi:i<0 \/ (xs.length:Int)<=i):Calls prog 13 #[.pointer (some ⟨pg,0,none⟩), .int .i64 i] w (XL ai w o fun v _ _=>v = .int .i64 1):=by
 obtain ⟨W,q,u,r⟩:∃ W q,w=W/\aj ai w o W q:=⟨w,o,rfl,aj.refl _ _ _⟩;have E:=ae (h.step r id id);clear h;have J:=ae u;have F:=ae r;subst u;clear r;go_enter func13,ntmps13;go_wp2_with fail;refine (at_bad E.out _ hi _).mono ?_;rintro e O ⟨rfl,rfl⟩;go_wp2_with fail;go_ret;exact ⟨_,q,rfl,F.out,rfl⟩
theorem Aiy (h:AeE w o R pg pn xs) (hi:i<0 \/ (xs.length:Int)<=i) (k:Int):Calls prog 39 #[.pointer (some ⟨pg,0,none⟩), .int .i64 i, .int .i64 k] w (XL ai w o fun v _ _=>v = .int .i64 1):=by
 obtain ⟨W,u,r,⟨q,-⟩,-⟩:=AaC w o (.cells #[.int .i64 k] 3);have E:=ae (h.step q id id);clear h;have F:=ae r;have J:=ae q;clear q r;go_enter func39,ntmps39;go_wp2_with fail;rw [F.out];refine (at_bad E.out _ hi _).mono ?_;rintro e O ⟨rfl,rfl⟩;go_wp2_with fail;go_ret;exact ⟨_,u,rfl,J.out,rfl⟩
theorem Agy (h:AeE w o R pg pn xs) (hi:i<0 \/ (xs.length:Int)<=i) (r:Option Addr) (u E:Nat):Calls prog 17 #[.pointer (some ⟨pg,0,none⟩), .int .i64 i, .slice r u E] w (XL ai w o fun v _ _=>v = .int .i64 1):=by
 obtain ⟨W,J,F,⟨q,-⟩,-⟩:=Ajp w o (.cells #[.pointer (some ⟨pg,0,none⟩)] 22) (.cells #[.int .i64 i] 3) (.cells #[.slice r u E] 53);have O:=ae (h.step q id id);clear h;have U:=ae F;have Y:=ae q;clear q F;go_enter func17,ntmps17;go_wp2_with fail;rw [U.out];refine (at_bad O.out _ hi _).mono ?_;rintro e W1 ⟨rfl,rfl⟩;go_wp2_with fail;go_ret;exact ⟨_,J,rfl,Y.out,rfl⟩
end
section
variable {w:World}{o:Own}{R pg pn D K H Mx px pd:Nat}{zv sv:Value}{t:AZ}
def Adi (R Mx:Nat):Nat->Prop:=fun k=>k=R \/ Mx<k
theorem Aiw (hb:w.heap[px]?=some (.cells [zv,Uc pd,sv].toArray 94 (0,0))) (J:o px=(R,0)) (a8:R ≠ 0) (O:D<=Mx) (hR:R<=Mx) (a9:R ≠ D) (U:D ≠ 0)
  (u:SG K H t) (hK:K<65536) (hn:t.d.pages.length<=400) (W:Bg w o D pd t.d) (id n:Nat) (h1:1<=n) (h3:n<=3) (hi:id<n) :
  Calls prog 42 #[.pointer (some ⟨px,0,none⟩), .int .i64 (id:Int), .int .i64 (n:Int)] w (XL (Adi R Mx) w o fun v w' o'=>v = .int .i64 0/\∃ ps pz,Afp w' o' ⟨R,D,Mx,px,pz,ps,pd⟩/\Bc w' o' D Mx pz ps pd (Am.new id n t)):=by
 have Y:=ae (YG Mx O U u hK hn W);have E:=ae (aI hb J);have c1:=ag hb 1;simp only [ay,ax] at c1;unfold Uc at c1;have a2:(t.dead || t.d.dead)=false:=by rw [u.live,u.dd];rfl
 have a7:=ae a2;clear hb J W u a2;go_enter func42,ntmps42;go_wp2_with fail;refine Y.out.mono ?_;rintro e W1 ⟨v,o1,rfl,a3,ps,rfl,ha⟩;have a4:=ae (XC (M:=Mx) ⟨O,U⟩ ha a7.out id n h1 h3 hi);have a5:=ae a3;clear Y a3 ha;go_wp2_with fail;refine a4.out.mono ?_;rintro e W2 ⟨v,F,rfl,a6,pz,rfl, -,hz⟩;have st:=a5.out.trans (a6.mono (T':=EN Mx) fun _ h=>h.elim);have l:=au E.out.1;have q:=(st.block px l (by rw [E.out.2];show ¬ Mx<R;omega)).trans E.out.1;have r:=(st.own px l).trans E.out.2;have f0:=Ap q 0;have f2:=Ap q 2;have k0:=ag q 0;have k2:=ag q 2;simp only [ay,ax] at k0 k2;have s3:=(st.mono (T':=Adi R Mx) fun _ h=>.inr h).setCell (a:=⟨px,2,none⟩) (Uc ps) (.inl (by rw [r];exact .inl rfl));have b3:=Ai (i:=2) (Uc ps) q;have s4:=s3.setCell (a:=⟨px,0,none⟩) (Uc pz) (.inl (by rw [r];exact .inl rfl));have b4:=Ai (i:=0) (Uc pz) b3;have u3:=((aj.refl (ak R) W2 F).setCell (a:=⟨px,2,none⟩) (Uc ps) (.inl (by rw [r];rfl))).setCell (a:=⟨px,0,none⟩) (Uc pz) (.inl (by rw [r];rfl));have hF:=ae (aI s4 (aI (show Afp _ F ⟨R,D,Mx,px,pz,ps,pd⟩ from ⟨b4,r⟩) (hz.step u3 (by intro k hk;cases hk;unfold KC;omega))));clear s4 s3 b4 b3 u3 st q hz a6 r a5 a4;go_wp2_with fail;go_ret;exact ⟨_,F,rfl,hF.out.1,rfl,ps,pz,hF.out.2⟩
end
def kP (w:World) (o:Own) (base X:Nat) (ty:TypeId) (sz:Nat) (v:Value) (n:Nat) (cs:List Value):Prop:=
 w.ownsRow base ty sz v n cs/\∀ g,v.ownBlock=some g->o g=(X,0)
section
variable {w w' W:World}{o o':Own}{base X sz n:Nat}{ty:TypeId}{v:Value}{cs:List Value}
theorem kP.nil (w:World) (o:Own) (base X:Nat) (ty:TypeId) (sz:Nat):kP w o base X ty sz (.slice none 0 0) 0 []:=⟨World.ownsRow_nil _ _ _ _,fun g q=>by simp [Value.ownBlock] at q⟩
theorem kP.step {T:Nat->Prop}(h:kP w o base X ty sz v n cs) (s:aj T w o w' o') (u:¬ T X):kP w' o' base X ty sz v n cs:=
 ⟨Ci h.1 fun k q=>s.block k (h.1.lt k q).2 (by rw [h.2 k q];exact u),fun g r=>by rw [s.own g (h.1.lt g r).2];exact h.2 g r⟩
theorem kP.form (h:kP w o base X ty sz v n cs):∃ a c,v = .slice a n c:=BA h.1
theorem kP.at (h:kP w o base X ty sz v n cs) (hn:0<n):∃ b cap,v = .slice (some ⟨b,0,none⟩) n cap/\w.rangeAt b 0 cs/\o b=(X,0)/\b<w.heap.size:=by
 rcases h.1.2 with ⟨rfl,h0⟩ | ⟨g,cap,cur,rfl,u,q,F,J,O,r⟩
 ·omega
 ·refine ⟨g,cap,rfl, ?_,h.2 g rfl,au q⟩;have:=BU (w:=w) (b:=g) (cs:=cur.toList) (E:=ty) (fr:=(0,0)) (by simpa using q) 0 (n*sz);rw [List.drop_zero,r] at this;exact this
theorem kP.append {t:TypeId}{zs:List Value}{bytes m:Nat}{J:Value}{q:List Value}(h:kP W o base X ty sz v n cs) (O:prog.underlying t=some (.slice ty)) (hi:(prog.info? ty).map (fun i=>(i.zero.map (fun z=>z.cells.toList),i.size,i.bytes))=some (some zs,sz,bytes)) (U:zs.length=sz) (Y:0<sz)
  (a2:(prog.info? ty).map (·.size)=some sz) (a3:base<=W.heap.size) (hy:sH W o J m q) (hl:q.length=m*sz) (r:∀ u ∈ q,u.oneCell'=true) (hn:n+m<=100000) (hb:bytes<=1000) :
  ∃ nv w' o',(Builtin.append_ #[t,t] t #[v,J]).run prog W = .ok nv w'/\kP w' o' base X ty sz nv (n+m) (cs++q)/\aj (ak X) W o w' o':=by
 by_cases hm:0<m
 ·rcases hy with ⟨_,h0,-⟩ | ⟨b,off,cap,rfl,hc,b1,ho,b2,hr⟩
  ·omega
  ·have a4:(n+m)*bytes<=140737488355328:=Nat.le_trans (Nat.mul_le_mul hn hb) om;obtain ⟨g,b3,w',a5,a6,a7,E,b4⟩:=DD (P:=prog) W t t ty O hi U Y a3 v n cs h.1 b off m cap q hl hr r hm om a4;refine ⟨_,w',Ak o g (X,0),a5,⟨a6,fun k F=>?_⟩,(aj.refl (ak X) W o).grown a7 (fun k F=>.inl (by show (o k).1=X;rw [h.2 k F])) g (X,0) (by
    rcases E with E | E
    ·exact .inl (h.2 g E)
    ·exact .inr om)⟩
   simp only [Value.ownBlock,Option.some.injEq] at F;subst F;exact Au _ _ _
 ·obtain rfl:m=0:=om
  have a8:q=[]:=List.eq_nil_of_length_eq_zero om;subst a8;obtain ⟨a',c',rfl⟩:=Aq hy;obtain ⟨a,c,rfl⟩:=h.form;have a9:n<=c:=by
   rcases h.1.2 with ⟨r,h2⟩ | ⟨g,cap,cur,r,_,_,h2,h3,_⟩
   ·simp only [Value.slice.injEq] at r;omega
   ·simp only [Value.slice.injEq] at r;omega
  exact ⟨_,W,o,CB (P:=prog) W t t ty sz O a2 a a' n c c' a9 om,by simpa using h,aj.refl _ _ _⟩
end
structure Agb (R:Nat) (xs:List xI):Prop where
 at':∀ (i:Nat) (x:xI),xs[i]?=some x->x.Q=R+4+i/\x.D=R+10+i/\R+20<=x.M
 apart:∀ (i j:Nat) (x y:xI),i<j->xs[i]?=some x->xs[j]?=some y->x.M+4<=y.M \/ y.M+4<=x.M
def AcX (w:World) (o:Own) (xs:List xI) (zs:List Am):Prop:=
 xs.length=zs.length/\∀ (i:Nat) (x:xI) (z:Am),xs[i]?=some x->zs[i]?=some z->Afp w o x/\Bc w o x.D x.M x.pz x.ps x.pd z
def Pe (w:World) (o:Own) (R pg pn:Nat) (xs:List xI) (zs:List Am) (g:GN):Prop:=
 AeE w o R pg pn xs/\sV w o (R+2) pn g/\Agb R xs/\AcX w o xs zs
def BgS (R:Nat) (xs:List xI):Nat->Prop:=fun k=>(R<=k/\k<R+20) \/ ∃ x ∈ xs,x.M<k/\k<=x.M+4
section
variable {T:Nat->Prop}{w w':World}{o o':Own}{R pg pn:Nat}{xs:List xI}{zs:List Am}{g:GN}
theorem AcX.step (h:AcX w o xs zs) (s:aj T w o w' o') (h0:¬ T 0) (u:∀ x ∈ xs,¬ T x.Q/\∀ t,T t->¬ KC x.D x.M t):AcX w' o' xs zs:=by
 refine ⟨h.1,fun i x z q E=>?_⟩;obtain ⟨F,J⟩:=h.2 i x z q E;have:=u x (List.mem_of_getElem? q);exact ⟨F.step s this.1,J.step s fun t r=>⟨fun e=>h0 (e ▸ r),this.2 t r⟩⟩
theorem Pe.step (h:Pe w o R pg pn xs zs g) (s:aj T w o w' o') (h0:¬ T 0) (u:∀ k,T k->¬ BgS R xs k) (hn:xs.length<=3):Pe w' o' R pg pn xs zs g:=by
 obtain ⟨J,O,E,h4⟩:=h;have a:∀ k,R<=k->k<R+20->¬ T k:=fun k q U r=>u k r (.inl ⟨q,U⟩);refine ⟨J.step s (a _ om om) (a _ om om),O.step s (a _ om om) h0,E,h4.step s h0 fun x F=>?_⟩;obtain ⟨i,W,rfl⟩:=List.mem_iff_getElem.1 F;obtain ⟨Y,q2,q3⟩:=E.at' i _ (List.getElem?_eq_getElem W);refine ⟨a _ om om,fun t r q=>?_⟩
 rcases q with q | q
 ·exact a t om om r
 ·exact u t r (.inr ⟨_,F,q⟩)
end
theorem AmV (w:World) (n:Nat):(Instr.buildSlice 53 1 #[(0, .int .i64 (n:Int))]).run prog w = .ok (.slice (some ⟨w.heap.size,0,none⟩) 1 1) (w.alloc (.cells [.int .i64 (n:Int)].toArray 3)):=
 Dv w 53 3 [.int .i64 0] (.int .i64 (n:Int)) [.int .i64 (n:Int)] underlying53 (by kernel_rfl) rfl (by simp) (by simp) rfl
theorem AsE:(prog.info? 90).map (fun i=>(i.zero.map (fun z=>z.cells.toList),i.size,i.bytes))=some (some [.pointer none],1,8):=by kernel_rfl
theorem ApC:(prog.info? 90).map (·.size)=some 1:=by kernel_rfl
theorem Apj (w:World) (p:Nat):(Instr.buildSlice 81 1 #[(0, .pointer (some ⟨p,0,none⟩))]).run prog w = .ok (.slice (some ⟨w.heap.size,0,none⟩) 1 1) (w.alloc (.cells [.pointer (some ⟨p,0,none⟩)].toArray 90)):=
 Dv w 81 90 [.pointer none] (.pointer (some ⟨p,0,none⟩)) [.pointer (some ⟨p,0,none⟩)] underlying81 (by kernel_rfl) rfl (by simp) (by simp) rfl
def Ahz (n pages k:Nat):List Am:=(List.range k).map fun i=>Am.new i n (YJ pages)
theorem Aol (n pages k:Nat):Ahz n pages (k+1)=Ahz n pages k++[Am.new k n (YJ pages)]:=by unfold Ahz;rw [List.range_succ,List.map_append];rfl
theorem AeN (n pages k:Nat):(Ahz n pages k).length=k:=by unfold Ahz;simp
def AmX (xs:List xI):List Value:=xs.map fun x=>Uc x.px
theorem Agq {α:Type}{l:List α}{a b:α}{i:Nat}(h:(l++[a])[i]?=some b):(i<l.length/\l[i]?=some b) \/ (i=l.length/\b=a):=by
 by_cases q:i<l.length
 ·rw [List.getElem?_append_left q] at h;exact .inl ⟨q,h⟩
 ·have hl:=(List.getElem?_eq_some_iff.1 h).1;simp only [List.length_append,List.length_cons,List.length_nil] at hl;have e:i=l.length:=om
  subst e;simp at h;exact .inr ⟨rfl,h.symm⟩
theorem AcX.push {xs:List xI}{zs:List Am}{x:xI}{z:Am}(h:AcX w o xs zs) (q:Afp w o x) (r:Bc w o x.D x.M x.pz x.ps x.pd z):AcX w o (xs++[x]) (zs++[z]):=by
 refine ⟨by simp [h.1],fun i u E F J=>?_⟩
 rcases Agq F with ⟨O,U⟩ | ⟨O,rfl⟩ <;> rcases Agq J with ⟨W,h4⟩ | ⟨W,rfl⟩
 ·exact h.2 i u E U h4
 ·have:=h.1;omega
 ·have:=h.1;omega
 ·exact ⟨q,r⟩
theorem Agb.push {xs:List xI}{x:xI}(h:Agb R xs) (u:∀ (i:Nat) (y:xI),xs[i]?=some y->y.M=R+20+5*i) (E:x.Q=R+4+xs.length) (F:x.D=R+10+xs.length) (J:x.M=R+20+5*xs.length) :
  Agb R (xs++[x])/\(∀ (i:Nat) (y:xI),(xs++[x])[i]?=some y->y.M=R+20+5*i):=by
 have r:∀ (i:Nat) (y:xI),(xs++[x])[i]?=some y->y.M=R+20+5*i:=by
  intro i y q
  rcases Agq q with ⟨-,e⟩ | ⟨rfl,rfl⟩
  ·exact u i y e
  ·exact J
 refine ⟨⟨fun i y q=>?_,fun i j y O W q U=>?_⟩,r⟩
 ·rcases Agq q with ⟨-,e⟩ | ⟨rfl,rfl⟩
  ·exact h.at' i y e
  ·exact ⟨E,F,om⟩
 ·have e1:=r i y q;have e2:=r j O U;omega
def Made (w0:World) (o0:Own) (M0 R pg pn n pages:Nat) (k:Nat) (w:World) (o:Own) (rv:Value) (xs:List xI):Prop:=
 w.heap[pg]?=some (.cells [rv,Uc pn].toArray 84 (0,0))/\o pg=(R,0)/\kP w o w0.heap.size (R+1) 90 1 rv k (AmX xs)/\sV w o (R+2) pn ⟨n,[],[]⟩ /\
  Agb R xs/\(∀ (i:Nat) (x:xI),xs[i]?=some x->x.M=R+20+5*i)/\AcX w o xs (Ahz n pages k)/\aj (EN M0) w0 o0 w o
theorem Aky {M0:Nat}(hM:M0<R) (n pages:Nat) (b7:1<=n) (b8:n<=3) (hp:8<=pages) (f6:pages<=400) (w:World) (o:Own) :
  Calls prog 9 #[.int .i64 (n:Int), .int .i64 (pages:Int)] w (XL (EN M0) w o fun v w' o'=>∃ pg pn xs,v = .tuple #[.pointer (some ⟨pg,0,none⟩), .int .i64 0]/\Pe w' o' R pg pn xs (Ahz n pages n) ⟨n,[],[]⟩/\xs.length=n):=by
 have f7:(1:Int)<=(n:Int)/\(n:Int)<=3:=om
 obtain ⟨W1,o1,b9,⟨a9,-⟩,c3⟩:=Akp w o (.cells #[.slice none 0 0, .pointer none] 84) (R,0);obtain ⟨W2,o2,c4,⟨Y,-⟩,W⟩:=Akp W1 o1 (.cells [.int .i64 (n:Int)].toArray 3) (0,0);have a7:=ae (AmV W1 n);have a2:sH W2 o2 (.slice (some ⟨W1.heap.size,0,none⟩) 1 1) 1 [.int .i64 (n:Int)] := .inr ⟨W1.heap.size,0,1,rfl,Nat.le_refl _,by simp [maxLen],by rw [W.2],au W.1,AV W.1⟩;have c6:=ae (Aqp n (R+2) a2 ⟨b7,b8⟩);have hE:=ae (aI (a9.trans Y) (c3.step Y id));have uM:=ae b9;have xO:=ae c4;clear a9 Y c3 W a2 b9 c4;go_enter func9,ntmps9
 go_wp2_with ((with_reducible apply BO #[(0, .int .i64 (n:Int))] rfl);(try rw [uM.out]);exact a7.out;simp only [Act.put,GL,DL,lss])
 rw [xO.out];refine c6.out.mono ?_;rintro e W3 ⟨v3,o3,rfl,r,pn,rfl,c7,-⟩;have c8:=hE.out.1;have a3:=hE.out.2.step r id;have l3:=au a3.1;have k1:=ag a3.1 1;have f1:=Ap a3.1 1;simp only [ay,ax] at k1;have c9:=(c8.trans r).mono (T':=EN M0) fun _ h=>h.elim;have d1:=c9.setCell (a:=⟨w.heap.size,1,none⟩) (Uc pn) (.inr (Nat.le_refl _));have u1:=(aj.refl (ak R) W3 o3).setCell (a:=⟨w.heap.size,1,none⟩) (Uc pn) (.inl (by rw [a3.2];rfl));have b4:=Ai (i:=1) (Uc pn) a3.1;have n4:=c7.step u1 (by show ¬ R+2=R;omega) (by show ¬ 0=R;omega);have a4:Made w o M0 R w.heap.size pn n pages 0 (W3.setCell ⟨w.heap.size,1,none⟩ (Uc pn)) o3 (.slice none 0 0) []:=
  ⟨b4,a3.2,kP.nil _ _ _ _ _ _,n4,⟨fun i x E=>by simp at E,fun i j x y _ E=>by simp at E⟩,fun i x E=>by simp at E,⟨rfl,fun i x z E=>by simp at E⟩,d1⟩
 have d3:=ae a4;clear c8 a3 c9 d1 u1 b4 n4 a4 c7 r c6 hE uM xO a7;go_wp2_with fail
 go_loopw [30] (fun i wr=>∃ (k:Nat) (oj:Own) (rv:Value) (xs:List xI),k<=n/\i = .int .i64 k/\Hid (Made w o M0 R w.heap.size pn n pages k wr oj rv xs)) (fun i _=>n - (intOf i).toNat)
 case atStart=>exact ⟨0,o3,_,[],Nat.zero_le _,rfl,d3⟩
 case round =>
  clear d3 k1 f1 l3;obtain ⟨k,oj,rv,xs,hk,rfl,a4⟩:=hrel
  by_cases e7:k<n
  ·have f8:(0:Int)<=(k:Int)/\(k:Int)<(n:Int):=om
   have d4:=ae (TB pages wr oj (R+10+k) om om);go_wp2_with fail;refine d4.out.mono ?_;rintro ex V1 ⟨v,p1,rfl,a9,pd, -,rfl,hd⟩;obtain ⟨V2,p2,d5,⟨Y,-⟩,W⟩:=Akp V1 p1 (.cells [.pointer none,Uc pd, .pointer none].toArray 94) (R+4+k,0);have d6:=ae (Aiw (R:=R+4+k) (D:=R+10+k) (Mx:=R+20+5*k) W.1 W.2 om om om om om (dL hp om) om (by show (Af.new pages).pages.length<=400;simp [Af.new];omega) (hd.step Y id) k n b7 b8 e7);have hG:=ae (aI a9 Y);have d7:=ae d5;clear a9 Y hd W d5 d4;go_wp2_with fail;unfold Uc at d7;rw [d7.out];refine d6.out.mono ?_;rintro ex O ⟨v,p3,rfl,r,rfl,ps,pz,d8,d9⟩;obtain ⟨m1,m2,m3,m4,m5,m6,m7,m8⟩:=a4.out;have a5:xs.length=k:=by rw [m7.1,AeN]
   have J:=hG.out.1.trans hG.out.2;have a8:=au m1;have n1:=(r.block _ (Nat.lt_of_lt_of_le a8 J.size) (by rw [J.own _ a8,m2];unfold Adi;omega)).trans ((J.block _ a8 id).trans m1);have n2:=(r.own _ (Nat.lt_of_lt_of_le a8 J.size)).trans ((J.own _ a8).trans m2);have n3:=(m3.step J id).step r (by unfold Adi;omega);have n4:=(m4.step J id id).step r (by unfold Adi;omega) (by unfold Adi;omega);have hT:∀ x ∈ xs,¬ Adi (R+4+k) (R+20+5*k) x.Q/\∀ t,Adi (R+4+k) (R+20+5*k) t->¬ KC x.D x.M t:=by
    intro x E;obtain ⟨i,hi,rfl⟩:=List.mem_iff_getElem.1 E;obtain ⟨q1,q2,q3⟩:=m5.at' i _ (List.getElem?_eq_getElem hi);have q4:=m6 i _ (List.getElem?_eq_getElem hi);refine ⟨by unfold Adi;omega,fun t U hk=>?_⟩;unfold Adi at U;unfold KC at hk;omega
   have n7:=(m7.step J id (fun x _=>⟨id,fun t U=>U.elim⟩)).step r (by unfold Adi;omega) hT;have n8:=m8.trans ((J.mono (T':=EN M0) fun _ h=>h.elim).trans (r.mono fun t U=>by unfold Adi at U;show M0<t;omega));obtain ⟨ra,rc,rfl⟩:=n3.form;have c0:=ag n1 0;simp only [ay] at c0;have e8:=n8.size;generalize f9:V1.heap.size=q at *;have F:=(aj.refl ai O p3).alloc (.cells [.pointer (some ⟨q,0,none⟩)].toArray 90) (0,0);have e0:=heap_alloc_new O (.cells [Value.pointer (some ⟨q,0,none⟩)].toArray 90);have a7:=Apj O q;have a2:sH (O.alloc (.cells [.pointer (some ⟨q,0,none⟩)].toArray 90)) (Ak p3 O.heap.size (0,0)) (.slice (some ⟨O.heap.size,0,none⟩) 1 1) 1 [.pointer (some ⟨q,0,none⟩)]:=
    .inr ⟨O.heap.size,0,1,rfl,Nat.le_refl _,by simp [maxLen],by rw [Au],by simp,AV e0⟩
   obtain ⟨V4,b2⟩:=az (O.alloc (.cells [.pointer (some ⟨q,0,none⟩)].toArray 90));obtain ⟨O4,e3⟩:=az (Ak p3 O.heap.size (0,0));rw [b2] at F a7 a2;rw [e3] at F a2;obtain ⟨nv,V5,O5,e4,tK,b1⟩:=(n3.step F id).append (t:=81) underlying81 AsE rfl om ApC (Nat.le_trans e8 F.size) a2 rfl (by intro u hu;simp at hu;subst hu;rfl) om om;have a1:=b1.block _ (Nat.lt_of_lt_of_le (au n1) F.size) (by rw [F.own _ (au n1),n2];show ¬ R=R+1;omega);have b5:=a1.trans ((F.block _ (au n1) id).trans n1);have o5:=(b1.own _ (Nat.lt_of_lt_of_le (au n1) F.size)).trans ((F.own _ (au n1)).trans n2);have k5:=ag b5 0;have f5:=Ap b5 0;simp only [ay] at k5;have b6:=Ai (i:=0) nv b5;have u6:=(aj.refl (ak R) V5 O5).setCell (a:=⟨w.heap.size,0,none⟩) nv (.inl (by rw [o5];rfl));have a6:=(F.mono (T':=fun t=>t=R \/ t=R+1) fun _ h=>h.elim).trans ((b1.mono fun t (h:t=R+1) => .inr h).trans (u6.mono fun t (h:t=R) => .inl h));obtain ⟨V6,b3⟩:=az (V5.setCell ⟨w.heap.size,0,none⟩ nv);rw [b3] at b6 u6 a6;have e9:∀ t,(t=R \/ t=R+1)->¬ Adi (R+4+k) (R+20+5*k) t:=by intro t U;unfold Adi;omega
   have x7:AcX V6 O5 (xs++[⟨R+4+k,R+10+k,R+20+5*k,q,pz,ps,pd⟩]) (Ahz n pages (k+1)):=by
    rw [Aol];refine (n7.step a6 om fun x E=>?_).push (d8.step a6 (by show ¬ (R+4+k=R \/ R+4+k=R+1);omega)) (d9.step a6 fun t U=>⟨om,by unfold KC;omega⟩);obtain ⟨i,hi,rfl⟩:=List.mem_iff_getElem.1 E;obtain ⟨q1,q2,q3⟩:=m5.at' i _ (List.getElem?_eq_getElem hi);exact ⟨om,fun t U hk=>by unfold KC at hk;omega⟩
   obtain ⟨y5,y6⟩:=m5.push (x:=⟨R+4+k,R+10+k,R+20+5*k,q,pz,ps,pd⟩) m6 (by rw [a5]) (by rw [a5]) (by rw [a5]);have e5:AmX xs++[.pointer (some ⟨q,0,none⟩)]=AmX (xs++[⟨R+4+k,R+10+k,R+20+5*k,q,pz,ps,pd⟩]):=by simp [AmX,Uc]
   rw [e5] at tK;have e6:Made w o M0 R w.heap.size pn n pages (k+1) V6 O5 nv (xs++[⟨R+4+k,R+10+k,R+20+5*k,q,pz,ps,pd⟩]):=
    ⟨b6,o5,tK.step u6 (by show ¬ R+1=R;omega),n4.step a6 om om,y5,y6,x7,n8.trans (a6.mono fun t U=>by show M0<t;omega)⟩
   have f0:=ae e6;have f2:=ae b3;obtain ⟨na,nc,rfl⟩:=tK.form;have f3:=ae a7;have f4:=ae e4;have g0:=ae b2;have g1:=c0;clear a1 b5 o5 b6 u6 a6 b3 e9 x7 y5 y6 e5 e6 tK b1 e4 a7 a2 F e0 b2 e3 n1 n2 n3 n4 n7 n8 hT J a8 m1 m2 m3 m4 m5 m6 m7 m8 r d8 d9 hG d6 a4
   go_wp2_with (first
    | ((with_reducible apply BO #[(0, .pointer (some ⟨q,0,none⟩))] rfl);exact f3.out;simp only [Act.put,GL,DL,lss])
    | ((with_reducible apply Bl);exact f4.out;simp only [Act.put,GL,DL,lss]))
   rw [f2.out];exact ⟨⟨k+1,O5,_,_,om,by go_num,f0⟩,by simp [intOf];omega⟩
  ·obtain rfl:n=k:=om
   obtain ⟨m1,m2,m3,m4,m5,m6,m7,m8⟩:=a4.out;obtain ⟨b,cap,rfl,h2,h3,h4⟩:=m3.at om;have a5:xs.length=n:=by rw [m7.1,AeN]
   have hF:=ae (aI m8 (aI (show Pe wr oj R w.heap.size pn xs (Ahz n pages n) ⟨n,[],[]⟩ from ⟨⟨b,cap,by rw [a5];exact m1,m2,h2,by rw [h3],h4⟩,m4,m5,m7⟩) a5));clear m1 m2 m3 m4 m5 m6 m7 m8 h2 h3 h4 a4 a5;go_wp2_with fail
   go_ret2
   exact ⟨_,oj,rfl,hF.out.1,_,_,_,rfl,hF.out.2⟩
namespace GN
def sends (g:GN) (src:Nat) (ts:List (Nat × List UInt8)):GN:=ts.foldl (fun g t=>(g.send ⟨src,t.1,t.2⟩).1) g
theorem AwA (g:GN) (x:Aci):(g.send x).1.n=g.n:=by unfold send;split <;> (try split) <;> rfl
theorem ApJ (g:GN) (x:Aci) (h:g.l.length<=4096):(g.send x).1.l.length<=4096:=by
 unfold send;split
 ·exact h
 ·split
  ·exact h
  ·simp;omega
theorem Aso (g:GN) (src:Nat) (ts:List (Nat × List UInt8)):(g.sends src ts).n=g.n:=by
 induction ts generalizing g with
 | nil=>rfl
 | cons t ts q=>exact (q _).trans (AwA _ _)
theorem AnC (g:GN) (src:Nat) (ts:List (Nat × List UInt8)) (h:g.l.length<=4096):(g.sends src ts).l.length<=4096:=by
 induction ts generalizing g with
 | nil=>exact h
 | cons t ts q=>exact q _ (ApJ _ _ h)
theorem AkX (g:GN) (src:Nat) (ts:List (Nat × List UInt8)) (k:Nat) (t:Nat × List UInt8) (h:ts[k]?=some t):g.sends src (ts.take (k+1))=((g.sends src (ts.take k)).send ⟨src,t.1,t.2⟩).1:=by
 unfold sends;rw [List.take_add_one,h,List.foldl_append];rfl
end GN
theorem ApH (g:GN) (src:Nat) (ts:List (Nat × List UInt8)):(g.sends src ts).n=g.n:=g.Aso src ts
section
variable {w:World}{o:Own}{R N pg pn:Nat}{xs:List xI}{g:GN}
theorem Aiv (hb:AeE w o R pg pn xs) (h:sV w o N pn g) (hN:N ≠ 0) (hRN:R ≠ N) (BbT:R+1 ≠ N) (hlen:g.l.length<=4096) (src:Nat) (hs:src<g.n){ts:List (Nat × List UInt8)}(ho:Dn w o v ts)
  (ht:∀ t ∈ ts,t.1<g.n/\src ≠ t.1/\t.2.length<=2097152) :
  Calls prog 52 #[.pointer (some ⟨pg,0,none⟩), .int .i64 (src:Int),v] w (XL (ak N) w o fun _ w' o'=>sV w' o' N pn (g.sends src ts)):=by
 obtain ⟨cs,r,hoc⟩:=ho;obtain ⟨va,vc,rfl⟩:=Aq r;obtain ⟨L,E⟩:=az (ts.length);rw [E] at r ⊢;have hH:=ae (aI hb (aI h (aI r (aI hoc (aI ht E)))));clear hb h r hoc ht E;go_enter func52,ntmps52;go_wp2_with fail
 go_loopw [10] (fun i wr=>∃ (k:Nat) (F:Own),k<=L/\i = .int .i64 k/\Hid (aj (ak N) w o wr F/\sV wr F N pn (g.sends src (ts.take k)))) (fun i _=>L - (intOf i).toNat)
 case atStart=>exact ⟨0,o,Nat.zero_le _,rfl,ae ⟨aj.refl _ _ _,by rw [List.take_zero];exact hH.out.2.1⟩⟩
 case round =>
  obtain ⟨k,F,hk,rfl,hr⟩:=hrel
  by_cases a4:k<L
  ·obtain ⟨hb, -,r,hoc,ht,E⟩:=hH.out;obtain ⟨u,hn⟩:=hr.out;have a5:(0:Int)<=(k:Int)/\(k:Int)<(L:Int):=om
   obtain ⟨t,htk⟩:∃ t,ts[k]?=some t:=⟨_,List.getElem?_eq_getElem om⟩;obtain ⟨d1,d2,d3⟩:=ht t (List.mem_of_getElem? htk);obtain ⟨bn,cap,q,h2',h2,-⟩:=hb.step u hRN BbT;have c1:=ag q 1;simp only [ay,ax] at c1;have h0:¬ ak N 0:=fun e=>hN e.symm;obtain ⟨e1,bv,e2,e3⟩:=(hoc.step u h0).2 k t htk;have hsl2:=r.step u h0
   rcases hsl2 with ⟨-,hz,-⟩ | ⟨b,off,cap2,he,hl1,a3,hl3,a6,hl5⟩
   ·omega
   simp only [Value.slice.injEq] at he;obtain ⟨rfl, -,rfl⟩:=he;obtain ⟨ba,bc,rfl⟩:=Aq e3;have hLm:(k:Int)+1<=9223372036854775807:=by unfold maxLen at a3;omega
   have g0:=hl5 _ _ e1;have g1:=hl5 _ _ e2;rw [Nat.mul_comm 2 k] at g0 g1;rw [<-Nat.add_assoc] at g1;have l1:=u.size;have a7:(t.1:Int)=(t.1:Int):=rfl;obtain ⟨V,oV,hV,⟨hsV,-⟩,O⟩:=AaC wr F (.cells #[.int .i64 (t.1:Int), .slice ba t.2.length bc] 146);have dr:aj ai V oV V.drew oV:=(aj.refl ai V oV).drew;have q0:=O.cell 0;have q1:=O.cell 1;have q2:=ag ((hsV.block _ (au q) id).trans q) 1;simp only [ay,ax] at q0 q1 q2;unfold Uc at q2;have hS:=aI q2 (aI q0 q1);have hn0:=ApH g src (ts.take k);have U:=ae (Aok ((hn.step hsV id id).step dr id id) hN (GN.AnC g src _ hlen) ⟨src,t.1,t.2⟩ (by rw [hn0];exact hs) (by rw [hn0];exact d1) d2 ((e3.step hsV id).step dr id) d3);unfold Aaa at U;have hE:=ae (u.trans ((hsV.trans dr).mono (T':=ak N) fun _ h=>h.elim));have hB:=ae (aI (aI ((hsV.trans dr).block _ (au q) id |>.trans q) (aI (Nat.lt_of_lt_of_le (au q) (hsV.trans dr).size) (((hsV.trans dr).own _ (au q)).trans h2'))) (aI (O.step dr id) h0));have hVH:=ae hV;have Akd:=ae htk;clear h2' h0 q hl5 hb r hoc ht E u hk e1 e2 h2 hV hsV O dr q0 q1 q2 hn hn0 htk e3 hr;dsimp only at U;go_wp2_with fail;rw [hVH.out];refine Aa (fun w'=>w'.cell? ⟨pg,1,none⟩=some (.pointer (some ⟨pn,0,none⟩))/\w'.cell? ⟨wr.heap.size,0,none⟩=some (.int .i64 (t.1:Int))/\w'.cell? ⟨wr.heap.size,1,none⟩=some (.slice ba t.2.length bc)) (fun _=>true) (by kernel_rfl) hS (fun hHeld=>?_);refine tq 0 (h:=tq 1 (h:=tq 2 (h:=tq 3 (h:=tq 4 (h:=tq 5 (h:=tq 6 (h:=tq 7 (h:=tq 8 (h:=tq 9 (h:=tq 10 (h:=tq 11 (h:=tO 12 (h:=?_)))))))))))));go_wp2_with fail;refine U.out.mono ?_;rintro e W3 ⟨v3,o3,rfl,J, -,W⟩;obtain ⟨⟨z1,z2,z3⟩,z4,z5⟩:=hB.out;have r1:=ag ((J.block _ z2 (by rw [z3];exact hRN)).trans z1) 1;have r2:=(z4.step J z5).cell 0;have r3:=(z4.step J z5).cell 1;simp only [ay,ax] at r1 r2 r3;unfold Uc at r1;have Y:=aI r1 (aI r2 r3);go_wp2_with fail;refine ⟨fun _=>Y, ?_⟩;refine tD (h:=?_);have hq:=GN.AkX g src ts k t Akd.out;rw [<-hq] at W;have hF:=ae (aI (hE.out.trans J) W);clear Y r1 r2 r3 z1 z2 z3 z4 z5 W J hq hB hE;go_wp2_with fail;go_roundw
   case rel=>exact ⟨k+1,o3,om,by go_num,hF⟩
   case measure=>simp [intOf];omega
  ·obtain rfl:L=k:=om
   have hF:=hr.out;rw [<-hH.out.2.2.2.2.2,List.take_length] at hF;have a2:=ae hF;clear hF hr;go_wp2_with fail
   go_end0
   exact ⟨_,F,rfl,a2.out.1,a2.out.2⟩
end
section
variable {w:World}{o:Own}{R pg pn:Nat}{xs:List xI}{zs:List Am}{g:GN}{x:xI}{z:Am}
theorem Akz (q:Afp w o x) (r:Bc w o x.D x.M x.pz x.ps x.pd z) (hb:z.BN.OD=b):Calls prog 44 #[.pointer (some ⟨x.px,0,none⟩)] w fun e w'=>e = .returned (if b=true then .int .i64 0 else .int .i64 64)/\w=w':=by
 have hc:=RF r;rw [hb] at hc;have u:=ae hc;have E:=ag q.1 0;simp only [ay] at E;unfold Uc at E;clear hc q r hb
 cases b with
 | true =>
  go_enter func44,ntmps44;go_wp2_with fail;refine u.out.mono ?_;rintro e F ⟨rfl,rfl⟩;go_wp2_with fail;go_ret;exact ⟨rfl,rfl⟩
 | false =>
  go_enter func44,ntmps44;go_wp2_with fail;refine u.out.mono ?_;rintro e F ⟨rfl,rfl⟩;go_wp2_with fail;go_ret;exact ⟨rfl,rfl⟩
theorem AmN (h:Pe w o R pg pn xs zs g) (i:Nat) (q:xs[i]?=some x) (r:zs[i]?=some z) (hb:z.BN.OD=b):Calls prog 11 #[.pointer (some ⟨pg,0,none⟩), .int .i64 (i:Int)] w fun e w'=>e = .returned (.bool b)/\w=w':=by
 obtain ⟨u,E⟩:=h.2.2.2.2 i x z q r;have F:=ae (Acd h.1 i q 44 #[] _ Tryz.call44 (Akz u E hb) (fun e w' hq=>⟨_,hq.1⟩));clear h u E q r hb
 cases b with
 | true =>
  go_enter func11,ntmps11;go_wp2_with fail;refine F.out.mono ?_;rintro e J ⟨rfl,rfl⟩;go_wp2_with fail;go_ret;exact ⟨rfl,rfl⟩
 | false =>
  go_enter func11,ntmps11;go_wp2_with fail;refine F.out.mono ?_;rintro e J ⟨rfl,rfl⟩;go_wp2_with fail;go_ret;exact ⟨rfl,rfl⟩
theorem AmS (q:Afp w o x) (r:Bc w o x.D x.M x.pz x.ps x.pd z) (hb:z.dead=b):Calls prog 76 #[.pointer (some ⟨x.px,0,none⟩)] w fun e w'=>e = .returned (if b=true then .int .i64 9 else .int .i64 0)/\w=w':=by
 have hc:=FI r;rw [hb] at hc;have u:=ae hc;have E:=ag q.1 0;simp only [ay] at E;unfold Uc at E;clear hc q r hb
 cases b with
 | true =>
  go_enter func76,ntmps76;go_wp2_with fail;refine u.out.mono ?_;rintro e F ⟨rfl,rfl⟩;go_wp2_with fail;go_ret;exact ⟨rfl,rfl⟩
 | false =>
  go_enter func76,ntmps76;go_wp2_with fail;refine u.out.mono ?_;rintro e F ⟨rfl,rfl⟩;go_wp2_with fail;go_ret;exact ⟨rfl,rfl⟩
theorem Apg (h:Pe w o R pg pn xs zs g) (i:Nat) (q:xs[i]?=some x) (r:zs[i]?=some z) (hb:z.dead=b):Calls prog 28 #[.pointer (some ⟨pg,0,none⟩), .int .i64 (i:Int)] w fun e w'=>e = .returned (.bool b)/\w=w':=by
 obtain ⟨u,E⟩:=h.2.2.2.2 i x z q r;have F:=ae (Acd h.1 i q 76 #[] _ Tryz.call76 (AmS u E hb) (fun e w' hq=>⟨_,hq.1⟩));clear h u E q r hb
 cases b with
 | true =>
  go_enter func28,ntmps28;go_wp2_with fail;refine F.out.mono ?_;rintro e J ⟨rfl,rfl⟩;go_wp2_with fail;go_ret;exact ⟨rfl,rfl⟩
 | false =>
  go_enter func28,ntmps28;go_wp2_with fail;refine F.out.mono ?_;rintro e J ⟨rfl,rfl⟩;go_wp2_with fail;go_ret;exact ⟨rfl,rfl⟩
end
theorem Bc.Agt {w':World}{o':Own}{D M pz ps pd:Nat}{z:Am}{r:Af}(h:Bc w o D M pz ps pd z) (s:aj (ak D) w o w' o') (E:Bg w' o' D pd r):Bc w' o' D M pz ps pd { z with s:={ z.s with d:=r } }:=by
 obtain ⟨u,F,J,O,X,Y,U,W,k,kv,q,a2,hl,hc,a3,a4⟩:=h;have h0:¬ ak D 0:=fun e=>u.2 e.symm;have hX:¬ ak D X:=by show ¬ X=D;rcases q with ⟨rfl,rfl⟩ | ⟨rfl,rfl⟩ <;> omega
 have hY:¬ ak D Y:=by show ¬ Y=D;rcases q with ⟨rfl,rfl⟩ | ⟨rfl,rfl⟩ <;> omega
 exact ⟨u,F,J.step s (by show ¬ M+4=D;omega),O.step s (by show ¬ M+4=D;omega) h0,X,Y,U,W,k,kv,q,a2.step s (by show ¬ M+1=D;omega),hl.step s h0,hc.step s hX h0,a3.step s hY h0,E⟩
theorem Pe.set {w':World}{o':Own}{pg pn i:Nat}{xs:List xI}{zs:List Am}{x:xI}{z z':Am}(h:Pe w o R pg pn xs zs g) (_a2:R ≠ 0) (hn:xs.length<=3) (r:xs[i]?=some x) (O:zs[i]?=some z)
  (s:aj (KC x.D x.M) w o w' o') (U:Bc w' o' x.D x.M x.pz x.ps x.pd z'):Pe w' o' R pg pn xs (zs.set i z') g:=by
 obtain ⟨W,Y,u,h4,F⟩:=h;obtain ⟨q1,q2,q3⟩:=u.at' i x r;have hi:=(List.getElem?_eq_some_iff.1 r).1;refine ⟨W.step s (by unfold KC;omega) (by unfold KC;omega),Y.step s (by unfold KC;omega) (by unfold KC;omega),u,by rw [List.length_set];exact h4,fun j y v q hv=>?_⟩;obtain ⟨r1,r2,r3⟩:=u.at' j y q;have hj:=(List.getElem?_eq_some_iff.1 q).1
 by_cases E:i=j
 ·subst E;rw [r] at q
  cases q
  rw [List.getElem?_set_self (by rw [<-h4];exact hi)] at hv
  cases hv
  exact ⟨(F i x z r O).1.step s (by unfold KC;omega),U⟩
 ·rw [List.getElem?_set_ne E] at hv;obtain ⟨k1,k2⟩:=F j y v q hv;have a3:x.M+4<=y.M \/ y.M+4<=x.M:=by
   rcases Nat.lt_or_gt_of_ne E with hl | hl
   ·exact u.apart i j x y hl r q
   ·exact (u.apart j i y x hl q r).symm
  exact ⟨k1.step s (by unfold KC;omega),k2.step s fun t J=>⟨by unfold KC at J;omega,by unfold KC at J ⊢;omega⟩⟩
section
variable {w:World}{o:Own}{R pg pn:Nat}{xs:List xI}{zs:List Am}{g:GN}{x:xI}{z:Am}
def Am.Agt (z:Am) (d:Af):Am:={ z with s:={ z.s with d:=d } }
theorem AmO (E:Afp w o x) (r:Bc w o x.D x.M x.pz x.ps x.pd z):Calls prog 48 #[.pointer (some ⟨x.px,0,none⟩)] w (XL (KC x.D x.M) w o fun v w' o'=>v = .int .i64 0/\Bc w' o' x.D x.M x.pz x.ps x.pd (z.Agt z.s.d.kill)):=by
 have F:Bg w o x.D x.pd z.s.d:=by
  obtain ⟨_,_,_,_,_,_,_,_,_,_,_,q⟩:=r.store;exact q
 have hc:=ae (aQ F);have J:=ae r;have O:=ag E.1 1;simp only [ay,ax] at O;unfold Uc at O;clear E r F;go_enter func48,ntmps48;go_wp2_with fail;refine hc.out.mono ?_;rintro e W ⟨Y,o1,rfl,u, -,q⟩;have U:=ae (aI (u.mono (T':=KC x.D x.M) fun _ h=>.inl h) (J.out.Agt u q));clear u q J hc;go_wp2_with fail;go_ret;exact ⟨_,o1,rfl,U.out.1,rfl,U.out.2⟩
theorem AoD (h:Pe w o R pg pn xs zs g) (Y:R ≠ 0) (hn:xs.length<=3) (i:Nat) (q:xs[i]?=some x) (u:zs[i]?=some z):Calls prog 13 #[.pointer (some ⟨pg,0,none⟩), .int .i64 (i:Int)] w (XL (KC x.D x.M) w o fun v w' o'=>v = .int .i64 0/\Pe w' o' R pg pn xs (zs.set i (z.Agt z.s.d.kill)) g):=by
 obtain ⟨E,F⟩:=h.2.2.2.2 i x z q u;have J:=ae (Acd h.1 i q 48 #[] _ Tryz.call48 (AmO E F) (fun e w' hq=>by obtain ⟨v, -,hv,-⟩:=hq;exact ⟨v,hv⟩));have O:=ae h;clear h E F;go_enter func13,ntmps13;go_wp2_with fail;refine J.out.mono ?_;rintro e W1 ⟨v1,o1,rfl,r,rfl,U⟩;have W:=ae (aI r (O.out.set Y hn q u r U));clear r U O J;go_wp2_with fail;go_ret;exact ⟨_,o1,rfl,W.out.1,rfl,W.out.2⟩
end
def TGB (n id B:Nat) (t:DX):Prop:=∀ x ∈ t,x.1<n/\x.1 ≠ id/\AP x.2.ls<=B
theorem TGB.nil (n id B:Nat):TGB n id B []:=by intro x q;simp at q
theorem TGB.mono {B':Nat}(h:TGB n id B t) (r:B<=B'):TGB n id B' t:=fun x q=>⟨(h x q).1,(h x q).2.1,Nat.le_trans (h x q).2.2 r⟩
theorem TGB.others (z:Aj) (f:Nat->BG) (q:∀ i,AP (f i).ls<=B):TGB z.n z.id B (z.others f):=fun t r=>by
 obtain ⟨u,E,F⟩:=Aj.Xd r;exact ⟨u,E,by rw [F];exact q _⟩
theorem TGB.one {s:Nat}(h:s<n) (r:s ≠ id) (u:AP m.ls<=B):TGB n id B [(s,m)]:=by
 intro x q;simp only [List.mem_singleton] at q;subst q;exact ⟨h,r,u⟩
theorem TGB.append {s:DX}(h:TGB n id B s) (r:TGB n id B t):TGB n id B (s++t):=by
 intro x q
 rcases List.mem_append.1 q with q | q
 ·exact h x q
 ·exact r x q
namespace Aj
theorem Anl (z:Aj) (mine:BitVec 64) (h:∀ p,some p ∈ has->AP p.2<=B):TGB z.n z.id B (z.lead mine has).2:=by
 unfold lead;split
 ·exact .nil _ _ _
 cases hb:Qr has with
 | none=>exact .nil _ _ _
 | some p =>
  simp only;split
  ·refine .others z _ fun i=>h p ?_
   rcases NZ has none p hb with q | q
   ·simp at q
   ·exact q
  ·exact .nil _ _ _
theorem ApB (h:NOk B z):TGB z.n z.id B z.stand.2:=by
 unfold stand;simp only;split
 ·exact .nil _ _ _
 split
 ·refine .append (.others z _ fun i=>Nat.zero_le _) (Anl (z:={ z with k:=_,BB:=_,waited:=0 }) _ fun p hp=>?_)
  rcases List.mem_or_eq_of_mem_set hp with q | q
  ·have:=List.eq_of_mem_replicate q;simp at this
  ·simp only [Option.some.injEq] at q;subst q;exact h.ls.b
 ·exact .nil _ _ _
theorem Asn (h:NOk B z):TGB z.n z.id B z.tick.2:=by
 have q:∀ z:Aj,NOk B z->TGB z.n z.id B (if 3+2*z.id<z.waited+1 then ({ z with waited:=z.waited+1 }:Aj).stand else (({ z with waited:=z.waited+1 }:Aj),[])).2:=by
  intro z h;split
  ·exact ApB (z:={ z with waited:=z.waited+1 }) ⟨⟨h.n1,h.n3,h.id,h.ls,h.cp,h.pt,h.se,h.co⟩,h.ro⟩
  ·exact .nil _ _ _
 obtain ⟨id,n,k,BB,waited,seen,Ag⟩:=z
 cases BB with
 | follows=>exact q _ h
 | stands a b=>exact q _ h
 | leads mine nR base ready =>
  refine .others _ _ fun i=>?_;split
  ·exact h.ls.b
  ·exact Nat.le_trans (FN _ _) h.ls.b
theorem AsG {b:Nat}(h:NOk B z) (q:src<z.n) (hi:src ≠ z.id) (hb:AP m.ls<=b):TGB z.n z.id (B+b) (z.hear src m).2:=by
 rw [MZ];have u:=h.ro;have E:=h.ls.b;obtain ⟨id,n,k,BB,waited,seen,Ag⟩:=z;dsimp only at u q hi E ⊢;generalize Fj seen m.e=F;unfold Ec;split
 ·unfold BK;split
  ·exact .nil _ _ _
  split
  ·exact .one q hi (Nat.zero_le _)
  split
  ·exact .one q hi (Nat.le_trans E (Nat.le_add_right _ _))
  ·exact .nil _ _ _
 split
 ·unfold Bj
  cases BB with
  | follows=>exact .nil _ _ _
  | leads a b c d=>exact .nil _ _ _
  | stands mine has =>
   simp only;split
   ·exact .nil _ _ _
   ·refine Anl (z:={ id:=id,n:=n,k:=k,BB:=_,waited:=waited,seen:=F,Ag:=Ag }) _ fun p hp=>?_;split at hp
    ·exact Nat.le_trans (u.2.2.2 p hp).b (Nat.le_add_right _ _)
    ·rcases List.mem_or_eq_of_mem_set hp with r | r
     ·exact Nat.le_trans (u.2.2.2 p r).b (Nat.le_add_right _ _)
     ·simp only [Option.some.injEq] at r;subst r;exact Nat.le_trans hb (Nat.le_add_left _ _)
 split
 ·unfold Cj;exact .nil _ _ _
 split
 ·unfold BD;split
  ·exact .nil _ _ _
  split
  ·exact .one q hi (Nat.zero_le _)
  split
  ·exact .one q hi (Nat.zero_le _)
  split
  ·exact .one q hi (Nat.zero_le _)
  ·exact .nil _ _ _
 split
 ·unfold BF;split
  ·exact .nil _ _ _
  split
  ·exact .one q hi (Nat.zero_le _)
  split
  ·exact .nil _ _ _
  simp only;split
  ·exact .nil _ _ _
  split
  ·exact .one q hi (Nat.zero_le _)
  split
  ·exact .one q hi (Nat.zero_le _)
  ·exact .nil _ _ _
 ·unfold CJ
  cases BB with
  | follows=>exact .nil _ _ _
  | stands a b=>exact .nil _ _ _
  | leads a b c d =>
   simp only;split <;> exact .nil _ _ _
theorem AiA (z:Aj) (mine:BitVec 64) (nR:List Int) (base:Nat) (ready:Bool):(z.count mine nR base ready).id=z.id/\(z.count mine nR base ready).n=z.n:=(EU z mine nR base ready).2.2
theorem AnB (z:Aj):z.stand.1.id=z.id/\z.stand.1.n=z.n:=by
 unfold stand;simp only;split
 ·exact ⟨rfl,rfl⟩
 split
 ·exact (YN _ _ _).2
 ·exact ⟨rfl,rfl⟩
theorem ApA (z:Aj):z.tick.1.id=z.id/\z.tick.1.n=z.n:=by
 obtain ⟨id,n,k,BB,waited,seen,Ag⟩:=z;have q:∀ z:Aj,(if 3+2*z.id<z.waited+1 then ({ z with waited:=z.waited+1 }:Aj).stand else (({ z with waited:=z.waited+1 }:Aj),[])).1.id=z.id/\(if 3+2*z.id<z.waited+1 then ({ z with waited:=z.waited+1 }:Aj).stand else (({ z with waited:=z.waited+1 }:Aj),[])).1.n=z.n:=by
  intro z;split
  ·exact AnB _
  ·exact ⟨rfl,rfl⟩
 cases BB with
 | follows=>exact q ⟨id,n,k, .follows,waited,seen,Ag⟩
 | stands a b=>exact q ⟨id,n,k, .stands a b,waited,seen,Ag⟩
 | leads mine nR base ready=>exact ⟨rfl,rfl⟩
theorem Arx (z:Aj) (src:Nat) (m:BG):(z.hear src m).1.id=z.id/\(z.hear src m).1.n=z.n:=by
 rw [MZ];show (({ z with seen:=Fj z.seen m.e }:Aj).Ec src m).1.id=({ z with seen:=Fj z.seen m.e }:Aj).id/\(({ z with seen:=Fj z.seen m.e }:Aj).Ec src m).1.n=({ z with seen:=Fj z.seen m.e }:Aj).n;generalize ({ z with seen:=Fj z.seen m.e }:Aj)=y;unfold Ec;split
 ·unfold BK;repeat (split <;> try exact ⟨rfl,rfl⟩)
 split
 ·unfold Bj;split
  ·split
   ·exact ⟨rfl,rfl⟩
   ·exact (YN _ _ _).2
  ·exact ⟨rfl,rfl⟩
 split
 ·unfold Cj;simp only;split <;> exact ⟨rfl,rfl⟩
 split
 ·unfold BD;repeat (split <;> try exact ⟨rfl,rfl⟩)
 split
 ·unfold BF;simp only;repeat (split <;> try exact ⟨rfl,rfl⟩)
 ·unfold CJ;split
  ·split
   ·exact AiA _ _ _ _ _
   ·exact ⟨rfl,rfl⟩
  ·exact ⟨rfl,rfl⟩
theorem AjV (z:Aj) (b:List UInt8):(z.BL b).1.id=z.id/\(z.BL b).1.n=z.n:=by
 unfold BL;split
 ·exact ⟨rfl,rfl⟩
 split
 ·split
  ·exact ⟨rfl,rfl⟩
  ·split
   ·exact AiA _ _ _ _ _
   ·exact ⟨rfl,rfl⟩
 ·exact ⟨rfl,rfl⟩
end Aj
theorem Aje (h:m.ls.length<=256):m.put.length<=3200+AP m.ls:=by
 unfold BG.put GR;simp only [List.length_cons,List.length_append,Az,Ej];omega
structure PG where
 ys:List Aj
 off:List Bool
 ls:List (Nat × Nat × BG)
 cut:List (Nat × Nat × Bool)
def Ua (l:List (Nat × Nat × BG)):List Aci:=l.map fun x=>⟨x.1,x.2.1,x.2.2.put⟩
def AjN (l:List (Nat × Nat × BG)) (src:Nat) (ts:DX):List (Nat × Nat × BG):=ts.foldl (fun l t=>if 4096<=l.length then l else l++[(src,t.1,t.2)]) l
def Ago (n B:Nat) (l:List (Nat × Nat × BG)):Prop:=l.length<=4096/\∀ x ∈ l,x.1<n/\x.2.1<n/\x.1 ≠ x.2.1/\x.2.2.May/\AP x.2.2.ls<=B
theorem Ago.mono {B':Nat}{l:List (Nat × Nat × BG)}(h:Ago n B l) (q:B<=B'):Ago n B' l:=⟨h.1,fun x r=>by
 obtain ⟨u,E,F,h4,J⟩:=h.2 x r;exact ⟨u,E,F,h4,Nat.le_trans J q⟩⟩
theorem AaL (l:List (Nat × Nat × BG)):(Ua l).length=l.length:=by simp [Ua]
theorem Ago.send {l:List (Nat × Nat × BG)}(h:Ago n B l) (F:src<n) (u:TGB n src B ts) (E:Aj.EH ts):Ago n B (AjN l src ts):=by
 induction ts generalizing l with
 | nil=>exact h
 | cons t ts J =>
  refine J (l:=if 4096<=l.length then l else l++[(src,t.1,t.2)]) ?_ (fun x q=>u x (List.mem_cons_of_mem _ q)) (fun x q=>E x (List.mem_cons_of_mem _ q))
  split
  ·exact h
  ·refine ⟨by simp;omega,fun x q=>?_⟩
   rcases List.mem_append.1 q with q | q
   ·exact h.2 x q
   ·simp only [List.mem_singleton] at q;subst q;have r:=u t (by simp);exact ⟨F,r.1,Ne.symm r.2.1,E t (by simp),r.2.2⟩
theorem Air {cut:List (Nat × Nat × Bool)}(F:src<n) (U:B<=90000) (r:TGB n src B ts) (u:Aj.EH ts) (l:List (Nat × Nat × BG)) :
  (⟨n,Ua l,cut⟩:GN).sends src (Ed ts)=⟨n,Ua (AjN l src ts),cut⟩:=by
 induction ts generalizing l with
 | nil=>rfl
 | cons t ts J =>
  have E:=r t (by simp);have W:=Aje (m:=t.2) (u t (by simp)).n1;have e:((⟨n,Ua l,cut⟩:GN).send ⟨src,t.1,t.2.put⟩).1=⟨n,Ua (if 4096<=l.length then l else l++[(src,t.1,t.2)]),cut⟩:=by
   unfold GN.send;rw [AcP _ F E.1 (Ne.symm E.2.1)];have O:¬ 2097152<t.2.put.length:=om
   simp only [O,Bool.not_true,decide_false,Bool.or_self,Bool.false_eq_true,if_false,AaL];split
   ·rfl
   ·simp [Ua]
  show ((⟨n,Ua l,cut⟩:GN).send ⟨src,t.1,t.2.put⟩).1.sends src (Ed ts)=_;rw [e];exact J (fun x q=>r x (List.mem_cons_of_mem _ q)) (fun x q=>u x (List.mem_cons_of_mem _ q)) _
namespace Gh
def Turn (G:Gh) (n:Nat) (P:List UInt8->Prop) (z:Aj) (r:Aj × DX):Prop:=∃ G',Ext G G' n z.id P/\G'.Ok n/\Nd G' n r.1/\∀ t ∈ r.2,MOk G' n z.id t.2
theorem Turn.still {P:List UInt8->Prop}{z':Aj}(q:G.Ok n) (h:Nd G n z') (r:∀ t ∈ ts,MOk G n z.id t.2):Turn G n P z (z',ts):=⟨G, .refl _ _ _ _,q,h,r⟩
theorem Nd.follow (h:Nd G n z):Nd G n z.follow:=⟨h.kn,trivial,h.co⟩
theorem MOk.other (q:m.k ≠ 2) (h4:m.k ≠ 4) (r:m.k ≠ 5) (u:m.k ≠ 6):MOk G n src m:=⟨fun h=>absurd h q,fun h=>absurd h h4,fun h=>absurd h r,fun h=>absurd h u⟩
theorem Aoi:∀ t ∈ ([]:DX),MOk G n src t.2:=by intro t q;simp at q
theorem AsQ {d:Nat}(h:MOk G n src m):∀ t ∈ ([(d,m)]:DX),MOk G n src t.2:=by intro t q;simp only [List.mem_singleton] at q;subst q;exact h
theorem AsW (z:Aj) (d:Nat):∀ t ∈ z.refuse d,MOk G n src t.2:=AsQ (.other (show ¬ 3=2 by decide) (show ¬ 3=4 by decide) (show ¬ 3=5 by decide) (show ¬ 3=6 by decide))
theorem Awm {e:BitVec 64}(d:Nat) (h:z.k.lines.length<=G.A e.toNat z.id):∀ t ∈ z.ack d e,MOk G n z.id t.2:=AsQ ⟨fun h=>absurd h (show ¬ 6=2 by decide),fun h=>absurd h (show ¬ 6=4 by decide),fun h=>absurd h (show ¬ 6=5 by decide),fun _=>h⟩
theorem Axm {l:List Int}(hl:l.length=n) (u:1<=n) (E:n<=3){A:Nat->Nat}(h:∀ (j:Nat) (a:Int),l[j]?=some a->a<=(A j:Int)):Quo n fun j=>decide ((CW l).toNat<=A j):=by
 unfold Quo
 match l,hl with
 | [a],hl =>
  subst hl;have h0:=h 0 a rfl;have:decide ((CW [a]).toNat<=A 0)=true:=decide_eq_true (by show a.toNat<=A 0;omega);simp only [List.length_cons,List.length_nil,Nat.zero_add];rw [ArA,if_pos this];omega
 | [a,b],hl =>
  subst hl;have h0:=h 0 a rfl;have u:=h 1 b rfl;have q:decide ((CW [a,b]).toNat<=A 0)=true:=decide_eq_true (by show (min a b).toNat<=A 0;omega);have r:decide ((CW [a,b]).toNat<=A 1)=true:=decide_eq_true (by show (min a b).toNat<=A 1;omega);simp only [List.length_cons,List.length_nil,Nat.zero_add];rw [ArA,ArA,if_pos q,if_pos r];omega
 | [a,b,c],hl =>
  subst hl;have h0:=h 0 a rfl;have u:=h 1 b rfl;have F:=h 2 c rfl;have hc:CW [a,b,c]=max (min a b) (min (max a b) c):=rfl;simp only [List.length_cons,List.length_nil,Nat.zero_add];have:((CW [a,b,c]).toNat<=A 0/\(CW [a,b,c]).toNat<=A 1) \/ ((CW [a,b,c]).toNat<=A 0/\(CW [a,b,c]).toNat<=A 2) \/ ((CW [a,b,c]).toNat<=A 1/\(CW [a,b,c]).toNat<=A 2):=by
   rw [hc];omega
  rw [ArA,ArA,ArA]
  rcases this with ⟨q,r⟩ | ⟨q,r⟩ | ⟨q,r⟩
  ·rw [if_pos (decide_eq_true q),if_pos (decide_eq_true r)];omega
  ·rw [if_pos (decide_eq_true q),if_pos (show decide ((CW [a,b,c]).toNat<=A (0+1+1))=true from decide_eq_true r)];omega
  ·rw [if_pos (show decide ((CW [a,b,c]).toNat<=A (0+1))=true from decide_eq_true q),if_pos (show decide ((CW [a,b,c]).toNat<=A (0+1+1))=true from decide_eq_true r)];omega
 | [],hl=>simp at hl;omega
 | _ :: _ :: _ :: _ :: _,hl=>simp at hl;omega
theorem Nd.count (u:Kn G n z.id z.k) (hc:G.Cl n z.k.current.toNat z.Ag z.k.lines) (h1:1<=n) (h3:n<=3){nR:List Int}(a4:nR.length=n) (hr:Ata G n z (.leads mine nR 0 true)) (base:Nat) (ready:Bool):Nd G n (z.count mine nR base ready):=by
 obtain ⟨O,U,W,r,E,Y⟩:=hr;have a2:=u.acc;rw [r] at a2;have F:∀ (j:Nat) (a:Int),(nR.set z.id z.k.lines.length)[j]?=some a->a<=(G.A mine.toNat j:Int):=by
  intro j a q
  by_cases a3:z.id=j
  ·subst a3;rw [List.getElem?_set] at q;split at q
   ·split at q
    ·cases q;rw [a2];exact Int.le_refl _
    ·cases q
   ·exact Y _ a q
  ·rw [List.getElem?_set_ne a3] at q;exact Y j a q
 have hq:=Axm (l:=nR.set z.id z.k.lines.length) (by simpa using a4) h1 h3 F;unfold Aj.count;simp only;split
 ·refine ⟨u,⟨O,U,W,r,E,F⟩, ?_⟩
  rcases Nat.le_total (CW (nR.set z.id z.k.lines.length)).toNat z.Ag with J | J
  ·show G.Cl n _ (max z.Ag _) _;rw [Nat.max_eq_left J];exact hc
  ·show G.Cl n _ (max z.Ag _) _;rw [Nat.max_eq_right J];exact ⟨mine.toNat,by show mine.toNat<=z.k.current.toNat;rw [r];exact Nat.le_refl _,hq,by show z.k.lines.take _=_;rw [E]⟩
 ·exact ⟨u,⟨O,U,W,r,E,F⟩,hc⟩
def Le (q p:BitVec 64 × List Ar):Prop:=q.1.toNat<p.1.toNat \/ (q.1=p.1/\q.2.length<=p.2.length)
theorem Le.refl (p:BitVec 64 × List Ar):Le p p := .inr ⟨rfl,Nat.le_refl _⟩
theorem Le.trans {a b c:BitVec 64 × List Ar}(h:Le a b) (q:Le b c):Le a c:=by
 rcases h with h | ⟨u,E⟩
 ·rcases q with q | ⟨r,h4⟩
  ·exact .inl om
  ·exact .inl (by rw [<-r];exact h)
 ·rcases q with q | ⟨r,h4⟩
  ·exact .inl (by rw [u];exact q)
  ·exact .inr ⟨u.trans r,om⟩
theorem AwC {p q:BitVec 64 × List Ar}:(Jw p q=true->Le q p)/\(Jw p q=false->Le p q):=by
 unfold Jw Le
 constructor
 ·intro h;simp only [Bool.or_eq_true,decide_eq_true_eq,Bool.and_eq_true,beq_iff_eq] at h
  rcases h with h | ⟨E,r⟩
  ·exact .inl h
  ·exact .inr ⟨E.symm,om⟩
 ·intro h;simp only [Bool.or_eq_false_iff,decide_eq_false_iff_not,Bool.and_eq_false_iff,beq_eq_false_iff_ne] at h
  rcases Nat.lt_or_ge p.1.toNat q.1.toNat with F | J
  ·exact .inl F
  ·have u:p.1=q.1:=BitVec.eq_of_toNat_eq om
   rcases h.2 with r | r
   ·exact absurd u r
   ·exact .inr ⟨u,om⟩
theorem AwD:∀ (l:List (Option (BitVec 64 × List Ar))) (b:Option (BitVec 64 × List Ar)) (p:BitVec 64 × List Ar),l.foldl EW b=some p->(∀ q,b=some q->Le q p)/\∀ q,some q ∈ l->Le q p
 | [],b,p,h=>⟨fun q hq=>(by rw [show b=some p from h] at hq;cases hq;exact .refl _),fun q hq=>(by simp at hq)⟩
 | x :: l,b,p,h=>by
  obtain ⟨r,F⟩:=AwD l (EW b x) p h;have hb:(∀ q,b=some q->Le q p)/\∀ q,x=some q->Le q p:=by
   cases x with
   | none=>exact ⟨r,fun q hq=>(by cases hq)⟩
   | some a =>
    cases b with
    | none=>exact ⟨fun q hq=>(by cases hq),fun q hq=>(by cases hq;exact r a rfl)⟩
    | some c =>
     cases u:Jw a c with
     | true =>
      have e:EW (some c) (some a)=some a:=by unfold EW;simp [u]
      have E:=r a e;exact ⟨fun q hq=>(by cases hq;exact (AwC.1 u).trans E),fun q hq=>(by cases hq;exact E)⟩
     | false =>
      have e:EW (some c) (some a)=some c:=by unfold EW;simp [u]
      have hc:=r c e;exact ⟨fun q hq=>(by cases hq;exact hc),fun q hq=>(by cases hq;exact (AwC.2 u).trans hc)⟩
  refine ⟨hb.1,fun q hq=>?_⟩
  rcases List.mem_cons.1 hq with hq | hq
  ·exact hb.2 q hq.symm
  ·exact F q hq
theorem AxP {α:Type}{l:List (Option α)}(hl:l.length=n) (q:n<=3):cnt n (fun j=>((l[j]?).getD none).isSome)=(l.filter Option.isSome).length:=by
 match l,hl with
 | [],hl=>subst hl;rfl
 | [a],hl=>subst hl;cases a <;> rfl
 | [a,b],hl=>subst hl;cases a <;> cases b <;> rfl
 | [a,b,c],hl=>subst hl;cases a <;> cases b <;> cases c <;> rfl
 | _ :: _ :: _ :: _ :: _,hl=>simp at hl;omega
end Gh
namespace Gh
theorem ArZ (z:Aj) (f:Nat->BG) (h:∀ i,i<z.n->MOk G n src (f i)):∀ t ∈ z.others f,MOk G n src t.2:=by
 intro t q;obtain ⟨r, -,u⟩:=Aj.Xd q;rw [u];exact h _ r
theorem AwN {s:DX}(h:∀ x ∈ s,MOk G n src x.2) (r:∀ x ∈ t,MOk G n src x.2):∀ x ∈ s++t,MOk G n src x.2:=by
 intro x q
 rcases List.mem_append.1 q with q | q
 ·exact h x q
 ·exact r x q
section
variable {G:Gh}{n B:Nat}{z:Aj}{P:List UInt8->Prop}
theorem AwB (hG:G.Ok n) (h:Nd G n z) (J:NOk B z) (hn:z.n=n) (hr:z.BB = .stands mine has) (hq:¬ 2*(has.filter Option.isSome).length<=z.n){p:BitVec 64 × List Ar}(hb:Qr has=some p) :
  Next G n z.id P z.k ⟨mine,mine,p.2⟩/\G.I mine.toNat=none:=by
 have O:=h.ro;have U:=J.ro;rw [hr] at O U;obtain ⟨r1,r2,r3,W,Y⟩:=O;have hl:has.length=n:=by rw [<-hn];exact U.2.1
 have h3:n<=3:=by rw [<-hn];exact J.n3
 obtain ⟨-,a2⟩:=AwD has none p hb;have a3:some p ∈ has:=by
  rcases NZ has none p hb with E | E
  ·cases E
  ·exact E
 obtain ⟨j,hj,a4⟩:=List.mem_iff_getElem.1 a3;obtain ⟨pc,pl⟩:=p;obtain ⟨b,g1,g2,g3,g4⟩:=Y j pc pl (by rw [List.getElem?_eq_getElem hj,a4]);have a5:=(hG.vv _ _ _ g1).1;refine ⟨.lead mine pl pc.toNat b (fun j=>((has[j]?).getD none).isSome) r1 W (by rw [r3];exact Nat.le_refl _) ?_ (fun j hj r=>?_) a5 g2 g3 g4,W⟩
 ·unfold Quo;rw [AxP hl h3, <-hn];omega
 ·cases u:has[j]? with
  | none=>rw [u] at r;cases r
  | some o =>
   rw [u] at r
   cases o with
   | none=>cases r
   | some q =>
    obtain ⟨c,ls⟩:=q;obtain ⟨b2,k1,-⟩:=Y j c ls u;refine ⟨_,k1, ?_⟩
    rcases a2 (c,ls) (List.mem_of_getElem? u) with F | ⟨F,a6⟩
    ·exact .inl F
    ·exact .inr ⟨congrArg BitVec.toNat F,a6⟩
theorem Avd (q:G.Ok n) (h:Nd G n z) (E:NOk B z) (hn:z.n=n) (J:z.BB = .stands mine has):Turn G n P z (z.lead mine has):=by
 have h1:1<=n:=by rw [<-hn];exact E.n1
 have h3:n<=3:=by rw [<-hn];exact E.n3
 unfold Aj.lead;split
 ·exact .still q h Aoi
 rename_i hq
 cases hb:Qr has with
 | none=>exact .still q h Aoi
 | some p =>
  simp only;split
  ·rename_i had;obtain ⟨a2,hI⟩:=AwB q h E hn J hq hb;obtain ⟨G',O,U,r, -,hF,-⟩:=a2.step q h.kn;have a3:p.2=G'.L mine.toNat:=hF (.inl hI);have a4:z.k.current.toNat<mine.toNat:=(Wn had).2.1;obtain ⟨b,W,Y⟩:=r.ini;obtain ⟨a5,a6⟩:=(h.co.ext q O).later U a4 W Y r.pre;have F:=h.ro;rw [J] at F;rw [IZ had,Nat.min_eq_left a6];refine ⟨G',O,U,Nd.count (z:={ z with k:=⟨mine,mine,p.2⟩,Ag:=z.Ag }) r a5 h1 h3 (by rw [List.length_replicate];exact hn) ⟨F.1,F.2.1,rfl,rfl,a3,fun j a u=>?_⟩ _ _,ArZ z _ fun i _=>⟨fun h=>absurd h (show ¬ 4=2 by decide),fun _=>⟨b,W,Y,r.pre⟩,fun h=>absurd h (show ¬ 4=5 by decide),fun h=>absurd h (show ¬ 4=6 by decide)⟩⟩;rw [List.getElem?_replicate] at u;split at u
   ·cases u;omega
   ·cases u
  ·exact .still q h.follow Aoi
theorem Awr {after:BitVec 64}{n:Nat}(hi:id<n) (q:n<=3) (h0:PQ after id n ≠ 0):(PQ after id n).toNat % n=id/\after.toNat<(PQ after id n).toNat:=by
 unfold PQ at h0 ⊢;split at h0
 ·exact absurd rfl h0
 ·rename_i h;rw [if_neg h];have hb:(BitVec.ofNat 64 (after.toNat+1+(id+n - (after.toNat+1) % n) % n)).toNat=after.toNat+1+(id+n - (after.toNat+1) % n) % n:=by
   rw [BitVec.toNat_ofNat];have:(id+n - (after.toNat+1) % n) % n<n:=Nat.mod_lt _ om;omega
  rw [hb];refine ⟨?_,om⟩;have:n=1 \/ n=2 \/ n=3:=om
  rcases this with rfl | rfl | rfl <;> omega
theorem Axp (a b:BitVec 64):a.toNat<=(Fj a b).toNat:=by unfold Fj;split <;> omega
theorem AvQ (_h:Nd G n z) (q:NOk B z) (hn:z.n=n) (h0:PQ (Fj z.k.promised z.seen) z.id z.n ≠ 0):Next G n z.id P z.k { z.k with promised:=PQ (Fj z.k.promised z.seen) z.id z.n }:=by
 have:=(Awr q.id (by rw [hn];rw [<-hn];exact q.n3) h0).2;have:=Axp z.k.promised z.seen;exact .prom _ om
def stood (z:Aj) (e:BitVec 64):Aj:={ z with k:={ z.k with promised:=e },BB := .stands e ((List.replicate z.n none).set z.id (some (z.k.current,z.k.lines))),waited:=0 }
theorem AkM (q:NOk B z){e:BitVec 64}(u:z.k.promised.toNat<e.toNat/\e.toNat<=281474976710656):NOk B (stood z e):=by
 refine ⟨⟨q.n1,q.n3,q.id,q.ls,Nat.le_trans q.cp (Nat.le_of_lt u.1),u.2,q.se,q.co⟩,⟨⟨om,u.2⟩,by simp [stood],⟨_,List.getElem?_set_self (by rw [List.length_replicate];exact q.id)⟩,fun p hp=>?_⟩⟩
 rcases List.mem_or_eq_of_mem_set hp with r | r
 ·have:=List.eq_of_mem_replicate r;simp at this
 ·simp only [Option.some.injEq] at r;subst r;exact q.ls
theorem AwT (E:G.Ok n) (h:Nd G n z) (r:NOk B z) (hn:z.n=n) (h0:PQ (Fj z.k.promised z.seen) z.id z.n ≠ 0) :
  ∃ G',Ext G G' n z.id P/\G'.Ok n/\Nd G' n (stood z (PQ (Fj z.k.promised z.seen) z.id z.n)):=by
 obtain ⟨o1,O⟩:=Awr r.id r.n3 h0;have U:=Axp z.k.promised z.seen;obtain ⟨G',F,W,u,Y, -,hI⟩:=(AvQ h r hn h0).step E h.kn;refine ⟨G',F,W,u,⟨by rw [<-hn];exact o1,om,rfl, ?_,fun j c ls q=>?_⟩,h.co.ext E F⟩
 ·rw [hI rfl]
  cases hb:G.I (PQ (Fj z.k.promised z.seen) z.id z.n).toNat with
  | none=>rfl
  | some b =>
   have:=h.kn.led _ b (by rw [<-hn];exact o1) hb;omega
 ·by_cases J:z.id=j
  ·subst J;rw [List.getElem?_set_self (by rw [List.length_replicate];exact r.id)] at q;simp only [Option.some.injEq,Prod.mk.injEq] at q;obtain ⟨rfl,rfl⟩:=q;obtain ⟨b,i1,i2⟩:=u.ini;exact ⟨b,Y (Nat.lt_of_le_of_lt U O) rfl rfl,u.pre,i1,i2⟩
  ·rw [List.getElem?_set_ne J,List.getElem?_replicate] at q;split at q <;> simp at q
theorem AxI (q:G.Ok n) (h:Nd G n z) (r:NOk B z) (hn:z.n=n):Turn G n P z z.stand:=by
 unfold Aj.stand;simp only;split
 ·exact .still q h Aoi
 rename_i h0;split
 ·rename_i hp;obtain ⟨G',u,E,F⟩:=AwT q h r hn h0;have J:=Jf hp;rw [GM hp];obtain ⟨O,U,W,Y,ht⟩:=Avd (z:=stood z _) E F (AkM r J) hn rfl;exact ⟨O,u.trans U,W,Y,AwN (ArZ z _ fun i _=>.other (show ¬ 1=2 by decide) (show ¬ 1=4 by decide) (show ¬ 1=5 by decide) (show ¬ 1=6 by decide)) ht⟩
 ·exact .still q h Aoi
theorem AxX (E:G.Ok n) (h:Nd G n z) (q:NOk B z) (hn:z.n=n):Turn G n P z z.tick:=by
 have U:∀ z:Aj,Nd G n z->NOk B z->z.n=n->Turn G n P z (if 3+2*z.id<z.waited+1 then ({ z with waited:=z.waited+1 }:Aj).stand else (({ z with waited:=z.waited+1 }:Aj),[])):=by
  intro z h q hn;have W:Nd G n ({ z with waited:=z.waited+1 }:Aj):=⟨h.kn,by
   have:=h.ro
   revert this
   show Ata G n z z.BB->Ata G n { z with waited:=z.waited+1 } z.BB
   cases z.BB <;> exact id,h.co⟩
  split
  ·exact AxI (z:={ z with waited:=z.waited+1 }) E W ⟨⟨q.n1,q.n3,q.id,q.ls,q.cp,q.pt,q.se,q.co⟩,q.ro⟩ hn
  ·exact .still E W Aoi
 obtain ⟨id,nn,k,BB,waited,seen,Ag⟩:=z
 cases BB with
 | follows=>exact U _ h q hn
 | stands a b=>exact U _ h q hn
 | leads mine nR base ready =>
  obtain ⟨r1,r2,r3,Y,r,r6⟩:=h.ro;obtain ⟨b,u,i2⟩:=h.kn.ini;have F:=h.kn.pre;have J:=h.co;have a2:=q.ro.2.2;dsimp only at r1 r2 r3 Y r u i2 F J a2;rw [Y] at u F J;refine .still E h (ArZ _ _ fun i _=>?_);split
  ·exact ⟨fun h=>absurd h (show ¬ 4=2 by decide),fun _=>⟨b,u,i2,F⟩,fun h=>absurd h (show ¬ 4=5 by decide),fun h=>absurd h (show ¬ 4=6 by decide)⟩
  ·rename_i hge;refine ⟨fun h=>absurd h (show ¬ 5=2 by decide),fun h=>absurd h (show ¬ 5=4 by decide),fun _=>⟨b,u, ?_, ?_, ?_⟩,fun h=>absurd h (show ¬ 5=6 by decide)⟩
   ·show (nR.getD i 0).toNat<=(G.L mine.toNat).length;rw [<-r]
    cases O:nR[i]? with
    | none=>simp [List.getD_eq_getElem?_getD,O]
    | some a =>
     have:=(a2 a (List.mem_of_getElem? O)).2;simp [List.getD_eq_getElem?_getD,O];omega
   ·show k.lines.drop _=((G.L mine.toNat).drop _).take (k.lines.drop _).length;rw [<-r,List.take_length]
   ·show G.Cl n mine.toNat Ag (G.L mine.toNat);rw [<-r];exact J
end
end Gh

end Go.Proofs.YtffkdillijmamaaGreat
