/- Layer 14: the walk of GroupAgrees. -/
import Derived.Test.YtffkdillijmamaaGreatGj15
namespace Go.Proofs.YtffkdillijmamaaGreat
open Go.Proofs.Tryz
set_option maxRecDepth 100000
set_option maxHeartbeats 12800000
open Go Go.RowKit
attribute [local go_sem ↓] Go.wp_at_zero Go.wp_at_succ
theorem AxW (w:World):(Instr.makeMap 46 none).run prog w = .ok (.map (some w.heap.size)) (w.alloc (.map #[] 0)):=by
 simp only [Instr.makeMap,Sem.run_bind];rfl
theorem AxV (w:World):(Instr.makeMap 47 none).run prog w = .ok (.map (some w.heap.size)) (w.alloc (.map #[] 0)):=by
 simp only [Instr.makeMap,Sem.run_bind];rfl
theorem Axu (w:World) (o:Own) (U n:Nat):∃ W oW,((w.alloc (.map #[] 0)).alloc (.map #[] 0)).alloc (.cells #[.slice none 0 0, .map (some w.heap.size), .map (some (w.heap.size+1)), .bool false] 49)=W/\aj ai w o W oW/\WAt W oW U (w.heap.size+1+1) n [] []:=by
 obtain ⟨q,o1,a2,⟨a6, -⟩,u⟩:=Akp w o (.map #[] 0) (U,1);obtain ⟨E,o2,a3,⟨F, -⟩,J⟩:=Akp q o1 (.map #[] 0) (U,2);have z1:q.heap.size=w.heap.size+1:=by rw [<-a2];simp
 have z2:E.heap.size=w.heap.size+1+1:=by rw [<-a3, <-z1];simp
 obtain ⟨W3,o3,a7,⟨r, -⟩,a4⟩:=Akp E o2 (.cells #[.slice none 0 0, .map (some w.heap.size), .map (some q.heap.size), .bool false] 49) (U,0);have O:w.heap.size<q.heap.size:=au u.1;have Y:q.heap.size<E.heap.size:=au J.1;have a5:=Nat.lt_trans O Y;refine ⟨W3,o3,by rw [a2,a3, <-z1];exact a7,(a6.trans F).trans r,_,w.heap.size,q.heap.size,0,by rw [<-z2];exact a4.1,by rw [<-z2];exact a4.2, ?_, ?_,⟨#[],0, ?_,by simp⟩,⟨#[],0, ?_,by simp,by simp⟩,Lines.nil _ _ _,by simp⟩
 ·rw [r.own _ a5,F.own _ O];exact u.2
 ·rw [r.own _ Y];exact J.2
 ·rw [r.block _ a5 id,F.block _ O id];exact u.1
 ·rw [r.block _ Y id];exact J.1
theorem AsZ {w:World}{o:Own}{nv:Nat}(b6:nv<256) {pages:Int}{v:Value}{l:List AbF}(hl:VW w o v l) :
  Calls prog 4 #[.int .u8 (nv:Int), .int .i64 pages,v] w (XL ai w o fun v _ _=>v = .bool true):=by
 obtain ⟨aa,ac,rfl⟩:=hl.form;obtain ⟨L,O⟩:=az (l.length);obtain ⟨M, -,hM⟩:=EZ o 0 w.heap.size;have b2:=ae hM;have E:=ae (Agx hl);rw [O] at E hl ⊢;have W:=ae (aI hl O);have b7:(0:Int)<=(nv:Int)/\(nv:Int)<256:=om
 clear hl O hM;go_enter func4,ntmps4;go_wp2_with fail;refine E.out.mono ?_;rintro e W0 ⟨v,F,rfl,u,r,rfl,hr⟩
 cases r with
 | true =>
  have hF:=ae u;clear u hr E;go_wp2_with fail;go_ret;exact ⟨_,F,rfl,hF.out,rfl⟩
 | false =>
  obtain ⟨g1,g2⟩:=hr rfl;have b3:L<=200:=by rw [<-W.out.2];exact g1
  have b4:=ae (fun x hx=>(g2 x hx).1);have a3:=ae (W.out.1.step u id);have a2:=ae u;clear u hr E g1 g2
  by_cases b8:pages<8
  ·go_wp2_with fail;go_ret;exact ⟨_,F,rfl,a2.out,rfl⟩
  by_cases b9:200<pages
  ·go_wp2_with fail;go_ret;exact ⟨_,F,rfl,a2.out,rfl⟩
  obtain ⟨pp,rfl⟩:∃ q:Nat,pages=(q:Int):=⟨pages.toNat,om⟩;obtain ⟨n,hn⟩:=az (1+nv % 3);have c0:1+(nv:Int) % 3=(n:Int):=om
  have hc:=ae (AyB (M0:=M+1) (R:=M+2) (Nat.lt_succ_self _) n pp om om om om W0 F);go_wp2_with fail;refine hc.out.mono ?_;rintro e W1 ⟨v,o1,rfl,hs,pg,pn,rfl,a4⟩;obtain ⟨X,oX,hX,J,hw⟩:=Axu W1 o1 (M+1) n;have hz:¬ EN (M+1) 0:=by show ¬ M+1<0;omega
  have a5:=ae (Axy (U:=M+1) (R:=M+2) (Nat.lt_succ_self _) om (a4.step0 J) hw ((a3.out.step hs hz).step J id) W.out.2 b3 b4.out);have b5:=ae hX;have a6:=ae (((a2.out.mono (T':=EN M) fun _ h=>h.elim).trans (hs.mono fun k (hk:M+1<k)=>by show M<k;omega)).trans (J.mono fun _ h=>h.elim));clear hs a4 hX J hw hc a3;have c3:=AxW;have c4:=AxV;go_wp2_with fail;rw [b5.out];refine a5.out.mono ?_;rintro e Y ⟨v,oY,rfl,a7,rfl⟩;have a8:=ae (AeB Y oY);have a9:=ae (a6.out.trans (a7.mono fun k (hk:M+1<=k)=>by show M<k;omega));clear a7 a5 a6;go_wp2_with fail;refine a8.out.mono ?_;rintro e Z ⟨v,oZ,rfl,b1,rfl⟩;have hF:=ae (a9.out.trans (b1.mono (T':=EN M) fun _ h=>h.elim));clear b1 a8 a9;go_wp2_with fail;go_ret;exact ⟨_,oZ,rfl,hF.out.Hm b2.out,rfl⟩

end Go.Proofs.YtffkdillijmamaaGreat
