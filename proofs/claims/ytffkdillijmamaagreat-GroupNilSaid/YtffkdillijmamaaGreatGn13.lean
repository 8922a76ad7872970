/- The group in memory; contract of New. -/
import Derived.Outline
import Derived.Test.YtffkdillijmamaaGreatRows
import Derived.Test.YtffkdillijmamaaGreatGn1
import Derived.Test.YtffkdillijmamaaGreatGn4
import Derived.Test.YtffkdillijmamaaGreatGn5
import Derived.Test.YtffkdillijmamaaGreatGn10
import Derived.Test.YtffkdillijmamaaGreatGn12
namespace Go.Proofs.YtffkdillijmamaaGreat
open Go.Proofs.Tryz
set_option maxRecDepth 100000
set_option maxHeartbeats 12800000
open Go Go.RowKit
attribute [local go_sem ↓] Go.wp_at_zero Go.wp_at_succ
structure Agb (R:Nat) (xs:List xI):Prop where
 at':∀ (i:Nat) (x:xI),xs[i]?=some x→x.Q=R+4+i∧x.D=R+10+i∧R+20 ≤ x.M
 apart:∀ (i j:Nat) (x y:xI),i<j→xs[i]?=some x→xs[j]?=some y→x.M+4 ≤ y.M ∨ y.M+4 ≤ x.M
def AcX (w:World) (o:Own) (xs:List xI) (zs:List Am):Prop:=
 xs.length=zs.length∧∀ (i:Nat) (x:xI) (z:Am),xs[i]?=some x→zs[i]?=some z→Afp w o x∧Bc w o x.D x.M x.pz x.ps x.pd z
def GAt (w:World) (o:Own) (R pg pn:Nat) (xs:List xI) (zs:List Am) (g:GN):Prop:=
 AeE w o R pg pn xs∧KL w o (R+2) pn g∧Agb R xs∧AcX w o xs zs
def BgS (R:Nat) (xs:List xI):Nat→Prop:=fun k=>(R ≤ k∧k<R+20) ∨ ∃ x ∈ xs,x.M<k∧k ≤ x.M+4
section
variable {T:Nat→Prop} {w w':World} {o o':Own} {R pg pn:Nat} {xs:List xI} {zs:List Am} {g:GN}
theorem AcX.step (h:AcX w o xs zs) (s:Step T w o w' o') (h0:¬ T 0) (hT:∀ x ∈ xs,¬ T x.Q∧∀ t,T t→¬ KC x.D x.M t):AcX w' o' xs zs:=by
 refine ⟨h.1,fun i x z hx hz => ?_⟩
 obtain ⟨h1,h2⟩:=h.2 i x z hx hz
 have:=hT x (List.mem_of_getElem? hx)
 exact ⟨h1.step s this.1,h2.step s fun t ht=>⟨fun e=>h0 (e ▸ ht),this.2 t ht⟩⟩
end
theorem AmV (w:World) (n:Nat):(Instr.buildSlice 53 1 #[(0, .int .i64 (n:Int))]).run prog w = .ok (.slice (some ⟨w.heap.size,0,none⟩) 1 1) (w.alloc (.cells [.int .i64 (n:Int)].toArray 3)):=
 Dv w 53 3 [.int .i64 0] (.int .i64 (n:Int)) [.int .i64 (n:Int)] underlying53 (by kernel_rfl) rfl (by simp) (by simp) rfl
theorem AsE:(prog.info? 90).map (fun i=>(i.zero.map (fun z=>z.cells.toList),i.size,i.bytes))=some (some [.pointer none],1,8):=by kernel_rfl
theorem ApC:(prog.info? 90).map (·.size)=some 1:=by kernel_rfl
theorem Apj (w:World) (p:Nat):(Instr.buildSlice 81 1 #[(0, .pointer (some ⟨p,0,none⟩))]).run prog w = .ok (.slice (some ⟨w.heap.size,0,none⟩) 1 1) (w.alloc (.cells [.pointer (some ⟨p,0,none⟩)].toArray 90)):=
 Dv w 81 90 [.pointer none] (.pointer (some ⟨p,0,none⟩)) [.pointer (some ⟨p,0,none⟩)] underlying81 (by kernel_rfl) rfl (by simp) (by simp) rfl
def Ahz (n pages k:Nat):List Am:=(List.range k).map fun i=>Am.new i n (YJ pages)
theorem Aol (n pages k:Nat):Ahz n pages (k+1)=Ahz n pages k++[Am.new k n (YJ pages)]:=by unfold Ahz;rw [List.range_succ,List.map_append];rfl
theorem AeN (n pages k:Nat):(Ahz n pages k).length=k:=by unfold Ahz;simp
def AmX (xs:List xI):List Value:=xs.map fun x=>Uc x.px
theorem Agq {α:Type} {l:List α} {a b:α} {i:Nat} (h:(l++[a])[i]?=some b):(i<l.length∧l[i]?=some b) ∨ (i=l.length∧b=a):=by
 by_cases hi:i<l.length
 ·rw [List.getElem?_append_left hi] at h;exact .inl ⟨hi,h⟩
 ·have hl:=(List.getElem?_eq_some_iff.1 h).1
  simp only [List.length_append,List.length_cons,List.length_nil] at hl
  have e:i=l.length:=by omega
  subst e
  simp at h
  exact .inr ⟨rfl,h.symm⟩
theorem AcX.push {w:World} {o:Own} {xs:List xI} {zs:List Am} {x:xI} {z:Am} (h:AcX w o xs zs) (hx:Afp w o x) (hz:Bc w o x.D x.M x.pz x.ps x.pd z):AcX w o (xs++[x]) (zs++[z]):=by
 refine ⟨by simp [h.1],fun i x' z' hx' hz' => ?_⟩
 rcases Agq hx' with ⟨h1,h2⟩ | ⟨h1,rfl⟩ <;> rcases Agq hz' with ⟨h3,h4⟩ | ⟨h3,rfl⟩
 ·exact h.2 i x' z' h2 h4
 ·have:=h.1;omega
 ·have:=h.1;omega
 ·exact ⟨hx,hz⟩
theorem Agb.push {R:Nat} {xs:List xI} {x:xI} (h:Agb R xs) (hm:∀ (i:Nat) (y:xI),xs[i]?=some y→y.M=R+20+5*i) (h1:x.Q=R+4+xs.length) (h2:x.D=R+10+xs.length) (h3:x.M=R+20+5*xs.length) :
  Agb R (xs++[x])∧(∀ (i:Nat) (y:xI),(xs++[x])[i]?=some y→y.M=R+20+5*i):=by
 have hm':∀ (i:Nat) (y:xI),(xs++[x])[i]?=some y→y.M=R+20+5*i:=by
  intro i y hy
  rcases Agq hy with ⟨-,e⟩ | ⟨rfl,rfl⟩
  ·exact hm i y e
  ·exact h3
 refine ⟨⟨fun i y hy => ?_,fun i j y y' hij hy hy' => ?_⟩,hm'⟩
 ·rcases Agq hy with ⟨-,e⟩ | ⟨rfl,rfl⟩
  ·exact h.at' i y e
  ·exact ⟨h1,h2,by omega⟩
 ·have e1:=hm' i y hy
  have e2:=hm' j y' hy'
  omega
def Made (w0:World) (o0:Own) (M0 R pg pn n pages:Nat) (k:Nat) (w:World) (o:Own) (rv:Value) (xs:List xI):Prop:=
 w.heap[pg]?=some (.cells [rv,Uc pn].toArray 84 (0,0))∧o pg=(R,0)∧kP w o w0.heap.size (R+1) 90 1 rv k (AmX xs)∧KL w o (R+2) pn ⟨n,[],[]⟩ ∧
  Agb R xs∧(∀ (i:Nat) (x:xI),xs[i]?=some x→x.M=R+20+5*i)∧AcX w o xs (Ahz n pages k)∧Step (EN M0) w0 o0 w o
theorem Aky {M0 R:Nat} (hM:M0<R) (n pages:Nat) (hn1:1 ≤ n) (hn3:n ≤ 3) (hp:8 ≤ pages) (hp4:pages ≤ 400) (w:World) (o:Own) :
  Calls prog 9 #[.int .i64 (n:Int), .int .i64 (pages:Int)] w (XL (EN M0) w o fun v w' o'=>∃ pg pn xs,v = .tuple #[.pointer (some ⟨pg,0,none⟩), .int .i64 0]∧GAt w' o' R pg pn xs (Ahz n pages n) ⟨n,[],[]⟩∧xs.length=n):=by
 have hnI:(1:Int) ≤ (n:Int)∧(n:Int) ≤ 3:=by omega
 obtain ⟨W1,o1,hW1,⟨hs1, -⟩,hb1⟩:=Akp w o (.cells #[.slice none 0 0, .pointer none] 84) (R,0)
 obtain ⟨W2,o2,hW2,⟨hs2, -⟩,hb2⟩:=Akp W1 o1 (.cells [.int .i64 (n:Int)].toArray 3) (0,0)
 have hbs:=hidden (AmV W1 n)
 have hone:sH W2 o2 (.slice (some ⟨W1.heap.size,0,none⟩) 1 1) 1 [.int .i64 (n:Int)] := .inr ⟨W1.heap.size,0,1,rfl,Nat.le_refl _,by simp [maxLen],by rw [hb2.2],lt_of_block hb2.1,AV hb2.1⟩
 have hnn:=hidden (Aqp n (R+2) hone ⟨hn1,hn3⟩)
 have hE:=hidden (aI (hs1.trans hs2) (hb1.step hs2 id))
 have uM:=hidden hW1
 have xO:=hidden hW2
 clear hs1 hs2 hb1 hb2 hone hW1 hW2
 go_enter func9,ntmps9
 go_wp2_with ((with_reducible apply BO #[(0, .int .i64 (n:Int))] rfl);(try rw [uM.out]);exact hbs.out;simp only [Act.put,GL,DL,lss])
 rw [xO.out]
 refine hnn.out.mono ?_;rintro e W3 ⟨v3,o3,rfl,hs3,pn,rfl,Aye, -⟩
 have hE1:=hE.out.1
 have hb3:=hE.out.2.step hs3 id
 have l3:=lt_of_block hb3.1
 have k1:=cell_of_block hb3.1 1
 have f1:=Ap hb3.1 1
 simp only [List.getElem?_cons_zero,List.getElem?_cons_succ] at k1
 have st0:=(hE1.trans hs3).mono (T':=EN M0) fun _ h=>h.elim
 have st1:=st0.setCell (a:=⟨w.heap.size,1,none⟩) (Uc pn) (.inr (Nat.le_refl _))
 have u1:=(Step.refl (Only R) W3 o3).setCell (a:=⟨w.heap.size,1,none⟩) (Uc pn) (.inl (by rw [hb3.2];rfl))
 have b4:=Ai (i:=1) (Uc pn) hb3.1
 have n4:=Aye.step u1 (by show ¬ R+2=R;omega) (by show ¬ 0=R;omega)
 have hMd:Made w o M0 R w.heap.size pn n pages 0 (W3.setCell ⟨w.heap.size,1,none⟩ (Uc pn)) o3 (.slice none 0 0) []:=
  ⟨b4,hb3.2,kP.nil _ _ _ _ _ _,n4,⟨fun i x hx=>by simp at hx,fun i j x y _ hx=>by simp at hx⟩,fun i x hx=>by simp at hx,⟨rfl,fun i x z hx=>by simp at hx⟩,st1⟩
 have Ayo:=hidden hMd
 clear hE1 hb3 st0 st1 u1 b4 n4 hMd Aye hs3 hnn hE uM xO hbs
 go_wp2_with fail
 go_loopw [30] (fun i wr=>∃ (k:Nat) (oj:Own) (rv:Value) (xs:List xI),k ≤ n∧i = .int .i64 k∧Hid (Made w o M0 R w.heap.size pn n pages k wr oj rv xs)) (fun i _=>n - (intOf i).toNat)
 case atStart=>exact ⟨0,o3,_,[],Nat.zero_le _,rfl,Ayo⟩
 case round =>
  clear Ayo k1 f1 l3
  obtain ⟨k,oj,rv,xs,hk,rfl,hMd⟩:=hrel
  by_cases hlt:k<n
  ·have AbY:(0:Int) ≤ (k:Int)∧(k:Int)<(n:Int):=by omega
   have hdn:=hidden (TB pages wr oj (R+10+k) (by omega) (by omega))
   go_wp2_with fail
   refine hdn.out.mono ?_;rintro ex V1 ⟨v,p1,rfl,hs1,pd, -,rfl,hd⟩
   obtain ⟨V2,p2,hV2,⟨hs2, -⟩,hb2⟩:=Akp V1 p1 (.cells [.pointer none,Uc pd, .pointer none].toArray 94) (R+4+k,0)
   have hop:=hidden (Aiw (R:=R+4+k) (D:=R+10+k) (Mx:=R+20+5*k) hb2.1 hb2.2 (by omega) (by omega) (by omega) (by omega) (by omega) (dL hp (by omega)) (by omega) (by show (Af.new pages).pages.length ≤ 400;simp [Af.new];omega) (hd.step hs2 id) k n hn1 hn3 hlt)
   have hG:=hidden (aI hs1 hs2)
   have Aym:=hidden hV2
   clear hs1 hs2 hd hb2 hV2 hdn
   go_wp2_with fail
   unfold Uc at Aym
   rw [Aym.out]
   refine hop.out.mono ?_;rintro ex V3 ⟨v,p3,rfl,hs3,rfl,ps,pz,hxb,hnd⟩
   obtain ⟨m1,m2,m3,m4,m5,m6,m7,m8⟩:=hMd.out
   have hxl:xs.length=k:=by rw [m7.1,AeN]
   have Aly:=hG.out.1.trans hG.out.2
   have lpg:=lt_of_block m1
   have n1:=(hs3.block _ (Nat.lt_of_lt_of_le lpg Aly.size) (by rw [Aly.own _ lpg,m2];unfold Adi;omega)).trans ((Aly.block _ lpg id).trans m1)
   have n2:=(hs3.own _ (Nat.lt_of_lt_of_le lpg Aly.size)).trans ((Aly.own _ lpg).trans m2)
   have n3:=(m3.step Aly id).step hs3 (by unfold Adi;omega)
   have n4:=(m4.step Aly id id).step hs3 (by unfold Adi;omega) (by unfold Adi;omega)
   have hT:∀ x ∈ xs,¬ Adi (R+4+k) (R+20+5*k) x.Q∧∀ t,Adi (R+4+k) (R+20+5*k) t→¬ KC x.D x.M t:=by
    intro x hx
    obtain ⟨i,hi,rfl⟩:=List.mem_iff_getElem.1 hx
    obtain ⟨q1,q2,q3⟩:=m5.at' i _ (List.getElem?_eq_getElem hi)
    have q4:=m6 i _ (List.getElem?_eq_getElem hi)
    refine ⟨by unfold Adi;omega,fun t ht hk => ?_⟩
    unfold Adi at ht;unfold KC at hk;omega
   have n7:=(m7.step Aly id (fun x _=>⟨id,fun t ht=>ht.elim⟩)).step hs3 (by unfold Adi;omega) hT
   have n8:=m8.trans ((Aly.mono (T':=EN M0) fun _ h=>h.elim).trans (hs3.mono fun t ht=>by unfold Adi at ht;show M0<t;omega))
   obtain ⟨ra,rc,rfl⟩:=n3.form
   have c0:=cell_of_block n1 0
   simp only [List.getElem?_cons_zero] at c0
   have hsz:=n8.size
   generalize hbx:V1.heap.size=bx at *
   have hsa:=(Step.refl Nobody V3 p3).alloc (.cells [.pointer (some ⟨bx,0,none⟩)].toArray 90) (0,0)
   have hnb:=heap_alloc_new V3 (.cells [Value.pointer (some ⟨bx,0,none⟩)].toArray 90)
   have hbs:=Apj V3 bx
   have hone:sH (V3.alloc (.cells [.pointer (some ⟨bx,0,none⟩)].toArray 90)) (Ak p3 V3.heap.size (0,0)) (.slice (some ⟨V3.heap.size,0,none⟩) 1 1) 1 [.pointer (some ⟨bx,0,none⟩)]:=
    .inr ⟨V3.heap.size,0,1,rfl,Nat.le_refl _,by simp [maxLen],by rw [Au],by simp,AV hnb⟩
   obtain ⟨V4,hV4⟩:∃ W,V3.alloc (.cells [.pointer (some ⟨bx,0,none⟩)].toArray 90)=W:=⟨_,rfl⟩
   obtain ⟨O4,hO4⟩:∃ O,Ak p3 V3.heap.size (0,0)=O:=⟨_,rfl⟩
   rw [hV4] at hsa hbs hone
   rw [hO4] at hsa hone
   obtain ⟨nv,V5,O5,hrun,tK,hs5⟩:=(n3.step hsa id).append (t:=81) underlying81 AsE rfl (by omega) ApC (Nat.le_trans hsz hsa.size) hone rfl (by intro u hu;simp at hu;subst hu;rfl) (by omega) (by omega)
   have a1:=hs5.block _ (Nat.lt_of_lt_of_le (lt_of_block n1) hsa.size) (by rw [hsa.own _ (lt_of_block n1),n2];show ¬ R=R+1;omega)
   have b5:=a1.trans ((hsa.block _ (lt_of_block n1) id).trans n1)
   have o5:=(hs5.own _ (Nat.lt_of_lt_of_le (lt_of_block n1) hsa.size)).trans ((hsa.own _ (lt_of_block n1)).trans n2)
   have k5:=cell_of_block b5 0
   have f5:=Ap b5 0
   simp only [List.getElem?_cons_zero] at k5
   have b6:=Ai (i:=0) nv b5
   have u6:=(Step.refl (Only R) V5 O5).setCell (a:=⟨w.heap.size,0,none⟩) nv (.inl (by rw [o5];rfl))
   have hall:=(hsa.mono (T':=fun t=>t=R ∨ t=R+1) fun _ h=>h.elim).trans ((hs5.mono fun t (h:t=R+1) => .inr h).trans (u6.mono fun t (h:t=R) => .inl h))
   obtain ⟨V6,hV6⟩:∃ V,V5.setCell ⟨w.heap.size,0,none⟩ nv=V:=⟨_,rfl⟩
   rw [hV6] at b6 u6 hall
   have e10:∀ t,(t=R ∨ t=R+1)→¬ Adi (R+4+k) (R+20+5*k) t:=by intro t ht;unfold Adi;omega
   have x7:AcX V6 O5 (xs++[⟨R+4+k,R+10+k,R+20+5*k,bx,pz,ps,pd⟩]) (Ahz n pages (k+1)):=by
    rw [Aol]
    refine (n7.step hall (by omega) fun x hx => ?_).push (hxb.step hall (by show ¬ (R+4+k=R ∨ R+4+k=R+1);omega)) (hnd.step hall fun t ht=>⟨by omega,by unfold KC;omega⟩)
    obtain ⟨i,hi,rfl⟩:=List.mem_iff_getElem.1 hx
    obtain ⟨q1,q2,q3⟩:=m5.at' i _ (List.getElem?_eq_getElem hi)
    exact ⟨by omega,fun t ht hk=>by unfold KC at hk;omega⟩
   obtain ⟨y5,y6⟩:=m5.push (x:=⟨R+4+k,R+10+k,R+20+5*k,bx,pz,ps,pd⟩) m6 (by rw [hxl]) (by rw [hxl]) (by rw [hxl])
   have hpp:AmX xs++[.pointer (some ⟨bx,0,none⟩)]=AmX (xs++[⟨R+4+k,R+10+k,R+20+5*k,bx,pz,ps,pd⟩]):=by simp [AmX,Uc]
   rw [hpp] at tK
   have hMN:Made w o M0 R w.heap.size pn n pages (k+1) V6 O5 nv (xs++[⟨R+4+k,R+10+k,R+20+5*k,bx,pz,ps,pd⟩]):=
    ⟨b6,o5,tK.step u6 (by show ¬ R+1=R;omega),n4.step hall (by omega) (by omega),y5,y6,x7,n8.trans (hall.mono fun t ht=>by show M0<t;omega)⟩
   have BbX:=hidden hMN
   have BbR:=hidden hV6
   obtain ⟨na,nc,rfl⟩:=tK.form
   have AaP:=hidden hbs
   have Aax:=hidden hrun
   have BfY:=hidden hV4
   have n1c:=c0
   clear a1 b5 o5 b6 u6 hall hV6 e10 x7 y5 y6 hpp hMN tK hs5 hrun hbs hone hsa hnb hV4 hO4 n1 n2 n3 n4 n7 n8 hT Aly lpg m1 m2 m3 m4 m5 m6 m7 m8 hs3 hxb hnd hG hop hMd
   go_wp2_with (first
    | ((with_reducible apply BO #[(0, .pointer (some ⟨bx,0,none⟩))] rfl);exact AaP.out;simp only [Act.put,GL,DL,lss])
    | ((with_reducible apply Bl);exact Aax.out;simp only [Act.put,GL,DL,lss]))
   rw [BbR.out]
   exact ⟨⟨k+1,O5,_,_,by omega,by go_num,BbX⟩,by simp [intOf];omega⟩
  ·obtain rfl:n=k:=by omega
   obtain ⟨m1,m2,m3,m4,m5,m6,m7,m8⟩:=hMd.out
   obtain ⟨b,cap,rfl,h2,h3,h4⟩:=m3.at (by omega)
   have hxl:xs.length=n:=by rw [m7.1,AeN]
   have hF:=hidden (aI m8 (aI (show GAt wr oj R w.heap.size pn xs (Ahz n pages n) ⟨n,[],[]⟩ from ⟨⟨b,cap,by rw [hxl];exact m1,m2,h2,by rw [h3],h4⟩,m4,m5,m7⟩) hxl))
   clear m1 m2 m3 m4 m5 m6 m7 m8 h2 h3 h4 hMd hxl
   go_wp2_with fail
   go_ret2
   exact ⟨_,oj,rfl,hF.out.1,_,_,_,rfl,hF.out.2⟩
namespace GN
def sends (g:GN) (src:Nat) (ts:List (Nat × List UInt8)):GN:=ts.foldl (fun g t=>(g.send ⟨src,t.1,t.2⟩).1) g
theorem AwA (g:GN) (x:Aci):(g.send x).1.n=g.n:=by unfold send;split <;> (try split) <;> rfl
theorem ApJ (g:GN) (x:Aci) (h:g.l.length ≤ 4096):(g.send x).1.l.length ≤ 4096:=by
 unfold send
 split
 ·exact h
 ·split
  ·exact h
  ·simp;omega
theorem Aso (g:GN) (src:Nat) (ts:List (Nat × List UInt8)):(g.sends src ts).n=g.n:=by
 induction ts generalizing g with
 | nil=>rfl
 | cons t ts ih=>exact (ih _).trans (AwA _ _)
theorem AnC (g:GN) (src:Nat) (ts:List (Nat × List UInt8)) (h:g.l.length ≤ 4096):(g.sends src ts).l.length ≤ 4096:=by
 induction ts generalizing g with
 | nil=>exact h
 | cons t ts ih=>exact ih _ (ApJ _ _ h)
theorem AkX (g:GN) (src:Nat) (ts:List (Nat × List UInt8)) (k:Nat) (t:Nat × List UInt8) (h:ts[k]?=some t):g.sends src (ts.take (k+1))=((g.sends src (ts.take k)).send ⟨src,t.1,t.2⟩).1:=by
 unfold sends
 rw [List.take_add_one,h,List.foldl_append];rfl
end GN
theorem ApH (g:GN) (src:Nat) (ts:List (Nat × List UInt8)):(g.sends src ts).n=g.n:=g.Aso src ts
section
variable {w:World} {o:Own} {R N pg pn:Nat} {xs:List xI} {g:GN}
theorem Aiv (hb:AeE w o R pg pn xs) (h:KL w o N pn g) (hN:N ≠ 0) (hRN:R ≠ N) (BbT:R+1 ≠ N) (hlen:g.l.length ≤ 4096) (src:Nat) (hs:src<g.n) {v:Value} {ts:List (Nat × List UInt8)} (ho:Dn w o v ts)
  (ht:∀ t ∈ ts,t.1<g.n∧src ≠ t.1∧t.2.length ≤ 2097152) :
  Calls prog 52 #[.pointer (some ⟨pg,0,none⟩), .int .i64 (src:Int),v] w (XL (Only N) w o fun _ w' o'=>KL w' o' N pn (g.sends src ts)):=by
 obtain ⟨cs,hsl,hoc⟩:=ho
 obtain ⟨va,vc,rfl⟩:=Aq hsl
 obtain ⟨L,hL⟩:∃ L,ts.length=L:=⟨_,rfl⟩
 rw [hL] at hsl ⊢
 have hH:=hidden (aI hb (aI h (aI hsl (aI hoc (aI ht hL)))))
 clear hb h hsl hoc ht hL
 go_enter func52,ntmps52
 go_wp2_with fail
 go_loopw [10] (fun i wr=>∃ (k:Nat) (oj:Own),k ≤ L∧i = .int .i64 k∧Hid (Step (Only N) w o wr oj∧KL wr oj N pn (g.sends src (ts.take k)))) (fun i _=>L - (intOf i).toNat)
 case atStart=>exact ⟨0,o,Nat.zero_le _,rfl,hidden ⟨Step.refl _ _ _,by rw [List.take_zero];exact hH.out.2.1⟩⟩
 case round =>
  obtain ⟨k,oj,hk,rfl,hr⟩:=hrel
  by_cases hlt:k<L
  ·obtain ⟨hb, -,hsl,hoc,ht,hL⟩:=hH.out
   obtain ⟨hst,hn⟩:=hr.out
   have AbY:(0:Int) ≤ (k:Int)∧(k:Int)<(L:Int):=by omega
   obtain ⟨t,htk⟩:∃ t,ts[k]?=some t:=⟨_,List.getElem?_eq_getElem (by omega)⟩
   obtain ⟨d1,d2,d3⟩:=ht t (List.mem_of_getElem? htk)
   obtain ⟨bn,cap,h1,h2',h2, -⟩:=hb.step hst hRN BbT
   have c1:=cell_of_block h1 1
   simp only [List.getElem?_cons_zero,List.getElem?_cons_succ] at c1
   have h0:¬ Only N 0:=fun e=>hN e.symm
   obtain ⟨e1,bv,e2,e3⟩:=(hoc.step hst h0).2 k t htk
   have hsl2:=hsl.step hst h0
   rcases hsl2 with ⟨-,hz, -⟩ | ⟨b,off,cap2,he,hl1,hl2,hl3,hl4,hl5⟩
   ·omega
   simp only [Value.slice.injEq] at he
   obtain ⟨rfl, -,rfl⟩:=he
   obtain ⟨ba,bc,rfl⟩:=Aq e3
   have hLm:(k:Int)+1 ≤ 9223372036854775807:=by unfold maxLen at hl2;omega
   have g0:=hl5 _ _ e1
   have g1:=hl5 _ _ e2
   rw [Nat.mul_comm 2 k] at g0 g1
   rw [←Nat.add_assoc] at g1
   have l1:=hst.size
   have d1I:(t.1:Int)=(t.1:Int):=rfl
   obtain ⟨V,oV,hV,⟨hsV, -⟩,hbV⟩:=AaC wr oj (.cells #[.int .i64 (t.1:Int), .slice ba t.2.length bc] 146)
   have dr:Step Nobody V oV V.drew oV:=(Step.refl Nobody V oV).drew
   have q0:=hbV.cell 0
   have q1:=hbV.cell 1
   have q2:=cell_of_block ((hsV.block _ (lt_of_block h1) id).trans h1) 1
   simp only [List.getElem?_cons_zero,List.getElem?_cons_succ] at q0 q1 q2
   unfold Uc at q2
   have hS:=aI q2 (aI q0 q1)
   have hn0:=ApH g src (ts.take k)
   have AwM:=hidden (Aok ((hn.step hsV id id).step dr id id) hN (GN.AnC g src _ hlen) ⟨src,t.1,t.2⟩ (by rw [hn0];exact hs) (by rw [hn0];exact d1) d2 ((e3.step hsV id).step dr id) d3)
   unfold Aaa at AwM
   have hE:=hidden (hst.trans ((hsV.trans dr).mono (T':=Only N) fun _ h=>h.elim))
   have hB:=hidden (aI (aI ((hsV.trans dr).block _ (lt_of_block h1) id |>.trans h1) (aI (Nat.lt_of_lt_of_le (lt_of_block h1) (hsV.trans dr).size) (((hsV.trans dr).own _ (lt_of_block h1)).trans h2'))) (aI (hbV.step dr id) h0))
   have hVH:=hidden hV
   have Akd:=hidden htk
   clear h2' h0 h1 hl5 hb hsl hoc ht hL hst hk e1 e2 h2 hV hsV hbV dr q0 q1 q2 hn hn0 htk e3 hr
   dsimp only at AwM
   go_wp2_with fail
   rw [hVH.out]
   refine Aa (fun w'=>w'.cell? ⟨pg,1,none⟩=some (.pointer (some ⟨pn,0,none⟩))∧w'.cell? ⟨wr.heap.size,0,none⟩=some (.int .i64 (t.1:Int))∧w'.cell? ⟨wr.heap.size,1,none⟩=some (.slice ba t.2.length bc)) (fun _=>true) (by kernel_rfl) hS (fun hHeld => ?_)
   refine tq 0 (h:=tq 1 (h:=tq 2 (h:=tq 3 (h:=tq 4 (h:=tq 5 (h:=tq 6 (h:=tq 7 (h:=tq 8 (h:=tq 9 (h:=tq 10 (h:=tq 11 (h:=tO 12 (h:=?_)))))))))))))
   go_wp2_with fail
   refine AwM.out.mono ?_;rintro e W3 ⟨v3,o3,rfl,hs3, -,hn3⟩
   obtain ⟨⟨z1,z2,z3⟩,z4,z5⟩:=hB.out
   have r1:=cell_of_block ((hs3.block _ z2 (by rw [z3];exact hRN)).trans z1) 1
   have r2:=(z4.step hs3 z5).cell 0
   have r3:=(z4.step hs3 z5).cell 1
   simp only [List.getElem?_cons_zero,List.getElem?_cons_succ] at r1 r2 r3
   unfold Uc at r1
   have hS3:=aI r1 (aI r2 r3)
   go_wp2_with fail
   refine ⟨fun _=>hS3, ?_⟩
   refine tD (h:=?_)
   have hq:=GN.AkX g src ts k t Akd.out
   rw [←hq] at hn3
   have hF:=hidden (aI (hE.out.trans hs3) hn3)
   clear hS3 r1 r2 r3 z1 z2 z3 z4 z5 hn3 hs3 hq hB hE
   go_wp2_with fail
   go_roundw
   case rel=>exact ⟨k+1,o3,by omega,by go_num,hF⟩
   case measure=>simp [intOf];omega
  ·obtain rfl:L=k:=by omega
   have hF:=hr.out
   rw [←hH.out.2.2.2.2.2,List.take_length] at hF
   have hFH:=hidden hF
   clear hF hr
   go_wp2_with fail
   go_end0
   exact ⟨_,oj,rfl,hFH.out.1,hFH.out.2⟩
end
section
variable {w:World} {o:Own} {R pg pn:Nat} {xs:List xI} {zs:List Am} {g:GN} {x:xI} {z:Am}
theorem Akz (hx:Afp w o x) (hz:Bc w o x.D x.M x.pz x.ps x.pd z) {b:Bool} (hb:z.BN.OD=b):Calls prog 44 #[.pointer (some ⟨x.px,0,none⟩)] w fun e w'=>e = .returned (if b=true then .int .i64 0 else .int .i64 64)∧w=w':=by
 have hc:=RF hz
 rw [hb] at hc
 have WV:=hidden hc
 have c0:=cell_of_block hx.1 0
 simp only [List.getElem?_cons_zero] at c0
 unfold Uc at c0
 clear hc hx hz hb
 cases b with
 | true =>
  go_enter func44,ntmps44
  go_wp2_with fail
  refine WV.out.mono ?_;rintro e W1 ⟨rfl,rfl⟩
  go_wp2_with fail
  go_ret
  exact ⟨rfl,rfl⟩
 | false =>
  go_enter func44,ntmps44
  go_wp2_with fail
  refine WV.out.mono ?_;rintro e W1 ⟨rfl,rfl⟩
  go_wp2_with fail
  go_ret
  exact ⟨rfl,rfl⟩
theorem AmN (h:GAt w o R pg pn xs zs g) (i:Nat) (hxi:xs[i]?=some x) (hzi:zs[i]?=some z) {b:Bool} (hb:z.BN.OD=b):Calls prog 11 #[.pointer (some ⟨pg,0,none⟩), .int .i64 (i:Int)] w fun e w'=>e = .returned (.bool b)∧w=w':=by
 obtain ⟨h1,h2⟩:=h.2.2.2.2 i x z hxi hzi
 have ha:=hidden (Acd h.1 i hxi 44 #[] _ Tryz.call44 (Akz h1 h2 hb) (fun e w' hq=>⟨_,hq.1⟩))
 clear h h1 h2 hxi hzi hb
 cases b with
 | true =>
  go_enter func11,ntmps11
  go_wp2_with fail
  refine ha.out.mono ?_;rintro e W1 ⟨rfl,rfl⟩
  go_wp2_with fail
  go_ret
  exact ⟨rfl,rfl⟩
 | false =>
  go_enter func11,ntmps11
  go_wp2_with fail
  refine ha.out.mono ?_;rintro e W1 ⟨rfl,rfl⟩
  go_wp2_with fail
  go_ret
  exact ⟨rfl,rfl⟩
theorem AmS (hx:Afp w o x) (hz:Bc w o x.D x.M x.pz x.ps x.pd z) {b:Bool} (hb:z.dead=b):Calls prog 76 #[.pointer (some ⟨x.px,0,none⟩)] w fun e w'=>e = .returned (if b=true then .int .i64 9 else .int .i64 0)∧w=w':=by
 have hc:=FI hz
 rw [hb] at hc
 have WV:=hidden hc
 have c0:=cell_of_block hx.1 0
 simp only [List.getElem?_cons_zero] at c0
 unfold Uc at c0
 clear hc hx hz hb
 cases b with
 | true =>
  go_enter func76,ntmps76
  go_wp2_with fail
  refine WV.out.mono ?_;rintro e W1 ⟨rfl,rfl⟩
  go_wp2_with fail
  go_ret
  exact ⟨rfl,rfl⟩
 | false =>
  go_enter func76,ntmps76
  go_wp2_with fail
  refine WV.out.mono ?_;rintro e W1 ⟨rfl,rfl⟩
  go_wp2_with fail
  go_ret
  exact ⟨rfl,rfl⟩
theorem Apg (h:GAt w o R pg pn xs zs g) (i:Nat) (hxi:xs[i]?=some x) (hzi:zs[i]?=some z) {b:Bool} (hb:z.dead=b):Calls prog 28 #[.pointer (some ⟨pg,0,none⟩), .int .i64 (i:Int)] w fun e w'=>e = .returned (.bool b)∧w=w':=by
 obtain ⟨h1,h2⟩:=h.2.2.2.2 i x z hxi hzi
 have ha:=hidden (Acd h.1 i hxi 76 #[] _ Tryz.call76 (AmS h1 h2 hb) (fun e w' hq=>⟨_,hq.1⟩))
 clear h h1 h2 hxi hzi hb
 cases b with
 | true =>
  go_enter func28,ntmps28
  go_wp2_with fail
  refine ha.out.mono ?_;rintro e W1 ⟨rfl,rfl⟩
  go_wp2_with fail
  go_ret
  exact ⟨rfl,rfl⟩
 | false =>
  go_enter func28,ntmps28
  go_wp2_with fail
  refine ha.out.mono ?_;rintro e W1 ⟨rfl,rfl⟩
  go_wp2_with fail
  go_ret
  exact ⟨rfl,rfl⟩
end
theorem Bc.Agt {w w':World} {o o':Own} {D M pz ps pd:Nat} {z:Am} {d':Af} (h:Bc w o D M pz ps pd z) (s:Step (Only D) w o w' o') (hd:Bg w' o' D pd d'):Bc w' o' D M pz ps pd { z with s:={ z.s with d:=d' } }:=by
 obtain ⟨ML,rv,h1,h2,X,Y,pa,pb,k,kv,hxy,hbx,hl,hc,hoo,hdk⟩:=h
 have h0:¬ Only D 0:=fun e=>ML.2 e.symm
 have hX:¬ Only D X:=by show ¬ X=D;rcases hxy with ⟨rfl,rfl⟩ | ⟨rfl,rfl⟩ <;> omega
 have hY:¬ Only D Y:=by show ¬ Y=D;rcases hxy with ⟨rfl,rfl⟩ | ⟨rfl,rfl⟩ <;> omega
 exact ⟨ML,rv,h1.step s (by show ¬ M+4=D;omega),h2.step s (by show ¬ M+4=D;omega) h0,X,Y,pa,pb,k,kv,hxy,hbx.step s (by show ¬ M+1=D;omega),hl.step s h0,hc.step s hX h0,hoo.step s hY h0,hd⟩
theorem GAt.set {w w':World} {o o':Own} {R pg pn i:Nat} {xs:List xI} {zs:List Am} {g:GN} {x:xI} {z z':Am} (h:GAt w o R pg pn xs zs g) (_hR:R ≠ 0) (hn:xs.length ≤ 3) (hxi:xs[i]?=some x) (hzi:zs[i]?=some z)
  (s:Step (KC x.D x.M) w o w' o') (hz:Bc w' o' x.D x.M x.pz x.ps x.pd z'):GAt w' o' R pg pn xs (zs.set i z') g:=by
 obtain ⟨h1,h2,h3,h4,h5⟩:=h
 obtain ⟨q1,q2,q3⟩:=h3.at' i x hxi
 have hi:=(List.getElem?_eq_some_iff.1 hxi).1
 refine ⟨h1.step s (by unfold KC;omega) (by unfold KC;omega),h2.step s (by unfold KC;omega) (by unfold KC;omega),h3,by rw [List.length_set];exact h4,fun j y v hy hv => ?_⟩
 obtain ⟨r1,r2,r3⟩:=h3.at' j y hy
 have hj:=(List.getElem?_eq_some_iff.1 hy).1
 by_cases hij:i=j
 ·subst hij
  rw [hxi] at hy
  cases hy
  rw [List.getElem?_set_self (by rw [←h4];exact hi)] at hv
  cases hv
  exact ⟨(h5 i x z hxi hzi).1.step s (by unfold KC;omega),hz⟩
 ·rw [List.getElem?_set_ne hij] at hv
  obtain ⟨k1,k2⟩:=h5 j y v hy hv
  have hap:x.M+4 ≤ y.M ∨ y.M+4 ≤ x.M:=by
   rcases Nat.lt_or_gt_of_ne hij with hl | hl
   ·exact h3.apart i j x y hl hxi hy
   ·exact (h3.apart j i y x hl hy hxi).symm
  exact ⟨k1.step s (by unfold KC;omega),k2.step s fun t ht=>⟨by unfold KC at ht;omega,by unfold KC at ht ⊢;omega⟩⟩
section
variable {w:World} {o:Own} {R pg pn:Nat} {xs:List xI} {zs:List Am} {g:GN} {x:xI} {z:Am}
def Am.Agt (z:Am) (d:Af):Am:={ z with s:={ z.s with d:=d } }
theorem AmO (hx:Afp w o x) (hz:Bc w o x.D x.M x.pz x.ps x.pd z):Calls prog 48 #[.pointer (some ⟨x.px,0,none⟩)] w (XL (KC x.D x.M) w o fun v w' o'=>v = .int .i64 0∧Bc w' o' x.D x.M x.pz x.ps x.pd (z.Agt z.s.d.kill)):=by
 have hdk:Bg w o x.D x.pd z.s.d:=by
  obtain ⟨_,_,_,_,_,_,_,_,_,_,_,hd⟩:=hz.store
  exact hd
 have hc:=hidden (aQ hdk)
 have hzH:=hidden hz
 have c0:=cell_of_block hx.1 1
 simp only [List.getElem?_cons_zero,List.getElem?_cons_succ] at c0
 unfold Uc at c0
 clear hx hz hdk
 go_enter func48,ntmps48
 go_wp2_with fail
 refine hc.out.mono ?_;rintro e W1 ⟨v1,o1,rfl,hs1, -,hd⟩
 have hF:=hidden (aI (hs1.mono (T':=KC x.D x.M) fun _ h => .inl h) (hzH.out.Agt hs1 hd))
 clear hs1 hd hzH hc
 go_wp2_with fail
 go_ret
 exact ⟨_,o1,rfl,hF.out.1,rfl,hF.out.2⟩
theorem AoD (h:GAt w o R pg pn xs zs g) (hR:R ≠ 0) (hn:xs.length ≤ 3) (i:Nat) (hxi:xs[i]?=some x) (hzi:zs[i]?=some z):Calls prog 13 #[.pointer (some ⟨pg,0,none⟩), .int .i64 (i:Int)] w (XL (KC x.D x.M) w o fun v w' o'=>v = .int .i64 0∧GAt w' o' R pg pn xs (zs.set i (z.Agt z.s.d.kill)) g):=by
 obtain ⟨h1,h2⟩:=h.2.2.2.2 i x z hxi hzi
 have ha:=hidden (Acd h.1 i hxi 48 #[] _ Tryz.call48 (AmO h1 h2) (fun e w' hq=>by obtain ⟨v, -,hv, -⟩:=hq;exact ⟨v,hv⟩))
 have hH:=hidden h
 clear h h1 h2
 go_enter func13,ntmps13
 go_wp2_with fail
 refine ha.out.mono ?_;rintro e W1 ⟨v1,o1,rfl,hs1,rfl,hz1⟩
 have hF:=hidden (aI hs1 (hH.out.set hR hn hxi hzi hs1 hz1))
 clear hs1 hz1 hH ha
 go_wp2_with fail
 go_ret
 exact ⟨_,o1,rfl,hF.out.1,rfl,hF.out.2⟩
end
def TGB (n id B:Nat) (t:DX):Prop:=∀ x ∈ t,x.1<n∧x.1 ≠ id∧AP x.2.ls ≤ B
theorem TGB.nil (n id B:Nat):TGB n id B []:=by intro x hx;simp at hx
theorem TGB.others (z:Aj) (f:Nat→BG) {B:Nat} (hB:∀ i,AP (f i).ls ≤ B):TGB z.n z.id B (z.others f):=fun t ht=>by
 obtain ⟨h1,h2,h3⟩:=Aj.Xd ht
 exact ⟨h1,h2,by rw [h3];exact hB _⟩
theorem TGB.one {n id B s:Nat} {m:BG} (h:s<n) (h2:s ≠ id) (h3:AP m.ls ≤ B):TGB n id B [(s,m)]:=by
 intro x hx;simp only [List.mem_singleton] at hx;subst hx;exact ⟨h,h2,h3⟩
theorem TGB.append {n id B:Nat} {s t:DX} (h:TGB n id B s) (h2:TGB n id B t):TGB n id B (s++t):=by
 intro x hx
 rcases List.mem_append.1 hx with hx | hx
 ·exact h x hx
 ·exact h2 x hx
namespace Aj
theorem Anl (z:Aj) (mine:BitVec 64) {has:List (Option (BitVec 64 × List Ar))} {B:Nat} (h:∀ p,some p ∈ has→AP p.2 ≤ B):TGB z.n z.id B (z.lead mine has).2:=by
 unfold lead
 split
 ·exact .nil _ _ _
 cases hb:Qr has with
 | none=>exact .nil _ _ _
 | some p =>
  simp only
  split
  ·refine .others z _ fun i=>h p ?_
   rcases NZ has none p hb with h1 | h1
   ·simp at h1
   ·exact h1
  ·exact .nil _ _ _
theorem ApB {z:Aj} {B:Nat} (h:NOk B z):TGB z.n z.id B z.stand.2:=by
 unfold stand
 simp only
 split
 ·exact .nil _ _ _
 split
 ·refine .append (.others z _ fun i=>Nat.zero_le _) (Anl (z:={ z with k:=_,BB:=_,waited:=0 }) _ fun p hp => ?_)
  rcases List.mem_or_eq_of_mem_set hp with hx | hx
  ·have:=List.eq_of_mem_replicate hx;simp at this
  ·simp only [Option.some.injEq] at hx
   subst hx;exact h.ls.b
 ·exact .nil _ _ _
theorem Asn {z:Aj} {B:Nat} (h:NOk B z):TGB z.n z.id B z.tick.2:=by
 have key:∀ z:Aj,NOk B z→TGB z.n z.id B (if 3+2*z.id<z.waited+1 then ({ z with waited:=z.waited+1 }:Aj).stand else (({ z with waited:=z.waited+1 }:Aj),[])).2:=by
  intro z h
  split
  ·exact ApB (z:={ z with waited:=z.waited+1 }) ⟨⟨h.n1,h.n3,h.id,h.ls,h.cp,h.pt,h.se,h.co⟩,h.ro⟩
  ·exact .nil _ _ _
 obtain ⟨id,n,k,BB,waited,seen,Ag⟩:=z
 cases BB with
 | follows=>exact key _ h
 | stands a b=>exact key _ h
 | leads mine nR base ready =>
  refine .others _ _ fun i => ?_
  split
  ·exact h.ls.b
  ·exact Nat.le_trans (FN _ _) h.ls.b
theorem AsG {z:Aj} {B b:Nat} (h:NOk B z) {src:Nat} (hs:src<z.n) (hi:src ≠ z.id) {m:BG} (hb:AP m.ls ≤ b):TGB z.n z.id (B+b) (z.hear src m).2:=by
 rw [MZ]
 have hro:=h.ro
 have hlb:=h.ls.b
 obtain ⟨id,n,k,BB,waited,seen,Ag⟩:=z
 dsimp only at hro hs hi hlb ⊢
 generalize Fj seen m.e=sn
 unfold Ec
 split
 ·unfold BK
  split
  ·exact .nil _ _ _
  split
  ·exact .one hs hi (Nat.zero_le _)
  split
  ·exact .one hs hi (Nat.le_trans hlb (Nat.le_add_right _ _))
  ·exact .nil _ _ _
 split
 ·unfold Bj
  cases BB with
  | follows=>exact .nil _ _ _
  | leads a b c d=>exact .nil _ _ _
  | stands mine has =>
   simp only
   split
   ·exact .nil _ _ _
   ·refine Anl (z:={ id:=id,n:=n,k:=k,BB:=_,waited:=waited,seen:=sn,Ag:=Ag }) _ fun p hp => ?_
    split at hp
    ·exact Nat.le_trans (hro.2.2.2 p hp).b (Nat.le_add_right _ _)
    ·rcases List.mem_or_eq_of_mem_set hp with hx | hx
     ·exact Nat.le_trans (hro.2.2.2 p hx).b (Nat.le_add_right _ _)
     ·simp only [Option.some.injEq] at hx
      subst hx;exact Nat.le_trans hb (Nat.le_add_left _ _)
 split
 ·unfold Cj;exact .nil _ _ _
 split
 ·unfold BD
  split
  ·exact .nil _ _ _
  split
  ·exact .one hs hi (Nat.zero_le _)
  split
  ·exact .one hs hi (Nat.zero_le _)
  split
  ·exact .one hs hi (Nat.zero_le _)
  ·exact .nil _ _ _
 split
 ·unfold BF
  split
  ·exact .nil _ _ _
  split
  ·exact .one hs hi (Nat.zero_le _)
  split
  ·exact .nil _ _ _
  simp only
  split
  ·exact .nil _ _ _
  split
  ·exact .one hs hi (Nat.zero_le _)
  split
  ·exact .one hs hi (Nat.zero_le _)
  ·exact .nil _ _ _
 ·unfold CJ
  cases BB with
  | follows=>exact .nil _ _ _
  | stands a b=>exact .nil _ _ _
  | leads a b c d =>
   simp only
   split <;> exact .nil _ _ _
theorem AiA (z:Aj) (mine:BitVec 64) (nR:List Int) (base:Nat) (ready:Bool):(z.count mine nR base ready).id=z.id∧(z.count mine nR base ready).n=z.n:=(EU z mine nR base ready).2.2
theorem AnB (z:Aj):z.stand.1.id=z.id∧z.stand.1.n=z.n:=by
 unfold stand
 simp only
 split
 ·exact ⟨rfl,rfl⟩
 split
 ·exact (YN _ _ _).2
 ·exact ⟨rfl,rfl⟩
theorem ApA (z:Aj):z.tick.1.id=z.id∧z.tick.1.n=z.n:=by
 obtain ⟨id,n,k,BB,waited,seen,Ag⟩:=z
 have key:∀ z:Aj,(if 3+2*z.id<z.waited+1 then ({ z with waited:=z.waited+1 }:Aj).stand else (({ z with waited:=z.waited+1 }:Aj),[])).1.id=z.id∧(if 3+2*z.id<z.waited+1 then ({ z with waited:=z.waited+1 }:Aj).stand else (({ z with waited:=z.waited+1 }:Aj),[])).1.n=z.n:=by
  intro z
  split
  ·exact AnB _
  ·exact ⟨rfl,rfl⟩
 cases BB with
 | follows=>exact key ⟨id,n,k, .follows,waited,seen,Ag⟩
 | stands a b=>exact key ⟨id,n,k, .stands a b,waited,seen,Ag⟩
 | leads mine nR base ready=>exact ⟨rfl,rfl⟩
theorem Arx (z:Aj) (src:Nat) (m:BG):(z.hear src m).1.id=z.id∧(z.hear src m).1.n=z.n:=by
 rw [MZ]
 show (({ z with seen:=Fj z.seen m.e }:Aj).Ec src m).1.id=({ z with seen:=Fj z.seen m.e }:Aj).id∧(({ z with seen:=Fj z.seen m.e }:Aj).Ec src m).1.n=({ z with seen:=Fj z.seen m.e }:Aj).n
 generalize ({ z with seen:=Fj z.seen m.e }:Aj)=y
 unfold Ec
 split
 ·unfold BK;repeat (split <;> try exact ⟨rfl,rfl⟩)
 split
 ·unfold Bj
  split
  ·split
   ·exact ⟨rfl,rfl⟩
   ·exact (YN _ _ _).2
  ·exact ⟨rfl,rfl⟩
 split
 ·unfold Cj;simp only;split <;> exact ⟨rfl,rfl⟩
 split
 ·unfold BD;repeat (split <;> try exact ⟨rfl,rfl⟩)
 split
 ·unfold BF;simp only;repeat (split <;> try exact ⟨rfl,rfl⟩)
 ·unfold CJ
  split
  ·split
   ·exact AiA _ _ _ _ _
   ·exact ⟨rfl,rfl⟩
  ·exact ⟨rfl,rfl⟩
theorem AjV (z:Aj) (b:List UInt8):(z.BL b).1.id=z.id∧(z.BL b).1.n=z.n:=by
 unfold BL
 split
 ·exact ⟨rfl,rfl⟩
 split
 ·split
  ·exact ⟨rfl,rfl⟩
  ·split
   ·exact AiA _ _ _ _ _
   ·exact ⟨rfl,rfl⟩
 ·exact ⟨rfl,rfl⟩
end Aj
theorem Aje {m:BG} (h:m.ls.length ≤ 256):m.put.length ≤ 3200+AP m.ls:=by
 unfold BG.put GR
 simp only [List.length_cons,List.length_append,Az,Ej]
 omega
structure PG where
 ys:List Aj
 off:List Bool
 ls:List (Nat × Nat × BG)
 cut:List (Nat × Nat × Bool)
def Ua (l:List (Nat × Nat × BG)):List Aci:=l.map fun x=>⟨x.1,x.2.1,x.2.2.put⟩
def AjN (l:List (Nat × Nat × BG)) (src:Nat) (ts:DX):List (Nat × Nat × BG):=ts.foldl (fun l t=>if 4096 ≤ l.length then l else l++[(src,t.1,t.2)]) l
def Ago (n B:Nat) (l:List (Nat × Nat × BG)):Prop:=l.length ≤ 4096∧∀ x ∈ l,x.1<n∧x.2.1<n∧x.1 ≠ x.2.1∧x.2.2.May∧AP x.2.2.ls ≤ B
theorem Ago.mono {n B B':Nat} {l:List (Nat × Nat × BG)} (h:Ago n B l) (hB:B ≤ B'):Ago n B' l:=⟨h.1,fun x hx=>by
 obtain ⟨h1,h2,h3,h4,h5⟩:=h.2 x hx
 exact ⟨h1,h2,h3,h4,Nat.le_trans h5 hB⟩⟩
theorem AaL (l:List (Nat × Nat × BG)):(Ua l).length=l.length:=by simp [Ua]
theorem Ago.send {n B src:Nat} {l:List (Nat × Nat × BG)} {ts:DX} (h:Ago n B l) (hs:src<n) (ht:TGB n src B ts) (hm:Aj.EH ts):Ago n B (AjN l src ts):=by
 induction ts generalizing l with
 | nil=>exact h
 | cons t ts ih =>
  refine ih (l:=if 4096 ≤ l.length then l else l++[(src,t.1,t.2)]) ?_ (fun x hx=>ht x (List.mem_cons_of_mem _ hx)) (fun x hx=>hm x (List.mem_cons_of_mem _ hx))
  split
  ·exact h
  ·refine ⟨by simp;omega,fun x hx => ?_⟩
   rcases List.mem_append.1 hx with hx | hx
   ·exact h.2 x hx
   ·simp only [List.mem_singleton] at hx
    subst hx
    have h1:=ht t (by simp)
    exact ⟨hs,h1.1,Ne.symm h1.2.1,hm t (by simp),h1.2.2⟩
theorem Air {n B src:Nat} {cut:List (Nat × Nat × Bool)} (hs:src<n) (hB:B ≤ 90000) {ts:DX} (ht:TGB n src B ts) (hm:Aj.EH ts) (l:List (Nat × Nat × BG)) :
  (⟨n,Ua l,cut⟩:GN).sends src (Ed ts)=⟨n,Ua (AjN l src ts),cut⟩:=by
 induction ts generalizing l with
 | nil=>rfl
 | cons t ts ih =>
  have h1:=ht t (by simp)
  have h2:=Aje (m:=t.2) (hm t (by simp)).n1
  have e:((⟨n,Ua l,cut⟩:GN).send ⟨src,t.1,t.2.put⟩).1=⟨n,Ua (if 4096 ≤ l.length then l else l++[(src,t.1,t.2)]),cut⟩:=by
   unfold GN.send
   rw [AcP _ hs h1.1 (Ne.symm h1.2.1)]
   have h3:¬ 2097152<t.2.put.length:=by omega
   simp only [h3,Bool.not_true,decide_false,Bool.or_self,Bool.false_eq_true,if_false,AaL]
   split
   ·rfl
   ·simp [Ua]
  show ((⟨n,Ua l,cut⟩:GN).send ⟨src,t.1,t.2.put⟩).1.sends src (Ed ts)=_
  rw [e]
  exact ih (fun x hx=>ht x (List.mem_cons_of_mem _ hx)) (fun x hx=>hm x (List.mem_cons_of_mem _ hx)) _
theorem Ago.without {n k B:Nat} {l:List (Nat × Nat × BG)} (h:Ago n B l):Ago n B (l.take k++l.drop (k+1)):=by
 refine ⟨?_,fun x hx => ?_⟩
 ·have:=h.1
  rw [List.length_append,List.length_take,List.length_drop];omega
 ·rcases List.mem_append.1 hx with hx | hx
  ·exact h.2 x (List.mem_of_mem_take hx)
  ·exact h.2 x (List.mem_of_mem_drop hx)
theorem AiT (n k:Nat) (l:List (Nat × Nat × BG)) (cut:List (Nat × Nat × Bool)):(⟨n,Ua l,cut⟩:GN).without k=⟨n,Ua (l.take k++l.drop (k+1)),cut⟩:=by
 simp [GN.without,Ua,List.map_take,List.map_drop]
theorem Asm {l:List (Nat × Nat × BG)} {k:Nat} {x:Nat × Nat × BG} (h:l[k]?=some x) (hk:k<(Ua l).length):(Ua l)[k]=⟨x.1,x.2.1,x.2.2.put⟩:=by
 have:(Ua l)[k]?=some ⟨x.1,x.2.1,x.2.2.put⟩:=by unfold Ua;rw [List.getElem?_map,h];rfl
 rw [List.getElem?_eq_getElem hk] at this
 exact Option.some.inj this
namespace PG
def cuts (p:PG) (a b:Nat):Bool:=GN.cutAt p.cut (min a b) (max a b)
def tick (p:PG) (i:Nat):PG × Int:=
 match p.ys[i]?,p.off[i]? with
 | some y,some false=>({ p with ys:=p.ys.set i y.tick.1,ls:=AjN p.ls i y.tick.2 },0)
 | _,_=>(p,9)
def take (p:PG) (k:Nat):PG × Int:=
 match p.ls[k]? with
 | none=>(p,1)
 | some x =>
  if p.cuts x.1 x.2.1=true then (p,65) else
  match p.ys[x.2.1]?,p.off[x.2.1]? with
  | some y,some false=>({ p with ys:=p.ys.set x.2.1 (y.hear x.1 x.2.2).1,ls:=AjN (p.ls.take k++p.ls.drop (k+1)) x.2.1 (y.hear x.1 x.2.2).2 },0)
  | _,_=>({ p with ls:=p.ls.take k++p.ls.drop (k+1) },9)
def BL (p:PG) (i:Nat) (b:List UInt8):PG × Int:=
 match p.ys[i]?,p.off[i]? with
 | some y,some false=>({ p with ys:=p.ys.set i (y.BL b).1 },(y.BL b).2)
 | _,_=>(p,9)
def kill (p:PG) (i:Nat):PG:={ p with off:=p.off.set i true }
def start (p:PG) (i:Nat):PG:=
 match p.ys[i]? with
 | some y=>{ p with ys:=p.ys.set i (Aj.new i p.ys.length y.k),off:=p.off.set i false }
 | none=>p
def new (n:Nat):PG:=⟨(List.range n).map fun i=>Aj.new i n ⟨0,0,[]⟩,List.replicate n false,[],[]⟩
def bH (B:Nat) (y:Aj):Bool:=decide (AP y.k.lines ≤ B) && match y.BB with
 | .stands _ has=>has.all fun o=>match o with
  | some p=>decide (AP p.2 ≤ B)
  | none=>true
 | _=>true
def fits (B:Nat) (p:PG):Bool:=p.ys.all (bH B) && p.ls.all fun x=>decide (AP x.2.2.ls ≤ B)
end PG
theorem NOk.lower {B B':Nat} {y:Aj} (h:NOk B y) (hf:PG.bH B' y=true):NOk B' y:=by
 unfold PG.bH at hf
 obtain ⟨h0,hro⟩:=h
 obtain ⟨n1,n3,id,ls,cp,pt,se,co⟩:=h0
 obtain ⟨yid,n,k,BB,waited,seen,Ag⟩:=y
 simp only [Bool.and_eq_true,decide_eq_true_eq] at hf
 refine ⟨⟨n1,n3,id,⟨ls.n,ls.m,hf.1⟩,cp,pt,se,co⟩, ?_⟩
 cases BB with
 | follows=>trivial
 | leads a b c d=>exact hro
 | stands mine has =>
  refine ⟨hro.1,hro.2.1,hro.2.2.1,fun p hp => ?_⟩
  have h1:=hro.2.2.2 p hp
  have h2:=List.all_eq_true.1 hf.2 _ hp
  exact ⟨h1.n,h1.m,by simpa using h2⟩
def AZ.Avy (t:AZ):AZ:={ t with d:=t.d.kill }
def AsP (C K B:Nat) (off:Bool) (z:Am) (y:Aj):Prop:=
 z.BN=y∧NOk B y∧∃ t:AZ,SU C K t∧z.s=if off=true then t.Avy else t
theorem AsP.mono {C K K' B B':Nat} {off:Bool} {z:Am} {y:Aj} (h:AsP C K B off z y) (hK:K ≤ K') (hB:B ≤ B'):AsP C K' B' off z y:=by
 obtain ⟨h1,h2,t,h3,h4⟩:=h
 exact ⟨h1,h2.mono hB,t,h3.mono hK,h4⟩
theorem AsP.on {C K B:Nat} {z:Am} {y:Aj} (h:AsP C K B false z y):Am.NP K B z∧SU C K z.s:=by
 obtain ⟨rfl,h2,t,h3,h4⟩:=h
 have h4':z.s=t:=by rw [h4];rfl
 rw [←h4'] at h3
 exact ⟨⟨h3.sp,h2⟩,h3⟩
theorem AsP.mk {C K B:Nat} {z:Am} {y:Aj} (h1:z.BN=y) (h2:NOk B y) (h3:SU C K z.s):AsP C K B false z y:=⟨h1,h2,z.s,h3,rfl⟩
theorem AsP.dead {C K B:Nat} {off:Bool} {z:Am} {y:Aj} (h:AsP C K B off z y):z.dead=off:=by
 obtain ⟨h1,h2,t,h3,h4⟩:=h
 unfold Am.dead
 rw [h4]
 cases off with
 | false=>exact h3.sp.dead
 | true=>show (t.dead || true)=true;simp
theorem AsP.kill {C K B:Nat} {off:Bool} {z:Am} {y:Aj} (h:AsP C K B off z y):AsP C K B true (z.Agt z.s.d.kill) y:=by
 obtain ⟨h1,h2,t,h3,h4⟩:=h
 refine ⟨h1,h2,t,h3, ?_⟩
 show { z.s with d:=z.s.d.kill }=t.Avy
 rw [h4]
 cases off <;> rfl
def aY (x:xI) (Mx:Nat):Nat→Prop:=fun k=>k=x.Q ∨ k=x.D ∨ Mx<k
theorem GAt.reopen {w w':World} {o o':Own} {R pg pn i Mx:Nat} {xs:List xI} {zs:List Am} {g:GN} {x x':xI} {z':Am} (h:GAt w o R pg pn xs zs g) (_hR:R ≠ 0) (hn:xs.length ≤ 3) (hxi:xs[i]?=some x)
  (hMx:R+20 ≤ Mx∧∀ y ∈ xs,y.M+4 ≤ Mx) (s:Step (aY x Mx) w o w' o') (h1:x'.Q=x.Q) (h2:x'.D=x.D) (h3:x'.M=Mx) (h4:x'.px=x.px)
  (hx:Afp w' o' x') (hz:Bc w' o' x'.D x'.M x'.pz x'.ps x'.pd z'):GAt w' o' R pg pn (xs.set i x') (zs.set i z') g:=by
 obtain ⟨g1,g2,g3,g4,g5⟩:=h
 obtain ⟨q1,q2,q3⟩:=g3.at' i x hxi
 have hi:=(List.getElem?_eq_some_iff.1 hxi).1
 have hMi:=hMx.2
 have hp:(xs.set i x').map (fun x=>Uc x.px)=xs.map fun x=>Uc x.px:=by
  apply List.ext_getElem?
  intro j
  rw [List.getElem?_map,List.getElem?_map]
  by_cases hij:i=j
  ·subst hij
   rw [List.getElem?_set_self hi,hxi]
   show some (Uc x'.px)=some (Uc x.px)
   rw [h4]
  ·rw [List.getElem?_set_ne hij]
 have hg1:=g1.step s (by unfold aY;omega) (by unfold aY;omega)
 refine ⟨?_,g2.step s (by unfold aY;omega) (by unfold aY;omega),⟨fun j y hy => ?_,fun j k y v hjk hy hv => ?_⟩,by rw [List.length_set,List.length_set];exact g4,fun j y v hy hv => ?_⟩
 ·obtain ⟨bn,cap,e1,e2,e3,e4,e5⟩:=hg1
  exact ⟨bn,cap,by rw [List.length_set];exact e1,e2,by rw [hp];exact e3,e4,e5⟩
 ·by_cases hij:i=j
  ·subst hij
   rw [List.getElem?_set_self hi] at hy
   cases hy
   exact ⟨by rw [h1];exact q1,by rw [h2];exact q2,by rw [h3];exact hMx.1⟩
  ·rw [List.getElem?_set_ne hij] at hy
   exact g3.at' j y hy
 ·by_cases hij:i=j
  ·subst hij
   rw [List.getElem?_set_self hi] at hy
   cases hy
   rw [List.getElem?_set_ne (by omega)] at hv
   exact .inr (by rw [h3];exact hMi v (List.mem_of_getElem? hv))
  ·rw [List.getElem?_set_ne hij] at hy
   by_cases hik:i=k
   ·subst hik
    rw [List.getElem?_set_self hi] at hv
    cases hv
    exact .inl (by rw [h3];exact hMi y (List.mem_of_getElem? hy))
   ·rw [List.getElem?_set_ne hik] at hv
    exact g3.apart j k y v hjk hy hv
 ·by_cases hij:i=j
  ·subst hij
   rw [List.getElem?_set_self hi] at hy
   cases hy
   rw [List.getElem?_set_self (by rw [←g4];exact hi)] at hv
   cases hv
   exact ⟨hx,hz⟩
  ·rw [List.getElem?_set_ne hij] at hy hv
   obtain ⟨r1,r2,r3⟩:=g3.at' j y hy
   have hj:=(List.getElem?_eq_some_iff.1 hy).1
   obtain ⟨k1,k2⟩:=g5 j y v hy hv
   have hy4:=hMi y (List.mem_of_getElem? hy)
   exact ⟨k1.step s (by unfold aY;omega),k2.step s fun t ht=>⟨by unfold aY at ht;omega,by unfold aY at ht;unfold KC;omega⟩⟩
theorem GAt.Anc {w w':World} {o o':Own} {R pg pn:Nat} {xs:List xI} {zs:List Am} {g g':GN} (h:GAt w o R pg pn xs zs g) (_hR:R ≠ 0) (_hn:xs.length ≤ 3)
  (s:Step (Only (R+2)) w o w' o') (hg:KL w' o' (R+2) pn g'):GAt w' o' R pg pn xs zs g':=by
 obtain ⟨g1,g2,g3,g4⟩:=h
 refine ⟨g1.step s (by unfold Only;omega) (by unfold Only;omega),hg,g3,g4.step s (by unfold Only;omega) fun x hx => ?_⟩
 obtain ⟨i,hi,rfl⟩:=List.mem_iff_getElem.1 hx
 obtain ⟨q1,q2,q3⟩:=g3.at' i _ (List.getElem?_eq_getElem hi)
 exact ⟨by unfold Only;omega,fun t ht=>by unfold Only at ht;unfold KC;omega⟩
theorem GAt.step0 {w w':World} {o o':Own} {R pg pn:Nat} {xs:List xI} {zs:List Am} {g:GN} (h:GAt w o R pg pn xs zs g) (s:Step Nobody w o w' o'):GAt w' o' R pg pn xs zs g:=by
 obtain ⟨g1,g2,g3,g4⟩:=h
 exact ⟨g1.step s id id,g2.step s id id,g3,g4.step s id fun x hx=>⟨id,fun t ht=>ht.elim⟩⟩
def InT (x:xI) (R:Nat):Nat→Prop:=fun k=>KC x.D x.M k ∨ k=R+2
section
variable {w:World} {o:Own} {R pg pn i K B:Nat} {xs:List xI} {zs:List Am} {g:GN} {x:xI} {z:Am}
theorem Ami (hx:Afp w o x) (hz:Bc w o x.D x.M x.pz x.ps x.pd z) (hd:z.dead=true) (a b:Option Addr):Calls prog 50 #[.pointer (some ⟨x.px,0,none⟩), .pointer a, .pointer b] w fun e w'=>e = .returned (.int .i64 9)∧w=w':=by
 have hc:=FI hz
 rw [hd] at hc
 have WV:=hidden hc
 have c0:=cell_of_block hx.1 0
 simp only [List.getElem?_cons_zero] at c0
 unfold Uc at c0
 clear hc hx hz hd
 go_enter func50,ntmps50
 go_wp2_with fail
 refine WV.out.mono ?_;rintro e W1 ⟨rfl,rfl⟩
 go_wp2_with fail
 go_ret
 exact ⟨rfl,rfl⟩
theorem Aou (h:GAt w o R pg pn xs zs g) (i:Nat) (hxi:xs[i]?=some x) (hzi:zs[i]?=some z) (hd:z.dead=true) :
  Calls prog 14 #[.pointer (some ⟨pg,0,none⟩), .int .i64 (i:Int)] w (XL Nobody w o fun v _ _=>v = .int .i64 9):=by
 obtain ⟨W,oW,hW,⟨hst, -⟩, -⟩:=Ajq w o (.cells #[.pointer (some ⟨pg,0,none⟩)] 22) (.cells #[.int .i64 (i:Int)] 3)
 have hg:=h.step0 hst
 obtain ⟨h1,h2⟩:=hg.2.2.2.2 i x z hxi hzi
 have ha:=hidden (Acd hg.1 i hxi 50 #[.pointer (some ⟨w.heap.size,0,none⟩), .pointer (some ⟨w.heap.size+1,0,none⟩)] _ Tryz.call50 (Ami h1 h2 hd _ _) (fun e w' hq=>⟨_,hq.1⟩))
 have XX:=hidden hW
 have Abe:=hidden hst
 clear h hg h1 h2 hxi hzi hd hW hst
 go_enter func14,ntmps14
 go_wp2_with fail
 rw [XX.out]
 refine ha.out.mono ?_;rintro e W1 ⟨rfl,rfl⟩
 go_wp2_with fail
 go_ret
 exact ⟨_,oW,rfl,Abe.out,rfl⟩
theorem Amv (h:GAt w o R pg pn xs zs g) (hR:R ≠ 0) (hn:xs.length ≤ 3) (i:Nat) (hxi:xs[i]?=some x) (hzi:zs[i]?=some z) (hp:Am.NP K B z) (hK:K+606<65536) (hB:B ≤ 90000) (hw:z.waited ≤ 1000000) (hlen:g.l.length ≤ 4096) (hi:i<g.n)
  (ht:∀ t ∈ Ed z.tick.2,t.1<g.n∧i ≠ t.1∧t.2.length ≤ 2097152) {b1 b2:Nat} (hb1:At0 w o b1 (.cells #[.pointer (some ⟨pg,0,none⟩)] 22)) (hb2:At0 w o b2 (.cells #[.int .i64 (i:Int)] 3)) :
  Calls prog 50 #[.pointer (some ⟨x.px,0,none⟩), .pointer (some ⟨b1,0,none⟩), .pointer (some ⟨b2,0,none⟩)] w (XL (InT x R) w o fun v w' o'=>v = .int .i64 0∧GAt w' o' R pg pn xs (zs.set i z.tick.1) (g.sends i (Ed z.tick.2))):=by
 obtain ⟨h1,h2⟩:=h.2.2.2.2 i x z hxi hzi
 obtain ⟨t1,t2,t3⟩:=h.2.2.1.at' i x hxi
 have hx3:=(List.getElem?_eq_some_iff.1 hxi).1
 have hc:=FI h2
 rw [show z.dead=false from hp.sp.dead] at hc
 have WV:=hidden hc
 have dr:Step Nobody w o w.drew o:=(Step.refl Nobody w o).drew
 have htk:=hidden (ZB (h2.step0 dr) hp hK hB hw)
 have hH:=hidden (aI (h.step0 dr) (aI (h1.step dr id) (aI (hb1.step dr id) (aI (hb2.step dr id) dr))))
 have nQ:¬ KC x.D x.M x.Q:=by unfold KC;omega
 have n0:¬ KC x.D x.M 0:=by unfold KC;omega
 have c0:=cell_of_block h1.1 0
 have q1:=hb1.cell 0
 have q2:=hb2.cell 0
 simp only [List.getElem?_cons_zero] at c0 q1 q2
 unfold Uc at c0
 have hS:=aI c0 (aI q1 q2)
 have hF:=hidden (aI hxi (aI hzi (aI ht (aI hn hx3))))
 clear hc h h1 h2 hb1 hb2 hp dr hxi hzi ht q1 q2 hx3
 go_enter func50,ntmps50
 go_wp2_with fail
 refine WV.out.mono ?_;rintro e W1 ⟨rfl,rfl⟩
 go_wp2_with fail
 refine Aa (fun w'=>w'.cell? ⟨x.px,0,none⟩=some (.pointer (some ⟨x.pz,0,none⟩))∧w'.cell? ⟨b1,0,none⟩=some (.pointer (some ⟨pg,0,none⟩))∧w'.cell? ⟨b2,0,none⟩=some (.int .i64 (i:Int))) (fun _=>true) (by kernel_rfl) hS (fun hHeld => ?_)
 refine tq 0 (h:=tq 1 (h:=tq 2 (h:=tq 3 (h:=tq 4 (h:=tq 5 (h:=tO 6 (h:=?_)))))))
 go_wp2_with fail
 refine htk.out.mono ?_;rintro e W3 ⟨v3,o3,rfl,hs3,hou,hnd⟩
 obtain ⟨g1,g2,g3,g4,g5⟩:=hH.out
 obtain ⟨f1,f2,f3,f4,f5⟩:=hF.out
 have k1:=g1.set hR f4 f1 f2 hs3 hnd
 have e1:=g2.step hs3 nQ
 have e2:=g3.step hs3 n0
 have e3:=g4.step hs3 n0
 have r0:=cell_of_block e1.1 0
 have r1:=e2.cell 0
 have r2:=e3.cell 0
 simp only [List.getElem?_cons_zero] at r0 r1 r2
 unfold Uc at r0
 have hS3:=aI r0 (aI r1 r2)
 have hsn:=hidden (Aiv k1.1 k1.2.1 (by omega) (by omega) (by omega) hlen i hi hou f3)
 have hE:=hidden (aI k1 (aI e1 (aI e2 (aI e3 (g5.mono (T':=InT x R) (fun _ h=>h.elim) |>.trans (hs3.mono (T':=InT x R) fun _ h => .inl h))))))
 clear hs3 hou hnd g1 g2 g3 g4 g5 f1 f2 f3 f4 f5 k1 e1 e2 e3 r0 r1 r2 hH htk
 go_wp2_with fail
 refine ⟨fun _=>hS3, ?_⟩
 refine tO 7 (h:=?_)
 go_wp2_with fail
 refine hsn.out.mono ?_;rintro e W4 ⟨v4,o4,rfl,hs4,hn4⟩
 obtain ⟨k1,e1,e2,e3,g5⟩:=hE.out
 have r0:=cell_of_block (e1.step hs4 (by unfold Only;omega)).1 0
 have r1:=(e2.step hs4 (by unfold Only;omega)).cell 0
 have r2:=(e3.step hs4 (by unfold Only;omega)).cell 0
 simp only [List.getElem?_cons_zero] at r0 r1 r2
 unfold Uc at r0
 have hS4:=aI r0 (aI r1 r2)
 have hG:=hidden (aI (g5.trans (hs4.mono (T':=InT x R) fun _ h => .inr h)) (k1.Anc hR hF.out.2.2.2.1 hs4 hn4))
 clear hs4 hn4 k1 e1 e2 e3 g5 r0 r1 r2 hE hsn
 go_wp2_with fail
 refine ⟨fun _=>hS4, ?_⟩
 refine tD (h:=?_)
 clear hS3 hS4
 go_wp2_with fail
 go_ret
 exact ⟨_,o4,rfl,hG.out.1,rfl,hG.out.2⟩
theorem Aow (h:GAt w o R pg pn xs zs g) (hR:R ≠ 0) (hn:xs.length ≤ 3) (i:Nat) (hxi:xs[i]?=some x) (hzi:zs[i]?=some z) (hp:Am.NP K B z) (hK:K+606<65536) (hB:B ≤ 90000) (hw:z.waited ≤ 1000000) (hlen:g.l.length ≤ 4096) (hi:i<g.n)
  (ht:∀ t ∈ Ed z.tick.2,t.1<g.n∧i ≠ t.1∧t.2.length ≤ 2097152) :
  Calls prog 14 #[.pointer (some ⟨pg,0,none⟩), .int .i64 (i:Int)] w (XL (InT x R) w o fun v w' o'=>v = .int .i64 0∧GAt w' o' R pg pn xs (zs.set i z.tick.1) (g.sends i (Ed z.tick.2))):=by
 obtain ⟨W,oW,hW,⟨hst, -⟩,hb1,hb2⟩:=Ajq w o (.cells #[.pointer (some ⟨pg,0,none⟩)] 22) (.cells #[.int .i64 (i:Int)] 3)
 have hg:=h.step0 hst
 have ha:=hidden (Acd hg.1 i hxi 50 #[.pointer (some ⟨w.heap.size,0,none⟩), .pointer (some ⟨w.heap.size+1,0,none⟩)] _ Tryz.call50 (Amv hg hR hn i hxi hzi hp hK hB hw hlen hi ht hb1 hb2) (fun e w' hq=>by obtain ⟨v, -,hv, -⟩:=hq;exact ⟨v,hv⟩))
 have XX:=hidden hW
 have Abe:=hidden (hst.mono (T':=InT x R) fun _ h=>h.elim)
 clear h hg hxi hzi hp hW hst hb1 hb2 ht
 go_enter func14,ntmps14
 go_wp2_with fail
 rw [XX.out]
 refine ha.out.mono ?_;rintro e W1 ⟨v1,o1,rfl,hs1,rfl,hg1⟩
 have hF:=hidden (aI (Abe.out.trans hs1) hg1)
 clear hs1 hg1 ha Abe
 go_wp2_with fail
 go_ret
 exact ⟨_,o1,rfl,hF.out.1,rfl,hF.out.2⟩
end
section
variable {w:World} {o:Own} {R pg pn i K B:Nat} {xs:List xI} {zs:List Am} {g:GN} {x:xI} {z z':Am}
theorem Aib {er:Int} {ba:Option Addr} {bn bc:Nat} (h:GAt w o R pg pn xs zs g) (hR:R ≠ 0) (hn:xs.length ≤ 3) (i:Nat) (hxi:xs[i]?=some x) (hzi:zs[i]?=some z)
  (hpr:Calls prog 47 #[.pointer (some ⟨x.pz,0,none⟩), .slice ba bn bc] w.drew (XL (KC x.D x.M) w.drew o fun v w' o'=>v = .int .i64 er∧Bc w' o' x.D x.M x.pz x.ps x.pd z'))
  {b1:Nat} (hb1:At0 w o b1 (.cells #[.slice ba bn bc] 29)) :
  Calls prog 46 #[.pointer (some ⟨x.px,0,none⟩), .pointer (some ⟨b1,0,none⟩)] w (XL (KC x.D x.M) w o fun v w' o'=>v = .int .i64 er∧GAt w' o' R pg pn xs (zs.set i z') g):=by
 obtain ⟨h1,h2⟩:=h.2.2.2.2 i x z hxi hzi
 obtain ⟨t1,t2,t3⟩:=h.2.2.1.at' i x hxi
 have hx3:=(List.getElem?_eq_some_iff.1 hxi).1
 have dr:Step Nobody w o w.drew o:=(Step.refl Nobody w o).drew
 have AiZ:=hidden hpr
 have hH:=hidden (aI (h.step0 dr) (aI (h1.step dr id) (aI (hb1.step dr id) dr)))
 have nQ:¬ KC x.D x.M x.Q:=by unfold KC;omega
 have n0:¬ KC x.D x.M 0:=by unfold KC;omega
 have c0:=cell_of_block h1.1 0
 have q1:=hb1.cell 0
 simp only [List.getElem?_cons_zero] at c0 q1
 unfold Uc at c0
 have hS:=aI c0 q1
 have hF:=hidden (aI hxi (aI hzi hn))
 clear h h1 h2 hb1 dr hxi hzi q1 hx3 hpr c0
 go_enter func46,ntmps46
 go_wp2_with fail
 refine Aa (fun w'=>w'.cell? ⟨x.px,0,none⟩=some (.pointer (some ⟨x.pz,0,none⟩))∧w'.cell? ⟨b1,0,none⟩=some (.slice ba bn bc)) (fun _=>true) (by kernel_rfl) hS (fun hHeld => ?_)
 refine tq 0 (h:=tq 1 (h:=tq 2 (h:=tq 3 (h:=tq 4 (h:=tO 5 (h:=?_))))))
 go_wp2_with fail
 refine AiZ.out.mono ?_;rintro e W3 ⟨v3,o3,rfl,hs3,rfl,hnd⟩
 obtain ⟨g1,g2,g3,g5⟩:=hH.out
 obtain ⟨f1,f2,f4⟩:=hF.out
 have r0:=cell_of_block (g2.step hs3 nQ).1 0
 have r1:=(g3.step hs3 n0).cell 0
 simp only [List.getElem?_cons_zero] at r0 r1
 unfold Uc at r0
 have hS3:=aI r0 r1
 have hG:=hidden (aI ((g5.mono (T':=KC x.D x.M) fun _ h=>h.elim).trans hs3) (g1.set hR f4 f1 f2 hs3 hnd))
 clear hs3 hnd g1 g2 g3 g5 f1 f2 f4 r0 r1 hH AiZ
 go_wp2_with fail
 refine ⟨fun _=>hS3, ?_⟩
 refine tq 6 (h:=tD (h:=?_))
 clear hS3
 go_wp2_with fail
 go_ret
 exact ⟨_,o3,rfl,hG.out.1,rfl,hG.out.2⟩
theorem AeX {er:Int} {ba:Option Addr} {bn bc:Nat} (h:GAt w o R pg pn xs zs g) (hR:R ≠ 0) (hn:xs.length ≤ 3) (i:Nat) (hxi:xs[i]?=some x) (hzi:zs[i]?=some z)
  (hpr:∀ (W:World) (oW:Own),Step Nobody w o W oW→Calls prog 47 #[.pointer (some ⟨x.pz,0,none⟩), .slice ba bn bc] W (XL (KC x.D x.M) W oW fun v w' o'=>v = .int .i64 er∧Bc w' o' x.D x.M x.pz x.ps x.pd z')) :
  Calls prog 12 #[.pointer (some ⟨pg,0,none⟩), .int .i64 (i:Int), .slice ba bn bc] w (XL (KC x.D x.M) w o fun v w' o'=>v = .int .i64 er∧GAt w' o' R pg pn xs (zs.set i z') g):=by
 obtain ⟨W,oW,hW,⟨hst, -⟩,hb1⟩:=AaC w o (.cells #[.slice ba bn bc] 29)
 have hg:=h.step0 hst
 have ha:=hidden (Acd hg.1 i hxi 46 #[.pointer (some ⟨w.heap.size,0,none⟩)] _ Tryz.call46 (Aib hg hR hn i hxi hzi (hpr _ _ (hst.trans (Step.refl Nobody W oW).drew)) hb1) (fun e w' hq=>by obtain ⟨v, -,hv, -⟩:=hq;exact ⟨v,hv⟩))
 have XX:=hidden hW
 have Abe:=hidden (hst.mono (T':=KC x.D x.M) fun _ h=>h.elim)
 clear h hg hxi hzi hpr hW hst hb1
 go_enter func12,ntmps12
 go_wp2_with fail
 rw [XX.out]
 refine ha.out.mono ?_;rintro e W1 ⟨v1,o1,rfl,hs1,rfl,hg1⟩
 have hF:=hidden (aI (Abe.out.trans hs1) hg1)
 clear hs1 hg1 ha Abe
 go_wp2_with fail
 go_ret
 exact ⟨_,o1,rfl,hF.out.1,rfl,hF.out.2⟩
end
section
variable {w:World} {o:Own} {R pg pn K B:Nat} {xs:List xI} {zs:List Am} {g:GN} {x:xI} {z z':Am}
theorem AmD (hx:Afp w o x) (hz:Bc w o x.D x.M x.pz x.ps x.pd z) (hd:z.dead=true) (a b:Option Addr):Calls prog 56 #[.pointer (some ⟨x.px,0,none⟩), .pointer a, .pointer b] w fun e w'=>e = .returned (.int .i64 9)∧w=w':=by
 have hc:=FI hz
 rw [hd] at hc
 have WV:=hidden hc
 have c0:=cell_of_block hx.1 0
 simp only [List.getElem?_cons_zero] at c0
 unfold Uc at c0
 clear hc hx hz hd
 go_enter func56,ntmps56
 go_wp2_with fail
 refine WV.out.mono ?_;rintro e W1 ⟨rfl,rfl⟩
 go_wp2_with fail
 go_ret
 exact ⟨rfl,rfl⟩
theorem AmF {src:Nat} {ba:Option Addr} {bn bc:Nat} {ts:List (Nat × List UInt8)} (h:GAt w o R pg pn xs zs g) (hR:R ≠ 0) (hn:xs.length ≤ 3) (i:Nat) (hxi:xs[i]?=some x) (hzi:zs[i]?=some z) (hd:z.dead=false) (hlen:g.l.length ≤ 4096) (hi:i<g.n)
  (hhe:Calls prog 57 #[.pointer (some ⟨x.pz,0,none⟩), .int .i64 (src:Int), .slice ba bn bc] w.drew (XL (KC x.D x.M) w.drew o fun v w' o'=>Dn w' o' v ts∧Bc w' o' x.D x.M x.pz x.ps x.pd z'))
  (ht:∀ t ∈ ts,t.1<g.n∧i ≠ t.1∧t.2.length ≤ 2097152) {b1 b2:Nat} (hb1:At0 w o b1 (.cells #[.pointer (some ⟨pg,0,none⟩)] 22)) (hb2:At0 w o b2 (.cells [.int .i64 0, .int .i64 (src:Int), .int .i64 0, .int .i64 (i:Int), .slice ba bn bc].toArray 104)) :
  Calls prog 56 #[.pointer (some ⟨x.px,0,none⟩), .pointer (some ⟨b1,0,none⟩), .pointer (some ⟨b2,0,none⟩)] w (XL (InT x R) w o fun v w' o'=>v = .int .i64 0∧GAt w' o' R pg pn xs (zs.set i z') (g.sends i ts)):=by
 obtain ⟨h1,h2⟩:=h.2.2.2.2 i x z hxi hzi
 obtain ⟨t1,t2,t3⟩:=h.2.2.1.at' i x hxi
 have hx3:=(List.getElem?_eq_some_iff.1 hxi).1
 have hc:=FI h2
 rw [hd] at hc
 have WV:=hidden hc
 have dr:Step Nobody w o w.drew o:=(Step.refl Nobody w o).drew
 have htk:=hidden hhe
 have hH:=hidden (aI (h.step0 dr) (aI (h1.step dr id) (aI (hb1.step dr id) (aI (hb2.step dr id) dr))))
 have nQ:¬ KC x.D x.M x.Q:=by unfold KC;omega
 have n0:¬ KC x.D x.M 0:=by unfold KC;omega
 have c0:=cell_of_block h1.1 0
 have q1:=hb1.cell 0
 have q2:=hb2.cell 1
 have q3:=hb2.cell 3
 have q4:=hb2.cell 4
 simp only [List.getElem?_cons_zero,List.getElem?_cons_succ] at c0 q1 q2 q3 q4
 unfold Uc at c0
 have hS:=aI c0 (aI q1 (aI q2 (aI q3 q4)))
 have hF:=hidden (aI hxi (aI hzi (aI ht (aI hn hx3))))
 clear hc h h1 h2 hb1 hb2 dr hxi hzi ht q1 q2 q3 q4 hx3 hhe hd
 go_enter func56,ntmps56
 go_wp2_with fail
 refine WV.out.mono ?_;rintro e W1 ⟨rfl,rfl⟩
 go_wp2_with fail
 refine Aa (fun w'=>w'.cell? ⟨x.px,0,none⟩=some (.pointer (some ⟨x.pz,0,none⟩))∧w'.cell? ⟨b1,0,none⟩=some (.pointer (some ⟨pg,0,none⟩))∧w'.cell? ⟨b2,1,none⟩=some (.int .i64 (src:Int))∧w'.cell? ⟨b2,3,none⟩=some (.int .i64 (i:Int))∧w'.cell? ⟨b2,4,none⟩=some (.slice ba bn bc)) (fun _=>true) (by kernel_rfl) hS (fun hHeld => ?_)
 refine tq 0 (h:=tq 1 (h:=tq 2 (h:=tq 3 (h:=tq 4 (h:=tq 5 (h:=tq 6 (h:=tq 7 (h:=tq 8 (h:=tq 9 (h:=tq 10 (h:=tq 11 (h:=tq 12 (h:=tO 13 (h:=?_))))))))))))))
 go_wp2_with fail
 refine htk.out.mono ?_;rintro e W3 ⟨v3,o3,rfl,hs3,hou,hnd⟩
 obtain ⟨g1,g2,g3,g4,g5⟩:=hH.out
 obtain ⟨f1,f2,f3,f4,f5⟩:=hF.out
 have k1:=g1.set hR f4 f1 f2 hs3 hnd
 have e1:=g2.step hs3 nQ
 have e2:=g3.step hs3 n0
 have e3:=g4.step hs3 n0
 have r0:=cell_of_block e1.1 0
 have r1:=e2.cell 0
 have r2:=e3.cell 1
 have r3:=e3.cell 3
 have r4:=e3.cell 4
 simp only [List.getElem?_cons_zero,List.getElem?_cons_succ] at r0 r1 r2 r3 r4
 unfold Uc at r0
 have hS3:=aI r0 (aI r1 (aI r2 (aI r3 r4)))
 have hsn:=hidden (Aiv k1.1 k1.2.1 (by omega) (by omega) (by omega) hlen i hi hou f3)
 have hE:=hidden (aI k1 (aI e1 (aI e2 (aI e3 (g5.mono (T':=InT x R) (fun _ h=>h.elim) |>.trans (hs3.mono (T':=InT x R) fun _ h => .inl h))))))
 clear hs3 hou hnd g1 g2 g3 g4 g5 f1 f2 f3 f4 f5 k1 e1 e2 e3 r0 r1 r2 r3 r4 hH htk
 go_wp2_with fail
 refine ⟨fun _=>hS3, ?_⟩
 refine tO 14 (h:=?_)
 go_wp2_with fail
 refine hsn.out.mono ?_;rintro e W4 ⟨v4,o4,rfl,hs4,hn4⟩
 obtain ⟨k1,e1,e2,e3,g5⟩:=hE.out
 replace e1:=e1.step hs4 (by unfold Only;omega)
 replace e2:=e2.step hs4 (by unfold Only;omega)
 replace e3:=e3.step hs4 (by unfold Only;omega)
 have r0:=cell_of_block e1.1 0
 have r1:=e2.cell 0
 have r2:=e3.cell 1
 have r3:=e3.cell 3
 have r4:=e3.cell 4
 simp only [List.getElem?_cons_zero,List.getElem?_cons_succ] at r0 r1 r2 r3 r4
 unfold Uc at r0
 have hS4:=aI r0 (aI r1 (aI r2 (aI r3 r4)))
 have hG:=hidden (aI (g5.trans (hs4.mono (T':=InT x R) fun _ h => .inr h)) (k1.Anc hR hF.out.2.2.2.1 hs4 hn4))
 clear hs4 hn4 k1 e1 e2 e3 g5 r0 r1 r2 r3 r4 hE hsn
 go_wp2_with fail
 refine ⟨fun _=>hS4, ?_⟩
 refine tD (h:=?_)
 clear hS3 hS4
 go_wp2_with fail
 go_ret
 exact ⟨_,o4,rfl,hG.out.1,rfl,hG.out.2⟩
theorem Afu {w:World} {o:Own} {vs:List Value} (hl:vs.length=5) (h1:vs.all (·.oneCell')=true) :
  ∃ W V oV,w.alloc (.cells #[.int .i64 0, .int .i64 0, .int .i64 0, .int .i64 0, .slice none 0 0] 104)=W∧(Instr.storeAt 104 (.pointer (some ⟨w.heap.size,0,none⟩)) (.agg vs.toArray)).run prog W = .ok () V∧Step Nobody w o V oV∧At0 V oV w.heap.size (.cells vs.toArray 104):=by
 obtain ⟨W,oW,hW,⟨hst, -⟩,hb⟩:=AaC w o (.cells #[.int .i64 0, .int .i64 0, .int .i64 0, .int .i64 0, .slice none 0 0] 104)
 obtain ⟨V,hV,hsV,hbV, -⟩:=hb.store (P:=prog) (cs:=[.int .i64 0, .int .i64 0, .int .i64 0, .int .i64 0, .slice none 0 0]) (ty:=104) (vs:=vs) hst (Nat.le_refl _) (by simpa using hl) (by rw [hl];exact vI) h1
 exact ⟨W,V,oW,hW,hV,hsV,hbV⟩
theorem ArB (h:GAt w o R pg pn xs zs g) (k:Int) (hk:¬ g.may k=0):Calls prog 16 #[.pointer (some ⟨pg,0,none⟩), .int .i64 k] w (XL Nobody w o fun v _ _=>v = .int .i64 1):=by
 obtain ⟨W,oW,hW,⟨hst, -⟩,hb⟩:=AaC w o (.cells #[.pointer (some ⟨pg,0,none⟩)] 22)
 have hg:=h.step0 hst
 have hno:=hidden (ApY hg.2.1 k hk)
 obtain ⟨bn,cap,e1, -⟩:=hg.1
 have c1:=cell_of_block e1 1
 simp only [List.getElem?_cons_zero,List.getElem?_cons_succ] at c1
 unfold Uc at c1
 rw [←hW] at c1
 have XX:=hidden hW
 have Abe:=hidden hst
 clear h hg hW hst hb e1 hk
 go_enter func16,ntmps16
 go_wp2_with fail
 rw [XX.out]
 refine hno.out.mono ?_;rintro e W1 ⟨v1,o1,rfl,hs1,rfl⟩
 obtain ⟨W2,V,oV,hW2,hV,hsV, -⟩:=Afu (w:=W1) (o:=o1) (vs:=Asz) rfl rfl
 have hF:=hidden (Abe.out.trans (hs1.trans hsV))
 have xO:=hidden hW2
 have hVH:=hidden hV
 clear hs1 hsV hW2 hV hno Abe
 go_wp2_with ((with_reducible apply AC);(try rw [xO.out]);exact hVH.out;simp only [Act.put])
 go_ret
 exact ⟨_,oV,rfl,hF.out,rfl⟩
theorem AoA (h:GAt w o R pg pn xs zs g) (_hR:R ≠ 0) (hlen:g.l.length ≤ 4096) (n:Nat) (hn:n<g.l.length) (hl:GN.LOk g.n g.l[n]) {T:Nat→Prop} {Q:Value→World→Own→Prop} (hT:T (R+2))
  (h65:g.cuts g.l[n].src g.l[n].dst=true→∀ (W:World) (oW:Own),Step T w o W oW→KL W oW (R+2) pn g→Step (Only (R+2)) w o W oW→Q (.int .i64 65) W oW)
  (hcall:g.cuts g.l[n].src g.l[n].dst=false→∀ (W:World) (oW:Own) (bv:Value) (b1 b2:Nat),Step (Only (R+2)) w o W oW→KL W oW (R+2) pn (g.without n)→At0 W oW b1 (.cells #[.pointer (some ⟨pg,0,none⟩)] 22)→At0 W oW b2 (.cells (Aaa g.l[n] bv).toArray 104)→Bytes W oW bv g.l[n].b →
   Calls prog 43 #[.pointer (some ⟨pg,0,none⟩), .int .i64 (g.l[n].dst:Int), .func (.func 56) #[] #[.pointer (some ⟨b1,0,none⟩), .pointer (some ⟨b2,0,none⟩)]] W (XL T W oW fun v w' o'=>(∃ er,v = .int .i64 er)∧Q v w' o')) :
  Calls prog 16 #[.pointer (some ⟨pg,0,none⟩), .int .i64 (n:Int)] w (XL T w o Q):=by
 obtain ⟨W,oW,hW,⟨hst, -⟩,hb⟩:=AaC w o (.cells #[.pointer (some ⟨pg,0,none⟩)] 22)
 have hg:=h.step0 hst
 have hyes:=hidden (Aoj hg.2.1 (by omega) (by omega) n hn hl)
 obtain ⟨bn,cap,e1,e2, -⟩:=hg.1
 have c1:=cell_of_block e1 1
 simp only [List.getElem?_cons_zero,List.getElem?_cons_succ] at c1
 unfold Uc at c1
 rw [←hW] at c1
 have XX:=hidden hW
 have Abe:=hidden (aI hst hb)
 have h6H:=hidden h65
 have WV:=hidden hcall
 clear h hg hW hst hb e1 e2 hl h65 hcall
 go_enter func16,ntmps16
 go_wp2_with fail
 rw [XX.out]
 refine hyes.out.mono ?_;rintro e W1 ⟨v1,o1,rfl,hs1,y1,y2⟩
 cases hc:g.cuts g.l[n].src g.l[n].dst with
 | true =>
  obtain ⟨rfl,hn1⟩:=y1 hc
  obtain ⟨W2,V,oV,hW2,hV,hsV, -⟩:=Afu (w:=W1) (o:=o1) (vs:=Asz) rfl rfl
  have st:=((Abe.out.1.mono (T':=Only (R+2)) fun _ h=>h.elim).trans hs1).trans (hsV.mono (T':=Only (R+2)) fun _ h=>h.elim)
  have hF:=hidden (h6H.out hc V oV (st.mono fun k (h:k=R+2)=>by rw [h];exact hT) (hn1.step hsV id id) st)
  have AaM:=hidden (st.mono (T':=T) fun k (h:k=R+2)=>by rw [h];exact hT)
  have xO:=hidden hW2
  have hVH:=hidden hV
  clear hs1 hsV hW2 hV hyes Abe y1 y2 hn1 st hc h6H WV
  go_wp2_with ((with_reducible apply AC);(try rw [xO.out]);exact hVH.out;simp only [Act.put])
  go_ret
  exact ⟨_,oV,rfl,AaM.out,hF.out⟩
 | false =>
  obtain ⟨bv,rfl,hbv,hn1⟩:=y2 hc
  obtain ⟨ba,bc,rfl⟩:=Aq hbv
  obtain ⟨W2,V,oV,hW2,hV,hsV,hbV⟩:=Afu (w:=W1) (o:=o1) (vs:=Aaa g.l[n] (.slice ba g.l[n].b.length bc)) rfl rfl
  have st:=((Abe.out.1.mono (T':=Only (R+2)) fun _ h=>h.elim).trans hs1).trans (hsV.mono (T':=Only (R+2)) fun _ h=>h.elim)
  have hb1:=(Abe.out.2.step hs1 (by unfold Only;omega)).step hsV id
  have k1:=hb1.cell 0
  have k2:=hbV.cell 3
  unfold Aaa at k2
  simp only [List.getElem?_cons_zero,List.getElem?_cons_succ] at k1 k2
  have hF:=hidden (WV.out hc V oV _ _ _ st (hn1.step hsV id id) hb1 hbV (hbv.step hsV id))
  have AaM:=hidden (st.mono (T':=T) fun k (h:k=R+2)=>by rw [h];exact hT)
  have xO:=hidden hW2
  have hVH:=hidden hV
  clear hs1 hsV hW2 hV hyes Abe y1 y2 hn1 st hc h6H WV hb1 hbV hbv
  unfold Aaa at hVH ⊢
  go_wp2_with ((with_reducible apply AC);(try rw [xO.out]);exact hVH.out;simp only [Act.put])
  refine hF.out.mono ?_;rintro e W5 ⟨v5,o5,rfl,hs5,⟨er,rfl⟩,hq⟩
  have yV:=hidden hq
  have Bbw:=hidden (AaM.out.trans hs5)
  clear hq hs5 hF AaM
  go_wp2_with fail
  go_ret
  exact ⟨_,o5,rfl,Bbw.out,yV.out⟩
end
section
variable {w:World} {o:Own} {R pg pn K H Mx:Nat} {xs:List xI} {zs:List Am} {g:GN} {x:xI} {z:Am} {t:AZ}
theorem Akx {ba:Option Addr} {bn bc:Nat} {fs:List Int} (h:GAt w o R pg pn xs zs g) (hR:R ≠ 0) (hn:xs.length ≤ 3) (i:Nat) (hxi:xs[i]?=some x) (hzi:zs[i]?=some z)
  (hMx:R+20 ≤ Mx∧∀ y ∈ xs,y.M+4 ≤ Mx) (hf:Ints w o (.slice ba bn bc) fs) (hfb:∀ a ∈ fs, -9223372036854775808 ≤ a∧a ≤ 9223372036854775807)
  (hrow:z.s.d.row.length ≤ 1000000) (hr:z.s.d.BJ fs=t.d) (hg:SG K H t) (hK:K<65536) (hpg:t.d.pages.length ≤ 400)
  {b1 b2 b3:Nat} (hb1:At0 w o b1 (.cells #[.slice ba bn bc] 53)) (hb2:At0 w o b2 (.cells #[.int .i64 (i:Int)] 3)) (hb3:At0 w o b3 (.cells #[.pointer (some ⟨pg,0,none⟩)] 22)) :
  Calls prog 58 #[.pointer (some ⟨x.px,0,none⟩), .pointer (some ⟨b1,0,none⟩), .pointer (some ⟨b2,0,none⟩), .pointer (some ⟨b3,0,none⟩)] w
   (XL (aY x Mx) w o fun v w' o'=>v = .int .i64 0∧∃ x',GAt w' o' R pg pn (xs.set i x') (zs.set i (Am.new i xs.length t)) g):=by
 obtain ⟨h1,h2⟩:=h.2.2.2.2 i x z hxi hzi
 obtain ⟨t1,t2,t3⟩:=h.2.2.1.at' i x hxi
 have hx3:=(List.getElem?_eq_some_iff.1 hxi).1
 have hM4:=hMx.2 x (List.mem_of_getElem? hxi)
 have ML:x.D ≤ Mx∧x.D ≠ 0∧x.Q ≤ Mx∧x.Q ≠ 0∧x.Q ≠ x.D∧¬ Only x.D x.Q∧¬ Only x.D 0∧¬ Only x.D R∧¬ Only x.D (R+1):=by
  unfold Only
  refine ⟨?_, ?_, ?_, ?_, ?_, ?_, ?_, ?_, ?_⟩ <;> omega
 have hdk:Bg w o x.D x.pd z.s.d:=by
  obtain ⟨_,_,_,_,_,_,_,_,_,_,_,hd⟩:=h2.store
  exact hd
 have dr:Step Nobody w o w.drew o:=(Step.refl Nobody w o).drew
 have hrs:=hidden (jS (hdk.step dr id) ML.2.1 hrow (.slice ba bn bc) fs (hf.step dr id) hfb hr)
 have hH:=hidden (aI h (aI (h1.step dr id) (aI (hb1.step dr id) (aI (hb2.step dr id) (aI (hb3.step dr id) (aI dr (h.1.step dr id id)))))))
 have c0:=cell_of_block h1.1 1
 have q1:=hb1.cell 0
 simp only [List.getElem?_cons_zero,List.getElem?_cons_succ] at c0 q1
 unfold Uc at c0
 have hS:=aI c0 q1
 have hF:=hidden (aI hxi (aI hn (aI hMx (aI hg (aI hK (aI hpg hx3))))))
 have hDH:=hidden ML
 clear h h1 h2 hb1 hb2 hb3 dr hxi hzi q1 hx3 hdk c0 hg hK hpg hMx hrow hr hf hfb ML t1 t2 t3 hM4 hn
 go_enter func58,ntmps58
 go_wp2_with fail
 refine Aa (fun w'=>w'.cell? ⟨x.px,1,none⟩=some (.pointer (some ⟨x.pd,0,none⟩))∧w'.cell? ⟨b1,0,none⟩=some (.slice ba bn bc)) (fun _=>true) (by kernel_rfl) hS (fun hHeld => ?_)
 refine tq 0 (h:=tq 1 (h:=tq 2 (h:=tq 3 (h:=tq 4 (h:=tO 5 (h:=?_))))))
 go_wp2_with fail
 refine hrs.out.mono ?_;rintro e W3 ⟨v3,o3,rfl,hs3,rfl,hdk⟩
 obtain ⟨g1,g2,g3,g4,g5,g6,g7⟩:=hH.out
 obtain ⟨d1,d2,d3,d4,d5,d6,d7,d8,d9⟩:=hDH.out
 have e1:=g2.step hs3 d6
 have e2:=g3.step hs3 d7
 have r0:=cell_of_block e1.1 1
 have r1:=e2.cell 0
 simp only [List.getElem?_cons_zero,List.getElem?_cons_succ] at r0 r1
 unfold Uc at r0
 have hS3:=aI r0 r1
 have hE:=hidden (aI g1 (aI (g6.mono (T':=Only x.D) (fun _ h=>h.elim) |>.trans hs3) (aI hdk (aI e1 (aI (g4.step hs3 d7) (aI (g5.step hs3 d7) (g7.step hs3 d8 d9)))))))
 clear hs3 hdk g1 g2 g3 g4 g5 g6 g7 e1 e2 r0 r1 hH hrs d1 d2 d3 d4 d5 d6 d7 d8 d9
 go_wp2_with fail
 refine ⟨fun _=>hS3, ?_⟩
 refine tD (h:=?_)
 obtain ⟨g1,g2,g3,g4,g5,g6,g7⟩:=hE.out
 obtain ⟨d1,d2,d3,d4,d5,d6,d7,d8,d9⟩:=hDH.out
 obtain ⟨f1,f2,f3,f4,f5,f6,f7⟩:=hF.out
 have dr:Step Nobody W3 o3 W3.drew o3:=(Step.refl Nobody W3 o3).drew
 have k4:=g4.step dr id
 have hop:=hidden (Aiw (Mx:=Mx) k4.1 k4.2 d4 d1 d3 d5 d2 f4 f5 f6 (g3.step dr id) i xs.length (by omega) f2 f7)
 obtain ⟨bn2,cap,n1,n2,n3,n4,n5⟩:=g7
 have r1:=g5.cell 0
 have r2:=g6.cell 0
 have r3:=cell_of_block n1 0
 simp only [List.getElem?_cons_zero] at r1 r2 r3
 have hT:=aI r1 (aI r2 r3)
 have hE2:=hidden (aI g1 (aI (g2.trans (dr.mono (T':=Only x.D) fun _ h=>h.elim)) (aI (g5.step dr id) (aI (g6.step dr id) (aI ((dr.block pg (lt_of_block n1) id).trans n1) (aI (Nat.lt_of_lt_of_le (lt_of_block n1) dr.size) ((dr.own pg (lt_of_block n1)).trans n2)))))))
 clear hE g1 g2 g3 g4 g5 g6 n1 n2 n3 n4 n5 d1 d2 d3 d4 d5 d6 d7 d8 d9 f1 f2 f3 f4 f5 f6 f7 dr k4 r1 r2 r3 hS3 hS
 go_wp2_with fail
 refine Aa (fun w'=>w'.cell? ⟨b2,0,none⟩=some (.int .i64 (i:Int))∧w'.cell? ⟨b3,0,none⟩=some (.pointer (some ⟨pg,0,none⟩))∧w'.cell? ⟨pg,0,none⟩=some (.slice (some ⟨bn2,0,none⟩) xs.length cap)) (fun _=>true) (by kernel_rfl) hT (fun hHeld => ?_)
 refine tq 0 (h:=tq 1 (h:=tq 2 (h:=tq 3 (h:=tq 4 (h:=tq 5 (h:=tq 6 (h:=tO 7 (h:=?_))))))))
 go_wp2_with fail
 refine hop.out.mono ?_;rintro e W4 ⟨v4,o4,rfl,hs4,rfl,ps,pz,hxb,hnd⟩
 obtain ⟨g1,g2,g5,g6,n1,n2,n3⟩:=hE2.out
 obtain ⟨d1,d2,d3,d4,d5,d6,d7,d8,d9⟩:=hDH.out
 obtain ⟨f1,f2,f3,f4,f5,f6,f7⟩:=hF.out
 obtain ⟨t1,t2,t3⟩:=g1.2.2.1.at' i x f1
 have nn:¬ Adi x.Q Mx 0∧¬ Adi x.Q Mx R:=by unfold Adi;omega
 have r1:=(g5.step hs4 nn.1).cell 0
 have r2:=(g6.step hs4 nn.1).cell 0
 have r3:=cell_of_block ((hs4.block pg n2 (by rw [n3];exact nn.2)).trans n1) 0
 simp only [List.getElem?_cons_zero] at r1 r2 r3
 have hT4:=aI r1 (aI r2 r3)
 have st:=(g2.mono (T':=aY x Mx) fun k (hk:k=x.D) => .inr (.inl hk)).trans (hs4.mono (T':=aY x Mx) fun k hk=>by unfold Adi at hk;unfold aY;omega)
 have hG:=hidden (aI st (g1.reopen hR f2 f1 f3 st (x':=⟨x.Q,x.D,Mx,x.px,pz,ps,x.pd⟩) rfl rfl rfl rfl hxb hnd))
 clear hs4 hxb hnd g1 g2 g5 g6 n1 n2 n3 d1 d2 d3 d4 d5 d6 d7 d8 d9 f1 f2 f3 f4 f5 f6 f7 t1 t2 t3 nn r1 r2 r3 st hE2 hop
 go_wp2_with fail
 refine ⟨fun _=>hT4, ?_⟩
 refine tq 8 (h:=tD (h:=?_))
 clear hT hT4
 go_wp2_with fail
 go_ret
 exact ⟨_,o4,rfl,hG.out.1,rfl,_,hG.out.2⟩
theorem AmH {ba:Option Addr} {bn bc:Nat} {fs:List Int} (h:GAt w o R pg pn xs zs g) (hR:R ≠ 0) (hn:xs.length ≤ 3) (i:Nat) (hxi:xs[i]?=some x) (hzi:zs[i]?=some z)
  (hMx:R+20 ≤ Mx∧∀ y ∈ xs,y.M+4 ≤ Mx) (hf:Ints w o (.slice ba bn bc) fs) (hfb:∀ a ∈ fs, -9223372036854775808 ≤ a∧a ≤ 9223372036854775807)
  (hrow:z.s.d.row.length ≤ 1000000) (hr:z.s.d.BJ fs=t.d) (hg:SG K H t) (hK:K<65536) (hpg:t.d.pages.length ≤ 400) :
  Calls prog 17 #[.pointer (some ⟨pg,0,none⟩), .int .i64 (i:Int), .slice ba bn bc] w
   (XL (aY x Mx) w o fun v w' o'=>v = .int .i64 0∧∃ x',GAt w' o' R pg pn (xs.set i x') (zs.set i (Am.new i xs.length t)) g):=by
 obtain ⟨W,oW,hW,⟨hst, -⟩,hb3,hb2,hb1⟩:=Ajp w o (.cells #[.pointer (some ⟨pg,0,none⟩)] 22) (.cells #[.int .i64 (i:Int)] 3) (.cells #[.slice ba bn bc] 53)
 have hgW:=h.step0 hst
 have ha:=hidden (Acd hgW.1 i hxi 58 #[.pointer (some ⟨w.heap.size+1+1,0,none⟩), .pointer (some ⟨w.heap.size+1,0,none⟩), .pointer (some ⟨w.heap.size,0,none⟩)] _ Tryz.call58 (Akx hgW hR hn i hxi hzi hMx (hf.step hst id) hfb hrow hr hg hK hpg hb1 hb2 hb3) (fun e w' hq=>by obtain ⟨v, -,hv, -⟩:=hq;exact ⟨v,hv⟩))
 have XX:=hidden hW
 have Abe:=hidden (hst.mono (T':=aY x Mx) fun _ h=>h.elim)
 clear h hgW hxi hzi hW hst hb1 hb2 hb3 hf hfb hrow hr hg hMx
 go_enter func17,ntmps17
 go_wp2_with fail
 rw [XX.out]
 refine ha.out.mono ?_;rintro e W1 ⟨v1,o1,rfl,hs1,rfl,x',hg1⟩
 have hF:=hidden (aI (Abe.out.trans hs1) hg1)
 clear hs1 hg1 ha Abe
 go_wp2_with fail
 go_ret
 exact ⟨_,o1,rfl,hF.out.1,rfl,_,hF.out.2⟩
end
theorem Acx {fn:Func} {p:Tmp} {ty:TypeId} (h:fn.results = #[.cell p ty]) (tmps:Array Value) (P:Program) (w:World) :
  (results fn tmps).run P w=((asAddr (tmps.getD p undef)).run P w).andThen fun a w1=>(loadVar ty a).run P w1:=by
 simp only [results,h]
 simp [Sem.run_bind,Result.andThen]
section
variable {w:World} {o:Own} {R pg pn:Nat} {xs:List xI} {zs:List Am} {g:GN} {x:xI} {z:Am}
theorem GAt.step3 {w':World} {o':Own} (h:GAt w o R pg pn xs zs g) (s:Step (Only (R+3)) w o w' o') (_hR:R ≠ 0) (_hn:xs.length ≤ 3):GAt w' o' R pg pn xs zs g:=by
 obtain ⟨g1,g2,g3,g4⟩:=h
 refine ⟨g1.step s (by unfold Only;omega) (by unfold Only;omega),g2.step s (by unfold Only;omega) (by unfold Only;omega),g3,g4.step s (by unfold Only;omega) fun x hx => ?_⟩
 obtain ⟨i,hi,rfl⟩:=List.mem_iff_getElem.1 hx
 obtain ⟨q1,q2,q3⟩:=g3.at' i _ (List.getElem?_eq_getElem hi)
 exact ⟨by unfold Only;omega,fun t ht=>by unfold Only at ht;unfold KC;omega⟩
theorem AmR (hx:Afp w o x) (hz:Bc w o x.D x.M x.pz x.ps x.pd z) (hsm:small z.s.kept.lines) {b1:Nat} (hb:AtT w o b1 (.cells [.int .u64 0, .int .u64 0, .slice none 0 0].toArray 37) (R+3,0)) :
  Calls prog 60 #[.pointer (some ⟨x.px,0,none⟩), .pointer (some ⟨b1,0,none⟩)] w (XL (Only (R+3)) w o fun v w' o'=>v = .int .i64 0∧∃ lv base,Lines w' o' base lv z.s.kept.lines∧AtT w' o' b1 (.cells (BR z.s.kept.promised z.s.kept.current lv).toArray 37) (R+3,0)):=by
 have hk:=hidden (DJ hz.store hsm)
 have c0:=cell_of_block hx.1 2
 simp only [List.getElem?_cons_zero,List.getElem?_cons_succ] at c0
 unfold Uc at c0
 have xZ:=hidden hb
 clear hx hz hsm hb
 go_enter func60,ntmps60
 go_wp2_with fail
 refine hk.out.mono ?_;rintro e W1 ⟨v1,o1,rfl,hs1,lv,rfl,hl, -⟩
 obtain ⟨la,lc,rfl⟩:=hl.form
 obtain ⟨X,hX,hsX, -,hbX⟩:=(xZ.out.step hs1 id).store (P:=prog) (cs:=[.int .u64 0, .int .u64 0, .slice none 0 0]) (ty:=37) (vs:=BR z.s.kept.promised z.s.kept.current (.slice la z.s.kept.lines.length lc)) rfl Uz rfl
 have hF:=hidden (aI ((hs1.mono (T':=Only (R+3)) fun _ h=>h.elim).trans hsX) (aI (hl.step hsX (by unfold Only;omega)) hbX))
 unfold BR at hX
 have hXH:=hidden hX
 clear hX hsX hbX hl hs1 hk xZ
 unfold Dy
 go_wp2_with ((with_reducible apply AC);exact hXH.out;simp only [Act.put])
 go_ret
 exact ⟨_,o1,rfl,hF.out.1,rfl,_,_,hF.out.2.1,hF.out.2.2⟩
theorem AoT (h:GAt w o R pg pn xs zs g) (i:Nat) (hxi:xs[i]?=some x) (hzi:zs[i]?=some z) (hsm:small z.s.kept.lines) :
  Calls prog 18 #[.pointer (some ⟨pg,0,none⟩), .int .i64 (i:Int)] w (XL (Only (R+3)) w o fun v w' o'=>∃ lv base,v=Dy z.s.kept.promised z.s.kept.current lv∧Lines w' o' base lv z.s.kept.lines):=by
 obtain ⟨W,oW,hW,⟨hst, -⟩,hb⟩:=Akp w o (.cells #[.int .u64 0, .int .u64 0, .slice none 0 0] 37) (R+3,0)
 have hg:=h.step0 hst
 obtain ⟨h1,h2⟩:=hg.2.2.2.2 i x z hxi hzi
 have ha:=hidden (Acd hg.1 i hxi 60 #[.pointer (some ⟨w.heap.size,0,none⟩)] _ Tryz.call60 (AmR h1 h2 hsm hb) (fun e w' hq=>by obtain ⟨v, -,hv, -⟩:=hq;exact ⟨v,hv⟩))
 have XX:=hidden hW
 have Abe:=hidden (hst.mono (T':=Only (R+3)) fun _ h=>h.elim)
 clear h hg hW hst hb h1 h2 hxi hzi hsm
 go_enter func18,ntmps18
 go_wp2_with fail
 rw [XX.out]
 refine ha.out.mono ?_;rintro e W1 ⟨v1,o1,rfl,hs1,rfl,lv,base,hl,hb1⟩
 obtain ⟨la,lc,rfl⟩:=hl.form
 obtain ⟨X,hX,hsX, -,hbX⟩:=hb1.store (P:=prog) (ty:=37) (vs:=BR z.s.kept.promised z.s.kept.current (.slice la z.s.kept.lines.length lc)) rfl Uz rfl
 have d0:=cell_of_block hb1.1 0
 have d1:=cell_of_block hb1.1 1
 have d2:=cell_of_block hb1.1 2
 unfold BR at d0 d1 d2 hX
 simp only [List.getElem?_cons_zero,List.getElem?_cons_succ] at d0 d1 d2
 have hF:=hidden (aI ((Abe.out.trans hs1).trans hsX) (aI hbX (hl.step hsX (by unfold Only;omega))))
 have hXH:=hidden hX
 clear hX hsX hbX hl hs1 hb1 ha Abe
 go_wp2_with ((with_reducible apply AC);exact hXH.out;simp only [Act.put])
 refine bodyPost_ret (AbQ rfl _ _ w.heap.size 37 _ (0,0) _ rfl hF.out.2.1.1 underlying37 rfl Uz) rfl ?_
 exact ⟨_,o1,rfl,hF.out.1,_,_,rfl,hF.out.2.2⟩
end
def PAt (w:World) (o:Own) (R pg pn C K B:Nat) (p:PG):Prop:=
 ∃ xs zs,GAt w o R pg pn xs zs ⟨p.ys.length,Ua p.ls,p.cut⟩∧zs.length=p.ys.length∧p.off.length=p.ys.length∧p.ys.length ≤ 3∧R ≠ 0∧Ago p.ys.length B p.ls ∧
  ∀ i z y b,zs[i]?=some z→p.ys[i]?=some y→p.off[i]?=some b→y.id=i∧y.n=p.ys.length∧AsP C K B b z y
section
variable {w w':World} {o o':Own} {R pg pn C K B M0:Nat} {p:PG}
theorem AcR (hM:M0<R) {xs:List xI} (h:Agb R xs) {x:xI} {i:Nat} (hx:xs[i]?=some x):∀ k,KC x.D x.M k→EN M0 k:=by
 intro k hk
 obtain ⟨q1,q2,q3⟩:=h.at' i x hx
 unfold KC at hk
 show M0<k
 omega
theorem Ait (hM:M0<R) {xs:List xI} (h:Agb R xs) {x:xI} {i:Nat} (hx:xs[i]?=some x):∀ k,InT x R k→EN M0 k:=by
 intro k hk
 rcases hk with hk | hk
 ·exact AcR hM h hx k hk
 ·show M0<k;omega
theorem Aju (hM:M0<R) {xs:List xI} (h:Agb R xs) {x:xI} {i Mx:Nat} (hx:xs[i]?=some x) (hMx:R+20 ≤ Mx):∀ k,aY x Mx k→EN M0 k:=by
 intro k hk
 obtain ⟨q1,q2,q3⟩:=h.at' i x hx
 unfold aY at hk
 show M0<k
 omega
theorem PAt.step0 (h:PAt w o R pg pn C K B p) (s:Step Nobody w o w' o'):PAt w' o' R pg pn C K B p:=by
 obtain ⟨xs,zs,h1,h2⟩:=h
 exact ⟨xs,zs,h1.step0 s,h2⟩
theorem PAt.mono {K' B':Nat} (h:PAt w o R pg pn C K B p) (hK:K ≤ K') (hB:B ≤ B'):PAt w o R pg pn C K' B' p:=by
 obtain ⟨xs,zs,h1,h2,h3,h4,hR,h5,h6⟩:=h
 exact ⟨xs,zs,h1,h2,h3,h4,hR,h5.mono hB,fun i z y b hz hy hb=>by
  obtain ⟨e1,e2,e3⟩:=h6 i z y b hz hy hb
  exact ⟨e1,e2,e3.mono hK hB⟩⟩
theorem PAt.lower {B':Nat} (h:PAt w o R pg pn C K B p) (hf:p.fits B'=true):PAt w o R pg pn C K B' p:=by
 obtain ⟨xs,zs,h1,h2,h3,h4,hR,h5,h6⟩:=h
 unfold PG.fits at hf
 rw [Bool.and_eq_true] at hf
 refine ⟨xs,zs,h1,h2,h3,h4,hR,⟨h5.1,fun x hx => ?_⟩,fun i z y b hz hy hb => ?_⟩
 ·obtain ⟨e1,e2,e3,e4, -⟩:=h5.2 x hx
  exact ⟨e1,e2,e3,e4,by simpa using List.all_eq_true.1 hf.2 x hx⟩
 ·obtain ⟨e1,e2,e3,e4,e5⟩:=h6 i z y b hz hy hb
  exact ⟨e1,e2,e3,e4.lower (List.all_eq_true.1 hf.1 y (List.mem_of_getElem? hy)),e5⟩
theorem PAt.node (h:PAt w o R pg pn C K B p) {i:Nat} {y:Aj} {b:Bool} (hy:p.ys[i]?=some y) (hb:p.off[i]?=some b) :
  ∃ xs zs x z,GAt w o R pg pn xs zs ⟨p.ys.length,Ua p.ls,p.cut⟩∧xs.length ≤ 3∧zs.length=p.ys.length∧xs[i]?=some x∧zs[i]?=some z∧AsP C K B b z y∧y.id=i∧y.n=p.ys.length ∧
   ∀ (w':World) (o':Own) (z':Am) (y':Aj) (b':Bool) (ls':List (Nat × Nat × BG)) (xs':List xI) (K' B':Nat),K ≤ K'→B ≤ B'→GAt w' o' R pg pn xs' (zs.set i z') ⟨p.ys.length,Ua ls',p.cut⟩→AsP C K' B' b' z' y'→y'.id=i→y'.n=p.ys.length→Ago p.ys.length B' ls' →
    PAt w' o' R pg pn C K' B' ⟨p.ys.set i y',p.off.set i b',ls',p.cut⟩:=by
 obtain ⟨xs,zs,h1,h2,h3,h4,hR,h5,h6⟩:=h
 have hi:=(List.getElem?_eq_some_iff.1 hy).1
 have hxz:xs.length=zs.length:=h1.2.2.2.1
 obtain ⟨x,hx⟩:∃ x,xs[i]?=some x:=⟨_,List.getElem?_eq_getElem (by omega)⟩
 obtain ⟨z,hz⟩:∃ z,zs[i]?=some z:=⟨_,List.getElem?_eq_getElem (by omega)⟩
 obtain ⟨e1,e2,e3⟩:=h6 i z y b hz hy hb
 refine ⟨xs,zs,x,z,h1,by omega,h2,hx,hz,e3,e1,e2, ?_⟩
 intro w' o' z' y' b' ls' xs' K' B' hK hB hg ha hid hn hl
 refine ⟨xs',zs.set i z',by simpa using hg,by simpa using h2,by simpa using h3,by simpa using h4,hR,by simpa using hl,fun j z2 y2 b2 hz2 hy2 hb2 => ?_⟩
 by_cases hij:i=j
 ·subst hij
  rw [List.getElem?_set_self (by omega)] at hz2 hy2 hb2
  cases hz2;cases hy2;cases hb2
  exact ⟨hid,by simpa using hn,ha⟩
 ·rw [List.getElem?_set_ne hij] at hz2 hy2 hb2
  obtain ⟨f1,f2,f3⟩:=h6 j z2 y2 b2 hz2 hy2 hb2
  exact ⟨f1,by simpa using f2,f3.mono hK hB⟩
end
theorem WT {α:Type} {l:List α} {i:Nat} {a:α} (h:l[i]?=some a):l.set i a=l:=by
 apply List.ext_getElem?
 intro j
 by_cases hij:i=j
 ·subst hij
  rw [List.getElem?_set_self (List.getElem?_eq_some_iff.1 h).1,h]
 ·rw [List.getElem?_set_ne hij]
section
variable {w w':World} {o o':Own} {R pg pn C K B M0:Nat} {p:PG}
theorem PAt.look (h:PAt w o R pg pn C K B p) {i:Nat} (hi:i<p.ys.length):∃ y b,p.ys[i]?=some y∧p.off[i]?=some b:=by
 obtain ⟨xs,zs,h1,h2,h3, -⟩:=h
 exact ⟨_,_,List.getElem?_eq_getElem hi,List.getElem?_eq_getElem (by omega)⟩
theorem PAt.Aqy (h:PAt w o R pg pn C K B p):Ago p.ys.length B p.ls∧R ≠ 0:=by
 obtain ⟨xs,zs,h1,h2,h3,h4,hR,h5,h6⟩:=h
 exact ⟨h5,hR⟩
theorem Ana {n i B:Nat} {ts:DX} (hB:B ≤ 90000) (h:TGB n i B ts) (hm:Aj.EH ts):∀ t ∈ Ed ts,t.1<n∧i ≠ t.1∧t.2.length ≤ 2097152:=by
 intro t ht
 obtain ⟨x,hx,rfl⟩:=List.mem_map.1 ht
 obtain ⟨h1,h2,h3⟩:=h x hx
 have h4:=Aje (hm x hx).n1
 exact ⟨h1,Ne.symm h2,by show x.2.put.length ≤ 2097152;omega⟩
theorem AnJ (hM:M0<R) (h:PAt w o R pg pn C K B p) (hK:K+606<65536) (hBC:B ≤ C) (hC:B ≤ 90000) (i:Nat) (hi:i<p.ys.length) (hw:∀ y ∈ p.ys,y.waited ≤ 1000000) :
  Calls prog 14 #[.pointer (some ⟨pg,0,none⟩), .int .i64 (i:Int)] w (XL (EN M0) w o fun v w' o'=>v = .int .i64 (p.tick i).2∧PAt w' o' R pg pn C (K+6) B (p.tick i).1):=by
 obtain ⟨y,b,hy,hb⟩:=h.look hi
 obtain ⟨xs,zs,x,z,hg,hx3,hyn,hx,hz,ha,hid,hn,hput⟩:=h.node hy hb
 obtain ⟨hls,hR⟩:=h.Aqy
 unfold PG.tick
 rw [hy,hb]
 cases b with
 | true =>
  refine (Aou hg i hx hz ha.dead).mono ?_
  rintro e w' ⟨v,o',rfl,hs,rfl⟩
  exact ⟨_,o',rfl,hs.mono (fun _ h=>h.elim),rfl,(h.step0 hs).mono (Nat.le_add_right _ _) (Nat.le_refl _)⟩
 | false =>
  obtain ⟨hnp,hsu⟩:=ha.on
  obtain ⟨rfl,hok, -⟩:=id ha
  obtain ⟨p1,p2,p3⟩:=Am.WC hsu hK hnp.kok (Nat.le_trans hok.ls.b hBC)
  obtain ⟨k1,k2, -⟩:=Aj.dA hok
  obtain ⟨k3,k4⟩:=Aj.ApA z.BN
  have kg:=Aj.Asn hok
  rw [hid,hn] at kg
  refine (Aow hg hR hx3 i hx hz hnp hK hC (hw _ (List.mem_of_getElem? hy)) (by show (Ua p.ls).length ≤ 4096;rw [AaL];exact hls.1) hi (by rw [p2];exact Ana hC kg k2)).mono ?_
  rintro e w' ⟨v,o',rfl,hs,rfl,hg'⟩
  rw [p2,Air hi hC kg k2] at hg'
  have:=hput w' o' _ z.BN.tick.1 false _ xs (K+6) B (by omega) (Nat.le_refl _) hg' (.mk p1 k1 p3) (by rw [k3,hid]) (by rw [k4,hn]) (hls.send hi kg k2)
  rw [WT hb] at this
  exact ⟨_,o',rfl,hs.mono (Ait hM hg.2.2.1 hx),rfl,this⟩
theorem AnO (hM:M0<R) (h:PAt w o R pg pn C K B p) (hK:K+600<65536) (hBC:B+B ≤ C) (hC:B+B ≤ 90000) (k:Nat) :
  Calls prog 16 #[.pointer (some ⟨pg,0,none⟩), .int .i64 (k:Int)] w (XL (EN M0) w o fun v w' o'=>v = .int .i64 (p.take k).2∧PAt w' o' R pg pn C (K+3) (B+B) (p.take k).1):=by
 obtain ⟨hls,hR⟩:=h.Aqy
 cases hk:p.ls[k]? with
 | none =>
  have hlen:p.ls.length ≤ k:=List.getElem?_eq_none_iff.1 hk
  obtain ⟨xs,zs,hg, -⟩:=id h
  refine (ArB hg (k:Int) (by unfold GN.may;rw [if_pos (by right;show ((Ua p.ls).length:Int) ≤ (k:Int);rw [AaL];omega)];decide)).mono ?_
  rintro e w' ⟨v,o',rfl,hs,rfl⟩
  unfold PG.take
  rw [hk]
  exact ⟨_,o',rfl,hs.mono (fun _ h=>h.elim),rfl,(h.step0 hs).mono (by omega) (by omega)⟩
 | some m =>
  obtain ⟨src,dst,m⟩:=m
  obtain ⟨e1,e2,e3,e4,e5⟩:=hls.2 _ (List.mem_of_getElem? hk)
  dsimp only at e1 e2 e3 e4 e5
  obtain ⟨y,b,hy,hb⟩:=h.look e2
  obtain ⟨xs,zs,x,z,hg,hx3,hyn,hx,hz,ha,hid,hn,hput⟩:=h.node hy hb
  have hkl:k<(Ua p.ls).length:=by rw [AaL];exact (List.getElem?_eq_some_iff.1 hk).1
  have hat:=Asm hk hkl
  have hpt:∀ (er:Int) (p':PG),(if p.cuts src dst=true then ((p,65):PG × Int) else
    match p.ys[dst]?,p.off[dst]? with
    | some y,some false=>({ p with ys:=p.ys.set dst (y.hear src m).1,ls:=AjN (p.ls.take k++p.ls.drop (k+1)) dst (y.hear src m).2 },0)
    | _,_=>({ p with ls:=p.ls.take k++p.ls.drop (k+1) },9))=(p',er)→p.take k=(p',er):=by
   intro er p' h
   unfold PG.take
   rw [hk];exact h
  rw [hy,hb] at hpt
  refine AoA hg hR (by show (Ua p.ls).length ≤ 4096;rw [AaL];exact hls.1) k hkl (by show GN.LOk p.ys.length (Ua p.ls)[k];rw [hat];exact ⟨e1,e2,e3⟩) (show EN M0 (R+2) by unfold EN;omega) ?_ ?_
  ·intro hc W oW st hnt st2
   have hc':p.cuts src dst=true:=by
    have:(⟨p.ys.length,Ua p.ls,p.cut⟩:GN).cuts (Ua p.ls)[k].src (Ua p.ls)[k].dst=true:=hc
    rw [hat] at this;exact this
   rw [hpt 65 p (by rw [if_pos hc'])]
   have hg':=hg.Anc hR hx3 st2 hnt
   have hp:=hput W oW z y b p.ls xs (K+3) (B+B) (by omega) (by omega) (by rw [WT hz];exact hg') (ha.mono (by omega) (by omega)) hid hn (hls.mono (by omega))
   rw [WT hy,WT hb] at hp
   exact ⟨rfl,hp⟩
  ·intro hc W oW bv b1 b2 st hnt hb1 hb2 hbv
   have hc':¬ p.cuts src dst=true:=by
    have:(⟨p.ys.length,Ua p.ls,p.cut⟩:GN).cuts (Ua p.ls)[k].src (Ua p.ls)[k].dst=false:=hc
    rw [hat] at this
    rw [show p.cuts src dst=false from this];decide
   have hg':=hg.Anc hR hx3 st hnt
   have hb2':At0 W oW b2 (.cells (Aaa (Ua p.ls)[k] bv).toArray 104):=hb2
   have AzV:Bytes W oW bv (Ua p.ls)[k].b:=hbv
   rw [hat] at hb2' AzV
   show Calls prog 43 #[_, .int .i64 ((Ua p.ls)[k].dst:Int),_] W _
   rw [hat]
   have hnx:=hg'.2.2.2.2 dst x z hx hz
   rw [show (⟨p.ys.length,Ua p.ls,p.cut⟩:GN).without k=_ from AiT _ _ _ _] at hg'
   cases b with
   | true =>
    refine (Acd hg'.1 dst hx 56 #[.pointer (some ⟨b1,0,none⟩), .pointer (some ⟨b2,0,none⟩)] _ Tryz.call56 (AmD hnx.1 hnx.2 ha.dead _ _) (fun e w' hq=>⟨_,hq.1⟩)).mono ?_
    rintro e w' ⟨rfl,rfl⟩
    rw [hpt 9 _ (by rw [if_neg hc'])]
    have hp:=hput W oW z y true _ xs (K+3) (B+B) (by omega) (by omega) (by rw [WT hz];exact hg') (ha.mono (by omega) (by omega)) hid hn (hls.without.mono (by omega))
    rw [WT hy,WT hb] at hp
    exact ⟨_,oW,rfl,Step.refl _ _ _,⟨_,rfl⟩,rfl,hp⟩
   | false =>
    obtain ⟨hnp,hsu⟩:=ha.on
    obtain ⟨rfl,hok, -⟩:=id ha
    obtain ⟨ba,bc,rfl⟩:=Aq AzV
    have hlb:=hok.ls.b
    have hpl:=Aje e4.n1
    obtain ⟨p1,p2,p3⟩:=Am.Xk hsu hK hnp.kok src m (by have:AP z.s.kept.lines ≤ B:=hlb;omega) (fun mine has hr q hq=>by
     have h2:=hok.ro
     rw [show z.BN.BB = .stands mine has from hr] at h2
     exact Nat.le_trans (h2.2.2.2 q hq).b (by omega))
    obtain ⟨k1,k2, -⟩:=Aj.dX hok (src:=src) e4 B e5
    obtain ⟨k3,k4⟩:=Aj.Arx z.BN src m
    have kg:=Aj.AsG hok (src:=src) (by rw [hn];exact e1) (by rw [hid];exact e3) e5
    rw [hid,hn] at kg
    have dr:Step Nobody W oW W.drew oW:=(Step.refl Nobody W oW).drew
    have hhe:=bC (m:=m) (hnx.2.step0 dr) hnp hK src (by have:z.n=p.ys.length:=hn;omega) (by have:z.id=dst:=hid;omega) (AzV.step dr id) (by show m.put.length ≤ 1000000;omega) (ET e4) (by have:AP m.ls ≤ B:=e5;omega)
    refine (Acd hg'.1 dst hx 56 #[.pointer (some ⟨b1,0,none⟩), .pointer (some ⟨b2,0,none⟩)] _ Tryz.call56 (AmF hg' hR hx3 dst hx hz hnp.sp.dead (by show (Ua _).length ≤ 4096;rw [AaL];exact hls.without.1) e2 hhe (by rw [p2];exact Ana hC kg k2) hb1 hb2') (fun e w' hq=>by obtain ⟨v, -,hv, -⟩:=hq;exact ⟨v,hv⟩)).mono ?_
    rintro e w' ⟨v,o',rfl,hs,rfl,hg2⟩
    rw [p2,Air e2 hC kg k2] at hg2
    rw [hpt 0 _ (by rw [if_neg hc'])]
    have hp:=hput w' o' _ (z.BN.hear src m).1 false _ xs (K+3) (B+B) (by omega) (by omega) hg2 (.mk p1 k1 p3) (by rw [k3,hid]) (by rw [k4,hn]) ((hls.without.mono (by omega)).send e2 kg k2)
    rw [WT hb] at hp
    exact ⟨_,o',rfl,hs.mono (Ait hM hg.2.2.1 hx),⟨_,rfl⟩,rfl,hp⟩
theorem Ajl (hM:M0<R) (h:PAt w o R pg pn C K B p) (hK:K+600<65536) {bv:Value} {l:List UInt8} (hbv:Bytes w o bv l) (hBC:B+l.length ≤ C) (hC:B+l.length ≤ 90000) (i:Nat) (hi:i<p.ys.length) :
  Calls prog 12 #[.pointer (some ⟨pg,0,none⟩), .int .i64 (i:Int),bv] w (XL (EN M0) w o fun v w' o'=>v = .int .i64 (p.BL i l).2∧PAt w' o' R pg pn C (K+3) (B+l.length) (p.BL i l).1):=by
 obtain ⟨y,b,hy,hb⟩:=h.look hi
 obtain ⟨xs,zs,x,z,hg,hx3,hyn,hx,hz,ha,hid,hn,hput⟩:=h.node hy hb
 obtain ⟨hls,hR⟩:=h.Aqy
 obtain ⟨h1,h2⟩:=hg.2.2.2.2 i x z hx hz
 unfold PG.BL
 rw [hy,hb]
 obtain ⟨ba,bc,rfl⟩:=Aq hbv
 cases b with
 | true =>
  refine (AeX (er:=9) (z':=z) hg hR hx3 i hx hz fun W oW st=>(dJ (h2.step0 st) ha.dead ba l.length bc).mono ?_).mono ?_
  ·rintro e w' ⟨rfl,rfl⟩
   exact ⟨_,oW,rfl,Step.refl _ _ _,rfl,h2.step0 st⟩
  ·rintro e w' ⟨v,o',rfl,hs,rfl,hg'⟩
   have hp:=hput w' o' z y true p.ls xs (K+3) (B+l.length) (by omega) (by omega) hg' (ha.mono (by omega) (by omega)) hid hn (hls.mono (by omega))
   rw [WT hy,WT hb] at hp
   exact ⟨_,o',rfl,hs.mono (AcR hM hg.2.2.1 hx),rfl,hp⟩
 | false =>
  obtain ⟨hnp,hsu⟩:=ha.on
  obtain ⟨rfl,hok, -⟩:=id ha
  have hlb:AP z.s.kept.lines ≤ B:=hok.ls.b
  obtain ⟨p1,p2,p3⟩:=Am.QL hsu hK hnp.kok l (by omega)
  obtain ⟨k1, -⟩:=Aj.AiK hok l
  obtain ⟨k3,k4⟩:=Aj.AjV z.BN l
  refine (AeX hg hR hx3 i hx hz fun W oW st=>UW (h2.step0 st) hnp hK (hbv.step st id) hC).mono ?_
  rintro e w' ⟨v,o',rfl,hs,rfl,hg'⟩
  have hp:=hput w' o' _ (z.BN.BL l).1 false p.ls xs (K+3) (B+l.length) (by omega) (by omega) hg' (.mk p1 k1 p3) (by rw [k3,hid]) (by rw [k4,hn]) (hls.mono (by omega))
  rw [WT hb] at hp
  exact ⟨_,o',rfl,hs.mono (AcR hM hg.2.2.1 hx),by rw [p2],hp⟩
theorem Aof (hM:M0<R) (h:PAt w o R pg pn C K B p) (i:Nat) (hi:i<p.ys.length) :
  Calls prog 13 #[.pointer (some ⟨pg,0,none⟩), .int .i64 (i:Int)] w (XL (EN M0) w o fun v w' o'=>v = .int .i64 0∧PAt w' o' R pg pn C K B (p.kill i)):=by
 obtain ⟨y,b,hy,hb⟩:=h.look hi
 obtain ⟨xs,zs,x,z,hg,hx3,hyn,hx,hz,ha,hid,hn,hput⟩:=h.node hy hb
 obtain ⟨hls,hR⟩:=h.Aqy
 refine (AoD hg hR hx3 i hx hz).mono ?_
 rintro e w' ⟨v,o',rfl,hs,rfl,hg'⟩
 have hp:=hput w' o' _ y true p.ls xs K B (Nat.le_refl _) (Nat.le_refl _) hg' ha.kill hid hn hls
 rw [WT hy] at hp
 exact ⟨_,o',rfl,hs.mono (AcR hM hg.2.2.1 hx),rfl,hp⟩
theorem Asy (R:Nat) (xs:List xI):∃ Mx,R+20 ≤ Mx∧∀ y ∈ xs,y.M+4 ≤ Mx:=by
 induction xs with
 | nil=>exact ⟨R+20,Nat.le_refl _,by simp⟩
 | cons a l ih =>
  obtain ⟨m,h1,h2⟩:=ih
  refine ⟨max m (a.M+4),by omega,fun y hy => ?_⟩
  rcases List.mem_cons.1 hy with rfl | hy
  ·omega
  ·have:=h2 y hy;omega
theorem AkZ (hM:M0<R) (h:PAt w o R pg pn C K B p) (hK:K<65536) (i:Nat) (hi:i<p.ys.length) (c:Nat) :
  Calls prog 17 #[.pointer (some ⟨pg,0,none⟩), .int .i64 (i:Int), .slice none 0 c] w (XL (EN M0) w o fun v w' o'=>v = .int .i64 0∧PAt w' o' R pg pn C K B (p.start i)):=by
 obtain ⟨y,b,hy,hb⟩:=h.look hi
 obtain ⟨xs,zs,x,z,hg,hx3,hyn,hx,hz,ha,hid,hn,hput⟩:=h.node hy hb
 obtain ⟨hls,hR⟩:=h.Aqy
 obtain ⟨rfl,hok,t,hsu,hzs⟩:=id ha
 have hsg:=hsu.sp.sg
 have htop:=hsu.top
 have hlen:=hsg.len
 have hzd:z.s.d.BJ []={ t.d with left := -1 }:=by
  rw [hzs]
  cases b with
  | true=>exact jL hsg.dd hsg.row []
  | false=>exact Ags hsg.dd hsg.row []
 have hrow:z.s.d.row.length ≤ 1000000:=by
  rw [hzs]
  cases b with
  | true=>show t.d.row.length ≤ 1000000;rw [hsg.row];simp
  | false=>show t.d.row.length ≤ 1000000;rw [hsg.row];simp
 have hkept:z.BN.k=t.kept:=by
  show z.s.kept=t.kept
  rw [hzs]
  cases b <;> rfl
 have hxz:xs.length=zs.length:=hg.2.2.2.1
 obtain ⟨Mx,hMx⟩:=Asy R xs
 refine (AmH (Mx:=Mx) (t:={ t with d:={ t.d with left := -1 } }) hg hR hx3 i hx hz hMx (fs:=[]) (.inl ⟨⟨_,_,rfl⟩,rfl,rfl⟩) (by simp) hrow hzd (hsg.jH (-1) (by omega)) hK (by show t.d.pages.length ≤ 400;omega)).mono ?_
 rintro e w' ⟨v,o',rfl,hs,rfl,x',hg'⟩
 have hok0:=hok.toN0
 have hp:=hput w' o' _ (Aj.new i p.ys.length z.BN.k) false p.ls _ K B (Nat.le_refl _) (Nat.le_refl _) hg' (.mk (by rw [hkept, ←hyn, ←hxz];rfl) (Aj.TB (by omega) (by omega) hi hok0.ls hok0.cp hok0.pt) ⟨⟨hsg.jH (-1) (by omega)⟩,by show (-1:Int)<0;omega,hsu.room,hsu.top⟩) rfl rfl hls
 unfold PG.start
 rw [hy]
 exact ⟨_,o',rfl,hs.mono (Aju hM hg.2.2.1 hx hMx.1),rfl,hp⟩
end
section
variable {w w':World} {o o':Own} {R pg pn C K B M0:Nat} {p:PG}
theorem PG.fF (n i:Nat) (h:i<n):(PG.new n).ys[i]?=some (Aj.new i n ⟨0,0,[]⟩)∧(PG.new n).off[i]?=some false:=by
 unfold PG.new
 refine ⟨?_, ?_⟩
 ·show ((List.range n).map _)[i]?=_
  rw [List.getElem?_map,List.getElem?_range h];rfl
 ·show (List.replicate n false)[i]?=_
  rw [List.getElem?_replicate,if_pos h]
theorem ApO (hM:M0<R) (n pages:Nat) (hn1:1 ≤ n) (hn3:n ≤ 3) (hp:8 ≤ pages) (hp4:pages ≤ 399) (hC:C+4200 ≤ 480*(pages / 2 - 1)) (w:World) (o:Own) :
  Calls prog 9 #[.int .i64 (n:Int), .int .i64 (pages:Int)] w (XL (EN M0) w o fun v w' o'=>∃ pg pn,v = .tuple #[.pointer (some ⟨pg,0,none⟩), .int .i64 0]∧PAt w' o' R pg pn C 0 0 (PG.new n)):=by
 refine (Aky hM n pages hn1 hn3 hp (by omega) w o).mono ?_
 rintro e w' ⟨v,o',rfl,hs,pg,pn,xs,rfl,hg,hx⟩
 have hl:(PG.new n).ys.length=n:=by simp [PG.new]
 refine ⟨_,o',rfl,hs,pg,pn,rfl,xs,_,by rw [hl];exact hg,by rw [hl,AeN],by rw [hl];simp [PG.new],by rw [hl];exact hn3,by omega,⟨by simp [PG.new],by simp [PG.new]⟩,fun i z y b hz hy hb => ?_⟩
 have hi:i<n:=by
  have:=(List.getElem?_eq_some_iff.1 hz).1
  rw [AeN] at this;exact this
 obtain ⟨e1,e2⟩:=PG.fF n i hi
 rw [e1] at hy
 rw [e2] at hb
 cases hy;cases hb
 unfold Ahz at hz
 rw [List.getElem?_map,List.getElem?_range hi] at hz
 cases hz
 exact ⟨rfl,hl.symm, .mk rfl (Aj.TB hn1 hn3 hi (.nil _) (Nat.le_refl _) (by decide)) ⟨.new hp (by omega),by show (-1:Int)<0;omega,hC,by show pages / 2 ≤ 199;omega⟩⟩
theorem Agv (h:PAt w o R pg pn C K B p) {i:Nat} {y:Aj} {b:Bool} (hy:p.ys[i]?=some y) (hb:y.OD=b) :
  Calls prog 11 #[.pointer (some ⟨pg,0,none⟩), .int .i64 (i:Int)] w fun e w'=>e = .returned (.bool b)∧w=w':=by
 obtain ⟨y',f,hy',hf⟩:=h.look (List.getElem?_eq_some_iff.1 hy).1
 rw [hy] at hy';cases hy'
 obtain ⟨xs,zs,x,z,hg,hx3,hyn,hx,hz,⟨rfl, -⟩,hid,hn,hput⟩:=h.node hy hf
 exact AmN hg i hx hz hb
theorem Aoh (h:PAt w o R pg pn C K B p) {i:Nat} {b:Bool} (hi:i<p.ys.length) (hb:p.off[i]?=some b) :
  Calls prog 28 #[.pointer (some ⟨pg,0,none⟩), .int .i64 (i:Int)] w fun e w'=>e = .returned (.bool b)∧w=w':=by
 obtain ⟨y,f,hy,hf⟩:=h.look hi
 rw [hb] at hf;cases hf
 obtain ⟨xs,zs,x,z,hg,hx3,hyn,hx,hz,ha,hid,hn,hput⟩:=h.node hy hb
 exact Apg hg i hx hz ha.dead
theorem PAt.step3 (h:PAt w o R pg pn C K B p) (s:Step (Only (R+3)) w o w' o'):PAt w' o' R pg pn C K B p:=by
 obtain ⟨xs,zs,h1,h2,h3,h4,hR,h5,h6⟩:=h
 exact ⟨xs,zs,h1.step3 s hR (by have:=h1.2.2.2.1;omega),h2,h3,h4,hR,h5,h6⟩
theorem Aiq (hM:M0<R) (h:PAt w o R pg pn C K B p) (hC:B ≤ 90000) {i:Nat} {y:Aj} (hy:p.ys[i]?=some y) :
  Calls prog 18 #[.pointer (some ⟨pg,0,none⟩), .int .i64 (i:Int)] w (XL (EN M0) w o fun v w' o'=>(∃ lv base,v=Dy y.k.promised y.k.current lv∧Lines w' o' base lv y.k.lines)∧PAt w' o' R pg pn C K B p):=by
 obtain ⟨y',f,hy',hf⟩:=h.look (List.getElem?_eq_some_iff.1 hy).1
 rw [hy] at hy';cases hy'
 obtain ⟨xs,zs,x,z,hg,hx3,hyn,hx,hz,⟨rfl,hok, -⟩,hid,hn,hput⟩:=h.node hy hf
 refine (AoT hg i hx hz (En.small hok.ls (by omega))).mono ?_
 rintro e w' ⟨v,o',rfl,hs,hq⟩
 exact ⟨_,o',rfl,hs.mono fun k (hk:k=R+3)=>by show M0<k;omega,hq,h.step3 hs⟩
end
def wkT:Nat→PG
 | 0=>PG.new 3
 | k+1=>((wkT k).tick 0).1
def wkK:Nat→PG
 | 0=>wkT 4
 | k+1=>((wkK k).take 0).1
theorem Ase:∀ k,k<4→((wkT k).tick 0).2=0:=by decide +kernel
theorem Asi:∀ k,k ≤ 4→(wkT k).fits 20=true∧(wkT k).ys.length=3∧∀ y ∈ (wkT k).ys,y.waited ≤ 1000000:=by decide +kernel
theorem AmZ:∀ k,k ≤ 8→(wkK k).fits 20=true∧(wkK k).ys.length=3:=by decide +kernel
def wkP:PG:=((wkK 8).BL 0 [97]).1
theorem Asf:((wkK 8).BL 0 [97]).2=0:=by decide +kernel
theorem Asg:((wkK 8).ys[0]?).map Aj.OD=some true:=by decide +kernel
theorem AmY:(wkP.ys[0]?).map (fun y=>y.k.lines.length)=some 1∧wkP.ys.length=3:=by decide +kernel
theorem Asj:(wkP.kill 0).off[0]?=some true:=by decide +kernel
theorem AjL:(((wkP.kill 0).start 0).ys[0]?).map Aj.OD=some false∧(((wkP.kill 0).start 0).ys[0]?).map (fun y=>y.k.lines.length)=some 1:=by decide +kernel
theorem Agp {α β:Type} {f:α→β} {x:Option α} {b:β} (h:x.map f=some b):∃ a,x=some a∧f a=b:=by
 cases x with
 | none=>simp at h
 | some a=>exact ⟨a,rfl,by simpa using h⟩
theorem Lines.Awo {w:World} {o:Own} {base:Nat} {v:Value} {ls:List Ar} (h:Lines w o base v ls) {n:Nat} (hn:ls.length=n):∃ a c,v = .slice a n c:=by
 subst hn;exact h.form
theorem AeB (w:World) (o:Own):Calls prog 20 #[] w (XL Nobody w o fun v _ _=>v = .bool true):=by
 obtain ⟨M, -,hM⟩:=EZ o 0 w.heap.size
 have hMR:M<M+1:=Nat.lt_succ_self _
 have hMH:=hidden hM
 have hc:=hidden (ApO (C:=19000) hMR 3 100 (by omega) (by omega) (by omega) (by omega) (by omega) w o)
 have e0:((0:Nat):Int)=0:=rfl
 have e0H:=hidden e0
 clear hM e0
 go_enter func20,ntmps20
 go_wp2_with fail
 refine hc.out.mono ?_;rintro e W1 ⟨v,o1,rfl,hs,pg,pn,rfl,hp⟩
 have hF:=hidden (aI hs (hp.mono (K':=6*0) (B':=20) (Nat.zero_le _) (Nat.zero_le _)))
 clear hc hs hp
 go_wp2_with fail
 go_loopw [3] (fun i wr=>∃ (k:Nat) (oj:Own),k ≤ 4∧i = .int .i64 k∧Hid (Step (EN M) w o wr oj∧PAt wr oj (M+1) pg pn 19000 (6*k) 20 (wkT k))) (fun i _=>4 - (intOf i).toNat)
 case atStart=>exact ⟨0,o1,Nat.zero_le _,rfl,hF⟩
 case round =>
  clear hF
  obtain ⟨k,oj,hk,rfl,hr⟩:=hrel
  by_cases hlt:k<4
  ·obtain ⟨hst,hp⟩:=hr.out
   obtain ⟨f1,f2,f3⟩:=Asi k (by omega)
   have hc:=AnJ hMR hp (by omega) (by omega) (by omega) 0 (by rw [f2];omega) f3
   rw [e0H.out,Ase k hlt] at hc
   have WV:=hidden hc
   have Abe:=hidden hst
   have AbY:(0:Int) ≤ (k:Int)∧(k:Int)<4:=by omega
   clear hst hp f1 f2 f3 hc hr
   go_wp2_with fail
   refine WV.out.mono ?_;rintro e V ⟨v,o2,rfl,hs,rfl,hp⟩
   have hF:=hidden (aI (Abe.out.trans hs) (hp.mono (K':=6*(k+1)) (B':=20) (by omega) (Nat.le_refl _)))
   have hF':Hid (Step (EN M) w o V o2∧PAt V o2 (M+1) pg pn 19000 (6*(k+1)) 20 (wkT (k+1))):=hF
   clear hs hp hF WV Abe
   go_wp2_with fail
   go_roundw
   case rel=>exact ⟨k+1,o2,by omega,by go_num,hF'⟩
   case measure=>simp [intOf];omega
  ·obtain rfl:k=4:=by omega
   have hr':Hid (Step (EN M) w o wr oj∧PAt wr oj (M+1) pg pn 19000 (24+3*0) 20 (wkK 0)):=hr
   clear hr hlt hk
   rw [show ((4:Nat):Int)=4 from rfl]
   go_wp2_with fail
   go_loopw [4] (fun i wr=>∃ (k:Nat) (oj:Own),k ≤ 8∧i = .int .i64 k∧Hid (Step (EN M) w o wr oj∧PAt wr oj (M+1) pg pn 19000 (24+3*k) 20 (wkK k))) (fun i _=>8 - (intOf i).toNat)
   case atStart=>exact ⟨0,oj,Nat.zero_le _,rfl,hr'⟩
   case round =>
    clear hr'
    obtain ⟨k,ok,hk,rfl,hr⟩:=hrel
    by_cases hlt:k<8
    ·obtain ⟨hst,hp⟩:=hr.out
     have hc:=AnO hMR hp (by omega) (by omega) (by omega) 0
     rw [e0H.out] at hc
     have WV:=hidden hc
     have Abe:=hidden hst
     have AbY:(0:Int) ≤ (k:Int)∧(k:Int)<8:=by omega
     clear hst hp hc hr
     go_wp2_with fail
     refine WV.out.mono ?_;rintro e V ⟨v,o2,rfl,hs,rfl,hp⟩
     have hF:Hid (Step (EN M) w o V o2∧PAt V o2 (M+1) pg pn 19000 (24+3*(k+1)) 20 (wkK (k+1))):=hidden (aI (Abe.out.trans hs) ((hp.mono (K':=24+3*(k+1)) (by omega) (Nat.le_refl _)).lower (AmZ (k+1) (by omega)).1))
     clear hs hp WV Abe
     go_wp2_with fail
     go_roundw
     case rel=>exact ⟨k+1,o2,by omega,by go_num,hF⟩
     case measure=>simp [intOf];omega
    ·obtain rfl:k=8:=by omega
     obtain ⟨hst,hp⟩:=hr.out
     obtain ⟨y,hy,hl⟩:=Agp Asg
     have hc:=Agv hp hy hl
     rw [e0H.out] at hc
     have WV:=hidden hc
     have hG:=hidden (aI hst hp)
     clear hst hp hc hr hlt hk hy hl
     rw [show ((8:Nat):Int)=8 from rfl]
     go_wp2_with fail
     refine WV.out.mono ?_;rintro e W2 ⟨rfl,rfl⟩
     obtain ⟨W2,hW2⟩:∃ W,wr=W:=⟨_,rfl⟩
     subst hW2
     obtain ⟨hst,hp⟩:=hG.out
     have hcv:(convert 29 29 (.slice (some ⟨wr.heap.size,0,none⟩) 1 1)).run prog (wr.alloc (.cells #[.int .u8 97] 5)) = .ok (.slice (some ⟨wr.heap.size,0,none⟩) 1 1) (wr.alloc (.cells #[.int .u8 97] 5 (1,2))):=GU wr [.int .u8 97] 1 1
     have hb:Bytes (wr.alloc (.cells (bvs [97]).toArray 5 (1,2))) (Ak ok wr.heap.size (0,0)) (.slice (some ⟨wr.heap.size,0,none⟩) 1 1) [97] := .inr ⟨wr.heap.size,0,1,rfl,by decide,by decide,by rw [Au],by simp,AV (heap_alloc_new wr _)⟩
     have s:=(Step.refl Nobody wr ok).alloc (.cells (bvs [97]).toArray 5 (1,2)) (0,0)
     have AqP:(wr.alloc (.cells #[.int .u8 97] 5 (1,2)))=wr.alloc (.cells (bvs [97]).toArray 5 (1,2)):=rfl
     obtain ⟨V,hV⟩:∃ V,wr.alloc (.cells (bvs [97]).toArray 5 (1,2))=V:=⟨_,rfl⟩
     obtain ⟨oV,hoV⟩:∃ O,Ak ok wr.heap.size (0,0)=O:=⟨_,rfl⟩
     rw [hV] at hb s AqP
     rw [hoV] at hb s
     rw [AqP] at hcv
     have hc:=Ajl hMR (hp.step0 s) (by omega) hb (by simp) (by simp) 0 (by rw [(AmZ 8 (by omega)).2];omega)
     rw [e0H.out,Asf] at hc
     have hc2:=hidden hc
     have hst2:=hidden (hst.trans (s.mono (T':=EN M) fun _ h=>h.elim))
     clear hst hp hb s AqP hV hoV hc WV hG
     go_wp2_with fail
     refine hc2.out.mono ?_;rintro e W3 ⟨v,o3,rfl,hs,rfl,hp⟩
     have hp3:PAt W3 o3 (M+1) pg pn 19000 60 30 wkP:=hp.mono (by omega) (by simp)
     obtain ⟨⟨y3,hy3,hl3⟩,hlen⟩:=aI (Agp AmY.1) AmY.2
     have hc:=Aiq hMR hp3 (by omega) hy3
     rw [e0H.out] at hc
     have WV:=hidden hc
     have Abe:=hidden (hst2.out.trans hs)
     have hf2:=He
     clear hp hp3 hs hc hc2 hst2
     go_wp2_with fail
     refine WV.out.mono ?_;rintro e W4 ⟨v,o4,rfl,hs,⟨lv,base,rfl,hln⟩,hp⟩
     obtain ⟨la,lc,rfl⟩:=hln.Awo hl3
     have hc:=Aof hMR hp 0 (by rw [hlen];omega)
     rw [e0H.out] at hc
     have hc2:=hidden hc
     have hst2:=hidden (Abe.out.trans hs)
     clear hp hs hc WV Abe hln
     unfold Dy
     go_wp2_with fail
     refine hc2.out.mono ?_;rintro e W5 ⟨v,o5,rfl,hs,rfl,hp⟩
     have hlen5:(wkP.kill 0).ys.length=3:=hlen
     have hc:=Aoh hp (i:=0) (by rw [hlen5];omega) Asj
     rw [e0H.out] at hc
     have WV:=hidden hc
     have hG:=hidden (aI (hst2.out.trans hs) hp)
     clear hp hs hc hc2 hst2
     go_wp2_with fail
     refine WV.out.mono ?_;rintro e W6 ⟨rfl,rfl⟩
     obtain ⟨hst,hp⟩:=hG.out
     have hc:=AkZ hMR hp (by omega) 0 (by rw [hlen5];omega) 0
     rw [e0H.out] at hc
     have hc2:=hidden hc
     have hst2:=hidden hst
     clear hp hst hc hG WV
     go_wp2_with fail
     refine hc2.out.mono ?_;rintro e W7 ⟨v,o7,rfl,hs,rfl,hp⟩
     obtain ⟨y7,hy7,wY⟩:=Agp AjL.1
     obtain ⟨y8,hy8,hl8⟩:=Agp AjL.2
     have hc:=Agv hp hy7 wY
     rw [e0H.out] at hc
     have WV:=hidden hc
     have hG:=hidden (aI (hst2.out.trans hs) hp)
     clear hp hs hc hc2 hst2
     go_wp2_with fail
     refine WV.out.mono ?_;rintro e W8 ⟨rfl,rfl⟩
     obtain ⟨hst,hp⟩:=hG.out
     have hc:=Aiq hMR hp (by omega) hy8
     rw [e0H.out] at hc
     have hc2:=hidden hc
     have hst2:=hidden hst
     clear hp hst hc hG WV
     go_wp2_with fail
     refine hc2.out.mono ?_;rintro e W9 ⟨v,o9,rfl,hs,⟨lv,base,rfl,hln⟩,hp⟩
     obtain ⟨la,lc,rfl⟩:=hln.Awo hl8
     have wL:=hidden (hst2.out.trans hs)
     clear hp hs hc2 hst2 hln
     unfold Dy
     go_wp2_with fail
     go_ret
     exact ⟨_,_,rfl,wL.out.Hm hMH.out,rfl⟩
theorem MI:ownKnob prog.godebug=none:=by kernel_rfl
theorem Jl:laidOutB prog=true:=by kernel_rfl
section
variable {H:Type} {enc:TypeId × Value→H} {W:World}
theorem bytes_of_nums:∀ (l:List Int),(∀ a ∈ l,(Lit.int .u8 a).wf=true)→l.map (Value.int .u8)=bvs (l.map fun a=>UInt8.ofNat a.toNat)
 | [],_=>rfl
 | a :: r,h=>by
  have h1:=Go.bounds_u8 (h a (by simp))
  have ih:=bytes_of_nums r (fun x hx=>h x (List.mem_cons_of_mem _ hx))
  rw [List.map_cons,ih]
  have:Value.int .u8 a=bv (UInt8.ofNat a.toNat):=by
   unfold bv
   rw [UInt8.toNat_ofNat']
   congr 1;omega
  rw [this];rfl
theorem JR {fuel:Nat} {v:Value} {x:DataW H × List MemPlace} (h:DataW.trod enc prog W 0 (fun _=>true) true fuel 29 [v]=some x):∃ l:List UInt8,Bytes W (fun _=>(0,0)) v l:=by
 obtain ⟨l,h1,h2⟩:=YA underlying29 underlying5 (by kernel_rfl) h
 refine ⟨l.map fun a=>UInt8.ofNat a.toNat, ?_⟩
 unfold Bytes
 rw [List.length_map, ←bytes_of_nums l h2]
 exact h1
end

end Go.Proofs.YtffkdillijmamaaGreat
