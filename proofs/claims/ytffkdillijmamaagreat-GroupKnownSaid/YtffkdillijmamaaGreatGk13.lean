/- Contracts of the net: Drop, Hold, Double, Take. -/
import Derived.Outline
import Derived.Test.YtffkdillijmamaaGreatGk12
namespace Go.Proofs.YtffkdillijmamaaGreat
open Go.Proofs.Tryz
set_option maxRecDepth 100000
set_option maxHeartbeats 6400000
open Go Go.RowKit
attribute [local go_sem ↓] Go.wp_at_zero Go.wp_at_succ
namespace GN
def drop (g:GN) (k:Int):GN × Int:=if g.may k=0 then (g.without k.toNat,0) else (g,1)
def hold (g:GN) (k:Int):GN × Int:=if g.may k=0 then ({ g with l:=(g.without k.toNat).l++(g.l[k.toNat]?).toList },0) else (g,1)
def double (g:GN) (k:Int):GN × Int:=if g.may k=0 then (if 4096<=g.l.length then (g,4) else ({ g with l:=g.l++(g.l[k.toNat]?).toList },0)) else (g,1)
theorem Adm {g:GN} {k:Int} (h:g.may k=0):∃ n:Nat,k=n/\n<g.l.length:=by
 unfold may at h;split at h
 ·cases h
 ·exact ⟨k.toNat,by omega,by omega⟩
theorem Asx {g:GN} {k:Int} (h:¬ g.may k=0):g.may k=1:=by
 unfold may at h ⊢;split
 ·rfl
 ·rename_i h2;exact absurd (if_neg h2) h
end GN
section
variable {w:World} {o:Own} {N p:Nat} {g:GN}
theorem AjK (h:KL w o N p g) (hN:N ≠ 0) (hl:g.l.length<=99000) (k:Int):Calls prog 78 #[.pointer (some ⟨p,0,none⟩), .int .i64 k] w (XL (ak N) w o fun r w' o'=>r = .int .i64 (g.drop k).2/\KL w' o' N p (g.drop k).1):=by
 have hm:=Akh h k;unfold GN.drop
 by_cases hk:g.may k=0
 ·rw [if_pos hk];rw [hk] at hm;obtain ⟨n,rfl,hn⟩:=GN.Adm hk;have hmH:=ae hm;have ho:=ae (Aqh h hN hl n hn);clear hm hk h;rw [Int.toNat_natCast];go_enter func78,ntmps78;go_wp2_with fail;refine hmH.out.mono ?_;rintro e W1 ⟨rfl,rfl⟩;go_wp2_with fail;refine ho.out.mono ?_;rintro e W2 ⟨v2,o2,rfl,hs2,bv,rfl, -,hn2⟩;have hF:=ae (aI hs2 hn2);clear hs2 hn2;go_wp2_with fail;go_ret;exact ⟨_,o2,rfl,hF.out.1,rfl,hF.out.2⟩
 ·rw [if_neg hk];rw [GN.Asx hk] at hm;have hmH:=ae hm;have hH:=ae h;clear hm hk h;go_enter func78,ntmps78;go_wp2_with fail;refine hmH.out.mono ?_;rintro e W1 ⟨rfl,rfl⟩;go_wp2_with fail;go_ret;exact ⟨_,o,rfl,aj.refl _ _ _,rfl,hH.out⟩
theorem AjJ (h:KL w o N p g) (hN:N ≠ 0) (hl:g.l.length<=98000) (k:Int):Calls prog 82 #[.pointer (some ⟨p,0,none⟩), .int .i64 k] w (XL (ak N) w o fun r w' o'=>r = .int .i64 (g.hold k).2/\KL w' o' N p (g.hold k).1):=by
 have hm:=Akh h k;obtain ⟨R,hR⟩:∃ R,g.hold k=R:=⟨_,rfl⟩;rw [hR];unfold GN.hold at hR
 by_cases hk:g.may k=0
 ·rw [if_pos hk] at hR;rw [hk] at hm;obtain ⟨n,rfl,hn⟩:=GN.Adm hk;have hmH:=ae hm;have ho:=ae (Aqh h hN (by omega) n hn);rw [Int.toNat_natCast,List.getElem?_eq_getElem hn] at hR;have hll:(g.without n).l.length=g.l.length - 1:=by unfold GN.without;simp;omega
  obtain ⟨x,hx⟩:∃ x,g.l[n]=x:=⟨_,rfl⟩;rw [hx] at ho hR;obtain ⟨g2,hg2⟩:∃ g2,g.without n=g2:=⟨_,rfl⟩;rw [hg2] at ho hR hll;have hgn:g2.n=g.n/\g2.cut=g.cut:=by rw [<-hg2];exact ⟨rfl,rfl⟩
  have KI:=ae (aI hR hgn);have AbB:=ae hll;obtain ⟨s,d,b⟩:=x;clear hm hk h hR hx hg2 hgn hll;go_enter func82,ntmps82;go_wp2_with fail;refine hmH.out.mono ?_;rintro e W1 ⟨rfl,rfl⟩;go_wp2_with fail;refine ho.out.mono ?_;rintro e W2 ⟨v2,o2,rfl,hs2,bv,rfl,hb2,hn2⟩;obtain ⟨ba,bc,rfl⟩:=Aq hb2;unfold Aaa;obtain ⟨W3,o3,hW3,⟨hs3, -⟩,hb3⟩:=AaC W2 o2 (.cells #[.int .i64 0, .int .i64 (s:Int), .int .i64 0, .int .i64 (d:Int), .slice ba b.length bc] 104);have dr:aj ai W3 o3 W3.drew o3:=(aj.refl ai W3 o3).drew;have hK:=ae (aI ((hn2.step hs3 id id).step dr id id) (aI (hs2.trans ((hs3.trans dr).mono fun _ h=>h.elim)) (aI (hb3.step dr id) ((hb2.step hs3 id).step dr id))));obtain ⟨sv,lv,mb,cs,e1,e2,e3,e4, -⟩:=hK.out.1;obtain ⟨la,lc,rfl⟩:=e4.form;have Bai:=ae hW3;clear hs2 hb2 hn2 hs3 hb3 hW3;go_wp2_with fail;rw [Bai.out];have hSf:=ae (fun (U:World) (q:Own) (s':aj ai W3.drew o3 U q)=>(show U.cell? ⟨p,1,none⟩=some (.slice la g2.l.length lc)/\U.cell? ⟨W2.heap.size,0,none⟩=some (.int .i64 0)/\U.cell? ⟨W2.heap.size,1,none⟩=some (.int .i64 (s:Int))/\U.cell? ⟨W2.heap.size,2,none⟩=some (.int .i64 0)/\U.cell? ⟨W2.heap.size,3,none⟩=some (.int .i64 (d:Int))/\U.cell? ⟨W2.heap.size,4,none⟩=some (.slice ba b.length bc) from
   ⟨ag ((s'.block p (au e1) id).trans e1) 1,(hK.out.2.2.1.step s' id).cell 0,(hK.out.2.2.1.step s' id).cell 1,(hK.out.2.2.1.step s' id).cell 2,(hK.out.2.2.1.step s' id).cell 3,(hK.out.2.2.1.step s' id).cell 4⟩))
  have hS:=hSf.out W3.drew o3 (aj.refl _ _ _);clear e1 e2 e3 e4 dr;refine Aa (fun w'=>w'.cell? ⟨p,1,none⟩=some (.slice la g2.l.length lc)/\w'.cell? ⟨W2.heap.size,0,none⟩=some (.int .i64 0)/\w'.cell? ⟨W2.heap.size,1,none⟩=some (.int .i64 (s:Int))/\w'.cell? ⟨W2.heap.size,2,none⟩=some (.int .i64 0)/\w'.cell? ⟨W2.heap.size,3,none⟩=some (.int .i64 (d:Int))/\w'.cell? ⟨W2.heap.size,4,none⟩=some (.slice ba b.length bc)) (fun i=>decide (i<8)) (by kernel_rfl) hS (fun hHeld => ?_);refine tq 0 (h:=tq 1 (h:=tq 2 (h:=tq 3 (h:=tq 4 (h:=tq 5 (h:=tO 6 (h:=?_)))))));obtain ⟨W4,o4,hW4,⟨pX, -⟩,hb4⟩:=AaC W3.drew o3 (.cells #[.int .i64 0, .int .i64 (s:Int), .int .i64 0, .int .i64 (d:Int), .slice ba b.length bc] 104);have hS4:=hSf.out W4 o4 pX;obtain ⟨la',lc',gr,cap,V,oV,q1,hrun,q2,q3,hs0,hsV,hnV⟩:=(hK.out.1.step pX id id).push hN (by rw [AbB.out];omega) (x:=⟨s,d,b⟩) (hK.out.2.2.2.step pX id) rfl hb4;have q4:=hS4.1.symm.trans q1;simp only [Option.some.injEq,Value.slice.injEq] at q4;obtain ⟨rfl, -,rfl⟩:=q4;have hNo:¬ ak N 0:=fun e=>hN e.symm;have hbV:=(hK.out.2.2.1.step pX id).step hs0 hNo;have hS8:=aI q2 (aI (hbV.cell 0) (aI (hbV.cell 1) (aI (hbV.cell 2) (aI (hbV.cell 3) (hbV.cell 4)))));simp only [ay,ax] at hS8;have hX:=ae (aI (hK.out.2.1.trans (pX.mono fun _ h=>h.elim)) (aI hsV hnV));have hbs:=Api W3.drew (.int .i64 0) (.int .i64 (s:Int)) (.int .i64 0) (.int .i64 (d:Int)) ba b.length bc;rw [hW4] at hbs;have AaP:=ae hbs;have Aax:=ae hrun;clear hb4 pX q1 hs0 hNo hbV hsV hnV hbs hW4 hrun hHeld
  go_wp2_with ((with_reducible apply BO #[(0, .agg #[.int .i64 0, .int .i64 (s:Int), .int .i64 0, .int .i64 (d:Int), .slice ba b.length bc])] rfl);exact AaP.out;simp only [Act.put,GL,DL,lss])
  refine ⟨fun _=>hS4, ?_⟩;refine tO 7 (h:=?_)
  go_wp2_with ((with_reducible apply Bl);exact Aax.out;simp only [Act.put,GL,DL,lss])
  refine ⟨fun _=>hS8, ?_⟩;refine tO 8 (h:=?_);go_wp2_with fail;refine ⟨fun h=>by simp at h, ?_⟩;refine tO 9 (h:=?_);go_wp2_with fail;refine ⟨fun h=>by simp at h, ?_⟩;refine tO 10 (h:=?_);go_wp2_with fail;refine ⟨fun h=>by simp at h, ?_⟩;refine tD (h:=?_)
  go_wp2
  go_ret;obtain ⟨rfl,e5,e6⟩:=KI.out;refine ⟨_,oV,rfl,hX.out.1.trans hX.out.2.1,rfl, ?_⟩;have:=hX.out.2.2;rw [show ({ g2 with l:=g2.l++[⟨s,d,b⟩] }:GN)={ g with l:=g2.l++(some (⟨s,d,b⟩:Aci)).toList } by rw [<-e5, <-e6];rfl] at this;exact this
 ·rw [if_neg hk] at hR;rw [GN.Asx hk] at hm;have hmH:=ae hm;have hH:=ae (aI h hR);clear hm hk h hR;go_enter func82,ntmps82;go_wp2_with fail;refine hmH.out.mono ?_;rintro e W1 ⟨rfl,rfl⟩;go_wp2_with fail;go_ret;obtain ⟨h1,rfl⟩:=hH.out;exact ⟨_,o,rfl,aj.refl _ _ _,rfl,h1⟩
theorem AfP (h:KL w o N p g) (hN:N ≠ 0) (hl:g.l.length<=98000) (hbs:∀ x ∈ g.l,x.b.length<=4000000) (k:Int):Calls prog 80 #[.pointer (some ⟨p,0,none⟩), .int .i64 k] w (XL (ak N) w o fun r w' o'=>r = .int .i64 (g.double k).2/\KL w' o' N p (g.double k).1):=by
 have hm:=Akh h k;obtain ⟨R,hR⟩:∃ R,g.double k=R:=⟨_,rfl⟩;rw [hR];unfold GN.double at hR;have same:∀ er:Int,(g,er)=R->∀ w',w'=w->∃ o',aj (ak N) w o w' o'/\R.2=er/\KL w' o' N p R.1:=by
  rintro er rfl w' rfl;exact ⟨o,aj.refl _ _ _,rfl,h⟩
 have Amh:=ae same;clear same
 by_cases hk:g.may k=0
 ·rw [if_pos hk] at hR;rw [hk] at hm;obtain ⟨n,rfl,hn⟩:=GN.Adm hk;have hmH:=ae hm;obtain ⟨sv,la,lc,mb,c0,c1,c2,hf,hpl⟩:=h.cells;clear c0 c2 hf hpl sv mb;rw [Int.toNat_natCast,List.getElem?_eq_getElem hn] at hR
  by_cases hfull:4096<=g.l.length
  ·rw [if_pos hfull] at hR;have KI:=ae hR;clear hm hk h hR;go_enter func80,ntmps80;go_wp2_with fail;refine hmH.out.mono ?_;rintro e W1 ⟨rfl,rfl⟩;go_wp2_with fail;go_ret;obtain ⟨o',h1,h2,h3⟩:=Amh.out 4 KI.out _ rfl;exact ⟨_,o',rfl,h1,by rw [h2];rfl,h3⟩
  ·rw [if_neg hfull] at hR;have hxm:g.l[n] ∈ g.l:=List.getElem_mem hn;have hbl:=hbs _ hxm;obtain ⟨gb,lc2,bv,d1,hbv,hr,hgo,hgl⟩:=h.letter n hn;have q0:=c1.symm.trans d1;simp only [Option.some.injEq,Value.slice.injEq] at q0;obtain ⟨rfl, -,rfl⟩:=q0;obtain ⟨x,hx⟩:∃ x,g.l[n]=x:=⟨_,rfl⟩;rw [hx] at hbv hr hR hbl;obtain ⟨s,d,b⟩:=x;obtain ⟨ba,bc,rfl⟩:=Aq hbv;have l0:=hr 0 _ rfl;have l1:=hr 1 _ rfl;have l2:=hr 2 _ rfl;have l3:=hr 3 _ rfl;have l4:=hr 4 _ rfl;rw [Nat.add_zero] at l0;have dr:aj ai w o w.drew o:=(aj.refl ai w o).drew;have hnI:(n:Int)<(g.l.length:Int):=by omega
   obtain ⟨sv,lv,mb,cs,e1,e2, -⟩:=id h;have hpl:=au e1;have hK:=ae (h.step dr id id);have KI:=ae hR;have how:=ae (Aqc ⟨s,d,b⟩ (hbv.step dr id) hbl);have hnH:=ae hn;have hSf:=ae (fun (U:World) (q:Own) (s':aj ai w.drew o U q)=>(show U.cell? ⟨p,1,none⟩=some (.slice (some ⟨gb,0,none⟩) g.l.length lc)/\U.cell? ⟨gb,n*5,none⟩=some (.int .i64 0)/\U.cell? ⟨gb,n*5+1,none⟩=some (.int .i64 (s:Int))/\U.cell? ⟨gb,n*5+2,none⟩=some (.int .i64 0)/\U.cell? ⟨gb,n*5+3,none⟩=some (.int .i64 (d:Int))/\U.cell? ⟨gb,n*5+4,none⟩=some (.slice ba b.length bc) from
    ⟨(World.cell?_of_block (s'.block p hpl id)).trans c1,(World.cell?_of_block (s'.block gb hgl id)).trans l0,(World.cell?_of_block (s'.block gb hgl id)).trans l1,(World.cell?_of_block (s'.block gb hgl id)).trans l2,(World.cell?_of_block (s'.block gb hgl id)).trans l3,(World.cell?_of_block (s'.block gb hgl id)).trans l4⟩))
   have hS:=hSf.out w.drew o (aj.refl _ _ _);have drH:=ae (dr.mono (T':=ak N) fun _ h=>h.elim);clear e1 e2 dr l0 l1 l2 l3 l4 hr hbv d1 h hm hk hR hx hxm hbl hbs hpl;go_enter func80,ntmps80;go_wp2_with fail;refine hmH.out.mono ?_;rintro e W1 ⟨rfl,rfl⟩;go_wp2_with fail;refine Aa (fun w'=>w'.cell? ⟨p,1,none⟩=some (.slice (some ⟨gb,0,none⟩) g.l.length lc)/\w'.cell? ⟨gb,n*5,none⟩=some (.int .i64 0)/\w'.cell? ⟨gb,n*5+1,none⟩=some (.int .i64 (s:Int))/\w'.cell? ⟨gb,n*5+2,none⟩=some (.int .i64 0)/\w'.cell? ⟨gb,n*5+3,none⟩=some (.int .i64 (d:Int))/\w'.cell? ⟨gb,n*5+4,none⟩=some (.slice ba b.length bc)) (fun i=>decide (i<15)) (by kernel_rfl) hS (fun hHeld => ?_);refine tq 0 (h:=tq 1 (h:=tq 2 (h:=tq 3 (h:=tq 4 (h:=tq 5 (h:=tq 6 (h:=tq 7 (h:=tq 8 (h:=tq 9 (h:=tq 10 (h:=tq 11 (h:=tO 12 (h:=?_)))))))))))));go_wp2_with fail;refine how.out.mono ?_;rintro e W3 ⟨v3,o3,rfl,hs3,bv',rfl,hb3,h13⟩;obtain ⟨va,vc,rfl⟩:=Aq hb3;have hS3:=hSf.out W3 o3 hs3;have hD:=ae (aI hs3 (aI hb3 h13));unfold Aaa;clear hs3 hb3 h13;go_wp2_with fail;refine ⟨fun _=>hS3, ?_⟩;refine tO 13 (h:=?_);obtain ⟨W4,o4,hW4,⟨hs4, -⟩,hb4⟩:=AaC W3 o3 (.cells #[.int .i64 0, .int .i64 (s:Int), .int .i64 0, .int .i64 (d:Int), .slice va b.length vc] 104);have pX:=hD.out.1.trans hs4;have hS4:=hSf.out W4 o4 pX;obtain ⟨la',lc',gr,cap,V,oV,q1,hrun,q2,q3,hs0,hsV,hnV,hcl⟩:=(hK.out.step pX id id).push' hN (by omega) (x:=⟨s,d,b⟩) (hD.out.2.1.step hs4 id) rfl hb4;have q4:=hS4.1.symm.trans q1;simp only [Option.some.injEq,Value.slice.injEq] at q4;obtain ⟨rfl, -,rfl⟩:=q4;have hn5:n<g.l.length:=hnH.out;have hS8:=aI q2 (aI ((hcl gb (n*5) rfl (by omega)).trans hS4.2.1) (aI ((hcl gb (n*5+1) rfl (by omega)).trans hS4.2.2.1) (aI ((hcl gb (n*5+2) rfl (by omega)).trans hS4.2.2.2.1) (aI ((hcl gb (n*5+3) rfl (by omega)).trans hS4.2.2.2.2.1) ((hcl gb (n*5+4) rfl (by omega)).trans hS4.2.2.2.2.2)))));have hX:=ae (aI (drH.out.trans (pX.mono fun _ h=>h.elim)) (aI hsV hnV));have hb:=Api W3 (.int .i64 0) (.int .i64 (s:Int)) (.int .i64 0) (.int .i64 (d:Int)) va b.length vc;rw [hW4] at hb;have AaP:=ae hb;have Aax:=ae hrun;clear hs4 hb4 pX q1 hs0 hsV hnV hb hW4 hrun hHeld hcl hn5
   go_wp2_with ((with_reducible apply BO #[(0, .agg #[.int .i64 0, .int .i64 (s:Int), .int .i64 0, .int .i64 (d:Int), .slice va b.length vc])] rfl);exact AaP.out;simp only [Act.put,GL,DL,lss])
   refine ⟨fun _=>hS4, ?_⟩;refine tO 14 (h:=?_)
   go_wp2_with ((with_reducible apply Bl);exact Aax.out;simp only [Act.put,GL,DL,lss])
   refine ⟨fun _=>hS8, ?_⟩;refine tO 15 (h:=?_);go_wp2_with fail;refine ⟨fun h=>by simp at h, ?_⟩;refine tO 16 (h:=?_);go_wp2_with fail;refine ⟨fun h=>by simp at h, ?_⟩;refine tO 17 (h:=?_);go_wp2_with fail;refine ⟨fun h=>by simp at h, ?_⟩;refine tD (h:=?_)
   go_wp2
   go_ret;obtain rfl:=KI.out;exact ⟨_,oV,rfl,hX.out.1.trans hX.out.2.1,rfl,hX.out.2.2⟩
 ·rw [if_neg hk] at hR;rw [GN.Asx hk] at hm;have hmH:=ae hm;have KI:=ae hR;clear hm hk h hR;go_enter func80,ntmps80;go_wp2_with fail;refine hmH.out.mono ?_;rintro e W1 ⟨rfl,rfl⟩;go_wp2_with fail;go_ret;obtain ⟨o',h1,h2,h3⟩:=Amh.out 1 KI.out _ rfl;exact ⟨_,o',rfl,h1,by rw [h2];rfl,h3⟩
end
namespace GN
def LOk (n:Nat) (x:Aci):Prop:=x.src<n/\x.dst<n/\x.src ≠ x.dst
def Ok (g:GN):Prop:=∀ x ∈ g.l,LOk g.n x
def take (g:GN) (k:Int):GN × Int × Option Aci:=
 match g.l[k.toNat]? with
 | some x=>if g.may k=0 then (if g.cuts x.src x.dst then (g,65,none) else (g.without k.toNat,0,some x)) else (g,1,none)
 | none=>(g,1,none)
end GN
def Asz:List Value:=[.int .i64 0, .int .i64 0, .int .i64 0, .int .i64 0, .slice none 0 0]
section
variable {w:World} {o:Own} {N p:Nat} {g:GN}
theorem ApY (h:KL w o N p g) (k:Int) (hk:¬ g.may k=0):Calls prog 55 #[.pointer (some ⟨p,0,none⟩), .int .i64 k] w (XL ai w o fun r _ _=>r = .tuple #[.agg Asz.toArray, .int .i64 1]):=by
 obtain ⟨W,oW,hW,⟨hst, -⟩,hb⟩:=AaC w o (.cells #[.int .i64 0, .int .i64 0, .int .i64 0, .int .i64 0, .slice none 0 0] 104);have hm:=Akh (h.step hst id id) k;rw [GN.Asx hk] at hm;obtain ⟨V,hV,hsV,hbV, -⟩:=hb.store (P:=prog) (ty:=104) (vs:=[.int .i64 0, .int .i64 0, .int .i64 0, .int .i64 0, .slice none 0 0]) hst (Nat.le_refl _) rfl vI rfl;have hmH:=ae hm;have XX:=ae hW;have hVH:=ae hV;have hF:=ae (aI hsV hbV);clear hm hk h hW hV hb hst hsV hbV;go_enter func55,ntmps55;go_wp2_with fail;rw [XX.out];refine hmH.out.mono ?_;rintro e W1 ⟨rfl,rfl⟩
 go_wp2_with ((with_reducible apply AC);exact hVH.out;simp only [Act.put])
 refine bodyPost_ret (Eg rfl _ _ w.heap.size 104 _ (0,0) _ rfl hF.out.2.1 underlying104 rfl vI) rfl ?_;exact ⟨_,oW,rfl,hF.out.1,rfl⟩
theorem Aoj (h:KL w o N p g) (hN:N ≠ 0) (hl:g.l.length<=99000) (n:Nat) (hn:n<g.l.length) (hx:GN.LOk g.n g.l[n]) :
  Calls prog 55 #[.pointer (some ⟨p,0,none⟩), .int .i64 (n:Int)] w (XL (ak N) w o fun r w' o' =>
   (g.cuts g.l[n].src g.l[n].dst=true->r = .tuple #[.agg Asz.toArray, .int .i64 65]/\KL w' o' N p g) /\
   (g.cuts g.l[n].src g.l[n].dst=false->∃ bv,r = .tuple #[.agg (Aaa g.l[n] bv).toArray, .int .i64 0]/\Bytes w' o' bv g.l[n].b/\KL w' o' N p (g.without n))):=by
 have hmay:g.may (n:Int)=0:=by unfold GN.may;rw [if_neg (by omega)]
 obtain ⟨W,oW,hW,⟨hst,hsz⟩,hb⟩:=Akp w o (.cells #[.int .i64 0, .int .i64 0, .int .i64 0, .int .i64 0, .slice none 0 0] 104) (N+1,0);have hm:=Akh (h.step hst id id) (n:Int);rw [hmay] at hm;have h1:=h.step hst id id;obtain ⟨gb,lc,bv,c1,hbv,hr,hgo,hgl⟩:=h1.letter n hn;obtain ⟨x,hx'⟩:∃ x,g.l[n]=x:=⟨_,rfl⟩;rw [hx'] at hbv hr hx ⊢;obtain ⟨s,d,b⟩:=x;obtain ⟨ba,bc,rfl⟩:=Aq hbv;unfold Aaa at hr ⊢;dsimp only at hr hx hbv ⊢;have l0:=hr 0 _ rfl;have l1:=hr 1 _ rfl;have l2:=hr 2 _ rfl;have l3:=hr 3 _ rfl;have l4:=hr 4 _ rfl;rw [Nat.add_zero] at l0;have hnI:(n:Int)<(g.l.length:Int):=by omega
 obtain ⟨W2,o2,hW2,⟨hst2, -⟩,hb2⟩:=AaC W oW (.cells #[.int .i64 0, .int .i64 (s:Int), .int .i64 0, .int .i64 (d:Int), .slice ba b.length bc] 104);have h2:=h1.step hst2 id id;have hcu:=ae (Aom h2 hx.1 hx.2.1 hx.2.2);have hE:=ae (aI ((hst.trans hst2).mono (T':=ak N) fun _ h=>h.elim) (aI h2 (hb.step hst2 id)));have hmH:=ae hm;have XX:=ae hW;have xO:=ae hW2;have hxH:=ae hx';have AwR:W.heap.size=w.heap.size+1:=hsz;clear hm h hW hb hst hst2 h1 h2 hr hgo hbv hW2 hx hx' hmay hsz AwR;go_enter func55,ntmps55;go_wp2_with fail;rw [XX.out];refine hmH.out.mono ?_;rintro e W1 ⟨rfl,rfl⟩;go_wp2_with fail;rw [xO.out];refine hcu.out.mono ?_;rintro e W3 ⟨v1,o3,rfl,hs1,rfl⟩;obtain ⟨e1,e2,e3⟩:=hE.out;have k1:=e1.trans (hs1.mono (T':=ak N) fun _ h=>h.elim);have k2:=e2.step hs1 id id;have k3:=e3.step hs1 id
 cases hc:g.cuts s d with
 | true =>
  obtain ⟨X,hX,hsX,hkX,hbX⟩:=k3.store (P:=prog) (ty:=104) (vs:=[.int .i64 0, .int .i64 0, .int .i64 0, .int .i64 0, .slice none 0 0]) rfl vI rfl;have hF:=ae (aI (hkX k1 (Nat.le_refl _)) (aI hbX (k2.step hsX (by show ¬ N=N+1;omega) (by show ¬ 0=N+1;omega))));have hXH:=ae hX;clear hX hsX hkX hbX e1 e2 e3 k1 k2 k3 hs1
  go_wp2_with ((with_reducible apply AC);exact hXH.out;simp only [Act.put])
  refine bodyPost_ret (Eg rfl _ _ w.heap.size 104 _ (0,0) _ rfl hF.out.2.1.1 underlying104 rfl vI) rfl ?_;refine ⟨_,o3,rfl,hF.out.1,fun _=>⟨rfl,hF.out.2.2⟩, ?_⟩;intro h;rw [hc] at h;cases h
 | false =>
  have ho:=ae (Aqh k2 hN hl n hn);have hK:=ae (aI k1 k3);clear e1 e2 e3 k1 k2 k3 hs1;go_wp2_with fail;refine ho.out.mono ?_;rintro e W4 ⟨v4,o4,rfl,hs4,bv4,rfl,hb4,hn4⟩;rw [hxH.out] at hb4 ⊢;unfold Aaa;dsimp only at hb4 ⊢;obtain ⟨ba4,bc4,rfl⟩:=Aq hb4;have k1:=hK.out.1.trans hs4;have k3:=hK.out.2.step hs4 (by show ¬ N+1=N;omega);obtain ⟨X,hX,hsX,hkX,hbX⟩:=k3.store (P:=prog) (ty:=104) (vs:=[.int .i64 0, .int .i64 (s:Int), .int .i64 0, .int .i64 (d:Int), .slice ba4 b.length bc4]) rfl vI rfl;have hF:=ae (aI (hkX k1 (Nat.le_refl _)) (aI hbX (aI (hb4.step hsX (by show ¬ 0=N+1;omega)) (hn4.step hsX (by show ¬ N=N+1;omega) (by show ¬ 0=N+1;omega)))));have hXH:=ae hX;clear hX hsX hkX hbX k1 k3 hs4 hb4 hn4
  go_wp2_with ((with_reducible apply AC);exact hXH.out;simp only [Act.put])
  refine bodyPost_ret (Eg rfl _ _ w.heap.size 104 _ (0,0) _ rfl hF.out.2.1.1 underlying104 rfl vI) rfl ?_;refine ⟨_,o4,rfl,hF.out.1, ?_,fun _=>⟨_,rfl,hF.out.2.2⟩⟩;intro h;rw [hc] at h;cases h
end
theorem AsD:(prog.info? 3).map (fun i=>(i.zero.map (fun z=>z.cells.toList),i.size,i.bytes))=some (some [.int .i64 0],1,8):=by kernel_rfl
section
variable {w:World} {o:Own} {N p:Nat} {x:Int}
theorem AmU {v:Value} (h:sH w o v 1 [.int .i64 x]):Calls prog 89 #[v] w (XL ai w o fun v w' o'=>sH w' o' v 1 [.int .i64 x]):=by
 rcases h with ⟨-,h0, -⟩ | ⟨b,off,cap,rfl,hl,hm,ho,hb,hr⟩
 ·cases h0
 have hz:(w.alloc (.cells #[] 3)).ownsRow w.heap.size 3 1 (.slice (some ⟨w.heap.size,0,none⟩) 0 0) 0 []:=⟨rfl, .inr ⟨_,0, #[],rfl,Nat.le_refl _,heap_alloc_new w _,by omega,by simp,rfl,rfl⟩⟩;have hbz:Below w.heap.size w (w.alloc (.cells #[] 3)):=(Below.refl _ _).alloc (Nat.le_refl _) _;have he:=FC w 53 3 (some ⟨b,off,none⟩) 1 cap underlying53;obtain ⟨g,cp,w3,hrun,hown,hgrow,hat,hlt⟩:=DD (P:=prog) (w.alloc (.cells #[] 3)) 53 53 3 underlying53 AsD rfl (by omega) (base:=w.heap.size) (by simp) _ 0 [] hz b off 1 cap [.int .i64 x] rfl (World.rangeAt_alloc hr _) (by simp [Value.oneCell']) (by omega) (by omega) (by omega);have hb3:=hbz.grown hgrow (by simp) (fun k hk=>by simp only [Value.ownBlock,Option.some.injEq] at hk;omega);rw [Nat.zero_add,List.nil_append] at hown;rw [Nat.zero_add] at hrun;have Aax:=ae hrun;clear hrun hr;go_enter func89,ntmps89
 go_wp2_with ((with_reducible apply Bl);exact Aax.out;simp only [Act.put,GL,DL,lss])
 go_ret;refine ⟨_,(fun k=>if k<w.heap.size then o k else (0,0)),rfl,⟨hb3.os,hb3.tape,hb3.output,hb3.size,fun k hk=>if_pos hk,fun k hk _=>hb3.block k hk⟩, ?_⟩
 rcases hown.2 with ⟨h1,h0⟩ | ⟨g,cap,cur,h1,hb,hg,hnc,hcm,hcs,htake⟩
 ·cases h0
 ·simp only [Value.slice.injEq,Option.some.injEq,Addr.mk.injEq] at h1;obtain ⟨⟨rfl, -, -⟩, -,rfl⟩:=h1;refine .inr ⟨_,0,_,rfl,hnc,hcm,by show (if g<w.heap.size then o g else (0,0)).1=0;rw [if_neg (by omega)],au hg, ?_⟩
  have e1:w3.heap[g]?=some (.cells cur.toList.toArray 3 (0,0)):=by simpa using hg
  have:=BU e1 0 1;rw [List.drop_zero] at this;rw [Nat.mul_one] at htake
  rwa [htake] at this
theorem fits_any (h:1<=x/\x<=3) (w:World):Calls prog 88 #[.int .i64 x] w fun e w'=>e = .returned (.bool false)/\w=w':=by
 obtain ⟨h1,h2⟩:=h;have h3:¬ x<1:=by omega
 have h4:¬ 3<x:=by omega
 go_enter func88,ntmps88;go_wp2_with fail;go_ret;exact ⟨by simp,rfl⟩
theorem Alg {v:Value} (h:sH w o v 1 [.int .i64 x]) (hx:1<=x/\x<=3):Calls prog 117 #[v, .func (.func 88) #[] #[]] w fun e w'=>e = .returned (.int .i64 (-1))/\w=w':=by
 rcases h with ⟨-,h0, -⟩ | ⟨b,off,cap,rfl,hl,hm,ho,hb,hr⟩
 ·cases h0
 have c0:=hr 0 _ rfl;rw [Nat.add_zero] at c0;clear hr;have hck:=Tryz.call88;go_enter func117,ntmps117;go_wp2_with fail
 go_loopw [8] (fun i wr=>∃ k:Nat,k<=1/\i = .int .i64 k/\w=wr) (fun i _=>1 - (intOf i).toNat)
 case atStart=>exact ⟨0,by omega,rfl,rfl⟩
 case round =>
  obtain ⟨k,hk,rfl,rfl⟩:=hrel
  by_cases hlt:k<1
  ·obtain rfl:k=0:=by omega
   go_wp2_with fail;refine (fits_any hx _).mono ?_;rintro e W1 ⟨rfl,rfl⟩;go_wp2_with fail;go_roundw
   case rel=>exact ⟨1,by omega,by go_num,trivial⟩
   case measure=>simp [intOf]
  ·obtain rfl:k=1:=by omega
   go_wp2_with fail;go_ret;exact ⟨rfl,rfl⟩
theorem Aip {v:Value} (h:sH w o v 1 [.int .i64 x]) (hx:1<=x/\x<=3):Calls prog 87 #[v, .func (.func 88) #[] #[]] w fun e w'=>e = .returned (.bool false)/\w=w':=by
 have hi:=ae (Alg h hx);clear h hx;go_enter func87,ntmps87;go_wp2_with fail;refine hi.out.mono ?_;rintro e W1 ⟨rfl,rfl⟩;go_wp2_with fail;go_ret;exact ⟨rfl,rfl⟩
theorem Aon (W:World):(Instr.makeMap 124 none).run prog W = .ok (.map (some W.heap.size)) (W.alloc (.map #[] 0)):=by
 simp only [Instr.makeMap,Sem.run_bind];rfl
theorem Aqp (n N:Nat) {v:Value} (h:sH w o v 1 [.int .i64 (n:Int)]) (hx:1<=n/\n<=3):Calls prog 40 #[v] w (XL ai w o fun r w' o'=>∃ p,r = .tuple #[.pointer (some ⟨p,0,none⟩), .int .i64 0]/\KL w' o' N p ⟨n,[],[]⟩/\w.heap.size<=p):=by
 have hI:=ae (Aip h (by omega));have hC:=ae (AmU h);obtain ⟨va,vc,rfl⟩:=Aq h;clear h;go_enter func40,ntmps40;go_wp2_with fail;refine hI.out.mono ?_;rintro e W0 ⟨rfl,rfl⟩;go_wp2_with fail;refine hC.out.mono ?_;rintro e W1 ⟨v1,o1,rfl,hs1,hb1⟩;obtain ⟨va1,vc1,rfl⟩:=Aq hb1;obtain ⟨W2,o2,hW2,⟨hs2,hz2⟩,hb2⟩:=Akp W1 o1 (.map #[] 0) (N,2);obtain ⟨W3,o3,hW3,⟨hs3, -⟩,hb3⟩:=Akp W2 o2 (.cells #[.slice va1 1 vc1, .slice none 0 0, .map (some W1.heap.size)] 126) (N,0);have hm:=ae (Aon W1);have hn:KL W3 o3 N W2.heap.size ⟨n,[],[]⟩:=⟨.slice va1 1 vc1, .slice none 0 0,W1.heap.size,[],hb3.1,hb3.2,(hb1.step hs2 id).step hs3 id,⟨rfl, .inl ⟨rfl,rfl⟩⟩,AaG.nil _ _,(hb2.step hs3 id).1,(hb2.step hs3 id).2⟩;have hF:=ae (aI ((hs1.trans hs2).trans hs3) (aI hn (Nat.le_trans hs1.size hs2.size)));have xO:=ae hW2;have Bai:=ae hW3;clear hs1 hb1 hW2 hs2 hb2 hW3 hs3 hb3 hn
 go_wp2_with ((with_reducible apply Iq);exact hm.out;simp only [Act.put,GL,DL,lss])
 rw [xO.out,Bai.out, <-hz2]
 go_ret2
 exact ⟨_,o3,rfl,hF.out.1,W2.heap.size,rfl,hF.out.2.1,hF.out.2.2⟩
end
structure xI where
 Q:Nat
 D:Nat
 M:Nat
 px:Nat
 pz:Nat
 ps:Nat
 pd:Nat
def Uc (b:Nat):Value := .pointer (some ⟨b,0,none⟩)
def Afp (w:World) (o:Own) (x:xI):Prop:=w.heap[x.px]?=some (.cells [Uc x.pz,Uc x.pd,Uc x.ps].toArray 94 (0,0))/\o x.px=(x.Q,0)
def AeE (w:World) (o:Own) (R pg pn:Nat) (xs:List xI):Prop:=
 ∃ bn cap,w.heap[pg]?=some (.cells [.slice (some ⟨bn,0,none⟩) xs.length cap,Uc pn].toArray 84 (0,0))/\o pg=(R,0)/\w.rangeAt bn 0 (xs.map fun x=>Uc x.px)/\(o bn).1=R+1/\bn<w.heap.size
section
variable {T:Nat->Prop} {w w':World} {o o':Own} {R pg pn:Nat} {x:xI} {xs:List xI}
theorem Afp.step (h:Afp w o x) (s:aj T w o w' o') (hR:¬ T x.Q):Afp w' o' x:=by
 have l:=au h.1;exact ⟨(s.block _ l (by rw [h.2];exact hR)).trans h.1,(s.own _ l).trans h.2⟩
theorem AeE.step (h:AeE w o R pg pn xs) (s:aj T w o w' o') (hR:¬ T R) (hR1:¬ T (R+1)):AeE w' o' R pg pn xs:=by
 obtain ⟨bn,cap,h1,h2,h3,h4,h5⟩:=h;have l:=au h1;exact ⟨bn,cap,(s.block _ l (by rw [h2];exact hR)).trans h1,(s.own _ l).trans h2,Cf h3 (s.block bn h5 (by rw [h4];exact hR1)),(by rw [s.own _ h5];exact h4),Nat.lt_of_lt_of_le h5 s.size⟩
theorem at_bad (h:AeE w o R pg pn xs) (i:Int) (hi:i<0 \/ (xs.length:Int)<=i) (f:Value):Calls prog 43 #[.pointer (some ⟨pg,0,none⟩), .int .i64 i,f] w fun e w'=>e = .returned (.int .i64 1)/\w=w':=by
 obtain ⟨bn,cap,h1, -⟩:=h;have c0:=ag h1 0;simp only [ay] at c0;clear h1
 by_cases h0:i<0
 ·clear hi;go_enter func43,ntmps43
  go_wp2
  go_ret;exact ⟨rfl,rfl⟩
 ·have h2:(xs.length:Int)<=i:=by omega
  clear hi;go_enter func43,ntmps43
  go_wp2
  go_ret;exact ⟨rfl,rfl⟩
theorem Acd (h:AeE w o R pg pn xs) (i:Nat) (hx:xs[i]?=some x) (fid:Nat) (cp:Array Value) (Q:Ending->World->Prop)
  (hcall:∀ (args:Array Value) (x:World),(callFunc fid args).run prog x = .ok (.enter fid args) x)
  (hq:Calls prog fid (#[Uc x.px]++cp) w Q) (hr:∀ e w',Q e w'->∃ v,e = .returned v) :
  Calls prog 43 #[.pointer (some ⟨pg,0,none⟩), .int .i64 (i:Int), .func (.func fid) #[] cp] w Q:=by
 obtain ⟨bn,cap,h1,h2,h3,h4,h5⟩:=h;have c0:=ag h1 0;have c1:=h3 i (Uc x.px) (by rw [List.getElem?_map,hx];rfl);have hl:i<xs.length:=(List.getElem?_eq_some_iff.1 hx).1;simp only [ay,Nat.zero_add] at c0 c1;have yV:=ae hq;have tN:=ae hr;have hlI:(i:Int)<(xs.length:Int):=by omega
 clear h1 h2 h3 h4 h5 hx hq hr;unfold Uc at c1 yV;go_enter func43,ntmps43;go_wp2_with fail;refine yV.out.mono ?_;intro e W hQ;obtain ⟨v,rfl⟩:=tN.out e W hQ;have vJ:=ae hQ;clear hQ;go_wp2_with fail;exact vJ.out
end
section
variable {w:World} {o:Own} {R pg pn D K H Mx px pd:Nat} {zv sv:Value} {t:AZ}
def Adi (R Mx:Nat):Nat->Prop:=fun k=>k=R \/ Mx<k
theorem Aiw (hb:w.heap[px]?=some (.cells [zv,Uc pd,sv].toArray 94 (0,0))) (ho:o px=(R,0)) (hR0:R ≠ 0) (hDx:D<=Mx) (hR:R<=Mx) (hRD:R ≠ D) (hD0:D ≠ 0)
  (hg:SG K H t) (hK:K<65536) (hn:t.d.pages.length<=400) (hD:Bg w o D pd t.d) (id n:Nat) (h1:1<=n) (h3:n<=3) (hi:id<n) :
  Calls prog 42 #[.pointer (some ⟨px,0,none⟩), .int .i64 (id:Int), .int .i64 (n:Int)] w (XL (Adi R Mx) w o fun v w' o'=>v = .int .i64 0/\∃ ps pz,Afp w' o' ⟨R,D,Mx,px,pz,ps,pd⟩/\Bc w' o' D Mx pz ps pd (Am.new id n t)):=by
 have hop:=ae (YG Mx hDx hD0 hg hK hn hD);have xZ:=ae (aI hb ho);have c1:=ag hb 1;simp only [ay,ax] at c1;unfold Uc at c1;have Awl:(t.dead || t.d.dead)=false:=by rw [hg.live,hg.dd];rfl
 have AbE:=ae Awl;clear hb ho hD hg Awl;go_enter func42,ntmps42;go_wp2_with fail;refine hop.out.mono ?_;rintro e W1 ⟨v,o1,rfl,hs1,ps,rfl,ha⟩;have hzn:=ae (XC (M:=Mx) ⟨hDx,hD0⟩ ha AbE.out id n h1 h3 hi);have hst1:=ae hs1;clear hop hs1 ha;go_wp2_with fail;refine hzn.out.mono ?_;rintro e W2 ⟨v,o2,rfl,hs2,pz,rfl, -,hz⟩;have st:=hst1.out.trans (hs2.mono (T':=EN Mx) fun _ h=>h.elim);have l:=au xZ.out.1;have b2:=(st.block px l (by rw [xZ.out.2];show ¬ Mx<R;omega)).trans xZ.out.1;have q2:=(st.own px l).trans xZ.out.2;have f0:=Ap b2 0;have f2:=Ap b2 2;have k0:=ag b2 0;have k2:=ag b2 2;simp only [ay,ax] at k0 k2;have s3:=(st.mono (T':=Adi R Mx) fun _ h => .inr h).setCell (a:=⟨px,2,none⟩) (Uc ps) (.inl (by rw [q2];exact .inl rfl));have b3:=Ai (i:=2) (Uc ps) b2;have s4:=s3.setCell (a:=⟨px,0,none⟩) (Uc pz) (.inl (by rw [q2];exact .inl rfl));have b4:=Ai (i:=0) (Uc pz) b3;have u3:=((aj.refl (ak R) W2 o2).setCell (a:=⟨px,2,none⟩) (Uc ps) (.inl (by rw [q2];rfl))).setCell (a:=⟨px,0,none⟩) (Uc pz) (.inl (by rw [q2];rfl));have hF:=ae (aI s4 (aI (show Afp _ o2 ⟨R,D,Mx,px,pz,ps,pd⟩ from ⟨b4,q2⟩) (hz.step u3 (by intro k hk;cases hk;unfold KC;omega))));clear s4 s3 b4 b3 u3 st b2 hz hs2 q2 hst1 hzn;go_wp2_with fail;go_ret;exact ⟨_,o2,rfl,hF.out.1,rfl,ps,pz,hF.out.2⟩
end
def kP (w:World) (o:Own) (base X:Nat) (ty:TypeId) (sz:Nat) (v:Value) (n:Nat) (cs:List Value):Prop:=
 w.ownsRow base ty sz v n cs/\∀ g,v.ownBlock=some g->o g=(X,0)
section
variable {w w' W:World} {o o':Own} {base X sz n:Nat} {ty:TypeId} {v:Value} {cs:List Value}
theorem kP.nil (w:World) (o:Own) (base X:Nat) (ty:TypeId) (sz:Nat):kP w o base X ty sz (.slice none 0 0) 0 []:=⟨World.ownsRow_nil _ _ _ _,fun g hg=>by simp [Value.ownBlock] at hg⟩
theorem kP.step {T:Nat->Prop} (h:kP w o base X ty sz v n cs) (s:aj T w o w' o') (hT:¬ T X):kP w' o' base X ty sz v n cs:=
 ⟨Ci h.1 fun k hk=>s.block k (h.1.lt k hk).2 (by rw [h.2 k hk];exact hT),fun g hg=>by rw [s.own g (h.1.lt g hg).2];exact h.2 g hg⟩
theorem kP.form (h:kP w o base X ty sz v n cs):∃ a c,v = .slice a n c:=BA h.1
theorem kP.at (h:kP w o base X ty sz v n cs) (hn:0<n):∃ b cap,v = .slice (some ⟨b,0,none⟩) n cap/\w.rangeAt b 0 cs/\o b=(X,0)/\b<w.heap.size:=by
 rcases h.1.2 with ⟨rfl,h0⟩ | ⟨g,cap,cur,rfl,q1,q2,q3,q4,q5,q6⟩
 ·omega
 ·refine ⟨g,cap,rfl, ?_,h.2 g rfl,au q2⟩;have:=BU (w:=w) (b:=g) (cs:=cur.toList) (E:=ty) (fr:=(0,0)) (by simpa using q2) 0 (n*sz);rw [List.drop_zero,q6] at this;exact this
theorem kP.append {t:TypeId} {zs:List Value} {bytes m:Nat} {yv:Value} {news:List Value} (h:kP W o base X ty sz v n cs) (ht:prog.underlying t=some (.slice ty)) (hi:(prog.info? ty).map (fun i=>(i.zero.map (fun z=>z.cells.toList),i.size,i.bytes))=some (some zs,sz,bytes)) (hzs:zs.length=sz) (hsz:0<sz)
  (hs1:(prog.info? ty).map (·.size)=some sz) (hbase:base<=W.heap.size) (hy:sH W o yv m news) (hl:news.length=m*sz) (h1:∀ u ∈ news,u.oneCell'=true) (hn:n+m<=100000) (hb:bytes<=1000) :
  ∃ nv w' o',(Builtin.append_ #[t,t] t #[v,yv]).run prog W = .ok nv w'/\kP w' o' base X ty sz nv (n+m) (cs++news)/\aj (ak X) W o w' o':=by
 by_cases hm:0<m
 ·rcases hy with ⟨_,h0, -⟩ | ⟨b,off,cap,rfl,hc,hcm,ho,hbb,hr⟩
  ·omega
  ·have hby:(n+m)*bytes<=140737488355328:=Nat.le_trans (Nat.mul_le_mul hn hb) (by omega);obtain ⟨g,cap',w',hrun,hown,hgrow,hat,hlt⟩:=DD (P:=prog) W t t ty ht hi hzs hsz hbase v n cs h.1 b off m cap news hl hr h1 hm (by omega) hby;refine ⟨_,w',Ak o g (X,0),hrun,⟨hown,fun k hk => ?_⟩,(aj.refl (ak X) W o).grown hgrow (fun k hk => .inl (by show (o k).1=X;rw [h.2 k hk])) g (X,0) (by
    rcases hat with hat | hat
    ·exact .inl (h.2 g hat)
    ·exact .inr (by omega))⟩
   simp only [Value.ownBlock,Option.some.injEq] at hk;subst hk;exact Au _ _ _
 ·obtain rfl:m=0:=by omega
  have hnil:news=[]:=List.eq_nil_of_length_eq_zero (by omega);subst hnil;obtain ⟨a',c',rfl⟩:=Aq hy;obtain ⟨a,c,rfl⟩:=h.form;have hcap:n<=c:=by
   rcases h.1.2 with ⟨h1,h2⟩ | ⟨g,cap,cur,h1,_,_,h2,h3,_⟩
   ·simp only [Value.slice.injEq] at h1;omega
   ·simp only [Value.slice.injEq] at h1;omega
  exact ⟨_,W,o,CB (P:=prog) W t t ty sz ht hs1 a a' n c c' hcap (by omega),by simpa using h,aj.refl _ _ _⟩
end
structure Agb (R:Nat) (xs:List xI):Prop where
 at':∀ (i:Nat) (x:xI),xs[i]?=some x->x.Q=R+4+i/\x.D=R+10+i/\R+20<=x.M
 apart:∀ (i j:Nat) (x y:xI),i<j->xs[i]?=some x->xs[j]?=some y->x.M+4<=y.M \/ y.M+4<=x.M
def AcX (w:World) (o:Own) (xs:List xI) (zs:List Am):Prop:=
 xs.length=zs.length/\∀ (i:Nat) (x:xI) (z:Am),xs[i]?=some x->zs[i]?=some z->Afp w o x/\Bc w o x.D x.M x.pz x.ps x.pd z
def GAt (w:World) (o:Own) (R pg pn:Nat) (xs:List xI) (zs:List Am) (g:GN):Prop:=
 AeE w o R pg pn xs/\KL w o (R+2) pn g/\Agb R xs/\AcX w o xs zs
def BgS (R:Nat) (xs:List xI):Nat->Prop:=fun k=>(R<=k/\k<R+20) \/ ∃ x ∈ xs,x.M<k/\k<=x.M+4
section
variable {T:Nat->Prop} {w w':World} {o o':Own} {R pg pn:Nat} {xs:List xI} {zs:List Am} {g:GN}
theorem AcX.step (h:AcX w o xs zs) (s:aj T w o w' o') (h0:¬ T 0) (hT:∀ x ∈ xs,¬ T x.Q/\∀ t,T t->¬ KC x.D x.M t):AcX w' o' xs zs:=by
 refine ⟨h.1,fun i x z hx hz => ?_⟩;obtain ⟨h1,h2⟩:=h.2 i x z hx hz;have:=hT x (List.mem_of_getElem? hx);exact ⟨h1.step s this.1,h2.step s fun t ht=>⟨fun e=>h0 (e ▸ ht),this.2 t ht⟩⟩
end
theorem AmV (w:World) (n:Nat):(Instr.buildSlice 53 1 #[(0, .int .i64 (n:Int))]).run prog w = .ok (.slice (some ⟨w.heap.size,0,none⟩) 1 1) (w.alloc (.cells [.int .i64 (n:Int)].toArray 3)):=
 Dv w 53 3 [.int .i64 0] (.int .i64 (n:Int)) [.int .i64 (n:Int)] underlying53 (by kernel_rfl) rfl (by simp) (by simp) rfl
theorem AsE:(prog.info? 90).map (fun i=>(i.zero.map (fun z=>z.cells.toList),i.size,i.bytes))=some (some [.pointer none],1,8):=by kernel_rfl
theorem ApC:(prog.info? 90).map (·.size)=some 1:=by kernel_rfl
theorem Apj (w:World) (p:Nat):(Instr.buildSlice 81 1 #[(0, .pointer (some ⟨p,0,none⟩))]).run prog w = .ok (.slice (some ⟨w.heap.size,0,none⟩) 1 1) (w.alloc (.cells [.pointer (some ⟨p,0,none⟩)].toArray 90)):=
 Dv w 81 90 [.pointer none] (.pointer (some ⟨p,0,none⟩)) [.pointer (some ⟨p,0,none⟩)] underlying81 (by kernel_rfl) rfl (by simp) (by simp) rfl
def Ahz (n pages k:Nat):List Am:=(List.range k).map fun i=>Am.new i n (YJ pages)
theorem Aol (n pages k:Nat):Ahz n pages (k+1)=Ahz n pages k++[Am.new k n (YJ pages)]:=by unfold Ahz;rw [List.range_succ,List.map_append];rfl
theorem AeN (n pages k:Nat):(Ahz n pages k).length=k:=by unfold Ahz;simp
def AmX (xs:List xI):List Value:=xs.map fun x=>Uc x.px
theorem Agq {α:Type} {l:List α} {a b:α} {i:Nat} (h:(l++[a])[i]?=some b):(i<l.length/\l[i]?=some b) \/ (i=l.length/\b=a):=by
 by_cases hi:i<l.length
 ·rw [List.getElem?_append_left hi] at h;exact .inl ⟨hi,h⟩
 ·have hl:=(List.getElem?_eq_some_iff.1 h).1;simp only [List.length_append,List.length_cons,List.length_nil] at hl;have e:i=l.length:=by omega
  subst e;simp at h;exact .inr ⟨rfl,h.symm⟩
theorem AcX.push {w:World} {o:Own} {xs:List xI} {zs:List Am} {x:xI} {z:Am} (h:AcX w o xs zs) (hx:Afp w o x) (hz:Bc w o x.D x.M x.pz x.ps x.pd z):AcX w o (xs++[x]) (zs++[z]):=by
 refine ⟨by simp [h.1],fun i x' z' hx' hz' => ?_⟩
 rcases Agq hx' with ⟨h1,h2⟩ | ⟨h1,rfl⟩ <;> rcases Agq hz' with ⟨h3,h4⟩ | ⟨h3,rfl⟩
 ·exact h.2 i x' z' h2 h4
 ·have:=h.1;omega
 ·have:=h.1;omega
 ·exact ⟨hx,hz⟩
theorem Agb.push {R:Nat} {xs:List xI} {x:xI} (h:Agb R xs) (hm:∀ (i:Nat) (y:xI),xs[i]?=some y->y.M=R+20+5*i) (h1:x.Q=R+4+xs.length) (h2:x.D=R+10+xs.length) (h3:x.M=R+20+5*xs.length) :
  Agb R (xs++[x])/\(∀ (i:Nat) (y:xI),(xs++[x])[i]?=some y->y.M=R+20+5*i):=by
 have hm':∀ (i:Nat) (y:xI),(xs++[x])[i]?=some y->y.M=R+20+5*i:=by
  intro i y hy
  rcases Agq hy with ⟨-,e⟩ | ⟨rfl,rfl⟩
  ·exact hm i y e
  ·exact h3
 refine ⟨⟨fun i y hy => ?_,fun i j y y' hij hy hy' => ?_⟩,hm'⟩
 ·rcases Agq hy with ⟨-,e⟩ | ⟨rfl,rfl⟩
  ·exact h.at' i y e
  ·exact ⟨h1,h2,by omega⟩
 ·have e1:=hm' i y hy;have e2:=hm' j y' hy';omega
def Made (w0:World) (o0:Own) (M0 R pg pn n pages:Nat) (k:Nat) (w:World) (o:Own) (rv:Value) (xs:List xI):Prop:=
 w.heap[pg]?=some (.cells [rv,Uc pn].toArray 84 (0,0))/\o pg=(R,0)/\kP w o w0.heap.size (R+1) 90 1 rv k (AmX xs)/\KL w o (R+2) pn ⟨n,[],[]⟩ /\
  Agb R xs/\(∀ (i:Nat) (x:xI),xs[i]?=some x->x.M=R+20+5*i)/\AcX w o xs (Ahz n pages k)/\aj (EN M0) w0 o0 w o
theorem Aky {M0 R:Nat} (hM:M0<R) (n pages:Nat) (hn1:1<=n) (hn3:n<=3) (hp:8<=pages) (hp4:pages<=400) (w:World) (o:Own) :
  Calls prog 9 #[.int .i64 (n:Int), .int .i64 (pages:Int)] w (XL (EN M0) w o fun v w' o'=>∃ pg pn xs,v = .tuple #[.pointer (some ⟨pg,0,none⟩), .int .i64 0]/\GAt w' o' R pg pn xs (Ahz n pages n) ⟨n,[],[]⟩/\xs.length=n):=by
 have hnI:(1:Int)<=(n:Int)/\(n:Int)<=3:=by omega
 obtain ⟨W1,o1,hW1,⟨hs1, -⟩,hb1⟩:=Akp w o (.cells #[.slice none 0 0, .pointer none] 84) (R,0);obtain ⟨W2,o2,hW2,⟨hs2, -⟩,hb2⟩:=Akp W1 o1 (.cells [.int .i64 (n:Int)].toArray 3) (0,0);have hbs:=ae (AmV W1 n);have hone:sH W2 o2 (.slice (some ⟨W1.heap.size,0,none⟩) 1 1) 1 [.int .i64 (n:Int)] := .inr ⟨W1.heap.size,0,1,rfl,Nat.le_refl _,by simp [maxLen],by rw [hb2.2],au hb2.1,AV hb2.1⟩;have hnn:=ae (Aqp n (R+2) hone ⟨hn1,hn3⟩);have hE:=ae (aI (hs1.trans hs2) (hb1.step hs2 id));have uM:=ae hW1;have xO:=ae hW2;clear hs1 hs2 hb1 hb2 hone hW1 hW2;go_enter func9,ntmps9
 go_wp2_with ((with_reducible apply BO #[(0, .int .i64 (n:Int))] rfl);(try rw [uM.out]);exact hbs.out;simp only [Act.put,GL,DL,lss])
 rw [xO.out];refine hnn.out.mono ?_;rintro e W3 ⟨v3,o3,rfl,hs3,pn,rfl,Aye, -⟩;have hE1:=hE.out.1;have hb3:=hE.out.2.step hs3 id;have l3:=au hb3.1;have k1:=ag hb3.1 1;have f1:=Ap hb3.1 1;simp only [ay,ax] at k1;have st0:=(hE1.trans hs3).mono (T':=EN M0) fun _ h=>h.elim;have st1:=st0.setCell (a:=⟨w.heap.size,1,none⟩) (Uc pn) (.inr (Nat.le_refl _));have u1:=(aj.refl (ak R) W3 o3).setCell (a:=⟨w.heap.size,1,none⟩) (Uc pn) (.inl (by rw [hb3.2];rfl));have b4:=Ai (i:=1) (Uc pn) hb3.1;have n4:=Aye.step u1 (by show ¬ R+2=R;omega) (by show ¬ 0=R;omega);have hMd:Made w o M0 R w.heap.size pn n pages 0 (W3.setCell ⟨w.heap.size,1,none⟩ (Uc pn)) o3 (.slice none 0 0) []:=
  ⟨b4,hb3.2,kP.nil _ _ _ _ _ _,n4,⟨fun i x hx=>by simp at hx,fun i j x y _ hx=>by simp at hx⟩,fun i x hx=>by simp at hx,⟨rfl,fun i x z hx=>by simp at hx⟩,st1⟩
 have Ayo:=ae hMd;clear hE1 hb3 st0 st1 u1 b4 n4 hMd Aye hs3 hnn hE uM xO hbs;go_wp2_with fail
 go_loopw [30] (fun i wr=>∃ (k:Nat) (oj:Own) (rv:Value) (xs:List xI),k<=n/\i = .int .i64 k/\Hid (Made w o M0 R w.heap.size pn n pages k wr oj rv xs)) (fun i _=>n - (intOf i).toNat)
 case atStart=>exact ⟨0,o3,_,[],Nat.zero_le _,rfl,Ayo⟩
 case round =>
  clear Ayo k1 f1 l3;obtain ⟨k,oj,rv,xs,hk,rfl,hMd⟩:=hrel
  by_cases hlt:k<n
  ·have AbY:(0:Int)<=(k:Int)/\(k:Int)<(n:Int):=by omega
   have hdn:=ae (TB pages wr oj (R+10+k) (by omega) (by omega));go_wp2_with fail;refine hdn.out.mono ?_;rintro ex V1 ⟨v,p1,rfl,hs1,pd, -,rfl,hd⟩;obtain ⟨V2,p2,hV2,⟨hs2, -⟩,hb2⟩:=Akp V1 p1 (.cells [.pointer none,Uc pd, .pointer none].toArray 94) (R+4+k,0);have hop:=ae (Aiw (R:=R+4+k) (D:=R+10+k) (Mx:=R+20+5*k) hb2.1 hb2.2 (by omega) (by omega) (by omega) (by omega) (by omega) (dL hp (by omega)) (by omega) (by show (Af.new pages).pages.length<=400;simp [Af.new];omega) (hd.step hs2 id) k n hn1 hn3 hlt);have hG:=ae (aI hs1 hs2);have Aym:=ae hV2;clear hs1 hs2 hd hb2 hV2 hdn;go_wp2_with fail;unfold Uc at Aym;rw [Aym.out];refine hop.out.mono ?_;rintro ex V3 ⟨v,p3,rfl,hs3,rfl,ps,pz,hxb,hnd⟩;obtain ⟨m1,m2,m3,m4,m5,m6,m7,m8⟩:=hMd.out;have hxl:xs.length=k:=by rw [m7.1,AeN]
   have Aly:=hG.out.1.trans hG.out.2;have lpg:=au m1;have n1:=(hs3.block _ (Nat.lt_of_lt_of_le lpg Aly.size) (by rw [Aly.own _ lpg,m2];unfold Adi;omega)).trans ((Aly.block _ lpg id).trans m1);have n2:=(hs3.own _ (Nat.lt_of_lt_of_le lpg Aly.size)).trans ((Aly.own _ lpg).trans m2);have n3:=(m3.step Aly id).step hs3 (by unfold Adi;omega);have n4:=(m4.step Aly id id).step hs3 (by unfold Adi;omega) (by unfold Adi;omega);have hT:∀ x ∈ xs,¬ Adi (R+4+k) (R+20+5*k) x.Q/\∀ t,Adi (R+4+k) (R+20+5*k) t->¬ KC x.D x.M t:=by
    intro x hx;obtain ⟨i,hi,rfl⟩:=List.mem_iff_getElem.1 hx;obtain ⟨q1,q2,q3⟩:=m5.at' i _ (List.getElem?_eq_getElem hi);have q4:=m6 i _ (List.getElem?_eq_getElem hi);refine ⟨by unfold Adi;omega,fun t ht hk => ?_⟩;unfold Adi at ht;unfold KC at hk;omega
   have n7:=(m7.step Aly id (fun x _=>⟨id,fun t ht=>ht.elim⟩)).step hs3 (by unfold Adi;omega) hT;have n8:=m8.trans ((Aly.mono (T':=EN M0) fun _ h=>h.elim).trans (hs3.mono fun t ht=>by unfold Adi at ht;show M0<t;omega));obtain ⟨ra,rc,rfl⟩:=n3.form;have c0:=ag n1 0;simp only [ay] at c0;have hsz:=n8.size;generalize hbx:V1.heap.size=bx at *;have hsa:=(aj.refl ai V3 p3).alloc (.cells [.pointer (some ⟨bx,0,none⟩)].toArray 90) (0,0);have hnb:=heap_alloc_new V3 (.cells [Value.pointer (some ⟨bx,0,none⟩)].toArray 90);have hbs:=Apj V3 bx;have hone:sH (V3.alloc (.cells [.pointer (some ⟨bx,0,none⟩)].toArray 90)) (Ak p3 V3.heap.size (0,0)) (.slice (some ⟨V3.heap.size,0,none⟩) 1 1) 1 [.pointer (some ⟨bx,0,none⟩)]:=
    .inr ⟨V3.heap.size,0,1,rfl,Nat.le_refl _,by simp [maxLen],by rw [Au],by simp,AV hnb⟩
   obtain ⟨V4,hV4⟩:∃ W,V3.alloc (.cells [.pointer (some ⟨bx,0,none⟩)].toArray 90)=W:=⟨_,rfl⟩;obtain ⟨O4,hO4⟩:∃ O,Ak p3 V3.heap.size (0,0)=O:=⟨_,rfl⟩;rw [hV4] at hsa hbs hone;rw [hO4] at hsa hone;obtain ⟨nv,V5,O5,hrun,tK,hs5⟩:=(n3.step hsa id).append (t:=81) underlying81 AsE rfl (by omega) ApC (Nat.le_trans hsz hsa.size) hone rfl (by intro u hu;simp at hu;subst hu;rfl) (by omega) (by omega);have a1:=hs5.block _ (Nat.lt_of_lt_of_le (au n1) hsa.size) (by rw [hsa.own _ (au n1),n2];show ¬ R=R+1;omega);have b5:=a1.trans ((hsa.block _ (au n1) id).trans n1);have o5:=(hs5.own _ (Nat.lt_of_lt_of_le (au n1) hsa.size)).trans ((hsa.own _ (au n1)).trans n2);have k5:=ag b5 0;have f5:=Ap b5 0;simp only [ay] at k5;have b6:=Ai (i:=0) nv b5;have u6:=(aj.refl (ak R) V5 O5).setCell (a:=⟨w.heap.size,0,none⟩) nv (.inl (by rw [o5];rfl));have hall:=(hsa.mono (T':=fun t=>t=R \/ t=R+1) fun _ h=>h.elim).trans ((hs5.mono fun t (h:t=R+1) => .inr h).trans (u6.mono fun t (h:t=R) => .inl h));obtain ⟨V6,hV6⟩:∃ V,V5.setCell ⟨w.heap.size,0,none⟩ nv=V:=⟨_,rfl⟩;rw [hV6] at b6 u6 hall;have e10:∀ t,(t=R \/ t=R+1)->¬ Adi (R+4+k) (R+20+5*k) t:=by intro t ht;unfold Adi;omega
   have x7:AcX V6 O5 (xs++[⟨R+4+k,R+10+k,R+20+5*k,bx,pz,ps,pd⟩]) (Ahz n pages (k+1)):=by
    rw [Aol];refine (n7.step hall (by omega) fun x hx => ?_).push (hxb.step hall (by show ¬ (R+4+k=R \/ R+4+k=R+1);omega)) (hnd.step hall fun t ht=>⟨by omega,by unfold KC;omega⟩);obtain ⟨i,hi,rfl⟩:=List.mem_iff_getElem.1 hx;obtain ⟨q1,q2,q3⟩:=m5.at' i _ (List.getElem?_eq_getElem hi);exact ⟨by omega,fun t ht hk=>by unfold KC at hk;omega⟩
   obtain ⟨y5,y6⟩:=m5.push (x:=⟨R+4+k,R+10+k,R+20+5*k,bx,pz,ps,pd⟩) m6 (by rw [hxl]) (by rw [hxl]) (by rw [hxl]);have hpp:AmX xs++[.pointer (some ⟨bx,0,none⟩)]=AmX (xs++[⟨R+4+k,R+10+k,R+20+5*k,bx,pz,ps,pd⟩]):=by simp [AmX,Uc]
   rw [hpp] at tK;have hMN:Made w o M0 R w.heap.size pn n pages (k+1) V6 O5 nv (xs++[⟨R+4+k,R+10+k,R+20+5*k,bx,pz,ps,pd⟩]):=
    ⟨b6,o5,tK.step u6 (by show ¬ R+1=R;omega),n4.step hall (by omega) (by omega),y5,y6,x7,n8.trans (hall.mono fun t ht=>by show M0<t;omega)⟩
   have BbX:=ae hMN;have BbR:=ae hV6;obtain ⟨na,nc,rfl⟩:=tK.form;have AaP:=ae hbs;have Aax:=ae hrun;have BfY:=ae hV4;have n1c:=c0;clear a1 b5 o5 b6 u6 hall hV6 e10 x7 y5 y6 hpp hMN tK hs5 hrun hbs hone hsa hnb hV4 hO4 n1 n2 n3 n4 n7 n8 hT Aly lpg m1 m2 m3 m4 m5 m6 m7 m8 hs3 hxb hnd hG hop hMd
   go_wp2_with (first
    | ((with_reducible apply BO #[(0, .pointer (some ⟨bx,0,none⟩))] rfl);exact AaP.out;simp only [Act.put,GL,DL,lss])
    | ((with_reducible apply Bl);exact Aax.out;simp only [Act.put,GL,DL,lss]))
   rw [BbR.out];exact ⟨⟨k+1,O5,_,_,by omega,by go_num,BbX⟩,by simp [intOf];omega⟩
  ·obtain rfl:n=k:=by omega
   obtain ⟨m1,m2,m3,m4,m5,m6,m7,m8⟩:=hMd.out;obtain ⟨b,cap,rfl,h2,h3,h4⟩:=m3.at (by omega);have hxl:xs.length=n:=by rw [m7.1,AeN]
   have hF:=ae (aI m8 (aI (show GAt wr oj R w.heap.size pn xs (Ahz n pages n) ⟨n,[],[]⟩ from ⟨⟨b,cap,by rw [hxl];exact m1,m2,h2,by rw [h3],h4⟩,m4,m5,m7⟩) hxl));clear m1 m2 m3 m4 m5 m6 m7 m8 h2 h3 h4 hMd hxl;go_wp2_with fail
   go_ret2
   exact ⟨_,oj,rfl,hF.out.1,_,_,_,rfl,hF.out.2⟩
namespace GN
def sends (g:GN) (src:Nat) (ts:List (Nat × List UInt8)):GN:=ts.foldl (fun g t=>(g.send ⟨src,t.1,t.2⟩).1) g
theorem AwA (g:GN) (x:Aci):(g.send x).1.n=g.n:=by unfold send;split <;> (try split) <;> rfl
theorem ApJ (g:GN) (x:Aci) (h:g.l.length<=4096):(g.send x).1.l.length<=4096:=by
 unfold send;split
 ·exact h
 ·split
  ·exact h
  ·simp;omega
theorem Aso (g:GN) (src:Nat) (ts:List (Nat × List UInt8)):(g.sends src ts).n=g.n:=by
 induction ts generalizing g with
 | nil=>rfl
 | cons t ts ih=>exact (ih _).trans (AwA _ _)
theorem AnC (g:GN) (src:Nat) (ts:List (Nat × List UInt8)) (h:g.l.length<=4096):(g.sends src ts).l.length<=4096:=by
 induction ts generalizing g with
 | nil=>exact h
 | cons t ts ih=>exact ih _ (ApJ _ _ h)
theorem AkX (g:GN) (src:Nat) (ts:List (Nat × List UInt8)) (k:Nat) (t:Nat × List UInt8) (h:ts[k]?=some t):g.sends src (ts.take (k+1))=((g.sends src (ts.take k)).send ⟨src,t.1,t.2⟩).1:=by
 unfold sends;rw [List.take_add_one,h,List.foldl_append];rfl
end GN
theorem ApH (g:GN) (src:Nat) (ts:List (Nat × List UInt8)):(g.sends src ts).n=g.n:=g.Aso src ts
section
variable {w:World} {o:Own} {R N pg pn:Nat} {xs:List xI} {g:GN}
theorem Aiv (hb:AeE w o R pg pn xs) (h:KL w o N pn g) (hN:N ≠ 0) (hRN:R ≠ N) (BbT:R+1 ≠ N) (hlen:g.l.length<=4096) (src:Nat) (hs:src<g.n) {v:Value} {ts:List (Nat × List UInt8)} (ho:Dn w o v ts)
  (ht:∀ t ∈ ts,t.1<g.n/\src ≠ t.1/\t.2.length<=2097152) :
  Calls prog 52 #[.pointer (some ⟨pg,0,none⟩), .int .i64 (src:Int),v] w (XL (ak N) w o fun _ w' o'=>KL w' o' N pn (g.sends src ts)):=by
 obtain ⟨cs,hsl,hoc⟩:=ho;obtain ⟨va,vc,rfl⟩:=Aq hsl;obtain ⟨L,hL⟩:∃ L,ts.length=L:=⟨_,rfl⟩;rw [hL] at hsl ⊢;have hH:=ae (aI hb (aI h (aI hsl (aI hoc (aI ht hL)))));clear hb h hsl hoc ht hL;go_enter func52,ntmps52;go_wp2_with fail
 go_loopw [10] (fun i wr=>∃ (k:Nat) (oj:Own),k<=L/\i = .int .i64 k/\Hid (aj (ak N) w o wr oj/\KL wr oj N pn (g.sends src (ts.take k)))) (fun i _=>L - (intOf i).toNat)
 case atStart=>exact ⟨0,o,Nat.zero_le _,rfl,ae ⟨aj.refl _ _ _,by rw [List.take_zero];exact hH.out.2.1⟩⟩
 case round =>
  obtain ⟨k,oj,hk,rfl,hr⟩:=hrel
  by_cases hlt:k<L
  ·obtain ⟨hb, -,hsl,hoc,ht,hL⟩:=hH.out;obtain ⟨hst,hn⟩:=hr.out;have AbY:(0:Int)<=(k:Int)/\(k:Int)<(L:Int):=by omega
   obtain ⟨t,htk⟩:∃ t,ts[k]?=some t:=⟨_,List.getElem?_eq_getElem (by omega)⟩;obtain ⟨d1,d2,d3⟩:=ht t (List.mem_of_getElem? htk);obtain ⟨bn,cap,h1,h2',h2, -⟩:=hb.step hst hRN BbT;have c1:=ag h1 1;simp only [ay,ax] at c1;have h0:¬ ak N 0:=fun e=>hN e.symm;obtain ⟨e1,bv,e2,e3⟩:=(hoc.step hst h0).2 k t htk;have hsl2:=hsl.step hst h0
   rcases hsl2 with ⟨-,hz, -⟩ | ⟨b,off,cap2,he,hl1,hl2,hl3,hl4,hl5⟩
   ·omega
   simp only [Value.slice.injEq] at he;obtain ⟨rfl, -,rfl⟩:=he;obtain ⟨ba,bc,rfl⟩:=Aq e3;have hLm:(k:Int)+1<=9223372036854775807:=by unfold maxLen at hl2;omega
   have g0:=hl5 _ _ e1;have g1:=hl5 _ _ e2;rw [Nat.mul_comm 2 k] at g0 g1;rw [<-Nat.add_assoc] at g1;have l1:=hst.size;have d1I:(t.1:Int)=(t.1:Int):=rfl;obtain ⟨V,oV,hV,⟨hsV, -⟩,hbV⟩:=AaC wr oj (.cells #[.int .i64 (t.1:Int), .slice ba t.2.length bc] 146);have dr:aj ai V oV V.drew oV:=(aj.refl ai V oV).drew;have q0:=hbV.cell 0;have q1:=hbV.cell 1;have q2:=ag ((hsV.block _ (au h1) id).trans h1) 1;simp only [ay,ax] at q0 q1 q2;unfold Uc at q2;have hS:=aI q2 (aI q0 q1);have hn0:=ApH g src (ts.take k);have AwM:=ae (Aok ((hn.step hsV id id).step dr id id) hN (GN.AnC g src _ hlen) ⟨src,t.1,t.2⟩ (by rw [hn0];exact hs) (by rw [hn0];exact d1) d2 ((e3.step hsV id).step dr id) d3);unfold Aaa at AwM;have hE:=ae (hst.trans ((hsV.trans dr).mono (T':=ak N) fun _ h=>h.elim));have hB:=ae (aI (aI ((hsV.trans dr).block _ (au h1) id |>.trans h1) (aI (Nat.lt_of_lt_of_le (au h1) (hsV.trans dr).size) (((hsV.trans dr).own _ (au h1)).trans h2'))) (aI (hbV.step dr id) h0));have hVH:=ae hV;have Akd:=ae htk;clear h2' h0 h1 hl5 hb hsl hoc ht hL hst hk e1 e2 h2 hV hsV hbV dr q0 q1 q2 hn hn0 htk e3 hr;dsimp only at AwM;go_wp2_with fail;rw [hVH.out];refine Aa (fun w'=>w'.cell? ⟨pg,1,none⟩=some (.pointer (some ⟨pn,0,none⟩))/\w'.cell? ⟨wr.heap.size,0,none⟩=some (.int .i64 (t.1:Int))/\w'.cell? ⟨wr.heap.size,1,none⟩=some (.slice ba t.2.length bc)) (fun _=>true) (by kernel_rfl) hS (fun hHeld => ?_);refine tq 0 (h:=tq 1 (h:=tq 2 (h:=tq 3 (h:=tq 4 (h:=tq 5 (h:=tq 6 (h:=tq 7 (h:=tq 8 (h:=tq 9 (h:=tq 10 (h:=tq 11 (h:=tO 12 (h:=?_)))))))))))));go_wp2_with fail;refine AwM.out.mono ?_;rintro e W3 ⟨v3,o3,rfl,hs3, -,hn3⟩;obtain ⟨⟨z1,z2,z3⟩,z4,z5⟩:=hB.out;have r1:=ag ((hs3.block _ z2 (by rw [z3];exact hRN)).trans z1) 1;have r2:=(z4.step hs3 z5).cell 0;have r3:=(z4.step hs3 z5).cell 1;simp only [ay,ax] at r1 r2 r3;unfold Uc at r1;have hS3:=aI r1 (aI r2 r3);go_wp2_with fail;refine ⟨fun _=>hS3, ?_⟩;refine tD (h:=?_);have hq:=GN.AkX g src ts k t Akd.out;rw [<-hq] at hn3;have hF:=ae (aI (hE.out.trans hs3) hn3);clear hS3 r1 r2 r3 z1 z2 z3 z4 z5 hn3 hs3 hq hB hE;go_wp2_with fail;go_roundw
   case rel=>exact ⟨k+1,o3,by omega,by go_num,hF⟩
   case measure=>simp [intOf];omega
  ·obtain rfl:L=k:=by omega
   have hF:=hr.out;rw [<-hH.out.2.2.2.2.2,List.take_length] at hF;have hFH:=ae hF;clear hF hr;go_wp2_with fail
   go_end0
   exact ⟨_,oj,rfl,hFH.out.1,hFH.out.2⟩
end
section
variable {w:World} {o:Own} {R pg pn:Nat} {xs:List xI} {zs:List Am} {g:GN} {x:xI} {z:Am}
theorem Akz (hx:Afp w o x) (hz:Bc w o x.D x.M x.pz x.ps x.pd z) {b:Bool} (hb:z.BN.OD=b):Calls prog 44 #[.pointer (some ⟨x.px,0,none⟩)] w fun e w'=>e = .returned (if b=true then .int .i64 0 else .int .i64 64)/\w=w':=by
 have hc:=RF hz;rw [hb] at hc;have WV:=ae hc;have c0:=ag hx.1 0;simp only [ay] at c0;unfold Uc at c0;clear hc hx hz hb
 cases b with
 | true =>
  go_enter func44,ntmps44;go_wp2_with fail;refine WV.out.mono ?_;rintro e W1 ⟨rfl,rfl⟩;go_wp2_with fail;go_ret;exact ⟨rfl,rfl⟩
 | false =>
  go_enter func44,ntmps44;go_wp2_with fail;refine WV.out.mono ?_;rintro e W1 ⟨rfl,rfl⟩;go_wp2_with fail;go_ret;exact ⟨rfl,rfl⟩
theorem AmN (h:GAt w o R pg pn xs zs g) (i:Nat) (hxi:xs[i]?=some x) (hzi:zs[i]?=some z) {b:Bool} (hb:z.BN.OD=b):Calls prog 11 #[.pointer (some ⟨pg,0,none⟩), .int .i64 (i:Int)] w fun e w'=>e = .returned (.bool b)/\w=w':=by
 obtain ⟨h1,h2⟩:=h.2.2.2.2 i x z hxi hzi;have ha:=ae (Acd h.1 i hxi 44 #[] _ Tryz.call44 (Akz h1 h2 hb) (fun e w' hq=>⟨_,hq.1⟩));clear h h1 h2 hxi hzi hb
 cases b with
 | true =>
  go_enter func11,ntmps11;go_wp2_with fail;refine ha.out.mono ?_;rintro e W1 ⟨rfl,rfl⟩;go_wp2_with fail;go_ret;exact ⟨rfl,rfl⟩
 | false =>
  go_enter func11,ntmps11;go_wp2_with fail;refine ha.out.mono ?_;rintro e W1 ⟨rfl,rfl⟩;go_wp2_with fail;go_ret;exact ⟨rfl,rfl⟩
theorem AmS (hx:Afp w o x) (hz:Bc w o x.D x.M x.pz x.ps x.pd z) {b:Bool} (hb:z.dead=b):Calls prog 76 #[.pointer (some ⟨x.px,0,none⟩)] w fun e w'=>e = .returned (if b=true then .int .i64 9 else .int .i64 0)/\w=w':=by
 have hc:=FI hz;rw [hb] at hc;have WV:=ae hc;have c0:=ag hx.1 0;simp only [ay] at c0;unfold Uc at c0;clear hc hx hz hb
 cases b with
 | true =>
  go_enter func76,ntmps76;go_wp2_with fail;refine WV.out.mono ?_;rintro e W1 ⟨rfl,rfl⟩;go_wp2_with fail;go_ret;exact ⟨rfl,rfl⟩
 | false =>
  go_enter func76,ntmps76;go_wp2_with fail;refine WV.out.mono ?_;rintro e W1 ⟨rfl,rfl⟩;go_wp2_with fail;go_ret;exact ⟨rfl,rfl⟩
theorem Apg (h:GAt w o R pg pn xs zs g) (i:Nat) (hxi:xs[i]?=some x) (hzi:zs[i]?=some z) {b:Bool} (hb:z.dead=b):Calls prog 28 #[.pointer (some ⟨pg,0,none⟩), .int .i64 (i:Int)] w fun e w'=>e = .returned (.bool b)/\w=w':=by
 obtain ⟨h1,h2⟩:=h.2.2.2.2 i x z hxi hzi;have ha:=ae (Acd h.1 i hxi 76 #[] _ Tryz.call76 (AmS h1 h2 hb) (fun e w' hq=>⟨_,hq.1⟩));clear h h1 h2 hxi hzi hb
 cases b with
 | true =>
  go_enter func28,ntmps28;go_wp2_with fail;refine ha.out.mono ?_;rintro e W1 ⟨rfl,rfl⟩;go_wp2_with fail;go_ret;exact ⟨rfl,rfl⟩
 | false =>
  go_enter func28,ntmps28;go_wp2_with fail;refine ha.out.mono ?_;rintro e W1 ⟨rfl,rfl⟩;go_wp2_with fail;go_ret;exact ⟨rfl,rfl⟩
end
theorem Bc.Agt {w w':World} {o o':Own} {D M pz ps pd:Nat} {z:Am} {d':Af} (h:Bc w o D M pz ps pd z) (s:aj (ak D) w o w' o') (hd:Bg w' o' D pd d'):Bc w' o' D M pz ps pd { z with s:={ z.s with d:=d' } }:=by
 obtain ⟨ML,rv,h1,h2,X,Y,pa,pb,k,kv,hxy,hbx,hl,hc,hoo,hdk⟩:=h;have h0:¬ ak D 0:=fun e=>ML.2 e.symm;have hX:¬ ak D X:=by show ¬ X=D;rcases hxy with ⟨rfl,rfl⟩ | ⟨rfl,rfl⟩ <;> omega
 have hY:¬ ak D Y:=by show ¬ Y=D;rcases hxy with ⟨rfl,rfl⟩ | ⟨rfl,rfl⟩ <;> omega
 exact ⟨ML,rv,h1.step s (by show ¬ M+4=D;omega),h2.step s (by show ¬ M+4=D;omega) h0,X,Y,pa,pb,k,kv,hxy,hbx.step s (by show ¬ M+1=D;omega),hl.step s h0,hc.step s hX h0,hoo.step s hY h0,hd⟩
theorem GAt.set {w w':World} {o o':Own} {R pg pn i:Nat} {xs:List xI} {zs:List Am} {g:GN} {x:xI} {z z':Am} (h:GAt w o R pg pn xs zs g) (_hR:R ≠ 0) (hn:xs.length<=3) (hxi:xs[i]?=some x) (hzi:zs[i]?=some z)
  (s:aj (KC x.D x.M) w o w' o') (hz:Bc w' o' x.D x.M x.pz x.ps x.pd z'):GAt w' o' R pg pn xs (zs.set i z') g:=by
 obtain ⟨h1,h2,h3,h4,h5⟩:=h;obtain ⟨q1,q2,q3⟩:=h3.at' i x hxi;have hi:=(List.getElem?_eq_some_iff.1 hxi).1;refine ⟨h1.step s (by unfold KC;omega) (by unfold KC;omega),h2.step s (by unfold KC;omega) (by unfold KC;omega),h3,by rw [List.length_set];exact h4,fun j y v hy hv => ?_⟩;obtain ⟨r1,r2,r3⟩:=h3.at' j y hy;have hj:=(List.getElem?_eq_some_iff.1 hy).1
 by_cases hij:i=j
 ·subst hij;rw [hxi] at hy
  cases hy
  rw [List.getElem?_set_self (by rw [<-h4];exact hi)] at hv
  cases hv
  exact ⟨(h5 i x z hxi hzi).1.step s (by unfold KC;omega),hz⟩
 ·rw [List.getElem?_set_ne hij] at hv;obtain ⟨k1,k2⟩:=h5 j y v hy hv;have hap:x.M+4<=y.M \/ y.M+4<=x.M:=by
   rcases Nat.lt_or_gt_of_ne hij with hl | hl
   ·exact h3.apart i j x y hl hxi hy
   ·exact (h3.apart j i y x hl hy hxi).symm
  exact ⟨k1.step s (by unfold KC;omega),k2.step s fun t ht=>⟨by unfold KC at ht;omega,by unfold KC at ht ⊢;omega⟩⟩
section
variable {w:World} {o:Own} {R pg pn:Nat} {xs:List xI} {zs:List Am} {g:GN} {x:xI} {z:Am}
def Am.Agt (z:Am) (d:Af):Am:={ z with s:={ z.s with d:=d } }
theorem AmO (hx:Afp w o x) (hz:Bc w o x.D x.M x.pz x.ps x.pd z):Calls prog 48 #[.pointer (some ⟨x.px,0,none⟩)] w (XL (KC x.D x.M) w o fun v w' o'=>v = .int .i64 0/\Bc w' o' x.D x.M x.pz x.ps x.pd (z.Agt z.s.d.kill)):=by
 have hdk:Bg w o x.D x.pd z.s.d:=by
  obtain ⟨_,_,_,_,_,_,_,_,_,_,_,hd⟩:=hz.store;exact hd
 have hc:=ae (aQ hdk);have hzH:=ae hz;have c0:=ag hx.1 1;simp only [ay,ax] at c0;unfold Uc at c0;clear hx hz hdk;go_enter func48,ntmps48;go_wp2_with fail;refine hc.out.mono ?_;rintro e W1 ⟨v1,o1,rfl,hs1, -,hd⟩;have hF:=ae (aI (hs1.mono (T':=KC x.D x.M) fun _ h => .inl h) (hzH.out.Agt hs1 hd));clear hs1 hd hzH hc;go_wp2_with fail;go_ret;exact ⟨_,o1,rfl,hF.out.1,rfl,hF.out.2⟩
theorem AoD (h:GAt w o R pg pn xs zs g) (hR:R ≠ 0) (hn:xs.length<=3) (i:Nat) (hxi:xs[i]?=some x) (hzi:zs[i]?=some z):Calls prog 13 #[.pointer (some ⟨pg,0,none⟩), .int .i64 (i:Int)] w (XL (KC x.D x.M) w o fun v w' o'=>v = .int .i64 0/\GAt w' o' R pg pn xs (zs.set i (z.Agt z.s.d.kill)) g):=by
 obtain ⟨h1,h2⟩:=h.2.2.2.2 i x z hxi hzi;have ha:=ae (Acd h.1 i hxi 48 #[] _ Tryz.call48 (AmO h1 h2) (fun e w' hq=>by obtain ⟨v, -,hv, -⟩:=hq;exact ⟨v,hv⟩));have hH:=ae h;clear h h1 h2;go_enter func13,ntmps13;go_wp2_with fail;refine ha.out.mono ?_;rintro e W1 ⟨v1,o1,rfl,hs1,rfl,hz1⟩;have hF:=ae (aI hs1 (hH.out.set hR hn hxi hzi hs1 hz1));clear hs1 hz1 hH ha;go_wp2_with fail;go_ret;exact ⟨_,o1,rfl,hF.out.1,rfl,hF.out.2⟩
end
def TGB (n id B:Nat) (t:DX):Prop:=∀ x ∈ t,x.1<n/\x.1 ≠ id/\AP x.2.ls<=B
theorem TGB.nil (n id B:Nat):TGB n id B []:=by intro x hx;simp at hx
theorem TGB.others (z:Aj) (f:Nat->BG) {B:Nat} (hB:∀ i,AP (f i).ls<=B):TGB z.n z.id B (z.others f):=fun t ht=>by
 obtain ⟨h1,h2,h3⟩:=Aj.Xd ht;exact ⟨h1,h2,by rw [h3];exact hB _⟩
theorem TGB.one {n id B s:Nat} {m:BG} (h:s<n) (h2:s ≠ id) (h3:AP m.ls<=B):TGB n id B [(s,m)]:=by
 intro x hx;simp only [List.mem_singleton] at hx;subst hx;exact ⟨h,h2,h3⟩
theorem TGB.append {n id B:Nat} {s t:DX} (h:TGB n id B s) (h2:TGB n id B t):TGB n id B (s++t):=by
 intro x hx
 rcases List.mem_append.1 hx with hx | hx
 ·exact h x hx
 ·exact h2 x hx
namespace Aj
theorem Anl (z:Aj) (mine:BitVec 64) {has:List (Option (BitVec 64 × List Ar))} {B:Nat} (h:∀ p,some p ∈ has->AP p.2<=B):TGB z.n z.id B (z.lead mine has).2:=by
 unfold lead;split
 ·exact .nil _ _ _
 cases hb:Qr has with
 | none=>exact .nil _ _ _
 | some p =>
  simp only;split
  ·refine .others z _ fun i=>h p ?_
   rcases NZ has none p hb with h1 | h1
   ·simp at h1
   ·exact h1
  ·exact .nil _ _ _
theorem ApB {z:Aj} {B:Nat} (h:NOk B z):TGB z.n z.id B z.stand.2:=by
 unfold stand;simp only;split
 ·exact .nil _ _ _
 split
 ·refine .append (.others z _ fun i=>Nat.zero_le _) (Anl (z:={ z with k:=_,BB:=_,waited:=0 }) _ fun p hp => ?_)
  rcases List.mem_or_eq_of_mem_set hp with hx | hx
  ·have:=List.eq_of_mem_replicate hx;simp at this
  ·simp only [Option.some.injEq] at hx;subst hx;exact h.ls.b
 ·exact .nil _ _ _
theorem Asn {z:Aj} {B:Nat} (h:NOk B z):TGB z.n z.id B z.tick.2:=by
 have key:∀ z:Aj,NOk B z->TGB z.n z.id B (if 3+2*z.id<z.waited+1 then ({ z with waited:=z.waited+1 }:Aj).stand else (({ z with waited:=z.waited+1 }:Aj),[])).2:=by
  intro z h;split
  ·exact ApB (z:={ z with waited:=z.waited+1 }) ⟨⟨h.n1,h.n3,h.id,h.ls,h.cp,h.pt,h.se,h.co⟩,h.ro⟩
  ·exact .nil _ _ _
 obtain ⟨id,n,k,BB,waited,seen,Ag⟩:=z
 cases BB with
 | follows=>exact key _ h
 | stands a b=>exact key _ h
 | leads mine nR base ready =>
  refine .others _ _ fun i => ?_;split
  ·exact h.ls.b
  ·exact Nat.le_trans (FN _ _) h.ls.b
theorem AsG {z:Aj} {B b:Nat} (h:NOk B z) {src:Nat} (hs:src<z.n) (hi:src ≠ z.id) {m:BG} (hb:AP m.ls<=b):TGB z.n z.id (B+b) (z.hear src m).2:=by
 rw [MZ];have hro:=h.ro;have hlb:=h.ls.b;obtain ⟨id,n,k,BB,waited,seen,Ag⟩:=z;dsimp only at hro hs hi hlb ⊢;generalize Fj seen m.e=sn;unfold Ec;split
 ·unfold BK;split
  ·exact .nil _ _ _
  split
  ·exact .one hs hi (Nat.zero_le _)
  split
  ·exact .one hs hi (Nat.le_trans hlb (Nat.le_add_right _ _))
  ·exact .nil _ _ _
 split
 ·unfold Bj
  cases BB with
  | follows=>exact .nil _ _ _
  | leads a b c d=>exact .nil _ _ _
  | stands mine has =>
   simp only;split
   ·exact .nil _ _ _
   ·refine Anl (z:={ id:=id,n:=n,k:=k,BB:=_,waited:=waited,seen:=sn,Ag:=Ag }) _ fun p hp => ?_;split at hp
    ·exact Nat.le_trans (hro.2.2.2 p hp).b (Nat.le_add_right _ _)
    ·rcases List.mem_or_eq_of_mem_set hp with hx | hx
     ·exact Nat.le_trans (hro.2.2.2 p hx).b (Nat.le_add_right _ _)
     ·simp only [Option.some.injEq] at hx;subst hx;exact Nat.le_trans hb (Nat.le_add_left _ _)
 split
 ·unfold Cj;exact .nil _ _ _
 split
 ·unfold BD;split
  ·exact .nil _ _ _
  split
  ·exact .one hs hi (Nat.zero_le _)
  split
  ·exact .one hs hi (Nat.zero_le _)
  split
  ·exact .one hs hi (Nat.zero_le _)
  ·exact .nil _ _ _
 split
 ·unfold BF;split
  ·exact .nil _ _ _
  split
  ·exact .one hs hi (Nat.zero_le _)
  split
  ·exact .nil _ _ _
  simp only;split
  ·exact .nil _ _ _
  split
  ·exact .one hs hi (Nat.zero_le _)
  split
  ·exact .one hs hi (Nat.zero_le _)
  ·exact .nil _ _ _
 ·unfold CJ
  cases BB with
  | follows=>exact .nil _ _ _
  | stands a b=>exact .nil _ _ _
  | leads a b c d =>
   simp only;split <;> exact .nil _ _ _
theorem AiA (z:Aj) (mine:BitVec 64) (nR:List Int) (base:Nat) (ready:Bool):(z.count mine nR base ready).id=z.id/\(z.count mine nR base ready).n=z.n:=(EU z mine nR base ready).2.2
theorem AnB (z:Aj):z.stand.1.id=z.id/\z.stand.1.n=z.n:=by
 unfold stand;simp only;split
 ·exact ⟨rfl,rfl⟩
 split
 ·exact (YN _ _ _).2
 ·exact ⟨rfl,rfl⟩
theorem ApA (z:Aj):z.tick.1.id=z.id/\z.tick.1.n=z.n:=by
 obtain ⟨id,n,k,BB,waited,seen,Ag⟩:=z;have key:∀ z:Aj,(if 3+2*z.id<z.waited+1 then ({ z with waited:=z.waited+1 }:Aj).stand else (({ z with waited:=z.waited+1 }:Aj),[])).1.id=z.id/\(if 3+2*z.id<z.waited+1 then ({ z with waited:=z.waited+1 }:Aj).stand else (({ z with waited:=z.waited+1 }:Aj),[])).1.n=z.n:=by
  intro z;split
  ·exact AnB _
  ·exact ⟨rfl,rfl⟩
 cases BB with
 | follows=>exact key ⟨id,n,k, .follows,waited,seen,Ag⟩
 | stands a b=>exact key ⟨id,n,k, .stands a b,waited,seen,Ag⟩
 | leads mine nR base ready=>exact ⟨rfl,rfl⟩
theorem Arx (z:Aj) (src:Nat) (m:BG):(z.hear src m).1.id=z.id/\(z.hear src m).1.n=z.n:=by
 rw [MZ];show (({ z with seen:=Fj z.seen m.e }:Aj).Ec src m).1.id=({ z with seen:=Fj z.seen m.e }:Aj).id/\(({ z with seen:=Fj z.seen m.e }:Aj).Ec src m).1.n=({ z with seen:=Fj z.seen m.e }:Aj).n;generalize ({ z with seen:=Fj z.seen m.e }:Aj)=y;unfold Ec;split
 ·unfold BK;repeat (split <;> try exact ⟨rfl,rfl⟩)
 split
 ·unfold Bj;split
  ·split
   ·exact ⟨rfl,rfl⟩
   ·exact (YN _ _ _).2
  ·exact ⟨rfl,rfl⟩
 split
 ·unfold Cj;simp only;split <;> exact ⟨rfl,rfl⟩
 split
 ·unfold BD;repeat (split <;> try exact ⟨rfl,rfl⟩)
 split
 ·unfold BF;simp only;repeat (split <;> try exact ⟨rfl,rfl⟩)
 ·unfold CJ;split
  ·split
   ·exact AiA _ _ _ _ _
   ·exact ⟨rfl,rfl⟩
  ·exact ⟨rfl,rfl⟩
theorem AjV (z:Aj) (b:List UInt8):(z.BL b).1.id=z.id/\(z.BL b).1.n=z.n:=by
 unfold BL;split
 ·exact ⟨rfl,rfl⟩
 split
 ·split
  ·exact ⟨rfl,rfl⟩
  ·split
   ·exact AiA _ _ _ _ _
   ·exact ⟨rfl,rfl⟩
 ·exact ⟨rfl,rfl⟩
end Aj
theorem Aje {m:BG} (h:m.ls.length<=256):m.put.length<=3200+AP m.ls:=by
 unfold BG.put GR;simp only [List.length_cons,List.length_append,Az,Ej];omega
structure PG where
 ys:List Aj
 off:List Bool
 ls:List (Nat × Nat × BG)
 cut:List (Nat × Nat × Bool)
def Ua (l:List (Nat × Nat × BG)):List Aci:=l.map fun x=>⟨x.1,x.2.1,x.2.2.put⟩
def AjN (l:List (Nat × Nat × BG)) (src:Nat) (ts:DX):List (Nat × Nat × BG):=ts.foldl (fun l t=>if 4096<=l.length then l else l++[(src,t.1,t.2)]) l
def Ago (n B:Nat) (l:List (Nat × Nat × BG)):Prop:=l.length<=4096/\∀ x ∈ l,x.1<n/\x.2.1<n/\x.1 ≠ x.2.1/\x.2.2.May/\AP x.2.2.ls<=B
theorem Ago.mono {n B B':Nat} {l:List (Nat × Nat × BG)} (h:Ago n B l) (hB:B<=B'):Ago n B' l:=⟨h.1,fun x hx=>by
 obtain ⟨h1,h2,h3,h4,h5⟩:=h.2 x hx;exact ⟨h1,h2,h3,h4,Nat.le_trans h5 hB⟩⟩
theorem AaL (l:List (Nat × Nat × BG)):(Ua l).length=l.length:=by simp [Ua]
theorem Ago.send {n B src:Nat} {l:List (Nat × Nat × BG)} {ts:DX} (h:Ago n B l) (hs:src<n) (ht:TGB n src B ts) (hm:Aj.EH ts):Ago n B (AjN l src ts):=by
 induction ts generalizing l with
 | nil=>exact h
 | cons t ts ih =>
  refine ih (l:=if 4096<=l.length then l else l++[(src,t.1,t.2)]) ?_ (fun x hx=>ht x (List.mem_cons_of_mem _ hx)) (fun x hx=>hm x (List.mem_cons_of_mem _ hx))
  split
  ·exact h
  ·refine ⟨by simp;omega,fun x hx => ?_⟩
   rcases List.mem_append.1 hx with hx | hx
   ·exact h.2 x hx
   ·simp only [List.mem_singleton] at hx;subst hx;have h1:=ht t (by simp);exact ⟨hs,h1.1,Ne.symm h1.2.1,hm t (by simp),h1.2.2⟩
theorem Air {n B src:Nat} {cut:List (Nat × Nat × Bool)} (hs:src<n) (hB:B<=90000) {ts:DX} (ht:TGB n src B ts) (hm:Aj.EH ts) (l:List (Nat × Nat × BG)) :
  (⟨n,Ua l,cut⟩:GN).sends src (Ed ts)=⟨n,Ua (AjN l src ts),cut⟩:=by
 induction ts generalizing l with
 | nil=>rfl
 | cons t ts ih =>
  have h1:=ht t (by simp);have h2:=Aje (m:=t.2) (hm t (by simp)).n1;have e:((⟨n,Ua l,cut⟩:GN).send ⟨src,t.1,t.2.put⟩).1=⟨n,Ua (if 4096<=l.length then l else l++[(src,t.1,t.2)]),cut⟩:=by
   unfold GN.send;rw [AcP _ hs h1.1 (Ne.symm h1.2.1)];have h3:¬ 2097152<t.2.put.length:=by omega
   simp only [h3,Bool.not_true,decide_false,Bool.or_self,Bool.false_eq_true,if_false,AaL];split
   ·rfl
   ·simp [Ua]
  show ((⟨n,Ua l,cut⟩:GN).send ⟨src,t.1,t.2.put⟩).1.sends src (Ed ts)=_;rw [e];exact ih (fun x hx=>ht x (List.mem_cons_of_mem _ hx)) (fun x hx=>hm x (List.mem_cons_of_mem _ hx)) _
theorem Ago.without {n k B:Nat} {l:List (Nat × Nat × BG)} (h:Ago n B l):Ago n B (l.take k++l.drop (k+1)):=by
 refine ⟨?_,fun x hx => ?_⟩
 ·have:=h.1;rw [List.length_append,List.length_take,List.length_drop];omega
 ·rcases List.mem_append.1 hx with hx | hx
  ·exact h.2 x (List.mem_of_mem_take hx)
  ·exact h.2 x (List.mem_of_mem_drop hx)
theorem AiT (n k:Nat) (l:List (Nat × Nat × BG)) (cut:List (Nat × Nat × Bool)):(⟨n,Ua l,cut⟩:GN).without k=⟨n,Ua (l.take k++l.drop (k+1)),cut⟩:=by
 simp [GN.without,Ua,List.map_take,List.map_drop]
theorem Asm {l:List (Nat × Nat × BG)} {k:Nat} {x:Nat × Nat × BG} (h:l[k]?=some x) (hk:k<(Ua l).length):(Ua l)[k]=⟨x.1,x.2.1,x.2.2.put⟩:=by
 have:(Ua l)[k]?=some ⟨x.1,x.2.1,x.2.2.put⟩:=by unfold Ua;rw [List.getElem?_map,h];rfl
 rw [List.getElem?_eq_getElem hk] at this;exact Option.some.inj this
namespace PG
def cuts (p:PG) (a b:Nat):Bool:=GN.cutAt p.cut (min a b) (max a b)
def tick (p:PG) (i:Nat):PG × Int:=
 match p.ys[i]?,p.off[i]? with
 | some y,some false=>({ p with ys:=p.ys.set i y.tick.1,ls:=AjN p.ls i y.tick.2 },0)
 | _,_=>(p,9)
def take (p:PG) (k:Nat):PG × Int:=
 match p.ls[k]? with
 | none=>(p,1)
 | some x =>
  if p.cuts x.1 x.2.1=true then (p,65) else
  match p.ys[x.2.1]?,p.off[x.2.1]? with
  | some y,some false=>({ p with ys:=p.ys.set x.2.1 (y.hear x.1 x.2.2).1,ls:=AjN (p.ls.take k++p.ls.drop (k+1)) x.2.1 (y.hear x.1 x.2.2).2 },0)
  | _,_=>({ p with ls:=p.ls.take k++p.ls.drop (k+1) },9)
def BL (p:PG) (i:Nat) (b:List UInt8):PG × Int:=
 match p.ys[i]?,p.off[i]? with
 | some y,some false=>({ p with ys:=p.ys.set i (y.BL b).1 },(y.BL b).2)
 | _,_=>(p,9)
def kill (p:PG) (i:Nat):PG:={ p with off:=p.off.set i true }
def start (p:PG) (i:Nat):PG:=
 match p.ys[i]? with
 | some y=>{ p with ys:=p.ys.set i (Aj.new i p.ys.length y.k),off:=p.off.set i false }
 | none=>p
def new (n:Nat):PG:=⟨(List.range n).map fun i=>Aj.new i n ⟨0,0,[]⟩,List.replicate n false,[],[]⟩
def bH (B:Nat) (y:Aj):Bool:=decide (AP y.k.lines<=B) && match y.BB with
 | .stands _ has=>has.all fun o=>match o with
  | some p=>decide (AP p.2<=B)
  | none=>true
 | _=>true
def fits (B:Nat) (p:PG):Bool:=p.ys.all (bH B) && p.ls.all fun x=>decide (AP x.2.2.ls<=B)
end PG
theorem NOk.lower {B B':Nat} {y:Aj} (h:NOk B y) (hf:PG.bH B' y=true):NOk B' y:=by
 unfold PG.bH at hf;obtain ⟨h0,hro⟩:=h;obtain ⟨n1,n3,id,ls,cp,pt,se,co⟩:=h0;obtain ⟨yid,n,k,BB,waited,seen,Ag⟩:=y;simp only [Bool.and_eq_true,decide_eq_true_eq] at hf;refine ⟨⟨n1,n3,id,⟨ls.n,ls.m,hf.1⟩,cp,pt,se,co⟩, ?_⟩
 cases BB with
 | follows=>trivial
 | leads a b c d=>exact hro
 | stands mine has =>
  refine ⟨hro.1,hro.2.1,hro.2.2.1,fun p hp => ?_⟩;have h1:=hro.2.2.2 p hp;have h2:=List.all_eq_true.1 hf.2 _ hp;exact ⟨h1.n,h1.m,by simpa using h2⟩
def AZ.Avy (t:AZ):AZ:={ t with d:=t.d.kill }
def AsP (C K B:Nat) (off:Bool) (z:Am) (y:Aj):Prop:=
 z.BN=y/\NOk B y/\∃ t:AZ,SU C K t/\z.s=if off=true then t.Avy else t
theorem AsP.mono {C K K' B B':Nat} {off:Bool} {z:Am} {y:Aj} (h:AsP C K B off z y) (hK:K<=K') (hB:B<=B'):AsP C K' B' off z y:=by
 obtain ⟨h1,h2,t,h3,h4⟩:=h;exact ⟨h1,h2.mono hB,t,h3.mono hK,h4⟩
theorem AsP.on {C K B:Nat} {z:Am} {y:Aj} (h:AsP C K B false z y):Am.NP K B z/\SU C K z.s:=by
 obtain ⟨rfl,h2,t,h3,h4⟩:=h;have h4':z.s=t:=by rw [h4];rfl
 rw [<-h4'] at h3;exact ⟨⟨h3.sp,h2⟩,h3⟩
theorem AsP.mk {C K B:Nat} {z:Am} {y:Aj} (h1:z.BN=y) (h2:NOk B y) (h3:SU C K z.s):AsP C K B false z y:=⟨h1,h2,z.s,h3,rfl⟩
theorem AsP.dead {C K B:Nat} {off:Bool} {z:Am} {y:Aj} (h:AsP C K B off z y):z.dead=off:=by
 obtain ⟨h1,h2,t,h3,h4⟩:=h;unfold Am.dead;rw [h4]
 cases off with
 | false=>exact h3.sp.dead
 | true=>show (t.dead || true)=true;simp
theorem AsP.kill {C K B:Nat} {off:Bool} {z:Am} {y:Aj} (h:AsP C K B off z y):AsP C K B true (z.Agt z.s.d.kill) y:=by
 obtain ⟨h1,h2,t,h3,h4⟩:=h;refine ⟨h1,h2,t,h3, ?_⟩;show { z.s with d:=z.s.d.kill }=t.Avy;rw [h4]
 cases off <;> rfl
namespace PG
def net (p:PG):GN:=⟨p.ys.length,Ua p.ls,p.cut⟩
def drop (p:PG) (k:Int):PG:=if 0<=k/\k<(p.ls.length:Int) then { p with ls:=p.ls.take k.toNat++p.ls.drop (k.toNat+1) } else p
def hold (p:PG) (k:Int):PG:=if 0<=k/\k<(p.ls.length:Int) then { p with ls:=p.ls.take k.toNat++p.ls.drop (k.toNat+1)++(p.ls[k.toNat]?).toList } else p
def double (p:PG) (k:Int):PG:=if 0<=k/\k<(p.ls.length:Int) then (if 4096<=p.ls.length then p else { p with ls:=p.ls++(p.ls[k.toNat]?).toList }) else p
theorem Aco (p:PG) (k:Int):(p.net.may k=0)=(0<=k/\k<(p.ls.length:Int)):=by
 unfold GN.may net;simp only [AaL];split
 ·simp;omega
 ·simp;omega
theorem Aew (l:List (Nat × Nat × BG)) (k:Nat):((Ua l)[k]?).toList=Ua (l[k]?).toList:=by
 unfold Ua;rw [List.getElem?_map]
 cases l[k]? <;> rfl
theorem AeA (a b:List (Nat × Nat × BG)):Ua a++Ua b=Ua (a++b):=by unfold Ua;rw [List.map_append]
theorem AkU (p:PG) (k:Int):(p.net.drop k).1=(p.drop k).net:=by
 unfold GN.drop drop
 by_cases h:0<=k/\k<(p.ls.length:Int)
 ·rw [if_pos h,if_pos (by rw [Aco];exact h)];exact AiT _ _ _ _
 ·rw [if_neg h,if_neg (by rw [Aco];exact h)]
theorem AkH (p:PG) (k:Int):(p.net.hold k).1=(p.hold k).net:=by
 unfold GN.hold hold
 by_cases h:0<=k/\k<(p.ls.length:Int)
 ·rw [if_pos h,if_pos (by rw [Aco];exact h),show p.net.without k.toNat=_ from AiT _ _ _ _];show (⟨_,Ua _++((Ua p.ls)[k.toNat]?).toList,_⟩:GN)=_;rw [Aew,AeA];rfl
 ·rw [if_neg h,if_neg (by rw [Aco];exact h)]
theorem Ahy (p:PG) (k:Int):(p.net.double k).1=(p.double k).net:=by
 unfold GN.double double
 by_cases h:0<=k/\k<(p.ls.length:Int)
 ·rw [if_pos h,if_pos (by rw [Aco];exact h)]
  by_cases h2:4096<=p.ls.length
  ·rw [if_pos h2,if_pos (show 4096<=p.net.l.length by unfold net;simp only [AaL];exact h2)]
  ·rw [if_neg h2,if_neg (show ¬ 4096<=p.net.l.length by unfold net;simp only [AaL];exact h2)];show (⟨_,Ua p.ls++((Ua p.ls)[k.toNat]?).toList,_⟩:GN)=_;rw [Aew,AeA];rfl
 ·rw [if_neg h,if_neg (by rw [Aco];exact h)]
theorem Ahp (p:PG) (k:Int):∀ x ∈ (p.drop k).ls,x ∈ p.ls:=by
 intro x hx;unfold drop at hx;split at hx
 ·rcases List.mem_append.1 hx with hx | hx
  ·exact List.mem_of_mem_take hx
  ·exact List.mem_of_mem_drop hx
 ·exact hx
theorem AhC {α:Type} {l:List α} {k:Nat} {x:α} (h:x ∈ (l[k]?).toList):x ∈ l:=by
 cases hk:l[k]? with
 | none=>rw [hk] at h;simp at h
 | some a=>rw [hk] at h;simp at h;subst h;exact List.mem_of_getElem? hk
theorem Agr (p:PG) (k:Int):∀ x ∈ (p.hold k).ls,x ∈ p.ls:=by
 intro x hx;unfold hold at hx;split at hx
 ·rcases List.mem_append.1 hx with hx | hx
  ·rcases List.mem_append.1 hx with hx | hx
   ·exact List.mem_of_mem_take hx
   ·exact List.mem_of_mem_drop hx
  ·exact AhC hx
 ·exact hx
theorem Adr (p:PG) (k:Int):∀ x ∈ (p.double k).ls,x ∈ p.ls:=by
 intro x hx;unfold double at hx;split at hx
 ·split at hx
  ·exact hx
  ·rcases List.mem_append.1 hx with hx | hx
   ·exact hx
   ·exact AhC hx
 ·exact hx
theorem AkW (p:PG) (k:Int) (h:p.ls.length<=4096):(p.drop k).ls.length<=4096:=by
 unfold drop;split
 ·show (p.ls.take _++p.ls.drop _).length<=4096;rw [List.length_append,List.length_take,List.length_drop];omega
 ·exact h
theorem AhK {α:Type} (l:List α) (k:Nat):((l[k]?).toList).length<=1:=by cases l[k]? <;> simp
theorem AkI (p:PG) (k:Int) (h:p.ls.length<=4096):(p.hold k).ls.length<=4096:=by
 unfold hold;split
 ·have:=AhK p.ls k.toNat;show (p.ls.take _++p.ls.drop _++_).length<=4096;rw [List.length_append,List.length_append,List.length_take,List.length_drop];omega
 ·exact h
theorem AhA (p:PG) (k:Int) (h:p.ls.length<=4096):(p.double k).ls.length<=4096:=by
 unfold double;split
 ·split
  ·exact h
  ·have:=AhK p.ls k.toNat;show (p.ls++_).length<=4096;rw [List.length_append];omega
 ·exact h
theorem Aeq (p:PG) (k:Int):(p.drop k).ys=p.ys/\(p.drop k).off=p.off/\(p.drop k).cut=p.cut:=by unfold drop;split <;> exact ⟨rfl,rfl,rfl⟩
theorem Aeo (p:PG) (k:Int):(p.hold k).ys=p.ys/\(p.hold k).off=p.off/\(p.hold k).cut=p.cut:=by unfold hold;split <;> exact ⟨rfl,rfl,rfl⟩
theorem AcD (p:PG) (k:Int):(p.double k).ys=p.ys/\(p.double k).off=p.off/\(p.double k).cut=p.cut:=by
 unfold double;split
 ·split <;> exact ⟨rfl,rfl,rfl⟩
 ·exact ⟨rfl,rfl,rfl⟩
end PG
theorem Ajz {src:Nat} {ts:DX} {l:List (Nat × Nat × BG)}:∀ x ∈ AjN l src ts,x ∈ l \/ ∃ t ∈ ts,x=(src,t.1,t.2):=by
 induction ts generalizing l with
 | nil=>exact fun x hx => .inl hx
 | cons t ts ih =>
  intro x hx
  rcases ih (l:=if 4096<=l.length then l else l++[(src,t.1,t.2)]) x hx with h | ⟨t',h,rfl⟩
  ·split at h
   ·exact .inl h
   ·rcases List.mem_append.1 h with h | h
    ·exact .inl h
    ·simp only [List.mem_singleton] at h;exact .inr ⟨t,by simp,h⟩
  ·exact .inr ⟨t',List.mem_cons_of_mem _ h,rfl⟩
structure Lone (y:Aj):Prop where
 id:y.id=0
 n:y.n=3
 co:y.Ag=0
 ls:y.k.lines=[]
 cu:y.k.current=0
 ro:y.BB = .follows \/ ∃ e,y.BB = .stands e [some (0,[]),none,none]
theorem Lone.leads {y:Aj} (h:Lone y):y.OD=false:=by
 unfold Aj.OD
 rcases h.ro with h | ⟨e,h⟩ <;> rw [h]
theorem Lone.BL {y:Aj} (h:Lone y) (b:List UInt8):(y.BL b).1=y:=by
 unfold Aj.BL;split
 ·rfl
 ·rcases h.ro with h | ⟨e,h⟩ <;> rw [h]
theorem Lone.stand {y:Aj} (h:Lone y):Lone y.stand.1/\y.stand.1.waited<=y.waited:=by
 obtain ⟨id,n,⟨pr,cu,ls⟩,BB,waited,seen,Ag⟩:=y;obtain ⟨rfl,rfl,rfl,e1,e2,hro⟩:=h;dsimp only at e1 e2;subst e1 e2;unfold Aj.stand;simp only;split
 ·exact ⟨⟨rfl,rfl,rfl,rfl,rfl,hro⟩,Nat.le_refl _⟩
 split
 ·rename_i hk;rw [GM hk];exact ⟨⟨rfl,rfl,rfl,rfl,rfl, .inr ⟨_,rfl⟩⟩,Nat.zero_le _⟩
 ·exact ⟨⟨rfl,rfl,rfl,rfl,rfl,hro⟩,Nat.le_refl _⟩
theorem Lone.tick {y:Aj} (h:Lone y):Lone y.tick.1/\y.tick.1.waited<=y.waited+1:=by
 have key:∀ z:Aj,Lone z->Lone (if 3+2*z.id<z.waited+1 then ({ z with waited:=z.waited+1 }:Aj).stand else (({ z with waited:=z.waited+1 }:Aj),[])).1/\(if 3+2*z.id<z.waited+1 then ({ z with waited:=z.waited+1 }:Aj).stand else (({ z with waited:=z.waited+1 }:Aj),[])).1.waited<=z.waited+1:=by
  intro z h;have h':Lone ({ z with waited:=z.waited+1 }:Aj):=⟨h.id,h.n,h.co,h.ls,h.cu,h.ro⟩;split
  ·exact h'.stand
  ·exact ⟨h',Nat.le_refl _⟩
 obtain ⟨id,n,k,BB,waited,seen,Ag⟩:=y
 cases BB with
 | follows=>exact key _ h
 | stands a b=>exact key _ h
 | leads mine nR base ready=>rcases h.ro with h | ⟨e,h⟩ <;> cases h
structure AaE (N:Nat) (p:PG):Prop where
 n:p.ys.length=3
 y:∃ y,p.ys[0]?=some y/\Lone y
 w:∀ y ∈ p.ys,y.waited<=N
 off:p.off=[false,true,true]
 c1:p.cuts 0 1=true
 c2:p.cuts 0 2=true
 l:∀ x ∈ p.ls,x.1=0/\(x.2.1=1 \/ x.2.1=2)
namespace AaE
variable {N:Nat} {p:PG}
theorem mono (h:AaE N p) {N':Nat} (hN:N<=N'):AaE N' p:=⟨h.n,h.y,fun y hy=>Nat.le_trans (h.w y hy) hN,h.off,h.c1,h.c2,h.l⟩
theorem same (h:AaE N p) {p':PG} (h1:p'.ys=p.ys/\p'.off=p.off/\p'.cut=p.cut) (h2:∀ x ∈ p'.ls,x ∈ p.ls):AaE N p':=by
 obtain ⟨ys,off,ls,cut⟩:=p';obtain ⟨rfl,rfl,rfl⟩:=h1;exact ⟨h.n,h.y,h.w,h.off,h.c1,h.c2,fun x hx=>h.l x (h2 x hx)⟩
theorem tick (h:AaE N p) {B:Nat} (hok:∀ y,p.ys[0]?=some y->NOk B y):AaE (N+1) (p.tick 0).1:=by
 obtain ⟨y,hy,hl⟩:=h.y;have hb:=Aj.Asn (hok y hy);rw [hl.id,hl.n] at hb;obtain ⟨h1,h2⟩:=hl.tick;have hw:=h.w y (List.mem_of_getElem? hy);have hn:=h.n;have ho:p.off[0]?=some false:=by rw [h.off];rfl
 unfold PG.tick;rw [hy,ho];refine ⟨by simpa using hn,⟨_,List.getElem?_set_self (by omega),h1⟩,fun z hz => ?_,h.off,h.c1,h.c2,fun x hx => ?_⟩
 ·rcases List.mem_or_eq_of_mem_set hz with hz | rfl
  ·exact Nat.le_succ_of_le (h.w z hz)
  ·omega
 ·rcases Ajz x hx with hx | ⟨t,ht,rfl⟩
  ·exact h.l x hx
  ·obtain ⟨e1,e2, -⟩:=hb t ht;exact ⟨rfl,by show t.1=1 \/ t.1=2;omega⟩
theorem take (h:AaE N p) (k:Nat):(p.take k).1=p:=by
 unfold PG.take
 cases hk:p.ls[k]? with
 | none=>rfl
 | some x =>
  obtain ⟨e1,e2⟩:=h.l x (List.mem_of_getElem? hk);have hc:p.cuts x.1 x.2.1=true:=by
   rw [e1]
   rcases e2 with e2 | e2 <;> rw [e2]
   ·exact h.c1
   ·exact h.c2
  simp only;rw [if_pos hc]
theorem BL (h:AaE N p) (b:List UInt8):(p.BL 0 b).1=p:=by
 obtain ⟨y,hy,hl⟩:=h.y;have ho:p.off[0]?=some false:=by rw [h.off];rfl
 unfold PG.BL;rw [hy,ho];show ({ p with ys:=p.ys.set 0 (y.BL b).1 }:PG)=p;rw [hl.BL];have:p.ys.set 0 y=p.ys:=by
  apply List.ext_getElem?;intro j
  by_cases hij:0=j
  ·subst hij;rw [List.getElem?_set_self (List.getElem?_eq_some_iff.1 hy).1,hy]
  ·rw [List.getElem?_set_ne hij]
 rw [this]
end AaE
def Adc:PG:=⟨(PG.new 3).ys,[false,true,true],[],GN.Awx (GN.Awx [] 0 1 true) 0 2 true⟩
theorem Agl:AaE 0 Adc:=
 ⟨rfl,⟨_,rfl,⟨rfl,rfl,rfl,rfl,rfl, .inl rfl⟩⟩,by decide +kernel,rfl,by decide +kernel,by decide +kernel,fun x hx=>by simp [Adc] at hx⟩
def aY (x:xI) (Mx:Nat):Nat->Prop:=fun k=>k=x.Q \/ k=x.D \/ Mx<k
theorem GAt.reopen {w w':World} {o o':Own} {R pg pn i Mx:Nat} {xs:List xI} {zs:List Am} {g:GN} {x x':xI} {z':Am} (h:GAt w o R pg pn xs zs g) (_hR:R ≠ 0) (hn:xs.length<=3) (hxi:xs[i]?=some x)
  (hMx:R+20<=Mx/\∀ y ∈ xs,y.M+4<=Mx) (s:aj (aY x Mx) w o w' o') (h1:x'.Q=x.Q) (h2:x'.D=x.D) (h3:x'.M=Mx) (h4:x'.px=x.px)
  (hx:Afp w' o' x') (hz:Bc w' o' x'.D x'.M x'.pz x'.ps x'.pd z'):GAt w' o' R pg pn (xs.set i x') (zs.set i z') g:=by
 obtain ⟨g1,g2,g3,g4,g5⟩:=h;obtain ⟨q1,q2,q3⟩:=g3.at' i x hxi;have hi:=(List.getElem?_eq_some_iff.1 hxi).1;have hMi:=hMx.2;have hp:(xs.set i x').map (fun x=>Uc x.px)=xs.map fun x=>Uc x.px:=by
  apply List.ext_getElem?;intro j;rw [List.getElem?_map,List.getElem?_map]
  by_cases hij:i=j
  ·subst hij;rw [List.getElem?_set_self hi,hxi];show some (Uc x'.px)=some (Uc x.px);rw [h4]
  ·rw [List.getElem?_set_ne hij]
 have hg1:=g1.step s (by unfold aY;omega) (by unfold aY;omega);refine ⟨?_,g2.step s (by unfold aY;omega) (by unfold aY;omega),⟨fun j y hy => ?_,fun j k y v hjk hy hv => ?_⟩,by rw [List.length_set,List.length_set];exact g4,fun j y v hy hv => ?_⟩
 ·obtain ⟨bn,cap,e1,e2,e3,e4,e5⟩:=hg1;exact ⟨bn,cap,by rw [List.length_set];exact e1,e2,by rw [hp];exact e3,e4,e5⟩
 ·by_cases hij:i=j
  ·subst hij;rw [List.getElem?_set_self hi] at hy
   cases hy
   exact ⟨by rw [h1];exact q1,by rw [h2];exact q2,by rw [h3];exact hMx.1⟩
  ·rw [List.getElem?_set_ne hij] at hy;exact g3.at' j y hy
 ·by_cases hij:i=j
  ·subst hij;rw [List.getElem?_set_self hi] at hy
   cases hy
   rw [List.getElem?_set_ne (by omega)] at hv;exact .inr (by rw [h3];exact hMi v (List.mem_of_getElem? hv))
  ·rw [List.getElem?_set_ne hij] at hy
   by_cases hik:i=k
   ·subst hik;rw [List.getElem?_set_self hi] at hv
    cases hv
    exact .inl (by rw [h3];exact hMi y (List.mem_of_getElem? hy))
   ·rw [List.getElem?_set_ne hik] at hv;exact g3.apart j k y v hjk hy hv
 ·by_cases hij:i=j
  ·subst hij;rw [List.getElem?_set_self hi] at hy
   cases hy
   rw [List.getElem?_set_self (by rw [<-g4];exact hi)] at hv
   cases hv
   exact ⟨hx,hz⟩
  ·rw [List.getElem?_set_ne hij] at hy hv;obtain ⟨r1,r2,r3⟩:=g3.at' j y hy;have hj:=(List.getElem?_eq_some_iff.1 hy).1;obtain ⟨k1,k2⟩:=g5 j y v hy hv;have hy4:=hMi y (List.mem_of_getElem? hy);exact ⟨k1.step s (by unfold aY;omega),k2.step s fun t ht=>⟨by unfold aY at ht;omega,by unfold aY at ht;unfold KC;omega⟩⟩
theorem GAt.Anc {w w':World} {o o':Own} {R pg pn:Nat} {xs:List xI} {zs:List Am} {g g':GN} (h:GAt w o R pg pn xs zs g) (_hR:R ≠ 0) (_hn:xs.length<=3)
  (s:aj (ak (R+2)) w o w' o') (hg:KL w' o' (R+2) pn g'):GAt w' o' R pg pn xs zs g':=by
 obtain ⟨g1,g2,g3,g4⟩:=h;refine ⟨g1.step s (by unfold ak;omega) (by unfold ak;omega),hg,g3,g4.step s (by unfold ak;omega) fun x hx => ?_⟩;obtain ⟨i,hi,rfl⟩:=List.mem_iff_getElem.1 hx;obtain ⟨q1,q2,q3⟩:=g3.at' i _ (List.getElem?_eq_getElem hi);exact ⟨by unfold ak;omega,fun t ht=>by unfold ak at ht;unfold KC;omega⟩
theorem GAt.step0 {w w':World} {o o':Own} {R pg pn:Nat} {xs:List xI} {zs:List Am} {g:GN} (h:GAt w o R pg pn xs zs g) (s:aj ai w o w' o'):GAt w' o' R pg pn xs zs g:=by
 obtain ⟨g1,g2,g3,g4⟩:=h;exact ⟨g1.step s id id,g2.step s id id,g3,g4.step s id fun x hx=>⟨id,fun t ht=>ht.elim⟩⟩
def InT (x:xI) (R:Nat):Nat->Prop:=fun k=>KC x.D x.M k \/ k=R+2
section
variable {w:World} {o:Own} {R pg pn i K B:Nat} {xs:List xI} {zs:List Am} {g:GN} {x:xI} {z:Am}
theorem Ami (hx:Afp w o x) (hz:Bc w o x.D x.M x.pz x.ps x.pd z) (hd:z.dead=true) (a b:Option Addr):Calls prog 50 #[.pointer (some ⟨x.px,0,none⟩), .pointer a, .pointer b] w fun e w'=>e = .returned (.int .i64 9)/\w=w':=by
 have hc:=FI hz;rw [hd] at hc;have WV:=ae hc;have c0:=ag hx.1 0;simp only [ay] at c0;unfold Uc at c0;clear hc hx hz hd;go_enter func50,ntmps50;go_wp2_with fail;refine WV.out.mono ?_;rintro e W1 ⟨rfl,rfl⟩;go_wp2_with fail;go_ret;exact ⟨rfl,rfl⟩
theorem Aou (h:GAt w o R pg pn xs zs g) (i:Nat) (hxi:xs[i]?=some x) (hzi:zs[i]?=some z) (hd:z.dead=true) :
  Calls prog 14 #[.pointer (some ⟨pg,0,none⟩), .int .i64 (i:Int)] w (XL ai w o fun v _ _=>v = .int .i64 9):=by
 obtain ⟨W,oW,hW,⟨hst, -⟩, -⟩:=Ajq w o (.cells #[.pointer (some ⟨pg,0,none⟩)] 22) (.cells #[.int .i64 (i:Int)] 3);have hg:=h.step0 hst;obtain ⟨h1,h2⟩:=hg.2.2.2.2 i x z hxi hzi;have ha:=ae (Acd hg.1 i hxi 50 #[.pointer (some ⟨w.heap.size,0,none⟩), .pointer (some ⟨w.heap.size+1,0,none⟩)] _ Tryz.call50 (Ami h1 h2 hd _ _) (fun e w' hq=>⟨_,hq.1⟩));have XX:=ae hW;have Abe:=ae hst;clear h hg h1 h2 hxi hzi hd hW hst;go_enter func14,ntmps14;go_wp2_with fail;rw [XX.out];refine ha.out.mono ?_;rintro e W1 ⟨rfl,rfl⟩;go_wp2_with fail;go_ret;exact ⟨_,oW,rfl,Abe.out,rfl⟩
theorem Amv (h:GAt w o R pg pn xs zs g) (hR:R ≠ 0) (hn:xs.length<=3) (i:Nat) (hxi:xs[i]?=some x) (hzi:zs[i]?=some z) (hp:Am.NP K B z) (hK:K+606<65536) (hB:B<=90000) (hw:z.waited<=1000000) (hlen:g.l.length<=4096) (hi:i<g.n)
  (ht:∀ t ∈ Ed z.tick.2,t.1<g.n/\i ≠ t.1/\t.2.length<=2097152) {b1 b2:Nat} (hb1:At0 w o b1 (.cells #[.pointer (some ⟨pg,0,none⟩)] 22)) (hb2:At0 w o b2 (.cells #[.int .i64 (i:Int)] 3)) :
  Calls prog 50 #[.pointer (some ⟨x.px,0,none⟩), .pointer (some ⟨b1,0,none⟩), .pointer (some ⟨b2,0,none⟩)] w (XL (InT x R) w o fun v w' o'=>v = .int .i64 0/\GAt w' o' R pg pn xs (zs.set i z.tick.1) (g.sends i (Ed z.tick.2))):=by
 obtain ⟨h1,h2⟩:=h.2.2.2.2 i x z hxi hzi;obtain ⟨t1,t2,t3⟩:=h.2.2.1.at' i x hxi;have hx3:=(List.getElem?_eq_some_iff.1 hxi).1;have hc:=FI h2;rw [show z.dead=false from hp.sp.dead] at hc;have WV:=ae hc;have dr:aj ai w o w.drew o:=(aj.refl ai w o).drew;have htk:=ae (ZB (h2.step0 dr) hp hK hB hw);have hH:=ae (aI (h.step0 dr) (aI (h1.step dr id) (aI (hb1.step dr id) (aI (hb2.step dr id) dr))));have nQ:¬ KC x.D x.M x.Q:=by unfold KC;omega
 have n0:¬ KC x.D x.M 0:=by unfold KC;omega
 have c0:=ag h1.1 0;have q1:=hb1.cell 0;have q2:=hb2.cell 0;simp only [ay] at c0 q1 q2;unfold Uc at c0;have hS:=aI c0 (aI q1 q2);have hF:=ae (aI hxi (aI hzi (aI ht (aI hn hx3))));clear hc h h1 h2 hb1 hb2 hp dr hxi hzi ht q1 q2 hx3;go_enter func50,ntmps50;go_wp2_with fail;refine WV.out.mono ?_;rintro e W1 ⟨rfl,rfl⟩;go_wp2_with fail;refine Aa (fun w'=>w'.cell? ⟨x.px,0,none⟩=some (.pointer (some ⟨x.pz,0,none⟩))/\w'.cell? ⟨b1,0,none⟩=some (.pointer (some ⟨pg,0,none⟩))/\w'.cell? ⟨b2,0,none⟩=some (.int .i64 (i:Int))) (fun _=>true) (by kernel_rfl) hS (fun hHeld => ?_);refine tq 0 (h:=tq 1 (h:=tq 2 (h:=tq 3 (h:=tq 4 (h:=tq 5 (h:=tO 6 (h:=?_)))))));go_wp2_with fail;refine htk.out.mono ?_;rintro e W3 ⟨v3,o3,rfl,hs3,hou,hnd⟩;obtain ⟨g1,g2,g3,g4,g5⟩:=hH.out;obtain ⟨f1,f2,f3,f4,f5⟩:=hF.out;have k1:=g1.set hR f4 f1 f2 hs3 hnd;have e1:=g2.step hs3 nQ;have e2:=g3.step hs3 n0;have e3:=g4.step hs3 n0;have r0:=ag e1.1 0;have r1:=e2.cell 0;have r2:=e3.cell 0;simp only [ay] at r0 r1 r2;unfold Uc at r0;have hS3:=aI r0 (aI r1 r2);have hsn:=ae (Aiv k1.1 k1.2.1 (by omega) (by omega) (by omega) hlen i hi hou f3);have hE:=ae (aI k1 (aI e1 (aI e2 (aI e3 (g5.mono (T':=InT x R) (fun _ h=>h.elim) |>.trans (hs3.mono (T':=InT x R) fun _ h => .inl h))))));clear hs3 hou hnd g1 g2 g3 g4 g5 f1 f2 f3 f4 f5 k1 e1 e2 e3 r0 r1 r2 hH htk;go_wp2_with fail;refine ⟨fun _=>hS3, ?_⟩;refine tO 7 (h:=?_);go_wp2_with fail;refine hsn.out.mono ?_;rintro e W4 ⟨v4,o4,rfl,hs4,hn4⟩;obtain ⟨k1,e1,e2,e3,g5⟩:=hE.out;have r0:=ag (e1.step hs4 (by unfold ak;omega)).1 0;have r1:=(e2.step hs4 (by unfold ak;omega)).cell 0;have r2:=(e3.step hs4 (by unfold ak;omega)).cell 0;simp only [ay] at r0 r1 r2;unfold Uc at r0;have hS4:=aI r0 (aI r1 r2);have hG:=ae (aI (g5.trans (hs4.mono (T':=InT x R) fun _ h => .inr h)) (k1.Anc hR hF.out.2.2.2.1 hs4 hn4));clear hs4 hn4 k1 e1 e2 e3 g5 r0 r1 r2 hE hsn;go_wp2_with fail;refine ⟨fun _=>hS4, ?_⟩;refine tD (h:=?_);clear hS3 hS4;go_wp2_with fail;go_ret;exact ⟨_,o4,rfl,hG.out.1,rfl,hG.out.2⟩
theorem Aow (h:GAt w o R pg pn xs zs g) (hR:R ≠ 0) (hn:xs.length<=3) (i:Nat) (hxi:xs[i]?=some x) (hzi:zs[i]?=some z) (hp:Am.NP K B z) (hK:K+606<65536) (hB:B<=90000) (hw:z.waited<=1000000) (hlen:g.l.length<=4096) (hi:i<g.n)
  (ht:∀ t ∈ Ed z.tick.2,t.1<g.n/\i ≠ t.1/\t.2.length<=2097152) :
  Calls prog 14 #[.pointer (some ⟨pg,0,none⟩), .int .i64 (i:Int)] w (XL (InT x R) w o fun v w' o'=>v = .int .i64 0/\GAt w' o' R pg pn xs (zs.set i z.tick.1) (g.sends i (Ed z.tick.2))):=by
 obtain ⟨W,oW,hW,⟨hst, -⟩,hb1,hb2⟩:=Ajq w o (.cells #[.pointer (some ⟨pg,0,none⟩)] 22) (.cells #[.int .i64 (i:Int)] 3);have hg:=h.step0 hst;have ha:=ae (Acd hg.1 i hxi 50 #[.pointer (some ⟨w.heap.size,0,none⟩), .pointer (some ⟨w.heap.size+1,0,none⟩)] _ Tryz.call50 (Amv hg hR hn i hxi hzi hp hK hB hw hlen hi ht hb1 hb2) (fun e w' hq=>by obtain ⟨v, -,hv, -⟩:=hq;exact ⟨v,hv⟩));have XX:=ae hW;have Abe:=ae (hst.mono (T':=InT x R) fun _ h=>h.elim);clear h hg hxi hzi hp hW hst hb1 hb2 ht;go_enter func14,ntmps14;go_wp2_with fail;rw [XX.out];refine ha.out.mono ?_;rintro e W1 ⟨v1,o1,rfl,hs1,rfl,hg1⟩;have hF:=ae (aI (Abe.out.trans hs1) hg1);clear hs1 hg1 ha Abe;go_wp2_with fail;go_ret;exact ⟨_,o1,rfl,hF.out.1,rfl,hF.out.2⟩
end
section
variable {w:World} {o:Own} {R pg pn i K B:Nat} {xs:List xI} {zs:List Am} {g:GN} {x:xI} {z z':Am}
theorem Aib {er:Int} {ba:Option Addr} {bn bc:Nat} (h:GAt w o R pg pn xs zs g) (hR:R ≠ 0) (hn:xs.length<=3) (i:Nat) (hxi:xs[i]?=some x) (hzi:zs[i]?=some z)
  (hpr:Calls prog 47 #[.pointer (some ⟨x.pz,0,none⟩), .slice ba bn bc] w.drew (XL (KC x.D x.M) w.drew o fun v w' o'=>v = .int .i64 er/\Bc w' o' x.D x.M x.pz x.ps x.pd z'))
  {b1:Nat} (hb1:At0 w o b1 (.cells #[.slice ba bn bc] 29)) :
  Calls prog 46 #[.pointer (some ⟨x.px,0,none⟩), .pointer (some ⟨b1,0,none⟩)] w (XL (KC x.D x.M) w o fun v w' o'=>v = .int .i64 er/\GAt w' o' R pg pn xs (zs.set i z') g):=by
 obtain ⟨h1,h2⟩:=h.2.2.2.2 i x z hxi hzi;obtain ⟨t1,t2,t3⟩:=h.2.2.1.at' i x hxi;have hx3:=(List.getElem?_eq_some_iff.1 hxi).1;have dr:aj ai w o w.drew o:=(aj.refl ai w o).drew;have AiZ:=ae hpr;have hH:=ae (aI (h.step0 dr) (aI (h1.step dr id) (aI (hb1.step dr id) dr)));have nQ:¬ KC x.D x.M x.Q:=by unfold KC;omega
 have n0:¬ KC x.D x.M 0:=by unfold KC;omega
 have c0:=ag h1.1 0;have q1:=hb1.cell 0;simp only [ay] at c0 q1;unfold Uc at c0;have hS:=aI c0 q1;have hF:=ae (aI hxi (aI hzi hn));clear h h1 h2 hb1 dr hxi hzi q1 hx3 hpr c0;go_enter func46,ntmps46;go_wp2_with fail;refine Aa (fun w'=>w'.cell? ⟨x.px,0,none⟩=some (.pointer (some ⟨x.pz,0,none⟩))/\w'.cell? ⟨b1,0,none⟩=some (.slice ba bn bc)) (fun _=>true) (by kernel_rfl) hS (fun hHeld => ?_);refine tq 0 (h:=tq 1 (h:=tq 2 (h:=tq 3 (h:=tq 4 (h:=tO 5 (h:=?_))))));go_wp2_with fail;refine AiZ.out.mono ?_;rintro e W3 ⟨v3,o3,rfl,hs3,rfl,hnd⟩;obtain ⟨g1,g2,g3,g5⟩:=hH.out;obtain ⟨f1,f2,f4⟩:=hF.out;have r0:=ag (g2.step hs3 nQ).1 0;have r1:=(g3.step hs3 n0).cell 0;simp only [ay] at r0 r1;unfold Uc at r0;have hS3:=aI r0 r1;have hG:=ae (aI ((g5.mono (T':=KC x.D x.M) fun _ h=>h.elim).trans hs3) (g1.set hR f4 f1 f2 hs3 hnd));clear hs3 hnd g1 g2 g3 g5 f1 f2 f4 r0 r1 hH AiZ;go_wp2_with fail;refine ⟨fun _=>hS3, ?_⟩;refine tq 6 (h:=tD (h:=?_));clear hS3;go_wp2_with fail;go_ret;exact ⟨_,o3,rfl,hG.out.1,rfl,hG.out.2⟩
theorem AeX {er:Int} {ba:Option Addr} {bn bc:Nat} (h:GAt w o R pg pn xs zs g) (hR:R ≠ 0) (hn:xs.length<=3) (i:Nat) (hxi:xs[i]?=some x) (hzi:zs[i]?=some z)
  (hpr:∀ (W:World) (oW:Own),aj ai w o W oW->Calls prog 47 #[.pointer (some ⟨x.pz,0,none⟩), .slice ba bn bc] W (XL (KC x.D x.M) W oW fun v w' o'=>v = .int .i64 er/\Bc w' o' x.D x.M x.pz x.ps x.pd z')) :
  Calls prog 12 #[.pointer (some ⟨pg,0,none⟩), .int .i64 (i:Int), .slice ba bn bc] w (XL (KC x.D x.M) w o fun v w' o'=>v = .int .i64 er/\GAt w' o' R pg pn xs (zs.set i z') g):=by
 obtain ⟨W,oW,hW,⟨hst, -⟩,hb1⟩:=AaC w o (.cells #[.slice ba bn bc] 29);have hg:=h.step0 hst;have ha:=ae (Acd hg.1 i hxi 46 #[.pointer (some ⟨w.heap.size,0,none⟩)] _ Tryz.call46 (Aib hg hR hn i hxi hzi (hpr _ _ (hst.trans (aj.refl ai W oW).drew)) hb1) (fun e w' hq=>by obtain ⟨v, -,hv, -⟩:=hq;exact ⟨v,hv⟩));have XX:=ae hW;have Abe:=ae (hst.mono (T':=KC x.D x.M) fun _ h=>h.elim);clear h hg hxi hzi hpr hW hst hb1;go_enter func12,ntmps12;go_wp2_with fail;rw [XX.out];refine ha.out.mono ?_;rintro e W1 ⟨v1,o1,rfl,hs1,rfl,hg1⟩;have hF:=ae (aI (Abe.out.trans hs1) hg1);clear hs1 hg1 ha Abe;go_wp2_with fail;go_ret;exact ⟨_,o1,rfl,hF.out.1,rfl,hF.out.2⟩
end
section
variable {w:World} {o:Own} {R pg pn K B:Nat} {xs:List xI} {zs:List Am} {g:GN} {x:xI} {z z':Am}
theorem AmD (hx:Afp w o x) (hz:Bc w o x.D x.M x.pz x.ps x.pd z) (hd:z.dead=true) (a b:Option Addr):Calls prog 56 #[.pointer (some ⟨x.px,0,none⟩), .pointer a, .pointer b] w fun e w'=>e = .returned (.int .i64 9)/\w=w':=by
 have hc:=FI hz;rw [hd] at hc;have WV:=ae hc;have c0:=ag hx.1 0;simp only [ay] at c0;unfold Uc at c0;clear hc hx hz hd;go_enter func56,ntmps56;go_wp2_with fail;refine WV.out.mono ?_;rintro e W1 ⟨rfl,rfl⟩;go_wp2_with fail;go_ret;exact ⟨rfl,rfl⟩
theorem AmF {src:Nat} {ba:Option Addr} {bn bc:Nat} {ts:List (Nat × List UInt8)} (h:GAt w o R pg pn xs zs g) (hR:R ≠ 0) (hn:xs.length<=3) (i:Nat) (hxi:xs[i]?=some x) (hzi:zs[i]?=some z) (hd:z.dead=false) (hlen:g.l.length<=4096) (hi:i<g.n)
  (hhe:Calls prog 57 #[.pointer (some ⟨x.pz,0,none⟩), .int .i64 (src:Int), .slice ba bn bc] w.drew (XL (KC x.D x.M) w.drew o fun v w' o'=>Dn w' o' v ts/\Bc w' o' x.D x.M x.pz x.ps x.pd z'))
  (ht:∀ t ∈ ts,t.1<g.n/\i ≠ t.1/\t.2.length<=2097152) {b1 b2:Nat} (hb1:At0 w o b1 (.cells #[.pointer (some ⟨pg,0,none⟩)] 22)) (hb2:At0 w o b2 (.cells [.int .i64 0, .int .i64 (src:Int), .int .i64 0, .int .i64 (i:Int), .slice ba bn bc].toArray 104)) :
  Calls prog 56 #[.pointer (some ⟨x.px,0,none⟩), .pointer (some ⟨b1,0,none⟩), .pointer (some ⟨b2,0,none⟩)] w (XL (InT x R) w o fun v w' o'=>v = .int .i64 0/\GAt w' o' R pg pn xs (zs.set i z') (g.sends i ts)):=by
 obtain ⟨h1,h2⟩:=h.2.2.2.2 i x z hxi hzi;obtain ⟨t1,t2,t3⟩:=h.2.2.1.at' i x hxi;have hx3:=(List.getElem?_eq_some_iff.1 hxi).1;have hc:=FI h2;rw [hd] at hc;have WV:=ae hc;have dr:aj ai w o w.drew o:=(aj.refl ai w o).drew;have htk:=ae hhe;have hH:=ae (aI (h.step0 dr) (aI (h1.step dr id) (aI (hb1.step dr id) (aI (hb2.step dr id) dr))));have nQ:¬ KC x.D x.M x.Q:=by unfold KC;omega
 have n0:¬ KC x.D x.M 0:=by unfold KC;omega
 have c0:=ag h1.1 0;have q1:=hb1.cell 0;have q2:=hb2.cell 1;have q3:=hb2.cell 3;have q4:=hb2.cell 4;simp only [ay,ax] at c0 q1 q2 q3 q4;unfold Uc at c0;have hS:=aI c0 (aI q1 (aI q2 (aI q3 q4)));have hF:=ae (aI hxi (aI hzi (aI ht (aI hn hx3))));clear hc h h1 h2 hb1 hb2 dr hxi hzi ht q1 q2 q3 q4 hx3 hhe hd;go_enter func56,ntmps56;go_wp2_with fail;refine WV.out.mono ?_;rintro e W1 ⟨rfl,rfl⟩;go_wp2_with fail;refine Aa (fun w'=>w'.cell? ⟨x.px,0,none⟩=some (.pointer (some ⟨x.pz,0,none⟩))/\w'.cell? ⟨b1,0,none⟩=some (.pointer (some ⟨pg,0,none⟩))/\w'.cell? ⟨b2,1,none⟩=some (.int .i64 (src:Int))/\w'.cell? ⟨b2,3,none⟩=some (.int .i64 (i:Int))/\w'.cell? ⟨b2,4,none⟩=some (.slice ba bn bc)) (fun _=>true) (by kernel_rfl) hS (fun hHeld => ?_);refine tq 0 (h:=tq 1 (h:=tq 2 (h:=tq 3 (h:=tq 4 (h:=tq 5 (h:=tq 6 (h:=tq 7 (h:=tq 8 (h:=tq 9 (h:=tq 10 (h:=tq 11 (h:=tq 12 (h:=tO 13 (h:=?_))))))))))))));go_wp2_with fail;refine htk.out.mono ?_;rintro e W3 ⟨v3,o3,rfl,hs3,hou,hnd⟩;obtain ⟨g1,g2,g3,g4,g5⟩:=hH.out;obtain ⟨f1,f2,f3,f4,f5⟩:=hF.out;have k1:=g1.set hR f4 f1 f2 hs3 hnd;have e1:=g2.step hs3 nQ;have e2:=g3.step hs3 n0;have e3:=g4.step hs3 n0;have r0:=ag e1.1 0;have r1:=e2.cell 0;have r2:=e3.cell 1;have r3:=e3.cell 3;have r4:=e3.cell 4;simp only [ay,ax] at r0 r1 r2 r3 r4;unfold Uc at r0;have hS3:=aI r0 (aI r1 (aI r2 (aI r3 r4)));have hsn:=ae (Aiv k1.1 k1.2.1 (by omega) (by omega) (by omega) hlen i hi hou f3);have hE:=ae (aI k1 (aI e1 (aI e2 (aI e3 (g5.mono (T':=InT x R) (fun _ h=>h.elim) |>.trans (hs3.mono (T':=InT x R) fun _ h => .inl h))))));clear hs3 hou hnd g1 g2 g3 g4 g5 f1 f2 f3 f4 f5 k1 e1 e2 e3 r0 r1 r2 r3 r4 hH htk;go_wp2_with fail;refine ⟨fun _=>hS3, ?_⟩;refine tO 14 (h:=?_);go_wp2_with fail;refine hsn.out.mono ?_;rintro e W4 ⟨v4,o4,rfl,hs4,hn4⟩;obtain ⟨k1,e1,e2,e3,g5⟩:=hE.out
 replace e1:=e1.step hs4 (by unfold ak;omega)
 replace e2:=e2.step hs4 (by unfold ak;omega)
 replace e3:=e3.step hs4 (by unfold ak;omega)
 have r0:=ag e1.1 0;have r1:=e2.cell 0;have r2:=e3.cell 1;have r3:=e3.cell 3;have r4:=e3.cell 4;simp only [ay,ax] at r0 r1 r2 r3 r4;unfold Uc at r0;have hS4:=aI r0 (aI r1 (aI r2 (aI r3 r4)));have hG:=ae (aI (g5.trans (hs4.mono (T':=InT x R) fun _ h => .inr h)) (k1.Anc hR hF.out.2.2.2.1 hs4 hn4));clear hs4 hn4 k1 e1 e2 e3 g5 r0 r1 r2 r3 r4 hE hsn;go_wp2_with fail;refine ⟨fun _=>hS4, ?_⟩;refine tD (h:=?_);clear hS3 hS4;go_wp2_with fail;go_ret;exact ⟨_,o4,rfl,hG.out.1,rfl,hG.out.2⟩
theorem Afu {w:World} {o:Own} {vs:List Value} (hl:vs.length=5) (h1:vs.all (·.oneCell')=true) :
  ∃ W V oV,w.alloc (.cells #[.int .i64 0, .int .i64 0, .int .i64 0, .int .i64 0, .slice none 0 0] 104)=W/\(Instr.storeAt 104 (.pointer (some ⟨w.heap.size,0,none⟩)) (.agg vs.toArray)).run prog W = .ok () V/\aj ai w o V oV/\At0 V oV w.heap.size (.cells vs.toArray 104):=by
 obtain ⟨W,oW,hW,⟨hst, -⟩,hb⟩:=AaC w o (.cells #[.int .i64 0, .int .i64 0, .int .i64 0, .int .i64 0, .slice none 0 0] 104);obtain ⟨V,hV,hsV,hbV, -⟩:=hb.store (P:=prog) (cs:=[.int .i64 0, .int .i64 0, .int .i64 0, .int .i64 0, .slice none 0 0]) (ty:=104) (vs:=vs) hst (Nat.le_refl _) (by simpa using hl) (by rw [hl];exact vI) h1;exact ⟨W,V,oW,hW,hV,hsV,hbV⟩
theorem ArB (h:GAt w o R pg pn xs zs g) (k:Int) (hk:¬ g.may k=0):Calls prog 16 #[.pointer (some ⟨pg,0,none⟩), .int .i64 k] w (XL ai w o fun v _ _=>v = .int .i64 1):=by
 obtain ⟨W,oW,hW,⟨hst, -⟩,hb⟩:=AaC w o (.cells #[.pointer (some ⟨pg,0,none⟩)] 22);have hg:=h.step0 hst;have hno:=ae (ApY hg.2.1 k hk);obtain ⟨bn,cap,e1, -⟩:=hg.1;have c1:=ag e1 1;simp only [ay,ax] at c1;unfold Uc at c1;rw [<-hW] at c1;have XX:=ae hW;have Abe:=ae hst;clear h hg hW hst hb e1 hk;go_enter func16,ntmps16;go_wp2_with fail;rw [XX.out];refine hno.out.mono ?_;rintro e W1 ⟨v1,o1,rfl,hs1,rfl⟩;obtain ⟨W2,V,oV,hW2,hV,hsV, -⟩:=Afu (w:=W1) (o:=o1) (vs:=Asz) rfl rfl;have hF:=ae (Abe.out.trans (hs1.trans hsV));have xO:=ae hW2;have hVH:=ae hV;clear hs1 hsV hW2 hV hno Abe
 go_wp2_with ((with_reducible apply AC);(try rw [xO.out]);exact hVH.out;simp only [Act.put])
 go_ret;exact ⟨_,oV,rfl,hF.out,rfl⟩
theorem AoA (h:GAt w o R pg pn xs zs g) (_hR:R ≠ 0) (hlen:g.l.length<=4096) (n:Nat) (hn:n<g.l.length) (hl:GN.LOk g.n g.l[n]) {T:Nat->Prop} {Q:Value->World->Own->Prop} (hT:T (R+2))
  (h65:g.cuts g.l[n].src g.l[n].dst=true->∀ (W:World) (oW:Own),aj T w o W oW->KL W oW (R+2) pn g->aj (ak (R+2)) w o W oW->Q (.int .i64 65) W oW)
  (hcall:g.cuts g.l[n].src g.l[n].dst=false->∀ (W:World) (oW:Own) (bv:Value) (b1 b2:Nat),aj (ak (R+2)) w o W oW->KL W oW (R+2) pn (g.without n)->At0 W oW b1 (.cells #[.pointer (some ⟨pg,0,none⟩)] 22)->At0 W oW b2 (.cells (Aaa g.l[n] bv).toArray 104)->Bytes W oW bv g.l[n].b ->
   Calls prog 43 #[.pointer (some ⟨pg,0,none⟩), .int .i64 (g.l[n].dst:Int), .func (.func 56) #[] #[.pointer (some ⟨b1,0,none⟩), .pointer (some ⟨b2,0,none⟩)]] W (XL T W oW fun v w' o'=>(∃ er,v = .int .i64 er)/\Q v w' o')) :
  Calls prog 16 #[.pointer (some ⟨pg,0,none⟩), .int .i64 (n:Int)] w (XL T w o Q):=by
 obtain ⟨W,oW,hW,⟨hst, -⟩,hb⟩:=AaC w o (.cells #[.pointer (some ⟨pg,0,none⟩)] 22);have hg:=h.step0 hst;have hyes:=ae (Aoj hg.2.1 (by omega) (by omega) n hn hl);obtain ⟨bn,cap,e1,e2, -⟩:=hg.1;have c1:=ag e1 1;simp only [ay,ax] at c1;unfold Uc at c1;rw [<-hW] at c1;have XX:=ae hW;have Abe:=ae (aI hst hb);have h6H:=ae h65;have WV:=ae hcall;clear h hg hW hst hb e1 e2 hl h65 hcall;go_enter func16,ntmps16;go_wp2_with fail;rw [XX.out];refine hyes.out.mono ?_;rintro e W1 ⟨v1,o1,rfl,hs1,y1,y2⟩
 cases hc:g.cuts g.l[n].src g.l[n].dst with
 | true =>
  obtain ⟨rfl,hn1⟩:=y1 hc;obtain ⟨W2,V,oV,hW2,hV,hsV, -⟩:=Afu (w:=W1) (o:=o1) (vs:=Asz) rfl rfl;have st:=((Abe.out.1.mono (T':=ak (R+2)) fun _ h=>h.elim).trans hs1).trans (hsV.mono (T':=ak (R+2)) fun _ h=>h.elim);have hF:=ae (h6H.out hc V oV (st.mono fun k (h:k=R+2)=>by rw [h];exact hT) (hn1.step hsV id id) st);have AaM:=ae (st.mono (T':=T) fun k (h:k=R+2)=>by rw [h];exact hT);have xO:=ae hW2;have hVH:=ae hV;clear hs1 hsV hW2 hV hyes Abe y1 y2 hn1 st hc h6H WV
  go_wp2_with ((with_reducible apply AC);(try rw [xO.out]);exact hVH.out;simp only [Act.put])
  go_ret;exact ⟨_,oV,rfl,AaM.out,hF.out⟩
 | false =>
  obtain ⟨bv,rfl,hbv,hn1⟩:=y2 hc;obtain ⟨ba,bc,rfl⟩:=Aq hbv;obtain ⟨W2,V,oV,hW2,hV,hsV,hbV⟩:=Afu (w:=W1) (o:=o1) (vs:=Aaa g.l[n] (.slice ba g.l[n].b.length bc)) rfl rfl;have st:=((Abe.out.1.mono (T':=ak (R+2)) fun _ h=>h.elim).trans hs1).trans (hsV.mono (T':=ak (R+2)) fun _ h=>h.elim);have hb1:=(Abe.out.2.step hs1 (by unfold ak;omega)).step hsV id;have k1:=hb1.cell 0;have k2:=hbV.cell 3;unfold Aaa at k2;simp only [ay,ax] at k1 k2;have hF:=ae (WV.out hc V oV _ _ _ st (hn1.step hsV id id) hb1 hbV (hbv.step hsV id));have AaM:=ae (st.mono (T':=T) fun k (h:k=R+2)=>by rw [h];exact hT);have xO:=ae hW2;have hVH:=ae hV;clear hs1 hsV hW2 hV hyes Abe y1 y2 hn1 st hc h6H WV hb1 hbV hbv;unfold Aaa at hVH ⊢
  go_wp2_with ((with_reducible apply AC);(try rw [xO.out]);exact hVH.out;simp only [Act.put])
  refine hF.out.mono ?_;rintro e W5 ⟨v5,o5,rfl,hs5,⟨er,rfl⟩,hq⟩;have yV:=ae hq;have Bbw:=ae (AaM.out.trans hs5);clear hq hs5 hF AaM;go_wp2_with fail;go_ret;exact ⟨_,o5,rfl,Bbw.out,yV.out⟩
end
section
variable {w:World} {o:Own} {R pg pn K H Mx:Nat} {xs:List xI} {zs:List Am} {g:GN} {x:xI} {z:Am} {t:AZ}
theorem Akx {ba:Option Addr} {bn bc:Nat} {fs:List Int} (h:GAt w o R pg pn xs zs g) (hR:R ≠ 0) (hn:xs.length<=3) (i:Nat) (hxi:xs[i]?=some x) (hzi:zs[i]?=some z)
  (hMx:R+20<=Mx/\∀ y ∈ xs,y.M+4<=Mx) (hf:Ints w o (.slice ba bn bc) fs) (hfb:∀ a ∈ fs, -9223372036854775808<=a/\a<=9223372036854775807)
  (hrow:z.s.d.row.length<=1000000) (hr:z.s.d.BJ fs=t.d) (hg:SG K H t) (hK:K<65536) (hpg:t.d.pages.length<=400)
  {b1 b2 b3:Nat} (hb1:At0 w o b1 (.cells #[.slice ba bn bc] 53)) (hb2:At0 w o b2 (.cells #[.int .i64 (i:Int)] 3)) (hb3:At0 w o b3 (.cells #[.pointer (some ⟨pg,0,none⟩)] 22)) :
  Calls prog 58 #[.pointer (some ⟨x.px,0,none⟩), .pointer (some ⟨b1,0,none⟩), .pointer (some ⟨b2,0,none⟩), .pointer (some ⟨b3,0,none⟩)] w
   (XL (aY x Mx) w o fun v w' o'=>v = .int .i64 0/\∃ x',GAt w' o' R pg pn (xs.set i x') (zs.set i (Am.new i xs.length t)) g):=by
 obtain ⟨h1,h2⟩:=h.2.2.2.2 i x z hxi hzi;obtain ⟨t1,t2,t3⟩:=h.2.2.1.at' i x hxi;have hx3:=(List.getElem?_eq_some_iff.1 hxi).1;have hM4:=hMx.2 x (List.mem_of_getElem? hxi);have ML:x.D<=Mx/\x.D ≠ 0/\x.Q<=Mx/\x.Q ≠ 0/\x.Q ≠ x.D/\¬ ak x.D x.Q/\¬ ak x.D 0/\¬ ak x.D R/\¬ ak x.D (R+1):=by
  unfold ak;refine ⟨?_, ?_, ?_, ?_, ?_, ?_, ?_, ?_, ?_⟩ <;> omega
 have hdk:Bg w o x.D x.pd z.s.d:=by
  obtain ⟨_,_,_,_,_,_,_,_,_,_,_,hd⟩:=h2.store;exact hd
 have dr:aj ai w o w.drew o:=(aj.refl ai w o).drew;have hrs:=ae (jS (hdk.step dr id) ML.2.1 hrow (.slice ba bn bc) fs (hf.step dr id) hfb hr);have hH:=ae (aI h (aI (h1.step dr id) (aI (hb1.step dr id) (aI (hb2.step dr id) (aI (hb3.step dr id) (aI dr (h.1.step dr id id)))))));have c0:=ag h1.1 1;have q1:=hb1.cell 0;simp only [ay,ax] at c0 q1;unfold Uc at c0;have hS:=aI c0 q1;have hF:=ae (aI hxi (aI hn (aI hMx (aI hg (aI hK (aI hpg hx3))))));have hDH:=ae ML;clear h h1 h2 hb1 hb2 hb3 dr hxi hzi q1 hx3 hdk c0 hg hK hpg hMx hrow hr hf hfb ML t1 t2 t3 hM4 hn;go_enter func58,ntmps58;go_wp2_with fail;refine Aa (fun w'=>w'.cell? ⟨x.px,1,none⟩=some (.pointer (some ⟨x.pd,0,none⟩))/\w'.cell? ⟨b1,0,none⟩=some (.slice ba bn bc)) (fun _=>true) (by kernel_rfl) hS (fun hHeld => ?_);refine tq 0 (h:=tq 1 (h:=tq 2 (h:=tq 3 (h:=tq 4 (h:=tO 5 (h:=?_))))));go_wp2_with fail;refine hrs.out.mono ?_;rintro e W3 ⟨v3,o3,rfl,hs3,rfl,hdk⟩;obtain ⟨g1,g2,g3,g4,g5,g6,g7⟩:=hH.out;obtain ⟨d1,d2,d3,d4,d5,d6,d7,d8,d9⟩:=hDH.out;have e1:=g2.step hs3 d6;have e2:=g3.step hs3 d7;have r0:=ag e1.1 1;have r1:=e2.cell 0;simp only [ay,ax] at r0 r1;unfold Uc at r0;have hS3:=aI r0 r1;have hE:=ae (aI g1 (aI (g6.mono (T':=ak x.D) (fun _ h=>h.elim) |>.trans hs3) (aI hdk (aI e1 (aI (g4.step hs3 d7) (aI (g5.step hs3 d7) (g7.step hs3 d8 d9)))))));clear hs3 hdk g1 g2 g3 g4 g5 g6 g7 e1 e2 r0 r1 hH hrs d1 d2 d3 d4 d5 d6 d7 d8 d9;go_wp2_with fail;refine ⟨fun _=>hS3, ?_⟩;refine tD (h:=?_);obtain ⟨g1,g2,g3,g4,g5,g6,g7⟩:=hE.out;obtain ⟨d1,d2,d3,d4,d5,d6,d7,d8,d9⟩:=hDH.out;obtain ⟨f1,f2,f3,f4,f5,f6,f7⟩:=hF.out;have dr:aj ai W3 o3 W3.drew o3:=(aj.refl ai W3 o3).drew;have k4:=g4.step dr id;have hop:=ae (Aiw (Mx:=Mx) k4.1 k4.2 d4 d1 d3 d5 d2 f4 f5 f6 (g3.step dr id) i xs.length (by omega) f2 f7);obtain ⟨bn2,cap,n1,n2,n3,n4,n5⟩:=g7;have r1:=g5.cell 0;have r2:=g6.cell 0;have r3:=ag n1 0;simp only [ay] at r1 r2 r3;have hT:=aI r1 (aI r2 r3);have hE2:=ae (aI g1 (aI (g2.trans (dr.mono (T':=ak x.D) fun _ h=>h.elim)) (aI (g5.step dr id) (aI (g6.step dr id) (aI ((dr.block pg (au n1) id).trans n1) (aI (Nat.lt_of_lt_of_le (au n1) dr.size) ((dr.own pg (au n1)).trans n2)))))));clear hE g1 g2 g3 g4 g5 g6 n1 n2 n3 n4 n5 d1 d2 d3 d4 d5 d6 d7 d8 d9 f1 f2 f3 f4 f5 f6 f7 dr k4 r1 r2 r3 hS3 hS;go_wp2_with fail;refine Aa (fun w'=>w'.cell? ⟨b2,0,none⟩=some (.int .i64 (i:Int))/\w'.cell? ⟨b3,0,none⟩=some (.pointer (some ⟨pg,0,none⟩))/\w'.cell? ⟨pg,0,none⟩=some (.slice (some ⟨bn2,0,none⟩) xs.length cap)) (fun _=>true) (by kernel_rfl) hT (fun hHeld => ?_);refine tq 0 (h:=tq 1 (h:=tq 2 (h:=tq 3 (h:=tq 4 (h:=tq 5 (h:=tq 6 (h:=tO 7 (h:=?_))))))));go_wp2_with fail;refine hop.out.mono ?_;rintro e W4 ⟨v4,o4,rfl,hs4,rfl,ps,pz,hxb,hnd⟩;obtain ⟨g1,g2,g5,g6,n1,n2,n3⟩:=hE2.out;obtain ⟨d1,d2,d3,d4,d5,d6,d7,d8,d9⟩:=hDH.out;obtain ⟨f1,f2,f3,f4,f5,f6,f7⟩:=hF.out;obtain ⟨t1,t2,t3⟩:=g1.2.2.1.at' i x f1;have nn:¬ Adi x.Q Mx 0/\¬ Adi x.Q Mx R:=by unfold Adi;omega
 have r1:=(g5.step hs4 nn.1).cell 0;have r2:=(g6.step hs4 nn.1).cell 0;have r3:=ag ((hs4.block pg n2 (by rw [n3];exact nn.2)).trans n1) 0;simp only [ay] at r1 r2 r3;have hT4:=aI r1 (aI r2 r3);have st:=(g2.mono (T':=aY x Mx) fun k (hk:k=x.D) => .inr (.inl hk)).trans (hs4.mono (T':=aY x Mx) fun k hk=>by unfold Adi at hk;unfold aY;omega);have hG:=ae (aI st (g1.reopen hR f2 f1 f3 st (x':=⟨x.Q,x.D,Mx,x.px,pz,ps,x.pd⟩) rfl rfl rfl rfl hxb hnd));clear hs4 hxb hnd g1 g2 g5 g6 n1 n2 n3 d1 d2 d3 d4 d5 d6 d7 d8 d9 f1 f2 f3 f4 f5 f6 f7 t1 t2 t3 nn r1 r2 r3 st hE2 hop;go_wp2_with fail;refine ⟨fun _=>hT4, ?_⟩;refine tq 8 (h:=tD (h:=?_));clear hT hT4;go_wp2_with fail;go_ret;exact ⟨_,o4,rfl,hG.out.1,rfl,_,hG.out.2⟩
theorem AmH {ba:Option Addr} {bn bc:Nat} {fs:List Int} (h:GAt w o R pg pn xs zs g) (hR:R ≠ 0) (hn:xs.length<=3) (i:Nat) (hxi:xs[i]?=some x) (hzi:zs[i]?=some z)
  (hMx:R+20<=Mx/\∀ y ∈ xs,y.M+4<=Mx) (hf:Ints w o (.slice ba bn bc) fs) (hfb:∀ a ∈ fs, -9223372036854775808<=a/\a<=9223372036854775807)
  (hrow:z.s.d.row.length<=1000000) (hr:z.s.d.BJ fs=t.d) (hg:SG K H t) (hK:K<65536) (hpg:t.d.pages.length<=400) :
  Calls prog 17 #[.pointer (some ⟨pg,0,none⟩), .int .i64 (i:Int), .slice ba bn bc] w
   (XL (aY x Mx) w o fun v w' o'=>v = .int .i64 0/\∃ x',GAt w' o' R pg pn (xs.set i x') (zs.set i (Am.new i xs.length t)) g):=by
 obtain ⟨W,oW,hW,⟨hst, -⟩,hb3,hb2,hb1⟩:=Ajp w o (.cells #[.pointer (some ⟨pg,0,none⟩)] 22) (.cells #[.int .i64 (i:Int)] 3) (.cells #[.slice ba bn bc] 53);have hgW:=h.step0 hst;have ha:=ae (Acd hgW.1 i hxi 58 #[.pointer (some ⟨w.heap.size+1+1,0,none⟩), .pointer (some ⟨w.heap.size+1,0,none⟩), .pointer (some ⟨w.heap.size,0,none⟩)] _ Tryz.call58 (Akx hgW hR hn i hxi hzi hMx (hf.step hst id) hfb hrow hr hg hK hpg hb1 hb2 hb3) (fun e w' hq=>by obtain ⟨v, -,hv, -⟩:=hq;exact ⟨v,hv⟩));have XX:=ae hW;have Abe:=ae (hst.mono (T':=aY x Mx) fun _ h=>h.elim);clear h hgW hxi hzi hW hst hb1 hb2 hb3 hf hfb hrow hr hg hMx;go_enter func17,ntmps17;go_wp2_with fail;rw [XX.out];refine ha.out.mono ?_;rintro e W1 ⟨v1,o1,rfl,hs1,rfl,x',hg1⟩;have hF:=ae (aI (Abe.out.trans hs1) hg1);clear hs1 hg1 ha Abe;go_wp2_with fail;go_ret;exact ⟨_,o1,rfl,hF.out.1,rfl,_,hF.out.2⟩
end

end Go.Proofs.YtffkdillijmamaaGreat
