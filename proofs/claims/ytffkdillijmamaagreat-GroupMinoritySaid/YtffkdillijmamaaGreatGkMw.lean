/- Layer 14: the walk of GroupMinority. -/
import Derived.Outline
import Derived.Test.YtffkdillijmamaaGreatGk14
namespace Go.Proofs.YtffkdillijmamaaGreat
open Go.Proofs.Tryz
set_option maxRecDepth 100000
set_option maxHeartbeats 12800000
open Go Go.RowKit
attribute [local go_sem ↓] Go.wp_at_zero Go.wp_at_succ
theorem AlX:(prog.info? 55).map (·.size)=some 6:=by kernel_rfl
section
variable {w w':World} {o o':Own} {R pg pn C K B M0:Nat} {p:PG}
theorem AdV {N:Nat} (hM:M0<R) (h:PAt w o R pg pn C K 0 p) (hm:AaE N p) :
  Calls prog 19 #[.pointer (some ⟨pg,0,none⟩), .int .i64 0] w (XL (EN M0) w o fun v w' o'=>(∃ a c,v = .slice a 0 c)/\PAt w' o' R pg pn C K 0 p):=by
 obtain ⟨y,hy,hl⟩:=hm.y;refine (AcQ hM h (by omega) hy).mono ?_;rintro e w' ⟨v,o',rfl,hs,⟨base,hln⟩,hp⟩;exact ⟨_,o',rfl,hs,hln.Awo (by rw [hl.ls];simp),hp⟩
theorem AdW {N:Nat} (h:PAt w o R pg pn C K 0 p) (hm:AaE N p) :
  Calls prog 11 #[.pointer (some ⟨pg,0,none⟩), .int .i64 0] w fun e w'=>e = .returned (.bool false)/\w=w':=by
 obtain ⟨y,hy,hl⟩:=hm.y;exact Agv h hy hl.leads
end
theorem Acp {w:World} {o:Own} {v:Value} {l:List AbF} (hl:VW w o v l) :
  Calls prog 5 #[v] w (XL ai w o fun v _ _=>v = .bool true):=by
 obtain ⟨aa,ac,rfl⟩:=hl.form;obtain ⟨L,hL⟩:∃ L,l.length=L:=⟨_,rfl⟩;obtain ⟨M, -,hM⟩:=EZ o 0 w.heap.size;have hMH:=ae hM;have hMR:M<M+1:=Nat.lt_succ_self _;have hgr:=ae (Agx hl);rw [hL] at hgr hl ⊢;have hlH:=ae (aI hl hL);have e0H:=ae (show ((0:Nat):Int)=0 from rfl);clear hl hL hM;go_enter func5,ntmps5;go_wp2_with fail;refine hgr.out.mono ?_;rintro e W0 ⟨v,o0,rfl,hs0,r,rfl,hr⟩
 cases r with
 | true =>
  have hF:=ae hs0;clear hs0 hr hgr;go_wp2_with fail;go_ret;exact ⟨_,o0,rfl,hF.out,rfl⟩
 | false =>
  obtain ⟨g1,g2⟩:=hr rfl;have Anu:L<=200:=by rw [<-hlH.out.2];exact g1
  have hLI:(0:Int)<=(L:Int)/\(L:Int)<=200:=by omega
  have hgH:=ae g2;have hlA:=ae (hlH.out.1.step hs0 id);have hst:=ae (hs0.mono (T':=EN M) fun _ h=>h.elim);have hc:=ae (ApO (C:=40000) hMR 3 200 (by omega) (by omega) (by omega) (by omega) (by omega) W0 o0);clear hs0 hr hgr g1 g2;go_wp2_with fail;refine hc.out.mono ?_;rintro e W1 ⟨v,o1,rfl,hs,pg,pn,rfl,hp⟩;have hz:¬ EN M 0:=by show ¬ M<0;omega
  replace hst:=ae (hst.out.trans hs)
  replace hlA:=ae (hlA.out.step hs hz)
  have hc1:=Afy hMR hp (a:=0) (b:=1) (by decide) (by decide) (by decide);rw [e0H.out,show ((1:Nat):Int)=1 from rfl] at hc1
  replace hc1:=ae hc1
  clear hs hp hc;go_wp2_with fail;refine hc1.out.mono ?_;rintro e W2 ⟨v,o2,rfl,hs,rfl,hp⟩
  replace hst:=ae (hst.out.trans hs)
  replace hlA:=ae (hlA.out.step hs hz)
  have hc2:=Afy hMR hp (a:=0) (b:=2) (by decide) (by decide) (by decide);rw [e0H.out,show ((2:Nat):Int)=2 from rfl] at hc2
  replace hc2:=ae hc2
  clear hs hp hc1;go_wp2_with fail;refine hc2.out.mono ?_;rintro e W3 ⟨v,o3,rfl,hs,rfl,hp⟩
  replace hst:=ae (hst.out.trans hs)
  replace hlA:=ae (hlA.out.step hs hz)
  have hc3:=Aof hMR hp 1 (by decide);rw [show ((1:Nat):Int)=1 from rfl] at hc3
  replace hc3:=ae hc3
  clear hs hp hc2;go_wp2_with fail;refine hc3.out.mono ?_;rintro e W4 ⟨v,o4,rfl,hs,rfl,hp⟩
  replace hst:=ae (hst.out.trans hs)
  replace hlA:=ae (hlA.out.step hs hz)
  have hc4:=Aof hMR hp 2 (by decide);rw [show ((2:Nat):Int)=2 from rfl] at hc4
  replace hc4:=ae hc4
  clear hs hp hc3;go_wp2_with fail;refine hc4.out.mono ?_;rintro e W5 ⟨v,o5,rfl,hs,rfl,hp⟩;have hp5:PAt W5 o5 (M+1) pg pn 40000 (6*0) 0 Adc:=hp;have hI:Hid (aj (EN M) w o W5 o5/\VW W5 o5 (.slice aa L ac) l/\∃ p,PAt W5 o5 (M+1) pg pn 40000 (6*0) 0 p/\AaE 0 p):=ae ⟨hst.out.trans hs,hlA.out.step hs hz,_,hp5,Agl⟩;clear hs hp hp5 hc4 hst hlA;go_wp2_with fail
  go_loopw [5] (fun i wr=>∃ (k:Nat) (oj:Own),k<=L/\i = .int .i64 k/\Hid (aj (EN M) w o wr oj/\VW wr oj (.slice aa L ac) l/\∃ p,PAt wr oj (M+1) pg pn 40000 (6*k) 0 p/\AaE k p)) (fun i _=>L - (intOf i).toNat)
  case atStart=>exact ⟨0,o5,Nat.zero_le _,rfl,hI⟩
  case round =>
   clear hI;obtain ⟨k,oj,hk,rfl,hr⟩:=hrel
   by_cases hlt:k<L
   ·have AbY:(0:Int)<=(k:Int)/\(k:Int)<(L:Int):=by omega
    obtain ⟨x,hx⟩:∃ x,l[k]?=some x:=⟨_,List.getElem?_eq_getElem (by rw [hlH.out.2];exact hlt)⟩;obtain ⟨hst,hA,p,hp,hm⟩:=hr.out;obtain ⟨b,off,bv,fv,rfl,hrg,hby,hin,hwf,hbl,hb0⟩:=hA.at hx;obtain ⟨ba,bc,rfl⟩:=Aq hby;obtain ⟨fa,fc,rfl⟩:=Aq hin;have hbn:=hgH.out x (List.mem_of_getElem? hx);obtain ⟨bn,AmT⟩:∃ n,x.b.length=n:=⟨_,rfl⟩;obtain ⟨fn,hfn2⟩:∃ n,x.f.length=n:=⟨_,rfl⟩;have c0:wr.cell? ⟨b,off+k*6,none⟩=some (.int .u8 (x.k:Int)):=by have:=hrg 0 _ rfl;rwa [Nat.add_zero] at this
    have c1:wr.cell? ⟨b,off+k*6+1,none⟩=some (.int .i64 x.i):=hrg 1 _ rfl;have c2:wr.cell? ⟨b,off+k*6+2,none⟩=some (.int .i64 x.j):=hrg 2 _ rfl;have c3:wr.cell? ⟨b,off+k*6+3,none⟩=some (.int .i64 x.n):=hrg 3 _ rfl;have c4:wr.cell? ⟨b,off+k*6+4,none⟩=some (.slice ba x.b.length bc):=hrg 4 _ rfl;have c5:wr.cell? ⟨b,off+k*6+5,none⟩=some (.slice fa x.f.length fc):=hrg 5 _ rfl;obtain ⟨W2,o2,hW2,⟨hst2, -⟩,hb2⟩:=AaC wr oj (.cells #[.int .u8 0, .int .i64 0, .int .i64 0, .int .i64 0, .slice none 0 0, .slice none 0 0] 55);obtain ⟨V,hV,hsV,hbV, -,hVs⟩:=hb2.store (P:=prog) (cs:=[.int .u8 0, .int .i64 0, .int .i64 0, .int .i64 0, .slice none 0 0, .slice none 0 0]) (ty:=55) (vs:=[.int .u8 (x.k:Int), .int .i64 x.i, .int .i64 x.j, .int .i64 x.n, .slice ba x.b.length bc, .slice fa x.f.length fc]) hst2 (Nat.le_refl _) rfl AlX rfl;have k1:=hbV.cell 1;have f1:=Ap hbV.1 1;simp only [ay,ax] at k1;have hb3:=Ai (i:=1) (.int .i64 0) hbV.1;have s3:=hsV.setCell (a:=⟨wr.heap.size,1,none⟩) (.int .i64 0) (.inr (Nat.le_refl _));have d0:=ag hb3 0;have d1:=ag hb3 1;have d2:=ag hb3 2;have d3:=ag hb3 3;have d4:=ag hb3 4;have d5:=ag hb3 5;simp only [DL,lss,ay,ax] at d0 d1 d2 d3 d4 d5;have hF:=ae (aI (hst.trans (s3.mono (T':=EN M) fun _ h=>h.elim)) (aI (hA.step s3 id) (aI (hp.step0 s3) (aI hm (aI (hby.step s3 id) (hin.step s3 id))))));have hwH:=ae (aI hwf (aI hbn (aI AmT hfn2)));rw [AmT] at c4 hV d4 hF;rw [hfn2] at c5 hV d5 hF;have hVH:=ae hV;have xO:=ae hW2;have Anr:(0:Int)<=(x.k:Int)/\(x.k:Int)<256:=by have:=hwf.k;omega
    clear hst hA hp hm hrg hby hin hwf hbl hb0 hbn AmT hfn2 hr hx hV hW2 hst2 hb2 hsV hbV hVs hb3 s3
    by_cases hq:x.k % 11<6
    ·have hq6:(x.k:Int) % 11<6:=by omega
     have yV:=ae hq;clear hq;obtain ⟨AaM,hAF,hpF,hmF,hbF,hiF⟩:=hF.out;have hcd:=AkF hMR hpF hmF (by omega) (by omega) (by omega) (k:=x.k) (by have:=hwH.out.1.k;exact this) yV.out x.j x.n (b:=x.b) (fl:=x.f) (bv := .slice ba bn bc) (fv := .slice fa fn fc) hbF hwH.out.2.1.1 (by unfold Ints;rw [hwH.out.2.2.2];exact hiF)
     replace hcd:=ae hcd
     clear AaM hAF hpF hmF hbF hiF
     go_wp2_with ((with_reducible apply AC);(try rw [xO.out]);exact hVH.out;simp only [Act.put])
     refine hcd.out.mono ?_;rintro e X1 ⟨v,p1,rfl,hs,⟨er,rfl⟩,p',hp,hm, -⟩;have hc1:=ae (AdV hMR hp hm);have hG:=ae (aI (hF.out.1.trans hs) (aI (hF.out.2.1.step hs hz) hm));clear hs hp hm hcd hF;go_wp2_with fail;refine hc1.out.mono ?_;rintro e X2 ⟨v,p2,rfl,hs,⟨ya,yc,rfl⟩,hp⟩;have hc2:=ae (AdW hp hG.out.2.2);have hG2:=ae (aI (hG.out.1.trans hs) (aI (hG.out.2.1.step hs hz) hp));clear hs hp hc1;go_wp2_with fail;refine hc2.out.mono ?_;rintro e X3 ⟨rfl,rfl⟩;have hE:Hid (aj (EN M) w o X2 p2/\VW X2 p2 (.slice (some ⟨b,off,none⟩) L ac) l/\∃ p,PAt X2 p2 (M+1) pg pn 40000 (6*(k+1)) 0 p/\AaE (k+1) p):=ae ⟨hG2.out.1,hG2.out.2.1,_,hG2.out.2.2,hG.out.2.2⟩;clear hG hG2 hc2;go_wp2_with fail;go_roundw
     case rel=>exact ⟨k+1,p2,by omega,by go_num,hE⟩
     case measure=>simp [intOf];omega
    ·have hq6:¬ (x.k:Int) % 11<6:=by omega
     clear hq;obtain ⟨AaM,hAF,hpF,hmF,hbF,hiF⟩:=hF.out;have hc1:=ae (AdV hMR hpF hmF);have hG:=ae (aI AaM (aI hAF hmF));clear AaM hAF hpF hmF hbF hiF hF
     go_wp2_with ((with_reducible apply AC);(try rw [xO.out]);exact hVH.out;simp only [Act.put])
     refine hc1.out.mono ?_;rintro e X2 ⟨v,p2,rfl,hs,⟨ya,yc,rfl⟩,hp⟩;have hc2:=ae (AdW hp hG.out.2.2);have hG2:=ae (aI (hG.out.1.trans hs) (aI (hG.out.2.1.step hs hz) hp));clear hs hp hc1;go_wp2_with fail;refine hc2.out.mono ?_;rintro e X3 ⟨rfl,rfl⟩;have hE:Hid (aj (EN M) w o X2 p2/\VW X2 p2 (.slice (some ⟨b,off,none⟩) L ac) l/\∃ p,PAt X2 p2 (M+1) pg pn 40000 (6*(k+1)) 0 p/\AaE (k+1) p):=ae ⟨hG2.out.1,hG2.out.2.1,_,hG2.out.2.2.mono (by omega) (Nat.le_refl _),hG.out.2.2.mono (Nat.le_succ _)⟩;clear hG hG2 hc2;go_wp2_with fail;go_roundw
     case rel=>exact ⟨k+1,p2,by omega,by go_num,hE⟩
     case measure=>simp [intOf];omega
   ·obtain rfl:k=L:=by omega
    obtain ⟨hst, -⟩:=hr.out;have hc:=ae (AeB wr oj);have Abe:=ae hst;clear hst hr;go_wp2_with fail;refine hc.out.mono ?_;rintro e X ⟨v,px,rfl,hs,rfl⟩;have hF:=ae (Abe.out.trans (hs.mono (T':=EN M) fun _ h=>h.elim));clear hs hc Abe;go_wp2_with fail;go_ret;exact ⟨_,px,rfl,hF.out.Hm hMH.out,rfl⟩

end Go.Proofs.YtffkdillijmamaaGreat
