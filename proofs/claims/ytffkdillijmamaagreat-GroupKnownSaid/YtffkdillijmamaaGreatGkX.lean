/- What some statements need besides. -/
import Derived.Test.YtffkdillijmamaaGreatGk1
import Derived.Test.YtffkdillijmamaaGreatGk2
import Derived.Test.YtffkdillijmamaaGreatGk3
import Derived.Test.YtffkdillijmamaaGreatGk4
import Derived.Test.YtffkdillijmamaaGreatGk5
import Derived.Test.YtffkdillijmamaaGreatGk6
import Derived.Test.YtffkdillijmamaaGreatGk7
import Derived.Test.YtffkdillijmamaaGreatGk8
import Derived.Test.YtffkdillijmamaaGreatGk9
import Derived.Test.YtffkdillijmamaaGreatGk10
import Derived.Test.YtffkdillijmamaaGreatGk11
import Derived.Test.YtffkdillijmamaaGreatGk12
import Derived.Test.YtffkdillijmamaaGreatGk13
import Derived.Test.YtffkdillijmamaaGreatGk14
namespace Go.Proofs.YtffkdillijmamaaGreat
open Go.Proofs.Tryz
set_option maxRecDepth 100000
set_option maxHeartbeats 3200000
open Go Go.RowKit
theorem Apy (n:Int) (w:World) (_o:Own) (h:n<1 \/ 4096<n) :
  Calls prog 41 #[.int .i64 n] w fun e w'=>e = .returned (.tuple #[.pointer none, .int .i64 1])/\w=w':=by
 rcases h with h | h
 ·go_enter func41,ntmps41
  go_wp2
  go_ret2
  exact ⟨rfl,rfl⟩
 ·have h':¬ n<1:=by omega
  go_enter func41,ntmps41
  go_wp2
  go_ret2
  exact ⟨rfl,rfl⟩
end Go.Proofs.YtffkdillijmamaaGreat
namespace Go.Proofs.YtffkdillijmamaaGreat
open Go.Proofs.Tryz
set_option maxRecDepth 100000
set_option maxHeartbeats 6400000
open Go Go.RowKit
attribute [local go_sem ↓] Go.wp_at_zero Go.wp_at_succ
section
variable {w:World} {o:Own} {D pd:Nat} {d:Af}
theorem Aor (h:Bg w o D pd d) (hd:d.dead=false) (hn:d.pages.length<8):Calls prog 90 #[.pointer (some ⟨pd,0,none⟩)] w (XL ai w o fun v _ _=>v = .tuple #[.pointer none, .int .i64 1]):=by
 have s1:=((aj.refl ai w o).alloc (.cells #[.pointer none] 92) (0,0)).alloc (.cells #[.int .i64 0] 23) (0,0);have s2:=((aj.refl ai w o).alloc (.cells #[.pointer none] 92) (0,0)).alloc (.cells #[.int .i64 1] 23) (0,0);have hdd:=ae (Ic (h.step s1 id));have hsz:=ae (size_any (h.step s1 id));rw [hd] at hdd;have hnI:(d.pages.length:Int)<8:=by omega
 clear h s1
 go_enter_defers func90,ntmps90
 go_wp2_with fail;refine hdd.out.mono ?_;rintro e w' ⟨rfl,rfl⟩;go_wp2_with fail;refine hsz.out.mono ?_;rintro e w' ⟨rfl,rfl⟩;go_wp2_with fail;simp [bodyPostD,Leaves,results,go_sem];exact ⟨_,_,rfl,s2,rfl⟩
end
end Go.Proofs.YtffkdillijmamaaGreat
namespace Go.Proofs.YtffkdillijmamaaGreat
open Go.Proofs.Tryz
set_option maxRecDepth 100000
set_option maxHeartbeats 12800000
open Go Go.RowKit
attribute [local go_sem ↓] Go.wp_at_zero Go.wp_at_succ
section
variable {w:World} {o:Own} {N p R pg pn C K B M0:Nat} {g:GN}
theorem Anx (h:KL w o N p g) (hN:N ≠ 0) (hl:g.l.length<=4096) (hbs:∀ x ∈ g.l,x.b.length<=4000000) :
  Calls prog 54 #[.pointer (some ⟨p,0,none⟩)] w (XL (ak (N+1)) w o fun v _ _=>∃ a c,v = .slice a g.l.length c):=by
 obtain ⟨sv,lv,mb,cs,e1, -, -,e4, -⟩:=id h;obtain ⟨la,lc,rfl⟩:=e4.form;have k1:=ag e1 1;simp only [ay,ax] at k1;obtain ⟨L,hL⟩:=az (g.l.length);rw [hL] at k1 ⊢;have hH:=ae (aI h (aI hL (aI hbs (aI hN k1))));have hLI:(0:Int)<=(L:Int)/\(L:Int)<=4096:=by omega
 clear h hbs e1 e4 hL hN;go_enter func54,ntmps54;go_wp2_with fail
 go_loopw [3,13] (fun ov i wr=>∃ (k:Nat) (oj:Own) (cs:List Value),k<=L/\i = .int .i64 k/\Hid (aj (ak (N+1)) w o wr oj/\kP wr oj w.heap.size (N+1) 104 5 ov k cs)) (fun _ i _=>L - (intOf i).toNat)
 case atStart=>exact ⟨0,o,[],Nat.zero_le _,rfl,ae ⟨aj.refl _ _ _,kP.nil _ _ _ _ _ _⟩⟩
 case round =>
  obtain ⟨k,oj,cs,hk,rfl,hr⟩:=hrel
  by_cases hlt:k<L
  ·have AbY:(0:Int)<=(k:Int)/\(k:Int)<(L:Int):=by omega
   obtain ⟨hst,hrow⟩:=hr.out;obtain ⟨h,hL,hbs,hN,c1w⟩:=hH.out;have hn:=h.step hst (by unfold ak;omega) (by unfold ak;omega);obtain ⟨gb,lc',bv,c1,hbv,hrg, -, -⟩:=hn.letter k (by omega);have c2:=(hn.letter k (by omega));obtain ⟨gw,lw,bw,cw, -⟩:=h.letter k (by omega);rw [hL] at cw;rw [c1w] at cw;simp only [Option.some.injEq,Value.slice.injEq] at cw;obtain ⟨rfl, -,rfl⟩:=cw;obtain ⟨sv2,lv2,mb2,cs2,x1, -, -,x4, -⟩:=h;have hgg:gb=gw:=by
    obtain ⟨sv3,lv3,mb3,cs3,y1,y2,y3,y4, -⟩:=hn;have z1:=ag y1 1;have z2:=ag x1 1;have z3:=ag ((hst.block p (au x1) (by
     obtain ⟨sv5,lv5,mb5,cs5,t1,t2, -⟩:=hH.out.1;rw [t2];unfold ak;show ¬ N=N+1;omega)).trans x1) 1
    rw [c1] at z1;have hs5:=hst.block p (au x1) (by
     obtain ⟨sv5,lv5,mb5,cs5,t1,t2, -⟩:=hH.out.1;rw [t2];unfold ak;show ¬ N=N+1;omega)
    have q:=ag (hs5.trans x1) 1;rw [c1] at q;rw [c1w] at z2;rw [<-q] at z2;simp only [Option.some.injEq,Value.slice.injEq] at z2;exact (by have:=z2.1;simp at this;exact this.symm)
   subst hgg;obtain ⟨x,hx⟩:=az (g.l[k]);have hxb:=hbs g.l[k] (List.getElem_mem _);rw [hx] at hbv hrg hxb;obtain ⟨s,d,b⟩:=x;obtain ⟨ba,bc,rfl⟩:=Aq hbv;unfold Aaa at hrg;dsimp only at hrg hbv hxb;have l0:=hrg 0 _ rfl;have l1:=hrg 1 _ rfl;have l2:=hrg 2 _ rfl;have l3:=hrg 3 _ rfl;have l4:=hrg 4 _ rfl;rw [Nat.add_zero] at l0;obtain ⟨W2,V,oV,hW2,hV,hsV,hbV⟩:=Afu (w:=wr) (o:=oj) (vs:=Aaa ⟨s,d,b⟩ (.slice ba b.length bc)) rfl rfl;unfold Aaa at hV hbV;have d0:=hbV.cell 0;have d1:=hbV.cell 1;have d2:=hbV.cell 2;have d3:=hbV.cell 3;have d4:=hbV.cell 4;simp only [ay,ax] at d0 d1 d2 d3 d4;have how:=Aqc ⟨s,d,b⟩ (hbv.step hsV id) hxb;unfold Aaa at how
   replace how:=ae how
   have hF:=ae (aI (hst.trans (hsV.mono (T':=ak (N+1)) fun _ h=>h.elim)) (hrow.step hsV id));obtain ⟨oa,oc,rfl⟩:=hrow.form;have hVH:=ae hV;have xO:=ae hW2;clear hst hrow hn c1 c2 hbv hrg hxb hV hW2 hsV hbV hx hr x1 x4 c1w hbs hL
   go_wp2_with ((with_reducible apply AC);(try rw [xO.out]);exact hVH.out;simp only [Act.put])
   refine how.out.mono ?_;rintro ex W3 ⟨v3,o3,rfl,hs3,bv3,rfl,hb3, -⟩;obtain ⟨va,vc,rfl⟩:=Aq hb3;dsimp only at hb3 ⊢;have hbs:=Api W3 (.int .i64 0) (.int .i64 (s:Int)) (.int .i64 0) (.int .i64 (d:Int)) va b.length vc;obtain ⟨W4,hW4⟩:=az (W3.alloc (.cells #[.int .i64 0, .int .i64 (s:Int), .int .i64 0, .int .i64 (d:Int), .slice va b.length vc] 104));have hsa:=(aj.refl ai W3 o3).alloc (.cells [.int .i64 0, .int .i64 (s:Int), .int .i64 0, .int .i64 (d:Int), .slice va b.length vc].toArray 104) (0,0);have hnb:=heap_alloc_new W3 (.cells [Value.int .i64 0, .int .i64 (s:Int), .int .i64 0, .int .i64 (d:Int), .slice va b.length vc].toArray 104);have hone:sH (W3.alloc (.cells [Value.int .i64 0, .int .i64 (s:Int), .int .i64 0, .int .i64 (d:Int), .slice va b.length vc].toArray 104)) (Ak o3 W3.heap.size (0,0)) (.slice (some ⟨W3.heap.size,0,none⟩) 1 1) 1 [.int .i64 0, .int .i64 (s:Int), .int .i64 0, .int .i64 (d:Int), .slice va b.length vc]:=
    .inr ⟨W3.heap.size,0,1,rfl,Nat.le_refl _,by simp [maxLen],by rw [Au],by simp,AV hnb⟩
   have Amw:W3.alloc (.cells [Value.int .i64 0, .int .i64 (s:Int), .int .i64 0, .int .i64 (d:Int), .slice va b.length vc].toArray 104)=W4:=hW4;obtain ⟨O4,hO4⟩:=az (Ak o3 W3.heap.size (0,0));rw [Amw] at hsa hone;rw [hO4] at hsa hone;rw [hW4] at hbs;obtain ⟨f1,f2⟩:=hF.out;have f3:=f1.trans (hs3.mono (T':=ak (N+1)) fun _ h=>h.elim);obtain ⟨nv,V5,O5,hrun,tK,hs5⟩:=((f2.step hs3 id).step hsa id).append (t:=31) underlying31 Akv rfl (by omega) vI (Nat.le_trans f3.size hsa.size) hone rfl (by intro u hu;simp at hu;rcases hu with rfl | rfl | rfl | rfl | rfl <;> rfl) (by omega) (by omega)
   have hMN:Hid (aj (ak (N+1)) w o V5 O5/\kP V5 O5 w.heap.size (N+1) 104 5 nv (k+1) (cs++[.int .i64 0, .int .i64 (s:Int), .int .i64 0, .int .i64 (d:Int), .slice va b.length vc])):=ae ⟨(f3.trans (hsa.mono fun _ h=>h.elim)).trans hs5,tK⟩;obtain ⟨na,nc,rfl⟩:=tK.form;have AaP:=ae hbs;have Aax:=ae hrun;have Asu:=ae hW4;clear hbs hW4 hsa hnb hone Amw hO4 f1 f2 f3 hrun tK hs5 hs3 hb3 hF how
   go_wp2_with (first
    | ((with_reducible apply BO #[(0, .agg #[.int .i64 0, .int .i64 (s:Int), .int .i64 0, .int .i64 (d:Int), .slice va b.length vc])] rfl);exact AaP.out;simp only [Act.put,GL,DL,lss])
    | ((with_reducible apply Bl);exact Aax.out;simp only [Act.put,GL,DL,lss]))
   go_roundw
   case rel=>exact ⟨k+1,O5,_,by omega,by go_num,hMN⟩
   case measure=>simp [intOf];omega
  ·obtain rfl:k=L:=by omega
   obtain ⟨hst,hrow⟩:=hr.out;obtain ⟨oa,oc,rfl⟩:=hrow.form;have hF:=ae hst;clear hst hrow hr;go_wp2_with fail;go_ret;exact ⟨_,oj,rfl,hF.out,_,_,rfl⟩
theorem Anz {xs:List xI} {zs:List Am} (h:GAt w o R pg pn xs zs g) (hlen:g.l.length<=4096) (hbs:∀ x ∈ g.l,x.b.length<=4000000) :
  Calls prog 15 #[.pointer (some ⟨pg,0,none⟩)] w (XL (ak (R+3)) w o fun v _ _=>∃ a c,v = .slice a g.l.length c):=by
 have hc:=ae (Anx h.2.1 (by omega) hlen hbs);obtain ⟨bn,cap,e1, -⟩:=h.1;have c1:=ag e1 1;simp only [ay,ax] at c1;unfold Uc at c1;clear h e1 hbs;go_enter func15,ntmps15;go_wp2_with fail;refine hc.out.mono ?_;rintro e W1 ⟨v,o1,rfl,hs,a,c,rfl⟩;have hF:=ae hs;clear hs hc;go_wp2_with fail;go_ret;exact ⟨_,o1,rfl,hF.out,_,_,rfl⟩
theorem Anj {p:PG} (hM:M0<R) (h:PAt w o R pg pn C K B p) (hB:B<=90000) :
  Calls prog 15 #[.pointer (some ⟨pg,0,none⟩)] w (XL (EN M0) w o fun v w' o'=>(∃ a c,v = .slice a p.ls.length c)/\PAt w' o' R pg pn C K B p):=by
 obtain ⟨hls,hR⟩:=h.Aqy;obtain ⟨xs,zs,hg, -⟩:=id h;refine (Anz hg (by show (Ua p.ls).length<=4096;rw [AaL];exact hls.1) (fun x hx => ?_)).mono ?_
 ·obtain ⟨y,hy,rfl⟩:=List.mem_map.1 hx;obtain ⟨-, -, -,e4,e5⟩:=hls.2 y hy;have:=Aje e4.n1;show y.2.2.put.length<=4000000;omega
 ·rintro e w' ⟨v,o',rfl,hs,a,c,rfl⟩;exact ⟨_,o',rfl,hs.mono (fun k (hk:k=R+3)=>by show M0<k;omega),⟨a,c,by show Value.slice a (Ua p.ls).length c=_;rw [AaL]⟩,h.step3 hs⟩
end
end Go.Proofs.YtffkdillijmamaaGreat
namespace Go.Proofs.YtffkdillijmamaaGreat
open Go.Proofs.Tryz
set_option maxRecDepth 100000
set_option maxHeartbeats 12800000
open Go Go.RowKit
attribute [local go_sem ↓] Go.wp_at_zero Go.wp_at_succ
namespace PG
def Ane (p:PG):Nat->PG
 | 0=>p
 | k+1=>((p.Ane k).tick k).1
def takes (p:PG):Nat->PG
 | 0=>p
 | k+1=>((p.takes k).take 0).1
def Ends (p:PG) (B m:Nat):Prop:=(∀ k,k<m->((p.takes k).ls.length == 0)=false/\((p.takes k).take 0).2=0)/\(p.takes m).ls.length=0/\∀ k,k<=m->(p.takes k).fits B=true/\(p.takes k).ys.length=p.ys.length
def Ang (p:PG) (B n:Nat):Prop:=∀ k,k<=n->(p.Ane k).fits B=true/\(p.Ane k).ys.length=n/\∀ y ∈ (p.Ane k).ys,y.waited<=1000000
instance (p:PG) (B m:Nat):Decidable (p.Ends B m):=by unfold Ends;infer_instance
instance (p:PG) (B n:Nat):Decidable (p.Ang B n):=by unfold Ang;infer_instance
end PG
end Go.Proofs.YtffkdillijmamaaGreat
namespace Go.Proofs.YtffkdillijmamaaGreat
open Go.Proofs.Tryz
set_option maxRecDepth 100000
set_option maxHeartbeats 12800000
open Go Go.RowKit
attribute [local go_sem ↓] Go.wp_at_zero Go.wp_at_succ
section
variable {w:World} {o:Own} {R pg pn C K B M0:Nat} {p:PG}
theorem kT (hM:M0<R) (h:PAt w o R pg pn C K B p) {n m:Nat} (hn:n<=3) (hm:m<=9000) (hK:K+6*n+3*m+700<65536) (hBC:B+B<=C) (hC:B+B<=90000) (ht:p.Ang B n) (he:(p.Ane n).Ends B m) :
  Calls prog 10 #[.pointer (some ⟨pg,0,none⟩), .int .i64 (n:Int)] w (XL (EN M0) w o fun v w' o'=>v = .bool true/\PAt w' o' R pg pn C (K+6*n+3*m) B ((p.Ane n).takes m)):=by
 have hH:=ae (aI h (aI ht he));have e0H:=ae (show ((0:Nat):Int)=0 from rfl);have hnI:(0:Int)<=(n:Int)/\(n:Int)<=3:=by omega
 clear h ht he;go_enter func10,ntmps10;go_wp2_with fail
 go_loopw [5] (fun i wr=>∃ (k:Nat) (oj:Own),k<=n/\i = .int .i64 k/\Hid (aj (EN M0) w o wr oj/\PAt wr oj R pg pn C (K+6*k) B (p.Ane k))) (fun i _=>n - (intOf i).toNat)
 case atStart=>exact ⟨0,o,Nat.zero_le _,rfl,ae ⟨aj.refl _ _ _,hH.out.1⟩⟩
 case round =>
  obtain ⟨k,oj,hk,rfl,hr⟩:=hrel
  by_cases hlt:k<n
  ·obtain ⟨hst,hp⟩:=hr.out;obtain ⟨f1,f2,f3⟩:=hH.out.2.1 k (by omega);have hc:=ae (AnJ hM hp (by omega) (by omega) (by omega) k (by rw [f2];exact hlt) f3);have Abe:=ae hst;have AbY:(0:Int)<=(k:Int)/\(k:Int)<(n:Int):=by omega
   clear hst hp f1 f2 f3 hr;go_wp2_with fail;refine hc.out.mono ?_;rintro e V ⟨v,o2,rfl,hs,rfl,hp⟩;have hF:Hid (aj (EN M0) w o V o2/\PAt V o2 R pg pn C (K+6*(k+1)) B (p.Ane (k+1))):=ae (aI (Abe.out.trans hs) (hp.mono (by omega) (Nat.le_refl _)));obtain ⟨er,her⟩:=az (((p.Ane k).tick k).2);rw [her];clear hs hp hc Abe her;go_wp2_with fail;go_roundw
   case rel=>exact ⟨k+1,o2,by omega,by go_num,hF⟩
   case measure=>simp [intOf];omega
  ·obtain rfl:k=n:=by omega
   have hr':Hid (aj (EN M0) w o wr oj/\PAt wr oj R pg pn C (K+6*k+3*0) B ((p.Ane k).takes 0)):=hr;obtain ⟨P,hP⟩:=az (p.Ane k);rw [hP] at hr';have hE:=hH.out.2.2;rw [hP] at hE;have hEH:=ae hE;have hPH:=ae hP;clear hr hE hP hlt hk;go_wp2_with fail
   go_loopw [6] (fun i wr=>∃ (q:Nat) (oj:Own),q<=m/\i = .int .i64 q/\Hid (aj (EN M0) w o wr oj/\PAt wr oj R pg pn C (K+6*k+3*q) B (P.takes q))) (fun i _=>m - (intOf i).toNat)
   case atStart=>exact ⟨0,oj,Nat.zero_le _,rfl,hr'⟩
   case round =>
    clear hr';obtain ⟨q,ok,hq,rfl,hr⟩:=hrel;obtain ⟨hst,hp⟩:=hr.out;have hc:=ae (Anj hM hp (by omega));have Abe:=ae hst;have hqI:(0:Int)<=(q:Int)/\(q:Int)<=9000:=by omega
    clear hst hp hr
    by_cases hlt:q<m
    ·obtain ⟨g1,g2⟩:=hEH.out.1 q hlt;obtain ⟨Lq,hLq⟩:=az ((P.takes q).ls.length);rw [hLq] at hc g1;have hpos:(0:Int)<(Lq:Int):=by simp at g1;omega
     have hgH:=ae g2;clear g1 g2 hLq;go_wp2_with fail;refine hc.out.mono ?_;rintro e V ⟨v,o2,rfl,hs,⟨ya,yc,rfl⟩,hp⟩;have hc2:=AnO hM hp (by omega) hBC hC 0;rw [e0H.out,hgH.out] at hc2
     replace hc2:=ae hc2
     have hst2:=ae (Abe.out.trans hs);clear hs hp hc Abe;go_wp2_with fail;refine hc2.out.mono ?_;rintro e V2 ⟨v,o3,rfl,hs,rfl,hp⟩;have hF:Hid (aj (EN M0) w o V2 o3/\PAt V2 o3 R pg pn C (K+6*k+3*(q+1)) B (P.takes (q+1))):=ae (aI (hst2.out.trans hs) ((hp.mono (K':=K+6*k+3*(q+1)) (by omega) (Nat.le_refl _)).lower (hEH.out.2.2 (q+1) (by omega)).1));clear hs hp hc2 hst2;go_wp2_with fail;go_roundw
     case rel=>exact ⟨q+1,o3,by omega,by go_num,hF⟩
     case measure=>simp [intOf];omega
    ·obtain rfl:q=m:=by omega
     rw [hEH.out.2.1] at hc;clear hlt hq;go_wp2_with fail;refine hc.out.mono ?_;rintro e V ⟨v,o2,rfl,hs,⟨ya,yc,rfl⟩,hp⟩;have hF:=ae (aI (Abe.out.trans hs) hp);clear hs hp hc Abe;go_wp2_with fail;go_ret;exact ⟨_,o2,rfl,hF.out.1,rfl,by rw [hPH.out];exact hF.out.2⟩
end
end Go.Proofs.YtffkdillijmamaaGreat
