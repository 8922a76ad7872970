/- Contracts of the group: New where it may not be. -/
import Derived.Outline
import Derived.Test.YtffkdillijmamaaGreatGkX
namespace Go.Proofs.YtffkdillijmamaaGreat
open Go.Proofs.Tryz
set_option maxRecDepth 100000
set_option maxHeartbeats 12800000
open Go Go.RowKit
attribute [local go_sem ↓] Go.wp_at_zero Go.wp_at_succ
theorem AnA (n pages:Int) (hn:n<1 \/ 3<n) (w:World):Calls prog 9 #[.int .i64 n, .int .i64 pages] w fun e w'=>e = .returned (.tuple #[.pointer none, .int .i64 1])/\w=w':=by
 rcases hn with h | h
 ·go_enter func9,ntmps9
  go_wp2
  go_ret2
  exact ⟨rfl,rfl⟩
 ·have h2:¬ n<1:=by omega
  go_enter func9,ntmps9
  go_wp2
  go_ret2
  exact ⟨rfl,rfl⟩
theorem Apm {w:World} {o:Own} {px pd D id n:Nat} {d:Af} {zv sv:Value} (hb:w.heap[px]?=some (.cells [zv,Uc pd,sv].toArray 94 (0,0))) (hD:Bg w o D pd d) (hd:d.dead=false) (hn:d.pages.length<8) :
  Calls prog 42 #[.pointer (some ⟨px,0,none⟩), .int .i64 (id:Int), .int .i64 (n:Int)] w (XL ai w o fun v _ _=>v = .int .i64 1):=by
 have hop:=ae (Aor hD hd hn);have c1:=ag hb 1;simp only [ay,ax] at c1;unfold Uc at c1;clear hb hD;go_enter func42,ntmps42;go_wp2_with fail;refine hop.out.mono ?_;rintro e W1 ⟨v,o1,rfl,hs1,rfl⟩;have hF:=ae hs1;clear hs1 hop;go_wp2_with fail;go_ret;exact ⟨_,o1,rfl,hF.out,rfl⟩
theorem Apu {M0 R D:Nat} (_hM:M0<R) (_hD:D=R+10) (w:World) (o:Own) :
  Calls prog 9 #[.int .i64 3, .int .i64 7] w (XL (EN M0) w o fun v _ _=>v = .tuple #[.pointer none, .int .i64 1]):=by
 obtain ⟨W1,o1,hW1,⟨hs1, -⟩,hb1⟩:=Akp w o (.cells #[.slice none 0 0, .pointer none] 84) (R,0);obtain ⟨W2,o2,hW2,⟨hs2, -⟩,hb2⟩:=Akp W1 o1 (.cells [.int .i64 3].toArray 3) (0,0);have hbs:=ae (AmV W1 3);have hone:sH W2 o2 (.slice (some ⟨W1.heap.size,0,none⟩) 1 1) 1 [.int .i64 3] := .inr ⟨W1.heap.size,0,1,rfl,Nat.le_refl _,by simp [maxLen],by rw [hb2.2],au hb2.1,AV hb2.1⟩;have hnn:=ae (Aqp 3 (R+2) hone ⟨by omega,by omega⟩);have hE:=ae (aI (hs1.trans hs2) (hb1.step hs2 id));have uM:=ae hW1;have xO:=ae hW2;clear hs1 hs2 hb1 hb2 hone hW1 hW2;go_enter func9,ntmps9
 go_wp2_with ((with_reducible apply BO #[(0, .int .i64 (3:Int))] rfl);(try rw [uM.out]);exact hbs.out;simp only [Act.put,GL,DL,lss])
 rw [xO.out];refine hnn.out.mono ?_;rintro e W3 ⟨v3,o3,rfl,hs3,pn,rfl,Aye, -⟩;have hb3:=hE.out.2.step hs3 id;have k1:=ag hb3.1 1;have f1:=Ap hb3.1 1;simp only [ay,ax] at k1;have st1:=((hE.out.1.trans hs3).mono (T':=EN M0) fun _ h=>h.elim).setCell (a:=⟨w.heap.size,1,none⟩) (Uc pn) (.inr (Nat.le_refl _));unfold Uc at st1;have stH:=ae st1;clear hb3 st1 Aye hs3 hnn hE uM xO hbs;go_wp2_with fail
 go_loopw [30] (fun i wr=>∃ (oj:Own),i = .int .i64 0/\Hid (aj (EN M0) w o wr oj)) (fun i _=>0)
 case atStart=>exact ⟨o3,rfl,stH⟩
 case round =>
  clear stH k1 f1;obtain ⟨oj,rfl,hrel⟩:=hrel;have hst:=hrel.out;have hdn:=ae (TB 7 wr oj D (by omega) (by omega));have e7:((7:Nat):Int)=7:=rfl;rw [e7] at hdn;clear e7;have AqZ:=ae hst;clear hst hrel;go_wp2_with fail;refine hdn.out.mono ?_;rintro ex V1 ⟨v,p1,rfl,hs1,pd, -,rfl,hd⟩;obtain ⟨V2,p2,hV2,⟨hs2, -⟩,hb2⟩:=AaC V1 p1 (.cells [.pointer none,Uc pd, .pointer none].toArray 94);have hop:=Apm (id:=0) (n:=3) hb2.1 (hd.step hs2 id) rfl (by decide);rw [show ((0:Nat):Int)=0 from rfl,show ((3:Nat):Int)=3 from rfl] at hop
  replace hop:=ae hop
  have hG:=ae (AqZ.out.trans ((hs1.trans hs2).mono (T':=EN M0) fun _ h=>h.elim));have Aym:=ae hV2;clear hs1 hs2 hd hb2 hV2 hdn AqZ;go_wp2_with fail;unfold Uc at Aym;rw [Aym.out];refine hop.out.mono ?_;rintro ex V3 ⟨v,p3,rfl,hs3,rfl⟩;have hE:=ae (hG.out.trans (hs3.mono (T':=EN M0) fun _ h=>h.elim));clear hs3 hG hop;go_wp2_with fail
  go_ret2
  exact ⟨_,p3,rfl,hE.out,rfl⟩
theorem Apn {M0 R D:Nat} (_hM:M0<R) (_hD:D=R+10) (w:World) (o:Own) :
  Calls prog 9 #[.int .i64 3, .int .i64 0] w (XL (EN M0) w o fun v _ _=>v = .tuple #[.pointer none, .int .i64 1]):=by
 obtain ⟨W1,o1,hW1,⟨hs1, -⟩,hb1⟩:=Akp w o (.cells #[.slice none 0 0, .pointer none] 84) (R,0);obtain ⟨W2,o2,hW2,⟨hs2, -⟩,hb2⟩:=Akp W1 o1 (.cells [.int .i64 3].toArray 3) (0,0);have hbs:=ae (AmV W1 3);have hone:sH W2 o2 (.slice (some ⟨W1.heap.size,0,none⟩) 1 1) 1 [.int .i64 3] := .inr ⟨W1.heap.size,0,1,rfl,Nat.le_refl _,by simp [maxLen],by rw [hb2.2],au hb2.1,AV hb2.1⟩;have hnn:=ae (Aqp 3 (R+2) hone ⟨by omega,by omega⟩);have hE:=ae (aI (hs1.trans hs2) (hb1.step hs2 id));have uM:=ae hW1;have xO:=ae hW2;clear hs1 hs2 hb1 hb2 hone hW1 hW2;go_enter func9,ntmps9
 go_wp2_with ((with_reducible apply BO #[(0, .int .i64 (3:Int))] rfl);(try rw [uM.out]);exact hbs.out;simp only [Act.put,GL,DL,lss])
 rw [xO.out];refine hnn.out.mono ?_;rintro e W3 ⟨v3,o3,rfl,hs3,pn,rfl,Aye, -⟩;have hb3:=hE.out.2.step hs3 id;have k1:=ag hb3.1 1;have f1:=Ap hb3.1 1;simp only [ay,ax] at k1;have st1:=((hE.out.1.trans hs3).mono (T':=EN M0) fun _ h=>h.elim).setCell (a:=⟨w.heap.size,1,none⟩) (Uc pn) (.inr (Nat.le_refl _));unfold Uc at st1;have stH:=ae st1;clear hb3 st1 Aye hs3 hnn hE uM xO hbs;go_wp2_with fail
 go_loopw [30] (fun i wr=>∃ (oj:Own),i = .int .i64 0/\Hid (aj (EN M0) w o wr oj)) (fun i _=>0)
 case atStart=>exact ⟨o3,rfl,stH⟩
 case round =>
  clear stH k1 f1;obtain ⟨oj,rfl,hrel⟩:=hrel;have hst:=hrel.out;have hdn:=ae (Apy 0 wr oj (.inl (by omega)));have AqZ:=ae hst;clear hst hrel;go_wp2_with fail;refine hdn.out.mono ?_;rintro ex V1 ⟨rfl,rfl⟩;clear hdn;go_wp2_with fail
  go_ret2
  exact ⟨_,oj,rfl,AqZ.out,rfl⟩
namespace PG
def Art (p:PG) (B m:Nat):Prop:=(∀ k,k<m->((p.takes k).ls.length == 0)=false)/\(p.takes m).ls.length=0/\∀ k,k<=m->(p.takes k).fits B=true/\(p.takes k).ys.length=3
instance (p:PG) (B m:Nat):Decidable (p.Art B m):=by unfold Art;infer_instance
def Calm (p:PG):Prop:=p.ys.length=3/\∀ y ∈ p.ys,y.waited<=1000000
instance (p:PG):Decidable p.Calm:=by unfold Calm;infer_instance
end PG
def knM:Nat->Nat
 | 3=>8
 | 4=>4
 | _=>0
def knA:Nat->PG
 | 0=>PG.new 3
 | k+1=>((knA k).Ane 3).takes (knM k)
theorem ArV:∀ k,k<5->(knA k).Ang 40 3/\((knA k).Ane 3).Ends 40 (knM k)/\knM k<=8:=by decide +kernel
def knX:PG:=((knA 5).BL 1 [120]).1
def knB:PG:=(knX.BL 0 [97]).1
theorem ArP:((knA 5).ys[0]?).map Aj.OD=some true/\((knA 5).BL 1 [120]).2=64/\(knX.BL 0 [97]).2=0/\(knA 5).ys.length=3/\knX.ys.length=3/\knX.fits 40=true/\knB.fits 40=true:=by decide +kernel
theorem ArU:knB.Ang 40 3/\(knB.Ane 3).Ends 40 4:=by decide +kernel
def knC:PG:=(knB.Ane 3).takes 4
def knL:PG:=(knC.BL 0 [108,111,115,116]).1
def knD:PG:=knL.kill 0
theorem ArT:(knC.BL 0 [108,111,115,116]).2=0/\knC.ys.length=3/\knL.ys.length=3/\knL.fits 40=true:=by decide +kernel
def knN:Nat->Nat
 | 5=>6
 | 6=>3
 | 7=>3
 | _=>0
def knE:Nat->PG
 | 0=>knD
 | k+1=>((((knE k).tick 1).1.tick 2).1).takes (knN k)
theorem ArS:∀ k,k<8->(knE k).Calm/\((knE k).tick 1).1.Calm/\(((knE k).tick 1).1.tick 2).1.Art 40 (knN k)/\knN k<=6:=by decide +kernel
def knF:PG:=((knE 8).BL 1 [98]).1
def knG:PG:=knF.start 0
theorem ArR:((knE 8).ys[1]?).map Aj.OD=some true/\((knE 8).BL 1 [98]).2=0/\(knE 8).ys.length=3/\knF.ys.length=3/\knF.fits 40=true/\(knG.ys[0]?).map (fun y=>y.k.lines.length)=some 2:=by decide +kernel
def knH:Nat->PG
 | 0=>knG
 | k+1=>((knH k).Ane 3).takes 4
theorem Arl:∀ k,k<3->(knH k).Ang 40 3/\((knH k).Ane 3).Ends 40 4:=by decide +kernel
theorem ArQ:∀ i,i<3->((knH 3).ys[i]?).map (fun y=>(y.k.lines.take y.Ag).map fun x=>(x.e,x.b))=some [(3,[97]),(4,[98])]:=by decide +kernel
theorem Aop {l:List Ar} (h:l.map (fun x=>(x.e,x.b))=[(3,[97]),(4,[98])]):l=[⟨3,[97]⟩,⟨4,[98]⟩]:=by
 match l,h with
 | [⟨a,b⟩,⟨c,d⟩],h =>
  simp only [List.map_cons,List.map_nil,List.cons.injEq,Prod.mk.injEq,and_true] at h;obtain ⟨⟨rfl,rfl⟩,rfl,rfl⟩:=h;rfl
theorem least {P:Nat->Prop} (h:∃ n,P n):∃ n,P n/\∀ k,P k->n<=k:=by
 obtain ⟨n,hn⟩:=h
 induction n using Nat.strongRecOn with
 | _ n ih =>
  by_cases hk:∃ k,k<n/\P k
  ·obtain ⟨k,h1,h2⟩:=hk;exact ih k h1 h2
  ·exact ⟨n,hn,fun k hp=>Nat.le_of_not_lt fun hlt=>hk ⟨k,hlt,hp⟩⟩
open Classical in
noncomputable def muW (m:Nat) (I:Nat->World->Prop) (w:World):Nat:=if h:∃ j,j<=m/\I (m - j) w then Classical.choose (least h) else 0
theorem Apr {m:Nat} {I:Nat->World->Prop} {w:World} (h:∃ q,q<=m/\I q w):∃ q,q<=m/\I q w/\m - q=muW m I w:=by
 obtain ⟨q,h1,h2⟩:=h;have hx:∃ j,j<=m/\I (m - j) w:=⟨m - q,by omega,by rw [show m - (m - q)=q by omega];exact h2⟩;obtain ⟨⟨g1,g2⟩, -⟩:=Classical.choose_spec (least hx);refine ⟨m - Classical.choose (least hx),by omega,g2, ?_⟩;unfold muW;rw [dif_pos hx];omega
theorem Ara {m q:Nat} {I:Nat->World->Prop} {w:World} (hq:q<=m) (h:I q w):muW m I w<=m - q:=by
 have hx:∃ j,j<=m/\I (m - j) w:=⟨m - q,by omega,by rw [show m - (m - q)=q by omega];exact h⟩;unfold muW;rw [dif_pos hx];exact (Classical.choose_spec (least hx)).2 (m - q) ⟨by omega,by rw [show m - (m - q)=q by omega];exact h⟩
theorem Anq (w:World) (o:Own) (bs:List UInt8) (n:Nat) (hn:bs.length=n) (Asv:n<=100) :
  ∃ V oV,(convert 29 29 (.slice (some ⟨w.heap.size,0,none⟩) n n)).run prog (w.alloc (.cells (bvs bs).toArray 5)) = .ok (.slice (some ⟨w.heap.size,0,none⟩) n n) V/\Bytes V oV (.slice (some ⟨w.heap.size,0,none⟩) n n) bs/\aj ai w o V oV:=by
 have hl:(bvs bs).length=n:=by simp [bvs,hn]
 have h:=GU w (bvs bs) n n;refine ⟨_,Ak o w.heap.size (0,0),h, .inr ⟨w.heap.size,0,n,by rw [hn],by omega,by unfold maxLen;omega,by rw [Au],by simp,AV (heap_alloc_new w _)⟩,(aj.refl ai w o).alloc _ (0,0)⟩
theorem Anp (w:World) (o:Own):Calls prog 3 #[] w (XL ai w o fun v _ _=>v = .bool true):=by
 obtain ⟨M, -,hM⟩:=EZ o 0 w.heap.size;have hMR:M<M+1:=Nat.lt_succ_self _;have hMH:=ae hM;have e0H:=ae (show ((0:Nat):Int)=0 from rfl);have e1H:=ae (show ((1:Nat):Int)=1 from rfl);have e2H:=ae (show ((2:Nat):Int)=2 from rfl);have e3H:=ae (show ((3:Nat):Int)=3 from rfl);have hc:=ae (AnA 0 100 (.inl (by omega)) w);clear hM;go_enter func3,ntmps3;go_wp2_with fail;refine hc.out.mono ?_;rintro e W0 ⟨rfl,rfl⟩
 replace hc:=ae (AnA 4 100 (.inr (by omega)) w)
 go_wp2_with fail;refine hc.out.mono ?_;rintro e W0 ⟨rfl,rfl⟩
 replace hc:=ae (Apu hMR rfl w o)
 go_wp2_with fail;refine hc.out.mono ?_;rintro e W1 ⟨v,o1,rfl,hs,rfl⟩;have hst:=ae hs
 replace hc:=ae (Apn hMR rfl W1 o1)
 clear hs;go_wp2_with fail;refine hc.out.mono ?_;rintro e W2 ⟨v,o2,rfl,hs,rfl⟩
 replace hst:=ae (hst.out.trans hs)
 replace hc:=ae (ApO (C:=19000) hMR 3 100 (by omega) (by omega) (by omega) (by omega) (by omega) W2 o2)
 clear hs;go_wp2_with fail;refine hc.out.mono ?_;rintro e W3 ⟨v,o3,rfl,hs,pg,pn,rfl,hp⟩;have hF:Hid (aj (EN M) w o W3 o3/\PAt W3 o3 (M+1) pg pn 19000 (50*0) 40 (knA 0)):=ae ⟨hst.out.trans hs,hp.mono (Nat.zero_le _) (Nat.zero_le _)⟩;clear hc hs hp hst;go_wp2_with fail
 go_loopw [11] (fun i wr=>∃ (k:Nat) (oj:Own),k<=5/\i = .int .i64 k/\Hid (aj (EN M) w o wr oj/\PAt wr oj (M+1) pg pn 19000 (50*k) 40 (knA k))) (fun i _=>5 - (intOf i).toNat)
 case atStart=>exact ⟨0,o3,Nat.zero_le _,rfl,hF⟩
 case round =>
  clear hF;obtain ⟨k,oj,hk,rfl,hr⟩:=hrel
  by_cases hlt:k<5
  ·obtain ⟨hst,hp⟩:=hr.out;obtain ⟨f1,f2,f3⟩:=ArV k hlt;have hc:=kT hMR hp (n:=3) (m:=knM k) (by omega) (by omega) (by omega) (by omega) (by omega) f1 f2;rw [e3H.out] at hc;have WV:=ae hc;have hG:=ae (aI hst f3);have AbY:(0:Int)<=(k:Int)/\(k:Int)<5:=by omega
   clear hst hp f1 f2 f3 hc hr;go_wp2_with fail;refine WV.out.mono ?_;rintro e V ⟨v,o4,rfl,hs,rfl,hp⟩;have hF:Hid (aj (EN M) w o V o4/\PAt V o4 (M+1) pg pn 19000 (50*(k+1)) 40 (knA (k+1))):=ae ⟨hG.out.1.trans hs,hp.mono (by have:=hG.out.2;omega) (Nat.le_refl _)⟩;clear hs hp WV hG;go_wp2_with fail;go_roundw
   case rel=>exact ⟨k+1,o4,by omega,by go_num,hF⟩
   case measure=>simp [intOf];omega
  ·obtain rfl:k=5:=by omega
   obtain ⟨hst,hp⟩:=hr.out;obtain ⟨x1,x2,x3,x4,x5,x6,x7⟩:=ArP;obtain ⟨y,hy,hl⟩:=Agp x1;have hc:=Agv hp hy hl;rw [e0H.out] at hc;have WV:=ae hc;obtain ⟨V,oV,hcv0,hb,sV⟩:=Anq wr oj [120] 1 rfl (by omega);have hcv:(convert 29 29 (.slice (some ⟨wr.heap.size,0,none⟩) 1 1)).run prog (wr.alloc (.cells #[.int .u8 120] 5)) = .ok (.slice (some ⟨wr.heap.size,0,none⟩) 1 1) V:=hcv0;have hc2:=Ajl hMR (hp.step0 sV) (by omega) hb (by simp) (by simp) 1 (by rw [x4];omega);rw [e1H.out,x2] at hc2;have Apt:=ae hc2;have Abe:=ae (hst.trans (sV.mono (T':=EN M) fun _ h=>h.elim));clear hr hst hp hlt hk x1 hy hl hc hcv0 hb sV hc2;rw [show ((5:Nat):Int)=5 from rfl];go_wp2_with fail;refine WV.out.mono ?_;rintro e Wx ⟨rfl,rfl⟩;go_wp2_with fail;refine Apt.out.mono ?_;rintro e W4 ⟨v,o4,rfl,hs,rfl,hp⟩
   replace hp:=PAt.lower (B':=40) hp x6
   obtain ⟨V2,oV2,hcv0,hb,sV⟩:=Anq W4 o4 [97] 1 rfl (by omega);have hcv2:(convert 29 29 (.slice (some ⟨W4.heap.size,0,none⟩) 1 1)).run prog (W4.alloc (.cells #[.int .u8 97] 5)) = .ok (.slice (some ⟨W4.heap.size,0,none⟩) 1 1) V2:=hcv0;have hc:=Ajl hMR (PAt.step0 (p:=knX) hp sV) (by omega) hb (by simp) (by simp) 0 (by rw [x5];omega);rw [e0H.out,x3] at hc
   replace WV:=ae hc
   replace Abe:=ae ((Abe.out.trans hs).trans (sV.mono (T':=EN M) fun _ h=>h.elim))
   clear hcv hs hp hcv0 hb sV hc Apt;go_wp2_with fail;refine WV.out.mono ?_;rintro e W5 ⟨v,o5,rfl,hs,rfl,hp⟩
   replace hp:=PAt.lower (B':=40) (p:=knB) hp x7
   obtain ⟨b1,b2⟩:=ArU;have hc:=kT hMR hp (n:=3) (m:=4) (by omega) (by omega) (by omega) (by omega) (by omega) b1 b2;rw [e3H.out] at hc
   replace WV:=ae hc
   replace Abe:=ae (Abe.out.trans hs)
   clear hcv2 hs hp hc b1 b2 x2 x3 x4 x5 x6 x7;go_wp2_with fail;refine WV.out.mono ?_;rintro e W6 ⟨v,o6,rfl,hs,rfl,hp⟩;obtain ⟨c1,c2,c3,c4⟩:=ArT;obtain ⟨V3,oV3,hcv0,hb,sV⟩:=Anq W6 o6 [108,111,115,116] 4 rfl (by omega);have ArX:(convert 29 29 (.slice (some ⟨W6.heap.size,0,none⟩) 4 4)).run prog (W6.alloc (.cells #[.int .u8 108, .int .u8 111, .int .u8 115, .int .u8 116] 5)) = .ok (.slice (some ⟨W6.heap.size,0,none⟩) 4 4) V3:=hcv0;have hc:=Ajl hMR (PAt.step0 (p:=knC) hp sV) (by omega) hb (by simp) (by simp) 0 (by rw [c2];omega);rw [e0H.out,c1] at hc
   replace WV:=ae hc
   replace Abe:=ae ((Abe.out.trans hs).trans (sV.mono (T':=EN M) fun _ h=>h.elim))
   clear hs hp hcv0 hb sV hc;go_wp2_with fail;refine WV.out.mono ?_;rintro e W7 ⟨v,o7,rfl,hs,rfl,hp⟩
   replace hp:=PAt.lower (B':=40) (p:=knL) hp c4
   have hc:=Aof hMR hp 0 (by rw [c3];omega);rw [e0H.out] at hc
   replace WV:=ae hc
   replace Abe:=ae (Abe.out.trans hs)
   clear ArX hs hp hc c1 c2 c3 c4;go_wp2_with fail;refine WV.out.mono ?_;rintro e W8 ⟨v,o8,rfl,hs,rfl,hp⟩;have hF:Hid (aj (EN M) w o W8 o8/\PAt W8 o8 (M+1) pg pn 19000 (310+40*0) 40 (knE 0)):=ae ⟨Abe.out.trans hs,hp.mono (by omega) (Nat.le_refl _)⟩;clear hs hp WV Abe;go_wp2_with fail
   go_loopw [12] (fun i wr=>∃ (k:Nat) (oj:Own),k<=8/\i = .int .i64 k/\Hid (aj (EN M) w o wr oj/\PAt wr oj (M+1) pg pn 19000 (310+40*k) 40 (knE k))) (fun i _=>8 - (intOf i).toNat)
   case atStart=>exact ⟨0,o8,Nat.zero_le _,rfl,hF⟩
   case round =>
    clear hF;obtain ⟨k,ok,hk,rfl,hr⟩:=hrel
    by_cases hlt:k<8
    ·obtain ⟨hst,hp⟩:=hr.out;obtain ⟨f1,f2,f3,f4⟩:=ArS k hlt;have hc:=AnJ hMR hp (by omega) (by omega) (by omega) 1 (by rw [f1.1];omega) f1.2;rw [e1H.out] at hc;have WV:=ae hc;have Abe:=ae hst;have AbY:(0:Int)<=(k:Int)/\(k:Int)<8:=by omega
     have xY:=ae (aI f2 (aI f3 f4));clear hst hp f1 f2 f3 f4 hc hr;go_wp2_with fail;refine WV.out.mono ?_;rintro e V1 ⟨v,p1,rfl,hs,rfl,hp⟩;obtain ⟨er,her⟩:=az (((knE k).tick 1).2);rw [her];have hc:=AnJ hMR hp (by omega) (by omega) (by omega) 2 (by rw [xY.out.1.1];omega) xY.out.1.2;rw [e2H.out] at hc
     replace WV:=ae hc
     replace Abe:=ae (Abe.out.trans hs)
     clear hs hp hc her;go_wp2_with fail;refine WV.out.mono ?_;rintro e V2 ⟨v,p2,rfl,hs,rfl,hp⟩;obtain ⟨er2,her⟩:=az ((((knE k).tick 1).1.tick 2).2);rw [her];obtain ⟨P,hP⟩:=az ((((knE k).tick 1).1.tick 2).1);rw [hP] at hp;obtain ⟨m,hm⟩:=az (knN k);have hEm:=xY.out.2.1;have hm6:=xY.out.2.2;rw [hP,hm] at hEm;rw [hm] at hm6;have hEH:=ae hEm;have hnx:(P.takes m)=knE (k+1):=by rw [<-hP, <-hm];rfl
     have Aug:=ae hnx;obtain ⟨I,hI⟩:∃ I:Nat->World->Prop,I=fun q wr=>∃ oj,aj (EN M) w o wr oj/\PAt wr oj (M+1) pg pn 19000 (322+40*k+3*q) 40 (P.takes q):=⟨_,rfl⟩;have h0:I 0 V2:=by rw [hI];exact ⟨p2,Abe.out.trans hs,hp.mono (by omega) (Nat.le_refl _)⟩
     have hIH:=ae hI;have h0H:=ae h0;clear hs hp WV Abe her hP hm hEm hnx hI h0 xY;go_wp2_with fail
     go_loopw [] (fun wr=>∃ q,q<=m/\Hid (I q wr)/\Hid (m - q=muW m I wr)) (fun wr=>muW m I wr)
     case atStart =>
      obtain ⟨q,g1,g2,g3⟩:=Apr ⟨0,Nat.zero_le _,h0H.out⟩;exact ⟨q,g1,ae g2,ae g3⟩
     case round =>
      obtain ⟨q,hq,hi,hmu⟩:=hrel;obtain ⟨oq,hst,hp⟩:∃ oj,aj (EN M) w o wr oj/\PAt wr oj (M+1) pg pn 19000 (322+40*k+3*q) 40 (P.takes q):=by have:=hi.out;rw [hIH.out] at this;exact this
      have hc:=ae (Anj hMR hp (by omega));have Abe:=ae hst;clear hst hp hi
      by_cases hqm:q<m
      ·have g1:=hEH.out.1 q hqm;obtain ⟨Lq,hLq⟩:=az ((P.takes q).ls.length);rw [hLq] at hc g1;have hpos:(0:Int)<(Lq:Int):=by simp at g1;omega
       clear g1 hLq;go_wp2_with fail;refine hc.out.mono ?_;rintro e V ⟨v,o2,rfl,hs,⟨ya,yc,rfl⟩,hp⟩;have hc2:=AnO hMR hp (by omega) (by omega) (by omega) 0;rw [e0H.out] at hc2
       replace hc2:=ae hc2
       have hst2:=ae (Abe.out.trans hs);clear hs hp hc Abe;go_wp2_with fail;refine hc2.out.mono ?_;rintro e V3 ⟨v,o3,rfl,hs,rfl,hp⟩;have hN:I (q+1) V3:=by
        rw [hIH.out];exact ⟨o3,hst2.out.trans hs,(PAt.lower (p:=P.takes (q+1)) (hp.mono (K':=322+40*k+3*(q+1)) (by omega) (Nat.le_refl _)) (hEH.out.2.2 (q+1) (by omega)).1)⟩
       have hNH:=ae hN;obtain ⟨er3,her⟩:=az (((P.takes q).take 0).2);rw [her];clear hs hp hc2 hst2 hN her;go_wp2_with fail;go_roundw
       case rel =>
        obtain ⟨q2,g1,g2,g3⟩:=Apr (m:=m) ⟨q+1,by omega,hNH.out⟩;exact ⟨q2,g1,ae g2,ae g3⟩
       case measure =>
        have g1:=Ara (m:=m) (by omega) hNH.out;have g2:=hmu.out;omega
      ·obtain rfl:q=m:=by omega
       rw [hEH.out.2.1] at hc;clear hqm hq hmu;go_wp2_with fail;refine hc.out.mono ?_;rintro e V ⟨v,o2,rfl,hs,⟨ya,yc,rfl⟩,hp⟩;rw [Aug.out] at hp;have hF:Hid (aj (EN M) w o V o2/\PAt V o2 (M+1) pg pn 19000 (310+40*(k+1)) 40 (knE (k+1))):=ae ⟨Abe.out.trans hs,hp.mono (by omega) (Nat.le_refl _)⟩;clear hs hp hc Abe;go_wp2_with fail;go_roundw
       case rel=>exact ⟨k+1,o2,by omega,by go_num,hF⟩
       case measure=>simp [intOf];omega
    ·obtain rfl:k=8:=by omega
     obtain ⟨hst,hp⟩:=hr.out;obtain ⟨x1,x2,x3,x4,x5,x6⟩:=ArR;obtain ⟨y,hy,hl⟩:=Agp x1;have hc:=Agv hp hy hl;rw [e1H.out] at hc;have WV:=ae hc;obtain ⟨V,oV,hcv0,hb,sV⟩:=Anq wr ok [98] 1 rfl (by omega);have hcv:(convert 29 29 (.slice (some ⟨wr.heap.size,0,none⟩) 1 1)).run prog (wr.alloc (.cells #[.int .u8 98] 5)) = .ok (.slice (some ⟨wr.heap.size,0,none⟩) 1 1) V:=hcv0;have hc2:=Ajl hMR (hp.step0 sV) (by omega) hb (by simp) (by simp) 1 (by rw [x3];omega);rw [e1H.out,x2] at hc2;have Apt:=ae hc2;have Abe:=ae (hst.trans (sV.mono (T':=EN M) fun _ h=>h.elim));clear hr hst hp hlt hk x1 hy hl hc hcv0 hb sV hc2;rw [show ((8:Nat):Int)=8 from rfl];go_wp2_with fail;refine WV.out.mono ?_;rintro e Wx ⟨rfl,rfl⟩;go_wp2_with fail;refine Apt.out.mono ?_;rintro e W4 ⟨v,o4,rfl,hs,rfl,hp⟩
     replace hp:=PAt.lower (B':=40) (p:=knF) hp x5
     have hc:=AkZ hMR hp (by omega) 0 (by rw [x4];omega) 0;rw [e0H.out] at hc
     replace WV:=ae hc
     replace Abe:=ae (Abe.out.trans hs)
     clear hcv hs hp hc Apt;go_wp2_with fail;refine WV.out.mono ?_;rintro e W5 ⟨v,o5,rfl,hs,rfl,hp⟩;obtain ⟨y8,hy8,hl8⟩:=Agp x6;have hc:=Aiq hMR hp (by omega) hy8;rw [e0H.out] at hc
     replace WV:=ae hc
     replace Abe:=ae (Abe.out.trans hs)
     have ArW:=ae hl8;have hf2:=He;clear hs hp hc x2 x3 x4 x5 x6 hy8 hl8;go_wp2_with fail;refine WV.out.mono ?_;rintro e W6 ⟨v,o6,rfl,hs,⟨lv,base,rfl,hln⟩,hp⟩;obtain ⟨la,lc,rfl⟩:=hln.Awo ArW.out;have hp0:PAt W6 o6 (M+1) pg pn 19000 (640+50*0) 40 (knH 0):=hp.mono (by omega) (Nat.le_refl _);obtain ⟨h1,h2⟩:=Arl 0 (by omega);have hc:=kT hMR hp0 (n:=3) (m:=4) (by omega) (by omega) (by omega) (by omega) (by omega) h1 h2;rw [e3H.out] at hc
     replace WV:=ae hc
     replace Abe:=ae (Abe.out.trans hs)
     clear hs hp hp0 hc hln h1 h2;unfold Dy;go_wp2_with fail;clear hf2;refine WV.out.mono ?_;rintro e W7 ⟨v,o7,rfl,hs,rfl,hp⟩;have hp0:PAt W7 o7 (M+1) pg pn 19000 (640+50*1) 40 (knH 1):=hp.mono (by omega) (Nat.le_refl _);obtain ⟨h1,h2⟩:=Arl 1 (by omega);have hc:=kT hMR hp0 (n:=3) (m:=4) (by omega) (by omega) (by omega) (by omega) (by omega) h1 h2;rw [e3H.out] at hc
     replace WV:=ae hc
     replace Abe:=ae (Abe.out.trans hs)
     clear hs hp hp0 hc h1 h2;go_wp2_with fail;refine WV.out.mono ?_;rintro e W8 ⟨v,o8,rfl,hs,rfl,hp⟩;have hp0:PAt W8 o8 (M+1) pg pn 19000 (640+50*2) 40 (knH 2):=hp.mono (by omega) (Nat.le_refl _);obtain ⟨h1,h2⟩:=Arl 2 (by omega);have hc:=kT hMR hp0 (n:=3) (m:=4) (by omega) (by omega) (by omega) (by omega) (by omega) h1 h2;rw [e3H.out] at hc
     replace WV:=ae hc
     replace Abe:=ae (Abe.out.trans hs)
     clear hs hp hp0 hc h1 h2;go_wp2_with fail;refine WV.out.mono ?_;rintro e W9 ⟨v,o9,rfl,hs,rfl,hp⟩;have hF:Hid (aj (EN M) w o W9 o9/\PAt W9 o9 (M+1) pg pn 19000 800 40 (knH 3)):=ae ⟨Abe.out.trans hs,hp.mono (by omega) (Nat.le_refl _)⟩;clear hs hp WV Abe;go_wp2_with fail
     go_loopw [13] (fun i wr=>∃ (k:Nat) (oj:Own),k<=3/\i = .int .i64 k/\Hid (aj (EN M) w o wr oj/\PAt wr oj (M+1) pg pn 19000 800 40 (knH 3))) (fun i _=>3 - (intOf i).toNat)
     case atStart=>exact ⟨0,o9,Nat.zero_le _,rfl,hF⟩
     case round =>
      clear hF;obtain ⟨k,ok,hk,rfl,hr⟩:=hrel;obtain ⟨hst,hp⟩:=hr.out
      by_cases hlt:k<3
      ·obtain ⟨y,hy,hl⟩:=Agp (ArQ k hlt);have hl2:=Aop hl;have hc:=AcQ hMR hp (by omega) hy;rw [hl2] at hc;have WV:=ae hc;have Abe:=ae hst;have AbY:(0:Int)<=(k:Int)/\(k:Int)<3:=by omega
       clear hst hp hr hy hl hl2 hc;go_wp2_with fail;refine WV.out.mono ?_;rintro e V ⟨v,o2,rfl,hs,⟨base,hln⟩,hp⟩;obtain ⟨za,zc,rfl⟩:=hln.Awo (n:=2) rfl;obtain ⟨b,off,bv,rfl,r0,y0, -⟩:=hln.at (i:=0) rfl;obtain ⟨b2,off2,bv2,heq,r1,y1, -⟩:=hln.at (i:=1) rfl;simp only [Option.some.injEq,Addr.mk.injEq,and_true] at heq;obtain ⟨rfl,rfl⟩:=heq;have hcv1:=CY y0;have hcv2:=CY y1;obtain ⟨ba,bc,rfl⟩:=Aq y0;obtain ⟨bb,bd,rfl⟩:=Aq y1;have Asd:(convert 29 9 (.slice ba 1 bc)).run prog V = .ok (.string ⟨#[97]⟩) V:=hcv1;have Asb:(convert 29 9 (.slice bb 1 bd)).run prog V = .ok (.string ⟨#[98]⟩) V:=hcv2;have d0:V.cell? ⟨b,off,none⟩=some (.int .u64 3):=by have:=r0 0 _ rfl;simpa using this
       have d1:V.cell? ⟨b,off+1,none⟩=some (.slice ba 1 bc):=by have:=r0 1 _ rfl;simpa using this
       have d2:V.cell? ⟨b,off+2,none⟩=some (.int .u64 4):=by have:=r1 0 _ rfl;simpa using this
       have d3:V.cell? ⟨b,off+2+1,none⟩=some (.slice bb 1 bd):=by have:=r1 1 _ rfl;simpa using this
       have hF:=ae (aI (Abe.out.trans hs) hp);clear hs hp WV Abe hln r0 r1 y0 y1 hcv1 hcv2;go_wp2_with fail;go_roundw
       case rel=>exact ⟨k+1,o2,by omega,by go_num,hF⟩
       case measure=>simp [intOf];omega
      ·obtain rfl:k=3:=by omega
       have hc:=ae (AeB wr ok);have Abe:=ae hst;clear hst hp hr hlt hk;rw [show ((3:Nat):Int)=3 from rfl];go_wp2_with fail;refine hc.out.mono ?_;rintro e X ⟨v,px,rfl,hs,rfl⟩;have hF:=ae (Abe.out.trans (hs.mono (T':=EN M) fun _ h=>h.elim));clear hs hc Abe;go_wp2_with fail;go_ret;exact ⟨_,px,rfl,hF.out.Hm hMH.out,rfl⟩

end Go.Proofs.YtffkdillijmamaaGreat
