/- Contract of the document's more (ref12). -/
import Derived.Test.YthmpmgknnibljaaGreatSv14
namespace Go.Proofs.YthmpmgknnibljaaGreat
open Go.Proofs.Tryz
set_option maxRecDepth 100000
set_option maxHeartbeats 12800000
open Go Go.RowKit
attribute [local go_sem ↓] Go.wp_at_zero Go.wp_at_succ
variable {W w w':World} {O o:Own} {bv lv v:Value} {B p:Nat} {y:Aj} {l:List UInt8}
theorem AiP {ls:List Ar} (h:Lines w o 0 lv ls) (n:Nat) (hn:n<=ls.length) :
  ∃ v,(∀ W:World,(Instr.sliceAt 32 lv (some (n:aV)) none none).run prog W = .ok v W)/\Lines w o 0 v (ls.drop n):=by
 have hu:prog.underlying 32=some (.slice (prog.elem 32)):=bf
 obtain ⟨v0,h1,h2⟩:=AfO h n hn;obtain ⟨a,c,rfl⟩:=h.form;have run:∀ W:World,(Instr.sliceAt 32 (.slice a ls.length c) (some (n:aV)) none none).run prog W = .ok (sliced a n ls.length c 2) W:=fun W=>by
  rw [run_sliceAt_slice _ _ _ _ _ _ hu,run_slice_l W 32 a ls.length c hu .i64 n aP aP,Po W];simp only [Result.andThen_ok,Int.toNat_natCast]
 have e:=(run w).symm.trans h1;injection e with e1 e2;exact ⟨_,run,by rw [e1];exact h2⟩
theorem Ail {a b:BitVec 64} (h:a=b):((a.toNat:Int) == (b.toNat:Int))=true/\((a.toNat:Int) != (b.toNat:Int))=false:=by subst h;simp
theorem AjP {a b:BitVec 64} (h:a ≠ b):((a.toNat:Int) == (b.toNat:Int))=false/\((a.toNat:Int) != (b.toNat:Int))=true:=by
 have h1:((a.toNat:Int) == (b.toNat:Int))=false:=by
  have:¬ a.toNat=b.toNat:=fun e=>h (BitVec.eq_of_toNat_eq e);simp;omega
 exact ⟨h1,by rw [bne,h1];rfl⟩
def AjR (lv:Value) (n:Nat) (v:Value) (W:World):Prop:=(Instr.sliceAt 32 lv (some (n:aV)) none none).run prog W = .ok v W
def Aj.AhJ (y:Aj) (src:Nat) (m:BG):Aj × DX:=
 if y.k.promised ≠ m.e \/ y.k.current ≠ m.e then (y,[]) else
 let z1:=y.follow
 if y.k.lines.length<m.at' then (z1,[]) else
 let more:=m.ls.drop (y.k.lines.length - m.at')
 if more=[] then
  let z2:Aj:={ z1 with Ag:=max y.Ag (min m.com y.k.lines.length) }
  (z2,z2.ack src m.e)
 else if (y.k.Cm more).2=0 then
  let z2:Aj:={ z1 with k:=(y.k.Cm more).1,Ag:=max y.Ag (min m.com (y.k.Cm more).1.lines.length) }
  (z2,z2.ack src m.e)
 else (z1,[])
theorem AhH {Y:Nat} (h:AaB w o Y p y) (hY:Y ≠ 0) (hn:NOk B y) (src:Nat) (m:BG) (hl:Lines w o 0 lv m.ls) (hm:m.ls.length<=256) (ha:m.at'<=256) (hc:m.com<=256) :
  Calls prog 68 #[.pointer p, (src:aV),Ea m lv] w (XL (ak Y) w o fun v w' o'=>AaA w' o' v (y.AhJ src m).2/\AaB w' o' Y p (y.AhJ src m).1):=by
 obtain ⟨b,W1,o1,hbx,hs1,hb1,hbo⟩:=AsV m w o (hl.Acw);have hr1:=h.step hs1 id id;have hl1:=hl.step hs1 id;have xH:=ae hbx;have hln:=hn.ls.n;have hco:=hn.co;obtain ⟨I,N,yk,BB,wt,sn,Co⟩:=y;simp only at hln hco;obtain ⟨R,hR⟩:=az (Aj.AhJ ⟨I,N,yk,BB,wt,sn,Co⟩ src m);rw [hR];unfold Aj.AhJ at hR;simp only at hR;obtain ⟨la,lc,rfl⟩:=hl1.form;have tN:=ae hr1;obtain ⟨lk,ro,mine,hv,pv,mv,base,ready,hp,hpo,hk,h4⟩:=hr1;simp only at hp hk h4;obtain ⟨ka,kc,rfl⟩:=hk.form;have hdr:aj ai W1 o1 W1.drew o1:=(aj.refl ai W1 o1).drew;have hpd:W1.drew.heap[p]?=_:=hp;have hbd:W1.drew.heap[b]?=_:=hb1;have c2:=ag hpd 2;have c3:=ag hpd 3;have e1:=ag hbd 1;simp only [Aai,Bf,ax,ay] at c2 c3 e1;have hS:=aI c2 (aI c3 e1);have hG:=aa7 hs1 hp hpo hk hb1 hbo hl1;have coI:(0:Int)<=(Co:Int)/\(Co:Int)<=256:=aP
 have hRH:=ae hR;clear h hl hbx hs1 hb1 hbo hl1 hp hpo hk h4 hpd hbd c2 c3 e1 hR hn hco
 by_cases hpr:yk.promised=m.e
 ·by_cases hcu:yk.current=m.e
  ·obtain ⟨hcI,hcN⟩:=Ail hcu;obtain ⟨hcP,hcQ⟩:=Ail hpr;have hR:=hRH.out;rw [if_neg (fun h=>h.elim (fun h=>h hpr) (fun h=>h hcu))] at hR;have Ajo:=ae hR;obtain ⟨V,hV⟩:=az (W1.drew);rw [hV] at hdr;obtain ⟨hs1,hp,hpo,hk,hb1,hbo,hl1⟩:=hG.out;have hbV:=(hdr.block b (au hb1) id).trans hb1;have hQ:=aa4 (hs1.trans hdr) hbV ((congrArg Prod.fst (hdr.own b (au hb1))).trans hbo) (hl1.step hdr id);have hfo:=ae (Abi (tN.out.step hdr id id) hY);have hVH:=ae hV;clear hs1 hp hpo hk hb1 hbo hl1 hcu hpr hV hdr hbV hR hRH tN hG;unfold Ea;go_enter func68,ntmps68
   go_wp2_with ((with_reducible apply BM);exact xH.out;simp only [Act.put,lsa,lsz,lss])
   refine Aa (fun w'=>w'.cell? (aW p 2)=some (yk.promised:aV)/\w'.cell? (aW p 3)=some (yk.current:aV)/\w'.cell? (aW b 1)=some (m.e:aV)) (fun _=>true) bf hS (fun hHeld => ?_);refine tq 0 (h:=tq 1 (h:=tq 2 (h:=tq 3 (h:=tq 4 (h:=tq 5 (h:=tq 6 (h:=tq 7 (h:=tq 8 (h:=tq 9 (h:=tq 10 (h:=tq 11 (h:=tq 12 (h:=tq 13 (h:=?_))))))))))))));refine tq 14 (h:=tq 15 (h:=tq 16 (h:=tq 17 (h:=tD (h:=?_)))));clear hHeld hS hcI hcN hcP hcQ;rw [hVH.out];go_wp2_with fail;refine hfo.out.mono ?_;rintro e W2 ⟨v2,o2,rfl,hs2,rfl,hr2⟩;obtain ⟨hs,hbV,hbo,hlV⟩:=hQ.out;have hb2:=(hs2.block b (au hbV) (by rw [hbo];exact fun h=>hY h.symm)).trans hbV;have ob2:=(congrArg Prod.fst (hs2.own b (au hbV))).trans hbo;have hl2:=hlV.step hs2 (fun h=>hY h.symm);have hst2:=(hs.only Y).trans hs2;have Ahe:=ae hr2;obtain ⟨lk2,ro2,mi2,hv2,pv2,mv2,ba2,re2,hp2,AlF,hk2,yS⟩:=hr2;obtain rfl:ro2=0:=yS;simp only [Aj.follow] at hp2 hk2;obtain ⟨ta,tc,rfl⟩:=hk2.form;obtain ⟨KL,hKL⟩:=az (yk.lines.length);obtain ⟨ML,hML⟩:=az (m.ls.length);obtain ⟨At,hAt⟩:=az (m.at');rw [hKL] at hp2 hk2 hln;rw [hML] at hb2 hl2 hm;rw [hAt] at ha;have hR:=Ajo.out;rw [hKL,hAt] at hR;have hb2:W2.heap[b]?=some (.cells [.int .u8 (m.k:Int), (m.e:aV), (m.c:aV), (At:aV), (m.com:aV), .slice la ML lc].toArray 46 (0,0)):=by rw [<-hAt];exact hb2
   have hSf:=ae (fun (V1:World) (p1:Own) (hJ:aj ai W2 o2 V1 p1)=>aI ((hJ.block p (au hp2) id).trans hp2) ((hJ.block b (au hb2) id).trans hb2));have d1:aj ai W2 o2 W2.drew o2:=(aj.refl ai W2 o2).drew;have q4:=ag (hSf.out _ _ d1).1 4;have q3:=ag (hSf.out _ _ d1).2 3;have r4:=ag (hSf.out _ _ d1.drew).1 4;have r3:=ag (hSf.out _ _ d1.drew).2 3;have r5:=ag (hSf.out _ _ d1.drew).2 5;simp only [Aai,ax,ay] at q4 q3 r4 r3 r5;have hS4:=aI q3 q4;have hS6:=aI r3 (aI r5 r4);have aIx:(0:Int)<=(At:Int)/\(At:Int)<=256:=aP
   have kI:(0:Int)<=(KL:Int)/\(KL:Int)<=256:=aP
   have mI:(0:Int)<=(ML:Int)/\(ML:Int)<=256:=aP
   have cI:(0:Int)<=(m.com:Int)/\(m.com:Int)<=256:=aP
   have hU:=aa5 hst2 AlF hk2 hl2 ob2;clear hs2 hs hbV hbo hlV hst2 hp2 AlF hk2 hb2 hl2 ob2 q4 q3 r4 r3 r5 hQ hfo
   by_cases g1:KL<At
   ·have g1I:(KL:Int)<(At:Int):=aP
    rw [if_pos g1] at hR;have hF:=aa3 (hU.out.1.trans (d1.only Y)) (Ahe.out.step d1 id id) hR;clear hR g1 d1;go_wp2_with fail;refine Aa (fun w'=>w'.cell? (aW b 3)=some (At:aV)/\w'.cell? (aW p 4)=some (.slice ta KL tc)) (fun _=>true) bf hS4 (fun hHeld => ?_);refine tq 0 (h:=tq 1 (h:=tq 2 (h:=tq 3 (h:=tq 4 (h:=tq 5 (h:=tq 6 (h:=tq 7 (h:=tq 8 (h:=tD (h:=?_))))))))));clear hHeld hS4;go_wp2_with fail;go_ret;exact ⟨_,o2,rfl,hF.out.1,by rw [<-hF.out.2.2];exact AaA.nil _ _,by rw [<-hF.out.2.2];exact hF.out.2.1⟩
   have g1I:¬ (KL:Int)<(At:Int):=aP
   rw [if_neg g1] at hR;have g1N:decide (KL<At)=false:=decide_eq_false g1;have hwA:IntKind.i64.wrap ((At:Int)+(ML:Int))=(At:Int)+(ML:Int):=IntWalk.i64_in _ aP
   by_cases g2:KL<At+ML
   ·have g2I:(KL:Int)<(At:Int)+(ML:Int):=aP
    have g2N:decide ((KL:Int)<(At:Int)+(ML:Int))=true:=decide_eq_true g2I;have hne:m.ls.drop (KL - At) ≠ []:=by
     intro h;have:=congrArg List.length h;rw [List.length_drop,hML] at this;simp at this;omega
    rw [if_neg hne] at hR;obtain ⟨D,hD⟩:=az (KL - At);rw [hD] at hR;have hwD:IntKind.i64.wrap ((KL:Int) - (At:Int))=(D:Int):=by
     rw [show (KL:Int) - (At:Int)=(D:Int) by omega];exact IntWalk.i64_in _ aP
    obtain ⟨qk,hqk⟩:=az (yk.Cm (m.ls.drop D));rw [hqk] at hR;obtain ⟨WU,hU0⟩:=az (W2.drew.drew);have d2:=d1.drew;rw [hU0] at d2;obtain ⟨hst2,AlF,hk2,hl2,ob2⟩:=hU.out;have hkU:=hk2.step d2 id;have hlU:=hl2.step d2 id;obtain ⟨hpU,hbU⟩:=hSf.out WU o2 d2;obtain ⟨sv,hsl,hsv⟩:=AiP hlU D (by rw [hML];omega);obtain ⟨va,vc,rfl⟩:=hsv.form;obtain ⟨DL,hDL⟩:=az ((m.ls.drop D).length);have hdl:DL<=256:=by rw [<-hDL,List.length_drop];omega
    rw [hDL] at hsl hsv;obtain ⟨X,hXY,hXf⟩:=KT o2 WU.heap.size Y;have hX0:X ≠ 0:=aP
    have AbJ:=ae (fun (V1:World) (p1:Own) (hJ:aj ai WU o2 V1 p1)=>Afq (p:=yk.promised) (c:=yk.current) (hkU.step hJ id) (hsv.step hJ id) (by rw [hKL];exact hln) (show (m.ls.drop D).length<=1000 by rw [hDL];omega));rw [show (⟨yk.promised,yk.current,yk.lines⟩:AX)=yk from rfl,hqk] at AbJ;have Afa:=ae (fun (V1:World) (p1:Own) (hJ:aj ai WU o2 V1 p1)=>show V1.heap[p]?=some (.cells (Aai I N yk (.slice ta KL tc) 0 mi2 0 sn Co hv2 pv2 mv2 ba2 re2).toArray 124 (0,0))/\V1.cell? (aW b 5)=some (.slice la ML lc)/\V1.cell? (aW p 4)=some (.slice ta KL tc)/\V1.cell? (aW b 3)=some (At:aV)/\AjR (.slice la ML lc) D (.slice va DL vc) V1 from
     have x1:=(hJ.block p (au hpU) id).trans hpU;have x2:=(hJ.block b (au hbU) id).trans hbU
     ⟨x1,ag x2 5,ag x1 4,ag x2 3,hsl V1⟩)
    have hS7:=Afa.out WU.drew o2 (aj.refl ai WU o2).drew;have Bak:=ae hU0;have hZ:=aa6 (hst2.trans (d2.only Y)) hpU AlF hbU ob2 (show AaB WU o2 Y p ⟨I,N,yk, .follows,0,sn,Co⟩ from Ahe.out.step d2 id id);have hRq:=aa3 hR hqk hXY;clear hR hne g1 g2 hD hqk hU0 d2 hst2 AlF hk2 hl2 ob2 hkU hlU hpU hbU hsl hsv hDL hXY hXf d1;go_wp2_with fail;refine Aa (fun w'=>w'.cell? (aW b 3)=some (At:aV)/\w'.cell? (aW p 4)=some (.slice ta KL tc)) (fun _=>true) bf hS4 (fun hHeld => ?_);refine tq 0 (h:=tq 1 (h:=tq 2 (h:=tq 3 (h:=tq 4 (h:=tq 5 (h:=tq 6 (h:=tq 7 (h:=tq 8 (h:=tD (h:=?_))))))))));clear hHeld hS4;go_wp2_with fail;refine Aa (fun w'=>w'.cell? (aW b 3)=some (At:aV)/\w'.cell? (aW b 5)=some (.slice la ML lc)/\w'.cell? (aW p 4)=some (.slice ta KL tc)) (fun _=>true) bf hS6 (fun hHeld => ?_);refine tq 0 (h:=tq 1 (h:=tq 2 (h:=tq 3 (h:=tq 4 (h:=tq 5 (h:=tq 6 (h:=tq 7 (h:=tq 8 (h:=tq 9 (h:=tq 10 (h:=tq 11 (h:=tq 12 (h:=tD (h:=?_))))))))))))));clear hHeld hS6;rw [Bak.out];go_wp2_with fail;refine Jd (fun a0 a' w'=>∃ (lb:Nat) (lv:Value) (oF:Own),a'=Act.puts a0 [52,53,54,55,56,57,58,59,60,61,62,63,64,65,66,67,68,51,69,70,7,8] [.pointer p, .pointer p, .pointer (some (aW p 2)),Dy yk.promised yk.current (.slice ta KL tc), .pointer (some (aW b 5)), .slice la ML lc, .pointer p, .pointer p, .pointer (some (aW p 2)), .pointer (some (aW p 4)), .slice ta KL tc, (KL:aV), .pointer (some (aW b 3)), (At:aV), (D:aV), .slice va DL vc, .tuple #[(Dy qk.1.promised qk.1.current lv),(.int .i64 qk.2)], .tuple #[(Dy qk.1.promised qk.1.current lv),(.int .i64 qk.2)],(Dy qk.1.promised qk.1.current lv),(.int .i64 qk.2), .pointer lb,(.int .i64 qk.2)]/\aj ai WU o2 w' oF/\w'.heap[lb]?=some (.cells (BR qk.1.promised qk.1.current lv).toArray 120 (0,0))/\(oF lb).1=X/\Lines w' oF 0 lv qk.1.lines) ?_ ?_
    ·refine Aa (fun w'=>w'.heap[p]?=some (.cells (Aai I N yk (.slice ta KL tc) 0 mi2 0 sn Co hv2 pv2 mv2 ba2 re2).toArray 124 (0,0))/\w'.cell? (aW b 5)=some (.slice la ML lc)/\w'.cell? (aW p 4)=some (.slice ta KL tc)/\w'.cell? (aW b 3)=some (At:aV)/\AjR (.slice la ML lc) D (.slice va DL vc) w') (fun _=>true) bf hS7 (fun hHeld => ?_);obtain ⟨U,hU⟩:=az (WU.drew);have hJ:aj ai WU o2 WU.drew o2:=(aj.refl ai WU o2).drew;rw [hU] at hHeld hJ ⊢;clear hU;refine tn 0 (h:=tn 1 (h:=tn 2 (h:=?_)));refine Dt (i:=3) (v:=Dy yk.promised yk.current (.slice ta KL tc)) rfl bf (fun _ _ _ h=>nomatch h.1) (yieldsIf_load_mid rfl 120 (.tmp 54) rfl p 2 rfl (BR yk.promised yk.current (.slice ta KL tc)) _ (fun w h=>Acm h.1) underlying120 rfl bf) (by assumption) ?_;simp only [Act.put,lsa,lsz,lss];refine tn 4 (h:=tn 5 (h:=tn 6 (h:=tn 7 (h:=tn 8 (h:=tn 9 (h:=tn 10 (h:=tn 11 (h:=tn 12 (h:=tn 13 (h:=tn 14 (h:=?_)))))))))));refine Dt (i:=15) (v := .slice va DL vc) rfl bf (fun _ _ _ h=>nomatch h.1) (Or.inl ⟨by rfl,fun w hSw => ?_⟩) (by assumption) ?_
     ·refine AdB _ _ _ _ _ rfl ?_;exact hSw.2.2.2.2
     simp only [Act.put,lsa,lsz,lss];refine Gm (i:=16) (j:=20) rfl rfl bf ?_ ?_
     ·go_wp2_with fail;refine (AbJ.out _ _ hJ).mono ?_;rintro e Uc ⟨vc,oc,rfl,hsc,lv,rfl,hlv⟩;have hJ:=hJ.trans hsc;go_wp2_with fail;refine ⟨fun _=>Afa.out _ _ hJ, ?_⟩;have hS0:=Afa.out _ _ hJ;refine tn 17 (h:=tn 18 (h:=tn 19 (h:=tO 20 (h:=?_))));obtain ⟨lb,Ua,oa,hal,hsa,hz,hzo,hge⟩:=Ach X Uc oc;have hge:=Nat.le_trans hJ.size hge;have hJ:=hJ.trans hsa;refine AU hal (wpList_nil ?_);simp only [Act.put,lsa,lsz,lss];refine ⟨fun _=>Afa.out _ _ hJ, ?_⟩;have hlv2:=(hlv.step hsa id);obtain ⟨Us,hso,hsF,hJ,hz⟩:=Acg hJ hge hz hzo hlv.Acw;refine tO 21 (h:=?_);refine AC hso (wpList_nil ?_);simp only [Act.put];refine ⟨fun _=>Afa.out _ _ hJ, ?_⟩;refine tO 22 (h:=?_);go_wp2_with fail;refine ⟨fun _=>Afa.out _ _ hJ, ?_⟩;refine tD (h:=?_);exact ⟨rfl,lb,lv,_,by simp only [Act.puts,Act.put,lsa,lsz,lss],hJ,hz,hzo,hlv2.step hsF (fun h=>hX0 h.symm)⟩
     ·obtain ⟨lb,Ua,oa,hal,hsa,hz,hzo,hge⟩:=Ach X U o2;have hge:=Nat.le_trans hJ.size hge;have hJ:=hJ.trans hsa;refine AU hal (wpList_nil ?_);simp only [Act.put,lsa,lsz,lss];refine ⟨fun _=>Afa.out _ _ hJ, ?_⟩;refine tO 16 (h:=?_);go_wp2_with fail;refine (AbJ.out _ _ hJ).mono ?_;rintro e Uc ⟨vc,oc,rfl,hsc,lv,rfl,hlv⟩;have hJ:=hJ.trans hsc;go_wp2_with fail;refine ⟨fun _=>Afa.out _ _ hJ, ?_⟩;have hS0:=Afa.out _ _ hJ;have hz0:=hz;have hz:=(hsc.block lb (au hz) id).trans hz;have hzo:=(congrArg Prod.fst (hsc.own lb (au hz0))).trans hzo;have hlv2:=hlv;refine tn 17 (h:=tn 18 (h:=tn 19 (h:=?_)));obtain ⟨Us,hso,hsF,hJ,hz⟩:=Acg hJ hge hz hzo hlv.Acw;refine tO 21 (h:=?_);refine AC hso (wpList_nil ?_);simp only [Act.put];refine ⟨fun _=>Afa.out _ _ hJ, ?_⟩;refine tO 22 (h:=?_);go_wp2_with fail;refine ⟨fun _=>Afa.out _ _ hJ, ?_⟩;refine tD (h:=?_);exact ⟨rfl,lb,lv,_,by simp only [Act.puts,Act.put,lsa,lsz,lss],hJ,hz,hzo,hlv2.step hsF (fun h=>hX0 h.symm)⟩
    rintro a3 W3 ⟨lb,lq,o3,rfl,hJ,hz,hzo,hlq⟩;simp only [Act.puts,Act.put,lsa,lsz,lss];obtain ⟨hsV,hpV,hpo,hbV,hbo,hrV⟩:=hZ.out;obtain ⟨hR,hqk,hXY⟩:=hRq.out;have hdd:=hsV.trans (hJ.only Y)
    by_cases hf:qk.2=0
    ·have hq1:=Ih (show (yk.Cm (m.ls.drop D)).2=0 by rw [hqk];exact hf);have hle:=Si (show (yk.Cm (m.ls.drop D)).2=0 by rw [hqk];exact hf);rw [hqk] at hq1;obtain ⟨K2,e0⟩:=qk;simp only at hq1 hf hz hlq hR ⊢;subst hf;rw [if_pos rfl] at hR;obtain ⟨qa,qc,rfl⟩:=hlq.form;have Ame:K2.lines.length<=256:=by rw [hq1];show (yk.lines++m.ls.drop D).length<=256;rw [List.length_append];omega
     have hp3:=(hJ.block p (au hpV) id).trans hpV;have hb3:=(hJ.block b (au hbV) id).trans hbV;have op3:=(hJ.own p (au hpV)).trans hpo;have ob3:=(congrArg Prod.fst (hJ.own b (au hbV))).trans hbo;have Amb:=ae (AaS (AV hz));obtain ⟨s4,hp4⟩:=Aeb hp3 2 (by simp [Aai]) (p:=K2.promised) (c:=K2.current) (lv := .slice qa K2.lines.length qc) ⟨_,_,_,rfl⟩;have k4:=(aj.refl (ak Y) W3 o3).setCells p 2 (BR K2.promised K2.current (.slice qa K2.lines.length qc)) (.inl (congrArg Prod.fst op3));obtain ⟨WT,hW4⟩:=az (W3.setCells p 2 (BR K2.promised K2.current (.slice qa K2.lines.length qc)));rw [hW4] at s4 hp4 k4;obtain ⟨oT,hoT⟩:=az (o3);have hrr:AaB WT o3 Y p ⟨I,N,K2, .follows,0,sn,Co⟩:=⟨_,0,mi2,hv2,pv2,mv2,ba2,re2,hp4,op3,hlq.step k4 (fun h=>hY h.symm),rfl⟩;have hbb:=(k4.block b (au hb3) (by rw [ob3];exact fun h=>hY h.symm)).trans hb3;have hst2:=hdd.trans k4;rw [hoT] at hst2 hrr ob3;have hT:=aa6 hst2 hrr hbb ob3 Ame hR;have ApV:=ae s4;clear hsV hpV hpo hbV hbo hrV hR hqk hXY hdd hq1 hle hlq Ame hp3 hb3 op3 ob3 s4 hp4 k4 hW4 hoT hrr hbb hst2 hJ hz hzo AbJ Afa hKL hML hAt hm ha hc hln hdl;obtain ⟨hst,hr,hb,hbo,hlen,hRe⟩:=hT.out;obtain ⟨lk5,ro5,mi5,hv5,pv5,mv5,ba5,re5,hp,hpo,hk,Aqg⟩:=hr;obtain rfl:ro5=0:=Aqg;simp only at hp hk;obtain ⟨sa,sc,rfl⟩:=hk.form;obtain ⟨TL,hTL⟩:=az (K2.lines.length);rw [hTL] at hp hk hlen hRe;obtain ⟨Mn,hMn⟩:=az (min m.com TL);obtain ⟨Mx,hMx⟩:=az (max Co Mn);rw [hMn,hMx] at hRe;have tI:(0:Int)<=(TL:Int)/\(TL:Int)<=256:=aP
     have mn1:min (m.com:Int) (TL:Int)=(Mn:Int):=aP
     have mx1:max (Co:Int) (Mn:Int)=(Mx:Int):=aP
     have hpd:WT.drew.heap[p]?=_:=hp;have hbd:WT.drew.heap[b]?=_:=hb;have x9:=ag hpd 9;have x4:=ag hpd 4;have x5:=ag hbd 4;simp only [Aai,ax,ay] at x9 x4 x5;have f9:=Ap hpd 9;have j1:aj (ak Y) WT oT WT.drew oT:=(aj.refl (ak Y) WT oT).drew;have k5:=j1.setCell (a:=(aW p 9)) (Mx:aV) (.inl (congrArg Prod.fst hpo));have hp5:=Ai (i:=9) (Mx:aV) hpd;obtain ⟨W5,hW5⟩:=az (WT.drew.setCell (aW p 9) (Mx:aV));rw [hW5] at k5 hp5;have hr5:AaB W5 oT Y p ⟨I,N,K2, .follows,0,sn,Mx⟩:=⟨_,0,mi5,hv5,pv5,mv5,ba5,re5,hp5,hpo,hk.step k5 (fun h=>hY h.symm),rfl⟩;have hb5:=(k5.block b (au hb) (by rw [hbo];exact fun h=>hY h.symm)).trans hb;have x1:=ag hb5 1;simp only [ax,ay] at x1;have hak:=ae (AeI hr5 (show K2.lines.length<=256 by rw [hTL];exact hlen) src m.e);have hU5:=aa3 (hst.trans k5) hr5 hRe;have Ahn:=ae (show (WT.setCell (aW p 9) (Mx:aV)).drew=W5 from hW5);have AcA:=aI x9 (aI x5 x4);clear hst hr5 hb hbo hlen hRe hp hpo hk hTL hMn hMx hpd hbd x9 x4 x5 j1 k5 hp5 hW5 hb5 hT
     go_wp2_with (first
      | ((with_reducible apply Bo);exact Amb.out;simp only [Act.put,lsa,lsz,lss])
      | ((with_reducible apply AC);exact ApV.out;simp only [Act.put]))
     refine Aa (fun w'=>w'.cell? (aW p 9)=some (Co:aV)/\w'.cell? (aW b 4)=some (m.com:aV)/\w'.cell? (aW p 4)=some (.slice sa TL sc)) (fun i=>decide (i<17)) bf AcA (fun hHeld => ?_);refine tq 0 (h:=tq 1 (h:=tq 2 (h:=tq 3 (h:=tq 4 (h:=tq 5 (h:=tq 6 (h:=tq 7 (h:=tq 8 (h:=tq 9 (h:=tq 10 (h:=tq 11 (h:=tq 12 (h:=tq 13 (h:=?_))))))))))))));refine tq 14 (h:=tO 15 (h:=?_));go_wp2_with fail;refine ⟨fun _=>hHeld, ?_⟩;refine tq 16 (h:=tO 17 (h:=?_));go_wp2_with fail;refine ⟨fun h=>by simp at h, ?_⟩;refine tD (h:=?_);clear hHeld AcA;rw [Ahn.out];go_wp2_with fail;refine hak.out.mono ?_;rintro e w7 ⟨v7,o7,rfl,hs7,ht7⟩;have hV:=aa3 (hU5.out.1.trans (hs7.only Y)) ht7 (hU5.out.2.1.step hs7 id id);clear hs7 ht7;go_wp2_with fail;go_ret;exact ⟨_,o7,rfl,hV.out.1,by rw [<-hU5.out.2.2];exact hV.out.2.1,by rw [<-hU5.out.2.2];exact hV.out.2.2⟩
    ·have AlM:((qk.2:Int) == 0)=false:=by simp [hf]
     rw [if_neg hf] at hR;have hF:=aa3 hdd (hrV.step hJ id id) hR;clear hsV hpV hpo hbV hbo hrV hR hqk hXY hdd hf hlq hJ hz hzo AbJ Afa;go_wp2_with fail;go_ret;exact ⟨_,o3,rfl,hF.out.1,by rw [<-hF.out.2.2];exact AaA.nil _ _,by rw [<-hF.out.2.2];exact hF.out.2.1⟩
   ·have g2I:¬ (KL:Int)<(At:Int)+(ML:Int):=aP
    have hmn:m.ls.drop (KL - At)=[]:=List.drop_eq_nil_of_le (by rw [hML];omega);rw [if_pos hmn] at hR;obtain ⟨WT,hWT⟩:=az (W2.drew.drew);obtain ⟨oT,hoT⟩:=az (o2);obtain ⟨K2,hK2⟩:=az (yk);have d2:=d1.drew;rw [hWT] at d2;have hst2:=hU.out.1.trans (d2.only Y);have hrr:AaB WT o2 Y p ⟨I,N,yk, .follows,0,sn,Co⟩:=Ahe.out.step d2 id id;have hbb:=(hSf.out _ _ d2).2;have hoo:=hU.out.2.2.2.2;have zX:yk.lines.length<=256:=by rw [hKL];exact hln
    rw [<-hKL] at hR;rw [hoT] at hst2 hrr hoo;rw [hK2] at hrr zX hR;have hT:=aa6 hst2 hrr hbb hoo zX hR;have Bag:=ae hWT;have Amb:=ae True.intro;have ApV:=ae True.intro;clear hR hmn g1 g2 hWT hoT hK2 d1 d2 hst2 hrr hbb hoo zX hKL hML hAt hm ha hc hln;go_wp2_with fail;refine Aa (fun w'=>w'.cell? (aW b 3)=some (At:aV)/\w'.cell? (aW p 4)=some (.slice ta KL tc)) (fun _=>true) bf hS4 (fun hHeld => ?_);refine tq 0 (h:=tq 1 (h:=tq 2 (h:=tq 3 (h:=tq 4 (h:=tq 5 (h:=tq 6 (h:=tq 7 (h:=tq 8 (h:=tD (h:=?_))))))))));clear hHeld hS4;go_wp2_with fail;refine Aa (fun w'=>w'.cell? (aW b 3)=some (At:aV)/\w'.cell? (aW b 5)=some (.slice la ML lc)/\w'.cell? (aW p 4)=some (.slice ta KL tc)) (fun _=>true) bf hS6 (fun hHeld => ?_);refine tq 0 (h:=tq 1 (h:=tq 2 (h:=tq 3 (h:=tq 4 (h:=tq 5 (h:=tq 6 (h:=tq 7 (h:=tq 8 (h:=tq 9 (h:=tq 10 (h:=tq 11 (h:=tq 12 (h:=tD (h:=?_))))))))))))));clear hHeld hS6;rw [Bag.out];obtain ⟨hst,hr,hb,hbo,hlen,hRe⟩:=hT.out;obtain ⟨lk5,ro5,mi5,hv5,pv5,mv5,ba5,re5,hp,hpo,hk,Aqg⟩:=hr;obtain rfl:ro5=0:=Aqg;simp only at hp hk;obtain ⟨sa,sc,rfl⟩:=hk.form;obtain ⟨TL,hTL⟩:=az (K2.lines.length);rw [hTL] at hp hk hlen hRe;obtain ⟨Mn,hMn⟩:=az (min m.com TL);obtain ⟨Mx,hMx⟩:=az (max Co Mn);rw [hMn,hMx] at hRe;have tI:(0:Int)<=(TL:Int)/\(TL:Int)<=256:=aP
    have mn1:min (m.com:Int) (TL:Int)=(Mn:Int):=aP
    have mx1:max (Co:Int) (Mn:Int)=(Mx:Int):=aP
    have hpd:WT.drew.heap[p]?=_:=hp;have hbd:WT.drew.heap[b]?=_:=hb;have x9:=ag hpd 9;have x4:=ag hpd 4;have x5:=ag hbd 4;simp only [Aai,ax,ay] at x9 x4 x5;have f9:=Ap hpd 9;have j1:aj (ak Y) WT oT WT.drew oT:=(aj.refl (ak Y) WT oT).drew;have k5:=j1.setCell (a:=(aW p 9)) (Mx:aV) (.inl (congrArg Prod.fst hpo));have hp5:=Ai (i:=9) (Mx:aV) hpd;obtain ⟨W5,hW5⟩:=az (WT.drew.setCell (aW p 9) (Mx:aV));rw [hW5] at k5 hp5;have hr5:AaB W5 oT Y p ⟨I,N,K2, .follows,0,sn,Mx⟩:=⟨_,0,mi5,hv5,pv5,mv5,ba5,re5,hp5,hpo,hk.step k5 (fun h=>hY h.symm),rfl⟩;have hb5:=(k5.block b (au hb) (by rw [hbo];exact fun h=>hY h.symm)).trans hb;have x1:=ag hb5 1;simp only [ax,ay] at x1;have hak:=ae (AeI hr5 (show K2.lines.length<=256 by rw [hTL];exact hlen) src m.e);have hU5:=aa3 (hst.trans k5) hr5 hRe;have Ahn:=ae (show (WT.setCell (aW p 9) (Mx:aV)).drew=W5 from hW5);have AcA:=aI x9 (aI x5 x4);clear hst hr5 hb hbo hlen hRe hp hpo hk hTL hMn hMx hpd hbd x9 x4 x5 j1 k5 hp5 hW5 hb5 hT
    go_wp2_with (first
     | ((with_reducible apply Bo);exact Amb.out;simp only [Act.put,lsa,lsz,lss])
     | ((with_reducible apply AC);exact ApV.out;simp only [Act.put]))
    refine Aa (fun w'=>w'.cell? (aW p 9)=some (Co:aV)/\w'.cell? (aW b 4)=some (m.com:aV)/\w'.cell? (aW p 4)=some (.slice sa TL sc)) (fun i=>decide (i<17)) bf AcA (fun hHeld => ?_);refine tq 0 (h:=tq 1 (h:=tq 2 (h:=tq 3 (h:=tq 4 (h:=tq 5 (h:=tq 6 (h:=tq 7 (h:=tq 8 (h:=tq 9 (h:=tq 10 (h:=tq 11 (h:=tq 12 (h:=tq 13 (h:=?_))))))))))))));refine tq 14 (h:=tO 15 (h:=?_));go_wp2_with fail;refine ⟨fun _=>hHeld, ?_⟩;refine tq 16 (h:=tO 17 (h:=?_));go_wp2_with fail;refine ⟨fun h=>by simp at h, ?_⟩;refine tD (h:=?_);clear hHeld AcA;rw [Ahn.out];go_wp2_with fail;refine hak.out.mono ?_;rintro e w7 ⟨v7,o7,rfl,hs7,ht7⟩;have hV:=aa3 (hU5.out.1.trans (hs7.only Y)) ht7 (hU5.out.2.1.step hs7 id id);clear hs7 ht7;go_wp2_with fail;go_ret;exact ⟨_,o7,rfl,hV.out.1,by rw [<-hU5.out.2.2];exact hV.out.2.1,by rw [<-hU5.out.2.2];exact hV.out.2.2⟩
  ·obtain ⟨hcI,hcN⟩:=AjP hcu;obtain ⟨hcP,hcQ⟩:=Ail hpr;have hR:=hRH.out;rw [if_pos (.inr hcu)] at hR;have hF:=aa3 (hG.out.1.trans hdr) (tN.out.step hdr id id) hR;clear hR hpr hcu;unfold Ea;go_enter func68,ntmps68
   go_wp2_with ((with_reducible apply BM);exact xH.out;simp only [Act.put,lsa,lsz,lss])
   refine Aa (fun w'=>w'.cell? (aW p 2)=some (yk.promised:aV)/\w'.cell? (aW p 3)=some (yk.current:aV)/\w'.cell? (aW b 1)=some (m.e:aV)) (fun _=>true) bf hS (fun hHeld => ?_);refine tq 0 (h:=tq 1 (h:=tq 2 (h:=tq 3 (h:=tq 4 (h:=tq 5 (h:=tq 6 (h:=tq 7 (h:=tq 8 (h:=tq 9 (h:=tq 10 (h:=tq 11 (h:=tq 12 (h:=tq 13 (h:=?_))))))))))))));refine tq 14 (h:=tq 15 (h:=tq 16 (h:=tq 17 (h:=tD (h:=?_)))));clear hHeld hS;go_wp2_with fail;go_ret;exact ⟨_,o1,rfl,hF.out.1.only Y,by rw [<-hF.out.2.2];exact AaA.nil _ _,by rw [<-hF.out.2.2];exact hF.out.2.1⟩
 ·obtain ⟨hcP,hcQ⟩:=AjP hpr;have hR:=hRH.out;rw [if_pos (.inl hpr)] at hR;have hF:=aa3 (hG.out.1.trans hdr) (tN.out.step hdr id id) hR;clear hR hpr;unfold Ea;go_enter func68,ntmps68
  go_wp2_with ((with_reducible apply BM);exact xH.out;simp only [Act.put,lsa,lsz,lss])
  refine Aa (fun w'=>w'.cell? (aW p 2)=some (yk.promised:aV)/\w'.cell? (aW p 3)=some (yk.current:aV)/\w'.cell? (aW b 1)=some (m.e:aV)) (fun _=>true) bf hS (fun hHeld => ?_);refine tq 0 (h:=tq 1 (h:=tq 2 (h:=tq 3 (h:=tq 4 (h:=tq 5 (h:=tq 6 (h:=tq 7 (h:=tq 8 (h:=ts 9 (h:=ts 10 (h:=ts 11 (h:=ts 12 (h:=ts 13 (h:=?_))))))))))))));refine ts 14 (h:=ts 15 (h:=ts 16 (h:=tq 17 (h:=tD (h:=?_)))));clear hHeld hS;go_wp2_with fail;go_ret;exact ⟨_,o1,rfl,hF.out.1.only Y,by rw [<-hF.out.2.2];exact AaA.nil _ _,by rw [<-hF.out.2.2];exact hF.out.2.1⟩
theorem AdD (w:World) (o:Own):∃ g:Nat,∃ w' o',(Instr.buildSlice 23 0 #[]).run prog w = .ok (.slice g 0 0) w'/\aj ai w o w' o':=
 ⟨w.heap.size,w.alloc (.cells #[] 5),_,bf,(aj.refl ai w o).alloc _ (0,0)⟩
theorem AeR (h:Bytes w o bv l) (h1:1<=l.length) (h2:l.length<=1000000) (g:Nat) :
  ∃ v w' o',(Builtin.append_ #[23,23] 23 #[.slice g 0 0,bv]).run prog w = .ok v w'/\aj ai w o w' o'/\Bytes w' o' v l:=by
 rcases h with ⟨-,h0, -⟩ | ⟨b,off,cap,rfl,hl,hm,ho,hb,hr⟩
 ·omega
 ·obtain ⟨cp,w',hrn,hown,hbel⟩:=append_empty (P:=prog) w 23 23 5 underlying23 dW rfl (some ⟨g,0,none⟩) b off l.length cap (bvs l) bu hr (Io _) aP aP aP;exact ⟨_,w',Qi w o (0,0),hrn,aj.OT hbel _,(XI hown).bytes⟩
theorem Adb {e:BitVec 64} (h:Bytes w o v l) :
  ∃ w' o' u,(Instr.buildSlice 32 1 #[(0, .agg #[(e:aV),v])]).run prog w = .ok u w'/\aj ai w o w' o'/\Lines w' o' 0 u [⟨e,l⟩]:=by
 have st:=(aj.refl ai w o).alloc (.cells [(e:aV),v].toArray 36) (0,0);have hb:=heap_alloc_new w (.cells [(e:aV),v].toArray 36);exact ⟨_,_,_,Zf w (e.toNat:Int) v,st,_, .inr ⟨w.heap.size,0,1,rfl,Nat.le_refl _,by simp [maxLen],by rw [Au],bu,AV hb⟩,sW.single ⟨e,l⟩ (h.step st id),CV.zero _,fun _ _=>CV.zero _⟩
theorem AfM (h0:¬ (l.length=0 \/ 4096<l.length)) (h:y.OD=false):y.BL l=(y,64):=by
 unfold Aj.BL;rw [if_neg h0];unfold Aj.OD at h;split
 ·rename_i e;rw [e] at h;cases h
 ·rfl
theorem Aj.OD.BB (h:y.OD=true):∃ m nR b,y.BB = .leads m nR b true:=by
 unfold Aj.OD at h;split at h
 ·rename_i e;subst h;exact ⟨_,_,_,e⟩
 ·cases h
theorem AfK {Y:Nat} (h:AaB w o Y p y) (hY:Y ≠ 0) (hn:NOk B y) (hb:Bytes w o bv l) (hll:l.length<=1000000) :
  Calls prog 35 #[.pointer p,bv] w (XL (ak Y) w o fun v w' o'=>v = .int .i64 (y.BL l).2/\AaB w' o' Y p (y.BL l).1):=by
 obtain ⟨ba,bc,rfl⟩:=Aq hb;obtain ⟨n,hln⟩:=az (l.length);rw [hln] at hb hll ⊢;have nI:(0:Int)<=(n:Int)/\(n:Int)<=1000000:=aP
 have hle:=ae (AfH h);obtain ⟨R,hR⟩:=az (y.BL l);rw [hR]
 by_cases h0:l.length=0 \/ 4096<l.length
 ·have hR1:R=(y,1):=by rw [<-hR];unfold Aj.BL;rw [if_pos h0]
  subst hR1;have hF:=ae h;rw [hln] at h0;clear h hb hR hll hn hln hle
  by_cases h00:n=0
  ·subst h00;go_enter func35,ntmps35;go_wp2_with fail;go_ret;exact ⟨_,o,rfl,aj.refl _ _ _,rfl,hF.out⟩
  ·have h1I:((n:Int) == 0)=false:=by simp;omega
   have h2I:(4096:Int)<(n:Int):=aP
   clear h0 h00;go_enter func35,ntmps35;go_wp2_with fail;go_ret;exact ⟨_,o,rfl,aj.refl _ _ _,rfl,hF.out⟩
 have h1I:((n:Int) == 0)=false:=by simp;omega
 have h2I:¬ (4096:Int)<(n:Int):=aP
 have h1N:1<=l.length/\l.length<=4096:=aP
 cases hlead:y.OD with
 | false =>
  have hR1:R=(y,64):=by rw [<-hR];exact AfM h0 hlead
  subst hR1;rw [hlead] at hle;have hF:=ae h;clear h hb hR hll hn hln h0 h1N hlead;go_enter func35,ntmps35;go_wp2_with fail;refine hle.out.mono ?_;rintro e w' ⟨rfl,rfl⟩;go_wp2_with fail;go_ret;exact ⟨_,o,rfl,aj.refl _ _ _,rfl,hF.out⟩
 | true =>
  rw [hlead] at hle;obtain ⟨mine,nR,bs,AoH⟩:=Aj.OD.BB hlead;obtain ⟨I,N,yk,BB,wt,sn,Co⟩:=y;simp only at AoH;subst AoH;have hro:=hn.ro;have hl3:=hn.n3;have hl1:=hn.n1;have hid:=hn.id;have hco:=hn.co;have hkn:=hn.ls.n;obtain ⟨-,hml,hmr⟩:=hro;simp only at hml hmr hl3 hl1 hid hco hkn;have tN:=ae h;obtain ⟨lk,ro,mine,hv,pv,mv,base,ready,hp,hpo,hk,h4⟩:=h;simp only at hp hk;obtain ⟨ka,kc,rfl⟩:=hk.form;obtain ⟨rfl,rfl,⟨mb,rfl,hmb,hmo⟩,rfl,rfl⟩:=h4;obtain ⟨L,hL⟩:=az (yk.lines.length);unfold Aj.BL at hR;rw [if_neg h0] at hR;simp only at hR;rw [hL] at hp hk hR hmr hco hkn;have LI:(0:Int)<=(L:Int)/\(L:Int)<=256:=aP
  have c4:=ag hp 4;simp only [Aai,ax,ay] at c4
  by_cases hfu:256<=L
  ·have hfI:(256:Int)<=(L:Int):=aP
   rw [if_pos hfu] at hR;subst hR;clear hb hll hn hln h0 h1N hlead hp hpo hk hmb hmo hml hmr hL hfu;go_enter func35,ntmps35;go_wp2_with fail;refine hle.out.mono ?_;rintro e w' ⟨rfl,rfl⟩;go_wp2_with fail;go_ret;exact ⟨_,o,rfl,aj.refl _ _ _,rfl,tN.out⟩
  have hfI:¬ (256:Int)<=(L:Int):=aP
  have hfN:decide ((256:Int)<=(L:Int))=false:=decide_eq_false hfI;rw [if_neg hfu] at hR;obtain ⟨qk,hqk⟩:=az (yk.Cm [⟨mine,l⟩]);rw [hqk] at hR;obtain ⟨X,hXY,hXf⟩:=KT o w.heap.size Y;have hX0:X ≠ 0:=aP
  have hSf:=ae (fun (V1:World) (p1:Own) (hJ:aj ai w o V1 p1)=>show V1.heap[p]?=some (.cells (Aai I N yk (.slice ka L kc) 2 mine wt sn Co hv pv (.slice mb nR.length nR.length) (bs:Int) true).toArray 124 (0,0))/\V1.cell? (aW p 6)=some (mine:aV) from
   have x1:=(hJ.block p (au hp) id).trans hp
   ⟨x1,ag x1 6⟩)
  have hS:=hSf.out w.drew o (aj.refl ai w o).drew;have xZ:=ae hb;have hkH:=ae hk;have hRH:=aa3 hR hqk hXY;have hA:=aa9 hn hml hmr hL hl1 hl3 hid hco hkn;have hP:=aa4 hp hpo hmb hmo;have AbJ:=ae (fun (V1:World) (p1:Own) (u:Value) (hJ:aj ai w o V1 p1) (hu:Lines V1 p1 0 u [⟨mine,l⟩])=>Afq (p:=yk.promised) (c:=yk.current) (hk.step hJ id) hu (by rw [hL];exact hkn) bu);rw [show (⟨yk.promised,yk.current,yk.lines⟩:AX)=yk from rfl,hqk] at AbJ;have hnL:=aa2 h1N (show yk.lines.length<=256 by rw [hL];exact hkn);clear hb hll hn hln h0 h1N hlead hp hpo hk hmb hmo hml hmr hL hfu hR hqk hXY hXf hl1 hl3 hid hco hkn;go_enter func35,ntmps35;go_wp2_with fail;refine hle.out.mono ?_;rintro e w' ⟨rfl,rfl⟩;go_wp2_with fail;refine Jd (fun a0 a' w'=>∃ (y0 y1 y2 y3:Value) (lb:Nat) (lv:Value) (oF:Own),a'=Act.puts a0 [26,27,28,29,30,31,32,33,35,34,36,37,38,39,25,40,41,5,6] [.pointer p, .pointer p, .pointer (some (aW p 2)),Dy yk.promised yk.current (.slice ka L kc), .pointer p, .pointer p, .pointer (some (aW p 6)), (mine:aV), .slice ba n bc,y0,y1,y2,y3, .tuple #[Dy qk.1.promised qk.1.current lv, .int .i64 qk.2], .tuple #[Dy qk.1.promised qk.1.current lv, .int .i64 qk.2],Dy qk.1.promised qk.1.current lv, .int .i64 qk.2, .pointer lb, .int .i64 qk.2]/\aj ai w o w' oF/\w'.heap[lb]?=some (.cells (BR qk.1.promised qk.1.current lv).toArray 120 (0,0))/\(oF lb).1=X/\Lines w' oF 0 lv qk.1.lines) ?_ ?_
  ·refine Aa (fun w'=>w'.heap[p]?=some (.cells (Aai I N yk (.slice ka L kc) 2 mine wt sn Co hv pv (.slice mb nR.length nR.length) (bs:Int) true).toArray 124 (0,0))/\w'.cell? (aW p 6)=some (mine:aV)) (fun _=>true) bf hS (fun hHeld => ?_);obtain ⟨U,hU⟩:=az (w.drew);have hJ:aj ai w o w.drew o:=(aj.refl ai w o).drew;rw [hU] at hHeld hJ ⊢;clear hU;refine tn 0 (h:=tn 1 (h:=tn 2 (h:=?_)));refine Dt (i:=3) (v:=Dy yk.promised yk.current (.slice ka L kc)) rfl bf (fun _ _ _ h=>nomatch h.1) (yieldsIf_load_mid rfl 120 (.tmp 28) rfl p 2 rfl (BR yk.promised yk.current (.slice ka L kc)) _ (fun w h=>Acm h.1) underlying120 rfl bf) (by assumption) ?_;simp only [Act.put,lsa,lsz,lss];refine tn 4 (h:=tn 5 (h:=tn 6 (h:=tn 7 (h:=tn 9 (h:=?_)))));refine Gm (i:=8) (j:=17) rfl rfl bf ?_ ?_
   ·obtain ⟨g,C0,c0,hrn,hs⟩:=AdD U o;refine BO #[] rfl hrn (wpList_nil ?_);simp only [Act.put,lsa,lsz,lss];have hJ:=hJ.trans hs;clear hrn hs;refine ⟨fun _=>hSf.out _ _ hJ, ?_⟩;refine Gm (i:=10) (j:=17) rfl rfl bf ?_ ?_
    ·obtain ⟨v,C1,c1,hrn,hs,hb⟩:=AeR (xZ.out.step hJ id) hnL.out.1.1 (by have:=hnL.out.1.2;omega) g;refine Bl hrn (wpList_nil ?_);simp only [Act.put,lsa,lsz,lss];have hJ:=hJ.trans hs;clear hrn hs;refine ⟨fun _=>hSf.out _ _ hJ, ?_⟩;obtain ⟨xa,xc,rfl⟩:=Aq hb;have hS0:=hSf.out _ _ hJ;refine tn 11 (h:=?_);refine Gm (i:=12) (j:=17) rfl rfl bf ?_ ?_
     ·obtain ⟨C2,c2,u,hrn,hs,hl⟩:=Adb (e:=mine) hb;refine BO #[(0, .agg #[(mine:aV), .slice xa l.length xc])] rfl hrn (wpList_nil ?_);simp only [Act.put,lsa,lsz,lss];have hJ:=hJ.trans hs;clear hrn hs;refine ⟨fun _=>hSf.out _ _ hJ, ?_⟩;refine Gm (i:=13) (j:=17) rfl rfl bf ?_ ?_
      ·have hc:=ae (AbJ.out _ _ u hJ hl);have hJ:=ae hJ;clear hb hl;go_wp2_with fail;refine hc.out.mono ?_;rintro e C3 ⟨vc,c3,rfl,hs,lv,rfl,hlv⟩;have hJ:=hJ.out.trans hs;have hFx:=aa2 hJ hlv;clear hs hlv hJ;go_wp2_with fail;obtain ⟨hJ,hlv⟩:=hFx.out;refine ⟨fun _=>hSf.out _ _ hJ, ?_⟩;have hS0:=hSf.out _ _ hJ;refine tn 14 (h:=tn 15 (h:=tn 16 (h:=tO 17 (h:=?_))));obtain ⟨lb,A4,a4,hal,hsa,hz,hzo,hge⟩:=Ach X C3 c3;have hge:=Nat.le_trans hJ.size hge;have hJ:=hJ.trans hsa;refine AU hal (wpList_nil ?_);simp only [Act.put,lsa,lsz,lss];clear hal;refine ⟨fun _=>hSf.out _ _ hJ, ?_⟩;have hlv:=hlv.step hsa id;obtain ⟨Us,hso,hsF,hJ,hz⟩:=Acg hJ hge hz hzo hlv.Acw;refine tO 18 (h:=?_);refine AC hso (wpList_nil ?_);simp only [Act.put];refine ⟨fun _=>hSf.out _ _ hJ, ?_⟩;refine tO 19 (h:=?_);go_wp2_with fail;refine ⟨fun _=>hSf.out _ _ hJ, ?_⟩;refine tD (h:=?_);exact ⟨rfl, .slice g 0 0, .slice xa l.length xc, .agg #[(mine:aV), .slice xa l.length xc],u,lb,lv,_,by simp only [Act.puts,Act.put,lsa,lsz,lss],hJ,hz,hzo,hlv.step hsF (fun h=>hX0 h.symm)⟩
      ·obtain ⟨lb,A3,a3,hal,hsa,hz,hzo,hge⟩:=Ach X C2 c2;have hge:=Nat.le_trans hJ.size hge;have hJ:=hJ.trans hsa;refine AU hal (wpList_nil ?_);simp only [Act.put,lsa,lsz,lss];clear hal;refine ⟨fun _=>hSf.out _ _ hJ, ?_⟩;have hl:=hl.step hsa id;refine tO 13 (h:=?_);have hc:=ae (AbJ.out _ _ u hJ hl);have hJ:=ae hJ;have hz:=ae hz;have hzo:=ae hzo;clear hb hl;go_wp2_with fail;refine hc.out.mono ?_;rintro e C3a ⟨vc,c3a,rfl,hs,lv,rfl,hlv⟩;have hJ:=hJ.out.trans hs;have hz0:=hz.out;have hz:=(hs.block lb (au hz0) id).trans hz0;have hzo:=(congrArg Prod.fst (hs.own lb (au hz0))).trans hzo.out;have hFx:=aa2 hJ hlv;clear hs hlv hJ;have hZx:=aa2 hz hzo;clear hz hzo hz0;go_wp2_with fail;obtain ⟨hJ,hlv⟩:=hFx.out;obtain ⟨hz,hzo⟩:=hZx.out;refine ⟨fun _=>hSf.out _ _ hJ, ?_⟩;have hS0:=hSf.out _ _ hJ;refine tn 14 (h:=tn 15 (h:=tn 16 (h:=?_)));obtain ⟨Us,hso,hsF,hJ,hz⟩:=Acg hJ hge hz hzo hlv.Acw;refine tO 18 (h:=?_);refine AC hso (wpList_nil ?_);simp only [Act.put];refine ⟨fun _=>hSf.out _ _ hJ, ?_⟩;refine tO 19 (h:=?_);go_wp2_with fail;refine ⟨fun _=>hSf.out _ _ hJ, ?_⟩;refine tD (h:=?_);exact ⟨rfl, .slice g 0 0, .slice xa l.length xc, .agg #[(mine:aV), .slice xa l.length xc],u,lb,lv,_,by simp only [Act.puts,Act.put,lsa,lsz,lss],hJ,hz,hzo,hlv.step hsF (fun h=>hX0 h.symm)⟩
     ·obtain ⟨lb,A2,a2,hal,hsa,hz,hzo,hge⟩:=Ach X C1 c1;have hge:=Nat.le_trans hJ.size hge;have hJ:=hJ.trans hsa;refine AU hal (wpList_nil ?_);simp only [Act.put,lsa,lsz,lss];clear hal;refine ⟨fun _=>hSf.out _ _ hJ, ?_⟩;have hb:=hb.step hsa id;refine tO 12 (h:=?_);obtain ⟨C2a,c2a,u,hrn,hs,hl⟩:=Adb (e:=mine) hb;refine BO #[(0, .agg #[(mine:aV), .slice xa l.length xc])] rfl hrn (wpList_nil ?_);simp only [Act.put,lsa,lsz,lss];have hJ:=hJ.trans hs;have hzo:=(congrArg Prod.fst (hs.own lb (au hz))).trans hzo;have hz:=(hs.block lb (au hz) id).trans hz;clear hrn hs;refine ⟨fun _=>hSf.out _ _ hJ, ?_⟩;refine tO 13 (h:=?_);have hc:=ae (AbJ.out _ _ u hJ hl);have hJ:=ae hJ;have hz:=ae hz;have hzo:=ae hzo;clear hb hl;go_wp2_with fail;refine hc.out.mono ?_;rintro e C3a ⟨vc,c3a,rfl,hs,lv,rfl,hlv⟩;have hJ:=hJ.out.trans hs;have hz0:=hz.out;have hz:=(hs.block lb (au hz0) id).trans hz0;have hzo:=(congrArg Prod.fst (hs.own lb (au hz0))).trans hzo.out;have hFx:=aa2 hJ hlv;clear hs hlv hJ;have hZx:=aa2 hz hzo;clear hz hzo hz0;go_wp2_with fail;obtain ⟨hJ,hlv⟩:=hFx.out;obtain ⟨hz,hzo⟩:=hZx.out;refine ⟨fun _=>hSf.out _ _ hJ, ?_⟩;have hS0:=hSf.out _ _ hJ;refine tn 14 (h:=tn 15 (h:=tn 16 (h:=?_)));obtain ⟨Us,hso,hsF,hJ,hz⟩:=Acg hJ hge hz hzo hlv.Acw;refine tO 18 (h:=?_);refine AC hso (wpList_nil ?_);simp only [Act.put];refine ⟨fun _=>hSf.out _ _ hJ, ?_⟩;refine tO 19 (h:=?_);go_wp2_with fail;refine ⟨fun _=>hSf.out _ _ hJ, ?_⟩;refine tD (h:=?_);exact ⟨rfl, .slice g 0 0, .slice xa l.length xc, .agg #[(mine:aV), .slice xa l.length xc],u,lb,lv,_,by simp only [Act.puts,Act.put,lsa,lsz,lss],hJ,hz,hzo,hlv.step hsF (fun h=>hX0 h.symm)⟩
    ·obtain ⟨lb,A1,a1,hal,hsa,hz,hzo,hge⟩:=Ach X C0 c0;have hge:=Nat.le_trans hJ.size hge;have hJ:=hJ.trans hsa;refine AU hal (wpList_nil ?_);simp only [Act.put,lsa,lsz,lss];clear hal;refine ⟨fun _=>hSf.out _ _ hJ, ?_⟩;refine tO 10 (h:=?_);obtain ⟨v,C1a,c1a,hrn,hs,hb⟩:=AeR (xZ.out.step hJ id) hnL.out.1.1 (by have:=hnL.out.1.2;omega) g;refine Bl hrn (wpList_nil ?_);simp only [Act.put,lsa,lsz,lss];have hJ:=hJ.trans hs;have hzo:=(congrArg Prod.fst (hs.own lb (au hz))).trans hzo;have hz:=(hs.block lb (au hz) id).trans hz;clear hrn hs;refine ⟨fun _=>hSf.out _ _ hJ, ?_⟩;obtain ⟨xa,xc,rfl⟩:=Aq hb;have hS0:=hSf.out _ _ hJ;refine tn 11 (h:=tO 12 (h:=?_));obtain ⟨C2a,c2a,u,hrn,hs,hl⟩:=Adb (e:=mine) hb;refine BO #[(0, .agg #[(mine:aV), .slice xa l.length xc])] rfl hrn (wpList_nil ?_);simp only [Act.put,lsa,lsz,lss];have hJ:=hJ.trans hs;have hzo:=(congrArg Prod.fst (hs.own lb (au hz))).trans hzo;have hz:=(hs.block lb (au hz) id).trans hz;clear hrn hs;refine ⟨fun _=>hSf.out _ _ hJ, ?_⟩;refine tO 13 (h:=?_);have hc:=ae (AbJ.out _ _ u hJ hl);have hJ:=ae hJ;have hz:=ae hz;have hzo:=ae hzo;clear hb hl;go_wp2_with fail;refine hc.out.mono ?_;rintro e C3a ⟨vc,c3a,rfl,hs,lv,rfl,hlv⟩;have hJ:=hJ.out.trans hs;have hz0:=hz.out;have hz:=(hs.block lb (au hz0) id).trans hz0;have hzo:=(congrArg Prod.fst (hs.own lb (au hz0))).trans hzo.out;have hFx:=aa2 hJ hlv;clear hs hlv hJ;have hZx:=aa2 hz hzo;clear hz hzo hz0;go_wp2_with fail;obtain ⟨hJ,hlv⟩:=hFx.out;obtain ⟨hz,hzo⟩:=hZx.out;refine ⟨fun _=>hSf.out _ _ hJ, ?_⟩;have hS0:=hSf.out _ _ hJ;refine tn 14 (h:=tn 15 (h:=tn 16 (h:=?_)));obtain ⟨Us,hso,hsF,hJ,hz⟩:=Acg hJ hge hz hzo hlv.Acw;refine tO 18 (h:=?_);refine AC hso (wpList_nil ?_);simp only [Act.put];refine ⟨fun _=>hSf.out _ _ hJ, ?_⟩;refine tO 19 (h:=?_);go_wp2_with fail;refine ⟨fun _=>hSf.out _ _ hJ, ?_⟩;refine tD (h:=?_);exact ⟨rfl, .slice g 0 0, .slice xa l.length xc, .agg #[(mine:aV), .slice xa l.length xc],u,lb,lv,_,by simp only [Act.puts,Act.put,lsa,lsz,lss],hJ,hz,hzo,hlv.step hsF (fun h=>hX0 h.symm)⟩
   ·obtain ⟨lb,A0,a0,hal,hsa,hz,hzo,hge⟩:=Ach X U o;have hge:=Nat.le_trans hJ.size hge;have hJ:=hJ.trans hsa;refine AU hal (wpList_nil ?_);simp only [Act.put,lsa,lsz,lss];clear hal;refine ⟨fun _=>hSf.out _ _ hJ, ?_⟩;refine tO 8 (h:=?_);obtain ⟨g,C0a,c0a,hrn,hs⟩:=AdD A0 a0;refine BO #[] rfl hrn (wpList_nil ?_);simp only [Act.put,lsa,lsz,lss];have hJ:=hJ.trans hs;have hzo:=(congrArg Prod.fst (hs.own lb (au hz))).trans hzo;have hz:=(hs.block lb (au hz) id).trans hz;clear hrn hs;refine ⟨fun _=>hSf.out _ _ hJ, ?_⟩;refine tO 10 (h:=?_);obtain ⟨v,C1a,c1a,hrn,hs,hb⟩:=AeR (xZ.out.step hJ id) hnL.out.1.1 (by have:=hnL.out.1.2;omega) g;refine Bl hrn (wpList_nil ?_);simp only [Act.put,lsa,lsz,lss];have hJ:=hJ.trans hs;have hzo:=(congrArg Prod.fst (hs.own lb (au hz))).trans hzo;have hz:=(hs.block lb (au hz) id).trans hz;clear hrn hs;refine ⟨fun _=>hSf.out _ _ hJ, ?_⟩;obtain ⟨xa,xc,rfl⟩:=Aq hb;have hS0:=hSf.out _ _ hJ;refine tn 11 (h:=tO 12 (h:=?_));obtain ⟨C2a,c2a,u,hrn,hs,hl⟩:=Adb (e:=mine) hb;refine BO #[(0, .agg #[(mine:aV), .slice xa l.length xc])] rfl hrn (wpList_nil ?_);simp only [Act.put,lsa,lsz,lss];have hJ:=hJ.trans hs;have hzo:=(congrArg Prod.fst (hs.own lb (au hz))).trans hzo;have hz:=(hs.block lb (au hz) id).trans hz;clear hrn hs;refine ⟨fun _=>hSf.out _ _ hJ, ?_⟩;refine tO 13 (h:=?_);have hc:=ae (AbJ.out _ _ u hJ hl);have hJ:=ae hJ;have hz:=ae hz;have hzo:=ae hzo;clear hb hl;go_wp2_with fail;refine hc.out.mono ?_;rintro e C3a ⟨vc,c3a,rfl,hs,lv,rfl,hlv⟩;have hJ:=hJ.out.trans hs;have hz0:=hz.out;have hz:=(hs.block lb (au hz0) id).trans hz0;have hzo:=(congrArg Prod.fst (hs.own lb (au hz0))).trans hzo.out;have hFx:=aa2 hJ hlv;clear hs hlv hJ;have hZx:=aa2 hz hzo;clear hz hzo hz0;go_wp2_with fail;obtain ⟨hJ,hlv⟩:=hFx.out;obtain ⟨hz,hzo⟩:=hZx.out;refine ⟨fun _=>hSf.out _ _ hJ, ?_⟩;have hS0:=hSf.out _ _ hJ;refine tn 14 (h:=tn 15 (h:=tn 16 (h:=?_)));obtain ⟨Us,hso,hsF,hJ,hz⟩:=Acg hJ hge hz hzo hlv.Acw;refine tO 18 (h:=?_);refine AC hso (wpList_nil ?_);simp only [Act.put];refine ⟨fun _=>hSf.out _ _ hJ, ?_⟩;refine tO 19 (h:=?_);go_wp2_with fail;refine ⟨fun _=>hSf.out _ _ hJ, ?_⟩;refine tD (h:=?_);exact ⟨rfl, .slice g 0 0, .slice xa l.length xc, .agg #[(mine:aV), .slice xa l.length xc],u,lb,lv,_,by simp only [Act.puts,Act.put,lsa,lsz,lss],hJ,hz,hzo,hlv.step hsF (fun h=>hX0 h.symm)⟩
  rintro a3 W3 ⟨y0,y1,y2,y3,lb,lq,o3,rfl,hJ,hz,hzo,hlq⟩;simp only [Act.puts,Act.put,lsa,lsz,lss];obtain ⟨hp,hpo,hmb,hmo⟩:=hP.out;obtain ⟨hR,hqk,hXY⟩:=hRH.out
  by_cases hf:qk.2=0
  ·have hq1:=Ih (show (yk.Cm [⟨mine,l⟩]).2=0 by rw [hqk];exact hf);have hap:=Si (show (yk.Cm [⟨mine,l⟩]).2=0 by rw [hqk];exact hf);rw [hqk] at hq1;obtain ⟨K2,e0⟩:=qk;simp only at hq1 hf hz hlq hR ⊢;subst hf;rw [if_pos rfl] at hR;obtain ⟨qa,qc,rfl⟩:=hlq.form;obtain ⟨hn,hml,hmr,hL,hl1,hl3,hid,hco,hkn⟩:=hA.out;have Ame:K2.lines.length<=256:=by rw [hq1];show (yk.lines++[(⟨mine,l⟩:Ar)]).length<=256;rw [List.length_append];simp only [List.length_singleton] at hap ⊢;omega
   have hp3:=(hJ.block p (au hp) id).trans hp;have hm3:=(hJ.block mb (au hmb) id).trans hmb;have op3:=(hJ.own p (au hp)).trans hpo;have om3:=(congrArg Prod.fst (hJ.own mb (au hmb))).trans hmo;have hpm:mb ≠ p:=by rintro rfl;rw [hp3] at hm3;simp at hm3
   have Amb:=ae (AaS (AV hz));obtain ⟨s4,hp4⟩:=Aeb hp3 2 (by simp [Aai]) (p:=K2.promised) (c:=K2.current) (lv := .slice qa K2.lines.length qc) ⟨_,_,_,rfl⟩;have k4:=(aj.refl (ak Y) W3 o3).setCells p 2 (BR K2.promised K2.current (.slice qa K2.lines.length qc)) (.inl (congrArg Prod.fst op3));have hm4:=(ah p (BR K2.promised K2.current (.slice qa K2.lines.length qc)) 2 W3 mb hpm).trans hm3;obtain ⟨W4,hW4⟩:=az (W3.setCells p 2 (BR K2.promised K2.current (.slice qa K2.lines.length qc)));rw [hW4] at s4 hp4 k4 hm4;have hr4:AaB W4 o3 Y p ⟨I,N,K2, .leads mine nR bs true,wt,sn,Co⟩:=⟨_,2,mine,hv,pv,_,_,true,hp4,op3,hlq.step k4 (fun h=>hY h.symm),rfl,rfl,⟨mb,rfl,hm4,om3⟩,rfl,rfl⟩;have hcn:=ae (Adq hr4 hY rfl aP aP (show I<nR.length by omega) (fun x hx=>by have:=hmr x hx;omega) Ame (by show Co<=256;omega));have hRe:R=(Aj.count ⟨I,N,K2, .leads mine nR bs true,wt,sn,Co⟩ mine nR bs true,0):=by rw [<-hR]
   have hF:=aa2 ((hJ.only Y).trans k4) hRe;have s4H:=ae s4;clear hp hpo hmb hmo hR hqk hXY hq1 hap hlq hn hml hmr hL hl1 hl3 hid hco hkn Ame hp3 hm3 op3 om3 hpm s4 hp4 k4 hm4 hW4 hr4 hRe hJ hz hzo AbJ hSf
   go_wp2_with (first
    | ((with_reducible apply Bo);exact Amb.out;simp only [Act.put,lsa,lsz,lss])
    | ((with_reducible apply AC);exact s4H.out;simp only [Act.put]))
   refine hcn.out.mono ?_;rintro e W5 ⟨v5,o5,rfl,hs5,rfl,hr5⟩;have hG:=aa2 (hF.out.1.trans hs5) hr5;clear hs5 hr5;go_wp2_with fail;go_ret;exact ⟨_,o5,rfl,hG.out.1,by rw [hF.out.2];rfl,by rw [hF.out.2];exact hG.out.2⟩
  ·have AlM:((qk.2:Int) == 0)=false:=by simp [hf]
   rw [if_neg hf] at hR;have hF:=aa3 (hJ.only Y) (tN.out.step hJ id id) hR;clear hp hpo hmb hmo hR hqk hXY hf hlq hJ hz hzo AbJ hSf;go_wp2_with fail;go_ret;exact ⟨_,o3,rfl,hF.out.1,by rw [<-hF.out.2.2];rfl,by rw [<-hF.out.2.2];exact hF.out.2.1⟩
theorem Ajr (h:Bytes w o bv l) (lo hi:Nat) (h1:lo<=hi) (h2:hi<=l.length) :
  ∃ v,(∀ W:World,(Instr.sliceAt 23 bv (some (lo:aV)) (some (hi:aV)) none).run prog W = .ok v W)/\Bytes w o v ((l.drop lo).take (hi - lo)):=by
 have hu:prog.underlying 23=some (.slice (prog.elem 23)):=bf
 have hsz:∀ W:World,(sizeOf (prog.elem 23)).run prog W = .ok 1 W:=fun W=>by
  rw [show prog.elem 23=5 by kernel_rfl];have h5:(prog.info? 5).map (·.size)=some 1:=bf
  cases hq:prog.info? 5 with
  | none=>simp [hq] at h5
  | some i=>simp [hq] at h5;simp [sizeOf,typeInfo,hq,h5]
 obtain ⟨a,c,rfl⟩:=Aq h;have hc:l.length<=c:=by
  rcases h with ⟨⟨a',c',e⟩,h0, -⟩ | ⟨b,off,cap,e,hl, -⟩
  ·omega
  ·cases e;exact hl
 refine ⟨sliced a lo hi c 1,fun W=>by rw [run_sliceAt_slice _ _ _ _ _ _ hu,run_slice_lh W 23 a l.length c hu .i64 .i64 lo hi aP aP aP,hsz];simp only [Result.andThen_ok,Int.toNat_natCast], ?_⟩
 by_cases he:lo=hi
 ·subst he;exact .inl ⟨⟨_,_,by unfold sliced;rw [Nat.sub_self]⟩,bu,bu⟩
 ·rcases h with ⟨-,h0, -⟩ | ⟨b,off,cap,e,hl,hm,ho,hb,hr⟩
  ·omega
  ·cases e
   have hlen:((l.drop lo).take (hi - lo)).length=hi - lo:=by rw [List.length_take,List.length_drop];omega
   refine .inr ⟨b,off+lo,c - lo, ?_,by rw [hlen];omega,aP,ho,hb, ?_⟩
   ·unfold sliced;rw [if_neg aP,hlen,Option.map_some,addr_add,Nat.mul_one]
   ·have:=ER hr lo (hi - lo);rw [Np,Ky] at this;exact this
def RdB (w:World) (o:Own) (Z p:Nat) (bv:Value) (l:List UInt8) (m:oQ):Prop:=
 Bytes w o bv l/\∃ k,k<=l.length/\m.b=l.drop k/\w.heap[p]?=some (.cells [bv, (k:aV), .bool m.bad].toArray 172 (0,0))/\o p=(Z,0)
theorem RdB.step {T:Nat->Prop} {o':Own} {Z:Nat} {m:oQ} (h:RdB w o Z p bv l m) (s:aj T w o w' o') (hZ:¬ T Z) (h0:¬ T 0):RdB w' o' Z p bv l m:=by
 obtain ⟨h1,k,h2,h3,h4,h5⟩:=h;exact ⟨h1.step s h0,k,h2,h3,(s.block p (au h4) (by rw [h5];exact hZ)).trans h4,(s.own p (au h4)).trans h5⟩
section
variable {w:World} {o:Own} {Z p:Nat} {bv:Value} {l:List UInt8} {m:oQ}
theorem Aek (h:RdB w o Z p bv l m) (hZ:Z ≠ 0) (hl:l.length<=1000000) (n:Nat) (hn:n<18446744073709551616) :
  Calls prog 116 #[.pointer p, .int .u64 (n:Int)] w (XL (ak Z) w o fun v w' o'=>Bytes w' o' v (m.txt n).1/\RdB w' o' Z p bv l (m.txt n).2):=by
 obtain ⟨h1,k,hk,hb,hp,hpo⟩:=h;obtain ⟨ba,bc,rfl⟩:=Aq h1;obtain ⟨L,hL⟩:=az (l.length);obtain ⟨mb,bad⟩:=m;simp only at hb hp;subst hb;rw [hL] at h1 hp hk hl ⊢;have n0:¬ ak Z 0:=fun h=>hZ h.symm;have st:=(aj.refl (ak Z) w o).drew;have hpd:w.drew.heap[p]?=_:=hp;have c0:=ag hpd 0;have c1:=ag hpd 1;have c2:=ag hpd 2;simp only [ax,ay] at c0 c1 c2;have hS:=aI c0 (aI c1 c2);have hfr:=Ap hpd;have f1:=hfr 1;have f2:=hfr 2;obtain ⟨D,hD⟩:=az (L - k);have hDI:(L:Int) - (k:Int)=(D:Int):=aP
 have hlen:(l.drop k).length=D:=by rw [List.length_drop];omega
 have hw1:IntKind.i64.wrap ((L:Int) - (k:Int))=(D:Int):=by rw [hDI];exact IntWalk.i64_in _ aP
 have hw2:IntKind.u64.wrap (D:Int)=(D:Int):=IntWalk.u64_in _ aP;have Alj:=st.setCell (a:=(aW p 2)) (.bool true) (.inl (by show (o p).1=Z;rw [hpo]));have AcU:=aa2 Alj (show RdB _ o Z p (.slice ba L bc) l ⟨l.drop k,true⟩ from ⟨h1.step Alj n0,k,aP,rfl,Ai (i:=2) (.bool true) hpd,hpo⟩)
 by_cases hbad:bad=true
 ·subst hbad;clear h1 hp hpo hL hpd c0 c1 c2 hfr f1 hD hDI hlen hw1 hw2 Alj st;go_enter func116,ntmps116;go_wp2_with fail;refine Aa (fun w'=>w'.cell? p=some (.slice ba L bc)/\w'.cell? (aW p 1)=some (k:aV)/\w'.cell? (aW p 2)=some (.bool true)) (fun _=>true) bf hS (fun hHeld => ?_);refine tq 0 (h:=tq 1 (h:=tq 2 (h:=tq 3 (h:=tq 4 (h:=ts 5 (h:=ts 6 (h:=ts 7 (h:=ts 8 (h:=ts 9 (h:=ts 10 (h:=ts 11 (h:=ts 12 (h:=ts 13 (h:=?_))))))))))))));refine ts 14 (h:=ts 15 (h:=ts 16 (h:=ts 17 (h:=tq 18 (h:=tD (h:=?_))))));clear hHeld;go_wp2_with fail;go_ret;exact ⟨_,o,rfl,AcU.out.1,Bytes.nil _ _,AcU.out.2⟩
 ·obtain rfl:bad=false:=by simpa using hbad
  by_cases hlt:D<n
  ·have AbY:(D:Int)<(n:Int):=aP
   have hfin:oQ.txt n ⟨l.drop k,false⟩=([],⟨l.drop k,true⟩):=by
    unfold oQ.txt oQ.take;simp only [Bool.false_eq_true,if_false];rw [if_pos (by rw [hlen];exact hlt)];rfl
   rw [hfin];clear h1 hp hpo hL hpd c0 c1 c2 hfr f1 hD hDI hlen Alj st hfin;go_enter func116,ntmps116;go_wp2_with fail;refine Aa (fun w'=>w'.cell? p=some (.slice ba L bc)/\w'.cell? (aW p 1)=some (k:aV)/\w'.cell? (aW p 2)=some (.bool false)) (fun _=>true) bf hS (fun hHeld => ?_);refine tq 0 (h:=tq 1 (h:=tq 2 (h:=tq 3 (h:=tq 4 (h:=tq 5 (h:=tq 6 (h:=tq 7 (h:=tq 8 (h:=tq 9 (h:=tq 10 (h:=tq 11 (h:=tq 12 (h:=tq 13 (h:=?_))))))))))))));refine tq 14 (h:=tq 15 (h:=tq 16 (h:=tq 17 (h:=tq 18 (h:=tD (h:=?_))))));clear hHeld;go_wp2_with fail;go_ret;exact ⟨_,o,rfl,AcU.out.1,Bytes.nil _ _,AcU.out.2⟩
  ·have AbY:¬ (D:Int)<(n:Int):=aP
   have hnI:(0:Int)<=(n:Int)/\(n:Int)<=1000000:=aP
   have kI:(0:Int)<=(k:Int)/\(k:Int)<=1000000:=aP
   have hw3:IntKind.i64.wrap (n:Int)=(n:Int):=IntWalk.i64_in _ aP;have hw4:IntKind.i64.wrap ((k+n:Nat) - (n:Int):Int)=(k:Int):=by rw [IntWalk.i64_in _ aP];omega
   have hfin:oQ.txt n ⟨l.drop k,false⟩=((l.drop k).take n,⟨l.drop (k+n),false⟩):=by
    unfold oQ.txt oQ.take;simp only [Bool.false_eq_true,if_false];rw [if_neg (by rw [hlen];exact hlt)];simp [List.drop_drop]
   rw [hfin];have hkn:(k:Int)+(n:Int)=((k+n:Nat):Int):=aP
   have hst2:=st.setCell (a:=(aW p 1)) (.int .i64 ((k+n:Nat):Int)) (.inl (by show (o p).1=Z;rw [hpo]));have hp2:=Ai (i:=1) (.int .i64 ((k+n:Nat):Int)) hpd;have h2:=h1.step hst2 n0;obtain ⟨v,hsl,hv⟩:=Ajr h2 k (k+n) aP aP;rw [Nat.add_sub_cancel_left] at hv;have c0':=ag (w:=(w.drew.setCell (aW p 1) (.int .i64 ((k+n:Nat):Int))).drew) hp2 0;have c1':=ag (w:=(w.drew.setCell (aW p 1) (.int .i64 ((k+n:Nat):Int))).drew) hp2 1;simp only [lss,lsz,ax,ay] at c0' c1';have hS2:=aI c0' c1';have hF:=aa3 hst2.drew (hv.step ((aj.refl (ak Z) _ o).drew) n0) (show RdB _ o Z p (.slice ba L bc) l ⟨l.drop (k+n),false⟩ from ⟨h2.step ((aj.refl (ak Z) _ o).drew) n0,k+n,aP,rfl,hp2,hpo⟩);obtain ⟨K,hK⟩:=az (k+n);rw [hK] at hkn hsl hw4 hF hS2 ⊢;have KI:(0:Int)<=(K:Int)/\(K:Int)<=1000000:=aP
   have Abf:=ae hsl;clear h1 hp hpo hL hpd c0 c2 hfr f2 hD hDI hlen Alj st hfin h2 hsl hv hst2 hp2 c0' c1' AcU hn hl hk;go_enter func116,ntmps116;go_wp2_with fail;refine Aa (fun w'=>w'.cell? p=some (.slice ba L bc)/\w'.cell? (aW p 1)=some (k:aV)/\w'.cell? (aW p 2)=some (.bool false)) (fun _=>true) bf hS (fun hHeld => ?_);refine tq 0 (h:=tq 1 (h:=tq 2 (h:=tq 3 (h:=tq 4 (h:=tq 5 (h:=tq 6 (h:=tq 7 (h:=tq 8 (h:=tq 9 (h:=tq 10 (h:=tq 11 (h:=tq 12 (h:=tq 13 (h:=?_))))))))))))));refine tq 14 (h:=tq 15 (h:=tq 16 (h:=tq 17 (h:=tq 18 (h:=tD (h:=?_))))));clear hHeld hS;go_wp2_with fail;refine Aa (fun w'=>w'.cell? p=some (.slice ba L bc)/\w'.cell? (aW p 1)=some (K:aV)) (fun _=>true) bf hS2 (fun hHeld => ?_);refine tq 0 (h:=tq 1 (h:=tq 2 (h:=tq 3 (h:=tq 4 (h:=tq 5 (h:=tq 6 (h:=tq 7 (h:=tq 8 (h:=tq 9 (h:=tq 10 (h:=tq 11 (h:=tq 12 (h:=tq 13 (h:=?_))))))))))))));refine tq 14 (h:=?_);refine Dt (i:=15) (v:=v) rfl bf (fun _ _ _ h=>h) (Or.inl ⟨by rfl,fun w hSw => ?_⟩) (by assumption) ?_
   ·refine AdB _ _ _ _ _ rfl ?_;exact Abf.out _
   simp only [Act.put,lsa,lsz,lss];refine tq 16 (h:=tD (h:=?_));clear hHeld hS2;go_wp2_with fail;go_ret;exact ⟨_,o,rfl,hF.out.1,hF.out.2.1,hF.out.2.2⟩
theorem AdZ (h:Bytes w o bv l) (hl:l.length<=1000000) :
  Calls prog 115 #[bv] w fun e w'=>e = .returned (.int .u64 ((num l).toNat:Int))/\w=w':=by
 obtain ⟨a,c,rfl⟩:=Aq h;have hcell:=ae (fun i (x:UInt8) (hx:l[i]?=some x)=>sH.cell h i (x:=bv x) (by rw [OW,hx];rfl));obtain ⟨N,hN⟩:=az (l.length);have hnH:=ae hN;rw [hN] at hl ⊢;have nI:(0:Int)<=(N:Int)/\(N:Int)<=1000000:=aP
 clear h hN hl;go_enter func115,ntmps115;go_wp2_with fail
 go_loop [3,4] (fun vv iv=>∃ i:Nat,i<=N/\iv = .int .i64 i/\vv = .int .u64 ((num (l.take i)).toNat:Int)) (fun _ i=>N - (intOf i).toNat)
 case atStart=>exact ⟨0,Nat.zero_le _,rfl,by simp [num]⟩
 case round =>
  obtain ⟨i,hi,rfl,rfl⟩:=hrel
  by_cases hlt:i<N
  ·have AbY:(0:Int)<=(i:Int)/\(i:Int)<(N:Int):=aP
   obtain ⟨x,hx⟩:∃ x,l[i]?=some x:=⟨_,List.getElem?_eq_getElem (by rw [hnH.out];exact hlt)⟩;obtain ⟨b,off,rfl,hc, -, -⟩:=hcell.out i x hx;have hst:=AkT (l.take i) x;rw [Int.mul_comm] at hst;rw [show l.take i++[x]=l.take (i+1) by rw [List.take_succ_eq_append_getElem (by rw [hnH.out];exact hlt)];rw [(List.getElem?_eq_some_iff.1 hx).2]] at hst;obtain ⟨V,hV⟩:=az ((num (l.take i)).toNat);rw [hV] at hst ⊢;have vI:(0:Int)<=(V:Int)/\(V:Int)<18446744073709551616:=by have:=(num (l.take i)).isLt;omega
   replace hc:w.cell? (aW b (off+i))=some (.int .u8 (x.toNat:Int)):=hc
   obtain ⟨X,hX⟩:=az (x.toNat);have xI:(0:Int)<=(X:Int)/\(X:Int)<256:=by have:=x.toNat_lt;omega
   rw [hX] at hst hc;have hst:=ae hst;clear hV hx hX;go_wp2_with fail
   go_round
   case rel=>exact ⟨i+1,aP,by go_num,by rw [<-hst.out]⟩
   case measure=>simp [intOf];omega
  ·obtain rfl:N=i:=aP
   have ht:l.take N=l:=List.take_of_length_le (by rw [hnH.out];exact Nat.le_refl _);go_wp2_with fail;go_ret;exact ⟨rfl,rfl⟩
end
theorem oQ.AcE (n:Nat) (m:oQ):(m.num n).1=Go.Proofs.YthmpmgknnibljaaGreat.num (m.txt n).1/\(m.num n).2=(m.txt n).2:=by
 unfold oQ.num oQ.txt
 cases (m.take n).1 with
 | none=>exact ⟨rfl,rfl⟩
 | some x=>exact ⟨rfl,rfl⟩
theorem RdB.len {Z:Nat} {m:oQ} (h:RdB w o Z p bv l m):m.b.length<=l.length:=by
 obtain ⟨-,k, -,hb, -⟩:=h;rw [hb,List.length_drop];omega
section
variable {w:World} {o:Own} {Z p:Nat} {bv:Value} {l:List UInt8} {m:oQ}
theorem Adp (h:RdB w o Z p bv l m) (hZ:Z ≠ 0) (hl:l.length<=1000000) :
  Calls prog 117 #[.pointer p] w (XL (ak Z) w o fun v w' o'=>v = .int .u64 ((m.num 8).1.toNat:Int)/\RdB w' o' Z p bv l (m.num 8).2):=by
 have hc:=ae (Aek h hZ hl 8 aP);have hq:=(oQ.cZ 8 m).2;have hml:=h.len;rw [(oQ.AcE 8 m).1,(oQ.AcE 8 m).2];generalize m.txt 8=q at *;clear h;go_enter func117,ntmps117;go_wp2_with fail;refine hc.out.mono ?_;rintro e w1 ⟨v1,o1,rfl,hs,hb,hr⟩;have hv:=ae (AdZ hb aP);have hF:=aa2 hs hr;clear hs hr hb hc;go_wp2_with fail;refine hv.out.mono ?_;rintro e w2 ⟨rfl,rfl⟩;go_wp2_with fail;go_ret;exact ⟨_,o1,rfl,hF.out.1,rfl,hF.out.2⟩
theorem RdB.Agj (h:RdB w o Z p bv l m):w.cell? (aW p 2)=some (.bool m.bad)/\w.frozen? (aW p 2)=false:=by
 obtain ⟨-,k, -, -,hp, -⟩:=h;exact ⟨ag hp 2,Ap hp 2⟩
theorem RdB.Ank (h:RdB w o Z p bv l m) (hZ:Z ≠ 0):RdB (w.setCell (aW p 2) (.bool true)) o Z p bv l { m with bad:=true }/\aj (ak Z) w o (w.setCell (aW p 2) (.bool true)) o:=by
 obtain ⟨h1,k,h2,h3,hp,hpo⟩:=h;have st:=(aj.refl (ak Z) w o).setCell (a:=(aW p 2)) (.bool true) (.inl (by show (o p).1=Z;rw [hpo]));exact ⟨⟨h1.step st (fun h=>hZ h.symm),k,h2,h3,Ai (i:=2) (.bool true) hp,hpo⟩,st⟩
theorem AcY (h:RdB w o Z p bv l m) (hZ:Z ≠ 0) (hl:l.length<=1000000) :
  Calls prog 118 #[.pointer p, .int .i64 256] w (XL (ak Z) w o fun v w' o'=>v = .int .i64 ((m.count 256).1:Int)/\RdB w' o' Z p bv l (m.count 256).2):=by
 have hc:=ae (Adp h hZ hl);clear h;obtain ⟨R,hR⟩:=az (m.count 256);rw [hR];unfold oQ.count at hR;generalize m.num 8=q at *;obtain ⟨V,hV⟩:=az (q.1.toNat);rw [hV] at hc hR
 by_cases hb:256<V
 ·have hbI:(256:Int)<(V:Int):=aP
  rw [if_pos hb] at hR;have hRH:=ae hR;clear hb hR hV;go_enter func118,ntmps118;go_wp2_with fail;refine hc.out.mono ?_;rintro e w1 ⟨v1,o1,rfl,hs,rfl,hr⟩;obtain ⟨c2,f2⟩:=hr.Agj;obtain ⟨hr2,hs2⟩:=hr.Ank hZ;have hF:=aa2 (hs.trans hs2) hr2;clear hs hr hr2 hs2 hc;go_wp2_with fail;go_ret;exact ⟨_,o1,rfl,hF.out.1,by rw [<-hRH.out];rfl,by rw [<-hRH.out];exact hF.out.2⟩
 ·have hbI:¬ (256:Int)<(V:Int):=aP
  have vI:(0:Int)<=(V:Int)/\(V:Int)<=256:=aP
  rw [if_neg hb] at hR;have hRH:=ae hR;clear hb hR hV;go_enter func118,ntmps118;go_wp2_with fail;refine hc.out.mono ?_;rintro e w1 ⟨v1,o1,rfl,hs,rfl,hr⟩;have hF:=aa2 hs hr;clear hs hr hc;go_wp2_with fail;go_ret;exact ⟨_,o1,rfl,hF.out.1,by rw [<-hRH.out];rfl,by rw [<-hRH.out];exact hF.out.2⟩
theorem Afg (h:RdB w o Z p bv l m) (hZ:Z ≠ 0) (hl:l.length<=1000000) :
  Calls prog 119 #[.pointer p] w (XL (ak Z) w o fun v w' o'=>Bytes w' o' v m.text.1/\RdB w' o' Z p bv l m.text.2):=by
 have hc:=ae (Aek h hZ hl 4 aP);have hq:=(oQ.cZ 4 m).2;have hml:=h.len;unfold oQ.text;rw [(oQ.AcE 4 m).1,(oQ.AcE 4 m).2];generalize m.txt 4=q at *;obtain ⟨n,hn⟩:=az ((num q.1).toNat);rw [hn];have hnH:=aa2 hn (show n<18446744073709551616 by rw [<-hn];exact (num q.1).isLt);clear h hn;go_enter func119,ntmps119;go_wp2_with fail;refine hc.out.mono ?_;rintro e w1 ⟨v1,o1,rfl,hs,hb,hr⟩;have hv:=AdZ hb aP;rw [hnH.out.1] at hv;have hv:=ae hv;obtain ⟨c2,f2⟩:=hr.Agj;have hF:=aa2 hs hr;have ht:=ae (Aek hr hZ hl n hnH.out.2)
 cases hbad:q.2.bad with
 | true =>
  have hfin:=ae (show q.2.txt n=([],q.2) by unfold oQ.txt oQ.take;rw [hbad];rfl);rw [hbad] at c2;clear hs hr hb hc hbad ht hq hml hZ;go_wp2_with fail;refine hv.out.mono ?_;rintro e w2 ⟨rfl,rfl⟩;go_wp2_with fail;go_ret;exact ⟨_,o1,rfl,hF.out.1,by rw [hfin.out];exact Bytes.nil _ _,by rw [hfin.out];exact hF.out.2⟩
 | false =>
  rw [hbad] at c2;clear hr hb hc hbad hq hml hZ hF;have hs:=ae hs;go_wp2_with fail;refine hv.out.mono ?_;rintro e w2 ⟨rfl,rfl⟩;go_wp2_with fail;refine ht.out.mono ?_;rintro e w3 ⟨v3,o3,rfl,hs3,hb3,hr3⟩;have hF:=aa3 (hs.out.trans hs3) hb3 hr3;obtain ⟨xa,xc,rfl⟩:=Aq hb3;clear hs3 hb3 hr3 ht;go_wp2_with fail;go_ret;exact ⟨_,o3,rfl,hF.out.1,hF.out.2.1,hF.out.2.2⟩
theorem AfJ (h:RdB w o Z p bv l m) (hl:l.length<=1000000) :
  Calls prog 120 #[.pointer p] w (XL ai w o fun v _ _=>v = .bool (m.done == 0)):=by
 obtain ⟨h1,k,hk,hb,hp, -⟩:=h;obtain ⟨ba,bc,rfl⟩:=Aq h1;have hpd:w.drew.heap[p]?=_:=hp;have c0:=ag hpd 0;have c1:=ag hpd 1;have c2:=ag hpd 2;simp only [ax,ay] at c0 c1 c2;have hS:=aI c0 (aI c1 c2);obtain ⟨L,hL⟩:=az (l.length);have hml:m.b.length=L - k:=by rw [hb,List.length_drop,hL]
 rw [hL] at hS hk hl;have kI:(0:Int)<=(k:Int)/\(k:Int)<=1000000:=aP
 obtain ⟨mb,bad⟩:=m;simp only at hb hml hS;clear h1 hp hpd c0 c1 c2 hL hb
 cases bad with
 | true =>
  clear hml;go_enter func120,ntmps120;go_wp2_with fail;refine Aa (fun w'=>w'.cell? p=some (.slice ba L bc)/\w'.cell? (aW p 1)=some (k:aV)/\w'.cell? (aW p 2)=some (.bool true)) (fun _=>true) bf hS (fun hHeld => ?_);refine tq 0 (h:=tq 1 (h:=tq 2 (h:=tq 3 (h:=tq 4 (h:=tq 5 (h:=ts 6 (h:=ts 7 (h:=ts 8 (h:=ts 9 (h:=ts 10 (h:=ts 11 (h:=ts 12 (h:=ts 13 (h:=?_))))))))))))));refine ts 14 (h:=ts 15 (h:=tq 16 (h:=tO 17 (h:=?_))));go_wp2_with fail;refine ⟨fun _=>hHeld, ?_⟩;refine tD (h:=?_);clear hHeld hS;go_wp2_with fail;go_ret;exact ⟨_,o,rfl,(aj.refl _ _ _).drew,rfl⟩
 | false =>
  have hfin:(oQ.done ⟨mb,false⟩ == 0)=((k:Int) == (L:Int)):=by
   unfold oQ.done;simp only [Bool.false_or]
   by_cases he:k=L
   ·rw [hml];simp [he]
   ·have h2:0<mb.length:=aP
    have h3:((k:Int) == (L:Int))=false:=by simp;omega
    rw [h3];simp [h2]
  have hfin:=ae hfin;clear hml;go_enter func120,ntmps120;go_wp2_with fail;refine Aa (fun w'=>w'.cell? p=some (.slice ba L bc)/\w'.cell? (aW p 1)=some (k:aV)/\w'.cell? (aW p 2)=some (.bool false)) (fun _=>true) bf hS (fun hHeld => ?_);refine tq 0 (h:=tq 1 (h:=tq 2 (h:=tq 3 (h:=tq 4 (h:=tq 5 (h:=tq 6 (h:=tq 7 (h:=tq 8 (h:=tq 9 (h:=tq 10 (h:=tq 11 (h:=tq 12 (h:=tq 13 (h:=?_))))))))))))));refine tq 14 (h:=tq 15 (h:=tq 16 (h:=tO 17 (h:=?_))));go_wp2_with fail;refine ⟨fun _=>hHeld, ?_⟩;refine tD (h:=?_);clear hHeld hS;go_wp2_with fail;go_ret;exact ⟨_,o,rfl,(aj.refl _ _ _).drew,by rw [hfin.out];rfl⟩
end
theorem AgR (h:Bytes w o bv l) (h2:l.length<=1000000) (g:Nat) :
  ∃ v w' o',(Builtin.append_ #[23,23] 23 #[.slice g 0 0,bv]).run prog w = .ok v w'/\aj ai w o w' o'/\Bytes w' o' v l:=by
 by_cases h1:1<=l.length
 ·exact AeR h h1 h2 g
 ·obtain ⟨a,c,rfl⟩:=Aq h;obtain rfl:l=[]:=List.eq_nil_of_length_eq_zero aP;exact ⟨_,w,o,CB (P:=prog) w 23 23 5 1 underlying23 bf (some ⟨g,0,none⟩) a 0 0 c (Nat.le_refl _) aP,aj.refl _ _ _, .inl ⟨⟨_,_,rfl⟩,rfl,rfl⟩⟩
theorem oQ.Ahs (n:Nat) {m:oQ} (h:m.bad=true):(m.txt n).2.bad=true:=by
 unfold oQ.txt oQ.take;rw [h];exact h
theorem AgK {m:oQ} {k:Nat} (h:(Ce k m).2.bad=true):∀ j,(Ce (k+j) m).2.bad=true
 | 0=>h
 | j+1=>by
  have ih:=AgK h j;show ((((Ce (k+j) m).2.num 8).2.num 4).2.txt _).2.bad=true;refine oQ.Ahs _ ?_;rw [(oQ.AcE 4 _).2];refine oQ.Ahs _ ?_;rw [(oQ.AcE 8 _).2];exact oQ.Ahs _ ih
theorem AfN:∀ {ls:List Ar} {x:Ar},x ∈ ls->x.b.length<=AP ls
 | y :: r,x,h=>by
  have e:AP (y :: r)=y.b.length+AP r:=by simp [AP]
  rcases List.mem_cons.1 h with rfl | h
  ·omega
  ·have:=AfN h;omega
theorem Ani (m:oQ):m.text.1.length<=m.b.length:=by
 unfold oQ.text;rw [(oQ.AcE 4 m).2];exact Nat.le_trans (oQ.cZ _ _).2 (oQ.cZ 4 m).1
def Acl (w0:World) (o0:Own) (M r mb sb:Nat) (bv:Value) (l:List UInt8) (W:World) (O:Own) (cs:List Value) (m:oQ):Prop:=
 aj (EN M) w0 o0 W O/\(W.heap[r]?=some (.cells DI.toArray 46 (0,0))/\(O r).1=M+3/\w0.heap.size<=r)/\(W.heap[mb]?=some (.cells cs.toArray 46 (0,0))/\(O mb).1=M+2)/\RdB W O (M+1) sb bv l m
section
variable {w0 W W':World} {o0 O O':Own} {M r mb sb:Nat} {bv:Value} {l:List UInt8} {cs:List Value} {m m':oQ}
theorem Acl.rd (h:Acl w0 o0 M r mb sb bv l W O cs m):RdB W O (M+1) sb bv l m:=h.2.2.2
theorem Acl.c (h:Acl w0 o0 M r mb sb bv l W O cs m) (i:Nat):W.cell? (aW mb i)=cs[i]?:=ag h.2.2.1.1 i
theorem Acl.f (h:Acl w0 o0 M r mb sb bv l W O cs m) (i:Nat):W.frozen? (aW mb i)=false:=Ap h.2.2.1.1 i
theorem Acl.step {T:Nat->Prop} (h:Acl w0 o0 M r mb sb bv l W O cs m) (s:aj T W O W' O') (hT:∀ t,T t->M+3<t):Acl w0 o0 M r mb sb bv l W' O' cs m:=by
 obtain ⟨h1,⟨h2,h3,h4⟩,⟨h5,h6⟩,h7⟩:=h;have n:∀ t,t<=M+3->¬ T t:=fun t ht h=>by have:=hT t h;omega
 exact ⟨h1.trans (s.mono fun t h=>by have:=hT t h;unfold EN;omega),⟨(s.block r (au h2) (by rw [h3];exact n _ aP)).trans h2,(congrArg Prod.fst (s.own r (au h2))).trans h3,h4⟩,⟨(s.block mb (au h5) (by rw [h6];exact n _ aP)).trans h5,(congrArg Prod.fst (s.own mb (au h5))).trans h6⟩,h7.step s (n _ aP) (n _ aP)⟩
theorem Acl.step0 (h:Acl w0 o0 M r mb sb bv l W O cs m) (s:aj ai W O W' O'):Acl w0 o0 M r mb sb bv l W' O' cs m:=h.step s fun _ h=>h.elim
theorem Acl.read (h:Acl w0 o0 M r mb sb bv l W O cs m) (s:aj (ak (M+1)) W O W' O') (hr:RdB W' O' (M+1) sb bv l m'):Acl w0 o0 M r mb sb bv l W' O' cs m':=by
 obtain ⟨h1,⟨h2,h3,h4⟩,⟨h5,h6⟩, -⟩:=h;exact ⟨h1.trans (s.mono fun t h=>by unfold ak at h;unfold EN;omega),⟨(s.block r (au h2) (by rw [h3];unfold ak;omega)).trans h2,(congrArg Prod.fst (s.own r (au h2))).trans h3,h4⟩,⟨(s.block mb (au h5) (by rw [h6];unfold ak;omega)).trans h5,(congrArg Prod.fst (s.own mb (au h5))).trans h6⟩,hr⟩
theorem Acl.set (h:Acl w0 o0 M r mb sb bv l W O cs m) (i:Nat) (v:Value):Acl w0 o0 M r mb sb bv l (W.setCell (aW mb i) v) O (cs.set i v) m/\aj (ak (M+2)) W O (W.setCell (aW mb i) v) O:=by
 obtain ⟨h1,⟨h2,h3,h4⟩,⟨h5,h6⟩,h7⟩:=h;have s:=(aj.refl (ak (M+2)) W O).setCell (a:=(aW mb i)) v (.inl h6);exact ⟨⟨h1.trans (s.mono fun t h=>by unfold ak at h;unfold EN;omega),⟨(s.block r (au h2) (by rw [h3];unfold ak;omega)).trans h2,h3,h4⟩,⟨Ai (i:=i) v h5,h6⟩,h7.step s (by unfold ak;omega) (by unfold ak;omega)⟩,s⟩
end
theorem Acl.AcL {w0:World} {o0:Own} {M r mb sb:Nat} {cs:List Value} {m:oQ} (h:Acl w0 o0 M r mb sb bv l W O cs m) (hM:∀ k,k<w0.heap.size->(o0 k).1<=M):Acl w0 o0 M r mb sb bv l W (AcL (M+4) O) cs m:=by
 obtain ⟨h1,⟨h2,h3,h4⟩,⟨h5,h6⟩,h7,k,h8,h9,h10,h11⟩:=h;have ne:∀ b,(O b).1 ≠ M+4->Go.Proofs.YthmpmgknnibljaaGreat.AcL (M+4) O b=O b:=fun b hb=>by unfold Go.Proofs.YthmpmgknnibljaaGreat.AcL;rw [if_neg hb]
 exact ⟨h1.Me _ (fun k hk=>(ne k (by rw [h1.own k hk];have:=hM k hk;omega)).trans (h1.own k hk)),⟨h2,by rw [ne r (by rw [h3];omega)];exact h3,h4⟩,⟨h5,by rw [ne mb (by rw [h6];omega)];exact h6⟩,h7.AfI (fun b _ hb=>AfB hb),k,h8,h9,h10,by rw [ne sb (by rw [h11];simp)];exact h11⟩
theorem Acl.put {w0:World} {o0:Own} {M r mb sb:Nat} {cs:List Value} {m:oQ} (h:Acl w0 o0 M r mb sb bv l W O cs m) (hM:∀ k,k<w0.heap.size->(o0 k).1<=M) (vs:List Value) (h6:vs.length=6) (h1:vs.all (·.oneCell')=true) :
  ∃ W2,(Instr.storeAt 46 (.pointer r) (.agg vs.toArray)).run prog W = .ok () W2/\W2.heap[r]?=some (.cells vs.toArray 46 (0,0))/\aj ai w0 o0 W2 O/\aj (ak (M+3)) W O W2 O:=by
 obtain ⟨a1,⟨a2,a3,a4⟩, -, -⟩:=h;obtain ⟨g1,g2⟩:=Ba (P:=prog) (ty:=46) (vs:=vs) a2 (by rw [h6];rfl) (by rw [h6];exact FT) h1;exact ⟨_,g1,g2,(a1.Hm hM).setCells r 0 _ (.inr a4),(aj.refl _ W O).setCells r 0 _ (.inl a3)⟩
theorem AkR (h:Bytes w o v l) (hl:l.length<=1000000) :
  Calls prog 61 #[v] w (XL ai w o fun r w' o'=>iL 0 (Jn l) r w' o'):=by
 obtain ⟨M, -,hM⟩:=EZ o 0 w.heap.size;have hge:Jn l=if (QN l).2.done=0 then if TE (QN l).1=true then some (QN l).1 else none else none:=rfl
 have hR:QN l=(⟨((oQ.mk l false).num 1).1.toNat % 256,(((oQ.mk l false).num 1).2.num 8).1,((((oQ.mk l false).num 1).2.num 8).2.num 8).1,(((((oQ.mk l false).num 1).2.num 8).2.num 8).2.count 256).1,((((((oQ.mk l false).num 1).2.num 8).2.num 8).2.count 256).2.count 256).1,((((((oQ.mk l false).num 1).2.num 8).2.num 8).2.count 256).2.count 256).2.lines.1⟩,((((((oQ.mk l false).num 1).2.num 8).2.num 8).2.count 256).2.count 256).2.lines.2):=rfl;obtain ⟨q0,h0⟩:=az ((oQ.mk l false).num 1);rw [h0] at hR;obtain ⟨q1,h1⟩:=az (q0.2.num 8);rw [h1] at hR;obtain ⟨q2,h2⟩:=az (q1.2.num 8);rw [h2] at hR;obtain ⟨q3,h3⟩:=az (q2.2.count 256);rw [h3] at hR;obtain ⟨q4,h4⟩:=az (q3.2.count 256);rw [h4] at hR;have l5:=oQ.IW 256 q4.2;have hln:q4.2.lines=Ce (q4.2.count 256).1 (q4.2.count 256).2:=rfl;obtain ⟨q5,h5⟩:=az (q4.2.count 256);rw [h5] at hln l5;rw [hln] at hR;obtain ⟨kb,hkb⟩:=az (q0.1.toNat % 256);rw [hkb] at hR;obtain ⟨N,hN⟩:=az (q5.1);rw [hN] at hR l5;have hNI:(0:Int)<=(N:Int)/\(N:Int)<=256:=aP
 obtain ⟨MM,hMM⟩:∃ f:List Ar->BG,∀ ls,f ls=⟨kb,q1.1,q2.1,q3.1,q4.1,ls⟩:=⟨_,fun _=>rfl⟩;have hmr:QN l=(MM (Ce N q5.2).1,(Ce N q5.2).2):=by rw [hR,hMM]
 rw [hmr] at hge;obtain ⟨G,hG⟩:=az (Jn l);rw [hG] at hge ⊢;have hgH:=ae hge;have hkI:(q0.1.toNat:Int) % 256=(kb:Int):=by rw [<-hkb];omega
 obtain ⟨va,vc,rfl⟩:=Aq h;obtain ⟨r,W0,o0,AvG,hs0,hz0,Ate,AuY⟩:=AgV (M+3) w o;obtain ⟨mb,W1,o1,AvE,hs1,hz1,Atd,AzG⟩:=AgV (M+2) W0 o0;have st2:=(aj.refl ai W1 o1).alloc (.cells [Value.slice va l.length vc, .int .i64 0, .bool false].toArray 172) (M+1,0);have hb2:=heap_alloc_new W1 (.cells [Value.slice va l.length vc, .int .i64 0, .bool false].toArray 172);have ho2:=Au o1 W1.heap.size (M+1,0);have hbx:(Instr.box 172 (.agg #[.slice va l.length vc, .int .i64 0, .bool false])).run prog W1 = .ok (.pointer W1.heap.size) (W1.alloc (.cells [Value.slice va l.length vc, .int .i64 0, .bool false].toArray 172)):=bf
 have hab:∀ {a b:World} {p q:Own},aj ai a p b q->aj (EN M) a p b q:=fun s=>s.mono fun _ h=>h.elim;have AeZ:Acl w o M r mb W1.heap.size (.slice va l.length vc) l (W1.alloc (.cells [Value.slice va l.length vc, .int .i64 0, .bool false].toArray 172)) (Ak o1 W1.heap.size (M+1,0)) DI ⟨l,false⟩:=
  ⟨((hab hs0).trans (hab hs1)).trans (hab st2),⟨((hs1.trans st2).block r (au hz0) id).trans hz0,(congrArg Prod.fst ((hs1.trans st2).own r (au hz0))).trans Ate,AuY⟩,⟨(st2.block mb (au hz1) id).trans hz1,(congrArg Prod.fst (st2.own mb (au hz1))).trans Atd⟩,((h.step hs0 id).step hs1 id).step st2 id,0,Nat.zero_le _,rfl,hb2,ho2⟩
 obtain ⟨W2,hW2⟩:=az (W1.alloc (.cells [Value.slice va l.length vc, .int .i64 0, .bool false].toArray 172));obtain ⟨sb,hsb⟩:=az (W1.heap.size);rw [hW2,hsb] at hbx;rw [hW2,hsb] at AeZ;generalize Ak o1 sb (M+1,0)=o2 at AeZ;have hE:=aa7 h0 h1 h2 h3 h4 h5 hN;have hMH:=aa3 hM hMM hl;have AvF:=ae AvG;have AvD:=ae AvE;have xH:=ae hbx;have hg:=ae AeZ;have nz:M+1 ≠ 0:=aP
 clear hge AeZ hM hG hR hln hmr hMM l5 h0 h1 h2 h3 h4 h5 hN hkb AvG hs0 hz0 Ate AuY AvE hs1 hz1 Atd AzG st2 hb2 ho2 hbx hab hW2 hsb h hl;go_enter func61,ntmps61
 go_wp2_with (first
  | ((with_reducible apply AU);(first | exact AvF.out | exact AvD.out);simp only [Act.put,lsa,lsz,lss])
  | ((with_reducible apply BM);exact xH.out;simp only [Act.put,lsa,lsz,lss]))
 refine (Aek hg.out.rd nz hMH.out.2.2 1 aP).mono ?_;rintro e w3 ⟨v3,o3,rfl,hs,hb,hr⟩;rw [<-(oQ.AcE 1 _).2,hE.out.1] at hr;have hv:=AdZ hb (Nat.le_trans (oQ.cZ 1 _).2 hMH.out.2.2);rw [<-(oQ.AcE 1 _).1,hE.out.1] at hv;have hv:=ae hv;have hg1:=hg.out.read hs hr;have hg:=ae (hg1.set 0 (.int .u8 (kb:Int))).1;have c0:=hg1.c 0;have f0:=hg1.f 0;simp only [DI,ay] at c0;clear hs hb hr hg1;go_wp2_with fail;refine hv.out.mono ?_;rintro e w' ⟨rfl,rfl⟩;go_wp2_with fail;refine (Adp hg.out.rd nz hMH.out.2.2).mono ?_;rintro e w5 ⟨v5,o5,rfl,hs,hv,hr⟩;rw [hE.out.2.1] at hv hr;subst hv;have hg1:=hg.out.read hs hr;have hg:=ae (hg1.set 1 (.int .u64 (q1.1.toNat:Int))).1;have c0:=hg1.c 1;have f0:=hg1.f 1;simp only [DI,lsz,ax,ay] at c0;clear hs hr hg1;go_wp2_with fail;refine (Adp hg.out.rd nz hMH.out.2.2).mono ?_;rintro e w6 ⟨v6,o6,rfl,hs,hv,hr⟩;rw [hE.out.2.2.1] at hv hr;subst hv;have hg1:=hg.out.read hs hr;have hg:=ae (hg1.set 2 (.int .u64 (q2.1.toNat:Int))).1;have c0:=hg1.c 2;have f0:=hg1.f 2;simp only [DI,lss,lsz,ax,ay] at c0;clear hs hr hg1;go_wp2_with fail;refine (AcY hg.out.rd nz hMH.out.2.2).mono ?_;rintro e w7 ⟨v7,o7,rfl,hs,hv,hr⟩;rw [hE.out.2.2.2.1] at hv hr;subst hv;have hg1:=hg.out.read hs hr;have hg:=ae (hg1.set 3 (.int .i64 (q3.1:Int))).1;have c0:=hg1.c 3;have f0:=hg1.f 3;simp only [DI,lss,lsz,ax,ay] at c0;clear hs hr hg1;go_wp2_with fail;refine (AcY hg.out.rd nz hMH.out.2.2).mono ?_;rintro e w8 ⟨v8,o8,rfl,hs,hv,hr⟩;rw [hE.out.2.2.2.2.1] at hv hr;subst hv;have hg1:=hg.out.read hs hr;have hg:=ae (hg1.set 4 (.int .i64 (q4.1:Int))).1;have c0:=hg1.c 4;have f0:=hg1.f 4;simp only [DI,lss,lsz,ax,ay] at c0;clear hs hr hg1;go_wp2_with fail;refine (AcY hg.out.rd nz hMH.out.2.2).mono ?_;rintro e w9 ⟨v9,o9,rfl,hs,hv,hr⟩;rw [hE.out.2.2.2.2.2.1] at hv hr;rw [hE.out.2.2.2.2.2.2] at hv;subst hv;have hg1:=hg.out.read hs hr;have hg:=ae hg1;clear hs hr hg1;go_wp2_with fail;have hg0:=ae (show Acl w o M r mb sb (.slice va l.length vc) l w9 o9 (Bf (MM []) (.slice none 0 0)) q5.2 by rw [hMH.out.2.1];exact hg.out);clear hg hv c0 f0
 go_loopw [7] (fun i wr=>∃ (k:Nat) (oj:Own) (lv:Value),k<=N/\i = .int .i64 k/\Acl w o M r mb sb (.slice va l.length vc) l wr oj (Bf (MM (Ce k q5.2).1) lv) (Ce k q5.2).2/\Gh wr oj 0 (M+4,0) lv (Ce k q5.2).1) (fun i _=>N - (intOf i).toNat)
 case atStart=>exact ⟨0,o9, .slice none 0 0,Nat.zero_le _,rfl,hg0.out,Gh.nil _ _ _ _⟩
 case round =>
  clear hg0;obtain ⟨k,oj,lv,hk,rfl,hgs,hrow⟩:=hrel;have hkl:=(NG k q5.2).2;obtain ⟨c2,f2⟩:=hgs.rd.Agj;have hsn:Ce (k+1) q5.2=((Ce k q5.2).1++[⟨((Ce k q5.2).2.num 8).1,((Ce k q5.2).2.num 8).2.text.1⟩],((Ce k q5.2).2.num 8).2.text.2):=rfl
  by_cases hlt:k<N
  ·have AbY:(0:Int)<=(k:Int)/\(k:Int)<(N:Int):=aP
   cases hbad:(Ce k q5.2).2.bad with
   | false =>
    rw [hbad] at c2;have hu:=ae (Adp hgs.rd nz hMH.out.2.2);obtain ⟨q,hq⟩:=az ((Ce k q5.2).2.num 8);obtain ⟨tqv,htq⟩:=az (q.2.text);rw [hq,htq] at hsn;rw [hq] at hu;obtain ⟨ra,rc,hlv⟩:=hrow.form;rw [hkl] at hlv;subst hlv;have Avc:=aa2 hgs hrow;have uZ:=ae hsn;have AnF:=ae htq;have wZ:=ae hkl;clear hgs hrow hsn hq htq hkl hbad f2;go_wp2_with fail;refine hu.out.mono ?_;rintro e w2 ⟨v2,o2,rfl,hs2,rfl,hr2⟩;have hg2:=Avc.out.1.read hs2 hr2;have hw2:=Avc.out.2.step hs2 (by unfold ak;omega) (by unfold ak;omega);have hd2:aj ai w2 o2 w2.drew o2:=(aj.refl ai w2 o2).drew;have hB0:=aa2 (hg2.step0 hd2) (hw2.step hd2 id id);have hS:w2.drew.cell? ⟨mb,5,none⟩=some (.slice ra k rc):=(hg2.step0 hd2).c 5;clear hs2 hr2 hg2 hw2 hd2 hu c2;go_wp2_with fail;refine Aa (fun w'=>w'.cell? (aW mb 5)=some (.slice ra k rc)) (fun i=>decide (i<11)) bf hS (fun hHeld => ?_);obtain ⟨U,hU⟩:=az (w2.drew);rw [hU] at hHeld hB0 ⊢;clear hU hS;refine tq 0 (h:=tq 1 (h:=tq 2 (h:=tq 4 (h:=?_))));have hLt:=ae (show q.2.text.1.length<=1000000 from Nat.le_trans (Ani q.2) (by have:=hB0.out.1.rd.len;have:=hMH.out.2.2;omega));refine Gm (i:=3) (j:=5) rfl rfl bf ?_ ?_
    ·have hB:=hB0;obtain ⟨g,C0,e0,hrn,hs⟩:=AdD U o2;have hB:=aa2 (hB.out.1.step0 hs) (hB.out.2.step hs id id);refine BO #[] rfl hrn (wpList_nil ?_);simp only [Act.put,lsa,lsz,lss];refine ⟨fun _=>hB.out.1.c 5, ?_⟩;refine tO 5 (h:=?_);have ht:=ae (Afg hB.out.1.rd nz hMH.out.2.2);clear hHeld;go_wp2_with fail;refine ht.out.mono ?_;rintro e C1 ⟨vt,e1,rfl,hs,hbt,hr⟩;rw [AnF.out] at hbt hr;have hB:=aa2 (hB.out.1.read hs hr) (hB.out.2.step hs (by unfold ak;omega) (by unfold ak;omega));have Aih:=ae hbt;obtain ⟨ya,yc,rfl⟩:=Aq hbt;clear hs hbt hr ht;go_wp2_with fail;refine ⟨fun _=>hB.out.1.c 5, ?_⟩;have hbt:=Aih.out;refine tO 6 (h:=?_);obtain ⟨v,C2,e2,hrn,hs,hb⟩:=AgR hbt (by rw [<-AnF.out];exact hLt.out) g;have hB:=aa2 (hB.out.1.step0 hs) (hB.out.2.step hs id id);obtain ⟨xa,xc,rfl⟩:=Aq hb;refine Bl hrn (wpList_nil ?_);simp only [Act.put,lsa,lsz,lss];have hS0:=hB.out.1.c 5;refine ⟨fun _=>hS0, ?_⟩;refine tq 7 (h:=tO 8 (h:=?_));obtain ⟨C3,e3,u,hrn,hs,hl⟩:=Adb (e:=q.1) hb;have hB:=aa2 (hB.out.1.step0 hs) (hB.out.2.step hs id id);refine BO #[(0, .agg #[(q.1:aV), .slice xa tqv.1.length xc])] rfl hrn (wpList_nil ?_);simp only [Act.put,lsa,lsz,lss];refine ⟨fun _=>hB.out.1.c 5, ?_⟩;refine tO 9 (h:=?_);obtain ⟨nv,C4,e4,hrn,hw,hs⟩:=hB.out.2.AcV aP hl (by rw [wZ.out,List.length_singleton];omega);have hg4:=hB.out.1.step hs (fun t h=>by unfold ak at h;omega);obtain ⟨na,nc,rfl⟩:=hw.form;refine Bl hrn (wpList_nil ?_);simp only [Act.put,lsa,lsz,lss];have hS0:=hg4.c 5;refine ⟨fun _=>hS0, ?_⟩;refine tq 10 (h:=tO 11 (h:=?_));obtain ⟨NL,hNL⟩:=az (((Ce k q5.2).1++[(⟨q.1,tqv.1⟩:Ar)]).length);rw [hNL] at hw ⊢;have c5:=hg4.c 5;have f5:=hg4.f 5;obtain ⟨hg5,hs5⟩:=hg4.set 5 (.slice na NL nc);have hF:=aa2 (show Acl w o M r mb sb (.slice va l.length vc) l (C4.setCell (aW mb 5) (.slice na NL nc)) e4 (Bf (MM (Ce (k+1) q5.2).1) (.slice na NL nc)) (Ce (k+1) q5.2).2 by rw [uZ.out];rw [hMH.out.2.1] at hg5 ⊢;exact hg5) (show Gh _ _ 0 (M+4,0) (.slice na NL nc) (Ce (k+1) q5.2).1 by rw [uZ.out];exact hw.step hs5 (by unfold ak;omega) (by unfold ak;omega));simp only [Bf,ax,ay] at c5;clear hg5 hs5 hg4 hw hs hrn hl hb hS0 hNL;go_wp2_with fail;refine ⟨fun h=>by simp at h, ?_⟩;refine tD (h:=?_);go_wp2_with fail;go_roundw
     case rel=>exact ⟨k+1,e4,_,aP,by go_num,hF.out.1,hF.out.2⟩
     case measure=>simp [intOf];omega
    ·have hB:=hB0;have ht:=ae (Afg hB.out.1.rd nz hMH.out.2.2);clear hHeld;go_wp2_with fail;refine ht.out.mono ?_;rintro e C1 ⟨vt,e1,rfl,hs,hbt,hr⟩;rw [AnF.out] at hbt hr;have hB:=aa2 (hB.out.1.read hs hr) (hB.out.2.step hs (by unfold ak;omega) (by unfold ak;omega));have Aih:=ae hbt;obtain ⟨ya,yc,rfl⟩:=Aq hbt;clear hs hbt hr ht;go_wp2_with fail;refine ⟨fun _=>hB.out.1.c 5, ?_⟩;refine tO 3 (h:=?_);obtain ⟨g,C0,e0,hrn,hs⟩:=AdD C1 e1;have hB:=aa2 (hB.out.1.step0 hs) (hB.out.2.step hs id id);refine BO #[] rfl hrn (wpList_nil ?_);simp only [Act.put,lsa,lsz,lss];refine ⟨fun _=>hB.out.1.c 5, ?_⟩;have hbt:=Aih.out.step hs id;refine tO 6 (h:=?_);obtain ⟨v,C2,e2,hrn,hs,hb⟩:=AgR hbt (by rw [<-AnF.out];exact hLt.out) g;have hB:=aa2 (hB.out.1.step0 hs) (hB.out.2.step hs id id);obtain ⟨xa,xc,rfl⟩:=Aq hb;refine Bl hrn (wpList_nil ?_);simp only [Act.put,lsa,lsz,lss];have hS0:=hB.out.1.c 5;refine ⟨fun _=>hS0, ?_⟩;refine tq 7 (h:=tO 8 (h:=?_));obtain ⟨C3,e3,u,hrn,hs,hl⟩:=Adb (e:=q.1) hb;have hB:=aa2 (hB.out.1.step0 hs) (hB.out.2.step hs id id);refine BO #[(0, .agg #[(q.1:aV), .slice xa tqv.1.length xc])] rfl hrn (wpList_nil ?_);simp only [Act.put,lsa,lsz,lss];refine ⟨fun _=>hB.out.1.c 5, ?_⟩;refine tO 9 (h:=?_);obtain ⟨nv,C4,e4,hrn,hw,hs⟩:=hB.out.2.AcV aP hl (by rw [wZ.out,List.length_singleton];omega);have hg4:=hB.out.1.step hs (fun t h=>by unfold ak at h;omega);obtain ⟨na,nc,rfl⟩:=hw.form;refine Bl hrn (wpList_nil ?_);simp only [Act.put,lsa,lsz,lss];have hS0:=hg4.c 5;refine ⟨fun _=>hS0, ?_⟩;refine tq 10 (h:=tO 11 (h:=?_));obtain ⟨NL,hNL⟩:=az (((Ce k q5.2).1++[(⟨q.1,tqv.1⟩:Ar)]).length);rw [hNL] at hw ⊢;have c5:=hg4.c 5;have f5:=hg4.f 5;obtain ⟨hg5,hs5⟩:=hg4.set 5 (.slice na NL nc);have hF:=aa2 (show Acl w o M r mb sb (.slice va l.length vc) l (C4.setCell (aW mb 5) (.slice na NL nc)) e4 (Bf (MM (Ce (k+1) q5.2).1) (.slice na NL nc)) (Ce (k+1) q5.2).2 by rw [uZ.out];rw [hMH.out.2.1] at hg5 ⊢;exact hg5) (show Gh _ _ 0 (M+4,0) (.slice na NL nc) (Ce (k+1) q5.2).1 by rw [uZ.out];exact hw.step hs5 (by unfold ak;omega) (by unfold ak;omega));simp only [Bf,ax,ay] at c5;clear hg5 hs5 hg4 hw hs hrn hl hb hS0 hNL;go_wp2_with fail;refine ⟨fun h=>by simp at h, ?_⟩;refine tD (h:=?_);go_wp2_with fail;go_roundw
     case rel=>exact ⟨k+1,e4,_,aP,by go_num,hF.out.1,hF.out.2⟩
     case measure=>simp [intOf];omega
   | true =>
    rw [hbad] at c2;have hbN:=AgK hbad (N - k);rw [show k+(N - k)=N by omega] at hbN;have hnone:=ae (show G=none by
     rw [hgH.out,if_neg];unfold oQ.done;rw [hbN];simp)
    have hd:=AfJ hgs.rd hMH.out.2.2;rw [show (Ce k q5.2).2.done=2 by unfold oQ.done;rw [hbad];rfl] at hd;have hdH:=ae hd;have hgs:=ae hgs;clear hrow hkl hsn hbad hbN hd f2;go_wp2_with fail;refine hdH.out.mono ?_;rintro e w3 ⟨v3,o3,rfl,hs3,rfl⟩;have hG3:=hgs.out.step0 hs3;clear hs3;obtain ⟨W6,hst,hbl,hsF, -⟩:=hG3.put hMH.out.1 DI rfl rfl;have Abe:=ae (show (Instr.storeAt 46 (.pointer r) (.agg #[.int .u8 0, .int .u64 0, .int .u64 0, .int .i64 0, .int .i64 0, .slice none 0 0])).run prog w3 = .ok () W6 from hst);have hF:=aa2 hbl hsF;clear hG3 hst hbl hsF
    go_wp2_with ((with_reducible apply AC);exact Abe.out;simp only [Act.put])
    refine bodyPost_ret (Eg rfl _ _ r 46 _ (0,0) _ rfl hF.out.1 underlying46 rfl FT) rfl ?_;exact ⟨_,o3,rfl,hF.out.2,by rw [hnone.out];exact ⟨fun m h=>(by cases h),fun _=>rfl⟩⟩
  ·obtain rfl:N=k:=aP
   obtain ⟨m,hm⟩:=az (MM (Ce N q5.2).1);have hge:=hgH.out;rw [hm] at hge hgs;have AgC:m.ls=(Ce N q5.2).1:=by rw [<-hm,hMH.out.2.1]
   have hd:=AfJ hgs.rd hMH.out.2.2;have hdv:((Ce N q5.2).2).done=0 \/ ((Ce N q5.2).2).done=2:=by
    unfold oQ.done;split
    ·exact .inr rfl
    ·exact .inl rfl
   have hby:=jQ N q5.2;have hq5:q5.2.b.length<=1000000:=by
    have h1:=(oQ.IW 256 q4.2).1;have h2:=(oQ.IW 256 q3.2).1;have h3:=(oQ.IW 256 q2.2).1;have h4:=oQ.EC 8 q1.2;have h5:=oQ.EC 8 q0.2;have h6:=oQ.EC 1 (oQ.mk l false);rw [hE.out.2.2.2.2.2.1] at h1;rw [hE.out.2.2.2.2.1] at h2;rw [hE.out.2.2.2.1] at h3;rw [hE.out.2.2.1] at h4;rw [hE.out.2.1] at h5;rw [hE.out.1] at h6;have h7:=hMH.out.2.2;simp only at h6;omega
   have hll:∀ x ∈ m.ls,x.b.length<=1000000000:=fun x hx=>by
    have:=AfN hx;rw [AgC] at this;omega
   have hkm:(Ea m lv:Value)=QK ⟨m.k,m.e,m.c,m.at',m.com,m.ls⟩ lv:=rfl;have hmay:CP.may ⟨m.k,m.e,m.c,m.at',m.com,m.ls⟩=TE m:=by
    rw [Bool.eq_iff_iff,CP.TC];exact ⟨fun h=>XJ h.1,fun h=>⟨dK h,Int.natCast_nonneg _,Int.natCast_nonneg _⟩⟩
   obtain ⟨dn,hdn⟩:=az (((Ce N q5.2).2).done);rw [hdn] at hd hdv hge;have hdH:=ae hd;have hgs:=ae hgs;have hrow:=ae hrow;have hH:=aa4 AgC hll hkm hmay;clear hkl hsn hd f2 c2 AgC hby hq5 hll hkm hmay hdn hm;rcases hdv with rfl | rfl
   ·rw [if_pos rfl] at hge;obtain ⟨AgC,hll,hkm,hmay⟩:=hH.out;obtain ⟨ra,rc,hlv⟩:=hrow.out.form;subst hlv;obtain ⟨RL,hRL⟩:=az ((Ce N q5.2).1.length);rw [hRL] at hgs hrow;have AuX:=ae hge;have AoP:=aa2 AgC hll;clear hge AgC hkm hRL hH hll;go_wp2_with fail;refine hdH.out.mono ?_;rintro e w3 ⟨v3,o3,rfl,hs3,rfl⟩;have hG3:=(hgs.out.step0 hs3).AcL hMH.out.1;have hln:=(hrow.out.step hs3 id id).plain;rw [<-AoP.out.1] at hln;have hmc:=AfL (o:=AcL (M+4) o3) ⟨m.k,m.e,m.c,m.at',m.com,m.ls⟩ hln AoP.out.2;rw [hmay] at hmc;have hmc:=ae (show Calls prog 47 #[.agg #[.int .u8 (m.k:Int), .int .u64 (m.e.toNat:Int), .int .u64 (m.c.toNat:Int), .int .i64 (m.at':Int), .int .i64 (m.com:Int), .slice ra RL rc]] w3 (XL ai w3 (AcL (M+4) o3) fun v _ _=>v = .bool (TE m)) from hmc);obtain ⟨d0,d1,d2,d3,d4,d5⟩:=Gt hG3.2.2.1.1;have hX:=aa2 hG3 hln;clear hG3 hln hs3 hmay;go_wp2_with fail;refine hmc.out.mono ?_;rintro e w5 ⟨v5,o5,rfl,hs5,rfl⟩;have hG5:=hX.out.1.step0 hs5;have hl5:=hX.out.2.step hs5 id;clear hs5 d0 d1 d2 d3 d4 d5
    cases hmy:TE m with
    | true =>
     have hsome:G=some m:=by rw [AuX.out,if_pos hmy]
     obtain ⟨W6,hst,hbl,hsF,hs6⟩:=hG5.put hMH.out.1 (Bf m (.slice ra RL rc)) rfl rfl;have Abe:=ae (show (Instr.storeAt 46 (.pointer r) (.agg #[.int .u8 (m.k:Int), (m.e:aV), (m.c:aV), (m.at':aV), (m.com:aV), .slice ra RL rc])).run prog w5 = .ok () W6 from hst);have AeF:=ae (show (Instr.loadAt 46 (.pointer mb)).run prog w5 = .ok (.agg #[.int .u8 (m.k:Int), (m.e:aV), (m.c:aV), (m.at':aV), (m.com:aV), .slice ra RL rc]) w5 from Ip (AV hG5.2.2.1.1) rfl);have hF:=aa4 hbl hsF (hl5.step hs6 (by unfold ak;omega)) hsome;clear hG5 hl5 hst hbl hsF hs6 hsome hmy
     go_wp2_with (first
      | ((with_reducible apply Bo);exact AeF.out;simp only [Act.put,lsa,lsz,lss])
      | ((with_reducible apply AC);exact Abe.out;simp only [Act.put]))
     refine bodyPost_ret (Eg rfl _ _ r 46 _ (0,0) _ rfl hF.out.1 underlying46 rfl FT) rfl ?_;exact ⟨_,o5,rfl,hF.out.2.1,by rw [hF.out.2.2.2];exact ⟨fun m' h=>(by cases h;exact ⟨_,rfl,hF.out.2.2.1⟩),fun h=>(by cases h)⟩⟩
    | false =>
     have hnone:=ae (show G=none by rw [AuX.out,if_neg (by rw [hmy];decide)]);clear hmy hl5;obtain ⟨W6,hst,hbl,hsF, -⟩:=hG5.put hMH.out.1 DI rfl rfl;have Abe:=ae (show (Instr.storeAt 46 (.pointer r) (.agg #[.int .u8 0, .int .u64 0, .int .u64 0, .int .i64 0, .int .i64 0, .slice none 0 0])).run prog w5 = .ok () W6 from hst);have hF:=aa2 hbl hsF;clear hG5 hst hbl hsF
     go_wp2_with ((with_reducible apply AC);exact Abe.out;simp only [Act.put])
     refine bodyPost_ret (Eg rfl _ _ r 46 _ (0,0) _ rfl hF.out.1 underlying46 rfl FT) rfl ?_;exact ⟨_,o5,rfl,hF.out.2,by rw [hnone.out];exact ⟨fun m h=>(by cases h),fun _=>rfl⟩⟩
   ·rw [if_neg bz] at hge;have hnone:=ae hge;clear hge;go_wp2_with fail;refine hdH.out.mono ?_;rintro e w3 ⟨v3,o3,rfl,hs3,rfl⟩;have hG3:=hgs.out.step0 hs3;clear hs3;obtain ⟨W6,hst,hbl,hsF, -⟩:=hG3.put hMH.out.1 DI rfl rfl;have Abe:=ae (show (Instr.storeAt 46 (.pointer r) (.agg #[.int .u8 0, .int .u64 0, .int .u64 0, .int .i64 0, .int .i64 0, .slice none 0 0])).run prog w3 = .ok () W6 from hst);have hF:=aa2 hbl hsF;clear hG3 hst hbl hsF
    go_wp2_with ((with_reducible apply AC);exact Abe.out;simp only [Act.put])
    refine bodyPost_ret (Eg rfl _ _ r 46 _ (0,0) _ rfl hF.out.1 underlying46 rfl FT) rfl ?_;exact ⟨_,o3,rfl,hF.out.2,by rw [hnone.out];exact ⟨fun m h=>(by cases h),fun _=>rfl⟩⟩
theorem Hu {wr:World} {o':Own} {yv:Value} {y:List UInt8} (hb:Below B W wr) (hown:wr.ownsRow B 5 1 v l.length (bvs l)) (hB:B<=wr.heap.size) (hs:aj ai wr O w' o') (hy:Ew wr w' o' yv y) (hn:l.length+y.length<=100000000) :
  ∃ nv w2,(Builtin.append_ #[23,23] 23 #[v,yv]).run prog w' = .ok nv w2/\w2.ownsRow B 5 1 nv (l++y).length (bvs (l++y))/\Below B W w2/\B<=w2.heap.size:=by
 have h1:w'.ownsRow B 5 1 v l.length (bvs l):=Ci hown (fun k hk=>hs.block k (hown.lt k hk).2 id);have h2:Below B W w':=hb.trans (hs.below.mono hB);exact VD h2 h1 (Nat.le_trans hB hs.size) hy.bytes hn
theorem EE (h:Below B w w') {k:Nat} {c:Obj} (hk:k<B) (hc:w.heap[k]?=some c):w'.heap[k]?=some c:=(h.block k hk).trans hc
theorem ZV {base:Nat} (m:CP) (hl:Lines w o base lv m.ls) (hll:∀ x ∈ m.ls,x.b.length<=1000000) :
  Calls prog 20 #[QK m lv] w (XL ai w o fun v w' o'=>∃ bv,v = .tuple #[bv, .int .i64 (if m.may=true then 0 else 1)]/\Bytes w' o' bv m.put):=by
 obtain ⟨la,lc,rfl⟩:=hl.form;obtain ⟨N,hN⟩:=az (m.ls.length);rw [hN] at hl ⊢;have s1:=(aj.refl ai w o).alloc (.cells (EQ m (.slice la N lc)).toArray 46) (0,0);have b1:=heap_alloc_new w (.cells (EQ m (.slice la N lc)).toArray 46);have z1:(w.alloc (.cells (EQ m (.slice la N lc)).toArray 46)).heap.size=w.heap.size+1:=bu
 have hl1:=hl.step s1 id;obtain ⟨mb,hmb⟩:=az (w.heap.size);obtain ⟨W1,hW1⟩:=az (w.alloc (.cells (EQ m (.slice la N lc)).toArray 46));obtain ⟨o1,ho1⟩:=az (Ak o w.heap.size (0,0));have hbx:(Instr.box 46 (QK m (.slice la N lc))).run prog w = .ok (.pointer w.heap.size) W1:=by rw [<-hW1];kernel_rfl
 rw [hW1,ho1] at s1 hl1;rw [hW1] at b1 z1;rw [hmb] at b1 hbx z1;have hld:=Ip (AV b1) rfl;have hcm:=AfL m hl1 (fun x hx=>Nat.le_trans (hll x hx) aP);unfold QK at hbx hcm ⊢;unfold EQ at b1 hld;have AeF:=ae hld;have xH:=ae hbx;have AdS:=ae hcm;clear hl hld hcm hbx hW1 ho1
 cases hmay:m.may with
 | false =>
  rw [hmay] at AdS;have hput:m.put=[]:=by unfold CP.put;rw [hmay];rfl
  rw [hput];have hF:=ae s1;clear s1 b1 hl1 z1 hput;go_enter func20,ntmps20
  go_wp2_with (first
   | ((with_reducible apply BM);exact xH.out;simp only [Act.put,lsa,lsz,lss])
   | ((with_reducible apply Bo);exact AeF.out;simp only [Act.put,lsa,lsz,lss]))
  refine AdS.out.mono ?_;rintro e w2 ⟨v2,o2,rfl,hs2,rfl⟩;go_wp2_with fail
  go_ret2
  exact ⟨_,_,rfl,hF.out.trans hs2,_,rfl, .inl ⟨⟨_,_,rfl⟩,rfl,rfl⟩⟩
 | true =>
  rw [hmay] at AdS;obtain ⟨hM,ha0,hc0⟩:=(CP.TC m).1 hmay;have hput:m.put=m.msg.put:=by unfold CP.put;rw [hmay];rfl
  rw [hput];have hby:=NK hM;obtain ⟨A,hA⟩:∃ A:Nat,m.at'=A:=⟨m.at'.toNat,aP⟩;obtain ⟨P,hP⟩:∃ A:Nat,m.com=A:=⟨m.com.toNat,aP⟩;have hA2:m.msg.at'=A:=by show m.at'.toNat=A;omega
  have hP2:m.msg.com=P:=by show m.com.toNat=P;omega
  have hA3:A<=256:=by have:=hM.a1;omega
  have hP3:P<=256:=by have:=hM.o1;omega
  have hN3:N<=256:=by have:m.ls.length<=256:=hM.n1;omega
  have hk3:m.k<=6:=hM.k6;have hkm:m.msg.k=m.k:=rfl;obtain ⟨K,hK⟩:=az (m.k);have hI:((0:Int)<=(K:Int)/\(K:Int)<=6)/\((0:Int)<=(A:Int)/\(A:Int)<=256)/\((0:Int)<=(P:Int)/\(P:Int)<=256)/\((0:Int)<=(N:Int)/\(N:Int)<=256):=aP
  obtain ⟨R,hR⟩:=az (m.msg.put);rw [hR];unfold BG.put at hR;rw [hA2,hP2,hkm,hK,show m.msg.e=m.e from rfl,show m.msg.c=m.c from rfl,show m.msg.ls=m.ls from rfl] at hR;unfold GR at hR;rw [hN] at hR;rw [hA,hP,hK] at AeF xH AdS b1 ⊢;have Aob:bv (UInt8.ofNat K) = .int .u8 (K:Int):=by
   unfold bv;rw [UInt8.toNat_ofNat'];congr 1;omega
  have hRH:=ae hR;have hMM:=aa4 hM.hl hby hN hll;have hB1:=aa4 s1 b1 z1 hl1;have Ahh:mb<W1.heap.size:=aP
  clear hput hR hby hA hP hA2 hP2 hkm hK hM ha0 hc0 hmay s1 hl1 z1 hN hll;go_enter func20,ntmps20
  go_wp2_with (first
   | ((with_reducible apply BM);exact xH.out;simp only [Act.put,lsa,lsz,lss])
   | ((with_reducible apply Bo);exact AeF.out;simp only [Act.put,lsa,lsz,lss]))
  refine AdS.out.mono ?_;rintro e w2 ⟨v2,o2,rfl,hs2,rfl⟩;have hbe:Below W1.heap.size W1 (w2.alloc (.cells (bvs [UInt8.ofNat K]).toArray 5)):=hs2.below.alloc hs2.size _;have hro:(w2.alloc (.cells (bvs [UInt8.ofNat K]).toArray 5)).ownsRow W1.heap.size 5 1 (.slice (some ⟨w2.heap.size,0,none⟩) 1 1) [UInt8.ofNat K].length (bvs [UInt8.ofNat K]):=
   ⟨rfl, .inr ⟨w2.heap.size,1,(bvs [UInt8.ofNat K]).toArray,rfl,hs2.size,heap_alloc_new w2 _,Nat.le_refl _,by simp [maxLen],rfl,rfl⟩⟩
  have hsz:W1.heap.size<=(w2.alloc (.cells (bvs [UInt8.ofNat K]).toArray 5)).heap.size:=by have:=hs2.size;simp;omega
  have bm:=EE hs2.below Ahh b1;have q0:=ag bm 0;simp only [ay] at q0;rw [show bvs [UInt8.ofNat K]=[bv (UInt8.ofNat K)] from rfl,Aob] at hbe hro hsz;rw [show [Value.int .u8 (K:Int)]=bvs [UInt8.ofNat K] by rw [show bvs [UInt8.ofNat K]=[bv (UInt8.ofNat K)] from rfl,Aob]] at hro;have hwe:w2.alloc (.cells (bvs [UInt8.ofNat K]).toArray 5)=w2.alloc (.cells [Value.int .u8 (K:Int)].toArray 5):=by rw [show bvs [UInt8.ofNat K]=[bv (UInt8.ofNat K)] from rfl,Aob]
  rw [hwe] at hro;obtain ⟨L0,hL0⟩:=az ([UInt8.ofNat K]);have hl0:=ae (show L0.length=1 by rw [<-hL0];rfl);rw [hL0] at hro;have AcC:(w2.alloc (.cells [Value.int .u8 (K:Int)].toArray 5)).heap[mb]?=some _:=EE hbe Ahh b1;clear hs2 bm hwe Aob;have q1:=ag AcC 1;simp only [ay,ax] at q1;have hn:=EP m.e 8 aP (w2.alloc (.cells [Value.int .u8 (K:Int)].toArray 5)) (fun _=>(0,0));go_wp2_with fail;refine hn.mono ?_;rintro e wn0 ⟨vn0,on0,rfl,hs,hnb⟩;obtain ⟨nv0,wb0,hrun,AiX,Akm,hsz0⟩:=Hu hbe hro hsz hs hnb (by rw [Az,hl0.out];omega);obtain ⟨xa0,xc0,rfl⟩:=BA hnb.1;obtain ⟨L1,hL1⟩:=az (L0++be 8 m.e);have hl1:=ae (show L1.length=9 by rw [<-hL1,List.length_append,Az,hl0.out]);rw [hL1] at AiX;have AlV:wb0.heap[mb]?=some _:=EE Akm Ahh b1;obtain ⟨za0,zc0,rfl⟩:=BA AiX;have Aax:=ae hrun;clear hs hnb hrun hro hbe hsz q1 hn AcC q0;have hro:=AiX;have hbe:=Akm;have hsz:=hsz0;have AcC:=AlV;clear AiX Akm hsz0 AlV;have q2:=ag AcC 2;simp only [ay,ax] at q2;have hn:=EP m.c 8 aP wb0 (fun _=>(0,0))
  go_wp2_with ((with_reducible apply Bl);exact Aax.out;simp only [Act.put,lsa,lsz,lss])
  refine hn.mono ?_;rintro e wn1 ⟨vn1,on1,rfl,hs,hnb⟩;obtain ⟨nv1,wb1,hrun,AnK,AqW,hsz1⟩:=Hu hbe hro hsz hs hnb (by rw [Az,hl1.out];omega);obtain ⟨xa1,xc1,rfl⟩:=BA hnb.1;obtain ⟨L2,hL2⟩:=az (L1++be 8 m.c);have hl2:=ae (show L2.length=17 by rw [<-hL2,List.length_append,Az,hl1.out]);rw [hL2] at AnK;have AlU:wb1.heap[mb]?=some _:=EE AqW Ahh b1;obtain ⟨za1,zc1,rfl⟩:=BA AnK;have Aax:=ae hrun;clear hs hnb hrun hro hbe hsz q2 hn AcC;have hro:=AnK;have hbe:=AqW;have hsz:=hsz1;have AcC:=AlU;clear AnK AqW hsz1 AlU;have q3:=ag AcC 3;simp only [ay,ax] at q3;have hn:=EP (BitVec.ofNat 64 A) 8 aP wb1 (fun _=>(0,0));rw [OQ aP] at hn
  go_wp2_with ((with_reducible apply Bl);exact Aax.out;simp only [Act.put,lsa,lsz,lss])
  refine hn.mono ?_;rintro e wn2 ⟨vn2,on2,rfl,hs,hnb⟩;obtain ⟨nv2,wb2,hrun,yS,AqV,hsz2⟩:=Hu hbe hro hsz hs hnb (by rw [Az,hl2.out];omega);obtain ⟨xa2,xc2,rfl⟩:=BA hnb.1;obtain ⟨L3,hL3⟩:=az (L2++be 8 (BitVec.ofNat 64 A));have hl3:=ae (show L3.length=25 by rw [<-hL3,List.length_append,Az,hl2.out]);rw [hL3] at yS;have AlT:wb2.heap[mb]?=some _:=EE AqV Ahh b1;obtain ⟨za2,zc2,rfl⟩:=BA yS;have Aax:=ae hrun;clear hs hnb hrun hro hbe hsz q3 hn AcC;have hro:=yS;have hbe:=AqV;have hsz:=hsz2;have AcC:=AlT;clear yS AqV hsz2 AlT;have q4:=ag AcC 4;simp only [ay,ax] at q4;have hn:=EP (BitVec.ofNat 64 P) 8 aP wb2 (fun _=>(0,0));rw [OQ aP] at hn
  go_wp2_with ((with_reducible apply Bl);exact Aax.out;simp only [Act.put,lsa,lsz,lss])
  refine hn.mono ?_;rintro e wn3 ⟨vn3,on3,rfl,hs,hnb⟩;obtain ⟨nv3,wb3,hrun,wR,AqU,hsz3⟩:=Hu hbe hro hsz hs hnb (by rw [Az,hl3.out];omega);obtain ⟨xa3,xc3,rfl⟩:=BA hnb.1;obtain ⟨L4,hL4⟩:=az (L3++be 8 (BitVec.ofNat 64 P));have hl4:=ae (show L4.length=33 by rw [<-hL4,List.length_append,Az,hl3.out]);rw [hL4] at wR;have AlS:wb3.heap[mb]?=some _:=EE AqU Ahh b1;obtain ⟨za3,zc3,rfl⟩:=BA wR;have Aax:=ae hrun;clear hs hnb hrun hro hbe hsz q4 hn AcC;have hro:=wR;have hbe:=AqU;have hsz:=hsz3;have AcC:=AlS;clear wR AqU hsz3 AlS;have q5:=ag AcC 5;simp only [ay,ax] at q5;have hn:=EP (BitVec.ofNat 64 N) 8 aP wb3 (fun _=>(0,0));rw [OQ aP] at hn
  go_wp2_with ((with_reducible apply Bl);exact Aax.out;simp only [Act.put,lsa,lsz,lss])
  refine hn.mono ?_;rintro e wn4 ⟨vn4,on4,rfl,hs,hnb⟩;obtain ⟨nv4,wb4,hrun,Ahc,Aii,Abc⟩:=Hu hbe hro hsz hs hnb (by rw [Az,hl4.out];omega);obtain ⟨xa4,xc4,rfl⟩:=BA hnb.1;obtain ⟨L5,hL5⟩:=az (L4++be 8 (BitVec.ofNat 64 N));have hl5:=ae (show L5.length=41 by rw [<-hL5,List.length_append,Az,hl4.out]);rw [hL5] at Ahc;have AlR:wb4.heap[mb]?=some _:=EE Aii Ahh b1;obtain ⟨za4,zc4,rfl⟩:=BA Ahc;have Aax:=ae hrun;clear hs hnb hrun hro hbe hsz q5 hn AcC;have hro:=Ahc;have hbe:=Aii;have hsz:=Abc;have AcC:=AlR;clear Ahc Aii Abc AlR
  go_wp2_with ((with_reducible apply Bl);exact Aax.out;simp only [Act.put,lsa,lsz,lss])
  have hHd:=ae (show L5++encs m.ls=R by rw [<-hRH.out, <-hL5, <-hL4, <-hL3, <-hL2, <-hL1, <-hL0];simp [List.append_assoc]);clear hL0 hL1 hL2 hL3 hL4 hL5;have AiX:=ae hro;have Akm:=ae hbe;have hsz0:=ae hsz;clear hro hbe hsz AcC
  go_loopw [4,5] (fun out i wr=>∃ j:Nat,j<=N/\i = .int .i64 j/\wr.ownsRow W1.heap.size 5 1 out (L5++encs (m.ls.take j)).length (bvs (L5++encs (m.ls.take j)))/\Below W1.heap.size W1 wr/\W1.heap.size<=wr.heap.size) (fun _ i _=>N - (intOf i).toNat)
  case atStart=>exact ⟨0,Nat.zero_le _,rfl,by simpa [encs] using AiX.out,Akm.out,hsz0.out⟩
  case round =>
   clear AiX Akm hsz0;obtain ⟨j,hj,rfl,hro,hbe,hsz⟩:=hrel;have bm:=EE hbe Ahh b1;have q5:=ag bm 5;simp only [ay,ax] at q5
   by_cases hlt:j<N
   ·have AbY:(0:Int)<=(j:Int)/\(j:Int)<(N:Int):=aP
    obtain ⟨hml,hby,hN,hll⟩:=hMM.out;obtain ⟨x,hx⟩:∃ x,m.ls[j]?=some x:=⟨_,List.getElem?_eq_getElem (by rw [hN];exact hlt)⟩;have hmem:=List.mem_of_getElem? hx;have hxb:x.b.length<=4096:=(hml x hmem).2.2;have hln:=hB1.out.2.2.2.step (aj.OT hbe (0,0)) id;obtain ⟨b,off,bv,rfl,hrg,hyb, -⟩:=hln.at hx;obtain ⟨va,vc,rfl⟩:=Aq hyb;obtain ⟨n,hxn⟩:=az (x.b.length);have d0:=hrg 0 _ rfl;have hlen:(L5++encs (m.ls.take j)).length<=2000000:=by
     rw [List.length_append,hl5.out];have h1:=Hf m.ls j;have h2:(encs m.ls).length<=1060000:=hby;omega
    have htk:encs (m.ls.take (j+1))=encs (m.ls.take j)++x.enc:=by rw [List.take_add_one,hx];exact KU _ _
    have hlH:=ae hlen;have Akd:=ae htk;have hx0:=aa2 hx hxb;obtain ⟨LL,hLL⟩:=az (L5++encs (m.ls.take j));rw [hLL] at hro hlH;have Akq:=ae hLL;have hn:=EP x.e 8 aP wr (fun _=>(0,0));have e0:wr.cell? (aW b (off+j*2))=some (x.e:aV):=d0;obtain ⟨ra,rc,rfl⟩:=BA hro;clear hrg hyb hx hln hml hby hN hll hmem hxb d0 hlen htk hLL bm;go_wp2_with fail;refine hn.mono ?_;rintro e w3 ⟨v3,o3,rfl,hs,hnb⟩;obtain ⟨nv3,w4,hrun,Ahc,Aii,Abc⟩:=Hu hbe hro hsz hs hnb (by rw [Az];have:=hlH.out;omega);obtain ⟨xa,xc,rfl⟩:=BA hnb.1;have Aax:=ae hrun;have bm4:=EE Aii Ahh b1;have q5':=ag bm4 5;simp only [ay,ax] at q5';have Aes:=hB1.out.2.2.2.step (aj.OT Aii (0,0)) id;obtain ⟨b',off',bv',hab,hrg4,ApK, -⟩:=Aes.at hx0.out.1;simp only [Option.some.injEq,Addr.mk.injEq,and_true] at hab;obtain ⟨rfl,rfl⟩:=hab;obtain ⟨va4,vc4,rfl⟩:=Aq ApK;have hte:=WR ApK (by have:=hx0.out.2;omega);obtain ⟨Y,hY⟩:=az (be 4 (BitVec.ofNat 64 x.b.length)++x.b);have hYl:=ae (show Y.length=4+x.b.length by rw [<-hY,List.length_append,Az]);rw [hY] at hte;have hYH:=ae hY;clear hY;have e1:w4.cell? (aW b (off+j*2+1))=some (.slice va4 x.b.length vc4):=hrg4 1 _ rfl;obtain ⟨ra4,rc4,rfl⟩:=BA Ahc;obtain ⟨L6,hL6⟩:=az (LL++be 8 x.e);have hl6:=ae (show L6.length<=2000008 by rw [<-hL6,List.length_append,Az];have:=hlH.out;omega);rw [hL6] at Ahc Aax;have BaD:=ae hL6;clear hs hnb hrun hro hbe hsz q5 hn e0 bm4 Aes hrg4 ApK hxn hL6
    go_wp2_with ((with_reducible apply Bl);exact Aax.out;simp only [Act.put,lsa,lsz,lss])
    refine hte.mono ?_;rintro e w5 ⟨v5,o5,rfl,hs5,AhT⟩;obtain ⟨nv6,w6,hrun6,AtF,AzW,Abb⟩:=Hu Aii Ahc Abc hs5 AhT (by rw [hYl.out];have:=hl6.out;have:=hx0.out.2;omega);obtain ⟨xa5,xc5,rfl⟩:=BA AhT.1;have hF:=ae (show w6.ownsRow W1.heap.size 5 1 nv6 (L5++encs (m.ls.take (j+1))).length (bvs (L5++encs (m.ls.take (j+1)))) from by
     rw [Akd.out, <-List.append_assoc,Akq.out];unfold Ar.enc;rw [hYH.out, <-List.append_assoc LL,BaD.out];exact AtF)
    have Aqd:=ae hrun6;clear hs5 AhT hrun6 AtF Ahc Aii Abc q5' e1 hte
    go_wp2_with ((with_reducible apply Bl);exact Aqd.out;simp only [Act.put,lsa,lsz,lss])
    go_roundw
    case rel=>exact ⟨j+1,aP,by go_num,hF.out,AzW,Abb⟩
    case measure=>simp [intOf];omega
   ·obtain rfl:j=N:=aP
    have hfin:L5++encs (m.ls.take j)=R:=by
     rw [List.take_of_length_le (by rw [hMM.out.2.2.1];exact Nat.le_refl _)];exact hHd.out
    rw [hfin] at hro;obtain ⟨ra,rc,rfl⟩:=BA hro;have hF:=aa2 hro hbe;clear hro hbe hfin bm;go_wp2_with fail
    go_ret2
    have hs:=hB1.out.1.trans (aj.OT hF.out.2 (0,0));have hnb:Ew W1 _ (Qi W1 o1 (0,0)) _ R:=XI hF.out.1;exact ⟨_,_,rfl,hs,_,rfl,hnb.bytes⟩
theorem Oh {b1 b2:Nat} {v1 v2:Value} {ls:List Ar} (h1:Lines w o b1 v1 ls) (h2:Lines w o b2 v2 ls) (hn:ls.length<=1000000) :
  Calls prog 24 #[v1,v2] w (XL ai w o fun v _ _=>v = .bool true):=by
 obtain ⟨va,vc,rfl⟩:=h1.form;obtain ⟨ua,uc,rfl⟩:=h2.form;obtain ⟨N,hN⟩:=az (ls.length);rw [hN] at h1 h2 hn ⊢;have hNI:(0:Int)<=(N:Int)/\(N:Int)<=1000000:=aP
 have hH:=aa3 h1 h2 hN;clear h1 h2 hN hn;go_enter func24,ntmps24;go_wp2_with fail
 go_loopw [5] (fun i wr=>∃ (j:Nat) (oj:Own),j<=N/\i = .int .i64 j/\aj ai w o wr oj) (fun i _=>N - (intOf i).toNat)
 case atStart=>exact ⟨0,o,Nat.zero_le _,rfl,aj.refl _ _ _⟩
 case round =>
  obtain ⟨j,oj,hj,rfl,hst⟩:=hrel
  by_cases hlt:j<N
  ·have AbY:(0:Int)<=(j:Int)/\(j:Int)<(N:Int):=aP
   obtain ⟨h1,h2,hN⟩:=hH.out;obtain ⟨x,hx⟩:∃ x,ls[j]?=some x:=⟨_,List.getElem?_eq_getElem (by rw [hN];exact hlt)⟩;have hsd:=hst.drew;obtain ⟨b,off,bv,rfl,r1,y1, -⟩:=(h1.step hsd id).at hx;obtain ⟨b',off',bv',rfl,r2,y2, -⟩:=(h2.step hsd id).at hx;obtain ⟨E,hE⟩:=az (x.e.toNat);obtain ⟨X,hX⟩:=az (x.b);rw [hX] at y1 y2;rw [hE] at r1 r2;have c1:=CY y1;have c2:=CY y2;have d1:=r1 0 _ rfl;have d2:=r1 1 _ rfl;have d3:=r2 0 _ rfl;have d4:=r2 1 _ rfl;have hS:=aI (show wr.drew.cell? (aW b (off+j*2))=some (.int .u64 (E:Int)) from d1) (aI d2 (aI (show wr.drew.cell? (aW b' (off'+j*2))=some (.int .u64 (E:Int)) from d3) (aI d4 (aI c1 c2))));have hF:=ae hsd;clear h1 h2 hN hx r1 r2 y1 y2 c1 c2 d1 d2 d3 d4 hst hsd hE hX;go_wp2_with fail;refine Aa (fun w'=>w'.cell? (aW b (off+j*2))=some (.int .u64 (E:Int))/\w'.cell? (aW b (off+j*2+1))=some bv/\w'.cell? (aW b' (off'+j*2))=some (.int .u64 (E:Int))/\w'.cell? (aW b' (off'+j*2+1))=some bv'/\(convert 23 9 bv).run prog w' = .ok (.string ⟨X.toArray⟩) w'/\(convert 23 9 bv').run prog w' = .ok (.string ⟨X.toArray⟩) w') (fun _=>true) bf hS (fun hHeld => ?_);refine tq 0 (h:=tq 1 (h:=tq 2 (h:=tq 3 (h:=tq 4 (h:=tq 5 (h:=tq 6 (h:=tq 7 (h:=tq 8 (h:=tq 9 (h:=tq 10 (h:=tq 11 (h:=tq 12 (h:=tq 13 (h:=?_))))))))))))));refine tq 14 (h:=tq 15 (h:=tq 16 (h:=tq 17 (h:=tq 18 (h:=tq 19 (h:=tq 20 (h:=tq 21 (h:=tq 22 (h:=tq 23 (h:=tq 24 (h:=tq 25 (h:=tD (h:=?_)))))))))))));clear hHeld hS;go_wp2_with fail;go_roundw
   case rel=>exact ⟨j+1,oj,aP,by go_num,hF.out⟩
   case measure=>simp [intOf];omega
  ·obtain rfl:j=N:=aP
   go_wp2_with fail;go_ret;exact ⟨_,_,rfl,hst,rfl⟩

end Go.Proofs.YthmpmgknnibljaaGreat
