/- Contracts of the group: Kept, Committed. -/
import Derived.Outline
import Derived.Test.YtffkdillijmamaaGreatRows
import Derived.Test.YtffkdillijmamaaGreatGk1
import Derived.Test.YtffkdillijmamaaGreatGk4
import Derived.Test.YtffkdillijmamaaGreatGk5
import Derived.Test.YtffkdillijmamaaGreatGk10
import Derived.Test.YtffkdillijmamaaGreatGk13
namespace Go.Proofs.YtffkdillijmamaaGreat
open Go.Proofs.Tryz
set_option maxRecDepth 100000
set_option maxHeartbeats 12800000
open Go Go.RowKit
attribute [local go_sem ↓] Go.wp_at_zero Go.wp_at_succ
theorem Acx {fn:Func} {p:Tmp} {ty:TypeId} (h:fn.results = #[.cell p ty]) (tmps:Array Value) (P:Program) (w:World) :
  (results fn tmps).run P w=((asAddr (tmps.getD p undef)).run P w).andThen fun a w1=>(loadVar ty a).run P w1:=by
 simp only [results,h];simp [Sem.run_bind,Result.andThen]
section
variable {w:World} {o:Own} {R pg pn:Nat} {xs:List xI} {zs:List Am} {g:GN} {x:xI} {z:Am}
theorem GAt.step3 {w':World} {o':Own} (h:GAt w o R pg pn xs zs g) (s:aj (ak (R+3)) w o w' o') (_hR:R ≠ 0) (_hn:xs.length<=3):GAt w' o' R pg pn xs zs g:=by
 obtain ⟨g1,g2,g3,g4⟩:=h;refine ⟨g1.step s (by unfold ak;omega) (by unfold ak;omega),g2.step s (by unfold ak;omega) (by unfold ak;omega),g3,g4.step s (by unfold ak;omega) fun x hx => ?_⟩;obtain ⟨i,hi,rfl⟩:=List.mem_iff_getElem.1 hx;obtain ⟨q1,q2,q3⟩:=g3.at' i _ (List.getElem?_eq_getElem hi);exact ⟨by unfold ak;omega,fun t ht=>by unfold ak at ht;unfold KC;omega⟩
theorem AmR (hx:Afp w o x) (hz:Bc w o x.D x.M x.pz x.ps x.pd z) (hsm:small z.s.kept.lines) {b1:Nat} (hb:AtT w o b1 (.cells [.int .u64 0, .int .u64 0, .slice none 0 0].toArray 37) (R+3,0)) :
  Calls prog 60 #[.pointer (some ⟨x.px,0,none⟩), .pointer (some ⟨b1,0,none⟩)] w (XL (ak (R+3)) w o fun v w' o'=>v = .int .i64 0/\∃ lv base,Lines w' o' base lv z.s.kept.lines/\AtT w' o' b1 (.cells (BR z.s.kept.promised z.s.kept.current lv).toArray 37) (R+3,0)):=by
 have hk:=ae (DJ hz.store hsm);have c0:=ag hx.1 2;simp only [ay,ax] at c0;unfold Uc at c0;have xZ:=ae hb;clear hx hz hsm hb;go_enter func60,ntmps60;go_wp2_with fail;refine hk.out.mono ?_;rintro e W1 ⟨v1,o1,rfl,hs1,lv,rfl,hl, -⟩;obtain ⟨la,lc,rfl⟩:=hl.form;obtain ⟨X,hX,hsX, -,hbX⟩:=(xZ.out.step hs1 id).store (P:=prog) (cs:=[.int .u64 0, .int .u64 0, .slice none 0 0]) (ty:=37) (vs:=BR z.s.kept.promised z.s.kept.current (.slice la z.s.kept.lines.length lc)) rfl Uz rfl;have hF:=ae (aI ((hs1.mono (T':=ak (R+3)) fun _ h=>h.elim).trans hsX) (aI (hl.step hsX (by unfold ak;omega)) hbX));unfold BR at hX;have hXH:=ae hX;clear hX hsX hbX hl hs1 hk xZ;unfold Dy
 go_wp2_with ((with_reducible apply AC);exact hXH.out;simp only [Act.put])
 go_ret;exact ⟨_,o1,rfl,hF.out.1,rfl,_,_,hF.out.2.1,hF.out.2.2⟩
theorem AoT (h:GAt w o R pg pn xs zs g) (i:Nat) (hxi:xs[i]?=some x) (hzi:zs[i]?=some z) (hsm:small z.s.kept.lines) :
  Calls prog 18 #[.pointer (some ⟨pg,0,none⟩), .int .i64 (i:Int)] w (XL (ak (R+3)) w o fun v w' o'=>∃ lv base,v=Dy z.s.kept.promised z.s.kept.current lv/\Lines w' o' base lv z.s.kept.lines):=by
 obtain ⟨W,oW,hW,⟨hst, -⟩,hb⟩:=Akp w o (.cells #[.int .u64 0, .int .u64 0, .slice none 0 0] 37) (R+3,0);have hg:=h.step0 hst;obtain ⟨h1,h2⟩:=hg.2.2.2.2 i x z hxi hzi;have ha:=ae (Acd hg.1 i hxi 60 #[.pointer (some ⟨w.heap.size,0,none⟩)] _ Tryz.call60 (AmR h1 h2 hsm hb) (fun e w' hq=>by obtain ⟨v, -,hv, -⟩:=hq;exact ⟨v,hv⟩));have XX:=ae hW;have Abe:=ae (hst.mono (T':=ak (R+3)) fun _ h=>h.elim);clear h hg hW hst hb h1 h2 hxi hzi hsm;go_enter func18,ntmps18;go_wp2_with fail;rw [XX.out];refine ha.out.mono ?_;rintro e W1 ⟨v1,o1,rfl,hs1,rfl,lv,base,hl,hb1⟩;obtain ⟨la,lc,rfl⟩:=hl.form;obtain ⟨X,hX,hsX, -,hbX⟩:=hb1.store (P:=prog) (ty:=37) (vs:=BR z.s.kept.promised z.s.kept.current (.slice la z.s.kept.lines.length lc)) rfl Uz rfl;have d0:=ag hb1.1 0;have d1:=ag hb1.1 1;have d2:=ag hb1.1 2;unfold BR at d0 d1 d2 hX;simp only [ay,ax] at d0 d1 d2;have hF:=ae (aI ((Abe.out.trans hs1).trans hsX) (aI hbX (hl.step hsX (by unfold ak;omega))));have hXH:=ae hX;clear hX hsX hbX hl hs1 hb1 ha Abe
 go_wp2_with ((with_reducible apply AC);exact hXH.out;simp only [Act.put])
 refine bodyPost_ret (AbQ rfl _ _ w.heap.size 37 _ (0,0) _ rfl hF.out.2.1.1 underlying37 rfl Uz) rfl ?_;exact ⟨_,o1,rfl,hF.out.1,_,_,rfl,hF.out.2.2⟩
theorem AcK (hx:Afp w o x) (hz:Bc w o x.D x.M x.pz x.ps x.pd z) (hsm:small z.s.kept.lines) (hc:z.Ag<=z.s.kept.lines.length) {b1:Nat} (hb:AtT w o b1 (.cells [.slice none 0 0].toArray 35) (R+3,0)) :
  Calls prog 62 #[.pointer (some ⟨x.px,0,none⟩), .pointer (some ⟨b1,0,none⟩)] w (XL (ak (R+3)) w o fun v w' o'=>v = .int .i64 0/\∃ lv base,Lines w' o' base lv (z.s.kept.lines.take z.Ag)/\AtT w' o' b1 (.cells [lv].toArray 35) (R+3,0)):=by
 have hk:=ae (QU hz hsm hc);have c0:=ag hx.1 0;simp only [ay] at c0;unfold Uc at c0;have xZ:=ae hb;clear hx hz hsm hb hc;go_enter func62,ntmps62;go_wp2_with fail;refine hk.out.mono ?_;rintro e W1 ⟨lv,o1,rfl,hs1,hl⟩;obtain ⟨la,lc,rfl⟩:=hl.form;obtain ⟨N,hN⟩:∃ N,(z.s.kept.lines.take z.Ag).length=N:=⟨_,rfl⟩;rw [hN];have hb1:=xZ.out.step hs1 id;have k1:=ag hb1.1 0;have f1:=Ap hb1.1 0;simp only [ay] at k1;have sX:=(aj.refl (ak (R+3)) W1 o1).setCell (a:=⟨b1,0,none⟩) (.slice la N lc) (.inl (by rw [hb1.2];rfl));have bX:=Ai (i:=0) (.slice la N lc) hb1.1;have hF:=ae (aI ((hs1.mono (T':=ak (R+3)) fun _ h=>h.elim).trans sX) (aI (hl.step sX (by unfold ak;omega)) (show AtT _ o1 b1 (.cells [.slice la N lc].toArray 35) (R+3,0) from ⟨bX,hb1.2⟩)));have hNH:=ae hN;clear hb1 sX bX hl hs1 hk xZ hN;go_wp2_with fail;go_ret;rw [<-hNH.out] at hF ⊢;exact ⟨_,o1,rfl,hF.out.1,rfl,_,_,hF.out.2.1,hF.out.2.2⟩
theorem Ado (h:GAt w o R pg pn xs zs g) (i:Nat) (hxi:xs[i]?=some x) (hzi:zs[i]?=some z) (hsm:small z.s.kept.lines) (hc:z.Ag<=z.s.kept.lines.length) :
  Calls prog 19 #[.pointer (some ⟨pg,0,none⟩), .int .i64 (i:Int)] w (XL (ak (R+3)) w o fun v w' o'=>∃ base,Lines w' o' base v (z.s.kept.lines.take z.Ag)):=by
 obtain ⟨W,oW,hW,⟨hst, -⟩,hb⟩:=Akp w o (.cells #[.slice none 0 0] 35) (R+3,0);have hg:=h.step0 hst;obtain ⟨h1,h2⟩:=hg.2.2.2.2 i x z hxi hzi;have ha:=ae (Acd hg.1 i hxi 62 #[.pointer (some ⟨w.heap.size,0,none⟩)] _ Tryz.call62 (AcK h1 h2 hsm hc hb) (fun e w' hq=>by obtain ⟨v, -,hv, -⟩:=hq;exact ⟨v,hv⟩));have XX:=ae hW;have Abe:=ae (hst.mono (T':=ak (R+3)) fun _ h=>h.elim);clear h hg hW hst hb h1 h2 hxi hzi hsm hc;go_enter func19,ntmps19;go_wp2_with fail;rw [XX.out];refine ha.out.mono ?_;rintro e W1 ⟨v1,o1,rfl,hs1,rfl,lv,base,hl,hb1⟩;obtain ⟨la,lc,rfl⟩:=hl.form;obtain ⟨N,hN⟩:∃ N,(z.s.kept.lines.take z.Ag).length=N:=⟨_,rfl⟩;rw [hN] at hb1 hl;have k1:=ag hb1.1 0;have f1:=Ap hb1.1 0;simp only [ay] at k1;have sX:=(aj.refl (ak (R+3)) W1 o1).setCell (a:=⟨w.heap.size,0,none⟩) (.slice la N lc) (.inl (by rw [hb1.2];rfl));have bX:=Ai (i:=0) (.slice la N lc) hb1.1;have k2:=ag bX 0;have hF:=ae (aI ((Abe.out.trans hs1).trans sX) (hl.step sX (by unfold ak;omega)));have hNH:=ae hN;clear sX bX hl hs1 hb1 ha Abe hN;go_wp2_with fail;refine bodyPost_ret (v := .slice la N lc) (by rw [Acx rfl];go_simp) rfl ?_;exact ⟨_,o1,rfl,hF.out.1,_,hF.out.2⟩
end
section
variable {w:World} {o:Own} {R pg pn:Nat} {xs:List xI} {zs:List Am} {g:GN}
theorem Acn (h:AeE w o R pg pn xs) (fid:Nat) (cp:Array Value) (Q:Ending->World->Prop)
  (hcall:∀ (args:Array Value) (x:World),(callFunc fid args).run prog x = .ok (.enter fid args) x)
  (hq:Calls prog fid (#[Uc pn]++cp) w Q) (hr:∀ e w',Q e w'->∃ v,e = .returned v) :
  Calls prog 64 #[.pointer (some ⟨pg,0,none⟩), .func (.func fid) #[] cp] w Q:=by
 obtain ⟨bn,cap,h1, -⟩:=h;have c1:=ag h1 1;simp only [ay,ax] at c1;have yV:=ae hq;have tN:=ae hr;clear h1 hq hr;unfold Uc at c1 yV;go_enter func64,ntmps64;go_wp2_with fail;refine yV.out.mono ?_;intro e W hQ;obtain ⟨v,rfl⟩:=tN.out e W hQ;have vJ:=ae hQ;clear hQ;go_wp2_with fail;exact vJ.out
theorem Ahx (h:KL w o (R+2) pn g) (hlen:g.l.length<=4096) (k:Int) {b1:Nat} (hb1:At0 w o b1 (.cells #[.int .i64 k] 3)) :
  Calls prog 77 #[.pointer (some ⟨pn,0,none⟩), .pointer (some ⟨b1,0,none⟩)] w (XL (ak (R+2)) w o fun v w' o'=>v = .int .i64 (g.drop k).2/\KL w' o' (R+2) pn (g.drop k).1):=by
 have hc:=ae (AjK h (by omega) (by omega) k);have q1:=hb1.cell (cs:=[.int .i64 k]) 0;simp only [ay] at q1;clear h hb1;obtain ⟨Z,hZ⟩:∃ Z,g.drop k=Z:=⟨_,rfl⟩;rw [hZ] at hc ⊢;go_enter func77,ntmps77;go_wp2_with fail;refine hc.out.mono ?_;rintro e W1 ⟨v1,o1,rfl,hs1,rfl,hn⟩;have hF:=ae (aI hs1 hn);clear hs1 hn hc;go_wp2_with fail;go_ret;exact ⟨_,o1,rfl,hF.out.1,rfl,hF.out.2⟩
theorem Akw (h:GAt w o R pg pn xs zs g) (hR:R ≠ 0) (hn:xs.length<=3) (hlen:g.l.length<=4096) (k:Int) :
  Calls prog 35 #[.pointer (some ⟨pg,0,none⟩), .int .i64 k] w (XL (ak (R+2)) w o fun v w' o'=>v = .int .i64 (g.drop k).2/\GAt w' o' R pg pn xs zs (g.drop k).1):=by
 obtain ⟨W,oW,hW,⟨hst, -⟩,hb1⟩:=AaC w o (.cells #[.int .i64 k] 3);have hg:=h.step0 hst;have ha:=ae (Acn hg.1 77 #[.pointer (some ⟨w.heap.size,0,none⟩)] _ Tryz.call77 (Ahx hg.2.1 hlen k hb1) (fun e w' hq=>by obtain ⟨v, -,hv, -⟩:=hq;exact ⟨v,hv⟩));have hH:=ae (aI hg (hst.mono (T':=ak (R+2)) fun _ h=>h.elim));have XX:=ae hW;clear h hg hW hst hb1;obtain ⟨Z,hZ⟩:∃ Z,g.drop k=Z:=⟨_,rfl⟩;rw [hZ] at ha ⊢;go_enter func35,ntmps35;go_wp2_with fail;rw [XX.out];refine ha.out.mono ?_;rintro e W1 ⟨v1,o1,rfl,hs1,rfl,hn1⟩;have hF:=ae (aI (hH.out.2.trans hs1) (hH.out.1.Anc hR hn hs1 hn1));clear hs1 hn1 ha hH;go_wp2_with fail;go_ret;exact ⟨_,o1,rfl,hF.out.1,rfl,hF.out.2⟩
theorem Ahw (h:KL w o (R+2) pn g) (hlen:g.l.length<=4096) (k:Int) {b1:Nat} (hb1:At0 w o b1 (.cells #[.int .i64 k] 3)) :
  Calls prog 81 #[.pointer (some ⟨pn,0,none⟩), .pointer (some ⟨b1,0,none⟩)] w (XL (ak (R+2)) w o fun v w' o'=>v = .int .i64 (g.hold k).2/\KL w' o' (R+2) pn (g.hold k).1):=by
 have hc:=ae (AjJ h (by omega) (by omega) k);have q1:=hb1.cell (cs:=[.int .i64 k]) 0;simp only [ay] at q1;clear h hb1;obtain ⟨Z,hZ⟩:∃ Z,g.hold k=Z:=⟨_,rfl⟩;rw [hZ] at hc ⊢;go_enter func81,ntmps81;go_wp2_with fail;refine hc.out.mono ?_;rintro e W1 ⟨v1,o1,rfl,hs1,rfl,hn⟩;have hF:=ae (aI hs1 hn);clear hs1 hn hc;go_wp2_with fail;go_ret;exact ⟨_,o1,rfl,hF.out.1,rfl,hF.out.2⟩
theorem Aku (h:GAt w o R pg pn xs zs g) (hR:R ≠ 0) (hn:xs.length<=3) (hlen:g.l.length<=4096) (k:Int) :
  Calls prog 37 #[.pointer (some ⟨pg,0,none⟩), .int .i64 k] w (XL (ak (R+2)) w o fun v w' o'=>v = .int .i64 (g.hold k).2/\GAt w' o' R pg pn xs zs (g.hold k).1):=by
 obtain ⟨W,oW,hW,⟨hst, -⟩,hb1⟩:=AaC w o (.cells #[.int .i64 k] 3);have hg:=h.step0 hst;have ha:=ae (Acn hg.1 81 #[.pointer (some ⟨w.heap.size,0,none⟩)] _ Tryz.call81 (Ahw hg.2.1 hlen k hb1) (fun e w' hq=>by obtain ⟨v, -,hv, -⟩:=hq;exact ⟨v,hv⟩));have hH:=ae (aI hg (hst.mono (T':=ak (R+2)) fun _ h=>h.elim));have XX:=ae hW;clear h hg hW hst hb1;obtain ⟨Z,hZ⟩:∃ Z,g.hold k=Z:=⟨_,rfl⟩;rw [hZ] at ha ⊢;go_enter func37,ntmps37;go_wp2_with fail;rw [XX.out];refine ha.out.mono ?_;rintro e W1 ⟨v1,o1,rfl,hs1,rfl,hn1⟩;have hF:=ae (aI (hH.out.2.trans hs1) (hH.out.1.Anc hR hn hs1 hn1));clear hs1 hn1 ha hH;go_wp2_with fail;go_ret;exact ⟨_,o1,rfl,hF.out.1,rfl,hF.out.2⟩
theorem Aet (h:KL w o (R+2) pn g) (hlen:g.l.length<=4096) (hbs:∀ x ∈ g.l,x.b.length<=4000000) (k:Int) {b1:Nat} (hb1:At0 w o b1 (.cells #[.int .i64 k] 3)) :
  Calls prog 79 #[.pointer (some ⟨pn,0,none⟩), .pointer (some ⟨b1,0,none⟩)] w (XL (ak (R+2)) w o fun v w' o'=>v = .int .i64 (g.double k).2/\KL w' o' (R+2) pn (g.double k).1):=by
 have hc:=ae (AfP h (by omega) (by omega) hbs k);have q1:=hb1.cell (cs:=[.int .i64 k]) 0;simp only [ay] at q1;clear h hb1;obtain ⟨Z,hZ⟩:∃ Z,g.double k=Z:=⟨_,rfl⟩;rw [hZ] at hc ⊢;go_enter func79,ntmps79;go_wp2_with fail;refine hc.out.mono ?_;rintro e W1 ⟨v1,o1,rfl,hs1,rfl,hn⟩;have hF:=ae (aI hs1 hn);clear hs1 hn hc;go_wp2_with fail;go_ret;exact ⟨_,o1,rfl,hF.out.1,rfl,hF.out.2⟩
theorem AgW (h:GAt w o R pg pn xs zs g) (hR:R ≠ 0) (hn:xs.length<=3) (hlen:g.l.length<=4096) (hbs:∀ x ∈ g.l,x.b.length<=4000000) (k:Int) :
  Calls prog 36 #[.pointer (some ⟨pg,0,none⟩), .int .i64 k] w (XL (ak (R+2)) w o fun v w' o'=>v = .int .i64 (g.double k).2/\GAt w' o' R pg pn xs zs (g.double k).1):=by
 obtain ⟨W,oW,hW,⟨hst, -⟩,hb1⟩:=AaC w o (.cells #[.int .i64 k] 3);have hg:=h.step0 hst;have ha:=ae (Acn hg.1 79 #[.pointer (some ⟨w.heap.size,0,none⟩)] _ Tryz.call79 (Aet hg.2.1 hlen hbs k hb1) (fun e w' hq=>by obtain ⟨v, -,hv, -⟩:=hq;exact ⟨v,hv⟩));have hH:=ae (aI hg (hst.mono (T':=ak (R+2)) fun _ h=>h.elim));have XX:=ae hW;clear h hg hW hst hb1;obtain ⟨Z,hZ⟩:∃ Z,g.double k=Z:=⟨_,rfl⟩;rw [hZ] at ha ⊢;go_enter func36,ntmps36;go_wp2_with fail;rw [XX.out];refine ha.out.mono ?_;rintro e W1 ⟨v1,o1,rfl,hs1,rfl,hn1⟩;have hF:=ae (aI (hH.out.2.trans hs1) (hH.out.1.Anc hR hn hs1 hn1));clear hs1 hn1 ha hH;go_wp2_with fail;go_ret;exact ⟨_,o1,rfl,hF.out.1,rfl,hF.out.2⟩
theorem AkE (h:KL w o (R+2) pn g) (a b:Int) {b1 b2:Nat} (hb1:At0 w o b1 (.cells #[.int .i64 a] 3)) (hb2:At0 w o b2 (.cells #[.int .i64 b] 3)) :
  Calls prog 65 #[.pointer (some ⟨pn,0,none⟩), .pointer (some ⟨b1,0,none⟩), .pointer (some ⟨b2,0,none⟩)] w (XL (ak (R+2)) w o fun v w' o'=>v = .int .i64 (g.turn a b true).2/\KL w' o' (R+2) pn (g.turn a b true).1):=by
 have hc:=ae (AkG h (by omega) a b);have q1:=hb1.cell (cs:=[.int .i64 a]) 0;have q2:=hb2.cell (cs:=[.int .i64 b]) 0;simp only [ay] at q1 q2;clear h hb1 hb2;obtain ⟨Z,hZ⟩:∃ Z,g.turn a b true=Z:=⟨_,rfl⟩;rw [hZ] at hc ⊢;go_enter func65,ntmps65;go_wp2_with fail;refine hc.out.mono ?_;rintro e W1 ⟨v1,o1,rfl,hs1,rfl,hn⟩;have hF:=ae (aI hs1 hn);clear hs1 hn hc;go_wp2_with fail;go_ret;exact ⟨_,o1,rfl,hF.out.1,rfl,hF.out.2⟩
theorem AkP (h:GAt w o R pg pn xs zs g) (hR:R ≠ 0) (hn:xs.length<=3) (a b:Int) :
  Calls prog 23 #[.pointer (some ⟨pg,0,none⟩), .int .i64 a, .int .i64 b] w (XL (ak (R+2)) w o fun v w' o'=>v = .int .i64 (g.turn a b true).2/\GAt w' o' R pg pn xs zs (g.turn a b true).1):=by
 obtain ⟨W,oW,hW,⟨hst, -⟩,hb1,hb2⟩:=Ajq w o (.cells #[.int .i64 a] 3) (.cells #[.int .i64 b] 3);have hg:=h.step0 hst;have ha:=ae (Acn hg.1 65 #[.pointer (some ⟨w.heap.size,0,none⟩), .pointer (some ⟨w.heap.size+1,0,none⟩)] _ Tryz.call65 (AkE hg.2.1 a b hb1 hb2) (fun e w' hq=>by obtain ⟨v, -,hv, -⟩:=hq;exact ⟨v,hv⟩));have hH:=ae (aI hg (hst.mono (T':=ak (R+2)) fun _ h=>h.elim));have XX:=ae hW;clear h hg hW hst hb1 hb2;obtain ⟨Z,hZ⟩:∃ Z,g.turn a b true=Z:=⟨_,rfl⟩;rw [hZ] at ha ⊢;go_enter func23,ntmps23;go_wp2_with fail;rw [XX.out];refine ha.out.mono ?_;rintro e W1 ⟨v1,o1,rfl,hs1,rfl,hn1⟩;have hF:=ae (aI (hH.out.2.trans hs1) (hH.out.1.Anc hR hn hs1 hn1));clear hs1 hn1 ha hH;go_wp2_with fail;go_ret;exact ⟨_,o1,rfl,hF.out.1,rfl,hF.out.2⟩
end
def PAt (w:World) (o:Own) (R pg pn C K B:Nat) (p:PG):Prop:=
 ∃ xs zs,GAt w o R pg pn xs zs ⟨p.ys.length,Ua p.ls,p.cut⟩/\zs.length=p.ys.length/\p.off.length=p.ys.length/\p.ys.length<=3/\R ≠ 0/\Ago p.ys.length B p.ls /\
  ∀ i z y b,zs[i]?=some z->p.ys[i]?=some y->p.off[i]?=some b->y.id=i/\y.n=p.ys.length/\AsP C K B b z y
section
variable {w w':World} {o o':Own} {R pg pn C K B M0:Nat} {p:PG}
theorem AcR (hM:M0<R) {xs:List xI} (h:Agb R xs) {x:xI} {i:Nat} (hx:xs[i]?=some x):∀ k,KC x.D x.M k->EN M0 k:=by
 intro k hk;obtain ⟨q1,q2,q3⟩:=h.at' i x hx;unfold KC at hk;show M0<k;omega
theorem Ait (hM:M0<R) {xs:List xI} (h:Agb R xs) {x:xI} {i:Nat} (hx:xs[i]?=some x):∀ k,InT x R k->EN M0 k:=by
 intro k hk
 rcases hk with hk | hk
 ·exact AcR hM h hx k hk
 ·show M0<k;omega
theorem Aju (hM:M0<R) {xs:List xI} (h:Agb R xs) {x:xI} {i Mx:Nat} (hx:xs[i]?=some x) (hMx:R+20<=Mx):∀ k,aY x Mx k->EN M0 k:=by
 intro k hk;obtain ⟨q1,q2,q3⟩:=h.at' i x hx;unfold aY at hk;show M0<k;omega
theorem PAt.step0 (h:PAt w o R pg pn C K B p) (s:aj ai w o w' o'):PAt w' o' R pg pn C K B p:=by
 obtain ⟨xs,zs,h1,h2⟩:=h;exact ⟨xs,zs,h1.step0 s,h2⟩
theorem PAt.mono {K' B':Nat} (h:PAt w o R pg pn C K B p) (hK:K<=K') (hB:B<=B'):PAt w o R pg pn C K' B' p:=by
 obtain ⟨xs,zs,h1,h2,h3,h4,hR,h5,h6⟩:=h;exact ⟨xs,zs,h1,h2,h3,h4,hR,h5.mono hB,fun i z y b hz hy hb=>by
  obtain ⟨e1,e2,e3⟩:=h6 i z y b hz hy hb;exact ⟨e1,e2,e3.mono hK hB⟩⟩
theorem PAt.lower {B':Nat} (h:PAt w o R pg pn C K B p) (hf:p.fits B'=true):PAt w o R pg pn C K B' p:=by
 obtain ⟨xs,zs,h1,h2,h3,h4,hR,h5,h6⟩:=h;unfold PG.fits at hf;rw [Bool.and_eq_true] at hf;refine ⟨xs,zs,h1,h2,h3,h4,hR,⟨h5.1,fun x hx => ?_⟩,fun i z y b hz hy hb => ?_⟩
 ·obtain ⟨e1,e2,e3,e4, -⟩:=h5.2 x hx;exact ⟨e1,e2,e3,e4,by simpa using List.all_eq_true.1 hf.2 x hx⟩
 ·obtain ⟨e1,e2,e3,e4,e5⟩:=h6 i z y b hz hy hb;exact ⟨e1,e2,e3,e4.lower (List.all_eq_true.1 hf.1 y (List.mem_of_getElem? hy)),e5⟩
theorem PAt.node (h:PAt w o R pg pn C K B p) {i:Nat} {y:Aj} {b:Bool} (hy:p.ys[i]?=some y) (hb:p.off[i]?=some b) :
  ∃ xs zs x z,GAt w o R pg pn xs zs ⟨p.ys.length,Ua p.ls,p.cut⟩/\xs.length<=3/\zs.length=p.ys.length/\xs[i]?=some x/\zs[i]?=some z/\AsP C K B b z y/\y.id=i/\y.n=p.ys.length /\
   ∀ (w':World) (o':Own) (z':Am) (y':Aj) (b':Bool) (ls':List (Nat × Nat × BG)) (xs':List xI) (K' B':Nat),K<=K'->B<=B'->GAt w' o' R pg pn xs' (zs.set i z') ⟨p.ys.length,Ua ls',p.cut⟩->AsP C K' B' b' z' y'->y'.id=i->y'.n=p.ys.length->Ago p.ys.length B' ls' ->
    PAt w' o' R pg pn C K' B' ⟨p.ys.set i y',p.off.set i b',ls',p.cut⟩:=by
 obtain ⟨xs,zs,h1,h2,h3,h4,hR,h5,h6⟩:=h;have hi:=(List.getElem?_eq_some_iff.1 hy).1;have hxz:xs.length=zs.length:=h1.2.2.2.1;obtain ⟨x,hx⟩:∃ x,xs[i]?=some x:=⟨_,List.getElem?_eq_getElem (by omega)⟩;obtain ⟨z,hz⟩:∃ z,zs[i]?=some z:=⟨_,List.getElem?_eq_getElem (by omega)⟩;obtain ⟨e1,e2,e3⟩:=h6 i z y b hz hy hb;refine ⟨xs,zs,x,z,h1,by omega,h2,hx,hz,e3,e1,e2, ?_⟩;intro w' o' z' y' b' ls' xs' K' B' hK hB hg ha hid hn hl;refine ⟨xs',zs.set i z',by simpa using hg,by simpa using h2,by simpa using h3,by simpa using h4,hR,by simpa using hl,fun j z2 y2 b2 hz2 hy2 hb2 => ?_⟩
 by_cases hij:i=j
 ·subst hij;rw [List.getElem?_set_self (by omega)] at hz2 hy2 hb2
  cases hz2;cases hy2;cases hb2
  exact ⟨hid,by simpa using hn,ha⟩
 ·rw [List.getElem?_set_ne hij] at hz2 hy2 hb2;obtain ⟨f1,f2,f3⟩:=h6 j z2 y2 b2 hz2 hy2 hb2;exact ⟨f1,by simpa using f2,f3.mono hK hB⟩
end
theorem WT {α:Type} {l:List α} {i:Nat} {a:α} (h:l[i]?=some a):l.set i a=l:=by
 apply List.ext_getElem?;intro j
 by_cases hij:i=j
 ·subst hij;rw [List.getElem?_set_self (List.getElem?_eq_some_iff.1 h).1,h]
 ·rw [List.getElem?_set_ne hij]
section
variable {w w':World} {o o':Own} {R pg pn C K B M0:Nat} {p:PG}
theorem PAt.look (h:PAt w o R pg pn C K B p) {i:Nat} (hi:i<p.ys.length):∃ y b,p.ys[i]?=some y/\p.off[i]?=some b:=by
 obtain ⟨xs,zs,h1,h2,h3, -⟩:=h;exact ⟨_,_,List.getElem?_eq_getElem hi,List.getElem?_eq_getElem (by omega)⟩
theorem PAt.Aqy (h:PAt w o R pg pn C K B p):Ago p.ys.length B p.ls/\R ≠ 0:=by
 obtain ⟨xs,zs,h1,h2,h3,h4,hR,h5,h6⟩:=h;exact ⟨h5,hR⟩
theorem Ana {n i B:Nat} {ts:DX} (hB:B<=90000) (h:TGB n i B ts) (hm:Aj.EH ts):∀ t ∈ Ed ts,t.1<n/\i ≠ t.1/\t.2.length<=2097152:=by
 intro t ht;obtain ⟨x,hx,rfl⟩:=List.mem_map.1 ht;obtain ⟨h1,h2,h3⟩:=h x hx;have h4:=Aje (hm x hx).n1;exact ⟨h1,Ne.symm h2,by show x.2.put.length<=2097152;omega⟩
theorem AnJ (hM:M0<R) (h:PAt w o R pg pn C K B p) (hK:K+606<65536) (hBC:B<=C) (hC:B<=90000) (i:Nat) (hi:i<p.ys.length) (hw:∀ y ∈ p.ys,y.waited<=1000000) :
  Calls prog 14 #[.pointer (some ⟨pg,0,none⟩), .int .i64 (i:Int)] w (XL (EN M0) w o fun v w' o'=>v = .int .i64 (p.tick i).2/\PAt w' o' R pg pn C (K+6) B (p.tick i).1):=by
 obtain ⟨y,b,hy,hb⟩:=h.look hi;obtain ⟨xs,zs,x,z,hg,hx3,hyn,hx,hz,ha,hid,hn,hput⟩:=h.node hy hb;obtain ⟨hls,hR⟩:=h.Aqy;unfold PG.tick;rw [hy,hb]
 cases b with
 | true =>
  refine (Aou hg i hx hz ha.dead).mono ?_;rintro e w' ⟨v,o',rfl,hs,rfl⟩;exact ⟨_,o',rfl,hs.mono (fun _ h=>h.elim),rfl,(h.step0 hs).mono (Nat.le_add_right _ _) (Nat.le_refl _)⟩
 | false =>
  obtain ⟨hnp,hsu⟩:=ha.on;obtain ⟨rfl,hok, -⟩:=id ha;obtain ⟨p1,p2,p3⟩:=Am.WC hsu hK hnp.kok (Nat.le_trans hok.ls.b hBC);obtain ⟨k1,k2, -⟩:=Aj.dA hok;obtain ⟨k3,k4⟩:=Aj.ApA z.BN;have kg:=Aj.Asn hok;rw [hid,hn] at kg;refine (Aow hg hR hx3 i hx hz hnp hK hC (hw _ (List.mem_of_getElem? hy)) (by show (Ua p.ls).length<=4096;rw [AaL];exact hls.1) hi (by rw [p2];exact Ana hC kg k2)).mono ?_;rintro e w' ⟨v,o',rfl,hs,rfl,hg'⟩;rw [p2,Air hi hC kg k2] at hg';have:=hput w' o' _ z.BN.tick.1 false _ xs (K+6) B (by omega) (Nat.le_refl _) hg' (.mk p1 k1 p3) (by rw [k3,hid]) (by rw [k4,hn]) (hls.send hi kg k2);rw [WT hb] at this;exact ⟨_,o',rfl,hs.mono (Ait hM hg.2.2.1 hx),rfl,this⟩
theorem AnO (hM:M0<R) (h:PAt w o R pg pn C K B p) (hK:K+600<65536) (hBC:B+B<=C) (hC:B+B<=90000) (k:Nat) :
  Calls prog 16 #[.pointer (some ⟨pg,0,none⟩), .int .i64 (k:Int)] w (XL (EN M0) w o fun v w' o'=>v = .int .i64 (p.take k).2/\PAt w' o' R pg pn C (K+3) (B+B) (p.take k).1):=by
 obtain ⟨hls,hR⟩:=h.Aqy
 cases hk:p.ls[k]? with
 | none =>
  have hlen:p.ls.length<=k:=List.getElem?_eq_none_iff.1 hk;obtain ⟨xs,zs,hg, -⟩:=id h;refine (ArB hg (k:Int) (by unfold GN.may;rw [if_pos (by right;show ((Ua p.ls).length:Int)<=(k:Int);rw [AaL];omega)];decide)).mono ?_;rintro e w' ⟨v,o',rfl,hs,rfl⟩;unfold PG.take;rw [hk];exact ⟨_,o',rfl,hs.mono (fun _ h=>h.elim),rfl,(h.step0 hs).mono (by omega) (by omega)⟩
 | some m =>
  obtain ⟨src,dst,m⟩:=m;obtain ⟨e1,e2,e3,e4,e5⟩:=hls.2 _ (List.mem_of_getElem? hk);dsimp only at e1 e2 e3 e4 e5;obtain ⟨y,b,hy,hb⟩:=h.look e2;obtain ⟨xs,zs,x,z,hg,hx3,hyn,hx,hz,ha,hid,hn,hput⟩:=h.node hy hb;have hkl:k<(Ua p.ls).length:=by rw [AaL];exact (List.getElem?_eq_some_iff.1 hk).1
  have hat:=Asm hk hkl;have hpt:∀ (er:Int) (p':PG),(if p.cuts src dst=true then ((p,65):PG × Int) else
    match p.ys[dst]?,p.off[dst]? with
    | some y,some false=>({ p with ys:=p.ys.set dst (y.hear src m).1,ls:=AjN (p.ls.take k++p.ls.drop (k+1)) dst (y.hear src m).2 },0)
    | _,_=>({ p with ls:=p.ls.take k++p.ls.drop (k+1) },9))=(p',er)->p.take k=(p',er):=by
   intro er p' h;unfold PG.take;rw [hk];exact h
  rw [hy,hb] at hpt;refine AoA hg hR (by show (Ua p.ls).length<=4096;rw [AaL];exact hls.1) k hkl (by show GN.LOk p.ys.length (Ua p.ls)[k];rw [hat];exact ⟨e1,e2,e3⟩) (show EN M0 (R+2) by unfold EN;omega) ?_ ?_
  ·intro hc W oW st hnt st2;have hc':p.cuts src dst=true:=by
    have:(⟨p.ys.length,Ua p.ls,p.cut⟩:GN).cuts (Ua p.ls)[k].src (Ua p.ls)[k].dst=true:=hc;rw [hat] at this;exact this
   rw [hpt 65 p (by rw [if_pos hc'])];have hg':=hg.Anc hR hx3 st2 hnt;have hp:=hput W oW z y b p.ls xs (K+3) (B+B) (by omega) (by omega) (by rw [WT hz];exact hg') (ha.mono (by omega) (by omega)) hid hn (hls.mono (by omega));rw [WT hy,WT hb] at hp;exact ⟨rfl,hp⟩
  ·intro hc W oW bv b1 b2 st hnt hb1 hb2 hbv;have hc':¬ p.cuts src dst=true:=by
    have:(⟨p.ys.length,Ua p.ls,p.cut⟩:GN).cuts (Ua p.ls)[k].src (Ua p.ls)[k].dst=false:=hc;rw [hat] at this;rw [show p.cuts src dst=false from this];decide
   have hg':=hg.Anc hR hx3 st hnt;have hb2':At0 W oW b2 (.cells (Aaa (Ua p.ls)[k] bv).toArray 104):=hb2;have AzV:Bytes W oW bv (Ua p.ls)[k].b:=hbv;rw [hat] at hb2' AzV;show Calls prog 43 #[_, .int .i64 ((Ua p.ls)[k].dst:Int),_] W _;rw [hat];have hnx:=hg'.2.2.2.2 dst x z hx hz;rw [show (⟨p.ys.length,Ua p.ls,p.cut⟩:GN).without k=_ from AiT _ _ _ _] at hg'
   cases b with
   | true =>
    refine (Acd hg'.1 dst hx 56 #[.pointer (some ⟨b1,0,none⟩), .pointer (some ⟨b2,0,none⟩)] _ Tryz.call56 (AmD hnx.1 hnx.2 ha.dead _ _) (fun e w' hq=>⟨_,hq.1⟩)).mono ?_;rintro e w' ⟨rfl,rfl⟩;rw [hpt 9 _ (by rw [if_neg hc'])];have hp:=hput W oW z y true _ xs (K+3) (B+B) (by omega) (by omega) (by rw [WT hz];exact hg') (ha.mono (by omega) (by omega)) hid hn (hls.without.mono (by omega));rw [WT hy,WT hb] at hp;exact ⟨_,oW,rfl,aj.refl _ _ _,⟨_,rfl⟩,rfl,hp⟩
   | false =>
    obtain ⟨hnp,hsu⟩:=ha.on;obtain ⟨rfl,hok, -⟩:=id ha;obtain ⟨ba,bc,rfl⟩:=Aq AzV;have hlb:=hok.ls.b;have hpl:=Aje e4.n1;obtain ⟨p1,p2,p3⟩:=Am.Xk hsu hK hnp.kok src m (by have:AP z.s.kept.lines<=B:=hlb;omega) (fun mine has hr q hq=>by
     have h2:=hok.ro;rw [show z.BN.BB = .stands mine has from hr] at h2;exact Nat.le_trans (h2.2.2.2 q hq).b (by omega))
    obtain ⟨k1,k2, -⟩:=Aj.dX hok (src:=src) e4 B e5;obtain ⟨k3,k4⟩:=Aj.Arx z.BN src m;have kg:=Aj.AsG hok (src:=src) (by rw [hn];exact e1) (by rw [hid];exact e3) e5;rw [hid,hn] at kg;have dr:aj ai W oW W.drew oW:=(aj.refl ai W oW).drew;have hhe:=bC (m:=m) (hnx.2.step0 dr) hnp hK src (by have:z.n=p.ys.length:=hn;omega) (by have:z.id=dst:=hid;omega) (AzV.step dr id) (by show m.put.length<=1000000;omega) (ET e4) (by have:AP m.ls<=B:=e5;omega);refine (Acd hg'.1 dst hx 56 #[.pointer (some ⟨b1,0,none⟩), .pointer (some ⟨b2,0,none⟩)] _ Tryz.call56 (AmF hg' hR hx3 dst hx hz hnp.sp.dead (by show (Ua _).length<=4096;rw [AaL];exact hls.without.1) e2 hhe (by rw [p2];exact Ana hC kg k2) hb1 hb2') (fun e w' hq=>by obtain ⟨v, -,hv, -⟩:=hq;exact ⟨v,hv⟩)).mono ?_;rintro e w' ⟨v,o',rfl,hs,rfl,hg2⟩;rw [p2,Air e2 hC kg k2] at hg2;rw [hpt 0 _ (by rw [if_neg hc'])];have hp:=hput w' o' _ (z.BN.hear src m).1 false _ xs (K+3) (B+B) (by omega) (by omega) hg2 (.mk p1 k1 p3) (by rw [k3,hid]) (by rw [k4,hn]) ((hls.without.mono (by omega)).send e2 kg k2);rw [WT hb] at hp;exact ⟨_,o',rfl,hs.mono (Ait hM hg.2.2.1 hx),⟨_,rfl⟩,rfl,hp⟩
theorem Ajl (hM:M0<R) (h:PAt w o R pg pn C K B p) (hK:K+600<65536) {bv:Value} {l:List UInt8} (hbv:Bytes w o bv l) (hBC:B+l.length<=C) (hC:B+l.length<=90000) (i:Nat) (hi:i<p.ys.length) :
  Calls prog 12 #[.pointer (some ⟨pg,0,none⟩), .int .i64 (i:Int),bv] w (XL (EN M0) w o fun v w' o'=>v = .int .i64 (p.BL i l).2/\PAt w' o' R pg pn C (K+3) (B+l.length) (p.BL i l).1):=by
 obtain ⟨y,b,hy,hb⟩:=h.look hi;obtain ⟨xs,zs,x,z,hg,hx3,hyn,hx,hz,ha,hid,hn,hput⟩:=h.node hy hb;obtain ⟨hls,hR⟩:=h.Aqy;obtain ⟨h1,h2⟩:=hg.2.2.2.2 i x z hx hz;unfold PG.BL;rw [hy,hb];obtain ⟨ba,bc,rfl⟩:=Aq hbv
 cases b with
 | true =>
  refine (AeX (er:=9) (z':=z) hg hR hx3 i hx hz fun W oW st=>(dJ (h2.step0 st) ha.dead ba l.length bc).mono ?_).mono ?_
  ·rintro e w' ⟨rfl,rfl⟩;exact ⟨_,oW,rfl,aj.refl _ _ _,rfl,h2.step0 st⟩
  ·rintro e w' ⟨v,o',rfl,hs,rfl,hg'⟩;have hp:=hput w' o' z y true p.ls xs (K+3) (B+l.length) (by omega) (by omega) hg' (ha.mono (by omega) (by omega)) hid hn (hls.mono (by omega));rw [WT hy,WT hb] at hp;exact ⟨_,o',rfl,hs.mono (AcR hM hg.2.2.1 hx),rfl,hp⟩
 | false =>
  obtain ⟨hnp,hsu⟩:=ha.on;obtain ⟨rfl,hok, -⟩:=id ha;have hlb:AP z.s.kept.lines<=B:=hok.ls.b;obtain ⟨p1,p2,p3⟩:=Am.QL hsu hK hnp.kok l (by omega);obtain ⟨k1, -⟩:=Aj.AiK hok l;obtain ⟨k3,k4⟩:=Aj.AjV z.BN l;refine (AeX hg hR hx3 i hx hz fun W oW st=>UW (h2.step0 st) hnp hK (hbv.step st id) hC).mono ?_;rintro e w' ⟨v,o',rfl,hs,rfl,hg'⟩;have hp:=hput w' o' _ (z.BN.BL l).1 false p.ls xs (K+3) (B+l.length) (by omega) (by omega) hg' (.mk p1 k1 p3) (by rw [k3,hid]) (by rw [k4,hn]) (hls.mono (by omega));rw [WT hb] at hp;exact ⟨_,o',rfl,hs.mono (AcR hM hg.2.2.1 hx),by rw [p2],hp⟩
theorem Aof (hM:M0<R) (h:PAt w o R pg pn C K B p) (i:Nat) (hi:i<p.ys.length) :
  Calls prog 13 #[.pointer (some ⟨pg,0,none⟩), .int .i64 (i:Int)] w (XL (EN M0) w o fun v w' o'=>v = .int .i64 0/\PAt w' o' R pg pn C K B (p.kill i)):=by
 obtain ⟨y,b,hy,hb⟩:=h.look hi;obtain ⟨xs,zs,x,z,hg,hx3,hyn,hx,hz,ha,hid,hn,hput⟩:=h.node hy hb;obtain ⟨hls,hR⟩:=h.Aqy;refine (AoD hg hR hx3 i hx hz).mono ?_;rintro e w' ⟨v,o',rfl,hs,rfl,hg'⟩;have hp:=hput w' o' _ y true p.ls xs K B (Nat.le_refl _) (Nat.le_refl _) hg' ha.kill hid hn hls;rw [WT hy] at hp;exact ⟨_,o',rfl,hs.mono (AcR hM hg.2.2.1 hx),rfl,hp⟩
theorem Asy (R:Nat) (xs:List xI):∃ Mx,R+20<=Mx/\∀ y ∈ xs,y.M+4<=Mx:=by
 induction xs with
 | nil=>exact ⟨R+20,Nat.le_refl _,by simp⟩
 | cons a l ih =>
  obtain ⟨m,h1,h2⟩:=ih;refine ⟨max m (a.M+4),by omega,fun y hy => ?_⟩
  rcases List.mem_cons.1 hy with rfl | hy
  ·omega
  ·have:=h2 y hy;omega
theorem AkZ (hM:M0<R) (h:PAt w o R pg pn C K B p) (hK:K<65536) (i:Nat) (hi:i<p.ys.length) (c:Nat) :
  Calls prog 17 #[.pointer (some ⟨pg,0,none⟩), .int .i64 (i:Int), .slice none 0 c] w (XL (EN M0) w o fun v w' o'=>v = .int .i64 0/\PAt w' o' R pg pn C K B (p.start i)):=by
 obtain ⟨y,b,hy,hb⟩:=h.look hi;obtain ⟨xs,zs,x,z,hg,hx3,hyn,hx,hz,ha,hid,hn,hput⟩:=h.node hy hb;obtain ⟨hls,hR⟩:=h.Aqy;obtain ⟨rfl,hok,t,hsu,hzs⟩:=id ha;have hsg:=hsu.sp.sg;have htop:=hsu.top;have hlen:=hsg.len;have hzd:z.s.d.BJ []={ t.d with left := -1 }:=by
  rw [hzs]
  cases b with
  | true=>exact jL hsg.dd hsg.row []
  | false=>exact Ags hsg.dd hsg.row []
 have hrow:z.s.d.row.length<=1000000:=by
  rw [hzs]
  cases b with
  | true=>show t.d.row.length<=1000000;rw [hsg.row];simp
  | false=>show t.d.row.length<=1000000;rw [hsg.row];simp
 have hkept:z.BN.k=t.kept:=by
  show z.s.kept=t.kept;rw [hzs]
  cases b <;> rfl
 have hxz:xs.length=zs.length:=hg.2.2.2.1;obtain ⟨Mx,hMx⟩:=Asy R xs;refine (AmH (Mx:=Mx) (t:={ t with d:={ t.d with left := -1 } }) hg hR hx3 i hx hz hMx (fs:=[]) (.inl ⟨⟨_,_,rfl⟩,rfl,rfl⟩) (by simp) hrow hzd (hsg.jH (-1) (by omega)) hK (by show t.d.pages.length<=400;omega)).mono ?_;rintro e w' ⟨v,o',rfl,hs,rfl,x',hg'⟩;have hok0:=hok.toN0;have hp:=hput w' o' _ (Aj.new i p.ys.length z.BN.k) false p.ls _ K B (Nat.le_refl _) (Nat.le_refl _) hg' (.mk (by rw [hkept, <-hyn, <-hxz];rfl) (Aj.TB (by omega) (by omega) hi hok0.ls hok0.cp hok0.pt) ⟨⟨hsg.jH (-1) (by omega)⟩,by show (-1:Int)<0;omega,hsu.room,hsu.top⟩) rfl rfl hls;unfold PG.start;rw [hy];exact ⟨_,o',rfl,hs.mono (Aju hM hg.2.2.1 hx hMx.1),rfl,hp⟩
end
section
variable {w w':World} {o o':Own} {R pg pn C K B M0:Nat} {p:PG}
theorem PG.fF (n i:Nat) (h:i<n):(PG.new n).ys[i]?=some (Aj.new i n ⟨0,0,[]⟩)/\(PG.new n).off[i]?=some false:=by
 unfold PG.new;refine ⟨?_, ?_⟩
 ·show ((List.range n).map _)[i]?=_;rw [List.getElem?_map,List.getElem?_range h];rfl
 ·show (List.replicate n false)[i]?=_;rw [List.getElem?_replicate,if_pos h]
theorem ApO (hM:M0<R) (n pages:Nat) (hn1:1<=n) (hn3:n<=3) (hp:8<=pages) (hp4:pages<=399) (hC:C+4200<=480*(pages / 2 - 1)) (w:World) (o:Own) :
  Calls prog 9 #[.int .i64 (n:Int), .int .i64 (pages:Int)] w (XL (EN M0) w o fun v w' o'=>∃ pg pn,v = .tuple #[.pointer (some ⟨pg,0,none⟩), .int .i64 0]/\PAt w' o' R pg pn C 0 0 (PG.new n)):=by
 refine (Aky hM n pages hn1 hn3 hp (by omega) w o).mono ?_;rintro e w' ⟨v,o',rfl,hs,pg,pn,xs,rfl,hg,hx⟩;have hl:(PG.new n).ys.length=n:=by simp [PG.new]
 refine ⟨_,o',rfl,hs,pg,pn,rfl,xs,_,by rw [hl];exact hg,by rw [hl,AeN],by rw [hl];simp [PG.new],by rw [hl];exact hn3,by omega,⟨by simp [PG.new],by simp [PG.new]⟩,fun i z y b hz hy hb => ?_⟩;have hi:i<n:=by
  have:=(List.getElem?_eq_some_iff.1 hz).1;rw [AeN] at this;exact this
 obtain ⟨e1,e2⟩:=PG.fF n i hi;rw [e1] at hy;rw [e2] at hb
 cases hy;cases hb
 unfold Ahz at hz;rw [List.getElem?_map,List.getElem?_range hi] at hz
 cases hz
 exact ⟨rfl,hl.symm, .mk rfl (Aj.TB hn1 hn3 hi (.nil _) (Nat.le_refl _) (by decide)) ⟨.new hp (by omega),by show (-1:Int)<0;omega,hC,by show pages / 2<=199;omega⟩⟩
theorem Agv (h:PAt w o R pg pn C K B p) {i:Nat} {y:Aj} {b:Bool} (hy:p.ys[i]?=some y) (hb:y.OD=b) :
  Calls prog 11 #[.pointer (some ⟨pg,0,none⟩), .int .i64 (i:Int)] w fun e w'=>e = .returned (.bool b)/\w=w':=by
 obtain ⟨y',f,hy',hf⟩:=h.look (List.getElem?_eq_some_iff.1 hy).1;rw [hy] at hy';cases hy';obtain ⟨xs,zs,x,z,hg,hx3,hyn,hx,hz,⟨rfl, -⟩,hid,hn,hput⟩:=h.node hy hf;exact AmN hg i hx hz hb
theorem Aoh (h:PAt w o R pg pn C K B p) {i:Nat} {b:Bool} (hi:i<p.ys.length) (hb:p.off[i]?=some b) :
  Calls prog 28 #[.pointer (some ⟨pg,0,none⟩), .int .i64 (i:Int)] w fun e w'=>e = .returned (.bool b)/\w=w':=by
 obtain ⟨y,f,hy,hf⟩:=h.look hi;rw [hb] at hf;cases hf;obtain ⟨xs,zs,x,z,hg,hx3,hyn,hx,hz,ha,hid,hn,hput⟩:=h.node hy hb;exact Apg hg i hx hz ha.dead
theorem PAt.step3 (h:PAt w o R pg pn C K B p) (s:aj (ak (R+3)) w o w' o'):PAt w' o' R pg pn C K B p:=by
 obtain ⟨xs,zs,h1,h2,h3,h4,hR,h5,h6⟩:=h;exact ⟨xs,zs,h1.step3 s hR (by have:=h1.2.2.2.1;omega),h2,h3,h4,hR,h5,h6⟩
theorem Aiq (hM:M0<R) (h:PAt w o R pg pn C K B p) (hC:B<=90000) {i:Nat} {y:Aj} (hy:p.ys[i]?=some y) :
  Calls prog 18 #[.pointer (some ⟨pg,0,none⟩), .int .i64 (i:Int)] w (XL (EN M0) w o fun v w' o'=>(∃ lv base,v=Dy y.k.promised y.k.current lv/\Lines w' o' base lv y.k.lines)/\PAt w' o' R pg pn C K B p):=by
 obtain ⟨y',f,hy',hf⟩:=h.look (List.getElem?_eq_some_iff.1 hy).1;rw [hy] at hy';cases hy';obtain ⟨xs,zs,x,z,hg,hx3,hyn,hx,hz,⟨rfl,hok, -⟩,hid,hn,hput⟩:=h.node hy hf;refine (AoT hg i hx hz (En.small hok.ls (by omega))).mono ?_;rintro e w' ⟨v,o',rfl,hs,hq⟩;exact ⟨_,o',rfl,hs.mono fun k (hk:k=R+3)=>by show M0<k;omega,hq,h.step3 hs⟩
theorem AcQ (hM:M0<R) (h:PAt w o R pg pn C K B p) (hC:B<=90000) {i:Nat} {y:Aj} (hy:p.ys[i]?=some y) :
  Calls prog 19 #[.pointer (some ⟨pg,0,none⟩), .int .i64 (i:Int)] w (XL (EN M0) w o fun v w' o'=>(∃ base,Lines w' o' base v (y.k.lines.take y.Ag))/\PAt w' o' R pg pn C K B p):=by
 obtain ⟨y',f,hy',hf⟩:=h.look (List.getElem?_eq_some_iff.1 hy).1;rw [hy] at hy';cases hy';obtain ⟨xs,zs,x,z,hg,hx3,hyn,hx,hz,⟨rfl,hok, -⟩,hid,hn,hput⟩:=h.node hy hf;refine (Ado hg i hx hz (En.small hok.ls (by omega)) hok.co).mono ?_;rintro e w' ⟨v,o',rfl,hs,hq⟩;exact ⟨_,o',rfl,hs.mono fun k (hk:k=R+3)=>by show M0<k;omega,hq,h.step3 hs⟩
end
def wkT:Nat->PG
 | 0=>PG.new 3
 | k+1=>((wkT k).tick 0).1
def wkK:Nat->PG
 | 0=>wkT 4
 | k+1=>((wkK k).take 0).1
theorem Ase:∀ k,k<4->((wkT k).tick 0).2=0:=by decide +kernel
theorem Asi:∀ k,k<=4->(wkT k).fits 20=true/\(wkT k).ys.length=3/\∀ y ∈ (wkT k).ys,y.waited<=1000000:=by decide +kernel
theorem AmZ:∀ k,k<=8->(wkK k).fits 20=true/\(wkK k).ys.length=3:=by decide +kernel
def wkP:PG:=((wkK 8).BL 0 [97]).1
theorem Asf:((wkK 8).BL 0 [97]).2=0:=by decide +kernel
theorem Asg:((wkK 8).ys[0]?).map Aj.OD=some true:=by decide +kernel
theorem AmY:(wkP.ys[0]?).map (fun y=>y.k.lines.length)=some 1/\wkP.ys.length=3:=by decide +kernel
theorem Asj:(wkP.kill 0).off[0]?=some true:=by decide +kernel
theorem AjL:(((wkP.kill 0).start 0).ys[0]?).map Aj.OD=some false/\(((wkP.kill 0).start 0).ys[0]?).map (fun y=>y.k.lines.length)=some 1:=by decide +kernel
theorem Agp {α β:Type} {f:α->β} {x:Option α} {b:β} (h:x.map f=some b):∃ a,x=some a/\f a=b:=by
 cases x with
 | none=>simp at h
 | some a=>exact ⟨a,rfl,by simpa using h⟩
theorem Lines.Awo {w:World} {o:Own} {base:Nat} {v:Value} {ls:List Ar} (h:Lines w o base v ls) {n:Nat} (hn:ls.length=n):∃ a c,v = .slice a n c:=by
 subst hn;exact h.form
theorem AeB (w:World) (o:Own):Calls prog 20 #[] w (XL ai w o fun v _ _=>v = .bool true):=by
 obtain ⟨M, -,hM⟩:=EZ o 0 w.heap.size;have hMR:M<M+1:=Nat.lt_succ_self _;have hMH:=ae hM;have hc:=ae (ApO (C:=19000) hMR 3 100 (by omega) (by omega) (by omega) (by omega) (by omega) w o);have e0:((0:Nat):Int)=0:=rfl;have e0H:=ae e0;clear hM e0;go_enter func20,ntmps20;go_wp2_with fail;refine hc.out.mono ?_;rintro e W1 ⟨v,o1,rfl,hs,pg,pn,rfl,hp⟩;have hF:=ae (aI hs (hp.mono (K':=6*0) (B':=20) (Nat.zero_le _) (Nat.zero_le _)));clear hc hs hp;go_wp2_with fail
 go_loopw [3] (fun i wr=>∃ (k:Nat) (oj:Own),k<=4/\i = .int .i64 k/\Hid (aj (EN M) w o wr oj/\PAt wr oj (M+1) pg pn 19000 (6*k) 20 (wkT k))) (fun i _=>4 - (intOf i).toNat)
 case atStart=>exact ⟨0,o1,Nat.zero_le _,rfl,hF⟩
 case round =>
  clear hF;obtain ⟨k,oj,hk,rfl,hr⟩:=hrel
  by_cases hlt:k<4
  ·obtain ⟨hst,hp⟩:=hr.out;obtain ⟨f1,f2,f3⟩:=Asi k (by omega);have hc:=AnJ hMR hp (by omega) (by omega) (by omega) 0 (by rw [f2];omega) f3;rw [e0H.out,Ase k hlt] at hc;have WV:=ae hc;have Abe:=ae hst;have AbY:(0:Int)<=(k:Int)/\(k:Int)<4:=by omega
   clear hst hp f1 f2 f3 hc hr;go_wp2_with fail;refine WV.out.mono ?_;rintro e V ⟨v,o2,rfl,hs,rfl,hp⟩;have hF:=ae (aI (Abe.out.trans hs) (hp.mono (K':=6*(k+1)) (B':=20) (by omega) (Nat.le_refl _)));have hF':Hid (aj (EN M) w o V o2/\PAt V o2 (M+1) pg pn 19000 (6*(k+1)) 20 (wkT (k+1))):=hF;clear hs hp hF WV Abe;go_wp2_with fail;go_roundw
   case rel=>exact ⟨k+1,o2,by omega,by go_num,hF'⟩
   case measure=>simp [intOf];omega
  ·obtain rfl:k=4:=by omega
   have hr':Hid (aj (EN M) w o wr oj/\PAt wr oj (M+1) pg pn 19000 (24+3*0) 20 (wkK 0)):=hr;clear hr hlt hk;rw [show ((4:Nat):Int)=4 from rfl];go_wp2_with fail
   go_loopw [4] (fun i wr=>∃ (k:Nat) (oj:Own),k<=8/\i = .int .i64 k/\Hid (aj (EN M) w o wr oj/\PAt wr oj (M+1) pg pn 19000 (24+3*k) 20 (wkK k))) (fun i _=>8 - (intOf i).toNat)
   case atStart=>exact ⟨0,oj,Nat.zero_le _,rfl,hr'⟩
   case round =>
    clear hr';obtain ⟨k,ok,hk,rfl,hr⟩:=hrel
    by_cases hlt:k<8
    ·obtain ⟨hst,hp⟩:=hr.out;have hc:=AnO hMR hp (by omega) (by omega) (by omega) 0;rw [e0H.out] at hc;have WV:=ae hc;have Abe:=ae hst;have AbY:(0:Int)<=(k:Int)/\(k:Int)<8:=by omega
     clear hst hp hc hr;go_wp2_with fail;refine WV.out.mono ?_;rintro e V ⟨v,o2,rfl,hs,rfl,hp⟩;have hF:Hid (aj (EN M) w o V o2/\PAt V o2 (M+1) pg pn 19000 (24+3*(k+1)) 20 (wkK (k+1))):=ae (aI (Abe.out.trans hs) ((hp.mono (K':=24+3*(k+1)) (by omega) (Nat.le_refl _)).lower (AmZ (k+1) (by omega)).1));clear hs hp WV Abe;go_wp2_with fail;go_roundw
     case rel=>exact ⟨k+1,o2,by omega,by go_num,hF⟩
     case measure=>simp [intOf];omega
    ·obtain rfl:k=8:=by omega
     obtain ⟨hst,hp⟩:=hr.out;obtain ⟨y,hy,hl⟩:=Agp Asg;have hc:=Agv hp hy hl;rw [e0H.out] at hc;have WV:=ae hc;have hG:=ae (aI hst hp);clear hst hp hc hr hlt hk hy hl;rw [show ((8:Nat):Int)=8 from rfl];go_wp2_with fail;refine WV.out.mono ?_;rintro e W2 ⟨rfl,rfl⟩;obtain ⟨W2,hW2⟩:∃ W,wr=W:=⟨_,rfl⟩;subst hW2;obtain ⟨hst,hp⟩:=hG.out;have hcv:(convert 29 29 (.slice (some ⟨wr.heap.size,0,none⟩) 1 1)).run prog (wr.alloc (.cells #[.int .u8 97] 5)) = .ok (.slice (some ⟨wr.heap.size,0,none⟩) 1 1) (wr.alloc (.cells #[.int .u8 97] 5 (1,2))):=GU wr [.int .u8 97] 1 1;have hb:Bytes (wr.alloc (.cells (bvs [97]).toArray 5 (1,2))) (Ak ok wr.heap.size (0,0)) (.slice (some ⟨wr.heap.size,0,none⟩) 1 1) [97] := .inr ⟨wr.heap.size,0,1,rfl,by decide,by decide,by rw [Au],by simp,AV (heap_alloc_new wr _)⟩;have s:=(aj.refl ai wr ok).alloc (.cells (bvs [97]).toArray 5 (1,2)) (0,0);have AqP:(wr.alloc (.cells #[.int .u8 97] 5 (1,2)))=wr.alloc (.cells (bvs [97]).toArray 5 (1,2)):=rfl;obtain ⟨V,hV⟩:∃ V,wr.alloc (.cells (bvs [97]).toArray 5 (1,2))=V:=⟨_,rfl⟩;obtain ⟨oV,hoV⟩:∃ O,Ak ok wr.heap.size (0,0)=O:=⟨_,rfl⟩;rw [hV] at hb s AqP;rw [hoV] at hb s;rw [AqP] at hcv;have hc:=Ajl hMR (hp.step0 s) (by omega) hb (by simp) (by simp) 0 (by rw [(AmZ 8 (by omega)).2];omega);rw [e0H.out,Asf] at hc;have hc2:=ae hc;have hst2:=ae (hst.trans (s.mono (T':=EN M) fun _ h=>h.elim));clear hst hp hb s AqP hV hoV hc WV hG;go_wp2_with fail;refine hc2.out.mono ?_;rintro e W3 ⟨v,o3,rfl,hs,rfl,hp⟩;have hp3:PAt W3 o3 (M+1) pg pn 19000 60 30 wkP:=hp.mono (by omega) (by simp);obtain ⟨⟨y3,hy3,hl3⟩,hlen⟩:=aI (Agp AmY.1) AmY.2;have hc:=Aiq hMR hp3 (by omega) hy3;rw [e0H.out] at hc;have WV:=ae hc;have Abe:=ae (hst2.out.trans hs);have hf2:=He;clear hp hp3 hs hc hc2 hst2;go_wp2_with fail;refine WV.out.mono ?_;rintro e W4 ⟨v,o4,rfl,hs,⟨lv,base,rfl,hln⟩,hp⟩;obtain ⟨la,lc,rfl⟩:=hln.Awo hl3;have hc:=Aof hMR hp 0 (by rw [hlen];omega);rw [e0H.out] at hc;have hc2:=ae hc;have hst2:=ae (Abe.out.trans hs);clear hp hs hc WV Abe hln;unfold Dy;go_wp2_with fail;refine hc2.out.mono ?_;rintro e W5 ⟨v,o5,rfl,hs,rfl,hp⟩;have hlen5:(wkP.kill 0).ys.length=3:=hlen;have hc:=Aoh hp (i:=0) (by rw [hlen5];omega) Asj;rw [e0H.out] at hc;have WV:=ae hc;have hG:=ae (aI (hst2.out.trans hs) hp);clear hp hs hc hc2 hst2;go_wp2_with fail;refine WV.out.mono ?_;rintro e W6 ⟨rfl,rfl⟩;obtain ⟨hst,hp⟩:=hG.out;have hc:=AkZ hMR hp (by omega) 0 (by rw [hlen5];omega) 0;rw [e0H.out] at hc;have hc2:=ae hc;have hst2:=ae hst;clear hp hst hc hG WV;go_wp2_with fail;refine hc2.out.mono ?_;rintro e W7 ⟨v,o7,rfl,hs,rfl,hp⟩;obtain ⟨y7,hy7,wY⟩:=Agp AjL.1;obtain ⟨y8,hy8,hl8⟩:=Agp AjL.2;have hc:=Agv hp hy7 wY;rw [e0H.out] at hc;have WV:=ae hc;have hG:=ae (aI (hst2.out.trans hs) hp);clear hp hs hc hc2 hst2;go_wp2_with fail;refine WV.out.mono ?_;rintro e W8 ⟨rfl,rfl⟩;obtain ⟨hst,hp⟩:=hG.out;have hc:=Aiq hMR hp (by omega) hy8;rw [e0H.out] at hc;have hc2:=ae hc;have hst2:=ae hst;clear hp hst hc hG WV;go_wp2_with fail;refine hc2.out.mono ?_;rintro e W9 ⟨v,o9,rfl,hs,⟨lv,base,rfl,hln⟩,hp⟩;obtain ⟨la,lc,rfl⟩:=hln.Awo hl8;have wL:=ae (hst2.out.trans hs);clear hp hs hc2 hst2 hln;unfold Dy;go_wp2_with fail;go_ret;exact ⟨_,_,rfl,wL.out.Hm hMH.out,rfl⟩
section
variable {H:Type} {enc:TypeId × Value->H} {W:World}
theorem bytes_of_nums:∀ (l:List Int),(∀ a ∈ l,(Lit.int .u8 a).wf=true)->l.map (Value.int .u8)=bvs (l.map fun a=>UInt8.ofNat a.toNat)
 | [],_=>rfl
 | a :: r,h=>by
  have h1:=Go.bounds_u8 (h a (by simp));have ih:=bytes_of_nums r (fun x hx=>h x (List.mem_cons_of_mem _ hx));rw [List.map_cons,ih];have:Value.int .u8 a=bv (UInt8.ofNat a.toNat):=by
   unfold bv;rw [UInt8.toNat_ofNat'];congr 1;omega
  rw [this];rfl
theorem JR {fuel:Nat} {v:Value} {x:DataW H × List MemPlace} (h:DataW.trod enc prog W 0 (fun _=>true) true fuel 29 [v]=some x):∃ l:List UInt8,Bytes W (fun _=>(0,0)) v l:=by
 obtain ⟨l,h1,h2⟩:=YA underlying29 underlying5 (by kernel_rfl) h;refine ⟨l.map fun a=>UInt8.ofNat a.toNat, ?_⟩;unfold Bytes;rw [List.length_map, <-bytes_of_nums l h2];exact h1
end
structure AbF where
 k:Nat
 i:Int
 j:Int
 n:Int
 b:List UInt8
 f:List Int
structure AbF.Wf (x:AbF):Prop where
 k:x.k<256
 i : -9223372036854775808<=x.i/\x.i<=9223372036854775807
 j : -9223372036854775808<=x.j/\x.j<=9223372036854775807
 n : -9223372036854775808<=x.n/\x.n<=9223372036854775807
 f:∀ a ∈ x.f, -9223372036854775808<=a/\a<=9223372036854775807
def AbM (x:AbF) (bv fv:Value):List Value:=[.int .u8 (x.k:Int), .int .i64 x.i, .int .i64 x.j, .int .i64 x.n,bv,fv]
def VW (w:World) (o:Own) (v:Value) (l:List AbF):Prop:=
 ((∃ a c,v = .slice a 0 c)/\l=[]) \/ ∃ b off cap,v = .slice (some ⟨b,off,none⟩) l.length cap/\l.length<=cap/\cap<=maxLen/\(o b).1=0/\b<w.heap.size /\
  ∀ i (h:i<l.length),l[i].Wf/\∃ bv fv,w.rangeAt b (off+i*6) (AbM l[i] bv fv)/\Bytes w o bv l[i].b/\Ints w o fv l[i].f
theorem VW.step {T:Nat->Prop} {w w':World} {o o':Own} {v:Value} {l:List AbF} (h:VW w o v l) (s:aj T w o w' o') (hT:¬ T 0):VW w' o' v l:=by
 rcases h with h | ⟨b,off,cap,hv,hl,hm,ho,hb,hr⟩
 ·exact .inl h
 ·refine .inr ⟨b,off,cap,hv,hl,hm,by rw [s.own b hb];exact ho,Nat.lt_of_lt_of_le hb s.size,fun i hi => ?_⟩;obtain ⟨h1,bv,fv,h2,h3,h4⟩:=hr i hi;exact ⟨h1,bv,fv,Cf h2 (s.block b hb (by rw [ho];exact hT)),h3.step s hT,h4.step s hT⟩
theorem VW.form {w:World} {o:Own} {v:Value} {l:List AbF} (h:VW w o v l):∃ a c,v = .slice a l.length c:=by
 rcases h with ⟨⟨a,c,rfl⟩,rfl⟩ | ⟨b,off,cap,rfl,_⟩ <;> exact ⟨_,_,rfl⟩
theorem VW.at {w:World} {o:Own} {a:Option Addr} {n c:Nat} {l:List AbF} (h:VW w o (.slice a n c) l) {i:Nat} {x:AbF} (hx:l[i]?=some x) :
  ∃ b off bv fv,a=some ⟨b,off,none⟩/\w.rangeAt b (off+i*6) (AbM x bv fv)/\Bytes w o bv x.b/\Ints w o fv x.f/\x.Wf/\b<w.heap.size/\(o b).1=0:=by
 obtain ⟨hi,rfl⟩:=List.getElem?_eq_some_iff.1 hx
 rcases h with ⟨_,rfl⟩ | ⟨b,off,cap,hv,hl,hm,ho,hb,hr⟩
 ·simp at hi
 ·simp only [Value.slice.injEq] at hv;obtain ⟨rfl,rfl,rfl⟩:=hv;obtain ⟨h1,bv,fv,h2,h3,h4⟩:=hr i hi;exact ⟨b,off,bv,fv,rfl,h2,h3,h4,h1,hb,ho⟩
section
variable {H:Type} {enc:TypeId × Value->H} {W:World}
theorem AeY {fuel:Nat} {v:Value} {x:DataW H × List MemPlace} (h:DataW.trod enc prog W 0 (fun _=>true) true fuel 43 [v]=some x):∃ l:List AbF,VW W (fun _=>(0,0)) v l:=by
 have c48:prog.cellsOf 55=6:=by kernel_rfl
 have c5:prog.cellsOf 5=1:=by kernel_rfl
 have c3:prog.cellsOf 3=1:=by kernel_rfl
 have c32:prog.cellsOf 53=1:=by kernel_rfl
 have c23:prog.cellsOf 29=1:=by kernel_rfl
 rcases Lu underlying43 (by omega) h with ⟨a,c,rfl⟩ | ⟨b,off,len,cap,rfl,h0,hlc,hcm,hb,hel⟩
 ·exact ⟨[], .inl ⟨⟨a,c,rfl⟩,rfl⟩⟩
 ·obtain ⟨l,hl,hr⟩:=Ir (fun i (m:AbF)=>m.Wf/\∃ bv fv,W.rangeAt b (off+i*6) (AbM m bv fv)/\Bytes W (fun _=>(0,0)) bv m.b/\Ints W (fun _=>(0,0)) fv m.f) len (fun i hi=>by
   obtain ⟨cs',k1,k2,n,y,k3⟩:=hel i (by omega);rw [c48] at k1 k2;obtain ⟨xs,n',_,_,_,hxs,hf⟩:=DataW.trod_struct underlying55 k3
   match cs',k1 with
   | [v0,v1,v2,v3,v4,v5],_ =>
    have f0:DataW.trod enc prog W 0 (fun _=>true) true n' 5 (([v0,v1,v2,v3,v4,v5].drop 0).take (prog.cellsOf 5))=xs[0]?:=hf 0 _ rfl;have f1:DataW.trod enc prog W 0 (fun _=>true) true n' 3 (([v0,v1,v2,v3,v4,v5].drop 1).take (prog.cellsOf 3))=xs[1]?:=hf 1 _ rfl;have f2:DataW.trod enc prog W 0 (fun _=>true) true n' 3 (([v0,v1,v2,v3,v4,v5].drop 2).take (prog.cellsOf 3))=xs[2]?:=hf 2 _ rfl;have f3:DataW.trod enc prog W 0 (fun _=>true) true n' 3 (([v0,v1,v2,v3,v4,v5].drop 3).take (prog.cellsOf 3))=xs[3]?:=hf 3 _ rfl;have f4:DataW.trod enc prog W 0 (fun _=>true) true n' 29 (([v0,v1,v2,v3,v4,v5].drop 4).take (prog.cellsOf 29))=xs[4]?:=hf 4 _ rfl;have f5:DataW.trod enc prog W 0 (fun _=>true) true n' 53 (([v0,v1,v2,v3,v4,v5].drop 5).take (prog.cellsOf 53))=xs[5]?:=hf 5 _ rfl;have hsz:xs.length=6:=hxs;simp only [c5,c3,c32,c23,List.drop_zero,List.take_succ_cons,List.take_zero,List.drop_succ_cons] at f0 f1 f2 f3 f4 f5;rw [List.getElem?_eq_getElem (by omega)] at f0 f1 f2 f3 f4 f5;obtain ⟨a0,e0,_,w0⟩:=DataW.trod_int underlying5 f0;obtain ⟨a1,e1,_,w1⟩:=DataW.trod_int underlying3 f1;obtain ⟨a2,e2,_,w2⟩:=DataW.trod_int underlying3 f2;obtain ⟨a3,e3,_,w3⟩:=DataW.trod_int underlying3 f3;obtain ⟨bs,hbs⟩:=JR f4;obtain ⟨fs,hfs,hfw⟩:=AjA f5;simp only [List.cons.injEq,and_true] at e0 e1 e2 e3;have b0:=Go.bounds_u8 w0;have b1:=Go.bounds_i64 w1;have b2:=Go.bounds_i64 w2;have b3:=Go.bounds_i64 w3;have hb0:((a0.toNat:Nat):Int)=a0:=by omega
    subst e0 e1 e2 e3;exact ⟨⟨a0.toNat,a1,a2,a3,bs,fs⟩,⟨by show a0.toNat<256;omega,b1,b2,b3,hfw⟩,v4,v5,by unfold AbM;simp only [hb0];exact k2,hbs,hfs⟩)
  exact ⟨l, .inr ⟨b,off,cap,by rw [hl],by omega,hcm,rfl,hb,hr⟩⟩
end
def Alf (l:List AbF) (v:Value):Prop:=∃ r,v = .bool r/\(r=false->l.length<=200/\∀ x ∈ l,x.b.length<=60/\x.f.length<=60)
theorem AdU {w:World} {o:Own} {a:Option Addr} {n c:Nat} {k:Nat} {cs:List Value} (h:sH w o (.slice a n c) k cs):n=k/\k<=maxLen:=by
 rcases h with ⟨⟨a',c',hv⟩,h0, -⟩ | ⟨b,off,cap,hv,hl,hm, -⟩
 ·simp only [Value.slice.injEq] at hv;exact ⟨by omega,by omega⟩
 ·simp only [Value.slice.injEq] at hv;exact ⟨by omega,by omega⟩
theorem Agx {w:World} {o:Own} {v:Value} {l:List AbF} (h:VW w o v l) :
  Calls prog 21 #[v] w (XL ai w o fun v _ _=>Alf l v):=by
 obtain ⟨aa,ac,rfl⟩:=h.form;obtain ⟨N,hN⟩:∃ N,l.length=N:=⟨_,rfl⟩
 by_cases hbig:200<N
 ·rw [hN];have hbI:(200:Int)<(N:Int):=by omega
  clear h hN;go_enter func21,ntmps21;go_wp2_with fail;go_ret;exact ⟨_,o,rfl,aj.refl _ _ _,true,rfl,fun h=>by cases h⟩
 rw [hN] at h ⊢;have hbI:¬ (200:Int)<(N:Int):=by omega
 have hNI:(0:Int)<=(N:Int)/\(N:Int)<=200:=by omega
 have hH:=ae h;have hNH:=ae hN;clear h hN hbig;go_enter func21,ntmps21;go_wp2_with fail
 go_loopw [3] (fun i wr=>∃ (k:Nat),k<=N/\i = .int .i64 k/\(∀ x ∈ l.take k,x.b.length<=60/\x.f.length<=60)/\wr=w) (fun i _=>N - (intOf i).toNat)
 case atStart=>exact ⟨0,Nat.zero_le _,rfl,by simp,rfl⟩
 case round =>
  obtain ⟨k,hk,rfl,hall,hwr⟩:=hrel;subst hwr;have pR:=ae hall;clear hall
  by_cases hlt:k<N
  ·have AbY:(0:Int)<=(k:Int)/\(k:Int)<(N:Int):=by omega
   obtain ⟨x,hx⟩:∃ x,l[k]?=some x:=⟨_,List.getElem?_eq_getElem (by rw [hNH.out];exact hlt)⟩;obtain ⟨b,off,bw,fw,rfl,hrg,hby,hin, -, -, -⟩:=hH.out.at hx;obtain ⟨ya,yc,rfl⟩:=Aq hby;obtain ⟨ia,ic,rfl⟩:=Aq hin;have cB:wr.cell? ⟨b,off+k*6+4,none⟩=some (.slice ya x.b.length yc):=hrg 4 _ rfl;have cF:wr.cell? ⟨b,off+k*6+5,none⟩=some (.slice ia x.f.length ic):=hrg 5 _ rfl;have hxH:=ae hx;obtain ⟨L,hL⟩:∃ L,x.b.length=L:=⟨_,rfl⟩;obtain ⟨Y,hY⟩:∃ L,x.f.length=L:=⟨_,rfl⟩;have hLm:=(AdU hby).2;have hYm:=(AdU hin).2;rw [hL] at cB hLm;rw [hY] at cF hYm;simp only [maxLen] at hLm hYm;have hLI:(0:Int)<=(L:Int)/\(L:Int)<=9223372036854775807/\(0:Int)<=(Y:Int)/\(Y:Int)<=9223372036854775807:=by omega
   have hLH:=ae (aI hL hY);clear hrg hby hin hx hL hY hLm hYm
   by_cases h40:60<L
   ·have Awh:decide ((60:Int)<(L:Int))=true:=decide_eq_true (by omega);go_wp2_with fail;go_ret;exact ⟨_,o,rfl,aj.refl _ _ _,true,rfl,fun h=>by cases h⟩
   by_cases h50:60<Y
   ·have Awh:decide ((60:Int)<(L:Int))=false:=decide_eq_false (by omega);have BaQ:decide ((60:Int)<(Y:Int))=true:=decide_eq_true (by omega);go_wp2_with fail;go_ret;exact ⟨_,o,rfl,aj.refl _ _ _,true,rfl,fun h=>by cases h⟩
   have Awh:decide ((60:Int)<(L:Int))=false:=decide_eq_false (by omega);have BaQ:decide ((60:Int)<(Y:Int))=false:=decide_eq_false (by omega);go_wp2_with fail;go_roundw
   case rel=>exact ⟨k+1,by omega,by go_num,fun z hz=>(by
    rw [List.take_add_one,hxH.out] at hz
    rcases List.mem_append.1 hz with hz | hz
    ·exact pR.out z hz
    ·simp at hz;subst hz;rw [hLH.out.1,hLH.out.2];omega),(by first | trivial | rfl)⟩
   case measure=>simp [intOf];omega
  ·obtain rfl:k=N:=by omega
   have hgood:∀ x ∈ l,x.b.length<=60/\x.f.length<=60:=by
    have:=pR.out;rw [List.take_of_length_le (by rw [hNH.out];omega)] at this;exact this
   have hgH:=ae hgood;clear hgood;go_wp2_with fail;go_ret;exact ⟨_,o,rfl,aj.refl _ _ _,_,rfl,fun _=>⟨by rw [hNH.out];omega,hgH.out⟩⟩
section
variable {w w':World} {o o':Own} {R pg pn C K B M0:Nat} {p:PG}
theorem PAt.fits (h:PAt w o R pg pn C K B p):p.fits B=true:=by
 obtain ⟨xs,zs,h1,h2,h3,h4,hR,h5,h6⟩:=h;unfold PG.fits;rw [Bool.and_eq_true];refine ⟨List.all_eq_true.2 fun y hy => ?_,List.all_eq_true.2 fun x hx=>by simpa using (h5.2 x hx).2.2.2.2⟩;obtain ⟨i,hi,rfl⟩:=List.mem_iff_getElem.1 hy;obtain ⟨-, -, -,hok, -⟩:=h6 i zs[i] p.ys[i] p.off[i] (List.getElem?_eq_getElem (by omega)) (List.getElem?_eq_getElem hi) (List.getElem?_eq_getElem (by omega));unfold PG.bH;simp only [Bool.and_eq_true,decide_eq_true_eq];refine ⟨hok.ls.b, ?_⟩;have hro:=hok.ro
 cases hr:p.ys[i].BB with
 | follows=>rfl
 | leads a b c d=>rfl
 | stands mine has =>
  rw [hr] at hro;refine List.all_eq_true.2 fun q hq => ?_
  cases q with
  | none=>rfl
  | some q=>simpa using (hro.2.2.2 q hq).b
theorem PAt.open (h:PAt w o R pg pn C K B p):∃ xs zs,GAt w o R pg pn xs zs p.net/\xs.length<=3/\∀ (w':World) (o':Own) (p':PG),p'.ys=p.ys->p'.off=p.off->Ago p.ys.length B p'.ls->GAt w' o' R pg pn xs zs p'.net->PAt w' o' R pg pn C K B p':=by
 obtain ⟨xs,zs,h1,h2,h3,h4,hR,h5,h6⟩:=h;refine ⟨xs,zs,h1,by have:=h1.2.2.2.1;omega,fun w' o' p' e1 e2 hl hg => ?_⟩;obtain ⟨ys,off,ls,cut⟩:=p';subst e1 e2;exact ⟨xs,zs,hg,h2,h3,h4,hR,hl,h6⟩
theorem Aer (h:Ago p.ys.length B p.ls):p.net.l.length<=4096:=by unfold PG.net;simp only [AaL];exact h.1
theorem AjH (hM:M0<R) (h:PAt w o R pg pn C K B p) (k:Int) :
  Calls prog 35 #[.pointer (some ⟨pg,0,none⟩), .int .i64 k] w (XL (EN M0) w o fun v w' o'=>(∃ er,v = .int .i64 er)/\PAt w' o' R pg pn C K B (p.drop k)):=by
 obtain ⟨hls,hR⟩:=h.Aqy;obtain ⟨xs,zs,hg,hx3,hput⟩:=h.open;refine (Akw hg hR hx3 (Aer hls) k).mono ?_;rintro e w' ⟨v,o',rfl,hs,rfl,hg'⟩;rw [PG.AkU] at hg';obtain ⟨e1,e2, -⟩:=p.Aeq k;exact ⟨_,o',rfl,hs.mono (fun k (h:k=R+2)=>by show M0<k;omega),⟨_,rfl⟩,hput w' o' _ e1 e2 ⟨p.AkW k hls.1,fun x hx=>hls.2 x (p.Ahp k x hx)⟩ hg'⟩
theorem AjF (hM:M0<R) (h:PAt w o R pg pn C K B p) (k:Int) :
  Calls prog 37 #[.pointer (some ⟨pg,0,none⟩), .int .i64 k] w (XL (EN M0) w o fun v w' o'=>(∃ er,v = .int .i64 er)/\PAt w' o' R pg pn C K B (p.hold k)):=by
 obtain ⟨hls,hR⟩:=h.Aqy;obtain ⟨xs,zs,hg,hx3,hput⟩:=h.open;refine (Aku hg hR hx3 (Aer hls) k).mono ?_;rintro e w' ⟨v,o',rfl,hs,rfl,hg'⟩;rw [PG.AkH] at hg';obtain ⟨e1,e2, -⟩:=p.Aeo k;exact ⟨_,o',rfl,hs.mono (fun k (h:k=R+2)=>by show M0<k;omega),⟨_,rfl⟩,hput w' o' _ e1 e2 ⟨p.AkI k hls.1,fun x hx=>hls.2 x (p.Agr k x hx)⟩ hg'⟩
theorem Afx (hM:M0<R) (h:PAt w o R pg pn C K B p) (hC:B<=90000) (k:Int) :
  Calls prog 36 #[.pointer (some ⟨pg,0,none⟩), .int .i64 k] w (XL (EN M0) w o fun v w' o'=>(∃ er,v = .int .i64 er)/\PAt w' o' R pg pn C K B (p.double k)):=by
 obtain ⟨hls,hR⟩:=h.Aqy;obtain ⟨xs,zs,hg,hx3,hput⟩:=h.open;refine (AgW hg hR hx3 (Aer hls) (fun x hx=>by obtain ⟨y,hy,rfl⟩:=List.mem_map.1 hx;obtain ⟨-, -, -,e4,e5⟩:=hls.2 y hy;have:=Aje e4.n1;show y.2.2.put.length<=4000000;omega) k).mono ?_;rintro e w' ⟨v,o',rfl,hs,rfl,hg'⟩;rw [PG.Ahy] at hg';obtain ⟨e1,e2, -⟩:=p.AcD k;exact ⟨_,o',rfl,hs.mono (fun k (h:k=R+2)=>by show M0<k;omega),⟨_,rfl⟩,hput w' o' _ e1 e2 ⟨p.AhA k hls.1,fun x hx=>hls.2 x (p.Adr k x hx)⟩ hg'⟩
theorem Afy (hM:M0<R) (h:PAt w o R pg pn C K B p) {a b:Nat} (ha:a<p.ys.length) (hb:b<p.ys.length) (hab:a ≠ b) :
  Calls prog 23 #[.pointer (some ⟨pg,0,none⟩), .int .i64 (a:Int), .int .i64 (b:Int)] w (XL (EN M0) w o fun v w' o'=>v = .int .i64 0/\PAt w' o' R pg pn C K B { p with cut:=GN.Awx p.cut (min a b) (max a b) true }):=by
 obtain ⟨hls,hR⟩:=h.Aqy;obtain ⟨xs,zs,hg,hx3,hput⟩:=h.open;have ht:p.net.turn a b true=(({ p with cut:=GN.Awx p.cut (min a b) (max a b) true }:PG).net,0):=by
  unfold GN.turn;rw [AcP p.net ha hb hab];rfl
 refine (AkP hg hR hx3 a b).mono ?_;rintro e w' ⟨v,o',rfl,hs,rfl,hg'⟩;rw [ht] at hg' ⊢;exact ⟨_,o',rfl,hs.mono (fun k (h:k=R+2)=>by show M0<k;omega),rfl,hput w' o' _ rfl rfl hls hg'⟩
theorem PAt.nok (h:PAt w o R pg pn C K B p) {i:Nat} {y:Aj} (hy:p.ys[i]?=some y):NOk B y:=by
 obtain ⟨y',f,hy',hf⟩:=h.look (List.getElem?_eq_some_iff.1 hy).1;rw [hy] at hy';cases hy';obtain ⟨xs,zs,x,z,hg,hx3,hyn,hx,hz,⟨-,hok, -⟩, -⟩:=h.node hy hf;exact hok
def Did (M0 R pg pn C K N:Nat) (w:World) (o:Own) (v:Value) (w':World) (o':Own):Prop:=(∃ er:Int,v = .int .i64 er)/\∃ p':PG,PAt w' o' R pg pn C (K+6) 0 p'/\AaE (N+1) p'/\aj (EN M0) w o w' o'
theorem Did.of {N:Nat} {v:Value} {p':PG} {K':Nat} (hv:∃ er:Int,v = .int .i64 er) (h:PAt w' o' R pg pn C K' 0 p') (hK:K'<=K+6) (hm:AaE (N+1) p') (s:aj (EN M0) w o w' o'):Did M0 R pg pn C K N w o v w' o':=
 ⟨hv,p',h.mono hK (Nat.le_refl _),hm,s⟩
theorem AkF {N:Nat} (hM:M0<R) (h:PAt w o R pg pn C K 0 p) (hm:AaE N p) (hN:N<=1000000) (hK:K+606<65536) (hC:60<=C) {k:Nat} (hk:k<256) (hk6:k % 11<6) (j n:Int) {bv fv:Value} {b:List UInt8} {fl:List Int} (hbv:Bytes w o bv b) (hbl:b.length<=60) (hfv:Ints w o fv fl) :
  Calls prog 24 #[.pointer (some ⟨pg,0,none⟩), .agg #[.int .u8 (k:Int), .int .i64 0, .int .i64 j, .int .i64 n,bv,fv]] w (XL (EN M0) w o fun v w' o'=>Did M0 R pg pn C K N w o v w' o'):=by
 obtain ⟨ba,bc,rfl⟩:=Aq hbv;obtain ⟨fa,fc,rfl⟩:=Aq hfv;obtain ⟨bl,Amc⟩:∃ n,b.length=n:=⟨_,rfl⟩;obtain ⟨fn,hfn⟩:∃ n,fl.length=n:=⟨_,rfl⟩;obtain ⟨W,oW,hW,⟨hst, -⟩,hbx⟩:=AaC w o (.cells #[.int .u8 (k:Int), .int .i64 0, .int .i64 j, .int .i64 n, .slice ba b.length bc, .slice fa fl.length fc] 55);have h1:=h.step0 hst;have hb1:=hbv.step hst id;have hH:=ae (aI h1 (aI hst (aI hm hb1)));have hlen:p.ys.length=3:=hm.n;rw [Amc] at hW hbl hbx;rw [hfn] at hW hbx;have XX:=ae hW;have hrange:(0:Int)<=(k:Int)/\(k:Int)<256:=by omega
 have xZ:=ae Amc;have e0H:=ae (show ((0:Nat):Int)=0 from rfl);rw [Amc,hfn];clear h h1 hst hbv hfv hb1 hW Amc hfn hbx;have hor:k % 11=0 \/ k % 11=1 \/ k % 11=2 \/ k % 11=3 \/ k % 11=4 \/ k % 11=5:=by omega
 clear hk6
 rcases hor with e | e | e | e | e | e
 ·have hmod:IntKind.u8.wrap ((k:Int) % 11)=0:=by
   have:(k:Int) % 11=0:=by omega
   rw [this];rfl
  have Agw:(k:Int) % 11=0:=by omega
  clear e;have hc:=AnJ hM hH.out.1 hK (by omega) (by omega) 0 (by rw [hlen];omega) (fun y hy=>Nat.le_trans (hH.out.2.2.1.w y hy) hN);rw [e0H.out] at hc
  replace hc:=ae hc
  go_enter func24,ntmps24;go_wp2_with fail;rw [XX.out];refine hc.out.mono ?_;rintro e W1 ⟨v,o1,rfl,hs,rfl,hp⟩;have hF:=ae (Did.of (v := .int .i64 (p.tick 0).2) ⟨_,rfl⟩ hp (Nat.le_refl _) (hH.out.2.2.1.tick fun y hy=>hH.out.1.nok hy) ((hH.out.2.1.mono (T':=EN M0) fun _ h=>h.elim).trans hs));obtain ⟨er,her⟩:∃ er,(p.tick 0).2=er:=⟨_,rfl⟩;rw [her] at hF ⊢;clear hs hp hc;go_wp2_with fail;go_ret;obtain ⟨-,p', -, -,hs'⟩:=id hF.out;exact ⟨_,o1,rfl,hs',hF.out⟩
 ·have hmod:IntKind.u8.wrap ((k:Int) % 11)=1:=by
   have:(k:Int) % 11=1:=by omega
   rw [this];rfl
  have Agw:(k:Int) % 11=1:=by omega
  clear e;have hor2:(∃ q:Nat,n=q) \/ n<0:=by
   by_cases hn0:0<=n
   ·exact .inl ⟨n.toNat,by omega⟩
   ·exact .inr (by omega)
  have hc:Calls prog 16 #[.pointer (some ⟨pg,0,none⟩), .int .i64 n] W (XL (EN M0) W oW fun v w' o'=>(∃ er:Int,v = .int .i64 er)/\PAt w' o' R pg pn C (K+6) 0 p):=by
   rcases hor2 with ⟨q,rfl⟩ | hn0
   ·refine (AnO hM hH.out.1 (by omega) (by omega) (by omega) q).mono ?_;rintro e W1 ⟨v,o1,rfl,hs,rfl,hp⟩;rw [hH.out.2.2.1.take q] at hp;exact ⟨_,o1,rfl,hs,⟨_,rfl⟩,hp.mono (by omega) (by omega)⟩
   ·obtain ⟨xs,zs,hg, -⟩:=hH.out.1.open;refine (ArB hg n (by unfold GN.may;rw [if_pos (.inl hn0)];decide)).mono ?_;rintro e W1 ⟨v,o1,rfl,hs,rfl⟩;exact ⟨_,o1,rfl,hs.mono (fun _ h=>h.elim),⟨_,rfl⟩,(hH.out.1.step0 hs).mono (by omega) (Nat.le_refl _)⟩
  replace hc:=ae hc
  clear hor2;go_enter func24,ntmps24;go_wp2_with fail;rw [XX.out];refine hc.out.mono ?_;rintro e W1 ⟨v,o1,rfl,hs,⟨er,rfl⟩,hp⟩;have hF:=ae (Did.of (K:=K) (v := .int .i64 er) ⟨_,rfl⟩ hp (Nat.le_refl _) (hH.out.2.2.1.mono (Nat.le_succ _)) ((hH.out.2.1.mono (T':=EN M0) fun _ h=>h.elim).trans hs));clear hs hp hc;go_wp2_with fail;go_ret;obtain ⟨-,p', -, -,hs'⟩:=id hF.out;exact ⟨_,o1,rfl,hs',hF.out⟩
 ·have hmod:IntKind.u8.wrap ((k:Int) % 11)=2:=by
   have:(k:Int) % 11=2:=by omega
   rw [this];rfl
  have Agw:(k:Int) % 11=2:=by omega
  clear e;have hc:=ae (AjH hM hH.out.1 n);go_enter func24,ntmps24;go_wp2_with fail;rw [XX.out];refine hc.out.mono ?_;rintro e W1 ⟨v,o1,rfl,hs,⟨er,rfl⟩,hp⟩;have hF:=ae (Did.of (K:=K) (v := .int .i64 er) ⟨_,rfl⟩ hp (by omega) ((hH.out.2.2.1.same (p.Aeq n) (p.Ahp n)).mono (Nat.le_succ _)) ((hH.out.2.1.mono (T':=EN M0) fun _ h=>h.elim).trans hs));clear hs hp hc;go_wp2_with fail;go_ret;obtain ⟨-,p', -, -,hs'⟩:=id hF.out;exact ⟨_,o1,rfl,hs',hF.out⟩
 ·have hmod:IntKind.u8.wrap ((k:Int) % 11)=3:=by
   have:(k:Int) % 11=3:=by omega
   rw [this];rfl
  have Agw:(k:Int) % 11=3:=by omega
  clear e;have hc:=ae (Afx hM hH.out.1 (by omega) n);go_enter func24,ntmps24;go_wp2_with fail;rw [XX.out];refine hc.out.mono ?_;rintro e W1 ⟨v,o1,rfl,hs,⟨er,rfl⟩,hp⟩;have hF:=ae (Did.of (K:=K) (v := .int .i64 er) ⟨_,rfl⟩ hp (by omega) ((hH.out.2.2.1.same (p.AcD n) (p.Adr n)).mono (Nat.le_succ _)) ((hH.out.2.1.mono (T':=EN M0) fun _ h=>h.elim).trans hs));clear hs hp hc;go_wp2_with fail;go_ret;obtain ⟨-,p', -, -,hs'⟩:=id hF.out;exact ⟨_,o1,rfl,hs',hF.out⟩
 ·have hmod:IntKind.u8.wrap ((k:Int) % 11)=4:=by
   have:(k:Int) % 11=4:=by omega
   rw [this];rfl
  have Agw:(k:Int) % 11=4:=by omega
  clear e;have hc:=ae (AjF hM hH.out.1 n);go_enter func24,ntmps24;go_wp2_with fail;rw [XX.out];refine hc.out.mono ?_;rintro e W1 ⟨v,o1,rfl,hs,⟨er,rfl⟩,hp⟩;have hF:=ae (Did.of (K:=K) (v := .int .i64 er) ⟨_,rfl⟩ hp (by omega) ((hH.out.2.2.1.same (p.Aeo n) (p.Agr n)).mono (Nat.le_succ _)) ((hH.out.2.1.mono (T':=EN M0) fun _ h=>h.elim).trans hs));clear hs hp hc;go_wp2_with fail;go_ret;obtain ⟨-,p', -, -,hs'⟩:=id hF.out;exact ⟨_,o1,rfl,hs',hF.out⟩
 ·have hmod:IntKind.u8.wrap ((k:Int) % 11)=5:=by
   have:(k:Int) % 11=5:=by omega
   rw [this];rfl
  have Agw:(k:Int) % 11=5:=by omega
  clear e;have hc:=Ajl hM hH.out.1 (by omega) hH.out.2.2.2 (by rw [xZ.out];omega) (by rw [xZ.out];omega) 0 (by rw [hlen];omega);rw [e0H.out,xZ.out] at hc
  replace hc:=ae hc
  go_enter func24,ntmps24;go_wp2_with fail;rw [XX.out];refine hc.out.mono ?_;rintro e W1 ⟨v,o1,rfl,hs,rfl,hp⟩;rw [hH.out.2.2.1.BL] at hp;have hF:=ae (Did.of (K:=K) (v := .int .i64 (p.BL 0 b).2) ⟨_,rfl⟩ (hp.lower hH.out.1.fits) (by omega) (hH.out.2.2.1.mono (Nat.le_succ _)) ((hH.out.2.1.mono (T':=EN M0) fun _ h=>h.elim).trans hs));obtain ⟨er,her⟩:∃ er,(p.BL 0 b).2=er:=⟨_,rfl⟩;rw [her] at hF ⊢;clear hs hp hc;go_wp2_with fail;go_ret;obtain ⟨-,p', -, -,hs'⟩:=id hF.out;exact ⟨_,o1,rfl,hs',hF.out⟩
end
theorem MI:ownKnob prog.godebug=none:=by kernel_rfl
theorem Jl:laidOutB prog=true:=by kernel_rfl

end Go.Proofs.YtffkdillijmamaaGreat
