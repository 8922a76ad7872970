/- Contract of zab's hearRefuse. -/
import Derived.Test.YthmpmgknnibljaaGreatSv11
namespace Go.Proofs.YthmpmgknnibljaaGreat
open Go.Proofs.Tryz
set_option maxRecDepth 100000
set_option maxHeartbeats 12800000
open Go Go.RowKit
attribute [local go_sem ↓] Go.wp_at_zero Go.wp_at_succ
variable {w:World} {mine:BitVec 64} {bv lv v:Value} {o:Own} {ls:List Ar} {l:List UInt8} {z:Aj} {e:Int}
theorem Xf {p:Nat} (h:w.cell? p=some (mine:aV)):Calls prog 239 #[.pointer p] w fun e w'=>e = .returned (mine:aV)/\w=w':=by
 go_enter func239,ntmps239;go_wp2_with fail;go_ret;exact ⟨rfl,rfl⟩
theorem WP {p:Nat} (h:w.cell? p=some (mine:aV)):Calls prog 242 #[.pointer p] w fun e w'=>e = .returned (mine:aV)/\w=w':=by
 go_enter func242,ntmps242;go_wp2_with fail;go_ret;exact ⟨rfl,rfl⟩
section
variable {w:World} {o:Own} {D M pz ps pd K B base:Nat} {z:Am}
theorem PX (h:Bc w o D M pz ps pd z) (hp:Am.NP K B z) (hB:B<=90000) (src:Nat) (m:BG) (_hm:m.May) (hl:Lines w o base lv m.ls) :
  Calls prog 101 #[.pointer pz, (src:aV),Ea m lv] w (XL (InN D M) w o fun v w' o'=>Dn w' o' v (Ed (z.Cj m).2)/\Bc w' o' D M pz ps pd (z.Cj m).1):=by
 obtain ⟨R,hR⟩:=az (z.Cj m);rw [hR];unfold Am.Cj at hR;obtain ⟨la,lc,hlv⟩:=hl.form;obtain ⟨n,hn⟩:=az (m.ls.length);rw [hn] at hlv;subst hlv;have hn3:z.n<=3:=hp.ok.n3;have hn1:1<=z.n:=hp.ok.n1;have hls:En B z.s.kept.lines:=hp.ok.ls;have hsm:=En.small hls aP;have s1:=(aj.refl ai w o).alloc (.cells (Bf m (.slice la n lc)).toArray 46) (0,0);have mb1:=heap_alloc_new w (.cells (Bf m (.slice la n lc)).toArray 46);have mo1:=Au o w.heap.size (0,0);generalize Ak o w.heap.size (0,0)=o1 at *;obtain ⟨W1,hW1⟩:=az (w.alloc (.cells (Bf m (.slice la n lc)).toArray 46));rw [hW1] at s1 mb1;have hbx:(Instr.box 46 (Ea m (.slice la n lc))).run prog w = .ok (.pointer w.heap.size) W1:=by rw [<-hW1];kernel_rfl
 obtain ⟨mb,hmb⟩:=az (w.heap.size);rw [hmb] at mb1 mo1 hbx;have h1:=h.step0 s1;have hl1:=hl.step s1 id;obtain ⟨-, -,e2, -⟩:=h1.cell;unfold Ea at hbx ⊢;have xH:=ae hbx;obtain ⟨hDM,rv,hb,hro,hst⟩:=id h1;have hfm:z.BN.follows=(match z.BB with | .follows=>true | _=>false):=rfl
 have hmm:z.BN.mine=(match z.BB with | .follows=>0 | .stands e _=>e | .leads e _ _ _=>e):=rfl
 cases hrr:z.BB with
 | follows =>
  rw [hrr] at hro hfm hmm;obtain rfl:rv = .iface 115 (.agg #[]):=hro;have hta:=gZ W1;have c3:=hb.cells.1.2.2.2.1;have k2:=(aj.refl ai W1 o1).alloc (.cells [].toArray 115) (0,0);generalize Ak o1 W1.heap.size (0,0)=o2 at *;obtain ⟨V,hV⟩:=az ((W1.alloc (.cells [].toArray 115)).drew);have kV:aj ai W1 o1 V o2:=by rw [<-hV];exact k2.drew
  have hN:=h1.step0 kV;have mbV:=(kV.block mb (au mb1) id).trans mb1;have hbV:=hb.step kV id;have hS:V.cell? (aW mb 1)=some (m.e:aV):=ag mbV 1;rw [<-hV] at hS;have hR2:(z,[])=R:=by rw [<-hR,hfm];rfl
  have hRH:=ae hR2;have hF:=aa2 (s1.trans kV) hN;clear hb hst hl1 s1 mb1 mo1 hW1 hmb hbx e2 hls hsm hn3 hn1 k2 kV hN mbV hbV h1 hrr hR hR2 hfm hmm;go_enter func101,ntmps101
  go_wp2_with ((with_reducible apply BM);exact xH.out;simp only [Act.put,lsa,lsz,lss])
  refine Aa (fun w'=>w'.cell? (aW mb 1)=some (m.e:aV)) (fun _=>true) bf hS (fun hHeld => ?_);rw [hV] at hHeld ⊢;clear hV hS;refine tq 0 (h:=tq 1 (h:=tq 2 (h:=ts 3 (h:=ts 4 (h:=ts 5 (h:=ts 6 (h:=ts 7 (h:=ts 8 (h:=ts 9 (h:=ts 10 (h:=tq 11 (h:=tD (h:=?_)))))))))))));clear hHeld;go_wp2_with fail;go_ret;refine ⟨_,o2,rfl,hF.out.1.mono dh, ?_, ?_⟩
  ·rw [<-hRH.out];exact Dn.nil _ _
  ·rw [<-hRH.out];exact hF.out.2
 | stands mine has =>
  rw [hrr] at hro hfm hmm;obtain ⟨p,rfl,mk,hp1,hpo,hha⟩:=hro;have hta:=gX W1 (some ⟨p,0,none⟩);have c3:=hb.cells.1.2.2.2.1;have k2:=(aj.refl ai W1 o1).alloc (.cells [].toArray 115) (0,0);generalize Ak o1 W1.heap.size (0,0)=o2 at *;obtain ⟨V,hV⟩:=az ((W1.alloc (.cells [].toArray 115)).drew);have kV:aj ai W1 o1 V o2:=by rw [<-hV];exact k2.drew
  have hN:=h1.step0 kV;have mbV:=(kV.block mb (au mb1) id).trans mb1;have hbV:=hb.step kV id;have p0:=ag ((kV.block p (au hp1) id).trans hp1) 0;simp only [ay] at p0;have hS:=aI (show V.cell? (aW mb 1)=some (m.e:aV) from ag mbV 1) (aI hbV.cells.1.2.2.2.1 p0);have hep:=ae (WP p0);rw [<-hV] at hS;have hR2:(if mine.toNat<m.e.toNat then z.follow else z,[])=R:=by
   rw [<-hR,hfm,hmm]
   by_cases h:mine.toNat<m.e.toNat <;> simp [h]
  have hF:=aa2 (s1.trans kV) hN;have hfo:=ae (FD hN);clear hb hst hl1 s1 mb1 mo1 hW1 hmb hbx e2 hls hsm hn3 hn1 k2 kV hN mbV hbV h1 hrr hR hfm hmm p0 hp1 hpo hha
  by_cases hlt:mine.toNat<m.e.toNat
  ·rw [if_pos hlt] at hR2;have hRH:=ae hR2;have AbY:(mine.toNat:Int)<(m.e.toNat:Int):=aP
   clear hR2;go_enter func101,ntmps101
   go_wp2_with ((with_reducible apply BM);exact xH.out;simp only [Act.put,lsa,lsz,lss])
   refine Aa (fun w'=>w'.cell? (aW mb 1)=some (m.e:aV)/\w'.cell? (aW pz 3)=some (.iface 151 (.pointer p))/\w'.cell? p=some (mine:aV)) (fun _=>true) bf hS (fun hHeld => ?_);rw [hV] at hHeld ⊢;clear hV hS;refine tq 0 (h:=tq 1 (h:=tq 2 (h:=tq 3 (h:=tq 4 (h:=tq 5 (h:=tq 6 (h:=tq 7 (h:=tq 8 (h:=tO 9 (h:=?_))))))))));go_wp2_with fail;generalize hg:Sem.run prog (method _ _ _ _) V=res;have hres:res = .ok (242, .pointer p) V:=by rw [<-hg];kernel_rfl
   rw [hres];clear hg hres;go_wp2_with fail;refine hep.out.mono ?_;rintro ex w' ⟨rfl,rfl⟩;go_wp2_with fail;refine ⟨fun _=>hHeld, ?_⟩;refine tq 10 (h:=tq 11 (h:=tD (h:=?_)));clear hHeld;go_wp2_with fail;refine hfo.out.mono ?_;rintro ex W7 ⟨v7,o7,rfl,hs7,rfl,hn7⟩;have hF7:=aa2 ((hF.out.1.mono (T':=InN D M) dh).trans (hs7.mono (T':=InN D M) (fun k h=>(show InN D M k by cases h;exact InN.own)))) hn7;clear hs7 hn7;go_wp2_with fail;go_ret;refine ⟨_,o7,rfl,hF7.out.1, ?_, ?_⟩
   ·rw [<-hRH.out];exact Dn.nil _ _
   ·rw [<-hRH.out];exact hF7.out.2
  ·rw [if_neg hlt] at hR2;have hRH:=ae hR2;have AbY:¬ (mine.toNat:Int)<(m.e.toNat:Int):=aP
   clear hR2 hfo;go_enter func101,ntmps101
   go_wp2_with ((with_reducible apply BM);exact xH.out;simp only [Act.put,lsa,lsz,lss])
   refine Aa (fun w'=>w'.cell? (aW mb 1)=some (m.e:aV)/\w'.cell? (aW pz 3)=some (.iface 151 (.pointer p))/\w'.cell? p=some (mine:aV)) (fun _=>true) bf hS (fun hHeld => ?_);rw [hV] at hHeld ⊢;clear hV hS;refine tq 0 (h:=tq 1 (h:=tq 2 (h:=tq 3 (h:=tq 4 (h:=tq 5 (h:=tq 6 (h:=tq 7 (h:=tq 8 (h:=tO 9 (h:=?_))))))))));go_wp2_with fail;generalize hg:Sem.run prog (method _ _ _ _) V=res;have hres:res = .ok (242, .pointer p) V:=by rw [<-hg];kernel_rfl
   rw [hres];clear hg hres;go_wp2_with fail;refine hep.out.mono ?_;rintro ex w' ⟨rfl,rfl⟩;go_wp2_with fail;refine ⟨fun _=>hHeld, ?_⟩;refine tq 10 (h:=tq 11 (h:=tD (h:=?_)));clear hHeld;go_wp2_with fail;go_ret;refine ⟨_,o2,rfl,hF.out.1.mono dh, ?_, ?_⟩
   ·rw [<-hRH.out];exact Dn.nil _ _
   ·rw [<-hRH.out];exact hF.out.2
 | leads mine nR Awz ready =>
  rw [hrr] at hro hfm hmm;obtain ⟨p,rfl,bk,cap,hp1,hpo,hha⟩:=hro;have hta:=gY W1 (some ⟨p,0,none⟩);have c3:=hb.cells.1.2.2.2.1;have k2:=(aj.refl ai W1 o1).alloc (.cells [].toArray 115) (0,0);generalize Ak o1 W1.heap.size (0,0)=o2 at *;obtain ⟨V,hV⟩:=az ((W1.alloc (.cells [].toArray 115)).drew);have kV:aj ai W1 o1 V o2:=by rw [<-hV];exact k2.drew
  have hN:=h1.step0 kV;have mbV:=(kV.block mb (au mb1) id).trans mb1;have hbV:=hb.step kV id;have p0:=ag ((kV.block p (au hp1) id).trans hp1) 0;simp only [ay] at p0;have hS:=aI (show V.cell? (aW mb 1)=some (m.e:aV) from ag mbV 1) (aI hbV.cells.1.2.2.2.1 p0);have hep:=ae (Xf p0);rw [<-hV] at hS;have hR2:(if mine.toNat<m.e.toNat then z.follow else z,[])=R:=by
   rw [<-hR,hfm,hmm]
   by_cases h:mine.toNat<m.e.toNat <;> simp [h]
  have hF:=aa2 (s1.trans kV) hN;have hfo:=ae (FD hN);clear hb hst hl1 s1 mb1 mo1 hW1 hmb hbx e2 hls hsm hn3 hn1 k2 kV hN mbV hbV h1 hrr hR hfm hmm p0 hp1 hpo hha
  by_cases hlt:mine.toNat<m.e.toNat
  ·rw [if_pos hlt] at hR2;have hRH:=ae hR2;have AbY:(mine.toNat:Int)<(m.e.toNat:Int):=aP
   clear hR2;go_enter func101,ntmps101
   go_wp2_with ((with_reducible apply BM);exact xH.out;simp only [Act.put,lsa,lsz,lss])
   refine Aa (fun w'=>w'.cell? (aW mb 1)=some (m.e:aV)/\w'.cell? (aW pz 3)=some (.iface 87 (.pointer p))/\w'.cell? p=some (mine:aV)) (fun _=>true) bf hS (fun hHeld => ?_);rw [hV] at hHeld ⊢;clear hV hS;refine tq 0 (h:=tq 1 (h:=tq 2 (h:=tq 3 (h:=tq 4 (h:=tq 5 (h:=tq 6 (h:=tq 7 (h:=tq 8 (h:=tO 9 (h:=?_))))))))));go_wp2_with fail;generalize hg:Sem.run prog (method _ _ _ _) V=res;have hres:res = .ok (239, .pointer p) V:=by rw [<-hg];kernel_rfl
   rw [hres];clear hg hres;go_wp2_with fail;refine hep.out.mono ?_;rintro ex w' ⟨rfl,rfl⟩;go_wp2_with fail;refine ⟨fun _=>hHeld, ?_⟩;refine tq 10 (h:=tq 11 (h:=tD (h:=?_)));clear hHeld;go_wp2_with fail;refine hfo.out.mono ?_;rintro ex W7 ⟨v7,o7,rfl,hs7,rfl,hn7⟩;have hF7:=aa2 ((hF.out.1.mono (T':=InN D M) dh).trans (hs7.mono (T':=InN D M) (fun k h=>(show InN D M k by cases h;exact InN.own)))) hn7;clear hs7 hn7;go_wp2_with fail;go_ret;refine ⟨_,o7,rfl,hF7.out.1, ?_, ?_⟩
   ·rw [<-hRH.out];exact Dn.nil _ _
   ·rw [<-hRH.out];exact hF7.out.2
  ·rw [if_neg hlt] at hR2;have hRH:=ae hR2;have AbY:¬ (mine.toNat:Int)<(m.e.toNat:Int):=aP
   clear hR2 hfo;go_enter func101,ntmps101
   go_wp2_with ((with_reducible apply BM);exact xH.out;simp only [Act.put,lsa,lsz,lss])
   refine Aa (fun w'=>w'.cell? (aW mb 1)=some (m.e:aV)/\w'.cell? (aW pz 3)=some (.iface 87 (.pointer p))/\w'.cell? p=some (mine:aV)) (fun _=>true) bf hS (fun hHeld => ?_);rw [hV] at hHeld ⊢;clear hV hS;refine tq 0 (h:=tq 1 (h:=tq 2 (h:=tq 3 (h:=tq 4 (h:=tq 5 (h:=tq 6 (h:=tq 7 (h:=tq 8 (h:=tO 9 (h:=?_))))))))));go_wp2_with fail;generalize hg:Sem.run prog (method _ _ _ _) V=res;have hres:res = .ok (239, .pointer p) V:=by rw [<-hg];kernel_rfl
   rw [hres];clear hg hres;go_wp2_with fail;refine hep.out.mono ?_;rintro ex w' ⟨rfl,rfl⟩;go_wp2_with fail;refine ⟨fun _=>hHeld, ?_⟩;refine tq 10 (h:=tq 11 (h:=tD (h:=?_)));clear hHeld;go_wp2_with fail;go_ret;refine ⟨_,o2,rfl,hF.out.1.mono dh, ?_, ?_⟩
   ·rw [<-hRH.out];exact Dn.nil _ _
   ·rw [<-hRH.out];exact hF.out.2
end
section
variable {P:Program} {ops:Array Oper} {Q:Exit->Act->World->Prop} {rest:List Oper} {d:Option Nat} {ty:TypeId} {ps:String} {af:Array _} {a:Act} {w w':World}
theorem QO {m k x:Operand} {t:TypeId} (hr:(Instr.mapUpdate t (a.eval m) (a.eval k) (a.eval x)).run P w = .ok () w') (h:wpList P ops Q rest (a.put d undef) w') :
  wpList P ops Q ({ dst:=d,op := .mapUpdate t m k x,type:=ty,pos:=ps,after:=af,guard:=none } :: rest) a w:=
 wpList_plain rfl fun _ hK=>by
  unfold Oper.wp execOp;simp only [Sem.run_bind,hr,Result.andThen_ok,Sem.run_pure];exact hK _ _ h
end
theorem dY {w':World} {o':Own} {Z mb src:Nat} {has:List (Option DT)} {es:List Ent} {c:BitVec 64} (hm:w'.heap[mb]?=some (.map (Bd 0 (es++[(src,c,lv)])).toArray (es++[(src,c,lv)]).length)) (ho:o' mb=(Z,2))
  (hn:(es.map (·.1)).Nodup) (hno:∀ x ∈ es,x.1 ≠ src) (hent:∀ x ∈ es,∃ ls,has[x.1]?=some (some (x.2.1,ls))/\Lines w o 0 x.2.2 ls) (hall:∀ i p,has[i]?=some (some p)->∃ x ∈ es,x.1=i)
  (hst:∀ v l,Lines w o 0 v l->Lines w' o' 0 v l) (hsl:src<has.length) (hl:Lines w' o' 0 lv ls):OE w' o' Z mb (has.set src (some (c,ls))):=by
 refine ⟨es++[(src,c,lv)],hm,ho, ?_,fun x hx => ?_,fun i p hp => ?_⟩
 ·rw [List.map_append,List.nodup_append];refine ⟨hn,bu, ?_⟩;intro a ha b hb;simp only [List.map_cons,List.map_nil,List.mem_singleton] at hb;subst hb;obtain ⟨x,hx,rfl⟩:=List.mem_map.1 ha;exact hno x hx
 ·rcases List.mem_append.1 hx with hx | hx
  ·obtain ⟨ls',h1,h2⟩:=hent x hx;refine ⟨ls', ?_,hst _ _ h2⟩;rw [List.getElem?_set_ne (fun h=>hno x hx h.symm)];exact h1
  ·simp only [List.mem_singleton] at hx;subst hx;exact ⟨ls,by simp [hsl],hl⟩
 ·by_cases h:src=i
  ·exact ⟨_,List.mem_append_right _ (List.mem_singleton_self _),h⟩
  ·rw [List.getElem?_set_ne h] at hp;obtain ⟨x,hx,hxi⟩:=hall i p hp;exact ⟨x,List.mem_append_left _ hx,hxi⟩
section
variable {w:World} {o:Own} {D M pz ps pd K B base:Nat} {z:Am}
theorem Am.NP.promised (h:Am.NP K B z) {has:List (Option DT)} (hr:z.BB = .stands mine has) (src:Nat) {c:BitVec 64} (hls:En (B+AP ls) ls) :
  Am.NP K (B+AP ls) { z with BB := .stands mine (has.set src (some (c,ls))) }:=by
 have hm:=h.mono (Nat.le_refl K) (Nat.le_add_right B (AP ls));have hro:=hm.ok.ro;rw [show z.BN.BB=z.BB from rfl,hr] at hro;obtain ⟨h1,h2,⟨p,h3⟩,h4⟩:=hro;have hok:=hm.ok;refine ⟨hm.sp,⟨⟨hok.n1,hok.n3,hok.id,hok.ls,hok.cp,hok.pt,hok.se,hok.co⟩,h1, ?_, ?_, ?_⟩⟩
 ·rw [List.length_set];exact h2
 ·show ∃ p,(has.set src (some (c,ls)))[z.id]?=some (some p)
  by_cases he:src=z.id
  ·rw [he];have hl:=(List.getElem?_eq_some_iff.1 h3).1;exact ⟨(c,ls),List.getElem?_set_self hl⟩
  ·exact ⟨p,by rw [List.getElem?_set_ne he];exact h3⟩
 ·intro q hq
  rcases List.mem_or_eq_of_mem_set hq with h | h
  ·exact h4 q h
  ·cases h;exact hls
theorem OM (h:Bc w o D M pz ps pd z) (hp:Am.NP K B z) (hK:K+600<65536) (src:Nat) (hsrc:src<z.n) (m:BG) (hm:m.May) (hB:B+AP m.ls<=90000) (hl:Lines w o base lv m.ls) :
  Calls prog 100 #[.pointer pz, (src:aV),Ea m lv] w (XL (InN D M) w o fun v w' o'=>Dn w' o' v (Ed (z.Bj src m).2)/\Bc w' o' D M pz ps pd (z.Bj src m).1):=by
 obtain ⟨R,hR⟩:=az (z.Bj src m);rw [hR];unfold Am.Bj at hR;obtain ⟨la,lc,hlv⟩:=hl.form;obtain ⟨n,hn⟩:=az (m.ls.length);rw [hn] at hlv;subst hlv;have hn3:z.n<=3:=hp.ok.n3;have hn1:1<=z.n:=hp.ok.n1;have hls:En B z.s.kept.lines:=hp.ok.ls;have hsm:=En.small hls aP;have s1:=(aj.refl ai w o).alloc (.cells (Bf m (.slice la n lc)).toArray 46) (0,0);have mb1:=heap_alloc_new w (.cells (Bf m (.slice la n lc)).toArray 46);have mo1:=Au o w.heap.size (0,0);generalize Ak o w.heap.size (0,0)=o1 at *;obtain ⟨W1,hW1⟩:=az (w.alloc (.cells (Bf m (.slice la n lc)).toArray 46));rw [hW1] at s1 mb1;have hbx:(Instr.box 46 (Ea m (.slice la n lc))).run prog w = .ok (.pointer w.heap.size) W1:=by rw [<-hW1];kernel_rfl
 obtain ⟨mb,hmb⟩:=az (w.heap.size);rw [hmb] at mb1 mo1 hbx;have h1:=h.step0 s1;have hl1:=hl.step s1 id;obtain ⟨-, -,e2, -⟩:=h1.cell;unfold Ea at hbx ⊢;have xH:=ae hbx;obtain ⟨hDM,rv,hb,hro,hst⟩:=id h1
 cases hrr:z.BB with
 | follows =>
  rw [hrr] at hR hro;obtain rfl:rv = .iface 115 (.agg #[]):=hro;have hta:=gV W1;have c3:=hb.cells.1.2.2.2.1;have hF:=aa2 s1 h1;have hRH:=ae hR;have q1:=ag (w:=W1.drew) mb1 1;have hS0:W1.drew.cell? (aW mb 1)=some (m.e:aV):=q1;clear hb hst h1 hl1 s1 mb1 mo1 hW1 hmb hbx e2 hls hsm hn3 hn1 hrr hR q1;go_enter func100,ntmps100
  go_wp2_with ((with_reducible apply BM);exact xH.out;simp only [Act.put,lsa,lsz,lss])
  refine Aa (fun w'=>w'.cell? (aW mb 1)=some (m.e:aV)) (fun _=>true) bf hS0 (fun hHeld => ?_);refine tq 0 (h:=tq 1 (h:=tq 2 (h:=ts 3 (h:=ts 4 (h:=ts 5 (h:=ts 6 (h:=ts 7 (h:=ts 8 (h:=ts 9 (h:=tq 10 (h:=tq 11 (h:=ts 12 (h:=ts 13 (h:=?_))))))))))))));refine ts 14 (h:=ts 15 (h:=ts 16 (h:=tq 17 (h:=tD (h:=?_)))));clear hHeld hS0;go_wp2_with fail;go_ret;refine ⟨_,o1,rfl,hF.out.1.drew.mono dh, ?_, ?_⟩
  ·rw [<-hRH.out];exact Dn.nil _ _
  ·rw [<-hRH.out];exact hF.out.2.step0 (aj.refl ai W1 o1).drew
 | leads mine nR Awz ready =>
  rw [hrr] at hR hro;obtain ⟨p,rfl,hla⟩:=hro;clear hla;have hta:=gU W1 (some ⟨p,0,none⟩);have c3:=hb.cells.1.2.2.2.1;have hF:=aa2 s1 h1;have hRH:=ae hR;have q1:=ag (w:=W1.drew) mb1 1;have hS0:W1.drew.cell? (aW mb 1)=some (m.e:aV):=q1;clear hb hst h1 hl1 s1 mb1 mo1 hW1 hmb hbx e2 hls hsm hn3 hn1 hrr hR q1;go_enter func100,ntmps100
  go_wp2_with ((with_reducible apply BM);exact xH.out;simp only [Act.put,lsa,lsz,lss])
  refine Aa (fun w'=>w'.cell? (aW mb 1)=some (m.e:aV)) (fun _=>true) bf hS0 (fun hHeld => ?_);refine tq 0 (h:=tq 1 (h:=tq 2 (h:=ts 3 (h:=ts 4 (h:=ts 5 (h:=ts 6 (h:=ts 7 (h:=ts 8 (h:=ts 9 (h:=tq 10 (h:=tq 11 (h:=ts 12 (h:=ts 13 (h:=?_))))))))))))));refine ts 14 (h:=ts 15 (h:=ts 16 (h:=tq 17 (h:=tD (h:=?_)))));clear hHeld hS0;go_wp2_with fail;go_ret;refine ⟨_,o1,rfl,hF.out.1.drew.mono dh, ?_, ?_⟩
  ·rw [<-hRH.out];exact Dn.nil _ _
  ·rw [<-hRH.out];exact hF.out.2.step0 (aj.refl ai W1 o1).drew
 | stands mine has =>
  rw [hrr] at hR hro;obtain ⟨p,rfl,mk,hp1,hpo,hha⟩:=hro;have hta:=gQ W1 (some ⟨p,0,none⟩);have c3:=hb.cells.1.2.2.2.1;obtain ⟨V,hV⟩:=az (W1.drew);have kV:aj ai W1 o1 V o1:=by rw [<-hV];exact (aj.refl ai W1 o1).drew
  have hN:=h1.step0 kV;have mbV:=(kV.block mb (au mb1) id).trans mb1;have p0:=ag ((kV.block p (au hp1) id).trans hp1) 0;simp only [ay] at p0;have hS:=aI (show V.cell? (aW mb 1)=some (m.e:aV) from ag mbV 1) (aI (show V.cell? (aW mb 2)=some (m.c:aV) from ag mbV 2) p0);rw [<-hV] at hS;have hF:=aa2 (s1.trans kV) hN;simp only at hR
  by_cases hme:mine=m.e
  ·have Aqv:(mine.toNat:Int)=(m.e.toNat:Int):=by rw [hme]
   by_cases hce:m.e.toNat<=m.c.toNat
   ·rw [if_pos (.inr hce)] at hR;have AzO:(m.e.toNat:Int)<=(m.c.toNat:Int):=aP
    have hRH:=ae hR;clear hb hst hl1 s1 mb1 mo1 hW1 hmb hbx e2 hls hsm hn3 hn1 kV hN mbV h1 hrr hR p0 hp1 hpo hha hme hce;go_enter func100,ntmps100
    go_wp2_with ((with_reducible apply BM);exact xH.out;simp only [Act.put,lsa,lsz,lss])
    refine Aa (fun w'=>w'.cell? (aW mb 1)=some (m.e:aV)/\w'.cell? (aW mb 2)=some (m.c:aV)/\w'.cell? p=some (mine:aV)) (fun _=>true) bf hS (fun hHeld => ?_);rw [hV] at hHeld ⊢;clear hV hS;refine tq 0 (h:=tq 1 (h:=tq 2 (h:=tq 3 (h:=tq 4 (h:=tq 5 (h:=tq 6 (h:=tq 7 (h:=tq 8 (h:=tq 9 (h:=tq 10 (h:=tq 11 (h:=tq 12 (h:=tq 13 (h:=?_))))))))))))));refine tq 14 (h:=tq 15 (h:=tq 16 (h:=tq 17 (h:=tD (h:=?_)))));clear hHeld;go_wp2_with fail;go_ret;refine ⟨_,o1,rfl,hF.out.1.mono dh, ?_, ?_⟩
    ·rw [<-hRH.out];exact Dn.nil _ _
    ·rw [<-hRH.out];exact hF.out.2
   ·have AzO:¬ (m.e.toNat:Int)<=(m.c.toNat:Int):=aP
    have yS:=hp.ok.ro;rw [show z.BN.BB=z.BB from rfl,hrr] at yS;obtain ⟨-,hhl, -, -⟩:=yS;have hhl:has.length=z.n:=hhl;have hsl:src<has.length:=by rw [hhl];exact hsrc
    have hcc:∀ W O,aj ai V o1 W O->W.cell? (aW p 1)=some (.map (some mk))/\W.cell? (aW mb 2)=some (m.c:aV)/\W.cell? (aW mb 5)=some (.slice la n lc):=by
     intro W O hJ;have g1:=ag (((kV.trans hJ).block p (au hp1) id).trans hp1) 1;simp only [ay,ax] at g1;have g2:=(hJ.block mb (au mbV) id).trans mbV;exact ⟨g1,ag g2 2,ag g2 5⟩
    have cV:=(hcc V o1 (aj.refl _ _ _)).1;have AqM:=hha;obtain ⟨es,g1,g2,g3,g4,g5⟩:=hha;have g1V:=(kV.block mk (au g1) id).trans g1;have g4V:∀ x ∈ es,∃ ls,has[x.1]?=some (some (x.2.1,ls))/\Lines V o1 0 x.2.2 ls:=fun x hx=>by obtain ⟨ls,a,b⟩:=g4 x hx;exact ⟨ls,a,b.step kV id⟩
    have hpV:=(kV.block p (au hp1) id).trans hp1;have hbV:=hb.step kV id;have AnG:=hst.step0 kV;have hlV:=hl1.step kV id;have pal:=AB (P:=prog) V 153 _ Zn
    cases hg:has.getD src none with
    | some q =>
     rw [hg] at hR;simp only [Option.isSome_some,if_true] at hR;have hz:({ z with BB := .stands mine has }:Am)=z:=by rw [<-hrr]
     rw [if_neg (fun h=>h.elim (fun h=>h hme) hce),hz] at hR;have hq:has[src]?=some (some q):=by
      rw [List.getD_eq_getElem?_getD,List.getElem?_eq_getElem hsl] at hg;simp only [Option.getD_some] at hg;rw [List.getElem?_eq_getElem hsl,hg]
     obtain ⟨x,hx,hxs⟩:=g5 src q hq;obtain ⟨xls, -,hxL⟩:=g4V x hx;obtain ⟨xa,xc,hxv⟩:=hxL.form;have hlk:=SK g1V g3 hx;rw [hxs,hxv] at hlk;have pst:=PG V (x.2.1.toNat:Int) xa xls.length xc;have k4:=(aj.refl ai V o1).alloc (.cells [(x.2.1:aV), .slice xa xls.length xc].toArray 153) (0,0);generalize Ak o1 V.heap.size (0,0)=o4 at *;obtain ⟨W4,hW4⟩:=az (V.alloc (.cells [(x.2.1:aV), .slice xa xls.length xc].toArray 153));rw [hW4] at k4 pst;have hsn:Qx W4 o4 D M pz ps pd p z mine has:=⟨hDM,hbV.step k4 id,⟨mk,(k4.block p (au hpV) id).trans hpV,(k4.own p (au hpV)).trans hpo,(AqM.step (kV.trans k4) id id)⟩,AnG.step0 k4⟩;have hle:=ae (lead_any hsn hrr hp hK aP);have hF4:=ae ((s1.trans kV).trans k4);have hRH:=ae hR;have Aga:=ae hlk;have AiM:=ae pal;have AiJ:=ae pst;clear hb hst hl1 s1 mb1 mo1 hW1 hmb hbx e2 hls hsm hn3 hn1 kV hN mbV h1 hrr hR p0 hp1 hpo AqM hme hce hcc g1 g2 g3 g4 g5 g1V g4V hpV hbV AnG hlV pal hlk pst k4 hW4 hsn hz hq hx hxs hxL hxv hg hhl hsl;go_enter func100,ntmps100
     go_wp2_with ((with_reducible apply BM);exact xH.out;simp only [Act.put,lsa,lsz,lss])
     refine Aa (fun w'=>w'.cell? (aW mb 1)=some (m.e:aV)/\w'.cell? (aW mb 2)=some (m.c:aV)/\w'.cell? p=some (mine:aV)) (fun _=>true) bf hS (fun hHeld => ?_);rw [hV] at hHeld ⊢;clear hV hS;refine tq 0 (h:=tq 1 (h:=tq 2 (h:=tq 3 (h:=tq 4 (h:=tq 5 (h:=tq 6 (h:=tq 7 (h:=tq 8 (h:=tq 9 (h:=tq 10 (h:=tq 11 (h:=tq 12 (h:=tq 13 (h:=?_))))))))))))));refine tq 14 (h:=tq 15 (h:=tq 16 (h:=tq 17 (h:=tD (h:=?_)))));clear hHeld
     go_wp2_with (first
      | ((with_reducible apply DN);exact Aga.out;simp only [Act.put,lsa,lsz,lss])
      | ((with_reducible apply AU);exact AiM.out;simp only [Act.put,lsa,lsz,lss])
      | ((with_reducible apply AC);exact AiJ.out;simp only [Act.put]))
     refine hle.out.mono ?_;rintro ex W5 ⟨v5,o5,rfl,hs5,hou,hn5⟩;have hF5:=aa3 ((hF4.out.mono (T':=InN D M) dh).trans hs5) hou hn5;obtain ⟨ya,yc,rfl⟩:=hou.form;clear hs5 hou hn5 hle;go_wp2_with fail;go_ret;refine ⟨_,o5,rfl,hF5.out.1, ?_, ?_⟩
     ·rw [<-hRH.out];exact hF5.out.2.1
     ·rw [<-hRH.out];exact hF5.out.2.2
    | none =>
     rw [hg] at hR;simp only [Option.isSome_none,Bool.false_eq_true,if_false] at hR;rw [if_neg (fun h=>h.elim (fun h=>h hme) hce)] at hR;have hno:∀ x ∈ es,x.1 ≠ src:=by
      intro x hx he;obtain ⟨ls',h1, -⟩:=g4 x hx;rw [he] at h1;rw [List.getD_eq_getElem?_getD,h1] at hg;simp at hg
     have hlk:=UE g1V hno;have pst:=PG V 0 none 0 0;have k4:=(aj.refl ai V o1).alloc (.cells [.int .u64 0, .slice none 0 0].toArray 153) (0,0);generalize Ak o1 V.heap.size (0,0)=o4 at *;obtain ⟨W4,hW4⟩:=az (V.alloc (.cells [Value.int .u64 0, .slice none 0 0].toArray 153));rw [hW4] at k4 pst;have Amw:V.alloc (.cells #[Value.int .u64 0, .slice none 0 0] 153)=W4:=hW4;rw [Amw] at pal;obtain ⟨V6,hV6⟩:=az (W4.drew);have k6:aj ai V o1 V6 o4:=by rw [<-hV6];exact k4.drew
     have c6:=hcc V6 o4 k6;rw [<-hV6] at c6;have g16:=(k6.block mk (au g1V) id).trans g1V;have g26:o4 mk=(M+4,2):=by rw [k6.own mk (au g1V)];exact g2
     have hput:=Md g16 hno m.c (.slice la n lc);have kk:=(aj.refl (ak (M+4)) V6 o4).DR mk (.map (Bd 0 (es++[(src,m.c,Value.slice la n lc)])).toArray (es++[(src,m.c,Value.slice la n lc)]).length) (.inl (by rw [g26];rfl));have n4:¬ ak (M+4) 0:=fun h=>by unfold ak at h;omega
     have hhp:OE _ o4 (M+4) mk (has.set src (some (m.c,m.ls))):=dY (w:=V6) (o:=o4) (Ot (au g16)) g26 g3 hno (fun x hx=>by obtain ⟨ls,a,b⟩:=g4V x hx;exact ⟨ls,a,b.step k6 id⟩) (fun i p hp=>g5 i p hp) (fun v l h=>h.step kk n4) hsl ((hlV.step k6 id).step kk n4 |>.low (Nat.zero_le _));have po6:o4 p=(M+4,1):=(k6.own p (au hpV)).trans hpo;have hmp:mk ≠ p:=fun h=>by rw [h,po6] at g26;cases g26
     have hmz:mk ≠ pz:=fun h=>by have:=(hbV.step k6 id).2;rw [<-h,g26] at this;cases this
     have hsn:Qx (DR V6 mk (.map (Bd 0 (es++[(src,m.c,Value.slice la n lc)])).toArray (es++[(src,m.c,Value.slice la n lc)]).length)) o4 D M pz ps pd p ({ z with BB := .stands mine (has.set src (some (m.c,m.ls))) }:Am) mine (has.set src (some (m.c,m.ls))):=
      ⟨hDM,⟨(JS hmz).trans (hbV.step k6 id).1,(hbV.step k6 id).2⟩,⟨mk,(JS hmp).trans ((k6.block p (au hpV) id).trans hpV),po6,hhp⟩,(AnG.step0 k6).step kk (InN.self hDM.1)⟩
     obtain ⟨W7,hW7⟩:=az (DR V6 mk (.map (Bd 0 (es++[(src,m.c,Value.slice la n lc)])).toArray (es++[(src,m.c,Value.slice la n lc)]).length));rw [hW7] at hput kk hsn;have hle:=ae (lead_any hsn rfl (hp.promised hrr src ⟨hm.n1,hm.hl,Nat.le_add_left _ _⟩) hK hB);have hF4:=ae ((((s1.trans kV).trans k6).mono (T':=InN D M) dh).trans (kk.mono (T':=InN D M) (fun k h=>(show InN D M k by cases h;exact InN.own))));have hRH:=ae hR;have Aga:=ae hlk;have AiM:=ae pal;have AiJ:=ae pst;have AtV:=ae hput;clear hb hst hl1 s1 mb1 mo1 hW1 hmb hbx e2 hls hsm hn3 hn1 kV hN mbV h1 hrr hR p0 hp1 hpo AqM hme hce hcc g1 g2 g3 g4 g5 g1V g4V hpV hbV AnG hlV pal hlk pst k4 hW4 Amw hsn hg hhl hsl k6 g16 g26 hput kk n4 hhp po6 hmp hmz hno hW7;go_enter func100,ntmps100
     go_wp2_with ((with_reducible apply BM);exact xH.out;simp only [Act.put,lsa,lsz,lss])
     refine Aa (fun w'=>w'.cell? (aW mb 1)=some (m.e:aV)/\w'.cell? (aW mb 2)=some (m.c:aV)/\w'.cell? p=some (mine:aV)) (fun _=>true) bf hS (fun hHeld => ?_);rw [hV] at hHeld ⊢;clear hV hS;refine tq 0 (h:=tq 1 (h:=tq 2 (h:=tq 3 (h:=tq 4 (h:=tq 5 (h:=tq 6 (h:=tq 7 (h:=tq 8 (h:=tq 9 (h:=tq 10 (h:=tq 11 (h:=tq 12 (h:=tq 13 (h:=?_))))))))))))));refine tq 14 (h:=tq 15 (h:=tq 16 (h:=tq 17 (h:=tD (h:=?_)))));clear hHeld
     go_wp2_with (first
      | ((with_reducible apply DN);exact Aga.out;simp only [Act.put,lsa,lsz,lss])
      | ((with_reducible apply AU);exact AiM.out;simp only [Act.put,lsa,lsz,lss])
      | ((with_reducible apply AC);exact AiJ.out;simp only [Act.put]))
     refine Aa (fun w'=>w'.cell? (aW p 1)=some (.map (some mk))/\w'.cell? (aW mb 2)=some (m.c:aV)/\w'.cell? (aW mb 5)=some (.slice la n lc)) (fun i=>decide (i<10)) bf c6 (fun hHeld => ?_);rw [hV6] at hHeld ⊢;clear hV6 c6;refine tq 0 (h:=tq 1 (h:=tq 2 (h:=tq 3 (h:=tq 4 (h:=tq 5 (h:=tq 6 (h:=tq 7 (h:=tq 8 (h:=tq 9 (h:=tO 10 (h:=?_)))))))))));refine QO AtV.out ?_;go_wp2_with fail;refine ⟨fun h=>by simp at h, ?_⟩;refine tD (h:=?_);clear cV;go_wp2_with fail;refine hle.out.mono ?_;rintro ex W5 ⟨v5,o5,rfl,hs5,hou,hn5⟩;have hF5:=aa3 (hF4.out.trans hs5) hou hn5;obtain ⟨ya,yc,rfl⟩:=hou.form;clear hs5 hou hn5 hle;go_wp2_with fail;go_ret;refine ⟨_,o5,rfl,hF5.out.1, ?_, ?_⟩
     ·rw [<-hRH.out];exact hF5.out.2.1
     ·rw [<-hRH.out];exact hF5.out.2.2
  ·rw [if_pos (.inl hme)] at hR;have Aqv:¬ (mine.toNat:Int)=(m.e.toNat:Int):=fun h=>hme (BitVec.eq_of_toNat_eq aP);have Bfm:¬ mine.toNat=m.e.toNat:=fun h=>hme (BitVec.eq_of_toNat_eq h);have hRH:=ae hR;clear hb hst hl1 s1 mb1 mo1 hW1 hmb hbx e2 hls hsm hn3 hn1 kV hN mbV h1 hrr hR p0 hp1 hpo hha;go_enter func100,ntmps100
   go_wp2_with ((with_reducible apply BM);exact xH.out;simp only [Act.put,lsa,lsz,lss])
   refine Aa (fun w'=>w'.cell? (aW mb 1)=some (m.e:aV)/\w'.cell? (aW mb 2)=some (m.c:aV)/\w'.cell? p=some (mine:aV)) (fun _=>true) bf hS (fun hHeld => ?_);rw [hV] at hHeld ⊢;clear hV hS;refine tq 0 (h:=tq 1 (h:=tq 2 (h:=tq 3 (h:=tq 4 (h:=tq 5 (h:=tq 6 (h:=tq 7 (h:=tq 8 (h:=tg 9 (.bool true) (h:=tq 10 (h:=tq 11 (h:=ts 12 (h:=ts 13 (h:=?_))))))))))))));refine ts 14 (h:=ts 15 (h:=ts 16 (h:=tq 17 (h:=tD (h:=?_)))));clear hHeld;go_wp2_with fail;go_ret;refine ⟨_,o1,rfl,hF.out.1.mono dh, ?_, ?_⟩
   ·rw [<-hRH.out];exact Dn.nil _ _
   ·rw [<-hRH.out];exact hF.out.2
end
section
variable {w:World} {o:Own} {D M pz ps pd K B base:Nat} {z:Am}
theorem PZ (h:Bc w o D M pz ps pd z) (hp:Am.NP K B z) (hK:K+600<65536) (src:Nat) (m:BG) (hm:m.May) (hB:B+AP m.ls<=90000) (hl:Lines w o base lv m.ls) :
  Calls prog 103 #[.pointer pz, (src:aV),Ea m lv] w (XL (InN D M) w o fun v w' o'=>Dn w' o' v (Ed (z.BF src m).2)/\Bc w' o' D M pz ps pd (z.BF src m).1):=by
 obtain ⟨R,hR⟩:=az (z.BF src m);rw [hR];unfold Am.BF at hR;obtain ⟨la,lc,hlv⟩:=hl.form;obtain ⟨n,hn⟩:=az (m.ls.length);rw [hn] at hlv;subst hlv;have hn3:z.n<=3:=hp.ok.n3;have hn1:1<=z.n:=hp.ok.n1;have hls:En B z.s.kept.lines:=hp.ok.ls;have hsm:=En.small hls aP;have s1:=(aj.refl ai w o).alloc (.cells (Bf m (.slice la n lc)).toArray 46) (0,0);have mb1:=heap_alloc_new w (.cells (Bf m (.slice la n lc)).toArray 46);have mo1:=Au o w.heap.size (0,0);generalize Ak o w.heap.size (0,0)=o1 at *;obtain ⟨W1,hW1⟩:=az (w.alloc (.cells (Bf m (.slice la n lc)).toArray 46));rw [hW1] at s1 mb1;have hbx:(Instr.box 46 (Ea m (.slice la n lc))).run prog w = .ok (.pointer w.heap.size) W1:=by rw [<-hW1];kernel_rfl
 obtain ⟨mb,hmb⟩:=az (w.heap.size);rw [hmb] at mb1 mo1 hbx;have h1:=h.step0 s1;have hl1:=hl.step s1 id;obtain ⟨-, -,e2, -⟩:=h1.cell;unfold Ea at hbx ⊢;have xH:=ae hbx;have hkp:=ae (DJ h1.store hsm);have hA:=aa5 s1 mb1 mo1 h1 hl1;have hPH:=ae hp;have hmH:=ae hm;have hI:=aa4 hn3 hn1 hls hsm;have hnH:=ae hn;clear s1 mb1 mo1 h1 hl1 hW1 hmb hbx h hl hp hm hn3 hn1 hls hsm hn;go_enter func103,ntmps103
 go_wp2_with ((with_reducible apply BM);exact xH.out;simp only [Act.put,lsa,lsz,lss])
 refine hkp.out.mono ?_;rintro ex w2 ⟨v2,o2,rfl,hs2,lk,rfl,hlk,rfl⟩;obtain ⟨ka,kc,rfl⟩:=hlk.form;obtain ⟨L,hL⟩:=az (z.s.kept.lines.length);have kal:=AB (P:=prog) w2 55 _ OZ;have kst:=MX w2 z.s.kept.promised z.s.kept.current ka L kc;have k3:=(aj.refl ai w2 (ext W1 o1)).alloc (.cells (BR z.s.kept.promised z.s.kept.current (.slice ka L kc)).toArray 55) (0,0);have kb3:=heap_alloc_new w2 (.cells (BR z.s.kept.promised z.s.kept.current (.slice ka L kc)).toArray 55);have ko3:=Au (ext W1 o1) w2.heap.size (0,0);generalize Ak (ext W1 o1) w2.heap.size (0,0)=o3 at *;obtain ⟨W3,hW3⟩:=az (w2.alloc (.cells (BR z.s.kept.promised z.s.kept.current (.slice ka L kc)).toArray 55));rw [hW3] at kst k3 kb3;obtain ⟨kb,hkb⟩:=az (w2.heap.size);rw [hkb] at kal kst kb3 ko3;obtain ⟨s1,mb1,mo1,h1,hl1⟩:=hA.out;have k13:=hs2.trans k3;have h3:=h1.step0 k13;have mb3:=k13.di mb1 id;have mo3:=(k13.own _ (au mb1)).trans mo1;have hl3:=hl1.step k13 id;have Ade:=(hlk.step k3 id).low (Nat.zero_le _);have st3:=s1.trans k13;rw [hL] at Ade;obtain ⟨m0,m1,m2,m3,m4,m5⟩:=Gt mb3;have kc0:=ag kb3 0;have kc1:=ag kb3 1;have kc2:=ag kb3 2;simp only [BR,ay,ax] at kc0 kc1 kc2;have how:=ae (PM h3 hI.out.2.1 hI.out.1 src m.e);have hQ:=aa8 st3 mb3 mo3 h3 hl3 kb3 ko3 Ade;have AiS:=ae kal;have AiR:=ae kst;rw [hL];clear hs2 hlk kal kst k3 kb3 ko3 hW3 hkb s1 mb1 mo1 h1 hl1 k13 h3 mb3 mo3 hl3 Ade st3 hkp e2
 go_wp2_with (first
  | ((with_reducible apply AU);exact AiS.out;simp only [Act.put,lsa,lsz,lss])
  | ((with_reducible apply AC);exact AiR.out;simp only [Act.put]))
 refine how.out.mono ?_;rintro ex w' ⟨rfl,rfl⟩
 cases ho:z.BN.owns src m.e with
 | false =>
  rw [ho] at hR;simp only [Bool.not_false,if_true] at hR;have hRH:=ae hR;clear ho hR;go_wp2_with fail;go_ret;refine ⟨_,o3,rfl,hQ.out.1.mono dh, ?_, ?_⟩
  ·rw [<-hRH.out];exact Dn.nil _ _
  ·rw [<-hRH.out];exact hQ.out.2.2.2.1
 | true =>
  rw [ho] at hR;simp only [Bool.not_true,Bool.false_eq_true,if_false] at hR;clear ho;have hpt:z.s.kept.promised.toNat<=281474976710656:=hPH.out.ok.pt
  by_cases hle:m.e.toNat<z.s.kept.promised.toNat
  ·rw [if_pos hle] at hR;have hRH:=ae hR;have Ama:(m.e.toNat:Int)<(z.s.kept.promised.toNat:Int):=aP
   have hrf:=ae (Lt hQ.out.2.2.2.1 hI.out.2.2.2 (by have:=hmH.out.e1;omega) hpt src);clear hR;go_wp2_with fail;refine hrf.out.mono ?_;rintro ex w4 ⟨v4,o4,rfl,hs4,hou⟩;have hF:=aa3 (hQ.out.1.trans hs4) hou (hQ.out.2.2.2.1.step0 hs4);obtain ⟨xa,xc,rfl⟩:=hou.form;clear hs4 hou hrf;go_wp2_with fail;go_ret;refine ⟨_,o4,rfl,hF.out.1.mono dh, ?_, ?_⟩
   ·rw [<-hRH.out];exact hF.out.2.1
   ·rw [<-hRH.out];exact hF.out.2.2
  ·rw [if_neg hle] at hR;have Ama:¬ (m.e.toNat:Int)<(z.s.kept.promised.toNat:Int):=aP
   by_cases hpc:z.s.kept.promised ≠ m.e \/ z.s.kept.current ≠ m.e
   ·rw [if_pos hpc] at hR;have hRH:=ae hR;clear hR
    by_cases hp1:z.s.kept.promised=m.e
    ·have hcI:¬ (z.s.kept.current.toNat:Int)=(m.e.toNat:Int):=fun h=>(hpc.resolve_left (fun h=>h hp1)) (BitVec.eq_of_toNat_eq aP);have hpI:(z.s.kept.promised.toNat:Int)=(m.e.toNat:Int):=by rw [hp1]
     clear hpc hp1;go_wp2_with fail;go_ret;refine ⟨_,o3,rfl,hQ.out.1.mono dh, ?_, ?_⟩
     ·rw [<-hRH.out];exact Dn.nil _ _
     ·rw [<-hRH.out];exact hQ.out.2.2.2.1
    ·have hpI:¬ (z.s.kept.promised.toNat:Int)=(m.e.toNat:Int):=fun h=>hp1 (BitVec.eq_of_toNat_eq aP);clear hpc hp1;go_wp2_with fail;go_ret;refine ⟨_,o3,rfl,hQ.out.1.mono dh, ?_, ?_⟩
     ·rw [<-hRH.out];exact Dn.nil _ _
     ·rw [<-hRH.out];exact hQ.out.2.2.2.1
   ·rw [if_neg hpc] at hR;have hpI:(z.s.kept.promised.toNat:Int)=(m.e.toNat:Int):=by
     by_cases h:z.s.kept.promised=m.e
     ·rw [h]
     ·exact absurd (.inl h) hpc
    have hcI:(z.s.kept.current.toNat:Int)=(m.e.toNat:Int):=by
     by_cases h:z.s.kept.current=m.e
     ·rw [h]
     ·exact absurd (.inr h) hpc
    clear hpc;have hfo:=ae (FD hQ.out.2.2.2.1);rw [hL] at hR;go_wp2_with fail;refine hfo.out.mono ?_;rintro ex W7 ⟨v7,o7,rfl,hs7,rfl,hn7⟩;have n4:¬ ak (M+4) 0:=fun h=>by unfold ak at h;omega
    obtain ⟨st3,mb3,mo3,h3,hl3,kb3,ko3,Ade⟩:=hQ.out;have mb7:=(hs7.block mb (au mb3) (by rw [mo3];exact n4)).trans mb3;have kb7:=(hs7.block kb (au kb3) (by rw [ko3];exact n4)).trans kb3;have mo7:(o7 mb).1=0:=by rw [hs7.own mb (au mb3),mo3]
    have wY:=hl3.step hs7 n4;have st7:=(st3.mono (T':=InN D M) dh).trans (hs7.mono (T':=InN D M) (fun k h=>(show InN D M k by cases h;exact InN.own)));obtain ⟨m0',m1',m2',m3',m4',m5'⟩:=Gt mb7;have k2':=ag kb7 2;simp only [BR,ay,ax] at k2';have haI:(0:Int)<=(m.at':Int)/\(m.at':Int)<=256:=by have:=hmH.out.a1;omega
    have hLI:(0:Int)<=(L:Int)/\(L:Int)<=256:=by have:=hI.out.2.2.1.n;omega
    have hnI:(0:Int)<=(n:Int)/\(n:Int)<=256:=by have:=hmH.out.n1;have:=hnH.out;omega
    have hG7:=aa5 st7 hn7 mb7 mo7 wY;clear hs7 hn7 st3 mb3 mo3 h3 hl3 kb3 ko3 Ade mb7 kb7 mo7 wY st7 hfo m0 m1 m2 m3 m4 m5 kc0 kc1 kc2
    by_cases hat:L<m.at'
    ·rw [if_pos hat] at hR;have hRH:=ae hR;have AzY:(L:Int)<(m.at':Int):=aP
     clear hR;go_wp2_with fail;go_ret;refine ⟨_,o7,rfl,hG7.out.1, ?_, ?_⟩
     ·rw [<-hRH.out];exact Dn.nil _ _
     ·rw [<-hRH.out];exact hG7.out.2.1
    ·rw [if_neg hat] at hR;have AzY:¬ (L:Int)<(m.at':Int):=aP
     obtain ⟨xi,hxi⟩:=az (min n (L - m.at'));have Aup:min (n:Int) ((L:Int) - (m.at':Int))=(xi:Int):=aP
     have hxn:xi<=m.ls.length:=by rw [hnH.out];omega
     have hdr:m.ls.drop (L - m.at')=m.ls.drop xi:=by
      by_cases hc:L - m.at'<=n
      ·rw [show xi=L - m.at' by omega]
      ·rw [List.drop_eq_nil_of_le (by rw [hnH.out];omega),List.drop_eq_nil_of_le (by rw [hnH.out];omega)]
     rw [hdr] at hR;obtain ⟨sv,hrun,hSL⟩:=Oz hG7.out.2.2.2.2 xi hxn;obtain ⟨more,hmo⟩:=az (m.ls.drop xi);rw [hmo] at hSL hR;obtain ⟨sa,sc,rfl⟩:=hSL.form;obtain ⟨r,hr⟩:=az (more.length);rw [hr] at hrun;have hrI:(0:Int)<=(r:Int)/\(r:Int)<=256:=by
      have:more.length<=m.ls.length:=by rw [<-hmo,List.length_drop];omega
      rw [hr,hnH.out] at this;omega
     have Aax:=ae hrun;have Aro:=ae hSL;have Aqs:=ae hmo;have tN:=ae hr;clear hrun hSL hdr hxn hxi
     by_cases hmz:more=[]
     ·rw [if_pos hmz] at hR;have hr0:r=0:=by rw [<-hr,hmz];rfl
      subst hr0;have hRH:=ae hR;clear hR hr hmo
      go_wp2_with ((with_reducible apply FM);exact Aax.out _;simp only [Act.put,lsa,lsz,lss])
      clear m0' m1' m2' m3' m4' m5' k2' Aup;obtain ⟨Zc,hZc⟩:=az (z.follow);obtain ⟨WE,hWE⟩:=az (W7);obtain ⟨oE,hoE⟩:=az (o7);have hzc:Zc.Ag=z.Ag:=by rw [<-hZc];rfl
      have hzs:Zc.s=z.s:=by rw [<-hZc];rfl
      have hE:=aa4 hG7.out.1 hG7.out.2.1 hG7.out.2.2.1 hG7.out.2.2.2.1;rw [hZc] at hRH hE;rw [<-hL] at hRH;rw [<-hzs] at hRH;have hKL:=aa2 hI.out.2.2.2 hI.out.2.2.1.n;rw [<-hzs] at hKL;subst hWE;subst hoE;clear hG7 Aro Aax Aqs tN hZc hzs;obtain ⟨V,hV⟩:=az (W7.drew);have dr:aj ai W7 o7 V o7:=by rw [<-hV];exact (aj.refl ai W7 o7).drew
      have hNV:=hE.out.2.1.step0 dr;have mbV:=dr.di hE.out.2.2.1 id;obtain ⟨-, -,e2, -, -,e6⟩:=hNV.cell;rw [hzc] at e6;have q4:V.cell? (aW mb 4)=some (m.com:aV):=ag mbV 4;have hS:=aI e6 (aI q4 e2);rw [<-hV] at hS;have Amd:=ae (DJ hNV.store hKL.out.1);have hEV:=aa3 (hE.out.1.trans (dr.mono (T':=InN D M) dh)) hNV mbV;obtain ⟨KLn,AmC⟩:=az (Zc.s.kept.lines.length);have Amn:(0:Int)<=(z.Ag:Int)/\(z.Ag:Int)<=256:=by
       have h1:z.Ag<=z.s.kept.lines.length:=hPH.out.ok.co;have:=hI.out.2.2.1.n;omega
      have AzN:(0:Int)<=(m.com:Int)/\(m.com:Int)<=256:=by have:=hmH.out.o1;omega
      have Azx:(0:Int)<=(KLn:Int)/\(KLn:Int)<=256:=by have:=hKL.out.2;omega
      have hx1:min (m.com:Int) (KLn:Int)=((min m.com KLn:Nat):Int):=aP
      obtain ⟨mn,hmn⟩:=az (min m.com KLn);rw [hmn] at hx1;have hx2:max (z.Ag:Int) (mn:Int)=((max z.Ag mn:Nat):Int):=aP
      have Agg:=ae AmC;have AlQ:=ae hmn;clear dr hNV mbV e2 e6 q4 AmC hmn;refine Aa (fun w'=>w'.cell? (aW pz 6)=some (z.Ag:aV)/\w'.cell? (aW mb 4)=some (m.com:aV)/\w'.cell? (aW pz 2)=some (.pointer ps)) (fun i=>decide (i<18)) bf hS (fun hHeld => ?_);rw [hV] at hHeld ⊢;clear hV hS;refine tq 0 (h:=tq 1 (h:=tq 2 (h:=tq 3 (h:=tq 4 (h:=tq 5 (h:=tq 6 (h:=tq 7 (h:=tq 8 (h:=tq 9 (h:=tq 10 (h:=tO 11 (h:=?_))))))))))));go_wp2_with fail;refine Amd.out.mono ?_;rintro ex W9 ⟨v9,o9,rfl,hs9,lk9,rfl,AhZ,rfl⟩;obtain ⟨k9a,k9c,rfl⟩:=AhZ.form;rw [Agg.out];have hN9:=hEV.out.2.1.step0 hs9;have mb9:=hs9.di hEV.out.2.2 id;have mo9:(ext V o7 mb).1=0:=by rw [hs9.own _ (au hEV.out.2.2)];exact hE.out.2.2.2
      obtain ⟨-, -,e2, -, -,e6⟩:=hN9.cell;rw [hzc] at e6;have q4:W9.cell? (aW mb 4)=some (m.com:aV):=ag mb9 4;have hS9:=aI e6 (aI q4 e2);have f6:=hN9.free 6;obtain ⟨hcm,kcm⟩:=hN9.Ag (max z.Ag mn);have n4:¬ ak (M+4) 0:=fun h=>by unfold ak at h;omega
      have AkV:=(kcm.block mb (au mb9) (by rw [mo9];exact n4)).trans mb9;have c10:=ag AkV 1;simp only [Bf,ay,ax] at c10;have hak:=ae (OY (D:=D) hcm hKL.out.2 hKL.out.1 m.e hmH.out.e1 hmH.out.e2 src);have Afd:=aa2 ((hEV.out.1.trans (hs9.mono (T':=InN D M) dh)).trans (kcm.mono (T':=InN D M) (fun k h=>(show InN D M k by cases h;exact InN.own)))) hcm;have hfk:=fun W=>He W (Zc.s.kept.promised:aV) (Zc.s.kept.current:aV) (.slice k9a KLn k9c);unfold Dy;clear hs9 AhZ hN9 mb9 mo9 hcm kcm n4 AkV Amd hHeld;go_wp2_with fail;refine ⟨fun _=>hS9, ?_⟩;refine tq 12 (h:=tq 13 (h:=tq 14 (h:=tq 15 (h:=tO 16 (h:=?_)))));go_wp2_with fail;refine ⟨fun _=>hS9, ?_⟩;refine tq 17 (h:=tO 18 (h:=?_));go_wp2_with fail;refine ⟨fun h=>by simp at h, ?_⟩;refine tD (h:=?_);clear e6 q4 e2 f6 hx1 hx2 hfk;go_wp2_with fail;refine hak.out.mono ?_;rintro ex W11 ⟨v11,o11,rfl,hs11,hou⟩;have hF:=aa3 (Afd.out.1.trans (hs11.mono dh)) hou (Afd.out.2.step0 hs11);obtain ⟨xa,xc,rfl⟩:=hou.form;clear hs11 hou hak;go_wp2_with fail;go_ret;refine ⟨_,o11,rfl,hF.out.1, ?_, ?_⟩
      ·rw [<-hRH.out,Agg.out,AlQ.out];exact hF.out.2.1
      ·rw [<-hRH.out,Agg.out,AlQ.out];exact hF.out.2.2
     ·rw [if_neg hmz] at hR;have hr1:0<r:=by
       rw [<-hr];exact List.length_pos_iff.2 hmz
      have hrp:(0:Int)<(r:Int):=aP
      have hbm:AP more<=AP m.ls:=by rw [<-hmo];exact FN _ _
      have Auo:small more:=by
       have h1:=hmH.out.small;have h2:=FN m.ls xi;rw [hmo] at h2;have h3:more.length<=m.ls.length:=by rw [<-hmo,List.length_drop];omega
       refine ⟨Nat.le_trans h3 h1.1, ?_⟩;rw [Ej];have:=h1.2;rw [Ej] at this;omega
      have Afm:small (z.s.kept.lines++more):=by
       have h1:=hI.out.2.2.1;have h4:more.length<=m.ls.length:=by rw [<-hmo,List.length_drop];omega
       have h5:=hmH.out.n1;refine ⟨by rw [List.length_append];have:=h1.n;omega, ?_⟩;rw [Ej,List.length_append,DV];have:=h1.n;have:=h1.b;omega
      have hap:=Ob hG7.out.2.1.tags hG7.out.2.1.store hPH.out.sp Aro.out Auo hI.out.2.2.2 (.inl Afm);have hfit:=Jy hPH.out.sp hK hPH.out.kok more (by have:=hI.out.2.2.1.b;omega);obtain ⟨Q,hQQ⟩:=az (z.s.append more);have hQs:z.follow.s=z.s:=rfl;rw [hQs] at hap;simp only [hQQ] at hap hfit hR;rw [hr] at hap;have xK:=ae hap;obtain ⟨-, -,e2, -⟩:=hG7.out.2.1.cell;clear hap hbm Auo Afm hr hr1 hmo hmz
      rcases hfit with ⟨hf1,hf2⟩ | ⟨hf0,s',hf2,hf3,hf4⟩
      ·subst hf2;rw [if_neg (fun h=>by cases h)] at hR;have hRH:=ae hR;clear hR
       go_wp2_with ((with_reducible apply FM);exact Aax.out _;simp only [Act.put,lsa,lsz,lss])
       refine xK.out.mono ?_;rintro ex W8 ⟨v8,o8,rfl,hs8,rfl,Aft⟩;have hF:=aa2 (hG7.out.1.trans (hs8.mono InN.in4)) (hG7.out.2.1.restore hs8 Aft);clear hs8 Aft xK m0' m1' m2' m3' m4' m5' k2' e2;go_wp2_with fail;go_ret;refine ⟨_,o8,rfl,hF.out.1, ?_, ?_⟩
       ·rw [<-hRH.out];exact Dn.nil _ _
       ·rw [<-hRH.out];exact hF.out.2
      ·subst hf2;rw [if_pos rfl] at hR;have hRH:=ae hR;clear hR
       go_wp2_with ((with_reducible apply FM);exact Aax.out _;simp only [Act.put,lsa,lsz,lss])
       refine xK.out.mono ?_;rintro ex W8 ⟨v8,o8,rfl,hs8,rfl,Aft⟩;have n0:=n04 hG7.out.2.1.tags;obtain ⟨Zc,hZc⟩:=az (({ z.follow with s:=s' }:Am));have hzc:Zc.Ag=z.Ag:=by rw [<-hZc];rfl
       have hzs:Zc.s=s':=by rw [<-hZc]
       have hE:=aa4 (hG7.out.1.trans (hs8.mono InN.in4)) (hG7.out.2.1.restore hs8 Aft) ((hs8.block mb (au hG7.out.2.2.1) (by rw [hG7.out.2.2.2.1];exact n0)).trans hG7.out.2.2.1) (show (o8 mb).1=0 by rw [hs8.own mb (au hG7.out.2.2.1)];exact hG7.out.2.2.2.1);have hle2:=Si hf0;have hkA:=Ih hf0;have hkl:s'.kept.lines=z.s.kept.lines++more:=by rw [hf4,hkA]
       have hKL:Hid (small Zc.s.kept.lines/\Zc.s.kept.lines.length<=256):=by
        refine ae ?_;rw [hzs,hkl];have h1:=hI.out.2.2.1;have hbm:AP more<=AP m.ls:=by rw [<-Aqs.out];exact FN _ _
        refine ⟨⟨by rw [List.length_append];omega, ?_⟩,by rw [List.length_append];omega⟩;rw [Ej,List.length_append,DV];have:=h1.b;omega
       rw [<-hzs] at hRH;have hZe:∀ c,({ id:=z.follow.id,n:=z.follow.n,s:=Zc.s,BB:=z.follow.BB,waited:=z.follow.waited,seen:=z.follow.seen,Ag:=c }:Am)={ Zc with Ag:=c }:=by intro c;rw [<-hZc]
       have Ajo:Hid ((({ Zc with Ag:=max z.Ag (min m.com Zc.s.kept.lines.length) }:Am),({ Zc with Ag:=max z.Ag (min m.com Zc.s.kept.lines.length) }:Am).BN.ack src m.e)=R):=by
        refine ae ?_;rw [<-hRH.out, <-hZc]
       rw [hZc] at hE;clear hRH;have hRH:=Ajo;clear Ajo hs8 Aft xK m0' m1' m2' m3' m4' m5' k2' e2 Aup hle2 hkA hkl hZe hZc hzs hf4 n0 Aro Aax Aqs tN hG7;go_wp2_with fail;obtain ⟨V,hV⟩:=az (W8.drew);have dr:aj ai W8 o8 V o8:=by rw [<-hV];exact (aj.refl ai W8 o8).drew
       have hNV:=hE.out.2.1.step0 dr;have mbV:=dr.di hE.out.2.2.1 id;obtain ⟨-, -,e2, -, -,e6⟩:=hNV.cell;rw [hzc] at e6;have q4:V.cell? (aW mb 4)=some (m.com:aV):=ag mbV 4;have hS:=aI e6 (aI q4 e2);rw [<-hV] at hS;have Amd:=ae (DJ hNV.store hKL.out.1);have hEV:=aa3 (hE.out.1.trans (dr.mono (T':=InN D M) dh)) hNV mbV;obtain ⟨KLn,AmC⟩:=az (Zc.s.kept.lines.length);have Amn:(0:Int)<=(z.Ag:Int)/\(z.Ag:Int)<=256:=by
        have h1:z.Ag<=z.s.kept.lines.length:=hPH.out.ok.co;have:=hI.out.2.2.1.n;omega
       have AzN:(0:Int)<=(m.com:Int)/\(m.com:Int)<=256:=by have:=hmH.out.o1;omega
       have Azx:(0:Int)<=(KLn:Int)/\(KLn:Int)<=256:=by have:=hKL.out.2;omega
       have hx1:min (m.com:Int) (KLn:Int)=((min m.com KLn:Nat):Int):=aP
       obtain ⟨mn,hmn⟩:=az (min m.com KLn);rw [hmn] at hx1;have hx2:max (z.Ag:Int) (mn:Int)=((max z.Ag mn:Nat):Int):=aP
       have Agg:=ae AmC;have AlQ:=ae hmn;clear dr hNV mbV e2 e6 q4 AmC hmn;refine Aa (fun w'=>w'.cell? (aW pz 6)=some (z.Ag:aV)/\w'.cell? (aW mb 4)=some (m.com:aV)/\w'.cell? (aW pz 2)=some (.pointer ps)) (fun i=>decide (i<18)) bf hS (fun hHeld => ?_);rw [hV] at hHeld ⊢;clear hV hS;refine tq 0 (h:=tq 1 (h:=tq 2 (h:=tq 3 (h:=tq 4 (h:=tq 5 (h:=tq 6 (h:=tq 7 (h:=tq 8 (h:=tq 9 (h:=tq 10 (h:=tO 11 (h:=?_))))))))))));go_wp2_with fail;refine Amd.out.mono ?_;rintro ex W9 ⟨v9,o9,rfl,hs9,lk9,rfl,AhZ,rfl⟩;obtain ⟨k9a,k9c,rfl⟩:=AhZ.form;rw [Agg.out];have hN9:=hEV.out.2.1.step0 hs9;have mb9:=hs9.di hEV.out.2.2 id;have mo9:(ext V o8 mb).1=0:=by rw [hs9.own _ (au hEV.out.2.2)];exact hE.out.2.2.2
       obtain ⟨-, -,e2, -, -,e6⟩:=hN9.cell;rw [hzc] at e6;have q4:W9.cell? (aW mb 4)=some (m.com:aV):=ag mb9 4;have hS9:=aI e6 (aI q4 e2);have f6:=hN9.free 6;obtain ⟨hcm,kcm⟩:=hN9.Ag (max z.Ag mn);have n4:¬ ak (M+4) 0:=fun h=>by unfold ak at h;omega
       have AkV:=(kcm.block mb (au mb9) (by rw [mo9];exact n4)).trans mb9;have c10:=ag AkV 1;simp only [Bf,ay,ax] at c10;have hak:=ae (OY (D:=D) hcm hKL.out.2 hKL.out.1 m.e hmH.out.e1 hmH.out.e2 src);have Afd:=aa2 ((hEV.out.1.trans (hs9.mono (T':=InN D M) dh)).trans (kcm.mono (T':=InN D M) (fun k h=>(show InN D M k by cases h;exact InN.own)))) hcm;have hfk:=fun W=>He W (Zc.s.kept.promised:aV) (Zc.s.kept.current:aV) (.slice k9a KLn k9c);unfold Dy;clear hs9 AhZ hN9 mb9 mo9 hcm kcm n4 AkV Amd hHeld;go_wp2_with fail;refine ⟨fun _=>hS9, ?_⟩;refine tq 12 (h:=tq 13 (h:=tq 14 (h:=tq 15 (h:=tO 16 (h:=?_)))));go_wp2_with fail;refine ⟨fun _=>hS9, ?_⟩;refine tq 17 (h:=tO 18 (h:=?_));go_wp2_with fail;refine ⟨fun h=>by simp at h, ?_⟩;refine tD (h:=?_);clear e6 q4 e2 f6 hx1 hx2 hfk;go_wp2_with fail;refine hak.out.mono ?_;rintro ex W11 ⟨v11,o11,rfl,hs11,hou⟩;have hF:=aa3 (Afd.out.1.trans (hs11.mono dh)) hou (Afd.out.2.step0 hs11);obtain ⟨xa,xc,rfl⟩:=hou.form;clear hs11 hou hak;go_wp2_with fail;go_ret;refine ⟨_,o11,rfl,hF.out.1, ?_, ?_⟩
       ·rw [<-hRH.out,Agg.out,AlQ.out];exact hF.out.2.1
       ·rw [<-hRH.out,Agg.out,AlQ.out];exact hF.out.2.2
end
theorem EI {b:Nat} (hb:w.heap[b]?=some HY) (k:Nat) (f:Nat) (hf:(k=1/\f=99) \/ (k=2/\f=100) \/ (k=3/\f=101) \/ (k=4/\f=102) \/ (k=5/\f=103) \/ (k=6/\f=104)) :
  (Instr.lookup 103 (.map (some b)) (.int .u8 (k:Int)) false).run prog w = .ok (.func (.func f) #[] #[]) w:=by
 have hck:∀ k:Int,(Instr.checkKey false 10000 5 (.int .u8 k)).run prog w = .ok () w:=fun k=>by
  unfold Instr.checkKey;simp [run_underlying underlying5]
 unfold HY at hb
 rcases hf with ⟨rfl,rfl⟩ | ⟨rfl,rfl⟩ | ⟨rfl,rfl⟩ | ⟨rfl,rfl⟩ | ⟨rfl,rfl⟩ | ⟨rfl,rfl⟩
 all_goals
  simp only [Instr.lookup,Sem.run_bind,run_underlying underlying103,Result.andThen_ok,MapKept.run_getObj_map hb,Sem.run_pure,Instr.findKey,run_underlying underlying5];simp [Instr.findNow,Instr.sameNow,hck]
section
variable {w:World} {o:Own} {D M pz ps pd K B base:Nat} {z:Am}
theorem YU (hp:Am.NP K B z) (hK:K+600<65536) (src:Nat) (hsrc:src<z.n) (m:BG) (hm:m.May) (hB:B+AP m.ls<=90000) :
  ∃ f,(∀ (W:World) (b:Nat),W.heap[b]?=some HY->(Instr.lookup 103 (.map (some b)) (.int .u8 (m.k:Int)) false).run prog W = .ok (.func (.func f) #[] #[]) W) /\
   (∀ (args:Array Value) (x:World),(callFunc f args).run prog x = .ok (.enter f args) x) /\
   ∀ (w:World) (o:Own) (base:Nat) (lv:Value),Bc w o D M pz ps pd z->Lines w o base lv m.ls->Calls prog f #[.pointer pz, (src:aV),Ea m lv] w (XL (InN D M) w o fun v w' o'=>Dn w' o' v (Ed (z.Ec src m).2)/\Bc w' o' D M pz ps pd (z.Ec src m).1):=by
 have h6:=hm.k6;have h1:=hm.k1;have hB':B<=90000:=aP
 have hmb:AP m.ls<=90000:=aP
 by_cases k1:m.k=1
 ·refine ⟨99,fun W b hb=>EI hb _ _ (.inl ⟨k1,rfl⟩),Tryz.call99,fun w o base lv h hl => ?_⟩;have e:z.Ec src m=z.BK src m:=by unfold Am.Ec;rw [if_pos k1]
  rw [e];exact QQ h hp hK hB' src m hm hl
 ·by_cases k2:m.k=2
  ·refine ⟨100,fun W b hb=>EI hb _ _ (.inr (.inl ⟨k2,rfl⟩)),Tryz.call100,fun w o base lv h hl => ?_⟩;have e:z.Ec src m=z.Bj src m:=by unfold Am.Ec;rw [if_neg k1,if_pos k2]
   rw [e];exact OM h hp hK src hsrc m hm hB hl
  ·by_cases k3:m.k=3
   ·refine ⟨101,fun W b hb=>EI hb _ _ (.inr (.inr (.inl ⟨k3,rfl⟩))),Tryz.call101,fun w o base lv h hl => ?_⟩;have e:z.Ec src m=z.Cj m:=by unfold Am.Ec;rw [if_neg k1,if_neg k2,if_pos k3]
    rw [e];exact PX h hp hB' src m hm hl
   ·by_cases k4:m.k=4
    ·refine ⟨102,fun W b hb=>EI hb _ _ (.inr (.inr (.inr (.inl ⟨k4,rfl⟩)))),Tryz.call102,fun w o base lv h hl => ?_⟩;have e:z.Ec src m=z.BD src m:=by unfold Am.Ec;rw [if_neg k1,if_neg k2,if_neg k3,if_pos k4]
     rw [e];exact QR h hp hK hB' src m hm hmb hl
    ·by_cases k5:m.k=5
     ·refine ⟨103,fun W b hb=>EI hb _ _ (.inr (.inr (.inr (.inr (.inl ⟨k5,rfl⟩))))),Tryz.call103,fun w o base lv h hl => ?_⟩;have e:z.Ec src m=z.BF src m:=by unfold Am.Ec;rw [if_neg k1,if_neg k2,if_neg k3,if_neg k4,if_pos k5]
      rw [e];exact PZ h hp hK src m hm hB hl
     ·have k6:m.k=6:=aP
      refine ⟨104,fun W b hb=>EI hb _ _ (.inr (.inr (.inr (.inr (.inr ⟨k6,rfl⟩))))),Tryz.call104,fun w o base lv h hl => ?_⟩;have e:z.Ec src m=z.CJ src m:=by unfold Am.Ec;rw [if_neg k1,if_neg k2,if_neg k3,if_neg k4,if_neg k5]
      rw [e];exact VA h hp hB' src hsrc m hm hl
theorem YS (h:Bc w o D M pz ps pd z) (hd:z.dead=true) (f:Int) (la:Option Addr) (ln lc:Nat):Calls prog 21 #[.pointer pz, .int .i64 f, .slice la ln lc] w fun e w'=>e = .returned (.slice none 0 0)/\w=w':=by
 have hdd:=FI h;rw [hd] at hdd;have AbE:=ae hdd;clear h hd hdd;go_enter func21,ntmps21;go_wp2_with fail;refine AbE.out.mono ?_;rintro e w' ⟨rfl,rfl⟩;go_wp2_with fail;go_ret;exact ⟨rfl,rfl⟩
theorem Amj (h:Bc w o D M pz ps pd z) (hd:z.dead=false) (f:Int) (hf:f<0 \/ (z.n:Int)<=f \/ f=(z.id:Int)) (la:Option Addr) (ln lc:Nat):Calls prog 21 #[.pointer pz, .int .i64 f, .slice la ln lc] w fun e w'=>e = .returned (.slice none 0 0)/\w=w':=by
 have hdd:=FI h;rw [hd] at hdd;have AbE:=ae hdd;obtain ⟨c0,c1, -⟩:=h.cell;clear h hd hdd
 by_cases h1:f<0
 ·clear hf;go_enter func21,ntmps21;go_wp2_with fail;refine AbE.out.mono ?_;rintro e w' ⟨rfl,rfl⟩;go_wp2_with fail;go_ret;exact ⟨rfl,rfl⟩
 ·by_cases h2:(z.n:Int)<=f
  ·clear hf;go_enter func21,ntmps21;go_wp2_with fail;refine AbE.out.mono ?_;rintro e w' ⟨rfl,rfl⟩;go_wp2_with fail;go_ret;exact ⟨rfl,rfl⟩
  ·have h3:f=(z.id:Int):=aP
   subst h3;clear hf;go_enter func21,ntmps21;go_wp2_with fail;refine AbE.out.mono ?_;rintro e w' ⟨rfl,rfl⟩;go_wp2_with fail;go_ret;exact ⟨rfl,rfl⟩
theorem YR (h:Bc w o D M pz ps pd z) (hd:z.dead=false) (src:Nat) (hsrc:src<z.n) (hid:src ≠ z.id) (hb:Bytes w o bv l) (hl:l.length<=1000000) (hg:Jn l=none) :
  Calls prog 21 #[.pointer pz, (src:aV),bv] w (XL ai w o fun v _w' _o'=>v = .slice none 0 0):=by
 have hdd:=FI h;rw [hd] at hdd;have AbE:=ae hdd;have hge:=ae (Ug hb hl);obtain ⟨c0,c1, -⟩:=h.cell;obtain ⟨ba,bc,rfl⟩:=Aq hb;have i1:decide ((src:Int)<0)=false:=decide_eq_false aP;have i2:decide (z.n<=src)=false:=decide_eq_false aP;have i3:((src:Int) == (z.id:Int))=false:=by
  have:¬ (src:Int)=(z.id:Int):=aP
  simpa using this
 clear h hd hdd hb;go_enter func21,ntmps21;go_wp2_with fail;refine AbE.out.mono ?_;rintro e w' ⟨rfl,rfl⟩;go_wp2_with fail;refine hge.out.mono ?_;rintro e w1 ⟨v1,o1,rfl,hs1,AeZ⟩;obtain rfl:=AeZ.2 hg;have mal:=ae (AB (P:=prog) w1 46 _ Oa);have mst:=KN w1 ⟨0,0,0,0,0,[]⟩ none 0 0;have hF:=ae (hs1.alloc (.cells (Bf ⟨0,0,0,0,0,[]⟩ (.slice none 0 0)).toArray 46) (0,0));unfold DI at mst;have Anw:=ae mst;unfold Ea;clear hs1 AeZ mst hge
 go_wp2_with (first
  | ((with_reducible apply AU);exact mal.out;simp only [Act.put,lsa,lsz,lss])
  | ((with_reducible apply AC);exact Anw.out;simp only [Act.put]))
 go_ret;exact ⟨_,_,rfl,hF.out,rfl⟩
theorem bC (h:Bc w o D M pz ps pd z) (hp:Am.NP K B z) (hK:K+600<65536) (src:Nat) (hsrc:src<z.n) (hid:src ≠ z.id) (hb:Bytes w o bv l) (hl:l.length<=1000000) {m:BG} (hg:Jn l=some m) (hB:B+AP m.ls<=90000) :
  Calls prog 21 #[.pointer pz, (src:aV),bv] w (XL (InN D M) w o fun v w' o'=>Dn w' o' v (Ed (z.hear src m).2)/\Bc w' o' D M pz ps pd (z.hear src m).1):=by
 have hm:=VH hg;have hdd:=FI h;have hdl:z.dead=false:=hp.sp.dead;rw [hdl] at hdd;have AbE:=ae hdd;have hge:=ae (Ug hb hl);obtain ⟨c0,c1, -⟩:=h.cell;obtain ⟨ba,bc,rfl⟩:=Aq hb;have i1:decide ((src:Int)<0)=false:=decide_eq_false aP;have i2:decide (z.n<=src)=false:=decide_eq_false aP;have i3:((src:Int) == (z.id:Int))=false:=by
  have:¬ (src:Int)=(z.id:Int):=aP
  simpa using this
 have hse:z.seen.toNat<=281474976710656:=hp.ok.se;have hmx:=Vl z.seen m.e;obtain ⟨a,ha⟩:=az (Fj z.seen m.e);rw [ha] at hmx;have Aun:max (z.seen.toNat:Int) (m.e.toNat:Int)=(a.toNat:Int):=aP
 have hok:=hp.ok;have hnp:Am.NP K B ({ z with seen:=a }:Am):=⟨hp.sp,⟨⟨hok.n1,hok.n3,hok.id,hok.ls,hok.cp,hok.pt,(by show a.toNat<=_;have:=hm.e2;omega),hok.co⟩,hok.ro⟩⟩;obtain ⟨fk,hlk,hcall,hkk⟩:=YU (D:=D) (M:=M) (pz:=pz) (ps:=ps) (pd:=pd) hnp hK src hsrc m hm hB;have hR:z.hear src m=({ z with seen:=a }:Am).Ec src m:=by rw [<-ha];rfl
 rw [hR];obtain ⟨n,hn⟩:=az (m.ls.length);have hH:=aa2 h hm;have Aga:=ae hlk;have hkH:=ae hkk;have hcH:=ae hcall;have AlP:=ae Aun;clear h hdd hb hdl hp hm hse hmx Aun hok hnp hlk hkk hR ha hcall;go_enter func21,ntmps21;go_wp2_with fail;refine AbE.out.mono ?_;rintro e w' ⟨rfl,rfl⟩;go_wp2_with fail;refine hge.out.mono ?_;rintro e w1 ⟨v1,o1,rfl,hs1,AeZ⟩;obtain ⟨lv,rfl,hlv⟩:=AeZ.1 m hg;obtain ⟨la,lc,hlf⟩:=hlv.form;rw [hn] at hlf;subst hlf;have mal:=ae (AB (P:=prog) w1 46 _ Oa);have mst:=KN w1 m la n lc;have k2:=(aj.refl ai w1 o1).alloc (.cells (Bf m (.slice la n lc)).toArray 46) (0,0);have mb2:=heap_alloc_new w1 (.cells (Bf m (.slice la n lc)).toArray 46);have mo2:=Au o1 w1.heap.size (0,0);generalize Ak o1 w1.heap.size (0,0)=o2 at *;obtain ⟨W2,hW2⟩:=az (w1.alloc (.cells (Bf m (.slice la n lc)).toArray 46));rw [hW2] at mst k2 mb2;obtain ⟨mb,hmb⟩:=az (w1.heap.size);rw [hmb] at mal mst mb2 mo2;unfold DI at mst;have Anw:=ae mst;obtain ⟨V,hV⟩:=az (W2.drew);have kV:aj ai w1 o1 V o2:=by rw [<-hV];exact k2.drew
 have hNV:=(hH.out.1.step0 hs1).step0 kV;have mbV:V.heap[mb]?=some (.cells (Bf m (.slice la n lc)).toArray 46 (0,0)):=by rw [<-hV];exact mb2
 obtain ⟨-, -, -, -,e5, -⟩:=hNV.cell;have f5:=hNV.free 5;have hS6:=aI e5 (show V.cell? (aW mb 1)=some (m.e:aV) from ag mbV 1);rw [<-hV] at hS6;obtain ⟨hsn,ksn⟩:=hNV.seen a;have n4:¬ ak (M+4) 0:=fun h=>by unfold ak at h;omega
 obtain ⟨V7,hV7⟩:=az ((V.setCell (aW pz 5) (a:aV)).drew);have k7:aj (ak (M+4)) V o2 V7 o2:=by rw [<-hV7];exact ksn.drew
 have hN7:Bc V7 o2 D M pz ps pd { z with seen:=a }:=by rw [<-hV7];exact hsn.step0 (aj.refl ai _ o2).drew
 have mb7:=(k7.block mb (au mbV) (by rw [mo2];exact n4)).trans mbV;have wY:=(hlv.step kV id).step k7 n4;have hcc:∀ W O,aj ai V7 o2 W O->W.cell? mb=some (.int .u8 (m.k:Int))/\W.cell? (aW mb 1)=some (m.e:aV)/\W.cell? (aW mb 2)=some (m.c:aV)/\W.cell? (aW mb 3)=some (m.at':aV)/\W.cell? (aW mb 4)=some (m.com:aV)/\W.cell? (aW mb 5)=some (.slice la n lc):=fun W O hJ=>Gt ((hJ.block mb (au mb7) id).trans mb7);have AzP:=ae hcc;have hS7:=hcc V7 o2 (aj.refl _ _ _);rw [<-hV7] at hS7;have hG:=aa5 (((hs1.trans kV).mono (T':=InN D M) dh).trans (k7.mono (T':=InN D M) (fun k h=>(show InN D M k by cases h;exact InN.own)))) hN7 wY mb7 mo2;have Ayq:=ae mal;unfold Ea;clear hs1 AeZ hge hlv mst k2 mb2 mo2 hW2 hmb kV hNV mbV hsn ksn n4 k7 hN7 mb7 wY hcc mal;have hkd:=ae (YQ V7 o2);unfold Bf at Anw
 go_wp2_with (first
  | ((with_reducible apply AU);exact Ayq.out;simp only [Act.put,lsa,lsz,lss])
  | ((with_reducible apply AC);exact Anw.out;simp only [Act.put]))
 refine Aa (fun w'=>w'.cell? (aW pz 5)=some (z.seen:aV)/\w'.cell? (aW mb 1)=some (m.e:aV)) (fun i=>decide (i<10)) bf hS6 (fun hHeld => ?_);rw [hV] at hHeld ⊢;clear hV hS6;refine tq 0 (h:=tq 1 (h:=tq 2 (h:=tq 3 (h:=tq 4 (h:=tq 5 (h:=tq 6 (h:=tv 7 (a:aV) (hy:=fun w hSw=>by (try dsimp only at hSw);go_simp;exact AlP.out) (h:=tO 8 (h:=?_)))))))));go_wp2_with fail;refine ⟨fun _=>hHeld, ?_⟩;refine tq 9 (h:=tO 10 (h:=?_));go_wp2_with fail;refine ⟨fun h=>by simp at h, ?_⟩;refine tD (h:=?_);clear e5 f5;go_wp2_with fail;refine Aa (fun w'=>w'.cell? mb=some (.int .u8 (m.k:Int))/\w'.cell? (aW mb 1)=some (m.e:aV)/\w'.cell? (aW mb 2)=some (m.c:aV)/\w'.cell? (aW mb 3)=some (m.at':aV)/\w'.cell? (aW mb 4)=some (m.com:aV)/\w'.cell? (aW mb 5)=some (.slice la n lc)) (fun _=>true) bf hS7 (fun hHeld => ?_);rw [hV7] at hHeld ⊢;clear hV7 hS7;refine tq 1 (h:=tq 2 (h:=tq 4 (h:=tq 5 (h:=tq 6 (h:=tO 0 (h:=?_))))));go_wp2_with fail;refine hkd.out.mono ?_;rintro ex W8 ⟨v8,o8,rfl,hs8,hb,rfl,hhm⟩;have hS8:=AzP.out W8 o8 hs8;have hlr:=ae (Aga.out W8 hb hhm);have hcl:=hcH.out;have hfin:=hkH.out W8 o8 w.heap.size (.slice la n lc) (hG.out.2.1.step0 hs8) (hG.out.2.2.1.step hs8 id);unfold Ea at hfin;have Aac:=ae hfin;have hG8:=aa3 (hG.out.1.trans (hs8.mono (T':=InN D M) dh)) ((hs8.block mb (au hG.out.2.2.2.1) id).trans hG.out.2.2.2.1) ((hs8.own mb (au hG.out.2.2.2.1)).trans hG.out.2.2.2.2);clear hs8 hhm hkd hHeld hfin;go_wp2_with fail;refine ⟨fun _=>hS8, ?_⟩;refine tO 3 (h:=?_);refine DN hlr.out ?_;simp only [Act.put,lsa,lsz,lss];go_wp2_with fail;refine ⟨fun _=>hS8, ?_⟩;refine tO 7 (h:=?_);go_wp2_with fail;refine Aac.out.mono ?_;rintro ex W9 ⟨v9,o9,rfl,hs9,hou,hn9⟩;have hF:=aa3 (hG8.out.1.trans hs9) hou hn9;have hS9:=Gt ((hs9.block mb (au hG8.out.2.1) (by rw [hG8.out.2.2];exact InN.zero hn9.tags.2)).trans hG8.out.2.1);obtain ⟨ya,yc,rfl⟩:=hou.form;clear hs9 hou hn9 Aac;go_wp2_with fail;refine ⟨fun _=>hS9, ?_⟩;refine tq 8 (h:=tD (h:=?_));clear hS9;go_wp2_with fail;go_ret;exact ⟨_,o9,rfl,hF.out.1,hF.out.2.1,hF.out.2.2⟩
end
theorem oQ.jW (m:oQ):m.text.1.length+m.text.2.b.length<=m.b.length:=by
 unfold oQ.text;have h1:=oQ.EC 4 m;have h2:∀ (k:Nat) (x:oQ),(x.txt k).1.length+(x.txt k).2.b.length<=x.b.length:=by
  intro k x;unfold oQ.txt oQ.take;split
  ·simp
  ·split
   ·simp
   ·simp only [Option.getD_some,List.length_take,List.length_drop];omega
 have:=h2 (m.num 4).1.toNat (m.num 4).2;omega
theorem jQ (N:Nat) (m:oQ):AP (Ce N m).1+(Ce N m).2.b.length<=m.b.length:=by
 induction N with
 | zero=>simp [Ce,AP]
 | succ k ih =>
  have h1:=oQ.EC 8 (Ce k m).2;have h2:=oQ.jW ((Ce k m).2.num 8).2;simp only [Ce,DV];have h3:AP [⟨((Ce k m).2.num 8).1,((Ce k m).2.num 8).2.text.1⟩]=((Ce k m).2.num 8).2.text.1.length:=by simp [AP]
  omega
theorem jT (l:List UInt8):AP (QN l).1.ls<=l.length:=by
 have hc:∀ (m:oQ),(m.count 256).2.b.length<=m.b.length:=by
  intro m;unfold oQ.count;have:=oQ.EC 8 m;split <;> exact this
 unfold QN oQ.lines;simp only;refine Nat.le_trans (Nat.le_of_add_right_le (jQ _ _)) ?_;refine Nat.le_trans (hc _) (Nat.le_trans (hc _) (Nat.le_trans (hc _) (Nat.le_trans (oQ.EC 8 _) (Nat.le_trans (oQ.EC 8 _) (oQ.EC 1 _)))))
theorem jU {m:BG} (h:Jn l=some m):AP m.ls<=l.length:=by
 unfold Jn at h;split at h
 ·split at h
  ·cases h;exact jT l
  ·cases h
 ·cases h
def Aj.Gj (y:Aj) (f:Int) (l:List UInt8):Aj × DX:=
 if f<0 \/ (y.n:Int)<=f \/ f=(y.id:Int) then (y,[]) else match Jn l with
  | none=>(y,[])
  | some m=>y.hear f.toNat m
def GN (w:World) (o:Own) (D M pz ps pd K B:Nat) (y:Aj):Prop:=∃ z:Am,Bc w o D M pz ps pd z/\Am.NP K B z/\z.BN=y
section
variable {w w':World} {o o':Own} {D M pz ps pd K B:Nat} {y y':Aj} {ts:DX}
theorem GN.mono {K' B':Nat} (h:GN w o D M pz ps pd K B y) (hK:K<=K') (hB:B<=B'):GN w o D M pz ps pd K' B' y:=by
 obtain ⟨z,h1,h2,h3⟩:=h;exact ⟨z,h1,h2.mono hK hB,h3⟩
theorem GN.step0 (h:GN w o D M pz ps pd K B y) (s:aj ai w o w' o'):GN w' o' D M pz ps pd K B y:=by
 obtain ⟨z,h1,h2,h3⟩:=h;exact ⟨z,h1.step0 s,h2,h3⟩
theorem GN.nok (h:GN w o D M pz ps pd K B y):NOk B y:=by
 obtain ⟨z,h1,h2,rfl⟩:=h;exact h2.ok
theorem GN.tags (h:GN w o D M pz ps pd K B y):D<=M/\D ≠ 0:=by
 obtain ⟨z,h1,h2,rfl⟩:=h;exact h1.tags
theorem YW (h:NOk B z) (hB:B<=90000):∀ mine has,z.BB = .stands mine has->∀ p,some p ∈ has->AP p.2<=90000:=by
 intro mine has hr p hp;have h2:=h.ro;rw [hr] at h2;exact Nat.le_trans (h2.2.2.2 p hp).b hB
theorem KE (h:GN w o D M pz ps pd K B y) (hK:K+606<65536) (hB:B<=90000) (hw:y.waited<=1000000) (he:y.tick=(y',ts)) :
  Calls prog 19 #[.pointer pz] w (XL (InN D M) w o fun v w' o'=>Dn w' o' v (Ed ts)/\GN w' o' D M pz ps pd (K+6) B y'):=by
 obtain ⟨z,h1,h2,rfl⟩:=h;obtain ⟨p1,p2,p3⟩:=Am.WC h2.sp hK h2.kok (Nat.le_trans h2.ok.ls.b hB);have hok:=(Aj.dA h2.ok).1;rw [he] at p1 p2 hok;refine (ZB h1 h2 hK hB hw).mono ?_;rintro e w' ⟨v,o',rfl,hs,ho,hn⟩;rw [p2] at ho;exact ⟨v,o',rfl,hs,ho,_,hn,⟨p3,by rw [p1];exact hok⟩,p1⟩
theorem Fz (h:GN w o D M pz ps pd K B y) (hK:K+600<65536) (f:Int) (hb:Bytes w o bv l) (hl:l.length<=1000000) (b:Nat) (hb2:∀ m,Jn l=some m->AP m.ls<=b) (hB:B+b<=90000) (he:y.Gj f l=(y',ts)) :
  Calls prog 21 #[.pointer pz, .int .i64 f,bv] w (XL (InN D M) w o fun v w' o'=>Dn w' o' v (Ed ts)/\GN w' o' D M pz ps pd (K+3) (B+b) y'):=by
 obtain ⟨z,h1,h2,rfl⟩:=h;have hdl:z.dead=false:=h2.sp.dead;unfold Aj.Gj at he
 by_cases hf:f<0 \/ (z.BN.n:Int)<=f \/ f=(z.BN.id:Int)
 ·rw [if_pos hf] at he
  cases he
  obtain ⟨ba,bc,rfl⟩:=Aq hb;refine (Amj h1 hdl f hf ba l.length bc).mono ?_;rintro e w' ⟨rfl,rfl⟩;exact ⟨_,o,rfl,aj.refl _ _ _,Dn.nil _ _,_,h1,h2.mono aP aP,rfl⟩
 ·rw [if_neg hf] at he;have hpn:z.BN.n=z.n:=rfl;have hpi:z.BN.id=z.id:=rfl;rw [hpn,hpi] at hf;obtain ⟨s,rfl⟩:∃ s:Nat,f=s:=⟨f.toNat,aP⟩
  cases hg:Jn l with
  | none =>
   rw [hg] at he;simp only at he
   cases he
   refine (YR h1 hdl s aP aP hb hl hg).mono ?_;rintro e w' ⟨v,o',rfl,hs,rfl⟩;exact ⟨_,o',rfl,hs.mono (fun _ (h:ai _)=>False.elim h),Dn.nil _ _,_,h1.step0 hs,h2.mono aP aP,rfl⟩
  | some m =>
   rw [hg] at he;simp only [Int.toNat_natCast] at he;have hbm:=hb2 m hg;have hlb:=h2.ok.ls.b;obtain ⟨p1,p2,p3⟩:=Am.Xk h2.sp hK h2.kok s m (by have:AP z.s.kept.lines<=B:=hlb;omega) (YW h2.ok aP);have hok:=(Aj.dX h2.ok (src:=s) (VH hg) b hbm).1;rw [he] at p1 p2 hok;refine (bC h1 h2 hK s aP aP hb hl hg aP).mono ?_;rintro e w' ⟨v,o',rfl,hs,ho,hn⟩;rw [p2] at ho;exact ⟨v,o',rfl,hs,ho,_,hn,⟨p3,by rw [p1];exact hok⟩,p1⟩
theorem Gs (h:GN w o D M pz ps pd K B y) (hK:K+600<65536) (hb:Bytes w o bv l) (hB:B+l.length<=90000) (he:y.BL l=(y',e)) :
  Calls prog 14 #[.pointer pz,bv] w (XL (InN D M) w o fun v w' o'=>v = .int .i64 e/\GN w' o' D M pz ps pd (K+3) (B+l.length) y'):=by
 obtain ⟨z,h1,h2,rfl⟩:=h;obtain ⟨p1,p2,p3⟩:=Am.QL h2.sp hK h2.kok l (by have:AP z.s.kept.lines<=B:=h2.ok.ls.b;omega);have hok:=(Aj.AiK h2.ok l).1;rw [he] at p1 p2 hok;refine (UW h1 h2 hK hb hB).mono ?_;rintro e w' ⟨v,o',rfl,hs,rfl,hn⟩;exact ⟨_,o',rfl,hs,by rw [p2],_,hn,⟨p3,by rw [p1];exact hok⟩,p1⟩
theorem IR (h:GN w o D M pz ps pd K B y) {b:Bool} (hb:y.OD=b):Calls prog 23 #[.pointer pz] w fun e w'=>e = .returned (.bool b)/\w=w':=by
 obtain ⟨z,h1,h2,rfl⟩:=h;rw [<-hb];exact RF h1
theorem GN.small (h:GN w o D M pz ps pd K B y) (hB:B<=90000):small y.k.lines:=En.small h.nok.ls aP
theorem VO (h:GN w o D M pz ps pd K B y) (hB:B<=90000) (hp:(y.k.promised.toNat:Int)=e):Calls prog 16 #[.pointer pz] w (XL ai w o fun v _ _=>v = .int .u64 e):=by
 have hsm:=h.small hB;obtain ⟨z,h1,h2,rfl⟩:=h;rw [<-hp];exact RS h1 hsm
theorem ED (h:GN w o D M pz ps pd K B y) (hB:B<=90000) (hp:y.k.lines.take y.Ag=ls):Calls prog 15 #[.pointer pz] w (XL ai w o fun v w' o'=>Lines w' o' w.heap.size v ls):=by
 have hsm:=h.small hB;have hc:=h.nok.co;obtain ⟨z,h1,h2,rfl⟩:=h;rw [<-hp];exact QU h1 hsm hc
theorem AmI (h:GN w o D M pz ps pd K B y):Calls prog 29 #[.pointer pz] w fun e w'=>e = .returned (.bool false)/\w=w':=by
 obtain ⟨z,h1,h2,rfl⟩:=h;have:=FI h1;rw [show z.dead=false from h2.sp.dead] at this;exact this
theorem Qc (h:GN w o D M pz ps pd K B y) (hB:B<=90000):Calls prog 22 #[.pointer ps] w (XL ai w o fun v w' o'=>∃ lk,v=Dy y.k.promised y.k.current lk/\Lines w' o' w.heap.size lk y.k.lines):=by
 have hsm:=h.small hB;obtain ⟨z,h1,h2,rfl⟩:=h;refine (DJ h1.store hsm).mono ?_;rintro e w' ⟨v,o',rfl,hs,lk,rfl,hl, -⟩;exact ⟨_,o',rfl,hs,lk,rfl,hl⟩
end
theorem SX {fn:Func} {t u v x:Tmp} (h:fn.results = #[.tmp t, .tmp u, .tmp v, .tmp x]) (tmps:Array Value) (P:Program) (w:World) :
  (results fn tmps).run P w = .ok (.tuple #[tmps.getD t undef,tmps.getD u undef,tmps.getD v undef,tmps.getD x undef]) w:=by
 simp [results,h]
theorem GN.new {D M pz ps pd id n:Nat} (h1:1<=n) (h3:n<=3) (hi:id<n) (h:Bc w o D M pz ps pd (Am.new id n (YJ 400))):GN w o D M pz ps pd 0 0 (Aj.new id n ⟨0,0,[]⟩):=
 ⟨_,h,⟨SP.new,Aj.TB h1 h3 hi (En.nil 0) (show (0:BitVec 64).toNat<=(0:BitVec 64).toNat by decide) (show (0:BitVec 64).toNat<=281474976710656 by decide)⟩,rfl⟩
theorem IJ (id n:Nat) (w:World) (o:Own) (D:Nat) (hD:D ≠ 0) (h1:1<=n) (h3:n<=3) (hi:id<n) :
  Calls prog 18 #[(id:aV), (n:aV)] w (XL (EN D) w o fun v w' o'=>∃ pd ps pz:Nat,v = .tuple #[.pointer pd, .pointer ps, .pointer pz, .int .i64 0]/\GN w' o' D D pz ps pd 0 0 (Aj.new id n ⟨0,0,[]⟩)):=by
 have hnew:=TB 400 w o D aP aP;go_enter func18,ntmps18;go_wp2_with fail;refine hnew.mono ?_;rintro e W1 ⟨v,o1,rfl,hs1,pd, -,rfl,hd⟩;have hop:=ae (YG D (Nat.le_refl _) hD SP.new.sg aP (by rw [SP.new.pg];omega) (t:=YJ 400) hd);have hst1:=ae hs1;clear hnew hs1 hd;go_wp2_with fail;refine hop.out.mono ?_;rintro e W2 ⟨v,o2,rfl,hs2,ps,rfl,ha⟩;have hzn:=ae (XC (M:=D) ⟨Nat.le_refl _,hD⟩ ha SP.new.dead id n h1 h3 hi);have hst2:=ae ((hst1.out.mono (T':=EN D) (fun _ (h:ai _)=>False.elim h)).trans hs2);clear hop hs2 ha hst1;go_wp2_with fail;refine hzn.out.mono ?_;rintro e W3 ⟨v,o3,rfl,hs3,pz,rfl, -,hz⟩;have hF:=aa2 (hst2.out.trans (hs3.mono (fun _ (h:ai _)=>False.elim h))) (GN.new h1 h3 hi hz);clear hzn hs3 hz hst2;go_wp2_with fail
 (try simp only [Exit.inBlock,Exit.then])
 refine bodyPost_ret (SX rfl _ _ _) rfl ?_;exact ⟨_,o3,rfl,hF.out.1,pd,ps,pz,rfl,hF.out.2⟩
theorem Ael (a b:Int) (hab:b<1 \/ 3<b \/ a<0 \/ b<=a) (w:World) (o:Own) (D:Nat) (hD:D ≠ 0) :
  Calls prog 18 #[.int .i64 a, .int .i64 b] w (XL (EN D) w o fun v _w' _o'=>∃ pd ps:Nat,v = .tuple #[.pointer pd, .pointer ps, .pointer none, .int .i64 1]):=by
 have hnew:=TB 400 w o D aP aP;go_enter func18,ntmps18;go_wp2_with fail;refine hnew.mono ?_;rintro e W1 ⟨v,o1,rfl,hs1,pd, -,rfl,hd⟩;have hop:=ae (YG D (Nat.le_refl _) hD SP.new.sg aP (by rw [SP.new.pg];omega) (t:=YJ 400) hd);have hst1:=ae hs1;clear hnew hs1 hd;go_wp2_with fail;refine hop.out.mono ?_;rintro e W2 ⟨v,o2,rfl,hs2,ps,rfl,ha⟩;have hzn:=ae (AkJ ha SP.new.dead a b hab);have hst2:=ae ((hst1.out.mono (T':=EN D) (fun _ (h:ai _)=>False.elim h)).trans hs2);clear hop hs2 ha hst1;go_wp2_with fail;refine hzn.out.mono ?_;rintro e W3 ⟨rfl,rfl⟩;clear hzn;go_wp2_with fail
 (try simp only [Exit.inBlock,Exit.then])
 refine bodyPost_ret (SX rfl _ _ _) rfl ?_;exact ⟨_,o2,rfl,hst2.out,pd,ps,rfl⟩
theorem VD {W:World} {base:Nat} (hb:Below base w W) (hown:W.ownsRow base 5 1 v l.length (bvs l)) (hbase:base<=W.heap.size) {O:Own} {yv:Value} {y:List UInt8} (hy:Bytes W O yv y) (hn:l.length+y.length<=100000000) :
  ∃ nv w',(Builtin.append_ #[23,23] 23 #[v,yv]).run prog W = .ok nv w'/\w'.ownsRow base 5 1 nv (l++y).length (bvs (l++y))/\Below base w w'/\base<=w'.heap.size:=by
 obtain ⟨v',w',h1,h2,h3⟩:=Qu W hbase hown hy aP;refine ⟨v',w',h1,by rw [List.length_append];exact h2,hb.grown h3 hbase (fun k hk=>(hown.lt k hk).1), ?_⟩;obtain ⟨-, -, -,hsz, -⟩:=h3;exact Nat.le_trans hbase hsz
theorem XI {w':World} (h:w'.ownsRow w.heap.size 5 1 v l.length (bvs l)):Ew w w' (Qi w o (0,0)) v l:=
 ⟨h,fun k hk=>VM (h.lt k hk).1⟩
theorem WX (x:BitVec 64) (n j k:Nat) (hlt:j<n) (hk:n - 1 - j=k) :
  (bvs (List.replicate (n - j) 0++be j x)).set k (.int .u8 (((x.toNat / 256 ^ j:Nat):Int) % 256))=bvs (List.replicate (n - (j+1)) 0++pJ x j :: be j x):=by
 have hv:Value.int .u8 (((x.toNat / 256 ^ j:Nat):Int) % 256)=bv (pJ x j):=by
  unfold bv;rw [<-XV,BitVec.toNat_ushiftRight,Nat.shiftRight_eq_div_pow,Nat.pow_mul]
 rw [hv,show n - j=k+1 by omega,show n - (j+1)=k by omega,List.replicate_succ'];unfold bvs;rw [List.append_assoc,List.map_append,List.map_append,List.set_append_right _ _ bu];simp
theorem EP (x:BitVec 64) (n:Nat) (hn:n<=8) (w:World) (o:Own) :
  Calls prog 48 #[(x:aV), (n:aV)] w (XL ai w o fun v w' o'=>Ew w w' o' v (be n x)):=by
 have hnI:(0:Int)<=(n:Int)/\(n:Int)<=8:=aP
 have hmk:=PT w n aP;have st:=(aj.refl ai w o).alloc (.cells (bvs (List.replicate n 0)).toArray 5) (0,0);have hb:=heap_alloc_new w (.cells (bvs (List.replicate n 0)).toArray 5);have ht:=Au o w.heap.size (0,0);obtain ⟨W,hW⟩:=az (w.alloc (.cells (bvs (List.replicate n 0)).toArray 5));obtain ⟨O,hO⟩:=az (Ak o w.heap.size (0,0));rw [hW] at hmk st hb;rw [hO] at st ht;have Ajb:=ae hmk;have Abe:=ae st;have xZ:=ae hb;clear hmk st hb hW hO;go_enter func48,ntmps48
 go_wp2_with ((with_reducible apply IC);exact Ajb.out;simp only [Act.put,lsa,lsz,lss])
 go_loopw [0,6] (fun y i wr=>∃ j:Nat,j<=n/\y = .int .u64 ((x.toNat / 256 ^ j:Nat):Int)/\i = .int .i64 ((n:Int) - 1 - j)/\aj ai w o wr O/\wr.heap[w.heap.size]?=some (.cells (bvs (List.replicate (n - j) 0++be j x)).toArray 5 (0,0))) (fun _ i _=>(intOf i+1).toNat)
 case atStart=>exact ⟨0,Nat.zero_le _,bu,bu,Abe.out,by simpa [be] using xZ.out⟩
 case round =>
  clear Ajb Abe xZ;obtain ⟨j,hj,rfl,rfl,hst,hb⟩:=hrel;obtain ⟨Y,hY⟩:=az (x.toNat / 256 ^ j);have hYI:(0:Int)<=(Y:Int)/\(Y:Int)<=18446744073709551615:=by
   have h1:Y<=x.toNat:=by rw [<-hY];exact Nat.div_le_self _ _
   have:=x.isLt;omega
  rw [hY]
  by_cases hlt:j<n
  ·obtain ⟨k,hk⟩:=az (n - 1 - j);have hkI:(n:Int) - 1 - (j:Int)=(k:Int):=aP
   have hk0:(0:Int)<=(k:Int)/\(k:Int)<(n:Int):=aP
   rw [hkI];have c0:wr.cell? (aW w.heap.size k)=some (.int .u8 0):=by
    rw [ag hb k];unfold bvs;rw [List.getElem?_map,List.getElem?_append_left (by rw [List.length_replicate];omega),List.getElem?_replicate,if_pos aP];rfl
   have f0:=Ap hb k;have hr:=Ai (i:=k) (.int .u8 ((Y:Int) % 256)) hb;have hset:(bvs (List.replicate (n - j) 0++be j x)).set k (.int .u8 ((Y:Int) % 256))=bvs (List.replicate (n - (j+1)) 0++be (j+1) x):=by
    rw [TZ, <-hY];exact WX x n j k hlt hk
   rw [hset] at hr;have hs:=hst.setCell (a:=(aW w.heap.size k)) (.int .u8 ((Y:Int) % 256)) (.inr (Nat.le_refl _));have hF:=aa2 hs hr;clear hb hr hs hst hset;go_wp2_with fail;go_roundw
   case rel =>
    refine ⟨j+1,aP, ?_, ?_,hF.out.1,hF.out.2⟩
    ·rw [show x.toNat / 256 ^ (j+1)=Y / 256 by rw [<-hY,Nat.pow_succ,Nat.div_div_eq_div_mul]];congr 1
    ·congr 1;omega
   case measure=>simp [intOf]
  ·obtain rfl:j=n:=aP
   have hneg:(j:Int) - 1 - (j:Int) = -1:=aP
   rw [hneg];go_wp2_with fail;go_ret;rw [Nat.sub_self,List.replicate_zero,List.nil_append] at hb;refine ⟨.slice w.heap.size j j,O,rfl,hst,⟨by rw [Bh,Nat.mul_one], .inr ⟨w.heap.size,j,(bvs (be j x)).toArray,by rw [Az],Nat.le_refl _,hb,by rw [Az];exact Nat.le_refl _,by simp only [maxLen];omega,by simp [Bh,Az],by rw [Az,List.toList_toArray,Nat.mul_one];exact List.take_of_length_le (by rw [Bh,Az];exact Nat.le_refl _)⟩⟩,fun k hk => ?_⟩;simp only [Value.ownBlock,Option.some.injEq] at hk;subst hk;exact ht
theorem OQ {n:Nat} (h:n<=100000000):((BitVec.ofNat 64 n).toNat:Int)=(n:Int):=by
 rw [BitVec.toNat_ofNat,Nat.mod_eq_of_lt aP]
theorem WR (hl:Bytes w o v l) (hn:l.length<=1000000) :
  Calls prog 49 #[v] w (XL ai w o fun v w' o'=>Ew w w' o' v (be 4 (BitVec.ofNat 64 l.length)++l)):=by
 obtain ⟨n,hln⟩:=az (l.length);have hnI:(0:Int)<=(n:Int)/\(n:Int)<=1000000:=aP
 have hc:=EP (BitVec.ofNat 64 n) 4 aP w o;rw [OQ aP] at hc;obtain ⟨va,vc,rfl⟩:=Aq hl;rw [hln] at hl ⊢;have hlH:=ae hl;clear hl;go_enter func49,ntmps49;go_wp2_with fail;refine hc.mono ?_;rintro e w1 ⟨v1,o1,rfl,hs,hnb⟩;have hy:=hlH.out.step hs id;obtain ⟨nv,w2,hrun,hown,hbl, -⟩:=VD hs.below hnb.1 hs.size hy (by rw [Az];omega);have Aax:=ae hrun;obtain ⟨xa,xc,rfl⟩:=BA hnb.1;clear hs hnb hy hrun hc
 go_wp2_with ((with_reducible apply Bl);exact Aax.out;simp only [Act.put,lsa,lsz,lss])
 go_ret;exact ⟨_,Qi w o (0,0),rfl,aj.OT hbl _,XI hown⟩
structure CP where
 k:Nat
 e:BitVec 64
 c:BitVec 64
 at':Int
 com:Int
 ls:List Ar
namespace CP
def pre (m:CP):Bool:=decide (m.k<1) || decide (6<m.k) || decide (m.e.toNat<1) || decide (281474976710656<m.e.toNat) || decide (m.e.toNat<m.c.toNat) || decide (m.at'<0) || decide (256<m.at') || decide (m.com<0) || decide (256<m.com) || decide (256<m.ls.length)
def mid (m:CP):Bool:=(decide (m.k ≠ 2) && decide (0<m.c.toNat)) || (decide (m.k ≠ 5) && decide (0<m.com))
def low (m:CP):Bool:=decide (m.k ≠ 5) && decide (m.k ≠ 6) && decide (0<m.at')
def few (m:CP):Bool:=decide (m.k=2) || decide (m.k=4) || decide (m.k=5) || decide (m.ls.length=0)
def may (m:CP):Bool := !m.pre && (m.ls.all (fun x=>decide x.may) && (!m.mid && (!m.low && m.few)))
def msg (m:CP):BG:=⟨m.k,m.e,m.c,m.at'.toNat,m.com.toNat,m.ls⟩
def put (m:CP):List UInt8:=if m.may=true then m.msg.put else []
theorem TC (m:CP):m.may=true ↔ m.msg.May/\0<=m.at'/\0<=m.com:=by
 unfold may pre mid low few;simp only [Bool.and_eq_true,Bool.not_eq_true',Bool.or_eq_false_iff,decide_eq_false_iff_not,decide_eq_true_eq,List.all_eq_true,Bool.or_eq_true,Bool.and_eq_false_imp]
 constructor
 ·rintro ⟨⟨⟨⟨⟨⟨⟨⟨⟨⟨h1,h2⟩,h3⟩,h4⟩,h5⟩,h6⟩,h7⟩,h8⟩,h9⟩,h10⟩,hl,⟨hm1,hm2⟩,hlow,hfew⟩;refine ⟨⟨by show 1<=m.k;omega,by show m.k<=6;omega,by show 1<=m.e.toNat;omega,by show m.e.toNat<=_;omega,by show m.c.toNat<=m.e.toNat;omega,by show m.at'.toNat<=256;omega,by show m.com.toNat<=256;omega,by show m.ls.length<=256;omega,hl,fun h => ?_,fun h => ?_,fun h g => ?_,fun h g i => ?_⟩,aP,aP⟩
  ·have:=hm1 h;exact BitVec.eq_of_toNat_eq (by show m.c.toNat=0;omega)
  ·have:=hm2 h;show m.com.toNat=0;omega
  ·have:=hlow ⟨h,g⟩;show m.at'.toNat=0;omega
  ·rcases hfew with ((h' | h') | h') | h'
   ·exact absurd h' h
   ·exact absurd h' g
   ·exact absurd h' i
   ·exact List.eq_nil_of_length_eq_zero h'
 ·rintro ⟨h,ha,hc⟩;have k1:1<=m.k:=h.k1;have k6:m.k<=6:=h.k6;have e1:1<=m.e.toNat:=h.e1;have e2:m.e.toNat<=281474976710656:=h.e2;have c1:m.c.toNat<=m.e.toNat:=h.c1;have a1:m.at'.toNat<=256:=h.a1;have o1:m.com.toNat<=256:=h.o1;have n1:m.ls.length<=256:=h.n1;refine ⟨⟨⟨⟨⟨⟨⟨⟨⟨⟨aP,aP⟩,aP⟩,aP⟩,aP⟩,aP⟩,aP⟩,aP⟩,aP⟩,aP⟩,h.hl,⟨fun g => ?_,fun g => ?_⟩,fun g => ?_, ?_⟩
  ·have h0:m.c=0:=h.kc g;rw [h0];decide
  ·have h0:m.com.toNat=0:=h.ko g;omega
  ·have h0:m.at'.toNat=0:=h.ka g.1 g.2;omega
  ·by_cases g2:m.k=2
   ·exact .inl (.inl (.inl g2))
   ·by_cases g4:m.k=4
    ·exact .inl (.inl (.inr g4))
    ·by_cases g5:m.k=5
     ·exact .inl (.inr g5)
     ·right
      have h0:m.ls=[]:=h.kl g2 g4 g5;rw [h0];rfl
end CP
def QK (m:CP) (lv:Value):Value := .agg #[.int .u8 (m.k:Int), (m.e:aV), (m.c:aV), .int .i64 m.at', .int .i64 m.com,lv]
def EQ (m:CP) (lv:Value):List Value:=[.int .u8 (m.k:Int), (m.e:aV), (m.c:aV), .int .i64 m.at', .int .i64 m.com,lv]
theorem Yv (w:World) (o:Own) (x:Ar) (hn:x.b.length<=1000000000) (a:Option Addr) (c:Nat) :
  Calls prog 91 #[.agg #[(x.e:aV), .slice a x.b.length c]] w (XL ai w o fun v _ _=>v = .bool (decide x.may)):=by
 obtain ⟨r,hr⟩:=az (decide x.may);obtain ⟨E,hE⟩:=az (x.e.toNat);obtain ⟨N,hN⟩:=az (x.b.length);have hb:(0:Int)<=(E:Int)/\(0:Int)<=(N:Int):=aP
 have hiff:x.may ↔ (1<=E/\E<=281474976710656)/\1<=N/\N<=4096:=by unfold Ar.may;rw [hE,hN]
 rw [hr,hE,hN];have st:=ae ((aj.refl ai w o).alloc (.cells #[.int .u64 (E:Int), .slice a N c] 36) (0,0));clear hE hN hn
 by_cases c0:1<=E
 rotate_left
 ·have d0:decide ((1:Int)<=(E:Int))=false:=decide_eq_false aP;have hr:=ae (show false=r by rw [<-hr];exact (decide_eq_false (fun h=>by have:=hiff.1 h;omega)).symm);clear hiff c0;go_enter func91,ntmps91;go_wp2_with fail;go_ret;exact ⟨_,_,rfl,st.out,by rw [<-hr.out];rfl⟩
 have d0:decide ((1:Int)<=(E:Int))=true:=decide_eq_true aP
 by_cases c1:E<=281474976710656
 rotate_left
 ·have d1:decide ((E:Int)<=281474976710656)=false:=decide_eq_false aP;have hr:=ae (show false=r by rw [<-hr];exact (decide_eq_false (fun h=>by have:=hiff.1 h;omega)).symm);clear hiff c0 c1;go_enter func91,ntmps91;go_wp2_with fail;go_ret;exact ⟨_,_,rfl,st.out,by rw [<-hr.out];rfl⟩
 have d1:decide ((E:Int)<=281474976710656)=true:=decide_eq_true aP
 by_cases c2:1<=N
 rotate_left
 ·have d2:decide ((1:Int)<=(N:Int))=false:=decide_eq_false aP;have hr:=ae (show false=r by rw [<-hr];exact (decide_eq_false (fun h=>by have:=hiff.1 h;omega)).symm);clear hiff c0 c1 c2;go_enter func91,ntmps91;go_wp2_with fail;go_ret;exact ⟨_,_,rfl,st.out,by rw [<-hr.out];rfl⟩
 have d2:decide ((1:Int)<=(N:Int))=true:=decide_eq_true aP
 by_cases c3:N<=4096
 rotate_left
 ·have d3:decide ((N:Int)<=4096)=false:=decide_eq_false aP;have hr:=ae (show false=r by rw [<-hr];exact (decide_eq_false (fun h=>by have:=hiff.1 h;omega)).symm);clear hiff c0 c1 c2 c3;go_enter func91,ntmps91;go_wp2_with fail;go_ret;exact ⟨_,_,rfl,st.out,by rw [<-hr.out];rfl⟩
 have d3:decide ((N:Int)<=4096)=true:=decide_eq_true aP;have hr:=ae (show true=r by rw [<-hr];exact (decide_eq_true (hiff.2 aP)).symm);clear hiff c0 c1 c2 c3;go_enter func91,ntmps91;go_wp2_with fail;go_ret;exact ⟨_,_,rfl,st.out,by rw [<-hr.out];rfl⟩
theorem aN {b off:Nat} (hr:w.rangeAt b off [.int .u64 e,bv]):(Instr.loadAt 36 (.pointer (some (aW b off)))).run prog w = .ok (.agg #[.int .u64 e,bv]) w:=by
 simp only [Instr.loadAt,Instr.sureAddr,Sem.run_bind,Sem.run_pure,Result.andThen_ok];exact run_loadVar_mid w b off 36 [.int .u64 e,bv] _ hr underlying36 rfl bf
namespace CP
theorem Gz {m:CP} (h:m.pre=true):m.may=false:=by unfold may;rw [h];rfl
theorem aK {m:CP} (h:m.ls.all (fun x=>decide x.may)=false):m.may=false:=by unfold may;rw [h];cases m.pre <;> rfl
theorem GG {m:CP} (h:m.mid=true):m.may=false:=by unfold may;rw [h];cases m.pre <;> cases m.ls.all (fun x=>decide x.may) <;> rfl
theorem OU {m:CP} (h:m.low=true):m.may=false:=by unfold may;rw [h];cases m.pre <;> cases m.ls.all (fun x=>decide x.may) <;> cases m.mid <;> rfl
theorem GZ {m:CP} (hp:m.pre=false) (hl:m.ls.all (fun x=>decide x.may)=true) (hm:m.mid=false) (hw:m.low=false):m.may=m.few:=by unfold may;rw [hp,hl,hm,hw];rfl
end CP
theorem AfL {base:Nat} (m:CP) (hl:Lines w o base lv m.ls) (hll:∀ x ∈ m.ls,x.b.length<=1000000000) :
  Calls prog 47 #[QK m lv] w (XL ai w o fun v _ _=>v = .bool m.may):=by
 obtain ⟨la,lc,rfl⟩:=hl.form;obtain ⟨r,hr⟩:=az (m.may);rw [hr];have s1:=(aj.refl ai w o).alloc (.cells (EQ m (.slice la m.ls.length lc)).toArray 46) (0,0);have b1:=heap_alloc_new w (.cells (EQ m (.slice la m.ls.length lc)).toArray 46);have hl1:=hl.step s1 id;obtain ⟨mb,hmb⟩:=az (w.heap.size);obtain ⟨W1,hW1⟩:=az (w.alloc (.cells (EQ m (.slice la m.ls.length lc)).toArray 46));obtain ⟨o1,ho1⟩:=az (Ak o w.heap.size (0,0));have hbx:(Instr.box 46 (QK m (.slice la m.ls.length lc))).run prog w = .ok (.pointer w.heap.size) W1:=by rw [<-hW1];kernel_rfl
 rw [hW1,ho1] at s1 hl1;rw [hW1] at b1;rw [hmb] at b1 hbx;unfold QK at hbx ⊢;unfold EQ at b1;obtain ⟨K,hK⟩:=az (m.k);obtain ⟨E,hE⟩:=az (m.e.toNat);obtain ⟨C,hC⟩:=az (m.c.toNat);obtain ⟨A,hA⟩:=az (m.at');obtain ⟨P,hP⟩:=az (m.com);obtain ⟨N,hN⟩:=az (m.ls.length);rw [hK,hE,hC,hA,hP,hN] at hbx b1 ⊢;rw [hN] at hl1;have hpre:m.pre=(decide (K<1) || decide (6<K) || decide (E<1) || decide (281474976710656<E) || decide (E<C) || decide (A<0) || decide (256<A) || decide (P<0) || decide (256<P) || decide (256<N)):=by unfold CP.pre;rw [hK,hE,hC,hA,hP,hN]
 have hmid:m.mid=((decide (K ≠ 2) && decide (0<C)) || (decide (K ≠ 5) && decide (0<P))):=by unfold CP.mid;rw [hK,hC,hP]
 have hlow:m.low=(decide (K ≠ 5) && decide (K ≠ 6) && decide (0<A)):=by unfold CP.low;rw [hK,hA]
 have hfew:m.few=(decide (K=2) || decide (K=4) || decide (K=5) || decide (N=0)):=by unfold CP.few;rw [hK,hN]
 have hI:(0:Int)<=(K:Int)/\(0:Int)<=(E:Int)/\(0:Int)<=(C:Int)/\(0:Int)<=(N:Int):=aP
 have q0:=ag b1 0;have q1:=ag b1 1;have q2:=ag b1 2;have q3:=ag b1 3;have q4:=ag b1 4;have q5:=ag b1 5;simp only [ay,ax] at q0 q1 q2 q3 q4 q5;have xH:=ae hbx;have hH:=aa4 hpre hmid hlow hfew;have hB:=aa3 s1 b1 hl1;have hNH:=aa2 hN hll;clear hbx hpre hmid hlow hfew s1 b1 hl1 hl hW1 ho1 hmb hK hE hC hA hP hN hll
 by_cases c0:K<1
 ·have d0:decide ((K:Int)<1)=true:=decide_eq_true aP;have hr:=ae (show false=r by rw [<-hr];exact (CP.Gz (by rw [hH.out.1,decide_eq_true c0];simp)).symm);clear c0;go_enter func47,ntmps47
  go_wp2_with ((with_reducible apply BM);exact xH.out;simp only [Act.put,lsa,lsz,lss])
  go_ret;exact ⟨_,_,rfl,hB.out.1,by rw [<-hr.out];rfl⟩
 have d0:decide ((K:Int)<1)=false:=decide_eq_false aP
 by_cases c1:6<K
 ·have d1:decide ((6:Int)<(K:Int))=true:=decide_eq_true aP;have hr:=ae (show false=r by rw [<-hr];exact (CP.Gz (by rw [hH.out.1,decide_eq_true c1];simp)).symm);clear c0 c1;go_enter func47,ntmps47
  go_wp2_with ((with_reducible apply BM);exact xH.out;simp only [Act.put,lsa,lsz,lss])
  go_ret;exact ⟨_,_,rfl,hB.out.1,by rw [<-hr.out];rfl⟩
 have d1:decide ((6:Int)<(K:Int))=false:=decide_eq_false aP
 by_cases c2:E<1
 ·have d2:decide ((E:Int)<1)=true:=decide_eq_true aP;have hr:=ae (show false=r by rw [<-hr];exact (CP.Gz (by rw [hH.out.1,decide_eq_true c2];simp)).symm);clear c0 c1 c2;go_enter func47,ntmps47
  go_wp2_with ((with_reducible apply BM);exact xH.out;simp only [Act.put,lsa,lsz,lss])
  go_ret;exact ⟨_,_,rfl,hB.out.1,by rw [<-hr.out];rfl⟩
 have d2:decide ((E:Int)<1)=false:=decide_eq_false aP
 by_cases c3:281474976710656<E
 ·have d3:decide ((281474976710656:Int)<(E:Int))=true:=decide_eq_true aP;have hr:=ae (show false=r by rw [<-hr];exact (CP.Gz (by rw [hH.out.1,decide_eq_true c3];simp)).symm);clear c0 c1 c2 c3;go_enter func47,ntmps47
  go_wp2_with ((with_reducible apply BM);exact xH.out;simp only [Act.put,lsa,lsz,lss])
  go_ret;exact ⟨_,_,rfl,hB.out.1,by rw [<-hr.out];rfl⟩
 have d3:decide ((281474976710656:Int)<(E:Int))=false:=decide_eq_false aP
 by_cases c4:E<C
 ·have d4:decide (E<C)=true:=decide_eq_true aP;have hr:=ae (show false=r by rw [<-hr];exact (CP.Gz (by rw [hH.out.1,decide_eq_true c4];simp)).symm);clear c0 c1 c2 c3 c4;go_enter func47,ntmps47
  go_wp2_with ((with_reducible apply BM);exact xH.out;simp only [Act.put,lsa,lsz,lss])
  go_ret;exact ⟨_,_,rfl,hB.out.1,by rw [<-hr.out];rfl⟩
 have d4:decide (E<C)=false:=decide_eq_false aP
 by_cases c5:A<0
 ·have d5:decide (A<0)=true:=decide_eq_true aP;have hr:=ae (show false=r by rw [<-hr];exact (CP.Gz (by rw [hH.out.1,decide_eq_true c5];simp)).symm);clear c0 c1 c2 c3 c4 c5;go_enter func47,ntmps47
  go_wp2_with ((with_reducible apply BM);exact xH.out;simp only [Act.put,lsa,lsz,lss])
  go_ret;exact ⟨_,_,rfl,hB.out.1,by rw [<-hr.out];rfl⟩
 have d5:decide (A<0)=false:=decide_eq_false aP
 by_cases c6:256<A
 ·have d6:decide (256<A)=true:=decide_eq_true aP;have hr:=ae (show false=r by rw [<-hr];exact (CP.Gz (by rw [hH.out.1,decide_eq_true c6];simp)).symm);clear c0 c1 c2 c3 c4 c5 c6;go_enter func47,ntmps47
  go_wp2_with ((with_reducible apply BM);exact xH.out;simp only [Act.put,lsa,lsz,lss])
  go_ret;exact ⟨_,_,rfl,hB.out.1,by rw [<-hr.out];rfl⟩
 have d6:decide (256<A)=false:=decide_eq_false aP
 by_cases c7:P<0
 ·have d7:decide (P<0)=true:=decide_eq_true aP;have hr:=ae (show false=r by rw [<-hr];exact (CP.Gz (by rw [hH.out.1,decide_eq_true c7];simp)).symm);clear c0 c1 c2 c3 c4 c5 c6 c7;go_enter func47,ntmps47
  go_wp2_with ((with_reducible apply BM);exact xH.out;simp only [Act.put,lsa,lsz,lss])
  go_ret;exact ⟨_,_,rfl,hB.out.1,by rw [<-hr.out];rfl⟩
 have d7:decide (P<0)=false:=decide_eq_false aP
 by_cases c8:256<P
 ·have d8:decide (256<P)=true:=decide_eq_true aP;have hr:=ae (show false=r by rw [<-hr];exact (CP.Gz (by rw [hH.out.1,decide_eq_true c8];simp)).symm);clear c0 c1 c2 c3 c4 c5 c6 c7 c8;go_enter func47,ntmps47
  go_wp2_with ((with_reducible apply BM);exact xH.out;simp only [Act.put,lsa,lsz,lss])
  go_ret;exact ⟨_,_,rfl,hB.out.1,by rw [<-hr.out];rfl⟩
 have d8:decide (256<P)=false:=decide_eq_false aP
 by_cases c9:256<N
 ·have d9:decide ((256:Int)<(N:Int))=true:=decide_eq_true aP;have hr:=ae (show false=r by rw [<-hr];exact (CP.Gz (by rw [hH.out.1,decide_eq_true c9];simp)).symm);clear c0 c1 c2 c3 c4 c5 c6 c7 c8 c9;go_enter func47,ntmps47
  go_wp2_with ((with_reducible apply BM);exact xH.out;simp only [Act.put,lsa,lsz,lss])
  go_ret;exact ⟨_,_,rfl,hB.out.1,by rw [<-hr.out];rfl⟩
 have d9:decide ((256:Int)<(N:Int))=false:=decide_eq_false aP;have hp:=ae (show m.pre=false by rw [hH.out.1,decide_eq_false c0,decide_eq_false c1,decide_eq_false c2,decide_eq_false c3,decide_eq_false c4,decide_eq_false c5,decide_eq_false c6,decide_eq_false c7,decide_eq_false c8,decide_eq_false c9];rfl);have hKK:=ae (show K=1 \/ K=2 \/ K=3 \/ K=4 \/ K=5 \/ K=6 by omega);have hPA:=ae (show 0<=A/\0<=P/\N<=256 by omega);clear c0 c1 c2 c3 c4 c5 c6 c7 c8 c9;go_enter func47,ntmps47
 go_wp2_with ((with_reducible apply BM);exact xH.out;simp only [Act.put,lsa,lsz,lss])
 go_loopw [3] (fun i wr=>∃ (j:Nat) (oj:Own),j<=N/\i = .int .i64 j/\aj ai W1 o1 wr oj/\∀ x ∈ m.ls.take j,x.may) (fun i _=>N - (intOf i).toNat)
 case atStart=>exact ⟨0,o1,Nat.zero_le _,rfl,aj.refl _ _ _,bu⟩
 case round =>
  clear q0 q1 q2 q3 q4 q5 d0 d1 d2 d3 d4 d5 d6 d7 d8 d9;obtain ⟨j,oj,hj,rfl,hst,hall⟩:=hrel;have b1:=(hst.block mb (au hB.out.2.1) id).trans hB.out.2.1;have hNI:(0:Int)<=(N:Int)/\(N:Int)<=256:=by have:=hPA.out;omega
  by_cases hlt:j<N
  ·have AbY:(0:Int)<=(j:Int)/\(j:Int)<(N:Int):=aP
   obtain ⟨hN,hll⟩:=hNH.out;obtain ⟨x,hx⟩:∃ x,m.ls[j]?=some x:=⟨_,List.getElem?_eq_getElem (by rw [hN];exact hlt)⟩;have hln:=hB.out.2.2.step hst id;obtain ⟨b,off,bv,rfl,hrg,hby, -⟩:=hln.at hx;obtain ⟨xa,xc,rfl⟩:=Aq hby;have hld:=ae (aN hrg);have hc:=ae (Yv wr oj x (hll x (List.mem_of_getElem? hx)) xa xc);have q5:=ag b1 5;simp only [ay,ax] at q5;have htk:m.ls.take (j+1)=m.ls.take j++[x]:=by rw [List.take_add_one,hx];rfl
   by_cases hxm:x.may
   ·rw [decide_eq_true hxm] at hc;have Afo:=ae (show ∀ y ∈ m.ls.take (j+1),y.may by
     rw [htk];intro y hy
     rcases List.mem_append.1 hy with h | h
     ·exact hall y h
     ·simp only [List.mem_singleton] at h;rw [h];exact hxm)
    clear hrg hby hx hln hN hll hall htk hxm b1
    go_wp2_with ((with_reducible apply Bo);exact hld.out;simp only [Act.put,lsa,lsz,lss])
    refine hc.out.mono ?_;rintro e w3 ⟨v3,o3,rfl,hs3,rfl⟩;have hF:=ae (hst.trans hs3);clear hs3 hc hst;go_wp2_with fail;go_roundw
    case rel=>exact ⟨j+1,o3,aP,by go_num,hF.out,Afo.out⟩
    case measure=>simp [intOf];omega
   ·rw [decide_eq_false hxm] at hc;have hr:=ae (show false=r by
     rw [<-hr];refine (CP.aK ?_).symm;rw [List.all_eq_false];exact ⟨x,List.mem_of_getElem? hx,by rw [decide_eq_false hxm];decide⟩)
    clear hrg hby hx hln hN hll hall htk hxm b1
    go_wp2_with ((with_reducible apply Bo);exact hld.out;simp only [Act.put,lsa,lsz,lss])
    refine hc.out.mono ?_;rintro e w3 ⟨v3,o3,rfl,hs3,rfl⟩;have hF:=ae (hst.trans hs3);clear hs3 hc hst;go_wp2_with fail;go_ret;exact ⟨_,_,rfl,hB.out.1.trans hF.out,by rw [<-hr.out];rfl⟩
  ·obtain rfl:j=N:=aP
   have hal:m.ls.all (fun x=>decide x.may)=true:=by
    rw [List.all_eq_true];intro x hx;rw [List.take_of_length_le (by rw [hNH.out.1];exact Nat.le_refl _)] at hall;exact decide_eq_true (hall x hx)
   have q0:=ag b1 0;have q2:=ag b1 2;have q3:=ag b1 3;have q4:=ag b1 4;have q5:=ag b1 5;simp only [ay,ax] at q0 q2 q3 q4 q5;have hst:=ae hst;have hal:=ae hal;clear b1 hall hlt;have hKs:=hKK.out;clear hKK
   rcases hKs with hKs | hKs | hKs | hKs | hKs | hKs
   ·subst hKs;have hk1:((1:Nat):Int)=1:=rfl;rw [hk1] at q0
    by_cases t0:0<C
    ·have u0:(0:Int)<(C:Int):=aP
     have hr:=ae (show false=r by rw [<-hr];exact (CP.GG (by rw [hH.out.2.1];simp [t0])).symm);go_wp2_with fail;go_ret;exact ⟨_,_,rfl,hB.out.1.trans hst.out,by rw [<-hr.out];rfl⟩
    have u0:¬ (0:Int)<(C:Int):=aP
    by_cases t1:0<P
    ·have u1:0<P:=aP
     have hr:=ae (show false=r by rw [<-hr];exact (CP.GG (by rw [hH.out.2.1];simp [t0,t1])).symm);go_wp2_with fail;go_ret;exact ⟨_,_,rfl,hB.out.1.trans hst.out,by rw [<-hr.out];rfl⟩
    have u1:¬ 0<P:=aP
    by_cases t2:0<A
    ·have u2:0<A:=aP
     have hr:=ae (show false=r by rw [<-hr];exact (CP.OU (by rw [hH.out.2.2.1];simp [t2])).symm);go_wp2_with fail;go_ret;exact ⟨_,_,rfl,hB.out.1.trans hst.out,by rw [<-hr.out];rfl⟩
    have u2:¬ 0<A:=aP
    by_cases tn:j=0
    ·have un:(j:Int)=0:=aP
     have hr:=ae (show true=r by rw [<-hr];exact ((CP.GZ hp.out hal.out (by rw [hH.out.2.1];simp [t0,t1]) (by rw [hH.out.2.2.1];simp [t2])).trans (by rw [hH.out.2.2.2];simp [tn])).symm);go_wp2_with fail;go_ret;exact ⟨_,_,rfl,hB.out.1.trans hst.out,by rw [<-hr.out];rfl⟩
    have un:((j:Int) == 0)=false:=by
     have:¬ (j:Int)=0:=aP
     simpa using this
    have hr:=ae (show false=r by rw [<-hr];exact ((CP.GZ hp.out hal.out (by rw [hH.out.2.1];simp [t0,t1]) (by rw [hH.out.2.2.1];simp [t2])).trans (by rw [hH.out.2.2.2];simp [tn])).symm);go_wp2_with fail;go_ret;exact ⟨_,_,rfl,hB.out.1.trans hst.out,by rw [<-hr.out];rfl⟩
   ·subst hKs;have hk1:((2:Nat):Int)=2:=rfl;rw [hk1] at q0
    by_cases t0:0<P
    ·have u0:0<P:=aP
     have hr:=ae (show false=r by rw [<-hr];exact (CP.GG (by rw [hH.out.2.1];simp [t0])).symm);go_wp2_with fail;go_ret;exact ⟨_,_,rfl,hB.out.1.trans hst.out,by rw [<-hr.out];rfl⟩
    have u0:¬ 0<P:=aP
    by_cases t1:0<A
    ·have u1:0<A:=aP
     have hr:=ae (show false=r by rw [<-hr];exact (CP.OU (by rw [hH.out.2.2.1];simp [t1])).symm);go_wp2_with fail;go_ret;exact ⟨_,_,rfl,hB.out.1.trans hst.out,by rw [<-hr.out];rfl⟩
    have u1:¬ 0<A:=aP
    have hr:=ae (show true=r by rw [<-hr];exact ((CP.GZ hp.out hal.out (by rw [hH.out.2.1];simp [t0]) (by rw [hH.out.2.2.1];simp [t1])).trans (by rw [hH.out.2.2.2];simp)).symm);go_wp2_with fail;go_ret;exact ⟨_,_,rfl,hB.out.1.trans hst.out,by rw [<-hr.out];rfl⟩
   ·subst hKs;have hk1:((3:Nat):Int)=3:=rfl;rw [hk1] at q0
    by_cases t0:0<C
    ·have u0:(0:Int)<(C:Int):=aP
     have hr:=ae (show false=r by rw [<-hr];exact (CP.GG (by rw [hH.out.2.1];simp [t0])).symm);go_wp2_with fail;go_ret;exact ⟨_,_,rfl,hB.out.1.trans hst.out,by rw [<-hr.out];rfl⟩
    have u0:¬ (0:Int)<(C:Int):=aP
    by_cases t1:0<P
    ·have u1:0<P:=aP
     have hr:=ae (show false=r by rw [<-hr];exact (CP.GG (by rw [hH.out.2.1];simp [t0,t1])).symm);go_wp2_with fail;go_ret;exact ⟨_,_,rfl,hB.out.1.trans hst.out,by rw [<-hr.out];rfl⟩
    have u1:¬ 0<P:=aP
    by_cases t2:0<A
    ·have u2:0<A:=aP
     have hr:=ae (show false=r by rw [<-hr];exact (CP.OU (by rw [hH.out.2.2.1];simp [t2])).symm);go_wp2_with fail;go_ret;exact ⟨_,_,rfl,hB.out.1.trans hst.out,by rw [<-hr.out];rfl⟩
    have u2:¬ 0<A:=aP
    by_cases tn:j=0
    ·have un:(j:Int)=0:=aP
     have hr:=ae (show true=r by rw [<-hr];exact ((CP.GZ hp.out hal.out (by rw [hH.out.2.1];simp [t0,t1]) (by rw [hH.out.2.2.1];simp [t2])).trans (by rw [hH.out.2.2.2];simp [tn])).symm);go_wp2_with fail;go_ret;exact ⟨_,_,rfl,hB.out.1.trans hst.out,by rw [<-hr.out];rfl⟩
    have un:((j:Int) == 0)=false:=by
     have:¬ (j:Int)=0:=aP
     simpa using this
    have hr:=ae (show false=r by rw [<-hr];exact ((CP.GZ hp.out hal.out (by rw [hH.out.2.1];simp [t0,t1]) (by rw [hH.out.2.2.1];simp [t2])).trans (by rw [hH.out.2.2.2];simp [tn])).symm);go_wp2_with fail;go_ret;exact ⟨_,_,rfl,hB.out.1.trans hst.out,by rw [<-hr.out];rfl⟩
   ·subst hKs;have hk1:((4:Nat):Int)=4:=rfl;rw [hk1] at q0
    by_cases t0:0<C
    ·have u0:(0:Int)<(C:Int):=aP
     have hr:=ae (show false=r by rw [<-hr];exact (CP.GG (by rw [hH.out.2.1];simp [t0])).symm);go_wp2_with fail;go_ret;exact ⟨_,_,rfl,hB.out.1.trans hst.out,by rw [<-hr.out];rfl⟩
    have u0:¬ (0:Int)<(C:Int):=aP
    by_cases t1:0<P
    ·have u1:0<P:=aP
     have hr:=ae (show false=r by rw [<-hr];exact (CP.GG (by rw [hH.out.2.1];simp [t0,t1])).symm);go_wp2_with fail;go_ret;exact ⟨_,_,rfl,hB.out.1.trans hst.out,by rw [<-hr.out];rfl⟩
    have u1:¬ 0<P:=aP
    by_cases t2:0<A
    ·have u2:0<A:=aP
     have hr:=ae (show false=r by rw [<-hr];exact (CP.OU (by rw [hH.out.2.2.1];simp [t2])).symm);go_wp2_with fail;go_ret;exact ⟨_,_,rfl,hB.out.1.trans hst.out,by rw [<-hr.out];rfl⟩
    have u2:¬ 0<A:=aP
    have hr:=ae (show true=r by rw [<-hr];exact ((CP.GZ hp.out hal.out (by rw [hH.out.2.1];simp [t0,t1]) (by rw [hH.out.2.2.1];simp [t2])).trans (by rw [hH.out.2.2.2];simp)).symm);go_wp2_with fail;go_ret;exact ⟨_,_,rfl,hB.out.1.trans hst.out,by rw [<-hr.out];rfl⟩
   ·subst hKs;have hk1:((5:Nat):Int)=5:=rfl;rw [hk1] at q0
    by_cases t0:0<C
    ·have u0:(0:Int)<(C:Int):=aP
     have hr:=ae (show false=r by rw [<-hr];exact (CP.GG (by rw [hH.out.2.1];simp [t0])).symm);go_wp2_with fail;go_ret;exact ⟨_,_,rfl,hB.out.1.trans hst.out,by rw [<-hr.out];rfl⟩
    have u0:¬ (0:Int)<(C:Int):=aP
    have hr:=ae (show true=r by rw [<-hr];exact ((CP.GZ hp.out hal.out (by rw [hH.out.2.1];simp [t0]) (by rw [hH.out.2.2.1];simp [])).trans (by rw [hH.out.2.2.2];simp)).symm);go_wp2_with fail;go_ret;exact ⟨_,_,rfl,hB.out.1.trans hst.out,by rw [<-hr.out];rfl⟩
   ·subst hKs;have hk1:((6:Nat):Int)=6:=rfl;rw [hk1] at q0
    by_cases t0:0<C
    ·have u0:(0:Int)<(C:Int):=aP
     have hr:=ae (show false=r by rw [<-hr];exact (CP.GG (by rw [hH.out.2.1];simp [t0])).symm);go_wp2_with fail;go_ret;exact ⟨_,_,rfl,hB.out.1.trans hst.out,by rw [<-hr.out];rfl⟩
    have u0:¬ (0:Int)<(C:Int):=aP
    by_cases t1:0<P
    ·have u1:0<P:=aP
     have hr:=ae (show false=r by rw [<-hr];exact (CP.GG (by rw [hH.out.2.1];simp [t0,t1])).symm);go_wp2_with fail;go_ret;exact ⟨_,_,rfl,hB.out.1.trans hst.out,by rw [<-hr.out];rfl⟩
    have u1:¬ 0<P:=aP
    by_cases tn:j=0
    ·have un:(j:Int)=0:=aP
     have hr:=ae (show true=r by rw [<-hr];exact ((CP.GZ hp.out hal.out (by rw [hH.out.2.1];simp [t0,t1]) (by rw [hH.out.2.2.1];simp [])).trans (by rw [hH.out.2.2.2];simp [tn])).symm);go_wp2_with fail;go_ret;exact ⟨_,_,rfl,hB.out.1.trans hst.out,by rw [<-hr.out];rfl⟩
    have un:((j:Int) == 0)=false:=by
     have:¬ (j:Int)=0:=aP
     simpa using this
    have hr:=ae (show false=r by rw [<-hr];exact ((CP.GZ hp.out hal.out (by rw [hH.out.2.1];simp [t0,t1]) (by rw [hH.out.2.2.1];simp [])).trans (by rw [hH.out.2.2.2];simp [tn])).symm);go_wp2_with fail;go_ret;exact ⟨_,_,rfl,hB.out.1.trans hst.out,by rw [<-hr.out];rfl⟩
namespace Aj
def Kin (d:Nat) (x z:Aj):Prop:=x.id=z.id/\x.n=z.n/\x.waited<=z.waited+d
theorem Kin.refl (d:Nat) (x:Aj):Kin d x x:=⟨rfl,rfl,Nat.le_add_right _ _⟩
theorem Kin.at0 {x:Aj} (h1:x.id=z.id) (h2:x.n=z.n) (h3:x.waited=0) (d:Nat):Kin d x z:=⟨h1,h2,by rw [h3];exact Nat.zero_le _⟩
theorem Kin.trans {d e:Nat} {x y:Aj} (h:Kin d x y) (g:Kin e y z):Kin (d+e) x z:=⟨h.1.trans g.1,h.2.1.trans g.2.1,by have:=h.2.2;have:=g.2.2;omega⟩
theorem RY (z:Aj) (mine:BitVec 64) (nR:List Int) (base:Nat) (ready:Bool):Kin 0 (z.count mine nR base ready) z:=by
 unfold count;simp only;split <;> exact ⟨rfl,rfl,Nat.le_refl _⟩
theorem Vs (z:Aj) (mine:BitVec 64) (has:List (Option (BitVec 64 × List Ar))):Kin 0 (z.lead mine has).1 z:=by
 unfold lead;split
 ·exact Kin.refl _ _
 ·split
  ·exact Kin.refl _ _
  ·rename_i p _;split
   ·exact (RY ({ z with k:=(z.k.Ee mine p.2).1,Ag:=min z.Ag p.2.length }:Aj) mine (List.replicate z.n (-1)) p.2.length false).trans (e:=0) ⟨rfl,rfl,Nat.le_refl _⟩
   ·exact ⟨rfl,rfl,Nat.zero_le _⟩
theorem Yl (z:Aj):Kin 0 z.stand.1 z:=by
 unfold stand;simp only;split
 ·exact Kin.refl _ _
 split
 ·exact (Vs _ _ _).trans (e:=0) ⟨rfl,rfl,Nat.zero_le _⟩
 ·exact Kin.refl _ _
theorem ZA (z:Aj):Kin 1 z.tick.1 z:=by
 unfold tick;split
 ·exact Kin.refl _ _
 ·simp only;split
  ·exact (Yl _).trans (e:=1) ⟨rfl,rfl,Nat.le_refl _⟩
  ·exact ⟨rfl,rfl,Nat.le_refl _⟩
theorem YT (z:Aj) (src:Nat) (m:BG):Kin 0 (z.Ec src m).1 z:=by
 have h0:∀ x:Aj,x.id=z.id->x.n=z.n->x.waited=0->Kin 0 x z:=fun x a b c=>Kin.at0 a b c 0;unfold Ec;split
 ·unfold BK
  repeat (split <;> try first | exact Kin.refl _ _ | exact h0 _ rfl rfl rfl)
 split
 ·unfold Bj;split
  ·split
   ·exact Kin.refl _ _
   ·exact (Vs _ _ _).trans (e:=0) ⟨rfl,rfl,Nat.le_refl _⟩
  ·exact Kin.refl _ _
 split
 ·unfold Cj;simp only;split <;> first | exact Kin.refl _ _ | exact h0 _ rfl rfl rfl
 split
 ·unfold BD;simp only
  repeat (split <;> try first | exact Kin.refl _ _ | exact h0 _ rfl rfl rfl)
 split
 ·unfold BF;simp only
  repeat (split <;> try first | exact Kin.refl _ _ | exact h0 _ rfl rfl rfl)
 ·unfold CJ;split
  ·split
   ·exact RY _ _ _ _ _
   ·exact Kin.refl _ _
  ·exact Kin.refl _ _
theorem Vy (z:Aj) (src:Nat) (m:BG):Kin 0 (z.hear src m).1 z:=by
 rw [MZ];exact (YT _ src m).trans (e:=0) ⟨rfl,rfl,Nat.le_refl _⟩
theorem RI (z:Aj) (f:Int) (l:List UInt8):Kin 0 (z.Gj f l).1 z:=by
 unfold Gj;split
 ·exact Kin.refl _ _
 ·split
  ·exact Kin.refl _ _
  ·exact Vy _ _ _
theorem jR (z:Aj) (b:List UInt8):Kin 0 (z.BL b).1 z:=by
 unfold BL;split
 ·exact Kin.refl _ _
 ·split
  ·split
   ·exact Kin.refl _ _
   split
   ·exact (RY _ _ _ _ _).trans (e:=0) ⟨rfl,rfl,Nat.le_refl _⟩
   ·exact Kin.refl _ _
  ·exact Kin.refl _ _
end Aj
theorem bD:Jn []=none:=bf
theorem Qd (m:CP):Jn m.put=if m.may=true then some m.msg else none:=by
 unfold CP.put
 by_cases h:m.may=true
 ·rw [if_pos h,if_pos h];exact ET ((CP.TC m).1 h).1
 ·rw [if_neg h,if_neg h];exact bD
theorem Ia (m:CP):∀ x,Jn m.put=some x->AP x.ls<=AP m.ls:=by
 intro x hx;rw [Qd] at hx;split at hx
 ·cases hx;exact Nat.le_refl _
 ·cases hx
theorem Xo (ls:List Ar):(encs ls).length<=AP ls+12*ls.length:=by
 induction ls with
 | nil=>simp [encs]
 | cons x t ih =>
  have h1:(encs (x :: t)).length=x.enc.length+(encs t).length:=by simp [encs]
  have h2:AP (x :: t)=x.b.length+AP t:=by simp [AP]
  have h3:x.enc.length=x.b.length+12:=by simp [Ar.enc,Az];omega
  rw [h1,h2,h3,List.length_cons];omega
theorem UF (m:CP):m.put.length<=41+AP m.ls+12*m.ls.length:=by
 unfold CP.put;split
 ·have h:=Xo m.ls;have e:m.msg.put.length=41+(encs m.ls).length:=by simp [BG.put,CP.msg,GR,Az];omega
  omega
 ·simp

end Go.Proofs.YthmpmgknnibljaaGreat
