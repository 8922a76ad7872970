/- Contract of zab's lead. -/
import Derived.Test.YthmpmgknnibljaaGreatSn10
namespace Go.Proofs.YthmpmgknnibljaaGreat
set_option maxRecDepth 100000
set_option maxHeartbeats 12800000
open Go Go.RowKit
attribute [local go_sem ↓] Go.wp_at_zero Go.wp_at_succ
theorem SQ {w:World} {mb c:Nat} {es:List Ent} {ty:TypeId} (hb:w.heap[mb]? = some (.map (Bd 0 es).toArray c)):(Builtin.len_ #[154] ty #[.map (some mb)]).run Tryz.prog w = .ok (.int .i64 (es.length:Int)) w:=by
 simp [Builtin.len_,run_underlying Tryz.underlying154,MapKept.run_getObj_map hb,Nc,goInt]
theorem Zn:((Tryz.prog.info? 153).bind (·.zero)).map (·.cells) = some #[.int .u64 0, .slice none 0 0]:=by kernel_rfl
theorem ZN:(Tryz.prog.info? 153).map (·.size) = some 2:=by kernel_rfl
theorem PG (w:World) (c:Int) (la:Option Addr) (ln lc:Nat) :
  (Instr.storeAt 153 (.pointer (some ⟨w.heap.size,0,none⟩)) (.agg [.int .u64 c, .slice la ln lc].toArray)).run Tryz.prog (w.alloc (.cells [.int .u64 0, .slice none 0 0].toArray 153)) = .ok () (w.alloc (.cells [.int .u64 c, .slice la ln lc].toArray 153)):=by
 have h:=(Ba (P:=Tryz.prog) (ty:=153) (vs:=[.int .u64 c, .slice la ln lc]) (heap_alloc_new w (.cells [.int .u64 0, .slice none 0 0].toArray 153)) rfl ZN rfl).1
 rw [Be w [Value.int .u64 0, .slice none 0 0].toArray 153 [.int .u64 c, .slice la ln lc] rfl] at h
 exact h
abbrev bst:Option DT→Nat × DT→Option DT:=fun b x=>EW b (some x.2)
theorem NU {sm:List (Nat × DT)} {k:Nat} {x:Nat × DT} (h:sm[k]? = some x) (b:Option DT):(sm.take (k + 1)).foldl bst b = EW ((sm.take k).foldl bst b) (some x.2):=by
 have hl:=(List.getElem?_eq_some_iff.1 h).1
 rw [List.take_succ_eq_append_getElem hl,List.foldl_append]
 have he:sm[k] = x:=(List.getElem?_eq_some_iff.1 h).2
 rw [he]
 rfl
theorem RQ:∀ (l:List (Nat × DT)) (b:Option DT),b.isSome = true→(l.foldl bst b).isSome = true
 | [],_,h=>h
 | x :: r,b,h=>by
  rw [List.foldl_cons]
  refine RQ r _ ?_
  cases b with
  | none=>rfl
  | some q=>simp only [bst,EW];split <;> rfl
theorem VK {l:List (Nat × DT)} (h:l ≠ []):(l.foldl bst none).isSome = true:=by
 cases l with
 | nil=>exact absurd rfl h
 | cons x r=>rw [List.foldl_cons];exact RQ r _ rfl
theorem XU (w:World):(Instr.buildSlice 89 1 #[(0, .int .i64 (-1))]).run Tryz.prog w = .ok (.slice (some ⟨w.heap.size,0,none⟩) 1 1) (w.alloc (.cells [Value.int .i64 (-1)].toArray 3)):=by kernel_rfl
theorem Ov {a b:Aj} (hn:a.n = b.n) (hi:a.id = b.id) (f:Nat→BG):a.others f = b.others f:=by unfold Aj.others;rw [hn,hi]
theorem Am.NV (z:Am) (mine:BitVec 64) (mat:List Int) (base:Nat) (ready:Bool):(z.count mine mat base ready).BN.n = z.n∧(z.count mine mat base ready).BN.id = z.id:=by
 unfold Am.count;simp only;split <;> exact ⟨rfl,rfl⟩
theorem Xy (p q:DT):Jw p q = (decide (q.1.toNat < p.1.toNat) || (decide (p.1.toNat = q.1.toNat) && decide (q.2.length < p.2.length))):=by
 unfold Jw
 congr 2
 by_cases h:p.1 = q.1
 ·simp [h]
 ·have:¬ p.1.toNat = q.1.toNat:=fun e=>h (BitVec.eq_of_toNat_eq e)
  simp [h,this]
theorem Qg:∀ (l:List (Nat × DT)) (b:Option DT) (g:DT),l.foldl bst b = some g→b = some g ∨ ∃ y ∈ l,y.2 = g
 | [],b,g,h => .inl h
 | x :: r,b,g,h=>by
  rw [List.foldl_cons] at h
  rcases Qg r _ g h with h | ⟨y,hy,hg⟩
  ·cases b with
   | none =>
    simp only [bst,EW,Option.some.injEq] at h
    exact .inr ⟨x,by simp,h⟩
   | some q =>
    simp only [bst,EW] at h
    split at h
    ·simp only [Option.some.injEq] at h
     exact .inr ⟨x,by simp,h⟩
    ·exact .inl h
  ·exact .inr ⟨y,by simp [hy],hg⟩
theorem lead_any {w:World} {o:Own} {D M pz ps pd p K B:Nat} {z:Am} {mine:BitVec 64} {has:List (Option DT)} (h:Qx w o D M pz ps pd p z mine has) (hr:z.BB = .stands mine has) (hp:Am.NP K B z) (hK:K + 600 < 65536) (hB:B ≤ 90000) :
  Calls Tryz.prog 90 #[.pointer (some ⟨pz,0,none⟩), .pointer (some ⟨p,0,none⟩)] w (Ret (InN D M) w o fun v w' o'=>Dn w' o' v (Ed (z.lead mine has).2)∧Bc w' o' D M pz ps pd (z.lead mine has).1):=by
 have hro:=hp.ok.ro
 rw [show z.BN.BB = z.BB from rfl,hr] at hro
 obtain ⟨hmine,hhl, -,hbs⟩:=hro
 have hn3:z.n ≤ 3:=hp.ok.n3
 have hn1:1 ≤ z.n:=hp.ok.n1
 have hhl:has.length = z.n:=hhl
 have hnode:=hidden (h.node hr)
 have hrH:=hidden hr
 obtain ⟨hDM,hb,⟨mb,hps,hpo,hhas⟩,hs⟩:=h
 obtain ⟨es,⟨hm,hmo⟩,hnd,hlt,hlen,hqs,hmem,hent⟩:=WN hhas
 have hbest:Qr has = (BC 0 has).foldl (fun b x=>EW b (some x.2)) none:=Ll has 0 none
 have hslen:=KF has 0
 have hles:es.length ≤ 3:=by rw [hlen];exact Nat.le_trans (List.length_filter_le _ _) (by omega)
 have hlead:z.lead mine has = if 2 * es.length ≤ z.n then (z,[]) else match Qr has with
  | none=>(z,[])
  | some p=>if (z.s.FO mine p.2).2 = 0 then (({ z with s:=(z.s.FO mine p.2).1,Ag:=min z.Ag p.2.length }:Am).count mine (List.replicate z.n (-1)) p.2.length false,z.BN.others fun _=>⟨4,mine,0,0,0,p.2⟩) else (({ z with s:=(z.s.FO mine p.2).1 }:Am).follow,[]):=by
  rw [hlen];rfl
 obtain ⟨R,hR⟩:∃ R,z.lead mine has = R:=⟨_,rfl⟩
 rw [hR]
 rw [hlead] at hR
 have dr:Step Nobody w o w.drew o:=(Step.refl Nobody w o).drew
 have hq:=hidden (PD z.n hn1 hn3)
 obtain ⟨⟨-,c1, -⟩, -⟩:=(hb.step dr (fun h=>h)).cells
 have cp:=cell_of_block (w:=w.drew) hps 1
 simp only [List.getElem?_cons_zero,List.getElem?_cons_succ] at cp
 have hmd:w.drew.heap[mb]? = some (.map (Bd 0 es).toArray es.length):=hm
 have hS:=And.intro c1 (And.intro cp hmd)
 have hH:=hidden (And.intro hDM (And.intro hb (And.intro hps (And.intro hpo (And.intro hm (And.intro hmo (And.intro hs hhas)))))))
 have hE:=hidden (And.intro hnd (And.intro hlt (And.intro hqs (And.intro hmem hent))))
 have hM:=hidden (And.intro hbs (And.intro hbest hslen))
 have hPH:=hidden hp
 have hhlH:=hidden hhl
 have hlenH:=hidden hlen
 have hI:(0:Int) ≤ (es.length:Int)∧(es.length:Int) ≤ 3:=by omega
 obtain ⟨nn,hnn⟩:∃ n,z.n = n:=⟨_,rfl⟩
 obtain ⟨L,hL⟩:∃ L,es.length = L:=⟨_,rfl⟩
 rw [hnn] at hq c1 hS hn3 hn1
 rw [hL] at hI hles
 rw [hL] at hR
 have hRH:=hidden hR
 have hnnH:=hidden hnn
 have hLH:=hidden hL
 clear hDM hb hps hpo hhas hs hm hmo hnd hlt hlen hqs hmem hent hbs hbest hslen hlead hR hr hp c1 cp hmd dr hhl hnn
 have hd2:(nn / 2 + 1:Nat) = nn / 2 + 1:=rfl
 go_enter Tryz.func90,Tryz.ntmps90
 go_wp2_with fail
 refine Aa (fun w'=>w'.cell? ⟨pz,1,none⟩ = some (.int .i64 (nn:Int))∧w'.cell? ⟨p,1,none⟩ = some (.map (some mb))∧w'.heap[mb]? = some (.map (Bd 0 es).toArray es.length)) (fun _=>true) (by kernel_rfl) hS (fun hHeld => ?_)
 refine tq 0 ?_
 refine tq 1 ?_
 refine tq 2 ?_
 refine tq 3 ?_
 refine tv 4 (.int .i64 (es.length:Int)) (hy:=fun w hSw=>by (try dsimp only at hSw);go_simp;rw [SQ hSw.2.2];simp [hL]) (h := ?_)
 refine tq 5 ?_
 refine tq 6 ?_
 refine tq 7 ?_
 refine tq 8 ?_
 refine Ac (i:=9) rfl (by kernel_rfl) ?_
 go_wp2_with fail
 refine (hq.out _).mono ?_;rintro e w1 ⟨rfl,rfl⟩
 go_wp2_with fail
 refine ⟨fun _=>hHeld, ?_⟩
 refine tq 10 ?_
 refine Ae (by kernel_rfl) ?_ _
 have dr:Step Nobody w o w.drew o:=(Step.refl Nobody w o).drew
 obtain ⟨V,hV⟩:∃ V,w.drew = V:=⟨_,rfl⟩
 rw [hV] at dr hS ⊢
 have drH:=hidden dr
 obtain ⟨c1,cp,hmd⟩:=hS
 clear hHeld dr hV
 by_cases hquo:2 * L ≤ nn
 ·have hlt:(L:Int) < (nn:Int) / 2 + 1:=by omega
  rw [if_pos (by rw [hnnH.out];exact hquo)] at hRH
  go_wp2_with fail
  go_ret
  exact ⟨_,o,rfl,drH.out.mono (fun _ h=>h.elim),by rw [←hRH.out];exact Dn.nil _ _,by rw [←hRH.out];exact hnode.out.step0 drH.out⟩
 ·have hlt:¬ (L:Int) < (nn:Int) / 2 + 1:=by omega
  rw [if_neg (by rw [hnnH.out];exact hquo)] at hRH
  obtain ⟨X,hX1,hX2⟩:=KT o w.heap.size (M + 5)
  obtain ⟨hDM,hb,hps,hpo,hm,hmo,hs,hhas⟩:=hH.out
  obtain ⟨hnd,hls,hqs,hmem,hent⟩:=hE.out
  have st1:=drH.out.alloc (.cells #[.pointer none] 206) (X,0)
  have bb1:=heap_alloc_new V (.cells [Value.pointer none].toArray 206)
  have ob1:=Au o V.heap.size (X,0)
  have hVs:=drH.out.size
  obtain ⟨V1,hV1⟩:∃ V1,V.alloc (.cells #[.pointer none] 206) = V1:=⟨_,rfl⟩
  have hV1':V.alloc (.cells [Value.pointer none].toArray 206) = V1:=hV1
  rw [hV1] at st1
  rw [hV1'] at bb1
  obtain ⟨bb,hbb⟩:∃ b,V.heap.size = b:=⟨_,rfl⟩
  generalize Ak o V.heap.size (X,0) = o1 at *
  rw [hbb] at bb1 ob1 hVs
  have hm1:=(st1.block _ (lt_of_block hm) (fun h=>h)).trans hm
  have hps1:=(st1.block _ (lt_of_block hps) (fun h=>h)).trans hps
  have cp1:=cell_of_block hps1 1
  simp only [List.getElem?_cons_zero,List.getElem?_cons_succ] at cp1
  have hka:=hidden (aS mb V1)
  have st2:=st1.alloc (.cells #[.map (some mb)] 154) (0,0)
  have k2:=(Step.refl Nobody V1 o1).alloc (.cells #[.map (some mb)] 154) (0,0)
  have hso:=WM (o:=Ak o1 V1.heap.size (0,0)) ((k2.block _ (lt_of_block hm1) (fun h=>h)).trans hm1) (heap_alloc_new V1 (.cells #[.map (some mb)] 154)) hnd (fun x hx=>by have:=hls x hx;have:=hhlH.out;have:=hnnH.out;omega) (by rw [hL];omega)
  have bb2:=(k2.block _ (lt_of_block bb1) (fun h=>h)).trans bb1
  have ob2:=(k2.own _ (lt_of_block bb1)).trans ob1
  have hsoH:=hidden hso
  have hP:=hidden (And.intro st2 (And.intro bb2 ob2))
  have hXH:=hidden (And.intro hX1 (And.intro hX2 hVs))
  have hVH:=hidden (And.intro hV1 hbb)
  have hnew:(Instr.alloc 206 true (.tuple #[])).run Tryz.prog V = .ok (.pointer (some ⟨bb,0,none⟩)) V1:=by rw [←hV1, ←hbb];kernel_rfl
  have hnewH:=hidden hnew
  clear hDM hb hps hpo hm hmo hs hhas hnd hls hqs hmem hent st1 bb1 ob1 hm1 hps1 st2 k2 hso bb2 ob2 hX1 hX2 hV1 hV1' hbb hVs hnew
  go_wp2_with ((with_reducible apply AU);exact hnewH.out;simp only [Act.put,lsa,lsz,lss])
  refine hka.out.mono ?_;rintro e w2 ⟨rfl,rfl⟩
  go_wp2_with fail
  refine hsoH.out.mono ?_;rintro e w3 ⟨v3,o3,rfl,hs3,q,hqp,hqo,hsl⟩
  have hqe:=hE.out.2.2.1 q hqp hqo
  have hql:q.length = L:=by rw [hqp.length_eq,List.length_map];exact hL
  have hsml:(BC 0 has).length = L:=by rw [←hql,hqe,List.length_map]
  have hs3':=hP.out.1.trans hs3
  have bb3:=(hs3.block _ (lt_of_block hP.out.2.1) (fun h=>h)).trans hP.out.2.1
  have ob3:=(hs3.own _ (lt_of_block hP.out.2.1)).trans hP.out.2.2
  obtain ⟨qa,qc,rfl⟩:=Aq hsl
  obtain ⟨sm,hsm⟩:∃ s,BC 0 has = s:=⟨_,rfl⟩
  rw [hql] at hsl ⊢
  rw [hsm] at hqe hsml
  have hP3:=hidden (And.intro hs3' (And.intro bb3 (And.intro ob3 hsl)))
  have hqH:=hidden (And.intro hqe (And.intro hql (And.intro hsml hsm)))
  clear hs3 hqp hqo hqe hql hsml hs3' bb3 ob3 hsl hsm hP hsoH hka hnewH cp1 c1 cp hmd hq
  go_wp2_with fail
  go_loopw [28] (fun i wr=>∃ (k:Nat) (oj:Own) (pv:Option Addr),k ≤ L∧i = .int .i64 k∧Step Nobody w o wr oj∧wr.heap[bb]? = some (.cells [Value.pointer pv].toArray 206 (0,0))∧oj bb = (X,0)∧JA wr oj ((sm.take k).foldl bst none) pv∧Slc wr oj (.slice qa L qc) L (q.map fun n:Nat=>Value.int .i64 (n:Int))) (fun i _=>L - (intOf i).toNat)
  case atStart=>exact ⟨0,o3,none,by omega,rfl,hP3.out.1,hP3.out.2.1,hP3.out.2.2.1,rfl,hP3.out.2.2.2⟩
  case round =>
   clear hP3
   obtain ⟨k,oj,pv,hk,rfl,hst,hbb,hob,hbest,hsl⟩:=hrel
   by_cases hlk:k < L
   ·obtain ⟨hqe,hql,hsml,hsm⟩:=hqH.out
    obtain ⟨x,hx⟩:∃ x,sm[k]? = some x:=⟨_,List.getElem?_eq_getElem (by omega)⟩
    have hqk:q[k]? = some x.1:=by rw [hqe,List.getElem?_map,hx];rfl
    obtain ⟨kb,koff,rfl,hkc,hkl,hko⟩:=hsl.cell k (x := .int .i64 (x.1:Int)) (by rw [List.getElem?_map,hqk];rfl)
    obtain ⟨hDM,hb,hps,hpo,hm,hmo,hs,hhas⟩:=hH.out
    obtain ⟨hnd,hls,hqs,hmem,hent⟩:=hE.out
    obtain ⟨y,hy,hyx,hyc,hyL⟩:=hmem x.1 x.2 (by rw [hsm];exact List.mem_of_getElem? hx)
    have hxm:some x.2 ∈ has:=by
     have hx':(x.1,x.2) ∈ BC 0 has:=by rw [hsm];exact List.mem_of_getElem? hx
     obtain ⟨kk, -,hkk⟩:=(Fa has 0 x.1 x.2).1 hx'
     exact List.mem_of_getElem? hkk
    have hlo:=hM.out.1 x.2 hxm
    have hm3:=(hst.block _ (lt_of_block hm) (fun h=>h)).trans hm
    have hlk2:=SL hm3 hnd hy
    rw [hyx] at hlk2
    have hps3:=(hst.block _ (lt_of_block hps) (fun h=>h)).trans hps
    have cp3:=cell_of_block hps3 1
    simp only [List.getElem?_cons_zero,List.getElem?_cons_succ] at cp3
    have hyL3:=hyL.step hst (fun h=>h)
    obtain ⟨la,lc,hlv⟩:=hyL3.form
    obtain ⟨xl,hxl⟩:∃ n,x.2.2.length = n:=⟨_,rfl⟩
    have hxI:(0:Int) ≤ (xl:Int)∧(xl:Int) ≤ 256:=by have:=hlo.n;omega
    have hxN:xl ≤ 256:=by omega
    rw [hxl] at hlv
    rw [hlv] at hlk2 hyL3
    rw [hyc] at hlk2
    have pal:=AB (P:=Tryz.prog) wr 153 _ Zn
    have pst:=PG wr (x.2.1.toNat:Int) la xl lc
    have k2:=(Step.refl Nobody wr oj).alloc (.cells [.int .u64 (x.2.1.toNat:Int), .slice la xl lc].toArray 153) (0,0)
    have pb:=heap_alloc_new wr (.cells [.int .u64 (x.2.1.toNat:Int), .slice la xl lc].toArray 153)
    have po:=Au oj wr.heap.size (0,0)
    generalize Ak oj wr.heap.size (0,0) = o4 at *
    obtain ⟨W4,hW4⟩:∃ W4,wr.alloc (.cells [.int .u64 (x.2.1.toNat:Int), .slice la xl lc].toArray 153) = W4:=⟨_,rfl⟩
    rw [hW4] at pst k2 pb
    have hbb4:=(k2.block _ (lt_of_block hbb) (fun h=>h)).trans hbb
    have hob4:=(k2.own _ (lt_of_block hbb)).trans hob
    have hpne:wr.heap.size ≠ bb:=by have:=lt_of_block hbb;omega
    obtain ⟨pp,hpp⟩:∃ b,wr.heap.size = b:=⟨_,rfl⟩
    rw [hpp] at pst pb po pal hpne
    have hbest4:=hbest.step k2 (fun h=>h)
    have hsl4:=hsl.step k2 (fun h=>h)
    have st4:=hst.trans k2
    have hL4:=hyL3.step k2 (fun h=>h)
    have d1:=cell_of_block (w:=W4.drew) hbb4 0
    have d2:=cell_of_block (w:=W4.drew) pb 0
    have d3:=cell_of_block (w:=W4.drew) pb 1
    have fb:=Ap hbb4 0
    simp only [List.getElem?_cons_zero,List.getElem?_cons_succ] at d1 d2 d3
    have hS4:=And.intro d1 (And.intro d2 d3)
    have palH:=hidden pal
    have pstH:=hidden pst
    have hlkH:=hidden hlk2
    have hG:=hidden (And.intro st4 (And.intro hbb4 (And.intro hob4 (And.intro hsl4 (And.intro pb (And.intro po hL4))))))
    have hxH:=hidden (And.intro hx (And.intro hxl hpne))
    clear hqe hql hsml hsm hqk hDM hb hps hpo hm hmo hs hhas hnd hls hqs hmem hent hy hyx hyc hyL hxm hlo hm3 hlk2 hps3 hyL3 hlv pal pst k2 pb po hbb4 hob4 hpne hsl4 st4 hL4 d1 d2 d3 hst hbb hob hbest hsl hkl hko hW4 hpp hx hxl
    cases hfo:(sm.take k).foldl bst none with
    | none =>
     rw [hfo] at hbest4
     obtain rfl:pv = none:=hbest4
     obtain ⟨st4,hbb4,hob4,hsl4,pb,po,hL4⟩:=hG.out
     have sF:=st4.drew.setCell (a:=⟨bb,0,none⟩) (.pointer (some ⟨pp,0,none⟩)) (.inr hXH.out.2.2)
     have sK:=((Step.refl (Only X) W4 o4).drew).setCell (a:=⟨bb,0,none⟩) (.pointer (some ⟨pp,0,none⟩)) (.inl (by show (o4 bb).1 = X;rw [hob4]))
     have bF:=Ai (i:=0) (.pointer (some ⟨pp,0,none⟩)) (show W4.drew.heap[bb]? = _ from hbb4)
     have nX0:¬ Only X 0:=fun h=>by have:=hXH.out.1;unfold Only at h;omega
     have hbF:JA (W4.drew.setCell ⟨bb,0,none⟩ (.pointer (some ⟨pp,0,none⟩))) o4 (some x.2) (some ⟨pp,0,none⟩):=
      ⟨pp, .slice la xl lc,rfl,(Below.heap_setCell W4.drew ⟨bb,0,none⟩ (.pointer (some ⟨pp,0,none⟩)) pp hxH.out.2.2).trans pb,by rw [po],hL4.step sK nX0⟩
     have hslF:=hsl4.step sK nX0
     have hfoF:(sm.take (k + 1)).foldl bst none = some x.2:=by
      rw [NU hxH.out.1,hfo]
      rfl
     have hFin:=hidden (And.intro sF (And.intro bF (And.intro hob4 (And.intro hbF (And.intro hslF hfoF)))))
     clear st4 hbb4 hob4 hsl4 pb po hL4 sF sK bF nX0 hbF hslF hfoF
     go_wp2_with (first
      | ((with_reducible apply DN);exact hlkH.out;simp only [Act.put,lsa,lsz,lss])
      | ((with_reducible apply AU);exact palH.out;simp only [Act.put,lsa,lsz,lss])
      | ((with_reducible apply AC);exact pstH.out;simp only [Act.put]))
     refine Aa (fun w'=>w'.cell? ⟨bb,0,none⟩ = some (.pointer none)∧w'.cell? ⟨pp,0,none⟩ = some (.int .u64 (x.2.1.toNat:Int))∧w'.cell? ⟨pp,1,none⟩ = some (.slice la xl lc)) (fun _=>true) (by kernel_rfl) hS4 (fun hHeld => ?_)
     refine tq 0 ?_
     refine tq 1 ?_
     refine tq 2 ?_
     refine ts 3 ?_
     refine ts 4 ?_
     refine ts 5 ?_
     refine ts 6 ?_
     refine ts 7 ?_
     refine ts 8 ?_
     refine ts 9 ?_
     refine ts 10 ?_
     refine ts 11 ?_
     refine ts 12 ?_
     refine ts 13 ?_
     refine ts 14 ?_
     refine ts 15 ?_
     refine ts 16 ?_
     refine ts 17 ?_
     refine tq 18 ?_
     refine Ae (by kernel_rfl) ?_ _
     obtain ⟨d1,d2,d3⟩:=hS4
     clear hHeld
     go_wp2_with fail
     go_roundw
     case rel=>exact ⟨k + 1,o4,_,by omega,by go_num,hFin.out.1,hFin.out.2.1,hFin.out.2.2.1,by rw [hFin.out.2.2.2.2.2];exact hFin.out.2.2.2.1,hFin.out.2.2.2.2.1⟩
     case measure=>simp [intOf];omega
    | some g =>
     rw [hfo] at hbest4
     obtain ⟨gp,glv,rfl,hgb,hgo,hgL⟩:=hbest4
     obtain ⟨ga,gc,rfl⟩:=hgL.form
     have hgl:g.2.length ≤ 256:=by
      rcases Qg _ _ _ hfo with h | ⟨y,hy,rfl⟩
      ·cases h
      ·have hy':(y.1,y.2) ∈ BC 0 has:=by rw [hqH.out.2.2.2];exact List.mem_of_mem_take hy
       obtain ⟨kk, -,hkk⟩:=(Fa has 0 y.1 y.2).1 hy'
       exact (hM.out.1 y.2 (List.mem_of_getElem? hkk)).n
     obtain ⟨gl,hgll⟩:∃ n,g.2.length = n:=⟨_,rfl⟩
     have hgI:(0:Int) ≤ (gl:Int)∧(gl:Int) ≤ 256:=by omega
     have e1:=cell_of_block (w:=W4.drew) hgb 0
     have e2:=cell_of_block (w:=W4.drew) hgb 1
     simp only [List.getElem?_cons_zero,List.getElem?_cons_succ] at e1 e2
     have hbt:=Xx (w:=W4.drew) (o:=o4) x.2.1.toNat g.1.toNat xl gl hxN (by omega)
     rw [show (decide (g.1.toNat < x.2.1.toNat) || (decide (x.2.1.toNat = g.1.toNat) && decide (gl < xl))) = Jw x.2 g by rw [Xy,hgll,hxH.out.2.1]] at hbt
     rw [hgll] at e2
     have hS5:=And.intro hS4.1 (And.intro hS4.2.1 (And.intro hS4.2.2 (And.intro e1 e2)))
     have hGB:=hidden (And.intro hgb (And.intro hgo (And.intro hgL hgll)))
     have hbtH:=hidden hbt
     clear hgb hgo hgL hgl hgll e1 e2 hbt
     cases hbm:Jw x.2 g with
     | true =>
      rw [hbm] at hbtH
      go_wp2_with (first
       | ((with_reducible apply DN);exact hlkH.out;simp only [Act.put,lsa,lsz,lss])
       | ((with_reducible apply AU);exact palH.out;simp only [Act.put,lsa,lsz,lss])
       | ((with_reducible apply AC);exact pstH.out;simp only [Act.put]))
      refine Aa (fun w'=>w'.cell? ⟨bb,0,none⟩ = some (.pointer (some ⟨gp,0,none⟩))∧w'.cell? ⟨pp,0,none⟩ = some (.int .u64 (x.2.1.toNat:Int))∧w'.cell? ⟨pp,1,none⟩ = some (.slice la xl lc)∧w'.cell? ⟨gp,0,none⟩ = some (.int .u64 (g.1.toNat:Int))∧w'.cell? ⟨gp,1,none⟩ = some (.slice ga gl gc)) (fun _=>true) (by kernel_rfl) hS5 (fun hHeld => ?_)
      refine tq 0 ?_
      refine tq 1 ?_
      refine tq 2 ?_
      refine tq 3 ?_
      refine tq 4 ?_
      refine tq 5 ?_
      refine tq 6 ?_
      refine tq 7 ?_
      refine tq 8 ?_
      refine tq 9 ?_
      refine tq 10 ?_
      refine tq 11 ?_
      refine tq 12 ?_
      refine tq 13 ?_
      refine tq 14 ?_
      refine tq 15 ?_
      refine tq 16 ?_
      refine Ac (i:=17) rfl (by kernel_rfl) ?_
      go_wp2_with fail
      refine hbtH.out.mono ?_;rintro e W5 ⟨v5,o5,rfl,hs5,rfl⟩
      obtain ⟨st4,hbb4,hob4,hsl4,pb,po,hL4⟩:=hG.out
      have hbb5:=(hs5.block _ (lt_of_block hbb4) (fun h=>h)).trans hbb4
      have hob5:=(hs5.own _ (lt_of_block hbb4)).trans hob4
      have pb5:=(hs5.block _ (lt_of_block pb) (fun h=>h)).trans pb
      have po5:=(hs5.own _ (lt_of_block pb)).trans po
      have k5:=(Step.refl Nobody W4 o4).drew.trans hs5
      have gb5:=(k5.block gp (lt_of_block hGB.out.1) (fun h=>h)).trans hGB.out.1
      have d1:=cell_of_block hbb5 0
      have d2:=cell_of_block pb5 0
      have d3:=cell_of_block pb5 1
      have d4:=cell_of_block gb5 0
      have d5:=cell_of_block gb5 1
      have fb5:=Ap hbb5 0
      simp only [List.getElem?_cons_zero,List.getElem?_cons_succ] at d1 d2 d3 d4 d5
      rw [hGB.out.2.2.2] at d5
      have hS6:=And.intro d1 (And.intro d2 (And.intro d3 (And.intro d4 d5)))
      have hG5:=hidden (And.intro (st4.trans k5) (And.intro hbb5 (And.intro hob5 (And.intro (hsl4.step k5 (fun h=>h)) (And.intro pb5 (And.intro po5 (And.intro (hL4.step k5 (fun h=>h)) (And.intro gb5 (And.intro ((k5.own gp (lt_of_block hGB.out.1)).trans (by rfl)) (hGB.out.2.2.1.step k5 (fun h=>h)))))))))))
      clear hs5 st4 hbb4 hob4 hsl4 pb po hL4 hbb5 hob5 pb5 po5 k5 gb5 d2 d3 d4 d5 hHeld
      go_wp2_with fail
      refine ⟨fun _=>hS6, ?_⟩
      refine tq 18 ?_
      refine Ae (by kernel_rfl) ?_ _
      clear hS6
      obtain ⟨st5,hbb5,hob5,hsl5,pb5,po5,hL5,gb5,go5,gL5⟩:=hG5.out
      have sF:=st5.setCell (a:=⟨bb,0,none⟩) (.pointer (some ⟨pp,0,none⟩)) (.inr hXH.out.2.2)
      have sK:=(Step.refl (Only X) W5 o5).setCell (a:=⟨bb,0,none⟩) (.pointer (some ⟨pp,0,none⟩)) (.inl (by show (o5 bb).1 = X;rw [hob5]))
      have bF:=Ai (i:=0) (.pointer (some ⟨pp,0,none⟩)) hbb5
      have nX0:¬ Only X 0:=fun h=>by have:=hXH.out.1;unfold Only at h;omega
      have hbF:JA (W5.setCell ⟨bb,0,none⟩ (.pointer (some ⟨pp,0,none⟩))) o5 (some x.2) (some ⟨pp,0,none⟩):=
       ⟨pp, .slice la xl lc,rfl,(Below.heap_setCell W5 ⟨bb,0,none⟩ (.pointer (some ⟨pp,0,none⟩)) pp hxH.out.2.2).trans pb5,by rw [po5],hL5.step sK nX0⟩
      have hslF:=hsl5.step sK nX0
      have hfoF:(sm.take (k + 1)).foldl bst none = some x.2:=by
       rw [NU hxH.out.1,hfo]
       show (if Jw x.2 g then some x.2 else some g) = _
       rw [hbm];rfl
      have hFin:=hidden (And.intro sF (And.intro bF (And.intro hob5 (And.intro hbF (And.intro hslF hfoF)))))
      clear st5 hbb5 hob5 hsl5 pb5 po5 hL5 sF sK bF nX0 hbF hslF hfoF gb5 go5 gL5
      go_wp2_with fail
      go_roundw
      case rel=>exact ⟨k + 1,o5,_,by omega,by go_num,hFin.out.1,hFin.out.2.1,hFin.out.2.2.1,by rw [hFin.out.2.2.2.2.2];exact hFin.out.2.2.2.1,hFin.out.2.2.2.2.1⟩
      case measure=>simp [intOf];omega
     | false =>
      rw [hbm] at hbtH
      go_wp2_with (first
       | ((with_reducible apply DN);exact hlkH.out;simp only [Act.put,lsa,lsz,lss])
       | ((with_reducible apply AU);exact palH.out;simp only [Act.put,lsa,lsz,lss])
       | ((with_reducible apply AC);exact pstH.out;simp only [Act.put]))
      refine Aa (fun w'=>w'.cell? ⟨bb,0,none⟩ = some (.pointer (some ⟨gp,0,none⟩))∧w'.cell? ⟨pp,0,none⟩ = some (.int .u64 (x.2.1.toNat:Int))∧w'.cell? ⟨pp,1,none⟩ = some (.slice la xl lc)∧w'.cell? ⟨gp,0,none⟩ = some (.int .u64 (g.1.toNat:Int))∧w'.cell? ⟨gp,1,none⟩ = some (.slice ga gl gc)) (fun _=>true) (by kernel_rfl) hS5 (fun hHeld => ?_)
      refine tq 0 ?_
      refine tq 1 ?_
      refine tq 2 ?_
      refine tq 3 ?_
      refine tq 4 ?_
      refine tq 5 ?_
      refine tq 6 ?_
      refine tq 7 ?_
      refine tq 8 ?_
      refine tq 9 ?_
      refine tq 10 ?_
      refine tq 11 ?_
      refine tq 12 ?_
      refine tq 13 ?_
      refine tq 14 ?_
      refine tq 15 ?_
      refine tq 16 ?_
      refine Ac (i:=17) rfl (by kernel_rfl) ?_
      go_wp2_with fail
      refine hbtH.out.mono ?_;rintro e W5 ⟨v5,o5,rfl,hs5,rfl⟩
      obtain ⟨st4,hbb4,hob4,hsl4,pb,po,hL4⟩:=hG.out
      have hbb5:=(hs5.block _ (lt_of_block hbb4) (fun h=>h)).trans hbb4
      have hob5:=(hs5.own _ (lt_of_block hbb4)).trans hob4
      have pb5:=(hs5.block _ (lt_of_block pb) (fun h=>h)).trans pb
      have po5:=(hs5.own _ (lt_of_block pb)).trans po
      have k5:=(Step.refl Nobody W4 o4).drew.trans hs5
      have gb5:=(k5.block gp (lt_of_block hGB.out.1) (fun h=>h)).trans hGB.out.1
      have d1:=cell_of_block hbb5 0
      have d2:=cell_of_block pb5 0
      have d3:=cell_of_block pb5 1
      have d4:=cell_of_block gb5 0
      have d5:=cell_of_block gb5 1
      have fb5:=Ap hbb5 0
      simp only [List.getElem?_cons_zero,List.getElem?_cons_succ] at d1 d2 d3 d4 d5
      rw [hGB.out.2.2.2] at d5
      have hS6:=And.intro d1 (And.intro d2 (And.intro d3 (And.intro d4 d5)))
      have hG5:=hidden (And.intro (st4.trans k5) (And.intro hbb5 (And.intro hob5 (And.intro (hsl4.step k5 (fun h=>h)) (And.intro pb5 (And.intro po5 (And.intro (hL4.step k5 (fun h=>h)) (And.intro gb5 (And.intro ((k5.own gp (lt_of_block hGB.out.1)).trans (by rfl)) (hGB.out.2.2.1.step k5 (fun h=>h)))))))))))
      clear hs5 st4 hbb4 hob4 hsl4 pb po hL4 hbb5 hob5 pb5 po5 k5 gb5 d2 d3 d4 d5 hHeld
      go_wp2_with fail
      refine ⟨fun _=>hS6, ?_⟩
      refine tq 18 ?_
      refine Ae (by kernel_rfl) ?_ _
      clear hS6
      obtain ⟨st5,hbb5,hob5,hsl5,pb5,po5,hL5,gb5,go5,gL5⟩:=hG5.out
      have hfoF:(sm.take (k + 1)).foldl bst none = some g:=by
       rw [NU hxH.out.1,hfo]
       show (if Jw x.2 g then some x.2 else some g) = _
       rw [hbm];rfl
      have hbF:JA W5 o5 (some g) (some ⟨gp,0,none⟩):=⟨gp,_,rfl,gb5,by rw [go5];exact hGB.out.2.1,gL5⟩
      have hFin:=hidden (And.intro st5 (And.intro hbb5 (And.intro hob5 (And.intro hbF (And.intro hsl5 hfoF)))))
      clear st5 hbb5 hob5 hsl5 pb5 po5 hL5 hbF hfoF gb5 go5 gL5
      go_wp2_with fail
      go_roundw
      case rel=>exact ⟨k + 1,o5,_,by omega,by go_num,hFin.out.1,hFin.out.2.1,hFin.out.2.2.1,by rw [hFin.out.2.2.2.2.2];exact hFin.out.2.2.2.1,hFin.out.2.2.2.2.1⟩
      case measure=>simp [intOf];omega
   ·have hkL:k = L:=by omega
    subst hkL
    obtain ⟨hqe,hql,hsml,hsm⟩:=hqH.out
    rw [List.take_of_length_le (by omega)] at hbest
    have hbp:Qr has = sm.foldl bst none:=by rw [hM.out.2.1,hsm]
    have hne:sm ≠ []:=fun h=>by rw [h] at hsml;simp at hsml;omega
    obtain ⟨g,hg⟩:=Option.isSome_iff_exists.1 (VK hne)
    rw [hg] at hbest hbp
    rw [hbp] at hRH
    simp only at hRH
    obtain ⟨gp,glv,rfl,hgb,hgo,hgL⟩:=hbest
    have hgm:some g ∈ has:=by
     rcases Qg _ _ _ hg with h | ⟨y,hy,rfl⟩
     ·cases h
     ·have hy':(y.1,y.2) ∈ BC 0 has:=by rw [hsm];exact hy
      obtain ⟨kk, -,hkk⟩:=(Fa has 0 y.1 y.2).1 hy'
      exact List.mem_of_getElem? hkk
    have hgls:=hM.out.1 g hgm
    obtain ⟨hDM,hb,hps,hpo,hm,hmo,hs,hhas⟩:=hH.out
    have hsmall:=En.small hgls (by omega)
    have dr:Step Nobody wr oj wr.drew oj:=(Step.refl Nobody wr oj).drew
    have st':=hst.trans dr
    have had:=Pe hDM (hs.step0 st') hPH.out.sp mine (hgL.step dr (fun h=>h)) hsmall
    have hfit:=KW hPH.out.sp hK hPH.out.kok mine g.2 (Nat.le_trans hPH.out.ok.ls.b hB) (Nat.le_trans hgls.b hB)
    obtain ⟨ga,gc,rfl⟩:=hgL.form
    obtain ⟨gl,hgll⟩:∃ n,g.2.length = n:=⟨_,rfl⟩
    have hgI:(0:Int) ≤ (gl:Int)∧(gl:Int) ≤ 256:=by have:=hgls.n;omega
    obtain ⟨⟨-, -,c2, -⟩, -⟩:=(hb.step st' (fun h=>h)).cells
    have cm:=cell_of_block ((st'.block _ (lt_of_block hps) (fun h=>h)).trans hps) 0
    have cb:=cell_of_block (w:=wr.drew) hbb 0
    have cg:=cell_of_block (w:=wr.drew) hgb 1
    simp only [List.getElem?_cons_zero,List.getElem?_cons_succ] at cm cb cg
    rw [hgll] at cg had
    have hS:=And.intro c2 (And.intro cm (And.intro cb cg))
    have hG:=hidden (And.intro st' (And.intro hbb (And.intro hob (And.intro hgb (And.intro hgo (And.intro (hgL.step dr (fun h=>h)) (And.intro hgls hgll)))))))
    have hadH:=hidden had
    clear hqe hql hsml hsm hbp hne hg hgm hgls hDM hb hps hpo hm hmo hs hhas hsmall dr st' had hgL c2 cm cb cg hgb hgo hst hbb hob hsl hqH
    obtain ⟨Q,hQ⟩:∃ Q,z.s.FO mine g.2 = Q:=⟨_,rfl⟩
    simp only [hQ] at hadH hfit hRH
    rcases hfit with ⟨hf1,hf2⟩ | ⟨hf0,s',hf2,hf3,hf4⟩
    ·subst hf2
     rw [if_neg (fun h=>by cases h)] at hRH
     go_wp2_with fail
     refine Aa (fun w'=>w'.cell? ⟨pz,2,none⟩ = some (.pointer (some ⟨ps,0,none⟩))∧w'.cell? ⟨p,0,none⟩ = some (.int .u64 (mine.toNat:Int))∧w'.cell? ⟨bb,0,none⟩ = some (.pointer (some ⟨gp,0,none⟩))∧w'.cell? ⟨gp,1,none⟩ = some (.slice ga gl gc)) (fun _=>true) (by kernel_rfl) hS (fun hHeld => ?_)
     refine tq 0 ?_
     refine tq 1 ?_
     refine tq 2 ?_
     refine tq 3 ?_
     refine tq 4 ?_
     refine tq 5 ?_
     refine tq 6 ?_
     refine tq 7 ?_
     refine tq 8 ?_
     refine tq 9 ?_
     refine tq 10 ?_
     refine tq 11 ?_
     refine Ac (i:=12) rfl (by kernel_rfl) ?_
     go_wp2_with fail
     refine hadH.out.mono ?_;rintro e W6 ⟨v6,o6,rfl,hs6,rfl,hst6⟩
     obtain ⟨st',hbb,hob,hgb,hgo,hgL,hgls,hgll⟩:=hG.out
     obtain ⟨hDM,hb,hps,hpo,hm,hmo,hs,hhas⟩:=hH.out
     have nZ:¬ In4 (M + 1) (M + 2) (M + 3) D (M + 4):=InN.WZ hDM.1 hDM.2
     have n0:¬ In4 (M + 1) (M + 2) (M + 3) D 0:=fun h=>by unfold In4 at h;have:=hDM.2;omega
     have nX:¬ In4 (M + 1) (M + 2) (M + 3) D X:=fun h=>by unfold In4 at h;have:=hXH.out.1;have:=hDM.1;omega
     have hb6:=(hb.step st' (fun h=>h)).step hs6 nZ
     have ps6:=(hs6.block p (Nat.lt_of_lt_of_le (lt_of_block hps) st'.size) (by rw [st'.own p (lt_of_block hps),hpo];exact nZ)).trans ((st'.block _ (lt_of_block hps) (fun h=>h)).trans hps)
     have po6:=(hs6.own p (Nat.lt_of_lt_of_le (lt_of_block hps) st'.size)).trans ((st'.own p (lt_of_block hps)).trans hpo)
     have bb6:=(hs6.block bb (lt_of_block hbb) (by rw [hob];exact nX)).trans hbb
     have ob6:=(hs6.own bb (lt_of_block hbb)).trans hob
     have gb6:=(hs6.block gp (lt_of_block hgb) (by rw [hgo];exact n0)).trans hgb
     have go6:(o6 gp).1 = 0:=by rw [hs6.own gp (lt_of_block hgb)];exact hgo
     have gL6:=hgL.step hs6 n0
     have hh6:=(hhas.step st' (fun h=>h) (fun h=>h)).step hs6 nZ n0
     have st6:=(st'.mono (fun _ h=>h.elim)).trans (hs6.mono InN.in4)
     obtain ⟨⟨-, -,c2, -⟩, -⟩:=hb6.cells
     have cm:=cell_of_block ps6 0
     have cb:=cell_of_block bb6 0
     have cg:=cell_of_block gb6 1
     simp only [List.getElem?_cons_zero,List.getElem?_cons_succ] at cm cb cg
     rw [hgll] at cg
     have hS6:=And.intro c2 (And.intro cm (And.intro cb cg))
     have hG6:=hidden (And.intro st6 (And.intro hb6 (And.intro ps6 (And.intro po6 (And.intro bb6 (And.intro ob6 (And.intro gb6 (And.intro go6 (And.intro gL6 (And.intro hh6 (And.intro hst6 (And.intro hgls (And.intro hgll hDM)))))))))))))
     clear hs6 hst6 st' hbb hob hgb hgo hgL hgls hgll hDM hb hps hpo hm hmo hs hhas nZ n0 nX hb6 ps6 po6 bb6 ob6 gb6 go6 gL6 hh6 st6 c2 cm cb cg hHeld
     go_wp2_with fail
     refine ⟨fun _=>hS6, ?_⟩
     refine tq 13 ?_
     refine Ae (by kernel_rfl) ?_ _
     clear hS6
     obtain ⟨st6,hb6,ps6,po6,bb6,ob6,gb6,go6,gL6,hh6,hst6,hgls,hgll,hDM⟩:=hG6.out
     have hnd:Bc W6 o6 D M pz ps pd { z with s:=z.s }:=⟨hDM,_,hb6,(by show IE _ _ _ _ z.BB;rw [hrH.out];exact ⟨p,rfl,mb,ps6,po6,hh6⟩),hst6⟩
     have hfo:=hidden (FD hnd)
     clear st6 hb6 ps6 po6 bb6 ob6 gb6 go6 gL6 hh6 hst6 hgls hgll hDM hnd
     go_wp2_with fail
     refine hfo.out.mono ?_;rintro e w7 ⟨v7,o7,rfl,hs7,rfl,hn7⟩
     have hF:=hidden (And.intro (hG6.out.1.trans (hs7.mono (fun k h=>by cases h;exact InN.own))) hn7)
     clear hs7 hn7
     go_wp2_with fail
     go_ret
     exact ⟨_,o7,rfl,hF.out.1,by rw [←hRH.out];exact Dn.nil _ _,by rw [←hRH.out];exact hF.out.2⟩
    ·subst hf2
     rw [if_pos rfl] at hRH
     go_wp2_with fail
     refine Aa (fun w'=>w'.cell? ⟨pz,2,none⟩ = some (.pointer (some ⟨ps,0,none⟩))∧w'.cell? ⟨p,0,none⟩ = some (.int .u64 (mine.toNat:Int))∧w'.cell? ⟨bb,0,none⟩ = some (.pointer (some ⟨gp,0,none⟩))∧w'.cell? ⟨gp,1,none⟩ = some (.slice ga gl gc)) (fun _=>true) (by kernel_rfl) hS (fun hHeld => ?_)
     refine tq 0 ?_
     refine tq 1 ?_
     refine tq 2 ?_
     refine tq 3 ?_
     refine tq 4 ?_
     refine tq 5 ?_
     refine tq 6 ?_
     refine tq 7 ?_
     refine tq 8 ?_
     refine tq 9 ?_
     refine tq 10 ?_
     refine tq 11 ?_
     refine Ac (i:=12) rfl (by kernel_rfl) ?_
     go_wp2_with fail
     refine hadH.out.mono ?_;rintro e W6 ⟨v6,o6,rfl,hs6,rfl,hst6⟩
     obtain ⟨st',hbb,hob,hgb,hgo,hgL,hgls,hgll⟩:=hG.out
     obtain ⟨hDM,hb,hps,hpo,hm,hmo,hs,hhas⟩:=hH.out
     have nZ:¬ In4 (M + 1) (M + 2) (M + 3) D (M + 4):=InN.WZ hDM.1 hDM.2
     have n0:¬ In4 (M + 1) (M + 2) (M + 3) D 0:=fun h=>by unfold In4 at h;have:=hDM.2;omega
     have nX:¬ In4 (M + 1) (M + 2) (M + 3) D X:=fun h=>by unfold In4 at h;have:=hXH.out.1;have:=hDM.1;omega
     have hb6:=(hb.step st' (fun h=>h)).step hs6 nZ
     have ps6:=(hs6.block p (Nat.lt_of_lt_of_le (lt_of_block hps) st'.size) (by rw [st'.own p (lt_of_block hps),hpo];exact nZ)).trans ((st'.block _ (lt_of_block hps) (fun h=>h)).trans hps)
     have po6:=(hs6.own p (Nat.lt_of_lt_of_le (lt_of_block hps) st'.size)).trans ((st'.own p (lt_of_block hps)).trans hpo)
     have bb6:=(hs6.block bb (lt_of_block hbb) (by rw [hob];exact nX)).trans hbb
     have ob6:=(hs6.own bb (lt_of_block hbb)).trans hob
     have gb6:=(hs6.block gp (lt_of_block hgb) (by rw [hgo];exact n0)).trans hgb
     have go6:(o6 gp).1 = 0:=by rw [hs6.own gp (lt_of_block hgb)];exact hgo
     have gL6:=hgL.step hs6 n0
     have hh6:=(hhas.step st' (fun h=>h) (fun h=>h)).step hs6 nZ n0
     have st6:=(st'.mono (fun _ h=>h.elim)).trans (hs6.mono InN.in4)
     obtain ⟨⟨-, -,c2, -⟩, -⟩:=hb6.cells
     have cm:=cell_of_block ps6 0
     have cb:=cell_of_block bb6 0
     have cg:=cell_of_block gb6 1
     simp only [List.getElem?_cons_zero,List.getElem?_cons_succ] at cm cb cg
     rw [hgll] at cg
     have hS6:=And.intro c2 (And.intro cm (And.intro cb cg))
     have hG6:=hidden (And.intro st6 (And.intro hb6 (And.intro ps6 (And.intro po6 (And.intro bb6 (And.intro ob6 (And.intro gb6 (And.intro go6 (And.intro gL6 (And.intro hh6 (And.intro hst6 (And.intro hgls (And.intro hgll hDM)))))))))))))
     clear hs6 hst6 st' hbb hob hgb hgo hgL hgls hgll hDM hb hps hpo hm hmo hs hhas nZ n0 nX hb6 ps6 po6 bb6 ob6 gb6 go6 gL6 hh6 st6 c2 cm cb cg hHeld
     go_wp2_with fail
     refine ⟨fun _=>hS6, ?_⟩
     refine tq 13 ?_
     refine Ae (by kernel_rfl) ?_ _
     clear hS6
     obtain ⟨V,hV⟩:∃ V,W6.drew = V:=⟨_,rfl⟩
     have kV:Step Nobody W6 o6 V o6:=by rw [←hV];exact (Step.refl Nobody W6 o6).drew
     obtain ⟨st6,hb6,ps6,po6,bb6,ob6,gb6,go6,gL6,hh6,hst6,hgls,hgll,hDM⟩:=hG6.out
     have hSof:∀ W O,Step Nobody V o6 W O→W.cell? ⟨p,0,none⟩ = some (.int .u64 (mine.toNat:Int))∧W.cell? ⟨pz,1,none⟩ = some (.int .i64 (nn:Int))∧W.cell? ⟨bb,0,none⟩ = some (.pointer (some ⟨gp,0,none⟩))∧W.cell? ⟨gp,1,none⟩ = some (.slice ga gl gc):=by
      intro W O hJ
      have hJ:=kV.trans hJ
      obtain ⟨⟨-,c1, -⟩, -⟩:=(hb6.step hJ (fun h=>h)).cells
      have cm:=cell_of_block ((hJ.block _ (lt_of_block ps6) (fun h=>h)).trans ps6) 0
      have cb:=cell_of_block ((hJ.block _ (lt_of_block bb6) (fun h=>h)).trans bb6) 0
      have cg:=cell_of_block ((hJ.block _ (lt_of_block gb6) (fun h=>h)).trans gb6) 1
      simp only [List.getElem?_cons_zero,List.getElem?_cons_succ] at cm cb cg
      rw [hgll] at cg
      rw [hnnH.out] at c1
      exact ⟨cm,c1,cb,cg⟩
     have hSH:=hidden hSof
     have hS7:=hSof V o6 (Step.refl _ _ _)
     rw [←hV] at hS7
     have hVz:w.heap.size ≤ V.heap.size:=Nat.le_trans st6.size kV.size
     have hKV:=hidden (And.intro kV hVz)
     clear hSof st6 hb6 ps6 po6 bb6 ob6 gb6 go6 gL6 hh6 hst6 hgls hgll hDM kV hVz
     go_wp2_with fail
     refine Jd (fun a0 a' w'=>∃ (vl lb mr:Nat) (oF:Own) (y1 y2 y3 y4 y5 y6 y7 y8 y9 y10 y11 y12 y13 y14 y15 y16 y17:Value),a' = Act.puts a0 [74,75,76,77,78,79,80,81,82,83,84,85,86,87,88,89,90,9] [y1,y2,y3,y4,y5,y6,y7,y8,y9,y10,y11,y12,y13,y14,y15,y16,y17, .pointer (some ⟨vl,0,none⟩)]∧(V.heap.size ≤ vl∧V.heap.size ≤ lb∧V.heap.size ≤ mr∧lb ≠ mr∧vl ≠ lb∧vl ≠ mr)∧w'.heap[vl]? = some (.cells [Value.pointer (some ⟨lb,0,none⟩)].toArray 87 (0,0))∧w'.heap[lb]? = some (.cells [Value.int .u64 (mine.toNat:Int), .slice (some ⟨mr,0,none⟩) nn nn, .int .i64 (gl:Int), .bool false].toArray 91 (0,0))∧w'.heap[mr]? = some (.cells (ivs (List.replicate nn (-1))).toArray 3 (0,0))∧(oF vl).1 = 0∧Step Nobody V o6 w' oF) ?_ ?_
     ·refine Aa (fun w'=>w'.cell? ⟨p,0,none⟩ = some (.int .u64 (mine.toNat:Int))∧w'.cell? ⟨pz,1,none⟩ = some (.int .i64 (nn:Int))∧w'.cell? ⟨bb,0,none⟩ = some (.pointer (some ⟨gp,0,none⟩))∧w'.cell? ⟨gp,1,none⟩ = some (.slice ga gl gc)) (fun _=>true) (by kernel_rfl) hS7 (fun hHeld => ?_)
      rw [hV] at hHeld ⊢
      have hJ:Step Nobody V o6 V o6:=Step.refl _ _ _
      refine tq 0 ?_ (hQ:=by exact fun _ _ _ h=>nomatch h.1)
      refine tq 1 ?_ (hQ:=by exact fun _ _ _ h=>nomatch h.1)
      refine tq 2 ?_ (hQ:=by exact fun _ _ _ h=>nomatch h.1)
      refine tq 3 ?_ (hQ:=by exact fun _ _ _ h=>nomatch h.1)
      refine tq 5 ?_ (hQ:=by exact fun _ _ _ h=>nomatch h.1)
      refine tq 6 ?_ (hQ:=by exact fun _ _ _ h=>nomatch h.1)
      refine tq 7 ?_ (hQ:=by exact fun _ _ _ h=>nomatch h.1)
      refine tq 8 ?_ (hQ:=by exact fun _ _ _ h=>nomatch h.1)
      refine tq 10 ?_ (hQ:=by exact fun _ _ _ h=>nomatch h.1)
      refine tq 11 ?_ (hQ:=by exact fun _ _ _ h=>nomatch h.1)
      refine tq 12 ?_ (hQ:=by exact fun _ _ _ h=>nomatch h.1)
      refine tq 13 ?_ (hQ:=by exact fun _ _ _ h=>nomatch h.1)
      refine tq 14 ?_ (hQ:=by exact fun _ _ _ h=>nomatch h.1)
      refine Gm (i:=4) (j:=17) rfl rfl (by kernel_rfl) ?_ ?_
      ·obtain ⟨rb,hrbe⟩:∃ b,V.heap.size = b:=⟨_,rfl⟩
       have hgerb:V.heap.size ≤ rb:=by rw [←hrbe];exact hJ.size
       have hs21:=(Step.refl Nobody V o6).alloc (.cells [Value.int .i64 (-1)].toArray 3) (0,0)
       have hrbn:=heap_alloc_new V (.cells [Value.int .i64 (-1)].toArray 3)
       obtain ⟨v21,hw2⟩:∃ x,V.alloc (.cells [Value.int .i64 (-1)].toArray 3) = x:=⟨_,rfl⟩
       obtain ⟨p21,ho2⟩:∃ x,Ak o6 V.heap.size (0,0) = x:=⟨_,rfl⟩
       rw [hw2,ho2] at hs21
       rw [hw2] at hrbn
       rw [hrbe] at hrbn ho2
       have hrun:(Instr.buildSlice 89 1 #[(0, .int .i64 (-1))]).run Tryz.prog V = .ok (.slice (some ⟨rb,0,none⟩) 1 1) v21:=by rw [←hw2, ←hrbe];exact XU V
       have hrunH:=hidden hrun
       have hrb:=hrbn
       have hJ:=hJ.trans hs21
       have hS:=hSH.out _ _ hJ
       clear hrun hrbn hs21 hw2 ho2 hrbe
       refine BO #[(0, .int .i64 (-1))] rfl hrunH.out ?_
       refine wpList_nil ?_
       simp only [Act.put,lsa,lsz,lss]
       refine ⟨fun _=>hS, ?_⟩
       refine Gm (i:=9) (j:=17) rfl rfl (by kernel_rfl) ?_ ?_
       ·have crb:=cell_of_block hrb 0
        simp only [List.getElem?_cons_zero] at crb
        have hrp:=hidden (Ls (o:=p21) nn hn1 hn3 crb (lt_of_block hrb))
        clear crb
        go_wp2_with fail
        refine hrp.out.mono ?_;rintro e v22 ⟨x22,p22,rfl,hs22,rfl,hmrn,hmro⟩
        obtain ⟨mr,hmre⟩:∃ b,v21.heap.size = b:=⟨_,rfl⟩
        have hgemr:V.heap.size ≤ mr:=by rw [←hmre];exact hJ.size
        have hnerbmr:rb ≠ mr:=by have:=lt_of_block hrb;rw [←hmre];omega
        rw [hmre] at hmrn hmro
        have hrb:=(hs22.block _ (lt_of_block hrb) (fun h=>h)).trans hrb
        have hmr:=hmrn
        have hJ:=hJ.trans hs22
        have hS:=hSH.out _ _ hJ
        clear hs22 hmrn hrp hmro
        rw [hmre]
        clear hmre
        go_wp2_with fail
        refine ⟨fun _=>hS, ?_⟩
        refine tq 15 ?_ (hQ:=by exact fun _ _ _ h=>nomatch h.1)
        refine Gm (i:=16) (j:=17) rfl rfl (by kernel_rfl) ?_ ?_
        ·obtain ⟨lb,hlbe⟩:∃ b,v22.heap.size = b:=⟨_,rfl⟩
         have hgelb:V.heap.size ≤ lb:=by rw [←hlbe];exact hJ.size
         have hnerblb:rb ≠ lb:=by have:=lt_of_block hrb;rw [←hlbe];omega
         have hnemrlb:mr ≠ lb:=by have:=lt_of_block hmr;rw [←hlbe];omega
         have hs23:=(Step.refl Nobody v22 p22).alloc (.cells [Value.int .u64 (mine.toNat:Int), .slice (some ⟨mr,0,none⟩) nn nn, .int .i64 (gl:Int), .bool false].toArray 91) (0,0)
         have hlbn:=heap_alloc_new v22 (.cells [Value.int .u64 (mine.toNat:Int), .slice (some ⟨mr,0,none⟩) nn nn, .int .i64 (gl:Int), .bool false].toArray 91)
         obtain ⟨v23,hw2⟩:∃ x,v22.alloc (.cells [Value.int .u64 (mine.toNat:Int), .slice (some ⟨mr,0,none⟩) nn nn, .int .i64 (gl:Int), .bool false].toArray 91) = x:=⟨_,rfl⟩
         obtain ⟨p23,ho2⟩:∃ x,Ak p22 v22.heap.size (0,0) = x:=⟨_,rfl⟩
         rw [hw2,ho2] at hs23
         rw [hw2] at hlbn
         rw [hlbe] at hlbn ho2
         have hrun:(Instr.box 91 (.agg #[Value.int .u64 (mine.toNat:Int), .slice (some ⟨mr,0,none⟩) nn nn, .int .i64 (gl:Int), .bool false])).run Tryz.prog v22 = .ok (.pointer (some ⟨lb,0,none⟩)) v23:=by rw [←hw2, ←hlbe];kernel_rfl
         have hrunH:=hidden hrun
         have hrb:=(hs23.block _ (lt_of_block hrb) (fun h=>h)).trans hrb
         have hmr:=(hs23.block _ (lt_of_block hmr) (fun h=>h)).trans hmr
         have hlb:=hlbn
         have hJ:=hJ.trans hs23
         have hS:=hSH.out _ _ hJ
         clear hrun hlbn hs23 hw2 ho2 hlbe
         refine BM hrunH.out ?_
         refine wpList_nil ?_
         simp only [Act.put,lsa,lsz,lss]
         refine ⟨fun _=>hS, ?_⟩
         refine Ac (i:=17) rfl (by kernel_rfl) ?_
         obtain ⟨vl,hvle⟩:∃ b,v23.heap.size = b:=⟨_,rfl⟩
         have hgevl:V.heap.size ≤ vl:=by rw [←hvle];exact hJ.size
         have hnerbvl:rb ≠ vl:=by have:=lt_of_block hrb;rw [←hvle];omega
         have hnemrvl:mr ≠ vl:=by have:=lt_of_block hmr;rw [←hvle];omega
         have hnelbvl:lb ≠ vl:=by have:=lt_of_block hlb;rw [←hvle];omega
         have hs24:=(Step.refl Nobody v23 p23).alloc (.cells [Value.pointer none].toArray 87) (0,0)
         have hvln:=heap_alloc_new v23 (.cells [Value.pointer none].toArray 87)
         obtain ⟨v24,hw2⟩:∃ x,v23.alloc (.cells [Value.pointer none].toArray 87) = x:=⟨_,rfl⟩
         obtain ⟨p24,ho2⟩:∃ x,Ak p23 v23.heap.size (0,0) = x:=⟨_,rfl⟩
         rw [hw2,ho2] at hs24
         rw [hw2] at hvln
         rw [hvle] at hvln ho2
         have hov:p24 vl = (0,0):=by rw [←ho2];exact Au _ _ _
         have hrun:(Instr.alloc 87 true (.tuple #[])).run Tryz.prog v23 = .ok (.pointer (some ⟨vl,0,none⟩)) v24:=by rw [←hw2, ←hvle];kernel_rfl
         have hrunH:=hidden hrun
         have hrb:=(hs24.block _ (lt_of_block hrb) (fun h=>h)).trans hrb
         have hmr:=(hs24.block _ (lt_of_block hmr) (fun h=>h)).trans hmr
         have hlb:=(hs24.block _ (lt_of_block hlb) (fun h=>h)).trans hlb
         have hvl:=hvln
         have hJ:=hJ.trans hs24
         have hS:=hSH.out _ _ hJ
         clear hrun hvln hs24 hw2 ho2 hvle
         refine AU hrunH.out ?_
         refine wpList_nil ?_
         simp only [Act.put,lsa,lsz,lss]
         refine ⟨fun _=>hS, ?_⟩
         refine Ac (i:=18) rfl (by kernel_rfl) ?_
         have cvl:=cell_of_block hvl 0
         have fvl:=Ap hvl 0
         simp only [List.getElem?_cons_zero] at cvl
         have hJ:=hJ.setCell (a:=⟨vl,0,none⟩) (.pointer (some ⟨lb,0,none⟩)) (.inr hgevl)
         have hvl:=Ai (i:=0) (.pointer (some ⟨lb,0,none⟩)) hvl
         have hlb:=(Below.heap_setCell v24 ⟨vl,0,none⟩ (.pointer (some ⟨lb,0,none⟩)) lb (by first | exact hnelbvl | exact fun h=>hnevllb h.symm)).trans hlb
         have hmr:=(Below.heap_setCell v24 ⟨vl,0,none⟩ (.pointer (some ⟨lb,0,none⟩)) mr (by first | exact hnemrvl | exact fun h=>hnevlmr h.symm)).trans hmr
         have hS:=hSH.out _ _ hJ
         go_wp2_with fail
         refine ⟨fun _=>hS, ?_⟩
         refine Ae (by kernel_rfl) ?_ _
         exact ⟨rfl,vl,lb,mr,p24, .pointer (some ⟨p,0,none⟩), .pointer (some ⟨p,0,none⟩), .pointer (some ⟨p,0,none⟩), .int .u64 (mine.toNat:Int), .slice (some ⟨rb,0,none⟩) 1 1, .pointer (some ⟨pz,0,none⟩), .pointer (some ⟨pz,0,none⟩), .pointer (some ⟨pz,1,none⟩), .int .i64 (nn:Int), .slice (some ⟨mr,0,none⟩) nn nn, .pointer (some ⟨gp,0,none⟩), .pointer (some ⟨gp,0,none⟩), .pointer (some ⟨gp,1,none⟩), .slice ga gl gc, .int .i64 (gl:Int), .agg #[Value.int .u64 (mine.toNat:Int), .slice (some ⟨mr,0,none⟩) nn nn, .int .i64 (gl:Int), .bool false], .pointer (some ⟨lb,0,none⟩),by simp only [Act.puts,Act.put,lsa,lsz,lss],⟨hgevl,hgelb,hgemr,by first | exact hnelbmr | exact fun h=>hnemrlb h.symm,by first | exact hnevllb | exact fun h=>hnelbvl h.symm,by first | exact hnevlmr | exact fun h=>hnemrvl h.symm⟩,hvl,hlb,hmr,by rw [hov],hJ⟩
        ·obtain ⟨vl,hvle⟩:∃ b,v22.heap.size = b:=⟨_,rfl⟩
         have hgevl:V.heap.size ≤ vl:=by rw [←hvle];exact hJ.size
         have hnerbvl:rb ≠ vl:=by have:=lt_of_block hrb;rw [←hvle];omega
         have hnemrvl:mr ≠ vl:=by have:=lt_of_block hmr;rw [←hvle];omega
         have hs23:=(Step.refl Nobody v22 p22).alloc (.cells [Value.pointer none].toArray 87) (0,0)
         have hvln:=heap_alloc_new v22 (.cells [Value.pointer none].toArray 87)
         obtain ⟨v23,hw2⟩:∃ x,v22.alloc (.cells [Value.pointer none].toArray 87) = x:=⟨_,rfl⟩
         obtain ⟨p23,ho2⟩:∃ x,Ak p22 v22.heap.size (0,0) = x:=⟨_,rfl⟩
         rw [hw2,ho2] at hs23
         rw [hw2] at hvln
         rw [hvle] at hvln ho2
         have hov:p23 vl = (0,0):=by rw [←ho2];exact Au _ _ _
         have hrun:(Instr.alloc 87 true (.tuple #[])).run Tryz.prog v22 = .ok (.pointer (some ⟨vl,0,none⟩)) v23:=by rw [←hw2, ←hvle];kernel_rfl
         have hrunH:=hidden hrun
         have hrb:=(hs23.block _ (lt_of_block hrb) (fun h=>h)).trans hrb
         have hmr:=(hs23.block _ (lt_of_block hmr) (fun h=>h)).trans hmr
         have hvl:=hvln
         have hJ:=hJ.trans hs23
         have hS:=hSH.out _ _ hJ
         clear hrun hvln hs23 hw2 ho2 hvle
         refine AU hrunH.out ?_
         refine wpList_nil ?_
         simp only [Act.put,lsa,lsz,lss]
         refine ⟨fun _=>hS, ?_⟩
         refine Ac (i:=16) rfl (by kernel_rfl) ?_
         obtain ⟨lb,hlbe⟩:∃ b,v23.heap.size = b:=⟨_,rfl⟩
         have hgelb:V.heap.size ≤ lb:=by rw [←hlbe];exact hJ.size
         have hnerblb:rb ≠ lb:=by have:=lt_of_block hrb;rw [←hlbe];omega
         have hnemrlb:mr ≠ lb:=by have:=lt_of_block hmr;rw [←hlbe];omega
         have hnevllb:vl ≠ lb:=by have:=lt_of_block hvl;rw [←hlbe];omega
         have hs24:=(Step.refl Nobody v23 p23).alloc (.cells [Value.int .u64 (mine.toNat:Int), .slice (some ⟨mr,0,none⟩) nn nn, .int .i64 (gl:Int), .bool false].toArray 91) (0,0)
         have hlbn:=heap_alloc_new v23 (.cells [Value.int .u64 (mine.toNat:Int), .slice (some ⟨mr,0,none⟩) nn nn, .int .i64 (gl:Int), .bool false].toArray 91)
         obtain ⟨v24,hw2⟩:∃ x,v23.alloc (.cells [Value.int .u64 (mine.toNat:Int), .slice (some ⟨mr,0,none⟩) nn nn, .int .i64 (gl:Int), .bool false].toArray 91) = x:=⟨_,rfl⟩
         obtain ⟨p24,ho2⟩:∃ x,Ak p23 v23.heap.size (0,0) = x:=⟨_,rfl⟩
         rw [hw2,ho2] at hs24
         rw [hw2] at hlbn
         rw [hlbe] at hlbn ho2
         have hrun:(Instr.box 91 (.agg #[Value.int .u64 (mine.toNat:Int), .slice (some ⟨mr,0,none⟩) nn nn, .int .i64 (gl:Int), .bool false])).run Tryz.prog v23 = .ok (.pointer (some ⟨lb,0,none⟩)) v24:=by rw [←hw2, ←hlbe];kernel_rfl
         have hrunH:=hidden hrun
         have hov:=(hs24.own _ (lt_of_block hvl)).trans hov
         have hrb:=(hs24.block _ (lt_of_block hrb) (fun h=>h)).trans hrb
         have hmr:=(hs24.block _ (lt_of_block hmr) (fun h=>h)).trans hmr
         have hvl:=(hs24.block _ (lt_of_block hvl) (fun h=>h)).trans hvl
         have hlb:=hlbn
         have hJ:=hJ.trans hs24
         have hS:=hSH.out _ _ hJ
         clear hrun hlbn hs24 hw2 ho2 hlbe
         refine BM hrunH.out ?_
         refine wpList_nil ?_
         simp only [Act.put,lsa,lsz,lss]
         refine ⟨fun _=>hS, ?_⟩
         refine Ac (i:=18) rfl (by kernel_rfl) ?_
         have cvl:=cell_of_block hvl 0
         have fvl:=Ap hvl 0
         simp only [List.getElem?_cons_zero] at cvl
         have hJ:=hJ.setCell (a:=⟨vl,0,none⟩) (.pointer (some ⟨lb,0,none⟩)) (.inr hgevl)
         have hvl:=Ai (i:=0) (.pointer (some ⟨lb,0,none⟩)) hvl
         have hlb:=(Below.heap_setCell v24 ⟨vl,0,none⟩ (.pointer (some ⟨lb,0,none⟩)) lb (by first | exact hnelbvl | exact fun h=>hnevllb h.symm)).trans hlb
         have hmr:=(Below.heap_setCell v24 ⟨vl,0,none⟩ (.pointer (some ⟨lb,0,none⟩)) mr (by first | exact hnemrvl | exact fun h=>hnevlmr h.symm)).trans hmr
         have hS:=hSH.out _ _ hJ
         go_wp2_with fail
         refine ⟨fun _=>hS, ?_⟩
         refine Ae (by kernel_rfl) ?_ _
         exact ⟨rfl,vl,lb,mr,p24, .pointer (some ⟨p,0,none⟩), .pointer (some ⟨p,0,none⟩), .pointer (some ⟨p,0,none⟩), .int .u64 (mine.toNat:Int), .slice (some ⟨rb,0,none⟩) 1 1, .pointer (some ⟨pz,0,none⟩), .pointer (some ⟨pz,0,none⟩), .pointer (some ⟨pz,1,none⟩), .int .i64 (nn:Int), .slice (some ⟨mr,0,none⟩) nn nn, .pointer (some ⟨gp,0,none⟩), .pointer (some ⟨gp,0,none⟩), .pointer (some ⟨gp,1,none⟩), .slice ga gl gc, .int .i64 (gl:Int), .agg #[Value.int .u64 (mine.toNat:Int), .slice (some ⟨mr,0,none⟩) nn nn, .int .i64 (gl:Int), .bool false], .pointer (some ⟨lb,0,none⟩),by simp only [Act.puts,Act.put,lsa,lsz,lss],⟨hgevl,hgelb,hgemr,by first | exact hnelbmr | exact fun h=>hnemrlb h.symm,by first | exact hnevllb | exact fun h=>hnelbvl h.symm,by first | exact hnevlmr | exact fun h=>hnemrvl h.symm⟩,hvl,hlb,hmr,by rw [hov],hJ⟩
       ·obtain ⟨vl,hvle⟩:∃ b,v21.heap.size = b:=⟨_,rfl⟩
        have hgevl:V.heap.size ≤ vl:=by rw [←hvle];exact hJ.size
        have hnerbvl:rb ≠ vl:=by have:=lt_of_block hrb;rw [←hvle];omega
        have hs22:=(Step.refl Nobody v21 p21).alloc (.cells [Value.pointer none].toArray 87) (0,0)
        have hvln:=heap_alloc_new v21 (.cells [Value.pointer none].toArray 87)
        obtain ⟨v22,hw2⟩:∃ x,v21.alloc (.cells [Value.pointer none].toArray 87) = x:=⟨_,rfl⟩
        obtain ⟨p22,ho2⟩:∃ x,Ak p21 v21.heap.size (0,0) = x:=⟨_,rfl⟩
        rw [hw2,ho2] at hs22
        rw [hw2] at hvln
        rw [hvle] at hvln ho2
        have hov:p22 vl = (0,0):=by rw [←ho2];exact Au _ _ _
        have hrun:(Instr.alloc 87 true (.tuple #[])).run Tryz.prog v21 = .ok (.pointer (some ⟨vl,0,none⟩)) v22:=by rw [←hw2, ←hvle];kernel_rfl
        have hrunH:=hidden hrun
        have hrb:=(hs22.block _ (lt_of_block hrb) (fun h=>h)).trans hrb
        have hvl:=hvln
        have hJ:=hJ.trans hs22
        have hS:=hSH.out _ _ hJ
        clear hrun hvln hs22 hw2 ho2 hvle
        refine AU hrunH.out ?_
        refine wpList_nil ?_
        simp only [Act.put,lsa,lsz,lss]
        refine ⟨fun _=>hS, ?_⟩
        refine Ac (i:=9) rfl (by kernel_rfl) ?_
        have crb:=cell_of_block hrb 0
        simp only [List.getElem?_cons_zero] at crb
        have hrp:=hidden (Ls (o:=p22) nn hn1 hn3 crb (lt_of_block hrb))
        clear crb
        go_wp2_with fail
        refine hrp.out.mono ?_;rintro e v23 ⟨x23,p23,rfl,hs23,rfl,hmrn,hmro⟩
        obtain ⟨mr,hmre⟩:∃ b,v22.heap.size = b:=⟨_,rfl⟩
        have hgemr:V.heap.size ≤ mr:=by rw [←hmre];exact hJ.size
        have hnerbmr:rb ≠ mr:=by have:=lt_of_block hrb;rw [←hmre];omega
        have hnevlmr:vl ≠ mr:=by have:=lt_of_block hvl;rw [←hmre];omega
        rw [hmre] at hmrn hmro
        have hov:=(hs23.own _ (lt_of_block hvl)).trans hov
        have hrb:=(hs23.block _ (lt_of_block hrb) (fun h=>h)).trans hrb
        have hvl:=(hs23.block _ (lt_of_block hvl) (fun h=>h)).trans hvl
        have hmr:=hmrn
        have hJ:=hJ.trans hs23
        have hS:=hSH.out _ _ hJ
        clear hs23 hmrn hrp hmro
        rw [hmre]
        clear hmre
        go_wp2_with fail
        refine ⟨fun _=>hS, ?_⟩
        refine tq 15 ?_ (hQ:=by exact fun _ _ _ h=>nomatch h.1)
        refine Ac (i:=16) rfl (by kernel_rfl) ?_
        obtain ⟨lb,hlbe⟩:∃ b,v23.heap.size = b:=⟨_,rfl⟩
        have hgelb:V.heap.size ≤ lb:=by rw [←hlbe];exact hJ.size
        have hnerblb:rb ≠ lb:=by have:=lt_of_block hrb;rw [←hlbe];omega
        have hnemrlb:mr ≠ lb:=by have:=lt_of_block hmr;rw [←hlbe];omega
        have hnevllb:vl ≠ lb:=by have:=lt_of_block hvl;rw [←hlbe];omega
        have hs24:=(Step.refl Nobody v23 p23).alloc (.cells [Value.int .u64 (mine.toNat:Int), .slice (some ⟨mr,0,none⟩) nn nn, .int .i64 (gl:Int), .bool false].toArray 91) (0,0)
        have hlbn:=heap_alloc_new v23 (.cells [Value.int .u64 (mine.toNat:Int), .slice (some ⟨mr,0,none⟩) nn nn, .int .i64 (gl:Int), .bool false].toArray 91)
        obtain ⟨v24,hw2⟩:∃ x,v23.alloc (.cells [Value.int .u64 (mine.toNat:Int), .slice (some ⟨mr,0,none⟩) nn nn, .int .i64 (gl:Int), .bool false].toArray 91) = x:=⟨_,rfl⟩
        obtain ⟨p24,ho2⟩:∃ x,Ak p23 v23.heap.size (0,0) = x:=⟨_,rfl⟩
        rw [hw2,ho2] at hs24
        rw [hw2] at hlbn
        rw [hlbe] at hlbn ho2
        have hrun:(Instr.box 91 (.agg #[Value.int .u64 (mine.toNat:Int), .slice (some ⟨mr,0,none⟩) nn nn, .int .i64 (gl:Int), .bool false])).run Tryz.prog v23 = .ok (.pointer (some ⟨lb,0,none⟩)) v24:=by rw [←hw2, ←hlbe];kernel_rfl
        have hrunH:=hidden hrun
        have hov:=(hs24.own _ (lt_of_block hvl)).trans hov
        have hrb:=(hs24.block _ (lt_of_block hrb) (fun h=>h)).trans hrb
        have hmr:=(hs24.block _ (lt_of_block hmr) (fun h=>h)).trans hmr
        have hvl:=(hs24.block _ (lt_of_block hvl) (fun h=>h)).trans hvl
        have hlb:=hlbn
        have hJ:=hJ.trans hs24
        have hS:=hSH.out _ _ hJ
        clear hrun hlbn hs24 hw2 ho2 hlbe
        refine BM hrunH.out ?_
        refine wpList_nil ?_
        simp only [Act.put,lsa,lsz,lss]
        refine ⟨fun _=>hS, ?_⟩
        refine Ac (i:=18) rfl (by kernel_rfl) ?_
        have cvl:=cell_of_block hvl 0
        have fvl:=Ap hvl 0
        simp only [List.getElem?_cons_zero] at cvl
        have hJ:=hJ.setCell (a:=⟨vl,0,none⟩) (.pointer (some ⟨lb,0,none⟩)) (.inr hgevl)
        have hvl:=Ai (i:=0) (.pointer (some ⟨lb,0,none⟩)) hvl
        have hlb:=(Below.heap_setCell v24 ⟨vl,0,none⟩ (.pointer (some ⟨lb,0,none⟩)) lb (by first | exact hnelbvl | exact fun h=>hnevllb h.symm)).trans hlb
        have hmr:=(Below.heap_setCell v24 ⟨vl,0,none⟩ (.pointer (some ⟨lb,0,none⟩)) mr (by first | exact hnemrvl | exact fun h=>hnevlmr h.symm)).trans hmr
        have hS:=hSH.out _ _ hJ
        go_wp2_with fail
        refine ⟨fun _=>hS, ?_⟩
        refine Ae (by kernel_rfl) ?_ _
        exact ⟨rfl,vl,lb,mr,p24, .pointer (some ⟨p,0,none⟩), .pointer (some ⟨p,0,none⟩), .pointer (some ⟨p,0,none⟩), .int .u64 (mine.toNat:Int), .slice (some ⟨rb,0,none⟩) 1 1, .pointer (some ⟨pz,0,none⟩), .pointer (some ⟨pz,0,none⟩), .pointer (some ⟨pz,1,none⟩), .int .i64 (nn:Int), .slice (some ⟨mr,0,none⟩) nn nn, .pointer (some ⟨gp,0,none⟩), .pointer (some ⟨gp,0,none⟩), .pointer (some ⟨gp,1,none⟩), .slice ga gl gc, .int .i64 (gl:Int), .agg #[Value.int .u64 (mine.toNat:Int), .slice (some ⟨mr,0,none⟩) nn nn, .int .i64 (gl:Int), .bool false], .pointer (some ⟨lb,0,none⟩),by simp only [Act.puts,Act.put,lsa,lsz,lss],⟨hgevl,hgelb,hgemr,by first | exact hnelbmr | exact fun h=>hnemrlb h.symm,by first | exact hnevllb | exact fun h=>hnelbvl h.symm,by first | exact hnevlmr | exact fun h=>hnemrvl h.symm⟩,hvl,hlb,hmr,by rw [hov],hJ⟩
      ·obtain ⟨vl,hvle⟩:∃ b,V.heap.size = b:=⟨_,rfl⟩
       have hgevl:V.heap.size ≤ vl:=by rw [←hvle];exact hJ.size
       have hs21:=(Step.refl Nobody V o6).alloc (.cells [Value.pointer none].toArray 87) (0,0)
       have hvln:=heap_alloc_new V (.cells [Value.pointer none].toArray 87)
       obtain ⟨v21,hw2⟩:∃ x,V.alloc (.cells [Value.pointer none].toArray 87) = x:=⟨_,rfl⟩
       obtain ⟨p21,ho2⟩:∃ x,Ak o6 V.heap.size (0,0) = x:=⟨_,rfl⟩
       rw [hw2,ho2] at hs21
       rw [hw2] at hvln
       rw [hvle] at hvln ho2
       have hov:p21 vl = (0,0):=by rw [←ho2];exact Au _ _ _
       have hrun:(Instr.alloc 87 true (.tuple #[])).run Tryz.prog V = .ok (.pointer (some ⟨vl,0,none⟩)) v21:=by rw [←hw2, ←hvle];kernel_rfl
       have hrunH:=hidden hrun
       have hvl:=hvln
       have hJ:=hJ.trans hs21
       have hS:=hSH.out _ _ hJ
       clear hrun hvln hs21 hw2 ho2 hvle
       refine AU hrunH.out ?_
       refine wpList_nil ?_
       simp only [Act.put,lsa,lsz,lss]
       refine ⟨fun _=>hS, ?_⟩
       refine Ac (i:=4) rfl (by kernel_rfl) ?_
       obtain ⟨rb,hrbe⟩:∃ b,v21.heap.size = b:=⟨_,rfl⟩
       have hgerb:V.heap.size ≤ rb:=by rw [←hrbe];exact hJ.size
       have hnevlrb:vl ≠ rb:=by have:=lt_of_block hvl;rw [←hrbe];omega
       have hs22:=(Step.refl Nobody v21 p21).alloc (.cells [Value.int .i64 (-1)].toArray 3) (0,0)
       have hrbn:=heap_alloc_new v21 (.cells [Value.int .i64 (-1)].toArray 3)
       obtain ⟨v22,hw2⟩:∃ x,v21.alloc (.cells [Value.int .i64 (-1)].toArray 3) = x:=⟨_,rfl⟩
       obtain ⟨p22,ho2⟩:∃ x,Ak p21 v21.heap.size (0,0) = x:=⟨_,rfl⟩
       rw [hw2,ho2] at hs22
       rw [hw2] at hrbn
       rw [hrbe] at hrbn ho2
       have hrun:(Instr.buildSlice 89 1 #[(0, .int .i64 (-1))]).run Tryz.prog v21 = .ok (.slice (some ⟨rb,0,none⟩) 1 1) v22:=by rw [←hw2, ←hrbe];exact XU v21
       have hrunH:=hidden hrun
       have hov:=(hs22.own _ (lt_of_block hvl)).trans hov
       have hvl:=(hs22.block _ (lt_of_block hvl) (fun h=>h)).trans hvl
       have hrb:=hrbn
       have hJ:=hJ.trans hs22
       have hS:=hSH.out _ _ hJ
       clear hrun hrbn hs22 hw2 ho2 hrbe
       refine BO #[(0, .int .i64 (-1))] rfl hrunH.out ?_
       refine wpList_nil ?_
       simp only [Act.put,lsa,lsz,lss]
       refine ⟨fun _=>hS, ?_⟩
       refine Ac (i:=9) rfl (by kernel_rfl) ?_
       have crb:=cell_of_block hrb 0
       simp only [List.getElem?_cons_zero] at crb
       have hrp:=hidden (Ls (o:=p22) nn hn1 hn3 crb (lt_of_block hrb))
       clear crb
       go_wp2_with fail
       refine hrp.out.mono ?_;rintro e v23 ⟨x23,p23,rfl,hs23,rfl,hmrn,hmro⟩
       obtain ⟨mr,hmre⟩:∃ b,v22.heap.size = b:=⟨_,rfl⟩
       have hgemr:V.heap.size ≤ mr:=by rw [←hmre];exact hJ.size
       have hnerbmr:rb ≠ mr:=by have:=lt_of_block hrb;rw [←hmre];omega
       have hnevlmr:vl ≠ mr:=by have:=lt_of_block hvl;rw [←hmre];omega
       rw [hmre] at hmrn hmro
       have hov:=(hs23.own _ (lt_of_block hvl)).trans hov
       have hrb:=(hs23.block _ (lt_of_block hrb) (fun h=>h)).trans hrb
       have hvl:=(hs23.block _ (lt_of_block hvl) (fun h=>h)).trans hvl
       have hmr:=hmrn
       have hJ:=hJ.trans hs23
       have hS:=hSH.out _ _ hJ
       clear hs23 hmrn hrp hmro
       rw [hmre]
       clear hmre
       go_wp2_with fail
       refine ⟨fun _=>hS, ?_⟩
       refine tq 15 ?_ (hQ:=by exact fun _ _ _ h=>nomatch h.1)
       refine Ac (i:=16) rfl (by kernel_rfl) ?_
       obtain ⟨lb,hlbe⟩:∃ b,v23.heap.size = b:=⟨_,rfl⟩
       have hgelb:V.heap.size ≤ lb:=by rw [←hlbe];exact hJ.size
       have hnerblb:rb ≠ lb:=by have:=lt_of_block hrb;rw [←hlbe];omega
       have hnemrlb:mr ≠ lb:=by have:=lt_of_block hmr;rw [←hlbe];omega
       have hnevllb:vl ≠ lb:=by have:=lt_of_block hvl;rw [←hlbe];omega
       have hs24:=(Step.refl Nobody v23 p23).alloc (.cells [Value.int .u64 (mine.toNat:Int), .slice (some ⟨mr,0,none⟩) nn nn, .int .i64 (gl:Int), .bool false].toArray 91) (0,0)
       have hlbn:=heap_alloc_new v23 (.cells [Value.int .u64 (mine.toNat:Int), .slice (some ⟨mr,0,none⟩) nn nn, .int .i64 (gl:Int), .bool false].toArray 91)
       obtain ⟨v24,hw2⟩:∃ x,v23.alloc (.cells [Value.int .u64 (mine.toNat:Int), .slice (some ⟨mr,0,none⟩) nn nn, .int .i64 (gl:Int), .bool false].toArray 91) = x:=⟨_,rfl⟩
       obtain ⟨p24,ho2⟩:∃ x,Ak p23 v23.heap.size (0,0) = x:=⟨_,rfl⟩
       rw [hw2,ho2] at hs24
       rw [hw2] at hlbn
       rw [hlbe] at hlbn ho2
       have hrun:(Instr.box 91 (.agg #[Value.int .u64 (mine.toNat:Int), .slice (some ⟨mr,0,none⟩) nn nn, .int .i64 (gl:Int), .bool false])).run Tryz.prog v23 = .ok (.pointer (some ⟨lb,0,none⟩)) v24:=by rw [←hw2, ←hlbe];kernel_rfl
       have hrunH:=hidden hrun
       have hov:=(hs24.own _ (lt_of_block hvl)).trans hov
       have hrb:=(hs24.block _ (lt_of_block hrb) (fun h=>h)).trans hrb
       have hmr:=(hs24.block _ (lt_of_block hmr) (fun h=>h)).trans hmr
       have hvl:=(hs24.block _ (lt_of_block hvl) (fun h=>h)).trans hvl
       have hlb:=hlbn
       have hJ:=hJ.trans hs24
       have hS:=hSH.out _ _ hJ
       clear hrun hlbn hs24 hw2 ho2 hlbe
       refine BM hrunH.out ?_
       refine wpList_nil ?_
       simp only [Act.put,lsa,lsz,lss]
       refine ⟨fun _=>hS, ?_⟩
       refine Ac (i:=18) rfl (by kernel_rfl) ?_
       have cvl:=cell_of_block hvl 0
       have fvl:=Ap hvl 0
       simp only [List.getElem?_cons_zero] at cvl
       have hJ:=hJ.setCell (a:=⟨vl,0,none⟩) (.pointer (some ⟨lb,0,none⟩)) (.inr hgevl)
       have hvl:=Ai (i:=0) (.pointer (some ⟨lb,0,none⟩)) hvl
       have hlb:=(Below.heap_setCell v24 ⟨vl,0,none⟩ (.pointer (some ⟨lb,0,none⟩)) lb (by first | exact hnelbvl | exact fun h=>hnevllb h.symm)).trans hlb
       have hmr:=(Below.heap_setCell v24 ⟨vl,0,none⟩ (.pointer (some ⟨lb,0,none⟩)) mr (by first | exact hnemrvl | exact fun h=>hnevlmr h.symm)).trans hmr
       have hS:=hSH.out _ _ hJ
       go_wp2_with fail
       refine ⟨fun _=>hS, ?_⟩
       refine Ae (by kernel_rfl) ?_ _
       exact ⟨rfl,vl,lb,mr,p24, .pointer (some ⟨p,0,none⟩), .pointer (some ⟨p,0,none⟩), .pointer (some ⟨p,0,none⟩), .int .u64 (mine.toNat:Int), .slice (some ⟨rb,0,none⟩) 1 1, .pointer (some ⟨pz,0,none⟩), .pointer (some ⟨pz,0,none⟩), .pointer (some ⟨pz,1,none⟩), .int .i64 (nn:Int), .slice (some ⟨mr,0,none⟩) nn nn, .pointer (some ⟨gp,0,none⟩), .pointer (some ⟨gp,0,none⟩), .pointer (some ⟨gp,1,none⟩), .slice ga gl gc, .int .i64 (gl:Int), .agg #[Value.int .u64 (mine.toNat:Int), .slice (some ⟨mr,0,none⟩) nn nn, .int .i64 (gl:Int), .bool false], .pointer (some ⟨lb,0,none⟩),by simp only [Act.puts,Act.put,lsa,lsz,lss],⟨hgevl,hgelb,hgemr,by first | exact hnelbmr | exact fun h=>hnemrlb h.symm,by first | exact hnevllb | exact fun h=>hnelbvl h.symm,by first | exact hnevlmr | exact fun h=>hnemrvl h.symm⟩,hvl,hlb,hmr,by rw [hov],hJ⟩
     rintro a8 W8 ⟨vl,lb,mr,oF,y1,y2,y3,y4,y5,y6,y7,y8,y9,y10,y11,y12,y13,y14,y15,y16,y17,rfl,hge,hvl,hlb,hmr,hov,hJ⟩
     simp only [Act.puts,Act.put,lsa,lsz,lss]
     clear hS7 hV
     obtain ⟨oG,hoG⟩:∃ oG:Own,oG = fun k=>if k = lb then (M + 4,1) else if k = mr then (M + 4,2) else oF k:=⟨_,rfl⟩
     obtain ⟨gv,gl',gm,n1,n2,n3⟩:=hge
     have hJ:Step Nobody V o6 W8 oG:=hJ.Me oG (fun k hk=>by rw [hoG];show (if k = lb then _ else if k = mr then _ else _) = _;rw [if_neg (by omega),if_neg (by omega)];exact hJ.own k hk)
     have glb:oG lb = (M + 4,1):=by rw [hoG];exact if_pos rfl
     have gmr:oG mr = (M + 4,2):=by rw [hoG];show (if mr = lb then _ else if mr = mr then _ else _) = _;rw [if_neg (fun h=>n1 h.symm),if_pos rfl]
     have gvl:(oG vl).1 = 0:=by rw [hoG];show (if vl = lb then _ else if vl = mr then _ else _:Nat × Nat).1 = _;rw [if_neg n2,if_neg n3];exact hov
     obtain ⟨st6,hb6,ps6,po6,bb6,ob6,gb6,go6,gL6,hh6,hst6,hgls,hgll,hDM⟩:=hG6.out
     obtain ⟨kV,hVz⟩:=hKV.out
     have k8:=kV.trans hJ
     have hb8:=hb6.step k8 (fun h=>h)
     have bb8:=(k8.block bb (lt_of_block bb6) (fun h=>h)).trans bb6
     have ob8:=(k8.own bb (lt_of_block bb6)).trans ob6
     have gb8:=(k8.block gp (lt_of_block gb6) (fun h=>h)).trans gb6
     have go8:(oG gp).1 = 0:=by rw [k8.own gp (lt_of_block gb6)];exact go6
     have gL8:=gL6.step k8 (fun h=>h)
     have hst8:=hst6.step0 k8
     have st8:=st6.trans (k8.mono (fun _ h=>h.elim))
     have hk':s'.kept = ⟨mine,mine,g.2⟩:=by rw [hf4];exact IZ hf0
     have hpzV:pz < V.heap.size:=Nat.lt_of_lt_of_le (Nat.lt_of_lt_of_le (lt_of_block hb6.1) (Nat.le_refl _)) kV.size
     have npl:vl ≠ pz:=by omega
     have nlb:lb ≠ pz:=by omega
     have nmr:mr ≠ pz:=by omega
     obtain ⟨V8,hV8⟩:∃ V,W8.drew = V:=⟨_,rfl⟩
     have kD:Step Nobody W8 oG V8 oG:=by rw [←hV8];exact (Step.refl Nobody W8 oG).drew
     have hbV:=hb8.step kD (fun h=>h)
     have hvl:=(kD.block vl (lt_of_block hvl) (fun h=>h)).trans hvl
     have hlb:=(kD.block lb (lt_of_block hlb) (fun h=>h)).trans hlb
     have hmr:=(kD.block mr (lt_of_block hmr) (fun h=>h)).trans hmr
     have bb8:=(kD.block bb (lt_of_block bb8) (fun h=>h)).trans bb8
     have gb8:=(kD.block gp (lt_of_block gb8) (fun h=>h)).trans gb8
     have gL8:=gL8.step kD (fun h=>h)
     have hst8:=hst8.step0 kD
     have st8:=st8.trans (kD.mono (fun _ h=>h.elim))
     have b9a:=Ai (i:=3) (.iface 87 (.pointer (some ⟨lb,0,none⟩))) hbV.1
     have b9:=Ai (i:=6) (.int .i64 ((min z.Ag gl:Nat):Int)) b9a
     have vl9a:=(Below.heap_setCell V8 ⟨pz,3,none⟩ (.iface 87 (.pointer (some ⟨lb,0,none⟩))) vl npl).trans hvl
     have lb9a:=(Below.heap_setCell V8 ⟨pz,3,none⟩ (.iface 87 (.pointer (some ⟨lb,0,none⟩))) lb nlb).trans hlb
     have mr9a:=(Below.heap_setCell V8 ⟨pz,3,none⟩ (.iface 87 (.pointer (some ⟨lb,0,none⟩))) mr nmr).trans hmr
     have vl9:=(Below.heap_setCell (V8.setCell ⟨pz,3,none⟩ (.iface 87 (.pointer (some ⟨lb,0,none⟩)))) ⟨pz,6,none⟩ (.int .i64 ((min z.Ag gl:Nat):Int)) vl npl).trans vl9a
     have lb9:=(Below.heap_setCell (V8.setCell ⟨pz,3,none⟩ (.iface 87 (.pointer (some ⟨lb,0,none⟩)))) ⟨pz,6,none⟩ (.int .i64 ((min z.Ag gl:Nat):Int)) lb nlb).trans lb9a
     have mr9:=(Below.heap_setCell (V8.setCell ⟨pz,3,none⟩ (.iface 87 (.pointer (some ⟨lb,0,none⟩)))) ⟨pz,6,none⟩ (.int .i64 ((min z.Ag gl:Nat):Int)) mr nmr).trans mr9a
     have k9:=((Step.refl (Only (M + 4)) V8 oG).setCell (a:=⟨pz,3,none⟩) (.iface 87 (.pointer (some ⟨lb,0,none⟩))) (.inl (by show (oG pz).1 = _;rw [hbV.2]))).setCell (a:=⟨pz,6,none⟩) (.int .i64 ((min z.Ag gl:Nat):Int)) (.inl (by show (oG pz).1 = _;rw [hbV.2]))
     have hln9:GV _ oG D M pz ps pd lb ({ z with s:=s',Ag:=min z.Ag gl }:Am) mine (List.replicate nn (-1)) gl false:=
      ⟨hDM,⟨b9,hbV.2⟩,⟨mr,nn,by rw [List.length_replicate];exact lb9,glb,mr9,gmr,by rw [List.length_replicate];exact Nat.le_refl _,by unfold maxLen;omega⟩,hst8.step k9 (InN.self hDM.1)⟩
     have cv:=cell_of_block hvl 0
     have cl:=cell_of_block hlb 2
     obtain ⟨⟨-, -, -,c3, -, -,c6⟩,hfr, -⟩:=hbV.cells
     have f3:=hfr 3
     have f6:=hfr 6
     have cv2:=cell_of_block vl9a 0
     have cl2:=cell_of_block lb9a 2
     have c62:=cell_of_block b9a 6
     simp only [List.getElem?_cons_zero,List.getElem?_cons_succ] at cv cl cv2 cl2
     have hS15:=And.intro cv (And.intro cl c6)
     have hS15r:=hS15
     rw [←hV8] at hS15r
     have hS16:=And.intro cv2 (And.intro cl2 (show _ = some (Value.int .i64 (z.Ag:Int)) from c62))
     have n4:¬ Only (M + 4) 0:=fun h=>by unfold Only at h;omega
     have n4X:¬ Only (M + 4) X:=fun h=>by have:=hXH.out.1;unfold Only at h;omega
     have h9:=hidden (And.intro hln9 (And.intro (st8.trans (k9.mono (fun k h=>by cases h;exact InN.own))) (And.intro vl9 (And.intro gvl (And.intro ((k9.block bb (lt_of_block bb8) (by rw [ob8];exact n4X)).trans bb8) (And.intro ob8 (show JA _ oG (some g) (some ⟨gp,0,none⟩) from ⟨gp,_,rfl,(k9.block gp (lt_of_block gb8) (by rw [go8];exact n4)).trans gb8,go8,gL8.step k9 n4⟩)))))))
     have hmn:min (z.Ag:Int) (gl:Int) = ((min z.Ag gl:Nat):Int):=by omega
     have hcoI:(0:Int) ≤ (z.Ag:Int)∧(z.Ag:Int) ≤ 256:=by have:=hPH.out.ok.co;have:=hPH.out.ok.ls.n;have e:z.BN.Ag = z.Ag:=rfl;have e2:z.BN.k = z.s.kept:=rfl;omega
     have hglsH:=hidden hgls
     have hk'H:=hidden hk'
     have hDMH:=hidden hDM
     clear st6 hb6 ps6 po6 bb6 ob6 gb6 go6 gL6 hh6 hst6 hgls hgll hDM kV hVz k8 hb8 bb8 ob8 gb8 go8 gL8 hst8 st8 hk' hpzV npl nlb nmr b9a b9 vl9a lb9a mr9a vl9 lb9 mr9 k9 hln9 cv cl hfr cv2 cl2 c62 n4 n4X hvl hlb hmr hov kD hbV hJ glb gmr gvl gv gl' gm n1 n2 n3 hoG
     go_wp2_with fail
     refine Aa (fun w'=>w'.cell? ⟨vl,0,none⟩ = some (.pointer (some ⟨lb,0,none⟩))∧w'.cell? ⟨lb,2,none⟩ = some (.int .i64 (gl:Int))∧w'.cell? ⟨pz,6,none⟩ = some (.int .i64 (z.Ag:Int))) (fun i=>decide (i < 18)) (by kernel_rfl) hS15r (fun hHeld => ?_)
     rw [hV8] at hHeld ⊢
     clear hV8 hS15r
     refine tq 0 ?_
     refine tq 1 ?_
     refine tq 2 ?_
     refine tq 4 ?_
     refine tq 5 ?_
     refine tq 6 ?_
     refine tq 7 ?_
     refine tq 8 ?_
     refine tq 9 ?_
     refine tq 10 ?_
     refine tq 11 ?_
     refine tq 12 ?_
     refine Ac (i:=3) rfl (by kernel_rfl) ?_
     go_wp2_with fail
     refine ⟨fun _=>hHeld, ?_⟩
     refine tq 13 ?_
     refine tq 14 ?_
     refine Ac (i:=15) rfl (by kernel_rfl) ?_
     go_wp2_with fail
     refine ⟨fun _=>hS16, ?_⟩
     refine Ac (i:=16) rfl (by kernel_rfl) ?_
     go_wp2_with fail
     refine ⟨fun _=>hS16, ?_⟩
     refine tq 17 ?_
     refine Ac (i:=18) rfl (by kernel_rfl) ?_
     go_wp2_with fail
     refine ⟨fun h=>by simp at h, ?_⟩
     refine Ae (by kernel_rfl) ?_ _
     clear c3 c6 f3 f6 hmn
     have hkl:({ z with s:=s',Ag:=min z.Ag gl }:Am).s.kept.lines = g.2:=by show s'.kept.lines = _;rw [hk'H.out]
     have hnn3:=hnnH.out
     have hidn:z.id < nn:=by have:=hPH.out.ok.id;have e:z.BN.id = z.id:=rfl;have e2:z.BN.n = z.n:=rfl;omega
     have hcnt:=count_any h9.out.1 (by rw [hkl];exact En.small hglsH.out (by omega)) (by rw [hkl];exact hglsH.out.n) (by rw [List.length_replicate];omega) (by rw [List.length_replicate];omega) (by rw [List.length_replicate];exact hidn) (fun x hx=>by rw [List.eq_of_mem_replicate hx];omega) (by show min z.Ag gl ≤ 256;omega)
     have hcntH:=hidden hcnt
     clear hcnt hkl
     go_wp2_with fail
     refine hcntH.out.mono ?_;rintro e w10 ⟨v10,o10,rfl,hs10,rfl,r,hr10,hln10⟩
     obtain ⟨hln9,st9,vl9,gvl,bb9,ob9,be9⟩:=h9.out
     have n4:¬ Only (M + 4) 0:=fun h=>by unfold Only at h;omega
     have n4X:¬ Only (M + 4) X:=fun h=>by have:=hXH.out.1;unfold Only at h;omega
     have vl10:=(hs10.block vl (lt_of_block vl9) (by rw [gvl];exact n4)).trans vl9
     have bb10:=(hs10.block bb (lt_of_block bb9) (by rw [ob9];exact n4X)).trans bb9
     have be10:=be9.step hs10 n4
     obtain ⟨-, -,⟨mb2,cap2,lb10, -⟩, -⟩:=id hln10
     have hot:=LH (hln10.node hr10) (by rw [show (({ z with s:=s',Ag:=min z.Ag gl }:Am).count mine (List.replicate nn (-1)) gl false).n = z.n from (Am.NV _ _ _ _ _).1,hnn3];exact hn3) 148 #[.pointer (some ⟨vl,0,none⟩), .pointer (some ⟨bb,0,none⟩)] (fun _=>⟨4,mine,0,0,0,g.2⟩) Tryz.call148 (fun w1 o1 hs i _ _=>YP i ((hs.block _ (lt_of_block vl10) (fun h=>h)).trans vl10) ((hs.block _ (lt_of_block lb10) (fun h=>h)).trans lb10) ((hs.block _ (lt_of_block bb10) (fun h=>h)).trans bb10) (be10.step hs (fun h=>h))) (fun i _ _=>Aj.KO hmine.1 hmine.2 hglsH.out)
     rw [Ov (a:=(({ z with s:=s',Ag:=min z.Ag gl }:Am).count mine (List.replicate nn (-1)) gl false).BN) (b:=z.BN) (Am.NV _ _ _ _ _).1 (Am.NV _ _ _ _ _).2] at hot
     have hotH:=hidden hot
     have h10:=hidden (And.intro (st9.trans (hs10.mono (fun k h=>by cases h;exact InN.own))) (hln10.node hr10))
     clear hln9 st9 vl9 gvl bb9 ob9 be9 n4 n4X vl10 bb10 be10 lb10 hot hs10 hr10 hln10 hcntH
     go_wp2_with fail
     refine hotH.out.mono ?_;rintro e w11 ⟨v11,o11,rfl,hs11,hou⟩
     have hF:=hidden (And.intro (h10.out.1.trans (hs11.mono (fun _ h=>h.elim))) (And.intro hou (h10.out.2.step0 hs11)))
     obtain ⟨xa,xc,rfl⟩:=hou.form
     clear hs11 hou hotH
     go_wp2_with fail
     go_ret
     refine ⟨_,o11,rfl,hF.out.1, ?_, ?_⟩
     ·rw [←hRH.out];exact hF.out.2.1
     ·obtain ⟨-, -, -, -, -, -, -, -, -, -, -, -,hgll, -⟩:=hG6.out
      rw [←hRH.out]
      have h:=hF.out.2.2
      rw [←hgll, ←hnn3] at h
      exact h
theorem Vl (a b:BitVec 64):(Fj a b).toNat = max a.toNat b.toNat:=by
 unfold Fj;split <;> omega
theorem YI {a:BitVec 64} {id n:Nat} (ha:a.toNat ≤ 281474976710656) (h1:1 ≤ n) (h3:n ≤ 3) (_hi:id < n):(PQ a id n).toNat = a.toNat + 1 + (id + n - (a.toNat + 1) % n) % n:=by
 unfold PQ
 rw [if_neg (by omega),BitVec.toNat_ofNat]
 have:=Nat.mod_lt (id + n - (a.toNat + 1) % n) (show 0 < n by omega)
 rw [Nat.mod_eq_of_lt (by omega)]
theorem Rn {w:World} {o:Own} {D M pz ps pd K B:Nat} {z:Am} (h:Bc w o D M pz ps pd z) (hp:Am.NP K B z) (hK:K + 606 < 65536) (hB:B ≤ 90000) :
  Calls Tryz.prog 46 #[.pointer (some ⟨pz,0,none⟩)] w (Ret (InN D M) w o fun v w' o'=>Dn w' o' v (Ed z.stand.2)∧Bc w' o' D M pz ps pd z.stand.1):=by
 have hn3:z.n ≤ 3:=hp.ok.n3
 have hn1:1 ≤ z.n:=hp.ok.n1
 have hid:z.id < z.n:=hp.ok.id
 have hpt:z.s.kept.promised.toNat ≤ 281474976710656:=hp.ok.pt
 have hse:z.seen.toNat ≤ 281474976710656:=hp.ok.se
 have hls:En B z.s.kept.lines:=hp.ok.ls
 have hsm:=En.small hls (by omega)
 have ha:=Vl z.s.kept.promised z.seen
 obtain ⟨a,hea⟩:∃ a,Fj z.s.kept.promised z.seen = a:=⟨_,rfl⟩
 rw [hea] at ha
 have hal:a.toNat ≤ 281474976710656:=by omega
 have hen:=YI hal hn1 hn3 hid
 obtain ⟨e,he⟩:∃ e,PQ a z.id z.n = e:=⟨_,rfl⟩
 rw [he] at hen
 have he1:1 ≤ e.toNat:=by omega
 have hstand:z.stand = if (z.s.promise e).2 = 0 then
   ((({ z with s:=(z.s.promise e).1,BB := .stands e ((List.replicate z.n none).set z.id (some (z.s.kept.current,z.s.kept.lines))),waited:=0 }:Am).lead e ((List.replicate z.n none).set z.id (some (z.s.kept.current,z.s.kept.lines)))).1,(z.BN.others fun _=>⟨1,e,0,0,0,[]⟩) ++ (({ z with s:=(z.s.promise e).1,BB := .stands e ((List.replicate z.n none).set z.id (some (z.s.kept.current,z.s.kept.lines))),waited:=0 }:Am).lead e ((List.replicate z.n none).set z.id (some (z.s.kept.current,z.s.kept.lines)))).2)
  else ({ z with s:=(z.s.promise e).1 },[]):=by
  unfold Am.stand
  simp only [hea,he]
  rw [if_neg (fun h=>by rw [h] at he1;exact absurd he1 (by decide))]
 obtain ⟨R,hR⟩:∃ R,z.stand = R:=⟨_,rfl⟩
 rw [hR]
 rw [hstand] at hR
 have hnx:=aG a.toNat z.id z.n hal hn1 hn3 hid
 rw [←hen] at hnx
 obtain ⟨hDM,rv,hb,hr,hs⟩:=h
 obtain ⟨⟨-, -,c2, -⟩, -⟩:=hb.cells
 have hkp:=hidden (DJ hs hsm)
 have hmx:max (z.s.kept.promised.toNat:Int) (z.seen.toNat:Int) = (a.toNat:Int):=by omega
 have hez:((e.toNat:Int) == 0) = false:=by
  have:¬ (e.toNat:Int) = 0:=by omega
  simpa using this
 have hH:=hidden (And.intro hDM (And.intro hb (And.intro hr hs)))
 have hfit:=GL hp.sp (by omega) hp.kok (Nat.le_trans hls.b hB) e
 have hfitH:=hidden hfit
 have hnxH:=hidden hnx
 have hP:=hidden (And.intro hp (And.intro hls (And.intro hsm he1)))
 have hRH:=hidden hR
 have hmxH:=hidden hmx
 have hI:=hidden (And.intro hn1 (And.intro hn3 hid))
 clear hDM hb hr hs hfit hnx hp hls hsm he1 hR hstand hen he hea ha hal hpt hse hn3 hn1 hid hmx
 go_enter Tryz.func46,Tryz.ntmps46
 go_wp2_with fail
 refine hkp.out.mono ?_;rintro ex w1 ⟨v1,o1,rfl,hs1,lv,rfl,hl,rfl⟩
 obtain ⟨la,lc,rfl⟩:=hl.form
 obtain ⟨L,hL⟩:∃ L,z.s.kept.lines.length = L:=⟨_,rfl⟩
 have kal:=AB (P:=Tryz.prog) w1 55 _ OZ
 have kst:=MX w1 z.s.kept.promised z.s.kept.current la L lc
 have k2:=(Step.refl Nobody w1 (ext w o)).alloc (.cells (BR z.s.kept.promised z.s.kept.current (.slice la L lc)).toArray 55) (0,0)
 have kb2:=heap_alloc_new w1 (.cells (BR z.s.kept.promised z.s.kept.current (.slice la L lc)).toArray 55)
 have ko2:=Au (ext w o) w1.heap.size (0,0)
 generalize Ak (ext w o) w1.heap.size (0,0) = o2 at *
 obtain ⟨W2,hW2⟩:∃ W2,w1.alloc (.cells (BR z.s.kept.promised z.s.kept.current (.slice la L lc)).toArray 55) = W2:=⟨_,rfl⟩
 rw [hW2] at kst k2 kb2
 obtain ⟨kb,hkb⟩:∃ b,w1.heap.size = b:=⟨_,rfl⟩
 rw [hkb] at kal kst kb2 ko2
 obtain ⟨V,hV⟩:∃ V,W2.drew = V:=⟨_,rfl⟩
 have kV:Step Nobody W2 o2 V o2:=by rw [←hV];exact (Step.refl Nobody W2 o2).drew
 have stV:=(hs1.trans k2).trans kV
 have kbV:=(kV.block _ (lt_of_block kb2) (fun h=>h)).trans kb2
 have hlV:=(hl.step (k2.trans kV) (fun h=>h)).low (Nat.zero_le _)
 rw [hL] at hlV
 have hSof:∀ W O,Step Nobody V o2 W O→W.cell? ⟨kb,0,none⟩ = some (.int .u64 (z.s.kept.promised.toNat:Int))∧W.cell? ⟨pz,5,none⟩ = some (.int .u64 (z.seen.toNat:Int))∧W.cell? ⟨pz,0,none⟩ = some (.int .i64 (z.id:Int))∧W.cell? ⟨pz,1,none⟩ = some (.int .i64 (z.n:Int)):=by
  intro W O hJ
  obtain ⟨⟨d0,d1, -, -, -,d5, -⟩, -⟩:=(hH.out.2.1.step (stV.trans hJ) (fun h=>h)).cells
  have dk:=cell_of_block ((hJ.block _ (lt_of_block kbV) (fun h=>h)).trans kbV) 0
  simp only [BR,List.getElem?_cons_zero] at dk
  exact ⟨dk,d5,d0,d1⟩
 have hSH:=hidden hSof
 have hS2:=hSof V o2 (Step.refl _ _ _)
 rw [←hV] at hS2
 have hKB:=hidden (And.intro stV (And.intro kbV (And.intro hlV (ko2))))
 have kalH:=hidden kal
 have kstH:=hidden kst
 rw [hL]
 clear hs1 hl kal kst k2 kb2 ko2 hW2 hkb kV stV kbV hlV hSof hkp c2
 go_wp2_with (first
  | ((with_reducible apply AU);exact kalH.out;simp only [Act.put,lsa,lsz,lss])
  | ((with_reducible apply AC);exact kstH.out;simp only [Act.put]))
 refine Jd (fun a0 a' w'=>∃ (eb:Nat) (oF:Own) (y1 y2 y3 y4 y5 y6 y7 y8 y9 y10 y11 y12 y13 y14 y15 y16:Value),a' = Act.puts a0 [12,13,14,15,16,17,18,19,20,21,22,23,24,25,26,27,4] [y1,y2,y3,y4,y5,y6,y7,y8,y9,y10,y11,y12,y13,y14,y15,y16, .pointer (some ⟨eb,0,none⟩)]∧V.heap.size ≤ eb∧w'.heap[eb]? = some (.cells [Value.int .u64 (e.toNat:Int)].toArray 34 (0,0))∧(oF eb).1 = 0∧Step Nobody V o2 w' oF) ?_ ?_
 ·refine Aa (fun w'=>w'.cell? ⟨kb,0,none⟩ = some (.int .u64 (z.s.kept.promised.toNat:Int))∧w'.cell? ⟨pz,5,none⟩ = some (.int .u64 (z.seen.toNat:Int))∧w'.cell? ⟨pz,0,none⟩ = some (.int .i64 (z.id:Int))∧w'.cell? ⟨pz,1,none⟩ = some (.int .i64 (z.n:Int))) (fun _=>true) (by kernel_rfl) hS2 (fun hHeld => ?_)
  rw [hV] at hHeld ⊢
  have hJ:Step Nobody V o2 V o2:=Step.refl _ _ _
  refine tq 0 ?_ (hQ:=by exact fun _ _ _ h=>nomatch h.1)
  refine tq 1 ?_ (hQ:=by exact fun _ _ _ h=>nomatch h.1)
  refine tq 2 ?_ (hQ:=by exact fun _ _ _ h=>nomatch h.1)
  refine tq 3 ?_ (hQ:=by exact fun _ _ _ h=>nomatch h.1)
  refine tq 4 ?_ (hQ:=by exact fun _ _ _ h=>nomatch h.1)
  refine tq 5 ?_ (hQ:=by exact fun _ _ _ h=>nomatch h.1)
  refine tv 6 (.int .u64 (a.toNat:Int)) (hy:=fun w hSw=>by (try dsimp only at hSw);go_simp;exact hmxH.out) (hQ:=by exact fun _ _ _ h=>nomatch h.1) (h := ?_)
  refine tq 7 ?_ (hQ:=by exact fun _ _ _ h=>nomatch h.1)
  refine tq 8 ?_ (hQ:=by exact fun _ _ _ h=>nomatch h.1)
  refine tq 9 ?_ (hQ:=by exact fun _ _ _ h=>nomatch h.1)
  refine tq 10 ?_ (hQ:=by exact fun _ _ _ h=>nomatch h.1)
  refine tq 11 ?_ (hQ:=by exact fun _ _ _ h=>nomatch h.1)
  refine tq 12 ?_ (hQ:=by exact fun _ _ _ h=>nomatch h.1)
  refine tq 13 ?_ (hQ:=by exact fun _ _ _ h=>nomatch h.1)
  refine tq 14 ?_ (hQ:=by exact fun _ _ _ h=>nomatch h.1)
  refine Gm (i:=15) (j:=16) rfl rfl (by kernel_rfl) ?_ ?_
  ·go_wp2_with fail
   refine (hnxH.out _).mono ?_;rintro e' w' ⟨rfl,rfl⟩
   go_wp2_with fail
   refine ⟨fun _=>hHeld, ?_⟩
   refine Ac (i:=16) rfl (by kernel_rfl) ?_
   obtain ⟨eb,hebe⟩:∃ b,V.heap.size = b:=⟨_,rfl⟩
   have hgeeb:V.heap.size ≤ eb:=by rw [←hebe];exact hJ.size
   have hs21:=(Step.refl Nobody V o2).alloc (.cells [Value.int .u64 0].toArray 34) (0,0)
   have heb:=heap_alloc_new V (.cells [Value.int .u64 0].toArray 34)
   have hov:=Au o2 V.heap.size (0,0)
   obtain ⟨v21,hw2⟩:∃ x,V.alloc (.cells [Value.int .u64 0].toArray 34) = x:=⟨_,rfl⟩
   obtain ⟨p21,ho2⟩:∃ x,Ak o2 V.heap.size (0,0) = x:=⟨_,rfl⟩
   rw [hw2,ho2] at hs21
   rw [ho2,hebe] at hov
   rw [hw2,hebe] at heb
   have hrun:(Instr.alloc 34 true (.tuple #[])).run Tryz.prog V = .ok (.pointer (some ⟨eb,0,none⟩)) v21:=by rw [←hw2, ←hebe];kernel_rfl
   have hrunH:=hidden hrun
   have hJ:=hJ.trans hs21
   have hS:=hSH.out _ _ hJ
   clear hrun hs21 hw2 ho2 hebe
   refine AU hrunH.out ?_
   refine wpList_nil ?_
   simp only [Act.put,lsa,lsz,lss]
   refine ⟨fun _=>hS, ?_⟩
   refine Ac (i:=17) rfl (by kernel_rfl) ?_
   have ceb:=cell_of_block heb 0
   have feb:=Ap heb 0
   simp only [List.getElem?_cons_zero] at ceb
   have hJ:=hJ.setCell (a:=⟨eb,0,none⟩) (.int .u64 (e.toNat:Int)) (.inr hgeeb)
   have heb:=Ai (i:=0) (.int .u64 (e.toNat:Int)) heb
   have hS:=hSH.out _ _ hJ
   go_wp2_with fail
   refine ⟨fun _=>hS, ?_⟩
   refine Ae (by kernel_rfl) ?_ _
   exact ⟨rfl,eb,p21, .pointer (some ⟨kb,0,none⟩), .int .u64 (z.s.kept.promised.toNat:Int), .pointer (some ⟨pz,0,none⟩), .pointer (some ⟨pz,0,none⟩), .pointer (some ⟨pz,5,none⟩), .int .u64 (z.seen.toNat:Int), .int .u64 (a.toNat:Int), .pointer (some ⟨pz,0,none⟩), .pointer (some ⟨pz,0,none⟩), .pointer (some ⟨pz,0,none⟩), .int .i64 (z.id:Int), .pointer (some ⟨pz,0,none⟩), .pointer (some ⟨pz,0,none⟩), .pointer (some ⟨pz,1,none⟩), .int .i64 (z.n:Int), .int .u64 (e.toNat:Int),by simp only [Act.puts,Act.put,lsa,lsz,lss],hgeeb,heb,by rw [hov],hJ⟩
  ·obtain ⟨eb,hebe⟩:∃ b,V.heap.size = b:=⟨_,rfl⟩
   have hgeeb:V.heap.size ≤ eb:=by rw [←hebe];exact hJ.size
   have hs21:=(Step.refl Nobody V o2).alloc (.cells [Value.int .u64 0].toArray 34) (0,0)
   have heb:=heap_alloc_new V (.cells [Value.int .u64 0].toArray 34)
   have hov:=Au o2 V.heap.size (0,0)
   obtain ⟨v21,hw2⟩:∃ x,V.alloc (.cells [Value.int .u64 0].toArray 34) = x:=⟨_,rfl⟩
   obtain ⟨p21,ho2⟩:∃ x,Ak o2 V.heap.size (0,0) = x:=⟨_,rfl⟩
   rw [hw2,ho2] at hs21
   rw [ho2,hebe] at hov
   rw [hw2,hebe] at heb
   have hrun:(Instr.alloc 34 true (.tuple #[])).run Tryz.prog V = .ok (.pointer (some ⟨eb,0,none⟩)) v21:=by rw [←hw2, ←hebe];kernel_rfl
   have hrunH:=hidden hrun
   have hJ:=hJ.trans hs21
   have hS:=hSH.out _ _ hJ
   clear hrun hs21 hw2 ho2 hebe
   refine AU hrunH.out ?_
   refine wpList_nil ?_
   simp only [Act.put,lsa,lsz,lss]
   refine ⟨fun _=>hS, ?_⟩
   refine Ac (i:=15) rfl (by kernel_rfl) ?_
   go_wp2_with fail
   refine (hnxH.out _).mono ?_;rintro e' w' ⟨rfl,rfl⟩
   go_wp2_with fail
   refine ⟨fun _=>hS, ?_⟩
   refine Ac (i:=17) rfl (by kernel_rfl) ?_
   have ceb:=cell_of_block heb 0
   have feb:=Ap heb 0
   simp only [List.getElem?_cons_zero] at ceb
   have hJ:=hJ.setCell (a:=⟨eb,0,none⟩) (.int .u64 (e.toNat:Int)) (.inr hgeeb)
   have heb:=Ai (i:=0) (.int .u64 (e.toNat:Int)) heb
   have hS:=hSH.out _ _ hJ
   go_wp2_with fail
   refine ⟨fun _=>hS, ?_⟩
   refine Ae (by kernel_rfl) ?_ _
   exact ⟨rfl,eb,p21, .pointer (some ⟨kb,0,none⟩), .int .u64 (z.s.kept.promised.toNat:Int), .pointer (some ⟨pz,0,none⟩), .pointer (some ⟨pz,0,none⟩), .pointer (some ⟨pz,5,none⟩), .int .u64 (z.seen.toNat:Int), .int .u64 (a.toNat:Int), .pointer (some ⟨pz,0,none⟩), .pointer (some ⟨pz,0,none⟩), .pointer (some ⟨pz,0,none⟩), .int .i64 (z.id:Int), .pointer (some ⟨pz,0,none⟩), .pointer (some ⟨pz,0,none⟩), .pointer (some ⟨pz,1,none⟩), .int .i64 (z.n:Int), .int .u64 (e.toNat:Int),by simp only [Act.puts,Act.put,lsa,lsz,lss],hgeeb,heb,by rw [hov],hJ⟩
 rintro a3 W3 ⟨eb,o3,y1,y2,y3,y4,y5,y6,y7,y8,y9,y10,y11,y12,y13,y14,y15,y16,rfl,hge,heb,hoe,hJ3⟩
 simp only [Act.puts,Act.put,lsa,lsz,lss]
 clear hS2 hV
 obtain ⟨stV,kbV,hlV,okV⟩:=hKB.out
 have st3:=stV.trans hJ3
 have kb3:=(hJ3.block _ (lt_of_block kbV) (fun h=>h)).trans kbV
 have ok3:(o3 kb).1 = 0:=by rw [hJ3.own kb (lt_of_block kbV),okV]
 have hl3:=hlV.step hJ3 (fun h=>h)
 have dr:Step Nobody W3 o3 W3.drew o3:=(Step.refl Nobody W3 o3).drew
 have st4:=st3.trans dr
 obtain ⟨⟨-, -,c2, -⟩, -⟩:=(hH.out.2.1.step st4 (fun h=>h)).cells
 have ce:=cell_of_block (w:=W3.drew) heb 0
 simp only [List.getElem?_cons_zero] at ce
 have hS3:=And.intro ce c2
 have hpr:=Jb hH.out.1 (hH.out.2.2.2.step0 st4) hP.out.1.sp hP.out.2.2.1 e
 have hG:=hidden (And.intro st4 (And.intro (show W3.drew.heap[kb]? = _ from kb3) (And.intro (hl3.step dr (fun h=>h)) (And.intro (show W3.drew.heap[eb]? = _ from heb) (And.intro hoe ok3)))))
 clear stV kbV hlV okV st3 kb3 ok3 hl3 dr st4 c2 ce heb hoe hJ3 hge hSH hKB
 obtain ⟨Q,hQ⟩:∃ Q,z.s.promise e = Q:=⟨_,rfl⟩
 simp only [hQ] at hpr hfitH hRH
 have hprH:=hidden hpr
 clear hpr
 rcases hfitH.out with ⟨hf1,hf2⟩ | ⟨hf0,s',hf2,hf3,hf4⟩
 ·subst hf2
  rw [if_neg (fun h=>by cases h)] at hRH
  clear hfitH
  go_wp2_with fail
  refine Aa (fun w'=>w'.cell? ⟨eb,0,none⟩ = some (.int .u64 (e.toNat:Int))∧w'.cell? ⟨pz,2,none⟩ = some (.pointer (some ⟨ps,0,none⟩))) (fun _=>true) (by kernel_rfl) hS3 (fun hHeld => ?_)
  refine tq 0 ?_
  refine tq 1 ?_
  refine tq 2 ?_
  refine tq 3 ?_
  refine tq 4 ?_
  refine tq 5 ?_
  refine tq 6 ?_
  refine tq 7 ?_
  refine Ac (i:=8) rfl (by kernel_rfl) ?_
  go_wp2_with fail
  refine hprH.out.mono ?_;rintro e' W6 ⟨v6,o6,rfl,hs6,rfl,hst6⟩
  obtain ⟨st4,kb4,hl4,eb4,oe4,ok4⟩:=hG.out
  obtain ⟨hDM,hb,hr,hs⟩:=hH.out
  have nZ:¬ In4 (M + 1) (M + 2) (M + 3) D (M + 4):=InN.WZ hDM.1 hDM.2
  have n0:¬ In4 (M + 1) (M + 2) (M + 3) D 0:=fun h=>by unfold In4 at h;have:=hDM.2;omega
  have hb6:=(hb.step st4 (fun h=>h)).step hs6 nZ
  have hr6:=(hr.step st4 (fun h=>h) (fun h=>h)).step hs6 nZ n0
  have kb6:=(hs6.block kb (lt_of_block kb4) (by rw [ok4];exact n0)).trans kb4
  have eb6:=(hs6.block eb (lt_of_block eb4) (by rw [oe4];exact n0)).trans eb4
  have oe6:(o6 eb).1 = 0:=by rw [hs6.own eb (lt_of_block eb4)];exact oe4
  have ok6:(o6 kb).1 = 0:=by rw [hs6.own kb (lt_of_block kb4)];exact ok4
  have hl6:=hl4.step hs6 n0
  have st6:=(st4.mono (fun _ h=>h.elim)).trans (hs6.mono InN.in4)
  obtain ⟨⟨-, -,c2, -⟩, -⟩:=hb6.cells
  have ce:=cell_of_block eb6 0
  simp only [List.getElem?_cons_zero] at ce
  have hS6:=And.intro ce c2
  have hG6:=hidden (And.intro st6 (And.intro hb6 (And.intro hr6 (And.intro kb6 (And.intro eb6 (And.intro oe6 (And.intro ok6 (And.intro hl6 (And.intro hst6 hDM)))))))))
  clear hs6 hst6 st4 kb4 hl4 eb4 oe4 ok4 hDM hb hr hs nZ n0 hb6 hr6 kb6 eb6 oe6 ok6 hl6 st6 c2 ce hHeld
  go_wp2_with fail
  refine ⟨fun _=>hS6, ?_⟩
  refine tq 9 ?_
  refine tq 10 ?_
  refine Ae (by kernel_rfl) ?_ _
  clear hS6
  go_wp2_with fail
  go_ret
  obtain ⟨st6,hb6,hr6, -, -, -, -, -,hst6,hDM⟩:=hG6.out
  refine ⟨_,o6,rfl,st6,by rw [←hRH.out];exact Dn.nil _ _, ?_⟩
  rw [←hRH.out]
  exact ⟨hDM,rv,hb6,hr6,hst6⟩
 ·subst hf2
  rw [if_pos rfl] at hRH
  clear hfitH
  go_wp2_with fail
  refine Aa (fun w'=>w'.cell? ⟨eb,0,none⟩ = some (.int .u64 (e.toNat:Int))∧w'.cell? ⟨pz,2,none⟩ = some (.pointer (some ⟨ps,0,none⟩))) (fun _=>true) (by kernel_rfl) hS3 (fun hHeld => ?_)
  refine tq 0 ?_
  refine tq 1 ?_
  refine tq 2 ?_
  refine tq 3 ?_
  refine tq 4 ?_
  refine tq 5 ?_
  refine tq 6 ?_
  refine tq 7 ?_
  refine Ac (i:=8) rfl (by kernel_rfl) ?_
  go_wp2_with fail
  refine hprH.out.mono ?_;rintro e' W6 ⟨v6,o6,rfl,hs6,rfl,hst6⟩
  obtain ⟨st4,kb4,hl4,eb4,oe4,ok4⟩:=hG.out
  obtain ⟨hDM,hb,hr,hs⟩:=hH.out
  have nZ:¬ In4 (M + 1) (M + 2) (M + 3) D (M + 4):=InN.WZ hDM.1 hDM.2
  have n0:¬ In4 (M + 1) (M + 2) (M + 3) D 0:=fun h=>by unfold In4 at h;have:=hDM.2;omega
  have hb6:=(hb.step st4 (fun h=>h)).step hs6 nZ
  have hr6:=(hr.step st4 (fun h=>h) (fun h=>h)).step hs6 nZ n0
  have kb6:=(hs6.block kb (lt_of_block kb4) (by rw [ok4];exact n0)).trans kb4
  have eb6:=(hs6.block eb (lt_of_block eb4) (by rw [oe4];exact n0)).trans eb4
  have oe6:(o6 eb).1 = 0:=by rw [hs6.own eb (lt_of_block eb4)];exact oe4
  have ok6:(o6 kb).1 = 0:=by rw [hs6.own kb (lt_of_block kb4)];exact ok4
  have hl6:=hl4.step hs6 n0
  have st6:=(st4.mono (fun _ h=>h.elim)).trans (hs6.mono InN.in4)
  obtain ⟨⟨-, -,c2, -⟩, -⟩:=hb6.cells
  have ce:=cell_of_block eb6 0
  simp only [List.getElem?_cons_zero] at ce
  have hS6:=And.intro ce c2
  have hG6:=hidden (And.intro st6 (And.intro hb6 (And.intro hr6 (And.intro kb6 (And.intro eb6 (And.intro oe6 (And.intro ok6 (And.intro hl6 (And.intro hst6 hDM)))))))))
  clear hs6 hst6 st4 kb4 hl4 eb4 oe4 ok4 hDM hb hr hs nZ n0 hb6 hr6 kb6 eb6 oe6 ok6 hl6 st6 c2 ce hHeld
  go_wp2_with fail
  refine ⟨fun _=>hS6, ?_⟩
  refine tq 9 ?_
  refine tq 10 ?_
  refine Ae (by kernel_rfl) ?_ _
  clear hS6
  go_wp2_with fail
  obtain ⟨st6,hb6,hr6,kb6,eb6,oe6,ok6,hl6,hst6,hDM⟩:=hG6.out
  obtain ⟨V5,hV5⟩:∃ V,W6.drew = V:=⟨_,rfl⟩
  have kD:Step Nobody W6 o6 V5 o6:=by rw [←hV5];exact (Step.refl Nobody W6 o6).drew
  have hSof:∀ W O,Step Nobody V5 o6 W O→W.cell? ⟨eb,0,none⟩ = some (.int .u64 (e.toNat:Int))∧W.cell? ⟨pz,0,none⟩ = some (.int .i64 (z.id:Int))∧W.cell? ⟨kb,1,none⟩ = some (.int .u64 (z.s.kept.current.toNat:Int))∧W.cell? ⟨kb,2,none⟩ = some (.slice la L lc):=by
   intro W O hJ
   have hJ:=kD.trans hJ
   obtain ⟨⟨d0, -⟩, -⟩:=(hb6.step hJ (fun h=>h)).cells
   have de:=cell_of_block ((hJ.block _ (lt_of_block eb6) (fun h=>h)).trans eb6) 0
   have dk:=cell_of_block ((hJ.block _ (lt_of_block kb6) (fun h=>h)).trans kb6)
   have dk1:=dk 1
   have dk2:=dk 2
   simp only [BR,List.getElem?_cons_zero,List.getElem?_cons_succ] at de dk1 dk2
   exact ⟨de,d0,dk1,dk2⟩
  have hSH:=hidden hSof
  have hS5:=hSof V5 o6 (Step.refl _ _ _)
  rw [←hV5] at hS5
  have hVz:w.heap.size ≤ V5.heap.size:=Nat.le_trans st6.size kD.size
  have hKD:=hidden (And.intro kD hVz)
  clear st6 hb6 hr6 kb6 eb6 oe6 ok6 hl6 hst6 hDM kD hSof hVz
  refine Jd (fun a0 a' w'=>∃ (mk sb:Nat) (oF:Own) (y1 y2 y3 y4 y5 y6 y7 y8 y9 y10 y11 y12 y13 y14:Value),a' = Act.puts a0 [39,40,41,42,43,44,45,46,47,48,49,50,51,52,5] [y1,y2,y3,y4,y5,y6,y7,y8,y9,y10,y11,y12,y13,y14, .pointer (some ⟨sb,0,none⟩)]∧V5.heap.size ≤ mk∧V5.heap.size ≤ sb∧mk ≠ sb∧w'.heap[mk]? = some (.map (Bd 0 [(z.id,z.s.kept.current,Value.slice la L lc)]).toArray 1)∧w'.heap[sb]? = some (.cells [Value.int .u64 (e.toNat:Int), .map (some mk)].toArray 156 (0,0))∧Step Nobody V5 o6 w' oF) ?_ ?_
  ·refine Aa (fun w'=>w'.cell? ⟨eb,0,none⟩ = some (.int .u64 (e.toNat:Int))∧w'.cell? ⟨pz,0,none⟩ = some (.int .i64 (z.id:Int))∧w'.cell? ⟨kb,1,none⟩ = some (.int .u64 (z.s.kept.current.toNat:Int))∧w'.cell? ⟨kb,2,none⟩ = some (.slice la L lc)) (fun _=>true) (by kernel_rfl) hS5 (fun hHeld => ?_)
   rw [hV5] at hHeld ⊢
   have hJ:Step Nobody V5 o6 V5 o6:=Step.refl _ _ _
   refine tq 0 ?_ (hQ:=by exact fun _ _ _ h=>nomatch h.1)
   refine tq 2 ?_ (hQ:=by exact fun _ _ _ h=>nomatch h.1)
   refine tq 3 ?_ (hQ:=by exact fun _ _ _ h=>nomatch h.1)
   refine tq 4 ?_ (hQ:=by exact fun _ _ _ h=>nomatch h.1)
   refine tq 5 ?_ (hQ:=by exact fun _ _ _ h=>nomatch h.1)
   refine tq 6 ?_ (hQ:=by exact fun _ _ _ h=>nomatch h.1)
   refine tq 7 ?_ (hQ:=by exact fun _ _ _ h=>nomatch h.1)
   refine tq 8 ?_ (hQ:=by exact fun _ _ _ h=>nomatch h.1)
   refine tq 9 ?_ (hQ:=by exact fun _ _ _ h=>nomatch h.1)
   refine tq 10 ?_ (hQ:=by exact fun _ _ _ h=>nomatch h.1)
   refine Ac (i:=1) rfl (by kernel_rfl) ?_
   obtain ⟨mk,hmke⟩:∃ b,V5.heap.size = b:=⟨_,rfl⟩
   have hgemk:V5.heap.size ≤ mk:=by rw [←hmke];exact hJ.size
   have hs21:=(Step.refl Nobody V5 o6).alloc (.map (Bd 0 []).toArray 0) (0,0)
   have hmkn:(V5.alloc (.map (Bd 0 []).toArray 0)).heap[V5.heap.size]? = some (.map (Bd 0 []).toArray 0):=heap_alloc_new V5 (.map (Bd 0 []).toArray 0)
   obtain ⟨v21,hw2⟩:∃ x,V5.alloc (.map (Bd 0 []).toArray 0) = x:=⟨_,rfl⟩
   obtain ⟨p21,ho2⟩:∃ x,Ak o6 V5.heap.size (0,0) = x:=⟨_,rfl⟩
   rw [hw2,ho2] at hs21
   rw [hw2,hmke] at hmkn
   have hrun:(Instr.makeMap 154 none).run Tryz.prog V5 = .ok (.map (some mk)) v21:=by rw [←hw2, ←hmke];exact QF V5
   have hrunH:=hidden hrun
   have hmk:=hmkn
   have hJ:=hJ.trans hs21
   have hS:=hSH.out _ _ hJ
   clear hrun hmkn hs21 hw2 ho2 hmke
   refine Iq hrunH.out ?_
   refine wpList_nil ?_
   simp only [Act.put,lsa,lsz,lss]
   refine ⟨fun _=>hS, ?_⟩
   refine Ac (i:=11) rfl (by kernel_rfl) ?_
   have hrun:=Md (es:=[]) hmk (k:=z.id) (fun x hx=>by simp at hx) z.s.kept.current (.slice la L lc)
   simp only [List.nil_append,List.length_singleton] at hrun
   have hmkl:=lt_of_block hmk
   have hJ:=hJ.DR mk (.map (Bd 0 [(z.id,z.s.kept.current,Value.slice la L lc)]).toArray 1) (.inr hgemk)
   have hmk:=Ot (w:=v21) (mb:=mk) (ob := .map (Bd 0 [(z.id,z.s.kept.current,Value.slice la L lc)]).toArray 1) hmkl
   obtain ⟨v22,hw2⟩:∃ x,(DR v21 mk (.map (Bd 0 [(z.id,z.s.kept.current,Value.slice la L lc)]).toArray 1)) = x:=⟨_,rfl⟩
   rw [hw2] at hrun hJ hmk
   have hrunH:=hidden hrun
   have hS:=hSH.out _ _ hJ
   clear hrun hw2 hmkl
   refine Ji hrunH.out ?_
   refine wpList_nil ?_
   simp only [Act.put]
   refine ⟨fun _=>hS, ?_⟩
   refine tq 12 ?_ (hQ:=by exact fun _ _ _ h=>nomatch h.1)
   refine tq 13 ?_ (hQ:=by exact fun _ _ _ h=>nomatch h.1)
   refine Ac (i:=14) rfl (by kernel_rfl) ?_
   obtain ⟨sb,hsbe⟩:∃ b,v22.heap.size = b:=⟨_,rfl⟩
   have hgesb:V5.heap.size ≤ sb:=by rw [←hsbe];exact hJ.size
   have hnemksb:mk ≠ sb:=by have:=lt_of_block hmk;rw [←hsbe];omega
   have hs23:=(Step.refl Nobody v22 p21).alloc (.cells [Value.int .u64 (e.toNat:Int), .map (some mk)].toArray 156) (0,0)
   have hsbn:(v22.alloc (.cells [Value.int .u64 (e.toNat:Int), .map (some mk)].toArray 156)).heap[v22.heap.size]? = some (.cells [Value.int .u64 (e.toNat:Int), .map (some mk)].toArray 156 (0,0)):=heap_alloc_new v22 (.cells [Value.int .u64 (e.toNat:Int), .map (some mk)].toArray 156)
   obtain ⟨v23,hw2⟩:∃ x,v22.alloc (.cells [Value.int .u64 (e.toNat:Int), .map (some mk)].toArray 156) = x:=⟨_,rfl⟩
   obtain ⟨p23,ho2⟩:∃ x,Ak p21 v22.heap.size (0,0) = x:=⟨_,rfl⟩
   rw [hw2,ho2] at hs23
   rw [hw2,hsbe] at hsbn
   have hrun:(Instr.box 156 (.agg #[Value.int .u64 (e.toNat:Int), .map (some mk)])).run Tryz.prog v22 = .ok (.pointer (some ⟨sb,0,none⟩)) v23:=by rw [←hw2, ←hsbe];kernel_rfl
   have hrunH:=hidden hrun
   have hmk:=(hs23.block _ (lt_of_block hmk) (fun h=>h)).trans hmk
   have hsb:=hsbn
   have hJ:=hJ.trans hs23
   have hS:=hSH.out _ _ hJ
   clear hrun hsbn hs23 hw2 ho2 hsbe
   refine BM hrunH.out ?_
   refine wpList_nil ?_
   simp only [Act.put,lsa,lsz,lss]
   refine ⟨fun _=>hS, ?_⟩
   refine tq 15 ?_ (hQ:=by exact fun _ _ _ h=>nomatch h.1)
   refine Ae (by kernel_rfl) ?_ _
   exact ⟨rfl,mk,sb,p23, .int .u64 (e.toNat:Int), .map (some mk), .pointer (some ⟨pz,0,none⟩), .pointer (some ⟨pz,0,none⟩), .pointer (some ⟨pz,0,none⟩), .int .i64 (z.id:Int), .pointer (some ⟨kb,1,none⟩), .int .u64 (z.s.kept.current.toNat:Int), .pointer (some ⟨kb,2,none⟩), .slice la L lc, .agg #[Value.int .u64 (z.s.kept.current.toNat:Int), .slice la L lc], .map (some mk), .agg #[Value.int .u64 (e.toNat:Int), .map (some mk)], .pointer (some ⟨sb,0,none⟩),by simp only [Act.puts,Act.put,lsa,lsz,lss],hgemk,hgesb,hnemksb,hmk,hsb,hJ⟩
  rintro a7 W7 ⟨mk,sb,o7,y1,y2,y3,y4,y5,y6,y7,y8,y9,y10,y11,y12,y13,y14,rfl,hgm,hgs,hne,hmk,hsb,hJ7⟩
  simp only [Act.puts,Act.put,lsa,lsz,lss]
  clear hS5 hV5 hSH
  obtain ⟨oG,hoG⟩:∃ oG:Own,oG = fun k=>if k = sb then (M + 4,1) else if k = mk then (M + 4,2) else o7 k:=⟨_,rfl⟩
  have hJ:Step Nobody V5 o6 W7 oG:=hJ7.Me oG (fun k hk=>by rw [hoG];show (if k = sb then _ else if k = mk then _ else _) = _;rw [if_neg (by omega),if_neg (by omega)];exact hJ7.own k hk)
  have gsb:oG sb = (M + 4,1):=by rw [hoG];exact if_pos rfl
  have gmk:oG mk = (M + 4,2):=by rw [hoG];show (if mk = sb then _ else if mk = mk then _ else _) = _;rw [if_neg hne,if_pos rfl]
  obtain ⟨st6,hb6,hr6,kb6,eb6,oe6,ok6,hl6,hst6,hDM⟩:=hG6.out
  obtain ⟨kD,hVz⟩:=hKD.out
  have k7:=kD.trans hJ
  have hb7:=hb6.step k7 (fun h=>h)
  have eb7:=(k7.block eb (lt_of_block eb6) (fun h=>h)).trans eb6
  have oe7:(oG eb).1 = 0:=by rw [k7.own eb (lt_of_block eb6)];exact oe6
  have hl7:=hl6.step k7 (fun h=>h)
  have hst7:=hst6.step0 k7
  have st7:=st6.trans (k7.mono (fun _ h=>h.elim))
  have hpz:pz < V5.heap.size:=Nat.lt_of_lt_of_le (lt_of_block hb6.1) kD.size
  have nsb:sb ≠ pz:=by omega
  have nmk:mk ≠ pz:=by omega
  have neb:eb ≠ pz:=fun h=>by rw [h,hb7.2] at oe7;exact absurd oe7 (by simp)
  have b8a:=Ai (i:=3) (.iface 151 (.pointer (some ⟨sb,0,none⟩))) hb7.1
  have b8:=Ai (i:=4) (.int .i64 0) b8a
  have sb8:=(Below.heap_setCell (W7.setCell ⟨pz,3,none⟩ (.iface 151 (.pointer (some ⟨sb,0,none⟩)))) ⟨pz,4,none⟩ (.int .i64 0) sb nsb).trans ((Below.heap_setCell W7 ⟨pz,3,none⟩ (.iface 151 (.pointer (some ⟨sb,0,none⟩))) sb nsb).trans hsb)
  have mk8:=(Below.heap_setCell (W7.setCell ⟨pz,3,none⟩ (.iface 151 (.pointer (some ⟨sb,0,none⟩)))) ⟨pz,4,none⟩ (.int .i64 0) mk nmk).trans ((Below.heap_setCell W7 ⟨pz,3,none⟩ (.iface 151 (.pointer (some ⟨sb,0,none⟩))) mk nmk).trans hmk)
  have eb8:=(Below.heap_setCell (W7.setCell ⟨pz,3,none⟩ (.iface 151 (.pointer (some ⟨sb,0,none⟩)))) ⟨pz,4,none⟩ (.int .i64 0) eb neb).trans ((Below.heap_setCell W7 ⟨pz,3,none⟩ (.iface 151 (.pointer (some ⟨sb,0,none⟩))) eb neb).trans eb7)
  have k8:=((Step.refl (Only (M + 4)) W7 oG).setCell (a:=⟨pz,3,none⟩) (.iface 151 (.pointer (some ⟨sb,0,none⟩))) (.inl (by show (oG pz).1 = _;rw [hb7.2]))).setCell (a:=⟨pz,4,none⟩) (.int .i64 0) (.inl (by show (oG pz).1 = _;rw [hb7.2]))
  have n4:¬ Only (M + 4) 0:=fun h=>by unfold Only at h;omega
  have hl8:=hl7.step k8 n4
  have hls8:Lines _ oG 0 (.slice la L lc) z.s.kept.lines:=hl8
  have hsn:Qx _ oG D M pz ps pd sb ({ z with s:=s',BB := .stands e ((List.replicate z.n none).set z.id (some (z.s.kept.current,z.s.kept.lines))),waited:=0 }:Am) e ((List.replicate z.n none).set z.id (some (z.s.kept.current,z.s.kept.lines))):=
   ⟨hDM,⟨b8,hb7.2⟩,⟨mk,sb8,gsb,dZ mk8 gmk hI.out.2.2 hls8⟩,hst7.step k8 (InN.self hDM.1)⟩
  have st8:=st7.trans (k8.mono (fun k h=>by cases h;exact InN.own))
  obtain ⟨⟨-, -, -,c3,c4, -⟩,hfr, -⟩:=hb7.cells
  have f3:=hfr 3
  have f4:=hfr 4
  have hnp:=Am.NP.stands hP.out.1 hf3 hf0 hf4 hP.out.2.2.2 0
  have hot:=LH (hsn.node rfl) hI.out.2.1 89 #[.pointer (some ⟨eb,0,none⟩)] (fun _=>⟨1,e,0,0,0,[]⟩) Tryz.call89 (fun w1 o1 hs i _ _=>WI i ((hs.block _ (lt_of_block eb8) (fun h=>h)).trans eb8)) (fun i _ _=>Aj.Rz hP.out.2.2.2 (Jf hf0).2)
  rw [Ov (a:=({ z with s:=s',BB := .stands e ((List.replicate z.n none).set z.id (some (z.s.kept.current,z.s.kept.lines))),waited:=0 }:Am).BN) (b:=z.BN) rfl rfl] at hot
  have hotH:=hidden hot
  have h8:=hidden (And.intro st8 hsn)
  have hnpH:=hidden hnp
  have hal:=Am.Xg (z:=({ z with s:=s',BB := .stands e ((List.replicate z.n none).set z.id (some (z.s.kept.current,z.s.kept.lines))),waited:=0 }:Am)) (e:=e) (x:=(z.s.kept.current,z.s.kept.lines)) hI.out.2.2
  have halH:=hidden hal
  clear st6 hb6 hr6 kb6 eb6 oe6 ok6 hl6 hst6 hDM kD hVz k7 hb7 eb7 oe7 hl7 hst7 st7 hpz nsb nmk neb b8a b8 sb8 mk8 eb8 k8 n4 hl8 hls8 hsn st8 hfr hnp hot hal hJ hJ7 hoG gsb gmk hmk hsb hne hgm hgs
  go_wp2_with fail
  refine hotH.out.mono ?_;rintro e' w9 ⟨v9,o9,rfl,hs9,hou⟩
  obtain ⟨st8,hsn⟩:=h8.out
  have hsn9:Qx w9 o9 D M pz ps pd sb _ e _:=⟨hsn.1,hsn.2.1.step hs9 (fun h=>h),hsn.2.2.1.step hs9 (fun h=>h) (fun h=>h),hsn.2.2.2.step0 hs9⟩
  have hle:=hidden (lead_any hsn9 rfl hnpH.out (by omega) hB)
  have h9:=hidden (And.intro (st8.trans (hs9.mono (fun _ h=>h.elim))) hou)
  obtain ⟨xa,xc,rfl⟩:=hou.form
  clear hs9 hou hotH hsn hsn9 st8 c3 c4 f3 f4
  go_wp2_with fail
  refine hle.out.mono ?_;rintro e' w10 ⟨v10,o10,rfl,hs10,ho10,hn10⟩
  rw [halH.out] at ho10
  obtain ⟨ya,yc,rfl⟩:=ho10.form
  have n0:¬ InN D M 0:=InN.zero hH.out.1.2
  have hou10:=h9.out.2.step hs10 n0
  have hap:=OJ hou10 (by
   have hlt:(z.BN.others fun _=>(⟨1,e,0,0,0,[]⟩:BG)).length ≤ z.n:=by
    unfold Aj.others
    rw [List.length_map]
    exact Nat.le_trans (List.length_filter_le _ _) (by rw [List.length_range];exact Nat.le_refl _)
   have:=hI.out.2.1
   unfold Ed;rw [List.length_map];omega) (a':=ya) (c':=yc)
  have hapH:=hidden hap
  have h10:=hidden (And.intro (h9.out.1.trans hs10) (And.intro hou10 hn10))
  clear hs10 ho10 hn10 hou10 hap hle
  go_wp2_with ((with_reducible apply Bl);exact hapH.out;simp only [Act.put,lsa,lsz,lss])
  go_ret
  refine ⟨_,o10,rfl,h10.out.1, ?_, ?_⟩
  ·rw [←hRH.out]
   show Dn _ _ _ (Ed (_ ++ _))
   rw [halH.out,List.append_nil]
   exact h10.out.2.1
  ·rw [←hRH.out];exact h10.out.2.2
theorem Oz {w:World} {o:Own} {base:Nat} {lv:Value} {ls:List Ar} (h:Lines w o base lv ls) (n:Nat) (hn:n ≤ ls.length) :
  ∃ v,(∀ W,(Instr.sliceAt 32 lv (some (.int .i64 (n:Int))) none none).run Tryz.prog W = .ok v W)∧Lines w o base v (ls.drop n):=by
 have hu:Tryz.prog.underlying 32 = some (.slice (Tryz.prog.elem 32)):=by kernel_rfl
 have hlt:(ls.drop n).length = ls.length - n:=by rw [List.length_drop]
 obtain ⟨cs,h1,h2,h3,h4⟩:=h
 rcases h1 with ⟨⟨a,c,rfl⟩,h0,hcs⟩ | ⟨b,off,cap,rfl,hl,hm,ho,hb,hr⟩
 ·have hn0:n = 0:=by omega
  subst hn0
  refine ⟨_,fun W=>by rw [run_sliceAt_slice _ _ _ _ _ _ hu,run_slice_l W 32 a 0 c hu .i64 ((0:Nat):Int) (by omega) (by omega),Po W];rfl,[], .inl ⟨⟨_,_,rfl⟩,by simp [h0],rfl⟩,by rw [List.drop_zero,List.eq_nil_of_length_eq_zero h0];exact LnC.nil w o, ?_,by simp⟩
  intro k hk
  cases a with
  | none=>simp [Value.ownBlock] at hk
  | some x=>exact h3 k (by revert hk;simp [Value.ownBlock,Addr.add])
 ·refine ⟨_,fun W=>by rw [run_sliceAt_slice _ _ _ _ _ _ hu,run_slice_l W 32 _ ls.length cap hu .i64 n (by omega) (by omega),Po W];rfl,cs.drop (n * 2), ?_,h2.drop n, ?_,fun u hu=>h4 u (List.mem_of_mem_drop hu)⟩
  ·simp only [sliced,Int.toNat_natCast,Option.map_some,addr_add]
   by_cases hne:n = ls.length
   ·refine .inl ⟨⟨_,cap - n,by rw [hne,Nat.sub_self]⟩,by rw [hlt];omega, ?_⟩
    apply List.eq_nil_of_length_eq_zero
    rw [List.length_drop,h2.1];omega
   ·rw [if_neg (by omega)]
    refine .inr ⟨b,off + n * 2,cap - n,by rw [hlt],by rw [hlt];omega,by omega,ho,hb, ?_⟩
    have:=ER hr (n * 2) (cs.length - n * 2)
    rw [List.take_of_length_le (by rw [List.length_drop];exact Nat.le_refl _)] at this
    exact this
  ·intro k hk
   have hb3:=h3 b (by simp [Value.ownBlock])
   revert hk
   simp only [sliced,Int.toNat_natCast,Option.map_some,addr_add]
   split <;> (simp only [Value.ownBlock,Option.some.injEq];rintro rfl;exact hb3)
def Ph (mine:BitVec 64) (mat:List Int) (Ag:Nat) (ls:List Ar) (i:Nat):BG:=
 if mat.getD i 0 < 0 then ⟨4,mine,0,0,0,ls⟩ else ⟨5,mine,0,(mat.getD i 0).toNat,Ag,ls.drop (mat.getD i 0).toNat⟩
theorem Ye {w:World} {o:Own} {D M pz ps pd p vl lnb zb:Nat} {z:Am} {mine:BitVec 64} {mat:List Int} {base:Nat} {ready:Bool} (h:GV w o D M pz ps pd p z mine mat base ready) {lv:Value} {ls:List Ar}
  (hv:w.heap[vl]? = some (.cells [Value.pointer (some ⟨p,0,none⟩)].toArray 87 (0,0))) (hln:w.heap[lnb]? = some (.cells [lv].toArray 32 (0,0))) (hL:Lines w o 0 lv ls)
  (hzb:w.heap[zb]? = some (.cells [Value.pointer (some ⟨pz,0,none⟩)].toArray 30 (0,0))) (i:Nat) (hi:i < mat.length) (h3:mat.length ≤ 3) (hm:∀ x ∈ mat, -1 ≤ x∧x ≤ (ls.length:Int)) (hls:ls.length ≤ 256) (hco:z.Ag ≤ 256) :
  Calls Tryz.prog 45 #[.int .i64 (i:Int), .pointer (some ⟨vl,0,none⟩), .pointer (some ⟨lnb,0,none⟩), .pointer (some ⟨zb,0,none⟩)] w (Ret Nobody w o fun v w' o'=>∃ lv',v = Ea (Ph mine mat z.Ag ls i) lv'∧Lines w' o' 0 lv' (Ph mine mat z.Ag ls i).ls):=by
 obtain ⟨hDM,hb,⟨b,cap,hp,hpo,hr,hro,hcl,hcm⟩,hs⟩:=h
 obtain ⟨x,hx⟩:∃ x,mat.getD i 0 = x:=⟨_,rfl⟩
 have hxm:x ∈ mat:=by rw [←hx,List.getD_eq_getElem?_getD,List.getElem?_eq_getElem hi];exact List.getElem_mem hi
 obtain ⟨hx1,hx2⟩:=hm x hxm
 have htm:Ph mine mat z.Ag ls i = if x < 0 then ⟨4,mine,0,0,0,ls⟩ else ⟨5,mine,0,x.toNat,z.Ag,ls.drop x.toNat⟩:=by unfold Ph;rw [hx]
 obtain ⟨n,hn⟩:∃ n,mat.length = n:=⟨_,rfl⟩
 rw [hn] at hp hi h3
 have hiI:(0:Int) ≤ (i:Int)∧(i:Int) < (n:Int)∧(n:Int) ≤ 3:=by omega
 have al:=hidden (AB (P:=Tryz.prog) w 46 _ Oa)
 have st1:=(Step.refl Nobody w o).alloc (.cells DI.toArray 46) (0,0)
 have dr:=st1.drew
 have cells:∀ W O,Step Nobody w o W O→W.cell? ⟨vl,0,none⟩ = some (.pointer (some ⟨p,0,none⟩))∧W.cell? ⟨lnb,0,none⟩ = some lv∧W.cell? ⟨zb,0,none⟩ = some (.pointer (some ⟨pz,0,none⟩))∧W.cell? ⟨p,0,none⟩ = some (.int .u64 (mine.toNat:Int))∧W.cell? ⟨p,1,none⟩ = some (.slice (some ⟨b,0,none⟩) n cap)∧W.cell? ⟨b,i,none⟩ = some (.int .i64 x)∧W.cell? ⟨pz,6,none⟩ = some (.int .i64 (z.Ag:Int)):=by
  intro W O hJ
  have q1:=cell_of_block ((hJ.block _ (lt_of_block hv) (fun h=>h)).trans hv) 0
  have q2:=cell_of_block ((hJ.block _ (lt_of_block hln) (fun h=>h)).trans hln) 0
  have q3:=cell_of_block ((hJ.block _ (lt_of_block hzb) (fun h=>h)).trans hzb) 0
  have q4:=cell_of_block ((hJ.block _ (lt_of_block hp) (fun h=>h)).trans hp)
  have q40:=q4 0
  have q41:=q4 1
  have q5:=cell_of_block ((hJ.block _ (lt_of_block hr) (fun h=>h)).trans hr) i
  obtain ⟨⟨-, -, -, -, -, -,c6⟩, -⟩:=(hb.step hJ (fun h=>h)).cells
  simp only [List.getElem?_cons_zero,List.getElem?_cons_succ] at q1 q2 q3 q40 q41
  refine ⟨q1,q2,q3,q40,q41, ?_,c6⟩
  rw [q5]
  have hil:i < mat.length:=by rw [hn];exact hi
  rw [List.getD_eq_getElem?_getD,List.getElem?_eq_getElem hil] at hx
  simp only [Option.getD_some] at hx
  simp [ivs,List.getElem?_eq_getElem hil,hx]
 obtain ⟨a1,a2,a3,a4,a5,a6,a7⟩:=cells _ _ st1
 obtain ⟨d1,d2,d3,d4,d5,d6,d7⟩:=cells _ _ dr
 have hcoI:(0:Int) ≤ (z.Ag:Int)∧(z.Ag:Int) ≤ 256:=by omega
 rw [htm]
 have hLH:=hidden hL
 unfold DI at a1 a2 a3 a4 a5 a6 a7 d1 d2 d3 d4 d5 d6 d7
 by_cases hneg:x < 0
 ·rw [if_pos hneg]
  obtain ⟨la,lc,rfl⟩:=hL.form
  have mn:=KN w.drew ⟨4,mine,0,0,0,ls⟩ la ls.length lc
  unfold DI at mn
  have hbm:=heap_alloc_new w (.cells (Bf ⟨4,mine,0,0,0,ls⟩ (.slice la ls.length lc)).toArray 46)
  have stF:=((Step.refl Nobody w o).drew).alloc (.cells (Bf ⟨4,mine,0,0,0,ls⟩ (.slice la ls.length lc)).toArray 46) (0,0)
  have hF:=hidden (And.intro stF (hL.step stF (fun h=>h)))
  have mnH:=hidden mn
  have hbmH:=hidden hbm
  have hS:=And.intro d1 (And.intro d2 d4)
  clear hDM hb hp hpo hr hro hcl hcm hs hx hxm htm hn hv hln hzb hm cells d1 d2 d3 d4 d5 d6 d7 hL stF hbm mn st1 dr
  unfold Ea
  go_enter Tryz.func45,Tryz.ntmps45
  go_wp2_with ((with_reducible apply AU);exact al.out;simp only [Act.put,lsa,lsz,lss])
  refine Aa (fun w'=>w'.cell? ⟨vl,0,none⟩ = some (.pointer (some ⟨p,0,none⟩))∧w'.cell? ⟨lnb,0,none⟩ = some (.slice la ls.length lc)∧w'.cell? ⟨p,0,none⟩ = some (.int .u64 (mine.toNat:Int))) (fun i=>decide (i < 6)) (by kernel_rfl) hS (fun hHeld => ?_)
  refine tq 0 ?_
  refine tq 1 ?_
  refine tq 2 ?_
  refine tq 3 ?_
  refine tq 4 ?_
  refine tq 5 ?_
  refine Ac (i:=6) rfl (by kernel_rfl) ?_
  refine AC mnH.out ?_
  go_wp2_with fail
  refine ⟨fun h=>by simp at h, ?_⟩
  refine Ae (by kernel_rfl) ?_ _
  go_wp2_with fail
  refine bodyPost_ret (results_cell_row rfl _ _ w.heap.size 46 _ (0,0) _ rfl hbmH.out Tryz.underlying46 rfl FT) rfl ?_
  exact ⟨_,_,rfl,hF.out.1,_,rfl,hF.out.2⟩
 ·rw [if_neg hneg]
  obtain ⟨xn,rfl⟩:∃ xn:Nat,x = (xn:Int):=⟨x.toNat,by omega⟩
  have hxl:xn ≤ ls.length:=by omega
  have hxI:(0:Int) ≤ (xn:Int)∧(xn:Int) ≤ 256:=by omega
  obtain ⟨sv,hrun,hSL⟩:=Oz hL xn hxl
  rw [Int.toNat_natCast]
  obtain ⟨la,lc,rfl⟩:=hL.form
  obtain ⟨sa,sc,hsv⟩:=hSL.form
  obtain ⟨dl,hdl⟩:∃ n,(ls.drop xn).length = n:=⟨_,rfl⟩
  rw [hdl] at hsv
  subst hsv
  obtain ⟨lr,hlr⟩:∃ l,ls.drop xn = l:=⟨_,rfl⟩
  rw [hlr] at hSL ⊢
  have mn:(Instr.storeAt 46 (.pointer (some ⟨w.heap.size,0,none⟩)) (.agg #[Value.int .u8 5, .int .u64 (mine.toNat:Int), .int .u64 0, .int .i64 (xn:Int), .int .i64 (z.Ag:Int), .slice sa dl sc])).run Tryz.prog (w.alloc (.cells DI.toArray 46)).drew = .ok () (w.drew.alloc (.cells (Bf ⟨5,mine,0,xn,z.Ag,lr⟩ (.slice sa dl sc)).toArray 46)):=
   KN w.drew ⟨5,mine,0,xn,z.Ag,lr⟩ sa dl sc
  unfold DI at mn
  have hbm:=heap_alloc_new w (.cells (Bf ⟨5,mine,0,xn,z.Ag,lr⟩ (.slice sa dl sc)).toArray 46)
  have stF:=((Step.refl Nobody w o).drew).alloc (.cells (Bf ⟨5,mine,0,xn,z.Ag,lr⟩ (.slice sa dl sc)).toArray 46) (0,0)
  have hF:=hidden (And.intro stF (hSL.step stF (fun h=>h)))
  have mnH:=hidden mn
  have hbmH:=hidden hbm
  have hrunH:=hidden hrun
  have hnegI:¬ (xn:Int) < 0:=by omega
  have hS:=And.intro d1 (And.intro d2 (And.intro d3 (And.intro d4 (And.intro d5 (And.intro d6 d7)))))
  clear hDM hb hp hpo hr hro hcl hcm hs hx hxm htm hn hv hln hzb hm cells d1 d2 d3 d4 d5 d6 d7 hL stF hbm mn st1 dr hSL hrun hlr hdl
  unfold Ea
  go_enter Tryz.func45,Tryz.ntmps45
  go_wp2_with ((with_reducible apply AU);exact al.out;simp only [Act.put,lsa,lsz,lss])
  refine Aa (fun w'=>w'.cell? ⟨vl,0,none⟩ = some (.pointer (some ⟨p,0,none⟩))∧w'.cell? ⟨lnb,0,none⟩ = some (.slice la ls.length lc)∧w'.cell? ⟨zb,0,none⟩ = some (.pointer (some ⟨pz,0,none⟩))∧w'.cell? ⟨p,0,none⟩ = some (.int .u64 (mine.toNat:Int))∧w'.cell? ⟨p,1,none⟩ = some (.slice (some ⟨b,0,none⟩) n cap)∧w'.cell? ⟨b,i,none⟩ = some (.int .i64 (xn:Int))∧w'.cell? ⟨pz,6,none⟩ = some (.int .i64 (z.Ag:Int))) (fun i=>decide (i < 25)) (by kernel_rfl) hS (fun hHeld => ?_)
  refine tq 0 ?_
  refine tq 1 ?_
  refine tq 2 ?_
  refine tq 3 ?_
  refine tq 4 ?_
  refine tq 5 ?_
  refine tq 6 ?_
  refine tq 7 ?_
  refine tq 8 ?_
  refine tq 9 ?_
  refine tq 10 ?_
  refine tq 11 ?_
  refine tq 12 ?_
  refine tq 13 ?_
  refine tq 14 ?_
  refine tq 15 ?_
  refine tq 16 ?_
  refine tq 17 ?_
  refine tq 18 ?_
  refine tq 19 ?_
  refine tq 20 ?_
  refine tq 21 ?_
  refine tq 22 ?_
  refine Ac (i:=23) rfl (by kernel_rfl) ?_
  refine FM (hrunH.out _) ?_
  simp only [Act.put,lsa,lsz,lss]
  go_wp2_with fail
  refine ⟨fun _=>hHeld, ?_⟩
  refine tq 24 ?_
  refine Ac (i:=25) rfl (by kernel_rfl) ?_
  refine AC mnH.out ?_
  go_wp2_with fail
  refine ⟨fun h=>by simp at h, ?_⟩
  refine Ae (by kernel_rfl) ?_ _
  go_wp2_with fail
  refine bodyPost_ret (results_cell_row rfl _ _ w.heap.size 46 _ (0,0) _ rfl hbmH.out Tryz.underlying46 rfl FT) rfl ?_
  exact ⟨_,_,rfl,hF.out.1,_,rfl,hF.out.2⟩

end Go.Proofs.YthmpmgknnibljaaGreat
