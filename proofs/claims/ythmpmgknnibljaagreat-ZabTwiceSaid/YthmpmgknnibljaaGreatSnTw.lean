/- The statement ZabTwice: the walk. -/
import Derived.Carry
import Derived.Test.YthmpmgknnibljaaGreatSn12
import Derived.Test.YthmpmgknnibljaaGreatSn13
namespace Go.Proofs.YthmpmgknnibljaaGreat
set_option maxRecDepth 100000
set_option maxHeartbeats 12800000
open Go Go.RowKit
attribute [local go_sem ↓] Go.wp_at_zero Go.wp_at_succ
theorem Pq (l:List Eo) (k:Nat):DU (l.take k) ≤ DU l:=by
 have h:=IA (l.take k) (l.drop k)
 rw [List.take_append_drop] at h;omega
theorem UA {l:List Eo} {k:Nat} {x:Eo} (hx:l[k]? = some x):DU (l.take (k + 1)) = DU (l.take k) + (AP x.m.ls + x.b.length):=by
 rw [List.take_add_one,hx,IA];simp [DU,Eo.size]
theorem Qz {w:World} {o:Own} (id n:Nat) (hid:id < 256) (hn:n < 256) {v:Value} {l:List Eo} (h:Ii w o v l) :
  Calls Tryz.prog 4 #[.int .u8 (id:Int), .int .u8 (n:Int),v] w (Ret Nobody w o fun v _ _=>v = .bool true):=by
 obtain ⟨M, -,hM⟩:=EZ o 0 w.heap.size
 obtain ⟨D,hD⟩:∃ D,D = M + 1:=⟨_,rfl⟩
 have hMD:M < D:=by omega
 have hD0:D ≠ 0:=by omega
 obtain ⟨aa,ac,rfl⟩:=h.form
 obtain ⟨N,hN⟩:∃ N,l.length = N:=⟨_,rfl⟩
 have hc:=OA h
 obtain ⟨sz,hsz⟩:∃ s,1 + n % 3 = s:=⟨_,rfl⟩
 obtain ⟨ix,hix⟩:∃ i,id % sz = i:=⟨_,rfl⟩
 have hs3:1 ≤ sz∧sz ≤ 3:=by omega
 have hi3:ix < sz:=by rw [←hix];exact Nat.mod_lt _ (by omega)
 have m1:1 + (n:Int) % 3 = (sz:Int):=by omega
 have m2:(id:Int) % (sz:Int) = (ix:Int):=by rw [←hix];rfl
 have hszI:(1:Int) ≤ (sz:Int)∧(sz:Int) ≤ 3:=by omega
 rw [hN] at hc h ⊢
 go_enter Tryz.func4,Tryz.ntmps4
 go_wp2_with fail
 refine hc.mono ?_;rintro ex W1 ⟨v,o1,rfl,hs,r,rfl,hr⟩
 cases r
 ·have hst:=hs.LW (M:=M)
  have hr:=hr rfl
  have hAc:=hidden h
  have hc:=IJ ix sz W1 o1 D hD0 hs3.1 hs3.2 hi3
  have hFew:=hidden hr
  clear hs h hr hsz hix
  go_wp2_with fail
  refine hc.mono ?_;rintro ex W2 ⟨v,o2,rfl,hs,pd,ps,pz,rfl,hg⟩
  have hst:=hst.trans (hs.mono (FP hMD))
  have hg0:=hidden (And.intro hg hst)
  clear hg hst hs hc
  go_wp2_with fail
  go_loopw [12] (fun i wr=>∃ (k:Nat) (oj:Own) (y:Aj),k ≤ N∧i = .int .i64 k∧GN wr oj D D pz ps pd (6 * k) (2 * DU (l.take k)) y∧y.waited ≤ k∧Step (EN M) w o wr oj) (fun i _=>N - (intOf i).toNat)
  case atStart=>exact ⟨0,o2,_,Nat.zero_le _,rfl,by simpa [DU] using hg0.out.1,Nat.le_refl _,hg0.out.2⟩
  case round =>
   clear hg0
   obtain ⟨k,oj,y,hk,rfl,hg,hw,hst⟩:=hrel
   by_cases hlt:k < N
   ·have hltI:(0:Int) ≤ (k:Int)∧(k:Int) < (N:Int):=by omega
    obtain ⟨x,hx⟩:∃ x,l[k]? = some x:=⟨_,List.getElem?_eq_getElem (by rw [hN];exact hlt)⟩
    obtain ⟨ab,aoff,lv,bw,rfl,hrg,hln, -,hwf,hab,hoa⟩:=(hAc.out.step hst (by show ¬ M < 0;omega)).at hx
    obtain ⟨hfn,hfa,hfs⟩:=hFew.out
    obtain ⟨q1,q2,q3⟩:=hfa x (List.mem_of_getElem? hx)
    have hz1:=UA hx
    have hz2:=Pq l (k + 1)
    have cK:wr.cell? ⟨ab,aoff + k * 9,none⟩ = some (.int .u8 (x.k:Int)):=hrg 0 _ rfl
    by_cases hd:x.k % 5 = 0
    ·have hdI:(x.k:Int) % 5 = 0:=by omega
     have hc:=KE hg (by omega) (by omega) (by omega) (Prod.eta _).symm
     clear hrg hln
     go_wp2_with fail
     refine hc.mono ?_;rintro ex w3 ⟨v3,o3,rfl,hs, -,hg3⟩
     have hF:=hidden (And.intro (hg3.mono (K':=6 * (k + 1)) (B':=2 * DU (l.take (k + 1))) (by omega) (by omega)) (And.intro (CO hMD hst hs) (Aj.ZA y).2.2))
     clear hs hg3 hc hg hst cK
     go_wp2_with fail
     go_roundw
     case rel=>exact ⟨k + 1,o3,_,by omega,by go_num,hF.out.1,by have:=hF.out.2.2;omega,hF.out.2.1⟩
     case measure=>simp [intOf];omega
    obtain ⟨r5,hr5⟩:∃ r5:Nat,x.k % 5 = r5:=⟨_,rfl⟩
    have hdI:(x.k:Int) % 5 = (r5:Int):=by omega
    have hd5:((r5:Int) == 0) = false:=by simp;omega
    have hrow:Wp wr oj ab (aoff + k * 9) (FH x lv bw):=⟨hrg,hab,hoa⟩
    have hldH:=hidden (Sj hrg)
    obtain ⟨la,lc,rfl⟩:=hln.form
    have hc:=XF x.m hln q3
    have hbl:=Ju q3
    have hpl:=UF x.m
    clear hrg hln hr5 hd
    go_wp2_with (first
     | ((with_reducible apply Bo);exact hldH.out;simp only [Act.put,lsa,lsz,lss]))
    refine hc.mono ?_;rintro ex w5 ⟨v,o5,rfl,hs,bv,er,rfl,hb⟩
    have hst5:=hidden (Bv hst hs)
    have hg5:=hg.step0 hs
    have hrow5:=hrow.step hs (fun h=>h)
    have hF5:w5.cell? ⟨ab,aoff + k * 9 + 1,none⟩ = some (.int .i64 x.src):=hrow5.1 1 _ rfl
    have hc:=Fz hg5 (by omega) x.src hb (by omega) (AP x.m.ls) (Ia x.m) (by omega) (Prod.eta _).symm
    have hsame:=hidden (Aj.Vz hg5.nok x.src x.m.put)
    obtain ⟨y6,hy6⟩:∃ z,(y.Gj x.src x.m.put).1 = z:=⟨_,rfl⟩
    have hkin:=hidden (Aj.RI y x.src x.m.put)
    rw [hy6] at hc hsame hkin
    have hbH:=hidden hb
    have hrow5H:=hidden hrow5
    obtain ⟨ba,bc,rfl⟩:=Aq hb
    clear hs hb hg hst hldH hrow cK hrow5 hy6
    go_wp2_with fail
    refine hc.mono ?_;rintro ex w6 ⟨v,o6,rfl,hs, -,hg6⟩
    have hst6:=hidden (CO hMD hst5.out hs)
    have hb6H:=hidden (hbH.out.step hs (InN.zero hD0))
    have hrow6H:=hidden (hrow5H.out.step hs (InN.zero hD0))
    have hc:=Qc hg6 (by omega)
    clear hs hg5 hF5 hst5 hbH hrow5H
    go_wp2_with fail
    refine hc.mono ?_;rintro ex w7 ⟨v,o7,rfl,hs,lk,rfl,hl⟩
    obtain ⟨Lk,hLk⟩:∃ n,y6.k.lines.length = n:=⟨_,rfl⟩
    obtain ⟨ka,kc,rfl⟩:=hl.EG hLk
    obtain ⟨kb,Wk,V8,p8,hal,hso,hs8,hk8⟩:=LK (p:=y6.k.promised) (c:=y6.k.current) (lv := .slice ka Lk kc) w7 o7 ⟨_,_,_,rfl⟩
    have hs78:=hs.trans hs8
    have hg8:=hg6.step0 hs78
    have hst8:=hidden (Bv hst6.out hs78)
    have hb8H:=hidden (hb6H.out.step hs78 (fun h=>h))
    have hrow8H:=hidden (hrow6H.out.step hs78 (fun h=>h))
    have hl8H:=hidden ((hl.step hs8 (fun h=>h)).low (Nat.zero_le _))
    have hk8H:=hidden hk8
    have hc:=ED hg8 (by omega) rfl
    have halH:=hidden hal
    have hsoH:=hidden hso
    clear hs hs8 hs78 hk8 hal hso hl hg6 hst6 hb6H hrow6H
    go_wp2_with (first
     | ((with_reducible apply AU);exact halH.out;simp only [Act.put,lsa,lsz,lss])
     | ((with_reducible apply AC);exact hsoH.out;simp only [Act.put]))
    refine hc.mono ?_;rintro ex w9 ⟨v,o9,rfl,hs,hl⟩
    obtain ⟨Lc,hLc⟩:∃ n,(y6.k.lines.take y6.Ag).length = n:=⟨_,rfl⟩
    obtain ⟨ca,cc,rfl⟩:=hl.EG hLc
    have hg9:=hg8.step0 hs
    have hst9:=hidden (Bv hst8.out hs)
    have hb9H:=hidden (hb8H.out.step hs (fun h=>h))
    have hrow9H:=hidden (hrow8H.out.step hs (fun h=>h))
    have hl9H:=hidden (hl8H.out.step hs (fun h=>h))
    have hk9H:=hidden (hk8H.out.step hs (fun h=>h))
    have hm9H:=hidden (hl.low (Nat.zero_le _))
    have hc:=IR hg9 rfl
    clear hs hl hg8 hst8 hb8H hrow8H hl8H hk8H
    go_wp2_with fail
    refine hc.mono ?_;rintro ex w' ⟨rfl,rfl⟩
    have hF9:w9.cell? ⟨ab,aoff + k * 9 + 1,none⟩ = some (.int .i64 x.src):=hrow9H.out.1 1 _ rfl
    have hc:=Fz hg9 (by omega) x.src hb9H.out (by omega) (AP x.m.ls) (Ia x.m) (by omega) (Prod.eta _).symm
    obtain ⟨ya,hya⟩:∃ z,(y6.Gj x.src x.m.put).1 = z:=⟨_,rfl⟩
    have hkin2:=hidden (Aj.RI y6 x.src x.m.put)
    rw [hya] at hc hsame hkin2
    clear hya
    go_wp2_with fail
    refine hc.mono ?_;rintro ex wa ⟨v,oa,rfl,hs, -,hga⟩
    have hsta:=hidden (CO hMD hst9.out hs)
    have hlaH:=hidden (hl9H.out.step hs (InN.zero hD0))
    have hkaH:=hidden (hk9H.out.step hs (InN.zero hD0))
    have hmaH:=hidden (hm9H.out.step hs (InN.zero hD0))
    have hc:=Qc hga (by omega)
    rw [hsame.out.1] at hc
    clear hs hg9 hF9 hst9 hb9H hrow9H hl9H hk9H hm9H
    go_wp2_with fail
    refine hc.mono ?_;rintro ex wb ⟨v,ob,rfl,hs,lk,rfl,hl⟩
    obtain ⟨xa,xc,rfl⟩:=hl.EG hLk
    obtain ⟨xb,Wx,Vb,pb,hal,hso,hsb,hxb⟩:=LK (p:=y6.k.promised) (c:=y6.k.current) (lv := .slice xa Lk xc) wb ob ⟨_,_,_,rfl⟩
    have hs78:=hs.trans hsb
    have hgb:=hga.step0 hs78
    have hstb:=hidden (Bv hsta.out hs78)
    have hkb:=hkaH.out.step hs78 (fun h=>h)
    have d0:Vb.cell? ⟨kb,0,none⟩ = some (.int .u64 (y6.k.promised.toNat:Int)):=hkb.1 0 _ rfl
    have d1:Vb.cell? ⟨kb,1,none⟩ = some (.int .u64 (y6.k.current.toNat:Int)):=hkb.1 1 _ rfl
    have d2:Vb.cell? ⟨kb,2,none⟩ = some (.slice ka Lk kc):=hkb.1 2 _ rfl
    have e0:Vb.cell? ⟨xb,0,none⟩ = some (.int .u64 (y6.k.promised.toNat:Int)):=hxb.1 0 _ rfl
    have e1:Vb.cell? ⟨xb,1,none⟩ = some (.int .u64 (y6.k.current.toNat:Int)):=hxb.1 1 _ rfl
    have e2:Vb.cell? ⟨xb,2,none⟩ = some (.slice xa Lk xc):=hxb.1 2 _ rfl
    have hlim:Lk ≤ 1000000:=by rw [←hLk];have:=hgb.nok.ls.n;rw [hsame.out.1] at this;omega
    have hc:=Oh ((hl.step hsb (fun h=>h)).low (Nat.zero_le _)) (hlaH.out.step hs78 (fun h=>h)) (by rw [hLk];exact hlim)
    have hmbH:=hidden (hmaH.out.step hs78 (fun h=>h))
    have halH:=hidden hal
    have hsoH:=hidden hso
    clear hs hsb hs78 hal hso hl hga hsta hkb hxb hlaH hkaH hmaH
    go_wp2_with (first
     | ((with_reducible apply AU);exact halH.out;simp only [Act.put,lsa,lsz,lss])
     | ((with_reducible apply AC);exact hsoH.out;simp only [Act.put]))
    refine hc.mono ?_;rintro ex wc ⟨v,oc,rfl,hs,rfl⟩
    have hgc:=hgb.step0 hs
    have hstc:=hidden (Bv hstb.out hs)
    have hmcH:=hidden (hmbH.out.step hs (fun h=>h))
    have hc:=ED hgc (by omega) (ls:=y6.k.lines.take y6.Ag) (by rw [hsame.out.1,hsame.out.2.1])
    clear hs hgb hstb d0 d1 d2 e0 e1 e2 hmbH
    go_wp2_with fail
    refine hc.mono ?_;rintro ex wd ⟨v,od,rfl,hs,hl⟩
    obtain ⟨za,zc,rfl⟩:=hl.EG hLc
    have hgd:=hgc.step0 hs
    have hstd:=hidden (Bv hstc.out hs)
    have hc:=Oh (hl.low (Nat.zero_le _)) (hmcH.out.step hs (fun h=>h)) (by rw [List.length_take,hLk];omega)
    clear hs hl hgc hstc hmcH
    go_wp2_with fail
    refine hc.mono ?_;rintro ex we ⟨v,oe,rfl,hs,rfl⟩
    have hge:=hgd.step0 hs
    have hste:=hidden (Bv hstd.out hs)
    have hc:=IR hge (b:=y6.OD) hsame.out.2.2
    clear hs hgd hstd
    go_wp2_with fail
    refine hc.mono ?_;rintro ex w' ⟨rfl,rfl⟩
    have hF:=hidden (And.intro (hge.mono (K':=6 * (k + 1)) (B':=2 * DU (l.take (k + 1))) (by omega) (by omega)) hste.out)
    clear hge hste hc
    go_wp2_with fail
    go_roundw
    case rel=>exact ⟨k + 1,oe,_,by omega,by go_num,hF.out.1,by have:=hkin.out.2.2;have:=hkin2.out.2.2;omega,hF.out.2⟩
    case measure=>simp [intOf];omega
   ·obtain rfl:k = N:=by omega
    have hc:=KD wr oj
    go_wp2_with fail
    refine hc.mono ?_;rintro ex w5 ⟨v,o5,rfl,hs,rfl⟩
    have hst:=Bv hst hs
    clear hs hc hg
    go_wp2_with fail
    go_ret
    exact ⟨_,_,rfl,hst.Hm hM,rfl⟩
 ·clear hr hc h
  go_wp2_with fail
  go_ret
  exact ⟨_,_,rfl,hs,rfl⟩

end Go.Proofs.YthmpmgknnibljaaGreat
