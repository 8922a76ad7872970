/- The statement ZabRounds: the walk. -/
import Derived.Test.YthmpmgknnibljaaGreatSrP
namespace Go.Proofs.YthmpmgknnibljaaGreat
set_option maxRecDepth 100000
set_option maxHeartbeats 12800000
open Go Go.RowKit
attribute [local go_sem ↓] Go.wp_at_zero Go.wp_at_succ
def kL (w:World) (o:Own) (v:Value) (l:List (List UInt8)):Prop:=
 ((∃ a c,v = .slice a 0 c)∧l = []) ∨ ∃ b off cap,v = .slice (some ⟨b,off,none⟩) l.length cap∧l.length ≤ cap∧cap ≤ maxLen∧(o b).1 = 0∧b < w.heap.size∧∀ i x,l[i]? = some x→∃ bv,w.cell? ⟨b,off + i,none⟩ = some bv∧Bytes w o bv x
theorem kL.step {T:Nat→Prop} {w w':World} {o o':Own} {v:Value} {l:List (List UInt8)} (h:kL w o v l) (s:Step T w o w' o') (hT:¬ T 0):kL w' o' v l:=by
 rcases h with h | ⟨b,off,cap,hv,hl,hm,ho,hb,hr⟩
 ·exact .inl h
 ·refine .inr ⟨b,off,cap,hv,hl,hm,by rw [s.own b hb];exact ho,Nat.lt_of_lt_of_le hb s.size,fun i x hx => ?_⟩
  obtain ⟨bv,h1,h2⟩:=hr i x hx
  exact ⟨bv,(World.cell?_of_block (a:=⟨b,off + i,none⟩) (s.block b hb (by rw [ho];exact hT))).trans h1,h2.step s hT⟩
theorem kL.form {w:World} {o:Own} {v:Value} {l:List (List UInt8)} (h:kL w o v l):∃ a c,v = .slice a l.length c:=by
 rcases h with ⟨⟨a,c,rfl⟩,rfl⟩ | ⟨b,off,cap,rfl,_⟩ <;> exact ⟨_,_,rfl⟩
theorem kL.at {w:World} {o:Own} {a:Option Addr} {n c:Nat} {l:List (List UInt8)} (h:kL w o (.slice a n c) l) {i:Nat} {x:List UInt8} (hx:l[i]? = some x) :
  ∃ b off ba bc,a = some ⟨b,off,none⟩∧w.cell? ⟨b,off + i,none⟩ = some (.slice ba x.length bc)∧Bytes w o (.slice ba x.length bc) x:=by
 rcases h with ⟨_,rfl⟩ | ⟨b,off,cap,hv,hl,hm,ho,hb,hr⟩
 ·simp at hx
 ·simp only [Value.slice.injEq] at hv
  obtain ⟨bv,h1,h2⟩:=hr i x hx
  obtain ⟨ba,bc,rfl⟩:=Aq h2
  exact ⟨b,off,ba,bc,hv.1,h1,h2⟩
theorem kL.max {w:World} {o:Own} {v:Value} {l:List (List UInt8)} (h:kL w o v l):l.length ≤ maxLen:=by
 rcases h with ⟨_,rfl⟩ | ⟨b,off,cap,hv,hl,hm,_⟩
 ·simp
 ·omega
section
variable {H:Type} {enc:TypeId × Value→H} {W:World}
theorem mZ {fuel:Nat} {v:Value} {x:DataW H × List MemPlace} (h:DataW.trod enc Tryz.prog W 0 (fun _=>true) true fuel 22 [v] = some x):∃ l:List (List UInt8),kL W (fun _=>(0,0)) v l:=by
 have c1:Tryz.prog.cellsOf 23 = 1:=by kernel_rfl
 rcases Lu Tryz.underlying22 (by omega) h with ⟨a,c,rfl⟩ | ⟨b,off,len,cap,rfl,h0,hlc,hcm,hb,hel⟩
 ·exact ⟨[], .inl ⟨⟨a,c,rfl⟩,rfl⟩⟩
 ·obtain ⟨l,hl,hr⟩:=Ir (fun i (m:List UInt8)=>∃ bv,W.cell? ⟨b,off + i,none⟩ = some bv∧Bytes W (fun _=>(0,0)) bv m) len (fun i hi=>by
   obtain ⟨cs',k1,k2,n,y,k3⟩:=hel i (by omega)
   rw [c1] at k1 k2
   match cs',k1 with
   | [v0],_ =>
    obtain ⟨bs,hbs⟩:=JR k3
    have:=k2 0 v0 rfl
    rw [Nat.mul_one,Nat.add_zero] at this
    exact ⟨bs,v0,this,hbs⟩)
  refine ⟨l, .inr ⟨b,off,cap,by rw [hl],by omega,hcm,rfl,hb,fun i x hx => ?_⟩⟩
  obtain ⟨hi,rfl⟩:=List.getElem?_eq_some_iff.1 hx
  exact hr i hi
end
theorem lK {M Z n:Nat} (h:M < Z) {w w1 w2:World} {o o1 o2:Own} (s:Step (EN M) w o w1 o1) (s2:Step (InG Z n) w1 o1 w2 o2):Step (EN M) w o w2 o2:=
 s.trans (s2.mono (fun k hk=>by unfold InG at hk;show M < k;omega))
theorem lL {w:World} {o:Own} (n8:Nat) (h8:n8 < 256) {v:Value} {ls:List (List UInt8)} (h:kL w o v ls) :
  Calls Tryz.prog 3 #[.int .u8 (n8:Int),v] w (Ret Nobody w o fun v _ _=>v = .bool true):=by
 obtain ⟨M, -,hM⟩:=EZ o 0 w.heap.size
 obtain ⟨R,hR⟩:∃ R,R = M + 1:=⟨_,rfl⟩
 obtain ⟨Z,hZ⟩:∃ Z,Z = M + 2:=⟨_,rfl⟩
 have hMR:M < R:=by omega
 have hRZ:R < Z:=by omega
 have hR0:R ≠ 0:=by omega
 have hMZ:M < Z:=by omega
 obtain ⟨va,vc,rfl⟩:=h.form
 obtain ⟨N,hN⟩:∃ n,ls.length = n:=⟨_,rfl⟩
 have hmx:=h.max
 rw [hN] at h hmx ⊢
 simp only [maxLen] at hmx
 clear hR hZ
 by_cases hbig:40 < N
 ·have hbI:(40:Int) < (N:Int):=by omega
  clear h hN
  go_enter Tryz.func3,Tryz.ntmps3
  go_wp2_with fail
  go_ret
  exact ⟨_,o,rfl,Step.refl _ _ _,rfl⟩
 have hbI:¬ (40:Int) < (N:Int):=by omega
 have hNI:(0:Int) ≤ (N:Int)∧(N:Int) ≤ 40:=by omega
 obtain ⟨sz,hsz⟩:∃ s,1 + n8 % 3 = s:=⟨_,rfl⟩
 have hs3:1 ≤ sz∧sz ≤ 3:=by omega
 have m1:1 + (n8:Int) % 3 = (sz:Int):=by omega
 have hszI:(1:Int) ≤ (sz:Int)∧(sz:Int) ≤ 3:=by omega
 have hH:=hidden (And.intro h hN)
 clear h hN hmx hsz hbig
 go_enter Tryz.func3,Tryz.ntmps3
 go_wp2_with fail
 go_loopw [5] (fun i wr=>∃ k:Nat,k ≤ N∧i = .int .i64 k∧(∀ b ∈ ls.take k,1 ≤ b.length∧b.length ≤ 200)∧wr = w) (fun i _=>N - (intOf i).toNat)
 case atStart=>exact ⟨0,Nat.zero_le _,rfl,by simp,rfl⟩
 case round =>
  obtain ⟨k,hk,rfl,hall,hwr⟩:=hrel
  replace hwr:=hwr.symm
  subst hwr
  have hallH:=hidden hall
  clear hall
  by_cases hlt:k < N
  ·have hltI:(0:Int) ≤ (k:Int)∧(k:Int) < (N:Int):=by omega
   obtain ⟨h,hN⟩:=hH.out
   obtain ⟨x,hx⟩:∃ x,ls[k]? = some x:=⟨_,List.getElem?_eq_getElem (by rw [hN];exact hlt)⟩
   obtain ⟨b,off,ba,bc,rfl,hc,hby⟩:=h.at hx
   obtain ⟨Y,hY⟩:∃ n,x.length = n:=⟨_,rfl⟩
   have hYm:=(SE hby).2
   rw [hY] at hc hYm
   simp only [maxLen] at hYm
   have hYI:(0:Int) ≤ (Y:Int)∧(Y:Int) ≤ 9223372036854775807:=by omega
   have hxH:=hidden (And.intro hx hY)
   clear h hN hx hby hY hYm
   by_cases g1:200 < Y
   ·have g1I:decide ((200:Int) < (Y:Int)) = true:=decide_eq_true (by omega)
    have hcw:=KD w o
    go_wp2_with fail
    refine hcw.mono ?_;rintro ex w5 ⟨v,o5,rfl,hs,rfl⟩
    go_wp2_with fail
    go_ret
    exact ⟨_,_,rfl,hs,rfl⟩
   by_cases g2:Y = 0
   ·have g1I:decide ((200:Int) < (Y:Int)) = false:=decide_eq_false (by omega)
    have g2I:((Y:Int) == 0) = true:=by simp;omega
    have hcw:=KD w o
    go_wp2_with fail
    refine hcw.mono ?_;rintro ex w5 ⟨v,o5,rfl,hs,rfl⟩
    go_wp2_with fail
    go_ret
    exact ⟨_,_,rfl,hs,rfl⟩
   have g1I:decide ((200:Int) < (Y:Int)) = false:=decide_eq_false (by omega)
   have g2I:((Y:Int) == 0) = false:=by simp;omega
   have hnx:=hidden (show ∀ b ∈ ls.take (k + 1),1 ≤ b.length∧b.length ≤ 200 from fun z hz=>by
    rw [List.take_add_one,hxH.out.1] at hz
    rcases List.mem_append.1 hz with hz | hz
    ·exact hallH.out z hz
    ·simp at hz;subst hz;rw [hxH.out.2];omega)
   go_wp2_with fail
   go_roundw
   case rel=>exact ⟨k + 1,by omega,by go_num,hnx.out,(by first | trivial | rfl)⟩
   case measure=>simp [intOf];omega
  ·obtain rfl:k = N:=by omega
   have hfew:nM ls:=⟨by rw [hH.out.2];omega,by have:=hallH.out;rw [List.take_of_length_le (by rw [hH.out.2];omega)] at this;exact this⟩
   have hfewH:=hidden hfew
   have hc:=group_any hMR hRZ sz hs3.1 hs3.2 w o
   clear hfew hallH
   go_wp2_with fail
   refine hc.mono ?_;rintro ex W1 ⟨v,o1,rfl,hs,ps,hg⟩
   obtain ⟨gb,cap,rfl⟩:=hg.form
   rw [show (lZ sz).length = sz from kQ sz sz] at hg ⊢
   have hg0:=hidden (And.intro hg hs)
   clear hs hg hc
   go_wp2_with fail
   go_loopw [8] (fun i wx=>∃ (q:Nat) (oj:Own) (l:List Aj),q ≤ 6∧i = .int .i64 q∧Wx (6 - q) l = some (grp sz [] [] 0)∧Grp wx oj R Z (.slice (some ⟨gb,0,none⟩) sz cap) ps (1300 * q) 0 l∧(l.length = sz∧∀ y ∈ l,y.waited ≤ q)∧Step (EN M) w o wx oj) (fun i _=>6 - (intOf i).toNat)
   case atStart=>exact ⟨0,o1,_,by omega,rfl,six hs3.1 hs3.2,hg0.out.1,⟨kQ sz sz,fun y hy=>by
    unfold lZ at hy
    obtain ⟨i, -,rfl⟩:=List.mem_map.1 hy
    exact Nat.le_refl 0⟩,hg0.out.2⟩
   case round =>
    clear hg0
    obtain ⟨q,oj,l,hq,rfl,hro,hg,⟨hl,hwt⟩,hst⟩:=hrel
    by_cases hlt2:q < 6
    ·have hqI:(0:Int) ≤ (q:Int)∧(q:Int) < 6:=by omega
     obtain ⟨l',hr1,hr2⟩:=lY (i:=6 - (q + 1)) (by rw [show 6 - (q + 1) + 1 = 6 - q by omega];exact hro)
     have hc:=kT hg hl hs3.2 hR0 hRZ hr1 (by omega) (by omega) hwt (by omega)
     have hstH:=hidden hst
     have hr2H:=hidden hr2
     clear hro hg hl hwt hst hr1 hr2
     go_wp2_with fail
     refine hc.mono ?_;rintro ex W2 ⟨v,o2,rfl,hs,rfl,hg,hl,hwt⟩
     have hF:=hidden (And.intro hg (And.intro hl (And.intro hwt (lK hMZ hstH.out hs))))
     clear hs hg hl hwt hc hstH
     go_wp2_with fail
     go_roundw
     case rel=>exact ⟨q + 1,o2,l',by omega,by go_num,hr2H.out,hF.out.1.mono (by omega) (by omega),⟨hF.out.2.1,hF.out.2.2.1⟩,hF.out.2.2.2⟩
     case measure=>simp [intOf];omega
    ·obtain rfl:q = 6:=by omega
     have hl6:l = grp sz [] [] 0:=by
      have:Wx 0 l = some (grp sz [] [] 0):=hro
      unfold Wx at this
      simpa using this
     subst hl6
     have hc:=lN hg (by rw [hl];exact hs3.2) (lS hs3.1 hs3.2 [] [] 0)
     have hg1:=hidden (And.intro hg hst)
     clear hro hg hl hwt hst
     go_wp2_with fail
     refine hc.mono ?_;rintro ex w' ⟨rfl,rfl⟩
     clear hc
     go_wp2_with fail
     go_loopw [10] (fun i wx=>∃ (j f C:Nat) (oj:Own),j ≤ k∧i = .int .i64 j∧f ≤ j∧C ≤ f∧Grp wx oj R Z (.slice (some ⟨gb,0,none⟩) sz cap) ps (7800 + 9 * j + 1300 * (j / 7)) 8000 (grp sz (Sz sz (ls.take j)) ((Sz sz (ls.take j)).take f) C)∧Step (EN M) w o wx oj) (fun i _=>k - (intOf i).toNat)
     case atStart=>exact ⟨0,0,0,_,Nat.zero_le _,rfl,Nat.le_refl _,Nat.le_refl _,hg1.out.1.mono (by omega) (by omega),hg1.out.2⟩
     case round =>
      clear hg1
      obtain ⟨j,f,C,oj,hj,rfl,hf,hC,hg,hst⟩:=hrel
      by_cases hlt3:j < k
      ·have hjI:(0:Int) ≤ (j:Int)∧(j:Int) < (k:Int):=by omega
       obtain ⟨x,hx⟩:∃ x,ls[j]? = some x:=⟨_,List.getElem?_eq_getElem (by rw [hH.out.2];exact hlt3)⟩
       obtain ⟨hxl1,hxl2⟩:=hfewH.out.2 x (List.mem_of_getElem? hx)
       obtain ⟨L0,hL0⟩:∃ L,Sz sz (ls.take j) = L:=⟨_,rfl⟩
       obtain ⟨L1,hL1⟩:∃ L,Sz sz (ls.take (j + 1)) = L:=⟨_,rfl⟩
       have hL01:L1 = L0 ++ [⟨BitVec.ofNat 64 sz,x⟩]:=by rw [←hL0, ←hL1];exact mO hx
       have hl0:L0.length = j:=by rw [←hL0,kK,List.length_take,hH.out.2];omega
       have hl1:L1.length = j + 1:=by rw [←hL1,kK,List.length_take,hH.out.2];omega
       have hb1:AP L1 ≤ 8000:=by rw [←hL1];exact kY (hfewH.out.take _)
       have ht1:Told sz L1:=by rw [←hL1];exact lI (hfewH.out.take _)
       obtain ⟨F,hF⟩:∃ F,L0.take f = F:=⟨_,rfl⟩
       have hF1:L1.take f = F:=by rw [hL01,List.take_append_of_le_length (by omega)];exact hF
       have hFl:F.length ≤ L0.length:=by rw [←hF,List.length_take];omega
       have hbF:AP F ≤ 8000:=by
        have h1:=DV F (L1.drop f)
        rw [←hF1,List.take_append_drop] at h1
        rw [←hF1];omega
       rw [hL0,hF] at hg
       have hP:=hidden (And.intro hL01 (And.intro hl0 (And.intro hl1 (And.intro hb1 (And.intro ht1 (And.intro hF1 (And.intro hFl (And.intro hbF (And.intro hL1 (And.intro hxl1 hxl2))))))))))
       have hg2:=hidden (And.intro hg hst)
       have hxH:=hidden hx
       have h7:=hidden (show (j / 7:Nat) ≤ 5 from by omega)
       clear hx hL0 hL1 hL01 hl0 hl1 hb1 ht1 hF hF1 hFl hbF hg hst hxl1 hxl2
       go_wp2_with fail
       go_loopw [11] (fun i wx=>∃ (q:Nat) (oz:Own) (Lx:List Ar),q ≤ sz∧i = .int .i64 q∧((q = 0∧Lx = L0) ∨ (1 ≤ q∧Lx = L1))∧Grp wx oz R Z (.slice (some ⟨gb,0,none⟩) sz cap) ps (7800 + 9 * j + 1300 * (j / 7) + 3 * q) (8000 + 200 * q) (grp sz Lx F C)∧Step (EN M) w o wx oz) (fun i _=>sz - (intOf i).toNat)
       case atStart=>exact ⟨0,_,L0,Nat.zero_le _,rfl, .inl ⟨rfl,rfl⟩,hg2.out.1,hg2.out.2⟩
       case round =>
        clear hg2
        obtain ⟨q,oz,Lx,hq,rfl,hLx,hg,hst⟩:=hrel
        by_cases hlt4:q < sz
        ·have hqI:(0:Int) ≤ (q:Int)∧(q:Int) < (sz:Int):=by omega
         obtain ⟨hL01,hl0,hl1,hb1,ht1,hF1,hFl,hbF,hL1,hxl1,hxl2⟩:=hP.out
         obtain ⟨y,hy,hpr⟩:∃ y,(grp sz Lx F C)[q]? = some y∧∃ y' e,y.BL x = (y',e)∧(grp sz Lx F C).set q y' = grp sz L1 F C∧e = (if q = 0 then 0 else 64):=by
          rcases hLx with ⟨rfl,rfl⟩ | ⟨h1,rfl⟩
          ·refine ⟨_,lT _ _ _ _,_,_,mD hs3.1 hs3.2 ⟨hxl1,by omega⟩ (by omega) hFl, ?_,rfl⟩
           rw [←hL01];rfl
          ·refine ⟨_,nC h1 hlt4 _ _ _,_,_,mQ ⟨hxl1,by omega⟩, ?_,by rw [if_neg (by omega)]⟩
           exact List.ext_getElem? (fun i=>by
            by_cases hi:q = i
            ·subst hi
             rw [List.getElem?_set_self (by rw [lC hs3.1];exact hlt4)]
             exact (nC h1 hlt4 _ _ _).symm
            ·rw [List.getElem?_set_ne hi])
         obtain ⟨y',e,hpe,hset,he⟩:=hpr
         obtain ⟨b',pz,pp,pd,hb',hp,c4,hgn,hogb,hgbl⟩:=hg.at hy
         cases hb'
         obtain ⟨XL,hXL⟩:∃ n,x.length = n:=⟨_,rfl⟩
         have hnA:¬ EN M 0:=by show ¬ M < 0;omega
         obtain ⟨V,hV⟩:∃ V,wr.drew = V:=⟨_,rfl⟩
         have kV:Step Nobody wr oz V oz:=by rw [←hV];exact (Step.refl Nobody wr oz).drew
         obtain ⟨vb,voff,ba,bc,hva,c5,hby⟩:=((hH.out.1.step hst hnA).step kV (fun h=>h)).at hxH.out
         subst hva
         rw [hXL] at c5 hby
         have hrowS:∀ W O,Step (InN (Z + 5 * q) (Z + 5 * q)) V oz W O→(W.cell? ⟨gb,q,none⟩ = some (.pointer (some ⟨pz,0,none⟩))∧W.cell? ⟨vb,voff + j,none⟩ = some (.slice ba XL bc)):=by
          intro W O hs
          have e1:W.heap[gb]? = wr.heap[gb]?:=(hs.block gb (Nat.lt_of_lt_of_le hgbl kV.size) (by rw [kV.own gb hgbl,hogb];unfold InN;omega)).trans (kV.block gb hgbl (fun h=>h))
          obtain ⟨vb2,voff2,ba2,bc2,hva2,c52, -⟩:=(((hH.out.1.step hst hnA).step kV (fun h=>h)).step hs (by unfold InN;omega)).at hxH.out
          cases hva2
          have e2:=(World.cell?_of_block (a:=⟨gb,q,none⟩) e1).trans c4
          refine ⟨e2, ?_⟩
          obtain ⟨bb,ob,cb,hvb, -, -,hob,hbb,hrr⟩:∃ bb ob cb,Value.slice (some ⟨vb,voff,none⟩) k vc = .slice (some ⟨bb,ob,none⟩) ls.length cb∧ls.length ≤ cb∧cb ≤ maxLen∧(oz bb).1 = 0∧bb < V.heap.size∧True:=by
           rcases (hH.out.1.step hst hnA).step kV (fun h=>h) with ⟨_,hnil⟩ | ⟨bb,ob,cb,h1,h2,h3,h4,h5, -⟩
           ·rw [hnil] at hxH;have:=hxH.out;simp at this
           ·exact ⟨bb,ob,cb,h1,h2,h3,h4,h5,trivial⟩
          cases hvb
          exact (World.cell?_of_block (a:=⟨vb,voff + j,none⟩) (hs.block vb hbb (by rw [hob];unfold InN;omega))).trans c5
         have hSH:=hidden hrowS
         have hS:=hrowS V oz (Step.refl _ _ _)
         rw [←hV] at hS
         have hc:=Gs (hgn.step0 kV) (by have:=h7.out;omega) hby (by omega) hpe
         have hgH:=hidden (And.intro (hg.step0 kV) (And.intro hp (hst.trans (kV.mono (fun _ h=>h.elim)))))
         have hsetH:=hidden hset
         have hxl9:=hxl2
         have hcH:=hidden hc
         clear hg hy hpe hset hgn hogb hgbl c4 c5 hby kV hrowS hL01 hl0 hl1 hb1 ht1 hF1 hFl hbF hL1 hxl1 hxl2 hLx hst hp hc
         by_cases hq0:q = 0
         ·rw [if_pos hq0] at he
          subst he
          have hq0I:((q:Int) == 0) = true:=by simp;omega
          clear hq0
          go_wp2_with fail
          refine Aa (fun w'=>w'.cell? ⟨gb,q,none⟩ = some (.pointer (some ⟨pz,0,none⟩))∧w'.cell? ⟨vb,voff + j,none⟩ = some (.slice ba XL bc)) (fun _=>true) (by kernel_rfl) hS (fun hHeld => ?_)
          rw [hV] at hHeld ⊢
          clear hS hV
          refine tq 0 ?_
          refine tq 1 ?_
          refine tq 2 ?_
          refine tq 3 ?_
          refine tq 4 ?_
          refine tq 5 ?_
          refine tq 6 ?_
          refine tq 7 ?_
          refine tq 9 ?_
          refine Ac (i:=8) rfl (by kernel_rfl) ?_
          go_wp2_with fail
          refine hcH.out.mono ?_;rintro e' W2 ⟨v,o2,rfl,hs,rfl,hg2⟩
          have hS2:=hSH.out _ _ hs
          have hgr:=hgH.out.1.set (i:=q) (by omega) hRZ hgH.out.2.1 hs (hg2.mono (K':=7800 + 9 * j + 1300 * (j / 7) + 3 * (q + 1)) (B':=8000 + 200 * (q + 1)) (by omega) (by omega)) (show _ ≤ 7800 + 9 * j + 1300 * (j / 7) + 3 * (q + 1) by omega) (show 8000 + 200 * q ≤ 8000 + 200 * (q + 1) by omega)
          rw [hsetH.out] at hgr
          have hFF:=hidden (And.intro hgr (hgH.out.2.2.trans (hs.mono (fun t ht=>by unfold InN at ht;show M < t;omega))))
          clear hs hg2 hgr hHeld
          go_wp2_with fail
          refine ⟨fun _=>hS2, ?_⟩
          refine tq 10 ?_
          refine Ae (by kernel_rfl) ?_ _
          clear hS2
          go_wp2_with fail
          go_roundw
          case rel=>exact ⟨q + 1,o2,L1,by omega,by go_num, .inr ⟨by omega,rfl⟩,hFF.out.1,hFF.out.2⟩
          case measure=>simp [intOf];omega
         ·rw [if_neg hq0] at he
          subst he
          have hq0I:((q:Int) == 0) = false:=by simp;omega
          clear hq0
          go_wp2_with fail
          refine Aa (fun w'=>w'.cell? ⟨gb,q,none⟩ = some (.pointer (some ⟨pz,0,none⟩))∧w'.cell? ⟨vb,voff + j,none⟩ = some (.slice ba XL bc)) (fun _=>true) (by kernel_rfl) hS (fun hHeld => ?_)
          rw [hV] at hHeld ⊢
          clear hS hV
          refine tq 0 ?_
          refine tq 1 ?_
          refine tq 2 ?_
          refine tq 3 ?_
          refine tq 4 ?_
          refine tq 5 ?_
          refine tq 6 ?_
          refine tq 7 ?_
          refine tq 9 ?_
          refine Ac (i:=8) rfl (by kernel_rfl) ?_
          go_wp2_with fail
          refine hcH.out.mono ?_;rintro e' W2 ⟨v,o2,rfl,hs,rfl,hg2⟩
          have hS2:=hSH.out _ _ hs
          have hgr:=hgH.out.1.set (i:=q) (by omega) hRZ hgH.out.2.1 hs (hg2.mono (K':=7800 + 9 * j + 1300 * (j / 7) + 3 * (q + 1)) (B':=8000 + 200 * (q + 1)) (by omega) (by omega)) (show _ ≤ 7800 + 9 * j + 1300 * (j / 7) + 3 * (q + 1) by omega) (show 8000 + 200 * q ≤ 8000 + 200 * (q + 1) by omega)
          rw [hsetH.out] at hgr
          have hFF:=hidden (And.intro hgr (hgH.out.2.2.trans (hs.mono (fun t ht=>by unfold InN at ht;show M < t;omega))))
          clear hs hg2 hgr hHeld
          go_wp2_with fail
          refine ⟨fun _=>hS2, ?_⟩
          refine tq 10 ?_
          refine Ae (by kernel_rfl) ?_ _
          clear hS2
          go_wp2_with fail
          go_roundw
          case rel=>exact ⟨q + 1,o2,L1,by omega,by go_num, .inr ⟨by omega,rfl⟩,hFF.out.1,hFF.out.2⟩
          case measure=>simp [intOf];omega
        ·obtain rfl:q = sz:=by omega
         obtain ⟨hL01,hl0,hl1,hb1,ht1,hF1,hFl,hbF,hL1,hxl1,hxl2⟩:=hP.out
         obtain rfl:Lx = L1:=by
          rcases hLx with ⟨h1, -⟩ | ⟨-,h1⟩
          ·omega
          ·exact h1
         have hg3:=hg.tight hb1 hbF
         by_cases h6:j % 7 = 6
         ·have h6I:(j:Int) % 7 = 6:=by omega
          have hc:=kT (b:=16000) (c:=0) hg3 (lC hs3.1 _ _ _) hs3.2 hR0 hRZ (by rw [←hF1];exact mW hs3.1 hs3.2 ht1 (by omega) hC (by omega)) (by have:=h7.out;omega) (by omega) (fun y hy=>by rcases kZ hy with rfl | ⟨i,rfl⟩ <;> exact Nat.le_refl 0) (by omega)
          have hstH:=hidden hst
          clear hg hg3 hst hL01 hl0 ht1 hF1 hFl hbF hxl1 hxl2 hLx h6
          go_wp2_with fail
          refine hc.mono ?_;rintro ex W2 ⟨v,o2,rfl,hs,rfl,hg, -, -⟩
          have hFF:=hidden (And.intro (hg.tight hb1 hb1) (lK hMZ hstH.out hs))
          have hN7:=hidden (show 7800 + 9 * j + 1300 * (j / 7) + 3 * q + 1300 ≤ 7800 + 9 * (j + 1) + 1300 * ((j + 1) / 7) from by omega)
          have hl1H:=hidden (And.intro hl1 hL1)
          clear hs hg hc hstH hb1 hl1 hL1 h6I
          go_wp2_with fail
          go_roundw
          case rel=>exact ⟨j + 1,j + 1,f,o2,by omega,by go_num,Nat.le_refl _,by omega,by rw [hl1H.out.2,List.take_of_length_le (by rw [hl1H.out.1];exact Nat.le_refl _)];exact hFF.out.1.mono hN7.out (by omega),hFF.out.2⟩
          case measure=>simp [intOf];omega
         ·obtain ⟨r7,hr7⟩:∃ r7:Nat,j % 7 = r7:=⟨_,rfl⟩
          have h6I:(j:Int) % 7 = (r7:Int):=by omega
          have h6N:((r7:Int) == 6) = false:=by simp;omega
          have hFF:=hidden (And.intro hg3 hst)
          have hN7:=hidden (show 7800 + 9 * j + 1300 * (j / 7) + 3 * q ≤ 7800 + 9 * (j + 1) + 1300 * ((j + 1) / 7) from by omega)
          have hl1H:=hidden (And.intro hF1 hL1)
          clear hg hg3 hst hL01 hl0 ht1 hF1 hFl hbF hxl1 hxl2 hLx h6 hb1 hl1 hL1 hr7
          go_wp2_with fail
          go_roundw
          case rel=>exact ⟨j + 1,f,C,_,by omega,by go_num,by omega,hC,by rw [hl1H.out.2,hl1H.out.1];exact hFF.out.1.mono hN7.out (by omega),hFF.out.2⟩
          case measure=>simp [intOf];omega
      ·obtain rfl:j = k:=by omega
       have hfull:ls.take j = ls:=List.take_of_length_le (by rw [hH.out.2];exact Nat.le_refl _)
       rw [hfull] at hg
       obtain ⟨L,hL⟩:∃ L,Sz sz ls = L:=⟨_,rfl⟩
       rw [hL] at hg
       have hlL:L.length = j:=by rw [←hL,kK,hH.out.2]
       have hbL:AP L ≤ 8000:=by rw [←hL];exact kY hfewH.out
       have htL:Told sz L:=by rw [←hL];exact lI hfewH.out
       have hc:=kT (b:=16000) (c:=0) hg (lC hs3.1 _ _ _) hs3.2 hR0 hRZ (mW hs3.1 hs3.2 htL (by omega) hC (by omega)) (by omega) (by omega) (fun y hy=>by rcases kZ hy with rfl | ⟨i,rfl⟩ <;> exact Nat.le_refl 0) (by omega)
       have hstH:=hidden hst
       have hP:=hidden (And.intro hL (And.intro hlL (And.intro hbL htL)))
       clear hg hst hfull hL hlL hbL htL
       go_wp2_with fail
       refine hc.mono ?_;rintro ex W2 ⟨v,o2,rfl,hs,rfl,hg, -, -⟩
       obtain ⟨hL,hlL,hbL,htL⟩:=hP.out
       have hst2:=hidden (lK hMZ hstH.out hs)
       have hg:=hg.tight hbL hbL
       have hc:=kT (b:=16000) (c:=0) (show Grp W2 o2 R Z _ _ _ 8000 (grp sz L (L.take L.length) f) by rw [List.take_length];exact hg) (lC hs3.1 _ _ _) hs3.2 hR0 hRZ (mW hs3.1 hs3.2 htL (Nat.le_refl _) (by omega) (by omega)) (by omega) (by omega) (fun y hy=>by rcases kZ hy with rfl | ⟨i,rfl⟩ <;> exact Nat.le_refl 0) (by omega)
       clear hs hg hL hlL hbL htL hstH
       go_wp2_with fail
       refine hc.mono ?_;rintro ex W3 ⟨v,o3,rfl,hs,rfl,hg, -, -⟩
       have hg3:=hidden (And.intro (hg.tight hP.out.2.2.1 hP.out.2.2.1) (lK hMZ hst2.out hs))
       clear hs hg hc hst2
       go_wp2_with fail
       go_loopw [13] (fun i wx=>∃ (q:Nat) (oz:Own),q ≤ sz∧i = .int .i64 q∧Grp wx oz R Z (.slice (some ⟨gb,0,none⟩) sz cap) ps 60000 8000 (grp sz L L L.length)∧Step (EN M) w o wx oz) (fun i _=>sz - (intOf i).toNat)
       case atStart=>exact ⟨0,_,Nat.zero_le _,rfl,hg3.out.1.mono (by omega) (by omega),hg3.out.2⟩
       case round =>
        clear hg3
        obtain ⟨q,oz,hq,rfl,hg,hst⟩:=hrel
        by_cases hlt5:q < sz
        ·have hqI:(0:Int) ≤ (q:Int)∧(q:Int) < (sz:Int):=by omega
         obtain ⟨y,hy,hyc⟩:∃ y,(grp sz L L L.length)[q]? = some y∧y.k.lines.take y.Ag = L:=by
          by_cases h0:q = 0
          ·subst h0
           refine ⟨_,lT _ _ _ _, ?_⟩
           show L.take (if sz = 1 then L.length else L.length) = L
           rw [ite_self,List.take_length]
          ·exact ⟨_,nC (by omega) hlt5 _ _ _,List.take_length⟩
         obtain ⟨b',pz,pp,pd,hb',hp,c4,hgn,hogb,hgbl⟩:=hg.at hy
         cases hb'
         have hc:=ED hgn (by omega) hyc
         have hgH:=hidden (And.intro hg hst)
         clear hg hst hgn hogb hgbl hp hy hyc
         go_wp2_with fail
         refine hc.mono ?_;rintro ex W4 ⟨v,o4,rfl,hs,hl⟩
         obtain ⟨ca,cc,rfl⟩:=hl.EG hP.out.2.1
         have hg4:=hgH.out.1.step0 hs
         have hst4:=Bv hgH.out.2 hs
         have hc:=lN hg4 (by rw [lC hs3.1];exact hs3.2) (lS hs3.1 hs3.2 L L L.length)
         have hg4H:=hidden (And.intro hg4 (And.intro hst4 (hl.low (Nat.zero_le _))))
         clear hg4 hst4 hs hl hgH c4
         go_wp2_with fail
         refine hc.mono ?_;rintro ex w' ⟨rfl,rfl⟩
         clear hc
         go_wp2_with fail
         go_loopw [15] (fun i wx=>∃ (z:Nat) (oz:Own),z ≤ j∧i = .int .i64 z∧Step Nobody W4 o4 wx oz) (fun i _=>j - (intOf i).toNat)
         case atStart=>exact ⟨0,o4,Nat.zero_le _,rfl,Step.refl _ _ _⟩
         case round =>
          obtain ⟨z,oz,hz,rfl,hst5⟩:=hrel
          by_cases hlt6:z < j
          ·have hzI:(0:Int) ≤ (z:Int)∧(z:Int) < (j:Int):=by omega
           obtain ⟨x,hx⟩:∃ x,ls[z]? = some x:=⟨_,List.getElem?_eq_getElem (by rw [hH.out.2];exact hlt6)⟩
           have hLx:L[z]? = some ⟨BitVec.ofNat 64 sz,x⟩:=by rw [←hP.out.1];unfold Sz;rw [List.getElem?_map,hx];rfl
           obtain ⟨V,hV⟩:∃ V,wr.drew = V:=⟨_,rfl⟩
           have kV:Step Nobody W4 o4 V oz:=by rw [←hV];exact hst5.drew
           obtain ⟨hg4,hst4,hl4⟩:=hg4H.out
           have hgV:=hg4.step0 kV
           obtain ⟨cb,coff,bv,hcb,r1,y1, -⟩:=(hl4.step kV (fun h=>h)).at hLx
           subst hcb
           obtain ⟨vb,voff,ba,bc,hva,c5,y2⟩:=(hH.out.1.step (Bv hst4 kV) (by show ¬ M < 0;omega)).at hx
           subst hva
           obtain ⟨b',pz,pp,pd,hb',hp,c6,hgn, -⟩:=hgV.at (lT sz L L L.length)
           cases hb'
           obtain ⟨E,hE⟩:∃ E,(BitVec.ofNat 64 sz).toNat = E:=⟨_,rfl⟩
           have d1:V.cell? ⟨cb,coff + z * 2,none⟩ = some (.int .u64 (E:Int)):=by rw [←hE];exact r1 0 _ rfl
           have d2:V.cell? ⟨cb,coff + z * 2 + 1,none⟩ = some bv:=r1 1 _ rfl
           obtain ⟨X,hX⟩:∃ X,x = X:=⟨_,rfl⟩
           obtain ⟨XL,hXL⟩:∃ n,x.length = n:=⟨_,rfl⟩
           rw [hXL] at c5 y2
           have y1:Bytes V oz bv x:=y1
           rw [hX] at y1 y2
           have hSof:∀ W O,Step Nobody V oz W O→(W.cell? ⟨cb,coff + z * 2,none⟩ = some (.int .u64 (E:Int))∧W.cell? ⟨cb,coff + z * 2 + 1,none⟩ = some bv∧W.cell? ⟨vb,voff + z,none⟩ = some (.slice ba XL bc)∧W.cell? ⟨gb,0,none⟩ = some (.pointer (some ⟨pz,0,none⟩))∧(convert 23 9 bv).run Tryz.prog W = .ok (.string ⟨X.toArray⟩) W∧(convert 23 9 (.slice ba XL bc)).run Tryz.prog W = .ok (.string ⟨X.toArray⟩) W):=by
            intro W O hs
            have go:∀ {a:Addr} {u:Value},V.cell? a = some u→W.cell? a = some u:=fun {a u} h=>(World.cell?_of_block (hs.block _ (World.block_lt_of_cell? _ _ h) (fun h=>h))).trans h
            exact ⟨go d1,go d2,go c5,go c6,CY (y1.step hs (fun h=>h)),CY (y2.step hs (fun h=>h))⟩
           have hS:=hSof V oz (Step.refl _ _ _)
           have hSH:=hidden hSof
           rw [←hV] at hS
           have hep:=hidden (VO hgn (by omega) (e:=(E:Int)) (by rw [←hE];rfl))
           have hkV:=hidden kV
           have hsz0:0 < sz:=by omega
           clear hx hLx kV hg4 hst4 hl4 hgV r1 y1 y2 c5 c6 hgn hE d1 d2 hX hXL hSof hp hst5
           go_wp2_with fail
           refine Aa (fun w'=>w'.cell? ⟨cb,coff + z * 2,none⟩ = some (.int .u64 (E:Int))∧w'.cell? ⟨cb,coff + z * 2 + 1,none⟩ = some bv∧w'.cell? ⟨vb,voff + z,none⟩ = some (.slice ba XL bc)∧w'.cell? ⟨gb,0,none⟩ = some (.pointer (some ⟨pz,0,none⟩))∧(convert 23 9 bv).run Tryz.prog w' = .ok (.string ⟨X.toArray⟩) w'∧(convert 23 9 (.slice ba XL bc)).run Tryz.prog w' = .ok (.string ⟨X.toArray⟩) w') (fun _=>true) (by kernel_rfl) hS (fun hHeld => ?_)
           rw [hV] at hHeld ⊢
           clear hS hV
           refine tq 0 ?_
           refine tq 1 ?_
           refine tq 2 ?_
           refine tq 3 ?_
           refine tq 4 ?_
           refine tq 5 ?_
           refine tq 6 ?_
           refine tq 7 ?_
           refine tq 8 ?_
           refine tq 9 ?_
           refine tq 10 ?_
           refine tq 11 ?_
           refine tq 12 ?_
           refine tq 13 ?_
           refine tq 14 ?_
           refine tq 15 ?_
           refine tq 16 ?_
           refine tq 17 ?_
           refine tq 18 ?_
           refine tq 19 ?_
           refine tq 20 ?_
           refine tq 21 ?_
           refine Ac (i:=22) rfl (by kernel_rfl) ?_
           go_wp2_with fail
           refine hep.out.mono ?_;rintro e' W6 ⟨v6,o6,rfl,hs6,rfl⟩
           have hS6:=hSH.out _ _ hs6
           have hk6:=hidden (hkV.out.trans hs6)
           clear hs6 hHeld
           go_wp2_with fail
           refine ⟨fun _=>hS6, ?_⟩
           refine tq 23 ?_
           refine tq 24 ?_
           refine Ae (by kernel_rfl) ?_ _
           clear hS6
           go_wp2_with fail
           go_roundw
           case rel=>exact ⟨z + 1,o6,by omega,by go_num,hk6.out⟩
           case measure=>simp [intOf];omega
          ·obtain rfl:z = j:=by omega
           have hF:=hidden (And.intro (hg4H.out.1.step0 hst5) (Bv hg4H.out.2.1 hst5))
           clear hst5
           go_wp2_with fail
           go_roundw
           case rel=>exact ⟨q + 1,oz,by omega,by go_num,hF.out.1,hF.out.2⟩
           case measure=>simp [intOf];omega
        ·obtain rfl:q = sz:=by omega
         have hc:=KD wr oz
         have hstH:=hidden hst
         clear hg hst
         go_wp2_with fail
         refine hc.mono ?_;rintro ex W5 ⟨v,o5,rfl,hs,rfl⟩
         have hF:=hidden (Bv hstH.out hs)
         clear hs hc hstH
         go_wp2_with fail
         go_ret
         exact ⟨_,_,rfl,hF.out.Hm hM,rfl⟩

end Go.Proofs.YthmpmgknnibljaaGreat
