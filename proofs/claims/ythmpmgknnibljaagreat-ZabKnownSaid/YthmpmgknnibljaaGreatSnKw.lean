/- The statement ZabKnown: what is computed (plain law). -/
import Derived.Test.YthmpmgknnibljaaGreatSn12
namespace Go.Proofs.YthmpmgknnibljaaGreat
set_option maxRecDepth 100000
set_option maxHeartbeats 12800000
open Go Go.RowKit
def kt:Nat→Aj
 | 0=>Aj.new 0 1 ⟨0,0,[]⟩
 | 1=>⟨0,1,⟨0,0,[]⟩, .follows,1,0,0⟩
 | 2=>⟨0,1,⟨0,0,[]⟩, .follows,2,0,0⟩
 | 3=>⟨0,1,⟨0,0,[]⟩, .follows,3,0,0⟩
 | _=>⟨0,1,⟨1,1,[]⟩, .leads 1 [0] 0 true,0,0,0⟩
theorem XO {j:Nat} (h:j < 4):(kt j).tick = (kt (j + 1),[])∧(kt j).waited ≤ 1000000:=by
 match j,h with
 | 0,_=>exact ⟨by kernel_rfl,by decide⟩
 | 1,_=>exact ⟨by kernel_rfl,by decide⟩
 | 2,_=>exact ⟨by kernel_rfl,by decide⟩
 | 3,_=>exact ⟨by kernel_rfl,by decide⟩
def kls (j:Nat):List Ar:=(List.range j).map fun i=>⟨1,[UInt8.ofNat i]⟩
def kp (j:Nat):Aj:=⟨0,1,⟨1,1,kls j⟩, .leads 1 [(j:Int)] 0 true,0,0,j⟩
theorem kt4:kt 4 = kp 0:=rfl
theorem KR (j:Nat):(kls j).length = j:=by simp [kls]
theorem aP (j:Nat):kls (j + 1) = kls j ++ [⟨1,[UInt8.ofNat j]⟩]:=by simp [kls,List.range_succ]
theorem Vw:(kt 0).BL [97] = (kt 0,64):=by kernel_rfl
theorem fH:(kp 0).BL [] = (kp 0,1):=rfl
theorem dU:(kp 0).BL (List.replicate 4097 0) = (kp 0,1):=by
 unfold Aj.BL
 rw [if_pos (by right;rw [List.length_replicate];omega)]
theorem dV (b:UInt8):(kp 256).BL [b] = (kp 256,4):=by
 unfold Aj.BL
 rw [if_neg (by simp)]
 show (if 256 ≤ (kls 256).length then _ else _) = _
 rw [if_pos (by rw [KR];omega)]
theorem Xh {j:Nat} (h:j < 256):(kp j).BL [UInt8.ofNat j] = (kp (j + 1),0):=by
 have hbad:badL Ho ⟨1,[UInt8.ofNat j]⟩ = false:=by
  unfold badL Ho
  simp
 have hok:(AX.mk 1 1 (kls j)).Eu [⟨1,[UInt8.ofNat j]⟩] = true:=by
  unfold AX.Eu
  simp only [KR]
  simp only [List.length_singleton,List.any_cons,List.any_nil]
  rw [hbad]
  simp
  omega
 have hap:(AX.mk 1 1 (kls j)).Cm [⟨1,[UInt8.ofNat j]⟩] = (⟨1,1,kls (j + 1)⟩,0):=by
  unfold AX.Cm
  rw [if_pos hok,aP]
 unfold Aj.BL
 rw [if_neg (by simp)]
 show (if 256 ≤ (kls j).length then _ else if ((AX.mk 1 1 (kls j)).Cm [⟨1,[UInt8.ofNat j]⟩]).2 = 0 then _ else _) = _
 rw [if_neg (by rw [KR];omega),hap,if_pos rfl]
 show (Aj.count ⟨0,1,((AX.mk 1 1 (kls j)).Cm [⟨1,[UInt8.ofNat j]⟩]).1, .leads 1 [(j:Int)] 0 true,0,0,j⟩ 1 [(j:Int)] 0 true,(0:Int)) = _
 rw [hap]
 unfold Aj.count
 simp only [KR,lsz]
 have hc:CW [((j + 1:Nat):Int)] = ((j + 1:Nat):Int):=rfl
 rw [hc,if_pos (by omega)]
 simp only [Int.toNat_natCast]
 unfold kp
 rw [show max j (j + 1) = j + 1 by omega]
theorem TL (j:Nat):(kp j).k.lines.take (kp j).Ag = kls j:=by
 show (kls j).take j = kls j
 rw [List.take_of_length_le (by rw [KR];omega)]
def km1:BG:=⟨1,3,0,0,0,[]⟩
def km2:BG:=⟨5,3,0,0,0,[]⟩
def km3:BG:=⟨4,3,0,0,0,[⟨1,[120]⟩]⟩
def km4:BG:=⟨5,3,0,1,9,[⟨3,[121]⟩]⟩
def kr1:BG:=⟨2,3,0,0,0,[]⟩
def kr2:BG:=⟨3,3,0,0,0,[]⟩
def kr3:BG:=⟨6,3,0,1,0,[]⟩
def kr4:BG:=⟨6,3,0,2,0,[]⟩
def ky0:Aj:=Aj.new 1 3 ⟨0,0,[]⟩
def ky1:Aj:=⟨1,3,⟨3,0,[]⟩, .follows,0,3,0⟩
def ky2:Aj:=⟨1,3,⟨3,3,[⟨1,[120]⟩]⟩, .follows,0,3,0⟩
def ky3:Aj:=⟨1,3,⟨3,3,[⟨1,[120]⟩,⟨3,[121]⟩]⟩, .follows,0,3,2⟩
theorem kh1:ky0.hear 0 km1 = (ky1,[(0,kr1)]):=by kernel_rfl
theorem kh2:ky1.hear 0 km1 = (ky1,[(0,kr2)]):=by kernel_rfl
theorem kh3:ky1.hear 2 km1 = (ky1,[]):=by kernel_rfl
theorem kh4:ky1.hear 0 km2 = (ky1,[]):=by kernel_rfl
theorem kh5:ky1.hear 0 km3 = (ky2,[(0,kr3)]):=by kernel_rfl
theorem kh6:ky2.hear 0 km4 = (ky3,[(0,kr4)]):=by kernel_rfl
theorem Ha:km1.May:=by unfold km1;exact ⟨by decide,by decide,by decide,by decide,by decide,by decide,by decide,by decide,by decide,by decide,by decide,by decide,by decide⟩
theorem TP:km2.May:=by unfold km2;exact ⟨by decide,by decide,by decide,by decide,by decide,by decide,by decide,by decide,by decide,by decide,by decide,by decide,by decide⟩
theorem dS:kr1.May:=by unfold kr1;exact ⟨by decide,by decide,by decide,by decide,by decide,by decide,by decide,by decide,by decide,by decide,by decide,by decide,by decide⟩
theorem dR:kr2.May:=by unfold kr2;exact ⟨by decide,by decide,by decide,by decide,by decide,by decide,by decide,by decide,by decide,by decide,by decide,by decide,by decide⟩
theorem dQ:kr3.May:=by unfold kr3;exact ⟨by decide,by decide,by decide,by decide,by decide,by decide,by decide,by decide,by decide,by decide,by decide,by decide,by decide⟩
theorem dP:kr4.May:=by unfold kr4;exact ⟨by decide,by decide,by decide,by decide,by decide,by decide,by decide,by decide,by decide,by decide,by decide,by decide,by decide⟩
theorem TN:km3.May:=by unfold km3;exact ⟨by decide,by decide,by decide,by decide,by decide,by decide,by decide,by decide,(by simp only [List.mem_singleton];rintro x rfl;decide),by decide,by decide,by decide,by decide⟩
theorem TM:km4.May:=by unfold km4;exact ⟨by decide,by decide,by decide,by decide,by decide,by decide,by decide,by decide,(by simp only [List.mem_singleton];rintro x rfl;decide),by decide,by decide,by decide,by decide⟩
attribute [local go_sem ↓] Go.wp_at_zero Go.wp_at_succ
theorem IX (W:World) (O:Own) (fr:Nat × Nat) (x:UInt8):Bytes (W.alloc (.cells (bvs [x]).toArray 5 fr)) (Ak O W.heap.size (0,0)) (.slice (some ⟨W.heap.size,0,none⟩) 1 1) [x]∧Step Nobody W O (W.alloc (.cells (bvs [x]).toArray 5 fr)) (Ak O W.heap.size (0,0)):=
 ⟨.inr ⟨W.heap.size,0,1,rfl,Nat.le_refl _,by simp [maxLen],by rw [Au],by simp,AV (heap_alloc_new W _)⟩,(Step.refl Nobody W O).alloc _ _⟩
theorem Xw (w:World) (o:Own) (a:Option Addr) (c:Nat):Bytes w o (.slice a 0 c) [] := .inl ⟨⟨_,_,rfl⟩,rfl,rfl⟩
theorem Dn.at {w:World} {o:Own} {a:Option Addr} {n c:Nat} {ts:List (Nat × List UInt8)} (h:Dn w o (.slice a n c) ts) {i:Nat} {x:Nat × List UInt8} (hx:ts[i]? = some x) :
  ∃ b off bv,a = some ⟨b,off,none⟩∧w.rangeAt b (off + i * 2) [.int .i64 (x.1:Int),bv]∧Bytes w o bv x.2∧b < w.heap.size∧(o b).1 = 0:=by
 obtain ⟨cs,hs,hc⟩:=h
 obtain ⟨e1,bv,e2,e3⟩:=hc.2 i x hx
 have hi:=(List.getElem?_eq_some_iff.1 hx).1
 rcases hs with ⟨-,h0, -⟩ | ⟨b,off,cap,hv,hl,hm,ho,hb,hr⟩
 ·omega
 ·simp only [Value.slice.injEq] at hv
  obtain ⟨rfl, -, -⟩:=hv
  refine ⟨b,off,bv,rfl,fun j v hj => ?_,e3,hb,ho⟩
  match j with
  | 0 =>
   simp only [List.getElem?_cons_zero,Option.some.injEq] at hj
   subst hj
   have:=hr (2 * i) _ e1
   rw [show off + i * 2 + 0 = off + 2 * i by omega];exact this
  | 1 =>
   simp only [List.getElem?_cons_succ,List.getElem?_cons_zero,Option.some.injEq] at hj
   subst hj
   have:=hr (2 * i + 1) _ e2
   rw [show off + i * 2 + 1 = off + (2 * i + 1) by omega];exact this
  | k + 2=>simp at hj
theorem QC (w:World) (o:Own):Calls Tryz.prog 5 #[] w (Ret Nobody w o fun v _ _=>v = .bool true):=by
 obtain ⟨M, -,hM⟩:=EZ o 0 w.heap.size
 obtain ⟨D,hD⟩:∃ D,D = M + 1:=⟨_,rfl⟩
 have hMD:M < D:=by omega
 have hD0:D ≠ 0:=by omega
 have hc:=IJ 0 1 w o D hD0 (by omega) (by omega) (by omega)
 clear hD
 go_enter Tryz.func5,Tryz.ntmps5
 go_wp2_with fail
 refine hc.mono ?_;rintro e W1 ⟨v,o1,rfl,hs,pd,ps,pz,rfl,hg⟩
 have hst:=hs.mono (FP hMD)
 have hc:=IR hg (b:=false) rfl
 clear hs
 go_wp2_with fail
 refine hc.mono ?_;rintro e w' ⟨rfl,rfl⟩
 have hcv:(convert 23 23 (.slice (some ⟨W1.heap.size,0,none⟩) 1 1)).run Tryz.prog (W1.alloc (.cells #[.int .u8 97] 5)) = .ok (.slice (some ⟨W1.heap.size,0,none⟩) 1 1) (W1.alloc (.cells #[.int .u8 97] 5 (1,2))):=GU W1 [.int .u8 97] 1 1
 obtain ⟨hb,hs⟩:=IX W1 o1 (1,2) 97
 have hcvE:(W1.alloc (.cells #[.int .u8 97] 5 (1,2))) = W1.alloc (.cells (bvs [97]).toArray 5 (1,2)):=rfl
 obtain ⟨V1,hV⟩:∃ V,W1.alloc (.cells (bvs [97]).toArray 5 (1,2)) = V:=⟨_,rfl⟩
 obtain ⟨o1v,hoV⟩:∃ O,Ak o1 W1.heap.size (0,0) = O:=⟨_,rfl⟩
 rw [hV] at hb hs hcvE
 rw [hoV] at hb hs
 rw [hcvE] at hcv
 have hst:=Bv hst hs
 have hg:=hg.step0 hs
 have hc:=Gs hg (by omega) hb (by simp) Vw
 clear hb hs hcvE hV hoV
 go_wp2_with fail
 refine hc.mono ?_;rintro e W2 ⟨v,o2,rfl,hs,rfl,hg⟩
 have hst:=hidden (CO hMD hst hs)
 have hg0:=hidden hg
 clear hs hc hcv hg
 go_wp2_with fail
 go_loopw [5] (fun i wr=>∃ (j:Nat) (oj:Own),j ≤ 4∧i = .int .i64 j∧GN wr oj D D pz ps pd (3 + 6 * j) 1 (kt j)∧Step (EN M) w o wr oj) (fun i _=>4 - (intOf i).toNat)
 case atStart=>exact ⟨0,o2,Nat.zero_le _,rfl,hg0.out,hst.out⟩
 case round =>
  clear hst hg0
  obtain ⟨j,oj,hj,rfl,hg,hst⟩:=hrel
  by_cases hlt:j < 4
  ·have hltI:(j:Int) < 4:=by omega
   have hc:=KE hg (by omega) (by omega) (XO hlt).2 (XO hlt).1
   go_wp2_with fail
   refine hc.mono ?_;rintro e w3 ⟨v3,o3,rfl,hs,ho,hg3⟩
   obtain ⟨xa,xc,rfl⟩:=ho.EG (n:=0) rfl
   have hF:=hidden (And.intro hg3 (CO hMD hst hs))
   clear hs ho hg3 hc hg hst
   go_wp2_with fail
   go_roundw
   case rel=>exact ⟨j + 1,o3,by omega,by go_num,hF.out.1.mono (by omega) (by omega),hF.out.2⟩
   case measure=>simp [intOf];omega
  ·obtain rfl:j = 4:=by omega
   rw [kt4] at hg
   have hc:=IR hg (b:=true) rfl
   go_wp2_with fail
   refine hc.mono ?_;rintro e w' ⟨rfl,rfl⟩
   have hc:=VO hg (by omega) (e:=1) (by decide)
   go_wp2_with fail
   refine hc.mono ?_;rintro e w3 ⟨v,o3,rfl,hs,rfl⟩
   have hst:=Bv hst hs
   have hg:=hg.step0 hs
   have hc:=Gs hg (by omega) (Xw w3 o3 none 0) (by simp) fH
   clear hs
   go_wp2_with fail
   refine hc.mono ?_;rintro e w4 ⟨v,o4,rfl,hs,rfl,hg⟩
   have hst:=CO hMD hst hs
   obtain ⟨Z,hZ⟩:∃ Z,List.replicate 4097 (0:UInt8) = Z:=⟨_,rfl⟩
   have hZl:Z.length = 4097:=by rw [←hZ,List.length_replicate]
   have hlong:=dU
   have hmk:(Instr.makeSlice 23 (.int .i64 4097) (.int .i64 4097)).run Tryz.prog w4 = .ok (.slice (some ⟨w4.heap.size,0,none⟩) 4097 4097) (w4.alloc (.cells (bvs (List.replicate 4097 0)).toArray 5)):=PT w4 4097 (by omega)
   rw [hZ] at hmk hlong
   have hb:Bytes (w4.alloc (.cells (bvs Z).toArray 5)) (Ak o4 w4.heap.size (0,0)) (.slice (some ⟨w4.heap.size,0,none⟩) 4097 4097) Z := .inr ⟨w4.heap.size,0,4097,by rw [hZl],by rw [hZl];exact Nat.le_refl _,by simp [maxLen],by rw [Au],by simp,AV (heap_alloc_new w4 _)⟩
   have hs:=(Step.refl Nobody w4 o4).alloc (.cells (bvs Z).toArray 5) (0,0)
   obtain ⟨V,hV⟩:∃ V,w4.alloc (.cells (bvs Z).toArray 5) = V:=⟨_,rfl⟩
   obtain ⟨oV,hoV⟩:∃ O,Ak o4 w4.heap.size (0,0) = O:=⟨_,rfl⟩
   rw [hV] at hb hs hmk
   rw [hoV] at hb hs
   have hst:=Bv hst hs
   have hg:=hg.step0 hs
   have hc:=Gs hg (by omega) hb (by rw [hZl];simp) hlong
   clear hs hb hlong hZ hV hoV
   go_wp2_with fail
   refine hc.mono ?_;rintro e w5 ⟨v,o5,rfl,hs,rfl,hg⟩
   have hst:=hidden (CO hMD hst hs)
   rw [hZl] at hg
   have hg0:=hidden hg
   clear hs hc hmk hg
   go_wp2_with fail
   go_loopw [6] (fun i wr=>∃ (j:Nat) (oj:Own),j ≤ 256∧i = .int .i64 j∧GN wr oj D D pz ps pd (33 + 3 * j) (4098 + j) (kp j)∧Step (EN M) w o wr oj) (fun i _=>256 - (intOf i).toNat)
   case atStart=>exact ⟨0,o5,Nat.zero_le _,rfl,hg0.out.mono (by omega) (by simp),hst.out⟩
   case round =>
    clear hst hg0
    obtain ⟨j,oj,hj,rfl,hg,hst⟩:=hrel
    by_cases hlt:j < 256
    ·have hltI:(0:Int) ≤ (j:Int)∧(j:Int) < 256:=by omega
     have hu8:IntKind.u8.wrap (j:Int) = (j:Int):=by rw [show IntKind.u8.wrap (j:Int) = (j:Int) % 256 from rfl];omega
     have hbv:bv (UInt8.ofNat j) = .int .u8 (j:Int):=by
      unfold bv
      rw [UInt8.toNat_ofNat']
      congr 1
     obtain ⟨hb,hs⟩:=IX wr oj (0,0) (UInt8.ofNat j)
     rw [show bvs [UInt8.ofNat j] = [bv (UInt8.ofNat j)] from rfl,hbv] at hb hs
     have hst:=Bv hst hs
     have hg:=hg.step0 hs
     obtain ⟨oV,hoV⟩:∃ O,Ak oj wr.heap.size (0,0) = O:=⟨_,rfl⟩
     rw [hoV] at hb hst hg
     have hc:=Gs hg (by omega) hb (by simp;omega) (Xh hlt)
     clear hs hb hg hoV
     go_wp2_with fail
     refine hc.mono ?_;rintro e w6 ⟨v,o6,rfl,hs,rfl,hg⟩
     have hst:=CO hMD hst hs
     have hc:=ED hg (by simp;omega) (TL (j + 1))
     clear hs
     go_wp2_with fail
     refine hc.mono ?_;rintro e w7 ⟨v,o7,rfl,hs,hl⟩
     have hst:=Bv hst hs
     have hg:=hg.step0 hs
     obtain ⟨xa,xc,rfl⟩:=hl.EG (n:=j + 1) (KR _)
     have hF:=hidden (And.intro hg hst)
     clear hs hl hc hg hst
     go_wp2_with fail
     go_roundw
     case rel=>exact ⟨j + 1,o7,by omega,by go_num,hF.out.1.mono (by omega) (by simp;omega),hF.out.2⟩
     case measure=>simp [intOf];omega
    ·obtain rfl:j = 256:=by omega
     have hcvV1:(convert 23 23 (.slice (some ⟨wr.heap.size,0,none⟩) 1 1)).run Tryz.prog (wr.alloc (.cells #[.int .u8 98] 5)) = .ok (.slice (some ⟨wr.heap.size,0,none⟩) 1 1) (wr.alloc (.cells #[.int .u8 98] 5 (1,2))):=GU wr [.int .u8 98] 1 1
     obtain ⟨hb,hs⟩:=IX wr oj (1,2) 98
     have hcvE:(wr.alloc (.cells #[.int .u8 98] 5 (1,2))) = wr.alloc (.cells (bvs [98]).toArray 5 (1,2)):=rfl
     obtain ⟨V1,hV⟩:∃ V,wr.alloc (.cells (bvs [98]).toArray 5 (1,2)) = V:=⟨_,rfl⟩
     obtain ⟨oV1,hoV⟩:∃ O,Ak oj wr.heap.size (0,0) = O:=⟨_,rfl⟩
     rw [hV] at hb hs hcvE
     rw [hoV] at hb hs
     rw [hcvE] at hcvV1
     have hst:=Bv hst hs
     have hg:=hg.step0 hs
     have hc:=Gs hg (by omega) hb (by simp) (dV 98)
     have hcvV1H:=hidden hcvV1
     clear hb hs hcvE hV hoV hg hcvV1
     go_wp2_with ((with_reducible apply Kq);exact hcvV1H.out;simp only [Act.put,lsa,lsz,lss])
     refine hc.mono ?_;rintro e w3 ⟨v,o3,rfl,hs,rfl,hg⟩
     have hst:=CO hMD hst hs
     have hc:=IJ 1 3 w3 o3 D hD0 (by omega) (by omega) (by omega)
     clear hs hg
     go_wp2_with fail
     refine hc.mono ?_;rintro e w4 ⟨v,o4,rfl,hs,pd2,ps2,pz2,rfl,hg⟩
     have hst:=hst.trans (hs.mono (FP hMD))
     clear hs
     have hc:=Et w4 o4 km1 Ha rfl
     go_wp2_with fail
     refine hc.mono ?_;rintro e w5 ⟨v,o5,rfl,hs,hb⟩
     have hst:=Bv hst hs
     have hg:=hg.step0 hs
     have hc:=Fz hg (by omega) 0 hb (by decide) (AP km1.ls) (fun m hm=>by rw [ET Ha] at hm;cases hm;exact Nat.le_refl _) (by decide) ((Aj.Fg _ 0 (by decide) (by decide) Ha).trans kh1)
     obtain ⟨ya4,yc4,rfl⟩:=Aq hb
     clear hs hb
     go_wp2_with fail
     refine hc.mono ?_;rintro e w6 ⟨v,o6,rfl,hs,hob,hg⟩
     have hst:=CO hMD hst hs
     obtain ⟨xab,xcb,rfl⟩:=hob.EG (n:=1) rfl
     clear hs
     have hc:=Et w6 o6 km1 Ha rfl
     go_wp2_with fail
     refine hc.mono ?_;rintro e w7 ⟨v,o7,rfl,hs,hb⟩
     have hst:=Bv hst hs
     have hg:=hg.step0 hs
     have hob:=hob.step hs (fun h=>h)
     have hc:=Fz hg (by omega) 0 hb (by decide) (AP km1.ls) (fun m hm=>by rw [ET Ha] at hm;cases hm;exact Nat.le_refl _) (by decide) ((Aj.Fg _ 0 (by decide) (by decide) Ha).trans kh2)
     obtain ⟨ya6,yc6,rfl⟩:=Aq hb
     clear hs hb
     go_wp2_with fail
     refine hc.mono ?_;rintro e w8 ⟨v,o8,rfl,hs,hoc,hg⟩
     have hst:=CO hMD hst hs
     have hob:=hob.step hs (InN.zero hD0)
     obtain ⟨xac,xcc,rfl⟩:=hoc.EG (n:=1) rfl
     clear hs
     have hc:=Et w8 o8 km1 Ha rfl
     go_wp2_with fail
     refine hc.mono ?_;rintro e w9 ⟨v,o9,rfl,hs,hb⟩
     have hst:=Bv hst hs
     have hg:=hg.step0 hs
     have hob:=hob.step hs (fun h=>h)
     have hoc:=hoc.step hs (fun h=>h)
     have hc:=Fz hg (by omega) 2 hb (by decide) (AP km1.ls) (fun m hm=>by rw [ET Ha] at hm;cases hm;exact Nat.le_refl _) (by decide) ((Aj.Fg _ 2 (by decide) (by decide) Ha).trans kh3)
     obtain ⟨ya8,yc8,rfl⟩:=Aq hb
     clear hs hb
     go_wp2_with fail
     refine hc.mono ?_;rintro e w10 ⟨v,o10,rfl,hs,hog,hg⟩
     have hst:=CO hMD hst hs
     have hob:=hob.step hs (InN.zero hD0)
     have hoc:=hoc.step hs (InN.zero hD0)
     obtain ⟨xag,xcg,rfl⟩:=hog.EG (n:=0) rfl
     clear hs
     clear hog
     have hc:=Et w10 o10 km2 TP rfl
     go_wp2_with fail
     refine hc.mono ?_;rintro e w11 ⟨v,o11,rfl,hs,hb⟩
     have hst:=Bv hst hs
     have hg:=hg.step0 hs
     have hob:=hob.step hs (fun h=>h)
     have hoc:=hoc.step hs (fun h=>h)
     have hc:=Fz hg (by omega) 0 hb (by decide) (AP km2.ls) (fun m hm=>by rw [ET TP] at hm;cases hm;exact Nat.le_refl _) (by decide) ((Aj.Fg _ 0 (by decide) (by decide) TP).trans kh4)
     obtain ⟨ya10,yc10,rfl⟩:=Aq hb
     clear hs hb
     go_wp2_with fail
     refine hc.mono ?_;rintro e w12 ⟨v,o12,rfl,hs,hoh,hg⟩
     have hst:=CO hMD hst hs
     have hob:=hob.step hs (InN.zero hD0)
     have hoc:=hoc.step hs (InN.zero hD0)
     obtain ⟨xah,xch,rfl⟩:=hoh.EG (n:=0) rfl
     clear hs
     clear hoh
     have hcvV2:(convert 23 23 (.slice (some ⟨w12.heap.size,0,none⟩) 1 1)).run Tryz.prog (w12.alloc (.cells #[.int .u8 120] 5)) = .ok (.slice (some ⟨w12.heap.size,0,none⟩) 1 1) (w12.alloc (.cells #[.int .u8 120] 5 (1,2))):=GU w12 [.int .u8 120] 1 1
     obtain ⟨hb,hs⟩:=IX w12 o12 (1,2) 120
     have hcvE:(w12.alloc (.cells #[.int .u8 120] 5 (1,2))) = w12.alloc (.cells (bvs [120]).toArray 5 (1,2)):=rfl
     obtain ⟨V2,hV⟩:∃ V,w12.alloc (.cells (bvs [120]).toArray 5 (1,2)) = V:=⟨_,rfl⟩
     obtain ⟨oV2,hoV⟩:∃ O,Ak o12 w12.heap.size (0,0) = O:=⟨_,rfl⟩
     rw [hV] at hb hs hcvE
     rw [hoV] at hb hs
     rw [hcvE] at hcvV2
     have hst:=Bv hst hs
     have hg:=hg.step0 hs
     have hob:=hob.step hs (fun h=>h)
     have hoc:=hoc.step hs (fun h=>h)
     have hbsL2:(Instr.buildSlice 32 1 #[(0, .agg #[.int .u64 1, .slice (some ⟨w12.heap.size,0,none⟩) 1 1])]).run Tryz.prog V2 = .ok (.slice (some ⟨V2.heap.size,0,none⟩) 1 1) (V2.alloc (.cells [.int .u64 1, .slice (some ⟨w12.heap.size,0,none⟩) 1 1].toArray 36)):=LV V2 _ _
     have hlo:Lines (V2.alloc (.cells [.int .u64 1, .slice (some ⟨w12.heap.size,0,none⟩) 1 1].toArray 36)) (Ak oV2 V2.heap.size (0,0)) 0 (.slice (some ⟨V2.heap.size,0,none⟩) 1 1) [⟨1,[120]⟩]:=NM (e:=1) hb
     have hs:=(Step.refl Nobody V2 oV2).alloc (.cells [.int .u64 1, .slice (some ⟨w12.heap.size,0,none⟩) 1 1].toArray 36) (0,0)
     clear hcvE hV hoV hb
     obtain ⟨L2,hW⟩:∃ V,V2.alloc (.cells [.int .u64 1, .slice (some ⟨w12.heap.size,0,none⟩) 1 1].toArray 36) = V:=⟨_,rfl⟩
     obtain ⟨oL2,hoW⟩:∃ O,Ak oV2 V2.heap.size (0,0) = O:=⟨_,rfl⟩
     rw [hW] at hbsL2 hlo hs
     rw [hoW] at hlo hs
     have hst:=Bv hst hs
     have hg:=hg.step0 hs
     have hob:=hob.step hs (fun h=>h)
     have hoc:=hoc.step hs (fun h=>h)
     have hc:=PR km3 TN hlo
     have hcvV2H:=hidden hcvV2
     have hbsL2H:=hidden hbsL2
     clear hs hW hoW hlo hcvV2 hbsL2
     go_wp2_with (first
      | ((with_reducible apply Kq);exact hcvV2H.out;simp only [Act.put,lsa,lsz,lss])
      | ((with_reducible apply BO #[(0, .agg #[.int .u64 1, .slice (some ⟨w12.heap.size,0,none⟩) 1 1])] rfl);exact hbsL2H.out;simp only [Act.put,lsa,lsz,lss]))
     refine hc.mono ?_;rintro e w13 ⟨v,o13,rfl,hs,hb⟩
     have hst:=Bv hst hs
     have hg:=hg.step0 hs
     have hob:=hob.step hs (fun h=>h)
     have hoc:=hoc.step hs (fun h=>h)
     have hc:=Fz hg (by omega) 0 hb (by decide) (AP km3.ls) (fun m hm=>by rw [ET TN] at hm;cases hm;exact Nat.le_refl _) (by decide) ((Aj.Fg _ 0 (by decide) (by decide) TN).trans kh5)
     obtain ⟨ya12,yc12,rfl⟩:=Aq hb
     clear hs hb
     go_wp2_with fail
     refine hc.mono ?_;rintro e w14 ⟨v,o14,rfl,hs,hoi,hg⟩
     have hst:=CO hMD hst hs
     have hob:=hob.step hs (InN.zero hD0)
     have hoc:=hoc.step hs (InN.zero hD0)
     obtain ⟨xai,xci,rfl⟩:=hoi.EG (n:=1) rfl
     clear hs
     have hcvV3:(convert 23 23 (.slice (some ⟨w14.heap.size,0,none⟩) 1 1)).run Tryz.prog (w14.alloc (.cells #[.int .u8 121] 5)) = .ok (.slice (some ⟨w14.heap.size,0,none⟩) 1 1) (w14.alloc (.cells #[.int .u8 121] 5 (1,2))):=GU w14 [.int .u8 121] 1 1
     obtain ⟨hb,hs⟩:=IX w14 o14 (1,2) 121
     have hcvE:(w14.alloc (.cells #[.int .u8 121] 5 (1,2))) = w14.alloc (.cells (bvs [121]).toArray 5 (1,2)):=rfl
     obtain ⟨V3,hV⟩:∃ V,w14.alloc (.cells (bvs [121]).toArray 5 (1,2)) = V:=⟨_,rfl⟩
     obtain ⟨oV3,hoV⟩:∃ O,Ak o14 w14.heap.size (0,0) = O:=⟨_,rfl⟩
     rw [hV] at hb hs hcvE
     rw [hoV] at hb hs
     rw [hcvE] at hcvV3
     have hst:=Bv hst hs
     have hg:=hg.step0 hs
     have hob:=hob.step hs (fun h=>h)
     have hoc:=hoc.step hs (fun h=>h)
     have hoi:=hoi.step hs (fun h=>h)
     have hbsL3:(Instr.buildSlice 32 1 #[(0, .agg #[.int .u64 3, .slice (some ⟨w14.heap.size,0,none⟩) 1 1])]).run Tryz.prog V3 = .ok (.slice (some ⟨V3.heap.size,0,none⟩) 1 1) (V3.alloc (.cells [.int .u64 3, .slice (some ⟨w14.heap.size,0,none⟩) 1 1].toArray 36)):=LV V3 _ _
     have hlo:Lines (V3.alloc (.cells [.int .u64 3, .slice (some ⟨w14.heap.size,0,none⟩) 1 1].toArray 36)) (Ak oV3 V3.heap.size (0,0)) 0 (.slice (some ⟨V3.heap.size,0,none⟩) 1 1) [⟨3,[121]⟩]:=NM (e:=3) hb
     have hs:=(Step.refl Nobody V3 oV3).alloc (.cells [.int .u64 3, .slice (some ⟨w14.heap.size,0,none⟩) 1 1].toArray 36) (0,0)
     clear hcvE hV hoV hb
     obtain ⟨L3,hW⟩:∃ V,V3.alloc (.cells [.int .u64 3, .slice (some ⟨w14.heap.size,0,none⟩) 1 1].toArray 36) = V:=⟨_,rfl⟩
     obtain ⟨oL3,hoW⟩:∃ O,Ak oV3 V3.heap.size (0,0) = O:=⟨_,rfl⟩
     rw [hW] at hbsL3 hlo hs
     rw [hoW] at hlo hs
     have hst:=Bv hst hs
     have hg:=hg.step0 hs
     have hob:=hob.step hs (fun h=>h)
     have hoc:=hoc.step hs (fun h=>h)
     have hoi:=hoi.step hs (fun h=>h)
     have hc:=PR km4 TM hlo
     have hcvV3H:=hidden hcvV3
     have hbsL3H:=hidden hbsL3
     clear hs hW hoW hlo hcvV3 hbsL3
     go_wp2_with (first
      | ((with_reducible apply Kq);exact hcvV3H.out;simp only [Act.put,lsa,lsz,lss])
      | ((with_reducible apply BO #[(0, .agg #[.int .u64 3, .slice (some ⟨w14.heap.size,0,none⟩) 1 1])] rfl);exact hbsL3H.out;simp only [Act.put,lsa,lsz,lss]))
     refine hc.mono ?_;rintro e w15 ⟨v,o15,rfl,hs,hb⟩
     have hst:=Bv hst hs
     have hg:=hg.step0 hs
     have hob:=hob.step hs (fun h=>h)
     have hoc:=hoc.step hs (fun h=>h)
     have hoi:=hoi.step hs (fun h=>h)
     have hc:=Fz hg (by omega) 0 hb (by decide) (AP km4.ls) (fun m hm=>by rw [ET TM] at hm;cases hm;exact Nat.le_refl _) (by decide) ((Aj.Fg _ 0 (by decide) (by decide) TM).trans kh6)
     obtain ⟨ya14,yc14,rfl⟩:=Aq hb
     clear hs hb
     go_wp2_with fail
     refine hc.mono ?_;rintro e w16 ⟨v,o16,rfl,hs,hoj,hg⟩
     have hst:=CO hMD hst hs
     have hob:=hob.step hs (InN.zero hD0)
     have hoc:=hoc.step hs (InN.zero hD0)
     have hoi:=hoi.step hs (InN.zero hD0)
     obtain ⟨xaj,xcj,rfl⟩:=hoj.EG (n:=1) rfl
     clear hs
     have hc:=ED hg (by decide) (ls:=[⟨1,[120]⟩,⟨3,[121]⟩]) rfl
     go_wp2_with fail
     refine hc.mono ?_;rintro e w17 ⟨v,o17,rfl,hs,hl⟩
     have hst:=Bv hst hs
     have hob:=hob.step hs (fun h=>h)
     have hoc:=hoc.step hs (fun h=>h)
     have hoi:=hoi.step hs (fun h=>h)
     have hoj:=hoj.step hs (fun h=>h)
     obtain ⟨za,zc,rfl⟩:=hl.EG (n:=2) rfl
     clear hs hg hc
     obtain ⟨bb,fb,vb,rfl,rb,yb,lb, -⟩:=hob.at (i:=0) rfl
     obtain ⟨Pb,hPb⟩:∃ p,kr1.put = p:=⟨_,rfl⟩
     have yb:Bytes w17 o17 vb kr1.put:=yb
     have rb:w17.rangeAt bb fb _:=rb
     rw [hPb] at yb
     obtain ⟨bc,fc,vc,rfl,rc,yc,lc, -⟩:=hoc.at (i:=0) rfl
     obtain ⟨Pc,hPc⟩:∃ p,kr2.put = p:=⟨_,rfl⟩
     have yc:Bytes w17 o17 vc kr2.put:=yc
     have rc:w17.rangeAt bc fc _:=rc
     rw [hPc] at yc
     obtain ⟨bi,fi,vi,rfl,ri,yi,li, -⟩:=hoi.at (i:=0) rfl
     obtain ⟨Pi,hPi⟩:∃ p,kr3.put = p:=⟨_,rfl⟩
     have yi:Bytes w17 o17 vi kr3.put:=yi
     have ri:w17.rangeAt bi fi _:=ri
     rw [hPi] at yi
     obtain ⟨bj,fj,vj,rfl,rj,yj,lj, -⟩:=hoj.at (i:=0) rfl
     obtain ⟨Pj,hPj⟩:∃ p,kr4.put = p:=⟨_,rfl⟩
     have yj:Bytes w17 o17 vj kr4.put:=yj
     have rj:w17.rangeAt bj fj _:=rj
     rw [hPj] at yj
     obtain ⟨bk,fk,vk,rfl,rk,yk, -,lk, -⟩:=hl.at (i:=1) rfl
     have yk:Bytes w17 o17 vk [121]:=yk
     have rk:w17.rangeAt bk (fk + 2) _:=rk
     have hcell:∀ (W:World) (O:Own),Step Nobody w17 o17 W O→(W.cell? ⟨bb,fb + 1,none⟩ = some vb∧W.cell? ⟨bc,fc + 1,none⟩ = some vc∧W.cell? ⟨bi,fi + 1,none⟩ = some vi∧W.cell? ⟨bj,fj + 1,none⟩ = some vj∧W.cell? ⟨bk,fk + 3,none⟩ = some vk∧(convert 23 9 vb).run Tryz.prog W = .ok (.string ⟨Pb.toArray⟩) W∧(convert 23 9 vc).run Tryz.prog W = .ok (.string ⟨Pc.toArray⟩) W∧(convert 23 9 vi).run Tryz.prog W = .ok (.string ⟨Pi.toArray⟩) W∧(convert 23 9 vj).run Tryz.prog W = .ok (.string ⟨Pj.toArray⟩) W∧(convert 23 9 vk).run Tryz.prog W = .ok (.string ⟨#[121]⟩) W):=by
      intro W O hJ
      refine ⟨Cf rb (hJ.block bb lb (fun h=>h)) 1 _ rfl,Cf rc (hJ.block bc lc (fun h=>h)) 1 _ rfl,Cf ri (hJ.block bi li (fun h=>h)) 1 _ rfl,Cf rj (hJ.block bj lj (fun h=>h)) 1 _ rfl,Cf rk (hJ.block bk lk (fun h=>h)) 1 _ rfl,CY (yb.step hJ (fun h=>h)),CY (yc.step hJ (fun h=>h)),CY (yi.step hJ (fun h=>h)),CY (yj.step hJ (fun h=>h)),CY (yk.step hJ (fun h=>h))⟩
     obtain ⟨V,hV⟩:∃ V,w17.drew = V:=⟨_,rfl⟩
     have hJ:Step Nobody w17 o17 V o17:=by rw [←hV];exact (Step.refl Nobody w17 o17).drew
     have hS:=hcell V o17 hJ
     have hS0:w17.drew.cell? ⟨bb,fb + 1,none⟩ = some vb∧w17.drew.cell? ⟨bc,fc + 1,none⟩ = some vc∧w17.drew.cell? ⟨bi,fi + 1,none⟩ = some vi∧w17.drew.cell? ⟨bj,fj + 1,none⟩ = some vj∧w17.drew.cell? ⟨bk,fk + 3,none⟩ = some vk∧(convert 23 9 vb).run Tryz.prog w17.drew = .ok (.string ⟨Pb.toArray⟩) w17.drew∧(convert 23 9 vc).run Tryz.prog w17.drew = .ok (.string ⟨Pc.toArray⟩) w17.drew∧(convert 23 9 vi).run Tryz.prog w17.drew = .ok (.string ⟨Pi.toArray⟩) w17.drew∧(convert 23 9 vj).run Tryz.prog w17.drew = .ok (.string ⟨Pj.toArray⟩) w17.drew∧(convert 23 9 vk).run Tryz.prog w17.drew = .ok (.string ⟨#[121]⟩) w17.drew:=by rw [hV];exact hS
     have hcellH:=hidden hcell
     have hstH:=hidden (And.intro hst hJ)
     have hPP:=hidden (And.intro hPb (And.intro hPc (And.intro hPi hPj)))
     clear hcell hst hJ hl hob hoc hoi hoj rb rc ri rj rk yb yc yi yj yk lb lc li lj lk hPb hPc hPi hPj hS
     go_wp2_with fail
     refine Aa (fun w'=>w'.cell? ⟨bb,fb + 1,none⟩ = some vb∧w'.cell? ⟨bc,fc + 1,none⟩ = some vc∧w'.cell? ⟨bi,fi + 1,none⟩ = some vi∧w'.cell? ⟨bj,fj + 1,none⟩ = some vj∧w'.cell? ⟨bk,fk + 3,none⟩ = some vk∧(convert 23 9 vb).run Tryz.prog w' = .ok (.string ⟨Pb.toArray⟩) w'∧(convert 23 9 vc).run Tryz.prog w' = .ok (.string ⟨Pc.toArray⟩) w'∧(convert 23 9 vi).run Tryz.prog w' = .ok (.string ⟨Pi.toArray⟩) w'∧(convert 23 9 vj).run Tryz.prog w' = .ok (.string ⟨Pj.toArray⟩) w'∧(convert 23 9 vk).run Tryz.prog w' = .ok (.string ⟨#[121]⟩) w') (fun _=>true) (by kernel_rfl) hS0 (fun hHeld => ?_)
     rw [hV] at hHeld ⊢
     clear hS0 hV
     refine tq 0 ?_
     refine tq 1 ?_
     refine tq 2 ?_
     refine tq 3 ?_
     refine tq 4 ?_
     refine tq 5 ?_
     refine tq 6 ?_
     refine tq 7 ?_
     refine tq 8 ?_
     refine Ac (i:=9) rfl (by kernel_rfl) ?_
     go_wp2_with fail
     refine (Et V o17 kr1 dS rfl).mono ?_;rintro e wA0 ⟨v,oA0,rfl,hs,hb⟩
     have hJ0:=hidden (hstH.out.2.trans hs)
     have hS0:=hcellH.out wA0 oA0 hJ0.out
     have hcv:(convert 23 9 v).run Tryz.prog wA0 = .ok (.string ⟨Pb.toArray⟩) wA0:=by rw [←hPP.out.1];exact CY hb
     obtain ⟨ya,yc,rfl⟩:=Aq hb
     clear hs hb
     go_wp2_with fail
     refine ⟨fun _=>hS0, ?_⟩
     refine Ac (i:=10) rfl (by kernel_rfl) ?_
     go_wp2_with fail
     refine ⟨fun _=>hS0, ?_⟩
     refine tq 11 ?_
     refine tq 12 ?_
     refine tq 13 ?_
     refine tq 14 ?_
     refine tq 15 ?_
     refine tq 16 ?_
     refine tq 17 ?_
     refine tq 18 ?_
     refine tq 19 ?_
     refine Ac (i:=20) rfl (by kernel_rfl) ?_
     go_wp2_with fail
     refine (Et wA0 oA0 kr2 dR rfl).mono ?_;rintro e wA1 ⟨v,oA1,rfl,hs,hb⟩
     have hJ1:=hidden (hJ0.out.trans hs)
     have hS1:=hcellH.out wA1 oA1 hJ1.out
     have hcv:(convert 23 9 v).run Tryz.prog wA1 = .ok (.string ⟨Pc.toArray⟩) wA1:=by rw [←hPP.out.2.1];exact CY hb
     obtain ⟨ya,yc,rfl⟩:=Aq hb
     clear hs hb
     go_wp2_with fail
     refine ⟨fun _=>hS1, ?_⟩
     refine Ac (i:=21) rfl (by kernel_rfl) ?_
     go_wp2_with fail
     refine ⟨fun _=>hS1, ?_⟩
     refine tq 22 ?_
     refine tq 23 ?_
     refine tq 24 ?_
     refine tq 25 ?_
     refine tq 26 ?_
     refine tq 27 ?_
     refine tq 28 ?_
     refine tq 29 ?_
     refine tq 30 ?_
     refine Ac (i:=31) rfl (by kernel_rfl) ?_
     go_wp2_with fail
     refine (Et wA1 oA1 kr3 dQ rfl).mono ?_;rintro e wA2 ⟨v,oA2,rfl,hs,hb⟩
     have hJ2:=hidden (hJ1.out.trans hs)
     have hS2:=hcellH.out wA2 oA2 hJ2.out
     have hcv:(convert 23 9 v).run Tryz.prog wA2 = .ok (.string ⟨Pi.toArray⟩) wA2:=by rw [←hPP.out.2.2.1];exact CY hb
     obtain ⟨ya,yc,rfl⟩:=Aq hb
     clear hs hb
     go_wp2_with fail
     refine ⟨fun _=>hS2, ?_⟩
     refine Ac (i:=32) rfl (by kernel_rfl) ?_
     go_wp2_with fail
     refine ⟨fun _=>hS2, ?_⟩
     refine tq 33 ?_
     refine tq 34 ?_
     refine tq 35 ?_
     refine tq 36 ?_
     refine tq 37 ?_
     refine tq 38 ?_
     refine tq 39 ?_
     refine tq 40 ?_
     refine tq 41 ?_
     refine Ac (i:=42) rfl (by kernel_rfl) ?_
     go_wp2_with fail
     refine (Et wA2 oA2 kr4 dP rfl).mono ?_;rintro e wA3 ⟨v,oA3,rfl,hs,hb⟩
     have hJ3:=hidden (hJ2.out.trans hs)
     have hS3:=hcellH.out wA3 oA3 hJ3.out
     have hcv:(convert 23 9 v).run Tryz.prog wA3 = .ok (.string ⟨Pj.toArray⟩) wA3:=by rw [←hPP.out.2.2.2];exact CY hb
     obtain ⟨ya,yc,rfl⟩:=Aq hb
     clear hs hb
     go_wp2_with fail
     refine ⟨fun _=>hS3, ?_⟩
     refine Ac (i:=43) rfl (by kernel_rfl) ?_
     go_wp2_with fail
     refine ⟨fun _=>hS3, ?_⟩
     refine tq 44 ?_
     refine tq 45 ?_
     refine tq 46 ?_
     refine tq 47 ?_
     refine tq 48 ?_
     refine tq 49 ?_
     refine tq 50 ?_
     refine tq 51 ?_
     refine tq 52 ?_
     refine tq 53 ?_
     refine tq 54 ?_
     refine Ac (i:=55) rfl (by kernel_rfl) ?_
     go_wp2_with fail
     refine (KD wA3 oA3).mono ?_;rintro e wE ⟨v,oE,rfl,hs,rfl⟩
     have hJE:=hidden (hJ3.out.trans hs)
     have hSE:=hcellH.out wE oE hJE.out
     clear hs
     go_wp2_with fail
     refine ⟨fun _=>hSE, ?_⟩
     refine tq 56 ?_
     refine tq 57 ?_
     refine Ae (by kernel_rfl) ?_ _
     go_wp2_with fail
     go_ret
     exact ⟨_,oE,rfl,(Bv hstH.out.1 hJE.out).Hm hM,rfl⟩

end Go.Proofs.YthmpmgknnibljaaGreat
