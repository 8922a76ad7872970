/- Law 12's msg and wakes: a known node wakes, leads, commits. -/
import Derived.Test.YthmpmgknnibljaaGreatSv12
namespace Go.Proofs.YthmpmgknnibljaaGreat
open Go.Proofs.Tryz
set_option maxRecDepth 100000
set_option maxHeartbeats 12800000
open Go Go.RowKit
attribute [local go_sem ↓] Go.wp_at_zero Go.wp_at_succ
variable {w w':World} {o o' o2:Own} {D M X Y b base id k n p pd ps:Nat} {lv v:Value} {m:List Int} {ts:DX} {ls:List Ar} {cs:List Value} {t:AZ} {y:Aj}
theorem PR (m:BG) (hm:m.May) (hl:Lines w o base lv m.ls) :
  Calls prog 25 #[Ea m lv] w (XL ai w o fun v w' o'=>Bytes w' o' v m.put):=by
 obtain ⟨la,lc,rfl⟩:=hl.form;obtain ⟨n,hn⟩:=az (m.ls.length);rw [hn] at hl ⊢;have s1:=(aj.refl ai w o).alloc (.cells [.int .u8 (m.k:Int), (m.e:aV), (m.c:aV), (m.at':aV), (m.com:aV), .slice la n lc].toArray 46) (0,0);have b1:=heap_alloc_new w (.cells [.int .u8 (m.k:Int), (m.e:aV), (m.c:aV), (m.at':aV), (m.com:aV), .slice la n lc].toArray 46);have hld:=ae (Ip (AV b1) rfl);have hpt:=Ue m hm (lv := .slice la n lc) (hl.step s1 id);unfold Ea at hpt;have AlE:=ae hpt;have hs1:=ae s1;clear hl s1 b1 hpt;unfold Ea;go_enter func25,ntmps25
 go_wp2_with (first
  | ((with_reducible apply Bo);exact hld.out;simp only [Act.put,lsa,lsz,lss]))
 refine AlE.out.mono ?_;rintro e w3 ⟨v3,o3,rfl,hs3,bv,rfl,hnb⟩;have hF:=aa2 (hs1.out.trans hs3) hnb.bytes;clear AlE hs3 hnb hld hs1;go_wp2_with fail;go_ret;exact ⟨_,o3,rfl,hF.out.1,hF.out.2⟩
theorem Et (w:World) (o:Own) (m:BG) (hm:m.May) (hn:m.ls=[]) :
  Calls prog 25 #[.agg #[.int .u8 (m.k:Int), (m.e:aV), (m.c:aV), (m.at':aV), (m.com:aV), .slice none 0 0]] w (XL ai w o fun v w' o'=>Bytes w' o' v m.put):=by
 have h:Lines w o 0 (.slice none 0 0) m.ls:=by rw [hn];exact Lines.nil w o 0
 exact PR m hm h
theorem RH (h:M<D):∀ k,InN D D k->EN M k:=fun k hk=>by unfold InN at hk;show M<k;omega
theorem FP (h:M<D):∀ k,EN D k->EN M k:=fun k hk=>by have:D<k:=hk;show M<k;omega
theorem Aj.Fg (y:Aj) (s:Nat) (hs:s<y.n) (hi:s ≠ y.id) {m:BG} (hm:m.May):y.Gj (s:Int) m.put=y.hear s m:=by
 unfold Aj.Gj;rw [if_neg aP,ET hm];simp
def wm1:BG:=⟨2,3,0,0,0,[]⟩
def wm2:BG:=⟨6,3,0,0,0,[]⟩
def wm3:BG:=⟨6,3,0,1,0,[]⟩
def wz0:Aj:=Aj.new 0 3 ⟨0,0,[]⟩
def wz1:Aj:=⟨0,3,⟨0,0,[]⟩, .follows,1,0,0⟩
def wz2:Aj:=⟨0,3,⟨0,0,[]⟩, .follows,2,0,0⟩
def wz3:Aj:=⟨0,3,⟨0,0,[]⟩, .follows,3,0,0⟩
def wz4:Aj:=⟨0,3,⟨3,0,[]⟩, .stands 3 [some (0,[]),none,none],0,0,0⟩
def wz5:Aj:=⟨0,3,⟨3,3,[]⟩, .leads 3 [0, -1, -1] 0 false,0,3,0⟩
def wz6:Aj:=⟨0,3,⟨3,3,[]⟩, .leads 3 [0,0, -1] 0 true,0,3,0⟩
def wz7:Aj:=⟨0,3,⟨3,3,[⟨3,[97]⟩]⟩, .leads 3 [1,0, -1] 0 true,0,3,0⟩
def wz8:Aj:=⟨0,3,⟨3,3,[⟨3,[97]⟩]⟩, .leads 3 [1,1, -1] 0 true,0,3,1⟩
theorem wt1:wz0.tick=(wz1,[]):=bf
theorem wt2:wz1.tick=(wz2,[]):=bf
theorem wt3:wz2.tick=(wz3,[]):=bf
theorem wt4:wz3.tick=(wz4,[(1,⟨1,3,0,0,0,[]⟩),(2,⟨1,3,0,0,0,[]⟩)]):=bf
theorem wt5:wz4.hear 1 wm1=(wz5,[(1,⟨4,3,0,0,0,[]⟩),(2,⟨4,3,0,0,0,[]⟩)]):=bf
theorem wt6:wz5.hear 1 wm2=(wz6,[]):=bf
theorem wt7:wz6.BL [97]=(wz7,0):=bf
theorem wt8:wz7.hear 1 wm3=(wz8,[]):=bf
theorem Zx:wm1.May:=by unfold wm1;exact ⟨bz,bz,bz,bz,bz,bz,bz,bz,bz,bz,bz,bz,bz⟩
theorem Zw:wm2.May:=by unfold wm2;exact ⟨bz,bz,bz,bz,bz,bz,bz,bz,bz,bz,bz,bz,bz⟩
theorem Zv:wm3.May:=by unfold wm3;exact ⟨bz,bz,bz,bz,bz,bz,bz,bz,bz,bz,bz,bz,bz⟩
theorem Dn.EG {ts:List (Nat × List UInt8)} (h:Dn w o v ts) (hn:ts.length=n):∃ a c,v = .slice a n c:=by
 rw [<-hn];exact h.form
theorem Lines.EG (h:Lines w o base v ls) (hn:ls.length=n):∃ a c,v = .slice a n c:=by
 rw [<-hn];exact h.form
theorem CO {w1 w2:World} {o1:Own} (h:M<D) (s:aj (EN M) w o w1 o1) (s2:aj (InN D D) w1 o1 w2 o2):aj (EN M) w o w2 o2:=s.trans (s2.mono (RH h))
theorem Bv {w1 w2:World} {o1:Own} (s:aj (EN M) w o w1 o1) (s2:aj ai w1 o1 w2 o2):aj (EN M) w o w2 o2:=s.trans (s2.LW (M:=M))
theorem KD (w:World) (o:Own):Calls prog 10 #[] w (XL ai w o fun v _ _=>v = .bool true):=by
 obtain ⟨M, -,hM⟩:=EZ o 0 w.heap.size;obtain ⟨D,hD⟩:∃ D,D=M+1:=⟨_,rfl⟩;have hMD:M<D:=aP
 have hD0:D ≠ 0:=aP
 have hop:=IJ 0 3 w o D hD0 aP aP aP;clear hD;go_enter func10,ntmps10;go_wp2_with fail;refine hop.mono ?_;rintro e W1 ⟨v,o1,rfl,hs,pd,ps,pz,rfl,hg⟩;have hst:=hs.mono (FP hMD);have hc:=KE hg aP aP bz wt1;clear hs hop hg;go_wp2_with fail;refine hc.mono ?_;rintro e W2 ⟨v,o2,rfl,hs,ho,hg⟩;have hst:=CO hMD hst hs;obtain ⟨xa1,xc1,rfl⟩:=ho.EG (n:=0) rfl;have hc:=KE hg aP aP bz wt2;clear hs ho;go_wp2_with fail;refine hc.mono ?_;rintro e W3 ⟨v,o3,rfl,hs,ho,hg⟩;have hst:=CO hMD hst hs;obtain ⟨xa2,xc2,rfl⟩:=ho.EG (n:=0) rfl;have hc:=KE hg aP aP bz wt3;clear hs ho;go_wp2_with fail;refine hc.mono ?_;rintro e W4 ⟨v,o4,rfl,hs,ho,hg⟩;have hst:=CO hMD hst hs;obtain ⟨xa3,xc3,rfl⟩:=ho.EG (n:=0) rfl;have hc:=KE hg aP aP bz wt4;clear hs ho;go_wp2_with fail;refine hc.mono ?_;rintro e W5 ⟨v,o5,rfl,hs,ho,hg⟩;have hst:=CO hMD hst hs;obtain ⟨xa4,xc4,rfl⟩:=ho.EG (n:=2) rfl;have hc:=VO hg aP (e:=3) bz;clear hs ho;go_wp2_with fail;refine hc.mono ?_;rintro e W6 ⟨v,o6,rfl,hs,rfl⟩;have hst:=Bv hst hs;have hg:=hg.step0 hs;have hc:=Et W6 o6 wm1 Zx rfl;clear hs;go_wp2_with fail;refine hc.mono ?_;rintro e W7 ⟨v,o7,rfl,hs,hb⟩;have hst:=Bv hst hs;have hg:=hg.step0 hs;have hc:=Fz hg aP 1 hb bz 0 (fun m hm=>by rw [ET Zx] at hm;cases hm;decide) aP ((Aj.Fg _ 1 bz bz Zx).trans wt5);obtain ⟨ya6,yc6,rfl⟩:=Aq hb;clear hs hb;go_wp2_with fail;refine hc.mono ?_;rintro e W8 ⟨v,o8,rfl,hs,ho,hg⟩;have hst:=CO hMD hst hs;obtain ⟨xa6,xc6,rfl⟩:=ho.EG (n:=2) rfl;have hc:=Et W8 o8 wm2 Zw rfl;clear hs ho;go_wp2_with fail;refine hc.mono ?_;rintro e W9 ⟨v,o9,rfl,hs,hb⟩;have hst:=Bv hst hs;have hg:=hg.step0 hs;have hc:=Fz hg aP 1 hb bz 0 (fun m hm=>by rw [ET Zw] at hm;cases hm;decide) aP ((Aj.Fg _ 1 bz bz Zw).trans wt6);obtain ⟨ya8,yc8,rfl⟩:=Aq hb;clear hs hb;go_wp2_with fail;refine hc.mono ?_;rintro e W10 ⟨v,o10,rfl,hs,ho,hg⟩;have hst:=CO hMD hst hs;obtain ⟨xa8,xc8,rfl⟩:=ho.EG (n:=0) rfl;have hc:=IR hg (b:=true) rfl;clear hs ho;go_wp2_with fail;refine hc.mono ?_;rintro e w' ⟨rfl,rfl⟩;have hcv:(convert 23 23 (.slice (some ⟨W10.heap.size,0,none⟩) 1 1)).run prog (W10.alloc (.cells #[.int .u8 97] 5)) = .ok (.slice (some ⟨W10.heap.size,0,none⟩) 1 1) (W10.alloc (.cells #[.int .u8 97] 5 (1,2))):=GU W10 [.int .u8 97] 1 1;have hb:Bytes (W10.alloc (.cells (bvs [97]).toArray 5 (1,2))) (Ak o10 W10.heap.size (0,0)) (.slice (some ⟨W10.heap.size,0,none⟩) 1 1) [97] := .inr ⟨W10.heap.size,0,1,rfl,bz,bz,by rw [Au],bu,AV (heap_alloc_new W10 _)⟩;have s:=(aj.refl ai W10 o10).alloc (.cells (bvs [97]).toArray 5 (1,2)) (0,0);have AqP:(W10.alloc (.cells #[.int .u8 97] 5 (1,2)))=W10.alloc (.cells (bvs [97]).toArray 5 (1,2)):=rfl;obtain ⟨V,hV⟩:=az (W10.alloc (.cells (bvs [97]).toArray 5 (1,2)));obtain ⟨oV,hoV⟩:=az (Ak o10 W10.heap.size (0,0));rw [hV] at hb s AqP;rw [hoV] at hb s;rw [AqP] at hcv;have hst:=Bv hst s;have hg:=hg.step0 s;have hc:=Gs hg aP hb bu wt7;clear hb s AqP hV hoV;go_wp2_with fail;refine hc.mono ?_;rintro e W11 ⟨v,o11,rfl,hs,rfl,hg⟩;have hst:=CO hMD hst hs;have hc:=ED hg bu (ls:=[]) rfl;clear hs;go_wp2_with fail;refine hc.mono ?_;rintro e W12 ⟨v,o12,rfl,hs,hl⟩;have hst:=Bv hst hs;have hg:=hg.step0 hs;obtain ⟨za,zc,rfl⟩:=hl.EG (n:=0) rfl;have hc:=Et W12 o12 wm3 Zv rfl;clear hs hl;go_wp2_with fail;refine hc.mono ?_;rintro e W13 ⟨v,o13,rfl,hs,hb⟩;have hst:=Bv hst hs;have hg:=hg.step0 hs;have hc:=Fz hg aP 1 hb bz 0 (fun m hm=>by rw [ET Zv] at hm;cases hm;decide) bu ((Aj.Fg _ 1 bz bz Zv).trans wt8);obtain ⟨BdU,BdT,rfl⟩:=Aq hb;clear hs hb;go_wp2_with fail;refine hc.mono ?_;rintro e W14 ⟨v,o14,rfl,hs,ho,hg⟩;have hst:=CO hMD hst hs;obtain ⟨Bed,BdY,rfl⟩:=ho.EG (n:=0) rfl;have hc:=ED hg bu (ls:=[⟨3,[97]⟩]) rfl;clear hs ho;go_wp2_with fail;refine hc.mono ?_;rintro e W15 ⟨v,o15,rfl,hs,hl⟩;have hst:=Bv hst hs;obtain ⟨za,zc,rfl⟩:=hl.EG (n:=1) rfl;obtain ⟨b,off,bv,rfl,r0,y0, -⟩:=hl.at (i:=0) rfl;have hcv:(convert 23 9 bv).run prog W15 = .ok (.string ⟨#[97]⟩) W15:=CY y0;obtain ⟨ba,bc,rfl⟩:=Aq y0;have hcv:(convert 23 9 (.slice ba 1 bc)).run prog W15 = .ok (.string ⟨#[97]⟩) W15:=hcv;have d0:W15.cell? (aW b (off+1))=some (.slice ba 1 bc):=r0 1 _ rfl;have hst:=ae hst;clear r0 y0 hl hs hc;go_wp2_with fail;go_ret;exact ⟨_,_,rfl,hst.out.Hm hM,rfl⟩
theorem Bi.dsk {S A B:Nat} {s:AZ} (h:Bi w o S A B D ps pd base s):Bg w o D pd s.d:=by
 obtain ⟨_,_,_,_,_,_,_,_,_,_,_,hd⟩:=h;exact hd
theorem Bi.under {S A B:Nat} {s:AZ} {d':Af} (ht:Qw S A B D) (h:Bi w o S A B D ps pd base s) (st:aj (ak D) w o w' o') (hd:Bg w' o' D pd d') :
  Bi w' o' S A B D ps pd base { s with d:=d' }:=by
 obtain ⟨X,Y,pa,pb,k,kv,hp,hb,hl,ha,hbb, -⟩:=h;have hX:¬ ak D X:=by
  intro (h:X=D)
  rcases hp with ⟨rfl, -⟩ | ⟨rfl, -⟩
  ·exact ht.ad h
  ·exact ht.bd h
 have hY:¬ ak D Y:=by
  intro (h:Y=D)
  rcases hp with ⟨-,rfl⟩ | ⟨-,rfl⟩
  ·exact ht.bd h
  ·exact ht.ad h
 have h0:¬ ak D 0:=by intro (h:0=D);exact ht.d0 h.symm
 exact ⟨X,Y,pa,pb,k,kv,hp,hb.step st (fun (h:S=D)=>ht.sd h),hl.step st h0,ha.step st hX h0,hbb.step st hY h0,hd⟩
theorem aF:∀ k,ak D k->qG (M+1) (M+2) (M+3) D k:=fun k (h:k=D) => .inr (.inr (.inr h))
theorem gK (h:D<=M/\D ≠ 0):Qw (M+1) (M+2) (M+3) D:=⟨aP,aP,aP,h.2,aP,aP,aP,aP,aP,aP⟩
theorem Bc.under {pz:Nat} {z:Am} {d':Af} (h:Bc w o D M pz ps pd z) (st:aj (ak D) w o w' o') (hd:Bg w' o' D pd d') :
  Bc w' o' D M pz ps pd { z with s:={ z.s with d:=d' } }:=
 h.restore (st.mono aF) (h.store.under (gK h.tags) st hd)
def Wp (w:World) (o:Own) (b off:Nat) (cs:List Value):Prop:=w.rangeAt b off cs/\b<w.heap.size/\(o b).1=0
theorem Wp.step {T:Nat->Prop} {off:Nat} (h:Wp w o b off cs) (s:aj T w o w' o') (hT:¬ T 0):Wp w' o' b off cs:=
 ⟨Cf h.1 (s.block b h.2.1 (by rw [h.2.2];exact hT)),Nat.lt_of_lt_of_le h.2.1 s.size,by rw [s.own b h.2.1];exact h.2.2⟩
theorem RD {t:TypeId} {zs vs:List Value} (hz:((prog.info? t).bind (·.zero)).map (·.cells)=some zs.toArray) (hn:(prog.info? t).map (·.size)=some vs.length) (hl:vs.length=zs.length) (h1:vs.all (·.oneCell')=true) (w:World) (o:Own) :
  ∃ b:Nat,∃ Wz W2 o2,(Instr.alloc t true (.tuple #[])).run prog w = .ok (.pointer b) Wz/\(Instr.storeAt t (.pointer b) (.agg vs.toArray)).run prog Wz = .ok () W2/\aj ai w o W2 o2/\Wp W2 o2 b 0 vs:=by
 refine ⟨w.heap.size,_,w.alloc (.cells vs.toArray t),Ak o w.heap.size (0,0),AB (P:=prog) w t _ hz, ?_,(aj.refl ai w o).alloc _ _,AV (heap_alloc_new w _),bu,by rw [Au]⟩;have h:=(Ba (P:=prog) (ty:=t) (vs:=vs) (heap_alloc_new w (.cells zs.toArray t)) hl hn h1).1;rw [Be w zs.toArray t vs (by simpa using hl.symm)] at h;exact h
theorem LK {p c:BitVec 64} (w:World) (o:Own) (h:∃ a n k,lv = .slice a n k) :
  ∃ b:Nat,∃ Wz W2 o2,(Instr.alloc 55 true (.tuple #[])).run prog w = .ok (.pointer b) Wz/\(Instr.storeAt 55 (.pointer b) (Dy p c lv)).run prog Wz = .ok () W2/\aj ai w o W2 o2/\Wp W2 o2 b 0 (BR p c lv):=by
 obtain ⟨a,n,k,rfl⟩:=h;exact RD (t:=55) (zs:=[.int .u64 0, .int .u64 0, .slice none 0 0]) (vs:=BR p c (.slice a n k)) OZ Uz rfl rfl w o
section
variable {w w':World} {o o':Own} {D M pz ps pd K B:Nat} {y y':Aj}
theorem SP.still (h:SP K t):t.d.kill.BJ []={ t.d with left := -1 }:=jL h.sg.dd h.sg.row []
theorem jX (hd:Bg w o D pd t.d):Calls prog 30 #[.pointer pd] w (XL (ak D) w o fun v w' o'=>v = .tuple #[]/\Bg w' o' D pd t.d.kill):=aQ hd
theorem jZ (h:SP K t) (hD0:D ≠ 0) (hd:Bg w o D pd t.d.kill) (a:Option Addr) (c:Nat):Calls prog 36 #[.pointer pd, .slice a 0 c] w (XL (ak D) w o fun v w' o'=>v = .tuple #[]/\Bg w' o' D pd { t.d with left := -1 }):=
 jS hd hD0 (by show t.d.row.length<=1000000;rw [h.sg.row];simp) (.slice a 0 c) [] (.inl ⟨⟨_,_,rfl⟩,rfl,rfl⟩) bu h.still
theorem jO (h:SP K t) (hK:K<65536) (Mx:Nat) (hDx:D<=Mx) (hD0:D ≠ 0) (hd:Bg w o D pd { t.d with left := -1 }) :
  Calls prog 37 #[.pointer pd] w (XL (EN Mx) w o fun v w' o'=>∃ ps:Nat,v = .tuple #[.pointer ps, .int .i64 0]/\Bi w' o' (Mx+1) (Mx+2) (Mx+3) D ps pd 0 { t with d:={ t.d with left := -1 } }):=
 YG Mx hDx hD0 h.jH.sg hK (by rw [h.jH.pg];omega) (t:={ t with d:={ t.d with left := -1 } }) hd
theorem Xa (h:SP K t) (hDM:D<=M/\D ≠ 0) (hs:Bi w o (M+1) (M+2) (M+3) D ps pd 0 t) (h1:1<=n) (h3:n<=3) (hi:id<n) (hl:En B t.kept.lines) (hc:t.kept.current.toNat<=t.kept.promised.toNat) (hp:t.kept.promised.toNat<=281474976710656) :
  Calls prog 27 #[(id:aV), (n:aV), .pointer ps] w (XL ai w o fun v w' o'=>∃ pz:Nat,v = .tuple #[.pointer pz, .int .i64 0]/\GN w' o' D M pz ps pd K B (Aj.new id n t.kept)):=by
 refine (XC hDM hs h.dead id n h1 h3 hi).mono ?_;rintro e w' ⟨v,o',rfl,hs,pz,rfl, -,hz⟩;exact ⟨_,o',rfl,hs,pz,rfl,_,hz,⟨h,Aj.TB h1 h3 hi hl hc hp⟩,rfl⟩
end
def Aai (id n:Nat) (k:AX) (lv:Value) (ro:Int) (mine:BitVec 64) (waited:Nat) (seen:BitVec 64) (Ag:Nat) (hv pv mv:Value) (base:Int) (ready:Bool):List Value:=
 [(id:aV), (n:aV), (k.promised:aV), (k.current:aV),lv, .int .i64 ro, (mine:aV), (waited:aV), (seen:aV), (Ag:aV),hv,pv,mv, .int .i64 base, .bool ready]
def Ahv (w:World) (o:Own) (Y:Nat) (ty:TypeId) (v:Value) (n:Nat) (cs:List Value):Prop:=∃ b:Nat,v = .slice b n n/\w.heap[b]?=some (.cells cs.toArray ty (0,0))/\(o b).1=Y
def Agm (w:World) (o:Own) (cs:List Value) (has:List (Option (BitVec 64 × List Ar))):Prop:=
 cs.length=has.length*3/\∀ i (c:BitVec 64) ls,has[i]?=some (some (c,ls))->cs[i*3+1]?=some (c:aV)/\∃ lv,cs[i*3+2]?=some lv/\Lines w o 0 lv ls
def AcW (w:World) (o:Own) (Y:Nat) (ro:Int) (mine:BitVec 64) (hv pv mv:Value) (base:Int) (ready:Bool):Adl->Prop
 | .follows=>ro=0
 | .stands m has=>ro=1/\mine=m/\Ahv w o Y 4 hv has.length (has.map fun x => .bool x.isSome)/\∃ cs,Ahv w o Y 120 pv has.length cs/\Agm w o cs has
 | .leads m nR b r=>ro=2/\mine=m/\Ahv w o Y 3 mv nR.length (ivs nR)/\base=(b:Int)/\ready=r
def AaB (w:World) (o:Own) (Y p:Nat) (y:Aj):Prop:=
 ∃ lv ro mine hv pv mv base ready,w.heap[p]?=some (.cells (Aai y.id y.n y.k lv ro mine y.waited y.seen y.Ag hv pv mv base ready).toArray 124 (0,0))/\o p=(Y,0)/\Lines w o 0 lv y.k.lines/\AcW w o Y ro mine hv pv mv base ready y.BB
section
variable {T:Nat->Prop} {w w':World} {o o':Own} {Y p:Nat} {y:Aj}
theorem Ahv.step {ty:TypeId} (h:Ahv w o Y ty v n cs) (s:aj T w o w' o') (hY:¬ T Y):Ahv w' o' Y ty v n cs:=by
 obtain ⟨b,h1,h2,h3⟩:=h;exact ⟨b,h1,(s.block b (au h2) (by rw [h3];exact hY)).trans h2,by rw [s.own b (au h2)];exact h3⟩
theorem Agm.step {has:List (Option (BitVec 64 × List Ar))} (h:Agm w o cs has) (s:aj T w o w' o') (h0:¬ T 0):Agm w' o' cs has:=
 ⟨h.1,fun i c ls hi=>by obtain ⟨a,lv,b,d⟩:=h.2 i c ls hi;exact ⟨a,lv,b,d.step s h0⟩⟩
theorem AcW.step {ro:Int} {mine:BitVec 64} {hv pv mv:Value} {base:Int} {ready:Bool} {r:Adl} (h:AcW w o Y ro mine hv pv mv base ready r) (s:aj T w o w' o') (hY:¬ T Y) (h0:¬ T 0):AcW w' o' Y ro mine hv pv mv base ready r:=by
 cases r with
 | follows=>exact h
 | stands m has=>obtain ⟨a,b,c,cs,d,e⟩:=h;exact ⟨a,b,c.step s hY,cs,d.step s hY,e.step s h0⟩
 | leads m nR b r=>obtain ⟨a,b,c,d⟩:=h;exact ⟨a,b,c.step s hY,d⟩
theorem AaB.step (h:AaB w o Y p y) (s:aj T w o w' o') (hY:¬ T Y) (h0:¬ T 0):AaB w' o' Y p y:=by
 obtain ⟨lv,ro,mine,hv,pv,mv,base,ready,h1,h2,h3,h4⟩:=h;exact ⟨lv,ro,mine,hv,pv,mv,base,ready,(s.block p (au h1) (by rw [h2];exact hY)).trans h1,(s.own p (au h1)).trans h2,h3.step s h0,h4.step s hY h0⟩
end
theorem AeU (h:AaB w o Y p y) (hn:1<=y.n/\y.n<=3) (f:Nat) (e:BitVec 64) :
  Calls prog 62 #[.pointer p, (f:aV), (e:aV)] w fun ex w'=>ex = .returned (.bool (y.owns f e))/\w=w':=by
 obtain ⟨lv,ro,mine,hv,pv,mv,base,ready,h1, -, -, -⟩:=h;have c1:=ag h1 1;simp only [Aai,ax,ay] at c1;obtain ⟨N,hN⟩:=az (y.n);rw [hN] at c1 hn;have hnI:(1:Int)<=(N:Int)/\(N:Int)<=3:=aP
 have hw1:IntKind.u64.wrap (N:Int)=(N:Int):=by simp [IntKind.wrap,IntKind.bits,IntKind.signed];omega
 have hb:=e.isLt;have hr:e.toNat % N<3:=Nat.lt_of_lt_of_le (Nat.mod_lt _ aP) hn.2;have hw2:IntKind.i64.wrap (((e.toNat % N:Nat):Int))=((e.toNat % N:Nat):Int):=IntWalk.i64_in _ aP;have hres:y.owns f e=(((e.toNat % N:Nat):Int) == (f:Int)):=by
  unfold Aj.owns;rw [hN]
  by_cases h:e.toNat % N=f
  ·simp [h]
  ·have:¬ ((e.toNat % N:Nat):Int)=(f:Int):=aP
   simp only [beq_eq_false_iff_ne.2 h,beq_eq_false_iff_ne.2 this]
 have AlB:=ae hres;clear h1 hN hb hres;go_enter func62,ntmps62;go_wp2_with fail;go_ret;exact ⟨by rw [AlB.out];rfl,rfl⟩
theorem AhE (h:AaB w o Y p y) (_hn:y.n<=3) (k:Nat) (hk:k<=1000) {r:Bool} (hr:decide (y.n<2*k)=r) :
  Calls prog 121 #[.pointer p, (k:aV)] w fun ex w'=>ex = .returned (.bool r)/\w=w':=by
 obtain ⟨lv,ro,mine,hv,pv,mv,base,ready,h1, -, -, -⟩:=h;have c1:=ag h1 1;simp only [Aai,ax,ay] at c1;obtain ⟨N,hN⟩:=az (y.n);rw [hN] at c1 _hn hr;have hw:IntKind.i64.wrap (2*(k:Int))=2*(k:Int):=IntWalk.i64_in _ aP;have hres:decide ((N:Int)<2*(k:Int))=r:=by
  rw [<-hr]
  by_cases h:N<2*k
  ·rw [decide_eq_true h,decide_eq_true aP]
  ·rw [decide_eq_false h,decide_eq_false aP]
 have AlB:=ae hres;clear h1 hN hr hres;go_enter func121,ntmps121;go_wp2_with fail;go_ret;exact ⟨by rw [<-AlB.out];rfl,rfl⟩
theorem AfH (h:AaB w o Y p y) :
  Calls prog 69 #[.pointer p] w fun ex w'=>ex = .returned (.bool y.OD)/\w=w':=by
 obtain ⟨r,hr⟩:=az (y.OD);rw [hr];obtain ⟨lv,ro,mine,hv,pv,mv,base,ready,h1, -, -,h4⟩:=h;have c5:=ag h1 5;have c14:=ag h1 14;simp only [Aai,ax,ay] at c5 c14;unfold Aj.OD at hr
 cases hro:y.BB with
 | follows =>
  rw [hro] at hr h4;obtain rfl:ro=0:=h4;subst hr;clear h1 hro;go_enter func69,ntmps69;go_wp2_with fail;go_ret;exact ⟨rfl,rfl⟩
 | stands m has =>
  rw [hro] at hr h4;obtain ⟨rfl, -⟩:=h4;subst hr;clear h1 hro;go_enter func69,ntmps69;go_wp2_with fail;go_ret;exact ⟨rfl,rfl⟩
 | leads m nR b q =>
  rw [hro] at hr h4;obtain ⟨rfl, -, -, -,rfl⟩:=h4;simp only at hr;subst hr;clear h1 hro;go_enter func69,ntmps69;go_wp2_with fail;go_ret;exact ⟨rfl,rfl⟩
theorem Abi (h:AaB w o Y p y) (hY:Y ≠ 0) :
  Calls prog 64 #[.pointer p] w (XL (ak Y) w o fun v w' o'=>v = .tuple #[]/\AaB w' o' Y p y.follow):=by
 obtain ⟨lv,ro,mine,hv,pv,mv,base,ready,h1,h2,h3, -⟩:=h;have c5:=ag h1 5;have c7:=ag h1 7;have f5:=Ap h1 5;have f7:=Ap h1 7;simp only [Aai,ax,ay] at c5 c7;have b1:=Ai (i:=5) (.int .i64 0) h1;have b2:=Ai (i:=7) (.int .i64 0) b1;have st:=((aj.refl (ak Y) w o).setCell (a:=(aW p 5)) (.int .i64 0) (.inl (by show (o p).1=Y;rw [h2]))).setCell (a:=(aW p 7)) (.int .i64 0) (.inl (by show (o p).1=Y;rw [h2]));have hF:=aa2 st (show AaB _ _ Y p y.follow from ⟨lv,0,mine,hv,pv,mv,base,ready,b2,h2,h3.step st (fun h=>hY h.symm),rfl⟩);clear h1 h2 h3 b1 b2 st;go_enter func64,ntmps64;go_wp2_with fail
 go_end0
 exact ⟨_,o,rfl,hF.out.1,rfl,hF.out.2⟩
theorem AkQ (Y:Nat) (id n:Nat) (w:World) (o:Own) :
  Calls prog 31 #[(id:aV), (n:aV)] w (XL ai w o fun v w' o'=>∃ p:Nat,v = .pointer p/\AaB w' o' Y p (Aj.new id n ⟨0,0,[]⟩)):=by
 have st:=(aj.refl ai w o).alloc (.cells (Aai id n ⟨0,0,[]⟩ (.slice none 0 0) 0 0 0 0 0 (.slice none 0 0) (.slice none 0 0) (.slice none 0 0) 0 false).toArray 124) (Y,0);have hb:=heap_alloc_new w (.cells (Aai id n ⟨0,0,[]⟩ (.slice none 0 0) 0 0 0 0 0 (.slice none 0 0) (.slice none 0 0) (.slice none 0 0) 0 false).toArray 124);have hF:=aa2 st (show AaB _ (Ak o w.heap.size (Y,0)) Y w.heap.size (Aj.new id n ⟨0,0,[]⟩) from ⟨.slice none 0 0,0,0, .slice none 0 0, .slice none 0 0, .slice none 0 0,0,false,hb,Au _ _ _,Lines.nil _ _ 0,rfl⟩);clear st hb;go_enter func31,ntmps31;go_wp2_with fail;go_ret;exact ⟨_,_,rfl,hF.out.1,_,rfl,hF.out.2⟩
def AaD (x:Nat × BG) (lv:Value):List Value := .int .i64 (x.1:Int) :: Bf x.2 lv
def AaT (w:World) (o:Own) (cs:List Value) (ts:DX):Prop:=
 cs.length=ts.length*7/\∀ i x,ts[i]?=some x->∃ lv,(∀ j u,(AaD x lv)[j]?=some u->cs[i*7+j]?=some u)/\Lines w o 0 lv x.2.ls
def AaA (w:World) (o:Own) (v:Value) (ts:DX):Prop:=∃ cs,sH w o v ts.length cs/\AaT w o cs ts
section
variable {T:Nat->Prop} {w w':World} {o o':Own}
theorem AaT.step (h:AaT w o cs ts) (s:aj T w o w' o') (hT:¬ T 0):AaT w' o' cs ts:=
 ⟨h.1,fun i x hx=>by obtain ⟨lv,a,b⟩:=h.2 i x hx;exact ⟨lv,a,b.step s hT⟩⟩
theorem AaT.nil (w:World) (o:Own):AaT w o [] []:=⟨rfl,fun i x hx=>by simp at hx⟩
theorem AaT.single {x:Nat × BG} (h:Lines w o 0 lv x.2.ls):AaT w o (AaD x lv) [x]:=by
 refine ⟨rfl,fun i y hy => ?_⟩
 match i,hy with
 | 0,hy =>
  simp only [ay,Option.some.injEq] at hy;subst hy;exact ⟨lv,fun j u hu=>by rw [Nat.zero_mul,Nat.zero_add];exact hu,h⟩
 | i+1,hy=>simp at hy
theorem AaA.step (h:AaA w o v ts) (s:aj T w o w' o') (hT:¬ T 0):AaA w' o' v ts:=by
 obtain ⟨cs,h1,h2⟩:=h;exact ⟨cs,h1.step s hT,h2.step s hT⟩
theorem AaA.nil (w:World) (o:Own):AaA w o (.slice none 0 0) []:=⟨[], .inl ⟨⟨_,_,rfl⟩,rfl,rfl⟩,AaT.nil w o⟩
theorem AaA.form (h:AaA w o v ts):∃ a c,v = .slice a ts.length c:=by
 obtain ⟨cs,h1, -⟩:=h;exact Aq h1
end
theorem Adk (w:World) (a:Int) (k:Int) (e c:Int) (at' com:Int) (lv:Value):(Instr.buildSlice 70 1 #[(0, .agg #[.int .i64 a, .int .u8 k, .int .u64 e, .int .u64 c, .int .i64 at', .int .i64 com,lv])]).run prog w = .ok (.slice w.heap.size 1 1) (w.alloc (.cells [.int .i64 a, .int .u8 k, .int .u64 e, .int .u64 c, .int .i64 at', .int .i64 com,lv].toArray 126)):=
 Dv w 70 126 [.int .i64 0, .int .u8 0, .int .u64 0, .int .u64 0, .int .i64 0, .int .i64 0, .slice none 0 0] (.agg #[.int .i64 a, .int .u8 k, .int .u64 e, .int .u64 c, .int .i64 at', .int .i64 com,lv]) [.int .i64 a, .int .u8 k, .int .u64 e, .int .u64 c, .int .i64 at', .int .i64 com,lv] underlying70 bf rfl bu bu rfl
theorem AeI (h:AaB w o Y p y) (_hn:y.k.lines.length<=256) (f:Nat) (e:BitVec 64) :
  Calls prog 124 #[.pointer p, (f:aV), (e:aV)] w (XL ai w o fun v w' o'=>AaA w' o' v (y.ack f e)):=by
 obtain ⟨lv,ro,mine,hv,pv,mv,base,ready,h1, -,h3, -⟩:=h;obtain ⟨la,lc,rfl⟩:=h3.form;have c4:=ag h1 4;simp only [Aai,ax,ay] at c4;obtain ⟨L,hL⟩:=az (y.k.lines.length);have hbs:=Adk w (f:Int) 6 (e.toNat:Int) 0 (L:Int) 0 (.slice none 0 0);have st:=(aj.refl ai w o).alloc (.cells [(f:aV), .int .u8 6, (e:aV), .int .u64 0, (L:aV), .int .i64 0, .slice none 0 0].toArray 126) (0,0);have hb:=heap_alloc_new w (.cells [(f:aV), .int .u8 6, (e:aV), .int .u64 0, (L:aV), .int .i64 0, .slice none 0 0].toArray 126);have hF:=ae (aI st (show AaA _ (Ak o w.heap.size (0,0)) (.slice w.heap.size 1 1) (y.ack f e) from
  ⟨_, .inr ⟨w.heap.size,0,1,rfl,Nat.le_refl _,by simp [maxLen],by rw [Au],bu,AV hb⟩,by unfold Aj.ack;rw [hL];exact AaT.single (x:=(f,⟨6,e,0,L,0,[]⟩)) (Lines.nil _ _ 0)⟩))
 have AaP:=ae hbs;rw [hL] at c4;clear h1 h3 hL hbs st hb;go_enter func124,ntmps124
 go_wp2_with ((with_reducible apply BO #[(0, .agg #[(f:aV), .int .u8 6, (e:aV), .int .u64 0, (L:aV), .int .i64 0, .slice none 0 0])] rfl);exact AaP.out;simp only [Act.put,lsa,lsz,lss])
 go_ret;exact ⟨_,_,rfl,hF.out.1,hF.out.2⟩
abbrev lV:=Nat × Nat × BG
def kJ (i:Nat) (t:DX):List lV:=t.map fun x=>(i,x.1,x.2)
def Pi (l:List Aj):Nat->List Aj × List lV
 | 0=>(l,[])
 | i+1=>match (Pi l i).1[i]? with
  | some z=>((Pi l i).1.set i z.tick.1,(Pi l i).2++kJ i z.tick.2)
  | none=>Pi l i
def Pj:Nat->Nat->List Aj->List lV->Nat->Option (List Aj)
 | 0,_,_,_,_=>none
 | f+1,b,l,all,k=>match all[k]? with
  | none=>some l
  | some x=>if 400<k \/ b<AP x.2.2.ls then none else match l[x.2.1]? with
   | none=>none
   | some z=>if z.n<=x.1 \/ x.1=z.id then none else Pj f (b - AP x.2.2.ls) (l.set x.2.1 (z.hear x.1 x.2.2).1) (all++kJ x.2.1 (z.hear x.1 x.2.2).2) (k+1)
def kM (b:Nat) (l:List Aj):Option (List Aj):=Pj 402 b (Pi l l.length).1 (Pi l l.length).2 0
def Wx:Nat->List Aj->Option (List Aj)
 | 0,l=>some l
 | i+1,l=>match kM 0 l with
  | none=>none
  | some l'=>Wx i l'
def lZ (n:Nat):List Aj:=(List.range n).map fun i=>Aj.new i n ⟨0,0,[]⟩
def lJ (n:Nat) (L F:List Ar):Aj:=
 ⟨0,n,⟨BitVec.ofNat 64 n,BitVec.ofNat 64 n,L⟩, .leads (BitVec.ofNat 64 n) ((L.length:Int) :: List.replicate (n - 1) (F.length:Int)) 0 true,0,if n=1 then 0 else BitVec.ofNat 64 n,if n=1 then L.length else F.length⟩
def lU (n i:Nat) (F:List Ar) (C:Nat):Aj:=⟨i,n,⟨BitVec.ofNat 64 n,BitVec.ofNat 64 n,F⟩, .follows,0,BitVec.ofNat 64 n,C⟩
def grp (n:Nat) (L F:List Ar) (C:Nat):List Aj:=lJ n L F :: (List.range (n - 1)).map fun i=>lU n (i+1) F C
def Told (n:Nat) (L:List Ar):Prop:=L.length<=256/\∀ x ∈ L,x.e=BitVec.ofNat 64 n/\1<=x.b.length/\x.b.length<=4096
def kH (n:Nat) (L:List Ar) (nR:List Int) (C:Nat):Aj:=⟨0,n,⟨BitVec.ofNat 64 n,BitVec.ofNat 64 n,L⟩, .leads (BitVec.ofNat 64 n) nR 0 true,0,BitVec.ofNat 64 n,C⟩
def kt:Nat->Aj
 | 0=>Aj.new 0 1 ⟨0,0,[]⟩
 | 1=>⟨0,1,⟨0,0,[]⟩, .follows,1,0,0⟩
 | 2=>⟨0,1,⟨0,0,[]⟩, .follows,2,0,0⟩
 | 3=>⟨0,1,⟨0,0,[]⟩, .follows,3,0,0⟩
 | _=>⟨0,1,⟨1,1,[]⟩, .leads 1 [0] 0 true,0,0,0⟩
def kls (j:Nat):List Ar:=(List.range j).map fun i=>⟨1,[UInt8.ofNat i]⟩
def kp (j:Nat):Aj:=⟨0,1,⟨1,1,kls j⟩, .leads 1 [(j:Int)] 0 true,0,0,j⟩
def km1:BG:=⟨1,3,0,0,0,[]⟩
def km2:BG:=⟨5,3,0,0,0,[]⟩
def km3:BG:=⟨4,3,0,0,0,[⟨1,[120]⟩]⟩
def km4:BG:=⟨5,3,0,1,9,[⟨3,[121]⟩]⟩
def kr1:BG:=⟨2,3,0,0,0,[]⟩
def kr2:BG:=⟨3,3,0,0,0,[]⟩
def kr3:BG:=⟨6,3,0,1,0,[]⟩
def kr4:BG:=⟨6,3,0,2,0,[]⟩
def ky0:Aj:=Aj.new 1 3 ⟨0,0,[]⟩
def ky1:Aj:=⟨1,3,⟨3,0,[]⟩, .follows,0,3,0⟩
def ky2:Aj:=⟨1,3,⟨3,3,[⟨1,[120]⟩]⟩, .follows,0,3,0⟩
def ky3:Aj:=⟨1,3,⟨3,3,[⟨1,[120]⟩,⟨3,[121]⟩]⟩, .follows,0,3,2⟩
theorem Dn.at {a:Option Addr} {c:Nat} {ts:List (Nat × List UInt8)} (h:Dn w o (.slice a n c) ts) {i:Nat} {x:Nat × List UInt8} (hx:ts[i]?=some x) :
  ∃ b off bv,a=some ⟨b,off,none⟩/\w.rangeAt b (off+i*2) [(x.1:aV),bv]/\Bytes w o bv x.2/\b<w.heap.size/\(o b).1=0:=by
 obtain ⟨cs,hs,hc⟩:=h;obtain ⟨e1,bv,e2,e3⟩:=hc.2 i x hx;have hi:=(List.getElem?_eq_some_iff.1 hx).1
 rcases hs with ⟨-,h0, -⟩ | ⟨b,off,cap,hv,hl,hm,ho,hb,hr⟩
 ·omega
 ·simp only [Value.slice.injEq] at hv;obtain ⟨rfl, -, -⟩:=hv;refine ⟨b,off,bv,rfl,fun j v hj => ?_,e3,hb,ho⟩
  match j with
  | 0 =>
   simp only [ay,Option.some.injEq] at hj;subst hj;have:=hr (2*i) _ e1;rw [show off+i*2+0=off+2*i by omega];exact this
  | 1 =>
   simp only [ax,ay,Option.some.injEq] at hj;subst hj;have:=hr (2*i+1) _ e2;rw [show off+i*2+1=off+(2*i+1) by omega];exact this
  | k+2=>simp at hj
def kP (w:World) (o:Own) (base X:Nat) (ty:TypeId) (sz:Nat) (v:Value) (n:Nat) (cs:List Value):Prop:=
 w.ownsRow base ty sz v n cs/\∀ g,v.ownBlock=some g->o g=(X,0)
section
variable {w w' W:World} {o o':Own} {base X sz n:Nat} {ty:TypeId} {v:Value} {cs:List Value}
theorem kP.nil (w:World) (o:Own) (base X:Nat) (ty:TypeId) (sz:Nat):kP w o base X ty sz (.slice none 0 0) 0 []:=⟨World.ownsRow_nil _ _ _ _,fun g hg=>by simp [Value.ownBlock] at hg⟩
theorem kP.step {T:Nat->Prop} (h:kP w o base X ty sz v n cs) (s:aj T w o w' o') (hT:¬ T X):kP w' o' base X ty sz v n cs:=
 ⟨Ci h.1 fun k hk=>s.block k (h.1.lt k hk).2 (by rw [h.2 k hk];exact hT),fun g hg=>by rw [s.own g (h.1.lt g hg).2];exact h.2 g hg⟩
theorem kP.form (h:kP w o base X ty sz v n cs):∃ a c,v = .slice a n c:=BA h.1
theorem kP.append {t:TypeId} {zs:List Value} {bytes m:Nat} {yv:Value} {news:List Value} (h:kP W o base X ty sz v n cs) (ht:prog.underlying t=some (.slice ty)) (hi:(prog.info? ty).map (fun i=>(i.zero.map (fun z=>z.cells.toList),i.size,i.bytes))=some (some zs,sz,bytes)) (hzs:zs.length=sz) (hsz:0<sz)
  (hs1:(prog.info? ty).map (·.size)=some sz) (hbase:base<=W.heap.size) (hy:sH W o yv m news) (hl:news.length=m*sz) (h1:∀ u ∈ news,u.oneCell'=true) (hn:n+m<=100000) (hb:bytes<=1000) :
  ∃ nv w' o',(Builtin.append_ #[t,t] t #[v,yv]).run prog W = .ok nv w'/\kP w' o' base X ty sz nv (n+m) (cs++news)/\aj (ak X) W o w' o':=by
 by_cases hm:0<m
 ·rcases hy with ⟨_,h0, -⟩ | ⟨b,off,cap,rfl,hc,hcm,ho,hbb,hr⟩
  ·omega
  ·have hby:(n+m)*bytes<=140737488355328:=Nat.le_trans (Nat.mul_le_mul hn hb) aP;obtain ⟨g,cap',w',hrun,hown,hgrow,hat,hlt⟩:=DD (P:=prog) W t t ty ht hi hzs hsz hbase v n cs h.1 b off m cap news hl hr h1 hm aP hby;refine ⟨_,w',Ak o g (X,0),hrun,⟨hown,fun k hk => ?_⟩,(aj.refl (ak X) W o).grown hgrow (fun k hk => .inl (by show (o k).1=X;rw [h.2 k hk])) g (X,0) (by
    rcases hat with hat | hat
    ·exact .inl (h.2 g hat)
    ·exact .inr aP)⟩
   simp only [Value.ownBlock,Option.some.injEq] at hk;subst hk;exact Au _ _ _
 ·obtain rfl:m=0:=aP
  have hnil:news=[]:=List.eq_nil_of_length_eq_zero aP;subst hnil;obtain ⟨a',c',rfl⟩:=Aq hy;obtain ⟨a,c,rfl⟩:=h.form;have hcap:n<=c:=by
   rcases h.1.2 with ⟨h1,h2⟩ | ⟨g,cap,cur,h1,_,_,h2,h3,_⟩
   ·simp only [Value.slice.injEq] at h1;omega
   ·simp only [Value.slice.injEq] at h1;omega
  exact ⟨_,W,o,CB (P:=prog) W t t ty sz ht hs1 a a' n c c' hcap aP,by simpa using h,aj.refl _ _ _⟩
theorem kP.done {oj:Own} (h:kP w' oj w.heap.size X ty sz v n cs) (hc:cs.length=n*sz):sH w' (ext w o) v n cs:=by
 rcases h.1.2 with ⟨rfl,h0⟩ | ⟨g,cap,cur,rfl,q1,q2,q3,q4,q5,q6⟩
 ·exact .inl ⟨⟨none,0,rfl⟩,h0,List.eq_nil_of_length_eq_zero (by rw [hc,h0];omega)⟩
 ·refine .inr ⟨g,0,cap,rfl,q3,q4, ?_,au q2, ?_⟩
  ·unfold Go.Proofs.YthmpmgknnibljaaGreat.ext;rw [if_neg aP]
  ·have:=BU (w:=w') (b:=g) (cs:=cur.toList) (E:=ty) (fr:=(0,0)) (by simpa using q2) 0 (n*sz);rw [List.drop_zero,q6] at this;exact this
end
abbrev lF:=Nat × Nat × List UInt8
def kX (l:List lV):List lF:=l.map fun x=>(x.1,x.2.1,x.2.2.put)
def kS (w:World) (o:Own) (cs:List Value) (l:List lF):Prop:=
 cs.length=l.length*3/\∀ i x,l[i]?=some x->cs[i*3]?=some (x.1:aV)/\cs[i*3+1]?=some (x.2.1:aV)/\∃ bv,cs[i*3+2]?=some bv/\Bytes w o bv x.2.2
section
variable {T:Nat->Prop} {w w':World} {o o':Own}
end
def nK (w:World) (o:Own) (v:Value) (l:List lF):Prop:=∃ cs,sH w o v l.length cs/\kS w o cs l
def kN (w:World) (o:Own) (base X:Nat) (v:Value) (l:List lF):Prop:=∃ cs,kP w o base X 82 3 v l.length cs/\kS w o cs l
section
variable {T:Nat->Prop} {w w' W:World} {o o':Own} {base X:Nat} {v:Value} {l:List lF}
end
theorem AaT.append {c1 c2:List Value} {l1 l2:DX} (h1:AaT w o c1 l1) (h2:AaT w o c2 l2):AaT w o (c1++c2) (l1++l2):=by
 refine ⟨by rw [List.length_append,List.length_append,h1.1,h2.1];omega,fun i x hx => ?_⟩;have hlen:=h1.1
 by_cases hi:i<l1.length
 ·rw [List.getElem?_append_left hi] at hx;obtain ⟨lv,a,b⟩:=h1.2 i x hx;refine ⟨lv,fun j u hu => ?_,b⟩;have hj:j<7:=(List.getElem?_eq_some_iff.1 hu).1;rw [List.getElem?_append_left aP];exact a j u hu
 ·rw [List.getElem?_append_right aP] at hx;obtain ⟨lv,a,b⟩:=h2.2 _ x hx;refine ⟨lv,fun j u hu => ?_,b⟩;have hj:j<7:=(List.getElem?_eq_some_iff.1 hu).1;rw [List.getElem?_append_right aP,hlen,show i*7+j - l1.length*7=(i - l1.length)*7+j by omega];exact a j u hu
theorem Aeu {x:Nat × BG} {a:Option Addr} {c:Nat}:∀ u ∈ AaD x (.slice a n c),u.oneCell'=true:=by
 intro u hu;simp only [AaD,Bf,List.mem_cons,List.not_mem_nil,or_false] at hu;rcases hu with rfl | rfl | rfl | rfl | rfl | rfl | rfl <;> rfl
theorem AhN:(prog.info? 126).map (fun i=>(i.zero.map (fun z=>z.cells.toList),i.size,i.bytes))=some (some [.int .i64 0, .int .u8 0, .int .u64 0, .int .u64 0, .int .i64 0, .int .i64 0, .slice none 0 0],7,72):=bf
theorem AfF:(prog.info? 126).map (·.size)=some 7:=bf
def AaN (id:Nat) (m:BG) (k:Nat):DX:=((List.range k).filter fun i=>i != id).map fun i=>(i,m)
theorem Aff (id:Nat) (m:BG) (k:Nat):AaN id m (k+1)=if k=id then AaN id m k else AaN id m k++[(k,m)]:=by
 unfold AaN;rw [List.range_succ,List.filter_append,List.map_append]
 by_cases h:k=id
 ·rw [if_pos h];subst h;simp
 ·rw [if_neg h];have:(k != id)=true:=by simp [h]
  simp [this]
theorem AfC (id:Nat) (m:BG) (k:Nat):(AaN id m k).length<=k:=by
 unfold AaN;rw [List.length_map];have:=List.length_filter_le (fun i=>i != id) (List.range k);rw [List.length_range] at this;exact this
def AeP (ts:DX) (lv:Value):List Value:=ts.flatMap fun x=>AaD x lv
theorem Ahq (a b:DX) (lv:Value):AeP (a++b) lv=AeP a lv++AeP b lv:=by simp [AeP]
theorem Agh (hl:Lines w o 0 lv ls):∀ (ts:DX),(∀ x ∈ ts,x.2.ls=ls)->AaT w o (AeP ts lv) ts
 | [],_=>AaT.nil w o
 | x :: r,h=>by
  have h1:=Agh hl r (fun y hy=>h y (List.mem_cons_of_mem _ hy));have h2:AaT w o (AaD x lv) [x]:=AaT.single (by rw [h x List.mem_cons_self];exact hl);exact h2.append h1
theorem AiC {m:BG}:∀ x ∈ AaN id m k,x.2.ls=m.ls:=fun x hx=>by
 unfold AaN at hx;obtain ⟨i, -,rfl⟩:=List.mem_map.1 hx;rfl
theorem Afh (h:AaB w o Y p y) (hn:y.n<=3) (m:BG) (hl:Lines w o 0 lv m.ls) :
  Calls prog 114 #[.pointer p,Ea m lv] w (XL ai w o fun v w' o'=>AaA w' o' v (y.others fun _=>m)):=by
 obtain ⟨X,hX0,hXf⟩:=KT o w.heap.size 0;have hX:X ≠ 0:=aP
 obtain ⟨la,lc,rfl⟩:=hl.form;obtain ⟨ML,hML⟩:=az (m.ls.length);rw [hML] at hl ⊢;have hfin:(y.others fun _=>m)=AaN y.id m y.n:=rfl;rw [hfin];have s1:=(aj.refl ai w o).alloc (.cells (Bf m (.slice la ML lc)).toArray 46) (0,0);have b1:=heap_alloc_new w (.cells (Bf m (.slice la ML lc)).toArray 46);have hbx:(Instr.box 46 (Ea m (.slice la ML lc))).run prog w = .ok (.pointer w.heap.size) (w.alloc (.cells (Bf m (.slice la ML lc)).toArray 46)):=bf
 have AhP:Wp (w.alloc (.cells (Bf m (.slice la ML lc)).toArray 46)) (Ak o w.heap.size (0,0)) w.heap.size 0 (Bf m (.slice la ML lc)):=⟨AV b1,bu,by rw [Au]⟩;have hXn:∀ q,q<(w.alloc (.cells (Bf m (.slice la ML lc)).toArray 46)).heap.size->(Ak o w.heap.size (0,0) q).1 ≠ X:=fun q hq=>by
  by_cases hqe:q=w.heap.size
  ·subst hqe;rw [Au];exact hX.symm
  ·rw [BI _ _ hqe];simp at hq;exact hXf q aP
 have hl0:=ae hl;obtain ⟨bx,Avo⟩:=az (w.heap.size);obtain ⟨W0,hW0⟩:=az (w.alloc (.cells (Bf m (.slice la ML lc)).toArray 46));obtain ⟨O0,hO0⟩:=az (Ak o w.heap.size (0,0));rw [hW0] at s1 hbx AhP hXn;rw [hO0] at s1 AhP hXn;have AzZ:=ae hXn;rw [Avo] at hbx AhP;have hH:=aa4 s1 AhP (hl.step s1 id) (h.step s1 id id);have xH:=ae hbx;have AvJ:=ae hXf;obtain ⟨N,hN⟩:=az (y.n);obtain ⟨I,hI⟩:=az (y.id);rw [hN,hI];rw [hN] at hn;have hNI:(0:Int)<=(N:Int)/\(N:Int)<=3:=aP
 have hNH:=aa2 hN hI;clear hXn h hl s1 b1 hbx AhP hW0 hO0 hXf hX0 hfin hN hI hn Avo;go_enter func114,ntmps114
 go_wp2_with ((with_reducible apply BM);exact xH.out;simp only [Act.put,lsa,lsz,lss])
 go_loopw [5,6] (fun out i wr=>∃ (k:Nat) (oj:Own),k<=N/\i = .int .i64 k/\aj ai W0 O0 wr oj/\kP wr oj w.heap.size X 126 7 out (AaN I m k).length (AeP (AaN I m k) (.slice la ML lc))) (fun _ i _=>N - (intOf i).toNat)
 case atStart=>exact ⟨0,O0,Nat.zero_le _,rfl,aj.refl _ _ _,kP.nil _ _ _ _ _ _⟩
 case round =>
  obtain ⟨k,oj,hk,rfl,hst,hrow⟩:=hrel;obtain ⟨s1,hrB,hl,href⟩:=hH.out;obtain ⟨lv2,ro,mine,hv,pv,mv,base,ready,h1, -, -, -⟩:=href.step hst id id;have c0:=ag h1 0;have c1:=ag h1 1;simp only [Aai,ax,ay] at c0 c1;rw [hNH.out.1] at c1;rw [hNH.out.2] at c0;have hlen:=AfC I m k;obtain ⟨ra,rc,rfl⟩:=hrow.form
  by_cases hlt:k<N
  ·have AbY:(k:Int)<(N:Int):=aP
   by_cases hki:k=I
   ·have hx:=ae (show AaN I m (k+1)=AaN I m k by rw [Aff,if_pos hki]);have AnX:((k:Int) == (I:Int))=true:=by simp;omega
    have hF:=aa2 hst hrow;clear s1 hrB hl href h1 hst hrow hki hlen;go_wp2_with fail;go_roundw
    case rel=>exact ⟨k+1,oj,aP,by go_num,hF.out.1,by rw [hx.out];exact hF.out.2⟩
    case measure=>simp [intOf];omega
   ·have hx:AaN I m (k+1)=AaN I m k++[(k,m)]:=by rw [Aff,if_neg hki]
    have AnX:((k:Int) == (I:Int))=false:=by simp;omega
    have hld:=ae (show (Instr.loadAt 46 (.pointer bx)).run prog wr = .ok (.agg #[.int .u8 (m.k:Int), (m.e:aV), (m.c:aV), (m.at':aV), (m.com:aV), .slice la ML lc]) wr from Ip (hrB.step hst id).1 rfl);have hbs:=Adk wr (k:Int) (m.k:Int) (m.e.toNat:Int) (m.c.toNat:Int) (m.at':Int) (m.com:Int) (.slice la ML lc);have hsa:=(aj.refl ai wr oj).alloc (.cells (AaD (k,m) (.slice la ML lc)).toArray 126) (0,0);have hnb:=heap_alloc_new wr (.cells (AaD (k,m) (.slice la ML lc)).toArray 126);have hone:sH (wr.alloc (.cells (AaD (k,m) (.slice la ML lc)).toArray 126)) (Ak oj wr.heap.size (0,0)) (.slice wr.heap.size 1 1) 1 (AaD (k,m) (.slice la ML lc)):=
     .inr ⟨wr.heap.size,0,1,rfl,Nat.le_refl _,by simp [maxLen],by rw [Au],bu,AV hnb⟩
    obtain ⟨nv,w5,o5,hrun,tK,hs5⟩:=(hrow.step hsa id).append (t:=70) underlying70 AhN rfl aP AfF (Nat.le_trans s1.size (Nat.le_trans hst.size hsa.size)) hone rfl Aeu aP aP;have hlx:(AaN I m (k+1)).length=(AaN I m k).length+1:=by rw [hx];simp
    have hfx:AeP (AaN I m (k+1)) (.slice la ML lc)=AeP (AaN I m k) (.slice la ML lc)++AaD (k,m) (.slice la ML lc):=by rw [hx,Ahq];simp [AeP]
    rw [<-hfx] at tK;have AaM:aj ai W0 O0 w5 o5:=(((hst.trans hsa).only X).trans hs5).nobody AzZ.out;have hF:=aa3 AaM tK hlx;obtain ⟨na,nc,rfl⟩:=tK.form;have AaP:=ae hbs;have Aax:=ae hrun;clear s1 hrB hl href h1 hst hrow hki hlen hx hbs hsa hnb hone hrun tK hs5 hlx hfx AaM
    go_wp2_with (first
     | ((with_reducible apply Bo);exact hld.out;simp only [Act.put,lsa,lsz,lss])
     | ((with_reducible apply BO #[(0, .agg #[.int .i64 (k:Int), .int .u8 (m.k:Int), .int .u64 (m.e.toNat:Int), .int .u64 (m.c.toNat:Int), .int .i64 (m.at':Int), .int .i64 (m.com:Int), .slice la ML lc])] rfl);exact AaP.out;simp only [Act.put,lsa,lsz,lss])
     | ((with_reducible apply Bl);exact Aax.out;simp only [Act.put,lsa,lsz,lss]))
    go_roundw
    case rel=>exact ⟨k+1,o5,aP,by go_num,hF.out.1,by rw [hF.out.2.2];exact hF.out.2.1⟩
    case measure=>simp [intOf];omega
  ·obtain rfl:N=k:=aP
   have uY:=s1.trans hst;have hst2:=uY.Me (ext w o) (fun k hk=>if_pos hk);have htd:=Agh (hl0.out.step hst2 id) (AaN I m N) (by intro x hx;exact AiC x hx);have hF:=aa2 hst2 (show AaA wr (ext w o) _ (AaN I m N) from ⟨_,hrow.done htd.1,htd⟩);clear s1 hrB hl href h1 hst hrow hlen uY hst2 htd;go_wp2_with fail;go_ret;exact ⟨_,_,rfl,hF.out.1,hF.out.2⟩
theorem AaO {a:Addr} {c:Obj} (h:w.cell? a=some v):(w.alloc c).cell? a=some v:=
 (World.cell?_of_block (Below.heap_alloc _ _ _ (World.block_lt_of_cell? _ _ h))).trans h
theorem AiH (Y2:Nat) (h:AaB w o Y p y) :
  Calls prog 38 #[.pointer p] w (XL ai w o fun v w' o'=>∃ q:Nat,v = .pointer q/\AaB w' o' Y2 q (Aj.new y.id y.n y.k)):=by
 obtain ⟨lv,ro,mine,hv,pv,mv,base,ready,h1, -,h3, -⟩:=h;obtain ⟨la,lc,rfl⟩:=h3.form;obtain ⟨L,hL⟩:=az (y.k.lines.length);rw [hL] at h1 h3;have hdr:aj ai w o w.drew o:=(aj.refl ai w o).drew;have h1d:w.drew.heap[p]?=_:=h1;have c0:w.drew.cell? p=some (y.id:aV):=ag h1d 0;have c1:w.drew.cell? (aW p 1)=some (y.n:aV):=ag h1d 1;have c2:w.drew.cell? (aW p 2)=some (y.k.promised:aV):=ag h1d 2;have c3:w.drew.cell? (aW p 3)=some (y.k.current:aV):=ag h1d 3;have c4:w.drew.cell? (aW p 4)=some (.slice la L lc):=ag h1d 4;have hS:=aI c0 (aI c1 (aI c2 (aI c3 c4)));have st:=hdr.alloc (.cells (Aai y.id y.n y.k (.slice la L lc) 0 0 0 0 0 (.slice none 0 0) (.slice none 0 0) (.slice none 0 0) 0 false).toArray 124) (Y2,0);have hb:=heap_alloc_new w.drew (.cells (Aai y.id y.n y.k (.slice la L lc) 0 0 0 0 0 (.slice none 0 0) (.slice none 0 0) (.slice none 0 0) 0 false).toArray 124);have hF:=aa2 st (show AaB _ (Ak o w.drew.heap.size (Y2,0)) Y2 w.drew.heap.size (Aj.new y.id y.n y.k) from ⟨.slice la L lc,0,0, .slice none 0 0, .slice none 0 0, .slice none 0 0,0,false,hb,Au _ _ _,h3.step st id,rfl⟩);clear h1 h1d h3 hL hdr c0 c1 c2 c3 c4 st hb;go_enter func38,ntmps38;go_wp2_with fail;refine Aa (fun w'=>w'.cell? p=some (y.id:aV)/\w'.cell? (aW p 1)=some (y.n:aV)/\w'.cell? (aW p 2)=some (y.k.promised:aV)/\w'.cell? (aW p 3)=some (y.k.current:aV)/\w'.cell? (aW p 4)=some (.slice la L lc)) (fun _=>true) bf hS (fun hHeld => ?_);refine tq 0 (h:=tq 1 (h:=tq 2 (h:=tq 3 (h:=tq 4 (h:=tq 5 (h:=tq 6 (h:=tq 7 (h:=tq 8 (h:=tq 9 (h:=tq 10 (h:=tq 11 (h:=tq 12 (h:=tO 13 (h:=?_))))))))))))));go_wp2_with fail;refine ⟨fun _=>(by obtain ⟨a0,a1,a2,a3,a4⟩:=hHeld;exact ⟨(AaO a0),(AaO a1),(AaO a2),(AaO a3),(AaO a4)⟩), ?_⟩;refine tO 14 (h:=?_);go_wp2_with fail;refine ⟨fun _=>(by obtain ⟨a0,a1,a2,a3,a4⟩:=hHeld;exact ⟨(AaO a0),(AaO a1),(AaO a2),(AaO a3),(AaO a4)⟩), ?_⟩;refine tD (h:=?_);clear hHeld hS;go_wp2_with fail;go_ret;exact ⟨_,_,rfl,hF.out.1,_,rfl,hF.out.2⟩
theorem Ant {a d j:Nat} (h1:1<=n) (h3:n<=3) (hi:id<n) (hd:(id+n - (a+1) % n) % n=d) (hj:j<=d):((a+1+j) % n == id)=(j == d):=by
 rw [Bool.eq_iff_iff,beq_iff_eq,beq_iff_eq]
 rcases (show n=1 \/ n=2 \/ n=3 by omega) with rfl | rfl | rfl <;> omega
theorem AjZ (a:BitVec 64) (id n:Nat) (h1:1<=n) (h3:n<=3) (hi:id<n) (w:World) :
  Calls prog 113 #[(a:aV), (id:aV), (n:aV)] w fun e w'=>e = .returned (.int .u64 ((PQ a id n).toNat:Int))/\w=w':=by
 obtain ⟨A,hA⟩:=az (a.toNat);have hAl:A<18446744073709551616:=by rw [<-hA];exact a.isLt
 have g1:¬ (n:Int)<1:=aP
 have g2:¬ (id:Int)<0:=aP
 have g3:¬ (n:Int)<=(id:Int):=aP
 have n0:(0:Int)<(n:Int)/\(n:Int)<=3:=aP
 unfold PQ;rw [hA]
 by_cases hb:281474976710656<A
 ·have g4:(281474976710656:Int)<(A:Int):=aP
  rw [if_pos hb];clear hA h1 h3 hi hAl hb;go_enter func113,ntmps113;go_wp2_with fail;go_ret;exact ⟨rfl,rfl⟩
 ·have g4:¬ (281474976710656:Int)<(A:Int):=aP
  have aI:(0:Int)<=(A:Int)/\(A:Int)<=281474976710656:=aP
  rw [if_neg hb];obtain ⟨d,hd⟩:=az ((id+n - (A+1) % n) % n);have hd3:d<3:=by rw [<-hd];exact Nat.lt_of_lt_of_le (Nat.mod_lt _ aP) h3
  have hfin:((BitVec.ofNat 64 (A+1+d)).toNat:Int)=((A+1+d:Nat):Int):=by rw [BitVec.toNat_ofNat,Nat.mod_eq_of_lt aP]
  rw [hd,hfin];have hat:=ae (fun j hj=>Ant (j:=j) h1 h3 hi hd hj);have hw1:IntKind.u64.wrap (n:Int)=(n:Int):=by simp [IntKind.wrap,IntKind.bits,IntKind.signed];omega
  clear hA h1 h3 hi hAl hb hd hfin;go_enter func113,ntmps113;go_wp2_with fail
  go_loop [7] (fun e=>∃ j:Nat,j<=d/\e = .int .u64 ((A+1+j:Nat):Int)) (fun e=>(A+1+d:Nat) - (intOf e).toNat)
  case atStart=>exact ⟨0,Nat.zero_le _,bu⟩
  case round =>
   obtain ⟨j,hj,rfl⟩:=hrel;obtain ⟨E,hE⟩:=az (A+1+j);have hc:=hat.out j hj;have eI:(0:Int)<=(E:Int)/\(E:Int)<=281474976710660:=aP
   rw [hE] at hc ⊢;obtain ⟨r,hr⟩:=az (E % n);have hrl:r<3:=by rw [<-hr];exact Nat.lt_of_lt_of_le (Nat.mod_lt _ aP) aP
   have hrI:(E:Int) % (n:Int)=(r:Int):=by rw [<-Int.natCast_emod,hr]
   have hw2:IntKind.i64.wrap (r:Int)=(r:Int):=IntWalk.i64_in _ aP;have hEH:=ae hE;rw [hr] at hc
   by_cases hjd:j=d
   ·have hcI:((r:Int) == (id:Int))=true:=by
     have:r=id:=by rw [beq_iff_eq.2 hjd] at hc;simpa using hc
     simp [this]
    have xB:=ae hjd;clear hc hr hE hjd hrl;go_wp2_with fail;go_ret;exact ⟨by rw [<-hEH.out,xB.out];rfl,rfl⟩
   ·have hcI:((r:Int) == (id:Int))=false:=by
     have:¬ r=id:=by rw [beq_eq_false_iff_ne.2 hjd] at hc;simpa using hc
     simp;omega
    have xB:=ae (show j+1<=d by omega);clear hc hr hE hjd hrl;go_wp2_with fail
    go_round
    case rel=>exact ⟨j+1,xB.out,by rw [<-hEH.out];go_num⟩
    case measure=>have:=hEH.out;have:=xB.out;simp [intOf];omega
def Afz (m:List Int) (x:Int) (k:Nat):Nat:=(m.take k).countP fun y=>decide (x<=y)
def AgH (m:List Int) (p:Int × Bool) (x:Int):Int × Bool:=if m.length<2*Afz m x m.length/\(p.2=false \/ p.1<x) then (x,true) else p
def Aio (m:List Int) (i:Nat):Int × Bool:=(m.take i).foldl (AgH m) (0,false)
theorem AmP (m:List Int) (h1:1<=m.length) (h3:m.length<=3):(Aio m m.length).1=CW m:=by
 match m,h1,h3 with
 | [a],_,_=>simp [Aio,AgH,Afz,CW]
 | [a,b],_,_ =>
  simp only [Aio,AgH,Afz,CW,List.take,List.foldl,List.length_cons,List.length_nil,List.countP_cons,List.countP_nil,Int.le_refl,decide_true]
  by_cases h1:a<=b <;> by_cases h2:b<=a <;> by_cases h3:a<b <;> first | omega | (simp [h1,h2,h3];try omega)
 | [a,b,c],_,_ =>
  simp only [Aio,AgH,Afz,CW,List.take,List.foldl,List.length_cons,List.length_nil,List.countP_cons,List.countP_nil,Int.le_refl,decide_true]
  by_cases h1:a<=b <;> by_cases h2:b<=a <;> by_cases h3:a<=c <;> by_cases h4:c<=a <;> by_cases h5:b<=c <;> by_cases h6:c<=b <;> first | omega | (simp [h1,h2,h3,h4,h5,h6,Int.not_lt.2,Int.not_le.1];try omega)
theorem Aks {y:Int} (h:m[k]?=some y) (x:Int):Afz m x (k+1)=Afz m x k+if x<=y then 1 else 0:=by
 obtain ⟨hl,rfl⟩:=List.getElem?_eq_some_iff.1 h;unfold Afz;rw [List.take_succ_eq_append_getElem hl,List.countP_append,List.countP_singleton];simp
theorem Aos (m:List Int) (x:Int) (k:Nat):Afz m x k<=m.length:=Nat.le_trans List.countP_le_length (by rw [List.length_take];omega)
theorem Akt {i:Nat} {x:Int} (h:m[i]?=some x):Aio m (i+1)=AgH m (Aio m i) x:=by
 obtain ⟨hl,rfl⟩:=List.getElem?_eq_some_iff.1 h;unfold Aio;rw [List.take_succ_eq_append_getElem hl,List.foldl_append];rfl
theorem AhF (hb:w.heap[b]?=some (.cells (ivs m).toArray 3 (0,0))) (h1:1<=m.length) (h3:m.length<=3) :
  Calls prog 123 #[.slice b m.length m.length] w (XL ai w o fun v _ _=>v = .int .i64 (CW m)):=by
 have hres:=ae (AmP m h1 h3);have hcell:=ae (fun (wr:World) (hst:aj ai w o wr o) (i:Nat) (x:Int) (hx:m[i]?=some x)=>show wr.cell? (aW b i)=some (.int .i64 x) by
  rw [ag ((hst.block b (au hb) id).trans hb)];simp [ivs,hx])
 obtain ⟨N,hN⟩:=az (m.length);rw [hN] at h1 h3 ⊢;have nI:(1:Int)<=(N:Int)/\(N:Int)<=3:=aP
 have hNH:=ae hN;clear hb h1 h3 hN;go_enter func123,ntmps123;go_wp2_with fail
 go_loopw [3,4,5] (fun bv sv iv wr=>∃ (i:Nat) (B:Int) (s:Bool),i<=N/\iv = .int .i64 i/\bv = .int .i64 B/\sv = .bool s/\Aio m i=(B,s)/\aj ai w o wr o) (fun _ _ i _=>N - (intOf i).toNat)
 case atStart=>exact ⟨0,0,false,Nat.zero_le _,rfl,rfl,rfl,rfl,aj.refl _ _ _⟩
 case round =>
  obtain ⟨i,B,s,hi,rfl,rfl,rfl,hacc,hst⟩:=hrel
  by_cases hlt:i<N
  ·have AbY:(0:Int)<=(i:Int)/\(i:Int)<(N:Int):=aP
   obtain ⟨x,hx⟩:∃ x,m[i]?=some x:=⟨_,List.getElem?_eq_getElem (by rw [hNH.out];exact hlt)⟩;have hsx:=Akt hx;rw [hacc] at hsx;have hsx:=ae hsx;have hx:=ae hx;have hst:=ae hst;clear hacc;go_wp2_with fail
   go_loopw [6,7] (fun nv kv wx=>∃ k:Nat,k<=N/\kv = .int .i64 k/\nv = .int .i64 (Afz m x k:Nat)/\aj ai w o wx o) (fun _ k _=>N - (intOf k).toNat)
   case atStart=>exact ⟨0,Nat.zero_le _,rfl,by simp [Afz],hst.out⟩
   case round =>
    obtain ⟨k,hk,rfl,rfl,hst2⟩:=hrel;have hC3:=Aos m x k;rw [hNH.out] at hC3
    by_cases hlk:k<N
    ·have Bfo:(0:Int)<=(k:Int)/\(k:Int)<(N:Int):=aP
     obtain ⟨y,hy⟩:∃ y,m[k]?=some y:=⟨_,List.getElem?_eq_getElem (by rw [hNH.out];exact hlk)⟩;have hS:=aI (hcell.out _ hst2.drew k y hy) (hcell.out _ hst2.drew i x hx.out);have hsy:=Aks hy x;obtain ⟨C,hC⟩:=az (Afz m x k);rw [hC] at hC3 hsy ⊢;have hCI:(0:Int)<=(C:Int)/\(C:Int)<=3:=aP
     have hsy:=ae hsy;have hst2:=ae hst2;clear hC hy hC3
     by_cases hge:x<=y
     all_goals
      go_wp2_with fail;refine Aa (fun w'=>w'.cell? (aW b k)=some (.int .i64 y)/\w'.cell? (aW b i)=some (.int .i64 x)) (fun _=>true) bf hS (fun hHeld => ?_);refine tq 0 (h:=tq 1 (h:=tq 2 (h:=tq 3 (h:=tq 4 (h:=tq 5 (h:=tq 6 (h:=tq 7 (h:=tq 8 (h:=tD (h:=?_))))))))));clear hHeld hS;go_wp2_with fail;go_roundw
      case rel=>exact ⟨k+1,aP,by go_num,by rw [hsy.out];split <;> first | go_num | rfl | (exfalso;omega),hst2.out.drew⟩
      case measure=>simp [intOf];omega
    ·obtain rfl:N=k:=aP
     have hq:=hsx.out;unfold AgH at hq;rw [hNH.out] at hq;obtain ⟨C,hC⟩:=az (Afz m x N);rw [hC] at hC3 hq ⊢;have hCI:(0:Int)<=(C:Int)/\(C:Int)<=3:=aP
     have cx:=hcell.out _ hst2 i x hx.out;have hst2:=ae hst2;clear hsx hC hC3
     by_cases Ajd:N<2*C
     ·have hmI:(N:Int)<2*(C:Int):=aP
      cases s with
      | false =>
       rw [if_pos ⟨Ajd, .inl rfl⟩] at hq;have hq:=ae hq;clear Ajd;go_wp2_with fail;go_roundw
       case rel=>exact ⟨i+1,x,true,aP,by go_num,rfl,rfl,hq.out,hst2.out⟩
       case measure=>simp [intOf];omega
      | true =>
       by_cases hbx:B<x
       ·rw [if_pos ⟨Ajd, .inr hbx⟩] at hq;have hq:=ae hq;clear Ajd;go_wp2_with fail;go_roundw
        case rel=>exact ⟨i+1,x,true,aP,by go_num,rfl,rfl,hq.out,hst2.out⟩
        case measure=>simp [intOf];omega
       ·rw [if_neg (by simp [hbx])] at hq;have hq:=ae hq;clear Ajd;go_wp2_with fail;go_roundw
        case rel=>exact ⟨i+1,B,true,aP,by go_num,rfl,rfl,hq.out,hst2.out⟩
        case measure=>simp [intOf];omega
     ·have hmI:¬ (N:Int)<2*(C:Int):=aP
      rw [if_neg (by simp [Ajd])] at hq;have hq:=ae hq;clear Ajd;go_wp2_with fail;go_roundw
      case rel=>exact ⟨i+1,B,s,aP,by go_num,rfl,rfl,hq.out,hst2.out⟩
      case measure=>simp [intOf];omega
  ·obtain rfl:N=i:=aP
   have hr:=hres.out;rw [hNH.out,hacc] at hr;have hr:=ae hr;clear hacc;go_wp2_with fail;go_ret;exact ⟨_,_,rfl,hst,by rw [<-hr.out];rfl⟩
theorem AfQ (l:List Int) (i:Nat) (x:Int):(ivs l).set i (.int .i64 x)=ivs (l.set i x):=by simp [ivs]
theorem Adq {mine:BitVec 64} {nR:List Int} {ready:Bool} (h:AaB w o Y p y) (hY:Y ≠ 0) (hr:y.BB = .leads mine nR base ready)
  (h1:1<=nR.length) (h3:nR.length<=3) (hid:y.id<nR.length) (hmb:∀ x ∈ nR, -1<=x/\x<=256) (hk:y.k.lines.length<=256) (hco:y.Ag<=256) :
  Calls prog 66 #[.pointer p] w (XL (ak Y) w o fun v w' o'=>v = .tuple #[]/\AaB w' o' Y p (y.count mine nR base ready)):=by
 obtain ⟨I,n,k,BB,wt,sn,Co⟩:=y;simp only at hr hid hk hco;subst hr;obtain ⟨lv,ro,mine,hv,pv,mv,base',ready,hp,hpo,hl,h4⟩:=h;obtain ⟨rfl,rfl,⟨b,rfl,hb,hbo⟩,rfl,rfl⟩:=h4;simp only at hp hl;have hpb:p ≠ b:=by rintro rfl;rw [hp] at hb;simp at hb
 have hl0:¬ ak Y 0:=fun h=>hY h.symm;obtain ⟨la,lc,rfl⟩:=hl.form;obtain ⟨R,hR⟩:=az (Aj.count ⟨I,n,k, .leads mine nR base ready,wt,sn,Co⟩ mine nR base ready);rw [hR];rw [Aj.count_eq] at hR;simp only at hR;obtain ⟨L,hL⟩:=az (k.lines.length);obtain ⟨N,hN⟩:=az (nR.length);have hne:(nR.set I (L:Int)).length=N:=by rw [List.length_set];exact hN
 have hC:CW (nR.set I (L:Int))<=256:=Qo (fun z hz=>by
  rcases List.mem_or_eq_of_mem_set hz with h | h
  ·exact (hmb z h).2
  ·omega) aP
 rw [hL] at hk hl hp hR;rw [hN] at h1 h3 hid hp;have st:=(aj.refl (ak Y) w o).drew.setCell (a:=(aW b I)) (L:aV) (.inl hbo);have c0:w.drew.cell? p=_:=ag hp 0;have c4:w.drew.cell? (aW p 4)=_:=ag hp 4;have c12:w.drew.cell? (aW p 12)=_:=ag hp 12;simp only [Aai,ax,ay] at c0 c4 c12;have cb:w.drew.cell? (aW b I)=some (.int .i64 (nR.getD I 0)):=by
  rw [ag (w:=w.drew) hb];simp [ivs,List.getD_eq_getElem?_getD,List.getElem?_eq_getElem (show I<nR.length by omega)]
 have fb:w.drew.frozen? (aW b I)=false:=Ap (w:=w.drew) hb I;have hb2:=Ai (w:=w.drew) (i:=I) (L:aV) hb;rw [AfQ] at hb2;have hp2:=(Below.heap_setCell w.drew (aW b I) (L:aV) p hpb).trans hp;have iI:(0:Int)<=(I:Int)/\(I:Int)<(N:Int):=aP
 have hl2:=hl.step st hl0;obtain ⟨W,hW⟩:=az (w.drew.setCell (aW b I) (L:aV));rw [hW] at hb2 hp2 st hl2;have hcm:=AhF (o:=o) hb2 aP aP;rw [hne] at hcm;obtain ⟨m2,hm2⟩:=az (nR.set I (L:Int));rw [hm2] at hb2 hne hC hcm hR;obtain ⟨C,hCe⟩:=az (CW m2);rw [hCe] at hC hcm hR;have hS:=aI c0 (aI c4 c12);have coI:(0:Int)<=(Co:Int)/\(Co:Int)<=256:=aP
 have AdS:=ae hcm;have hRH:=ae hR;have hWH:=ae (show (w.setCell (aW b I) (L:aV)).drew=W from hW);have hH:=aa5 hb2 hp2 st hl2 hne;have hO:=aa3 hpo hbo hpb;have idN:I<N:=hid;have hY:=ae hY;clear hR hp hpo hl hb hbo hmb hm2 hCe c0 c4 c12 hW hb2 hp2 st hl2 hcm hl0 hne hL hN hco hk h1 h3 hid hpb;go_enter func66,ntmps66;go_wp2_with fail;refine Aa (fun w'=>w'.cell? p=some (I:aV)/\w'.cell? (aW p 4)=some (.slice la L lc)/\w'.cell? (aW p 12)=some (.slice b N N)) (fun i=>decide (i<15)) bf hS (fun hHeld => ?_);refine tq 0 (h:=tq 1 (h:=tq 2 (h:=tq 3 (h:=tq 4 (h:=tq 5 (h:=tq 6 (h:=tq 7 (h:=tq 8 (h:=tq 9 (h:=tq 10 (h:=tq 11 (h:=tq 12 (h:=tq 13 (h:=?_))))))))))))));refine tq 14 (h:=tO 15 (h:=?_));go_wp2_with fail;refine ⟨fun h=>by simp at h, ?_⟩;refine tD (h:=?_);rw [hWH.out];obtain ⟨hb2,hp2,st,hl2,hne⟩:=hH.out;have e12:=ag hp2 12;simp only [Aai,ax,ay] at e12;have hH:=aa5 hb2 hp2 st hl2 hne;clear hHeld hS hb2 hp2 st hl2 hne cb fb;go_wp2_with fail;refine AdS.out.mono ?_;rintro e w3 ⟨v3,o3,rfl,hs3,rfl⟩;obtain ⟨hb2,hp2,st,hl2,hne⟩:=hH.out;obtain ⟨hpo,hbo,hpb⟩:=hO.out;have hp3:=(hs3.block p (au hp2) id).trans hp2;have hb3:=(hs3.block b (au hb2) id).trans hb2;have op3:=(hs3.own p (au hp2)).trans hpo;have ob3:=(congrArg Prod.fst (hs3.own b (au hb2))).trans hbo;have st3:=st.trans (hs3.only Y);have hl3:=hl2.step hs3 id;have e13:=ag hp3 13;have e9:=ag hp3 9;have e14:=ag hp3 14;simp only [Aai,ax,ay] at e13 e9 e14;have f9:=Ap hp3 9;have f14:=Ap hp3 14
 by_cases hcmp:(base:Int)<=C
 ·have hR:=hRH.out;rw [if_pos hcmp] at hR;obtain ⟨cn,rfl⟩:∃ cn:Nat,C=(cn:Int):=⟨C.toNat,aP⟩;have cI:(0:Int)<=(cn:Int)/\(cn:Int)<=256:=aP
  have hmx:max (Co:Int) (cn:Int)=((max Co cn:Nat):Int):=aP
  have st4:=(st3.setCell (a:=(aW p 14)) (.bool true) (.inl (by rw [op3];rfl))).setCell (a:=(aW p 9)) (.int .i64 ((max Co cn:Nat):Int)) (.inl (by rw [op3];rfl));have k4:=((aj.refl (ak Y) w3 o3).setCell (a:=(aW p 14)) (.bool true) (.inl (by rw [op3];rfl))).setCell (a:=(aW p 9)) (.int .i64 ((max Co cn:Nat):Int)) (.inl (by rw [op3];rfl));have hp4:=Ai (i:=9) (.int .i64 ((max Co cn:Nat):Int)) (Ai (i:=14) (.bool true) hp3);have hb4:=(Below.heap_setCell (w3.setCell (aW p 14) (.bool true)) (aW p 9) (.int .i64 ((max Co cn:Nat):Int)) b (Ne.symm hpb)).trans ((Below.heap_setCell w3 (aW p 14) (.bool true) b (Ne.symm hpb)).trans hb3);have hF:=ae (aI st4 (show AaB _ o3 Y p ⟨I,n,k, .leads mine m2 base true,wt,sn,max Co (cn:Int).toNat⟩ from
   ⟨_,2,mine,hv,pv,_,base,true,hp4,op3,hl3.step k4 (fun h=>hY.out h.symm),rfl,rfl,⟨b,by rw [hne],hb4,ob3⟩,rfl,rfl⟩))
  subst hR;clear hb2 hp2 st hl2 hne hpo hbo hpb hp3 hb3 op3 ob3 st3 hl3 st4 k4 hp4 hb4 hs3 AdS hH hO;go_wp2_with fail
  go_end0
  exact ⟨_,o3,rfl,hF.out.1,rfl,hF.out.2⟩
 ·have hR:=hRH.out;rw [if_neg hcmp] at hR;have hF:=ae (aI st3 (show AaB w3 o3 Y p ⟨I,n,k, .leads mine m2 base ready,wt,sn,Co⟩ from
   ⟨_,2,mine,hv,pv,_,base,ready,hp3,op3,hl3,rfl,rfl,⟨b,by rw [hne],hb3,ob3⟩,rfl,rfl⟩))
  subst hR;clear hb2 hp2 st hl2 hne hpo hbo hpb hp3 hb3 op3 ob3 st3 hl3 hs3 AdS hH hO;go_wp2_with fail
  go_end0
  exact ⟨_,o3,rfl,hF.out.1,rfl,hF.out.2⟩
theorem ZW (top:BitVec 64) (x:Ar) {bv:Value} (hb:Bytes w o bv x.b) :
  Calls prog 125 #[.agg #[(x.e:aV),bv], (top:aV)] w (XL ai w o fun v _ _=>v = .bool (!badL top x)):=by
 obtain ⟨ba,bc,rfl⟩:=Aq hb;have s1:=ae ((aj.refl ai w o).alloc (.cells #[(x.e:aV), .slice ba x.b.length bc] 36) (0,0));have b1:(w.alloc (.cells #[(x.e:aV), .slice ba x.b.length bc] 36)).heap[w.heap.size]?=some (.cells [(x.e:aV), .slice ba x.b.length bc].toArray 36 (0,0)):=heap_alloc_new w _;have c0:=ag b1 0;have c1:=ag b1 1;simp only [ay,ax] at c0 c1;obtain ⟨r,hr⟩:=az ((!badL top x));rw [hr];unfold badL at hr;generalize x.e.toNat=E at *;generalize top.toNat=T at *;generalize x.b.length=L at *;have tN:=ae hr;clear b1 hb hr
 by_cases h0:1<=E
 ·have h0I:(1:Int)<=(E:Int):=aP
  by_cases h1:E<=T
  ·have h1I:(E:Int)<=(T:Int):=aP
   by_cases h2:1<=L
   ·have h2I:(1:Int)<=(L:Int):=aP
    by_cases h3:L<=4096
    ·have h3I:(L:Int)<=4096:=aP
     have hfin:=ae (show r=true by rw [<-tN.out];simp;omega);go_enter func125,ntmps125;go_wp2_with fail;go_ret;exact ⟨_,_,rfl,s1.out,by show _=Value.bool r;rw [hfin.out];rfl⟩
    ·have h3I:¬ (L:Int)<=4096:=aP
     have hfin:=ae (show r=false by rw [<-tN.out];simp;omega);go_enter func125,ntmps125;go_wp2_with fail;go_ret;exact ⟨_,_,rfl,s1.out,by show _=Value.bool r;rw [hfin.out];rfl⟩
   ·have h2I:¬ (1:Int)<=(L:Int):=aP
    have hfin:=ae (show r=false by rw [<-tN.out];simp;omega);go_enter func125,ntmps125;go_wp2_with fail;go_ret;exact ⟨_,_,rfl,s1.out,by show _=Value.bool r;rw [hfin.out];rfl⟩
  ·have h1I:¬ (E:Int)<=(T:Int):=aP
   have hfin:=ae (show r=false by rw [<-tN.out];simp;omega);go_enter func125,ntmps125;go_wp2_with fail;go_ret;exact ⟨_,_,rfl,s1.out,by show _=Value.bool r;rw [hfin.out];rfl⟩
 ·have h0I:¬ (1:Int)<=(E:Int):=aP
  have hfin:=ae (show r=false by rw [<-tN.out];simp;omega);go_enter func125,ntmps125;go_wp2_with fail;go_ret;exact ⟨_,_,rfl,s1.out,by show _=Value.bool r;rw [hfin.out];rfl⟩
theorem AaS {off:Nat} {p c:Int} (hr:w.rangeAt b off [.int .u64 p, .int .u64 c,lv]):(Instr.loadAt 120 (.pointer (some (aW b off)))).run prog w = .ok (.agg #[.int .u64 p, .int .u64 c,lv]) w:=by
 simp only [Instr.loadAt,Instr.sureAddr,Sem.run_bind,Sem.run_pure,Result.andThen_ok];exact run_loadVar_mid w b off 120 [.int .u64 p, .int .u64 c,lv] _ hr underlying120 rfl bf
theorem Anh:((prog.info? 120).bind (·.zero)).map (·.cells)=some #[.int .u64 0, .int .u64 0, .slice none 0 0]:=bf
theorem AaW:(prog.info? 120).map (·.size)=some 3:=bf
def ArO (q:AX × Int) (v:Value) (w':World) (o':Own):Prop:=∃ vS,v = .tuple #[Dy q.1.promised q.1.current vS, .int .i64 q.2]/\Lines w' o' 0 vS q.1.lines
theorem AeQ {p c:BitVec 64} (hl:Lines w o 0 lv ls) (e:BitVec 64) :
  Calls prog 63 #[Dy p c lv, (e:aV)] w (XL ai w o fun v w' o'=>ArO (AX.CQ ⟨p,c,ls⟩ e) v w' o'):=by
 obtain ⟨la,lc,rfl⟩:=hl.form;obtain ⟨N,hN⟩:=az (ls.length);unfold Dy;rw [hN] at hl ⊢;have s1:=(aj.refl ai w o).alloc (.cells #[(p:aV), (c:aV), .slice la N lc] 120) (0,0);have b1:(w.alloc (.cells #[(p:aV), (c:aV), .slice la N lc] 120)).heap[w.heap.size]?=some (.cells [(p:aV), (c:aV), .slice la N lc].toArray 120 (0,0)):=heap_alloc_new w _;have z1:(w.alloc (.cells #[(p:aV), (c:aV), .slice la N lc] 120)).heap.size=w.heap.size+1:=bu
 obtain ⟨W1,hW1⟩:=az (w.alloc (.cells #[(p:aV), (c:aV), .slice la N lc] 120));rw [hW1] at s1 b1 z1;have s2:=s1.alloc (.cells #[.int .u64 0, .int .u64 0, .slice none 0 0] 120) (0,0);have b2:(W1.alloc (.cells #[.int .u64 0, .int .u64 0, .slice none 0 0] 120)).heap[W1.heap.size]?=some (.cells [.int .u64 0, .int .u64 0, .slice none 0 0].toArray 120 (0,0)):=heap_alloc_new W1 _;have b12:=(Below.heap_alloc W1 (.cells #[.int .u64 0, .int .u64 0, .slice none 0 0] 120) w.heap.size aP).trans b1;have hal:=ae (AB (P:=prog) W1 120 _ Anh);have z2:(W1.alloc (.cells #[.int .u64 0, .int .u64 0, .slice none 0 0] 120)).heap.size=w.heap.size+2:=by simp [z1]
 obtain ⟨W2,hW2⟩:=az (W1.alloc (.cells #[.int .u64 0, .int .u64 0, .slice none 0 0] 120));rw [hW2] at hal s2 b2 b12 z2;rw [z1] at b2 hal;generalize Ak (Ak o w.heap.size (0,0)) W1.heap.size (0,0)=o2 at s2;rw [<-hW1] at hal;have c10:=ag b12 0;have c11:=ag b12 1;have c12:=ag b12 2;have f10:=Ap b12 0;simp only [ay,ax] at c10 c11 c12;have hld:=ae (AaS (AV b12));obtain ⟨hso,hsb⟩:=Ba (P:=prog) (ty:=120) (vs:=[(p:aV), (c:aV), .slice la N lc]) b2 rfl bf rfl;have Aaz:=ae hso;have stE:=s2.setCells (w.heap.size+1) 0 [(p:aV), (c:aV), .slice la N lc] (.inr aP);have hlE:=hl.step stE id;have Acu:=ae hsb;have hE:=aa2 stE hlE;clear hso hsb stE hlE s1 b1 z1 hW1 hW2;have b3:=Ai (i:=0) (e:aV) b12;simp only [lsz] at b3;have r3:(W2.setCell w.heap.size (e:aV)).heap[w.heap.size+1]?=_:=(Below.heap_setCell _ _ _ _ (by show w.heap.size+1 ≠ w.heap.size;omega)).trans b2;have zZ:=ae (AaS (AV b3));obtain ⟨AfS,Atx⟩:=Ba (P:=prog) (ty:=120) (vs:=[(e:aV), (c:aV), .slice la N lc]) r3 rfl bf rfl;have Alp:=ae AfS;have Atw:=ae Atx;have stF:=(s2.setCell (a:=w.heap.size) (e:aV) (.inr (Nat.le_refl _))).setCells (w.heap.size+1) 0 [(e:aV), (c:aV), .slice la N lc] (.inr aP);have hF:=aa2 stF (hl.step stF id);clear AfS Atx stF hl s2 b3 r3 b2 b12
 by_cases h1:p.toNat<e.toNat
 ·have h1I:¬ (e.toNat:Int)<=(p.toNat:Int):=aP
  by_cases h2:e.toNat<=281474976710656
  ·have h2I:¬ (281474976710656:Int)<(e.toNat:Int):=aP
   have hfin:=ae (show AX.CQ ⟨p,c,ls⟩ e=(⟨e,c,ls⟩,0) by simp [AX.CQ,AX.EK,h1,h2]);go_enter func63,ntmps63
   go_wp2_with (first
    | ((with_reducible apply Bo);exact zZ.out;simp only [Act.put,lsa,lsz,lss])
    | ((with_reducible apply AU);exact hal.out;simp only [Act.put,lsa,lsz,lss])
    | ((with_reducible apply AC);exact Alp.out;simp only [Act.put]))
   refine bodyPost_ret (Eg rfl _ _ (w.heap.size+1) 120 _ (0,0) _ rfl Atw.out underlying120 rfl AaW) rfl ?_;exact ⟨_,o2,rfl,hF.out.1,_,by rw [hfin.out];rfl,by rw [hfin.out];exact hN ▸ hF.out.2⟩
  ·have h2I:(281474976710656:Int)<(e.toNat:Int):=aP
   have hfin:=ae (show AX.CQ ⟨p,c,ls⟩ e=(⟨p,c,ls⟩,1) by simp [AX.CQ,AX.EK,h2]);go_enter func63,ntmps63
   go_wp2_with (first
    | ((with_reducible apply Bo);exact hld.out;simp only [Act.put,lsa,lsz,lss])
    | ((with_reducible apply AU);exact hal.out;simp only [Act.put,lsa,lsz,lss])
    | ((with_reducible apply AC);exact Aaz.out;simp only [Act.put]))
   refine bodyPost_ret (Eg rfl _ _ (w.heap.size+1) 120 _ (0,0) _ rfl Acu.out underlying120 rfl AaW) rfl ?_;exact ⟨_,o2,rfl,hE.out.1,_,by rw [hfin.out];rfl,by rw [hfin.out];exact hE.out.2⟩
 ·have h1I:(e.toNat:Int)<=(p.toNat:Int):=aP
  have hfin:=ae (show AX.CQ ⟨p,c,ls⟩ e=(⟨p,c,ls⟩,1) by simp [AX.CQ,AX.EK,h1]);go_enter func63,ntmps63
  go_wp2_with (first
   | ((with_reducible apply Bo);exact hld.out;simp only [Act.put,lsa,lsz,lss])
   | ((with_reducible apply AU);exact hal.out;simp only [Act.put,lsa,lsz,lss])
   | ((with_reducible apply AC);exact Aaz.out;simp only [Act.put]))
  refine bodyPost_ret (Eg rfl _ _ (w.heap.size+1) 120 _ (0,0) _ rfl Acu.out underlying120 rfl AaW) rfl ?_;exact ⟨_,o2,rfl,hE.out.1,_,by rw [hfin.out];rfl,by rw [hfin.out];exact hE.out.2⟩
theorem AhL {W2 wr:World} {oj:Own} {K Z:List Value} (_hK:K.length=3) (hZ:Z.length=3) (s2:aj ai w o W2 o2) (b12:W2.heap[w.heap.size]?=some (.cells K.toArray 120 (0,0))) (b2:W2.heap[w.heap.size+1]?=some (.cells Z.toArray 120 (0,0)))
  (st:aj ai W2 o2 wr oj):wr.heap[w.heap.size]?=some (.cells K.toArray 120 (0,0))/\∀ vs:List Value,vs.length=3->vs.all (·.oneCell')=true ->
   (Instr.storeAt 120 (.pointer (some (aW (w.heap.size+1) 0))) (.agg vs.toArray)).run prog wr = .ok () (wr.setCells (w.heap.size+1) 0 vs)/\(wr.setCells (w.heap.size+1) 0 vs).heap[w.heap.size+1]?=some (.cells vs.toArray 120 (0,0)) /\
   aj ai w o (wr.setCells (w.heap.size+1) 0 vs) oj:=by
 have Bbr:=st.di b12 id;have b2r:=st.di b2 id;refine ⟨Bbr,fun vs hv h1 => ?_⟩;obtain ⟨h2,h3⟩:=Ba (P:=prog) (ty:=120) (vs:=vs) b2r (by rw [hv,hZ]) (by rw [hv];exact AaW) h1;exact ⟨h2,h3,(s2.trans st).setCells _ _ _ (.inr aP)⟩
theorem take_any {f:Ar->Bool} {x:Ar} (hx:ls[k]?=some x) (h:(ls.take k).any f=false) (hf:f x=false):(ls.take (k+1)).any f=false:=by
 rw [List.take_add_one,hx,List.any_append,h];simp [hf]
theorem Ajs {f:Ar->Bool} {x:Ar} (hx:ls[k]?=some x) (hf:f x=true):ls.any f=true:=List.any_eq_true.2 ⟨x,List.mem_of_getElem? hx,hf⟩
section
variable {w:World} {o:Own} {p c:BitVec 64} {lv lv2:Value} {ls ls2:List Ar}
theorem Agi (hl:Lines w o 0 lv ls) (hl2:Lines w o 0 lv2 ls2) (hn2:ls2.length<=100000) (e:BitVec 64) :
  Calls prog 122 #[Dy p c lv, (e:aV),lv2] w (XL ai w o fun v w' o'=>ArO (AX.Ee ⟨p,c,ls⟩ e ls2) v w' o'):=by
 obtain ⟨D,hD⟩:∃ D:Nat,D=1:=⟨_,rfl⟩;obtain ⟨la,lc,rfl⟩:=hl.form;obtain ⟨N,hN⟩:=az (ls.length);obtain ⟨la2,lc2,rfl⟩:=hl2.form;obtain ⟨N2,hN2⟩:=az (ls2.length);unfold Dy;rw [hN] at hl ⊢;rw [hN2] at hl2 hn2 ⊢;have s1:=(aj.refl ai w o).alloc (.cells #[(p:aV), (c:aV), .slice la N lc] 120) (D,0);have b1:(w.alloc (.cells #[(p:aV), (c:aV), .slice la N lc] 120)).heap[w.heap.size]?=some (.cells [(p:aV), (c:aV), .slice la N lc].toArray 120 (0,0)):=heap_alloc_new w _;have z1:(w.alloc (.cells #[(p:aV), (c:aV), .slice la N lc] 120)).heap.size=w.heap.size+1:=bu
 have t1:Ak o w.heap.size (D,0) w.heap.size=(D,0):=Au _ _ _;obtain ⟨W1,hW1⟩:=az (w.alloc (.cells #[(p:aV), (c:aV), .slice la N lc] 120));rw [hW1] at s1 b1 z1;generalize Ak o w.heap.size (D,0)=o1 at s1 t1;have s2:=s1.alloc (.cells #[.int .u64 0, .int .u64 0, .slice none 0 0] 120) (D,1);have b2:(W1.alloc (.cells #[.int .u64 0, .int .u64 0, .slice none 0 0] 120)).heap[W1.heap.size]?=some (.cells [.int .u64 0, .int .u64 0, .slice none 0 0].toArray 120 (0,0)):=heap_alloc_new W1 _;have b12:=(Below.heap_alloc W1 (.cells #[.int .u64 0, .int .u64 0, .slice none 0 0] 120) w.heap.size aP).trans b1;have t2:Ak o1 W1.heap.size (D,1) W1.heap.size=(D,1):=Au _ _ _;have t12:Ak o1 W1.heap.size (D,1) w.heap.size=(D,0):=by rw [BI _ _ aP];exact t1
 have hal:=ae (AB (P:=prog) W1 120 _ Anh);have z2:(W1.alloc (.cells #[.int .u64 0, .int .u64 0, .slice none 0 0] 120)).heap.size=w.heap.size+2:=by simp [z1]
 obtain ⟨W2,hW2⟩:=az (W1.alloc (.cells #[.int .u64 0, .int .u64 0, .slice none 0 0] 120));rw [hW2] at hal s2 b2 b12 z2;generalize Ak o1 W1.heap.size (D,1)=o2 at s2 t2 t12;rw [z1] at b2 hal t2;rw [<-hW1] at hal;have c10:=ag b12 0;have c11:=ag b12 1;have c12:=ag b12 2;simp only [ay,ax] at c10 c11 c12;have hH:=aa5 s2 b12 b2 t12 t2;have hlw:=ae hl;have AqG:=ae hl2;have AqH:=ae (hl2.step s2 id:Lines W2 o2 0 (.slice la2 N2 lc2) ls2);have hNH:=aa2 hN hN2;have hout:=ae (fun (wr:World) (oj:Own) (st:aj ai W2 o2 wr oj)=>AhL (K:=[(p:aV), (c:aV), .slice la N lc]) (Z:=[.int .u64 0, .int .u64 0, .slice none 0 0]) rfl rfl s2 b12 b2 st);clear b2 b12 s2 s1 b1 z1 z2 hW1 hW2 hl hl2 t1 t2 t12 hN hN2;obtain ⟨E,hE0⟩:=az (e.toNat);rw [hE0];have AhW:=ae (fun (W:World) (O:Own) (x:Ar) (bv:Value) (hb:Bytes W O bv x.b)=>ZW e x hb);rw [hE0] at AhW;have hEH:=ae hE0;clear hE0
 by_cases h0:p.toNat<=E
 ·have h0I:¬ (E:Int)<(p.toNat:Int):=aP
  by_cases h1:c.toNat<E
  ·have h1I:¬ (E:Int)<=(c.toNat:Int):=aP
   by_cases h2:E<=281474976710656
   ·have h2I:¬ (281474976710656:Int)<(E:Int):=aP
    by_cases h3:N2<=256
    ·have h3I:¬ (256:Int)<(N2:Int):=aP
     have hok:=ae (show (decide (p.toNat<=e.toNat) && decide (c.toNat<e.toNat) && decide (e.toNat<=281474976710656) && decide (ls2.length<=256))=true by simp [hEH.out,hNH.out.2,h0,h1,h2,h3]);clear h0 h1 h2 h3;go_enter func122,ntmps122
     go_wp2_with (first
      | ((with_reducible apply AU);exact hal.out;simp only [Act.put,lsa,lsz,lss]))
     go_loopw [8] (fun i wr=>∃ (k:Nat) (oj:Own),k<=N2/\i = .int .i64 k/\aj ai W2 o2 wr oj/\(ls2.take k).any (badL e)=false) (fun i _=>N2 - (intOf i).toNat)
     case atStart=>exact ⟨0,o2,aP,rfl,aj.refl _ _ _,bu⟩
     case round =>
      obtain ⟨k,oj,hk,rfl,hst,hgood⟩:=hrel;have Amf:=ae hgood;clear hgood c10 c11 c12
      by_cases hlt:k<N2
      ·have AbY:(k:Int)<(N2:Int):=aP
       obtain ⟨x,hx⟩:∃ x,ls2[k]?=some x:=⟨_,List.getElem?_eq_getElem (by rw [hNH.out.2];exact hlt)⟩;obtain ⟨b,off,bv,rfl,hrg,hby, -, -, -⟩:=(AqH.out.step hst id).at hx;have Ajg:=ae (TG hrg);have hmy:=ae (AhW.out wr oj x bv hby);have hxH:=ae hx;clear hrg hby hx
       cases hb:badL e x with
       | true =>
        rw [hb] at hmy;have hfin:=ae (show AX.Ee ⟨p,c,ls⟩ e ls2=(⟨p,c,ls⟩,1) by simp only [AX.Ee,AX.Gg,Ajs hxH.out hb];simp)
        go_wp2_with (first
         | ((with_reducible apply Bo);exact Ajg.out;simp only [Act.put,lsa,lsz,lss]))
        refine hmy.out.mono ?_;rintro e1 w3 ⟨v3,o3,rfl,hs3,rfl⟩;have hst3:=hst.trans hs3;obtain ⟨hbk,wL⟩:=hout.out w3 o3 hst3;obtain ⟨hso,hsb,stE⟩:=wL [(p:aV), (c:aV), .slice la N lc] rfl rfl;have hld:=ae (AaS (AV hbk));have Aaz:=ae hso;have Acu:=ae hsb;have hE:=aa2 stE (hlw.out.step stE id);clear hso hsb stE wL hbk;clear hst hs3
        go_wp2_with (first
         | ((with_reducible apply Bo);exact hld.out;simp only [Act.put,lsa,lsz,lss])
         | ((with_reducible apply AC);exact Aaz.out;simp only [Act.put]))
        refine bodyPost_ret (Eg rfl _ _ (w.heap.size+1) 120 _ (0,0) _ rfl Acu.out underlying120 rfl AaW) rfl ?_;exact ⟨_,o3,rfl,hE.out.1,_,by rw [hfin.out];rfl,by rw [hfin.out];exact hE.out.2⟩
       | false =>
        rw [hb] at hmy;have hg2:=ae (take_any hxH.out Amf.out hb)
        go_wp2_with (first
         | ((with_reducible apply Bo);exact Ajg.out;simp only [Act.put,lsa,lsz,lss]))
        refine hmy.out.mono ?_;rintro e1 w3 ⟨v3,o3,rfl,hs3,rfl⟩;have hst3:=ae (hst.trans hs3);clear hst hs3 Ajg hmy;go_wp2_with fail;go_roundw
        case rel=>exact ⟨k+1,o3,aP,by go_num,hst3.out,hg2.out⟩
        case measure=>simp [intOf];omega
      ·obtain rfl:N2=k:=aP
       have hfin:=ae (show AX.Ee ⟨p,c,ls⟩ e ls2=(⟨e,e,ls2⟩,0) by
        have hg:=Amf.out;rw [<-hNH.out.2,List.take_length] at hg;simp only [AX.Ee,AX.Gg,hok.out,hg];simp)
       obtain ⟨hbk,wL⟩:=hout.out wr oj hst;obtain ⟨hso,hsb,stE⟩:=wL [.int .u64 (E:Int), .int .u64 (E:Int), .slice la2 N2 lc2] rfl rfl;have Aaz:=ae hso;have Acu:=ae hsb;have hE:=aa2 stE (AqG.out.step stE id);clear hso hsb stE wL hbk
       go_wp2_with (first
        | ((with_reducible apply AC);exact Aaz.out;simp only [Act.put]))
       refine bodyPost_ret (Eg rfl _ _ (w.heap.size+1) 120 _ (0,0) _ rfl Acu.out underlying120 rfl AaW) rfl ?_;exact ⟨_,oj,rfl,hE.out.1,_,by rw [hfin.out];simp only [Dy];rw [hEH.out];rfl,by rw [hfin.out];exact hE.out.2⟩
    ·have h3I:(256:Int)<(N2:Int):=aP
     have hfin:=ae (show AX.Ee ⟨p,c,ls⟩ e ls2=(⟨p,c,ls⟩,1) by simp only [AX.Ee,AX.Gg,hEH.out,hNH.out.2];simp [h3]);obtain ⟨hbk,wL⟩:=hout.out W2 o2 (aj.refl _ _ _);obtain ⟨hso,hsb,stE⟩:=wL [(p:aV), (c:aV), .slice la N lc] rfl rfl;have hld:=ae (AaS (AV hbk));have Aaz:=ae hso;have Acu:=ae hsb;have hE:=aa2 stE (hlw.out.step stE id);clear hso hsb stE wL hbk;go_enter func122,ntmps122
     go_wp2_with (first
      | ((with_reducible apply Bo);exact hld.out;simp only [Act.put,lsa,lsz,lss])
      | ((with_reducible apply AU);exact hal.out;simp only [Act.put,lsa,lsz,lss])
      | ((with_reducible apply AC);exact Aaz.out;simp only [Act.put]))
     refine bodyPost_ret (Eg rfl _ _ (w.heap.size+1) 120 _ (0,0) _ rfl Acu.out underlying120 rfl AaW) rfl ?_;exact ⟨_,o2,rfl,hE.out.1,_,by rw [hfin.out];rfl,by rw [hfin.out];exact hE.out.2⟩
   ·have h2I:(281474976710656:Int)<(E:Int):=aP
    have hfin:=ae (show AX.Ee ⟨p,c,ls⟩ e ls2=(⟨p,c,ls⟩,1) by simp only [AX.Ee,AX.Gg,hEH.out,hNH.out.2];simp [h2]);obtain ⟨hbk,wL⟩:=hout.out W2 o2 (aj.refl _ _ _);obtain ⟨hso,hsb,stE⟩:=wL [(p:aV), (c:aV), .slice la N lc] rfl rfl;have hld:=ae (AaS (AV hbk));have Aaz:=ae hso;have Acu:=ae hsb;have hE:=aa2 stE (hlw.out.step stE id);clear hso hsb stE wL hbk;go_enter func122,ntmps122
    go_wp2_with (first
     | ((with_reducible apply Bo);exact hld.out;simp only [Act.put,lsa,lsz,lss])
     | ((with_reducible apply AU);exact hal.out;simp only [Act.put,lsa,lsz,lss])
     | ((with_reducible apply AC);exact Aaz.out;simp only [Act.put]))
    refine bodyPost_ret (Eg rfl _ _ (w.heap.size+1) 120 _ (0,0) _ rfl Acu.out underlying120 rfl AaW) rfl ?_;exact ⟨_,o2,rfl,hE.out.1,_,by rw [hfin.out];rfl,by rw [hfin.out];exact hE.out.2⟩
  ·have h1I:(E:Int)<=(c.toNat:Int):=aP
   have hfin:=ae (show AX.Ee ⟨p,c,ls⟩ e ls2=(⟨p,c,ls⟩,1) by simp only [AX.Ee,AX.Gg,hEH.out,hNH.out.2];simp [h1]);obtain ⟨hbk,wL⟩:=hout.out W2 o2 (aj.refl _ _ _);obtain ⟨hso,hsb,stE⟩:=wL [(p:aV), (c:aV), .slice la N lc] rfl rfl;have hld:=ae (AaS (AV hbk));have Aaz:=ae hso;have Acu:=ae hsb;have hE:=aa2 stE (hlw.out.step stE id);clear hso hsb stE wL hbk;go_enter func122,ntmps122
   go_wp2_with (first
    | ((with_reducible apply Bo);exact hld.out;simp only [Act.put,lsa,lsz,lss])
    | ((with_reducible apply AU);exact hal.out;simp only [Act.put,lsa,lsz,lss])
    | ((with_reducible apply AC);exact Aaz.out;simp only [Act.put]))
   refine bodyPost_ret (Eg rfl _ _ (w.heap.size+1) 120 _ (0,0) _ rfl Acu.out underlying120 rfl AaW) rfl ?_;exact ⟨_,o2,rfl,hE.out.1,_,by rw [hfin.out];rfl,by rw [hfin.out];exact hE.out.2⟩
 ·have h0I:(E:Int)<(p.toNat:Int):=aP
  have hfin:=ae (show AX.Ee ⟨p,c,ls⟩ e ls2=(⟨p,c,ls⟩,1) by simp only [AX.Ee,AX.Gg,hEH.out,hNH.out.2];simp [h0]);obtain ⟨hbk,wL⟩:=hout.out W2 o2 (aj.refl _ _ _);obtain ⟨hso,hsb,stE⟩:=wL [(p:aV), (c:aV), .slice la N lc] rfl rfl;have hld:=ae (AaS (AV hbk));have Aaz:=ae hso;have Acu:=ae hsb;have hE:=aa2 stE (hlw.out.step stE id);clear hso hsb stE wL hbk;go_enter func122,ntmps122
  go_wp2_with (first
   | ((with_reducible apply Bo);exact hld.out;simp only [Act.put,lsa,lsz,lss])
   | ((with_reducible apply AU);exact hal.out;simp only [Act.put,lsa,lsz,lss])
   | ((with_reducible apply AC);exact Aaz.out;simp only [Act.put]))
  refine bodyPost_ret (Eg rfl _ _ (w.heap.size+1) 120 _ (0,0) _ rfl Acu.out underlying120 rfl AaW) rfl ?_;exact ⟨_,o2,rfl,hE.out.1,_,by rw [hfin.out];rfl,by rw [hfin.out];exact hE.out.2⟩
end
def AcL (X:Nat) (o:Own):Own:=fun k=>if (o k).1=X then (0,0) else o k
theorem AfB (h:(o k).1=0):(AcL X o k).1=0:=by
 unfold AcL;split
 ·rfl
 ·exact h
theorem aj.AcL (h:aj (ak X) w o w' o') (hX:∀ k,k<w.heap.size->(o k).1 ≠ X):aj ai w o w' (AcL X o'):=
 ⟨h.os,h.tape,h.output,h.size,fun k hk=>by
  have:=h.own k hk;unfold Go.Proofs.YthmpmgknnibljaaGreat.AcL;rw [this,if_neg (hX k hk)],fun k hk _=>h.block k hk (fun e=>hX k hk e)⟩
theorem Gh.plain (h:Gh w o 0 (X,0) v ls):Lines w (AcL X o) 0 v ls:=by
 obtain ⟨cs,h1,h2,h3,h4⟩:=h;refine ⟨cs, ?_,h3.AfI fun b _ hb=>AfB hb,CV.zero v,h4⟩
 rcases h1.2 with ⟨rfl,h0⟩ | ⟨g,cap,cur,rfl,q1,q2,q3,q4,q5,q6⟩
 ·refine .inl ⟨⟨none,0,rfl⟩,h0, ?_⟩;apply List.eq_nil_of_length_eq_zero;rw [h1.1,h0]
 ·refine .inr ⟨g,0,cap,rfl,q3,q4,by unfold AcL;rw [h2 g rfl];simp,au q2, ?_⟩;have:=BU (w:=w) (b:=g) (cs:=cur.toList) (E:=36) (fr:=(0,0)) (by simpa using q2) 0 (ls.length*2);rw [List.drop_zero,q6] at this;exact this
theorem Gh.AcV {W:World} {b2:Nat} {v2:Value} {l1 l2:List Ar} (h:Gh W o 0 (X,0) v l1) (hX:X ≠ 0) (h2:Lines W o b2 v2 l2) (hn:l1.length+l2.length<=100000) :
  ∃ nv w' o',(Builtin.append_ #[32,32] 32 #[v,v2]).run prog W = .ok nv w'/\Gh w' o' 0 (X,0) nv (l1++l2)/\aj (ak X) W o w' o':=by
 by_cases h0:l2.length=0
 ·have e:=List.eq_nil_of_length_eq_zero h0;subst e;obtain ⟨a,c,rfl⟩:=h.form;obtain ⟨a2,c2,rfl⟩:=h2.form;have:=h.iK.1;refine ⟨_,W,o,CB (P:=prog) W 32 32 36 2 underlying32 bf a a2 l1.length c c2 this (by simp at hn;omega),by rw [List.append_nil];exact h,aj.refl _ _ _⟩
 ·obtain ⟨cs,h3,h4, -, -⟩:=h2
  rcases h3 with ⟨_,q, -⟩ | ⟨g,off,c,rfl,q1,q2,q3,q4,q5⟩
  ·omega
  ·obtain ⟨nv,w',o',a1,a2,a3, -, -⟩:=h.append hX (Nat.zero_le _) q5 h4 (fun u _=>CV.zero u) aP hn (c:=c);exact ⟨nv,w',o',a1,a2,a3⟩
section
variable {w:World} {o:Own} {p c:BitVec 64} {lv lv2:Value} {ls ls2:List Ar}
theorem Afq (hl:Lines w o 0 lv ls) (hl2:Lines w o 0 lv2 ls2) (hn:ls.length<=256) (hn2:ls2.length<=1000) :
  Calls prog 70 #[Dy p c lv,lv2] w (XL ai w o fun v w' o'=>ArO (AX.Cm ⟨p,c,ls⟩ ls2) v w' o'):=by
 obtain ⟨D,hD⟩:∃ D:Nat,D=1:=⟨_,rfl⟩;obtain ⟨X,hX1,hXf⟩:=KT o w.heap.size 1;obtain ⟨la,lc,rfl⟩:=hl.form;obtain ⟨N,hN⟩:=az (ls.length);obtain ⟨la2,lc2,rfl⟩:=hl2.form;obtain ⟨N2,hN2⟩:=az (ls2.length);unfold Dy;rw [hN] at hl hn ⊢;rw [hN2] at hl2 hn2 ⊢;have s1:=(aj.refl ai w o).alloc (.cells #[(p:aV), (c:aV), .slice la N lc] 120) (D,0);have b1:(w.alloc (.cells #[(p:aV), (c:aV), .slice la N lc] 120)).heap[w.heap.size]?=some (.cells [(p:aV), (c:aV), .slice la N lc].toArray 120 (0,0)):=heap_alloc_new w _;have z1:(w.alloc (.cells #[(p:aV), (c:aV), .slice la N lc] 120)).heap.size=w.heap.size+1:=bu
 have t1:Ak o w.heap.size (D,0) w.heap.size=(D,0):=Au _ _ _;obtain ⟨W1,hW1⟩:=az (w.alloc (.cells #[(p:aV), (c:aV), .slice la N lc] 120));rw [hW1] at s1 b1 z1;generalize Ak o w.heap.size (D,0)=o1 at s1 t1;have s2:=s1.alloc (.cells #[.int .u64 0, .int .u64 0, .slice none 0 0] 120) (D,1);have b2:(W1.alloc (.cells #[.int .u64 0, .int .u64 0, .slice none 0 0] 120)).heap[W1.heap.size]?=some (.cells [.int .u64 0, .int .u64 0, .slice none 0 0].toArray 120 (0,0)):=heap_alloc_new W1 _;have b12:=(Below.heap_alloc W1 (.cells #[.int .u64 0, .int .u64 0, .slice none 0 0] 120) w.heap.size aP).trans b1;have t2:Ak o1 W1.heap.size (D,1) W1.heap.size=(D,1):=Au _ _ _;have t12:Ak o1 W1.heap.size (D,1) w.heap.size=(D,0):=by rw [BI _ _ aP];exact t1
 have hal:=ae (AB (P:=prog) W1 120 _ Anh);have z2:(W1.alloc (.cells #[.int .u64 0, .int .u64 0, .slice none 0 0] 120)).heap.size=w.heap.size+2:=by simp [z1]
 obtain ⟨W2,hW2⟩:=az (W1.alloc (.cells #[.int .u64 0, .int .u64 0, .slice none 0 0] 120));rw [hW2] at hal s2 b2 b12 z2;generalize Ak o1 W1.heap.size (D,1)=o2 at s2 t2 t12;rw [z1] at b2 hal t2;rw [<-hW1] at hal;have c10:=ag b12 0;have c11:=ag b12 1;have c12:=ag b12 2;simp only [ay,ax] at c10 c11 c12;have hH:=aa5 s2 b12 b2 t12 t2;have hlw:=ae hl;have AqG:=ae hl2;have AqH:=ae (hl2.step s2 id:Lines W2 o2 0 (.slice la2 N2 lc2) ls2);have hNH:=aa2 hN hN2;have hout:=ae (fun (wr:World) (oj:Own) (st:aj ai W2 o2 wr oj)=>AhL (K:=[(p:aV), (c:aV), .slice la N lc]) (Z:=[.int .u64 0, .int .u64 0, .slice none 0 0]) rfl rfl s2 b12 b2 st);clear b2 b12 s2 s1 b1 z1 z2 hW1 hW2 hl hl2 t1 t2 t12 hN hN2;have AhW:=ae (fun (W:World) (O:Own) (x:Ar) (bv:Value) (hb:Bytes W O bv x.b)=>ZW Ho x hb);have htop:(Ho.toNat:Int)=281474976710656:=bz
 rw [htop] at AhW;clear htop;have hnI:(0:Int)<=(N:Int)/\(N:Int)<=256:=aP
 have Bfj:(0:Int)<=(N2:Int)/\(N2:Int)<=1000:=aP
 have hXf:=ae hXf
 by_cases h0:N2=0
 ·subst h0;have hfin:=ae (show AX.Cm ⟨p,c,ls⟩ ls2=(⟨p,c,ls⟩,1) by simp only [AX.Cm,AX.Eu,hNH.out.2];simp);obtain ⟨hbk,wL⟩:=hout.out W2 o2 (aj.refl _ _ _);obtain ⟨hso,hsb,stE⟩:=wL [(p:aV), (c:aV), .slice la N lc] rfl rfl;have hld:=ae (AaS (AV hbk));have Aaz:=ae hso;have Acu:=ae hsb;have hE:=aa2 stE (hlw.out.step stE id);clear hso hsb stE wL hbk;go_enter func70,ntmps70
  go_wp2_with (first
   | ((with_reducible apply Bo);exact hld.out;simp only [Act.put,lsa,lsz,lss])
   | ((with_reducible apply AU);exact hal.out;simp only [Act.put,lsa,lsz,lss])
   | ((with_reducible apply AC);exact Aaz.out;simp only [Act.put]))
  refine bodyPost_ret (Eg rfl _ _ (w.heap.size+1) 120 _ (0,0) _ rfl Acu.out underlying120 rfl AaW) rfl ?_;exact ⟨_,o2,rfl,hE.out.1,_,by rw [hfin.out];rfl,by rw [hfin.out];exact hE.out.2⟩
 ·have h0I:((N2:Int) == 0)=false:=by simp;omega
  by_cases h1:N2+N<=256
  ·have h1I:¬ (256:Int)<(N:Int)+(N2:Int):=aP
   go_enter func70,ntmps70
   go_wp2_with (first
    | ((with_reducible apply AU);exact hal.out;simp only [Act.put,lsa,lsz,lss]))
   clear h1I
   go_loopw [6] (fun i wr=>∃ (k:Nat) (oj:Own),k<=N2/\i = .int .i64 k/\aj ai W2 o2 wr oj/\(ls2.take k).any (badL Ho)=false/\((ls2.take k).any fun x => !(x.e == c))=false) (fun i _=>N2 - (intOf i).toNat)
   case atStart=>exact ⟨0,o2,aP,rfl,aj.refl _ _ _,bu,bu⟩
   case round =>
    obtain ⟨k,oj,hk,rfl,hst,hg1,hg2⟩:=hrel;have hgH:=aa2 hg1 hg2;clear hg1 hg2 c10 c11 c12
    by_cases hlt:k<N2
    ·have AbY:(k:Int)<(N2:Int):=aP
     obtain ⟨x,hx⟩:∃ x,ls2[k]?=some x:=⟨_,List.getElem?_eq_getElem (by rw [hNH.out.2];exact hlt)⟩;have AiV:=hst.drew;obtain ⟨b,off,bv,rfl,hrg,hby, -,hbl, -⟩:=(AqH.out.step AiV id).at hx;have hmy:=ae (AhW.out wr.drew oj x bv hby);have hxH:=ae hx;have hbk:=(hout.out wr.drew oj AiV).1;have hkl:=au hbk;have cC:wr.drew.cell? (aW w.heap.size 1)=some (c:aV):=ag hbk 1;have cE:wr.drew.cell? (aW b (off+k*2))=some (x.e:aV):=hrg 0 _ rfl;have hS:=aa3 hrg cE cC;have hSn:=ae (fun (W:World) (O:Own) (st:aj ai wr.drew oj W O)=>(show W.rangeAt b (off+k*2) [(x.e:aV),bv]/\W.cell? (aW b (off+k*2))=some (x.e:aV)/\W.cell? (aW w.heap.size 1)=some (c:aV) from
      ⟨Cf hrg (st.block _ hbl id),by rw [World.cell?_of_block (w:=wr.drew) (a:=(aW b (off+k*2))) (st.block _ hbl id)];exact cE,by rw [World.cell?_of_block (w:=wr.drew) (a:=(aW w.heap.size 1)) (st.block _ hkl id)];exact cC⟩))
     obtain ⟨ba,bc,rfl⟩:=Aq hby;obtain ⟨V,hV⟩:=az (wr.drew);rw [hV] at hS hSn hmy AiV;have hVH:=ae hV;clear hrg hby hx hbk cE cC hbl hkl hV
     cases hb:badL Ho x with
     | true =>
      rw [hb] at hmy;have hfin:=ae (show AX.Cm ⟨p,c,ls⟩ ls2=(⟨p,c,ls⟩,1) by simp only [AX.Cm,AX.Eu,Ajs hxH.out hb];simp);go_wp2_with fail;refine Aa (fun w'=>w'.rangeAt b (off+k*2) [(x.e:aV), .slice ba x.b.length bc]/\w'.cell? (aW b (off+k*2))=some (x.e:aV)/\w'.cell? (aW w.heap.size 1)=some (c:aV)) (fun _=>true) bf (hVH.out ▸ hS.out) (fun hHeld => ?_);rw [hVH.out] at hHeld ⊢;refine tq 0 (h:=tq 1 (h:=tq 2 (h:=?_)));refine Dt (i:=3) (v := .agg [(x.e:aV), .slice ba x.b.length bc].toArray) rfl bf (fun _ _ _ h=>h) (yieldsIf_load_mid rfl 36 (.tmp 29) rfl b (off+k*2) rfl [(x.e:aV), .slice ba x.b.length bc] _ (fun w h=>h.1) underlying36 rfl bf) (by assumption) ?_;simp only [Act.put,lsa,lsz,lss];refine tO 4 (h:=?_);go_wp2_with fail;refine hmy.out.mono ?_;rintro e1 w3 ⟨v3,o3,rfl,hs3,rfl⟩;have hS3:=hSn.out w3 o3 hs3;have hst3:=AiV.trans hs3;clear hHeld;go_wp2_with fail;refine ⟨fun _=>hS3, ?_⟩;refine tq 5 (h:=tq 6 (h:=ts 7 (h:=ts 8 (h:=ts 9 (h:=ts 10 (h:=ts 11 (h:=ts 12 (h:=ts 13 (h:=ts 14 (h:=tq 15 (h:=tD (h:=?_))))))))))));have hst3:=hst3;obtain ⟨hbk,wL⟩:=hout.out w3 o3 hst3;obtain ⟨hso,hsb,stE⟩:=wL [(p:aV), (c:aV), .slice la N lc] rfl rfl;have hld:=ae (AaS (AV hbk));have Aaz:=ae hso;have Acu:=ae hsb;have hE:=aa2 stE (hlw.out.step stE id);clear hso hsb stE wL hbk;clear hst hs3 hS3
      go_wp2_with (first
       | ((with_reducible apply Bo);exact hld.out;simp only [Act.put,lsa,lsz,lss])
       | ((with_reducible apply AC);exact Aaz.out;simp only [Act.put]))
      refine bodyPost_ret (Eg rfl _ _ (w.heap.size+1) 120 _ (0,0) _ rfl Acu.out underlying120 rfl AaW) rfl ?_;exact ⟨_,o3,rfl,hE.out.1,_,by rw [hfin.out];rfl,by rw [hfin.out];exact hE.out.2⟩
     | false =>
      rw [hb] at hmy;have hga:=ae (take_any hxH.out hgH.out.1 hb)
      cases hq:(!(x.e == c)) with
      | true =>
       have hfin:=ae (show AX.Cm ⟨p,c,ls⟩ ls2=(⟨p,c,ls⟩,1) by simp only [AX.Cm,AX.Eu,Ajs (f:=fun x => !(x.e == c)) hxH.out hq];simp);have hqI:((x.e.toNat:Int) == (c.toNat:Int))=false:=by
        simp only [Bool.not_eq_true',beq_eq_false_iff_ne] at hq ⊢;intro h;exact hq (BitVec.eq_of_toNat_eq aP)
       clear hq;go_wp2_with fail;refine Aa (fun w'=>w'.rangeAt b (off+k*2) [(x.e:aV), .slice ba x.b.length bc]/\w'.cell? (aW b (off+k*2))=some (x.e:aV)/\w'.cell? (aW w.heap.size 1)=some (c:aV)) (fun _=>true) bf (hVH.out ▸ hS.out) (fun hHeld => ?_);rw [hVH.out] at hHeld ⊢;refine tq 0 (h:=tq 1 (h:=tq 2 (h:=?_)));refine Dt (i:=3) (v := .agg [(x.e:aV), .slice ba x.b.length bc].toArray) rfl bf (fun _ _ _ h=>h) (yieldsIf_load_mid rfl 36 (.tmp 29) rfl b (off+k*2) rfl [(x.e:aV), .slice ba x.b.length bc] _ (fun w h=>h.1) underlying36 rfl bf) (by assumption) ?_;simp only [Act.put,lsa,lsz,lss];refine tO 4 (h:=?_);go_wp2_with fail;refine hmy.out.mono ?_;rintro e1 w3 ⟨v3,o3,rfl,hs3,rfl⟩;have hS3:=hSn.out w3 o3 hs3;have hst3:=AiV.trans hs3;clear hHeld;go_wp2_with fail;refine ⟨fun _=>hS3, ?_⟩;refine tq 5 (h:=tq 6 (h:=tq 7 (h:=tq 8 (h:=tq 9 (h:=tq 10 (h:=tq 11 (h:=tq 12 (h:=tq 13 (h:=tq 14 (h:=tq 15 (h:=tD (h:=?_))))))))))));obtain ⟨hbk,wL⟩:=hout.out w3 o3 hst3;obtain ⟨hso,hsb,stE⟩:=wL [(p:aV), (c:aV), .slice la N lc] rfl rfl;have hld:=ae (AaS (AV hbk));have Aaz:=ae hso;have Acu:=ae hsb;have hE:=aa2 stE (hlw.out.step stE id);clear hso hsb stE wL hbk;clear hst hs3 hS3
       go_wp2_with (first
        | ((with_reducible apply Bo);exact hld.out;simp only [Act.put,lsa,lsz,lss])
        | ((with_reducible apply AC);exact Aaz.out;simp only [Act.put]))
       refine bodyPost_ret (Eg rfl _ _ (w.heap.size+1) 120 _ (0,0) _ rfl Acu.out underlying120 rfl AaW) rfl ?_;exact ⟨_,o3,rfl,hE.out.1,_,by rw [hfin.out];rfl,by rw [hfin.out];exact hE.out.2⟩
      | false =>
       have hgb:=ae (take_any (f:=fun x => !(x.e == c)) hxH.out hgH.out.2 hq);have hqI:((x.e.toNat:Int) == (c.toNat:Int))=true:=by
        simp only [Bool.not_eq_false',beq_iff_eq] at hq ⊢;rw [hq]
       clear hq;go_wp2_with fail;refine Aa (fun w'=>w'.rangeAt b (off+k*2) [(x.e:aV), .slice ba x.b.length bc]/\w'.cell? (aW b (off+k*2))=some (x.e:aV)/\w'.cell? (aW w.heap.size 1)=some (c:aV)) (fun _=>true) bf (hVH.out ▸ hS.out) (fun hHeld => ?_);rw [hVH.out] at hHeld ⊢;refine tq 0 (h:=tq 1 (h:=tq 2 (h:=?_)));refine Dt (i:=3) (v := .agg [(x.e:aV), .slice ba x.b.length bc].toArray) rfl bf (fun _ _ _ h=>h) (yieldsIf_load_mid rfl 36 (.tmp 29) rfl b (off+k*2) rfl [(x.e:aV), .slice ba x.b.length bc] _ (fun w h=>h.1) underlying36 rfl bf) (by assumption) ?_;simp only [Act.put,lsa,lsz,lss];refine tO 4 (h:=?_);go_wp2_with fail;refine hmy.out.mono ?_;rintro e1 w3 ⟨v3,o3,rfl,hs3,rfl⟩;have hS3:=hSn.out w3 o3 hs3;have hst3:=AiV.trans hs3;clear hHeld;go_wp2_with fail;refine ⟨fun _=>hS3, ?_⟩;refine tq 5 (h:=tq 6 (h:=tq 7 (h:=tq 8 (h:=tq 9 (h:=tq 10 (h:=tq 11 (h:=tq 12 (h:=tq 13 (h:=tq 14 (h:=tq 15 (h:=tD (h:=?_))))))))))));have hst3:=ae hst3;clear hst hs3 hS3 hmy hS hSn AiV;go_wp2_with fail;go_roundw
       case rel=>exact ⟨k+1,o3,aP,by go_num,hst3.out,hga.out,hgb.out⟩
       case measure=>simp [intOf];omega
    ·obtain rfl:N2=k:=aP
     have hfin:=ae (show AX.Cm ⟨p,c,ls⟩ ls2=(⟨p,c,ls++ls2⟩,0) by
      obtain ⟨ha,hb⟩:=hgH.out;rw [<-hNH.out.2,List.take_length] at ha hb;simp only [AX.Cm,AX.Eu,hNH.out.2,ha,hb];simp only [hNH.out.1,h1];simp;omega)
     clear h0 h1;have hX0:X ≠ 0:=aP
     obtain ⟨hbk, -⟩:=hout.out wr oj hst;have c12:wr.cell? (aW w.heap.size 2)=some (.slice la N lc):=ag hbk 2;obtain ⟨s2,b12,b2,t12,t2⟩:=hH.out;have hw:=s2.trans hst;obtain ⟨nv1,w3,o3,hr1,hL1,sX1⟩:=(Gh.nil wr oj 0 (X,0)).AcV hX0 (hlw.out.step hw id) (by rw [hNH.out.1];simp;omega);rw [List.nil_append] at hL1;have nX0:¬ ak X 0:=fun h=>hX0 h.symm;obtain ⟨nv2,w4,o4,hr2,hL2,sX2⟩:=hL1.AcV hX0 ((AqG.out.step hw id).step sX1 nX0) (by rw [hNH.out.1,hNH.out.2];omega);have sX:=sX1.trans sX2;have oj1:oj w.heap.size=(D,0):=by rw [hst.own _ (au b12)];exact t12
     have oj2:oj (w.heap.size+1)=(D,1):=by rw [hst.own _ (au b2)];exact t2
     have b2r:=hst.di b2 id;have nXD:¬ ak X D:=fun h=>by change D=X at h;omega
     have k4:=sX.di hbk (by rw [oj1];exact nXD);have r4:=sX.di b2r (by rw [oj2];exact nXD);have u4:o4 w.heap.size=(D,0):=by rw [sX.own _ (au hbk)];exact oj1
     have u4':o4 (w.heap.size+1)=(D,1):=by rw [sX.own _ (au b2r)];exact oj2
     obtain ⟨na,nc,rfl⟩:=hL2.form;obtain ⟨N3,hN3⟩:=az ((ls++ls2).length);rw [hN3] at hr2 hL2;clear hN3;have k5:=Ai (i:=2) (.slice na N3 nc) k4;simp only [lsz,lss] at k5;have f4:=Ap k4 2;have c4:=ag k4 2;simp only [ay,ax] at c4;have r5:(w4.setCell (aW w.heap.size 2) (.slice na N3 nc)).heap[w.heap.size+1]?=_:=(Below.heap_setCell _ _ _ _ (by show w.heap.size+1 ≠ w.heap.size;omega)).trans r4;have hld:=ae (AaS (AV k5));obtain ⟨hso,hsb⟩:=Ba (P:=prog) (ty:=120) (vs:=[(p:aV), (c:aV), .slice na N3 nc]) r5 rfl bf rfl;have Aaz:=ae hso;have Acu:=ae hsb;have Akg:=ae hr1;have Ahe:=ae hr2;have stF:=((((hw.only X).trans sX).setCell (a:=(aW w.heap.size 2)) (.slice na N3 nc) (.inr (Nat.le_refl _))).setCells (w.heap.size+1) 0 [(p:aV), (c:aV), .slice na N3 nc] (.inr aP)).AcL hXf.out;have sF:=((aj.refl (ak D) w4 o4).setCell (a:=(aW w.heap.size 2)) (.slice na N3 nc) (.inl (by show (o4 w.heap.size).1=D;rw [u4]))).setCells (w.heap.size+1) 0 [(p:aV), (c:aV), .slice na N3 nc] (.inl (by show (o4 (w.heap.size+1)).1=D;rw [u4']));have hE:=aa2 stF (hL2.step sF (fun h=>by change X=D at h;omega) (fun h=>by change 0=D at h;omega)).plain;have h1c:(Value.slice na N3 nc).oneCell'=true:=rfl;clear hso hsb hr1 hr2 stF sF k5 r5 k4 r4 b2r hL1 hL2 sX sX1 sX2 hw s2 b12 b2 hbk hst
     go_wp2_with (first
      | ((with_reducible apply Bo);exact hld.out;simp only [Act.put,lsa,lsz,lss])
      | ((with_reducible apply Bl);exact Akg.out;simp only [Act.put,lsa,lsz,lss])
      | ((with_reducible apply AC);exact Aaz.out;simp only [Act.put])
      | ((with_reducible apply Bl);exact Ahe.out;simp only [Act.put,lsa,lsz,lss]))
     refine bodyPost_ret (Eg rfl _ _ (w.heap.size+1) 120 _ (0,0) _ rfl Acu.out underlying120 rfl AaW) rfl ?_;exact ⟨_,_,rfl,hE.out.1,_,by rw [hfin.out];rfl,by rw [hfin.out];exact hE.out.2⟩
  ·have h1I:(256:Int)<(N:Int)+(N2:Int):=aP
   have hfin:=ae (show AX.Cm ⟨p,c,ls⟩ ls2=(⟨p,c,ls⟩,1) by simp only [AX.Cm,AX.Eu,hNH.out.1,hNH.out.2];simp [h1]);obtain ⟨hbk,wL⟩:=hout.out W2 o2 (aj.refl _ _ _);obtain ⟨hso,hsb,stE⟩:=wL [(p:aV), (c:aV), .slice la N lc] rfl rfl;have hld:=ae (AaS (AV hbk));have Aaz:=ae hso;have Acu:=ae hsb;have hE:=aa2 stE (hlw.out.step stE id);clear hso hsb stE wL hbk;go_enter func70,ntmps70
   go_wp2_with (first
    | ((with_reducible apply Bo);exact hld.out;simp only [Act.put,lsa,lsz,lss])
    | ((with_reducible apply AU);exact hal.out;simp only [Act.put,lsa,lsz,lss])
    | ((with_reducible apply AC);exact Aaz.out;simp only [Act.put]))
   refine bodyPost_ret (Eg rfl _ _ (w.heap.size+1) 120 _ (0,0) _ rfl Acu.out underlying120 rfl AaW) rfl ?_;exact ⟨_,o2,rfl,hE.out.1,_,by rw [hfin.out];rfl,by rw [hfin.out];exact hE.out.2⟩
end

end Go.Proofs.YthmpmgknnibljaaGreat
