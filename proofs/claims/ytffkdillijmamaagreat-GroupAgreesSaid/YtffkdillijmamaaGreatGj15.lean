/- Layer 14: the group of plain nodes in memory: what is done with it. -/
import Derived.Test.YtffkdillijmamaaGreatRows
import Derived.Test.YtffkdillijmamaaGreatGj14
namespace Go.Proofs.YtffkdillijmamaaGreat
open Go.Proofs.Tryz
set_option maxRecDepth 100000
set_option maxHeartbeats 12800000
open Go Go.RowKit
variable {K' base i k ma mb ml n:Nat}{y:Aj}{b:Bool}{bv tv v:Value}{G:Gh}{z:Am}{V W w w':World}{o oV:Own}{ls:List Ar}
def PAt (w:World) (o:Own) (R pg pn C K B:Nat) (p:PG):Prop:=
 ∃ xs zs,Pe w o R pg pn xs zs ⟨p.ys.length,Ua p.ls,p.cut⟩/\zs.length=p.ys.length/\p.off.length=p.ys.length/\p.ys.length<=3/\R ≠ 0/\Ago p.ys.length B p.ls /\
  ∀ i z y b,zs[i]?=some z->p.ys[i]?=some y->p.off[i]?=some b->y.id=i/\y.n=p.ys.length/\AsP C K B b z y
section
variable {w w':World}{o o':Own}{R pg pn C K B M0:Nat}{p:PG}
theorem AcR (u:M0<R){xs:List xI}(h:Agb R xs){x:xI}(q:xs[i]?=some x):∀ k,KC x.D x.M k->EN M0 k:=by
 intro k r;obtain ⟨E,F,J⟩:=h.at' i x q;unfold KC at r;show M0<k;omega
theorem Ait (r:M0<R){xs:List xI}(h:Agb R xs){x:xI}(u:xs[i]?=some x):∀ k,InT x R k->EN M0 k:=by
 intro k q
 rcases q with q | q
 ·exact AcR r h u k q
 ·show M0<k;omega
theorem Aju (u:M0<R){xs:List xI}(h:Agb R xs){x:xI}{Mx:Nat}(q:xs[i]?=some x) (E:R+20<=Mx):∀ k,aY x Mx k->EN M0 k:=by
 intro k r;obtain ⟨F,J,O⟩:=h.at' i x q;unfold aY at r;show M0<k;omega
theorem PAt.step0 (h:PAt w o R pg pn C K B p) (s:aj ai w o w' o'):PAt w' o' R pg pn C K B p:=by
 obtain ⟨xs,zs,q,r⟩:=h;exact ⟨xs,zs,q.step0 s,r⟩
theorem PAt.mono {B':Nat}(h:PAt w o R pg pn C K B p) (r:K<=K') (q:B<=B'):PAt w o R pg pn C K' B' p:=by
 obtain ⟨xs,zs,u,E,F,h4,J,O,U⟩:=h;exact ⟨xs,zs,u,E,F,h4,J,O.mono q,fun i z y b W Y hb=>by
  obtain ⟨e1,e2,e3⟩:=U i z y b W Y hb;exact ⟨e1,e2,e3.mono r q⟩⟩
theorem PAt.lower {B':Nat}(h:PAt w o R pg pn C K B p) (q:p.fits B'=true):PAt w o R pg pn C K B' p:=by
 obtain ⟨xs,zs,O,U,W,h4,Y,E,h6⟩:=h;unfold PG.fits at q;rw [Bool.and_eq_true] at q;refine ⟨xs,zs,O,U,W,h4,Y,⟨E.1,fun x F=>?_⟩,fun i z y b hz J hb=>?_⟩
 ·obtain ⟨e1,e2,r,u,-⟩:=E.2 x F;grind
 ·obtain ⟨e1,e2,r,u,e5⟩:=h6 i z y b hz J hb;exact ⟨e1,e2,r,u.lower (List.all_eq_true.1 q.1 y (List.mem_of_getElem? J)),e5⟩
theorem PAt.node (h:PAt w o R pg pn C K B p) (hy:p.ys[i]?=some y) (hb:p.off[i]?=some b) :
  ∃ xs zs x z,Pe w o R pg pn xs zs ⟨p.ys.length,Ua p.ls,p.cut⟩/\xs.length<=3/\zs.length=p.ys.length/\xs[i]?=some x/\zs[i]?=some z/\AsP C K B b z y/\y.id=i/\y.n=p.ys.length /\
   ∀ (w':World) (o':Own) (z':Am) (q:Aj) (b':Bool) (r:List (Nat × Nat × BG)) (J:List xI) (K' B':Nat),K<=K'->B<=B'->Pe w' o' R pg pn J (zs.set i z') ⟨p.ys.length,Ua r,p.cut⟩->AsP C K' B' b' z' q->q.id=i->q.n=p.ys.length->Ago p.ys.length B' r ->
    PAt w' o' R pg pn C K' B' ⟨p.ys.set i q,p.off.set i b',r,p.cut⟩:=by
 obtain ⟨xs,zs,O,U,h3,h4,hR,h5,W⟩:=h;have hi:=(List.getElem?_eq_some_iff.1 hy).1;have a4:xs.length=zs.length:=O.2.2.2.1;obtain ⟨x,hx⟩:∃ x,xs[i]?=some x:=⟨_,List.getElem?_eq_getElem om⟩;obtain ⟨z,Y⟩:∃ z,zs[i]?=some z:=⟨_,List.getElem?_eq_getElem om⟩;obtain ⟨e1,e2,e3⟩:=W i z y b Y hy hb;refine ⟨xs,zs,x,z,O,om,U,hx,Y,e3,e1,e2, ?_⟩;intro w' o' z' q b' r J K' B' hK hB hg ha a3 hn hl;refine ⟨J,zs.set i z',by grind,by grind,by grind,by grind,hR,by grind,fun j z2 y2 b2 u E F=>?_⟩
 by_cases a2:i=j
 grind
 ·rw [List.getElem?_set_ne a2] at u E F;obtain ⟨f1,f2,f3⟩:=W j z2 y2 b2 u E F;exact ⟨f1,by grind,f3.mono hK hB⟩
end
theorem WT {α:Type}{l:List α}{i:Nat}{a:α}(h:l[i]?=some a):l.set i a=l:=by
 apply List.ext_getElem?;grind
section
variable {w w':World}{o o':Own}{R pg pn C K B M0:Nat}{p:PG}
theorem PAt.look (h:PAt w o R pg pn C K B p) (hi:i<p.ys.length):∃ y b,p.ys[i]?=some y/\p.off[i]?=some b:=by
 obtain ⟨xs,zs,q,r,u,-⟩:=h;simp_all
theorem PAt.Aqy (h:PAt w o R pg pn C K B p):Ago p.ys.length B p.ls/\R ≠ 0:=by
 obtain ⟨xs,zs,u,E,F,h4,q,r,J⟩:=h;grind
theorem Ana {B:Nat}{ts:DX}(J:B<=90000) (h:TGB n i B ts) (r:Aj.EH ts):∀ t ∈ Ed ts,t.1<n/\i ≠ t.1/\t.2.length<=2097152:=by
 intro t u;obtain ⟨x,q,rfl⟩:=List.mem_map.1 u;obtain ⟨E,F,O⟩:=h x q;have h4:=Aje (r x q).n1;grind
theorem AnJ (hM:M0<R) (h:PAt w o R pg pn C K B p) (W:K+606<65536) (a6:B<=C) (u:B<=90000) (i:Nat) (hi:i<p.ys.length) (hw:∀ y ∈ p.ys,y.waited<=1000000) :
  Calls prog 14 #[.pointer (some ⟨pg,0,none⟩), .int .i64 (i:Int)] w (XL (EN M0) w o fun v w' o'=>v = .int .i64 (p.tick i).2/\PAt w' o' R pg pn C (K+6) B (p.tick i).1):=by
 obtain ⟨y,b,E,hb⟩:=h.look hi;obtain ⟨xs,zs,x,z,F,a7,b1,J,Y,O,a2,hn,a8⟩:=h.node E hb;obtain ⟨a3,hR⟩:=h.Aqy;unfold PG.tick;rw [E,hb]
 cases b with
 | true =>
  refine (Aou F i J Y O.dead).mono ?_;rintro e w' ⟨v,o',rfl,q,rfl⟩;exact ⟨_,o',rfl,q.mono (fun _ h=>h.elim),rfl,(h.step0 q).mono (by simp) (by simp)⟩
 | false =>
  obtain ⟨a4,a9⟩:=O.on;obtain ⟨rfl,U,-⟩:=id O;obtain ⟨p1,p2,p3⟩:=Am.WC a9 W a4.kok (Nat.le_trans U.ls.b a6);obtain ⟨k1,k2,-⟩:=Aj.dA U;obtain ⟨k3,k4⟩:=Aj.ApA z.BN;have r:=Aj.Asn U;rw [a2,hn] at r;refine (Aow F hR a7 i J Y a4 W u (hw _ (List.mem_of_getElem? E)) (by rw [AaL];exact a3.1) hi (by rw [p2];exact Ana u r k2)).mono ?_;rintro e w' ⟨v,o',rfl,q,rfl,a5⟩;rw [p2,Air hi u r k2] at a5;have:=a8 w' o' _ z.BN.tick.1 false _ xs (K+6) B om (by simp) a5 (.mk p1 k1 p3) om om (a3.send hi r k2);rw [WT hb] at this;exact ⟨_,o',rfl,q.mono (Ait hM F.2.2.1 J),rfl,this⟩
theorem AnO (hM:M0<R) (h:PAt w o R pg pn C K B p) (hK:K+600<65536) (c8:B+B<=C) (hC:B+B<=90000) (k:Nat) :
  Calls prog 16 #[.pointer (some ⟨pg,0,none⟩), .int .i64 (k:Int)] w (XL (EN M0) w o fun v w' o'=>v = .int .i64 (p.take k).2/\PAt w' o' R pg pn C (K+3) (B+B) (p.take k).1):=by
 obtain ⟨E,hR⟩:=h.Aqy
 cases F:p.ls[k]? with
 | none =>
  have c9:p.ls.length<=k:=List.getElem?_eq_none_iff.1 F;obtain ⟨xs,zs,J,-⟩:=id h;refine (ArB J (k:Int) (by simp_all [GN.may,AaL])).mono ?_;rintro e w' ⟨v,o',rfl,hs,rfl⟩;unfold PG.take;rw [F];exact ⟨_,o',rfl,hs.mono (fun _ h=>h.elim),rfl,(h.step0 hs).mono om om⟩
 | some m =>
  obtain ⟨src,dst,m⟩:=m;obtain ⟨e1,e2,e3,e4,e5⟩:=E.2 _ (List.mem_of_getElem? F);dsimp only at e1 e2 e3 e4 e5;obtain ⟨y,b,hy,hb⟩:=h.look e2;obtain ⟨xs,zs,x,z,J,a6,d1,U,hz,Y,O,hn,a7⟩:=h.node hy hb;have b5:k<(Ua p.ls).length:=by grind [AaL]
  have a2:=Asm F b5;have a3:∀ (er:Int) (p':PG),(if p.cuts src dst=true then ((p,65):PG × Int) else
    match p.ys[dst]?,p.off[dst]? with
    | some y,some false=>({ p with ys:=p.ys.set dst (y.hear src m).1,ls:=AjN (p.ls.take k++p.ls.drop (k+1)) dst (y.hear src m).2 },0)
    | _,_=>({ p with ls:=p.ls.take k++p.ls.drop (k+1) },9))=(p',er)->p.take k=(p',er):=by
   grind [PG.take]
  rw [hy,hb] at a3;refine AoA J hR (by show (Ua p.ls).length<=4096;rw [AaL];exact E.1) k b5 (by grind [GN.LOk]) (show EN M0 (R+2) by unfold EN;omega) ?_ ?_
  ·intro hc W r st a8 b8;have a4:p.cuts src dst=true:=by
    have:(⟨p.ys.length,Ua p.ls,p.cut⟩:GN).cuts (Ua p.ls)[k].src (Ua p.ls)[k].dst=true:=hc;rw [a2] at this;exact this
   rw [a3 65 p (by grind)];have u:=J.Anc hR a6 b8 a8;have hp:=a7 W r z y b p.ls xs (K+3) (B+B) om om (by rw [WT hz];omega) (Y.mono om om) O hn (E.mono om);simp_all [WT]
  ·intro hc W r bv b1 b2 st a8 b9 c0 c3;have a4:¬ p.cuts src dst=true:=by
    have:(⟨p.ys.length,Ua p.ls,p.cut⟩:GN).cuts (Ua p.ls)[k].src (Ua p.ls)[k].dst=false:=hc;rw [a2] at this;rw [show p.cuts src dst=false from this];simp
   have u:=J.Anc hR a6 st a8;have b6:At0 W r b2 (.cells (Aaa (Ua p.ls)[k] bv).toArray 104):=c0;have a9:Bytes W r bv (Ua p.ls)[k].b:=c3;rw [a2] at b6 a9;show Calls prog 43 #[_, .int .i64 ((Ua p.ls)[k].dst:Int),_] W _;rw [a2];have b3:=u.2.2.2.2 dst x z U hz;rw [show (⟨p.ys.length,Ua p.ls,p.cut⟩:GN).without k=_ from AiT _ _ _ _] at u
   cases b with
   | true =>
    refine (Acd u.1 dst U 56 #[.pointer (some ⟨b1,0,none⟩), .pointer (some ⟨b2,0,none⟩)] _ Tryz.call56 (AmD b3.1 b3.2 Y.dead _ _) (by simp)).mono ?_;rintro e w' ⟨rfl,rfl⟩;rw [a3 9 _ (by rw [if_neg a4])];have hp:=a7 W r z y true _ xs (K+3) (B+B) om om (by rw [WT hz];exact u) (Y.mono om om) O hn (E.without.mono om);rw [WT hy,WT hb] at hp;exact ⟨_,r,rfl,aj.refl _ _ _,by grind,rfl,hp⟩
   | false =>
    obtain ⟨b4,c4⟩:=Y.on;obtain ⟨rfl,a5,-⟩:=id Y;obtain ⟨ba,bc,rfl⟩:=Aq a9;have c6:=a5.ls.b;have d3:=Aje e4.n1;obtain ⟨p1,p2,p3⟩:=Am.Xk c4 hK b4.kok src m (by have:AP z.s.kept.lines<=B:=c6;omega) (fun mine has hr q hq=>by
     have h2:=a5.ro;rw [show z.BN.BB = .stands mine has from hr] at h2;exact Nat.le_trans (h2.2.2.2 q hq).b om)
    obtain ⟨k1,k2,-⟩:=Aj.dX a5 (src:=src) e4 B e5;obtain ⟨k3,k4⟩:=Aj.Arx z.BN src m;have kg:=Aj.AsG a5 (src:=src) om om e5;rw [O,hn] at kg;have dr:aj ai W r W.drew r:=(aj.refl ai W r).drew;have c7:=bC (m:=m) (b3.2.step0 dr) b4 hK src (by have:z.n=p.ys.length:=hn;omega) (by have:z.id=dst:=O;omega) (a9.step dr id) (by grind) (ET e4) om;refine (Acd u.1 dst U 56 #[.pointer (some ⟨b1,0,none⟩), .pointer (some ⟨b2,0,none⟩)] _ Tryz.call56 (AmF u hR a6 dst U hz b4.sp.dead (by show (Ua _).length<=4096;rw [AaL];exact E.without.1) e2 c7 (by rw [p2];exact Ana hC kg k2) b9 b6) (fun e w' hq=>by obtain ⟨v, -,hv,-⟩:=hq;grind)).mono ?_;rintro e w' ⟨v,o',rfl,hs,rfl,b7⟩;rw [p2,Air e2 hC kg k2] at b7;rw [a3 0 _ (by rw [if_neg a4])];have hp:=a7 w' o' _ (z.BN.hear src m).1 false _ xs (K+3) (B+B) om om b7 (.mk p1 k1 p3) om om ((E.without.mono om).send e2 kg k2);rw [WT hb] at hp;exact ⟨_,o',rfl,hs.mono (Ait hM J.2.2.1 U),by grind,rfl,hp⟩
theorem Ajl (Y:M0<R) (h:PAt w o R pg pn C K B p) (hK:K+600<65536){l:List UInt8}(a2:Bytes w o bv l) (b1:B+l.length<=C) (hC:B+l.length<=90000) (i:Nat) (hi:i<p.ys.length) :
  Calls prog 12 #[.pointer (some ⟨pg,0,none⟩), .int .i64 (i:Int),bv] w (XL (EN M0) w o fun v w' o'=>v = .int .i64 (p.BL i l).2/\PAt w' o' R pg pn C (K+3) (B+l.length) (p.BL i l).1):=by
 obtain ⟨y,b,E,hb⟩:=h.look hi;obtain ⟨xs,zs,x,z,q,a3,b2,r,F,u,a4,hn,a5⟩:=h.node E hb;obtain ⟨a6,hR⟩:=h.Aqy;obtain ⟨h1,J⟩:=q.2.2.2.2 i x z r F;unfold PG.BL;rw [E,hb];obtain ⟨ba,bc,rfl⟩:=Aq a2
 cases b with
 | true =>
  refine (AeX (er:=9) (z':=z) q hR a3 i r F fun W oW st=>(dJ (J.step0 st) u.dead ba l.length bc).mono ?_).mono ?_
  ·rintro e w' ⟨rfl,rfl⟩;exact ⟨_,oW,rfl,aj.refl _ _ _,rfl,J.step0 st⟩
  ·rintro e w' ⟨v,o',rfl,O,rfl,U⟩;have hp:=a5 w' o' z y true p.ls xs (K+3) (B+l.length) om om U (u.mono om om) a4 hn (a6.mono om);rw [WT E,WT hb] at hp;exact ⟨_,o',rfl,O.mono (AcR Y q.2.2.1 r),rfl,hp⟩
 | false =>
  obtain ⟨a7,a9⟩:=u.on;obtain ⟨rfl,a8,-⟩:=id u;have b3:AP z.s.kept.lines<=B:=a8.ls.b;obtain ⟨p1,p2,p3⟩:=Am.QL a9 hK a7.kok l om;obtain ⟨k1,-⟩:=Aj.AiK a8 l;obtain ⟨k3,k4⟩:=Aj.AjV z.BN l;refine (AeX q hR a3 i r F fun W oW st=>UW (J.step0 st) a7 hK (a2.step st id) hC).mono ?_;rintro e w' ⟨v,o',rfl,O,rfl,U⟩;have hp:=a5 w' o' _ (z.BN.BL l).1 false p.ls xs (K+3) (B+l.length) om om U (.mk p1 k1 p3) om om (a6.mono om);rw [WT hb] at hp;exact ⟨_,o',rfl,O.mono (AcR Y q.2.2.1 r),by grind,hp⟩
theorem Aof (E:M0<R) (h:PAt w o R pg pn C K B p) (i:Nat) (hi:i<p.ys.length) :
  Calls prog 13 #[.pointer (some ⟨pg,0,none⟩), .int .i64 (i:Int)] w (XL (EN M0) w o fun v w' o'=>v = .int .i64 0/\PAt w' o' R pg pn C K B (p.kill i)):=by
 obtain ⟨y,b,q,hb⟩:=h.look hi;obtain ⟨xs,zs,x,z,r,F,a3,u,J,O,U,hn,W⟩:=h.node q hb;obtain ⟨Y,hR⟩:=h.Aqy;refine (AoD r hR F i u J).mono ?_;rintro e w' ⟨v,o',rfl,hs,rfl,a2⟩;have hp:=W w' o' _ y true p.ls xs K B (by simp) (by simp) a2 O.kill U hn Y;rw [WT q] at hp;exact ⟨_,o',rfl,hs.mono (AcR E r.2.2.1 u),rfl,hp⟩
theorem Asy (R:Nat) (xs:List xI):∃ Mx,R+20<=Mx/\∀ y ∈ xs,y.M+4<=Mx:=by
 induction xs with
 | nil=>exact ⟨R+20,by simp,by simp⟩
 | cons a l r =>
  obtain ⟨m,E,u⟩:=r;refine ⟨max m (a.M+4),om,fun y q=>?_⟩
  grind
theorem AkZ (W:M0<R) (h:PAt w o R pg pn C K B p) (Y:K<65536) (i:Nat) (hi:i<p.ys.length) (c:Nat) :
  Calls prog 17 #[.pointer (some ⟨pg,0,none⟩), .int .i64 (i:Int), .slice none 0 c] w (XL (EN M0) w o fun v w' o'=>v = .int .i64 0/\PAt w' o' R pg pn C K B (p.start i)):=by
 obtain ⟨y,b,J,hb⟩:=h.look hi;obtain ⟨xs,zs,x,z,u,a2,a3,O,hz,ha,b3,hn,a4⟩:=h.node J hb;obtain ⟨a5,hR⟩:=h.Aqy;obtain ⟨rfl,a6,t,r,E⟩:=id ha;have q:=r.sp.sg;have b4:=r.top;have b5:=q.len;have a7:z.s.d.BJ []={ t.d with left := -1 }:=by
  rw [E]
  cases b with
  | true=>exact jL q.dd q.row []
  | false=>exact Ags q.dd q.row []
 have a8:z.s.d.row.length<=1000000:=by
  rw [E]
  cases b with
  | true=>show t.d.row.length<=1000000;rw [q.row];simp
  | false=>show t.d.row.length<=1000000;rw [q.row];simp
 have a9:z.BN.k=t.kept:=by
  show z.s.kept=t.kept;rw [E]
  cases b <;> rfl
 have b1:xs.length=zs.length:=u.2.2.2.1;obtain ⟨Mx,U⟩:=Asy R xs;refine (AmH (Mx:=Mx) (t:={ t with d:={ t.d with left := -1 } }) u hR a2 i O hz U (fs:=[]) (.inl ⟨by grind,rfl,rfl⟩) (by simp) a8 a7 (q.jH (-1) om) Y (by grind)).mono ?_;rintro e w' ⟨v,o',rfl,hs,rfl,x',b2⟩;have F:=a6.toN0;have hp:=a4 w' o' _ (Aj.new i p.ys.length z.BN.k) false p.ls _ K B (by simp) (by simp) b2 (.mk (by rw [a9, <-a3, <-b1];rfl) (Aj.TB om om hi F.ls F.cp F.pt) ⟨⟨q.jH (-1) om⟩,by show (-1:Int)<0;omega,r.room,r.top⟩) rfl rfl a5;unfold PG.start;rw [J];exact ⟨_,o',rfl,hs.mono (Aju W u.2.2.1 O U.1),rfl,hp⟩
end
namespace Gh
theorem Up.more {K B:Nat}(h:Up G n K B z) (q:K<=K'):Up G n K' B z:=⟨h.sp.mono q,h.nd,h.ok,h.nn⟩
theorem Aru.more {K B:Nat}{P:List UInt8->Prop}{r:Am × DX}(h:Aru G n P K B z r) (q:K<=K'):Aru G n P K' B z r:=by
 obtain ⟨G',u,E,F,h4,J,O⟩:=h;refine ⟨G',u,E,F,h4,J,O.imp (fun h=>⟨h.1.more q,h.2⟩) fun h=>⟨h.1, ?_⟩⟩;obtain ⟨h,d⟩:=h;exact ⟨d.sd.mono om,d.kn,d.cl,d.co,d.ls,d.ep,d.nn⟩
end Gh
def SAt (w:World) (o:Own) (R pg pn:Nat) (G:Gh) (n a:Nat) (A:List (List UInt8)) (zs:List Am) (ls:List (Nat × Nat × BG)) (cut:List (Nat × Nat × Bool)):Prop:=
 (∃ xs,Pe w o R pg pn xs zs ⟨n,Ua ls,cut⟩)/\R ≠ 0/\(∀ b ∈ A,b.length<=60)/\G.Sys n a (fun b=>b ∈ A) zs ls
def ArH (R pg pn:Nat) (G:Gh) (n a:Nat) (A:List (List UInt8)) (w:World) (o:Own):Prop:=
 ∃ G' zs ls cut,(∀ l,G.Ary n l->G'.Ary n l)/\SAt w o R pg pn G' n a A zs ls cut
theorem Aue {α:Type}{l:List α}{k:Nat}{x:α}(h:x ∈ l.take k++l.drop (k+1)):x ∈ l:=by
 grind
theorem Asq {α:Type}{l:List α}{k m:Nat}(h:l.length<=m):(l.take k++l.drop (k+1)).length<=m:=by
 grind
section
variable {w w':World}{o o':Own}{R pg pn n a M0:Nat}{G:Gh}{A:List (List UInt8)}{zs:List Am}{ls:List (Nat × Nat × BG)}{cut:List (Nat × Nat × Bool)}
theorem SAt.step0 (h:SAt w o R pg pn G n a A zs ls cut) (s:aj ai w o w' o'):SAt w' o' R pg pn G n a A zs ls cut:=by
 obtain ⟨⟨xs,q⟩,r⟩:=h;exact ⟨⟨xs,q.step0 s⟩,r⟩
theorem SAt.net (h:SAt w o R pg pn G n a A zs ls cut){xs:List xI}{q:List (Nat × Nat × BG)}{r:List (Nat × Nat × Bool)}(u:Pe w' o' R pg pn xs zs ⟨n,Ua q,r⟩) (E:q.length<=4096) (F:∀ x ∈ q,x ∈ ls):ArH R pg pn G n (a+1) A w' o':=by
 obtain ⟨-,J,O,U⟩:=h;exact ⟨G,zs,q,r,by simp,by grind,J,O,U.idle E F⟩
theorem SAt.idle (h:SAt w o R pg pn G n a A zs ls cut) (s:aj ai w o w' o'):ArH R pg pn G n (a+1) A w' o':=by
 obtain ⟨⟨xs,q⟩,r⟩:=id h;exact h.net (q.step0 s) r.2.2.ml fun _ h=>h
theorem SAt.more (h:SAt w o R pg pn G n a A zs ls cut){b:List UInt8}(hb:b.length<=60):SAt w o R pg pn G n a (b :: A) zs ls cut:=by
 obtain ⟨r,u,E,h4⟩:=h;exact ⟨r,u,by grind,h4.more fun x q=>List.mem_cons_of_mem _ q⟩
theorem SAt.node (h:SAt w o R pg pn G n a A zs ls cut) (i:Int):∃ xs,Pe w o R pg pn xs zs ⟨n,Ua ls,cut⟩/\xs.length<=3/\xs.length=n/\((i<0 \/ (xs.length:Int)<=i) \/ ∃ (q:Nat) (x:xI) (z:Am),i=(q:Int)/\q<n/\xs[q]?=some x/\zs[q]?=some z/\z.id=q/\G.NSt n (fun b=>b ∈ A) a z):=by
 obtain ⟨⟨xs,r⟩, -, -,h4⟩:=h;have J:xs.length=zs.length:=r.2.2.2.1;have hl:=h4.len;have O:=h4.n3;refine ⟨xs,r,om,om, ?_⟩
 by_cases E:i<0 \/ (xs.length:Int)<=i
 omega
 ·obtain ⟨q,rfl⟩:∃ q:Nat,i=(q:Int):=⟨i.toNat,om⟩;obtain ⟨x,F⟩:∃ x,xs[q]?=some x:=⟨_,List.getElem?_eq_getElem om⟩;obtain ⟨z,u⟩:∃ z,zs[q]?=some z:=⟨_,List.getElem?_eq_getElem om⟩;exact .inr ⟨q,x,z,rfl,om,F,u,h4.st q z u⟩
theorem Asa (q:M0<R):∀ k,ak (R+2) k->EN M0 k:=fun k (h:k=R+2)=>by show M0<k;omega
theorem Ayk (hM:M0<R) (h:SAt w o R pg pn G n a A zs ls cut) (ha:a<=250) (i:Int) :
  Calls prog 14 #[.pointer (some ⟨pg,0,none⟩), .int .i64 i] w (XL (EN M0) w o fun v w' o'=>(∃ er:Int,v = .int .i64 er)/\ArH R pg pn G n (a+1) A w' o'):=by
 obtain ⟨xs,F,a3,a8,hc⟩:=h.node i
 rcases hc with hi | ⟨q,x,z,rfl,hq,J,O,a4,hw,a9,a5⟩
 ·refine (Aiu F.1 hi).mono ?_;rintro e w' ⟨v,o',rfl,r,rfl⟩;exact ⟨_,o',rfl,r.mono (fun _ h=>h.elim),by grind,h.idle r⟩
 ·obtain ⟨-,W,Y,E⟩:=id h
  rcases a5 with ⟨K,u,k1,k2⟩ | ⟨K,d,-⟩
  ·have hK:K+606<65536:=by
    omega
   have hT:=Gh.Ayj (P:=fun b=>b ∈ A) E.ok u hK;obtain ⟨t1,U⟩:=hT.AyD;rw [a4] at U;obtain ⟨G',a6,a7⟩:=E.turn Y O k1 k2 hT (Nat.le_trans (Am.AwO z) om) (ls0:=ls) E.ml (by simp);refine (Aow F W a3 q J O ⟨u.sp,u.ok⟩ hK (by simp) om (by rw [AaL];exact E.ml) hq (Ana (by simp) U t1)).mono ?_;rintro e w' ⟨v,o',rfl,r,rfl,a2⟩;rw [Air hq (by simp) U t1] at a2;exact ⟨_,o',rfl,r.mono (Ait hM F.2.2.1 J),by grind,G',_,_,_,fun l hl=>hl.ext E.ok a6,⟨xs,a2⟩,W,Y,a7⟩
  ·refine (Aou F q J O d.sd.1).mono ?_;rintro e w' ⟨v,o',rfl,r,rfl⟩;exact ⟨_,o',rfl,r.mono (fun _ h=>h.elim),by grind,h.idle r⟩
theorem Ayn (U:M0<R) (h:SAt w o R pg pn G n a A zs ls cut) (i:Int) :
  Calls prog 13 #[.pointer (some ⟨pg,0,none⟩), .int .i64 i] w (XL (EN M0) w o fun v w' o'=>(∃ er:Int,v = .int .i64 er)/\ArH R pg pn G n (a+1) A w' o'):=by
 obtain ⟨xs,u,W,a5,hc⟩:=h.node i
 rcases hc with Y | ⟨q,x,z,rfl,hq,E,F,a2,a3⟩
 ·refine (Aix u.1 Y).mono ?_;rintro e w' ⟨v,o',rfl,r,rfl⟩;exact ⟨_,o',rfl,r.mono (fun _ h=>h.elim),by grind,h.idle r⟩
 ·obtain ⟨-,J,hA,O⟩:=id h;refine (AoD u J W q E F).mono ?_;rintro e w' ⟨v,o',rfl,r,rfl,a4⟩;exact ⟨_,o',rfl,r.mono (AcR U u.2.2.1 E),by grind,G,_,_,_,by simp,⟨xs,a4⟩,J,hA,O.after (.refl _ _ q _) O.ok F a2 a3.kill⟩
theorem Ays (W:M0<R) (h:SAt w o R pg pn G n a A zs ls cut) (i k:Int) (E:k<=9223372036854775807) :
  Calls prog 39 #[.pointer (some ⟨pg,0,none⟩), .int .i64 i, .int .i64 k] w (XL (EN M0) w o fun v w' o'=>(∃ er:Int,v = .int .i64 er)/\ArH R pg pn G n (a+1) A w' o'):=by
 obtain ⟨xs,u,Y,a5,hc⟩:=h.node i
 rcases hc with hi | ⟨q,x,z,rfl,hq,F,J,a2,a3⟩
 ·refine (Aiy u.1 hi k).mono ?_;rintro e w' ⟨v,o',rfl,r,rfl⟩;exact ⟨_,o',rfl,r.mono (fun _ h=>h.elim),by grind,h.idle r⟩
 ·obtain ⟨-,O,hA,U⟩:=id h;refine (AxB u O Y q F J k E).mono ?_;rintro e w' ⟨v,o',rfl,r,rfl,a4⟩;exact ⟨_,o',rfl,r.mono (AcR W u.2.2.1 F),by grind,G,_,_,_,by simp,⟨xs,a4⟩,O,hA,U.after (.refl _ _ q _) U.ok J a2 (a3.bG k E)⟩
theorem AxU (hM:M0<R) (h:SAt w o R pg pn G n a A zs ls cut) (ha:a<=250) (i:Int){fv:Value}{fs:List Int}(J:Ints w o fv fs) (a5:∀ a ∈ fs, -9223372036854775808<=a/\a<=9223372036854775807) :
  Calls prog 17 #[.pointer (some ⟨pg,0,none⟩), .int .i64 i,fv] w (XL (EN M0) w o fun v w' o'=>(∃ er:Int,v = .int .i64 er)/\ArH R pg pn G n (a+1) A w' o'):=by
 obtain ⟨xs,E,a6,a7,hc⟩:=h.node i;obtain ⟨fa,fc,rfl⟩:=Aq J
 rcases hc with hi | ⟨q,x,z,rfl,hq,O,U,a8,a9⟩
 ·refine (Agy E.1 hi _ _ _).mono ?_;rintro e w' ⟨v,o',rfl,u,rfl⟩;exact ⟨_,o',rfl,u.mono (fun _ h=>h.elim),by grind,h.idle u⟩
 ·obtain ⟨-,W,Y,r⟩:=id h;obtain ⟨t,K,t1,t2,t3,t4,t5,G',F,b1,a2⟩:=a9.start r.ok r.n1 r.n3 r.ps Y fs;have b2:=t1.len;rw [a8] at F a2;obtain ⟨Mx,a3⟩:=Asy R xs;refine (AmH (Mx:=Mx) E W a6 q O U a3 J a5 om t2 t1 om om).mono ?_;rintro e w' ⟨v,o',rfl,u,rfl,x',a4⟩;rw [a7] at a4;exact ⟨_,o',rfl,u.mono (Aju hM E.2.2.1 O a3.1),by grind,G',_,_,_,fun l hl=>hl.ext r.ok F,⟨_,a4⟩,W,Y,r.after F b1 U rfl a2⟩
theorem Axw (hM:M0<R) (h:SAt w o R pg pn G n a A zs ls cut) (ha:a<=250) (i:Int){l:List UInt8}(a2:Bytes w o bv l) (hl:l.length<=60) :
  Calls prog 12 #[.pointer (some ⟨pg,0,none⟩), .int .i64 i,bv] w (XL (EN M0) w o fun v w' o'=>∃ er:Int,v = .int .i64 er/\ArH R pg pn G n (a+1) (if er=0 \/ er=9 then l :: A else A) w' o'):=by
 obtain ⟨xs,r,a3,a9,hc⟩:=h.node i;obtain ⟨ba,bc,rfl⟩:=Aq a2
 rcases hc with hi | ⟨q,x,z,rfl,hq,O,E,b1,hw,b2,a5⟩
 ·refine (AeT r.1 hi _ _ _).mono ?_;rintro e w' ⟨v,o',rfl,F,rfl⟩;exact ⟨_,o',rfl,F.mono (fun _ h=>h.elim),1,rfl,by rw [if_neg (by decide)];exact h.idle F⟩
 ·obtain ⟨-,Y,hA,U⟩:=id h;obtain ⟨h1,h2⟩:=r.2.2.2.2 q x z O E
  rcases a5 with ⟨K,u,k1,k2⟩ | ⟨K,d,hd⟩
  ·have hK:K+606<65536:=by
    by_cases hl:z.s.d.left<0
    ·have:=k1 hl;omega
    ·have:=k2 om;omega
   refine (AeX r Y a3 q O E fun W oW st=>UW (h2.step0 st) ⟨u.sp,u.ok⟩ om (a2.step st id) om).mono ?_;rintro e w' ⟨v,o',rfl,F,rfl,J⟩;refine ⟨_,o',rfl,F.mono (AcR hM r.2.2.1 O),_,rfl, ?_⟩
   rcases Gh.Axx (P:=fun b=>b ∈ l :: A) U.ok u om l with ⟨e1,e2,e3⟩ | ⟨e1,e2⟩
   ·rw [if_neg (by rintro (h | h);exact e1 h;exact e2 h)]
    rw [e3,WT E] at J;exact h.net J U.ml fun _ h=>h
   ·rw [if_pos e1];have hT:=(e2 (by simp)).more (K':=K+6) om;obtain ⟨-, -,a4,a6⟩:=h.more hl;obtain ⟨G',a7,a8⟩:=a6.turn a4 E k1 k2 hT (Nat.le_trans (Am.Awc z l) om) (ls0:=ls) U.ml (fun _ h=>h);exact ⟨G',_,_,_,fun l hl=>hl.ext U.ok a7,⟨xs,J⟩,Y,a4,a8⟩
  ·refine (AeX (er:=9) (z':=z) r Y a3 q O E fun W oW st=>(dJ (h2.step0 st) d.sd.1 ba l.length bc).mono ?_).mono ?_
   ·rintro e w' ⟨rfl,rfl⟩;exact ⟨_,oW,rfl,aj.refl _ _ _,rfl,h2.step0 st⟩
   ·rintro e w' ⟨v,o',rfl,F,rfl,J⟩;rw [WT E] at J;exact ⟨_,o',rfl,F.mono (AcR hM r.2.2.1 O),9,rfl,by rw [if_pos (.inr rfl)];exact (h.more hl).net J U.ml fun _ h=>h⟩
end
section
variable {w w':World}{o o':Own}{R pg pn n a M0:Nat}{G:Gh}{A:List (List UInt8)}{zs:List Am}{ls:List (Nat × Nat × BG)}{cut:List (Nat × Nat × Bool)}
theorem Ayl (hM:M0<R) (h:SAt w o R pg pn G n a A zs ls cut) (ha:a<=250) (k:Int) :
  Calls prog 16 #[.pointer (some ⟨pg,0,none⟩), .int .i64 k] w (XL (EN M0) w o fun v w' o'=>(∃ er:Int,v = .int .i64 er)/\ArH R pg pn G n (a+1) A w' o'):=by
 by_cases hk:0<=k/\k<(ls.length:Int)
 ·obtain ⟨q,rfl⟩:∃ q:Nat,k=(q:Int):=⟨k.toNat,om⟩;have hq:q<ls.length:=om
  obtain ⟨m,hm⟩:∃ m,ls[q]?=some m:=⟨_,List.getElem?_eq_getElem hq⟩;obtain ⟨src,dst,m⟩:=m;obtain ⟨-,O,hA,r⟩:=id h;obtain ⟨e1,e2,e3,e4,U⟩:=r.ms _ (List.mem_of_getElem? hm);dsimp only at e1 e2 e3 e4 U;obtain ⟨xs,F,a2,c8,hc⟩:=h.node (dst:Int);obtain ⟨x,z,Y,hz,a3,hw,c9,b4⟩:∃ (x:xI) (z:Am),xs[dst]?=some x/\zs[dst]?=some z/\z.id=dst/\G.NSt n (fun b=>b ∈ A) a z:=by
   rcases hc with hi | ⟨q',x,z,d1, -,h3⟩
   ·omega
   ·have:dst=q':=om
    subst this;exact ⟨x,z,h3⟩
  clear hc;have a8:q<(Ua ls).length:=by rw [AaL];exact hq
  have a4:=Asm hm a8;have b5:(Ua ls).length<=4096:=by rw [AaL];exact r.ml
  refine AoA F O b5 q a8 (by show GN.LOk n (Ua ls)[q];rw [a4];exact ⟨e1,e2,e3⟩) (show EN M0 (R+2) by unfold EN;omega) ?_ ?_
  ·intro hc W E st a5 b6;exact ⟨⟨_,rfl⟩,h.net (F.Anc O a2 b6 a5) r.ml fun _ h=>h⟩
  ·intro hc W E bv b1 b2 st a5 b7 b8 b9;have J:=F.Anc O a2 st a5;have a9:At0 W E b2 (.cells (Aaa (Ua ls)[q] bv).toArray 104):=b8;have a6:Bytes W E bv (Ua ls)[q].b:=b9;rw [a4] at a9 a6;show Calls prog 43 #[_, .int .i64 ((Ua ls)[q].dst:Int),_] W _;rw [a4];have a7:=J.2.2.2.2 dst x z Y hz;rw [show (⟨n,Ua ls,cut⟩:GN).without q=_ from AiT _ _ _ _] at J
   rcases b4 with ⟨K,u,k1,k2⟩ | ⟨K,d,hd⟩
   ·have hK:K+606<65536:=by
     by_cases hl:z.s.d.left<0
     ·have:=k1 hl;omega
     ·have:=k2 om;omega
    obtain ⟨ba,bc,rfl⟩:=Aq a6;have d3:=Aje U.n1;have c0:=e4.low U (r.short hA);have hT:=Gh.Ayv (P:=fun b=>b ∈ A) r.ok u om ⟨e1,by rw [a3];exact e3⟩ e4 U c0;have c3:=hT.more (K':=K+6) om;obtain ⟨t1,t2⟩:=hT.AyD;rw [a3] at t2;obtain ⟨G',c4,c6⟩:=r.turn hA hz k1 k2 c3 (Nat.le_trans (Am.AwV z src m) om) (ls0:=ls.take q++ls.drop (q+1)) (Asq r.ml) (fun _ h=>Aue h);have dr:aj ai W E W.drew E:=(aj.refl ai W E).drew;have c7:=bC (m:=m) (a7.2.step0 dr) ⟨u.sp,u.ok⟩ om src (by have:=u.nn;omega) (by rw [a3];exact e3) (a6.step dr id) (by show m.put.length<=1000000;omega) (ET U) om;refine (Acd J.1 dst Y 56 #[.pointer (some ⟨b1,0,none⟩), .pointer (some ⟨b2,0,none⟩)] _ Tryz.call56 (AmF J O a2 dst Y hz u.sp.dead (by show (Ua _).length<=4096;rw [AaL];exact Asq r.ml) e2 c7 (Ana (by decide) t2 t1) b7 a9) (fun e w' hq=>by obtain ⟨v, -,hv,-⟩:=hq;exact ⟨v,hv⟩)).mono ?_;rintro e w' ⟨v,o',rfl,hs,rfl,b3⟩;rw [Air e2 (by decide) t2 t1] at b3;exact ⟨_,o',rfl,hs.mono (Ait hM F.2.2.1 Y),⟨_,rfl⟩,⟨_,rfl⟩,G',_,_,_,fun l hl=>hl.ext r.ok c4,⟨xs,b3⟩,O,hA,c6⟩
   ·refine (Acd J.1 dst Y 56 #[.pointer (some ⟨b1,0,none⟩), .pointer (some ⟨b2,0,none⟩)] _ Tryz.call56 (AmD a7.1 a7.2 d.sd.1 _ _) (fun e w' hq=>⟨_,hq.1⟩)).mono ?_;rintro e w' ⟨rfl,rfl⟩;exact ⟨_,E,rfl,aj.refl _ _ _,⟨_,rfl⟩,⟨_,rfl⟩,h.net J (Asq r.ml) fun _ h=>Aue h⟩
 ·obtain ⟨⟨xs,F⟩,-⟩:=id h;refine (ArB F k (by unfold GN.may;rw [if_pos (by show k<0 \/ ((Ua ls).length:Int)<=k;rw [AaL];omega)];decide)).mono ?_;rintro e w' ⟨v,o',rfl,hs,rfl⟩;exact ⟨_,o',rfl,hs.mono (fun _ h=>h.elim),⟨_,rfl⟩,h.idle hs⟩
def ArY (zs:List Am) (ls:List (Nat × Nat × BG)) (cut:List (Nat × Nat × Bool)):PG:=⟨zs.map Am.BN,[],ls,cut⟩
theorem Awd (hl:zs.length=n):(ArY zs ls cut).net=⟨n,Ua ls,cut⟩:=by
 unfold ArY PG.net;simp [hl]
theorem Ayt (u:M0<R) (h:SAt w o R pg pn G n a A zs ls cut) (k:Int) :
  Calls prog 35 #[.pointer (some ⟨pg,0,none⟩), .int .i64 k] w (XL (EN M0) w o fun v w' o'=>(∃ er:Int,v = .int .i64 er)/\ArH R pg pn G n (a+1) A w' o'):=by
 obtain ⟨xs,E,F, -,-⟩:=h.node 0;obtain ⟨-,J,U,q⟩:=id h;refine (Akw E J F (by show (Ua ls).length<=4096;rw [AaL];exact q.ml) k).mono ?_;rintro e w' ⟨v,o',rfl,O,rfl,r⟩;rw [<-Awd (cut:=cut) (ls:=ls) q.len,PG.AkU] at r;obtain ⟨e1, -,-⟩:=(ArY zs ls cut).Aeq k;have e:((ArY zs ls cut).drop k).net=⟨n,Ua ((ArY zs ls cut).drop k).ls,((ArY zs ls cut).drop k).cut⟩:=by
  unfold PG.net;rw [e1];simp [ArY,q.len]
 rw [e] at r;exact ⟨_,o',rfl,O.mono (Asa u),⟨_,rfl⟩,h.net r ((ArY zs ls cut).AkW k q.ml) ((ArY zs ls cut).Ahp k)⟩
theorem Ayp (u:M0<R) (h:SAt w o R pg pn G n a A zs ls cut) (k:Int) :
  Calls prog 37 #[.pointer (some ⟨pg,0,none⟩), .int .i64 k] w (XL (EN M0) w o fun v w' o'=>(∃ er:Int,v = .int .i64 er)/\ArH R pg pn G n (a+1) A w' o'):=by
 obtain ⟨xs,E,F, -,-⟩:=h.node 0;obtain ⟨-,J,U,q⟩:=id h;refine (Aku E J F (by show (Ua ls).length<=4096;rw [AaL];exact q.ml) k).mono ?_;rintro e w' ⟨v,o',rfl,O,rfl,r⟩;rw [<-Awd (cut:=cut) (ls:=ls) q.len,PG.AkH] at r;obtain ⟨e1, -,-⟩:=(ArY zs ls cut).Aeo k;have e:((ArY zs ls cut).hold k).net=⟨n,Ua ((ArY zs ls cut).hold k).ls,((ArY zs ls cut).hold k).cut⟩:=by
  unfold PG.net;rw [e1];simp [ArY,q.len]
 rw [e] at r;exact ⟨_,o',rfl,O.mono (Asa u),⟨_,rfl⟩,h.net r ((ArY zs ls cut).AkI k q.ml) ((ArY zs ls cut).Agr k)⟩
theorem AxG (E:M0<R) (h:SAt w o R pg pn G n a A zs ls cut) (k:Int) :
  Calls prog 36 #[.pointer (some ⟨pg,0,none⟩), .int .i64 k] w (XL (EN M0) w o fun v w' o'=>(∃ er:Int,v = .int .i64 er)/\ArH R pg pn G n (a+1) A w' o'):=by
 obtain ⟨xs,F,J, -,-⟩:=h.node 0;obtain ⟨-,O,U,q⟩:=id h;refine (AgW F O J (by show (Ua ls).length<=4096;rw [AaL];exact q.ml) (fun x W=>by obtain ⟨y,Y,rfl⟩:=List.mem_map.1 W;obtain ⟨-, -, -,e4,u⟩:=q.ms y Y;have:=Aje u.n1;have:=e4.low u (q.short U);show y.2.2.put.length<=4000000;omega) k).mono ?_;rintro e w' ⟨v,o',rfl,hs,rfl,r⟩;rw [<-Awd (cut:=cut) (ls:=ls) q.len,PG.Ahy] at r;obtain ⟨e1, -,-⟩:=(ArY zs ls cut).AcD k;have e:((ArY zs ls cut).double k).net=⟨n,Ua ((ArY zs ls cut).double k).ls,((ArY zs ls cut).double k).cut⟩:=by
  unfold PG.net;rw [e1];simp [ArY,q.len]
 rw [e] at r;exact ⟨_,o',rfl,hs.mono (Asa E),⟨_,rfl⟩,h.net r ((ArY zs ls cut).AhA k q.ml) ((ArY zs ls cut).Adr k)⟩
theorem AyC (r:M0<R) (h:SAt w o R pg pn G n a A zs ls cut) (i j:Int) :
  Calls prog 23 #[.pointer (some ⟨pg,0,none⟩), .int .i64 i, .int .i64 j] w (XL (EN M0) w o fun v w' o'=>(∃ er:Int,v = .int .i64 er)/\ArH R pg pn G n (a+1) A w' o'):=by
 obtain ⟨xs,u,E, -,-⟩:=h.node 0;obtain ⟨-,F,U,J⟩:=id h;refine (AkP u F E i j).mono ?_;rintro e w' ⟨v,o',rfl,O,rfl,q⟩;have e:∃ c,((⟨n,Ua ls,cut⟩:GN).turn i j true).1=⟨n,Ua ls,c⟩:=by
  unfold GN.turn;split
  ·exact ⟨_,rfl⟩
  ·exact ⟨_,rfl⟩
 obtain ⟨c,e⟩:=e;rw [e] at q;exact ⟨_,o',rfl,O.mono (Asa r),⟨_,rfl⟩,h.net q J.ml fun _ h=>h⟩
theorem Ayr (r:M0<R) (h:SAt w o R pg pn G n a A zs ls cut) (i j:Int) :
  Calls prog 38 #[.pointer (some ⟨pg,0,none⟩), .int .i64 i, .int .i64 j] w (XL (EN M0) w o fun v w' o'=>(∃ er:Int,v = .int .i64 er)/\ArH R pg pn G n (a+1) A w' o'):=by
 obtain ⟨xs,u,E, -,-⟩:=h.node 0;obtain ⟨-,F,U,J⟩:=id h;refine (AxA u F E i j).mono ?_;rintro e w' ⟨v,o',rfl,O,rfl,q⟩;have e:∃ c,((⟨n,Ua ls,cut⟩:GN).turn i j false).1=⟨n,Ua ls,c⟩:=by
  unfold GN.turn;split
  ·exact ⟨_,rfl⟩
  ·exact ⟨_,rfl⟩
 obtain ⟨c,e⟩:=e;rw [e] at q;exact ⟨_,o',rfl,O.mono (Asa r),⟨_,rfl⟩,h.net q J.ml fun _ h=>h⟩
end
section
variable {w w':World}{o o':Own}{R pg pn C K B M0:Nat}{p:PG}
theorem PG.fF (n i:Nat) (h:i<n):(PG.new n).ys[i]?=some (Aj.new i n ⟨0,0,[]⟩)/\(PG.new n).off[i]?=some false:=by
 unfold PG.new;refine ⟨?_, ?_⟩
 ·show ((List.range n).map _)[i]?=_;rw [List.getElem?_map,List.getElem?_range h];rfl
 ·show (List.replicate n false)[i]?=_;rw [List.getElem?_replicate,if_pos h]
theorem ApO (J:M0<R) (n pages:Nat) (E:1<=n) (r:n<=3) (hp:8<=pages) (Y:pages<=399) (O:C+4200<=480*(pages / 2 - 1)) (w:World) (o:Own) :
  Calls prog 9 #[.int .i64 (n:Int), .int .i64 (pages:Int)] w (XL (EN M0) w o fun v w' o'=>∃ pg pn,v = .tuple #[.pointer (some ⟨pg,0,none⟩), .int .i64 0]/\PAt w' o' R pg pn C 0 0 (PG.new n)):=by
 refine (Aky J n pages E r hp om w o).mono ?_;rintro e w' ⟨v,o',rfl,U,pg,pn,xs,rfl,W,hx⟩;have hl:(PG.new n).ys.length=n:=by simp [PG.new]
 refine ⟨_,o',rfl,U,pg,pn,rfl,xs,_,by rw [hl];exact W,by rw [hl,AeN],by rw [hl];simp [PG.new],by rw [hl];exact r,om,⟨by simp [PG.new],by simp [PG.new]⟩,fun i z y b q F hb=>?_⟩;have u:i<n:=by
  have:=(List.getElem?_eq_some_iff.1 q).1;rw [AeN] at this;exact this
 obtain ⟨e1,e2⟩:=PG.fF n i u;rw [e1] at F;rw [e2] at hb
 cases F;cases hb
 unfold Ahz at q;rw [List.getElem?_map,List.getElem?_range u] at q
 cases q
 exact ⟨rfl,hl.symm, .mk rfl (Aj.TB E r u (.nil _) (Nat.le_refl _) (by decide)) ⟨.new hp om,by show (-1:Int)<0;omega,O,by show pages / 2<=199;omega⟩⟩
theorem Agv (h:PAt w o R pg pn C K B p) (hy:p.ys[i]?=some y) (hb:y.OD=b) :
  Calls prog 11 #[.pointer (some ⟨pg,0,none⟩), .int .i64 (i:Int)] w fun e w'=>e = .returned (.bool b)/\w=w':=by
 obtain ⟨J,f,q,r⟩:=h.look (List.getElem?_eq_some_iff.1 hy).1;rw [hy] at q;cases q;obtain ⟨xs,zs,x,z,u,O,U,E,F,⟨rfl,-⟩,W,hn,Y⟩:=h.node hy r;exact AmN u i E F hb
theorem Aoh (h:PAt w o R pg pn C K B p) (hi:i<p.ys.length) (hb:p.off[i]?=some b) :
  Calls prog 28 #[.pointer (some ⟨pg,0,none⟩), .int .i64 (i:Int)] w fun e w'=>e = .returned (.bool b)/\w=w':=by
 obtain ⟨y,f,r,q⟩:=h.look hi;rw [hb] at q;cases q;obtain ⟨xs,zs,x,z,u,O,U,E,F,J,W,hn,Y⟩:=h.node r hb;exact Apg u i E F J.dead
theorem PAt.step3 (h:PAt w o R pg pn C K B p) (s:aj (ak (R+3)) w o w' o'):PAt w' o' R pg pn C K B p:=by
 obtain ⟨xs,zs,q,u,E,h4,r,F,J⟩:=h;exact ⟨xs,zs,q.step3 s r (by have:=q.2.2.2.1;omega),u,E,h4,r,F,J⟩
theorem Aiq (U:M0<R) (h:PAt w o R pg pn C K B p) (W:B<=90000) (hy:p.ys[i]?=some y) :
  Calls prog 18 #[.pointer (some ⟨pg,0,none⟩), .int .i64 (i:Int)] w (XL (EN M0) w o fun v w' o'=>(∃ lv base,v=Dy y.k.promised y.k.current lv/\Lines w' o' base lv y.k.lines)/\PAt w' o' R pg pn C K B p):=by
 obtain ⟨Y,f,q,u⟩:=h.look (List.getElem?_eq_some_iff.1 hy).1;rw [hy] at q;cases q;obtain ⟨xs,zs,x,z,E,a2,a3,F,J,⟨rfl,O,-⟩,a4,hn,a5⟩:=h.node hy u;refine (AoT E i F J (En.small O.ls om)).mono ?_;rintro e w' ⟨v,o',rfl,r,hq⟩;exact ⟨_,o',rfl,r.mono fun k (hk:k=R+3)=>by show M0<k;omega,hq,h.step3 r⟩
end
def wkT:Nat->PG
 | 0=>PG.new 3
 | k+1=>((wkT k).tick 0).1
def wkK:Nat->PG
 | 0=>wkT 4
 | k+1=>((wkK k).take 0).1
theorem Ase:∀ k,k<4->((wkT k).tick 0).2=0:=by decide +kernel
theorem Asi:∀ k,k<=4->(wkT k).fits 20=true/\(wkT k).ys.length=3/\∀ y ∈ (wkT k).ys,y.waited<=1000000:=by decide +kernel
theorem AmZ:∀ k,k<=8->(wkK k).fits 20=true/\(wkK k).ys.length=3:=by decide +kernel
def wkP:PG:=((wkK 8).BL 0 [97]).1
theorem Asf:((wkK 8).BL 0 [97]).2=0:=by decide +kernel
theorem Asg:((wkK 8).ys[0]?).map Aj.OD=some true:=by decide +kernel
theorem AmY:(wkP.ys[0]?).map (fun y=>y.k.lines.length)=some 1/\wkP.ys.length=3:=by decide +kernel
theorem Asj:(wkP.kill 0).off[0]?=some true:=by decide +kernel
theorem AjL:(((wkP.kill 0).start 0).ys[0]?).map Aj.OD=some false/\(((wkP.kill 0).start 0).ys[0]?).map (fun y=>y.k.lines.length)=some 1:=by decide +kernel
theorem Agp {α q:Type}{f:α->q}{x:Option α}{b:q}(h:x.map f=some b):∃ a,x=some a/\f a=b:=by
 cases x with
 | none=>simp at h
 | some a=>exact ⟨a,rfl,by simpa using h⟩
attribute [local go_sem ↓] Go.wp_at_zero Go.wp_at_succ
theorem Lines.Awo (h:Lines w o base v ls) (hn:ls.length=n):∃ a c,v = .slice a n c:=by
 subst hn;exact h.form
theorem AeB (w:World) (o:Own):Calls prog 20 #[] w (XL ai w o fun v _ _=>v = .bool true):=by
 obtain ⟨M, -,hM⟩:=EZ o 0 w.heap.size;have hMR:M<M+1:=Nat.lt_succ_self _;have Y:=ae hM;have hc:=ae (ApO (C:=19000) hMR 3 100 om om om om om w o);have e0:((0:Nat):Int)=0:=rfl;have u:=ae e0;clear hM e0;go_enter func20,ntmps20;go_wp2_with fail;refine hc.out.mono ?_;rintro e W1 ⟨v,o1,rfl,q,pg,pn,rfl,hp⟩;have hF:=ae (aI q (hp.mono (K':=6*0) (B':=20) (Nat.zero_le _) (Nat.zero_le _)));clear hc q hp;go_wp2_with fail
 go_loopw [3] (fun i wr=>∃ (k:Nat) (E:Own),k<=4/\i = .int .i64 k/\Hid (aj (EN M) w o wr E/\PAt wr E (M+1) pg pn 19000 (6*k) 20 (wkT k))) (fun i _=>4 - (intOf i).toNat)
 case atStart=>exact ⟨0,o1,Nat.zero_le _,rfl,hF⟩
 case round =>
  clear hF;obtain ⟨k,E,hk,rfl,F⟩:=hrel
  by_cases hlt:k<4
  ·obtain ⟨hst,hp⟩:=F.out;obtain ⟨f1,f2,f3⟩:=Asi k om;have hc:=AnJ hMR hp om om om 0 (by rw [f2];omega) f3;rw [u.out,Ase k hlt] at hc;have WV:=ae hc;have Abe:=ae hst;have a2:(0:Int)<=(k:Int)/\(k:Int)<4:=om
   clear hst hp f1 f2 f3 hc F;go_wp2_with fail;refine WV.out.mono ?_;rintro e V ⟨v,o2,rfl,q,rfl,hp⟩;have hF:=ae (aI (Abe.out.trans q) (hp.mono (K':=6*(k+1)) (B':=20) om (Nat.le_refl _)));have hF':Hid (aj (EN M) w o V o2/\PAt V o2 (M+1) pg pn 19000 (6*(k+1)) 20 (wkT (k+1))):=hF;clear q hp hF WV Abe;go_wp2_with fail;go_roundw
   case rel=>exact ⟨k+1,o2,om,by go_num,hF'⟩
   case measure=>simp [intOf];omega
  ·obtain rfl:k=4:=om
   have hr':Hid (aj (EN M) w o wr E/\PAt wr E (M+1) pg pn 19000 (24+3*0) 20 (wkK 0)):=F;clear F hlt hk;rw [show ((4:Nat):Int)=4 from rfl];go_wp2_with fail
   go_loopw [4] (fun i wr=>∃ (k:Nat) (E:Own),k<=8/\i = .int .i64 k/\Hid (aj (EN M) w o wr E/\PAt wr E (M+1) pg pn 19000 (24+3*k) 20 (wkK k))) (fun i _=>8 - (intOf i).toNat)
   case atStart=>exact ⟨0,E,Nat.zero_le _,rfl,hr'⟩
   case round =>
    clear hr';obtain ⟨k,ok,hk,rfl,F⟩:=hrel
    by_cases hlt:k<8
    ·obtain ⟨hst,hp⟩:=F.out;have hc:=AnO hMR hp om om om 0;rw [u.out] at hc;have WV:=ae hc;have Abe:=ae hst;have a2:(0:Int)<=(k:Int)/\(k:Int)<8:=om
     clear hst hp hc F;go_wp2_with fail;refine WV.out.mono ?_;rintro e V ⟨v,o2,rfl,q,rfl,hp⟩;have hF:Hid (aj (EN M) w o V o2/\PAt V o2 (M+1) pg pn 19000 (24+3*(k+1)) 20 (wkK (k+1))):=ae (aI (Abe.out.trans q) ((hp.mono (K':=24+3*(k+1)) om (Nat.le_refl _)).lower (AmZ (k+1) om).1));clear q hp WV Abe;go_wp2_with fail;go_roundw
     case rel=>exact ⟨k+1,o2,om,by go_num,hF⟩
     case measure=>simp [intOf];omega
    ·obtain rfl:k=8:=om
     obtain ⟨hst,hp⟩:=F.out;obtain ⟨y,hy,hl⟩:=Agp Asg;have hc:=Agv hp hy hl;rw [u.out] at hc;have WV:=ae hc;have hG:=ae (aI hst hp);clear hst hp hc F hlt hk hy hl;rw [show ((8:Nat):Int)=8 from rfl];go_wp2_with fail;refine WV.out.mono ?_;rintro e W2 ⟨rfl,rfl⟩;obtain ⟨W2,a3⟩:=az (wr);subst a3;obtain ⟨hst,hp⟩:=hG.out;have a4:(convert 29 29 (.slice (some ⟨wr.heap.size,0,none⟩) 1 1)).run prog (wr.alloc (.cells #[.int .u8 97] 5)) = .ok (.slice (some ⟨wr.heap.size,0,none⟩) 1 1) (wr.alloc (.cells #[.int .u8 97] 5 (1,2))):=GU wr [.int .u8 97] 1 1;have hb:Bytes (wr.alloc (.cells (bvs [97]).toArray 5 (1,2))) (Ak ok wr.heap.size (0,0)) (.slice (some ⟨wr.heap.size,0,none⟩) 1 1) [97] := .inr ⟨wr.heap.size,0,1,rfl,by decide,by decide,by rw [Au],by simp,AV (heap_alloc_new wr _)⟩;have s:=(aj.refl ai wr ok).alloc (.cells (bvs [97]).toArray 5 (1,2)) (0,0);have O:(wr.alloc (.cells #[.int .u8 97] 5 (1,2)))=wr.alloc (.cells (bvs [97]).toArray 5 (1,2)):=rfl;obtain ⟨V,hV⟩:=az (wr.alloc (.cells (bvs [97]).toArray 5 (1,2)));obtain ⟨oV,U⟩:=az (Ak ok wr.heap.size (0,0));rw [hV] at hb s O;rw [U] at hb s;rw [O] at a4;have hc:=Ajl hMR (hp.step0 s) om hb (by simp) (by simp) 0 (by rw [(AmZ 8 om).2];omega);rw [u.out,Asf] at hc;have hc2:=ae hc;have r:=ae (hst.trans (s.mono (T':=EN M) fun _ h=>h.elim));clear hst hp hb s O hV U hc WV hG;go_wp2_with fail;refine hc2.out.mono ?_;rintro e W3 ⟨v,o3,rfl,q,rfl,hp⟩;have hp3:PAt W3 o3 (M+1) pg pn 19000 60 30 wkP:=hp.mono om (by simp);obtain ⟨⟨y3,hy3,a5⟩,W⟩:=aI (Agp AmY.1) AmY.2;have hc:=Aiq hMR hp3 om hy3;rw [u.out] at hc;have WV:=ae hc;have Abe:=ae (r.out.trans q);have hf2:=He;clear hp hp3 q hc hc2 r;go_wp2_with fail;refine WV.out.mono ?_;rintro e W4 ⟨v,o4,rfl,q,⟨lv,base,rfl,J⟩,hp⟩;obtain ⟨la,lc,rfl⟩:=J.Awo a5;have hc:=Aof hMR hp 0 (by rw [W];omega);rw [u.out] at hc;have hc2:=ae hc;have r:=ae (Abe.out.trans q);clear hp q hc WV Abe J;unfold Dy;go_wp2_with fail;refine hc2.out.mono ?_;rintro e W5 ⟨v,o5,rfl,q,rfl,hp⟩;have hlen5:(wkP.kill 0).ys.length=3:=W;have hc:=Aoh hp (i:=0) (by rw [hlen5];omega) Asj;rw [u.out] at hc;have WV:=ae hc;have hG:=ae (aI (r.out.trans q) hp);clear hp q hc hc2 r;go_wp2_with fail;refine WV.out.mono ?_;rintro e W6 ⟨rfl,rfl⟩;obtain ⟨hst,hp⟩:=hG.out;have hc:=AkZ hMR hp om 0 (by rw [hlen5];omega) 0;rw [u.out] at hc;have hc2:=ae hc;have r:=ae hst;clear hp hst hc hG WV;go_wp2_with fail;refine hc2.out.mono ?_;rintro e W7 ⟨v,o7,rfl,q,rfl,hp⟩;obtain ⟨y7,a6,wY⟩:=Agp AjL.1;obtain ⟨y8,hy8,hl8⟩:=Agp AjL.2;have hc:=Agv hp a6 wY;rw [u.out] at hc;have WV:=ae hc;have hG:=ae (aI (r.out.trans q) hp);clear hp q hc hc2 r;go_wp2_with fail;refine WV.out.mono ?_;rintro e W8 ⟨rfl,rfl⟩;obtain ⟨hst,hp⟩:=hG.out;have hc:=Aiq hMR hp om hy8;rw [u.out] at hc;have hc2:=ae hc;have r:=ae hst;clear hp hst hc hG WV;go_wp2_with fail;refine hc2.out.mono ?_;rintro e W9 ⟨v,o9,rfl,q,⟨lv,base,rfl,J⟩,hp⟩;obtain ⟨la,lc,rfl⟩:=J.Awo hl8;have wL:=ae (r.out.trans q);clear hp q hc2 r J;unfold Dy;go_wp2_with fail;go_ret;exact ⟨_,_,rfl,wL.out.Hm Y.out,rfl⟩
section
variable {H:Type}{enc:TypeId × Value->H}{W:World}
theorem bytes_of_nums:∀ (l:List Int),(∀ a ∈ l,(Lit.int .u8 a).wf=true)->l.map (Value.int .u8)=bvs (l.map fun a=>UInt8.ofNat a.toNat)
 | [],_=>rfl
 | a :: r,h=>by
  have E:=Go.bounds_u8 (h a (by simp));have q:=bytes_of_nums r (fun x u=>h x (List.mem_cons_of_mem _ u));rw [List.map_cons,q];have:Value.int .u8 a=bv (UInt8.ofNat a.toNat):=by
   unfold bv;rw [UInt8.toNat_ofNat'];congr 1;omega
  rw [this];rfl
theorem JR {fuel:Nat}{x:DataW H × List MemPlace}(h:DataW.trod enc prog W 0 (fun _=>true) true fuel 29 [v]=some x):∃ l:List UInt8,Bytes W (fun _=>(0,0)) v l:=by
 obtain ⟨l,q,r⟩:=YA underlying29 underlying5 (by kernel_rfl) h;refine ⟨l.map fun a=>UInt8.ofNat a.toNat, ?_⟩;unfold Bytes;rw [List.length_map, <-bytes_of_nums l r];exact q
end
structure AbF where
 k:Nat
 i:Int
 j:Int
 n:Int
 b:List UInt8
 f:List Int
structure AbF.Wf (x:AbF):Prop where
 k:x.k<256
 i : -9223372036854775808<=x.i/\x.i<=9223372036854775807
 j : -9223372036854775808<=x.j/\x.j<=9223372036854775807
 n : -9223372036854775808<=x.n/\x.n<=9223372036854775807
 f:∀ a ∈ x.f, -9223372036854775808<=a/\a<=9223372036854775807
def AbM (x:AbF) (bv fv:Value):List Value:=[.int .u8 (x.k:Int), .int .i64 x.i, .int .i64 x.j, .int .i64 x.n,bv,fv]
def VW (w:World) (o:Own) (v:Value) (l:List AbF):Prop:=
 ((∃ a c,v = .slice a 0 c)/\l=[]) \/ ∃ b off cap,v = .slice (some ⟨b,off,none⟩) l.length cap/\l.length<=cap/\cap<=maxLen/\(o b).1=0/\b<w.heap.size /\
  ∀ i (h:i<l.length),l[i].Wf/\∃ bv fv,w.rangeAt b (off+i*6) (AbM l[i] bv fv)/\Bytes w o bv l[i].b/\Ints w o fv l[i].f
theorem VW.step {T:Nat->Prop}{o':Own}{l:List AbF}(h:VW w o v l) (s:aj T w o w' o') (q:¬ T 0):VW w' o' v l:=by
 rcases h with h | ⟨b,off,cap,hv,hl,u,r,hb,E⟩
 ·exact .inl h
 ·refine .inr ⟨b,off,cap,hv,hl,u,by rw [s.own b hb];exact r,Nat.lt_of_lt_of_le hb s.size,fun i F=>?_⟩;obtain ⟨J,bv,fv,O,U,h4⟩:=E i F;exact ⟨J,bv,fv,Cf O (s.block b hb (by rw [r];exact q)),U.step s q,h4.step s q⟩
theorem VW.form {l:List AbF}(h:VW w o v l):∃ a c,v = .slice a l.length c:=by
 rcases h with ⟨⟨a,c,rfl⟩,rfl⟩ | ⟨b,off,cap,rfl,_⟩ <;> exact ⟨_,_,rfl⟩
theorem VW.at {a:Option Addr}{c:Nat}{l:List AbF}(h:VW w o (.slice a n c) l){x:AbF}(r:l[i]?=some x) :
  ∃ b off bv fv,a=some ⟨b,off,none⟩/\w.rangeAt b (off+i*6) (AbM x bv fv)/\Bytes w o bv x.b/\Ints w o fv x.f/\x.Wf/\b<w.heap.size/\(o b).1=0:=by
 obtain ⟨q,rfl⟩:=List.getElem?_eq_some_iff.1 r
 rcases h with ⟨_,rfl⟩ | ⟨b,off,cap,hv,hl,U,u,hb,E⟩
 ·simp at q
 ·simp only [Value.slice.injEq] at hv;obtain ⟨rfl,rfl,rfl⟩:=hv;obtain ⟨F,bv,fv,J,O,h4⟩:=E i q;exact ⟨b,off,bv,fv,rfl,J,O,h4,F,hb,u⟩
section
variable {H:Type}{enc:TypeId × Value->H}{W:World}
theorem AeY {fuel:Nat}{x:DataW H × List MemPlace}(h:DataW.trod enc prog W 0 (fun _=>true) true fuel 43 [v]=some x):∃ l:List AbF,VW W (fun _=>(0,0)) v l:=by
 have a4:prog.cellsOf 55=6:=by kernel_rfl
 have c5:prog.cellsOf 5=1:=by kernel_rfl
 have c3:prog.cellsOf 3=1:=by kernel_rfl
 have a5:prog.cellsOf 53=1:=by kernel_rfl
 have a6:prog.cellsOf 29=1:=by kernel_rfl
 rcases Lu underlying43 om h with ⟨a,c,rfl⟩ | ⟨b,off,len,cap,rfl,h0,b9,a7,hb,a8⟩
 ·exact ⟨[], .inl ⟨⟨a,c,rfl⟩,rfl⟩⟩
 ·obtain ⟨l,hl,hr⟩:=Ir (fun i (m:AbF)=>m.Wf/\∃ bv fv,W.rangeAt b (off+i*6) (AbM m bv fv)/\Bytes W (fun _=>(0,0)) bv m.b/\Ints W (fun _=>(0,0)) fv m.f) len (fun i hi=>by
   obtain ⟨a9,k1,k2,n,y,k3⟩:=a8 i om;rw [a4] at k1 k2;obtain ⟨xs,q,_,_,_,b4,r⟩:=DataW.trod_struct underlying55 k3
   match a9,k1 with
   | [v0,v1,v2,v3,v4,v5],_ =>
    have u:DataW.trod enc prog W 0 (fun _=>true) true q 5 (([v0,v1,v2,v3,v4,v5].drop 0).take (prog.cellsOf 5))=xs[0]?:=r 0 _ rfl;have E:DataW.trod enc prog W 0 (fun _=>true) true q 3 (([v0,v1,v2,v3,v4,v5].drop 1).take (prog.cellsOf 3))=xs[1]?:=r 1 _ rfl;have F:DataW.trod enc prog W 0 (fun _=>true) true q 3 (([v0,v1,v2,v3,v4,v5].drop 2).take (prog.cellsOf 3))=xs[2]?:=r 2 _ rfl;have J:DataW.trod enc prog W 0 (fun _=>true) true q 3 (([v0,v1,v2,v3,v4,v5].drop 3).take (prog.cellsOf 3))=xs[3]?:=r 3 _ rfl;have O:DataW.trod enc prog W 0 (fun _=>true) true q 29 (([v0,v1,v2,v3,v4,v5].drop 4).take (prog.cellsOf 29))=xs[4]?:=r 4 _ rfl;have U:DataW.trod enc prog W 0 (fun _=>true) true q 53 (([v0,v1,v2,v3,v4,v5].drop 5).take (prog.cellsOf 53))=xs[5]?:=r 5 _ rfl;have c0:xs.length=6:=b4;simp only [c5,c3,a5,a6,List.drop_zero,List.take_succ_cons,List.take_zero,List.drop_succ_cons] at u E F J O U;rw [List.getElem?_eq_getElem om] at u E F J O U;obtain ⟨a0,Y,_,w0⟩:=DataW.trod_int underlying5 u;obtain ⟨a1,e1,_,w1⟩:=DataW.trod_int underlying3 E;obtain ⟨a2,e2,_,w2⟩:=DataW.trod_int underlying3 F;obtain ⟨a3,e3,_,w3⟩:=DataW.trod_int underlying3 J;obtain ⟨bs,b5⟩:=JR O;obtain ⟨fs,b6,b7⟩:=AjA U;simp only [List.cons.injEq,and_true] at Y e1 e2 e3;have b0:=Go.bounds_u8 w0;have b1:=Go.bounds_i64 w1;have b2:=Go.bounds_i64 w2;have b3:=Go.bounds_i64 w3;have b8:((a0.toNat:Nat):Int)=a0:=om
    subst Y e1 e2 e3;exact ⟨⟨a0.toNat,a1,a2,a3,bs,fs⟩,⟨by show a0.toNat<256;omega,b1,b2,b3,b7⟩,v4,v5,by unfold AbM;simp only [b8];exact k2,b5,b6⟩)
  exact ⟨l, .inr ⟨b,off,cap,by rw [hl],om,a7,rfl,hb,hr⟩⟩
end
def Alf (l:List AbF) (v:Value):Prop:=∃ r,v = .bool r/\(r=false->l.length<=200/\∀ x ∈ l,x.b.length<=60/\x.f.length<=60)
theorem AdU {a:Option Addr}{c:Nat}{cs:List Value}(h:sH w o (.slice a n c) k cs):n=k/\k<=maxLen:=by
 rcases h with ⟨⟨q,r,hv⟩,h0,-⟩ | ⟨b,off,cap,hv,hl,u,-⟩
 ·simp only [Value.slice.injEq] at hv;exact ⟨om,om⟩
 ·simp only [Value.slice.injEq] at hv;exact ⟨om,om⟩
theorem Agx {l:List AbF}(h:VW w o v l) :
  Calls prog 21 #[v] w (XL ai w o fun v _ _=>Alf l v):=by
 obtain ⟨aa,ac,rfl⟩:=h.form;obtain ⟨N,r⟩:=az (l.length)
 by_cases W:200<N
 ·rw [r];have hbI:(200:Int)<(N:Int):=om
  clear h r;go_enter func21,ntmps21;go_wp2_with fail;go_ret;exact ⟨_,o,rfl,aj.refl _ _ _,true,rfl,fun h=>by cases h⟩
 rw [r] at h ⊢;have hbI:¬ (200:Int)<(N:Int):=om
 have a3:(0:Int)<=(N:Int)/\(N:Int)<=200:=om
 have hH:=ae h;have hNH:=ae r;clear h r W;go_enter func21,ntmps21;go_wp2_with fail
 go_loopw [3] (fun i wr=>∃ (k:Nat),k<=N/\i = .int .i64 k/\(∀ x ∈ l.take k,x.b.length<=60/\x.f.length<=60)/\wr=w) (fun i _=>N - (intOf i).toNat)
 case atStart=>exact ⟨0,Nat.zero_le _,rfl,by simp,rfl⟩
 case round =>
  obtain ⟨k,hk,rfl,O,hwr⟩:=hrel;subst hwr;have pR:=ae O;clear O
  by_cases hlt:k<N
  ·have AbY:(0:Int)<=(k:Int)/\(k:Int)<(N:Int):=om
   obtain ⟨x,u⟩:∃ x,l[k]?=some x:=⟨_,List.getElem?_eq_getElem (by rw [hNH.out];exact hlt)⟩;obtain ⟨b,off,bw,fw,rfl,E,hby,F, -, -,-⟩:=hH.out.at u;obtain ⟨ya,yc,rfl⟩:=Aq hby;obtain ⟨ia,ic,rfl⟩:=Aq F;have cB:wr.cell? ⟨b,off+k*6+4,none⟩=some (.slice ya x.b.length yc):=E 4 _ rfl;have cF:wr.cell? ⟨b,off+k*6+5,none⟩=some (.slice ia x.f.length ic):=E 5 _ rfl;have hxH:=ae u;obtain ⟨L,J⟩:=az (x.b.length);obtain ⟨Y,hY⟩:=az (x.f.length);have hLm:=(AdU hby).2;have hYm:=(AdU F).2;rw [J] at cB hLm;rw [hY] at cF hYm;simp only [maxLen] at hLm hYm;have a4:(0:Int)<=(L:Int)/\(L:Int)<=9223372036854775807/\(0:Int)<=(Y:Int)/\(Y:Int)<=9223372036854775807:=om
   have hLH:=ae (aI J hY);clear E hby F u J hY hLm hYm
   by_cases a5:60<L
   ·have U:decide ((60:Int)<(L:Int))=true:=decide_eq_true om;go_wp2_with fail;go_ret;exact ⟨_,o,rfl,aj.refl _ _ _,true,rfl,fun h=>by cases h⟩
   by_cases h50:60<Y
   ·have U:decide ((60:Int)<(L:Int))=false:=decide_eq_false om;have BaQ:decide ((60:Int)<(Y:Int))=true:=decide_eq_true om;go_wp2_with fail;go_ret;exact ⟨_,o,rfl,aj.refl _ _ _,true,rfl,fun h=>by cases h⟩
   have U:decide ((60:Int)<(L:Int))=false:=decide_eq_false om;have BaQ:decide ((60:Int)<(Y:Int))=false:=decide_eq_false om;go_wp2_with fail;go_roundw
   case rel=>exact ⟨k+1,om,by go_num,fun z q=>(by
    rw [List.take_add_one,hxH.out] at q
    rcases List.mem_append.1 q with q | q
    ·exact pR.out z q
    ·simp at q;subst q;rw [hLH.out.1,hLH.out.2];omega),(by first | trivial | rfl)⟩
   case measure=>simp [intOf];omega
  ·obtain rfl:k=N:=om
   have hgood:∀ x ∈ l,x.b.length<=60/\x.f.length<=60:=by
    have:=pR.out;rw [List.take_of_length_le (by rw [hNH.out];omega)] at this;exact this
   have a2:=ae hgood;clear hgood;go_wp2_with fail;go_ret;exact ⟨_,o,rfl,aj.refl _ _ _,_,rfl,fun _=>⟨by rw [hNH.out];omega,a2.out⟩⟩
def asked (x:AbF) (er:Int) (A:List (List UInt8)):List (List UInt8):=if x.k % 11=5/\(er=0 \/ er=9) then x.b :: A else A
section
variable {w w':World}{o o':Own}{R pg pn n a M0:Nat}{G:Gh}{A:List (List UInt8)}{zs:List Am}{ls:List (Nat × Nat × BG)}{cut:List (Nat × Nat × Bool)}
theorem ArD {x:AbF}(er:Int) (h:¬ x.k % 11=5):asked x er A=A:=if_neg fun q=>h q.1
theorem AwE {x:AbF}(er:Int) (h:x.k % 11=5):asked x er A=if er=0 \/ er=9 then x.b :: A else A:=by
 unfold asked
 by_cases q:er=0 \/ er=9
 ·rw [if_pos ⟨h,q⟩,if_pos q]
 ·rw [if_neg (fun r=>q r.2),if_neg q]
theorem AxO (U:M0<R) (h:SAt w o R pg pn G n a A zs ls cut) (ha:a<=250){x:AbF}(hx:x.Wf){fv:Value}(a5:Bytes w o bv x.b) (a8:x.b.length<=60) (a6:Ints w o fv x.f) :
  Calls prog 24 #[.pointer (some ⟨pg,0,none⟩), .agg (AbM x bv fv).toArray] w (XL (EN M0) w o fun v w' o'=>∃ er:Int,v = .int .i64 er/\ArH R pg pn G n (a+1) (asked x er A) w' o'):=by
 obtain ⟨ba,bc,rfl⟩:=Aq a5;obtain ⟨fa,fc,rfl⟩:=Aq a6;obtain ⟨b5,b6,b7,a9,b1⟩:=hx;obtain ⟨k,i,j,r,b,F⟩:=x;dsimp only at b5 b6 b7 a9 b1 a5 a8 a6;unfold AbM;dsimp only;obtain ⟨bl,b2⟩:=az (b.length);obtain ⟨fn,a7⟩:=az (F.length);obtain ⟨W,O,hW,⟨a4,-⟩,b3⟩:=AaC w o (.cells #[.int .u8 (k:Int), .int .i64 i, .int .i64 j, .int .i64 r, .slice ba b.length bc, .slice fa F.length fc] 55);have h1:=h.step0 a4;have b4:=a5.step a4 id;have b8:=a6.step a4 id;rw [b2] at hW b4 b3;have b9:Ints W O (.slice fa fn fc) F:=by rw [<-a7];exact b8
 rw [a7] at hW b3;have E:=ae (aI h1 (aI (a4.mono (T':=EN M0) fun _ h=>h.elim) (aI b4 (aI b9 (aI b1 (aI a8 a9.2))))));have Y:=ae hW;have c3:(0:Int)<=(k:Int)/\(k:Int)<256:=om
 rw [b2,a7];clear h h1 a4 a5 a6 b4 b8 b9 hW b3 b5 b6 b7 a9 b1 b2 a7 a8;have c0:k % 11=0 \/ k % 11=1 \/ k % 11=2 \/ k % 11=3 \/ k % 11=4 \/ k % 11=5 \/ k % 11=6 \/ k % 11=7 \/ k % 11=8 \/ k % 11=9 \/ k % 11=10:=om
 rcases c0 with e | e | e | e | e | e | e | e | e | e | e
 ·have a2:IntKind.u8.wrap ((k:Int) % 11)=0:=by
   have:(k:Int) % 11=0:=om
   rw [this];rfl
  have a3:(k:Int) % 11=0:=om
  have hc:Calls prog 14 #[.pointer (some ⟨pg,0,none⟩), .int .i64 i] W (XL (EN M0) W O fun v w' o'=>∃ er:Int,v = .int .i64 er/\ArH R pg pn G n (a+1) (asked ⟨k,i,j,r,b,F⟩ er A) w' o'):=by
   refine (Ayk U E.out.1 ha i).mono ?_;rintro e2 J ⟨v,o1,rfl,q,⟨er,rfl⟩,hp⟩;exact ⟨_,o1,rfl,q,er,rfl,by rw [ArD er (show ¬ (⟨k,i,j,r,b,F⟩:AbF).k % 11=5 by show ¬ k % 11=5;omega)];exact hp⟩
  replace hc:=ae hc
  clear e;go_enter func24,ntmps24;go_wp2_with fail;rw [Y.out];refine hc.out.mono ?_;rintro e J ⟨v,o1,rfl,q,er,rfl,hp⟩;have u:=ae (aI (E.out.2.1.trans q) hp);clear q hp hc;go_wp2_with fail;go_ret;exact ⟨_,o1,rfl,u.out.1,er,rfl,u.out.2⟩
 ·have a2:IntKind.u8.wrap ((k:Int) % 11)=1:=by
   have:(k:Int) % 11=1:=om
   rw [this];rfl
  have a3:(k:Int) % 11=1:=om
  have hc:Calls prog 16 #[.pointer (some ⟨pg,0,none⟩), .int .i64 r] W (XL (EN M0) W O fun v w' o'=>∃ er:Int,v = .int .i64 er/\ArH R pg pn G n (a+1) (asked ⟨k,i,j,r,b,F⟩ er A) w' o'):=by
   refine (Ayl U E.out.1 ha r).mono ?_;rintro e2 J ⟨v,o1,rfl,q,⟨er,rfl⟩,hp⟩;exact ⟨_,o1,rfl,q,er,rfl,by rw [ArD er (show ¬ (⟨k,i,j,r,b,F⟩:AbF).k % 11=5 by show ¬ k % 11=5;omega)];exact hp⟩
  replace hc:=ae hc
  clear e;go_enter func24,ntmps24;go_wp2_with fail;rw [Y.out];refine hc.out.mono ?_;rintro e J ⟨v,o1,rfl,q,er,rfl,hp⟩;have u:=ae (aI (E.out.2.1.trans q) hp);clear q hp hc;go_wp2_with fail;go_ret;exact ⟨_,o1,rfl,u.out.1,er,rfl,u.out.2⟩
 ·have a2:IntKind.u8.wrap ((k:Int) % 11)=2:=by
   have:(k:Int) % 11=2:=om
   rw [this];rfl
  have a3:(k:Int) % 11=2:=om
  have hc:Calls prog 35 #[.pointer (some ⟨pg,0,none⟩), .int .i64 r] W (XL (EN M0) W O fun v w' o'=>∃ er:Int,v = .int .i64 er/\ArH R pg pn G n (a+1) (asked ⟨k,i,j,r,b,F⟩ er A) w' o'):=by
   refine (Ayt U E.out.1 r).mono ?_;rintro e2 J ⟨v,o1,rfl,q,⟨er,rfl⟩,hp⟩;exact ⟨_,o1,rfl,q,er,rfl,by rw [ArD er (show ¬ (⟨k,i,j,r,b,F⟩:AbF).k % 11=5 by show ¬ k % 11=5;omega)];exact hp⟩
  replace hc:=ae hc
  clear e;go_enter func24,ntmps24;go_wp2_with fail;rw [Y.out];refine hc.out.mono ?_;rintro e J ⟨v,o1,rfl,q,er,rfl,hp⟩;have u:=ae (aI (E.out.2.1.trans q) hp);clear q hp hc;go_wp2_with fail;go_ret;exact ⟨_,o1,rfl,u.out.1,er,rfl,u.out.2⟩
 ·have a2:IntKind.u8.wrap ((k:Int) % 11)=3:=by
   have:(k:Int) % 11=3:=om
   rw [this];rfl
  have a3:(k:Int) % 11=3:=om
  have hc:Calls prog 36 #[.pointer (some ⟨pg,0,none⟩), .int .i64 r] W (XL (EN M0) W O fun v w' o'=>∃ er:Int,v = .int .i64 er/\ArH R pg pn G n (a+1) (asked ⟨k,i,j,r,b,F⟩ er A) w' o'):=by
   refine (AxG U E.out.1 r).mono ?_;rintro e2 J ⟨v,o1,rfl,q,⟨er,rfl⟩,hp⟩;exact ⟨_,o1,rfl,q,er,rfl,by rw [ArD er (show ¬ (⟨k,i,j,r,b,F⟩:AbF).k % 11=5 by show ¬ k % 11=5;omega)];exact hp⟩
  replace hc:=ae hc
  clear e;go_enter func24,ntmps24;go_wp2_with fail;rw [Y.out];refine hc.out.mono ?_;rintro e J ⟨v,o1,rfl,q,er,rfl,hp⟩;have u:=ae (aI (E.out.2.1.trans q) hp);clear q hp hc;go_wp2_with fail;go_ret;exact ⟨_,o1,rfl,u.out.1,er,rfl,u.out.2⟩
 ·have a2:IntKind.u8.wrap ((k:Int) % 11)=4:=by
   have:(k:Int) % 11=4:=om
   rw [this];rfl
  have a3:(k:Int) % 11=4:=om
  have hc:Calls prog 37 #[.pointer (some ⟨pg,0,none⟩), .int .i64 r] W (XL (EN M0) W O fun v w' o'=>∃ er:Int,v = .int .i64 er/\ArH R pg pn G n (a+1) (asked ⟨k,i,j,r,b,F⟩ er A) w' o'):=by
   refine (Ayp U E.out.1 r).mono ?_;rintro e2 J ⟨v,o1,rfl,q,⟨er,rfl⟩,hp⟩;exact ⟨_,o1,rfl,q,er,rfl,by rw [ArD er (show ¬ (⟨k,i,j,r,b,F⟩:AbF).k % 11=5 by show ¬ k % 11=5;omega)];exact hp⟩
  replace hc:=ae hc
  clear e;go_enter func24,ntmps24;go_wp2_with fail;rw [Y.out];refine hc.out.mono ?_;rintro e J ⟨v,o1,rfl,q,er,rfl,hp⟩;have u:=ae (aI (E.out.2.1.trans q) hp);clear q hp hc;go_wp2_with fail;go_ret;exact ⟨_,o1,rfl,u.out.1,er,rfl,u.out.2⟩
 ·have a2:IntKind.u8.wrap ((k:Int) % 11)=5:=by
   have:(k:Int) % 11=5:=om
   rw [this];rfl
  have a3:(k:Int) % 11=5:=om
  have hc:Calls prog 12 #[.pointer (some ⟨pg,0,none⟩), .int .i64 i, .slice ba bl bc] W (XL (EN M0) W O fun v w' o'=>∃ er:Int,v = .int .i64 er/\ArH R pg pn G n (a+1) (asked ⟨k,i,j,r,b,F⟩ er A) w' o'):=by
   refine (Axw U E.out.1 ha i E.out.2.2.1 E.out.2.2.2.2.2.1).mono ?_;rintro e2 J ⟨v,o1,rfl,q,er,rfl,hp⟩;exact ⟨_,o1,rfl,q,er,rfl,by rw [AwE er (show (⟨k,i,j,r,b,F⟩:AbF).k % 11=5 from e)];exact hp⟩
  replace hc:=ae hc
  clear e;go_enter func24,ntmps24;go_wp2_with fail;rw [Y.out];refine hc.out.mono ?_;rintro e J ⟨v,o1,rfl,q,er,rfl,hp⟩;have u:=ae (aI (E.out.2.1.trans q) hp);clear q hp hc;go_wp2_with fail;go_ret;exact ⟨_,o1,rfl,u.out.1,er,rfl,u.out.2⟩
 ·have a2:IntKind.u8.wrap ((k:Int) % 11)=6:=by
   have:(k:Int) % 11=6:=om
   rw [this];rfl
  have a3:(k:Int) % 11=6:=om
  have hc:Calls prog 13 #[.pointer (some ⟨pg,0,none⟩), .int .i64 i] W (XL (EN M0) W O fun v w' o'=>∃ er:Int,v = .int .i64 er/\ArH R pg pn G n (a+1) (asked ⟨k,i,j,r,b,F⟩ er A) w' o'):=by
   refine (Ayn U E.out.1 i).mono ?_;rintro e2 J ⟨v,o1,rfl,q,⟨er,rfl⟩,hp⟩;exact ⟨_,o1,rfl,q,er,rfl,by rw [ArD er (show ¬ (⟨k,i,j,r,b,F⟩:AbF).k % 11=5 by show ¬ k % 11=5;omega)];exact hp⟩
  replace hc:=ae hc
  clear e;go_enter func24,ntmps24;go_wp2_with fail;rw [Y.out];refine hc.out.mono ?_;rintro e J ⟨v,o1,rfl,q,er,rfl,hp⟩;have u:=ae (aI (E.out.2.1.trans q) hp);clear q hp hc;go_wp2_with fail;go_ret;exact ⟨_,o1,rfl,u.out.1,er,rfl,u.out.2⟩
 ·have a2:IntKind.u8.wrap ((k:Int) % 11)=7:=by
   have:(k:Int) % 11=7:=om
   rw [this];rfl
  have a3:(k:Int) % 11=7:=om
  have hc:Calls prog 17 #[.pointer (some ⟨pg,0,none⟩), .int .i64 i, .slice fa fn fc] W (XL (EN M0) W O fun v w' o'=>∃ er:Int,v = .int .i64 er/\ArH R pg pn G n (a+1) (asked ⟨k,i,j,r,b,F⟩ er A) w' o'):=by
   refine (AxU U E.out.1 ha i E.out.2.2.2.1 E.out.2.2.2.2.1).mono ?_;rintro e2 J ⟨v,o1,rfl,q,⟨er,rfl⟩,hp⟩;exact ⟨_,o1,rfl,q,er,rfl,by rw [ArD er (show ¬ (⟨k,i,j,r,b,F⟩:AbF).k % 11=5 by show ¬ k % 11=5;omega)];exact hp⟩
  replace hc:=ae hc
  clear e;go_enter func24,ntmps24;go_wp2_with fail;rw [Y.out];refine hc.out.mono ?_;rintro e J ⟨v,o1,rfl,q,er,rfl,hp⟩;have u:=ae (aI (E.out.2.1.trans q) hp);clear q hp hc;go_wp2_with fail;go_ret;exact ⟨_,o1,rfl,u.out.1,er,rfl,u.out.2⟩
 ·have a2:IntKind.u8.wrap ((k:Int) % 11)=8:=by
   have:(k:Int) % 11=8:=om
   rw [this];rfl
  have a3:(k:Int) % 11=8:=om
  have hc:Calls prog 23 #[.pointer (some ⟨pg,0,none⟩), .int .i64 i, .int .i64 j] W (XL (EN M0) W O fun v w' o'=>∃ er:Int,v = .int .i64 er/\ArH R pg pn G n (a+1) (asked ⟨k,i,j,r,b,F⟩ er A) w' o'):=by
   refine (AyC U E.out.1 i j).mono ?_;rintro e2 J ⟨v,o1,rfl,q,⟨er,rfl⟩,hp⟩;exact ⟨_,o1,rfl,q,er,rfl,by rw [ArD er (show ¬ (⟨k,i,j,r,b,F⟩:AbF).k % 11=5 by show ¬ k % 11=5;omega)];exact hp⟩
  replace hc:=ae hc
  clear e;go_enter func24,ntmps24;go_wp2_with fail;rw [Y.out];refine hc.out.mono ?_;rintro e J ⟨v,o1,rfl,q,er,rfl,hp⟩;have u:=ae (aI (E.out.2.1.trans q) hp);clear q hp hc;go_wp2_with fail;go_ret;exact ⟨_,o1,rfl,u.out.1,er,rfl,u.out.2⟩
 ·have a2:IntKind.u8.wrap ((k:Int) % 11)=9:=by
   have:(k:Int) % 11=9:=om
   rw [this];rfl
  have a3:(k:Int) % 11=9:=om
  have hc:Calls prog 38 #[.pointer (some ⟨pg,0,none⟩), .int .i64 i, .int .i64 j] W (XL (EN M0) W O fun v w' o'=>∃ er:Int,v = .int .i64 er/\ArH R pg pn G n (a+1) (asked ⟨k,i,j,r,b,F⟩ er A) w' o'):=by
   refine (Ayr U E.out.1 i j).mono ?_;rintro e2 J ⟨v,o1,rfl,q,⟨er,rfl⟩,hp⟩;exact ⟨_,o1,rfl,q,er,rfl,by rw [ArD er (show ¬ (⟨k,i,j,r,b,F⟩:AbF).k % 11=5 by show ¬ k % 11=5;omega)];exact hp⟩
  replace hc:=ae hc
  clear e;go_enter func24,ntmps24;go_wp2_with fail;rw [Y.out];refine hc.out.mono ?_;rintro e J ⟨v,o1,rfl,q,er,rfl,hp⟩;have u:=ae (aI (E.out.2.1.trans q) hp);clear q hp hc;go_wp2_with fail;go_ret;exact ⟨_,o1,rfl,u.out.1,er,rfl,u.out.2⟩
 ·have a2:IntKind.u8.wrap ((k:Int) % 11)=10:=by
   have:(k:Int) % 11=10:=om
   rw [this];rfl
  have a3:(k:Int) % 11=10:=om
  have hc:Calls prog 39 #[.pointer (some ⟨pg,0,none⟩), .int .i64 i, .int .i64 r] W (XL (EN M0) W O fun v w' o'=>∃ er:Int,v = .int .i64 er/\ArH R pg pn G n (a+1) (asked ⟨k,i,j,r,b,F⟩ er A) w' o'):=by
   refine (Ays U E.out.1 i r E.out.2.2.2.2.2.2).mono ?_;rintro e2 J ⟨v,o1,rfl,q,⟨er,rfl⟩,hp⟩;exact ⟨_,o1,rfl,q,er,rfl,by rw [ArD er (show ¬ (⟨k,i,j,r,b,F⟩:AbF).k % 11=5 by show ¬ k % 11=5;omega)];exact hp⟩
  replace hc:=ae hc
  clear e;go_enter func24,ntmps24;go_wp2_with fail;rw [Y.out];refine hc.out.mono ?_;rintro e J ⟨v,o1,rfl,q,er,rfl,hp⟩;have u:=ae (aI (E.out.2.1.trans q) hp);clear q hp hc;go_wp2_with fail;go_ret;exact ⟨_,o1,rfl,u.out.1,er,rfl,u.out.2⟩
end
def Ass (w:World) (mb n:Nat):Prop:=∃ es c,w.heap[mb]?=some (.map es c)/\∀ e ∈ es.toList,∃ q:Nat,e.key = .int .u64 (q:Int)/\e.val = .int .i64 ((q % n:Nat):Int)
def Asw (w:World) (mb:Nat) (A:List (List UInt8)):Prop:=∃ es c,w.heap[mb]?=some (.map es c)/\(∀ e ∈ es.toList,∃ s,e.key = .string s/\e.val = .bool true)/\∀ b ∈ A,∃ e ∈ es.toList,e.key = .string ⟨b.toArray⟩
theorem mem_modify {α:Type}{es:Array α}{j:Nat}{f:α->α}{e:α}(h:e ∈ (es.modify j f).toList):e ∈ es.toList \/ ∃ r,es[j]?=some r/\e=f r:=by
 obtain ⟨i,q⟩:=List.mem_iff_getElem?.1 h;rw [Array.getElem?_toList,Array.getElem?_modify] at q
 by_cases u:j=i
 ·subst u;rw [if_pos rfl,Option.map_eq_some_iff] at q;obtain ⟨r,E,F⟩:=q;exact .inr ⟨r,E,F.symm⟩
 ·rw [if_neg u] at q;exact .inl (List.mem_iff_getElem?.2 ⟨i,by rw [Array.getElem?_toList];exact q⟩)
theorem Awu {α:Type}{es:Array α}{j:Nat}{f:α->α}{e:α}(h:e ∈ es.toList):e ∈ (es.modify j f).toList \/ f e ∈ (es.modify j f).toList:=by
 obtain ⟨i,q⟩:=List.mem_iff_getElem?.1 h;rw [Array.getElem?_toList] at q
 by_cases r:j=i
 ·refine .inr (List.mem_iff_getElem?.2 ⟨i, ?_⟩);rw [Array.getElem?_toList,Array.getElem?_modify,if_pos r,q];rfl
 ·refine .inl (List.mem_iff_getElem?.2 ⟨i, ?_⟩);rw [Array.getElem?_toList,Array.getElem?_modify,if_neg r];exact q
theorem AwW (k:Int):∀ (l:List MapEntry) (i:Nat),(∀ e ∈ l,∃ q:Nat,e.key = .int .u64 (q:Int)) ->
  Instr.findNow (.int .u64) (.int .u64 k) l i=some none \/ ∃ j e,l[j]?=some e/\e.key = .int .u64 k/\Instr.findNow (.int .u64) (.int .u64 k) l i=some (some (i+j,e.val)):=by
 intro l
 induction l with
 | nil=>intro i _;exact .inl rfl
 | cons e l u =>
  intro i h;obtain ⟨q,hq⟩:=h e (by simp);have E:Instr.sameNow (.int .u64) (.int .u64 k) e.key=some (k == (q:Int)):=by rw [hq];rfl
  unfold Instr.findNow;rw [E]
  by_cases r:k=(q:Int)
  ·subst r;refine .inr ⟨0,e,rfl,hq, ?_⟩;simp
  ·have F:(k == (q:Int))=false:=by simp [r]
   rw [F]
   rcases u (i+1) (fun x J=>h x (List.mem_cons_of_mem _ J)) with g | ⟨j,e',O,U,W⟩
   ·exact .inl g
   ·refine .inr ⟨j+1,e',by simpa using O,U, ?_⟩;show Instr.findNow (.int .u64) (.int .u64 k) l (i+1)=_;rw [W];congr 3;omega
theorem AwX (k:ByteArray):∀ (l:List MapEntry) (i:Nat),(∀ e ∈ l,∃ s,e.key = .string s) ->
  (Instr.findNow .string (.string k) l i=some none/\∀ e ∈ l,e.key ≠ .string k) \/ ∃ j e,l[j]?=some e/\e.key = .string k/\Instr.findNow .string (.string k) l i=some (some (i+j,e.val)):=by
 intro l
 induction l with
 | nil=>intro i _;exact .inl ⟨rfl,by simp⟩
 | cons e l E =>
  intro i h;obtain ⟨q,hq⟩:=h e (by simp);have F:Instr.sameNow .string (.string k) e.key=some (k == q):=by rw [hq];rfl
  unfold Instr.findNow;rw [F]
  by_cases u:k=q
  ·subst u;refine .inr ⟨0,e,rfl,hq, ?_⟩;rw [show (k == k)=true from (MapKept.bytes_beq k k).2 rfl];simp
  ·have J:(k == q)=false:=by
    rw [<-Bool.not_eq_true];exact fun h=>u ((MapKept.bytes_beq k q).1 h)
   rw [J]
   rcases E (i+1) (fun x r=>h x (List.mem_cons_of_mem _ r)) with ⟨g,O⟩ | ⟨j,e',U,W,Y⟩
   ·refine .inl ⟨g,fun x r=>?_⟩
    rcases List.mem_cons.1 r with rfl | r
    ·rw [hq];intro e;cases e;exact u rfl
    ·exact O x r
   ·refine .inr ⟨j+1,e',by simpa using U,W, ?_⟩;show Instr.findNow .string (.string k) l (i+1)=_;rw [Y];congr 3;omega
section
variable {w w':World}{o o':Own}{mb n:Nat}{A:List (List UInt8)}
theorem Avg (k:Int) (e:Bool):(Instr.checkKey e 10000 34 (.int .u64 k)).run prog w = .ok () w:=by
 unfold Instr.checkKey;simp [run_underlying underlying34]
theorem AwI (k:ByteArray) (e:Bool):(Instr.checkKey e 10000 9 (.string k)).run prog w = .ok () w:=by
 unfold Instr.checkKey;simp [run_underlying underlying9]
theorem Ass.get (h:Ass w mb n) (k:Nat):∃ (v:Int) (b:Bool),(Instr.lookup 46 (.map (some mb)) (.int .u64 (k:Int)) true).run prog w = .ok (.tuple #[.int .i64 v, .bool b]) w/\(b=true->v=((k % n:Nat):Int)):=by
 obtain ⟨J,c,hb,E⟩:=h;have O:(zeroValue 3).run prog w = .ok (.int .i64 0) w:=by kernel_rfl
 rcases AwW (k:Int) J.toList 0 (fun e h=>by obtain ⟨q,r,-⟩:=E e h;exact ⟨q,r⟩) with u | ⟨j,e,r,U,u⟩
 ·refine ⟨0,false, ?_,by simp⟩;simp only [Instr.lookup,Sem.run_bind,run_underlying underlying46,Result.andThen_ok,MapKept.run_getObj_map hb,Sem.run_pure,Instr.findKey,run_underlying underlying34,Avg,u,O];simp
 ·obtain ⟨q,F,W⟩:=E e (List.mem_of_getElem? r);rw [U] at F;have hq:k=q:=by
   simp only [Value.int.injEq,true_and] at F;omega
  subst hq;refine ⟨_,true, ?_,fun _=>rfl⟩;simp only [Instr.lookup,Sem.run_bind,run_underlying underlying46,Result.andThen_ok,MapKept.run_getObj_map hb,Sem.run_pure,Instr.findKey,run_underlying underlying34,Avg,u,W];simp
theorem Ass.put (h:Ass w mb n) (k:Nat):∃ es c,(Instr.mapUpdate 46 (.map (some mb)) (.int .u64 (k:Int)) (.int .i64 ((k % n:Nat):Int))).run prog w = .ok () (DR w mb (.map es c))/\Ass (DR w mb (.map es c)) mb n:=by
 obtain ⟨es,c,hb,r⟩:=h;have F:=(Array.getElem?_eq_some_iff.1 hb).1
 rcases AwW (k:Int) es.toList 0 (fun e h=>by obtain ⟨q,u,-⟩:=r e h;exact ⟨q,u⟩) with E | ⟨j,e,u,J,E⟩
 ·refine ⟨es.push ⟨.int .u64 (k:Int), .int .i64 ((k % n:Nat):Int),c⟩,c+1, ?_,_,_,Ot F,fun e h=>?_⟩
  ·simp only [Instr.mapUpdate,Sem.run_bind,run_underlying underlying46,Result.andThen_ok,MapKept.run_getObj_map hb,Sem.run_pure,Instr.findKey,run_underlying underlying34,Avg,E,MapKept.run_setObj_map _ hb];rfl
  ·rw [Array.toList_push] at h
   rcases List.mem_append.1 h with h | h
   ·exact r e h
   ·rw [List.mem_singleton] at h;subst h;exact ⟨k,rfl,rfl⟩
 ·have hold:(((es[0+j]?).map (·.key)).getD (.int .u64 (k:Int))) = .int .u64 (k:Int):=by
   rw [Nat.zero_add, <-Array.getElem?_toList,u];simpa using J
  have O:(Instr.keyThatStays (.int .u64 (k:Int)) (.int .u64 (k:Int))).run prog w = .ok (.int .u64 (k:Int)) w:=by
   unfold Instr.keyThatStays;rw [if_pos (by simp [Instr.sameBits])];rfl
  refine ⟨es.modify (0+j) fun e=>{ e with key := .int .u64 (k:Int),val := .int .i64 ((k % n:Nat):Int) },c, ?_,_,_,Ot F,fun e h=>?_⟩
  ·simp only [Instr.mapUpdate,Sem.run_bind,run_underlying underlying46,Result.andThen_ok,MapKept.run_getObj_map hb,Sem.run_pure,Instr.findKey,run_underlying underlying34,Avg,E,hold,O,MapKept.run_setObj_map _ hb];rfl
  ·rcases mem_modify h with h | ⟨U, -,rfl⟩
   ·exact r e h
   ·exact ⟨k,rfl,rfl⟩
theorem Asw.get (h:Asw w mb A){b:List UInt8}(F:b ∈ A):(Instr.lookup 47 (.map (some mb)) (.string ⟨b.toArray⟩) false).run prog w = .ok (.bool true) w:=by
 obtain ⟨J,c,hb,u,O⟩:=h
 rcases AwX ⟨b.toArray⟩ J.toList 0 (fun e h=>by obtain ⟨q,r,-⟩:=u e h;exact ⟨q,r⟩) with ⟨-,U⟩ | ⟨j,e,r,E,W⟩
 ·obtain ⟨e,r,E⟩:=O b F;exact absurd E (U e r)
 ·obtain ⟨q, -,Y⟩:=u e (List.mem_of_getElem? r);simp only [Instr.lookup,Sem.run_bind,run_underlying underlying47,Result.andThen_ok,MapKept.run_getObj_map hb,Sem.run_pure,Instr.findKey,run_underlying underlying9,AwI,W,Y];simp
theorem Asw.put (h:Asw w mb A) (b:List UInt8):∃ es c,(Instr.mapUpdate 47 (.map (some mb)) (.string ⟨b.toArray⟩) (.bool true)).run prog w = .ok () (DR w mb (.map es c))/\Asw (DR w mb (.map es c)) mb (b :: A):=by
 obtain ⟨es,c,hb,O,Y⟩:=h;have a2:=(Array.getElem?_eq_some_iff.1 hb).1
 rcases AwX ⟨b.toArray⟩ es.toList 0 (fun e h=>by obtain ⟨q,u,-⟩:=O e h;exact ⟨q,u⟩) with ⟨U,-⟩ | ⟨j,e,u,E,U⟩
 ·refine ⟨es.push ⟨.string ⟨b.toArray⟩, .bool true,c⟩,c+1, ?_,_,_,Ot a2,fun e h=>?_,fun b' r=>?_⟩
  ·simp only [Instr.mapUpdate,Sem.run_bind,run_underlying underlying47,Result.andThen_ok,MapKept.run_getObj_map hb,Sem.run_pure,Instr.findKey,run_underlying underlying9,AwI,U,MapKept.run_setObj_map _ hb];rfl
  ·rw [Array.toList_push] at h
   rcases List.mem_append.1 h with h | h
   ·exact O e h
   ·rw [List.mem_singleton] at h;subst h;exact ⟨_,rfl,rfl⟩
  ·rw [Array.toList_push]
   rcases List.mem_cons.1 r with rfl | r
   ·exact ⟨⟨.string ⟨b'.toArray⟩, .bool true,c⟩,by simp,rfl⟩
   ·obtain ⟨e,W,F⟩:=Y b' r;exact ⟨e,List.mem_append_left _ W,F⟩
 ·have hold:(((es[0+j]?).map (·.key)).getD (.string ⟨b.toArray⟩)) = .string ⟨b.toArray⟩:=by
   rw [Nat.zero_add, <-Array.getElem?_toList,u];simpa using E
  have hk:(Instr.keyThatStays (.string ⟨b.toArray⟩) (.string ⟨b.toArray⟩)).run prog w = .ok (.string ⟨b.toArray⟩) w:=by
   unfold Instr.keyThatStays;rw [if_pos (by simp only [Instr.sameBits];exact (MapKept.bytes_beq _ _).2 rfl)];rfl
  refine ⟨es.modify (0+j) fun e=>{ e with key := .string ⟨b.toArray⟩,val := .bool true },c, ?_,_,_,Ot a2,fun e h=>?_,fun b' r=>?_⟩
  ·simp only [Instr.mapUpdate,Sem.run_bind,run_underlying underlying47,Result.andThen_ok,MapKept.run_getObj_map hb,Sem.run_pure,Instr.findKey,run_underlying underlying9,AwI,U,hold,hk,MapKept.run_setObj_map _ hb];rfl
  ·rcases mem_modify h with h | ⟨e0, -,rfl⟩
   ·exact O e h
   ·exact ⟨_,rfl,rfl⟩
  ·rcases List.mem_cons.1 r with rfl | r
   ·rcases Awu (j:=0+j) (f:=fun e=>{ e with key:=Value.string ⟨b'.toArray⟩,val := .bool true }) (List.mem_of_getElem? u) with g | g
    ·exact ⟨e,g,E⟩
    ·exact ⟨_,g,rfl⟩
   ·obtain ⟨e',W,F⟩:=Y b' r;have a4:e' ∈ (es.modify (0+j) fun e=>{ e with key:=Value.string ⟨b.toArray⟩,val := .bool true }).toList \/ e'.key = .string ⟨b.toArray⟩:=by
     obtain ⟨i,J⟩:=List.mem_iff_getElem?.1 W;rw [Array.getElem?_toList] at J
     by_cases a3:0+j=i
     ·right
      subst a3;rw [Nat.zero_add, <-Array.getElem?_toList,u] at J
      cases J
      exact E
     ·left
      refine List.mem_iff_getElem?.2 ⟨i, ?_⟩;rw [Array.getElem?_toList,Array.getElem?_modify,if_neg a3];exact J
    rcases a4 with g | g
    ·exact ⟨e',g,F⟩
    ·rw [F] at g;have a5:e ∈ es.toList:=List.mem_of_getElem? u
     rcases Awu (j:=0+j) (f:=fun e=>{ e with key:=Value.string ⟨b.toArray⟩,val := .bool true }) a5 with g' | g'
     ·exact ⟨e,g',by rw [E,g]⟩
     ·exact ⟨_,g',g.symm⟩
end
theorem AiQ {lv:Value}(h:Lines w o base lv ls) (n:Nat) (hn:n<=ls.length) :
  ∃ v,(∀ W:World,(Instr.sliceAt 35 lv none (some (.int .i64 (n:Int))) none).run prog W = .ok v W)/\Lines w o base v (ls.take n):=by
 have r:prog.underlying 35=some (.slice (prog.elem 35)):=by kernel_rfl
 obtain ⟨E,q,u⟩:=TI h n hn;have hc:∃ a c,lv = .slice a ls.length c/\ls.length<=c:=by
  obtain ⟨F,q,-⟩:=h
  rcases q with ⟨⟨a,c,rfl⟩,h0,-⟩ | ⟨b,off,cap,rfl,hl,-⟩
  ·exact ⟨a,c,by rw [h0],om⟩
  ·exact ⟨_,cap,rfl,hl⟩
 obtain ⟨a,c,rfl,hc⟩:=hc;have run:∀ W:World,(Instr.sliceAt 35 (.slice a ls.length c) none (some (.int .i64 (n:Int))) none).run prog W = .ok (sliced a 0 n c 2) W:=fun W=>by
  rw [run_sliceAt_slice _ _ _ _ _ _ r,run_slice_h W 35 a ls.length c r .i64 n om om,Po W];simp only [Result.andThen_ok,Int.toNat_natCast]
 have e:=(run w).symm.trans q;injection e with e1 e2;exact ⟨_,run,by rw [e1];exact u⟩
theorem Oh {b1 b2:Nat}{v1 v2:Value}(h1:Lines w o b1 v1 ls) (h2:Lines w o b2 v2 ls) (hn:ls.length<=1000000) :
  Calls prog 31 #[v1,v2] w (XL ai w o fun v _ _=>v = .bool true):=by
 obtain ⟨va,vc,rfl⟩:=h1.form;obtain ⟨ua,uc,rfl⟩:=h2.form;obtain ⟨N,hN⟩:=az (ls.length);rw [hN] at h1 h2 hn ⊢;have U:(0:Int)<=(N:Int)/\(N:Int)<=1000000:=om
 have hH:=ae (aI h1 (aI h2 hN));clear h1 h2 hN hn;go_enter func31,ntmps31;go_wp2_with fail
 go_loopw [5] (fun i wr=>∃ (j:Nat) (u:Own),j<=N/\i = .int .i64 j/\aj ai w o wr u) (fun i _=>N - (intOf i).toNat)
 case atStart=>exact ⟨0,o,Nat.zero_le _,rfl,aj.refl _ _ _⟩
 case round =>
  obtain ⟨j,u,hj,rfl,hst⟩:=hrel
  by_cases hlt:j<N
  ·have W:(0:Int)<=(j:Int)/\(j:Int)<(N:Int):=om
   obtain ⟨h1,h2,hN⟩:=hH.out;obtain ⟨x,F⟩:∃ x,ls[j]?=some x:=⟨_,List.getElem?_eq_getElem (by rw [hN];exact hlt)⟩;have q:=hst.drew;obtain ⟨b,off,bv,rfl,r1,J,-⟩:=(h1.step q id).at F;obtain ⟨b',off',bv',rfl,r,y2,-⟩:=(h2.step q id).at F;obtain ⟨E,hE⟩:=az (x.e.toNat);obtain ⟨X,hX⟩:=az (x.b);rw [hX] at J y2;rw [hE] at r1 r;have c1:=CY J;have c2:=CY y2;have d1:=r1 0 _ rfl;have d2:=r1 1 _ rfl;have d3:=r 0 _ rfl;have d4:=r 1 _ rfl;have hS:=aI (show wr.drew.cell? ⟨b,off+j*2,none⟩=some (.int .u64 (E:Int)) from d1) (aI d2 (aI (show wr.drew.cell? ⟨b',off'+j*2,none⟩=some (.int .u64 (E:Int)) from d3) (aI d4 (aI c1 c2))));have hF:=ae q;clear h1 h2 hN F r1 r J y2 c1 c2 d1 d2 d3 d4 hst q hE hX;go_wp2_with fail;refine Aa (fun w'=>w'.cell? ⟨b,off+j*2,none⟩=some (.int .u64 (E:Int))/\w'.cell? ⟨b,off+j*2+1,none⟩=some bv/\w'.cell? ⟨b',off'+j*2,none⟩=some (.int .u64 (E:Int))/\w'.cell? ⟨b',off'+j*2+1,none⟩=some bv'/\(convert 29 9 bv).run prog w' = .ok (.string ⟨X.toArray⟩) w'/\(convert 29 9 bv').run prog w' = .ok (.string ⟨X.toArray⟩) w') (fun _=>true) (by kernel_rfl) hS (fun O=>?_);refine tq 0 (h:=tq 1 (h:=tq 2 (h:=tq 3 (h:=tq 4 (h:=tq 5 (h:=tq 6 (h:=tq 7 (h:=tq 8 (h:=tq 9 (h:=tq 10 (h:=tq 11 (h:=tq 12 (h:=tq 13 (h:=?_))))))))))))));refine tq 14 (h:=tq 15 (h:=tq 16 (h:=tq 17 (h:=tq 18 (h:=tq 19 (h:=tq 20 (h:=tq 21 (h:=tq 22 (h:=tq 23 (h:=tq 24 (h:=tq 25 (h:=tD (h:=?_)))))))))))));clear O hS;go_wp2_with fail;go_roundw
   case rel=>exact ⟨j+1,u,om,by go_num,hF.out⟩
   case measure=>simp [intOf];omega
  ·obtain rfl:j=N:=om
   go_wp2_with fail;go_ret;exact ⟨_,_,rfl,hst,rfl⟩
def WBx (w:World) (o:Own) (U pw n:Nat) (A:List (List UInt8)) (truth:List Ar) (tv:Value) (ml ma base:Nat):Prop:=
 w.heap[pw]?=some (.cells [tv, .map (some ml), .map (some ma), .bool false].toArray 49 (0,0))/\o pw=(U,0)/\o ml=(U,1)/\o ma=(U,2) /\
  Ass w ml n/\Asw w ma A/\Lines w o base tv truth/\truth.length<=256
def WAt (w:World) (o:Own) (U pw n:Nat) (A:List (List UInt8)) (truth:List Ar):Prop:=∃ tv ml ma base,WBx w o U pw n A truth tv ml ma base
theorem Ass.lt (h:Ass w mb n):mb<w.heap.size:=by
 obtain ⟨q,c,hb,-⟩:=h;exact (Array.getElem?_eq_some_iff.1 hb).1
theorem Asw.lt {A:List (List UInt8)}(h:Asw w mb A):mb<w.heap.size:=by
 obtain ⟨q,c,hb,-⟩:=h;exact (Array.getElem?_eq_some_iff.1 hb).1
theorem Ass.same (h:Ass w mb n) (e:w'.heap[mb]?=w.heap[mb]?):Ass w' mb n:=by
 obtain ⟨q,c,hb,h⟩:=h;exact ⟨q,c,e.trans hb,h⟩
theorem Asw.same {A:List (List UInt8)}(h:Asw w mb A) (e:w'.heap[mb]?=w.heap[mb]?):Asw w' mb A:=by
 obtain ⟨q,c,hb,h⟩:=h;exact ⟨q,c,e.trans hb,h⟩
section
variable {T:Nat->Prop}{w w':World}{o o':Own}{U pw n:Nat}{A:List (List UInt8)}{truth:List Ar}{tv:Value}{ml ma base:Nat}
theorem WBx.step (h:WBx w o U pw n A truth tv ml ma base) (s:aj T w o w' o') (q:¬ T U) (h0:¬ T 0):WBx w' o' U pw n A truth tv ml ma base:=by
 obtain ⟨r,u,E,h4,F,J,W,Y⟩:=h;have hp:=au r;have hl:=F.lt;have O:=J.lt;exact ⟨(s.block pw hp (by rw [u];exact q)).trans r,(s.own pw hp).trans u,(s.own ml hl).trans E,(s.own ma O).trans h4,F.same (s.block ml hl (by rw [E];exact q)),J.same (s.block ma O (by rw [h4];exact q)),W.step s h0,Y⟩
theorem WAt.step (h:WAt w o U pw n A truth) (s:aj T w o w' o') (q:¬ T U) (h0:¬ T 0):WAt w' o' U pw n A truth:=by
 obtain ⟨tv,ml,r,base,h⟩:=h;exact ⟨_,_,_,_,h.step s q h0⟩
theorem WBx.put (h:WBx w o U pw n A truth tv ml ma base) (E:U ≠ 0){b0:Nat}{c:Value}(hl:Lines w o b0 c ls) (hn:ls.length<=256):WBx (w.setCell ⟨pw,0,none⟩ c) o U pw n A ls c ml ma b0/\aj (ak U) w o (w.setCell ⟨pw,0,none⟩ c) o:=by
 obtain ⟨F,q,r,h4,J,O,W,Y⟩:=h;have u:aj (ak U) w o (w.setCell ⟨pw,0,none⟩ c) o:=(aj.refl _ w o).setCell c (.inl (by rw [q];rfl));refine ⟨⟨Ai c F,q,r,h4,J.same (Below.heap_setCell _ _ _ _ ?_),O.same (Below.heap_setCell _ _ _ _ ?_),hl.step u (fun e=>E (Eq.symm e)),hn⟩,u⟩
 ·rintro rfl;rw [q] at r;simp at r
 ·rintro rfl;rw [q] at h4;simp at h4
theorem WBx.cells (h:WBx w o U pw n A truth tv ml ma base):w.cell? ⟨pw,0,none⟩=some tv/\w.cell? ⟨pw,1,none⟩=some (.map (some ml))/\w.cell? ⟨pw,2,none⟩=some (.map (some ma))/\w.cell? ⟨pw,3,none⟩=some (.bool false)/\Lines w o base tv truth/\truth.length<=256 /\
  (∀ k:Nat,∃ (v:Int) (b:Bool),(Instr.lookup 46 (.map (some ml)) (.int .u64 (k:Int)) true).run prog w = .ok (.tuple #[.int .i64 v, .bool b]) w/\(b=true->v=((k % n:Nat):Int))) /\
  (∀ k:Nat,∃ V,(Instr.mapUpdate 46 (.map (some ml)) (.int .u64 (k:Int)) (.int .i64 ((k % n:Nat):Int))).run prog w = .ok () V/\aj (ak U) w o V o/\(U ≠ 0->WAt V o U pw n A truth)) /\
  (∀ b ∈ A,(Instr.lookup 47 (.map (some ma)) (.string ⟨b.toArray⟩) false).run prog w = .ok (.bool true) w) /\
  (∀ b,∃ V,(Instr.mapUpdate 47 (.map (some ma)) (.string ⟨b.toArray⟩) (.bool true)).run prog w = .ok () V/\aj (ak U) w o V o/\(U ≠ 0->WAt V o U pw n (b :: A) truth)):=by
 obtain ⟨E,u,q,h4,F,J,O,W⟩:=h;have c:=ag E;have n1:ml ≠ pw:=by rintro rfl;rw [u] at q;simp at q
 have n2:ma ≠ pw:=by rintro rfl;rw [u] at h4;simp at h4
 have n3:ml ≠ ma:=by rintro rfl;rw [q] at h4;simp at h4
 refine ⟨c 0,c 1,c 2,c 3,O,W,F.get,fun k=>?_,fun b hb=>J.get hb,fun b=>?_⟩
 ·obtain ⟨Y,c,g1,g2⟩:=F.put k;have r:aj (ak U) w o (DR w ml (.map Y c)) o:=(aj.refl _ w o).DR ml _ (.inl (by rw [q];rfl));exact ⟨_,g1,r,fun hU=>⟨tv,ml,ma,base,(JS n1).trans E,u,q,h4,g2,J.same (JS n3),O.step r (fun e=>hU (Eq.symm e)),W⟩⟩
 ·obtain ⟨Y,c,g1,g2⟩:=J.put b;have r:aj (ak U) w o (DR w ma (.map Y c)) o:=(aj.refl _ w o).DR ma _ (.inl (by rw [h4];rfl));exact ⟨_,g1,r,fun hU=>⟨tv,ml,ma,base,(JS n2).trans E,u,q,h4,F.same (JS n3.symm),g2,O.step r (fun e=>hU (Eq.symm e)),W⟩⟩
end
namespace Gh
theorem NSt.seen {a:Nat}{P:List UInt8->Prop}(h:NSt G n P a z):z.Ag<=z.s.kept.lines.length/\En 15360 z.s.kept.lines/\G.Ary n (z.s.kept.lines.take z.Ag)/\(z.dead=false->z.BN.OD=true->z.s.kept.current.toNat % n=z.id):=by
 obtain ⟨-, -,F⟩:=h
 rcases F with ⟨K,u,-⟩ | ⟨K,d,-⟩
 ·refine ⟨u.ok.co,u.ok.ls, .of u.nd.co u.ok.co,fun _ hl=>?_⟩;have r:=u.nd.ro;unfold Aj.OD at hl
  cases q:z.BN.BB with
  | follows=>rw [q] at hl;cases hl
  | stands a b=>rw [q] at hl;cases hl
  | leads mine nR base ready =>
   rw [q] at r;obtain ⟨J, -, -,O,-⟩:=r;have:z.s.kept.current=mine:=O;rw [this];exact J
 ·refine ⟨d.co,d.ls, .of d.cl d.co,fun E=>?_⟩;have:=d.sd.1;unfold Am.dead at E;rw [E] at this;cases this
end Gh
section
variable {w w':World}{o o':Own}{R pg pn n a:Nat}{G:Gh}{A:List (List UInt8)}{zs:List Am}{ls:List (Nat × Nat × BG)}{cut:List (Nat × Nat × Bool)}
theorem SAt.step3 (h:SAt w o R pg pn G n a A zs ls cut) (s:aj (ak (R+3)) w o w' o'):SAt w' o' R pg pn G n a A zs ls cut:=by
 obtain ⟨xs,r,u, -,-⟩:=h.node 0;obtain ⟨-,q,E⟩:=h;exact ⟨⟨xs,r.step3 s q u⟩,q,E⟩
theorem SAt.AxF {U:Nat}(h:SAt w o R pg pn G n a A zs ls cut) (s:aj (ak U) w o w' o') (hU:U<R) (h0:U ≠ 0):SAt w' o' R pg pn G n a A zs ls cut:=by
 obtain ⟨xs,q,u, -,-⟩:=h.node 0;obtain ⟨-,E,F⟩:=h;refine ⟨⟨xs,q.step s (fun e=>h0 (Eq.symm e)) (fun k J r=>?_) u⟩,E,F⟩;have O:k=U:=J;subst O
 rcases r with r | ⟨x,W,h4⟩
 ·omega
 ·obtain ⟨i,Y⟩:=List.mem_iff_getElem?.1 W;obtain ⟨q1,q2,q3⟩:=q.2.2.1.at' i x Y;omega
theorem SAt.at (h:SAt w o R pg pn G n a A zs ls cut) (F:k<n):∃ xs x z,Pe w o R pg pn xs zs ⟨n,Ua ls,cut⟩/\xs[k]?=some x/\zs[k]?=some z/\z.id=k/\G.NSt n (fun b=>b ∈ A) a z:=by
 obtain ⟨xs,q,J,O,hc⟩:=h.node (k:Int)
 rcases hc with U | ⟨r,x,z,W, -,u,E⟩
 ·omega
 ·have:k=r:=om
  subst this;exact ⟨xs,x,z,q,u,E⟩
variable {k:Nat}{z:Am}
theorem SAt.is (h:SAt w o R pg pn G n a A zs ls cut) (q:zs[k]?=some z):∃ xs x,Pe w o R pg pn xs zs ⟨n,Ua ls,cut⟩/\xs[k]?=some x/\z.id=k/\G.NSt n (fun b=>b ∈ A) a z:=by
 have u:k<n:=by
  have:=(List.getElem?_eq_some_iff.1 q).1;have:=h.2.2.2.len;omega
 obtain ⟨xs,x,J,E,F,r,h4⟩:=h.at u;rw [q] at r
 cases r
 exact ⟨xs,x,E,F,h4⟩
theorem Axc (h:SAt w o R pg pn G n a A zs ls cut) (q:zs[k]?=some z) :
  Calls prog 18 #[.pointer (some ⟨pg,0,none⟩), .int .i64 (k:Int)] w (XL (ak (R+3)) w o fun v w' o'=>∃ lv base,v=Dy z.s.kept.promised z.s.kept.current lv/\Lines w' o' base lv z.s.kept.lines):=by
 obtain ⟨xs,x,r,u, -,h4⟩:=h.is q;exact AoT r k u q (En.small h4.seen.2.1 om)
theorem AwP (h:SAt w o R pg pn G n a A zs ls cut) (q:zs[k]?=some z) :
  Calls prog 19 #[.pointer (some ⟨pg,0,none⟩), .int .i64 (k:Int)] w (XL (ak (R+3)) w o fun v w' o'=>∃ base,Lines w' o' base v (z.s.kept.lines.take z.Ag)):=by
 obtain ⟨xs,x,r,u, -,h4⟩:=h.is q;exact Ado r k u q (En.small h4.seen.2.1 om) h4.seen.1
theorem Axo (h:SAt w o R pg pn G n a A zs ls cut) (q:zs[k]?=some z) (hb:z.BN.OD=b) :
  Calls prog 11 #[.pointer (some ⟨pg,0,none⟩), .int .i64 (k:Int)] w fun e w'=>e = .returned (.bool b)/\w=w':=by
 obtain ⟨xs,x,r,u,-⟩:=h.is q;exact AmN r k u q hb
theorem AxH (h:SAt w o R pg pn G n a A zs ls cut) (q:zs[k]?=some z) (hb:z.dead=b) :
  Calls prog 28 #[.pointer (some ⟨pg,0,none⟩), .int .i64 (k:Int)] w fun e w'=>e = .returned (.bool b)/\w=w':=by
 obtain ⟨xs,x,r,u,-⟩:=h.is q;exact Apg r k u q hb
end
def From (U:Nat):Nat->Prop:=fun k=>U<=k
section
variable {w w':World}{o o':Own}{R U pg pn pw n a:Nat}{G:Gh}{A:List (List UInt8)}{zs:List Am}{ls:List (Nat × Nat × BG)}{cut:List (Nat × Nat × Bool)}{truth:List Ar}
def AsN (w:World) (o:Own) (U R pg pn pw:Nat) (G:Gh) (n a:Nat) (A:List (List UInt8)) (zs:List Am) (ls:List (Nat × Nat × BG)) (cut:List (Nat × Nat × Bool)) (W:World) (oW:Own) (truth:List Ar) (tv:Value) (ml ma base:Nat):Prop:=
 aj (From U) w o W oW/\SAt W oW R pg pn G n a A zs ls cut/\WBx W oW U pw n A truth tv ml ma base/\G.Ary n truth
theorem AsN.none {q:Own}(h:AsN w o U R pg pn pw G n a A zs ls cut W q truth tv ml ma base) (s:aj ai W q V oV):AsN w o U R pg pn pw G n a A zs ls cut V oV truth tv ml ma base:=
 ⟨h.1.trans (s.mono fun _ h=>h.elim),h.2.1.step0 s,h.2.2.1.step s id id,h.2.2.2⟩
theorem AsN.read {q:Own}(h:AsN w o U R pg pn pw G n a A zs ls cut W q truth tv ml ma base) (r:U<R) (s:aj (ak (R+3)) W q V oV):AsN w o U R pg pn pw G n a A zs ls cut V oV truth tv ml ma base:=
 ⟨h.1.trans (s.mono fun k (u:k=R+3)=>by show U<=k;omega),h.2.1.step3 s,h.2.2.1.step s (fun (e:U=R+3)=>om) (fun (e:0=R+3)=>om),h.2.2.2⟩
theorem AsN.up {r:Own}{u:Value}{E F J:Nat}{q:List Ar}(h:AsN w o U R pg pn pw G n a A zs ls cut W r truth tv ml ma base) (O:U<R) (Y:U ≠ 0) (s:aj (ak U) W r V oV) (hw:WBx V oV U pw n A q u E F J) (ht:G.Ary n q):AsN w o U R pg pn pw G n a A zs ls cut V oV q u E F J:=
 ⟨h.1.trans (s.mono fun k (hk:k=U)=>by show U<=k;omega),h.2.1.AxF s O Y,hw,ht⟩
theorem Axq (w:World) (a b c:Value):(Instr.field 37 (.agg #[a,b,c]) 1).run prog w = .ok b w:=by kernel_rfl
theorem AsR (a9:U<R) (hU:U ≠ 0) (h:SAt w o R pg pn G n a A zs ls cut) (hw:WAt w o U pw n A truth) (ht:G.Ary n truth) :
  Calls prog 33 #[.pointer (some ⟨pw,0,none⟩), .pointer (some ⟨pg,0,none⟩), .int .i64 (n:Int)] w (XL (From U) w o fun v w' o'=>v = .tuple #[]/\SAt w' o' R pg pn G n a A zs ls cut/\∃ e9,WAt w' o' U pw n A e9/\G.Ary n e9):=by
 have i5:n<=3:=h.2.2.2.n3;obtain ⟨i6,i7,i8,b0,hw⟩:=hw;have hF:Hid (∃ truth tv ml O base,AsN w o U R pg pn pw G n a A zs ls cut w o truth tv ml O base):=ae ⟨_,_,_,_,_,aj.refl _ _ _,h,hw,ht⟩;clear hw ht h;go_enter func33,ntmps33;go_wp2_with fail
 go_loopw [6] (fun i wr=>∃ (k:Nat) (oj:Own),k<=n/\i = .int .i64 k/\Hid (∃ truth tv ml O base,AsN w o U R pg pn pw G n a A zs ls cut wr oj truth tv ml O base)) (fun i _=>n - (intOf i).toNat)
 case atStart=>exact ⟨0,o,Nat.zero_le _,rfl,hF⟩
 case round =>
  clear hF;obtain ⟨k,oj,hk,rfl,F⟩:=hrel
  by_cases d4:k<n
  ·obtain ⟨b3,tv,ml,O,tb,J⟩:=F.out;obtain ⟨xs,x,z,hg,hx,hz,b4,hn⟩:=J.2.1.at d4;obtain ⟨n1,n2,n3,n4⟩:=hn.seen;have WV:=ae (AwP J.2.1 hz);have g8:(0:Int)<=(k:Int)/\(k:Int)<(n:Int)/\(n:Int)<=3:=om
   have hG:=ae (aI J (aI hz (aI b4 (aI n1 (aI n2 (aI n3 n4))))));clear J hg hx hz b4 hn n1 n2 n3 n4 F;go_wp2_with fail;refine WV.out.mono ?_;rintro e w1 ⟨c,o1,rfl,f0,base,hl⟩;obtain ⟨J,hz,b4,n1,n2,n3,n4⟩:=hG.out;obtain ⟨C,hC⟩:=az (z.s.kept.lines.take z.Ag);rw [hC] at hl n3;have g9:C.length<=z.s.kept.lines.length:=by rw [<-hC,List.length_take];omega
   obtain ⟨ca,cc,rfl⟩:=hl.form;have d5:=J.read a9 f0;obtain ⟨d0,d1,d2,Y,tl,tn,-⟩:=d5.2.2.1.cells;obtain ⟨ta,tc,rfl⟩:=tl.form;obtain ⟨CL,b5⟩:=az (C.length);obtain ⟨q,a5⟩:=az (b3.length);obtain ⟨KL,f4⟩:=az (z.s.kept.lines.length);have i9:(0:Int)<=(CL:Int)/\(CL:Int)<=(KL:Int)/\(KL:Int)<=256/\(0:Int)<=(q:Int)/\(q:Int)<=256:=by
    have:=n2.n;omega
   rw [a5] at d0 tl d5;rw [b5] at hl;rw [b5];obtain ⟨M,hM⟩:=az (min CL q);have h1:min (CL:Int) (q:Int)=(M:Int):=om
   have d8:=n3.agree J.2.1.2.2.2.ok J.2.2.2;rw [b5,a5,hM] at d8;obtain ⟨h2,f5,d9⟩:=AiQ hl M om;obtain ⟨h3,f6,f7⟩:=AiQ tl M om;rw [d8] at d9;have dr:aj ai w1 o1 w1.drew o1:=(aj.refl ai w1 o1).drew;have f8:=ae (Oh (d9.step dr id) (f7.step dr id) (by rw [List.length_take];omega));have tN:=ae (aI f5 f6);have hS:=aI d0 Y;have e0:=ae (aI (d5.none dr) (hl.step dr id));have r:=ae (aI hz (aI b4 (aI n4 (aI n3 (aI b5 (aI a5 f4))))));clear J d5 hz b4 n1 n2 n3 n4 f0 hl tl b5 a5 f4 hG WV d1 d2 tn d0 Y hM d8 f5 f6 d9 f7 dr g9 hC;go_wp2_with fail;clear h1;refine Aa (fun w'=>w'.cell? ⟨pw,0,none⟩=some (.slice ta q tc)/\w'.cell? ⟨pw,3,none⟩=some (.bool false)) (fun _=>true) (by kernel_rfl) hS (fun d6=>?_);refine tq 0 (h:=tq 1 (h:=?_));refine Dt (i:=2) (v:=h2) rfl (by kernel_rfl) (fun _ _ _ h=>h) (Or.inl ⟨by rfl,fun w h5=>?_⟩) (by assumption) ?_
   ·refine AdB _ _ _ _ _ rfl ?_;exact tN.out.1 _
   simp only [Act.put,GL,DL,lss];refine tq 3 (h:=tq 4 (h:=tq 5 (h:=tq 6 (h:=tq 7 (h:=?_)))));refine Dt (i:=8) (v:=h3) rfl (by kernel_rfl) (fun _ _ _ h=>h) (Or.inl ⟨by rfl,fun w h5=>?_⟩) (by assumption) ?_
   ·refine AdB _ _ _ _ _ rfl ?_;exact tN.out.2 _
   simp only [Act.put,GL,DL,lss];refine tO 9 (h:=?_);go_wp2_with fail;refine f8.out.mono ?_;rintro e w2 ⟨v,o2,rfl,e3,rfl⟩;have a6:=e0.out.1.none e3;obtain ⟨d0, -, -,Y,-⟩:=a6.2.2.1.cells;have f9:=aI d0 Y;have g0:=ae (Axc a6.2.1 r.out.1);have e4:=ae (aI a6 (e0.out.2.step e3 id));clear e3 a6 d0 Y e0 f8;go_wp2_with fail;refine ⟨fun _=>f9, ?_⟩;refine tq 10 (h:=tq 11 (h:=tq 12 (h:=tq 13 (h:=tq 14 (h:=tq 15 (h:=tO 16 (h:=?_)))))));go_wp2_with fail;refine g0.out.mono ?_;rintro e w3 ⟨v,o3,rfl,e5,lv,kb,rfl,a7⟩;obtain ⟨ka,kc,rfl⟩:=a7.form;rw [r.out.2.2.2.2.2.2];have d7:=e4.out.1.read a9 e5;obtain ⟨d0, -, -,Y,-⟩:=d7.2.2.1.cells;have h6:=aI d0 Y;have j0:=Ap d7.2.2.1.1 0;have a8:=ae (aI d7 (e4.out.2.step e5 (fun (e:0=R+3)=>om)));have j1:=fun W=>He W (.int .u64 (z.s.kept.promised.toNat:Int)) (.int .u64 (z.s.kept.current.toNat:Int)) (.slice ka KL kc);clear e5 a7 d7 d0 Y e4 g0;unfold Dy;go_wp2_with fail;refine ⟨fun _=>h6, ?_⟩;refine tq 17 (h:=tq 18 (h:=tq 19 (h:=tq 20 (h:=tD (h:=?_)))));clear d6 hS f9 tN;go_wp2_with fail
   ·have u:=ae ((a8.out.1).up a9 hU ((a8.out.1).2.2.1.put hU a8.out.2 (by rw [r.out.2.2.2.2.1];omega)).2 ((a8.out.1).2.2.1.put hU a8.out.2 (by rw [r.out.2.2.2.2.1];omega)).1 r.out.2.2.2.1);clear a8;obtain ⟨bl,b1⟩:=az (z.BN.OD);have b6:=ae (Axo u.out.2.1 r.out.1 b1);refine b6.out.mono ?_;rintro e _ ⟨rfl,rfl⟩;clear b6
    cases bl with
    | false =>
     go_wp2_with fail;go_roundw
     case rel=>exact ⟨k+1,_,om,by go_num,ae ⟨_,_,_,_,_,u.out⟩⟩
     case measure=>simp [intOf];omega
    | true =>
     obtain ⟨dd,hd⟩:=az (z.dead);have b7:=ae (AxH u.out.2.1 r.out.1 hd);go_wp2_with fail;refine b7.out.mono ?_;rintro e _ ⟨rfl,rfl⟩;clear b7
     cases dd with
     | true =>
      go_wp2_with fail;go_roundw
      case rel=>exact ⟨k+1,_,om,by go_num,ae ⟨_,_,_,_,_,u.out⟩⟩
      case measure=>simp [intOf];omega
     | false =>
      have b8:=ae (Axc u.out.2.1 r.out.1);have a2:=r.out.2.2.1 hd b1;rw [r.out.2.1] at a2;clear hd b1;go_wp2_with fail;refine b8.out.mono ?_;rintro e w5 ⟨v,o5,rfl,b9,lv,kb,rfl,a7⟩;obtain ⟨e6,e7,rfl⟩:=a7.form;have a3:=u.out.read a9 b9;obtain ⟨E,hE⟩:∃ E:Nat,z.s.kept.current.toNat=E:=⟨_,rfl⟩;rw [hE] at a2;obtain ⟨-,e1, -, -, -, -,f1,f2,-⟩:=a3.2.2.1.cells;obtain ⟨h7,lb,c0,a4⟩:=f1 E;obtain ⟨V,b2,c3,c4⟩:=f2 E;rw [a2] at b2 a4;obtain ⟨h8,h9,i0,i1,c6⟩:=c4 hU;have c7:Hid (∃ truth tv ml O base,AsN w o U R pg pn pw G n a A zs ls cut V o5 truth tv ml O base):=ae ⟨_,_,_,_,_,a3.up a9 hU c3 c6 a3.2.2.2⟩;have c8:=ae c0;have c9:=ae b2;have i2:=fun W=>Axq W (.int .u64 (z.s.kept.promised.toNat:Int)) (.int .u64 (E:Int)) (.slice e6 z.s.kept.lines.length e7);unfold Dy;rw [hE];clear b9 a7 a3 hE f1 f2 c0 b2 c3 c4 c6 b8 u a2
      cases lb with
      | false =>
       clear a4
       go_wp2_with (first
        | ((with_reducible apply DN);exact c8.out;simp only [Act.put,GL,DL,lss])
        | ((with_reducible apply QO);exact c9.out;simp only [Act.put]))
       go_roundw
       case rel=>exact ⟨k+1,_,om,by go_num,c7⟩
       case measure=>simp [intOf];omega
      | true =>
       have e8:=a4 rfl;subst e8;clear a4
       go_wp2_with (first
        | ((with_reducible apply DN);exact c8.out;simp only [Act.put,GL,DL,lss])
        | ((with_reducible apply QO);exact c9.out;simp only [Act.put]))
       go_roundw
       case rel=>exact ⟨k+1,_,om,by go_num,c7⟩
       case measure=>simp [intOf];omega
   ·have u:=ae a8.out.1;clear a8;obtain ⟨bl,b1⟩:=az (z.BN.OD);have b6:=ae (Axo u.out.2.1 r.out.1 b1);refine b6.out.mono ?_;rintro e _ ⟨rfl,rfl⟩;clear b6
    cases bl with
    | false =>
     go_wp2_with fail;go_roundw
     case rel=>exact ⟨k+1,_,om,by go_num,ae ⟨_,_,_,_,_,u.out⟩⟩
     case measure=>simp [intOf];omega
    | true =>
     obtain ⟨dd,hd⟩:=az (z.dead);have b7:=ae (AxH u.out.2.1 r.out.1 hd);go_wp2_with fail;refine b7.out.mono ?_;rintro e _ ⟨rfl,rfl⟩;clear b7
     cases dd with
     | true =>
      go_wp2_with fail;go_roundw
      case rel=>exact ⟨k+1,_,om,by go_num,ae ⟨_,_,_,_,_,u.out⟩⟩
      case measure=>simp [intOf];omega
     | false =>
      have b8:=ae (Axc u.out.2.1 r.out.1);have a2:=r.out.2.2.1 hd b1;rw [r.out.2.1] at a2;clear hd b1;go_wp2_with fail;refine b8.out.mono ?_;rintro e w5 ⟨v,o5,rfl,b9,lv,kb,rfl,a7⟩;obtain ⟨e6,e7,rfl⟩:=a7.form;have a3:=u.out.read a9 b9;obtain ⟨E,hE⟩:∃ E:Nat,z.s.kept.current.toNat=E:=⟨_,rfl⟩;rw [hE] at a2;obtain ⟨-,e1, -, -, -, -,f1,f2,-⟩:=a3.2.2.1.cells;obtain ⟨h7,lb,c0,a4⟩:=f1 E;obtain ⟨V,b2,c3,c4⟩:=f2 E;rw [a2] at b2 a4;obtain ⟨h8,h9,i0,i1,c6⟩:=c4 hU;have c7:Hid (∃ truth tv ml O base,AsN w o U R pg pn pw G n a A zs ls cut V o5 truth tv ml O base):=ae ⟨_,_,_,_,_,a3.up a9 hU c3 c6 a3.2.2.2⟩;have c8:=ae c0;have c9:=ae b2;have i2:=fun W=>Axq W (.int .u64 (z.s.kept.promised.toNat:Int)) (.int .u64 (E:Int)) (.slice e6 z.s.kept.lines.length e7);unfold Dy;rw [hE];clear b9 a7 a3 hE f1 f2 c0 b2 c3 c4 c6 b8 u a2
      cases lb with
      | false =>
       clear a4
       go_wp2_with (first
        | ((with_reducible apply DN);exact c8.out;simp only [Act.put,GL,DL,lss])
        | ((with_reducible apply QO);exact c9.out;simp only [Act.put]))
       go_roundw
       case rel=>exact ⟨k+1,_,om,by go_num,c7⟩
       case measure=>simp [intOf];omega
      | true =>
       have e8:=a4 rfl;subst e8;clear a4
       go_wp2_with (first
        | ((with_reducible apply DN);exact c8.out;simp only [Act.put,GL,DL,lss])
        | ((with_reducible apply QO);exact c9.out;simp only [Act.put]))
       go_roundw
       case rel=>exact ⟨k+1,_,om,by go_num,c7⟩
       case measure=>simp [intOf];omega
  ·have i3:k=n:=om
   subst i3;obtain ⟨b3,tv,ml,O,tb,J⟩:=F.out;obtain ⟨d0, -, -, -,tl,tn,-⟩:=J.2.2.1.cells;obtain ⟨ta,tc,rfl⟩:=tl.form;obtain ⟨q,a5⟩:=az (b3.length);rw [a5] at d0 J tn;have g2:Hid (AsN w o U R pg pn pw G k a A zs ls cut wr oj b3 (.slice ta q tc) ml O tb):=ae J;have i4:=ae a5;have j2:(0:Int)<=(q:Int)/\(q:Int)<=256:=om
   clear F J tl tn a5 d4 d0;go_wp2_with fail
   go_loopw [12] (fun i wr=>∃ (j:Nat) (oq:Own),j<=q/\i = .int .i64 j/\Hid (AsN w o U R pg pn pw G k a A zs ls cut wr oq b3 (.slice ta q tc) ml O tb)) (fun i _=>q - (intOf i).toNat)
   case atStart=>exact ⟨0,oj,Nat.zero_le _,rfl,g2⟩
   case round =>
    clear g2;obtain ⟨j,oq,hj,rfl,F⟩:=hrel;obtain ⟨d0, -,d2,Y,tl, -, -, -,f3,-⟩:=F.out.2.2.1.cells
    by_cases d4:j<q
    ·have g8:(0:Int)<=(j:Int)/\(j:Int)<(q:Int):=om
     obtain ⟨x,hx⟩:∃ x,b3[j]?=some x:=⟨_,List.getElem?_eq_getElem (by rw [i4.out];exact d4)⟩;have g3:x.b ∈ A:=F.out.2.2.2.said F.out.2.1.2.2.2.ps x (List.mem_of_getElem? hx);have dr:aj ai wr oq wr.drew oq:=(aj.refl ai wr oq).drew;have a6:=F.out.none dr;obtain ⟨g4, -,g5, -,g6, -, -, -,g7,-⟩:=a6.2.2.1.cells;obtain ⟨b,off,bv,rfl,r1,y1,-⟩:=g6.at hx;have c1:=CY y1;have g1:=g7 x.b g3;have c2:=r1 1 _ rfl;obtain ⟨X,hX⟩:=az (x.b);rw [hX] at c1 g1;have hS:=aI g4 (aI g5 (aI (show wr.drew.cell? ⟨b,off+j*2+1,none⟩=some bv from c2) (aI c1 g1)));have hF:=ae a6;clear dr a6 g4 g5 g6 g7 r1 y1 c1 g1 c2 hX g3 hx d2 Y f3 tl F;go_wp2_with fail;refine Aa (fun w'=>w'.cell? ⟨pw,0,none⟩=some (.slice (some ⟨b,off,none⟩) q tc)/\w'.cell? ⟨pw,2,none⟩=some (.map (some O))/\w'.cell? ⟨b,off+j*2+1,none⟩=some bv/\(convert 29 9 bv).run prog w' = .ok (.string ⟨X.toArray⟩) w'/\(Instr.lookup 47 (.map (some O)) (.string ⟨X.toArray⟩) false).run prog w' = .ok (.bool true) w') (fun _=>true) (by kernel_rfl) hS (fun d6=>?_);refine tq 0 (h:=tq 1 (h:=tq 2 (h:=tq 3 (h:=tq 4 (h:=tq 5 (h:=tq 6 (h:=tq 7 (h:=tq 8 (h:=tq 9 (h:=tq 10 (h:=tq 11 (h:=tq 12 (h:=tO 13 (h:=?_))))))))))))));go_wp2_with fail;refine ⟨fun _=>d6, ?_⟩;refine tq 14 (h:=tD (h:=?_));clear d6 hS;go_wp2_with fail;go_roundw
     case rel=>exact ⟨j+1,_,om,by go_num,hF⟩
     case measure=>simp [intOf];omega
    ·obtain rfl:j=q:=om
     go_wp2_with fail
     go_end0
     exact ⟨_,_,rfl,F.out.1,rfl,F.out.2.1,_,⟨_,_,_,_,F.out.2.2.1⟩,F.out.2.2.2⟩
end
section
variable {w w':World}{o o':Own}{R U pg pn pw n:Nat}{G:Gh}{zs:List Am}{ls:List (Nat × Nat × BG)}{cut:List (Nat × Nat × Bool)}
def AxC (w:World) (o:Own) (U R pg pn pw n:Nat) (av:Value) (l:List AbF) (W:World) (oW:Own) (k:Nat) (A:List (List UInt8)):Prop:=
 ∃ G zs ls cut truth,aj (From U) w o W oW/\VW W oW av l/\SAt W oW R pg pn G n k A zs ls cut/\WAt W oW U pw n A truth/\G.Ary n truth
theorem Axy (a8:U<R) (hU:U ≠ 0) (h:SAt w o R pg pn G n 0 [] zs ls cut) (hw:WAt w o U pw n [] []){aa:Option Addr}{L O:Nat}{l:List AbF}(hA:VW w o (.slice aa L O) l) (hl:l.length=L) (hL:L<=200) (hg:∀ x ∈ l,x.b.length<=60) :
  Calls prog 22 #[.pointer (some ⟨pg,0,none⟩), .pointer (some ⟨pw,0,none⟩), .int .i64 (n:Int), .slice aa L O] w (XL (From U) w o fun v _ _=>v = .bool true):=by
 have hI:Hid (∃ A,AxC w o U R pg pn pw n (.slice aa L O) l w o 0 A):=ae ⟨[],_,_,_,_,_,aj.refl _ _ _,hA,h,hw, .nil G h.2.2.2.n1⟩;have f5:=ae (aI hl hg);have h1:(0:Int)<=(L:Int)/\(L:Int)<=200:=om
 have hz:¬ From U 0:=by show ¬ U<=0;omega
 have g0:¬ EN U U:=by show ¬ U<U;omega
 have f6:¬ EN U 0:=by show ¬ U<0;omega
 clear h hw hA hl hg;go_enter func22,ntmps22;go_wp2_with fail
 go_loopw [9] (fun i wr=>∃ (k:Nat) (oj:Own),k<=L/\i = .int .i64 k/\Hid (∃ A,AxC w o U R pg pn pw n (.slice aa L O) l wr oj k A)) (fun i _=>L - (intOf i).toNat)
 case atStart=>exact ⟨0,o,Nat.zero_le _,rfl,hI⟩
 case round =>
  clear hI;obtain ⟨k,oj,hk,rfl,hr⟩:=hrel
  by_cases g1:k<L
  ·have h3:(0:Int)<=(k:Int)/\(k:Int)<(L:Int):=om
   obtain ⟨x,hx⟩:∃ x,l[k]?=some x:=⟨_,List.getElem?_eq_getElem (by rw [f5.out.1];exact g1)⟩;obtain ⟨A,G1,g2,g3,g4,a5,a9,hA,hs,hw,ht⟩:=hr.out;obtain ⟨b,off,bv,fv,rfl,F,b1,b9,c6,f0,f1⟩:=hA.at hx;obtain ⟨ba,bc,rfl⟩:=Aq b1;obtain ⟨fa,fc,rfl⟩:=Aq b9;have c7:=f5.out.2 x (List.mem_of_getElem? hx);have c8:=AxO a8 hs om c6 b1 c7 b9;unfold AbM at c8 F;obtain ⟨bn,b3⟩:=az (x.b.length);obtain ⟨fn,f7⟩:=az (x.f.length);have c0:wr.cell? ⟨b,off+k*6,none⟩=some (.int .u8 (x.k:Int)):=by have:=F 0 _ rfl;rwa [Nat.add_zero] at this
   have c1:wr.cell? ⟨b,off+k*6+1,none⟩=some (.int .i64 x.i):=F 1 _ rfl;have c2:wr.cell? ⟨b,off+k*6+2,none⟩=some (.int .i64 x.j):=F 2 _ rfl;have c3:wr.cell? ⟨b,off+k*6+3,none⟩=some (.int .i64 x.n):=F 3 _ rfl;have c4:wr.cell? ⟨b,off+k*6+4,none⟩=some (.slice ba x.b.length bc):=F 4 _ rfl;have c5:wr.cell? ⟨b,off+k*6+5,none⟩=some (.slice fa x.f.length fc):=F 5 _ rfl;rw [b3] at c4 c8;rw [f7] at c5 c8;have f8:=ae c8;have hF:=ae (aI a9 (aI hA (aI hw (aI ht (aI hx (aI c7 b3))))));have h5:(0:Int)<=(x.k:Int)/\(x.k:Int)<256:=by have:=c6.k;omega
   clear a9 hA hs hw ht F b1 b9 c6 f0 f1 c7 b3 f7 hr hx c8;go_wp2_with fail;refine f8.out.mono ?_;rintro e u ⟨v,o1,rfl,e4,er,rfl,G2,e5,e6,e7,hT,a4⟩;obtain ⟨a9,hA,hw,ht,hx,c7,b3⟩:=hF.out;have b4:=hA.step e4 f6;have a6:=hw.step e4 g0 f6;have b7:=hT _ ht;have b8:=a9.trans (e4.mono (T':=From U) fun k (hk:U<k)=>Nat.le_of_lt hk);obtain ⟨b2,h6,h7,h8,e2,F,b1,b9,c6,f0,f1⟩:=b4.at hx
   cases e2
   obtain ⟨b5,b6,rfl⟩:=Aq b1;rw [b3] at F;have e8:=b1;unfold AbM at F;have k0:u.cell? ⟨b,off+k*6,none⟩=some (.int .u8 (x.k:Int)):=by have:=F 0 _ rfl;rwa [Nat.add_zero] at this
   have k4:u.cell? ⟨b,off+k*6+4,none⟩=some (.slice b5 bn b6):=F 4 _ rfl;clear a9 hA hw ht hx c7 e4 hT F b9 c6 f0 f1 b1 c0 c1 c2 c3 c4 c5 f8
   by_cases hq:x.k % 11=5
   ·have g5:IntKind.u8.wrap ((x.k:Int) % 11)=5:=by
     have:(x.k:Int) % 11=5:=om
     rw [this];rfl
    have g6:(x.k:Int) % 11=5:=om
    rw [AwE er hq] at a4;clear hq
    by_cases he:er=0 \/ er=9
    ·rw [if_pos he] at a4;obtain ⟨h9,i0,f9,i1,a6⟩:=a6;obtain ⟨-, -,d2, -, -, -, -, -, -,f4⟩:=a6.cells;have e9:=ae (aI a6 (aI e8 (aI b8 (aI b4 (aI a4 b7)))));have g7:=d2;clear f4 d2 g7 a6 e8 b8 b4 a4 b7;rcases he with rfl | rfl
     ·have J:aj ai u o1 u.drew o1:=(aj.refl ai u o1).drew;obtain ⟨c9,d1,d4,d5,d6,d7⟩:=e9.out;have d8:=c9.step J id id;obtain ⟨-, -,d2, -, -, -, -, -, -,f4⟩:=d8.cells;obtain ⟨V,d9,a7,e0⟩:=f4 x.b;have c1:=CY (d1.step J id);rw [b3] at c1;have hS:=aI d2 (aI (show u.drew.cell? ⟨b,off+k*6+4,none⟩=some (.slice b5 bn b6) from k4) c1);have e3:=ae d9;have hP:Hid (aj (From U) w o V o1/\VW V o1 (.slice (some ⟨b,off,none⟩) L O) l/\SAt V o1 R pg pn G2 n (k+1) (x.b :: A) e5 e6 e7/\WAt V o1 U pw n (x.b :: A) a5/\G2.Ary n a5):=ae ⟨(d4.trans (J.mono fun _ h=>h.elim)).trans (a7.mono fun k (hk:k=U)=>by show U<=k;omega),(d5.step J id).step a7 (fun e=>hU (Eq.symm e)),(d6.step0 J).AxF a7 a8 hU,e0 hU,d7⟩;clear J c9 d1 d4 d5 d6 d7 d8 d2 f4 d9 a7 e0 c1 e9;go_wp2_with fail;refine Aa (fun w'=>w'.cell? ⟨pw,2,none⟩=some (.map (some f9))/\w'.cell? ⟨b,off+k*6+4,none⟩=some (.slice b5 bn b6)/\(convert 29 9 (.slice b5 bn b6)).run prog w' = .ok (.string ⟨x.b.toArray⟩) w') (fun i=>decide (i<10)) (by kernel_rfl) hS (fun f2=>?_);refine tq 0 (h:=tq 1 (h:=tq 2 (h:=tq 3 (h:=tq 4 (h:=tq 5 (h:=tq 6 (h:=tq 7 (h:=tq 8 (h:=tq 9 (h:=tO 10 (h:=?_)))))))))));refine QO e3.out ?_;go_wp2_with fail;refine ⟨fun h=>by simp at h, ?_⟩;refine tD (h:=?_);clear f2 hS e3;have W:=ae (AsR a8 hU hP.out.2.2.1 hP.out.2.2.2.1 hP.out.2.2.2.2);go_wp2_with fail;refine W.out.mono ?_;rintro e Y ⟨v,oY,rfl,E,rfl,a2,f3,r,a3⟩;obtain ⟨tv,ml,ma,tb,r⟩:=r;obtain ⟨-, -, -,d3,-⟩:=r.cells;have hE:Hid (∃ A,AxC w o U R pg pn pw n (.slice (some ⟨b,off,none⟩) L O) l Y oY (k+1) A):=ae ⟨_,_,_,_,_,_,hP.out.1.trans E,hP.out.2.1.step E hz,a2,⟨_,_,_,_,r⟩,a3⟩;clear E a2 r a3 W hP;go_wp2_with fail;go_roundw
      case rel=>exact ⟨k+1,oY,om,by go_num,hE⟩
      case measure=>simp [intOf];omega
     ·have J:aj ai u o1 u.drew o1:=(aj.refl ai u o1).drew;obtain ⟨c9,d1,d4,d5,d6,d7⟩:=e9.out;have d8:=c9.step J id id;obtain ⟨-, -,d2, -, -, -, -, -, -,f4⟩:=d8.cells;obtain ⟨V,d9,a7,e0⟩:=f4 x.b;have c1:=CY (d1.step J id);rw [b3] at c1;have hS:=aI d2 (aI (show u.drew.cell? ⟨b,off+k*6+4,none⟩=some (.slice b5 bn b6) from k4) c1);have e3:=ae d9;have hP:Hid (aj (From U) w o V o1/\VW V o1 (.slice (some ⟨b,off,none⟩) L O) l/\SAt V o1 R pg pn G2 n (k+1) (x.b :: A) e5 e6 e7/\WAt V o1 U pw n (x.b :: A) a5/\G2.Ary n a5):=ae ⟨(d4.trans (J.mono fun _ h=>h.elim)).trans (a7.mono fun k (hk:k=U)=>by show U<=k;omega),(d5.step J id).step a7 (fun e=>hU (Eq.symm e)),(d6.step0 J).AxF a7 a8 hU,e0 hU,d7⟩;clear J c9 d1 d4 d5 d6 d7 d8 d2 f4 d9 a7 e0 c1 e9;go_wp2_with fail;refine Aa (fun w'=>w'.cell? ⟨pw,2,none⟩=some (.map (some f9))/\w'.cell? ⟨b,off+k*6+4,none⟩=some (.slice b5 bn b6)/\(convert 29 9 (.slice b5 bn b6)).run prog w' = .ok (.string ⟨x.b.toArray⟩) w') (fun i=>decide (i<10)) (by kernel_rfl) hS (fun f2=>?_);refine tq 0 (h:=tq 1 (h:=tq 2 (h:=tq 3 (h:=tq 4 (h:=tq 5 (h:=tq 6 (h:=tq 7 (h:=tq 8 (h:=tq 9 (h:=tO 10 (h:=?_)))))))))));refine QO e3.out ?_;go_wp2_with fail;refine ⟨fun h=>by simp at h, ?_⟩;refine tD (h:=?_);clear f2 hS e3;have W:=ae (AsR a8 hU hP.out.2.2.1 hP.out.2.2.2.1 hP.out.2.2.2.2);go_wp2_with fail;refine W.out.mono ?_;rintro e Y ⟨v,oY,rfl,E,rfl,a2,f3,r,a3⟩;obtain ⟨tv,ml,ma,tb,r⟩:=r;obtain ⟨-, -, -,d3,-⟩:=r.cells;have hE:Hid (∃ A,AxC w o U R pg pn pw n (.slice (some ⟨b,off,none⟩) L O) l Y oY (k+1) A):=ae ⟨_,_,_,_,_,_,hP.out.1.trans E,hP.out.2.1.step E hz,a2,⟨_,_,_,_,r⟩,a3⟩;clear E a2 r a3 W hP;go_wp2_with fail;go_roundw
      case rel=>exact ⟨k+1,oY,om,by go_num,hE⟩
      case measure=>simp [intOf];omega
    ·rw [if_neg he] at a4;have hP:Hid (aj (From U) w o u o1/\VW u o1 (.slice (some ⟨b,off,none⟩) L O) l/\SAt u o1 R pg pn G2 n (k+1) (A) e5 e6 e7/\WAt u o1 U pw n (A) a5/\G2.Ary n a5):=ae ⟨b8,b4,a4,a6,b7⟩;have i2:(er == 0)=false:=by simpa using fun h=>he (.inl h)
     have i3:(er == 9)=false:=by simpa using fun h=>he (.inr h)
     clear b8 b4 a4 a6 b7 he e8;have W:=ae (AsR a8 hU hP.out.2.2.1 hP.out.2.2.2.1 hP.out.2.2.2.2);go_wp2_with fail;refine W.out.mono ?_;rintro e Y ⟨v,oY,rfl,E,rfl,a2,f3,r,a3⟩;obtain ⟨tv,ml,ma,tb,r⟩:=r;obtain ⟨-, -, -,d3,-⟩:=r.cells;have hE:Hid (∃ A,AxC w o U R pg pn pw n (.slice (some ⟨b,off,none⟩) L O) l Y oY (k+1) A):=ae ⟨_,_,_,_,_,_,hP.out.1.trans E,hP.out.2.1.step E hz,a2,⟨_,_,_,_,r⟩,a3⟩;clear E a2 r a3 W hP;go_wp2_with fail;go_roundw
     case rel=>exact ⟨k+1,oY,om,by go_num,hE⟩
     case measure=>simp [intOf];omega
   ·have g5:¬ IntKind.u8.wrap ((x.k:Int) % 11)=5:=by
     have h2:IntKind.u8.wrap ((x.k:Int) % 11)=(x.k:Int) % 11:=by
      have:∃ q:Nat,q<11/\(x.k:Int) % 11=(q:Int):=⟨x.k % 11,om,om⟩;obtain ⟨q,g8,g9⟩:=this;rw [g9];have:∀ q:Nat,q<11->IntKind.u8.wrap (q:Int)=(q:Int):=by decide
      exact this q g8
     rw [h2];omega
    have g6:¬ (x.k:Int) % 11=5:=om
    rw [ArD er hq] at a4;have hP:Hid (aj (From U) w o u o1/\VW u o1 (.slice (some ⟨b,off,none⟩) L O) l/\SAt u o1 R pg pn G2 n (k+1) (A) e5 e6 e7/\WAt u o1 U pw n (A) a5/\G2.Ary n a5):=ae ⟨b8,b4,a4,a6,b7⟩;clear b8 b4 a4 a6 b7 hq e8;have W:=ae (AsR a8 hU hP.out.2.2.1 hP.out.2.2.2.1 hP.out.2.2.2.2);go_wp2_with fail;refine W.out.mono ?_;rintro e Y ⟨v,oY,rfl,E,rfl,a2,f3,r,a3⟩;obtain ⟨tv,ml,ma,tb,r⟩:=r;obtain ⟨-, -, -,d3,-⟩:=r.cells;have hE:Hid (∃ A,AxC w o U R pg pn pw n (.slice (some ⟨b,off,none⟩) L O) l Y oY (k+1) A):=ae ⟨_,_,_,_,_,_,hP.out.1.trans E,hP.out.2.1.step E hz,a2,⟨_,_,_,_,r⟩,a3⟩;clear E a2 r a3 W hP;go_wp2_with fail;go_roundw
    case rel=>exact ⟨k+1,oY,om,by go_num,hE⟩
    case measure=>simp [intOf];omega
  ·obtain rfl:k=L:=om
   obtain ⟨A,G1,g2,g3,g4,a5,a9,-⟩:=hr.out;go_wp2_with fail;go_ret;exact ⟨_,_,rfl,a9,rfl⟩
end
namespace Gh
def zero:Gh:={ L:=fun _=>[],I:=fun e=>if e=0 then some 0 else none,V:=fun _ _=>none,A:=fun _ _=>0,Q:=fun _ _=>false }
theorem Axb {e b:Nat}(h:zero.I e=some b):e=0/\b=0:=by
 have q:(if e=0 then some 0 else none)=some b:=h
 split at q
 ·rename_i he;cases q
  exact ⟨he,rfl⟩
 ·cases q
theorem AxR (n:Nat):zero.Ok n:=by
 refine ⟨⟨rfl,rfl⟩,fun e b h=>?_,fun _ _ _=>rfl,fun _ _=>Nat.zero_le _,fun e i v h=>?_,fun e b q h=>absurd (Axb h).1 q⟩
 ·rw [(Axb h).2];exact Nat.zero_le _
 ·cases h
theorem AxD {pages:Nat}(r:1<=n) (E:n<=3) (hp:8<=pages) (J:pages<=398) (P:List UInt8->Prop):zero.Sys n 0 P (Ahz n pages n) []:=by
 refine ⟨AxR n,fun e x u=>?_,AeN _ _ _,r,E,fun i z q=>?_,by simp,fun x u=>by simp at u⟩
 ·have:x ∈ ([]:List Ar):=u;simp at this
 ·have F:i<n:=by
   have:=(List.getElem?_eq_some_iff.1 q).1;rw [AeN] at this;exact this
  unfold Ahz at q;rw [List.getElem?_map,List.getElem?_range F] at q
  cases q
  refine ⟨rfl,Nat.zero_le _,by show pages / 2<=199;omega, .inl ⟨0,⟨.new hp om,⟨⟨Nat.le_refl _,⟨0,rfl,Nat.zero_le _⟩,rfl,rfl,fun _ _=>rfl,fun e v h=>?_,fun e b _ h=>?_⟩,trivial, .zero _ r _ _⟩,Aj.TB r E F (.nil _) (Nat.le_refl _) (by show (0:BitVec 64).toNat<=_;decide),rfl⟩,fun _=>Nat.zero_le _,fun h=>?_⟩⟩
  ·cases h
  ·rw [(Axb h).1];exact Nat.zero_le _
  ·exact absurd h (by show ¬ (0:Int) <= -1;omega)
end Gh
theorem AyB {M0 R:Nat}(u:M0<R) (n pages:Nat) (q:1<=n) (r:n<=3) (hp:8<=pages) (E:pages<=398) (w:World) (o:Own) :
  Calls prog 9 #[.int .i64 (n:Int), .int .i64 (pages:Int)] w (XL (EN M0) w o fun v w' o'=>∃ pg pn,v = .tuple #[.pointer (some ⟨pg,0,none⟩), .int .i64 0]/\SAt w' o' R pg pn Gh.zero n 0 [] (Ahz n pages n) [] []):=by
 refine (Aky u n pages q r hp om w o).mono ?_;rintro e w' ⟨v,o',rfl,F,pg,pn,xs,rfl,J,O⟩;exact ⟨_,o',rfl,F,pg,pn,rfl,⟨xs,J⟩,om,by simp,Gh.AxD q r hp E _⟩
theorem MI:ownKnob prog.godebug=none:=by kernel_rfl
theorem Jl:laidOutB prog=true:=by kernel_rfl

end Go.Proofs.YtffkdillijmamaaGreat
