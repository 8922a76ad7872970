/- The tries of layer 8's laws: how they are read; a row of tags above a bound. -/
import Derived.Deep.AppendSrc
import Derived.Test.YtffkdillijmamaaGreatGj1
import Derived.Test.YtffkdillijmamaaGreatGj2
import Derived.Test.YtffkdillijmamaaGreatGj4
namespace Go.Proofs.YtffkdillijmamaaGreat
open Go.Proofs.Tryz
set_option maxRecDepth 100000
set_option maxHeartbeats 3200000
open Go Go.RowKit
attribute [local go_sem ↓] Go.wp_at_zero Go.wp_at_succ
structure Zl where
 reset:Bool
 b:UInt8
 n:Int
 bG:Int
namespace Zl
def cells (a:Zl):List Value:=[.bool a.reset, .int .u8 (a.b.toNat:Int), .int .u16 a.n, .int .u8 a.bG]
def ok (a:Zl):Prop:=(0<=a.n/\a.n<=65535)/\0<=a.bG/\a.bG<=255
def text (a:Zl):List UInt8:=iJ a.b (a.n % 3000).toNat
end Zl
def iZ (w:World) (o:Own) (v:Value) (l:List Zl):Prop:=
 ((∃ a c,v = .slice a 0 c)/\l=[]) \/ ∃ b off cap,v = .slice (some ⟨b,off,none⟩) l.length cap/\l.length<=cap/\cap<=maxLen/\(o b).1=0/\b<w.heap.size /\
  ∀ i (h:i<l.length),w.rangeAt b (off+i*4) l[i].cells/\l[i].ok
section
variable {H:Type}{enc:TypeId × Value->H}{W:World}
end
def EN (M:Nat):Nat->Prop:=fun k=>M<k
section
variable {M:Nat}{w w1:World}{o o1:Own}
theorem aj.LW (h:aj ai w o w1 o1):aj (EN M) w o w1 o1:=h.mono fun _r q=>q.elim
theorem aj.Hm (h:aj (EN M) w o w1 o1) (r:∀ k,k<w.heap.size->(o k).1<=M):aj ai w o w1 o1:=
 ⟨h.os,h.tape,h.output,h.size,h.own,fun k q _=>h.block k q (fun u=>by have:=r k q;change M<_ at u;omega)⟩
end
namespace Ad
theorem PP (f k:Nat):AY f (List.replicate k Af.blank)=raw f k 0:=by
 unfold AY raw;rw [TJ,MN,List.length_replicate];rfl
theorem Ti:DZ 0 Af.blank:=⟨by decide +kernel,by decide +kernel,by decide +kernel,by decide +kernel⟩
theorem UC (k f n:Nat) (h:f+n<=k):Aw (Af.new k) f n=List.replicate n Af.blank:=by
 refine Gx (by simp) fun j q => ?_;rw [List.getElem?_replicate,if_pos q];simp [Af.seen,Af.seenIn,Af.new,show f+j<k by omega]
theorem fB {k:Nat}(q:1<=k) (r:k<=4096):(Af.new k).wf:=by
 refine ⟨by simpa [Af.new] using q,by simpa [Af.new] using r,fun p hp => ?_,by simp [Af.new],by simp [Af.new],by simp [Af.new]⟩;rw [List.eq_of_mem_replicate hp];exact MV
theorem VF {k f n:Nat}(h:f+n<=k) (hn:2<=n) (q:k<=4096):Good 0 (raw f n 0,Af.new k):=by
 refine ⟨rfl,rfl,⟨?_,by show f+n<=(Af.new k).pages.length;simpa [Af.new] using h,hn,fB om q⟩,fun j r => ?_⟩
 ·show raw f n 0=AY f (Aw (Af.new k) f n);rw [UC k f n h,PP]
 ·have u:j<n:=r;have:(Af.new k).seen (f+j)=Af.blank:=by simp [Af.seen,Af.seenIn,Af.new,show f+j<k by omega]
  show DZ 0 ((Af.new k).seen (f+j));rw [this];exact Ti
theorem Good.mono {K K':Nat}{s:Ad × Af}(h:Good K s) (q:K<=K'):Good K' s:=⟨h.dd,h.row,h.fine,fun j r=>(h.pg j r).mono q⟩
structure jF (K:Nat) (a b:Ad) (d:Af) (s:Ad × Af):Prop where
 ga:Good K (a,d)
 gb:Good K (b,d)
 gs:Good K s
 ld:d.left<0
 ls:s.2.left<0
 fa:a.first=0/\a.n=8
 fb:b.first=8/\b.n=8
 fs:s.1.n=8
 re:s.1.records=a.records/\s.1.end'=a.end'
end Ad
section
variable {w:World}{o:Own}{L D p pd:Nat}{s:Ad × Af}
end
def Qi (W:World) (o:Own) (t:Nat × Nat):Own:=fun k=>if k<W.heap.size then o k else t
theorem aj.retag {T:Nat->Prop}{w w':World}{o o':Own}(q:aj T w o w' o') (t:Nat × Nat):aj T w o w' (Qi w o t):=⟨q.os,q.tape,q.output,q.size,fun _ r=>if_pos r,q.block⟩
theorem VM {W:World}{o:Own}{t:Nat × Nat}{k:Nat}(h:W.heap.size<=k):Qi W o t k=t:=if_neg om
section
variable {P:Program}{ops:Array Oper}{Q:Exit->Act->World->Prop}{md:Region.Mode}{S:World->Prop}{need:Nat->Bool}
def Shut (md:Region.Mode) (ops:Array Oper) (idx:List Nat) (s:List Bool):Prop:=∀ (k i:Nat),s[k]?=some true->idx[k]?=some i->∀ (j i':Nat),idx[j]?=some i'->JF md ops i i'=true->s[j]?=some true
def iC (md:Region.Mode) (ops:Array Oper) (idx:List Nat) (s:List Bool):Bool:=
 idx.zipIdx.all fun x=>idx.zipIdx.all fun y => !(s.getD x.2 false) || !(JF md ops x.1 y.1) || s.getD y.2 false
def iW (md:Region.Mode) (ops:Array Oper) (l:Array Bool) (idx:List Nat) (AcB:List Nat):Bool:=
 (idx.length == AcB.length) && decide idx.Nodup && decide AcB.Nodup && (idx.all fun i => !l.getD i false) && ((idx.zip AcB).all fun x=>match ops[x.1]? with | some o=>o.dst == some x.2 | none=>false) &&
 (Gw idx.length).all fun s => !(iC md ops idx s) || (s.all (fun b=>b) || (let rd:=Region.ready md ops (CS l idx s); !rd.isEmpty && rd.all (fun i=>idx.contains i)))
end
theorem JX {w:World}{b b' e size n:Nat}{v:Value}{xs:List Value}(h:w.ownsRow b e size v n xs) (hb:b'<=b):w.ownsRow b' e size v n xs:=by
 refine ⟨h.1, ?_⟩
 rcases h.2 with hn | ⟨g,cap,cur,rfl,q,r⟩
 ·exact .inl hn
 ·exact .inr ⟨g,cap,cur,rfl,Nat.le_trans hb q,r⟩
namespace Ad
theorem Good.bG {K:Nat}{l:Ad}{d:Af}(h:Good K (l,d)) (n:Int) (hn:n<=9223372036854775807):Good K (l,d.bG n):=by
 have q:d.dead=false:=h.dd;have e:d.bG n={ d with left:=max (-1) n }:=by unfold Af.bG;rw [q];rfl
 obtain ⟨h1,r,⟨u,h4,E,F⟩,J⟩:=h;rw [e];refine ⟨q,r,⟨u,h4,E, ?_⟩,J⟩;obtain ⟨O,U,W,Y,q5,q6⟩:=F;exact ⟨O,U,W,Y,by show -1<=max (-1) n;omega,by show max (-1) n<=_;omega⟩
theorem _root_.Go.Proofs.YtffkdillijmamaaGreat.Af.Axl (d:Af) (n:Int):(d.bG n).pages=d.pages:=by unfold Af.bG;split <;> rfl
end Ad
structure Ar where
 e:BitVec 64
 b:List UInt8
def CV (base:Nat) (v:Value):Prop:=∀ k,v.ownBlock=some k->base<=k
theorem CV.zero (v:Value):CV 0 v:=fun _ _=>Nat.zero_le _
theorem CV.low {a b:Nat}{v:Value}(h:CV a v) (hb:b<=a):CV b v:=fun k q=>Nat.le_trans hb (h k q)
theorem CV.own {w:World}{base b e size n:Nat}{v:Value}{xs:List Value}(h:w.ownsRow b e size v n xs) (hb:base<=b):CV base v:=fun k q=>Nat.le_trans hb (h.lt k q).1
theorem CV.int (base:Nat) (k:IntKind) (n:Int):CV base (.int k n):=fun k q=>by simp [Value.ownBlock] at q
theorem CV.nil (base:Nat) (n c:Nat):CV base (.slice none n c):=fun k q=>by simp [Value.ownBlock] at q
def sW (w:World) (o:Own) (cs:List Value) (ls:List Ar):Prop:=
 cs.length=2*ls.length/\∀ i x,ls[i]?=some x->cs[2*i]?=some (.int .u64 (x.e.toNat:Int))/\∃ bv,cs[2*i+1]?=some bv/\Bytes w o bv x.b
theorem sW.step {T:Nat->Prop}{w w':World}{o o':Own}{cs:List Value}{ls:List Ar}(h:sW w o cs ls) (s:aj T w o w' o') (q:¬ T 0):sW w' o' cs ls:=
 ⟨h.1,fun i x r=>by
  obtain ⟨u,bv,E,F⟩:=h.2 i x r;exact ⟨u,bv,E,F.step s q⟩⟩
theorem sW.nil (w:World) (o:Own):sW w o [] []:=⟨rfl,by simp⟩
theorem sW.one {w:World}{o:Own}{cs:List Value}{ls:List Ar}(h:sW w o cs ls):∀ u ∈ cs,u.oneCell'=true:=by
 intro u F;obtain ⟨j,q⟩:=List.mem_iff_getElem?.1 F;have U:=(List.getElem?_eq_some_iff.1 q).1;have J:j / 2<ls.length:=by have:=h.1;omega
 obtain ⟨r,bv,E,O⟩:=h.2 (j / 2) _ (List.getElem?_eq_getElem J)
 by_cases hp:2*(j / 2)=j
 ·rw [hp,q] at r;cases r;rfl
 ·have hq:2*(j / 2)+1=j:=om
  rw [hq,q] at E;cases E;obtain ⟨a,c,rfl⟩:=Aq O;rfl
theorem sW.append {w:World}{o:Own}{c1 c2:List Value}{q E:List Ar}(r:sW w o c1 q) (F:sW w o c2 E):sW w o (c1++c2) (q++E):=by
 refine ⟨by simp [r.1,F.1];omega,fun i x u => ?_⟩
 by_cases J:i<q.length
 ·rw [List.getElem?_append_left J] at u;obtain ⟨a,bv,b,c⟩:=r.2 i x u;have:=r.1;exact ⟨by rw [List.getElem?_append_left om];exact a,bv,by rw [List.getElem?_append_left om];exact b,c⟩
 ·rw [List.getElem?_append_right om] at u;obtain ⟨a,bv,b,c⟩:=F.2 _ x u;have:=r.1;refine ⟨?_,bv, ?_,c⟩
  ·rw [List.getElem?_append_right om,show 2*i - c1.length=2*(i - q.length) from by omega];exact a
  ·rw [List.getElem?_append_right om,show 2*i+1 - c1.length=2*(i - q.length)+1 from by omega];exact b
theorem sW.single {w:World}{o:Own}{bv:Value}(x:Ar) (h:Bytes w o bv x.b):sW w o [.int .u64 (x.e.toNat:Int),bv] [x]:=by
 refine ⟨rfl,fun i y q => ?_⟩
 cases i with
 | zero=>simp only [ay,Option.some.injEq] at q;subst q;exact ⟨rfl,bv,rfl,h⟩
 | succ i=>simp at q
def Lines (w:World) (o:Own) (base:Nat) (v:Value) (ls:List Ar):Prop:=∃ cs,sH w o v ls.length cs/\sW w o cs ls/\CV base v/\∀ u ∈ cs,CV base u
theorem Lines.step {T:Nat->Prop}{w w':World}{o o':Own}{base:Nat}{v:Value}{ls:List Ar}(h:Lines w o base v ls) (s:aj T w o w' o') (q:¬ T 0):Lines w' o' base v ls:=by
 obtain ⟨r,u,E,F,h4⟩:=h;exact ⟨r,u.step s q,E.step s q,F,h4⟩
theorem Lines.low {w:World}{o:Own}{base b:Nat}{v:Value}{ls:List Ar}(h:Lines w o base v ls) (hb:b<=base):Lines w o b v ls:=by
 obtain ⟨q,r,E,F,h4⟩:=h;exact ⟨q,r,E,F.low hb,fun u J=>(h4 u J).low hb⟩
theorem Lines.nil (w:World) (o:Own) (base:Nat):Lines w o base (.slice none 0 0) []:=⟨[], .inl ⟨⟨_,_,rfl⟩,rfl,rfl⟩,sW.nil w o,CV.nil _ _ _,by simp⟩
theorem Lines.form {w:World}{o:Own}{base:Nat}{v:Value}{ls:List Ar}(h:Lines w o base v ls):∃ a c,v = .slice a ls.length c:=by
 obtain ⟨r,q, -⟩:=h;exact Aq q
theorem Lines.at {w:World}{o:Own}{base:Nat}{a:Option Addr}{n c:Nat}{ls:List Ar}(h:Lines w o base (.slice a n c) ls) {i:Nat}{x:Ar}(r:ls[i]?=some x) :
  ∃ b off bv,a=some ⟨b,off,none⟩/\w.rangeAt b (off+i*2) [.int .u64 (x.e.toNat:Int),bv]/\Bytes w o bv x.b/\CV base bv/\b<w.heap.size/\(o b).1=0:=by
 obtain ⟨W,E,F,Y,h4⟩:=h;have hi:=(List.getElem?_eq_some_iff.1 r).1;obtain ⟨k1,bv,k2,J⟩:=F.2 i x r
 rcases E with ⟨_,h0, -⟩ | ⟨b,off,cap,hv,y1,y2,O,U,u⟩
 ·omega
 ·simp only [Value.slice.injEq] at hv;obtain ⟨rfl,rfl,rfl⟩:=hv;refine ⟨b,off,bv,rfl,fun j v q => ?_,J,h4 bv (List.mem_of_getElem? k2),U,O⟩
  match j with
  | 0=>simp only [ay,Option.some.injEq] at q;subst q;have:=u _ _ k1;rw [Nat.mul_comm] at this;exact this
  | 1=>simp only [ax,ay,Option.some.injEq] at q;subst q;have:=u _ _ k2;rw [Nat.mul_comm, <-Nat.add_assoc] at this;exact this
  | j+2=>simp at q
def Ar.enc (x:Ar):List UInt8:=be 8 x.e++(be 4 (BitVec.ofNat 64 x.b.length)++x.b)
def encs (ls:List Ar):List UInt8:=ls.flatMap Ar.enc
def GR (ls:List Ar):List UInt8:=be 8 (BitVec.ofNat 64 ls.length)++encs ls
theorem Jj (x:Ar):x.enc.length=12+x.b.length:=by simp [Ar.enc,Az];omega
theorem KU (ls:List Ar) (x:Ar):encs (ls++[x])=encs ls++x.enc:=by simp [encs]
theorem Hf (ls:List Ar) (k:Nat):(encs (ls.take k)).length<=(encs ls).length:=by
 have:encs ls=encs (ls.take k)++encs (ls.drop k):=by unfold encs;rw [<-List.flatMap_append,List.take_append_drop]
 rw [this,List.length_append];omega
theorem bP (c:UInt8):be 1 (BitVec.ofNat 64 c.toNat)=[c]:=by
 have:(BitVec.ofNat 64 c.toNat).toNat=c.toNat:=by have:=c.toNat_lt;rw [BitVec.toNat_ofNat];omega
 show [pJ (BitVec.ofNat 64 c.toNat) 0]=[c];congr 1;apply UInt8.toNat_inj.1;rw [RZ,this];simp
theorem Ew.low {w w1 w2:World}{o:Own}{v:Value}{l:List UInt8}(h:Ew w1 w2 o v l) (q:w.heap.size<=w1.heap.size):Ew w w2 o v l:=⟨JX h.1 q,h.2⟩
theorem Ew.step {T:Nat->Prop}{w w1 w2:World}{o1 o2:Own}{v:Value}{l:List UInt8}(h:Ew w w1 o1 v l) (s:aj T w1 o1 w2 o2) (r:¬ T 0):Ew w w2 o2 v l:=
 ⟨Ci h.1 fun k q=>s.block k (h.1.lt k q).2 (by rw [h.2 k q];exact r),fun k q=>by rw [s.own k (h.1.lt k q).2];exact h.2 k q⟩
theorem Ew.cap {w w1:World}{o:Own}{v:Value}{l:List UInt8}(h:Ew w w1 o v l):capLe v:=fun a n c e=>by
 rcases h.1.2 with ⟨q,h0⟩ | ⟨g,cap,cur,q,u,E,F,r, -⟩
 ·rw [e] at q;cases q;omega
 ·rw [e] at q;cases q;simp only [maxLen] at r;omega
theorem Ew.fresh {w w1:World}{o:Own}{v:Value}{l:List UInt8}(h:Ew w w1 o v l):CV w.heap.size v:=CV.own h.1 (Nat.le_refl _)
theorem Ew.congr {w w1:World}{o:Own}{v:Value}{l l':List UInt8}(h:Ew w w1 o v l) (e:l=l'):Ew w w1 o v l':=e ▸ h
theorem IG {w:World}{o:Own}{v:Value}{l:List UInt8}(h:Bytes w o v l) (q:l.length<=4000000) (c:UInt8) :
  Calls prog 133 #[v, .int .u8 (c.toNat:Int)] w (XL ai w o fun v w' o'=>Ew w w' o' v (l++[c])):=by
 have hc:=JJ h q (BitVec.ofNat 64 c.toNat) 1 om;rw [bP,fE] at hc;have u:=c.toNat_lt;have E:(0:Int)<=(c.toNat:Int)/\(c.toNat:Int)<256:=om
 go_enter func133,ntmps133;go_wp2_with fail;refine hc.mono ?_;rintro e F ⟨J,o1,rfl,r,hn⟩;go_wp2_with fail;go_ret;exact ⟨_,o1,rfl,r,hn⟩
theorem QZ {w:World}{o:Own}{v sv:Value}{l s:List UInt8}(h:Bytes w o v l) (U:Bytes w o sv s) (a6:l.length<=4000000) (b6:s.length<=4000000) :
  Calls prog 185 #[v,sv] w (XL ai w o fun v w' o'=>Ew w w' o' v (l++(be 4 (BitVec.ofNat 64 s.length)++s))):=by
 have hc:=JJ h a6 (BitVec.ofNat 64 s.length) 4 om;have e1:((BitVec.ofNat 64 s.length).toNat:Int)=(s.length:Int):=by rw [BitVec.toNat_ofNat,Nat.mod_eq_of_lt om]
 rw [e1] at hc;obtain ⟨sa,W,rfl⟩:=Aq U;obtain ⟨P,hP⟩:=az (l++be 4 (BitVec.ofNat 64 s.length));have a2:P.length=l.length+4:=by rw [<-hP];simp [Az]
 have a3:l++(be 4 (BitVec.ofNat 64 s.length)++s)=P++s:=by rw [<-hP,List.append_assoc]
 rw [hP] at hc;rw [a3];have a7:=ae U;have WV:=ae hc;have b7:(0:Int)<=(s.length:Int)/\(s.length:Int)<=4000000:=om
 have vK:=ae a2;clear U hc e1 hP a2 a3;go_enter func185,ntmps185;go_wp2_with fail;refine WV.out.mono ?_;rintro e F ⟨v1,o1,rfl,u,hn⟩;obtain ⟨a1,c1,rfl⟩:=BA hn.1;have a4:=a7.out.step u id;have a8:P.length<=c1:=by
  have:=vK.out
  rcases hn.1.2 with ⟨E,h0⟩ | ⟨g,cap,cur,E,q1,q2,q3,q4, -⟩
  ·omega
  ·simp only [Value.slice.injEq] at E;obtain ⟨-, -,rfl⟩:=E;exact q3
 have a9:∃ Y q J,(Builtin.append_ #[29,29] 29 #[.slice a1 P.length c1, .slice sa s.length W]).run prog F = .ok Y q/\aj ai w o q J/\Ew w q J Y (P++s):=by
  have b8:=vK.out
  by_cases h0:s.length=0
  ·have b1:=List.eq_nil_of_length_eq_zero h0;subst b1;exact ⟨_,F,o1,CB (P:=prog) F 29 29 5 1 underlying29 (by kernel_rfl) a1 sa _ c1 W a8 om,u,hn.congr (by simp)⟩
  ·rcases a4.cases with ⟨_,E⟩ | ⟨b,off,cap,e0,x1,x2,x3,x4,x5⟩
   ·subst E;exact absurd rfl h0
   ·simp only [Value.slice.injEq,true_and] at e0;obtain ⟨rfl,rfl⟩:=e0;obtain ⟨g,cp,q,O,a5,b2, -, -⟩:=Es F u.size _ _ _ hn.1 b off s.length W s rfl x5 om om;have hb:Below w.heap.size w q:=u.below.grown b2 u.size (fun k r=>(hn.1.lt k r).1);refine ⟨_,q,ext w o,O,⟨hb.os,hb.tape,hb.output,hb.size,fun k r=>if_pos r,fun k r _=>hb.block k r⟩, ?_,fun k r=>if_neg (by have:=(a5.lt k r).1;omega)⟩;rw [List.length_append];exact a5
 obtain ⟨Y,q,J,O,b3,b4⟩:=a9;have b5:=ae O;clear O hn u a4 WV
 go_wp2_with ((with_reducible apply Bl);exact b5.out;simp only [Act.put,GL,DL,lss])
 go_ret;exact ⟨_,J,rfl,b3,b4⟩
theorem TR:(prog.info? 41).map (fun i=>(i.zero.map (fun z=>z.cells.toList),i.size,i.bytes))=some (some [.int .u64 0, .slice none 0 0],2,32):=by kernel_rfl
theorem eY:((prog.info? 41).bind (·.zero)).map (·.cells)=some #[.int .u64 0, .slice none 0 0]:=by kernel_rfl
theorem TG {w:World}{b off:Nat}{e:Int}{bv:Value}(q:w.rangeAt b off [.int .u64 e,bv]):(Instr.loadAt 41 (.pointer (some ⟨b,off,none⟩))).run prog w = .ok (.agg #[.int .u64 e,bv]) w:=by
 simp only [Instr.loadAt,Instr.sureAddr,Sem.run_bind,Sem.run_pure,Result.andThen_ok];exact run_loadVar_mid w b off 41 [.int .u64 e,bv] _ q underlying41 rfl (by kernel_rfl)
theorem Lm {w:World}{o:Own}{v lv:Value}{base:Nat}{l:List UInt8}{ls:List Ar}(h:Bytes w o v l) (hl:Lines w o base lv ls) (hll:l.length+8+(encs ls).length<=4000000) (hn:ls.length<=100000) :
  Calls prog 132 #[v,lv] w (XL ai w o fun v w' o'=>Ew w w' o' v (l++GR ls)):=by
 obtain ⟨la,lc,rfl⟩:=hl.form;have hc:=Ef h om (BitVec.ofNat 64 ls.length);have e1:((BitVec.ofNat 64 ls.length).toNat:Int)=(ls.length:Int):=by rw [BitVec.toNat_ofNat,Nat.mod_eq_of_lt om]
 rw [e1] at hc;obtain ⟨P,hP⟩:=az (l++be 8 (BitVec.ofNat 64 ls.length));have hPl:P.length=l.length+8:=by rw [<-hP];simp [Az]
 have hfin:l++GR ls=P++encs ls:=by rw [<-hP];simp [GR]
 rw [hfin];rw [hP] at hc;obtain ⟨N,hN⟩:=az (ls.length);rw [hN] at hc hn ⊢;have W:ls.take N=ls:=List.take_of_length_le om;have Y:=ae hl;have hNH:=ae hN;have WV:=ae hc;have pR:=ae W;have vK:=ae hPl;have a6:=ae hll;have b3:(0:Int)<=(N:Int)/\(N:Int)<=100000:=om
 clear hl hN hc W hP hPl hfin hll e1 h;rw [hNH.out] at Y;go_enter func132,ntmps132;go_wp2_with fail;refine WV.out.mono ?_;rintro e w1 ⟨v1,o1,rfl,hst,hnb⟩;clear WV;go_wp2_with fail
 go_loopw [0,14] (fun bv i wr=>∃ (k:Nat) (oj:Own),k<=N/\i = .int .i64 k/\aj ai w o wr oj/\Ew w wr oj bv (P++encs (ls.take k))) (fun _ i _=>N - (intOf i).toNat)
 case atStart=>exact ⟨0,o1,om,rfl,hst,hnb.congr (by simp [encs])⟩
 case round =>
  clear hst hnb;obtain ⟨k,oj,hk,rfl,hst,hnb⟩:=hrel
  by_cases a7:k<N
  ·obtain ⟨x,hx⟩:∃ x,ls[k]?=some x:=⟨_,List.getElem?_eq_getElem (by rw [hNH.out];exact a7)⟩;obtain ⟨b,off,q,r,hrg,hby, -, -, -⟩:=(Y.out.step hst id).at hx;subst r;have hld:=ae (TG hrg);have hal:=ae (AB (P:=prog) wr 41 _ eY);have a2:=Be wr #[.int .u64 0, .slice none 0 0] 41 [.int .u64 (x.e.toNat:Int),q] rfl;have h1c:[Value.int .u64 (x.e.toNat:Int),q].all (·.oneCell')=true:=by obtain ⟨xa,xc,rfl⟩:=Aq hby;rfl
   obtain ⟨O, -⟩:=Ba (P:=prog) (ty:=41) (vs:=[.int .u64 (x.e.toNat:Int),q]) (heap_alloc_new wr (.cells [.int .u64 0, .slice none 0 0].toArray 41)) rfl (by kernel_rfl) h1c;rw [a2] at O;have Aaz:=ae O;have F:=(aj.refl ai wr oj).alloc (.cells [Value.int .u64 (x.e.toNat:Int),q].toArray 41) (0,0);have r:(wr.alloc (.cells [Value.int .u64 (x.e.toNat:Int),q].toArray 41)).heap[wr.heap.size]?=some (.cells [Value.int .u64 (x.e.toNat:Int),q].toArray 41 (0,0)):=heap_alloc_new wr _;have hby:=hby.step F id;have hnb:=hnb.step F id;have hst:=hst.trans F;have Aba:=hst.size;obtain ⟨ab,xM⟩:=az (wr.heap.size);obtain ⟨W1,hW1⟩:=az (wr.alloc (.cells [Value.int .u64 (x.e.toNat:Int),q].toArray 41));rw [hW1] at Aaz r hby hnb hst Aba;rw [xM] at r hby hnb hst;generalize Ak oj ab (0,0)=O1 at *;have hsn:encs (ls.take (k+1))=encs (ls.take k)++x.enc:=by rw [List.take_add_one,hx];exact KU _ _
   have a3:=Hf ls (k+1);rw [hsn,List.length_append,Jj] at a3;have hle2:P.length+(encs (ls.take k)).length+12+x.b.length<=4000000:=by have:=vK.out;have:=a6.out;omega
   obtain ⟨pre,J⟩:=az (P++encs (ls.take k));have yY:pre.length=P.length+(encs (ls.take k)).length:=by rw [<-J,List.length_append]
   rw [J] at hnb;have AbN:=ae hby;have a4:=ae xM;have Aac:=ae (show P++encs (ls.take (k+1))=pre++x.enc by rw [hsn, <-J,List.append_assoc]);have rD:=ae (show pre.length+12+x.b.length<=4000000 by omega);clear a2 O hrg F xM hW1 hsn a3 hle2 J yY h1c hby hx;have c0:W1.cell? ⟨ab,0,none⟩=some (.int .u64 (x.e.toNat:Int)):=ag r 0;have c1:W1.cell? ⟨ab,1,none⟩=some q:=ag r 1
   go_wp2_with (first
    | ((with_reducible apply Bo);exact hld.out;simp only [Act.put,GL,DL,lss])
    | ((with_reducible apply AU);exact hal.out;simp only [Act.put,GL,DL,lss])
    | ((with_reducible apply AC);exact Aaz.out;simp only [Act.put]))
   rw [a4.out];clear hld hal Aaz a4;refine Aa (fun w'=>w'.cell? ⟨ab,0,none⟩=some (.int .u64 (x.e.toNat:Int))/\w'.cell? ⟨ab,1,none⟩=some q) (fun _=>true) (by kernel_rfl) ⟨c0,c1⟩ (fun a8 => ?_);refine tq 0 (h:=tq 1 (h:=tq 2 (h:=tq 4 (h:=tq 5 (h:=tO 3 (h:=?_))))));go_wp2_with fail;have U:=(aj.refl ai W1 O1).drew;refine (Ef (hnb.step U id).bytes (by have:=rD.out;omega) x.e).mono ?_;rintro e w2 ⟨v2,o2,rfl,u,zQ⟩;have u:=U.trans u;have E:=(u.block ab (au r) id).trans r;have a5:=aI (ag (i:=0) E) (ag (i:=1) E);have a9:=ae (AbN.out.step u id);have hst:=hst.trans u;clear u U a8;go_wp2_with fail;refine ⟨fun _=>a5, ?_⟩;refine tO 6 (h:=?_);go_wp2_with fail;refine (QZ zQ.bytes a9.out (by rw [List.length_append,Az];have:=rD.out;omega) (by have:=rD.out;omega)).mono ?_;rintro e w3 ⟨v3,o3,rfl,hs3,zO⟩;have xN:=(hs3.block ab (au E) id).trans E;have hS3:=aI (ag (i:=0) xN) (ag (i:=1) xN);have b1:=(zO.low hst.size).congr (l':=P++encs (ls.take (k+1))) (by rw [Aac.out];simp [Ar.enc]);have hst:=hst.trans hs3;clear hs3 zO zQ a5;go_wp2_with fail;refine ⟨fun _=>hS3, ?_⟩;refine Dt (i:=7) (v := ?_) rfl (by kernel_rfl) (fun _ _ _ h=>h) (Or.inl ⟨by rfl, ?_⟩) (by assumption) ?_
   rotate_left
   ·intro w b2;((try dsimp only at b2);go_simp;(try with_reducible rfl))
   simp only [Act.put,GL,DL];refine tD (h:=?_);clear hS3 r E xN c0 c1 hnb;go_wp2_with fail;go_roundw
   case rel=>exact ⟨k+1,o3,om,by go_num,hst,b1⟩
   case measure=>simp [intOf];omega
  ·obtain rfl:N=k:=om
   rw [pR.out] at hnb;go_wp2_with fail;go_ret;exact ⟨_,oj,rfl,hst,hnb⟩
def str (l:List UInt8):Value := .string ⟨l.toArray⟩
def strs (ps:List (List UInt8)):List Value:=ps.map str
def iF (row:List (Nat × List UInt8)):List Value:=row.flatMap fun x=>[Value.int .i64 (x.1:Int),str x.2]
def iV (o:Own) (n p E:Nat) (pv:Value):Own:=fun k=>if k<n then o k else if k=p then (E,0) else if pv.ownBlock=some k then (E,1) else (0,0)
theorem AdB {P:Program}{a:Act}{op:Oper}{w w':World}(t:TypeId) (x:Operand) (lo hi q:Option Operand) (r:op.op = .slice t x lo hi q) {v:Value}
  (h:(Instr.sliceAt t (a.eval x) (lo.map a.eval) (hi.map a.eval) (q.map a.eval)).run P w = .ok v w'):(execOp a.eval op).run P w = .ok (.value v) w':=by
 unfold execOp;simp only [r,Sem.run_bind,h,Result.andThen_ok,Sem.run_pure]
section
variable {w wr:World}{o o1:Own}{E p pg pc:Nat}{rv:Value}{d:Af}{ps:List (List UInt8)}
end
def iY (f:Nat->Bool):List Value:=(List.range 64).map fun i => .bool (f i)
theorem Xu {w:World}{o:Own}{v:Value}{n:Nat}{cs:List Value}(h:sH w o v n cs) (a4:cs.length=n*2) (h1:∀ u ∈ cs,u.oneCell'=true) (hn:n<=4000000) :
  Calls prog 155 #[v] w (XL ai w o fun q w' o'=>w'.ownsRow w.heap.size 41 2 q n cs/\o'=ext w o):=by
 have J:(w.alloc (.cells #[] 41)).ownsRow w.heap.size 41 2 (.slice (some ⟨w.heap.size,0,none⟩) 0 0) 0 []:=⟨rfl, .inr ⟨_,0, #[],rfl,Nat.le_refl _,heap_alloc_new w _,om,by simp,rfl,rfl⟩⟩;have O:Below w.heap.size w (w.alloc (.cells #[] 41)):=(Below.refl _ _).alloc (Nat.le_refl _) _;have F:∀ (w':World) (q:Value),Below w.heap.size w w'->w'.ownsRow w.heap.size 41 2 q n cs->XL ai w o (fun q w' o'=>w'.ownsRow w.heap.size 41 2 q n cs/\o'=ext w o) (.returned q) w':=fun w' q hb U =>
  ⟨_,ext w o,rfl,⟨hb.os,hb.tape,hb.output,hb.size,fun k E=>if_pos E,fun k E _=>hb.block k E⟩,U,rfl⟩
 rcases h with ⟨⟨a,c,rfl⟩,rfl,rfl⟩ | ⟨b,off,cap,rfl,hl,hm,U,hb,W⟩
 ·cases a with
  | none =>
   have Y:=FC w 35 41 none 0 c underlying35;go_enter func155,ntmps155
   go_wp2
   go_ret;exact F _ _ (Below.refl _ _) (World.ownsRow_nil _ _ _ _)
  | some ad =>
   have Y:=FC w 35 41 (some ad) 0 c underlying35;have r:=ae (CB (P:=prog) (w.alloc (.cells #[] 41)) 35 35 41 2 underlying35 (by kernel_rfl) (some ⟨w.heap.size,0,none⟩) (some ad) 0 0 c (Nat.le_refl _) om);go_enter func155,ntmps155
   go_wp2_with ((with_reducible apply Bl);exact r.out;simp only [Act.put,GL,DL,lss])
   go_ret;exact F _ _ O J
 ·have Y:=FC w 35 41 (some ⟨b,off,none⟩) n cap underlying35
  by_cases h0:n=0
  ·subst h0;have a5:=List.eq_nil_of_length_eq_zero (by omega:cs.length=0);subst a5;have r:=ae (CB (P:=prog) (w.alloc (.cells #[] 41)) 35 35 41 2 underlying35 (by kernel_rfl) (some ⟨w.heap.size,0,none⟩) (some ⟨b,off,none⟩) 0 0 cap (Nat.le_refl _) om);go_enter func155,ntmps155
   go_wp2_with ((with_reducible apply Bl);exact r.out;simp only [Act.put,GL,DL,lss])
   go_ret;exact F _ _ O J
  ·have a2:(w.alloc (.cells #[] 41)).rangeAt b off cs:=World.rangeAt_alloc W _;obtain ⟨g,cp,w3,r,a3,a6,a9,b1⟩:=DD (P:=prog) (w.alloc (.cells #[] 41)) 35 35 41 underlying35 TR rfl om (base:=w.heap.size) (by simp) _ 0 [] J b off n cap cs a4 a2 h1 om om om;have a7:=O.grown a6 (by simp) (fun k E=>by simp only [Value.ownBlock,Option.some.injEq] at E;omega);rw [Nat.zero_add,List.nil_append] at a3;rw [Nat.zero_add] at r;have a8:=ae r;clear r a2 W;go_enter func155,ntmps155
   go_wp2_with ((with_reducible apply Bl);exact a8.out;simp only [Act.put,GL,DL,lss])
   go_ret;exact F _ _ a7 a3
theorem Bytes.retag {w:World}{o o':Own}{base:Nat}{v:Value}{l:List UInt8}(h:Bytes w o v l) (q:CV base v) (r:∀ k,base<=k->(o' k).1=0):Bytes w o' v l:=by
 rcases h with h | ⟨b,off,cap,rfl,u,E,J,h4,F⟩
 ·exact .inl h
 ·exact .inr ⟨b,off,cap,rfl,u,E,r b (q b rfl),h4,F⟩
def Loose (w:World) (v:Value):Prop:=∀ b off n c,v = .slice (some ⟨b,off,none⟩) n c->0<n->∃ cs,w.heap[b]?=some (.cells cs 5 (0,0))
theorem Loose.step {T:Nat->Prop}{w w':World}{o o':Own}{v:Value}{l:List UInt8}(h:Loose w v) (hb:Bytes w o v l) (s:aj T w o w' o') (q:¬ T 0):Loose w' v:=by
 intro b off n c hv hn;obtain ⟨r,u⟩:=h b off n c hv hn
 rcases hb with ⟨⟨a,F,e⟩, -, -⟩ | ⟨b',J,cap,e, -, -,h0,E, -⟩
 ·rw [hv] at e;cases e;omega
 ·rw [hv] at e;cases e;exact ⟨r,by rw [s.block b E (by rw [h0];exact q)];exact u⟩
theorem Ew.loose {w w':World}{o:Own}{v:Value}{l:List UInt8}(h:Ew w w' o v l):Loose w' v:=by
 intro b off n c hv hn
 rcases h.1.2 with ⟨q,h0⟩ | ⟨g,cap,cur,q,u,r, -⟩
 ·rw [hv] at q;cases q
 ·rw [hv] at q;cases q;exact ⟨cur,r⟩
def Jz (w:World) (base:Nat) (v:Value) (ls:List Ar):Prop:=0<ls.length->∃ g c,∃ cs:List Value,v = .slice (some ⟨g,0,none⟩) ls.length c/\base<=g/\w.heap[g]?=some (.cells cs.toArray 41 (0,0))/\∀ i x,ls[i]?=some x->∃ bv,cs[2*i+1]?=some bv/\Loose w bv/\CV base bv
theorem Jz.setCells {w:World}{base B off:Nat}{v:Value}{ls:List Ar}{vs:List Value}(h:Jz w base v ls) (hB:B<base):Jz (w.setCells B off vs) base v ls:=by
 intro h0;obtain ⟨g,c,r,rfl,u,E,F⟩:=h h0;refine ⟨g,c,r,rfl,u,by rw [ah _ _ _ _ _ om];exact E,fun i x J => ?_⟩;obtain ⟨bv,O,U,q⟩:=F i x J;refine ⟨bv,O,fun b W n Y hv hn => ?_,q⟩;obtain ⟨a2,hh⟩:=U b W n Y hv hn;have hb:=q b (by rw [hv];rfl);exact ⟨a2,by rw [ah _ _ _ _ _ om];exact hh⟩
theorem Jz.low {w:World}{base b:Nat}{v:Value}{ls:List Ar}(h:Jz w base v ls) (hb:b<=base):Jz w b v ls:=by
 intro h0;obtain ⟨g,c,q,rfl,U,r,u⟩:=h h0;refine ⟨g,c,q,rfl,om,r,fun i x E => ?_⟩;obtain ⟨bv,F,J,O⟩:=u i x E;exact ⟨bv,F,J,O.low hb⟩
def Half (w:World) (o:Own) (base k:Nat) (cur:List Value) (ls:List Ar):Prop:=
 2*ls.length<=cur.length/\∀ i x,ls[i]?=some x->cur[2*i]?=some (.int .u64 (x.e.toNat:Int))/\∃ bv,cur[2*i+1]?=some bv/\Bytes w o bv x.b/\(i<k->CV base bv/\Loose w bv)
theorem Half.step {T:Nat->Prop}{w w':World}{o o':Own}{base k:Nat}{cur:List Value}{ls:List Ar}(h:Half w o base k cur ls) (s:aj T w o w' o') (q:¬ T 0):Half w' o' base k cur ls:=
 ⟨h.1,fun i x u=>by
  obtain ⟨a,bv,b,c,d⟩:=h.2 i x u;exact ⟨a,bv,b,c.step s q,fun r=>⟨(d r).1,(d r).2.step c s q⟩⟩⟩
theorem Half.set {w:World}{o:Own}{base k:Nat}{cur:List Value}{ls:List Ar}{x:Ar}{bv:Value}(h:Half w o base k cur ls) (r:ls[k]?=some x) (hb:Bytes w o bv x.b) (u:CV base bv) (E:Loose w bv):Half w o base (k+1) (cur.set (2*k+1) bv) ls:=by
 have O:=(List.getElem?_eq_some_iff.1 r).1;have hl:=h.1;refine ⟨by rw [List.length_set];exact h.1,fun i y q => ?_⟩;obtain ⟨a,F,b,c,d⟩:=h.2 i y q;rw [List.getElem?_set,if_neg om,List.getElem?_set];refine ⟨a, ?_⟩
 by_cases J:i=k
 ·subst J;rw [r] at q;cases q;exact ⟨bv,by rw [if_pos rfl,if_pos om],hb,fun _=>⟨u,E⟩⟩
 ·exact ⟨F,by rw [if_neg om];exact b,c,fun U=>d om⟩
theorem Half.lines {w:World}{o o':Own}{base g cap:Nat}{cur:List Value}{ls:List Ar}(h:Half w o base ls.length cur ls) (E:w.heap[g]?=some (.cells cur.toArray 41 (0,0))) (O:base<=g) (hc:ls.length<=cap) (U:cap<=maxLen) (F:∀ k,base<=k->(o' k).1=0) :
  Lines w o' base (.slice (some ⟨g,0,none⟩) ls.length cap) ls:=by
 have hl:=h.1;refine ⟨cur.take (2*ls.length), .inr ⟨g,0,cap,rfl,hc,U,F g O,au E, ?_⟩,⟨by rw [List.length_take];omega,fun i x J => ?_⟩,fun k W=>by simp [Value.ownBlock] at W;omega,fun u Y => ?_⟩
 ·have:=BU E 0 (2*ls.length);rw [List.drop_zero] at this;exact this
 ·have r:=(List.getElem?_eq_some_iff.1 J).1;obtain ⟨a,bv,b,c,d⟩:=h.2 i x J;exact ⟨by rw [List.getElem?_take,if_pos om];exact a,bv,by rw [List.getElem?_take,if_pos om];exact b,c.retag (d r).1 F⟩
 ·obtain ⟨j,q⟩:=List.mem_iff_getElem?.1 Y;rw [List.getElem?_take] at q;split at q
  ·rename_i hlt;have r:j / 2<ls.length:=om
   obtain ⟨a,bv,b,c,d⟩:=h.2 (j / 2) _ (List.getElem?_eq_getElem r)
   by_cases hp:2*(j / 2)=j
   ·rw [hp,q] at a;cases a;exact CV.int _ _ _
   ·have hq:2*(j / 2)+1=j:=om
    rw [hq,q] at b;cases b;exact (d r).1
  ·cases q
theorem aj.Me {T:Nat->Prop}{w w':World}{o o':Own}(h:aj T w o w' o') (o2:Own) (q:∀ k,k<w.heap.size->o2 k=o k):aj T w o w' o2:=⟨h.os,h.tape,h.output,h.size,q,h.block⟩
theorem sW.half {w:World}{o:Own}{cs cur:List Value}{ls:List Ar}{base n:Nat}(h:sW w o cs ls) (hn:ls.length=n) (hc:cur.take (n*2)=cs):Half w o base 0 cur ls:=by
 subst hn;have hl:=h.1;have r:=congrArg List.length hc;rw [List.length_take,hl] at r;refine ⟨om,fun i x q => ?_⟩;have u:=(List.getElem?_eq_some_iff.1 q).1;obtain ⟨a,bv,b,c⟩:=h.2 i x q;rw [<-hc,List.getElem?_take,if_pos om] at a b;exact ⟨a,bv,b,c,fun h=>absurd h om⟩
theorem Lines.zero {w:World}{o:Own}{base:Nat}{v:Value}{ls:List Ar}(hl:ls.length=0) (a:Option Addr) (c:Nat) (hv:v = .slice a 0 c) (q:CV base v):Lines w o base v ls:=
 ⟨[], .inl ⟨⟨a,c,hv⟩,hl,rfl⟩,by rw [List.eq_nil_of_length_eq_zero hl];exact sW.nil w o,q,by simp⟩
theorem OV {w:World}{b off:Nat}{p c:Int}{lv:Value}(q:w.rangeAt b off [.int .u64 p, .int .u64 c,lv]):(Instr.loadAt 37 (.pointer (some ⟨b,off,none⟩))).run prog w = .ok (.agg #[.int .u64 p, .int .u64 c,lv]) w:=by
 simp only [Instr.loadAt,Instr.sureAddr,Sem.run_bind,Sem.run_pure,Result.andThen_ok];exact run_loadVar_mid w b off 37 [.int .u64 p, .int .u64 c,lv] _ q underlying37 rfl (by kernel_rfl)
theorem LX:((prog.info? 37).bind (·.zero)).map (·.cells)=some #[.int .u64 0, .int .u64 0, .slice none 0 0]:=by kernel_rfl
theorem Ij:(prog.info? 37).map (·.size)=some 3:=by kernel_rfl
def Dy (p c:BitVec 64) (lv:Value):Value := .agg #[.int .u64 (p.toNat:Int), .int .u64 (c.toNat:Int),lv]
theorem UY {w:World}{o:Own}{base:Nat}{p c:BitVec 64}{lv:Value}{ls:List Ar}(h:Lines w o base lv ls) (hn:ls.length<=100000) (hbl:∀ x ∈ ls,x.b.length<=4000000) :
  Calls prog 107 #[Dy p c lv] w (XL ai w o fun v w' o'=>∃ vS,v=Dy p c vS/\Lines w' o' w.heap.size vS ls/\o'=ext w o/\Jz w' w.heap.size vS ls):=by
 obtain ⟨r,b8⟩:∃ r:Int,(p.toNat:Int)=r:=⟨_,rfl⟩;obtain ⟨cI,b9⟩:∃ cI:Int,(c.toNat:Int)=cI:=⟨_,rfl⟩;unfold Dy;rw [b8,b9];clear b8 b9 p c;obtain ⟨la,lc,rfl⟩:=h.form;obtain ⟨cs,c0,a2, -, -⟩:=h;have c4:=a2.one;have s1:=(aj.refl ai w o).alloc (.cells #[.int .u64 r, .int .u64 cI, .slice la ls.length lc] 37) (1,1);have s2:=s1.alloc (.cells #[.int .u64 0, .int .u64 0, .slice none 0 0] 37) (1,2);have b1:(w.alloc (.cells #[.int .u64 r, .int .u64 cI, .slice la ls.length lc] 37)).heap[w.heap.size]?=some (.cells [.int .u64 r, .int .u64 cI, .slice la ls.length lc].toArray 37 (0,0)):=heap_alloc_new w _;have z1:(w.alloc (.cells #[.int .u64 r, .int .u64 cI, .slice la ls.length lc] 37)).heap.size=w.heap.size+1:=by simp
 have t1:Ak o w.heap.size (1,1) w.heap.size=(1,1):=Au _ _ _;obtain ⟨E,a4⟩:=az (w.alloc (.cells #[.int .u64 r, .int .u64 cI, .slice la ls.length lc] 37));rw [a4] at s2 b1 z1;generalize Ak o w.heap.size (1,1)=o1 at *;have b2:(E.alloc (.cells #[.int .u64 0, .int .u64 0, .slice none 0 0] 37)).heap[E.heap.size]?=some (.cells [.int .u64 0, .int .u64 0, .slice none 0 0].toArray 37 (0,0)):=heap_alloc_new E _;have b12:(E.alloc (.cells #[.int .u64 0, .int .u64 0, .slice none 0 0] 37)).heap[w.heap.size]?=_:=(Below.heap_alloc _ _ _ om).trans b1;have t2:Ak o1 E.heap.size (1,2) E.heap.size=(1,2):=Au _ _ _;have t12:Ak o1 E.heap.size (1,2) w.heap.size=(1,1):=by rw [BI _ _ om];exact t1
 have z2:(E.alloc (.cells #[.int .u64 0, .int .u64 0, .slice none 0 0] 37)).heap.size=w.heap.size+2:=by simp [z1]
 have hal:=ae (AB (P:=prog) E 37 _ LX);obtain ⟨W2,hW2⟩:=az (E.alloc (.cells #[.int .u64 0, .int .u64 0, .slice none 0 0] 37));rw [hW2] at hal s2 b2 b12 z2;rw [z1] at b2 t2 t12 s2 hal;generalize Ak o1 (w.heap.size+1) (1,2)=o2 at *;have hsl2:=c0.step s2 id;have zX:=a2.step s2 id;have hcl:=Xu hsl2 (by rw [a2.1];omega) c4 om;have xG:=ae hcl;have vW:=ae zX;have AbT:=ae hbl;rw [<-a4] at hal;obtain ⟨n,a5⟩:=az (ls.length);have uA:=ae a5;rw [a5] at xG hn hal b12 ⊢;have e3:(0:Int)<=(n:Int)/\(n:Int)<=100000:=om
 have c2:W2.cell? ⟨w.heap.size,2,none⟩=some (.slice la n lc):=ag b12 2;clear hcl zX hbl a4 hW2 b1 z1 t1 s1 c0 a2 hsl2 c4 a5;go_enter func107,ntmps107
 go_wp2_with ((with_reducible apply AU);exact hal.out;simp only [Act.put,GL,DL,lss])
 refine xG.out.mono ?_;rintro e W3 ⟨v3,o3,rfl,s3,hown,rfl⟩;obtain ⟨q,hkb⟩:=az (w.heap.size);rw [hkb] at b12 b2 z2 t12 t2 ⊢;have s3:=s3.retag (1,0);have l12:=au b12;have l2:=au b2;have b3:=(s3.block q l12 id).trans b12;have r3:=(s3.block (q+1) l2 id).trans b2;have a6:(Qi W2 o2 (1,0) (q+1)).1=1:=by rw [s3.own (q+1) l2,t2]
 have uo3:(Qi W2 o2 (1,0) q).1=1:=by rw [s3.own q l12,t12]
 have c9:w.heap.size<=q:=om
 obtain ⟨u,vc,rfl⟩:=BA hown;have hst:=s2.trans s3;have b4:=Ai (i:=2) (.slice u n vc) b3;simp only [DL,lss] at b4;have r4:(W3.setCell ⟨q,2,none⟩ (.slice u n vc)).heap[q+1]?=_:=(Below.heap_setCell _ _ _ _ (by show q+1 ≠ q;omega)).trans r3;have hset:=(aj.refl (ak 1) W3 (Qi W2 o2 (1,0))).setCell (a:=⟨q,2,none⟩) (.slice u n vc) (.inl uo3);have pX:=hst.setCell (a:=⟨q,2,none⟩) (.slice u n vc) (.inr c9);have a3:=Ap b3 2;have Aes:=(vW.out.step s3 id).step hset (fun h=>by change 0=1 at h;omega);have d1:q+2<=W2.heap.size:=om
 have a7:∀ k,W2.heap.size<=k->Qi W2 o2 (1,0) k=(1,0):=fun k hk=>VM hk;clear s2 s3 xG hal c2 r3 hset vW b12 b2 t12 t2 hst;obtain ⟨oc,hoc⟩:=az (Qi W2 o2 (1,0));rw [hoc] at pX Aes uo3 a6 a7;clear hoc;have c6:W3.cell? ⟨q,2,none⟩=some (.slice la n lc):=ag b3 2;have c3:(W3.setCell ⟨q,2,none⟩ (.slice u n vc)).cell? ⟨q,2,none⟩=some (.slice u n vc):=ag b4 2;clear b3
 by_cases hn1:n=0
 ·subst hn1;have hfr:CV w.heap.size (.slice u 0 vc):=CV.own hown om;go_wp2_with fail
  go_loopw [11] (fun i wr=>i = .int .i64 0/\wr=W3.setCell ⟨q,2,none⟩ (.slice u 0 vc)) (fun _ _=>0)
  case atStart=>exact ⟨rfl,rfl⟩
  case round =>
   obtain ⟨rfl,rfl⟩:=hrel;have F:=b4;have J:=r4;have hst:=pX;generalize W3.setCell ⟨q,2,none⟩ (.slice u 0 vc)=wr at *;have hld:=ae (OV (AV F));obtain ⟨Y,a8⟩:=Ba (P:=prog) (ty:=37) (vs:=[.int .u64 r, .int .u64 cI, .slice u 0 vc]) J rfl (by kernel_rfl) rfl;have Aaz:=ae Y;have AaM:=hst.setCells (q+1) 0 [.int .u64 r, .int .u64 cI, .slice u 0 vc] (.inr om);have hLF:=ae (show Lines (wr.setCells (q+1) 0 [.int .u64 r, .int .u64 cI, .slice u 0 vc]) (ext w o) w.heap.size (.slice u 0 vc) ls from Lines.zero uA.out u vc rfl hfr);clear Y F J b4 r4 c3 c6 a3 hst pX Aes hown
   go_wp2_with (first
    | ((with_reducible apply Bo);exact hld.out;simp only [Act.put,GL,DL,lss])
    | ((with_reducible apply AC);exact Aaz.out;simp only [Act.put]))
   refine bodyPost_ret (results_cell_row rfl _ _ (q+1) 37 _ (0,0) _ rfl a8 underlying37 rfl Ij) rfl ?_;exact ⟨_,ext w o,rfl,AaM.Me _ (fun k hk=>if_pos hk),_,rfl,hLF.out,rfl,fun h0=>by rw [uA.out] at h0;omega⟩
 ·obtain ⟨g,cap,cur,hv,d3,hg,hnc,d4,c7⟩:∃ g cap cur,Value.slice u n vc = .slice (some ⟨g,0,none⟩) n cap/\W2.heap.size<=g/\W3.heap[g]?=some (.cells (cur:List Value).toArray 41 (0,0))/\n<=cap/\cap<=maxLen/\cur.take (n*2)=cs:=by
   rcases hown.2 with ⟨_,h0⟩ | ⟨g,cap,cur,h1,q1,q2,q3,q4,q5,q6⟩
   ·exact absurd h0 hn1
   ·exact ⟨g,cap,cur.toList,h1,q1,by simpa using q2,q3,q4,q6⟩
  simp only [Value.slice.injEq,true_and] at hv;obtain ⟨rfl,rfl⟩:=hv;have hg4:(W3.setCell ⟨q,2,none⟩ (.slice (some ⟨g,0,none⟩) n vc)).heap[g]?=_:=(Below.heap_setCell _ _ _ _ (by show g ≠ q;omega)).trans hg;have hgt:(oc g).1=1:=by rw [a7 g d3]
  have xC:=Aes.half (base:=q) uA.out c7;have e4:q+2<=g:=om
  clear hown Aes c7 hg a7 d1;go_wp2_with fail
  go_loopw [11] (fun i wr=>∃ (k:Nat) (oj:Own) (cur:List Value),k<=n/\i = .int .i64 k/\wr.heap[q]?=some (.cells [.int .u64 r, .int .u64 cI, .slice (some ⟨g,0,none⟩) n vc].toArray 37 (0,0)) /\
    wr.heap[q+1]?=some (.cells [.int .u64 0, .int .u64 0, .slice none 0 0].toArray 37 (0,0))/\wr.heap[g]?=some (.cells cur.toArray 41 (0,0))/\(oj q).1=1/\(oj (q+1)).1=1/\(oj g).1=1/\Half wr oj q k cur ls/\aj ai w o wr oj) (fun i _=>n - (intOf i).toNat)
  case atStart=>exact ⟨0,oc,cur,om,rfl,b4,r4,hg4,uo3,a6,hgt,xC,pX⟩
  case round =>
   clear b4 r4 hg4 uo3 a6 hgt xC pX c3 c6 a3;obtain ⟨k,oj,cur,hk,rfl,F,J,hgc,u1,u4,u2,xC,hst⟩:=hrel
   by_cases hlt:k<n
   ·obtain ⟨x,hx⟩:∃ x,ls[k]?=some x:=⟨_,List.getElem?_eq_getElem (by rw [uA.out];exact hlt)⟩;obtain ⟨-,bv,c8,hby, -⟩:=xC.2 k x hx;have c2:wr.cell? ⟨q,2,none⟩=some (.slice (some ⟨g,0,none⟩) n vc):=ag F 2;have cg:wr.cell? ⟨g,k*2+1,none⟩=some bv:=by rw [ag hgc,Nat.mul_comm];exact c8
    have hS:=aI c2 cg;have hcl:=ae (fun (W:World) (O:Own) (hb:Bytes W O bv x.b)=>clone_any hb (AbT.out x (List.mem_of_getElem? hx)));have hxH:=ae hx;obtain ⟨ba,bc,rfl⟩:=Aq hby;clear hx c8;go_wp2_with fail;refine Aa (fun w'=>w'.cell? ⟨q,2,none⟩=some (.slice (some ⟨g,0,none⟩) n vc)/\w'.cell? ⟨g,k*2+1,none⟩=some (.slice ba x.b.length bc)) (fun i=>decide (i<12)) (by kernel_rfl) hS (fun d5 => ?_);refine tq 0 (h:=tq 1 (h:=tq 2 (h:=tq 3 (h:=tq 4 (h:=tq 5 (h:=tq 6 (h:=tq 7 (h:=tq 8 (h:=tO 9 (h:=?_))))))))));go_wp2_with fail;have hdr:=(aj.refl ai wr oj).drew;refine (hcl.out _ _ (hby.step hdr id)).mono ?_;rintro e w5 ⟨v5,o5,rfl,hs5,U⟩;have hs5:=hdr.trans hs5;have lk:=au F;have lr:=au J;have lg:=au hgc;have xA:=(hs5.block q lk id).trans F;have yT:=(hs5.block (q+1) lr id).trans J;have xE:=(hs5.block g lg id).trans hgc;have d6:(o5 q).1=1:=by rw [hs5.own q lk];exact u1
    have d7:(o5 (q+1)).1=1:=by rw [hs5.own (q+1) lr];exact u4
    have u25:(o5 g).1=1:=by rw [hs5.own g lg];exact u2
    have hS5:=aI (ag (i:=2) xA) (show w5.cell? ⟨g,k*2+1,none⟩=some (.slice ba x.b.length bc) by rw [World.cell?_of_block (w:=wr) (a:=⟨g,k*2+1,none⟩) (hs5.block g lg id)];exact cg);have a3:=Ap xE (k*2+1);have d8:=hS5.2;have hset:=(aj.refl (ak 1) w5 o5).setCell (a:=⟨g,k*2+1,none⟩) v5 (.inl u25);have h01:¬ ak 1 0:=fun h=>by change 0=1 at h;omega
    have a9:=((xC.step hs5 id).step hset h01).set hxH.out (U.bytes.step hset h01) (U.fresh.low (show q<=wr.heap.size by omega)) (U.loose.step U.bytes hset h01);have b5:=Ai (i:=2*k+1) v5 xE;have b6:(w5.setCell ⟨g,2*k+1,none⟩ v5).heap[q]?=_:=(Below.heap_setCell _ _ _ _ (by show q ≠ g;omega)).trans xA;have hr6:(w5.setCell ⟨g,2*k+1,none⟩ v5).heap[q+1]?=_:=(Below.heap_setCell _ _ _ _ (by show q+1 ≠ g;omega)).trans yT;have pW:=(hst.trans hs5).setCell (a:=⟨g,k*2+1,none⟩) v5 (.inr (by show w.heap.size<=g;omega));rw [Nat.mul_comm 2 k] at b5 b6 hr6 a9;have hF:=ae (aI b6 (aI hr6 (aI b5 (aI a9 pW))));obtain ⟨na,nc,rfl⟩:=Aq U.bytes;clear hset a9 b5 b6 hr6 pW U hdr hs5 xA yT xE hby hcl d5;go_wp2_with fail;refine ⟨fun _=>hS5, ?_⟩;refine tO 10 (h:=?_);go_wp2_with fail;refine ⟨fun _=>hS5, ?_⟩;refine tq 11 (h:=tO 12 (h:=?_));go_wp2_with fail;refine ⟨fun h=>by simp at h, ?_⟩;refine tD (h:=?_);clear hS5 hS c2 cg d8 a3;go_wp2_with fail;go_roundw
    case rel=>exact ⟨k+1,o5,_,om,by go_num,hF.out.1,hF.out.2.1,hF.out.2.2.1,d6,d7,u25,hF.out.2.2.2.1,hF.out.2.2.2.2⟩
    case measure=>simp [intOf];omega
   ·obtain rfl:n=k:=om
    have b7:=uA.out;have d9:∀ k,q<=k->(ext w o k).1=0:=fun k hk=>by unfold ext;rw [if_neg om]
    have hset:=(aj.refl (ak 1) wr oj).setCells (q+1) 0 [.int .u64 r, .int .u64 cI, .slice (some ⟨g,0,none⟩) n vc] (.inl u4);have hgF:(wr.setCells (q+1) 0 [.int .u64 r, .int .u64 cI, .slice (some ⟨g,0,none⟩) n vc]).heap[g]?=_:=(ah (q+1) _ 0 wr g om).trans hgc;have hhF:=xC.step hset (fun h=>by change 0=1 at h;omega);have hld:=ae (OV (AV F));obtain ⟨Y,a8⟩:=Ba (P:=prog) (ty:=37) (vs:=[.int .u64 r, .int .u64 cI, .slice (some ⟨g,0,none⟩) n vc]) J rfl (by kernel_rfl) rfl;have Aaz:=ae Y;have e0:=ae (show Jz (wr.setCells (q+1) 0 [.int .u64 r, .int .u64 cI, .slice (some ⟨g,0,none⟩) n vc]) w.heap.size (.slice (some ⟨g,0,none⟩) n vc) ls from fun _=>⟨g,vc,cur,by rw [b7],om,hgF,fun i x hx=>by
     obtain ⟨_,bv,q1,_,q2⟩:=hhF.2 i x hx;have hi:=(List.getElem?_eq_some_iff.1 hx).1;have q3:=q2 om;exact ⟨bv,q1,q3.2,q3.1.low om⟩⟩)
    have AaM:=hst.setCells (q+1) 0 [.int .u64 r, .int .u64 cI, .slice (some ⟨g,0,none⟩) n vc] (.inr om);have hLF:=ae (show Lines (wr.setCells (q+1) 0 [.int .u64 r, .int .u64 cI, .slice (some ⟨g,0,none⟩) n vc]) (ext w o) w.heap.size (.slice (some ⟨g,0,none⟩) n vc) ls from by
     rw [hkb];have hq:=(show Half _ oj q ls.length cur ls from by rw [b7];exact hhF).lines hgF om om d4 d9;rw [b7] at hq;exact hq)
    clear Y F J hst hgc xC hset hgF hhF
    go_wp2_with (first
     | ((with_reducible apply Bo);exact hld.out;simp only [Act.put,GL,DL,lss])
     | ((with_reducible apply AC);exact Aaz.out;simp only [Act.put]))
    refine bodyPost_ret (results_cell_row rfl _ _ (q+1) 37 _ (0,0) _ rfl a8 underlying37 rfl Ij) rfl ?_;exact ⟨_,ext w o,rfl,AaM.Me _ (fun k hk=>if_pos hk),_,rfl,hLF.out,rfl,e0.out⟩
theorem Tj {w:World}{o:Own}{base:Nat}{p c:BitVec 64}{lv:Value}{ls:List Ar}(h:Lines w o base lv ls) (hn:ls.length<=100000) (r:∀ x ∈ ls,x.b.length<=4000000) :
  Calls prog 107 #[Dy p c lv] w (XL ai w o fun v w' o'=>∃ q,v=Dy p c q/\Lines w' o' w.heap.size q ls/\o'=ext w o):=by
 refine (UY h hn r).mono ?_;rintro e w' ⟨v,o',rfl,u,q,E,F,J, -⟩;exact ⟨v,o',rfl,u,q,E,F,J⟩
def IY (age p c:BitVec 64) (ls:List Ar):List UInt8:=1 :: (be 8 age++(be 8 p++(be 8 c++GR ls)))
theorem AjQ {w:World}{o:Own}{base:Nat}{p c:BitVec 64}{lv:Value}{ls:List Ar}(h:Lines w o base lv ls) (hn:ls.length<=100000) (a6:(encs ls).length<=1300000) (age:BitVec 64) :
  Calls prog 182 #[Dy p c lv, .int .u64 (age.toNat:Int)] w (XL ai w o fun v w' o'=>Ew w w' o' v (IY age p c ls)):=by
 unfold Dy;have s1:=(aj.refl ai w o).alloc (.cells #[.int .u64 (p.toNat:Int), .int .u64 (c.toNat:Int),lv] 37) (0,0);have r:(w.alloc (.cells #[.int .u64 (p.toNat:Int), .int .u64 (c.toNat:Int),lv] 37)).heap[w.heap.size]?=some (.cells [.int .u64 (p.toNat:Int), .int .u64 (c.toNat:Int),lv].toArray 37 (0,0)):=heap_alloc_new w _;have a3:=h.step s1 id;obtain ⟨la,lc,rfl⟩:=h.form;obtain ⟨W1,a4⟩:=az (w.alloc (.cells #[.int .u64 (p.toNat:Int), .int .u64 (c.toNat:Int), .slice la ls.length lc] 37));rw [a4] at s1 r a3;generalize Ak o w.heap.size (0,0)=o1 at *;have c0:=ag r 0;have c1:=ag r 1;have c2:=ag r 2;simp only [ay,ax] at c0 c1 c2;have uM:=ae a4;have a8:=ae a3;have xZ:=ae r;have a7:=ae (aI hn a6);have q:=s1;clear a4 h a3 r hn a6 s1;have qH:=ae q;go_enter func182,ntmps182;go_wp2_with fail;rw [uM.out];refine Aa (fun w'=>w'.cell? ⟨w.heap.size,0,none⟩=some (.int .u64 (p.toNat:Int))/\w'.cell? ⟨w.heap.size,1,none⟩=some (.int .u64 (c.toNat:Int))/\w'.cell? ⟨w.heap.size,2,none⟩=some (.slice la ls.length lc)) (fun _=>true) (by kernel_rfl) ⟨c0,c1,c2⟩ (fun b7 => ?_);refine tq 1 (h:=tq 3 (h:=tq 4 (h:=tq 6 (h:=tq 7 (h:=tq 9 (h:=tq 10 (h:=tO 0 (h:=?_))))))));go_wp2_with fail;refine (IG (Bytes.nil _ o1) (by simp) 1).mono ?_;rintro e wa ⟨va,oa,rfl,u,zL⟩;have u:aj ai W1 o1 wa oa:=(aj.refl ai W1 o1).drew.trans u;have O:=(u.block _ (au xZ.out) id).trans xZ.out;have a9:=aI (ag (i:=0) O) (aI (ag (i:=1) O) (ag (i:=2) O));have q:=q.trans u;go_wp2_with fail;refine ⟨fun _=>a9, ?_⟩;refine tO 2 (h:=?_);go_wp2_with fail;refine (Ef zL.bytes (by simp) age).mono ?_;rintro e wb ⟨vb,ob,rfl,E,zK⟩;have E:aj ai wa oa wb ob:=E;have U:=(E.block _ (au O) id).trans O;have b2:=aI (ag (i:=0) U) (aI (ag (i:=1) U) (ag (i:=2) U));have q:=q.trans E;go_wp2_with fail;refine ⟨fun _=>b2, ?_⟩;refine tO 5 (h:=?_);go_wp2_with fail;refine (Ef zK.bytes (by simp [Az]) p).mono ?_;rintro e wc ⟨vc,oc,rfl,F,zJ⟩;have F:aj ai wb ob wc oc:=F;have W:=(F.block _ (au U) id).trans U;have b3:=aI (ag (i:=0) W) (aI (ag (i:=1) W) (ag (i:=2) W));have q:=q.trans F;go_wp2_with fail;refine ⟨fun _=>b3, ?_⟩;refine tO 8 (h:=?_);go_wp2_with fail;refine (Ef zJ.bytes (by simp [Az]) c).mono ?_;rintro e wd ⟨vd,od,rfl,J,zI⟩;have J:aj ai wc oc wd od:=J;have Y:=(J.block _ (au W) id).trans W;have b4:=aI (ag (i:=0) Y) (aI (ag (i:=1) Y) (ag (i:=2) Y));have q:=q.trans J;go_wp2_with fail;refine ⟨fun _=>b4, ?_⟩;refine tO 11 (h:=?_);go_wp2_with fail;refine (Lm zI.bytes (((((a8.out.step u id).step E id).step F id)).step J id) (by simp [Az];have:=a7.out;omega) a7.out.1).mono ?_;rintro e wf ⟨vf,of,rfl,a2,zH⟩;have a2:aj ai wd od wf of:=a2;have a5:=(a2.block _ (au Y) id).trans Y;have b5:=aI (ag (i:=0) a5) (aI (ag (i:=1) a5) (ag (i:=2) a5));have q:=q.trans a2;go_wp2_with fail;refine ⟨fun _=>b5, ?_⟩;refine tq 12 (h:=tD (h:=?_));have b6:=(zH.low (w:=w) (by have:=(((qH.out.trans u).trans E).trans F).trans J;exact this.size)).congr (l':=IY age p c ls) (by simp [IY]);clear zH zI zJ zK zL;go_wp2_with fail;go_ret;exact ⟨_,_,rfl,q,b6⟩
def Iu (pr:Ar->Bool) (ls:List Ar):Int:=match ls.findIdx? pr with
 | some i=>(i:Int)
 | none => -1
theorem TT {pr:Ar->Bool}{ls:List Ar}{k:Nat}{x:Ar}(q:ls[k]?=some x) (hp:pr x=true) (r:∀ j y,j<k->ls[j]?=some y->pr y=false):Iu pr ls=(k:Int):=by
 have u:=(List.getElem?_eq_some_iff.1 q).1;have:ls.findIdx? pr=some k:=by
  rw [List.findIdx?_eq_some_iff_getElem];refine ⟨u, ?_,fun j E => ?_⟩
  ·rw [(List.getElem?_eq_some_iff.1 q).2];exact hp
  ·rw [r j _ E (List.getElem?_eq_getElem om)];simp
 unfold Iu;rw [this]
theorem TU {pr:Ar->Bool}{ls:List Ar}(r:∀ j y,j<ls.length->ls[j]?=some y->pr y=false):Iu pr ls = -1:=by
 have:ls.findIdx? pr=none:=by
  rw [List.findIdx?_eq_none_iff];intro x u;obtain ⟨j,q⟩:=List.mem_iff_getElem?.1 u;exact r j x (List.getElem?_eq_some_iff.1 q).1 q
 unfold Iu;rw [this]
theorem VL (pr:Ar->Bool) (ls:List Ar):decide (Iu pr ls ≥ 0)=ls.any pr:=by
 unfold Iu;cases h:ls.findIdx? pr with
 | none =>
  rw [List.findIdx?_eq_none_iff] at h;have:ls.any pr=false:=by rw [List.any_eq_false];intro x q;simp [h x q]
  rw [this];rfl
 | some i =>
  rw [List.findIdx?_eq_some_iff_getElem] at h;obtain ⟨r,hp, -⟩:=h;have:ls.any pr=true:=List.any_eq_true.2 ⟨_,List.getElem_mem r,hp⟩;rw [this];simp
def Says (w:World) (o:Own) (fid:Nat) (cp:Array Value) (ls:List Ar) (pr:Ar->Bool):Prop:=
 ∀ w1 o1,aj ai w o w1 o1->∀ x bv,x ∈ ls->Bytes w1 o1 bv x.b->Calls prog fid (#[.agg #[.int .u64 (x.e.toNat:Int),bv]]++cp) w1 (XL ai w1 o1 fun v _ _=>v = .bool (pr x))
theorem Xi {w:World}{o:Own}{base:Nat}{lv:Value}{ls:List Ar}(h:Lines w o base lv ls) (hn:ls.length<=100000) (u:Nat) (cp:Array Value) (pr:Ar->Bool)
  (Y:∀ (args:Array Value) (x:World),(callFunc u args).run prog x = .ok (.enter u args) x) (hs:Says w o u cp ls pr) :
  Calls prog 178 #[lv, .func (.func u) #[] cp] w (XL ai w o fun v _ _=>v = .int .i64 (Iu pr ls)):=by
 obtain ⟨la,lc,rfl⟩:=h.form;obtain ⟨N,J⟩:=az (ls.length);rw [J] at h hn ⊢;have a8:=ae h;have a2:=ae J;have a9:=ae hs;have WV:=ae Y;have b6:(0:Int)<=(N:Int)/\(N:Int)<=100000:=om
 clear h J hs Y;go_enter func178,ntmps178;go_wp2_with fail
 go_loopw [8] (fun i wr=>∃ (k:Nat) (E:Own),k<=N/\i = .int .i64 k/\aj ai w o wr E/\Hid (∀ j y,j<k->ls[j]?=some y->pr y=false)) (fun i _=>N - (intOf i).toNat)
 case atStart=>exact ⟨0,o,om,rfl,aj.refl _ _ _,ae (fun j y O=>om)⟩
 case round =>
  obtain ⟨k,E,hk,rfl,q,U⟩:=hrel
  by_cases b1:k<N
  ·obtain ⟨x,F⟩:∃ x,ls[k]?=some x:=⟨_,List.getElem?_eq_getElem (by rw [a2.out];exact b1)⟩;obtain ⟨b,off,bv,b2,a3,a4, -, -, -⟩:=(a8.out.step q id).at F;subst b2;have a5:=ae (TG a3);have hf:=a9.out wr E q x bv (List.mem_of_getElem? F) a4;have b3:=WV.out;have xY:=ae hf;have a6:=ae F;clear a3 a4 hf F
   go_wp2_with ((with_reducible apply Bo);exact a5.out;simp only [Act.put,GL,DL,lss])
   refine xY.out.mono ?_;rintro e w1 ⟨v1,o1,rfl,a7,rfl⟩;have q:=q.trans a7;clear a7 xY a5 b3
   cases hp:pr x with
   | true =>
    have W:=TT a6.out hp U.out;go_wp2_with fail;go_ret;exact ⟨_,o1,rfl,q,by rw [W];rfl⟩
   | false =>
    have b4:Hid (∀ j y,j<k+1->ls[j]?=some y->pr y=false):=ae fun j y O r=>by
     by_cases b5:j=k
     ·subst b5;rw [a6.out] at r;cases r;exact hp
     ·exact U.out j y om r
    clear hp;go_wp2_with fail;go_roundw
    case rel=>exact ⟨k+1,o1,om,by go_num,q,b4⟩
    case measure=>simp [intOf];omega
  ·obtain rfl:N=k:=om
   have W:=ae (TU (pr:=pr) (ls:=ls) (fun j y O r=>U.out j y (by rw [<-a2.out];exact O) r));go_wp2_with fail;go_ret;exact ⟨_,E,rfl,q,by rw [W.out];rfl⟩
theorem Jt {w:World}{o:Own}{base:Nat}{lv:Value}{ls:List Ar}(h:Lines w o base lv ls) (hn:ls.length<=100000) (q:Nat) (cp:Array Value) (pr:Ar->Bool)
  (u:∀ (args:Array Value) (x:World),(callFunc q args).run prog x = .ok (.enter q args) x) (E:Says w o q cp ls pr) :
  Calls prog 129 #[lv, .func (.func q) #[] cp] w (XL ai w o fun v _ _=>v = .bool (ls.any pr)):=by
 have F:=ae (Xi h hn q cp pr u E);have r:=VL pr ls;obtain ⟨I,hI⟩:=az (Iu pr ls);rw [hI] at F r;have J:=ae r;clear h u E hI r;go_enter func129,ntmps129;go_wp2_with fail;refine F.out.mono ?_;rintro e U ⟨W,o1,rfl,O,rfl⟩;go_wp2_with fail;go_ret;exact ⟨_,o1,rfl,O,by rw [<-J.out];rfl⟩
def badL (top:BitVec 64) (x:Ar):Bool:=decide (x.e.toNat<1) || decide (top.toNat<x.e.toNat) || decide (x.b.length<1) || decide (4096<x.b.length)
theorem YZ {w:World}{o:Own}(top:BitVec 64) (tb:Nat) (ht:Box w o tb 34 (.int .u64 (top.toNat:Int))) (x:Ar) (bv:Value) (hb:Bytes w o bv x.b) :
  Calls prog 177 #[.agg #[.int .u64 (x.e.toNat:Int),bv], .pointer (some ⟨tb,0,none⟩)] w (XL ai w o fun v _ _=>v = .bool (badL top x)):=by
 obtain ⟨O,U,rfl⟩:=Aq hb;have W:=(aj.refl ai w o).alloc (.cells #[.int .u64 (x.e.toNat:Int), .slice O x.b.length U] 41) (0,0);have ct:=(ht.step W id).cell;have Y:(w.alloc (.cells #[.int .u64 (x.e.toNat:Int), .slice O x.b.length U] 41)).heap[w.heap.size]?=some (.cells [.int .u64 (x.e.toNat:Int), .slice O x.b.length U].toArray 41 (0,0)):=heap_alloc_new w _;have c0:=ag Y 0;have c1:=ag Y 1;simp only [ay,ax] at c0 c1;have E:=ae W;have hu:badL top x=(decide (x.e.toNat<1) || decide (top.toNat<x.e.toNat) || decide (x.b.length<1) || decide (4096<x.b.length)):=rfl;have F:=ae hu;have he:=x.e.isLt;have a6:=top.isLt;generalize x.b.length=q at *;generalize x.e.toNat=r at *;generalize top.toNat=te at *;clear W Y hb ht hu
 by_cases u:r<1
 ·have a3:(r:Int)<1:=om
  go_enter func177,ntmps177;go_wp2_with fail;go_ret;exact ⟨_,_,rfl,E.out,by rw [F.out];simp [u]⟩
 ·have a3:¬ (r:Int)<1:=om
  by_cases J:te<r
  ·have a4:(te:Int)<(r:Int):=om
   go_enter func177,ntmps177;go_wp2_with fail;go_ret;exact ⟨_,_,rfl,E.out,by rw [F.out];simp [u,J]⟩
  ·have a4:¬ (te:Int)<(r:Int):=om
   by_cases h3:q<1
   ·have a5:(q:Int)<1:=om
    go_enter func177,ntmps177;go_wp2_with fail;go_ret;exact ⟨_,_,rfl,E.out,by rw [F.out];simp [u,J,h3]⟩
   ·have a5:¬ (q:Int)<1:=om
    go_enter func177,ntmps177;go_wp2_with fail;go_ret;exact ⟨_,_,rfl,E.out,by
     rw [F.out]
     by_cases h4:4096<q
     ·have a2:(4096:Int)<(q:Int):=om
      simp [u,J,h3,h4,a2]
     ·have a2:¬ (4096:Int)<(q:Int):=om
      simp [u,J,h3,h4,a2]⟩
theorem VG {w:World}{o:Own}{base:Nat}{lv:Value}{ls:List Ar}(h:Lines w o base lv ls) (hn:ls.length<=100000) (top:BitVec 64) :
  Calls prog 128 #[lv, .int .u64 (top.toNat:Int)] w (XL ai w o fun v _ _=>v = .bool (!ls.any (badL top))):=by
 have q:=(aj.refl ai w o).alloc (.cells #[.int .u64 (top.toNat:Int)] 34) (0,0);have hb:=Box.new w o 34 (.int .u64 (top.toNat:Int));have hc:=Jt (h.step q id) hn 177 #[.pointer (some ⟨w.heap.size,0,none⟩)] (badL top) Tryz.call177 (fun r o1 st x bv _ u=>YZ top w.heap.size (hb.step st id) x bv u);obtain ⟨O,U,rfl⟩:=h.form;have W:∀ (fn:Fn) (first cap:Array Value) (w:World),(Instr.makeFunc fn first cap).run prog w = .ok (.func fn first cap) w:=fun _ _ _ _=>rfl
 have E:=ae hc;clear hc hb h;have F:=ae q;clear q;go_enter func128,ntmps128;go_wp2_with fail;refine E.out.mono ?_;rintro e r ⟨Y,o1,rfl,J,rfl⟩;go_wp2_with fail;go_ret;exact ⟨_,o1,rfl,F.out.trans J,rfl⟩
structure AX where
 promised:BitVec 64
 current:BitVec 64
 lines:List Ar
structure AZ where
 cur:Ad
 Us:Ad
 d:Af
 pages:Nat
 age:BitVec 64
 kept:AX
 dead:Bool
def qG (S A B D:Nat):Nat->Prop:=fun t=>t=S \/ t=A \/ t=B \/ t=D
def storeCells (pd:Nat) (x1 x2:Value) (pages k:Nat) (age p c:BitVec 64) (kv:Value) (dead:Bool):List Value:=
 [.pointer (some ⟨pd,0,none⟩),x1,x2, .int .i64 (pages:Int), .int .i64 (k:Int), .int .u64 (age.toNat:Int), .int .u64 (p.toNat:Int), .int .u64 (c.toNat:Int),kv, .bool dead]
def DF (w:World) (o:Own) (S ps pd pa pb k:Nat) (kv:Value) (s:AZ):Prop:=
 ∃ x1 x2,w.heap[ps]?=some (.cells (storeCells pd x1 x2 s.pages k s.age s.kept.promised s.kept.current kv s.dead).toArray 165 (0,0)) /\
  ((k=0/\x1 = .pointer (some ⟨pa,0,none⟩)/\x2 = .pointer (some ⟨pb,0,none⟩)) \/ (k=1/\x1 = .pointer (some ⟨pb,0,none⟩)/\x2 = .pointer (some ⟨pa,0,none⟩)))/\o ps=(S,0)
def Bi (w:World) (o:Own) (S A B D ps pd base:Nat) (s:AZ):Prop:=
 ∃ X Y pa pb k kv,((X=A/\Y=B) \/ (X=B/\Y=A))/\DF w o S ps pd pa pb k kv s/\Lines w o base kv s.kept.lines/\BZ w o X pa pd s.cur/\BZ w o Y pb pd s.Us/\Bg w o D pd s.d
theorem DF.step {T:Nat->Prop}{w w':World}{o o':Own}{S ps pd pa pb k:Nat}{kv:Value}{s:AZ}(h:DF w o S ps pd pa pb k kv s) (st:aj T w o w' o') (u:¬ T S):DF w' o' S ps pd pa pb k kv s:=by
 obtain ⟨E,F,q,J,r⟩:=h;have hl:=au q;exact ⟨E,F,by rw [st.block ps hl (by rw [r];exact u)];exact q,J,by rw [st.own ps hl];exact r⟩
theorem Bi.step {T:Nat->Prop}{w w':World}{o o':Own}{S A B D ps pd base:Nat}{s:AZ}(h:Bi w o S A B D ps pd base s) (st:aj T w o w' o') (q:∀ t,T t->t ≠ 0/\¬ qG S A B D t):Bi w' o' S A B D ps pd base s:=by
 obtain ⟨X,Y,J,O,k,U,hp,hb,hl,r,u,W⟩:=h;have h0:¬ T 0:=fun h=>(q 0 h).1 rfl;have hS:¬ T S:=fun h=>(q S h).2 (.inl rfl);have E:¬ T A:=fun h=>(q A h).2 (.inr (.inl rfl));have F:¬ T B:=fun h=>(q B h).2 (.inr (.inr (.inl rfl)));have hD:¬ T D:=fun h=>(q D h).2 (.inr (.inr (.inr rfl)));refine ⟨X,Y,J,O,k,U,hp,hb.step st hS,hl.step st h0, ?_, ?_,W.step st hD⟩
 ·rcases hp with ⟨rfl,rfl⟩ | ⟨rfl,rfl⟩
  ·exact r.step st E h0
  ·exact r.step st F h0
 ·rcases hp with ⟨rfl,rfl⟩ | ⟨rfl,rfl⟩
  ·exact u.step st F h0
  ·exact u.step st E h0
theorem Bi.step0 {w w':World}{o o':Own}{S A B D ps pd base:Nat}{s:AZ}(h:Bi w o S A B D ps pd base s) (st:aj ai w o w' o'):Bi w' o' S A B D ps pd base s:=h.step st fun _ h=>h.elim
theorem Bi.low {w:World}{o:Own}{S A B D ps pd base b:Nat}{s:AZ}(h:Bi w o S A B D ps pd base s) (hb:b<=base):Bi w o S A B D ps pd b s:=by
 obtain ⟨X,Y,q,r,k,u,hp,E,hl,F,J,O⟩:=h;exact ⟨X,Y,q,r,k,u,hp,E,hl.low hb,F,J,O⟩
theorem DF.cells {w:World}{o:Own}{S ps pd pa pb k:Nat}{kv:Value}{s:AZ}(h:DF w o S ps pd pa pb k kv s) :
  (w.cell? ⟨ps,0,none⟩=some (.pointer (some ⟨pd,0,none⟩))/\w.cell? ⟨ps,3,none⟩=some (.int .i64 (s.pages:Int))/\w.cell? ⟨ps,4,none⟩=some (.int .i64 (k:Int))/\w.cell? ⟨ps,5,none⟩=some (.int .u64 (s.age.toNat:Int)) /\
   w.cell? ⟨ps,6,none⟩=some (.int .u64 (s.kept.promised.toNat:Int))/\w.cell? ⟨ps,7,none⟩=some (.int .u64 (s.kept.current.toNat:Int))/\w.cell? ⟨ps,8,none⟩=some kv/\w.cell? ⟨ps,9,none⟩=some (.bool s.dead)) /\
  (w.cell? ⟨ps,1+k,none⟩=some (.pointer (some ⟨pa,0,none⟩))/\w.cell? ⟨ps,1+(1 - k),none⟩=some (.pointer (some ⟨pb,0,none⟩)))/\(∀ i,w.frozen? ⟨ps,i,none⟩=false)/\k<=1/\ps<w.heap.size/\(o ps).1=S /\
  w.rangeAt ps 6 [.int .u64 (s.kept.promised.toNat:Int), .int .u64 (s.kept.current.toNat:Int),kv]:=by
 obtain ⟨F,J,r,u,E⟩:=h;have c:=ag r;refine ⟨⟨c 0,c 3,c 4,c 5,c 6,c 7,c 8,c 9⟩, ?_,fun i=>Ap r i, ?_,au r,by rw [E],fun j v q => ?_⟩
 ·rcases u with ⟨rfl,rfl,rfl⟩ | ⟨rfl,rfl,rfl⟩
  ·exact ⟨c 1,c 2⟩
  ·exact ⟨c 2,c 1⟩
 ·rcases u with ⟨rfl, -⟩ | ⟨rfl, -⟩ <;> omega
 ·match j with
  | 0=>simp only [ay,Option.some.injEq] at q;subst q;exact c 6
  | 1=>simp only [ax,ay,Option.some.injEq] at q;subst q;exact c 7
  | 2=>simp only [ax,ay,Option.some.injEq] at q;subst q;exact c 8
  | j+3=>simp at q
theorem KH {w:World}{o:Own}{S A B D ps pd base:Nat}{s:AZ}(h:Bi w o S A B D ps pd base s) :
  Calls prog 94 #[.pointer (some ⟨ps,0,none⟩)] w fun e w'=>e = .returned (.bool (s.dead || s.d.dead))/\w=w':=by
 obtain ⟨X,Y,F,J,k,O, -,hb, -, -, -,q⟩:=h;obtain ⟨⟨U, -, -, -, -, -, -,r⟩, -⟩:=hb.cells;have E:=Ic q;clear hb q
 cases u:s.dead with
 | true =>
  rw [u] at r;go_enter func94,ntmps94;go_wp2_with fail;go_ret;exact ⟨rfl,rfl⟩
 | false =>
  rw [u] at r;go_enter func94,ntmps94;go_wp2_with fail;refine E.mono ?_;rintro e w' ⟨rfl,rfl⟩;go_wp2_with fail;go_ret;exact ⟨rfl,rfl⟩
theorem IM {w:World}{b off:Nat}{p c:BitVec 64}{lv:Value}(q:w.rangeAt b off [.int .u64 (p.toNat:Int), .int .u64 (c.toNat:Int),lv]):(Instr.loadAt 37 (.pointer (some ⟨b,off,none⟩))).run prog w = .ok (Dy p c lv) w:=OV q
def small (ls:List Ar):Prop:=ls.length<=1000/\(encs ls).length<=1200000
theorem KG {ls:List Ar}(h:small ls):∀ x ∈ ls,x.b.length<=1200000:=by
 intro x r;have E:=h.2;obtain ⟨i,u⟩:=List.mem_iff_getElem?.1 r;have q:=Hf ls (i+1);rw [List.take_add_one,u] at q;have e:encs (ls.take i++(some x).toList)=encs (ls.take i)++x.enc:=KU _ _;rw [e,List.length_append,Jj] at q;omega
theorem WO {w:World}{o:Own}{S A B D ps pd base:Nat}{s:AZ}(h:Bi w o S A B D ps pd base s) (a2:small s.kept.lines) :
  Calls prog 61 #[.pointer (some ⟨ps,0,none⟩)] w (XL ai w o fun v w' o'=>∃ lv,v=Dy s.kept.promised s.kept.current lv/\Lines w' o' w.heap.size lv s.kept.lines/\o'=ext w o/\Jz w' w.heap.size lv s.kept.lines):=by
 obtain ⟨X,Y,pa,pb,k,kv, -,hb,hl, -, -, -⟩:=h;obtain ⟨la,lc,rfl⟩:=hl.form;have q:=(aj.refl ai w o).alloc (.cells #[.int .u64 0, .int .u64 0, .slice none 0 0] 37) (0,0);have r:(w.alloc (.cells #[.int .u64 0, .int .u64 0, .slice none 0 0] 37)).heap[w.heap.size]?=some (.cells [.int .u64 0, .int .u64 0, .slice none 0 0].toArray 37 (0,0)):=heap_alloc_new w _;have J:=ae (AB (P:=prog) w 37 _ LX);obtain ⟨O,a3⟩:=az (w.alloc (.cells #[.int .u64 0, .int .u64 0, .slice none 0 0] 37));rw [a3] at J q r;generalize Ak o w.heap.size (0,0)=o1 at *;obtain ⟨-, -, -, -, -, -,hr⟩:=(hb.step q id).cells;have a4:=ae (IM hr);have a5:=ae (UY (p:=s.kept.promised) (c:=s.kept.current) (hl.step q id) (by have:=a2.1;omega) (fun x U=>by have:=KG a2 x U;omega));have E:w.heap.size<O.heap.size:=au r;have a6:=q;clear hb hl a3 hr q;go_enter func61,ntmps61
 go_wp2_with (first
  | ((with_reducible apply Bo);exact a4.out;simp only [Act.put,GL,DL,lss])
  | ((with_reducible apply AU);exact J.out;simp only [Act.put,GL,DL,lss]))
 refine a5.out.mono ?_;rintro e w2 ⟨v2,o2,rfl,W,lv,rfl,F,rfl,a7⟩;have b2:=(W.block _ E id).trans r;have b4:lv.oneCell'=true:=by obtain ⟨a,c,rfl⟩:=F.form;rfl
 obtain ⟨a8,b5⟩:=Ba (P:=prog) (ty:=37) (vs:=[.int .u64 (s.kept.promised.toNat:Int), .int .u64 (s.kept.current.toNat:Int),lv]) b2 rfl (by kernel_rfl) (by obtain ⟨a,c,rfl⟩:=F.form;rfl);have b6:=ae a8;have a9:=a6.trans W;have b7:=a9.setCells w.heap.size 0 [.int .u64 (s.kept.promised.toNat:Int), .int .u64 (s.kept.current.toNat:Int),lv] (.inr (Nat.le_refl _));have b3:∀ k,w.heap.size<=k->(ext w o k).1=0:=fun k hk=>by unfold ext;rw [if_neg om]
 have b8:=(aj.refl (ak 1) w2 (fun k=>if k=w.heap.size then (1,0) else ext O o1 k)).setCells w.heap.size 0 [.int .u64 (s.kept.promised.toNat:Int), .int .u64 (s.kept.current.toNat:Int),lv] (.inl (by simp;rfl))
 have b9:=ae (show Lines (w2.setCells w.heap.size 0 [.int .u64 (s.kept.promised.toNat:Int), .int .u64 (s.kept.current.toNat:Int),lv]) (ext w o) w.heap.size lv s.kept.lines from by
  obtain ⟨cs,k1,k2,k3,k4⟩:=F.low (show w.heap.size+1<=O.heap.size by omega);refine ⟨cs, ?_,⟨k2.1,fun i x U => ?_⟩,k3.low om,fun u hu=>(k4 u hu).low om⟩
  ·rcases k1 with h | ⟨b,off,cap,rfl,y1,y2,y3,y4,y5⟩
   ·exact .inl h
   ·have c0:=k3 b rfl;refine .inr ⟨b,off,cap,rfl,y1,y2,b3 b om,by rw [size_setCells];exact y4,Cf y5 (ah _ _ _ _ _ om)⟩
  ·obtain ⟨m1,bv,m2,m3⟩:=k2.2 i x U;refine ⟨m1,bv,m2, ?_⟩;have c3:=k4 bv (List.mem_of_getElem? m2)
   rcases m3 with h | ⟨b,off,cap,rfl,y1,y2,y3,y4,y5⟩
   ·exact .inl h
   ·have c0:=c3 b rfl;exact .inr ⟨b,off,cap,rfl,y1,y2,b3 b om,by rw [size_setCells];exact y4,Cf y5 (ah _ _ _ _ _ om)⟩)
 have c4:=ae ((a7.setCells (off:=0) (vs:=[.int .u64 (s.kept.promised.toNat:Int), .int .u64 (s.kept.current.toNat:Int),lv]) E).low (Nat.le_of_lt E));clear a7 a8 b2 F W a6 a9 b8 J a4 a5 b4 E r
 go_wp2_with ((with_reducible apply AC);exact b6.out;simp only [Act.put])
 refine bodyPost_ret (results_cell_row rfl _ _ w.heap.size 37 _ (0,0) _ rfl b5 underlying37 rfl Ij) rfl ?_;exact ⟨_,ext w o,rfl,b7.Me _ (fun k hk=>if_pos hk),_,rfl,b9.out,rfl,c4.out⟩
theorem DJ {w:World}{o:Own}{S A B D ps pd base:Nat}{s:AZ}(h:Bi w o S A B D ps pd base s) (q:small s.kept.lines) :
  Calls prog 61 #[.pointer (some ⟨ps,0,none⟩)] w (XL ai w o fun v w' o'=>∃ lv,v=Dy s.kept.promised s.kept.current lv/\Lines w' o' w.heap.size lv s.kept.lines/\o'=ext w o):=by
 refine (WO h q).mono ?_;rintro e w' ⟨v,o',rfl,r,lv,u,E,F, -⟩;exact ⟨v,o',rfl,r,lv,u,E,F⟩
theorem TD {w:World}{o:Own}{S A B D ps pd base:Nat}{s:AZ}(h:Bi w o S A B D ps pd base s) (q:Nat) (cp:Array Value) (r:Bool)
  (F:∀ (args:Array Value) (x:World),(callFunc q args).run prog x = .ok (.enter q args) x) (J:Calls prog q cp w (XL ai w o fun v _ _=>v = .bool r)) :
  Calls prog 125 #[.pointer (some ⟨ps,0,none⟩), .func (.func q) #[] cp] w (XL ai w o fun v _ _=>v = .int .i64 (if s.dead || s.d.dead then 9 else if r then 0 else 1)):=by
 have u:=ae (KH h);have Y:=F;have O:=ae J;clear h F J
 cases E:(s.dead || s.d.dead) with
 | true =>
  rw [E] at u;go_enter func125,ntmps125;go_wp2_with fail;refine u.out.mono ?_;rintro e w' ⟨rfl,rfl⟩;go_wp2_with fail;go_ret;exact ⟨_,o,rfl,aj.refl _ _ _,rfl⟩
 | false =>
  rw [E] at u;clear E;go_enter func125,ntmps125;go_wp2_with fail;refine u.out.mono ?_;rintro e w' ⟨rfl,rfl⟩;go_wp2_with fail;have U:=O.out;refine U.mono ?_;rintro e w1 ⟨v1,o1,rfl,W,rfl⟩;clear U O Y
  cases r with
  | true =>
   go_wp2_with fail;go_ret;exact ⟨_,o1,rfl,W,rfl⟩
  | false =>
   go_wp2_with fail;go_ret;exact ⟨_,o1,rfl,W,rfl⟩
def AX.EK (k:AX) (e:BitVec 64):Bool:=decide (k.promised.toNat<e.toNat) && decide (e.toNat<=281474976710656)
def AX.Gg (k:AX) (e:BitVec 64) (ls:List Ar):Bool:=
 decide (k.promised.toNat<=e.toNat) && decide (k.current.toNat<e.toNat) && decide (e.toNat<=281474976710656) && decide (ls.length<=256) && !ls.any (badL e)
def Ho:BitVec 64:=281474976710656#64
def AX.Eu (k:AX) (ls:List Ar):Bool:=
 decide (0<ls.length) && decide (ls.length+k.lines.length<=256) && !ls.any (badL Ho) && !ls.any fun x => !(x.e == k.current)
section
variable {w:World}{o:Own}{S A B D ps pd base:Nat}{s:AZ}
theorem Tf (h:Bi w o S A B D ps pd base s) (e:BitVec 64) (q sb:Nat) (O:Box w o q 34 (.int .u64 (e.toNat:Int))) (U:Box w o sb 92 (.pointer (some ⟨ps,0,none⟩))) :
  Calls prog 193 #[.pointer (some ⟨q,0,none⟩), .pointer (some ⟨sb,0,none⟩)] w (XL ai w o fun v _ _=>v = .bool (s.kept.EK e)):=by
 obtain ⟨X,Y,pa,pb,k,kv, -,hb, -, -, -, -⟩:=h;obtain ⟨⟨-, -, -, -,W, -, -, -⟩, -⟩:=hb.cells;have ce:=O.cell;have cs:=U.cell;unfold AX.EK;have a2:=ae (aj.refl ai w o).drew;have hS:=ae (aI ce (aI cs W));generalize s.kept.promised.toNat=P at *;generalize e.toNat=E at *;clear hb O U ce cs W
 by_cases u:P<E
 ·have a4:(P:Int)<(E:Int):=om
  obtain ⟨r,F⟩:=az (decide (E<=281474976710656));have a3:decide ((E:Int)<=281474976710656)=r:=by rw [<-F];apply decide_eq_decide.2;omega
  have tN:=ae a3;have J:=ae (show (decide (P<E) && decide (E<=281474976710656))=r by rw [F];simp [u]);clear F a3 u;go_enter func193,ntmps193;go_wp2_with fail;refine Aa (fun w'=>w'.cell? ⟨q,0,none⟩=some (.int .u64 (E:Int))/\w'.cell? ⟨sb,0,none⟩=some (.pointer (some ⟨ps,0,none⟩))/\w'.cell? ⟨ps,6,none⟩=some (.int .u64 (P:Int))) (fun _=>true) (by kernel_rfl) hS.out (fun a5 => ?_);refine tq 0 (h:=tq 1 (h:=tq 2 (h:=tq 3 (h:=tq 4 (h:=tq 5 (h:=tg 6 (.bool true) (h:=tq 7 (h:=tq 8 (h:=tv 9 (.bool r) (hy:=fun w a6=>by (try dsimp only at a6);go_simp;exact tN.out) (h:=tg 10 (.bool r) (h:=tq 11 (h:=tD (h:=?_)))))))))))));go_wp2_with fail;go_ret;exact ⟨_,o,rfl,a2.out,by rw [J.out];rfl⟩
 ·have a4:¬ (P:Int)<(E:Int):=om
  have J:=ae (show (decide (P<E) && decide (E<=281474976710656))=false by simp [u]);clear u;go_enter func193,ntmps193;go_wp2_with fail;refine Aa (fun w'=>w'.cell? ⟨q,0,none⟩=some (.int .u64 (E:Int))/\w'.cell? ⟨sb,0,none⟩=some (.pointer (some ⟨ps,0,none⟩))/\w'.cell? ⟨ps,6,none⟩=some (.int .u64 (P:Int))) (fun _=>true) (by kernel_rfl) hS.out (fun a5 => ?_);refine tq 0 (h:=tq 1 (h:=tq 2 (h:=tq 3 (h:=tq 4 (h:=tq 5 (h:=tw 6 (.bool false) (h:=tq 7 (h:=ts 8 (h:=ts 9 (h:=tg 10 (.bool false) (h:=tq 11 (h:=tD (h:=?_)))))))))))));go_wp2_with fail;go_ret;exact ⟨_,o,rfl,a2.out,by rw [J.out];rfl⟩
theorem XA (h:Bi w o S A B D ps pd base s) (e:BitVec 64) (u sb lb a8:Nat) (lv:Value) (ls:List Ar) (he:Box w o u 34 (.int .u64 (e.toNat:Int))) (hs:Box w o sb 92 (.pointer (some ⟨ps,0,none⟩))) (a4:Box w o lb 35 lv) (hl:Lines w o a8 lv ls) (hn:ls.length<=100000) :
  Calls prog 247 #[.pointer (some ⟨u,0,none⟩), .pointer (some ⟨sb,0,none⟩), .pointer (some ⟨lb,0,none⟩)] w (XL ai w o fun v _ _=>v = .bool (s.kept.Gg e ls)):=by
 obtain ⟨X,Y,pa,pb,k,kv, -,hb, -, -, -, -⟩:=h;obtain ⟨⟨-, -, -, -,c6,c7, -, -⟩, -⟩:=hb.cells;have ce:=he.cell;have cs:=hs.cell;have cl:=a4.cell;have a5:=ae (VG (hl.step (aj.refl ai w o).drew id) hn e);obtain ⟨J,O,rfl⟩:=hl.form;unfold AX.Gg;have a2:=ae (aj.refl ai w o).drew;have U:=ae (aI ce (aI cs (aI cl (aI c6 c7))));obtain ⟨r,hr⟩:=az ((!ls.any (badL e)));rw [hr] at a5 ⊢;generalize s.kept.promised.toNat=P at *;generalize s.kept.current.toNat=C at *;generalize e.toNat=E at *;generalize ls.length=N at *;clear hb he hs ce cs c6 c7 cl hr hl a4
 by_cases h0:P<=E
 ·have a9:(P:Int)<=(E:Int):=om
  by_cases F:C<E
  ·have b1:(C:Int)<(E:Int):=om
   by_cases W:E<=281474976710656
   ·have b2:(E:Int)<=281474976710656:=om
    by_cases h3:N<=256
    ·have b3:(N:Int)<=256:=om
     have q:=ae (show (decide (P<=E) && decide (C<E) && decide (E<=281474976710656) && decide (N<=256) && r)=r by simp [h0,F,W,h3]);clear h0 F W h3;go_enter func247,ntmps247;go_wp2_with fail;refine Aa (fun w'=>w'.cell? ⟨u,0,none⟩=some (.int .u64 (E:Int))/\w'.cell? ⟨sb,0,none⟩=some (.pointer (some ⟨ps,0,none⟩))/\w'.cell? ⟨lb,0,none⟩=some (.slice J N O)/\w'.cell? ⟨ps,6,none⟩=some (.int .u64 (P:Int))/\w'.cell? ⟨ps,7,none⟩=some (.int .u64 (C:Int))) (fun _=>true) (by kernel_rfl) U.out (fun a3 => ?_);refine tq 0 (h:=tq 1 (h:=tq 2 (h:=tq 3 (h:=tq 4 (h:=tq 5 (h:=tw 6 (.bool true) (h:=tq 7 (h:=tq 8 (h:=tq 9 (h:=tq 10 (h:=tq 11 (h:=tq 12 (h:=tq 13 (h:=?_))))))))))))));refine tw 14 (.bool true) (h:=tg 15 (.bool true) (h:=tq 16 (h:=tq 17 (h:=tw 18 (.bool true) (h:=tg 19 (.bool true) (h:=tq 20 (h:=tq 21 (h:=tq 22 (h:=tw 23 (.bool true) (h:=tg 24 (.bool true) (h:=tq 25 (h:=tq 26 (h:=tq 27 (h:=?_))))))))))))));refine tO 28 (h:=?_);go_wp2_with fail;refine a5.out.mono ?_;rintro e1 w1 ⟨v1,o1,rfl,a6,rfl⟩;have a7:w1.cell? ⟨u,0,none⟩=some (.int .u64 (E:Int))/\w1.cell? ⟨sb,0,none⟩=some (.pointer (some ⟨ps,0,none⟩))/\w1.cell? ⟨lb,0,none⟩=some (.slice J N O)/\w1.cell? ⟨ps,6,none⟩=some (.int .u64 (P:Int))/\w1.cell? ⟨ps,7,none⟩=some (.int .u64 (C:Int)):=by
      obtain ⟨k1,k2,k3,k4,k5⟩:=U.out;have hb:=fun (a:Nat) (i:Nat) (v:Value) (hc:w.cell? ⟨a,i,none⟩=some v)=>(World.cell?_of_block (w:=w) (w':=w1) (a:=⟨a,i,none⟩) (a6.block a (World.block_lt_of_cell? w ⟨a,i,none⟩ (by rw [hc])) id)).trans hc;exact ⟨hb _ _ _ k1,hb _ _ _ k2,hb _ _ _ k3,hb _ _ _ k4,hb _ _ _ k5⟩
     clear a3;go_wp2_with fail;refine ⟨fun _=>a7, ?_⟩;refine tg 29 (.bool r) (h:=tq 30 (h:=tD (h:=?_)));clear a7;go_wp2_with fail;go_ret;exact ⟨_,o1,rfl,a2.out.trans a6,by rw [q.out];rfl⟩
    ·have b3:¬ (N:Int)<=256:=om
     have q:=ae (show (decide (P<=E) && decide (C<E) && decide (E<=281474976710656) && decide (N<=256) && r)=false by simp [h0,F,W,h3]);clear h0 F W h3;go_enter func247,ntmps247;go_wp2_with fail;refine Aa (fun w'=>w'.cell? ⟨u,0,none⟩=some (.int .u64 (E:Int))/\w'.cell? ⟨sb,0,none⟩=some (.pointer (some ⟨ps,0,none⟩))/\w'.cell? ⟨lb,0,none⟩=some (.slice J N O)/\w'.cell? ⟨ps,6,none⟩=some (.int .u64 (P:Int))/\w'.cell? ⟨ps,7,none⟩=some (.int .u64 (C:Int))) (fun _=>true) (by kernel_rfl) U.out (fun a3 => ?_);refine tq 0 (h:=tq 1 (h:=tq 2 (h:=tq 3 (h:=tq 4 (h:=tq 5 (h:=tw 6 (.bool true) (h:=tq 7 (h:=tq 8 (h:=tq 9 (h:=tq 10 (h:=tq 11 (h:=tq 12 (h:=tq 13 (h:=?_))))))))))))));refine tw 14 (.bool true) (h:=tg 15 (.bool true) (h:=tq 16 (h:=tq 17 (h:=tw 18 (.bool true) (h:=tg 19 (.bool true) (h:=tq 20 (h:=tq 21 (h:=tq 22 (h:=tw 23 (.bool false) (h:=tw 24 (.bool false) (h:=tq 25 (h:=ts 26 (h:=ts 27 (h:=?_))))))))))))));refine ts 28 (h:=tw 29 (.bool false) (h:=tq 30 (h:=tD (h:=?_))));go_wp2_with fail;go_ret;exact ⟨_,o,rfl,a2.out,by rw [q.out];rfl⟩
   ·have b2:¬ (E:Int)<=281474976710656:=om
    have q:=ae (show (decide (P<=E) && decide (C<E) && decide (E<=281474976710656) && decide (N<=256) && r)=false by simp [h0,F,W]);clear h0 F W;go_enter func247,ntmps247;go_wp2_with fail;refine Aa (fun w'=>w'.cell? ⟨u,0,none⟩=some (.int .u64 (E:Int))/\w'.cell? ⟨sb,0,none⟩=some (.pointer (some ⟨ps,0,none⟩))/\w'.cell? ⟨lb,0,none⟩=some (.slice J N O)/\w'.cell? ⟨ps,6,none⟩=some (.int .u64 (P:Int))/\w'.cell? ⟨ps,7,none⟩=some (.int .u64 (C:Int))) (fun _=>true) (by kernel_rfl) U.out (fun a3 => ?_);refine tq 0 (h:=tq 1 (h:=tq 2 (h:=tq 3 (h:=tq 4 (h:=tq 5 (h:=tw 6 (.bool true) (h:=tq 7 (h:=tq 8 (h:=tq 9 (h:=tq 10 (h:=tq 11 (h:=tq 12 (h:=tq 13 (h:=?_))))))))))))));refine tw 14 (.bool true) (h:=tg 15 (.bool true) (h:=tq 16 (h:=tq 17 (h:=tw 18 (.bool false) (h:=tw 19 (.bool false) (h:=tq 20 (h:=ts 21 (h:=ts 22 (h:=ts 23 (h:=tw 24 (.bool false) (h:=tq 25 (h:=ts 26 (h:=ts 27 (h:=?_))))))))))))));refine ts 28 (h:=tw 29 (.bool false) (h:=tq 30 (h:=tD (h:=?_))));go_wp2_with fail;go_ret;exact ⟨_,o,rfl,a2.out,by rw [q.out];rfl⟩
  ·have b1:¬ (C:Int)<(E:Int):=om
   have q:=ae (show (decide (P<=E) && decide (C<E) && decide (E<=281474976710656) && decide (N<=256) && r)=false by simp [h0,F]);clear h0 F;go_enter func247,ntmps247;go_wp2_with fail;refine Aa (fun w'=>w'.cell? ⟨u,0,none⟩=some (.int .u64 (E:Int))/\w'.cell? ⟨sb,0,none⟩=some (.pointer (some ⟨ps,0,none⟩))/\w'.cell? ⟨lb,0,none⟩=some (.slice J N O)/\w'.cell? ⟨ps,6,none⟩=some (.int .u64 (P:Int))/\w'.cell? ⟨ps,7,none⟩=some (.int .u64 (C:Int))) (fun _=>true) (by kernel_rfl) U.out (fun a3 => ?_);refine tq 0 (h:=tq 1 (h:=tq 2 (h:=tq 3 (h:=tq 4 (h:=tq 5 (h:=tw 6 (.bool true) (h:=tq 7 (h:=tq 8 (h:=tq 9 (h:=tq 10 (h:=tq 11 (h:=tq 12 (h:=tq 13 (h:=?_))))))))))))));refine tw 14 (.bool false) (h:=tw 15 (.bool false) (h:=tq 16 (h:=ts 17 (h:=ts 18 (h:=tw 19 (.bool false) (h:=tq 20 (h:=ts 21 (h:=ts 22 (h:=ts 23 (h:=tw 24 (.bool false) (h:=tq 25 (h:=ts 26 (h:=ts 27 (h:=?_))))))))))))));refine ts 28 (h:=tw 29 (.bool false) (h:=tq 30 (h:=tD (h:=?_))));go_wp2_with fail;go_ret;exact ⟨_,o,rfl,a2.out,by rw [q.out];rfl⟩
 ·have a9:¬ (P:Int)<=(E:Int):=om
  have q:=ae (show (decide (P<=E) && decide (C<E) && decide (E<=281474976710656) && decide (N<=256) && r)=false by simp [h0]);clear h0;go_enter func247,ntmps247;go_wp2_with fail;refine Aa (fun w'=>w'.cell? ⟨u,0,none⟩=some (.int .u64 (E:Int))/\w'.cell? ⟨sb,0,none⟩=some (.pointer (some ⟨ps,0,none⟩))/\w'.cell? ⟨lb,0,none⟩=some (.slice J N O)/\w'.cell? ⟨ps,6,none⟩=some (.int .u64 (P:Int))/\w'.cell? ⟨ps,7,none⟩=some (.int .u64 (C:Int))) (fun _=>true) (by kernel_rfl) U.out (fun a3 => ?_);refine tq 0 (h:=tq 1 (h:=tq 2 (h:=tq 3 (h:=tq 4 (h:=tq 5 (h:=tw 6 (.bool false) (h:=tq 7 (h:=ts 8 (h:=ts 9 (h:=ts 10 (h:=ts 11 (h:=ts 12 (h:=ts 13 (h:=?_))))))))))))));refine ts 14 (h:=tw 15 (.bool false) (h:=tq 16 (h:=ts 17 (h:=ts 18 (h:=tw 19 (.bool false) (h:=tq 20 (h:=ts 21 (h:=ts 22 (h:=ts 23 (h:=tw 24 (.bool false) (h:=tq 25 (h:=ts 26 (h:=ts 27 (h:=?_))))))))))))));refine ts 28 (h:=tw 29 (.bool false) (h:=tq 30 (h:=tD (h:=?_))));go_wp2_with fail;go_ret;exact ⟨_,o,rfl,a2.out,by rw [q.out];rfl⟩
end
section
variable {w:World}{o:Own}{S A B D ps pd base:Nat}{s:AZ}
theorem WW (h:Bi w o S A B D ps pd base s) (sb:Nat) (W:Box w o sb 92 (.pointer (some ⟨ps,0,none⟩))) (x:Ar) (bv:Value) (a4:Bytes w o bv x.b) :
  Calls prog 127 #[.agg #[.int .u64 (x.e.toNat:Int),bv], .pointer (some ⟨sb,0,none⟩)] w (XL ai w o fun v _ _=>v = .bool (!(x.e == s.kept.current))):=by
 have q:=(aj.refl ai w o).alloc (.cells #[.int .u64 (x.e.toNat:Int),bv] 41) (0,0);have a5:=h.step0 q;have F:=(W.step q id).cell;have b1:(w.alloc (.cells #[.int .u64 (x.e.toNat:Int),bv] 41)).heap[w.heap.size]?=some (.cells [.int .u64 (x.e.toNat:Int),bv].toArray 41 (0,0)):=heap_alloc_new w _;have u:=ag b1 0;simp only [ay] at u;obtain ⟨X,Y,pa,pb,k,kv, -,hb, -, -, -, -⟩:=a5;obtain ⟨⟨-, -, -, -, -,J, -, -⟩, -⟩:=hb.cells;have a2:=ae q.drew;have a3:=ae (show ((x.e.toNat:Int) != (s.kept.current.toNat:Int))=(!(x.e == s.kept.current)) by
  by_cases O:x.e=s.kept.current
  ·rw [O];simp
  ·have:¬ (x.e.toNat:Int)=(s.kept.current.toNat:Int):=fun h=>O (BitVec.eq_of_toNat_eq om);rw [bne_iff_ne.2 this,beq_eq_false_iff_ne.2 O];rfl)
 obtain ⟨r,hr⟩:=az ((!(x.e == s.kept.current)));rw [hr] at a3 ⊢;obtain ⟨ba,bc,rfl⟩:=Aq a4;generalize s.kept.current.toNat=C at *;generalize x.e.toNat=E at *;generalize x.b.length=bl at *;obtain ⟨W1,U⟩:=az (w.alloc (.cells #[.int .u64 (E:Int), .slice ba bl bc] 41));rw [U] at a2 F J u;have uM:=ae U;have hS:=ae (aI u (aI F J));clear hb b1 q W h U u F J hr;go_enter func127,ntmps127;go_wp2_with fail;rw [uM.out];refine Aa (fun w'=>w'.cell? ⟨w.heap.size,0,none⟩=some (.int .u64 (E:Int))/\w'.cell? ⟨sb,0,none⟩=some (.pointer (some ⟨ps,0,none⟩))/\w'.cell? ⟨ps,7,none⟩=some (.int .u64 (C:Int))) (fun _=>true) (by kernel_rfl) hS.out (fun a7 => ?_);refine tq 0 (h:=tq 1 (h:=tq 2 (h:=tq 3 (h:=tq 4 (h:=tq 5 (h:=tq 6 (h:=tv 7 (.bool r) (hy:=fun w a6=>by (try dsimp only at a6);go_simp;exact a3.out) (h:=tq 8 (h:=tD (h:=?_))))))))));go_wp2_with fail;go_ret;exact ⟨_,_,rfl,a2.out,rfl⟩
theorem Wj (h:Bi w o S A B D ps pd base s) (sb lb b6:Nat) (lv:Value) (ls:List Ar) (hs:Box w o sb 92 (.pointer (some ⟨ps,0,none⟩))) (a7:Box w o lb 35 lv) (hl:Lines w o b6 lv ls) (hn:ls.length<=100000) (hk:s.kept.lines.length<=1000) :
  Calls prog 126 #[.pointer (some ⟨sb,0,none⟩), .pointer (some ⟨lb,0,none⟩)] w (XL ai w o fun v _ _=>v = .bool (s.kept.Eu ls)):=by
 have c0:∀ (fn:Fn) (first cap:Array Value) (w:World),(Instr.makeFunc fn first cap).run prog w = .ok (.func fn first cap) w:=fun _ _ _ _=>rfl
 have a4:=ae (VG (hl.step (aj.refl ai w o).drew id) hn Ho);have a8:(Ho.toNat:Int)=281474976710656:=by decide
 rw [a8] at a4;have a9:=ae (show ∀ u o1,aj ai w o u o1->Calls prog 129 #[lv, .func (.func 127) #[] #[.pointer (some ⟨sb,0,none⟩)]] u (XL ai u o1 fun v _ _=>v = .bool (ls.any fun x => !(x.e == s.kept.current))) from fun u o1 st =>
  Jt (hl.step st id) hn 127 #[.pointer (some ⟨sb,0,none⟩)] _ Tryz.call127 (fun w2 o2 b1 x bv _ b7=>WW ((h.step0 st).step0 b1) sb ((hs.step st id).step b1 id) x bv b7))
 obtain ⟨X,Y,pa,pb,k,kv, -,hb,b2, -, -, -⟩:=h;obtain ⟨ka,kc,rfl⟩:=b2.form;obtain ⟨⟨-, -, -, -, -, -,c8, -⟩, -⟩:=hb.cells;have cs:=hs.cell;have cl:=a7.cell;obtain ⟨E,F,rfl⟩:=hl.form;unfold AX.Eu;have b3:=ae (aj.refl ai w o).drew;have hS:=ae (aI cs (aI cl c8));have a5:=ae (show ∀ u o1,aj ai w.drew o u o1->aj ai w o u o1 from fun u o1 st=>(aj.refl ai w o).drew.trans st);obtain ⟨r,hr⟩:=az ((!ls.any (badL Ho)));obtain ⟨q,hq⟩:=az ((ls.any fun x => !(x.e == s.kept.current)));rw [hr] at a4 ⊢;rw [hq] at a9 ⊢;generalize s.kept.lines.length=K at *;generalize ls.length=N at *;have c3:(0:Int)<=(K:Int)/\(K:Int)<=1000:=om
 have c4:(0:Int)<=(N:Int)/\(N:Int)<=100000:=om
 have a6:=ae (show IntKind.i64.wrap (256 - (K:Int))=256 - (K:Int) from wrap_i64 om om);clear hb hs cs c8 cl hr hl a7 a8 hq b2
 by_cases h0:0<N
 ·have b8:(0:Int)<(N:Int):=om
  by_cases O:N+K<=256
  ·have b9:(N:Int)<=256 - (K:Int):=om
   cases r with
   | true =>
    have J:=ae (show (decide (0<N) && decide (N+K<=256) && true && !q)=(!q) by simp [h0,O]);clear h0 O;go_enter func126,ntmps126;go_wp2_with fail;refine Aa (fun w'=>w'.cell? ⟨sb,0,none⟩=some (.pointer (some ⟨ps,0,none⟩))/\w'.cell? ⟨lb,0,none⟩=some (.slice E N F)/\w'.cell? ⟨ps,8,none⟩=some (.slice ka K kc)) (fun _=>true) (by kernel_rfl) hS.out (fun a2 => ?_);refine tq 0 (h:=tq 1 (h:=tw 2 (.bool true) (h:=tq 3 (h:=tq 4 (h:=tq 5 (h:=tq 6 (h:=tq 7 (h:=tq 8 (h:=tq 9 (h:=tq 10 (h:=tq 11 (h:=tv 12 (.int .i64 (256 - (K:Int))) (hy:=fun w a3=>by (try dsimp only at a3);go_simp;exact a6.out) (h:=tw 13 (.bool true) (h:=?_))))))))))))));refine tw 14 (.bool true) (h:=tq 15 (h:=tq 16 (h:=tO 17 (h:=?_))));go_wp2_with fail;refine a4.out.mono ?_;rintro e1 u ⟨v1,o1,rfl,U,rfl⟩;have W:u.cell? ⟨sb,0,none⟩=some (.pointer (some ⟨ps,0,none⟩))/\u.cell? ⟨lb,0,none⟩=some (.slice E N F)/\u.cell? ⟨ps,8,none⟩=some (.slice ka K kc):=by
     obtain ⟨k1,k2,k3⟩:=a2;have hb:=fun (a:Nat) (i:Nat) (v:Value) (hc:(w.drew).cell? ⟨a,i,none⟩=some v)=>(World.cell?_of_block (w:=w.drew) (w':=u) (a:=⟨a,i,none⟩) (U.block a (World.block_lt_of_cell? (w.drew) ⟨a,i,none⟩ (by rw [hc])) id)).trans hc;exact ⟨hb _ _ _ k1,hb _ _ _ k2,hb _ _ _ k3⟩
    go_wp2_with fail;refine ⟨fun _=>W, ?_⟩;refine tw 18 (.bool true) (h:=tq 19 (h:=tq 20 (h:=tq 21 (h:=tO 22 (h:=?_)))));go_wp2_with fail;refine (a9.out u o1 (a5.out _ _ U)).mono ?_;rintro e1 w2 ⟨v2,o2,rfl,b4,rfl⟩;have b5:w2.cell? ⟨sb,0,none⟩=some (.pointer (some ⟨ps,0,none⟩))/\w2.cell? ⟨lb,0,none⟩=some (.slice E N F)/\w2.cell? ⟨ps,8,none⟩=some (.slice ka K kc):=by
     obtain ⟨k1,k2,k3⟩:=W;have hb:=fun (a:Nat) (i:Nat) (v:Value) (hc:(u).cell? ⟨a,i,none⟩=some v)=>(World.cell?_of_block (w:=u) (w':=w2) (a:=⟨a,i,none⟩) (b4.block a (World.block_lt_of_cell? (u) ⟨a,i,none⟩ (by rw [hc])) id)).trans hc;exact ⟨hb _ _ _ k1,hb _ _ _ k2,hb _ _ _ k3⟩
    go_wp2_with fail;refine ⟨fun _=>b5, ?_⟩;refine tg 23 (.bool (!q)) (h:=tg 24 (.bool (!q)) (h:=tq 25 (h:=tD (h:=?_))));clear W;clear b5;go_wp2_with fail;go_ret;exact ⟨_,o2,rfl,(a5.out _ _ U).trans b4,by rw [J.out];rfl⟩
   | false =>
    have J:=ae (show (decide (0<N) && decide (N+K<=256) && false && !q)=false by simp [h0,O]);clear h0 O;go_enter func126,ntmps126;go_wp2_with fail;refine Aa (fun w'=>w'.cell? ⟨sb,0,none⟩=some (.pointer (some ⟨ps,0,none⟩))/\w'.cell? ⟨lb,0,none⟩=some (.slice E N F)/\w'.cell? ⟨ps,8,none⟩=some (.slice ka K kc)) (fun _=>true) (by kernel_rfl) hS.out (fun a2 => ?_);refine tq 0 (h:=tq 1 (h:=tw 2 (.bool true) (h:=tq 3 (h:=tq 4 (h:=tq 5 (h:=tq 6 (h:=tq 7 (h:=tq 8 (h:=tq 9 (h:=tq 10 (h:=tq 11 (h:=tv 12 (.int .i64 (256 - (K:Int))) (hy:=fun w a3=>by (try dsimp only at a3);go_simp;exact a6.out) (h:=tw 13 (.bool true) (h:=?_))))))))))))));refine tw 14 (.bool true) (h:=tq 15 (h:=tq 16 (h:=tO 17 (h:=?_))));go_wp2_with fail;refine a4.out.mono ?_;rintro e1 u ⟨v1,o1,rfl,U,rfl⟩;have W:u.cell? ⟨sb,0,none⟩=some (.pointer (some ⟨ps,0,none⟩))/\u.cell? ⟨lb,0,none⟩=some (.slice E N F)/\u.cell? ⟨ps,8,none⟩=some (.slice ka K kc):=by
     obtain ⟨k1,k2,k3⟩:=a2;have hb:=fun (a:Nat) (i:Nat) (v:Value) (hc:(w.drew).cell? ⟨a,i,none⟩=some v)=>(World.cell?_of_block (w:=w.drew) (w':=u) (a:=⟨a,i,none⟩) (U.block a (World.block_lt_of_cell? (w.drew) ⟨a,i,none⟩ (by rw [hc])) id)).trans hc;exact ⟨hb _ _ _ k1,hb _ _ _ k2,hb _ _ _ k3⟩
    go_wp2_with fail;refine ⟨fun _=>W, ?_⟩;refine tw 18 (.bool false) (h:=tq 19 (h:=ts 20 (h:=ts 21 (h:=ts 22 (h:=ts 23 (h:=tw 24 (.bool false) (h:=tq 25 (h:=tD (h:=?_)))))))));clear W;go_wp2_with fail;go_ret;exact ⟨_,o1,rfl,a5.out _ _ U,by rw [J.out];rfl⟩
  ·have b9:¬ (N:Int)<=256 - (K:Int):=om
   have J:=ae (show (decide (0<N) && decide (N+K<=256) && r && !q)=false by simp [h0,O]);clear h0 O;go_enter func126,ntmps126;go_wp2_with fail;refine Aa (fun w'=>w'.cell? ⟨sb,0,none⟩=some (.pointer (some ⟨ps,0,none⟩))/\w'.cell? ⟨lb,0,none⟩=some (.slice E N F)/\w'.cell? ⟨ps,8,none⟩=some (.slice ka K kc)) (fun _=>true) (by kernel_rfl) hS.out (fun a2 => ?_);refine tq 0 (h:=tq 1 (h:=tw 2 (.bool true) (h:=tq 3 (h:=tq 4 (h:=tq 5 (h:=tq 6 (h:=tq 7 (h:=tq 8 (h:=tq 9 (h:=tq 10 (h:=tq 11 (h:=tv 12 (.int .i64 (256 - (K:Int))) (hy:=fun w a3=>by (try dsimp only at a3);go_simp;exact a6.out) (h:=tw 13 (.bool false) (h:=?_))))))))))))));refine tw 14 (.bool false) (h:=tq 15 (h:=ts 16 (h:=ts 17 (h:=tw 18 (.bool false) (h:=tq 19 (h:=ts 20 (h:=ts 21 (h:=ts 22 (h:=ts 23 (h:=tw 24 (.bool false) (h:=tq 25 (h:=tD (h:=?_)))))))))))));go_wp2_with fail;go_ret;exact ⟨_,o,rfl,b3.out,by rw [J.out];rfl⟩
 ·have b8:¬ (0:Int)<(N:Int):=om
  have J:=ae (show (decide (0<N) && decide (N+K<=256) && r && !q)=false by simp [h0]);clear h0;go_enter func126,ntmps126;go_wp2_with fail;refine Aa (fun w'=>w'.cell? ⟨sb,0,none⟩=some (.pointer (some ⟨ps,0,none⟩))/\w'.cell? ⟨lb,0,none⟩=some (.slice E N F)/\w'.cell? ⟨ps,8,none⟩=some (.slice ka K kc)) (fun _=>true) (by kernel_rfl) hS.out (fun a2 => ?_);refine tq 0 (h:=tq 1 (h:=tw 2 (.bool false) (h:=tq 3 (h:=ts 4 (h:=ts 5 (h:=ts 6 (h:=ts 7 (h:=ts 8 (h:=ts 9 (h:=ts 10 (h:=ts 11 (h:=ts 12 (h:=ts 13 (h:=?_))))))))))))));refine tw 14 (.bool false) (h:=tq 15 (h:=ts 16 (h:=ts 17 (h:=tw 18 (.bool false) (h:=tq 19 (h:=ts 20 (h:=ts 21 (h:=ts 22 (h:=ts 23 (h:=tw 24 (.bool false) (h:=tq 25 (h:=tD (h:=?_)))))))))))));go_wp2_with fail;go_ret;exact ⟨_,o,rfl,b3.out,by rw [J.out];rfl⟩
end

end Go.Proofs.YtffkdillijmamaaGreat
