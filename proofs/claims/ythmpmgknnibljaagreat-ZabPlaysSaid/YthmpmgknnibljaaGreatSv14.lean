/- Contract of the document's lead (ref12). -/
import Derived.Test.YthmpmgknnibljaaGreatSv13
namespace Go.Proofs.YthmpmgknnibljaaGreat
open Go.Proofs.Tryz
set_option maxRecDepth 100000
set_option maxHeartbeats 6400000
open Go Go.RowKit
attribute [local go_sem ↓] Go.wp_at_zero Go.wp_at_succ
variable {W w:World} {o:Own} {B I N X Y b base k n p:Nat} {lv v:Value} {ls:List Ar} {c:BitVec 64} {has:List (Option (BitVec 64 × List Ar))} {y:Aj} {ready:Bool} {cs:List Value}
theorem Lines.Acw (h:Lines w o base v ls):∃ a n c,v = .slice a n c:=by
 obtain ⟨a,c,h⟩:=h.form;exact ⟨a,_,c,h⟩
theorem Ach (X:Nat) (w:World) (o:Own):∃ (b:Nat) (W:World) (O:Own),(Instr.alloc 120 true (.tuple #[])).run prog w = .ok (.pointer b) W/\aj ai w o W O/\W.heap[b]?=some (.cells [.int .u64 0, .int .u64 0, .slice none 0 0].toArray 120 (0,0))/\(O b).1=X/\w.heap.size<=b:=
 ⟨w.heap.size,_,_,AB (P:=prog) w 120 _ Anh,(aj.refl ai w o).alloc _ (X,0),heap_alloc_new w _,by rw [Au],Nat.le_refl _⟩
theorem Acg {V:World} {O:Own} (hJ:aj ai V O W o) (hge:V.heap.size<=b) (hz:W.heap[b]?=some (.cells [.int .u64 0, .int .u64 0, .slice none 0 0].toArray 120 (0,0))) (ho:(o b).1=X) {p:BitVec 64} (h:∃ a n k,lv = .slice a n k) :
  ∃ W2,(Instr.storeAt 120 (.pointer b) (Dy p c lv)).run prog W = .ok () W2/\aj (ak X) W o W2 o/\aj ai V O W2 o/\W2.heap[b]?=some (.cells (BR p c lv).toArray 120 (0,0)):=by
 obtain ⟨a,n,k,rfl⟩:=h;obtain ⟨h1,h2⟩:=Ba (P:=prog) (ty:=120) (vs:=BR p c (.slice a n k)) hz rfl AaW rfl;exact ⟨_,h1,(aj.refl _ W o).setCells b 0 _ (.inl ho),hJ.setCells b 0 _ (.inr hge),h2⟩
theorem Aeb {E:Nat} {L:List Value} (h:W.heap[b]?=some (.cells L.toArray E (0,0))) (off:Nat) (hl:off+3<=L.length) {p:BitVec 64} (hf:∃ a n k,lv = .slice a n k) :
  (Instr.storeAt 120 (.pointer (some (aW b off))) (Dy p c lv)).run prog W = .ok () (W.setCells b off (BR p c lv))/\(W.setCells b off (BR p c lv)).heap[b]?=some (.cells (L.take off++BR p c lv++L.drop (off+3)).toArray E (0,0)):=by
 obtain ⟨a,n,k,rfl⟩:=hf;have ht:=Dh h off 3 aP;refine ⟨?_,BP b E (BR p c (.slice a n k)) off W L h (by simp [BR];omega)⟩;show (Instr.storeAt 120 (.pointer (some (aW b off))) (.agg (BR p c (.slice a n k)).toArray)).run prog W=_;simp only [Instr.storeAt,Instr.sureAddr,Sem.run_bind,Sem.run_pure,Result.andThen_ok];rw [run_storeVar_mid W b off 120 (BR p c (.slice a n k)).toArray (by simpa [BR] using ht) (by simpa [BR] using AaW) (all_oneCell_toArray (by intro v hv;simp only [BR,List.mem_cons,List.not_mem_nil,or_false] at hv;rcases hv with rfl | rfl | rfl <;> rfl))]
def Afr (has:List (Option (BitVec 64 × List Ar))) (k:Nat) (bi:Int):Prop:=
 ((has.take k).foldl EW none=none/\bi = -1) \/ ∃ (j:Nat) (g:BitVec 64 × List Ar),(has.take k).foldl EW none=some g/\bi=(j:Int)/\has[j]?=some (some g)
theorem AgS {x:Option (BitVec 64 × List Ar)} (h:has[k]?=some x):(has.take (k+1)).foldl EW none=EW ((has.take k).foldl EW none) x:=by
 obtain ⟨hl,rfl⟩:=List.getElem?_eq_some_iff.1 h;rw [List.take_succ_eq_append_getElem hl,List.foldl_append];rfl
theorem Afr.skip {bi:Int} (h:Afr has k bi) (hx:has[k]?=some none):Afr has (k+1) bi:=by
 have hbt:=AgS hx
 rcases h with ⟨a,b⟩ | ⟨j,g,a,b,c⟩
 ·exact .inl ⟨by rw [hbt,a];rfl,b⟩
 ·exact .inr ⟨j,g,by rw [hbt,a];rfl,b,c⟩
theorem AmL {x:Option (BitVec 64 × List Ar)} (h:has[k]?=some x):((has.take (k+1)).filter Option.isSome).length=((has.take k).filter Option.isSome).length+if x.isSome then 1 else 0:=by
 obtain ⟨hl,rfl⟩:=List.getElem?_eq_some_iff.1 h;rw [List.take_succ_eq_append_getElem hl,List.filter_append,List.length_append]
 cases has[k] <;> rfl
theorem AgT:∀ (l:List (Option (BitVec 64 × List Ar))) (b:Option (BitVec 64 × List Ar)),l.foldl EW b=none->b=none/\l.filter Option.isSome=[]
 | [],_,h=>⟨h,rfl⟩
 | x :: r,b,h=>by
  obtain ⟨h1,h2⟩:=AgT r _ h
  cases x with
  | none=>exact ⟨h1,h2⟩
  | some q =>
   cases b with
   | none=>cases h1
   | some g=>simp only [EW] at h1;split at h1 <;> cases h1
theorem Aka (w:World) (n:Nat) (hn:n<=1000):(Instr.makeSlice 89 (n:aV) (n:aV)).run prog w = .ok (.slice w.heap.size n n) (w.alloc (.cells (ivs (List.replicate n 0)).toArray 3)):=by
 have h:=Gy (P:=prog) w 89 3 [.int .i64 0] 1 8 underlying89 bf rfl n aP aP .i64 .i64;have hf:(List.replicate n [Value.int .i64 0]).flatten=ivs (List.replicate n 0):=by
  clear h hn;induction n with
  | zero=>rfl
  | succ n ih=>rw [List.replicate_succ,List.replicate_succ,List.flatten_cons,ih];rfl
 rw [hf] at h;exact h
theorem Anm (h:k<n):(ivs (List.replicate k (-1)++List.replicate (n - k) 0)).set k (.int .i64 (-1))=ivs (List.replicate (k+1) (-1)++List.replicate (n - (k+1)) 0):=by
 rw [show n - k=(n - (k+1))+1 by omega,List.replicate_succ,List.replicate_succ',AfQ,List.set_append_right _ _ bu];simp
theorem AaB.mine {m:BitVec 64} {nR:List Int} {r:Bool} (h:AaB w o Y p y) (hr:y.BB = .leads m nR b r):w.cell? (aW p 6)=some (m:aV):=by
 obtain ⟨lv,ro,mine,hv,pv,mv,base,ready,hp, -, -,h4⟩:=h;rw [hr] at h4;obtain ⟨-,rfl, -⟩:=h4;exact ag hp 6
theorem Acm {i:Nat} {k:AX} {hv pv mv:Value} {ro base:Int} {mine seen:BitVec 64} {wt co:Nat} (h:w.heap[p]?=some (.cells (Aai i n k lv ro mine wt seen co hv pv mv base ready).toArray 124 (0,0))):w.rangeAt p 2 (BR k.promised k.current lv):=
 ER (AV h) 2 3
theorem AeV {mine:BitVec 64} (h:AaB w o Y p y) (hY:Y ≠ 0) (hn:NOk B y) (hr:y.BB = .stands mine has) :
  Calls prog 65 #[.pointer p] w (XL (ak Y) w o fun v w' o'=>AaA w' o' v (y.lead mine has).2/\AaB w' o' Y p (y.lead mine has).1):=by
 have hro:=hn.ro;rw [hr] at hro;obtain ⟨-,hhl, -,hbs⟩:=hro;have h1:=hn.n1;have h3:=hn.n3;obtain ⟨I,N,yk,BB,wt,sn,Co⟩:=y;simp only at hr hhl h1 h3;subst hr;have hR:=ae h;obtain ⟨lv,ro,mine,hv,pv,mv,base,ready,hp,hpo,hl,h4⟩:=h;obtain ⟨rfl,rfl,⟨hb,rfl,hhb,hho⟩,cs,⟨pb,rfl,hpb,hbo⟩,hpc⟩:=h4;simp only at hp hl;rw [hhl] at hp;have nI:(1:Int)<=(N:Int)/\(N:Int)<=3:=aP
 have hF:=ae (fun (wr:World) (st:aj ai w o wr o)=>aI ((st.block p (au hp) id).trans hp) (aI ((st.block hb (au hhb) id).trans hhb) ((st.block pb (au hpb) id).trans hpb)));have hlH:=ae hl;have hO:=aa3 hpo hho hbo;have hA:=aa4 hn hpc hhl hbs;clear hp hpo hl hhb hho hpb hbo hpc hhl hbs hn h1 h3;obtain ⟨R,hR2⟩:=az (Aj.lead ⟨I,N,yk, .stands mine has,wt,sn,Co⟩ mine has);rw [hR2];have hRH:=ae (show (if 2*(has.filter Option.isSome).length<=N then (⟨I,N,yk, .stands mine has,wt,sn,Co⟩,[]) else match Qr has with
  | none=>(⟨I,N,yk, .stands mine has,wt,sn,Co⟩,[])
  | some g=>if (yk.Ee mine g.2).2=0 then (Aj.count ⟨I,N,(yk.Ee mine g.2).1, .stands mine has,wt,sn,min Co g.2.length⟩ mine (List.replicate N (-1)) g.2.length false,Aj.others ⟨I,N,yk, .stands mine has,wt,sn,Co⟩ fun _=>⟨4,mine,0,0,0,g.2⟩) else (Aj.follow ⟨I,N,yk, .stands mine has,wt,sn,Co⟩,[]))=R from hR2)
 clear hR2;go_enter func65,ntmps65;go_wp2_with fail
 go_loopw [3,4,5] (fun nv bv iv wr=>∃ (k:Nat) (bi:Int),k<=N/\iv = .int .i64 k/\nv = .int .i64 (((has.take k).filter Option.isSome).length:Nat)/\bv = .int .i64 bi/\Afr has k bi/\aj ai w o wr o) (fun _ _ i _=>N - (intOf i).toNat)
 case atStart=>exact ⟨0, -1,Nat.zero_le _,rfl,rfl,rfl, .inl ⟨rfl,rfl⟩,aj.refl _ _ _⟩
 case round =>
  obtain ⟨k,bi,hk,rfl,rfl,rfl,hbi,hst⟩:=hrel;obtain ⟨q1,q2,q3⟩:=hF.out wr hst;obtain ⟨-,hpc,hhl,hbs⟩:=hA.out;have c1:=ag q1 1;simp only [Aai,ax,ay] at c1;have hcl:((has.take k).filter Option.isSome).length<=k:=Nat.le_trans (List.length_filter_le _ _) (by rw [List.length_take];omega)
  by_cases hlt:k<N
  ·have AbY:(0:Int)<=(k:Int)/\(k:Int)<(N:Int):=aP
   obtain ⟨x,hx⟩:∃ x,has[k]?=some x:=⟨_,List.getElem?_eq_getElem aP⟩;have c10:=ag q1 10;have ch:wr.cell? (aW hb k)=some (.bool x.isSome):=by rw [ag q2,List.getElem?_map,hx];rfl
   simp only [Aai,ax,ay] at c10;have hbt:=AgS hx;have hct:=AmL hx;obtain ⟨C,hC⟩:=az (((has.take k).filter Option.isSome).length);rw [hC] at hct hcl ⊢;have cI:(0:Int)<=(C:Int)/\(C:Int)<=3:=aP
   have Abe:=ae hst
   cases x with
   | none =>
    have hF2:=ae (hbi.skip hx);have hct:=ae hct;clear hbi hst q1 q2 q3 hpc hhl hbs hx hbt hC hcl;go_wp2_with fail;go_roundw
    case rel=>exact ⟨k+1,bi,aP,by go_num,by rw [hct.out];rfl,rfl,hF2.out,Abe.out⟩
    case measure=>simp [intOf];omega
   | some q =>
    obtain ⟨d1,lq,d2,hlq⟩:=hpc.2 k q.1 q.2 (by rw [hx]);obtain ⟨qa,qc,rfl⟩:=hlq.form;have c11:wr.drew.cell? (aW p 11)=_:=ag q1 11;have p1:wr.drew.cell? (aW pb (k*3+1))=_:=ag q3 (k*3+1);have p2:wr.drew.cell? (aW pb (k*3+2))=_:=ag q3 (k*3+2);simp only [Aai,ax,ay] at c11;rw [d1] at p1;rw [d2] at p2;have hq2:=(hbs q (List.mem_of_getElem? hx)).n;obtain ⟨xl,hxl⟩:=az (q.2.length);obtain ⟨A,hAe⟩:=az (q.1.toNat);rw [hxl] at p2 hq2;rw [hAe] at p1;have xI:(0:Int)<=(xl:Int)/\(xl:Int)<=256:=aP
    have hct:=ae hct;have hxH:=ae hx
    rcases hbi with ⟨hfo,rfl⟩ | ⟨j,g,hfo,rfl,hj⟩
    ·have hF2:=ae (show Afr has (k+1) (k:Int) from .inr ⟨k,q,by rw [hbt,hfo];rfl,rfl,hx⟩);clear hst q1 q2 q3 hpc hhl hbs hx hbt hC hcl d1 d2 hlq c11 p1 p2 hq2 hxl hAe xI hfo;go_wp2_with fail;refine Aa (fun w'=>True) (fun _=>true) bf trivial (fun hHeld => ?_);refine tq 0 (h:=tq 1 (h:=tq 2 (h:=ts 3 (h:=ts 4 (h:=ts 5 (h:=ts 6 (h:=ts 7 (h:=ts 8 (h:=ts 9 (h:=ts 10 (h:=ts 11 (h:=ts 12 (h:=ts 13 (h:=?_))))))))))))));refine ts 14 (h:=ts 15 (h:=ts 16 (h:=ts 17 (h:=ts 18 (h:=ts 19 (h:=tq 20 (h:=tq 21 (h:=ts 22 (h:=ts 23 (h:=ts 24 (h:=ts 25 (h:=ts 26 (h:=ts 27 (h:=?_))))))))))))));refine ts 28 (h:=ts 29 (h:=ts 30 (h:=ts 31 (h:=ts 32 (h:=ts 33 (h:=ts 34 (h:=ts 35 (h:=ts 36 (h:=ts 37 (h:=ts 38 (h:=ts 39 (h:=ts 40 (h:=ts 41 (h:=?_))))))))))))));refine ts 42 (h:=ts 43 (h:=ts 44 (h:=ts 45 (h:=ts 46 (h:=ts 47 (h:=ts 48 (h:=ts 49 (h:=ts 50 (h:=ts 51 (h:=ts 52 (h:=ts 53 (h:=ts 54 (h:=ts 55 (h:=?_))))))))))))));refine ts 56 (h:=ts 57 (h:=ts 58 (h:=ts 59 (h:=tq 60 (h:=tD (h:=?_))))));clear hHeld;go_wp2_with fail;go_roundw
     case rel=>exact ⟨k+1,_,aP,by go_num,by rw [hct.out];rfl,rfl,hF2.out,Abe.out.drew⟩
     case measure=>simp [intOf];omega
    ·obtain ⟨e1,lg,e2,pK⟩:=hpc.2 j g.1 g.2 hj;obtain ⟨ga,gc,rfl⟩:=pK.form;have p3:wr.drew.cell? (aW pb (j*3+1))=_:=ag q3 (j*3+1);have p4:wr.drew.cell? (aW pb (j*3+2))=_:=ag q3 (j*3+2);rw [e1] at p3;rw [e2] at p4;have hg2:=(hbs g (List.mem_of_getElem? hj)).n;have hjN:=(List.getElem?_eq_some_iff.1 hj).1;obtain ⟨gl,hgl⟩:=az (g.2.length);obtain ⟨G,hGe⟩:=az (g.1.toNat);have hbe:=Xy q g;rw [hxl,hgl,hAe,hGe] at hbe;rw [hgl] at p4 hg2;rw [hGe] at p3;rw [hhl] at hjN;have gI:(0:Int)<=(gl:Int)/\(gl:Int)<=256:=aP
     have jI:(0:Int)<=(j:Int)/\(j:Int)<(N:Int):=aP
     have hS:=aI c11 (aI p1 (aI p2 (aI p3 p4)));rw [hfo] at hbt;have hyes:=ae (fun (hb:Jw q g=true)=>show Afr has (k+1) (k:Int) from .inr ⟨k,q,by rw [hbt];show (if Jw q g then _ else _)=_;rw [hb];rfl,rfl,hx⟩)
     have hno:=ae (fun (hb:Jw q g=false)=>show Afr has (k+1) (j:Int) from .inr ⟨j,g,by rw [hbt];show (if Jw q g then _ else _)=_;rw [hb];rfl,rfl,hj⟩)
     have hbe:=ae hbe;clear hst q1 q2 q3 hpc hhl hbs hx hbt hC hcl d1 d2 hlq c11 p1 p2 hq2 hxl hAe hfo e1 e2 pK p3 p4 hg2 hgl hGe hj
     by_cases g1:G<A
     ·have g1I:(G:Int)<(A:Int):=aP
      go_wp2_with fail;refine Aa (fun w'=>w'.cell? (aW p 11)=some (.slice pb N N)/\w'.cell? (aW pb (k*3+1))=some (.int .u64 (A:Int))/\w'.cell? (aW pb (k*3+2))=some (.slice qa xl qc)/\w'.cell? (aW pb (j*3+1))=some (.int .u64 (G:Int))/\w'.cell? (aW pb (j*3+2))=some (.slice ga gl gc)) (fun _=>true) bf hS (fun hHeld => ?_);refine tq 0 (h:=tq 1 (h:=tq 2 (h:=tq 3 (h:=tq 4 (h:=tq 5 (h:=tq 6 (h:=tq 7 (h:=tq 8 (h:=tq 9 (h:=tq 10 (h:=tq 11 (h:=tq 12 (h:=tq 13 (h:=?_))))))))))))));refine tq 14 (h:=tq 15 (h:=tq 16 (h:=tq 17 (h:=tq 18 (h:=tq 19 (h:=tq 20 (h:=tq 21 (h:=ts 22 (h:=ts 23 (h:=ts 24 (h:=ts 25 (h:=ts 26 (h:=ts 27 (h:=?_))))))))))))));refine ts 28 (h:=ts 29 (h:=ts 30 (h:=ts 31 (h:=ts 32 (h:=ts 33 (h:=ts 34 (h:=ts 35 (h:=ts 36 (h:=ts 37 (h:=ts 38 (h:=ts 39 (h:=ts 40 (h:=ts 41 (h:=?_))))))))))))));refine ts 42 (h:=ts 43 (h:=ts 44 (h:=ts 45 (h:=ts 46 (h:=ts 47 (h:=ts 48 (h:=ts 49 (h:=ts 50 (h:=ts 51 (h:=ts 52 (h:=ts 53 (h:=ts 54 (h:=ts 55 (h:=?_))))))))))))));refine ts 56 (h:=ts 57 (h:=ts 58 (h:=ts 59 (h:=tq 60 (h:=tD (h:=?_))))));clear hHeld hS;go_wp2_with fail;go_roundw
      case rel=>exact ⟨k+1,_,aP,by go_num,by rw [hct.out];rfl,rfl,hyes.out (by rw [hbe.out];simp;omega),Abe.out.drew⟩
      case measure=>simp [intOf];omega
     have g1I:¬ (G:Int)<(A:Int):=aP
     by_cases g2:A=G
     ·have g2I:((A:Int) == (G:Int))=true:=by simp;omega
      by_cases g3:gl<xl
      ·have g3I:(gl:Int)<(xl:Int):=aP
       go_wp2_with fail;refine Aa (fun w'=>w'.cell? (aW p 11)=some (.slice pb N N)/\w'.cell? (aW pb (k*3+1))=some (.int .u64 (A:Int))/\w'.cell? (aW pb (k*3+2))=some (.slice qa xl qc)/\w'.cell? (aW pb (j*3+1))=some (.int .u64 (G:Int))/\w'.cell? (aW pb (j*3+2))=some (.slice ga gl gc)) (fun _=>true) bf hS (fun hHeld => ?_);refine tq 0 (h:=tq 1 (h:=tq 2 (h:=tq 3 (h:=tq 4 (h:=tq 5 (h:=tq 6 (h:=tq 7 (h:=tq 8 (h:=tq 9 (h:=tq 10 (h:=tq 11 (h:=tq 12 (h:=tq 13 (h:=?_))))))))))))));refine tq 14 (h:=tq 15 (h:=tq 16 (h:=tq 17 (h:=tq 18 (h:=tq 19 (h:=tq 20 (h:=tq 21 (h:=tq 22 (h:=tq 23 (h:=tq 24 (h:=tq 25 (h:=tq 26 (h:=tq 27 (h:=?_))))))))))))));refine tq 28 (h:=tq 29 (h:=tq 30 (h:=tq 31 (h:=tq 32 (h:=tq 33 (h:=tq 34 (h:=tq 35 (h:=tq 36 (h:=tq 37 (h:=tq 38 (h:=tq 39 (h:=tq 40 (h:=tq 41 (h:=?_))))))))))))));refine tq 42 (h:=tq 43 (h:=tq 44 (h:=tq 45 (h:=tq 46 (h:=tq 47 (h:=tq 48 (h:=tq 49 (h:=tq 50 (h:=tq 51 (h:=tq 52 (h:=tq 53 (h:=tq 54 (h:=tq 55 (h:=?_))))))))))))));refine tq 56 (h:=tq 57 (h:=tq 58 (h:=tq 59 (h:=tq 60 (h:=tD (h:=?_))))));clear hHeld hS;go_wp2_with fail;go_roundw
       case rel=>exact ⟨k+1,_,aP,by go_num,by rw [hct.out];rfl,rfl,hyes.out (by rw [hbe.out];simp;omega),Abe.out.drew⟩
       case measure=>simp [intOf];omega
      ·have g3I:¬ (gl:Int)<(xl:Int):=aP
       go_wp2_with fail;refine Aa (fun w'=>w'.cell? (aW p 11)=some (.slice pb N N)/\w'.cell? (aW pb (k*3+1))=some (.int .u64 (A:Int))/\w'.cell? (aW pb (k*3+2))=some (.slice qa xl qc)/\w'.cell? (aW pb (j*3+1))=some (.int .u64 (G:Int))/\w'.cell? (aW pb (j*3+2))=some (.slice ga gl gc)) (fun _=>true) bf hS (fun hHeld => ?_);refine tq 0 (h:=tq 1 (h:=tq 2 (h:=tq 3 (h:=tq 4 (h:=tq 5 (h:=tq 6 (h:=tq 7 (h:=tq 8 (h:=tq 9 (h:=tq 10 (h:=tq 11 (h:=tq 12 (h:=tq 13 (h:=?_))))))))))))));refine tq 14 (h:=tq 15 (h:=tq 16 (h:=tq 17 (h:=tq 18 (h:=tq 19 (h:=tq 20 (h:=tq 21 (h:=tq 22 (h:=tq 23 (h:=tq 24 (h:=tq 25 (h:=tq 26 (h:=tq 27 (h:=?_))))))))))))));refine tq 28 (h:=tq 29 (h:=tq 30 (h:=tq 31 (h:=tq 32 (h:=tq 33 (h:=tq 34 (h:=tq 35 (h:=tq 36 (h:=tq 37 (h:=tq 38 (h:=tq 39 (h:=tq 40 (h:=tq 41 (h:=?_))))))))))))));refine tq 42 (h:=tq 43 (h:=tq 44 (h:=tq 45 (h:=tq 46 (h:=tq 47 (h:=tq 48 (h:=tq 49 (h:=tq 50 (h:=tq 51 (h:=tq 52 (h:=tq 53 (h:=tq 54 (h:=tq 55 (h:=?_))))))))))))));refine tq 56 (h:=tq 57 (h:=tq 58 (h:=tq 59 (h:=tq 60 (h:=tD (h:=?_))))));clear hHeld hS;go_wp2_with fail;go_roundw
       case rel=>exact ⟨k+1,_,aP,by go_num,by rw [hct.out];rfl,rfl,hno.out (by rw [hbe.out];simp;omega),Abe.out.drew⟩
       case measure=>simp [intOf];omega
     ·have g2I:((A:Int) == (G:Int))=false:=by simp;omega
      go_wp2_with fail;refine Aa (fun w'=>w'.cell? (aW p 11)=some (.slice pb N N)/\w'.cell? (aW pb (k*3+1))=some (.int .u64 (A:Int))/\w'.cell? (aW pb (k*3+2))=some (.slice qa xl qc)/\w'.cell? (aW pb (j*3+1))=some (.int .u64 (G:Int))/\w'.cell? (aW pb (j*3+2))=some (.slice ga gl gc)) (fun _=>true) bf hS (fun hHeld => ?_);refine tq 0 (h:=tq 1 (h:=tq 2 (h:=tq 3 (h:=tq 4 (h:=tq 5 (h:=tq 6 (h:=tq 7 (h:=tq 8 (h:=tq 9 (h:=tq 10 (h:=tq 11 (h:=tq 12 (h:=tq 13 (h:=?_))))))))))))));refine tq 14 (h:=tq 15 (h:=tq 16 (h:=tq 17 (h:=tq 18 (h:=tq 19 (h:=tq 20 (h:=tq 21 (h:=tq 22 (h:=tq 23 (h:=tq 24 (h:=tq 25 (h:=tq 26 (h:=tq 27 (h:=?_))))))))))))));refine tq 28 (h:=tq 29 (h:=tq 30 (h:=tq 31 (h:=tq 32 (h:=tq 33 (h:=tq 34 (h:=tq 35 (h:=tq 36 (h:=tq 37 (h:=tq 38 (h:=tq 39 (h:=ts 40 (h:=ts 41 (h:=?_))))))))))))));refine ts 42 (h:=ts 43 (h:=ts 44 (h:=ts 45 (h:=ts 46 (h:=ts 47 (h:=ts 48 (h:=ts 49 (h:=ts 50 (h:=ts 51 (h:=ts 52 (h:=ts 53 (h:=ts 54 (h:=ts 55 (h:=?_))))))))))))));refine ts 56 (h:=ts 57 (h:=ts 58 (h:=tq 59 (h:=tq 60 (h:=tD (h:=?_))))));clear hHeld hS;go_wp2_with fail;go_roundw
      case rel=>exact ⟨k+1,_,aP,by go_num,by rw [hct.out];rfl,rfl,hno.out (by rw [hbe.out];simp;omega),Abe.out.drew⟩
      case measure=>simp [intOf];omega
  ·obtain rfl:N=k:=aP
   have hall:has.take N=has:=List.take_of_length_le aP;unfold Afr at hbi;rw [hall] at hcl hbi ⊢;obtain ⟨C,hC⟩:=az ((has.filter Option.isSome).length);have hld:=hRH.out;rw [hC,show Qr has=has.foldl EW none from rfl] at hld;rw [hC] at hcl ⊢;have hqu:=AhE (hR.out.step hst id id) (show N<=3 by omega) C aP (r:=decide (N<2*C)) rfl;have cI:(0:Int)<=(C:Int)/\(C:Int)<=3:=aP
   by_cases hq:2*C<=N
   ·rw [if_pos hq] at hld;rw [decide_eq_false aP] at hqu;have hld:=ae hld;have hst:=ae hst;clear hbi hC hall q1 q2 q3 hpc hhl hbs hq;go_wp2_with fail;refine hqu.mono ?_;rintro e w' ⟨rfl,rfl⟩;go_wp2_with fail;go_ret;exact ⟨_,o,rfl,hst.out.only Y,by rw [<-hld.out];exact AaA.nil _ _,by rw [<-hld.out];exact hR.out.step hst.out id id⟩
   ·rw [if_neg hq] at hld;rw [decide_eq_true aP] at hqu
    rcases hbi with ⟨hfo, -⟩ | ⟨j,g,hfo,rfl,hj⟩
    ·rw [(AgT has none hfo).2] at hC;simp at hC;omega
    ·rw [hfo] at hld;simp only at hld;obtain ⟨e1,lg,e2,pK⟩:=hpc.2 j g.1 g.2 hj;obtain ⟨ga,gc,rfl⟩:=pK.form;have hg2:=(hbs g (List.mem_of_getElem? hj)).n;have hjN:=(List.getElem?_eq_some_iff.1 hj).1;have jI:(0:Int)<=(j:Int)/\(j:Int)<(N:Int):=aP
     have hlw:=hlH.out;obtain ⟨la,lc,rfl⟩:=hlw.form;obtain ⟨X,hXY,hXf⟩:=KT o wr.heap.size Y;have hX0:X ≠ 0:=aP
     obtain ⟨qk,hqk⟩:=az (yk.Ee mine g.2);have AbJ:=ae (fun (V1:World) (p1:Own) (hJ:aj ai wr o V1 p1)=>Agi (p:=yk.promised) (c:=yk.current) ((hlw.step hst id).step hJ id) ((pK.step hst id).step hJ id) (show g.2.length<=100000 by omega) mine);rw [show (⟨yk.promised,yk.current,yk.lines⟩:AX)=yk from rfl,hqk] at AbJ;have hSf:=ae (fun (V1:World) (p1:Own) (hJ:aj ai wr o V1 p1)=>show V1.heap[p]?=some (.cells (Aai I N yk (.slice la yk.lines.length lc) 1 mine wt sn Co (.slice hb N N) (.slice pb N N) mv base ready).toArray 124 (0,0))/\V1.cell? (aW p 6)=some (mine:aV)/\V1.cell? (aW p 11)=some (.slice pb N N)/\V1.cell? (aW pb (j*3+2))=some (.slice ga g.2.length gc) by
      have x1:=(hJ.block p (au q1) id).trans q1;exact ⟨x1,ag x1 6,ag x1 11,by rw [ag ((hJ.block pb (au q3) id).trans q3),e2]⟩)
     have hS:=hSf.out wr.drew o (aj.refl ai wr o).drew;have hQ:=aa3 q1 q2 q3;have hgL:=aa3 pK hg2 hqk;rw [hqk] at hld;have hld:=ae hld;have hst:=ae hst;have hX:=aa3 hXY hXf hX0;clear hqk hall hC hq q1 q2 q3 hpc hhl hbs hfo e1 e2 pK hg2 hjN hlw hXf hj;go_wp2_with fail;refine hqu.mono ?_;rintro e w' ⟨rfl,rfl⟩;go_wp2_with fail;refine Jd (fun a0 a' w'=>∃ (lb:Nat) (lv:Value) (oF:Own),a'=Act.puts a0 [94,95,96,97,98,99,100,101,102,103,104,105,106,107,108,109,110,93,111,112,6,7] [.pointer p, .pointer p, .pointer (some (aW p 2)),Dy yk.promised yk.current (.slice la yk.lines.length lc), .pointer p, .pointer p, .pointer (some (aW p 6)), (mine:aV), .pointer p, .pointer p, .pointer (some (aW p 11)), .slice pb N N, (j:aV), .pointer (some (aW pb (j*3))), .pointer (some (aW pb (j*3+2))), .slice ga g.2.length gc, .tuple #[(Dy qk.1.promised qk.1.current lv),(.int .i64 qk.2)], .tuple #[(Dy qk.1.promised qk.1.current lv),(.int .i64 qk.2)],(Dy qk.1.promised qk.1.current lv),(.int .i64 qk.2), .pointer lb,(.int .i64 qk.2)]/\aj ai wr o w' oF/\w'.heap[lb]?=some (.cells (BR qk.1.promised qk.1.current lv).toArray 120 (0,0))/\(oF lb).1=X/\Lines w' oF 0 lv qk.1.lines) ?_ ?_
     ·refine Aa (fun w'=>w'.heap[p]?=some (.cells (Aai I N yk (.slice la yk.lines.length lc) 1 mine wt sn Co (.slice hb N N) (.slice pb N N) mv base ready).toArray 124 (0,0))/\w'.cell? (aW p 6)=some (mine:aV)/\w'.cell? (aW p 11)=some (.slice pb N N)/\w'.cell? (aW pb (j*3+2))=some (.slice ga g.2.length gc)) (fun _=>true) bf hS (fun hHeld => ?_);obtain ⟨U,hU⟩:=az (wr.drew);have hJ:aj ai wr o wr.drew o:=(aj.refl ai wr o).drew;rw [hU] at hHeld hJ ⊢;clear hU;refine tn 0 (h:=tn 1 (h:=tn 2 (h:=?_)));refine Dt (i:=3) (v:=Dy yk.promised yk.current (.slice la yk.lines.length lc)) rfl bf (fun _ _ _ h=>nomatch h.1) (yieldsIf_load_mid rfl 120 (.tmp 96) rfl p 2 rfl (BR yk.promised yk.current (.slice la yk.lines.length lc)) _ (fun w h=>Acm h.1) underlying120 rfl bf) (by assumption) ?_;simp only [Act.put,lsa,lsz,lss];refine tn 4 (h:=tn 5 (h:=tn 6 (h:=tn 7 (h:=tn 8 (h:=tn 9 (h:=tn 10 (h:=tn 11 (h:=tn 12 (h:=tn 13 (h:=tn 14 (h:=tn 15 (h:=?_))))))))))));refine Gm (i:=16) (j:=20) rfl rfl bf ?_ ?_
      ·go_wp2_with fail;refine (AbJ.out _ _ hJ).mono ?_;rintro e Uc ⟨vc,oc,rfl,hsc,lv,rfl,hlv⟩;have hJ:=hJ.trans hsc;go_wp2_with fail;refine ⟨fun _=>hSf.out _ _ hJ, ?_⟩;have hS0:=hSf.out _ _ hJ;refine tn 17 (h:=tn 18 (h:=tn 19 (h:=tO 20 (h:=?_))));obtain ⟨lb,Ua,oa,hal,hsa,hz,hzo,hge⟩:=Ach X Uc oc;have hge:=Nat.le_trans hJ.size hge;have hJ:=hJ.trans hsa;refine AU hal (wpList_nil ?_);simp only [Act.put,lsa,lsz,lss];refine ⟨fun _=>hSf.out _ _ hJ, ?_⟩;have hlv2:=(hlv.step hsa id);obtain ⟨Us,hso,hsF,hJ,hz⟩:=Acg hJ hge hz hzo hlv.Acw;refine tO 21 (h:=?_);refine AC hso (wpList_nil ?_);simp only [Act.put];refine ⟨fun _=>hSf.out _ _ hJ, ?_⟩;refine tO 22 (h:=?_);go_wp2_with fail;refine ⟨fun _=>hSf.out _ _ hJ, ?_⟩;refine tD (h:=?_);exact ⟨rfl,lb,lv,_,by simp only [Act.puts,Act.put,lsa,lsz,lss],hJ,hz,hzo,hlv2.step hsF (fun h=>hX0 h.symm)⟩
      ·obtain ⟨lb,Ua,oa,hal,hsa,hz,hzo,hge⟩:=Ach X U o;have hge:=Nat.le_trans hJ.size hge;have hJ:=hJ.trans hsa;refine AU hal (wpList_nil ?_);simp only [Act.put,lsa,lsz,lss];refine ⟨fun _=>hSf.out _ _ hJ, ?_⟩;refine tO 16 (h:=?_);go_wp2_with fail;refine (AbJ.out _ _ hJ).mono ?_;rintro e Uc ⟨vc,oc,rfl,hsc,lv,rfl,hlv⟩;have hJ:=hJ.trans hsc;go_wp2_with fail;refine ⟨fun _=>hSf.out _ _ hJ, ?_⟩;have hS0:=hSf.out _ _ hJ;have hz0:=hz;have hz:=(hsc.block lb (au hz) id).trans hz;have hzo:=(congrArg Prod.fst (hsc.own lb (au hz0))).trans hzo;have hlv2:=hlv;refine tn 17 (h:=tn 18 (h:=tn 19 (h:=?_)));obtain ⟨Us,hso,hsF,hJ,hz⟩:=Acg hJ hge hz hzo hlv.Acw;refine tO 21 (h:=?_);refine AC hso (wpList_nil ?_);simp only [Act.put];refine ⟨fun _=>hSf.out _ _ hJ, ?_⟩;refine tO 22 (h:=?_);go_wp2_with fail;refine ⟨fun _=>hSf.out _ _ hJ, ?_⟩;refine tD (h:=?_);exact ⟨rfl,lb,lv,_,by simp only [Act.puts,Act.put,lsa,lsz,lss],hJ,hz,hzo,hlv2.step hsF (fun h=>hX0 h.symm)⟩
     rintro a3 W3 ⟨lb,lk,o3,rfl,hJ,hz,hzo,hlk⟩;simp only [Act.puts,Act.put,lsa,lsz,lss];have q:=hQ.out;have hst3:=hst.out.trans hJ;have hp3:=(hJ.block p (au q.1) id).trans q.1;have hr3:=hR.out.step hst3 id id;have op3:(o3 p).1=Y:=by rw [hst3.own p (au (hF.out w (aj.refl _ _ _)).1),hO.out.1]
     clear q hS
     by_cases hf:qk.2=0
     ·obtain ⟨-, -,hqk⟩:=hgL.out;have hq1:=IZ (show (yk.Ee mine g.2).2=0 by rw [hqk];exact hf);rw [hqk] at hq1;obtain rfl:qk=(⟨mine,mine,g.2⟩,0):=Prod.ext hq1 hf;have hld:=hld.out;rw [if_pos rfl] at hld;simp only at hz hlk hld ⊢;obtain ⟨ka,kc,rfl⟩:=hlk.form;obtain ⟨GL,hGL⟩:=az (g.2.length);rw [hGL] at hz hlk hld ⊢;have glI:(0:Int)<=(GL:Int)/\(GL:Int)<=256:=by have:=hgL.out.2.1;omega
      have coI:(0:Int)<=(Co:Int)/\(Co:Int)<=256:=by have:=hA.out.1.co;have:=hA.out.1.ls.n;simp only at *;omega
      have hmn:min (Co:Int) (GL:Int)=((min Co GL:Nat):Int):=aP
      have hne:lb ≠ p:=by rintro rfl;have:=hX.out.1;omega
      have zY:=ae (AaS (AV hz));obtain ⟨s1,hp4⟩:=Aeb hp3 2 (by simp [Aai]) (p:=mine) (c:=mine) (lv := .slice ka GL kc) ⟨_,_,_,rfl⟩;have st4:=(aj.refl (ak Y) W3 o3).setCells p 2 (BR mine mine (.slice ka GL kc)) (.inl op3);have hz4:=(ah p (BR mine mine (.slice ka GL kc)) 2 W3 lb hne).trans hz;obtain ⟨W4,hW4⟩:=az (W3.setCells p 2 (BR mine mine (.slice ka GL kc)));rw [hW4] at s1 hp4 st4 hz4;have c5:=ag hp4 5;have c13:=ag hp4 13;have cl:=ag hz4 2;simp only [Aai,BR,List.take_succ_cons,List.take_zero,List.drop_succ_cons,List.drop_zero,List.cons_append,List.nil_append,ax,ay] at c5 c13 cl;have f5:=Ap hp4 5;have f13:=Ap hp4 13;have st5:=(st4.setCell (a:=(aW p 5)) (.int .i64 2) (.inl op3)).setCell (a:=(aW p 13)) (GL:aV) (.inl op3);have hp5:=Ai (i:=13) (GL:aV) (Ai (i:=5) (.int .i64 2) hp4);obtain ⟨W5,hW5⟩:=az ((W4.setCell (aW p 5) (.int .i64 2)).setCell (aW p 13) (GL:aV));rw [hW5] at st5 hp5;have x9:W5.drew.cell? (aW p 9)=some (Co:aV):=ag (w:=W5.drew) hp5 9;have x13:W5.drew.cell? (aW p 13)=some (GL:aV):=ag (w:=W5.drew) hp5 13;have g9:W5.drew.frozen? (aW p 9)=false:=Ap (w:=W5.drew) hp5 9;have st6:=st5.drew.setCell (a:=(aW p 9)) (.int .i64 ((min Co GL:Nat):Int)) (.inl op3);have zD:=Ai (w:=W5.drew) (i:=9) (.int .i64 ((min Co GL:Nat):Int)) hp5;obtain ⟨W6,hW6⟩:=az (W5.drew.setCell (aW p 9) (.int .i64 ((min Co GL:Nat):Int)));rw [hW6] at st6 zD;have y14:=ag zD 14;have y1:=ag zD 1;have h14:=Ap zD 14;have st7:=st6.setCell (a:=(aW p 14)) (.bool false) (.inl op3);have hp7:=Ai (i:=14) (.bool false) zD;obtain ⟨W7,hW7⟩:=az (W6.setCell (aW p 14) (.bool false));rw [hW7] at st7 hp7;have hmk:=Aka W7 N aP;have st8:=st7.alloc (.cells (ivs (List.replicate N 0)).toArray 3) (Y,0);have hm8:=heap_alloc_new W7 (.cells (ivs (List.replicate N 0)).toArray 3);have hp8:=(Below.heap_alloc W7 (.cells (ivs (List.replicate N 0)).toArray 3) p (au hp7)).trans hp7;have om8:=Au o3 W7.heap.size (Y,0);have op8:(Ak o3 W7.heap.size (Y,0) p).1=Y:=by rw [BI _ _ (by have:=au hp7;omega)];exact op3
      obtain ⟨W8,hW8⟩:=az (W7.alloc (.cells (ivs (List.replicate N 0)).toArray 3));obtain ⟨mb,hmb⟩:=az (W7.heap.size);obtain ⟨o8,ho8⟩:=az (Ak o3 mb (Y,0));rw [hW8,hmb] at hmk;rw [hW8,hmb,ho8] at st8;rw [hW8,hmb] at hm8;rw [hW8] at hp8;rw [hmb,ho8] at om8 op8;have hpm:p ≠ mb:=by have:=au hp7;omega
      have z12:=ag hp8 12;have h12:=Ap hp8 12;simp only [Aai,BR,List.take_succ_cons,List.take_zero,List.drop_succ_cons,List.drop_zero,List.cons_append,List.nil_append,lss,lsz,ax,ay] at y14 y1 z12;have st9:=st8.setCell (a:=(aW p 12)) (.slice mb N N) (.inl op8);have hp9:=Ai (i:=12) (.slice mb N N) hp8;have hm9:=(Below.heap_setCell W8 (aW p 12) (.slice mb N N) mb (Ne.symm hpm)).trans hm8;have hne2:=hX.out.1;have qU:¬ ak Y 0:=fun h=>hY h.symm;have hk9:aj (ak Y) W3 o3 (W8.setCell (aW p 12) (.slice mb N N)) o8:=st9;have h47:W4.heap.size<=mb:=by rw [<-hmb, <-hW7, <-hW6, <-hW5];simp
      have ol8:(o8 lb).1=X:=by rw [<-ho8,BI _ _ (by have:=au hz4;omega)];exact hzo
      have hz9:=(hk9.block lb (au hz) (by rw [hzo];unfold ak;omega)).trans hz;have hl9:=hlk.step hk9 qU;obtain ⟨W9,hW9⟩:=az (W8.setCell (aW p 12) (.slice mb N N));rw [hW9] at hk9 hp9 hm9 hz9 hl9;have hp9:W9.heap[p]?=some (.cells (Aai I N ⟨mine,mine,g.2⟩ (.slice ka GL kc) 2 mine wt sn (min Co GL) (.slice hb N N) (.slice pb N N) (.slice mb N N) (GL:Int) false).toArray 124 (0,0)):=hp9;have hT:=aa8 ((hst3.only Y).trans hk9) hp9 hm9 hz9 hl9 op8 (congrArg Prod.fst om8) ol8;have s1H:=ae s1;have Ajb:=ae hmk;have hE:=aa5 hW4 hW5 (show (W5.setCell (aW p 9) (.int .i64 ((min Co GL:Nat):Int))).drew=W6 from hW6) hW7 hW9;have AeF:=ae hld;have AvV:=aI x9 x13;have Azc:=ae hpm;clear hst3 hp3 hr3 op3 hJ hz hzo hlk hf hqk hq1 AbJ hSf s1 hp4 st4 hz4 hW4 st5 hp5 hW5 x9 x13 st6 zD hW6 st7 hp7 hW7 hmk st8 hm8 hp8 om8 op8 hW8 hmb ho8 hpm st9 hp9 hm9 hk9 ol8 hz9 hl9 hW9 hld hne2 h47 hGL hne
      go_wp2_with (first
       | ((with_reducible apply Bo);exact zY.out;simp only [Act.put,lsa,lsz,lss])
       | ((with_reducible apply AC);exact s1H.out;simp only [Act.put]))
      rw [hE.out.2.1];refine Aa (fun w'=>w'.cell? (aW p 9)=some (Co:aV)/\w'.cell? (aW p 13)=some (GL:aV)) (fun i=>decide (i<12)) bf AvV (fun hHeld => ?_);refine tq 0 (h:=tq 1 (h:=tq 2 (h:=tq 3 (h:=tq 4 (h:=tq 5 (h:=tq 6 (h:=tq 7 (h:=tq 8 (h:=tq 9 (h:=tO 10 (h:=?_)))))))))));go_wp2_with fail;refine ⟨fun _=>hHeld, ?_⟩;refine tq 11 (h:=tO 12 (h:=?_));go_wp2_with fail;refine ⟨fun h=>by simp at h, ?_⟩;refine tD (h:=?_);clear hHeld AvV;rw [hE.out.2.2.1]
      go_wp2_with (first
       | ((with_reducible apply IC);rw [hE.out.2.2.2.1];exact Ajb.out;simp only [Act.put,lsa,lsz,lss]))
      rw [hE.out.2.2.2.2]
      go_loopw [8] (fun iv wx=>∃ k2:Nat,k2<=N/\iv = .int .i64 k2/\aj (ak Y) w o wx o8/\wx.heap[p]?=some (.cells (Aai I N ⟨mine,mine,g.2⟩ (.slice ka GL kc) 2 mine wt sn (min Co GL) (.slice hb N N) (.slice pb N N) (.slice mb N N) (GL:Int) false).toArray 124 (0,0))/\wx.heap[mb]?=some (.cells (ivs (List.replicate k2 (-1)++List.replicate (N - k2) 0)).toArray 3 (0,0))/\wx.heap[lb]?=some (.cells (BR mine mine (.slice ka GL kc)).toArray 120 (0,0))/\Lines wx o8 0 (.slice ka GL kc) g.2) (fun iv _=>N - (intOf iv).toNat)
      case atStart=>exact ⟨0,Nat.zero_le _,rfl,hT.out.1,hT.out.2.1,by simpa using hT.out.2.2.1,hT.out.2.2.2.1,hT.out.2.2.2.2.1⟩
      case round =>
       obtain ⟨k2,hk2,rfl,hst,hp9,hm9,hz9,hl9⟩:=hrel;have opm:=hT.out.2.2.2.2.2;have c1:=ag hp9 1;have c12:=ag hp9 12;simp only [Aai,ax,ay] at c1 c12
       by_cases hlt:k2<N
       ·have AbY:(0:Int)<=(k2:Int)/\(k2:Int)<(N:Int):=aP
        have cm:wr.cell? (aW mb k2)=some (.int .i64 0):=by
         rw [ag hm9];simp only [ivs,List.map_append,List.map_replicate];rw [List.getElem?_append_right bu,List.getElem?_replicate,if_pos (by simp;omega)]
        have fm:=Ap hm9 k2;have Aqz:=Ai (i:=k2) (.int .i64 (-1)) hm9;rw [Anm hlt] at Aqz;have AsK:=hst.setCell (a:=(aW mb k2)) (.int .i64 (-1)) (.inl opm.2.1);have k10:=(aj.refl (ak Y) wr o8).setCell (a:=(aW mb k2)) (.int .i64 (-1)) (.inl opm.2.1);have AeW:=(Below.heap_setCell wr (aW mb k2) (.int .i64 (-1)) p Azc.out).trans hp9;have Akb:=(k10.block lb (au hz9) (by rw [opm.2.2];have:=hX.out.1;unfold ak;omega)).trans hz9;have Afd:=aa5 AsK AeW Aqz Akb (hl9.step k10 (fun h=>hY h.symm));clear hst hp9 hm9 hz9 hl9 opm Aqz AsK k10 AeW Akb;go_wp2_with fail;go_roundw
        case rel=>exact ⟨k2+1,aP,by go_num,Afd.out.1,Afd.out.2.1,Afd.out.2.2.1,Afd.out.2.2.2.1,Afd.out.2.2.2.2⟩
        case measure=>simp [intOf];omega
       ·obtain rfl:N=k2:=aP
        rw [Nat.sub_self,List.replicate_zero,List.append_nil] at hm9;have hr9:AaB wr o8 Y p ⟨I,N,⟨mine,mine,g.2⟩, .leads mine (List.replicate N (-1)) GL false,wt,sn,min Co GL⟩:=
         ⟨_,2,mine,_,_,_,_,false,hp9,(hst.own p (au (hF.out w (aj.refl _ _ _)).1)).trans hO.out.1,hl9,rfl,rfl,⟨mb,by rw [List.length_replicate],hm9,opm.2.1⟩,rfl,rfl⟩
        have hcn:=ae (Adq hr9 hY rfl (by rw [List.length_replicate];omega) (by rw [List.length_replicate];omega) (by rw [List.length_replicate];exact hA.out.1.id) (fun x hx=>by rw [(List.mem_replicate.1 hx).2];omega) (by show g.2.length<=256;exact hgL.out.2.1) (by show min Co GL<=256;omega));have hB:=aa4 hst hz9 hl9 opm.2.2;clear hst hp9 hm9 hz9 hl9 opm hr9 c12 hT;go_wp2_with fail;refine hcn.out.mono ?_;rintro e w10 ⟨v10,o10,rfl,hs10,rfl,AeD⟩;obtain ⟨rr,hrr, -⟩:=Aj.Ql ⟨I,N,⟨mine,mine,g.2⟩, .leads mine (List.replicate N (-1)) GL false,wt,sn,min Co GL⟩ mine (List.replicate N (-1)) GL false;have hci:=Aj.EU ⟨I,N,⟨mine,mine,g.2⟩, .leads mine (List.replicate N (-1)) GL false,wt,sn,min Co GL⟩ mine (List.replicate N (-1)) GL false;have hce:Aj.count ⟨I,N,⟨mine,mine,g.2⟩, .stands mine has,wt,sn,min Co GL⟩ mine (List.replicate N (-1)) GL false=Aj.count ⟨I,N,⟨mine,mine,g.2⟩, .leads mine (List.replicate N (-1)) GL false,wt,sn,min Co GL⟩ mine (List.replicate N (-1)) GL false:=by rw [Aj.count_eq,Aj.count_eq]
        obtain ⟨Y1,hY1⟩:=az (Aj.count ⟨I,N,⟨mine,mine,g.2⟩, .leads mine (List.replicate N (-1)) GL false,wt,sn,min Co GL⟩ mine (List.replicate N (-1)) GL false);rw [hY1] at AeD hrr hci hce;have hkd:aj (ak Y) wr o8 w10.drew o10:=hs10.drew;have AiY:=AeD.step (aj.refl ai w10 o10).drew id id;have d6:=AiY.mine hrr;have Akb:w10.drew.heap[lb]?=_:=(hkd.block lb (au hB.out.2.1) (by rw [hB.out.2.2.2];have:=hX.out.1;unfold ak;omega)).trans hB.out.2.1;have d2:=ag Akb 2;simp only [BR,ax,ay] at d2;have AuK:=hB.out.2.2.1.step hkd (fun h=>hY h.symm);have hot:=ae (show Calls prog 114 #[.pointer p, .agg #[.int .u8 4, (mine:aV), .int .u64 0, .int .i64 0, .int .i64 0, .slice ka GL kc]] w10.drew (XL ai w10.drew o10 fun v w' o'=>AaA w' o' v (Y1.others fun _=>⟨4,mine,0,0,0,g.2⟩)) from Afh AiY (by rw [hci.2.2.2];show N<=3;omega) ⟨4,mine,0,0,0,g.2⟩ AuK);have hoe:=Ov (a:=Y1) (b:=⟨I,N,yk, .stands mine has,wt,sn,Co⟩) hci.2.2.2 hci.2.2.1 (fun _=>⟨4,mine,0,0,0,g.2⟩);have hR1:R=(Y1,Y1.others fun _=>⟨4,mine,0,0,0,g.2⟩):=by rw [<-AeF.out,hoe,hce]
        have Bao:=aI d6 d2;have hG:=aa5 (hB.out.1.trans hkd) AiY hR1 hrr Akb;clear hs10 AeD hrr hci hce hY1 hkd AiY d6 Akb d2 AuK hoe hR1 hcn;go_wp2_with fail;refine Aa (fun w'=>w'.cell? (aW p 6)=some (mine:aV)/\w'.cell? (aW lb 2)=some (.slice ka GL kc)) (fun _=>true) bf Bao (fun hHeld => ?_);refine tq 0 (h:=tq 1 (h:=tq 2 (h:=tq 3 (h:=tq 4 (h:=tq 5 (h:=tq 6 (h:=tq 7 (h:=tO 8 (h:=?_)))))))));go_wp2_with fail;refine hot.out.mono ?_;rintro e w11 ⟨v11,o11,rfl,hs11,Atq⟩;have Aoo:=aa3 (hG.out.1.trans (hs11.only Y)) Atq (hG.out.2.1.step hs11 id id);have Ban:=aI (Aoo.out.2.2.mine hG.out.2.2.2.1) (show w11.cell? ⟨lb,2,none⟩=some (.slice ka GL kc) from ag ((hs11.block lb (au hG.out.2.2.2.2) id).trans hG.out.2.2.2.2) 2);clear hs11 Atq hHeld;go_wp2_with fail;refine ⟨fun _=>Ban, ?_⟩;refine tq 9 (h:=tD (h:=?_));go_wp2_with fail;go_ret;exact ⟨_,o11,rfl,Aoo.out.1,by rw [hG.out.2.2.1];exact Aoo.out.2.1,by rw [hG.out.2.2.1];exact Aoo.out.2.2⟩
     ·have AlM:((qk.2:Int) == 0)=false:=by simp [hf]
      have hfo:=ae (Abi hr3 hY);have hld:=hld.out;rw [if_neg hf] at hld;have hld:=ae hld;have hst3:=ae hst3;clear hp3 hr3 op3 hJ hz hzo hlk hf AbJ hSf;go_wp2_with fail;refine hfo.out.mono ?_;rintro e w4 ⟨v4,o4,rfl,hs4,rfl,hr4⟩;have hF4:=aa2 ((hst3.out.only Y).trans hs4) hr4;clear hs4 hr4 hfo;go_wp2_with fail;go_ret;exact ⟨_,o4,rfl,hF4.out.1,by rw [<-hld.out];exact AaA.nil _ _,by rw [<-hld.out];exact hF4.out.2⟩
theorem AiO (w:World) (n:Nat) (hn:n<=1000):(Instr.makeSlice 121 (n:aV) (n:aV)).run prog w = .ok (.slice w.heap.size n n) (w.alloc (.cells (List.replicate n (Value.bool false)).toArray 4)):=by
 have h:=Gy (P:=prog) w 121 4 [.bool false] 1 1 underlying121 bf rfl n aP aP .i64 .i64;have hf:(List.replicate n [Value.bool false]).flatten=List.replicate n (Value.bool false):=by
  clear h hn;induction n with
  | zero=>rfl
  | succ n ih=>rw [List.replicate_succ,List.flatten_cons,ih];rfl
 rw [hf] at h;exact h
theorem AiN (w:World) (n:Nat) (hn:n<=1000):(Instr.makeSlice 122 (n:aV) (n:aV)).run prog w = .ok (.slice w.heap.size n n) (w.alloc (.cells (List.replicate n [Value.int .u64 0, .int .u64 0, .slice none 0 0]).flatten.toArray 120)):=
 Gy (P:=prog) w 122 120 _ 3 40 underlying122 bf rfl n aP aP .i64 .i64
def AaH (N I:Nat) (k:AX):List (Option (BitVec 64 × List Ar)):=(List.replicate N none).set I (some (k.current,k.lines))
theorem AhD {k:AX} {i:Nat} (h:(AaH N I k)[i]?=some (some (c,ls))):i=I/\I<N/\c=k.current/\ls=k.lines:=by
 unfold AaH at h;rw [List.getElem?_set] at h;split at h
 ·subst_vars
  split at h
  ·rename_i h2;cases h;exact ⟨rfl,by simpa using h2,rfl,rfl⟩
  ·cases h
 ·rw [List.getElem?_replicate] at h;split at h <;> cases h
theorem AkM {z:Aj} (h:NOk B z) {e:BitVec 64} (p1:z.k.promised.toNat<e.toNat) (p2:e.toNat<=281474976710656):NOk B ({ z with k:={ z.k with promised:=e },BB := .stands e (AaH z.n z.id z.k),waited:=0 }:Aj):=by
 refine ⟨⟨h.n1,h.n3,h.id,h.ls, ?_,p2,h.se,h.co⟩,⟨aP,p2⟩,by simp [AaH],⟨(z.k.current,z.k.lines), ?_⟩,fun p hp => ?_⟩
 ·have:=h.cp;show z.k.current.toNat<=e.toNat;omega
 ·unfold AaH;rw [List.getElem?_set_self (by simpa using h.id)]
 ·obtain ⟨i,hi⟩:=List.mem_iff_getElem?.1 hp;rw [(AhD (c:=p.1) (ls:=p.2) hi).2.2.2];exact h.ls
theorem AjY (k:AX) (hi:I<N):((AaH N I k).filter Option.isSome).length=1:=by
 have key:∀ (n i:Nat) (x:BitVec 64 × List Ar),i<n->(((List.replicate n none).set i (some x)).filter Option.isSome).length=1:=by
  intro n
  induction n with
  | zero=>intro i x h;omega
  | succ n ih =>
   intro i x h
   cases i with
   | zero=>rw [List.replicate_succ,lsz];simp
   | succ i=>rw [List.replicate_succ,lss,List.filter_cons_of_neg bu];exact ih i x aP
 exact key N I _ hi
theorem AiD {k:AX} {e:BitVec 64} {wt:Nat} {sn:BitVec 64} {Co:Nat} (hi:I<N):(Aj.lead ⟨I,N,{ k with promised:=e }, .stands e (AaH N I k),wt,sn,Co⟩ e (AaH N I k)).2=[]:=by
 unfold Aj.lead;rw [AjY k hi];split
 ·rfl
 ·rename_i h;obtain rfl:N=1:=by simp only at h;omega
  obtain rfl:I=0:=aP
  split
  ·rfl
  ·split
   ·rfl
   ·rfl
theorem AaA.Aim {v1 v2:Value} {ts:DX} (h1:AaA W o v1 ts) (h2:AaA W o v2 []) (hn:ts.length<=1000):(Builtin.append_ #[70,70] 70 #[v1,v2]).run prog W = .ok v1 W:=by
 obtain ⟨a2,c2,rfl⟩:=h2.form;obtain ⟨cs,hs, -⟩:=h1;have key:∃ a n c,v1 = .slice a n c/\n<=c/\n<=1000:=by
  rcases hs with ⟨⟨a,c,rfl⟩, -, -⟩ | ⟨b,off,cap,rfl,hl, -⟩
  ·exact ⟨_,_,_,rfl,Nat.zero_le _,Nat.zero_le _⟩
  ·exact ⟨_,_,_,rfl,hl,hn⟩
 obtain ⟨a,n,c,rfl,h1,h2⟩:=key;exact CB (P:=prog) W 70 70 126 7 underlying70 AfF a a2 n c c2 h1 aP
theorem AiF (h:AaB w o Y p y) (hY:Y ≠ 0) (hn:NOk B y) :
  Calls prog 60 #[.pointer p] w (XL (ak Y) w o fun v w' o'=>AaA w' o' v y.stand.2/\AaB w' o' Y p y.stand.1):=by
 have h1:=hn.n1;have h3:=hn.n3;have hi:=hn.id;have hpo:=hn.co;obtain ⟨I,N,yk,BB,wt,sn,Co⟩:=y;simp only at h1 h3 hi;obtain ⟨R,hR2⟩:=az (Aj.stand ⟨I,N,yk,BB,wt,sn,Co⟩);rw [hR2];obtain ⟨A,hA⟩:=az (Fj yk.promised sn);obtain ⟨E,hE⟩:=az (PQ A I N);have hmx:max (yk.promised.toNat:Int) (sn.toNat:Int)=(A.toNat:Int):=by
  rw [<-hA];unfold Fj;split <;> omega
 have hld:(if E=0 then ((⟨I,N,yk,BB,wt,sn,Co⟩:Aj),([]:DX)) else if (yk.CQ E).2=0 then ((Aj.lead ⟨I,N,(yk.CQ E).1, .stands E (AaH N I yk),0,sn,Co⟩ E (AaH N I yk)).1,(Aj.others ⟨I,N,yk,BB,wt,sn,Co⟩ fun _=>⟨1,E,0,0,0,[]⟩)++(Aj.lead ⟨I,N,(yk.CQ E).1, .stands E (AaH N I yk),0,sn,Co⟩ E (AaH N I yk)).2) else (⟨I,N,yk,BB,wt,sn,Co⟩,[]))=R:=by
  rw [<-hR2, <-hE, <-hA];rfl
 have hnx:=ae (fun w=>AjZ A I N h1 h3 hi w);rw [hE] at hnx;have hR:=ae h;obtain ⟨lv,ro,mine,hv,pv,mv,base,ready,hp,hpo,hl, -⟩:=h;simp only at hp hl;obtain ⟨la,lc,rfl⟩:=hl.form;have dr:aj ai w o w.drew o:=(aj.refl ai w o).drew;have hpd:w.drew.heap[p]?=_:=hp;have c0:=ag hpd 0;have c1:=ag hpd 1;have c2:=ag hpd 2;have c8:=ag hpd 8;simp only [Aai,ax,ay] at c0 c1 c2 c8;have hS:=aI c0 (aI c1 (aI c2 c8));obtain ⟨qk,hqk⟩:=az (yk.CQ E);have hpr:=AeQ (p:=yk.promised) (c:=yk.current) (hl.step dr id) E;rw [show (⟨yk.promised,yk.current,yk.lines⟩:AX)=yk from rfl,hqk] at hpr;rw [hqk] at hld;have AiZ:=ae hpr;have Azt:=ae (show (Instr.loadAt 120 (.pointer (some (aW p 2)))).run prog w.drew = .ok (Dy yk.promised yk.current (.slice la yk.lines.length lc)) w.drew from AaS (Acm hpd));have AeF:=ae hld;have AlP:=ae hmx;obtain ⟨X,hXY,hXf⟩:=KT o w.heap.size Y;have hX:=aa2 hXY hXf;have hP:=aa3 hp hpo hqk;have hnH:=ae hn;have hI3:=aa3 h1 h3 hi;have iI:(0:Int)<=(I:Int)/\(I:Int)<(N:Int):=aP
 have iN:I<N:=hi;have nI:(1:Int)<=(N:Int)/\(N:Int)<=3:=aP
 clear hR2 hA hE hmx hld hl dr hp hpd c0 c1 c2 c8 hqk hpr hXY hXf hn h1 h3 hi;go_enter func60,ntmps60;go_wp2_with fail;refine Aa (fun w'=>w'.cell? p=some (I:aV)/\w'.cell? (aW p 1)=some (N:aV)/\w'.cell? (aW p 2)=some (yk.promised:aV)/\w'.cell? (aW p 8)=some (sn:aV)) (fun _=>true) bf hS (fun hHeld => ?_);refine tq 0 (h:=tq 1 (h:=tq 2 (h:=tq 3 (h:=tq 4 (h:=tq 5 (h:=tq 6 (h:=tq 7 (h:=tq 8 (h:=tv 9 (A:aV) (hy:=fun w hSw=>by (try dsimp only at hSw);go_simp;exact AlP.out) (h:=tq 10 (h:=tq 11 (h:=tq 12 (h:=tq 13 (h:=?_))))))))))))));refine tq 14 (h:=tq 15 (h:=tq 16 (h:=tq 17 (h:=tO 18 (h:=?_)))));go_wp2_with fail;refine (hnx.out _).mono ?_;rintro e w' ⟨rfl,rfl⟩;go_wp2_with fail;refine ⟨fun _=>hHeld, ?_⟩;refine tq 19 (h:=tD (h:=?_));clear hHeld hS
 go_wp2_with ((with_reducible apply Bo);exact Azt.out;simp only [Act.put,lsa,lsz,lss])
 refine AiZ.out.mono ?_;rintro e W2 ⟨v2,o2,rfl,hs2,lk,rfl,hlk⟩;obtain ⟨lb,W3,o3,hal,hs3,hz3,ApF,hge⟩:=Ach X W2 o2;have hJ3:aj ai w o W3 o3:=(show aj ai w o W2 o2 from ⟨hs2.os,hs2.tape,hs2.output,hs2.size,hs2.own,hs2.block⟩).trans hs3;obtain ⟨W4,hso,hsF,hJ4,hz4⟩:=Acg hJ3 (Nat.le_trans hs2.size hge) hz3 ApF (p:=qk.1.promised) (c:=qk.1.current) (hlk.step hs3 id).Acw;have Aia:=(hlk.step hs3 id).step hsF (fun h=>by have:=hX.out.1;unfold ak at h;omega);have Adh:=ae hal;have Aaz:=ae hso;have hG:=aa4 hJ4 hz4 ApF Aia;clear hs2 hal hs3 hz3 ApF hge hJ3 hso hsF hJ4 hz4 Aia hlk;have Apc:R=(⟨I,N,yk,BB,wt,sn,Co⟩,[])->XL (ak Y) w o (fun v w' o'=>AaA w' o' v R.2/\AaB w' o' Y p R.1) (.returned (.slice none 0 0)) W4:=fun h=>by
  subst h;exact ⟨_,o3,rfl,hG.out.1.only Y,AaA.nil _ _,hR.out.step hG.out.1 id id⟩
 have hbad:=ae Apc;clear Apc
 by_cases he0:E=0
 ·have heI:((E.toNat:Int) == 0)=true:=by rw [he0];rfl
  have hld:=AeF.out;rw [if_pos he0] at hld;have hb:=ae (hbad.out hld.symm);clear he0 hld
  go_wp2_with (first
   | ((with_reducible apply AU);exact Adh.out;simp only [Act.put,lsa,lsz,lss])
   | ((with_reducible apply AC);exact Aaz.out;simp only [Act.put]))
  go_ret;exact hb.out
 have heI:((E.toNat:Int) == 0)=false:=by
  have:E.toNat ≠ 0:=fun h=>he0 (BitVec.eq_of_toNat_eq h);simp;omega
 by_cases hf:qk.2=0
 ·have hqk:=hP.out.2.2;obtain ⟨p1,p2⟩:=Jf (show (yk.CQ E).2=0 by rw [hqk];exact hf);have hq1:=GM (show (yk.CQ E).2=0 by rw [hqk];exact hf);rw [hqk] at hq1;obtain rfl:qk=({ yk with promised:=E },0):=Prod.ext hq1 hf;have hld:=AeF.out;rw [if_neg he0,if_pos rfl] at hld;simp only at hld ⊢;have htold:=AiD (k:=yk) (e:=E) (wt:=0) (sn:=sn) (Co:=Co) iN;rw [htold,List.append_nil] at hld;obtain ⟨hJ4,hz4,Atc,Aia⟩:=hG.out;simp only at hz4 Aia;obtain ⟨ka,kc,rfl⟩:=Aia.form;obtain ⟨L,hL⟩:=az (yk.lines.length);have hso:=Aaz.out;simp only at hso;rw [hL] at hso hz4 Aia ⊢;have Aaz:=ae hso;clear hso;have hp4:=(hJ4.block p (au hP.out.1) id).trans hP.out.1;have op4:(o3 p).1=Y:=by rw [hJ4.own p (au hP.out.1),hP.out.2.1]
  have hne:lb ≠ p:=by rintro rfl;have:=hX.out.1;omega
  have Ada:=ae (AaS (AV hz4));obtain ⟨s5,hp5⟩:=Aeb hp4 2 (by simp [Aai]) (p:=E) (c:=yk.current) (lv := .slice ka L kc) ⟨_,_,_,rfl⟩;have k5:=(aj.refl (ak Y) W4 o3).setCells p 2 (BR E yk.current (.slice ka L kc)) (.inl op4);obtain ⟨W5,hW5⟩:=az (W4.setCells p 2 (BR E yk.current (.slice ka L kc)));rw [hW5] at s5 hp5 k5;have c5:=ag hp5 5;have c6:=ag hp5 6;have c7:=ag hp5 7;have f5:=Ap hp5 5;have f6:=Ap hp5 6;have f7:=Ap hp5 7;have zD:=Ai (i:=7) (.int .i64 0) (Ai (i:=6) (E:aV) (Ai (i:=5) (.int .i64 1) hp5));have k6:=((k5.setCell (a:=(aW p 5)) (.int .i64 1) (.inl op4)).setCell (a:=(aW p 6)) (E:aV) (.inl op4)).setCell (a:=(aW p 7)) (.int .i64 0) (.inl op4);obtain ⟨W6,hW6⟩:=az (((W5.setCell (aW p 5) (.int .i64 1)).setCell (aW p 6) (E:aV)).setCell (aW p 7) (.int .i64 0));rw [hW6] at zD k6;have zD:W6.heap[p]?=some (.cells (Aai I N ⟨E,yk.current,yk.lines⟩ (.slice ka L kc) 1 E 0 sn Co hv pv mv base ready).toArray 124 (0,0)):=zD;have Aqu:=AiO W6 N aP;have k7:=k6.alloc (.cells (List.replicate N (Value.bool false)).toArray 4) (Y,0);have hb7:=heap_alloc_new W6 (.cells (List.replicate N (Value.bool false)).toArray 4);have hp7:=(Below.heap_alloc W6 (.cells (List.replicate N (Value.bool false)).toArray 4) p (au zD)).trans zD;have ob7:=Au o3 W6.heap.size (Y,0);have Akj:=au zD;have op7:(Ak o3 W6.heap.size (Y,0) p).1=Y:=by rw [BI _ _ aP];exact op4
  obtain ⟨W7,hW7⟩:=az (W6.alloc (.cells (List.replicate N (Value.bool false)).toArray 4));obtain ⟨hb,hbe⟩:=az (W6.heap.size);obtain ⟨o7,ho7⟩:=az (Ak o3 hb (Y,0));rw [hW7,hbe] at Aqu;rw [hW7,hbe,ho7] at k7;rw [hW7,hbe] at hb7;rw [hW7] at hp7;rw [hbe,ho7] at ob7 op7;rw [hbe] at Akj;have c10:=ag hp7 10;have e1:=ag hp7 1;have d1:=ag hp5 1;have f10:=Ap hp7 10;have k8:=k7.setCell (a:=(aW p 10)) (.slice hb N N) (.inl op7);have hp8:=Ai (i:=10) (.slice hb N N) hp7;have hb8:=(Below.heap_setCell W7 (aW p 10) (.slice hb N N) hb (by show hb ≠ p;omega)).trans hb7;obtain ⟨W8,hW8⟩:=az (W7.setCell (aW p 10) (.slice hb N N));rw [hW8] at k8 hp8 hb8;have AnR:=AiN W8 N aP;obtain ⟨KC,hKC⟩:=az ((List.replicate N [Value.int .u64 0, .int .u64 0, .slice none 0 0]).flatten);have hKl:KC.length=N*3:=by rw [<-hKC];simp
  rw [hKC] at AnR;have k9:=k8.alloc (.cells KC.toArray 120) (Y,0);have hq9:=heap_alloc_new W8 (.cells KC.toArray 120);have hp9:=(Below.heap_alloc W8 (.cells KC.toArray 120) p (au hp8)).trans hp8;have hb9:=(Below.heap_alloc W8 (.cells KC.toArray 120) hb (au hb8)).trans hb8;have oq9:=Au o7 W8.heap.size (Y,0);have Aux:=au hb8;have op9:(Ak o7 W8.heap.size (Y,0) p).1=Y:=by rw [BI _ _ aP];exact op7
  have ob9:(Ak o7 W8.heap.size (Y,0) hb).1=Y:=by rw [BI _ _ aP,ob7]
  obtain ⟨W9,hW9⟩:=az (W8.alloc (.cells KC.toArray 120));obtain ⟨pb,hpe⟩:=az (W8.heap.size);obtain ⟨o9,ho9⟩:=az (Ak o7 pb (Y,0));rw [hW9,hpe] at AnR;rw [hW9,hpe,ho9] at k9;rw [hW9,hpe] at hq9;rw [hW9] at hp9 hb9;rw [hpe,ho9] at oq9 op9 ob9;rw [hpe] at Aux;have c11:=ag hp9 11;have f11:=Ap hp9 11;have k10:=k9.setCell (a:=(aW p 11)) (.slice pb N N) (.inl op9);have AeW:=Ai (i:=11) (.slice pb N N) hp9;have AgE:=(Below.heap_setCell W9 (aW p 11) (.slice pb N N) hb (by show hb ≠ p;omega)).trans hb9;have hq10:=(Below.heap_setCell W9 (aW p 11) (.slice pb N N) pb (by show pb ≠ p;omega)).trans hq9;obtain ⟨W10,Arn⟩:=az (W9.setCell (aW p 11) (.slice pb N N));rw [Arn] at k10 AeW AgE hq10;have AeW:W10.drew.heap[p]?=some (.cells (Aai I N ⟨E,yk.current,yk.lines⟩ (.slice ka L kc) 1 E 0 sn Co (.slice hb N N) (.slice pb N N) mv base ready).toArray 124 (0,0)):=AeW;have AgE:W10.drew.heap[hb]?=_:=AgE;have x0:=ag AeW 0;have x10:=ag AeW 10;have xb:=ag AgE I;have fb:=Ap AgE I;rw [List.getElem?_replicate,if_pos iN] at xb;have k11:=k10.drew.setCell (a:=(aW hb I)) (.bool true) (.inl ob9);have AlG:=(Below.heap_setCell W10.drew (aW hb I) (.bool true) p (by show p ≠ hb;omega)).trans AeW;have Ard:=Ai (i:=I) (.bool true) AgE;have hq11:=(Below.heap_setCell W10.drew (aW hb I) (.bool true) pb (by show pb ≠ hb;omega)).trans (show W10.drew.heap[pb]?=_ from hq10);obtain ⟨W11,Arm⟩:=az (W10.drew.setCell (aW hb I) (.bool true));rw [Arm] at k11 AlG Ard hq11;have y0:W11.drew.cell? p=_:=ag (w:=W11.drew) AlG 0;have y11:W11.drew.cell? (aW p 11)=_:=ag (w:=W11.drew) AlG 11;have Atg:W11.drew.heap[lb]?=_:=(k11.drew.block lb (au hz4) (by rw [Atc];have:=hX.out.1;unfold ak;omega)).trans hz4;have AoV:=Aia.step k11.drew (fun h=>hY h.symm);have hq11:W11.drew.heap[pb]?=_:=hq11;obtain ⟨s12,hq12⟩:=Aeb hq11 (I*3) (by rw [hKl];omega) (p:=E) (c:=yk.current) (lv := .slice ka L kc) ⟨_,_,_,rfl⟩;have j12:=(aj.refl (ak Y) W11.drew o9).setCells pb (I*3) (BR E yk.current (.slice ka L kc)) (.inl (congrArg Prod.fst oq9));have Aqn:=(ah pb (BR E yk.current (.slice ka L kc)) (I*3) W11.drew p aP).trans (show W11.drew.heap[p]?=_ from AlG);have Arc:=(ah pb (BR E yk.current (.slice ka L kc)) (I*3) W11.drew hb aP).trans (show W11.drew.heap[hb]?=_ from Ard);obtain ⟨W12,AvO⟩:=az (W11.drew.setCells pb (I*3) (BR E yk.current (.slice ka L kc)));rw [AvO] at s12 hq12 j12 Aqn Arc;have k12:=k11.drew.trans j12;have hl12:=AoV.step j12 (fun h=>hY h.symm);have AsO:=((k12.own p (au hp4)).trans (hJ4.own p (au hP.out.1))).trans hP.out.2.1;have Aqi:AaB W12 o9 Y p ⟨I,N,⟨E,yk.current,yk.lines⟩, .stands E (AaH N I yk),0,sn,Co⟩:=by
   refine ⟨_,1,E,_,_,mv,base,ready,Aqn,AsO,hl12,rfl,rfl,⟨hb,by simp [AaH],by simpa [AaH,List.map_set] using Arc,ob9⟩,_,⟨pb,by simp [AaH],hq12,congrArg Prod.fst oq9⟩,by simp [BR,hKl,AaH];omega,fun i c ls hi => ?_⟩;obtain ⟨rfl, -,rfl,rfl⟩:=AhD hi;have hkl:(KC.take (i*3)).length=i*3:=by rw [List.length_take,hKl];omega
   refine ⟨?_,_, ?_,hl12⟩
   all_goals rw [List.append_assoc,List.getElem?_append_right aP,hkl,Nat.add_sub_cancel_left,List.getElem?_append_left (by simp [BR])];rfl
  have hot:=ae (show Calls prog 114 #[.pointer p, .agg #[.int .u8 1, (E:aV), .int .u64 0, .int .i64 0, .int .i64 0, .slice none 0 0]] W12 (XL ai W12 o9 fun v w' o'=>AaA w' o' v (Aj.others ⟨I,N,⟨E,yk.current,yk.lines⟩, .stands E (AaH N I yk),0,sn,Co⟩ fun _=>⟨1,E,0,0,0,[]⟩)) from Afh Aqi hI3.out.2.1 ⟨1,E,0,0,0,[]⟩ (Lines.nil _ _ 0));have hT:=aa2 ((hJ4.only Y).trans k12) Aqi;have hnk:=ae (AkM hnH.out (e:=E) p1 p2);have hfin:=ae hld;have ApQ:=ae htold;have AcA:=aI x10 x0;have Ajn:=aI y11 (aI y0 Atg);have s5H:=ae s5;have AxZ:=ae s12;have Aus:=ae Aqu;have Aur:=ae AnR;have hEE:=aa4 hW6 hW8 Arn (show (W10.setCell (aW hb I) (.bool true)).drew=W11 from Arm);have ltN:I<N:=iN;simp only [Aai,BR,List.take_succ_cons,List.take_zero,List.drop_succ_cons,List.drop_zero,List.cons_append,List.nil_append,lss,lsz,ax,ay] at c5 c6 c7 c10 c11 d1 e1;clear hqk p1 p2 hq1 hld htold hJ4 hz4 Atc Aia hL hp4 op4 hne s5 hp5 k5 hW5 zD k6 hW6 Aqu k7 hb7 hp7 ob7 Akj op7 hW7 hbe ho7 k8 hp8 hb8 hW8 AnR hKC hKl k9 hq9 hp9 hb9 oq9 Aux op9 ob9 hW9 hpe ho9 k10 AeW AgE hq10 Arn x0 x10 k11 AlG Ard hq11 Arm y0 y11 Atg AoV s12 hq12 j12 Aqn Arc AvO k12 hl12 AsO Aqi he0 hf
  go_wp2_with (first
   | ((with_reducible apply AU);exact Adh.out;simp only [Act.put,lsa,lsz,lss])
   | ((with_reducible apply AC);exact Aaz.out;simp only [Act.put])
   | ((with_reducible apply Bo);exact Ada.out;simp only [Act.put,lsa,lsz,lss])
   | ((with_reducible apply AC);exact s5H.out;simp only [Act.put])
   | ((with_reducible apply IC);(first | (rw [hEE.out.1];exact Aus.out) | (rw [hEE.out.2.1];exact Aur.out));simp only [Act.put,lsa,lsz,lss]))
  rw [hEE.out.2.2.1];refine Aa (fun w'=>w'.cell? (aW p 10)=some (.slice hb N N)/\w'.cell? p=some (I:aV)) (fun i=>decide (i<9)) bf AcA (fun hHeld => ?_);refine tq 0 (h:=tq 1 (h:=tq 2 (h:=tq 3 (h:=tq 4 (h:=tq 5 (h:=tq 6 (h:=tq 7 (h:=tq 8 (h:=tO 9 (h:=?_))))))))));go_wp2_with fail;refine ⟨fun h=>by simp at h, ?_⟩;refine tD (h:=?_);clear hHeld AcA;rw [hEE.out.2.2.2];go_wp2_with fail;refine Aa (fun w'=>w'.cell? (aW p 11)=some (.slice pb N N)/\w'.cell? p=some (I:aV)/\w'.heap[lb]?=some (.cells (BR E yk.current (.slice ka L kc)).toArray 120 (0,0))) (fun i=>decide (i<10)) bf Ajn (fun hHeld => ?_);refine tq 0 (h:=tq 1 (h:=tq 2 (h:=tq 3 (h:=tq 4 (h:=tq 5 (h:=tq 6 (h:=tq 7 (h:=?_))))))));refine Dt (i:=8) (v:=Dy E yk.current (.slice ka L kc)) rfl bf (fun _ _ _ h=>h) (yieldsIf_load_mid rfl 120 (.tmp 4) rfl lb 0 rfl (BR E yk.current (.slice ka L kc)) _ (fun w h=>AV h.2.2) underlying120 rfl bf) (by assumption) ?_;simp only [Act.put,lsa,lsz,lss];refine tq 9 (h:=tO 10 (h:=?_));refine AC AxZ.out (wpList_nil ?_);simp only [Act.put];refine ⟨fun h=>by simp at h, ?_⟩;refine tD (h:=?_);clear hHeld Ajn;go_wp2_with fail;refine hot.out.mono ?_;rintro e W13 ⟨v13,o13,rfl,Aqb,AyN⟩;have AtN:=hT.out.2.step Aqb id id;have hle:=ae (AeV AtN hY hnk.out rfl);have hU:=aa2 (hT.out.1.trans (Aqb.only Y)) AyN;clear Aqb AtN hot;go_wp2_with fail;refine hle.out.mono ?_;rintro e W14 ⟨v14,o14,rfl,Aqa,ApS,AtL⟩;rw [ApQ.out] at ApS;have ht:=hU.out.2.step Aqa (fun h=>hY h.symm);have hap:=ae (ht.Aim ApS (by have:=AfC I ⟨1,E,0,0,0,[]⟩ N;have:=hI3.out.2.1;show (AaN I ⟨1,E,0,0,0,[]⟩ N).length<=1000;omega));have hF:=aa3 (hU.out.1.trans Aqa) ht AtL;clear Aqa ApS AtL ht hle
  go_wp2_with ((with_reducible apply Bl);exact hap.out;simp only [Act.put,lsa,lsz,lss])
  go_ret;exact ⟨_,o14,rfl,hF.out.1,by rw [<-hfin.out];exact hF.out.2.1,by rw [<-hfin.out];exact hF.out.2.2⟩
 ·have AlM:((qk.2:Int) == 0)=false:=by simp [hf]
  have hld:=AeF.out;rw [if_neg he0,if_neg hf] at hld;have hb:=ae (hbad.out hld.symm);clear he0 hld hf
  go_wp2_with (first
   | ((with_reducible apply AU);exact Adh.out;simp only [Act.put,lsa,lsz,lss])
   | ((with_reducible apply AC);exact Aaz.out;simp only [Act.put]))
  go_ret;exact hb.out
def Acf (id:Nat) (f:Nat->BG) (k:Nat):DX:=((List.range k).filter fun i=>i != id).map fun i=>(i,f i)
theorem AfD (id:Nat) (f:Nat->BG) (k:Nat):Acf id f (k+1)=if k=id then Acf id f k else Acf id f k++[(k,f k)]:=by
 unfold Acf;rw [List.range_succ,List.filter_append,List.map_append]
 by_cases h:k=id
 ·rw [if_pos h];subst h;simp
 ·rw [if_neg h];have:(k != id)=true:=by simp [h]
  simp [this]
theorem AjX (id:Nat) (f:Nat->BG) (k:Nat):(Acf id f k).length<=k:=by
 unfold Acf;rw [List.length_map];have:=List.length_filter_le (fun i=>i != id) (List.range k);rw [List.length_range] at this;exact this
theorem Lines.retag {o':Own} (h:Lines w o base v ls) (ho:∀ b,b<w.heap.size->(o b).1=0->(o' b).1=0):Lines w o' base v ls:=by
 obtain ⟨cs,h1,h2,h3,h4⟩:=h;refine ⟨cs, ?_,h2.AfI ho,h3,h4⟩
 rcases h1 with h1 | ⟨b,off,cap,a,c,d,e,f,g⟩
 ·exact .inl h1
 ·exact .inr ⟨b,off,cap,a,c,d,ho b f e,f,g⟩
theorem AgG {out:Value} {ts:DX} (hrow:kP W o base X 126 7 out ts.length cs) (hC:AaT W o cs ts) (hX:X ≠ 0) (hb:base<=W.heap.size) (m:BG) {la:Option Addr} {lc:Nat} (hl:Lines W o 0 (.slice la n lc) m.ls) (hn:ts.length<=100) :
  ∃ (a:Option Addr) (c:Nat) (W1 W5:World) (o5:Own),(Instr.buildSlice 70 1 #[(0, .agg #[(k:aV), .int .u8 (m.k:Int), (m.e:aV), (m.c:aV), (m.at':aV), (m.com:aV), .slice la n lc])]).run prog W = .ok (.slice W.heap.size 1 1) W1 /\
   (Builtin.append_ #[70,70] 70 #[out, .slice W.heap.size 1 1]).run prog W1 = .ok (.slice a (ts.length+1) c) W5 /\
   (∃ cs5,kP W5 o5 base X 126 7 (.slice a (ts.length+1) c) (ts++[(k,m)]).length cs5/\AaT W5 o5 cs5 (ts++[(k,m)]))/\aj (ak X) W o W5 o5:=by
 have hbs:=Adk W (k:Int) (m.k:Int) (m.e.toNat:Int) (m.c.toNat:Int) (m.at':Int) (m.com:Int) (.slice la n lc);have hsa:=(aj.refl ai W o).alloc (.cells (AaD (k,m) (.slice la n lc)).toArray 126) (0,0);have hnb:=heap_alloc_new W (.cells (AaD (k,m) (.slice la n lc)).toArray 126);have hone:sH (W.alloc (.cells (AaD (k,m) (.slice la n lc)).toArray 126)) (Ak o W.heap.size (0,0)) (.slice W.heap.size 1 1) 1 (AaD (k,m) (.slice la n lc)):=
  .inr ⟨W.heap.size,0,1,rfl,Nat.le_refl _,by simp [maxLen],by rw [Au],bu,AV hnb⟩
 obtain ⟨nv,w5,o5,hrun,tK,hs5⟩:=(hrow.step hsa id).append (t:=70) underlying70 AhN rfl aP AfF (Nat.le_trans hb hsa.size) hone rfl Aeu aP aP;obtain ⟨a,c,rfl⟩:=tK.form;have h0:¬ ak X 0:=fun h=>hX h.symm;refine ⟨a,c,_,w5,o5,hbs,hrun,⟨_,by rw [List.length_append];exact tK,(hC.step hsa id).step hs5 h0 |>.append (AaT.single ((hl.step hsa id).step hs5 h0))⟩,(hsa.only X).trans hs5⟩
theorem AgV (X:Nat) (w:World) (o:Own):∃ (b:Nat) (W:World) (O:Own),(Instr.alloc 46 true (.tuple #[])).run prog w = .ok (.pointer b) W/\aj ai w o W O/\W.heap[b]?=some (.cells DI.toArray 46 (0,0))/\(O b).1=X/\w.heap.size<=b:=
 ⟨w.heap.size,_,_,AB (P:=prog) w 46 _ Oa,(aj.refl ai w o).alloc _ (X,0),heap_alloc_new w _,by rw [Au],Nat.le_refl _⟩
theorem AiG {V:World} {O:Own} (hJ:aj ai V O W o) (hge:V.heap.size<=b) (hz:W.heap[b]?=some (.cells cs.toArray 46 (0,0))) (hl:cs.length=6) (ho:(o b).1=X) (vs:List Value) (h6:vs.length=6) (h1:vs.all (·.oneCell')=true) :
  ∃ W2,(Instr.storeAt 46 (.pointer b) (.agg vs.toArray)).run prog W = .ok () W2/\aj (ak X) W o W2 o/\aj ai V O W2 o/\W2.heap[b]?=some (.cells vs.toArray 46 (0,0)):=by
 obtain ⟨g1,g2⟩:=Ba (P:=prog) (ty:=46) (vs:=vs) hz (by rw [h6,hl]) (by rw [h6];exact FT) h1;exact ⟨_,g1,(aj.refl _ W o).setCells b 0 _ (.inl ho),hJ.setCells b 0 _ (.inr hge),g2⟩
theorem Ahv.keep {ty:TypeId} {L:Array Value} (hp:w.heap[p]?=some (.cells L 124 (0,0))) (hk:∀ b,b ≠ p->W.heap[b]?=w.heap[b]?) (ht:ty ≠ 124) (h:Ahv w o Y ty v n cs):Ahv W o Y ty v n cs:=by
 obtain ⟨b,h1,h2,h3⟩:=h;exact ⟨b,h1,(hk b (fun e=>by rw [e,hp] at h2;injection h2 with h2;injection h2 with _ h2;exact ht h2.symm)).trans h2,h3⟩
theorem AcW.keep {L:Array Value} {ro:Int} {mine:BitVec 64} {hv pv mv:Value} {base:Int} {r:Adl} (h:AcW w o Y ro mine hv pv mv base ready r) (hp:w.heap[p]?=some (.cells L 124 (0,0))) (hk:∀ b,b ≠ p->W.heap[b]?=w.heap[b]?) (s:aj (ak Y) w o W o) (hY:Y ≠ 0):AcW W o Y ro mine hv pv mv base ready r:=by
 cases r with
 | follows=>exact h
 | stands m has=>obtain ⟨a,b,c,cs,d,e⟩:=h;exact ⟨a,b,c.keep hp hk bz,cs,d.keep hp hk bz,e.step s (fun h=>hY h.symm)⟩
 | leads m nR b r=>obtain ⟨a,b,c,d⟩:=h;exact ⟨a,b,c.keep hp hk bz,d⟩
theorem Afi (h:AaB w o Y p y) (hY:Y ≠ 0) (hn:NOk B y) (hw:y.waited<=1000000) (_hr:y.OD=false) (hr2:∀ m nR b r,y.BB ≠ .leads m nR b r) :
  Calls prog 33 #[.pointer p] w (XL (ak Y) w o fun v w' o'=>AaA w' o' v y.tick.2/\AaB w' o' Y p y.tick.1):=by
 have h1:=hn.n1;have h3:=hn.n3;have hi:=hn.id;have hn1:NOk B { y with waited:=y.waited+1 }:=⟨⟨hn.n1,hn.n3,hn.id,hn.ls,hn.cp,hn.pt,hn.se,hn.co⟩,hn.ro⟩;have ht:y.tick=if 3+2*y.id<y.waited+1 then Aj.stand { y with waited:=y.waited+1 } else ({ y with waited:=y.waited+1 },[]):=by
  unfold Aj.tick;split
  ·rename_i m nR b r e;exact absurd e (hr2 m nR b r)
  ·rfl
 rw [ht];clear ht hn;obtain ⟨lv,ro,mine,hv,pv,mv,base,ready,hp,hpo,hl,h4⟩:=h;have hro:(ro == 2)=false:=by
  cases e:y.BB with
  | follows=>rw [e] at h4;rw [show ro=0 from h4];rfl
  | stands m has=>rw [e] at h4;rw [h4.1];rfl
  | leads m nR b r=>exact absurd e (hr2 m nR b r)
 have st:=(aj.refl (ak Y) w o).setCell (a:=(aW p 7)) (.int .i64 ((y.waited+1:Nat):Int)) (.inl (by rw [hpo];rfl));have hp1:=Ai (i:=7) (.int .i64 ((y.waited+1:Nat):Int)) hp;have c5:=ag hp 5;have c7:=ag hp 7;have f7:=Ap hp 7;simp only [Aai,ax,ay] at c5 c7;have hk1:=AcW.keep (W:=w.setCell (aW p 7) (.int .i64 ((y.waited+1:Nat):Int))) h4 hp (fun b hb=>Below.heap_setCell w (aW p 7) (.int .i64 ((y.waited+1:Nat):Int)) b hb) st hY;obtain ⟨W1,hW1⟩:=az (w.setCell (aW p 7) (.int .i64 ((y.waited+1:Nat):Int)));rw [hW1] at st hp1 hk1;have hp1d:W1.drew.heap[p]?=_:=hp1;have hr1:AaB W1.drew o Y p { y with waited:=y.waited+1 }:=
  ⟨lv,ro,mine,hv,pv,mv,base,ready,hp1d,hpo,hl.step st.drew (fun h=>hY h.symm),hk1.step (aj.refl ai W1 o).drew id id⟩
 have d7:=ag hp1d 7;have d0:=ag hp1d 0;simp only [Aai,lss,lsz,ax,ay] at d7 d0;have hst:=AiF hr1 hY hn1;obtain ⟨z,hz⟩:∃ z:Aj,{ y with waited:=y.waited+1 }=z:=⟨_,rfl⟩;rw [hz] at hst hr1 ⊢;obtain ⟨I,hI⟩:=az (y.id);obtain ⟨wt,hwt⟩:=az (y.waited);rw [hI] at hi d0 ⊢;rw [hwt] at hw d7 c7 hW1 ⊢;have iI:(0:Int)<=(I:Int)/\(I:Int)<3:=aP
 have wI:(0:Int)<=(wt:Int)/\(wt:Int)<=1000000:=aP
 have hwe:(wt:Int)+1=((wt+1:Nat):Int):=aP
 obtain ⟨V,hV⟩:=az (wt+1);rw [hV] at hwe d7 hW1 ⊢;have vI:(0:Int)<=(V:Int)/\(V:Int)<=1000001:=aP
 have hS:=aI d7 d0;have uM:=ae hW1;have Abe:=ae hst;have hF:=aa2 st.drew hr1;have hm1:IntKind.i64.wrap (2*(I:Int))=2*(I:Int):=IntWalk.i64_in _ aP;have hm2:IntKind.i64.wrap (3+2*(I:Int))=3+2*(I:Int):=IntWalk.i64_in _ aP;clear hn1 hp hpo hl h4 hk1 st hp1 hW1 hp1d hr1 d7 d0 hst hz hI hwt hV _hr hr2 h1 h3 hi hw
 by_cases hlt:3+2*I<V
 ·have AbY:3+2*(I:Int)<(V:Int):=aP
  rw [if_pos hlt];go_enter func33,ntmps33;go_wp2_with fail;rw [uM.out];refine Aa (fun w'=>w'.cell? (aW p 7)=some (V:aV)/\w'.cell? p=some (I:aV)) (fun _=>true) bf hS (fun hHeld => ?_);refine tq 0 (h:=tq 1 (h:=tq 2 (h:=tq 3 (h:=tq 4 (h:=tq 5 (h:=tq 6 (h:=tq 7 (h:=tq 8 (h:=tq 9 (h:=tq 10 (h:=tD (h:=?_))))))))))));clear hHeld hS;go_wp2_with fail;refine Abe.out.mono ?_;rintro e w2 ⟨v2,o2,rfl,hs2,ht2,hr2⟩;have hG:=aa3 (hF.out.1.trans hs2) ht2 hr2;clear hs2 ht2 hr2;go_wp2_with fail;go_ret;exact ⟨_,o2,rfl,hG.out.1,hG.out.2.1,hG.out.2.2⟩
 ·have AbY:¬ 3+2*(I:Int)<(V:Int):=aP
  rw [if_neg hlt];go_enter func33,ntmps33;go_wp2_with fail;rw [uM.out];refine Aa (fun w'=>w'.cell? (aW p 7)=some (V:aV)/\w'.cell? p=some (I:aV)) (fun _=>true) bf hS (fun hHeld => ?_);refine tq 0 (h:=tq 1 (h:=tq 2 (h:=tq 3 (h:=tq 4 (h:=tq 5 (h:=tq 6 (h:=tq 7 (h:=tq 8 (h:=tq 9 (h:=tq 10 (h:=tD (h:=?_))))))))))));clear hHeld hS;go_wp2_with fail;go_ret;exact ⟨_,o,rfl,hF.out.1,AaA.nil _ _,hF.out.2⟩
theorem AgX {mine:BitVec 64} {nR:List Int} {bs:Nat} (h:AaB w o Y p y) (_hY:Y ≠ 0) (hn:NOk B y) (hr:y.BB = .leads mine nR bs ready) :
  Calls prog 33 #[.pointer p] w (XL (ak Y) w o fun v w' o'=>AaA w' o' v y.tick.2/\AaB w' o' Y p y.tick.1):=by
 have h1:=hn.n1;have h3:=hn.n3;have hi:=hn.id;have hro:=hn.ro;have hln:=hn.ls.n;have hco:=hn.co;obtain ⟨I,N,yk,BB,wt,sn,Co⟩:=y;simp only at h1 h3 hi hro hln hco hr;subst hr;have hR:=ae h;obtain ⟨lv,ro,mine,hv,pv,mv,base,ready,hp,hpo,hl,h4⟩:=h;simp only at hp hl h4;have iI:(0:Int)<=(I:Int)/\(I:Int)<(N:Int):=aP
 have nI:(1:Int)<=(N:Int)/\(N:Int)<=3:=aP
 obtain ⟨rfl,rfl,⟨mb,rfl,hmb,hmo⟩,rfl,rfl⟩:=h4;obtain ⟨-,hml,hmr⟩:=hro;obtain ⟨f,hf⟩:∃ f:Nat->BG,(fun i=>if nR.getD i 0<0 then (⟨4,mine,0,0,0,yk.lines⟩:BG) else ⟨5,mine,0,(nR.getD i 0).toNat,Co,yk.lines.drop (nR.getD i 0).toNat⟩)=f:=⟨_,rfl⟩
 have hfin:Aj.tick ⟨I,N,yk, .leads mine nR bs ready,wt,sn,Co⟩=(⟨I,N,yk, .leads mine nR bs ready,wt,sn,Co⟩,Acf I f N):=by rw [<-hf];rfl
 rw [hfin];obtain ⟨la,lc,rfl⟩:=hl.form;obtain ⟨L,hL⟩:=az (yk.lines.length);rw [hL] at hp hl hln hco hmr;rw [hml] at hp;obtain ⟨X,hXY,hXf⟩:=KT o w.heap.size Y;have hX:=aa3 (show X ≠ 0 by omega) hXY hXf;have hF:=ae (fun (wr:World) (oj:Own) (st:aj ai w o wr oj)=>aI ((st.block p (au hp) id).trans hp) (aI ((st.block mb (au hmb) id).trans hmb) (hl.step st id)));have xY:=ae hf;have hA:=aa5 hml hmr hln hL hco;have coI:(0:Int)<=(Co:Int)/\(Co:Int)<=256:=aP
 clear hfin hf hml hmr hln hco hL hp hpo hmb hmo hl hXY hXf hn h1 h3 hi;go_enter func33,ntmps33;have c5:=ag (hF.out w o (aj.refl _ _ _)).1 5;simp only [Aai,ax,ay] at c5;go_wp2_with fail;clear c5
 go_loopw [3,4] (fun out i wr=>∃ (k:Nat) (oj:Own) (cs:List Value),k<=N/\i = .int .i64 k/\aj ai w o wr oj/\kP wr oj w.heap.size X 126 7 out (Acf I f k).length cs/\AaT wr oj cs (Acf I f k)) (fun _ i _=>N - (intOf i).toNat)
 case atStart=>exact ⟨0,o,[],Nat.zero_le _,rfl,aj.refl _ _ _,kP.nil _ _ _ _ _ _,AaT.nil _ _⟩
 case round =>
  obtain ⟨k,oj,cs,hk,rfl,hst,hrow,hC⟩:=hrel;obtain ⟨hp,hmb,hl⟩:=hF.out wr oj hst;have c0:=ag hp 0;have c1:=ag hp 1;simp only [Aai,ax,ay] at c0 c1;have hlen:=AjX I f k;obtain ⟨ra,rc,rfl⟩:=hrow.form
  by_cases hlt:k<N
  ·have AbY:(0:Int)<=(k:Int)/\(k:Int)<(N:Int):=aP
   by_cases hki:k=I
   ·have hx:=ae (show Acf I f (k+1)=Acf I f k by rw [AfD,if_pos hki]);have AnX:((k:Int) == (I:Int))=true:=by simp;omega
    have hG:=aa3 hst hrow hC;clear hp hmb hl hst hrow hC hki hlen;go_wp2_with fail;go_roundw
    case rel=>exact ⟨k+1,oj,cs,aP,by go_num,hG.out.1,by rw [hx.out];exact hG.out.2.1,by rw [hx.out];exact hG.out.2.2⟩
    case measure=>simp [intOf];omega
   ·have hx:Acf I f (k+1)=Acf I f k++[(k,f k)]:=by rw [AfD,if_neg hki]
    have AnX:((k:Int) == (I:Int))=false:=by simp;omega
    obtain ⟨x,hxm⟩:∃ x,nR[k]?=some x:=⟨_,List.getElem?_eq_getElem (by rw [hA.out.1];exact hlt)⟩;have hgd:nR.getD k 0=x:=by simp [List.getD_eq_getElem?_getD,hxm]
    have hxr:=hA.out.2.1 x (List.mem_of_getElem? hxm);have hfk:=congrFun xY.out k;simp only [hgd] at hfk;obtain ⟨X2,hX2,AvK⟩:=KT oj wr.heap.size (X+Y);have hdr:aj ai wr oj wr.drew oj:=(aj.refl ai wr oj).drew;obtain ⟨b2,W1,o1,hal,hs1,hz1,hzo,hge⟩:=AgV X2 wr.drew oj;have hJ1:=hdr.trans hs1;obtain ⟨W2,hso,hsF,hJ2,hz2⟩:=AiG hJ1 hge hz1 rfl hzo (Bf ⟨4,mine,0,0,0,yk.lines⟩ (.slice la L lc)) rfl rfl;have hpd:=(hdr.block p (au hp) id).trans hp;have hp1:=(hJ1.block p (au hp) id).trans hp;have hp2:=(hJ2.block p (au hp) id).trans hp;have hm2:=(hJ2.block mb (au hmb) id).trans hmb;have u4:wr.drew.cell? (aW p 4)=_:=ag hpd 4;have u6:wr.drew.cell? (aW p 6)=_:=ag hpd 6;have v4:W1.cell? (aW p 4)=_:=ag hp1 4;have v6:W1.cell? (aW p 6)=_:=ag hp1 6;have c12:=ag hp2 12;have cm:W2.cell? (aW mb k)=some (.int .i64 x):=by rw [ag hm2];simp [ivs,hxm]
    simp only [Aai,ax,ay] at u4 u6 v4 v6 c12;have hl2:=(hl.step hJ2 id);have hrow2:=hrow.step hJ2 id;have hC2:=hC.step hJ2 id;have hS:=aI u6 u4;have hS1:=aI v6 v4;have Aaz:=ae (show (Instr.storeAt 46 (.pointer b2) (.agg #[.int .u8 4, (mine:aV), .int .u64 0, .int .i64 0, .int .i64 0, .slice la L lc])).run prog W1 = .ok () W2 from hso);have Adh:=ae hal;have hsz2:=Nat.le_trans hst.size hJ2.size
    by_cases hneg:x<0
    ·have Auj:¬ (0:Int)<=x:=aP
     rw [if_pos hneg] at hfk;rw [<-hfk] at hx;have Ajf:=ae (show (Instr.loadAt 46 (.pointer b2)).run prog W2 = .ok (.agg #[.int .u8 4, (mine:aV), .int .u64 0, .int .i64 0, .int .i64 0, .slice la L lc]) W2 from Ip (AV hz2) rfl);obtain ⟨a5,c5,W3,W5,o5,hbs,hap,⟨cs5,tK,hC5⟩,hs5⟩:=AgG (k:=k) hrow2 hC2 hX.out.1 hsz2 ⟨4,mine,0,0,0,yk.lines⟩ hl2 aP;rw [<-hx] at tK hC5;have hx2:(Acf I f (k+1)).length=(Acf I f k).length+1:=by rw [hx];simp
     have hG:=aa4 ((((hst.trans hJ2).only X).trans hs5).nobody hX.out.2.2) tK hC5 hx2;have AaP:=ae hbs;have xK:=ae hap;clear hp hmb hl hst hrow hC hx hxm hgd hxr hfk hdr hal hs1 hz1 hge hJ1 hso hsF hJ2 hz2 hpd hp1 hp2 hm2 u4 u6 v4 v6 hl2 hrow2 hC2 hbs hap tK hC5 hs5 hx2 hki hlen hsz2 hX2 AvK hzo;go_wp2_with fail;refine Aa (fun w'=>w'.cell? (aW p 6)=some (mine:aV)/\w'.cell? (aW p 4)=some (.slice la L lc)) (fun i=>decide (i<11)) bf hS (fun hHeld => ?_);refine tq 0 (h:=tq 1 (h:=tq 2 (h:=tq 3 (h:=tq 4 (h:=tq 5 (h:=tq 6 (h:=tq 7 (h:=tq 8 (h:=tq 9 (h:=tO 10 (h:=?_)))))))))));refine AU Adh.out (wpList_nil ?_);simp only [Act.put,lsa,lsz,lss];refine ⟨fun _=>hS1, ?_⟩;refine tO 11 (h:=?_);refine AC Aaz.out (wpList_nil ?_);simp only [Act.put];refine ⟨fun h=>by simp at h, ?_⟩;refine tD (h:=?_);clear hHeld hS
     go_wp2_with (first
      | ((with_reducible apply Bo);exact Ajf.out;simp only [Act.put,lsa,lsz,lss])
      | ((with_reducible apply BO #[(0, .agg #[.int .i64 (k:Int), .int .u8 4, .int .u64 (mine.toNat:Int), .int .u64 0, .int .i64 0, .int .i64 0, .slice la L lc])] rfl);exact AaP.out;simp only [Act.put,lsa,lsz,lss])
      | ((with_reducible apply Bl);exact xK.out;simp only [Act.put,lsa,lsz,lss]))
     go_roundw
     case rel=>exact ⟨k+1,o5,cs5,aP,by go_num,hG.out.1,by rw [hG.out.2.2.2];have:=hG.out.2.1;rw [hG.out.2.2.2] at this;exact this,hG.out.2.2.1⟩
     case measure=>simp [intOf];omega
    ·obtain ⟨xn,rfl⟩:∃ n:Nat,x=(n:Int):=⟨x.toNat,aP⟩;have hxI:(0:Int)<=(xn:Int)/\(xn:Int)<=(L:Int):=aP
     have hLI:=hA.out.2.2.1;rw [if_neg hneg,Int.toNat_natCast] at hfk;rw [<-hfk] at hx;have hd2:aj ai W2 o1 W2.drew o1:=(aj.refl ai W2 o1).drew;obtain ⟨v,hsl,hlv⟩:=AfO (hl2.step hd2 id) xn (by rw [hA.out.2.2.2.1];omega);obtain ⟨va,vc,rfl⟩:=hlv.form;obtain ⟨DL,hDL⟩:=az ((yk.lines.drop xn).length);rw [hDL] at hsl hlv;have hp3:W2.drew.heap[p]?=_:=hp2;have hm3:W2.drew.heap[mb]?=_:=hm2;have x4:=ag hp3 4;have x6:=ag hp3 6;have x9:=ag hp3 9;have x12:=ag hp3 12;have xm:W2.drew.cell? (aW mb k)=some (xn:aV):=by rw [ag hm3];simp [ivs,hxm]
     simp only [Aai,ax,ay] at x4 x6 x9 x12;have hS9:=aI x6 (aI x12 (aI xm (aI x9 (aI x4 hsl))));obtain ⟨W2b,AfS,Atz,hJ3,hz3⟩:=AiG (hJ2.trans hd2) hge (show W2.drew.heap[b2]?=_ from hz2) rfl hzo (Bf ⟨5,mine,0,xn,Co,yk.lines.drop xn⟩ (.slice va DL vc)) rfl rfl;have hl3:=hlv.step Atz (fun h=>by unfold ak at h;omega);have hrow3:=hrow.step hJ3 id;have hC3:=hC.step hJ3 id;have Ajf:=ae (show (Instr.loadAt 46 (.pointer b2)).run prog W2b = .ok (.agg #[.int .u8 5, (mine:aV), .int .u64 0, (xn:aV), (Co:aV), .slice va DL vc]) W2b from Ip (AV hz3) rfl);obtain ⟨a5,c5,W3,W5,o5,hbs,hap,⟨cs5,tK,hC5⟩,hs5⟩:=AgG (k:=k) hrow3 hC3 hX.out.1 (Nat.le_trans hst.size hJ3.size) ⟨5,mine,0,xn,Co,yk.lines.drop xn⟩ hl3 aP;rw [<-hx] at tK hC5;have hx2:(Acf I f (k+1)).length=(Acf I f k).length+1:=by rw [hx];simp
     have hG:=aa4 ((((hst.trans hJ3).only X).trans hs5).nobody hX.out.2.2) tK hC5 hx2;have Alp:=ae (show (Instr.storeAt 46 (.pointer b2) (.agg #[.int .u8 5, (mine:aV), .int .u64 0, (xn:aV), (Co:aV), .slice va DL vc])).run prog W2.drew = .ok () W2b from AfS);have AaP:=ae hbs;have xK:=ae hap;clear hp hmb hl hst hrow hC hx hxm hgd hxr hfk hdr hal hs1 hz1 hge hJ1 hso hsF hJ2 hz2 hpd hp1 hp2 hm2 u4 u6 v4 v6 hl2 hrow2 hC2 hbs hap tK hC5 hs5 hx2 hki hlen hsz2 hX2 AvK hzo hd2 hsl hlv hDL hp3 hm3 x4 x6 x9 x12 xm AfS Atz hJ3 hz3 hl3 hrow3 hC3 hneg;go_wp2_with fail;refine Aa (fun w'=>w'.cell? (aW p 6)=some (mine:aV)/\w'.cell? (aW p 4)=some (.slice la L lc)) (fun i=>decide (i<11)) bf hS (fun hHeld => ?_);refine tq 0 (h:=tq 1 (h:=tq 2 (h:=tq 3 (h:=tq 4 (h:=tq 5 (h:=tq 6 (h:=tq 7 (h:=tq 8 (h:=tq 9 (h:=tO 10 (h:=?_)))))))))));refine AU Adh.out (wpList_nil ?_);simp only [Act.put,lsa,lsz,lss];refine ⟨fun _=>hS1, ?_⟩;refine tO 11 (h:=?_);refine AC Aaz.out (wpList_nil ?_);simp only [Act.put];refine ⟨fun h=>by simp at h, ?_⟩;refine tD (h:=?_);clear hHeld hS;go_wp2_with fail;refine Aa (fun w'=>w'.cell? (aW p 6)=some (mine:aV)/\w'.cell? (aW p 12)=some (.slice mb N N)/\w'.cell? (aW mb k)=some (xn:aV)/\w'.cell? (aW p 9)=some (Co:aV)/\w'.cell? (aW p 4)=some (.slice la L lc)/\(Instr.sliceAt 32 (.slice la L lc) (some (xn:aV)) none none).run prog w' = .ok (.slice va DL vc) w') (fun i=>decide (i<29)) bf hS9 (fun hHeld => ?_);refine tq 0 (h:=tq 1 (h:=tq 2 (h:=tq 3 (h:=tq 4 (h:=tq 5 (h:=tq 6 (h:=tq 7 (h:=tq 8 (h:=tq 9 (h:=tq 10 (h:=tq 11 (h:=tq 12 (h:=tq 13 (h:=?_))))))))))))));refine tq 14 (h:=tq 15 (h:=tq 16 (h:=tq 17 (h:=tq 18 (h:=tq 19 (h:=tq 20 (h:=tq 21 (h:=tq 22 (h:=tq 23 (h:=tq 24 (h:=tq 25 (h:=tq 26 (h:=?_)))))))))))));refine Dt (i:=27) (v := .slice va DL vc) rfl bf (fun _ _ _ h=>h) (Or.inl ⟨by rfl,fun w hSw => ?_⟩) (by assumption) ?_
     ·refine AdB _ _ _ _ _ rfl ?_;exact hSw.2.2.2.2.2
     simp only [Act.put,lsa,lsz,lss];refine tq 28 (h:=tO 29 (h:=?_));refine AC Alp.out (wpList_nil ?_);simp only [Act.put];refine ⟨fun h=>by simp at h, ?_⟩;refine tD (h:=?_);clear hHeld hS9
     go_wp2_with (first
      | ((with_reducible apply Bo);exact Ajf.out;simp only [Act.put,lsa,lsz,lss])
      | ((with_reducible apply BO #[(0, .agg #[.int .i64 (k:Int), .int .u8 5, .int .u64 (mine.toNat:Int), .int .u64 0, .int .i64 (xn:Int), .int .i64 (Co:Int), .slice va DL vc])] rfl);exact AaP.out;simp only [Act.put,lsa,lsz,lss])
      | ((with_reducible apply Bl);exact xK.out;simp only [Act.put,lsa,lsz,lss]))
     go_roundw
     case rel=>exact ⟨k+1,o5,cs5,aP,by go_num,hG.out.1,by rw [hG.out.2.2.2];have:=hG.out.2.1;rw [hG.out.2.2.2] at this;exact this,hG.out.2.2.1⟩
     case measure=>simp [intOf];omega
  ·obtain rfl:N=k:=aP
   have hst2:=hst.Me (ext w o) (fun k hk=>if_pos hk);have hsl:=hrow.done (o:=o) hC.1;have htd:AaA wr (ext w o) (.slice ra (Acf I f N).length rc) (Acf I f N):=⟨cs,hsl,hC.1,fun i x hx=>by
    obtain ⟨lv,a,b⟩:=hC.2 i x hx;exact ⟨lv,a,b.retag fun k hk h0=>by
     unfold ext
     by_cases hk2:k<w.heap.size
     ·rw [if_pos hk2, <-hst.own k hk2];exact h0
     ·rw [if_neg hk2]⟩⟩
   have hG:=aa3 hst2 htd (hR.out.step hst2 id id);clear hst hrow hC hp hmb hl hlen hst2 hsl htd;go_wp2_with fail;go_ret;exact ⟨_,_,rfl,hG.out.1.only Y,hG.out.2.1,hG.out.2.2⟩
theorem AhG (h:AaB w o Y p y) (hY:Y ≠ 0) (hn:NOk B y) (hw:y.waited<=1000000) :
  Calls prog 33 #[.pointer p] w (XL (ak Y) w o fun v w' o'=>AaA w' o' v y.tick.2/\AaB w' o' Y p y.tick.1):=by
 cases hr:y.BB with
 | leads m nR b r=>exact AgX h hY hn hr
 | follows=>exact Afi h hY hn hw (by unfold Aj.OD;rw [hr]) (fun m nR b r e=>by rw [hr] at e;cases e)
 | stands m has=>exact Afi h hY hn hw (by unfold Aj.OD;rw [hr]) (fun m nR b r e=>by rw [hr] at e;cases e)
theorem AsV (m:BG) (w:World) (o:Own) (h:∃ a n c,lv = .slice a n c):∃ (b:Nat) (W:World) (O:Own),(Instr.box 46 (Ea m lv)).run prog w = .ok (.pointer b) W/\aj ai w o W O/\W.heap[b]?=some (.cells (Bf m lv).toArray 46 (0,0))/\(O b).1=0:=by
 obtain ⟨a,n,c,rfl⟩:=h;exact ⟨w.heap.size,w.alloc (.cells (Bf m (.slice a n c)).toArray 46),_,bf,(aj.refl ai w o).alloc _ (0,0),heap_alloc_new w _,by rw [Au]⟩
def Aj.Agk (y:Aj) (src:Nat) (m:BG):Aj × DX:=
 if y.k.current=m.e then (y.follow,y.ack src m.e) else
 if (y.k.Ee m.e m.ls).2=0 then ((Aj.follow { y with k:=(y.k.Ee m.e m.ls).1,Ag:=min y.Ag m.ls.length }),Aj.ack { y with k:=(y.k.Ee m.e m.ls).1,Ag:=min y.Ag m.ls.length } src m.e) else (y,[])
theorem AgY (h:AaB w o Y p y) (hY:Y ≠ 0) (hn:NOk B y) (src:Nat) (m:BG) (hl:Lines w o 0 lv m.ls) (hm:m.ls.length<=256) :
  Calls prog 67 #[.pointer p, (src:aV),Ea m lv] w (XL (ak Y) w o fun v w' o'=>AaA w' o' v (y.Agk src m).2/\AaB w' o' Y p (y.Agk src m).1):=by
 obtain ⟨b,W1,o1,hbx,hs1,hb1,hbo⟩:=AsV m w o (hl.Acw);have hr1:=h.step hs1 id id;have hl1:=hl.step hs1 id;have xH:=ae hbx;have hln:=hn.ls.n;have hco:=hn.co;have hnH:=ae hn;obtain ⟨I,N,yk,BB,wt,sn,Co⟩:=y;simp only at hln hco;obtain ⟨R,hR⟩:=az (Aj.Agk ⟨I,N,yk,BB,wt,sn,Co⟩ src m);rw [hR];unfold Aj.Agk at hR;simp only at hR;obtain ⟨la,lc,rfl⟩:=hl1.form;have tN:=ae hr1;obtain ⟨lk,ro,mine,hv,pv,mv,base,ready,hp,hpo,hk,h4⟩:=hr1;simp only at hp hk h4;obtain ⟨ka,kc,rfl⟩:=hk.form;have hdr:aj ai W1 o1 W1.drew o1:=(aj.refl ai W1 o1).drew;have hpd:W1.drew.heap[p]?=_:=hp;have hbd:W1.drew.heap[b]?=_:=hb1;have c3:=ag hpd 3;have e1:=ag hbd 1;simp only [Aai,Bf,ax,ay] at c3 e1;have hS:=aI c3 e1;have hG:=aa8 hs1 hp hpo hk h4 hb1 hbo hl1;have coI:(0:Int)<=(Co:Int)/\(Co:Int)<=256:=aP
 have hRH:=ae hR;clear h hl hbx hs1 hb1 hbo hl1 hp hpo hk h4 hpd hbd c3 e1 hR hn hco
 by_cases hcu:yk.current=m.e
 ·have hcI:((yk.current.toNat:Int) == (m.e.toNat:Int))=true:=by rw [hcu];simp
  have hR:=hRH.out;rw [if_pos hcu] at hR;obtain ⟨hs1,hp,hpo,hk,h4,hb1,hbo,hl1⟩:=hG.out;have hT:=aa6 ((hs1.trans hdr).only Y) (tN.out.step hdr id id) (show W1.drew.heap[b]?=_ from hb1) hbo (show yk.lines.length<=256 from hln) hR.symm;clear hs1 hp hpo hk h4 hb1 hbo hl1 hR hcu;unfold Ea;go_enter func67,ntmps67
  go_wp2_with ((with_reducible apply BM);exact xH.out;simp only [Act.put,lsa,lsz,lss])
  refine Aa (fun w'=>w'.cell? (aW p 3)=some (yk.current:aV)/\w'.cell? (aW b 1)=some (m.e:aV)) (fun _=>true) bf hS (fun hHeld => ?_);refine tq 0 (h:=tq 1 (h:=tq 2 (h:=tq 3 (h:=tq 4 (h:=tq 5 (h:=tq 6 (h:=tq 7 (h:=tD (h:=?_)))))))));clear hHeld hS;have hfo:=ae (Abi hT.out.2.1 hY);go_wp2_with fail;refine hfo.out.mono ?_;rintro e w6 ⟨v6,o6,rfl,hs6,rfl,hr6⟩;have hb6:=(hs6.block b (au hT.out.2.2.1) (by rw [hT.out.2.2.2.1];exact fun h=>hY h.symm)).trans hT.out.2.2.1;have x1:=ag hb6 1;simp only [Bf,ax,ay] at x1;have hak:=ae (AeI hr6 hT.out.2.2.2.2.1 src m.e);have hU:=aa2 (hT.out.1.trans hs6) hr6;clear hs6 hr6 hb6 hfo;go_wp2_with fail;refine hak.out.mono ?_;rintro e w7 ⟨v7,o7,rfl,hs7,ht7⟩;have hV:=aa3 (hU.out.1.trans (hs7.only Y)) ht7 (hU.out.2.step hs7 id id);clear hs7 ht7;go_wp2_with fail;go_ret;exact ⟨_,o7,rfl,hV.out.1,by rw [hT.out.2.2.2.2.2];exact hV.out.2.1,by rw [hT.out.2.2.2.2.2];exact hV.out.2.2⟩
 ·have hcI:((yk.current.toNat:Int) == (m.e.toNat:Int))=false:=by
   have:¬ yk.current.toNat=m.e.toNat:=fun e=>hcu (BitVec.eq_of_toNat_eq e);simp;omega
  have hcN:((yk.current.toNat:Int) != (m.e.toNat:Int))=true:=by rw [bne,hcI];rfl
  have hR:=hRH.out;rw [if_neg hcu] at hR;obtain ⟨qk,hqk⟩:=az (yk.Ee m.e m.ls);rw [hqk] at hR;have hR:=ae hR;have AtT:=ae hqk;obtain ⟨L,hL⟩:=az (m.ls.length);obtain ⟨V,hV⟩:=az (W1.drew);rw [hV] at hdr;obtain ⟨hs1,hp,hpo,hk,h4,hb1,hbo,hl1⟩:=hG.out;have hpV:=(hdr.block p (au hp) id).trans hp;have hbV:=(hdr.block b (au hb1) id).trans hb1;have hlV:=hl1.step hdr id;have hkV:=hk.step hdr id;rw [hL] at hbV hlV hm;obtain ⟨X,hXY,hXf⟩:=KT o1 V.heap.size Y;have hX0:X ≠ 0:=aP
  have AbJ:=ae (fun (V1:World) (p1:Own) (hJ:aj ai V o1 V1 p1)=>Agi (p:=yk.promised) (c:=yk.current) (hkV.step hJ id) (hlV.step hJ id) (show m.ls.length<=100000 by omega) m.e);rw [show (⟨yk.promised,yk.current,yk.lines⟩:AX)=yk from rfl,hqk] at AbJ;have hSf:=ae (fun (V1:World) (p1:Own) (hJ:aj ai V o1 V1 p1)=>aI ((hJ.block p (au hpV) id).trans hpV) (aI (ag ((hJ.block b (au hbV) id).trans hbV) 1) (ag ((hJ.block b (au hbV) id).trans hbV) 5)));have hS2:=hSf.out V.drew o1 (aj.refl ai V o1).drew;have hVH:=ae hV;have hQ:=aa7 (hs1.trans hdr) hpV (((hdr.own p (au hp)).trans hpo)) hbV ((congrArg Prod.fst (hdr.own b (au hb1))).trans hbo) (h4.step hdr id id) (tN.out.step hdr id id);have hXH:=aa2 hXY hL;simp only [Bf,ax,ay] at hS2;clear hs1 hp hpo hk h4 hb1 hbo hl1 hcu hqk hV hdr hpV hbV hlV hkV hXf hXY hL hRH;unfold Ea;go_enter func67,ntmps67
  go_wp2_with ((with_reducible apply BM);exact xH.out;simp only [Act.put,lsa,lsz,lss])
  refine Aa (fun w'=>w'.cell? (aW p 3)=some (yk.current:aV)/\w'.cell? (aW b 1)=some (m.e:aV)) (fun _=>true) bf hS (fun hHeld => ?_);refine tq 0 (h:=tq 1 (h:=tq 2 (h:=tq 3 (h:=tq 4 (h:=tq 5 (h:=tq 6 (h:=tq 7 (h:=tD (h:=?_)))))))));clear hHeld hS;rw [hVH.out];go_wp2_with fail;refine Jd (fun a0 a' w'=>∃ (lb:Nat) (lv:Value) (oF:Own),a'=Act.puts a0 [18,19,20,21,22,23,24,25,26,17,27,28,7,8] [.pointer p, .pointer p, .pointer (some (aW p 2)),Dy yk.promised yk.current (.slice ka yk.lines.length kc), .pointer (some (aW b 1)), (m.e:aV), .pointer (some (aW b 5)), .slice la L lc, .tuple #[(Dy qk.1.promised qk.1.current lv),(.int .i64 qk.2)], .tuple #[(Dy qk.1.promised qk.1.current lv),(.int .i64 qk.2)],(Dy qk.1.promised qk.1.current lv),(.int .i64 qk.2), .pointer lb,(.int .i64 qk.2)]/\aj ai V o1 w' oF/\w'.heap[lb]?=some (.cells (BR qk.1.promised qk.1.current lv).toArray 120 (0,0))/\(oF lb).1=X/\Lines w' oF 0 lv qk.1.lines) ?_ ?_
  ·refine Aa (fun w'=>w'.heap[p]?=some (.cells (Aai I N yk (.slice ka yk.lines.length kc) ro mine wt sn Co hv pv mv base ready).toArray 124 (0,0))/\w'.cell? (aW b 1)=some (m.e:aV)/\w'.cell? (aW b 5)=some (.slice la L lc)) (fun _=>true) bf hS2 (fun hHeld => ?_);obtain ⟨U,hU⟩:=az (V.drew);have hJ:aj ai V o1 V.drew o1:=(aj.refl ai V o1).drew;rw [hU] at hHeld hJ ⊢;clear hU;refine tn 0 (h:=tn 1 (h:=tn 2 (h:=?_)));refine Dt (i:=3) (v:=Dy yk.promised yk.current (.slice ka yk.lines.length kc)) rfl bf (fun _ _ _ h=>nomatch h.1) (yieldsIf_load_mid rfl 120 (.tmp 20) rfl p 2 rfl (BR yk.promised yk.current (.slice ka yk.lines.length kc)) _ (fun w h=>Acm h.1) underlying120 rfl bf) (by assumption) ?_;simp only [Act.put,lsa,lsz,lss];refine tn 4 (h:=tn 5 (h:=tn 6 (h:=tn 7 (h:=?_))));refine Gm (i:=8) (j:=12) rfl rfl bf ?_ ?_
   ·go_wp2_with fail;refine (AbJ.out _ _ hJ).mono ?_;rintro e Uc ⟨vc,oc,rfl,hsc,lv,rfl,hlv⟩;have hJ:=hJ.trans hsc;go_wp2_with fail;refine ⟨fun _=>hSf.out _ _ hJ, ?_⟩;have hS0:=hSf.out _ _ hJ;refine tn 9 (h:=tn 10 (h:=tn 11 (h:=tO 12 (h:=?_))));obtain ⟨lb,Ua,oa,hal,hsa,hz,hzo,hge⟩:=Ach X Uc oc;have hge:=Nat.le_trans hJ.size hge;have hJ:=hJ.trans hsa;refine AU hal (wpList_nil ?_);simp only [Act.put,lsa,lsz,lss];refine ⟨fun _=>hSf.out _ _ hJ, ?_⟩;have hlv2:=(hlv.step hsa id);obtain ⟨Us,hso,hsF,hJ,hz⟩:=Acg hJ hge hz hzo hlv.Acw;refine tO 13 (h:=?_);refine AC hso (wpList_nil ?_);simp only [Act.put];refine ⟨fun _=>hSf.out _ _ hJ, ?_⟩;refine tO 14 (h:=?_);go_wp2_with fail;refine ⟨fun _=>hSf.out _ _ hJ, ?_⟩;refine tD (h:=?_);exact ⟨rfl,lb,lv,_,by simp only [Act.puts,Act.put,lsa,lsz,lss],hJ,hz,hzo,hlv2.step hsF (fun h=>hX0 h.symm)⟩
   ·obtain ⟨lb,Ua,oa,hal,hsa,hz,hzo,hge⟩:=Ach X U o1;have hge:=Nat.le_trans hJ.size hge;have hJ:=hJ.trans hsa;refine AU hal (wpList_nil ?_);simp only [Act.put,lsa,lsz,lss];refine ⟨fun _=>hSf.out _ _ hJ, ?_⟩;refine tO 8 (h:=?_);go_wp2_with fail;refine (AbJ.out _ _ hJ).mono ?_;rintro e Uc ⟨vc,oc,rfl,hsc,lv,rfl,hlv⟩;have hJ:=hJ.trans hsc;go_wp2_with fail;refine ⟨fun _=>hSf.out _ _ hJ, ?_⟩;have hS0:=hSf.out _ _ hJ;have hz0:=hz;have hz:=(hsc.block lb (au hz) id).trans hz;have hzo:=(congrArg Prod.fst (hsc.own lb (au hz0))).trans hzo;have hlv2:=hlv;refine tn 9 (h:=tn 10 (h:=tn 11 (h:=?_)));obtain ⟨Us,hso,hsF,hJ,hz⟩:=Acg hJ hge hz hzo hlv.Acw;refine tO 13 (h:=?_);refine AC hso (wpList_nil ?_);simp only [Act.put];refine ⟨fun _=>hSf.out _ _ hJ, ?_⟩;refine tO 14 (h:=?_);go_wp2_with fail;refine ⟨fun _=>hSf.out _ _ hJ, ?_⟩;refine tD (h:=?_);exact ⟨rfl,lb,lv,_,by simp only [Act.puts,Act.put,lsa,lsz,lss],hJ,hz,hzo,hlv2.step hsF (fun h=>hX0 h.symm)⟩
  rintro a3 W3 ⟨lb,lq,o3,rfl,hJ,hz,hzo,hlq⟩;simp only [Act.puts,Act.put,lsa,lsz,lss];obtain ⟨hsV,hpV,hpo,hbV,hbo,h4V,hrV⟩:=hQ.out;have hdd:=hsV.trans hJ
  by_cases hf:qk.2=0
  ·have hq1:=IZ (show (yk.Ee m.e m.ls).2=0 by rw [AtT.out];exact hf);rw [AtT.out] at hq1;obtain rfl:qk=(⟨m.e,m.e,m.ls⟩,0):=Prod.ext hq1 hf;have hR:=hR.out;rw [if_pos rfl] at hR;simp only at hz hlq hR ⊢;obtain ⟨qa,qc,rfl⟩:=hlq.form;rw [hXH.out.2] at hz hlq hR ⊢;have lI:(0:Int)<=(L:Int)/\(L:Int)<=256:=aP
   have hmn:min (Co:Int) (L:Int)=((min Co L:Nat):Int):=aP
   have hp3:=(hJ.block p (au hpV) id).trans hpV;have hb3:=(hJ.block b (au hbV) id).trans hbV;have op3:=(hJ.own p (au hpV)).trans hpo;have ob3:=(congrArg Prod.fst (hJ.own b (au hbV))).trans hbo;have hne:lb ≠ p:=by rintro rfl;have:=hXH.out.1;rw [op3] at hzo;simp only at hzo;omega
   have zY:=ae (AaS (AV hz));obtain ⟨s4,hp4⟩:=Aeb hp3 2 (by simp [Aai]) (p:=m.e) (c:=m.e) (lv := .slice qa L qc) ⟨_,_,_,rfl⟩;have k4:=(aj.refl (ak Y) W3 o3).setCells p 2 (BR m.e m.e (.slice qa L qc)) (.inl (congrArg Prod.fst op3));have r4:=(h4V.step hJ id id).keep hp3 (fun x hx=>ah p (BR m.e m.e (.slice qa L qc)) 2 W3 x hx) k4 hY;have hz4:=(ah p (BR m.e m.e (.slice qa L qc)) 2 W3 lb hne).trans hz;obtain ⟨W4,hW4⟩:=az (W3.setCells p 2 (BR m.e m.e (.slice qa L qc)));rw [hW4] at s4 hp4 k4 r4 hz4;have hpd:W4.drew.heap[p]?=some (.cells (Aai I N ⟨m.e,m.e,m.ls⟩ (.slice qa L qc) ro mine wt sn Co hv pv mv base ready).toArray 124 (0,0)):=hp4;have x9:=ag hpd 9;have x2:W4.drew.cell? (aW lb 2)=_:=ag (w:=W4.drew) hz4 2;simp only [Aai,BR,ax,ay] at x9 x2;have f9:=Ap hpd 9;have j4:aj (ak Y) W4 o3 W4.drew o3:=(aj.refl (ak Y) W4 o3).drew;have k5:=j4.setCell (a:=(aW p 9)) (.int .i64 ((min Co L:Nat):Int)) (.inl (congrArg Prod.fst op3));have r5:=(r4.step (aj.refl ai W4 o3).drew id id).keep hpd (fun x hx=>Below.heap_setCell W4.drew (aW p 9) (.int .i64 ((min Co L:Nat):Int)) x hx) ((aj.refl (ak Y) W4.drew o3).setCell (a:=(aW p 9)) (.int .i64 ((min Co L:Nat):Int)) (.inl (congrArg Prod.fst op3))) hY;have hp5:=Ai (i:=9) (.int .i64 ((min Co L:Nat):Int)) hpd;obtain ⟨W5,hW5⟩:=az (W4.drew.setCell (aW p 9) (.int .i64 ((min Co L:Nat):Int)));rw [hW5] at k5 r5 hp5;have k35:=k4.trans k5;have hr5:AaB W5 o3 Y p ⟨I,N,⟨m.e,m.e,m.ls⟩,BB,wt,sn,min Co L⟩:=⟨_,ro,mine,hv,pv,mv,base,ready,hp5,op3,hlq.step k35 (fun h=>hY h.symm),r5⟩;have hb5:=(k35.block b (au hb3) (by rw [ob3];exact fun h=>hY h.symm)).trans hb3;have hT:=aa6 ((hdd.only Y).trans k35) hr5 hb5 ob3 (show m.ls.length<=256 by rw [hXH.out.2];exact hm) hR.symm;have s4H:=ae s4;have Ahn:=ae (show (W4.setCell (aW p 9) (.int .i64 ((min Co L:Nat):Int))).drew=W5 from hW5);have hS6:=aI x9 x2;clear hsV hpV hpo hbV hbo h4V hrV hdd hf hq1 hR hJ hz hzo hlq hp3 hb3 op3 ob3 hne s4 hp4 k4 r4 hz4 hW4 hpd x9 x2 j4 k5 r5 hp5 hW5 k35 hr5 hb5 AbJ hSf
   go_wp2_with (first
    | ((with_reducible apply Bo);exact zY.out;simp only [Act.put,lsa,lsz,lss])
    | ((with_reducible apply AC);exact s4H.out;simp only [Act.put]))
   refine Aa (fun w'=>w'.cell? (aW p 9)=some (Co:aV)/\w'.cell? (aW lb 2)=some (.slice qa L qc)) (fun i=>decide (i<11)) bf hS6 (fun hHeld => ?_);refine tq 0 (h:=tq 1 (h:=tq 2 (h:=tq 3 (h:=tq 4 (h:=tq 5 (h:=tq 6 (h:=tq 7 (h:=tq 8 (h:=tO 9 (h:=?_))))))))));go_wp2_with fail;refine ⟨fun _=>hHeld, ?_⟩;refine tq 10 (h:=tO 11 (h:=?_));go_wp2_with fail;refine ⟨fun h=>by simp at h, ?_⟩;refine tD (h:=?_);clear hHeld hS6;rw [Ahn.out];have hfo:=ae (Abi hT.out.2.1 hY);go_wp2_with fail;refine hfo.out.mono ?_;rintro e w6 ⟨v6,o6,rfl,hs6,rfl,hr6⟩;have hb6:=(hs6.block b (au hT.out.2.2.1) (by rw [hT.out.2.2.2.1];exact fun h=>hY h.symm)).trans hT.out.2.2.1;have x1:=ag hb6 1;simp only [Bf,ax,ay] at x1;have hak:=ae (AeI hr6 hT.out.2.2.2.2.1 src m.e);have hU:=aa2 (hT.out.1.trans hs6) hr6;clear hs6 hr6 hb6 hfo;go_wp2_with fail;refine hak.out.mono ?_;rintro e w7 ⟨v7,o7,rfl,hs7,ht7⟩;have hV:=aa3 (hU.out.1.trans (hs7.only Y)) ht7 (hU.out.2.step hs7 id id);clear hs7 ht7;go_wp2_with fail;go_ret;exact ⟨_,o7,rfl,hV.out.1,by rw [hT.out.2.2.2.2.2];exact hV.out.2.1,by rw [hT.out.2.2.2.2.2];exact hV.out.2.2⟩
  ·have AlM:((qk.2:Int) == 0)=false:=by simp [hf]
   have hR:=hR.out;rw [if_neg hf] at hR;have hF:=aa3 (hdd.only Y) (hrV.step hJ id id) hR;clear hsV hpV hpo hbV hbo h4V hrV hdd hf hR hJ hz hzo hlq AbJ hSf;go_wp2_with fail;go_ret;exact ⟨_,o3,rfl,hF.out.1,by rw [<-hF.out.2.2];exact AaA.nil _ _,by rw [<-hF.out.2.2];exact hF.out.2.1⟩

end Go.Proofs.YthmpmgknnibljaaGreat
