/- The map of promises: what reads, what is put; its keys in order; an epoch's owner. -/
import Derived.Test.YthmpmgknnibljaaGreatSn6
import Derived.Test.YthmpmgknnibljaaGreatSn7
import Derived.Test.YthmpmgknnibljaaGreatSn8
namespace Go.Proofs.YthmpmgknnibljaaGreat
set_option maxRecDepth 100000
set_option maxHeartbeats 12800000
open Go Go.RowKit
attribute [local go_sem ↓] Go.wp_at_zero Go.wp_at_succ
abbrev Ent:=Nat × BitVec 64 × Value
theorem Nc:∀ (es:List Ent) (j:Nat),(Bd j es).length = es.length
 | [],_=>rfl
 | _ :: r,j=>by simp [Bd,Nc r (j + 1)]
theorem OB:∀ (a b:List Ent) (j:Nat),Bd j (a ++ b) = Bd j a ++ Bd (j + a.length) b
 | [],_,_=>by simp [Bd]
 | _ :: r,b,j=>by simp [Bd,OB r b (j + 1),Nat.add_assoc,Nat.add_comm 1]
theorem Qj:∀ (es:List Ent) (j:Nat) (e:MapEntry),e ∈ Bd j es→∃ x ∈ es,e.key = .int .i64 (x.1:Int)∧j ≤ e.born∧e.born < j + es.length
 | [],_,_,h=>by simp [Bd] at h
 | x :: r,j,e,h=>by
  simp only [Bd,List.mem_cons] at h
  rcases h with rfl | h
  ·exact ⟨x,by simp,rfl,Nat.le_refl _,by simp⟩
  ·obtain ⟨y,hy,h1,h2,h3⟩:=Qj r (j + 1) e h
   exact ⟨y,by simp [hy],h1,by omega,by simp;omega⟩
theorem TV (k:Int):∀ (es:List Ent) (j i:Nat),(∀ x ∈ es,(x.1:Int) ≠ k)→Instr.findNow (.int .i64) (.int .i64 k) (Bd j es) i = some none
 | [],_,_,_=>rfl
 | x :: r,j,i,h=>by
  have h1:=h x (by simp)
  have hb:(k == (x.1:Int)) = false:=by simp;omega
  simp only [Bd,Instr.findNow,Instr.sameNow,if_true,hb]
  exact TV k r (j + 1) (i + 1) (fun y hy=>h y (by simp [hy]))
theorem Qh {x:Ent}:∀ (es:List Ent) (j i:Nat),(es.map (·.1)).Nodup→x ∈ es→∃ i',Instr.findNow (.int .i64) (.int .i64 (x.1:Int)) (Bd j es) i = some (some (i',PH x.2.1 x.2.2))
 | [],_,_,_,h=>by simp at h
 | y :: r,j,i,hn,h=>by
  simp only [List.map_cons,List.nodup_cons] at hn
  rcases List.mem_cons.1 h with rfl | h
  ·refine ⟨i, ?_⟩
   simp [Bd,Instr.findNow,Instr.sameNow]
  ·have hne:¬ x.1 = y.1:=fun e=>hn.1 (List.mem_map.2 ⟨x,h,e⟩)
   have hb:((x.1:Int) == (y.1:Int)) = false:=by simp;omega
   simp only [Bd,Instr.findNow,Instr.sameNow,if_true,hb]
   exact Qh r (j + 1) (i + 1) hn.2 h
section
variable {w:World} {mb c:Nat} {es:List Ent}
theorem MF (k:Int) (e:Bool):(Instr.checkKey e 10000 3 (.int .i64 k)).run Tryz.prog w = .ok () w:=by
 unfold Instr.checkKey
 simp [run_underlying Tryz.underlying3]
theorem YB:(zeroValue 153).run Tryz.prog w = .ok (.agg #[.int .u64 0, .slice none 0 0]) w:=by kernel_rfl
theorem SL (hb:w.heap[mb]? = some (.map (Bd 0 es).toArray c)) (hn:(es.map (·.1)).Nodup) {x:Ent} (hx:x ∈ es) :
  (Instr.lookup 154 (.map (some mb)) (.int .i64 (x.1:Int)) false).run Tryz.prog w = .ok (PH x.2.1 x.2.2) w:=by
 obtain ⟨i,hi⟩:=Qh es 0 0 hn hx
 simp only [Instr.lookup,Sem.run_bind,run_underlying Tryz.underlying154,Result.andThen_ok,MapKept.run_getObj_map hb,Sem.run_pure,Instr.findKey,run_underlying Tryz.underlying3,MF,hi]
 simp
theorem SK (hb:w.heap[mb]? = some (.map (Bd 0 es).toArray c)) (hn:(es.map (·.1)).Nodup) {x:Ent} (hx:x ∈ es) :
  (Instr.lookup 154 (.map (some mb)) (.int .i64 (x.1:Int)) true).run Tryz.prog w = .ok (.tuple #[PH x.2.1 x.2.2, .bool true]) w:=by
 obtain ⟨i,hi⟩:=Qh es 0 0 hn hx
 simp only [Instr.lookup,Sem.run_bind,run_underlying Tryz.underlying154,Result.andThen_ok,MapKept.run_getObj_map hb,Sem.run_pure,Instr.findKey,run_underlying Tryz.underlying3,MF,hi]
 simp
theorem UE (hb:w.heap[mb]? = some (.map (Bd 0 es).toArray c)) {k:Nat} (hk:∀ x ∈ es,x.1 ≠ k) :
  (Instr.lookup 154 (.map (some mb)) (.int .i64 (k:Int)) true).run Tryz.prog w = .ok (.tuple #[.agg #[.int .u64 0, .slice none 0 0], .bool false]) w:=by
 have hi:=TV (k:Int) es 0 0 (fun x hx=>by have:=hk x hx;omega)
 simp only [Instr.lookup,Sem.run_bind,run_underlying Tryz.underlying154,Result.andThen_ok,MapKept.run_getObj_map hb,Sem.run_pure,Instr.findKey,run_underlying Tryz.underlying3,MF,hi,YB]
 simp
def DR (w:World) (b:Nat) (o:Obj):World:={ w with heap:=w.heap.setIfInBounds b o }
theorem Md (hb:w.heap[mb]? = some (.map (Bd 0 es).toArray es.length)) {k:Nat} (hk:∀ x ∈ es,x.1 ≠ k) (cu:BitVec 64) (lv:Value) :
  (Instr.mapUpdate 154 (.map (some mb)) (.int .i64 (k:Int)) (PH cu lv)).run Tryz.prog w = .ok () (DR w mb (.map (Bd 0 (es ++ [(k,cu,lv)])).toArray (es ++ [(k,cu,lv)]).length)):=by
 have hi:=TV (k:Int) es 0 0 (fun x hx=>by have:=hk x hx;omega)
 have he:(Bd 0 (es ++ [(k,cu,lv)])).toArray = (Bd 0 es).toArray.push ⟨.int .i64 (k:Int),PH cu lv,es.length⟩:=by
  rw [OB]
  simp [Bd]
 rw [he,List.length_append,List.length_singleton]
 simp only [Instr.mapUpdate,Sem.run_bind,run_underlying Tryz.underlying154,Result.andThen_ok,MapKept.run_getObj_map hb,Sem.run_pure,Instr.findKey,run_underlying Tryz.underlying3,MF,hi,MapKept.run_setObj_map _ hb]
 rfl
theorem Step.DR {T:Nat→Prop} {w w1:World} {o o1:Own} (h:Step T w o w1 o1) (b:Nat) (ob:Obj) (ha:T (o1 b).1 ∨ w.heap.size ≤ b):Step T w o (DR w1 b ob) o1:=by
 refine ⟨h.os,h.tape,h.output,by simpa [Go.Proofs.YthmpmgknnibljaaGreat.DR] using h.size,h.own,fun k hk hT => ?_⟩
 rw [←h.block k hk hT]
 have hne:b ≠ k:=by
  rintro rfl
  rcases ha with ha | ha
  ·rw [h.own _ hk] at ha;exact hT ha
  ·omega
 simp [Go.Proofs.YthmpmgknnibljaaGreat.DR,hne]
theorem Ot {ob:Obj} (hb:mb < w.heap.size):(DR w mb ob).heap[mb]? = some ob:=by simp [DR,hb]
theorem JS {ob:Obj} {k:Nat} (h:mb ≠ k):(DR w mb ob).heap[k]? = w.heap[k]?:=by simp [DR,h]
@[simp] theorem bZ {ob:Obj}:(DR w mb ob).heap.size = w.heap.size:=by simp [DR]
end
theorem fC (m:Nat):AnyZI.SortsIn Tryz.prog Tryz.Og Fence.wide m:=
 ⟨fun blk off cap ss W hH hblk hsz=>callsIn_wide.2 (AnyM.slices_Sort_int Tryz.Uy blk off cap ss W hH hblk hsz),
  fun p cap W=>callsIn_wide.2 (AnyM.slices_Sort_int_none Tryz.Uy p cap W)⟩
theorem aS (mb:Nat) (w:World):Calls Tryz.prog 143 #[.map (some mb)] w fun e w'=>e = .returned (.func (.func 177) #[] #[.pointer (some ⟨w.heap.size,0,none⟩)])∧w' = w.alloc (.cells #[.map (some mb)] 154):=
 callsIn_wide.1 (AnyZI.keys_in Tryz.keysL Fence.wide 5 trivial rfl (some mb) w)
abbrev RU:Value→Option (DataW Unit × List MemPlace):=fun _=>some (.nil,[])
theorem aT (k:Nat) (hk:k ≤ 1000):keyOf Tryz.prog 3 (.int .i64 (k:Int)) = some (.int .i64 (k:Int)):=
 Go.Maps.keyOf_int_mk Tryz.underlying3 (by
  have h1:IntKind.i64.min = -9223372036854775808:=by decide
  have h2:IntKind.i64.max = 9223372036854775807:=by decide
  simp only [Lit.wf,h1,h2,Bool.and_eq_true,decide_eq_true_eq]
  omega)
theorem XR:∀ (es:List Ent) (j:Nat),(∀ x ∈ es,x.1 ≤ 1000)→((Bd j es).map (Go.WideElems.rg Tryz.prog 3 RU)).map (fun p=>Go.intOf p.1) = es.map fun x=>(x.1:Int)
 | [],_,_=>rfl
 | x :: r,j,h=>by
  have hr:=Go.WideElems.rg_of (Go.WideElems.rd_mk (P:=Tryz.prog) (k:=3) (R:=RU) (born:=j) (val:=PH x.2.1 x.2.2) (aT x.1 (h x (by simp))) (rfl:RU _ = some (.nil,[])))
  simp only [Bd,List.map_cons,hr,XR r (j + 1) (fun y hy=>h y (by simp [hy]))]
  rfl
theorem bJ {es:List Ent} (hn:(es.map (·.1)).Nodup) (hs:∀ x ∈ es,x.1 ≤ 1000) (hl:es.length ≤ 1000):Go.WideElems.Fit Tryz.prog 3 RU (Bd 0 es).toArray es.length:=by
 refine ⟨by rw [List.size_toArray,Nc];unfold maxLen;omega,⟨fun e he => ?_, ?_, ?_⟩,fun e he => ?_⟩
 ·obtain ⟨x, -, -, -,h⟩:=Qj es 0 e (by simpa using he)
  omega
 ·have key:∀ (es:List Ent) (j:Nat),((Bd j es).map (·.born)) = List.range' j es.length:=by
   intro es
   induction es with
   | nil=>intro j;rfl
   | cons x r ih=>intro j;simp [Bd,ih (j + 1),List.range'_succ]
  simp only [key]
  exact List.nodup_range'
 ·have key:∀ (es:List Ent) (j:Nat),((Bd j es).map (·.key)) = es.map fun x=>Value.int .i64 (x.1:Int):=by
   intro es
   induction es with
   | nil=>intro j;rfl
   | cons x r ih=>intro j;simp [Bd,ih (j + 1)]
  simp only [key]
  rw [show (es.map fun x=>Value.int .i64 (x.1:Int)) = (es.map (·.1)).map (fun n:Nat=>Value.int .i64 (n:Int)) by simp]
  exact List.Pairwise.map _ (fun a b hab h=>hab (by simp only [Value.int.injEq,true_and] at h;omega)) hn
 ·obtain ⟨x,hx,hk, -, -⟩:=Qj es 0 e (by simpa using he)
  obtain ⟨ek,ev,eb⟩:=e
  simp only at hk
  subst hk
  exact ⟨_,Go.WideElems.rd_mk (aT x.1 (hs x hx)) rfl⟩
theorem WM {w:World} {o:Own} {mb B:Nat} {es:List Ent} (hb:w.heap[mb]? = some (.map (Bd 0 es).toArray es.length)) (hB:w.heap[B]? = some (.cells #[.map (some mb)] 154 (0,0)))
  (hn:(es.map (·.1)).Nodup) (hs:∀ x ∈ es,x.1 ≤ 1000) (hl:es.length ≤ 1000) :
  Calls Tryz.prog 142 #[.func (.func 177) #[] #[.pointer (some ⟨B,0,none⟩)]] w
   (Ret Nobody w o fun v w' o'=>∃ q:List Nat,q.Perm (es.map (·.1))∧q.Pairwise (· ≤ ·)∧Slc w' o' v q.length (q.map fun n:Nat=>Value.int .i64 (n:Int))):=by
 have hF:=bJ hn hs hl
 obtain ⟨D0,hD⟩:∃ D0:DataW Unit,D0 = .map (((Bd 0 es).toArray.toList.map (Go.WideElems.rg Tryz.prog 3 RU)).foldr DataW.insert []):=⟨_,rfl⟩
 have hperm:(intKeys D0).Perm (es.map fun x=>(x.1:Int)):=by
  rw [hD, ←XR es 0 hs]
  exact (Go.WideShapes.sorted_perm _).map _
 have hsize:Maps.size D0 ≤ 1000:=by
  have:=hperm.length_eq
  rw [List.length_map] at this
  have h2:Maps.size D0 = (intKeys D0).length:=by rw [hD];simp [Maps.size,intKeys]
  omega
 have hown:w.ownsMap Tryz.prog 3 RU mb es.length D0:=⟨_,_,hb,hF,by rw [List.size_toArray,Nc];exact Nat.le_refl _,hD⟩
 have hseq:SeqGives Fence.wide 2 Tryz.prog 177 #[.pointer (some ⟨B,0,none⟩)] encZ (fun ss=>ss.Perm (intKeys D0)) (Maps.size D0) w:=
  AnyZI.keys_gives (ρ:=Tryz.keysL_ren) { Tryz.keysL with } Fence.wide _ trivial rfl (by omega) B mb es.length D0 w (lt_of_block hB) (by rw [World.cell?,hB];rfl) hown
 have cS:=AnyZI.sorted_in Tryz.dE Fence.wide 5 trivial trivial trivial trivial rfl (by omega) (fC _) (enters_of Tryz.func176 (by kernel_rfl) rfl) 177 #[.pointer (some ⟨B,0,none⟩)] trivial (enters_of Tryz.func177 (by kernel_rfl) rfl) _ (Maps.size D0) (by unfold maxLen;omega) (by omega) w hseq
 have cS:=callsIn_wide.1 cS
 change Calls Tryz.prog 142 _ _ _ at cS
 refine cS.mono ?_
 rintro e w' ⟨v,ss,rfl,hS,hrow,hnil,hbel⟩
 obtain ⟨S,hSS⟩:∃ S,ss.mergeSort (fun x y=>decide (x ≤ y)) = S:=⟨_,rfl⟩
 have hp1:S.Perm (es.map fun x=>(x.1:Int)):=by
  rw [←hSS]
  exact ((List.mergeSort_perm ss _).trans hS).trans hperm
 have hsort:S.Pairwise (· ≤ ·):=by
  have:=List.pairwise_mergeSort (le:=fun x y:Int=>decide (x ≤ y)) (by intro a b c h1 h2;simp only [decide_eq_true_eq] at *;omega) (by intro a b;simp only [Bool.or_eq_true,decide_eq_true_eq];omega) ss
  rw [hSS] at this
  exact this.imp (by intro a b h;simpa using h)
 have hpos:∀ x ∈ S,(0:Int) ≤ x:=fun x hx=>by
  obtain ⟨y, -,rfl⟩:=List.mem_map.1 (hp1.mem_iff.1 hx)
  omega
 have hback:(S.map Int.toNat).map (fun n:Nat=>Value.int .i64 (n:Int)) = S.map encZ:=by
  rw [List.map_map]
  refine List.map_congr_left fun x hx => ?_
  have:=hpos x hx
  show Value.int .i64 ((x.toNat:Nat):Int) = _
  rw [Int.toNat_of_nonneg this]
 have hst:Step Nobody w o w' (ext w o):=⟨hbel.os,hbel.tape,hbel.output,hbel.size,fun k hk=>if_pos hk,fun k hk _=>hbel.block k hk⟩
 have hlen:S.length = ss.length:=by rw [←hSS,List.length_mergeSort]
 refine ⟨v,ext w o,rfl,hst,S.map Int.toNat, ?_, ?_, ?_⟩
 ·have h2:=hp1.map Int.toNat
  rw [List.map_map] at h2
  have e:(es.map (Int.toNat ∘ fun x=>(x.1:Int))) = es.map (·.1):=List.map_congr_left fun x _=>by simp
  rw [e] at h2;exact h2
 ·refine List.pairwise_map.2 (hsort.imp ?_)
  intro a b h;omega
 ·rw [hback,List.length_map,hlen]
  rw [hSS] at hrow
  rcases hrow.2 with ⟨rfl,h0⟩ | ⟨g,cap,cur,rfl,q1,q2,q3,q4,q5,q6⟩
  ·refine .inl ⟨⟨_,_,rfl⟩,h0, ?_⟩
   rw [List.map_eq_nil_iff]
   exact List.eq_nil_of_length_eq_zero (by omega)
  ·by_cases h0:ss.length = 0
   ·rw [h0]
    refine .inl ⟨⟨_,_,rfl⟩,rfl, ?_⟩
    rw [List.map_eq_nil_iff]
    exact List.eq_nil_of_length_eq_zero (by omega)
   ·refine .inr ⟨g,0,cap,rfl,by omega,q4, ?_,(Array.getElem?_eq_some_iff.1 q2).1, ?_⟩
    ·show (ext w o g).1 = 0
     unfold ext
     rw [if_neg (by omega)]
    ·rw [←q6,Nat.mul_one]
     have h:=AV (w:=w') (b:=g) (cs:=cur.toList) (E:=_) (fr:=(0,0)) (by simpa using q2)
     have h2:=ER h 0 ss.length
     simpa using h2
section
variable {w:World} {o:Own} {D M pz ps pd:Nat} {z:Am}
theorem PM (h:Bc w o D M pz ps pd z) (h1:1 ≤ z.n) (h3:z.n ≤ 3) (src:Nat) (e:BitVec 64) :
  Calls Tryz.prog 157 #[.pointer (some ⟨pz,0,none⟩), .int .i64 (src:Int), .int .u64 (e.toNat:Int)] w fun r w'=>r = .returned (.bool (z.BN.owns src e))∧w = w':=by
 obtain ⟨-,rv,hb, -, -⟩:=h
 obtain ⟨⟨-,c1, -⟩, -⟩:=hb.cells
 have ho:=hidden (Rx e.toNat e.isLt (e.toNat:Int) rfl z.n h1 h3 w)
 have hu:z.BN.owns src e = decide (((e.toNat % z.n:Nat):Int) = (src:Int)):=by
  show (e.toNat % z.n == src) = _
  generalize e.toNat % z.n = q
  by_cases h:q = src
  ·rw [h];simp
  ·have:¬ ((q:Nat):Int) = (src:Int):=by omega
   rw [decide_eq_false this]
   simpa using h
 have huH:=hidden hu
 clear hb hu
 go_enter Tryz.func157,Tryz.ntmps157
 go_wp2_with fail
 refine ho.out.mono ?_;rintro e' w' ⟨rfl,rfl⟩
 obtain ⟨q,hq⟩:∃ q:Nat,e.toNat % z.n = q:=⟨_,rfl⟩
 rw [hq] at huH ⊢
 go_wp2_with fail
 go_ret
 exact ⟨by rw [huH.out];rfl,rfl⟩
end
def GV (w:World) (o:Own) (D M pz ps pd p:Nat) (z:Am) (mine:BitVec 64) (mat:List Int) (base:Nat) (ready:Bool):Prop:=
 (D ≤ M∧D ≠ 0)∧GK w o (M + 4) pz ps (.iface 87 (.pointer (some ⟨p,0,none⟩))) z∧Nw w o (M + 4) p mine mat base ready∧Bi w o (M + 1) (M + 2) (M + 3) D ps pd 0 z.s
theorem GV.node {w:World} {o:Own} {D M pz ps pd p:Nat} {z:Am} {mine:BitVec 64} {mat:List Int} {base:Nat} {ready:Bool} (h:GV w o D M pz ps pd p z mine mat base ready) (hr:z.BB = .leads mine mat base ready):Bc w o D M pz ps pd z:=
 ⟨h.1,_,h.2.1,by rw [hr];exact ⟨p,rfl,h.2.2.1⟩,h.2.2.2⟩
theorem Bc.leads {w:World} {o:Own} {D M pz ps pd:Nat} {z:Am} {mine:BitVec 64} {mat:List Int} {base:Nat} {ready:Bool} (h:Bc w o D M pz ps pd z) (hr:z.BB = .leads mine mat base ready):∃ p,GV w o D M pz ps pd p z mine mat base ready:=by
 obtain ⟨h1,rv,h2,h3,h4⟩:=h
 rw [hr] at h3
 obtain ⟨p,rfl,h3⟩:=h3
 exact ⟨p,h1,h2,h3,h4⟩
theorem GV.step {T:Nat→Prop} {w w':World} {o o':Own} {D M pz ps pd p:Nat} {z:Am} {mine:BitVec 64} {mat:List Int} {base:Nat} {ready:Bool} (h:GV w o D M pz ps pd p z mine mat base ready) (s:Step T w o w' o') (hT:∀ t,T t→t ≠ 0∧¬ InN D M t):GV w' o' D M pz ps pd p z mine mat base ready:=by
 obtain ⟨h1,h2,h3,h4⟩:=h
 have hZ:¬ T (M + 4):=fun h=>(hT _ h).2 InN.own
 exact ⟨h1,h2.step s hZ,h3.step s hZ,h4.step s fun t ht=>⟨(hT t ht).1,fun h=>(hT t ht).2 (InN.in4 t h)⟩⟩
theorem XP (l:List Int) (i:Nat) (x:Int):(ivs l).set i (.int .i64 x) = ivs (l.set i x):=by simp [ivs]
def fG (mine:BitVec 64) (b n cap base:Nat) (ready:Bool):List Value:=[.int .u64 (mine.toNat:Int), .slice (some ⟨b,0,none⟩) n cap, .int .i64 (base:Int), .bool ready]
def countOf (z:Am) (mat:List Int) (base:Nat):Am:=if (base:Int) ≤ CW mat then { z with Ag:=max z.Ag (CW mat).toNat } else z
theorem count_any {w:World} {o:Own} {D M pz ps pd p:Nat} {z:Am} {mine:BitVec 64} {mat:List Int} {base:Nat} {ready:Bool} (h:GV w o D M pz ps pd p z mine mat base ready) (hsm:small z.s.kept.lines) (hkl:z.s.kept.lines.length ≤ 256)
  (h1:1 ≤ mat.length) (h3:mat.length ≤ 3) (hid:z.id < mat.length) (hmb:∀ x ∈ mat, -1 ≤ x∧x ≤ 256) (hco:z.Ag ≤ 256) :
  Calls Tryz.prog 42 #[.pointer (some ⟨pz,0,none⟩), .pointer (some ⟨p,0,none⟩)] w (Ret (Only (M + 4)) w o fun v w' o'=>v = .tuple #[]∧∃ r,(z.count mine mat base ready).BB = .leads mine (mat.set z.id z.s.kept.lines.length) base r∧GV w' o' D M pz ps pd p (z.count mine mat base ready) mine (mat.set z.id z.s.kept.lines.length) base r):=by
 obtain ⟨hDM,hb,hl,hs⟩:=h
 obtain ⟨b,cap,hp,hpo,hr,hro,hcl,hcm⟩:=hl
 obtain ⟨L,hL⟩:∃ L,z.s.kept.lines.length = L:=⟨_,rfl⟩
 obtain ⟨n,hn⟩:∃ n,mat.length = n:=⟨_,rfl⟩
 have hdr:Step Nobody w o w.drew o:=(Step.refl Nobody w o).drew
 have hkp:=hidden (DJ (hs.step0 hdr) hsm)
 have hb1:=hb.step hdr (fun h=>h)
 obtain ⟨⟨c0, -,c2, -⟩, -⟩:=hb1.cells
 have hpd:w.drew.heap[p]? = _:=hp
 have cl1:=cell_of_block hpd 1
 simp only [List.getElem?_cons_zero,List.getElem?_cons_succ] at cl1
 have hS:=And.intro c0 (And.intro c2 cl1)
 have idI:(0:Int) ≤ (z.id:Int)∧(z.id:Int) < (n:Int):=by omega
 have idN:z.id < n:=by omega
 have hH:=hidden (And.intro hb (And.intro hs (And.intro hp (And.intro hpo (And.intro hr hro)))))
 have hA:=hidden (And.intro hDM (And.intro hcl hcm))
 have hB:=hidden (And.intro hmb (And.intro hco (And.intro hkl (And.intro h1 h3))))
 have hnH:=hidden hn
 have hLH:=hidden hL
 rw [hn] at hS
 clear hDM hb hs hp hpo hr hro hcl hcm hb1 c0 c2 hpd cl1 hmb hco hkl h1 h3 hn hL hsm hid
 go_enter Tryz.func42,Tryz.ntmps42
 go_wp2_with fail
 refine Aa (fun w'=>w'.cell? ⟨pz,0,none⟩ = some (.int .i64 (z.id:Int))∧w'.cell? ⟨pz,2,none⟩ = some (.pointer (some ⟨ps,0,none⟩))∧w'.cell? ⟨p,1,none⟩ = some (.slice (some ⟨b,0,none⟩) n cap)) (fun i=>decide (i < 16)) (by kernel_rfl) hS (fun hHeld => ?_)
 refine tq 0 ?_
 refine tq 1 ?_
 refine tq 2 ?_
 refine tq 3 ?_
 refine tq 4 ?_
 refine tq 5 ?_
 refine tq 6 ?_
 refine tq 7 ?_
 refine tq 8 ?_
 refine tq 9 ?_
 refine tq 10 ?_
 refine tq 11 ?_
 refine Ac (i:=12) rfl (by kernel_rfl) ?_
 go_wp2_with fail
 refine hkp.out.mono ?_;rintro e w1 ⟨v1,o1,rfl,hs1,lv,rfl,hlv,rfl⟩
 have hs1:=hdr.trans hs1
 obtain ⟨hb,hs,hp,hpo,hr,hro⟩:=hH.out
 obtain ⟨⟨d0, -,d2, -⟩, -⟩:=(hb.step hs1 (fun h=>h)).cells
 have hp1:=(hs1.block p (lt_of_block hp) (fun h=>h)).trans hp
 have hr1:=(hs1.block b (lt_of_block hr) (fun h=>h)).trans hr
 have e1:=cell_of_block hp1 1
 simp only [List.getElem?_cons_zero,List.getElem?_cons_succ] at e1
 rw [hnH.out] at e1
 have hS1:=And.intro d0 (And.intro d2 e1)
 have hfr:=Ap hr1 z.id
 have hce:w1.cell? ⟨b,z.id,none⟩ = some (.int .i64 (mat.getD z.id 0)):=by
  rw [cell_of_block hr1]
  have hlt:z.id < mat.length:=by rw [hnH.out];exact idN
  simp [ivs,List.getD_eq_getElem?_getD,List.getElem?_eq_getElem hlt]
 obtain ⟨la,lc,rfl⟩:=hlv.form
 rw [hLH.out]
 have hfk:=fun W=>He W (.int .u64 (z.s.kept.promised.toNat:Int)) (.int .u64 (z.s.kept.current.toNat:Int)) (.slice la L lc)
 have hs1H:=hidden hs1
 clear hs1 hlv d0 d2 e1 hHeld hb hs hp hpo hr hro hp1 hr1
 unfold Dy
 go_wp2_with fail
 refine ⟨fun _=>hS1, ?_⟩
 refine tq 13 ?_
 refine tq 14 ?_
 refine tq 15 ?_
 refine Ac (i:=16) rfl (by kernel_rfl) ?_
 go_wp2_with fail
 refine ⟨fun h=>by simp at h, ?_⟩
 refine Ae (by kernel_rfl) ?_ _
 have hs1:=hs1H.out
 obtain ⟨hb,hs,hp,hpo,hr,hro⟩:=hH.out
 have hp1:=(hs1.block p (lt_of_block hp) (fun h=>h)).trans hp
 have hr1:=(hs1.block b (lt_of_block hr) (fun h=>h)).trans hr
 have op1:=(hs1.own p (lt_of_block hp)).trans hpo
 have ob1:=(hs1.own b (lt_of_block hr)).trans hro
 have hb1:=hb.step hs1 (fun h=>h)
 have hsS1:=hs.step0 hs1
 have hpb:p ≠ b:=fun h=>by rw [h,ob1] at op1;cases op1
 have hzb:pz ≠ b:=fun h=>by have:=hb1.2;rw [h,ob1] at this;cases this
 have hzp:pz ≠ p:=fun h=>by have:=hb1.2;rw [h,op1] at this;cases this
 have hDM:=hA.out.1
 have hs2:=(hs1.only (M + 4)).setCell (a:=⟨b,z.id,none⟩) (.int .i64 (L:Int)) (.inl (by show (ext w.drew o b).1 = _;rw [ob1]))
 have hk2:=(Step.refl (Only (M + 4)) w1 (ext w.drew o)).setCell (a:=⟨b,z.id,none⟩) (.int .i64 (L:Int)) (.inl (by show (ext w.drew o b).1 = _;rw [ob1]))
 have hr2:=Ai (i:=z.id) (.int .i64 (L:Int)) hr1
 rw [XP] at hr2
 have hp2:=(Below.heap_setCell w1 ⟨b,z.id,none⟩ (.int .i64 (L:Int)) p hpb).trans hp1
 have hb2:GK (w1.setCell ⟨b,z.id,none⟩ (.int .i64 (L:Int))) (ext w.drew o) (M + 4) pz ps (.iface 87 (.pointer (some ⟨p,0,none⟩))) z:=⟨(Below.heap_setCell w1 ⟨b,z.id,none⟩ (.int .i64 (L:Int)) pz hzb).trans hb1.1,hb1.2⟩
 have hsS2:=hsS1.step hk2 (InN.self hDM.1)
 obtain ⟨W2,hW2⟩:∃ W2,w1.setCell ⟨b,z.id,none⟩ (.int .i64 (L:Int)) = W2:=⟨_,rfl⟩
 rw [hW2] at hs2 hr2 hp2 hb2 hsS2 ⊢
 have hml:(mat.set z.id (L:Int)).length = n:=by rw [List.length_set];exact hnH.out
 have hcm:=VZ (w:=W2) (o:=ext w.drew o) (cap:=cap) (AV hr2) (by rw [hml];have:=hB.out.2.2.2;have:=hnH.out;omega) (by rw [hml];have:=hB.out.2.2.2;have:=hnH.out;omega)
 rw [hml] at hcm
 have hcmH:=hidden hcm
 have e1:=cell_of_block hp2 1
 simp only [List.getElem?_cons_zero,List.getElem?_cons_succ] at e1
 rw [hnH.out] at e1
 have hlc:CW (mat.set z.id (L:Int)) ≤ 256:=by
  refine Qo (fun y hy => ?_) (by omega)
  rcases List.mem_or_eq_of_mem_set hy with h | h
  ·exact (hB.out.1 y h).2
  ·rw [h];have:=hB.out.2.2.1;have:=hLH.out;omega
 have hcnt:z.count mine mat base ready = if (base:Int) ≤ CW (mat.set z.id (L:Int)) then { z with BB := .leads mine (mat.set z.id (L:Int)) base true,Ag:=max z.Ag (CW (mat.set z.id (L:Int))).toNat } else { z with BB := .leads mine (mat.set z.id (L:Int)) base ready }:=by rw [←hLH.out];rfl
 obtain ⟨m2,hm2⟩:∃ m2,mat.set z.id (L:Int) = m2:=⟨_,rfl⟩
 rw [hm2] at hcmH hlc hr2 hml hcnt
 have hcntH:=hidden hcnt
 have hm2H:=hidden hm2
 have hcoI:(0:Int) ≤ (z.Ag:Int)∧(z.Ag:Int) ≤ 256:=by have:=hB.out.2.1;omega
 have hX:=hidden (And.intro hs2 (And.intro hr2 (And.intro hp2 (And.intro hb2 (And.intro hsS2 (And.intro op1 ob1))))))
 have hmlH:=hidden hml
 have hne:=hidden (And.intro hpb (And.intro hzb hzp))
 obtain ⟨C,hC⟩:∃ C,CW m2 = C:=⟨_,rfl⟩
 rw [hC] at hcmH hlc hcntH
 clear hs1 hs1H hb hs hp hpo hr hro hp1 hr1 op1 ob1 hb1 hsS1 hpb hzb hzp hs2 hk2 hr2 hp2 hb2 hsS2 hW2 hml hcm hcnt hS1 hfr hce hfk
 by_cases hcmp:(base:Int) ≤ C
 ·rw [if_pos hcmp] at hcntH
  go_wp2_with fail
  refine hcmH.out.mono ?_;rintro e w3 ⟨v3,o3,rfl,hs3,rfl⟩
  obtain ⟨hs2,hr2,hp2,hb2,hsS2,op2,ob2⟩:=hX.out
  have hp3:=(hs3.block p (lt_of_block hp2) (fun h=>h)).trans hp2
  have hr3:=(hs3.block b (lt_of_block hr2) (fun h=>h)).trans hr2
  have op3:=(hs3.own p (lt_of_block hp2)).trans op2
  have ob3:=(hs3.own b (lt_of_block hr2)).trans ob2
  have hb3:=hb2.step hs3 (fun h=>h)
  have hsS3:=hsS2.step0 hs3
  have st3:=hs2.trans (hs3.only (M + 4))
  have e2:=cell_of_block hp3 2
  simp only [List.getElem?_cons_zero,List.getElem?_cons_succ] at e2
  have f3:=Ap hp3 3
  have e3:=cell_of_block hp3 3
  simp only [List.getElem?_cons_zero,List.getElem?_cons_succ] at e3
  obtain ⟨⟨-, -, -, -, -, -,c6⟩,hfr, -⟩:=hb3.cells
  have f6:=hfr 6
  obtain ⟨cn,rfl⟩:∃ cn:Nat,C = (cn:Int):=⟨C.toNat,by omega⟩
  have hmx:max (z.Ag:Int) (cn:Int) = ((max z.Ag cn:Nat):Int):=by omega
  have hnI:(0:Int) ≤ (cn:Int)∧(cn:Int) ≤ 256:=by omega
  have st4:=(st3.setCell (a:=⟨p,3,none⟩) (.bool true) (.inl (by show (o3 p).1 = _;rw [op3]))).setCell (a:=⟨pz,6,none⟩) (.int .i64 ((max z.Ag cn:Nat):Int)) (.inl (by show (o3 pz).1 = _;rw [hb3.2]))
  have k4:=((Step.refl (Only (M + 4)) w3 o3).setCell (a:=⟨p,3,none⟩) (.bool true) (.inl (by show (o3 p).1 = _;rw [op3]))).setCell (a:=⟨pz,6,none⟩) (.int .i64 ((max z.Ag cn:Nat):Int)) (.inl (by show (o3 pz).1 = _;rw [hb3.2]))
  have hp4:=(Below.heap_setCell (w3.setCell ⟨p,3,none⟩ (.bool true)) ⟨pz,6,none⟩ (.int .i64 ((max z.Ag cn:Nat):Int)) p (fun h=>hne.out.2.2 h.symm)).trans (Ai (i:=3) (.bool true) hp3)
  have hr4:=(Below.heap_setCell (w3.setCell ⟨p,3,none⟩ (.bool true)) ⟨pz,6,none⟩ (.int .i64 ((max z.Ag cn:Nat):Int)) b (fun h=>hne.out.2.1 h.symm)).trans ((Below.heap_setCell w3 ⟨p,3,none⟩ (.bool true) b (fun h=>hne.out.1 h.symm)).trans hr3)
  have hb4:=Ai (i:=6) (.int .i64 ((max z.Ag cn:Nat):Int)) ((Below.heap_setCell w3 ⟨p,3,none⟩ (.bool true) pz hne.out.2.2).trans hb3.1)
  have hF:=hidden (And.intro st4 (show GV _ o3 D M pz ps pd p { z with BB := .leads mine m2 base true,Ag:=max z.Ag (cn:Int).toNat } mine m2 base true from
   ⟨hA.out.1,⟨hb4,hb3.2⟩,⟨b,cap,by rw [hmlH.out, ←hnH.out];exact hp4,op3,hr4,ob3,by rw [hmlH.out, ←hnH.out];exact hA.out.2.1,hA.out.2.2⟩,hsS3.step k4 (InN.self hA.out.1.1)⟩))
  clear hs2 hr2 hp2 hb2 hsS2 op2 ob2 hs3 hp3 hr3 op3 ob3 hb3 hsS3 st3 st4 k4 hp4 hr4 hb4 hfr hcmH hX
  go_wp2_with fail
  go_end0
  refine ⟨_,o3,rfl,hF.out.1,rfl,true, ?_, ?_⟩
  ·rw [hLH.out,hcntH.out,hm2H.out]
  ·rw [hLH.out,hcntH.out,hm2H.out];exact hF.out.2
 ·rw [if_neg hcmp] at hcntH
  go_wp2_with fail
  refine hcmH.out.mono ?_;rintro e w3 ⟨v3,o3,rfl,hs3,rfl⟩
  obtain ⟨hs2,hr2,hp2,hb2,hsS2,op2,ob2⟩:=hX.out
  have hp3:=(hs3.block p (lt_of_block hp2) (fun h=>h)).trans hp2
  have hr3:=(hs3.block b (lt_of_block hr2) (fun h=>h)).trans hr2
  have op3:=(hs3.own p (lt_of_block hp2)).trans op2
  have ob3:=(hs3.own b (lt_of_block hr2)).trans ob2
  have hb3:=hb2.step hs3 (fun h=>h)
  have hsS3:=hsS2.step0 hs3
  have st3:=hs2.trans (hs3.only (M + 4))
  have e2:=cell_of_block hp3 2
  simp only [List.getElem?_cons_zero,List.getElem?_cons_succ] at e2
  have hF:=hidden (And.intro st3 (show GV w3 o3 D M pz ps pd p { z with BB := .leads mine m2 base ready } mine m2 base ready from
   ⟨hA.out.1,hb3,⟨b,cap,by rw [hmlH.out, ←hnH.out];exact hp3,op3,hr3,ob3,by rw [hmlH.out, ←hnH.out];exact hA.out.2.1,hA.out.2.2⟩,hsS3⟩))
  clear hs2 hr2 hp2 hb2 hsS2 op2 ob2 hs3 hp3 hr3 op3 ob3 hb3 hsS3 st3 hcmH hX
  go_wp2_with fail
  go_end0
  refine ⟨_,o3,rfl,hF.out.1,rfl,ready, ?_, ?_⟩
  ·rw [hLH.out,hcntH.out,hm2H.out]
  ·rw [hLH.out,hcntH.out,hm2H.out];exact hF.out.2
theorem YG {w:World} {o:Own} {D pd K H:Nat} {t:AZ} (Mx:Nat) (hDx:D ≤ Mx) (hD0:D ≠ 0) (hg:SG K H t) (hK:K < 65536) (hn:t.d.pages.length ≤ 400) (hD:Bg w o D pd t.d) :
  Calls Tryz.prog 37 #[.pointer (some ⟨pd,0,none⟩)] w (Ret (EN Mx) w o fun v w' o'=>∃ ps,v = .tuple #[.pointer (some ⟨ps,0,none⟩), .int .i64 0]∧Bi w' o' (Mx + 1) (Mx + 2) (Mx + 3) D ps pd 0 t):=by
 obtain ⟨g0,g1,k0,k1,h0,h1,he⟩:=hg.reopen
 have hnew:=hg.newest hK
 have h4:=hg.h4
 have hl:=hg.len
 refine (Yn (S:=Mx + 1) (A:=Mx + 2) (B:=Mx + 3) (Y:=Mx + 4) (by simp;omega) hD hg.dd (by rw [hg.row];simp) (by omega) hn hl hnew.1 hnew.2 h0 h1).mono ?_
 rintro e w' ⟨v,o',rfl,hs,ps, -,rfl,hat⟩
 rw [he] at hat
 exact ⟨_,o',rfl,hs.mono (fun k hk=>by rcases hk with rfl | rfl | rfl <;> (show Mx < _;omega)),ps,rfl,hat.low (Nat.zero_le _)⟩
structure SP (K:Nat) (s:AZ):Prop where
 sg:SG K 200 s
 up:s.d.left < 0
 pg:s.d.pages.length = 400
theorem SP.mono {K K':Nat} {s:AZ} (h:SP K s) (hK:K ≤ K'):SP K' s:=⟨h.sg.mono hK,h.up,h.pg⟩
theorem SP.dead {K:Nat} {s:AZ} (h:SP K s):(s.dead || s.d.dead) = false:=by rw [h.sg.live,h.sg.dd];rfl
theorem SP.new:SP 0 (YJ 400):=⟨dL (n:=400) (by omega) (by omega),by show (-1:Int) < 0;omega,by show (Af.new 400).pages.length = 400;unfold Af.new;rw [List.length_replicate]⟩
theorem Ua {K:Nat} {s:AZ} (h:SP K s) (hK:K + 600 < 65536) (hk:KOk s.kept) (a:bW) (hb:AP (s.kept.next a).1.lines ≤ 90000) :
  ((s.kept.next a).2 = 1∧s.act a = (s,1)) ∨ ((s.kept.next a).2 = 0∧∃ s',s.act a = (s',0)∧SP (K + 3) s'∧s'.kept = (s.kept.next a).1):=by
 rcases AZ.Zk h.sg hK hk a with ⟨h1,h2,h3⟩ | ⟨h0,s',h1,h2,h3,h4,h5⟩ | ⟨h0,h1,h2⟩ | ⟨-, -,h1, -⟩
 ·exact .inl ⟨h1,h3⟩
 ·exact .inr ⟨h0,s',h1,⟨h2,h5 h.up,h4.trans h.pg⟩,h3⟩
 ·have h3:=h2 400 (by omega)
  have h4:=(hk.next a).n
  unfold AX.fits bH at h3
  simp only [decide_eq_false_iff_not] at h3
  omega
 ·have:=h.up;omega
theorem GL {K:Nat} {s:AZ} (h:SP K s) (hK:K + 600 < 65536) (hk:KOk s.kept) (hb:AP s.kept.lines ≤ 90000) (e:BitVec 64) :
  ((s.kept.CQ e).2 = 1∧s.promise e = (s,1)) ∨ ((s.kept.CQ e).2 = 0∧∃ s',s.promise e = (s',0)∧SP (K + 3) s'∧s'.kept = (s.kept.CQ e).1):=by
 refine Ua h hK hk ⟨0,e,[]⟩ ?_
 show AP (s.kept.CQ e).1.lines ≤ 90000
 unfold AX.CQ
 split <;> exact hb
theorem KW {K:Nat} {s:AZ} (h:SP K s) (hK:K + 600 < 65536) (hk:KOk s.kept) (e:BitVec 64) (ls:List Ar) (hb:AP s.kept.lines ≤ 90000) (hb2:AP ls ≤ 90000) :
  ((s.kept.Ee e ls).2 = 1∧s.FO e ls = (s,1)) ∨ ((s.kept.Ee e ls).2 = 0∧∃ s',s.FO e ls = (s',0)∧SP (K + 3) s'∧s'.kept = (s.kept.Ee e ls).1):=by
 refine Ua h hK hk ⟨1,e,ls⟩ ?_
 show AP (s.kept.Ee e ls).1.lines ≤ 90000
 unfold AX.Ee
 split
 ·exact hb2
 ·exact hb
theorem Jy {K:Nat} {s:AZ} (h:SP K s) (hK:K + 600 < 65536) (hk:KOk s.kept) (ls:List Ar) (hb:AP s.kept.lines + AP ls ≤ 90000) :
  ((s.kept.Cm ls).2 = 1∧s.append ls = (s,1)) ∨ ((s.kept.Cm ls).2 = 0∧∃ s',s.append ls = (s',0)∧SP (K + 3) s'∧s'.kept = (s.kept.Cm ls).1):=by
 refine Ua h hK hk ⟨2,0,ls⟩ ?_
 show AP (s.kept.Cm ls).1.lines ≤ 90000
 unfold AX.Cm
 split
 ·show AP (s.kept.lines ++ ls) ≤ 90000
  rw [DV];exact hb
 ·show AP s.kept.lines ≤ 90000
  omega
namespace Am
structure NP (K B:Nat) (z:Am):Prop where
 sp:SP K z.s
 ok:NOk B z.BN
theorem NP.mono {K K' B B':Nat} {z:Am} (h:NP K B z) (hK:K ≤ K') (hB:B ≤ B'):NP K' B' z:=⟨h.sp.mono hK,h.ok.mono hB⟩
theorem NP.kok {K B:Nat} {z:Am} (h:NP K B z):KOk z.s.kept:=h.ok.toN0.kok
theorem LG (z:Am) (mine:BitVec 64) (mat:List Int) (base:Nat) (ready:Bool):(z.count mine mat base ready).BN = z.BN.count mine mat base ready∧(z.count mine mat base ready).s = z.s:=by
 unfold count Aj.count
 simp only
 split
 ·rename_i h
  rw [if_pos (show (base:Int) ≤ CW (mat.set z.BN.id z.BN.k.lines.length) from h)]
  exact ⟨rfl,rfl⟩
 ·rename_i h
  rw [if_neg (show ¬ (base:Int) ≤ CW (mat.set z.BN.id z.BN.k.lines.length) from h)]
  exact ⟨rfl,rfl⟩
def Plain (K:Nat) (r:Am × DX) (q:Aj × DX):Prop:=r.1.BN = q.1∧r.2 = q.2∧SP K r.1.s
theorem PV {K:Nat} {z:Am} (h:SP K z.s) (hK:K + 600 < 65536) (hk:KOk z.s.kept) (hb:AP z.s.kept.lines ≤ 90000) (mine:BitVec 64) (has:List (Option (BitVec 64 × List Ar))) (hbs:∀ p,some p ∈ has→AP p.2 ≤ 90000) :
  Plain (K + 3) (z.lead mine has) (z.BN.lead mine has):=by
 unfold lead Aj.lead
 by_cases hq:2 * (has.filter Option.isSome).length ≤ z.n
 ·rw [if_pos hq,if_pos (show 2 * (has.filter Option.isSome).length ≤ z.BN.n from hq)]
  exact ⟨rfl,rfl,h.mono (by omega)⟩
 ·rw [if_neg hq,if_neg (show ¬ 2 * (has.filter Option.isSome).length ≤ z.BN.n from hq)]
  cases hbp:Qr has with
  | none=>exact ⟨rfl,rfl,h.mono (by omega)⟩
  | some p =>
   have hp:some p ∈ has:=by
    rcases NZ has none p hbp with h | h
    ·simp at h
    ·exact h
   simp only
   have hkk:z.BN.k = z.s.kept:=rfl
   rw [hkk]
   rcases KW h hK hk mine p.2 hb (hbs p hp) with ⟨h1,h2⟩ | ⟨h1,s',h2,h3,h4⟩
   ·rw [h1,h2]
    exact ⟨rfl,rfl,h.mono (by omega)⟩
   ·rw [h1,h2,if_pos rfl,if_pos rfl, ←h4]
    obtain ⟨c1,c2⟩:=LG ({ z with s:=s',Ag:=min z.Ag p.2.length }:Am) mine (List.replicate z.n (-1)) p.2.length false
    exact ⟨c1,rfl,by show SP _ (Am.count _ _ _ _ _).s;rw [c2];exact h3⟩
theorem Uu {K:Nat} {z:Am} (h:SP K z.s) (hK:K + 606 < 65536) (hk:KOk z.s.kept) (hb:AP z.s.kept.lines ≤ 90000):Plain (K + 6) z.stand z.BN.stand:=by
 unfold stand Aj.stand
 have hkk:z.BN.k = z.s.kept:=rfl
 have e1:z.BN.seen = z.seen:=rfl
 have e2:z.BN.id = z.id:=rfl
 have e3:z.BN.n = z.n:=rfl
 simp only
 rw [hkk,e1,e2,e3]
 generalize PQ (Fj z.s.kept.promised z.seen) z.id z.n = e
 by_cases he:e = 0
 ·rw [if_pos he,if_pos he];exact ⟨rfl,rfl,h.mono (by omega)⟩
 ·rw [if_neg he,if_neg he]
  rcases GL h (by omega) hk hb e with ⟨h1,h2⟩ | ⟨h1,s',h2,h3,h4⟩
  ·rw [h1,h2]
   exact ⟨rfl,rfl,h.mono (by omega)⟩
  ·rw [h1,h2,if_pos rfl,if_pos rfl, ←h4]
   have hl:s'.kept.lines = z.s.kept.lines:=by rw [h4,GM h1]
   have hk':KOk s'.kept:=⟨by rw [hl];exact hk.n,by rw [hl];exact hk.b⟩
   have:=PV (z:={ z with s:=s',BB := .stands e ((List.replicate z.n none).set z.id (some (z.s.kept.current,z.s.kept.lines))),waited:=0 }) h3 (by omega) hk' (by show AP s'.kept.lines ≤ 90000;rw [hl];exact hb) e ((List.replicate z.n none).set z.id (some (z.s.kept.current,z.s.kept.lines))) (fun p hp=>by
    rcases List.mem_or_eq_of_mem_set hp with hx | hx
    ·have:=List.eq_of_mem_replicate hx;simp at this
    ·simp only [Option.some.injEq] at hx
     subst hx;exact hb)
   obtain ⟨p1,p2,p3⟩:=this
   refine ⟨p1, ?_,p3⟩
   show _ ++ _ = _ ++ _
   rw [p2]
   rfl
theorem WC {K:Nat} {z:Am} (h:SP K z.s) (hK:K + 606 < 65536) (hk:KOk z.s.kept) (hb:AP z.s.kept.lines ≤ 90000):Plain (K + 6) z.tick z.BN.tick:=by
 have key:∀ z:Am,SP K z.s→KOk z.s.kept→AP z.s.kept.lines ≤ 90000 →
   Plain (K + 6) (if 3 + 2 * z.id < z.waited + 1 then ({ z with waited:=z.waited + 1 }:Am).stand else (({ z with waited:=z.waited + 1 }:Am),[])) (if 3 + 2 * z.BN.id < z.BN.waited + 1 then ({ z.BN with waited:=z.BN.waited + 1 }:Aj).stand else (({ z.BN with waited:=z.BN.waited + 1 }:Aj),[])):=by
  intro z h hk hb
  by_cases hw:3 + 2 * z.id < z.waited + 1
  ·rw [if_pos hw,if_pos (show 3 + 2 * z.BN.id < z.BN.waited + 1 from hw)]
   exact Uu (z:={ z with waited:=z.waited + 1 }) h hK hk hb
  ·rw [if_neg hw,if_neg (show ¬ 3 + 2 * z.BN.id < z.BN.waited + 1 from hw)]
   exact ⟨rfl,rfl,h.mono (by omega)⟩
 obtain ⟨id,n,s,BB,waited,seen,Ag⟩:=z
 cases BB with
 | follows=>exact key _ h hk hb
 | stands a b=>exact key _ h hk hb
 | leads mine mat base ready=>exact ⟨rfl,rfl,h.mono (by omega)⟩
theorem Xk {K:Nat} {z:Am} (h:SP K z.s) (hK:K + 600 < 65536) (hk:KOk z.s.kept) (src:Nat) (m:BG) (hb:AP z.s.kept.lines + AP m.ls ≤ 90000) (hbs:∀ mine has,z.BB = .stands mine has→∀ p,some p ∈ has→AP p.2 ≤ 90000) :
  Plain (K + 3) (z.hear src m) (z.BN.hear src m):=by
 rw [Aj.MZ]
 unfold hear
 have hy:({ z.BN with seen:=Fj z.BN.seen m.e }:Aj) = ({ z with seen:=Fj z.seen m.e }:Am).BN:=rfl
 rw [hy]
 have h':SP K ({ z with seen:=Fj z.seen m.e }:Am).s:=h
 have hk':KOk ({ z with seen:=Fj z.seen m.e }:Am).s.kept:=hk
 have hb':AP ({ z with seen:=Fj z.seen m.e }:Am).s.kept.lines + AP m.ls ≤ 90000:=hb
 have hbs':∀ mine has,({ z with seen:=Fj z.seen m.e }:Am).BB = .stands mine has→∀ p,some p ∈ has→AP p.2 ≤ 90000:=hbs
 generalize ({ z with seen:=Fj z.seen m.e }:Am) = y at *
 clear h hk hb hbs hy
 have hkk:y.BN.k = y.s.kept:=rfl
 have stay:Plain (K + 3) (y,[]) (y.BN,[]):=⟨rfl,rfl,h'.mono (by omega)⟩
 unfold Ec Aj.Ec
 split
 ·unfold BK Aj.BK
  rw [hkk]
  split
  ·exact stay
  split
  ·exact ⟨rfl,rfl,h'.mono (by omega)⟩
  rcases GL h' hK hk' (by omega) m.e with ⟨h1,h2⟩ | ⟨h1,s',h2,h3,h4⟩
  ·rw [h1,h2];exact stay
  ·rw [h1,h2,if_pos rfl,if_pos rfl, ←h4];exact ⟨rfl,rfl,h3⟩
 split
 ·unfold Bj Aj.Bj
  have hr:y.BN.BB = y.BB:=rfl
  rw [hr]
  cases hrr:y.BB with
  | follows=>exact stay
  | leads a b c d=>exact stay
  | stands mine has =>
   show Plain (K + 3) (if mine ≠ m.e ∨ m.e.toNat ≤ m.c.toNat then _ else _) (if mine ≠ m.e ∨ m.e.toNat ≤ m.c.toNat then _ else _)
   split
   ·exact stay
   ·have hall:∀ p,some p ∈ (if (has.getD src none).isSome then has else has.set src (some (m.c,m.ls)))→AP p.2 ≤ 90000:=by
     intro p hp
     split at hp
     ·exact hbs' mine has hrr p hp
     ·rcases List.mem_or_eq_of_mem_set hp with hx | hx
      ·exact hbs' mine has hrr p hx
      ·simp only [Option.some.injEq] at hx
       subst hx
       show AP m.ls ≤ 90000
       omega
    generalize (if (has.getD src none).isSome then has else has.set src (some (m.c,m.ls))) = has1 at *
    exact PV (z:={ y with BB := .stands mine has1 }) h' hK hk' (by show AP y.s.kept.lines ≤ 90000;omega) mine has1 hall
 split
 ·unfold Cj Aj.Cj
  split <;> exact ⟨rfl,rfl,h'.mono (by omega)⟩
 split
 ·unfold BD Aj.BD
  rw [hkk]
  split
  ·exact stay
  split
  ·exact ⟨rfl,rfl,h'.mono (by omega)⟩
  split
  ·exact ⟨rfl,rfl,h'.mono (by omega)⟩
  rcases KW h' hK hk' m.e m.ls (by omega) (by omega) with ⟨h1,h2⟩ | ⟨h1,s',h2,h3,h4⟩
  ·rw [h1,h2];exact stay
  ·rw [h1,h2,if_pos rfl,if_pos rfl, ←h4];exact ⟨rfl,rfl,h3⟩
 split
 ·unfold BF Aj.BF
  rw [hkk]
  split
  ·exact stay
  split
  ·exact ⟨rfl,rfl,h'.mono (by omega)⟩
  split
  ·exact stay
  simp only
  split
  ·exact ⟨rfl,rfl,h'.mono (by omega)⟩
  split
  ·exact ⟨rfl,rfl,h'.mono (by omega)⟩
  have hd:=FN m.ls (y.s.kept.lines.length - m.at')
  rcases Jy h' hK hk' (m.ls.drop (y.s.kept.lines.length - m.at')) (by omega) with ⟨h1,h2⟩ | ⟨h1,s',h2,h3,h4⟩
  ·rw [h1,h2];exact ⟨rfl,rfl,h'.mono (by omega)⟩
  ·rw [h1,h2,if_pos rfl,if_pos rfl, ←h4];exact ⟨rfl,rfl,h3⟩
 ·unfold CJ Aj.CJ
  have hr:y.BN.BB = y.BB:=rfl
  rw [hr]
  cases hrr:y.BB with
  | follows=>exact stay
  | stands a b=>exact stay
  | leads mine mat base ready =>
   simp only
   split
   ·obtain ⟨c1,c2⟩:=LG y mine (mat.set src (max (mat.getD src 0) (min m.at' y.s.kept.lines.length:Nat))) base ready
    exact ⟨c1,rfl,by show SP _ (Am.count _ _ _ _ _).s;rw [c2];exact h'.mono (by omega)⟩
   ·exact stay
theorem QL {K:Nat} {z:Am} (h:SP K z.s) (hK:K + 600 < 65536) (hk:KOk z.s.kept) (b:List UInt8) (hb:AP z.s.kept.lines + b.length ≤ 90000) :
  (z.BL b).1.BN = (z.BN.BL b).1∧(z.BL b).2 = (z.BN.BL b).2∧SP (K + 3) (z.BL b).1.s:=by
 obtain ⟨id,n,s,BB,waited,seen,Ag⟩:=z
 have h':SP (K + 3) s:=h.mono (by omega)
 by_cases hbl:b.length = 0 ∨ 4096 < b.length
 ·unfold BL Aj.BL
  rw [if_pos hbl,if_pos hbl];exact ⟨rfl,rfl,h'⟩
 cases BB with
 | follows=>unfold BL Aj.BL;rw [if_neg hbl,if_neg hbl];exact ⟨rfl,rfl,h'⟩
 | stands a c=>unfold BL Aj.BL;rw [if_neg hbl,if_neg hbl];exact ⟨rfl,rfl,h'⟩
 | leads mine mat base ready =>
  cases ready with
  | false=>unfold BL Aj.BL;rw [if_neg hbl,if_neg hbl];exact ⟨rfl,rfl,h'⟩
  | true =>
   have p1:(⟨id,n,s, .leads mine mat base true,waited,seen,Ag⟩:Am).BL b = (if 256 ≤ s.kept.lines.length then (⟨id,n,s, .leads mine mat base true,waited,seen,Ag⟩,4) else
     if (s.append [⟨mine,b⟩]).2 = 0 then ((⟨id,n,(s.append [⟨mine,b⟩]).1, .leads mine mat base true,waited,seen,Ag⟩:Am).count mine mat base true,0) else (⟨id,n,(s.append [⟨mine,b⟩]).1, .leads mine mat base true,waited,seen,Ag⟩,(s.append [⟨mine,b⟩]).2)):=by
    unfold BL;rw [if_neg hbl]
   have p2:(⟨id,n,s.kept, .leads mine mat base true,waited,seen,Ag⟩:Aj).BL b = (if 256 ≤ s.kept.lines.length then (⟨id,n,s.kept, .leads mine mat base true,waited,seen,Ag⟩,4) else
     if (s.kept.Cm [⟨mine,b⟩]).2 = 0 then ((⟨id,n,(s.kept.Cm [⟨mine,b⟩]).1, .leads mine mat base true,waited,seen,Ag⟩:Aj).count mine mat base true,0) else (⟨id,n,s.kept, .leads mine mat base true,waited,seen,Ag⟩,(s.kept.Cm [⟨mine,b⟩]).2)):=by
    unfold Aj.BL;rw [if_neg hbl]
   show (Am.BL _ b).1.BN = (Aj.BL ⟨id,n,s.kept, .leads mine mat base true,waited,seen,Ag⟩ b).1∧(Am.BL _ b).2 = (Aj.BL ⟨id,n,s.kept, .leads mine mat base true,waited,seen,Ag⟩ b).2∧_
   rw [p1,p2]
   by_cases hf:256 ≤ s.kept.lines.length
   ·rw [if_pos hf,if_pos hf];exact ⟨rfl,rfl,h'⟩
   rw [if_neg hf,if_neg hf]
   rcases Jy (s:=s) h hK hk [⟨mine,b⟩] (by simpa [AP] using hb) with ⟨h1,h2⟩ | ⟨h1,s',h2,h3,h4⟩
   ·rw [h1,h2,if_neg (by show ¬ (1:Int) = 0;decide),if_neg (by decide)]
    exact ⟨rfl,rfl,h'⟩
   ·rw [h1,h2,if_pos rfl,if_pos rfl, ←h4]
    obtain ⟨c1,c2⟩:=LG (⟨id,n,s', .leads mine mat base true,waited,seen,Ag⟩:Am) mine mat base true
    refine ⟨c1,rfl, ?_⟩
    show SP (K + 3) (Am.count ⟨id,n,s', .leads mine mat base true,waited,seen,Ag⟩ mine mat base true).s
    rw [c2];exact h3
end Am
theorem En.small {B:Nat} {ls:List Ar} (h:En B ls) (hB:B ≤ 100000):small ls:=by
 refine ⟨Nat.le_trans h.n (by omega), ?_⟩
 rw [Ej]
 have:=h.n;have:=h.b
 omega
theorem ZF {D M:Nat} (h:D ≤ M∧D ≠ 0):Qw (M + 1) (M + 2) (M + 3) D:=by
 obtain ⟨h1,h2⟩:=h
 constructor <;> omega
section
variable {w:World} {o:Own} {D M ps pd K B:Nat} {s:AZ}
def Uc (D M ps pd:Nat) (Q:AZ × Int) (v:Value) (w':World) (o':Own):Prop:=v = .int .i64 Q.2∧Bi w' o' (M + 1) (M + 2) (M + 3) D ps pd 0 Q.1
theorem Wrote.zero {nb:Nat} {Q:AZ × Int} {v:Value} {w':World} {o':Own} (h:Wrote (M + 1) (M + 2) (M + 3) D ps pd 0 nb Q v w' o'):Uc D M ps pd Q v w' o':=⟨h.1,h.2.low (Nat.zero_le _)⟩
theorem Jb (hDM:D ≤ M∧D ≠ 0) (h:Bi w o (M + 1) (M + 2) (M + 3) D ps pd 0 s) (hp:SP K s) (hsm:small s.kept.lines) (e:BitVec 64) :
  Calls Tryz.prog 26 #[.pointer (some ⟨ps,0,none⟩), .int .u64 (e.toNat:Int)] w (Ret (In4 (M + 1) (M + 2) (M + 3) D) w o fun v w' o'=>Uc D M ps pd (s.promise e) v w' o'):=by
 refine (SA (ZF hDM) h (by rw [hp.sg.row];simp) ?_ hsm e).mono ?_
 ·have:=hp.sg.pg;omega
 ·rintro e w' ⟨v,o',rfl,hs,hw⟩;exact ⟨v,o',rfl,hs,hw.zero⟩
theorem Pe (hDM:D ≤ M∧D ≠ 0) (h:Bi w o (M + 1) (M + 2) (M + 3) D ps pd 0 s) (hp:SP K s) (e:BitVec 64) {lbase:Nat} {lv:Value} {ls:List Ar} (hl:Lines w o lbase lv ls) (hls:small ls) :
  Calls Tryz.prog 145 #[.pointer (some ⟨ps,0,none⟩), .int .u64 (e.toNat:Int),lv] w (Ret (In4 (M + 1) (M + 2) (M + 3) D) w o fun v w' o'=>Uc D M ps pd (s.FO e ls) v w' o'):=by
 refine (WQ (ZF hDM) h (by rw [hp.sg.row];simp) ?_ e lv ls hl hls.1 (fun _=>hls)).mono ?_
 ·have:=hp.sg.pg;omega
 ·rintro e w' ⟨v,o',rfl,hs,hw⟩;exact ⟨v,o',rfl,hs,hw.zero⟩
theorem Ob (hDM:D ≤ M∧D ≠ 0) (h:Bi w o (M + 1) (M + 2) (M + 3) D ps pd 0 s) (hp:SP K s) {lbase:Nat} {lv:Value} {ls:List Ar} (hl:Lines w o lbase lv ls) (hls:small ls) (hk:small s.kept.lines) (hkl:small (s.kept.lines ++ ls) ∨ 1000 < s.kept.lines.length + ls.length) :
  Calls Tryz.prog 41 #[.pointer (some ⟨ps,0,none⟩),lv] w (Ret (In4 (M + 1) (M + 2) (M + 3) D) w o fun v w' o'=>Uc D M ps pd (s.append ls) v w' o'):=by
 refine (UD (ZF hDM) h (by rw [hp.sg.row];simp) ?_ lv ls hl hls.1 hk.1 (fun ha=>⟨hls,hk, ?_⟩)).mono ?_
 ·have:=hp.sg.pg;omega
 ·rcases hkl with h | h
  ·exact h
  ·unfold AX.Eu at ha
   simp only [Bool.and_eq_true,decide_eq_true_eq] at ha
   omega
 ·rintro e w' ⟨v,o',rfl,hs,hw⟩;exact ⟨v,o',rfl,hs,hw.zero⟩
end
abbrev DT:=BitVec 64 × List Ar
def BC (j:Nat):List (Option DT)→List (Nat × DT)
 | []=>[]
 | none :: r=>BC (j + 1) r
 | some p :: r=>(j,p) :: BC (j + 1) r
theorem KF:∀ (l:List (Option DT)) (j:Nat),(BC j l).length = (l.filter Option.isSome).length
 | [],_=>rfl
 | none :: r,j=>by simpa [BC] using KF r (j + 1)
 | some p :: r,j=>by simpa [BC] using KF r (j + 1)
theorem Fa:∀ (l:List (Option DT)) (j i:Nat) (p:DT),(i,p) ∈ BC j l ↔ ∃ k,i = j + k∧l[k]? = some (some p)
 | [],_,_,_=>by simp [BC]
 | none :: r,j,i,p=>by
  rw [show BC j (none :: r) = BC (j + 1) r from rfl,Fa r (j + 1) i p]
  constructor
  ·rintro ⟨k,rfl,h⟩;exact ⟨k + 1,by omega,h⟩
  ·rintro ⟨k,rfl,h⟩
   cases k with
   | zero=>simp at h
   | succ k=>exact ⟨k,by omega,h⟩
 | some q :: r,j,i,p=>by
  rw [show BC j (some q :: r) = (j,q) :: BC (j + 1) r from rfl,List.mem_cons,Fa r (j + 1) i p]
  constructor
  ·rintro (h | ⟨k,rfl,h⟩)
   ·cases h;exact ⟨0,by omega,rfl⟩
   ·exact ⟨k + 1,by omega,h⟩
  ·rintro ⟨k,rfl,h⟩
   cases k with
   | zero=>simp at h;subst h;exact .inl rfl
   | succ k=>exact .inr ⟨k,by omega,h⟩
theorem Mc:∀ (l:List (Option DT)) (j:Nat),((BC j l).map (·.1)).Pairwise (· < ·)
 | [],_=>by simp [BC]
 | none :: r,j=>Mc r (j + 1)
 | some p :: r,j=>by
  rw [show BC j (some p :: r) = (j,p) :: BC (j + 1) r from rfl,List.map_cons,List.pairwise_cons]
  refine ⟨fun i hi => ?_,Mc r (j + 1)⟩
  obtain ⟨x,hx,rfl⟩:=List.mem_map.1 hi
  obtain ⟨k,h, -⟩:=(Fa r (j + 1) x.1 x.2).1 hx
  show j < x.1
  omega
theorem Ll:∀ (l:List (Option DT)) (j:Nat) (b:Option DT),l.foldl EW b = (BC j l).foldl (fun b x=>EW b (some x.2)) b
 | [],_,_=>rfl
 | none :: r,j,b=>by
  rw [List.foldl_cons,show BC j (none :: r) = BC (j + 1) r from rfl, ←Ll r (j + 1)]
  rfl
 | some p :: r,j,b=>by
  rw [List.foldl_cons,show BC j (some p :: r) = (j,p) :: BC (j + 1) r from rfl,List.foldl_cons,Ll r (j + 1)]
theorem WN {w:World} {o:Own} {Z mb:Nat} {has:List (Option DT)} (h:OE w o Z mb has) :
  ∃ es:List Ent,(w.heap[mb]? = some (.map (Bd 0 es).toArray es.length)∧o mb = (Z,2))∧(es.map (·.1)).Nodup∧(∀ x ∈ es,x.1 < has.length)∧es.length = (has.filter Option.isSome).length ∧
   (∀ q:List Nat,q.Perm (es.map (·.1))→q.Pairwise (· ≤ ·)→q = (BC 0 has).map (·.1))∧(∀ i p,(i,p) ∈ BC 0 has→∃ x ∈ es,x.1 = i∧x.2.1 = p.1∧Lines w o 0 x.2.2 p.2)∧∀ x ∈ es,∃ ls,has[x.1]? = some (some (x.2.1,ls))∧Lines w o 0 x.2.2 ls:=by
 obtain ⟨es,h1,h2,h3,h4,h5⟩:=h
 have hm:∀ i,i ∈ es.map (·.1) ↔ i ∈ (BC 0 has).map (·.1):=by
  intro i
  constructor
  ·intro hi
   obtain ⟨x,hx,rfl⟩:=List.mem_map.1 hi
   obtain ⟨ls,hl, -⟩:=h4 x hx
   exact List.mem_map.2 ⟨(x.1,(x.2.1,ls)),(Fa has 0 _ _).2 ⟨x.1,by omega,hl⟩,rfl⟩
  ·intro hi
   obtain ⟨x,hx,rfl⟩:=List.mem_map.1 hi
   obtain ⟨k,hk,hl⟩:=(Fa has 0 x.1 x.2).1 hx
   obtain ⟨y,hy,hyx⟩:=h5 k x.2 hl
   exact List.mem_map.2 ⟨y,hy,by show y.1 = x.1;omega⟩
 have hnd:((BC 0 has).map (·.1)).Nodup:=(Mc has 0).imp (fun h=>by omega)
 have hp:(es.map (·.1)).Perm ((BC 0 has).map (·.1)):=(List.perm_ext_iff_of_nodup h3 hnd).2 hm
 refine ⟨es,⟨h1,h2⟩,h3,fun x hx => ?_, ?_,fun q hq hs => ?_,fun i p hip => ?_,h4⟩
 ·obtain ⟨ls,hl, -⟩:=h4 x hx
  exact (List.getElem?_eq_some_iff.1 hl).1
 ·have:=hp.length_eq
  rw [List.length_map,List.length_map,KF] at this
  exact this
 ·refine List.Perm.eq_of_pairwise (le:=fun a b:Nat=>a ≤ b) (fun a b _ _ h1 h2=>by omega) hs ((Mc has 0).imp (fun h=>by omega)) (hq.trans hp)
 ·obtain ⟨k,hk,hl⟩:=(Fa has 0 i p).1 hip
  obtain ⟨y,hy,hyx⟩:=h5 k p hl
  obtain ⟨ls,hl2,hL⟩:=h4 y hy
  rw [hyx,hl] at hl2
  simp only [Option.some.injEq] at hl2
  subst hl2
  exact ⟨y,hy,by omega,rfl,hL⟩
def JA (w:World) (o:Own) (b:Option DT) (pv:Option Addr):Prop:=
 match b with
 | none=>pv = none
 | some p=>∃ pp lv,pv = some ⟨pp,0,none⟩∧w.heap[pp]? = some (.cells [.int .u64 (p.1.toNat:Int),lv].toArray 153 (0,0))∧(o pp).1 = 0∧Lines w o 0 lv p.2
theorem JA.step {T:Nat→Prop} {w w':World} {o o':Own} {b:Option DT} {pv:Option Addr} (h:JA w o b pv) (s:Step T w o w' o') (h0:¬ T 0):JA w' o' b pv:=by
 cases b with
 | none=>exact h
 | some p =>
  obtain ⟨pp,lv,h1,h2,h3,h4⟩:=h
  have hl:=lt_of_block h2
  exact ⟨pp,lv,h1,by rw [s.block pp hl (by rw [h3];exact h0)];exact h2,by rw [s.own pp hl];exact h3,h4.step s h0⟩
def Qx (w:World) (o:Own) (D M pz ps pd p:Nat) (z:Am) (mine:BitVec 64) (has:List (Option DT)):Prop:=
 (D ≤ M∧D ≠ 0)∧GK w o (M + 4) pz ps (.iface 151 (.pointer (some ⟨p,0,none⟩))) z∧KA w o (M + 4) p mine has∧Bi w o (M + 1) (M + 2) (M + 3) D ps pd 0 z.s
theorem Qx.node {w:World} {o:Own} {D M pz ps pd p:Nat} {z:Am} {mine:BitVec 64} {has:List (Option DT)} (h:Qx w o D M pz ps pd p z mine has) (hr:z.BB = .stands mine has):Bc w o D M pz ps pd z:=
 ⟨h.1,_,h.2.1,by rw [hr];exact ⟨p,rfl,h.2.2.1⟩,h.2.2.2⟩
def Ea (m:BG) (lv:Value):Value := .agg #[.int .u8 (m.k:Int), .int .u64 (m.e.toNat:Int), .int .u64 (m.c.toNat:Int), .int .i64 (m.at':Int), .int .i64 (m.com:Int),lv]
def Bf (m:BG) (lv:Value):List Value:=[.int .u8 (m.k:Int), .int .u64 (m.e.toNat:Int), .int .u64 (m.c.toNat:Int), .int .i64 (m.at':Int), .int .i64 (m.com:Int),lv]
def IU:Obj := .map #[⟨.int .u8 1, .agg #[.bool false, .bool false, .bool false, .bool false],0⟩,⟨.int .u8 2, .agg #[.bool true, .bool false, .bool false, .bool true],1⟩,⟨.int .u8 3, .agg #[.bool false, .bool false, .bool false, .bool false],2⟩,⟨.int .u8 4, .agg #[.bool false, .bool false, .bool false, .bool true],3⟩,⟨.int .u8 5, .agg #[.bool false, .bool true, .bool true, .bool true],4⟩,⟨.int .u8 6, .agg #[.bool false, .bool true, .bool false, .bool false],5⟩] 6
def HY:Obj := .map #[⟨.int .u8 1, .func (.func 99) #[] #[],0⟩,⟨.int .u8 2, .func (.func 100) #[] #[],1⟩,⟨.int .u8 3, .func (.func 101) #[] #[],2⟩,⟨.int .u8 4, .func (.func 102) #[] #[],3⟩,⟨.int .u8 5, .func (.func 103) #[] #[],4⟩,⟨.int .u8 6, .func (.func 104) #[] #[],5⟩] 6
theorem JB (t e:TypeId) (_ht:Tryz.prog.underlying t = some (.map 5 e)) (w:World):(Instr.makeMap t none).run Tryz.prog w = .ok (.map (some w.heap.size)) (w.alloc (.map #[] 0)):=by
 simp only [Instr.makeMap,Sem.run_bind]
 rfl
theorem CU (t e:TypeId) (ht:Tryz.prog.underlying t = some (.map 5 e)) (w:World) (es:Array MapEntry) (clock:Nat) (k:Int) (v:Value) (hf:Instr.findNow (.int .u8) (.int .u8 k) es.toList 0 = some none) :
  (Instr.mapUpdate t (.map (some w.heap.size)) (.int .u8 k) v).run Tryz.prog (w.alloc (.map es clock)) = .ok () (w.alloc (.map (es.push ⟨.int .u8 k,v,clock⟩) (clock + 1))):=by
 have hb:(w.alloc (.map es clock)).heap[w.heap.size]? = some (.map es clock):=heap_alloc_new w _
 have hck:(Instr.checkKey false 10000 5 (.int .u8 k)).run Tryz.prog (w.alloc (.map es clock)) = .ok () (w.alloc (.map es clock)):=by
  unfold Instr.checkKey
  simp [run_underlying Tryz.underlying5]
 have hfk:(Instr.findKey 5 (.int .u8 k) es.toList).run Tryz.prog (w.alloc (.map es clock)) = .ok none (w.alloc (.map es clock)):=by
  simp [Instr.findKey,run_underlying Tryz.underlying5,hf]
 simp only [Instr.mapUpdate,Sem.run_bind,run_underlying ht,Result.andThen_ok,MapKept.run_getObj_map hb,hck,hfk,MapKept.run_setObj_map _ hb]
 rw [OC]
def Dl (k:Nat):Bool × Bool × Bool × Bool:=(decide (k = 2),decide (k = 5 ∨ k = 6),decide (k = 5),decide (k = 2 ∨ k = 4 ∨ k = 5))
def kindOk (k:Nat):Bool:=decide (1 ≤ k∧k ≤ 6)
def Ku (k:Nat):List Value:=[.bool (Dl k).1, .bool (Dl k).2.1, .bool (Dl k).2.2.1, .bool (Dl k).2.2.2]
theorem IB {w:World} {b:Nat} (hb:w.heap[b]? = some IU) (k:Nat) :
  (Instr.lookup 221 (.map (some b)) (.int .u8 (k:Int)) true).run Tryz.prog w = .ok (.tuple #[.agg (Ku k).toArray, .bool (kindOk k)]) w:=by
 have hck:∀ k:Int,(Instr.checkKey false 10000 5 (.int .u8 k)).run Tryz.prog w = .ok () w:=fun k=>by
  unfold Instr.checkKey
  simp [run_underlying Tryz.underlying5]
 have hz:(zeroValue 219).run Tryz.prog w = .ok (.agg #[.bool false, .bool false, .bool false, .bool false]) w:=by kernel_rfl
 unfold IU at hb
 by_cases h:k = 1 ∨ k = 2 ∨ k = 3 ∨ k = 4 ∨ k = 5 ∨ k = 6
 ·rcases h with rfl | rfl | rfl | rfl | rfl | rfl
  all_goals
   simp only [Instr.lookup,Sem.run_bind,run_underlying Tryz.underlying221,Result.andThen_ok,MapKept.run_getObj_map hb,Sem.run_pure,Instr.findKey,run_underlying Tryz.underlying5]
   simp [Instr.findNow,Instr.sameNow,hck,Ku,Dl,kindOk]
 ·have h1:¬ (1:Int) = k:=by omega
  have h2:¬ (2:Int) = k:=by omega
  have h3:¬ (3:Int) = k:=by omega
  have h4:¬ (4:Int) = k:=by omega
  have h5:¬ (5:Int) = k:=by omega
  have h6:¬ (6:Int) = k:=by omega
  have g1:¬ (k:Int) = 1:=by omega
  have g2:¬ (k:Int) = 2:=by omega
  have g3:¬ (k:Int) = 3:=by omega
  have g4:¬ (k:Int) = 4:=by omega
  have g5:¬ (k:Int) = 5:=by omega
  have g6:¬ (k:Int) = 6:=by omega
  have q1:((k:Int) == 1) = false:=by simp;omega
  have q2:((k:Int) == 2) = false:=by simp;omega
  have q3:((k:Int) == 3) = false:=by simp;omega
  have q4:((k:Int) == 4) = false:=by simp;omega
  have q5:((k:Int) == 5) = false:=by simp;omega
  have q6:((k:Int) == 6) = false:=by simp;omega
  have e1:Ku k = [.bool false, .bool false, .bool false, .bool false]:=by
   unfold Ku Dl
   simp only [show ¬ k = 2 by omega,show ¬ k = 5 by omega,show ¬ k = 6 by omega,show ¬ k = 4 by omega,decide_false,false_or]
  have e2:kindOk k = false:=by unfold kindOk;simp only [decide_eq_false_iff_not];omega
  rw [e1,e2]
  simp only [Instr.lookup,Sem.run_bind,run_underlying Tryz.underlying221,Result.andThen_ok,MapKept.run_getObj_map hb,Sem.run_pure,Instr.findKey,run_underlying Tryz.underlying5]
  simp [Instr.findNow,Instr.sameNow,hck,q1,q2,q3,q4,q5,q6]
theorem RG (w:World) (o:Own):Calls Tryz.prog 154 #[] w (Ret Nobody w o fun v w' _o'=>∃ b,v = .map (some b)∧w'.heap[b]? = some IU):=by
 have hm0:=hidden (JB 221 _ Tryz.underlying221 w)
 have hm1:=hidden (CU 221 _ Tryz.underlying221 w #[] 0 1 (.agg #[.bool false, .bool false, .bool false, .bool false]) rfl)
 have hm2:=hidden (CU 221 _ Tryz.underlying221 w #[⟨.int .u8 1, .agg #[.bool false, .bool false, .bool false, .bool false],0⟩] 1 2 (.agg #[.bool true, .bool false, .bool false, .bool true]) rfl)
 have hm3:=hidden (CU 221 _ Tryz.underlying221 w #[⟨.int .u8 1, .agg #[.bool false, .bool false, .bool false, .bool false],0⟩,⟨.int .u8 2, .agg #[.bool true, .bool false, .bool false, .bool true],1⟩] 2 3 (.agg #[.bool false, .bool false, .bool false, .bool false]) rfl)
 have hm4:=hidden (CU 221 _ Tryz.underlying221 w #[⟨.int .u8 1, .agg #[.bool false, .bool false, .bool false, .bool false],0⟩,⟨.int .u8 2, .agg #[.bool true, .bool false, .bool false, .bool true],1⟩,⟨.int .u8 3, .agg #[.bool false, .bool false, .bool false, .bool false],2⟩] 3 4 (.agg #[.bool false, .bool false, .bool false, .bool true]) rfl)
 have hm5:=hidden (CU 221 _ Tryz.underlying221 w #[⟨.int .u8 1, .agg #[.bool false, .bool false, .bool false, .bool false],0⟩,⟨.int .u8 2, .agg #[.bool true, .bool false, .bool false, .bool true],1⟩,⟨.int .u8 3, .agg #[.bool false, .bool false, .bool false, .bool false],2⟩,⟨.int .u8 4, .agg #[.bool false, .bool false, .bool false, .bool true],3⟩] 4 5 (.agg #[.bool false, .bool true, .bool true, .bool true]) rfl)
 have hm6:=hidden (CU 221 _ Tryz.underlying221 w #[⟨.int .u8 1, .agg #[.bool false, .bool false, .bool false, .bool false],0⟩,⟨.int .u8 2, .agg #[.bool true, .bool false, .bool false, .bool true],1⟩,⟨.int .u8 3, .agg #[.bool false, .bool false, .bool false, .bool false],2⟩,⟨.int .u8 4, .agg #[.bool false, .bool false, .bool false, .bool true],3⟩,⟨.int .u8 5, .agg #[.bool false, .bool true, .bool true, .bool true],4⟩] 5 6 (.agg #[.bool false, .bool true, .bool false, .bool false]) rfl)
 have s1:=(Step.refl Nobody w o).alloc IU (0,0)
 have hb:(w.alloc IU).heap[w.heap.size]? = some IU:=heap_alloc_new _ _
 have hF:=hidden (And.intro s1 hb)
 clear s1 hb
 go_enter Tryz.func154,Tryz.ntmps154
 go_wp2_with (first
  | ((with_reducible apply Iq);exact hm0.out;simp only [Act.put,lsa,lsz,lss])
  | ((with_reducible apply Ji);(first | exact hm1.out | exact hm2.out | exact hm3.out | exact hm4.out | exact hm5.out | exact hm6.out);simp only [Act.put]))
 go_ret
 exact ⟨_,_,rfl,hF.out.1,_,rfl,hF.out.2⟩
theorem YQ (w:World) (o:Own):Calls Tryz.prog 51 #[] w (Ret Nobody w o fun v w' _o'=>∃ b,v = .map (some b)∧w'.heap[b]? = some HY):=by
 have hm0:=hidden (JB 103 _ Tryz.underlying103 w)
 have hm1:=hidden (CU 103 _ Tryz.underlying103 w #[] 0 1 (.func (.func 99) #[] #[]) rfl)
 have hm2:=hidden (CU 103 _ Tryz.underlying103 w #[⟨.int .u8 1, .func (.func 99) #[] #[],0⟩] 1 2 (.func (.func 100) #[] #[]) rfl)
 have hm3:=hidden (CU 103 _ Tryz.underlying103 w #[⟨.int .u8 1, .func (.func 99) #[] #[],0⟩,⟨.int .u8 2, .func (.func 100) #[] #[],1⟩] 2 3 (.func (.func 101) #[] #[]) rfl)
 have hm4:=hidden (CU 103 _ Tryz.underlying103 w #[⟨.int .u8 1, .func (.func 99) #[] #[],0⟩,⟨.int .u8 2, .func (.func 100) #[] #[],1⟩,⟨.int .u8 3, .func (.func 101) #[] #[],2⟩] 3 4 (.func (.func 102) #[] #[]) rfl)
 have hm5:=hidden (CU 103 _ Tryz.underlying103 w #[⟨.int .u8 1, .func (.func 99) #[] #[],0⟩,⟨.int .u8 2, .func (.func 100) #[] #[],1⟩,⟨.int .u8 3, .func (.func 101) #[] #[],2⟩,⟨.int .u8 4, .func (.func 102) #[] #[],3⟩] 4 5 (.func (.func 103) #[] #[]) rfl)
 have hm6:=hidden (CU 103 _ Tryz.underlying103 w #[⟨.int .u8 1, .func (.func 99) #[] #[],0⟩,⟨.int .u8 2, .func (.func 100) #[] #[],1⟩,⟨.int .u8 3, .func (.func 101) #[] #[],2⟩,⟨.int .u8 4, .func (.func 102) #[] #[],3⟩,⟨.int .u8 5, .func (.func 103) #[] #[],4⟩] 5 6 (.func (.func 104) #[] #[]) rfl)
 have s1:=(Step.refl Nobody w o).alloc HY (0,0)
 have hb:(w.alloc HY).heap[w.heap.size]? = some HY:=heap_alloc_new _ _
 have hF:=hidden (And.intro s1 hb)
 clear s1 hb
 go_enter Tryz.func51,Tryz.ntmps51
 go_wp2_with (first
  | ((with_reducible apply Iq);exact hm0.out;simp only [Act.put,lsa,lsz,lss])
  | ((with_reducible apply Ji);(first | exact hm1.out | exact hm2.out | exact hm3.out | exact hm4.out | exact hm5.out | exact hm6.out);simp only [Act.put]))
 go_ret
 exact ⟨_,_,rfl,hF.out.1,_,rfl,hF.out.2⟩
def Dz (n:Nat) (has:Bool):Bool:=decide (n = 0) || (has && decide (n ≤ 256))
theorem Du (n:Nat) (has:Bool) (w:World):Calls Tryz.prog 156 #[.int .i64 (n:Int), .bool has] w fun e w'=>e = .returned (.bool (Dz n has))∧w = w':=by
 by_cases h0:n = 0
 ·subst h0
  go_enter Tryz.func156,Tryz.ntmps156
  go_wp2
  go_ret
  exact ⟨rfl,rfl⟩
 ·have e0:((n:Int) == 0) = false:=by simp;omega
  have h1:(0:Int) < (n:Int):=by omega
  cases has with
  | false =>
   have hu:=hidden (show Dz n false = false by simp [Dz,h0])
   go_enter Tryz.func156,Tryz.ntmps156
   go_wp2
   go_ret
   exact ⟨by rw [hu.out];rfl,rfl⟩
  | true =>
   by_cases h2:n ≤ 256
   ·have h2I:(n:Int) ≤ 256:=by omega
    have hu:=hidden (show Dz n true = true by simp [Dz,h2])
    clear h0 h2
    go_enter Tryz.func156,Tryz.ntmps156
    go_wp2
    go_ret
    exact ⟨by rw [hu.out];rfl,rfl⟩
   ·have h2I:¬ (n:Int) ≤ 256:=by omega
    have hu:=hidden (show Dz n true = false by simp [Dz,h2];omega)
    clear h0 h2
    go_enter Tryz.func156,Tryz.ntmps156
    go_wp2
    go_ret
    exact ⟨by rw [hu.out];rfl,rfl⟩
def TE (m:BG):Bool:=
 kindOk m.k && (decide (1 ≤ m.e.toNat) && (decide (m.e.toNat ≤ 281474976710656) && ((decide (m.c.toNat = 0) || ((Dl m.k).1 && decide (m.c.toNat ≤ m.e.toNat))) && (Dz m.at' (Dl m.k).2.1 && (Dz m.com (Dl m.k).2.2.1 && (Dz m.ls.length (Dl m.k).2.2.2 && !m.ls.any (badL Ho)))))))
theorem Wh {x:Ar}:badL Ho x = false ↔ x.may:=by
 have ht:Ho.toNat = 281474976710656:=by decide
 unfold badL Ar.may
 rw [ht]
 simp only [Bool.or_eq_false_iff,decide_eq_false_iff_not]
 omega
theorem XJ {m:BG} (h:m.May):TE m = true:=by
 have hk1:=h.k1;have hk6:=h.k6;have he1:=h.e1;have he2:=h.e2;have hc1:=h.c1;have ha1:=h.a1;have ho1:=h.o1;have hn1:=h.n1
 have hb:m.ls.any (badL Ho) = false:=by
  rw [List.any_eq_false]
  intro x hx
  rw [Wh.2 (h.hl x hx)]
  decide
 have hc0:m.k ≠ 2→m.c.toNat = 0:=fun hk=>by rw [h.kc hk];rfl
 have hl0:m.k ≠ 2→m.k ≠ 4→m.k ≠ 5→m.ls.length = 0:=fun h2 h4 h5=>by rw [h.kl h2 h4 h5];rfl
 have hka:=h.ka
 have hko:=h.ko
 unfold TE Dz Dl kindOk
 rw [hb]
 simp only [Bool.and_eq_true,Bool.or_eq_true,decide_eq_true_eq,Bool.not_false]
 by_cases h2:m.k = 2
 ·have:=hko (by omega);have:=hka (by omega) (by omega)
  refine ⟨by omega,he1,he2, .inr ⟨h2,hc1⟩,by omega,by omega,by omega,trivial⟩
 ·have hcz:=hc0 h2
  by_cases h4:m.k = 4
  ·have:=hko (by omega);have:=hka (by omega) (by omega)
   refine ⟨by omega,he1,he2, .inl hcz,by omega,by omega,by omega,trivial⟩
  ·by_cases h5:m.k = 5
   ·refine ⟨by omega,he1,he2, .inl hcz,by omega,by omega,by omega,trivial⟩
   ·have:=hl0 h2 h4 h5;have:=hko h5
    by_cases h6:m.k = 6
    ·refine ⟨by omega,he1,he2, .inl hcz,by omega,by omega,by omega,trivial⟩
    ·have:=hka h5 h6
     refine ⟨by omega,he1,he2, .inl hcz,by omega,by omega,by omega,trivial⟩
theorem dK {m:BG} (h:TE m = true):m.May:=by
 unfold TE Dz Dl kindOk at h
 simp only [Bool.and_eq_true,Bool.or_eq_true,decide_eq_true_eq,Bool.not_eq_true'] at h
 obtain ⟨h1,h2,h3,h4,h5,h6,h7,h8⟩:=h
 refine ⟨by omega,by omega,h2,h3,by omega,by omega,by omega,by omega,fun x hx=>Wh.1 ?_,fun hk => ?_,fun hk=>by omega,fun h5 h6=>by omega,fun h2 h4 h5 => ?_⟩
 ·rw [List.any_eq_false] at h8
  have:=h8 x hx
  simpa using this
 ·apply BitVec.eq_of_toNat_eq
  have:m.c.toNat = 0:=by omega
  rw [this];rfl
 ·apply List.eq_nil_of_length_eq_zero;omega
theorem aJ {w:World} {o:Own} (x:Ar) (bv:Value) (hb:Bytes w o bv x.b) :
  Calls Tryz.prog 155 #[.agg #[.int .u64 (x.e.toNat:Int),bv]] w (Ret Nobody w o fun v _ _=>v = .bool (badL Ho x)):=by
 obtain ⟨ba,bc,rfl⟩:=Aq hb
 have s1:=(Step.refl Nobody w o).alloc (.cells #[.int .u64 (x.e.toNat:Int), .slice ba x.b.length bc] 36) (0,0)
 have b1:(w.alloc (.cells #[.int .u64 (x.e.toNat:Int), .slice ba x.b.length bc] 36)).heap[w.heap.size]? = some (.cells [.int .u64 (x.e.toNat:Int), .slice ba x.b.length bc].toArray 36 (0,0)):=heap_alloc_new w _
 have c0:=cell_of_block b1 0
 have c1:=cell_of_block b1 1
 simp only [List.getElem?_cons_zero,List.getElem?_cons_succ] at c0 c1
 have hsH:=hidden s1
 have ht:Ho.toNat = 281474976710656:=by decide
 have hu:badL Ho x = (decide (x.e.toNat < 1) || decide (281474976710656 < x.e.toNat) || decide (x.b.length < 1) || decide (4096 < x.b.length)):=by unfold badL;rw [ht]
 have huH:=hidden hu
 have he:=x.e.isLt
 generalize x.b.length = bl at *
 generalize x.e.toNat = xe at *
 clear s1 b1 hb hu ht
 by_cases h1:xe < 1
 ·have h1I:(xe:Int) < 1:=by omega
  go_enter Tryz.func155,Tryz.ntmps155
  go_wp2_with fail
  go_ret
  exact ⟨_,_,rfl,hsH.out,by rw [huH.out];simp [h1]⟩
 ·have h1I:¬ (xe:Int) < 1:=by omega
  by_cases h2:281474976710656 < xe
  ·have h2I:(281474976710656:Int) < (xe:Int):=by omega
   go_enter Tryz.func155,Tryz.ntmps155
   go_wp2_with fail
   go_ret
   exact ⟨_,_,rfl,hsH.out,by rw [huH.out];simp [h1,h2]⟩
  ·have h2I:¬ (281474976710656:Int) < (xe:Int):=by omega
   by_cases h3:bl < 1
   ·have h3I:(bl:Int) < 1:=by omega
    go_enter Tryz.func155,Tryz.ntmps155
    go_wp2_with fail
    go_ret
    exact ⟨_,_,rfl,hsH.out,by rw [huH.out];simp [h1,h2,h3]⟩
   ·have h3I:¬ (bl:Int) < 1:=by omega
    go_enter Tryz.func155,Tryz.ntmps155
    go_wp2_with fail
    go_ret
    exact ⟨_,_,rfl,hsH.out,by
     rw [huH.out]
     by_cases h4:4096 < bl
     ·have h4I:(4096:Int) < (bl:Int):=by omega
      simp [h1,h2,h3,h4,h4I]
     ·have h4I:¬ (4096:Int) < (bl:Int):=by omega
      simp [h1,h2,h3,h4,h4I]⟩
theorem Zo:((Tryz.prog.info? 219).bind (·.zero)).map (·.cells) = some #[.bool false, .bool false, .bool false, .bool false]:=by kernel_rfl
def jD (w:World) (b kb:Nat) (m:BG) (lv:Value) (h1 h2 h3 h4:Bool):Prop:=
 w.heap[b]? = some (.cells (Bf m lv).toArray 46 (0,0))∧w.heap[kb]? = some (.cells [.bool h1, .bool h2, .bool h3, .bool h4].toArray 219 (0,0))
theorem Uf {w:World} {o:Own} {base:Nat} (m:BG) {lv:Value} (hl:Lines w o base lv m.ls) (hn:m.ls.length ≤ 100000) :
  Calls Tryz.prog 98 #[Ea m lv] w (Ret Nobody w o fun v _ _=>v = .bool (TE m)):=by
 obtain ⟨la,lc,rfl⟩:=hl.form
 have hu:TE m = (kindOk m.k && (decide (1 ≤ m.e.toNat) && (decide (m.e.toNat ≤ 281474976710656) && ((decide (m.c.toNat = 0) || ((Dl m.k).1 && decide (m.c.toNat ≤ m.e.toNat))) && (Dz m.at' (Dl m.k).2.1 && (Dz m.com (Dl m.k).2.2.1 && (Dz m.ls.length (Dl m.k).2.2.2 && !m.ls.any (badL Ho)))))))):=rfl
 have hcells:Ku m.k = [.bool (Dl m.k).1, .bool (Dl m.k).2.1, .bool (Dl m.k).2.2.1, .bool (Dl m.k).2.2.2]:=rfl
 generalize (Dl m.k).1 = h1 at *
 generalize (Dl m.k).2.1 = h2 at *
 generalize (Dl m.k).2.2.1 = h3 at *
 generalize (Dl m.k).2.2.2 = h4 at *
 have hs1:=(Step.refl Nobody w o).alloc (.cells [.int .u8 (m.k:Int), .int .u64 (m.e.toNat:Int), .int .u64 (m.c.toNat:Int), .int .i64 (m.at':Int), .int .i64 (m.com:Int), .slice la m.ls.length lc].toArray 46) (0,0)
 have hb1:=hidden (heap_alloc_new w (.cells [.int .u8 (m.k:Int), .int .u64 (m.e.toNat:Int), .int .u64 (m.c.toNat:Int), .int .i64 (m.at':Int), .int .i64 (m.com:Int), .slice la m.ls.length lc].toArray 46))
 obtain ⟨W1,hW1⟩:∃ W1,w.alloc (.cells [.int .u8 (m.k:Int), .int .u64 (m.e.toNat:Int), .int .u64 (m.c.toNat:Int), .int .i64 (m.at':Int), .int .i64 (m.com:Int), .slice la m.ls.length lc].toArray 46) = W1:=⟨_,rfl⟩
 rw [hW1] at hs1 hb1
 generalize Ak o w.heap.size (0,0) = o1 at *
 have hl1:=hidden (hl.step hs1 (fun h=>h))
 have hs1:=hidden hs1
 have hS1:W1.drew.cell? ⟨w.heap.size,0,none⟩ = some (.int .u8 (m.k:Int)):=cell_of_block hb1.out 0
 have huH:=hidden hu
 have hcells:=hidden hcells
 have hW1H:=hidden hW1
 have hnH:=hidden hn
 clear hu hW1 hl hn
 unfold Ea
 go_enter Tryz.func98,Tryz.ntmps98
 go_wp2_with fail
 rw [hW1H.out]
 refine Jd (fun a0 a' w'=>∃ (g:Nat) (o':Own) (y1 y2 y3 y4 y5 y6 y7:Value),a' = Act.puts a0 [8,9,10,11,7,12,13,3,4] [y1,y2,y3,y4,y5,y6,y7, .pointer (some ⟨g,0,none⟩), .bool (kindOk m.k)]∧w'.heap[g]? = some (.cells [Value.bool h1, .bool h2, .bool h3, .bool h4].toArray 219 (0,0))∧w'.heap[w.heap.size]? = some (.cells [.int .u8 (m.k:Int), .int .u64 (m.e.toNat:Int), .int .u64 (m.c.toNat:Int), .int .i64 (m.at':Int), .int .i64 (m.com:Int), .slice la m.ls.length lc].toArray 46 (0,0))∧Step Nobody W1 o1 w' o') ?_ ?_
 ·refine Aa (fun w'=>w'.cell? ⟨w.heap.size,0,none⟩ = some (.int .u8 (m.k:Int))) (fun _=>true) (by kernel_rfl) hS1 (fun hHeld => ?_)
  have hB:=hb1.out
  have hJ:Step Nobody W1 o1 W1.drew o1:=(Step.refl Nobody W1 o1).drew
  replace hB:W1.drew.heap[w.heap.size]? = _:=hB
  obtain ⟨V,hV⟩:∃ V,W1.drew = V:=⟨_,rfl⟩
  rw [hV] at hHeld hB hJ ⊢
  clear hV
  refine tq 1 ?_ (hQ:=by exact fun _ _ _ h=>nomatch h.1)
  refine tq 2 ?_ (hQ:=by exact fun _ _ _ h=>nomatch h.1)
  refine Gm (i:=0) (j:=7) rfl rfl (by kernel_rfl) ?_ ?_
  ·go_wp2_with fail
   refine (RG V o1).mono ?_;rintro e v2 ⟨x2,p2,rfl,hs2,kb,rfl,hkm⟩
   have hB:=(hs2.block _ (lt_of_block hB) (fun h=>h)).trans hB
   have hJ:=hJ.trans hs2
   have hS2:=cell_of_block (i:=0) hB
   clear hs2
   go_wp2_with fail
   refine ⟨fun _=>hS2, ?_⟩
   refine Gm (i:=3) (j:=7) rfl rfl (by kernel_rfl) ?_ ?_
   ·have hlk:=hidden (IB hkm m.k)
    rw [hcells.out] at hlk
    refine DN hlk.out ?_
    refine wpList_nil ?_
    simp only [Act.put,lsa,lsz,lss]
    refine ⟨fun _=>hS2, ?_⟩
    refine tq 4 ?_ (hQ:=by exact fun _ _ _ h=>nomatch h.1)
    refine tq 5 ?_ (hQ:=by exact fun _ _ _ h=>nomatch h.1)
    refine tq 6 ?_ (hQ:=by exact fun _ _ _ h=>nomatch h.1)
    refine Ac (i:=7) rfl (by kernel_rfl) ?_
    have hal:=hidden (AB (P:=Tryz.prog) v2 219 _ Zo)
    have sA:=(Step.refl Nobody v2 p2).alloc (.cells #[.bool false, .bool false, .bool false, .bool false] 219) (0,0)
    have hgz:(v2.alloc (.cells #[.bool false, .bool false, .bool false, .bool false] 219)).heap[v2.heap.size]? = some (.cells [.bool false, .bool false, .bool false, .bool false].toArray 219 (0,0)):=heap_alloc_new v2 _
    have hgw:=hJ.size
    refine AU hal.out ?_
    refine wpList_nil ?_
    obtain ⟨v3,hw2⟩:∃ v3,v2.alloc (.cells #[.bool false, .bool false, .bool false, .bool false] 219) = v3:=⟨_,rfl⟩
    obtain ⟨p3,ho2⟩:∃ p3,Ak p2 v2.heap.size (0,0) = p3:=⟨_,rfl⟩
    rw [hw2] at hgz sA ⊢
    rw [ho2] at sA
    obtain ⟨g,hg⟩:∃ g,v2.heap.size = g:=⟨_,rfl⟩
    rw [hg] at hgz hgw ⊢
    have hkm:=(sA.block _ (lt_of_block hkm) (fun h=>h)).trans hkm
    have hB:=(sA.block _ (lt_of_block hB) (fun h=>h)).trans hB
    have hJ:=hJ.trans sA
    have hS3:=cell_of_block (i:=0) hB
    clear hal hw2 ho2 hg sA
    simp only [Act.put,lsa,lsz,lss]
    refine ⟨fun _=>hS3, ?_⟩
    refine Ac (i:=8) rfl (by kernel_rfl) ?_
    obtain ⟨hso,hsb⟩:=Ba (P:=Tryz.prog) (ty:=219) (vs:=[Value.bool h1, .bool h2, .bool h3, .bool h4]) hgz rfl (by kernel_rfl) rfl
    have hne:w.heap.size ≠ g:=by have:=lt_of_block hb1.out;omega
    have hB:=(heap_setCells_other _ [Value.bool h1, .bool h2, .bool h3, .bool h4] 0 v3 _ hne).trans hB
    have hJ:=hJ.setCells g 0 [Value.bool h1, .bool h2, .bool h3, .bool h4] (.inr hgw)
    have hS4:=cell_of_block (i:=0) hB
    refine AC hso ?_
    refine wpList_nil ?_
    simp only [Act.put]
    refine ⟨fun _=>hS4, ?_⟩
    refine tq 9 ?_ (hQ:=by exact fun _ _ _ h=>nomatch h.1)
    refine Ae (by kernel_rfl) ?_ _
    exact ⟨rfl,g,p3, .map (some kb), .pointer (some ⟨w.heap.size,0,none⟩), .int .u8 (m.k:Int), .tuple #[.agg #[.bool h1, .bool h2, .bool h3, .bool h4], .bool (kindOk m.k)], .tuple #[.agg #[.bool h1, .bool h2, .bool h3, .bool h4], .bool (kindOk m.k)], .agg #[.bool h1, .bool h2, .bool h3, .bool h4], .bool (kindOk m.k),by simp only [Act.puts,Act.put,lsa,lsz,lss],hsb,hB,hJ⟩
   ·have hal:=hidden (AB (P:=Tryz.prog) v2 219 _ Zo)
    have sA:=(Step.refl Nobody v2 p2).alloc (.cells #[.bool false, .bool false, .bool false, .bool false] 219) (0,0)
    have hgz:(v2.alloc (.cells #[.bool false, .bool false, .bool false, .bool false] 219)).heap[v2.heap.size]? = some (.cells [.bool false, .bool false, .bool false, .bool false].toArray 219 (0,0)):=heap_alloc_new v2 _
    have hgw:=hJ.size
    refine AU hal.out ?_
    refine wpList_nil ?_
    obtain ⟨v3,hw2⟩:∃ v3,v2.alloc (.cells #[.bool false, .bool false, .bool false, .bool false] 219) = v3:=⟨_,rfl⟩
    obtain ⟨p3,ho2⟩:∃ p3,Ak p2 v2.heap.size (0,0) = p3:=⟨_,rfl⟩
    rw [hw2] at hgz sA ⊢
    rw [ho2] at sA
    obtain ⟨g,hg⟩:∃ g,v2.heap.size = g:=⟨_,rfl⟩
    rw [hg] at hgz hgw ⊢
    have hkm:=(sA.block _ (lt_of_block hkm) (fun h=>h)).trans hkm
    have hB:=(sA.block _ (lt_of_block hB) (fun h=>h)).trans hB
    have hJ:=hJ.trans sA
    have hS3:=cell_of_block (i:=0) hB
    clear hal hw2 ho2 hg sA
    simp only [Act.put,lsa,lsz,lss]
    refine ⟨fun _=>hS3, ?_⟩
    refine Ac (i:=3) rfl (by kernel_rfl) ?_
    have hlk:=hidden (IB hkm m.k)
    rw [hcells.out] at hlk
    refine DN hlk.out ?_
    refine wpList_nil ?_
    simp only [Act.put,lsa,lsz,lss]
    refine ⟨fun _=>hS3, ?_⟩
    refine tq 4 ?_ (hQ:=by exact fun _ _ _ h=>nomatch h.1)
    refine tq 5 ?_ (hQ:=by exact fun _ _ _ h=>nomatch h.1)
    refine tq 6 ?_ (hQ:=by exact fun _ _ _ h=>nomatch h.1)
    refine Ac (i:=8) rfl (by kernel_rfl) ?_
    obtain ⟨hso,hsb⟩:=Ba (P:=Tryz.prog) (ty:=219) (vs:=[Value.bool h1, .bool h2, .bool h3, .bool h4]) hgz rfl (by kernel_rfl) rfl
    have hne:w.heap.size ≠ g:=by have:=lt_of_block hb1.out;omega
    have hB:=(heap_setCells_other _ [Value.bool h1, .bool h2, .bool h3, .bool h4] 0 v3 _ hne).trans hB
    have hJ:=hJ.setCells g 0 [Value.bool h1, .bool h2, .bool h3, .bool h4] (.inr hgw)
    have hS4:=cell_of_block (i:=0) hB
    refine AC hso ?_
    refine wpList_nil ?_
    simp only [Act.put]
    refine ⟨fun _=>hS4, ?_⟩
    refine tq 9 ?_ (hQ:=by exact fun _ _ _ h=>nomatch h.1)
    refine Ae (by kernel_rfl) ?_ _
    exact ⟨rfl,g,p3, .map (some kb), .pointer (some ⟨w.heap.size,0,none⟩), .int .u8 (m.k:Int), .tuple #[.agg #[.bool h1, .bool h2, .bool h3, .bool h4], .bool (kindOk m.k)], .tuple #[.agg #[.bool h1, .bool h2, .bool h3, .bool h4], .bool (kindOk m.k)], .agg #[.bool h1, .bool h2, .bool h3, .bool h4], .bool (kindOk m.k),by simp only [Act.puts,Act.put,lsa,lsz,lss],hsb,hB,hJ⟩
  ·have hal:=hidden (AB (P:=Tryz.prog) V 219 _ Zo)
   have sA:=(Step.refl Nobody V o1).alloc (.cells #[.bool false, .bool false, .bool false, .bool false] 219) (0,0)
   have hgz:(V.alloc (.cells #[.bool false, .bool false, .bool false, .bool false] 219)).heap[V.heap.size]? = some (.cells [.bool false, .bool false, .bool false, .bool false].toArray 219 (0,0)):=heap_alloc_new V _
   have hgw:=hJ.size
   refine AU hal.out ?_
   refine wpList_nil ?_
   obtain ⟨v2,hw2⟩:∃ v2,V.alloc (.cells #[.bool false, .bool false, .bool false, .bool false] 219) = v2:=⟨_,rfl⟩
   obtain ⟨p2,ho2⟩:∃ p2,Ak o1 V.heap.size (0,0) = p2:=⟨_,rfl⟩
   rw [hw2] at hgz sA ⊢
   rw [ho2] at sA
   obtain ⟨g,hg⟩:∃ g,V.heap.size = g:=⟨_,rfl⟩
   rw [hg] at hgz hgw ⊢
   have hB:=(sA.block _ (lt_of_block hB) (fun h=>h)).trans hB
   have hJ:=hJ.trans sA
   have hS2:=cell_of_block (i:=0) hB
   clear hal hw2 ho2 hg sA
   simp only [Act.put,lsa,lsz,lss]
   refine ⟨fun _=>hS2, ?_⟩
   refine Ac (i:=0) rfl (by kernel_rfl) ?_
   go_wp2_with fail
   refine (RG v2 p2).mono ?_;rintro e v3 ⟨x3,p3,rfl,hs3,kb,rfl,hkm⟩
   have hgz:=(hs3.block _ (lt_of_block hgz) (fun h=>h)).trans hgz
   have hB:=(hs3.block _ (lt_of_block hB) (fun h=>h)).trans hB
   have hJ:=hJ.trans hs3
   have hS3:=cell_of_block (i:=0) hB
   clear hs3
   go_wp2_with fail
   refine ⟨fun _=>hS3, ?_⟩
   refine Ac (i:=3) rfl (by kernel_rfl) ?_
   have hlk:=hidden (IB hkm m.k)
   rw [hcells.out] at hlk
   refine DN hlk.out ?_
   refine wpList_nil ?_
   simp only [Act.put,lsa,lsz,lss]
   refine ⟨fun _=>hS3, ?_⟩
   refine tq 4 ?_ (hQ:=by exact fun _ _ _ h=>nomatch h.1)
   refine tq 5 ?_ (hQ:=by exact fun _ _ _ h=>nomatch h.1)
   refine tq 6 ?_ (hQ:=by exact fun _ _ _ h=>nomatch h.1)
   refine Ac (i:=8) rfl (by kernel_rfl) ?_
   obtain ⟨hso,hsb⟩:=Ba (P:=Tryz.prog) (ty:=219) (vs:=[Value.bool h1, .bool h2, .bool h3, .bool h4]) hgz rfl (by kernel_rfl) rfl
   have hne:w.heap.size ≠ g:=by have:=lt_of_block hb1.out;omega
   have hB:=(heap_setCells_other _ [Value.bool h1, .bool h2, .bool h3, .bool h4] 0 v3 _ hne).trans hB
   have hJ:=hJ.setCells g 0 [Value.bool h1, .bool h2, .bool h3, .bool h4] (.inr hgw)
   have hS4:=cell_of_block (i:=0) hB
   refine AC hso ?_
   refine wpList_nil ?_
   simp only [Act.put]
   refine ⟨fun _=>hS4, ?_⟩
   refine tq 9 ?_ (hQ:=by exact fun _ _ _ h=>nomatch h.1)
   refine Ae (by kernel_rfl) ?_ _
   exact ⟨rfl,g,p3, .map (some kb), .pointer (some ⟨w.heap.size,0,none⟩), .int .u8 (m.k:Int), .tuple #[.agg #[.bool h1, .bool h2, .bool h3, .bool h4], .bool (kindOk m.k)], .tuple #[.agg #[.bool h1, .bool h2, .bool h3, .bool h4], .bool (kindOk m.k)], .agg #[.bool h1, .bool h2, .bool h3, .bool h4], .bool (kindOk m.k),by simp only [Act.puts,Act.put,lsa,lsz,lss],hsb,hB,hJ⟩
 rintro a4 W4 ⟨g,o4,y1,y2,y3,y4,y5,y6,y7,rfl,d4,b4,hs4⟩
 simp only [Act.puts,Act.put,lsa,lsz,lss]
 clear hcells
 have hl4:=hl1.out.step hs4 (fun h=>h)
 have stF:=hidden (hs1.out.trans hs4)
 have hct:=hidden (Jt hl4 hnH.out 155 #[] (badL Ho) Tryz.call155 (fun w1 o1 st x bv _ hby=>aJ x bv hby))
 have c1:=cell_of_block (i:=1) b4
 have c2:=cell_of_block (i:=2) b4
 have c3:=cell_of_block (i:=3) b4
 have c4:=cell_of_block (i:=4) b4
 have c5:=cell_of_block (i:=5) b4
 have d0:=cell_of_block (i:=0) d4
 have d1:=cell_of_block (i:=1) d4
 have d2:=cell_of_block (i:=2) d4
 have d3:=cell_of_block (i:=3) d4
 simp only [List.getElem?_cons_zero,List.getElem?_cons_succ] at c1 c2 c3 c4 c5 d0 d1 d2 d3
 have hce:=m.c.isLt
 have hee:=m.e.isLt
 clear b4 d4 hs4 hb1 hl1 hs1 hS1 hW1H hl4
 generalize m.e.toNat = e at *
 generalize m.c.toNat = c at *
 cases hok:kindOk m.k with
 | false =>
  go_wp2_with (first
   | (go_at_call 156;refine (Du _ _ _).mono ?_;rintro e' w' ⟨rfl,rfl⟩)
   | (go_at_call 83;refine hct.out.mono ?_;rintro e' w' ⟨v',o',rfl,hs',rfl⟩))
  go_ret
  exact ⟨_,o4,rfl,stF.out,by rw [huH.out];simp [hok]⟩
 | true =>
  by_cases he1:1 ≤ e
  ·have he1I:(1:Int) ≤ (e:Int):=by omega
   by_cases he2:e ≤ 281474976710656
   ·have he2I:(e:Int) ≤ 281474976710656:=by omega
    by_cases hc0:c = 0
    ·have hc0I:((c:Int) == 0) = true:=by simp [hc0]
     have hc0H:=hidden hc0
     clear hc0
     cases w0:Dz m.at' h2 with
     | false =>
      go_wp2_with (first
       | (go_at_call 156;refine (Du _ _ _).mono ?_;rintro e' w' ⟨rfl,rfl⟩)
       | (go_at_call 83;refine hct.out.mono ?_;rintro e' w' ⟨v',o',rfl,hs',rfl⟩))
      go_ret
      exact ⟨_,o4,rfl,stF.out,by rw [huH.out];simp [hok,he1,he2,hc0H.out,w0]⟩
     | true =>
      cases w1:Dz m.com h3 with
      | false =>
       go_wp2_with (first
        | (go_at_call 156;refine (Du _ _ _).mono ?_;rintro e' w' ⟨rfl,rfl⟩)
        | (go_at_call 83;refine hct.out.mono ?_;rintro e' w' ⟨v',o',rfl,hs',rfl⟩))
       go_ret
       exact ⟨_,o4,rfl,stF.out,by rw [huH.out];simp [hok,he1,he2,hc0H.out,w0,w1]⟩
      | true =>
       cases w2:Dz m.ls.length h4 with
       | false =>
        go_wp2_with (first
         | (go_at_call 156;refine (Du _ _ _).mono ?_;rintro e' w' ⟨rfl,rfl⟩)
         | (go_at_call 83;refine hct.out.mono ?_;rintro e' w' ⟨v',o',rfl,hs',rfl⟩))
        go_ret
        exact ⟨_,o4,rfl,stF.out,by rw [huH.out];simp [hok,he1,he2,hc0H.out,w0,w1,w2]⟩
       | true =>
        go_wp2_with (first
         | (go_at_call 156;refine (Du _ _ _).mono ?_;rintro e' w' ⟨rfl,rfl⟩)
         | (go_at_call 83;refine hct.out.mono ?_;rintro e' w' ⟨v',o',rfl,hs',rfl⟩))
        go_ret
        exact ⟨_,_,rfl,stF.out.trans hs',by rw [huH.out];simp [hok,he1,he2,hc0H.out,w0,w1,w2]⟩
    ·have hc0I:((c:Int) == 0) = false:=by simp [hc0]
     cases h1 with
     | false =>
      go_wp2_with (first
       | (go_at_call 156;refine (Du _ _ _).mono ?_;rintro e' w' ⟨rfl,rfl⟩)
       | (go_at_call 83;refine hct.out.mono ?_;rintro e' w' ⟨v',o',rfl,hs',rfl⟩))
      go_ret
      exact ⟨_,o4,rfl,stF.out,by rw [huH.out];simp [hok,he1,he2,hc0]⟩
     | true =>
      by_cases hce2:c ≤ e
      ·have hce2I:(c:Int) ≤ (e:Int):=by omega
       cases w0:Dz m.at' h2 with
       | false =>
        go_wp2_with (first
         | (go_at_call 156;refine (Du _ _ _).mono ?_;rintro e' w' ⟨rfl,rfl⟩)
         | (go_at_call 83;refine hct.out.mono ?_;rintro e' w' ⟨v',o',rfl,hs',rfl⟩))
        go_ret
        exact ⟨_,o4,rfl,stF.out,by rw [huH.out];simp [hok,he1,he2,hc0,hce2,w0]⟩
       | true =>
        cases w1:Dz m.com h3 with
        | false =>
         go_wp2_with (first
          | (go_at_call 156;refine (Du _ _ _).mono ?_;rintro e' w' ⟨rfl,rfl⟩)
          | (go_at_call 83;refine hct.out.mono ?_;rintro e' w' ⟨v',o',rfl,hs',rfl⟩))
         go_ret
         exact ⟨_,o4,rfl,stF.out,by rw [huH.out];simp [hok,he1,he2,hc0,hce2,w0,w1]⟩
        | true =>
         cases w2:Dz m.ls.length h4 with
         | false =>
          go_wp2_with (first
           | (go_at_call 156;refine (Du _ _ _).mono ?_;rintro e' w' ⟨rfl,rfl⟩)
           | (go_at_call 83;refine hct.out.mono ?_;rintro e' w' ⟨v',o',rfl,hs',rfl⟩))
          go_ret
          exact ⟨_,o4,rfl,stF.out,by rw [huH.out];simp [hok,he1,he2,hc0,hce2,w0,w1,w2]⟩
         | true =>
          go_wp2_with (first
           | (go_at_call 156;refine (Du _ _ _).mono ?_;rintro e' w' ⟨rfl,rfl⟩)
           | (go_at_call 83;refine hct.out.mono ?_;rintro e' w' ⟨v',o',rfl,hs',rfl⟩))
          go_ret
          exact ⟨_,_,rfl,stF.out.trans hs',by rw [huH.out];simp [hok,he1,he2,hc0,hce2,w0,w1,w2]⟩
      ·have hce2I:¬ (c:Int) ≤ (e:Int):=by omega
       go_wp2_with (first
        | (go_at_call 156;refine (Du _ _ _).mono ?_;rintro e' w' ⟨rfl,rfl⟩)
        | (go_at_call 83;refine hct.out.mono ?_;rintro e' w' ⟨v',o',rfl,hs',rfl⟩))
       go_ret
       exact ⟨_,o4,rfl,stF.out,by rw [huH.out];simp [hok,he1,he2,hc0,hce2]⟩
   ·have he2I:¬ (e:Int) ≤ 281474976710656:=by omega
    go_wp2_with (first
     | (go_at_call 156;refine (Du _ _ _).mono ?_;rintro e' w' ⟨rfl,rfl⟩)
     | (go_at_call 83;refine hct.out.mono ?_;rintro e' w' ⟨v',o',rfl,hs',rfl⟩))
    go_ret
    exact ⟨_,o4,rfl,stF.out,by rw [huH.out];simp [hok,he1,he2]⟩
  ·have he1I:¬ (1:Int) ≤ (e:Int):=by omega
   go_wp2_with (first
    | (go_at_call 156;refine (Du _ _ _).mono ?_;rintro e' w' ⟨rfl,rfl⟩)
    | (go_at_call 83;refine hct.out.mono ?_;rintro e' w' ⟨v',o',rfl,hs',rfl⟩))
   go_ret
   exact ⟨_,o4,rfl,stF.out,by rw [huH.out];simp [hok,he1]⟩
def Yd (l:List (BitVec 64)):List Value:=l.map fun x => .int .u64 (x.toNat:Int)
theorem fU (w:World) (a b c d e:Int):(Instr.buildSlice 165 5 #[(0, .int .u64 a),(1, .int .u64 b),(2, .int .u64 c),(3, .int .u64 d),(4, .int .u64 e)]).run Tryz.prog w = .ok (.slice (some ⟨w.heap.size,0,none⟩) 5 5) (w.alloc (.cells #[.int .u64 a, .int .u64 b, .int .u64 c, .int .u64 d, .int .u64 e] 34)):=by kernel_rfl
theorem NK {m:BG} (h:m.May):(encs m.ls).length ≤ 1060000:=by
 rw [Ej]
 have h1:=h.n1
 have h2:=Ze (ls:=m.ls) (fun x hx=>(h.hl x hx).2.2)
 omega
theorem Ip {w:World} {b off:Nat} {cs:List Value} (hr:w.rangeAt b off cs) (hl:cs.length = 6):(Instr.loadAt 46 (.pointer (some ⟨b,off,none⟩))).run Tryz.prog w = .ok (.agg cs.toArray) w:=by
 simp only [Instr.loadAt,Instr.sureAddr,Sem.run_bind,Sem.run_pure,Result.andThen_ok]
 match cs,hl with
 | [a,b',c,d,e,g],_=>exact run_loadVar_mid w b off 46 [a,b',c,d,e,g] _ hr Tryz.underlying46 rfl (by kernel_rfl)
theorem Ue {w:World} {o:Own} {base:Nat} (m:BG) (hm:m.May) {lv:Value} (hl:Lines w o base lv m.ls) :
  Calls Tryz.prog 53 #[Ea m lv] w (Ret Nobody w o fun v w' o'=>∃ bv,v = .tuple #[bv, .int .i64 0]∧Ew w w' o' bv m.put):=by
 have hlen:=NK hm
 have hn1:=hm.n1
 obtain ⟨la,lc,rfl⟩:=hl.form
 obtain ⟨n,hn⟩:∃ n,m.ls.length = n:=⟨_,rfl⟩
 have hmB:=XJ hm
 have ha1:(0:Int) ≤ (m.at':Int)∧(m.at':Int) ≤ 256:=by have:=hm.a1;omega
 have ho1:(0:Int) ≤ (m.com:Int)∧(m.com:Int) ≤ 256:=by have:=hm.o1;omega
 have hnI:(0:Int) ≤ (n:Int)∧(n:Int) ≤ 256:=by omega
 have hkI:(0:Int) ≤ (m.k:Int)∧(m.k:Int) ≤ 6:=by have:=hm.k6;omega
 have hk8:(UInt8.ofNat m.k).toNat = m.k:=by rw [UInt8.toNat_ofNat',Nat.mod_eq_of_lt (by have:=hm.k6;omega)]
 have ea:((BitVec.ofNat 64 m.at').toNat:Int) = (m.at':Int):=by rw [BitVec.toNat_ofNat,Nat.mod_eq_of_lt (by have:=hm.a1;omega)]
 have eo:((BitVec.ofNat 64 m.com).toNat:Int) = (m.com:Int):=by rw [BitVec.toNat_ofNat,Nat.mod_eq_of_lt (by have:=hm.o1;omega)]
 have en:((BitVec.ofNat 64 n).toNat:Int) = (n:Int):=by rw [BitVec.toNat_ofNat,Nat.mod_eq_of_lt (by omega)]
 rw [hn] at hl ⊢
 have hs1:=(Step.refl Nobody w o).alloc (.cells [.int .u8 (m.k:Int), .int .u64 (m.e.toNat:Int), .int .u64 (m.c.toNat:Int), .int .i64 (m.at':Int), .int .i64 (m.com:Int), .slice la n lc].toArray 46) (0,0)
 have hb1:=heap_alloc_new w (.cells [.int .u8 (m.k:Int), .int .u64 (m.e.toNat:Int), .int .u64 (m.c.toNat:Int), .int .i64 (m.at':Int), .int .i64 (m.com:Int), .slice la n lc].toArray 46)
 obtain ⟨W1,hW1⟩:∃ W1,w.alloc (.cells [.int .u8 (m.k:Int), .int .u64 (m.e.toNat:Int), .int .u64 (m.c.toNat:Int), .int .i64 (m.at':Int), .int .i64 (m.com:Int), .slice la n lc].toArray 46) = W1:=⟨_,rfl⟩
 rw [hW1] at hs1 hb1
 generalize Ak o w.heap.size (0,0) = o1 at *
 have hl1:=hl.step hs1 (fun h=>h)
 have hld1:=hidden (Ip (AV hb1) rfl)
 have hmy:=Uf m (lv := .slice la n lc) hl1 (by omega)
 rw [hmB] at hmy
 have hmyH:=hidden hmy
 have hW1H:=hidden hW1
 have hbl:=hidden (lt_of_block hb1)
 have hbH:=hidden hb1
 have hs1H:=hidden hs1
 have hlH:=hidden hl1
 have hnH:=hidden hn
 have hlenH:=hidden hlen
 have hn1H:=hidden hn1
 have hk8H:=hidden hk8
 have hva:=hidden (And.intro ea (And.intro eo en))
 clear hl hs1 hb1 hW1 hl1 hmB hm hlen hk8 ea eo en hmy hn hn1
 unfold Ea at hmyH ⊢
 go_enter Tryz.func53,Tryz.ntmps53
 go_wp2_with ((with_reducible apply Bo);rw [hW1H.out];exact hld1.out;simp only [Act.put,lsa,lsz,lss])
 refine hmyH.out.mono ?_;rintro e W2 ⟨v2,o2,rfl,hs2,rfl⟩
 have hb2:=(hs2.block _ hbl.out (fun h=>h)).trans hbH.out
 have hl2:=hidden (hlH.out.step hs2 (fun h=>h))
 have st2:=hidden (hs1H.out.trans hs2)
 have c0:=cell_of_block (i:=0) hb2
 simp only [List.getElem?_cons_zero] at c0
 have hb2H:=hidden hb2
 have hby:=IG (Bytes.nil W2 o2) (by simp) (UInt8.ofNat m.k)
 rw [hk8H.out] at hby
 have hbyH:=hidden hby
 clear hmyH hby hs2 hb2 hlH hs1H hbH hld1 hW1H
 go_wp2_with fail
 refine hbyH.out.mono ?_;rintro e W3 ⟨v3,o3,rfl,hs3,hnb3⟩
 have hb3:=(hs3.block _ (lt_of_block hb2H.out) (fun h=>h)).trans hb2H.out
 have hl3:=hidden (hl2.out.step hs3 (fun h=>h))
 have st3:=st2.out.trans hs3
 have c1:=cell_of_block (i:=1) hb3
 have c2:=cell_of_block (i:=2) hb3
 have c3:=cell_of_block (i:=3) hb3
 have c4:=cell_of_block (i:=4) hb3
 have c5:=cell_of_block (i:=5) hb3
 simp only [List.getElem?_cons_zero,List.getElem?_cons_succ] at c1 c2 c3 c4 c5
 obtain ⟨vals,hvals⟩:∃ l,[m.e,m.c,BitVec.ofNat 64 m.at',BitVec.ofNat 64 m.com,BitVec.ofNat 64 n] = l:=⟨_,rfl⟩
 have hbs:=fU W3 (m.e.toNat:Int) (m.c.toNat:Int) (m.at':Int) (m.com:Int) (n:Int)
 have hu : #[Value.int .u64 (m.e.toNat:Int), .int .u64 (m.c.toNat:Int), .int .u64 (m.at':Int), .int .u64 (m.com:Int), .int .u64 (n:Int)] = (Yd vals).toArray:=by
  rw [←hvals, ←hva.out.1, ←hva.out.2.1, ←hva.out.2.2];rfl
 rw [hu] at hbs
 have hvl:vals.length = 5:=by rw [←hvals];rfl
 have hsb:=(Step.refl Nobody W3 o3).alloc (.cells (Yd vals).toArray 34) (0,0)
 have hgb:(W3.alloc (.cells (Yd vals).toArray 34)).heap[W3.heap.size]? = some (.cells (Yd vals).toArray 34 (0,0)):=heap_alloc_new W3 _
 have hnb4:=((hnb3.low (st2.out.size)).step hsb (fun h=>h))
 have st4:=st3.trans hsb
 have hb4:=hidden ((hsb.block _ (lt_of_block hb3) (fun h=>h)).trans hb3)
 have hl4:=hidden (hl3.out.step hsb (fun h=>h))
 obtain ⟨W4,hW4⟩:∃ W4,W3.alloc (.cells (Yd vals).toArray 34) = W4:=⟨_,rfl⟩
 rw [hW4] at hbs hgb hnb4 st4 hb4 hl4
 obtain ⟨gb,hgbE⟩:∃ gb,W3.heap.size = gb:=⟨_,rfl⟩
 rw [hgbE] at hbs hgb hnb4 st4 hl4
 generalize Ak o3 gb (0,0) = o4 at *
 have hbsH:=hidden hbs
 have hgbH:=hidden hgb
 have hvalsH:=hidden hvals
 have hvlH:=hidden hvl
 have hnb4:Ew w W4 o4 v3 (UInt8.ofNat m.k :: (vals.take 0).flatMap (be 8)):=hnb4
 clear hsb hbs hgb hu hs3 hb3 hW4 hgbE st3 hnb3 hvals hvl hb2H hl2 hl3 hbyH c0 st2
 go_wp2_with ((with_reducible apply BO #[(0, .int .u64 (m.e.toNat:Int)),(1, .int .u64 (m.c.toNat:Int)),(2, .int .u64 (m.at':Int)),(3, .int .u64 (m.com:Int)),(4, .int .u64 (n:Int))] rfl);exact hbsH.out;simp only [Act.put,lsa,lsz,lss])
 clear hbsH c1 c2 c3 c4 c5
 go_loopw [4,31] (fun bv i wr=>∃ (k:Nat) (oj:Own),k ≤ 5∧i = .int .i64 k∧Step Nobody W4 o4 wr oj∧Ew w wr oj bv (UInt8.ofNat m.k :: (vals.take k).flatMap (be 8))) (fun _ i _=>5 - (intOf i).toNat)
 case atStart=>exact ⟨0,o4,by omega,rfl,Step.refl _ _ _,hnb4⟩
 case round =>
  clear hnb4
  obtain ⟨k,oj,hk,rfl,hst,hnb⟩:=hrel
  have hstH:=hidden hst
  by_cases hlt:k < 5
  ·obtain ⟨x,hx⟩:∃ x,vals[k]? = some x:=⟨_,List.getElem?_eq_getElem (by rw [hvlH.out];exact hlt)⟩
   have hgr:=(hst.block _ (lt_of_block hgbH.out) (fun h=>h)).trans hgbH.out
   have cg:wr.cell? ⟨gb,k,none⟩ = some (.int .u64 (x.toNat:Int)):=by
    rw [cell_of_block hgr]
    simp [Yd,hx]
   have hsn:=hidden (show (vals.take (k + 1)).flatMap (be 8) = (vals.take k).flatMap (be 8) ++ be 8 x by rw [List.take_add_one,hx];simp)
   have hlk:((vals.take k).flatMap (be 8)).length ≤ 40:=by
    have:∀ l:List (BitVec 64),(l.flatMap (be 8)).length = 8 * l.length:=fun l=>by
     induction l with
     | nil=>rfl
     | cons a r ih=>simp only [List.flatMap_cons,List.length_append,Az,ih,List.length_cons];omega
    rw [this,List.length_take];omega
   have hwu:=hidden (Ef hnb.bytes (by simp only [List.length_cons];omega) x)
   have hszH:=hidden hst.size
   clear hx hgr hlk hst hnb
   go_wp2_with fail
   refine hwu.out.mono ?_;rintro e W5 ⟨v5,o5,rfl,hs5,hnb5⟩
   have hF:=hidden (And.intro (hstH.out.trans hs5) ((hnb5.low (Nat.le_trans st4.size hszH.out)).congr (l':=UInt8.ofNat m.k :: (vals.take (k + 1)).flatMap (be 8)) (by rw [hsn.out];rfl)))
   clear hs5 hnb5 hwu
   go_wp2_with fail
   go_roundw
   case rel=>exact ⟨k + 1,o5,by omega,by go_num,hF.out.1,hF.out.2⟩
   case measure=>simp [intOf];omega
  ·obtain rfl:k = 5:=by omega
   have hb5:=(hst.block _ (lt_of_block hb4.out) (fun h=>h)).trans hb4.out
   have c5:=cell_of_block (i:=5) hb5
   simp only [List.getElem?_cons_zero,List.getElem?_cons_succ] at c5
   obtain ⟨P,hP⟩:∃ P,UInt8.ofNat m.k :: (vals.take 5).flatMap (be 8) = P:=⟨_,rfl⟩
   rw [hP] at hnb
   have hPl:P.length ≤ 41:=by rw [←hP, ←hvalsH.out];simp [Az]
   have hfin:m.put = P ++ encs m.ls:=by
    rw [←hP, ←hvalsH.out, ←hnH.out]
    simp [BG.put,GR]
   have hl5:=hidden (hl4.out.step hst (fun h=>h))
   have st5:=hidden (st4.trans hst)
   have hPlH:=hidden hPl
   have hfinH:=hidden hfin
   have hallH:=hidden (show m.ls.take n = m.ls from List.take_of_length_le (by rw [hnH.out];exact Nat.le_refl _))
   have h5I:¬ ((5:Nat):Int) < 5:=by omega
   clear hst hstH hb5 hP hPl hfin hb4 hl4 hlt hk
   go_wp2_with fail
   obtain ⟨w5,hw5⟩:∃ w5,wr = w5:=⟨_,rfl⟩
   rw [hw5] at hnb hl5 st5 c5 ⊢
   clear hw5
   go_loopw [4,42] (fun bv i wr=>∃ (k:Nat) (oz:Own),k ≤ n∧i = .int .i64 k∧Step Nobody w5 oj wr oz∧Ew w wr oz bv (P ++ encs (m.ls.take k))) (fun _ i _=>n - (intOf i).toNat)
   case atStart=>exact ⟨0,oj,by omega,rfl,Step.refl _ _ _,hnb.congr (by simp [encs])⟩
   case round =>
    clear hnb
    obtain ⟨k,oz,hk,rfl,hst,hnb⟩:=hrel
    by_cases hlt:k < n
    ·obtain ⟨x,hx⟩:∃ x,m.ls[k]? = some x:=⟨_,List.getElem?_eq_getElem (by rw [hnH.out];exact hlt)⟩
     obtain ⟨b,off,xv,hab,hrg,hby, -, -, -⟩:=(hl5.out.step hst (fun h=>h)).at hx
     subst hab
     have hld:=hidden (TG hrg)
     have hal:=hidden (AB (P:=Tryz.prog) wr 36 _ eY)
     have hsw:=Be wr #[.int .u64 0, .slice none 0 0] 36 [.int .u64 (x.e.toNat:Int),xv] rfl
     have h1c:[Value.int .u64 (x.e.toNat:Int),xv].all (·.oneCell') = true:=by obtain ⟨xa,xc,rfl⟩:=Aq hby;rfl
     obtain ⟨hso, -⟩:=Ba (P:=Tryz.prog) (ty:=36) (vs:=[.int .u64 (x.e.toNat:Int),xv]) (heap_alloc_new wr (.cells [.int .u64 0, .slice none 0 0].toArray 36)) rfl (by kernel_rfl) h1c
     rw [hsw] at hso
     have hsoH:=hidden hso
     have hsa:=(Step.refl Nobody wr oz).alloc (.cells [Value.int .u64 (x.e.toNat:Int),xv].toArray 36) (0,0)
     have hab:(wr.alloc (.cells [Value.int .u64 (x.e.toNat:Int),xv].toArray 36)).heap[wr.heap.size]? = some (.cells [Value.int .u64 (x.e.toNat:Int),xv].toArray 36 (0,0)):=heap_alloc_new wr _
     have hby:=hby.step hsa (fun h=>h)
     have hnb:=hnb.step hsa (fun h=>h)
     have hst:=hst.trans hsa
     have hszr:=hst.size
     obtain ⟨ab,habE⟩:∃ ab,wr.heap.size = ab:=⟨_,rfl⟩
     obtain ⟨W1,hW1⟩:∃ W1,wr.alloc (.cells [Value.int .u64 (x.e.toNat:Int),xv].toArray 36) = W1:=⟨_,rfl⟩
     rw [hW1] at hsoH hab hby hnb hst hszr
     rw [habE] at hab hby hnb hst
     generalize Ak oz ab (0,0) = O1 at *
     have hsn:encs (m.ls.take (k + 1)) = encs (m.ls.take k) ++ x.enc:=by rw [List.take_add_one,hx];exact KU _ _
     have hle:=Hf m.ls (k + 1)
     rw [hsn,List.length_append,Jj] at hle
     have hle2:P.length + (encs (m.ls.take k)).length + 12 + x.b.length ≤ 1100000:=by have:=hPlH.out;have:=hlenH.out;omega
     obtain ⟨pre,hpre⟩:∃ pre,P ++ encs (m.ls.take k) = pre:=⟨_,rfl⟩
     have hprel:pre.length = P.length + (encs (m.ls.take k)).length:=by rw [←hpre,List.length_append]
     rw [hpre] at hnb
     have hbyH:=hidden hby
     have habH:=hidden habE
     have hfinX:=hidden (show P ++ encs (m.ls.take (k + 1)) = pre ++ x.enc by rw [hsn, ←hpre,List.append_assoc])
     have hlenX:=hidden (show pre.length + 12 + x.b.length ≤ 1100000 by omega)
     clear hsw hso hrg hsa habE hW1 hsn hle hle2 hpre hprel h1c hby hx c5
     have c0:W1.cell? ⟨ab,0,none⟩ = some (.int .u64 (x.e.toNat:Int)):=cell_of_block hab 0
     have c1:W1.cell? ⟨ab,1,none⟩ = some xv:=cell_of_block hab 1
     go_wp2_with (first
      | ((with_reducible apply Bo);exact hld.out;simp only [Act.put,lsa,lsz,lss])
      | ((with_reducible apply AU);exact hal.out;simp only [Act.put,lsa,lsz,lss])
      | ((with_reducible apply AC);exact hsoH.out;simp only [Act.put]))
     rw [habH.out]
     clear hld hal hsoH habH
     refine Aa (fun w'=>w'.cell? ⟨ab,0,none⟩ = some (.int .u64 (x.e.toNat:Int))∧w'.cell? ⟨ab,1,none⟩ = some xv) (fun _=>true) (by kernel_rfl) ⟨c0,c1⟩ (fun hHeld => ?_)
     refine tq 0 ?_
     refine tq 1 ?_
     refine tq 2 ?_
     refine tq 4 ?_
     refine tq 5 ?_
     refine Ac (i:=3) rfl (by kernel_rfl) ?_
     go_wp2_with fail
     have hdr:=(Step.refl Nobody W1 O1).drew
     refine (Ef (hnb.step hdr (fun h=>h)).bytes (by have:=hlenX.out;omega) x.e).mono ?_;rintro e w2 ⟨v2,o2,rfl,hs2,hnb2⟩
     have hs2:=hdr.trans hs2
     have hab2:=(hs2.block ab (lt_of_block hab) (fun h=>h)).trans hab
     have hS2:=And.intro (cell_of_block (i:=0) hab2) (cell_of_block (i:=1) hab2)
     have hby2:=hidden (hbyH.out.step hs2 (fun h=>h))
     have hst:=hst.trans hs2
     clear hs2 hdr hHeld
     go_wp2_with fail
     refine ⟨fun _=>hS2, ?_⟩
     refine Ac (i:=6) rfl (by kernel_rfl) ?_
     go_wp2_with fail
     refine (QZ hnb2.bytes hby2.out (by rw [List.length_append,Az];have:=hlenX.out;omega) (by have:=hlenX.out;omega)).mono ?_;rintro e w3 ⟨v3,o3,rfl,hs3,hnb3⟩
     have hab3:=(hs3.block ab (lt_of_block hab2) (fun h=>h)).trans hab2
     have hS3:=And.intro (cell_of_block (i:=0) hab3) (cell_of_block (i:=1) hab3)
     have hnbF:=(hnb3.low (Nat.le_trans st5.out.size hst.size)).congr (l':=P ++ encs (m.ls.take (k + 1))) (by rw [hfinX.out];simp [Ar.enc])
     have hst:=hst.trans hs3
     clear hs3 hnb3 hnb2 hS2
     go_wp2_with fail
     refine ⟨fun _=>hS3, ?_⟩
     refine tq 7 ?_
     refine Ae (by kernel_rfl) ?_ _
     clear hS3 hab hab2 hab3 c0 c1 hnb
     go_wp2_with fail
     go_roundw
     case rel=>exact ⟨k + 1,o3,by omega,by go_num,hst,hnbF⟩
     case measure=>simp [intOf];omega
    ·obtain rfl:n = k:=by omega
     rw [hallH.out] at hnb
     have hnb:=hnb.congr hfinH.out.symm
     go_wp2_with fail
     go_ret2
     exact ⟨_,oz,rfl,st5.out.trans hst,_,rfl,hnb⟩
def Jn (l:List UInt8):Option BG:=if (QN l).2.done = 0 then if TE (QN l).1 = true then some (QN l).1 else none else none
theorem ET {m:BG} (h:m.May):Jn m.put = some m:=by
 unfold Jn
 rw [aH h]
 rw [if_pos (by rfl),if_pos (XJ h)]
theorem VH {l:List UInt8} {m:BG} (h:Jn l = some m):m.May:=by
 unfold Jn at h
 split at h
 ·split at h
  ·rename_i h2;cases h;exact dK h2
  ·cases h
 ·cases h
def iL (base:Nat) (g:Option BG) (r:Value) (w':World) (o':Own):Prop:=
 (∀ m,g = some m→∃ lv,r = .tuple #[Ea m lv, .int .i64 0]∧Lines w' o' base lv m.ls)∧(g = none→r = .tuple #[Ea ⟨0,0,0,0,0,[]⟩ (.slice none 0 0), .int .i64 2])
theorem Oa:((Tryz.prog.info? 46).bind (·.zero)).map (·.cells) = some #[.int .u8 0, .int .u64 0, .int .u64 0, .int .i64 0, .int .i64 0, .slice none 0 0]:=by kernel_rfl
theorem FT:(Tryz.prog.info? 46).map (·.size) = some 6:=by kernel_rfl
def DI:List Value:=[.int .u8 0, .int .u64 0, .int .u64 0, .int .i64 0, .int .i64 0, .slice none 0 0]
def QY (w:World) (o:Own) (Y b:Nat) (m:BG) (lv:Value):Prop:=w.heap[b]? = some (.cells (Bf m lv).toArray 46 (0,0))∧o b = (Y,0)
theorem QY.step {T:Nat→Prop} {w w':World} {o o':Own} {Y b:Nat} {m:BG} {lv:Value} (h:QY w o Y b m lv) (s:Step T w o w' o') (hY:¬ T Y):QY w' o' Y b m lv:=by
 have hl:=lt_of_block h.1
 exact ⟨by rw [s.block b hl (by rw [h.2];exact hY)];exact h.1,by rw [s.own b hl];exact h.2⟩
theorem QY.c5 {w:World} {o:Own} {Y b:Nat} {m:BG} {lv:Value} (h:QY w o Y b m lv):w.cell? ⟨b,5,none⟩ = some lv:=cell_of_block h.1 5
theorem Gt {w:World} {b:Nat} {m:BG} {lv:Value} {E:TypeId} {fr:Nat × Nat} (h:w.heap[b]? = some (.cells (Bf m lv).toArray E fr)) :
  w.cell? ⟨b,0,none⟩ = some (.int .u8 (m.k:Int))∧w.cell? ⟨b,1,none⟩ = some (.int .u64 (m.e.toNat:Int))∧w.cell? ⟨b,2,none⟩ = some (.int .u64 (m.c.toNat:Int))∧w.cell? ⟨b,3,none⟩ = some (.int .i64 (m.at':Int))∧w.cell? ⟨b,4,none⟩ = some (.int .i64 (m.com:Int))∧w.cell? ⟨b,5,none⟩ = some lv:=by
 have c:=cell_of_block h
 exact ⟨c 0,c 1,c 2,c 3,c 4,c 5⟩
theorem QY.free {w:World} {o:Own} {Y b:Nat} {m:BG} {lv:Value} (h:QY w o Y b m lv) (i:Nat):w.frozen? ⟨b,i,none⟩ = false:=Ap h.1 i
theorem Zf (w:World) (e:Int) (bv:Value):(Instr.buildSlice 32 1 #[(0, .agg #[.int .u64 e,bv])]).run Tryz.prog w = .ok (.slice (some ⟨w.heap.size,0,none⟩) 1 1) (w.alloc (.cells [.int .u64 e,bv].toArray 36)):=
 Dv w 32 36 [.int .u64 0, .slice none 0 0] (.agg #[.int .u64 e,bv]) [.int .u64 e,bv] Tryz.underlying32 (by kernel_rfl) rfl (by simp) (by simp) rfl
theorem Ug {w:World} {o:Own} {v:Value} {l:List UInt8} (h:Bytes w o v l) (hl:l.length ≤ 1000000) :
  Calls Tryz.prog 50 #[v] w (Ret Nobody w o fun r w' o'=>iL w.heap.size (Jn l) r w' o'):=by
 obtain ⟨M, -,hM⟩:=EZ o 0 w.heap.size
 have hg:Jn l = if (QN l).2.done = 0 then if TE (QN l).1 = true then some (QN l).1 else none else none:=rfl
 have l0:=RdM.EC 1 (RdM.mk l false)
 have hR:QN l = (⟨((RdM.mk l false).num 1).1.toNat % 256,(((RdM.mk l false).num 1).2.num 8).1,((((RdM.mk l false).num 1).2.num 8).2.num 8).1,(((((RdM.mk l false).num 1).2.num 8).2.num 8).2.count 256).1,((((((RdM.mk l false).num 1).2.num 8).2.num 8).2.count 256).2.count 256).1,((((((RdM.mk l false).num 1).2.num 8).2.num 8).2.count 256).2.count 256).2.lines.1⟩,((((((RdM.mk l false).num 1).2.num 8).2.num 8).2.count 256).2.count 256).2.lines.2):=rfl
 obtain ⟨q0,h0⟩:∃ q,(RdM.mk l false).num 1 = q:=⟨_,rfl⟩
 rw [h0] at hR l0
 have l1:=RdM.EC 8 q0.2
 obtain ⟨q1,h1⟩:∃ q,q0.2.num 8 = q:=⟨_,rfl⟩
 rw [h1] at hR l1
 have l2:=RdM.EC 8 q1.2
 obtain ⟨q2,h2⟩:∃ q,q1.2.num 8 = q:=⟨_,rfl⟩
 rw [h2] at hR l2
 have l3:=RdM.IW 256 q2.2
 obtain ⟨q3,h3⟩:∃ q,q2.2.count 256 = q:=⟨_,rfl⟩
 rw [h3] at hR l3
 have l4:=RdM.IW 256 q3.2
 obtain ⟨q4,h4⟩:∃ q,q3.2.count 256 = q:=⟨_,rfl⟩
 rw [h4] at hR l4
 have l5:=RdM.IW 256 q4.2
 have hln:q4.2.lines = Ce (q4.2.count 256).1 (q4.2.count 256).2:=rfl
 obtain ⟨q5,h5⟩:∃ q,q4.2.count 256 = q:=⟨_,rfl⟩
 rw [h5] at hln l5
 rw [hln] at hR
 obtain ⟨kb,hkb⟩:∃ kb,q0.1.toNat % 256 = kb:=⟨_,rfl⟩
 rw [hkb] at hR
 have hll:(RdM.mk l false).b.length ≤ 1000000:=hl
 have b0:q0.2.b.length ≤ 1000000:=by omega
 have b1:q1.2.b.length ≤ 1000000:=by omega
 have b2:q2.2.b.length ≤ 1000000:=by omega
 have b3:q3.2.b.length ≤ 1000000:=by omega
 have b4:q4.2.b.length ≤ 1000000:=by omega
 have b5:q5.2.b.length ≤ 1000000:=by omega
 obtain ⟨N,hN⟩:∃ N,q5.1 = N:=⟨_,rfl⟩
 rw [hN] at hR l5
 have hNI:(0:Int) ≤ (N:Int)∧(N:Int) ≤ 256:=by omega
 obtain ⟨MM,hMM⟩:∃ f:List Ar→BG,∀ ls,f ls = ⟨kb,q1.1,q2.1,q3.1,q4.1,ls⟩:=⟨_,fun _=>rfl⟩
 have hmr:QN l = (MM (Ce N q5.2).1,(Ce N q5.2).2):=by rw [hR,hMM]
 rw [hmr] at hg
 have hgH:=hidden hg
 have hMH:=hidden hM
 have hMMH:=hidden hMM
 have hB:=hidden (And.intro hll (And.intro b0 (And.intro b1 (And.intro b2 (And.intro b3 (And.intro b4 b5))))))
 have hE:=hidden (And.intro h0 (And.intro h1 (And.intro h2 (And.intro h3 (And.intro h4 (And.intro h5 (And.intro hN hkb)))))))
 clear hg hM hR hln hmr hMM l0 l1 l2 l3 l4 l5 b0 b1 b2 b3 b4 b5 h0 h1 h2 h3 h4 h5 hN hkb
 have st0:Step (EN M) w o (w.alloc (.cells DI.toArray 46)) (Ak o w.heap.size (M + 3,1)):=((Step.refl Nobody w o).LW).alloc _ _
 have b0:=heap_alloc_new w (.cells DI.toArray 46)
 have hal:=hidden (AB (P:=Tryz.prog) w 46 _ Oa)
 have hb1:=h.step ((Step.refl Nobody w o).alloc (.cells DI.toArray 46) (M + 3,1)) (fun h=>h)
 have t0:=Au o w.heap.size (M + 3,1)
 have z0:(w.alloc (.cells DI.toArray 46)).heap.size = w.heap.size + 1:=by simp
 unfold DI at st0 b0 hb1 z0
 obtain ⟨W0,hW0⟩:∃ W0,w.alloc (.cells [Value.int .u8 0, .int .u64 0, .int .u64 0, .int .i64 0, .int .i64 0, .slice none 0 0].toArray 46) = W0:=⟨_,rfl⟩
 rw [hW0] at st0 b0 hb1 z0
 generalize Ak o w.heap.size (M + 3,1) = o0 at *
 have hn:=hidden (NH (M + 1) hb1 hl)
 have hW0':w.alloc (.cells #[Value.int .u8 0, .int .u64 0, .int .u64 0, .int .i64 0, .int .i64 0, .slice none 0 0] 46) = W0:=hW0
 rw [hW0'] at hal
 have hH:=hidden (And.intro st0 (And.intro b0 t0))
 obtain ⟨va,vc,rfl⟩:=Aq h
 clear h hb1 st0 b0 t0 z0 hW0 hW0' hll hl
 go_enter Tryz.func50,Tryz.ntmps50
 go_wp2_with ((with_reducible apply AU);exact hal.out;simp only [Act.put,lsa,lsz,lss])
 refine hn.out.mono ?_;rintro e w1 ⟨v1,o1,rfl,hs1,p,hp,rfl,hr1⟩
 obtain ⟨h0,h1,h2,h3,h4,h5,hN,hkb⟩:=hE.out
 obtain ⟨hll,b0,b1,b2,b3,b4,b5⟩:=hB.out
 have st1:=hH.out.1.trans (hs1.LW)
 have bl1:=(hs1.block _ (lt_of_block hH.out.2.1) (fun h=>h)).trans hH.out.2.1
 have t1:=(hs1.own _ (lt_of_block hH.out.2.1)).trans hH.out.2.2
 have nZ:M + 1 ≠ 0:=by omega
 have aZ:∀ k,Only (M + 1) k→EN M k:=fun k h=>by unfold Only at h;unfold EN;omega
 have nT:¬ Only (M + 1) (M + 3):=fun h=>by unfold Only at h;omega
 have hc:=NI hr1 nZ hll
 rw [h0,hkb] at hc
 have hcH:=hidden hc
 have hP:=hidden (And.intro st1 (And.intro bl1 t1))
 clear hc hs1 hr1 st1 bl1 t1 h0 h1 h2 h3 h4 h5 hN hkb hll b0 b1 b2 b3 b4 b5 hn hal
 go_wp2_with fail
 refine hcH.out.mono ?_;rintro e w2 ⟨v2,o2,rfl,hs2,rfl,hr2⟩
 obtain ⟨stp,blp,tp⟩:=hP.out
 have hP:=hidden (And.intro (stp.trans (hs2.mono aZ)) (And.intro ((hs2.block _ (lt_of_block blp) (by rw [tp];exact nT)).trans blp) ((hs2.own _ (lt_of_block blp)).trans tp)))
 obtain ⟨h0,h1,h2,h3,h4,h5,hN,hkb⟩:=hE.out
 obtain ⟨hll,b0,b1,b2,b3,b4,b5⟩:=hB.out
 have hcH:=hidden (show _ from by have hc:=EJ hr2 nZ b0;rw [h1] at hc;exact hc)
 clear hr2
 clear hs2 stp blp tp h0 h1 h2 h3 h4 h5 hN hkb hll b0 b1 b2 b3 b4 b5
 go_wp2_with fail
 refine hcH.out.mono ?_;rintro e w3 ⟨v3,o3,rfl,hs3,rfl,hr3⟩
 obtain ⟨stp,blp,tp⟩:=hP.out
 have hP:=hidden (And.intro (stp.trans (hs3.mono aZ)) (And.intro ((hs3.block _ (lt_of_block blp) (by rw [tp];exact nT)).trans blp) ((hs3.own _ (lt_of_block blp)).trans tp)))
 obtain ⟨h0,h1,h2,h3,h4,h5,hN,hkb⟩:=hE.out
 obtain ⟨hll,b0,b1,b2,b3,b4,b5⟩:=hB.out
 have hcH:=hidden (show _ from by have hc:=EJ hr3 nZ b1;rw [h2] at hc;exact hc)
 clear hr3
 clear hs3 stp blp tp h0 h1 h2 h3 h4 h5 hN hkb hll b0 b1 b2 b3 b4 b5
 go_wp2_with fail
 refine hcH.out.mono ?_;rintro e w4 ⟨v4,o4,rfl,hs4,rfl,hr4⟩
 obtain ⟨stp,blp,tp⟩:=hP.out
 have hP:=hidden (And.intro (stp.trans (hs4.mono aZ)) (And.intro ((hs4.block _ (lt_of_block blp) (by rw [tp];exact nT)).trans blp) ((hs4.own _ (lt_of_block blp)).trans tp)))
 obtain ⟨h0,h1,h2,h3,h4,h5,hN,hkb⟩:=hE.out
 obtain ⟨hll,b0,b1,b2,b3,b4,b5⟩:=hB.out
 have hcH:=hidden (show _ from by have hc:=Je hr4 nZ b2 256 (by omega);rw [h3] at hc;exact hc)
 clear hr4
 clear hs4 stp blp tp h0 h1 h2 h3 h4 h5 hN hkb hll b0 b1 b2 b3 b4 b5
 go_wp2_with fail
 refine hcH.out.mono ?_;rintro e w5 ⟨v5,o5,rfl,hs5,rfl,hr5⟩
 obtain ⟨stp,blp,tp⟩:=hP.out
 have hP:=hidden (And.intro (stp.trans (hs5.mono aZ)) (And.intro ((hs5.block _ (lt_of_block blp) (by rw [tp];exact nT)).trans blp) ((hs5.own _ (lt_of_block blp)).trans tp)))
 obtain ⟨h0,h1,h2,h3,h4,h5,hN,hkb⟩:=hE.out
 obtain ⟨hll,b0,b1,b2,b3,b4,b5⟩:=hB.out
 have hcH:=hidden (show _ from by have hc:=Je hr5 nZ b3 256 (by omega);rw [h4] at hc;exact hc)
 clear hr5
 clear hs5 stp blp tp h0 h1 h2 h3 h4 h5 hN hkb hll b0 b1 b2 b3 b4 b5
 go_wp2_with fail
 refine hcH.out.mono ?_;rintro e w6 ⟨v6,o6,rfl,hs6,rfl,hr6⟩
 obtain ⟨stp,blp,tp⟩:=hP.out
 obtain ⟨h0,h1,h2,h3,h4,h5,hN,hkb⟩:=hE.out
 obtain ⟨hll,b0,b1,b2,b3,b4,b5⟩:=hB.out
 have bl6:=(hs6.block _ (lt_of_block blp) (by rw [tp];exact nT)).trans blp
 have t6:=(hs6.own _ (lt_of_block blp)).trans tp
 have st6:=stp.trans (hs6.mono aZ)
 have hal2:=AB (P:=Tryz.prog) w6 46 _ Oa
 have hst2:=(Ba (P:=Tryz.prog) (ty:=46) (vs:=[.int .u8 (kb:Int), .int .u64 (q1.1.toNat:Int), .int .u64 (q2.1.toNat:Int), .int .i64 (q3.1:Int), .int .i64 (q4.1:Int), .slice none 0 0]) (heap_alloc_new w6 (.cells [Value.int .u8 0, .int .u64 0, .int .u64 0, .int .i64 0, .int .i64 0, .slice none 0 0].toArray 46)) rfl FT rfl).1
 rw [Be w6 [Value.int .u8 0, .int .u64 0, .int .u64 0, .int .i64 0, .int .i64 0, .slice none 0 0].toArray 46 [.int .u8 (kb:Int), .int .u64 (q1.1.toNat:Int), .int .u64 (q2.1.toNat:Int), .int .i64 (q3.1:Int), .int .i64 (q4.1:Int), .slice none 0 0] rfl] at hst2
 have st7:=st6.alloc (.cells [.int .u8 (kb:Int), .int .u64 (q1.1.toNat:Int), .int .u64 (q2.1.toNat:Int), .int .i64 (q3.1:Int), .int .i64 (q4.1:Int), .slice none 0 0].toArray 46) (M + 3,0)
 have k7:=(Step.refl Nobody w6 o6).alloc (.cells [.int .u8 (kb:Int), .int .u64 (q1.1.toNat:Int), .int .u64 (q2.1.toNat:Int), .int .i64 (q3.1:Int), .int .i64 (q4.1:Int), .slice none 0 0].toArray 46) (M + 3,0)
 have mb7:QY _ _ (M + 3) w6.heap.size (MM []) (.slice none 0 0):=⟨by rw [hMMH.out];exact heap_alloc_new w6 (.cells [.int .u8 (kb:Int), .int .u64 (q1.1.toNat:Int), .int .u64 (q2.1.toNat:Int), .int .i64 (q3.1:Int), .int .i64 (q4.1:Int), .slice none 0 0].toArray 46),Au o6 w6.heap.size (M + 3,0)⟩
 have bl7:=(k7.block _ (lt_of_block bl6) (fun h=>h)).trans bl6
 have t7:=(k7.own _ (lt_of_block bl6)).trans t6
 have r7:=hr6.step k7 (fun h=>h) (fun h=>h)
 have hlt6:w.heap.size < w6.heap.size:=lt_of_block bl6
 obtain ⟨W7,hW7⟩:∃ W7,w6.alloc (.cells [Value.int .u8 (kb:Int), .int .u64 (q1.1.toNat:Int), .int .u64 (q2.1.toNat:Int), .int .i64 (q3.1:Int), .int .i64 (q4.1:Int), .slice none 0 0].toArray 46) = W7:=⟨_,rfl⟩
 rw [hW7] at hst2 st7 k7 mb7 bl7 r7
 generalize Ak o6 w6.heap.size (M + 3,0) = o7 at *
 obtain ⟨Wz,hWz⟩:∃ Wz,w6.alloc (.cells #[Value.int .u8 0, .int .u64 0, .int .u64 0, .int .i64 0, .int .i64 0, .slice none 0 0] 46) = Wz:=⟨_,rfl⟩
 rw [hWz] at hal2
 have hWz':w6.alloc (.cells [Value.int .u8 0, .int .u64 0, .int .u64 0, .int .i64 0, .int .i64 0, .slice none 0 0].toArray 46) = Wz:=hWz
 rw [hWz'] at hst2
 have hcH:=hidden (show _ from by have hc:=Je r7 nZ b4 256 (by omega);rw [h5,hN] at hc;exact hc)
 have hal2H:=hidden hal2
 have hst2H:=hidden hst2
 obtain ⟨mb,hmb⟩:∃ mb,w6.heap.size = mb:=⟨_,rfl⟩
 rw [hmb] at hal2H hst2H mb7 hlt6
 have hP:=hidden (And.intro st7 (And.intro bl7 (And.intro t7 (And.intro mb7 hlt6))))
 clear hs6 stp blp tp hr6 h0 h1 h2 h3 h4 h5 hN hkb hll b0 b1 b2 b3 b4 b5 hal2 hst2 st7 k7 mb7 bl7 t7 r7 bl6 t6 st6 hW7 hWz hWz' hmb hlt6
 go_wp2_with (first
  | ((with_reducible apply AU);exact hal2H.out;simp only [Act.put,lsa,lsz,lss])
  | ((with_reducible apply AC);exact hst2H.out;simp only [Act.put]))
 refine hcH.out.mono ?_;rintro e w8 ⟨v8,o8,rfl,hs8,rfl,hr8⟩
 obtain ⟨stp,blp,tp,mbp,hlt⟩:=hP.out
 have hP:=hidden (And.intro (stp.trans (hs8.mono aZ)) (And.intro ((hs8.block _ (lt_of_block blp) (by rw [tp];exact nT)).trans blp) (And.intro ((hs8.own _ (lt_of_block blp)).trans tp) (And.intro (mbp.step hs8 nT) hr8))))
 clear stp blp tp mbp hs8 hr8 hcH hal2H hst2H
 have hltH:=hidden hlt
 clear hlt
 go_wp2_with fail
 have nX:M + 2 ≠ 0:=by omega
 have nXT:¬ Only (M + 2) (M + 3):=fun h=>by unfold Only at h;omega
 have nXZ:¬ Only (M + 2) (M + 1):=fun h=>by unfold Only at h;omega
 have nZX:¬ Only (M + 1) (M + 2):=fun h=>by unfold Only at h;omega
 have nTX:¬ Only (M + 3) (M + 2):=fun h=>by unfold Only at h;omega
 have nTZ:¬ Only (M + 3) (M + 1):=fun h=>by unfold Only at h;omega
 have aX:∀ k,Only (M + 2) k→EN M k:=fun k h=>by unfold Only at h;unfold EN;omega
 have n10:¬ Only (M + 1) 0:=fun h=>by unfold Only at h;omega
 have n20:¬ Only (M + 2) 0:=fun h=>by unfold Only at h;omega
 have n30:¬ Only (M + 3) 0:=fun h=>by unfold Only at h;omega
 have hNs:=hidden (And.intro nX (And.intro nXT (And.intro nXZ (And.intro nZX (And.intro nTX (And.intro nTZ (And.intro aX (And.intro n10 (And.intro n20 n30)))))))))
 have hZs:=hidden (And.intro nZ (And.intro aZ nT))
 clear nX nXT nXZ nZX nTX nTZ aX n10 n20 n30 nZ aZ nT
 go_loopw [21] (fun i wr=>∃ (k:Nat) (oj:Own) (lv:Value),k ≤ N∧i = .int .i64 k∧Step (EN M) w o wr oj∧wr.heap[w.heap.size]? = some (.cells [Value.int .u8 0, .int .u64 0, .int .u64 0, .int .i64 0, .int .i64 0, .slice none 0 0].toArray 46 (0,0))∧oj w.heap.size = (M + 3,1)∧QY wr oj (M + 3) mb (MM (Ce k q5.2).1) lv∧Ep wr oj (M + 1) p (Ce k q5.2).2∧Gh wr oj (w.heap.size + 1) (M + 2,0) lv (Ce k q5.2).1) (fun i _=>N - (intOf i).toNat)
 case atStart=>exact ⟨0,o8, .slice none 0 0,by omega,rfl,hP.out.1,hP.out.2.1,hP.out.2.2.1,hP.out.2.2.2.1,hP.out.2.2.2.2,Gh.nil _ _ _ _⟩
 case round =>
  clear hP
  obtain ⟨k,oj,lv,hk,rfl,hst,hbl,htg,hmb,hrd,hrow⟩:=hrel
  obtain ⟨hlk,hln⟩:=NG k q5.2
  by_cases hlt:k < N
  ·obtain ⟨nZ,aZ,nT⟩:=hZs.out
   have dr:Step Nobody wr oj wr.drew oj:=(Step.refl Nobody wr oj).drew
   have hu:=hidden (EJ (hrd.step dr (fun h=>h) (fun h=>h)) nZ (by have:=hB.out.2.2.2.2.2.2;omega))
   have hlm:((Ce k q5.2).2.num 8).2.b.length ≤ 1000000:=by have:=RdM.EC 8 (Ce k q5.2).2;have:=hB.out.2.2.2.2.2.2;omega
   have hsn:Ce (k + 1) q5.2 = ((Ce k q5.2).1 ++ [⟨((Ce k q5.2).2.num 8).1,((Ce k q5.2).2.num 8).2.text.1⟩],((Ce k q5.2).2.num 8).2.text.2):=rfl
   obtain ⟨E,hE2⟩:∃ E,((Ce k q5.2).2.num 8).1 = E:=⟨_,rfl⟩
   rw [hE2] at hu hsn
   generalize ((Ce k q5.2).2.num 8).2 = m8 at *
   obtain ⟨ra,rc,rfl⟩:=hrow.form
   have hS:wr.drew.cell? ⟨mb,5,none⟩ = some (.slice ra (Ce k q5.2).1.length rc):=hmb.c5
   have hR:=hidden (And.intro (hst.drew) (And.intro hbl (And.intro htg (And.intro (hmb.step dr (fun h=>h)) (hrow.step dr (fun h=>h) (fun h=>h))))))
   have hL:=hidden (And.intro hlm (And.intro hln hsn))
   rw [hln] at hS
   clear hst hbl htg hmb hrd hrow hlk hlm hln hsn hE2 dr nZ aZ nT
   go_wp2_with fail
   refine Aa (fun w'=>w'.cell? ⟨mb,5,none⟩ = some (.slice ra k rc)) (fun i=>decide (i < 10)) (by kernel_rfl) hS (fun hHeld => ?_)
   refine tq 0 ?_
   refine tq 1 ?_
   refine tq 2 ?_
   refine tq 4 ?_
   refine Ac (i:=3) rfl (by kernel_rfl) ?_
   go_wp2_with fail
   refine hu.out.mono ?_;rintro e w2 ⟨v2,o2,rfl,hs2,rfl,hr2⟩
   obtain ⟨nZ,aZ,nT⟩:=hZs.out
   obtain ⟨nX,nXT,nXZ,nZX,nTX,nTZ,aX,n10,n20,n30⟩:=hNs.out
   obtain ⟨hst,hbl,htg,hmb,hrow⟩:=hR.out
   have hS2:w2.cell? ⟨mb,5,none⟩ = some (.slice ra k rc):=by have:=(hmb.step hs2 nT).c5;rw [hL.out.2.1] at this;exact this
   have hR2:=hidden (And.intro (hst.trans (hs2.mono aZ)) (And.intro ((hs2.block _ (lt_of_block hbl) (by rw [htg];exact nT)).trans hbl) (And.intro ((hs2.own _ (lt_of_block hbl)).trans htg) (And.intro (hmb.step hs2 nT) (hrow.step hs2 nZX n10)))))
   have ht:=hidden (Rq hr2 nZ hL.out.1)
   clear hs2 hr2 hst hbl htg hmb hrow hu hR nZ aZ nT nX nXT nXZ nZX nTX nTZ aX n10 n20 n30 hHeld
   go_wp2_with fail
   refine ⟨fun _=>hS2, ?_⟩
   refine Ac (i:=5) rfl (by kernel_rfl) ?_
   go_wp2_with fail
   refine ht.out.mono ?_;rintro e w3 ⟨v3,o3,rfl,hs3,⟨hb3,hf3⟩,hr3⟩
   obtain ⟨nZ,aZ,nT⟩:=hZs.out
   obtain ⟨nX,nXT,nXZ,nZX,nTX,nTZ,aX,n10,n20,n30⟩:=hNs.out
   obtain ⟨hst,hbl,htg,hmb,hrow⟩:=hR2.out
   have hS3:w3.cell? ⟨mb,5,none⟩ = some (.slice ra k rc):=by have:=(hmb.step hs3 nT).c5;rw [hL.out.2.1] at this;exact this
   have hR3:=hidden (And.intro (hst.trans (hs3.mono aZ)) (And.intro ((hs3.block _ (lt_of_block hbl) (by rw [htg];exact nT)).trans hbl) (And.intro ((hs3.own _ (lt_of_block hbl)).trans htg) (And.intro (hmb.step hs3 nT) (And.intro (hrow.step hs3 nZX n10) (And.intro hb3 (And.intro (hf3.low hst.size) hr3)))))))
   have hbs:=Zf w3 (E.toNat:Int) v3
   have hsa:=(Step.refl Nobody w3 o3).alloc (.cells [.int .u64 (E.toNat:Int),v3].toArray 36) (0,0)
   have hnb:=heap_alloc_new w3 (.cells [.int .u64 (E.toNat:Int),v3].toArray 36)
   obtain ⟨w4,hw4⟩:∃ w4,w3.alloc (.cells [.int .u64 (E.toNat:Int),v3].toArray 36) = w4:=⟨_,rfl⟩
   rw [hw4] at hbs hsa hnb
   generalize Ak o3 w3.heap.size (0,0) = o4 at *
   have hS4:w4.cell? ⟨mb,5,none⟩ = some (.slice ra k rc):=by have:=((hmb.step hs3 nT).step hsa (fun h=>h)).c5;rw [hL.out.2.1] at this;exact this
   obtain ⟨nv,w5,o5,hrun,hrow5,hs5,hgr,ho5⟩:=((hrow.step hs3 nZX n10).step hsa (fun h=>h) (fun h=>h)).append nX (Nat.le_trans (lt_of_block hbl) (Nat.le_trans hs3.size hsa.size)) (AV hnb) (LnC.single ⟨E,m8.text.1⟩ (hb3.step hsa (fun h=>h))) (fun u hu=>by
    simp only [List.mem_cons,List.not_mem_nil,or_false] at hu
    rcases hu with rfl | rfl
    ·exact CV.int _ _ _
    ·exact hf3.low (lt_of_block hbl)) (by simp) (by rw [hL.out.2.1,List.length_singleton];omega) (c:=1)
   simp only [List.length_singleton] at hrun
   rw [hL.out.2.1] at hrun
   obtain ⟨na,nc,rfl⟩:=hrow5.form
   have hl1:((Ce k q5.2).1 ++ ([⟨E,m8.text.1⟩]:List Ar)).length = k + 1:=by rw [List.length_append,hL.out.2.1];rfl
   have hmb5:=(((hmb.step hs3 nT).step hsa (fun h=>h))).step hs5 nXT
   have hS5:w5.cell? ⟨mb,5,none⟩ = some (.slice ra k rc):=by have:=hmb5.c5;rw [hL.out.2.1] at this;exact this
   have f5:=hmb5.free 5
   have hbl5:=(hs5.block _ (Nat.lt_of_lt_of_le (Nat.lt_of_lt_of_le (lt_of_block hbl) hs3.size) hsa.size) (by rw [hsa.own _ (Nat.lt_of_lt_of_le (lt_of_block hbl) hs3.size),hs3.own _ (lt_of_block hbl),htg];exact nXT)).trans ((hsa.block _ (Nat.lt_of_lt_of_le (lt_of_block hbl) hs3.size) (fun h=>h)).trans ((hs3.block _ (lt_of_block hbl) (by rw [htg];exact nT)).trans hbl))
   have htg5:=(hs5.own _ (Nat.lt_of_lt_of_le (Nat.lt_of_lt_of_le (lt_of_block hbl) hs3.size) hsa.size)).trans ((hsa.own _ (Nat.lt_of_lt_of_le (lt_of_block hbl) hs3.size)).trans ((hs3.own _ (lt_of_block hbl)).trans htg))
   have st5:=((hst.trans (hs3.mono aZ)).trans hsa.LW).trans (hs5.mono aX)
   have hrd5:=(hr3.step hsa (fun h=>h) (fun h=>h)).step hs5 nXZ n20
   rw [hl1] at hrun
   have hrunH:=hidden hrun
   have bM5:QY (w5.setCell ⟨mb,5,none⟩ (.slice na (k + 1) nc)) o5 (M + 3) mb (MM (Ce (k + 1) q5.2).1) (.slice na (k + 1) nc):=by
    refine ⟨?_,hmb5.2⟩
    have h:=Ai (i:=5) (.slice na (k + 1) nc) hmb5.1
    rw [h,hMMH.out,hMMH.out]
    rfl
   have sF:=st5.setCell (a:=⟨mb,5,none⟩) (.slice na (k + 1) nc) (.inl (by show EN M (o5 mb).1;rw [hmb5.2];unfold EN;omega))
   have sK:=(Step.refl (Only (M + 3)) w5 o5).setCell (a:=⟨mb,5,none⟩) (.slice na (k + 1) nc) (.inl (by show (o5 mb).1 = _;rw [hmb5.2]))
   have hrowF:Gh (w5.setCell ⟨mb,5,none⟩ (.slice na (k + 1) nc)) o5 (w.heap.size + 1) (M + 2,0) (.slice na (k + 1) nc) (Ce (k + 1) q5.2).1:=by
    rw [hL.out.2.2]
    rw [hl1] at hrow5
    exact hrow5.step sK nTX n30
   have hrdF:Ep (w5.setCell ⟨mb,5,none⟩ (.slice na (k + 1) nc)) o5 (M + 1) p (Ce (k + 1) q5.2).2:=by
    rw [hL.out.2.2]
    exact hrd5.step sK nTZ n30
   have hblF:=(Below.heap_setCell w5 ⟨mb,5,none⟩ (.slice na (k + 1) nc) w.heap.size (by have:=hltH.out;show w.heap.size ≠ mb;omega)).trans hbl5
   have hF:=hidden (And.intro sF (And.intro hblF (And.intro htg5 (And.intro bM5 (And.intro hrdF hrowF)))))
   have hbsH:=hidden hbs
   obtain ⟨ba,bc,rfl⟩:=Aq hb3
   clear hs3 hr3 hst hbl htg hmb hrow hb3 hf3 hR2 hS2 ht hbs hsa hnb hrun hrow5 hs5 hgr ho5 hl1 hmb5 hbl5 htg5 st5 hrd5 bM5 sF sK hrowF hrdF hblF nZ aZ nT nX nXT nXZ nZX nTX nTZ aX n10 n20 n30
   go_wp2_with fail
   refine ⟨fun _=>hS3, ?_⟩
   refine tq 6 ?_
   refine Ac (i:=7) rfl (by kernel_rfl) ?_
   refine BO #[(0, .agg #[.int .u64 (E.toNat:Int), .slice ba m8.text.1.length bc])] rfl hbsH.out ?_
   simp only [Act.put,lsa,lsz,lss]
   go_wp2_with fail
   refine ⟨fun _=>hS4, ?_⟩
   refine Ac (i:=8) rfl (by kernel_rfl) ?_
   with_reducible apply Bl
   exact hrunH.out
   simp only [Act.put,lsa,lsz,lss]
   go_wp2_with fail
   refine ⟨fun _=>hS5, ?_⟩
   refine tq 9 ?_
   refine Ac (i:=10) rfl (by kernel_rfl) ?_
   go_wp2_with fail
   refine ⟨fun h=>by simp at h, ?_⟩
   refine Ae (by kernel_rfl) ?_ _
   go_wp2_with fail
   go_roundw
   case rel=>exact ⟨k + 1,o5,_,by omega,by go_num,hF.out.1,hF.out.2.1,hF.out.2.2.1,hF.out.2.2.2.1,hF.out.2.2.2.2.1,hF.out.2.2.2.2.2⟩
   case measure=>simp [intOf];omega
  ·have hkN:k = N:=by omega
   subst hkN
   have hd:=hidden (II hrd)
   have hdv:((Ce k q5.2).2).done = 0 ∨ ((Ce k q5.2).2).done = 2:=by
    unfold RdM.done;split
    ·exact .inr rfl
    ·exact .inl rfl
   obtain ⟨m,hm⟩:∃ m,MM (Ce k q5.2).1 = m:=⟨_,rfl⟩
   have hmls:m.ls = (Ce k q5.2).1:=by rw [←hm,hMMH.out]
   have hLn:Lines wr (Ak (ext w o) w.heap.size (M + 3,1)) (w.heap.size + 1) lv m.ls:=by
    rw [hmls]
    refine hrow.lines (fun j hj => ?_)
    rw [BI _ _ (by omega)]
    unfold ext
    rw [if_neg (by omega)]
   have st:Step Nobody w o wr (Ak (ext w o) w.heap.size (M + 3,1)):=(hst.Hm hMH.out).Me _ (fun j hj=>by rw [BI _ _ (by omega)];exact if_pos hj)
   have hto:=Au (ext w o) w.heap.size (M + 3,1)
   have hmB:=hmb.1
   rw [hm] at hmB
   have hgt:=hgH.out
   rw [hm] at hgt
   obtain ⟨dn,hdn⟩:∃ d,((Ce k q5.2).2).done = d:=⟨_,rfl⟩
   simp only [hdn] at hd hdv hgt
   have hgtH:=hidden hgt
   generalize Ak (ext w o) w.heap.size (M + 3,1) = oE at *
   have hld:=Ip (AV hmB) rfl
   have hmyC:=hidden (Uf m hLn (by rw [hmls,hln];omega))
   have hblH:=hidden hbl
   have hmBH:=hidden hmB
   have hldH:=hidden hld
   have hLnH:=hidden hLn
   have stH:=hidden st
   have htoH:=hidden hto
   obtain ⟨ra,rc,rfl⟩:=hLn.form
   clear hst hbl htg hmb hrd hrow hlk hln hgt hgH hm hmls hLn st hto hmB hld hE hB hMMH
   have nT0:¬ Only (M + 3) 0:=fun h=>by unfold Only at h;omega
   have hbad:∀ (W:World) (oW:Own),Step Nobody w o W oW→W.heap[w.heap.size]? = some (.cells [Value.int .u8 0, .int .u64 0, .int .u64 0, .int .i64 0, .int .i64 0, .slice none 0 0].toArray 46 (0,0))→oW w.heap.size = (M + 3,1)→∀ vs:List Value,vs.length = 6→vs.all (·.oneCell') = true →
     (Instr.storeAt 46 (.pointer (some ⟨w.heap.size,0,none⟩)) (.agg vs.toArray)).run Tryz.prog W = .ok () (W.setCells w.heap.size 0 vs)∧(W.setCells w.heap.size 0 vs).heap[w.heap.size]? = some (.cells vs.toArray 46 (0,0))∧Step Nobody w o (W.setCells w.heap.size 0 vs) oW∧Step (Only (M + 3)) W oW (W.setCells w.heap.size 0 vs) oW:=by
    intro W oW h1 h2 h3 vs h4 h5
    obtain ⟨g1,g2⟩:=Ba (P:=Tryz.prog) (ty:=46) (vs:=vs) h2 (by rw [h4];rfl) (by rw [h4];exact FT) h5
    exact ⟨g1,g2,h1.setCells _ _ _ (.inr (Nat.le_refl _)),(Step.refl _ W oW).setCells _ _ _ (.inl (by rw [h3];rfl))⟩
   have hbadH:=hidden hbad
   clear hbad
   unfold Ea at hmyC
   obtain ⟨c0,c1,c2,c3,c4,c5⟩:=Gt hmBH.out
   have hz:∀ (W:World) (oW:Own) e,Jn l = none→iL w.heap.size (Jn l) (.tuple #[.agg #[Value.int .u8 0, .int .u64 0, .int .u64 0, .int .i64 0, .int .i64 0, .slice none 0 0], .int .i64 2]) W oW ∨ e:=by
    intro W oW e h
    rw [h]
    exact .inl ⟨fun m h=>by (cases h),fun _=>rfl⟩
   have hzH:=hidden hz
   clear hz
   rcases hdv with rfl | rfl
   ·rw [if_pos rfl] at hgtH
    cases hmay:TE m with
    | true =>
     rw [hmay] at hmyC hgtH
     rw [if_pos rfl] at hgtH
     clear hmay
     go_wp2_with fail
     refine hd.out.mono ?_;rintro e w2 ⟨rfl,rfl⟩
     go_wp2_with fail
     refine hmyC.out.mono ?_;rintro e w2 ⟨v2,o2,rfl,hs2,rfl⟩
     have hb2:=(hs2.block _ (lt_of_block hblH.out) (fun h=>h)).trans hblH.out
     have ho2:=(hs2.own _ (lt_of_block hblH.out)).trans htoH.out
     have hm2:=(hs2.block _ (lt_of_block hmBH.out) (fun h=>h)).trans hmBH.out
     have hld2:=hidden (Ip (AV hm2) rfl)
     obtain ⟨g1,g2,g3,g4⟩:=hbadH.out w2 o2 (stH.out.trans hs2) hb2 ho2 (Bf m (.slice ra m.ls.length rc)) rfl rfl
     have g1H:=hidden g1
     have g2H:=hidden g2
     have hF:=hidden (And.intro g3 ((hLnH.out.step hs2 (fun h=>h)).step g4 nT0))
     clear hs2 hb2 ho2 hm2 g1 g2 g3 g4 c0 c1 c2 c3 c4 c5
     unfold Bf at hld2 g1H g2H
     go_wp2_with (first
      | ((with_reducible apply Bo);exact hld2.out;simp only [Act.put,lsa,lsz,lss])
      | ((with_reducible apply AC);exact g1H.out;simp only [Act.put]))
     refine bodyPost_ret (Eg rfl _ _ w.heap.size 46 _ (0,0) _ rfl g2H.out Tryz.underlying46 rfl FT) rfl ?_
     exact ⟨_,o2,rfl,hF.out.1,by rw [hgtH.out];exact ⟨fun m' h=>by cases h;exact ⟨_,rfl,hF.out.2.low (by omega)⟩,fun h=>by cases h⟩⟩
    | false =>
     rw [hmay] at hmyC hgtH
     rw [if_neg (by decide)] at hgtH
     clear hmay
     go_wp2_with fail
     refine hd.out.mono ?_;rintro e w2 ⟨rfl,rfl⟩
     go_wp2_with fail
     refine hmyC.out.mono ?_;rintro e w2 ⟨v2,o2,rfl,hs2,rfl⟩
     have hb2:=(hs2.block _ (lt_of_block hblH.out) (fun h=>h)).trans hblH.out
     have ho2:=(hs2.own _ (lt_of_block hblH.out)).trans htoH.out
     obtain ⟨g1,g2,g3,g4⟩:=hbadH.out w2 o2 (stH.out.trans hs2) hb2 ho2 [Value.int .u8 0, .int .u64 0, .int .u64 0, .int .i64 0, .int .i64 0, .slice none 0 0] rfl rfl
     have g1H:=hidden g1
     have g2H:=hidden g2
     have g3H:=hidden g3
     clear hs2 hb2 ho2 g1 g2 g3 g4 c0 c1 c2 c3 c4 c5
     go_wp2_with ((with_reducible apply AC);exact g1H.out;simp only [Act.put])
     refine bodyPost_ret (Eg rfl _ _ w.heap.size 46 _ (0,0) _ rfl g2H.out Tryz.underlying46 rfl FT) rfl ?_
     exact ⟨_,o2,rfl,g3H.out,(hzH.out _ _ False hgtH.out).resolve_right id⟩
   ·rw [if_neg (by decide)] at hgtH
    clear c0 c1 c2 c3 c4 c5
    go_wp2_with fail
    refine hd.out.mono ?_;rintro e w2 ⟨rfl,rfl⟩
    obtain ⟨g1,g2,g3,g4⟩:=hbadH.out wr oE stH.out hblH.out htoH.out [Value.int .u8 0, .int .u64 0, .int .u64 0, .int .i64 0, .int .i64 0, .slice none 0 0] rfl rfl
    have g1H:=hidden g1
    have g2H:=hidden g2
    have g3H:=hidden g3
    clear g1 g2 g3 g4
    go_wp2_with ((with_reducible apply AC);exact g1H.out;simp only [Act.put])
    refine bodyPost_ret (Eg rfl _ _ w.heap.size 46 _ (0,0) _ rfl g2H.out Tryz.underlying46 rfl FT) rfl ?_
    exact ⟨_,oE,rfl,g3H.out,(hzH.out _ _ False hgtH.out).resolve_right id⟩

end Go.Proofs.YthmpmgknnibljaaGreat
