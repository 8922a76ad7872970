/- The statement ZabOld, for every input; no conditions. -/
import Derived.Carry
import Derived.Test.YthmpmgknnibljaaGreatSn12
import Derived.Test.YthmpmgknnibljaaGreatSn13
namespace Go.Proofs.YthmpmgknnibljaaGreat
set_option maxRecDepth 100000
open Go Go.RowKit Go.ChangeShapes Go.WideShapes Go.ChangeAt
theorem QA (os:Os) (started:os.Started) (H:Type) (enc:TypeId × Value→H) :
  ReturnsInHanded {} Tryz.checked os 6 .any (Rows.zabOldSpec.pre6 enc Tryz.prog Tryz.f6 Rows.zabOldRow.domain false) (Rows.zabOldSpec.post enc Tryz.prog Tryz.f6 false true false false):=by
 refine returnsInHanded_of_change (C:=Tryz.checked) MI started (by kernel_rfl) Tryz.func6
  (ChangeSpec.witness6 (enc:=enc) (C:=Tryz.checked) false ⟨#[], #[.int .u8 0, .int .u8 0, .int .u64 0, .slice none 0 0],[]⟩ 8 (by kernel_rfl) (by kernel_rfl) (by kernel_rfl) (by kernel_rfl)) ?_
 intro W base args ds gs before hval0 hW hcnd _
 have hval:∀ (j:Nat) t v,Tryz.f6.params[j]? = some t→args[j]? = some v→Value.okWide Tryz.prog W .any base t v:=hval0
 have hW':=hW
 obtain ⟨p,q,hA0,hV,rfl,hfz,hnd⟩:=hW
 have hA:DataW.TrodAll enc Tryz.prog W 0 (fun _=>true) true Tryz.f6.params.toList args.toList ds p:=hA0
 rw [Tryz.params6] at hA hval
 obtain ⟨v0,v1,v2,v3,d0,d1,d2,d3,p0,p1,p2,p3,rfl,rfl,rfl,h0,h1,h2,h3⟩:=trodAll_four hA
 obtain ⟨a0,rfl,rfl,rfl,w0⟩:=open_int Tryz.underlying5 (hval 0 5 v0 rfl rfl) h0
 obtain ⟨a1,rfl,rfl,rfl,w1⟩:=open_int Tryz.underlying5 (hval 1 5 v1 rfl rfl) h1
 obtain ⟨a2,rfl,rfl,rfl,w2⟩:=open_int Tryz.underlying34 (hval 2 34 v2 rfl rfl) h2
 obtain ⟨a3,n3,c3,rfl⟩:=okWide_slice Tryz.underlying39 (hval 3 39 v3 rfl rfl)
 obtain ⟨f3,h3⟩:=h3
 obtain ⟨l,hl⟩:=Oq h3
 have b0:=bounds_u8 w0
 have b1:=bounds_u8 w1
 have b2:=bounds_u64 w2
 obtain ⟨i0,rfl⟩:∃ i:Nat,a0 = (i:Int):=⟨a0.toNat,by omega⟩
 obtain ⟨i1,rfl⟩:∃ i:Nat,a1 = (i:Int):=⟨a1.toNat,by omega⟩
 obtain ⟨i2,rfl⟩:∃ i:BitVec 64,a2 = (i.toNat:Int):=⟨BitVec.ofNat 64 a2.toNat,by rw [BitVec.toNat_ofNat];omega⟩
 obtain ⟨rfl,rfl⟩:=trodVars_none hV
 clear hA0 hval0
 refine (Ui i0 i1 (by omega) (by omega) i2 hl).mono fun e W' he => ?_
 obtain ⟨v,o',rfl,hs,rfl⟩:=he
 exact ⟨_,rfl,MW Jl (by kernel_rfl) rfl Tryz.underlying4 hW' rfl rfl rfl rfl rfl hs.below⟩
theorem zabOld_holds:Rows.ZabOldSaid:=
 OpenClaim.holds_of_wide 6 Tryz.f6 rfl rfl rfl rfl rfl rfl rfl ⟨rfl,rfl,rfl,rfl,rfl⟩ rfl rfl rfl rfl rfl (by kernel_rfl) Tryz.func6 (by kernel_rfl)
  (of_decide_eq_true (by kernel_rfl)) (by unfold Func.isWrapper;first | (rw [if_pos (by decide +kernel)];kernel_rfl) | (rw [if_neg (by decide +kernel)];exact ⟨rfl,rfl⟩))
  (fun os started H enc _=>QA os started H enc)

end Go.Proofs.YthmpmgknnibljaaGreat
