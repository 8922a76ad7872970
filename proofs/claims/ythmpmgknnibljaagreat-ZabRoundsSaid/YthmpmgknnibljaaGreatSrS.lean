/- The statement ZabRounds, for every input; no conditions. -/
import Derived.Test.YthmpmgknnibljaaGreatSrP
import Derived.Test.YthmpmgknnibljaaGreatSrSw
namespace Go.Proofs.YthmpmgknnibljaaGreat
set_option maxRecDepth 100000
open Go Go.RowKit Go.ChangeShapes Go.WideShapes Go.ChangeAt
theorem lD (os:Os) (started:os.Started) (H:Type) (enc:TypeId × Value→H) :
  ReturnsInHanded {} Tryz.checked os 3 .any (Rows.zabRoundsSpec.pre6 enc Tryz.prog Tryz.f3 Rows.zabRoundsRow.domain false) (Rows.zabRoundsSpec.post enc Tryz.prog Tryz.f3 false true false false):=by
 refine returnsInHanded_of_change (C:=Tryz.checked) MI started (by kernel_rfl) Tryz.func3
  (ChangeSpec.witness6 (enc:=enc) (C:=Tryz.checked) false ⟨#[], #[.int .u8 0, .slice none 0 0],[]⟩ 8 (by kernel_rfl) (by kernel_rfl) (by kernel_rfl) (by kernel_rfl)) ?_
 intro W base args ds gs before hval0 hW hcnd _
 have hval:∀ (j:Nat) t v,Tryz.f3.params[j]? = some t→args[j]? = some v→Value.okWide Tryz.prog W .any base t v:=hval0
 have hW':=hW
 obtain ⟨p,q,hA0,hV,rfl,hfz,hnd⟩:=hW
 have hA:DataW.TrodAll enc Tryz.prog W 0 (fun _=>true) true Tryz.f3.params.toList args.toList ds p:=hA0
 rw [Tryz.params3] at hA hval
 obtain ⟨v0,v1,d0,d1,p0,p1,rfl,rfl,rfl,h0,h1⟩:=trodAll_two hA
 obtain ⟨a0,rfl,rfl,rfl,w0⟩:=open_int Tryz.underlying5 (hval 0 5 v0 rfl rfl) h0
 obtain ⟨a1,n1,c1,rfl⟩:=okWide_slice Tryz.underlying22 (hval 1 22 v1 rfl rfl)
 obtain ⟨f1,h1⟩:=h1
 obtain ⟨l,hl⟩:=mZ h1
 have b0:=bounds_u8 w0
 obtain ⟨i0,rfl⟩:∃ i:Nat,a0 = (i:Int):=⟨a0.toNat,by omega⟩
 obtain ⟨rfl,rfl⟩:=trodVars_none hV
 clear hA0 hval0
 refine (lL i0 (by omega) hl).mono fun e W' he => ?_
 obtain ⟨v,o',rfl,hs,rfl⟩:=he
 exact ⟨_,rfl,MW Jl (by kernel_rfl) rfl Tryz.underlying4 hW' rfl rfl rfl rfl rfl hs.below⟩
theorem zabRounds_holds:Rows.ZabRoundsSaid:=
 OpenClaim.holds_of_wide 3 Tryz.f3 rfl rfl rfl rfl rfl rfl rfl ⟨rfl,rfl,rfl,rfl,rfl⟩ rfl rfl rfl rfl rfl (by kernel_rfl) Tryz.func3 (by kernel_rfl)
  (of_decide_eq_true (by kernel_rfl)) (by unfold Func.isWrapper;first | (rw [if_pos (by decide +kernel)];kernel_rfl) | (rw [if_neg (by decide +kernel)];exact ⟨rfl,rfl⟩))
  (fun os started H enc _=>lD os started H enc)

end Go.Proofs.YthmpmgknnibljaaGreat
