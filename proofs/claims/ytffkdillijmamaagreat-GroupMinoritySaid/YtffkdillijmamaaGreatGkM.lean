/- The statement GroupMinority, for every input; no conditions. -/
import Derived.Outline
import Derived.Test.YtffkdillijmamaaGreatGk14
import Derived.Test.YtffkdillijmamaaGreatGkMw
namespace Go.Proofs.YtffkdillijmamaaGreat
open Go.Proofs.Tryz
set_option maxRecDepth 100000
open Go Go.RowKit Go.ChangeShapes Go.WideShapes Go.ChangeAt
theorem Acj (os:Os) (started:os.Started) (H:Type) (enc:TypeId × Value->H) :
  ReturnsInHanded {} Tryz.checked os 5 .any (Rows.groupMinoritySpec.pre6 enc prog Tryz.f5 Rows.groupMinorityRow.domain false) (Rows.groupMinoritySpec.post enc prog Tryz.f5 false true false false):=by
 refine returnsInHanded_of_change (C:=Tryz.checked) MI started (by kernel_rfl) func5
  (ChangeSpec.witness6 (enc:=enc) (C:=Tryz.checked) false ⟨#[], #[.slice none 0 0],[]⟩ 8 (by kernel_rfl) (by kernel_rfl) (by kernel_rfl) (by kernel_rfl)) ?_
 intro W base args ds gs before hval0 hW hcnd _;have hval:∀ (j:Nat) t v,Tryz.f5.params[j]?=some t->args[j]?=some v->Value.okWide prog W .any base t v:=hval0;have hW':=hW;obtain ⟨p,q,hA0,hV,rfl,hfz,hnd⟩:=hW;have hA:DataW.TrodAll enc prog W 0 (fun _=>true) true Tryz.f5.params.toList args.toList ds p:=hA0;rw [Tryz.params5] at hA hval;obtain ⟨v0,d0,rfl,rfl,h0⟩:=trodAll_one hA;obtain ⟨a0,n0,c0,rfl⟩:=okWide_slice underlying43 (hval 0 43 v0 rfl rfl);obtain ⟨f0,h0⟩:=h0;obtain ⟨l,hl⟩:=AeY h0;obtain ⟨rfl,rfl⟩:=trodVars_none hV;clear hA0 hval0;refine (Acp hl).mono fun e W' he => ?_;obtain ⟨v,o',rfl,hs,rfl⟩:=he;exact ⟨_,rfl,MW Jl (by kernel_rfl) rfl underlying4 hW' rfl rfl rfl rfl rfl hs.below⟩
theorem groupMinority_holds:Rows.GroupMinoritySaid:=
 OpenClaim.holds_of_wide 5 Tryz.f5 rfl rfl rfl rfl rfl rfl rfl ⟨rfl,rfl,rfl,rfl,rfl⟩ rfl rfl rfl rfl rfl (by kernel_rfl) func5 (by kernel_rfl)
  (of_decide_eq_true (by kernel_rfl)) (by unfold Func.isWrapper;first | (rw [if_pos (by decide +kernel)];kernel_rfl) | (rw [if_neg (by decide +kernel)];exact ⟨rfl,rfl⟩))
  (fun os started H enc _=>Acj os started H enc)

end Go.Proofs.YtffkdillijmamaaGreat
