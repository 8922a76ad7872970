/- The statement ZabRises, for every input; no conditions. -/
import Derived.Deep.DeepCutAuto
import Derived.Carry
import Derived.Test.YthmpmgknnibljaaGreatSn8
import Derived.Test.YthmpmgknnibljaaGreatSn12
import Derived.Test.YthmpmgknnibljaaGreatSn13
import Derived.Test.YthmpmgknnibljaaGreatSnP
import Derived.Test.YthmpmgknnibljaaGreatSnRw
namespace Go.Proofs.YthmpmgknnibljaaGreat
set_option maxRecDepth 100000
open Go Go.RowKit Go.ChangeShapes Go.WideShapes Go.ChangeAt
theorem jI (os:Os) (started:os.Started) (H:Type) (enc:TypeId × Value→H) :
  ReturnsInHanded {} Tryz.checked os 9 .any (Rows.zabRisesSpec.pre6 enc Tryz.prog Tryz.f9 Rows.zabRisesRow.domain false) (Rows.zabRisesSpec.post enc Tryz.prog Tryz.f9 false true false false):=by
 refine returnsInHanded_of_change (C:=Tryz.checked) MI started (by kernel_rfl) Tryz.func9
  (ChangeSpec.witness6 (enc:=enc) (C:=Tryz.checked) false ⟨#[], #[.int .u8 0, .int .u8 0, .slice none 0 0],[]⟩ 8 (by kernel_rfl) (by kernel_rfl) (by kernel_rfl) (by kernel_rfl)) ?_
 intro W base args ds gs before hval0 hW hcnd _
 have hval:∀ (j:Nat) t v,Tryz.f9.params[j]? = some t→args[j]? = some v→Value.okWide Tryz.prog W .any base t v:=hval0
 have hW':=hW
 obtain ⟨p,q,hA0,hV,rfl,hfz,hnd⟩:=hW
 have hA:DataW.TrodAll enc Tryz.prog W 0 (fun _=>true) true Tryz.f9.params.toList args.toList ds p:=hA0
 rw [Tryz.params9] at hA hval
 obtain ⟨v0,v1,v2,d0,d1,d2,p0,p1,p2,rfl,rfl,rfl,h0,h1,h2⟩:=trodAll_three hA
 obtain ⟨a0,rfl,rfl,rfl,w0⟩:=open_int Tryz.underlying5 (hval 0 5 v0 rfl rfl) h0
 obtain ⟨a1,rfl,rfl,rfl,w1⟩:=open_int Tryz.underlying5 (hval 1 5 v1 rfl rfl) h1
 obtain ⟨a2,n2,c2,rfl⟩:=okWide_slice Tryz.underlying39 (hval 2 39 v2 rfl rfl)
 obtain ⟨f2,h2⟩:=h2
 obtain ⟨l,hl⟩:=Oq h2
 have b0:=bounds_u8 w0
 have b1:=bounds_u8 w1
 obtain ⟨i0,rfl⟩:∃ i:Nat,a0 = (i:Int):=⟨a0.toNat,by omega⟩
 obtain ⟨i1,rfl⟩:∃ i:Nat,a1 = (i:Int):=⟨a1.toNat,by omega⟩
 obtain ⟨rfl,rfl⟩:=trodVars_none hV
 clear hA0 hval0
 refine (jK i0 i1 (by omega) (by omega) hl).mono fun e W' he => ?_
 obtain ⟨v,o',rfl,hs,rfl⟩:=he
 exact ⟨_,rfl,MW Jl (by kernel_rfl) rfl Tryz.underlying4 hW' rfl rfl rfl rfl rfl hs.below⟩
theorem zabRises_holds:Rows.ZabRisesSaid:=
 OpenClaim.holds_of_wide 9 Tryz.f9 rfl rfl rfl rfl rfl rfl rfl ⟨rfl,rfl,rfl,rfl,rfl⟩ rfl rfl rfl rfl rfl (by kernel_rfl) Tryz.func9 (by kernel_rfl)
  (of_decide_eq_true (by kernel_rfl)) (by unfold Func.isWrapper;first | (rw [if_pos (by decide +kernel)];kernel_rfl) | (rw [if_neg (by decide +kernel)];exact ⟨rfl,rfl⟩))
  (fun os started H enc _=>jI os started H enc)

end Go.Proofs.YthmpmgknnibljaaGreat
