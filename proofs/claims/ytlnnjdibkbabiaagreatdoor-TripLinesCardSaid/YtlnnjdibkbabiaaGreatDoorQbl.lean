/- Contracts and plain laws, joined: TlB. -/
import Derived.Test.YtlnnjdibkbabiaaGreatDoorQbk
import Derived.Test.YtlnnjdibkbabiaaGreatDoorQbc
/- Contract of linguaref16.Ints. -/
set_option linter.unusedSimpArgs false
set_option linter.unusedVariables false
namespace Go.Proofs.YtlnnjdibkbabiaaGreatDoor
open _root_.Go.Lib (hid)
open Go.ChangeShapes Go.WideShapes Go.RowKit Go.Deep
set_option maxHeartbeats 1000000 in
theorem ints16_any (xs ys:List Int) (A B:Option Addr) (c d:Nat) (w:World) (hr:RdL 1 intE w w.heap.size A xs) (hs:RdL 1 intE w w.heap.size B ys) (hx:xs.length≤9223372036854775807) (hy:ys.length≤9223372036854775807) :
  Calls Tryz.prog 31 #[.slice A xs.length c,.slice B ys.length d] w fun e w'=>e=.returned (.bool (xs==ys))∧Below w.heap.size w w':=by
 have HR:=hid hr
 have HS:=hid hs
 have HFin:Hid (∀ b:Bool,(xs=ys ↔ b=true)→(xs==ys)=b):=hid fun b h=>by
  cases b with
  | true=>simpa using h.2 rfl
  | false=>simp only [beq_eq_false_iff_ne];intro e;exact absurd (h.1 e) (by simp)
 clear hr hs
 by_cases hl:xs.length=ys.length
 ·have hl2:((xs.length:Int) != ys.length)=false:=by simp [hl]
  go_enter Tryz.func31,Tryz.ntmps31
  have HL:=hid hl
  clear hl
  go_wp2
  go_loopw [5] (fun i wr=>∃ k:Nat,k≤xs.length∧i=.int .i64 k∧xs.take k=ys.take k∧Below w.heap.size w wr) (fun i _=>xs.length - (intOf i).toNat)
  case atStart=>exact ⟨0,Nat.zero_le _,rfl,by simp,Below.refl _ _⟩
  case round =>
   obtain ⟨k,hk,rfl,hf,hbw⟩:=hrel
   have HF:=hid hf
   have HB:=hid hbw
   clear hf
   by_cases hlt:k<xs.length
   ·have hlt2:k<ys.length:=by have:=HL.out;omega
    obtain ⟨b,off,hA,hb,c0⟩:=rd_int' (HR.out.now hbw) hlt
    obtain ⟨b2,off2,hA2,hb2,c1⟩:=rd_int' (HS.out.now hbw) hlt2
    subst hA hA2
    have HSt:=hid (eq_take xs ys k hlt hlt2 HF.out)
    have HNe:=hid (ne_at xs ys k hlt hlt2)
    have hi0:(0:Int)≤(k:Int):=by omega
    have hi1:(k:Int)<(xs.length:Int):=by omega
    have hi2:(k:Int)<(ys.length:Int):=by omega
    clear hbw
    generalize xs[k]=x at *
    generalize ys[k]=y at *
    by_cases hv:x=y
    ·have hv2:(x != y)=false:=by simp [hv]
     have hv3:(x==y)=true:=by rw [bne,Bool.not_eq_false'] at hv2;exact hv2
     have HV:=hid hv
     clear hv
     go_wp2_with fail
     go_quiet (fail)
     go_wp2
     go_roundw
     case rel=>exact ⟨k+1,by omega,by go_num,HSt.out HV.out,below_drewN HB.out _⟩
     case measure=>simp [intOf];omega
    ·have hv2:(x != y)=true:=by simp [hv]
     have hv3:(x==y)=false:=by rw [bne,Bool.not_eq_true'] at hv2;exact hv2
     have HV:=hid (HNe.out hv)
     clear hv
     go_wp2_with fail
     go_quiet (fail)
     go_wp2
     go_ret
     exact ⟨ret_bool (HFin.out false ⟨fun h=>absurd h HV.out,fun h=>by simp at h⟩).symm,below_drewN HB.out _⟩
   ·have HE:Hid (xs=ys):=hid (by
     have h1:=HF.out
     have:=HL.out
     rwa [List.take_of_length_le (by omega),List.take_of_length_le (by omega)] at h1)
    go_wp2
    go_ret
    exact ⟨ret_bool (HFin.out true ⟨fun _=>rfl,fun _=>HE.out⟩).symm,HB.out⟩
 ·have hl2:((xs.length:Int) != ys.length)=true:=by simp;omega
  have HN:=hid hl
  clear hl
  go_enter Tryz.func31,Tryz.ntmps31
  go_wp2
  go_ret
  exact ⟨ret_bool (HFin.out false ⟨fun h=>absurd (by rw [h]) HN.out,fun h=>by simp at h⟩).symm,Below.refl _ _⟩
end Go.Proofs.YtlnnjdibkbabiaaGreatDoor
