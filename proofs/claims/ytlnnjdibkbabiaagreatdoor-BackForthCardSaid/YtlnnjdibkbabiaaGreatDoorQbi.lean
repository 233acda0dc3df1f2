/- Contracts and plain laws, joined: Lst. -/
import Derived.Test.YtlnnjdibkbabiaaGreatDoorQba
import Derived.Test.YtlnnjdibkbabiaaGreatDoorQbb
/- Lists of ints and strings: their slices,their openers,comparing;for seats without the wire's readers (the names are those of WrG,WrH,WrOpen). -/
set_option linter.unusedSimpArgs false
set_option linter.unusedVariables false
namespace Go.Proofs.YtlnnjdibkbabiaaGreatDoor
open Go.ChangeShapes Go.WideShapes Go.RowKit Go.Deep
theorem slStr:SlTy Tryz.prog 22 9 1 16:=by
 obtain ⟨i,hi,h0,h1,h2⟩:=info_parts (show (Tryz.prog.info? 9).map (fun i=>(i.zero,i.size,i.bytes))=some (some (.string ByteArray.empty),1,16) by kernel_rfl)
 exact ⟨Tryz.underlying22,⟨i,_,hi,h0,h1,h2,rfl⟩,by decide,by decide⟩
theorem strLay:Lay 1 strE:=⟨fun _=>rfl,fun x u hu=>by simp only [strE,List.mem_singleton] at hu;subst hu;rfl⟩
theorem rd_str' {w:World} {A:Option Addr} {xs:List (List UInt8)} {k:Nat} (h:RdL 1 strE w w.heap.size A xs) (hk:k<xs.length):∃ b off,A=some ⟨b,off,none⟩∧b<w.heap.size∧w.cell? ⟨b,off+k,none⟩=some (.string (bs xs[k])):=by
 obtain ⟨b,off,e,hb,hc⟩:=h.at_ hk
 exact ⟨b,off,e,hb,by simpa using hc 0 _ rfl⟩
section
variable {H:Type} {enc0:TypeId × Value→H} {w:World} {base:Nat} {spare:Nat→Bool} {held:Bool}
end
end Go.Proofs.YtlnnjdibkbabiaaGreatDoor
