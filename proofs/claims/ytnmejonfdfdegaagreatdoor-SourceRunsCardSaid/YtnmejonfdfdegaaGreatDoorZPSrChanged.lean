import Derived.Test.YtnmejonfdfdegaaGreatDoorZPSrValue
import Derived.Test.YtnmejonfdfdegaaGreatDoorZPSrSort
import Derived.Test.YtnmejonfdfdegaaGreatDoorZPRowKit
set_option linter.unusedSimpArgs false
set_option linter.unusedVariables false
namespace Go.Proofs.YtnmejonfdfdegaaGreatDoor.Sr
open Go.RowKit Go.Maps Go.WideMaps Rf Go.Proofs.YtnmejonfdfdegaaGreatDoor.Nm St
theorem infoStr:(Tryz.prog.info? 9).map (fun i=>(i.zero,i.size,i.bytes))=some (some (.string ⟨#[]⟩),1,16):=by kernel_rfl
theorem vrows_at:∀ {R:List (TE×Value)} {i:Nat} {p:TE×Value},R[i]? =some p→∀ {j:Nat} {u:Value},(vcells p.1 p.2)[j]? =some u→(vrows R)[i*11+j]? =some u
 |q::r,0,p,h,j,u,hj=>by
  obtain rfl:=Option.some.inj h
  have hl:=(List.getElem?_eq_some_iff.1 hj).1
  rw[vrows,List.flatMap_cons,Nat.zero_mul,Nat.zero_add,List.getElem?_append_left hl];exact hj
 |q::r,i+1,p,h,j,u,hj=>by
  have:=vrows_at (R:=r) (i:=i) (p:=p) h hj
  rw[vrows,List.flatMap_cons,List.getElem?_append_right (by rw[vcells_len];omega),vcells_len,show (i+1)*11+j - 11=i*11+j by omega]
  exact this
end Go.Proofs.YtnmejonfdfdegaaGreatDoor.Sr
