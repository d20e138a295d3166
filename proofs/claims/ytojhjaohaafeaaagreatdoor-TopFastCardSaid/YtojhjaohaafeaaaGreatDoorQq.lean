/- A tree of answers is right where its check says so. -/
import Derived.Test.YtojhjaohaafeaaaGreatDoorQp
import Derived.Test.YtojhjaohaafeaaaGreatDoorQf
import Derived.KernelRfl
set_option maxRecDepth 20000
set_option maxHeartbeats 8000000
open Go.Proofs.Tryz
namespace Go.Proofs.YtojhjaohaafeaaaGreatDoor
noncomputable def DT.chk(t:DT):Bool:=DT.rec (motive:=fun _=>Bool) (fun a b r=>Option.rec (motive:=fun _=>Bool) false (fun x=>bq9 x r) (rn a b)) (fun _ _ _ _ _ i j=>Bool.rec (motive:=fun _=>Bool) false j i) t
theorem DT.chk_ok:∀ {t:DT},t.chk=true->t.Ok prog 73
 |.leaf a b r,h=>by
  have h:Option.rec (motive:=fun _=>Bool) false (fun x=>bq9 x r) (rn a b)=true:=h
  cases e:rn a b with
  |none=>rw[e] at h;cases h
  |some x=>rw[e] at h;cases bq9_ok x r h;exact rS e
 |.node _ _ _ l r,h=>by
  have h:Bool.rec (motive:=fun _=>Bool) false r.chk l.chk=true:=h
  cases e:l.chk with
  |false=>rw[e] at h;cases h
  |true=>rw[e] at h;exact⟨DT.chk_ok e,DT.chk_ok h⟩
end Go.Proofs.YtojhjaohaafeaaaGreatDoor
