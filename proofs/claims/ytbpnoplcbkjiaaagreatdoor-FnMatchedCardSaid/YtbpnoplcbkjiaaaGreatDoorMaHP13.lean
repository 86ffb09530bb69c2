/-
 Plain lemmas on the models, part 13.
-/
import Derived.Test.YtbpnoplcbkjiaaaGreatDoorMaHP12
namespace Go.Proofs.Tryz
open Go.Av
set_option maxRecDepth 100000
set_option linter.unusedSimpArgs false
set_option linter.unusedVariables false
def Ul (d:Int) (x:ak):ak:=⟨x.Kind,x.Op,x.Text,x.Other,x.Kids.map fun k=>IntKind.wrap .i64 (k+d)⟩
theorem akr {b:Int} {x:ak} (h:∀ k,k∈x.Kids→ -9223372036854775808≤k+b∧k+b≤9223372036854775807):Ul b x=nR b x:=by
 simp only [Ul,nR]
 congr 1
 exact List.map_congr_left fun k hk=>wrap64 (h k hk).1 (h k hk).2
def Pp (b:Nat):List (List ak)→List ak
 | []=>[]
 | p::ps=>p.map (Ul (b:Int))++Pp (b+p.length) ps
def Pq (b:Nat):List (List ak)→List Int
 | []=>[]
 | p::ps=>(((b+p.length:Nat):Int) - 1)::Pq (b+p.length) ps
def GQ (k o:Int) (x y:List UInt8) (ps:List (List ak)):List ak:=Pp 0 ps++[⟨k,o,x,y,Pq 0 ps⟩]
mutual
def Um (h:List fA):aj→List ak
 | ⟨k,o,x,y,ks⟩=>match (if hB k x=true then h.find? (fun f=>f.Name==x) else none) with
  | some f=>if f.Part.length=0 then GQ k o x y (Ad h ks) else f.Part
  | none=>GQ k o x y (Ad h ks)
def Ad (h:List fA):List aj→List (List ak)
 | []=>[]
 | t::ts=>Um h t::Ad h ts
end
end Go.Proofs.Tryz
