/-
 The walks that show that the code computes the models, part 4.
-/
import Derived.Test.YtgdlfplnfjnbdaaGreatDoorFlGW3
import Derived.Shelf.Strconv.Itoa3
import Derived.Shelf.Strconv.Itoa3
import Derived.Shelf.Strconv.Atoi
import Derived.Shelf.Strconv.AtoiErr
import Derived.Shelf.Strings.Prefix
import Derived.Lib.AppendIntMem
import Derived.Lib.AtoiBound
import Derived.Lib.AtoiErrMem
import Derived.WalkKit
import Derived.BigCall
namespace Go.Proofs.Tryz
open Go.Av
set_option maxRecDepth 100000
set_option maxHeartbeats 8000000
set_option linter.all false
variable [EV]
def amN {r:gN} (h:PL=some r):
    aR 146 [] [] (.own 100) [(100,vN r)]:=by rw [PL] at h;exact aS Tryz.func146 rfl (cV 100<|cV 100<|aN<|by cases h;exact eG [(100,100)] (.inr rfl)<|aL.one rfl<|oT (t:=0) (r:=.own 100))
def amO (a0:Int) {r:LU} (h:Md a0=some r):
    aR 122 [aj a0] [] (aG r) []:=by rw [Md] at h;exact aS Tryz.func122 rfl (cV 100<|aK<|aX<|cV 100<|cI h (fun _ h=>cV 100<|by cases h;exact e1 2 id) fun _ h=>bB h fun dP Nn h=>(cC 1 100 (pE a0 10 26 Nn) au<|cI h (fun _ h=>bB h fun sV wB h=>(bB h fun e18 Jq h=>(aH mix<|wC (aco wB) au [] [(100,100)] [100]<|wR 2 101<|W.kK Dk bX Jq 100 1 ak<|W.qU Dk bX Jq 9 100 0 (aG e18) ak ak<|wR 1 101<|wF<|by cases h;exact e1 2 id))) fun _ h=>bB h fun ji hx25 h=>(cC 1 100 (pE a0 30 68 hx25) au<|cI h (fun _ h=>bB h fun mR hx29 h=>(bB h fun e24 QH h=>(aH mix<|wC (amN hx29) au [] [(100,100)] [100]<|wR 2 101<|W.kK Dk bX QH 100 1 ak<|W.qU Dk bX QH 9 100 0 (aG e24) ak ak<|wR 1 101<|wF<|by cases h;exact e1 2 id))) fun _ h=>aV<|cV 100<|by cases h;exact e1 2 id)))
def Rc (N:Nat) (a0:lq) {r:Bool} (h:BJ N a0=some r):
    aR 101 [.agg [aj a0.Kind,aG a0.Text,aj a0.At]] [] (av r) []:=by rw [BJ] at h;exact aS Tryz.func101 rfl (cV 100<|cV 101<|aK<|cV 101<|aX<|cV 101<|cI h (fun _ h=>bB h fun y20 hv38 h=>bE (tl 71 [(2,av y20)]) [] mix (by exact wR 3 101<|wJ 13 hv38 (fun hv38=>wR 2 101<|bB hv38 fun Yt zX hv38=>(W.pz Dk zX ak<|wR 3 101<|wJ 19 hv38 (fun hv38=>wR 2 101<|bB hv38 fun ig wI hv38=>(w0 (amF N a0.Text wI) au<|wR 2 101<|by cases hv38;exact fS [] [2])) fun hv38=>wR 5 101<|by cases hv38;exact fS [] [2])) fun hv38=>wR 11 101<|by cases hv38;exact fS [] [2])<|by cases h;exact e1 2 id) fun _ h=>cV 101<|cI h (fun _ h=>bB h fun y24 jq h=>bE (tl 71 [(2,av y24)]) [] mix (by exact wR 3 101<|wJ 28 jq (fun jq=>wR 2 101<|bB jq fun zk wL jq=>(w0 (amG N a0.Text 0 wL) au<|wR 4 101<|by cases jq;exact fS [] [2])) fun jq=>wR 7 101<|by cases jq;exact fS [] [2])<|by cases h;exact e1 2 id) fun _ h=>cV 101<|cI h (fun _ h=>bB h fun oJ qV h=>(cC 2 101 (amL N a0.Text 0 qV) au<|by cases h;exact e1 2 id)) fun _ h=>cV 101<|cI h (fun _ h=>bB h fun pY su h=>(cC 2 101 (amM N a0.Text 0 su) au<|by cases h;exact e1 2 id)) fun _ h=>dw (fun (⟨a0,qz⟩:(lq×Bool))=>⟨tl 71 [(1,.loc 100 0),(8,aj a0.Kind),(49,av qz)],[(100,.cells 98 [aj a0.Kind,aG a0.Text,aj a0.At])]⟩) (fun i=>BI N i=some r) (by rintro ⟨a0,qz⟩ nu;rw [BI] at nu;exact cI nu (fun _ nu=>bB nu fun r32 amP nu=>(cC 2 101 (Ra N a0.Text amP) au<|by cases nu;exact e1 2 id)) fun _ nu=>cV 101<|cI nu (fun _ nu=>bB nu fun jT Fv nu=>(cC 2 101 (Wd N a0.Text Fv) au<|by cases nu;exact e1 2 id)) fun _ nu=>aV<|bB nu fun DU FB nu=>bE (tl 71 [(2,av DU)]) [] mix (by exact wR 4 101<|wJ 63 FB (fun FB=>wR 2 101<|bB FB fun dR wE FB=>(w0 (amO a0.Kind wE) au<|wR 5 101<|by cases FB;exact fS [] [2])) fun FB=>wR 8 101<|by cases FB;exact fS [] [2])<|by cases nu;exact e1 2 id)<|by intro acz;exact cV 101<|cI h (fun _ h=>sK acz (a0,(a0.Kind==6)) h [(100,100)] [1,8,49]) fun _ h=>cK 101 acz (a0,(a0.Kind==7)) h [(100,100)] [1,8,49])
def amQ (N:Nat) (a0:aB) {r:Bool} (h:Me N a0=some r):
    aR 77 [.agg<|gF a0] [] (av r) []:=by rw [Me] at h;exact aS Tryz.func77 rfl (cV 100<|aK<|cV 101<|aX<|dw (fun (⟨a0,PN⟩:(aB×Bool))=>⟨tl 117 [(1,.loc 100 0),(4,aj a0.Kind),(5,av PN)],[(100,.cells 43<|gF a0)]⟩) (fun i=>xP N i=some r) (by rintro ⟨a0,PN⟩ h72;rw [xP] at h72;exact cI h72 (fun _ h72=>bB h72 fun y28 FC h72=>bE (tl 117 [(2,av y28)]) [] mix (by exact wR 2 101<|bB FC fun pY Ny FC=>(w0 (Ra N a0.Text Ny) au<|wR 1 101<|wJ 15 FC (fun FC=>wR 5 101<|by cases FC;exact fS [] [2]) fun FC=>wR 5 101<|by cases FC;exact fS [] [2]))<|by cases h72;exact e1 2 id) fun _ h72=>cV 101<|cI h72 (fun _ h72=>bB h72 fun y31 FD h72=>bE (tl 117 [(2,av y31)]) [] mix (by exact wR 3 101<|bB FD fun r32 zU FD=>(w0 (Rc N (⟨3,a0.Text,0⟩:lq) zU) au<|wR 1 101<|wJ 26 FD (fun FD=>wR 5 101<|by cases FD;exact fS [] [2]) fun FD=>wR 5 101<|by cases FD;exact fS [] [2]))<|by cases h72;exact e1 2 id) fun _ h72=>cV 101<|cI h72 (fun _ h72=>bB h72 fun y34 FE h72=>bE (tl 117 [(2,av y34)]) [] mix (by exact wR 3 101<|bB FE fun bQ Fh FE=>(w0 (Rc N (⟨4,a0.Text,0⟩:lq) Fh) au<|wR 1 101<|wJ 37 FE (fun FE=>wR 5 101<|by cases FE;exact fS [] [2]) fun FE=>wR 5 101<|by cases FE;exact fS [] [2]))<|by cases h72;exact e1 2 id) fun _ h72=>cV 101<|cI h72 (fun _ h72=>bB h72 fun nP FH h72=>bE (tl 117 [(2,av nP)]) [] mix (by exact wR 3 101<|bB FH fun KX hx95 FH=>(w0 (Rc N (⟨5,a0.Text,0⟩:lq) hx95) au<|wR 1 101<|wJ 48 FH (fun FH=>wR 5 101<|by cases FH;exact fS [] [2]) fun FH=>wR 5 101<|by cases FH;exact fS [] [2]))<|by cases h72;exact e1 2 id) fun _ h72=>cV 101<|cI h72 (fun _ h72=>bB h72 fun pV FI h72=>bE (tl 117 [(2,av pV)]) [] mix (by exact wR 3 101<|bB FI fun rM hx101 FI=>(w0 (Rc N (⟨2,a0.Text,0⟩:lq) hx101) au<|wR 1 101<|wJ 59 FI (fun FI=>wR 5 101<|by cases FI;exact fS [] [2]) fun FI=>wR 5 101<|by cases FI;exact fS [] [2]))<|by cases h72;exact e1 2 id) fun _ h72=>cV 101<|cI h72 (fun _ h72=>bB h72 fun mZ FJ h72=>bE (tl 117 [(2,av mZ)]) [] mix (by exact wR 2 101<|bB FJ fun uH Vr FJ=>(w0 (Wd N a0.Text Vr) au<|wR 1 101<|wJ 69 FJ (fun FJ=>wR 5 101<|by cases FJ;exact fS [] [2]) fun FJ=>wR 5 101<|by cases FJ;exact fS [] [2]))<|by cases h72;exact e1 2 id) fun _ h72=>cV 101<|cI h72 (fun _ h72=>bB h72 fun lu hv113 h72=>bE (tl 117 [(2,av lu)]) [] mix (by exact wR 2 101<|bB hv113 fun En hx114 hv113=>(w0 (Ra N a0.Text hx114) au<|wR 1 101<|wJ 79 hv113 (fun hv113=>wR 2 101<|bB hv113 fun Eo Vz hv113=>(w0 (Ra N a0.Other Vz) au<|wR 2 101<|by cases hv113;exact fS [] [2])) fun hv113=>wR 5 101<|by cases hv113;exact fS [] [2]))<|by cases h72;exact e1 2 id) fun _ h72=>cV 101<|cI h72 (fun _ h72=>bB h72 fun uM pG h72=>bE (tl 117 [(2,av uM)]) [] mix (by exact wR 4 101<|wJ 89 pG (fun pG=>wR 4 101<|wJ 93 pG (fun pG=>wR 16 101<|by cases pG;exact fS [] [2]) fun pG=>wR 5 101<|wJ 98 pG (fun pG=>wR 11 101<|by cases pG;exact fS [] [2]) fun pG=>wR 5 101<|wJ 103 pG (fun pG=>wR 6 101<|by cases pG;exact fS [] [2]) fun pG=>wR 6 101<|by cases pG;exact fS [] [2]) fun pG=>wR 20 101<|by cases pG;exact fS [] [2])<|by cases h72;exact e1 2 id) fun _ h72=>aV<|bB h72 fun Td NZ h72=>bE (tl 117 [(2,av Td)]) [] mix (by exact wR 4 101<|wJ 112 NZ (fun NZ=>wR 5 101<|by cases NZ;exact fS [] [2]) fun NZ=>wR 5 101<|by cases NZ;exact fS [] [2])<|by cases h72;exact e1 2 id)<|by intro yF;exact cV 101<|cI h (fun _ h=>sK yF (a0,(a0.Kind==1)) h [(100,100)] [1,4,5]) fun _ h=>cV 101<|cI h (fun _ h=>sK yF (a0,(a0.Kind==5)) h [(100,100)] [1,4,5]) fun _ h=>cV 101<|cI h (fun _ h=>sK yF (a0,(a0.Kind==7)) h [(100,100)] [1,4,5]) fun _ h=>cV 101<|cI h (fun _ h=>sK yF (a0,(a0.Kind==13)) h [(100,100)] [1,4,5]) fun _ h=>cV 101<|cI h (fun _ h=>sK yF (a0,(a0.Kind==27)) h [(100,100)] [1,4,5]) fun _ h=>cK 101 yF (a0,(a0.Kind==44)) h [(100,100)] [1,4,5])
def amR (N:Nat) (a0:aB) {r:Bool} (h:qK N a0=some r):
    aR 57 [.agg<|gF a0] [] (av r) []:=by rw [qK] at h;exact aS Tryz.func57 rfl (cV 100<|bB h fun r2 hx2 h=>(cC 1 101 (amw a0 hx2) au<|bB h fun y6 lU h=>bE (tl 41 [(1,.loc 100 0),(3,aj r2.1),(4,aj r2.2),(5,av y6)]) [(100,.cells 43<|gF a0)] mix (by exact wR 2 101<|bB lU fun r7 nZ lU=>(w0 (pE a0.Kind 1 16 nZ) au<|wR 1 101<|wJ 14 lU (fun lU=>wR 10 101<|by cases lU;exact fS [(100,100)] [1,3,4,5]) fun lU=>wR 2 101<|bB lU fun r8 zQ lU=>(w0 (pE a0.Kind 20 34 zQ) au<|wR 2 101<|wJ 19 lU (fun lU=>wR 5 101<|by cases lU;exact fS [(100,100)] [1,3,4,5]) fun lU=>wR 2 101<|bB lU fun r9 Cj lU=>(w0 (pE a0.Kind 40 45 Cj) au<|wR 2 101<|by cases lU;exact fS [(100,100)] [1,3,4,5]))))<|bB h fun y13 nE h=>bE (tl 41 [(2,av y13)]) [] mix (by exact wR 2 101<|wJ 25 nE (fun nE=>wR 1 101<|bB nE fun dP wB nE=>(w0 (amA a0 wB) au<|wR 2 101<|wJ 29 nE (fun nE=>wR 1 101<|bB nE fun kE hx24 nE=>(w0 (amQ N a0 hx24) au<|wR 2 101<|wJ 33 nE (fun nE=>wR 2 101<|wN aO a0.Kids []<|wR 2 101<|bB nE fun r16 Fa nE=>(w0 (pE (a0.Kids.length:Int) r2.1 r2.2 Fa) au<|wR 2 101<|by cases nE;exact fS [] [2])) fun nE=>wR 8 101<|by cases nE;exact fS [] [2])) fun nE=>wR 12 101<|by cases nE;exact fS [] [2])) fun nE=>wR 16 101<|by cases nE;exact fS [] [2])<|by cases h;exact e1 2 id))
def acA (a0:Int) {r:Bool} (h:Ik a0=some r):
    aR 78 [aj a0] [] (av r) []:=by rw [Ik] at h;exact aS Tryz.func78 rfl (cV 100<|bB h fun y1 hv3 h=>bE (tl 13 [(2,av y1)]) [] mix (by exact wR 3 100<|wJ 5 hv3 (fun hv3=>wR 8 100<|by cases hv3;exact fS [] [2]) fun hv3=>wR 4 100<|wJ 9 hv3 (fun hv3=>wR 4 100<|by cases hv3;exact fS [] [2]) fun hv3=>wR 4 100<|by cases hv3;exact fS [] [2])<|by cases h;exact e1 2 id)
def oh (a0:Int) {r:Bool} (h:jw a0=some r):
    aR 40 [aj a0] [] (av r) []:=by rw [jw] at h;exact aS Tryz.func40 rfl (cV 100<|bB h fun r2 hx2 h=>(cC 1 100 (pE a0 1 15 hx2) au<|by cases h;exact e1 2 id))
def amS (a0:Int) {r:Bool} (h:Mf a0=some r):
    aR 79 [aj a0] [] (av r) []:=by rw [Mf] at h;exact aS Tryz.func79 rfl (cV 100<|bB h fun r2 hx2 h=>(cC 1 100 (pE a0 20 34 hx2) au<|by cases h;exact e1 2 id))
def amT (a0:aB) (a1:Int) (a2:Int) {r:Bool} (h:iA a0 a1 a2=some r):
    aR 58 [.agg<|gF a0,aj a1,aj a2] [] (av r) []:=by rw [iA] at h;exact aS Tryz.func58 rfl (cV 100<|aH mix<|wR 3 101<|wN aO a0.Kids []<|wR 3 101<|wF<|cV 101<|aK<|cV 101<|aX<|dw (fun (⟨a1,a2,a0,PS⟩:(Int×Int×aB×Bool))=>⟨tl 184 [(1,aj a1),(2,aj a2),(3,.loc 100 0),(7,av<|a1==(wr<|(a0.Kids.length:Int) - 1)),(8,av<|a2==33),(18,aj a0.Kind),(19,av PS)],[(100,.cells 43<|gF a0)]⟩) (fun i=>lG i=some r) (by rintro ⟨a1,a2,a0,PS⟩ dZ;rw [lG] at dZ;exact cI dZ (fun _ dZ=>bB dZ fun dD amU dZ=>(cC 1 101 (acA a2 amU) au<|by cases dZ;exact e1 6 id)) fun _ dZ=>cV 101<|cI dZ (fun _ dZ=>bB dZ fun Ti tT dZ=>bE (tl 184 [(6,av Ti)]) [] mix (by exact wR 1 101<|bB tT fun gP amV tT=>(w0 (oh a2 amV) au<|wR 1 101<|wJ 28 tT (fun tT=>wR 3 101<|wJ 31 tT (fun tT=>wR 5 101<|by cases tT;exact fS [] [6]) fun tT=>wR 1 101<|bB tT fun iW amW tT=>(w0 (acA a2 amW) au<|wR 3 101<|by cases tT;exact fS [] [6])) fun tT=>wR 8 101<|by cases tT;exact fS [] [6]))<|by cases dZ;exact e1 6 id) fun _ dZ=>cV 101<|cI dZ (fun _ dZ=>bB dZ fun zu nG dZ=>bE (tl 184 [(6,av zu)]) [] mix (by exact wR 3 101<|wJ 40 nG (fun nG=>wR 1 101<|bB nG fun Mc amX nG=>(w0 (oh a2 amX) au<|wR 2 101<|wJ 44 nG (fun nG=>wR 7 101<|by cases nG;exact fS [] [6]) fun nG=>wR 3 101<|wJ 47 nG (fun nG=>wR 4 101<|by cases nG;exact fS [] [6]) fun nG=>wR 4 101<|by cases nG;exact fS [] [6])) fun nG=>wR 7 101<|wJ 47 nG (fun nG=>wR 4 101<|by cases nG;exact fS [] [6]) fun nG=>wR 4 101<|by cases nG;exact fS [] [6])<|by cases dZ;exact e1 6 id) fun _ dZ=>cV 101<|cI dZ (fun _ dZ=>bB dZ fun rQ nH dZ=>bE (tl 184 [(6,av rQ)]) [] mix (by exact wR 3 101<|wJ 55 nH (fun nH=>wR 1 101<|bB nH fun qD amY nH=>(w0 (oh a2 amY) au<|wR 2 101<|wJ 59 nH (fun nH=>wR 7 101<|by cases nH;exact fS [] [6]) fun nH=>wR 3 101<|wJ 62 nH (fun nH=>wR 4 101<|by cases nH;exact fS [] [6]) fun nH=>wR 4 101<|by cases nH;exact fS [] [6])) fun nH=>wR 7 101<|wJ 62 nH (fun nH=>wR 4 101<|by cases nH;exact fS [] [6]) fun nH=>wR 4 101<|by cases nH;exact fS [] [6])<|by cases dZ;exact e1 6 id) fun _ dZ=>cV 101<|cI dZ (fun _ dZ=>bB dZ fun Tj lV dZ=>bE (tl 184 [(6,av Tj)]) [] mix (by exact wR 3 101<|wJ 70 lV (fun lV=>wR 3 101<|wJ 73 lV (fun lV=>wR 8 101<|by cases lV;exact fS [] [6]) fun lV=>wR 3 101<|wJ 76 lV (fun lV=>wR 1 101<|bB lV fun Dh amZ lV=>(w0 (oh a2 amZ) au<|wR 3 101<|by cases lV;exact fS [] [6])) fun lV=>wR 5 101<|by cases lV;exact fS [] [6]) fun lV=>wR 6 101<|wJ 76 lV (fun lV=>wR 1 101<|bB lV fun vR ana lV=>(w0 (oh a2 ana) au<|wR 3 101<|by cases lV;exact fS [] [6])) fun lV=>wR 5 101<|by cases lV;exact fS [] [6])<|by cases dZ;exact e1 6 id) fun _ dZ=>cV 101<|cI dZ (fun _ dZ=>bB dZ fun oF kN dZ=>bE (tl 184 [(6,av oF)]) [] mix (by exact wR 3 101<|wJ 85 kN (fun kN=>wR 1 101<|bB kN fun sS anb kN=>(w0 (oh a2 anb) au<|wR 1 101<|wJ 88 kN (fun kN=>wR 12 101<|by cases kN;exact fS [] [6]) fun kN=>wR 5 101<|wJ 93 kN (fun kN=>wR 7 101<|by cases kN;exact fS [] [6]) fun kN=>wR 3 101<|wJ 96 kN (fun kN=>wR 4 101<|by cases kN;exact fS [] [6]) fun kN=>wR 4 101<|by cases kN;exact fS [] [6])) fun kN=>wR 11 101<|wJ 96 kN (fun kN=>wR 4 101<|by cases kN;exact fS [] [6]) fun kN=>wR 4 101<|by cases kN;exact fS [] [6])<|by cases dZ;exact e1 6 id) fun _ dZ=>dw (fun (⟨a1,a2,a0,PO⟩:(Int×Int×aB×Bool))=>⟨tl 184 [(1,aj a1),(2,aj a2),(3,.loc 100 0),(7,av<|a1==(wr<|(a0.Kids.length:Int) - 1)),(8,av<|a2==33),(18,aj a0.Kind),(100,av PO)],[(100,.cells 43<|gF a0)]⟩) (fun i=>qL i=some r) (by rintro ⟨a1,a2,a0,PO⟩ fU;rw [qL] at fU;exact cI fU (fun _ fU=>cV 101<|by cases fU;exact e1 6 id) fun _ fU=>cV 101<|cI fU (fun _ fU=>bB fU fun sQ VD fU=>(cC 1 101 (amS a2 VD) au<|by cases fU;exact e1 6 id)) fun _ fU=>cV 101<|cI fU (fun _ fU=>bB fU fun Te aW fU=>bE (tl 184 [(6,av Te)]) [] mix (by exact wR 4 101<|wJ 114 aW (fun aW=>wR 1 101<|bB aW fun nN anc aW=>(w0 (oh a2 anc) au<|wR 2 101<|wJ 118 aW (fun aW=>wR 27 101<|by cases aW;exact fS [] [6]) fun aW=>wR 4 101<|wJ 122 aW (fun aW=>wR 4 101<|wJ 126 aW (fun aW=>wR 19 101<|by cases aW;exact fS [] [6]) fun aW=>wR 4 101<|wJ 130 aW (fun aW=>wR 2 101<|wJ 132 aW (fun aW=>wR 3 101<|wJ 135 aW (fun aW=>wR 10 101<|by cases aW;exact fS [] [6]) fun aW=>wR 3 101<|wJ 138 aW (fun aW=>wR 1 101<|bB aW fun kC ane aW=>(w0 (oh a2 ane) au<|wR 5 101<|by cases aW;exact fS [] [6])) fun aW=>wR 7 101<|by cases aW;exact fS [] [6]) fun aW=>wR 6 101<|wJ 138 aW (fun aW=>wR 1 101<|bB aW fun gK anf aW=>(w0 (oh a2 anf) au<|wR 5 101<|by cases aW;exact fS [] [6])) fun aW=>wR 7 101<|by cases aW;exact fS [] [6]) fun aW=>wR 15 101<|by cases aW;exact fS [] [6]) fun aW=>wR 8 101<|wJ 130 aW (fun aW=>wR 2 101<|wJ 132 aW (fun aW=>wR 3 101<|wJ 135 aW (fun aW=>wR 10 101<|by cases aW;exact fS [] [6]) fun aW=>wR 3 101<|wJ 138 aW (fun aW=>wR 1 101<|bB aW fun oH ang aW=>(w0 (oh a2 ang) au<|wR 5 101<|by cases aW;exact fS [] [6])) fun aW=>wR 7 101<|by cases aW;exact fS [] [6]) fun aW=>wR 6 101<|wJ 138 aW (fun aW=>wR 1 101<|bB aW fun Kq anh aW=>(w0 (oh a2 anh) au<|wR 5 101<|by cases aW;exact fS [] [6])) fun aW=>wR 7 101<|by cases aW;exact fS [] [6]) fun aW=>wR 15 101<|by cases aW;exact fS [] [6])) fun aW=>wR 8 101<|wJ 122 aW (fun aW=>wR 4 101<|wJ 126 aW (fun aW=>wR 19 101<|by cases aW;exact fS [] [6]) fun aW=>wR 4 101<|wJ 130 aW (fun aW=>wR 2 101<|wJ 132 aW (fun aW=>wR 3 101<|wJ 135 aW (fun aW=>wR 10 101<|by cases aW;exact fS [] [6]) fun aW=>wR 3 101<|wJ 138 aW (fun aW=>wR 1 101<|bB aW fun Yu ani aW=>(w0 (oh a2 ani) au<|wR 5 101<|by cases aW;exact fS [] [6])) fun aW=>wR 7 101<|by cases aW;exact fS [] [6]) fun aW=>wR 6 101<|wJ 138 aW (fun aW=>wR 1 101<|bB aW fun Yv anj aW=>(w0 (oh a2 anj) au<|wR 5 101<|by cases aW;exact fS [] [6])) fun aW=>wR 7 101<|by cases aW;exact fS [] [6]) fun aW=>wR 15 101<|by cases aW;exact fS [] [6]) fun aW=>wR 8 101<|wJ 130 aW (fun aW=>wR 2 101<|wJ 132 aW (fun aW=>wR 3 101<|wJ 135 aW (fun aW=>wR 10 101<|by cases aW;exact fS [] [6]) fun aW=>wR 3 101<|wJ 138 aW (fun aW=>wR 1 101<|bB aW fun oI ank aW=>(w0 (oh a2 ank) au<|wR 5 101<|by cases aW;exact fS [] [6])) fun aW=>wR 7 101<|by cases aW;exact fS [] [6]) fun aW=>wR 6 101<|wJ 138 aW (fun aW=>wR 1 101<|bB aW fun uw anl aW=>(w0 (oh a2 anl) au<|wR 5 101<|by cases aW;exact fS [] [6])) fun aW=>wR 7 101<|by cases aW;exact fS [] [6]) fun aW=>wR 15 101<|by cases aW;exact fS [] [6])<|by cases fU;exact e1 6 id) fun _ fU=>cV 101<|cI fU (fun _ fU=>bB fU fun Tf nI fU=>bE (tl 184 [(6,av Tf)]) [] mix (by exact wR 3 101<|wJ 149 nI (fun nI=>wR 1 101<|bB nI fun kT anm nI=>(w0 (oh a2 anm) au<|wR 2 101<|wJ 153 nI (fun nI=>wR 7 101<|by cases nI;exact fS [] [6]) fun nI=>wR 3 101<|wJ 156 nI (fun nI=>wR 4 101<|by cases nI;exact fS [] [6]) fun nI=>wR 4 101<|by cases nI;exact fS [] [6])) fun nI=>wR 7 101<|wJ 156 nI (fun nI=>wR 4 101<|by cases nI;exact fS [] [6]) fun nI=>wR 4 101<|by cases nI;exact fS [] [6])<|by cases fU;exact e1 6 id) fun _ fU=>cV 101<|cI fU (fun _ fU=>bB fU fun y99 pJ fU=>bE (tl 184 [(6,av y99)]) [] mix (by exact wR 2 101<|wJ 163 pJ (fun pJ=>wR 3 101<|wJ 166 pJ (fun pJ=>wR 8 101<|by cases pJ;exact fS [] [6]) fun pJ=>wR 3 101<|wJ 169 pJ (fun pJ=>wR 5 101<|by cases pJ;exact fS [] [6]) fun pJ=>wR 5 101<|by cases pJ;exact fS [] [6]) fun pJ=>wR 6 101<|wJ 169 pJ (fun pJ=>wR 5 101<|by cases pJ;exact fS [] [6]) fun pJ=>wR 5 101<|by cases pJ;exact fS [] [6])<|by cases fU;exact e1 6 id) fun _ fU=>cV 101<|cI fU (fun _ fU=>bB fU fun y101 FL fU=>bE (tl 184 [(6,av y101)]) [] mix (by exact wR 1 101<|bB FL fun Ko ano FL=>(w0 (pE a2 40 44 ano) au<|wR 1 101<|wJ 178 FL (fun FL=>wR 4 101<|by cases FL;exact fS [] [6]) fun FL=>wR 4 101<|by cases FL;exact fS [] [6]))<|by cases fU;exact e1 6 id) fun _ fU=>aV<|bB fU fun rJ anp fU=>(cC 1 101 (oh a2 anp) au<|by cases fU;exact e1 6 id))<|by intro Wh;exact cV 101<|cI dZ (fun _ dZ=>sK Wh (a1,a2,a0,(a0.Kind==32)) dZ [(100,100)] [1,2,3,7,8,18,100]) fun _ dZ=>cV 101<|cI dZ (fun _ dZ=>sK Wh (a1,a2,a0,(a0.Kind==40)) dZ [(100,100)] [1,2,3,7,8,18,100]) fun _ dZ=>cK 101 Wh (a1,a2,a0,(a0.Kind==41)) dZ [(100,100)] [1,2,3,7,8,18,100])<|by intro acB;exact cV 101<|cI h (fun _ h=>sK acB (a1,a2,a0,(a0.Kind==9)) h [(100,100)] [1,2,3,7,8,18,19]) fun _ h=>cK 101 acB (a1,a2,a0,(a0.Kind==10)) h [(100,100)] [1,2,3,7,8,18,19])
def anq (N:Nat) (a0:LN) {r:Bool} (h:rT N a0=some r):
    aR 39 [.sl false false<|a0.map<|aA false] [] (av r) []:=by rw [rT] at h;exact aS Tryz.func39 rfl (cV 100<|aK<|bB h fun y8 Ai h=>bE (tl 54 [(0,.sl false false<|a0.map<|aA false),(12,av y8)]) [] mix (by exact wR 1 100<|bB Ai fun r9 Cj Ai=>(w0 (acd N a0 Cj) au<|wR 2 100<|wJ 8 Ai (fun Ai=>wR 4 100<|by cases Ai;exact fS [] [0,12]) fun Ai=>wR 1 100<|bB Ai fun bT anr Ai=>(w0 (amo N a0 anr) au<|wR 2 100<|by cases Ai;exact fS [] [0,12])))<|cI h (fun _ h=>cV 100<|by cases h;exact e1 2 id) fun _ h=>aV<|aK<|cV 100<|aX<|gI (fun (⟨a0,nS⟩:(LN×Int))=>⟨tl 54 [(0,.sl false false<|a0.map<|aA false),(3,aj nS)],[]⟩) (fun n i=>oL N n i=some r) (n0:=N) (i0:=(a0,0)) (wS [] [0,3]) h (fun i h=>by simp [oL] at h)<|by rintro n1 ⟨a0,nS⟩ sF ant;rw [oL] at sF;exact aK<|aH mix<|wR 2 280<|wN (aA false) a0 []<|wR 1 280<|wF<|cI sF (fun _ sF=>aV<|aK<|aX<|aK<|bB sF fun Tt anu sF=>(bB sF fun Yz anv sF=>(aH mix<|wR 2 280<|wX (aA false) anu 5<|wR 1 280<|w0 (amR N Tt anv) au<|wR 1 280<|wF<|cI sF (fun _ sF=>cV 280<|by cases sF;exact e1 2 id) fun _ sF=>aV<|cV 280<|aX<|gI (fun (⟨a0,nS,zC⟩:(LN×Int×Int))=>⟨tl 54 [(0,.sl false false<|a0.map<|aA false),(3,aj nS),(4,aj zC)],[]⟩) (fun n i=>tq N (oL N n1) n i=some r) (n0:=N) (i0:=(a0,nS,0)) (wS [] [0,3,4]) sF (fun i h=>by simp [tq] at h)<|by rintro n2 ⟨a0,nS,zC⟩ kY anw;rw [tq] at kY;exact aK<|bB kY fun Tm anx kY=>(aH mix<|wR 3 340<|wX (aA false) anx 5<|wR 2 340<|wN aO Tm.Kids []<|wR 1 340<|wF<|cI kY (fun _ kY=>aV<|aK<|aX<|bB kY fun Tp anz kY=>(bB kY fun Yw anA kY=>(bB kY fun Yx anB kY=>(bB kY fun Tq hx1182 kY=>(bB kY fun Yy hx1183 kY=>(aH mix<|wR 2 340<|wX (aA false) anz 5<|wR 5 340<|wX (aA false) anA 5<|wR 3 340<|wX aO anB 1<|wR 1 340<|wX (aA false) hx1182 5<|wR 2 340<|w0 (amT Tp zC Tq.Kind hx1183) au<|wR 1 340<|wF<|cI kY (fun _ kY=>cV 340<|by cases kY;exact e1 2 id) fun _ kY=>aV<|cK 340 anw (a0,nS,(wr<|zC+1)) kY [] [0,3,4])))))) fun _ kY=>gV<|cK 340 ant (a0,(wr<|nS+1)) kY [] [0,3])))) fun _ sF=>gV<|cV 280<|by cases sF;exact e1 2 id)
def anC (N:Nat) (a0:LN) {r:Bool} (h:uN N a0=some r):
    aR 22 [.sl false false<|a0.map<|aA false] [] (av r) []:=by rw [uN] at h;exact aS Tryz.func22 rfl (cV 100<|bB h fun y4 hv5 h=>bE (tl 15 [(2,av y4)]) [] mix (by exact wR 1 100<|bB hv5 fun r5 hx6 hv5=>(w0 (anq N a0 hx6) au<|wR 1 100<|wJ 5 hv5 (fun hv5=>wR 2 100<|wN (aA false) a0 []<|wR 1 100<|bB hv5 fun e6 kJ hv5=>(wX (aA false) kJ 5<|wR 2 100<|bB hv5 fun r7 nZ hv5=>(w0 (oh e6.Kind nZ) au<|wR 2 100<|by cases hv5;exact fS [] [2]))) fun hv5=>wR 10 100<|by cases hv5;exact fS [] [2]))<|by cases h;exact e1 2 id)
def acC (a0:Int) {r:Int} (h:Eu a0=some r):
    aR 23 [aj a0] [] (aj r) []:=by rw [Eu] at h;exact aS Tryz.func23 rfl (cV 100<|aK<|cV 100<|aX<|cV 100<|cI h (fun _ h=>cV 100<|by cases h;exact e1 2 id) fun _ h=>cV 100<|cI h (fun _ h=>cV 100<|by cases h;exact e1 2 id) fun _ h=>cV 100<|cI h (fun _ h=>cV 100<|by cases h;exact e1 2 id) fun _ h=>cV 100<|cI h (fun _ h=>cV 100<|by cases h;exact e1 2 id) fun _ h=>dw (fun (⟨a0,y2⟩:(Int×Bool))=>⟨tl 18 [(0,aj a0),(12,av y2)],[]⟩) (fun i=>Et i=some r) (by rintro ⟨a0,y2⟩ h21;rw [Et] at h21;exact cI h21 (fun _ h21=>cV 100<|by cases h21;exact e1 2 id) fun _ h21=>aV<|cV 100<|by cases h21;exact e1 2 id)<|by intro Ad;exact cV 100<|cI h (fun _ h=>sK Ad (a0,(a0==47)) h [] [0,12]) fun _ h=>cV 100<|cI h (fun _ h=>sK Ad (a0,(a0==50)) h [] [0,12]) fun _ h=>cV 100<|cI h (fun _ h=>sK Ad (a0,(a0==55)) h [] [0,12]) fun _ h=>cK 100 Ad (a0,(a0==57)) h [] [0,12])
def anD (N:Nat) (a0:LN) {r:LN} (h:Mg N a0=some r):
    aR 24 [.sl false false<|a0.map<|aA false] [] (.own 100) [(100,.vec false 43 5<|r.map<|aA true)]:=by rw [Mg] at h;exact aS Tryz.func24 rfl (cV 100<|bB h fun r2 hx2 h=>(aH mix<|wR 1 100<|wC (Vm N a0 0 hx2) au [] [(100,100)] [100]<|wR 1 101<|wF<|aN<|by cases h;exact eG [(100,100)] (.inr rfl)<|aL.one rfl<|oT (t:=2) (r:=.own 100)))
def acD (N:Nat) (a0:LN) (a1:Int) {r:LN} (h:Il N a0 a1=some r):
    aR 25 [.sl false false<|a0.map<|aA false,aj a1] [] (.own 100) [(100,.vec false 43 5<|r.map<|aA true)]:=by rw [Il] at h;exact aS Tryz.func25 rfl (cV 100<|bB h fun r2 hx2 h=>(aH mix<|wR 1 100<|wC (abY N a0 hx2) au [] [(100,100)] [100]<|wR 5 101<|wF<|bB h fun e7 hx7 h=>bB h fun l8 kJ h=>(bB h fun e9 nZ h=>(bB h fun bT qQ h=>(aH mix<|wR 3 101<|W.kK Dk aO hx7 100 1 ak<|W.qU Dk aO hx7 3 100 0 (aj e7) ak ak<|wR 2 101<|W.Rf Dk (aA false) kJ false 5 (fun _=>by first|rfl|kernel_rfl) ak<|wR 2 101<|W.kK Dk aO nZ 100 1 ak<|W.qU Dk aO nZ 3 100 0 (aj e9) ak ak<|wR 1 101<|wC (Vm N l8 (wr<|0 - e9) qQ) au [] [(100,101)] [101]<|wR 1 102<|wF<|aN<|by cases h;exact eG [(101,100)] (.inr rfl)<|aL.one rfl<|oT (t:=4) (r:=.own 101))))))
def anE (N:Nat) (a0:LN) {r:(LN×Bool)} (h:Mh N a0=some r):
    aR 7 [.sl false false<|a0.map<|aA false] [] (.dX [.own 100,av r.2]) [(100,.vec false 43 5<|r.1.map<|aA true)]:=by rw [Mh] at h;exact aS Tryz.func7 rfl (cV 100<|aK<|bB h fun iY jM h=>bE (tl 59 [(0,.sl false false<|a0.map<|aA false),(30,av iY)]) [] mix (by exact wR 1 100<|bB jM fun sV hx24 jM=>(w0 (anC N a0 hx24) au<|wR 2 100<|wJ 10 jM (fun jM=>wR 20 100<|by cases jM;exact fS [] [0,30]) fun jM=>wR 2 100<|wN (aA false) a0 []<|wR 1 100<|bB jM fun e18 Fa jM=>(wX (aA false) Fa 5<|wR 5 100<|wJ 20 jM (fun jM=>wR 10 100<|by cases jM;exact fS [] [0,30]) fun jM=>wR 2 100<|wN (aA false) a0 []<|wR 1 100<|bB jM fun e19 hx28 jM=>(wX (aA false) hx28 5<|wR 2 100<|bB jM fun ji hx29 jM=>(w0 (acC e19.Op hx29) au<|wR 2 100<|by cases jM;exact fS [] [0,30])))))<|cI h (fun _ h=>bB h fun ig hx32 h=>(aH mix<|wR 1 100<|wC (anD N a0 hx32) au [] [(100,100)] [100]<|wR 2 101<|wF<|aN<|by cases h;exact eG [(100,100)] (.inr rfl)<|aL.two rfl (oT (t:=2) (r:=.own 100))<|oT (t:=3) (r:=av false))) fun _ h=>aV<|bB h fun e24 hx34 h=>(aH mix<|wR 2 100<|wN (aA false) a0 []<|wR 1 100<|wX (aA false) hx34 5<|wR 3 100<|wF<|bB h fun e27 NT h=>(bB h fun iX hx38 h=>(aH mix<|wR 3 101<|wX aO NT 1<|wR 1 101<|wC (acD N a0 e27 hx38) au [] [(100,101)] [101]<|wR 1 102<|wF<|bB h fun e31 NG h=>(bB h fun r32 wI h=>(aH mix<|wR 3 102<|wX aO NG 1<|wR 1 102<|wC (acD N a0 e31 wI) au [] [(100,102)] [102]<|wR 1 103<|wF<|bB h fun bQ zY h=>(bB h fun jI wH h=>(aH mix<|wR 2 103<|w0 (acC e24.Op zY) au<|wR 4 103<|W.lend (gy N (⟨12,bQ,[],[],[]⟩:aB) [r32,iX] wH) au [(100,104)] [104] (bq.cons (j:=103) (bg true<|aA true) (bg false<|aA false) ([r32,iX]:List LN) ak (gD _<|dO _) lO) (.own _) (.cons (bF.map (fun _=>(.cons (.c _)<|.cons (.c _)<|.cons (.c _)<|.cons (.c _)<|.cons (.sl _ _<|bF.map (fun _=>(.cons (.c _) .nil)) _) .nil)) _) .nil) ak ak<|wR 2 105<|wF<|aN<|by cases h;exact eG [(104,100)] (.inr rfl)<|aL.two rfl (oT (t:=2) (r:=.own 104))<|oT (t:=3) (r:=av true)))))))))
def anF (N:Nat) (a0:List Int) (a1:List Int) {r:Bool} (h:Mi N a0 a1=some r):
    aR 26 [sL aO a0,sL aO a1] [] (av r) []:=by rw [Mi] at h;exact aS Tryz.func26 rfl (cV 100<|aK<|aH mix<|wR 1 100<|wN aO a0 []<|wR 1 100<|wN aO a1 []<|wR 1 100<|wF<|cI h (fun _ h=>cV 100<|by cases h;exact e1 4 id) fun _ h=>aV<|aK<|cV 100<|aX<|gI (fun (⟨a0,a1,eD⟩:((List Int)×(List Int)×Int))=>⟨tl 26 [(0,sL aO a0),(1,sL aO a1),(5,aj eD)],[]⟩) (fun n i=>Ev N n i=some r) (n0:=N) (i0:=(a0,a1,0)) (wS [] [0,1,5]) h (fun i h=>by simp [Ev] at h)<|by rintro n1 ⟨a0,a1,eD⟩ sG anG;rw [Ev] at sG;exact aK<|aH mix<|wR 2 160<|wN aO a0 []<|wR 1 160<|wF<|cI sG (fun _ sG=>aV<|aK<|aX<|bB sG fun e51 EZ sG=>(bB sG fun e52 Ny sG=>(aH mix<|wR 2 160<|wX aO EZ 1<|wR 3 160<|wX aO Ny 1<|wR 2 160<|wF<|cI sG (fun _ sG=>cV 160<|by cases sG;exact e1 4 id) fun _ sG=>aV<|cK 160 anG (a0,a1,(wr<|eD+1)) sG [] [0,1,5]))) fun _ sG=>gV<|cV 160<|by cases sG;exact e1 4 id)
def acE (N:Nat) (a0:LN) (a1:LN) {r:Bool} (h:BK N a0 a1=some r):
    aR 8 [.sl false false<|a0.map<|aA false,.sl false false<|a1.map<|aA false] [] (av r) []:=by rw [BK] at h;exact aS Tryz.func8 rfl (cV 100<|aK<|aH mix<|wR 1 100<|wN (aA false) a0 []<|wR 1 100<|wN (aA false) a1 []<|wR 1 100<|wF<|cI h (fun _ h=>cV 100<|by cases h;exact e1 4 id) fun _ h=>aV<|aK<|cV 100<|aX<|gI (fun (⟨a0,a1,oM⟩:(LN×LN×Int))=>⟨tl 81 [(0,.sl false false<|a0.map<|aA false),(1,.sl false false<|a1.map<|aA false),(5,aj oM)],[]⟩) (fun n i=>Ew N n i=some r) (n0:=N) (i0:=(a0,a1,0)) (wS [] [0,1,5]) h (fun i h=>by simp [Ew] at h)<|by rintro n1 ⟨a0,a1,oM⟩ vv anH;rw [Ew] at vv;exact aK<|aH mix<|wR 2 160<|wN (aA false) a0 []<|wR 1 160<|wF<|cI vv (fun _ vv=>aV<|aK<|aX<|bB vv fun Tv fK vv=>bE (tl 81 [(0,.sl false false<|a0.map<|aA false),(1,.sl false false<|a1.map<|aA false),(5,aj oM),(80,av Tv)]) [] mix (by exact wR 2 160<|bB fK fun e270 anI fK=>(wX (aA false) anI 5<|wR 4 160<|bB fK fun e271 anJ fK=>(wX (aA false) anJ 5<|wR 4 160<|wJ 28 fK (fun fK=>wR 52 160<|by cases fK;exact fS [] [0,1,5,80]) fun fK=>wR 2 160<|bB fK fun e272 anK fK=>(wX (aA false) anK 5<|wR 4 160<|bB fK fun e273 anL fK=>(wX (aA false) anL 5<|wR 5 160<|wJ 41 fK (fun fK=>wR 39 160<|by cases fK;exact fS [] [0,1,5,80]) fun fK=>wR 2 160<|bB fK fun e274 anM fK=>(wX (aA false) anM 5<|wR 4 160<|bB fK fun e275 anN fK=>(wX (aA false) anN 5<|wR 5 160<|wJ 54 fK (fun fK=>wR 26 160<|by cases fK;exact fS [] [0,1,5,80]) fun fK=>wR 2 160<|bB fK fun YA anO fK=>(wX (aA false) anO 5<|wR 4 160<|bB fK fun YB anP fK=>(wX (aA false) anP 5<|wR 5 160<|wJ 67 fK (fun fK=>wR 13 160<|by cases fK;exact fS [] [0,1,5,80]) fun fK=>wR 2 160<|bB fK fun e278 anQ fK=>(wX (aA false) anQ 5<|wR 4 160<|bB fK fun e279 anR fK=>(wX (aA false) anR 5<|wR 2 160<|bB fK fun YC anS fK=>(w0 (anF N e278.Kids e279.Kids anS) au<|wR 2 160<|by cases fK;exact fS [] [0,1,5,80]))))))))))))<|cI vv (fun _ vv=>cV 160<|by cases vv;exact e1 4 id) fun _ vv=>aV<|cK 160 anH (a0,a1,(wr<|oM+1)) vv [] [0,1,5]) fun _ vv=>gV<|cV 160<|by cases vv;exact e1 4 id)
def acF (a0:LU) (a1:Int) {r:Int} (h:xQ a0 a1=some r):
    aR 9 [sL aQ a0,aj a1] [] (aj r) []:=by rw [xQ] at h;exact aS Tryz.func9 rfl (cV 100<|aK<|aH mix<|wR 2 100<|wN aQ a0 []<|wR 1 100<|wF<|cI h (fun _ h=>bB h fun e4 hx6 h=>(aH mix<|wR 2 100<|wX aQ hx6 1<|wR 3 100<|wF<|by cases h;exact e1 4 id)) fun _ h=>aV<|aH mix<|wR 3 100<|wN aQ a0 []<|wR 4 100<|wF<|aN (by have h:=sI h;subst h;exact eG [] (.inr rfl)<|aL.one rfl<|gJ.t (t:=4) (r:=aj (Int.tmod (wr<|(wr<|a1*37)+(wr<|(a0.length:Int)*11)) 256)) ak))
def anT (N:Nat) (a0:List fE) (a1:LU) {r:Int} (h:PU N a0 a1=some r):
    aR 42 [sL qy a0,aG a1] [] (aj r) []:=by rw [PU] at h;exact aS Tryz.func42 rfl (cV 100<|aK<|aH mix<|wR 1 100<|wN qy a0 []<|wR 1 100<|wF<|aX<|gI (fun (⟨a1,a0,dN⟩:(LU×(List fE)×Int))=>⟨tl 20 [(1,aG a1),(7,sL qy a0),(8,aj (a0.length:Int)),(9,aj dN)],[]⟩) (fun n i=>Ey N n i=some r) (n0:=N) (i0:=(a1,a0,0)) (wS [] [1,7,8,9]) h (fun i h=>by simp [Ey] at h)<|by rintro n1 ⟨a1,a0,dN⟩ h43 Fw;rw [Ey] at h43;exact cV 162<|aK<|cI h43 (fun _ h43=>aV<|aK<|aX<|bB h43 fun e28 qV h43=>(aH mix<|wX qy qV 2<|wR 3 162<|wF<|cV 163<|cI h43 (fun _ h43=>cV 163<|by cases h43;exact e1 4 id) fun _ h43=>aV<|cK 163 Fw (a1,a0,(wr<|dN+1)) h43 [] [1,7,8,9])) fun _ h43=>gV<|cV 162<|by cases h43;exact e1 4 id)
def anU:Go.Shelf.Ren:=⟨fun|171=>105|243=>130|246=>150|283=>156|284=>157|285=>158|286=>159|129=>165|317=>164|318=>166|319=>167|320=>168|337=>171|338=>172|n=>n,fun|3=>3|9=>9|2=>2|4=>4|171=>131|0=>0|53=>118|37=>22|5=>5|173=>134|212=>137|51=>138|20=>20|213=>139|46=>77|232=>144|233=>145|n=>n,fun|17=>6|18=>7|19=>8|n=>n⟩
def anV:Go.Proofs.LaysM.n171 Tryz.prog anU where
 mixed:=ak
 f129:=Tryz.func165.trans (congrArg some ak)
 f171:=Tryz.func105.trans (congrArg some ak)
 f243:=Tryz.func130.trans (congrArg some ak)
 f246:=Tryz.func150.trans (congrArg some ak)
 f283:=Tryz.func156.trans (congrArg some ak)
 f284:=Tryz.func157.trans (congrArg some ak)
 f285:=Tryz.func158.trans (congrArg some ak)
 f286:=Tryz.func159.trans (congrArg some ak)
 f317:=Tryz.func164.trans (congrArg some ak)
 f318:=Tryz.func166.trans (congrArg some ak)
 f319:=Tryz.func167.trans (congrArg some ak)
 f320:=Tryz.func168.trans (congrArg some ak)
 f337:=Tryz.func171.trans (congrArg some ak)
 f338:=Tryz.func172.trans (congrArg some ak)
 t0:=Tryz.underlying0
 a0:=Tryz.isAgg0
 z0:=Tryz.sizeOf0
 v0:=Tryz.zeroValue0
 t2:=Tryz.underlying2
 a2:=Tryz.isAgg2
 z2:=Tryz.sizeOf2
 v2:=Tryz.zeroValue2
 t3:=Tryz.underlying3
 a3:=Tryz.isAgg3
 z3:=Tryz.sizeOf3
 v3:=Tryz.zeroValue3
 t4:=Tryz.underlying4
 a4:=Tryz.isAgg4
 z4:=Tryz.sizeOf4
 v4:=Tryz.zeroValue4
 t5:=Tryz.underlying5
 a5:=Tryz.isAgg5
 z5:=Tryz.sizeOf5
 v5:=Tryz.zeroValue5
 t9:=Tryz.underlying9
 a9:=Tryz.isAgg9
 z9:=Tryz.sizeOf9
 v9:=Tryz.zeroValue9
 t20:=Tryz.underlying20
 a20:=Tryz.isAgg20
 z20:=Tryz.sizeOf20
 v20:=Tryz.zeroValue20
 t37:=Tryz.underlying22
 a37:=Tryz.isAgg22
 z37:=Tryz.sizeOf22
 v37:=Tryz.zeroValue22
 t46:=Tryz.underlying77
 a46:=Tryz.isAgg77
 z46:=Tryz.sizeOf77
 v46:=Tryz.zeroValue77
 t51:=Tryz.underlying138
 a51:=Tryz.isAgg138
 z51:=Tryz.sizeOf138
 v51:=Tryz.zeroValue138
 t53:=Tryz.underlying118
 a53:=Tryz.isAgg118
 z53:=Tryz.sizeOf118
 v53:=Tryz.zeroValue118
 t171:=Tryz.underlying131
 a171:=Tryz.isAgg131
 z171:=Tryz.sizeOf131
 v171:=Tryz.zeroValue131
 t173:=Tryz.underlying134
 a173:=Tryz.isAgg134
 z173:=Tryz.sizeOf134
 v173:=Tryz.zeroValue134
 t212:=Tryz.underlying137
 a212:=Tryz.isAgg137
 z212:=Tryz.sizeOf137
 v212:=Tryz.zeroValue137
 t213:=Tryz.underlying139
 a213:=Tryz.isAgg139
 z213:=Tryz.sizeOf139
 t232:=Tryz.underlying144
 a232:=Tryz.isAgg144
 z232:=Tryz.sizeOf144
 v232:=Tryz.zeroValue144
 t233:=Tryz.underlying145
 a233:=Tryz.isAgg145
 z233:=Tryz.sizeOf145
 v233:=Tryz.zeroValue145
 g17:=ak
 g18:=ak
 g19:=ak
 i0:=ak
 i2:=ak
 i3:=ak
 i4:=ak
 i5:=ak
 i9:=ak
 i20:=ak
 i37:=ak
 i46:=ak
 i51:=ak
 i53:=ak
 i171:=ak
 i173:=ak
 i212:=ak
 i232:=ak
 i233:=ak
 m17:=ak
 m18:=ak
 m19:=ak
def Rh:Go.Shelf.Ren:=⟨fun|172=>80|244=>103|245=>104|247=>125|279=>126|280=>127|281=>128|282=>129|287=>147|316=>148|171=>105|205=>149|321=>154|322=>155|243=>130|246=>150|283=>156|284=>157|285=>158|286=>159|129=>165|317=>164|318=>166|319=>167|320=>168|337=>171|338=>172|n=>n,fun|9=>9|3=>3|75=>86|76=>87|4=>4|5=>5|167=>108|37=>22|0=>0|85=>109|2=>2|168=>111|53=>118|175=>119|46=>77|210=>123|127=>127|145=>130|143=>128|21=>21|171=>131|173=>134|212=>137|51=>138|20=>20|213=>139|232=>144|233=>145|80=>146|n=>n,fun|15=>3|16=>4|17=>6|18=>7|19=>8|n=>n⟩
def acG:Go.Proofs.LaysC.n172 Tryz.prog Rh where
 mixed:=ak
 f129:=Tryz.func165.trans (congrArg some ak)
 f171:=Tryz.func105.trans (congrArg some ak)
 f172:=Tryz.func80.trans (congrArg some ak)
 f205:=Tryz.func149.trans (congrArg some ak)
 f243:=Tryz.func130.trans (congrArg some ak)
 f244:=Tryz.func103.trans (congrArg some ak)
 f245:=Tryz.func104.trans (congrArg some ak)
 f246:=Tryz.func150.trans (congrArg some ak)
 f247:=Tryz.func125.trans (congrArg some ak)
 f279:=Tryz.func126.trans (congrArg some ak)
 f280:=Tryz.func127.trans (congrArg some ak)
 f281:=Tryz.func128.trans (congrArg some ak)
 f282:=Tryz.func129.trans (congrArg some ak)
 f283:=Tryz.func156.trans (congrArg some ak)
 f284:=Tryz.func157.trans (congrArg some ak)
 f285:=Tryz.func158.trans (congrArg some ak)
 f286:=Tryz.func159.trans (congrArg some ak)
 f287:=Tryz.func147.trans (congrArg some ak)
 f316:=Tryz.func148.trans (congrArg some ak)
 f317:=Tryz.func164.trans (congrArg some ak)
 f318:=Tryz.func166.trans (congrArg some ak)
 f319:=Tryz.func167.trans (congrArg some ak)
 f320:=Tryz.func168.trans (congrArg some ak)
 f321:=Tryz.func154.trans (congrArg some ak)
 f322:=Tryz.func155.trans (congrArg some ak)
 f337:=Tryz.func171.trans (congrArg some ak)
 f338:=Tryz.func172.trans (congrArg some ak)
 t0:=Tryz.underlying0
 a0:=Tryz.isAgg0
 z0:=Tryz.sizeOf0
 v0:=Tryz.zeroValue0
 t2:=Tryz.underlying2
 a2:=Tryz.isAgg2
 z2:=Tryz.sizeOf2
 v2:=Tryz.zeroValue2
 t3:=Tryz.underlying3
 a3:=Tryz.isAgg3
 z3:=Tryz.sizeOf3
 v3:=Tryz.zeroValue3
 t4:=Tryz.underlying4
 a4:=Tryz.isAgg4
 z4:=Tryz.sizeOf4
 v4:=Tryz.zeroValue4
 t5:=Tryz.underlying5
 a5:=Tryz.isAgg5
 z5:=Tryz.sizeOf5
 v5:=Tryz.zeroValue5
 t9:=Tryz.underlying9
 a9:=Tryz.isAgg9
 z9:=Tryz.sizeOf9
 v9:=Tryz.zeroValue9
 t20:=Tryz.underlying20
 a20:=Tryz.isAgg20
 z20:=Tryz.sizeOf20
 v20:=Tryz.zeroValue20
 t21:=Tryz.underlying21
 a21:=Tryz.isAgg21
 z21:=Tryz.sizeOf21
 v21:=Tryz.zeroValue21
 t37:=Tryz.underlying22
 a37:=Tryz.isAgg22
 z37:=Tryz.sizeOf22
 v37:=Tryz.zeroValue22
 t46:=Tryz.underlying77
 a46:=Tryz.isAgg77
 z46:=Tryz.sizeOf77
 v46:=Tryz.zeroValue77
 t51:=Tryz.underlying138
 a51:=Tryz.isAgg138
 z51:=Tryz.sizeOf138
 v51:=Tryz.zeroValue138
 t53:=Tryz.underlying118
 a53:=Tryz.isAgg118
 z53:=Tryz.sizeOf118
 v53:=Tryz.zeroValue118
 t75:=Tryz.underlying86
 a75:=Tryz.isAgg86
 z75:=Tryz.sizeOf86
 v75:=Tryz.zeroValue86
 t76:=Tryz.underlying87
 a76:=Tryz.isAgg87
 z76:=Tryz.sizeOf87
 v76:=Tryz.zeroValue87
 t85:=Tryz.underlying109
 a85:=Tryz.isAgg109
 z85:=Tryz.sizeOf109
 v85:=Tryz.zeroValue109
 t127:=Tryz.underlying127
 a127:=Tryz.isAgg127
 z127:=Tryz.sizeOf127
 v127:=Tryz.zeroValue127
 t143:=Tryz.underlying128
 a143:=Tryz.isAgg128
 z143:=Tryz.sizeOf128
 v143:=Tryz.zeroValue128
 t145:=Tryz.underlying130
 a145:=Tryz.isAgg130
 z145:=Tryz.sizeOf130
 v145:=Tryz.zeroValue130
 t167:=Tryz.underlying108
 a167:=Tryz.isAgg108
 z167:=Tryz.sizeOf108
 v167:=Tryz.zeroValue108
 t168:=Tryz.underlying111
 a168:=Tryz.isAgg111
 z168:=Tryz.sizeOf111
 v168:=Tryz.zeroValue111
 t171:=Tryz.underlying131
 a171:=Tryz.isAgg131
 z171:=Tryz.sizeOf131
 v171:=Tryz.zeroValue131
 t173:=Tryz.underlying134
 a173:=Tryz.isAgg134
 z173:=Tryz.sizeOf134
 v173:=Tryz.zeroValue134
 t175:=Tryz.underlying119
 a175:=Tryz.isAgg119
 z175:=Tryz.sizeOf119
 v175:=Tryz.zeroValue119
 t210:=Tryz.underlying123
 a210:=Tryz.isAgg123
 z210:=Tryz.sizeOf123
 v210:=Tryz.zeroValue123
 t212:=Tryz.underlying137
 a212:=Tryz.isAgg137
 z212:=Tryz.sizeOf137
 v212:=Tryz.zeroValue137
 t213:=Tryz.underlying139
 a213:=Tryz.isAgg139
 z213:=Tryz.sizeOf139
 t232:=Tryz.underlying144
 a232:=Tryz.isAgg144
 z232:=Tryz.sizeOf144
 v232:=Tryz.zeroValue144
 t233:=Tryz.underlying145
 a233:=Tryz.isAgg145
 z233:=Tryz.sizeOf145
 v233:=Tryz.zeroValue145
 g15:=ak
 g16:=ak
 g17:=ak
 g18:=ak
 g19:=ak
 t80:=Tryz.underlying146
 a80:=Tryz.isAgg146
 z80:=Tryz.sizeOf146
 v80:=Tryz.zeroValue146
 i0:=ak
 i2:=ak
 i3:=ak
 i4:=ak
 i5:=ak
 i9:=ak
 i20:=ak
 i21:=ak
 i37:=ak
 i46:=ak
 i51:=ak
 i53:=ak
 i75:=ak
 i76:=ak
 i80:=ak
 i85:=ak
 i127:=ak
 i143:=ak
 i145:=ak
 i167:=ak
 i168:=ak
 i171:=ak
 i173:=ak
 i175:=ak
 i210:=ak
 i212:=ak
 i232:=ak
 i233:=ak
 m15:=ak
 m16:=ak
 m17:=ak
 m18:=ak
 m19:=ak
 c0:=ak
 c2:=ak
 c3:=ak
 c4:=ak
 c5:=ak
 c9:=ak
 c20:=ak
 c21:=ak
 c37:=ak
 c46:=ak
 c51:=ak
 c53:=ak
 c75:=ak
 c76:=ak
 c80:=ak
 c85:=ak
 c127:=ak
 c143:=ak
 c145:=ak
 c167:=ak
 c168:=ak
 c171:=ak
 c173:=ak
 c175:=ak
 c210:=ak
 c212:=ak
 c213:=ak
 c232:=ak
 c233:=ak
def anW:Go.Shelf.Ren:=⟨fun|101=>82|208=>106|206=>131|n=>n,fun|9=>9|4=>4|3=>3|n=>n,fun|n=>n⟩
def Wi:Go.Proofs.Lays.n101 Tryz.prog anW where
 mixed:=ak
 f101:=Tryz.func82.trans (congrArg some ak)
 f206:=Tryz.func131.trans (congrArg some ak)
 f208:=Tryz.func106.trans (congrArg some ak)
 t3:=Tryz.underlying3
 a3:=Tryz.isAgg3
 z3:=Tryz.sizeOf3
 v3:=Tryz.zeroValue3
 t4:=Tryz.underlying4
 a4:=Tryz.isAgg4
 z4:=Tryz.sizeOf4
 v4:=Tryz.zeroValue4
 t9:=Tryz.underlying9
 a9:=Tryz.isAgg9
 z9:=Tryz.sizeOf9
 v9:=Tryz.zeroValue9
open Go.RowKit in
def Wj (n:Int) (h0: -9223372036854775808<=n) (h1:n<=9223372036854775807) (w:World) (ht:Lib.TabIs Tryz.prog w "internal/strconv.uint64pow10" .u64 Lib.pow10Tab):
  Calls Tryz.prog 81 #[.int .i64 n] w fun e w'=>e=.returned (.string ⟨(Lib.itoa n).toArray⟩)/\Below w.heap.size w w':=by go_enter Tryz.func81,Tryz.ntmps81;go_wp2_with (go_at_call 105;refine (Any.strconv_Itoa anV n h0 h1 _ ht).mono ?_;rintro e w' ⟨rfl,k,os,rfl⟩);go_ret;exact ⟨rfl,Lib.below_grow _ _ (fq _) _ _⟩
open Go.RowKit in
def anX:Wm Tryz.prog 60 3:=fun l hl ev w hv hev ht=>by
 have hsz:(⟨l.toArray⟩:ByteArray).size<=18:=by show l.toArray.size<=18;simpa using hl
 unfold BM;cases h:Lib.atoi l with
 | none=>
  have he:=Any.strconv_Atoi_err acG ⟨l.toArray⟩ hsz (by simpa using h) ev
  go_enter Tryz.func60,Tryz.ntmps60
  go_wp2_with (go_at_call 80;refine (he _ ?_ hev).mono ?_)
  .exact hv
  rintro e W1 ⟨M,rfl,-,-,hb⟩
  go_wp2
  go_ret2
  exact ⟨rfl,hb⟩
 | some n=>
  have hb:=Lib.atoi_bound h hl;have hT:=Lib.tabBelow_of_tabIs ht;have fin:∀ w1,Below w.heap.size w w1->∀ w2,Below w1.heap.size w1 w2->Below w.heap.size w w2:=fun w1 h1 w2 h2=>h1.trans (h2.mono h1.size);have ha:=Any.strconv_Atoi {acG with} ⟨l.toArray⟩ n hsz (by simpa using h);clear h hv hev ht;show Calls Tryz.prog 60 #[.string ⟨l.toArray⟩] w fun e w'=>e=.returned (.tuple #[.int .i64 (if Lib.itoa n=l/\(Lib.trimPrefix l [45]).length<=9 then (n,true) else (0,false):Int×Bool).1,.bool (if Lib.itoa n=l/\(Lib.trimPrefix l [45]).length<=9 then (n,true) else (0,false):Int×Bool).2])/\Below w.heap.size w w';by_cases h1:Lib.itoa n=l
  .by_cases h2:(Lib.trimPrefix l [45]).length<=9
   .rw [bC ⟨h1,h2⟩];have h2': ¬(9 < ((Lib.trimPrefix l [45]).length:Int)):=ah
    go_enter Tryz.func60,Tryz.ntmps60
    go_wp2_with (first
     | (go_at_call 80;refine (ha _).mono ?_;rintro e w1 ⟨rfl,t,rfl⟩;have hb1:Below w.heap.size w (Lib.bytesWorld w (Rh.t 5) t):=Lib.bytesWorld_below _ _ _)
     | (go_at_call 81;refine (Wj n ah ah _ (hT.on<|by assumption).here).mono ?_;rintro e w2 ⟨rfl,hq⟩;have hb2:=fin _ (by assumption) _ hq)
     | (go_at_call 82;refine (Any.strings_TrimPrefix Wi ⟨l.toArray⟩ ⟨#[45]⟩ _).mono ?_;rintro e w3 ⟨rfl,rfl⟩))
    all_goals first
     | (exfalso;simp_all;done)
     | (exfalso;omega)
     | (go_ret2;exact ⟨rfl,by assumption⟩)
   .rw [aT fun h=>h2 h.2];have h2':9 < ((Lib.trimPrefix l [45]).length:Int):=ah
    go_enter Tryz.func60,Tryz.ntmps60
    go_wp2_with (first
     | (go_at_call 80;refine (ha _).mono ?_;rintro e w1 ⟨rfl,t,rfl⟩;have hb1:Below w.heap.size w (Lib.bytesWorld w (Rh.t 5) t):=Lib.bytesWorld_below _ _ _)
     | (go_at_call 81;refine (Wj n ah ah _ (hT.on<|by assumption).here).mono ?_;rintro e w2 ⟨rfl,hq⟩;have hb2:=fin _ (by assumption) _ hq)
     | (go_at_call 82;refine (Any.strings_TrimPrefix Wi ⟨l.toArray⟩ ⟨#[45]⟩ _).mono ?_;rintro e w3 ⟨rfl,rfl⟩))
    all_goals first
     | (exfalso;simp_all;done)
     | (exfalso;omega)
     | (go_ret2;exact ⟨rfl,by assumption⟩)
  .rw [aT fun h=>h1 h.1]
   go_enter Tryz.func60,Tryz.ntmps60
   go_wp2_with (first
    | (go_at_call 80;refine (ha _).mono ?_;rintro e w1 ⟨rfl,t,rfl⟩;have hb1:Below w.heap.size w (Lib.bytesWorld w (Rh.t 5) t):=Lib.bytesWorld_below _ _ _)
    | (go_at_call 81;refine (Wj n ah ah _ (hT.on<|by assumption).here).mono ?_;rintro e w2 ⟨rfl,hq⟩;have hb2:=fin _ (by assumption) _ hq)
    | (go_at_call 82;refine (Any.strings_TrimPrefix Wi ⟨l.toArray⟩ ⟨#[45]⟩ _).mono ?_;rintro e w3 ⟨rfl,rfl⟩))
   all_goals first
    | (exfalso;simp_all;done)
    | (exfalso;omega)
    | (go_ret2;exact ⟨rfl,by assumption⟩)
def anY (a0:LU) {r:Int×Bool} (h:Tw a0=some r):
  AC Tryz.prog (GS [3,6]) 60 [aG a0] [] (.dX [aj r.1,av r.2]) []:=anZ (ge:=3) (gt:=6) anX rfl ak rfl h
def aoa (a0:LU) {r:(Int×Bool)} (h:Mj a0=some r):
    AC Tryz.prog (GS [3,6]) 44 [aG a0] [] (.dX [aj r.1,av r.2]) []:=by rw [Mj] at h;exact aS Tryz.func44 rfl (cV 100<|bB h fun r2 hx2 h=>(cC 1 100 (anY a0 hx2) au<|aK<|bB h fun y4 lU h=>bE (tl 18 [(4,aj r2.1),(16,av y4)]) [] mix (by exact wR 3 100<|wJ 13 lU (fun lU=>wR 3 100<|by cases lU;exact fS [] [4,16]) fun lU=>wR 3 100<|by cases lU;exact fS [] [4,16])<|cI h (fun _ h=>cV 100<|aN<|by cases h;exact eG [] (.inr rfl)<|aL.two rfl (oT (t:=2) (r:=aj 0))<|oT (t:=3) (r:=av false)) fun _ h=>aV<|cV 100<|aN (by have h:=sI h;subst h;exact eG [] (.inr rfl)<|aL.two rfl (oT (t:=2) (r:=aj r2.1))<|oT (t:=3) (r:=av true))))
def Aj (a0:Bool) {r:Int} (h:oN a0=some r):
    aR 45 [av a0] [] (aj r) []:=by rw [oN] at h;exact aS Tryz.func45 rfl (cV 100<|aK<|cV 100<|cI h (fun _ h=>cV 100<|by cases h;exact e1 2 id) fun _ h=>aV<|cV 100<|by cases h;exact e1 2 id)
def aob (a0:Int) (a1:Int) (a2:Int) {r:(Int×Bool)} (h:xR a0 a1 a2=some r):
    aR 61 [aj a0,aj a1,aj a2] [] (.dX [aj r.1,av r.2]) []:=by rw [xR] at h;exact aS Tryz.func61 rfl (cV 100<|cV 100<|dw (fun (jl:Int)=>⟨tl 72 [(8,aj jl)],[]⟩) (fun i=>nT i=some r) (by rintro jl h27;rw [nT] at h27;exact aK<|bB h27 fun um hx32 h27=>(cC 1 100 (qR jl (-1000000000) 1000000000 hx32) au<|cI h27 (fun _ h27=>cV 100<|aN<|by cases h27;exact eG [] (.inr rfl)<|aL.two rfl (oT (t:=6) (r:=aj 0))<|oT (t:=7) (r:=av false)) fun _ h27=>aV<|cV 100<|aN (by have h27:=sI h27;subst h27;exact eG [] (.inr rfl)<|aL.two rfl (oT (t:=6) (r:=aj jl))<|oT (t:=7) (r:=av true))))<|by intro jE;exact cV 100<|aX<|cV 100<|cI h (fun _ h=>cK 100 jE (wr<|a1+a2) h [] [8]) fun _ h=>cV 100<|cI h (fun _ h=>cK 100 jE (wr<|a1 - a2) h [] [8]) fun _ h=>cV 100<|cI h (fun _ h=>cK 100 jE (wr<|a1*a2) h [] [8]) fun _ h=>cV 100<|cI h (fun _ h=>aK<|cV 100<|cI h (fun _ h=>cV 100<|aN<|by cases h;exact eG [] (.inr rfl)<|aL.two rfl (oT (t:=6) (r:=aj 0))<|oT (t:=7) (r:=av false)) fun _ h=>aV<|bB h fun x21 wI h=>(jX mix<|wR 2 100<|W.rem (k:=.i64) wI ak<|wR 1 100<|wK jE x21 h [] [8])) fun _ h=>cV 100<|cI h (fun _ h=>bB h fun mR zY h=>(jX mix<|wR 3 100<|w0 (Aj (decide<|a1 < a2) zY) au<|wR 1 100<|wK jE mR h [] [8])) fun _ h=>cV 100<|cI h (fun _ h=>bB h fun zk wL h=>(jX mix<|wR 3 100<|w0 (Aj (decide<|a1<=a2) wL) au<|wR 1 100<|wK jE zk h [] [8])) fun _ h=>cV 100<|cI h (fun _ h=>bB h fun oJ qV h=>(jX mix<|wR 3 100<|w0 (Aj (a1==a2) qV) au<|wR 1 100<|wK jE oJ h [] [8])) fun _ h=>cV 100<|cI h (fun _ h=>bB h fun pY su h=>(jX mix<|wR 3 100<|w0 (Aj (a1 !=a2) su) au<|wR 1 100<|wK jE pY h [] [8])) fun _ h=>cV 100<|cI h (fun _ h=>bB h fun uG NC h=>(jX mix<|wR 3 100<|w0 (Aj (decide<|a1 > a2) NC) au<|wR 1 100<|wK jE uG h [] [8])) fun _ h=>cV 100<|cI h (fun _ h=>bB h fun kF vg h=>(jX mix<|wR 3 100<|w0 (Aj (decide<|a1>=a2) vg) au<|wR 1 100<|wK jE kF h [] [8])) fun _ h=>cV 100<|aN<|by cases h;exact eG [] (.inr rfl)<|aL.two rfl (oT (t:=6) (r:=aj 0))<|oT (t:=7) (r:=av false))
structure Wn (R:Ez):Prop where
 zD:∀ (a0:aC) (a1:List fE) (r:(Int×Bool)),R.zD a0 a1=some r->AC Tryz.prog (GS [3,6]) 46 [.agg [aj a0.kind,aj a0.op,aG a0.text,aG a0.other,sL bS a0.kids],sL qy a1] [] (.dX [aj r.1,av r.2]) []
 iP:∀ (a0:aC) (a1:List fE) (r:(Int×Bool)),R.iP a0 a1=some r->AC Tryz.prog (GS [3,6]) 27 [.agg [aj a0.kind,aj a0.op,aG a0.text,aG a0.other,sL bS a0.kids],sL qy a1] [] (.dX [aj r.1,av r.2]) []
def aoc (N:Nat) (R:Ez) (HR:Wn R) (a0:aC) (a1:List fE) {r:(Int×Bool)} (h:Mk N R a0 a1=some r):
    AC Tryz.prog (GS [3,6]) 46 [.agg [aj a0.kind,aj a0.op,aG a0.text,aG a0.other,sL bS a0.kids],sL qy a1] [] (.dX [aj r.1,av r.2]) []:=by rw [Mk] at h;exact aS Tryz.func46 rfl (cV 100<|bB h fun e3 hx3 h=>(bB h fun r4 hx4 h=>(aH mix<|wR 2 101<|wM Dk bS hx3 5 ak (rD e3) ak<|wR 2 101<|w0 (HR.iP e3 a1 _ hx4) au<|wR 5 101<|wF<|aK<|cV 101<|cI h (fun _ h=>cV 101<|aN<|by cases h;exact eG [] (.inr rfl)<|aL.two rfl (oT (t:=4) (r:=aj 0))<|oT (t:=5) (r:=av false)) fun _ h=>aV<|aK<|bB h fun iY Oa h=>bE (tl 71 [(1,sL qy a1),(2,.loc 100 0),(6,aj r4.1),(29,av iY)]) [(100,.cells 50 [aj a0.kind,aj a0.op,aG a0.text,aG a0.other,sL bS a0.kids])] mix (by exact wR 4 101<|wJ 25 Oa (fun Oa=>wR 4 101<|by cases Oa;exact fS [(100,100)] [1,2,6,29]) fun Oa=>wR 4 101<|by cases Oa;exact fS [(100,100)] [1,2,6,29])<|cI h (fun _ h=>aK<|cV 101<|cI h (fun _ h=>bB h fun ji hx34 h=>(cC 2 101 (bV (Aj (r4.1 !=0) hx34) aI) au<|aN (by have h:=sI h;subst h;exact eG [] (.inr rfl)<|aL.two rfl (oT (t:=4) (r:=aj ji))<|oT (t:=5) (r:=av true)))) fun _ h=>aV<|bB h fun e23 NT h=>(bB h fun fZ hx38 h=>(aH mix<|wR 2 101<|wM Dk bS NT 5 ak (rD e23) ak<|wR 2 101<|w0 (HR.iP e23 a1 _ hx38) au<|wR 5 101<|wF<|aK<|cV 101<|cI h (fun _ h=>cV 101<|aN<|by cases h;exact eG [] (.inr rfl)<|aL.two rfl (oT (t:=4) (r:=aj 0))<|oT (t:=5) (r:=av false)) fun _ h=>aV<|bB h fun mU wI h=>(cC 2 101 (bV (Aj (fZ.1 !=0) wI) aI) au<|aN (by have h:=sI h;subst h;exact eG [] (.inr rfl)<|aL.two rfl (oT (t:=4) (r:=aj mU))<|oT (t:=5) (r:=av true)))))) fun _ h=>aV<|bB h fun e29 zY h=>(bB h fun qG wH h=>(aH mix<|wR 2 101<|wM Dk bS zY 5 ak (rD e29) ak<|wR 2 101<|w0 (HR.iP e29 a1 _ wH) au<|wR 5 101<|wF<|aK<|cV 101<|cI h (fun _ h=>cV 101<|aN<|by cases h;exact eG [] (.inr rfl)<|aL.two rfl (oT (t:=4) (r:=aj 0))<|oT (t:=5) (r:=av false)) fun _ h=>aV<|bB h fun r32 aod h=>(cC 4 101 (bV (aob a0.op r4.1 qG.1 aod) aI) au<|aN (by have h:=sI h;subst h;exact eG [] (.inr rfl)<|aL.two rfl (oT (t:=4) (r:=aj r32.1))<|oT (t:=5) (r:=av r32.2))))))))
def aoe (N:Nat) (R:Ez) (HR:Wn R) (a0:aC) (a1:List fE) {r:(Int×Bool)} (h:Ml N R a0 a1=some r):
    AC Tryz.prog (GS [3,6]) 27 [.agg [aj a0.kind,aj a0.op,aG a0.text,aG a0.other,sL bS a0.kids],sL qy a1] [] (.dX [aj r.1,av r.2]) []:=by rw [Ml] at h;exact aS Tryz.func27 rfl (cV 100<|aK<|cV 101<|aX<|cV 101<|cI h (fun _ h=>bB h fun dR zZ h=>(cC 3 101 (bV (anT N a1 a0.text zZ) aI) au<|aK<|bB h fun rM yC h=>(cC 1 101 (bV (qR dR (-1000000000) 1000000000 yC) aI) au<|cI h (fun _ h=>cV 101<|aN<|by cases h;exact eG [] (.inr rfl)<|aL.two rfl (oT (t:=4) (r:=aj 0))<|oT (t:=5) (r:=av false)) fun _ h=>aV<|cV 101<|aN (by have h:=sI h;subst h;exact eG [] (.inr rfl)<|aL.two rfl (oT (t:=4) (r:=aj dR))<|oT (t:=5) (r:=av true))))) fun _ h=>cV 101<|cI h (fun _ h=>bB h fun lC VU h=>(cC 2 101 (aoa a0.text VU) au<|aN (by have h:=sI h;subst h;exact eG [] (.inr rfl)<|aL.two rfl (oT (t:=4) (r:=aj lC.1))<|oT (t:=5) (r:=av lC.2)))) fun _ h=>cV 101<|cI h (fun _ h=>bB h fun e46 Nw h=>(bB h fun jJ wG h=>(aH mix<|wR 2 101<|wM Dk bS Nw 5 ak (rD e46) ak<|wR 2 101<|w0 (HR.iP e46 a1 _ wG) au<|wR 5 101<|wF<|aK<|cV 101<|cI h (fun _ h=>cV 101<|aN<|by cases h;exact eG [] (.inr rfl)<|aL.two rfl (oT (t:=4) (r:=aj 0))<|oT (t:=5) (r:=av false)) fun _ h=>aV<|dw (fun (uM:Int)=>⟨tl 93 [(7,aj uM)],[]⟩) (fun i=>Im N R i=some r) (by rintro uM dY;rw [Im] at dY;exact cV 101<|aN (by have dY:=sI dY;subst dY;exact eG [] (.inr rfl)<|aL.two rfl (oT (t:=4) (r:=aj uM))<|oT (t:=5) (r:=av true)))<|by intro Wo;exact cV 101<|aX<|cV 101<|cI h (fun _ h=>cK 101 Wo (wr<|0 - jJ.1) h [] [7]) fun _ h=>cV 101<|cI h (fun _ h=>bB h fun kr vk h=>(jX mix<|wR 2 101<|w0 (bV (Aj (jJ.1==0) vk) aI) au<|wR 1 101<|wK Wo kr h [] [7])) fun _ h=>sK Wo jJ.1 h [] [7]))) fun _ h=>cV 101<|cI h (fun _ h=>bB h fun e55 Fg h=>(bB h fun vV NV h=>(aH mix<|wR 2 101<|wM Dk bS Fg 5 ak (rD e55) ak<|wR 2 101<|w0 (HR.iP e55 a1 _ NV) au<|wR 5 101<|wF<|aK<|cV 101<|cI h (fun _ h=>cV 101<|aN<|by cases h;exact eG [] (.inr rfl)<|aL.two rfl (oT (t:=4) (r:=aj 0))<|oT (t:=5) (r:=av false)) fun _ h=>aV<|aK<|cV 101<|cI h (fun _ h=>bB h fun e63 hx98 h=>(bB h fun r64 hx99 h=>(aH mix<|wR 2 101<|wM Dk bS hx98 5 ak (rD e63) ak<|wR 2 101<|w0 (HR.iP e63 a1 _ hx99) au<|wR 4 101<|wF<|aN (by have h:=sI h;subst h;exact eG [] (.inr rfl)<|aL.two rfl (oT (t:=4) (r:=aj r64.1))<|oT (t:=5) (r:=av r64.2))))) fun _ h=>aV<|bB h fun PW hx102 h=>(bB h fun xH Vy h=>(aH mix<|wR 2 101<|wM Dk bS hx102 5 ak (rD PW) ak<|wR 2 101<|w0 (HR.iP PW a1 _ Vy) au<|wR 4 101<|wF<|aN (by have h:=sI h;subst h;exact eG [] (.inr rfl)<|aL.two rfl (oT (t:=4) (r:=aj xH.1))<|oT (t:=5) (r:=av xH.2))))))) fun _ h=>cV 101<|cI h (fun _ h=>bB h fun vR Vq h=>(cC 2 101 (HR.zD a0 a1 _ Vq) au<|aN (by have h:=sI h;subst h;exact eG [] (.inr rfl)<|aL.two rfl (oT (t:=4) (r:=aj vR.1))<|oT (t:=5) (r:=av vR.2)))) fun _ h=>aV<|cV 101<|aN<|by cases h;exact eG [] (.inr rfl)<|aL.two rfl (oT (t:=4) (r:=aj 0))<|oT (t:=5) (r:=av false))
def Wp:∀ N,Wn (mo N)
 | 0=>⟨fun _ _ _ h=>(by cases h),fun _ _ _ h=>(by cases h)⟩
 | N+1=>⟨fun a0 a1 _ h=>aoc N (mo N) (Wp N) a0 a1 h,fun a0 a1 _ h=>aoe N (mo N) (Wp N) a0 a1 h⟩
def aof (N:Nat) (a0:aC) (a1:List fE) {r:(Int×Bool)} (h:iP N a0 a1=some r):
  AC Tryz.prog (GS [3,6]) 27 [.agg [aj a0.kind,aj a0.op,aG a0.text,aG a0.other,sL bS a0.kids],sL qy a1] [] (.dX [aj r.1,av r.2]) []:=
 (Wp N).iP a0 a1 r h
def acH (N:Nat) (a0:LN) (a1:List fE) {r:(Int×Bool)} (h:uO N a0 a1=some r):
    AC Tryz.prog (GS [0,1,2,3,6]) 10 [.sl false false<|a0.map<|aA false,sL qy a1] [] (.dX [aj r.1,av r.2]) []:=by rw [uO] at h;exact aS Tryz.func10 rfl (cV 100<|aK<|bB h fun r4 hx5 h=>(cC 1 100 (bV (abQ N a0 hx5) aI) au<|cI h (fun _ h=>cV 100<|aN<|by cases h;exact eG [] (.inr rfl)<|aL.two rfl (oT (t:=4) (r:=aj 0))<|oT (t:=5) (r:=av false)) fun _ h=>aV<|bB h fun r7 nZ h=>(bB h fun r8 qQ h=>(aH mix<|wR 1 100<|w0 (bV (VX N a0 nZ) aI) au<|wR 1 100<|w0 (bV (aof N r7 a1 qQ) aI) au<|wR 4 100<|wF<|aN (by have h:=sI h;subst h;exact eG [] (.inr rfl)<|aL.two rfl (oT (t:=4) (r:=aj r8.1))<|oT (t:=5) (r:=av r8.2))))))
def aog (N:Nat) (a0:LU) {r:Bool} (h:Io N a0=some r):
    AC Tryz.prog (GS [0,1,2,3,6]) 3 [sL aQ a0] [] (av r) []:=by rw [Io] at h;exact aS Tryz.func3 rfl (cV 100<|aK<|bB h fun r4 hx5 h=>(cC 1 100 (bV (ajq a0 hx5) aI) au<|cI h (fun _ h=>cV 100<|by cases h;exact e1 2 id) fun _ h=>aV<|bB h fun r6 kJ h=>(cC 1 100 (bV (akU N a0 kJ) aI) au<|bB h fun r8 qQ h=>(aH mix<|wR 1 100<|wC (bV (abX N r6 qQ) aI) au [] [(100,100)] [100]<|wR 5 101<|wF<|bB h fun bT zR h=>(aH mix<|wR 1 101<|wC (bV (anE N r6 zR) aI) au [] [(100,101)] [101]<|wR 5 102<|wF<|aK<|bB h fun jl hv24 h=>bE (tl 92 [(0,sL aQ a0),(3,.sl false false<|r6.map<|aA false),(4,.own 100),(5,av r8.2),(41,av jl)]) [(100,.vec false 43 5<|r8.1.map<|aA true)] mix (by exact wR 4 102<|wJ 32 hv24 (fun hv24=>wR 9 102<|by cases hv24;exact fS [(100,100)] [0,3,4,5,41]) fun hv24=>wR 3 102<|wJ 35 hv24 (fun hv24=>wR 2 102<|bB hv24 fun r16 hx27 hv24=>(W.lend (bV (acE N r8.1 r6 hx27) aI) au [] [] (bq.cons (j:=100) (aA true) (aA false) r8.1 ak (dO _) lO) (.c _) .nil ak ak<|wR 3 102<|by cases hv24;exact fS [(100,100)] [0,3,4,5,41])) fun hv24=>wR 6 102<|by cases hv24;exact fS [(100,100)] [0,3,4,5,41])<|cI h (fun _ h=>cV 102<|by cases h;exact e1 2 id) fun _ h=>aV<|aK<|cV 102<|cI h (fun _ h=>cV 102<|by cases h;exact e1 2 id) fun _ h=>aV<|bB h fun jh hx32 h=>(aH mix<|wR 1 102<|W.lend (bV (abX N r8.1 hx32) aI) au [(100,102)] [102] (bq.cons (j:=100) (aA true) (aA false) r8.1 ak (dO _) lO) (.dX _<|.cons (.own _)<|.cons (.c _) .nil) (.cons (bF.map (fun _=>(.cons (.c _)<|.cons (.c _)<|.cons (.c _)<|.cons (.c _)<|.cons (.sl _ _<|bF.map (fun _=>(.cons (.c _) .nil)) _) .nil)) _) .nil) ak ak<|wR 5 103<|wF<|bB h fun mX Fu h=>(bB h fun ig Fe h=>aH mix<|wR 1 103<|w0 (bV (acF a0 0 Fu) aI) au<|wR 2 103<|w0 (bV (acF a0 1 Fe) aI) au<|wR 4 103<|wF<|bB h fun fZ hx38 h=>(aH mix<|wR 2 104<|W.lend (acH N r6 [(⟨[120],mX⟩:fE),(⟨[121],(wr<|ig - 99)⟩:fE)] hx38) au [] [] (bq.cons (j:=103) qy qy ([(⟨[120],mX⟩:fE),(⟨[121],(wr<|ig - 99)⟩:fE)]:List fE) ak (fun _=>rfl) lO) (.dX _<|.cons (.c _)<|.cons (.c _) .nil) .nil ak ak<|wR 5 104<|wF<|bB h fun mU zX h=>(aH mix<|wR 2 104<|W.lend (acH N r8.1 [(⟨[120],mX⟩:fE),(⟨[121],(wr<|ig - 99)⟩:fE)] zX) au [] [] (bq.cons (j:=100) (aA true) (aA false) r8.1 ak (dO _)<|bq.cons (j:=103) qy qy ([(⟨[120],mX⟩:fE),(⟨[121],(wr<|ig - 99)⟩:fE)]:List fE) ak (fun _=>rfl) lO) (.dX _<|.cons (.c _)<|.cons (.c _) .nil) .nil ak ak<|wR 5 104<|wF<|bB h fun y28 jq h=>bE (tl 92 [(2,av y28)]) [] mix (by exact wR 2 104<|wJ 70 jq (fun jq=>wR 2 104<|bB jq fun pY wL jq=>(W.lend (bV (acE N jh.1 r6 wL) aI) au [] [] (bq.cons (j:=102) (aA true) (aA false) jh.1 ak (dO _) lO) (.c _) .nil ak ak<|wR 2 104<|wJ 75 jq (fun jq=>wR 5 104<|wJ 80 jq (fun jq=>wR 5 104<|wJ 85 jq (fun jq=>wR 1 104<|wN (aA true) r8.1 [100]<|wR 1 104<|wN (aA false) r6 []<|wR 3 104<|by cases jq;exact fS [] [2]) fun jq=>wR 7 104<|by cases jq;exact fS [] [2]) fun jq=>wR 12 104<|by cases jq;exact fS [] [2]) fun jq=>wR 17 104<|by cases jq;exact fS [] [2])) fun jq=>wR 22 104<|by cases jq;exact fS [] [2])<|by cases h;exact e1 2 id)))))))))
end Go.Proofs.Tryz
