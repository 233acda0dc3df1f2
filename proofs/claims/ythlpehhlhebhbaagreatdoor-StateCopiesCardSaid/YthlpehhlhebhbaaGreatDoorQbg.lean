/- Contracts and plain laws, joined: StC2, EvX. -/
import Derived.Test.YthlpehhlhebhbaaGreatDoorQbf
import Derived.Test.YthlpehhlhebhbaaGreatDoorQbe
import Derived.Test.YthlpehhlhebhbaaGreatDoorQbd
/- Contracts of slices.Clone at the lists of a state (layer 46;written by gencl.py). -/
set_option linter.unusedSimpArgs false
set_option linter.unusedVariables false
namespace Go.Proofs.YthlpehhlhebhbaaGreatDoor
set_option maxHeartbeats 8000000
open Lib (hid)
open Go.RowKit
set_option maxRecDepth 100000
theorem clEvent_any (xs:List EvL) (A:Option Addr) (c:Nat) (w:World) (hr:RdL 12 EvL.cs w w.heap.size A xs) (hm:xs.length≤1000000) :
  Calls Tryz.prog 139 #[.slice A xs.length c] w fun e w'=>∃ A' c',e=.returned (.slice A' xs.length c')∧OwnL w' w.heap.size 56 12 EvL.cs A' c' xs∧Below w.heap.size w w':=by
 have hq:=@run_eql_slice_nilE Tryz.prog
 rcases A with _ | a
 ·obtain rfl:xs=[]:=by
   rcases xs with _ | ⟨x,r⟩
   ·rfl
   ·obtain ⟨b,off,h,_⟩:=hr 0 x rfl
    cases h
  have q:=hq w 22 56 none 0 c Tryz.underlying22
  clear hq
  go_enter Tryz.func139,Tryz.ntmps139
  go_wp2
  go_ret
  exact ⟨none,0,rfl,OwnL.nil_,Below.refl _ _⟩
 ·have q:=hq w 22 56 (some a) xs.length c Tryz.underlying22
  clear hq
  have HO:=hid (OwnL.empty (T:=EvL) (sz:=12) (enc:=EvL.cs) w 56 w.heap.size (Nat.le_refl _) _ rfl)
  have HR:=hid (hr.now ((Below.refl _ _).alloc (Nat.le_refl _) (.cells #[] 56)))
  go_enter Tryz.func139,Tryz.ntmps139
  go_wp2_with (at_builtin;refine wp_append_l rfl (.tmp 5) (.tmp 6) rfl slEvents layEvL w.heap.size (xs:=([]:List EvL)) (ys:=xs) rfl rfl HO.out rfl rfl HR.out (by simp;omega) (by simp) ?_;intro A2 c2 w2 hown hg hb hat;have HO2:=hid hown;have HB2:=hid hb;clear hown hg hb hat)
  go_ret
  exact ⟨A2,c2,rfl,HO2.out,((Below.refl _ _).alloc (Nat.le_refl _) _).trans HB2.out⟩
theorem clWaiting_any (xs:List D4) (A:Option Addr) (c:Nat) (w:World) (hr:RdL 4 D4.cs w w.heap.size A xs) (hm:xs.length≤1000000) :
  Calls Tryz.prog 141 #[.slice A xs.length c] w fun e w'=>∃ A' c',e=.returned (.slice A' xs.length c')∧OwnL w' w.heap.size 61 4 D4.cs A' c' xs∧Below w.heap.size w w':=by
 have hq:=@run_eql_slice_nilE Tryz.prog
 rcases A with _ | a
 ·obtain rfl:xs=[]:=by
   rcases xs with _ | ⟨x,r⟩
   ·rfl
   ·obtain ⟨b,off,h,_⟩:=hr 0 x rfl
    cases h
  have q:=hq w 23 61 none 0 c Tryz.underlying23
  clear hq
  go_enter Tryz.func141,Tryz.ntmps141
  go_wp2
  go_ret
  exact ⟨none,0,rfl,OwnL.nil_,Below.refl _ _⟩
 ·have q:=hq w 23 61 (some a) xs.length c Tryz.underlying23
  clear hq
  have HO:=hid (OwnL.empty (T:=D4) (sz:=4) (enc:=D4.cs) w 61 w.heap.size (Nat.le_refl _) _ rfl)
  have HR:=hid (hr.now ((Below.refl _ _).alloc (Nat.le_refl _) (.cells #[] 61)))
  go_enter Tryz.func141,Tryz.ntmps141
  go_wp2_with (at_builtin;refine wp_append_l rfl (.tmp 5) (.tmp 6) rfl slWaiting46 layD4 w.heap.size (xs:=([]:List D4)) (ys:=xs) rfl rfl HO.out rfl rfl HR.out (by simp;omega) (by simp) ?_;intro A2 c2 w2 hown hg hb hat;have HO2:=hid hown;have HB2:=hid hb;clear hown hg hb hat)
  go_ret
  exact ⟨A2,c2,rfl,HO2.out,((Below.refl _ _).alloc (Nat.le_refl _) _).trans HB2.out⟩
theorem clSent_any (xs:List D3) (A:Option Addr) (c:Nat) (w:World) (hr:RdL 3 D3.cs w w.heap.size A xs) (hm:xs.length≤1000000) :
  Calls Tryz.prog 142 #[.slice A xs.length c] w fun e w'=>∃ A' c',e=.returned (.slice A' xs.length c')∧OwnL w' w.heap.size 46 3 D3.cs A' c' xs∧Below w.heap.size w w':=by
 have hq:=@run_eql_slice_nilE Tryz.prog
 rcases A with _ | a
 ·obtain rfl:xs=[]:=by
   rcases xs with _ | ⟨x,r⟩
   ·rfl
   ·obtain ⟨b,off,h,_⟩:=hr 0 x rfl
    cases h
  have q:=hq w 24 46 none 0 c Tryz.underlying24
  clear hq
  go_enter Tryz.func142,Tryz.ntmps142
  go_wp2
  go_ret
  exact ⟨none,0,rfl,OwnL.nil_,Below.refl _ _⟩
 ·have q:=hq w 24 46 (some a) xs.length c Tryz.underlying24
  clear hq
  have HO:=hid (OwnL.empty (T:=D3) (sz:=3) (enc:=D3.cs) w 46 w.heap.size (Nat.le_refl _) _ rfl)
  have HR:=hid (hr.now ((Below.refl _ _).alloc (Nat.le_refl _) (.cells #[] 46)))
  go_enter Tryz.func142,Tryz.ntmps142
  go_wp2_with (at_builtin;refine wp_append_l rfl (.tmp 5) (.tmp 6) rfl slSent46 layD3 w.heap.size (xs:=([]:List D3)) (ys:=xs) rfl rfl HO.out rfl rfl HR.out (by simp;omega) (by simp) ?_;intro A2 c2 w2 hown hg hb hat;have HO2:=hid hown;have HB2:=hid hb;clear hown hg hb hat)
  go_ret
  exact ⟨A2,c2,rfl,HO2.out,((Below.refl _ _).alloc (Nat.le_refl _) _).trans HB2.out⟩
theorem clDebt_any (xs:List D2) (A:Option Addr) (c:Nat) (w:World) (hr:RdL 2 D2.cs w w.heap.size A xs) (hm:xs.length≤1000000) :
  Calls Tryz.prog 143 #[.slice A xs.length c] w fun e w'=>∃ A' c',e=.returned (.slice A' xs.length c')∧OwnL w' w.heap.size 48 2 D2.cs A' c' xs∧Below w.heap.size w w':=by
 have hq:=@run_eql_slice_nilE Tryz.prog
 rcases A with _ | a
 ·obtain rfl:xs=[]:=by
   rcases xs with _ | ⟨x,r⟩
   ·rfl
   ·obtain ⟨b,off,h,_⟩:=hr 0 x rfl
    cases h
  have q:=hq w 25 48 none 0 c Tryz.underlying25
  clear hq
  go_enter Tryz.func143,Tryz.ntmps143
  go_wp2
  go_ret
  exact ⟨none,0,rfl,OwnL.nil_,Below.refl _ _⟩
 ·have q:=hq w 25 48 (some a) xs.length c Tryz.underlying25
  clear hq
  have HO:=hid (OwnL.empty (T:=D2) (sz:=2) (enc:=D2.cs) w 48 w.heap.size (Nat.le_refl _) _ rfl)
  have HR:=hid (hr.now ((Below.refl _ _).alloc (Nat.le_refl _) (.cells #[] 48)))
  go_enter Tryz.func143,Tryz.ntmps143
  go_wp2_with (at_builtin;refine wp_append_l rfl (.tmp 5) (.tmp 6) rfl slDebt46 layD2 w.heap.size (xs:=([]:List D2)) (ys:=xs) rfl rfl HO.out rfl rfl HR.out (by simp;omega) (by simp) ?_;intro A2 c2 w2 hown hg hb hat;have HO2:=hid hown;have HB2:=hid hb;clear hown hg hb hat)
  go_ret
  exact ⟨A2,c2,rfl,HO2.out,((Below.refl _ _).alloc (Nat.le_refl _) _).trans HB2.out⟩
theorem clPair_any (xs:List D4) (A:Option Addr) (c:Nat) (w:World) (hr:RdL 4 D4.cs w w.heap.size A xs) (hm:xs.length≤1000000) :
  Calls Tryz.prog 144 #[.slice A xs.length c] w fun e w'=>∃ A' c',e=.returned (.slice A' xs.length c')∧OwnL w' w.heap.size 88 4 D4.cs A' c' xs∧Below w.heap.size w w':=by
 have hq:=@run_eql_slice_nilE Tryz.prog
 rcases A with _ | a
 ·obtain rfl:xs=[]:=by
   rcases xs with _ | ⟨x,r⟩
   ·rfl
   ·obtain ⟨b,off,h,_⟩:=hr 0 x rfl
    cases h
  have q:=hq w 26 88 none 0 c Tryz.underlying26
  clear hq
  go_enter Tryz.func144,Tryz.ntmps144
  go_wp2
  go_ret
  exact ⟨none,0,rfl,OwnL.nil_,Below.refl _ _⟩
 ·have q:=hq w 26 88 (some a) xs.length c Tryz.underlying26
  clear hq
  have HO:=hid (OwnL.empty (T:=D4) (sz:=4) (enc:=D4.cs) w 88 w.heap.size (Nat.le_refl _) _ rfl)
  have HR:=hid (hr.now ((Below.refl _ _).alloc (Nat.le_refl _) (.cells #[] 88)))
  go_enter Tryz.func144,Tryz.ntmps144
  go_wp2_with (at_builtin;refine wp_append_l rfl (.tmp 5) (.tmp 6) rfl slPair46 layD4 w.heap.size (xs:=([]:List D4)) (ys:=xs) rfl rfl HO.out rfl rfl HR.out (by simp;omega) (by simp) ?_;intro A2 c2 w2 hown hg hb hat;have HO2:=hid hown;have HB2:=hid hb;clear hown hg hb hat)
  go_ret
  exact ⟨A2,c2,rfl,HO2.out,((Below.refl _ _).alloc (Nat.le_refl _) _).trans HB2.out⟩
theorem clProof_any (xs:List D3) (A:Option Addr) (c:Nat) (w:World) (hr:RdL 3 D3.cs w w.heap.size A xs) (hm:xs.length≤1000000) :
  Calls Tryz.prog 145 #[.slice A xs.length c] w fun e w'=>∃ A' c',e=.returned (.slice A' xs.length c')∧OwnL w' w.heap.size 92 3 D3.cs A' c' xs∧Below w.heap.size w w':=by
 have hq:=@run_eql_slice_nilE Tryz.prog
 rcases A with _ | a
 ·obtain rfl:xs=[]:=by
   rcases xs with _ | ⟨x,r⟩
   ·rfl
   ·obtain ⟨b,off,h,_⟩:=hr 0 x rfl
    cases h
  have q:=hq w 27 92 none 0 c Tryz.underlying27
  clear hq
  go_enter Tryz.func145,Tryz.ntmps145
  go_wp2
  go_ret
  exact ⟨none,0,rfl,OwnL.nil_,Below.refl _ _⟩
 ·have q:=hq w 27 92 (some a) xs.length c Tryz.underlying27
  clear hq
  have HO:=hid (OwnL.empty (T:=D3) (sz:=3) (enc:=D3.cs) w 92 w.heap.size (Nat.le_refl _) _ rfl)
  have HR:=hid (hr.now ((Below.refl _ _).alloc (Nat.le_refl _) (.cells #[] 92)))
  go_enter Tryz.func145,Tryz.ntmps145
  go_wp2_with (at_builtin;refine wp_append_l rfl (.tmp 5) (.tmp 6) rfl slProof46 layD3 w.heap.size (xs:=([]:List D3)) (ys:=xs) rfl rfl HO.out rfl rfl HR.out (by simp;omega) (by simp) ?_;intro A2 c2 w2 hown hg hb hat;have HO2:=hid hown;have HB2:=hid hb;clear hown hg hb hat)
  go_ret
  exact ⟨A2,c2,rfl,HO2.out,((Below.refl _ _).alloc (Nat.le_refl _) _).trans HB2.out⟩
theorem clNotes_any (xs:List NL) (A:Option Addr) (c:Nat) (w:World) (hr:RdL 1 NL.cs w w.heap.size A xs) (hm:xs.length≤1000000) :
  Calls Tryz.prog 147 #[.slice A xs.length c] w fun e w'=>∃ A' c',e=.returned (.slice A' xs.length c')∧OwnL w' w.heap.size 57 1 NL.cs A' c' xs∧Below w.heap.size w w':=by
 have hq:=@run_eql_slice_nilE Tryz.prog
 rcases A with _ | a
 ·obtain rfl:xs=[]:=by
   rcases xs with _ | ⟨x,r⟩
   ·rfl
   ·obtain ⟨b,off,h,_⟩:=hr 0 x rfl
    cases h
  have q:=hq w 28 57 none 0 c Tryz.underlying28
  clear hq
  go_enter Tryz.func147,Tryz.ntmps147
  go_wp2
  go_ret
  exact ⟨none,0,rfl,OwnL.nil_,Below.refl _ _⟩
 ·have q:=hq w 28 57 (some a) xs.length c Tryz.underlying28
  clear hq
  have HO:=hid (OwnL.empty (T:=NL) (sz:=1) (enc:=NL.cs) w 57 w.heap.size (Nat.le_refl _) _ rfl)
  have HR:=hid (hr.now ((Below.refl _ _).alloc (Nat.le_refl _) (.cells #[] 57)))
  go_enter Tryz.func147,Tryz.ntmps147
  go_wp2_with (at_builtin;refine wp_append_l rfl (.tmp 5) (.tmp 6) rfl slNotes46 layNL w.heap.size (xs:=([]:List NL)) (ys:=xs) rfl rfl HO.out rfl rfl HR.out (by simp;omega) (by simp) ?_;intro A2 c2 w2 hown hg hb hat;have HO2:=hid hown;have HB2:=hid hb;clear hown hg hb hat)
  go_ret
  exact ⟨A2,c2,rfl,HO2.out,((Below.refl _ _).alloc (Nat.le_refl _) _).trans HB2.out⟩
theorem clNote_any (xs:List E5) (A:Option Addr) (c:Nat) (w:World) (hr:RdL 5 E5.cs w w.heap.size A xs) (hm:xs.length≤1000000) :
  Calls Tryz.prog 148 #[.slice A xs.length c] w fun e w'=>∃ A' c',e=.returned (.slice A' xs.length c')∧OwnL w' w.heap.size 59 5 E5.cs A' c' xs∧Below w.heap.size w w':=by
 have hq:=@run_eql_slice_nilE Tryz.prog
 rcases A with _ | a
 ·obtain rfl:xs=[]:=by
   rcases xs with _ | ⟨x,r⟩
   ·rfl
   ·obtain ⟨b,off,h,_⟩:=hr 0 x rfl
    cases h
  have q:=hq w 57 59 none 0 c Tryz.underlying57
  clear hq
  go_enter Tryz.func148,Tryz.ntmps148
  go_wp2
  go_ret
  exact ⟨none,0,rfl,OwnL.nil_,Below.refl _ _⟩
 ·have q:=hq w 57 59 (some a) xs.length c Tryz.underlying57
  clear hq
  have HO:=hid (OwnL.empty (T:=E5) (sz:=5) (enc:=E5.cs) w 59 w.heap.size (Nat.le_refl _) _ rfl)
  have HR:=hid (hr.now ((Below.refl _ _).alloc (Nat.le_refl _) (.cells #[] 59)))
  go_enter Tryz.func148,Tryz.ntmps148
  go_wp2_with (at_builtin;refine wp_append_l rfl (.tmp 5) (.tmp 6) rfl slNote46 layE5 w.heap.size (xs:=([]:List E5)) (ys:=xs) rfl rfl HO.out rfl rfl HR.out (by simp;omega) (by simp) ?_;intro A2 c2 w2 hown hg hb hat;have HO2:=hid hown;have HB2:=hid hb;clear hown hg hb hat)
  go_ret
  exact ⟨A2,c2,rfl,HO2.out,((Below.refl _ _).alloc (Nat.le_refl _) _).trans HB2.out⟩
theorem clVerdict_any (xs:List E3) (A:Option Addr) (c:Nat) (w:World) (hr:RdL 3 E3.cs w w.heap.size A xs) (hm:xs.length≤1000000) :
  Calls Tryz.prog 146 #[.slice A xs.length c] w fun e w'=>∃ A' c',e=.returned (.slice A' xs.length c')∧OwnL w' w.heap.size 99 3 E3.cs A' c' xs∧Below w.heap.size w w':=by
 have hq:=@run_eql_slice_nilE Tryz.prog
 rcases A with _ | a
 ·obtain rfl:xs=[]:=by
   rcases xs with _ | ⟨x,r⟩
   ·rfl
   ·obtain ⟨b,off,h,_⟩:=hr 0 x rfl
    cases h
  have q:=hq w 29 99 none 0 c Tryz.underlying29
  clear hq
  go_enter Tryz.func146,Tryz.ntmps146
  go_wp2
  go_ret
  exact ⟨none,0,rfl,OwnL.nil_,Below.refl _ _⟩
 ·have q:=hq w 29 99 (some a) xs.length c Tryz.underlying29
  clear hq
  have HO:=hid (OwnL.empty (T:=E3) (sz:=3) (enc:=E3.cs) w 99 w.heap.size (Nat.le_refl _) _ rfl)
  have HR:=hid (hr.now ((Below.refl _ _).alloc (Nat.le_refl _) (.cells #[] 99)))
  go_enter Tryz.func146,Tryz.ntmps146
  go_wp2_with (at_builtin;refine wp_append_l rfl (.tmp 5) (.tmp 6) rfl slVerdict46 layE3 w.heap.size (xs:=([]:List E3)) (ys:=xs) rfl rfl HO.out rfl rfl HR.out (by simp;omega) (by simp) ?_;intro A2 c2 w2 hown hg hb hat;have HO2:=hid hown;have HB2:=hid hb;clear hown hg hb hat)
  go_ret
  exact ⟨A2,c2,rfl,HO2.out,((Below.refl _ _).alloc (Nat.le_refl _) _).trans HB2.out⟩
theorem clHold_any (xs:List D4) (A:Option Addr) (c:Nat) (w:World) (hr:RdL 4 D4.cs w w.heap.size A xs) (hm:xs.length≤1000000) :
  Calls Tryz.prog 149 #[.slice A xs.length c] w fun e w'=>∃ A' c',e=.returned (.slice A' xs.length c')∧OwnL w' w.heap.size 103 4 D4.cs A' c' xs∧Below w.heap.size w w':=by
 have hq:=@run_eql_slice_nilE Tryz.prog
 rcases A with _ | a
 ·obtain rfl:xs=[]:=by
   rcases xs with _ | ⟨x,r⟩
   ·rfl
   ·obtain ⟨b,off,h,_⟩:=hr 0 x rfl
    cases h
  have q:=hq w 30 103 none 0 c Tryz.underlying30
  clear hq
  go_enter Tryz.func149,Tryz.ntmps149
  go_wp2
  go_ret
  exact ⟨none,0,rfl,OwnL.nil_,Below.refl _ _⟩
 ·have q:=hq w 30 103 (some a) xs.length c Tryz.underlying30
  clear hq
  have HO:=hid (OwnL.empty (T:=D4) (sz:=4) (enc:=D4.cs) w 103 w.heap.size (Nat.le_refl _) _ rfl)
  have HR:=hid (hr.now ((Below.refl _ _).alloc (Nat.le_refl _) (.cells #[] 103)))
  go_enter Tryz.func149,Tryz.ntmps149
  go_wp2_with (at_builtin;refine wp_append_l rfl (.tmp 5) (.tmp 6) rfl slHold46 layD4 w.heap.size (xs:=([]:List D4)) (ys:=xs) rfl rfl HO.out rfl rfl HR.out (by simp;omega) (by simp) ?_;intro A2 c2 w2 hown hg hb hat;have HO2:=hid hown;have HB2:=hid hb;clear hown hg hb hat)
  go_ret
  exact ⟨A2,c2,rfl,HO2.out,((Below.refl _ _).alloc (Nat.le_refl _) _).trans HB2.out⟩
theorem clOrder_any (xs:List D4) (A:Option Addr) (c:Nat) (w:World) (hr:RdL 4 D4.cs w w.heap.size A xs) (hm:xs.length≤1000000) :
  Calls Tryz.prog 150 #[.slice A xs.length c] w fun e w'=>∃ A' c',e=.returned (.slice A' xs.length c')∧OwnL w' w.heap.size 50 4 D4.cs A' c' xs∧Below w.heap.size w w':=by
 have hq:=@run_eql_slice_nilE Tryz.prog
 rcases A with _ | a
 ·obtain rfl:xs=[]:=by
   rcases xs with _ | ⟨x,r⟩
   ·rfl
   ·obtain ⟨b,off,h,_⟩:=hr 0 x rfl
    cases h
  have q:=hq w 31 50 none 0 c Tryz.underlying31
  clear hq
  go_enter Tryz.func150,Tryz.ntmps150
  go_wp2
  go_ret
  exact ⟨none,0,rfl,OwnL.nil_,Below.refl _ _⟩
 ·have q:=hq w 31 50 (some a) xs.length c Tryz.underlying31
  clear hq
  have HO:=hid (OwnL.empty (T:=D4) (sz:=4) (enc:=D4.cs) w 50 w.heap.size (Nat.le_refl _) _ rfl)
  have HR:=hid (hr.now ((Below.refl _ _).alloc (Nat.le_refl _) (.cells #[] 50)))
  go_enter Tryz.func150,Tryz.ntmps150
  go_wp2_with (at_builtin;refine wp_append_l rfl (.tmp 5) (.tmp 6) rfl slOrder46 layD4 w.heap.size (xs:=([]:List D4)) (ys:=xs) rfl rfl HO.out rfl rfl HR.out (by simp;omega) (by simp) ?_;intro A2 c2 w2 hown hg hb hat;have HO2:=hid hown;have HB2:=hid hb;clear hown hg hb hat)
  go_ret
  exact ⟨A2,c2,rfl,HO2.out,((Below.refl _ _).alloc (Nat.le_refl _) _).trans HB2.out⟩
theorem clSealed_any (xs:List D3) (A:Option Addr) (c:Nat) (w:World) (hr:RdL 3 D3.cs w w.heap.size A xs) (hm:xs.length≤1000000) :
  Calls Tryz.prog 151 #[.slice A xs.length c] w fun e w'=>∃ A' c',e=.returned (.slice A' xs.length c')∧OwnL w' w.heap.size 52 3 D3.cs A' c' xs∧Below w.heap.size w w':=by
 have hq:=@run_eql_slice_nilE Tryz.prog
 rcases A with _ | a
 ·obtain rfl:xs=[]:=by
   rcases xs with _ | ⟨x,r⟩
   ·rfl
   ·obtain ⟨b,off,h,_⟩:=hr 0 x rfl
    cases h
  have q:=hq w 32 52 none 0 c Tryz.underlying32
  clear hq
  go_enter Tryz.func151,Tryz.ntmps151
  go_wp2
  go_ret
  exact ⟨none,0,rfl,OwnL.nil_,Below.refl _ _⟩
 ·have q:=hq w 32 52 (some a) xs.length c Tryz.underlying32
  clear hq
  have HO:=hid (OwnL.empty (T:=D3) (sz:=3) (enc:=D3.cs) w 52 w.heap.size (Nat.le_refl _) _ rfl)
  have HR:=hid (hr.now ((Below.refl _ _).alloc (Nat.le_refl _) (.cells #[] 52)))
  go_enter Tryz.func151,Tryz.ntmps151
  go_wp2_with (at_builtin;refine wp_append_l rfl (.tmp 5) (.tmp 6) rfl slSealed46 layD3 w.heap.size (xs:=([]:List D3)) (ys:=xs) rfl rfl HO.out rfl rfl HR.out (by simp;omega) (by simp) ?_;intro A2 c2 w2 hown hg hb hat;have HO2:=hid hown;have HB2:=hid hb;clear hown hg hb hat)
  go_ret
  exact ⟨A2,c2,rfl,HO2.out,((Below.refl _ _).alloc (Nat.le_refl _) _).trans HB2.out⟩
/- Contract of event.Read (layer 14;written by genevx.py). -/
theorem box_set {w:World} {b j:Nat} {cs:Array Value} {t:TypeId} (v:Value) {cs':Array Value} (h:w.heap[b]?=some (.cells cs t (0,0))) (hc:cs.setIfInBounds j v=cs'):(w.setCell ⟨b,j,none⟩ v).heap[b]?=some (.cells cs' t (0,0)):=by
 subst hc
 have:=heap_setCell_same w b j _ _ v h
 simpa using this
theorem RdAt.set {w:World} {b:Nat} {s:RS} (h:RdAt b s w) (b2 j:Nat) (v:Value) (hne:b≠b2):RdAt b s (w.setCell ⟨b2,j,none⟩ v):=(heap_setCell_other w ⟨b2,j,none⟩ b v hne).trans h
def ReadOut (l:List UInt8) (w:World) (en:Ending) (w':World):Prop :=
 ∃ x:EvL,en=.returned (.tuple #[x.v,.int .i64 (readE l).2])∧x.ev=(readE l).1∧okEv w' x∧(∀ i,x.at_ i→w.heap.size≤i)∧Below w.heap.size w w'
theorem rItems_rest (s:RS):(rItems (rNum 59 (-9223372036854775808)) s).2.rest.length≤s.rest.length:=by
 have h0:=rNum_rest 91 0 s
 have h1:∀ (n:Nat) (s:RS) (out:List Int),(itLoop (rNum 59 (-9223372036854775808)) n s out).2.rest.length≤s.rest.length:=fun n=>by
  induction n with
  | zero=>intro s out;simp [itLoop]
  | succ n ih =>
   intro s out
   rw [itLoop]
   split
   ·simp
   ·exact Nat.le_trans (ih _ _) (rNum_rest _ _ _)
 have h2:=h1 (rNum 91 0 s).1.toNat (rNum 91 0 s).2 []
 have h3:=rClose_rest 93 (itLoop (rNum 59 (-9223372036854775808)) (rNum 91 0 s).1.toNat (rNum 91 0 s).2 []).2
 unfold rItems
 simp only
 split
 ·show (rClose _ _).rest.length≤_;omega
 ·show (rClose _ _).rest.length≤_;omega
theorem evRead_any {B:Nat} (l:List UInt8) (w:World) (hV:Vs B w) (hl:l.length≤1000000000000):Calls Tryz.prog 31 #[.string (bs l)] w (ReadOut l w):=by
 have HRaw:Hid (rawEv ⟨l,false⟩=⟨⟨(rNum 59 0 (rNum 59 0 ⟨l,false⟩).2).1,(rNum 59 0 (rNum 59 0 (rNum 59 0 ⟨l,false⟩).2).2).1,(rItems (rNum 59 (-9223372036854775808)) (rNum 59 0 (rNum 59 0 (rNum 59 0 ⟨l,false⟩).2).2).2).1,(rNum 59 0 ⟨l,false⟩).1,(rNum 59 0 (rItems (rNum 59 (-9223372036854775808)) (rNum 59 0 (rNum 59 0 (rNum 59 0 ⟨l,false⟩).2).2).2).2).1,(rNum 59 (-9223372036854775808) (rNum 59 0 (rItems (rNum 59 (-9223372036854775808)) (rNum 59 0 (rNum 59 0 (rNum 59 0 ⟨l,false⟩).2).2).2).2).2).1,(rNum 59 (-9223372036854775808) (rNum 59 (-9223372036854775808) (rNum 59 0 (rItems (rNum 59 (-9223372036854775808)) (rNum 59 0 (rNum 59 0 (rNum 59 0 ⟨l,false⟩).2).2).2).2).2).2).1,(rNum 59 (-9223372036854775808) (rNum 59 (-9223372036854775808) (rNum 59 (-9223372036854775808) (rNum 59 0 (rItems (rNum 59 (-9223372036854775808)) (rNum 59 0 (rNum 59 0 (rNum 59 0 ⟨l,false⟩).2).2).2).2).2).2).2).1,(rNum 59 0 (rNum 59 (-9223372036854775808) (rNum 59 (-9223372036854775808) (rNum 59 (-9223372036854775808) (rNum 59 0 (rItems (rNum 59 (-9223372036854775808)) (rNum 59 0 (rNum 59 0 (rNum 59 0 ⟨l,false⟩).2).2).2).2).2).2).2).2).1,bs (rText (rItems (rNum 59 (-9223372036854775808)) (rNum 59 0 (rNum 59 0 (rNum 59 (-9223372036854775808) (rNum 59 (-9223372036854775808) (rNum 59 (-9223372036854775808) (rNum 59 0 (rItems (rNum 59 (-9223372036854775808)) (rNum 59 0 (rNum 59 0 (rNum 59 0 ⟨l,false⟩).2).2).2).2).2).2).2).2).2).2).2).1,(rItems (rNum 59 (-9223372036854775808)) (rNum 59 0 (rNum 59 0 (rNum 59 (-9223372036854775808) (rNum 59 (-9223372036854775808) (rNum 59 (-9223372036854775808) (rNum 59 0 (rItems (rNum 59 (-9223372036854775808)) (rNum 59 0 (rNum 59 0 (rNum 59 0 ⟨l,false⟩).2).2).2).2).2).2).2).2).2).2).1,(rNum 59 0 (rNum 59 0 (rNum 59 (-9223372036854775808) (rNum 59 (-9223372036854775808) (rNum 59 (-9223372036854775808) (rNum 59 0 (rItems (rNum 59 (-9223372036854775808)) (rNum 59 0 (rNum 59 0 (rNum 59 0 ⟨l,false⟩).2).2).2).2).2).2).2).2).2).1⟩,(rText (rItems (rNum 59 (-9223372036854775808)) (rNum 59 0 (rNum 59 0 (rNum 59 (-9223372036854775808) (rNum 59 (-9223372036854775808) (rNum 59 (-9223372036854775808) (rNum 59 0 (rItems (rNum 59 (-9223372036854775808)) (rNum 59 0 (rNum 59 0 (rNum 59 0 ⟨l,false⟩).2).2).2).2).2).2).2).2).2).2).2).2⟩):=hid rfl
 have HRd:Hid (readE l=if rDone (rawEv ⟨l,false⟩).s=true∧rightE (rawEv ⟨l,false⟩).ev=true then ((rawEv ⟨l,false⟩).ev,0) else (zEv,2)):=hid rfl
 have HL:=hid (show (⟨l,false⟩:RS).rest.length≤1000000000000 from hl)
 have hw0:Below w.heap.size w (w.alloc (.cells zeroE 56)):=by repeat (first | with_reducible exact Below.refl _ _ | with_reducible assumption | with_reducible refine Below.drew ?_ | with_reducible refine Below.alloc ?_ (by first | omega | (simp;done) | (simp;omega)) _)
 have hz0:(w.alloc (.cells zeroE 56)).heap[w.heap.size]?=some (.cells zeroE 56 (0,0)):=(MapKept.heap_alloc w _).1
 have HW0:=hid hw0
 have HZ0:=hid hz0
 have HS0:Hid ((w.alloc (.cells zeroE 56)).heap.size=w.heap.size+1):=hid (by simp)
 have HV0:=hid (hV.now hw0)
 have HBw:=hid hV.le
 clear hw0 hz0 hV hl
 go_enter Tryz.func31,Tryz.ntmps31
 go_upto_region 1 with fail
 change Code.wp _ _ _ _ (w.alloc (.cells zeroE 56))
 generalize w.alloc (.cells zeroE 56)=wa at *
 obtain ⟨bO,hbO⟩:∃ bO,bO=w.heap.size:=⟨_,rfl⟩
 rw [← hbO] at HZ0 HS0 ⊢
 have HbO:=hid hbO
 clear hbO
 go_wp2_with fail
 refine (open_any l wa).mono ?_
 rintro en wb ⟨rfl,hA,hb⟩
 obtain ⟨b,hbb⟩:∃ b,b=wa.heap.size:=⟨_,rfl⟩
 rw [← hbb] at hA ⊢
 have Hb:=hid hbb
 have HA:=hid hA
 have HB:=hid (HW0.out.trans (hb.mono HW0.out.size))
 have HO:=hid ((hb.block bO (by have:=HS0.out;omega)).trans HZ0.out)
 have HV:=hid (HV0.out.now hb)
 have Hlb:Hid (bO<b∧b<wb.heap.size∧w.heap.size≤bO):=hid ⟨by have:=HS0.out;omega,hA.lt,by have:=HbO.out;omega⟩
 clear hbb hA hb HW0 HZ0 HS0 HV0
 go_upto_region 3 with fail
 change Code.wp _ _ _ _ (wb.alloc (.cells zeroE 56))
 have hw1:Below wb.heap.size wb (wb.alloc (.cells zeroE 56)):=by repeat (first | with_reducible exact Below.refl _ _ | with_reducible assumption | with_reducible refine Below.drew ?_ | with_reducible refine Below.alloc ?_ (by first | omega | (simp;done) | (simp;omega)) _)
 have hz1:(wb.alloc (.cells zeroE 56)).heap[wb.heap.size]?=some (.cells zeroE 56 (0,0)):=(MapKept.heap_alloc wb _).1
 have hs1:(wb.alloc (.cells zeroE 56)).heap.size=wb.heap.size+1:=by simp
 generalize wb.alloc (.cells zeroE 56)=w0 at *
 obtain ⟨bE,hbE⟩:∃ bE,bE=wb.heap.size:=⟨_,rfl⟩
 have hlb:=Hlb.out
 have HA:=hid (HA.out.now hw1)
 have HB:=hid (HB.out.trans (hw1.mono HB.out.size))
 have HO:=hid ((hw1.block bO (by omega)).trans HO.out)
 have HV:=hid (HV.out.now hw1)
 rw [← hbE] at hz1 ⊢
 have HE:=hid hz1
 have Hlb:Hid (bO<b∧b<bE∧w.heap.size≤bO∧bE<w0.heap.size):=hid ⟨by omega,by omega,by omega,by omega⟩
 have HBB:Hid (B≤b):=hid (by have:=HBw.out;omega)
 clear hw1 hz1 hs1 hbE hlb
 have HE:Hid (w0.heap[bE]?=some (.cells #[.int .i64 0,.int .i64 0,.slice none 0 0,.int .i64 0,.int .i64 0,.int .i64 0,.int .i64 0,.int .i64 0,.int .i64 0,.string ⟨#[]⟩,.slice none 0 0,.int .i64 0] 56 (0,0))):=hid HE.out
 have HSz:Hid (bE<w0.heap.size):=hid Hlb.out.2.2.2
 have Hlb:Hid (bO<b∧b<bE∧w.heap.size≤bO):=hid ⟨Hlb.out.1,Hlb.out.2.1,Hlb.out.2.2.1⟩
 go_wp2_with fail
 have hle1:=rNum_rest 59 0 ⟨l,false⟩
 refine (rdNum_any b ⟨l,false⟩ _ HV.out HBB.out HA.out HL.out).mono ?_
 rintro en w1 ⟨rfl,ha,ht⟩
 have HA:=hid ha
 have HT:=hid ht
 have HE:=hid ((ht.block bE HSz.out (by have:=Hlb.out;unfold One;omega)).trans HE.out)
 clear ha ht
 have HB:=hid (HB.out.trans ((HT.out).to_below HB.out.size (fun i hi=>by have:=Hlb.out;unfold One at hi;omega)))
 have HO:=hid (((HT.out).block bO (by have:=Hlb.out;have:=HSz.out;omega) (by have:=Hlb.out;unfold One;omega)).trans HO.out)
 have HV:=hid (HV.out.on ((HT.out).to_below HV.out.le (fun i hi=>by have:=HBB.out;have:=Hlb.out;unfold One at hi;omega)))
 have HSz:=hid (Nat.le_trans HSz.out (HT.out).size)
 have HL:=hid (Nat.le_trans hle1 HL.out)
 clear hle1 HT
 generalize rNum 59 0 ⟨l,false⟩=r1 at *
 obtain ⟨n1,s1⟩:=r1
 simp only at HRaw HRd HA HL ⊢
 go_wp2_with fail
 have hle2:=rNum_rest 59 0 s1
 refine (rdNum_any b s1 _ HV.out HBB.out HA.out HL.out).mono ?_
 rintro en w2 ⟨rfl,ha,ht⟩
 have HA:=hid ha
 have HT:=hid ht
 have HE:=hid ((ht.block bE HSz.out (by have:=Hlb.out;unfold One;omega)).trans HE.out)
 clear ha ht
 have HB:=hid (HB.out.trans ((HT.out).to_below HB.out.size (fun i hi=>by have:=Hlb.out;unfold One at hi;omega)))
 have HO:=hid (((HT.out).block bO (by have:=Hlb.out;have:=HSz.out;omega) (by have:=Hlb.out;unfold One;omega)).trans HO.out)
 have HV:=hid (HV.out.on ((HT.out).to_below HV.out.le (fun i hi=>by have:=HBB.out;have:=Hlb.out;unfold One at hi;omega)))
 have HSz:=hid (Nat.le_trans HSz.out (HT.out).size)
 have HL:=hid (Nat.le_trans hle2 HL.out)
 clear hle2 HT
 generalize rNum 59 0 s1=r2 at *
 obtain ⟨n2,s2⟩:=r2
 simp only at HRaw HRd HA HL ⊢
 go_wp2_with fail
 have hle3:=rNum_rest 59 0 s2
 refine (rdNum_any b s2 _ HV.out HBB.out HA.out HL.out).mono ?_
 rintro en w3 ⟨rfl,ha,ht⟩
 have HA:=hid ha
 have HT:=hid ht
 have HE:=hid ((ht.block bE HSz.out (by have:=Hlb.out;unfold One;omega)).trans HE.out)
 clear ha ht
 have HB:=hid (HB.out.trans ((HT.out).to_below HB.out.size (fun i hi=>by have:=Hlb.out;unfold One at hi;omega)))
 have HO:=hid (((HT.out).block bO (by have:=Hlb.out;have:=HSz.out;omega) (by have:=Hlb.out;unfold One;omega)).trans HO.out)
 have HV:=hid (HV.out.on ((HT.out).to_below HV.out.le (fun i hi=>by have:=HBB.out;have:=Hlb.out;unfold One at hi;omega)))
 have HSz:=hid (Nat.le_trans HSz.out (HT.out).size)
 have HL:=hid (Nat.le_trans hle3 HL.out)
 clear hle3 HT
 generalize rNum 59 0 s2=r3 at *
 obtain ⟨n3,s3⟩:=r3
 simp only at HRaw HRd HA HL ⊢
 have fz:=fun j=>box_free HE.out j
 have e0:=box_cell HE.out 3 _ rfl
 have e1:=box_cell HE.out 0 _ rfl
 have e2:=box_cell HE.out 1 _ rfl
 go_upto_region 4 with fail
 clear fz e0 e1 e2
 have HT:=hid ((((Turn.refl (One bE) w3).set bE 3 (.int .i64 n1) (.inl rfl)).set bE 0 (.int .i64 n2) (.inl rfl)).set bE 1 (.int .i64 n3) (.inl rfl))
 have HA:=hid (((HA.out.set bE 3 (.int .i64 n1) (by have:=Hlb.out;omega)).set bE 0 (.int .i64 n2) (by have:=Hlb.out;omega)).set bE 1 (.int .i64 n3) (by have:=Hlb.out;omega))
 have HE:Hid (((World.setCell (World.setCell (World.setCell w3 ⟨bE,3,none⟩ (.int .i64 n1)) ⟨bE,0,none⟩ (.int .i64 n2)) ⟨bE,1,none⟩ (.int .i64 n3))).heap[bE]?=some (.cells #[.int .i64 n2,.int .i64 n3,.slice none 0 0,.int .i64 n1,.int .i64 0,.int .i64 0,.int .i64 0,.int .i64 0,.int .i64 0,.string ⟨#[]⟩,.slice none 0 0,.int .i64 0] 56 (0,0))):=hid (box_set (.int .i64 n3) (box_set (.int .i64 n2) (box_set (.int .i64 n1) HE.out rfl) rfl) rfl)
 have HB:=hid (HB.out.trans ((HT.out).to_below HB.out.size (fun i hi=>by have:=Hlb.out;unfold One at hi;omega)))
 have HO:=hid (((HT.out).block bO (by have:=Hlb.out;have:=HSz.out;omega) (by have:=Hlb.out;unfold One;omega)).trans HO.out)
 have HV:=hid (HV.out.on ((HT.out).to_below HV.out.le (fun i hi=>by have:=HBB.out;have:=Hlb.out;unfold One at hi;omega)))
 have HSz:=hid (Nat.le_trans HSz.out (HT.out).size)
 change Code.wp _ _ _ _ (World.setCell (World.setCell (World.setCell w3 ⟨bE,3,none⟩ (.int .i64 n1)) ⟨bE,0,none⟩ (.int .i64 n2)) ⟨bE,1,none⟩ (.int .i64 n3))
 clear HT
 generalize (World.setCell (World.setCell (World.setCell w3 ⟨bE,3,none⟩ (.int .i64 n1)) ⟨bE,0,none⟩ (.int .i64 n2)) ⟨bE,1,none⟩ (.int .i64 n3))=w4 at *
 go_wp2_with fail
 have hle4:=rItems_rest s3
 refine (rdNums_any b s3 _ HV.out HBB.out HA.out HL.out).mono ?_
 rintro en w5 ⟨A4,c4,rfl,ho4,ha,ht⟩
 have HA:=hid ha
 have HT:=hid ht
 have HE:=hid ((ht.block bE HSz.out (by have:=Hlb.out;unfold One;omega)).trans HE.out)
 have hw4:bE+1≤w4.heap.size:=HSz.out
 clear ha ht
 have HB:=hid (HB.out.trans ((HT.out).to_below HB.out.size (fun i hi=>by have:=Hlb.out;unfold One at hi;omega)))
 have HO:=hid (((HT.out).block bO (by have:=Hlb.out;have:=HSz.out;omega) (by have:=Hlb.out;unfold One;omega)).trans HO.out)
 have HV:=hid (HV.out.on ((HT.out).to_below HV.out.le (fun i hi=>by have:=HBB.out;have:=Hlb.out;unfold One at hi;omega)))
 have HSz:=hid (Nat.le_trans HSz.out (HT.out).size)
 have Hcauses:Hid (HeldL 1 intC w5 (bE+1) (A4,c4) (rItems (rNum 59 (-9223372036854775808)) s3).1):=hid ⟨ho4.rd intLayV,by have:=nums_small s3;have:=HL.out;omega,ho4.len_le,fun j hj=>Nat.le_trans hw4 (ho4.blk_lt hj).1⟩
 have HBl4:Hid (∀ j,slBlk A4=some j→j<w5.heap.size):=hid (fun j hj=>(ho4.blk_lt hj).2)
 clear ho4 hw4
 have HL:=hid (Nat.le_trans hle4 HL.out)
 clear hle4 HT
 generalize rItems (rNum 59 (-9223372036854775808)) s3=r4 at *
 obtain ⟨n4,s4⟩:=r4
 simp only at HRaw HRd HA HL Hcauses ⊢
 go_wp2_with fail
 have hle5:=rNum_rest 59 0 s4
 refine (rdNum_any b s4 _ HV.out HBB.out HA.out HL.out).mono ?_
 rintro en w6 ⟨rfl,ha,ht⟩
 have HA:=hid ha
 have HT:=hid ht
 have HE:=hid ((ht.block bE HSz.out (by have:=Hlb.out;unfold One;omega)).trans HE.out)
 clear ha ht
 have HB:=hid (HB.out.trans ((HT.out).to_below HB.out.size (fun i hi=>by have:=Hlb.out;unfold One at hi;omega)))
 have HO:=hid (((HT.out).block bO (by have:=Hlb.out;have:=HSz.out;omega) (by have:=Hlb.out;unfold One;omega)).trans HO.out)
 have HBl4:Hid (∀ j,slBlk A4=some j→j<w6.heap.size):=hid (fun j hj=>Nat.lt_of_lt_of_le (HBl4.out j hj) (HT.out).size)
 have Hcauses:=hid (Hcauses.out.turn (HT.out) (fun i hi=>by have:=Hlb.out;unfold One at hi;omega))
 have HV:=hid (HV.out.on ((HT.out).to_below HV.out.le (fun i hi=>by have:=HBB.out;have:=Hlb.out;unfold One at hi;omega)))
 have HSz:=hid (Nat.le_trans HSz.out (HT.out).size)
 have HL:=hid (Nat.le_trans hle5 HL.out)
 clear hle5 HT
 generalize rNum 59 0 s4=r5 at *
 obtain ⟨n5,s5⟩:=r5
 simp only at HRaw HRd HA HL ⊢
 have fz:=fun j=>box_free HE.out j
 have e0:=box_cell HE.out 2 _ rfl
 have e1:=box_cell HE.out 4 _ rfl
 go_upto_region 5 with fail
 clear fz e0 e1
 have HT:=hid (((Turn.refl (One bE) w6).set bE 2 (.slice A4 n4.length c4) (.inl rfl)).set bE 4 (.int .i64 n5) (.inl rfl))
 have HA:=hid ((HA.out.set bE 2 (.slice A4 n4.length c4) (by have:=Hlb.out;omega)).set bE 4 (.int .i64 n5) (by have:=Hlb.out;omega))
 have HE:Hid (((World.setCell (World.setCell w6 ⟨bE,2,none⟩ (.slice A4 n4.length c4)) ⟨bE,4,none⟩ (.int .i64 n5))).heap[bE]?=some (.cells #[.int .i64 n2,.int .i64 n3,.slice A4 n4.length c4,.int .i64 n1,.int .i64 n5,.int .i64 0,.int .i64 0,.int .i64 0,.int .i64 0,.string ⟨#[]⟩,.slice none 0 0,.int .i64 0] 56 (0,0))):=hid (box_set (.int .i64 n5) (box_set (.slice A4 n4.length c4) HE.out rfl) rfl)
 have HB:=hid (HB.out.trans ((HT.out).to_below HB.out.size (fun i hi=>by have:=Hlb.out;unfold One at hi;omega)))
 have HO:=hid (((HT.out).block bO (by have:=Hlb.out;have:=HSz.out;omega) (by have:=Hlb.out;unfold One;omega)).trans HO.out)
 have HBl4:Hid (∀ j,slBlk A4=some j→j<(World.setCell (World.setCell w6 ⟨bE,2,none⟩ (.slice A4 n4.length c4)) ⟨bE,4,none⟩ (.int .i64 n5)).heap.size):=hid (fun j hj=>Nat.lt_of_lt_of_le (HBl4.out j hj) (HT.out).size)
 have Hcauses:=hid (Hcauses.out.turn (HT.out) (fun i hi=>by have:=Hlb.out;unfold One at hi;omega))
 have HV:=hid (HV.out.on ((HT.out).to_below HV.out.le (fun i hi=>by have:=HBB.out;have:=Hlb.out;unfold One at hi;omega)))
 have HSz:=hid (Nat.le_trans HSz.out (HT.out).size)
 change Code.wp _ _ _ _ (World.setCell (World.setCell w6 ⟨bE,2,none⟩ (.slice A4 n4.length c4)) ⟨bE,4,none⟩ (.int .i64 n5))
 clear HT
 generalize (World.setCell (World.setCell w6 ⟨bE,2,none⟩ (.slice A4 n4.length c4)) ⟨bE,4,none⟩ (.int .i64 n5))=w7 at *
 go_wp2_with fail
 have hle6:=rNum_rest 59 (-9223372036854775808) s5
 refine (rdInt_any b s5 _ HV.out HBB.out HA.out HL.out).mono ?_
 rintro en w8 ⟨rfl,ha,ht⟩
 have HA:=hid ha
 have HT:=hid ht
 have HE:=hid ((ht.block bE HSz.out (by have:=Hlb.out;unfold One;omega)).trans HE.out)
 clear ha ht
 have HB:=hid (HB.out.trans ((HT.out).to_below HB.out.size (fun i hi=>by have:=Hlb.out;unfold One at hi;omega)))
 have HO:=hid (((HT.out).block bO (by have:=Hlb.out;have:=HSz.out;omega) (by have:=Hlb.out;unfold One;omega)).trans HO.out)
 have HBl4:Hid (∀ j,slBlk A4=some j→j<w8.heap.size):=hid (fun j hj=>Nat.lt_of_lt_of_le (HBl4.out j hj) (HT.out).size)
 have Hcauses:=hid (Hcauses.out.turn (HT.out) (fun i hi=>by have:=Hlb.out;unfold One at hi;omega))
 have HV:=hid (HV.out.on ((HT.out).to_below HV.out.le (fun i hi=>by have:=HBB.out;have:=Hlb.out;unfold One at hi;omega)))
 have HSz:=hid (Nat.le_trans HSz.out (HT.out).size)
 have HL:=hid (Nat.le_trans hle6 HL.out)
 clear hle6 HT
 generalize rNum 59 (-9223372036854775808) s5=r6 at *
 obtain ⟨n6,s6⟩:=r6
 simp only at HRaw HRd HA HL ⊢
 go_wp2_with fail
 have hle7:=rNum_rest 59 (-9223372036854775808) s6
 refine (rdInt_any b s6 _ HV.out HBB.out HA.out HL.out).mono ?_
 rintro en w9 ⟨rfl,ha,ht⟩
 have HA:=hid ha
 have HT:=hid ht
 have HE:=hid ((ht.block bE HSz.out (by have:=Hlb.out;unfold One;omega)).trans HE.out)
 clear ha ht
 have HB:=hid (HB.out.trans ((HT.out).to_below HB.out.size (fun i hi=>by have:=Hlb.out;unfold One at hi;omega)))
 have HO:=hid (((HT.out).block bO (by have:=Hlb.out;have:=HSz.out;omega) (by have:=Hlb.out;unfold One;omega)).trans HO.out)
 have HBl4:Hid (∀ j,slBlk A4=some j→j<w9.heap.size):=hid (fun j hj=>Nat.lt_of_lt_of_le (HBl4.out j hj) (HT.out).size)
 have Hcauses:=hid (Hcauses.out.turn (HT.out) (fun i hi=>by have:=Hlb.out;unfold One at hi;omega))
 have HV:=hid (HV.out.on ((HT.out).to_below HV.out.le (fun i hi=>by have:=HBB.out;have:=Hlb.out;unfold One at hi;omega)))
 have HSz:=hid (Nat.le_trans HSz.out (HT.out).size)
 have HL:=hid (Nat.le_trans hle7 HL.out)
 clear hle7 HT
 generalize rNum 59 (-9223372036854775808) s6=r7 at *
 obtain ⟨n7,s7⟩:=r7
 simp only at HRaw HRd HA HL ⊢
 go_wp2_with fail
 have hle8:=rNum_rest 59 (-9223372036854775808) s7
 refine (rdInt_any b s7 _ HV.out HBB.out HA.out HL.out).mono ?_
 rintro en w10 ⟨rfl,ha,ht⟩
 have HA:=hid ha
 have HT:=hid ht
 have HE:=hid ((ht.block bE HSz.out (by have:=Hlb.out;unfold One;omega)).trans HE.out)
 clear ha ht
 have HB:=hid (HB.out.trans ((HT.out).to_below HB.out.size (fun i hi=>by have:=Hlb.out;unfold One at hi;omega)))
 have HO:=hid (((HT.out).block bO (by have:=Hlb.out;have:=HSz.out;omega) (by have:=Hlb.out;unfold One;omega)).trans HO.out)
 have HBl4:Hid (∀ j,slBlk A4=some j→j<w10.heap.size):=hid (fun j hj=>Nat.lt_of_lt_of_le (HBl4.out j hj) (HT.out).size)
 have Hcauses:=hid (Hcauses.out.turn (HT.out) (fun i hi=>by have:=Hlb.out;unfold One at hi;omega))
 have HV:=hid (HV.out.on ((HT.out).to_below HV.out.le (fun i hi=>by have:=HBB.out;have:=Hlb.out;unfold One at hi;omega)))
 have HSz:=hid (Nat.le_trans HSz.out (HT.out).size)
 have HL:=hid (Nat.le_trans hle8 HL.out)
 clear hle8 HT
 generalize rNum 59 (-9223372036854775808) s7=r8 at *
 obtain ⟨n8,s8⟩:=r8
 simp only at HRaw HRd HA HL ⊢
 have fz:=fun j=>box_free HE.out j
 have e0:=box_cell HE.out 5 _ rfl
 have e1:=box_cell HE.out 6 _ rfl
 have e2:=box_cell HE.out 7 _ rfl
 go_upto_region 6 with fail
 clear fz e0 e1 e2
 have HT:=hid ((((Turn.refl (One bE) w10).set bE 5 (.int .i64 n6) (.inl rfl)).set bE 6 (.int .i64 n7) (.inl rfl)).set bE 7 (.int .i64 n8) (.inl rfl))
 have HA:=hid (((HA.out.set bE 5 (.int .i64 n6) (by have:=Hlb.out;omega)).set bE 6 (.int .i64 n7) (by have:=Hlb.out;omega)).set bE 7 (.int .i64 n8) (by have:=Hlb.out;omega))
 have HE:Hid (((World.setCell (World.setCell (World.setCell w10 ⟨bE,5,none⟩ (.int .i64 n6)) ⟨bE,6,none⟩ (.int .i64 n7)) ⟨bE,7,none⟩ (.int .i64 n8))).heap[bE]?=some (.cells #[.int .i64 n2,.int .i64 n3,.slice A4 n4.length c4,.int .i64 n1,.int .i64 n5,.int .i64 n6,.int .i64 n7,.int .i64 n8,.int .i64 0,.string ⟨#[]⟩,.slice none 0 0,.int .i64 0] 56 (0,0))):=hid (box_set (.int .i64 n8) (box_set (.int .i64 n7) (box_set (.int .i64 n6) HE.out rfl) rfl) rfl)
 have HB:=hid (HB.out.trans ((HT.out).to_below HB.out.size (fun i hi=>by have:=Hlb.out;unfold One at hi;omega)))
 have HO:=hid (((HT.out).block bO (by have:=Hlb.out;have:=HSz.out;omega) (by have:=Hlb.out;unfold One;omega)).trans HO.out)
 have HBl4:Hid (∀ j,slBlk A4=some j→j<(World.setCell (World.setCell (World.setCell w10 ⟨bE,5,none⟩ (.int .i64 n6)) ⟨bE,6,none⟩ (.int .i64 n7)) ⟨bE,7,none⟩ (.int .i64 n8)).heap.size):=hid (fun j hj=>Nat.lt_of_lt_of_le (HBl4.out j hj) (HT.out).size)
 have Hcauses:=hid (Hcauses.out.turn (HT.out) (fun i hi=>by have:=Hlb.out;unfold One at hi;omega))
 have HV:=hid (HV.out.on ((HT.out).to_below HV.out.le (fun i hi=>by have:=HBB.out;have:=Hlb.out;unfold One at hi;omega)))
 have HSz:=hid (Nat.le_trans HSz.out (HT.out).size)
 change Code.wp _ _ _ _ (World.setCell (World.setCell (World.setCell w10 ⟨bE,5,none⟩ (.int .i64 n6)) ⟨bE,6,none⟩ (.int .i64 n7)) ⟨bE,7,none⟩ (.int .i64 n8))
 clear HT
 generalize (World.setCell (World.setCell (World.setCell w10 ⟨bE,5,none⟩ (.int .i64 n6)) ⟨bE,6,none⟩ (.int .i64 n7)) ⟨bE,7,none⟩ (.int .i64 n8))=w11 at *
 go_wp2_with fail
 have hle9:=rNum_rest 59 0 s8
 refine (rdNum_any b s8 _ HV.out HBB.out HA.out HL.out).mono ?_
 rintro en w12 ⟨rfl,ha,ht⟩
 have HA:=hid ha
 have HT:=hid ht
 have HE:=hid ((ht.block bE HSz.out (by have:=Hlb.out;unfold One;omega)).trans HE.out)
 clear ha ht
 have HB:=hid (HB.out.trans ((HT.out).to_below HB.out.size (fun i hi=>by have:=Hlb.out;unfold One at hi;omega)))
 have HO:=hid (((HT.out).block bO (by have:=Hlb.out;have:=HSz.out;omega) (by have:=Hlb.out;unfold One;omega)).trans HO.out)
 have HBl4:Hid (∀ j,slBlk A4=some j→j<w12.heap.size):=hid (fun j hj=>Nat.lt_of_lt_of_le (HBl4.out j hj) (HT.out).size)
 have Hcauses:=hid (Hcauses.out.turn (HT.out) (fun i hi=>by have:=Hlb.out;unfold One at hi;omega))
 have HV:=hid (HV.out.on ((HT.out).to_below HV.out.le (fun i hi=>by have:=HBB.out;have:=Hlb.out;unfold One at hi;omega)))
 have HSz:=hid (Nat.le_trans HSz.out (HT.out).size)
 have HL:=hid (Nat.le_trans hle9 HL.out)
 clear hle9 HT
 generalize rNum 59 0 s8=r9 at *
 obtain ⟨n9,s9⟩:=r9
 simp only at HRaw HRd HA HL ⊢
 go_wp2_with fail
 have hle10:=rNum_rest 59 0 s9
 refine (rdNum_any b s9 _ HV.out HBB.out HA.out HL.out).mono ?_
 rintro en w13 ⟨rfl,ha,ht⟩
 have HA:=hid ha
 have HT:=hid ht
 have HE:=hid ((ht.block bE HSz.out (by have:=Hlb.out;unfold One;omega)).trans HE.out)
 clear ha ht
 have HB:=hid (HB.out.trans ((HT.out).to_below HB.out.size (fun i hi=>by have:=Hlb.out;unfold One at hi;omega)))
 have HO:=hid (((HT.out).block bO (by have:=Hlb.out;have:=HSz.out;omega) (by have:=Hlb.out;unfold One;omega)).trans HO.out)
 have HBl4:Hid (∀ j,slBlk A4=some j→j<w13.heap.size):=hid (fun j hj=>Nat.lt_of_lt_of_le (HBl4.out j hj) (HT.out).size)
 have Hcauses:=hid (Hcauses.out.turn (HT.out) (fun i hi=>by have:=Hlb.out;unfold One at hi;omega))
 have HV:=hid (HV.out.on ((HT.out).to_below HV.out.le (fun i hi=>by have:=HBB.out;have:=Hlb.out;unfold One at hi;omega)))
 have HSz:=hid (Nat.le_trans HSz.out (HT.out).size)
 have HL:=hid (Nat.le_trans hle10 HL.out)
 clear hle10 HT
 generalize rNum 59 0 s9=r10 at *
 obtain ⟨n10,s10⟩:=r10
 simp only at HRaw HRd HA HL ⊢
 have fz:=fun j=>box_free HE.out j
 have e0:=box_cell HE.out 8 _ rfl
 have e1:=box_cell HE.out 11 _ rfl
 go_upto_region 7 with fail
 clear fz e0 e1
 have HT:=hid (((Turn.refl (One bE) w13).set bE 8 (.int .i64 n9) (.inl rfl)).set bE 11 (.int .i64 n10) (.inl rfl))
 have HA:=hid ((HA.out.set bE 8 (.int .i64 n9) (by have:=Hlb.out;omega)).set bE 11 (.int .i64 n10) (by have:=Hlb.out;omega))
 have HE:Hid (((World.setCell (World.setCell w13 ⟨bE,8,none⟩ (.int .i64 n9)) ⟨bE,11,none⟩ (.int .i64 n10))).heap[bE]?=some (.cells #[.int .i64 n2,.int .i64 n3,.slice A4 n4.length c4,.int .i64 n1,.int .i64 n5,.int .i64 n6,.int .i64 n7,.int .i64 n8,.int .i64 n9,.string ⟨#[]⟩,.slice none 0 0,.int .i64 n10] 56 (0,0))):=hid (box_set (.int .i64 n10) (box_set (.int .i64 n9) HE.out rfl) rfl)
 have HB:=hid (HB.out.trans ((HT.out).to_below HB.out.size (fun i hi=>by have:=Hlb.out;unfold One at hi;omega)))
 have HO:=hid (((HT.out).block bO (by have:=Hlb.out;have:=HSz.out;omega) (by have:=Hlb.out;unfold One;omega)).trans HO.out)
 have HBl4:Hid (∀ j,slBlk A4=some j→j<(World.setCell (World.setCell w13 ⟨bE,8,none⟩ (.int .i64 n9)) ⟨bE,11,none⟩ (.int .i64 n10)).heap.size):=hid (fun j hj=>Nat.lt_of_lt_of_le (HBl4.out j hj) (HT.out).size)
 have Hcauses:=hid (Hcauses.out.turn (HT.out) (fun i hi=>by have:=Hlb.out;unfold One at hi;omega))
 have HV:=hid (HV.out.on ((HT.out).to_below HV.out.le (fun i hi=>by have:=HBB.out;have:=Hlb.out;unfold One at hi;omega)))
 have HSz:=hid (Nat.le_trans HSz.out (HT.out).size)
 change Code.wp _ _ _ _ (World.setCell (World.setCell w13 ⟨bE,8,none⟩ (.int .i64 n9)) ⟨bE,11,none⟩ (.int .i64 n10))
 clear HT
 generalize (World.setCell (World.setCell w13 ⟨bE,8,none⟩ (.int .i64 n9)) ⟨bE,11,none⟩ (.int .i64 n10))=w14 at *
 go_wp2_with fail
 have hle11:=rItems_rest s10
 refine (rdNums_any b s10 _ HV.out HBB.out HA.out HL.out).mono ?_
 rintro en w15 ⟨A11,c11,rfl,ho11,ha,ht⟩
 have HA:=hid ha
 have HT:=hid ht
 have HE:=hid ((ht.block bE HSz.out (by have:=Hlb.out;unfold One;omega)).trans HE.out)
 have hw11:bE+1≤w14.heap.size:=HSz.out
 clear ha ht
 have HB:=hid (HB.out.trans ((HT.out).to_below HB.out.size (fun i hi=>by have:=Hlb.out;unfold One at hi;omega)))
 have HO:=hid (((HT.out).block bO (by have:=Hlb.out;have:=HSz.out;omega) (by have:=Hlb.out;unfold One;omega)).trans HO.out)
 have HBl4:Hid (∀ j,slBlk A4=some j→j<w15.heap.size):=hid (fun j hj=>Nat.lt_of_lt_of_le (HBl4.out j hj) (HT.out).size)
 have Hcauses:=hid (Hcauses.out.turn (HT.out) (fun i hi=>by have:=Hlb.out;unfold One at hi;omega))
 have HV:=hid (HV.out.on ((HT.out).to_below HV.out.le (fun i hi=>by have:=HBB.out;have:=Hlb.out;unfold One at hi;omega)))
 have HSz:=hid (Nat.le_trans HSz.out (HT.out).size)
 have Hfiles:Hid (HeldL 1 intC w15 (bE+1) (A11,c11) (rItems (rNum 59 (-9223372036854775808)) s10).1):=hid ⟨ho11.rd intLayV,by have:=nums_small s10;have:=HL.out;omega,ho11.len_le,fun j hj=>Nat.le_trans hw11 (ho11.blk_lt hj).1⟩
 have HBl11:Hid (∀ j,slBlk A11=some j→j<w15.heap.size):=hid (fun j hj=>(ho11.blk_lt hj).2)
 clear ho11 hw11
 have HL:=hid (Nat.le_trans hle11 HL.out)
 clear hle11 HT
 generalize rItems (rNum 59 (-9223372036854775808)) s10=r11 at *
 obtain ⟨n11,s11⟩:=r11
 simp only at HRaw HRd HA HL Hfiles ⊢
 go_wp2_with fail
 have hle12:=rText_rest s11
 refine (rdText_any b s11 _ HV.out HBB.out HA.out HL.out).mono ?_
 rintro en w16 ⟨rfl,ha,ht⟩
 have HA:=hid ha
 have HT:=hid ht
 have HE:=hid ((ht.block bE HSz.out (by have:=Hlb.out;unfold One;omega)).trans HE.out)
 clear ha ht
 have HB:=hid (HB.out.trans ((HT.out).to_below HB.out.size (fun i hi=>by have:=Hlb.out;unfold One at hi;omega)))
 have HO:=hid (((HT.out).block bO (by have:=Hlb.out;have:=HSz.out;omega) (by have:=Hlb.out;unfold One;omega)).trans HO.out)
 have HBl4:Hid (∀ j,slBlk A4=some j→j<w16.heap.size):=hid (fun j hj=>Nat.lt_of_lt_of_le (HBl4.out j hj) (HT.out).size)
 have HBl11:Hid (∀ j,slBlk A11=some j→j<w16.heap.size):=hid (fun j hj=>Nat.lt_of_lt_of_le (HBl11.out j hj) (HT.out).size)
 have Hcauses:=hid (Hcauses.out.turn (HT.out) (fun i hi=>by have:=Hlb.out;unfold One at hi;omega))
 have Hfiles:=hid (Hfiles.out.turn (HT.out) (fun i hi=>by have:=Hlb.out;unfold One at hi;omega))
 have HV:=hid (HV.out.on ((HT.out).to_below HV.out.le (fun i hi=>by have:=HBB.out;have:=Hlb.out;unfold One at hi;omega)))
 have HSz:=hid (Nat.le_trans HSz.out (HT.out).size)
 have HL0:=HL
 have HL:=hid (Nat.le_trans hle12 HL.out)
 clear hle12 HT
 have htx:(rText s11).1.length≤1000000000000:=Nat.le_trans (text_small s11) HL0.out
 generalize rText s11=r12 at *
 obtain ⟨n12,s12⟩:=r12
 simp only at HRaw HRd HA HL htx ⊢
 have fz:=fun j=>box_free HE.out j
 have e0:=box_cell HE.out 10 _ rfl
 have e1:=box_cell HE.out 9 _ rfl
 go_upto_region 8 with fail
 clear fz e0 e1
 have HT:=hid (((Turn.refl (One bE) w16).set bE 10 (.slice A11 n11.length c11) (.inl rfl)).set bE 9 (.string (bs n12)) (.inl rfl))
 have HA:=hid ((HA.out.set bE 10 (.slice A11 n11.length c11) (by have:=Hlb.out;omega)).set bE 9 (.string (bs n12)) (by have:=Hlb.out;omega))
 have HE:Hid (((World.setCell (World.setCell w16 ⟨bE,10,none⟩ (.slice A11 n11.length c11)) ⟨bE,9,none⟩ (.string (bs n12)))).heap[bE]?=some (.cells #[.int .i64 n2,.int .i64 n3,.slice A4 n4.length c4,.int .i64 n1,.int .i64 n5,.int .i64 n6,.int .i64 n7,.int .i64 n8,.int .i64 n9,.string (bs n12),.slice A11 n11.length c11,.int .i64 n10] 56 (0,0))):=hid (box_set (.string (bs n12)) (box_set (.slice A11 n11.length c11) HE.out rfl) rfl)
 have HB:=hid (HB.out.trans ((HT.out).to_below HB.out.size (fun i hi=>by have:=Hlb.out;unfold One at hi;omega)))
 have HO:=hid (((HT.out).block bO (by have:=Hlb.out;have:=HSz.out;omega) (by have:=Hlb.out;unfold One;omega)).trans HO.out)
 have HBl4:Hid (∀ j,slBlk A4=some j→j<(World.setCell (World.setCell w16 ⟨bE,10,none⟩ (.slice A11 n11.length c11)) ⟨bE,9,none⟩ (.string (bs n12))).heap.size):=hid (fun j hj=>Nat.lt_of_lt_of_le (HBl4.out j hj) (HT.out).size)
 have HBl11:Hid (∀ j,slBlk A11=some j→j<(World.setCell (World.setCell w16 ⟨bE,10,none⟩ (.slice A11 n11.length c11)) ⟨bE,9,none⟩ (.string (bs n12))).heap.size):=hid (fun j hj=>Nat.lt_of_lt_of_le (HBl11.out j hj) (HT.out).size)
 have Hcauses:=hid (Hcauses.out.turn (HT.out) (fun i hi=>by have:=Hlb.out;unfold One at hi;omega))
 have Hfiles:=hid (Hfiles.out.turn (HT.out) (fun i hi=>by have:=Hlb.out;unfold One at hi;omega))
 have HV:=hid (HV.out.on ((HT.out).to_below HV.out.le (fun i hi=>by have:=HBB.out;have:=Hlb.out;unfold One at hi;omega)))
 have HSz:=hid (Nat.le_trans HSz.out (HT.out).size)
 change Code.wp _ _ _ _ (World.setCell (World.setCell w16 ⟨bE,10,none⟩ (.slice A11 n11.length c11)) ⟨bE,9,none⟩ (.string (bs n12)))
 clear HT
 generalize (World.setCell (World.setCell w16 ⟨bE,10,none⟩ (.slice A11 n11.length c11)) ⟨bE,9,none⟩ (.string (bs n12)))=w17 at *
 have hx:EvLOk w17 w17.heap.size ⟨⟨n2,n3,n4,n1,n5,n6,n7,n8,n9,bs n12,n11,n10⟩,A4,c4,A11,c11⟩:=⟨⟨Hcauses.out.rd,Hfiles.out.rd,Hcauses.out.len,Hfiles.out.len,by simp only [bs_size];omega⟩,Hfiles.out.cap⟩
 have HX:=hid hx
 have HEr:=hid (show w17.rangeAt bE 0 _ from range_block HE.out rfl)
 clear hx
 have hR:=HRd.out
 rw [HRaw.out] at hR
 simp only at hR
 have HR:=hid hR
 clear hR HRd HRaw htx
 have HBd:Hid (w.heap.size≤bO∧bO<b∧b<bE):=hid ⟨Hlb.out.2.2,Hlb.out.1,Hlb.out.2.1⟩
 go_wp2_with fail
 refine (done_any b s12 w17 HA.out).mono ?_
 rintro en wz ⟨rfl,rfl⟩
 cases hd:rDone s12 with
 | false =>
  have HR2:Hid (readE l=(zEv,2)):=hid (by rw [HR.out,hd,if_neg (by simp)])
  have HTh:=hid (show w17.there bO 0 12 from there_of_box HO.out)
  clear hd
  go_wp2_with (first
   | ((with_reducible show wpList _ _ _ (Oper.mk _ (Op.store 56 (.tmp 2) _) _ _ _ _::_) _ _);refine wpList_store_box rfl 56 _ _ rfl bO zeroE rfl rfl HTh.out (by kernel_rfl) (by kernel_rfl) ?_;intro wS hrS htS hgS;have HRS:=hid hrS;have HGS:=hid hgS;clear hrS htS hgS)
   | fail)
  refine ret_box2 2 3 56 rfl bO _ _ (.int .i64 2) rfl rfl HRS.out Tryz.underlying56 rfl (by kernel_rfl) rfl ?_
  exact ⟨⟨zEv,none,0,none,0⟩,by rw [HR2.out];rfl,by rw [HR2.out],⟨⟨⟨RdL.nil_,RdL.nil_,by simp [zEv],by simp [zEv],by simp [zEv]⟩,by simp [zEv]⟩,fun i hi=>(by rcases hi with h | h <;> cases h)⟩,fun i hi=>(by rcases hi with h | h <;> cases h),
   HB.out.grown HGS.out HB.out.size (fun k hk=>by injection hk with hk;have:=HBd.out;omega)⟩
 | true =>
  go_wp2_with (first
   | ((with_reducible show wpList _ _ _ (Oper.mk _ (Op.load 56 _) _ _ _ _::_) _ _);refine wpList_load_g rfl 56 (.tmp 5) rfl bE 0 rfl (EvM.cs ⟨n2,n3,n4,n1,n5,n6,n7,n8,n9,bs n12,n11,n10⟩ A4 c4 A11 c11).toList _ HEr.out Tryz.underlying56 rfl (by kernel_rfl) ?_)
   | fail)
  refine (evRight_any ⟨n2,n3,n4,n1,n5,n6,n7,n8,n9,bs n12,n11,n10⟩ A4 c4 A11 c11 w17 HX.out.ok HX.out.cap).mono ?_
  rintro en wy ⟨rfl,hb⟩
  have HO:=hid ((hb.block bO (by have:=HBd.out;have:=HSz.out;omega)).trans HO.out)
  have HE:=hid ((hb.block bE HSz.out).trans HE.out)
  have HB:=hid (HB.out.trans (hb.mono HB.out.size))
  have HX:=hid (HX.out.now hb)
  have Hcauses:=hid (Hcauses.out.turn (Turn.below (F:=One bO) hb) (fun i hi=>by have:=HBd.out;unfold One at hi;omega))
  have Hfiles:=hid (Hfiles.out.turn (Turn.below (F:=One bO) hb) (fun i hi=>by have:=HBd.out;unfold One at hi;omega))
  have Hlt:Hid (∀ i,(slBlk A4=some i∨slBlk A11=some i)→i<w17.heap.size):=hid (fun i hi=>by rcases hi with h | h;exact HBl4.out i h;exact HBl11.out i h)
  have Hsz:Hid (w17.heap.size≤wy.heap.size):=hid hb.size
  have HEr:=hid (show wy.rangeAt bE 0 _ from range_block HE.out rfl)
  have HTh:=hid (show wy.there bO 0 12 from there_of_box HO.out)
  clear hb
  cases hr:rightE ⟨n2,n3,n4,n1,n5,n6,n7,n8,n9,bs n12,n11,n10⟩ with
  | false =>
   have HR2:Hid (readE l=(zEv,2)):=hid (by rw [HR.out,hr,if_neg (by simp)])
   clear hd hr
   go_wp2_with (first
    | ((with_reducible show wpList _ _ _ (Oper.mk _ (Op.store 56 (.tmp 2) _) _ _ _ _::_) _ _);refine wpList_store_box rfl 56 _ _ rfl bO zeroE rfl rfl HTh.out (by kernel_rfl) (by kernel_rfl) ?_;intro wS hrS htS hgS;have HRS:=hid hrS;have HGS:=hid hgS;clear hrS htS hgS)
    | fail)
   refine ret_box2 2 3 56 rfl bO _ _ (.int .i64 2) rfl rfl HRS.out Tryz.underlying56 rfl (by kernel_rfl) rfl ?_
   exact ⟨⟨zEv,none,0,none,0⟩,by rw [HR2.out];rfl,by rw [HR2.out],⟨⟨⟨RdL.nil_,RdL.nil_,by simp [zEv],by simp [zEv],by simp [zEv]⟩,by simp [zEv]⟩,fun i hi=>(by rcases hi with h | h <;> cases h)⟩,fun i hi=>(by rcases hi with h | h <;> cases h),
    HB.out.grown HGS.out HB.out.size (fun k hk=>by injection hk with hk;have:=HBd.out;omega)⟩
  | true =>
   have HR2:Hid (readE l=(⟨n2,n3,n4,n1,n5,n6,n7,n8,n9,bs n12,n11,n10⟩,0)):=hid (by rw [HR.out,hd,hr,if_pos ⟨rfl,rfl⟩])
   clear hd hr
   go_wp2_with (first
    | ((with_reducible show wpList _ _ _ (Oper.mk _ (Op.load 56 _) _ _ _ _::_) _ _);refine wpList_load_g rfl 56 (.tmp 5) rfl bE 0 rfl (EvM.cs ⟨n2,n3,n4,n1,n5,n6,n7,n8,n9,bs n12,n11,n10⟩ A4 c4 A11 c11).toList _ HEr.out Tryz.underlying56 rfl (by kernel_rfl) ?_)
    | ((with_reducible show wpList _ _ _ (Oper.mk _ (Op.store 56 (.tmp 2) _) _ _ _ _::_) _ _);refine wpList_store_box rfl 56 _ _ rfl bO (EvM.cs ⟨n2,n3,n4,n1,n5,n6,n7,n8,n9,bs n12,n11,n10⟩ A4 c4 A11 c11) rfl rfl HTh.out (by kernel_rfl) (evOne ⟨n2,n3,n4,n1,n5,n6,n7,n8,n9,bs n12,n11,n10⟩ A4 c4 A11 c11) ?_;intro wS hrS htS hgS;have HRS:=hid hrS;have HGS:=hid hgS;clear hrS htS hgS)
    | fail)
   refine ret_box2 2 3 56 rfl bO _ _ (.int .i64 0) rfl rfl HRS.out Tryz.underlying56 rfl (by kernel_rfl) rfl ?_
   have hT:Turn (One bO) wy wS:=Turn.grown HGS.out (fun k hk=>(Option.some.inj hk).symm)
   have hF:∀ i,One bO i→i<bE+1:=fun i hi=>by have:=HBd.out;unfold One at hi;omega
   have hc:=Hcauses.out.turn hT hF
   have hf:=Hfiles.out.turn hT hF
   refine ⟨⟨⟨n2,n3,n4,n1,n5,n6,n7,n8,n9,bs n12,n11,n10⟩,A4,c4,A11,c11⟩,by rw [HR2.out],by rw [HR2.out],⟨⟨⟨hc.rd,hf.rd,hc.len,hf.len,HX.out.ok.tx⟩,hf.cap⟩,fun i hi=>?_⟩,fun i hi=>?_,HB.out.grown HGS.out HB.out.size (fun k hk=>by injection hk with hk;have:=HBd.out;omega)⟩
   ·have:=Hlt.out i hi;have:=Hsz.out;have:=hT.size;omega
   ·have:=HBd.out
    rcases hi with h | h
    ·have:=hc.lo i h;omega
    ·have:=hf.lo i h;omega
end Go.Proofs.YthlpehhlhebhbaaGreatDoor
