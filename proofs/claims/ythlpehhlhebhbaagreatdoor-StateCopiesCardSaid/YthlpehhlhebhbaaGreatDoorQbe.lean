/- Contracts and plain laws, joined: EvW, StV. -/
import Derived.Test.YthlpehhlhebhbaaGreatDoorQbd
import Derived.Test.YthlpehhlhebhbaaGreatDoorQan
import Derived.Test.YthlpehhlhebhbaaGreatDoorQay
/- Contract of event.Text (layer 14;written by genevw.py). -/
set_option linter.unusedSimpArgs false
set_option linter.unusedVariables false
namespace Go.Proofs.YthlpehhlhebhbaaGreatDoor
set_option maxHeartbeats 4000000
open Lib (hid)
open Go.RowKit
set_option maxRecDepth 100000
theorem ev_cells {b:Nat} {e:EvM} {cA:Option Addr} {cc:Nat} {fA:Option Addr} {fc:Nat} {w:World} {t:TypeId} (h:w.heap[b]?=some (.cells (e.cs cA cc fA fc) t (0,0))) :
  w.cell? ⟨b,0,none⟩=some (.int .i64 e.author)∧w.cell? ⟨b,1,none⟩=some (.int .i64 e.seq)∧w.cell? ⟨b,2,none⟩=some (.slice cA e.causes.length cc)∧w.cell? ⟨b,3,none⟩=some (.int .i64 e.kind)∧w.cell? ⟨b,4,none⟩=some (.int .i64 e.group)∧w.cell? ⟨b,5,none⟩=some (.int .i64 e.target)∧w.cell? ⟨b,6,none⟩=some (.int .i64 e.quote)∧w.cell? ⟨b,7,none⟩=some (.int .i64 e.who)∧w.cell? ⟨b,8,none⟩=some (.int .i64 e.n)∧w.cell? ⟨b,9,none⟩=some (.string e.text)∧w.cell? ⟨b,10,none⟩=some (.slice fA e.files.length fc)∧w.cell? ⟨b,11,none⟩=some (.int .i64 e.step) :=
 ⟨box_cell h 0 _ rfl,box_cell h 1 _ rfl,box_cell h 2 _ rfl,box_cell h 3 _ rfl,box_cell h 4 _ rfl,box_cell h 5 _ rfl,box_cell h 6 _ rfl,box_cell h 7 _ rfl,box_cell h 8 _ rfl,box_cell h 9 _ rfl,box_cell h 10 _ rfl,box_cell h 11 _ rfl⟩
theorem evText_any {B:Nat} (e:EvL) (w:World) (hV:Vs B w) (h:EvLOk w w.heap.size e) :
  Calls Tryz.prog 95 #[e.v] w fun en w'=>en=.returned (.string (bs (textE e.ev)))∧Below w.heap.size w w':=by
 have hb0:Below w.heap.size w (w.alloc (.cells (e.ev.cs e.cA e.cc e.fA e.fc) 56)):=by repeat (first | with_reducible exact Below.refl _ _ | with_reducible assumption | with_reducible refine Below.drew ?_ | with_reducible refine Below.alloc ?_ (by first | omega | (simp;done) | (simp;omega)) _)
 have HB0:=hid hb0
 have HX:Hid ((w.alloc (.cells (e.ev.cs e.cA e.cc e.fA e.fc) 56)).heap[w.heap.size]?=some (.cells (e.ev.cs e.cA e.cc e.fA e.fc) 56 (0,0))):=hid (MapKept.heap_alloc w _).1
 have HV:=hid (hV.now hb0)
 have HO:=hid (h.now hb0)
 clear hb0 hV h
 go_enter Tryz.func95,Tryz.ntmps95
 go_upto_region 1 with fail
 generalize w.alloc (.cells (e.ev.cs e.cA e.cc e.fA e.fc) 56)=wb at *
 obtain ⟨bx,hbx⟩:∃ bx,bx=w.heap.size:=⟨_,rfl⟩
 rw [← hbx] at HX ⊢
 clear hbx
 have HXr:=hid (show wb.rangeAt bx 0 (e.ev.cs e.cA e.cc e.fA e.fc).toList from range_block HX.out rfl)
 go_wp2_with (first
  | ((with_reducible show wpList _ _ _ (Oper.mk _ (Op.load 56 _) _ _ _ _::_) _ _);refine wpList_load_g rfl 56 (.tmp 1) rfl bx 0 rfl (e.ev.cs e.cA e.cc e.fA e.fc).toList _ HXr.out Tryz.underlying56 rfl (by kernel_rfl) ?_)
  | fail)
 refine (evRight_any e.ev e.cA e.cc e.fA e.fc wb HO.out.ok HO.out.cap).mono ?_
 rintro en w1 ⟨rfl,hb1⟩
 have HX1:=hid ((hb1.block _ (box_lt HX.out)).trans HX.out)
 have HB1:=hid (HB0.out.trans (hb1.mono HB0.out.size))
 have HV1:=hid (HV.out.now hb1)
 have HO1:=hid (HO.out.now hb1)
 clear hb1 HX HB0 HV HO HXr
 cases hR:rightE e.ev with
 | false =>
  have HT:Hid (textE e.ev=[]):=hid (by unfold textE;rw [if_neg (by rw [hR];decide)])
  clear hR
  go_wp2_with fail
  go_ret
  exact ⟨by rw [HT.out];rfl,HB1.out⟩
 | true =>
  have HT:Hid (textE e.ev=textRaw e.ev):=hid (by unfold textE;rw [if_pos hR])
  have HN:=hid (right_nums hR)
  have HC:=hid (fun wq (h:Below w1.heap.size w1 wq)=>ev_cells ((h.block _ (box_lt HX1.out)).trans HX1.out))
  clear hR
  have K0:Hid (∀ wq,Below w1.heap.size w1 wq→Calls Tryz.prog 91 #[.int .i64 e.ev.kind] wq fun en w'=>en=.returned (.string (bs (encN e.ev.kind)))∧Below wq.heap.size wq w'):=hid (fun wq h=>wNum_any e.ev.kind wq (HV1.out.now h) (by have:=HN.out.kind;exact ⟨by omega,by omega⟩))
  have l0:=encN_len e.ev.kind (by have:=HN.out.kind;exact ⟨by omega,by omega⟩)
  have K1:Hid (∀ wq,Below w1.heap.size w1 wq→Calls Tryz.prog 91 #[.int .i64 e.ev.author] wq fun en w'=>en=.returned (.string (bs (encN e.ev.author)))∧Below wq.heap.size wq w'):=hid (fun wq h=>wNum_any e.ev.author wq (HV1.out.now h) (by have:=HN.out.author;exact ⟨by omega,by omega⟩))
  have l1:=encN_len e.ev.author (by have:=HN.out.author;exact ⟨by omega,by omega⟩)
  have K2:Hid (∀ wq,Below w1.heap.size w1 wq→Calls Tryz.prog 91 #[.int .i64 e.ev.seq] wq fun en w'=>en=.returned (.string (bs (encN e.ev.seq)))∧Below wq.heap.size wq w'):=hid (fun wq h=>wNum_any e.ev.seq wq (HV1.out.now h) (by have:=HN.out.seq;exact ⟨by omega,by omega⟩))
  have l2:=encN_len e.ev.seq (by have:=HN.out.seq;exact ⟨by omega,by omega⟩)
  have K3:Hid (∀ wq,Below w1.heap.size w1 wq→Calls Tryz.prog 213 #[.slice e.cA e.ev.causes.length e.cc] wq fun en w'=>en=.returned (.string (bs (encL encI e.ev.causes)))∧Below wq.heap.size wq w'):=hid (fun wq h=>wNums_any e.ev.causes e.cA e.cc wq (HV1.out.now h) (HO1.out.now h).ok.ca (fun y hy=>by have:=HN.out.causes y hy;exact ⟨by omega,by omega⟩) (by have:=HN.out.cl;omega))
  have l3:(encL encI e.ev.causes).length≤300:=by
   have k1:=flat_bound encI 22 e.ev.causes (fun y hy=>encI_len y (by have:=HN.out.causes y hy;exact ⟨by omega,by omega⟩))
   have k2:=Lib.itoa_length_le e.ev.causes.length (by omega) (by have:=HN.out.cl;omega)
   have k3:=HN.out.cl
   simp only [encL,List.length_append,List.length_cons,List.length_nil]
   omega
  have K4:Hid (∀ wq,Below w1.heap.size w1 wq→Calls Tryz.prog 91 #[.int .i64 e.ev.group] wq fun en w'=>en=.returned (.string (bs (encN e.ev.group)))∧Below wq.heap.size wq w'):=hid (fun wq h=>wNum_any e.ev.group wq (HV1.out.now h) (by have:=HN.out.group;exact ⟨by omega,by omega⟩))
  have l4:=encN_len e.ev.group (by have:=HN.out.group;exact ⟨by omega,by omega⟩)
  have K5:Hid (∀ wq,Below w1.heap.size w1 wq→Calls Tryz.prog 114 #[.int .i64 e.ev.target] wq fun en w'=>en=.returned (.string (bs (encI e.ev.target)))∧Below wq.heap.size wq w'):=hid (fun wq h=>wInt_any e.ev.target wq (HV1.out.now h) (by have:=HN.out.target;exact ⟨by omega,by omega⟩))
  have l5:=encI_len e.ev.target (by have:=HN.out.target;exact ⟨by omega,by omega⟩)
  have K6:Hid (∀ wq,Below w1.heap.size w1 wq→Calls Tryz.prog 114 #[.int .i64 e.ev.quote] wq fun en w'=>en=.returned (.string (bs (encI e.ev.quote)))∧Below wq.heap.size wq w'):=hid (fun wq h=>wInt_any e.ev.quote wq (HV1.out.now h) (by have:=HN.out.quote;exact ⟨by omega,by omega⟩))
  have l6:=encI_len e.ev.quote (by have:=HN.out.quote;exact ⟨by omega,by omega⟩)
  have K7:Hid (∀ wq,Below w1.heap.size w1 wq→Calls Tryz.prog 114 #[.int .i64 e.ev.who] wq fun en w'=>en=.returned (.string (bs (encI e.ev.who)))∧Below wq.heap.size wq w'):=hid (fun wq h=>wInt_any e.ev.who wq (HV1.out.now h) (by have:=HN.out.who;exact ⟨by omega,by omega⟩))
  have l7:=encI_len e.ev.who (by have:=HN.out.who;exact ⟨by omega,by omega⟩)
  have K8:Hid (∀ wq,Below w1.heap.size w1 wq→Calls Tryz.prog 91 #[.int .i64 e.ev.n] wq fun en w'=>en=.returned (.string (bs (encN e.ev.n)))∧Below wq.heap.size wq w'):=hid (fun wq h=>wNum_any e.ev.n wq (HV1.out.now h) (by have:=HN.out.n;exact ⟨by omega,by omega⟩))
  have l8:=encN_len e.ev.n (by have:=HN.out.n;exact ⟨by omega,by omega⟩)
  have K9:Hid (∀ wq,Below w1.heap.size w1 wq→Calls Tryz.prog 91 #[.int .i64 e.ev.step] wq fun en w'=>en=.returned (.string (bs (encN e.ev.step)))∧Below wq.heap.size wq w'):=hid (fun wq h=>wNum_any e.ev.step wq (HV1.out.now h) (by have:=HN.out.step;exact ⟨by omega,by omega⟩))
  have l9:=encN_len e.ev.step (by have:=HN.out.step;exact ⟨by omega,by omega⟩)
  have K10:Hid (∀ wq,Below w1.heap.size w1 wq→Calls Tryz.prog 213 #[.slice e.fA e.ev.files.length e.fc] wq fun en w'=>en=.returned (.string (bs (encL encI e.ev.files)))∧Below wq.heap.size wq w'):=hid (fun wq h=>wNums_any e.ev.files e.fA e.fc wq (HV1.out.now h) (HO1.out.now h).ok.fi (fun y hy=>by have:=HN.out.files y hy;exact ⟨by omega,by omega⟩) (by have:=HN.out.fl;omega))
  have l10:(encL encI e.ev.files).length≤300:=by
   have k1:=flat_bound encI 22 e.ev.files (fun y hy=>encI_len y (by have:=HN.out.files y hy;exact ⟨by omega,by omega⟩))
   have k2:=Lib.itoa_length_le e.ev.files.length (by omega) (by have:=HN.out.fl;omega)
   have k3:=HN.out.fl
   simp only [encL,List.length_append,List.length_cons,List.length_nil]
   omega
  have ht:e.ev.text.data.toList.length=e.ev.text.size:=rfl
  have K11:Hid (∀ wq,Below w1.heap.size w1 wq→Calls Tryz.prog 94 #[.string e.ev.text] wq fun en w'=>en=.returned (.string (bs (encT e.ev.text.data.toList)))∧Below wq.heap.size wq w'):=hid (fun wq h=>wText_any e.ev.text.data.toList wq (HV1.out.now h) (by have:=HN.out.text;omega))
  have l11:=encT_len e.ev.text.data.toList ⟨by omega,by have:=HN.out.text;omega⟩
  have l99:=HN.out.text
  rw [ht] at l11
  clear ht
  have HTr:Hid (textE e.ev=encN e.ev.kind++encN e.ev.author++encN e.ev.seq++encL encI e.ev.causes++encN e.ev.group++encI e.ev.target++encI e.ev.quote++encI e.ev.who++encN e.ev.n++encN e.ev.step++encL encI e.ev.files++encT e.ev.text.data.toList):=hid HT.out
  clear HT
  generalize encN e.ev.kind=m0 at *
  generalize encN e.ev.author=m1 at *
  generalize encN e.ev.seq=m2 at *
  generalize encL encI e.ev.causes=m3 at *
  generalize encN e.ev.group=m4 at *
  generalize encI e.ev.target=m5 at *
  generalize encI e.ev.quote=m6 at *
  generalize encI e.ev.who=m7 at *
  generalize encN e.ev.n=m8 at *
  generalize encN e.ev.step=m9 at *
  generalize encL encI e.ev.files=m10 at *
  generalize encT e.ev.text.data.toList=m11 at *
  have HS:Hid (e.ev.text.size≤4000):=hid l99
  clear HN
  go_wp2_with fail
  refine wp_region_det (S:=Below w1.heap.size w1) (by kernel_rfl) (by kernel_rfl) ((Below.refl _ _).drew) ?_
  rw [List.toList_toArray]
  first
    | (refine Det.read (v:=?_) (by rfl) ?_ ?_;rotate_left;(· (intro wq hSq;skip;go_simp;try with_reducible rfl));simp only [Act.put,sA,sB,sC,sD,sE,sF])
  first
    | (refine Det.read (v:=?_) (by rfl) ?_ ?_;rotate_left;(· (intro wq hSq;obtain ⟨q0,q1,q2,q3,q4,q5,q6,q7,q8,q9,q10,q11⟩:=HC.out _ hSq;go_simp;try with_reducible rfl));simp only [Act.put,sA,sB,sC,sD,sE,sF])
  first
    | ((with_reducible show Det _ _ _ _ (Oper.mk _ (Op.call (Call.mk (Callee.value (Operand.func 91)) _ _)) _ _ _ _::_) _);refine Det.step (.string (bs m0)) (by rfl) (fun wq hSq K hK=>?_) ?_;(· (go_simp;refine (K0.out _ hSq).mono ?_;rintro e4 w4 ⟨rfl,hb4⟩;go_wp2_with fail;refine hK.out _ _ (hSq.trans (hb4.mono hSq.size)) ?_;first | rfl | (simp [Act.put];done)));simp only [Act.put,sA,sB,sC,sD,sE,sF])
  first
    | (refine Det.read (v:=?_) (by rfl) ?_ ?_;rotate_left;(· (intro wq hSq;skip;go_simp;try with_reducible rfl));simp only [Act.put,sA,sB,sC,sD,sE,sF])
  first
    | (refine Det.read (v:=?_) (by rfl) ?_ ?_;rotate_left;(· (intro wq hSq;obtain ⟨q0,q1,q2,q3,q4,q5,q6,q7,q8,q9,q10,q11⟩:=HC.out _ hSq;go_simp;try with_reducible rfl));simp only [Act.put,sA,sB,sC,sD,sE,sF])
  first
    | ((with_reducible show Det _ _ _ _ (Oper.mk _ (Op.call (Call.mk (Callee.value (Operand.func 91)) _ _)) _ _ _ _::_) _);refine Det.step (.string (bs m1)) (by rfl) (fun wq hSq K hK=>?_) ?_;(· (go_simp;refine (K1.out _ hSq).mono ?_;rintro e4 w4 ⟨rfl,hb4⟩;go_wp2_with fail;refine hK.out _ _ (hSq.trans (hb4.mono hSq.size)) ?_;first | rfl | (simp [Act.put];done)));simp only [Act.put,sA,sB,sC,sD,sE,sF])
  first
    | ((with_reducible show Det _ _ _ _ (Oper.mk _ (Op.binOp .add 9 _ _ _) _ _ _ _::_) _);refine Det.cat (by rfl) rfl Tryz.underlying9 rfl rfl (by first | omega | (simp;done) | (simp;omega) | (simp only [List.length_append,List.length_cons,List.length_nil];omega)) ?_;simp only [Act.put,sA,sB,sC,sD,sE,sF])
  first
    | (refine Det.read (v:=?_) (by rfl) ?_ ?_;rotate_left;(· (intro wq hSq;skip;go_simp;try with_reducible rfl));simp only [Act.put,sA,sB,sC,sD,sE,sF])
  first
    | (refine Det.read (v:=?_) (by rfl) ?_ ?_;rotate_left;(· (intro wq hSq;obtain ⟨q0,q1,q2,q3,q4,q5,q6,q7,q8,q9,q10,q11⟩:=HC.out _ hSq;go_simp;try with_reducible rfl));simp only [Act.put,sA,sB,sC,sD,sE,sF])
  first
    | ((with_reducible show Det _ _ _ _ (Oper.mk _ (Op.call (Call.mk (Callee.value (Operand.func 91)) _ _)) _ _ _ _::_) _);refine Det.step (.string (bs m2)) (by rfl) (fun wq hSq K hK=>?_) ?_;(· (go_simp;refine (K2.out _ hSq).mono ?_;rintro e4 w4 ⟨rfl,hb4⟩;go_wp2_with fail;refine hK.out _ _ (hSq.trans (hb4.mono hSq.size)) ?_;first | rfl | (simp [Act.put];done)));simp only [Act.put,sA,sB,sC,sD,sE,sF])
  first
    | ((with_reducible show Det _ _ _ _ (Oper.mk _ (Op.binOp .add 9 _ _ _) _ _ _ _::_) _);refine Det.cat (by rfl) rfl Tryz.underlying9 rfl rfl (by first | omega | (simp;done) | (simp;omega) | (simp only [List.length_append,List.length_cons,List.length_nil];omega)) ?_;simp only [Act.put,sA,sB,sC,sD,sE,sF])
  first
    | (refine Det.read (v:=?_) (by rfl) ?_ ?_;rotate_left;(· (intro wq hSq;skip;go_simp;try with_reducible rfl));simp only [Act.put,sA,sB,sC,sD,sE,sF])
  first
    | (refine Det.read (v:=?_) (by rfl) ?_ ?_;rotate_left;(· (intro wq hSq;obtain ⟨q0,q1,q2,q3,q4,q5,q6,q7,q8,q9,q10,q11⟩:=HC.out _ hSq;go_simp;try with_reducible rfl));simp only [Act.put,sA,sB,sC,sD,sE,sF])
  first
    | ((with_reducible show Det _ _ _ _ (Oper.mk _ (Op.call (Call.mk (Callee.value (Operand.func 213)) _ _)) _ _ _ _::_) _);refine Det.step (.string (bs m3)) (by rfl) (fun wq hSq K hK=>?_) ?_;(· (go_simp;refine (K3.out _ hSq).mono ?_;rintro e4 w4 ⟨rfl,hb4⟩;go_wp2_with fail;refine hK.out _ _ (hSq.trans (hb4.mono hSq.size)) ?_;first | rfl | (simp [Act.put];done)));simp only [Act.put,sA,sB,sC,sD,sE,sF])
  first
    | ((with_reducible show Det _ _ _ _ (Oper.mk _ (Op.binOp .add 9 _ _ _) _ _ _ _::_) _);refine Det.cat (by rfl) rfl Tryz.underlying9 rfl rfl (by first | omega | (simp;done) | (simp;omega) | (simp only [List.length_append,List.length_cons,List.length_nil];omega)) ?_;simp only [Act.put,sA,sB,sC,sD,sE,sF])
  first
    | (refine Det.read (v:=?_) (by rfl) ?_ ?_;rotate_left;(· (intro wq hSq;skip;go_simp;try with_reducible rfl));simp only [Act.put,sA,sB,sC,sD,sE,sF])
  first
    | (refine Det.read (v:=?_) (by rfl) ?_ ?_;rotate_left;(· (intro wq hSq;obtain ⟨q0,q1,q2,q3,q4,q5,q6,q7,q8,q9,q10,q11⟩:=HC.out _ hSq;go_simp;try with_reducible rfl));simp only [Act.put,sA,sB,sC,sD,sE,sF])
  first
    | ((with_reducible show Det _ _ _ _ (Oper.mk _ (Op.call (Call.mk (Callee.value (Operand.func 91)) _ _)) _ _ _ _::_) _);refine Det.step (.string (bs m4)) (by rfl) (fun wq hSq K hK=>?_) ?_;(· (go_simp;refine (K4.out _ hSq).mono ?_;rintro e4 w4 ⟨rfl,hb4⟩;go_wp2_with fail;refine hK.out _ _ (hSq.trans (hb4.mono hSq.size)) ?_;first | rfl | (simp [Act.put];done)));simp only [Act.put,sA,sB,sC,sD,sE,sF])
  first
    | ((with_reducible show Det _ _ _ _ (Oper.mk _ (Op.binOp .add 9 _ _ _) _ _ _ _::_) _);refine Det.cat (by rfl) rfl Tryz.underlying9 rfl rfl (by first | omega | (simp;done) | (simp;omega) | (simp only [List.length_append,List.length_cons,List.length_nil];omega)) ?_;simp only [Act.put,sA,sB,sC,sD,sE,sF])
  first
    | (refine Det.read (v:=?_) (by rfl) ?_ ?_;rotate_left;(· (intro wq hSq;skip;go_simp;try with_reducible rfl));simp only [Act.put,sA,sB,sC,sD,sE,sF])
  first
    | (refine Det.read (v:=?_) (by rfl) ?_ ?_;rotate_left;(· (intro wq hSq;obtain ⟨q0,q1,q2,q3,q4,q5,q6,q7,q8,q9,q10,q11⟩:=HC.out _ hSq;go_simp;try with_reducible rfl));simp only [Act.put,sA,sB,sC,sD,sE,sF])
  first
    | ((with_reducible show Det _ _ _ _ (Oper.mk _ (Op.call (Call.mk (Callee.value (Operand.func 114)) _ _)) _ _ _ _::_) _);refine Det.step (.string (bs m5)) (by rfl) (fun wq hSq K hK=>?_) ?_;(· (go_simp;refine (K5.out _ hSq).mono ?_;rintro e4 w4 ⟨rfl,hb4⟩;go_wp2_with fail;refine hK.out _ _ (hSq.trans (hb4.mono hSq.size)) ?_;first | rfl | (simp [Act.put];done)));simp only [Act.put,sA,sB,sC,sD,sE,sF])
  first
    | ((with_reducible show Det _ _ _ _ (Oper.mk _ (Op.binOp .add 9 _ _ _) _ _ _ _::_) _);refine Det.cat (by rfl) rfl Tryz.underlying9 rfl rfl (by first | omega | (simp;done) | (simp;omega) | (simp only [List.length_append,List.length_cons,List.length_nil];omega)) ?_;simp only [Act.put,sA,sB,sC,sD,sE,sF])
  first
    | (refine Det.read (v:=?_) (by rfl) ?_ ?_;rotate_left;(· (intro wq hSq;skip;go_simp;try with_reducible rfl));simp only [Act.put,sA,sB,sC,sD,sE,sF])
  first
    | (refine Det.read (v:=?_) (by rfl) ?_ ?_;rotate_left;(· (intro wq hSq;obtain ⟨q0,q1,q2,q3,q4,q5,q6,q7,q8,q9,q10,q11⟩:=HC.out _ hSq;go_simp;try with_reducible rfl));simp only [Act.put,sA,sB,sC,sD,sE,sF])
  first
    | ((with_reducible show Det _ _ _ _ (Oper.mk _ (Op.call (Call.mk (Callee.value (Operand.func 114)) _ _)) _ _ _ _::_) _);refine Det.step (.string (bs m6)) (by rfl) (fun wq hSq K hK=>?_) ?_;(· (go_simp;refine (K6.out _ hSq).mono ?_;rintro e4 w4 ⟨rfl,hb4⟩;go_wp2_with fail;refine hK.out _ _ (hSq.trans (hb4.mono hSq.size)) ?_;first | rfl | (simp [Act.put];done)));simp only [Act.put,sA,sB,sC,sD,sE,sF])
  first
    | ((with_reducible show Det _ _ _ _ (Oper.mk _ (Op.binOp .add 9 _ _ _) _ _ _ _::_) _);refine Det.cat (by rfl) rfl Tryz.underlying9 rfl rfl (by first | omega | (simp;done) | (simp;omega) | (simp only [List.length_append,List.length_cons,List.length_nil];omega)) ?_;simp only [Act.put,sA,sB,sC,sD,sE,sF])
  first
    | (refine Det.read (v:=?_) (by rfl) ?_ ?_;rotate_left;(· (intro wq hSq;skip;go_simp;try with_reducible rfl));simp only [Act.put,sA,sB,sC,sD,sE,sF])
  first
    | (refine Det.read (v:=?_) (by rfl) ?_ ?_;rotate_left;(· (intro wq hSq;obtain ⟨q0,q1,q2,q3,q4,q5,q6,q7,q8,q9,q10,q11⟩:=HC.out _ hSq;go_simp;try with_reducible rfl));simp only [Act.put,sA,sB,sC,sD,sE,sF])
  first
    | ((with_reducible show Det _ _ _ _ (Oper.mk _ (Op.call (Call.mk (Callee.value (Operand.func 114)) _ _)) _ _ _ _::_) _);refine Det.step (.string (bs m7)) (by rfl) (fun wq hSq K hK=>?_) ?_;(· (go_simp;refine (K7.out _ hSq).mono ?_;rintro e4 w4 ⟨rfl,hb4⟩;go_wp2_with fail;refine hK.out _ _ (hSq.trans (hb4.mono hSq.size)) ?_;first | rfl | (simp [Act.put];done)));simp only [Act.put,sA,sB,sC,sD,sE,sF])
  first
    | ((with_reducible show Det _ _ _ _ (Oper.mk _ (Op.binOp .add 9 _ _ _) _ _ _ _::_) _);refine Det.cat (by rfl) rfl Tryz.underlying9 rfl rfl (by first | omega | (simp;done) | (simp;omega) | (simp only [List.length_append,List.length_cons,List.length_nil];omega)) ?_;simp only [Act.put,sA,sB,sC,sD,sE,sF])
  first
    | (refine Det.read (v:=?_) (by rfl) ?_ ?_;rotate_left;(· (intro wq hSq;skip;go_simp;try with_reducible rfl));simp only [Act.put,sA,sB,sC,sD,sE,sF])
  first
    | (refine Det.read (v:=?_) (by rfl) ?_ ?_;rotate_left;(· (intro wq hSq;obtain ⟨q0,q1,q2,q3,q4,q5,q6,q7,q8,q9,q10,q11⟩:=HC.out _ hSq;go_simp;try with_reducible rfl));simp only [Act.put,sA,sB,sC,sD,sE,sF])
  first
    | ((with_reducible show Det _ _ _ _ (Oper.mk _ (Op.call (Call.mk (Callee.value (Operand.func 91)) _ _)) _ _ _ _::_) _);refine Det.step (.string (bs m8)) (by rfl) (fun wq hSq K hK=>?_) ?_;(· (go_simp;refine (K8.out _ hSq).mono ?_;rintro e4 w4 ⟨rfl,hb4⟩;go_wp2_with fail;refine hK.out _ _ (hSq.trans (hb4.mono hSq.size)) ?_;first | rfl | (simp [Act.put];done)));simp only [Act.put,sA,sB,sC,sD,sE,sF])
  first
    | ((with_reducible show Det _ _ _ _ (Oper.mk _ (Op.binOp .add 9 _ _ _) _ _ _ _::_) _);refine Det.cat (by rfl) rfl Tryz.underlying9 rfl rfl (by first | omega | (simp;done) | (simp;omega) | (simp only [List.length_append,List.length_cons,List.length_nil];omega)) ?_;simp only [Act.put,sA,sB,sC,sD,sE,sF])
  first
    | (refine Det.read (v:=?_) (by rfl) ?_ ?_;rotate_left;(· (intro wq hSq;skip;go_simp;try with_reducible rfl));simp only [Act.put,sA,sB,sC,sD,sE,sF])
  first
    | (refine Det.read (v:=?_) (by rfl) ?_ ?_;rotate_left;(· (intro wq hSq;obtain ⟨q0,q1,q2,q3,q4,q5,q6,q7,q8,q9,q10,q11⟩:=HC.out _ hSq;go_simp;try with_reducible rfl));simp only [Act.put,sA,sB,sC,sD,sE,sF])
  first
    | ((with_reducible show Det _ _ _ _ (Oper.mk _ (Op.call (Call.mk (Callee.value (Operand.func 91)) _ _)) _ _ _ _::_) _);refine Det.step (.string (bs m9)) (by rfl) (fun wq hSq K hK=>?_) ?_;(· (go_simp;refine (K9.out _ hSq).mono ?_;rintro e4 w4 ⟨rfl,hb4⟩;go_wp2_with fail;refine hK.out _ _ (hSq.trans (hb4.mono hSq.size)) ?_;first | rfl | (simp [Act.put];done)));simp only [Act.put,sA,sB,sC,sD,sE,sF])
  first
    | ((with_reducible show Det _ _ _ _ (Oper.mk _ (Op.binOp .add 9 _ _ _) _ _ _ _::_) _);refine Det.cat (by rfl) rfl Tryz.underlying9 rfl rfl (by first | omega | (simp;done) | (simp;omega) | (simp only [List.length_append,List.length_cons,List.length_nil];omega)) ?_;simp only [Act.put,sA,sB,sC,sD,sE,sF])
  first
    | (refine Det.read (v:=?_) (by rfl) ?_ ?_;rotate_left;(· (intro wq hSq;skip;go_simp;try with_reducible rfl));simp only [Act.put,sA,sB,sC,sD,sE,sF])
  first
    | (refine Det.read (v:=?_) (by rfl) ?_ ?_;rotate_left;(· (intro wq hSq;obtain ⟨q0,q1,q2,q3,q4,q5,q6,q7,q8,q9,q10,q11⟩:=HC.out _ hSq;go_simp;try with_reducible rfl));simp only [Act.put,sA,sB,sC,sD,sE,sF])
  first
    | ((with_reducible show Det _ _ _ _ (Oper.mk _ (Op.call (Call.mk (Callee.value (Operand.func 213)) _ _)) _ _ _ _::_) _);refine Det.step (.string (bs m10)) (by rfl) (fun wq hSq K hK=>?_) ?_;(· (go_simp;refine (K10.out _ hSq).mono ?_;rintro e4 w4 ⟨rfl,hb4⟩;go_wp2_with fail;refine hK.out _ _ (hSq.trans (hb4.mono hSq.size)) ?_;first | rfl | (simp [Act.put];done)));simp only [Act.put,sA,sB,sC,sD,sE,sF])
  first
    | ((with_reducible show Det _ _ _ _ (Oper.mk _ (Op.binOp .add 9 _ _ _) _ _ _ _::_) _);refine Det.cat (by rfl) rfl Tryz.underlying9 rfl rfl (by first | omega | (simp;done) | (simp;omega) | (simp only [List.length_append,List.length_cons,List.length_nil];omega)) ?_;simp only [Act.put,sA,sB,sC,sD,sE,sF])
  first
    | (refine Det.read (v:=?_) (by rfl) ?_ ?_;rotate_left;(· (intro wq hSq;skip;go_simp;try with_reducible rfl));simp only [Act.put,sA,sB,sC,sD,sE,sF])
  first
    | (refine Det.read (v:=?_) (by rfl) ?_ ?_;rotate_left;(· (intro wq hSq;obtain ⟨q0,q1,q2,q3,q4,q5,q6,q7,q8,q9,q10,q11⟩:=HC.out _ hSq;go_simp;try with_reducible rfl));simp only [Act.put,sA,sB,sC,sD,sE,sF])
  first
    | ((with_reducible show Det _ _ _ _ (Oper.mk _ (Op.call (Call.mk (Callee.value (Operand.func 94)) _ _)) _ _ _ _::_) _);refine Det.step (.string (bs m11)) (by rfl) (fun wq hSq K hK=>?_) ?_;(· (go_simp;refine (K11.out _ hSq).mono ?_;rintro e4 w4 ⟨rfl,hb4⟩;go_wp2_with fail;refine hK.out _ _ (hSq.trans (hb4.mono hSq.size)) ?_;first | rfl | (simp [Act.put];done)));simp only [Act.put,sA,sB,sC,sD,sE,sF])
  first
    | ((with_reducible show Det _ _ _ _ (Oper.mk _ (Op.binOp .add 9 _ _ _) _ _ _ _::_) _);refine Det.cat (by rfl) rfl Tryz.underlying9 rfl rfl (by first | omega | (simp;done) | (simp;omega) | (simp only [List.length_append,List.length_cons,List.length_nil];omega)) ?_;simp only [Act.put,sA,sB,sC,sD,sE,sF])
  first
    | (refine Det.read (v:=?_) (by rfl) ?_ ?_;rotate_left;(· (intro wq hSq;skip;go_simp;try with_reducible rfl));simp only [Act.put,sA,sB,sC,sD,sE,sF])
  refine Det.done fun wz hz=>?_
  go_wp2
  go_ret
  exact ⟨ret_str (by rw [HTr.out];simp only [List.append_assoc]),HB1.out.trans (hz.mono HB1.out.size)⟩
/- Contracts of the closures of state.Text (layer 46;written by genstw.py). -/
theorem rd_lit (w:World) (xs:List Int) (cs:Array Value) (t:TypeId) (h:cs.toList=xs.map (fun n=>Value.int .i64 n)) (b:Nat) (hb:b=w.heap.size):RdL 1 intE (w.alloc (.cells cs t)) (w.alloc (.cells cs t)).heap.size (some ⟨b,0,none⟩) xs:=by
 subst hb
 intro k x hx
 refine ⟨_,_,rfl,by simp,fun j v hj=>?_⟩
 have hj0:j=0:=by
  have:=(List.getElem?_eq_some_iff.1 hj).1
  simp [intE] at this
  exact this
 subst hj0
 have hv:v=.int .i64 x:=by simpa [intE] using hj.symm
 subst hv
 unfold World.cell?
 simp only [heap_alloc_new]
 have:cs.toList[k]?=some (.int .i64 x):=by rw [h,List.getElem?_map,hx];rfl
 simpa using this
theorem tc1_any {B:Nat} (x:D2) (w:World) (hV:Vs B w) (hx:InInt x.a∧InInt x.b) :
  Calls Tryz.prog 88 #[D2.v x] w fun e w'=>e=.returned (.string (bs (encD2 x)))∧Below w.heap.size w w':=by
 have HV:=hid hV
 have HX:=hid hx
 clear hV hx
 go_enter Tryz.func88,Tryz.ntmps88
 go_wp2_with fail
 try go_quiet (fail)
 refine (stNums_any [x.a,x.b] _ 2 _ (HV.out.now (show Below w.heap.size w _ by repeat (first | with_reducible exact Below.refl _ _ | with_reducible assumption | with_reducible refine Below.drew ?_ | with_reducible refine Below.alloc ?_ (by first | omega | (simp;done) | (simp;omega)) _))) (rd_lit _ [x.a,x.b] _ _ rfl _ (by simp)) (fun y hy=>by
  have h:=HX.out
  simp only [List.mem_cons,List.not_mem_nil,or_false] at hy
  rcases hy with rfl | rfl
  ·exact h.1
  ·exact h.2) (by simp)).mono ?_
 rintro e w1 ⟨rfl,hb1⟩
 have hB:Below w.heap.size w w1:=Below.trans (by repeat (first | with_reducible exact Below.refl _ _ | with_reducible assumption | with_reducible refine Below.drew ?_ | with_reducible refine Below.alloc ?_ (by first | omega | (simp;done) | (simp;omega)) _)) (hb1.mono (by simp;try omega))
 have HB:=hid hB
 clear hB hb1
 go_wp2_with fail
 go_ret
 exact ⟨rfl,HB.out⟩
theorem tc3_any {B:Nat} (x:D4) (w:World) (hV:Vs B w) (hx:InInt x.a∧InInt x.b∧InInt x.c∧InInt x.d) :
  Calls Tryz.prog 97 #[D4.v x] w fun e w'=>e=.returned (.string (bs (encD4 x)))∧Below w.heap.size w w':=by
 have HV:=hid hV
 have HX:=hid hx
 clear hV hx
 go_enter Tryz.func97,Tryz.ntmps97
 go_wp2_with fail
 try go_quiet (fail)
 refine (stNums_any [x.a,x.b,x.c,x.d] _ 4 _ (HV.out.now (show Below w.heap.size w _ by repeat (first | with_reducible exact Below.refl _ _ | with_reducible assumption | with_reducible refine Below.drew ?_ | with_reducible refine Below.alloc ?_ (by first | omega | (simp;done) | (simp;omega)) _))) (rd_lit _ [x.a,x.b,x.c,x.d] _ _ rfl _ (by simp)) (fun y hy=>by
  have h:=HX.out
  simp only [List.mem_cons,List.not_mem_nil,or_false] at hy
  rcases hy with rfl | rfl | rfl | rfl
  ·exact h.1
  ·exact h.2.1
  ·exact h.2.2.1
  ·exact h.2.2.2) (by simp)).mono ?_
 rintro e w1 ⟨rfl,hb1⟩
 have hB:Below w.heap.size w w1:=Below.trans (by repeat (first | with_reducible exact Below.refl _ _ | with_reducible assumption | with_reducible refine Below.drew ?_ | with_reducible refine Below.alloc ?_ (by first | omega | (simp;done) | (simp;omega)) _)) (hb1.mono (by simp;try omega))
 have HB:=hid hB
 clear hB hb1
 go_wp2_with fail
 go_ret
 exact ⟨rfl,HB.out⟩
theorem tc4_any {B:Nat} (x:D3) (w:World) (hV:Vs B w) (hx:InInt x.a∧InInt x.b∧InInt x.c) :
  Calls Tryz.prog 99 #[D3.v x] w fun e w'=>e=.returned (.string (bs (encD3 x)))∧Below w.heap.size w w':=by
 have HV:=hid hV
 have HX:=hid hx
 clear hV hx
 go_enter Tryz.func99,Tryz.ntmps99
 go_wp2_with fail
 try go_quiet (fail)
 refine (stNums_any [x.a,x.b,x.c] _ 3 _ (HV.out.now (show Below w.heap.size w _ by repeat (first | with_reducible exact Below.refl _ _ | with_reducible assumption | with_reducible refine Below.drew ?_ | with_reducible refine Below.alloc ?_ (by first | omega | (simp;done) | (simp;omega)) _))) (rd_lit _ [x.a,x.b,x.c] _ _ rfl _ (by simp)) (fun y hy=>by
  have h:=HX.out
  simp only [List.mem_cons,List.not_mem_nil,or_false] at hy
  rcases hy with rfl | rfl | rfl
  ·exact h.1
  ·exact h.2.1
  ·exact h.2.2) (by simp)).mono ?_
 rintro e w1 ⟨rfl,hb1⟩
 have hB:Below w.heap.size w w1:=Below.trans (by repeat (first | with_reducible exact Below.refl _ _ | with_reducible assumption | with_reducible refine Below.drew ?_ | with_reducible refine Below.alloc ?_ (by first | omega | (simp;done) | (simp;omega)) _)) (hb1.mono (by simp;try omega))
 have HB:=hid hB
 clear hB hb1
 go_wp2_with fail
 go_ret
 exact ⟨rfl,HB.out⟩
theorem tc5_any {B:Nat} (x:D4) (w:World) (hV:Vs B w) (hx:InInt x.a∧InInt x.b∧InInt x.c∧InInt x.d) :
  Calls Tryz.prog 102 #[D4.v x] w fun e w'=>e=.returned (.string (bs (encD4 x)))∧Below w.heap.size w w':=by
 have HV:=hid hV
 have HX:=hid hx
 clear hV hx
 go_enter Tryz.func102,Tryz.ntmps102
 go_wp2_with fail
 try go_quiet (fail)
 refine (stNums_any [x.a,x.b,x.c,x.d] _ 4 _ (HV.out.now (show Below w.heap.size w _ by repeat (first | with_reducible exact Below.refl _ _ | with_reducible assumption | with_reducible refine Below.drew ?_ | with_reducible refine Below.alloc ?_ (by first | omega | (simp;done) | (simp;omega)) _))) (rd_lit _ [x.a,x.b,x.c,x.d] _ _ rfl _ (by simp)) (fun y hy=>by
  have h:=HX.out
  simp only [List.mem_cons,List.not_mem_nil,or_false] at hy
  rcases hy with rfl | rfl | rfl | rfl
  ·exact h.1
  ·exact h.2.1
  ·exact h.2.2.1
  ·exact h.2.2.2) (by simp)).mono ?_
 rintro e w1 ⟨rfl,hb1⟩
 have hB:Below w.heap.size w w1:=Below.trans (by repeat (first | with_reducible exact Below.refl _ _ | with_reducible assumption | with_reducible refine Below.drew ?_ | with_reducible refine Below.alloc ?_ (by first | omega | (simp;done) | (simp;omega)) _)) (hb1.mono (by simp;try omega))
 have HB:=hid hB
 clear hB hb1
 go_wp2_with fail
 go_ret
 exact ⟨rfl,HB.out⟩
theorem tc6_any {B:Nat} (x:D3) (w:World) (hV:Vs B w) (hx:InInt x.a∧InInt x.b∧InInt x.c) :
  Calls Tryz.prog 104 #[D3.v x] w fun e w'=>e=.returned (.string (bs (encD3 x)))∧Below w.heap.size w w':=by
 have HV:=hid hV
 have HX:=hid hx
 clear hV hx
 go_enter Tryz.func104,Tryz.ntmps104
 go_wp2_with fail
 try go_quiet (fail)
 refine (stNums_any [x.a,x.b,x.c] _ 3 _ (HV.out.now (show Below w.heap.size w _ by repeat (first | with_reducible exact Below.refl _ _ | with_reducible assumption | with_reducible refine Below.drew ?_ | with_reducible refine Below.alloc ?_ (by first | omega | (simp;done) | (simp;omega)) _))) (rd_lit _ [x.a,x.b,x.c] _ _ rfl _ (by simp)) (fun y hy=>by
  have h:=HX.out
  simp only [List.mem_cons,List.not_mem_nil,or_false] at hy
  rcases hy with rfl | rfl | rfl
  ·exact h.1
  ·exact h.2.1
  ·exact h.2.2) (by simp)).mono ?_
 rintro e w1 ⟨rfl,hb1⟩
 have hB:Below w.heap.size w w1:=Below.trans (by repeat (first | with_reducible exact Below.refl _ _ | with_reducible assumption | with_reducible refine Below.drew ?_ | with_reducible refine Below.alloc ?_ (by first | omega | (simp;done) | (simp;omega)) _)) (hb1.mono (by simp;try omega))
 have HB:=hid hB
 clear hB hb1
 go_wp2_with fail
 go_ret
 exact ⟨rfl,HB.out⟩
theorem tc10_any {B:Nat} (x:D4) (w:World) (hV:Vs B w) (hx:InInt x.a∧InInt x.b∧InInt x.c∧InInt x.d) :
  Calls Tryz.prog 116 #[D4.v x] w fun e w'=>e=.returned (.string (bs (encD4 x)))∧Below w.heap.size w w':=by
 have HV:=hid hV
 have HX:=hid hx
 clear hV hx
 go_enter Tryz.func116,Tryz.ntmps116
 go_wp2_with fail
 try go_quiet (fail)
 refine (stNums_any [x.a,x.b,x.c,x.d] _ 4 _ (HV.out.now (show Below w.heap.size w _ by repeat (first | with_reducible exact Below.refl _ _ | with_reducible assumption | with_reducible refine Below.drew ?_ | with_reducible refine Below.alloc ?_ (by first | omega | (simp;done) | (simp;omega)) _))) (rd_lit _ [x.a,x.b,x.c,x.d] _ _ rfl _ (by simp)) (fun y hy=>by
  have h:=HX.out
  simp only [List.mem_cons,List.not_mem_nil,or_false] at hy
  rcases hy with rfl | rfl | rfl | rfl
  ·exact h.1
  ·exact h.2.1
  ·exact h.2.2.1
  ·exact h.2.2.2) (by simp)).mono ?_
 rintro e w1 ⟨rfl,hb1⟩
 have hB:Below w.heap.size w w1:=Below.trans (by repeat (first | with_reducible exact Below.refl _ _ | with_reducible assumption | with_reducible refine Below.drew ?_ | with_reducible refine Below.alloc ?_ (by first | omega | (simp;done) | (simp;omega)) _)) (hb1.mono (by simp;try omega))
 have HB:=hid hB
 clear hB hb1
 go_wp2_with fail
 go_ret
 exact ⟨rfl,HB.out⟩
theorem tc11_any {B:Nat} (x:D3) (w:World) (hV:Vs B w) (hx:InInt x.a∧InInt x.b∧InInt x.c) :
  Calls Tryz.prog 118 #[D3.v x] w fun e w'=>e=.returned (.string (bs (encD3 x)))∧Below w.heap.size w w':=by
 have HV:=hid hV
 have HX:=hid hx
 clear hV hx
 go_enter Tryz.func118,Tryz.ntmps118
 go_wp2_with fail
 try go_quiet (fail)
 refine (stNums_any [x.a,x.b,x.c] _ 3 _ (HV.out.now (show Below w.heap.size w _ by repeat (first | with_reducible exact Below.refl _ _ | with_reducible assumption | with_reducible refine Below.drew ?_ | with_reducible refine Below.alloc ?_ (by first | omega | (simp;done) | (simp;omega)) _))) (rd_lit _ [x.a,x.b,x.c] _ _ rfl _ (by simp)) (fun y hy=>by
  have h:=HX.out
  simp only [List.mem_cons,List.not_mem_nil,or_false] at hy
  rcases hy with rfl | rfl | rfl
  ·exact h.1
  ·exact h.2.1
  ·exact h.2.2) (by simp)).mono ?_
 rintro e w1 ⟨rfl,hb1⟩
 have hB:Below w.heap.size w w1:=Below.trans (by repeat (first | with_reducible exact Below.refl _ _ | with_reducible assumption | with_reducible refine Below.drew ?_ | with_reducible refine Below.alloc ?_ (by first | omega | (simp;done) | (simp;omega)) _)) (hb1.mono (by simp;try omega))
 have HB:=hid hB
 clear hB hb1
 go_wp2_with fail
 go_ret
 exact ⟨rfl,HB.out⟩
abbrev E5.arr (x:E5):Array Value:=#[.int .i64 x.a,.int .i64 x.b,.int .i64 x.c,.int .i64 x.d,.bool x.t]
abbrev E3.arr (x:E3):Array Value:=#[.int .i64 x.a,.int .i64 x.b,.bool x.t]
abbrev D4.arr (x:D4):Array Value:=#[.int .i64 x.a,.int .i64 x.b,.int .i64 x.c,.int .i64 x.d]
theorem E5.cells {w:World} {b:Nat} {t:TypeId} {x:E5} (h:w.heap[b]?=some (.cells x.arr t (0,0))):w.cell? ⟨b,0,none⟩=some (.int .i64 x.a)∧w.cell? ⟨b,1,none⟩=some (.int .i64 x.b)∧w.cell? ⟨b,2,none⟩=some (.int .i64 x.c)∧w.cell? ⟨b,3,none⟩=some (.int .i64 x.d)∧w.cell? ⟨b,4,none⟩=some (.bool x.t) :=
 ⟨box_cell h 0 _ rfl,box_cell h 1 _ rfl,box_cell h 2 _ rfl,box_cell h 3 _ rfl,box_cell h 4 _ rfl⟩
theorem E3.cells {w:World} {b:Nat} {t:TypeId} {x:E3} (h:w.heap[b]?=some (.cells x.arr t (0,0))):w.cell? ⟨b,0,none⟩=some (.int .i64 x.a)∧w.cell? ⟨b,1,none⟩=some (.int .i64 x.b)∧w.cell? ⟨b,2,none⟩=some (.bool x.t) :=
 ⟨box_cell h 0 _ rfl,box_cell h 1 _ rfl,box_cell h 2 _ rfl⟩
theorem D4.cells {w:World} {b:Nat} {t:TypeId} {x:D4} (h:w.heap[b]?=some (.cells x.arr t (0,0))):w.cell? ⟨b,0,none⟩=some (.int .i64 x.a)∧w.cell? ⟨b,1,none⟩=some (.int .i64 x.b)∧w.cell? ⟨b,2,none⟩=some (.int .i64 x.c)∧w.cell? ⟨b,3,none⟩=some (.int .i64 x.d) :=
 ⟨box_cell h 0 _ rfl,box_cell h 1 _ rfl,box_cell h 2 _ rfl,box_cell h 3 _ rfl⟩
theorem stNoteC_any {B:Nat} (x:E5) (w:World) (hV:Vs B w) (hx:InInt x.a∧InInt x.b∧InInt x.c∧InInt x.d) :
  Calls Tryz.prog 108 #[E5.v x] w fun e w'=>e=.returned (.string (bs (encE5 x)))∧Below w.heap.size w w':=by
 have HX:=hid hx
 clear hx
 go_enter Tryz.func108,Tryz.ntmps108
 go_upto_region 1 with fail
 have hb0:Below w.heap.size w (w.alloc (.cells x.arr 59)):=by repeat (first | with_reducible exact Below.refl _ _ | with_reducible assumption | with_reducible refine Below.drew ?_ | with_reducible refine Below.alloc ?_ (by first | omega | (simp;done) | (simp;omega)) _)
 have hx0:(w.alloc (.cells x.arr 59)).heap[w.heap.size]?=some (.cells x.arr 59 (0,0)):=(MapKept.heap_alloc w _).1
 have HB0:=hid hb0
 have HX0:=hid hx0
 have HV:=hid (hV.now hb0)
 clear hb0 hx0 hV
 change Code.wp _ _ _ _ (w.alloc (.cells x.arr 59))
 generalize w.alloc (.cells x.arr 59)=wb at *
 obtain ⟨bx,hbx⟩:∃ bx,bx=w.heap.size:=⟨_,rfl⟩
 rw [← hbx] at HX0 ⊢
 clear hbx
 have HC:=hid (fun wq (h:Below wb.heap.size wb wq)=>E5.cells ((h.block _ (box_lt HX0.out)).trans HX0.out))
 refine wp_region_below [(10,fun _=>.int .i64 (bitI x.t),fun _ _=>True),(11,fun g=>.slice (some ⟨g.2,0,none⟩) 5 5,fun g w'=>RdL 1 intE w' w'.heap.size (some ⟨g.2,0,none⟩) [x.a,x.b,x.c,x.d,bitI x.t]),(12,fun _=>.string (bs (encE5 x)),fun _ _=>True)] (by kernel_rfl) (by kernel_rfl) (by repeat (first | exact trivial | refine ⟨fun g wa wb hs hs' ht h=>by first | exact trivial | exact h.now ht | exact h.below ht | exact ht.cell h | exact h,?_⟩)) ?_
 rw [List.toList_toArray]
 repeat (first
  | (refine DetE.skip (by rfl) ?_;simp only [Act.put,sA,sB,sC])
  | (refine DetE.read (v:=?_) (by rfl) (by rfl) ?_ ?_;rotate_left;(· (intro wq hSq hkq;obtain ⟨q0,q1,q2,q3,q4⟩:=HC.out _ hSq;go_simp;try with_reducible rfl));simp only [Act.put,sA,sB,sC])
  | fail)
 refine DetE.eff _ _ (by rfl) (by rfl) (fun wq hSq hkq K hK=>?_) (fun g2=>?_)
 ·go_simp
  refine ((stBit_any x.t wq)).mono ?_
  rintro e4 w4 ⟨rfl,rfl⟩
  go_wp2_with fail
  exact hK.out ((none,0)) _ hSq (Below.refl _ _) (trivial) _ rfl
 simp only [Act.put,sA,sB,sC]
 refine DetE.eff _ _ (by rfl) (by rfl) (fun wq hSq hkq K hK=>?_) (fun g9=>?_)
 ·go_simp
  have hb4:=fun o=>(Below.refl wq.heap.size wq).alloc (Nat.le_refl _) o
  exact hK.out ((none,wq.heap.size)) _ (hSq.trans ((hb4 _).mono hSq.size)) (hb4 _) (rd_lit wq [x.a,x.b,x.c,x.d,bitI x.t] _ _ rfl _ rfl) _ rfl
 simp only [Act.put,sA,sB,sC]
 have hall:∀ y∈[x.a,x.b,x.c,x.d,bitI x.t],InInt y:=fun y hy=>by
  have h:=HX.out
  simp only [List.mem_cons,List.not_mem_nil,or_false] at hy
  rcases hy with rfl | rfl | rfl | rfl | rfl
  ·exact h.1
  ·exact h.2.1
  ·exact h.2.2.1
  ·exact h.2.2.2
  ·cases x.t <;> exact ⟨by decide,by decide⟩
 have HAll:=hid hall
 clear hall
 refine DetE.eff _ _ (by rfl) (by rfl) (fun wq hSq hkq K hK=>?_) (fun g10=>?_)
 ·go_simp
  refine (stNums_any [x.a,x.b,x.c,x.d,bitI x.t] (some ⟨g9.2,0,none⟩) 5 wq (HV.out.now hSq) (hkq 11 _ rfl (by kernel_rfl)) HAll.out (by simp)).mono ?_
  rintro e4 w4 ⟨rfl,hb4⟩
  go_wp2_with fail
  exact hK.out ((none,0)) _ (hSq.trans (hb4.mono hSq.size)) hb4 (trivial) _ rfl
 simp only [Act.put,sA,sB,sC]
 repeat (first
  | (refine DetE.skip (by rfl) ?_;simp only [Act.put,sA,sB,sC])
  | (refine DetE.read (v:=?_) (by rfl) (by rfl) ?_ ?_;rotate_left;(· (intro wq hSq hkq;skip;go_simp;try with_reducible rfl));simp only [Act.put,sA,sB,sC])
  | fail)
 refine DetE.done fun wz hz hkz=>?_
 go_wp2
 go_ret
 exact ⟨rfl,HB0.out.trans (hz.mono HB0.out.size)⟩
theorem tc8_any {B:Nat} (x:E3) (w:World) (hV:Vs B w) (hx:InInt x.a∧InInt x.b) :
  Calls Tryz.prog 110 #[E3.v x] w fun e w'=>e=.returned (.string (bs (encE3 x)))∧Below w.heap.size w w':=by
 have HX:=hid hx
 clear hx
 go_enter Tryz.func110,Tryz.ntmps110
 go_upto_region 1 with fail
 have hb0:Below w.heap.size w (w.alloc (.cells x.arr 99)):=by repeat (first | with_reducible exact Below.refl _ _ | with_reducible assumption | with_reducible refine Below.drew ?_ | with_reducible refine Below.alloc ?_ (by first | omega | (simp;done) | (simp;omega)) _)
 have hx0:(w.alloc (.cells x.arr 99)).heap[w.heap.size]?=some (.cells x.arr 99 (0,0)):=(MapKept.heap_alloc w _).1
 have HB0:=hid hb0
 have HX0:=hid hx0
 have HV:=hid (hV.now hb0)
 clear hb0 hx0 hV
 change Code.wp _ _ _ _ (w.alloc (.cells x.arr 99))
 generalize w.alloc (.cells x.arr 99)=wb at *
 obtain ⟨bx,hbx⟩:∃ bx,bx=w.heap.size:=⟨_,rfl⟩
 rw [← hbx] at HX0 ⊢
 clear hbx
 have HC:=hid (fun wq (h:Below wb.heap.size wb wq)=>E3.cells ((h.block _ (box_lt HX0.out)).trans HX0.out))
 refine wp_region_below [(6,fun _=>.int .i64 (bitI x.t),fun _ _=>True),(7,fun g=>.slice (some ⟨g.2,0,none⟩) 3 3,fun g w'=>RdL 1 intE w' w'.heap.size (some ⟨g.2,0,none⟩) [x.a,x.b,bitI x.t]),(8,fun _=>.string (bs (encE3 x)),fun _ _=>True)] (by kernel_rfl) (by kernel_rfl) (by repeat (first | exact trivial | refine ⟨fun g wa wb hs hs' ht h=>by first | exact trivial | exact h.now ht | exact h.below ht | exact ht.cell h | exact h,?_⟩)) ?_
 rw [List.toList_toArray]
 repeat (first
  | (refine DetE.skip (by rfl) ?_;simp only [Act.put,sA,sB,sC])
  | (refine DetE.read (v:=?_) (by rfl) (by rfl) ?_ ?_;rotate_left;(· (intro wq hSq hkq;obtain ⟨q0,q1,q2⟩:=HC.out _ hSq;go_simp;try with_reducible rfl));simp only [Act.put,sA,sB,sC])
  | fail)
 refine DetE.eff _ _ (by rfl) (by rfl) (fun wq hSq hkq K hK=>?_) (fun g2=>?_)
 ·go_simp
  refine ((stBit_any x.t wq)).mono ?_
  rintro e4 w4 ⟨rfl,rfl⟩
  go_wp2_with fail
  exact hK.out ((none,0)) _ hSq (Below.refl _ _) (trivial) _ rfl
 simp only [Act.put,sA,sB,sC]
 refine DetE.eff _ _ (by rfl) (by rfl) (fun wq hSq hkq K hK=>?_) (fun g9=>?_)
 ·go_simp
  have hb4:=fun o=>(Below.refl wq.heap.size wq).alloc (Nat.le_refl _) o
  exact hK.out ((none,wq.heap.size)) _ (hSq.trans ((hb4 _).mono hSq.size)) (hb4 _) (rd_lit wq [x.a,x.b,bitI x.t] _ _ rfl _ rfl) _ rfl
 simp only [Act.put,sA,sB,sC]
 have hall:∀ y∈[x.a,x.b,bitI x.t],InInt y:=fun y hy=>by
  have h:=HX.out
  simp only [List.mem_cons,List.not_mem_nil,or_false] at hy
  rcases hy with rfl | rfl | rfl
  ·exact h.1
  ·exact h.2
  ·cases x.t <;> exact ⟨by decide,by decide⟩
 have HAll:=hid hall
 clear hall
 refine DetE.eff _ _ (by rfl) (by rfl) (fun wq hSq hkq K hK=>?_) (fun g10=>?_)
 ·go_simp
  refine (stNums_any [x.a,x.b,bitI x.t] (some ⟨g9.2,0,none⟩) 3 wq (HV.out.now hSq) (hkq 7 _ rfl (by kernel_rfl)) HAll.out (by simp)).mono ?_
  rintro e4 w4 ⟨rfl,hb4⟩
  go_wp2_with fail
  exact hK.out ((none,0)) _ (hSq.trans (hb4.mono hSq.size)) hb4 (trivial) _ rfl
 simp only [Act.put,sA,sB,sC]
 repeat (first
  | (refine DetE.skip (by rfl) ?_;simp only [Act.put,sA,sB,sC])
  | (refine DetE.read (v:=?_) (by rfl) (by rfl) ?_ ?_;rotate_left;(· (intro wq hSq hkq;skip;go_simp;try with_reducible rfl));simp only [Act.put,sA,sB,sC])
  | fail)
 refine DetE.done fun wz hz hkz=>?_
 go_wp2
 go_ret
 exact ⟨rfl,HB0.out.trans (hz.mono HB0.out.size)⟩
theorem tc9_any {B:Nat} (x:D4) (w:World) (hV:Vs B w) (hx:InInt x.a∧InInt x.b∧InInt x.c∧InInt x.d) :
  Calls Tryz.prog 113 #[D4.v x] w fun e w'=>e=.returned (.string (bs (encH x)))∧Below w.heap.size w w':=by
 have HX:=hid hx
 clear hx
 go_enter Tryz.func113,Tryz.ntmps113
 go_upto_region 1 with fail
 have hb0:Below w.heap.size w (w.alloc (.cells x.arr 103)):=by repeat (first | with_reducible exact Below.refl _ _ | with_reducible assumption | with_reducible refine Below.drew ?_ | with_reducible refine Below.alloc ?_ (by first | omega | (simp;done) | (simp;omega)) _)
 have hx0:(w.alloc (.cells x.arr 103)).heap[w.heap.size]?=some (.cells x.arr 103 (0,0)):=(MapKept.heap_alloc w _).1
 have HB0:=hid hb0
 have HX0:=hid hx0
 have HV:=hid (hV.now hb0)
 clear hb0 hx0 hV
 change Code.wp _ _ _ _ (w.alloc (.cells x.arr 103))
 generalize w.alloc (.cells x.arr 103)=wb at *
 obtain ⟨bx,hbx⟩:∃ bx,bx=w.heap.size:=⟨_,rfl⟩
 rw [← hbx] at HX0 ⊢
 clear hbx
 have HC:=hid (fun wq (h:Below wb.heap.size wb wq)=>D4.cells ((h.block _ (box_lt HX0.out)).trans HX0.out))
 have hall:∀ y∈[x.a,x.b,x.c],InInt y:=fun y hy=>by
  have h:=HX.out
  simp only [List.mem_cons,List.not_mem_nil,or_false] at hy
  rcases hy with rfl | rfl | rfl
  ·exact h.1
  ·exact h.2.1
  ·exact h.2.2.1
 have hl1:=numsL_len _ hall
 have hl2:=encI_len x.d HX.out.2.2.2
 have HAll:=hid hall
 have HE:Hid (encH x=numsL [x.a,x.b,x.c]++encI x.d):=hid rfl
 clear hall
 simp only [List.length_cons,List.length_nil] at hl1
 refine wp_region_below [(6,fun g=>.slice (some ⟨g.2,0,none⟩) 3 3,fun g w'=>RdL 1 intE w' w'.heap.size (some ⟨g.2,0,none⟩) [x.a,x.b,x.c]),(7,fun _=>.string (bs (numsL [x.a,x.b,x.c])),fun _ _=>True),(10,fun _=>.string (bs (encI x.d)),fun _ _=>True)] (by kernel_rfl) (by kernel_rfl) (by repeat (first | exact trivial | refine ⟨fun g wa wb hs hs' ht h=>by first | exact trivial | exact h.now ht | exact h.below ht | exact ht.cell h | exact h,?_⟩)) ?_
 rw [List.toList_toArray]
 repeat (first
  | (refine DetE.cat (by rfl) (by rfl) rfl Tryz.underlying9 rfl rfl (by first | omega | (simp;done) | (simp;omega) | (simp only [List.length_append,List.length_cons,List.length_nil];omega)) ?_;simp only [Act.put,sA,sB,sC])
  | (refine DetE.read (v:=?_) (by rfl) (by rfl) ?_ ?_;rotate_left;(· (intro wq hSq hkq;obtain ⟨q0,q1,q2,q3⟩:=HC.out _ hSq;go_simp;try with_reducible rfl));simp only [Act.put,sA,sB,sC])
  | fail)
 refine DetE.eff _ _ (by rfl) (by rfl) (fun wq hSq hkq K hK=>?_) (fun g9=>?_)
 ·go_simp
  have hb4:=fun o=>(Below.refl wq.heap.size wq).alloc (Nat.le_refl _) o
  exact hK.out ((none,wq.heap.size)) _ (hSq.trans ((hb4 _).mono hSq.size)) (hb4 _) (rd_lit wq [x.a,x.b,x.c] _ _ rfl _ rfl) _ rfl
 simp only [Act.put,sA,sB,sC]
 refine DetE.eff _ _ (by rfl) (by rfl) (fun wq hSq hkq K hK=>?_) (fun g10=>?_)
 ·go_simp
  refine (stNums_any [x.a,x.b,x.c] (some ⟨g9.2,0,none⟩) 3 wq (HV.out.now hSq) (hkq 6 _ rfl (by kernel_rfl)) HAll.out (by simp)).mono ?_
  rintro e4 w4 ⟨rfl,hb4⟩
  go_wp2_with fail
  exact hK.out ((none,0)) _ (hSq.trans (hb4.mono hSq.size)) hb4 (trivial) _ rfl
 simp only [Act.put,sA,sB,sC]
 repeat (first
  | (refine DetE.cat (by rfl) (by rfl) rfl Tryz.underlying9 rfl rfl (by first | omega | (simp;done) | (simp;omega) | (simp only [List.length_append,List.length_cons,List.length_nil];omega)) ?_;simp only [Act.put,sA,sB,sC])
  | (refine DetE.read (v:=?_) (by rfl) (by rfl) ?_ ?_;rotate_left;(· (intro wq hSq hkq;obtain ⟨q0,q1,q2,q3⟩:=HC.out _ hSq;go_simp;try with_reducible rfl));simp only [Act.put,sA,sB,sC])
  | fail)
 refine DetE.eff _ _ (by rfl) (by rfl) (fun wq hSq hkq K hK=>?_) (fun g11=>?_)
 ·go_simp
  refine (wInt_any x.d wq (HV.out.now hSq) HX.out.2.2.2).mono ?_
  rintro e4 w4 ⟨rfl,hb4⟩
  go_wp2_with fail
  exact hK.out ((none,0)) _ (hSq.trans (hb4.mono hSq.size)) hb4 (trivial) _ rfl
 simp only [Act.put,sA,sB,sC]
 repeat (first
  | (refine DetE.cat (by rfl) (by rfl) rfl Tryz.underlying9 rfl rfl (by first | omega | (simp;done) | (simp;omega) | (simp only [List.length_append,List.length_cons,List.length_nil];omega)) ?_;simp only [Act.put,sA,sB,sC])
  | (refine DetE.read (v:=?_) (by rfl) (by rfl) ?_ ?_;rotate_left;(· (intro wq hSq hkq;skip;go_simp;try with_reducible rfl));simp only [Act.put,sA,sB,sC])
  | fail)
 refine DetE.done fun wz hz hkz=>?_
 go_wp2
 go_ret
 exact ⟨ret_str (by rw [HE.out]),HB0.out.trans (hz.mono HB0.out.size)⟩
theorem tc2_any {B:Nat} (x:EvL) (w:World) (hV:Vs B w) (hx:EvLOk w w.heap.size x) :
  Calls Tryz.prog 93 #[x.v] w fun e w'=>e=.returned (.string (bs (encEv x.ev)))∧Below w.heap.size w w':=by
 have hb0:Below w.heap.size w (w.alloc (.cells (x.ev.cs x.cA x.cc x.fA x.fc) 56)):=by repeat (first | with_reducible exact Below.refl _ _ | with_reducible assumption | with_reducible refine Below.drew ?_ | with_reducible refine Below.alloc ?_ (by first | omega | (simp;done) | (simp;omega)) _)
 have hx0:(w.alloc (.cells (x.ev.cs x.cA x.cc x.fA x.fc) 56)).rangeAt w.heap.size 0 (x.ev.cs x.cA x.cc x.fA x.fc).toList:=range_block (MapKept.heap_alloc w _).1 rfl
 have HB0:=hid hb0
 have HX0:=hid hx0
 have HV:=hid (hV.now hb0)
 have HO:=hid (hx.now hb0)
 clear hb0 hx0 hV hx
 go_enter Tryz.func93,Tryz.ntmps93
 go_upto_region 1 with fail
 generalize w.alloc (.cells (x.ev.cs x.cA x.cc x.fA x.fc) 56)=wb at *
 go_wp2_with (first
  | ((with_reducible show wpList _ _ _ (Oper.mk _ (Op.load 56 _) _ _ _ _::_) _ _);refine wpList_load_g rfl 56 (.tmp 1) rfl w.heap.size 0 rfl (x.ev.cs x.cA x.cc x.fA x.fc).toList _ HX0.out Tryz.underlying56 rfl (by kernel_rfl) ?_)
  | fail)
 refine (evText_any x wb HV.out HO.out).mono ?_
 rintro e w1 ⟨rfl,hb1⟩
 have HV1:=hid (HV.out.now hb1)
 have HB1:=hid (HB0.out.trans (hb1.mono HB0.out.size))
 have hl:=textE_len x.ev
 have HE:Hid (encEv x.ev=encT (textE x.ev)):=hid rfl
 clear hb1
 generalize textE x.ev=tx at *
 go_wp2_with fail
 refine (wText_any tx w1 HV1.out (by omega)).mono ?_
 rintro e w2 ⟨rfl,hb2⟩
 have HB2:=hid (HB1.out.trans (hb2.mono HB1.out.size))
 clear hb2
 go_wp2_with fail
 go_ret
 exact ⟨ret_str HE.out.symm,HB2.out⟩
def E5.wf4 (x:E5):Prop:=InInt x.a∧InInt x.b∧InInt x.c∧InInt x.d
theorem encE5_len (x:E5) (h:E5.wf4 x):(encE5 x).length≤110:=by
 have:=numsL_len [x.a,x.b,x.c,x.d,bitI x.t] (fun y hy=>by
  simp only [List.mem_cons,List.not_mem_nil,or_false] at hy
  rcases hy with rfl | rfl | rfl | rfl | rfl
  ·exact h.1
  ·exact h.2.1
  ·exact h.2.2.1
  ·exact h.2.2.2
  ·cases x.t <;> exact ⟨by decide,by decide⟩)
 simpa [encE5] using this
theorem tc7_any {B:Nat} (x:NL) (w:World) (hV:Vs B w) (hr:RdL 5 E5.cs w w.heap.size x.A x.l) (hx:∀ y∈x.l,E5.wf4 y) (hl:x.l.length≤1000) :
  Calls Tryz.prog 106 #[x.v] w fun e w'=>e=.returned (.string (bs (lstE encE5 x.l)))∧Below w.heap.size w w':=by
 have HV:=hid hV
 have HC:=hid (liNote_any x.l encE5 ⟨108,#[],#[]⟩ x.A x.c w hV hr (by omega) (by have:=flat_bound encE5 110 x.l (fun y hy=>encE5_len y (hx y hy));omega)
  ⟨fun args w'=>enter_fn Tryz.func108 (by kernel_rfl) rfl args w',fun y hy w2 h2=>stNoteC_any y w2 (hV.now h2) (hx y hy)⟩)
 clear hV hr hx hl
 go_enter Tryz.func106,Tryz.ntmps106
 go_wp2_with fail
 refine HC.out.mono ?_
 rintro e w1 ⟨rfl,hb1⟩
 go_wp2_with fail
 go_ret
 exact ⟨rfl,hb1⟩
end Go.Proofs.YthlpehhlhebhbaaGreatDoor
