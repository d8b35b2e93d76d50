import Derived.Test.YtkcnhmohphapfaaGreatDoorS
import Derived.Test.YtkcnhmohphapfaaGreatDoorVmW
import Derived.Test.YtkcnhmohphapfaaGreatDoorChecked
import Derived.KernelRfl
import Derived.Test.YtkcnhmohphapfaaGreatDoorShelf
import Derived.Test.YtkcnhmohphapfaaGreatDoorVmB
import Derived.Test.YtkcnhmohphapfaaGreatDoorB
import Derived.Test.YtkcnhmohphapfaaGreatDoorG
namespace Go.Proofs.YtkcnhmohphapfaaGreatDoor
open Go.Vm
set_option autoImplicit false
set_option linter.unusedVariables false
set_option linter.unusedSimpArgs false
set_option maxRecDepth 100000
noncomputable section
abbrev TP {τ : Type} (o : Option τ) := TE Tryz.prog o
abbrev CP {ρ : Type} (fn : FuncId) (ds : List PV) (enc : ρ → PV) (fl : Bool) (o : Option ρ) := Ct Tryz.prog fn ds enc fl o
abbrev gA1 (x_ : aa2) : PV := .agg [.str x_.Owner,.str x_.Seed,.usl none (List.map aa1 x_.Keys),.int .i64 x_.Next,.usl (some 10) (List.map zE2 x_.Convs),.int .i64 x_.Count]
abbrev gA2 : PV := .agg [.str [],.str [],.usl none [],.int .i64 0,.usl (some 10) [],.int .i64 0]
abbrev gA3 (x_ : aa2) : PV := .agg [.str x_.Owner,.str x_.Seed,.usl none (List.take (List.map aa1 x_.Keys).length (List.map aa1 x_.Keys)),.int .i64 x_.Next,.usl (some 10) (List.take (List.map zE2 x_.Convs).length (List.map zE2 x_.Convs)),.int .i64 x_.Count]
theorem c4 : CP 4 [] (fun r => .bool r) true (ai6) := fun r h =>
 by cases h; exact bI6
theorem c16 {owner seed} : CP 16 [.str owner,.str seed] (fun r => .tup [(gA1 r.1),.int .i64 r.2]) false (aU2 owner seed) :=
 okE (tP1 1003 12 [0,1,4,12] (.node 1003 8 (decide (owner = [])) (.leaf true) (.leaf (decide (32 < (List.length owner : Int))))) (tJ tR (tJ tR tR))) Tryz.func16 (fun _ h => nomatch h)
def t55 {name} : TP (am1 name) :=
 tQ1 1004 2 [2] (tT 1004 6 (tSa 1005 fun c2 _ => tR) tR) fun t3 => tR
theorem c55 {name} : CP 55 [.str name] (fun r => .bool r) true (am1 name) :=
 okE t55 Tryz.func55 (fun _ _ => rfl)
def bR3 {p2 i} : TP (ak9 p2 i) :=
 tJ (tSa 6002 fun c14 _ => tQ1 6005 4 [0,3,4] (tT 6005 19 (tSa 6007 fun c16 _ => tR) tR) fun t17 => tQ1 7003 55 [0,3,55] (tT 7003 27 (tT 7006 30 tR (tSa 7008 fun c20 _ => tT 7011 35 (tSa 7013 fun c22 _ => tT 7017 41 tR (tSa 7019 fun c24 _ => tT 7023 47 tR (tSa 7025 fun c26 _ => tR))) (tSa 7019 fun c27 _ => tT 7023 47 tR (tSa 7025 fun c29 _ => tR)))) tR) fun t30 => tJ tR (tK 1 [0,3] tR)) (tE (tP1 9004 2 [2] (.node 9004 59 (decide (1 ≤ (List.length p2 : Int))) (.leaf (decide ((List.length p2 : Int) ≤ 32))) (.leaf false)) tR))
def bN3 {p2} : TP (an1 p2) :=
 tK 1 [0,3] (tL (fun st_ (s : Int) => am4 [(3,pI s)] [] st_) fun _ => bR3)
theorem c183 {s_} : CP 183 [.str s_] (fun r => .bool r) true (aw3 s_) :=
 okE (tC 1001 c55 fun x34 => tK 3 [0,6] (tJ (tCu 2001 fun x36 _ => tK 4 [0] bN3) (tK 0 [0] bN3))) Tryz.func183 (fun _ _ => rfl)
def bR4 {s_ i} : TP (aj5 s_ i) :=
 tJ (tSa 4002 fun c12 _ => tQ1 4005 25 [0,3,25] (tT 4005 14 tR (tSa 4007 fun c14 _ => tT 4011 20 tR (tSa 4013 fun c16 _ => tR))) fun t17 => tJ tR (tK 1 [0,3] tR)) tR
theorem c184 {s_} : CP 184 [.str s_] (fun r => .bool r) true (at1 s_) :=
 okE (tK 1 [0,3] (tL (fun st_ (s : Int) => am4 [(3,pI s)] [] st_) fun _ => bR4)) Tryz.func184 (fun _ _ => rfl)
def bR5 {before a i} : TP (ak2 before a i) :=
 tN 10002 zE1 before (tJ (tA 12002 zE1 fun x17 _ => tJ tR (tK 1 [0,3,5] tR)) tR)
theorem c120 {before a} : CP 120 [.sl (some 3) (List.map zE1 before),zE1 a] (fun r => .int .i64 r) true (aI2 before a) :=
 okE (tN 1001 zE1 before (tJ tR (tC 3002 c183 fun x2 => tJ tR (tQ1 5003 15 [0,3,15] (tT 5003 18 (tT 5008 23 tR (tC 5010 c184 fun x6 => tR)) (tC 5010 c184 fun x7 => tR)) fun t8 => tJ tR (tJ tR (tK 1 [0,3,5] (tL (fun st_ (s : Int) => am4 [(5,pI s)] [] st_) fun _ => bR5))))))) Tryz.func120 (fun _ _ => rfl)
def t53L7 {l i} : TP (al0 l i) :=
 tN 2002 zE1 l (tJ (tB 4002 (fun x9 => .cutP (List.map zE1 x9)) (fun x9 hx9 => (kc (show cut (List.map zE1 l) 0 i = some (List.map zE1 x9) from (bw6 hx9)) .nil)) fun x9 _ => tA 4005 zE1 fun x10 _ => tC 4007 c120 fun x11 => tJ tR (tK 1 [0,3] tR)) tR)
theorem c53 {l} : CP 53 [.sl (some 3) (List.map zE1 l)] (fun r => .int .i64 r) true (at2 l) :=
 okE (tK 1 [0,3] (tL (fun st_ (s : Int) => am4 [(3,pI s)] [] st_) fun _ => t53L7)) Tryz.func53 (fun _ _ => rfl)
def bV0 {l name i} : TP (ak3 l name i) :=
 tN 2002 zE1 l (tJ (tA 4002 zE1 fun x11 _ => tQ1 4008 27 [0,1,6,27] (tT 4008 20 (tA 4010 zE1 fun x13 _ => tR) tR) fun t14 => tJ (tA 5002 zE1 fun x16 _ => tR) (tK 1 [0,1,6] tR)) tR)
theorem c121 {l name} : CP 121 [.sl (some 3) (List.map zE1 l),.str name] (fun r => .tup [.str r.1,.bool r.2]) true (ar8 l name) :=
 okE (tK 1 [0,1,6] (tL (fun st_ (s : Int) => am4 [(6,pI s)] [] st_) fun _ => bV0)) Tryz.func121 (fun _ _ => rfl)
theorem c54 {l name} : CP 54 [.sl (some 3) (List.map zE1 l),.str name] (fun r => .str r) true (aD2 l name) :=
 okE (tC 1002 c121 fun x1 => tR) Tryz.func54 (fun _ _ => rfl)
def bV1 {l} : TP (an2 l) :=
 tC 8001 c54 fun x11 => tC 8003 c54 fun x12 => tP1 9004 2 [2] (.node 9004 27 (decide (1 ≤ (List.length x11 : Int))) (.node 9009 32 (decide ((List.length x11 : Int) ≤ 32)) (.node 9014 37 (decide (1 ≤ (List.length x12 : Int))) (.leaf (decide ((List.length x12 : Int) ≤ 64))) (.leaf false)) (.leaf false)) (.leaf false)) tR
def t17L7 {l i} : TP (ap4 l i) :=
 tN 4002 zE1 l (tJ (tA 6002 zE1 fun x9 _ => tJ tR (tK 1 [0,3] tR)) (tD bV1))
def t17 {l} : TP (at3 l) :=
 tC 1001 c53 fun x1 => tJ tR (tK 1 [0,3] (tL (fun st_ (s : Int) => am4 [(3,pI s)] [] st_) fun _ => t17L7))
theorem c17 {l} : CP 17 [.sl (some 3) (List.map zE1 l)] (fun r => .bool r) true (at3 l) :=
 okE t17 Tryz.func17 (fun _ _ => rfl)
def t19L9 {l i out} : TP (aj6 l i out) :=
 tN 3002 zE1 l (tJ (tA 5002 zE1 fun x11 _ => tC 5005 c55 fun x12 => tJ (tA 6003 zE1 fun x14 _ => tA1 6006 zE1 fun x15 => tK 1 [0,3,4] tR) (tK 1 [0,3,4] tR)) (tE (tF (.usl (some 3) (List.take (List.map zE1 out).length (List.map zE1 out))) (kc (le1 (List.map zE1 out)) .nil) .tk)))
theorem c19 {l} : CP 19 [.sl (some 3) (List.map zE1 l)] (fun r => .usl (some 3) (List.map zE1 r)) true (aq0 l) :=
 okE (tK 3 [0,3] (tW ({ tm := [(0,.pv (.sl (some 3) (List.map zE1 l))),(3,.pv (.nilsl))],hp := [],nx := 0 }) ({ tm := [(0,.pv (.sl (some 3) (List.map zE1 l))),(3,.osl 0 0 (List.map zE1 ([] : List aa0)).length)],hp := [(0,some (.p (some 3) (List.map zE1 ([] : List aa0))))],nx := 1 }) ((Sub.keep (ks := [0,3]) (st := bm3 3 (some 3) ({ tm := [(0,.pv (.sl (some 3) (List.map zE1 l))),(3,.pv (.nilsl))],hp := [],nx := 0 })) (st' := { tm := [(0,.pv (.sl (some 3) (List.map zE1 l))),(3,.osl 0 0 (List.map zE1 ([] : List aa0)).length)],hp := [(0,some (.p (some 3) (List.map zE1 ([] : List aa0))))],nx := 1 }) (by kernel_rfl)).trans (aR1 3 (some 3) ({ tm := [(0,.pv (.sl (some 3) (List.map zE1 l))),(3,.pv (.nilsl))],hp := [],nx := 0 }))) (tK 1 [0,3,4] (tL (fun st_ (s : (Int × (List aa0))) => am4 [(3,oL 0 zE1 s.2),(4,pI s.1)] [(0,rL (some 3) zE1 s.2)] st_) fun _ => t19L9)))) Tryz.func19 (fun _ _ => (aN0 (sh := (some 3)) (fun _ => rfl)))
def t8L7 {a b i} : TP (an3 a b i) :=
 tN 4002 zE1 a (tJ (tA 6002 zE1 fun x9 _ => tA 6006 zE1 fun x10 _ => tJ tR (tK 1 [0,1,5] tR)) tR)
def t8 {a b} : TP (am2 a b) :=
 tN 1001 zE1 a (tN 1003 zE1 b (tJ tR (tK 1 [0,1,5] (tL (fun st_ (s : Int) => am4 [(5,pI s)] [] st_) fun _ => t8L7))))
theorem c8 {a b} : CP 8 [.sl (some 3) (List.map zE1 a),.sl (some 3) (List.map zE1 b)] (fun r => .bool r) true (am2 a b) :=
 okE t8 Tryz.func8 (fun _ _ => rfl)
def t18L7 {l public_ i} : TP (ap5 l public_ i) :=
 tN 2002 aa1 l (tJ (tA 4002 aa1 fun x9 _ => tC 4004 c19 fun x10 => tB 4006 (fun x11 => .call [] [.sl (some 3) (List.map zE1 x10),.sl (some 3) (List.map zE1 public_)] (.bool x11) true) (fun _ hx11 => (kc (show LesA [.sl (some 3) (List.take (List.map zE1 x10).length (List.drop 0 (List.map zE1 x10))),.sl (some 3) (List.map zE1 public_)] [.sl (some 3) (List.map zE1 x10),.sl (some 3) (List.map zE1 public_)] from (.cons .td (.r .nil))) (kc (c8 _ hx11) (kc (le0 (List.map zE1 x10)) .nil)))) fun x11 _ => tJ tR (tK 1 [0,1,5] tR)) tR)
theorem c18 {l public_} : CP 18 [.sl none (List.map aa1 l),.sl (some 3) (List.map zE1 public_)] (fun r => .int .i64 r) true (ay5 l public_) :=
 okE (tK 1 [0,1,5] (tL (fun st_ (s : Int) => am4 [(5,pI s)] [] st_) fun _ => t18L7)) Tryz.func18 (fun _ _ => rfl)
theorem c56 {a b} : CP 56 [zE2 a,zE2 b] (fun r => .bool r) true (av1 a b) :=
 okE (tQ1 1006 4 [4] (tT 1006 10 (tT 1013 17 (tT 1020 24 (tT 1027 31 (tT 1034 38 (tC 1038 c8 fun x6 => tT 1041 45 (tT 1048 52 (tT 1055 59 (tT 1062 66 tR tR) tR) tR) tR) tR) tR) tR) tR) tR) fun t11 => tR) Tryz.func56 (fun _ _ => rfl)
theorem c20 {c} : CP 20 [zE2 c] (fun r => .bool r) true (ao7 c) :=
 okE (tB 1004 (fun x1 => .call [] [zE2 c,.agg [.int .i64 c.Id,.str [],.int .i64 0,.int .i64 0,.int .i64 0,.sl (some 3) [],.str [],.str [],.str [],.int .i64 0]] (.bool x1) true) (fun _ hx1 => (kc (show LesA [zE2 c,.agg [.int .i64 c.Id,.str [],.int .i64 0,.int .i64 0,.int .i64 0,.usl (some 3) [],.str [],.str [],.str [],.int .i64 0]] [zE2 c,.agg [.int .i64 c.Id,.str [],.int .i64 0,.int .i64 0,.int .i64 0,.sl (some 3) [],.str [],.str [],.str [],.int .i64 0]] from (.r (.cons (.agg (.r (.r (.r (.r (.r (.cons (.uslSl _) (.r (.r (.r (.r .nil))))))))))) .nil))) (kc (c56 _ hx1) .nil))) fun x1 _ => tR) Tryz.func20 (fun _ _ => rfl)
def bV2 {proto p2} : TP (ak4 proto p2) :=
 tJ tR (tJ tR tR)
theorem c57 {proto} : CP 57 [.str proto] (fun r => .int .i64 r) true (ad9 proto) :=
 okE (tK 4 [3,4] (tJ (tK 0 [3,4] bV2) (tK 5 [3,4] bV2))) Tryz.func57 (fun _ _ => rfl)
theorem c61 {key} : CP 61 [.sl (some 3) (List.map zE1 key)] (fun r => .str r) true (aq1 key) :=
 okE (tC 1001 c121 fun x1 => tR) Tryz.func61 (fun _ _ => rfl)
theorem c122 {key} : CP 122 [.sl (some 3) (List.map zE1 key)] (fun r => .str r) true (ap6 key) :=
 okE (tC 1001 c121 fun x1 => tR) Tryz.func122 (fun _ _ => rfl)
theorem c58 {key} : CP 58 [.sl (some 3) (List.map zE1 key)] (fun r => .int .i64 r) true (ag9 key) :=
 okE (tC 1001 c53 fun x1 => tJ tR (tC 4001 c61 fun x3 => tC 4003 c122 fun x4 => tP1 5004 32 [32] (.node 5004 18 (decide ((List.length x3 : Int) < 1)) (.leaf true) (.node 5009 23 (decide (32 < (List.length x3 : Int))) (.leaf true) (.node 5014 28 (decide ((List.length x4 : Int) < 1)) (.leaf true) (.leaf (decide (64 < (List.length x4 : Int))))))) (tJ tR tR))) Tryz.func58 (fun _ _ => rfl)
theorem c59 {c} : CP 59 [zE2 c] (fun r => .bool r) true (ao8 c) :=
 okE (tJ (tP1 2004 2 [2] (.node 2004 10 (decide (c.Role = 1)) (.leaf (decide (0 < c.Step))) (.leaf false)) tR) (tP1 3004 15 [1,15] (.node 3004 19 (decide (c.Proto = [109,117,116,117,97,108])) (.leaf (decide (c.Role = 2))) (.leaf false)) (tJ tR (tP1 5004 2 [2] (.node 5004 30 (decide (c.Proto = [109,117,116,117,97,108])) (.leaf (decide (1 < c.Step))) (.leaf false)) tR)))) Tryz.func59 (fun _ _ => rfl)
theorem c123 {proto} : CP 123 [.str proto] (fun r => .int .i64 r) true (ay6 proto) :=
 okE (tJ tR tR) Tryz.func123 (fun _ _ => rfl)
theorem c60 {c} : CP 60 [zE2 c] (fun r => .int .i64 r) true (ay7 c) :=
 okE (tC 1004 c57 fun x1 => tJ tR (tC 3008 c123 fun x3 => tJ tR tR)) Tryz.func60 (fun _ _ => rfl)
def bN4 {c p30 p31 p33} : TP (at4 c p30 p31 p33) :=
 tP1 10005 2 [2] (.node 10005 91 (decide (c.Phase = p30)) (.node 10011 97 (decide (c.User = p33)) (.leaf (decide (c.Err = p31))) (.leaf false)) (.leaf false)) tR
def bN5 {c p30 p31} : TP (aj7 c p30 p31) :=
 tK 10 [1,3,4,5,83] (tJ (tC 9002 c61 fun x38 => tK 11 [1,3,4,5] bN4) (tK 0 [1,3,4,5] bN4))
def t21 {c} : TP (al7 c) :=
 tQ1 1004 54 [1,54] (tT 1004 9 tR (tT 1009 14 tR (tC 1011 c57 fun x3 => tT 1015 20 tR (tT 1019 24 (tT 1025 30 tR (tT 1031 36 tR (tT 1036 41 tR (tC 1040 c57 fun x9 => tT 1044 49 tR (tC 1046 c58 fun x11 => tR))))) (tT 1031 36 tR (tT 1036 41 tR (tC 1040 c57 fun x14 => tT 1044 49 tR (tC 1046 c58 fun x16 => tR)))))))) fun t17 => tJ tR (tC 3001 c59 fun x19 => tQ1 3003 72 [1,72] (tT 3003 57 (tT 3009 63 tR (tC 3010 c59 fun x22 => tT 3013 67 tR tR)) (tC 3010 c59 fun x24 => tT 3013 67 tR tR)) fun t26 => tJ tR (tC 5001 c60 fun x28 => tP1 6003 81 [1,3,4,5,81] (.node 6003 77 (decide (x28 = 2)) (.leaf (decide (c.Phase = 4))) (.leaf false)) (tJ (tK 9 [1,3,4,5] bN5) (tK 0 [1,3,4,5] bN5))))
theorem c21 {c} : CP 21 [zE2 c] (fun r => .bool r) true (al7 c) :=
 okE t21 Tryz.func21 (fun _ _ => rfl)
def t5L41 {a i_1} : TP (aj8 a i_1) :=
 tN 12003 zE2 a.Convs (tJ (tA 14003 zE2 fun x43 _ => tQ1 15004 122 [1,6,122] (tT 15004 90 tR (tT 15011 97 tR (tT 15014 100 (tA 15018 zE2 fun x47 _ => tT 15027 113 tR (tC 15028 c20 fun x49 => tT 15031 117 (tC 15032 c21 fun x51 => tR) tR)) (tC 15028 c20 fun x52 => tT 15031 117 (tC 15032 c21 fun x54 => tR) tR)))) fun t55 => tJ tR (tK 1 [1,6] tR)) tR)
def t5L21 {a i} : TP (aj9 a i) :=
 tN 7003 aa1 a.Keys (tJ (tA 9003 aa1 fun x23 _ => tC 9005 c17 fun x24 => tQ1 9008 74 [1,5,74] (tT 9008 62 tR (tA 9013 aa1 fun x26 _ => tC 9015 c19 fun x27 => tB 9016 (fun x28 => .call [] [.sl none (List.map aa1 a.Keys),.sl (some 3) (List.map zE1 x27)] (.int .i64 x28) true) (fun _ hx28 => (kc (show LesA [.sl none (List.map aa1 a.Keys),.sl (some 3) (List.take (List.map zE1 x27).length (List.drop 0 (List.map zE1 x27)))] [.sl none (List.map aa1 a.Keys),.sl (some 3) (List.map zE1 x27)] from (.r (.cons .td .nil))) (kc (c18 _ hx28) (kc (le0 (List.map zE1 x27)) .nil)))) fun x28 _ => tR)) fun t29 => tJ tR (tK 1 [1,5] tR)) (tD (tK 1 [1,6] (tL (fun st_ (s : Int) => am4 [(6,pI s)] [] st_) fun _ => t5L41))))
def t5 {a} : TP (at5 a) :=
 tC 1004 c16 fun x1 => tP1 2003 29 [1,29] (.node 2003 18 (!decide (x1.2 = 0)) (.leaf true) (nLb 2005 aa1 a.Keys (.node 2009 24 (decide (64 < (List.length a.Keys : Int))) (.leaf true) (nLb 2011 zE2 a.Convs (.leaf (decide (32 < (List.length a.Convs : Int)))))))) (tJ tR (tP1 4004 47 [1,47] (.node 4004 33 (decide (a.Next < 1)) (.leaf true) (.node 4009 38 (decide (1048560 < a.Next)) (.leaf true) (.node 4014 43 (decide (a.Count < 0)) (.leaf true) (.leaf (decide (9007199254740991 < a.Count)))))) (tJ tR (tK 1 [1,5] (tL (fun st_ (s : Int) => am4 [(5,pI s)] [] st_) fun _ => t5L21)))))
theorem c5 {a} : CP 5 [zE3 a] (fun r => .bool r) true (at5 a) :=
 okE t5 Tryz.func5 (fun _ _ => rfl)
theorem c62_n : CP 62 [.nilsl] (fun r => .usl none (List.map aa1 r)) false (ag1) :=
 okE (tG true true rfl (tF (q := .usl none (List.map aa1 ([] : List (List aa0)))) (.nilsl) .nil (.nilUsl _))) Tryz.func62 (fun _ h => nomatch h)
theorem c62_e : CP 62 [.esl none] (fun r => .usl none (List.map aa1 r)) false (ad6) :=
 okE (tG false false rfl (tB 3002 (fun x1 => .app (List.map aa1 x1)) (fun x1 hx1 => (kc (show List.take 0 ([] : List PV) ++ [] = (List.map aa1 x1) from (a80 hx1 (.rfl _) (.rfl _))) (kc (show List.length (List.map aa1 x1) * 24 ≤ 140737488355328 from (by rw [List.length_map]; exact (at0 hx1).2.1)) (kc (show List.length (List.map aa1 x1) ≤ 9223372036854775807 from (by rw [List.length_map]; exact (at0 hx1).2.2)) (kc (show 0 ≤ List.length ([] : List PV) from (Nat.le_refl _)) .nil))))) fun x1 _ => tF (.usl none (List.take (List.map aa1 x1).length (List.map aa1 x1))) (kc (le1 (List.map aa1 x1)) .nil) .tk)) Tryz.func62 (fun _ h => nomatch h)
def t62 {s_} (hne : s_ ≠ []) : TP (aa7 s_) :=
 tO 1001 .isn (kc (show List.isEmpty (List.map aa1 s_) = false from (a34 hne)) .nil) (tG false false rfl (tA0 3002 aa1 fun x1 => tF (.usl none (List.take (List.map aa1 x1).length (List.map aa1 x1))) (kc (le1 (List.map aa1 x1)) .nil) .tk))
theorem c62_p {s_} (hne : s_ ≠ []) : CP 62 [.sl none (List.map aa1 s_)] (fun r => .usl none (List.map aa1 r)) false (aa7 s_) :=
 okE (t62 hne) Tryz.func62 (fun _ h => nomatch h)
theorem c62 {s_} : CP 62 [.sl none (List.map aa1 s_)] (fun r => .usl none (List.map aa1 r)) false (aa7 s_) := by
  intro r h
  cases s_ with
  | nil =>
    have e : r = [] := by
      simp [aa7,aM8] at h
      first | exact h | exact h.symm
    subst e
    exact CallOK.nilSplit (c62_n _ (show ag1 = some [] from rfl)) (c62_e _ (show ad6 = some [] by simp [ad6,aM8]))
  | cons a l => exact c62_p (by simp) _ h
theorem c31_n : CP 31 [.nilsl] (fun r => .usl (some 3) (List.map zE1 r)) true (ah0) :=
 okE (tG true true rfl (tF (q := .usl (some 3) (List.map zE1 ([] : List aa0))) (.nilsl) .nil (.nilUsl _))) Tryz.func31 (fun _ _ => (aN0 (sh := (some 3)) (fun _ => rfl)))
theorem c31_e : CP 31 [.esl (some 3)] (fun r => .usl (some 3) (List.map zE1 r)) true (ae3) :=
 okE (tG false false rfl (tB 3002 (fun x1 => .app (List.map zE1 x1)) (fun x1 hx1 => (kc (show List.take 0 ([] : List PV) ++ [] = (List.map zE1 x1) from (a80 hx1 (.rfl _) (.rfl _))) (kc (show List.length (List.map zE1 x1) * 40 ≤ 140737488355328 from (by rw [List.length_map]; exact (at0 hx1).2.1)) (kc (show List.length (List.map zE1 x1) ≤ 9223372036854775807 from (by rw [List.length_map]; exact (at0 hx1).2.2)) (kc (show 0 ≤ List.length ([] : List PV) from (Nat.le_refl _)) .nil))))) fun x1 _ => tF (.usl (some 3) (List.take (List.map zE1 x1).length (List.map zE1 x1))) (kc (le1 (List.map zE1 x1)) .nil) .tk)) Tryz.func31 (fun _ _ => (aN0 (sh := (some 3)) (fun _ => rfl)))
def t31 {s_} (hne : s_ ≠ []) : TP (aa6 s_) :=
 tO 1001 .isn (kc (show List.isEmpty (List.map zE1 s_) = false from (a34 hne)) .nil) (tG false false rfl (tA0 3002 zE1 fun x1 => tF (.usl (some 3) (List.take (List.map zE1 x1).length (List.map zE1 x1))) (kc (le1 (List.map zE1 x1)) .nil) .tk))
theorem c31_p {s_} (hne : s_ ≠ []) : CP 31 [.sl (some 3) (List.map zE1 s_)] (fun r => .usl (some 3) (List.map zE1 r)) true (aa6 s_) :=
 okE (t31 hne) Tryz.func31 (fun _ _ => (aN0 (sh := (some 3)) (fun _ => rfl)))
theorem c31 {s_} : CP 31 [.sl (some 3) (List.map zE1 s_)] (fun r => .usl (some 3) (List.map zE1 r)) true (aa6 s_) := by
  intro r h
  cases s_ with
  | nil =>
    have e : r = [] := by
      simp [aa6,aM8] at h
      first | exact h | exact h.symm
    subst e
    exact CallOK.nilSplit (c31_n _ (show ah0 = some [] from rfl)) (c31_e _ (show ae3 = some [] by simp [ae3,aM8]))
  | cons a l => exact c31_p (by simp) _ h
theorem c63_n : CP 63 [.nilsl] (fun r => .usl (some 10) (List.map zE2 r)) false (ah1) :=
 okE (tG true true rfl (tF (q := .usl (some 10) (List.map zE2 ([] : List aa5))) (.nilsl) .nil (.nilUsl _))) Tryz.func63 (fun _ h => nomatch h)
theorem c63_e : CP 63 [.esl (some 10)] (fun r => .usl (some 10) (List.map zE2 r)) false (ae4) :=
 okE (tG false false rfl (tB 3002 (fun x1 => .app (List.map zE2 x1)) (fun x1 hx1 => (kc (show List.take 0 ([] : List PV) ++ [] = (List.map zE2 x1) from (a80 hx1 (.rfl _) (.rfl _))) (kc (show List.length (List.map zE2 x1) * 128 ≤ 140737488355328 from (by rw [List.length_map]; exact (at0 hx1).2.1)) (kc (show List.length (List.map zE2 x1) ≤ 9223372036854775807 from (by rw [List.length_map]; exact (at0 hx1).2.2)) (kc (show 0 ≤ List.length ([] : List PV) from (Nat.le_refl _)) .nil))))) fun x1 _ => tF (.usl (some 10) (List.take (List.map zE2 x1).length (List.map zE2 x1))) (kc (le1 (List.map zE2 x1)) .nil) .tk)) Tryz.func63 (fun _ h => nomatch h)
def t63 {s_} (hne : s_ ≠ []) : TP (ab0 s_) :=
 tO 1001 .isn (kc (show List.isEmpty (List.map zE2 s_) = false from (a34 hne)) .nil) (tG false false rfl (tA0 3002 zE2 fun x1 => tF (.usl (some 10) (List.take (List.map zE2 x1).length (List.map zE2 x1))) (kc (le1 (List.map zE2 x1)) .nil) .tk))
theorem c63_p {s_} (hne : s_ ≠ []) : CP 63 [.sl (some 10) (List.map zE2 s_)] (fun r => .usl (some 10) (List.map zE2 r)) false (ab0 s_) :=
 okE (t63 hne) Tryz.func63 (fun _ h => nomatch h)
theorem c63 {s_} : CP 63 [.sl (some 10) (List.map zE2 s_)] (fun r => .usl (some 10) (List.map zE2 r)) false (ab0 s_) := by
  intro r h
  cases s_ with
  | nil =>
    have e : r = [] := by
      simp [ab0,aM8] at h
      first | exact h | exact h.symm
    subst e
    exact CallOK.nilSplit (c63_n _ (show ah1 = some [] from rfl)) (c63_e _ (show ae4 = some [] by simp [ae4,aM8]))
  | cons a l => exact c63_p (by simp) _ h
def bV3 {a v7 x13 v18 v19} : TP (ah8 a v7 x13 v18 v19) :=
 tJ (tAl 11006 11008 zE2 fun x22 _ => tC 11009 c31 fun x23 => tAt 11010 zE2 fun x24 hx24 => tO 11012 (.put (zE2 x24) (List.map zE2 (List.set v19 (Int.toNat v18) {x24 with Key := x23}))) (kc (bw7 (f := zE2) hx24) (kc (setM (f := zE2) (l := v19) (n := Int.toNat v18) (v := aa5.mk x24.Id x24.Proto x24.Role x24.Phase x24.Step x23 x24.Own x24.Peer x24.User x24.Err)) (kc (le2 (List.map zE1 x23)) .nil))) (tK 13 [1,2,32,33] (tW ({ tm := [oP 1 0,oP 2 3,(32,.pv (.int .i64 (List.length x13 : Int))),(33,.pv (.int .i64 v18))],hp := [(0,some (.h (some 6) [.agg [.pv (.str a.Owner),.pv (.str a.Seed),.osl 1 0 (List.map aa1 v7).length,.pv (.int .i64 a.Next),.osl 2 0 (List.map zE2 v19).length,.pv (.int .i64 a.Count)]])),(1,some (.p none (List.map aa1 v7))),(2,some (.p (some 10) (List.map zE2 (List.set v19 (Int.toNat v18) {x24 with Key := x23})))),(3,some (.p (some 6) [gA2]))],nx := 4 }) ({ tm := [oP 1 0,oP 2 3,(32,.pv (.int .i64 (List.length x13 : Int))),(33,.pv (.int .i64 v18))],hp := [(0,some (.h (some 6) [.agg [.pv (.str a.Owner),.pv (.str a.Seed),.osl 1 0 (List.map aa1 v7).length,.pv (.int .i64 a.Next),.osl 2 0 (List.map zE2 (List.set v19 (Int.toNat v18) {x24 with Key := x23})).length,.pv (.int .i64 a.Count)]])),(1,some (.p none (List.map aa1 v7))),(2,some (.p (some 10) (List.map zE2 (List.set v19 (Int.toNat v18) {x24 with Key := x23})))),(3,some (.p (some 6) [gA2]))],nx := 4 }) (Sub.of_eq (by simp only [List.length_map,List.length_set])) (tK 1 [1,2,32,33] tR)))) (tE (tF (.agg [.str a.Owner,.str a.Seed,.usl none (List.take (List.map aa1 v7).length (List.map aa1 v7)),.int .i64 a.Next,.usl (some 10) (List.take (List.map zE2 v19).length (List.map zE2 v19)),.int .i64 a.Count]) (kc (le1 (List.map aa1 v7)) (kc (le1 (List.map zE2 v19)) .nil)) (.agg (.r (.r (.cons .tk (.r (.cons .tk (.r .nil)))))))))
def bV4 {a v7} : TP (at6 a v7) :=
 tC 7002 c63 fun x13 => tN 8002 zE2 x13 (tK 1 [1,2,32,33] (tL (fun st_ (s : (Int × (List aa5))) => am4 [(33,pI s.1)] [(0,some (.h (some 6) [.agg [pS a.Owner,pS a.Seed,oL 1 aa1 v7,pI a.Next,oL 2 zE2 s.2,pI a.Count]])),(2,rL (some 10) zE2 s.2)] st_) fun _ => bV3))
def t22L8 {a x1 v6 v7} : TP (al1 a x1 v6 v7) :=
 tJ (tAt 5006 aa1 fun x10 hx10 => tO 5007 (.ld (.sl (some 3) (List.map zE1 x10))) (kc (bw7 (f := aa1) hx10) .nil) (tC 5008 c31 fun x11 => tAt 5009 aa1 fun x12 hx12 => tO 5010 (.put (.sl (some 3) (List.map zE1 x12)) (List.map aa1 (List.set v7 (Int.toNat v6) x11))) (kc (bw7 (f := aa1) hx12) (kc (setM (f := aa1) (l := v7) (n := Int.toNat v6) (v := x11)) (kc (le2 (List.map zE1 x11)) .nil))) (tK 7 [1,2,11,12] (tW ({ tm := [oP 1 0,oP 2 2,(11,.pv (.int .i64 (List.length x1 : Int))),(12,.pv (.int .i64 v6))],hp := [(0,some (.h (some 6) [.agg [.pv (.str a.Owner),.pv (.str a.Seed),.osl 1 0 (List.map aa1 v7).length,.pv (.int .i64 a.Next),.pv (.sl (some 10) (List.map zE2 a.Convs)),.pv (.int .i64 a.Count)]])),(1,some (.p none (List.map aa1 (List.set v7 (Int.toNat v6) x11)))),(2,some (.p (some 6) [gA2]))],nx := 3 }) ({ tm := [oP 1 0,oP 2 2,(11,.pv (.int .i64 (List.length x1 : Int))),(12,.pv (.int .i64 v6))],hp := [(0,some (.h (some 6) [.agg [.pv (.str a.Owner),.pv (.str a.Seed),.osl 1 0 (List.map aa1 (List.set v7 (Int.toNat v6) x11)).length,.pv (.int .i64 a.Next),.pv (.sl (some 10) (List.map zE2 a.Convs)),.pv (.int .i64 a.Count)]])),(1,some (.p none (List.map aa1 (List.set v7 (Int.toNat v6) x11)))),(2,some (.p (some 6) [gA2]))],nx := 3 }) (Sub.of_eq (by simp only [List.length_map,List.length_set])) (tK 1 [1,2,11,12] tR))))) (tD bV4)
theorem c22 {a} : CP 22 [zE3 a] (fun r => (gA1 r)) false (ay8 a) :=
 okE (tC 1002 c62 fun x1 => tN 2002 aa1 x1 (tK 1 [1,2,11,12] (tL (fun st_ (s : (Int × (List (List aa0)))) => am4 [(12,pI s.1)] [(0,some (.h (some 6) [.agg [pS a.Owner,pS a.Seed,oL 1 aa1 s.2,pI a.Next,pL (some 10) zE2 a.Convs,pI a.Count]])),(1,rL none aa1 s.2)] st_) fun _ => t22L8))) Tryz.func22 (fun _ h => nomatch h)
theorem c65 {c a1} : CP 65 [zE2 c,.rptr none (.int .i64 a1) 0] (fun r => .bool r) true (aB8 c a1) :=
 okE tR Tryz.func65 (fun _ _ => rfl)
def bD0 {s_ f v5} : TP (aa9 s_ f v5) :=
 tJ (tA 4003 zE2 fun x8 _ => tC 4005 c65 fun x9 => tJ tR (tK 1 [0,1,7,8] tR)) tR
theorem bR6 {s_ f} : CP 64 [.sl (some 10) (List.map zE2 s_),.fn 65 [.rptr none (.int .i64 f) 0]] (fun r => .int .i64 r) true (ac9 s_ f) :=
 okE (tN 1001 zE2 s_ (tK 1 [0,1,7,8] (tL (fun st_ (s : Int) => am4 [(8,pI s)] [] st_) fun _ => bD0))) Tryz.func64 (fun _ _ => rfl)
theorem c24 {a id} : CP 24 [zE3 a,.int .i64 id] (fun r => .int .i64 r) true (ar9 a id) :=
 okE (tC 1003 bR6 fun x1 => tR) Tryz.func24 (fun _ _ => rfl)
theorem c23 {a id} : CP 23 [zE3 a,.int .i64 id] (fun r => .bool r) true (au5 a id) :=
 okE (tQ1 1003 4 [4] (tT 1003 7 (tT 1007 11 tR (tC 1009 c24 fun x3 => tR)) (tC 1009 c24 fun x4 => tR)) fun t5 => tR) Tryz.func23 (fun _ _ => rfl)
theorem c25 {a0 a1 a2} : CP 25 [zE3 a0,.int .i64 a1,.int .i64 a2] (fun r => .tup [(gA1 r.1),.str r.2.1,.int .i64 r.2.2]) false (a02 a0 a1 a2) := fun r h =>
 by cases h
theorem c79 {s_ prefix_} : CP 79 [.str s_,.str prefix_] (fun r => .bool r) true (stringslite_HasPrefix s_ prefix_) :=
 okE (tQ1 1006 4 [4] (tT 1006 10 (tCu 1009 fun x2 _ => tR) tR) fun t3 => tR) Tryz.func79 (fun _ _ => rfl)
theorem c33 {s_ prefix_} : CP 33 [.str s_,.str prefix_] (fun r => .bool r) true (strings_HasPrefix s_ prefix_) :=
 okE (tC 1002 c79 fun x1 => tR) Tryz.func33 (fun _ _ => rfl)
theorem c32 {a} : CP 32 [zE1 a] (fun r => .bool r) true (an4 a) :=
 okE (tC 1002 c33 fun x1 => tR) Tryz.func32 (fun _ _ => rfl)
def bD1 {s_ v5} : TP (ab5 s_ v5) :=
 tJ (tA 4003 zE1 fun x8 _ => tC 4005 c32 fun x9 => tJ tR (tK 1 [0,1,7,8] tR)) tR
theorem bR7 {s_} : CP 78 [.sl (some 3) (List.map zE1 s_),.fn 32 []] (fun r => .int .i64 r) true (ab9 s_) :=
 okE (tN 1001 zE1 s_ (tK 1 [0,1,7,8] (tL (fun st_ (s : Int) => am4 [(8,pI s)] [] st_) fun _ => bD1))) Tryz.func78 (fun _ _ => rfl)
def bb0 {i s__1} : TP (ac2 i s__1) :=
 tB 11002 (fun _ => .cutR) (fun _ hx17 => (kc (show 0 ≤ i ∧ i ≤ (((List.map zE1 s__1).length : Nat) : Int) ∧ (((List.map zE1 s__1).length : Nat) : Int) ≤ (((List.map zE1 s__1).length : Nat) : Int) from (bP8 hx17 (by simp))) .nil)) fun x17 hx17 => tO 11003 .clr (kc (show (0 + Int.toNat i) ≤ List.length (List.map zE1 s__1) from (bU4 hx17)) .nil) (tK 13 [0,5] (tW ({ tm := [(0,.osl 0 0 (List.map zE1 s__1).length),(5,.pv (.int .i64 i))],hp := [(0,some (.p (some 3) (List.take (0 + Int.toNat i) (List.map zE1 s__1))))],nx := 1 }) ({ tm := [(0,.osl 0 0 (List.map zE1 s__1).length),(5,.pv (.int .i64 i))],hp := [(0,some (.p (some 3) (List.map zE1 x17)))],nx := 1 }) (Sub.of_eq (show ({ tm := [(0,.osl 0 0 (List.map zE1 s__1).length),(5,.pv (.int .i64 i))],hp := [(0,some (.p (some 3) (List.map zE1 x17)))],nx := 1 } : VSt) = { tm := [(0,.osl 0 0 (List.map zE1 s__1).length),(5,.pv (.int .i64 i))],hp := [(0,some (.p (some 3) (List.take (0 + Int.toNat i) (List.map zE1 s__1))))],nx := 1 } from by rw [bP9 hx17])) (tO 12002 .cutR (kc (show 0 ≤ (0 : Int) ∧ (0 : Int) ≤ i ∧ i ≤ (((List.map zE1 s__1).length : Nat) : Int) from (bO7 hx17 (by simp))) .nil) (tK 14 [4] (tW ({ tm := [(4,.osl 0 (0 + Int.toNat 0) (Int.toNat i - Int.toNat 0))],hp := [(0,some (.p (some 3) (List.map zE1 x17)))],nx := 1 }) ({ tm := [(4,.osl 0 0 (List.map zE1 x17).length)],hp := [(0,some (.p (some 3) (List.map zE1 x17)))],nx := 1 }) (Sub.of_eq (show ({ tm := [(4,.osl 0 0 (List.map zE1 x17).length)],hp := [(0,some (.p (some 3) (List.map zE1 x17)))],nx := 1 } : VSt) = { tm := [(4,.osl 0 (0 + Int.toNat 0) (Int.toNat i - Int.toNat 0))],hp := [(0,some (.p (some 3) (List.map zE1 x17)))],nx := 1 } from by rw [bQ0 hx17]; try rfl)) (tF (.usl (some 3) (List.take (List.map zE1 x17).length (List.map zE1 x17))) (kc (le1 (List.map zE1 x17)) .nil) .tk))))))
def bb1 {i j s__1} : TP (ab1 i j s__1) :=
 tN 5002 zE1 s__1 (tJ (tAl 7002 7003 zE1 fun x13 _ => tC 8002 c32 fun x14 => tJ (tAt 9003 zE1 fun x16 hx16 => tO 9004 (.set (zE1 x16) (List.map zE1 (List.set s__1 (Int.toNat i) x13))) (kc (bw7 (f := zE1) hx16) (kc (setM (f := zE1) (l := s__1) (n := Int.toNat i) (v := x13)) .nil)) (tK 11 [0,1,5,6] (tW ({ tm := [(0,.osl 0 0 (List.map zE1 s__1).length),(1,.pv (.fn 32 [])),(5,.pv (.int .i64 i)),(6,.pv (.int .i64 j))],hp := [(0,some (.p (some 3) (List.map zE1 (List.set s__1 (Int.toNat i) x13))))],nx := 1 }) ({ tm := [(0,.osl 0 0 (List.map zE1 (List.set s__1 (Int.toNat i) x13)).length),(1,.pv (.fn 32 [])),(5,.pv (.int .i64 i)),(6,.pv (.int .i64 j))],hp := [(0,some (.p (some 3) (List.map zE1 (List.set s__1 (Int.toNat i) x13))))],nx := 1 }) (Sub.of_eq (by simp only [List.length_map,List.length_set])) (tK 1 [0,1,5,6] tR)))) (tK 1 [0,1,5,6] tR)) (tD bb0))
theorem bD2 {s_} : CP 30 [.usl (some 3) (List.map zE1 s_),.fn 32 []] (fun r => .usl (some 3) (List.map zE1 r)) true (ac4 s_) :=
 okE (tB 1002 (fun x1 => .call [] [.sl (some 3) (List.map zE1 s_),.fn 32 []] (.int .i64 x1) true) (fun _ hx1 => (kc (show LesA [.sl (some 3) (List.take (List.map zE1 s_).length (List.drop 0 (List.map zE1 s_))),.fn 32 []] [.sl (some 3) (List.map zE1 s_),.fn 32 []] from (.cons .td (.r .nil))) (kc (bR7 _ hx1) (kc (le0 (List.map zE1 s_)) .nil)))) fun x1 _ => tJ (tF (.usl (some 3) (List.take (List.map zE1 s_).length (List.map zE1 s_))) (kc (le1 (List.map zE1 s_)) .nil) .tk) (tK 1 [0,1,5,6] (tL (fun st_ (s : (Int × Int × (List aa0))) => am4 [(0,oL 0 zE1 s.2.2),(5,pI s.1),(6,pI s.2.1)] [(0,rL (some 3) zE1 s.2.2)] st_) fun _ => bb1))) Tryz.func30 (fun _ _ => (aN0 (sh := (some 3)) (fun _ => rfl)))
theorem c9 {l} : CP 9 [.sl (some 3) (List.map zE1 l)] (fun r => .usl (some 3) (List.map zE1 r)) true (ao9 l) :=
 okE (tC 1001 c31 fun x1 => tB 1002 (fun x2 => .call [8] [.usl (some 3) (List.map zE1 x1),.fn 32 []] (.usl (some 3) (List.map zE1 x2)) true) (fun _ hx2 => (kc (show LesA [.usl (some 3) (List.take (List.map zE1 x1).length (List.map zE1 x1)),.fn 32 []] [.usl (some 3) (List.map zE1 x1),.fn 32 []] from (.cons .tk (.r .nil))) (kc (bD2 _ hx2) (kc (le1 (List.map zE1 x1)) .nil)))) fun x2 _ => tF (.usl (some 3) (List.take (List.map zE1 x2).length (List.map zE1 x2))) (kc (le1 (List.map zE1 x2)) .nil) .tk) Tryz.func9 (fun _ _ => (aN0 (sh := (some 3)) (fun _ => rfl)))
theorem c192 {s_ prefix_} : CP 192 [.str s_,.str prefix_] (fun r => .str r) true (stringslite_TrimPrefix s_ prefix_) :=
 okE (tC 1002 c79 fun x1 => tJ (tCu 2003 fun x3 _ => tR) tR) Tryz.func192 (fun _ _ => rfl)
theorem c133 {s_ prefix_} : CP 133 [.str s_,.str prefix_] (fun r => .str r) true (strings_TrimPrefix s_ prefix_) :=
 okE (tC 1002 c192 fun x1 => tR) Tryz.func133 (fun _ _ => rfl)
def bV5 {x1 v23} : TP (ah9 x1 v23) :=
 tJ (tSa 7002 fun c26 _ => tP1 8003 53 [0,25,26,53] (.node 8003 34 (decide ((c26.toNat : Int) < 97)) (.node 8010 41 (decide ((c26.toNat : Int) < 48)) (.node 8019 50 (!decide ((c26.toNat : Int) = 45)) (.leaf (!decide ((c26.toNat : Int) = 95))) (.leaf false)) (.node 8015 46 (decide (57 < (c26.toNat : Int))) (.node 8019 50 (!decide ((c26.toNat : Int) = 45)) (.leaf (!decide ((c26.toNat : Int) = 95))) (.leaf false)) (.leaf false))) (.node 8007 38 (decide (122 < (c26.toNat : Int))) (.node 8010 41 (decide ((c26.toNat : Int) < 48)) (.node 8019 50 (!decide ((c26.toNat : Int) = 45)) (.leaf (!decide ((c26.toNat : Int) = 95))) (.leaf false)) (.node 8015 46 (decide (57 < (c26.toNat : Int))) (.node 8019 50 (!decide ((c26.toNat : Int) = 45)) (.leaf (!decide ((c26.toNat : Int) = 95))) (.leaf false)) (.leaf false))) (.leaf false))) (tJ tR (tK 1 [0,25,26] tR))) tR
theorem c75 {s_} : CP 75 [.str s_] (fun r => .bool r) true (ay9 s_) :=
 okE (tC 1001 c133 fun x1 => tQ1 2003 23 [0,23] (tT 2003 9 tR (tT 2008 14 tR (tSa 2009 fun c4 _ => tT 2013 19 tR (tSa 2014 fun c6 _ => tR)))) fun t7 => tJ tR (tK 1 [0,25,26] (tL (fun st_ (s : Int) => am4 [(26,pI s)] [] st_) fun _ => bV5))) Tryz.func75 (fun _ _ => rfl)
theorem c134 {a0 a1} : CP 134 [.str a0,.int .u8 a1] (fun r => .int .i64 r) true (stringslite_IndexByte a0 a1) := fun r h =>
 ok_indexByte Tryz.func134 (by kernel_rfl) (by kernel_rfl) Tryz.stringslite_IndexByte h
theorem c82 {s_ c} : CP 82 [.str s_,.int .u8 c] (fun r => .int .i64 r) true (strings_IndexByte s_ c) :=
 okE (tC 1002 c134 fun x1 => tR) Tryz.func82 (fun _ _ => rfl)
def t72L6 {s_ stops v5} : TP (an5 s_ stops v5) :=
 tJ (tSa 4003 fun c8 _ => tC 4004 c82 fun x9 => tJ tR (tK 1 [0,1,7,8] tR)) tR
theorem c72 {s_ stops} : CP 72 [.str s_,.str stops] (fun r => .int .i64 r) true (ai7 s_ stops) :=
 okE (tK 1 [0,1,7,8] (tL (fun st_ (s : Int) => am4 [(8,pI s)] [] st_) fun _ => t72L6)) Tryz.func72 (fun _ _ => rfl)
theorem c77 {b a1} : CP 77 [zE1 b,.rptr (some 3) (zE1 a1) 0] (fun r => .bool r) true (aB9 b a1) :=
 okE tR Tryz.func77 (fun _ _ => rfl)
def bD3 {s_ f v5} : TP (ab6 s_ f v5) :=
 tJ (tA 4003 zE1 fun x8 _ => tC 4005 c77 fun x9 => tJ tR (tK 1 [0,1,7,8] tR)) tR
theorem bR8 {s_ f} : CP 78 [.sl (some 3) (List.map zE1 s_),.fn 77 [.rptr (some 3) (zE1 f) 0]] (fun r => .int .i64 r) true (ac0 s_ f) :=
 okE (tN 1001 zE1 s_ (tK 1 [0,1,7,8] (tL (fun st_ (s : Int) => am4 [(8,pI s)] [] st_) fun _ => bD3))) Tryz.func78 (fun _ _ => rfl)
theorem bR9 {s_ f} : CP 76 [.sl (some 3) (List.map zE1 s_),.fn 77 [.rptr (some 3) (zE1 f) 0]] (fun r => .bool r) true (ab7 s_ f) :=
 okE (tC 1002 bR8 fun x1 => tR) Tryz.func76 (fun _ _ => rfl)
def t29 {before a} : TP (ap0 before a) :=
 tN 1001 zE1 before (tJ tR (tC 3002 c75 fun x2 => tJ tR (tP1 5003 14 [0,3,14] (.node 5003 17 a.Query (.leaf (!decide (a.Value = []))) (.leaf false)) (tJ tR (tC 7002 c72 fun x7 => tJ tR (tJ tR (tC 11002 bR9 fun x10 => tJ tR tR)))))))
theorem c29 {before a} : CP 29 [.sl (some 3) (List.map zE1 before),zE1 a] (fun r => .int .i64 r) true (ap0 before a) :=
 okE t29 Tryz.func29 (fun _ _ => rfl)
def bV6 {l v6} : TP (an6 l v6) :=
 tJ (tA 3001 zE1 fun x9 _ => tB 4002 (fun x10 => .cutP (List.map zE1 x10)) (fun x10 hx10 => (kc (show cut (List.map zE1 l) 0 v6 = some (List.map zE1 x10) from (bw6 hx10)) .nil)) fun x10 _ => tC 4004 c29 fun x11 => tJ tR (tK 1 [0,6,7,8] tR)) tR
theorem c127 {l} : CP 127 [.sl (some 3) (List.map zE1 l)] (fun r => .int .i64 r) true (aD3 l) :=
 okE (tN 1001 zE1 l (tK 1 [0,6,7,8] (tL (fun st_ (s : Int) => am4 [(8,pI s)] [] st_) fun _ => bV6))) Tryz.func127 (fun _ _ => rfl)
theorem c38 {a0 a1 a2} : CP 38 [.str a0,.str a1,.str a2] (fun r => .str r) true (strings_ReplaceAll a0 a1 a2) := fun r h =>
 a35 Tryz.func38 (by kernel_rfl) (by kernel_rfl) (g := 0) (by kernel_rfl) Tryz.strings_ReplaceAll h
theorem c128 {s_} : CP 128 [.str s_] (fun r => .str r) true (aD4 s_) :=
 okE (tQ1 1003 11 [0,11] (tT 1003 5 (tC 1004 c72 fun x2 => tR) tR) fun t3 => tJ tR (tC 3001 c38 fun x5 => tCt 3002 fun x6 _ => tCt 3003 fun x7 _ => tR)) Tryz.func128 (fun _ _ => rfl)
theorem c129 {a0 a1} : CP 129 [.sl none (List.map PV.str a0),.str a1] (fun r => .str r) true (strings_Join a0 a1) := fun r h =>
 bP2 Tryz.func129 (by kernel_rfl) (by kernel_rfl) Tryz.strings_Join_none Tryz.strings_Join h
def bV7 {words} : TP (av2 words) :=
 tB 12001 (fun x25 => .call [] [.sl none (List.map PV.str words),.str [32]] (.str x25) true) (fun _ hx25 => (kc (show LesA [.sl none (List.take (List.map PV.str words).length (List.drop 0 (List.map PV.str words))),.str [32]] [.sl none (List.map PV.str words),.str [32]] from (.cons .td (.r .nil))) (kc (c129 _ hx25) (kc (le0 (List.map PV.str words)) .nil)))) fun x25 _ => tR
def bV8 {l v13 words} : TP (al2 l v13 words) :=
 tJ (tA 7000 zE1 fun x17 _ => tJ (tCt 9003 fun x19 _ => tA1 9005 PV.str fun x20 => tK 1 [5,16,17,18] tR) (tCt 10003 fun x21 _ => tC 10006 c128 fun x22 => tCt 10007 fun x23 _ => tA1 10009 PV.str fun x24 => tK 1 [5,16,17,18] tR)) (tD bV7)
theorem c68 {l} : CP 68 [.sl (some 3) (List.map zE1 l)] (fun r => .tup [.str r.1,.int .i64 r.2]) true (aD5 l) :=
 okE (tC 1001 c127 fun x1 => tJ tR (tN 4001 zE1 l (tB 4002 (fun x3 => .mk (List.map PV.str x3)) (fun x3 hx3 => (kc (show mkC 16 (.str []) 0 (List.length l : Int) = some (List.map PV.str x3) from (bO6 (f := PV.str) hx3)) .nil)) fun x3 _ => tN 5001 zE1 l (tK 1 [5,16,17,18] (tL (fun st_ (s : (Int × (List Str))) => am4 [(5,oL 0 PV.str s.2),(18,pI s.1)] [(0,rL none PV.str s.2)] st_) fun _ => bV8))))) Tryz.func68 (fun _ _ => rfl)
theorem c70 : CP 70 [] (fun r => .usl none (List.map PV.str r)) true (aF8) :=
 okE (tF (.usl none (List.take 3 ([.str [99,104,97,108],.str [109,117,116,117,97,108],.str [112,108,97,105,110]] : List PV))) (kc (show 3 ≤ List.length ([.str [99,104,97,108],.str [109,117,116,117,97,108],.str [112,108,97,105,110]] : List PV) from (Nat.le_refl _)) .nil) (.refl _)) Tryz.func70 (fun _ _ => (aN0 (sh := none) (fun _ => rfl)))
def bS0 {p2} : TP (ai0 p2) :=
 tO 16000 (.bcall (.str p2) p2) (kc (show BuilderOK Tryz.prog 71 133 5 p2 [] (.str p2) p2 from (b71 _)) .nil) (tK 18 [4] tR)
def bV9 {a v11 v12} : TP (ag6 a v11 v12) :=
 tK 7 [5,16,17,18,19] (tJ (tK 0 [5,16,17,18] (tA 6000 aa1 fun x15 _ => tK 8 [5,7,16,17,18] (tC 7001 c9 fun x16 => tB 7002 (fun x17 => .call [] [.sl (some 3) (List.map zE1 x16)] (.tup [.str x17.1,.int .i64 x17.2]) true) (fun _ hx17 => (kc (show LesA [.sl (some 3) (List.take (List.map zE1 x16).length (List.drop 0 (List.map zE1 x16)))] [.sl (some 3) (List.map zE1 x16)] from (.cons .td .nil)) (kc (c68 _ hx17) (kc (le0 (List.map zE1 x16)) .nil)))) fun x17 _ => tK 9 [5,8,16,17,18] (tCt 8001 fun x18 _ => tCt 8002 fun x19 _ => tB 8003 (fun x20 => .bcall (.tup [.int .i64 (List.length x19 : Int),.niliface]) x20) (fun _ hx20 => (kc (b69 hx20) .nil)) fun x20 _ => tK 10 [5,16,17,18] (tK 11 [5,16,17,18] tR))))) (tK 0 [5] (tD bS0)))
def bW0 {x22 v27 v28} : TP (af4 x22 v27 v28) :=
 tK 14 [5,35,36,37,38] (tJ (tK 0 [5,35,36,37] (tAl 13000 13001 PV.str fun x31 _ => tK 15 [5,11,35,36,37] (tCt 14001 fun x32 _ => tB 14002 (fun x33 => .bcall (.tup [.int .i64 (List.length x32 : Int),.niliface]) x33) (fun _ hx33 => (kc (b69 hx33) .nil)) fun x33 _ => tK 16 [5,35,36,37] (tK 17 [5,35,36,37] tR)))) (tK 0 [5] (tD bS0)))
def t26 {a id} : TP (al3 a id) :=
 tK 2 [1,2] (tO 1000 .bld (kc (show ∀ (k : Nat) (T' e' : TypeId) (bs' : List UInt8),ae2 [(0,some (.p (some 6) [zE3 a]))] k ≠ some (.b T' e' bs') from (noB (by kernel_rfl))) .nil) (tK 3 [1,2,5] (tK 4 [2,5,12] (tK 5 [2,5,12,13] (tJ (tN 4002 aa1 a.Keys (tK 6 [5,16,17,18] (tK 1 [5,16,17,18] (tL (fun st_ (s : (Int × Str)) => am4 [(18,pI s.1)] [(0,some (.b 133 5 s.2))] st_) fun _ => bV9)))) (tK 12 [5,33] (tJ (tC 11000 c70 fun x22 => tN 11001 PV.str x22 (tK 13 [5,35,36,37] (tK 1 [5,35,36,37] (tL (fun st_ (s : (Int × Str)) => am4 [(37,pI s.1)] [(0,some (.b 133 5 s.2))] st_) fun _ => bW0)))) (tK 0 [5] bS0))))))))
theorem c26 {a id} : CP 26 [zE3 a,.int .i64 id] (fun r => .str r) true (al3 a id) :=
 okE t26 Tryz.func26 (fun _ _ => rfl)
theorem c6 {a id offset count} : CP 6 [zE3 a,.int .i64 id,.int .i64 offset,.int .i64 count] (fun r => .tup [(gA1 r.1),.str r.2.1,.int .i64 r.2.2]) false (aw4 a id offset count) :=
 okE (tC 1001 c22 fun x1 => tC 2002 c23 fun x2 => tJ (tF (.tup [(gA3 x1),.str [],.int .i64 8]) (kc (le1 (List.map aa1 x1.Keys)) (kc (le1 (List.map zE2 x1.Convs)) .nil)) (.tup (.cons (.agg (.r (.r (.cons .tk (.r (.cons .tk (.r .nil))))))) (.r (.r .nil))))) (tJ (tF (.tup [(gA3 x1),.str [],.int .i64 10]) (kc (le1 (List.map aa1 x1.Keys)) (kc (le1 (List.map zE2 x1.Convs)) .nil)) (.tup (.cons (.agg (.r (.r (.cons .tk (.r (.cons .tk (.r .nil))))))) (.r (.r .nil))))) (tP1 6003 26 [1,2,3,4,8,11,26] (.node 6003 29 (decide (offset < 0)) (.leaf true) (.leaf (decide (count < 0)))) (tJ (tF (.tup [(gA3 x1),.str [],.int .i64 1]) (kc (le1 (List.map aa1 x1.Keys)) (kc (le1 (List.map zE2 x1.Convs)) .nil)) (.tup (.cons (.agg (.r (.r (.cons .tk (.r (.cons .tk (.r .nil))))))) (.r (.r .nil))))) (tC 9002 c24 fun x8 => tJ (tC 11003 c25 fun x10 => tF (.tup [(gA3 x10.1),.str x10.2.1,.int .i64 x10.2.2]) (kc (le1 (List.map aa1 x10.1.Keys)) (kc (le1 (List.map zE2 x10.1.Convs)) .nil)) (.tup (.cons (.agg (.r (.r (.cons .tk (.r (.cons .tk (.r .nil))))))) (.r (.r .nil))))) (tC 12002 c26 fun x11 => tCu 13005 fun x12 _ => tCu 14006 fun x13 _ => tF (.tup [(gA3 x1),.str x13,.int .i64 0]) (kc (le1 (List.map aa1 x1.Keys)) (kc (le1 (List.map zE2 x1.Convs)) .nil)) (.tup (.cons (.agg (.r (.r (.cons .tk (.r (.cons .tk (.r .nil))))))) (.r (.r .nil)))))))))) Tryz.func6 (fun _ h => nomatch h)
theorem c27 {c} : CP 27 [.int .u8 c] (fun r => .bool r) true (aw5 c) :=
 okE (tP1 1003 2 [2] (.node 1003 5 (decide (c = 32)) (.leaf true) (.leaf (decide (c = 9)))) tR) Tryz.func27 (fun _ _ => rfl)
def bW1 {s_ i v12} : TP (af9 s_ i v12) :=
 tK 5 [0,5,6,10] (tJ (tK 0 [0,5,6] (tSa 5002 fun c15 _ => tK 7 [0,5,6,16] (tJ (tSa 6002 fun c17 _ => tB 6003 (fun x18 => .bcall .niliface x18) (fun _ hx18 => (kc (b131 (c := c17) hx18) .nil)) fun x18 _ => tK 8 [0,5,6] (tK 0 [0,5,6] (tK 6 [0,5,6] tR))) (tK 0 [0,5,6] (tQ1 7006 32 [0,5,6,32] (tT 7006 26 tR (tSa 7009 fun c20 _ => tR)) fun t21 => tJ (tO 8000 (.bcall (.str v12) v12) (kc (show BuilderOK Tryz.prog 71 133 5 v12 [] (.str v12) v12 from (b71 _)) .nil) (tK 10 [2,3,4] tR)) (tK 0 [0,5,6] (tB 9000 (fun x23 => .bcall .niliface x23) (fun _ hx23 => (kc (b131 (c := (39 : UInt8)) hx23) .nil)) fun x23 _ => tK 11 [0,5,6] (tK 12 [0,5,6] (tK 6 [0,5,6] tR))))))))) (tK 0 [] (tE (tK 13 [2,3,4] tR))))
theorem c73 {s_} : CP 73 [.str s_] (fun r => .tup [.str r.1,.int .i64 r.2.1,.bool r.2.2]) true (az0 s_) :=
 okE (tK 2 [0] (tO 1000 .bld (kc (show ∀ (k : Nat) (T' e' : TypeId) (bs' : List UInt8),ae2 [] k ≠ some (.b T' e' bs') from (noB (by kernel_rfl))) .nil) (tK 3 [0,5] (tK 4 [0,5,6] (tK 1 [0,5,6] (tL (fun st_ (s : (Int × Str)) => am4 [(6,pI s.1)] [(0,some (.b 133 5 s.2))] st_) fun _ => bW1)))))) Tryz.func73 (fun _ _ => rfl)
theorem c132 {a0 a1} : CP 132 [.str a0,.str a1] (fun r => .int .i64 r) true (strings_Index a0 a1) := fun r h =>
 bG9 Tryz.func132 (by kernel_rfl) (by kernel_rfl) Tryz.strings_Index_one h
theorem c74 {s_ substr} : CP 74 [.str s_,.str substr] (fun r => .bool r) true (strings_Contains s_ substr) :=
 okE (tC 1002 c132 fun x1 => tR) Tryz.func74 (fun _ _ => rfl)
def bS1 {s_ x2 p5 p6 p7} : TP (ap1 s_ x2 p5 p6 p7) :=
 tQ1 20005 73 [2,5,6,73] (tT 20005 67 (tSa 20007 fun c9 _ => tC 20008 c27 fun x10 => tR) tR) fun t11 => tJ tR tR
theorem c28 {s_} : CP 28 [.str s_] (fun r => .tup [zE1 r.1,.int .i64 r.2.1,.int .i64 r.2.2]) true (aO9 s_) :=
 okE (tC 1001 c72 fun x1 => tCu 2002 fun x2 _ => tCu 3002 fun x3 _ => tC 5001 c33 fun x13 => tK 7 [0,2,5,6,7,22] (tJ (tK 8 [0,2,5,6] (tK 9 [0,2,5,6] bS1)) (tC 8001 c33 fun x15 => tK 10 [0,2,5,6,7,28] (tJ (tCu 9001 fun x17 _ => tC 9002 c73 fun x18 => tK 11 [0,2,5,6,8,9,10] (tK 12 [0,2,5,6,8,9,39] (tJ (tK 13 [2,3,4] tR) (tK 0 [0,2,5,6,8,9] (tK 14 [0,2,5,6,9] (tK 15 [0,2,5,6] bS1)))))) (tC 14001 c33 fun x20 => tK 16 [0,2,5,6,7,47] (tJ (tC 15001 c72 fun x22 => tK 17 [0,2,5,6,7,11] (tCu 16002 fun x23 _ => tK 18 [0,2,5,6,11] (tC 17002 c74 fun x24 => tK 19 [0,2,5,6,11,58] (tJ (tK 20 [2,3,4] tR) (tK 0 [0,2,5,6,11] (tK 21 [0,2,5,6] bS1)))))) (tK 6 [2,3,4] tR))))))) Tryz.func28 (fun _ _ => rfl)
def bW2 {i out x21 p23} : TP (al4 i out x21 p23) :=
 tJ (tE (tF (q := .tup [.usl (some 3) (List.map zE1 ([] : List aa0)),.int .i64 i,.int .i64 p23]) (.tup [.nilsl,.int .i64 i,.int .i64 p23]) .nil (.tup (.cons (.nilUsl _) (.r (.r .nil)))))) (tA1 11003 zE1 fun x25 => tK 1 [0,5,6] tR)
def t7L15 {s_ i out} : TP (al5 s_ i out) :=
 tJ (tSa 4002 fun c17 _ => tC 4003 c27 fun x18 => tJ (tK 1 [0,5,6] tR) (tCu 6002 fun x20 _ => tC 6003 c28 fun x21 => tK 9 [0,5,6,7,8,9,29] (tJ (tB 8002 (fun x27 => .call [] [.sl (some 3) (List.map zE1 out),zE1 x21.1] (.int .i64 x27) true) (fun _ hx27 => (kc (show LesA [.sl (some 3) (List.take (List.map zE1 out).length (List.drop 0 (List.map zE1 out))),zE1 x21.1] [.sl (some 3) (List.map zE1 out),zE1 x21.1] from (.cons .td (.r .nil))) (kc (c29 _ hx27) (kc (le0 (List.map zE1 out)) .nil)))) fun x27 _ => tK 10 [0,5,6,7,8,9] bW2) (tK 0 [0,5,6,7,8,9] bW2)))) (tE (tF (.tup [.usl (some 3) (List.take (List.map zE1 out).length (List.map zE1 out)),.int .i64 0,.int .i64 0]) (kc (le1 (List.map zE1 out)) .nil) (.tup (.cons .tk (.r (.r .nil))))))
def t7 {s_} : TP (aw6 s_) :=
 tK 3 [0,5] (tW ({ tm := [(0,.pv (.str s_)),(5,.pv (.nilsl))],hp := [],nx := 0 }) ({ tm := [(0,.pv (.str s_)),(5,.osl 0 0 (List.map zE1 ([] : List aa0)).length)],hp := [(0,some (.p (some 3) (List.map zE1 ([] : List aa0))))],nx := 1 }) ((Sub.keep (ks := [0,5]) (st := bm3 5 (some 3) ({ tm := [(0,.pv (.str s_)),(5,.pv (.nilsl))],hp := [],nx := 0 })) (st' := { tm := [(0,.pv (.str s_)),(5,.osl 0 0 (List.map zE1 ([] : List aa0)).length)],hp := [(0,some (.p (some 3) (List.map zE1 ([] : List aa0))))],nx := 1 }) (by kernel_rfl)).trans (aR1 5 (some 3) ({ tm := [(0,.pv (.str s_)),(5,.pv (.nilsl))],hp := [],nx := 0 }))) (tK 1 [0,5,6] (tL (fun st_ (s : (Int × (List aa0))) => am4 [(5,oL 0 zE1 s.2),(6,pI s.1)] [(0,rL (some 3) zE1 s.2)] st_) fun _ => t7L15)))
theorem c7 {s_} : CP 7 [.str s_] (fun r => .tup [.usl (some 3) (List.map zE1 r.1),.int .i64 r.2.1,.int .i64 r.2.2]) true (aw6 s_) :=
 okE t7 Tryz.func7 (fun _ _ => bT0 (.cons (aN0 (sh := (some 3)) (fun _ => rfl)) (.cons rfl (.cons rfl .nil))))
def t3A41 {a v23 size_1} : TP (al8 a v23 size_1) :=
 tA 13003 aa1 fun x36 _ => tN 13005 zE1 x36 (tP1 13008 74 [1,3,29,30,74] (.node 13008 71 (decide (40 < (List.length x36 : Int))) (.leaf true) (.leaf (decide (60000 < size_1)))) (tJ (tC 14000 c4 fun x40 => tR) (tK 1 [1,3,29,30] tR)))
def t3L32 {a v23 x26 size_1 v31} : TP (ae6 a v23 x26 size_1 v31) :=
 tJ (tA 10003 aa1 fun x34 _ => tA 10006 zE1 fun x35 _ => tK 1 [1,3,4,29,30,38,39] tR) (tD t3A41)
def bW3 {s_ v91 k} : TP (ak6 s_ v91 k) :=
 tCu 38003 fun x133 _ => tK 1 [1,8,91,92] tR
def bW4 {s_ v91 k x110 v124} : TP (ae1 s_ v91 k x110 v124) :=
 tJ (tAl 35002 35004 zE1 fun x127 _ => tQ1 35007 160 [1,8,11,12,91,92,142,143,160] (tT 35007 152 tR (tAl 35009 35011 zE1 fun x129 _ => tSa 35012 fun c130 _ => tR)) fun t131 => tJ tR (tK 1 [1,8,11,12,91,92,142,143] tR)) (tD bW3)
def bW5 {a s_ v91 k} : TP (ak7 a s_ v91 k) :=
 tQ1 27005 119 [1,8,10,11,91,92,119] (tT 27005 111 tR (tT 27009 115 tR (tCu 27010 fun x106 _ => tR))) fun t107 => tJ tR (tCu 29002 fun x109 _ => tC 29003 c7 fun x110 => tQ1 30003 140 [1,8,11,12,91,92,140] (tT 30003 130 tR (tA 30007 aa1 fun x112 _ => tC 30009 c9 fun x113 => tB 30010 (fun x114 => .call [] [.sl (some 3) (List.map zE1 x110.1),.sl (some 3) (List.map zE1 x113)] (.bool x114) true) (fun _ hx114 => (kc (show LesA [.sl (some 3) (List.take (List.map zE1 x110.1).length (List.drop 0 (List.map zE1 x110.1))),.sl (some 3) (List.take (List.map zE1 x113).length (List.drop 0 (List.map zE1 x113)))] [.sl (some 3) (List.map zE1 x110.1),.sl (some 3) (List.map zE1 x113)] from (.cons .td (.cons .td .nil))) (kc (c8 _ hx114) (kc (le0 (List.map zE1 x110.1)) (kc (le0 (List.map zE1 x113)) .nil))))) fun x114 _ => tR)) fun t115 => tJ tR (tN 32001 zE1 x110.1 (tK 1 [1,8,11,12,91,92,142,143] (tL (fun st_ (s : Int) => am4 [(143,pI s)] [] st_) fun _ => bW4))))
def t3L99 {a s_ v91 k} : TP (ae7 a s_ v91 k) :=
 tQ1 25005 104 [1,8,10,11,91,92,104] (tT 25005 99 (tSa 25007 fun c101 _ => tR) tR) fun t102 => tJ (tK 1 [1,8,10,11,91,92] tR) (tD bW5)
def bW6 {s_} : TP (ak8 s_) :=
 tQ1 40003 2 [2] (tT 40003 169 (tC 40003 c4 fun x137 => tR) tR) fun t138 => tR
def t3L92 {a s_ v91} : TP (ae8 a s_ v91) :=
 tJ (tK 1 [1,8,10,11,91,92] (tL (fun st_ (s : Int) => am4 [(11,pI s)] [] st_) fun _ => t3L99)) (tD bW6)
def bW7 {a} : TP (ah2 a) :=
 tC 16001 c5 fun x42 => tJ (tC 17000 c4 fun x44 => tR) (tC 18001 c6 fun x45 => tJ tR (tN 21002 aa1 a.Keys (tK 1 [1,8,91,92] (tL (fun st_ (s : (Str × Int)) => am4 [(8,pS s.1),(92,pI s.2)] [] st_) fun _ => t3L92))))
def t3L24 {a size v23} : TP (ae9 a size v23) :=
 tJ (tA 7003 aa1 fun x26 _ => tN 7005 zE1 x26 (tK 1 [1,3,4,29,30,38,39] (tL (fun st_ (s : (Int × Int)) => am4 [(3,pI s.1),(39,pI s.2)] [] st_) fun _ => t3L32))) (tD bW7)
def t3 {a} : TP (an7 a) :=
 tN 1002 aa1 a.Keys (tP1 1005 25 [1,25] (.node 1005 20 (decide (70 < (List.length a.Keys : Int))) (.leaf true) (nLb 1007 zE2 a.Convs (.leaf (decide (40 < (List.length a.Convs : Int)))))) (tJ (tC 2000 c4 fun x4 => tR) (tN 4002 aa1 a.Keys (tK 1 [1,3,29,30] (tL (fun st_ (s : (Int × Int)) => am4 [(3,pI s.1),(30,pI s.2)] [] st_) fun _ => t3L24)))))
theorem c3 {a} : CP 3 [zE3 a] (fun r => .bool r) true (an7 a) :=
 okE t3 Tryz.func3 (fun _ _ => rfl)
end
end Go.Proofs.YtkcnhmohphapfaaGreatDoor
