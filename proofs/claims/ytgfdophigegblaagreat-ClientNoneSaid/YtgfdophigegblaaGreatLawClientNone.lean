/- The law ClientNone answers true at every input, and leaves its arguments as they were. No condition of its own. -/
import Derived.Test.YtgfdophigegblaaGreatRows
import Derived.Test.YtgfdophigegblaaGreatE35
import Derived.ProofKit
set_option linter.unusedVariables false
namespace Go.Proofs.YtgfdophigegblaaGreat.lawClientNone
open Go Go.Ev Go.ChangeShapes Go.WideShapes Go.ChangeAt Go.RowKit

theorem own : ownKnob Tryz.prog.godebug = none := by kernel_rfl
noncomputable def env0 : Env := ⟨Tryz.prog, fun f => bif Nat.beq f 86 then some (.indexByte) else bif Nat.beq f 102 then some (.addI .i32) else bif Nat.beq f 97 then some (.casI .i32) else bif Nat.beq f 88 then some (.loadI .u32) else bif Nat.beq f 94 then some (.storeT) else bif Nat.beq f 98 then some (.raceOn) else bif Nat.beq f 96 then some (.raceOff) else bif Nat.beq f 99 then some (.raceAcq) else bif Nat.beq f 101 then some (.raceRel) else none, fun f => false, fun f => false, fun _ _ _ => none, fun _ _ => none, fun _ _ => none⟩
theorem names : (Tryz.prog.funcs.toList.all fun fn => !(fn.name == "runtime.NumGoroutine")) = true := by kernel_rfl
theorem ext86 : ∃ fn : Func, Tryz.prog.funcs[86]? = some fn ∧ fn.body = none ∧ Extern.findNext fn = none ∧ Extern.find fn = some (Ext.indexByte).model :=
  ⟨_, Tryz.func86, by kernel_rfl, by kernel_rfl, by kernel_rfl⟩
theorem ext102 : ∃ fn : Func, Tryz.prog.funcs[102]? = some fn ∧ fn.body = none ∧ Extern.findNext fn = none ∧ Extern.find fn = some ((Ext.addI .i32)).model :=
  ⟨_, Tryz.func102, by kernel_rfl, by kernel_rfl, by kernel_rfl⟩
theorem ext97 : ∃ fn : Func, Tryz.prog.funcs[97]? = some fn ∧ fn.body = none ∧ Extern.findNext fn = none ∧ Extern.find fn = some ((Ext.casI .i32)).model :=
  ⟨_, Tryz.func97, by kernel_rfl, by kernel_rfl, by kernel_rfl⟩
theorem ext88 : ∃ fn : Func, Tryz.prog.funcs[88]? = some fn ∧ fn.body = none ∧ Extern.findNext fn = none ∧ Extern.find fn = some ((Ext.loadI .u32)).model :=
  ⟨_, Tryz.func88, by kernel_rfl, by kernel_rfl, by kernel_rfl⟩
theorem ext94 : ∃ fn : Func, Tryz.prog.funcs[94]? = some fn ∧ fn.body = none ∧ Extern.findNext fn = none ∧ Extern.find fn = some (Ext.storeT).model :=
  ⟨_, Tryz.func94, by kernel_rfl, by kernel_rfl, by kernel_rfl⟩
theorem ext98 : ∃ fn : Func, Tryz.prog.funcs[98]? = some fn ∧ fn.body = none ∧ Extern.findNext fn = none ∧ Extern.find fn = some (Ext.raceOn).model :=
  ⟨_, Tryz.func98, by kernel_rfl, by kernel_rfl, by kernel_rfl⟩
theorem ext96 : ∃ fn : Func, Tryz.prog.funcs[96]? = some fn ∧ fn.body = none ∧ Extern.findNext fn = none ∧ Extern.find fn = some (Ext.raceOff).model :=
  ⟨_, Tryz.func96, by kernel_rfl, by kernel_rfl, by kernel_rfl⟩
theorem ext99 : ∃ fn : Func, Tryz.prog.funcs[99]? = some fn ∧ fn.body = none ∧ Extern.findNext fn = none ∧ Extern.find fn = some (Ext.raceAcq).model :=
  ⟨_, Tryz.func99, by kernel_rfl, by kernel_rfl, by kernel_rfl⟩
theorem ext101 : ∃ fn : Func, Tryz.prog.funcs[101]? = some fn ∧ fn.body = none ∧ Extern.findNext fn = none ∧ Extern.find fn = some (Ext.raceRel).model :=
  ⟨_, Tryz.func101, by kernel_rfl, by kernel_rfl, by kernel_rfl⟩
theorem env0_ok (ω : Opq) (hω : ∀ t, ω.fix t = fixT Tryz.prog t) : env0.Ok ω := by
  refine ⟨hω, fun f fn h => ?_, fun f e h => ?_, fun _ _ _ _ h => (by cases h), fun _ _ _ h => (by cases h), fun _ _ _ h => (by cases h), fun _ _ _ _ _ h => (by cases h)⟩
  · have h1 := List.all_eq_true.1 names fn (by
      obtain ⟨h2, rfl⟩ := Array.getElem?_eq_some_iff.1 h
      exact Array.mem_toList_iff.2 (Array.getElem_mem h2))
    simpa using h1
  · have h : (bif Nat.beq f 86 then some (.indexByte) else bif Nat.beq f 102 then some (.addI .i32) else bif Nat.beq f 97 then some (.casI .i32) else bif Nat.beq f 88 then some (.loadI .u32) else bif Nat.beq f 94 then some (.storeT) else bif Nat.beq f 98 then some (.raceOn) else bif Nat.beq f 96 then some (.raceOff) else bif Nat.beq f 99 then some (.raceAcq) else bif Nat.beq f 101 then some (.raceRel) else none : Option Ext) = some e := h
    cases hf86 : Nat.beq f 86 with
    | true =>
      rw [hf86] at h
      obtain rfl : f = 86 := by simpa using hf86
      cases h
      exact ext86
    | false =>
      rw [hf86] at h
      simp only [cond_false] at h
      cases hf102 : Nat.beq f 102 with
      | true =>
        rw [hf102] at h
        obtain rfl : f = 102 := by simpa using hf102
        cases h
        exact ext102
      | false =>
        rw [hf102] at h
        simp only [cond_false] at h
        cases hf97 : Nat.beq f 97 with
        | true =>
          rw [hf97] at h
          obtain rfl : f = 97 := by simpa using hf97
          cases h
          exact ext97
        | false =>
          rw [hf97] at h
          simp only [cond_false] at h
          cases hf88 : Nat.beq f 88 with
          | true =>
            rw [hf88] at h
            obtain rfl : f = 88 := by simpa using hf88
            cases h
            exact ext88
          | false =>
            rw [hf88] at h
            simp only [cond_false] at h
            cases hf94 : Nat.beq f 94 with
            | true =>
              rw [hf94] at h
              obtain rfl : f = 94 := by simpa using hf94
              cases h
              exact ext94
            | false =>
              rw [hf94] at h
              simp only [cond_false] at h
              cases hf98 : Nat.beq f 98 with
              | true =>
                rw [hf98] at h
                obtain rfl : f = 98 := by simpa using hf98
                cases h
                exact ext98
              | false =>
                rw [hf98] at h
                simp only [cond_false] at h
                cases hf96 : Nat.beq f 96 with
                | true =>
                  rw [hf96] at h
                  obtain rfl : f = 96 := by simpa using hf96
                  cases h
                  exact ext96
                | false =>
                  rw [hf96] at h
                  simp only [cond_false] at h
                  cases hf99 : Nat.beq f 99 with
                  | true =>
                    rw [hf99] at h
                    obtain rfl : f = 99 := by simpa using hf99
                    cases h
                    exact ext99
                  | false =>
                    rw [hf99] at h
                    simp only [cond_false] at h
                    cases hf101 : Nat.beq f 101 with
                    | true =>
                      rw [hf101] at h
                      obtain rfl : f = 101 := by simpa using hf101
                      cases h
                      exact ext101
                    | false =>
                      rw [hf101] at h
                      simp only [cond_false] at h
                      cases h
def rowA : List AV := [.int .u32 0, .int .i32 1, .int .u32 0, .int .u32 0, .int .u32 0, .int .u32 0, .int .u32 0, .int .u32 0, .int .u32 0, .int .u32 0, .int .u32 0, .int .u32 0, .int .u32 0, .int .u32 0, .int .u32 0, .int .u32 0, .int .u32 0, .int .u32 0, .int .u32 0, .int .u32 0, .int .u32 0, .int .u32 0, .int .u32 0, .int .u32 0, .int .u32 0, .int .u32 0, .int .u32 0, .int .u32 0, .int .u32 0, .int .u32 0, .int .u32 0, .int .u32 0, .int .u32 0, .int .u32 0, .int .u32 0, .int .u32 0, .int .u32 0, .int .u32 0, .int .u32 0, .int .u32 0, .int .u32 0, .int .u32 0, .int .u32 0, .int .u32 0, .int .u32 0, .int .u32 0, .int .u32 0, .int .u32 0, .int .u32 0, .int .u32 0, .int .u32 0, .int .u32 0, .int .u32 0, .int .u32 0, .int .u32 0, .int .u32 0, .int .u32 0, .int .u32 0, .int .u32 0, .int .u32 0, .int .u32 0, .int .u32 0, .int .u32 0, .int .u32 0, .int .u32 0, .int .u32 0, .int .u32 0, .int .u32 0, .int .u32 0, .int .u32 0, .int .u32 0, .int .u32 0, .int .u32 0, .int .u32 0, .int .u32 0, .int .u32 0, .int .u32 0, .int .u32 0, .int .u32 0, .int .u32 0, .int .u32 0, .int .u32 0, .int .u32 0, .int .u32 0, .int .u32 0, .int .u32 0, .int .u32 0, .int .u32 0, .int .u32 0, .int .u32 0, .int .u32 0, .int .u32 0, .int .u32 0, .int .u32 0, .int .u32 0, .int .u32 0, .int .u32 0, .int .u32 0, .int .u32 0, .int .u32 0, .int .u32 0, .int .u32 0, .int .u32 0, .int .u32 0, .int .u32 0, .int .u32 0, .int .u32 0, .int .u32 0, .int .u32 0, .int .u32 0, .int .u32 0, .int .u32 0, .int .u32 0, .int .u32 0, .int .u32 0, .int .u32 0, .int .u32 0, .int .u32 0, .int .u32 0, .int .u32 0, .int .u32 0, .int .u32 0, .int .u32 0, .int .u32 0, .int .u32 0, .int .u32 0, .int .u32 0, .int .u32 0, .int .u32 0, .int .u32 0, .int .u32 0, .int .u32 0, .int .u32 0, .int .u32 0, .int .u32 0, .int .u32 0, .int .u32 0, .int .u32 0, .int .u32 0, .int .u32 0, .int .u32 0, .int .u32 0, .int .u32 0, .int .u32 0, .int .u32 0, .int .u32 0, .int .u32 0, .int .u32 0, .int .u32 0, .int .u32 0, .int .u32 0, .int .u32 0, .int .u32 0, .int .u32 0, .int .u32 0, .int .u32 0, .int .u32 0, .int .u32 0, .int .u32 0, .int .u32 0, .int .u32 0, .int .u32 0, .int .u32 0, .int .u32 0, .int .u32 0, .int .u32 0, .int .u32 0, .int .u32 0, .int .u32 0, .int .u32 0, .int .u32 0, .int .u32 0, .int .u32 0, .int .u32 0, .int .u32 0, .int .u32 0, .int .u32 0, .int .u32 0, .int .u32 0, .int .u32 0, .int .u32 0, .int .u32 0, .int .u32 0, .int .u32 0, .int .u32 0, .int .u32 0, .int .u32 0, .int .u32 0, .int .u32 0, .int .u32 0, .int .u32 0, .int .u32 0, .int .u32 0, .int .u32 0, .int .u32 0, .int .u32 0, .int .u32 0, .int .u32 0, .int .u32 0, .int .u32 0, .int .u32 0, .int .u32 0, .int .u32 0, .int .u32 0, .int .u32 0, .int .u32 0, .int .u32 0, .int .u32 0, .int .u32 0, .int .u32 0, .int .u32 0, .int .u32 0, .int .u32 0, .int .u32 0, .int .u32 0, .int .u32 0, .int .u32 0, .int .u32 0, .int .u32 0, .int .u32 0, .int .u32 0, .int .u32 0, .int .u32 0, .int .u32 0, .int .u32 0, .int .u32 0, .int .u32 0, .int .u32 0, .int .u32 0, .int .u32 0, .int .u32 0, .int .u32 0, .int .u32 0, .int .u32 0, .int .u32 0, .int .u32 0, .int .u32 0, .int .u32 0, .int .u32 0, .int .u32 0, .int .u32 0, .int .u32 0, .int .u32 0, .int .u32 0, .int .u32 0, .int .u32 0, .int .u32 0, .int .u32 0, .int .u32 0, .int .u32 0, .int .u32 0, .int .u32 0, .int .u32 0, .int .u32 0, .int .u32 0, .int .u32 0, .int .u32 0, .int .u32 0, .int .u32 0]
def rowB : List AV := [.int .u32 0, .int .i32 1, .int .u32 0, .int .u32 0, .int .u32 1996959894, .int .u32 3993919788, .int .u32 2567524794, .int .u32 124634137, .int .u32 1886057615, .int .u32 3915621685, .int .u32 2657392035, .int .u32 249268274, .int .u32 2044508324, .int .u32 3772115230, .int .u32 2547177864, .int .u32 162941995, .int .u32 2125561021, .int .u32 3887607047, .int .u32 2428444049, .int .u32 498536548, .int .u32 1789927666, .int .u32 4089016648, .int .u32 2227061214, .int .u32 450548861, .int .u32 1843258603, .int .u32 4107580753, .int .u32 2211677639, .int .u32 325883990, .int .u32 1684777152, .int .u32 4251122042, .int .u32 2321926636, .int .u32 335633487, .int .u32 1661365465, .int .u32 4195302755, .int .u32 2366115317, .int .u32 997073096, .int .u32 1281953886, .int .u32 3579855332, .int .u32 2724688242, .int .u32 1006888145, .int .u32 1258607687, .int .u32 3524101629, .int .u32 2768942443, .int .u32 901097722, .int .u32 1119000684, .int .u32 3686517206, .int .u32 2898065728, .int .u32 853044451, .int .u32 1172266101, .int .u32 3705015759, .int .u32 2882616665, .int .u32 651767980, .int .u32 1373503546, .int .u32 3369554304, .int .u32 3218104598, .int .u32 565507253, .int .u32 1454621731, .int .u32 3485111705, .int .u32 3099436303, .int .u32 671266974, .int .u32 1594198024, .int .u32 3322730930, .int .u32 2970347812, .int .u32 795835527, .int .u32 1483230225, .int .u32 3244367275, .int .u32 3060149565, .int .u32 1994146192, .int .u32 31158534, .int .u32 2563907772, .int .u32 4023717930, .int .u32 1907459465, .int .u32 112637215, .int .u32 2680153253, .int .u32 3904427059, .int .u32 2013776290, .int .u32 251722036, .int .u32 2517215374, .int .u32 3775830040, .int .u32 2137656763, .int .u32 141376813, .int .u32 2439277719, .int .u32 3865271297, .int .u32 1802195444, .int .u32 476864866, .int .u32 2238001368, .int .u32 4066508878, .int .u32 1812370925, .int .u32 453092731, .int .u32 2181625025, .int .u32 4111451223, .int .u32 1706088902, .int .u32 314042704, .int .u32 2344532202, .int .u32 4240017532, .int .u32 1658658271, .int .u32 366619977, .int .u32 2362670323, .int .u32 4224994405, .int .u32 1303535960, .int .u32 984961486, .int .u32 2747007092, .int .u32 3569037538, .int .u32 1256170817, .int .u32 1037604311, .int .u32 2765210733, .int .u32 3554079995, .int .u32 1131014506, .int .u32 879679996, .int .u32 2909243462, .int .u32 3663771856, .int .u32 1141124467, .int .u32 855842277, .int .u32 2852801631, .int .u32 3708648649, .int .u32 1342533948, .int .u32 654459306, .int .u32 3188396048, .int .u32 3373015174, .int .u32 1466479909, .int .u32 544179635, .int .u32 3110523913, .int .u32 3462522015, .int .u32 1591671054, .int .u32 702138776, .int .u32 2966460450, .int .u32 3352799412, .int .u32 1504918807, .int .u32 783551873, .int .u32 3082640443, .int .u32 3233442989, .int .u32 3988292384, .int .u32 2596254646, .int .u32 62317068, .int .u32 1957810842, .int .u32 3939845945, .int .u32 2647816111, .int .u32 81470997, .int .u32 1943803523, .int .u32 3814918930, .int .u32 2489596804, .int .u32 225274430, .int .u32 2053790376, .int .u32 3826175755, .int .u32 2466906013, .int .u32 167816743, .int .u32 2097651377, .int .u32 4027552580, .int .u32 2265490386, .int .u32 503444072, .int .u32 1762050814, .int .u32 4150417245, .int .u32 2154129355, .int .u32 426522225, .int .u32 1852507879, .int .u32 4275313526, .int .u32 2312317920, .int .u32 282753626, .int .u32 1742555852, .int .u32 4189708143, .int .u32 2394877945, .int .u32 397917763, .int .u32 1622183637, .int .u32 3604390888, .int .u32 2714866558, .int .u32 953729732, .int .u32 1340076626, .int .u32 3518719985, .int .u32 2797360999, .int .u32 1068828381, .int .u32 1219638859, .int .u32 3624741850, .int .u32 2936675148, .int .u32 906185462, .int .u32 1090812512, .int .u32 3747672003, .int .u32 2825379669, .int .u32 829329135, .int .u32 1181335161, .int .u32 3412177804, .int .u32 3160834842, .int .u32 628085408, .int .u32 1382605366, .int .u32 3423369109, .int .u32 3138078467, .int .u32 570562233, .int .u32 1426400815, .int .u32 3317316542, .int .u32 2998733608, .int .u32 733239954, .int .u32 1555261956, .int .u32 3268935591, .int .u32 3050360625, .int .u32 752459403, .int .u32 1541320221, .int .u32 2607071920, .int .u32 3965973030, .int .u32 1969922972, .int .u32 40735498, .int .u32 2617837225, .int .u32 3943577151, .int .u32 1913087877, .int .u32 83908371, .int .u32 2512341634, .int .u32 3803740692, .int .u32 2075208622, .int .u32 213261112, .int .u32 2463272603, .int .u32 3855990285, .int .u32 2094854071, .int .u32 198958881, .int .u32 2262029012, .int .u32 4057260610, .int .u32 1759359992, .int .u32 534414190, .int .u32 2176718541, .int .u32 4139329115, .int .u32 1873836001, .int .u32 414664567, .int .u32 2282248934, .int .u32 4279200368, .int .u32 1711684554, .int .u32 285281116, .int .u32 2405801727, .int .u32 4167216745, .int .u32 1634467795, .int .u32 376229701, .int .u32 2685067896, .int .u32 3608007406, .int .u32 1308918612, .int .u32 956543938, .int .u32 2808555105, .int .u32 3495958263, .int .u32 1231636301, .int .u32 1047427035, .int .u32 2932959818, .int .u32 3654703836, .int .u32 1088359270, .int .u32 936918000, .int .u32 2847714899, .int .u32 3736837829, .int .u32 1202900863, .int .u32 817233897, .int .u32 3183342108, .int .u32 3401237130, .int .u32 1404277552, .int .u32 615818150, .int .u32 3134207493, .int .u32 3453421203, .int .u32 1423857449, .int .u32 601450431, .int .u32 3009837614, .int .u32 3294710456, .int .u32 1567103746, .int .u32 711928724, .int .u32 3020668471, .int .u32 3272380065, .int .u32 1510334235, .int .u32 755167117]
noncomputable def env : Env := { env0 with hook := fun f args h => bif Nat.beq f 79 then rowHook 162 175 rowA rowB args h else none }
theorem env_ok (ω : Opq) (hω : ∀ t, ω.fix t = fixT Tryz.prog t) : env.Ok ω :=
  let h := env0_ok ω hω
  ⟨h.fix, h.name, h.ext, h.bin, h.un, h.conv, h.blt⟩
theorem orders : Tryz.prog.follows .mixedOrders = true := by kernel_rfl
theorem hook0_ok (ω : Opq) : HookOk env0 ω := fun _ _ _ _ _ h => by cases h
theorem ranC : ev env0 1000000 Bool boolAlg (.body 79 [.ptr 0 0] (rowH 162 175 rowA) (kRow 175 rowB)) = true := by kernel_rfl
theorem plainA : rowA.all Go.Ev.plainCell = true := by kernel_rfl
theorem plainB : rowB.all Go.Ev.plainCell = true := by kernel_rfl
set_option maxRecDepth 100000 in
theorem hook_ok (ω : Opq) (hω : ∀ t, ω.fix t = fixT Tryz.prog t) : HookOk env ω := by
  intro f args h v h' e K w0 β w us r ra
  have e : (bif Nat.beq f 79 then rowHook 162 175 rowA rowB args h else none) = some (v, h') := e
  cases hc : Nat.beq f 79 with
  | false => rw [hc] at e; cases e
  | true =>
    rw [hc] at e
    obtain rfl : f = 79 := by simpa using hc
    exact rowCall (E := env0) plainA plainB (run_ok (E := env0) (Ω := fun ω => ∀ t, ω.fix t = fixT Tryz.prog t) (fun _ _ _ h => h) env0_ok (fun ω _ => hook0_ok ω) orders 1000000 ω hω).2.1 ranC r e ra
theorem ran : runTrue env 1000000 3 (argsOf Tryz.prog [22, 29] 0) = true := by kernel_rfl
set_option maxRecDepth 100000 in
theorem walk (us : List Value) (w W : World) (r : Reach) (b0 : Nat) (hl : ([22, 29] : List TypeId).length = us.length) (h : ∀ (j : Nat) t v, ([22, 29] : List TypeId)[j]? = some t → us[j]? = some v → Value.okWide Tryz.prog w r b0 t v) :
    Calls Tryz.prog 3 us.toArray W fun e w' => e = .returned (.bool true) ∧ Below W.heap.size W w' := by
  obtain ⟨xs, hx⟩ := argsOf_ok (P := Tryz.prog) (ts := [22, 29]) (vs := us) (w := w) (r := r) (b0 := b0) hl h []
  exact runTrue_ok (E := env) env_ok hook_ok (fun _ => rfl) orders ran W (hx _ [])
theorem laid : laidOutB Tryz.prog = true := by kernel_rfl

set_option maxRecDepth 100000 in
theorem lifted (os : Os) (started : os.Started) (H : Type) (enc : TypeId × Value → H) :
    ReturnsInHanded {} Tryz.checked os 3 .any (Rows.clientNoneSpec.pre6 enc Tryz.prog Tryz.f3 Rows.clientNoneRow.domain false) (Rows.clientNoneSpec.post enc Tryz.prog Tryz.f3 false true false false) := by
  refine returnsInHanded_of_change (C := Tryz.checked) own started (by kernel_rfl) Tryz.func3
    (ChangeSpec.witness6 (enc := enc) (C := Tryz.checked) false ⟨#[], #[.slice none 0 0, .agg #[.int .u8 0, .int .u32 0, .int .u16 0, .bool false, .int .u64 0, .int .u64 0, .int .u64 0, .int .u64 0, .int .u64 0, .int .u64 0, .slice none 0 0, .slice none 0 0]], []⟩ 8 (by kernel_rfl) (by kernel_rfl) (by kernel_rfl) (by kernel_rfl)) ?_
  intro W base args ds gs before hval0 hW hcnd _
  have hval : ∀ (j : Nat) t v, Tryz.f3.params[j]? = some t → args[j]? = some v → Value.okWide Tryz.prog W .any base t v := hval0
  have hW' := hW
  obtain ⟨p, q, hA0, hV, rfl, hfz, hnd⟩ := hW
  have hA : DataW.TrodAll enc Tryz.prog W 0 (fun _ => true) true Tryz.f3.params.toList args.toList ds p := hA0
  obtain ⟨rfl, rfl⟩ := trodVars_none hV
  rw [Tryz.params3] at hA hval
  have hlen := (trodAll_length hA).1
  refine (walk args.toList W W .any base hlen (fun j t v h1 h2 => hval j t v (by simpa using h1) (by simpa using h2))).mono fun e W' ⟨he, hb⟩ => ?_
  subst he
  obtain ⟨v0, vs0, d0, ds0, p0, q0, e0, rfl, rfl, h0, r0⟩ := trodAll_cons hA
  obtain ⟨v1, vs1, d1, ds1, p1, q1, e1, rfl, rfl, h1, r1⟩ := trodAll_cons r0
  obtain ⟨e2, rfl, rfl⟩ := trodAll_nil r1
  exact ⟨_, rfl, post_law hW' rfl rfl laid (by rw [Tryz.params3]; kernel_rfl) hb Tryz.underlying4 (by kernel_rfl)⟩

theorem over : Rows.clientNoneRow.holds Tryz.pinned (OpenSpec.ofChange Rows.clientNoneSpec) :=
  OpenClaim.holds_of_wide 3 Tryz.f3 rfl rfl rfl rfl rfl rfl rfl ⟨rfl, rfl, rfl, rfl, rfl⟩ rfl rfl rfl rfl rfl (by kernel_rfl) Tryz.func3 (by kernel_rfl)
    (of_decide_eq_true (by kernel_rfl)) (by unfold Func.isWrapper; first | (rw [if_pos (by decide +kernel)]; kernel_rfl) | (rw [if_neg (by decide +kernel)]; exact ⟨rfl, rfl⟩))
    (fun os started H enc _ => lifted os started H enc)

/-- The statement. -/
theorem proved : Rows.ClientNoneSaid := over
#print axioms proved
end Go.Proofs.YtgfdophigegblaaGreat.lawClientNone
