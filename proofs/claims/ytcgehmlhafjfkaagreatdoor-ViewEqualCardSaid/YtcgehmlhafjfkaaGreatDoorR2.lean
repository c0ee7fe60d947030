/-
  THE PROGRAM COMPUTES THE PLAIN FUNCTIONS. Printed by a program. An own text.
-/
import Derived.Test.YtcgehmlhafjfkaaGreatDoorR1
set_option maxRecDepth 100000
set_option maxHeartbeats 4000000
namespace Go.Sx.Tz
open Go.Proofs Go.Sx.O
theorem R_lexer_Check {a0 : TLxToken} {r : Int} (h : F_lexer_Check a0 = some r) : Ret E F.lexer_Check [enc_TLxToken a0] (SV.int IntKind.i64 r) := by
  replace h := bindO h
  unfold F_lexer_Check at h
  refine ret_of_fnG (fn := Tryz.f93) (cuts := [0, 1]) ok Tryz.func93 (by kernel_rfl) rfl ?_
  conv => whnf
  refine cutOk (fun (s279 : Bool × Int × List UInt8) => [(15, SV.bool (s279.fst)), (14, (SV.int .i64) (a0.Kind)), (3, SV.ptr ((0 : Nat) + (1 : Nat) + (1 : Nat) + (1 : Nat) + (1 : Nat) + (1 : Nat) + (1 : Nat) + (1 : Nat) + (1 : Nat) + (1 : Nat)) []), (2, (SV.int .i64) ((0 : Int))), (1, SV.ptr (0 : Nat) []), (0, enc_TLxToken (a0))]) (fun (s279 : Bool × Int × List UInt8) => [(9, Blk.var true (enc_TLxToken (TLxToken.mk a0.Kind a0.From a0.To s279.snd.fst s279.snd.snd))), (0, Blk.var true (enc_TLxToken (a0)))]) 10 h (fun s279 h => ?_) (fun K279 hN279 hE279 h => ?_)
  · conv => whnf
    refine brkN h (fun e284 h => ?_) (fun e284 h => ?_)
    · conv => whnf
      obtain rfl := Option.some.inj h
      exact .refl _
    · conv => whnf
      refine brkN h (fun e285 h => ?_) (fun e285 h => ?_)
      · conv => whnf
        obtain rfl := Option.some.inj h
        exact .refl _
      · conv => whnf
        refine brkO h (fun e286 h => ?_) (fun e286 h => ?_)
        · conv => whnf
          obtain rfl := Option.some.inj h
          exact .refl _
        · conv => whnf
          refine cutOk (fun (s287 : Int) => [(4, (SV.int .i64) (s287)), (41, SV.bool (decide (a0.Kind = (1 : Int)))), (40, (SV.int .i64) (a0.Kind)), (38, SV.bool (!(decide (a0.Kind = a0.Kind) && (decide (a0.From = a0.From) && (decide (a0.To = a0.To) && (decide (a0.N = s279.snd.fst) && (decide (a0.S = s279.snd.snd) && true))))))), (15, SV.bool (s279.fst)), (14, (SV.int .i64) (a0.Kind)), (3, SV.ptr ((0 : Nat) + (1 : Nat) + (1 : Nat) + (1 : Nat) + (1 : Nat) + (1 : Nat) + (1 : Nat) + (1 : Nat) + (1 : Nat) + (1 : Nat)) []), (2, (SV.int .i64) ((0 : Int))), (1, SV.ptr (0 : Nat) []), (0, enc_TLxToken (a0))]) (fun (s287 : Int) => [(9, Blk.var true (enc_TLxToken (TLxToken.mk a0.Kind a0.From a0.To s279.snd.fst s279.snd.snd))), (0, Blk.var true (enc_TLxToken (a0)))]) 32 h (fun s287 h => ?_) (fun K287 hN287 hE287 h => ?_)
          · conv => whnf
            refine brkO h (fun e334 h => ?_) (fun e334 h => ?_)
            · conv => whnf
              obtain rfl := Option.some.inj h
              exact .refl _
            · conv => whnf
              obtain rfl := Option.some.inj h
              exact .refl _
          · conv => whnf
            refine brkO h (fun e289 h => ?_) (fun e289 h => ?_)
            · conv => whnf
              refine ⟨?_, trivial⟩
              conv => whnf
              refine ⟨?_, trivial⟩
              conv => whnf
              refine sem_of_semG (fn := Tryz.f109) (cuts := []) ok Tryz.func109 (by kernel_rfl) rfl ?_
              conv => whnf
              refine brkO h (fun e291 h => ?_) (fun e291 h => ?_)
              · conv => whnf
                refine ⟨?_, trivial⟩
                conv => whnf
                refine ⟨?_, trivial⟩
                conv => whnf
                refine ⟨?_, ?_⟩
                · conv => whnf
                  refine ⟨fun e => absurd e (by decide), fun _ => ?_⟩
                  conv => whnf
                  refine ⟨?_, ?_⟩
                  · conv => whnf
                    refine ⟨?_, trivial⟩
                    conv => whnf
                    refine ⟨?_, trivial⟩
                    conv => whnf
                    refine ⟨?_, trivial⟩
                    conv => whnf
                    refine ⟨?_, trivial⟩
                    conv => whnf
                    refine hE287 _ _ _ _ ?_
                    conv => whnf
                    obtain rfl := Option.some.inj h
                    exact .refl _
                  · conv => whnf
                    refine ⟨?_, trivial⟩
                    conv => whnf
                    refine ⟨?_, ?_⟩
                    · conv => whnf
                      refine ⟨?_, trivial⟩
                      conv => whnf
                      refine ⟨?_, trivial⟩
                      conv => whnf
                      refine ⟨?_, trivial⟩
                      conv => whnf
                      refine hE287 _ _ _ _ ?_
                      conv => whnf
                      obtain rfl := Option.some.inj h
                      exact .refl _
                    · conv => whnf
                      refine ⟨?_, trivial⟩
                      conv => whnf
                      refine ⟨?_, trivial⟩
                      conv => whnf
                      refine ⟨?_, trivial⟩
                      conv => whnf
                      refine ⟨?_, trivial⟩
                      conv => whnf
                      refine hE287 _ _ _ _ ?_
                      conv => whnf
                      obtain rfl := Option.some.inj h
                      exact .refl _
                · conv => whnf
                  refine ⟨?_, trivial⟩
                  conv => whnf
                  refine ⟨fun e => absurd e (by decide), fun _ => ?_⟩
                  conv => whnf
                  refine ⟨?_, ?_⟩
                  · conv => whnf
                    refine ⟨?_, ?_⟩
                    · conv => whnf
                      refine ⟨?_, trivial⟩
                      conv => whnf
                      refine ⟨?_, trivial⟩
                      conv => whnf
                      refine ⟨?_, trivial⟩
                      conv => whnf
                      refine hE287 _ _ _ _ ?_
                      conv => whnf
                      obtain rfl := Option.some.inj h
                      exact .refl _
                    · conv => whnf
                      refine ⟨?_, trivial⟩
                      conv => whnf
                      refine ⟨?_, trivial⟩
                      conv => whnf
                      refine ⟨?_, trivial⟩
                      conv => whnf
                      refine ⟨?_, trivial⟩
                      conv => whnf
                      refine hE287 _ _ _ _ ?_
                      conv => whnf
                      obtain rfl := Option.some.inj h
                      exact .refl _
                  · conv => whnf
                    refine ⟨?_, trivial⟩
                    conv => whnf
                    refine ⟨?_, trivial⟩
                    conv => whnf
                    refine ⟨?_, trivial⟩
                    conv => whnf
                    refine ⟨?_, trivial⟩
                    conv => whnf
                    refine ⟨?_, trivial⟩
                    conv => whnf
                    refine hE287 _ _ _ _ ?_
                    conv => whnf
                    obtain rfl := Option.some.inj h
                    exact .refl _
              · conv => whnf
                refine byteOk h fun x292 h => ?_
                conv => whnf
                refine arithO h fun x293 h => ?_
                conv => whnf
                refine callOk (enc := (fun (x : Int × Int) => SV.tup [SV.int IntKind.i64 x.fst, SV.int IntKind.i64 x.snd])) h (fun _ hx => R_runes_Class hx) (fun x294 h => ?_)
                conv => whnf
                refine ⟨?_, trivial⟩
                conv => whnf
                refine ⟨?_, trivial⟩
                conv => whnf
                refine ⟨?_, ?_⟩
                · conv => whnf
                  refine brkN h (fun e295 h => ?_) (fun e295 h => ?_)
                  · conv => whnf
                    refine ⟨?_, ?_⟩
                    · conv => whnf
                      refine ⟨?_, trivial⟩
                      conv => whnf
                      refine ⟨?_, trivial⟩
                      conv => whnf
                      refine ⟨?_, trivial⟩
                      conv => whnf
                      refine ⟨?_, trivial⟩
                      conv => whnf
                      refine hE287 _ _ _ _ ?_
                      conv => whnf
                      obtain rfl := Option.some.inj h
                      exact .refl _
                    · conv => whnf
                      refine ⟨?_, trivial⟩
                      conv => whnf
                      refine ⟨?_, ?_⟩
                      · conv => whnf
                        refine ⟨?_, trivial⟩
                        conv => whnf
                        refine ⟨?_, trivial⟩
                        conv => whnf
                        refine ⟨?_, trivial⟩
                        conv => whnf
                        refine hE287 _ _ _ _ ?_
                        conv => whnf
                        obtain rfl := Option.some.inj h
                        exact .refl _
                      · conv => whnf
                        refine ⟨?_, trivial⟩
                        conv => whnf
                        refine ⟨?_, trivial⟩
                        conv => whnf
                        refine ⟨?_, trivial⟩
                        conv => whnf
                        refine ⟨?_, trivial⟩
                        conv => whnf
                        refine hE287 _ _ _ _ ?_
                        conv => whnf
                        obtain rfl := Option.some.inj h
                        exact .refl _
                  · conv => whnf
                    refine ⟨?_, ?_⟩
                    · conv => whnf
                      refine sem_of_semG (fn := Tryz.f110) (cuts := [0]) ok Tryz.func110 (by kernel_rfl) rfl ?_
                      conv => whnf
                      refine sem_of_semG (fn := Tryz.f109) (cuts := []) ok Tryz.func109 (by kernel_rfl) rfl ?_
                      conv => whnf
                      refine ⟨fun e => absurd (e.symm.trans e291) (by decide), fun _ => ?_⟩
                      conv => whnf
                      refine byteOk h fun x298 h => ?_
                      conv => whnf
                      refine arithO h fun x299 h => ?_
                      conv => whnf
                      refine callOk (enc := (fun (x : Int × Int) => SV.tup [SV.int IntKind.i64 x.fst, SV.int IntKind.i64 x.snd])) h (fun _ hx => R_runes_Class hx) (fun x300 h => ?_)
                      conv => whnf
                      refine cutOk (fun (s301 : Bool × Int × Int) => [(26, SV.bool (s301.fst)), (8, (SV.int .i64) (s301.snd.fst)), (7, (SV.int .i64) ((0 : Int))), (6, SV.str ((ByteArray.mk #[]).data.toList)), (2, (SV.int .i64) ((6 : Int))), (1, (SV.int .i64) ((8 : Int))), (0, SV.ptr ((10 : Nat) + (1 : Nat) + (1 : Nat) + (1 : Nat) + (1 : Nat) + (1 : Nat) + (1 : Nat) + (1 : Nat) + (1 : Nat) + (1 : Nat) + (1 : Nat) + (1 : Nat) + (1 : Nat) + (1 : Nat) + (1 : Nat) + (1 : Nat) + (1 : Nat) + (1 : Nat) + (1 : Nat) + (1 : Nat) + (1 : Nat) + (1 : Nat)) []), (1000051, SV.ptr ((10 : Nat) + (1 : Nat) + (1 : Nat) + (1 : Nat) + (1 : Nat) + (1 : Nat) + (1 : Nat) + (1 : Nat) + (1 : Nat) + (1 : Nat) + (1 : Nat) + (1 : Nat) + (1 : Nat) + (1 : Nat) + (1 : Nat) + (1 : Nat) + (1 : Nat) + (1 : Nat) + (1 : Nat) + (1 : Nat) + (1 : Nat) + (1 : Nat)) []), (1000050, SV.fls), (1000049, SV.bool (!decide (x294.fst = (8 : Int)))), (1000048, (SV.int .i64) (x294.fst)), (1000047, SV.ptr ((10 : Nat) + (1 : Nat) + (1 : Nat) + (1 : Nat) + (1 : Nat) + (1 : Nat) + (1 : Nat) + (1 : Nat) + (1 : Nat) + (1 : Nat) + (1 : Nat) + (1 : Nat) + (1 : Nat) + (1 : Nat) + (1 : Nat) + (1 : Nat) + (1 : Nat) + (1 : Nat) + (1 : Nat) + (1 : Nat) + (1 : Nat) + (1 : Nat)) []), (1000005, SV.ptr ((10 : Nat) + (1 : Nat) + (1 : Nat) + (1 : Nat) + (1 : Nat) + (1 : Nat) + (1 : Nat) + (1 : Nat) + (1 : Nat) + (1 : Nat) + (1 : Nat) + (1 : Nat) + (1 : Nat) + (1 : Nat) + (1 : Nat) + (1 : Nat) + (1 : Nat) + (1 : Nat) + (1 : Nat) + (1 : Nat) + (1 : Nat) + (1 : Nat)) []), (1000046, SV.ptr ((10 : Nat) + (1 : Nat) + (1 : Nat) + (1 : Nat) + (1 : Nat) + (1 : Nat) + (1 : Nat) + (1 : Nat) + (1 : Nat) + (1 : Nat) + (1 : Nat) + (1 : Nat) + (1 : Nat) + (1 : Nat) + (1 : Nat) + (1 : Nat) + (1 : Nat) + (1 : Nat) + (1 : Nat) + (1 : Nat) + (1 : Nat) + (1 : Nat)) []), (1000045, enc_Tlexer_reader (Tlexer_reader.mk a0.S (0 : Int))), (1000044, SV.str (a0.S)), (1000043, SV.ptr (0 : Nat) ([] ++ [Step.fld (4 : Nat) (4 : Nat)])), (1000041, SV.bool (decide (a0.Kind = (1 : Int)))), (1000042, SV.bool (decide (a0.Kind = (1 : Int)))), (1000040, (SV.int .i64) (a0.Kind)), (1000039, SV.ptr (0 : Nat) ([] ++ [Step.fld (0 : Nat) (0 : Nat)])), (1000004, (SV.int .i64) ((0 : Int))), (1000038, SV.bool (!(decide (a0.Kind = a0.Kind) && (decide (a0.From = a0.From) && (decide (a0.To = a0.To) && (decide (a0.N = s279.snd.fst) && (decide (a0.S = s279.snd.snd) && true))))))), (1000037, SV.bool (!(decide (a0.Kind = a0.Kind) && (decide (a0.From = a0.From) && (decide (a0.To = a0.To) && (decide (a0.N = s279.snd.fst) && (decide (a0.S = s279.snd.snd) && true))))))), (1000036, enc_TLxToken (TLxToken.mk a0.Kind a0.From a0.To s279.snd.fst s279.snd.snd)), (1000035, enc_TLxToken (a0)), (1000034, SV.fls), (1000033, SV.bool (decide ((9 : Int) < a0.Kind))), (1000032, SV.bool (decide ((9 : Int) < a0.Kind))), (1000031, (SV.int .i64) (a0.Kind)), (1000030, SV.ptr (0 : Nat) ([] ++ [Step.fld (0 : Nat) (0 : Nat)])), (1000029, SV.fls), (1000028, SV.bool (decide (a0.Kind < (1 : Int)))), (1000027, (SV.int .i64) (a0.Kind)), (1000026, SV.ptr (0 : Nat) ([] ++ [Step.fld (0 : Nat) (0 : Nat)])), (1000015, SV.bool (s279.fst)), (1000014, (SV.int .i64) (a0.Kind)), (1000003, SV.ptr ((0 : Nat) + (1 : Nat) + (1 : Nat) + (1 : Nat) + (1 : Nat) + (1 : Nat) + (1 : Nat) + (1 : Nat) + (1 : Nat) + (1 : Nat)) []), (1000002, (SV.int .i64) ((0 : Int))), (1000001, SV.ptr (0 : Nat) []), (1000000, enc_TLxToken (a0))]) (fun (s301 : Bool × Int × Int) => [(31, Blk.var true (enc_Tlexer_reader (Tlexer_reader.mk a0.S s301.snd.snd))), (9, Blk.var true (enc_TLxToken (TLxToken.mk a0.Kind a0.From a0.To s279.snd.fst s279.snd.snd))), (0, Blk.var true (enc_TLxToken (a0)))]) 32 h (fun s301 h => ?_) (fun K301 hN301 hE301 h => ?_)
                      · conv => whnf
                        refine ⟨by (conv => whnf); trivial, ?_⟩
                        conv => whnf
                        refine sideOk h fun _ h => ?_
                        conv => whnf
                        refine ⟨?_, trivial⟩
                        conv => whnf
                        refine ⟨?_, trivial⟩
                        conv => whnf
                        refine ⟨?_, trivial⟩
                        conv => whnf
                        refine ⟨?_, trivial⟩
                        conv => whnf
                        refine brkO h (fun e330 h => ?_) (fun e330 h => ?_)
                        · conv => whnf
                          refine hE287 _ _ _ _ ?_
                          conv => whnf
                          obtain rfl := Option.some.inj h
                          exact .refl _
                        · conv => whnf
                          exact hN287 ((16 : Int)) h _ _ _ (subX_mk ⟨.refl _, .refl _, .refl _, .refl _, .refl _, .refl _, .refl _, .refl _, .refl _, .refl _, trivial⟩ ⟨.refl, .refl, trivial⟩ rfl rfl rfl)
                      · conv => whnf
                        refine loopOk (fun (s303 : Int × Int) => [(8, (SV.int .i64) (s303.fst)), (7, (SV.int .i64) ((0 : Int))), (6, SV.str ((ByteArray.mk #[]).data.toList)), (2, (SV.int .i64) ((6 : Int))), (1, (SV.int .i64) ((8 : Int))), (0, SV.ptr ((10 : Nat) + (1 : Nat) + (1 : Nat) + (1 : Nat) + (1 : Nat) + (1 : Nat) + (1 : Nat) + (1 : Nat) + (1 : Nat) + (1 : Nat) + (1 : Nat) + (1 : Nat) + (1 : Nat) + (1 : Nat) + (1 : Nat) + (1 : Nat) + (1 : Nat) + (1 : Nat) + (1 : Nat) + (1 : Nat) + (1 : Nat) + (1 : Nat)) []), (1000051, SV.ptr ((10 : Nat) + (1 : Nat) + (1 : Nat) + (1 : Nat) + (1 : Nat) + (1 : Nat) + (1 : Nat) + (1 : Nat) + (1 : Nat) + (1 : Nat) + (1 : Nat) + (1 : Nat) + (1 : Nat) + (1 : Nat) + (1 : Nat) + (1 : Nat) + (1 : Nat) + (1 : Nat) + (1 : Nat) + (1 : Nat) + (1 : Nat) + (1 : Nat)) []), (1000050, SV.fls), (1000049, SV.bool (!decide (x294.fst = (8 : Int)))), (1000048, (SV.int .i64) (x294.fst)), (1000047, SV.ptr ((10 : Nat) + (1 : Nat) + (1 : Nat) + (1 : Nat) + (1 : Nat) + (1 : Nat) + (1 : Nat) + (1 : Nat) + (1 : Nat) + (1 : Nat) + (1 : Nat) + (1 : Nat) + (1 : Nat) + (1 : Nat) + (1 : Nat) + (1 : Nat) + (1 : Nat) + (1 : Nat) + (1 : Nat) + (1 : Nat) + (1 : Nat) + (1 : Nat)) []), (1000005, SV.ptr ((10 : Nat) + (1 : Nat) + (1 : Nat) + (1 : Nat) + (1 : Nat) + (1 : Nat) + (1 : Nat) + (1 : Nat) + (1 : Nat) + (1 : Nat) + (1 : Nat) + (1 : Nat) + (1 : Nat) + (1 : Nat) + (1 : Nat) + (1 : Nat) + (1 : Nat) + (1 : Nat) + (1 : Nat) + (1 : Nat) + (1 : Nat) + (1 : Nat)) []), (1000046, SV.ptr ((10 : Nat) + (1 : Nat) + (1 : Nat) + (1 : Nat) + (1 : Nat) + (1 : Nat) + (1 : Nat) + (1 : Nat) + (1 : Nat) + (1 : Nat) + (1 : Nat) + (1 : Nat) + (1 : Nat) + (1 : Nat) + (1 : Nat) + (1 : Nat) + (1 : Nat) + (1 : Nat) + (1 : Nat) + (1 : Nat) + (1 : Nat) + (1 : Nat)) []), (1000045, enc_Tlexer_reader (Tlexer_reader.mk a0.S (0 : Int))), (1000044, SV.str (a0.S)), (1000043, SV.ptr (0 : Nat) ([] ++ [Step.fld (4 : Nat) (4 : Nat)])), (1000041, SV.bool (decide (a0.Kind = (1 : Int)))), (1000042, SV.bool (decide (a0.Kind = (1 : Int)))), (1000040, (SV.int .i64) (a0.Kind)), (1000039, SV.ptr (0 : Nat) ([] ++ [Step.fld (0 : Nat) (0 : Nat)])), (1000004, (SV.int .i64) ((0 : Int))), (1000038, SV.bool (!(decide (a0.Kind = a0.Kind) && (decide (a0.From = a0.From) && (decide (a0.To = a0.To) && (decide (a0.N = s279.snd.fst) && (decide (a0.S = s279.snd.snd) && true))))))), (1000037, SV.bool (!(decide (a0.Kind = a0.Kind) && (decide (a0.From = a0.From) && (decide (a0.To = a0.To) && (decide (a0.N = s279.snd.fst) && (decide (a0.S = s279.snd.snd) && true))))))), (1000036, enc_TLxToken (TLxToken.mk a0.Kind a0.From a0.To s279.snd.fst s279.snd.snd)), (1000035, enc_TLxToken (a0)), (1000034, SV.fls), (1000033, SV.bool (decide ((9 : Int) < a0.Kind))), (1000032, SV.bool (decide ((9 : Int) < a0.Kind))), (1000031, (SV.int .i64) (a0.Kind)), (1000030, SV.ptr (0 : Nat) ([] ++ [Step.fld (0 : Nat) (0 : Nat)])), (1000029, SV.fls), (1000028, SV.bool (decide (a0.Kind < (1 : Int)))), (1000027, (SV.int .i64) (a0.Kind)), (1000026, SV.ptr (0 : Nat) ([] ++ [Step.fld (0 : Nat) (0 : Nat)])), (1000015, SV.bool (s279.fst)), (1000014, (SV.int .i64) (a0.Kind)), (1000003, SV.ptr ((0 : Nat) + (1 : Nat) + (1 : Nat) + (1 : Nat) + (1 : Nat) + (1 : Nat) + (1 : Nat) + (1 : Nat) + (1 : Nat) + (1 : Nat)) []), (1000002, (SV.int .i64) ((0 : Int))), (1000001, SV.ptr (0 : Nat) []), (1000000, enc_TLxToken (a0))]) (fun (s303 : Int × Int) => [(31, Blk.var true (enc_Tlexer_reader (Tlexer_reader.mk a0.S s303.snd))), (9, Blk.var true (enc_TLxToken (TLxToken.mk a0.Kind a0.From a0.To s279.snd.fst s279.snd.snd))), (0, Blk.var true (enc_TLxToken (a0)))]) 95 h (subX_mk ⟨.refl _, .refl _, .refl _, .refl _, .refl _, .refl _, .refl _, .refl _, .refl _, .refl _, .refl _, .refl _, .refl _, .refl _, .refl _, .refl _, .refl _, .refl _, .refl _, .refl _, .refl _, .refl _, .refl _, .refl _, .refl _, .refl _, .refl _, .refl _, .refl _, .refl _, .refl _, .refl _, .refl _, .refl _, .refl _, .refl _, .refl _, .refl _, .refl _, .refl _, trivial⟩ ⟨.refl, .refl, .refl, trivial⟩ rfl rfl rfl) (fun s303 rc303 C303 hC303 h => ?_)
                        conv => whnf
                        refine brkN h (fun e316 h => ?_) (fun e316 h => ?_)
                        · conv => whnf
                          refine arithO h fun x317 h => ?_
                          conv => whnf
                          refine sem_of_semG (fn := Tryz.f109) (cuts := []) ok Tryz.func109 (by kernel_rfl) rfl ?_
                          conv => whnf
                          refine brkO h (fun e319 h => ?_) (fun e319 h => ?_)
                          · conv => whnf
                            exact hC303 (((10 : Int), x317)) h _ _ _ (subX_mk ⟨.refl _, .refl _, .refl _, .refl _, .refl _, .refl _, .refl _, .refl _, .refl _, .refl _, .refl _, .refl _, .refl _, .refl _, .refl _, .refl _, .refl _, .refl _, .refl _, .refl _, .refl _, .refl _, .refl _, .refl _, .refl _, .refl _, .refl _, .refl _, .refl _, .refl _, .refl _, .refl _, .refl _, .refl _, .refl _, .refl _, .refl _, .refl _, .refl _, .refl _, trivial⟩ ⟨.refl, .refl, .refl, trivial⟩ rfl rfl rfl)
                          · conv => whnf
                            refine byteOk h fun x320 h => ?_
                            conv => whnf
                            refine arithO h fun x321 h => ?_
                            conv => whnf
                            refine callOk (enc := (fun (x : Int × Int) => SV.tup [SV.int IntKind.i64 x.fst, SV.int IntKind.i64 x.snd])) h (fun _ hx => R_runes_Class hx) (fun x322 h => ?_)
                            conv => whnf
                            exact hC303 ((x322.fst, x317)) h _ _ _ (subX_mk ⟨.refl _, .refl _, .refl _, .refl _, .refl _, .refl _, .refl _, .refl _, .refl _, .refl _, .refl _, .refl _, .refl _, .refl _, .refl _, .refl _, .refl _, .refl _, .refl _, .refl _, .refl _, .refl _, .refl _, .refl _, .refl _, .refl _, .refl _, .refl _, .refl _, .refl _, .refl _, .refl _, .refl _, .refl _, .refl _, .refl _, .refl _, .refl _, .refl _, .refl _, trivial⟩ ⟨.refl, .refl, .refl, trivial⟩ rfl rfl rfl)
                        · conv => whnf
                          refine brkO h (fun e323 h => ?_) (fun e323 h => ?_)
                          · conv => whnf
                            refine arithO h fun x324 h => ?_
                            conv => whnf
                            refine sem_of_semG (fn := Tryz.f109) (cuts := []) ok Tryz.func109 (by kernel_rfl) rfl ?_
                            conv => whnf
                            refine brkO h (fun e326 h => ?_) (fun e326 h => ?_)
                            · conv => whnf
                              exact hC303 (((10 : Int), x324)) h _ _ _ (subX_mk ⟨.refl _, .refl _, .refl _, .refl _, .refl _, .refl _, .refl _, .refl _, .refl _, .refl _, .refl _, .refl _, .refl _, .refl _, .refl _, .refl _, .refl _, .refl _, .refl _, .refl _, .refl _, .refl _, .refl _, .refl _, .refl _, .refl _, .refl _, .refl _, .refl _, .refl _, .refl _, .refl _, .refl _, .refl _, .refl _, .refl _, .refl _, .refl _, .refl _, .refl _, trivial⟩ ⟨.refl, .refl, .refl, trivial⟩ rfl rfl rfl)
                            · conv => whnf
                              refine byteOk h fun x327 h => ?_
                              conv => whnf
                              refine arithO h fun x328 h => ?_
                              conv => whnf
                              refine callOk (enc := (fun (x : Int × Int) => SV.tup [SV.int IntKind.i64 x.fst, SV.int IntKind.i64 x.snd])) h (fun _ hx => R_runes_Class hx) (fun x329 h => ?_)
                              conv => whnf
                              exact hC303 ((x329.fst, x324)) h _ _ _ (subX_mk ⟨.refl _, .refl _, .refl _, .refl _, .refl _, .refl _, .refl _, .refl _, .refl _, .refl _, .refl _, .refl _, .refl _, .refl _, .refl _, .refl _, .refl _, .refl _, .refl _, .refl _, .refl _, .refl _, .refl _, .refl _, .refl _, .refl _, .refl _, .refl _, .refl _, .refl _, .refl _, .refl _, .refl _, .refl _, .refl _, .refl _, .refl _, .refl _, .refl _, .refl _, trivial⟩ ⟨.refl, .refl, .refl, trivial⟩ rfl rfl rfl)
                          · conv => whnf
                            exact hN301 ((decide (s303.fst = (6 : Int)), s303)) h _ _ _ (subX_mk ⟨.refl _, .refl _, .refl _, .refl _, .refl _, .refl _, .refl _, .refl _, .refl _, .refl _, .refl _, .refl _, .refl _, .refl _, .refl _, .refl _, .refl _, .refl _, .refl _, .refl _, .refl _, .refl _, .refl _, .refl _, .refl _, .refl _, .refl _, .refl _, .refl _, .refl _, .refl _, .refl _, .refl _, .refl _, .refl _, .refl _, .refl _, .refl _, .refl _, .refl _, .refl _, trivial⟩ ⟨.refl, .refl, .refl, trivial⟩ rfl rfl rfl)
                    · conv => whnf
                      refine ⟨?_, trivial⟩
                      conv => whnf
                      refine ⟨?_, ?_⟩
                      · conv => whnf
                        refine sem_of_semG (fn := Tryz.f110) (cuts := [0]) ok Tryz.func110 (by kernel_rfl) rfl ?_
                        conv => whnf
                        refine sem_of_semG (fn := Tryz.f109) (cuts := []) ok Tryz.func109 (by kernel_rfl) rfl ?_
                        conv => whnf
                        refine ⟨fun e => absurd (e.symm.trans e291) (by decide), fun _ => ?_⟩
                        conv => whnf
                        refine byteOk h fun x298 h => ?_
                        conv => whnf
                        refine arithO h fun x299 h => ?_
                        conv => whnf
                        refine callOk (enc := (fun (x : Int × Int) => SV.tup [SV.int IntKind.i64 x.fst, SV.int IntKind.i64 x.snd])) h (fun _ hx => R_runes_Class hx) (fun x300 h => ?_)
                        conv => whnf
                        refine cutOk (fun (s301 : Bool × Int × Int) => [(26, SV.bool (s301.fst)), (8, (SV.int .i64) (s301.snd.fst)), (7, (SV.int .i64) ((0 : Int))), (6, SV.str ((ByteArray.mk #[]).data.toList)), (2, (SV.int .i64) ((6 : Int))), (1, (SV.int .i64) ((8 : Int))), (0, SV.ptr ((10 : Nat) + (1 : Nat) + (1 : Nat) + (1 : Nat) + (1 : Nat) + (1 : Nat) + (1 : Nat) + (1 : Nat) + (1 : Nat) + (1 : Nat) + (1 : Nat) + (1 : Nat) + (1 : Nat) + (1 : Nat) + (1 : Nat) + (1 : Nat) + (1 : Nat) + (1 : Nat) + (1 : Nat) + (1 : Nat) + (1 : Nat) + (1 : Nat)) []), (1000053, SV.ptr (0 : Nat) ([] ++ [Step.fld (4 : Nat) (4 : Nat)])), (1000051, SV.ptr ((10 : Nat) + (1 : Nat) + (1 : Nat) + (1 : Nat) + (1 : Nat) + (1 : Nat) + (1 : Nat) + (1 : Nat) + (1 : Nat) + (1 : Nat) + (1 : Nat) + (1 : Nat) + (1 : Nat) + (1 : Nat) + (1 : Nat) + (1 : Nat) + (1 : Nat) + (1 : Nat) + (1 : Nat) + (1 : Nat) + (1 : Nat) + (1 : Nat)) []), (1000050, SV.fls), (1000049, SV.bool (!decide (x294.fst = (8 : Int)))), (1000048, (SV.int .i64) (x294.fst)), (1000047, SV.ptr ((10 : Nat) + (1 : Nat) + (1 : Nat) + (1 : Nat) + (1 : Nat) + (1 : Nat) + (1 : Nat) + (1 : Nat) + (1 : Nat) + (1 : Nat) + (1 : Nat) + (1 : Nat) + (1 : Nat) + (1 : Nat) + (1 : Nat) + (1 : Nat) + (1 : Nat) + (1 : Nat) + (1 : Nat) + (1 : Nat) + (1 : Nat) + (1 : Nat)) []), (1000005, SV.ptr ((10 : Nat) + (1 : Nat) + (1 : Nat) + (1 : Nat) + (1 : Nat) + (1 : Nat) + (1 : Nat) + (1 : Nat) + (1 : Nat) + (1 : Nat) + (1 : Nat) + (1 : Nat) + (1 : Nat) + (1 : Nat) + (1 : Nat) + (1 : Nat) + (1 : Nat) + (1 : Nat) + (1 : Nat) + (1 : Nat) + (1 : Nat) + (1 : Nat)) []), (1000046, SV.ptr ((10 : Nat) + (1 : Nat) + (1 : Nat) + (1 : Nat) + (1 : Nat) + (1 : Nat) + (1 : Nat) + (1 : Nat) + (1 : Nat) + (1 : Nat) + (1 : Nat) + (1 : Nat) + (1 : Nat) + (1 : Nat) + (1 : Nat) + (1 : Nat) + (1 : Nat) + (1 : Nat) + (1 : Nat) + (1 : Nat) + (1 : Nat) + (1 : Nat)) []), (1000045, enc_Tlexer_reader (Tlexer_reader.mk a0.S (0 : Int))), (1000044, SV.str (a0.S)), (1000043, SV.ptr (0 : Nat) ([] ++ [Step.fld (4 : Nat) (4 : Nat)])), (1000041, SV.bool (decide (a0.Kind = (1 : Int)))), (1000042, SV.bool (decide (a0.Kind = (1 : Int)))), (1000040, (SV.int .i64) (a0.Kind)), (1000039, SV.ptr (0 : Nat) ([] ++ [Step.fld (0 : Nat) (0 : Nat)])), (1000004, (SV.int .i64) ((0 : Int))), (1000038, SV.bool (!(decide (a0.Kind = a0.Kind) && (decide (a0.From = a0.From) && (decide (a0.To = a0.To) && (decide (a0.N = s279.snd.fst) && (decide (a0.S = s279.snd.snd) && true))))))), (1000037, SV.bool (!(decide (a0.Kind = a0.Kind) && (decide (a0.From = a0.From) && (decide (a0.To = a0.To) && (decide (a0.N = s279.snd.fst) && (decide (a0.S = s279.snd.snd) && true))))))), (1000036, enc_TLxToken (TLxToken.mk a0.Kind a0.From a0.To s279.snd.fst s279.snd.snd)), (1000035, enc_TLxToken (a0)), (1000034, SV.fls), (1000033, SV.bool (decide ((9 : Int) < a0.Kind))), (1000032, SV.bool (decide ((9 : Int) < a0.Kind))), (1000031, (SV.int .i64) (a0.Kind)), (1000030, SV.ptr (0 : Nat) ([] ++ [Step.fld (0 : Nat) (0 : Nat)])), (1000029, SV.fls), (1000028, SV.bool (decide (a0.Kind < (1 : Int)))), (1000027, (SV.int .i64) (a0.Kind)), (1000026, SV.ptr (0 : Nat) ([] ++ [Step.fld (0 : Nat) (0 : Nat)])), (1000015, SV.bool (s279.fst)), (1000014, (SV.int .i64) (a0.Kind)), (1000003, SV.ptr ((0 : Nat) + (1 : Nat) + (1 : Nat) + (1 : Nat) + (1 : Nat) + (1 : Nat) + (1 : Nat) + (1 : Nat) + (1 : Nat) + (1 : Nat)) []), (1000002, (SV.int .i64) ((0 : Int))), (1000001, SV.ptr (0 : Nat) []), (1000000, enc_TLxToken (a0))]) (fun (s301 : Bool × Int × Int) => [(31, Blk.var true (enc_Tlexer_reader (Tlexer_reader.mk a0.S s301.snd.snd))), (9, Blk.var true (enc_TLxToken (TLxToken.mk a0.Kind a0.From a0.To s279.snd.fst s279.snd.snd))), (0, Blk.var true (enc_TLxToken (a0)))]) 32 h (fun s301 h => ?_) (fun K301 hN301 hE301 h => ?_)
                        · conv => whnf
                          refine ⟨by (conv => whnf); trivial, ?_⟩
                          conv => whnf
                          refine sideOk h fun _ h => ?_
                          conv => whnf
                          refine ⟨?_, trivial⟩
                          conv => whnf
                          refine ⟨?_, trivial⟩
                          conv => whnf
                          refine ⟨?_, trivial⟩
                          conv => whnf
                          refine brkO h (fun e330 h => ?_) (fun e330 h => ?_)
                          · conv => whnf
                            refine hE287 _ _ _ _ ?_
                            conv => whnf
                            obtain rfl := Option.some.inj h
                            exact .refl _
                          · conv => whnf
                            exact hN287 ((16 : Int)) h _ _ _ (subX_mk ⟨.refl _, .refl _, .refl _, .refl _, .refl _, .refl _, .refl _, .refl _, .refl _, .refl _, trivial⟩ ⟨.refl, .refl, trivial⟩ rfl rfl rfl)
                        · conv => whnf
                          refine loopOk (fun (s303 : Int × Int) => [(8, (SV.int .i64) (s303.fst)), (7, (SV.int .i64) ((0 : Int))), (6, SV.str ((ByteArray.mk #[]).data.toList)), (2, (SV.int .i64) ((6 : Int))), (1, (SV.int .i64) ((8 : Int))), (0, SV.ptr ((10 : Nat) + (1 : Nat) + (1 : Nat) + (1 : Nat) + (1 : Nat) + (1 : Nat) + (1 : Nat) + (1 : Nat) + (1 : Nat) + (1 : Nat) + (1 : Nat) + (1 : Nat) + (1 : Nat) + (1 : Nat) + (1 : Nat) + (1 : Nat) + (1 : Nat) + (1 : Nat) + (1 : Nat) + (1 : Nat) + (1 : Nat) + (1 : Nat)) []), (1000053, SV.ptr (0 : Nat) ([] ++ [Step.fld (4 : Nat) (4 : Nat)])), (1000051, SV.ptr ((10 : Nat) + (1 : Nat) + (1 : Nat) + (1 : Nat) + (1 : Nat) + (1 : Nat) + (1 : Nat) + (1 : Nat) + (1 : Nat) + (1 : Nat) + (1 : Nat) + (1 : Nat) + (1 : Nat) + (1 : Nat) + (1 : Nat) + (1 : Nat) + (1 : Nat) + (1 : Nat) + (1 : Nat) + (1 : Nat) + (1 : Nat) + (1 : Nat)) []), (1000050, SV.fls), (1000049, SV.bool (!decide (x294.fst = (8 : Int)))), (1000048, (SV.int .i64) (x294.fst)), (1000047, SV.ptr ((10 : Nat) + (1 : Nat) + (1 : Nat) + (1 : Nat) + (1 : Nat) + (1 : Nat) + (1 : Nat) + (1 : Nat) + (1 : Nat) + (1 : Nat) + (1 : Nat) + (1 : Nat) + (1 : Nat) + (1 : Nat) + (1 : Nat) + (1 : Nat) + (1 : Nat) + (1 : Nat) + (1 : Nat) + (1 : Nat) + (1 : Nat) + (1 : Nat)) []), (1000005, SV.ptr ((10 : Nat) + (1 : Nat) + (1 : Nat) + (1 : Nat) + (1 : Nat) + (1 : Nat) + (1 : Nat) + (1 : Nat) + (1 : Nat) + (1 : Nat) + (1 : Nat) + (1 : Nat) + (1 : Nat) + (1 : Nat) + (1 : Nat) + (1 : Nat) + (1 : Nat) + (1 : Nat) + (1 : Nat) + (1 : Nat) + (1 : Nat) + (1 : Nat)) []), (1000046, SV.ptr ((10 : Nat) + (1 : Nat) + (1 : Nat) + (1 : Nat) + (1 : Nat) + (1 : Nat) + (1 : Nat) + (1 : Nat) + (1 : Nat) + (1 : Nat) + (1 : Nat) + (1 : Nat) + (1 : Nat) + (1 : Nat) + (1 : Nat) + (1 : Nat) + (1 : Nat) + (1 : Nat) + (1 : Nat) + (1 : Nat) + (1 : Nat) + (1 : Nat)) []), (1000045, enc_Tlexer_reader (Tlexer_reader.mk a0.S (0 : Int))), (1000044, SV.str (a0.S)), (1000043, SV.ptr (0 : Nat) ([] ++ [Step.fld (4 : Nat) (4 : Nat)])), (1000041, SV.bool (decide (a0.Kind = (1 : Int)))), (1000042, SV.bool (decide (a0.Kind = (1 : Int)))), (1000040, (SV.int .i64) (a0.Kind)), (1000039, SV.ptr (0 : Nat) ([] ++ [Step.fld (0 : Nat) (0 : Nat)])), (1000004, (SV.int .i64) ((0 : Int))), (1000038, SV.bool (!(decide (a0.Kind = a0.Kind) && (decide (a0.From = a0.From) && (decide (a0.To = a0.To) && (decide (a0.N = s279.snd.fst) && (decide (a0.S = s279.snd.snd) && true))))))), (1000037, SV.bool (!(decide (a0.Kind = a0.Kind) && (decide (a0.From = a0.From) && (decide (a0.To = a0.To) && (decide (a0.N = s279.snd.fst) && (decide (a0.S = s279.snd.snd) && true))))))), (1000036, enc_TLxToken (TLxToken.mk a0.Kind a0.From a0.To s279.snd.fst s279.snd.snd)), (1000035, enc_TLxToken (a0)), (1000034, SV.fls), (1000033, SV.bool (decide ((9 : Int) < a0.Kind))), (1000032, SV.bool (decide ((9 : Int) < a0.Kind))), (1000031, (SV.int .i64) (a0.Kind)), (1000030, SV.ptr (0 : Nat) ([] ++ [Step.fld (0 : Nat) (0 : Nat)])), (1000029, SV.fls), (1000028, SV.bool (decide (a0.Kind < (1 : Int)))), (1000027, (SV.int .i64) (a0.Kind)), (1000026, SV.ptr (0 : Nat) ([] ++ [Step.fld (0 : Nat) (0 : Nat)])), (1000015, SV.bool (s279.fst)), (1000014, (SV.int .i64) (a0.Kind)), (1000003, SV.ptr ((0 : Nat) + (1 : Nat) + (1 : Nat) + (1 : Nat) + (1 : Nat) + (1 : Nat) + (1 : Nat) + (1 : Nat) + (1 : Nat) + (1 : Nat)) []), (1000002, (SV.int .i64) ((0 : Int))), (1000001, SV.ptr (0 : Nat) []), (1000000, enc_TLxToken (a0))]) (fun (s303 : Int × Int) => [(31, Blk.var true (enc_Tlexer_reader (Tlexer_reader.mk a0.S s303.snd))), (9, Blk.var true (enc_TLxToken (TLxToken.mk a0.Kind a0.From a0.To s279.snd.fst s279.snd.snd))), (0, Blk.var true (enc_TLxToken (a0)))]) 96 h (subX_mk ⟨.refl _, .refl _, .refl _, .refl _, .refl _, .refl _, .refl _, .refl _, .refl _, .refl _, .refl _, .refl _, .refl _, .refl _, .refl _, .refl _, .refl _, .refl _, .refl _, .refl _, .refl _, .refl _, .refl _, .refl _, .refl _, .refl _, .refl _, .refl _, .refl _, .refl _, .refl _, .refl _, .refl _, .refl _, .refl _, .refl _, .refl _, .refl _, .refl _, .refl _, .refl _, trivial⟩ ⟨.refl, .refl, .refl, trivial⟩ rfl rfl rfl) (fun s303 rc303 C303 hC303 h => ?_)
                          conv => whnf
                          refine brkN h (fun e316 h => ?_) (fun e316 h => ?_)
                          · conv => whnf
                            refine arithO h fun x317 h => ?_
                            conv => whnf
                            refine sem_of_semG (fn := Tryz.f109) (cuts := []) ok Tryz.func109 (by kernel_rfl) rfl ?_
                            conv => whnf
                            refine brkO h (fun e319 h => ?_) (fun e319 h => ?_)
                            · conv => whnf
                              exact hC303 (((10 : Int), x317)) h _ _ _ (subX_mk ⟨.refl _, .refl _, .refl _, .refl _, .refl _, .refl _, .refl _, .refl _, .refl _, .refl _, .refl _, .refl _, .refl _, .refl _, .refl _, .refl _, .refl _, .refl _, .refl _, .refl _, .refl _, .refl _, .refl _, .refl _, .refl _, .refl _, .refl _, .refl _, .refl _, .refl _, .refl _, .refl _, .refl _, .refl _, .refl _, .refl _, .refl _, .refl _, .refl _, .refl _, .refl _, trivial⟩ ⟨.refl, .refl, .refl, trivial⟩ rfl rfl rfl)
                            · conv => whnf
                              refine byteOk h fun x320 h => ?_
                              conv => whnf
                              refine arithO h fun x321 h => ?_
                              conv => whnf
                              refine callOk (enc := (fun (x : Int × Int) => SV.tup [SV.int IntKind.i64 x.fst, SV.int IntKind.i64 x.snd])) h (fun _ hx => R_runes_Class hx) (fun x322 h => ?_)
                              conv => whnf
                              exact hC303 ((x322.fst, x317)) h _ _ _ (subX_mk ⟨.refl _, .refl _, .refl _, .refl _, .refl _, .refl _, .refl _, .refl _, .refl _, .refl _, .refl _, .refl _, .refl _, .refl _, .refl _, .refl _, .refl _, .refl _, .refl _, .refl _, .refl _, .refl _, .refl _, .refl _, .refl _, .refl _, .refl _, .refl _, .refl _, .refl _, .refl _, .refl _, .refl _, .refl _, .refl _, .refl _, .refl _, .refl _, .refl _, .refl _, .refl _, trivial⟩ ⟨.refl, .refl, .refl, trivial⟩ rfl rfl rfl)
                          · conv => whnf
                            refine brkO h (fun e323 h => ?_) (fun e323 h => ?_)
                            · conv => whnf
                              refine arithO h fun x324 h => ?_
                              conv => whnf
                              refine sem_of_semG (fn := Tryz.f109) (cuts := []) ok Tryz.func109 (by kernel_rfl) rfl ?_
                              conv => whnf
                              refine brkO h (fun e326 h => ?_) (fun e326 h => ?_)
                              · conv => whnf
                                exact hC303 (((10 : Int), x324)) h _ _ _ (subX_mk ⟨.refl _, .refl _, .refl _, .refl _, .refl _, .refl _, .refl _, .refl _, .refl _, .refl _, .refl _, .refl _, .refl _, .refl _, .refl _, .refl _, .refl _, .refl _, .refl _, .refl _, .refl _, .refl _, .refl _, .refl _, .refl _, .refl _, .refl _, .refl _, .refl _, .refl _, .refl _, .refl _, .refl _, .refl _, .refl _, .refl _, .refl _, .refl _, .refl _, .refl _, .refl _, trivial⟩ ⟨.refl, .refl, .refl, trivial⟩ rfl rfl rfl)
                              · conv => whnf
                                refine byteOk h fun x327 h => ?_
                                conv => whnf
                                refine arithO h fun x328 h => ?_
                                conv => whnf
                                refine callOk (enc := (fun (x : Int × Int) => SV.tup [SV.int IntKind.i64 x.fst, SV.int IntKind.i64 x.snd])) h (fun _ hx => R_runes_Class hx) (fun x329 h => ?_)
                                conv => whnf
                                exact hC303 ((x329.fst, x324)) h _ _ _ (subX_mk ⟨.refl _, .refl _, .refl _, .refl _, .refl _, .refl _, .refl _, .refl _, .refl _, .refl _, .refl _, .refl _, .refl _, .refl _, .refl _, .refl _, .refl _, .refl _, .refl _, .refl _, .refl _, .refl _, .refl _, .refl _, .refl _, .refl _, .refl _, .refl _, .refl _, .refl _, .refl _, .refl _, .refl _, .refl _, .refl _, .refl _, .refl _, .refl _, .refl _, .refl _, .refl _, trivial⟩ ⟨.refl, .refl, .refl, trivial⟩ rfl rfl rfl)
                            · conv => whnf
                              exact hN301 ((decide (s303.fst = (6 : Int)), s303)) h _ _ _ (subX_mk ⟨.refl _, .refl _, .refl _, .refl _, .refl _, .refl _, .refl _, .refl _, .refl _, .refl _, .refl _, .refl _, .refl _, .refl _, .refl _, .refl _, .refl _, .refl _, .refl _, .refl _, .refl _, .refl _, .refl _, .refl _, .refl _, .refl _, .refl _, .refl _, .refl _, .refl _, .refl _, .refl _, .refl _, .refl _, .refl _, .refl _, .refl _, .refl _, .refl _, .refl _, .refl _, .refl _, trivial⟩ ⟨.refl, .refl, .refl, trivial⟩ rfl rfl rfl)
                      · conv => whnf
                        refine ⟨?_, trivial⟩
                        conv => whnf
                        refine ⟨?_, trivial⟩
                        conv => whnf
                        refine sem_of_semG (fn := Tryz.f110) (cuts := [0]) ok Tryz.func110 (by kernel_rfl) rfl ?_
                        conv => whnf
                        refine sem_of_semG (fn := Tryz.f109) (cuts := []) ok Tryz.func109 (by kernel_rfl) rfl ?_
                        conv => whnf
                        refine ⟨fun e => absurd (e.symm.trans e291) (by decide), fun _ => ?_⟩
                        conv => whnf
                        refine byteOk h fun x298 h => ?_
                        conv => whnf
                        refine arithO h fun x299 h => ?_
                        conv => whnf
                        refine callOk (enc := (fun (x : Int × Int) => SV.tup [SV.int IntKind.i64 x.fst, SV.int IntKind.i64 x.snd])) h (fun _ hx => R_runes_Class hx) (fun x300 h => ?_)
                        conv => whnf
                        refine cutOk (fun (s301 : Bool × Int × Int) => [(26, SV.bool (s301.fst)), (8, (SV.int .i64) (s301.snd.fst)), (7, (SV.int .i64) ((0 : Int))), (6, SV.str ((ByteArray.mk #[]).data.toList)), (2, (SV.int .i64) ((6 : Int))), (1, (SV.int .i64) ((8 : Int))), (0, SV.ptr ((10 : Nat) + (1 : Nat) + (1 : Nat) + (1 : Nat) + (1 : Nat) + (1 : Nat) + (1 : Nat) + (1 : Nat) + (1 : Nat) + (1 : Nat) + (1 : Nat) + (1 : Nat) + (1 : Nat) + (1 : Nat) + (1 : Nat) + (1 : Nat) + (1 : Nat) + (1 : Nat) + (1 : Nat) + (1 : Nat) + (1 : Nat) + (1 : Nat)) []), (1000054, SV.str (a0.S)), (1000053, SV.ptr (0 : Nat) ([] ++ [Step.fld (4 : Nat) (4 : Nat)])), (1000051, SV.ptr ((10 : Nat) + (1 : Nat) + (1 : Nat) + (1 : Nat) + (1 : Nat) + (1 : Nat) + (1 : Nat) + (1 : Nat) + (1 : Nat) + (1 : Nat) + (1 : Nat) + (1 : Nat) + (1 : Nat) + (1 : Nat) + (1 : Nat) + (1 : Nat) + (1 : Nat) + (1 : Nat) + (1 : Nat) + (1 : Nat) + (1 : Nat) + (1 : Nat)) []), (1000050, SV.fls), (1000049, SV.bool (!decide (x294.fst = (8 : Int)))), (1000048, (SV.int .i64) (x294.fst)), (1000047, SV.ptr ((10 : Nat) + (1 : Nat) + (1 : Nat) + (1 : Nat) + (1 : Nat) + (1 : Nat) + (1 : Nat) + (1 : Nat) + (1 : Nat) + (1 : Nat) + (1 : Nat) + (1 : Nat) + (1 : Nat) + (1 : Nat) + (1 : Nat) + (1 : Nat) + (1 : Nat) + (1 : Nat) + (1 : Nat) + (1 : Nat) + (1 : Nat) + (1 : Nat)) []), (1000005, SV.ptr ((10 : Nat) + (1 : Nat) + (1 : Nat) + (1 : Nat) + (1 : Nat) + (1 : Nat) + (1 : Nat) + (1 : Nat) + (1 : Nat) + (1 : Nat) + (1 : Nat) + (1 : Nat) + (1 : Nat) + (1 : Nat) + (1 : Nat) + (1 : Nat) + (1 : Nat) + (1 : Nat) + (1 : Nat) + (1 : Nat) + (1 : Nat) + (1 : Nat)) []), (1000046, SV.ptr ((10 : Nat) + (1 : Nat) + (1 : Nat) + (1 : Nat) + (1 : Nat) + (1 : Nat) + (1 : Nat) + (1 : Nat) + (1 : Nat) + (1 : Nat) + (1 : Nat) + (1 : Nat) + (1 : Nat) + (1 : Nat) + (1 : Nat) + (1 : Nat) + (1 : Nat) + (1 : Nat) + (1 : Nat) + (1 : Nat) + (1 : Nat) + (1 : Nat)) []), (1000045, enc_Tlexer_reader (Tlexer_reader.mk a0.S (0 : Int))), (1000044, SV.str (a0.S)), (1000043, SV.ptr (0 : Nat) ([] ++ [Step.fld (4 : Nat) (4 : Nat)])), (1000041, SV.bool (decide (a0.Kind = (1 : Int)))), (1000042, SV.bool (decide (a0.Kind = (1 : Int)))), (1000040, (SV.int .i64) (a0.Kind)), (1000039, SV.ptr (0 : Nat) ([] ++ [Step.fld (0 : Nat) (0 : Nat)])), (1000004, (SV.int .i64) ((0 : Int))), (1000038, SV.bool (!(decide (a0.Kind = a0.Kind) && (decide (a0.From = a0.From) && (decide (a0.To = a0.To) && (decide (a0.N = s279.snd.fst) && (decide (a0.S = s279.snd.snd) && true))))))), (1000037, SV.bool (!(decide (a0.Kind = a0.Kind) && (decide (a0.From = a0.From) && (decide (a0.To = a0.To) && (decide (a0.N = s279.snd.fst) && (decide (a0.S = s279.snd.snd) && true))))))), (1000036, enc_TLxToken (TLxToken.mk a0.Kind a0.From a0.To s279.snd.fst s279.snd.snd)), (1000035, enc_TLxToken (a0)), (1000034, SV.fls), (1000033, SV.bool (decide ((9 : Int) < a0.Kind))), (1000032, SV.bool (decide ((9 : Int) < a0.Kind))), (1000031, (SV.int .i64) (a0.Kind)), (1000030, SV.ptr (0 : Nat) ([] ++ [Step.fld (0 : Nat) (0 : Nat)])), (1000029, SV.fls), (1000028, SV.bool (decide (a0.Kind < (1 : Int)))), (1000027, (SV.int .i64) (a0.Kind)), (1000026, SV.ptr (0 : Nat) ([] ++ [Step.fld (0 : Nat) (0 : Nat)])), (1000015, SV.bool (s279.fst)), (1000014, (SV.int .i64) (a0.Kind)), (1000003, SV.ptr ((0 : Nat) + (1 : Nat) + (1 : Nat) + (1 : Nat) + (1 : Nat) + (1 : Nat) + (1 : Nat) + (1 : Nat) + (1 : Nat) + (1 : Nat)) []), (1000002, (SV.int .i64) ((0 : Int))), (1000001, SV.ptr (0 : Nat) []), (1000000, enc_TLxToken (a0))]) (fun (s301 : Bool × Int × Int) => [(31, Blk.var true (enc_Tlexer_reader (Tlexer_reader.mk a0.S s301.snd.snd))), (9, Blk.var true (enc_TLxToken (TLxToken.mk a0.Kind a0.From a0.To s279.snd.fst s279.snd.snd))), (0, Blk.var true (enc_TLxToken (a0)))]) 32 h (fun s301 h => ?_) (fun K301 hN301 hE301 h => ?_)
                        · conv => whnf
                          refine ⟨by (conv => whnf); trivial, ?_⟩
                          conv => whnf
                          refine sideOk h fun _ h => ?_
                          conv => whnf
                          refine ⟨?_, trivial⟩
                          conv => whnf
                          refine ⟨?_, trivial⟩
                          conv => whnf
                          refine brkO h (fun e330 h => ?_) (fun e330 h => ?_)
                          · conv => whnf
                            refine hE287 _ _ _ _ ?_
                            conv => whnf
                            obtain rfl := Option.some.inj h
                            exact .refl _
                          · conv => whnf
                            exact hN287 ((16 : Int)) h _ _ _ (subX_mk ⟨.refl _, .refl _, .refl _, .refl _, .refl _, .refl _, .refl _, .refl _, .refl _, .refl _, trivial⟩ ⟨.refl, .refl, trivial⟩ rfl rfl rfl)
                        · conv => whnf
                          refine loopOk (fun (s303 : Int × Int) => [(8, (SV.int .i64) (s303.fst)), (7, (SV.int .i64) ((0 : Int))), (6, SV.str ((ByteArray.mk #[]).data.toList)), (2, (SV.int .i64) ((6 : Int))), (1, (SV.int .i64) ((8 : Int))), (0, SV.ptr ((10 : Nat) + (1 : Nat) + (1 : Nat) + (1 : Nat) + (1 : Nat) + (1 : Nat) + (1 : Nat) + (1 : Nat) + (1 : Nat) + (1 : Nat) + (1 : Nat) + (1 : Nat) + (1 : Nat) + (1 : Nat) + (1 : Nat) + (1 : Nat) + (1 : Nat) + (1 : Nat) + (1 : Nat) + (1 : Nat) + (1 : Nat) + (1 : Nat)) []), (1000054, SV.str (a0.S)), (1000053, SV.ptr (0 : Nat) ([] ++ [Step.fld (4 : Nat) (4 : Nat)])), (1000051, SV.ptr ((10 : Nat) + (1 : Nat) + (1 : Nat) + (1 : Nat) + (1 : Nat) + (1 : Nat) + (1 : Nat) + (1 : Nat) + (1 : Nat) + (1 : Nat) + (1 : Nat) + (1 : Nat) + (1 : Nat) + (1 : Nat) + (1 : Nat) + (1 : Nat) + (1 : Nat) + (1 : Nat) + (1 : Nat) + (1 : Nat) + (1 : Nat) + (1 : Nat)) []), (1000050, SV.fls), (1000049, SV.bool (!decide (x294.fst = (8 : Int)))), (1000048, (SV.int .i64) (x294.fst)), (1000047, SV.ptr ((10 : Nat) + (1 : Nat) + (1 : Nat) + (1 : Nat) + (1 : Nat) + (1 : Nat) + (1 : Nat) + (1 : Nat) + (1 : Nat) + (1 : Nat) + (1 : Nat) + (1 : Nat) + (1 : Nat) + (1 : Nat) + (1 : Nat) + (1 : Nat) + (1 : Nat) + (1 : Nat) + (1 : Nat) + (1 : Nat) + (1 : Nat) + (1 : Nat)) []), (1000005, SV.ptr ((10 : Nat) + (1 : Nat) + (1 : Nat) + (1 : Nat) + (1 : Nat) + (1 : Nat) + (1 : Nat) + (1 : Nat) + (1 : Nat) + (1 : Nat) + (1 : Nat) + (1 : Nat) + (1 : Nat) + (1 : Nat) + (1 : Nat) + (1 : Nat) + (1 : Nat) + (1 : Nat) + (1 : Nat) + (1 : Nat) + (1 : Nat) + (1 : Nat)) []), (1000046, SV.ptr ((10 : Nat) + (1 : Nat) + (1 : Nat) + (1 : Nat) + (1 : Nat) + (1 : Nat) + (1 : Nat) + (1 : Nat) + (1 : Nat) + (1 : Nat) + (1 : Nat) + (1 : Nat) + (1 : Nat) + (1 : Nat) + (1 : Nat) + (1 : Nat) + (1 : Nat) + (1 : Nat) + (1 : Nat) + (1 : Nat) + (1 : Nat) + (1 : Nat)) []), (1000045, enc_Tlexer_reader (Tlexer_reader.mk a0.S (0 : Int))), (1000044, SV.str (a0.S)), (1000043, SV.ptr (0 : Nat) ([] ++ [Step.fld (4 : Nat) (4 : Nat)])), (1000041, SV.bool (decide (a0.Kind = (1 : Int)))), (1000042, SV.bool (decide (a0.Kind = (1 : Int)))), (1000040, (SV.int .i64) (a0.Kind)), (1000039, SV.ptr (0 : Nat) ([] ++ [Step.fld (0 : Nat) (0 : Nat)])), (1000004, (SV.int .i64) ((0 : Int))), (1000038, SV.bool (!(decide (a0.Kind = a0.Kind) && (decide (a0.From = a0.From) && (decide (a0.To = a0.To) && (decide (a0.N = s279.snd.fst) && (decide (a0.S = s279.snd.snd) && true))))))), (1000037, SV.bool (!(decide (a0.Kind = a0.Kind) && (decide (a0.From = a0.From) && (decide (a0.To = a0.To) && (decide (a0.N = s279.snd.fst) && (decide (a0.S = s279.snd.snd) && true))))))), (1000036, enc_TLxToken (TLxToken.mk a0.Kind a0.From a0.To s279.snd.fst s279.snd.snd)), (1000035, enc_TLxToken (a0)), (1000034, SV.fls), (1000033, SV.bool (decide ((9 : Int) < a0.Kind))), (1000032, SV.bool (decide ((9 : Int) < a0.Kind))), (1000031, (SV.int .i64) (a0.Kind)), (1000030, SV.ptr (0 : Nat) ([] ++ [Step.fld (0 : Nat) (0 : Nat)])), (1000029, SV.fls), (1000028, SV.bool (decide (a0.Kind < (1 : Int)))), (1000027, (SV.int .i64) (a0.Kind)), (1000026, SV.ptr (0 : Nat) ([] ++ [Step.fld (0 : Nat) (0 : Nat)])), (1000015, SV.bool (s279.fst)), (1000014, (SV.int .i64) (a0.Kind)), (1000003, SV.ptr ((0 : Nat) + (1 : Nat) + (1 : Nat) + (1 : Nat) + (1 : Nat) + (1 : Nat) + (1 : Nat) + (1 : Nat) + (1 : Nat) + (1 : Nat)) []), (1000002, (SV.int .i64) ((0 : Int))), (1000001, SV.ptr (0 : Nat) []), (1000000, enc_TLxToken (a0))]) (fun (s303 : Int × Int) => [(31, Blk.var true (enc_Tlexer_reader (Tlexer_reader.mk a0.S s303.snd))), (9, Blk.var true (enc_TLxToken (TLxToken.mk a0.Kind a0.From a0.To s279.snd.fst s279.snd.snd))), (0, Blk.var true (enc_TLxToken (a0)))]) 97 h (subX_mk ⟨.refl _, .refl _, .refl _, .refl _, .refl _, .refl _, .refl _, .refl _, .refl _, .refl _, .refl _, .refl _, .refl _, .refl _, .refl _, .refl _, .refl _, .refl _, .refl _, .refl _, .refl _, .refl _, .refl _, .refl _, .refl _, .refl _, .refl _, .refl _, .refl _, .refl _, .refl _, .refl _, .refl _, .refl _, .refl _, .refl _, .refl _, .refl _, .refl _, .refl _, .refl _, .refl _, trivial⟩ ⟨.refl, .refl, .refl, trivial⟩ rfl rfl rfl) (fun s303 rc303 C303 hC303 h => ?_)
                          conv => whnf
                          refine brkN h (fun e316 h => ?_) (fun e316 h => ?_)
                          · conv => whnf
                            refine arithO h fun x317 h => ?_
                            conv => whnf
                            refine sem_of_semG (fn := Tryz.f109) (cuts := []) ok Tryz.func109 (by kernel_rfl) rfl ?_
                            conv => whnf
                            refine brkO h (fun e319 h => ?_) (fun e319 h => ?_)
                            · conv => whnf
                              exact hC303 (((10 : Int), x317)) h _ _ _ (subX_mk ⟨.refl _, .refl _, .refl _, .refl _, .refl _, .refl _, .refl _, .refl _, .refl _, .refl _, .refl _, .refl _, .refl _, .refl _, .refl _, .refl _, .refl _, .refl _, .refl _, .refl _, .refl _, .refl _, .refl _, .refl _, .refl _, .refl _, .refl _, .refl _, .refl _, .refl _, .refl _, .refl _, .refl _, .refl _, .refl _, .refl _, .refl _, .refl _, .refl _, .refl _, .refl _, .refl _, trivial⟩ ⟨.refl, .refl, .refl, trivial⟩ rfl rfl rfl)
                            · conv => whnf
                              refine byteOk h fun x320 h => ?_
                              conv => whnf
                              refine arithO h fun x321 h => ?_
                              conv => whnf
                              refine callOk (enc := (fun (x : Int × Int) => SV.tup [SV.int IntKind.i64 x.fst, SV.int IntKind.i64 x.snd])) h (fun _ hx => R_runes_Class hx) (fun x322 h => ?_)
                              conv => whnf
                              exact hC303 ((x322.fst, x317)) h _ _ _ (subX_mk ⟨.refl _, .refl _, .refl _, .refl _, .refl _, .refl _, .refl _, .refl _, .refl _, .refl _, .refl _, .refl _, .refl _, .refl _, .refl _, .refl _, .refl _, .refl _, .refl _, .refl _, .refl _, .refl _, .refl _, .refl _, .refl _, .refl _, .refl _, .refl _, .refl _, .refl _, .refl _, .refl _, .refl _, .refl _, .refl _, .refl _, .refl _, .refl _, .refl _, .refl _, .refl _, .refl _, trivial⟩ ⟨.refl, .refl, .refl, trivial⟩ rfl rfl rfl)
                          · conv => whnf
                            refine brkO h (fun e323 h => ?_) (fun e323 h => ?_)
                            · conv => whnf
                              refine arithO h fun x324 h => ?_
                              conv => whnf
                              refine sem_of_semG (fn := Tryz.f109) (cuts := []) ok Tryz.func109 (by kernel_rfl) rfl ?_
                              conv => whnf
                              refine brkO h (fun e326 h => ?_) (fun e326 h => ?_)
                              · conv => whnf
                                exact hC303 (((10 : Int), x324)) h _ _ _ (subX_mk ⟨.refl _, .refl _, .refl _, .refl _, .refl _, .refl _, .refl _, .refl _, .refl _, .refl _, .refl _, .refl _, .refl _, .refl _, .refl _, .refl _, .refl _, .refl _, .refl _, .refl _, .refl _, .refl _, .refl _, .refl _, .refl _, .refl _, .refl _, .refl _, .refl _, .refl _, .refl _, .refl _, .refl _, .refl _, .refl _, .refl _, .refl _, .refl _, .refl _, .refl _, .refl _, .refl _, trivial⟩ ⟨.refl, .refl, .refl, trivial⟩ rfl rfl rfl)
                              · conv => whnf
                                refine byteOk h fun x327 h => ?_
                                conv => whnf
                                refine arithO h fun x328 h => ?_
                                conv => whnf
                                refine callOk (enc := (fun (x : Int × Int) => SV.tup [SV.int IntKind.i64 x.fst, SV.int IntKind.i64 x.snd])) h (fun _ hx => R_runes_Class hx) (fun x329 h => ?_)
                                conv => whnf
                                exact hC303 ((x329.fst, x324)) h _ _ _ (subX_mk ⟨.refl _, .refl _, .refl _, .refl _, .refl _, .refl _, .refl _, .refl _, .refl _, .refl _, .refl _, .refl _, .refl _, .refl _, .refl _, .refl _, .refl _, .refl _, .refl _, .refl _, .refl _, .refl _, .refl _, .refl _, .refl _, .refl _, .refl _, .refl _, .refl _, .refl _, .refl _, .refl _, .refl _, .refl _, .refl _, .refl _, .refl _, .refl _, .refl _, .refl _, .refl _, .refl _, trivial⟩ ⟨.refl, .refl, .refl, trivial⟩ rfl rfl rfl)
                            · conv => whnf
                              exact hN301 ((decide (s303.fst = (6 : Int)), s303)) h _ _ _ (subX_mk ⟨.refl _, .refl _, .refl _, .refl _, .refl _, .refl _, .refl _, .refl _, .refl _, .refl _, .refl _, .refl _, .refl _, .refl _, .refl _, .refl _, .refl _, .refl _, .refl _, .refl _, .refl _, .refl _, .refl _, .refl _, .refl _, .refl _, .refl _, .refl _, .refl _, .refl _, .refl _, .refl _, .refl _, .refl _, .refl _, .refl _, .refl _, .refl _, .refl _, .refl _, .refl _, .refl _, .refl _, trivial⟩ ⟨.refl, .refl, .refl, trivial⟩ rfl rfl rfl)
                · conv => whnf
                  refine ⟨?_, trivial⟩
                  conv => whnf
                  refine brkN h (fun e295 h => ?_) (fun e295 h => ?_)
                  · conv => whnf
                    refine ⟨?_, ?_⟩
                    · conv => whnf
                      refine ⟨?_, ?_⟩
                      · conv => whnf
                        refine ⟨?_, trivial⟩
                        conv => whnf
                        refine ⟨?_, trivial⟩
                        conv => whnf
                        refine ⟨?_, trivial⟩
                        conv => whnf
                        refine hE287 _ _ _ _ ?_
                        conv => whnf
                        obtain rfl := Option.some.inj h
                        exact .refl _
                      · conv => whnf
                        refine ⟨?_, trivial⟩
                        conv => whnf
                        refine ⟨?_, trivial⟩
                        conv => whnf
                        refine ⟨?_, trivial⟩
                        conv => whnf
                        refine ⟨?_, trivial⟩
                        conv => whnf
                        refine hE287 _ _ _ _ ?_
                        conv => whnf
                        obtain rfl := Option.some.inj h
                        exact .refl _
                    · conv => whnf
                      refine ⟨?_, trivial⟩
                      conv => whnf
                      refine ⟨?_, trivial⟩
                      conv => whnf
                      refine ⟨?_, trivial⟩
                      conv => whnf
                      refine ⟨?_, trivial⟩
                      conv => whnf
                      refine ⟨?_, trivial⟩
                      conv => whnf
                      refine hE287 _ _ _ _ ?_
                      conv => whnf
                      obtain rfl := Option.some.inj h
                      exact .refl _
                  · conv => whnf
                    refine ⟨?_, ?_⟩
                    · conv => whnf
                      refine ⟨?_, ?_⟩
                      · conv => whnf
                        refine sem_of_semG (fn := Tryz.f110) (cuts := [0]) ok Tryz.func110 (by kernel_rfl) rfl ?_
                        conv => whnf
                        refine sem_of_semG (fn := Tryz.f109) (cuts := []) ok Tryz.func109 (by kernel_rfl) rfl ?_
                        conv => whnf
                        refine ⟨fun e => absurd (e.symm.trans e291) (by decide), fun _ => ?_⟩
                        conv => whnf
                        refine byteOk h fun x298 h => ?_
                        conv => whnf
                        refine arithO h fun x299 h => ?_
                        conv => whnf
                        refine callOk (enc := (fun (x : Int × Int) => SV.tup [SV.int IntKind.i64 x.fst, SV.int IntKind.i64 x.snd])) h (fun _ hx => R_runes_Class hx) (fun x300 h => ?_)
                        conv => whnf
                        refine cutOk (fun (s301 : Bool × Int × Int) => [(26, SV.bool (s301.fst)), (8, (SV.int .i64) (s301.snd.fst)), (7, (SV.int .i64) ((0 : Int))), (6, SV.str ((ByteArray.mk #[]).data.toList)), (2, (SV.int .i64) ((6 : Int))), (1, (SV.int .i64) ((8 : Int))), (0, SV.ptr ((10 : Nat) + (1 : Nat) + (1 : Nat) + (1 : Nat) + (1 : Nat) + (1 : Nat) + (1 : Nat) + (1 : Nat) + (1 : Nat) + (1 : Nat) + (1 : Nat) + (1 : Nat) + (1 : Nat) + (1 : Nat) + (1 : Nat) + (1 : Nat) + (1 : Nat) + (1 : Nat) + (1 : Nat) + (1 : Nat) + (1 : Nat) + (1 : Nat)) []), (1000051, SV.ptr ((10 : Nat) + (1 : Nat) + (1 : Nat) + (1 : Nat) + (1 : Nat) + (1 : Nat) + (1 : Nat) + (1 : Nat) + (1 : Nat) + (1 : Nat) + (1 : Nat) + (1 : Nat) + (1 : Nat) + (1 : Nat) + (1 : Nat) + (1 : Nat) + (1 : Nat) + (1 : Nat) + (1 : Nat) + (1 : Nat) + (1 : Nat) + (1 : Nat)) []), (1000053, SV.ptr (0 : Nat) ([] ++ [Step.fld (4 : Nat) (4 : Nat)])), (1000050, SV.fls), (1000049, SV.bool (!decide (x294.fst = (8 : Int)))), (1000048, (SV.int .i64) (x294.fst)), (1000047, SV.ptr ((10 : Nat) + (1 : Nat) + (1 : Nat) + (1 : Nat) + (1 : Nat) + (1 : Nat) + (1 : Nat) + (1 : Nat) + (1 : Nat) + (1 : Nat) + (1 : Nat) + (1 : Nat) + (1 : Nat) + (1 : Nat) + (1 : Nat) + (1 : Nat) + (1 : Nat) + (1 : Nat) + (1 : Nat) + (1 : Nat) + (1 : Nat) + (1 : Nat)) []), (1000005, SV.ptr ((10 : Nat) + (1 : Nat) + (1 : Nat) + (1 : Nat) + (1 : Nat) + (1 : Nat) + (1 : Nat) + (1 : Nat) + (1 : Nat) + (1 : Nat) + (1 : Nat) + (1 : Nat) + (1 : Nat) + (1 : Nat) + (1 : Nat) + (1 : Nat) + (1 : Nat) + (1 : Nat) + (1 : Nat) + (1 : Nat) + (1 : Nat) + (1 : Nat)) []), (1000046, SV.ptr ((10 : Nat) + (1 : Nat) + (1 : Nat) + (1 : Nat) + (1 : Nat) + (1 : Nat) + (1 : Nat) + (1 : Nat) + (1 : Nat) + (1 : Nat) + (1 : Nat) + (1 : Nat) + (1 : Nat) + (1 : Nat) + (1 : Nat) + (1 : Nat) + (1 : Nat) + (1 : Nat) + (1 : Nat) + (1 : Nat) + (1 : Nat) + (1 : Nat)) []), (1000045, enc_Tlexer_reader (Tlexer_reader.mk a0.S (0 : Int))), (1000044, SV.str (a0.S)), (1000043, SV.ptr (0 : Nat) ([] ++ [Step.fld (4 : Nat) (4 : Nat)])), (1000041, SV.bool (decide (a0.Kind = (1 : Int)))), (1000042, SV.bool (decide (a0.Kind = (1 : Int)))), (1000040, (SV.int .i64) (a0.Kind)), (1000039, SV.ptr (0 : Nat) ([] ++ [Step.fld (0 : Nat) (0 : Nat)])), (1000004, (SV.int .i64) ((0 : Int))), (1000038, SV.bool (!(decide (a0.Kind = a0.Kind) && (decide (a0.From = a0.From) && (decide (a0.To = a0.To) && (decide (a0.N = s279.snd.fst) && (decide (a0.S = s279.snd.snd) && true))))))), (1000037, SV.bool (!(decide (a0.Kind = a0.Kind) && (decide (a0.From = a0.From) && (decide (a0.To = a0.To) && (decide (a0.N = s279.snd.fst) && (decide (a0.S = s279.snd.snd) && true))))))), (1000036, enc_TLxToken (TLxToken.mk a0.Kind a0.From a0.To s279.snd.fst s279.snd.snd)), (1000035, enc_TLxToken (a0)), (1000034, SV.fls), (1000033, SV.bool (decide ((9 : Int) < a0.Kind))), (1000032, SV.bool (decide ((9 : Int) < a0.Kind))), (1000031, (SV.int .i64) (a0.Kind)), (1000030, SV.ptr (0 : Nat) ([] ++ [Step.fld (0 : Nat) (0 : Nat)])), (1000029, SV.fls), (1000028, SV.bool (decide (a0.Kind < (1 : Int)))), (1000027, (SV.int .i64) (a0.Kind)), (1000026, SV.ptr (0 : Nat) ([] ++ [Step.fld (0 : Nat) (0 : Nat)])), (1000015, SV.bool (s279.fst)), (1000014, (SV.int .i64) (a0.Kind)), (1000003, SV.ptr ((0 : Nat) + (1 : Nat) + (1 : Nat) + (1 : Nat) + (1 : Nat) + (1 : Nat) + (1 : Nat) + (1 : Nat) + (1 : Nat) + (1 : Nat)) []), (1000002, (SV.int .i64) ((0 : Int))), (1000001, SV.ptr (0 : Nat) []), (1000000, enc_TLxToken (a0))]) (fun (s301 : Bool × Int × Int) => [(31, Blk.var true (enc_Tlexer_reader (Tlexer_reader.mk a0.S s301.snd.snd))), (9, Blk.var true (enc_TLxToken (TLxToken.mk a0.Kind a0.From a0.To s279.snd.fst s279.snd.snd))), (0, Blk.var true (enc_TLxToken (a0)))]) 32 h (fun s301 h => ?_) (fun K301 hN301 hE301 h => ?_)
                        · conv => whnf
                          refine ⟨by (conv => whnf); trivial, ?_⟩
                          conv => whnf
                          refine sideOk h fun _ h => ?_
                          conv => whnf
                          refine ⟨?_, trivial⟩
                          conv => whnf
                          refine ⟨?_, trivial⟩
                          conv => whnf
                          refine ⟨?_, trivial⟩
                          conv => whnf
                          refine brkO h (fun e330 h => ?_) (fun e330 h => ?_)
                          · conv => whnf
                            refine hE287 _ _ _ _ ?_
                            conv => whnf
                            obtain rfl := Option.some.inj h
                            exact .refl _
                          · conv => whnf
                            exact hN287 ((16 : Int)) h _ _ _ (subX_mk ⟨.refl _, .refl _, .refl _, .refl _, .refl _, .refl _, .refl _, .refl _, .refl _, .refl _, trivial⟩ ⟨.refl, .refl, trivial⟩ rfl rfl rfl)
                        · conv => whnf
                          refine loopOk (fun (s303 : Int × Int) => [(8, (SV.int .i64) (s303.fst)), (7, (SV.int .i64) ((0 : Int))), (6, SV.str ((ByteArray.mk #[]).data.toList)), (2, (SV.int .i64) ((6 : Int))), (1, (SV.int .i64) ((8 : Int))), (0, SV.ptr ((10 : Nat) + (1 : Nat) + (1 : Nat) + (1 : Nat) + (1 : Nat) + (1 : Nat) + (1 : Nat) + (1 : Nat) + (1 : Nat) + (1 : Nat) + (1 : Nat) + (1 : Nat) + (1 : Nat) + (1 : Nat) + (1 : Nat) + (1 : Nat) + (1 : Nat) + (1 : Nat) + (1 : Nat) + (1 : Nat) + (1 : Nat) + (1 : Nat)) []), (1000051, SV.ptr ((10 : Nat) + (1 : Nat) + (1 : Nat) + (1 : Nat) + (1 : Nat) + (1 : Nat) + (1 : Nat) + (1 : Nat) + (1 : Nat) + (1 : Nat) + (1 : Nat) + (1 : Nat) + (1 : Nat) + (1 : Nat) + (1 : Nat) + (1 : Nat) + (1 : Nat) + (1 : Nat) + (1 : Nat) + (1 : Nat) + (1 : Nat) + (1 : Nat)) []), (1000053, SV.ptr (0 : Nat) ([] ++ [Step.fld (4 : Nat) (4 : Nat)])), (1000050, SV.fls), (1000049, SV.bool (!decide (x294.fst = (8 : Int)))), (1000048, (SV.int .i64) (x294.fst)), (1000047, SV.ptr ((10 : Nat) + (1 : Nat) + (1 : Nat) + (1 : Nat) + (1 : Nat) + (1 : Nat) + (1 : Nat) + (1 : Nat) + (1 : Nat) + (1 : Nat) + (1 : Nat) + (1 : Nat) + (1 : Nat) + (1 : Nat) + (1 : Nat) + (1 : Nat) + (1 : Nat) + (1 : Nat) + (1 : Nat) + (1 : Nat) + (1 : Nat) + (1 : Nat)) []), (1000005, SV.ptr ((10 : Nat) + (1 : Nat) + (1 : Nat) + (1 : Nat) + (1 : Nat) + (1 : Nat) + (1 : Nat) + (1 : Nat) + (1 : Nat) + (1 : Nat) + (1 : Nat) + (1 : Nat) + (1 : Nat) + (1 : Nat) + (1 : Nat) + (1 : Nat) + (1 : Nat) + (1 : Nat) + (1 : Nat) + (1 : Nat) + (1 : Nat) + (1 : Nat)) []), (1000046, SV.ptr ((10 : Nat) + (1 : Nat) + (1 : Nat) + (1 : Nat) + (1 : Nat) + (1 : Nat) + (1 : Nat) + (1 : Nat) + (1 : Nat) + (1 : Nat) + (1 : Nat) + (1 : Nat) + (1 : Nat) + (1 : Nat) + (1 : Nat) + (1 : Nat) + (1 : Nat) + (1 : Nat) + (1 : Nat) + (1 : Nat) + (1 : Nat) + (1 : Nat)) []), (1000045, enc_Tlexer_reader (Tlexer_reader.mk a0.S (0 : Int))), (1000044, SV.str (a0.S)), (1000043, SV.ptr (0 : Nat) ([] ++ [Step.fld (4 : Nat) (4 : Nat)])), (1000041, SV.bool (decide (a0.Kind = (1 : Int)))), (1000042, SV.bool (decide (a0.Kind = (1 : Int)))), (1000040, (SV.int .i64) (a0.Kind)), (1000039, SV.ptr (0 : Nat) ([] ++ [Step.fld (0 : Nat) (0 : Nat)])), (1000004, (SV.int .i64) ((0 : Int))), (1000038, SV.bool (!(decide (a0.Kind = a0.Kind) && (decide (a0.From = a0.From) && (decide (a0.To = a0.To) && (decide (a0.N = s279.snd.fst) && (decide (a0.S = s279.snd.snd) && true))))))), (1000037, SV.bool (!(decide (a0.Kind = a0.Kind) && (decide (a0.From = a0.From) && (decide (a0.To = a0.To) && (decide (a0.N = s279.snd.fst) && (decide (a0.S = s279.snd.snd) && true))))))), (1000036, enc_TLxToken (TLxToken.mk a0.Kind a0.From a0.To s279.snd.fst s279.snd.snd)), (1000035, enc_TLxToken (a0)), (1000034, SV.fls), (1000033, SV.bool (decide ((9 : Int) < a0.Kind))), (1000032, SV.bool (decide ((9 : Int) < a0.Kind))), (1000031, (SV.int .i64) (a0.Kind)), (1000030, SV.ptr (0 : Nat) ([] ++ [Step.fld (0 : Nat) (0 : Nat)])), (1000029, SV.fls), (1000028, SV.bool (decide (a0.Kind < (1 : Int)))), (1000027, (SV.int .i64) (a0.Kind)), (1000026, SV.ptr (0 : Nat) ([] ++ [Step.fld (0 : Nat) (0 : Nat)])), (1000015, SV.bool (s279.fst)), (1000014, (SV.int .i64) (a0.Kind)), (1000003, SV.ptr ((0 : Nat) + (1 : Nat) + (1 : Nat) + (1 : Nat) + (1 : Nat) + (1 : Nat) + (1 : Nat) + (1 : Nat) + (1 : Nat) + (1 : Nat)) []), (1000002, (SV.int .i64) ((0 : Int))), (1000001, SV.ptr (0 : Nat) []), (1000000, enc_TLxToken (a0))]) (fun (s303 : Int × Int) => [(31, Blk.var true (enc_Tlexer_reader (Tlexer_reader.mk a0.S s303.snd))), (9, Blk.var true (enc_TLxToken (TLxToken.mk a0.Kind a0.From a0.To s279.snd.fst s279.snd.snd))), (0, Blk.var true (enc_TLxToken (a0)))]) 96 h (subX_mk ⟨.refl _, .refl _, .refl _, .refl _, .refl _, .refl _, .refl _, .refl _, .refl _, .refl _, .refl _, .refl _, .refl _, .refl _, .refl _, .refl _, .refl _, .refl _, .refl _, .refl _, .refl _, .refl _, .refl _, .refl _, .refl _, .refl _, .refl _, .refl _, .refl _, .refl _, .refl _, .refl _, .refl _, .refl _, .refl _, .refl _, .refl _, .refl _, .refl _, .refl _, .refl _, trivial⟩ ⟨.refl, .refl, .refl, trivial⟩ rfl rfl rfl) (fun s303 rc303 C303 hC303 h => ?_)
                          conv => whnf
                          refine brkN h (fun e316 h => ?_) (fun e316 h => ?_)
                          · conv => whnf
                            refine arithO h fun x317 h => ?_
                            conv => whnf
                            refine sem_of_semG (fn := Tryz.f109) (cuts := []) ok Tryz.func109 (by kernel_rfl) rfl ?_
                            conv => whnf
                            refine brkO h (fun e319 h => ?_) (fun e319 h => ?_)
                            · conv => whnf
                              exact hC303 (((10 : Int), x317)) h _ _ _ (subX_mk ⟨.refl _, .refl _, .refl _, .refl _, .refl _, .refl _, .refl _, .refl _, .refl _, .refl _, .refl _, .refl _, .refl _, .refl _, .refl _, .refl _, .refl _, .refl _, .refl _, .refl _, .refl _, .refl _, .refl _, .refl _, .refl _, .refl _, .refl _, .refl _, .refl _, .refl _, .refl _, .refl _, .refl _, .refl _, .refl _, .refl _, .refl _, .refl _, .refl _, .refl _, .refl _, trivial⟩ ⟨.refl, .refl, .refl, trivial⟩ rfl rfl rfl)
                            · conv => whnf
                              refine byteOk h fun x320 h => ?_
                              conv => whnf
                              refine arithO h fun x321 h => ?_
                              conv => whnf
                              refine callOk (enc := (fun (x : Int × Int) => SV.tup [SV.int IntKind.i64 x.fst, SV.int IntKind.i64 x.snd])) h (fun _ hx => R_runes_Class hx) (fun x322 h => ?_)
                              conv => whnf
                              exact hC303 ((x322.fst, x317)) h _ _ _ (subX_mk ⟨.refl _, .refl _, .refl _, .refl _, .refl _, .refl _, .refl _, .refl _, .refl _, .refl _, .refl _, .refl _, .refl _, .refl _, .refl _, .refl _, .refl _, .refl _, .refl _, .refl _, .refl _, .refl _, .refl _, .refl _, .refl _, .refl _, .refl _, .refl _, .refl _, .refl _, .refl _, .refl _, .refl _, .refl _, .refl _, .refl _, .refl _, .refl _, .refl _, .refl _, .refl _, trivial⟩ ⟨.refl, .refl, .refl, trivial⟩ rfl rfl rfl)
                          · conv => whnf
                            refine brkO h (fun e323 h => ?_) (fun e323 h => ?_)
                            · conv => whnf
                              refine arithO h fun x324 h => ?_
                              conv => whnf
                              refine sem_of_semG (fn := Tryz.f109) (cuts := []) ok Tryz.func109 (by kernel_rfl) rfl ?_
                              conv => whnf
                              refine brkO h (fun e326 h => ?_) (fun e326 h => ?_)
                              · conv => whnf
                                exact hC303 (((10 : Int), x324)) h _ _ _ (subX_mk ⟨.refl _, .refl _, .refl _, .refl _, .refl _, .refl _, .refl _, .refl _, .refl _, .refl _, .refl _, .refl _, .refl _, .refl _, .refl _, .refl _, .refl _, .refl _, .refl _, .refl _, .refl _, .refl _, .refl _, .refl _, .refl _, .refl _, .refl _, .refl _, .refl _, .refl _, .refl _, .refl _, .refl _, .refl _, .refl _, .refl _, .refl _, .refl _, .refl _, .refl _, .refl _, trivial⟩ ⟨.refl, .refl, .refl, trivial⟩ rfl rfl rfl)
                              · conv => whnf
                                refine byteOk h fun x327 h => ?_
                                conv => whnf
                                refine arithO h fun x328 h => ?_
                                conv => whnf
                                refine callOk (enc := (fun (x : Int × Int) => SV.tup [SV.int IntKind.i64 x.fst, SV.int IntKind.i64 x.snd])) h (fun _ hx => R_runes_Class hx) (fun x329 h => ?_)
                                conv => whnf
                                exact hC303 ((x329.fst, x324)) h _ _ _ (subX_mk ⟨.refl _, .refl _, .refl _, .refl _, .refl _, .refl _, .refl _, .refl _, .refl _, .refl _, .refl _, .refl _, .refl _, .refl _, .refl _, .refl _, .refl _, .refl _, .refl _, .refl _, .refl _, .refl _, .refl _, .refl _, .refl _, .refl _, .refl _, .refl _, .refl _, .refl _, .refl _, .refl _, .refl _, .refl _, .refl _, .refl _, .refl _, .refl _, .refl _, .refl _, .refl _, trivial⟩ ⟨.refl, .refl, .refl, trivial⟩ rfl rfl rfl)
                            · conv => whnf
                              exact hN301 ((decide (s303.fst = (6 : Int)), s303)) h _ _ _ (subX_mk ⟨.refl _, .refl _, .refl _, .refl _, .refl _, .refl _, .refl _, .refl _, .refl _, .refl _, .refl _, .refl _, .refl _, .refl _, .refl _, .refl _, .refl _, .refl _, .refl _, .refl _, .refl _, .refl _, .refl _, .refl _, .refl _, .refl _, .refl _, .refl _, .refl _, .refl _, .refl _, .refl _, .refl _, .refl _, .refl _, .refl _, .refl _, .refl _, .refl _, .refl _, .refl _, .refl _, trivial⟩ ⟨.refl, .refl, .refl, trivial⟩ rfl rfl rfl)
                      · conv => whnf
                        refine ⟨?_, trivial⟩
                        conv => whnf
                        refine ⟨?_, trivial⟩
                        conv => whnf
                        refine sem_of_semG (fn := Tryz.f110) (cuts := [0]) ok Tryz.func110 (by kernel_rfl) rfl ?_
                        conv => whnf
                        refine sem_of_semG (fn := Tryz.f109) (cuts := []) ok Tryz.func109 (by kernel_rfl) rfl ?_
                        conv => whnf
                        refine ⟨fun e => absurd (e.symm.trans e291) (by decide), fun _ => ?_⟩
                        conv => whnf
                        refine byteOk h fun x298 h => ?_
                        conv => whnf
                        refine arithO h fun x299 h => ?_
                        conv => whnf
                        refine callOk (enc := (fun (x : Int × Int) => SV.tup [SV.int IntKind.i64 x.fst, SV.int IntKind.i64 x.snd])) h (fun _ hx => R_runes_Class hx) (fun x300 h => ?_)
                        conv => whnf
                        refine cutOk (fun (s301 : Bool × Int × Int) => [(26, SV.bool (s301.fst)), (8, (SV.int .i64) (s301.snd.fst)), (7, (SV.int .i64) ((0 : Int))), (6, SV.str ((ByteArray.mk #[]).data.toList)), (2, (SV.int .i64) ((6 : Int))), (1, (SV.int .i64) ((8 : Int))), (0, SV.ptr ((10 : Nat) + (1 : Nat) + (1 : Nat) + (1 : Nat) + (1 : Nat) + (1 : Nat) + (1 : Nat) + (1 : Nat) + (1 : Nat) + (1 : Nat) + (1 : Nat) + (1 : Nat) + (1 : Nat) + (1 : Nat) + (1 : Nat) + (1 : Nat) + (1 : Nat) + (1 : Nat) + (1 : Nat) + (1 : Nat) + (1 : Nat) + (1 : Nat)) []), (1000054, SV.str (a0.S)), (1000051, SV.ptr ((10 : Nat) + (1 : Nat) + (1 : Nat) + (1 : Nat) + (1 : Nat) + (1 : Nat) + (1 : Nat) + (1 : Nat) + (1 : Nat) + (1 : Nat) + (1 : Nat) + (1 : Nat) + (1 : Nat) + (1 : Nat) + (1 : Nat) + (1 : Nat) + (1 : Nat) + (1 : Nat) + (1 : Nat) + (1 : Nat) + (1 : Nat) + (1 : Nat)) []), (1000053, SV.ptr (0 : Nat) ([] ++ [Step.fld (4 : Nat) (4 : Nat)])), (1000050, SV.fls), (1000049, SV.bool (!decide (x294.fst = (8 : Int)))), (1000048, (SV.int .i64) (x294.fst)), (1000047, SV.ptr ((10 : Nat) + (1 : Nat) + (1 : Nat) + (1 : Nat) + (1 : Nat) + (1 : Nat) + (1 : Nat) + (1 : Nat) + (1 : Nat) + (1 : Nat) + (1 : Nat) + (1 : Nat) + (1 : Nat) + (1 : Nat) + (1 : Nat) + (1 : Nat) + (1 : Nat) + (1 : Nat) + (1 : Nat) + (1 : Nat) + (1 : Nat) + (1 : Nat)) []), (1000005, SV.ptr ((10 : Nat) + (1 : Nat) + (1 : Nat) + (1 : Nat) + (1 : Nat) + (1 : Nat) + (1 : Nat) + (1 : Nat) + (1 : Nat) + (1 : Nat) + (1 : Nat) + (1 : Nat) + (1 : Nat) + (1 : Nat) + (1 : Nat) + (1 : Nat) + (1 : Nat) + (1 : Nat) + (1 : Nat) + (1 : Nat) + (1 : Nat) + (1 : Nat)) []), (1000046, SV.ptr ((10 : Nat) + (1 : Nat) + (1 : Nat) + (1 : Nat) + (1 : Nat) + (1 : Nat) + (1 : Nat) + (1 : Nat) + (1 : Nat) + (1 : Nat) + (1 : Nat) + (1 : Nat) + (1 : Nat) + (1 : Nat) + (1 : Nat) + (1 : Nat) + (1 : Nat) + (1 : Nat) + (1 : Nat) + (1 : Nat) + (1 : Nat) + (1 : Nat)) []), (1000045, enc_Tlexer_reader (Tlexer_reader.mk a0.S (0 : Int))), (1000044, SV.str (a0.S)), (1000043, SV.ptr (0 : Nat) ([] ++ [Step.fld (4 : Nat) (4 : Nat)])), (1000041, SV.bool (decide (a0.Kind = (1 : Int)))), (1000042, SV.bool (decide (a0.Kind = (1 : Int)))), (1000040, (SV.int .i64) (a0.Kind)), (1000039, SV.ptr (0 : Nat) ([] ++ [Step.fld (0 : Nat) (0 : Nat)])), (1000004, (SV.int .i64) ((0 : Int))), (1000038, SV.bool (!(decide (a0.Kind = a0.Kind) && (decide (a0.From = a0.From) && (decide (a0.To = a0.To) && (decide (a0.N = s279.snd.fst) && (decide (a0.S = s279.snd.snd) && true))))))), (1000037, SV.bool (!(decide (a0.Kind = a0.Kind) && (decide (a0.From = a0.From) && (decide (a0.To = a0.To) && (decide (a0.N = s279.snd.fst) && (decide (a0.S = s279.snd.snd) && true))))))), (1000036, enc_TLxToken (TLxToken.mk a0.Kind a0.From a0.To s279.snd.fst s279.snd.snd)), (1000035, enc_TLxToken (a0)), (1000034, SV.fls), (1000033, SV.bool (decide ((9 : Int) < a0.Kind))), (1000032, SV.bool (decide ((9 : Int) < a0.Kind))), (1000031, (SV.int .i64) (a0.Kind)), (1000030, SV.ptr (0 : Nat) ([] ++ [Step.fld (0 : Nat) (0 : Nat)])), (1000029, SV.fls), (1000028, SV.bool (decide (a0.Kind < (1 : Int)))), (1000027, (SV.int .i64) (a0.Kind)), (1000026, SV.ptr (0 : Nat) ([] ++ [Step.fld (0 : Nat) (0 : Nat)])), (1000015, SV.bool (s279.fst)), (1000014, (SV.int .i64) (a0.Kind)), (1000003, SV.ptr ((0 : Nat) + (1 : Nat) + (1 : Nat) + (1 : Nat) + (1 : Nat) + (1 : Nat) + (1 : Nat) + (1 : Nat) + (1 : Nat) + (1 : Nat)) []), (1000002, (SV.int .i64) ((0 : Int))), (1000001, SV.ptr (0 : Nat) []), (1000000, enc_TLxToken (a0))]) (fun (s301 : Bool × Int × Int) => [(31, Blk.var true (enc_Tlexer_reader (Tlexer_reader.mk a0.S s301.snd.snd))), (9, Blk.var true (enc_TLxToken (TLxToken.mk a0.Kind a0.From a0.To s279.snd.fst s279.snd.snd))), (0, Blk.var true (enc_TLxToken (a0)))]) 32 h (fun s301 h => ?_) (fun K301 hN301 hE301 h => ?_)
                        · conv => whnf
                          refine ⟨by (conv => whnf); trivial, ?_⟩
                          conv => whnf
                          refine sideOk h fun _ h => ?_
                          conv => whnf
                          refine ⟨?_, trivial⟩
                          conv => whnf
                          refine ⟨?_, trivial⟩
                          conv => whnf
                          refine brkO h (fun e330 h => ?_) (fun e330 h => ?_)
                          · conv => whnf
                            refine hE287 _ _ _ _ ?_
                            conv => whnf
                            obtain rfl := Option.some.inj h
                            exact .refl _
                          · conv => whnf
                            exact hN287 ((16 : Int)) h _ _ _ (subX_mk ⟨.refl _, .refl _, .refl _, .refl _, .refl _, .refl _, .refl _, .refl _, .refl _, .refl _, trivial⟩ ⟨.refl, .refl, trivial⟩ rfl rfl rfl)
                        · conv => whnf
                          refine loopOk (fun (s303 : Int × Int) => [(8, (SV.int .i64) (s303.fst)), (7, (SV.int .i64) ((0 : Int))), (6, SV.str ((ByteArray.mk #[]).data.toList)), (2, (SV.int .i64) ((6 : Int))), (1, (SV.int .i64) ((8 : Int))), (0, SV.ptr ((10 : Nat) + (1 : Nat) + (1 : Nat) + (1 : Nat) + (1 : Nat) + (1 : Nat) + (1 : Nat) + (1 : Nat) + (1 : Nat) + (1 : Nat) + (1 : Nat) + (1 : Nat) + (1 : Nat) + (1 : Nat) + (1 : Nat) + (1 : Nat) + (1 : Nat) + (1 : Nat) + (1 : Nat) + (1 : Nat) + (1 : Nat) + (1 : Nat)) []), (1000054, SV.str (a0.S)), (1000051, SV.ptr ((10 : Nat) + (1 : Nat) + (1 : Nat) + (1 : Nat) + (1 : Nat) + (1 : Nat) + (1 : Nat) + (1 : Nat) + (1 : Nat) + (1 : Nat) + (1 : Nat) + (1 : Nat) + (1 : Nat) + (1 : Nat) + (1 : Nat) + (1 : Nat) + (1 : Nat) + (1 : Nat) + (1 : Nat) + (1 : Nat) + (1 : Nat) + (1 : Nat)) []), (1000053, SV.ptr (0 : Nat) ([] ++ [Step.fld (4 : Nat) (4 : Nat)])), (1000050, SV.fls), (1000049, SV.bool (!decide (x294.fst = (8 : Int)))), (1000048, (SV.int .i64) (x294.fst)), (1000047, SV.ptr ((10 : Nat) + (1 : Nat) + (1 : Nat) + (1 : Nat) + (1 : Nat) + (1 : Nat) + (1 : Nat) + (1 : Nat) + (1 : Nat) + (1 : Nat) + (1 : Nat) + (1 : Nat) + (1 : Nat) + (1 : Nat) + (1 : Nat) + (1 : Nat) + (1 : Nat) + (1 : Nat) + (1 : Nat) + (1 : Nat) + (1 : Nat) + (1 : Nat)) []), (1000005, SV.ptr ((10 : Nat) + (1 : Nat) + (1 : Nat) + (1 : Nat) + (1 : Nat) + (1 : Nat) + (1 : Nat) + (1 : Nat) + (1 : Nat) + (1 : Nat) + (1 : Nat) + (1 : Nat) + (1 : Nat) + (1 : Nat) + (1 : Nat) + (1 : Nat) + (1 : Nat) + (1 : Nat) + (1 : Nat) + (1 : Nat) + (1 : Nat) + (1 : Nat)) []), (1000046, SV.ptr ((10 : Nat) + (1 : Nat) + (1 : Nat) + (1 : Nat) + (1 : Nat) + (1 : Nat) + (1 : Nat) + (1 : Nat) + (1 : Nat) + (1 : Nat) + (1 : Nat) + (1 : Nat) + (1 : Nat) + (1 : Nat) + (1 : Nat) + (1 : Nat) + (1 : Nat) + (1 : Nat) + (1 : Nat) + (1 : Nat) + (1 : Nat) + (1 : Nat)) []), (1000045, enc_Tlexer_reader (Tlexer_reader.mk a0.S (0 : Int))), (1000044, SV.str (a0.S)), (1000043, SV.ptr (0 : Nat) ([] ++ [Step.fld (4 : Nat) (4 : Nat)])), (1000041, SV.bool (decide (a0.Kind = (1 : Int)))), (1000042, SV.bool (decide (a0.Kind = (1 : Int)))), (1000040, (SV.int .i64) (a0.Kind)), (1000039, SV.ptr (0 : Nat) ([] ++ [Step.fld (0 : Nat) (0 : Nat)])), (1000004, (SV.int .i64) ((0 : Int))), (1000038, SV.bool (!(decide (a0.Kind = a0.Kind) && (decide (a0.From = a0.From) && (decide (a0.To = a0.To) && (decide (a0.N = s279.snd.fst) && (decide (a0.S = s279.snd.snd) && true))))))), (1000037, SV.bool (!(decide (a0.Kind = a0.Kind) && (decide (a0.From = a0.From) && (decide (a0.To = a0.To) && (decide (a0.N = s279.snd.fst) && (decide (a0.S = s279.snd.snd) && true))))))), (1000036, enc_TLxToken (TLxToken.mk a0.Kind a0.From a0.To s279.snd.fst s279.snd.snd)), (1000035, enc_TLxToken (a0)), (1000034, SV.fls), (1000033, SV.bool (decide ((9 : Int) < a0.Kind))), (1000032, SV.bool (decide ((9 : Int) < a0.Kind))), (1000031, (SV.int .i64) (a0.Kind)), (1000030, SV.ptr (0 : Nat) ([] ++ [Step.fld (0 : Nat) (0 : Nat)])), (1000029, SV.fls), (1000028, SV.bool (decide (a0.Kind < (1 : Int)))), (1000027, (SV.int .i64) (a0.Kind)), (1000026, SV.ptr (0 : Nat) ([] ++ [Step.fld (0 : Nat) (0 : Nat)])), (1000015, SV.bool (s279.fst)), (1000014, (SV.int .i64) (a0.Kind)), (1000003, SV.ptr ((0 : Nat) + (1 : Nat) + (1 : Nat) + (1 : Nat) + (1 : Nat) + (1 : Nat) + (1 : Nat) + (1 : Nat) + (1 : Nat) + (1 : Nat)) []), (1000002, (SV.int .i64) ((0 : Int))), (1000001, SV.ptr (0 : Nat) []), (1000000, enc_TLxToken (a0))]) (fun (s303 : Int × Int) => [(31, Blk.var true (enc_Tlexer_reader (Tlexer_reader.mk a0.S s303.snd))), (9, Blk.var true (enc_TLxToken (TLxToken.mk a0.Kind a0.From a0.To s279.snd.fst s279.snd.snd))), (0, Blk.var true (enc_TLxToken (a0)))]) 97 h (subX_mk ⟨.refl _, .refl _, .refl _, .refl _, .refl _, .refl _, .refl _, .refl _, .refl _, .refl _, .refl _, .refl _, .refl _, .refl _, .refl _, .refl _, .refl _, .refl _, .refl _, .refl _, .refl _, .refl _, .refl _, .refl _, .refl _, .refl _, .refl _, .refl _, .refl _, .refl _, .refl _, .refl _, .refl _, .refl _, .refl _, .refl _, .refl _, .refl _, .refl _, .refl _, .refl _, .refl _, trivial⟩ ⟨.refl, .refl, .refl, trivial⟩ rfl rfl rfl) (fun s303 rc303 C303 hC303 h => ?_)
                          conv => whnf
                          refine brkN h (fun e316 h => ?_) (fun e316 h => ?_)
                          · conv => whnf
                            refine arithO h fun x317 h => ?_
                            conv => whnf
                            refine sem_of_semG (fn := Tryz.f109) (cuts := []) ok Tryz.func109 (by kernel_rfl) rfl ?_
                            conv => whnf
                            refine brkO h (fun e319 h => ?_) (fun e319 h => ?_)
                            · conv => whnf
                              exact hC303 (((10 : Int), x317)) h _ _ _ (subX_mk ⟨.refl _, .refl _, .refl _, .refl _, .refl _, .refl _, .refl _, .refl _, .refl _, .refl _, .refl _, .refl _, .refl _, .refl _, .refl _, .refl _, .refl _, .refl _, .refl _, .refl _, .refl _, .refl _, .refl _, .refl _, .refl _, .refl _, .refl _, .refl _, .refl _, .refl _, .refl _, .refl _, .refl _, .refl _, .refl _, .refl _, .refl _, .refl _, .refl _, .refl _, .refl _, .refl _, trivial⟩ ⟨.refl, .refl, .refl, trivial⟩ rfl rfl rfl)
                            · conv => whnf
                              refine byteOk h fun x320 h => ?_
                              conv => whnf
                              refine arithO h fun x321 h => ?_
                              conv => whnf
                              refine callOk (enc := (fun (x : Int × Int) => SV.tup [SV.int IntKind.i64 x.fst, SV.int IntKind.i64 x.snd])) h (fun _ hx => R_runes_Class hx) (fun x322 h => ?_)
                              conv => whnf
                              exact hC303 ((x322.fst, x317)) h _ _ _ (subX_mk ⟨.refl _, .refl _, .refl _, .refl _, .refl _, .refl _, .refl _, .refl _, .refl _, .refl _, .refl _, .refl _, .refl _, .refl _, .refl _, .refl _, .refl _, .refl _, .refl _, .refl _, .refl _, .refl _, .refl _, .refl _, .refl _, .refl _, .refl _, .refl _, .refl _, .refl _, .refl _, .refl _, .refl _, .refl _, .refl _, .refl _, .refl _, .refl _, .refl _, .refl _, .refl _, .refl _, trivial⟩ ⟨.refl, .refl, .refl, trivial⟩ rfl rfl rfl)
                          · conv => whnf
                            refine brkO h (fun e323 h => ?_) (fun e323 h => ?_)
                            · conv => whnf
                              refine arithO h fun x324 h => ?_
                              conv => whnf
                              refine sem_of_semG (fn := Tryz.f109) (cuts := []) ok Tryz.func109 (by kernel_rfl) rfl ?_
                              conv => whnf
                              refine brkO h (fun e326 h => ?_) (fun e326 h => ?_)
                              · conv => whnf
                                exact hC303 (((10 : Int), x324)) h _ _ _ (subX_mk ⟨.refl _, .refl _, .refl _, .refl _, .refl _, .refl _, .refl _, .refl _, .refl _, .refl _, .refl _, .refl _, .refl _, .refl _, .refl _, .refl _, .refl _, .refl _, .refl _, .refl _, .refl _, .refl _, .refl _, .refl _, .refl _, .refl _, .refl _, .refl _, .refl _, .refl _, .refl _, .refl _, .refl _, .refl _, .refl _, .refl _, .refl _, .refl _, .refl _, .refl _, .refl _, .refl _, trivial⟩ ⟨.refl, .refl, .refl, trivial⟩ rfl rfl rfl)
                              · conv => whnf
                                refine byteOk h fun x327 h => ?_
                                conv => whnf
                                refine arithO h fun x328 h => ?_
                                conv => whnf
                                refine callOk (enc := (fun (x : Int × Int) => SV.tup [SV.int IntKind.i64 x.fst, SV.int IntKind.i64 x.snd])) h (fun _ hx => R_runes_Class hx) (fun x329 h => ?_)
                                conv => whnf
                                exact hC303 ((x329.fst, x324)) h _ _ _ (subX_mk ⟨.refl _, .refl _, .refl _, .refl _, .refl _, .refl _, .refl _, .refl _, .refl _, .refl _, .refl _, .refl _, .refl _, .refl _, .refl _, .refl _, .refl _, .refl _, .refl _, .refl _, .refl _, .refl _, .refl _, .refl _, .refl _, .refl _, .refl _, .refl _, .refl _, .refl _, .refl _, .refl _, .refl _, .refl _, .refl _, .refl _, .refl _, .refl _, .refl _, .refl _, .refl _, .refl _, trivial⟩ ⟨.refl, .refl, .refl, trivial⟩ rfl rfl rfl)
                            · conv => whnf
                              exact hN301 ((decide (s303.fst = (6 : Int)), s303)) h _ _ _ (subX_mk ⟨.refl _, .refl _, .refl _, .refl _, .refl _, .refl _, .refl _, .refl _, .refl _, .refl _, .refl _, .refl _, .refl _, .refl _, .refl _, .refl _, .refl _, .refl _, .refl _, .refl _, .refl _, .refl _, .refl _, .refl _, .refl _, .refl _, .refl _, .refl _, .refl _, .refl _, .refl _, .refl _, .refl _, .refl _, .refl _, .refl _, .refl _, .refl _, .refl _, .refl _, .refl _, .refl _, .refl _, trivial⟩ ⟨.refl, .refl, .refl, trivial⟩ rfl rfl rfl)
                    · conv => whnf
                      refine ⟨?_, trivial⟩
                      conv => whnf
                      refine ⟨?_, trivial⟩
                      conv => whnf
                      refine ⟨?_, trivial⟩
                      conv => whnf
                      refine sem_of_semG (fn := Tryz.f110) (cuts := [0]) ok Tryz.func110 (by kernel_rfl) rfl ?_
                      conv => whnf
                      refine sem_of_semG (fn := Tryz.f109) (cuts := []) ok Tryz.func109 (by kernel_rfl) rfl ?_
                      conv => whnf
                      refine ⟨fun e => absurd (e.symm.trans e291) (by decide), fun _ => ?_⟩
                      conv => whnf
                      refine byteOk h fun x298 h => ?_
                      conv => whnf
                      refine arithO h fun x299 h => ?_
                      conv => whnf
                      refine callOk (enc := (fun (x : Int × Int) => SV.tup [SV.int IntKind.i64 x.fst, SV.int IntKind.i64 x.snd])) h (fun _ hx => R_runes_Class hx) (fun x300 h => ?_)
                      conv => whnf
                      refine cutOk (fun (s301 : Bool × Int × Int) => [(26, SV.bool (s301.fst)), (8, (SV.int .i64) (s301.snd.fst)), (7, (SV.int .i64) ((0 : Int))), (6, SV.str ((ByteArray.mk #[]).data.toList)), (2, (SV.int .i64) ((6 : Int))), (1, (SV.int .i64) ((8 : Int))), (0, SV.ptr ((10 : Nat) + (1 : Nat) + (1 : Nat) + (1 : Nat) + (1 : Nat) + (1 : Nat) + (1 : Nat) + (1 : Nat) + (1 : Nat) + (1 : Nat) + (1 : Nat) + (1 : Nat) + (1 : Nat) + (1 : Nat) + (1 : Nat) + (1 : Nat) + (1 : Nat) + (1 : Nat) + (1 : Nat) + (1 : Nat) + (1 : Nat) + (1 : Nat)) []), (1000051, SV.ptr ((10 : Nat) + (1 : Nat) + (1 : Nat) + (1 : Nat) + (1 : Nat) + (1 : Nat) + (1 : Nat) + (1 : Nat) + (1 : Nat) + (1 : Nat) + (1 : Nat) + (1 : Nat) + (1 : Nat) + (1 : Nat) + (1 : Nat) + (1 : Nat) + (1 : Nat) + (1 : Nat) + (1 : Nat) + (1 : Nat) + (1 : Nat) + (1 : Nat)) []), (1000054, SV.str (a0.S)), (1000053, SV.ptr (0 : Nat) ([] ++ [Step.fld (4 : Nat) (4 : Nat)])), (1000050, SV.fls), (1000049, SV.bool (!decide (x294.fst = (8 : Int)))), (1000048, (SV.int .i64) (x294.fst)), (1000047, SV.ptr ((10 : Nat) + (1 : Nat) + (1 : Nat) + (1 : Nat) + (1 : Nat) + (1 : Nat) + (1 : Nat) + (1 : Nat) + (1 : Nat) + (1 : Nat) + (1 : Nat) + (1 : Nat) + (1 : Nat) + (1 : Nat) + (1 : Nat) + (1 : Nat) + (1 : Nat) + (1 : Nat) + (1 : Nat) + (1 : Nat) + (1 : Nat) + (1 : Nat)) []), (1000005, SV.ptr ((10 : Nat) + (1 : Nat) + (1 : Nat) + (1 : Nat) + (1 : Nat) + (1 : Nat) + (1 : Nat) + (1 : Nat) + (1 : Nat) + (1 : Nat) + (1 : Nat) + (1 : Nat) + (1 : Nat) + (1 : Nat) + (1 : Nat) + (1 : Nat) + (1 : Nat) + (1 : Nat) + (1 : Nat) + (1 : Nat) + (1 : Nat) + (1 : Nat)) []), (1000046, SV.ptr ((10 : Nat) + (1 : Nat) + (1 : Nat) + (1 : Nat) + (1 : Nat) + (1 : Nat) + (1 : Nat) + (1 : Nat) + (1 : Nat) + (1 : Nat) + (1 : Nat) + (1 : Nat) + (1 : Nat) + (1 : Nat) + (1 : Nat) + (1 : Nat) + (1 : Nat) + (1 : Nat) + (1 : Nat) + (1 : Nat) + (1 : Nat) + (1 : Nat)) []), (1000045, enc_Tlexer_reader (Tlexer_reader.mk a0.S (0 : Int))), (1000044, SV.str (a0.S)), (1000043, SV.ptr (0 : Nat) ([] ++ [Step.fld (4 : Nat) (4 : Nat)])), (1000041, SV.bool (decide (a0.Kind = (1 : Int)))), (1000042, SV.bool (decide (a0.Kind = (1 : Int)))), (1000040, (SV.int .i64) (a0.Kind)), (1000039, SV.ptr (0 : Nat) ([] ++ [Step.fld (0 : Nat) (0 : Nat)])), (1000004, (SV.int .i64) ((0 : Int))), (1000038, SV.bool (!(decide (a0.Kind = a0.Kind) && (decide (a0.From = a0.From) && (decide (a0.To = a0.To) && (decide (a0.N = s279.snd.fst) && (decide (a0.S = s279.snd.snd) && true))))))), (1000037, SV.bool (!(decide (a0.Kind = a0.Kind) && (decide (a0.From = a0.From) && (decide (a0.To = a0.To) && (decide (a0.N = s279.snd.fst) && (decide (a0.S = s279.snd.snd) && true))))))), (1000036, enc_TLxToken (TLxToken.mk a0.Kind a0.From a0.To s279.snd.fst s279.snd.snd)), (1000035, enc_TLxToken (a0)), (1000034, SV.fls), (1000033, SV.bool (decide ((9 : Int) < a0.Kind))), (1000032, SV.bool (decide ((9 : Int) < a0.Kind))), (1000031, (SV.int .i64) (a0.Kind)), (1000030, SV.ptr (0 : Nat) ([] ++ [Step.fld (0 : Nat) (0 : Nat)])), (1000029, SV.fls), (1000028, SV.bool (decide (a0.Kind < (1 : Int)))), (1000027, (SV.int .i64) (a0.Kind)), (1000026, SV.ptr (0 : Nat) ([] ++ [Step.fld (0 : Nat) (0 : Nat)])), (1000015, SV.bool (s279.fst)), (1000014, (SV.int .i64) (a0.Kind)), (1000003, SV.ptr ((0 : Nat) + (1 : Nat) + (1 : Nat) + (1 : Nat) + (1 : Nat) + (1 : Nat) + (1 : Nat) + (1 : Nat) + (1 : Nat) + (1 : Nat)) []), (1000002, (SV.int .i64) ((0 : Int))), (1000001, SV.ptr (0 : Nat) []), (1000000, enc_TLxToken (a0))]) (fun (s301 : Bool × Int × Int) => [(31, Blk.var true (enc_Tlexer_reader (Tlexer_reader.mk a0.S s301.snd.snd))), (9, Blk.var true (enc_TLxToken (TLxToken.mk a0.Kind a0.From a0.To s279.snd.fst s279.snd.snd))), (0, Blk.var true (enc_TLxToken (a0)))]) 32 h (fun s301 h => ?_) (fun K301 hN301 hE301 h => ?_)
                      · conv => whnf
                        refine ⟨by (conv => whnf); trivial, ?_⟩
                        conv => whnf
                        refine sideOk h fun _ h => ?_
                        conv => whnf
                        refine ⟨?_, trivial⟩
                        conv => whnf
                        refine ⟨?_, trivial⟩
                        conv => whnf
                        refine brkO h (fun e330 h => ?_) (fun e330 h => ?_)
                        · conv => whnf
                          refine hE287 _ _ _ _ ?_
                          conv => whnf
                          obtain rfl := Option.some.inj h
                          exact .refl _
                        · conv => whnf
                          exact hN287 ((16 : Int)) h _ _ _ (subX_mk ⟨.refl _, .refl _, .refl _, .refl _, .refl _, .refl _, .refl _, .refl _, .refl _, .refl _, trivial⟩ ⟨.refl, .refl, trivial⟩ rfl rfl rfl)
                      · conv => whnf
                        refine loopOk (fun (s303 : Int × Int) => [(8, (SV.int .i64) (s303.fst)), (7, (SV.int .i64) ((0 : Int))), (6, SV.str ((ByteArray.mk #[]).data.toList)), (2, (SV.int .i64) ((6 : Int))), (1, (SV.int .i64) ((8 : Int))), (0, SV.ptr ((10 : Nat) + (1 : Nat) + (1 : Nat) + (1 : Nat) + (1 : Nat) + (1 : Nat) + (1 : Nat) + (1 : Nat) + (1 : Nat) + (1 : Nat) + (1 : Nat) + (1 : Nat) + (1 : Nat) + (1 : Nat) + (1 : Nat) + (1 : Nat) + (1 : Nat) + (1 : Nat) + (1 : Nat) + (1 : Nat) + (1 : Nat) + (1 : Nat)) []), (1000051, SV.ptr ((10 : Nat) + (1 : Nat) + (1 : Nat) + (1 : Nat) + (1 : Nat) + (1 : Nat) + (1 : Nat) + (1 : Nat) + (1 : Nat) + (1 : Nat) + (1 : Nat) + (1 : Nat) + (1 : Nat) + (1 : Nat) + (1 : Nat) + (1 : Nat) + (1 : Nat) + (1 : Nat) + (1 : Nat) + (1 : Nat) + (1 : Nat) + (1 : Nat)) []), (1000054, SV.str (a0.S)), (1000053, SV.ptr (0 : Nat) ([] ++ [Step.fld (4 : Nat) (4 : Nat)])), (1000050, SV.fls), (1000049, SV.bool (!decide (x294.fst = (8 : Int)))), (1000048, (SV.int .i64) (x294.fst)), (1000047, SV.ptr ((10 : Nat) + (1 : Nat) + (1 : Nat) + (1 : Nat) + (1 : Nat) + (1 : Nat) + (1 : Nat) + (1 : Nat) + (1 : Nat) + (1 : Nat) + (1 : Nat) + (1 : Nat) + (1 : Nat) + (1 : Nat) + (1 : Nat) + (1 : Nat) + (1 : Nat) + (1 : Nat) + (1 : Nat) + (1 : Nat) + (1 : Nat) + (1 : Nat)) []), (1000005, SV.ptr ((10 : Nat) + (1 : Nat) + (1 : Nat) + (1 : Nat) + (1 : Nat) + (1 : Nat) + (1 : Nat) + (1 : Nat) + (1 : Nat) + (1 : Nat) + (1 : Nat) + (1 : Nat) + (1 : Nat) + (1 : Nat) + (1 : Nat) + (1 : Nat) + (1 : Nat) + (1 : Nat) + (1 : Nat) + (1 : Nat) + (1 : Nat) + (1 : Nat)) []), (1000046, SV.ptr ((10 : Nat) + (1 : Nat) + (1 : Nat) + (1 : Nat) + (1 : Nat) + (1 : Nat) + (1 : Nat) + (1 : Nat) + (1 : Nat) + (1 : Nat) + (1 : Nat) + (1 : Nat) + (1 : Nat) + (1 : Nat) + (1 : Nat) + (1 : Nat) + (1 : Nat) + (1 : Nat) + (1 : Nat) + (1 : Nat) + (1 : Nat) + (1 : Nat)) []), (1000045, enc_Tlexer_reader (Tlexer_reader.mk a0.S (0 : Int))), (1000044, SV.str (a0.S)), (1000043, SV.ptr (0 : Nat) ([] ++ [Step.fld (4 : Nat) (4 : Nat)])), (1000041, SV.bool (decide (a0.Kind = (1 : Int)))), (1000042, SV.bool (decide (a0.Kind = (1 : Int)))), (1000040, (SV.int .i64) (a0.Kind)), (1000039, SV.ptr (0 : Nat) ([] ++ [Step.fld (0 : Nat) (0 : Nat)])), (1000004, (SV.int .i64) ((0 : Int))), (1000038, SV.bool (!(decide (a0.Kind = a0.Kind) && (decide (a0.From = a0.From) && (decide (a0.To = a0.To) && (decide (a0.N = s279.snd.fst) && (decide (a0.S = s279.snd.snd) && true))))))), (1000037, SV.bool (!(decide (a0.Kind = a0.Kind) && (decide (a0.From = a0.From) && (decide (a0.To = a0.To) && (decide (a0.N = s279.snd.fst) && (decide (a0.S = s279.snd.snd) && true))))))), (1000036, enc_TLxToken (TLxToken.mk a0.Kind a0.From a0.To s279.snd.fst s279.snd.snd)), (1000035, enc_TLxToken (a0)), (1000034, SV.fls), (1000033, SV.bool (decide ((9 : Int) < a0.Kind))), (1000032, SV.bool (decide ((9 : Int) < a0.Kind))), (1000031, (SV.int .i64) (a0.Kind)), (1000030, SV.ptr (0 : Nat) ([] ++ [Step.fld (0 : Nat) (0 : Nat)])), (1000029, SV.fls), (1000028, SV.bool (decide (a0.Kind < (1 : Int)))), (1000027, (SV.int .i64) (a0.Kind)), (1000026, SV.ptr (0 : Nat) ([] ++ [Step.fld (0 : Nat) (0 : Nat)])), (1000015, SV.bool (s279.fst)), (1000014, (SV.int .i64) (a0.Kind)), (1000003, SV.ptr ((0 : Nat) + (1 : Nat) + (1 : Nat) + (1 : Nat) + (1 : Nat) + (1 : Nat) + (1 : Nat) + (1 : Nat) + (1 : Nat) + (1 : Nat)) []), (1000002, (SV.int .i64) ((0 : Int))), (1000001, SV.ptr (0 : Nat) []), (1000000, enc_TLxToken (a0))]) (fun (s303 : Int × Int) => [(31, Blk.var true (enc_Tlexer_reader (Tlexer_reader.mk a0.S s303.snd))), (9, Blk.var true (enc_TLxToken (TLxToken.mk a0.Kind a0.From a0.To s279.snd.fst s279.snd.snd))), (0, Blk.var true (enc_TLxToken (a0)))]) 97 h (subX_mk ⟨.refl _, .refl _, .refl _, .refl _, .refl _, .refl _, .refl _, .refl _, .refl _, .refl _, .refl _, .refl _, .refl _, .refl _, .refl _, .refl _, .refl _, .refl _, .refl _, .refl _, .refl _, .refl _, .refl _, .refl _, .refl _, .refl _, .refl _, .refl _, .refl _, .refl _, .refl _, .refl _, .refl _, .refl _, .refl _, .refl _, .refl _, .refl _, .refl _, .refl _, .refl _, .refl _, trivial⟩ ⟨.refl, .refl, .refl, trivial⟩ rfl rfl rfl) (fun s303 rc303 C303 hC303 h => ?_)
                        conv => whnf
                        refine brkN h (fun e316 h => ?_) (fun e316 h => ?_)
                        · conv => whnf
                          refine arithO h fun x317 h => ?_
                          conv => whnf
                          refine sem_of_semG (fn := Tryz.f109) (cuts := []) ok Tryz.func109 (by kernel_rfl) rfl ?_
                          conv => whnf
                          refine brkO h (fun e319 h => ?_) (fun e319 h => ?_)
                          · conv => whnf
                            exact hC303 (((10 : Int), x317)) h _ _ _ (subX_mk ⟨.refl _, .refl _, .refl _, .refl _, .refl _, .refl _, .refl _, .refl _, .refl _, .refl _, .refl _, .refl _, .refl _, .refl _, .refl _, .refl _, .refl _, .refl _, .refl _, .refl _, .refl _, .refl _, .refl _, .refl _, .refl _, .refl _, .refl _, .refl _, .refl _, .refl _, .refl _, .refl _, .refl _, .refl _, .refl _, .refl _, .refl _, .refl _, .refl _, .refl _, .refl _, .refl _, trivial⟩ ⟨.refl, .refl, .refl, trivial⟩ rfl rfl rfl)
                          · conv => whnf
                            refine byteOk h fun x320 h => ?_
                            conv => whnf
                            refine arithO h fun x321 h => ?_
                            conv => whnf
                            refine callOk (enc := (fun (x : Int × Int) => SV.tup [SV.int IntKind.i64 x.fst, SV.int IntKind.i64 x.snd])) h (fun _ hx => R_runes_Class hx) (fun x322 h => ?_)
                            conv => whnf
                            exact hC303 ((x322.fst, x317)) h _ _ _ (subX_mk ⟨.refl _, .refl _, .refl _, .refl _, .refl _, .refl _, .refl _, .refl _, .refl _, .refl _, .refl _, .refl _, .refl _, .refl _, .refl _, .refl _, .refl _, .refl _, .refl _, .refl _, .refl _, .refl _, .refl _, .refl _, .refl _, .refl _, .refl _, .refl _, .refl _, .refl _, .refl _, .refl _, .refl _, .refl _, .refl _, .refl _, .refl _, .refl _, .refl _, .refl _, .refl _, .refl _, trivial⟩ ⟨.refl, .refl, .refl, trivial⟩ rfl rfl rfl)
                        · conv => whnf
                          refine brkO h (fun e323 h => ?_) (fun e323 h => ?_)
                          · conv => whnf
                            refine arithO h fun x324 h => ?_
                            conv => whnf
                            refine sem_of_semG (fn := Tryz.f109) (cuts := []) ok Tryz.func109 (by kernel_rfl) rfl ?_
                            conv => whnf
                            refine brkO h (fun e326 h => ?_) (fun e326 h => ?_)
                            · conv => whnf
                              exact hC303 (((10 : Int), x324)) h _ _ _ (subX_mk ⟨.refl _, .refl _, .refl _, .refl _, .refl _, .refl _, .refl _, .refl _, .refl _, .refl _, .refl _, .refl _, .refl _, .refl _, .refl _, .refl _, .refl _, .refl _, .refl _, .refl _, .refl _, .refl _, .refl _, .refl _, .refl _, .refl _, .refl _, .refl _, .refl _, .refl _, .refl _, .refl _, .refl _, .refl _, .refl _, .refl _, .refl _, .refl _, .refl _, .refl _, .refl _, .refl _, trivial⟩ ⟨.refl, .refl, .refl, trivial⟩ rfl rfl rfl)
                            · conv => whnf
                              refine byteOk h fun x327 h => ?_
                              conv => whnf
                              refine arithO h fun x328 h => ?_
                              conv => whnf
                              refine callOk (enc := (fun (x : Int × Int) => SV.tup [SV.int IntKind.i64 x.fst, SV.int IntKind.i64 x.snd])) h (fun _ hx => R_runes_Class hx) (fun x329 h => ?_)
                              conv => whnf
                              exact hC303 ((x329.fst, x324)) h _ _ _ (subX_mk ⟨.refl _, .refl _, .refl _, .refl _, .refl _, .refl _, .refl _, .refl _, .refl _, .refl _, .refl _, .refl _, .refl _, .refl _, .refl _, .refl _, .refl _, .refl _, .refl _, .refl _, .refl _, .refl _, .refl _, .refl _, .refl _, .refl _, .refl _, .refl _, .refl _, .refl _, .refl _, .refl _, .refl _, .refl _, .refl _, .refl _, .refl _, .refl _, .refl _, .refl _, .refl _, .refl _, trivial⟩ ⟨.refl, .refl, .refl, trivial⟩ rfl rfl rfl)
                          · conv => whnf
                            exact hN301 ((decide (s303.fst = (6 : Int)), s303)) h _ _ _ (subX_mk ⟨.refl _, .refl _, .refl _, .refl _, .refl _, .refl _, .refl _, .refl _, .refl _, .refl _, .refl _, .refl _, .refl _, .refl _, .refl _, .refl _, .refl _, .refl _, .refl _, .refl _, .refl _, .refl _, .refl _, .refl _, .refl _, .refl _, .refl _, .refl _, .refl _, .refl _, .refl _, .refl _, .refl _, .refl _, .refl _, .refl _, .refl _, .refl _, .refl _, .refl _, .refl _, .refl _, .refl _, trivial⟩ ⟨.refl, .refl, .refl, trivial⟩ rfl rfl rfl)
            · conv => whnf
              refine brkO h (fun e331 h => ?_) (fun e331 h => ?_)
              · conv => whnf
                refine callOk (enc := SV.bool) h (fun _ hx => R_unicode_utf8_ValidString hx) (fun x332 h => ?_)
                conv => whnf
                refine brkO h (fun e333 h => ?_) (fun e333 h => ?_)
                · conv => whnf
                  refine hE287 _ _ _ _ ?_
                  conv => whnf
                  obtain rfl := Option.some.inj h
                  exact .refl _
                · conv => whnf
                  exact hN287 ((2000 : Int)) h _ _ _ (subX_mk ⟨.refl _, .refl _, .refl _, .refl _, .refl _, .refl _, .refl _, .refl _, .refl _, .refl _, trivial⟩ ⟨.refl, .refl, trivial⟩ rfl rfl rfl)
              · conv => whnf
                exact hN287 ((0 : Int)) h _ _ _ (subX_mk ⟨.refl _, .refl _, .refl _, .refl _, .refl _, .refl _, .refl _, .refl _, .refl _, .refl _, trivial⟩ ⟨.refl, .refl, trivial⟩ rfl rfl rfl)
  · conv => whnf
    refine brkO h (fun e281 h => ?_) (fun e281 h => ?_)
    · conv => whnf
      refine ⟨fun _ => ?_, fun e => absurd (e.symm.trans e281) (by decide)⟩
      conv => whnf
      exact hN279 ((decide (a0.Kind = (1 : Int)), (0 : Int), a0.S)) h _ _ _ (subX_mk ⟨.refl _, .refl _, .refl _, .refl _, .refl _, .refl _, trivial⟩ ⟨.refl, .refl, trivial⟩ rfl rfl rfl)
    · conv => whnf
      refine brkO h (fun e282 h => ?_) (fun e282 h => ?_)
      · conv => whnf
        exact hN279 ((decide (a0.Kind = (3 : Int)), (0 : Int), a0.S)) h _ _ _ (subX_mk ⟨.refl _, .refl _, .refl _, .refl _, .refl _, .refl _, trivial⟩ ⟨.refl, .refl, trivial⟩ rfl rfl rfl)
      · conv => whnf
        refine brkO h (fun e283 h => ?_) (fun e283 h => ?_)
        · conv => whnf
          exact hN279 ((decide (a0.Kind = (3 : Int)), a0.N, [])) h _ _ _ (subX_mk ⟨.refl _, .refl _, .refl _, .refl _, .refl _, .refl _, trivial⟩ ⟨.refl, .refl, trivial⟩ rfl rfl rfl)
        · conv => whnf
          exact hN279 ((decide (a0.Kind = (3 : Int)), (0 : Int), [])) h _ _ _ (subX_mk ⟨.refl _, .refl _, .refl _, .refl _, .refl _, .refl _, trivial⟩ ⟨.refl, .refl, trivial⟩ rfl rfl rfl)
theorem R_expr_Name {a0 : List UInt8} {r : Bool} (h : F_expr_Name a0 = some r) : Ret E F.expr_Name [SV.str a0] (SV.bool r) := by
  replace h := bindO h
  unfold F_expr_Name at h
  refine ret_of_fnG (fn := Tryz.f78) (cuts := []) ok Tryz.func78 (by kernel_rfl) rfl ?_
  conv => whnf
  refine brkO h (fun e224 h => ?_) (fun e224 h => ?_)
  · conv => whnf
    refine ⟨fun _ => ?_, fun e => absurd (e.symm.trans e224) (by decide)⟩
    conv => whnf
    obtain rfl := Option.some.inj h
    exact .refl _
  · conv => whnf
    refine brkO h (fun e225 h => ?_) (fun e225 h => ?_)
    · conv => whnf
      refine ⟨fun _ => ?_, fun e => absurd (e.symm.trans e225) (by decide)⟩
      conv => whnf
      obtain rfl := Option.some.inj h
      exact .refl _
    · conv => whnf
      refine brkO h (fun e226 h => ?_) (fun e226 h => ?_)
      · conv => whnf
        refine ⟨fun _ => ?_, fun e => absurd (e.symm.trans e226) (by decide)⟩
        conv => whnf
        obtain rfl := Option.some.inj h
        exact .refl _
      · conv => whnf
        refine brkO h (fun e227 h => ?_) (fun e227 h => ?_)
        · conv => whnf
          refine ⟨fun _ => ?_, fun e => absurd (e.symm.trans e227) (by decide)⟩
          conv => whnf
          obtain rfl := Option.some.inj h
          exact .refl _
        · conv => whnf
          refine brkO h (fun e228 h => ?_) (fun e228 h => ?_)
          · conv => whnf
            refine ⟨fun _ => ?_, fun e => absurd (e.symm.trans e228) (by decide)⟩
            conv => whnf
            obtain rfl := Option.some.inj h
            exact .refl _
          · conv => whnf
            refine brkO h (fun e229 h => ?_) (fun e229 h => ?_)
            · conv => whnf
              refine ⟨fun _ => ?_, fun e => absurd (e.symm.trans e229) (by decide)⟩
              conv => whnf
              obtain rfl := Option.some.inj h
              exact .refl _
            · conv => whnf
              refine brkO h (fun e230 h => ?_) (fun e230 h => ?_)
              · conv => whnf
                refine ⟨fun _ => ?_, fun e => absurd (e.symm.trans e230) (by decide)⟩
                conv => whnf
                obtain rfl := Option.some.inj h
                exact .refl _
              · conv => whnf
                refine brkO h (fun e231 h => ?_) (fun e231 h => ?_)
                · conv => whnf
                  refine ⟨fun _ => ?_, fun e => absurd (e.symm.trans e231) (by decide)⟩
                  conv => whnf
                  obtain rfl := Option.some.inj h
                  exact .refl _
                · conv => whnf
                  refine brkO h (fun e232 h => ?_) (fun e232 h => ?_)
                  · conv => whnf
                    refine ⟨fun _ => ?_, fun e => absurd (e.symm.trans e232) (by decide)⟩
                    conv => whnf
                    obtain rfl := Option.some.inj h
                    exact .refl _
                  · conv => whnf
                    refine brkO h (fun e233 h => ?_) (fun e233 h => ?_)
                    · conv => whnf
                      obtain rfl := Option.some.inj h
                      exact .refl _
                    · conv => whnf
                      refine callOk (enc := (fun (x : Int × Int) => SV.tup [SV.int IntKind.i64 x.fst, SV.int IntKind.i64 x.snd])) h (fun _ hx => R_prims_Find hx) (fun x277 h => ?_)
                      conv => whnf
                      refine brkO h (fun e278 h => ?_) (fun e278 h => ?_)
                      · conv => whnf
                        obtain rfl := Option.some.inj h
                        exact .refl _
                      · conv => whnf
                        refine callOk (enc := (SV.int .i64)) h (fun _ hx => R_lexer_Check hx) (fun x335 h => ?_)
                        conv => whnf
                        obtain rfl := Option.some.inj h
                        exact .refl _
theorem R_shapes_Check_1 {a0 : Int} {r : Bool} (h : F_shapes_Check_1 a0 = some r) : Ret E F.shapes_Check_1 [SV.int IntKind.i64 a0] (SV.bool r) := by
  replace h := bindO h
  unfold F_shapes_Check_1 at h
  refine ret_of_fnG (fn := Tryz.f152) (cuts := []) ok Tryz.func152 (by kernel_rfl) rfl ?_
  conv => whnf
  obtain rfl := Option.some.inj h
  exact .refl _
theorem R_slices_IndexFunc___int_int_ {a0 : List Int} {r : Int} (h : F_slices_IndexFunc___int_int_ a0 = some r) : Ret E F.slices_IndexFunc___int_int_ [encSl (1 : Nat) (SV.int IntKind.i64) a0, SV.fn (152 : Nat) []] (SV.int IntKind.i64 r) := by
  replace h := bindO h
  unfold F_slices_IndexFunc___int_int_ at h
  refine ret_of_fnG (fn := Tryz.f190) (cuts := [0]) ok Tryz.func190 (by kernel_rfl) rfl ?_
  conv => whnf
  refine cutOk (fun (s342 : Bool × Int) => [(9, SV.bool (s342.fst)), (8, (SV.int .i64) (s342.snd)), (7, (SV.int .i64) ((↑(List.length (List.map (SV.int IntKind.i64) a0)) : Int))), (4, (SV.int .i64) ((0 : Int))), (1, SV.fn (152 : Nat) []), (0, (encSl 1 (SV.int .i64)) (a0))]) (fun (s342 : Bool × Int) => []) 1 h (fun s342 h => ?_) (fun K342 hN342 hE342 h => ?_)
  · conv => whnf
    obtain rfl := Option.some.inj h
    exact .refl _
  · conv => whnf
    refine loopOk (fun (s344 : Int) => [(8, (SV.int .i64) (s344)), (7, (SV.int .i64) ((↑(List.length (List.map (SV.int IntKind.i64) a0)) : Int))), (4, (SV.int .i64) ((0 : Int))), (1, SV.fn (152 : Nat) []), (0, (encSl 1 (SV.int .i64)) (a0))]) (fun (s344 : Int) => []) 4 h (subX_mk ⟨.refl _, .refl _, .refl _, .refl _, .refl _, trivial⟩ trivial rfl rfl rfl) (fun s344 rc344 C344 hC344 h => ?_)
    conv => whnf
    refine brkO h (fun e349 h => ?_) (fun e349 h => ?_)
    · conv => whnf
      refine idxOk (SV.int .i64) h rfl fun x350 h => ?_
      conv => whnf
      refine callOk (enc := SV.bool) h (fun _ hx => R_shapes_Check_1 hx) (fun x351 h => ?_)
      conv => whnf
      refine brkO h (fun e352 h => ?_) (fun e352 h => ?_)
      · conv => whnf
        refine hE342 _ _ _ _ ?_
        conv => whnf
        obtain rfl := Option.some.inj h
        exact .refl _
      · conv => whnf
        refine arithO h fun x353 h => ?_
        conv => whnf
        exact hC344 (x353) h _ _ _ (subX_mk ⟨.refl _, .refl _, .refl _, .refl _, .refl _, trivial⟩ trivial rfl rfl rfl)
    · conv => whnf
      exact hN342 ((decide (s344 < (↑(List.length (List.map (SV.int IntKind.i64) a0)) : Int)), s344)) h _ _ _ (subX_mk ⟨.refl _, .refl _, .refl _, .refl _, .refl _, .refl _, trivial⟩ trivial rfl rfl rfl)
theorem R_slices_ContainsFunc___int_int_ {a0 : List Int} {r : Bool} (h : F_slices_ContainsFunc___int_int_ a0 = some r) : Ret E F.slices_ContainsFunc___int_int_ [encSl (1 : Nat) (SV.int IntKind.i64) a0, SV.fn (152 : Nat) []] (SV.bool r) := by
  replace h := bindO h
  unfold F_slices_ContainsFunc___int_int_ at h
  refine ret_of_fnG (fn := Tryz.f151) (cuts := []) ok Tryz.func151 (by kernel_rfl) rfl ?_
  conv => whnf
  refine callOk (enc := (SV.int .i64)) h (fun _ hx => R_slices_IndexFunc___int_int_ hx) (fun x354 h => ?_)
  conv => whnf
  obtain rfl := Option.some.inj h
  exact .refl _
theorem R_shapes_Check_2 {a0 : Int} {r : Bool} (h : F_shapes_Check_2 a0 = some r) : Ret E F.shapes_Check_2 [SV.int IntKind.i64 a0] (SV.bool r) := by
  replace h := bindO h
  unfold F_shapes_Check_2 at h
  refine ret_of_fnG (fn := Tryz.f153) (cuts := []) ok Tryz.func153 (by kernel_rfl) rfl ?_
  conv => whnf
  obtain rfl := Option.some.inj h
  exact .refl _
theorem R_slices_IndexFunc___int_int__v1 {a0 : List Int} {r : Int} (h : F_slices_IndexFunc___int_int__v1 a0 = some r) : Ret E F.slices_IndexFunc___int_int_ [encSl (1 : Nat) (SV.int IntKind.i64) a0, SV.fn (153 : Nat) []] (SV.int IntKind.i64 r) := by
  replace h := bindO h
  unfold F_slices_IndexFunc___int_int__v1 at h
  refine ret_of_fnG (fn := Tryz.f190) (cuts := [0]) ok Tryz.func190 (by kernel_rfl) rfl ?_
  conv => whnf
  refine cutOk (fun (s357 : Bool × Int) => [(9, SV.bool (s357.fst)), (8, (SV.int .i64) (s357.snd)), (7, (SV.int .i64) ((↑(List.length (List.map (SV.int IntKind.i64) a0)) : Int))), (4, (SV.int .i64) ((0 : Int))), (1, SV.fn (153 : Nat) []), (0, (encSl 1 (SV.int .i64)) (a0))]) (fun (s357 : Bool × Int) => []) 1 h (fun s357 h => ?_) (fun K357 hN357 hE357 h => ?_)
  · conv => whnf
    obtain rfl := Option.some.inj h
    exact .refl _
  · conv => whnf
    refine loopOk (fun (s359 : Int) => [(8, (SV.int .i64) (s359)), (7, (SV.int .i64) ((↑(List.length (List.map (SV.int IntKind.i64) a0)) : Int))), (4, (SV.int .i64) ((0 : Int))), (1, SV.fn (153 : Nat) []), (0, (encSl 1 (SV.int .i64)) (a0))]) (fun (s359 : Int) => []) 4 h (subX_mk ⟨.refl _, .refl _, .refl _, .refl _, .refl _, trivial⟩ trivial rfl rfl rfl) (fun s359 rc359 C359 hC359 h => ?_)
    conv => whnf
    refine brkO h (fun e364 h => ?_) (fun e364 h => ?_)
    · conv => whnf
      refine idxOk (SV.int .i64) h rfl fun x365 h => ?_
      conv => whnf
      refine callOk (enc := SV.bool) h (fun _ hx => R_shapes_Check_2 hx) (fun x366 h => ?_)
      conv => whnf
      refine brkO h (fun e367 h => ?_) (fun e367 h => ?_)
      · conv => whnf
        refine hE357 _ _ _ _ ?_
        conv => whnf
        obtain rfl := Option.some.inj h
        exact .refl _
      · conv => whnf
        refine arithO h fun x368 h => ?_
        conv => whnf
        exact hC359 (x368) h _ _ _ (subX_mk ⟨.refl _, .refl _, .refl _, .refl _, .refl _, trivial⟩ trivial rfl rfl rfl)
    · conv => whnf
      exact hN357 ((decide (s359 < (↑(List.length (List.map (SV.int IntKind.i64) a0)) : Int)), s359)) h _ _ _ (subX_mk ⟨.refl _, .refl _, .refl _, .refl _, .refl _, .refl _, trivial⟩ trivial rfl rfl rfl)
theorem R_slices_ContainsFunc___int_int__v1 {a0 : List Int} {r : Bool} (h : F_slices_ContainsFunc___int_int__v1 a0 = some r) : Ret E F.slices_ContainsFunc___int_int_ [encSl (1 : Nat) (SV.int IntKind.i64) a0, SV.fn (153 : Nat) []] (SV.bool r) := by
  replace h := bindO h
  unfold F_slices_ContainsFunc___int_int__v1 at h
  refine ret_of_fnG (fn := Tryz.f151) (cuts := []) ok Tryz.func151 (by kernel_rfl) rfl ?_
  conv => whnf
  refine callOk (enc := (SV.int .i64)) h (fun _ hx => R_slices_IndexFunc___int_int__v1 hx) (fun x369 h => ?_)
  conv => whnf
  obtain rfl := Option.some.inj h
  exact .refl _
theorem R_shapes_Check_3 {a0 : Int} {r : Bool} (h : F_shapes_Check_3 a0 = some r) : Ret E F.shapes_Check_3 [SV.int IntKind.i64 a0] (SV.bool r) := by
  replace h := bindO h
  unfold F_shapes_Check_3 at h
  refine ret_of_fnG (fn := Tryz.f154) (cuts := []) ok Tryz.func154 (by kernel_rfl) rfl ?_
  conv => whnf
  obtain rfl := Option.some.inj h
  exact .refl _
theorem R_slices_IndexFunc___int_int__v2 {a0 : List Int} {r : Int} (h : F_slices_IndexFunc___int_int__v2 a0 = some r) : Ret E F.slices_IndexFunc___int_int_ [encSl (1 : Nat) (SV.int IntKind.i64) a0, SV.fn (154 : Nat) []] (SV.int IntKind.i64 r) := by
  replace h := bindO h
  unfold F_slices_IndexFunc___int_int__v2 at h
  refine ret_of_fnG (fn := Tryz.f190) (cuts := [0]) ok Tryz.func190 (by kernel_rfl) rfl ?_
  conv => whnf
  refine cutOk (fun (s372 : Bool × Int) => [(9, SV.bool (s372.fst)), (8, (SV.int .i64) (s372.snd)), (7, (SV.int .i64) ((↑(List.length (List.map (SV.int IntKind.i64) a0)) : Int))), (4, (SV.int .i64) ((0 : Int))), (1, SV.fn (154 : Nat) []), (0, (encSl 1 (SV.int .i64)) (a0))]) (fun (s372 : Bool × Int) => []) 1 h (fun s372 h => ?_) (fun K372 hN372 hE372 h => ?_)
  · conv => whnf
    obtain rfl := Option.some.inj h
    exact .refl _
  · conv => whnf
    refine loopOk (fun (s374 : Int) => [(8, (SV.int .i64) (s374)), (7, (SV.int .i64) ((↑(List.length (List.map (SV.int IntKind.i64) a0)) : Int))), (4, (SV.int .i64) ((0 : Int))), (1, SV.fn (154 : Nat) []), (0, (encSl 1 (SV.int .i64)) (a0))]) (fun (s374 : Int) => []) 4 h (subX_mk ⟨.refl _, .refl _, .refl _, .refl _, .refl _, trivial⟩ trivial rfl rfl rfl) (fun s374 rc374 C374 hC374 h => ?_)
    conv => whnf
    refine brkO h (fun e379 h => ?_) (fun e379 h => ?_)
    · conv => whnf
      refine idxOk (SV.int .i64) h rfl fun x380 h => ?_
      conv => whnf
      refine callOk (enc := SV.bool) h (fun _ hx => R_shapes_Check_3 hx) (fun x381 h => ?_)
      conv => whnf
      refine brkO h (fun e382 h => ?_) (fun e382 h => ?_)
      · conv => whnf
        refine hE372 _ _ _ _ ?_
        conv => whnf
        obtain rfl := Option.some.inj h
        exact .refl _
      · conv => whnf
        refine arithO h fun x383 h => ?_
        conv => whnf
        exact hC374 (x383) h _ _ _ (subX_mk ⟨.refl _, .refl _, .refl _, .refl _, .refl _, trivial⟩ trivial rfl rfl rfl)
    · conv => whnf
      exact hN372 ((decide (s374 < (↑(List.length (List.map (SV.int IntKind.i64) a0)) : Int)), s374)) h _ _ _ (subX_mk ⟨.refl _, .refl _, .refl _, .refl _, .refl _, .refl _, trivial⟩ trivial rfl rfl rfl)
theorem R_slices_ContainsFunc___int_int__v2 {a0 : List Int} {r : Bool} (h : F_slices_ContainsFunc___int_int__v2 a0 = some r) : Ret E F.slices_ContainsFunc___int_int_ [encSl (1 : Nat) (SV.int IntKind.i64) a0, SV.fn (154 : Nat) []] (SV.bool r) := by
  replace h := bindO h
  unfold F_slices_ContainsFunc___int_int__v2 at h
  refine ret_of_fnG (fn := Tryz.f151) (cuts := []) ok Tryz.func151 (by kernel_rfl) rfl ?_
  conv => whnf
  refine callOk (enc := (SV.int .i64)) h (fun _ hx => R_slices_IndexFunc___int_int__v2 hx) (fun x384 h => ?_)
  conv => whnf
  obtain rfl := Option.some.inj h
  exact .refl _
theorem R_shapes_product {a0 : Int} {a1 : Int × Int} {r : Int} (h : F_shapes_product a0 a1 = some r) : Ret E F.shapes_product [SV.int IntKind.i64 a0, encA2 (1 : Nat) (SV.int IntKind.i64) a1] (SV.int IntKind.i64 r) := by
  replace h := bindO h
  unfold F_shapes_product at h
  refine ret_of_fnG (fn := Tryz.f113) (cuts := []) ok Tryz.func113 (by kernel_rfl) rfl ?_
  conv => whnf
  refine brkO h (fun e387 h => ?_) (fun e387 h => ?_)
  · conv => whnf
    refine side (by decide) ?_
    conv => whnf
    refine idx_some (by decide) rfl ?_
    conv => whnf
    refine arithO h fun x388 h => ?_
    conv => whnf
    refine side (by decide) ?_
    conv => whnf
    refine idx_some (by decide) rfl ?_
    conv => whnf
    refine arithO h fun x389 h => ?_
    conv => whnf
    obtain rfl := Option.some.inj h
    exact .refl _
  · conv => whnf
    refine brkO h (fun e390 h => ?_) (fun e390 h => ?_)
    · conv => whnf
      refine side (by decide) ?_
      conv => whnf
      refine idx_some (by decide) rfl ?_
      conv => whnf
      refine arithO h fun x391 h => ?_
      conv => whnf
      obtain rfl := Option.some.inj h
      exact .refl _
    · conv => whnf
      obtain rfl := Option.some.inj h
      exact .refl _
theorem R_shapes_Check {a0 : Int} {a1 : Int × Int} {r : Int} (h : F_shapes_Check a0 a1 = some r) : Ret E F.shapes_Check [SV.int IntKind.i64 a0, encA2 (1 : Nat) (SV.int IntKind.i64) a1] (SV.int IntKind.i64 r) := by
  replace h := bindO h
  unfold F_shapes_Check at h
  refine ret_of_fnG (fn := Tryz.f112) (cuts := []) ok Tryz.func112 (by kernel_rfl) rfl ?_
  conv => whnf
  refine brkN h (fun e340 h => ?_) (fun e340 h => ?_)
  · conv => whnf
    obtain rfl := Option.some.inj h
    exact .refl _
  · conv => whnf
    refine brkO h (fun e341 h => ?_) (fun e341 h => ?_)
    · conv => whnf
      obtain rfl := Option.some.inj h
      exact .refl _
    · conv => whnf
      refine ⟨by (conv => whnf); trivial, ?_⟩
      conv => whnf
      refine sideOk h fun _ h => ?_
      conv => whnf
      refine sideOk h fun _ h => ?_
      conv => whnf
      refine callOk (enc := SV.bool) h (fun _ hx => ret_args (R_slices_ContainsFunc___int_int_ hx) (WkT.wk (.sl (.of (by simp [encSl, encA, List.map_append, List.map_take, List.map_drop, List.map_set, List.map_replicate]))) rfl rfl rfl (WkT.same WkT.nil))) (fun x355 h => ?_)
      conv => whnf
      refine brkO h (fun e356 h => ?_) (fun e356 h => ?_)
      · conv => whnf
        obtain rfl := Option.some.inj h
        exact .refl _
      · conv => whnf
        refine callOk (enc := SV.bool) h (fun _ hx => ret_args (R_slices_ContainsFunc___int_int__v1 hx) (WkT.wk (.sl (.of (by simp [encSl, encA, List.map_append, List.map_take, List.map_drop, List.map_set, List.map_replicate]))) rfl rfl rfl (WkT.same WkT.nil))) (fun x370 h => ?_)
        conv => whnf
        refine brkO h (fun e371 h => ?_) (fun e371 h => ?_)
        · conv => whnf
          obtain rfl := Option.some.inj h
          exact .refl _
        · conv => whnf
          refine callOk (enc := SV.bool) h (fun _ hx => ret_args (R_slices_ContainsFunc___int_int__v2 hx) (WkT.wk (.sl (.of (by simp [encSl, encA, List.map_append, List.map_take, List.map_drop, List.map_set, List.map_replicate]))) rfl rfl rfl (WkT.same WkT.nil))) (fun x385 h => ?_)
          conv => whnf
          refine brkO h (fun e386 h => ?_) (fun e386 h => ?_)
          · conv => whnf
            refine ⟨fun _ => ?_, fun e => absurd (e.symm.trans e386) (by decide)⟩
            conv => whnf
            obtain rfl := Option.some.inj h
            exact .refl _
          · conv => whnf
            refine callOk (enc := (SV.int .i64)) h (fun _ hx => R_shapes_product hx) (fun x392 h => ?_)
            conv => whnf
            refine brkO h (fun e393 h => ?_) (fun e393 h => ?_)
            · conv => whnf
              obtain rfl := Option.some.inj h
              exact .refl _
            · conv => whnf
              obtain rfl := Option.some.inj h
              exact .refl _
theorem R_shapes_Cells {a0 : Int} {a1 : Int × Int} {r : Int × Int} (h : F_shapes_Cells a0 a1 = some r) : Ret E F.shapes_Cells [SV.int IntKind.i64 a0, encA2 (1 : Nat) (SV.int IntKind.i64) a1] (SV.tup [SV.int IntKind.i64 r.fst, SV.int IntKind.i64 r.snd]) := by
  replace h := bindO h
  unfold F_shapes_Cells at h
  refine ret_of_fnG (fn := Tryz.f94) (cuts := []) ok Tryz.func94 (by kernel_rfl) rfl ?_
  conv => whnf
  refine callOk (enc := (SV.int .i64)) h (fun _ hx => R_shapes_Check hx) (fun x394 h => ?_)
  conv => whnf
  refine brkO h (fun e395 h => ?_) (fun e395 h => ?_)
  · conv => whnf
    obtain rfl := Option.some.inj h
    exact .refl _
  · conv => whnf
    refine callOk (enc := (SV.int .i64)) h (fun _ hx => R_shapes_product hx) (fun x396 h => ?_)
    conv => whnf
    obtain rfl := Option.some.inj h
    exact .refl _
theorem R_arrays_right {a0 : Int} {a1 : Int} {r : Bool} (h : F_arrays_right a0 a1 = some r) : Ret E F.arrays_right [SV.int IntKind.i64 a0, SV.int IntKind.i64 a1] (SV.bool r) := by
  replace h := bindO h
  unfold F_arrays_right at h
  refine ret_of_fnG (fn := Tryz.f97) (cuts := []) ok Tryz.func97 (by kernel_rfl) rfl ?_
  conv => whnf
  refine brkN h (fun e404 h => ?_) (fun e404 h => ?_)
  · conv => whnf
    obtain rfl := Option.some.inj h
    exact .refl _
  · conv => whnf
    refine brkO h (fun e405 h => ?_) (fun e405 h => ?_)
    · conv => whnf
      refine brkO h (fun e406 h => ?_) (fun e406 h => ?_)
      · conv => whnf
        refine arithO h fun x407 h => ?_
        conv => whnf
        refine callOk (enc := SV.bool) h (fun _ hx => R_unicode_utf8_ValidRune hx) (fun x408 h => ?_)
        conv => whnf
        obtain rfl := Option.some.inj h
        exact .refl _
      · conv => whnf
        obtain rfl := Option.some.inj h
        exact .refl _
    · conv => whnf
      obtain rfl := Option.some.inj h
      exact .refl _
theorem R_arrays_Check_1 {a0 : Int} {a1 : TArray} {r : Bool} (h : F_arrays_Check_1 a0 a1 = some r) : Ret E F.arrays_Check_1 [SV.int IntKind.i64 a0, encP enc_TArray a1] (SV.bool r) := by
  replace h := bindO h
  unfold F_arrays_Check_1 at h
  refine ret_of_fnG (fn := Tryz.f96) (cuts := []) ok Tryz.func96 (by kernel_rfl) rfl ?_
  conv => whnf
  refine callOk (enc := SV.bool) h (fun _ hx => R_arrays_right hx) (fun x409 h => ?_)
  conv => whnf
  obtain rfl := Option.some.inj h
  exact .refl _
theorem R_slices_IndexFunc___int64_int64_ {a0 : List Int} {a1 : TArray} {r : Int} (h : F_slices_IndexFunc___int64_int64_ a0 a1 = some r) : Ret E F.slices_IndexFunc___int64_int64_ [encSl (1 : Nat) (SV.int IntKind.i64) a0, SV.fn (96 : Nat) [encP enc_TArray a1]] (SV.int IntKind.i64 r) := by
  replace h := bindO h
  unfold F_slices_IndexFunc___int64_int64_ at h
  refine ret_of_fnG (fn := Tryz.f114) (cuts := [0]) ok Tryz.func114 (by kernel_rfl) rfl ?_
  conv => whnf
  refine cutOk (fun (s400 : Bool × Int) => [(9, SV.bool (s400.fst)), (8, (SV.int .i64) (s400.snd)), (7, (SV.int .i64) ((↑(List.length (List.map (SV.int IntKind.i64) a0)) : Int))), (4, (SV.int .i64) ((0 : Int))), (1, SV.fn (96 : Nat) [encP enc_TArray a1]), (0, (encSl 1 (SV.int .i64)) (a0))]) (fun (s400 : Bool × Int) => []) 1 h (fun s400 h => ?_) (fun K400 hN400 hE400 h => ?_)
  · conv => whnf
    obtain rfl := Option.some.inj h
    exact .refl _
  · conv => whnf
    refine loopOk (fun (s402 : Int) => [(8, (SV.int .i64) (s402)), (7, (SV.int .i64) ((↑(List.length (List.map (SV.int IntKind.i64) a0)) : Int))), (4, (SV.int .i64) ((0 : Int))), (1, SV.fn (96 : Nat) [encP enc_TArray a1]), (0, (encSl 1 (SV.int .i64)) (a0))]) (fun (s402 : Int) => []) 4 h (subX_mk ⟨.refl _, .refl _, .refl _, .refl _, .refl _, trivial⟩ trivial rfl rfl rfl) (fun s402 rc402 C402 hC402 h => ?_)
    conv => whnf
    refine brkO h (fun e407 h => ?_) (fun e407 h => ?_)
    · conv => whnf
      refine idxOk (SV.int .i64) h rfl fun x408 h => ?_
      conv => whnf
      refine callOk (enc := SV.bool) h (fun _ hx => R_arrays_Check_1 hx) (fun x409 h => ?_)
      conv => whnf
      refine brkO h (fun e410 h => ?_) (fun e410 h => ?_)
      · conv => whnf
        refine hE400 _ _ _ _ ?_
        conv => whnf
        obtain rfl := Option.some.inj h
        exact .refl _
      · conv => whnf
        refine arithO h fun x411 h => ?_
        conv => whnf
        exact hC402 (x411) h _ _ _ (subX_mk ⟨.refl _, .refl _, .refl _, .refl _, .refl _, trivial⟩ trivial rfl rfl rfl)
    · conv => whnf
      exact hN400 ((decide (s402 < (↑(List.length (List.map (SV.int IntKind.i64) a0)) : Int)), s402)) h _ _ _ (subX_mk ⟨.refl _, .refl _, .refl _, .refl _, .refl _, .refl _, trivial⟩ trivial rfl rfl rfl)
theorem R_slices_ContainsFunc___int64_int64_ {a0 : List Int} {a1 : TArray} {r : Bool} (h : F_slices_ContainsFunc___int64_int64_ a0 a1 = some r) : Ret E F.slices_ContainsFunc___int64_int64_ [encSl (1 : Nat) (SV.int IntKind.i64) a0, SV.fn (96 : Nat) [encP enc_TArray a1]] (SV.bool r) := by
  replace h := bindO h
  unfold F_slices_ContainsFunc___int64_int64_ at h
  refine ret_of_fnG (fn := Tryz.f95) (cuts := []) ok Tryz.func95 (by kernel_rfl) rfl ?_
  conv => whnf
  refine callOk (enc := (SV.int .i64)) h (fun _ hx => R_slices_IndexFunc___int64_int64_ hx) (fun x412 h => ?_)
  conv => whnf
  obtain rfl := Option.some.inj h
  exact .refl _
theorem R_arrays_Check {a0 : TArray} {r : Int} (h : F_arrays_Check a0 = some r) : Ret E F.arrays_Check [enc_TArray a0] (SV.int IntKind.i64 r) := by
  replace h := bindO h
  unfold F_arrays_Check at h
  refine ret_of_fnG (fn := Tryz.f79) (cuts := []) ok Tryz.func79 (by kernel_rfl) rfl ?_
  conv => whnf
  refine brkO h (fun e338 h => ?_) (fun e338 h => ?_)
  · conv => whnf
    refine brkO h (fun e339 h => ?_) (fun e339 h => ?_)
    · conv => whnf
      obtain rfl := Option.some.inj h
      exact .refl _
    · conv => whnf
      refine callOk (enc := (fun (x : Int × Int) => SV.tup [SV.int IntKind.i64 x.fst, SV.int IntKind.i64 x.snd])) h (fun _ hx => R_shapes_Cells hx) (fun x397 h => ?_)
      conv => whnf
      refine brkO h (fun e398 h => ?_) (fun e398 h => ?_)
      · conv => whnf
        obtain rfl := Option.some.inj h
        exact .refl _
      · conv => whnf
        refine brkO h (fun e399 h => ?_) (fun e399 h => ?_)
        · conv => whnf
          obtain rfl := Option.some.inj h
          exact .refl _
        · conv => whnf
          refine callOk (enc := SV.bool) h (fun _ hx => R_slices_ContainsFunc___int64_int64_ hx) (fun x413 h => ?_)
          conv => whnf
          refine brkO h (fun e414 h => ?_) (fun e414 h => ?_)
          · conv => whnf
            obtain rfl := Option.some.inj h
            exact .refl _
          · conv => whnf
            obtain rfl := Option.some.inj h
            exact .refl _
  · conv => whnf
    refine callOk (enc := (fun (x : Int × Int) => SV.tup [SV.int IntKind.i64 x.fst, SV.int IntKind.i64 x.snd])) h (fun _ hx => R_shapes_Cells hx) (fun x415 h => ?_)
    conv => whnf
    refine brkO h (fun e416 h => ?_) (fun e416 h => ?_)
    · conv => whnf
      obtain rfl := Option.some.inj h
      exact .refl _
    · conv => whnf
      refine brkO h (fun e417 h => ?_) (fun e417 h => ?_)
      · conv => whnf
        obtain rfl := Option.some.inj h
        exact .refl _
      · conv => whnf
        refine callOk (enc := SV.bool) h (fun _ hx => R_slices_ContainsFunc___int64_int64_ hx) (fun x418 h => ?_)
        conv => whnf
        refine brkO h (fun e419 h => ?_) (fun e419 h => ?_)
        · conv => whnf
          obtain rfl := Option.some.inj h
          exact .refl _
        · conv => whnf
          obtain rfl := Option.some.inj h
          exact .refl _
theorem R_slices_Equal___int64_int64_ {a0 : List Int} {a1 : List Int} {r : Bool} (h : F_slices_Equal___int64_int64_ a0 a1 = some r) : Ret E F.slices_Equal___int64_int64_ [encSl (1 : Nat) (SV.int IntKind.i64) a0, encSl (1 : Nat) (SV.int IntKind.i64) a1] (SV.bool r) := by
  replace h := bindO h
  unfold F_slices_Equal___int64_int64_ at h
  refine ret_of_fnG (fn := Tryz.f88) (cuts := [0]) ok Tryz.func88 (by kernel_rfl) rfl ?_
  conv => whnf
  refine brkO h (fun e426 h => ?_) (fun e426 h => ?_)
  · conv => whnf
    obtain rfl := Option.some.inj h
    exact .refl _
  · conv => whnf
    refine cutOk (fun (s427 : Bool × Int) => [(14, SV.bool (s427.fst)), (13, (SV.int .i64) (s427.snd)), (12, (SV.int .i64) ((↑(List.length (List.map (SV.int IntKind.i64) a0)) : Int))), (10, SV.bool (!decide ((↑(List.length (List.map (SV.int IntKind.i64) a0)) : Int) = (↑(List.length (List.map (SV.int IntKind.i64) a1)) : Int)))), (4, SV.fls), (1, (encSl 1 (SV.int .i64)) (a1)), (0, (encSl 1 (SV.int .i64)) (a0))]) (fun (s427 : Bool × Int) => []) 1 h (fun s427 h => ?_) (fun K427 hN427 hE427 h => ?_)
    · conv => whnf
      obtain rfl := Option.some.inj h
      exact .refl _
    · conv => whnf
      refine loopOk (fun (s429 : Int) => [(13, (SV.int .i64) (s429)), (12, (SV.int .i64) ((↑(List.length (List.map (SV.int IntKind.i64) a0)) : Int))), (10, SV.bool (!decide ((↑(List.length (List.map (SV.int IntKind.i64) a0)) : Int) = (↑(List.length (List.map (SV.int IntKind.i64) a1)) : Int)))), (4, SV.fls), (1, (encSl 1 (SV.int .i64)) (a1)), (0, (encSl 1 (SV.int .i64)) (a0))]) (fun (s429 : Int) => []) 9 h (subX_mk ⟨.refl _, .refl _, .refl _, .refl _, .refl _, .refl _, trivial⟩ trivial rfl rfl rfl) (fun s429 rc429 C429 hC429 h => ?_)
      conv => whnf
      refine brkO h (fun e434 h => ?_) (fun e434 h => ?_)
      · conv => whnf
        refine ⟨by (conv => whnf); trivial, ?_⟩
        conv => whnf
        refine idxOk (SV.int .i64) h rfl fun x435 h => ?_
        conv => whnf
        refine idxOk (SV.int .i64) h rfl fun x436 h => ?_
        conv => whnf
        refine brkO h (fun e437 h => ?_) (fun e437 h => ?_)
        · conv => whnf
          refine hE427 _ _ _ _ ?_
          conv => whnf
          obtain rfl := Option.some.inj h
          exact .refl _
        · conv => whnf
          refine arithO h fun x438 h => ?_
          conv => whnf
          exact hC429 (x438) h _ _ _ (subX_mk ⟨.refl _, .refl _, .refl _, .refl _, .refl _, .refl _, trivial⟩ trivial rfl rfl rfl)
      · conv => whnf
        exact hN427 ((decide (s429 < (↑(List.length (List.map (SV.int IntKind.i64) a0)) : Int)), s429)) h _ _ _ (subX_mk ⟨.refl _, .refl _, .refl _, .refl _, .refl _, .refl _, .refl _, trivial⟩ trivial rfl rfl rfl)
theorem R_view_sameArray {a0 : TArray} {a1 : TArray} {r : Bool} (h : F_view_sameArray a0 a1 = some r) : Ret E F.view_sameArray [enc_TArray a0, enc_TArray a1] (SV.bool r) := by
  replace h := bindO h
  unfold F_view_sameArray at h
  refine ret_of_fnG (fn := Tryz.f66) (cuts := []) ok Tryz.func66 (by kernel_rfl) rfl ?_
  conv => whnf
  refine brkO h (fun e423 h => ?_) (fun e423 h => ?_)
  · conv => whnf
    refine brkO h (fun e424 h => ?_) (fun e424 h => ?_)
    · conv => whnf
      refine brkO h (fun e425 h => ?_) (fun e425 h => ?_)
      · conv => whnf
        refine callOk (enc := SV.bool) h (fun _ hx => R_slices_Equal___int64_int64_ hx) (fun x439 h => ?_)
        conv => whnf
        obtain rfl := Option.some.inj h
        exact .refl _
      · conv => whnf
        obtain rfl := Option.some.inj h
        exact .refl _
    · conv => whnf
      obtain rfl := Option.some.inj h
      exact .refl _
  · conv => whnf
    obtain rfl := Option.some.inj h
    exact .refl _
theorem R_view_bad {a0 : TLattice} {a1 : TEvEvent} {a2 : Int} {a3 : Int} {a4 : Bool} {r : Int} (h : F_view_bad a0 a1 a2 a3 a4 = some r) : Ret E F.view_bad [enc_TLattice a0, enc_TEvEvent a1, SV.int IntKind.i64 a2, SV.int IntKind.i64 a3, SV.bool a4] (SV.int IntKind.i64 r) := by
  replace h := bindO h
  unfold F_view_bad at h
  refine ret_of_fnG (fn := Tryz.f54) (cuts := []) ok Tryz.func54 (by kernel_rfl) rfl ?_
  conv => whnf
  refine callOk (enc := SV.bool) h (fun _ hx => R_view_label hx) (fun x213 h => ?_)
  conv => whnf
  refine brkO h (fun e214 h => ?_) (fun e214 h => ?_)
  · conv => whnf
    refine ⟨fun _ => ?_, fun e => absurd (e.symm.trans e214) (by decide)⟩
    conv => whnf
    obtain rfl := Option.some.inj h
    exact .refl _
  · conv => whnf
    refine brkO h (fun e215 h => ?_) (fun e215 h => ?_)
    · conv => whnf
      refine ⟨fun _ => ?_, fun e => absurd (e.symm.trans e215) (by decide)⟩
      conv => whnf
      obtain rfl := Option.some.inj h
      exact .refl _
    · conv => whnf
      refine brkO h (fun e216 h => ?_) (fun e216 h => ?_)
      · conv => whnf
        refine ⟨fun _ => ?_, fun e => absurd (e.symm.trans e216) (by decide)⟩
        conv => whnf
        obtain rfl := Option.some.inj h
        exact .refl _
      · conv => whnf
        refine brkO h (fun e217 h => ?_) (fun e217 h => ?_)
        · conv => whnf
          refine ⟨fun _ => ?_, fun e => absurd (e.symm.trans e217) (by decide)⟩
          conv => whnf
          obtain rfl := Option.some.inj h
          exact .refl _
        · conv => whnf
          refine brkO h (fun e218 h => ?_) (fun e218 h => ?_)
          · conv => whnf
            obtain rfl := Option.some.inj h
            exact .refl _
          · conv => whnf
            refine brkO h (fun e219 h => ?_) (fun e219 h => ?_)
            · conv => whnf
              refine ⟨fun _ => ?_, fun e => absurd (e.symm.trans e219) (by decide)⟩
              conv => whnf
              obtain rfl := Option.some.inj h
              exact .refl _
            · conv => whnf
              refine brkO h (fun e220 h => ?_) (fun e220 h => ?_)
              · conv => whnf
                refine ⟨fun _ => ?_, fun e => absurd (e.symm.trans e220) (by decide)⟩
                conv => whnf
                obtain rfl := Option.some.inj h
                exact .refl _
              · conv => whnf
                refine brkO h (fun e221 h => ?_) (fun e221 h => ?_)
                · conv => whnf
                  refine ⟨fun _ => ?_, fun e => absurd (e.symm.trans e221) (by decide)⟩
                  conv => whnf
                  obtain rfl := Option.some.inj h
                  exact .refl _
                · conv => whnf
                  refine brkO h (fun e222 h => ?_) (fun e222 h => ?_)
                  · conv => whnf
                    obtain rfl := Option.some.inj h
                    exact .refl _
                  · conv => whnf
                    refine brkO h (fun e223 h => ?_) (fun e223 h => ?_)
                    · conv => whnf
                      refine callOk (enc := SV.bool) h (fun _ hx => R_expr_Name hx) (fun x336 h => ?_)
                      conv => whnf
                      refine brkN h (fun e337 h => ?_) (fun e337 h => ?_)
                      · conv => whnf
                        obtain rfl := Option.some.inj h
                        exact .refl _
                      · conv => whnf
                        refine callOk (enc := (SV.int .i64)) h (fun _ hx => R_arrays_Check hx) (fun x420 h => ?_)
                        conv => whnf
                        refine brkO h (fun e421 h => ?_) (fun e421 h => ?_)
                        · conv => whnf
                          obtain rfl := Option.some.inj h
                          exact .refl _
                        · conv => whnf
                          obtain rfl := Option.some.inj h
                          exact .refl _
                    · conv => whnf
                      refine brkO h (fun e422 h => ?_) (fun e422 h => ?_)
                      · conv => whnf
                        refine ⟨fun _ => ?_, fun e => absurd (e.symm.trans e422) (by decide)⟩
                        conv => whnf
                        obtain rfl := Option.some.inj h
                        exact .refl _
                      · conv => whnf
                        refine callOk (enc := SV.bool) h (fun _ hx => ret_args (R_view_sameArray hx) (WkT.same (WkT.wk (.agg (.cons .refl (.cons .refl (.cons .refl (.cons .nils .nil))))) rfl rfl rfl WkT.nil))) (fun x440 h => ?_)
                        conv => whnf
                        refine brkO h (fun e441 h => ?_) (fun e441 h => ?_)
                        · conv => whnf
                          obtain rfl := Option.some.inj h
                          exact .refl _
                        · conv => whnf
                          obtain rfl := Option.some.inj h
                          exact .refl _
theorem R_view_Check {a0 : TLattice} {a1 : TEvTrace} {r : Int × Int} (h : F_view_Check a0 a1 = some r) : Ret E F.view_Check [enc_TLattice a0, enc_TEvTrace a1] (SV.tup [SV.int IntKind.i64 r.fst, SV.int IntKind.i64 r.snd]) := by
  replace h := bindO h
  unfold F_view_Check at h
  refine ret_of_fnG (fn := Tryz.f26) (cuts := [0, 2]) ok Tryz.func26 (by kernel_rfl) rfl ?_
  conv => whnf
  refine callOk (enc := (fun (x : Int × Int) => SV.tup [SV.int IntKind.i64 x.fst, SV.int IntKind.i64 x.snd])) h (fun _ hx => R_lattice_Check hx) (fun x204 h => ?_)
  conv => whnf
  refine brkO h (fun e205 h => ?_) (fun e205 h => ?_)
  · conv => whnf
    obtain rfl := Option.some.inj h
    exact .refl _
  · conv => whnf
    refine brkO h (fun e206 h => ?_) (fun e206 h => ?_)
    · conv => whnf
      obtain rfl := Option.some.inj h
      exact .refl _
    · conv => whnf
      refine ⟨by (conv => whnf); trivial, ?_⟩
      conv => whnf
      refine arithO h fun x207 h => ?_
      conv => whnf
      refine cutOk (fun (s208 : Bool × Int × Int) => [(35, SV.bool (s208.fst)), (34, (SV.int .i64) (s208.snd.fst)), (33, (SV.int .i64) ((↑(List.length (List.map enc_TEvEvent a1.Events)) : Int))), (32, (encSl 11 enc_TEvEvent) (a1.Events)), (9, (SV.int .i64) (x207)), (8, (SV.int .i64) (s208.snd.snd)), (26, SV.bool (decide ((↑(List.length (List.map enc_TEvEvent a1.Events)) : Int) = (0 : Int)))), (21, SV.bool (!decide (x204.snd = (0 : Int)))), (7, (SV.int .i64) (x204.snd)), (5, (SV.int .i64) ((0 : Int))), (4, (SV.int .i64) ((0 : Int))), (3, SV.ptr ((0 : Nat) + (1 : Nat)) []), (2, SV.ptr (0 : Nat) []), (1, enc_TEvTrace (a1)), (0, enc_TLattice (a0))]) (fun (s208 : Bool × Int × Int) => [(1, Blk.var true (enc_TEvTrace (a1))), (0, Blk.var true (enc_TLattice (a0)))]) 2 h (fun s208 h => ?_) (fun K208 hN208 hE208 h => ?_)
      · conv => whnf
        refine cutOk (fun (s220 : Bool × Int) => [(59, SV.bool (s220.fst)), (58, (SV.int .i64) (s220.snd)), (57, (SV.int .i64) ((↑(List.length (List.map enc_TReEntry a1.Log)) : Int))), (56, (encSl 7 enc_TReEntry) (a1.Log)), (35, SV.bool (s208.fst)), (34, (SV.int .i64) (s208.snd.fst)), (33, (SV.int .i64) ((↑(List.length (List.map enc_TEvEvent a1.Events)) : Int))), (32, (encSl 11 enc_TEvEvent) (a1.Events)), (9, (SV.int .i64) (x207)), (8, (SV.int .i64) (s208.snd.snd)), (26, SV.bool (decide ((↑(List.length (List.map enc_TEvEvent a1.Events)) : Int) = (0 : Int)))), (21, SV.bool (!decide (x204.snd = (0 : Int)))), (7, (SV.int .i64) (x204.snd)), (5, (SV.int .i64) ((0 : Int))), (4, (SV.int .i64) ((0 : Int))), (3, SV.ptr ((0 : Nat) + (1 : Nat)) []), (2, SV.ptr (0 : Nat) []), (1, enc_TEvTrace (a1)), (0, enc_TLattice (a0))]) (fun (s220 : Bool × Int) => [(1, Blk.var true (enc_TEvTrace (a1))), (0, Blk.var true (enc_TLattice (a0)))]) 2 h (fun s220 h => ?_) (fun K220 hN220 hE220 h => ?_)
        · conv => whnf
          obtain rfl := Option.some.inj h
          exact .refl _
        · conv => whnf
          refine loopOk (fun (s222 : Int) => [(58, (SV.int .i64) (s222)), (57, (SV.int .i64) ((↑(List.length (List.map enc_TReEntry a1.Log)) : Int))), (56, (encSl 7 enc_TReEntry) (a1.Log)), (35, SV.bool (s208.fst)), (34, (SV.int .i64) (s208.snd.fst)), (33, (SV.int .i64) ((↑(List.length (List.map enc_TEvEvent a1.Events)) : Int))), (32, (encSl 11 enc_TEvEvent) (a1.Events)), (9, (SV.int .i64) (x207)), (8, (SV.int .i64) (s208.snd.snd)), (26, SV.bool (decide ((↑(List.length (List.map enc_TEvEvent a1.Events)) : Int) = (0 : Int)))), (21, SV.bool (!decide (x204.snd = (0 : Int)))), (7, (SV.int .i64) (x204.snd)), (5, (SV.int .i64) ((0 : Int))), (4, (SV.int .i64) ((0 : Int))), (3, SV.ptr ((0 : Nat) + (1 : Nat)) []), (2, SV.ptr (0 : Nat) []), (1, enc_TEvTrace (a1)), (0, enc_TLattice (a0))]) (fun (s222 : Int) => [(1, Blk.var true (enc_TEvTrace (a1))), (0, Blk.var true (enc_TLattice (a0)))]) 6 h (subX_mk ⟨.refl _, .refl _, .refl _, .refl _, .refl _, .refl _, .refl _, .refl _, .refl _, .refl _, .refl _, .refl _, .refl _, .refl _, .refl _, .refl _, .refl _, .refl _, trivial⟩ ⟨.refl, .refl, trivial⟩ rfl rfl rfl) (fun s222 rc222 C222 hC222 h => ?_)
          conv => whnf
          refine brkO h (fun e237 h => ?_) (fun e237 h => ?_)
          · conv => whnf
            refine idxOk enc_TReEntry h rfl fun x238 h => ?_
            conv => whnf
            refine callOk (enc := SV.bool) h (fun _ hx => R_view_label hx) (fun x239 h => ?_)
            conv => whnf
            refine brkO h (fun e240 h => ?_) (fun e240 h => ?_)
            · conv => whnf
              refine ⟨fun _ => ?_, fun e => absurd (e.symm.trans e240) (by decide)⟩
              conv => whnf
              refine hE220 _ _ _ _ ?_
              conv => whnf
              obtain rfl := Option.some.inj h
              exact .refl _
            · conv => whnf
              refine callOk (enc := SV.bool) h (fun _ hx => R_view_label hx) (fun x241 h => ?_)
              conv => whnf
              refine brkO h (fun e242 h => ?_) (fun e242 h => ?_)
              · conv => whnf
                refine hE220 _ _ _ _ ?_
                conv => whnf
                obtain rfl := Option.some.inj h
                exact .refl _
              · conv => whnf
                refine brkO h (fun e243 h => ?_) (fun e243 h => ?_)
                · conv => whnf
                  refine ⟨fun _ => ?_, fun e => absurd (e.symm.trans e243) (by decide)⟩
                  conv => whnf
                  refine hE220 _ _ _ _ ?_
                  conv => whnf
                  obtain rfl := Option.some.inj h
                  exact .refl _
                · conv => whnf
                  refine brkO h (fun e244 h => ?_) (fun e244 h => ?_)
                  · conv => whnf
                    refine ⟨fun _ => ?_, fun e => absurd (e.symm.trans e244) (by decide)⟩
                    conv => whnf
                    refine hE220 _ _ _ _ ?_
                    conv => whnf
                    obtain rfl := Option.some.inj h
                    exact .refl _
                  · conv => whnf
                    refine brkO h (fun e245 h => ?_) (fun e245 h => ?_)
                    · conv => whnf
                      refine ⟨fun _ => ?_, fun e => absurd (e.symm.trans e245) (by decide)⟩
                      conv => whnf
                      refine hE220 _ _ _ _ ?_
                      conv => whnf
                      obtain rfl := Option.some.inj h
                      exact .refl _
                    · conv => whnf
                      refine brkO h (fun e246 h => ?_) (fun e246 h => ?_)
                      · conv => whnf
                        refine ⟨fun _ => ?_, fun e => absurd (e.symm.trans e246) (by decide)⟩
                        conv => whnf
                        refine hE220 _ _ _ _ ?_
                        conv => whnf
                        obtain rfl := Option.some.inj h
                        exact .refl _
                      · conv => whnf
                        refine brkO h (fun e247 h => ?_) (fun e247 h => ?_)
                        · conv => whnf
                          refine ⟨fun _ => ?_, fun e => absurd (e.symm.trans e247) (by decide)⟩
                          conv => whnf
                          refine hE220 _ _ _ _ ?_
                          conv => whnf
                          obtain rfl := Option.some.inj h
                          exact .refl _
                        · conv => whnf
                          refine brkO h (fun e248 h => ?_) (fun e248 h => ?_)
                          · conv => whnf
                            refine hE220 _ _ _ _ ?_
                            conv => whnf
                            obtain rfl := Option.some.inj h
                            exact .refl _
                          · conv => whnf
                            refine side (by decide) ?_
                            conv => whnf
                            refine idx_some (by decide) rfl ?_
                            conv => whnf
                            refine brkO h (fun e249 h => ?_) (fun e249 h => ?_)
                            · conv => whnf
                              refine brkO h (fun e250 h => ?_) (fun e250 h => ?_)
                              · conv => whnf
                                refine hE220 _ _ _ _ ?_
                                conv => whnf
                                obtain rfl := Option.some.inj h
                                exact .refl _
                              · conv => whnf
                                refine arithO h fun x251 h => ?_
                                conv => whnf
                                exact hC222 (x251) h _ _ _ (subX_mk ⟨.refl _, .refl _, .refl _, .refl _, .refl _, .refl _, .refl _, .refl _, .refl _, .refl _, .refl _, .refl _, .refl _, .refl _, .refl _, .refl _, .refl _, .refl _, trivial⟩ ⟨.refl, .refl, trivial⟩ rfl rfl rfl)
                            · conv => whnf
                              refine arithO h fun x252 h => ?_
                              conv => whnf
                              exact hC222 (x252) h _ _ _ (subX_mk ⟨.refl _, .refl _, .refl _, .refl _, .refl _, .refl _, .refl _, .refl _, .refl _, .refl _, .refl _, .refl _, .refl _, .refl _, .refl _, .refl _, .refl _, .refl _, trivial⟩ ⟨.refl, .refl, trivial⟩ rfl rfl rfl)
          · conv => whnf
            exact hN220 ((decide (s222 < (↑(List.length (List.map enc_TReEntry a1.Log)) : Int)), s222)) h _ _ _ (subX_mk ⟨.refl _, .refl _, .refl _, .refl _, .refl _, .refl _, .refl _, .refl _, .refl _, .refl _, .refl _, .refl _, .refl _, .refl _, .refl _, .refl _, .refl _, .refl _, .refl _, trivial⟩ ⟨.refl, .refl, trivial⟩ rfl rfl rfl)
      · conv => whnf
        refine loopOk (fun (s210 : Int × Int) => [(34, (SV.int .i64) (s210.fst)), (33, (SV.int .i64) ((↑(List.length (List.map enc_TEvEvent a1.Events)) : Int))), (32, (encSl 11 enc_TEvEvent) (a1.Events)), (9, (SV.int .i64) (x207)), (8, (SV.int .i64) (s210.snd)), (26, SV.bool (decide ((↑(List.length (List.map enc_TEvEvent a1.Events)) : Int) = (0 : Int)))), (21, SV.bool (!decide (x204.snd = (0 : Int)))), (7, (SV.int .i64) (x204.snd)), (5, (SV.int .i64) ((0 : Int))), (4, (SV.int .i64) ((0 : Int))), (3, SV.ptr ((0 : Nat) + (1 : Nat)) []), (2, SV.ptr (0 : Nat) []), (1, enc_TEvTrace (a1)), (0, enc_TLattice (a0))]) (fun (s210 : Int × Int) => [(1, Blk.var true (enc_TEvTrace (a1))), (0, Blk.var true (enc_TLattice (a0)))]) 27 h (subX_mk ⟨.refl _, .refl _, .refl _, .refl _, .refl _, .refl _, .refl _, .refl _, .refl _, .refl _, .refl _, .refl _, .refl _, .refl _, trivial⟩ ⟨.refl, .refl, trivial⟩ rfl rfl rfl) (fun s210 rc210 C210 hC210 h => ?_)
        conv => whnf
        refine brkO h (fun e215 h => ?_) (fun e215 h => ?_)
        · conv => whnf
          refine idxOk enc_TEvEvent h rfl fun x216 h => ?_
          conv => whnf
          refine callOk (enc := (SV.int .i64)) h (fun _ hx => R_view_bad hx) (fun x217 h => ?_)
          conv => whnf
          refine brkO h (fun e218 h => ?_) (fun e218 h => ?_)
          · conv => whnf
            refine hE208 _ _ _ _ ?_
            conv => whnf
            obtain rfl := Option.some.inj h
            exact .refl _
          · conv => whnf
            refine arithO h fun x219 h => ?_
            conv => whnf
            exact hC210 ((x219, x216.Steps)) h _ _ _ (subX_mk ⟨.refl _, .refl _, .refl _, .refl _, .refl _, .refl _, .refl _, .refl _, .refl _, .refl _, .refl _, .refl _, .refl _, .refl _, trivial⟩ ⟨.refl, .refl, trivial⟩ rfl rfl rfl)
        · conv => whnf
          exact hN208 ((decide (s210.fst < (↑(List.length (List.map enc_TEvEvent a1.Events)) : Int)), s210)) h _ _ _ (subX_mk ⟨.refl _, .refl _, .refl _, .refl _, .refl _, .refl _, .refl _, .refl _, .refl _, .refl _, .refl _, .refl _, .refl _, .refl _, .refl _, trivial⟩ ⟨.refl, .refl, trivial⟩ rfl rfl rfl)
theorem R_view_asked {a0 : TLattice} {a1 : Int} {a2 : List TEvTrace} {r : Int} (h : F_view_asked a0 a1 a2 = some r) : Ret E F.view_asked [enc_TLattice a0, SV.int IntKind.i64 a1, encSl (4 : Nat) enc_TEvTrace a2] (SV.int IntKind.i64 r) := by
  replace h := bindO h
  unfold F_view_asked at h
  refine ret_of_fnG (fn := Tryz.f38) (cuts := [0]) ok Tryz.func38 (by kernel_rfl) rfl ?_
  conv => whnf
  refine cutOk (fun (s37 : Bool × Int) => [(14, SV.bool (s37.fst)), (13, (SV.int .i64) (s37.snd)), (12, (SV.int .i64) ((↑(List.length (List.map enc_TEvTrace a2)) : Int))), (11, (encSl 4 enc_TEvTrace) (a2)), (6, (SV.int .i64) ((0 : Int))), (3, SV.ptr (0 : Nat) []), (2, (encSl 4 enc_TEvTrace) (a2)), (1, (SV.int .i64) (a1)), (0, enc_TLattice (a0))]) (fun (s37 : Bool × Int) => [(0, Blk.var true (enc_TLattice (a0)))]) 1 h (fun s37 h => ?_) (fun K37 hN37 hE37 h => ?_)
  · conv => whnf
    refine callOk (enc := SV.bool) h (fun _ hx => R_view_label hx) (fun x49 h => ?_)
    conv => whnf
    refine brkO h (fun e50 h => ?_) (fun e50 h => ?_)
    · conv => whnf
      obtain rfl := Option.some.inj h
      exact .refl _
    · conv => whnf
      obtain rfl := Option.some.inj h
      exact .refl _
  · conv => whnf
    refine loopOk (fun (s39 : Int) => [(13, (SV.int .i64) (s39)), (12, (SV.int .i64) ((↑(List.length (List.map enc_TEvTrace a2)) : Int))), (11, (encSl 4 enc_TEvTrace) (a2)), (6, (SV.int .i64) ((0 : Int))), (3, SV.ptr (0 : Nat) []), (2, (encSl 4 enc_TEvTrace) (a2)), (1, (SV.int .i64) (a1)), (0, enc_TLattice (a0))]) (fun (s39 : Int) => [(0, Blk.var true (enc_TLattice (a0)))]) 5 h (subX_mk ⟨.refl _, .refl _, .refl _, .refl _, .refl _, .refl _, .refl _, .refl _, trivial⟩ ⟨.refl, trivial⟩ rfl rfl rfl) (fun s39 rc39 C39 hC39 h => ?_)
    conv => whnf
    refine brkO h (fun e44 h => ?_) (fun e44 h => ?_)
    · conv => whnf
      refine idxOk enc_TEvTrace h rfl fun x45 h => ?_
      conv => whnf
      refine callOk (enc := (fun (x : Int × Int) => SV.tup [SV.int IntKind.i64 x.fst, SV.int IntKind.i64 x.snd])) h (fun _ hx => R_view_Check hx) (fun x46 h => ?_)
      conv => whnf
      refine brkO h (fun e47 h => ?_) (fun e47 h => ?_)
      · conv => whnf
        refine hE37 _ _ _ _ ?_
        conv => whnf
        obtain rfl := Option.some.inj h
        exact .refl _
      · conv => whnf
        refine arithO h fun x48 h => ?_
        conv => whnf
        exact hC39 (x48) h _ _ _ (subX_mk ⟨.refl _, .refl _, .refl _, .refl _, .refl _, .refl _, .refl _, .refl _, trivial⟩ ⟨.refl, trivial⟩ rfl rfl rfl)
    · conv => whnf
      exact hN37 ((decide (s39 < (↑(List.length (List.map enc_TEvTrace a2)) : Int)), s39)) h _ _ _ (subX_mk ⟨.refl _, .refl _, .refl _, .refl _, .refl _, .refl _, .refl _, .refl _, .refl _, trivial⟩ ⟨.refl, trivial⟩ rfl rfl rfl)
theorem R_view_seen_api_EvEvent_ {a0 : TLattice} {a1 : Int} {a2 : List TEvEvent} {r : List TEvEvent × TLattice × Unit × Int} (h : F_view_seen_api_EvEvent_ a0 a1 a2 = some r) : Ret E F.view_seen_api_EvEvent_ [enc_TLattice a0, SV.int IntKind.i64 a1, encSl (11 : Nat) enc_TEvEvent a2, SV.fn (65 : Nat) []] (SV.fn (86 : Nat) [encP (encSl (11 : Nat) enc_TEvEvent) r.fst, encP enc_TLattice r.snd.fst, encP (fun (x : Unit) => SV.fn (65 : Nat) []) r.snd.snd.fst, encP (SV.int IntKind.i64) r.snd.snd.snd]) := by
  replace h := bindO h
  unfold F_view_seen_api_EvEvent_ at h
  refine ret_of_fnG (fn := Tryz.f64) (cuts := []) ok Tryz.func64 (by kernel_rfl) rfl ?_
  conv => whnf
  obtain rfl := Option.some.inj h
  exact .refl _
theorem R_view_events_1 {a0 : TEvEvent} {r : Int} (h : F_view_events_1 a0 = some r) : Ret E F.view_events_1 [enc_TEvEvent a0] (SV.int IntKind.i64 r) := by
  replace h := bindO h
  unfold F_view_events_1 at h
  refine ret_of_fnG (fn := Tryz.f65) (cuts := []) ok Tryz.func65 (by kernel_rfl) rfl ?_
  conv => whnf
  obtain rfl := Option.some.inj h
  exact .refl _
theorem R_lattice_asked {a0 : TLattice} {a1 : List Int} {r : Int} (h : F_lattice_asked a0 a1 = some r) : Ret E F.lattice_asked [encP enc_TLattice a0, encSl (1 : Nat) (SV.int IntKind.i64) a1] (SV.int IntKind.i64 r) := by
  replace h := bindO h
  unfold F_lattice_asked at h
  refine ret_of_fnG (fn := Tryz.f105) (cuts := [0]) ok Tryz.func105 (by kernel_rfl) rfl ?_
  conv => whnf
  refine callOk (enc := (fun (x : Int × Int) => SV.tup [SV.int IntKind.i64 x.fst, SV.int IntKind.i64 x.snd])) h (fun _ hx => R_lattice_Check hx) (fun x60 h => ?_)
  conv => whnf
  refine brkO h (fun e61 h => ?_) (fun e61 h => ?_)
  · conv => whnf
    obtain rfl := Option.some.inj h
    exact .refl _
  · conv => whnf
    refine cutOk (fun (s62 : Bool × Int) => [(22, SV.bool (s62.fst)), (21, (SV.int .i64) (s62.snd)), (20, (SV.int .i64) ((↑(List.length (List.map (SV.int IntKind.i64) a1)) : Int))), (19, (encSl 1 (SV.int .i64)) (a1)), (17, SV.bool (!decide (x60.snd = (0 : Int)))), (6, (SV.int .i64) (x60.snd)), (4, (SV.int .i64) ((0 : Int))), (1, (encSl 1 (SV.int .i64)) (a1)), (0, (encP enc_TLattice) (a0))]) (fun (s62 : Bool × Int) => []) 1 h (fun s62 h => ?_) (fun K62 hN62 hE62 h => ?_)
    · conv => whnf
      obtain rfl := Option.some.inj h
      exact .refl _
    · conv => whnf
      refine loopOk (fun (s64 : Int) => [(21, (SV.int .i64) (s64)), (20, (SV.int .i64) ((↑(List.length (List.map (SV.int IntKind.i64) a1)) : Int))), (19, (encSl 1 (SV.int .i64)) (a1)), (17, SV.bool (!decide (x60.snd = (0 : Int)))), (6, (SV.int .i64) (x60.snd)), (4, (SV.int .i64) ((0 : Int))), (1, (encSl 1 (SV.int .i64)) (a1)), (0, (encP enc_TLattice) (a0))]) (fun (s64 : Int) => []) 15 h (subX_mk ⟨.refl _, .refl _, .refl _, .refl _, .refl _, .refl _, .refl _, .refl _, trivial⟩ trivial rfl rfl rfl) (fun s64 rc64 C64 hC64 h => ?_)
      conv => whnf
      refine brkO h (fun e69 h => ?_) (fun e69 h => ?_)
      · conv => whnf
        refine idxOk (SV.int .i64) h rfl fun x70 h => ?_
        conv => whnf
        refine brkN h (fun e71 h => ?_) (fun e71 h => ?_)
        · conv => whnf
          refine hE62 _ _ _ _ ?_
          conv => whnf
          obtain rfl := Option.some.inj h
          exact .refl _
        · conv => whnf
          refine brkO h (fun e72 h => ?_) (fun e72 h => ?_)
          · conv => whnf
            refine hE62 _ _ _ _ ?_
            conv => whnf
            obtain rfl := Option.some.inj h
            exact .refl _
          · conv => whnf
            refine arithO h fun x73 h => ?_
            conv => whnf
            exact hC64 (x73) h _ _ _ (subX_mk ⟨.refl _, .refl _, .refl _, .refl _, .refl _, .refl _, .refl _, .refl _, trivial⟩ trivial rfl rfl rfl)
      · conv => whnf
        exact hN62 ((decide (s64 < (↑(List.length (List.map (SV.int IntKind.i64) a1)) : Int)), s64)) h _ _ _ (subX_mk ⟨.refl _, .refl _, .refl _, .refl _, .refl _, .refl _, .refl _, .refl _, .refl _, trivial⟩ trivial rfl rfl rfl)
theorem R_lattice_Leq {a0 : TLattice} {a1 : Int} {a2 : Int} {r : Bool × Int} (h : F_lattice_Leq a0 a1 a2 = some r) : Ret E F.lattice_Leq [enc_TLattice a0, SV.int IntKind.i64 a1, SV.int IntKind.i64 a2] (SV.tup [SV.bool r.fst, SV.int IntKind.i64 r.snd]) := by
  replace h := bindO h
  unfold F_lattice_Leq at h
  refine ret_of_fnG (fn := Tryz.f87) (cuts := []) ok Tryz.func87 (by kernel_rfl) rfl ?_
  conv => whnf
  refine callOk (enc := (SV.int .i64)) h (fun _ hx => R_lattice_asked hx) (fun x74 h => ?_)
  conv => whnf
  refine brkO h (fun e75 h => ?_) (fun e75 h => ?_)
  · conv => whnf
    obtain rfl := Option.some.inj h
    exact .refl _
  · conv => whnf
    refine idxOk (SV.int .u8) h rfl fun x76 h => ?_
    conv => whnf
    refine sideOk h fun _ h => ?_
    conv => whnf
    obtain rfl := Option.some.inj h
    exact .refl _
theorem R_slices_AppendSeq___api_EvEvent_api_EvEvent_ {a1 : List TEvEvent × TLattice × Unit × Int} {r : List TEvEvent} (h : F_slices_AppendSeq___api_EvEvent_api_EvEvent_ a1 = some r) : Ret E F.slices_AppendSeq___api_EvEvent_api_EvEvent_ [SV.nils, SV.fn (86 : Nat) [encP (encSl (11 : Nat) enc_TEvEvent) a1.fst, encP enc_TLattice a1.snd.fst, encP (fun (x : Unit) => SV.fn (65 : Nat) []) a1.snd.snd.fst, encP (SV.int IntKind.i64) a1.snd.snd.snd]] (encSl (11 : Nat) enc_TEvEvent r) := by
  replace h := bindO h
  unfold F_slices_AppendSeq___api_EvEvent_api_EvEvent_ at h
  refine ret_of_fnG (fn := Tryz.f85) (cuts := []) ok Tryz.func85 (by kernel_rfl) rfl ?_
  conv => whnf
  refine sem_of_semG (fn := Tryz.f86) (cuts := [0]) ok Tryz.func86 (by kernel_rfl) rfl ?_
  conv => whnf
  refine cutOk (fun (s55 : Bool × Int × List TEvEvent) => [(13, SV.bool (s55.fst)), (12, (SV.int .i64) (s55.snd.fst)), (11, (SV.int .i64) ((↑(List.length (List.map enc_TEvEvent a1.fst)) : Int))), (10, (encSl 11 enc_TEvEvent) (a1.fst)), (4, (encP (SV.int .i64)) (a1.snd.snd.snd)), (3, (encP (fun (x : Unit) => SV.fn (65 : Nat) [])) (())), (2, (encP enc_TLattice) (a1.snd.fst)), (1, (encP (encSl 11 enc_TEvEvent)) (a1.fst)), (0, SV.yld ((0 : Nat) + (1 : Nat) + (1 : Nat) + (1 : Nat))), (2999999, SV.yld ((0 : Nat) + (1 : Nat) + (1 : Nat) + (1 : Nat))), (1000006, SV.fn (86 : Nat) [encP (encSl (11 : Nat) enc_TEvEvent) a1.fst, encP enc_TLattice a1.snd.fst, encP (fun (x : Unit) => SV.fn (65 : Nat) []) a1.snd.snd.fst, encP (SV.int IntKind.i64) a1.snd.snd.snd]), (1000004, SV.osl ((0 : Nat) + (1 : Nat)) (11 : Nat)), (1000002, SV.ptr (0 : Nat) []), (1000001, SV.fn (86 : Nat) [encP (encSl (11 : Nat) enc_TEvEvent) a1.fst, encP enc_TLattice a1.snd.fst, encP (fun (x : Unit) => SV.fn (65 : Nat) []) a1.snd.snd.fst, encP (SV.int IntKind.i64) a1.snd.snd.snd]), (1000000, SV.nils)]) (fun (s55 : Bool × Int × List TEvEvent) => [(0, Blk.var true (SV.osl (7 : Nat) (11 : Nat))), (7, Blk.row true (11 : Nat) (List.map enc_TEvEvent s55.snd.snd)), (3, Blk.gho (lpOf Tryz.f85 0 (LoopState.ready) (none) false) [(6, SV.fn (86 : Nat) [encP (encSl (11 : Nat) enc_TEvEvent) a1.fst, encP enc_TLattice a1.snd.fst, encP (fun (x : Unit) => SV.fn (65 : Nat) []) a1.snd.snd.fst, encP (SV.int IntKind.i64) a1.snd.snd.snd]), (4, SV.osl ((0 : Nat) + (1 : Nat)) (11 : Nat)), (2, SV.ptr (0 : Nat) []), (1, SV.fn (86 : Nat) [encP (encSl (11 : Nat) enc_TEvEvent) a1.fst, encP enc_TLattice a1.snd.fst, encP (fun (x : Unit) => SV.fn (65 : Nat) []) a1.snd.snd.fst, encP (SV.int IntKind.i64) a1.snd.snd.snd]), (0, SV.nils)]), (1, Blk.row true (11 : Nat) [])]) 8 h (fun s55 h => ?_) (fun K55 hN55 hE55 h => ?_)
  · conv => whnf
    obtain rfl := Option.some.inj h
    exact .refl _
  · conv => whnf
    refine loopOk (fun (s57 : Int × List TEvEvent) => [(12, (SV.int .i64) (s57.fst)), (11, (SV.int .i64) ((↑(List.length (List.map enc_TEvEvent a1.fst)) : Int))), (10, (encSl 11 enc_TEvEvent) (a1.fst)), (4, (encP (SV.int .i64)) (a1.snd.snd.snd)), (3, (encP (fun (x : Unit) => SV.fn (65 : Nat) [])) (())), (2, (encP enc_TLattice) (a1.snd.fst)), (1, (encP (encSl 11 enc_TEvEvent)) (a1.fst)), (0, SV.yld ((0 : Nat) + (1 : Nat) + (1 : Nat) + (1 : Nat))), (2999999, SV.yld ((0 : Nat) + (1 : Nat) + (1 : Nat) + (1 : Nat))), (1000006, SV.fn (86 : Nat) [encP (encSl (11 : Nat) enc_TEvEvent) a1.fst, encP enc_TLattice a1.snd.fst, encP (fun (x : Unit) => SV.fn (65 : Nat) []) a1.snd.snd.fst, encP (SV.int IntKind.i64) a1.snd.snd.snd]), (1000004, SV.osl ((0 : Nat) + (1 : Nat)) (11 : Nat)), (1000002, SV.ptr (0 : Nat) []), (1000001, SV.fn (86 : Nat) [encP (encSl (11 : Nat) enc_TEvEvent) a1.fst, encP enc_TLattice a1.snd.fst, encP (fun (x : Unit) => SV.fn (65 : Nat) []) a1.snd.snd.fst, encP (SV.int IntKind.i64) a1.snd.snd.snd]), (1000000, SV.nils)]) (fun (s57 : Int × List TEvEvent) => [(0, Blk.var true (SV.osl (7 : Nat) (11 : Nat))), (7, Blk.row true (11 : Nat) (List.map enc_TEvEvent s57.snd)), (3, Blk.gho (lpOf Tryz.f85 0 (LoopState.ready) (none) false) [(6, SV.fn (86 : Nat) [encP (encSl (11 : Nat) enc_TEvEvent) a1.fst, encP enc_TLattice a1.snd.fst, encP (fun (x : Unit) => SV.fn (65 : Nat) []) a1.snd.snd.fst, encP (SV.int IntKind.i64) a1.snd.snd.snd]), (4, SV.osl ((0 : Nat) + (1 : Nat)) (11 : Nat)), (2, SV.ptr (0 : Nat) []), (1, SV.fn (86 : Nat) [encP (encSl (11 : Nat) enc_TEvEvent) a1.fst, encP enc_TLattice a1.snd.fst, encP (fun (x : Unit) => SV.fn (65 : Nat) []) a1.snd.snd.fst, encP (SV.int IntKind.i64) a1.snd.snd.snd]), (0, SV.nils)]), (1, Blk.row true (11 : Nat) [])]) 8 h (.trans (subX_nilV (b := 0) (sz := 11) rfl rfl .nil) (subX_mk ⟨.refl _, .refl _, .refl _, .refl _, .refl _, .refl _, .refl _, .refl _, .refl _, .refl _, .refl _, .refl _, .refl _, .refl _, trivial⟩ ⟨.refl, .refl, (.gho ⟨.refl _, .refl _, .refl _, .refl _, .refl _, trivial⟩), .refl, trivial⟩ rfl rfl rfl)) (fun s57 rc57 C57 hC57 h => ?_)
    conv => whnf
    refine brkO h (fun e72 h => ?_) (fun e72 h => ?_)
    · conv => whnf
      refine idxOk enc_TEvEvent h rfl fun x73 h => ?_
      conv => whnf
      refine ⟨by (conv => whnf); trivial, ?_⟩
      conv => whnf
      refine callOk (enc := (SV.int .i64)) h (fun _ hx => R_view_events_1 hx) (fun x74 h => ?_)
      conv => whnf
      refine callOk (enc := (fun (x : Bool × Int) => SV.tup [SV.bool x.fst, SV.int IntKind.i64 x.snd])) h (fun _ hx => R_lattice_Leq hx) (fun x75 h => ?_)
      conv => whnf
      refine brkO h (fun e76 h => ?_) (fun e76 h => ?_)
      · conv => whnf
        refine brkO h (fun e77 h => ?_) (fun e77 h => ?_)
        · conv => whnf
          refine yield_of (cuts := []) ok rfl (by kernel_rfl) (by kernel_rfl) rfl rfl ?_
          conv => whnf
          refine sideOk h fun _ h => ?_
          conv => whnf
          refine arithO h fun x79 h => ?_
          conv => whnf
          exact hC57 ((x79, s57.snd ++ [x73])) h _ _ _ (subX_mk ⟨.refl _, .refl _, .refl _, .refl _, .refl _, .refl _, .refl _, .refl _, .refl _, .refl _, .refl _, .refl _, .refl _, .refl _, trivial⟩ ⟨.refl, (.row (.appm .refl (.cons .refl .refl))), (.gho ⟨.refl _, .refl _, .refl _, .refl _, .refl _, trivial⟩), .refl, trivial⟩ rfl rfl rfl)
        · conv => whnf
          refine arithO h fun x80 h => ?_
          conv => whnf
          exact hC57 ((x80, s57.snd)) h _ _ _ (subX_mk ⟨.refl _, .refl _, .refl _, .refl _, .refl _, .refl _, .refl _, .refl _, .refl _, .refl _, .refl _, .refl _, .refl _, .refl _, trivial⟩ ⟨.refl, .refl, (.gho ⟨.refl _, .refl _, .refl _, .refl _, .refl _, trivial⟩), .refl, trivial⟩ rfl rfl rfl)
      · conv => whnf
        refine arithO h fun x81 h => ?_
        conv => whnf
        exact hC57 ((x81, s57.snd)) h _ _ _ (subX_mk ⟨.refl _, .refl _, .refl _, .refl _, .refl _, .refl _, .refl _, .refl _, .refl _, .refl _, .refl _, .refl _, .refl _, .refl _, trivial⟩ ⟨.refl, .refl, (.gho ⟨.refl _, .refl _, .refl _, .refl _, .refl _, trivial⟩), .refl, trivial⟩ rfl rfl rfl)
    · conv => whnf
      exact hN55 ((decide (s57.fst < (↑(List.length (List.map enc_TEvEvent a1.fst)) : Int)), s57)) h _ _ _ (subX_mk ⟨.refl _, .refl _, .refl _, .refl _, .refl _, .refl _, .refl _, .refl _, .refl _, .refl _, .refl _, .refl _, .refl _, .refl _, .refl _, trivial⟩ ⟨.refl, .refl, (.gho ⟨.refl _, .refl _, .refl _, .refl _, .refl _, trivial⟩), .refl, trivial⟩ rfl rfl rfl)
theorem R_slices_Collect_api_EvEvent_ {a0 : List TEvEvent × TLattice × Unit × Int} {r : List TEvEvent} (h : F_slices_Collect_api_EvEvent_ a0 = some r) : Ret E F.slices_Collect_api_EvEvent_ [SV.fn (86 : Nat) [encP (encSl (11 : Nat) enc_TEvEvent) a0.fst, encP enc_TLattice a0.snd.fst, encP (fun (x : Unit) => SV.fn (65 : Nat) []) a0.snd.snd.fst, encP (SV.int IntKind.i64) a0.snd.snd.snd]] (encSl (11 : Nat) enc_TEvEvent r) := by
  replace h := bindO h
  unfold F_slices_Collect_api_EvEvent_ at h
  refine ret_of_fnG (fn := Tryz.f63) (cuts := []) ok Tryz.func63 (by kernel_rfl) rfl ?_
  conv => whnf
  refine callOk (enc := (encSl 11 enc_TEvEvent)) h (fun _ hx => R_slices_AppendSeq___api_EvEvent_api_EvEvent_ hx) (fun x82 h => ?_)
  conv => whnf
  obtain rfl := Option.some.inj h
  exact .refl _
theorem R_view_events {a0 : TLattice} {a1 : TEvTrace} {a2 : Int} {r : List TEvEvent} (h : F_view_events a0 a1 a2 = some r) : Ret E F.view_events [enc_TLattice a0, enc_TEvTrace a1, SV.int IntKind.i64 a2] (encSl (11 : Nat) enc_TEvEvent r) := by
  replace h := bindO h
  unfold F_view_events at h
  refine ret_of_fnG (fn := Tryz.f40) (cuts := []) ok Tryz.func40 (by kernel_rfl) rfl ?_
  conv => whnf
  refine callOk (enc := (fun (x : List TEvEvent × TLattice × Unit × Int) => SV.fn (86 : Nat) [encP (encSl (11 : Nat) enc_TEvEvent) x.fst, encP enc_TLattice x.snd.fst, encP (fun (x : Unit) => SV.fn (65 : Nat) []) x.snd.snd.fst, encP (SV.int IntKind.i64) x.snd.snd.snd])) h (fun _ hx => R_view_seen_api_EvEvent_ hx) (fun x53 h => ?_)
  conv => whnf
  refine callOk (enc := (encSl 11 enc_TEvEvent)) h (fun _ hx => R_slices_Collect_api_EvEvent_ hx) (fun x83 h => ?_)
  conv => whnf
  obtain rfl := Option.some.inj h
  exact .refl _
theorem R_view_same {a0 : TEvEvent} {a1 : TEvEvent} {r : Bool} (h : F_view_same a0 a1 = some r) : Ret E F.view_same [enc_TEvEvent a0, enc_TEvEvent a1] (SV.bool r) := by
  replace h := bindO h
  unfold F_view_same at h
  refine ret_of_fnG (fn := Tryz.f41) (cuts := []) ok Tryz.func41 (by kernel_rfl) rfl ?_
  conv => whnf
  refine brkO h (fun e92 h => ?_) (fun e92 h => ?_)
  · conv => whnf
    refine brkO h (fun e93 h => ?_) (fun e93 h => ?_)
    · conv => whnf
      refine brkO h (fun e94 h => ?_) (fun e94 h => ?_)
      · conv => whnf
        refine brkO h (fun e95 h => ?_) (fun e95 h => ?_)
        · conv => whnf
          refine brkO h (fun e96 h => ?_) (fun e96 h => ?_)
          · conv => whnf
            refine brkO h (fun e97 h => ?_) (fun e97 h => ?_)
            · conv => whnf
              refine callOk (enc := SV.bool) h (fun _ hx => R_view_sameArray hx) (fun x98 h => ?_)
              conv => whnf
              obtain rfl := Option.some.inj h
              exact .refl _
            · conv => whnf
              obtain rfl := Option.some.inj h
              exact .refl _
          · conv => whnf
            obtain rfl := Option.some.inj h
            exact .refl _
        · conv => whnf
          obtain rfl := Option.some.inj h
          exact .refl _
      · conv => whnf
        obtain rfl := Option.some.inj h
        exact .refl _
    · conv => whnf
      obtain rfl := Option.some.inj h
      exact .refl _
  · conv => whnf
    obtain rfl := Option.some.inj h
    exact .refl _
theorem R_slices_EqualFunc___api_EvEvent___api_EvEvent_api_EvEvent_api_EvEvent_ {a0 : List TEvEvent} {a1 : List TEvEvent} {r : Bool} (h : F_slices_EqualFunc___api_EvEvent___api_EvEvent_api_EvEvent_api_EvEvent_ a0 a1 = some r) : Ret E F.slices_EqualFunc___api_EvEvent___api_EvEvent_api_EvEvent_api_EvEvent_ [encSl (11 : Nat) enc_TEvEvent a0, encSl (11 : Nat) enc_TEvEvent a1, SV.fn (41 : Nat) []] (SV.bool r) := by
  replace h := bindO h
  unfold F_slices_EqualFunc___api_EvEvent___api_EvEvent_api_EvEvent_api_EvEvent_ at h
  refine ret_of_fnG (fn := Tryz.f39) (cuts := [0]) ok Tryz.func39 (by kernel_rfl) rfl ?_
  conv => whnf
  refine brkO h (fun e86 h => ?_) (fun e86 h => ?_)
  · conv => whnf
    obtain rfl := Option.some.inj h
    exact .refl _
  · conv => whnf
    refine cutOk (fun (s87 : Bool × Int) => [(18, SV.bool (s87.fst)), (17, (SV.int .i64) (s87.snd)), (16, (SV.int .i64) ((↑(List.length (List.map enc_TEvEvent a0)) : Int))), (15, (encSl 11 enc_TEvEvent) (a0)), (14, SV.bool (!decide ((↑(List.length (List.map enc_TEvEvent a0)) : Int) = (↑(List.length (List.map enc_TEvEvent a1)) : Int)))), (6, SV.fls), (2, SV.fn (41 : Nat) []), (1, (encSl 11 enc_TEvEvent) (a1)), (0, (encSl 11 enc_TEvEvent) (a0))]) (fun (s87 : Bool × Int) => []) 1 h (fun s87 h => ?_) (fun K87 hN87 hE87 h => ?_)
    · conv => whnf
      obtain rfl := Option.some.inj h
      exact .refl _
    · conv => whnf
      refine loopOk (fun (s89 : Int) => [(17, (SV.int .i64) (s89)), (16, (SV.int .i64) ((↑(List.length (List.map enc_TEvEvent a0)) : Int))), (15, (encSl 11 enc_TEvEvent) (a0)), (14, SV.bool (!decide ((↑(List.length (List.map enc_TEvEvent a0)) : Int) = (↑(List.length (List.map enc_TEvEvent a1)) : Int)))), (6, SV.fls), (2, SV.fn (41 : Nat) []), (1, (encSl 11 enc_TEvEvent) (a1)), (0, (encSl 11 enc_TEvEvent) (a0))]) (fun (s89 : Int) => []) 9 h (subX_mk ⟨.refl _, .refl _, .refl _, .refl _, .refl _, .refl _, .refl _, .refl _, trivial⟩ trivial rfl rfl rfl) (fun s89 rc89 C89 hC89 h => ?_)
      conv => whnf
      refine brkO h (fun e95 h => ?_) (fun e95 h => ?_)
      · conv => whnf
        refine idxOk enc_TEvEvent h rfl fun x96 h => ?_
        conv => whnf
        refine idxOk enc_TEvEvent h rfl fun x97 h => ?_
        conv => whnf
        refine callOk (enc := SV.bool) h (fun _ hx => R_view_same hx) (fun x98 h => ?_)
        conv => whnf
        refine brkO h (fun e99 h => ?_) (fun e99 h => ?_)
        · conv => whnf
          refine hE87 _ _ _ _ ?_
          conv => whnf
          obtain rfl := Option.some.inj h
          exact .refl _
        · conv => whnf
          refine arithO h fun x100 h => ?_
          conv => whnf
          exact hC89 (x100) h _ _ _ (subX_mk ⟨.refl _, .refl _, .refl _, .refl _, .refl _, .refl _, .refl _, .refl _, trivial⟩ trivial rfl rfl rfl)
      · conv => whnf
        exact hN87 ((decide (s89 < (↑(List.length (List.map enc_TEvEvent a0)) : Int)), s89)) h _ _ _ (subX_mk ⟨.refl _, .refl _, .refl _, .refl _, .refl _, .refl _, .refl _, .refl _, .refl _, trivial⟩ trivial rfl rfl rfl)
theorem R_view_Alike {a0 : TLattice} {a1 : TEvTrace} {a2 : TEvTrace} {a3 : Int} {r : Bool × Int} (h : F_view_Alike a0 a1 a2 a3 = some r) : Ret E F.view_Alike [enc_TLattice a0, enc_TEvTrace a1, enc_TEvTrace a2, SV.int IntKind.i64 a3] (SV.tup [SV.bool r.fst, SV.int IntKind.i64 r.snd]) := by
  replace h := bindO h
  unfold F_view_Alike at h
  refine ret_of_fnG (fn := Tryz.f14) (cuts := []) ok Tryz.func14 (by kernel_rfl) rfl ?_
  conv => whnf
  refine callOk (enc := (SV.int .i64)) h (fun _ hx => R_view_asked hx) (fun x51 h => ?_)
  conv => whnf
  refine brkO h (fun e52 h => ?_) (fun e52 h => ?_)
  · conv => whnf
    obtain rfl := Option.some.inj h
    exact .refl _
  · conv => whnf
    refine ⟨by (conv => whnf); trivial, ?_⟩
    conv => whnf
    refine callOk (enc := (encSl 11 enc_TEvEvent)) h (fun _ hx => R_view_events hx) (fun x84 h => ?_)
    conv => whnf
    refine callOk (enc := (encSl 11 enc_TEvEvent)) h (fun _ hx => R_view_events hx) (fun x85 h => ?_)
    conv => whnf
    refine callOk (enc := SV.bool) h (fun _ hx => R_slices_EqualFunc___api_EvEvent___api_EvEvent_api_EvEvent_api_EvEvent_ hx) (fun x101 h => ?_)
    conv => whnf
    obtain rfl := Option.some.inj h
    exact .refl _
theorem R_view_seen_api_ReEntry_ {a0 : TLattice} {a1 : Int} {a2 : List TReEntry} {r : List TReEntry × TLattice × Unit × Int} (h : F_view_seen_api_ReEntry_ a0 a1 a2 = some r) : Ret E F.view_seen_api_ReEntry_ [enc_TLattice a0, SV.int IntKind.i64 a1, encSl (7 : Nat) enc_TReEntry a2, SV.fn (71 : Nat) []] (SV.fn (90 : Nat) [encP (encSl (7 : Nat) enc_TReEntry) r.fst, encP enc_TLattice r.snd.fst, encP (fun (x : Unit) => SV.fn (71 : Nat) []) r.snd.snd.fst, encP (SV.int IntKind.i64) r.snd.snd.snd]) := by
  replace h := bindO h
  unfold F_view_seen_api_ReEntry_ at h
  refine ret_of_fnG (fn := Tryz.f70) (cuts := []) ok Tryz.func70 (by kernel_rfl) rfl ?_
  conv => whnf
  obtain rfl := Option.some.inj h
  exact .refl _
theorem R_view_entries_1 {a0 : TReEntry} {r : Int} (h : F_view_entries_1 a0 = some r) : Ret E F.view_entries_1 [enc_TReEntry a0] (SV.int IntKind.i64 r) := by
  replace h := bindO h
  unfold F_view_entries_1 at h
  refine ret_of_fnG (fn := Tryz.f71) (cuts := []) ok Tryz.func71 (by kernel_rfl) rfl ?_
  conv => whnf
  obtain rfl := Option.some.inj h
  exact .refl _
theorem R_slices_AppendSeq___api_ReEntry_api_ReEntry_ {a1 : List TReEntry × TLattice × Unit × Int} {r : List TReEntry} (h : F_slices_AppendSeq___api_ReEntry_api_ReEntry_ a1 = some r) : Ret E F.slices_AppendSeq___api_ReEntry_api_ReEntry_ [SV.nils, SV.fn (90 : Nat) [encP (encSl (7 : Nat) enc_TReEntry) a1.fst, encP enc_TLattice a1.snd.fst, encP (fun (x : Unit) => SV.fn (71 : Nat) []) a1.snd.snd.fst, encP (SV.int IntKind.i64) a1.snd.snd.snd]] (encSl (7 : Nat) enc_TReEntry r) := by
  replace h := bindO h
  unfold F_slices_AppendSeq___api_ReEntry_api_ReEntry_ at h
  refine ret_of_fnG (fn := Tryz.f89) (cuts := []) ok Tryz.func89 (by kernel_rfl) rfl ?_
  conv => whnf
  refine sem_of_semG (fn := Tryz.f90) (cuts := [0]) ok Tryz.func90 (by kernel_rfl) rfl ?_
  conv => whnf
  refine cutOk (fun (s121 : Bool × Int × List TReEntry) => [(13, SV.bool (s121.fst)), (12, (SV.int .i64) (s121.snd.fst)), (11, (SV.int .i64) ((↑(List.length (List.map enc_TReEntry a1.fst)) : Int))), (10, (encSl 7 enc_TReEntry) (a1.fst)), (4, (encP (SV.int .i64)) (a1.snd.snd.snd)), (3, (encP (fun (x : Unit) => SV.fn (71 : Nat) [])) (())), (2, (encP enc_TLattice) (a1.snd.fst)), (1, (encP (encSl 7 enc_TReEntry)) (a1.fst)), (0, SV.yld ((0 : Nat) + (1 : Nat) + (1 : Nat) + (1 : Nat))), (2999999, SV.yld ((0 : Nat) + (1 : Nat) + (1 : Nat) + (1 : Nat))), (1000006, SV.fn (90 : Nat) [encP (encSl (7 : Nat) enc_TReEntry) a1.fst, encP enc_TLattice a1.snd.fst, encP (fun (x : Unit) => SV.fn (71 : Nat) []) a1.snd.snd.fst, encP (SV.int IntKind.i64) a1.snd.snd.snd]), (1000004, SV.osl ((0 : Nat) + (1 : Nat)) (7 : Nat)), (1000002, SV.ptr (0 : Nat) []), (1000001, SV.fn (90 : Nat) [encP (encSl (7 : Nat) enc_TReEntry) a1.fst, encP enc_TLattice a1.snd.fst, encP (fun (x : Unit) => SV.fn (71 : Nat) []) a1.snd.snd.fst, encP (SV.int IntKind.i64) a1.snd.snd.snd]), (1000000, SV.nils)]) (fun (s121 : Bool × Int × List TReEntry) => [(0, Blk.var true (SV.osl (7 : Nat) (7 : Nat))), (7, Blk.row true (7 : Nat) (List.map enc_TReEntry s121.snd.snd)), (3, Blk.gho (lpOf Tryz.f89 0 (LoopState.ready) (none) false) [(6, SV.fn (90 : Nat) [encP (encSl (7 : Nat) enc_TReEntry) a1.fst, encP enc_TLattice a1.snd.fst, encP (fun (x : Unit) => SV.fn (71 : Nat) []) a1.snd.snd.fst, encP (SV.int IntKind.i64) a1.snd.snd.snd]), (4, SV.osl ((0 : Nat) + (1 : Nat)) (7 : Nat)), (2, SV.ptr (0 : Nat) []), (1, SV.fn (90 : Nat) [encP (encSl (7 : Nat) enc_TReEntry) a1.fst, encP enc_TLattice a1.snd.fst, encP (fun (x : Unit) => SV.fn (71 : Nat) []) a1.snd.snd.fst, encP (SV.int IntKind.i64) a1.snd.snd.snd]), (0, SV.nils)]), (1, Blk.row true (7 : Nat) [])]) 8 h (fun s121 h => ?_) (fun K121 hN121 hE121 h => ?_)
  · conv => whnf
    obtain rfl := Option.some.inj h
    exact .refl _
  · conv => whnf
    refine loopOk (fun (s123 : Int × List TReEntry) => [(12, (SV.int .i64) (s123.fst)), (11, (SV.int .i64) ((↑(List.length (List.map enc_TReEntry a1.fst)) : Int))), (10, (encSl 7 enc_TReEntry) (a1.fst)), (4, (encP (SV.int .i64)) (a1.snd.snd.snd)), (3, (encP (fun (x : Unit) => SV.fn (71 : Nat) [])) (())), (2, (encP enc_TLattice) (a1.snd.fst)), (1, (encP (encSl 7 enc_TReEntry)) (a1.fst)), (0, SV.yld ((0 : Nat) + (1 : Nat) + (1 : Nat) + (1 : Nat))), (2999999, SV.yld ((0 : Nat) + (1 : Nat) + (1 : Nat) + (1 : Nat))), (1000006, SV.fn (90 : Nat) [encP (encSl (7 : Nat) enc_TReEntry) a1.fst, encP enc_TLattice a1.snd.fst, encP (fun (x : Unit) => SV.fn (71 : Nat) []) a1.snd.snd.fst, encP (SV.int IntKind.i64) a1.snd.snd.snd]), (1000004, SV.osl ((0 : Nat) + (1 : Nat)) (7 : Nat)), (1000002, SV.ptr (0 : Nat) []), (1000001, SV.fn (90 : Nat) [encP (encSl (7 : Nat) enc_TReEntry) a1.fst, encP enc_TLattice a1.snd.fst, encP (fun (x : Unit) => SV.fn (71 : Nat) []) a1.snd.snd.fst, encP (SV.int IntKind.i64) a1.snd.snd.snd]), (1000000, SV.nils)]) (fun (s123 : Int × List TReEntry) => [(0, Blk.var true (SV.osl (7 : Nat) (7 : Nat))), (7, Blk.row true (7 : Nat) (List.map enc_TReEntry s123.snd)), (3, Blk.gho (lpOf Tryz.f89 0 (LoopState.ready) (none) false) [(6, SV.fn (90 : Nat) [encP (encSl (7 : Nat) enc_TReEntry) a1.fst, encP enc_TLattice a1.snd.fst, encP (fun (x : Unit) => SV.fn (71 : Nat) []) a1.snd.snd.fst, encP (SV.int IntKind.i64) a1.snd.snd.snd]), (4, SV.osl ((0 : Nat) + (1 : Nat)) (7 : Nat)), (2, SV.ptr (0 : Nat) []), (1, SV.fn (90 : Nat) [encP (encSl (7 : Nat) enc_TReEntry) a1.fst, encP enc_TLattice a1.snd.fst, encP (fun (x : Unit) => SV.fn (71 : Nat) []) a1.snd.snd.fst, encP (SV.int IntKind.i64) a1.snd.snd.snd]), (0, SV.nils)]), (1, Blk.row true (7 : Nat) [])]) 8 h (.trans (subX_nilV (b := 0) (sz := 7) rfl rfl .nil) (subX_mk ⟨.refl _, .refl _, .refl _, .refl _, .refl _, .refl _, .refl _, .refl _, .refl _, .refl _, .refl _, .refl _, .refl _, .refl _, trivial⟩ ⟨.refl, .refl, (.gho ⟨.refl _, .refl _, .refl _, .refl _, .refl _, trivial⟩), .refl, trivial⟩ rfl rfl rfl)) (fun s123 rc123 C123 hC123 h => ?_)
    conv => whnf
    refine brkO h (fun e138 h => ?_) (fun e138 h => ?_)
    · conv => whnf
      refine idxOk enc_TReEntry h rfl fun x139 h => ?_
      conv => whnf
      refine ⟨by (conv => whnf); trivial, ?_⟩
      conv => whnf
      refine callOk (enc := (SV.int .i64)) h (fun _ hx => R_view_entries_1 hx) (fun x140 h => ?_)
      conv => whnf
      refine callOk (enc := (fun (x : Bool × Int) => SV.tup [SV.bool x.fst, SV.int IntKind.i64 x.snd])) h (fun _ hx => R_lattice_Leq hx) (fun x141 h => ?_)
      conv => whnf
      refine brkO h (fun e142 h => ?_) (fun e142 h => ?_)
      · conv => whnf
        refine brkO h (fun e143 h => ?_) (fun e143 h => ?_)
        · conv => whnf
          refine yield_of (cuts := []) ok rfl (by kernel_rfl) (by kernel_rfl) rfl rfl ?_
          conv => whnf
          refine sideOk h fun _ h => ?_
          conv => whnf
          refine arithO h fun x145 h => ?_
          conv => whnf
          exact hC123 ((x145, s123.snd ++ [x139])) h _ _ _ (subX_mk ⟨.refl _, .refl _, .refl _, .refl _, .refl _, .refl _, .refl _, .refl _, .refl _, .refl _, .refl _, .refl _, .refl _, .refl _, trivial⟩ ⟨.refl, (.row (.appm .refl (.cons .refl .refl))), (.gho ⟨.refl _, .refl _, .refl _, .refl _, .refl _, trivial⟩), .refl, trivial⟩ rfl rfl rfl)
        · conv => whnf
          refine arithO h fun x146 h => ?_
          conv => whnf
          exact hC123 ((x146, s123.snd)) h _ _ _ (subX_mk ⟨.refl _, .refl _, .refl _, .refl _, .refl _, .refl _, .refl _, .refl _, .refl _, .refl _, .refl _, .refl _, .refl _, .refl _, trivial⟩ ⟨.refl, .refl, (.gho ⟨.refl _, .refl _, .refl _, .refl _, .refl _, trivial⟩), .refl, trivial⟩ rfl rfl rfl)
      · conv => whnf
        refine arithO h fun x147 h => ?_
        conv => whnf
        exact hC123 ((x147, s123.snd)) h _ _ _ (subX_mk ⟨.refl _, .refl _, .refl _, .refl _, .refl _, .refl _, .refl _, .refl _, .refl _, .refl _, .refl _, .refl _, .refl _, .refl _, trivial⟩ ⟨.refl, .refl, (.gho ⟨.refl _, .refl _, .refl _, .refl _, .refl _, trivial⟩), .refl, trivial⟩ rfl rfl rfl)
    · conv => whnf
      exact hN121 ((decide (s123.fst < (↑(List.length (List.map enc_TReEntry a1.fst)) : Int)), s123)) h _ _ _ (subX_mk ⟨.refl _, .refl _, .refl _, .refl _, .refl _, .refl _, .refl _, .refl _, .refl _, .refl _, .refl _, .refl _, .refl _, .refl _, .refl _, trivial⟩ ⟨.refl, .refl, (.gho ⟨.refl _, .refl _, .refl _, .refl _, .refl _, trivial⟩), .refl, trivial⟩ rfl rfl rfl)
theorem R_slices_Collect_api_ReEntry_ {a0 : List TReEntry × TLattice × Unit × Int} {r : List TReEntry} (h : F_slices_Collect_api_ReEntry_ a0 = some r) : Ret E F.slices_Collect_api_ReEntry_ [SV.fn (90 : Nat) [encP (encSl (7 : Nat) enc_TReEntry) a0.fst, encP enc_TLattice a0.snd.fst, encP (fun (x : Unit) => SV.fn (71 : Nat) []) a0.snd.snd.fst, encP (SV.int IntKind.i64) a0.snd.snd.snd]] (encSl (7 : Nat) enc_TReEntry r) := by
  replace h := bindO h
  unfold F_slices_Collect_api_ReEntry_ at h
  refine ret_of_fnG (fn := Tryz.f69) (cuts := []) ok Tryz.func69 (by kernel_rfl) rfl ?_
  conv => whnf
  refine callOk (enc := (encSl 7 enc_TReEntry)) h (fun _ hx => R_slices_AppendSeq___api_ReEntry_api_ReEntry_ hx) (fun x148 h => ?_)
  conv => whnf
  obtain rfl := Option.some.inj h
  exact .refl _
theorem R_view_entries {a0 : TLattice} {a1 : TEvTrace} {a2 : Int} {r : List TReEntry} (h : F_view_entries a0 a1 a2 = some r) : Ret E F.view_entries [enc_TLattice a0, enc_TEvTrace a1, SV.int IntKind.i64 a2] (encSl (7 : Nat) enc_TReEntry r) := by
  replace h := bindO h
  unfold F_view_entries at h
  refine ret_of_fnG (fn := Tryz.f44) (cuts := []) ok Tryz.func44 (by kernel_rfl) rfl ?_
  conv => whnf
  refine callOk (enc := (fun (x : List TReEntry × TLattice × Unit × Int) => SV.fn (90 : Nat) [encP (encSl (7 : Nat) enc_TReEntry) x.fst, encP enc_TLattice x.snd.fst, encP (fun (x : Unit) => SV.fn (71 : Nat) []) x.snd.snd.fst, encP (SV.int IntKind.i64) x.snd.snd.snd])) h (fun _ hx => R_view_seen_api_ReEntry_ hx) (fun x119 h => ?_)
  conv => whnf
  refine callOk (enc := (encSl 7 enc_TReEntry)) h (fun _ hx => R_slices_Collect_api_ReEntry_ hx) (fun x149 h => ?_)
  conv => whnf
  obtain rfl := Option.some.inj h
  exact .refl _
theorem R_view_Agree_1 {a0 : TReEntry} {a1 : TReEntry} {r : Bool} (h : F_view_Agree_1 a0 a1 = some r) : Ret E F.view_Agree_1 [enc_TReEntry a0, enc_TReEntry a1] (SV.bool r) := by
  replace h := bindO h
  unfold F_view_Agree_1 at h
  refine ret_of_fnG (fn := Tryz.f46) (cuts := []) ok Tryz.func46 (by kernel_rfl) rfl ?_
  conv => whnf
  obtain rfl := Option.some.inj h
  exact .refl _
theorem R_view_differ_api_ReEntry_ {a0 : List TReEntry} {a1 : List TReEntry} {r : Int} (h : F_view_differ_api_ReEntry_ a0 a1 = some r) : Ret E F.view_differ_api_ReEntry_ [encSl (7 : Nat) enc_TReEntry a0, encSl (7 : Nat) enc_TReEntry a1, SV.fn (46 : Nat) []] (SV.int IntKind.i64 r) := by
  replace h := bindO h
  unfold F_view_differ_api_ReEntry_ at h
  refine ret_of_fnG (fn := Tryz.f45) (cuts := [0]) ok Tryz.func45 (by kernel_rfl) rfl ?_
  conv => whnf
  refine cutOk (fun (s152 : Bool × Int) => [(16, SV.bool (s152.fst)), (15, (SV.int .i64) (s152.snd)), (14, (SV.int .i64) (min (↑(List.length (List.map enc_TReEntry a0)) : Int) (↑(List.length (List.map enc_TReEntry a1)) : Int))), (7, (SV.int .i64) (min (↑(List.length (List.map enc_TReEntry a0)) : Int) (↑(List.length (List.map enc_TReEntry a1)) : Int))), (6, (SV.int .i64) ((0 : Int))), (2, SV.fn (46 : Nat) []), (1, (encSl 7 enc_TReEntry) (a1)), (0, (encSl 7 enc_TReEntry) (a0))]) (fun (s152 : Bool × Int) => []) 1 h (fun s152 h => ?_) (fun K152 hN152 hE152 h => ?_)
  · conv => whnf
    obtain rfl := Option.some.inj h
    exact .refl _
  · conv => whnf
    refine loopOk (fun (s154 : Int) => [(15, (SV.int .i64) (s154)), (14, (SV.int .i64) (min (↑(List.length (List.map enc_TReEntry a0)) : Int) (↑(List.length (List.map enc_TReEntry a1)) : Int))), (7, (SV.int .i64) (min (↑(List.length (List.map enc_TReEntry a0)) : Int) (↑(List.length (List.map enc_TReEntry a1)) : Int))), (6, (SV.int .i64) ((0 : Int))), (2, SV.fn (46 : Nat) []), (1, (encSl 7 enc_TReEntry) (a1)), (0, (encSl 7 enc_TReEntry) (a0))]) (fun (s154 : Int) => []) 9 h (subX_mk ⟨.refl _, .refl _, .refl _, .refl _, .refl _, .refl _, .refl _, trivial⟩ trivial rfl rfl rfl) (fun s154 rc154 C154 hC154 h => ?_)
    conv => whnf
    refine brkO h (fun e160 h => ?_) (fun e160 h => ?_)
    · conv => whnf
      refine ⟨by (conv => whnf); trivial, ?_⟩
      conv => whnf
      refine idxOk enc_TReEntry h rfl fun x161 h => ?_
      conv => whnf
      refine idxOk enc_TReEntry h rfl fun x162 h => ?_
      conv => whnf
      refine callOk (enc := SV.bool) h (fun _ hx => R_view_Agree_1 hx) (fun x163 h => ?_)
      conv => whnf
      refine brkO h (fun e164 h => ?_) (fun e164 h => ?_)
      · conv => whnf
        refine hE152 _ _ _ _ ?_
        conv => whnf
        obtain rfl := Option.some.inj h
        exact .refl _
      · conv => whnf
        refine arithO h fun x165 h => ?_
        conv => whnf
        exact hC154 (x165) h _ _ _ (subX_mk ⟨.refl _, .refl _, .refl _, .refl _, .refl _, .refl _, .refl _, trivial⟩ trivial rfl rfl rfl)
    · conv => whnf
      exact hN152 ((decide (s154 < min (↑(List.length (List.map enc_TReEntry a0)) : Int) (↑(List.length (List.map enc_TReEntry a1)) : Int)), s154)) h _ _ _ (subX_mk ⟨.refl _, .refl _, .refl _, .refl _, .refl _, .refl _, .refl _, .refl _, trivial⟩ trivial rfl rfl rfl)
theorem R_view_Agree {a0 : TLattice} {a1 : TEvTrace} {a2 : TEvTrace} {a3 : Int} {r : Bool × Int} (h : F_view_Agree a0 a1 a2 a3 = some r) : Ret E F.view_Agree [enc_TLattice a0, enc_TEvTrace a1, enc_TEvTrace a2, SV.int IntKind.i64 a3] (SV.tup [SV.bool r.fst, SV.int IntKind.i64 r.snd]) := by
  replace h := bindO h
  unfold F_view_Agree at h
  refine ret_of_fnG (fn := Tryz.f17) (cuts := []) ok Tryz.func17 (by kernel_rfl) rfl ?_
  conv => whnf
  refine callOk (enc := (SV.int .i64)) h (fun _ hx => R_view_asked hx) (fun x117 h => ?_)
  conv => whnf
  refine brkO h (fun e118 h => ?_) (fun e118 h => ?_)
  · conv => whnf
    obtain rfl := Option.some.inj h
    exact .refl _
  · conv => whnf
    refine ⟨by (conv => whnf); trivial, ?_⟩
    conv => whnf
    refine callOk (enc := (encSl 7 enc_TReEntry)) h (fun _ hx => R_view_entries hx) (fun x150 h => ?_)
    conv => whnf
    refine callOk (enc := (encSl 7 enc_TReEntry)) h (fun _ hx => R_view_entries hx) (fun x151 h => ?_)
    conv => whnf
    refine callOk (enc := (SV.int .i64)) h (fun _ hx => R_view_differ_api_ReEntry_ hx) (fun x166 h => ?_)
    conv => whnf
    obtain rfl := Option.some.inj h
    exact .refl _
theorem R_view_differ_api_EvEvent_ {a0 : List TEvEvent} {a1 : List TEvEvent} {r : Int} (h : F_view_differ_api_EvEvent_ a0 a1 = some r) : Ret E F.view_differ_api_EvEvent_ [encSl (11 : Nat) enc_TEvEvent a0, encSl (11 : Nat) enc_TEvEvent a1, SV.fn (41 : Nat) []] (SV.int IntKind.i64 r) := by
  replace h := bindO h
  unfold F_view_differ_api_EvEvent_ at h
  refine ret_of_fnG (fn := Tryz.f47) (cuts := [0]) ok Tryz.func47 (by kernel_rfl) rfl ?_
  conv => whnf
  refine cutOk (fun (s174 : Bool × Int) => [(16, SV.bool (s174.fst)), (15, (SV.int .i64) (s174.snd)), (14, (SV.int .i64) (min (↑(List.length (List.map enc_TEvEvent a0)) : Int) (↑(List.length (List.map enc_TEvEvent a1)) : Int))), (7, (SV.int .i64) (min (↑(List.length (List.map enc_TEvEvent a0)) : Int) (↑(List.length (List.map enc_TEvEvent a1)) : Int))), (6, (SV.int .i64) ((0 : Int))), (2, SV.fn (41 : Nat) []), (1, (encSl 11 enc_TEvEvent) (a1)), (0, (encSl 11 enc_TEvEvent) (a0))]) (fun (s174 : Bool × Int) => []) 1 h (fun s174 h => ?_) (fun K174 hN174 hE174 h => ?_)
  · conv => whnf
    obtain rfl := Option.some.inj h
    exact .refl _
  · conv => whnf
    refine loopOk (fun (s176 : Int) => [(15, (SV.int .i64) (s176)), (14, (SV.int .i64) (min (↑(List.length (List.map enc_TEvEvent a0)) : Int) (↑(List.length (List.map enc_TEvEvent a1)) : Int))), (7, (SV.int .i64) (min (↑(List.length (List.map enc_TEvEvent a0)) : Int) (↑(List.length (List.map enc_TEvEvent a1)) : Int))), (6, (SV.int .i64) ((0 : Int))), (2, SV.fn (41 : Nat) []), (1, (encSl 11 enc_TEvEvent) (a1)), (0, (encSl 11 enc_TEvEvent) (a0))]) (fun (s176 : Int) => []) 9 h (subX_mk ⟨.refl _, .refl _, .refl _, .refl _, .refl _, .refl _, .refl _, trivial⟩ trivial rfl rfl rfl) (fun s176 rc176 C176 hC176 h => ?_)
    conv => whnf
    refine brkO h (fun e182 h => ?_) (fun e182 h => ?_)
    · conv => whnf
      refine ⟨by (conv => whnf); trivial, ?_⟩
      conv => whnf
      refine idxOk enc_TEvEvent h rfl fun x183 h => ?_
      conv => whnf
      refine idxOk enc_TEvEvent h rfl fun x184 h => ?_
      conv => whnf
      refine callOk (enc := SV.bool) h (fun _ hx => R_view_same hx) (fun x185 h => ?_)
      conv => whnf
      refine brkO h (fun e186 h => ?_) (fun e186 h => ?_)
      · conv => whnf
        refine hE174 _ _ _ _ ?_
        conv => whnf
        obtain rfl := Option.some.inj h
        exact .refl _
      · conv => whnf
        refine arithO h fun x187 h => ?_
        conv => whnf
        exact hC176 (x187) h _ _ _ (subX_mk ⟨.refl _, .refl _, .refl _, .refl _, .refl _, .refl _, .refl _, trivial⟩ trivial rfl rfl rfl)
    · conv => whnf
      exact hN174 ((decide (s176 < min (↑(List.length (List.map enc_TEvEvent a0)) : Int) (↑(List.length (List.map enc_TEvEvent a1)) : Int)), s176)) h _ _ _ (subX_mk ⟨.refl _, .refl _, .refl _, .refl _, .refl _, .refl _, .refl _, .refl _, trivial⟩ trivial rfl rfl rfl)
theorem R_view_Differ {a0 : TLattice} {a1 : TEvTrace} {a2 : TEvTrace} {a3 : Int} {r : Int × Int} (h : F_view_Differ a0 a1 a2 a3 = some r) : Ret E F.view_Differ [enc_TLattice a0, enc_TEvTrace a1, enc_TEvTrace a2, SV.int IntKind.i64 a3] (SV.tup [SV.int IntKind.i64 r.fst, SV.int IntKind.i64 r.snd]) := by
  replace h := bindO h
  unfold F_view_Differ at h
  refine ret_of_fnG (fn := Tryz.f18) (cuts := []) ok Tryz.func18 (by kernel_rfl) rfl ?_
  conv => whnf
  refine callOk (enc := (SV.int .i64)) h (fun _ hx => R_view_asked hx) (fun x170 h => ?_)
  conv => whnf
  refine brkO h (fun e171 h => ?_) (fun e171 h => ?_)
  · conv => whnf
    obtain rfl := Option.some.inj h
    exact .refl _
  · conv => whnf
    refine ⟨by (conv => whnf); trivial, ?_⟩
    conv => whnf
    refine callOk (enc := (encSl 11 enc_TEvEvent)) h (fun _ hx => R_view_events hx) (fun x172 h => ?_)
    conv => whnf
    refine callOk (enc := (encSl 11 enc_TEvEvent)) h (fun _ hx => R_view_events hx) (fun x173 h => ?_)
    conv => whnf
    refine callOk (enc := (SV.int .i64)) h (fun _ hx => R_view_differ_api_EvEvent_ hx) (fun x188 h => ?_)
    conv => whnf
    obtain rfl := Option.some.inj h
    exact .refl _
theorem R_view_Events {a0 : TLattice} {a1 : TEvTrace} {a2 : Int} {r : List TEvEvent × Int} (h : F_view_Events a0 a1 a2 = some r) : Ret E F.view_Events [enc_TLattice a0, enc_TEvTrace a1, SV.int IntKind.i64 a2] (SV.tup [encSl (11 : Nat) enc_TEvEvent r.fst, SV.int IntKind.i64 r.snd]) := by
  replace h := bindO h
  unfold F_view_Events at h
  refine ret_of_fnG (fn := Tryz.f15) (cuts := []) ok Tryz.func15 (by kernel_rfl) rfl ?_
  conv => whnf
  refine callOk (enc := (SV.int .i64)) h (fun _ hx => R_view_asked hx) (fun x190 h => ?_)
  conv => whnf
  refine brkO h (fun e191 h => ?_) (fun e191 h => ?_)
  · conv => whnf
    obtain rfl := Option.some.inj h
    exact .refl _
  · conv => whnf
    refine callOk (enc := (encSl 11 enc_TEvEvent)) h (fun _ hx => R_view_events hx) (fun x192 h => ?_)
    conv => whnf
    obtain rfl := Option.some.inj h
    exact .refl _
theorem R_invigilatorlaw31_ViewEqual {a0 : TLattice} {a1 : TEvTrace × TEvTrace × TEvTrace} {a2 : Int} {r : Bool} (h : F_invigilatorlaw31_ViewEqual a0 a1 a2 = some r) : Ret E F.invigilatorlaw31_ViewEqual [enc_TLattice a0, encA3 (4 : Nat) enc_TEvTrace a1, SV.int IntKind.i64 a2] (SV.bool r) := by
  replace h := bindO h
  unfold F_invigilatorlaw31_ViewEqual at h
  refine ret_of_fnG (fn := Tryz.f5) (cuts := []) ok Tryz.func5 (by kernel_rfl) rfl ?_
  conv => whnf
  refine callOk (enc := SV.bool) h (fun _ hx => R_invigilatorlaw20_Large hx) (fun x13 h => ?_)
  conv => whnf
  refine brkN h (fun e14 h => ?_) (fun e14 h => ?_)
  · conv => whnf
    refine call L_law31_shown ?_
    conv => whnf
    obtain rfl := Option.some.inj h
    exact .refl _
  · conv => whnf
    refine side (by decide) ?_
    conv => whnf
    refine idx_some (by decide) rfl ?_
    conv => whnf
    refine callOk (enc := SV.bool) h (fun _ hx => R_invigilatorlaw31_far hx) (fun x31 h => ?_)
    conv => whnf
    refine brkN h (fun e32 h => ?_) (fun e32 h => ?_)
    · conv => whnf
      refine call L_law31_shown ?_
      conv => whnf
      obtain rfl := Option.some.inj h
      exact .refl _
    · conv => whnf
      refine side (by decide) ?_
      conv => whnf
      refine idx_some (by decide) rfl ?_
      conv => whnf
      refine callOk (enc := SV.bool) h (fun _ hx => R_invigilatorlaw31_far hx) (fun x33 h => ?_)
      conv => whnf
      refine brkN h (fun e34 h => ?_) (fun e34 h => ?_)
      · conv => whnf
        refine call L_law31_shown ?_
        conv => whnf
        obtain rfl := Option.some.inj h
        exact .refl _
      · conv => whnf
        refine side (by decide) ?_
        conv => whnf
        refine idx_some (by decide) rfl ?_
        conv => whnf
        refine callOk (enc := SV.bool) h (fun _ hx => R_invigilatorlaw31_far hx) (fun x35 h => ?_)
        conv => whnf
        refine brkO h (fun e36 h => ?_) (fun e36 h => ?_)
        · conv => whnf
          refine call L_law31_shown ?_
          conv => whnf
          obtain rfl := Option.some.inj h
          exact .refl _
        · conv => whnf
          refine side (by decide) ?_
          conv => whnf
          refine idx_some (by decide) rfl ?_
          conv => whnf
          refine side (by decide) ?_
          conv => whnf
          refine idx_some (by decide) rfl ?_
          conv => whnf
          refine callOk (enc := (fun (x : Bool × Int) => SV.tup [SV.bool x.fst, SV.int IntKind.i64 x.snd])) h (fun _ hx => R_view_Alike hx) (fun x102 h => ?_)
          conv => whnf
          refine side (by decide) ?_
          conv => whnf
          refine idx_some (by decide) rfl ?_
          conv => whnf
          refine side (by decide) ?_
          conv => whnf
          refine idx_some (by decide) rfl ?_
          conv => whnf
          refine callOk (enc := (fun (x : Bool × Int) => SV.tup [SV.bool x.fst, SV.int IntKind.i64 x.snd])) h (fun _ hx => R_view_Alike hx) (fun x103 h => ?_)
          conv => whnf
          refine brkN h (fun e104 h => ?_) (fun e104 h => ?_)
          · conv => whnf
            refine call L_law31_shown ?_
            conv => whnf
            obtain rfl := Option.some.inj h
            exact .refl _
          · conv => whnf
            refine brkO h (fun e105 h => ?_) (fun e105 h => ?_)
            · conv => whnf
              refine call L_law31_shown ?_
              conv => whnf
              obtain rfl := Option.some.inj h
              exact .refl _
            · conv => whnf
              refine side (by decide) ?_
              conv => whnf
              refine idx_some (by decide) rfl ?_
              conv => whnf
              refine side (by decide) ?_
              conv => whnf
              refine idx_some (by decide) rfl ?_
              conv => whnf
              refine callOk (enc := (fun (x : Bool × Int) => SV.tup [SV.bool x.fst, SV.int IntKind.i64 x.snd])) h (fun _ hx => R_view_Alike hx) (fun x106 h => ?_)
              conv => whnf
              refine side (by decide) ?_
              conv => whnf
              refine idx_some (by decide) rfl ?_
              conv => whnf
              refine side (by decide) ?_
              conv => whnf
              refine idx_some (by decide) rfl ?_
              conv => whnf
              refine callOk (enc := (fun (x : Bool × Int) => SV.tup [SV.bool x.fst, SV.int IntKind.i64 x.snd])) h (fun _ hx => R_view_Alike hx) (fun x107 h => ?_)
              conv => whnf
              refine side (by decide) ?_
              conv => whnf
              refine idx_some (by decide) rfl ?_
              conv => whnf
              refine side (by decide) ?_
              conv => whnf
              refine idx_some (by decide) rfl ?_
              conv => whnf
              refine callOk (enc := (fun (x : Bool × Int) => SV.tup [SV.bool x.fst, SV.int IntKind.i64 x.snd])) h (fun _ hx => R_view_Alike hx) (fun x108 h => ?_)
              conv => whnf
              refine brkN h (fun e109 h => ?_) (fun e109 h => ?_)
              · conv => whnf
                obtain rfl := Option.some.inj h
                exact .refl _
              · conv => whnf
                refine brkN h (fun e110 h => ?_) (fun e110 h => ?_)
                · conv => whnf
                  obtain rfl := Option.some.inj h
                  exact .refl _
                · conv => whnf
                  refine brkN h (fun e111 h => ?_) (fun e111 h => ?_)
                  · conv => whnf
                    obtain rfl := Option.some.inj h
                    exact .refl _
                  · conv => whnf
                    refine brkN h (fun e112 h => ?_) (fun e112 h => ?_)
                    · conv => whnf
                      obtain rfl := Option.some.inj h
                      exact .refl _
                    · conv => whnf
                      refine brkN h (fun e113 h => ?_) (fun e113 h => ?_)
                      · conv => whnf
                        obtain rfl := Option.some.inj h
                        exact .refl _
                      · conv => whnf
                        refine brkO h (fun e114 h => ?_) (fun e114 h => ?_)
                        · conv => whnf
                          refine brkO h (fun e115 h => ?_) (fun e115 h => ?_)
                          · conv => whnf
                            refine brkO h (fun e116 h => ?_) (fun e116 h => ?_)
                            · conv => whnf
                              obtain rfl := Option.some.inj h
                              exact .refl _
                            · conv => whnf
                              refine side (by decide) ?_
                              conv => whnf
                              refine idx_some (by decide) rfl ?_
                              conv => whnf
                              refine side (by decide) ?_
                              conv => whnf
                              refine idx_some (by decide) rfl ?_
                              conv => whnf
                              refine callOk (enc := (fun (x : Bool × Int) => SV.tup [SV.bool x.fst, SV.int IntKind.i64 x.snd])) h (fun _ hx => R_view_Agree hx) (fun x167 h => ?_)
                              conv => whnf
                              refine side (by decide) ?_
                              conv => whnf
                              refine idx_some (by decide) rfl ?_
                              conv => whnf
                              refine side (by decide) ?_
                              conv => whnf
                              refine idx_some (by decide) rfl ?_
                              conv => whnf
                              refine callOk (enc := (fun (x : Bool × Int) => SV.tup [SV.bool x.fst, SV.int IntKind.i64 x.snd])) h (fun _ hx => R_view_Agree hx) (fun x168 h => ?_)
                              conv => whnf
                              refine side (by decide) ?_
                              conv => whnf
                              refine idx_some (by decide) rfl ?_
                              conv => whnf
                              refine side (by decide) ?_
                              conv => whnf
                              refine idx_some (by decide) rfl ?_
                              conv => whnf
                              refine callOk (enc := (fun (x : Bool × Int) => SV.tup [SV.bool x.fst, SV.int IntKind.i64 x.snd])) h (fun _ hx => R_view_Agree hx) (fun x169 h => ?_)
                              conv => whnf
                              refine side (by decide) ?_
                              conv => whnf
                              refine idx_some (by decide) rfl ?_
                              conv => whnf
                              refine side (by decide) ?_
                              conv => whnf
                              refine idx_some (by decide) rfl ?_
                              conv => whnf
                              refine callOk (enc := (fun (x : Int × Int) => SV.tup [SV.int IntKind.i64 x.fst, SV.int IntKind.i64 x.snd])) h (fun _ hx => R_view_Differ hx) (fun x189 h => ?_)
                              conv => whnf
                              refine side (by decide) ?_
                              conv => whnf
                              refine idx_some (by decide) rfl ?_
                              conv => whnf
                              refine callOk (enc := (fun (x : List TEvEvent × Int) => SV.tup [encSl (11 : Nat) enc_TEvEvent x.fst, SV.int IntKind.i64 x.snd])) h (fun _ hx => R_view_Events hx) (fun x193 h => ?_)
                              conv => whnf
                              refine side (by decide) ?_
                              conv => whnf
                              refine idx_some (by decide) rfl ?_
                              conv => whnf
                              refine callOk (enc := (fun (x : List TEvEvent × Int) => SV.tup [encSl (11 : Nat) enc_TEvEvent x.fst, SV.int IntKind.i64 x.snd])) h (fun _ hx => R_view_Events hx) (fun x194 h => ?_)
                              conv => whnf
                              refine brkO h (fun e195 h => ?_) (fun e195 h => ?_)
                              · conv => whnf
                                refine brkO h (fun e196 h => ?_) (fun e196 h => ?_)
                                · conv => whnf
                                  refine brkO h (fun e197 h => ?_) (fun e197 h => ?_)
                                  · conv => whnf
                                    refine brkO h (fun e198 h => ?_) (fun e198 h => ?_)
                                    · conv => whnf
                                      refine brkO h (fun e199 h => ?_) (fun e199 h => ?_)
                                      · conv => whnf
                                        refine brkO h (fun e200 h => ?_) (fun e200 h => ?_)
                                        · conv => whnf
                                          refine brkO h (fun e201 h => ?_) (fun e201 h => ?_)
                                          · conv => whnf
                                            refine brkO h (fun e202 h => ?_) (fun e202 h => ?_)
                                            · conv => whnf
                                              refine call L_law31_shown ?_
                                              conv => whnf
                                              obtain rfl := Option.some.inj h
                                              exact .refl _
                                            · conv => whnf
                                              obtain rfl := Option.some.inj h
                                              exact .refl _
                                          · conv => whnf
                                            refine brkO h (fun e203 h => ?_) (fun e203 h => ?_)
                                            · conv => whnf
                                              refine call L_law31_shown ?_
                                              conv => whnf
                                              obtain rfl := Option.some.inj h
                                              exact .refl _
                                            · conv => whnf
                                              obtain rfl := Option.some.inj h
                                              exact .refl _
                                        · conv => whnf
                                          obtain rfl := Option.some.inj h
                                          exact .refl _
                                      · conv => whnf
                                        obtain rfl := Option.some.inj h
                                        exact .refl _
                                    · conv => whnf
                                      obtain rfl := Option.some.inj h
                                      exact .refl _
                                  · conv => whnf
                                    obtain rfl := Option.some.inj h
                                    exact .refl _
                                · conv => whnf
                                  obtain rfl := Option.some.inj h
                                  exact .refl _
                              · conv => whnf
                                obtain rfl := Option.some.inj h
                                exact .refl _
                          · conv => whnf
                            refine side (by decide) ?_
                            conv => whnf
                            refine idx_some (by decide) rfl ?_
                            conv => whnf
                            refine side (by decide) ?_
                            conv => whnf
                            refine idx_some (by decide) rfl ?_
                            conv => whnf
                            refine callOk (enc := (fun (x : Bool × Int) => SV.tup [SV.bool x.fst, SV.int IntKind.i64 x.snd])) h (fun _ hx => R_view_Agree hx) (fun x204 h => ?_)
                            conv => whnf
                            refine side (by decide) ?_
                            conv => whnf
                            refine idx_some (by decide) rfl ?_
                            conv => whnf
                            refine side (by decide) ?_
                            conv => whnf
                            refine idx_some (by decide) rfl ?_
                            conv => whnf
                            refine callOk (enc := (fun (x : Bool × Int) => SV.tup [SV.bool x.fst, SV.int IntKind.i64 x.snd])) h (fun _ hx => R_view_Agree hx) (fun x205 h => ?_)
                            conv => whnf
                            refine side (by decide) ?_
                            conv => whnf
                            refine idx_some (by decide) rfl ?_
                            conv => whnf
                            refine side (by decide) ?_
                            conv => whnf
                            refine idx_some (by decide) rfl ?_
                            conv => whnf
                            refine callOk (enc := (fun (x : Bool × Int) => SV.tup [SV.bool x.fst, SV.int IntKind.i64 x.snd])) h (fun _ hx => R_view_Agree hx) (fun x206 h => ?_)
                            conv => whnf
                            refine side (by decide) ?_
                            conv => whnf
                            refine idx_some (by decide) rfl ?_
                            conv => whnf
                            refine side (by decide) ?_
                            conv => whnf
                            refine idx_some (by decide) rfl ?_
                            conv => whnf
                            refine callOk (enc := (fun (x : Int × Int) => SV.tup [SV.int IntKind.i64 x.fst, SV.int IntKind.i64 x.snd])) h (fun _ hx => R_view_Differ hx) (fun x207 h => ?_)
                            conv => whnf
                            refine side (by decide) ?_
                            conv => whnf
                            refine idx_some (by decide) rfl ?_
                            conv => whnf
                            refine callOk (enc := (fun (x : List TEvEvent × Int) => SV.tup [encSl (11 : Nat) enc_TEvEvent x.fst, SV.int IntKind.i64 x.snd])) h (fun _ hx => R_view_Events hx) (fun x208 h => ?_)
                            conv => whnf
                            refine side (by decide) ?_
                            conv => whnf
                            refine idx_some (by decide) rfl ?_
                            conv => whnf
                            refine callOk (enc := (fun (x : List TEvEvent × Int) => SV.tup [encSl (11 : Nat) enc_TEvEvent x.fst, SV.int IntKind.i64 x.snd])) h (fun _ hx => R_view_Events hx) (fun x209 h => ?_)
                            conv => whnf
                            refine brkO h (fun e210 h => ?_) (fun e210 h => ?_)
                            · conv => whnf
                              refine brkO h (fun e211 h => ?_) (fun e211 h => ?_)
                              · conv => whnf
                                refine brkO h (fun e212 h => ?_) (fun e212 h => ?_)
                                · conv => whnf
                                  refine brkO h (fun e213 h => ?_) (fun e213 h => ?_)
                                  · conv => whnf
                                    refine brkO h (fun e214 h => ?_) (fun e214 h => ?_)
                                    · conv => whnf
                                      refine brkO h (fun e215 h => ?_) (fun e215 h => ?_)
                                      · conv => whnf
                                        refine brkO h (fun e216 h => ?_) (fun e216 h => ?_)
                                        · conv => whnf
                                          refine brkO h (fun e217 h => ?_) (fun e217 h => ?_)
                                          · conv => whnf
                                            refine call L_law31_shown ?_
                                            conv => whnf
                                            obtain rfl := Option.some.inj h
                                            exact .refl _
                                          · conv => whnf
                                            obtain rfl := Option.some.inj h
                                            exact .refl _
                                        · conv => whnf
                                          refine brkO h (fun e218 h => ?_) (fun e218 h => ?_)
                                          · conv => whnf
                                            refine call L_law31_shown ?_
                                            conv => whnf
                                            obtain rfl := Option.some.inj h
                                            exact .refl _
                                          · conv => whnf
                                            obtain rfl := Option.some.inj h
                                            exact .refl _
                                      · conv => whnf
                                        obtain rfl := Option.some.inj h
                                        exact .refl _
                                    · conv => whnf
                                      obtain rfl := Option.some.inj h
                                      exact .refl _
                                  · conv => whnf
                                    obtain rfl := Option.some.inj h
                                    exact .refl _
                                · conv => whnf
                                  obtain rfl := Option.some.inj h
                                  exact .refl _
                              · conv => whnf
                                obtain rfl := Option.some.inj h
                                exact .refl _
                            · conv => whnf
                              obtain rfl := Option.some.inj h
                              exact .refl _
                        · conv => whnf
                          refine side (by decide) ?_
                          conv => whnf
                          refine idx_some (by decide) rfl ?_
                          conv => whnf
                          refine side (by decide) ?_
                          conv => whnf
                          refine idx_some (by decide) rfl ?_
                          conv => whnf
                          refine callOk (enc := (fun (x : Bool × Int) => SV.tup [SV.bool x.fst, SV.int IntKind.i64 x.snd])) h (fun _ hx => R_view_Agree hx) (fun x219 h => ?_)
                          conv => whnf
                          refine side (by decide) ?_
                          conv => whnf
                          refine idx_some (by decide) rfl ?_
                          conv => whnf
                          refine side (by decide) ?_
                          conv => whnf
                          refine idx_some (by decide) rfl ?_
                          conv => whnf
                          refine callOk (enc := (fun (x : Bool × Int) => SV.tup [SV.bool x.fst, SV.int IntKind.i64 x.snd])) h (fun _ hx => R_view_Agree hx) (fun x220 h => ?_)
                          conv => whnf
                          refine side (by decide) ?_
                          conv => whnf
                          refine idx_some (by decide) rfl ?_
                          conv => whnf
                          refine side (by decide) ?_
                          conv => whnf
                          refine idx_some (by decide) rfl ?_
                          conv => whnf
                          refine callOk (enc := (fun (x : Bool × Int) => SV.tup [SV.bool x.fst, SV.int IntKind.i64 x.snd])) h (fun _ hx => R_view_Agree hx) (fun x221 h => ?_)
                          conv => whnf
                          refine side (by decide) ?_
                          conv => whnf
                          refine idx_some (by decide) rfl ?_
                          conv => whnf
                          refine side (by decide) ?_
                          conv => whnf
                          refine idx_some (by decide) rfl ?_
                          conv => whnf
                          refine callOk (enc := (fun (x : Int × Int) => SV.tup [SV.int IntKind.i64 x.fst, SV.int IntKind.i64 x.snd])) h (fun _ hx => R_view_Differ hx) (fun x222 h => ?_)
                          conv => whnf
                          refine side (by decide) ?_
                          conv => whnf
                          refine idx_some (by decide) rfl ?_
                          conv => whnf
                          refine callOk (enc := (fun (x : List TEvEvent × Int) => SV.tup [encSl (11 : Nat) enc_TEvEvent x.fst, SV.int IntKind.i64 x.snd])) h (fun _ hx => R_view_Events hx) (fun x223 h => ?_)
                          conv => whnf
                          refine side (by decide) ?_
                          conv => whnf
                          refine idx_some (by decide) rfl ?_
                          conv => whnf
                          refine callOk (enc := (fun (x : List TEvEvent × Int) => SV.tup [encSl (11 : Nat) enc_TEvEvent x.fst, SV.int IntKind.i64 x.snd])) h (fun _ hx => R_view_Events hx) (fun x224 h => ?_)
                          conv => whnf
                          refine brkO h (fun e225 h => ?_) (fun e225 h => ?_)
                          · conv => whnf
                            refine brkO h (fun e226 h => ?_) (fun e226 h => ?_)
                            · conv => whnf
                              refine brkO h (fun e227 h => ?_) (fun e227 h => ?_)
                              · conv => whnf
                                refine brkO h (fun e228 h => ?_) (fun e228 h => ?_)
                                · conv => whnf
                                  refine brkO h (fun e229 h => ?_) (fun e229 h => ?_)
                                  · conv => whnf
                                    refine brkO h (fun e230 h => ?_) (fun e230 h => ?_)
                                    · conv => whnf
                                      refine brkO h (fun e231 h => ?_) (fun e231 h => ?_)
                                      · conv => whnf
                                        refine brkO h (fun e232 h => ?_) (fun e232 h => ?_)
                                        · conv => whnf
                                          refine call L_law31_shown ?_
                                          conv => whnf
                                          obtain rfl := Option.some.inj h
                                          exact .refl _
                                        · conv => whnf
                                          obtain rfl := Option.some.inj h
                                          exact .refl _
                                      · conv => whnf
                                        refine brkO h (fun e233 h => ?_) (fun e233 h => ?_)
                                        · conv => whnf
                                          refine call L_law31_shown ?_
                                          conv => whnf
                                          obtain rfl := Option.some.inj h
                                          exact .refl _
                                        · conv => whnf
                                          obtain rfl := Option.some.inj h
                                          exact .refl _
                                    · conv => whnf
                                      obtain rfl := Option.some.inj h
                                      exact .refl _
                                  · conv => whnf
                                    obtain rfl := Option.some.inj h
                                    exact .refl _
                                · conv => whnf
                                  obtain rfl := Option.some.inj h
                                  exact .refl _
                              · conv => whnf
                                obtain rfl := Option.some.inj h
                                exact .refl _
                            · conv => whnf
                              obtain rfl := Option.some.inj h
                              exact .refl _
                          · conv => whnf
                            obtain rfl := Option.some.inj h
                            exact .refl _
end Go.Sx.Tz
