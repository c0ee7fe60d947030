/-
  An own text of this claim.
-/
import Derived.Test.YtljdcgnbdomlhaaGreatDoorR1
namespace Go.Sx.Tz
open Go.Proofs Go.Sx.O
set_option maxRecDepth 100000
set_option maxHeartbeats 4000000
set_option linter.unusedSimpArgs false
theorem zzr {a0 : List UInt8} {a1 : List (List UInt8)} {r : Int} (h : zfp a0 a1 = some r) : Ret E 93 [SV.str a0, zf 1 SV.str a1] (SV.int .i64 r) := by
 replace h := zm h
 unfold zfp at h
 refine rg [0] Tryz.func93 (by kernel_rfl) rfl ?_
 refine zb h (fun _ => zDv) fun _ h => za h (fun _ h => ?_) fun _ h => ?_
 cases h; exact .r
 refine zt (fun (s341 : Unit) => [(4, .int .i64 0)]) (fun _ => []) 1 h (fun s341 h => ?_) (fun K341 hN341 hE341 h => ?_)
 cases h; exact .r
 refine zn (fun (s343 : Int) => [(5, .int .i64 s343), (4, .int .i64 0), (1, (zf 1 SV.str) a1), (0, .str a0)]) (fun _ => []) 5 h (zd rfl rfl rfl rfl rfl) (fun s343 rc343 C343 hC343 h => ?_)
 refine za h ?_ ?_ <;> intro _ h
 refine zp SV.str h rfl fun x348 h => za h (fun _ h => ?_) fun _ h => ?_
 refine hE341 _ _ _ _ ?_
 cases h; exact .r
 refine ze h fun x350 h => ?_
 exact hC343 x350 h _ _ _ (zd rfl rfl rfl rfl rfl)
 exact hN341 (()) h _ _ _ (zd rfl rfl rfl rfl rfl)
theorem uM {a0 : TL} {a1 : Int} {r : Bool} (h : jt a0 a1 = some r) : Ret E 94 [zH a0, SV.int .i64 a1] (SV.bool r) := by
 replace h := zm h
 unfold jt at h
 refine rg [] Tryz.func94 (by kernel_rfl) rfl ?_
 refine za h ?_ ?_ <;> intro _ h
 cases h; exact .r
 cases h; exact .r
theorem zD6 {a0 : TP} {r : Int × Int} (h : zib a0 = some r) : Ret E 63 [zy a0] (SV.tup [SV.int .i64 r.fst, SV.int .i64 r.snd]) := by
 replace h := zm h
 unfold zib at h
 refine rg [0] Tryz.func63 (by kernel_rfl) rfl ?_
 refine za h ?_ ?_ <;> intro _ h
 cases h; exact .r
 refine zt (fun (s224 : Unit) => [(3, .int .i64 0), (2, .int .i64 0)]) (fun _ => []) 1 h (fun s224 h => ?_) (fun K224 hN224 hE224 h => ?_)
 cases h; exact .r
 refine zn (fun (s226 : Int × List (List UInt8)) => [(5, .int .i64 (s226.fst)), (4, SV.osl (7) 1), (3, .int .i64 0), (2, .int .i64 0), (1, SV.ptr 0 [])]) (fun s226 => [(7, Blk.row true 1 (List.map SV.str s226.snd)), (0, Blk.var true (zy a0))]) 9 h (zd rfl rfl rfl rfl rfl) (fun s226 rc226 C226 hC226 h => ?_)
 refine za h ?_ ?_ <;> intro _ h
 refine zp zZ h rfl fun _ h => zb h (fun _ => zzr) fun _ h => ?_
 refine ⟨by trivial, ?_⟩
 refine za h ?_ ?_ <;> intro _ h
 refine zp zZ h rfl fun _ h => zb h (fun _ => uM) fun _ h => za h (fun _ h => ?_) fun _ h => ?_
 refine pT ?_
 refine hE224 _ _ _ _ ?_
 cases h; exact .r
 refine za h ?_ ?_ <;> intro _ h
 refine hE224 _ _ _ _ ?_
 cases h; exact .r
 refine zp zZ h rfl fun x246 h => zl h fun _ h => ze h fun x247 h => ?_
 exact hC226 ((x247, s226.snd ++ [x246.s_])) h _ _ _ (qE ⟨.refl _, .refl _, .refl _, .refl _, .refl _, trivial⟩ ⟨(.row (.appm .refl (.cons .refl .refl))), .refl, trivial⟩ rfl rfl rfl)
 refine za h ?_ ?_ <;> intro _ h
 refine hE224 _ _ _ _ ?_
 cases h; exact .r
 refine zp zZ h rfl fun x249 h => zl h fun _ h => ze h fun x250 h => ?_
 exact hC226 ((x250, s226.snd ++ [x249.s_])) h _ _ _ (qE ⟨.refl _, .refl _, .refl _, .refl _, .refl _, trivial⟩ ⟨(.row (.appm .refl (.cons .refl .refl))), .refl, trivial⟩ rfl rfl rfl)
 exact hN224 (()) h _ _ _ (zd rfl rfl rfl rfl rfl)
theorem zD4 {a0 : TL} {a1 : Int} {a2 : Int} {r : Int} (h : zjk a0 a1 a2 = some r) : Ret E 140 [zH a0, SV.int .i64 a1, SV.int .i64 a2] (SV.int .i64 r) := by
 replace h := zm h
 unfold zjk at h
 refine rg [] Tryz.func140 (by kernel_rfl) rfl ?_
 refine zb h (fun _ => zxp) fun _ h => za h (fun _ h => ?_) fun _ h => ?_
 refine zW h (fun e275 h => ?_) (fun e275 h => ?_)
 cases h; exact .r
 refine zW h (fun e276 h => ?_) (fun e276 h => ?_)
 cases h; exact .r
 refine zW h (fun e277 h => ?_) (fun e277 h => ?_)
 cases h; exact .r
 refine za h ?_ ?_ <;> intro _ h
 cases h; exact .r
 cases h; exact .r
 cases h; exact .r
theorem zzd {a0 : TL} {r : Int × Int} (h : zfm a0 = some r) : Ret E 117 [zH a0] (SV.tup [SV.int .i64 r.fst, SV.int .i64 r.snd]) := by
 replace h := zm h
 unfold zfm at h
 refine rg [0] Tryz.func117 (by kernel_rfl) rfl ?_
 refine zb h (fun _ => zD4) fun x279 h => za h (fun _ h => ?_) fun _ h => ?_
 cases h; exact .r
 refine zb h (fun _ => zCc) fun x281 h => ?_
 refine zt (fun (s282 : Int) => [(6, .int .i64 s282), (3, .int .i64 0), (2, .int .i64 0)]) (fun _ => []) 1 h (fun s282 h => ?_) (fun K282 hN282 hE282 h => ?_)
 cases h; exact .r
 refine zn (fun (s284 : Int × Int) => [(7, .int .i64 (s284.fst)), (6, .int .i64 (s284.snd)), (5, (zf 1 (SV.int .u8)) x281), (3, .int .i64 0), (2, .int .i64 0), (1, SV.ptr 0 [])]) (fun s284 => [(0, Blk.var true (zH a0))]) 13 h (zd rfl rfl rfl rfl rfl) (fun s284 rc284 C284 hC284 h => ?_)
 refine za h ?_ ?_ <;> intro _ h
 refine zb h (fun _ => zy1) fun x288 h => ze h fun x289 h => ?_
 exact hC284 ((x289, x288)) h _ _ _ (zd rfl rfl rfl rfl rfl)
 exact hN282 (s284.snd) h _ _ _ (zd rfl rfl rfl rfl rfl)
theorem zDa {a0 : TL} {a1 : TY} {r : Int} (h : zfo a0 a1 = some r) : Ret E 95 [zH a0, qH a1] (SV.int .i64 r) := by
 replace h := zm h
 unfold zfo at h
 refine rg [0, 2] Tryz.func95 (by kernel_rfl) rfl ?_
 refine zb h (fun _ => zxp) fun _ h => za h (fun _ h => ?_) fun _ h => ?_
 cases h; exact .r
 refine za h ?_ ?_ <;> intro _ h
 refine zW h (fun e264 h => ?_) (fun e264 h => ?_)
 cases h; exact .r
 refine zW h (fun e265 h => ?_) (fun e265 h => ?_)
 cases h; exact .r
 refine zW h (fun e266 h => ?_) (fun e266 h => ?_)
 cases h; exact .r
 refine zU (by decide) ?_
 refine zr (by decide) rfl ?_
 refine zb h (fun _ => uM) fun _ h => ?_
 refine zW h (fun e268 h => ?_) (fun e268 h => ?_)
 cases h; exact .r
 refine zU (by decide) ?_
 refine zr (by decide) rfl ?_
 refine zb h (fun _ => uM) fun x269 h => ?_
 refine zW h (fun e270 h => ?_) (fun e270 h => ?_)
 cases h; exact .r
 refine zb h (fun _ => uM) fun x271 h => za h (fun _ h => ?_) fun _ h => ?_
 cases h; exact .r
 refine zb h (fun _ => zzd) fun x290 h => ?_
 refine zt (fun (s291 : Unit) => [(4, .int .i64 0), (3, SV.ptr (1) []), (2, SV.ptr 0 [])]) (fun s291 => [(1, Blk.var true (qH a1)), (0, Blk.var true (zH a0))]) 2 h (fun s291 h => ?_) (fun K291 hN291 hE291 h => ?_)
 refine zt (fun (s302 : Unit) => [(4, .int .i64 0)]) (fun _ => []) 1 h (fun s302 h => ?_) (fun K302 hN302 hE302 h => ?_)
 cases h; exact .r
 refine zn (fun (s304 : Int) => [(10, .int .i64 s304), (4, .int .i64 0), (3, SV.ptr (1) []), (2, SV.ptr 0 [])]) (fun s304 => [(1, Blk.var true (qH a1)), (0, Blk.var true (zH a0))]) 3 h (zd rfl rfl rfl rfl rfl) (fun s304 rc304 C304 hC304 h => ?_)
 refine za h ?_ ?_ <;> intro _ h
 refine ⟨by trivial, ?_⟩
 refine zl h fun _ h => zp (SV.int .i64) h (by first | (simp [zf, zI, List.map_append, List.map_take, List.map_drop, List.map_set, List.map_replicate]; done) | rfl) fun _ h => zb h (fun _ => zc3) fun _ h => za h (fun _ h => ?_) fun _ h => ?_
 refine hE302 _ _ _ _ ?_
 cases h; exact .r
 refine ze h fun x312 h => ?_
 exact hC304 x312 h _ _ _ (zd rfl rfl rfl rfl rfl)
 exact hN302 (()) h _ _ _ (zd rfl rfl rfl rfl rfl)
 refine zn (fun (s293 : Int) => [(9, .int .i64 s293), (7, .int .i64 (x290.fst)), (4, .int .i64 0), (3, SV.ptr (1) []), (2, SV.ptr 0 [])]) (fun s293 => [(1, Blk.var true (qH a1)), (0, Blk.var true (zH a0))]) 63 h (zd rfl rfl rfl rfl rfl) (fun s293 rc293 C293 hC293 h => ?_)
 refine za h ?_ ?_ <;> intro _ h
 refine zl h fun _ h => zp (SV.int .i64) h (by first | (simp [zf, zI, List.map_append, List.map_take, List.map_drop, List.map_set, List.map_replicate]; done) | rfl) fun _ h => za h (fun _ h => ?_) fun _ h => ?_
 refine hE291 _ _ _ _ ?_
 cases h; exact .r
 refine ze h fun x301 h => ?_
 exact hC293 x301 h _ _ _ (zd rfl rfl rfl rfl rfl)
 exact hN291 (()) h _ _ _ (zd rfl rfl rfl rfl rfl)
 refine zW h (fun e313 h => ?_) (fun e313 h => ?_)
 cases h; exact .r
 refine zW h (fun e314 h => ?_) (fun e314 h => ?_)
 cases h; exact .r
 refine zU (by decide) ?_
 refine zr (by decide) rfl ?_
 refine zb h (fun _ => uM) fun _ h => ?_
 refine zW h (fun e316 h => ?_) (fun e316 h => ?_)
 cases h; exact .r
 refine zU (by decide) ?_
 refine zr (by decide) rfl ?_
 refine zb h (fun _ => uM) fun x317 h => ?_
 refine zW h (fun e318 h => ?_) (fun e318 h => ?_)
 cases h; exact .r
 refine zb h (fun _ => uM) fun x319 h => za h (fun _ h => ?_) fun _ h => ?_
 cases h; exact .r
 refine zb h (fun _ => zzd) fun x321 h => ?_
 refine zt (fun (s322 : Unit) => [(4, .int .i64 0), (3, SV.ptr (1) []), (2, SV.ptr 0 [])]) (fun s322 => [(1, Blk.var true (qH a1)), (0, Blk.var true (zH a0))]) 2 h (fun s322 h => ?_) (fun K322 hN322 hE322 h => ?_)
 refine zt (fun (s333 : Unit) => [(4, .int .i64 0)]) (fun _ => []) 1 h (fun s333 h => ?_) (fun K333 hN333 hE333 h => ?_)
 cases h; exact .r
 refine zn (fun (s335 : Int) => [(10, .int .i64 s335), (4, .int .i64 0), (3, SV.ptr (1) []), (2, SV.ptr 0 [])]) (fun s335 => [(1, Blk.var true (qH a1)), (0, Blk.var true (zH a0))]) 3 h (zd rfl rfl rfl rfl rfl) (fun s335 rc335 C335 hC335 h => ?_)
 refine za h ?_ ?_ <;> intro _ h
 refine ⟨by trivial, ?_⟩
 refine zl h fun _ h => zp (SV.int .i64) h (by first | (simp [zf, zI, List.map_append, List.map_take, List.map_drop, List.map_set, List.map_replicate]; done) | rfl) fun _ h => zb h (fun _ => zc3) fun x341 h => za h (fun _ h => ?_) fun _ h => ?_
 refine hE333 _ _ _ _ ?_
 cases h; exact .r
 refine ze h fun x343 h => ?_
 exact hC335 x343 h _ _ _ (zd rfl rfl rfl rfl rfl)
 exact hN333 (()) h _ _ _ (zd rfl rfl rfl rfl rfl)
 refine zn (fun (s324 : Int) => [(9, .int .i64 s324), (7, .int .i64 (x321.fst)), (4, .int .i64 0), (3, SV.ptr (1) []), (2, SV.ptr 0 [])]) (fun s324 => [(1, Blk.var true (qH a1)), (0, Blk.var true (zH a0))]) 60 h (zd rfl rfl rfl rfl rfl) (fun s324 rc324 C324 hC324 h => ?_)
 refine za h ?_ ?_ <;> intro _ h
 refine zl h fun _ h => zp (SV.int .i64) h (by first | (simp [zf, zI, List.map_append, List.map_take, List.map_drop, List.map_set, List.map_replicate]; done) | rfl) fun _ h => za h (fun _ h => ?_) fun _ h => ?_
 refine hE322 _ _ _ _ ?_
 cases h; exact .r
 refine ze h fun x332 h => ?_
 exact hC324 x332 h _ _ _ (zd rfl rfl rfl rfl rfl)
 exact hN322 (()) h _ _ _ (zd rfl rfl rfl rfl rfl)
theorem zD7 {a0 : TP} {r : Int × Int} (h : zi2 a0 = some r) : Ret E 64 [zy a0] (SV.tup [SV.int .i64 r.fst, SV.int .i64 r.snd]) := by
 replace h := zm h
 unfold zi2 at h
 refine rg [0] Tryz.func64 (by kernel_rfl) rfl ?_
 refine za h ?_ ?_ <;> intro _ h
 cases h; exact .r
 refine zt (fun (s254 : Unit) => [(3, .int .i64 0), (2, .int .i64 0)]) (fun _ => []) 1 h (fun s254 h => ?_) (fun K254 hN254 hE254 h => ?_)
 cases h; exact .r
 refine zn (fun (s256 : Int × List (List UInt8)) => [(5, .int .i64 (s256.fst)), (4, SV.osl (7) 1), (3, .int .i64 0), (2, .int .i64 0), (1, SV.ptr 0 [])]) (fun s256 => [(7, Blk.row true 1 (List.map SV.str s256.snd)), (0, Blk.var true (zy a0))]) 9 h (zd rfl rfl rfl rfl rfl) (fun s256 rc256 C256 hC256 h => ?_)
 refine za h ?_ ?_ <;> intro _ h
 refine zp zS h rfl fun _ h => zb h (fun _ => zzr) fun x269 h => za h (fun e270 h => ?_) (fun e270 h => ?_)
 refine ⟨by trivial, ?_⟩
 refine zp zS h rfl fun x271 h => zb h (fun _ => zDa) fun _ h => za h (fun _ h => ?_) fun _ h => ?_
 refine hE254 _ _ _ _ ?_
 cases h; exact .r
 refine zp zS h rfl fun x274 h => zl h fun _ h => ze h fun x275 h => ?_
 exact hC256 ((x275, s256.snd ++ [x274.Name])) h _ _ _ (qE ⟨.refl _, .refl _, .refl _, .refl _, .refl _, trivial⟩ ⟨(.row (.appm .refl (.cons .refl .refl))), .refl, trivial⟩ rfl rfl rfl)
 refine za h (fun e276 h => ?_) (fun e276 h => ?_)
 refine hE254 _ _ _ _ ?_
 cases h; exact .r
 refine zp zS h rfl fun x277 h => zl h fun _ h => ze h fun x278 h => ?_
 exact hC256 ((x278, s256.snd ++ [x277.Name])) h _ _ _ (qE ⟨.refl _, .refl _, .refl _, .refl _, .refl _, trivial⟩ ⟨(.row (.appm .refl (.cons .refl .refl))), .refl, trivial⟩ rfl rfl rfl)
 exact hN254 (()) h _ _ _ (zd rfl rfl rfl rfl rfl)
theorem zDx {a0 : TP} {r : Int × Int} (h : zh4 a0 = some r) : Ret E 65 [zy a0] (SV.tup [SV.int .i64 r.fst, SV.int .i64 r.snd]) := by
 replace h := zm h
 unfold zh4 at h
 refine rg [0, 2] Tryz.func65 (by kernel_rfl) rfl ?_
 refine za h ?_ ?_ <;> intro _ h
 cases h; exact .r
 refine zt (fun (s282 : Unit) => [(3, .int .i64 0), (2, .int .i64 0)]) (fun _ => []) 1 h (fun s282 h => ?_) (fun K282 hN282 hE282 h => ?_)
 cases h; exact .r
 refine zn (fun (s284 : Int) => [(4, .int .i64 s284), (3, .int .i64 0), (2, .int .i64 0), (1, SV.ptr 0 [])]) (fun s284 => [(0, Blk.var true (zy a0))]) 8 h (zd rfl rfl rfl rfl rfl) (fun s284 rc284 C284 hC284 h => ?_)
 refine za h ?_ ?_ <;> intro _ h
 refine zp wK h rfl fun x300 h => zb h (fun _ => uM) fun x301 h => ?_
 refine zW h (fun e302 h => ?_) (fun e302 h => ?_)
 refine hE282 _ _ _ _ ?_
 cases h; exact .r
 refine zb h (fun _ => uM) fun _ h => za h (fun _ h => ?_) fun _ h => ?_
 refine hE282 _ _ _ _ ?_
 cases h; exact .r
 refine zW h (fun e305 h => ?_) (fun e305 h => ?_)
 refine hE282 _ _ _ _ ?_
 cases h; exact .r
 refine zb h (fun _ => zc3) fun _ h => za h (fun _ h => ?_) fun _ h => ?_
 refine hE282 _ _ _ _ ?_
 cases h; exact .r
 refine zt (fun (s308 : Unit) => [(5, SV.ptr 18 []), (4, .int .i64 s284), (3, .int .i64 0), (2, .int .i64 0), (1, SV.ptr 0 [])]) (fun s308 => [(18, Blk.var true (wK x300)), (0, Blk.var true (zy a0))]) 19 h (fun s308 h => ?_) (fun K308 hN308 hE308 h => ?_)
 refine zW h (fun e323 h => ?_) (fun e323 h => ?_)
 refine hE282 _ _ _ _ ?_
 cases h; exact .r
 refine za h ?_ ?_ <;> intro _ h
 refine hE282 _ _ _ _ ?_
 cases h; exact .r
 refine ze h fun x325 h => ?_
 exact hC284 x325 h _ _ _ (zd rfl rfl rfl rfl rfl)
 refine zn (fun (s310 : Int) => [(6, .int .i64 s310), (5, SV.ptr 18 []), (4, .int .i64 s284), (3, .int .i64 0), (2, .int .i64 0), (1, SV.ptr 0 [])]) (fun s310 => [(18, Blk.var true (wK x300)), (0, Blk.var true (zy a0))]) 50 h (zd rfl rfl rfl rfl rfl) (fun s310 rc310 C310 hC310 h => ?_)
 refine za h (fun e316 h => ?_) (fun e316 h => ?_)
 refine ⟨by trivial, ?_⟩
 refine zp wK h rfl fun x317 h => za h (fun e318 h => ?_) (fun e318 h => ?_)
 refine zp wK h rfl fun x319 h => za h (fun _ h => ?_) fun _ h => ?_
 refine hE308 _ _ _ _ ?_
 refine hE282 _ _ _ _ ?_
 cases h; exact .r
 refine ze h fun x321 h => ?_
 exact hC310 x321 h _ _ _ (zd rfl rfl rfl rfl rfl)
 refine ze h fun x322 h => ?_
 exact hC310 x322 h _ _ _ (zd rfl rfl rfl rfl rfl)
 exact hN308 (()) h _ _ _ (zd rfl rfl rfl rfl rfl)
 exact hN282 (()) h _ _ _ (zd rfl rfl rfl rfl rfl)
theorem zzb {a0 : TP} {r : Int × Int × Int} (h : zfg a0 = some r) : Ret E 45 [zy a0] (SV.tup [SV.int .i64 r.fst, SV.int .i64 r.snd.fst, SV.int .i64 r.snd.snd]) := by
 replace h := zm h
 unfold zfg at h
 refine rg [] Tryz.func45 (by kernel_rfl) rfl ?_
 refine zb h (fun _ => zxp) fun _ h => za h (fun _ h => ?_) fun _ h => ?_
 cases h; exact .r
 refine zb h (fun _ => zD6) fun _ h => za h (fun _ h => ?_) fun _ h => ?_
 cases h; exact .r
 refine zb h (fun _ => zD7) fun x279 h => za h (fun _ h => ?_) fun _ h => ?_
 cases h; exact .r
 refine zb h (fun _ => zDx) fun _ h => za h (fun _ h => ?_) fun _ h => ?_
 cases h; exact .r
 cases h; exact .r
theorem zzz {a0 : TP} {a1 : Int} {r : Int} (h : zfe a0 a1 = some r) : Ret E 24 [zy a0, SV.int .i64 a1] (SV.int .i64 r) := by
 replace h := zm h
 unfold zfe at h
 refine rg [] Tryz.func24 (by kernel_rfl) rfl ?_
 refine zb h (fun _ => zzb) fun _ h => za h (fun _ h => ?_) fun _ h => ?_
 refine zW h (fun e330 h => ?_) (fun e330 h => ?_)
 cases h; exact .r
 refine za h ?_ ?_ <;> intro _ h
 cases h; exact .r
 cases h; exact .r
 cases h; exact .r
theorem zur {a0 : TL} {a1 : TY} {a2 : Int} {r : (Bool × Bool) × Bool} (h : za9 a0 a1 a2 = some r) : Ret E 25 [zH a0, qH a1, SV.int .i64 a2] (SV.agg [zO 1 SV.bool r.fst, .bool r.snd]) := by
 replace h := zm h
 unfold za9 at h
 refine rg [0] Tryz.func25 (by kernel_rfl) rfl ?_
 refine zb h (fun _ => zc3) fun _ h => ?_
 refine zt (fun (s339 : (Bool × Bool) × Bool) => [(7, SV.ptr (3) []), (6, SV.ptr (2) [])]) (fun s339 => [(3, Blk.var true ((fun (x : (Bool × Bool) × Bool) => SV.agg [zO 1 SV.bool x.fst, .bool x.snd]) s339)), (2, Blk.var true (SV.agg [SV.arr 2 1 [SV.fls, SV.fls], SV.fls]))]) 4 h (fun s339 h => ?_) (fun K339 hN339 hE339 h => ?_)
 cases h; exact .r
 refine zn (fun (s341 : Int × (Bool × Bool) × Bool) => [(8, .int .i64 (s341.fst)), (7, SV.ptr (3) []), (6, SV.ptr (2) []), (4, SV.ptr (1) []), (3, SV.ptr 0 []), (2, .int .i64 a2)]) (fun s341 => [(3, Blk.var true ((fun (x : (Bool × Bool) × Bool) => SV.agg [zO 1 SV.bool x.fst, .bool x.snd]) (s341.snd))), (2, Blk.var true (SV.agg [SV.arr 2 1 [SV.fls, SV.fls], SV.fls])), (1, Blk.var true (qH a1)), (0, Blk.var true (zH a0))]) 12 h (qE ⟨.refl _, .refl _, .refl _, .refl _, .refl _, .refl _, trivial⟩ ⟨(.var (.agg (.cons (.arr (.cons .fls (.cons .fls .refl))) (.cons .refl .nil)))), .refl, .refl, .refl, trivial⟩ rfl rfl rfl) (fun s341 rc341 C341 hC341 h => ?_)
 refine za h (fun e345 h => ?_) (fun e345 h => ?_)
 refine ⟨by trivial, ?_⟩
 refine zl h fun _ h => zp (SV.int .i64) h (by first | (simp [zf, zI, List.map_append, List.map_take, List.map_drop, List.map_set, List.map_replicate]; done) | rfl) fun _ h => zb h (fun _ => zc3) fun x347 h => zl h fun _ h => zp SV.bool h (by first | (simp [zf, zI, List.map_append, List.map_take, List.map_drop, List.map_set, List.map_replicate]; done) | rfl) fun x348 h => ?_
 refine za h ?_ ?_ <;> intro _ h
 refine zl h fun _ h => zp SV.bool h (by first | (simp [zf, zI, List.map_append, List.map_take, List.map_drop, List.map_set, List.map_replicate]; done) | rfl) fun x350 h => ze h fun x351 h => ?_
 exact hC341 ((x351, yK s341.snd.fst (Int.toNat s341.fst) x347, x350)) h _ _ _ (qE ⟨.refl _, .refl _, .refl _, .refl _, .refl _, .refl _, trivial⟩ ⟨(.var (.agg (.cons (.arr (.of (by simp only [zon, yK]; (repeat' split) <;> first | rfl | (exfalso; omega)))) (.cons .refl .nil)))), .refl, .refl, .refl, trivial⟩ rfl rfl rfl)
 refine ze h fun x352 h => ?_
 exact hC341 ((x352, yK s341.snd.fst (Int.toNat s341.fst) x347, false)) h _ _ _ (qE ⟨.refl _, .refl _, .refl _, .refl _, .refl _, .refl _, trivial⟩ ⟨(.var (.agg (.cons (.arr (.of (by simp only [zon, yK]; (repeat' split) <;> first | rfl | (exfalso; omega)))) (.cons .fls .nil)))), .refl, .refl, .refl, trivial⟩ rfl rfl rfl)
 exact hN339 (s341.snd) h _ _ _ (zd rfl rfl rfl rfl rfl)
theorem zDi {a0 : TP} {a1 : Int} {r : List ((Bool × Bool) × Bool) × Int} (h : ziv a0 a1 = some r) : Ret E 7 [zy a0, SV.int .i64 a1] (SV.tup [zf 3 (fun (x : (Bool × Bool) × Bool) => SV.agg [zO 1 SV.bool x.fst, .bool x.snd]) r.fst, SV.int .i64 r.snd]) := by
 replace h := zm h
 unfold ziv at h
 refine rg [0] Tryz.func7 (by kernel_rfl) rfl ?_
 refine zb h (fun _ => zzz) fun x332 h => za h (fun _ h => ?_) fun _ h => ?_
 cases h; exact .r
 refine zt (fun (s334 : List ((Bool × Bool) × Bool)) => [(7, SV.osl (9) 3), (5, .int .i64 0), (4, SV.osl (1) 3)]) (fun s334 => [(9, Blk.row true 3 (List.map (fun (x : (Bool × Bool) × Bool) => SV.agg [zO 1 SV.bool x.fst, .bool x.snd]) s334)), (1, Blk.row true 3 [])]) 10 h (fun s334 h => ?_) (fun K334 hN334 hE334 h => ?_)
 cases h; exact .r
 refine zn (fun (s336 : Int × List ((Bool × Bool) × Bool)) => [(8, .int .i64 (s336.fst)), (7, SV.osl (9) 3), (5, .int .i64 0), (4, SV.osl (1) 3), (2, SV.ptr 0 []), (1, .int .i64 a1)]) (fun s336 => [(9, Blk.row true 3 (List.map (fun (x : (Bool × Bool) × Bool) => SV.agg [zO 1 SV.bool x.fst, .bool x.snd]) s336.snd)), (1, Blk.row true 3 []), (0, Blk.var true (zy a0))]) 11 h (zd rfl rfl rfl rfl rfl) (fun s336 rc336 C336 hC336 h => ?_)
 refine za h ?_ ?_ <;> intro _ h
 refine ⟨by trivial, ?_⟩
 refine zp zS h rfl fun x341 h => zb h (fun _ => zur) fun x342 h => zl h fun _ h => ze h fun x343 h => ?_
 exact hC336 ((x343, s336.snd ++ [x342])) h _ _ _ (qE ⟨.refl _, .refl _, .refl _, .refl _, .refl _, .refl _, trivial⟩ ⟨(.row (.appm .refl (.cons .refl .refl))), .refl, .refl, trivial⟩ rfl rfl rfl)
 exact hN334 (s336.snd) h _ _ _ (zd rfl rfl rfl rfl rfl)
theorem zDw {a0 : TA} {a1 : TA} {r : Bool} (h : zmv a0 a1 = some r) : Ret E 66 [qk a0, qk a1] (SV.bool r) := by
 replace h := zm h
 unfold zmv at h
 refine rg [] Tryz.func66 (by kernel_rfl) rfl ?_
 refine za h ?_ ?_ <;> intro _ h
 refine za h ?_ ?_ <;> intro _ h
 cases h; exact .r
 cases h; exact .r
 cases h; exact .r
theorem zD9 {a0 : List Int} {a1 : List Int} {r : Bool} (h : zmq a0 a1 = some r) : Ret E 67 [zf 1 (SV.int .i64) a0, zf 1 (SV.int .i64) a1] (SV.bool r) := by
 replace h := zm h
 unfold zmq at h
 refine rg [0] Tryz.func67 (by kernel_rfl) rfl ?_
 refine za h ?_ ?_ <;> intro _ h
 cases h; exact .r
 refine zt (fun (s407 : Unit) => [(4, SV.fls)]) (fun _ => []) 1 h (fun s407 h => ?_) (fun K407 hN407 hE407 h => ?_)
 cases h; exact .r
 refine zn (fun (s409 : Int) => [(13, .int .i64 s409), (12, .int .i64 ((↑(List.length (List.map (SV.int .i64) a0)) : Int))), (4, SV.fls), (1, (zf 1 (SV.int .i64)) a1), (0, (zf 1 (SV.int .i64)) a0)]) (fun _ => []) 9 h (zd rfl rfl rfl rfl rfl) (fun s409 rc409 C409 hC409 h => ?_)
 refine za h ?_ ?_ <;> intro _ h
 refine ⟨by trivial, ?_⟩
 refine zp (SV.int .i64) h rfl fun _ h => zp (SV.int .i64) h rfl fun _ h => za h (fun _ h => ?_) fun _ h => ?_
 refine hE407 _ _ _ _ ?_
 cases h; exact .r
 refine ze h fun x418 h => ?_
 exact hC409 x418 h _ _ _ (zd rfl rfl rfl rfl rfl)
 exact hN407 (()) h _ _ _ (zd rfl rfl rfl rfl rfl)
theorem zEa {a0 : TA} {a1 : TA} {r : Bool} (h : ze7 a0 a1 = some r) : Ret E 47 [qk a0, qk a1] (SV.bool r) := by
 replace h := zm h
 unfold ze7 at h
 refine rg [] Tryz.func47 (by kernel_rfl) rfl ?_
 refine zb h (fun _ => zDw) fun _ h => za h (fun _ h => ?_) fun _ h => ?_
 refine zb h (fun _ => zD9) fun _ h => ?_
 cases h; exact .r
 cases h; exact .r
theorem zDl {a0 : (Bool × Bool) × Bool} {a1 : TA} {a2 : TA} {r : Bool} (h : zic a0 a1 a2 = some r) : Ret E 28 [SV.agg [zO 1 SV.bool a0.fst, .bool a0.snd], qk a1, qk a2] (SV.bool r) := by
 replace h := zm h
 unfold zic at h
 refine rg [0] Tryz.func28 (by kernel_rfl) rfl ?_
 refine za h ?_ ?_ <;> intro _ h
 cases h; exact .r
 refine zt (fun (s388 : Unit) => [(6, SV.fls), (5, SV.ptr (2) []), (4, SV.ptr (1) []), (3, SV.ptr 0 [])]) (fun s388 => [(2, Blk.var true (qk a2)), (1, Blk.var true (qk a1)), (0, Blk.var true ((fun (x : (Bool × Bool) × Bool) => SV.agg [zO 1 SV.bool x.fst, .bool x.snd]) a0))]) 3 h (fun s388 h => ?_) (fun K388 hN388 hE388 h => ?_)
 refine zW h (fun e401 h => ?_) (fun e401 h => ?_)
 cases h; exact .r
 refine zb h (fun _ => zEa) fun _ h => ?_
 cases h; exact .r
 refine zn (fun (s390 : Int) => [(14, .int .i64 s390), (13, (zO 1 SV.bool) (a0.fst)), (6, SV.fls), (5, SV.ptr (2) []), (4, SV.ptr (1) []), (3, SV.ptr 0 [])]) (fun s390 => [(2, Blk.var true (qk a2)), (1, Blk.var true (qk a1)), (0, Blk.var true ((fun (x : (Bool × Bool) × Bool) => SV.agg [zO 1 SV.bool x.fst, .bool x.snd]) a0))]) 10 h (zd rfl rfl rfl rfl rfl) (fun s390 rc390 C390 hC390 h => ?_)
 refine za h ?_ ?_ <;> intro _ h
 refine zp SV.bool h (by first | (simp [zf, zI, List.map_append, List.map_take, List.map_drop, List.map_set, List.map_replicate]; done) | rfl) fun _ h => ?_
 refine ⟨by trivial, ?_⟩
 refine za h ?_ ?_ <;> intro _ h
 refine zl h fun _ h => zp (SV.int .i64) h (by first | (simp [zf, zI, List.map_append, List.map_take, List.map_drop, List.map_set, List.map_replicate]; done) | rfl) fun x396 h => zl h fun _ h => zp (SV.int .i64) h (by first | (simp [zf, zI, List.map_append, List.map_take, List.map_drop, List.map_set, List.map_replicate]; done) | rfl) fun x397 h => ?_
 refine za h ?_ ?_ <;> intro _ h
 refine hE388 _ _ _ _ ?_
 cases h; exact .r
 refine ze h fun x399 h => ?_
 exact hC390 x399 h _ _ _ (zd rfl rfl rfl rfl rfl)
 refine ze h fun x400 h => ?_
 exact hC390 x400 h _ _ _ (zd rfl rfl rfl rfl rfl)
 exact hN388 (()) h _ _ _ (zd rfl rfl rfl rfl rfl)
theorem zDs {a0 : Int} {a1 : (Bool × Bool) × Bool} {a2 : List TW} {a3 : List TW} {r : Int} (h : ziy a0 a1 a2 a3 = some r) : Ret E 27 [SV.int .i64 a0, .agg [zO 1 SV.bool a1.fst, .bool a1.snd], qO (zf 6 zj) a2, qO (zf 6 zj) a3] (SV.int .i64 r) := by
 replace h := zm h
 unfold ziy at h
 refine rg [] Tryz.func27 (by kernel_rfl) rfl ?_
 refine ⟨by trivial, ?_⟩
 refine zp zj h rfl fun _ h => zp zj h rfl fun _ h => zb h (fun _ => zDl) fun _ h => za h (fun _ h => ?_) fun _ h => ?_
 cases h; exact .r
 cases h; exact .r
theorem zz1 {a0 : Int} {r : Bool} (h : zcr a0 = some r) : Ret E 30 [SV.int .i64 a0] (SV.bool r) := by
 replace h := zm h
 unfold zcr at h
 refine rg [] Tryz.func30 (by kernel_rfl) rfl ?_
 cases h; exact .r
theorem zzp {a0 : TP} {a1 : List TW} {a2 : List TW} {a3 : Int} {r : List Int × Int} (h : zex a0 a1 a2 a3 = some r) : Ret E 10 [zy a0, zf 6 zj a1, zf 6 zj a2, SV.int .i64 a3] (SV.tup [zf 1 (SV.int .i64) r.fst, SV.int .i64 r.snd]) := by
 replace h := zm h
 unfold zex at h
 refine rg [] Tryz.func10 (by kernel_rfl) rfl ?_
 refine zb h (fun _ => zBv) fun x359 h => za h (fun _ h => ?_) fun _ h => ?_
 cases h; exact .r
 refine zF (fn := Tryz.f26) (cuts := [0]) ok Tryz.func26 (by kernel_rfl) rfl ?_
 refine zW h (fun e362 h => ?_) (fun e362 h => ?_)
 refine zF (fn := Tryz.f29) (cuts := [0]) ok Tryz.func29 (by kernel_rfl) rfl ?_
 refine zF (fn := Tryz.f48) (cuts := [0]) ok Tryz.func48 (by kernel_rfl) rfl ?_
 refine zt (fun (s365 : Unit) => [(9, .bool (decide (0 < (↑(0 : Nat) : Int)))), (8, .int .i64 0), (7, .int .i64 ((↑(0 : Nat) : Int))), (4, .int .i64 0), (1, SV.fn 30 []), (0, SV.osl (20) 1), (1000009, SV.fn 30 []), (1000008, SV.osl (20) 1), (1000004, SV.osl (28) 1), (1000001, SV.fn 30 []), (1000000, SV.osl (20) 1), (2000026, SV.osl (20) 1), (2000012, .int .i64 7), (2000011, SV.osl (20) 1), (2000025, .int .i64 7), (2000024, SV.osl (20) 1), (2000022, SV.fn 27 [SV.ptr (1) [], SV.ptr (2) []]), (2000021, .int .i64 a3), (2000018, .bool (!decide (x359 = 0))), (2000017, .int .i64 x359), (2000010, .int .i64 x359), (2000016, .int .i64 x359), (2000015, SV.osl (7) 1), (2000014, (zf 6 zj) a2), (2000013, (zf 6 zj) a1), (2000009, .int .i64 0), (2000008, SV.osl (3) 1), (2000006, SV.ptr (2) []), (2000005, SV.ptr (1) []), (2000004, SV.ptr 0 []), (2000003, .int .i64 a3), (2000002, (zf 6 zj) a2), (2000001, (zf 6 zj) a1), (2000000, zy a0)]) (fun s365 => [(28, Blk.row true 1 []), (20, Blk.row true 1 []), (7, Blk.row true 1 [SV.sl 6 (List.map zj a1), SV.sl 6 (List.map zj a2)]), (3, Blk.row true 1 []), (2, Blk.var true ((zf 6 zj) a2)), (1, Blk.var true ((zf 6 zj) a1)), (0, Blk.var true (zy a0))]) 29 h (fun s365 h => ?_) (fun K365 hN365 hE365 h => ?_)
 refine pT ?_
 cases h; exact .r
 refine zn (fun (s367 : Unit) => [(8, .int .i64 0), (7, .int .i64 ((↑(0 : Nat) : Int))), (4, .int .i64 0), (1, SV.fn 30 []), (0, SV.osl (20) 1), (1000009, SV.fn 30 []), (1000008, SV.osl (20) 1), (1000004, SV.osl (28) 1), (1000001, SV.fn 30 []), (1000000, SV.osl (20) 1), (2000026, SV.osl (20) 1), (2000012, .int .i64 7), (2000011, SV.osl (20) 1), (2000025, .int .i64 7), (2000024, SV.osl (20) 1), (2000022, SV.fn 27 [SV.ptr (1) [], SV.ptr (2) []]), (2000021, .int .i64 a3), (2000018, .bool (!decide (x359 = 0))), (2000017, .int .i64 x359), (2000010, .int .i64 x359), (2000016, .int .i64 x359), (2000015, SV.osl (7) 1), (2000014, (zf 6 zj) a2), (2000013, (zf 6 zj) a1), (2000009, .int .i64 0), (2000008, SV.osl (3) 1), (2000006, SV.ptr (2) []), (2000005, SV.ptr (1) []), (2000004, SV.ptr 0 []), (2000003, .int .i64 a3), (2000002, (zf 6 zj) a2), (2000001, (zf 6 zj) a1), (2000000, zy a0)]) (fun s367 => [(28, Blk.row true 1 []), (20, Blk.row true 1 []), (7, Blk.row true 1 [SV.sl 6 (List.map zj a1), SV.sl 6 (List.map zj a2)]), (3, Blk.row true 1 []), (2, Blk.var true ((zf 6 zj) a2)), (1, Blk.var true ((zf 6 zj) a1)), (0, Blk.var true (zy a0))]) 35 h (zd rfl rfl rfl rfl rfl) (fun s367 rc367 C367 hC367 h => ?_)
 refine pF ?_
 exact hN365 (()) h _ _ _ (zd rfl rfl rfl rfl rfl)
 refine za h ?_ ?_ <;> intro _ h
 refine zF (fn := Tryz.f29) (cuts := [0]) ok Tryz.func29 (by kernel_rfl) rfl ?_
 refine zF (fn := Tryz.f48) (cuts := [0]) ok Tryz.func48 (by kernel_rfl) rfl ?_
 refine zt (fun (s371 : Unit) => [(9, .bool (decide (0 < (↑(0 : Nat) : Int)))), (8, .int .i64 0), (7, .int .i64 ((↑(0 : Nat) : Int))), (4, .int .i64 0), (1, SV.fn 30 []), (0, SV.osl (28) 1), (1000009, SV.fn 30 []), (1000008, SV.osl (28) 1), (1000004, SV.osl (36) 1), (1000001, SV.fn 30 []), (1000000, SV.osl (28) 1), (2000026, SV.osl (28) 1), (2000012, .int .i64 7), (2000011, SV.osl (28) 1), (2000025, .int .i64 7), (2000024, SV.osl (28) 1), (2000022, SV.fn 27 [SV.ptr (1) [], SV.ptr (2) []]), (2000021, .int .i64 a3), (2000018, .bool (!decide (x359 = 0))), (2000017, .int .i64 x359), (2000010, .int .i64 x359), (2000016, .int .i64 x359), (2000015, SV.osl (7) 1), (2000014, (zf 6 zj) a2), (2000013, (zf 6 zj) a1), (2000009, .int .i64 0), (2000008, SV.osl (3) 1), (2000006, SV.ptr (2) []), (2000005, SV.ptr (1) []), (2000004, SV.ptr 0 []), (2000003, .int .i64 a3), (2000002, (zf 6 zj) a2), (2000001, (zf 6 zj) a1), (2000000, zy a0)]) (fun s371 => [(36, Blk.row true 1 []), (28, Blk.row true 1 []), (7, Blk.row true 1 [SV.sl 6 (List.map zj a1), SV.sl 6 (List.map zj a2)]), (3, Blk.row true 1 []), (2, Blk.var true ((zf 6 zj) a2)), (1, Blk.var true ((zf 6 zj) a1)), (0, Blk.var true (zy a0))]) 37 h (fun s371 h => ?_) (fun K371 hN371 hE371 h => ?_)
 refine pT ?_
 cases h; exact .r
 refine zn (fun (s373 : Unit) => [(8, .int .i64 0), (7, .int .i64 ((↑(0 : Nat) : Int))), (4, .int .i64 0), (1, SV.fn 30 []), (0, SV.osl (28) 1), (1000009, SV.fn 30 []), (1000008, SV.osl (28) 1), (1000004, SV.osl (36) 1), (1000001, SV.fn 30 []), (1000000, SV.osl (28) 1), (2000026, SV.osl (28) 1), (2000012, .int .i64 7), (2000011, SV.osl (28) 1), (2000025, .int .i64 7), (2000024, SV.osl (28) 1), (2000022, SV.fn 27 [SV.ptr (1) [], SV.ptr (2) []]), (2000021, .int .i64 a3), (2000018, .bool (!decide (x359 = 0))), (2000017, .int .i64 x359), (2000010, .int .i64 x359), (2000016, .int .i64 x359), (2000015, SV.osl (7) 1), (2000014, (zf 6 zj) a2), (2000013, (zf 6 zj) a1), (2000009, .int .i64 0), (2000008, SV.osl (3) 1), (2000006, SV.ptr (2) []), (2000005, SV.ptr (1) []), (2000004, SV.ptr 0 []), (2000003, .int .i64 a3), (2000002, (zf 6 zj) a2), (2000001, (zf 6 zj) a1), (2000000, zy a0)]) (fun s373 => [(36, Blk.row true 1 []), (28, Blk.row true 1 []), (7, Blk.row true 1 [SV.sl 6 (List.map zj a1), SV.sl 6 (List.map zj a2)]), (3, Blk.row true 1 []), (2, Blk.var true ((zf 6 zj) a2)), (1, Blk.var true ((zf 6 zj) a1)), (0, Blk.var true (zy a0))]) 43 h (zd rfl rfl rfl rfl rfl) (fun s373 rc373 C373 hC373 h => ?_)
 refine pF ?_
 exact hN371 (()) h _ _ _ (zd rfl rfl rfl rfl rfl)
 refine zt (fun (s374 : Bool × Int × List Int) => [(32, .bool (s374.fst)), (31, .int .i64 (s374.snd.fst)), (30, .int .i64 ((↑(List.length (List.map zS a0.Vars)) : Int))), (29, (zf 6 zS) (a0.Vars)), (8, SV.osl (28) 1), (25, .bool (decide ((↑(List.length (List.map SV.str a0.Lattice.Names)) : Int) <= a3))), (7, .int .i64 0), (6, SV.osl (14) 1), (2, SV.fn 27 [SV.ptr (1) [], SV.ptr (2) []]), (1, .int .i64 a3), (0, SV.ptr 0 []), (1000022, SV.fn 27 [SV.ptr (1) [], SV.ptr (2) []]), (1000021, .int .i64 a3), (1000018, .bool (!decide (x359 = 0))), (1000017, .int .i64 x359), (1000010, .int .i64 x359), (1000016, .int .i64 x359), (1000015, SV.osl (7) 1), (1000014, (zf 6 zj) a2), (1000013, (zf 6 zj) a1), (1000009, .int .i64 0), (1000008, SV.osl (3) 1), (1000006, SV.ptr (2) []), (1000005, SV.ptr (1) []), (1000004, SV.ptr 0 []), (1000003, .int .i64 a3), (1000002, (zf 6 zj) a2), (1000001, (zf 6 zj) a1), (1000000, zy a0)]) (fun s374 => [(28, Blk.row true 1 (List.map (SV.int .i64) s374.snd.snd)), (14, Blk.row true 1 []), (7, Blk.row true 1 [SV.sl 6 (List.map zj a1), SV.sl 6 (List.map zj a2)]), (3, Blk.row true 1 []), (2, Blk.var true ((zf 6 zj) a2)), (1, Blk.var true ((zf 6 zj) a1)), (0, Blk.var true (zy a0))]) 29 h (fun s374 h => ?_) (fun K374 hN374 hE374 h => ?_)
 refine zF (fn := Tryz.f29) (cuts := [0]) ok Tryz.func29 (by kernel_rfl) rfl ?_
 refine zF (fn := Tryz.f48) (cuts := [0]) ok Tryz.func48 (by kernel_rfl) rfl ?_
 refine zt (fun (s400 : Bool × Int) => [(9, .bool (s400.fst)), (8, .int .i64 (s400.snd)), (7, .int .i64 ((↑(List.length (List.map (SV.int .i64) s374.snd.snd)) : Int))), (4, .int .i64 0), (1, SV.fn 30 []), (0, SV.osl (28) 1), (1000009, SV.fn 30 []), (1000008, SV.osl (28) 1), (1000004, SV.osl 38 1), (1000001, SV.fn 30 []), (1000000, SV.osl (28) 1), (2000026, SV.osl (28) 1), (2000012, .int .i64 0), (2000011, SV.osl (28) 1), (2000025, .int .i64 0), (2000024, SV.osl (28) 1), (2000022, SV.fn 27 [SV.ptr (1) [], SV.ptr (2) []]), (2000021, .int .i64 a3), (2000018, .bool (!decide (x359 = 0))), (2000017, .int .i64 x359), (2000010, .int .i64 x359), (2000016, .int .i64 x359), (2000015, SV.osl (7) 1), (2000014, (zf 6 zj) a2), (2000013, (zf 6 zj) a1), (2000009, .int .i64 0), (2000008, SV.osl (3) 1), (2000006, SV.ptr (2) []), (2000005, SV.ptr (1) []), (2000004, SV.ptr 0 []), (2000003, .int .i64 a3), (2000002, (zf 6 zj) a2), (2000001, (zf 6 zj) a1), (2000000, zy a0)]) (fun s400 => [(38, Blk.row true 1 []), (28, Blk.row true 1 (List.map (SV.int .i64) s374.snd.snd)), (7, Blk.row true 1 [SV.sl 6 (List.map zj a1), SV.sl 6 (List.map zj a2)]), (3, Blk.row true 1 []), (2, Blk.var true ((zf 6 zj) a2)), (1, Blk.var true ((zf 6 zj) a1)), (0, Blk.var true (zy a0))]) 39 h (fun s400 h => ?_) (fun K400 hN400 hE400 h => ?_)
 refine pT ?_
 cases h; exact .r
 refine zn (fun (s402 : Int) => [(8, .int .i64 s402), (7, .int .i64 ((↑(List.length (List.map (SV.int .i64) s374.snd.snd)) : Int))), (4, .int .i64 0), (1, SV.fn 30 []), (0, SV.osl (28) 1), (1000009, SV.fn 30 []), (1000008, SV.osl (28) 1), (1000004, SV.osl 38 1), (1000001, SV.fn 30 []), (1000000, SV.osl (28) 1), (2000026, SV.osl (28) 1), (2000012, .int .i64 0), (2000011, SV.osl (28) 1), (2000025, .int .i64 0), (2000024, SV.osl (28) 1), (2000022, SV.fn 27 [SV.ptr (1) [], SV.ptr (2) []]), (2000021, .int .i64 a3), (2000018, .bool (!decide (x359 = 0))), (2000017, .int .i64 x359), (2000010, .int .i64 x359), (2000016, .int .i64 x359), (2000015, SV.osl (7) 1), (2000014, (zf 6 zj) a2), (2000013, (zf 6 zj) a1), (2000009, .int .i64 0), (2000008, SV.osl (3) 1), (2000006, SV.ptr (2) []), (2000005, SV.ptr (1) []), (2000004, SV.ptr 0 []), (2000003, .int .i64 a3), (2000002, (zf 6 zj) a2), (2000001, (zf 6 zj) a1), (2000000, zy a0)]) (fun s402 => [(38, Blk.row true 1 []), (28, Blk.row true 1 (List.map (SV.int .i64) s374.snd.snd)), (7, Blk.row true 1 [SV.sl 6 (List.map zj a1), SV.sl 6 (List.map zj a2)]), (3, Blk.row true 1 []), (2, Blk.var true ((zf 6 zj) a2)), (1, Blk.var true ((zf 6 zj) a1)), (0, Blk.var true (zy a0))]) 45 h (zd rfl rfl rfl rfl rfl) (fun s402 rc402 C402 hC402 h => ?_)
 refine za h ?_ ?_ <;> intro _ h
 refine zl h fun _ h => zp (SV.int .i64) h rfl fun _ h => zb h (fun _ => zz1) fun _ h => za h (fun _ h => ?_) fun _ h => ?_
 refine hE400 _ _ _ _ ?_
 refine za h ?_ ?_ <;> intro _ h
 cases h; exact .r
 refine ze h fun _ h => ?_
 refine zt (fun (s429 : Bool × Int × Int × List Int) => [(19, .bool (s429.fst)), (6, .int .i64 (s429.snd.fst)), (12, .bool (decide (s402 = (-1 : Int)))), (5, .int .i64 (s429.snd.snd.fst)), (4, SV.osl 38 1), (1, SV.fn 30 []), (0, SV.osl (28) 1), (1000026, SV.osl (28) 1), (1000012, .int .i64 0), (1000011, SV.osl (28) 1), (1000025, .int .i64 0), (1000024, SV.osl (28) 1), (1000022, SV.fn 27 [SV.ptr (1) [], SV.ptr (2) []]), (1000021, .int .i64 a3), (1000018, .bool (!decide (x359 = 0))), (1000017, .int .i64 x359), (1000010, .int .i64 x359), (1000016, .int .i64 x359), (1000015, SV.osl (7) 1), (1000014, (zf 6 zj) a2), (1000013, (zf 6 zj) a1), (1000009, .int .i64 0), (1000008, SV.osl (3) 1), (1000006, SV.ptr (2) []), (1000005, SV.ptr (1) []), (1000004, SV.ptr 0 []), (1000003, .int .i64 a3), (1000002, (zf 6 zj) a2), (1000001, (zf 6 zj) a1), (1000000, zy a0)]) (fun s429 => [(38, Blk.row true 1 []), (28, Blk.row true 1 (List.map (SV.int .i64) s429.snd.snd.snd)), (7, Blk.row true 1 [SV.sl 6 (List.map zj a1), SV.sl 6 (List.map zj a2)]), (3, Blk.row true 1 []), (2, Blk.var true ((zf 6 zj) a2)), (1, Blk.var true ((zf 6 zj) a1)), (0, Blk.var true (zy a0))]) 39 h (fun s429 h => ?_) (fun K429 hN429 hE429 h => ?_)
 refine zl h fun _ h => zl h fun _ h => zl h fun _ h => ?_
 cases h
 exact (.tup (WkT.wk (.sl (.of (by first | (simp [zf, zI, List.map_append, List.map_take, List.map_drop, List.map_set, List.map_replicate]; done) | rfl))) rfl rfl rfl (WkT.same WkT.nil)))
 refine zn (fun (s431 : Int × Int × List Int) => [(6, .int .i64 (s431.fst)), (12, .bool (decide (s402 = (-1 : Int)))), (5, .int .i64 (s431.snd.fst)), (4, SV.osl 38 1), (1, SV.fn 30 []), (0, SV.osl (28) 1), (1000026, SV.osl (28) 1), (1000012, .int .i64 0), (1000011, SV.osl (28) 1), (1000025, .int .i64 0), (1000024, SV.osl (28) 1), (1000022, SV.fn 27 [SV.ptr (1) [], SV.ptr (2) []]), (1000021, .int .i64 a3), (1000018, .bool (!decide (x359 = 0))), (1000017, .int .i64 x359), (1000010, .int .i64 x359), (1000016, .int .i64 x359), (1000015, SV.osl (7) 1), (1000014, (zf 6 zj) a2), (1000013, (zf 6 zj) a1), (1000009, .int .i64 0), (1000008, SV.osl (3) 1), (1000006, SV.ptr (2) []), (1000005, SV.ptr (1) []), (1000004, SV.ptr 0 []), (1000003, .int .i64 a3), (1000002, (zf 6 zj) a2), (1000001, (zf 6 zj) a1), (1000000, zy a0)]) (fun s431 => [(38, Blk.row true 1 []), (28, Blk.row true 1 (List.map (SV.int .i64) s431.snd.snd)), (7, Blk.row true 1 [SV.sl 6 (List.map zj a1), SV.sl 6 (List.map zj a2)]), (3, Blk.row true 1 []), (2, Blk.var true ((zf 6 zj) a2)), (1, Blk.var true ((zf 6 zj) a1)), (0, Blk.var true (zy a0))]) 62 h (zd rfl rfl rfl rfl rfl) (fun s431 rc431 C431 hC431 h => ?_)
 refine za h ?_ ?_ <;> intro _ h
 refine zl h fun _ h => zp (SV.int .i64) h rfl fun x441 h => zb h (fun _ => zz1) fun _ h => za h (fun _ h => ?_) fun _ h => ?_
 refine zl h fun _ h => zp (SV.int .i64) h rfl fun _ h => ze h fun x445 h => ze h fun x446 h => ?_
 exact hC431 ((x446, x445, List.set s431.snd.snd (Int.toNat s431.snd.fst) x441)) h _ _ _ (qE ⟨.refl _, .refl _, .refl _, .refl _, .refl _, .refl _, .refl _, .refl _, .refl _, .refl _, .refl _, .refl _, .refl _, .refl _, .refl _, .refl _, .refl _, .refl _, .refl _, .refl _, .refl _, .refl _, .refl _, .refl _, .refl _, .refl _, .refl _, .refl _, .refl _, trivial⟩ ⟨.refl, (.row (.setm .refl .refl)), .refl, .refl, .refl, .refl, .refl, trivial⟩ rfl rfl rfl)
 refine ze h fun x447 h => ?_
 exact hC431 ((x447, s431.snd)) h _ _ _ (zd rfl rfl rfl rfl rfl)
 exact hN429 ((decide (s431.fst < (↑(List.length (List.map (SV.int .i64) s431.snd.snd)) : Int)), s431)) h _ _ _ (zd rfl rfl rfl rfl rfl)
 refine ze h fun x448 h => ?_
 exact hC402 x448 h _ _ _ (zd rfl rfl rfl rfl rfl)
 exact hN400 ((decide (s402 < (↑(List.length (List.map (SV.int .i64) s374.snd.snd)) : Int)), s402)) h _ _ _ (zd rfl rfl rfl rfl rfl)
 refine zn (fun (s376 : Int × List Int) => [(31, .int .i64 (s376.fst)), (30, .int .i64 ((↑(List.length (List.map zS a0.Vars)) : Int))), (29, (zf 6 zS) (a0.Vars)), (8, SV.osl (28) 1), (25, .bool (decide ((↑(List.length (List.map SV.str a0.Lattice.Names)) : Int) <= a3))), (7, .int .i64 0), (6, SV.osl (14) 1), (2, SV.fn 27 [SV.ptr (1) [], SV.ptr (2) []]), (1, .int .i64 a3), (0, SV.ptr 0 []), (1000022, SV.fn 27 [SV.ptr (1) [], SV.ptr (2) []]), (1000021, .int .i64 a3), (1000018, .bool (!decide (x359 = 0))), (1000017, .int .i64 x359), (1000010, .int .i64 x359), (1000016, .int .i64 x359), (1000015, SV.osl (7) 1), (1000014, (zf 6 zj) a2), (1000013, (zf 6 zj) a1), (1000009, .int .i64 0), (1000008, SV.osl (3) 1), (1000006, SV.ptr (2) []), (1000005, SV.ptr (1) []), (1000004, SV.ptr 0 []), (1000003, .int .i64 a3), (1000002, (zf 6 zj) a2), (1000001, (zf 6 zj) a1), (1000000, zy a0)]) (fun s376 => [(28, Blk.row true 1 (List.map (SV.int .i64) s376.snd)), (14, Blk.row true 1 []), (7, Blk.row true 1 [SV.sl 6 (List.map zj a1), SV.sl 6 (List.map zj a2)]), (3, Blk.row true 1 []), (2, Blk.var true ((zf 6 zj) a2)), (1, Blk.var true ((zf 6 zj) a1)), (0, Blk.var true (zy a0))]) 35 h (zd rfl rfl rfl rfl rfl) (fun s376 rc376 C376 hC376 h => ?_)
 refine za h ?_ ?_ <;> intro _ h
 refine zp zS h rfl fun _ h => ?_
 refine ⟨by trivial, ?_⟩
 refine zb h (fun _ => zB6) fun x389 h => za h (fun _ h => ?_) fun _ h => ?_
 refine hE374 _ _ _ _ ?_
 refine zF (fn := Tryz.f29) (cuts := [0]) ok Tryz.func29 (by kernel_rfl) rfl ?_
 refine zF (fn := Tryz.f48) (cuts := [0]) ok Tryz.func48 (by kernel_rfl) rfl ?_
 refine zt (fun (s393 : Unit) => [(9, .bool (decide (0 < (↑(0 : Nat) : Int)))), (8, .int .i64 0), (7, .int .i64 ((↑(0 : Nat) : Int))), (4, .int .i64 0), (1, SV.fn 30 []), (0, SV.osl 61 1), (1000009, SV.fn 30 []), (1000008, SV.osl 61 1), (1000004, SV.osl 69 1), (1000001, SV.fn 30 []), (1000000, SV.osl 61 1), (2000026, SV.osl 61 1), (2000012, .int .i64 (x389.snd.snd)), (2000011, SV.osl 61 1), (2000025, .int .i64 (x389.snd.snd)), (2000024, SV.osl 61 1), (2000022, SV.fn 27 [SV.ptr (1) [], SV.ptr (2) []]), (2000021, .int .i64 a3), (2000018, .bool (!decide (x359 = 0))), (2000017, .int .i64 x359), (2000010, .int .i64 x359), (2000016, .int .i64 x359), (2000015, SV.osl (7) 1), (2000014, (zf 6 zj) a2), (2000013, (zf 6 zj) a1), (2000009, .int .i64 0), (2000008, SV.osl (3) 1), (2000006, SV.ptr (2) []), (2000005, SV.ptr (1) []), (2000004, SV.ptr 0 []), (2000003, .int .i64 a3), (2000002, (zf 6 zj) a2), (2000001, (zf 6 zj) a1), (2000000, zy a0)]) (fun s393 => [(69, Blk.row true 1 []), (61, Blk.row true 1 []), (7, Blk.row true 1 [SV.sl 6 (List.map zj a1), SV.sl 6 (List.map zj a2)]), (3, Blk.row true 1 []), (2, Blk.var true ((zf 6 zj) a2)), (1, Blk.var true ((zf 6 zj) a1)), (0, Blk.var true (zy a0))]) 70 h (fun s393 h => ?_) (fun K393 hN393 hE393 h => ?_)
 refine pT ?_
 cases h; exact .r
 refine zn (fun (s395 : Unit) => [(8, .int .i64 0), (7, .int .i64 ((↑(0 : Nat) : Int))), (4, .int .i64 0), (1, SV.fn 30 []), (0, SV.osl 61 1), (1000009, SV.fn 30 []), (1000008, SV.osl 61 1), (1000004, SV.osl 69 1), (1000001, SV.fn 30 []), (1000000, SV.osl 61 1), (2000026, SV.osl 61 1), (2000012, .int .i64 (x389.snd.snd)), (2000011, SV.osl 61 1), (2000025, .int .i64 (x389.snd.snd)), (2000024, SV.osl 61 1), (2000022, SV.fn 27 [SV.ptr (1) [], SV.ptr (2) []]), (2000021, .int .i64 a3), (2000018, .bool (!decide (x359 = 0))), (2000017, .int .i64 x359), (2000010, .int .i64 x359), (2000016, .int .i64 x359), (2000015, SV.osl (7) 1), (2000014, (zf 6 zj) a2), (2000013, (zf 6 zj) a1), (2000009, .int .i64 0), (2000008, SV.osl (3) 1), (2000006, SV.ptr (2) []), (2000005, SV.ptr (1) []), (2000004, SV.ptr 0 []), (2000003, .int .i64 a3), (2000002, (zf 6 zj) a2), (2000001, (zf 6 zj) a1), (2000000, zy a0)]) (fun s395 => [(69, Blk.row true 1 []), (61, Blk.row true 1 []), (7, Blk.row true 1 [SV.sl 6 (List.map zj a1), SV.sl 6 (List.map zj a2)]), (3, Blk.row true 1 []), (2, Blk.var true ((zf 6 zj) a2)), (1, Blk.var true ((zf 6 zj) a1)), (0, Blk.var true (zy a0))]) 76 h (zd rfl rfl rfl rfl rfl) (fun s395 rc395 C395 hC395 h => ?_)
 refine pF ?_
 exact hN393 (()) h _ _ _ (zd rfl rfl rfl rfl rfl)
 refine zb h (fun _ => zDs) fun x396 h => zl h fun _ h => ze h fun x397 h => ?_
 exact hC376 ((x397, s376.snd ++ [x396])) h _ _ _ (qE ⟨.refl _, .refl _, .refl _, .refl _, .refl _, .refl _, .refl _, .refl _, .refl _, .refl _, .refl _, .refl _, .refl _, .refl _, .refl _, .refl _, .refl _, .refl _, .refl _, .refl _, .refl _, .refl _, .refl _, .refl _, .refl _, .refl _, .refl _, .refl _, trivial⟩ ⟨(.row (.appm .refl (.cons .refl .refl))), .refl, .refl, .refl, .refl, .refl, .refl, trivial⟩ rfl rfl rfl)
 exact hN374 ((decide (s376.fst < (↑(List.length (List.map zS a0.Vars)) : Int)), s376)) h _ _ _ (zd rfl rfl rfl rfl rfl)
theorem zDd {a0 : TP} {a1 : List TW} {a2 : List TW} {a3 : Int} {r : Bool × Int} (h : ziu a0 a1 a2 a3 = some r) : Ret E 8 [zy a0, zf 6 zj a1, zf 6 zj a2, SV.int .i64 a3] (SV.tup [SV.bool r.fst, SV.int .i64 r.snd]) := by
 replace h := zm h
 unfold ziu at h
 refine rg [] Tryz.func8 (by kernel_rfl) rfl ?_
 refine zb h (fun _ => zzp) fun _ h => za h (fun _ h => ?_) fun _ h => ?_
 cases h; exact .r
 cases h; exact .r
theorem zz4 {a0 : Int} {a1 : Int × Int} {r : Int} (h : zfh a0 a1 = some r) : Ret E 119 [SV.int .i64 a0, zO 1 (SV.int .i64) a1] (SV.int .i64 r) := by
 replace h := zm h
 unfold zfh at h
 refine rg [0] Tryz.func119 (by kernel_rfl) rfl ?_
 refine zt (fun (s489 : Int) => [(5, .int .i64 s489), (4, .int .i64 0)]) (fun _ => []) 1 h (fun s489 h => ?_) (fun K489 hN489 hE489 h => ?_)
 cases h; exact .r
 refine zn (fun (s491 : Int × Int) => [(6, .int .i64 (s491.fst)), (5, .int .i64 (s491.snd)), (4, .int .i64 0), (3, SV.ptr 0 []), (0, .int .i64 a0)]) (fun s491 => [(0, Blk.var true ((zO 1 (SV.int .i64)) a1))]) 4 h (zd rfl rfl rfl rfl rfl) (fun s491 rc491 C491 hC491 h => ?_)
 refine za h ?_ ?_ <;> intro _ h
 refine zl h fun _ h => zp (SV.int .i64) h (by first | (simp [zf, zI, List.map_append, List.map_take, List.map_drop, List.map_set, List.map_replicate]; done) | rfl) fun _ h => ze h fun x496 h => ze h fun x497 h => ?_
 exact hC491 ((x497, x496)) h _ _ _ (zd rfl rfl rfl rfl rfl)
 exact hN489 (s491.snd) h _ _ _ (zd rfl rfl rfl rfl rfl)
theorem zEc {a0 : Int} {a1 : Int × Int} {r : Int} (h : zhx a0 a1 = some r) : Ret E 118 [SV.int .i64 a0, zO 1 (SV.int .i64) a1] (SV.int .i64 r) := by
 replace h := zm h
 unfold zhx at h
 refine rg [0, 2] Tryz.func118 (by kernel_rfl) rfl ?_
 refine zW h (fun e465 h => ?_) (fun e465 h => ?_)
 cases h; exact .r
 refine za h ?_ ?_ <;> intro _ h
 cases h; exact .r
 refine zt (fun (s467 : Unit) => [(4, .int .i64 0), (3, SV.ptr 0 []), (0, .int .i64 a0)]) (fun s467 => [(0, Blk.var true ((zO 1 (SV.int .i64)) a1))]) 1 h (fun s467 h => ?_) (fun K467 hN467 hE467 h => ?_)
 refine zt (fun (s476 : Unit) => [(4, .int .i64 0), (3, SV.ptr 0 []), (0, .int .i64 a0)]) (fun s476 => [(0, Blk.var true ((zO 1 (SV.int .i64)) a1))]) 1 h (fun s476 h => ?_) (fun K476 hN476 hE476 h => ?_)
 refine zU (by decide) ?_
 refine zr (by decide) rfl ?_
 refine zW h (fun e487 h => ?_) (fun e487 h => ?_)
 cases h; exact .r
 refine zU (by decide) ?_
 refine zr (by decide) rfl ?_
 refine zW h (fun e488 h => ?_) (fun e488 h => ?_)
 cases h; exact .r
 refine zb h (fun _ => zz4) fun _ h => za h (fun _ h => ?_) fun _ h => ?_
 cases h; exact .r
 cases h; exact .r
 refine zn (fun (s478 : Int) => [(6, .int .i64 s478), (4, .int .i64 0), (3, SV.ptr 0 []), (0, .int .i64 a0)]) (fun s478 => [(0, Blk.var true ((zO 1 (SV.int .i64)) a1))]) 3 h (zd rfl rfl rfl rfl rfl) (fun s478 rc478 C478 hC478 h => ?_)
 refine za h ?_ ?_ <;> intro _ h
 refine zl h fun _ h => zp (SV.int .i64) h (by first | (simp [zf, zI, List.map_append, List.map_take, List.map_drop, List.map_set, List.map_replicate]; done) | rfl) fun x484 h => za h (fun _ h => ?_) fun _ h => ?_
 refine hE476 _ _ _ _ ?_
 cases h; exact .r
 refine ze h fun x486 h => ?_
 exact hC478 x486 h _ _ _ (zd rfl rfl rfl rfl rfl)
 exact hN476 (()) h _ _ _ (zd rfl rfl rfl rfl rfl)
 refine zn (fun (s469 : Int) => [(5, .int .i64 s469), (4, .int .i64 0), (3, SV.ptr 0 []), (0, .int .i64 a0)]) (fun s469 => [(0, Blk.var true ((zO 1 (SV.int .i64)) a1))]) 9 h (zd rfl rfl rfl rfl rfl) (fun s469 rc469 C469 hC469 h => ?_)
 refine za h ?_ ?_ <;> intro _ h
 refine zl h fun _ h => zp (SV.int .i64) h (by first | (simp [zf, zI, List.map_append, List.map_take, List.map_drop, List.map_set, List.map_replicate]; done) | rfl) fun _ h => za h (fun _ h => ?_) fun _ h => ?_
 refine hE467 _ _ _ _ ?_
 cases h; exact .r
 refine ze h fun x475 h => ?_
 exact hC469 x475 h _ _ _ (zd rfl rfl rfl rfl rfl)
 exact hN467 (()) h _ _ _ (zd rfl rfl rfl rfl rfl)
theorem zzk {a0 : Int} {a1 : Int × Int} {r : Int × Int} (h : zff a0 a1 = some r) : Ret E 96 [SV.int .i64 a0, zO 1 (SV.int .i64) a1] (SV.tup [SV.int .i64 r.fst, SV.int .i64 r.snd]) := by
 replace h := zm h
 unfold zff at h
 refine rg [] Tryz.func96 (by kernel_rfl) rfl ?_
 refine zb h (fun _ => zEc) fun _ h => za h (fun _ h => ?_) fun _ h => ?_
 cases h; exact .r
 refine zb h (fun _ => zz4) fun _ h => ?_
 cases h; exact .r
theorem zzl {a0 : Int} {r : Bool} (h : zc7 a0 = some r) : Ret E 97 [SV.int .i64 a0] (SV.bool r) := by
 replace h := zm h
 unfold zc7 at h
 refine rg [] Tryz.func97 (by kernel_rfl) rfl ?_
 refine za h ?_ ?_ <;> intro _ h
 refine za h (fun e516 h => ?_) (fun e516 h => ?_)
 refine zW h (fun e517 h => ?_) (fun e517 h => ?_)
 cases h; exact .r
 cases h; exact .r
 cases h; exact .r
 cases h; exact .r
theorem zz3 {a0 : TA} {r : Int} (h : za4 a0 = some r) : Ret E 68 [qk a0] (SV.int .i64 r) := by
 replace h := zm h
 unfold za4 at h
 refine rg [0] Tryz.func68 (by kernel_rfl) rfl ?_
 refine za h ?_ ?_ <;> intro _ h
 refine za h ?_ ?_ <;> intro _ h
 cases h; exact .r
 refine zb h (fun _ => zzk) fun x503 h => za h (fun e504 h => ?_) (fun e504 h => ?_)
 refine za h ?_ ?_ <;> intro _ h
 refine zt (fun (s506 : Unit) => [(4, .int .i64 6), (2, .int .i64 0)]) (fun _ => []) 1 h (fun s506 h => ?_) (fun K506 hN506 hE506 h => ?_)
 cases h; exact .r
 refine zn (fun (s508 : Unit) => [(5, .int .i64 0), (4, .int .i64 6), (2, .int .i64 0), (1, SV.ptr 0 [])]) (fun s508 => [(0, Blk.var true (qk a0))]) 31 h (zd rfl rfl rfl rfl rfl) (fun s508 rc508 C508 hC508 h => ?_)
 refine za h ?_ ?_ <;> intro _ h
 refine pF ?_
 exact hN506 (()) h _ _ _ (zd rfl rfl rfl rfl rfl)
 exact hN506 (()) h _ _ _ (zd rfl rfl rfl rfl rfl)
 refine zt (fun (s510 : Int) => [(4, .int .i64 s510), (2, .int .i64 0)]) (fun _ => []) 1 h (fun s510 h => ?_) (fun K510 hN510 hE510 h => ?_)
 cases h; exact .r
 refine zn (fun (s512 : Int × Int) => [(5, .int .i64 (s512.fst)), (4, .int .i64 (s512.snd)), (2, .int .i64 0), (1, SV.ptr 0 [])]) (fun s512 => [(0, Blk.var true (qk a0))]) 30 h (zd rfl rfl rfl rfl rfl) (fun s512 rc512 C512 hC512 h => ?_)
 refine za h ?_ ?_ <;> intro _ h
 refine za h ?_ ?_ <;> intro _ h
 refine za h ?_ ?_ <;> intro _ h
 refine zp (SV.int .i64) h rfl fun x521 h => zb h (fun _ => zzl) fun _ h => za h (fun _ h => ?_) fun _ h => ?_
 refine ze h fun x524 h => ?_
 exact hC512 ((x524, (7 : Int))) h _ _ _ (zd rfl rfl rfl rfl rfl)
 refine ze h fun x525 h => ?_
 exact hC512 ((x525, s512.snd)) h _ _ _ (zd rfl rfl rfl rfl rfl)
 refine ze h fun x526 h => ?_
 exact hC512 ((x526, s512.snd)) h _ _ _ (zd rfl rfl rfl rfl rfl)
 exact hN510 (s512.snd) h _ _ _ (zd rfl rfl rfl rfl rfl)
 exact hN510 (s512.snd) h _ _ _ (zd rfl rfl rfl rfl rfl)
 refine zt (fun (s527 : Unit) => [(4, .int .i64 (x503.snd)), (2, .int .i64 0)]) (fun _ => []) 1 h (fun s527 h => ?_) (fun K527 hN527 hE527 h => ?_)
 cases h; exact .r
 refine zn (fun (s529 : Unit) => [(5, .int .i64 0), (4, .int .i64 (x503.snd)), (2, .int .i64 0), (1, SV.ptr 0 [])]) (fun s529 => [(0, Blk.var true (qk a0))]) 25 h (zd rfl rfl rfl rfl rfl) (fun s529 rc529 C529 hC529 h => ?_)
 refine za h ?_ ?_ <;> intro _ h
 refine ⟨fun e => absurd (e.symm.trans e504) (by decide), fun _ => ?_⟩
 exact hN527 (()) h _ _ _ (zd rfl rfl rfl rfl rfl)
 exact hN527 (()) h _ _ _ (zd rfl rfl rfl rfl rfl)
 refine zb h (fun _ => zzk) fun x531 h => za h (fun e532 h => ?_) (fun e532 h => ?_)
 refine za h ?_ ?_ <;> intro _ h
 refine zt (fun (s534 : Unit) => [(4, .int .i64 6), (2, .int .i64 0)]) (fun _ => []) 1 h (fun s534 h => ?_) (fun K534 hN534 hE534 h => ?_)
 cases h; exact .r
 refine zn (fun (s536 : Unit) => [(5, .int .i64 0), (4, .int .i64 6), (2, .int .i64 0), (1, SV.ptr 0 [])]) (fun s536 => [(0, Blk.var true (qk a0))]) 28 h (zd rfl rfl rfl rfl rfl) (fun s536 rc536 C536 hC536 h => ?_)
 refine za h ?_ ?_ <;> intro _ h
 refine pF ?_
 exact hN534 (()) h _ _ _ (zd rfl rfl rfl rfl rfl)
 exact hN534 (()) h _ _ _ (zd rfl rfl rfl rfl rfl)
 refine zt (fun (s538 : Int) => [(4, .int .i64 s538), (2, .int .i64 0)]) (fun _ => []) 1 h (fun s538 h => ?_) (fun K538 hN538 hE538 h => ?_)
 cases h; exact .r
 refine zn (fun (s540 : Int × Int) => [(5, .int .i64 (s540.fst)), (4, .int .i64 (s540.snd)), (2, .int .i64 0), (1, SV.ptr 0 [])]) (fun s540 => [(0, Blk.var true (qk a0))]) 27 h (zd rfl rfl rfl rfl rfl) (fun s540 rc540 C540 hC540 h => ?_)
 refine za h ?_ ?_ <;> intro _ h
 refine za h ?_ ?_ <;> intro _ h
 refine za h ?_ ?_ <;> intro _ h
 refine zp (SV.int .i64) h rfl fun x549 h => zb h (fun _ => zzl) fun x550 h => za h (fun _ h => ?_) fun _ h => ?_
 refine ze h fun x552 h => ?_
 exact hC540 ((x552, (7 : Int))) h _ _ _ (zd rfl rfl rfl rfl rfl)
 refine ze h fun x553 h => ?_
 exact hC540 ((x553, s540.snd)) h _ _ _ (zd rfl rfl rfl rfl rfl)
 refine ze h fun x554 h => ?_
 exact hC540 ((x554, s540.snd)) h _ _ _ (zd rfl rfl rfl rfl rfl)
 exact hN538 (s540.snd) h _ _ _ (zd rfl rfl rfl rfl rfl)
 exact hN538 (s540.snd) h _ _ _ (zd rfl rfl rfl rfl rfl)
 refine zt (fun (s555 : Unit) => [(4, .int .i64 (x531.snd)), (2, .int .i64 0)]) (fun _ => []) 1 h (fun s555 h => ?_) (fun K555 hN555 hE555 h => ?_)
 cases h; exact .r
 refine zn (fun (s557 : Unit) => [(5, .int .i64 0), (4, .int .i64 (x531.snd)), (2, .int .i64 0), (1, SV.ptr 0 [])]) (fun s557 => [(0, Blk.var true (qk a0))]) 22 h (zd rfl rfl rfl rfl rfl) (fun s557 rc557 C557 hC557 h => ?_)
 refine za h (fun e558 h => ?_) (fun e558 h => ?_)
 refine ⟨fun e => absurd (e.symm.trans e532) (by decide), fun _ => ?_⟩
 exact hN555 (()) h _ _ _ (zd rfl rfl rfl rfl rfl)
 exact hN555 (()) h _ _ _ (zd rfl rfl rfl rfl rfl)
theorem zzx {a0 : TP} {a1 : List TW} {r : Int × Int} (h : zfa a0 a1 = some r) : Ret E 49 [zy a0, zf 6 zj a1] (SV.tup [SV.int .i64 r.fst, SV.int .i64 r.snd]) := by
 replace h := zm h
 unfold zfa at h
 refine rg [0] Tryz.func49 (by kernel_rfl) rfl ?_
 refine zb h (fun _ => zzb) fun _ h => za h (fun _ h => ?_) fun _ h => ?_
 refine za h ?_ ?_ <;> intro _ h
 refine pT ?_
 cases h; exact .r
 refine za h ?_ ?_ <;> intro _ h
 cases h; exact .r
 refine zt (fun (s456 : Unit) => [(5, .int .i64 0), (4, .int .i64 0)]) (fun _ => []) 1 h (fun s456 h => ?_) (fun K456 hN456 hE456 h => ?_)
 cases h; exact .r
 refine zn (fun (s458 : Int) => [(9, .int .i64 s458), (5, .int .i64 0), (4, .int .i64 0), (2, SV.ptr 0 []), (1, (zf 6 zj) a1)]) (fun s458 => [(0, Blk.var true (zy a0))]) 25 h (zd rfl rfl rfl rfl rfl) (fun s458 rc458 C458 hC458 h => ?_)
 refine za h ?_ ?_ <;> intro _ h
 refine ⟨by trivial, ?_⟩
 refine zp zj h rfl fun x475 h => zp zS h rfl fun _ h => za h (fun _ h => ?_) fun _ h => ?_
 refine hE456 _ _ _ _ ?_
 cases h; exact .r
 refine zp zj h rfl fun _ h => zb h (fun _ => zz3) fun _ h => ?_
 refine ⟨by trivial, ?_⟩
 refine za h (fun e480 h => ?_) (fun e480 h => ?_)
 refine zp zj h rfl fun _ h => zp zS h rfl fun _ h => za h (fun _ h => ?_) fun _ h => ?_
 refine ⟨by trivial, ?_⟩
 refine ⟨fun e => absurd e (by decide), fun _ => ?_⟩
 refine ⟨fun _ => ?_, fun e => absurd e (by decide)⟩
 refine hE456 _ _ _ _ ?_
 cases h; exact .r
 refine ⟨by trivial, ?_⟩
 refine ⟨fun _ => ?_, fun e => absurd (e.symm.trans e480) (by decide)⟩
 refine zp zj h rfl fun x484 h => zp zS h rfl fun _ h => za h (fun _ h => ?_) fun _ h => ?_
 refine pT ?_
 refine hE456 _ _ _ _ ?_
 cases h; exact .r
 refine za h (fun e487 h => ?_) (fun e487 h => ?_)
 refine hE456 _ _ _ _ ?_
 cases h; exact .r
 refine ze h fun x488 h => ?_
 exact hC458 x488 h _ _ _ (zd rfl rfl rfl rfl rfl)
 refine ⟨by trivial, ?_⟩
 refine ⟨fun e => absurd (e.symm.trans e480) (by decide), fun _ => ?_⟩
 refine za h ?_ ?_ <;> intro _ h
 refine hE456 _ _ _ _ ?_
 cases h; exact .r
 refine ze h fun x490 h => ?_
 exact hC458 x490 h _ _ _ (zd rfl rfl rfl rfl rfl)
 exact hN456 (()) h _ _ _ (zd rfl rfl rfl rfl rfl)
 refine za h ?_ ?_ <;> intro _ h
 cases h; exact .r
 refine zt (fun (s492 : Unit) => [(5, .int .i64 0), (4, .int .i64 0)]) (fun _ => []) 1 h (fun s492 h => ?_) (fun K492 hN492 hE492 h => ?_)
 cases h; exact .r
 refine zn (fun (s494 : Int) => [(9, .int .i64 s494), (5, .int .i64 0), (4, .int .i64 0), (2, SV.ptr 0 []), (1, (zf 6 zj) a1)]) (fun s494 => [(0, Blk.var true (zy a0))]) 19 h (zd rfl rfl rfl rfl rfl) (fun s494 rc494 C494 hC494 h => ?_)
 refine za h ?_ ?_ <;> intro _ h
 refine ⟨by trivial, ?_⟩
 refine zp zj h rfl fun _ h => zp zS h rfl fun _ h => za h (fun _ h => ?_) fun _ h => ?_
 refine hE492 _ _ _ _ ?_
 cases h; exact .r
 refine zp zj h rfl fun _ h => zb h (fun _ => zz3) fun _ h => ?_
 refine ⟨by trivial, ?_⟩
 refine za h (fun e516 h => ?_) (fun e516 h => ?_)
 refine zp zj h rfl fun _ h => zp zS h rfl fun _ h => za h (fun _ h => ?_) fun _ h => ?_
 refine ⟨by trivial, ?_⟩
 refine ⟨fun e => absurd e (by decide), fun _ => ?_⟩
 refine ⟨fun _ => ?_, fun e => absurd e (by decide)⟩
 refine hE492 _ _ _ _ ?_
 cases h; exact .r
 refine ⟨by trivial, ?_⟩
 refine ⟨fun _ => ?_, fun e => absurd (e.symm.trans e516) (by decide)⟩
 refine zp zj h rfl fun _ h => zp zS h rfl fun x521 h => za h (fun _ h => ?_) fun _ h => ?_
 refine pT ?_
 refine hE492 _ _ _ _ ?_
 cases h; exact .r
 refine za h ?_ ?_ <;> intro _ h
 refine hE492 _ _ _ _ ?_
 cases h; exact .r
 refine ze h fun x524 h => ?_
 exact hC494 x524 h _ _ _ (zd rfl rfl rfl rfl rfl)
 refine ⟨by trivial, ?_⟩
 refine ⟨fun e => absurd (e.symm.trans e516) (by decide), fun _ => ?_⟩
 refine za h ?_ ?_ <;> intro _ h
 refine hE492 _ _ _ _ ?_
 cases h; exact .r
 refine ze h fun x526 h => ?_
 exact hC494 x526 h _ _ _ (zd rfl rfl rfl rfl rfl)
 exact hN492 (()) h _ _ _ (zd rfl rfl rfl rfl rfl)
theorem zD3 {a0 : TP} {a1 : List TW} {a2 : List TW} {r : Int} (h : zio a0 a1 a2 = some r) : Ret E 31 [zy a0, zf 6 zj a1, zf 6 zj a2] (SV.int .i64 r) := by
 replace h := zm h
 unfold zio at h
 refine rg [] Tryz.func31 (by kernel_rfl) rfl ?_
 refine zb h (fun _ => zzx) fun _ h => za h (fun _ h => ?_) fun _ h => ?_
 refine zb h (fun _ => zzx) fun _ h => ?_
 cases h; exact .r
 cases h; exact .r
theorem zDp {a0 : TA} {a1 : TA} {r : Bool} (h : zm0 a0 a1 = some r) : Ret E 41 [qk a0, qk a1] (SV.bool r) := by
 replace h := zm h
 unfold zm0 at h
 refine rg [] Tryz.func41 (by kernel_rfl) rfl ?_
 refine za h ?_ ?_ <;> intro _ h
 refine za h ?_ ?_ <;> intro _ h
 cases h; exact .r
 cases h; exact .r
 cases h; exact .r
theorem zDf {a0 : TA} {a1 : TA} {r : Bool} (h : zfi a0 a1 = some r) : Ret E 19 [qk a0, qk a1] (SV.bool r) := by
 replace h := zm h
 unfold zfi at h
 refine rg [0] Tryz.func19 (by kernel_rfl) rfl ?_
 refine zb h (fun _ => zDp) fun _ h => ?_
 refine zW h (fun e558 h => ?_) (fun e558 h => ?_)
 cases h; exact .r
 refine za h ?_ ?_ <;> intro _ h
 cases h; exact .r
 refine zt (fun (s560 : Unit) => [(4, SV.fls)]) (fun _ => []) 1 h (fun s560 h => ?_) (fun K560 hN560 hE560 h => ?_)
 cases h; exact .r
 refine zn (fun (s562 : Int) => [(5, .int .i64 s562), (4, SV.fls), (3, SV.ptr (1) []), (2, SV.ptr 0 [])]) (fun s562 => [(1, Blk.var true (qk a1)), (0, Blk.var true (qk a0))]) 17 h (zd rfl rfl rfl rfl rfl) (fun s562 rc562 C562 hC562 h => ?_)
 refine za h ?_ ?_ <;> intro _ h
 refine ⟨by trivial, ?_⟩
 refine zp (SV.int .i64) h rfl fun x568 h => zp (SV.int .i64) h rfl fun x569 h => za h (fun _ h => ?_) fun _ h => ?_
 refine hE560 _ _ _ _ ?_
 cases h; exact .r
 refine ze h fun x571 h => ?_
 exact hC562 x571 h _ _ _ (zd rfl rfl rfl rfl rfl)
 exact hN560 (()) h _ _ _ (zd rfl rfl rfl rfl rfl)
theorem zzt {a0 : (Bool × Bool) × Bool} {a1 : TA} {a2 : TA} {r : Bool} (h : zda a0 a1 a2 = some r) : Ret E 32 [SV.agg [zO 1 SV.bool a0.fst, .bool a0.snd], qk a1, qk a2] (SV.bool r) := by
 replace h := zm h
 unfold zda at h
 refine rg [0] Tryz.func32 (by kernel_rfl) rfl ?_
 refine zt (fun (s541 : Unit) => [(6, SV.fls), (5, SV.ptr (2) []), (4, SV.ptr (1) []), (3, SV.ptr 0 [])]) (fun s541 => [(2, Blk.var true (qk a2)), (1, Blk.var true (qk a1)), (0, Blk.var true ((fun (x : (Bool × Bool) × Bool) => SV.agg [zO 1 SV.bool x.fst, .bool x.snd]) a0))]) 3 h (fun s541 h => ?_) (fun K541 hN541 hE541 h => ?_)
 refine zW h (fun e554 h => ?_) (fun e554 h => ?_)
 cases h; exact .r
 refine zb h (fun _ => zDf) fun x572 h => ?_
 cases h; exact .r
 refine zn (fun (s543 : Int) => [(7, .int .i64 s543), (6, SV.fls), (5, SV.ptr (2) []), (4, SV.ptr (1) []), (3, SV.ptr 0 [])]) (fun s543 => [(2, Blk.var true (qk a2)), (1, Blk.var true (qk a1)), (0, Blk.var true ((fun (x : (Bool × Bool) × Bool) => SV.agg [zO 1 SV.bool x.fst, .bool x.snd]) a0))]) 5 h (zd rfl rfl rfl rfl rfl) (fun s543 rc543 C543 hC543 h => ?_)
 refine za h ?_ ?_ <;> intro _ h
 refine ⟨by trivial, ?_⟩
 refine zl h fun _ h => zp SV.bool h (by first | (simp [zf, zI, List.map_append, List.map_take, List.map_drop, List.map_set, List.map_replicate]; done) | rfl) fun x547 h => za h (fun _ h => ?_) fun _ h => ?_
 refine zl h fun _ h => zp (SV.int .i64) h (by first | (simp [zf, zI, List.map_append, List.map_take, List.map_drop, List.map_set, List.map_replicate]; done) | rfl) fun x549 h => zl h fun _ h => zp (SV.int .i64) h (by first | (simp [zf, zI, List.map_append, List.map_take, List.map_drop, List.map_set, List.map_replicate]; done) | rfl) fun x550 h => ?_
 refine za h ?_ ?_ <;> intro _ h
 refine hE541 _ _ _ _ ?_
 cases h; exact .r
 refine ze h fun x552 h => ?_
 exact hC543 x552 h _ _ _ (zd rfl rfl rfl rfl rfl)
 refine ze h fun x553 h => ?_
 exact hC543 x553 h _ _ _ (zd rfl rfl rfl rfl rfl)
 exact hN541 (()) h _ _ _ (zd rfl rfl rfl rfl rfl)
theorem zzs {a0 : TP} {a1 : List TW} {a2 : List TW} {a3 : Int} {r : List Int × Int} (h : zev a0 a1 a2 a3 = some r) : Ret E 11 [zy a0, zf 6 zj a1, zf 6 zj a2, SV.int .i64 a3] (SV.tup [zf 1 (SV.int .i64) r.fst, SV.int .i64 r.snd]) := by
 replace h := zm h
 unfold zev at h
 refine rg [0] Tryz.func11 (by kernel_rfl) rfl ?_
 refine zb h (fun _ => zD3) fun _ h => za h (fun _ h => ?_) fun _ h => ?_
 refine zb h (fun _ => zzz) fun _ h => za h (fun _ h => ?_) fun _ h => ?_
 cases h; exact .r
 refine zt (fun (s534 : List Int) => [(11, SV.osl (16) 1), (9, .int .i64 0), (8, SV.osl (1) 1)]) (fun s534 => [(16, Blk.row true 1 (List.map (SV.int .i64) s534)), (1, Blk.row true 1 [])]) 17 h (fun s534 h => ?_) (fun K534 hN534 hE534 h => ?_)
 cases h; exact .r
 refine zn (fun (s536 : Int × List Int) => [(12, .int .i64 (s536.fst)), (11, SV.osl (16) 1), (9, .int .i64 0), (8, SV.osl (1) 1), (4, SV.ptr 0 []), (3, .int .i64 a3), (2, (zf 6 zj) a2), (1, (zf 6 zj) a1)]) (fun s536 => [(16, Blk.row true 1 (List.map (SV.int .i64) s536.snd)), (1, Blk.row true 1 []), (0, Blk.var true (zy a0))]) 18 h (zd rfl rfl rfl rfl rfl) (fun s536 rc536 C536 hC536 h => ?_)
 refine za h ?_ ?_ <;> intro _ h
 refine ⟨by trivial, ?_⟩
 refine zp zS h rfl fun _ h => zb h (fun _ => zur) fun _ h => zp zj h rfl fun x547 h => zp zj h rfl fun _ h => zb h (fun _ => zzt) fun x549 h => za h (fun _ h => ?_) fun _ h => ?_
 refine zl h fun _ h => ze h fun x551 h => ?_
 exact hC536 ((x551, s536.snd ++ [s536.fst])) h _ _ _ (qE ⟨.refl _, .refl _, .refl _, .refl _, .refl _, .refl _, .refl _, .refl _, trivial⟩ ⟨(.row (.appm .refl (.cons .refl .refl))), .refl, .refl, trivial⟩ rfl rfl rfl)
 refine ze h fun x552 h => ?_
 exact hC536 ((x552, s536.snd)) h _ _ _ (zd rfl rfl rfl rfl rfl)
 exact hN534 (s536.snd) h _ _ _ (zd rfl rfl rfl rfl rfl)
 refine za h ?_ ?_ <;> intro _ h
 cases h; exact .r
 refine zt (fun (s554 : List Int) => [(11, SV.osl (12) 1), (9, .int .i64 0), (8, SV.osl (1) 1)]) (fun s554 => [(12, Blk.row true 1 (List.map (SV.int .i64) s554)), (1, Blk.row true 1 [])]) 13 h (fun s554 h => ?_) (fun K554 hN554 hE554 h => ?_)
 cases h; exact .r
 refine zn (fun (s556 : Int × List Int) => [(12, .int .i64 (s556.fst)), (11, SV.osl (12) 1), (9, .int .i64 0), (8, SV.osl (1) 1), (4, SV.ptr 0 []), (3, .int .i64 a3), (2, (zf 6 zj) a2), (1, (zf 6 zj) a1)]) (fun s556 => [(12, Blk.row true 1 (List.map (SV.int .i64) s556.snd)), (1, Blk.row true 1 []), (0, Blk.var true (zy a0))]) 14 h (zd rfl rfl rfl rfl rfl) (fun s556 rc556 C556 hC556 h => ?_)
 refine za h ?_ ?_ <;> intro _ h
 refine ⟨by trivial, ?_⟩
 refine zp zS h rfl fun _ h => zb h (fun _ => zur) fun _ h => zp zj h rfl fun _ h => zp zj h rfl fun x568 h => zb h (fun _ => zzt) fun x569 h => za h (fun _ h => ?_) fun _ h => ?_
 refine zl h fun _ h => ze h fun x571 h => ?_
 exact hC556 ((x571, s556.snd ++ [s556.fst])) h _ _ _ (qE ⟨.refl _, .refl _, .refl _, .refl _, .refl _, .refl _, .refl _, .refl _, trivial⟩ ⟨(.row (.appm .refl (.cons .refl .refl))), .refl, .refl, trivial⟩ rfl rfl rfl)
 refine ze h fun x572 h => ?_
 exact hC556 ((x572, s556.snd)) h _ _ _ (zd rfl rfl rfl rfl rfl)
 exact hN554 (s556.snd) h _ _ _ (zd rfl rfl rfl rfl rfl)
theorem zEn {a0 : TP} {a1 : List TW} {a2 : List TW} {a3 : Int} {r : Bool × Int} (h : zh9 a0 a1 a2 a3 = some r) : Ret E 9 [zy a0, zf 6 zj a1, zf 6 zj a2, SV.int .i64 a3] (SV.tup [SV.bool r.fst, SV.int .i64 r.snd]) := by
 replace h := zm h
 unfold zh9 at h
 refine rg [] Tryz.func9 (by kernel_rfl) rfl ?_
 refine zb h (fun _ => zzs) fun _ h => za h (fun _ h => ?_) fun _ h => ?_
 cases h; exact .r
 cases h; exact .r
theorem zEb {a0 : List Int} {a1 : List Int} {r : Bool} (h : zh1 a0 a1 = some r) : Ret E 12 [zf 1 (SV.int .i64) a0, zf 1 (SV.int .i64) a1] (SV.bool r) := by
 replace h := zm h
 unfold zh1 at h
 refine rg [0] Tryz.func12 (by kernel_rfl) rfl ?_
 refine za h ?_ ?_ <;> intro _ h
 cases h; exact .r
 refine zt (fun (s581 : Unit) => [(4, SV.fls)]) (fun _ => []) 1 h (fun s581 h => ?_) (fun K581 hN581 hE581 h => ?_)
 cases h; exact .r
 refine zn (fun (s583 : Int) => [(5, .int .i64 s583), (4, SV.fls), (1, (zf 1 (SV.int .i64)) a1), (0, (zf 1 (SV.int .i64)) a0)]) (fun _ => []) 7 h (zd rfl rfl rfl rfl rfl) (fun s583 rc583 C583 hC583 h => ?_)
 refine za h ?_ ?_ <;> intro _ h
 refine ⟨by trivial, ?_⟩
 refine zp (SV.int .i64) h rfl fun _ h => zp (SV.int .i64) h rfl fun _ h => za h (fun _ h => ?_) fun _ h => ?_
 refine hE581 _ _ _ _ ?_
 cases h; exact .r
 refine ze h fun x592 h => ?_
 exact hC583 x592 h _ _ _ (zd rfl rfl rfl rfl rfl)
 exact hN581 (()) h _ _ _ (zd rfl rfl rfl rfl rfl)
theorem zDq {a0 : TP} {a1 : List TW × List TW} {a2 : Int} {r : Bool} (h : zm2 a0 a1 a2 = some r) : Ret E 3 [zy a0, zO 1 (zf 6 zj) a1, SV.int .i64 a2] (SV.bool r) := by
 replace h := zm h
 unfold zm2 at h
 refine rg [0] Tryz.func3 (by kernel_rfl) rfl ?_
 refine zU (by decide) ?_
 refine zr (by decide) rfl ?_
 refine zU (by decide) ?_
 refine zr (by decide) rfl ?_
 refine zb h (fun _ => Rz4) fun _ h => za h (fun _ h => ?_) fun _ h => ?_
 refine call L_invigilatorlaw32_awake ?_
 cases h; exact .r
 refine zb h (fun _ => zGl) fun x107 h => zb h (fun _ => zDi) fun x344 h => ?_
 refine zW h (fun e345 h => ?_) (fun e345 h => ?_)
 cases h; exact .r
 refine za h ?_ ?_ <;> intro _ h
 cases h; exact .r
 refine zt (fun (s347 : Unit) => [(10, .int .i64 (x344.snd)), (8, .int .i64 (x107.snd)), (6, SV.fls), (4, SV.ptr (1) []), (3, SV.ptr 0 []), (2, .int .i64 a2)]) (fun s347 => [(1, Blk.var true ((zO 1 (zf 6 zj)) a1)), (0, Blk.var true (zy a0))]) 2 h (fun s347 h => ?_) (fun K347 hN347 hE347 h => ?_)
 refine zU (by decide) ?_
 refine zr (by decide) rfl ?_
 refine zU (by decide) ?_
 refine zr (by decide) rfl ?_
 refine zb h (fun _ => zDd) fun _ h => ?_
 refine zU (by decide) ?_
 refine zr (by decide) rfl ?_
 refine zU (by decide) ?_
 refine zr (by decide) rfl ?_
 refine zb h (fun _ => zEn) fun _ h => ?_
 refine zU (by decide) ?_
 refine zr (by decide) rfl ?_
 refine zU (by decide) ?_
 refine zr (by decide) rfl ?_
 refine zb h (fun _ => zzp) fun _ h => ?_
 refine zU (by decide) ?_
 refine zr (by decide) rfl ?_
 refine zU (by decide) ?_
 refine zr (by decide) rfl ?_
 refine zb h (fun _ => zzs) fun _ h => za h (fun _ h => ?_) fun _ h => ?_
 refine za h ?_ ?_ <;> intro _ h
 refine zb h (fun _ => zEb) fun _ h => za h (fun _ h => ?_) fun _ h => ?_
 refine za h ?_ ?_ <;> intro _ h
 refine call L_invigilatorlaw32_awake ?_
 cases h; exact .r
 cases h; exact .r
 cases h; exact .r
 cases h; exact .r
 cases h; exact .r
 refine zn (fun (s349 : Int) => [(11, .int .i64 s349), (10, .int .i64 (x344.snd)), (9, (zf 3 (fun (x : (Bool × Bool) × Bool) => SV.agg [zO 1 SV.bool x.fst, .bool x.snd])) (x344.fst)), (8, .int .i64 (x107.snd)), (7, (zf 3 (fun (x : (Bool × Bool) × Bool) => SV.agg [zO 1 SV.bool x.fst, .bool x.snd])) (x107.fst)), (6, SV.fls), (4, SV.ptr (1) []), (3, SV.ptr 0 []), (2, .int .i64 a2)]) (fun s349 => [(1, Blk.var true ((zO 1 (zf 6 zj)) a1)), (0, Blk.var true (zy a0))]) 36 h (zd rfl rfl rfl rfl rfl) (fun s349 rc349 C349 hC349 h => ?_)
 refine za h ?_ ?_ <;> intro _ h
 refine ⟨by trivial, ?_⟩
 refine zp (fun (x : (Bool × Bool) × Bool) => SV.agg [zO 1 SV.bool x.fst, .bool x.snd]) h rfl fun _ h => zp (fun (x : (Bool × Bool) × Bool) => SV.agg [zO 1 SV.bool x.fst, .bool x.snd]) h rfl fun _ h => za h (fun _ h => ?_) fun _ h => ?_
 refine hE347 _ _ _ _ ?_
 cases h; exact .r
 refine ze h fun x358 h => ?_
 exact hC349 x358 h _ _ _ (zd rfl rfl rfl rfl rfl)
 exact hN347 (()) h _ _ _ (zd rfl rfl rfl rfl rfl)
end Go.Sx.Tz
