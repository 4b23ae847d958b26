/- The functions that proclitic/procliticlaw26.MtreeForms reaches, as the interpreter has them; each is shown to be what the given program bears. -/
import Derived.Test.YtfhhabajfojjoaaGreatDoorIrBD3
import Derived.Test.YtfhhabajfojjoaaGreatDoorRows
set_option maxRecDepth 100000
set_option linter.unusedVariables false
namespace Go.Proofs.YtfhhabajfojjoaaGreatDoor.IrB
open Go Go.CI Go.Shelf

theorem ok3 : cfunc Tryz.prog hints 3 = some c3 := by kernel_rfl
theorem ok6 : cfunc Tryz.prog hints 6 = some c6 := by kernel_rfl
theorem ok7 : cfunc Tryz.prog hints 7 = some c7 := by kernel_rfl
theorem ok8 : cfunc Tryz.prog hints 8 = some c8 := by kernel_rfl
theorem ok9 : cfunc Tryz.prog hints 9 = some c9 := by kernel_rfl
theorem ok10 : cfunc Tryz.prog hints 10 = some c10 := by kernel_rfl
theorem ok11 : cfunc Tryz.prog hints 11 = some c11 := by kernel_rfl
theorem ok12 : cfunc Tryz.prog hints 12 = some c12 := by kernel_rfl
theorem ok15 : cfunc Tryz.prog hints 15 = some c15 := by kernel_rfl
theorem ok16 : cfunc Tryz.prog hints 16 = some c16 := by kernel_rfl
theorem ok17 : cfunc Tryz.prog hints 17 = some c17 := by kernel_rfl
theorem ok18 : cfunc Tryz.prog hints 18 = some c18 := by kernel_rfl
theorem ok19 : cfunc Tryz.prog hints 19 = some c19 := by kernel_rfl
theorem ok20 : cfunc Tryz.prog hints 20 = some c20 := by kernel_rfl
theorem ok21 : cfunc Tryz.prog hints 21 = some c21 := by kernel_rfl
theorem ok22 : cfunc Tryz.prog hints 22 = some c22 := by kernel_rfl
theorem ok23 : cfunc Tryz.prog hints 23 = some c23 := by kernel_rfl
theorem ok24 : cfunc Tryz.prog hints 24 = some c24 := by kernel_rfl
theorem ok25 : cfunc Tryz.prog hints 25 = some c25 := by kernel_rfl
theorem ok26 : cfunc Tryz.prog hints 26 = some c26 := by kernel_rfl
theorem ok31 : cfunc Tryz.prog hints 31 = some c31 := by kernel_rfl
theorem ok32 : cfunc Tryz.prog hints 32 = some c32 := by kernel_rfl
theorem ok35 : cfunc Tryz.prog hints 35 = some c35 := by kernel_rfl
theorem ok36 : cfunc Tryz.prog hints 36 = some c36 := by kernel_rfl
theorem ok37 : cfunc Tryz.prog hints 37 = some c37 := by kernel_rfl
theorem ok38 : cfunc Tryz.prog hints 38 = some c38 := by kernel_rfl
theorem ok40 : cfunc Tryz.prog hints 40 = some c40 := by kernel_rfl
theorem ok41 : cfunc Tryz.prog hints 41 = some c41 := by kernel_rfl
theorem ok42 : cfunc Tryz.prog hints 42 = some c42 := by kernel_rfl
theorem ok43 : cfunc Tryz.prog hints 43 = some c43 := by kernel_rfl
theorem ok44 : cfunc Tryz.prog hints 44 = some c44 := by kernel_rfl
theorem ok45 : cfunc Tryz.prog hints 45 = some c45 := by kernel_rfl
theorem ok46 : cfunc Tryz.prog hints 46 = some c46 := by kernel_rfl
theorem ok48 : cfunc Tryz.prog hints 48 = some c48 := by kernel_rfl
theorem ok49 : cfunc Tryz.prog hints 49 = some c49 := by kernel_rfl
theorem ok50 : cfunc Tryz.prog hints 50 = some c50 := by kernel_rfl
theorem ok51 : cfunc Tryz.prog hints 51 = some c51 := by kernel_rfl
theorem ok52 : cfunc Tryz.prog hints 52 = some c52 := by kernel_rfl
theorem ok53 : cfunc Tryz.prog hints 53 = some c53 := by kernel_rfl
theorem ok54 : cfunc Tryz.prog hints 54 = some c54 := by kernel_rfl
theorem ok55 : cfunc Tryz.prog hints 55 = some c55 := by kernel_rfl
theorem ok56 : cfunc Tryz.prog hints 56 = some c56 := by kernel_rfl
theorem ok57 : cfunc Tryz.prog hints 57 = some c57 := by kernel_rfl
theorem ok58 : cfunc Tryz.prog hints 58 = some c58 := by kernel_rfl
theorem ok59 : cfunc Tryz.prog hints 59 = some c59 := by kernel_rfl
theorem ok60 : cfunc Tryz.prog hints 60 = some c60 := by kernel_rfl
theorem ok61 : cfunc Tryz.prog hints 61 = some c61 := by kernel_rfl
theorem ok62 : cfunc Tryz.prog hints 62 = some c62 := by kernel_rfl
theorem ok77 : cfunc Tryz.prog hints 77 = some c77 := by kernel_rfl
theorem ok78 : cfunc Tryz.prog hints 78 = some c78 := by kernel_rfl
theorem ok80 : cfunc Tryz.prog hints 80 = some c80 := by kernel_rfl
theorem ok81 : cfunc Tryz.prog hints 81 = some c81 := by kernel_rfl
theorem ok82 : cfunc Tryz.prog hints 82 = some c82 := by kernel_rfl
theorem ok83 : cfunc Tryz.prog hints 83 = some c83 := by kernel_rfl
theorem ok84 : cfunc Tryz.prog hints 84 = some c84 := by kernel_rfl
theorem ok85 : cfunc Tryz.prog hints 85 = some c85 := by kernel_rfl
theorem ok86 : cfunc Tryz.prog hints 86 = some c86 := by kernel_rfl
theorem ok88 : cfunc Tryz.prog hints 88 = some c88 := by kernel_rfl
theorem ok89 : cfunc Tryz.prog hints 89 = some c89 := by kernel_rfl
theorem ok90 : cfunc Tryz.prog hints 90 = some c90 := by kernel_rfl
theorem ok91 : cfunc Tryz.prog hints 91 = some c91 := by kernel_rfl
theorem ok92 : cfunc Tryz.prog hints 92 = some c92 := by kernel_rfl
theorem ok94 : cfunc Tryz.prog hints 94 = some c94 := by kernel_rfl
theorem ok95 : cfunc Tryz.prog hints 95 = some c95 := by kernel_rfl
theorem ok96 : cfunc Tryz.prog hints 96 = some c96 := by kernel_rfl
theorem ok97 : cfunc Tryz.prog hints 97 = some c97 := by kernel_rfl
theorem ok98 : cfunc Tryz.prog hints 98 = some c98 := by kernel_rfl
theorem ok99 : cfunc Tryz.prog hints 99 = some c99 := by kernel_rfl
theorem ok100 : cfunc Tryz.prog hints 100 = some c100 := by kernel_rfl
theorem ok101 : cfunc Tryz.prog hints 101 = some c101 := by kernel_rfl
theorem ok103 : cfunc Tryz.prog hints 103 = some c103 := by kernel_rfl
theorem ok104 : cfunc Tryz.prog hints 104 = some c104 := by kernel_rfl
theorem ok105 : cfunc Tryz.prog hints 105 = some c105 := by kernel_rfl
theorem ok106 : cfunc Tryz.prog hints 106 = some c106 := by kernel_rfl
theorem ok107 : cfunc Tryz.prog hints 107 = some c107 := by kernel_rfl
theorem ok108 : cfunc Tryz.prog hints 108 = some c108 := by kernel_rfl
theorem ok109 : cfunc Tryz.prog hints 109 = some c109 := by kernel_rfl
theorem ok110 : cfunc Tryz.prog hints 110 = some c110 := by kernel_rfl
theorem ok111 : cfunc Tryz.prog hints 111 = some c111 := by kernel_rfl
theorem ok112 : cfunc Tryz.prog hints 112 = some c112 := by kernel_rfl
theorem ok113 : cfunc Tryz.prog hints 113 = some c113 := by kernel_rfl
theorem ok114 : cfunc Tryz.prog hints 114 = some c114 := by kernel_rfl
theorem ok115 : cfunc Tryz.prog hints 115 = some c115 := by kernel_rfl
theorem ok116 : cfunc Tryz.prog hints 116 = some c116 := by kernel_rfl
theorem ok117 : cfunc Tryz.prog hints 117 = some c117 := by kernel_rfl
theorem ok132 : cfunc Tryz.prog hints 132 = some c132 := by kernel_rfl
theorem ok133 : cfunc Tryz.prog hints 133 = some c133 := by kernel_rfl
theorem ok135 : cfunc Tryz.prog hints 135 = some c135 := by kernel_rfl
theorem ok136 : cfunc Tryz.prog hints 136 = some c136 := by kernel_rfl
theorem ok137 : cfunc Tryz.prog hints 137 = some c137 := by kernel_rfl
theorem ok138 : cfunc Tryz.prog hints 138 = some c138 := by kernel_rfl
theorem ok139 : cfunc Tryz.prog hints 139 = some c139 := by kernel_rfl
theorem ok140 : cfunc Tryz.prog hints 140 = some c140 := by kernel_rfl
theorem ok141 : cfunc Tryz.prog hints 141 = some c141 := by kernel_rfl
theorem ok142 : cfunc Tryz.prog hints 142 = some c142 := by kernel_rfl
theorem ok144 : cfunc Tryz.prog hints 144 = some c144 := by kernel_rfl
theorem ok145 : cfunc Tryz.prog hints 145 = some c145 := by kernel_rfl
theorem ok146 : cfunc Tryz.prog hints 146 = some c146 := by kernel_rfl
theorem ok147 : cfunc Tryz.prog hints 147 = some c147 := by kernel_rfl
theorem ok148 : cfunc Tryz.prog hints 148 = some c148 := by kernel_rfl
theorem ok149 : cfunc Tryz.prog hints 149 = some c149 := by kernel_rfl
theorem ok150 : cfunc Tryz.prog hints 150 = some c150 := by kernel_rfl
theorem ok151 : cfunc Tryz.prog hints 151 = some c151 := by kernel_rfl
theorem ok152 : cfunc Tryz.prog hints 152 = some c152 := by kernel_rfl
theorem ok155 : cfunc Tryz.prog hints 155 = some c155 := by kernel_rfl
theorem ok156 : cfunc Tryz.prog hints 156 = some c156 := by kernel_rfl
theorem ok157 : cfunc Tryz.prog hints 157 = some c157 := by kernel_rfl
theorem ok159 : cfunc Tryz.prog hints 159 = some c159 := by kernel_rfl
theorem ok160 : cfunc Tryz.prog hints 160 = some c160 := by kernel_rfl
theorem ok161 : cfunc Tryz.prog hints 161 = some c161 := by kernel_rfl
theorem ok162 : cfunc Tryz.prog hints 162 = some c162 := by kernel_rfl
theorem ok163 : cfunc Tryz.prog hints 163 = some c163 := by kernel_rfl
theorem ok164 : cfunc Tryz.prog hints 164 = some c164 := by kernel_rfl
theorem ok165 : cfunc Tryz.prog hints 165 = some c165 := by kernel_rfl
theorem ok166 : cfunc Tryz.prog hints 166 = some c166 := by kernel_rfl
theorem ok167 : cfunc Tryz.prog hints 167 = some c167 := by kernel_rfl
theorem ok168 : cfunc Tryz.prog hints 168 = some c168 := by kernel_rfl
def rho169 : Ren := ⟨fun i => if i = 22 then 169 else if i = 29 then 210 else if i = 30 then 211 else i, fun i => if i = 9 then 59 else if i = 24 then 38 else i, fun i => i⟩
theorem ilay169 : InsLay Tryz.prog rho169 "slices.Insert[[]proclitic/api.Field,proclitic/api.Field]" 2 (((Tryz.prog.info? 59).bind (·.zero)).getD .nilFunc) 32 :=
  InsLay.of (by kernel_rfl) (by kernel_rfl) Tryz.func210 (by kernel_rfl) (by kernel_rfl) (by kernel_rfl) (by kernel_rfl) (by kernel_rfl) (by kernel_rfl) (by kernel_rfl) (by kernel_rfl) (by kernel_rfl) (by kernel_rfl) (by kernel_rfl) (by kernel_rfl) (by kernel_rfl) (by kernel_rfl) (by kernel_rfl) (by decide)
theorem inf169 : (infoOf Tryz.prog 59).map (fun g => (g.size, decide (g.bytes ≤ 4096))) = some (2, true) := by kernel_rfl
theorem ok169 (base : Base) : SimPrim Tryz.prog base 169 (pInsert 2) := by
  obtain ⟨g, hg, h⟩ := Option.map_eq_some_iff.1 inf169
  have h1 := congrArg Prod.fst h
  have h2 := congrArg Prod.snd h
  exact sim_insert ilay169 (by kernel_rfl) (by kernel_rfl) (by decide) hg h1 (of_decide_eq_true h2)
theorem ok170 : cfunc Tryz.prog hints 170 = some c170 := by kernel_rfl
theorem ok171 : cfunc Tryz.prog hints 171 = some c171 := by kernel_rfl
def rhoS : Ren := ⟨fun i => if i = 316 then 262 else if i = 217 then 174 else if i = 219 then 172 else if i = 224 then 213 else if i = 225 then 212 else if i = 266 then 219 else if i = 267 then 214 else if i = 314 then 241 else if i = 240 then 222 else if i = 276 then 251 else if i = 169 then 177 else i, fun i => if i = 46 then 214 else if i = 51 then 248 else if i = 146 then 277 else if i = 0 then 0 else if i = 3 then 3 else if i = 4 then 4 else if i = 5 then 5 else if i = 9 then 9 else if i = 20 then 20 else if i = 37 then 43 else if i = 70 then 238 else if i = 72 then 240 else if i = 127 then 266 else if i = 164 then 287 else i, fun i => if i = 1 then 0 else i⟩
theorem u3 : Tryz.prog.underlying (rhoS.t 3) = some (TypeDesc.int IntKind.i64) := by kernel_rfl
theorem u4 : Tryz.prog.underlying (rhoS.t 4) = some (TypeDesc.bool) := by kernel_rfl
theorem u5 : Tryz.prog.underlying (rhoS.t 5) = some (TypeDesc.int IntKind.u8) := by kernel_rfl
theorem u9 : Tryz.prog.underlying (rhoS.t 9) = some (TypeDesc.string) := by kernel_rfl
theorem u46 : Tryz.prog.underlying (rhoS.t 46) = some (TypeDesc.int IntKind.u64) := by kernel_rfl
theorem u51 : Tryz.prog.underlying (rhoS.t 51) = some (TypeDesc.int IntKind.u32) := by kernel_rfl
theorem u146 : Tryz.prog.underlying (rhoS.t 146) = some (TypeDesc.tuple #[rhoS.t 51, rhoS.t 51]) := by kernel_rfl
theorem lay219 : Lays.n219 Tryz.prog rhoS := { mixed := by kernel_rfl, f217 := by kernel_rfl, f219 := by kernel_rfl, f224 := by kernel_rfl, f225 := by kernel_rfl, f266 := by kernel_rfl, f267 := by kernel_rfl, f314 := by kernel_rfl, t3 := u3, a3 := lay_agg u3, z3 := lay_size (by kernel_rfl), v3 := lay_zero (by kernel_rfl), t4 := u4, a4 := lay_agg u4, z4 := lay_size (by kernel_rfl), v4 := lay_zero (by kernel_rfl), t5 := u5, a5 := lay_agg u5, z5 := lay_size (by kernel_rfl), v5 := lay_zero (by kernel_rfl), t9 := u9, a9 := lay_agg u9, z9 := lay_size (by kernel_rfl), v9 := lay_zero (by kernel_rfl), t46 := u46, a46 := lay_agg u46, z46 := lay_size (by kernel_rfl), v46 := lay_zero (by kernel_rfl), t51 := u51, a51 := lay_agg u51, z51 := lay_size (by kernel_rfl), v51 := lay_zero (by kernel_rfl), t146 := u146, a146 := lay_agg u146, z146 := lay_size (by kernel_rfl), v146 := lay_zero (by kernel_rfl), g1 := by kernel_rfl }
theorem ok172 (base : Base) (hm : ∃ m, lookupG base.gl 0 = some [.int .i64 m]) : SimPrim Tryz.prog base 172 pIndex := let ⟨_, h⟩ := hm; sim_index (ρ := rhoS) lay219 (by kernel_rfl) h
theorem ok184 : cfunc Tryz.prog hints 184 = some c184 := by kernel_rfl
theorem ok185 : cfunc Tryz.prog hints 185 = some c185 := by kernel_rfl
theorem ok186 : cfunc Tryz.prog hints 186 = some c186 := by kernel_rfl
theorem ok187 : cfunc Tryz.prog hints 187 = some c187 := by kernel_rfl
theorem ok189 : cfunc Tryz.prog hints 189 = some c189 := by kernel_rfl
theorem ok190 : cfunc Tryz.prog hints 190 = some c190 := by kernel_rfl
theorem ok191 : cfunc Tryz.prog hints 191 = some c191 := by kernel_rfl
theorem ok192 : cfunc Tryz.prog hints 192 = some c192 := by kernel_rfl
theorem ok193 : cfunc Tryz.prog hints 193 = some c193 := by kernel_rfl
theorem ok194 : cfunc Tryz.prog hints 194 = some c194 := by kernel_rfl
theorem ok196 : cfunc Tryz.prog hints 196 = some c196 := by kernel_rfl
theorem ok197 : cfunc Tryz.prog hints 197 = some c197 := by kernel_rfl
theorem ok198 : cfunc Tryz.prog hints 198 = some c198 := by kernel_rfl
theorem ok202 : cfunc Tryz.prog hints 202 = some c202 := by kernel_rfl
theorem ok203 : cfunc Tryz.prog hints 203 = some c203 := by kernel_rfl
theorem ok206 : cfunc Tryz.prog hints 206 = some c206 := by kernel_rfl
theorem ok207 : cfunc Tryz.prog hints 207 = some c207 := by kernel_rfl
theorem ok208 : cfunc Tryz.prog hints 208 = some c208 := by kernel_rfl
theorem ok209 : cfunc Tryz.prog hints 209 = some c209 := by kernel_rfl
theorem ok216 : cfunc Tryz.prog hints 216 = some c216 := by kernel_rfl
theorem ok217 : cfunc Tryz.prog hints 217 = some c217 := by kernel_rfl
theorem ok219 (base : Base) : SimPrim Tryz.prog base 219 pIndexByte := sim_indexByte ⟨⟨_, Tryz.func219, by kernel_rfl, by kernel_rfl, by kernel_rfl, by kernel_rfl⟩⟩
theorem ok224 : cfunc Tryz.prog hints 224 = some c224 := by kernel_rfl
theorem ok226 : cfunc Tryz.prog hints 226 = some c226 := by kernel_rfl
theorem ok227 : cfunc Tryz.prog hints 227 = some c227 := by kernel_rfl
theorem ok228 : cfunc Tryz.prog hints 228 = some c228 := by kernel_rfl
theorem ok229 : cfunc Tryz.prog hints 229 = some c229 := by kernel_rfl
theorem ok231 : cfunc Tryz.prog hints 231 = some c231 := by kernel_rfl
theorem ok234 : cfunc Tryz.prog hints 234 = some c234 := by kernel_rfl
theorem ok235 : cfunc Tryz.prog hints 235 = some c235 := by kernel_rfl
theorem ok238 : cfunc Tryz.prog hints 238 = some c238 := by kernel_rfl
def rho239 : Ren := ⟨fun i => if i = 22 then 239 else if i = 29 then 257 else if i = 30 then 258 else i, fun i => if i = 9 then 56 else if i = 24 then 57 else i, fun i => i⟩
theorem ilay239 : InsLay Tryz.prog rho239 "slices.Insert[[]proclitic/api.Val,proclitic/api.Val]" 4 (((Tryz.prog.info? 56).bind (·.zero)).getD .nilFunc) 64 :=
  InsLay.of (by kernel_rfl) (by kernel_rfl) Tryz.func257 (by kernel_rfl) (by kernel_rfl) (by kernel_rfl) (by kernel_rfl) (by kernel_rfl) (by kernel_rfl) (by kernel_rfl) (by kernel_rfl) (by kernel_rfl) (by kernel_rfl) (by kernel_rfl) (by kernel_rfl) (by kernel_rfl) (by kernel_rfl) (by kernel_rfl) (by decide)
theorem inf239 : (infoOf Tryz.prog 56).map (fun g => (g.size, decide (g.bytes ≤ 4096))) = some (4, true) := by kernel_rfl
theorem ok239 (base : Base) : SimPrim Tryz.prog base 239 (pInsert 4) := by
  obtain ⟨g, hg, h⟩ := Option.map_eq_some_iff.1 inf239
  have h1 := congrArg Prod.fst h
  have h2 := congrArg Prod.snd h
  exact sim_insert ilay239 (by kernel_rfl) (by kernel_rfl) (by decide) hg h1 (of_decide_eq_true h2)
theorem ok242 : cfunc Tryz.prog hints 242 = some c242 := by kernel_rfl
theorem ok252 : cfunc Tryz.prog hints 252 = some c252 := by kernel_rfl
theorem ok255 : cfunc Tryz.prog hints 255 = some c255 := by kernel_rfl
/-- What the functions lean on: what the program's variables hold. -/
structure BaseOk (base : Base) : Prop where
  glob : GlobsIn hints.globals base.gl
  max : ∃ m, lookupG base.gl 0 = some [.int .i64 m]

def tree : CTree := (.node 111 (.node 54 (.node 26 (.node 16 (.node 9 (.node 7 (.node 6 (.leaf 3 (.ir c3)) (.leaf 6 (.ir c6))) (.node 8 (.leaf 7 (.ir c7)) (.leaf 8 (.ir c8)))) (.node 11 (.node 10 (.leaf 9 (.ir c9)) (.leaf 10 (.ir c10))) (.node 12 (.leaf 11 (.ir c11)) (.node 15 (.leaf 12 (.ir c12)) (.leaf 15 (.ir c15)))))) (.node 21 (.node 18 (.node 17 (.leaf 16 (.ir c16)) (.leaf 17 (.ir c17))) (.node 19 (.leaf 18 (.ir c18)) (.node 20 (.leaf 19 (.ir c19)) (.leaf 20 (.ir c20))))) (.node 23 (.node 22 (.leaf 21 (.ir c21)) (.leaf 22 (.ir c22))) (.node 24 (.leaf 23 (.ir c23)) (.node 25 (.leaf 24 (.ir c24)) (.leaf 25 (.ir c25))))))) (.node 43 (.node 37 (.node 32 (.node 31 (.leaf 26 (.ir c26)) (.leaf 31 (.ir c31))) (.node 35 (.leaf 32 (.ir c32)) (.node 36 (.leaf 35 (.ir c35)) (.leaf 36 (.ir c36))))) (.node 40 (.node 38 (.leaf 37 (.ir c37)) (.leaf 38 (.ir c38))) (.node 41 (.leaf 40 (.ir c40)) (.node 42 (.leaf 41 (.ir c41)) (.leaf 42 (.ir c42)))))) (.node 49 (.node 45 (.node 44 (.leaf 43 (.ir c43)) (.leaf 44 (.ir c44))) (.node 46 (.leaf 45 (.ir c45)) (.node 48 (.leaf 46 (.ir c46)) (.leaf 48 (.ir c48))))) (.node 51 (.node 50 (.leaf 49 (.ir c49)) (.leaf 50 (.ir c50))) (.node 52 (.leaf 51 (.ir c51)) (.node 53 (.leaf 52 (.ir c52)) (.leaf 53 (.ir c53)))))))) (.node 89 (.node 77 (.node 58 (.node 56 (.node 55 (.leaf 54 (.ir c54)) (.leaf 55 (.ir c55))) (.node 57 (.leaf 56 (.ir c56)) (.leaf 57 (.ir c57)))) (.node 60 (.node 59 (.leaf 58 (.ir c58)) (.leaf 59 (.ir c59))) (.node 61 (.leaf 60 (.ir c60)) (.node 62 (.leaf 61 (.ir c61)) (.leaf 62 (.ir c62)))))) (.node 83 (.node 80 (.node 78 (.leaf 77 (.ir c77)) (.leaf 78 (.ir c78))) (.node 81 (.leaf 80 (.ir c80)) (.node 82 (.leaf 81 (.ir c81)) (.leaf 82 (.ir c82))))) (.node 85 (.node 84 (.leaf 83 (.ir c83)) (.leaf 84 (.ir c84))) (.node 86 (.leaf 85 (.ir c85)) (.node 88 (.leaf 86 (.ir c86)) (.leaf 88 (.ir c88))))))) (.node 100 (.node 95 (.node 91 (.node 90 (.leaf 89 (.ir c89)) (.leaf 90 (.ir c90))) (.node 92 (.leaf 91 (.ir c91)) (.node 94 (.leaf 92 (.ir c92)) (.leaf 94 (.ir c94))))) (.node 97 (.node 96 (.leaf 95 (.ir c95)) (.leaf 96 (.ir c96))) (.node 98 (.leaf 97 (.ir c97)) (.node 99 (.leaf 98 (.ir c98)) (.leaf 99 (.ir c99)))))) (.node 106 (.node 103 (.node 101 (.leaf 100 (.ir c100)) (.leaf 101 (.ir c101))) (.node 104 (.leaf 103 (.ir c103)) (.node 105 (.leaf 104 (.ir c104)) (.leaf 105 (.ir c105))))) (.node 108 (.node 107 (.leaf 106 (.ir c106)) (.leaf 107 (.ir c107))) (.node 109 (.leaf 108 (.ir c108)) (.node 110 (.leaf 109 (.ir c109)) (.leaf 110 (.ir c110))))))))) (.node 169 (.node 146 (.node 135 (.node 115 (.node 113 (.node 112 (.leaf 111 (.ir c111)) (.leaf 112 (.ir c112))) (.node 114 (.leaf 113 (.ir c113)) (.leaf 114 (.ir c114)))) (.node 117 (.node 116 (.leaf 115 (.ir c115)) (.leaf 116 (.ir c116))) (.node 132 (.leaf 117 (.ir c117)) (.node 133 (.leaf 132 (.ir c132)) (.leaf 133 (.ir c133)))))) (.node 140 (.node 137 (.node 136 (.leaf 135 (.ir c135)) (.leaf 136 (.ir c136))) (.node 138 (.leaf 137 (.ir c137)) (.node 139 (.leaf 138 (.ir c138)) (.leaf 139 (.ir c139))))) (.node 142 (.node 141 (.leaf 140 (.ir c140)) (.leaf 141 (.ir c141))) (.node 144 (.leaf 142 (.ir c142)) (.node 145 (.leaf 144 (.ir c144)) (.leaf 145 (.ir c145))))))) (.node 159 (.node 151 (.node 148 (.node 147 (.leaf 146 (.ir c146)) (.leaf 147 (.ir c147))) (.node 149 (.leaf 148 (.ir c148)) (.node 150 (.leaf 149 (.ir c149)) (.leaf 150 (.ir c150))))) (.node 155 (.node 152 (.leaf 151 (.ir c151)) (.leaf 152 (.ir c152))) (.node 156 (.leaf 155 (.ir c155)) (.node 157 (.leaf 156 (.ir c156)) (.leaf 157 (.ir c157)))))) (.node 164 (.node 161 (.node 160 (.leaf 159 (.ir c159)) (.leaf 160 (.ir c160))) (.node 162 (.leaf 161 (.ir c161)) (.node 163 (.leaf 162 (.ir c162)) (.leaf 163 (.ir c163))))) (.node 166 (.node 165 (.leaf 164 (.ir c164)) (.leaf 165 (.ir c165))) (.node 167 (.leaf 166 (.ir c166)) (.node 168 (.leaf 167 (.ir c167)) (.leaf 168 (.ir c168)))))))) (.node 206 (.node 190 (.node 184 (.node 171 (.node 170 (.leaf 169 (.prim (pInsert 2))) (.leaf 170 (.ir c170))) (.node 172 (.leaf 171 (.ir c171)) (.leaf 172 (.prim pIndex)))) (.node 186 (.node 185 (.leaf 184 (.ir c184)) (.leaf 185 (.ir c185))) (.node 187 (.leaf 186 (.ir c186)) (.node 189 (.leaf 187 (.ir c187)) (.leaf 189 (.ir c189)))))) (.node 196 (.node 192 (.node 191 (.leaf 190 (.ir c190)) (.leaf 191 (.ir c191))) (.node 193 (.leaf 192 (.ir c192)) (.node 194 (.leaf 193 (.ir c193)) (.leaf 194 (.ir c194))))) (.node 198 (.node 197 (.leaf 196 (.ir c196)) (.leaf 197 (.ir c197))) (.node 202 (.leaf 198 (.ir c198)) (.node 203 (.leaf 202 (.ir c202)) (.leaf 203 (.ir c203))))))) (.node 228 (.node 217 (.node 208 (.node 207 (.leaf 206 (.ir c206)) (.leaf 207 (.ir c207))) (.node 209 (.leaf 208 (.ir c208)) (.node 216 (.leaf 209 (.ir c209)) (.leaf 216 (.ir c216))))) (.node 224 (.node 219 (.leaf 217 (.ir c217)) (.leaf 219 (.prim pIndexByte))) (.node 226 (.leaf 224 (.ir c224)) (.node 227 (.leaf 226 (.ir c226)) (.leaf 227 (.ir c227)))))) (.node 238 (.node 231 (.node 229 (.leaf 228 (.ir c228)) (.leaf 229 (.ir c229))) (.node 234 (.leaf 231 (.ir c231)) (.node 235 (.leaf 234 (.ir c234)) (.leaf 235 (.ir c235))))) (.node 242 (.node 239 (.leaf 238 (.ir c238)) (.leaf 239 (.prim (pInsert 4)))) (.node 252 (.leaf 242 (.ir c242)) (.node 255 (.leaf 252 (.ir c252)) (.leaf 255 (.ir c255))))))))))
theorem mixed : Tryz.prog.follows .mixedOrders = true := by kernel_rfl
theorem tok (base : Base) (hb : BaseOk base) : TOk Tryz.prog hints base tree.getF := TOk.getF (TOk.of_tree (H := hints) (t := tree) ⟨⟨⟨⟨⟨⟨⟨ok3, ok6⟩, ⟨ok7, ok8⟩⟩, ⟨⟨ok9, ok10⟩, ⟨ok11, ⟨ok12, ok15⟩⟩⟩⟩, ⟨⟨⟨ok16, ok17⟩, ⟨ok18, ⟨ok19, ok20⟩⟩⟩, ⟨⟨ok21, ok22⟩, ⟨ok23, ⟨ok24, ok25⟩⟩⟩⟩⟩, ⟨⟨⟨⟨ok26, ok31⟩, ⟨ok32, ⟨ok35, ok36⟩⟩⟩, ⟨⟨ok37, ok38⟩, ⟨ok40, ⟨ok41, ok42⟩⟩⟩⟩, ⟨⟨⟨ok43, ok44⟩, ⟨ok45, ⟨ok46, ok48⟩⟩⟩, ⟨⟨ok49, ok50⟩, ⟨ok51, ⟨ok52, ok53⟩⟩⟩⟩⟩⟩, ⟨⟨⟨⟨⟨ok54, ok55⟩, ⟨ok56, ok57⟩⟩, ⟨⟨ok58, ok59⟩, ⟨ok60, ⟨ok61, ok62⟩⟩⟩⟩, ⟨⟨⟨ok77, ok78⟩, ⟨ok80, ⟨ok81, ok82⟩⟩⟩, ⟨⟨ok83, ok84⟩, ⟨ok85, ⟨ok86, ok88⟩⟩⟩⟩⟩, ⟨⟨⟨⟨ok89, ok90⟩, ⟨ok91, ⟨ok92, ok94⟩⟩⟩, ⟨⟨ok95, ok96⟩, ⟨ok97, ⟨ok98, ok99⟩⟩⟩⟩, ⟨⟨⟨ok100, ok101⟩, ⟨ok103, ⟨ok104, ok105⟩⟩⟩, ⟨⟨ok106, ok107⟩, ⟨ok108, ⟨ok109, ok110⟩⟩⟩⟩⟩⟩⟩, ⟨⟨⟨⟨⟨⟨ok111, ok112⟩, ⟨ok113, ok114⟩⟩, ⟨⟨ok115, ok116⟩, ⟨ok117, ⟨ok132, ok133⟩⟩⟩⟩, ⟨⟨⟨ok135, ok136⟩, ⟨ok137, ⟨ok138, ok139⟩⟩⟩, ⟨⟨ok140, ok141⟩, ⟨ok142, ⟨ok144, ok145⟩⟩⟩⟩⟩, ⟨⟨⟨⟨ok146, ok147⟩, ⟨ok148, ⟨ok149, ok150⟩⟩⟩, ⟨⟨ok151, ok152⟩, ⟨ok155, ⟨ok156, ok157⟩⟩⟩⟩, ⟨⟨⟨ok159, ok160⟩, ⟨ok161, ⟨ok162, ok163⟩⟩⟩, ⟨⟨ok164, ok165⟩, ⟨ok166, ⟨ok167, ok168⟩⟩⟩⟩⟩⟩, ⟨⟨⟨⟨⟨(ok169 base), ok170⟩, ⟨ok171, (ok172 base hb.max)⟩⟩, ⟨⟨ok184, ok185⟩, ⟨ok186, ⟨ok187, ok189⟩⟩⟩⟩, ⟨⟨⟨ok190, ok191⟩, ⟨ok192, ⟨ok193, ok194⟩⟩⟩, ⟨⟨ok196, ok197⟩, ⟨ok198, ⟨ok202, ok203⟩⟩⟩⟩⟩, ⟨⟨⟨⟨ok206, ok207⟩, ⟨ok208, ⟨ok209, ok216⟩⟩⟩, ⟨⟨ok217, (ok219 base)⟩, ⟨ok224, ⟨ok226, ok227⟩⟩⟩⟩, ⟨⟨⟨ok228, ok229⟩, ⟨ok231, ⟨ok234, ok235⟩⟩⟩, ⟨⟨ok238, (ok239 base)⟩, ⟨ok242, ⟨ok252, ok255⟩⟩⟩⟩⟩⟩⟩⟩)
end Go.Proofs.YtfhhabajfojjoaaGreatDoor.IrB
